import Derived.Test.YtlpdogaifdeomaaGreatFAmY
import Derived.Lib.AppendZerosOnto
import Derived.Lib.Overlaps
import Derived.Laws.IdiomCopy
import Derived.Laws.Externs
import Derived.WalkKit
namespace Go.Proofs.YtlpdogaifdeomaaGreat
open Go.RowKit Go.Lib
set_option linter.unusedSimpArgs false
set_option linter.unusedVariables false
theorem ZdW{P:Program}(w:World)(dT sT ty i7:TypeId)(size g o i9 lZ:Nat)(a:Addr)(ja l5:Nat)(cur:Array Value)(t:TypeId)(cs:List Value)
  (hu:P.underlying dT=some (.slice i7)) (hs:(P.info? i7).map (·.size)=some size) (hn:cs.length=Nat.min ja i9*size)
  (fB:∀j v,cs[j]?=some v->w.cell? (a.add j)=some v) (hg:w.heap[g]?=some (.cells cur t (0,0))) (fX:o+cs.length<=cur.size) (h1:∀v∈cs,v.oneCell'=true) :
  (Builtin.copy_ #[dT,sT] ty #[.slice (some ⟨g,o,none⟩) i9 lZ,.slice (some a) ja l5]).run P w=.ok (goInt (Nat.min ja i9)) (w.setRow g (Zds cur.toList o cs).toArray):=by
 have hl:=run_loadCells_list (P:=P) w a cs fB;have b9:=run_storeCells_at P g o t cs 0 cur w hg (by simpa using fX) h1;cases hq:P.info? i7 with
 |none=>simp[hq]at hs
 |some i=>
  have hi:i.size=size:=by simpa[hq]using hs
  simp[Builtin.copy_,run_underlying hu,Builtin.lenOf,Builtin.firstCells,sizeOf,typeInfo,hq,hi,<-hn,hl,b9,Zds]
theorem ZPA{i j n K:Nat}(hi:i<n)(hj:j<K):i*K+j<n*K:=by
 have:(i+1)*K<=n*K:=Nat.mul_le_mul_right _ hi;rw[Nat.add_mul]at this;omega
def Zkm{α:Type}(S:Nat->Prop)(w:World)(K:Nat)(enc:α->List C)(d:α)(l:List α)(xs:List Value):Prop:=xs.length=l.length*K/\(∀i j,i<l.length->j<K->∃x,xs[i*K+j]?=some x/\RepC S w Zde (Zai enc d l i j) x)/\∀x∈xs,x.oneCell'=true
theorem Zkm.app{α:Type}{S:Nat->Prop}{w:World}{K:Nat}{enc:α->List C}{d:α}{l l':List α}{xs jp:List Value}(h:Zkm S w K enc d l xs)(h':Zkm S w K enc d l' jp):Zkm S w K enc d (l++l') (xs++jp):=by
 obtain⟨a,b,c⟩:=h;obtain⟨a',b',c'⟩:=h';refine⟨by simp[a,a',Nat.add_mul],fun i j hi hj=>?_,fun x hx=>?_⟩
 .simp only[Zai];by_cases h:i<l.length
  .obtain⟨x,h1,h2⟩:=b i j h hj;have:=ZPA h hj;refine⟨x,by rw[List.getElem?_append_left (by omega)];exact h1,?_⟩;simp only[Zai]at h2;rw[show (l++l').getD i d=l.getD i d by simp only[List.getD_eq_getElem?_getD];rw[List.getElem?_append_left h]];exact h2
  .simp only[List.length_append]at hi;obtain⟨x,h1,h2⟩:=b' (i-l.length) j (by omega) hj;have h3:l.length*K<=i*K:=Nat.mul_le_mul_right _ (by omega);refine⟨x,by rw[List.getElem?_append_right (by omega),a,<-h1];congr 1;rw[Nat.sub_mul];omega,?_⟩;simp only[Zai]at h2;rw[show (l++l').getD i d=l'.getD (i-l.length) d by simp only[List.getD_eq_getElem?_getD];rw[List.getElem?_append_right (by omega)]];exact h2
 .rcases List.mem_append.1 hx with h|h
  .exact c x h
  .exact c' x h
theorem Zkm.take{α:Type}{S:Nat->Prop}{w:World}{K:Nat}{enc:α->List C}{d:α}{l:List α}{xs:List Value}(h:Zkm S w K enc d l xs){n:Nat}(hn:n<=l.length):Zkm S w K enc d (l.take n) (xs.take (n*K)):=by
 obtain⟨a,b,c⟩:=h;have hm:n*K<=l.length*K:=Nat.mul_le_mul_right _ hn;refine⟨by simp[a,Nat.min_eq_left hn,Nat.min_eq_left hm],fun i j hi hj=>?_,fun x hx=>c x (List.mem_of_mem_take hx)⟩;simp only[List.length_take]at hi;obtain⟨x,h1,h2⟩:=b i j (by omega) hj;have:=ZPA (show i<n by omega) hj;refine⟨x,by rw[List.getElem?_take,if_pos this];exact h1,?_⟩;simp only[Zai]at h2 ⊢;rw[show (l.take n).getD i d=l.getD i d by simp only[List.getD_eq_getElem?_getD];rw[List.getElem?_take,if_pos (by omega)]];exact h2
theorem Zkm.drop{α:Type}{S:Nat->Prop}{w:World}{K:Nat}{enc:α->List C}{d:α}{l:List α}{xs:List Value}(h:Zkm S w K enc d l xs){n:Nat}(hn:n<=l.length):Zkm S w K enc d (l.drop n) (xs.drop (n*K)):=by
 obtain⟨a,b,c⟩:=h;refine⟨by simp[a,Nat.sub_mul],fun i j hi hj=>?_,fun x hx=>c x (List.mem_of_mem_drop hx)⟩;simp only[List.length_drop]at hi;obtain⟨x,h1,h2⟩:=b (n+i) j (by omega) hj;refine⟨x,by rw[List.getElem?_drop,<-h1];congr 1;rw[Nat.add_mul];omega,?_⟩;simp only[Zai]at h2 ⊢;rw[show (l.drop n).getD i d=l.getD (n+i) d by simp only[List.getD_eq_getElem?_getD];rw[List.getElem?_drop]];exact h2
theorem Zkm.keep{α:Type}{S:Nat->Prop}{w w':World}{K:Nat}{enc:α->List C}{d:α}{l:List α}{xs:List Value}(h:Zkm S w K enc d l xs)(hw:ZgA S w w'):Zkm S w' K enc d l xs:=
 ⟨h.1,fun i j hi hj=>by obtain⟨x,h1,h2⟩:=h.2.1 i j hi hj;exact⟨x,h1,h2.keep hw fun _ h=>h⟩,h.2.2⟩
theorem Zkm.of{α:Type}{S:Nat->Prop}{w:World}{m:Mp}{mb:Value}{E:TypeId}{K:Nat}{enc:α->List C}{d:α}{l:List α}(h:RepB S w m mb (.rows E K l.length (Zai enc d l))) :
  ∃xs,w.ownsRow 0 E K mb l.length xs/\Zkm S w K enc d l xs:=by
 obtain⟨xs,h1,h2,h3⟩:=h;exact⟨xs,h1,h1.1,h2,h3⟩
theorem ZtB{α:Type}{no S:Nat->Prop}{m:Mp}{w w':World}{E:TypeId}{K:Nat}{enc:α->List C}{d:α}{l:List α}{xs:List Value}{v:Value}(hS:∀b,S b->b<w.heap.size)(bu:∀k,no k->k<w.heap.size)
  (bk:w'.ownsRow 0 E K v l.length xs) (dt:Zkm S w K enc d l xs) (hb:Bel no w w') (du:ZgA S w w') (j3:∀k,v.ownBlock=some k->¬S k/\¬no k/\k<w'.heap.size) (hL:∀b,m.L b->no b) :
  ∃x S' m',Ending.returned v=.returned x/\Goes no S S' w w'/\(∀b,S' b->b<w'.heap.size)/\Zsk no S' m' [(99999,.rows E K l.length (Zai enc d l))] w'/\RepV S' w' m' (.one (.osl 99999 l.length)) x/\Pins m' m:=by
 have hget:∀{b:B}{id:Nat},hget [(99999,B.rows E K l.length (Zai enc d l))] id=some b->id=99999/\b=.rows E K l.length (Zai enc d l):=by
  intro b id h;rw[Zbh]at h;split at h
  .rename_i e;cases h;exact⟨e.symm,rfl⟩
  .cases h
 obtain⟨fY,av,cv,rfl,hle⟩:=ZEs bk;have gJ:l.length=0\/∃b,av=some ⟨b,0,none⟩:=by
  rcases bk.2 with⟨h3,h4⟩|⟨g,gR,cur,h3,_⟩
  .exact .inl h4
  .cases h3;exact .inr ⟨g,rfl⟩
 refine⟨_,S,⟨fun id=>if id=99999 then .slice av l.length cv else m id,m.L⟩,rfl,⟨hb,fun _ h=>h,fun _ h=>.inl h⟩,fun b h=>Nat.lt_of_lt_of_le (hS b h) hb.size,⟨fun id b' h=>?_,fun id b' h k hk=>?_,fun i j b1 b2 hne h1 h2=>?_,hL⟩,RepC.osl (by simp) gJ hle,fun id hid=>by simp only[Zpq]at hid;show (if id=99999 then _ else _)=_;rw[if_neg (by omega)],rfl⟩
 .obtain⟨rfl,rfl⟩:=hget h;exact⟨xs,bk,fun i j hi hj=>(dt.keep du).2.1 i j hi hj,dt.2.2⟩
 .obtain⟨rfl,rfl⟩:=hget h;exact j3 k (by rw[fY];exact hk)
 .exact absurd ((hget h1).1.trans (hget h2).1.symm) hne
theorem ZEt{S:Nat->Prop}{w:World}{m:Mp}{id n:Nat}{x:Value}(h:RepC S w m (.osl id n) x):x=m id/\∃a c,x=.slice a n c:=by
 cases h with
 |osl h h0 _=>exact⟨h.symm,_,_,rfl⟩
theorem ZrH{α:Type}{P:Program}{F:FuncId}{S E:TypeId}{K BY:Nat}{i0:TypeInfo}{z:Value}(hf:FnOk P F)(hu:P.underlying S=some (.slice E))(hi0:P.info? E=some i0)(hz:i0.zero=some z)(aW:i0.size=K)(kF:i0.bytes=BY)(bS:z.cells.size=K)(hK:0<K)
  (shift:∀(b n c i vb m vc:Nat)(cur aC:Array Value)(w:World),i<n->0<m->n+m<=c->c<=maxLen->vb≠b->w.heap[b]?=some (.cells cur E (0,0))->cur.size=c*K->w.heap[vb]?=some (.cells aC E (0,0))->m<=vc->aC.size=vc*K ->
   (∀v∈cur.toList.take (n*K),v.oneCell'=true)->(∀v∈aC.toList.take (m*K),v.oneCell'=true) ->
   Calls P F #[.slice (some ⟨b,0,none⟩) n c,.int .i64 i,.slice (some ⟨vb,0,none⟩) m vc] w fun e w'=>
    ∃R:Array Value,e=.returned (.slice (some ⟨b,0,none⟩) (n+m) c)/\w.drawn<=w'.drawn/\w.grownBy w' (some b)/\w'.heap[b]?=some (.cells R E (0,0))/\R.size=c*K /\
     R.toList.take ((n+m)*K)=cur.toList.take (i*K)++aC.toList.take (m*K)++(cur.toList.drop (i*K)).take ((n-i)*K))
  (grow:∀(b n c i vb m vc:Nat)(cur aC:Array Value)(w:World),i<n->0<m->n<=c->c<n+m->(n+m)*BY<=140737488355328->w.heap[b]?=some (.cells cur E (0,0))->cur.size=c*K->w.heap[vb]?=some (.cells aC E (0,0))->m<=vc->aC.size=vc*K ->
   (∀v∈cur.toList.take (n*K),v.oneCell'=true)->(∀v∈aC.toList.take (m*K),v.oneCell'=true) ->
   Calls P F #[.slice (some ⟨b,0,none⟩) n c,.int .i64 i,.slice (some ⟨vb,0,none⟩) m vc] w fun e w'=>
    ∃(G:Nat)(R:Array Value),e=.returned (.slice (some ⟨w.heap.size,0,none⟩) (n+m) G)/\w.drawn<=w'.drawn/\Below w.heap.size w w'/\w'.heap[w.heap.size]?=some (.cells R E (0,0))/\n+m<=G/\G<=maxLen/\R.size=G*K /\
     R.toList.take ((n+m)*K)=cur.toList.take (i*K)++aC.toList.take (m*K)++(cur.toList.drop (i*K)).take ((n-i)*K))
  (fin:∀(a8:Option Addr)(n c vb m vc:Nat)(w w':World)(v':Value),n<=c->c<=maxLen->0<m->(a8=none->n=0)->m<=maxLen ->
   (∀ty,(Builtin.append_ #[S,S] ty #[.slice a8 n c,.slice (some ⟨vb,0,none⟩) m vc]).run P w=.ok v' w') ->
   Calls P F #[.slice a8 n c,.int .i64 n,.slice (some ⟨vb,0,none⟩) m vc] w fun e w1=>e=.returned v'/\w'=w1)
  {enc:α->List C} {d:α} (l v:List α) (i:Nat) (hi:i<=l.length) (hv:0<v.length) (hb:(l.length+v.length)*BY<=140737488355328) (kG:l.length+v.length<=maxLen) :
  Zdh P F [(100000,.rows E K l.length (Zai enc d l)),(100001,.rows E K v.length (Zai enc d v))] [.one (.osl 100000 l.length),.one (.lit (.int .i64 (i:Int))),.one (.osl 100001 v.length)]
   [(99999,.rows E K (l.take i++v++l.drop i).length (Zai enc d (l.take i++v++l.drop i)))] (.one (.osl 99999 (l.take i++v++l.drop i).length)):=by
 refine⟨hf,fun no S' m w vs hS bu hrep hra=>?_⟩;obtain⟨hl,hra⟩:=hra;obtain⟨x0,gV,jv⟩:=hra 0 _ rfl;obtain⟨x1,gl,l6⟩:=hra 1 _ rfl;obtain⟨x2,dR,fW⟩:=hra 2 _ rfl;have bW:vs=[x0,x1,x2]:=by
  match vs,hl with
  | [a,b,c],_=>simp at gV gl dR;rw[gV,gl,dR]
 subst bW;have e1:x1=.int .i64 (i:Int):=by cases l6;rfl
 subst e1;obtain⟨e0,a0,c0,q0⟩:=ZEt jv;obtain⟨e2,a2,c2,q2⟩:=ZEt fW;have g0:hget [(100000,B.rows E K l.length (Zai enc d l)),(100001,B.rows E K v.length (Zai enc d v))] 100000=some (.rows E K l.length (Zai enc d l)):=rfl;have g2:hget [(100000,B.rows E K l.length (Zai enc d l)),(100001,B.rows E K v.length (Zai enc d v))] 100001=some (.rows E K v.length (Zai enc d v)):=rfl;obtain⟨xs,cV,fH⟩:=Zkm.of (hrep.rep _ _ g0);obtain⟨ys,g6,jb⟩:=Zkm.of (hrep.rep _ _ g2);have c9:=hrep.own _ _ g0;have j4:=hrep.own _ _ g2;have gq:=hrep.inj _ _ _ _ (by decide) g0 g2;rw[<-e0]at cV c9 gq;rw[<-e2]at g6 j4 gq;have hxl:=cV.1;have hyl:=g6.1;have jw:(l.take i++v++l.drop i).length=l.length+v.length:=by simp;omega
 have dD:Zkm S' w K enc d (l.take i++v++l.drop i) (xs.take (i*K)++ys++xs.drop (i*K)):=((fH.take hi).app jb).app (fH.drop hi)
 -- the literal's block
 obtain⟨vb,vc,aC,h1,hgv,fR,jc,bW,hyt⟩ : ∃vb vc aC,x2=.slice (some ⟨vb,0,none⟩) v.length vc/\w.heap[vb]?=some (.cells aC E (0,0))/\v.length<=vc/\vc<=maxLen/\aC.size=vc*K/\aC.toList.take (v.length*K)=ys:=by
  rcases g6.2 with⟨_,h⟩|⟨g,cap,cur,h1,_,h2,h3,h4,h5,h6⟩
  .omega
  .exact⟨g,cap,cur,h1,h2,h3,h4,h5,h6⟩
 subst h1;have im:∀u∈aC.toList.take (v.length*K),u.oneCell'=true:=by rw[hyt];exact jb.2.2
 by_cases hend:i=l.length
 .-- at the end
  subst hend;have l7:∀ty,∃v' w',(Builtin.append_ #[S,S] ty #[x0,.slice (some ⟨vb,0,none⟩) v.length vc]).run P w=.ok v' w'/\w'.ownsRow 0 E K v' (l.length+v.length) (xs++ys)/\w.grownBy w' x0.ownBlock/\(v'.ownBlock=x0.ownBlock\/∀k,v'.ownBlock=some k->w.heap.size<=k)/\w.drawn<=w'.drawn:=fun ty=>
   Ztj w S ty E i0 z K BY hu hi0 hz aW kF bS hK x0 l.length xs cV ⟨vb,0,none⟩ v.length vc ys hyl (fun j u hj=>g6.cells (g:=vb) rfl j u hj) jb.2.2 kG hb
  obtain⟨v',w',hrun,c5,bA,jd,cO⟩:=l7 0;have g7:∀ty,(Builtin.append_ #[S,S] ty #[x0,.slice (some ⟨vb,0,none⟩) v.length vc]).run P w=.ok v' w':=fun ty=>hrun;have l8:=c5.lt;have j5:Calls P F #[x0,.int .i64 (l.length:Int),.slice (some ⟨vb,0,none⟩) v.length vc] w fun e w1=>e=.returned v'/\w'=w1:=by
   subst q0;refine fin a0 l.length c0 vb v.length vc w w' v' ?_ ?_ hv ?_ (Nat.le_trans fR jc) g7
   .rcases cV.2 with⟨h,h0⟩|⟨g,cap,cur,h1,_,h2,h3,h4,_⟩
    .injection h with _ _ h5;omega
    .cases h1;exact h3
   .rcases cV.2 with⟨h,h0⟩|⟨g,cap,cur,h1,_,h2,h3,h4,_⟩
    .injection h with _ _ h5;rw[h5];simp[maxLen]
    .cases h1;exact h4
   .rintro rfl;rcases cV.2 with⟨h,h0⟩|⟨g,cap,cur,h1,_⟩
    .exact h0
    .cases h1
  refine j5.mono ?_;rintro e w1 ⟨rfl,rfl⟩;have jx:xs.take (l.length*K)++ys++xs.drop (l.length*K)=xs++ys:=by rw[<-hxl];simp
  have hne:∀k,x0.ownBlock=some k->¬S' k/\¬no k/\k<w.heap.size:=by
   intro k hk;exact c9 k (by subst q0;cases a0<;>simp[Value.ownBlock]at hk<;>simp[blk,hk])
  refine ZtB (hL:=hrep.lno) hS bu (by rw[jw];exact c5) (by rw[jx]at dD;exact dD) ⟨bA.os,bA.tape,bA.output,bA.size,fun k hk=>bA.block k (bu k hk) (fun h=>(hne k h.symm).2.1 hk),cO⟩ (fun k hk=>bA.block k (hS k hk) (fun h=>(hne k h.symm).1 hk)) ?_;intro k hk;rcases jd with h|h
  .rw[h]at hk;exact⟨(hne k hk).1,(hne k hk).2.1,Nat.lt_of_lt_of_le (hne k hk).2.2 bA.size⟩
  .have h2:=h k hk;exact⟨fun hs=>by have:=hS k hs;omega,fun hs=>by have:=bu k hs;omega,(l8 k hk).2⟩
 .have l9:i<l.length:=by omega
  obtain⟨b,c,cur,h1,jy,fU,gT,dz,jx⟩ : ∃b c cur,x0=.slice (some ⟨b,0,none⟩) l.length c/\w.heap[b]?=some (.cells cur E (0,0))/\l.length<=c/\c<=maxLen/\cur.size=c*K/\cur.toList.take (l.length*K)=xs:=by
   rcases cV.2 with⟨_,h⟩|⟨g,cap,cur,h1,_,h2,h3,h4,h5,h6⟩
   .omega
   .exact⟨g,cap,cur,h1,h2,h3,h4,h5,h6⟩
  subst h1;have io:∀u∈cur.toList.take (l.length*K),u.oneCell'=true:=by rw[jx];exact fH.2.2
  have hbv:vb≠b:=fun h=>gq b rfl (by rw[h];rfl);have g8:=c9 b rfl;have hik:i*K<=l.length*K:=Nat.mul_le_mul_right _ hi;have gu:cur.toList.take (i*K)++aC.toList.take (v.length*K)++(cur.toList.drop (i*K)).take ((l.length-i)*K)=xs.take (i*K)++ys++xs.drop (i*K):=by
   rw[hyt,<-jx,List.take_take,Nat.min_eq_left hik,List.drop_take,Nat.sub_mul]
  by_cases hroom:l.length+v.length<=c
  .refine(shift b l.length c i vb v.length vc cur aC w l9 hv hroom gT hbv jy dz hgv fR bW io im).mono ?_;rintro e w' ⟨R,rfl,cO,bA,hat,hRs,hRt⟩;rw[gu]at hRt;refine ZtB (hL:=hrep.lno) hS bu (by rw[jw];exact⟨by rw[dD.1,jw],.inr ⟨b,c,R,rfl,Nat.zero_le _,hat,hroom,gT,hRs,hRt⟩⟩) dD ⟨bA.os,bA.tape,bA.output,bA.size,fun k hk=>bA.block k (bu k hk) (fun h=>g8.2.1 (by cases h;exact hk)),cO⟩ (fun k hk=>bA.block k (hS k hk) (fun h=>g8.1 (by cases h;exact hk))) ?_;intro k hk;cases hk;exact⟨g8.1,g8.2.1,Nat.lt_of_lt_of_le g8.2.2 bA.size⟩
  .refine(grow b l.length c i vb v.length vc cur aC w l9 hv fU (by omega) hb jy dz hgv fR bW io im).mono ?_;rintro e w' ⟨G,R,rfl,cO,hbl,hat,hGn,hGm,hRs,hRt⟩;rw[gu]at hRt;refine ZtB (hL:=hrep.lno) hS bu (by rw[jw];exact⟨by rw[dD.1,jw],.inr ⟨w.heap.size,G,R,rfl,Nat.zero_le _,hat,hGn,hGm,hRs,hRt⟩⟩) dD ⟨hbl.os,hbl.tape,hbl.output,hbl.size,fun k hk=>hbl.block k (bu k hk),cO⟩ (fun k hk=>hbl.block k (hS k hk)) ?_;intro k hk;obtain rfl:w.heap.size=k:=Option.some.inj hk;exact⟨fun hs=>Nat.lt_irrefl _ (hS _ hs),fun hs=>Nat.lt_irrefl _ (bu _ hs),(Array.getElem?_eq_some_iff.1 hat).1⟩
end Go.Proofs.YtlpdogaifdeomaaGreat
