import Derived.Test.YtmnloegcpaahcaaGreatCAmY
import Derived.Lib.AppendZerosOnto
import Derived.Lib.Overlaps
import Derived.Laws.IdiomCopy
import Derived.Laws.Externs
import Derived.WalkKit
namespace Go.Proofs.YtmnloegcpaahcaaGreat
open Go.RowKit Go.Lib
set_option linter.unusedSimpArgs false
set_option linter.unusedVariables false
theorem Zmi{P:Program}(w:World)(dT sT ty g8:TypeId)(size g o g9 k8:Nat)(a:Addr)(hC k9:Nat)(cur:Array Value)(t:TypeId)(cs:List Value)
  (hu:P.underlying dT=some (.slice g8)) (hs:(P.info? g8).map (·.size)=some size) (hn:cs.length=Nat.min hC g9*size)
  (dP:∀j v,cs[j]?=some v->w.cell? (a.add j)=some v) (hg:w.heap[g]?=some (.cells cur t (0,0))) (er:o+cs.length<=cur.size) (h1:∀v∈cs,v.oneCell'=true) :
  (Builtin.copy_ #[dT,sT] ty #[.slice (some ⟨g,o,none⟩) g9 k8,.slice (some a) hC k9]).run P w=.ok (goInt (Nat.min hC g9)) (w.setRow g (ZhC cur.toList o cs).toArray):=by
 have hl:=run_loadCells_list (P:=P) w a cs dP;have bM:=run_storeCells_at P g o t cs 0 cur w hg (by simpa using er) h1;cases hq:P.info? g8 with
 |none=>simp[hq]at hs
 |some i=>
  have hi:i.size=size:=by simpa[hq]using hs
  simp[Builtin.copy_,run_underlying hu,Builtin.lenOf,Builtin.firstCells,sizeOf,typeInfo,hq,hi,<-hn,hl,bM,ZhC]
theorem ZJs{i j n K:Nat}(hi:i<n)(hj:j<K):i*K+j<n*K:=by
 have:(i+1)*K<=n*K:=Nat.mul_le_mul_right _ hi;rw[Nat.add_mul]at this;omega
def ZkW{α:Type}(S:Nat->Prop)(w:World)(K:Nat)(enc:α->List C)(d:α)(l:List α)(xs:List Value):Prop:=xs.length=l.length*K/\(∀i j,i<l.length->j<K->∃x,xs[i*K+j]?=some x/\RepC S w Zdd (Zal enc d l i j) x)/\∀x∈xs,x.oneCell'=true
theorem ZkW.app{α:Type}{S:Nat->Prop}{w:World}{K:Nat}{enc:α->List C}{d:α}{l l':List α}{xs iu:List Value}(h:ZkW S w K enc d l xs)(h':ZkW S w K enc d l' iu):ZkW S w K enc d (l++l') (xs++iu):=by
 obtain⟨a,b,c⟩:=h;obtain⟨a',b',c'⟩:=h';refine⟨by simp[a,a',Nat.add_mul],fun i j hi hj=>?_,fun x hx=>?_⟩
 .simp only[Zal];by_cases h:i<l.length
  .obtain⟨x,h1,h2⟩:=b i j h hj;have:=ZJs h hj;refine⟨x,by rw[List.getElem?_append_left (by omega)];exact h1,?_⟩;simp only[Zal]at h2;rw[show (l++l').getD i d=l.getD i d by simp only[List.getD_eq_getElem?_getD];rw[List.getElem?_append_left h]];exact h2
  .simp only[List.length_append]at hi;obtain⟨x,h1,h2⟩:=b' (i-l.length) j (by omega) hj;have h3:l.length*K<=i*K:=Nat.mul_le_mul_right _ (by omega);refine⟨x,by rw[List.getElem?_append_right (by omega),a,<-h1];congr 1;rw[Nat.sub_mul];omega,?_⟩;simp only[Zal]at h2;rw[show (l++l').getD i d=l'.getD (i-l.length) d by simp only[List.getD_eq_getElem?_getD];rw[List.getElem?_append_right (by omega)]];exact h2
 .rcases List.mem_append.1 hx with h|h
  .exact c x h
  .exact c' x h
theorem ZkW.take{α:Type}{S:Nat->Prop}{w:World}{K:Nat}{enc:α->List C}{d:α}{l:List α}{xs:List Value}(h:ZkW S w K enc d l xs){n:Nat}(hn:n<=l.length):ZkW S w K enc d (l.take n) (xs.take (n*K)):=by
 obtain⟨a,b,c⟩:=h;have hm:n*K<=l.length*K:=Nat.mul_le_mul_right _ hn;refine⟨by simp[a,Nat.min_eq_left hn,Nat.min_eq_left hm],fun i j hi hj=>?_,fun x hx=>c x (List.mem_of_mem_take hx)⟩;simp only[List.length_take]at hi;obtain⟨x,h1,h2⟩:=b i j (by omega) hj;have:=ZJs (show i<n by omega) hj;refine⟨x,by rw[List.getElem?_take,if_pos this];exact h1,?_⟩;simp only[Zal]at h2 ⊢;rw[show (l.take n).getD i d=l.getD i d by simp only[List.getD_eq_getElem?_getD];rw[List.getElem?_take,if_pos (by omega)]];exact h2
theorem ZkW.drop{α:Type}{S:Nat->Prop}{w:World}{K:Nat}{enc:α->List C}{d:α}{l:List α}{xs:List Value}(h:ZkW S w K enc d l xs){n:Nat}(hn:n<=l.length):ZkW S w K enc d (l.drop n) (xs.drop (n*K)):=by
 obtain⟨a,b,c⟩:=h;refine⟨by simp[a,Nat.sub_mul],fun i j hi hj=>?_,fun x hx=>c x (List.mem_of_mem_drop hx)⟩;simp only[List.length_drop]at hi;obtain⟨x,h1,h2⟩:=b (n+i) j (by omega) hj;refine⟨x,by rw[List.getElem?_drop,<-h1];congr 1;rw[Nat.add_mul];omega,?_⟩;simp only[Zal]at h2 ⊢;rw[show (l.drop n).getD i d=l.getD (n+i) d by simp only[List.getD_eq_getElem?_getD];rw[List.getElem?_drop]];exact h2
theorem ZkW.keep{α:Type}{S:Nat->Prop}{w w':World}{K:Nat}{enc:α->List C}{d:α}{l:List α}{xs:List Value}(h:ZkW S w K enc d l xs)(hw:ZgC S w w'):ZkW S w' K enc d l xs:=
 ⟨h.1,fun i j hi hj=>by obtain⟨x,h1,h2⟩:=h.2.1 i j hi hj;exact⟨x,h1,h2.keep hw fun _ h=>h⟩,h.2.2⟩
theorem ZkW.of{α:Type}{S:Nat->Prop}{w:World}{m:Mp}{mb:Value}{E:TypeId}{K:Nat}{enc:α->List C}{d:α}{l:List α}(h:RepB S w m mb (.rows E K l.length (Zal enc d l))) :
  ∃xs,w.ownsRow 0 E K mb l.length xs/\ZkW S w K enc d l xs:=by
 obtain⟨xs,h1,h2,h3⟩:=h;exact⟨xs,h1,h1.1,h2,h3⟩
theorem Ztu{α:Type}{no S:Nat->Prop}{m:Mp}{w w':World}{E:TypeId}{K:Nat}{enc:α->List C}{d:α}{l:List α}{xs:List Value}{v:Value}(hS:∀b,S b->b<w.heap.size)(bg:∀k,no k->k<w.heap.size)
  (aZ:w'.ownsRow 0 E K v l.length xs) (cu:ZkW S w K enc d l xs) (hb:Bel no w w') (cC:ZgC S w w') (je:∀k,v.ownBlock=some k->¬S k/\¬no k/\k<w'.heap.size) (hL:∀b,m.L b->no b) :
  ∃x S' m',Ending.returned v=.returned x/\Goes no S S' w w'/\(∀b,S' b->b<w'.heap.size)/\ZtR no S' m' [(99999,.rows E K l.length (Zal enc d l))] w'/\RepV S' w' m' (.one (.osl 99999 l.length)) x/\Pins m' m:=by
 have hget:∀{b:B}{id:Nat},hget [(99999,B.rows E K l.length (Zal enc d l))] id=some b->id=99999/\b=.rows E K l.length (Zal enc d l):=by
  intro b id h;rw[Zbw]at h;split at h
  .rename_i e;cases h;exact⟨e.symm,rfl⟩
  .cases h
 obtain⟨ev,av,cv,rfl,hle⟩:=ZBo aZ;have fo:l.length=0\/∃b,av=some ⟨b,0,none⟩:=by
  rcases aZ.2 with⟨h3,h4⟩|⟨g,fI,cur,h3,_⟩
  .exact .inl h4
  .cases h3;exact .inr ⟨g,rfl⟩
 refine⟨_,S,⟨fun id=>if id=99999 then .slice av l.length cv else m id,m.L⟩,rfl,⟨hb,fun _ h=>h,fun _ h=>.inl h⟩,fun b h=>Nat.lt_of_lt_of_le (hS b h) hb.size,⟨fun id b' h=>?_,fun id b' h k hk=>?_,fun i j b1 b2 hne h1 h2=>?_,hL⟩,RepC.osl (by simp) fo hle,fun id hid=>by simp only[ZoR]at hid;show (if id=99999 then _ else _)=_;rw[if_neg (by omega)],rfl⟩
 .obtain⟨rfl,rfl⟩:=hget h;exact⟨xs,aZ,fun i j hi hj=>(cu.keep cC).2.1 i j hi hj,cu.2.2⟩
 .obtain⟨rfl,rfl⟩:=hget h;exact je k (by rw[ev];exact hk)
 .exact absurd ((hget h1).1.trans (hget h2).1.symm) hne
theorem ZGc{S:Nat->Prop}{w:World}{m:Mp}{id n:Nat}{x:Value}(h:RepC S w m (.osl id n) x):x=m id/\∃a c,x=.slice a n c:=by
 cases h with
 |osl h h0 _=>exact⟨h.symm,_,_,rfl⟩
theorem ZBA{α:Type}{P:Program}{F:FuncId}{S E:TypeId}{K BY:Nat}{i0:TypeInfo}{z:Value}(hf:FnOk P F)(hu:P.underlying S=some (.slice E))(hi0:P.info? E=some i0)(hz:i0.zero=some z)(aQ:i0.size=K)(jW:i0.bytes=BY)(cf:z.cells.size=K)(hK:0<K)
  (shift:∀(b n c i vb m vc:Nat)(cur aO:Array Value)(w:World),i<n->0<m->n+m<=c->c<=maxLen->vb≠b->w.heap[b]?=some (.cells cur E (0,0))->cur.size=c*K->w.heap[vb]?=some (.cells aO E (0,0))->m<=vc->aO.size=vc*K ->
   (∀v∈cur.toList.take (n*K),v.oneCell'=true)->(∀v∈aO.toList.take (m*K),v.oneCell'=true) ->
   Calls P F #[.slice (some ⟨b,0,none⟩) n c,.int .i64 i,.slice (some ⟨vb,0,none⟩) m vc] w fun e w'=>
    ∃R:Array Value,e=.returned (.slice (some ⟨b,0,none⟩) (n+m) c)/\w.drawn<=w'.drawn/\w.grownBy w' (some b)/\w'.heap[b]?=some (.cells R E (0,0))/\R.size=c*K /\
     R.toList.take ((n+m)*K)=cur.toList.take (i*K)++aO.toList.take (m*K)++(cur.toList.drop (i*K)).take ((n-i)*K))
  (grow:∀(b n c i vb m vc:Nat)(cur aO:Array Value)(w:World),i<n->0<m->n<=c->c<n+m->(n+m)*BY<=140737488355328->w.heap[b]?=some (.cells cur E (0,0))->cur.size=c*K->w.heap[vb]?=some (.cells aO E (0,0))->m<=vc->aO.size=vc*K ->
   (∀v∈cur.toList.take (n*K),v.oneCell'=true)->(∀v∈aO.toList.take (m*K),v.oneCell'=true) ->
   Calls P F #[.slice (some ⟨b,0,none⟩) n c,.int .i64 i,.slice (some ⟨vb,0,none⟩) m vc] w fun e w'=>
    ∃(G:Nat)(R:Array Value),e=.returned (.slice (some ⟨w.heap.size,0,none⟩) (n+m) G)/\w.drawn<=w'.drawn/\Below w.heap.size w w'/\w'.heap[w.heap.size]?=some (.cells R E (0,0))/\n+m<=G/\G<=maxLen/\R.size=G*K /\
     R.toList.take ((n+m)*K)=cur.toList.take (i*K)++aO.toList.take (m*K)++(cur.toList.drop (i*K)).take ((n-i)*K))
  (fin:∀(bh:Option Addr)(n c vb m vc:Nat)(w w':World)(v':Value),n<=c->c<=maxLen->0<m->(bh=none->n=0)->m<=maxLen ->
   (∀ty,(Builtin.append_ #[S,S] ty #[.slice bh n c,.slice (some ⟨vb,0,none⟩) m vc]).run P w=.ok v' w') ->
   Calls P F #[.slice bh n c,.int .i64 n,.slice (some ⟨vb,0,none⟩) m vc] w fun e w1=>e=.returned v'/\w'=w1)
  {enc:α->List C} {d:α} (l v:List α) (i:Nat) (hi:i<=l.length) (hv:0<v.length) (hb:(l.length+v.length)*BY<=140737488355328) (jX:l.length+v.length<=maxLen) :
  ZcP P F [(100000,.rows E K l.length (Zal enc d l)),(100001,.rows E K v.length (Zal enc d v))] [.one (.osl 100000 l.length),.one (.lit (.int .i64 (i:Int))),.one (.osl 100001 v.length)]
   [(99999,.rows E K (l.take i++v++l.drop i).length (Zal enc d (l.take i++v++l.drop i)))] (.one (.osl 99999 (l.take i++v++l.drop i).length)):=by
 refine⟨hf,fun no S' m w vs hS bg hrep hra=>?_⟩;obtain⟨hl,hra⟩:=hra;obtain⟨x0,iv,j5⟩:=hra 0 _ rfl;obtain⟨x1,gx,hr1⟩:=hra 1 _ rfl;obtain⟨x2,c4,eq⟩:=hra 2 _ rfl;have bQ:vs=[x0,x1,x2]:=by
  match vs,hl with
  | [a,b,c],_=>simp at iv gx c4;rw[iv,gx,c4]
 subst bQ;have e1:x1=.int .i64 (i:Int):=by cases hr1;rfl
 subst e1;obtain⟨e0,a0,c0,q0⟩:=ZGc j5;obtain⟨e2,a2,c2,q2⟩:=ZGc eq;have g0:hget [(100000,B.rows E K l.length (Zal enc d l)),(100001,B.rows E K v.length (Zal enc d v))] 100000=some (.rows E K l.length (Zal enc d l)):=rfl;have g2:hget [(100000,B.rows E K l.length (Zal enc d l)),(100001,B.rows E K v.length (Zal enc d v))] 100001=some (.rows E K v.length (Zal enc d v)):=rfl;obtain⟨xs,dD,hH⟩:=ZkW.of (hrep.rep _ _ g0);obtain⟨ys,fX,hP⟩:=ZkW.of (hrep.rep _ _ g2);have eP:=hrep.own _ _ g0;have jf:=hrep.own _ _ g2;have eQ:=hrep.inj _ _ _ _ (by decide) g0 g2;rw[<-e0]at dD eP eQ;rw[<-e2]at fX jf eQ;have hxl:=dD.1;have hyl:=fX.1;have jg:(l.take i++v++l.drop i).length=l.length+v.length:=by simp;omega
 have cG:ZkW S' w K enc d (l.take i++v++l.drop i) (xs.take (i*K)++ys++xs.drop (i*K)):=((hH.take hi).app hP).app (hH.drop hi)
 -- the literal's block
 obtain⟨vb,vc,aO,h1,hgv,eh,la,bQ,hyt⟩ : ∃vb vc aO,x2=.slice (some ⟨vb,0,none⟩) v.length vc/\w.heap[vb]?=some (.cells aO E (0,0))/\v.length<=vc/\vc<=maxLen/\aO.size=vc*K/\aO.toList.take (v.length*K)=ys:=by
  rcases fX.2 with⟨_,h⟩|⟨g,cap,cur,h1,_,h2,h3,h4,h5,h6⟩
  .omega
  .exact⟨g,cap,cur,h1,h2,h3,h4,h5,h6⟩
 subst h1;have gy:∀u∈aO.toList.take (v.length*K),u.oneCell'=true:=by rw[hyt];exact hP.2.2
 by_cases hend:i=l.length
 .-- at the end
  subst hend;have lc:∀ty,∃v' w',(Builtin.append_ #[S,S] ty #[x0,.slice (some ⟨vb,0,none⟩) v.length vc]).run P w=.ok v' w'/\w'.ownsRow 0 E K v' (l.length+v.length) (xs++ys)/\w.grownBy w' x0.ownBlock/\(v'.ownBlock=x0.ownBlock\/∀k,v'.ownBlock=some k->w.heap.size<=k)/\w.drawn<=w'.drawn:=fun ty=>
   Ztg w S ty E i0 z K BY hu hi0 hz aQ jW cf hK x0 l.length xs dD ⟨vb,0,none⟩ v.length vc ys hyl (fun j u hj=>fX.cells (g:=vb) rfl j u hj) hP.2.2 jX hb
  obtain⟨v',w',hrun,cg,bi,hQ,dQ⟩:=lc 0;have fY:∀ty,(Builtin.append_ #[S,S] ty #[x0,.slice (some ⟨vb,0,none⟩) v.length vc]).run P w=.ok v' w':=fun ty=>hrun;have lf:=cg.lt;have jh:Calls P F #[x0,.int .i64 (l.length:Int),.slice (some ⟨vb,0,none⟩) v.length vc] w fun e w1=>e=.returned v'/\w'=w1:=by
   subst q0;refine fin a0 l.length c0 vb v.length vc w w' v' ?_ ?_ hv ?_ (Nat.le_trans eh la) fY
   .rcases dD.2 with⟨h,h0⟩|⟨g,cap,cur,h1,_,h2,h3,h4,_⟩
    .injection h with _ _ h5;omega
    .cases h1;exact h3
   .rcases dD.2 with⟨h,h0⟩|⟨g,cap,cur,h1,_,h2,h3,h4,_⟩
    .injection h with _ _ h5;rw[h5];simp[maxLen]
    .cases h1;exact h4
   .rintro rfl;rcases dD.2 with⟨h,h0⟩|⟨g,cap,cur,h1,_⟩
    .exact h0
    .cases h1
  refine jh.mono ?_;rintro e w1 ⟨rfl,rfl⟩;have j6:xs.take (l.length*K)++ys++xs.drop (l.length*K)=xs++ys:=by rw[<-hxl];simp
  have hne:∀k,x0.ownBlock=some k->¬S' k/\¬no k/\k<w.heap.size:=by
   intro k hk;exact eP k (by subst q0;cases a0<;>simp[Value.ownBlock]at hk<;>simp[blk,hk])
  refine Ztu (hL:=hrep.lno) hS bg (by rw[jg];exact cg) (by rw[j6]at cG;exact cG) ⟨bi.os,bi.tape,bi.output,bi.size,fun k hk=>bi.block k (bg k hk) (fun h=>(hne k h.symm).2.1 hk),dQ⟩ (fun k hk=>bi.block k (hS k hk) (fun h=>(hne k h.symm).1 hk)) ?_;intro k hk;rcases hQ with h|h
  .rw[h]at hk;exact⟨(hne k hk).1,(hne k hk).2.1,Nat.lt_of_lt_of_le (hne k hk).2.2 bi.size⟩
  .have h2:=h k hk;exact⟨fun hs=>by have:=hS k hs;omega,fun hs=>by have:=bg k hs;omega,(lf k hk).2⟩
 .have lg:i<l.length:=by omega
  obtain⟨b,c,cur,h1,hgc,jY,gH,ef,j6⟩ : ∃b c cur,x0=.slice (some ⟨b,0,none⟩) l.length c/\w.heap[b]?=some (.cells cur E (0,0))/\l.length<=c/\c<=maxLen/\cur.size=c*K/\cur.toList.take (l.length*K)=xs:=by
   rcases dD.2 with⟨_,h⟩|⟨g,cap,cur,h1,_,h2,h3,h4,h5,h6⟩
   .omega
   .exact⟨g,cap,cur,h1,h2,h3,h4,h5,h6⟩
  subst h1;have gz:∀u∈cur.toList.take (l.length*K),u.oneCell'=true:=by rw[j6];exact hH.2.2
  have hbv:vb≠b:=fun h=>eQ b rfl (by rw[h];rfl);have ji:=eP b rfl;have hik:i*K<=l.length*K:=Nat.mul_le_mul_right _ hi;have eR:cur.toList.take (i*K)++aO.toList.take (v.length*K)++(cur.toList.drop (i*K)).take ((l.length-i)*K)=xs.take (i*K)++ys++xs.drop (i*K):=by
   rw[hyt,<-j6,List.take_take,Nat.min_eq_left hik,List.drop_take,Nat.sub_mul]
  by_cases hroom:l.length+v.length<=c
  .refine(shift b l.length c i vb v.length vc cur aO w lg hv hroom gH hbv hgc ef hgv eh bQ gz gy).mono ?_;rintro e w' ⟨R,rfl,dQ,bi,hat,hRs,hRt⟩;rw[eR]at hRt;refine Ztu (hL:=hrep.lno) hS bg (by rw[jg];exact⟨by rw[cG.1,jg],.inr ⟨b,c,R,rfl,Nat.zero_le _,hat,hroom,gH,hRs,hRt⟩⟩) cG ⟨bi.os,bi.tape,bi.output,bi.size,fun k hk=>bi.block k (bg k hk) (fun h=>ji.2.1 (by cases h;exact hk)),dQ⟩ (fun k hk=>bi.block k (hS k hk) (fun h=>ji.1 (by cases h;exact hk))) ?_;intro k hk;cases hk;exact⟨ji.1,ji.2.1,Nat.lt_of_lt_of_le ji.2.2 bi.size⟩
  .refine(grow b l.length c i vb v.length vc cur aO w lg hv jY (by omega) hb hgc ef hgv eh bQ gz gy).mono ?_;rintro e w' ⟨G,R,rfl,dQ,hbl,hat,hGn,hGm,hRs,hRt⟩;rw[eR]at hRt;refine Ztu (hL:=hrep.lno) hS bg (by rw[jg];exact⟨by rw[cG.1,jg],.inr ⟨w.heap.size,G,R,rfl,Nat.zero_le _,hat,hGn,hGm,hRs,hRt⟩⟩) cG ⟨hbl.os,hbl.tape,hbl.output,hbl.size,fun k hk=>hbl.block k (bg k hk),dQ⟩ (fun k hk=>hbl.block k (hS k hk)) ?_;intro k hk;obtain rfl:w.heap.size=k:=Option.some.inj hk;exact⟨fun hs=>Nat.lt_irrefl _ (hS _ hs),fun hs=>Nat.lt_irrefl _ (bg _ hs),(Array.getElem?_eq_some_iff.1 hat).1⟩
end Go.Proofs.YtmnloegcpaahcaaGreat
