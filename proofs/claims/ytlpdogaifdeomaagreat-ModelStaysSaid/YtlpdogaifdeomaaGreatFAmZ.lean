import Derived.Shelf.SlSortCmp.NoneTotal
import Derived.Test.YtlpdogaifdeomaaGreatFAmX
namespace Go.Proofs.YtlpdogaifdeomaaGreat
open Go.RowKit Go.Lib Go.Shelf Go.Sort
set_option linter.unusedSimpArgs false
set_option linter.unusedVariables false
theorem ZAq{w w':World}(h:Bel (fun k=>k<w.heap.size) w w'):∃q os,w'=grow (w.drewN q) os:=by
 refine⟨w'.drawn-w.drawn,w'.heap.extract w.heap.size w'.heap.size,?_⟩;obtain⟨h1,h2,h3,h4,h5,h6⟩:=h;have hh:w'.heap=w.heap++w'.heap.extract w.heap.size w'.heap.size:=by
  apply Array.ext_getElem?;intro k;by_cases hk:k<w.heap.size
  .rw[Array.getElem?_append_left hk];exact h5 k hk
  .rw[Array.getElem?_append_right (by omega)];by_cases hk':k<w'.heap.size
   .rw[Array.getElem?_extract,if_pos (by omega)];congr 1;omega
   .rw[Array.getElem?_eq_none (by omega),Array.getElem?_eq_none (by simp;omega)]
 have hd:w'.drawn=w.drawn+(w'.drawn-w.drawn):=by omega
 cases w;cases w';simp only[grow,World.drewN]at *
 subst h1 h2 h3;rw[<-hh,<-hd]
def ZRt:C->Value | .lit v=>v|_=>.slice none 0 0
theorem ZAN{S:Nat->Prop}{w:World}{m:Mp}{l:List Value}(h1:∀v∈l,v.oneCell'=true):RepL S w m (l.map C.lit) l:=
 ⟨by simp,fun j c h=>by
  rw[List.getElem?_map]at h
  cases hq:l[j]? with
  |none=>rw[hq]at h;cases h
  |some x=>rw[hq]at h;cases h;exact⟨x,rfl,.lit⟩,h1⟩
theorem ZIS{α:Type}[Inhabited α]{P:Program}{g:FuncId}{enc:α->List C}{ev:α->List Value}{k:Nat}{cf:α->α->Int}(bj:∀x,enc x=(ev x).map .lit)(h1:∀x,∀v∈ev x,v.oneCell'=true)
  (je:∀x y,Zpi P g [.agg (enc x),.agg (enc y)] (.one (.lit (.int .i64 (cf x y))))) (blk off size:Nat) (w:World):CmpLays P g #[] ev k cf blk off size w:=by
 intro m os dk hs x y;have h:=(je x y).2 (fun _=>False) (sortWorldK ev k w blk off m dk os) [.agg (ev x).toArray,.agg (ev y).toArray] (fun _ h=>h.elim) ⟨rfl,fun j v hj=>by
  match j,hj with
  | 0,hj=>cases hj;exact⟨_,rfl,_,rfl,by rw[bj];exact ZAN (h1 x)⟩
  | 1,hj=>cases hj;exact⟨_,rfl,_,rfl,by rw[bj];exact ZAN (h1 y)⟩
  |j+2,hj=>cases hj⟩
 refine h.mono ?_;rintro e w' ⟨v,S',rfl,hg,_,hr⟩;cases hr;exact⟨rfl,ZAq hg.below⟩
def ZrX{α:Type}(ev:α->List Value)(l:List α):List Value:=(l.map ev).flatten
theorem ZqG{α:Type}{ev:α->List Value}{K:Nat}(hk:∀x,(ev x).length=K):∀l:List α,(ZrX ev l).length=l.length*K
 | []=>by simp[ZrX]
 |x :: r=>by
  have:=ZqG hk r
  simp only[ZrX,List.map_cons,List.flatten_cons,List.length_append,hk,List.length_cons]at this ⊢
  rw[this,Nat.add_mul];omega
theorem ZsW{α:Type}{ev:α->List Value}{K:Nat}(hk:∀x,(ev x).length=K):∀(l:List α)(d:α)(i j:Nat),i<l.length->j<K->(ZrX ev l)[i*K+j]?=(ev (l.getD i d))[j]?
 |x :: r,d,0,j,_,hj=>by
  simp only[ZrX,List.map_cons,List.flatten_cons]
  rw[List.getElem?_append_left (by rw[hk];omega)]
  simp
 |x :: r,d,i+1,j,hi,hj=>by
  have:=ZsW hk r d i j (by simpa using hi) hj
  simp only[ZrX,List.map_cons,List.flatten_cons]at this ⊢
  rw[List.getElem?_append_right (by rw[hk,Nat.add_mul];omega),hk,show (i+1)*K+j-K=i*K+j by rw[Nat.add_mul];omega,this]
  simp
theorem Zwa{α:Type}[Inhabited α]{ev:α->List Value}{K:Nat}(hK:0<K)(hk:∀x,(ev x).length=K)(l:List α):(flatK ev K l.toArray).toList=ZrX ev l:=by
 apply List.ext_getElem?;intro t;by_cases ht:t<l.length*K
 .have hi:t / K<l.length:=Nat.div_lt_of_lt_mul (by rw[Nat.mul_comm];exact ht);have hj:t % K<K:=Nat.mod_lt _ hK;have:=ZsW hk l default (t / K) (t % K) hi hj;rw[show t / K*K+t % K=t by rw[Nat.mul_comm];exact Nat.div_add_mod t K]at this;rw[this];have h2:(flatK ev K l.toArray)[t]! = (ev l.toArray[t / K]!)[t % K]!:=get_flatK ev K l.toArray t (by simpa using ht);have h3:t<(flatK ev K l.toArray).size:=by simpa using ht
  rw[Array.getElem?_toList,Array.getElem?_eq_getElem h3];rw[getElem!_pos (flatK ev K l.toArray) t h3]at h2;rw[h2];have h4:t % K<(ev l.toArray[t / K]!).length:=by rw[hk];exact hj
  rw[getElem!_pos (ev l.toArray[t / K]!) (t % K) h4];rw[List.getElem?_eq_getElem (by rw[hk];exact hj)];simp[List.getD_eq_getElem?_getD,hi]
 .rw[List.getElem?_eq_none (by simp;omega),List.getElem?_eq_none (by rw[ZqG hk];omega)]
theorem ZAJ{α:Type}{S:Nat->Prop}{w:World}{K:Nat}{enc:α->List C}{ev:α->List Value}{d:α}(bj:∀x,enc x=(ev x).map .lit)(hk:∀x,(ev x).length=K)(h1:∀x,∀v∈ev x,v.oneCell'=true)(l:List α):Zkm S w K enc d l (ZrX ev l):=by
 refine⟨ZqG hk l,fun i j hi hj=>?_,fun x hx=>?_⟩
 .rw[ZsW hk l d i j hi hj];have hq:j<(ev (l.getD i d)).length:=by rw[hk];exact hj
  refine⟨_,List.getElem?_eq_getElem hq,?_⟩;simp only[Zai,bj];rw[List.getD_eq_getElem?_getD,List.getElem?_map,List.getElem?_eq_getElem hq];exact .lit
 .simp only[ZrX,List.mem_flatten,List.mem_map]at hx;obtain⟨l',⟨a,_,rfl⟩,hx⟩:=hx;exact h1 a x hx
theorem ZAK{α:Type}{S:Nat->Prop}{w:World}{K:Nat}{enc:α->List C}{ev:α->List Value}{d:α}(bj:∀x,enc x=(ev x).map .lit)(hK:0<K)(hk:∀x,(ev x).length=K){l:List α}{xs:List Value}(h:Zkm S w K enc d l xs):xs=ZrX ev l:=by
 apply List.ext_getElem?;intro t;by_cases ht:t<l.length*K
 .have hi:t / K<l.length:=Nat.div_lt_of_lt_mul (by rw[Nat.mul_comm];exact ht);have hj:t % K<K:=Nat.mod_lt _ hK;have e:t / K*K+t % K=t:=by rw[Nat.mul_comm];exact Nat.div_add_mod t K
  obtain⟨x,h1,h2⟩:=h.2.1 (t / K) (t % K) hi hj;have h3:=ZsW hk l d (t / K) (t % K) hi hj;rw[e]at h1 h3;rw[h1,h3];have hq:t % K<(ev (l.getD (t / K) d)).length:=by rw[hk];exact hj
  simp only[Zai,bj]at h2;rw[List.getD_eq_getElem?_getD,List.getElem?_map,List.getElem?_eq_getElem hq]at h2;rw[List.getElem?_eq_getElem hq];cases h2;rfl
 .rw[List.getElem?_eq_none (by rw[h.1];omega),List.getElem?_eq_none (by rw[ZqG hk];omega)]
theorem Zyo{α:Type}[Inhabited α]{P:Program}{ρ:Ren}{E:TypeId}{K:Nat}{g:FuncId}{enc:α->List C}{ev:α->List Value}{d:α}(L:SlLaysF0.n6 P ρ)(hf:FnOk P (ρ.f 6))(hg:FnOk P g)(hK:0<K)(bj:∀x,enc x=(ev x).map .lit)(hk:∀x,(ev x).length=K)
  (h1:∀x,∀v∈ev x,v.oneCell'=true) (aE:∀w,(isAgg (ρ.t 24)).run P w=.ok true w) (zE:∀w,(Go.sizeOf (ρ.t 24)).run P w=.ok K w)
  (cf:α->α->Int) (hO:SWO (Go.Proofs.ltOf cf)) (hT:∀x y,(Go.Proofs.ltOf cf) x y=false->(Go.Proofs.ltOf cf) y x=false->x=y)
  (je:∀x y,Zpi P g [.agg (enc x),.agg (enc y)] (.one (.lit (.int .i64 (cf x y))))) (l:List α) (hlen:l.length<4611686018427387904) :
  Zdh P (ρ.f 6) [(100000,.rows E K l.length (Zai enc d l))] [.one (.osl 100000 l.length),.one (.lit (.func (.func g) #[] #[]))]
   [(100000,.rows E K l.length (Zai enc d (l.mergeSort fun x y=>!(Go.Proofs.ltOf cf) y x)))] (.tup []):=by
 refine⟨hf,fun no S' m w vs hS bu hrep hra=>?_⟩;obtain⟨hl,hra⟩:=hra;obtain⟨x0,gV,jv⟩:=hra 0 _ rfl;obtain⟨x1,gl,l6⟩:=hra 1 _ rfl;have bW:vs=[x0,x1]:=by
  match vs,hl with
  | [a,b],_=>simp at gV gl;rw[gV,gl]
 subst bW;have e1:x1=.func (.func g) #[] #[]:=by cases l6;rfl
 subst e1;obtain⟨e0,a0,c0,q0⟩:=ZEt jv;have g0:hget [(100000,B.rows E K l.length (Zai enc d l))] 100000=some (.rows E K l.length (Zai enc d l)):=rfl;obtain⟨xs,cV,fH⟩:=Zkm.of (hrep.rep _ _ g0);have c9:=hrep.own _ _ g0;rw[<-e0]at cV c9;have k4:(l.mergeSort fun x y=>!(Go.Proofs.ltOf cf) y x).length=l.length:=List.length_mergeSort l;have fo:∀{b:B}{id:Nat}{bb:B},hget [(100000,bb)] id=some b->id=100000/\b=bb:=by
  intro b id bb h;rw[Zbh]at h;split at h
  .rename_i e;cases h;exact⟨e.symm,rfl⟩
  .cases h
 -- what a world must be for the end
 have fin:∀(w':World),Bel no w w'->(∀b,S' b->w'.heap[b]?=w.heap[b]?)->w'.ownsRow 0 E K x0 l.length (ZrX ev (l.mergeSort fun x y=>!(Go.Proofs.ltOf cf) y x)) ->
   ∃x S1 m',Ending.returned (.tuple #[])=.returned x/\Goes no S' S1 w w'/\(∀b,S1 b->b<w'.heap.size)/\Zsk no S1 m' [(100000,B.rows E K l.length (Zai enc d (l.mergeSort fun x y=>!(Go.Proofs.ltOf cf) y x)))] w'/\RepV S1 w' m' (.tup []) x/\Pins m' m:=by
  intro w' hb du bk;refine⟨_,S',m,rfl,⟨hb,fun _ h=>h,fun _ h=>.inl h⟩,fun b h=>Nat.lt_of_lt_of_le (hS b h) hb.size,⟨fun id b' h=>?_,fun id b' h k hk'=>?_,fun i j b1 b2 hne h1 h2=>?_,hrep.lno⟩,⟨_,rfl,rfl,fun j p hp=>by cases hp⟩,fun _ _=>rfl,rfl⟩
  .obtain⟨rfl,rfl⟩:=fo h;have hr:=ZAJ (S:=S') (w:=w') (d:=d) bj hk h1 (l.mergeSort fun x y=>!(Go.Proofs.ltOf cf) y x);refine⟨_,e0 ▸ bk,fun i j hi hj=>?_,hr.2.2⟩;exact hr.2.1 i j (by rw[k4];exact hi) hj
  .obtain⟨rfl,rfl⟩:=fo h;have:=c9 k (by rw[e0];exact hk');exact⟨this.1,this.2.1,Nat.lt_of_lt_of_le this.2.2 hb.size⟩
  .exact absurd ((fo h1).1.trans (fo h2).1.symm) hne
 by_cases hn:l.length=0
 .subst q0;have hl0:l=[]:=List.length_eq_zero_iff.1 hn;rw[hn];refine(AnyF.slices_SortFunc_none L a0 c0 (.func (.func g) #[] #[]) w).mono ?_;rintro e w' ⟨rfl,rfl⟩;rw[<-hn];refine fin w' (Bel.refl _ _) (fun _ _=>rfl) ?_;have hx:xs=ZrX ev l:=ZAK bj hK hk fH;rw[hl0]at hx ⊢;rw[hl0]at cV;simpa[hx,ZrX]using cV
 .obtain⟨b,c,cur,hq,jy,fU,gT,dz,jx⟩ : ∃b c cur,x0=.slice (some ⟨b,0,none⟩) l.length c/\w.heap[b]?=some (.cells cur E (0,0))/\l.length<=c/\c<=maxLen/\cur.size=c*K/\cur.toList.take (l.length*K)=xs:=by
   rcases cV.2 with⟨_,h⟩|⟨g,cap,cur,h1,_,h2,h3,h4,h5,h6⟩
   .omega
   .exact⟨g,cap,cur,h1,h2,h3,h4,h5,h6⟩
  subst hq;clear hn q0;have g8:=c9 b rfl;have hbl:b<w.heap.size:=g8.2.2;have hnK:l.length*K<=c*K:=Nat.mul_le_mul_right _ fU;have hx:xs=ZrX ev l:=ZAK bj hK hk fH;have hH:HoldsK ev K w b 0 l.toArray:=by
   intro j hj;rw[size_flatK]at hj;simp only[List.size_toArray]at hj;refine⟨?_,by simp[World.frozen?,jy]⟩;have h2:(cur.toList.take (l.length*K))[j]?=(ZrX ev l)[j]?:=by rw[jx,hx]
   rw[List.getElem?_take_of_lt hj,<-Zwa hK hk]at h2;simp only[World.cell?,jy,Nat.zero_add,Option.isSome_none,Bool.false_eq_true,if_false];rw[<-Array.getElem?_toList,h2,Array.getElem?_toList];have h3:j<(flatK ev K l.toArray).size:=by simpa using hj
   rw[Array.getElem?_eq_getElem h3,getElem!_pos (flatK ev K l.toArray) j h3];rfl
  have h:=AnyQ.slices_SortFunc_total L K aE zE ev hk h1 cf hO g #[] b 0 c l.toArray w (fun args w=>ZnU hg args w) (ZIS bj h1 je b 0 l.toArray.size w) hH hbl (by simpa using hlen) hT;simp only[List.size_toArray]at h;refine h.mono ?_;rintro e w' ⟨rfl,n,os,rfl⟩;have hat:∀k,k<w.heap.size->k≠b->(sortWorldK ev K w b 0 n (l.mergeSort fun x y=>!(Go.Proofs.ltOf cf) y x).toArray os).heap[k]?=w.heap[k]?:=fun k hk' hne=>by
   unfold sortWorldK putRowK;rw[heap_grow_old _ _ (by simpa[putRow,mapBlock,Sort.ahead]using hk')];simp[putRow,mapBlock,Sort.ahead,Array.getElem?_modify,Ne.symm hne]
  have hab:(sortWorldK ev K w b 0 n (l.mergeSort fun x y=>!(Go.Proofs.ltOf cf) y x).toArray os).heap[b]?=some (.cells (putCells id 0 (flatK ev K (l.mergeSort fun x y=>!(Go.Proofs.ltOf cf) y x).toArray) cur) E (0,0)):=by
   unfold sortWorldK putRowK;rw[heap_grow_old _ _ (by simpa[putRow,mapBlock,Sort.ahead]using hbl)];simp[putRow,mapBlock,Sort.ahead,Array.getElem?_modify,jy,onCells]
  have aW:(sortWorldK ev K w b 0 n (l.mergeSort fun x y=>!(Go.Proofs.ltOf cf) y x).toArray os).heap.size=w.heap.size+os.size:=by
   simp[sortWorldK,putRowK,grow,putRow,mapBlock,Sort.ahead]
  refine fin _ ⟨rfl,rfl,rfl,by rw[aW];omega,fun k hk'=>hat k (bu k hk') (fun h=>g8.2.1 (h ▸ hk')),by simp[sortWorldK,putRowK,grow,putRow,mapBlock,Sort.ahead]⟩ (fun k hk'=>hat k (hS k hk') (fun h=>g8.1 (h ▸ hk'))) ⟨by rw[ZqG hk,k4],.inr ⟨b,c,_,rfl,Nat.zero_le _,hab,fU,gT,by simp[putCells,dz],?_⟩⟩;have iG:(flatK ev K (l.mergeSort fun x y=>!(Go.Proofs.ltOf cf) y x).toArray).size=l.length*K:=by simp
  rw[<-Zwa hK hk];generalize flatK ev K (l.mergeSort fun x y=>!(Go.Proofs.ltOf cf) y x).toArray=R at iG ⊢;apply List.ext_getElem?;intro j;by_cases hj:j<l.length*K
  .rw[List.getElem?_take_of_lt hj,Array.getElem?_toList,Array.getElem?_toList];have h4:j<cur.size:=by rw[dz];omega
   have h5:j<R.size:=by omega
   simp[putCells,h4,h5]
  .rw[List.getElem?_take_eq_none (by omega),List.getElem?_eq_none (by simp;omega)]
end Go.Proofs.YtlpdogaifdeomaaGreat
