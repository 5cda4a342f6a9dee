import Derived.Test.YtnigiacmmedkhaaGreatGAmR
import Derived.Orders
namespace Go.Proofs.YtnigiacmmedkhaaGreat
open Go.RowKit
set_option linter.unusedSimpArgs false
set_option linter.unusedVariables false
def ZpH:List Edge->List Nat
 | []=>[]
 |e :: l=>match Region.binds .any e with
  |true=>e.on :: ZpH l
  |false=>ZpH l
def ZrL(o:Oper):List Nat:=ZpH o.after.toList
theorem Zus{e:Edge}:∀{l:List Edge},e∈l->Region.binds .any e=true->e.on∈ZpH l
 | [],h,_=>by cases h
 |x :: l,h,hb=>by
  simp only[ZpH]
  rcases List.mem_cons.1 h with rfl|h
  .rw[hb];simp
  .have:=Zus h hb
   split
   .exact List.mem_cons_of_mem _ this
   .exact this
theorem Zsp{k:Nat}:∀{l:List Edge},k∈ZpH l->∃e∈l,Region.binds .any e=true/\e.on=k
 | [],h=>by simp[ZpH]at h
 |x :: l,h=>by
  simp only[ZpH]at h
  split at h
  .rename_i hb
   rcases List.mem_cons.1 h with rfl|h
   .exact⟨x,by simp,hb,rfl⟩
   .obtain⟨e,h1,h2⟩:=Zsp h
    exact⟨e,by simp[h1],h2⟩
  .obtain⟨e,h1,h2⟩:=Zsp h
   exact⟨e,by simp[h1],h2⟩
def ZPV(N:Nat)(ops:Array Oper)(ra:RA)(ag:List (List Nat))(i:Nat):Bool:=match ops[i]? with
 |none=>false
 |some o=>(ZrL o).all (fun k=>Nat.blt k i)&&(ZfQ ag i).all (fun k=>Nat.blt k i&&(memN k (ZrL o)||(ZrL o).any fun j=>memN k (ZfQ ag j)))&&Zxb ra i o &&
   (List.range i).all fun k=>memN k (ZfQ ag i)||Zsf N ops ra ag k i
def ZGf(N:Nat)(ops:Array Oper)(ra:RA)(ag:List (List Nat)):Bool:=match ra.fz with
 | []=>(List.range ops.size).all (ZPV N ops ra ag)
 |_=>false
theorem ZHk{ra:RA}{i:Nat}{o:Oper}:∀{l:List Oper}{k:Nat},l[i]?=some o->clsX ra (k+i) o=3->(k+i,o.dst.getD 0)∈Zrn ra k l:=by
 induction i with
 |zero=>
  intro l k h hc;cases l with
  |nil=>simp at h
  |cons x l=>
   simp only[List.getElem?_cons_zero,Option.some.injEq]at h;subst h;rw[Nat.add_zero]at hc ⊢;simp[Zrn,hc]
 |succ i ih=>
  intro l k h hc;cases l with
  |nil=>simp at h
  |cons x l=>
   have h2:=ih (l:=l) (k:=k+1) (by simpa using h) (by rw[show k+1+i=k+(i+1)by omega];exact hc);rw[show k+1+i=k+(i+1)by omega]at h2;simp only[Zrn];split
   .exact List.mem_cons_of_mem _ h2
   .exact h2
theorem ZtK(ops:Array Oper)(ra:RA):ZCv ops ra (Zrn ra 0 ops.toList):=by
 intro i o ho hc;have:=ZHk (ra:=ra) (i:=i) (o:=o) (l:=ops.toList) (k:=0) (by simpa using ho) (by rw[Nat.zero_add];exact hc);rwa [Nat.zero_add]at this
def ZsO(N:Nat)(st:St):List (Nat×Nat)->Bool
 | []=>true
 | (_,d) :: l=>match Zid st d N with
  |true=>ZsO N st l
  |false=>false
theorem Zsw{N:Nat}{st:St}:∀{l:List (Nat×Nat)},ZsO N st l=true->∀i d,(i,d)∈l->Zid st d N=true
 | [],_,i,d,h=>by cases h
 | (j,d') :: l,hq,i,d,h=>by
  simp only[ZsO]at hq
  split at hq
  .rename_i h1
   rcases List.mem_cons.1 h with h|h
   .cases h;exact h1
   .exact Zsw hq i d h
  .cases hq
def ZEz(P:Program)(N:Nat)(T:Tab)(ops:Array Oper)(ra:RA)(ag:List (List Nat))(st:St):Option (St×List Prop):=match ZGf N ops ra ag,ZsO N st (Zrn ra 0 ops.toList)with
 |true,true=>ZsD P N T ops ra ag (Zrn ra 0 ops.toList) (List.range ops.size) st
 |_,_=>none
section
variable {P:Program} {N:Nat} {T:Tab} {ops:Array Oper} {ra:RA} {ag:List (List Nat)} {Q:Exit->Act->World->Prop} {S0:Nat->Prop} {w0:ZeC}
theorem ZwD(h:ZGf N ops ra ag=true){i:Nat}(hi:i<ops.size):∃o,ops[i]?=some o/\(∀k∈ZrL o,k<i)/\(∀k∈ZfQ ag i,k<i/\(k∈ZrL o\/∃j∈ZrL o,k∈ZfQ ag j))/\Zxb ra i o=true/\∀k,k<i->k ∉ ZfQ ag i->Zsf N ops ra ag k i=true:=by
 unfold ZGf at h;split at h
 .have:=List.all_eq_true.1 h i (List.mem_range.2 hi);unfold ZPV at this;split at this
  .cases this
  .rename_i o ho;simp only[Bool.and_eq_true,List.all_eq_true,Bool.or_eq_true,List.any_eq_true,List.mem_range]at this;obtain⟨⟨⟨h1,h2⟩,h3⟩,h4⟩:=this;refine⟨o,ho,fun k hk=>Nat.le_of_ble_eq_true (h1 k hk),fun k hk=>?_,h3,fun k hk hn=>?_⟩
   .obtain⟨h5,h6⟩:=h2 k hk;refine⟨Nat.le_of_ble_eq_true h5,?_⟩;rcases h6 with h6|⟨j,h6,h7⟩
    .exact .inl (Zqb.1 h6)
    .exact .inr ⟨j,h6,Zqb.1 h7⟩
   .rcases h4 k hk with h5|h5
    .exact absurd (Zqb.1 h5) hn
    .exact h5
 .cases h
def left(n:Nat)(ak:Array Bool):List Nat:=(List.range n).filter fun i=>!ak.getD i true
theorem ZtL{ak:Array Bool}{i:Nat}:i∈Region.ready .any ops ak↔i<ops.size/\ak.getD i true=false/\∃o,ops[i]?=some o/\∀k∈ZrL o,ak.getD k false=true:=by
 unfold Region.ready;simp only[List.mem_filter,List.mem_range,Bool.and_eq_true,Bool.not_eq_true'];constructor
 .rintro ⟨h1,h2,h3⟩;refine⟨h1,h2,ops[i],by simp[h1],fun k hk=>?_⟩;rw[show ops[i]?=some ops[i]by simp[h1]]at h3;obtain⟨e,h4,h5,rfl⟩:=Zsp hk;simp only[Option.map_some,Option.getD_some,Array.all_eq_true_iff_forall_mem,Bool.or_eq_true,Bool.not_eq_true']at h3;rcases h3 e (by simpa using h4)with h6|h6
  .rw[h5]at h6;cases h6
  .exact h6
 .rintro ⟨h1,h2,o,ho,h3⟩;refine⟨h1,h2,?_⟩;rw[ho];simp only[Option.map_some,Option.getD_some,Array.all_eq_true_iff_forall_mem,Bool.or_eq_true,Bool.not_eq_true'];intro e he;cases hb:Region.binds .any e with
  |false=>exact .inl rfl
  |true=>exact .inr (h3 _ (Zus (by simpa using he) hb))
theorem ZxA(ak:Array Bool)(i j:Nat)(d:Bool)(hi:i<ak.size):(ak.setIfInBounds i true).getD j d=if i=j then true else ak.getD j d:=by
 simp only[Array.getD_eq_getD_getElem?,Array.getElem?_setIfInBounds];split
 .simp[*]
 .rfl
theorem ZNn(hT:Zes P T)(hD:ZGf N ops ra ag=true):∀(cu:Nat)(ak:Array Bool)(st F:St)(a:Act)(w:World)(obl:List Prop),ak.size=ops.size->(left ops.size ak).length<=cu ->
  (∀j,ak.getD j false=true->∀k∈ZfQ ag j,ak.getD k false=true)->(∀j o,j∈left ops.size ak->ops[j]?=some o->clsX ra j o=3->Zid st (o.dst.getD 0) N=true) ->
  ZcI N S0 w0 st a w->ZsD P N T ops ra ag (Zrn ra 0 ops.toList) (left ops.size ak) st=some (F,obl)->(∀q∈obl,q)->(∀F' a' w',Eqv F F'->ZcI N S0 w0 F' a' w'->Q .normal a' w')->wpAny P .any ops Q cu ak a w:=by
 intro cu;have hcls:∀i o,ops[i]?=some o->Zxb ra i o=true:=fun i o ho=>by
  obtain⟨o',h1,_,_,h4,_⟩:=ZwD hD (Array.getElem?_eq_some_iff.1 ho).1;rw[ho]at h1;cases h1;exact h4
 have iH:∀(ak:Array Bool),ak.size=ops.size->Region.ready .any ops ak=[]->left ops.size ak=[]:=by
  intro ak aU hr;cases hl:left ops.size ak with
  |nil=>rfl
  |cons i l=>
   exfalso;have hm:i∈left ops.size ak:=by rw[hl];simp
   have di:∀k,k<i->ak.getD k true=true:=by
    intro k hk;cases hk2:ak.getD k true with
    |true=>rfl
    |false=>
     exfalso;have hs:List.Pairwise (·< ·) (left ops.size ak):=List.Pairwise.filter _ List.pairwise_lt_range;have hi:i<ops.size:=by simp[left]at hm;exact hm.1
     have hZ:k∈left ops.size ak:=by simp only[left,List.mem_filter,List.mem_range,Bool.not_eq_true'];exact⟨by omega,hk2⟩
     rw[hl]at hs hZ;rcases List.mem_cons.1 hZ with rfl|hZ
     .omega
     .have:=(List.pairwise_cons.1 hs).1 k hZ;omega
   have hi:i<ops.size/\ak.getD i true=false:=by simpa[left]using hm
   obtain⟨o,ho,hd,_⟩:=ZwD hD hi.1;have:i∈Region.ready .any ops ak:=ZtL.2 ⟨hi.1,hi.2,o,ho,fun k hk=>by
    have hki:=hd k hk;have h1:=di k hki;have kf:k<ak.size:=by omega
    simp only[Array.getD_eq_getD_getElem?,Array.getElem?_eq_getElem kf,Option.getD_some]at h1 ⊢;exact h1⟩
   rw[hr]at this;cases this
 induction cu with
 |zero=>
  intro ak st F a w obl aU hle kh hJ hsh cV ho hk;have hl:left ops.size ak=[]:=List.eq_nil_of_length_eq_zero (by omega);rw[hl]at cV;cases cV;refine⟨?_,hk _ a w (Eqv.refl _) hsh⟩;cases hr:Region.ready .any ops ak with
  |nil=>rfl
  |cons i l=>
   have hm:i∈Region.ready .any ops ak:=by rw[hr];simp
   obtain⟨h1,h2,_⟩:=ZtL.1 hm;have:i∈left ops.size ak:=by simp only[left,List.mem_filter,List.mem_range,Bool.not_eq_true'];exact⟨h1,h2⟩
   rw[hl]at this;cases this
 |succ cu ih=>
  intro ak st F a w obl aU hle kh hJ hsh cV ho hk;refine⟨fun hr=>?_,fun i hi=>?_⟩
  .rw[iH ak aU hr]at cV;cases cV;exact hk _ a w (Eqv.refl _) hsh
  .obtain⟨hi1,br,o,ki,iI⟩:=ZtL.1 hi;have him:i∈left ops.size ak:=by simp only[left,List.mem_filter,List.mem_range,Bool.not_eq_true'];exact⟨hi1,br⟩
   obtain⟨f9,post,bS⟩:=List.append_of_mem him;have iJ:(left ops.size ak).Nodup:=List.Pairwise.filter _ List.nodup_range;have jq:List.Pairwise (·< ·) (left ops.size ak):=List.Pairwise.filter _ List.pairwise_lt_range;obtain⟨o',ho',hd,hp,hc,iK⟩:=ZwD hD hi1;rw[ki]at ho';cases ho';have fH:∀k∈ZfQ ag i,ak.getD k false=true:=by
    intro k hk;rcases(hp k hk).2 with h|⟨j,h,h2⟩
    .exact iI k h
    .exact kh j (iI j h) k h2
   have iL:∀k∈left ops.size ak,ak.getD k false=false:=by
    intro k hk;simp only[left,List.mem_filter,List.mem_range,Bool.not_eq_true']at hk;have kf:k<ak.size:=by omega
    have:=hk.2;simp only[Array.getD_eq_getD_getElem?,Array.getElem?_eq_getElem kf,Option.getD_some]at this ⊢;exact this
   have kj:∀k∈f9,Zsf N ops ra ag k i=true/\k≠i/\k ∉ ZfQ ag i/\i ∉ ZfQ ag k:=by
    intro k hk;have hZ:k∈left ops.size ak:=by rw[bS];simp[hk]
    have hlt:k<i:=by
     rw[bS]at jq;exact(List.pairwise_append.1 jq).2.2 k hk i (by simp)
    have hnp:k ∉ ZfQ ag i:=fun h=>by have:=fH k h;rw[iL k hZ]at this;cases this
    refine⟨iK k hlt hnp,by omega,hnp,fun h=>?_⟩;have b9:k<ops.size:=by omega
    obtain⟨_,_,_,gq,_⟩:=ZwD hD b9;have:=(gq i h).1;omega
   rw[bS]at cV;obtain⟨st1,oi,F',o',h1,h2,h3,h4⟩:=Zud (ZtK ops ra) (fun j _=>hcls j) kj (fun o2 dx hc2=>hJ i o2 him dx hc2) cV;have fo:left ops.size (ak.setIfInBounds i true)=f9++post:=by
    have e1:left ops.size (ak.setIfInBounds i true)=(left ops.size ak).filter (fun j=>decide (j≠i)):=by
     unfold left;rw[List.filter_filter];apply List.filter_congr;intro j hj;rw[ZxA _ _ _ _ (by omega)];by_cases e:i=j
     .subst e;simp
     .simp[e,Ne.symm e]
    rw[e1,bS,List.filter_append,List.filter_cons];rw[bS]at iJ;obtain⟨n1,n2,n3⟩:=List.nodup_append.1 iJ;have n4:=(List.nodup_cons.1 n2).1;rw[if_neg (by simp)];rw[List.filter_eq_self.2 (fun x hx=>by simp;exact fun e=>n3 x hx i (by simp) e),List.filter_eq_self.2 (fun x hx=>by simp;rintro rfl;exact n4 hx)]
   obtain⟨o2,v,s1,dx,hr,hck,iM⟩:=Zdp h1;rw[ki]at dx;cases dx;have iN:Zse P N T ops ra i o st=some (st1,oi):=ZHf hr iM;have kl:=ZpZ hr;unfold wpOp;rw[ki];simp only;have bP:=Zvz (P:=P) hT hsh iN (fun q hq=>h4 ho q (List.mem_append.2 (.inl hq))) (K:=wpAny P .any ops Q cu (ak.setIfInBounds i true)) (Q:=Q) fun a' w' cn=>by
    refine ih (ak.setIfInBounds i true) st1 F' a' w' o' (by simp[aU]) ?_ ?_ ?_ cn (by rw[fo];exact h2) (fun q hq=>h4 ho q (List.mem_append.2 (.inr hq))) fun F2 a2 w2 he iG=>hk F2 a2 w2 (h3.trans he) iG
    .rw[fo];rw[bS]at hle;simp at hle ⊢;omega
    .intro j hj k hk;rw[ZxA _ _ _ _ (by omega)]at hj ⊢;split
     .rfl
     .split at hj
      .rename_i e;subst e;exact fH k hk
      .exact kh j hj k hk
    .intro j o2 hj dx hc2;have hjm:j∈left ops.size ak:=by
      rw[bS];rw[fo]at hj;rcases List.mem_append.1 hj with hj|hj
      .exact List.mem_append.2 (.inl hj)
      .exact List.mem_append.2 (.inr (List.mem_cons_of_mem _ hj))
     have hji:j≠i:=by
      rintro rfl;simp only[left,List.mem_filter,Bool.not_eq_true']at hj;have h5:=hj.2;rw[ZxA _ _ _ _ (by omega),if_pos rfl]at h5;cases h5
     refine ZkD (hJ j o2 hjm dx hc2) (Zjd kl) (Zqj hck (ZtK ops ra j o2 dx hc2) hji fun h=>?_) iM;have:=fH j h;rw[iL j hjm]at this;cases this
   split
   .rename_i hw;rw[if_pos hw]at bP;exact .inl bP
   .rename_i hw;rw[if_neg hw]at bP;exact bP
theorem ZPr(hT:Zes P T)(hm:P.follows .mixedOrders=true){id:Nat}{st st':St}{a:Act}{w:World}{obl:List Prop}(hsh:ZcI N S0 w0 st a w)(h:ZEz P N T ops ra ag st=some (st',obl))(ho:∀q∈obl,q)
  (hk:∀a' w',ZcI N S0 w0 st' a' w'->Q .normal a' w'):(Code.region id ops true).wp P Q a w:=by
 unfold ZEz at h;split at h
 .rename_i hD hq;refine wp_region_any hm ?_;have hl:left ops.size (Array.replicate ops.size false)=List.range ops.size:=by
   unfold left;apply List.filter_eq_self.2;intro i hi;simp at hi;simp[Array.getD_eq_getD_getElem?,hi]
  have km:ZcI N S0 w0 st a { w with drawn:=w.drawn+1 }:=by
   obtain⟨S,m,hs,hg⟩:=hsh;exact⟨S,m,hs.grow (Nat.le_refl _) (fun _ _=>rfl) (fun _ h=>h) (fun _ h=>.inl h),hg.step ⟨rfl,rfl,rfl,Nat.le_refl _,fun _ _=>rfl,Nat.le_succ _⟩ (fun _ h=>h) (fun _ h=>.inl h)⟩
  refine ZNn hT hD ops.size _ st st' a _ obl (by simp) (by rw[hl];simp) (fun j hj=>?_) (fun j o hj hoj hc=>Zsw hq j _ (ZtK ops ra j o hoj hc)) km (by rw[hl];exact h) ho fun F' a' w' he cn=>?_
  .exfalso;simp only[Array.getD_eq_getD_getElem?,Array.getElem?_replicate]at hj;split at hj<;>simp at hj
  .exact hk a' w' (cn.eqv ⟨fun t=>(he.env t).symm,he.heap.symm⟩)
 .cases h
end
section
variable (P:Program) (N:Nat) (T:Tab) (ops:Array Oper) (ra:RA) (ag:List (List Nat))
end
section
variable {P:Program} {N:Nat} {T:Tab} {ops:Array Oper} {ra:RA} {ag:List (List Nat)} {Q:Exit->Act->World->Prop} {S0:Nat->Prop} {w0:ZeC}
end
end Go.Proofs.YtnigiacmmedkhaaGreat
