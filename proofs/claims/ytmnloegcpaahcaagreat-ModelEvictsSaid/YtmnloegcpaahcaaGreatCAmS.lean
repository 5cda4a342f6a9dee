import Derived.Test.YtmnloegcpaahcaaGreatCAmR
import Derived.Orders
namespace Go.Proofs.YtmnloegcpaahcaaGreat
open Go.RowKit
set_option linter.unusedSimpArgs false
set_option linter.unusedVariables false
def ZqM:List Edge->List Nat
 | []=>[]
 |e :: l=>match Region.binds .any e with
  |true=>e.on :: ZqM l
  |false=>ZqM l
def Ztb(o:Oper):List Nat:=ZqM o.after.toList
theorem Zwh{e:Edge}:∀{l:List Edge},e∈l->Region.binds .any e=true->e.on∈ZqM l
 | [],h,_=>by cases h
 |x :: l,h,hb=>by
  simp only[ZqM]
  rcases List.mem_cons.1 h with rfl|h
  .rw[hb];simp
  .have:=Zwh h hb
   split
   .exact List.mem_cons_of_mem _ this
   .exact this
theorem ZtJ{k:Nat}:∀{l:List Edge},k∈ZqM l->∃e∈l,Region.binds .any e=true/\e.on=k
 | [],h=>by simp[ZqM]at h
 |x :: l,h=>by
  simp only[ZqM]at h
  split at h
  .rename_i hb
   rcases List.mem_cons.1 h with rfl|h
   .exact⟨x,by simp,hb,rfl⟩
   .obtain⟨e,h1,h2⟩:=ZtJ h
    exact⟨e,by simp[h1],h2⟩
  .obtain⟨e,h1,h2⟩:=ZtJ h
   exact⟨e,by simp[h1],h2⟩
def ZKQ(N:Nat)(ops:Array Oper)(ra:RA)(ah:List (List Nat))(i:Nat):Bool:=match ops[i]? with
 |none=>false
 |some o=>(Ztb o).all (fun k=>Nat.blt k i)&&(Zgb ah i).all (fun k=>Nat.blt k i&&(memN k (Ztb o)||(Ztb o).any fun j=>memN k (Zgb ah j)))&&Zyl ra i o &&
   (List.range i).all fun k=>memN k (Zgb ah i)||Ztp N ops ra ah k i
def ZDu(N:Nat)(ops:Array Oper)(ra:RA)(ah:List (List Nat)):Bool:=match ra.fz with
 | []=>(List.range ops.size).all (ZKQ N ops ra ah)
 |_=>false
theorem ZEs{ra:RA}{i:Nat}{o:Oper}:∀{l:List Oper}{k:Nat},l[i]?=some o->clsX ra (k+i) o=3->(k+i,o.dst.getD 0)∈Zsq ra k l:=by
 induction i with
 |zero=>
  intro l k h hc;cases l with
  |nil=>simp at h
  |cons x l=>
   simp only[List.getElem?_cons_zero,Option.some.injEq]at h;subst h;rw[Nat.add_zero]at hc ⊢;simp[Zsq,hc]
 |succ i ih=>
  intro l k h hc;cases l with
  |nil=>simp at h
  |cons x l=>
   have h2:=ih (l:=l) (k:=k+1) (by simpa using h) (by rw[show k+1+i=k+(i+1)by omega];exact hc);rw[show k+1+i=k+(i+1)by omega]at h2;simp only[Zsq];split
   .exact List.mem_cons_of_mem _ h2
   .exact h2
theorem Zvq(ops:Array Oper)(ra:RA):ZAO ops ra (Zsq ra 0 ops.toList):=by
 intro i o ho hc;have:=ZEs (ra:=ra) (i:=i) (o:=o) (l:=ops.toList) (k:=0) (by simpa using ho) (by rw[Nat.zero_add];exact hc);rwa [Nat.zero_add]at this
def ZuA(N:Nat)(st:St):List (Nat×Nat)->Bool
 | []=>true
 | (_,d) :: l=>match Zia st d N with
  |true=>ZuA N st l
  |false=>false
theorem ZtV{N:Nat}{st:St}:∀{l:List (Nat×Nat)},ZuA N st l=true->∀i d,(i,d)∈l->Zia st d N=true
 | [],_,i,d,h=>by cases h
 | (j,d') :: l,hq,i,d,h=>by
  simp only[ZuA]at hq
  split at hq
  .rename_i h1
   rcases List.mem_cons.1 h with h|h
   .cases h;exact h1
   .exact ZtV hq i d h
  .cases hq
def ZCd(P:Program)(N:Nat)(T:Tab)(ops:Array Oper)(ra:RA)(ah:List (List Nat))(st:St):Option (St×List Prop):=match ZDu N ops ra ah,ZuA N st (Zsq ra 0 ops.toList)with
 |true,true=>Zuq P N T ops ra ah (Zsq ra 0 ops.toList) (List.range ops.size) st
 |_,_=>none
section
variable {P:Program} {N:Nat} {T:Tab} {ops:Array Oper} {ra:RA} {ah:List (List Nat)} {Q:Exit->Act->World->Prop} {S0:Nat->Prop} {w0:ZaY}
theorem ZxW(h:ZDu N ops ra ah=true){i:Nat}(hi:i<ops.size):∃o,ops[i]?=some o/\(∀k∈Ztb o,k<i)/\(∀k∈Zgb ah i,k<i/\(k∈Ztb o\/∃j∈Ztb o,k∈Zgb ah j))/\Zyl ra i o=true/\∀k,k<i->k ∉ Zgb ah i->Ztp N ops ra ah k i=true:=by
 unfold ZDu at h;split at h
 .have:=List.all_eq_true.1 h i (List.mem_range.2 hi);unfold ZKQ at this;split at this
  .cases this
  .rename_i o ho;simp only[Bool.and_eq_true,List.all_eq_true,Bool.or_eq_true,List.any_eq_true,List.mem_range]at this;obtain⟨⟨⟨h1,h2⟩,h3⟩,h4⟩:=this;refine⟨o,ho,fun k hk=>Nat.le_of_ble_eq_true (h1 k hk),fun k hk=>?_,h3,fun k hk hn=>?_⟩
   .obtain⟨h5,h6⟩:=h2 k hk;refine⟨Nat.le_of_ble_eq_true h5,?_⟩;rcases h6 with h6|⟨j,h6,h7⟩
    .exact .inl (ZqZ.1 h6)
    .exact .inr ⟨j,h6,ZqZ.1 h7⟩
   .rcases h4 k hk with h5|h5
    .exact absurd (ZqZ.1 h5) hn
    .exact h5
 .cases h
def left(n:Nat)(ap:Array Bool):List Nat:=(List.range n).filter fun i=>!ap.getD i true
theorem Zvs{ap:Array Bool}{i:Nat}:i∈Region.ready .any ops ap↔i<ops.size/\ap.getD i true=false/\∃o,ops[i]?=some o/\∀k∈Ztb o,ap.getD k false=true:=by
 unfold Region.ready;simp only[List.mem_filter,List.mem_range,Bool.and_eq_true,Bool.not_eq_true'];constructor
 .rintro ⟨h1,h2,h3⟩;refine⟨h1,h2,ops[i],by simp[h1],fun k hk=>?_⟩;rw[show ops[i]?=some ops[i]by simp[h1]]at h3;obtain⟨e,h4,h5,rfl⟩:=ZtJ hk;simp only[Option.map_some,Option.getD_some,Array.all_eq_true_iff_forall_mem,Bool.or_eq_true,Bool.not_eq_true']at h3;rcases h3 e (by simpa using h4)with h6|h6
  .rw[h5]at h6;cases h6
  .exact h6
 .rintro ⟨h1,h2,o,ho,h3⟩;refine⟨h1,h2,?_⟩;rw[ho];simp only[Option.map_some,Option.getD_some,Array.all_eq_true_iff_forall_mem,Bool.or_eq_true,Bool.not_eq_true'];intro e he;cases hb:Region.binds .any e with
  |false=>exact .inl rfl
  |true=>exact .inr (h3 _ (Zwh (by simpa using he) hb))
theorem Zyz(ap:Array Bool)(i j:Nat)(d:Bool)(hi:i<ap.size):(ap.setIfInBounds i true).getD j d=if i=j then true else ap.getD j d:=by
 simp only[Array.getD_eq_getD_getElem?,Array.getElem?_setIfInBounds];split
 .simp[*]
 .rfl
theorem ZJc(hT:Zey P T)(hD:ZDu N ops ra ah=true):∀(fuel:Nat)(ap:Array Bool)(st F:St)(a:Act)(w:World)(obl:List Prop),ap.size=ops.size->(left ops.size ap).length<=fuel ->
  (∀j,ap.getD j false=true->∀k∈Zgb ah j,ap.getD k false=true)->(∀j o,j∈left ops.size ap->ops[j]?=some o->clsX ra j o=3->Zia st (o.dst.getD 0) N=true) ->
  ZcQ N S0 w0 st a w->Zuq P N T ops ra ah (Zsq ra 0 ops.toList) (left ops.size ap) st=some (F,obl)->(∀q∈obl,q)->(∀F' a' w',Eqv F F'->ZcQ N S0 w0 F' a' w'->Q .normal a' w')->wpAny P .any ops Q fuel ap a w:=by
 intro fuel;have hcls:∀i o,ops[i]?=some o->Zyl ra i o=true:=fun i o ho=>by
  obtain⟨o',h1,_,_,h4,_⟩:=ZxW hD (Array.getElem?_eq_some_iff.1 ho).1;rw[ho]at h1;cases h1;exact h4
 have i3:∀(ap:Array Bool),ap.size=ops.size->Region.ready .any ops ap=[]->left ops.size ap=[]:=by
  intro ap aQ hr;cases hl:left ops.size ap with
  |nil=>rfl
  |cons i l=>
   exfalso;have hm:i∈left ops.size ap:=by rw[hl];simp
   have cR:∀k,k<i->ap.getD k true=true:=by
    intro k hk;cases hk2:ap.getD k true with
    |true=>rfl
    |false=>
     exfalso;have hs:List.Pairwise (·< ·) (left ops.size ap):=List.Pairwise.filter _ List.pairwise_lt_range;have hi:i<ops.size:=by simp[left]at hm;exact hm.1
     have iB:k∈left ops.size ap:=by simp only[left,List.mem_filter,List.mem_range,Bool.not_eq_true'];exact⟨by omega,hk2⟩
     rw[hl]at hs iB;rcases List.mem_cons.1 iB with rfl|iB
     .omega
     .have:=(List.pairwise_cons.1 hs).1 k iB;omega
   have hi:i<ops.size/\ap.getD i true=false:=by simpa[left]using hm
   obtain⟨o,ho,hd,_⟩:=ZxW hD hi.1;have:i∈Region.ready .any ops ap:=Zvs.2 ⟨hi.1,hi.2,o,ho,fun k hk=>by
    have hki:=hd k hk;have h1:=cR k hki;have kR:k<ap.size:=by omega
    simp only[Array.getD_eq_getD_getElem?,Array.getElem?_eq_getElem kR,Option.getD_some]at h1 ⊢;exact h1⟩
   rw[hr]at this;cases this
 induction fuel with
 |zero=>
  intro ap st F a w obl aQ hle kS hJ hsh cO ho hk;have hl:left ops.size ap=[]:=List.eq_nil_of_length_eq_zero (by omega);rw[hl]at cO;cases cO;refine⟨?_,hk _ a w (Eqv.refl _) hsh⟩;cases hr:Region.ready .any ops ap with
  |nil=>rfl
  |cons i l=>
   have hm:i∈Region.ready .any ops ap:=by rw[hr];simp
   obtain⟨h1,h2,_⟩:=Zvs.1 hm;have:i∈left ops.size ap:=by simp only[left,List.mem_filter,List.mem_range,Bool.not_eq_true'];exact⟨h1,h2⟩
   rw[hl]at this;cases this
 |succ fuel ih=>
  intro ap st F a w obl aQ hle kS hJ hsh cO ho hk;refine⟨fun hr=>?_,fun i hi=>?_⟩
  .rw[i3 ap aQ hr]at cO;cases cO;exact hk _ a w (Eqv.refl _) hsh
  .obtain⟨hi1,a8,o,kT,i4⟩:=Zvs.1 hi;have him:i∈left ops.size ap:=by simp only[left,List.mem_filter,List.mem_range,Bool.not_eq_true'];exact⟨hi1,a8⟩
   obtain⟨fT,post,bw⟩:=List.append_of_mem him;have hnd:(left ops.size ap).Nodup:=List.Pairwise.filter _ List.nodup_range;have j3:List.Pairwise (·< ·) (left ops.size ap):=List.Pairwise.filter _ List.pairwise_lt_range;obtain⟨o',ho',hd,hp,hc,i5⟩:=ZxW hD hi1;rw[kT]at ho';cases ho';have gn:∀k∈Zgb ah i,ap.getD k false=true:=by
    intro k hk;rcases(hp k hk).2 with h|⟨j,h,h2⟩
    .exact i4 k h
    .exact kS j (i4 j h) k h2
   have i6:∀k∈left ops.size ap,ap.getD k false=false:=by
    intro k hk;simp only[left,List.mem_filter,List.mem_range,Bool.not_eq_true']at hk;have kR:k<ap.size:=by omega
    have:=hk.2;simp only[Array.getD_eq_getD_getElem?,Array.getElem?_eq_getElem kR,Option.getD_some]at this ⊢;exact this
   have kU:∀k∈fT,Ztp N ops ra ah k i=true/\k≠i/\k ∉ Zgb ah i/\i ∉ Zgb ah k:=by
    intro k hk;have iB:k∈left ops.size ap:=by rw[bw];simp[hk]
    have hlt:k<i:=by
     rw[bw]at j3;exact(List.pairwise_append.1 j3).2.2 k hk i (by simp)
    have hnp:k ∉ Zgb ah i:=fun h=>by have:=gn k h;rw[i6 k iB]at this;cases this
    refine⟨i5 k hlt hnp,by omega,hnp,fun h=>?_⟩;have bL:k<ops.size:=by omega
    obtain⟨_,_,_,fD,_⟩:=ZxW hD bL;have:=(fD i h).1;omega
   rw[bw]at cO;obtain⟨st1,oi,F',o',h1,h2,h3,h4⟩:=ZvS (Zvq ops ra) (fun j _=>hcls j) kU (fun o2 c5 hc2=>hJ i o2 him c5 hc2) cO;have eK:left ops.size (ap.setIfInBounds i true)=fT++post:=by
    have e1:left ops.size (ap.setIfInBounds i true)=(left ops.size ap).filter (fun j=>decide (j≠i)):=by
     unfold left;rw[List.filter_filter];apply List.filter_congr;intro j hj;rw[Zyz _ _ _ _ (by omega)];by_cases e:i=j
     .subst e;simp
     .simp[e,Ne.symm e]
    rw[e1,bw,List.filter_append,List.filter_cons];rw[bw]at hnd;obtain⟨n1,n2,n3⟩:=List.nodup_append.1 hnd;have n4:=(List.nodup_cons.1 n2).1;rw[if_neg (by simp)];rw[List.filter_eq_self.2 (fun x hx=>by simp;exact fun e=>n3 x hx i (by simp) e),List.filter_eq_self.2 (fun x hx=>by simp;rintro rfl;exact n4 hx)]
   obtain⟨o2,v,s1,c5,hr,hck,i7⟩:=Zdt h1;rw[kT]at c5;cases c5;have i9:Zto P N T ops ra i o st=some (st1,oi):=ZEo hr i7;have kV:=ZqX hr;unfold wpOp;rw[kT];simp only;have bn:=Zxk (P:=P) hT hsh i9 (fun q hq=>h4 ho q (List.mem_append.2 (.inl hq))) (K:=wpAny P .any ops Q fuel (ap.setIfInBounds i true)) (Q:=Q) fun a' w' cr=>by
    refine ih (ap.setIfInBounds i true) st1 F' a' w' o' (by simp[aQ]) ?_ ?_ ?_ cr (by rw[eK];exact h2) (fun q hq=>h4 ho q (List.mem_append.2 (.inr hq))) fun F2 a2 w2 he iA=>hk F2 a2 w2 (h3.trans he) iA
    .rw[eK];rw[bw]at hle;simp at hle ⊢;omega
    .intro j hj k hk;rw[Zyz _ _ _ _ (by omega)]at hj ⊢;split
     .rfl
     .split at hj
      .rename_i e;subst e;exact gn k hk
      .exact kS j hj k hk
    .intro j o2 hj c5 hc2;have hjm:j∈left ops.size ap:=by
      rw[bw];rw[eK]at hj;rcases List.mem_append.1 hj with hj|hj
      .exact List.mem_append.2 (.inl hj)
      .exact List.mem_append.2 (.inr (List.mem_cons_of_mem _ hj))
     have hji:j≠i:=by
      rintro rfl;simp only[left,List.mem_filter,Bool.not_eq_true']at hj;have h5:=hj.2;rw[Zyz _ _ _ _ (by omega),if_pos rfl]at h5;cases h5
     refine Zlj (hJ j o2 hjm c5 hc2) (ZiV kV) (Zrh hck (Zvq ops ra j o2 c5 hc2) hji fun h=>?_) i7;have:=gn j h;rw[i6 j hjm]at this;cases this
   split
   .rename_i hw;rw[if_pos hw]at bn;exact .inl bn
   .rename_i hw;rw[if_neg hw]at bn;exact bn
theorem ZKs(hT:Zey P T)(hm:P.follows .mixedOrders=true){id:Nat}{st st':St}{a:Act}{w:World}{obl:List Prop}(hsh:ZcQ N S0 w0 st a w)(h:ZCd P N T ops ra ah st=some (st',obl))(ho:∀q∈obl,q)
  (hk:∀a' w',ZcQ N S0 w0 st' a' w'->Q .normal a' w'):(Code.region id ops true).wp P Q a w:=by
 unfold ZCd at h;split at h
 .rename_i hD hq;refine wp_region_any hm ?_;have hl:left ops.size (Array.replicate ops.size false)=List.range ops.size:=by
   unfold left;apply List.filter_eq_self.2;intro i hi;simp at hi;simp[Array.getD_eq_getD_getElem?,hi]
  have kW:ZcQ N S0 w0 st a { w with drawn:=w.drawn+1 }:=by
   obtain⟨S,m,hs,hg⟩:=hsh;exact⟨S,m,hs.grow (Nat.le_refl _) (fun _ _=>rfl) (fun _ h=>h) (fun _ h=>.inl h),hg.step ⟨rfl,rfl,rfl,Nat.le_refl _,fun _ _=>rfl,Nat.le_succ _⟩ (fun _ h=>h) (fun _ h=>.inl h)⟩
  refine ZJc hT hD ops.size _ st st' a _ obl (by simp) (by rw[hl];simp) (fun j hj=>?_) (fun j o hj hoj hc=>ZtV hq j _ (Zvq ops ra j o hoj hc)) kW (by rw[hl];exact h) ho fun F' a' w' he cr=>?_
  .exfalso;simp only[Array.getD_eq_getD_getElem?,Array.getElem?_replicate]at hj;split at hj<;>simp at hj
  .exact hk a' w' (cr.eqv ⟨fun t=>(he.env t).symm,he.heap.symm⟩)
 .cases h
end
section
variable (P:Program) (N:Nat) (T:Tab) (ops:Array Oper) (ra:RA) (ah:List (List Nat))
end
section
variable {P:Program} {N:Nat} {T:Tab} {ops:Array Oper} {ra:RA} {ah:List (List Nat)} {Q:Exit->Act->World->Prop} {S0:Nat->Prop} {w0:ZaY}
end
end Go.Proofs.YtmnloegcpaahcaaGreat
