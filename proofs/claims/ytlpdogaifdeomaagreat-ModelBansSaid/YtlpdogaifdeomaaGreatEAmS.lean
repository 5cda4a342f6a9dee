import Derived.Test.YtlpdogaifdeomaaGreatEAmR
import Derived.Orders
namespace Go.Proofs.YtlpdogaifdeomaaGreat
open Go.RowKit
set_option linter.unusedSimpArgs false
set_option linter.unusedVariables false
def Zpk:List Edge->List Nat
 | []=>[]
 |e :: l=>match Region.binds .any e with
  |true=>e.on :: Zpk l
  |false=>Zpk l
def ZrP(o:Oper):List Nat:=Zpk o.after.toList
theorem ZuN{e:Edge}:∀{l:List Edge},e∈l->Region.binds .any e=true->e.on∈Zpk l
 | [],h,_=>by cases h
 |x :: l,h,hb=>by
  simp only[Zpk]
  rcases List.mem_cons.1 h with rfl|h
  .rw[hb];simp
  .have:=ZuN h hb
   split
   .exact List.mem_cons_of_mem _ this
   .exact this
theorem Zsz{k:Nat}:∀{l:List Edge},k∈Zpk l->∃e∈l,Region.binds .any e=true/\e.on=k
 | [],h=>by simp[Zpk]at h
 |x :: l,h=>by
  simp only[Zpk]at h
  split at h
  .rename_i hb
   rcases List.mem_cons.1 h with rfl|h
   .exact⟨x,by simp,hb,rfl⟩
   .obtain⟨e,h1,h2⟩:=Zsz h
    exact⟨e,by simp[h1],h2⟩
  .obtain⟨e,h1,h2⟩:=Zsz h
   exact⟨e,by simp[h1],h2⟩
def ZNI(N:Nat)(ops:Array Oper)(ra:RA)(al:List (List Nat))(i:Nat):Bool:=match ops[i]? with
 |none=>false
 |some o=>(ZrP o).all (fun k=>Nat.blt k i)&&(Zfk al i).all (fun k=>Nat.blt k i&&(memN k (ZrP o)||(ZrP o).any fun j=>memN k (Zfk al j)))&&ZwU ra i o &&
   (List.range i).all fun k=>memN k (Zfk al i)||Zsh N ops ra al k i
def ZDp(N:Nat)(ops:Array Oper)(ra:RA)(al:List (List Nat)):Bool:=match ra.fz with
 | []=>(List.range ops.size).all (ZNI N ops ra al)
 |_=>false
theorem ZEm{ra:RA}{i:Nat}{o:Oper}:∀{l:List Oper}{k:Nat},l[i]?=some o->clsX ra (k+i) o=3->(k+i,o.dst.getD 0)∈Zrg ra k l:=by
 induction i with
 |zero=>
  intro l k h hc;cases l with
  |nil=>simp at h
  |cons x l=>
   simp only[List.getElem?_cons_zero,Option.some.injEq]at h;subst h;rw[Nat.add_zero]at hc ⊢;simp[Zrg,hc]
 |succ i ih=>
  intro l k h hc;cases l with
  |nil=>simp at h
  |cons x l=>
   have h2:=ih (l:=l) (k:=k+1) (by simpa using h) (by rw[show k+1+i=k+(i+1)by omega];exact hc);rw[show k+1+i=k+(i+1)by omega]at h2;simp only[Zrg];split
   .exact List.mem_cons_of_mem _ h2
   .exact h2
theorem Zuc(ops:Array Oper)(ra:RA):ZAg ops ra (Zrg ra 0 ops.toList):=by
 intro i o ho hc;have:=ZEm (ra:=ra) (i:=i) (o:=o) (l:=ops.toList) (k:=0) (by simpa using ho) (by rw[Nat.zero_add];exact hc);rwa [Nat.zero_add]at this
def Ztg(N:Nat)(st:St):List (Nat×Nat)->Bool
 | []=>true
 | (_,d) :: l=>match Zhz st d N with
  |true=>Ztg N st l
  |false=>false
theorem ZsK{N:Nat}{st:St}:∀{l:List (Nat×Nat)},Ztg N st l=true->∀i d,(i,d)∈l->Zhz st d N=true
 | [],_,i,d,h=>by cases h
 | (j,d') :: l,hq,i,d,h=>by
  simp only[Ztg]at hq
  split at hq
  .rename_i h1
   rcases List.mem_cons.1 h with h|h
   .cases h;exact h1
   .exact ZsK hq i d h
  .cases hq
def ZBT(P:Program)(N:Nat)(T:Tab)(ops:Array Oper)(ra:RA)(al:List (List Nat))(st:St):Option (St×List Prop):=match ZDp N ops ra al,Ztg N st (Zrg ra 0 ops.toList)with
 |true,true=>ZsV P N T ops ra al (Zrg ra 0 ops.toList) (List.range ops.size) st
 |_,_=>none
section
variable {P:Program} {N:Nat} {T:Tab} {ops:Array Oper} {ra:RA} {al:List (List Nat)} {Q:Exit->Act->World->Prop} {S0:Nat->Prop} {w0:ZeB}
theorem ZwF(h:ZDp N ops ra al=true){i:Nat}(hi:i<ops.size):∃o,ops[i]?=some o/\(∀k∈ZrP o,k<i)/\(∀k∈Zfk al i,k<i/\(k∈ZrP o\/∃j∈ZrP o,k∈Zfk al j))/\ZwU ra i o=true/\∀k,k<i->k ∉ Zfk al i->Zsh N ops ra al k i=true:=by
 unfold ZDp at h;split at h
 .have:=List.all_eq_true.1 h i (List.mem_range.2 hi);unfold ZNI at this;split at this
  .cases this
  .rename_i o ho;simp only[Bool.and_eq_true,List.all_eq_true,Bool.or_eq_true,List.any_eq_true,List.mem_range]at this;obtain⟨⟨⟨h1,h2⟩,h3⟩,h4⟩:=this;refine⟨o,ho,fun k hk=>Nat.le_of_ble_eq_true (h1 k hk),fun k hk=>?_,h3,fun k hk hn=>?_⟩
   .obtain⟨h5,h6⟩:=h2 k hk;refine⟨Nat.le_of_ble_eq_true h5,?_⟩;rcases h6 with h6|⟨j,h6,h7⟩
    .exact .inl (Zpz.1 h6)
    .exact .inr ⟨j,h6,Zpz.1 h7⟩
   .rcases h4 k hk with h5|h5
    .exact absurd (Zpz.1 h5) hn
    .exact h5
 .cases h
def left(n:Nat)(ax:Array Bool):List Nat:=(List.range n).filter fun i=>!ax.getD i true
theorem Zue{ax:Array Bool}{i:Nat}:i∈Region.ready .any ops ax↔i<ops.size/\ax.getD i true=false/\∃o,ops[i]?=some o/\∀k∈ZrP o,ax.getD k false=true:=by
 unfold Region.ready;simp only[List.mem_filter,List.mem_range,Bool.and_eq_true,Bool.not_eq_true'];constructor
 .rintro ⟨h1,h2,h3⟩;refine⟨h1,h2,ops[i],by simp[h1],fun k hk=>?_⟩;rw[show ops[i]?=some ops[i]by simp[h1]]at h3;obtain⟨e,h4,h5,rfl⟩:=Zsz hk;simp only[Option.map_some,Option.getD_some,Array.all_eq_true_iff_forall_mem,Bool.or_eq_true,Bool.not_eq_true']at h3;rcases h3 e (by simpa using h4)with h6|h6
  .rw[h5]at h6;cases h6
  .exact h6
 .rintro ⟨h1,h2,o,ho,h3⟩;refine⟨h1,h2,?_⟩;rw[ho];simp only[Option.map_some,Option.getD_some,Array.all_eq_true_iff_forall_mem,Bool.or_eq_true,Bool.not_eq_true'];intro e he;cases hb:Region.binds .any e with
  |false=>exact .inl rfl
  |true=>exact .inr (h3 _ (ZuN (by simpa using he) hb))
theorem Zxn(ax:Array Bool)(i j:Nat)(d:Bool)(hi:i<ax.size):(ax.setIfInBounds i true).getD j d=if i=j then true else ax.getD j d:=by
 simp only[Array.getD_eq_getD_getElem?,Array.getElem?_setIfInBounds];split
 .simp[*]
 .rfl
theorem ZLw(hT:Zea P T)(hD:ZDp N ops ra al=true):∀(fuel:Nat)(ax:Array Bool)(st F:St)(a:Act)(w:World)(obl:List Prop),ax.size=ops.size->(left ops.size ax).length<=fuel ->
  (∀j,ax.getD j false=true->∀k∈Zfk al j,ax.getD k false=true)->(∀j o,j∈left ops.size ax->ops[j]?=some o->clsX ra j o=3->Zhz st (o.dst.getD 0) N=true) ->
  ZcI N S0 w0 st a w->ZsV P N T ops ra al (Zrg ra 0 ops.toList) (left ops.size ax) st=some (F,obl)->(∀q∈obl,q)->(∀F' a' w',Eqv F F'->ZcI N S0 w0 F' a' w'->Q .normal a' w')->wpAny P .any ops Q fuel ax a w:=by
 intro fuel;have hcls:∀i o,ops[i]?=some o->ZwU ra i o=true:=fun i o ho=>by
  obtain⟨o',h1,_,_,h4,_⟩:=ZwF hD (Array.getElem?_eq_some_iff.1 ho).1;rw[ho]at h1;cases h1;exact h4
 have jT:∀(ax:Array Bool),ax.size=ops.size->Region.ready .any ops ax=[]->left ops.size ax=[]:=by
  intro ax aX hr;cases hl:left ops.size ax with
  |nil=>rfl
  |cons i l=>
   exfalso;have hm:i∈left ops.size ax:=by rw[hl];simp
   have dM:∀k,k<i->ax.getD k true=true:=by
    intro k hk;cases hk2:ax.getD k true with
    |true=>rfl
    |false=>
     exfalso;have hs:List.Pairwise (·< ·) (left ops.size ax):=List.Pairwise.filter _ List.pairwise_lt_range;have hi:i<ops.size:=by simp[left]at hm;exact hm.1
     have jv:k∈left ops.size ax:=by simp only[left,List.mem_filter,List.mem_range,Bool.not_eq_true'];exact⟨by omega,hk2⟩
     rw[hl]at hs jv;rcases List.mem_cons.1 jv with rfl|jv
     .omega
     .have:=(List.pairwise_cons.1 hs).1 k jv;omega
   have hi:i<ops.size/\ax.getD i true=false:=by simpa[left]using hm
   obtain⟨o,ho,hd,_⟩:=ZwF hD hi.1;have:i∈Region.ready .any ops ax:=Zue.2 ⟨hi.1,hi.2,o,ho,fun k hk=>by
    have hki:=hd k hk;have h1:=dM k hki;have lM:k<ax.size:=by omega
    simp only[Array.getD_eq_getD_getElem?,Array.getElem?_eq_getElem lM,Option.getD_some]at h1 ⊢;exact h1⟩
   rw[hr]at this;cases this
 induction fuel with
 |zero=>
  intro ax st F a w obl aX hle lN hJ hsh dJ ho hk;have hl:left ops.size ax=[]:=List.eq_nil_of_length_eq_zero (by omega);rw[hl]at dJ;cases dJ;refine⟨?_,hk _ a w (Eqv.refl _) hsh⟩;cases hr:Region.ready .any ops ax with
  |nil=>rfl
  |cons i l=>
   have hm:i∈Region.ready .any ops ax:=by rw[hr];simp
   obtain⟨h1,h2,_⟩:=Zue.1 hm;have:i∈left ops.size ax:=by simp only[left,List.mem_filter,List.mem_range,Bool.not_eq_true'];exact⟨h1,h2⟩
   rw[hl]at this;cases this
 |succ fuel ih=>
  intro ax st F a w obl aX hle lN hJ hsh dJ ho hk;refine⟨fun hr=>?_,fun i hi=>?_⟩
  .rw[jT ax aX hr]at dJ;cases dJ;exact hk _ a w (Eqv.refl _) hsh
  .obtain⟨hi1,bC,o,lO,jU⟩:=Zue.1 hi;have him:i∈left ops.size ax:=by simp only[left,List.mem_filter,List.mem_range,Bool.not_eq_true'];exact⟨hi1,bC⟩
   obtain⟨g4,post,bI⟩:=List.append_of_mem him;have jV:(left ops.size ax).Nodup:=List.Pairwise.filter _ List.nodup_range;have k4:List.Pairwise (·< ·) (left ops.size ax):=List.Pairwise.filter _ List.pairwise_lt_range;obtain⟨o',ho',hd,hp,hc,jW⟩:=ZwF hD hi1;rw[lO]at ho';cases ho';have ic:∀k∈Zfk al i,ax.getD k false=true:=by
    intro k hk;rcases(hp k hk).2 with h|⟨j,h,h2⟩
    .exact jU k h
    .exact lN j (jU j h) k h2
   have jX:∀k∈left ops.size ax,ax.getD k false=false:=by
    intro k hk;simp only[left,List.mem_filter,List.mem_range,Bool.not_eq_true']at hk;have lM:k<ax.size:=by omega
    have:=hk.2;simp only[Array.getD_eq_getD_getElem?,Array.getElem?_eq_getElem lM,Option.getD_some]at this ⊢;exact this
   have lP:∀k∈g4,Zsh N ops ra al k i=true/\k≠i/\k ∉ Zfk al i/\i ∉ Zfk al k:=by
    intro k hk;have jv:k∈left ops.size ax:=by rw[bI];simp[hk]
    have hlt:k<i:=by
     rw[bI]at k4;exact(List.pairwise_append.1 k4).2.2 k hk i (by simp)
    have hnp:k ∉ Zfk al i:=fun h=>by have:=ic k h;rw[jX k jv]at this;cases this
    refine⟨jW k hlt hnp,by omega,hnp,fun h=>?_⟩;have cn:k<ops.size:=by omega
    obtain⟨_,_,_,fo,_⟩:=ZwF hD cn;have:=(fo i h).1;omega
   rw[bI]at dJ;obtain⟨st1,oi,F',o',h1,h2,h3,h4⟩:=ZuC (Zuc ops ra) (fun j _=>hcls j) lP (fun o2 dH hc2=>hJ i o2 him dH hc2) dJ;have gl:left ops.size (ax.setIfInBounds i true)=g4++post:=by
    have e1:left ops.size (ax.setIfInBounds i true)=(left ops.size ax).filter (fun j=>decide (j≠i)):=by
     unfold left;rw[List.filter_filter];apply List.filter_congr;intro j hj;rw[Zxn _ _ _ _ (by omega)];by_cases e:i=j
     .subst e;simp
     .simp[e,Ne.symm e]
    rw[e1,bI,List.filter_append,List.filter_cons];rw[bI]at jV;obtain⟨n1,n2,n3⟩:=List.nodup_append.1 jV;have n4:=(List.nodup_cons.1 n2).1;rw[if_neg (by simp)];rw[List.filter_eq_self.2 (fun x hx=>by simp;exact fun e=>n3 x hx i (by simp) e),List.filter_eq_self.2 (fun x hx=>by simp;rintro rfl;exact n4 hx)]
   obtain⟨o2,v,s1,dH,hr,hck,g5⟩:=Zdi h1;rw[lO]at dH;cases dH;have jY:Zsg P N T ops ra i o st=some (st1,oi):=ZEi hr g5;have lQ:=Zpx hr;unfold wpOp;rw[lO];simp only;have bk:=ZvR (P:=P) hT hsh jY (fun q hq=>h4 ho q (List.mem_append.2 (.inl hq))) (K:=wpAny P .any ops Q fuel (ax.setIfInBounds i true)) (Q:=Q) fun a' w' dq=>by
    refine ih (ax.setIfInBounds i true) st1 F' a' w' o' (by simp[aX]) ?_ ?_ ?_ dq (by rw[gl];exact h2) (fun q hq=>h4 ho q (List.mem_append.2 (.inr hq))) fun F2 a2 w2 he ju=>hk F2 a2 w2 (h3.trans he) ju
    .rw[gl];rw[bI]at hle;simp at hle ⊢;omega
    .intro j hj k hk;rw[Zxn _ _ _ _ (by omega)]at hj ⊢;split
     .rfl
     .split at hj
      .rename_i e;subst e;exact ic k hk
      .exact lN j hj k hk
    .intro j o2 hj dH hc2;have hjm:j∈left ops.size ax:=by
      rw[bI];rw[gl]at hj;rcases List.mem_append.1 hj with hj|hj
      .exact List.mem_append.2 (.inl hj)
      .exact List.mem_append.2 (.inr (List.mem_cons_of_mem _ hj))
     have hji:j≠i:=by
      rintro rfl;simp only[left,List.mem_filter,Bool.not_eq_true']at hj;have h5:=hj.2;rw[Zxn _ _ _ _ (by omega),if_pos rfl]at h5;cases h5
     refine Zlh (hJ j o2 hjm dH hc2) (ZiL lQ) (ZpM hck (Zuc ops ra j o2 dH hc2) hji fun h=>?_) g5;have:=ic j h;rw[jX j hjm]at this;cases this
   split
   .rename_i hw;rw[if_pos hw]at bk;exact .inl bk
   .rename_i hw;rw[if_neg hw]at bk;exact bk
theorem ZNk(hT:Zea P T)(hm:P.follows .mixedOrders=true){id:Nat}{st st':St}{a:Act}{w:World}{obl:List Prop}(hsh:ZcI N S0 w0 st a w)(h:ZBT P N T ops ra al st=some (st',obl))(ho:∀q∈obl,q)
  (hk:∀a' w',ZcI N S0 w0 st' a' w'->Q .normal a' w'):(Code.region id ops true).wp P Q a w:=by
 unfold ZBT at h;split at h
 .rename_i hD hq;refine wp_region_any hm ?_;have hl:left ops.size (Array.replicate ops.size false)=List.range ops.size:=by
   unfold left;apply List.filter_eq_self.2;intro i hi;simp at hi;simp[Array.getD_eq_getD_getElem?,hi]
  have lR:ZcI N S0 w0 st a { w with drawn:=w.drawn+1 }:=by
   obtain⟨S,m,hs,hg⟩:=hsh;exact⟨S,m,hs.grow (Nat.le_refl _) (fun _ _=>rfl) (fun _ h=>h) (fun _ h=>.inl h),hg.step ⟨rfl,rfl,rfl,Nat.le_refl _,fun _ _=>rfl,Nat.le_succ _⟩ (fun _ h=>h) (fun _ h=>.inl h)⟩
  refine ZLw hT hD ops.size _ st st' a _ obl (by simp) (by rw[hl];simp) (fun j hj=>?_) (fun j o hj hoj hc=>ZsK hq j _ (Zuc ops ra j o hoj hc)) lR (by rw[hl];exact h) ho fun F' a' w' he dq=>?_
  .exfalso;simp only[Array.getD_eq_getD_getElem?,Array.getElem?_replicate]at hj;split at hj<;>simp at hj
  .exact hk a' w' (dq.eqv ⟨fun t=>(he.env t).symm,he.heap.symm⟩)
 .cases h
end
section
variable (P:Program) (N:Nat) (T:Tab) (ops:Array Oper) (ra:RA) (al:List (List Nat))
end
section
variable {P:Program} {N:Nat} {T:Tab} {ops:Array Oper} {ra:RA} {al:List (List Nat)} {Q:Exit->Act->World->Prop} {S0:Nat->Prop} {w0:ZeB}
end
end Go.Proofs.YtlpdogaifdeomaaGreat
