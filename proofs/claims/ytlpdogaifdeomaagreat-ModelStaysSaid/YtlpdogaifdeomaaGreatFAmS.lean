import Derived.Test.YtlpdogaifdeomaaGreatFAmR
import Derived.Orders
namespace Go.Proofs.YtlpdogaifdeomaaGreat
open Go.RowKit
set_option linter.unusedSimpArgs false
set_option linter.unusedVariables false
def ZqJ:List Edge->List Nat
 | []=>[]
 |e :: l=>match Region.binds .any e with
  |true=>e.on :: ZqJ l
  |false=>ZqJ l
def Ztf(o:Oper):List Nat:=ZqJ o.after.toList
theorem Zwo{e:Edge}:∀{l:List Edge},e∈l->Region.binds .any e=true->e.on∈ZqJ l
 | [],h,_=>by cases h
 |x :: l,h,hb=>by
  simp only[ZqJ]
  rcases List.mem_cons.1 h with rfl|h
  .rw[hb];simp
  .have:=Zwo h hb
   split
   .exact List.mem_cons_of_mem _ this
   .exact this
theorem ZtQ{k:Nat}:∀{l:List Edge},k∈ZqJ l->∃e∈l,Region.binds .any e=true/\e.on=k
 | [],h=>by simp[ZqJ]at h
 |x :: l,h=>by
  simp only[ZqJ]at h
  split at h
  .rename_i hb
   rcases List.mem_cons.1 h with rfl|h
   .exact⟨x,by simp,hb,rfl⟩
   .obtain⟨e,h1,h2⟩:=ZtQ h
    exact⟨e,by simp[h1],h2⟩
  .obtain⟨e,h1,h2⟩:=ZtQ h
   exact⟨e,by simp[h1],h2⟩
def ZRz(N:Nat)(ops:Array Oper)(ra:RA)(ak:List (List Nat))(i:Nat):Bool:=match ops[i]? with
 |none=>false
 |some o=>(Ztf o).all (fun k=>Nat.blt k i)&&(ZfO ak i).all (fun k=>Nat.blt k i&&(memN k (Ztf o)||(Ztf o).any fun j=>memN k (ZfO ak j)))&&ZyK ra i o &&
   (List.range i).all fun k=>memN k (ZfO ak i)||Ztv N ops ra ak k i
def ZGX(N:Nat)(ops:Array Oper)(ra:RA)(ak:List (List Nat)):Bool:=match ra.fz with
 | []=>(List.range ops.size).all (ZRz N ops ra ak)
 |_=>false
theorem ZHX{ra:RA}{i:Nat}{o:Oper}:∀{l:List Oper}{k:Nat},l[i]?=some o->clsX ra (k+i) o=3->(k+i,o.dst.getD 0)∈ZsA ra k l:=by
 induction i with
 |zero=>
  intro l k h hc;cases l with
  |nil=>simp at h
  |cons x l=>
   simp only[List.getElem?_cons_zero,Option.some.injEq]at h;subst h;rw[Nat.add_zero]at hc ⊢;simp[ZsA,hc]
 |succ i ih=>
  intro l k h hc;cases l with
  |nil=>simp at h
  |cons x l=>
   have h2:=ih (l:=l) (k:=k+1) (by simpa using h) (by rw[show k+1+i=k+(i+1)by omega];exact hc);rw[show k+1+i=k+(i+1)by omega]at h2;simp only[ZsA];split
   .exact List.mem_cons_of_mem _ h2
   .exact h2
theorem Zvz(ops:Array Oper)(ra:RA):ZDg ops ra (ZsA ra 0 ops.toList):=by
 intro i o ho hc;have:=ZHX (ra:=ra) (i:=i) (o:=o) (l:=ops.toList) (k:=0) (by simpa using ho) (by rw[Nat.zero_add];exact hc);rwa [Nat.zero_add]at this
def ZuA(N:Nat)(st:St):List (Nat×Nat)->Bool
 | []=>true
 | (_,d) :: l=>match Ziu st d N with
  |true=>ZuA N st l
  |false=>false
theorem Zub{N:Nat}{st:St}:∀{l:List (Nat×Nat)},ZuA N st l=true->∀i d,(i,d)∈l->Ziu st d N=true
 | [],_,i,d,h=>by cases h
 | (j,d') :: l,hq,i,d,h=>by
  simp only[ZuA]at hq
  split at hq
  .rename_i h1
   rcases List.mem_cons.1 h with h|h
   .cases h;exact h1
   .exact Zub hq i d h
  .cases hq
def ZFB(P:Program)(N:Nat)(T:Tab)(ops:Array Oper)(ra:RA)(ak:List (List Nat))(st:St):Option (St×List Prop):=match ZGX N ops ra ak,ZuA N st (ZsA ra 0 ops.toList)with
 |true,true=>Zuk P N T ops ra ak (ZsA ra 0 ops.toList) (List.range ops.size) st
 |_,_=>none
section
variable {P:Program} {N:Nat} {T:Tab} {ops:Array Oper} {ra:RA} {ak:List (List Nat)} {Q:Exit->Act->World->Prop} {S0:Nat->Prop} {w0:ZeU}
theorem Zyu(h:ZGX N ops ra ak=true){i:Nat}(hi:i<ops.size):∃o,ops[i]?=some o/\(∀k∈Ztf o,k<i)/\(∀k∈ZfO ak i,k<i/\(k∈Ztf o\/∃j∈Ztf o,k∈ZfO ak j))/\ZyK ra i o=true/\∀k,k<i->k ∉ ZfO ak i->Ztv N ops ra ak k i=true:=by
 unfold ZGX at h;split at h
 .have:=List.all_eq_true.1 h i (List.mem_range.2 hi);unfold ZRz at this;split at this
  .cases this
  .rename_i o ho;simp only[Bool.and_eq_true,List.all_eq_true,Bool.or_eq_true,List.any_eq_true,List.mem_range]at this;obtain⟨⟨⟨h1,h2⟩,h3⟩,h4⟩:=this;refine⟨o,ho,fun k hk=>Nat.le_of_ble_eq_true (h1 k hk),fun k hk=>?_,h3,fun k hk hn=>?_⟩
   .obtain⟨h5,h6⟩:=h2 k hk;refine⟨Nat.le_of_ble_eq_true h5,?_⟩;rcases h6 with h6|⟨j,h6,h7⟩
    .exact .inl (ZqZ.1 h6)
    .exact .inr ⟨j,h6,ZqZ.1 h7⟩
   .rcases h4 k hk with h5|h5
    .exact absurd (ZqZ.1 h5) hn
    .exact h5
 .cases h
def left(n:Nat)(au:Array Bool):List Nat:=(List.range n).filter fun i=>!au.getD i true
theorem ZvC{au:Array Bool}{i:Nat}:i∈Region.ready .any ops au↔i<ops.size/\au.getD i true=false/\∃o,ops[i]?=some o/\∀k∈Ztf o,au.getD k false=true:=by
 unfold Region.ready;simp only[List.mem_filter,List.mem_range,Bool.and_eq_true,Bool.not_eq_true'];constructor
 .rintro ⟨h1,h2,h3⟩;refine⟨h1,h2,ops[i],by simp[h1],fun k hk=>?_⟩;rw[show ops[i]?=some ops[i]by simp[h1]]at h3;obtain⟨e,h4,h5,rfl⟩:=ZtQ hk;simp only[Option.map_some,Option.getD_some,Array.all_eq_true_iff_forall_mem,Bool.or_eq_true,Bool.not_eq_true']at h3;rcases h3 e (by simpa using h4)with h6|h6
  .rw[h5]at h6;cases h6
  .exact h6
 .rintro ⟨h1,h2,o,ho,h3⟩;refine⟨h1,h2,?_⟩;rw[ho];simp only[Option.map_some,Option.getD_some,Array.all_eq_true_iff_forall_mem,Bool.or_eq_true,Bool.not_eq_true'];intro e he;cases hb:Region.binds .any e with
  |false=>exact .inl rfl
  |true=>exact .inr (h3 _ (Zwo (by simpa using he) hb))
theorem Zzm(au:Array Bool)(i j:Nat)(d:Bool)(hi:i<au.size):(au.setIfInBounds i true).getD j d=if i=j then true else au.getD j d:=by
 simp only[Array.getD_eq_getD_getElem?,Array.getElem?_setIfInBounds];split
 .simp[*]
 .rfl
theorem ZPm(hT:Zep P T)(hD:ZGX N ops ra ak=true):∀(fuel:Nat)(au:Array Bool)(st F:St)(a:Act)(w:World)(obl:List Prop),au.size=ops.size->(left ops.size au).length<=fuel ->
  (∀j,au.getD j false=true->∀k∈ZfO ak j,au.getD k false=true)->(∀j o,j∈left ops.size au->ops[j]?=some o->clsX ra j o=3->Ziu st (o.dst.getD 0) N=true) ->
  ZcM N S0 w0 st a w->Zuk P N T ops ra ak (ZsA ra 0 ops.toList) (left ops.size au) st=some (F,obl)->(∀q∈obl,q)->(∀F' a' w',Eqv F F'->ZcM N S0 w0 F' a' w'->Q .normal a' w')->wpAny P .any ops Q fuel au a w:=by
 intro fuel;have hcls:∀i o,ops[i]?=some o->ZyK ra i o=true:=fun i o ho=>by
  obtain⟨o',h1,_,_,h4,_⟩:=Zyu hD (Array.getElem?_eq_some_iff.1 ho).1;rw[ho]at h1;cases h1;exact h4
 have jQ:∀(au:Array Bool),au.size=ops.size->Region.ready .any ops au=[]->left ops.size au=[]:=by
  intro au aW hr;cases hl:left ops.size au with
  |nil=>rfl
  |cons i l=>
   exfalso;have hm:i∈left ops.size au:=by rw[hl];simp
   have dL:∀k,k<i->au.getD k true=true:=by
    intro k hk;cases hk2:au.getD k true with
    |true=>rfl
    |false=>
     exfalso;have hs:List.Pairwise (·< ·) (left ops.size au):=List.Pairwise.filter _ List.pairwise_lt_range;have hi:i<ops.size:=by simp[left]at hm;exact hm.1
     have ju:k∈left ops.size au:=by simp only[left,List.mem_filter,List.mem_range,Bool.not_eq_true'];exact⟨by omega,hk2⟩
     rw[hl]at hs ju;rcases List.mem_cons.1 ju with rfl|ju
     .omega
     .have:=(List.pairwise_cons.1 hs).1 k ju;omega
   have hi:i<ops.size/\au.getD i true=false:=by simpa[left]using hm
   obtain⟨o,ho,hd,_⟩:=Zyu hD hi.1;have:i∈Region.ready .any ops au:=ZvC.2 ⟨hi.1,hi.2,o,ho,fun k hk=>by
    have hki:=hd k hk;have h1:=dL k hki;have lM:k<au.size:=by omega
    simp only[Array.getD_eq_getD_getElem?,Array.getElem?_eq_getElem lM,Option.getD_some]at h1 ⊢;exact h1⟩
   rw[hr]at this;cases this
 induction fuel with
 |zero=>
  intro au st F a w obl aW hle lN hJ hsh dJ ho hk;have hl:left ops.size au=[]:=List.eq_nil_of_length_eq_zero (by omega);rw[hl]at dJ;cases dJ;refine⟨?_,hk _ a w (Eqv.refl _) hsh⟩;cases hr:Region.ready .any ops au with
  |nil=>rfl
  |cons i l=>
   have hm:i∈Region.ready .any ops au:=by rw[hr];simp
   obtain⟨h1,h2,_⟩:=ZvC.1 hm;have:i∈left ops.size au:=by simp only[left,List.mem_filter,List.mem_range,Bool.not_eq_true'];exact⟨h1,h2⟩
   rw[hl]at this;cases this
 |succ fuel ih=>
  intro au st F a w obl aW hle lN hJ hsh dJ ho hk;refine⟨fun hr=>?_,fun i hi=>?_⟩
  .rw[jQ au aW hr]at dJ;cases dJ;exact hk _ a w (Eqv.refl _) hsh
  .obtain⟨hi1,bC,o,lO,jR⟩:=ZvC.1 hi;have him:i∈left ops.size au:=by simp only[left,List.mem_filter,List.mem_range,Bool.not_eq_true'];exact⟨hi1,bC⟩
   obtain⟨g4,post,bM⟩:=List.append_of_mem him;have jS:(left ops.size au).Nodup:=List.Pairwise.filter _ List.nodup_range;have kV:List.Pairwise (·< ·) (left ops.size au):=List.Pairwise.filter _ List.pairwise_lt_range;obtain⟨o',ho',hd,hp,hc,jT⟩:=Zyu hD hi1;rw[lO]at ho';cases ho';have ib:∀k∈ZfO ak i,au.getD k false=true:=by
    intro k hk;rcases(hp k hk).2 with h|⟨j,h,h2⟩
    .exact jR k h
    .exact lN j (jR j h) k h2
   have jU:∀k∈left ops.size au,au.getD k false=false:=by
    intro k hk;simp only[left,List.mem_filter,List.mem_range,Bool.not_eq_true']at hk;have lM:k<au.size:=by omega
    have:=hk.2;simp only[Array.getD_eq_getD_getElem?,Array.getElem?_eq_getElem lM,Option.getD_some]at this ⊢;exact this
   have lP:∀k∈g4,Ztv N ops ra ak k i=true/\k≠i/\k ∉ ZfO ak i/\i ∉ ZfO ak k:=by
    intro k hk;have ju:k∈left ops.size au:=by rw[bM];simp[hk]
    have hlt:k<i:=by
     rw[bM]at kV;exact(List.pairwise_append.1 kV).2.2 k hk i (by simp)
    have hnp:k ∉ ZfO ak i:=fun h=>by have:=ib k h;rw[jU k ju]at this;cases this
    refine⟨jT k hlt hnp,by omega,hnp,fun h=>?_⟩;have cn:k<ops.size:=by omega
    obtain⟨_,_,_,bY,_⟩:=Zyu hD cn;have:=(bY i h).1;omega
   rw[bM]at dJ;obtain⟨st1,oi,F',o',h1,h2,h3,h4⟩:=Zwc (Zvz ops ra) (fun j _=>hcls j) lP (fun o2 dS hc2=>hJ i o2 him dS hc2) dJ;have gk:left ops.size (au.setIfInBounds i true)=g4++post:=by
    have e1:left ops.size (au.setIfInBounds i true)=(left ops.size au).filter (fun j=>decide (j≠i)):=by
     unfold left;rw[List.filter_filter];apply List.filter_congr;intro j hj;rw[Zzm _ _ _ _ (by omega)];by_cases e:i=j
     .subst e;simp
     .simp[e,Ne.symm e]
    rw[e1,bM,List.filter_append,List.filter_cons];rw[bM]at jS;obtain⟨n1,n2,n3⟩:=List.nodup_append.1 jS;have n4:=(List.nodup_cons.1 n2).1;rw[if_neg (by simp)];rw[List.filter_eq_self.2 (fun x hx=>by simp;exact fun e=>n3 x hx i (by simp) e),List.filter_eq_self.2 (fun x hx=>by simp;rintro rfl;exact n4 hx)]
   obtain⟨o2,v,s1,dS,hr,hck,jV⟩:=Zdq h1;rw[lO]at dS;cases dS;have jW:Ztu P N T ops ra i o st=some (st1,oi):=ZHT hr jV;have lQ:=ZqX hr;unfold wpOp;rw[lO];simp only;have bh:=Zxs (P:=P) hT hsh jW (fun q hq=>h4 ho q (List.mem_append.2 (.inl hq))) (K:=wpAny P .any ops Q fuel (au.setIfInBounds i true)) (Q:=Q) fun a' w' cW=>by
    refine ih (au.setIfInBounds i true) st1 F' a' w' o' (by simp[aW]) ?_ ?_ ?_ cW (by rw[gk];exact h2) (fun q hq=>h4 ho q (List.mem_append.2 (.inr hq))) fun F2 a2 w2 he jt=>hk F2 a2 w2 (h3.trans he) jt
    .rw[gk];rw[bM]at hle;simp at hle ⊢;omega
    .intro j hj k hk;rw[Zzm _ _ _ _ (by omega)]at hj ⊢;split
     .rfl
     .split at hj
      .rename_i e;subst e;exact ib k hk
      .exact lN j hj k hk
    .intro j o2 hj dS hc2;have hjm:j∈left ops.size au:=by
      rw[bM];rw[gk]at hj;rcases List.mem_append.1 hj with hj|hj
      .exact List.mem_append.2 (.inl hj)
      .exact List.mem_append.2 (.inr (List.mem_cons_of_mem _ hj))
     have hji:j≠i:=by
      rintro rfl;simp only[left,List.mem_filter,Bool.not_eq_true']at hj;have h5:=hj.2;rw[Zzm _ _ _ _ (by omega),if_pos rfl]at h5;cases h5
     refine ZlI (hJ j o2 hjm dS hc2) (ZjH lQ) (Zri hck (Zvz ops ra j o2 dS hc2) hji fun h=>?_) jV;have:=ib j h;rw[jU j hjm]at this;cases this
   split
   .rename_i hw;rw[if_pos hw]at bh;exact .inl bh
   .rename_i hw;rw[if_neg hw]at bh;exact bh
theorem ZQZ(hT:Zep P T)(hm:P.follows .mixedOrders=true){id:Nat}{st st':St}{a:Act}{w:World}{obl:List Prop}(hsh:ZcM N S0 w0 st a w)(h:ZFB P N T ops ra ak st=some (st',obl))(ho:∀q∈obl,q)
  (hk:∀a' w',ZcM N S0 w0 st' a' w'->Q .normal a' w'):(Code.region id ops true).wp P Q a w:=by
 unfold ZFB at h;split at h
 .rename_i hD hq;refine wp_region_any hm ?_;have hl:left ops.size (Array.replicate ops.size false)=List.range ops.size:=by
   unfold left;apply List.filter_eq_self.2;intro i hi;simp at hi;simp[Array.getD_eq_getD_getElem?,hi]
  have lR:ZcM N S0 w0 st a { w with drawn:=w.drawn+1 }:=by
   obtain⟨S,m,hs,hg⟩:=hsh;exact⟨S,m,hs.grow (Nat.le_refl _) (fun _ _=>rfl) (fun _ h=>h) (fun _ h=>.inl h),hg.step ⟨rfl,rfl,rfl,Nat.le_refl _,fun _ _=>rfl,Nat.le_succ _⟩ (fun _ h=>h) (fun _ h=>.inl h)⟩
  refine ZPm hT hD ops.size _ st st' a _ obl (by simp) (by rw[hl];simp) (fun j hj=>?_) (fun j o hj hoj hc=>Zub hq j _ (Zvz ops ra j o hoj hc)) lR (by rw[hl];exact h) ho fun F' a' w' he cW=>?_
  .exfalso;simp only[Array.getD_eq_getD_getElem?,Array.getElem?_replicate]at hj;split at hj<;>simp at hj
  .exact hk a' w' (cW.eqv ⟨fun t=>(he.env t).symm,he.heap.symm⟩)
 .cases h
end
section
variable (P:Program) (N:Nat) (T:Tab) (ops:Array Oper) (ra:RA) (ak:List (List Nat))
end
section
variable {P:Program} {N:Nat} {T:Tab} {ops:Array Oper} {ra:RA} {ak:List (List Nat)} {Q:Exit->Act->World->Prop} {S0:Nat->Prop} {w0:ZeU}
end
end Go.Proofs.YtlpdogaifdeomaaGreat
