import Derived.Test.YtmnloegcpaahcaaGreatDAmR
import Derived.Orders
namespace Go.Proofs.YtmnloegcpaahcaaGreat
open Go.RowKit
set_option linter.unusedSimpArgs false
set_option linter.unusedVariables false
def Zrn:List Edge->List Nat
 | []=>[]
 |e :: l=>match Region.binds .any e with
  |true=>e.on :: Zrn l
  |false=>Zrn l
def ZtN(o:Oper):List Nat:=Zrn o.after.toList
theorem ZwP{e:Edge}:∀{l:List Edge},e∈l->Region.binds .any e=true->e.on∈Zrn l
 | [],h,_=>by cases h
 |x :: l,h,hb=>by
  simp only[Zrn]
  rcases List.mem_cons.1 h with rfl|h
  .rw[hb];simp
  .have:=ZwP h hb
   split
   .exact List.mem_cons_of_mem _ this
   .exact this
theorem Zuy{k:Nat}:∀{l:List Edge},k∈Zrn l->∃e∈l,Region.binds .any e=true/\e.on=k
 | [],h=>by simp[Zrn]at h
 |x :: l,h=>by
  simp only[Zrn]at h
  split at h
  .rename_i hb
   rcases List.mem_cons.1 h with rfl|h
   .exact⟨x,by simp,hb,rfl⟩
   .obtain⟨e,h1,h2⟩:=Zuy h
    exact⟨e,by simp[h1],h2⟩
  .obtain⟨e,h1,h2⟩:=Zuy h
   exact⟨e,by simp[h1],h2⟩
def ZLG(N:Nat)(ops:Array Oper)(ra:RA)(ai:List (List Nat))(i:Nat):Bool:=match ops[i]? with
 |none=>false
 |some o=>(ZtN o).all (fun k=>Nat.blt k i)&&(Zgi ai i).all (fun k=>Nat.blt k i&&(memN k (ZtN o)||(ZtN o).any fun j=>memN k (Zgi ai j)))&&ZyZ ra i o &&
   (List.range i).all fun k=>memN k (Zgi ai i)||ZtX N ops ra ai k i
def ZEf(N:Nat)(ops:Array Oper)(ra:RA)(ai:List (List Nat)):Bool:=match ra.fz with
 | []=>(List.range ops.size).all (ZLG N ops ra ai)
 |_=>false
theorem ZFg{ra:RA}{i:Nat}{o:Oper}:∀{l:List Oper}{k:Nat},l[i]?=some o->clsX ra (k+i) o=3->(k+i,o.dst.getD 0)∈ZsZ ra k l:=by
 induction i with
 |zero=>
  intro l k h hc;cases l with
  |nil=>simp at h
  |cons x l=>
   simp only[List.getElem?_cons_zero,Option.some.injEq]at h;subst h;rw[Nat.add_zero]at hc ⊢;simp[ZsZ,hc]
 |succ i ih=>
  intro l k h hc;cases l with
  |nil=>simp at h
  |cons x l=>
   have h2:=ih (l:=l) (k:=k+1) (by simpa using h) (by rw[show k+1+i=k+(i+1)by omega];exact hc);rw[show k+1+i=k+(i+1)by omega]at h2;simp only[ZsZ];split
   .exact List.mem_cons_of_mem _ h2
   .exact h2
theorem Zwa(ops:Array Oper)(ra:RA):ZBJ ops ra (ZsZ ra 0 ops.toList):=by
 intro i o ho hc;have:=ZFg (ra:=ra) (i:=i) (o:=o) (l:=ops.toList) (k:=0) (by simpa using ho) (by rw[Nat.zero_add];exact hc);rwa [Nat.zero_add]at this
def Zvl(N:Nat)(st:St):List (Nat×Nat)->Bool
 | []=>true
 | (_,d) :: l=>match Zir st d N with
  |true=>Zvl N st l
  |false=>false
theorem ZuF{N:Nat}{st:St}:∀{l:List (Nat×Nat)},Zvl N st l=true->∀i d,(i,d)∈l->Zir st d N=true
 | [],_,i,d,h=>by cases h
 | (j,d') :: l,hq,i,d,h=>by
  simp only[Zvl]at hq
  split at hq
  .rename_i h1
   rcases List.mem_cons.1 h with h|h
   .cases h;exact h1
   .exact ZuF hq i d h
  .cases hq
def ZCT(P:Program)(N:Nat)(T:Tab)(ops:Array Oper)(ra:RA)(ai:List (List Nat))(st:St):Option (St×List Prop):=match ZEf N ops ra ai,Zvl N st (ZsZ ra 0 ops.toList)with
 |true,true=>Zva P N T ops ra ai (ZsZ ra 0 ops.toList) (List.range ops.size) st
 |_,_=>none
section
variable {P:Program} {N:Nat} {T:Tab} {ops:Array Oper} {ra:RA} {ai:List (List Nat)} {Q:Exit->Act->World->Prop} {S0:Nat->Prop} {w0:ZaU}
theorem ZyL(h:ZEf N ops ra ai=true){i:Nat}(hi:i<ops.size):∃o,ops[i]?=some o/\(∀k∈ZtN o,k<i)/\(∀k∈Zgi ai i,k<i/\(k∈ZtN o\/∃j∈ZtN o,k∈Zgi ai j))/\ZyZ ra i o=true/\∀k,k<i->k ∉ Zgi ai i->ZtX N ops ra ai k i=true:=by
 unfold ZEf at h;split at h
 .have:=List.all_eq_true.1 h i (List.mem_range.2 hi);unfold ZLG at this;split at this
  .cases this
  .rename_i o ho;simp only[Bool.and_eq_true,List.all_eq_true,Bool.or_eq_true,List.any_eq_true,List.mem_range]at this;obtain⟨⟨⟨h1,h2⟩,h3⟩,h4⟩:=this;refine⟨o,ho,fun k hk=>Nat.le_of_ble_eq_true (h1 k hk),fun k hk=>?_,h3,fun k hk hn=>?_⟩
   .obtain⟨h5,h6⟩:=h2 k hk;refine⟨Nat.le_of_ble_eq_true h5,?_⟩;rcases h6 with h6|⟨j,h6,h7⟩
    .exact .inl (ZrC.1 h6)
    .exact .inr ⟨j,h6,ZrC.1 h7⟩
   .rcases h4 k hk with h5|h5
    .exact absurd (ZrC.1 h5) hn
    .exact h5
 .cases h
def left(n:Nat)(ap:Array Bool):List Nat:=(List.range n).filter fun i=>!ap.getD i true
theorem Zwc{ap:Array Bool}{i:Nat}:i∈Region.ready .any ops ap↔i<ops.size/\ap.getD i true=false/\∃o,ops[i]?=some o/\∀k∈ZtN o,ap.getD k false=true:=by
 unfold Region.ready;simp only[List.mem_filter,List.mem_range,Bool.and_eq_true,Bool.not_eq_true'];constructor
 .rintro ⟨h1,h2,h3⟩;refine⟨h1,h2,ops[i],by simp[h1],fun k hk=>?_⟩;rw[show ops[i]?=some ops[i]by simp[h1]]at h3;obtain⟨e,h4,h5,rfl⟩:=Zuy hk;simp only[Option.map_some,Option.getD_some,Array.all_eq_true_iff_forall_mem,Bool.or_eq_true,Bool.not_eq_true']at h3;rcases h3 e (by simpa using h4)with h6|h6
  .rw[h5]at h6;cases h6
  .exact h6
 .rintro ⟨h1,h2,o,ho,h3⟩;refine⟨h1,h2,?_⟩;rw[ho];simp only[Option.map_some,Option.getD_some,Array.all_eq_true_iff_forall_mem,Bool.or_eq_true,Bool.not_eq_true'];intro e he;cases hb:Region.binds .any e with
  |false=>exact .inl rfl
  |true=>exact .inr (h3 _ (ZwP (by simpa using he) hb))
theorem Zzm(ap:Array Bool)(i j:Nat)(d:Bool)(hi:i<ap.size):(ap.setIfInBounds i true).getD j d=if i=j then true else ap.getD j d:=by
 simp only[Array.getD_eq_getD_getElem?,Array.getElem?_setIfInBounds];split
 .simp[*]
 .rfl
theorem ZJU(hT:ZeG P T)(hD:ZEf N ops ra ai=true):∀(fuel:Nat)(ap:Array Bool)(st F:St)(a:Act)(w:World)(obl:List Prop),ap.size=ops.size->(left ops.size ap).length<=fuel ->
  (∀j,ap.getD j false=true->∀k∈Zgi ai j,ap.getD k false=true)->(∀j o,j∈left ops.size ap->ops[j]?=some o->clsX ra j o=3->Zir st (o.dst.getD 0) N=true) ->
  ZcW N S0 w0 st a w->Zva P N T ops ra ai (ZsZ ra 0 ops.toList) (left ops.size ap) st=some (F,obl)->(∀q∈obl,q)->(∀F' a' w',Eqv F F'->ZcW N S0 w0 F' a' w'->Q .normal a' w')->wpAny P .any ops Q fuel ap a w:=by
 intro fuel;have hcls:∀i o,ops[i]?=some o->ZyZ ra i o=true:=fun i o ho=>by
  obtain⟨o',h1,_,_,h4,_⟩:=ZyL hD (Array.getElem?_eq_some_iff.1 ho).1;rw[ho]at h1;cases h1;exact h4
 have jr:∀(ap:Array Bool),ap.size=ops.size->Region.ready .any ops ap=[]->left ops.size ap=[]:=by
  intro ap aU hr;cases hl:left ops.size ap with
  |nil=>rfl
  |cons i l=>
   exfalso;have hm:i∈left ops.size ap:=by rw[hl];simp
   have db:∀k,k<i->ap.getD k true=true:=by
    intro k hk;cases hk2:ap.getD k true with
    |true=>rfl
    |false=>
     exfalso;have hs:List.Pairwise (·< ·) (left ops.size ap):=List.Pairwise.filter _ List.pairwise_lt_range;have hi:i<ops.size:=by simp[left]at hm;exact hm.1
     have iS:k∈left ops.size ap:=by simp only[left,List.mem_filter,List.mem_range,Bool.not_eq_true'];exact⟨by omega,hk2⟩
     rw[hl]at hs iS;rcases List.mem_cons.1 iS with rfl|iS
     .omega
     .have:=(List.pairwise_cons.1 hs).1 k iS;omega
   have hi:i<ops.size/\ap.getD i true=false:=by simpa[left]using hm
   obtain⟨o,ho,hd,_⟩:=ZyL hD hi.1;have:i∈Region.ready .any ops ap:=Zwc.2 ⟨hi.1,hi.2,o,ho,fun k hk=>by
    have hki:=hd k hk;have h1:=db k hki;have ll:k<ap.size:=by omega
    simp only[Array.getD_eq_getD_getElem?,Array.getElem?_eq_getElem ll,Option.getD_some]at h1 ⊢;exact h1⟩
   rw[hr]at this;cases this
 induction fuel with
 |zero=>
  intro ap st F a w obl aU hle lm hJ hsh c7 ho hk;have hl:left ops.size ap=[]:=List.eq_nil_of_length_eq_zero (by omega);rw[hl]at c7;cases c7;refine⟨?_,hk _ a w (Eqv.refl _) hsh⟩;cases hr:Region.ready .any ops ap with
  |nil=>rfl
  |cons i l=>
   have hm:i∈Region.ready .any ops ap:=by rw[hr];simp
   obtain⟨h1,h2,_⟩:=Zwc.1 hm;have:i∈left ops.size ap:=by simp only[left,List.mem_filter,List.mem_range,Bool.not_eq_true'];exact⟨h1,h2⟩
   rw[hl]at this;cases this
 |succ fuel ih=>
  intro ap st F a w obl aU hle lm hJ hsh c7 ho hk;refine⟨fun hr=>?_,fun i hi=>?_⟩
  .rw[jr ap aU hr]at c7;cases c7;exact hk _ a w (Eqv.refl _) hsh
  .obtain⟨hi1,bt,o,ln,js⟩:=Zwc.1 hi;have him:i∈left ops.size ap:=by simp only[left,List.mem_filter,List.mem_range,Bool.not_eq_true'];exact⟨hi1,bt⟩
   obtain⟨go,post,bD⟩:=List.append_of_mem him;have jt:(left ops.size ap).Nodup:=List.Pairwise.filter _ List.nodup_range;have kp:List.Pairwise (·< ·) (left ops.size ap):=List.Pairwise.filter _ List.pairwise_lt_range;obtain⟨o',ho',hd,hp,hc,ju⟩:=ZyL hD hi1;rw[ln]at ho';cases ho';have gF:∀k∈Zgi ai i,ap.getD k false=true:=by
    intro k hk;rcases(hp k hk).2 with h|⟨j,h,h2⟩
    .exact js k h
    .exact lm j (js j h) k h2
   have jv:∀k∈left ops.size ap,ap.getD k false=false:=by
    intro k hk;simp only[left,List.mem_filter,List.mem_range,Bool.not_eq_true']at hk;have ll:k<ap.size:=by omega
    have:=hk.2;simp only[Array.getD_eq_getD_getElem?,Array.getElem?_eq_getElem ll,Option.getD_some]at this ⊢;exact this
   have lp:∀k∈go,ZtX N ops ra ai k i=true/\k≠i/\k ∉ Zgi ai i/\i ∉ Zgi ai k:=by
    intro k hk;have iS:k∈left ops.size ap:=by rw[bD];simp[hk]
    have hlt:k<i:=by
     rw[bD]at kp;exact(List.pairwise_append.1 kp).2.2 k hk i (by simp)
    have hnp:k ∉ Zgi ai i:=fun h=>by have:=gF k h;rw[jv k iS]at this;cases this
    refine⟨ju k hlt hnp,by omega,hnp,fun h=>?_⟩;have bV:k<ops.size:=by omega
    obtain⟨_,_,_,eI,_⟩:=ZyL hD bV;have:=(eI i h).1;omega
   rw[bD]at c7;obtain⟨st1,oi,F',o',h1,h2,h3,h4⟩:=ZwD (Zwa ops ra) (fun j _=>hcls j) lp (fun o2 dq hc2=>hJ i o2 him dq hc2) c7;have fi:left ops.size (ap.setIfInBounds i true)=go++post:=by
    have e1:left ops.size (ap.setIfInBounds i true)=(left ops.size ap).filter (fun j=>decide (j≠i)):=by
     unfold left;rw[List.filter_filter];apply List.filter_congr;intro j hj;rw[Zzm _ _ _ _ (by omega)];by_cases e:i=j
     .subst e;simp
     .simp[e,Ne.symm e]
    rw[e1,bD,List.filter_append,List.filter_cons];rw[bD]at jt;obtain⟨n1,n2,n3⟩:=List.nodup_append.1 jt;have n4:=(List.nodup_cons.1 n2).1;rw[if_neg (by simp)];rw[List.filter_eq_self.2 (fun x hx=>by simp;exact fun e=>n3 x hx i (by simp) e),List.filter_eq_self.2 (fun x hx=>by simp;rintro rfl;exact n4 hx)]
   obtain⟨o2,v,s1,dq,hr,hck,jw⟩:=ZdA h1;rw[ln]at dq;cases dq;have jx:ZtW P N T ops ra i o st=some (st1,oi):=ZFc hr jw;have lq:=Zrz hr;unfold wpOp;rw[ln];simp only;have bu:=ZxX (P:=P) hT hsh jx (fun q hq=>h4 ho q (List.mem_append.2 (.inl hq))) (K:=wpAny P .any ops Q fuel (ap.setIfInBounds i true)) (Q:=Q) fun a' w' cK=>by
    refine ih (ap.setIfInBounds i true) st1 F' a' w' o' (by simp[aU]) ?_ ?_ ?_ cK (by rw[fi];exact h2) (fun q hq=>h4 ho q (List.mem_append.2 (.inr hq))) fun F2 a2 w2 he lh=>hk F2 a2 w2 (h3.trans he) lh
    .rw[fi];rw[bD]at hle;simp at hle ⊢;omega
    .intro j hj k hk;rw[Zzm _ _ _ _ (by omega)]at hj ⊢;split
     .rfl
     .split at hj
      .rename_i e;subst e;exact gF k hk
      .exact lm j hj k hk
    .intro j o2 hj dq hc2;have hjm:j∈left ops.size ap:=by
      rw[bD];rw[fi]at hj;rcases List.mem_append.1 hj with hj|hj
      .exact List.mem_append.2 (.inl hj)
      .exact List.mem_append.2 (.inr (List.mem_cons_of_mem _ hj))
     have hji:j≠i:=by
      rintro rfl;simp only[left,List.mem_filter,Bool.not_eq_true']at hj;have h5:=hj.2;rw[Zzm _ _ _ _ (by omega),if_pos rfl]at h5;cases h5
     refine ZlH (hJ j o2 hjm dq hc2) (Zjo lq) (ZrN hck (Zwa ops ra j o2 dq hc2) hji fun h=>?_) jw;have:=gF j h;rw[jv j hjm]at this;cases this
   split
   .rename_i hw;rw[if_pos hw]at bu;exact .inl bu
   .rename_i hw;rw[if_neg hw]at bu;exact bu
theorem ZLj(hT:ZeG P T)(hm:P.follows .mixedOrders=true){id:Nat}{st st':St}{a:Act}{w:World}{obl:List Prop}(hsh:ZcW N S0 w0 st a w)(h:ZCT P N T ops ra ai st=some (st',obl))(ho:∀q∈obl,q)
  (hk:∀a' w',ZcW N S0 w0 st' a' w'->Q .normal a' w'):(Code.region id ops true).wp P Q a w:=by
 unfold ZCT at h;split at h
 .rename_i hD hq;refine wp_region_any hm ?_;have hl:left ops.size (Array.replicate ops.size false)=List.range ops.size:=by
   unfold left;apply List.filter_eq_self.2;intro i hi;simp at hi;simp[Array.getD_eq_getD_getElem?,hi]
  have lr:ZcW N S0 w0 st a { w with drawn:=w.drawn+1 }:=by
   obtain⟨S,m,hs,hg⟩:=hsh;exact⟨S,m,hs.grow (Nat.le_refl _) (fun _ _=>rfl) (fun _ h=>h) (fun _ h=>.inl h),hg.step ⟨rfl,rfl,rfl,Nat.le_refl _,fun _ _=>rfl,Nat.le_succ _⟩ (fun _ h=>h) (fun _ h=>.inl h)⟩
  refine ZJU hT hD ops.size _ st st' a _ obl (by simp) (by rw[hl];simp) (fun j hj=>?_) (fun j o hj hoj hc=>ZuF hq j _ (Zwa ops ra j o hoj hc)) lr (by rw[hl];exact h) ho fun F' a' w' he cK=>?_
  .exfalso;simp only[Array.getD_eq_getD_getElem?,Array.getElem?_replicate]at hj;split at hj<;>simp at hj
  .exact hk a' w' (cK.eqv ⟨fun t=>(he.env t).symm,he.heap.symm⟩)
 .cases h
end
section
variable (P:Program) (N:Nat) (T:Tab) (ops:Array Oper) (ra:RA) (ai:List (List Nat))
end
section
variable {P:Program} {N:Nat} {T:Tab} {ops:Array Oper} {ra:RA} {ai:List (List Nat)} {Q:Exit->Act->World->Prop} {S0:Nat->Prop} {w0:ZaU}
end
end Go.Proofs.YtmnloegcpaahcaaGreat
