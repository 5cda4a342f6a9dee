import Derived.Test.YtdjfoojllbfcgaaGreatUAmR
import Derived.Orders
namespace Go.Proofs.YtdjfoojllbfcgaaGreat
open Go.RowKit
set_option linter.unusedSimpArgs false
set_option linter.unusedVariables false
def ZpI:List Edge->List Nat
 | []=>[]
 |e :: l=>match Region.binds .any e with
  |true=>e.on :: ZpI l
  |false=>ZpI l
def Zml(o:Oper):List Nat:=ZpI o.after.toList
theorem Zuw{e:Edge}:∀{l:List Edge},e∈l->Region.binds .any e=true->e.on∈ZpI l
 | [],h,_=>by cases h
 |x :: l,h,hb=>by
  simp only[ZpI]
  rcases List.mem_cons.1 h with rfl|h
  ·rw[hb];simp
  ·have:=Zuw h hb
   split
   ·exact List.mem_cons_of_mem _ this
   ·exact this
theorem Zss{k:Nat}:∀{l:List Edge},k∈ZpI l->∃e∈l,Region.binds .any e=true/\e.on=k
 | [],h=>by simp[ZpI]at h
 |x :: l,h=>by
  simp only[ZpI]at h
  split at h
  ·rename_i hb
   rcases List.mem_cons.1 h with rfl|h
   ·exact⟨x,by simp,hb,rfl⟩
   ·obtain⟨e,h1,h2⟩:=Zss h
    exact⟨e,by simp[h1],h2⟩
  ·obtain⟨e,h1,h2⟩:=Zss h
   exact⟨e,by simp[h1],h2⟩
def ZIc(N:Nat)(ops:Array Oper)(ra:RA)(ah:List (List Nat))(i:Nat):Bool:=match ops[i]? with
 |none=>false
 |some o=>(Zml o).all (fun k=>Nat.blt k i)&&(Zeo ah i).all (fun k=>Nat.blt k i&&(memN k (Zml o)||(Zml o).any fun j=>memN k (Zeo ah j)))&&ZsI ra i o &&
   (List.range i).all fun k=>memN k (Zeo ah i)||Zoc N ops ra ah k i
def ZAW(N:Nat)(ops:Array Oper)(ra:RA)(ah:List (List Nat)):Bool:=match ra.fz with
 | []=>(List.range ops.size).all (ZIc N ops ra ah)
 |_=>false
theorem ZBN{ra:RA}{i:Nat}{o:Oper}:∀{l:List Oper}{k:Nat},l[i]?=some o->clsX ra (k+i) o=3->(k+i,o.dst.getD 0)∈Znx ra k l:=by
 induction i with
 |zero=>
  intro l k h hc;cases l with
  |nil=>simp at h
  |cons x l=>
   simp only[List.getElem?_cons_zero,Option.some.injEq]at h;subst h;rw[Nat.add_zero]at hc ⊢;simp[Znx,hc]
 |succ i ih=>
  intro l k h hc;cases l with
  |nil=>simp at h
  |cons x l=>
   have h2:=ih (l:=l) (k:=k+1) (by simpa using h) (by rw[show k+1+i=k+(i+1)by omega];exact hc);rw[show k+1+i=k+(i+1)by omega]at h2;simp only[Znx];split
   ·exact List.mem_cons_of_mem _ h2
   ·exact h2
theorem Znw(ops:Array Oper)(ra:RA):ZAa ops ra (Znx ra 0 ops.toList):=by
 intro i o ho hc;have:=ZBN (ra:=ra) (i:=i) (o:=o) (l:=ops.toList) (k:=0) (by simpa using ho) (by rw[Nat.zero_add];exact hc);rwa [Nat.zero_add]at this
def Zrg(N:Nat)(st:St):List (Nat×Nat)->Bool
 | []=>true
 | (_,d) :: l=>match ZhT st d N with
  |true=>Zrg N st l
  |false=>false
theorem Zpq{N:Nat}{st:St}:∀{l:List (Nat×Nat)},Zrg N st l=true->∀i d,(i,d)∈l->ZhT st d N=true
 | [],_,i,d,h=>by cases h
 | (j,d') :: l,hq,i,d,h=>by
  simp only[Zrg]at hq
  split at hq
  ·rename_i h1
   rcases List.mem_cons.1 h with h|h
   ·cases h;exact h1
   ·exact Zpq hq i d h
  ·cases hq
def ZzO(P:Program)(N:Nat)(T:Tab)(ops:Array Oper)(ra:RA)(ah:List (List Nat))(st:St):Option (St×List Prop):=match ZAW N ops ra ah,Zrg N st (Znx ra 0 ops.toList)with
 |true,true=>Zqm P N T ops ra ah (Znx ra 0 ops.toList) (List.range ops.size) st
 |_,_=>none
section
variable {P:Program} {N:Nat} {T:Tab} {ops:Array Oper} {ra:RA} {ah:List (List Nat)} {Q:Exit->Act->World->Prop} {S0:Nat->Prop} {w0:Zba}
theorem Zwb(h:ZAW N ops ra ah=true){i:Nat}(hi:i<ops.size):∃o,ops[i]?=some o/\(∀k∈Zml o,k<i)/\(∀k∈Zeo ah i,k<i/\(k∈Zml o\/∃j∈Zml o,k∈Zeo ah j))/\ZsI ra i o=true/\∀k,k<i->k ∉ Zeo ah i->Zoc N ops ra ah k i=true:=by
 unfold ZAW at h;split at h
 ·have:=List.all_eq_true.1 h i (List.mem_range.2 hi);unfold ZIc at this;split at this
  ·cases this
  ·rename_i o ho;simp only[Bool.and_eq_true,List.all_eq_true,Bool.or_eq_true,List.any_eq_true,List.mem_range]at this;obtain⟨⟨⟨h1,h2⟩,h3⟩,h4⟩:=this;refine⟨o,ho,fun k hk=>Nat.le_of_ble_eq_true (h1 k hk),fun k hk=>?_,h3,fun k hk hn=>?_⟩
   ·obtain⟨h5,h6⟩:=h2 k hk;refine⟨Nat.le_of_ble_eq_true h5,?_⟩;rcases h6 with h6|⟨j,h6,h7⟩
    ·exact .inl (ZjM.1 h6)
    ·exact .inr ⟨j,h6,ZjM.1 h7⟩
   ·rcases h4 k hk with h5|h5
    ·exact absurd (ZjM.1 h5) hn
    ·exact h5
 ·cases h
def left(n:Nat)(af:Array Bool):List Nat:=(List.range n).filter fun i=>!af.getD i true
theorem Zpu{af:Array Bool}{i:Nat}:i∈Region.ready .any ops af↔i<ops.size/\af.getD i true=false/\∃o,ops[i]?=some o/\∀k∈Zml o,af.getD k false=true:=by
 unfold Region.ready;simp only[List.mem_filter,List.mem_range,Bool.and_eq_true,Bool.not_eq_true'];constructor
 ·rintro ⟨h1,h2,h3⟩;refine⟨h1,h2,ops[i],by simp[h1],fun k hk=>?_⟩;rw[show ops[i]?=some ops[i]by simp[h1]]at h3;obtain⟨e,h4,h5,rfl⟩:=Zss hk;simp only[Option.map_some,Option.getD_some,Array.all_eq_true_iff_forall_mem,Bool.or_eq_true,Bool.not_eq_true']at h3;rcases h3 e (by simpa using h4)with h6|h6
  ·rw[h5]at h6;cases h6
  ·exact h6
 ·rintro ⟨h1,h2,o,ho,h3⟩;refine⟨h1,h2,?_⟩;rw[ho];simp only[Option.map_some,Option.getD_some,Array.all_eq_true_iff_forall_mem,Bool.or_eq_true,Bool.not_eq_true'];intro e he;cases hb:Region.binds .any e with
  |false=>exact .inl rfl
  |true=>exact .inr (h3 _ (Zuw (by simpa using he) hb))
theorem ZmR(af:Array Bool)(i j:Nat)(d:Bool)(hi:i<af.size):(af.setIfInBounds i true).getD j d=if i=j then true else af.getD j d:=by
 simp only[Array.getD_eq_getD_getElem?,Array.getElem?_setIfInBounds];split
 ·simp[*]
 ·rfl
theorem ZGf(hT:Zef P T)(hD:ZAW N ops ra ah=true):∀(bB:Nat)(af:Array Bool)(st F:St)(a:Act)(w:World)(obl:List Prop),af.size=ops.size->(left ops.size af).length<=bB ->
  (∀j,af.getD j false=true->∀k∈Zeo ah j,af.getD k false=true)->(∀j o,j∈left ops.size af->ops[j]?=some o->clsX ra j o=3->ZhT st (o.dst.getD 0) N=true) ->
  Zcq N S0 w0 st a w->Zqm P N T ops ra ah (Znx ra 0 ops.toList) (left ops.size af) st=some (F,obl)->(∀q∈obl,q)->(∀F' a' w',Eqv F F'->Zcq N S0 w0 F' a' w'->Q .normal a' w')->wpAny P .any ops Q bB af a w:=by
 intro bB;have hcls:∀i o,ops[i]?=some o->ZsI ra i o=true:=fun i o ho=>by
  obtain⟨o',h1,_,_,h4,_⟩:=Zwb hD (Array.getElem?_eq_some_iff.1 ho).1;rw[ho]at h1;cases h1;exact h4
 have eW:∀(af:Array Bool),af.size=ops.size->Region.ready .any ops af=[]->left ops.size af=[]:=by
  intro af aR hr;cases hl:left ops.size af with
  |nil=>rfl
  |cons i l=>
   exfalso;have hm:i∈left ops.size af:=by rw[hl];simp
   have df:∀k,k<i->af.getD k true=true:=by
    intro k hk;cases hk2:af.getD k true with
    |true=>rfl
    |false=>
     exfalso;have hs:List.Pairwise (·< ·) (left ops.size af):=List.Pairwise.filter _ List.pairwise_lt_range;have hi:i<ops.size:=by simp[left]at hm;exact hm.1
     have dq:k∈left ops.size af:=by simp only[left,List.mem_filter,List.mem_range,Bool.not_eq_true'];exact⟨by omega,hk2⟩
     rw[hl]at hs dq;rcases List.mem_cons.1 dq with rfl|dq
     ·omega
     ·have:=(List.pairwise_cons.1 hs).1 k dq;omega
   have hi:i<ops.size/\af.getD i true=false:=by simpa[left]using hm
   obtain⟨o,ho,hd,_⟩:=Zwb hD hi.1;have:i∈Region.ready .any ops af:=Zpu.2 ⟨hi.1,hi.2,o,ho,fun k hk=>by
    have dk:=hd k hk;have h1:=df k dk;have gg:k<af.size:=by omega
    simp only[Array.getD_eq_getD_getElem?,Array.getElem?_eq_getElem gg,Option.getD_some]at h1 ⊢;exact h1⟩
   rw[hr]at this;cases this
 induction bB with
 |zero=>
  intro af st F a w obl aR hle iV hJ hsh cg ho hk;have hl:left ops.size af=[]:=List.eq_nil_of_length_eq_zero (by omega);rw[hl]at cg;cases cg;refine⟨?_,hk _ a w (Eqv.refl _) hsh⟩;cases hr:Region.ready .any ops af with
  |nil=>rfl
  |cons i l=>
   have hm:i∈Region.ready .any ops af:=by rw[hr];simp
   obtain⟨h1,h2,_⟩:=Zpu.1 hm;have:i∈left ops.size af:=by simp only[left,List.mem_filter,List.mem_range,Bool.not_eq_true'];exact⟨h1,h2⟩
   rw[hl]at this;cases this
 |succ bB ih=>
  intro af st F a w obl aR hle iV hJ hsh cg ho hk;refine⟨fun hr=>?_,fun i hi=>?_⟩
  ·rw[eW af aR hr]at cg;cases cg;exact hk _ a w (Eqv.refl _) hsh
  ·obtain⟨hi1,eB,o,dm,eX⟩:=Zpu.1 hi;have ju:i∈left ops.size af:=by simp only[left,List.mem_filter,List.mem_range,Bool.not_eq_true'];exact⟨hi1,eB⟩
   obtain⟨dE,post,bh⟩:=List.append_of_mem ju;have iW:(left ops.size af).Nodup:=List.Pairwise.filter _ List.nodup_range;have jv:List.Pairwise (·< ·) (left ops.size af):=List.Pairwise.filter _ List.pairwise_lt_range;obtain⟨o',jw,hd,hp,hc,eY⟩:=Zwb hD hi1;rw[dm]at jw;cases jw;have dD:∀k∈Zeo ah i,af.getD k false=true:=by
    intro k hk;rcases(hp k hk).2 with h|⟨j,h,h2⟩
    ·exact eX k h
    ·exact iV j (eX j h) k h2
   have dV:∀k∈left ops.size af,af.getD k false=false:=by
    intro k hk;simp only[left,List.mem_filter,List.mem_range,Bool.not_eq_true']at hk;have gg:k<af.size:=by omega
    have:=hk.2;simp only[Array.getD_eq_getD_getElem?,Array.getElem?_eq_getElem gg,Option.getD_some]at this ⊢;exact this
   have ip:∀k∈dE,Zoc N ops ra ah k i=true/\k≠i/\k ∉ Zeo ah i/\i ∉ Zeo ah k:=by
    intro k hk;have dq:k∈left ops.size af:=by rw[bh];simp[hk]
    have hlt:k<i:=by
     rw[bh]at jv;exact(List.pairwise_append.1 jv).2.2 k hk i (by simp)
    have gh:k ∉ Zeo ah i:=fun h=>by have:=dD k h;rw[dV k dq]at this;cases this
    refine⟨eY k hlt gh,by omega,gh,fun h=>?_⟩;have b6:k<ops.size:=by omega
    obtain⟨_,_,_,jt,_⟩:=Zwb hD b6;have:=(jt i h).1;omega
   rw[bh]at cg;obtain⟨st1,oi,F',o',h1,h2,h3,h4⟩:=ZqT (Znw ops ra) (fun j _=>hcls j) ip (fun o2 cK hc2=>hJ i o2 ju cK hc2) cg;have cY:left ops.size (af.setIfInBounds i true)=dE++post:=by
    have e1:left ops.size (af.setIfInBounds i true)=(left ops.size af).filter (fun j=>decide (j≠i)):=by
     unfold left;rw[List.filter_filter];apply List.filter_congr;intro j hj;rw[ZmR _ _ _ _ (by omega)];by_cases e:i=j
     ·subst e;simp
     ·simp[e,Ne.symm e]
    rw[e1,bh,List.filter_append,List.filter_cons];rw[bh]at iW;obtain⟨n1,n2,n3⟩:=List.nodup_append.1 iW;have n4:=(List.nodup_cons.1 n2).1;rw[if_neg (by simp)];rw[List.filter_eq_self.2 (fun x hx=>by simp;exact fun e=>n3 x hx i (by simp) e),List.filter_eq_self.2 (fun x hx=>by simp;rintro rfl;exact n4 hx)]
   obtain⟨o2,v,s1,cK,hr,lw,dQ⟩:=ZdY h1;rw[dm]at cK;cases cK;have eZ:Zlg P N T ops ra i o st=some (st1,oi):=Zvu hr dQ;have iq:=ZlG hr;unfold wpOp;rw[dm];simp only;have bI:=ZlF (P:=P) hT hsh eZ (fun q hq=>ho q (h4 q (List.mem_append.2 (.inl hq)))) (K:=wpAny P .any ops Q bB (af.setIfInBounds i true)) (Q:=Q) fun a' w' bW=>by
    refine ih (af.setIfInBounds i true) st1 F' a' w' o' (by simp[aR]) ?_ ?_ ?_ bW (by rw[cY];exact h2) (fun q hq=>ho q (h4 q (List.mem_append.2 (.inr hq)))) fun F2 a2 w2 he hs2=>hk F2 a2 w2 (h3.trans he) hs2
    ·rw[cY];rw[bh]at hle;simp at hle ⊢;omega
    ·intro j hj k hk;rw[ZmR _ _ _ _ (by omega)]at hj ⊢;split
     ·rfl
     ·split at hj
      ·rename_i e;subst e;exact dD k hk
      ·exact iV j hj k hk
    ·intro j o2 hj cK hc2;have jx:j∈left ops.size af:=by
      rw[bh];rw[cY]at hj;rcases List.mem_append.1 hj with hj|hj
      ·exact List.mem_append.2 (.inl hj)
      ·exact List.mem_append.2 (.inr (List.mem_cons_of_mem _ hj))
     have hji:j≠i:=by
      rintro rfl;simp only[left,List.mem_filter,Bool.not_eq_true']at hj;have h5:=hj.2;rw[ZmR _ _ _ _ (by omega),if_pos rfl]at h5;cases h5
     refine Zjw (hJ j o2 jx cK hc2) (ZiW iq) (ZoI lw (Znw ops ra j o2 cK hc2) hji fun h=>?_) dQ;have:=dD j h;rw[dV j jx]at this;cases this
   split
   ·rename_i hw;rw[if_pos hw]at bI;exact .inl bI
   ·rename_i hw;rw[if_neg hw]at bI;exact bI
theorem ZHC(hT:Zef P T)(hm:P.follows .mixedOrders=true){id:Nat}{st st':St}{a:Act}{w:World}{obl:List Prop}(hsh:Zcq N S0 w0 st a w)(h:ZzO P N T ops ra ah st=some (st',obl))(ho:∀q∈obl,q)
  (hk:∀a' w',Zcq N S0 w0 st' a' w'->Q .normal a' w'):(Code.region id ops true).wp P Q a w:=by
 unfold ZzO at h;split at h
 ·rename_i hD hq;refine wp_region_any hm ?_;have hl:left ops.size (Array.replicate ops.size false)=List.range ops.size:=by
   unfold left;apply List.filter_eq_self.2;intro i hi;simp at hi;simp[Array.getD_eq_getD_getElem?,hi]
  have ir:Zcq N S0 w0 st a { w with drawn:=w.drawn+1 }:=by
   obtain⟨S,m,hs,hg⟩:=hsh;exact⟨S,m,hs.grow (Nat.le_refl _) (fun _ _=>rfl) (fun _ h=>h) (fun _ h=>.inl h),hg.step ⟨rfl,rfl,rfl,Nat.le_refl _,fun _ _=>rfl,Nat.le_succ _⟩ (fun _ h=>h) (fun _ h=>.inl h)⟩
  refine ZGf hT hD ops.size _ st st' a _ obl (by simp) (by rw[hl];simp) (fun j hj=>?_) (fun j o hj gi hc=>Zpq hq j _ (Znw ops ra j o gi hc)) ir (by rw[hl];exact h) ho fun F' a' w' he bW=>?_
  ·exfalso;simp only[Array.getD_eq_getD_getElem?,Array.getElem?_replicate]at hj;split at hj<;>simp at hj
  ·exact hk a' w' (bW.eqv ⟨fun t=>(he.env t).symm,he.heap.symm⟩)
 ·cases h
end
section
variable (P:Program) (N:Nat) (T:Tab) (ops:Array Oper) (ra:RA) (ah:List (List Nat))
def ZiU(i j:Nat):Bool:=!(Nat.beq j i) && !(memN i (Zeo ah j))
def rowP(i j:Nat):Bool:=match ops[j]? with
 |none=>false
 |some o=>(Zml o).all (fun k=>Nat.blt k j)&&(Zeo ah j).all (fun k=>Nat.blt k j&&(memN k (Zml o)||(Zml o).any fun l=>memN k (Zeo ah l))) &&
   (!(ZiU ah i j)||(ZsI ra j o&&(List.range j).all fun k=>!(ZiU ah i k)||memN k (Zeo ah j)||Zoc N ops ra ah k j))
def ZFW(pa:PA)(j:Nat)(a:Oper):Bool:=match clsX ra j a with
 | 0|1=>true
 | 3=>pa.lend.all fun p=>!(Nat.beq p.2 (a.dst.getD 0))
 |_=>false
def farI(pa:PA)(i j:Nat):Bool:=match ops[j]?,ops[i]? with
 |some a,some b=>!(ZiU ah i j)||memN j (Zeo ah i)||(ZFW ra pa j a&&disj a.dst (Zge ops b))
 |_,_=>false
def Zri(pa:PA)(i:Nat):Bool:=match ra.fz with
 | []=>(List.range ops.size).all (fun j=>rowP N ops ra ah i j&&farI ops ra ah pa i j)
 |_=>false
def Zzg(i:Nat)(pa:PA)(st:St):Option (V×List Prop):=match Zri N ops ra ah pa i,Zrg N st (Znx ra 0 ops.toList),ops[i]? with
 |true,true,some o=>match Zqm P N T ops ra ah (Znx ra 0 ops.toList) ((List.range ops.size).filter (ZiU ah i)) st with
  |some (F,o1)=>match Zwr P N ops pa (ZdL ra.an i) o F with
   |some (pv,o2)=>some (pv,o1++o2)
   |none=>none
  |none=>none
 |_,_,_=>none
end
section
variable {P:Program} {N:Nat} {T:Tab} {ops:Array Oper} {ra:RA} {ah:List (List Nat)} {Q:Exit->Act->World->Prop} {S0:Nat->Prop} {w0:Zba}
theorem Ztq{pa:PA}{i:Nat}(h:Zri N ops ra ah pa i=true){j:Nat}(hj:j<ops.size):∃o,ops[j]?=some o/\(∀k∈Zml o,k<j)/\(∀k∈Zeo ah j,k<j/\(k∈Zml o\/∃l∈Zml o,k∈Zeo ah l)) /\
  (ZiU ah i j=true->ZsI ra j o=true/\∀k,k<j->ZiU ah i k=true->k ∉ Zeo ah j->Zoc N ops ra ah k j=true)/\farI ops ra ah pa i j=true:=by
 unfold Zri at h;split at h
 ·have:=List.all_eq_true.1 h j (List.mem_range.2 hj);rw[Bool.and_eq_true]at this;obtain⟨h1,hf⟩:=this;unfold rowP at h1;split at h1
  ·cases h1
  ·rename_i o ho;simp only[Bool.and_eq_true,List.all_eq_true,Bool.or_eq_true,List.any_eq_true,List.mem_range,Bool.not_eq_true']at h1;obtain⟨⟨h1,h2⟩,h3⟩:=h1;refine⟨o,ho,fun k hk=>Nat.le_of_ble_eq_true (h1 k hk),fun k hk=>?_,fun ha=>?_,hf⟩
   ·obtain⟨h5,h6⟩:=h2 k hk;refine⟨Nat.le_of_ble_eq_true h5,?_⟩;rcases h6 with h6|⟨l,h6,h7⟩
    ·exact .inl (ZjM.1 h6)
    ·exact .inr ⟨l,h6,ZjM.1 h7⟩
   ·rcases h3 with h3|⟨h3,h4⟩
    ·rw[ha]at h3;cases h3
    ·refine⟨h3,fun k hk kw hn=>?_⟩;rcases h4 k hk with (h5|h5)|h5
     ·rw[kw]at h5;cases h5
     ·exact absurd (ZjM.1 h5) hn
     ·exact h5
 ·cases h
theorem ZDA{g:Nat->Option Nat}{h h2:List (Nat×B)}:∀{l:List (Nat×Nat)}{r:List (Nat×B)},(∀p∈l,∀b,hget h p.2=some b->hget h2 p.2=some b)->hIn g h l=some r->hIn g h2 l=some r
 | [],r,_,e=>e
 | (c0,i0) :: l,r,hs,e=>by
  simp only[hIn]at e ⊢
  split at e
  ·rename_i b hb
   split at e
   ·rename_i b0 l0 h1 h3
    cases e
    rw[hs _ List.mem_cons_self b hb]
    simp only[h1,ZDA (fun p hp=>hs p (List.mem_cons_of_mem _ hp)) h3]
   ·cases e
  ·cases e
theorem Zvw{pa:PA}{an:Option Ans}{o:Oper}{st st2:St}(hu:∀t∈Zge ops o,st2.get t=st.get t)(hh:∀p∈pa.lend,∀b,hget st.heap p.2=some b->hget st2.heap p.2=some b){r:V×List Prop}(h:Zwr P N ops pa an o st=some r)(iX:∀x,o.op=.panic x->False):Zwr P N ops pa an o st2=some r:=by
 unfold Zwr at h ⊢;rw[ZjF hu];split at h;rotate_left
 ·cases h
 have he:=ZkH hu;split at h
 ·rename_i c args bj bQ;rw[bQ]at he;unfold Zsq at h ⊢;rw[ZiH he];have ay:okHA N st2 ⟨pa.lend,[],[],pa.pv⟩=okHA N st ⟨pa.lend,[],[],pa.pv⟩:=rfl
  revert h
  cases hcal:ZjB P st c an with
  |none=>intro h;cases h
  |some q=>
   obtain⟨g,a,b,om⟩:=q;simp only;rw[ZgY (fun x hx=>he x (ZlJ x hx)) a b,ay];intro h;split at h;rotate_left
   ·cases h
   rename_i obl hx;cases h;split at hx;rotate_left
   ·cases hx
   rename_i h0 vs e1 e2 e3;cases hx;simp only[e1,ZDA hh e2,e3]
 ·rename_i x bQ;exact(iX x bQ).elim
 ·cases h
theorem Zuk{pa:PA}{oi:Oper}:∀{l:List Nat}{st F:St}{obl:List Prop},(∀j∈l,∃a,ops[j]?=some a/\ZFW ra pa j a=true/\disj a.dst (Zge ops oi)=true)->Zqm P N T ops ra ah (Znx ra 0 ops.toList) l st=some (F,obl) ->
  (∀p∈pa.lend,∀b,hget F.heap p.2=some b->hget st.heap p.2=some b)/\∀t∈Zge ops oi,F.get t=st.get t
 | [],st,F,obl,hl,h=>by cases h;exact⟨fun _ _ _ h=>h,fun _ _=>rfl⟩
 |j :: l,st,F,obl,hl,h=>by
  simp only[Zqm]at h
  split at h
  ·cases h
  rename_i s1 o1 h1
  split at h
  ·cases h
  rename_i s2 o2 h2
  cases h
  obtain⟨a,ha,hc,hd⟩:=hl j (by simp)
  obtain⟨a',v,sa,cA,hr,_,hp⟩:=ZdY h1
  rw[ha]at cA
  cases cA
  obtain⟨f1,f2⟩:=Zuk (fun k hk=>hl k (by simp[hk])) h2
  have e1:=ZlG hr
  refine⟨fun p bp b hb=>?_,fun t ht=>?_⟩
  ·have hb:=f1 p bp b hb
   rw[(ZaM hp 0).2]at hb
   unfold ZFW at hc
   split at hc
   ·rename_i h0
    obtain⟨_,e2,_⟩:=Zfj (st2:=st) (by omega) (fun _ _=>rfl) (fun _=>rfl) (fun _ h=>h) hr
    rwa [e2 (by omega)]at hb
   ·rename_i h0
    obtain⟨_,e2,_⟩:=Zfj (st2:=st) (by omega) (fun _ _=>rfl) (fun _=>rfl) (fun _ h=>h) hr
    rwa [e2 (by omega)]at hb
   ·rename_i h0
    rcases Zvv h0 hr with e|⟨_,e⟩
    ·rwa [e]at hb
    ·rcases e _ _ hb with e|e
     ·have:=List.all_eq_true.1 hc p bp
      rw[e]at this
      simp at this
     ·exact e
   ·cases hc
  ·rw[f2 t ht,(ZaM hp t).1,if_neg (ZbQ hd ht)]
   exact ZiW e1 t
theorem ZFw(hT:Zef P T){i:Nat}{pa:PA}(hD:Zri N ops ra ah pa i=true){oi:Oper}(dm:ops[i]?=some oi)(iX:∀x,oi.op=.panic x->False){pv:V}(hk:PanQ S0 w0 pv Q):∀(bB:Nat)(af:Array Bool)(st F:St)(a:Act)(w:World)(o1 o2:List Prop),af.size=ops.size->(left ops.size af).length<=bB ->
  af.getD i true=false->(∀j,af.getD j false=true->∀k∈Zeo ah j,af.getD k false=true)->(∀j o,j∈(left ops.size af).filter (ZiU ah i)->ops[j]?=some o->clsX ra j o=3->ZhT st (o.dst.getD 0) N=true) ->
  Zcq N S0 w0 st a w->Zqm P N T ops ra ah (Znx ra 0 ops.toList) ((left ops.size af).filter (ZiU ah i)) st=some (F,o1)->Zwr P N ops pa (ZdL ra.an i) oi F=some (pv,o2)->(∀q∈o1++o2,q)->wpAny P .any ops Q bB af a w:=by
 have iu:i<ops.size:=(Array.getElem?_eq_some_iff.1 dm).1;intro bB;have eW:∀(af:Array Bool),af.size=ops.size->Region.ready .any ops af=[]->left ops.size af=[]:=by
  intro af aR hr;cases hl:left ops.size af with
  |nil=>rfl
  |cons i l=>
   exfalso;have hm:i∈left ops.size af:=by rw[hl];simp
   have df:∀k,k<i->af.getD k true=true:=by
    intro k hk;cases hk2:af.getD k true with
    |true=>rfl
    |false=>
     exfalso;have hs:List.Pairwise (·< ·) (left ops.size af):=List.Pairwise.filter _ List.pairwise_lt_range;have hi:i<ops.size:=by simp[left]at hm;exact hm.1
     have dq:k∈left ops.size af:=by simp only[left,List.mem_filter,List.mem_range,Bool.not_eq_true'];exact⟨by omega,hk2⟩
     rw[hl]at hs dq;rcases List.mem_cons.1 dq with rfl|dq
     ·omega
     ·have:=(List.pairwise_cons.1 hs).1 k dq;omega
   have hi:i<ops.size/\af.getD i true=false:=by simpa[left]using hm
   obtain⟨o,ho,hd,_⟩:=Ztq hD hi.1;have:i∈Region.ready .any ops af:=Zpu.2 ⟨hi.1,hi.2,o,ho,fun k hk=>by
    have dk:=hd k hk;have h1:=df k dk;have gg:k<af.size:=by omega
    simp only[Array.getD_eq_getD_getElem?,Array.getElem?_eq_getElem gg,Option.getD_some]at h1 ⊢;exact h1⟩
   rw[hr]at this;cases this
 have e9:∀(af:Array Bool),af.getD i true=false->i∈left ops.size af:=fun af h=>by
  simp only[left,List.mem_filter,List.mem_range,Bool.not_eq_true'];exact⟨iu,h⟩
 induction bB with
 |zero=>
  intro af st F a w o1 o2 aR hle cC _ _ _ _ _ _;have hl:left ops.size af=[]:=List.eq_nil_of_length_eq_zero (by omega);have:=e9 af cC;rw[hl]at this;cases this
 |succ bB ih=>
  intro af st F a w o1 o2 aR hle cC iV hJ hsh cg gj ho;refine⟨fun hr=>?_,fun j hj=>?_⟩
  ·have:=e9 af cC;rw[eW af aR hr]at this;cases this
  ·obtain⟨hj1,hj2,o,gi,eX⟩:=Zpu.1 hj;have jx:j∈left ops.size af:=by simp only[left,List.mem_filter,List.mem_range,Bool.not_eq_true'];exact⟨hj1,hj2⟩
   obtain⟨o',jw,hd,hp,hc,jr⟩:=Ztq hD hj1;rw[gi]at jw;cases jw;have dD:∀k∈Zeo ah j,af.getD k false=true:=by
    intro k hk;rcases(hp k hk).2 with h|⟨l,h,h2⟩
    ·exact eX k h
    ·exact iV l (eX l h) k h2
   have dV:∀k∈left ops.size af,af.getD k false=false:=by
    intro k hk;simp only[left,List.mem_filter,List.mem_range,Bool.not_eq_true']at hk;have gg:k<af.size:=by omega
    have:=hk.2;simp only[Array.getD_eq_getD_getElem?,Array.getElem?_eq_getElem gg,Option.getD_some]at this ⊢;exact this
   unfold wpOp;rw[gi];simp only;by_cases hji:j=i
   ·-- the one that panics
    subst hji;rw[dm]at gi;cases gi;have hq:∀k∈(left ops.size af).filter (ZiU ah j),∃a,ops[k]?=some a/\ZFW ra pa k a=true/\disj a.dst (Zge ops oi)=true:=by
     intro k hk;obtain⟨b6,hk2⟩:=List.mem_filter.1 hk;have gg:k<ops.size:=by simp[left]at b6;exact b6.1
     obtain⟨ok,ay,_,_,_,hf⟩:=Ztq hD gg;unfold farI at hf;rw[ay,dm]at hf;simp only[Bool.or_eq_true,Bool.and_eq_true,Bool.not_eq_true']at hf;rcases hf with (hf|hf)|hf
     ·rw[hk2]at hf;cases hf
     ·have:=dD k (ZjM.1 hf);rw[dV k b6]at this;cases this
     ·exact⟨ok,ay,hf.1,hf.2⟩
    obtain⟨f1,f2⟩:=Zuk hq cg;have bp:=Zvw (fun t ht=>(f2 t ht).symm) f1 gj iX;obtain⟨h1,h2⟩:=ZAA (K:=wpAny P .any ops Q bB (af.setIfInBounds j true)) hsh bp (fun q hq=>ho q (List.mem_append.2 (.inr hq))) hk;rw[if_pos h1];exact .inl h2
   ·have hap:ZiU ah i j=true:=by
     unfold ZiU;simp only[Bool.and_eq_true,Bool.not_eq_true'];refine⟨?_,?_⟩
     ·cases hb:Nat.beq j i
      ·rfl
      ·exact absurd (ZaO hb) hji
     ·cases hb:memN i (Zeo ah j)
      ·rfl
      ·have:=dD i (ZjM.1 hb);rw[dV i (e9 af cC)]at this;cases this
    obtain⟨hcls,eY⟩:=hc hap;have ju:j∈(left ops.size af).filter (ZiU ah i):=List.mem_filter.2 ⟨jx,hap⟩;obtain⟨dE,post,bh⟩:=List.append_of_mem ju;have bZ:∀k∈(left ops.size af).filter (ZiU ah i),k<ops.size/\k∈left ops.size af/\ZiU ah i k=true:=fun k hk=>by
     obtain⟨h1,h2⟩:=List.mem_filter.1 hk;exact⟨by simp[left]at h1;exact h1.1,h1,h2⟩
    have iW:((left ops.size af).filter (ZiU ah i)).Nodup:=List.Pairwise.filter _ (List.Pairwise.filter _ List.nodup_range);have jv:List.Pairwise (·< ·) ((left ops.size af).filter (ZiU ah i)):=List.Pairwise.filter _ (List.Pairwise.filter _ List.pairwise_lt_range);have ip:∀k∈dE,Zoc N ops ra ah k j=true/\k≠j/\k ∉ Zeo ah j/\j ∉ Zeo ah k:=by
     intro k hk;have dq:k∈(left ops.size af).filter (ZiU ah i):=by rw[bh];simp[hk]
     obtain⟨k1,k2,k3⟩:=bZ k dq;have hlt:k<j:=by
      rw[bh]at jv;exact(List.pairwise_append.1 jv).2.2 k hk j (by simp)
     have gh:k ∉ Zeo ah j:=fun h=>by have:=dD k h;rw[dV k k2]at this;cases this
     refine⟨eY k hlt k3 gh,by omega,gh,fun h=>?_⟩;obtain⟨_,_,_,jt,_⟩:=Ztq hD k1;have:=(jt j h).1;omega
    rw[bh]at cg;have jy:∀k∈dE++post,∀o,ops[k]?=some o->ZsI ra k o=true:=fun k hk ok ay=>by
     have dq:k∈(left ops.size af).filter (ZiU ah i):=by
      rw[bh];rcases List.mem_append.1 hk with h|h
      ·exact List.mem_append.2 (.inl h)
      ·exact List.mem_append.2 (.inr (List.mem_cons_of_mem _ h))
     obtain⟨k1,k2,k3⟩:=bZ k dq;obtain⟨ok',bO,_,_,f5,_⟩:=Ztq hD k1;rw[ay]at bO;cases bO;exact(f5 k3).1
    obtain⟨st1,oo,F',o',h1,h2,h3,h4⟩:=ZqT (Znw ops ra) jy ip (fun o2 cK hc2=>hJ j o2 ju cK hc2) cg;have cY:(left ops.size (af.setIfInBounds j true)).filter (ZiU ah i)=dE++post:=by
     have e1:left ops.size (af.setIfInBounds j true)=(left ops.size af).filter (fun k=>decide (k≠j)):=by
      unfold left;rw[List.filter_filter];apply List.filter_congr;intro k hk;rw[ZmR _ _ _ _ (by omega)];by_cases e:j=k
      ·subst e;simp
      ·simp[e,Ne.symm e]
     rw[e1,List.filter_filter];have e2:(left ops.size af).filter (fun k=>ZiU ah i k&&decide (k≠j))=((left ops.size af).filter (ZiU ah i)).filter (fun k=>decide (k≠j)):=by
      rw[List.filter_filter];apply List.filter_congr;intro k _;exact Bool.and_comm _ _
     rw[e2,bh,List.filter_append,List.filter_cons];rw[bh]at iW;obtain⟨n1,n2,n3⟩:=List.nodup_append.1 iW;have n4:=(List.nodup_cons.1 n2).1;rw[if_neg (by simp)];rw[List.filter_eq_self.2 (fun x hx=>by simp;exact fun e=>n3 x hx j (by simp) e),List.filter_eq_self.2 (fun x hx=>by simp;rintro rfl;exact n4 hx)]
    have hlen:(left ops.size (af.setIfInBounds j true)).length<=bB:=by
     have e1:left ops.size (af.setIfInBounds j true)=(left ops.size af).filter (fun k=>decide (k≠j)):=by
      unfold left;rw[List.filter_filter];apply List.filter_congr;intro k hk;rw[ZmR _ _ _ _ (by omega)];by_cases e:j=k
      ·subst e;simp
      ·simp[e,Ne.symm e]
     rw[e1];have:((left ops.size af).filter (fun k=>decide (k≠j))).length<(left ops.size af).length:=by
      rcases Nat.lt_or_ge ((left ops.size af).filter (fun k=>decide (k≠j))).length (left ops.size af).length with h|h
      ·exact h
      ·have:=List.filter_eq_self.1 (List.Sublist.eq_of_length_le List.filter_sublist h) j jx;simp at this
     omega
    obtain⟨ox,v,s1,cK,hr,lw,dQ⟩:=ZdY h1;rw[gi]at cK;cases cK;have eZ:Zlg P N T ops ra j o st=some (st1,oo):=Zvu hr dQ;have iq:=ZlG hr;have jz:Zwr P N ops pa (ZdL ra.an i) oi F'=some (pv,o2):=Zvw (fun t _=>(h3.env t)) (fun _ _ _ h=>by rw[h3.heap];exact h) gj iX;have bI:=ZlF (P:=P) hT hsh eZ (fun q hq=>ho q (List.mem_append.2 (.inl (h4 q (List.mem_append.2 (.inl hq)))))) (K:=wpAny P .any ops Q bB (af.setIfInBounds j true)) (Q:=Q) fun a' w' bW=>by
     refine ih (af.setIfInBounds j true) st1 F' a' w' o' o2 (by simp[aR]) hlen ?_ ?_ ?_ bW (by rw[cY];exact h2) jz (fun q hq=>?_)
     ·rw[ZmR _ _ _ _ (by omega),if_neg hji];exact cC
     ·intro k hk l hl;rw[ZmR _ _ _ _ (by omega)]at hk ⊢;split
      ·rfl
      ·split at hk
       ·rename_i e;subst e;exact dD l hl
       ·exact iV k hk l hl
     ·intro k ok hk ay hc2;have hkj:k≠j:=by
       rintro rfl;have b6:=(List.mem_filter.1 hk).1;simp only[left,List.mem_filter,Bool.not_eq_true']at b6;have h5:=b6.2;rw[ZmR _ _ _ _ (by omega),if_pos rfl]at h5;cases h5
      rw[cY]at hk;have dq:k∈(left ops.size af).filter (ZiU ah i):=by
       rw[bh];rcases List.mem_append.1 hk with h|h
       ·exact List.mem_append.2 (.inl h)
       ·exact List.mem_append.2 (.inr (List.mem_cons_of_mem _ h))
      obtain⟨_,k2,_⟩:=bZ k dq;refine Zjw (hJ k ok dq ay hc2) (ZiW iq) (ZoI lw (Znw ops ra k ok ay hc2) hkj fun h=>?_) dQ;have:=dD k h;rw[dV k k2]at this;cases this
     ·rcases List.mem_append.1 hq with hq|hq
      ·exact ho q (List.mem_append.2 (.inl (h4 q (List.mem_append.2 (.inr hq)))))
      ·exact ho q (List.mem_append.2 (.inr hq))
    split
    ·rename_i hw;rw[if_pos hw]at bI;exact .inl bI
    ·rename_i hw;rw[if_neg hw]at bI;exact bI
theorem ZBI(hT:Zef P T)(hm:P.follows .mixedOrders=true){id i:Nat}{pa:PA}{st:St}{a:Act}{w:World}{pv:V}{obl:List Prop}(hsh:Zcq N S0 w0 st a w)(iX:∀o x,ops[i]?=some o->o.op=.panic x->False)(h:Zzg P N T ops ra ah i pa st=some (pv,obl))(ho:∀q∈obl,q)
  (hk:PanQ S0 w0 pv Q):(Code.region id ops true).wp P Q a w:=by
 unfold Zzg at h;split at h;rotate_left
 ·cases h
 rename_i oi hD hq dm;split at h;rotate_left
 ·cases h
 rename_i F o1 cg;split at h;rotate_left
 ·cases h
 rename_i pv2 o2 gj;cases h;refine wp_region_any hm ?_;have hl:left ops.size (Array.replicate ops.size false)=List.range ops.size:=by
  unfold left;apply List.filter_eq_self.2;intro i hi;simp at hi;simp[Array.getD_eq_getD_getElem?,hi]
 have ir:Zcq N S0 w0 st a { w with drawn:=w.drawn+1 }:=by
  obtain⟨S,m,hs,hg⟩:=hsh;exact⟨S,m,hs.grow (Nat.le_refl _) (fun _ _=>rfl) (fun _ h=>h) (fun _ h=>.inl h),hg.step ⟨rfl,rfl,rfl,Nat.le_refl _,fun _ _=>rfl,Nat.le_succ _⟩ (fun _ h=>h) (fun _ h=>.inl h)⟩
 have iu:i<ops.size:=(Array.getElem?_eq_some_iff.1 dm).1;refine ZFw hT hD dm (fun x hx=>iX oi x dm hx) hk ops.size _ st F a _ o1 o2 (by simp) (by rw[hl];simp) ?_ (fun j hj=>?_) (fun j o hj gi hc=>Zpq hq j _ (Znw ops ra j o gi hc)) ir (by rw[hl];exact cg) gj ho
 ·simp[Array.getD_eq_getD_getElem?,iu]
 ·exfalso;simp only[Array.getD_eq_getD_getElem?,Array.getElem?_replicate]at hj;split at hj<;>simp at hj
end
end Go.Proofs.YtdjfoojllbfcgaaGreat
