import Derived.Test.YtmnloegcpaahcaaGreatBAmR
import Derived.Orders
namespace Go.Proofs.YtmnloegcpaahcaaGreat
open Go.RowKit
set_option linter.unusedSimpArgs false
set_option linter.unusedVariables false
def ZqG:List Edge->List Nat
 | []=>[]
 |e :: l=>match Region.binds .any e with
  |true=>e.on :: ZqG l
  |false=>ZqG l
def ZmY(o:Oper):List Nat:=ZqG o.after.toList
theorem ZvZ{e:Edge}:∀{l:List Edge},e∈l->Region.binds .any e=true->e.on∈ZqG l
 | [],h,_=>by cases h
 |x :: l,h,hb=>by
  simp only[ZqG]
  rcases List.mem_cons.1 h with rfl|h
  .rw[hb];simp
  .have:=ZvZ h hb
   split
   .exact List.mem_cons_of_mem _ this
   .exact this
theorem ZtF{k:Nat}:∀{l:List Edge},k∈ZqG l->∃e∈l,Region.binds .any e=true/\e.on=k
 | [],h=>by simp[ZqG]at h
 |x :: l,h=>by
  simp only[ZqG]at h
  split at h
  .rename_i hb
   rcases List.mem_cons.1 h with rfl|h
   .exact⟨x,by simp,hb,rfl⟩
   .obtain⟨e,h1,h2⟩:=ZtF h
    exact⟨e,by simp[h1],h2⟩
  .obtain⟨e,h1,h2⟩:=ZtF h
   exact⟨e,by simp[h1],h2⟩
def ZKW(N:Nat)(ops:Array Oper)(ra:RA)(ah:List (List Nat))(i:Nat):Bool:=match ops[i]? with
 |none=>false
 |some o=>(ZmY o).all (fun k=>Nat.blt k i)&&(Zev ah i).all (fun k=>Nat.blt k i&&(memN k (ZmY o)||(ZmY o).any fun j=>memN k (Zev ah j)))&&ZtS ra i o &&
   (List.range i).all fun k=>memN k (Zev ah i)||Zpc N ops ra ah k i
def ZDH(N:Nat)(ops:Array Oper)(ra:RA)(ah:List (List Nat)):Bool:=match ra.fz with
 | []=>(List.range ops.size).all (ZKW N ops ra ah)
 |_=>false
theorem ZEJ{ra:RA}{i:Nat}{o:Oper}:∀{l:List Oper}{k:Nat},l[i]?=some o->clsX ra (k+i) o=3->(k+i,o.dst.getD 0)∈Zoo ra k l:=by
 induction i with
 |zero=>
  intro l k h hc;cases l with
  |nil=>simp at h
  |cons x l=>
   simp only[List.getElem?_cons_zero,Option.some.injEq]at h;subst h;rw[Nat.add_zero]at hc ⊢;simp[Zoo,hc]
 |succ i ih=>
  intro l k h hc;cases l with
  |nil=>simp at h
  |cons x l=>
   have h2:=ih (l:=l) (k:=k+1) (by simpa using h) (by rw[show k+1+i=k+(i+1)by omega];exact hc);rw[show k+1+i=k+(i+1)by omega]at h2;simp only[Zoo];split
   .exact List.mem_cons_of_mem _ h2
   .exact h2
theorem Zon(ops:Array Oper)(ra:RA):ZAT ops ra (Zoo ra 0 ops.toList):=by
 intro i o ho hc;have:=ZEJ (ra:=ra) (i:=i) (o:=o) (l:=ops.toList) (k:=0) (by simpa using ho) (by rw[Nat.zero_add];exact hc);rwa [Nat.zero_add]at this
def Zsk(N:Nat)(st:St):List (Nat×Nat)->Bool
 | []=>true
 | (_,d) :: l=>match ZhP st d N with
  |true=>Zsk N st l
  |false=>false
theorem Zqm{N:Nat}{st:St}:∀{l:List (Nat×Nat)},Zsk N st l=true->∀i d,(i,d)∈l->ZhP st d N=true
 | [],_,i,d,h=>by cases h
 | (j,d') :: l,hq,i,d,h=>by
  simp only[Zsk]at hq
  split at hq
  .rename_i h1
   rcases List.mem_cons.1 h with h|h
   .cases h;exact h1
   .exact Zqm hq i d h
  .cases hq
def ZCk(P:Program)(N:Nat)(T:Tab)(ops:Array Oper)(ra:RA)(ah:List (List Nat))(st:St):Option (St×List Prop):=match ZDH N ops ra ah,Zsk N st (Zoo ra 0 ops.toList)with
 |true,true=>Zro P N T ops ra ah (Zoo ra 0 ops.toList) (List.range ops.size) st
 |_,_=>none
section
variable {P:Program} {N:Nat} {T:Tab} {ops:Array Oper} {ra:RA} {ah:List (List Nat)} {Q:Exit->Act->World->Prop} {S0:Nat->Prop} {w0:ZaW}
theorem ZxS(h:ZDH N ops ra ah=true){i:Nat}(hi:i<ops.size):∃o,ops[i]?=some o/\(∀k∈ZmY o,k<i)/\(∀k∈Zev ah i,k<i/\(k∈ZmY o\/∃j∈ZmY o,k∈Zev ah j))/\ZtS ra i o=true/\∀k,k<i->k ∉ Zev ah i->Zpc N ops ra ah k i=true:=by
 unfold ZDH at h;split at h
 .have:=List.all_eq_true.1 h i (List.mem_range.2 hi);unfold ZKW at this;split at this
  .cases this
  .rename_i o ho;simp only[Bool.and_eq_true,List.all_eq_true,Bool.or_eq_true,List.any_eq_true,List.mem_range]at this;obtain⟨⟨⟨h1,h2⟩,h3⟩,h4⟩:=this;refine⟨o,ho,fun k hk=>Nat.le_of_ble_eq_true (h1 k hk),fun k hk=>?_,h3,fun k hk hn=>?_⟩
   .obtain⟨h5,h6⟩:=h2 k hk;refine⟨Nat.le_of_ble_eq_true h5,?_⟩;rcases h6 with h6|⟨j,h6,h7⟩
    .exact .inl (Zkt.1 h6)
    .exact .inr ⟨j,h6,Zkt.1 h7⟩
   .rcases h4 k hk with h5|h5
    .exact absurd (Zkt.1 h5) hn
    .exact h5
 .cases h
def left(n:Nat)(ac:Array Bool):List Nat:=(List.range n).filter fun i=>!ac.getD i true
theorem Zqp{ac:Array Bool}{i:Nat}:i∈Region.ready .any ops ac↔i<ops.size/\ac.getD i true=false/\∃o,ops[i]?=some o/\∀k∈ZmY o,ac.getD k false=true:=by
 unfold Region.ready;simp only[List.mem_filter,List.mem_range,Bool.and_eq_true,Bool.not_eq_true'];constructor
 .rintro ⟨h1,h2,h3⟩;refine⟨h1,h2,ops[i],by simp[h1],fun k hk=>?_⟩;rw[show ops[i]?=some ops[i]by simp[h1]]at h3;obtain⟨e,h4,h5,rfl⟩:=ZtF hk;simp only[Option.map_some,Option.getD_some,Array.all_eq_true_iff_forall_mem,Bool.or_eq_true,Bool.not_eq_true']at h3;rcases h3 e (by simpa using h4)with h6|h6
  .rw[h5]at h6;cases h6
  .exact h6
 .rintro ⟨h1,h2,o,ho,h3⟩;refine⟨h1,h2,?_⟩;rw[ho];simp only[Option.map_some,Option.getD_some,Array.all_eq_true_iff_forall_mem,Bool.or_eq_true,Bool.not_eq_true'];intro e he;cases hb:Region.binds .any e with
  |false=>exact .inl rfl
  |true=>exact .inr (h3 _ (ZvZ (by simpa using he) hb))
theorem ZnK(ac:Array Bool)(i j:Nat)(d:Bool)(hi:i<ac.size):(ac.setIfInBounds i true).getD j d=if i=j then true else ac.getD j d:=by
 simp only[Array.getD_eq_getD_getElem?,Array.getElem?_setIfInBounds];split
 .simp[*]
 .rfl
theorem ZJe(hT:Zec P T)(hD:ZDH N ops ra ah=true):∀(bH:Nat)(ac:Array Bool)(st F:St)(a:Act)(w:World)(obl:List Prop),ac.size=ops.size->(left ops.size ac).length<=bH ->
  (∀j,ac.getD j false=true->∀k∈Zev ah j,ac.getD k false=true)->(∀j o,j∈left ops.size ac->ops[j]?=some o->clsX ra j o=3->ZhP st (o.dst.getD 0) N=true) ->
  Zct N S0 w0 st a w->Zro P N T ops ra ah (Zoo ra 0 ops.toList) (left ops.size ac) st=some (F,obl)->(∀q∈obl,q)->(∀F' a' w',Eqv F F'->Zct N S0 w0 F' a' w'->Q .normal a' w')->wpAny P .any ops Q bH ac a w:=by
 intro bH;have hcls:∀i o,ops[i]?=some o->ZtS ra i o=true:=fun i o ho=>by
  obtain⟨o',h1,_,_,h4,_⟩:=ZxS hD (Array.getElem?_eq_some_iff.1 ho).1;rw[ho]at h1;cases h1;exact h4
 have fB:∀(ac:Array Bool),ac.size=ops.size->Region.ready .any ops ac=[]->left ops.size ac=[]:=by
  intro ac aX hr;cases hl:left ops.size ac with
  |nil=>rfl
  |cons i l=>
   exfalso;have hm:i∈left ops.size ac:=by rw[hl];simp
   have dt:∀k,k<i->ac.getD k true=true:=by
    intro k hk;cases hk2:ac.getD k true with
    |true=>rfl
    |false=>
     exfalso;have hs:List.Pairwise (·< ·) (left ops.size ac):=List.Pairwise.filter _ List.pairwise_lt_range;have hi:i<ops.size:=by simp[left]at hm;exact hm.1
     have dA:k∈left ops.size ac:=by simp only[left,List.mem_filter,List.mem_range,Bool.not_eq_true'];exact⟨by omega,hk2⟩
     rw[hl]at hs dA;rcases List.mem_cons.1 dA with rfl|dA
     .omega
     .have:=(List.pairwise_cons.1 hs).1 k dA;omega
   have hi:i<ops.size/\ac.getD i true=false:=by simpa[left]using hm
   obtain⟨o,ho,hd,_⟩:=ZxS hD hi.1;have:i∈Region.ready .any ops ac:=Zqp.2 ⟨hi.1,hi.2,o,ho,fun k hk=>by
    have hki:=hd k hk;have h1:=dt k hki;have gG:k<ac.size:=by omega
    simp only[Array.getD_eq_getD_getElem?,Array.getElem?_eq_getElem gG,Option.getD_some]at h1 ⊢;exact h1⟩
   rw[hr]at this;cases this
 induction bH with
 |zero=>
  intro ac st F a w obl aX hle iC hJ hsh cD ho hk;have hl:left ops.size ac=[]:=List.eq_nil_of_length_eq_zero (by omega);rw[hl]at cD;cases cD;refine⟨?_,hk _ a w (Eqv.refl _) hsh⟩;cases hr:Region.ready .any ops ac with
  |nil=>rfl
  |cons i l=>
   have hm:i∈Region.ready .any ops ac:=by rw[hr];simp
   obtain⟨h1,h2,_⟩:=Zqp.1 hm;have:i∈left ops.size ac:=by simp only[left,List.mem_filter,List.mem_range,Bool.not_eq_true'];exact⟨h1,h2⟩
   rw[hl]at this;cases this
 |succ bH ih=>
  intro ac st F a w obl aX hle iC hJ hsh cD ho hk;refine⟨fun hr=>?_,fun i hi=>?_⟩
  .rw[fB ac aX hr]at cD;cases cD;exact hk _ a w (Eqv.refl _) hsh
  .obtain⟨hi1,bt,o,dy,fC⟩:=Zqp.1 hi;have jC:i∈left ops.size ac:=by simp only[left,List.mem_filter,List.mem_range,Bool.not_eq_true'];exact⟨hi1,bt⟩
   obtain⟨dN,post,bj⟩:=List.append_of_mem jC;have hnd:(left ops.size ac).Nodup:=List.Pairwise.filter _ List.nodup_range;have jD:List.Pairwise (·< ·) (left ops.size ac):=List.Pairwise.filter _ List.pairwise_lt_range;obtain⟨o',jE,hd,hp,hc,fD⟩:=ZxS hD hi1;rw[dy]at jE;cases jE;have du:∀k∈Zev ah i,ac.getD k false=true:=by
    intro k hk;rcases(hp k hk).2 with h|⟨j,h,h2⟩
    .exact fC k h
    .exact iC j (fC j h) k h2
   have d9:∀k∈left ops.size ac,ac.getD k false=false:=by
    intro k hk;simp only[left,List.mem_filter,List.mem_range,Bool.not_eq_true']at hk;have gG:k<ac.size:=by omega
    have:=hk.2;simp only[Array.getD_eq_getD_getElem?,Array.getElem?_eq_getElem gG,Option.getD_some]at this ⊢;exact this
   have iD:∀k∈dN,Zpc N ops ra ah k i=true/\k≠i/\k ∉ Zev ah i/\i ∉ Zev ah k:=by
    intro k hk;have dA:k∈left ops.size ac:=by rw[bj];simp[hk]
    have hlt:k<i:=by
     rw[bj]at jD;exact(List.pairwise_append.1 jD).2.2 k hk i (by simp)
    have g7:k ∉ Zev ah i:=fun h=>by have:=du k h;rw[d9 k dA]at this;cases this
    refine⟨fD k hlt g7,by omega,g7,fun h=>?_⟩;have cf:k<ops.size:=by omega
    obtain⟨_,_,_,jB,_⟩:=ZxS hD cf;have:=(jB i h).1;omega
   rw[bj]at cD;obtain⟨st1,oi,F',o',h1,h2,h3,h4⟩:=ZrT (Zon ops ra) (fun j _=>hcls j) iD (fun o2 cJ hc2=>hJ i o2 jC cJ hc2) cD;have di:left ops.size (ac.setIfInBounds i true)=dN++post:=by
    have e1:left ops.size (ac.setIfInBounds i true)=(left ops.size ac).filter (fun j=>decide (j≠i)):=by
     unfold left;rw[List.filter_filter];apply List.filter_congr;intro j hj;rw[ZnK _ _ _ _ (by omega)];by_cases e:i=j
     .subst e;simp
     .simp[e,Ne.symm e]
    rw[e1,bj,List.filter_append,List.filter_cons];rw[bj]at hnd;obtain⟨n1,n2,n3⟩:=List.nodup_append.1 hnd;have n4:=(List.nodup_cons.1 n2).1;rw[if_neg (by simp)];rw[List.filter_eq_self.2 (fun x hx=>by simp;exact fun e=>n3 x hx i (by simp) e),List.filter_eq_self.2 (fun x hx=>by simp;rintro rfl;exact n4 hx)]
   obtain⟨o2,v,s1,cJ,hr,lp,dZ⟩:=ZdE h1;rw[dy]at cJ;cases cJ;have fE:ZlY P N T ops ra i o st=some (st1,oi):=Zxe hr dZ;have iE:=Zmt hr;unfold wpOp;rw[dy];simp only;have cr:=Zms (P:=P) hT hsh fE (fun q hq=>h4 ho q (List.mem_append.2 (.inl hq))) (K:=wpAny P .any ops Q bH (ac.setIfInBounds i true)) (Q:=Q) fun a' w' bO=>by
    refine ih (ac.setIfInBounds i true) st1 F' a' w' o' (by simp[aX]) ?_ ?_ ?_ bO (by rw[di];exact h2) (fun q hq=>h4 ho q (List.mem_append.2 (.inr hq))) fun F2 a2 w2 he iX=>hk F2 a2 w2 (h3.trans he) iX
    .rw[di];rw[bj]at hle;simp at hle ⊢;omega
    .intro j hj k hk;rw[ZnK _ _ _ _ (by omega)]at hj ⊢;split
     .rfl
     .split at hj
      .rename_i e;subst e;exact du k hk
      .exact iC j hj k hk
    .intro j o2 hj cJ hc2;have g8:j∈left ops.size ac:=by
      rw[bj];rw[di]at hj;rcases List.mem_append.1 hj with hj|hj
      .exact List.mem_append.2 (.inl hj)
      .exact List.mem_append.2 (.inr (List.mem_cons_of_mem _ hj))
     have hji:j≠i:=by
      rintro rfl;simp only[left,List.mem_filter,Bool.not_eq_true']at hj;have h5:=hj.2;rw[ZnK _ _ _ _ (by omega),if_pos rfl]at h5;cases h5
     refine ZjZ (hJ j o2 g8 cJ hc2) (Zjq iE) (ZpG lp (Zon ops ra j o2 cJ hc2) hji fun h=>?_) dZ;have:=du j h;rw[d9 j g8]at this;cases this
   split
   .rename_i hw;rw[if_pos hw]at cr;exact .inl cr
   .rename_i hw;rw[if_neg hw]at cr;exact cr
theorem ZKx(hT:Zec P T)(hm:P.follows .mixedOrders=true){id:Nat}{st st':St}{a:Act}{w:World}{obl:List Prop}(hsh:Zct N S0 w0 st a w)(h:ZCk P N T ops ra ah st=some (st',obl))(ho:∀q∈obl,q)
  (hk:∀a' w',Zct N S0 w0 st' a' w'->Q .normal a' w'):(Code.region id ops true).wp P Q a w:=by
 unfold ZCk at h;split at h
 .rename_i hD hq;refine wp_region_any hm ?_;have hl:left ops.size (Array.replicate ops.size false)=List.range ops.size:=by
   unfold left;apply List.filter_eq_self.2;intro i hi;simp at hi;simp[Array.getD_eq_getD_getElem?,hi]
  have iF:Zct N S0 w0 st a { w with drawn:=w.drawn+1 }:=by
   obtain⟨S,m,hs,hg⟩:=hsh;exact⟨S,m,hs.grow (Nat.le_refl _) (fun _ _=>rfl) (fun _ h=>h) (fun _ h=>.inl h),hg.step ⟨rfl,rfl,rfl,Nat.le_refl _,fun _ _=>rfl,Nat.le_succ _⟩ (fun _ h=>h) (fun _ h=>.inl h)⟩
  refine ZJe hT hD ops.size _ st st' a _ obl (by simp) (by rw[hl];simp) (fun j hj=>?_) (fun j o hj gH hc=>Zqm hq j _ (Zon ops ra j o gH hc)) iF (by rw[hl];exact h) ho fun F' a' w' he bO=>?_
  .exfalso;simp only[Array.getD_eq_getD_getElem?,Array.getElem?_replicate]at hj;split at hj<;>simp at hj
  .exact hk a' w' (bO.eqv ⟨fun t=>(he.env t).symm,he.heap.symm⟩)
 .cases h
end
section
variable (P:Program) (N:Nat) (T:Tab) (ops:Array Oper) (ra:RA) (ah:List (List Nat))
def Zjn(i j:Nat):Bool:=!(Nat.beq j i) && !(memN i (Zev ah j))
def rowP(i j:Nat):Bool:=match ops[j]? with
 |none=>false
 |some o=>(ZmY o).all (fun k=>Nat.blt k j)&&(Zev ah j).all (fun k=>Nat.blt k j&&(memN k (ZmY o)||(ZmY o).any fun l=>memN k (Zev ah l))) &&
   (!(Zjn ah i j)||(ZtS ra j o&&(List.range j).all fun k=>!(Zjn ah i k)||memN k (Zev ah j)||Zpc N ops ra ah k j))
def ZIW(pa:PA)(j:Nat)(a:Oper):Bool:=match clsX ra j a with
 | 0|1=>true
 | 3=>pa.lend.all fun p=>!(Nat.beq p.2 (a.dst.getD 0))
 |_=>false
def farI(pa:PA)(i j:Nat):Bool:=match ops[j]?,ops[i]? with
 |some a,some b=>!(Zjn ah i j)||memN j (Zev ah i)||(ZIW ra pa j a&&disj a.dst (Zfq ops b))
 |_,_=>false
def Zsm(pa:PA)(i:Nat):Bool:=match ra.fz with
 | []=>(List.range ops.size).all (fun j=>rowP N ops ra ah i j&&farI ops ra ah pa i j)
 |_=>false
def ZBv(i:Nat)(pa:PA)(st:St):Option (V×List Prop):=match Zsm N ops ra ah pa i,Zsk N st (Zoo ra 0 ops.toList),ops[i]? with
 |true,true,some o=>match Zro P N T ops ra ah (Zoo ra 0 ops.toList) ((List.range ops.size).filter (Zjn ah i)) st with
  |some (F,o1)=>match Zyj P N ops pa (Zdb ra.an i) o F with
   |some (pv,o2)=>some (pv,o1++o2)
   |none=>none
  |none=>none
 |_,_,_=>none
end
section
variable {P:Program} {N:Nat} {T:Tab} {ops:Array Oper} {ra:RA} {ah:List (List Nat)} {Q:Exit->Act->World->Prop} {S0:Nat->Prop} {w0:ZaW}
theorem ZuM{pa:PA}{i:Nat}(h:Zsm N ops ra ah pa i=true){j:Nat}(hj:j<ops.size):∃o,ops[j]?=some o/\(∀k∈ZmY o,k<j)/\(∀k∈Zev ah j,k<j/\(k∈ZmY o\/∃l∈ZmY o,k∈Zev ah l)) /\
  (Zjn ah i j=true->ZtS ra j o=true/\∀k,k<j->Zjn ah i k=true->k ∉ Zev ah j->Zpc N ops ra ah k j=true)/\farI ops ra ah pa i j=true:=by
 unfold Zsm at h;split at h
 .have:=List.all_eq_true.1 h j (List.mem_range.2 hj);rw[Bool.and_eq_true]at this;obtain⟨h1,hf⟩:=this;unfold rowP at h1;split at h1
  .cases h1
  .rename_i o ho;simp only[Bool.and_eq_true,List.all_eq_true,Bool.or_eq_true,List.any_eq_true,List.mem_range,Bool.not_eq_true']at h1;obtain⟨⟨h1,h2⟩,h3⟩:=h1;refine⟨o,ho,fun k hk=>Nat.le_of_ble_eq_true (h1 k hk),fun k hk=>?_,fun ha=>?_,hf⟩
   .obtain⟨h5,h6⟩:=h2 k hk;refine⟨Nat.le_of_ble_eq_true h5,?_⟩;rcases h6 with h6|⟨l,h6,h7⟩
    .exact .inl (Zkt.1 h6)
    .exact .inr ⟨l,h6,Zkt.1 h7⟩
   .rcases h3 with h3|⟨h3,h4⟩
    .rw[ha]at h3;cases h3
    .refine⟨h3,fun k hk ka hn=>?_⟩;rcases h4 k hk with (h5|h5)|h5
     .rw[ka]at h5;cases h5
     .exact absurd (Zkt.1 h5) hn
     .exact h5
 .cases h
theorem ZGF{g:Nat->Option Nat}{h h2:List (Nat×B)}:∀{l:List (Nat×Nat)}{r:List (Nat×B)},(∀p∈l,∀b,hget h p.2=some b->hget h2 p.2=some b)->hIn g h l=some r->hIn g h2 l=some r
 | [],r,_,e=>e
 | (c0,i0) :: l,r,hs,e=>by
  simp only[hIn]at e ⊢
  split at e
  .rename_i b hb
   split at e
   .rename_i b0 l0 h1 h3
    cases e
    rw[hs _ List.mem_cons_self b hb]
    simp only[h1,ZGF (fun p hp=>hs p (List.mem_cons_of_mem _ hp)) h3]
   .cases e
  .cases e
theorem Zxg{pa:PA}{an:Option Ans}{o:Oper}{st st2:St}(hu:∀t∈Zfq ops o,st2.get t=st.get t)(hh:∀p∈pa.lend,∀b,hget st.heap p.2=some b->hget st2.heap p.2=some b){r:V×List Prop}(h:Zyj P N ops pa an o st=some r)(iY:∀x,o.op=.panic x->False):Zyj P N ops pa an o st2=some r:=by
 unfold Zyj at h ⊢;rw[Zkg hu];split at h;rotate_left
 .cases h
 have he:=ZlA hu;split at h
 .rename_i c args bp bR;rw[bR]at he;unfold ZtD at h ⊢;rw[ZiU he];have aC:okHA N st2 ⟨pa.lend,[],[],pa.pv⟩=okHA N st ⟨pa.lend,[],[],pa.pv⟩:=rfl
  revert h
  cases hcal:Zkc P st c an with
  |none=>intro h;cases h
  |some q=>
   obtain⟨g,a,b,om⟩:=q;simp only;rw[Zhg (fun x hx=>he x (Zmx x hx)) a b,aC];intro h;split at h;rotate_left
   .cases h
   rename_i obl hx;cases h;split at hx;rotate_left
   .cases hx
   rename_i h0 vs e1 e2 e3;cases hx;simp only[e1,ZGF hh e2,e3]
 .rename_i x bR;exact(iY x bR).elim
 .cases h
theorem ZvM{pa:PA}{oi:Oper}:∀{l:List Nat}{st F:St}{obl:List Prop},(∀j∈l,∃a,ops[j]?=some a/\ZIW ra pa j a=true/\disj a.dst (Zfq ops oi)=true)->Zro P N T ops ra ah (Zoo ra 0 ops.toList) l st=some (F,obl) ->
  (∀p∈pa.lend,∀b,hget F.heap p.2=some b->hget st.heap p.2=some b)/\∀t∈Zfq ops oi,F.get t=st.get t
 | [],st,F,obl,hl,h=>by cases h;exact⟨fun _ _ _ h=>h,fun _ _=>rfl⟩
 |j :: l,st,F,obl,hl,h=>by
  simp only[Zro]at h
  split at h
  .cases h
  rename_i s1 o1 h1
  split at h
  .cases h
  rename_i s2 o2 h2
  cases h
  obtain⟨a,ha,hc,hd⟩:=hl j (by simp)
  obtain⟨a',v,sa,cy,hr,_,hp⟩:=ZdE h1
  rw[ha]at cy
  cases cy
  obtain⟨f1,f2⟩:=ZvM (fun k hk=>hl k (by simp[hk])) h2
  have e1:=Zmt hr
  refine⟨fun p bm b hb=>?_,fun t ht=>?_⟩
  .have hb:=f1 p bm b hb
   rw[(ZaI hp 0).2]at hb
   unfold ZIW at hc
   split at hc
   .rename_i h0
    obtain⟨_,e2,_⟩:=ZfE (st2:=st) (by omega) (fun _ _=>rfl) (fun _=>rfl) (fun _ h=>h) hr
    rwa [e2 (by omega)]at hb
   .rename_i h0
    obtain⟨_,e2,_⟩:=ZfE (st2:=st) (by omega) (fun _ _=>rfl) (fun _=>rfl) (fun _ h=>h) hr
    rwa [e2 (by omega)]at hb
   .rename_i h0
    rcases Zxf h0 hr with e|⟨_,e⟩
    .rwa [e]at hb
    .rcases e _ _ hb with e|e
     .have:=List.all_eq_true.1 hc p bm
      rw[e]at this
      simp at this
     .exact e
   .cases hc
  .rw[f2 t ht,(ZaI hp t).1,if_neg (ZbF hd ht)]
   exact Zjq e1 t
theorem ZIy(hT:Zec P T){i:Nat}{pa:PA}(hD:Zsm N ops ra ah pa i=true){oi:Oper}(dy:ops[i]?=some oi)(iY:∀x,oi.op=.panic x->False){pv:V}(hk:PanQ S0 w0 pv Q):∀(bH:Nat)(ac:Array Bool)(st F:St)(a:Act)(w:World)(o1 o2:List Prop),ac.size=ops.size->(left ops.size ac).length<=bH ->
  ac.getD i true=false->(∀j,ac.getD j false=true->∀k∈Zev ah j,ac.getD k false=true)->(∀j o,j∈(left ops.size ac).filter (Zjn ah i)->ops[j]?=some o->clsX ra j o=3->ZhP st (o.dst.getD 0) N=true) ->
  Zct N S0 w0 st a w->Zro P N T ops ra ah (Zoo ra 0 ops.toList) ((left ops.size ac).filter (Zjn ah i)) st=some (F,o1)->Zyj P N ops pa (Zdb ra.an i) oi F=some (pv,o2)->(∀q∈o1++o2,q)->wpAny P .any ops Q bH ac a w:=by
 have iG:i<ops.size:=(Array.getElem?_eq_some_iff.1 dy).1;intro bH;have fB:∀(ac:Array Bool),ac.size=ops.size->Region.ready .any ops ac=[]->left ops.size ac=[]:=by
  intro ac aX hr;cases hl:left ops.size ac with
  |nil=>rfl
  |cons i l=>
   exfalso;have hm:i∈left ops.size ac:=by rw[hl];simp
   have dt:∀k,k<i->ac.getD k true=true:=by
    intro k hk;cases hk2:ac.getD k true with
    |true=>rfl
    |false=>
     exfalso;have hs:List.Pairwise (·< ·) (left ops.size ac):=List.Pairwise.filter _ List.pairwise_lt_range;have hi:i<ops.size:=by simp[left]at hm;exact hm.1
     have dA:k∈left ops.size ac:=by simp only[left,List.mem_filter,List.mem_range,Bool.not_eq_true'];exact⟨by omega,hk2⟩
     rw[hl]at hs dA;rcases List.mem_cons.1 dA with rfl|dA
     .omega
     .have:=(List.pairwise_cons.1 hs).1 k dA;omega
   have hi:i<ops.size/\ac.getD i true=false:=by simpa[left]using hm
   obtain⟨o,ho,hd,_⟩:=ZuM hD hi.1;have:i∈Region.ready .any ops ac:=Zqp.2 ⟨hi.1,hi.2,o,ho,fun k hk=>by
    have hki:=hd k hk;have h1:=dt k hki;have gG:k<ac.size:=by omega
    simp only[Array.getD_eq_getD_getElem?,Array.getElem?_eq_getElem gG,Option.getD_some]at h1 ⊢;exact h1⟩
   rw[hr]at this;cases this
 have fF:∀(ac:Array Bool),ac.getD i true=false->i∈left ops.size ac:=fun ac h=>by
  simp only[left,List.mem_filter,List.mem_range,Bool.not_eq_true'];exact⟨iG,h⟩
 induction bH with
 |zero=>
  intro ac st F a w o1 o2 aX hle de _ _ _ _ _ _;have hl:left ops.size ac=[]:=List.eq_nil_of_length_eq_zero (by omega);have:=fF ac de;rw[hl]at this;cases this
 |succ bH ih=>
  intro ac st F a w o1 o2 aX hle de iC hJ hsh cD gI ho;refine⟨fun hr=>?_,fun j hj=>?_⟩
  .have:=fF ac de;rw[fB ac aX hr]at this;cases this
  .obtain⟨hj1,hj2,o,gH,fC⟩:=Zqp.1 hj;have g8:j∈left ops.size ac:=by simp only[left,List.mem_filter,List.mem_range,Bool.not_eq_true'];exact⟨hj1,hj2⟩
   obtain⟨o',jE,hd,hp,hc,jz⟩:=ZuM hD hj1;rw[gH]at jE;cases jE;have du:∀k∈Zev ah j,ac.getD k false=true:=by
    intro k hk;rcases(hp k hk).2 with h|⟨l,h,h2⟩
    .exact fC k h
    .exact iC l (fC l h) k h2
   have d9:∀k∈left ops.size ac,ac.getD k false=false:=by
    intro k hk;simp only[left,List.mem_filter,List.mem_range,Bool.not_eq_true']at hk;have gG:k<ac.size:=by omega
    have:=hk.2;simp only[Array.getD_eq_getD_getElem?,Array.getElem?_eq_getElem gG,Option.getD_some]at this ⊢;exact this
   unfold wpOp;rw[gH];simp only;by_cases hji:j=i
   .-- the one that panics
    subst hji;rw[dy]at gH;cases gH;have hq:∀k∈(left ops.size ac).filter (Zjn ah j),∃a,ops[k]?=some a/\ZIW ra pa k a=true/\disj a.dst (Zfq ops oi)=true:=by
     intro k hk;obtain⟨cf,hk2⟩:=List.mem_filter.1 hk;have gG:k<ops.size:=by simp[left]at cf;exact cf.1
     obtain⟨ok,aC,_,_,_,hf⟩:=ZuM hD gG;unfold farI at hf;rw[aC,dy]at hf;simp only[Bool.or_eq_true,Bool.and_eq_true,Bool.not_eq_true']at hf;rcases hf with (hf|hf)|hf
     .rw[hk2]at hf;cases hf
     .have:=du k (Zkt.1 hf);rw[d9 k cf]at this;cases this
     .exact⟨ok,aC,hf.1,hf.2⟩
    obtain⟨f1,f2⟩:=ZvM hq cD;have bm:=Zxg (fun t ht=>(f2 t ht).symm) f1 gI iY;obtain⟨h1,h2⟩:=ZDg (K:=wpAny P .any ops Q bH (ac.setIfInBounds j true)) hsh bm (fun q hq=>ho q (List.mem_append.2 (.inr hq))) hk;rw[if_pos h1];exact .inl h2
   .have hap:Zjn ah i j=true:=by
     unfold Zjn;simp only[Bool.and_eq_true,Bool.not_eq_true'];refine⟨?_,?_⟩
     .cases hb:Nat.beq j i
      .rfl
      .exact absurd (ZaO hb) hji
     .cases hb:memN i (Zev ah j)
      .rfl
      .have:=du i (Zkt.1 hb);rw[d9 i (fF ac de)]at this;cases this
    obtain⟨hcls,fD⟩:=hc hap;have jC:j∈(left ops.size ac).filter (Zjn ah i):=List.mem_filter.2 ⟨g8,hap⟩;obtain⟨dN,post,bj⟩:=List.append_of_mem jC;have cE:∀k∈(left ops.size ac).filter (Zjn ah i),k<ops.size/\k∈left ops.size ac/\Zjn ah i k=true:=fun k hk=>by
     obtain⟨h1,h2⟩:=List.mem_filter.1 hk;exact⟨by simp[left]at h1;exact h1.1,h1,h2⟩
    have hnd:((left ops.size ac).filter (Zjn ah i)).Nodup:=List.Pairwise.filter _ (List.Pairwise.filter _ List.nodup_range);have jD:List.Pairwise (·< ·) ((left ops.size ac).filter (Zjn ah i)):=List.Pairwise.filter _ (List.Pairwise.filter _ List.pairwise_lt_range);have iD:∀k∈dN,Zpc N ops ra ah k j=true/\k≠j/\k ∉ Zev ah j/\j ∉ Zev ah k:=by
     intro k hk;have dA:k∈(left ops.size ac).filter (Zjn ah i):=by rw[bj];simp[hk]
     obtain⟨k1,k2,k3⟩:=cE k dA;have hlt:k<j:=by
      rw[bj]at jD;exact(List.pairwise_append.1 jD).2.2 k hk j (by simp)
     have g7:k ∉ Zev ah j:=fun h=>by have:=du k h;rw[d9 k k2]at this;cases this
     refine⟨fD k hlt k3 g7,by omega,g7,fun h=>?_⟩;obtain⟨_,_,_,jB,_⟩:=ZuM hD k1;have:=(jB j h).1;omega
    rw[bj]at cD;have jF:∀k∈dN++post,∀o,ops[k]?=some o->ZtS ra k o=true:=fun k hk ok aC=>by
     have dA:k∈(left ops.size ac).filter (Zjn ah i):=by
      rw[bj];rcases List.mem_append.1 hk with h|h
      .exact List.mem_append.2 (.inl h)
      .exact List.mem_append.2 (.inr (List.mem_cons_of_mem _ h))
     obtain⟨k1,k2,k3⟩:=cE k dA;obtain⟨ok',bS,_,_,gw,_⟩:=ZuM hD k1;rw[aC]at bS;cases bS;exact(gw k3).1
    obtain⟨st1,oo,F',o',h1,h2,h3,h4⟩:=ZrT (Zon ops ra) jF iD (fun o2 cJ hc2=>hJ j o2 jC cJ hc2) cD;have di:(left ops.size (ac.setIfInBounds j true)).filter (Zjn ah i)=dN++post:=by
     have e1:left ops.size (ac.setIfInBounds j true)=(left ops.size ac).filter (fun k=>decide (k≠j)):=by
      unfold left;rw[List.filter_filter];apply List.filter_congr;intro k hk;rw[ZnK _ _ _ _ (by omega)];by_cases e:j=k
      .subst e;simp
      .simp[e,Ne.symm e]
     rw[e1,List.filter_filter];have e2:(left ops.size ac).filter (fun k=>Zjn ah i k&&decide (k≠j))=((left ops.size ac).filter (Zjn ah i)).filter (fun k=>decide (k≠j)):=by
      rw[List.filter_filter];apply List.filter_congr;intro k _;exact Bool.and_comm _ _
     rw[e2,bj,List.filter_append,List.filter_cons];rw[bj]at hnd;obtain⟨n1,n2,n3⟩:=List.nodup_append.1 hnd;have n4:=(List.nodup_cons.1 n2).1;rw[if_neg (by simp)];rw[List.filter_eq_self.2 (fun x hx=>by simp;exact fun e=>n3 x hx j (by simp) e),List.filter_eq_self.2 (fun x hx=>by simp;rintro rfl;exact n4 hx)]
    have hlen:(left ops.size (ac.setIfInBounds j true)).length<=bH:=by
     have e1:left ops.size (ac.setIfInBounds j true)=(left ops.size ac).filter (fun k=>decide (k≠j)):=by
      unfold left;rw[List.filter_filter];apply List.filter_congr;intro k hk;rw[ZnK _ _ _ _ (by omega)];by_cases e:j=k
      .subst e;simp
      .simp[e,Ne.symm e]
     rw[e1];have:((left ops.size ac).filter (fun k=>decide (k≠j))).length<(left ops.size ac).length:=by
      rcases Nat.lt_or_ge ((left ops.size ac).filter (fun k=>decide (k≠j))).length (left ops.size ac).length with h|h
      .exact h
      .have:=List.filter_eq_self.1 (List.Sublist.eq_of_length_le List.filter_sublist h) j g8;simp at this
     omega
    obtain⟨ox,v,s1,cJ,hr,lp,dZ⟩:=ZdE h1;rw[gH]at cJ;cases cJ;have fE:ZlY P N T ops ra j o st=some (st1,oo):=Zxe hr dZ;have iE:=Zmt hr;have jG:Zyj P N ops pa (Zdb ra.an i) oi F'=some (pv,o2):=Zxg (fun t _=>(h3.env t)) (fun _ _ _ h=>by rw[h3.heap];exact h) gI iY;have cr:=Zms (P:=P) hT hsh fE (fun q hq=>h4 (fun q hq=>ho q (List.mem_append.2 (.inl hq))) q (List.mem_append.2 (.inl hq))) (K:=wpAny P .any ops Q bH (ac.setIfInBounds j true)) (Q:=Q) fun a' w' bO=>by
     refine ih (ac.setIfInBounds j true) st1 F' a' w' o' o2 (by simp[aX]) hlen ?_ ?_ ?_ bO (by rw[di];exact h2) jG (fun q hq=>?_)
     .rw[ZnK _ _ _ _ (by omega),if_neg hji];exact de
     .intro k hk l hl;rw[ZnK _ _ _ _ (by omega)]at hk ⊢;split
      .rfl
      .split at hk
       .rename_i e;subst e;exact du l hl
       .exact iC k hk l hl
     .intro k ok hk aC hc2;have lq:k≠j:=by
       rintro rfl;have cf:=(List.mem_filter.1 hk).1;simp only[left,List.mem_filter,Bool.not_eq_true']at cf;have h5:=cf.2;rw[ZnK _ _ _ _ (by omega),if_pos rfl]at h5;cases h5
      rw[di]at hk;have dA:k∈(left ops.size ac).filter (Zjn ah i):=by
       rw[bj];rcases List.mem_append.1 hk with h|h
       .exact List.mem_append.2 (.inl h)
       .exact List.mem_append.2 (.inr (List.mem_cons_of_mem _ h))
      obtain⟨_,k2,_⟩:=cE k dA;refine ZjZ (hJ k ok dA aC hc2) (Zjq iE) (ZpG lp (Zon ops ra k ok aC hc2) lq fun h=>?_) dZ;have:=du k h;rw[d9 k k2]at this;cases this
     .rcases List.mem_append.1 hq with hq|hq
      .exact h4 (fun q hq=>ho q (List.mem_append.2 (.inl hq))) q (List.mem_append.2 (.inr hq))
      .exact ho q (List.mem_append.2 (.inr hq))
    split
    .rename_i hw;rw[if_pos hw]at cr;exact .inl cr
    .rename_i hw;rw[if_neg hw]at cr;exact cr
theorem ZEE(hT:Zec P T)(hm:P.follows .mixedOrders=true){id i:Nat}{pa:PA}{st:St}{a:Act}{w:World}{pv:V}{obl:List Prop}(hsh:Zct N S0 w0 st a w)(iY:∀o x,ops[i]?=some o->o.op=.panic x->False)(h:ZBv P N T ops ra ah i pa st=some (pv,obl))(ho:∀q∈obl,q)
  (hk:PanQ S0 w0 pv Q):(Code.region id ops true).wp P Q a w:=by
 unfold ZBv at h;split at h;rotate_left
 .cases h
 rename_i oi hD hq dy;split at h;rotate_left
 .cases h
 rename_i F o1 cD;split at h;rotate_left
 .cases h
 rename_i pv2 o2 gI;cases h;refine wp_region_any hm ?_;have hl:left ops.size (Array.replicate ops.size false)=List.range ops.size:=by
  unfold left;apply List.filter_eq_self.2;intro i hi;simp at hi;simp[Array.getD_eq_getD_getElem?,hi]
 have iF:Zct N S0 w0 st a { w with drawn:=w.drawn+1 }:=by
  obtain⟨S,m,hs,hg⟩:=hsh;exact⟨S,m,hs.grow (Nat.le_refl _) (fun _ _=>rfl) (fun _ h=>h) (fun _ h=>.inl h),hg.step ⟨rfl,rfl,rfl,Nat.le_refl _,fun _ _=>rfl,Nat.le_succ _⟩ (fun _ h=>h) (fun _ h=>.inl h)⟩
 have iG:i<ops.size:=(Array.getElem?_eq_some_iff.1 dy).1;refine ZIy hT hD dy (fun x hx=>iY oi x dy hx) hk ops.size _ st F a _ o1 o2 (by simp) (by rw[hl];simp) ?_ (fun j hj=>?_) (fun j o hj gH hc=>Zqm hq j _ (Zon ops ra j o gH hc)) iF (by rw[hl];exact cD) gI ho
 .simp[Array.getD_eq_getD_getElem?,iG]
 .exfalso;simp only[Array.getD_eq_getD_getElem?,Array.getElem?_replicate]at hj;split at hj<;>simp at hj
end
end Go.Proofs.YtmnloegcpaahcaaGreat
