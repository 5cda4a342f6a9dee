import Derived.Test.YtdjfoojllbfcgaaGreatJAmR
import Derived.Orders
namespace Go.Proofs.YtdjfoojllbfcgaaGreat
open Go.RowKit
set_option linter.unusedSimpArgs false
set_option linter.unusedVariables false
def ZqF:List Edge->List Nat
 | []=>[]
 |e :: l=>match Region.binds .any e with
  |true=>e.on :: ZqF l
  |false=>ZqF l
def ZmO(o:Oper):List Nat:=ZqF o.after.toList
theorem ZvY{e:Edge}:∀{l:List Edge},e∈l->Region.binds .any e=true->e.on∈ZqF l
 | [],h,_=>by cases h
 |x :: l,h,hb=>by
  simp only[ZqF]
  rcases List.mem_cons.1 h with rfl|h
  .rw[hb];simp
  .have:=ZvY h hb
   split
   .exact List.mem_cons_of_mem _ this
   .exact this
theorem ZtM{k:Nat}:∀{l:List Edge},k∈ZqF l->∃e∈l,Region.binds .any e=true/\e.on=k
 | [],h=>by simp[ZqF]at h
 |x :: l,h=>by
  simp only[ZqF]at h
  split at h
  .rename_i hb
   rcases List.mem_cons.1 h with rfl|h
   .exact⟨x,by simp,hb,rfl⟩
   .obtain⟨e,h1,h2⟩:=ZtM h
    exact⟨e,by simp[h1],h2⟩
  .obtain⟨e,h1,h2⟩:=ZtM h
   exact⟨e,by simp[h1],h2⟩
def ZKN(N:Nat)(ops:Array Oper)(ra:RA)(ag:List (List Nat))(i:Nat):Bool:=match ops[i]? with
 |none=>false
 |some o=>(ZmO o).all (fun k=>Nat.blt k i)&&(Zer ag i).all (fun k=>Nat.blt k i&&(memN k (ZmO o)||(ZmO o).any fun j=>memN k (Zer ag j)))&&Zub ra i o &&
   (List.range i).all fun k=>memN k (Zer ag i)||ZoN N ops ra ag k i
def ZDt(N:Nat)(ops:Array Oper)(ra:RA)(ag:List (List Nat)):Bool:=match ra.fz with
 | []=>(List.range ops.size).all (ZKN N ops ra ag)
 |_=>false
theorem ZEv{ra:RA}{i:Nat}{o:Oper}:∀{l:List Oper}{k:Nat},l[i]?=some o->clsX ra (k+i) o=3->(k+i,o.dst.getD 0)∈Zoc ra k l:=by
 induction i with
 |zero=>
  intro l k h hc;cases l with
  |nil=>simp at h
  |cons x l=>
   simp only[List.getElem?_cons_zero,Option.some.injEq]at h;subst h;rw[Nat.add_zero]at hc ⊢;simp[Zoc,hc]
 |succ i ih=>
  intro l k h hc;cases l with
  |nil=>simp at h
  |cons x l=>
   have h2:=ih (l:=l) (k:=k+1) (by simpa using h) (by rw[show k+1+i=k+(i+1)by omega];exact hc);rw[show k+1+i=k+(i+1)by omega]at h2;simp only[Zoc];split
   .exact List.mem_cons_of_mem _ h2
   .exact h2
theorem Zob(ops:Array Oper)(ra:RA):ZCu ops ra (Zoc ra 0 ops.toList):=by
 intro i o ho hc;have:=ZEv (ra:=ra) (i:=i) (o:=o) (l:=ops.toList) (k:=0) (by simpa using ho) (by rw[Nat.zero_add];exact hc);rwa [Nat.zero_add]at this
def Zsh(N:Nat)(st:St):List (Nat×Nat)->Bool
 | []=>true
 | (_,d) :: l=>match ZhX st d N with
  |true=>Zsh N st l
  |false=>false
theorem Zqe{N:Nat}{st:St}:∀{l:List (Nat×Nat)},Zsh N st l=true->∀i d,(i,d)∈l->ZhX st d N=true
 | [],_,i,d,h=>by cases h
 | (j,d') :: l,hq,i,d,h=>by
  simp only[Zsh]at hq
  split at hq
  .rename_i h1
   rcases List.mem_cons.1 h with h|h
   .cases h;exact h1
   .exact Zqe hq i d h
  .cases hq
def ZCh(P:Program)(N:Nat)(T:Tab)(ops:Array Oper)(ra:RA)(ag:List (List Nat))(st:St):Option (St×List Prop):=match ZDt N ops ra ag,Zsh N st (Zoc ra 0 ops.toList)with
 |true,true=>Zrp P N T ops ra ag (Zoc ra 0 ops.toList) (List.range ops.size) st
 |_,_=>none
section
variable {P:Program} {N:Nat} {T:Tab} {ops:Array Oper} {ra:RA} {ag:List (List Nat)} {Q:Exit->Act->World->Prop} {S0:Nat->Prop} {w0:ZaW}
theorem ZxZ(h:ZDt N ops ra ag=true){i:Nat}(hi:i<ops.size):∃o,ops[i]?=some o/\(∀k∈ZmO o,k<i)/\(∀k∈Zer ag i,k<i/\(k∈ZmO o\/∃j∈ZmO o,k∈Zer ag j))/\Zub ra i o=true/\∀k,k<i->k ∉ Zer ag i->ZoN N ops ra ag k i=true:=by
 unfold ZDt at h;split at h
 .have:=List.all_eq_true.1 h i (List.mem_range.2 hi);unfold ZKN at this;split at this
  .cases this
  .rename_i o ho;simp only[Bool.and_eq_true,List.all_eq_true,Bool.or_eq_true,List.any_eq_true,List.mem_range]at this;obtain⟨⟨⟨h1,h2⟩,h3⟩,h4⟩:=this;refine⟨o,ho,fun k hk=>Nat.le_of_ble_eq_true (h1 k hk),fun k hk=>?_,h3,fun k hk hn=>?_⟩
   .obtain⟨h5,h6⟩:=h2 k hk;refine⟨Nat.le_of_ble_eq_true h5,?_⟩;rcases h6 with h6|⟨j,h6,h7⟩
    .exact .inl (Zkc.1 h6)
    .exact .inr ⟨j,h6,Zkc.1 h7⟩
   .rcases h4 k hk with h5|h5
    .exact absurd (Zkc.1 h5) hn
    .exact h5
 .cases h
def left(n:Nat)(ac:Array Bool):List Nat:=(List.range n).filter fun i=>!ac.getD i true
theorem Zqh{ac:Array Bool}{i:Nat}:i∈Region.ready .any ops ac↔i<ops.size/\ac.getD i true=false/\∃o,ops[i]?=some o/\∀k∈ZmO o,ac.getD k false=true:=by
 unfold Region.ready;simp only[List.mem_filter,List.mem_range,Bool.and_eq_true,Bool.not_eq_true'];constructor
 .rintro ⟨h1,h2,h3⟩;refine⟨h1,h2,ops[i],by simp[h1],fun k hk=>?_⟩;rw[show ops[i]?=some ops[i]by simp[h1]]at h3;obtain⟨e,h4,h5,rfl⟩:=ZtM hk;simp only[Option.map_some,Option.getD_some,Array.all_eq_true_iff_forall_mem,Bool.or_eq_true,Bool.not_eq_true']at h3;rcases h3 e (by simpa using h4)with h6|h6
  .rw[h5]at h6;cases h6
  .exact h6
 .rintro ⟨h1,h2,o,ho,h3⟩;refine⟨h1,h2,?_⟩;rw[ho];simp only[Option.map_some,Option.getD_some,Array.all_eq_true_iff_forall_mem,Bool.or_eq_true,Bool.not_eq_true'];intro e he;cases hb:Region.binds .any e with
  |false=>exact .inl rfl
  |true=>exact .inr (h3 _ (ZvY (by simpa using he) hb))
theorem Znr(ac:Array Bool)(i j:Nat)(d:Bool)(hi:i<ac.size):(ac.setIfInBounds i true).getD j d=if i=j then true else ac.getD j d:=by
 simp only[Array.getD_eq_getD_getElem?,Array.getElem?_setIfInBounds];split
 .simp[*]
 .rfl
theorem ZIP(hT:Zee P T)(hD:ZDt N ops ra ag=true):∀(fuel:Nat)(ac:Array Bool)(st F:St)(a:Act)(w:World)(obl:List Prop),ac.size=ops.size->(left ops.size ac).length<=fuel ->
  (∀j,ac.getD j false=true->∀k∈Zer ag j,ac.getD k false=true)->(∀j o,j∈left ops.size ac->ops[j]?=some o->clsX ra j o=3->ZhX st (o.dst.getD 0) N=true) ->
  Zcg N S0 w0 st a w->Zrp P N T ops ra ag (Zoc ra 0 ops.toList) (left ops.size ac) st=some (F,obl)->(∀q∈obl,q)->(∀F' a' w',Eqv F F'->Zcg N S0 w0 F' a' w'->Q .normal a' w')->wpAny P .any ops Q fuel ac a w:=by
 intro fuel;have hcls:∀i o,ops[i]?=some o->Zub ra i o=true:=fun i o ho=>by
  obtain⟨o',h1,_,_,h4,_⟩:=ZxZ hD (Array.getElem?_eq_some_iff.1 ho).1;rw[ho]at h1;cases h1;exact h4
 have fk:∀(ac:Array Bool),ac.size=ops.size->Region.ready .any ops ac=[]->left ops.size ac=[]:=by
  intro ac aM hr;cases hl:left ops.size ac with
  |nil=>rfl
  |cons i l=>
   exfalso;have hm:i∈left ops.size ac:=by rw[hl];simp
   have cC:∀k,k<i->ac.getD k true=true:=by
    intro k hk;cases hk2:ac.getD k true with
    |true=>rfl
    |false=>
     exfalso;have hs:List.Pairwise (·< ·) (left ops.size ac):=List.Pairwise.filter _ List.pairwise_lt_range;have hi:i<ops.size:=by simp[left]at hm;exact hm.1
     have dv:k∈left ops.size ac:=by simp only[left,List.mem_filter,List.mem_range,Bool.not_eq_true'];exact⟨by omega,hk2⟩
     rw[hl]at hs dv;rcases List.mem_cons.1 dv with rfl|dv
     .omega
     .have:=(List.pairwise_cons.1 hs).1 k dv;omega
   have hi:i<ops.size/\ac.getD i true=false:=by simpa[left]using hm
   obtain⟨o,ho,hd,_⟩:=ZxZ hD hi.1;have:i∈Region.ready .any ops ac:=Zqh.2 ⟨hi.1,hi.2,o,ho,fun k hk=>by
    have dq:=hd k hk;have h1:=cC k dq;have gl:k<ac.size:=by omega
    simp only[Array.getD_eq_getD_getElem?,Array.getElem?_eq_getElem gl,Option.getD_some]at h1 ⊢;exact h1⟩
   rw[hr]at this;cases this
 induction fuel with
 |zero=>
  intro ac st F a w obl aM hle jd hJ hsh bW ho hk;have hl:left ops.size ac=[]:=List.eq_nil_of_length_eq_zero (by omega);rw[hl]at bW;cases bW;refine⟨?_,hk _ a w (Eqv.refl _) hsh⟩;cases hr:Region.ready .any ops ac with
  |nil=>rfl
  |cons i l=>
   have hm:i∈Region.ready .any ops ac:=by rw[hr];simp
   obtain⟨h1,h2,_⟩:=Zqh.1 hm;have:i∈left ops.size ac:=by simp only[left,List.mem_filter,List.mem_range,Bool.not_eq_true'];exact⟨h1,h2⟩
   rw[hl]at this;cases this
 |succ fuel ih=>
  intro ac st F a w obl aM hle jd hJ hsh bW ho hk;refine⟨fun hr=>?_,fun i hi=>?_⟩
  .rw[fk ac aM hr]at bW;cases bW;exact hk _ a w (Eqv.refl _) hsh
  .obtain⟨hi1,eL,o,dt,fl⟩:=Zqh.1 hi;have jL:i∈left ops.size ac:=by simp only[left,List.mem_filter,List.mem_range,Bool.not_eq_true'];exact⟨hi1,eL⟩
   obtain⟨dL,post,aX⟩:=List.append_of_mem jL;have je:(left ops.size ac).Nodup:=List.Pairwise.filter _ List.nodup_range;have iw:List.Pairwise (·< ·) (left ops.size ac):=List.Pairwise.filter _ List.pairwise_lt_range;obtain⟨o',jM,hd,hp,hc,fm⟩:=ZxZ hD hi1;rw[dt]at jM;cases jM;have dI:∀k∈Zer ag i,ac.getD k false=true:=by
    intro k hk;rcases(hp k hk).2 with h|⟨j,h,h2⟩
    .exact fl k h
    .exact jd j (fl j h) k h2
   have d8:∀k∈left ops.size ac,ac.getD k false=false:=by
    intro k hk;simp only[left,List.mem_filter,List.mem_range,Bool.not_eq_true']at hk;have gl:k<ac.size:=by omega
    have:=hk.2;simp only[Array.getD_eq_getD_getElem?,Array.getElem?_eq_getElem gl,Option.getD_some]at this ⊢;exact this
   have ix:∀k∈dL,ZoN N ops ra ag k i=true/\k≠i/\k ∉ Zer ag i/\i ∉ Zer ag k:=by
    intro k hk;have dv:k∈left ops.size ac:=by rw[aX];simp[hk]
    have hlt:k<i:=by
     rw[aX]at iw;exact(List.pairwise_append.1 iw).2.2 k hk i (by simp)
    have iy:k ∉ Zer ag i:=fun h=>by have:=dI k h;rw[d8 k dv]at this;cases this
    refine⟨fm k hlt iy,by omega,iy,fun h=>?_⟩;have bR:k<ops.size:=by omega
    obtain⟨_,_,_,jK,_⟩:=ZxZ hD bR;have:=(jK i h).1;omega
   rw[aX]at bW;obtain⟨st1,oi,F',o',h1,h2,h3,h4⟩:=ZrQ (Zob ops ra) (fun j _=>hcls j) ix (fun o2 cG hc2=>hJ i o2 jL cG hc2) bW;have cY:left ops.size (ac.setIfInBounds i true)=dL++post:=by
    have e1:left ops.size (ac.setIfInBounds i true)=(left ops.size ac).filter (fun j=>decide (j≠i)):=by
     unfold left;rw[List.filter_filter];apply List.filter_congr;intro j hj;rw[Znr _ _ _ _ (by omega)];by_cases e:i=j
     .subst e;simp
     .simp[e,Ne.symm e]
    rw[e1,aX,List.filter_append,List.filter_cons];rw[aX]at je;obtain⟨n1,n2,n3⟩:=List.nodup_append.1 je;have n4:=(List.nodup_cons.1 n2).1;rw[if_neg (by simp)];rw[List.filter_eq_self.2 (fun x hx=>by simp;exact fun e=>n3 x hx i (by simp) e),List.filter_eq_self.2 (fun x hx=>by simp;rintro rfl;exact n4 hx)]
   obtain⟨o2,v,s1,cG,hr,lB,dY⟩:=ZdZ h1;rw[dt]at cG;cases cG;have fo:ZlP P N T ops ra i o st=some (st1,oi):=Zxj hr dY;have iz:=Zmj hr;unfold wpOp;rw[dt];simp only;have bw:=Zmi (P:=P) hT hsh fo (fun q hq=>ho q (h4 q (List.mem_append.2 (.inl hq)))) (K:=wpAny P .any ops Q fuel (ac.setIfInBounds i true)) (Q:=Q) fun a' w' bI=>by
    refine ih (ac.setIfInBounds i true) st1 F' a' w' o' (by simp[aM]) ?_ ?_ ?_ bI (by rw[cY];exact h2) (fun q hq=>ho q (h4 q (List.mem_append.2 (.inr hq)))) fun F2 a2 w2 he hs2=>hk F2 a2 w2 (h3.trans he) hs2
    .rw[cY];rw[aX]at hle;simp at hle ⊢;omega
    .intro j hj k hk;rw[Znr _ _ _ _ (by omega)]at hj ⊢;split
     .rfl
     .split at hj
      .rename_i e;subst e;exact dI k hk
      .exact jd j hj k hk
    .intro j o2 hj cG hc2;have jN:j∈left ops.size ac:=by
      rw[aX];rw[cY]at hj;rcases List.mem_append.1 hj with hj|hj
      .exact List.mem_append.2 (.inl hj)
      .exact List.mem_append.2 (.inr (List.mem_cons_of_mem _ hj))
     have hji:j≠i:=by
      rintro rfl;simp only[left,List.mem_filter,Bool.not_eq_true']at hj;have h5:=hj.2;rw[Znr _ _ _ _ (by omega),if_pos rfl]at h5;cases h5
     refine ZjB (hJ j o2 jN cG hc2) (ZiW iz) (Zps lB (Zob ops ra j o2 cG hc2) hji fun h=>?_) dY;have:=dI j h;rw[d8 j jN]at this;cases this
   split
   .rename_i hw;rw[if_pos hw]at bw;exact .inl bw
   .rename_i hw;rw[if_neg hw]at bw;exact bw
theorem ZKr(hT:Zee P T)(hm:P.follows .mixedOrders=true){id:Nat}{st st':St}{a:Act}{w:World}{obl:List Prop}(hsh:Zcg N S0 w0 st a w)(h:ZCh P N T ops ra ag st=some (st',obl))(ho:∀q∈obl,q)
  (hk:∀a' w',Zcg N S0 w0 st' a' w'->Q .normal a' w'):(Code.region id ops true).wp P Q a w:=by
 unfold ZCh at h;split at h
 .rename_i hD hq;refine wp_region_any hm ?_;have hl:left ops.size (Array.replicate ops.size false)=List.range ops.size:=by
   unfold left;apply List.filter_eq_self.2;intro i hi;simp at hi;simp[Array.getD_eq_getD_getElem?,hi]
  have iA:Zcg N S0 w0 st a { w with drawn:=w.drawn+1 }:=by
   obtain⟨S,m,hs,hg⟩:=hsh;exact⟨S,m,hs.grow (Nat.le_refl _) (fun _ _=>rfl) (fun _ h=>h) (fun _ h=>.inl h),hg.step ⟨rfl,rfl,rfl,Nat.le_refl _,fun _ _=>rfl,Nat.le_succ _⟩ (fun _ h=>h) (fun _ h=>.inl h)⟩
  refine ZIP hT hD ops.size _ st st' a _ obl (by simp) (by rw[hl];simp) (fun j hj=>?_) (fun j o hj gn hc=>Zqe hq j _ (Zob ops ra j o gn hc)) iA (by rw[hl];exact h) ho fun F' a' w' he bI=>?_
  .exfalso;simp only[Array.getD_eq_getD_getElem?,Array.getElem?_replicate]at hj;split at hj<;>simp at hj
  .exact hk a' w' (bI.eqv ⟨fun t=>(he.env t).symm,he.heap.symm⟩)
 .cases h
end
section
variable (P:Program) (N:Nat) (T:Tab) (ops:Array Oper) (ra:RA) (ag:List (List Nat))
def ZiT(i j:Nat):Bool:=!(Nat.beq j i) && !(memN i (Zer ag j))
def rowP(i j:Nat):Bool:=match ops[j]? with
 |none=>false
 |some o=>(ZmO o).all (fun k=>Nat.blt k j)&&(Zer ag j).all (fun k=>Nat.blt k j&&(memN k (ZmO o)||(ZmO o).any fun l=>memN k (Zer ag l))) &&
   (!(ZiT ag i j)||(Zub ra j o&&(List.range j).all fun k=>!(ZiT ag i k)||memN k (Zer ag j)||ZoN N ops ra ag k j))
def ZIE(pa:PA)(j:Nat)(a:Oper):Bool:=match clsX ra j a with
 | 0|1=>true
 | 3=>pa.lend.all fun p=>!(Nat.beq p.2 (a.dst.getD 0))
 |_=>false
def farI(pa:PA)(i j:Nat):Bool:=match ops[j]?,ops[i]? with
 |some a,some b=>!(ZiT ag i j)||memN j (Zer ag i)||(ZIE ra pa j a&&disj a.dst (Zgp ops b))
 |_,_=>false
def Zsl(pa:PA)(i:Nat):Bool:=match ra.fz with
 | []=>(List.range ops.size).all (fun j=>rowP N ops ra ag i j&&farI ops ra ag pa i j)
 |_=>false
def ZBv(i:Nat)(pa:PA)(st:St):Option (V×List Prop):=match Zsl N ops ra ag pa i,Zsh N st (Zoc ra 0 ops.toList),ops[i]? with
 |true,true,some o=>match Zrp P N T ops ra ag (Zoc ra 0 ops.toList) ((List.range ops.size).filter (ZiT ag i)) st with
  |some (F,o1)=>match Zyp P N ops pa (ZdG ra.an i) o F with
   |some (pv,o2)=>some (pv,o1++o2)
   |none=>none
  |none=>none
 |_,_,_=>none
end
section
variable {P:Program} {N:Nat} {T:Tab} {ops:Array Oper} {ra:RA} {ag:List (List Nat)} {Q:Exit->Act->World->Prop} {S0:Nat->Prop} {w0:ZaW}
theorem ZuM{pa:PA}{i:Nat}(h:Zsl N ops ra ag pa i=true){j:Nat}(hj:j<ops.size):∃o,ops[j]?=some o/\(∀k∈ZmO o,k<j)/\(∀k∈Zer ag j,k<j/\(k∈ZmO o\/∃l∈ZmO o,k∈Zer ag l)) /\
  (ZiT ag i j=true->Zub ra j o=true/\∀k,k<j->ZiT ag i k=true->k ∉ Zer ag j->ZoN N ops ra ag k j=true)/\farI ops ra ag pa i j=true:=by
 unfold Zsl at h;split at h
 .have:=List.all_eq_true.1 h j (List.mem_range.2 hj);rw[Bool.and_eq_true]at this;obtain⟨h1,hf⟩:=this;unfold rowP at h1;split at h1
  .cases h1
  .rename_i o ho;simp only[Bool.and_eq_true,List.all_eq_true,Bool.or_eq_true,List.any_eq_true,List.mem_range,Bool.not_eq_true']at h1;obtain⟨⟨h1,h2⟩,h3⟩:=h1;refine⟨o,ho,fun k hk=>Nat.le_of_ble_eq_true (h1 k hk),fun k hk=>?_,fun ha=>?_,hf⟩
   .obtain⟨h5,h6⟩:=h2 k hk;refine⟨Nat.le_of_ble_eq_true h5,?_⟩;rcases h6 with h6|⟨l,h6,h7⟩
    .exact .inl (Zkc.1 h6)
    .exact .inr ⟨l,h6,Zkc.1 h7⟩
   .rcases h3 with h3|⟨h3,h4⟩
    .rw[ha]at h3;cases h3
    .refine⟨h3,fun k hk kG hn=>?_⟩;rcases h4 k hk with (h5|h5)|h5
     .rw[kG]at h5;cases h5
     .exact absurd (Zkc.1 h5) hn
     .exact h5
 .cases h
theorem ZGm{g:Nat->Option Nat}{h h2:List (Nat×B)}:∀{l:List (Nat×Nat)}{r:List (Nat×B)},(∀p∈l,∀b,hget h p.2=some b->hget h2 p.2=some b)->hIn g h l=some r->hIn g h2 l=some r
 | [],r,_,e=>e
 | (c0,i0) :: l,r,hs,e=>by
  simp only[hIn]at e ⊢
  split at e
  .rename_i b hb
   split at e
   .rename_i b0 l0 h1 h3
    cases e
    rw[hs _ List.mem_cons_self b hb]
    simp only[h1,ZGm (fun p hp=>hs p (List.mem_cons_of_mem _ hp)) h3]
   .cases e
  .cases e
theorem Zxl{pa:PA}{an:Option Ans}{o:Oper}{st st2:St}(hu:∀t∈Zgp ops o,st2.get t=st.get t)(hh:∀p∈pa.lend,∀b,hget st.heap p.2=some b->hget st2.heap p.2=some b){r:V×List Prop}(h:Zyp P N ops pa an o st=some r)(jf:∀x,o.op=.panic x->False):Zyp P N ops pa an o st2=some r:=by
 unfold Zyp at h ⊢;rw[ZjM hu];split at h;rotate_left
 .cases h
 have he:=Zlo hu;split at h
 .rename_i c args aZ bE;rw[bE]at he;unfold ZtK at h ⊢;rw[ZiE he];have hok:okHA N st2 ⟨pa.lend,[],[],pa.pv⟩=okHA N st ⟨pa.lend,[],[],pa.pv⟩:=rfl
  revert h
  cases hcal:ZjI P st c an with
  |none=>intro h;cases h
  |some q=>
   obtain⟨g,a,b,om⟩:=q;simp only;rw[Zhb (fun x hx=>he x (Zmn x hx)) a b,hok];intro h;split at h;rotate_left
   .cases h
   rename_i obl hx;cases h;split at hx;rotate_left
   .cases hx
   rename_i h0 vs e1 e2 e3;cases hx;simp only[e1,ZGm hh e2,e3]
 .rename_i x bE;exact(jf x bE).elim
 .cases h
theorem ZvM{pa:PA}{oi:Oper}:∀{l:List Nat}{st F:St}{obl:List Prop},(∀j∈l,∃a,ops[j]?=some a/\ZIE ra pa j a=true/\disj a.dst (Zgp ops oi)=true)->Zrp P N T ops ra ag (Zoc ra 0 ops.toList) l st=some (F,obl) ->
  (∀p∈pa.lend,∀b,hget F.heap p.2=some b->hget st.heap p.2=some b)/\∀t∈Zgp ops oi,F.get t=st.get t
 | [],st,F,obl,hl,h=>by cases h;exact⟨fun _ _ _ h=>h,fun _ _=>rfl⟩
 |j :: l,st,F,obl,hl,h=>by
  simp only[Zrp]at h
  split at h
  .cases h
  rename_i s1 o1 h1
  split at h
  .cases h
  rename_i s2 o2 h2
  cases h
  obtain⟨a,ha,hc,hd⟩:=hl j (by simp)
  obtain⟨a',v,sa,cw,hr,_,hp⟩:=ZdZ h1
  rw[ha]at cw
  cases cw
  obtain⟨f1,f2⟩:=ZvM (fun k hk=>hl k (by simp[hk])) h2
  have e1:=Zmj hr
  refine⟨fun p a7 b hb=>?_,fun t ht=>?_⟩
  .have hb:=f1 p a7 b hb
   rw[(ZaL hp 0).2]at hb
   unfold ZIE at hc
   split at hc
   .rename_i h0
    obtain⟨_,e2,_⟩:=Zfr (st2:=st) (by omega) (fun _ _=>rfl) (fun _=>rfl) (fun _ h=>h) hr
    rwa [e2 (by omega)]at hb
   .rename_i h0
    obtain⟨_,e2,_⟩:=Zfr (st2:=st) (by omega) (fun _ _=>rfl) (fun _=>rfl) (fun _ h=>h) hr
    rwa [e2 (by omega)]at hb
   .rename_i h0
    rcases Zxk h0 hr with e|⟨_,e⟩
    .rwa [e]at hb
    .rcases e _ _ hb with e|e
     .have:=List.all_eq_true.1 hc p a7
      rw[e]at this
      simp at this
     .exact e
   .cases hc
  .rw[f2 t ht,(ZaL hp t).1,if_neg (ZbM hd ht)]
   exact ZiW e1 t
theorem ZIa(hT:Zee P T){i:Nat}{pa:PA}(hD:Zsl N ops ra ag pa i=true){oi:Oper}(dt:ops[i]?=some oi)(jf:∀x,oi.op=.panic x->False){pv:V}(hk:PanQ S0 w0 pv Q):∀(fuel:Nat)(ac:Array Bool)(st F:St)(a:Act)(w:World)(o1 o2:List Prop),ac.size=ops.size->(left ops.size ac).length<=fuel ->
  ac.getD i true=false->(∀j,ac.getD j false=true->∀k∈Zer ag j,ac.getD k false=true)->(∀j o,j∈(left ops.size ac).filter (ZiT ag i)->ops[j]?=some o->clsX ra j o=3->ZhX st (o.dst.getD 0) N=true) ->
  Zcg N S0 w0 st a w->Zrp P N T ops ra ag (Zoc ra 0 ops.toList) ((left ops.size ac).filter (ZiT ag i)) st=some (F,o1)->Zyp P N ops pa (ZdG ra.an i) oi F=some (pv,o2)->(∀q∈o1++o2,q)->wpAny P .any ops Q fuel ac a w:=by
 have iB:i<ops.size:=(Array.getElem?_eq_some_iff.1 dt).1;intro fuel;have fk:∀(ac:Array Bool),ac.size=ops.size->Region.ready .any ops ac=[]->left ops.size ac=[]:=by
  intro ac aM hr;cases hl:left ops.size ac with
  |nil=>rfl
  |cons i l=>
   exfalso;have hm:i∈left ops.size ac:=by rw[hl];simp
   have cC:∀k,k<i->ac.getD k true=true:=by
    intro k hk;cases hk2:ac.getD k true with
    |true=>rfl
    |false=>
     exfalso;have hs:List.Pairwise (·< ·) (left ops.size ac):=List.Pairwise.filter _ List.pairwise_lt_range;have hi:i<ops.size:=by simp[left]at hm;exact hm.1
     have dv:k∈left ops.size ac:=by simp only[left,List.mem_filter,List.mem_range,Bool.not_eq_true'];exact⟨by omega,hk2⟩
     rw[hl]at hs dv;rcases List.mem_cons.1 dv with rfl|dv
     .omega
     .have:=(List.pairwise_cons.1 hs).1 k dv;omega
   have hi:i<ops.size/\ac.getD i true=false:=by simpa[left]using hm
   obtain⟨o,ho,hd,_⟩:=ZuM hD hi.1;have:i∈Region.ready .any ops ac:=Zqh.2 ⟨hi.1,hi.2,o,ho,fun k hk=>by
    have dq:=hd k hk;have h1:=cC k dq;have gl:k<ac.size:=by omega
    simp only[Array.getD_eq_getD_getElem?,Array.getElem?_eq_getElem gl,Option.getD_some]at h1 ⊢;exact h1⟩
   rw[hr]at this;cases this
 have ft:∀(ac:Array Bool),ac.getD i true=false->i∈left ops.size ac:=fun ac h=>by
  simp only[left,List.mem_filter,List.mem_range,Bool.not_eq_true'];exact⟨iB,h⟩
 induction fuel with
 |zero=>
  intro ac st F a w o1 o2 aM hle cm _ _ _ _ _ _;have hl:left ops.size ac=[]:=List.eq_nil_of_length_eq_zero (by omega);have:=ft ac cm;rw[hl]at this;cases this
 |succ fuel ih=>
  intro ac st F a w o1 o2 aM hle cm jd hJ hsh bW go ho;refine⟨fun hr=>?_,fun j hj=>?_⟩
  .have:=ft ac cm;rw[fk ac aM hr]at this;cases this
  .obtain⟨hj1,hj2,o,gn,fl⟩:=Zqh.1 hj;have jN:j∈left ops.size ac:=by simp only[left,List.mem_filter,List.mem_range,Bool.not_eq_true'];exact⟨hj1,hj2⟩
   obtain⟨o',jM,hd,hp,hc,jI⟩:=ZuM hD hj1;rw[gn]at jM;cases jM;have dI:∀k∈Zer ag j,ac.getD k false=true:=by
    intro k hk;rcases(hp k hk).2 with h|⟨l,h,h2⟩
    .exact fl k h
    .exact jd l (fl l h) k h2
   have d8:∀k∈left ops.size ac,ac.getD k false=false:=by
    intro k hk;simp only[left,List.mem_filter,List.mem_range,Bool.not_eq_true']at hk;have gl:k<ac.size:=by omega
    have:=hk.2;simp only[Array.getD_eq_getD_getElem?,Array.getElem?_eq_getElem gl,Option.getD_some]at this ⊢;exact this
   unfold wpOp;rw[gn];simp only;by_cases hji:j=i
   .-- the one that panics
    subst hji;rw[dt]at gn;cases gn;have hq:∀k∈(left ops.size ac).filter (ZiT ag j),∃a,ops[k]?=some a/\ZIE ra pa k a=true/\disj a.dst (Zgp ops oi)=true:=by
     intro k hk;obtain⟨bR,hk2⟩:=List.mem_filter.1 hk;have gl:k<ops.size:=by simp[left]at bR;exact bR.1
     obtain⟨ok,hok,_,_,_,hf⟩:=ZuM hD gl;unfold farI at hf;rw[hok,dt]at hf;simp only[Bool.or_eq_true,Bool.and_eq_true,Bool.not_eq_true']at hf;rcases hf with (hf|hf)|hf
     .rw[hk2]at hf;cases hf
     .have:=dI k (Zkc.1 hf);rw[d8 k bR]at this;cases this
     .exact⟨ok,hok,hf.1,hf.2⟩
    obtain⟨f1,f2⟩:=ZvM hq bW;have a7:=Zxl (fun t ht=>(f2 t ht).symm) f1 go jf;obtain⟨h1,h2⟩:=ZCT (K:=wpAny P .any ops Q fuel (ac.setIfInBounds j true)) hsh a7 (fun q hq=>ho q (List.mem_append.2 (.inr hq))) hk;rw[if_pos h1];exact .inl h2
   .have hap:ZiT ag i j=true:=by
     unfold ZiT;simp only[Bool.and_eq_true,Bool.not_eq_true'];refine⟨?_,?_⟩
     .cases hb:Nat.beq j i
      .rfl
      .exact absurd (ZaM hb) hji
     .cases hb:memN i (Zer ag j)
      .rfl
      .have:=dI i (Zkc.1 hb);rw[d8 i (ft ac cm)]at this;cases this
    obtain⟨hcls,fm⟩:=hc hap;have jL:j∈(left ops.size ac).filter (ZiT ag i):=List.mem_filter.2 ⟨jN,hap⟩;obtain⟨dL,post,aX⟩:=List.append_of_mem jL;have bY:∀k∈(left ops.size ac).filter (ZiT ag i),k<ops.size/\k∈left ops.size ac/\ZiT ag i k=true:=fun k hk=>by
     obtain⟨h1,h2⟩:=List.mem_filter.1 hk;exact⟨by simp[left]at h1;exact h1.1,h1,h2⟩
    have je:((left ops.size ac).filter (ZiT ag i)).Nodup:=List.Pairwise.filter _ (List.Pairwise.filter _ List.nodup_range);have iw:List.Pairwise (·< ·) ((left ops.size ac).filter (ZiT ag i)):=List.Pairwise.filter _ (List.Pairwise.filter _ List.pairwise_lt_range);have ix:∀k∈dL,ZoN N ops ra ag k j=true/\k≠j/\k ∉ Zer ag j/\j ∉ Zer ag k:=by
     intro k hk;have dv:k∈(left ops.size ac).filter (ZiT ag i):=by rw[aX];simp[hk]
     obtain⟨k1,k2,k3⟩:=bY k dv;have hlt:k<j:=by
      rw[aX]at iw;exact(List.pairwise_append.1 iw).2.2 k hk j (by simp)
     have iy:k ∉ Zer ag j:=fun h=>by have:=dI k h;rw[d8 k k2]at this;cases this
     refine⟨fm k hlt k3 iy,by omega,iy,fun h=>?_⟩;obtain⟨_,_,_,jK,_⟩:=ZuM hD k1;have:=(jK j h).1;omega
    rw[aX]at bW;have jO:∀k∈dL++post,∀o,ops[k]?=some o->Zub ra k o=true:=fun k hk ok hok=>by
     have dv:k∈(left ops.size ac).filter (ZiT ag i):=by
      rw[aX];rcases List.mem_append.1 hk with h|h
      .exact List.mem_append.2 (.inl h)
      .exact List.mem_append.2 (.inr (List.mem_cons_of_mem _ h))
     obtain⟨k1,k2,k3⟩:=bY k dv;obtain⟨iC,bB,_,_,ij,_⟩:=ZuM hD k1;rw[hok]at bB;cases bB;exact(ij k3).1
    obtain⟨st1,oo,F',o',h1,h2,h3,h4⟩:=ZrQ (Zob ops ra) jO ix (fun o2 cG hc2=>hJ j o2 jL cG hc2) bW;have cY:(left ops.size (ac.setIfInBounds j true)).filter (ZiT ag i)=dL++post:=by
     have e1:left ops.size (ac.setIfInBounds j true)=(left ops.size ac).filter (fun k=>decide (k≠j)):=by
      unfold left;rw[List.filter_filter];apply List.filter_congr;intro k hk;rw[Znr _ _ _ _ (by omega)];by_cases e:j=k
      .subst e;simp
      .simp[e,Ne.symm e]
     rw[e1,List.filter_filter];have e2:(left ops.size ac).filter (fun k=>ZiT ag i k&&decide (k≠j))=((left ops.size ac).filter (ZiT ag i)).filter (fun k=>decide (k≠j)):=by
      rw[List.filter_filter];apply List.filter_congr;intro k _;exact Bool.and_comm _ _
     rw[e2,aX,List.filter_append,List.filter_cons];rw[aX]at je;obtain⟨n1,n2,n3⟩:=List.nodup_append.1 je;have n4:=(List.nodup_cons.1 n2).1;rw[if_neg (by simp)];rw[List.filter_eq_self.2 (fun x hx=>by simp;exact fun e=>n3 x hx j (by simp) e),List.filter_eq_self.2 (fun x hx=>by simp;rintro rfl;exact n4 hx)]
    have hlen:(left ops.size (ac.setIfInBounds j true)).length<=fuel:=by
     have e1:left ops.size (ac.setIfInBounds j true)=(left ops.size ac).filter (fun k=>decide (k≠j)):=by
      unfold left;rw[List.filter_filter];apply List.filter_congr;intro k hk;rw[Znr _ _ _ _ (by omega)];by_cases e:j=k
      .subst e;simp
      .simp[e,Ne.symm e]
     rw[e1];have:((left ops.size ac).filter (fun k=>decide (k≠j))).length<(left ops.size ac).length:=by
      rcases Nat.lt_or_ge ((left ops.size ac).filter (fun k=>decide (k≠j))).length (left ops.size ac).length with h|h
      .exact h
      .have:=List.filter_eq_self.1 (List.Sublist.eq_of_length_le List.filter_sublist h) j jN;simp at this
     omega
    obtain⟨ox,v,s1,cG,hr,lB,dY⟩:=ZdZ h1;rw[gn]at cG;cases cG;have fo:ZlP P N T ops ra j o st=some (st1,oo):=Zxj hr dY;have iz:=Zmj hr;have jP:Zyp P N ops pa (ZdG ra.an i) oi F'=some (pv,o2):=Zxl (fun t _=>(h3.env t)) (fun _ _ _ h=>by rw[h3.heap];exact h) go jf;have bw:=Zmi (P:=P) hT hsh fo (fun q hq=>ho q (List.mem_append.2 (.inl (h4 q (List.mem_append.2 (.inl hq)))))) (K:=wpAny P .any ops Q fuel (ac.setIfInBounds j true)) (Q:=Q) fun a' w' bI=>by
     refine ih (ac.setIfInBounds j true) st1 F' a' w' o' o2 (by simp[aM]) hlen ?_ ?_ ?_ bI (by rw[cY];exact h2) jP (fun q hq=>?_)
     .rw[Znr _ _ _ _ (by omega),if_neg hji];exact cm
     .intro k hk l hl;rw[Znr _ _ _ _ (by omega)]at hk ⊢;split
      .rfl
      .split at hk
       .rename_i e;subst e;exact dI l hl
       .exact jd k hk l hl
     .intro k ok hk hok hc2;have hkj:k≠j:=by
       rintro rfl;have bR:=(List.mem_filter.1 hk).1;simp only[left,List.mem_filter,Bool.not_eq_true']at bR;have h5:=bR.2;rw[Znr _ _ _ _ (by omega),if_pos rfl]at h5;cases h5
      rw[cY]at hk;have dv:k∈(left ops.size ac).filter (ZiT ag i):=by
       rw[aX];rcases List.mem_append.1 hk with h|h
       .exact List.mem_append.2 (.inl h)
       .exact List.mem_append.2 (.inr (List.mem_cons_of_mem _ h))
      obtain⟨_,k2,_⟩:=bY k dv;refine ZjB (hJ k ok dv hok hc2) (ZiW iz) (Zps lB (Zob ops ra k ok hok hc2) hkj fun h=>?_) dY;have:=dI k h;rw[d8 k k2]at this;cases this
     .rcases List.mem_append.1 hq with hq|hq
      .exact ho q (List.mem_append.2 (.inl (h4 q (List.mem_append.2 (.inr hq)))))
      .exact ho q (List.mem_append.2 (.inr hq))
    split
    .rename_i hw;rw[if_pos hw]at bw;exact .inl bw
    .rename_i hw;rw[if_neg hw]at bw;exact bw
theorem ZEq(hT:Zee P T)(hm:P.follows .mixedOrders=true){id i:Nat}{pa:PA}{st:St}{a:Act}{w:World}{pv:V}{obl:List Prop}(hsh:Zcg N S0 w0 st a w)(jf:∀o x,ops[i]?=some o->o.op=.panic x->False)(h:ZBv P N T ops ra ag i pa st=some (pv,obl))(ho:∀q∈obl,q)
  (hk:PanQ S0 w0 pv Q):(Code.region id ops true).wp P Q a w:=by
 unfold ZBv at h;split at h;rotate_left
 .cases h
 rename_i oi hD hq dt;split at h;rotate_left
 .cases h
 rename_i F o1 bW;split at h;rotate_left
 .cases h
 rename_i pv2 o2 go;cases h;refine wp_region_any hm ?_;have hl:left ops.size (Array.replicate ops.size false)=List.range ops.size:=by
  unfold left;apply List.filter_eq_self.2;intro i hi;simp at hi;simp[Array.getD_eq_getD_getElem?,hi]
 have iA:Zcg N S0 w0 st a { w with drawn:=w.drawn+1 }:=by
  obtain⟨S,m,hs,hg⟩:=hsh;exact⟨S,m,hs.grow (Nat.le_refl _) (fun _ _=>rfl) (fun _ h=>h) (fun _ h=>.inl h),hg.step ⟨rfl,rfl,rfl,Nat.le_refl _,fun _ _=>rfl,Nat.le_succ _⟩ (fun _ h=>h) (fun _ h=>.inl h)⟩
 have iB:i<ops.size:=(Array.getElem?_eq_some_iff.1 dt).1;refine ZIa hT hD dt (fun x hx=>jf oi x dt hx) hk ops.size _ st F a _ o1 o2 (by simp) (by rw[hl];simp) ?_ (fun j hj=>?_) (fun j o hj gn hc=>Zqe hq j _ (Zob ops ra j o gn hc)) iA (by rw[hl];exact bW) go ho
 .simp[Array.getD_eq_getD_getElem?,iB]
 .exfalso;simp only[Array.getD_eq_getD_getElem?,Array.getElem?_replicate]at hj;split at hj<;>simp at hj
end
end Go.Proofs.YtdjfoojllbfcgaaGreat
