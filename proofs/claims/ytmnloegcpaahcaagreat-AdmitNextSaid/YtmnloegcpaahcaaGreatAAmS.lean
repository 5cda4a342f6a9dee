import Derived.Test.YtmnloegcpaahcaaGreatAAmR
import Derived.Orders
namespace Go.Proofs.YtmnloegcpaahcaaGreat
open Go.RowKit
set_option linter.unusedSimpArgs false
set_option linter.unusedVariables false
def Zpx:List Edge->List Nat
 | []=>[]
 |e :: l=>match Region.binds .any e with
  |true=>e.on :: Zpx l
  |false=>Zpx l
def Zmr(o:Oper):List Nat:=Zpx o.after.toList
theorem Zuy{e:Edge}:∀{l:List Edge},e∈l->Region.binds .any e=true->e.on∈Zpx l
 | [],h,_=>by cases h
 |x :: l,h,hb=>by
  simp only[Zpx]
  rcases List.mem_cons.1 h with rfl|h
  .rw[hb];simp
  .have:=Zuy h hb
   split
   .exact List.mem_cons_of_mem _ this
   .exact this
theorem Zsn{k:Nat}:∀{l:List Edge},k∈Zpx l->∃e∈l,Region.binds .any e=true/\e.on=k
 | [],h=>by simp[Zpx]at h
 |x :: l,h=>by
  simp only[Zpx]at h
  split at h
  .rename_i hb
   rcases List.mem_cons.1 h with rfl|h
   .exact⟨x,by simp,hb,rfl⟩
   .obtain⟨e,h1,h2⟩:=Zsn h
    exact⟨e,by simp[h1],h2⟩
  .obtain⟨e,h1,h2⟩:=Zsn h
   exact⟨e,by simp[h1],h2⟩
def ZHL(N:Nat)(ops:Array Oper)(ra:RA)(ag:List (List Nat))(i:Nat):Bool:=match ops[i]? with
 |none=>false
 |some o=>(Zmr o).all (fun k=>Nat.blt k i)&&(Zen ag i).all (fun k=>Nat.blt k i&&(memN k (Zmr o)||(Zmr o).any fun j=>memN k (Zen ag j)))&&ZsB ra i o &&
   (List.range i).all fun k=>memN k (Zen ag i)||Zod N ops ra ag k i
def ZBC(N:Nat)(ops:Array Oper)(ra:RA)(ag:List (List Nat)):Bool:=match ra.fz with
 | []=>(List.range ops.size).all (ZHL N ops ra ag)
 |_=>false
theorem ZCq{ra:RA}{i:Nat}{o:Oper}:∀{l:List Oper}{k:Nat},l[i]?=some o->clsX ra (k+i) o=3->(k+i,o.dst.getD 0)∈Zns ra k l:=by
 induction i with
 |zero=>
  intro l k h hc;cases l with
  |nil=>simp at h
  |cons x l=>
   simp only[List.getElem?_cons_zero,Option.some.injEq]at h;subst h;rw[Nat.add_zero]at hc ⊢;simp[Zns,hc]
 |succ i ih=>
  intro l k h hc;cases l with
  |nil=>simp at h
  |cons x l=>
   have h2:=ih (l:=l) (k:=k+1) (by simpa using h) (by rw[show k+1+i=k+(i+1)by omega];exact hc);rw[show k+1+i=k+(i+1)by omega]at h2;simp only[Zns];split
   .exact List.mem_cons_of_mem _ h2
   .exact h2
theorem Znr(ops:Array Oper)(ra:RA):Zzi ops ra (Zns ra 0 ops.toList):=by
 intro i o ho hc;have:=ZCq (ra:=ra) (i:=i) (o:=o) (l:=ops.toList) (k:=0) (by simpa using ho) (by rw[Nat.zero_add];exact hc);rwa [Nat.zero_add]at this
def ZqY(N:Nat)(st:St):List (Nat×Nat)->Bool
 | []=>true
 | (_,d) :: l=>match Zhq st d N with
  |true=>ZqY N st l
  |false=>false
theorem Zpa{N:Nat}{st:St}:∀{l:List (Nat×Nat)},ZqY N st l=true->∀i d,(i,d)∈l->Zhq st d N=true
 | [],_,i,d,h=>by cases h
 | (j,d') :: l,hq,i,d,h=>by
  simp only[ZqY]at hq
  split at hq
  .rename_i h1
   rcases List.mem_cons.1 h with h|h
   .cases h;exact h1
   .exact Zpa hq i d h
  .cases hq
def ZAs(P:Program)(N:Nat)(T:Tab)(ops:Array Oper)(ra:RA)(ag:List (List Nat))(st:St):Option (St×List Prop):=match ZBC N ops ra ag,ZqY N st (Zns ra 0 ops.toList)with
 |true,true=>Zqe P N T ops ra ag (Zns ra 0 ops.toList) (List.range ops.size) st
 |_,_=>none
section
variable {P:Program} {N:Nat} {T:Tab} {ops:Array Oper} {ra:RA} {ag:List (List Nat)} {Q:Exit->Act->World->Prop} {S0:Nat->Prop} {w0:Zba}
theorem Zwm(h:ZBC N ops ra ag=true){i:Nat}(hi:i<ops.size):∃o,ops[i]?=some o/\(∀k∈Zmr o,k<i)/\(∀k∈Zen ag i,k<i/\(k∈Zmr o\/∃j∈Zmr o,k∈Zen ag j))/\ZsB ra i o=true/\∀k,k<i->k ∉ Zen ag i->Zod N ops ra ag k i=true:=by
 unfold ZBC at h;split at h
 .have:=List.all_eq_true.1 h i (List.mem_range.2 hi);unfold ZHL at this;split at this
  .cases this
  .rename_i o ho;simp only[Bool.and_eq_true,List.all_eq_true,Bool.or_eq_true,List.any_eq_true,List.mem_range]at this;obtain⟨⟨⟨h1,h2⟩,h3⟩,h4⟩:=this;refine⟨o,ho,fun k hk=>Nat.le_of_ble_eq_true (h1 k hk),fun k hk=>?_,h3,fun k hk hn=>?_⟩
   .obtain⟨h5,h6⟩:=h2 k hk;refine⟨Nat.le_of_ble_eq_true h5,?_⟩;rcases h6 with h6|⟨j,h6,h7⟩
    .exact .inl (ZjY.1 h6)
    .exact .inr ⟨j,h6,ZjY.1 h7⟩
   .rcases h4 k hk with h5|h5
    .exact absurd (ZjY.1 h5) hn
    .exact h5
 .cases h
def left(n:Nat)(ac:Array Bool):List Nat:=(List.range n).filter fun i=>!ac.getD i true
theorem Zpd{ac:Array Bool}{i:Nat}:i∈Region.ready .any ops ac↔i<ops.size/\ac.getD i true=false/\∃o,ops[i]?=some o/\∀k∈Zmr o,ac.getD k false=true:=by
 unfold Region.ready;simp only[List.mem_filter,List.mem_range,Bool.and_eq_true,Bool.not_eq_true'];constructor
 .rintro ⟨h1,h2,h3⟩;refine⟨h1,h2,ops[i],by simp[h1],fun k hk=>?_⟩;rw[show ops[i]?=some ops[i]by simp[h1]]at h3;obtain⟨e,h4,h5,rfl⟩:=Zsn hk;simp only[Option.map_some,Option.getD_some,Array.all_eq_true_iff_forall_mem,Bool.or_eq_true,Bool.not_eq_true']at h3;rcases h3 e (by simpa using h4)with h6|h6
  .rw[h5]at h6;cases h6
  .exact h6
 .rintro ⟨h1,h2,o,ho,h3⟩;refine⟨h1,h2,?_⟩;rw[ho];simp only[Option.map_some,Option.getD_some,Array.all_eq_true_iff_forall_mem,Bool.or_eq_true,Bool.not_eq_true'];intro e he;cases hb:Region.binds .any e with
  |false=>exact .inl rfl
  |true=>exact .inr (h3 _ (Zuy (by simpa using he) hb))
theorem ZmM(ac:Array Bool)(i j:Nat)(d:Bool)(hi:i<ac.size):(ac.setIfInBounds i true).getD j d=if i=j then true else ac.getD j d:=by
 simp only[Array.getD_eq_getD_getElem?,Array.getElem?_setIfInBounds];split
 .simp[*]
 .rfl
theorem ZGj(hT:ZdU P T)(hD:ZBC N ops ra ag=true):∀(bq:Nat)(ac:Array Bool)(st F:St)(a:Act)(w:World)(obl:List Prop),ac.size=ops.size->(left ops.size ac).length<=bq ->
  (∀j,ac.getD j false=true->∀k∈Zen ag j,ac.getD k false=true)->(∀j o,j∈left ops.size ac->ops[j]?=some o->clsX ra j o=3->Zhq st (o.dst.getD 0) N=true) ->
  Zcn N S0 w0 st a w->Zqe P N T ops ra ag (Zns ra 0 ops.toList) (left ops.size ac) st=some (F,obl)->(∀q∈obl,q)->(∀F' a' w',Eqv F F'->Zcn N S0 w0 F' a' w'->Q .normal a' w')->wpAny P .any ops Q bq ac a w:=by
 intro bq;have hcls:∀i o,ops[i]?=some o->ZsB ra i o=true:=fun i o ho=>by
  obtain⟨o',h1,_,_,h4,_⟩:=Zwm hD (Array.getElem?_eq_some_iff.1 ho).1;rw[ho]at h1;cases h1;exact h4
 have eV:∀(ac:Array Bool),ac.size=ops.size->Region.ready .any ops ac=[]->left ops.size ac=[]:=by
  intro ac aN hr;cases hl:left ops.size ac with
  |nil=>rfl
  |cons i l=>
   exfalso;have hm:i∈left ops.size ac:=by rw[hl];simp
   have cV:∀k,k<i->ac.getD k true=true:=by
    intro k hk;cases hk2:ac.getD k true with
    |true=>rfl
    |false=>
     exfalso;have hs:List.Pairwise (·< ·) (left ops.size ac):=List.Pairwise.filter _ List.pairwise_lt_range;have hi:i<ops.size:=by simp[left]at hm;exact hm.1
     have c8:k∈left ops.size ac:=by simp only[left,List.mem_filter,List.mem_range,Bool.not_eq_true'];exact⟨by omega,hk2⟩
     rw[hl]at hs c8;rcases List.mem_cons.1 c8 with rfl|c8
     .omega
     .have:=(List.pairwise_cons.1 hs).1 k c8;omega
   have hi:i<ops.size/\ac.getD i true=false:=by simpa[left]using hm
   obtain⟨o,ho,hd,_⟩:=Zwm hD hi.1;have:i∈Region.ready .any ops ac:=Zpd.2 ⟨hi.1,hi.2,o,ho,fun k hk=>by
    have hki:=hd k hk;have h1:=cV k hki;have f5:k<ac.size:=by omega
    simp only[Array.getD_eq_getD_getElem?,Array.getElem?_eq_getElem f5,Option.getD_some]at h1 ⊢;exact h1⟩
   rw[hr]at this;cases this
 induction bq with
 |zero=>
  intro ac st F a w obl aN hle ir hJ hsh bZ ho hk;have hl:left ops.size ac=[]:=List.eq_nil_of_length_eq_zero (by omega);rw[hl]at bZ;cases bZ;refine⟨?_,hk _ a w (Eqv.refl _) hsh⟩;cases hr:Region.ready .any ops ac with
  |nil=>rfl
  |cons i l=>
   have hm:i∈Region.ready .any ops ac:=by rw[hr];simp
   obtain⟨h1,h2,_⟩:=Zpd.1 hm;have:i∈left ops.size ac:=by simp only[left,List.mem_filter,List.mem_range,Bool.not_eq_true'];exact⟨h1,h2⟩
   rw[hl]at this;cases this
 |succ bq ih=>
  intro ac st F a w obl aN hle ir hJ hsh bZ ho hk;refine⟨fun hr=>?_,fun i hi=>?_⟩
  .rw[eV ac aN hr]at bZ;cases bZ;exact hk _ a w (Eqv.refl _) hsh
  .obtain⟨hi1,bm,o,c6,eW⟩:=Zpd.1 hi;have jb:i∈left ops.size ac:=by simp only[left,List.mem_filter,List.mem_range,Bool.not_eq_true'];exact⟨hi1,bm⟩
   obtain⟨dw,post,aV⟩:=List.append_of_mem jb;have gf:(left ops.size ac).Nodup:=List.Pairwise.filter _ List.nodup_range;have jc:List.Pairwise (·< ·) (left ops.size ac):=List.Pairwise.filter _ List.pairwise_lt_range;obtain⟨o',jd,hd,hp,hc,eX⟩:=Zwm hD hi1;rw[c6]at jd;cases jd;have cW:∀k∈Zen ag i,ac.getD k false=true:=by
    intro k hk;rcases(hp k hk).2 with h|⟨j,h,h2⟩
    .exact eW k h
    .exact ir j (eW j h) k h2
   have dN:∀k∈left ops.size ac,ac.getD k false=false:=by
    intro k hk;simp only[left,List.mem_filter,List.mem_range,Bool.not_eq_true']at hk;have f5:k<ac.size:=by omega
    have:=hk.2;simp only[Array.getD_eq_getD_getElem?,Array.getElem?_eq_getElem f5,Option.getD_some]at this ⊢;exact this
   have g0:∀k∈dw,Zod N ops ra ag k i=true/\k≠i/\k ∉ Zen ag i/\i ∉ Zen ag k:=by
    intro k hk;have c8:k∈left ops.size ac:=by rw[aV];simp[hk]
    have hlt:k<i:=by
     rw[aV]at jc;exact(List.pairwise_append.1 jc).2.2 k hk i (by simp)
    have je:k ∉ Zen ag i:=fun h=>by have:=cW k h;rw[dN k c8]at this;cases this
    refine⟨eX k hlt je,by omega,je,fun h=>?_⟩;have bN:k<ops.size:=by omega
    obtain⟨_,_,_,ja,_⟩:=Zwm hD bN;have:=(ja i h).1;omega
   rw[aV]at bZ;obtain⟨st1,oi,F',o',h1,h2,h3,h4⟩:=ZqF (Znr ops ra) (fun j _=>hcls j) g0 (fun o2 cu hc2=>hJ i o2 jb cu hc2) bZ;have cJ:left ops.size (ac.setIfInBounds i true)=dw++post:=by
    have e1:left ops.size (ac.setIfInBounds i true)=(left ops.size ac).filter (fun j=>decide (j≠i)):=by
     unfold left;rw[List.filter_filter];apply List.filter_congr;intro j hj;rw[ZmM _ _ _ _ (by omega)];by_cases e:i=j
     .subst e;simp
     .simp[e,Ne.symm e]
    rw[e1,aV,List.filter_append,List.filter_cons];rw[aV]at gf;obtain⟨n1,n2,n3⟩:=List.nodup_append.1 gf;have n4:=(List.nodup_cons.1 n2).1;rw[if_neg (by simp)];rw[List.filter_eq_self.2 (fun x hx=>by simp;exact fun e=>n3 x hx i (by simp) e),List.filter_eq_self.2 (fun x hx=>by simp;rintro rfl;exact n4 hx)]
   obtain⟨o2,v,s1,cu,hr,kL,dJ⟩:=Zds h1;rw[c6]at cu;cases cu;have eY:Zlr P N T ops ra i o st=some (st1,oi):=ZvC hr dJ;have g6:=ZlM hr;unfold wpOp;rw[c6];simp only;have bU:=ZlL (P:=P) hT hsh eY (fun q hq=>h4 ho q (List.mem_append.2 (.inl hq))) (K:=wpAny P .any ops Q bq (ac.setIfInBounds i true)) (Q:=Q) fun a' w' bM=>by
    refine ih (ac.setIfInBounds i true) st1 F' a' w' o' (by simp[aN]) ?_ ?_ ?_ bM (by rw[cJ];exact h2) (fun q hq=>h4 ho q (List.mem_append.2 (.inr hq))) fun F2 a2 w2 he kI=>hk F2 a2 w2 (h3.trans he) kI
    .rw[cJ];rw[aV]at hle;simp at hle ⊢;omega
    .intro j hj k hk;rw[ZmM _ _ _ _ (by omega)]at hj ⊢;split
     .rfl
     .split at hj
      .rename_i e;subst e;exact cW k hk
      .exact ir j hj k hk
    .intro j o2 hj cu hc2;have jf:j∈left ops.size ac:=by
      rw[aV];rw[cJ]at hj;rcases List.mem_append.1 hj with hj|hj
      .exact List.mem_append.2 (.inl hj)
      .exact List.mem_append.2 (.inr (List.mem_cons_of_mem _ hj))
     have hji:j≠i:=by
      rintro rfl;simp only[left,List.mem_filter,Bool.not_eq_true']at hj;have h5:=hj.2;rw[ZmM _ _ _ _ (by omega),if_pos rfl]at h5;cases h5
     refine ZjC (hJ j o2 jf cu hc2) (ZiV g6) (ZoC kL (Znr ops ra j o2 cu hc2) hji fun h=>?_) dJ;have:=cW j h;rw[dN j jf]at this;cases this
   split
   .rename_i hw;rw[if_pos hw]at bU;exact .inl bU
   .rename_i hw;rw[if_neg hw]at bU;exact bU
theorem ZHq(hT:ZdU P T)(hm:P.follows .mixedOrders=true){id:Nat}{st st':St}{a:Act}{w:World}{obl:List Prop}(hsh:Zcn N S0 w0 st a w)(h:ZAs P N T ops ra ag st=some (st',obl))(ho:∀q∈obl,q)
  (hk:∀a' w',Zcn N S0 w0 st' a' w'->Q .normal a' w'):(Code.region id ops true).wp P Q a w:=by
 unfold ZAs at h;split at h
 .rename_i hD hq;refine wp_region_any hm ?_;have hl:left ops.size (Array.replicate ops.size false)=List.range ops.size:=by
   unfold left;apply List.filter_eq_self.2;intro i hi;simp at hi;simp[Array.getD_eq_getD_getElem?,hi]
  have g7:Zcn N S0 w0 st a { w with drawn:=w.drawn+1 }:=by
   obtain⟨S,m,hs,hg⟩:=hsh;exact⟨S,m,hs.grow (Nat.le_refl _) (fun _ _=>rfl) (fun _ h=>h) (fun _ h=>.inl h),hg.step ⟨rfl,rfl,rfl,Nat.le_refl _,fun _ _=>rfl,Nat.le_succ _⟩ (fun _ h=>h) (fun _ h=>.inl h)⟩
  refine ZGj hT hD ops.size _ st st' a _ obl (by simp) (by rw[hl];simp) (fun j hj=>?_) (fun j o hj f6 hc=>Zpa hq j _ (Znr ops ra j o f6 hc)) g7 (by rw[hl];exact h) ho fun F' a' w' he bM=>?_
  .exfalso;simp only[Array.getD_eq_getD_getElem?,Array.getElem?_replicate]at hj;split at hj<;>simp at hj
  .exact hk a' w' (bM.eqv ⟨fun t=>(he.env t).symm,he.heap.symm⟩)
 .cases h
end
section
variable (P:Program) (N:Nat) (T:Tab) (ops:Array Oper) (ra:RA) (ag:List (List Nat))
def ZiT(i j:Nat):Bool:=!(Nat.beq j i) && !(memN i (Zen ag j))
def rowP(i j:Nat):Bool:=match ops[j]? with
 |none=>false
 |some o=>(Zmr o).all (fun k=>Nat.blt k j)&&(Zen ag j).all (fun k=>Nat.blt k j&&(memN k (Zmr o)||(Zmr o).any fun l=>memN k (Zen ag l))) &&
   (!(ZiT ag i j)||(ZsB ra j o&&(List.range j).all fun k=>!(ZiT ag i k)||memN k (Zen ag j)||Zod N ops ra ag k j))
def ZGc(pa:PA)(j:Nat)(a:Oper):Bool:=match clsX ra j a with
 | 0|1=>true
 | 3=>pa.lend.all fun p=>!(Nat.beq p.2 (a.dst.getD 0))
 |_=>false
def farI(pa:PA)(i j:Nat):Bool:=match ops[j]?,ops[i]? with
 |some a,some b=>!(ZiT ag i j)||memN j (Zen ag i)||(ZGc ra pa j a&&disj a.dst (Zfh ops b))
 |_,_=>false
def Zra(pa:PA)(i:Nat):Bool:=match ra.fz with
 | []=>(List.range ops.size).all (fun j=>rowP N ops ra ag i j&&farI ops ra ag pa i j)
 |_=>false
def ZzG(i:Nat)(pa:PA)(st:St):Option (V×List Prop):=match Zra N ops ra ag pa i,ZqY N st (Zns ra 0 ops.toList),ops[i]? with
 |true,true,some o=>match Zqe P N T ops ra ag (Zns ra 0 ops.toList) ((List.range ops.size).filter (ZiT ag i)) st with
  |some (F,o1)=>match ZwA P N ops pa (ZcT ra.an i) o F with
   |some (pv,o2)=>some (pv,o1++o2)
   |none=>none
  |none=>none
 |_,_,_=>none
end
section
variable {P:Program} {N:Nat} {T:Tab} {ops:Array Oper} {ra:RA} {ag:List (List Nat)} {Q:Exit->Act->World->Prop} {S0:Nat->Prop} {w0:Zba}
theorem Zts{pa:PA}{i:Nat}(h:Zra N ops ra ag pa i=true){j:Nat}(hj:j<ops.size):∃o,ops[j]?=some o/\(∀k∈Zmr o,k<j)/\(∀k∈Zen ag j,k<j/\(k∈Zmr o\/∃l∈Zmr o,k∈Zen ag l)) /\
  (ZiT ag i j=true->ZsB ra j o=true/\∀k,k<j->ZiT ag i k=true->k ∉ Zen ag j->Zod N ops ra ag k j=true)/\farI ops ra ag pa i j=true:=by
 unfold Zra at h;split at h
 .have:=List.all_eq_true.1 h j (List.mem_range.2 hj);rw[Bool.and_eq_true]at this;obtain⟨h1,hf⟩:=this;unfold rowP at h1;split at h1
  .cases h1
  .rename_i o ho;simp only[Bool.and_eq_true,List.all_eq_true,Bool.or_eq_true,List.any_eq_true,List.mem_range,Bool.not_eq_true']at h1;obtain⟨⟨h1,h2⟩,h3⟩:=h1;refine⟨o,ho,fun k hk=>Nat.le_of_ble_eq_true (h1 k hk),fun k hk=>?_,fun ha=>?_,hf⟩
   .obtain⟨h5,h6⟩:=h2 k hk;refine⟨Nat.le_of_ble_eq_true h5,?_⟩;rcases h6 with h6|⟨l,h6,h7⟩
    .exact .inl (ZjY.1 h6)
    .exact .inr ⟨l,h6,ZjY.1 h7⟩
   .rcases h3 with h3|⟨h3,h4⟩
    .rw[ha]at h3;cases h3
    .refine⟨h3,fun k hk jG hn=>?_⟩;rcases h4 k hk with (h5|h5)|h5
     .rw[jG]at h5;cases h5
     .exact absurd (ZjY.1 h5) hn
     .exact h5
 .cases h
theorem ZEa{g:Nat->Option Nat}{h h2:List (Nat×B)}:∀{l:List (Nat×Nat)}{r:List (Nat×B)},(∀p∈l,∀b,hget h p.2=some b->hget h2 p.2=some b)->hIn g h l=some r->hIn g h2 l=some r
 | [],r,_,e=>e
 | (c0,i0) :: l,r,hs,e=>by
  simp only[hIn]at e ⊢
  split at e
  .rename_i b hb
   split at e
   .rename_i b0 l0 h1 h3
    cases e
    rw[hs _ List.mem_cons_self b hb]
    simp only[h1,ZEa (fun p hp=>hs p (List.mem_cons_of_mem _ hp)) h3]
   .cases e
  .cases e
theorem ZvE{pa:PA}{an:Option Ans}{o:Oper}{st st2:St}(hu:∀t∈Zfh ops o,st2.get t=st.get t)(hh:∀p∈pa.lend,∀b,hget st.heap p.2=some b->hget st2.heap p.2=some b){r:V×List Prop}(h:ZwA P N ops pa an o st=some r)(iu:∀x,o.op=.panic x->False):ZwA P N ops pa an o st2=some r:=by
 unfold ZwA at h ⊢;rw[ZjK hu];split at h;rotate_left
 .cases h
 have he:=ZkV hu;split at h
 .rename_i c args aY bz;rw[bz]at he;unfold Zsl at h ⊢;rw[Zix he];have aA:okHA N st2 ⟨pa.lend,[],[],pa.pv⟩=okHA N st ⟨pa.lend,[],[],pa.pv⟩:=rfl
  revert h
  cases hcal:ZjG P st c an with
  |none=>intro h;cases h
  |some q=>
   obtain⟨g,a,b,om⟩:=q;simp only;rw[ZgO (fun x hx=>he x (ZlQ x hx)) a b,aA];intro h;split at h;rotate_left
   .cases h
   rename_i obl hx;cases h;split at hx;rotate_left
   .cases hx
   rename_i h0 vs e1 e2 e3;cases hx;simp only[e1,ZEa hh e2,e3]
 .rename_i x bz;exact(iu x bz).elim
 .cases h
theorem Zum{pa:PA}{oi:Oper}:∀{l:List Nat}{st F:St}{obl:List Prop},(∀j∈l,∃a,ops[j]?=some a/\ZGc ra pa j a=true/\disj a.dst (Zfh ops oi)=true)->Zqe P N T ops ra ag (Zns ra 0 ops.toList) l st=some (F,obl) ->
  (∀p∈pa.lend,∀b,hget F.heap p.2=some b->hget st.heap p.2=some b)/\∀t∈Zfh ops oi,F.get t=st.get t
 | [],st,F,obl,hl,h=>by cases h;exact⟨fun _ _ _ h=>h,fun _ _=>rfl⟩
 |j :: l,st,F,obl,hl,h=>by
  simp only[Zqe]at h
  split at h
  .cases h
  rename_i s1 o1 h1
  split at h
  .cases h
  rename_i s2 o2 h2
  cases h
  obtain⟨a,ha,hc,hd⟩:=hl j (by simp)
  obtain⟨a',v,sa,ck,hr,_,hp⟩:=Zds h1
  rw[ha]at ck
  cases ck
  obtain⟨f1,f2⟩:=Zum (fun k hk=>hl k (by simp[hk])) h2
  have e1:=ZlM hr
  refine⟨fun p bc b hb=>?_,fun t ht=>?_⟩
  .have hb:=f1 p bc b hb
   rw[(ZaG hp 0).2]at hb
   unfold ZGc at hc
   split at hc
   .rename_i h0
    obtain⟨_,e2,_⟩:=Zfp (st2:=st) (by omega) (fun _ _=>rfl) (fun _=>rfl) (fun _ h=>h) hr
    rwa [e2 (by omega)]at hb
   .rename_i h0
    obtain⟨_,e2,_⟩:=Zfp (st2:=st) (by omega) (fun _ _=>rfl) (fun _=>rfl) (fun _ h=>h) hr
    rwa [e2 (by omega)]at hb
   .rename_i h0
    rcases ZvD h0 hr with e|⟨_,e⟩
    .rwa [e]at hb
    .rcases e _ _ hb with e|e
     .have:=List.all_eq_true.1 hc p bc
      rw[e]at this
      simp at this
     .exact e
   .cases hc
  .rw[f2 t ht,(ZaG hp t).1,if_neg (ZbG hd ht)]
   exact ZiV e1 t
theorem ZFK(hT:ZdU P T){i:Nat}{pa:PA}(hD:Zra N ops ra ag pa i=true){oi:Oper}(c6:ops[i]?=some oi)(iu:∀x,oi.op=.panic x->False){pv:V}(hk:PanQ S0 w0 pv Q):∀(bq:Nat)(ac:Array Bool)(st F:St)(a:Act)(w:World)(o1 o2:List Prop),ac.size=ops.size->(left ops.size ac).length<=bq ->
  ac.getD i true=false->(∀j,ac.getD j false=true->∀k∈Zen ag j,ac.getD k false=true)->(∀j o,j∈(left ops.size ac).filter (ZiT ag i)->ops[j]?=some o->clsX ra j o=3->Zhq st (o.dst.getD 0) N=true) ->
  Zcn N S0 w0 st a w->Zqe P N T ops ra ag (Zns ra 0 ops.toList) ((left ops.size ac).filter (ZiT ag i)) st=some (F,o1)->ZwA P N ops pa (ZcT ra.an i) oi F=some (pv,o2)->(∀q∈o1++o2,q)->wpAny P .any ops Q bq ac a w:=by
 have g8:i<ops.size:=(Array.getElem?_eq_some_iff.1 c6).1;intro bq;have eV:∀(ac:Array Bool),ac.size=ops.size->Region.ready .any ops ac=[]->left ops.size ac=[]:=by
  intro ac aN hr;cases hl:left ops.size ac with
  |nil=>rfl
  |cons i l=>
   exfalso;have hm:i∈left ops.size ac:=by rw[hl];simp
   have cV:∀k,k<i->ac.getD k true=true:=by
    intro k hk;cases hk2:ac.getD k true with
    |true=>rfl
    |false=>
     exfalso;have hs:List.Pairwise (·< ·) (left ops.size ac):=List.Pairwise.filter _ List.pairwise_lt_range;have hi:i<ops.size:=by simp[left]at hm;exact hm.1
     have c8:k∈left ops.size ac:=by simp only[left,List.mem_filter,List.mem_range,Bool.not_eq_true'];exact⟨by omega,hk2⟩
     rw[hl]at hs c8;rcases List.mem_cons.1 c8 with rfl|c8
     .omega
     .have:=(List.pairwise_cons.1 hs).1 k c8;omega
   have hi:i<ops.size/\ac.getD i true=false:=by simpa[left]using hm
   obtain⟨o,ho,hd,_⟩:=Zts hD hi.1;have:i∈Region.ready .any ops ac:=Zpd.2 ⟨hi.1,hi.2,o,ho,fun k hk=>by
    have hki:=hd k hk;have h1:=cV k hki;have f5:k<ac.size:=by omega
    simp only[Array.getD_eq_getD_getElem?,Array.getElem?_eq_getElem f5,Option.getD_some]at h1 ⊢;exact h1⟩
   rw[hr]at this;cases this
 have eZ:∀(ac:Array Bool),ac.getD i true=false->i∈left ops.size ac:=fun ac h=>by
  simp only[left,List.mem_filter,List.mem_range,Bool.not_eq_true'];exact⟨g8,h⟩
 induction bq with
 |zero=>
  intro ac st F a w o1 o2 aN hle iv _ _ _ _ _ _;have hl:left ops.size ac=[]:=List.eq_nil_of_length_eq_zero (by omega);have:=eZ ac iv;rw[hl]at this;cases this
 |succ bq ih=>
  intro ac st F a w o1 o2 aN hle iv ir hJ hsh bZ f7 ho;refine⟨fun hr=>?_,fun j hj=>?_⟩
  .have:=eZ ac iv;rw[eV ac aN hr]at this;cases this
  .obtain⟨hj1,hj2,o,f6,eW⟩:=Zpd.1 hj;have jf:j∈left ops.size ac:=by simp only[left,List.mem_filter,List.mem_range,Bool.not_eq_true'];exact⟨hj1,hj2⟩
   obtain⟨o',jd,hd,hp,hc,i7⟩:=Zts hD hj1;rw[f6]at jd;cases jd;have cW:∀k∈Zen ag j,ac.getD k false=true:=by
    intro k hk;rcases(hp k hk).2 with h|⟨l,h,h2⟩
    .exact eW k h
    .exact ir l (eW l h) k h2
   have dN:∀k∈left ops.size ac,ac.getD k false=false:=by
    intro k hk;simp only[left,List.mem_filter,List.mem_range,Bool.not_eq_true']at hk;have f5:k<ac.size:=by omega
    have:=hk.2;simp only[Array.getD_eq_getD_getElem?,Array.getElem?_eq_getElem f5,Option.getD_some]at this ⊢;exact this
   unfold wpOp;rw[f6];simp only;by_cases hji:j=i
   .-- the one that panics
    subst hji;rw[c6]at f6;cases f6;have hq:∀k∈(left ops.size ac).filter (ZiT ag j),∃a,ops[k]?=some a/\ZGc ra pa k a=true/\disj a.dst (Zfh ops oi)=true:=by
     intro k hk;obtain⟨bN,hk2⟩:=List.mem_filter.1 hk;have f5:k<ops.size:=by simp[left]at bN;exact bN.1
     obtain⟨ok,aA,_,_,_,hf⟩:=Zts hD f5;unfold farI at hf;rw[aA,c6]at hf;simp only[Bool.or_eq_true,Bool.and_eq_true,Bool.not_eq_true']at hf;rcases hf with (hf|hf)|hf
     .rw[hk2]at hf;cases hf
     .have:=cW k (ZjY.1 hf);rw[dN k bN]at this;cases this
     .exact⟨ok,aA,hf.1,hf.2⟩
    obtain⟨f1,f2⟩:=Zum hq bZ;have bc:=ZvE (fun t ht=>(f2 t ht).symm) f1 f7 iu;obtain⟨h1,h2⟩:=ZBh (K:=wpAny P .any ops Q bq (ac.setIfInBounds j true)) hsh bc (fun q hq=>ho q (List.mem_append.2 (.inr hq))) hk;rw[if_pos h1];exact .inl h2
   .have hap:ZiT ag i j=true:=by
     unfold ZiT;simp only[Bool.and_eq_true,Bool.not_eq_true'];refine⟨?_,?_⟩
     .cases hb:Nat.beq j i
      .rfl
      .exact absurd (ZaK hb) hji
     .cases hb:memN i (Zen ag j)
      .rfl
      .have:=cW i (ZjY.1 hb);rw[dN i (eZ ac iv)]at this;cases this
    obtain⟨hcls,eX⟩:=hc hap;have jb:j∈(left ops.size ac).filter (ZiT ag i):=List.mem_filter.2 ⟨jf,hap⟩;obtain⟨dw,post,aV⟩:=List.append_of_mem jb;have b5:∀k∈(left ops.size ac).filter (ZiT ag i),k<ops.size/\k∈left ops.size ac/\ZiT ag i k=true:=fun k hk=>by
     obtain⟨h1,h2⟩:=List.mem_filter.1 hk;exact⟨by simp[left]at h1;exact h1.1,h1,h2⟩
    have gf:((left ops.size ac).filter (ZiT ag i)).Nodup:=List.Pairwise.filter _ (List.Pairwise.filter _ List.nodup_range);have jc:List.Pairwise (·< ·) ((left ops.size ac).filter (ZiT ag i)):=List.Pairwise.filter _ (List.Pairwise.filter _ List.pairwise_lt_range);have g0:∀k∈dw,Zod N ops ra ag k j=true/\k≠j/\k ∉ Zen ag j/\j ∉ Zen ag k:=by
     intro k hk;have c8:k∈(left ops.size ac).filter (ZiT ag i):=by rw[aV];simp[hk]
     obtain⟨k1,k2,k3⟩:=b5 k c8;have hlt:k<j:=by
      rw[aV]at jc;exact(List.pairwise_append.1 jc).2.2 k hk j (by simp)
     have je:k ∉ Zen ag j:=fun h=>by have:=cW k h;rw[dN k k2]at this;cases this
     refine⟨eX k hlt k3 je,by omega,je,fun h=>?_⟩;obtain⟨_,_,_,ja,_⟩:=Zts hD k1;have:=(ja j h).1;omega
    rw[aV]at bZ;have jg:∀k∈dw++post,∀o,ops[k]?=some o->ZsB ra k o=true:=fun k hk ok aA=>by
     have c8:k∈(left ops.size ac).filter (ZiT ag i):=by
      rw[aV];rcases List.mem_append.1 hk with h|h
      .exact List.mem_append.2 (.inl h)
      .exact List.mem_append.2 (.inr (List.mem_cons_of_mem _ h))
     obtain⟨k1,k2,k3⟩:=b5 k c8;obtain⟨ok',bA,_,_,fP,_⟩:=Zts hD k1;rw[aA]at bA;cases bA;exact(fP k3).1
    obtain⟨st1,oo,F',o',h1,h2,h3,h4⟩:=ZqF (Znr ops ra) jg g0 (fun o2 cu hc2=>hJ j o2 jb cu hc2) bZ;have cJ:(left ops.size (ac.setIfInBounds j true)).filter (ZiT ag i)=dw++post:=by
     have e1:left ops.size (ac.setIfInBounds j true)=(left ops.size ac).filter (fun k=>decide (k≠j)):=by
      unfold left;rw[List.filter_filter];apply List.filter_congr;intro k hk;rw[ZmM _ _ _ _ (by omega)];by_cases e:j=k
      .subst e;simp
      .simp[e,Ne.symm e]
     rw[e1,List.filter_filter];have e2:(left ops.size ac).filter (fun k=>ZiT ag i k&&decide (k≠j))=((left ops.size ac).filter (ZiT ag i)).filter (fun k=>decide (k≠j)):=by
      rw[List.filter_filter];apply List.filter_congr;intro k _;exact Bool.and_comm _ _
     rw[e2,aV,List.filter_append,List.filter_cons];rw[aV]at gf;obtain⟨n1,n2,n3⟩:=List.nodup_append.1 gf;have n4:=(List.nodup_cons.1 n2).1;rw[if_neg (by simp)];rw[List.filter_eq_self.2 (fun x hx=>by simp;exact fun e=>n3 x hx j (by simp) e),List.filter_eq_self.2 (fun x hx=>by simp;rintro rfl;exact n4 hx)]
    have hlen:(left ops.size (ac.setIfInBounds j true)).length<=bq:=by
     have e1:left ops.size (ac.setIfInBounds j true)=(left ops.size ac).filter (fun k=>decide (k≠j)):=by
      unfold left;rw[List.filter_filter];apply List.filter_congr;intro k hk;rw[ZmM _ _ _ _ (by omega)];by_cases e:j=k
      .subst e;simp
      .simp[e,Ne.symm e]
     rw[e1];have:((left ops.size ac).filter (fun k=>decide (k≠j))).length<(left ops.size ac).length:=by
      rcases Nat.lt_or_ge ((left ops.size ac).filter (fun k=>decide (k≠j))).length (left ops.size ac).length with h|h
      .exact h
      .have:=List.filter_eq_self.1 (List.Sublist.eq_of_length_le List.filter_sublist h) j jf;simp at this
     omega
    obtain⟨ox,v,s1,cu,hr,kL,dJ⟩:=Zds h1;rw[f6]at cu;cases cu;have eY:Zlr P N T ops ra j o st=some (st1,oo):=ZvC hr dJ;have g6:=ZlM hr;have jh:ZwA P N ops pa (ZcT ra.an i) oi F'=some (pv,o2):=ZvE (fun t _=>(h3.env t)) (fun _ _ _ h=>by rw[h3.heap];exact h) f7 iu;have bU:=ZlL (P:=P) hT hsh eY (fun q hq=>h4 (fun q hq=>ho q (List.mem_append.2 (.inl hq))) q (List.mem_append.2 (.inl hq))) (K:=wpAny P .any ops Q bq (ac.setIfInBounds j true)) (Q:=Q) fun a' w' bM=>by
     refine ih (ac.setIfInBounds j true) st1 F' a' w' o' o2 (by simp[aN]) hlen ?_ ?_ ?_ bM (by rw[cJ];exact h2) jh (fun q hq=>?_)
     .rw[ZmM _ _ _ _ (by omega),if_neg hji];exact iv
     .intro k hk l hl;rw[ZmM _ _ _ _ (by omega)]at hk ⊢;split
      .rfl
      .split at hk
       .rename_i e;subst e;exact cW l hl
       .exact ir k hk l hl
     .intro k ok hk aA hc2;have kM:k≠j:=by
       rintro rfl;have bN:=(List.mem_filter.1 hk).1;simp only[left,List.mem_filter,Bool.not_eq_true']at bN;have h5:=bN.2;rw[ZmM _ _ _ _ (by omega),if_pos rfl]at h5;cases h5
      rw[cJ]at hk;have c8:k∈(left ops.size ac).filter (ZiT ag i):=by
       rw[aV];rcases List.mem_append.1 hk with h|h
       .exact List.mem_append.2 (.inl h)
       .exact List.mem_append.2 (.inr (List.mem_cons_of_mem _ h))
      obtain⟨_,k2,_⟩:=b5 k c8;refine ZjC (hJ k ok c8 aA hc2) (ZiV g6) (ZoC kL (Znr ops ra k ok aA hc2) kM fun h=>?_) dJ;have:=cW k h;rw[dN k k2]at this;cases this
     .rcases List.mem_append.1 hq with hq|hq
      .exact h4 (fun q hq=>ho q (List.mem_append.2 (.inl hq))) q (List.mem_append.2 (.inr hq))
      .exact ho q (List.mem_append.2 (.inr hq))
    split
    .rename_i hw;rw[if_pos hw]at bU;exact .inl bU
    .rename_i hw;rw[if_neg hw]at bU;exact bU
theorem ZCm(hT:ZdU P T)(hm:P.follows .mixedOrders=true){id i:Nat}{pa:PA}{st:St}{a:Act}{w:World}{pv:V}{obl:List Prop}(hsh:Zcn N S0 w0 st a w)(iu:∀o x,ops[i]?=some o->o.op=.panic x->False)(h:ZzG P N T ops ra ag i pa st=some (pv,obl))(ho:∀q∈obl,q)
  (hk:PanQ S0 w0 pv Q):(Code.region id ops true).wp P Q a w:=by
 unfold ZzG at h;split at h;rotate_left
 .cases h
 rename_i oi hD hq c6;split at h;rotate_left
 .cases h
 rename_i F o1 bZ;split at h;rotate_left
 .cases h
 rename_i pv2 o2 f7;cases h;refine wp_region_any hm ?_;have hl:left ops.size (Array.replicate ops.size false)=List.range ops.size:=by
  unfold left;apply List.filter_eq_self.2;intro i hi;simp at hi;simp[Array.getD_eq_getD_getElem?,hi]
 have g7:Zcn N S0 w0 st a { w with drawn:=w.drawn+1 }:=by
  obtain⟨S,m,hs,hg⟩:=hsh;exact⟨S,m,hs.grow (Nat.le_refl _) (fun _ _=>rfl) (fun _ h=>h) (fun _ h=>.inl h),hg.step ⟨rfl,rfl,rfl,Nat.le_refl _,fun _ _=>rfl,Nat.le_succ _⟩ (fun _ h=>h) (fun _ h=>.inl h)⟩
 have g8:i<ops.size:=(Array.getElem?_eq_some_iff.1 c6).1;refine ZFK hT hD c6 (fun x hx=>iu oi x c6 hx) hk ops.size _ st F a _ o1 o2 (by simp) (by rw[hl];simp) ?_ (fun j hj=>?_) (fun j o hj f6 hc=>Zpa hq j _ (Znr ops ra j o f6 hc)) g7 (by rw[hl];exact bZ) f7 ho
 .simp[Array.getD_eq_getD_getElem?,g8]
 .exfalso;simp only[Array.getD_eq_getD_getElem?,Array.getElem?_replicate]at hj;split at hj<;>simp at hj
end
end Go.Proofs.YtmnloegcpaahcaaGreat
