import Derived.Test.YtnigiacmmedkhaaGreatGAmM
namespace Go.Proofs.YtnigiacmmedkhaaGreat
open Go.RowKit
set_option linter.unusedSimpArgs false
set_option linter.unusedVariables false
theorem ZpP{P:Program}{m m₁ m':Machine}(h:step P m=.next m₁)(hs:Steps P m m')(hne:m≠m'):Steps P m₁ m':=by
 obtain⟨n,hn⟩:=hs;cases n with
 |zero=>simp[runN]at hn;exact absurd hn hne
 |succ n=>simp only[runN,h]at hn;exact⟨n,hn⟩
theorem Zrq{fr fr':Frame}{cs fY:List Frame}{w w':World}(h:lone fr cs w=lone fr' fY w'):fr=fr':=by
 have:=congrArg (fun m:Machine=>(m.gs[0]?).map (·.frame)) h;simpa[lone]using this
theorem ZrA{id:Nat}:∀{k k':List Item},exitTo id k=some k'->k'.length<k.length
 | [],k',h=>by simp[exitTo]at h
 |x :: k,k',h=>by
  have key:exitTo id k=some k'->k'.length<(x :: k).length:=fun h=>by have:=ZrA h;simp;omega
  cases x<;>simp only[exitTo]at h<;>try exact key h
  split at h
  .cases h;simp
  .exact key h
theorem ZIe{P:Program}{Q:Exit->Act->World->Prop}{body:Code}{a:Act}{w:World}(bI:∀a w,¬Q .outgrown a w)(iD:∀l a w,¬Q (.goto l) a w)(h:body.wp P (Exit.then ((Code.loop body).wp P Q) Q) a w):(Code.loop body).wp P Q a w:=by
 intro b k cs;obtain⟨e,a₁,w₁,hq,eN⟩:=h b (.inLoop body :: k) cs;cases e with
 |normal=>
  obtain⟨e₂,a₂,w₂,jX,eA⟩:=hq b k cs;refine⟨e₂,a₂,w₂,jX,?_⟩;have bM:step P (lone (b.at a₁ (.code (.loop body) :: k)) cs w₁)=.next (lone (b.at a₁ (.code body :: .inLoop body :: k)) cs w₁):=step_loop
  have dT:Steps P (lone (b.at a (.code (.loop body) :: k)) cs w) (lone (b.at a₁ (.code body :: .inLoop body :: k)) cs w₁):=(Steps.one step_loop).trans (Steps.trans eN (.one step_inLoop));cases e₂ with
  |normal=>
   refine dT.trans (ZpP bM eA fun he=>?_);have:=congrArg (fun fr:Frame=>fr.todo.length) (Zrq he);simp[Frame.at]at this
  |exit id=>
   intro k' hk';refine dT.trans (ZpP bM (eA k' hk') fun he=>?_);have:=congrArg (fun fr:Frame=>fr.todo.length) (Zrq he);have h2:=ZrA hk';simp[Frame.at]at this;omega
  |goto l=>exact absurd jX (iD _ _ _)
  |ret=>
   obtain⟨todo,h3⟩:=eA;refine⟨todo,dT.trans (ZpP bM h3 fun he=>?_)⟩;have:=congrArg (fun fr:Frame=>fr.mode) (Zrq he);simp[Frame.at]at this
  |panic ch=>
   obtain⟨todo,h3⟩:=eA;refine⟨todo,dT.trans (ZpP bM h3 fun he=>?_)⟩;have:=congrArg (fun fr:Frame=>fr.mode) (Zrq he);simp[Frame.at]at this
  |outgrown=>exact absurd jX (bI _ _)
 |exit id=>exact⟨_,a₁,w₁,hq,.of_steps (.one step_loop) (.pass (x:=.inLoop body) rfl (fun _ _=>.inl (by simp)) eN)⟩
 |goto l=>exact⟨_,a₁,w₁,hq,.of_steps (.one step_loop) (.pass (x:=.inLoop body) rfl (fun _ _=>.inl (by simp)) eN)⟩
 |ret=>exact⟨_,a₁,w₁,hq,.of_steps (.one step_loop) (.pass (x:=.inLoop body) rfl (fun _ _=>.inl (by simp)) eN)⟩
 |panic ch=>exact⟨_,a₁,w₁,hq,.of_steps (.one step_loop) (.pass (x:=.inLoop body) rfl (fun _ _=>.inl (by simp)) eN)⟩
 |outgrown=>exact⟨_,a₁,w₁,hq,.of_steps (.one step_loop) (.pass (x:=.inLoop body) rfl (fun _ _=>.inl (by simp)) eN)⟩
inductive It where
 |code (c:Code)
 |endB (id:Nat)
 |endL (body:Code)
def ZqV(P:Program)(Q:Exit->Act->World->Prop):List It->Exit->Act->World->Prop
 | [],e,a,w=>Q e a w
 | .code c :: k,e,a,w=>match e with
  | .normal=>c.wp P (ZqV P Q k) a w
  |e=>ZqV P Q k e a w
 | .endB id :: k,e,a,w=>match e with
  | .normal=>ZqV P Q k .normal a w
  | .exit id'=>if id'=id then ZqV P Q k .normal a w else ZqV P Q k (.exit id') a w
  |e=>ZqV P Q k e a w
 | .endL body :: k,e,a,w=>match e with
  | .normal=>(Code.loop body).wp P (ZqV P Q k) a w
  |e=>ZqV P Q k e a w
structure Ends (Q:Exit->Act->World->Prop):Prop where
 out:∀a w,¬Q .outgrown a w
 goto:∀l a w,¬Q (.goto l) a w
theorem ZrN{P:Program}{Q:Exit->Act->World->Prop}(h:Ends Q):∀k a w,¬ZqV P Q k .outgrown a w
 | [],a,w=>h.out a w
 | .code c :: k,a,w=>ZrN h k a w
 | .endB id :: k,a,w=>ZrN h k a w
 | .endL b :: k,a,w=>ZrN h k a w
theorem Zqh{P:Program}{Q:Exit->Act->World->Prop}(h:Ends Q):∀k l a w,¬ZqV P Q k (.goto l) a w
 | [],l,a,w=>h.goto l a w
 | .code c :: k,l,a,w=>Zqh h k l a w
 | .endB id :: k,l,a,w=>Zqh h k l a w
 | .endL b :: k,l,a,w=>Zqh h k l a w
def Good(P:Program)(N:Nat)(S0:Nat->Prop)(w0:ZeC)(Q:Exit->Act->World->Prop)(ZaL:List It)(st:St):Prop:=∀a w,ZcI N S0 w0 st a w->ZqV P Q ZaL .normal a w
section
variable {P:Program} {N:Nat} {S0:Nat->Prop} {w0:ZeC} {Q:Exit->Act->World->Prop} {k:List It} {st st' : St}
theorem ZJX(h:Good P N S0 w0 Q k st):Good P N S0 w0 Q (.code .skip :: k) st:=fun a w hs=>wp_skip (h a w hs)
theorem ZMW{x y:Code}(h:Good P N S0 w0 Q (.code x :: .code y :: k) st):Good P N S0 w0 Q (.code (.seq x y) :: k) st:=by
 intro a w hs;refine wp_seq (wp_mono (h a w hs) fun e a w hq=>?_);cases e<;>exact hq
theorem ZHx{id:Nat}{x:Code}(h:Good P N S0 w0 Q (.code x :: .endB id :: k) st):Good P N S0 w0 Q (.code (.block id x) :: k) st:=by
 intro a w hs;refine wp_block (wp_mono (h a w hs) fun e a w hq=>?_);cases e<;>exact hq
theorem ZKb{id:Nat}(h:Good P N S0 w0 Q k st):Good P N S0 w0 Q (.endB id :: k) st:=h
theorem ZJY(hE:Ends Q){body:Code}(h:Good P N S0 w0 Q (.code body :: .endL body :: k) st):Good P N S0 w0 Q (.code (.loop body) :: k) st:=by
 intro a w hs;refine ZIe (ZrN hE k) (Zqh hE k) (wp_mono (h a w hs) fun e a w hq=>?_);cases e<;>exact hq
theorem ZKa{body:Code}(h:Good P N S0 w0 Q (.code (.loop body) :: k) st):Good P N S0 w0 Q (.endL body :: k) st:=h
def ZHz(id:Nat):List It->Option (List It)
 | []=>none
 | .endB i :: k=>match Nat.beq id i with
  |true=>some k
  |false=>ZHz id k
 |_ :: k=>ZHz id k
theorem Zqf{id:Nat}{a:Act}{w:World}:∀{k k':List It},ZHz id k=some k'->ZqV P Q k' .normal a w->ZqV P Q k (.exit id) a w
 | [],k',h,hc=>by cases h
 | .code c :: k,k',h,hc=>Zqf (k:=k) h hc
 | .endL b :: k,k',h,hc=>Zqf (k:=k) h hc
 | .endB i :: k,k',h,hc=>by
  simp only[ZHz]at h
  simp only[ZqV]
  split at h
  .rename_i hb
   cases h
   rw[if_pos (ZaH hb)]
   exact hc
  .rename_i hb
   rw[if_neg (Nat.ne_of_beq_eq_false hb)]
   exact Zqf (k:=k) h hc
theorem ZJZ{id:Nat}{k':List It}(he:ZHz id k=some k')(h:Good P N S0 w0 Q k' st):Good P N S0 w0 Q (.code (.exit id) :: k) st:=
 fun a w hs=>wp_exit (Zqf he (h a w hs))
theorem ZKc{c:Operand}{x y:Code}{b e:Bool}(hc:evo st c=.one (.lit (.bool e)))(he:e=b)(h:Good P N S0 w0 Q (.code (if b then x else y) :: k) st):Good P N S0 w0 Q (.code (.cond c x y) :: k) st:=by
 intro a w hs;obtain⟨S,m,bM,hg⟩:=hs;have:=bM.evo c;rw[hc]at this;have hv:a.eval c=.bool e:=by generalize a.eval c=q at this;cases this;rfl
 subst he;exact wp_cond hv (h a w ⟨S,m,bM,hg⟩)
theorem ZDS{T:Tab}(hT:Zes P T){ops:Array Oper}{id:Nat}{ra:RA}{obl:List Prop}(h:Zvo P N T ops ra 0 ops.toList st=some (st',obl))(ho:∀q∈obl,q)(hk:Good P N S0 w0 Q k st'):Good P N S0 w0 Q (.code (.region id ops false) :: k) st:=
 fun a w hs=>ZIW hT hs h ho fun a' w' cn=>hk a' w' cn
structure St.le (N:Nat) (st st':St):Prop where
 env:∀t,st'.get t=st.get t\/st'.get t=.one .junk
 heap:∀id b,hget st'.heap id=some b->hget st.heap id=some b
theorem ZcI.le{a:Act}{w:World}(h:ZcI N S0 w0 st a w)(hl:St.le N st st'):ZcI N S0 w0 st' a w:=by
 obtain⟨S,m,hs,hg⟩:=h;refine⟨S,m,⟨hs.size,fun t=>?_,fun t ht=>?_,fun id b hb=>hs.heap id b (hl.heap id b hb),fun id b hb=>hs.own id b (hl.heap id b hb),fun i j b b' hne h1 h2=>hs.inj i j b b' hne (hl.heap i b h1) (hl.heap j b' h2),hs.dom,hs.defers,hs.base_le,hs.pin,hs.len⟩,hg⟩
 .rcases hl.env t with h|h
  .rw[h];exact hs.env t
  .rw[h];exact RepC.junk
 .rcases hl.env t with h|h
  .rw[h];exact hs.far t ht
  .exact h
end
end Go.Proofs.YtnigiacmmedkhaaGreat
