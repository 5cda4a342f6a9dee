import Derived.Test.YtlpdogaifdeomaaGreatEAmM
namespace Go.Proofs.YtlpdogaifdeomaaGreat
open Go.RowKit
set_option linter.unusedSimpArgs false
set_option linter.unusedVariables false
theorem Zpt{P:Program}{m m₁ m':Machine}(h:step P m=.next m₁)(hs:Steps P m m')(hne:m≠m'):Steps P m₁ m':=by
 obtain⟨n,hn⟩:=hs;cases n with
 |zero=>simp[runN]at hn;exact absurd hn hne
 |succ n=>simp only[runN,h]at hn;exact⟨n,hn⟩
theorem Zrj{fr fr':Frame}{cs gX:List Frame}{w w':World}(h:lone fr cs w=lone fr' gX w'):fr=fr':=by
 have:=congrArg (fun m:Machine=>(m.gs[0]?).map (·.frame)) h;simpa[lone]using this
theorem ZrH{id:Nat}:∀{k k':List Item},exitTo id k=some k'->k'.length<k.length
 | [],k',h=>by simp[exitTo]at h
 |x :: k,k',h=>by
  have key:exitTo id k=some k'->k'.length<(x :: k).length:=fun h=>by have:=ZrH h;simp;omega
  cases x<;>simp only[exitTo]at h<;>try exact key h
  split at h
  .cases h;simp
  .exact key h
theorem ZFI{P:Program}{Q:Exit->Act->World->Prop}{body:Code}{a:Act}{w:World}(ck:∀a w,¬Q .outgrown a w)(jQ:∀l a w,¬Q (.goto l) a w)(h:body.wp P (Exit.then ((Code.loop body).wp P Q) Q) a w):(Code.loop body).wp P Q a w:=by
 intro b k cs;obtain⟨e,a₁,w₁,hq,fF⟩:=h b (.inLoop body :: k) cs;cases e with
 |normal=>
  obtain⟨e₂,a₂,w₂,lw,fj⟩:=hq b k cs;refine⟨e₂,a₂,w₂,lw,?_⟩;have cO:step P (lone (b.at a₁ (.code (.loop body) :: k)) cs w₁)=.next (lone (b.at a₁ (.code body :: .inLoop body :: k)) cs w₁):=step_loop
  have eT:Steps P (lone (b.at a (.code (.loop body) :: k)) cs w) (lone (b.at a₁ (.code body :: .inLoop body :: k)) cs w₁):=(Steps.one step_loop).trans (Steps.trans fF (.one step_inLoop));cases e₂ with
  |normal=>
   refine eT.trans (Zpt cO fj fun he=>?_);have:=congrArg (fun fr:Frame=>fr.todo.length) (Zrj he);simp[Frame.at]at this
  |exit id=>
   intro k' hk';refine eT.trans (Zpt cO (fj k' hk') fun he=>?_);have:=congrArg (fun fr:Frame=>fr.todo.length) (Zrj he);have h2:=ZrH hk';simp[Frame.at]at this;omega
  |goto l=>exact absurd lw (jQ _ _ _)
  |ret=>
   obtain⟨todo,h3⟩:=fj;refine⟨todo,eT.trans (Zpt cO h3 fun he=>?_)⟩;have:=congrArg (fun fr:Frame=>fr.mode) (Zrj he);simp[Frame.at]at this
  |panic ch=>
   obtain⟨todo,h3⟩:=fj;refine⟨todo,eT.trans (Zpt cO h3 fun he=>?_)⟩;have:=congrArg (fun fr:Frame=>fr.mode) (Zrj he);simp[Frame.at]at this
  |outgrown=>exact absurd lw (ck _ _)
 |exit id=>exact⟨_,a₁,w₁,hq,.of_steps (.one step_loop) (.pass (x:=.inLoop body) rfl (fun _ _=>.inl (by simp)) fF)⟩
 |goto l=>exact⟨_,a₁,w₁,hq,.of_steps (.one step_loop) (.pass (x:=.inLoop body) rfl (fun _ _=>.inl (by simp)) fF)⟩
 |ret=>exact⟨_,a₁,w₁,hq,.of_steps (.one step_loop) (.pass (x:=.inLoop body) rfl (fun _ _=>.inl (by simp)) fF)⟩
 |panic ch=>exact⟨_,a₁,w₁,hq,.of_steps (.one step_loop) (.pass (x:=.inLoop body) rfl (fun _ _=>.inl (by simp)) fF)⟩
 |outgrown=>exact⟨_,a₁,w₁,hq,.of_steps (.one step_loop) (.pass (x:=.inLoop body) rfl (fun _ _=>.inl (by simp)) fF)⟩
inductive It where
 |code (c:Code)
 |endB (id:Nat)
 |endL (body:Code)
def ZqH(P:Program)(Q:Exit->Act->World->Prop):List It->Exit->Act->World->Prop
 | [],e,a,w=>Q e a w
 | .code c :: k,e,a,w=>match e with
  | .normal=>c.wp P (ZqH P Q k) a w
  |e=>ZqH P Q k e a w
 | .endB id :: k,e,a,w=>match e with
  | .normal=>ZqH P Q k .normal a w
  | .exit id'=>if id'=id then ZqH P Q k .normal a w else ZqH P Q k (.exit id') a w
  |e=>ZqH P Q k e a w
 | .endL body :: k,e,a,w=>match e with
  | .normal=>(Code.loop body).wp P (ZqH P Q k) a w
  |e=>ZqH P Q k e a w
structure Ends (Q:Exit->Act->World->Prop):Prop where
 out:∀a w,¬Q .outgrown a w
 goto:∀l a w,¬Q (.goto l) a w
theorem ZrR{P:Program}{Q:Exit->Act->World->Prop}(h:Ends Q):∀k a w,¬ZqH P Q k .outgrown a w
 | [],a,w=>h.out a w
 | .code c :: k,a,w=>ZrR h k a w
 | .endB id :: k,a,w=>ZrR h k a w
 | .endL b :: k,a,w=>ZrR h k a w
theorem ZpK{P:Program}{Q:Exit->Act->World->Prop}(h:Ends Q):∀k l a w,¬ZqH P Q k (.goto l) a w
 | [],l,a,w=>h.goto l a w
 | .code c :: k,l,a,w=>ZpK h k l a w
 | .endB id :: k,l,a,w=>ZpK h k l a w
 | .endL b :: k,l,a,w=>ZpK h k l a w
def Good(P:Program)(N:Nat)(S0:Nat->Prop)(w0:ZeB)(Q:Exit->Act->World->Prop)(ZaK:List It)(st:St):Prop:=∀a w,ZcI N S0 w0 st a w->ZqH P Q ZaK .normal a w
section
variable {P:Program} {N:Nat} {S0:Nat->Prop} {w0:ZeB} {Q:Exit->Act->World->Prop} {k:List It} {st st' : St}
theorem ZHI(h:Good P N S0 w0 Q k st):Good P N S0 w0 Q (.code .skip :: k) st:=fun a w hs=>wp_skip (h a w hs)
theorem ZLe{x y:Code}(h:Good P N S0 w0 Q (.code x :: .code y :: k) st):Good P N S0 w0 Q (.code (.seq x y) :: k) st:=by
 intro a w hs;refine wp_seq (wp_mono (h a w hs) fun e a w hq=>?_);cases e<;>exact hq
theorem ZEJ{id:Nat}{x:Code}(h:Good P N S0 w0 Q (.code x :: .endB id :: k) st):Good P N S0 w0 Q (.code (.block id x) :: k) st:=by
 intro a w hs;refine wp_block (wp_mono (h a w hs) fun e a w hq=>?_);cases e<;>exact hq
theorem ZHN{id:Nat}(h:Good P N S0 w0 Q k st):Good P N S0 w0 Q (.endB id :: k) st:=h
theorem ZHK(hE:Ends Q){body:Code}(h:Good P N S0 w0 Q (.code body :: .endL body :: k) st):Good P N S0 w0 Q (.code (.loop body) :: k) st:=by
 intro a w hs;refine ZFI (ZrR hE k) (ZpK hE k) (wp_mono (h a w hs) fun e a w hq=>?_);cases e<;>exact hq
theorem ZHM{body:Code}(h:Good P N S0 w0 Q (.code (.loop body) :: k) st):Good P N S0 w0 Q (.endL body :: k) st:=h
def ZEL(id:Nat):List It->Option (List It)
 | []=>none
 | .endB i :: k=>match Nat.beq id i with
  |true=>some k
  |false=>ZEL id k
 |_ :: k=>ZEL id k
theorem ZpG{id:Nat}{a:Act}{w:World}:∀{k k':List It},ZEL id k=some k'->ZqH P Q k' .normal a w->ZqH P Q k (.exit id) a w
 | [],k',h,hc=>by cases h
 | .code c :: k,k',h,hc=>ZpG (k:=k) h hc
 | .endL b :: k,k',h,hc=>ZpG (k:=k) h hc
 | .endB i :: k,k',h,hc=>by
  simp only[ZEL]at h
  simp only[ZqH]
  split at h
  .rename_i hb
   cases h
   rw[if_pos (ZaD hb)]
   exact hc
  .rename_i hb
   rw[if_neg (Nat.ne_of_beq_eq_false hb)]
   exact ZpG (k:=k) h hc
theorem ZHL{id:Nat}{k':List It}(he:ZEL id k=some k')(h:Good P N S0 w0 Q k' st):Good P N S0 w0 Q (.code (.exit id) :: k) st:=
 fun a w hs=>wp_exit (ZpG he (h a w hs))
theorem ZHO{c:Operand}{x y:Code}{b e:Bool}(hc:evo st c=.one (.lit (.bool e)))(he:e=b)(h:Good P N S0 w0 Q (.code (if b then x else y) :: k) st):Good P N S0 w0 Q (.code (.cond c x y) :: k) st:=by
 intro a w hs;obtain⟨S,m,cO,hg⟩:=hs;have:=cO.evo c;rw[hc]at this;have hv:a.eval c=.bool e:=by generalize a.eval c=q at this;cases this;rfl
 subst he;exact wp_cond hv (h a w ⟨S,m,cO,hg⟩)
theorem ZBr{T:Tab}(hT:Zea P T){ops:Array Oper}{id:Nat}{ra:RA}{obl:List Prop}(h:ZvG P N T ops ra 0 ops.toList st=some (st',obl))(ho:∀q∈obl,q)(hk:Good P N S0 w0 Q k st'):Good P N S0 w0 Q (.code (.region id ops false) :: k) st:=
 fun a w hs=>ZGl hT hs h ho fun a' w' dq=>hk a' w' dq
structure St.le (N:Nat) (st st':St):Prop where
 env:∀t,st'.get t=st.get t\/st'.get t=.one .junk
 heap:∀id b,hget st'.heap id=some b->hget st.heap id=some b
theorem ZcI.le{a:Act}{w:World}(h:ZcI N S0 w0 st a w)(hl:St.le N st st'):ZcI N S0 w0 st' a w:=by
 obtain⟨S,m,hs,hg⟩:=h;refine⟨S,m,⟨hs.size,fun t=>?_,fun t ht=>?_,fun id b hb=>hs.heap id b (hl.heap id b hb),fun id b hb=>hs.own id b (hl.heap id b hb),fun i j b b' hne h1 h2=>hs.inj i j b b' hne (hl.heap i b h1) (hl.heap j b' h2),hs.dom,hs.defers,hs.base_le,hs.pin,hs.len⟩,hg⟩
 .rcases hl.env t with h|h
  .rw[h];exact hs.env t
  .rw[h];exact RepC.junk
 .rcases hl.env t with h|h
  .rw[h];exact hs.far t ht
  .exact h
end
end Go.Proofs.YtlpdogaifdeomaaGreat
