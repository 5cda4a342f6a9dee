/-
  AN EVALUATOR OF WALKS, over whatever program: control: what is still to do, as a list.
-/
import Derived.Test.YtgedafbejcpioaaAmM
namespace Go.Proofs.Ytgedafbejcpioaa
open Go.RowKit
set_option linter.unusedSimpArgs false
set_option linter.unusedVariables false

theorem steps_tail {P : Program} {m m₁ m' : Machine} (h : step P m = .next m₁) (hs : Steps P m m') (hne : m ≠ m') : Steps P m₁ m' := by
  obtain ⟨n, hn⟩ := hs
  cases n with
  | zero => simp [runN] at hn; exact absurd hn hne
  | succ n => simp only [runN, h] at hn; exact ⟨n, hn⟩

theorem lone_todo {fr fr' : Frame} {cs cs' : List Frame} {w w' : World} (h : lone fr cs w = lone fr' cs' w') : fr = fr' := by
  have := congrArg (fun m : Machine => (m.gs[0]?).map (·.frame)) h
  simpa [lone] using this

theorem exitTo_length {id : Nat} : ∀ {k k' : List Item}, exitTo id k = some k' → k'.length < k.length
  | [], k', h => by simp [exitTo] at h
  | x :: k, k', h => by
    have key : exitTo id k = some k' → k'.length < (x :: k).length := fun h => by have := exitTo_length h; simp; omega
    cases x <;> simp only [exitTo] at h <;> try exact key h
    split at h
    · cases h; simp
    · exact key h

theorem gotoIn_head {l : Nat} {c : Code} {k k' : List Item} (h : gotoIn l (.code c :: k) = some k') : gotoIn l k = some k' := by simpa [gotoIn] using h

/-- A round of a loop, and the loop once more. -/
theorem wp_unroll {P : Program} {Q : Exit → Act → World → Prop} {body : Code} {a : Act} {w : World} (hout : ∀ a w, ¬ Q .outgrown a w) (hgoto : ∀ l a w, ¬ Q (.goto l) a w) (h : body.wp P (Exit.then ((Code.loop body).wp P Q) Q) a w) : (Code.loop body).wp P Q a w := by
  intro b k cs
  obtain ⟨e, a₁, w₁, hq, harr⟩ := h b (.inLoop body :: k) cs
  cases e with
  | normal =>
    obtain ⟨e₂, a₂, w₂, hq₂, harr₂⟩ := hq b k cs
    refine ⟨e₂, a₂, w₂, hq₂, ?_⟩
    have hs1 : step P (lone (b.at a₁ (.code (.loop body) :: k)) cs w₁) = .next (lone (b.at a₁ (.code body :: .inLoop body :: k)) cs w₁) := step_loop
    have hgo : Steps P (lone (b.at a (.code (.loop body) :: k)) cs w) (lone (b.at a₁ (.code body :: .inLoop body :: k)) cs w₁) := (Steps.one step_loop).trans (Steps.trans harr (.one step_inLoop))
    cases e₂ with
    | normal =>
      refine hgo.trans (steps_tail hs1 harr₂ fun he => ?_)
      have := congrArg (fun fr : Frame => fr.todo.length) (lone_todo he)
      simp [Frame.at] at this
    | exit id =>
      intro k' hk'
      refine hgo.trans (steps_tail hs1 (harr₂ k' hk') fun he => ?_)
      have := congrArg (fun fr : Frame => fr.todo.length) (lone_todo he)
      have h2 := exitTo_length hk'
      simp [Frame.at] at this
      omega
    | goto l => exact absurd hq₂ (hgoto _ _ _)
    | ret =>
      obtain ⟨todo, h3⟩ := harr₂
      refine ⟨todo, hgo.trans (steps_tail hs1 h3 fun he => ?_)⟩
      have := congrArg (fun fr : Frame => fr.mode) (lone_todo he)
      simp [Frame.at] at this
    | panic ch =>
      obtain ⟨todo, h3⟩ := harr₂
      refine ⟨todo, hgo.trans (steps_tail hs1 h3 fun he => ?_)⟩
      have := congrArg (fun fr : Frame => fr.mode) (lone_todo he)
      simp [Frame.at] at this
    | outgrown => exact absurd hq₂ (hout _ _)
  | exit id => exact ⟨_, a₁, w₁, hq, .of_steps (.one step_loop) (.pass (x := .inLoop body) rfl (fun _ _ => .inl (by simp)) harr)⟩
  | goto l => exact ⟨_, a₁, w₁, hq, .of_steps (.one step_loop) (.pass (x := .inLoop body) rfl (fun _ _ => .inl (by simp)) harr)⟩
  | ret => exact ⟨_, a₁, w₁, hq, .of_steps (.one step_loop) (.pass (x := .inLoop body) rfl (fun _ _ => .inl (by simp)) harr)⟩
  | panic ch => exact ⟨_, a₁, w₁, hq, .of_steps (.one step_loop) (.pass (x := .inLoop body) rfl (fun _ _ => .inl (by simp)) harr)⟩
  | outgrown => exact ⟨_, a₁, w₁, hq, .of_steps (.one step_loop) (.pass (x := .inLoop body) rfl (fun _ _ => .inl (by simp)) harr)⟩

inductive It where
  | code (c : Code)
  | endB (id : Nat)
  | endL (body : Code)

def contK (P : Program) (Q : Exit → Act → World → Prop) : List It → Exit → Act → World → Prop
  | [], e, a, w => Q e a w
  | .code c :: k, e, a, w => match e with
    | .normal => c.wp P (contK P Q k) a w
    | e => contK P Q k e a w
  | .endB id :: k, e, a, w => match e with
    | .normal => contK P Q k .normal a w
    | .exit id' => if id' = id then contK P Q k .normal a w else contK P Q k (.exit id') a w
    | e => contK P Q k e a w
  | .endL body :: k, e, a, w => match e with
    | .normal => (Code.loop body).wp P (contK P Q k) a w
    | e => contK P Q k e a w

/-- What a function's end may be. -/
structure Ends (Q : Exit → Act → World → Prop) : Prop where
  out : ∀ a w, ¬ Q .outgrown a w
  goto : ∀ l a w, ¬ Q (.goto l) a w

theorem contK_out {P : Program} {Q : Exit → Act → World → Prop} (h : Ends Q) : ∀ k a w, ¬ contK P Q k .outgrown a w
  | [], a, w => h.out a w
  | .code c :: k, a, w => contK_out h k a w
  | .endB id :: k, a, w => contK_out h k a w
  | .endL b :: k, a, w => contK_out h k a w

theorem contK_goto {P : Program} {Q : Exit → Act → World → Prop} (h : Ends Q) : ∀ k l a w, ¬ contK P Q k (.goto l) a w
  | [], l, a, w => h.goto l a w
  | .code c :: k, l, a, w => contK_goto h k l a w
  | .endB id :: k, l, a, w => contK_goto h k l a w
  | .endL b :: k, l, a, w => contK_goto h k l a w

/-- From every world that shows the state the rest ends as Q says. -/
def Good (P : Program) (N : Nat) (S0 : Nat → Prop) (w0 : Start) (Q : Exit → Act → World → Prop) (items : List It) (st : St) : Prop :=
  ∀ a w, Shows N S0 w0 st a w → contK P Q items .normal a w

section
variable {P : Program} {N : Nat} {S0 : Nat → Prop} {w0 : Start} {Q : Exit → Act → World → Prop} {k : List It} {st st' : St}

theorem good_skip (h : Good P N S0 w0 Q k st) : Good P N S0 w0 Q (.code .skip :: k) st := fun a w hs => wp_skip (h a w hs)

theorem good_seq {x y : Code} (h : Good P N S0 w0 Q (.code x :: .code y :: k) st) : Good P N S0 w0 Q (.code (.seq x y) :: k) st := by
  intro a w hs
  refine wp_seq (wp_mono (h a w hs) fun e a w hq => ?_)
  cases e <;> exact hq

theorem good_block {id : Nat} {x : Code} (h : Good P N S0 w0 Q (.code x :: .endB id :: k) st) : Good P N S0 w0 Q (.code (.block id x) :: k) st := by
  intro a w hs
  refine wp_block (wp_mono (h a w hs) fun e a w hq => ?_)
  cases e <;> exact hq

theorem good_endB {id : Nat} (h : Good P N S0 w0 Q k st) : Good P N S0 w0 Q (.endB id :: k) st := h

theorem good_loop (hE : Ends Q) {body : Code} (h : Good P N S0 w0 Q (.code body :: .endL body :: k) st) : Good P N S0 w0 Q (.code (.loop body) :: k) st := by
  intro a w hs
  refine wp_unroll (contK_out hE k) (contK_goto hE k) (wp_mono (h a w hs) fun e a w hq => ?_)
  cases e <;> exact hq

theorem good_endL {body : Code} (h : Good P N S0 w0 Q (.code (.loop body) :: k) st) : Good P N S0 w0 Q (.endL body :: k) st := h

/-- What is left behind an exit. -/
def exitK (id : Nat) : List It → Option (List It)
  | [] => none
  | .endB i :: k => match Nat.beq id i with
    | true => some k
    | false => exitK id k
  | _ :: k => exitK id k

theorem exitK_cont {id : Nat} {a : Act} {w : World} : ∀ {k k' : List It}, exitK id k = some k' → contK P Q k' .normal a w → contK P Q k (.exit id) a w
  | [], k', h, hc => by cases h
  | .code c :: k, k', h, hc => exitK_cont (k := k) h hc
  | .endL b :: k, k', h, hc => exitK_cont (k := k) h hc
  | .endB i :: k, k', h, hc => by
    simp only [exitK] at h
    simp only [contK]
    split at h
    · rename_i hb
      cases h
      rw [if_pos (eq_of_beq' hb)]
      exact hc
    · rename_i hb
      rw [if_neg (Nat.ne_of_beq_eq_false hb)]
      exact exitK_cont (k := k) h hc

theorem good_exit {id : Nat} {k' : List It} (he : exitK id k = some k') (h : Good P N S0 w0 Q k' st) : Good P N S0 w0 Q (.code (.exit id) :: k) st :=
  fun a w hs => wp_exit (exitK_cont he (h a w hs))

theorem good_cond {c : Operand} {x y : Code} {b e : Bool} (hc : evo st c = .one (.lit (.bool e))) (he : e = b) (h : Good P N S0 w0 Q (.code (if b then x else y) :: k) st) : Good P N S0 w0 Q (.code (.cond c x y) :: k) st := by
  intro a w hs
  obtain ⟨S, m, hs1, hg⟩ := hs
  have := hs1.evo c
  rw [hc] at this
  have hv : a.eval c = .bool e := by generalize a.eval c = q at this; cases this; rfl
  subst he
  exact wp_cond hv (h a w ⟨S, m, hs1, hg⟩)

theorem good_region {T : Tab} (hT : TabOk P T) {ops : Array Oper} {id : Nat} {ra : RA} {obl : List Prop} (h : runOps P N T ops ra 0 ops.toList st = some (st', obl)) (ho : ∀ q ∈ obl, q) (hk : Good P N S0 w0 Q k st') : Good P N S0 w0 Q (.code (.region id ops false) :: k) st :=
  fun a w hs => region_wp hT hs h ho fun a' w' hs' => hk a' w' hs'

/-- A state that knows less. -/
structure St.le (N : Nat) (st st' : St) : Prop where
  env : ∀ t, st'.get t = st.get t ∨ st'.get t = .one .junk
  heap : ∀ id b, hget st'.heap id = some b → hget st.heap id = some b

theorem Shows.le {a : Act} {w : World} (h : Shows N S0 w0 st a w) (hl : St.le N st st') : Shows N S0 w0 st' a w := by
  obtain ⟨S, m, hs, hg⟩ := h
  refine ⟨S, m, ⟨hs.size, fun t => ?_, fun t ht => ?_, fun id b hb => hs.heap id b (hl.heap id b hb), fun id b hb => hs.own id b (hl.heap id b hb), fun i j b b' hne h1 h2 => hs.inj i j b b' hne (hl.heap i b h1) (hl.heap j b' h2), hs.dom, hs.defers, hs.base_le, hs.pin, hs.len⟩, hg⟩
  · rcases hl.env t with h | h
    · rw [h]; exact hs.env t
    · rw [h]; exact RepC.junk
  · rcases hl.env t with h | h
    · rw [h]; exact hs.far t ht
    · exact h

theorem good_le (hl : St.le N st st') (h : Good P N S0 w0 Q k st') : Good P N S0 w0 Q k st := fun a w hs => h a w (hs.le hl)
end

end Go.Proofs.Ytgedafbejcpioaa
