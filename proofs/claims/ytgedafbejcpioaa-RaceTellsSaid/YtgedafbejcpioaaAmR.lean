/-
  AN EVALUATOR OF WALKS, over whatever program: a region that draws its order: what the evaluator says of one order is so of all.
-/
import Derived.Test.YtgedafbejcpioaaAmQ
namespace Go.Proofs.Ytgedafbejcpioaa
open Go.RowKit
set_option linter.unusedSimpArgs false
set_option linter.unusedVariables false

def tmpsOf : List Operand → List Nat
  | [] => []
  | .tmp t :: l => t :: tmpsOf l
  | _ :: l => tmpsOf l

/-- The slots that an operation looks at, its guard's among them. -/
def usesT (ops : Array Oper) (o : Oper) : List Nat := tmpsOf (seen_ o.op) ++ match o.guard with
  | none => []
  | some (j, _) => match (ops[j]?).bind (·.dst) with
    | some t => [t]
    | none => []

theorem tmpsOf_mem {t : Nat} : ∀ {l : List Operand}, Operand.tmp t ∈ l → t ∈ tmpsOf l
  | [], h => by cases h
  | x :: l, h => by
    rcases List.mem_cons.1 h with rfl | h
    · simp [tmpsOf]
    · have := tmpsOf_mem h
      cases x <;> simp [tmpsOf, this]

theorem evo_uses {st st2 : St} {ops : Array Oper} {o : Oper} (h : ∀ t ∈ usesT ops o, st2.get t = st.get t) : ∀ x ∈ seen_ o.op, evo st2 x = evo st x := by
  intro x hx
  cases x with
  | tmp t => exact h t (List.mem_append.2 (.inl (tmpsOf_mem hx)))
  | _ => rfl

theorem guardOk_uses {st st2 : St} {ops : Array Oper} {o : Oper} (h : ∀ t ∈ usesT ops o, st2.get t = st.get t) : guardOk ops st2 o = guardOk ops st o := by
  unfold guardOk
  split
  · rfl
  · rename_i j want hg
    split
    · rename_i t ht
      rw [h t (by unfold usesT; rw [hg]; simp [ht])]
    · rfl

theorem evOp_quiet {P : Program} {N : Nat} {T : Tab} {st : St} {o : Oper} {ra : RA} {i : Nat} {p : V × List Prop × St} (hc : clsOf ra i o.op = 3) (h : evOp P N T o st (klook ra.an i) = some p) : quiet N (o.dst.getD 0) st = true := by
  obtain ⟨dst, op, type, pos, after, guard⟩ := o
  simp only at hc
  have hbox : ∀ {l}, evBox N st (dst.getD 0) l = some p → quiet N (dst.getD 0) st = true := by
    intro l hb
    unfold evBox at hb
    split at hb
    · assumption
    · cases hb
  cases op <;> (try (simp only [clsOf] at hc)) <;> (try (exact absurd hc (by decide)))
  case move x => split at hc <;> cases hc
  case assign x => split at hc <;> cases hc
  case alloc e =>
    simp only [evOp] at h
    repeat' split at h
    all_goals first | (cases h; done) | exact hbox h
  case box e x =>
    simp only [evOp] at h
    repeat' split at h
    all_goals first | (cases h; done) | exact hbox h
  case makeSlice t l c =>
    split at hc
    · cases hc
    rename_i hx
    simp only [evOp] at h
    split at h
    · rename_i hk; exact absurd hk (hx _ _)
    · cases h
    unfold evMake at h
    repeat' split at h
    all_goals first | (cases h; done) | assumption
  case buildSlice t n ps =>
    split at hc
    · rename_i n' c' hno
      simp only [evOp] at h
      unfold evLitSlice at h
      rw [hno] at h
      repeat' split at h
      all_goals first | (cases h; done) | assumption | (rename_i hx; exact absurd rfl (hx _ _))
    · cases hc
  case call c =>
    obtain ⟨callee, args, tys⟩ := c
    cases callee with
    | value f => simp only [clsOf] at hc; cases hc
    | invoke r n => simp only [clsOf] at hc; cases hc
    | builtin b =>
      cases b <;> (try (simp only [clsOf] at hc)) <;> (try (exact absurd hc (by decide)))
      case append =>
        split at hc
        · cases hc
        rename_i hno
        simp only [evOp] at h
        split at h
        rotate_left
        · cases h
        split at h
        rotate_left
        · cases h
        unfold evAppend at h
        repeat' split at h
        all_goals first | (cases h; done) | assumption

theorem opRun_local {P : Program} {N : Nat} {T : Tab} {ops : Array Oper} {ra : RA} {i : Nat} {o : Oper} {st st1 st2 : St} {v : V} {obl : List Prop} (hc : clsOf ra i o.op ≤ 3) (hu : ∀ t ∈ usesT ops o, st2.get t = st.get t)
    (hh : clsOf ra i o.op ≠ 0 → st2.heap = st.heap) (hq : clsOf ra i o.op = 3 → quiet N (o.dst.getD 0) st = true → quiet N (o.dst.getD 0) st2 = true) (h : opRun P N T ops ra i o st = some (v, obl, st1)) :
    st1.env = st.env ∧ (clsOf ra i o.op ≤ 1 → st1.heap = st.heap) ∧ opRun P N T ops ra i o st2 = some (v, obl, ⟨st2.env, if clsOf ra i o.op ≤ 1 then st2.heap else st1.heap⟩) := by
  unfold opRun at h ⊢
  rw [guardOk_uses hu]
  split at h
  · cases h
  · cases h
    refine ⟨rfl, fun _ => rfl, ?_⟩
    split
    · rfl
    · rename_i hcc
      rw [← hh (by omega)]
  · have he := evo_uses hu
    split at h
    · cases h
    rename_i v0 obl0 st0 hev
    split at h
    · cases h
    rename_i v' obl' hd
    split at h
    rotate_left
    · cases h
    rename_i v'' hdn
    split at h
    rotate_left
    · cases h
    rename_i v3 obl3 hrl
    cases h
    refine ⟨evOp_env hev, ?_⟩
    have hcase : clsOf ra i o.op = 0 ∨ clsOf ra i o.op = 1 ∨ clsOf ra i o.op = 2 ∨ clsOf ra i o.op = 3 := by omega
    rcases hcase with hcc | hcc | hcc | hcc
    · have e1 := evOp_E (P := P) (N := N) (T := T) (st := st) (st2 := st) hcc (fun x _ => rfl)
      have e2 := evOp_E (P := P) (N := N) (T := T) (st := st) (st2 := st2) hcc he
      rw [hev] at e1 e2
      simp only [Option.map_some, Option.some.injEq, Prod.mk.injEq, true_and] at e1
      subst e1
      refine ⟨fun _ => rfl, ?_⟩
      rw [e2]
      simp only [Option.map_some, hd, hdn, hrl, hcc]
      rfl
    · have e1 := evOp_A (P := P) (N := N) (T := T) (st := st) (st2 := st) hcc (fun x _ => rfl) rfl
      have e2 := evOp_A (P := P) (N := N) (T := T) (st := st) (st2 := st2) hcc he (hh (by omega))
      rw [hev] at e1 e2
      simp only [Option.map_some, Option.some.injEq, Prod.mk.injEq, true_and] at e1
      subst e1
      refine ⟨fun _ => rfl, ?_⟩
      rw [e2]
      simp only [Option.map_some, hd, hdn, hrl, hcc]
      rfl
    · have e2 := evOp_W (P := P) (N := N) (T := T) (st := st) (st2 := st2) hcc he (hh (by omega))
      rw [hev] at e2
      refine ⟨fun h => by omega, ?_⟩
      rw [e2]
      simp only [Option.map_some, hd, hdn, hrl, hcc]
      rfl
    · have hqq := evOp_quiet hcc hev
      have e2 := evOp_N (P := P) (N := N) (T := T) (st := st) (st2 := st2) hcc he (hh (by omega)) ((hq hcc hqq).trans hqq.symm)
      rw [hev] at e2
      refine ⟨fun h => by omega, ?_⟩
      rw [e2]
      simp only [Option.map_some, hd, hdn, hrl, hcc]
      rfl

/-- What looks at memory gives the same where all of which it speaks is there. -/
theorem opRun_mono {P : Program} {N : Nat} {T : Tab} {ops : Array Oper} {ra : RA} {i : Nat} {o : Oper} {st st1 st2 : St} {v : V} {obl : List Prop} (hc : clsOf ra i o.op = 1) (hu : ∀ t ∈ usesT ops o, st2.get t = st.get t)
    (hm : ∀ x ∈ seen_ o.op, Has st st2 fun id => (evo st x).says id) (h : opRun P N T ops ra i o st = some (v, obl, st1)) : opRun P N T ops ra i o st2 = some (v, obl, st2) := by
  unfold opRun at h ⊢
  rw [guardOk_uses hu]
  split at h
  · cases h
  · cases h; rfl
  · have he := evo_uses hu
    split at h
    · cases h
    rename_i v0 obl0 st0 hev
    split at h
    · cases h
    rename_i v' obl' hd
    split at h
    rotate_left
    · cases h
    rename_i v'' hdn
    split at h
    rotate_left
    · cases h
    rename_i v3 obl3 hrl
    cases h
    have e2 := evOp_M (P := P) (N := N) (T := T) (st := st) (st2 := st2) hc he hm hev
    simp only [e2, hd, hdn, hrl]

theorem opRun_new {P : Program} {N : Nat} {T : Tab} {ops : Array Oper} {ra : RA} {i : Nat} {o : Oper} {st st1 : St} {v : V} {obl : List Prop} (hc : clsOf ra i o.op = 3) (h : opRun P N T ops ra i o st = some (v, obl, st1)) :
    st1 = st ∨ (quiet N (o.dst.getD 0) st = true ∧ ∀ id b, hget st1.heap id = some b → id = o.dst.getD 0 ∨ hget st.heap id = some b) := by
  unfold opRun at h
  split at h
  · cases h
  · cases h; exact .inl rfl
  · split at h
    · cases h
    rename_i v0 obl0 st0 hev
    split at h
    · cases h
    split at h
    rotate_left
    · cases h
    split at h
    rotate_left
    · cases h
    cases h
    exact .inr ⟨evOp_quiet hc hev, evOp_N_heap hc hev⟩

theorem quiet_split {N : Nat} {st : St} {d : Nat} (h : quiet N d st = true) : quietE st d N = true ∧ quietH d st.heap = true := by
  unfold quiet at h
  split at h
  · rename_i h1; exact ⟨h1, h⟩
  · cases h

theorem opRun_keeps {P : Program} {N : Nat} {T : Tab} {ops : Array Oper} {ra : RA} {i : Nat} {o : Oper} {st st1 : St} {v : V} {obl : List Prop} (hc : clsOf ra i o.op = 3) (hk : noKill o.op = true) (h : opRun P N T ops ra i o st = some (v, obl, st1)) :
    ∀ id b, hget st.heap id = some b → hget st1.heap id = some b := by
  unfold opRun at h
  split at h
  · cases h
  · cases h; exact fun _ _ h => h
  · split at h
    · cases h
    rename_i v0 obl0 st0 hev
    split at h
    · cases h
    split at h
    rotate_left
    · cases h
    split at h
    rotate_left
    · cases h
    cases h
    exact evOp_N_keeps hc hk (quietH_get (quiet_split (evOp_quiet hc hev)).2).1 hev

/-! ### Calls among these -/
def simpleNew (o : Oper) (ha : HA) : Bool := match ha.lend, ha.new, ha.h1, o.guard with
  | [], [(c, d)], [(c', .rows _ _ _ _)], none => Nat.beq d (o.dst.getD 0) && Nat.beq c c' && Nat.beq c 99999
  | _, _, _, _ => false

def clsX (ra : RA) (i : Nat) (o : Oper) : Nat := match klook ra.hc i with
  | none => clsOf ra i o.op
  | some ha => match simpleNew o ha with
    | true => 3
    | false => match klook ra.hc (i + 1000) with
      | some _ => 5
      | none => match ha.new with
        | [] => 2
        | _ :: _ => 4

def noKillX (ra : RA) (i : Nat) (o : Oper) : Bool := match klook ra.hc i with
  | none => noKill o.op
  | some _ => true

def opCallRun (P : Program) (N : Nat) (ops : Array Oper) (ha : HA) (an : Option Ans) (o : Oper) (st : St) : Option (V × List Prop × St) := match guardOk ops st o with
  | some true => match o.op with
    | .call { callee := c, args := args, argTypes := _ } => evHCall P N st c args.toList ha an
    | _ => none
  | some false => some (.one (.lit undef), [], st)
  | none => none

/-- The same for a call that may look at own blocks. -/
def opCallRunB (P : Program) (N : Nat) (ops : Array Oper) (ha : HA) (an : Option Ans) (o : Oper) (st : St) : Option (V × List Prop × St) := match guardOk ops st o with
  | some true => match o.op with
    | .call { callee := c, args := args, argTypes := _ } => evHCallX P N st c args.toList ha an
    | _ => none
  | some false => some (.one (.lit undef), [], st)
  | none => none

def opRunX (P : Program) (N : Nat) (T : Tab) (ops : Array Oper) (ra : RA) (i : Nat) (o : Oper) (st : St) : Option (V × List Prop × St) := match klook ra.hc i with
  | none => opRun P N T ops ra i o st
  | some ha => match klook ra.hc (i + 1000) with
    | none => opCallRun P N ops ha (klook ra.an i) o st
    | some _ => opCallRunB P N ops ha (klook ra.an i) o st

theorem opStepH_of {P : Program} {N : Nat} {T : Tab} {ops : Array Oper} {ra : RA} {i : Nat} {o : Oper} {st st1 st2 : St} {v : V} {obl : List Prop} (h : opRunX P N T ops ra i o st = some (v, obl, st1)) (hp : putO N st1 o.dst v = some st2) : opStepH P N T ops ra i o st = some (st2, obl) := by
  unfold opRunX at h
  unfold opStepH
  split at h
  · rename_i hk
    rw [hk]
    simp only
    unfold opStep
    simp only [h, hp]
  · rename_i ha hk
    rw [hk]
    simp only
    split at h
    · unfold opCallRun at h
      unfold opCall
      split at h
      · split at h
        · rename_i h1 _ c args tys hop
          simp only [h1, hop, evHCallY_of (evHCallX_of h), hp]
        · cases h
      · rename_i h1
        cases h
        simp only [h1, hp]
      · cases h
    · unfold opCallRunB at h
      unfold opCall
      split at h
      · split at h
        · rename_i h1 _ c args tys hop
          simp only [h1, hop, evHCallY_of h, hp]
        · cases h
      · rename_i h1
        cases h
        simp only [h1, hp]
      · cases h

theorem evHCall_env {P : Program} {N : Nat} {st st1 : St} {c : Callee} {args : List Operand} {ha : HA} {an : Option Ans} {v : V} {obl : List Prop} (h : evHCall P N st c args ha an = some (v, obl, st1)) : st1.env = st.env := by
  unfold evHCall at h
  split at h
  · split at h
    · cases h; rfl
    · cases h
  · cases h

theorem evHCallX_env {P : Program} {N : Nat} {st st1 : St} {c : Callee} {args : List Operand} {ha : HA} {an : Option Ans} {v : V} {obl : List Prop} (h : evHCallX P N st c args ha an = some (v, obl, st1)) : st1.env = st.env := by
  unfold evHCallX at h
  split at h
  · rename_i r hr
    cases h
    exact evHCall_env hr
  · unfold evHCallBW at h
    split at h
    · unfold evHCallB at h
      split at h
      · split at h
        · split at h
          · cases h; rfl
          · cases h
        · cases h
      · cases h
    · unfold evHCallW at h
      split at h
      · split at h
        · split at h
          · cases h; rfl
          · cases h
        · cases h
      · cases h

theorem opRunX_env {P : Program} {N : Nat} {T : Tab} {ops : Array Oper} {ra : RA} {i : Nat} {o : Oper} {st st1 : St} {v : V} {obl : List Prop} (h : opRunX P N T ops ra i o st = some (v, obl, st1)) : st1.env = st.env := by
  unfold opRunX at h
  split at h
  · unfold opRun at h
    split at h
    · cases h
    · cases h; rfl
    · split at h
      · cases h
      rename_i v0 obl0 st0 hev
      split at h
      · cases h
      split at h
      rotate_left
      · cases h
      split at h
      rotate_left
      · cases h
      cases h
      exact evOp_env hev
  · split at h
    · unfold opCallRun at h
      split at h
      · split at h
        · exact evHCall_env h
        · cases h
      · cases h; rfl
      · cases h
    · unfold opCallRunB at h
      split at h
      · split at h
        · exact evHCallX_env h
        · cases h
      · cases h; rfl
      · cases h

theorem calleeX_evo {P : Program} {st st2 : St} {c : Callee} {args : Array Operand} {tys : Array TypeId} {an : Option Ans} (h : ∀ x ∈ seen_ (.call { callee := c, args := args, argTypes := tys }), evo st2 x = evo st x) : calleeX P st2 c an = calleeX P st c an := by
  cases c with
  | value f => simp only [calleeX, calleeOf, h f (by simp [seen_])]
  | invoke r n => simp only [calleeX, h r (by simp [seen_])]
  | builtin b => rfl

theorem seen_args {c : Callee} {args : Array Operand} {tys : Array TypeId} : ∀ x ∈ args.toList, x ∈ seen_ (.call { callee := c, args := args, argTypes := tys }) := by
  intro x hx
  cases c <;> simp only [seen_] <;> first | exact hx | exact List.mem_cons_of_mem _ hx

/-- A call that lends, and makes nothing new, hangs on its slots and on memory. -/
theorem hc_keep {P : Program} {N : Nat} {ops : Array Oper} {ha : HA} {an : Option Ans} {o : Oper} {st st1 : St} {v : V} {obl : List Prop} (hn : ha.new = []) (h : opCallRun P N ops ha an o st = some (v, obl, st1)) :
    st1.env = st.env ∧ ∀ st2 : St, (∀ t ∈ usesT ops o, st2.get t = st.get t) → st2.heap = st.heap → opCallRun P N ops ha an o st2 = some (v, obl, ⟨st2.env, st1.heap⟩) := by
  unfold opCallRun at h
  split at h
  · rename_i hgd
    split at h
    · rename_i c args tys hop
      refine ⟨evHCall_env h, fun st2 hu hh => ?_⟩
      unfold opCallRun
      rw [guardOk_uses hu, hgd]
      have he := evo_uses hu
      rw [hop] at he ⊢
      simp only
      unfold evHCall at h ⊢
      rw [calleeX_evo he]
      have hok : okHA N st2 ha = okHA N st ha := by
        unfold okHA
        rw [hn]
        rfl
      split at h
      rotate_left
      · cases h
      rename_i g a b om hcal
      rw [callArgs_evo (fun x hx => he x (seen_args x hx)) a b, hok, hh]
      split at h
      rotate_left
      · cases h
      rename_i h0 vs hp r q1 q2 q3 q4 q5
      cases h
      simp only [q1, q2, q3, q4, q5]
    · cases h
  · rename_i hgd
    cases h
    refine ⟨rfl, fun st2 hu hh => ?_⟩
    unfold opCallRun
    rw [guardOk_uses hu, hgd]
    simp only [← hh]
  · cases h

theorem calleeOf_evo {st st2 : St} {f : Operand} (h : evo st2 f = evo st f) : calleeOf st2 f = calleeOf st f := by unfold calleeOf; rw [h]

theorem quietH_hins {d e : Nat} {b : B} (hne : e ≠ d) (hb : b.says d = false) : ∀ {h : List (Nat × B)}, quietH d h = true → quietH d (hins h e b) = true := by
  have hf : Nat.beq e d = false := by
    cases hx : Nat.beq e d
    · rfl
    · exact absurd (Nat.eq_of_beq_eq_true hx) hne
  intro h
  induction h with
  | nil => intro _; simp only [hins, quietH, hf, hb]
  | cons p r ih =>
    obtain ⟨k, v⟩ := p
    intro hq
    have hq' := hq
    simp only [quietH] at hq
    split at hq
    · rename_i h1 h2
      simp only [hins]
      split
      · simp only [quietH, hf, hb]; exact hq
      · split
        · simp only [quietH, hf, hb, h1, h2]; exact hq
        · simp only [quietH, h1, h2]; exact ih hq
    · cases hq

theorem quietH_of_hins {d e : Nat} {b : B} : ∀ {h : List (Nat × B)}, hget h e = none → quietH d (hins h e b) = true → quietH d h = true
  | [], _, _ => rfl
  | (k, v) :: r, hn, hq => by
    rw [hget_cons] at hn
    split at hn
    · cases hn
    rename_i hke
    have hf : Nat.beq k e = false := by
      cases hx : Nat.beq k e
      · rfl
      · exact absurd (Nat.eq_of_beq_eq_true hx) hke
    simp only [hins, hf] at hq
    split at hq
    · simp only [quietH] at hq
      split at hq
      · simp only [quietH]; exact hq
      · cases hq
    · simp only [quietH] at hq ⊢
      split at hq
      · rename_i h1 h2
        exact quietH_of_hins hn hq
      · cases hq

/-- A call that gives one row of its own and is lent none: a new block, whatever else is there. -/
theorem hc_new {P : Program} {N : Nat} {ops : Array Oper} {ha : HA} {an : Option Ans} {o : Oper} {st st1 : St} {v : V} {obl : List Prop} (hs : simpleNew o ha = true) (h : opCallRun P N ops ha an o st = some (v, obl, st1)) :
    ∃ b : B, (∀ k, b.says k = false) ∧ quiet N (o.dst.getD 0) st = true ∧ st1 = ⟨st.env, hins st.heap (o.dst.getD 0) b⟩ ∧ ∀ st2, (∀ t ∈ usesT ops o, st2.get t = st.get t) → quiet N (o.dst.getD 0) st2 = true →
      opCallRun P N ops ha an o st2 = some (v, obl, ⟨st2.env, hins st2.heap (o.dst.getD 0) b⟩) := by
  unfold simpleNew at hs
  split at hs
  rotate_left
  · cases hs
  rename_i c d c' e sz len cc hl hn hh1 hgd
  simp only [Bool.and_eq_true] at hs
  obtain ⟨⟨e1, e2⟩, e3⟩ := hs
  have e1 := Nat.eq_of_beq_eq_true e1
  have e2 := Nat.eq_of_beq_eq_true e2
  subst e2
  obtain ⟨lend, new, h1, res⟩ := ha
  simp only at hl hn hh1
  subst hl hn hh1
  subst e1
  have hg : ∀ st : St, guardOk ops st o = some true := fun st => by unfold guardOk; rw [hgd]
  unfold opCallRun at h
  rw [hg] at h
  simp only at h
  split at h
  rotate_left
  · cases h
  rename_i f args tys hop
  unfold evHCall at h
  split at h
  rotate_left
  · cases h
  rename_i g a b om hcal
  split at h
  rotate_left
  · cases h
  rename_i h0 vs hp r hok hhi hvs hhp hr
  cases h
  have hq : quiet N (o.dst.getD 0) st = true := by
    unfold okHA at hok
    split at hok
    · rename_i q1 q2 q3 q4
      exact List.all_eq_true.1 q4 _ (List.mem_cons_self)
    · cases hok
  have hpe : hp = [(o.dst.getD 0, .rows e sz len cc)] := by
    have : gOut ⟨[], [(c, o.dst.getD 0)], [(c, .rows e sz len cc)], res⟩ c = some (o.dst.getD 0) := by
      simp only [gOut, nlook, Nat.beq_refl]
    simp only [renHp, this, renB] at hhp
    exact (Option.some.inj hhp).symm
  subst hpe
  refine ⟨.rows e sz len cc, fun _ => rfl, hq, rfl, fun st2 hu hq2 => ?_⟩
  have he : ∀ x ∈ seen_ (.call { callee := f, args := args, argTypes := tys }), evo st2 x = evo st x := fun x hx => evo_uses hu x (by rw [hop]; exact hx)
  have hca : callArgs st2 args.toList a b = callArgs st args.toList a b := callArgs_evo (fun x hx => he x (seen_args x hx)) a b
  have hok2 : okHA N st2 ⟨[], [(c, o.dst.getD 0)], [(c, .rows e sz len cc)], res⟩ = true := by
    unfold okHA at hok ⊢
    split at hok
    · rename_i q1 q2 q3 q4
      simp only at q1 q2 q3
      simp only [q1, q2, q3, List.all_cons, List.all_nil, hq2, Bool.and_true]
    · cases hok
  have hhi2 : hIn (bwd ([] : List (Nat × Nat))) st2.heap ([] : List (Nat × Nat)) = some h0 := hhi
  unfold opCallRun
  rw [hg]
  simp only [hop]
  unfold evHCall
  rw [calleeX_evo he, hcal]
  simp only [hok2, hhi2, hca, hvs, hhp, hr]
  rfl

theorem borK_heap {st st2 : St} (hh : st2.heap = st.heap) : ∀ l, borK st2 l = borK st l
  | [] => rfl
  | c :: l => by simp only [borK, borC_heap hh, borK_heap hh l]
theorem borX_heap {st st2 : St} (hh : st2.heap = st.heap) (v : V) : borX st2 v = borX st v := by
  unfold borX
  simp only [borK_heap hh, borV_heap hh]
theorem borW_heap {st st2 : St} (hh : st2.heap = st.heap) (g : Nat → Option Nat) : ∀ l, borW st2 g l = borW st g l
  | [] => rfl
  | v :: l => by simp only [borW, borX_heap hh, borW_heap hh g l]

theorem evHCallX_same {P : Program} {N : Nat} {st st2 : St} {c : Callee} {args : Array Operand} {tys : Array TypeId} {ha : HA} {an : Option Ans} (he : ∀ x ∈ seen_ (.call { callee := c, args := args, argTypes := tys }), evo st2 x = evo st x) (hh : st2.heap = st.heap) (hok : okHA N st2 ha = okHA N st ha) :
    evHCallX P N st2 c args.toList ha an = (evHCallX P N st c args.toList ha an).map fun r => (r.1, r.2.1, ⟨st2.env, r.2.2.heap⟩) := by
  have hca : ∀ a b, callArgs st2 args.toList a b = callArgs st args.toList a b := fun a b => callArgs_evo (fun x hx => he x (seen_args x hx)) a b
  have e1 : evHCall P N st2 c args.toList ha an = (evHCall P N st c args.toList ha an).map fun r => (r.1, r.2.1, ⟨st2.env, r.2.2.heap⟩) := by
    unfold evHCall
    rw [calleeX_evo he, hok, hh]
    cases calleeX P st c an with
    | none => rfl
    | some q =>
      obtain ⟨g, a, b, om⟩ := q
      simp only [hca]
      generalize okHA N st ha = x1
      generalize hIn (bwd ha.lend) st.heap ha.lend = x2
      generalize renVs (bwd ha.lend) (callArgs st args.toList a b) = x3
      generalize renHp (gOut ha) ha.h1 = x4
      generalize renV (gOut ha) ha.res = x5
      cases x1 <;> cases x2 <;> cases x3 <;> cases x4 <;> cases x5 <;> rfl
  have e2 : evHCallBW P N st2 c args.toList ha an = (evHCallBW P N st c args.toList ha an).map fun r => (r.1, r.2.1, ⟨st2.env, r.2.2.heap⟩) := by
    obtain ⟨lend, new, h1, res⟩ := ha
    have hbA : ∀ l, borA st2 l = borA st l := borA_heap hh
    have hb : ∀ g l, borW ⟨st2.env, delAll st.heap lend⟩ g l = borW ⟨st.env, delAll st.heap lend⟩ g l := borW_heap rfl
    unfold evHCallBW
    cases lend with
    | nil =>
      simp only
      unfold evHCallB
      rw [calleeX_evo he, hok, hh]
      simp only [hca, hbA]
      cases calleeX P st c an with
      | none => split <;> rfl
      | some q =>
        obtain ⟨g, a, b, om⟩ := q
        simp only
        generalize okHA N st ⟨[], new, h1, res⟩ = x1
        generalize borA st (callArgs st args.toList a b) = x2
        generalize renHp (gOut ⟨[], new, h1, res⟩) h1 = x3
        generalize renV (gOut ⟨[], new, h1, res⟩) res = x4
        generalize litRows h1 = x5
        split
        · cases x1 <;> cases x2 <;> cases x3 <;> cases x4 <;> cases x5 <;> rfl
        · rfl
    | cons p0 lend =>
      simp only
      unfold evHCallW
      rw [calleeX_evo he, hok, hh]
      simp only [hca, hb]
      cases calleeX P st c an with
      | none => split <;> rfl
      | some q =>
        obtain ⟨g, a, b, om⟩ := q
        simp only
        generalize okHA N st ⟨p0 :: lend, new, h1, res⟩ = x1
        generalize hIn (bwd (p0 :: lend)) st.heap (p0 :: lend) = x6
        generalize borW ⟨st.env, delAll st.heap (p0 :: lend)⟩ (bwd (p0 :: lend)) (callArgs st args.toList a b) = x2
        generalize renHp (gOut ⟨p0 :: lend, new, h1, res⟩) h1 = x3
        generalize renV (gOut ⟨p0 :: lend, new, h1, res⟩) res = x4
        generalize litRows h1 = x5
        split
        · cases x1 <;> cases x6 <;> cases x2 <;> cases x3 <;> cases x4 <;> cases x5 <;> rfl
        · rfl
  unfold evHCallX
  rw [e1, e2]
  cases evHCall P N st c args.toList ha an <;> rfl

/-- A call that gives one row of its own, and may look at own blocks: a new block; it hangs on its slots and on memory. -/
theorem hcB_new {P : Program} {N : Nat} {ops : Array Oper} {ha : HA} {an : Option Ans} {o : Oper} {st st1 : St} {v : V} {obl : List Prop} (hs : simpleNew o ha = true) (h : opCallRunB P N ops ha an o st = some (v, obl, st1)) :
    ∃ b : B, quiet N (o.dst.getD 0) st = true ∧ st1 = ⟨st.env, hins st.heap (o.dst.getD 0) b⟩ ∧ ∀ st2, (∀ t ∈ usesT ops o, st2.get t = st.get t) → st2.heap = st.heap → quiet N (o.dst.getD 0) st2 = true →
      opCallRunB P N ops ha an o st2 = some (v, obl, ⟨st2.env, st1.heap⟩) := by
  unfold simpleNew at hs
  split at hs
  rotate_left
  · cases hs
  rename_i c d c' e sz len cc hl hn hh1 hgd
  simp only [Bool.and_eq_true] at hs
  obtain ⟨⟨e1, e2⟩, e3⟩ := hs
  have e1 := Nat.eq_of_beq_eq_true e1
  have e2 := Nat.eq_of_beq_eq_true e2
  subst e2
  obtain ⟨lend, new, h1, res⟩ := ha
  simp only at hl hn hh1
  subst hl hn hh1
  subst e1
  have hg : ∀ st : St, guardOk ops st o = some true := fun st => by unfold guardOk; rw [hgd]
  unfold opCallRunB at h
  rw [hg] at h
  simp only at h
  split at h
  rotate_left
  · cases h
  rename_i f args tys hop
  have hpe : ∀ hp, renHp (gOut ⟨[], [(c, o.dst.getD 0)], [(c, .rows e sz len cc)], res⟩) [(c, .rows e sz len cc)] = some hp → hp = [(o.dst.getD 0, .rows e sz len cc)] := fun hp hhp => by
    have : gOut ⟨[], [(c, o.dst.getD 0)], [(c, .rows e sz len cc)], res⟩ c = some (o.dst.getD 0) := by
      simp only [gOut, nlook, Nat.beq_refl]
    simp only [renHp, this, renB] at hhp
    exact (Option.some.inj hhp).symm
  have hmain : okHA N st ⟨[], [(c, o.dst.getD 0)], [(c, .rows e sz len cc)], res⟩ = true ∧ st1 = ⟨st.env, hins st.heap (o.dst.getD 0) (.rows e sz len cc)⟩ := by
    have h' := h
    unfold evHCallX at h'
    split at h'
    · rename_i r hr
      cases h'
      unfold evHCall at hr
      split at hr
      rotate_left
      · cases hr
      split at hr
      rotate_left
      · cases hr
      rename_i h0 vs hp r hok hhi hvs hhp hr'
      cases hr
      rw [hpe _ hhp]
      exact ⟨hok, rfl⟩
    · rw [evHCallBW_nil rfl] at h'
      unfold evHCallB at h'
      split at h'
      rotate_left
      · cases h'
      split at h'
      rotate_left
      · cases h'
      split at h'
      rotate_left
      · cases h'
      rename_i vs hp r ps hok hvs hhp hr' hps
      cases h'
      rw [hpe _ hhp]
      exact ⟨hok, rfl⟩
  obtain ⟨hok, hst1⟩ := hmain
  have hq : quiet N (o.dst.getD 0) st = true := by
    have hok' := hok
    unfold okHA at hok'
    split at hok'
    · rename_i q1 q2 q3 q4
      exact List.all_eq_true.1 q4 _ (List.mem_cons_self)
    · cases hok'
  refine ⟨.rows e sz len cc, hq, hst1, fun st2 hu hh hq2 => ?_⟩
  have he : ∀ x ∈ seen_ (.call { callee := f, args := args, argTypes := tys }), evo st2 x = evo st x := fun x hx => evo_uses hu x (by rw [hop]; exact hx)
  have hok2 : okHA N st2 ⟨[], [(c, o.dst.getD 0)], [(c, .rows e sz len cc)], res⟩ = true := by
    have hok' := hok
    unfold okHA at hok' ⊢
    split at hok'
    · rename_i q1 q2 q3 q4
      simp only at q1 q2 q3
      simp only [q1, q2, q3, List.all_cons, List.all_nil, hq2, Bool.and_true]
    · cases hok'
  unfold opCallRunB
  rw [hg]
  simp only [hop]
  rw [evHCallX_same he hh (hok2.trans hok.symm), h]
  rfl

def rowsOp : Op → Bool
  | .makeSlice .. | .buildSlice .. | .alloc _ => true
  | _ => false

theorem zeroC_says {ti : TI} {l : List C} (h : zeroC ti = some l) (k : Nat) : l.any (C.says k) = false := by
  unfold zeroC at h
  split at h
  rotate_left
  · cases h
  rename_i z hz
  have lits : ∀ xs : List Value, (xs.map C.lit).any (C.says k) = false := fun xs => by
    induction xs with
    | nil => rfl
    | cons x xs ih => simp [C.says, ih]
  cases z with
  | agg cs =>
    simp only [V.ofVal] at h
    split at h
    · cases h; exact lits _
    · cases h
  | _ =>
    simp only [V.ofVal, V.cells] at h
    first | (cases h; rfl) | (split at h <;> cases h; rfl)

/-- The classes that may stand in a region that draws. -/
def okCls (ra : RA) (i : Nat) (o : Oper) : Bool := match klook ra.hc i with
  | some ha => match klook ra.hc (i + 1000) with
    | none => true
    | some _ => simpleNew o ha
  | none => Nat.ble (clsOf ra i o.op) 3

/-- An operation that makes a new row. -/
def isRows (ra : RA) (i : Nat) (o : Oper) : Bool := match klook ra.hc i with
  | some ha => match klook ra.hc (i + 1000) with
    | none => simpleNew o ha
    | some _ => false
  | none => match o.guard with
    | none => rowsOp o.op && Nat.beq (clsOf ra i o.op) 3
    | some _ => false

theorem evMake_rows {N : Nat} {T : Tab} {st st1 : St} {d t : Nat} {x y : V} {an : Option Ans} {v : V} {obl : List Prop} (h : evMake N T st d t x y an = some (v, obl, st1)) :
    ∃ b : B, (∀ k, b.says k = false) ∧ quiet N d st = true ∧ st1 = ⟨st.env, hins st.heap d b⟩ ∧ ∀ st2, quiet N d st2 = true → evMake N T st2 d t x y an = some (v, obl, ⟨st2.env, hins st2.heap d b⟩) := by
  unfold evMake at h
  repeat' split at h
  all_goals first | (cases h; done) | skip
  all_goals
    cases h
    refine ⟨_, fun _ => rfl, by assumption, rfl, fun st2 hq => ?_⟩
    unfold evMake
    simp only [*, St.new]

theorem evLitSlice_rows {N : Nat} {T : Tab} {st st1 : St} {d t n : Nat} {ps : List (Nat × V)} {k : Nat} {c : Nat → Nat → C} {v : V} {obl : List Prop} (h : evLitSlice N T st d t n ps (some (.c k c)) = some (v, obl, st1)) :
    ∃ b : B, (∀ k, b.says k = false) ∧ quiet N d st = true ∧ st1 = ⟨st.env, hins st.heap d b⟩ ∧ ∀ st2, quiet N d st2 = true → evLitSlice N T st2 d t n ps (some (.c k c)) = some (v, obl, ⟨st2.env, hins st2.heap d b⟩) := by
  unfold evLitSlice at h ⊢
  split at h <;> try (cases h; done)
  split at h <;> try (cases h; done)
  split at h <;> try (cases h; done)
  split at h <;> try (cases h; done)
  split at h <;> try (cases h; done)
  split at h <;> try (cases h; done)
  simp only at h
  split at h
  · cases h
  · rename_i hq
    cases h
    refine ⟨_, fun _ => rfl, hq, rfl, fun st2 hq2 => ?_⟩
    simp only [*, St.new]

theorem opRunX_rows {P : Program} {N : Nat} {T : Tab} {ops : Array Oper} {ra : RA} {i : Nat} {o : Oper} {st st1 : St} {v : V} {obl : List Prop} (hs : isRows ra i o = true) (h : opRunX P N T ops ra i o st = some (v, obl, st1)) :
    ∃ b : B, (∀ k, b.says k = false) ∧ quiet N (o.dst.getD 0) st = true ∧ st1 = ⟨st.env, hins st.heap (o.dst.getD 0) b⟩ ∧ ∀ st2, (∀ t ∈ usesT ops o, st2.get t = st.get t) → quiet N (o.dst.getD 0) st2 = true →
      opRunX P N T ops ra i o st2 = some (v, obl, ⟨st2.env, hins st2.heap (o.dst.getD 0) b⟩) := by
  unfold isRows at hs
  unfold opRunX at h ⊢
  split at hs
  · rename_i ha hk
    cases hk2 : klook ra.hc (i + 1000) with
    | some y => rw [hk2] at hs; cases hs
    | none =>
      rw [hk2] at hs
      simp only [hk, hk2] at h ⊢
      exact hc_new hs h
  · rename_i hk
    rw [hk] at h ⊢
    simp only at h ⊢
    split at hs
    rotate_left
    · cases hs
    rename_i hgd
    have hg : ∀ st : St, guardOk ops st o = some true := fun st => by unfold guardOk; rw [hgd]
    simp only [Bool.and_eq_true] at hs
    obtain ⟨hr, hcl⟩ := hs
    have hcl := Nat.eq_of_beq_eq_true hcl
    unfold opRun at h
    rw [hg] at h
    simp only at h
    split at h
    · cases h
    rename_i v0 obl0 st0 hev
    split at h
    · cases h
    rename_i v' obl' hd
    split at h
    rotate_left
    · cases h
    rename_i v'' hdn
    split at h
    rotate_left
    · cases h
    rename_i v3 obl3 hrl
    cases h
    have hmain : ∃ b : B, (∀ k, b.says k = false) ∧ quiet N (o.dst.getD 0) st = true ∧ st1 = ⟨st.env, hins st.heap (o.dst.getD 0) b⟩ ∧ ∀ st2, (∀ x ∈ seen_ o.op, evo st2 x = evo st x) → quiet N (o.dst.getD 0) st2 = true →
        evOp P N T o st2 (klook ra.an i) = some (v0, obl0, ⟨st2.env, hins st2.heap (o.dst.getD 0) b⟩) := by
      obtain ⟨dst, op, type, pos, after, guard⟩ := o
      simp only at hr hcl hgd ⊢
      cases op <;> simp only [rowsOp] at hr <;> try (cases hr; done)
      case alloc t0 _ =>
        simp only [evOp] at hev
        split at hev
        rotate_left
        · cases hev
        rename_i te hte
        split at hev
        rotate_left
        · cases hev
        rename_i l hl
        unfold evBox at hev
        split at hev
        rotate_left
        · cases hev
        rename_i hq hsay
        cases hev
        refine ⟨.box l, fun k => zeroC_says hl k, hq, rfl, fun st2 he hq2 => ?_⟩
        simp only [evOp, hte, hl]
        unfold evBox
        rw [hq2, hsay]
        rfl
      case makeSlice t0 x y _ =>
        simp only [clsOf] at hcl
        split at hcl
        · cases hcl
        rename_i hx
        simp only [evOp] at hev
        split at hev
        · rename_i hk; exact absurd hk (hx _ _)
        · cases hev
        obtain ⟨b, h1, h2, h3, h4⟩ := evMake_rows hev
        refine ⟨b, h1, h2, h3, fun st2 he hq => ?_⟩
        simp only [evOp]
        rw [he x (by simp [seen_]), he y (by simp [seen_])]
        exact h4 st2 hq
      case buildSlice t n ps _ =>
        simp only [clsOf] at hcl
        split at hcl
        rotate_left
        · cases hcl
        rename_i k c hka
        simp only [evOp, hka] at hev
        obtain ⟨b, h1, h2, h3, h4⟩ := evLitSlice_rows hev
        refine ⟨b, h1, h2, h3, fun st2 he hq => ?_⟩
        simp only [evOp, hka]
        rw [parts_evo (fun x hx => he x (by simpa [seen_] using hx))]
        exact h4 st2 hq
    obtain ⟨b, h1, h2, h3, h4⟩ := hmain
    refine ⟨b, h1, h2, h3, fun st2 hu hq => ?_⟩
    unfold opRun
    rw [hg]
    simp only [h4 st2 (evo_uses hu) hq, hd, hdn, hrl]

theorem clsX_none {ra : RA} {i : Nat} {o : Oper} (h : klook ra.hc i = none) : clsX ra i o = clsOf ra i o.op := by unfold clsX; rw [h]

theorem clsX_some {ra : RA} {i : Nat} {o : Oper} {ha : HA} (h : klook ra.hc i = some ha) (hc : clsX ra i o ≤ 3) : (simpleNew o ha = true ∧ clsX ra i o = 3) ∨ (ha.new = [] ∧ clsX ra i o = 2 ∧ klook ra.hc (i + 1000) = none) := by
  unfold clsX at hc ⊢
  rw [h] at hc ⊢
  simp only at hc ⊢
  split at hc
  · rename_i hs; exact .inl ⟨hs, rfl⟩
  · split at hc
    · omega
    · rename_i hk2
      split at hc
      · rename_i hn; exact .inr ⟨hn, rfl, hk2⟩
      · omega

/-- A call that gives a new row, whether it looks at own blocks or not. -/
theorem opRunX_hc {P : Program} {N : Nat} {T : Tab} {ops : Array Oper} {ra : RA} {i : Nat} {o : Oper} {ha : HA} {st st1 : St} {v : V} {obl : List Prop} (hk : klook ra.hc i = some ha) (hs : simpleNew o ha = true) (h : opRunX P N T ops ra i o st = some (v, obl, st1)) :
    ∃ b : B, quiet N (o.dst.getD 0) st = true ∧ st1 = ⟨st.env, hins st.heap (o.dst.getD 0) b⟩ ∧ ∀ st2, (∀ t ∈ usesT ops o, st2.get t = st.get t) → st2.heap = st.heap → quiet N (o.dst.getD 0) st2 = true →
      opRunX P N T ops ra i o st2 = some (v, obl, ⟨st2.env, st1.heap⟩) := by
  unfold opRunX at h ⊢
  cases hk2 : klook ra.hc (i + 1000) with
  | none =>
    simp only [hk, hk2] at h ⊢
    obtain ⟨b, h1, h2, rfl, h4⟩ := hc_new hs h
    refine ⟨b, h2, rfl, fun st2 hu hh hq => ?_⟩
    rw [h4 st2 hu hq, hh]
  | some x =>
    simp only [hk, hk2] at h ⊢
    exact hcB_new hs h

theorem opRunX_local {P : Program} {N : Nat} {T : Tab} {ops : Array Oper} {ra : RA} {i : Nat} {o : Oper} {st st1 st2 : St} {v : V} {obl : List Prop} (hc : clsX ra i o ≤ 3) (hu : ∀ t ∈ usesT ops o, st2.get t = st.get t)
    (hh : clsX ra i o ≠ 0 → st2.heap = st.heap) (hq : clsX ra i o = 3 → quiet N (o.dst.getD 0) st = true → quiet N (o.dst.getD 0) st2 = true) (h : opRunX P N T ops ra i o st = some (v, obl, st1)) :
    st1.env = st.env ∧ (clsX ra i o ≤ 1 → st1.heap = st.heap) ∧ opRunX P N T ops ra i o st2 = some (v, obl, ⟨st2.env, if clsX ra i o ≤ 1 then st2.heap else st1.heap⟩) := by
  cases hk : klook ra.hc i with
  | none =>
    rw [clsX_none hk] at *
    unfold opRunX at h ⊢
    rw [hk] at h ⊢
    exact opRun_local hc hu hh hq h
  | some ha =>
    rcases clsX_some hk hc with ⟨hs, e3⟩ | ⟨hn, e3, hk2⟩
    · rw [e3] at hh hq ⊢
      obtain ⟨b, h2, rfl, h4⟩ := opRunX_hc hk hs h
      refine ⟨rfl, fun h => by omega, ?_⟩
      rw [h4 st2 hu (hh (by omega)) (hq rfl h2)]
      rfl
    · rw [e3] at hh hq ⊢
      unfold opRunX at h ⊢
      rw [hk] at h ⊢
      simp only at h ⊢
      rw [hk2] at h ⊢
      simp only at h ⊢
      obtain ⟨h1, h2⟩ := hc_keep hn h
      refine ⟨h1, fun h => by omega, ?_⟩
      rw [h2 st2 hu (hh (by omega))]
      rfl

theorem opRunX_mono {P : Program} {N : Nat} {T : Tab} {ops : Array Oper} {ra : RA} {i : Nat} {o : Oper} {st st1 st2 : St} {v : V} {obl : List Prop} (hc : clsX ra i o = 1) (hu : ∀ t ∈ usesT ops o, st2.get t = st.get t)
    (hm : ∀ x ∈ seen_ o.op, Has st st2 fun id => (evo st x).says id) (h : opRunX P N T ops ra i o st = some (v, obl, st1)) : opRunX P N T ops ra i o st2 = some (v, obl, st2) := by
  cases hk : klook ra.hc i with
  | none =>
    rw [clsX_none hk] at *
    unfold opRunX at h ⊢
    rw [hk] at h ⊢
    exact opRun_mono hc hu hm h
  | some ha =>
    unfold clsX at hc
    rw [hk] at hc
    simp only at hc
    repeat' split at hc
    all_goals omega

theorem opRunX_new {P : Program} {N : Nat} {T : Tab} {ops : Array Oper} {ra : RA} {i : Nat} {o : Oper} {st st1 : St} {v : V} {obl : List Prop} (hc : clsX ra i o = 3) (h : opRunX P N T ops ra i o st = some (v, obl, st1)) :
    st1 = st ∨ (quiet N (o.dst.getD 0) st = true ∧ ∀ id b, hget st1.heap id = some b → id = o.dst.getD 0 ∨ hget st.heap id = some b) := by
  cases hk : klook ra.hc i with
  | none =>
    rw [clsX_none hk] at *
    unfold opRunX at h
    rw [hk] at h
    exact opRun_new hc h
  | some ha =>
    obtain ⟨hs, e3⟩ : simpleNew o ha = true ∧ clsX ra i o = 3 := (clsX_some hk (Nat.le_of_eq hc)).resolve_right fun h => by have := h.2.1; omega
    obtain ⟨b, h2, rfl, h4⟩ := opRunX_hc hk hs h
    refine .inr ⟨h2, fun id b' hb => ?_⟩
    simp only [hget_hins] at hb
    split at hb
    · rename_i e; exact .inl e.symm
    · exact .inr hb

theorem opRunX_keeps {P : Program} {N : Nat} {T : Tab} {ops : Array Oper} {ra : RA} {i : Nat} {o : Oper} {st st1 : St} {v : V} {obl : List Prop} (hc : clsX ra i o = 3) (hk : noKillX ra i o = true) (h : opRunX P N T ops ra i o st = some (v, obl, st1)) :
    ∀ id b, hget st.heap id = some b → hget st1.heap id = some b := by
  unfold noKillX at hk
  cases hk' : klook ra.hc i with
  | none =>
    rw [clsX_none hk'] at *
    unfold opRunX at h
    rw [hk'] at h hk
    exact opRun_keeps hc hk h
  | some ha =>
    obtain ⟨hs, e3⟩ : simpleNew o ha = true ∧ clsX ra i o = 3 := (clsX_some hk' (Nat.le_of_eq hc)).resolve_right fun h => by have := h.2.1; omega
    obtain ⟨b, h2, rfl, h4⟩ := opRunX_hc hk' hs h
    intro id b' hb
    simp only [hget_hins]
    have := (quietH_get (quiet_split h2).2).1
    rw [if_neg (fun e => by rw [e, hb] at this; cases this)]
    exact hb

/-- A call that makes a new row and may look at own blocks. -/
def isMk (ra : RA) (i : Nat) (o : Oper) : Bool := match klook ra.hc i, klook ra.hc (i + 1000), o.op with
  | some ha, some _, .call { callee := .value (.func _), args := _, argTypes := _ } => simpleNew o ha
  | _, _, _ => false

theorem hcB_mono {P : Program} {N : Nat} {ops : Array Oper} {ha : HA} {an : Option Ans} {o : Oper} {g : FuncId} {args : Array Operand} {tys : Array TypeId} {st st1 : St} {v : V} {obl : List Prop} (hs : simpleNew o ha = true)
    (hop : o.op = .call { callee := .value (.func g), args := args, argTypes := tys }) (h : opCallRunB P N ops ha an o st = some (v, obl, st1)) :
    ∃ b : B, (∀ k, b.says k = false) ∧ quiet N (o.dst.getD 0) st = true ∧ st1 = ⟨st.env, hins st.heap (o.dst.getD 0) b⟩ ∧ ∀ st2, (∀ t ∈ usesT ops o, st2.get t = st.get t) → (∀ x ∈ seen_ o.op, Has st st2 fun id => (evo st x).says id) → quiet N (o.dst.getD 0) st2 = true →
      opCallRunB P N ops ha an o st2 = some (v, obl, ⟨st2.env, hins st2.heap (o.dst.getD 0) b⟩) := by
  have hs0 := hs
  unfold simpleNew at hs
  split at hs
  rotate_left
  · cases hs
  rename_i c d c' e sz len cc hl hn hh1 hgd
  simp only [Bool.and_eq_true] at hs
  obtain ⟨⟨e1, e2⟩, e3⟩ := hs
  have e1 := Nat.eq_of_beq_eq_true e1
  have e2 := Nat.eq_of_beq_eq_true e2
  subst e2
  obtain ⟨lend, new, h1, res⟩ := ha
  simp only at hl hn hh1
  subst hl hn hh1
  subst e1
  have hg : ∀ st : St, guardOk ops st o = some true := fun st => by unfold guardOk; rw [hgd]
  have kA : ∀ st, opCallRun P N ops ⟨[], [(c, o.dst.getD 0)], [(c, .rows e sz len cc)], res⟩ an o st = evHCall P N st (.value (.func g)) args.toList ⟨[], [(c, o.dst.getD 0)], [(c, .rows e sz len cc)], res⟩ an := fun st => by
    unfold opCallRun
    rw [hg]
    simp only [hop]
  have kB : ∀ st, opCallRunB P N ops ⟨[], [(c, o.dst.getD 0)], [(c, .rows e sz len cc)], res⟩ an o st = evHCallX P N st (.value (.func g)) args.toList ⟨[], [(c, o.dst.getD 0)], [(c, .rows e sz len cc)], res⟩ an := fun st => by
    unfold opCallRunB
    rw [hg]
    simp only [hop]
  rw [kB] at h
  cases hE : evHCall P N st (.value (.func g)) args.toList ⟨[], [(c, o.dst.getD 0)], [(c, .rows e sz len cc)], res⟩ an with
  | some r =>
    unfold evHCallX at h
    rw [hE] at h
    simp only at h
    cases h
    obtain ⟨b, q1, q2, q3, q4⟩ := hc_new hs0 ((kA st).trans hE)
    refine ⟨b, q1, q2, q3, fun st2 hu hm hq => ?_⟩
    rw [kB]
    exact evHCallX_of ((kA st2).symm.trans (q4 st2 hu hq))
  | none =>
    unfold evHCallX at h
    rw [hE] at h
    simp only at h
    have hpe : ∀ hp, renHp (gOut ⟨[], [(c, o.dst.getD 0)], [(c, .rows e sz len cc)], res⟩) [(c, .rows e sz len cc)] = some hp → hp = [(o.dst.getD 0, .rows e sz len cc)] := fun hp hhp => by
      have : gOut ⟨[], [(c, o.dst.getD 0)], [(c, .rows e sz len cc)], res⟩ c = some (o.dst.getD 0) := by
        simp only [gOut, nlook, Nat.beq_refl]
      simp only [renHp, this, renB] at hhp
      exact (Option.some.inj hhp).symm
    rw [evHCallBW_nil rfl] at h
    obtain ⟨k0, n0, rfl⟩ : ∃ k n, res = .one (.osl k n) := by
      unfold evHCallB at h
      simp only at h
      split at h
      · exact ⟨_, _, rfl⟩
      · cases h
    unfold evHCallB at h
    simp only at h
    split at h
    rotate_left
    · cases h
    rename_i g' a b om hcal
    split at h
    rotate_left
    · cases h
    rename_i vs hp r ps hok hvs hhp hr' hps
    cases h
    obtain rfl := hpe _ hhp
    have hq : quiet N (o.dst.getD 0) st = true := by
      have hok' := hok
      unfold okHA at hok'
      split at hok'
      · rename_i q1 q2 q3 q4
        exact List.all_eq_true.1 q4 _ (List.mem_cons_self)
      · cases hok'
    refine ⟨.rows e sz len cc, fun _ => rfl, hq, rfl, fun st2 hu hm hq2 => ?_⟩
    have he : ∀ x ∈ seen_ (.call { callee := .value (.func g), args := args, argTypes := tys }), evo st2 x = evo st x := fun x hx => evo_uses hu x (by rw [hop]; exact hx)
    have hok2 : okHA N st2 ⟨[], [(c, o.dst.getD 0)], [(c, .rows e sz len cc)], .one (.osl k0 n0)⟩ = true := by
      have hok' := hok
      unfold okHA at hok' ⊢
      split at hok'
      · rename_i q1 q2 q3 q4
        simp only at q1 q2 q3
        simp only [q1, q2, q3, List.all_cons, List.all_nil, hq2, Bool.and_true]
      · cases hok'
    have hcab : a = [] ∧ b = [] := by
      simp only [calleeX, calleeOf, evo, V.ofVal] at hcal
      first
        | (cases hcal; exact ⟨rfl, rfl⟩)
        | (simp at hcal; exact ⟨hcal.2.1.symm, hcal.2.2.1.symm⟩)
    obtain ⟨rfl, rfl⟩ := hcab
    have hca : callArgs st2 args.toList [] [] = callArgs st args.toList [] [] := callArgs_evo (fun x hx => he x (seen_args x hx)) [] []
    have hbm : borA st2 (callArgs st args.toList [] []) = some vs := by
      refine borA_mono (fun v hv => ?_) hvs
      unfold callArgs at hv
      simp only [List.map_nil, List.nil_append, List.append_nil, List.mem_map] at hv
      obtain ⟨x, hx, rfl⟩ := hv
      exact hm x (by rw [hop]; exact seen_args x hx)
    have hE2 : evHCall P N st2 (.value (.func g)) args.toList ⟨[], [(c, o.dst.getD 0)], [(c, .rows e sz len cc)], .one (.osl k0 n0)⟩ an = none := by
      cases hE2 : evHCall P N st2 (.value (.func g)) args.toList ⟨[], [(c, o.dst.getD 0)], [(c, .rows e sz len cc)], .one (.osl k0 n0)⟩ an with
      | none => rfl
      | some r2 =>
        obtain ⟨b2, _, _, _, q4⟩ := hc_new hs0 ((kA st2).trans hE2)
        have := q4 st (fun t ht => (hu t ht).symm) hq
        rw [kA, hE] at this
        cases this
    rw [kB]
    unfold evHCallX
    rw [hE2]
    simp only
    rw [evHCallBW_nil rfl]
    unfold evHCallB
    simp only
    rw [calleeX_evo he, hcal]
    simp only [hok2, hca, hbm, hhp, hr', hps]
    rfl

theorem opRunX_mk {P : Program} {N : Nat} {T : Tab} {ops : Array Oper} {ra : RA} {i : Nat} {o : Oper} {st st1 : St} {v : V} {obl : List Prop} (hs : (isRows ra i o || isMk ra i o) = true) (h : opRunX P N T ops ra i o st = some (v, obl, st1)) :
    ∃ b : B, (∀ k, b.says k = false) ∧ quiet N (o.dst.getD 0) st = true ∧ st1 = ⟨st.env, hins st.heap (o.dst.getD 0) b⟩ ∧ ∀ st2, (∀ t ∈ usesT ops o, st2.get t = st.get t) → (∀ x ∈ seen_ o.op, Has st st2 fun id => (evo st x).says id) → quiet N (o.dst.getD 0) st2 = true →
      opRunX P N T ops ra i o st2 = some (v, obl, ⟨st2.env, hins st2.heap (o.dst.getD 0) b⟩) := by
  rw [Bool.or_eq_true] at hs
  rcases hs with hs | hs
  · obtain ⟨b, h1, h2, h3, h4⟩ := opRunX_rows hs h
    exact ⟨b, h1, h2, h3, fun st2 hu _ hq => h4 st2 hu hq⟩
  · unfold isMk at hs
    split at hs
    rotate_left
    · cases hs
    rename_i ha y g args tys hk hk2 hop
    unfold opRunX at h ⊢
    simp only [hk, hk2] at h ⊢
    exact hcB_mono hs hop h

theorem isMk_cls {ra : RA} {i : Nat} {o : Oper} (hs : isMk ra i o = true) : clsX ra i o = 3 := by
  unfold isMk at hs
  split at hs
  rotate_left
  · cases hs
  rename_i ha y g args tys hk hk2 hop
  unfold clsX
  rw [hk]
  simp only [hs]

/-- A call that is lent one block, and gives it back, leaves the heap's list as it stands. -/
theorem hc_place {P : Program} {N : Nat} {ops : Array Oper} {c e : Nat} {b : B} {res : V} {an : Option Ans} {o : Oper} {st st1 : St} {v : V} {obl : List Prop} (hgd : o.guard = none)
    (h : opCallRun P N ops ⟨[(c, e)], [], [(c, b)], res⟩ an o st = some (v, obl, st1)) :
    ∃ b', renB (gOut ⟨[(c, e)], [], [(c, b)], res⟩) b = some b' ∧ st1 = ⟨st.env, hrep st.heap e b'⟩ ∧ (∃ b0 b1, hget st.heap e = some b0 ∧ renB (bwd [(c, e)]) b0 = some b1) ∧
      ∀ st2, (∀ t ∈ usesT ops o, st2.get t = st.get t) → hget st2.heap e = hget st.heap e → opCallRun P N ops ⟨[(c, e)], [], [(c, b)], res⟩ an o st2 = some (v, obl, ⟨st2.env, hrep st2.heap e b'⟩) := by
  have hg : ∀ st : St, guardOk ops st o = some true := fun st => by unfold guardOk; rw [hgd]
  unfold opCallRun at h
  rw [hg] at h
  simp only at h
  split at h
  rotate_left
  · cases h
  rename_i f args tys hop
  unfold evHCall at h
  split at h
  rotate_left
  · cases h
  rename_i g a b1 om hcal
  split at h
  rotate_left
  · cases h
  rename_i h0 vs hp r hok hhi hvs hhp hr
  cases h
  have hgo : gOut ⟨[(c, e)], [], [(c, b)], res⟩ c = some e := by simp only [gOut, nlook, Nat.beq_refl]
  obtain ⟨b', hb', rfl⟩ : ∃ b', renB (gOut ⟨[(c, e)], [], [(c, b)], res⟩) b = some b' ∧ hp = [(e, b')] := by
    simp only [renHp, hgo] at hhp
    split at hhp
    · rename_i i0 b0 l0 q1 q2 q3
      cases q1; cases q3; cases hhp
      exact ⟨_, q2, rfl⟩
    · cases hhp
  have hpl : ∀ hh, putAll [(e, b')] [(c, e)] hh = hrep hh e b' := fun hh => by
    unfold putAll
    simp only [sameIds, Nat.beq_refl, repAll]
  refine ⟨b', hb', by rw [hpl], ?_, fun st2 hu hh => ?_⟩
  · simp only [hIn] at hhi
    split at hhi
    · rename_i b0 hb0
      split at hhi
      · rename_i b2 l2 q1 q2
        exact ⟨b0, b2, hb0, q1⟩
      · cases hhi
    · cases hhi
  · have he : ∀ x ∈ seen_ (.call { callee := f, args := args, argTypes := tys }), evo st2 x = evo st x := fun x hx => evo_uses hu x (by rw [hop]; exact hx)
    have hok2 : okHA N st2 ⟨[(c, e)], [], [(c, b)], res⟩ = true := hok
    have hhi2 : hIn (bwd [(c, e)]) st2.heap [(c, e)] = some h0 := by
      rw [hIn_congr (h := st.heap) (fun p hp => by
        rcases List.mem_singleton.1 hp with rfl
        exact hh)]
      exact hhi
    unfold opCallRun
    rw [hg]
    simp only [hop]
    unfold evHCall
    rw [calleeX_evo he, hcal]
    simp only [hok2, hhi2, callArgs_evo (fun x hx => he x (seen_args x hx)) a b1, hvs, hhp, hr, hpl]

def plOf (ra : RA) (i : Nat) (o : Oper) : Option Nat := match klook ra.hc i, klook ra.hc (i + 1000), o.guard with
  | some ⟨[(c, e)], [], [(c', _)], _⟩, none, none => match Nat.beq c c' with
    | true => some e
    | false => none
  | _, _, _ => none

theorem opRunX_place {P : Program} {N : Nat} {T : Tab} {ops : Array Oper} {ra : RA} {i e : Nat} {o : Oper} {st st1 : St} {v : V} {obl : List Prop} (hp : plOf ra i o = some e) (h : opRunX P N T ops ra i o st = some (v, obl, st1)) :
    ∃ b' : B, (∀ d, d ≠ e → b'.says d = false) ∧ st1 = ⟨st.env, hrep st.heap e b'⟩ ∧ (∀ d b0, d ≠ e → hget st.heap e = some b0 → b0.says d = false) ∧
      ∀ st2, (∀ t ∈ usesT ops o, st2.get t = st.get t) → hget st2.heap e = hget st.heap e → opRunX P N T ops ra i o st2 = some (v, obl, ⟨st2.env, hrep st2.heap e b'⟩) := by
  unfold plOf at hp
  split at hp
  rotate_left
  · cases hp
  rename_i c e0 c' b res hk hk2 hgd
  split at hp
  rotate_left
  · cases hp
  rename_i hcc
  cases hp
  obtain rfl := Nat.eq_of_beq_eq_true hcc
  unfold opRunX at h ⊢
  simp only [hk, hk2] at h ⊢
  obtain ⟨b', h1, h2, ⟨b0, b1, h3, h4⟩, h5⟩ := hc_place hgd h
  refine ⟨b', fun d hd => renB_img (fun k hk' => ?_) h1, h2, fun d b2 hd hb2 => ?_, h5⟩
  · simp only [gOut, nlook] at hk'
    split at hk'
    · rename_i hq
      split at hq
      · cases hq; cases hk'; exact hd rfl
      · cases hq
    · cases hk'
  · rw [h3] at hb2
    cases hb2
    refine renB_says ?_ h4
    simp only [bwd, List.map_cons, List.map_nil, nlook]
    split
    · rename_i hq; exact absurd (Nat.eq_of_beq_eq_true hq).symm hd
    · rfl

/-! ### States that tell the same -/
structure Eqv (st st2 : St) : Prop where
  env : ∀ t, st2.get t = st.get t
  heap : st2.heap = st.heap

theorem Eqv.refl (st : St) : Eqv st st := ⟨fun _ => rfl, rfl⟩
theorem Eqv.trans {a b c : St} (h : Eqv a b) (k : Eqv b c) : Eqv a c := ⟨fun t => (k.env t).trans (h.env t), k.heap.trans h.heap⟩

theorem quietE_eqv {st st2 : St} {d : Nat} (h : ∀ t, st2.get t = st.get t) : ∀ n, quietE st2 d n = quietE st d n
  | 0 => rfl
  | n + 1 => by simp only [quietE, h n, quietE_eqv h n]

theorem quiet_eqv {st st2 : St} (h : Eqv st st2) (N d : Nat) : quiet N d st2 = quiet N d st := by
  unfold quiet
  rw [quietE_eqv h.env, h.heap]

theorem Shows.eqv {N : Nat} {S0 : Nat → Prop} {w0 : Start} {st st2 : St} {a : Act} {w : World} (h : Shows N S0 w0 st a w) (he : Eqv st st2) : Shows N S0 w0 st2 a w :=
  h.le (N := N) ⟨fun t => .inl (he.env t), fun id b hb => by rw [← he.heap]; exact hb⟩


theorem hIn_env (g : Nat → Option Nat) (h : List (Nat × B)) (l : List (Nat × Nat)) : hIn g h l = hIn g h l := rfl

theorem okHA_eqv {N : Nat} {st st2 : St} (he : Eqv st st2) (ha : HA) : okHA N st2 ha = okHA N st ha := by
  unfold okHA
  rw [show (fun p : Nat × Nat => quiet N p.2 st2) = fun p => quiet N p.2 st from funext fun p => quiet_eqv he N p.2]

theorem opRunX_eqv {P : Program} {N : Nat} {T : Tab} {ops : Array Oper} {ra : RA} {i : Nat} {o : Oper} {st st1 st2 : St} {v : V} {obl : List Prop} (hc : okCls ra i o = true) (he : Eqv st st2) (h : opRunX P N T ops ra i o st = some (v, obl, st1)) :
    ∃ hp, opRunX P N T ops ra i o st2 = some (v, obl, ⟨st2.env, hp⟩) ∧ hp = st1.heap := by
  by_cases hc3 : clsX ra i o ≤ 3
  · obtain ⟨e1, h1, hr'⟩ := opRunX_local (st2 := st2) hc3 (fun t _ => he.env t) (fun _ => he.heap) (fun _ hq => by rw [quiet_eqv he]; exact hq) h
    refine ⟨_, hr', ?_⟩
    split
    · rename_i hc1; rw [h1 hc1]; exact he.heap
    · rfl
  · cases hk : klook ra.hc i with
    | none =>
      exfalso
      unfold okCls at hc
      rw [clsX_none hk] at hc3
      rw [hk] at hc
      exact hc3 (Nat.le_of_ble_eq_true hc)
    | some ha =>
      have hk2 : klook ra.hc (i + 1000) = none := by
        cases hk2 : klook ra.hc (i + 1000) with
        | none => rfl
        | some x =>
          exfalso
          unfold okCls at hc
          rw [hk] at hc
          simp only [hk2] at hc
          apply hc3
          unfold clsX
          rw [hk]
          simp only [hc]
          omega
      unfold opRunX at h ⊢
      rw [hk] at h ⊢
      simp only at h ⊢
      rw [hk2] at h ⊢
      simp only at h ⊢
      unfold opCallRun at h ⊢
      rw [guardOk_uses (o := o) (ops := ops) (fun t _ => he.env t)]
      split at h
      · split at h
        · rename_i c args tys hop
          have hev : ∀ x, evo st2 x = evo st x := fun x => by
            cases x with
            | tmp t => exact he.env t
            | const v => rfl
            | func f => rfl
            | global g => rfl
          unfold evHCall at h ⊢
          rw [calleeX_evo (args := args) (tys := tys) (fun x _ => hev x)]
          split at h
          rotate_left
          · cases h
          rename_i g a b om hcal
          rw [callArgs_evo (fun x _ => hev x) a b, okHA_eqv he, he.heap]
          split at h
          rotate_left
          · cases h
          rename_i h0 vs hp r q1 q2 q3 q4 q5
          cases h
          simp only [q1, q2, q3, q4, q5]
          exact ⟨_, rfl, rfl⟩
        · cases h
      · cases h; exact ⟨_, rfl, he.heap⟩
      · cases h

/-! ### A step of a region that draws -/
/-- The operations that make a block, and its number. -/
def newIds (ra : RA) : Nat → List Oper → List (Nat × Nat)
  | _, [] => []
  | i, o :: r => match Nat.beq (clsX ra i o) 3 with
    | true => (i, o.dst.getD 0) :: newIds ra (i + 1) r
    | false => newIds ra (i + 1) r

def preds (cert : List (List Nat)) (i : Nat) : List Nat := cert.getD i []

def memN (k : Nat) : List Nat → Bool
  | [] => false
  | x :: l => match Nat.beq x k with
    | true => true
    | false => memN k l

theorem memN_iff {k : Nat} : ∀ {l : List Nat}, memN k l = true ↔ k ∈ l
  | [] => by simp [memN]
  | x :: l => by
    simp only [memN]
    split
    · rename_i h
      simp [eq_of_beq' h]
    · rename_i h
      have := Nat.ne_of_beq_eq_false h
      rw [memN_iff]
      simp [Ne.symm this]

def chk (ni : List (Nat × Nat)) (ps : List Nat) (i : Nat) (v : V) : Bool := ni.all fun p => Nat.beq p.1 i || memN p.1 ps || !(v.says p.2)

section
variable (P : Program) (N : Nat) (T : Tab) (ops : Array Oper) (ra : RA) (cert : List (List Nat)) (ni : List (Nat × Nat))

/-- A load or a store that is said to touch a block does so. -/
def bxOk (l : List Nat) (st : St) (op : Op) : Bool := match l with
  | [] => true
  | c :: _ => match op with
    | .load _ x => match evo st x with
      | .one (.ptr d _) => Nat.beq d c
      | .one (.rp _ _ _) => Nat.beq 99998 c
      | _ => false
    | .store _ x _ => match evo st x with
      | .one (.ptr d _) => Nat.beq d c
      | _ => false
    | _ => false

def stepC (i : Nat) (st : St) : Option (St × List Prop) := match ops[i]? with
  | none => none
  | some o => match bxOk (preds cert (ops.size + i)) st o.op with
    | false => none
    | true => match opRunX P N T ops ra i o st with
      | none => none
      | some (v, obl, st') => match chk ni (preds cert i) i v with
        | false => none
        | true => match putO N st' o.dst v with
          | none => none
          | some st'' => some (st'', obl)

def execL : List Nat → St → Option (St × List Prop)
  | [], st => some (st, [])
  | i :: l, st => match stepC P N T ops ra cert ni i st with
    | none => none
    | some (st1, o1) => match execL l st1 with
      | none => none
      | some (st2, o2) => some (st2, o1 ++ o2)

def disj (x : Option Nat) (l : List Nat) : Bool := match x with
  | none => true
  | some d => !(memN d l)

def diffO (x y : Option Nat) : Bool := match x, y with
  | some a, some b => !(Nat.beq a b)
  | _, _ => true

/-- May operation i be done ahead of operation k? -/
def okPair (k i : Nat) : Bool := match ops[k]?, ops[i]? with
  | some a, some b => disj a.dst (usesT ops b) && disj b.dst (usesT ops a) && diffO a.dst b.dst &&
      ((Nat.ble (clsX ra k a) 1 && Nat.ble (clsX ra i b) 1) || (Nat.beq (clsX ra k a) 0 && Nat.ble (clsX ra i b) 3) || (Nat.beq (clsX ra i b) 0 && Nat.ble (clsX ra k a) 3) || (Nat.beq (clsX ra k a) 3 && Nat.beq (clsX ra i b) 1 && (usesT ops b).all fun t => Nat.blt t N) || (Nat.beq (clsX ra k a) 1 && Nat.beq (clsX ra i b) 3 && noKillX ra i b) || (isRows ra k a && isRows ra i b) || ((isRows ra k a || isMk ra k a) && (isRows ra i b || isMk ra i b) && (usesT ops b).all fun t => Nat.blt t N))
  | _, _ => false

def isLd : Op → Bool
  | .load _ _ => true
  | _ => false

def isSt : Op → Bool
  | .store _ _ _ => true
  | _ => false

/-- Is it an append that makes a row anew? -/
def isApp (i : Nat) : Op → Bool
  | .call { callee := .builtin .append, .. } => match klook ra.an i with
    | some (.c _ _) => true
    | _ => false
  | _ => false

/-- A load, and a store in another block. -/
def okLS (k i : Nat) : Bool := match ops[k]?, ops[i]?, preds cert (ops.size + k), preds cert (ops.size + i) with
  | some a, some b, c :: _, d :: _ => disj a.dst (usesT ops b) && disj b.dst (usesT ops a) && diffO a.dst b.dst && isLd a.op && isSt b.op && (klook ra.hc k).isNone && (klook ra.hc i).isNone && !(Nat.beq c d)
  | _, _, _, _ => false

/-- A call that is lent a block and gives it back, and a new block, or a load of another block. -/
def okLC (k i : Nat) : Bool := match ops[k]?, ops[i]? with
  | some a, some b => disj a.dst (usesT ops b) && disj b.dst (usesT ops a) && diffO a.dst b.dst && (match plOf ra k a, plOf ra i b with
    | some e, none => (isRows ra i b && !(Nat.beq (b.dst.getD 0) e)) || (isLd b.op && (klook ra.hc i).isNone && match preds cert (ops.size + i) with
      | c :: _ => !(Nat.beq c e)
      | [] => false)
    | none, some e => (isRows ra k a && !(Nat.beq (a.dst.getD 0) e)) || (isLd a.op && (klook ra.hc k).isNone && match preds cert (ops.size + k) with
      | c :: _ => !(Nat.beq c e)
      | [] => false)
    | _, _ => false)
  | _, _ => false

def sameTmp : Operand → Operand → Bool
  | .tmp a, .tmp b => Nat.beq a b
  | _, _ => false

/-- A look at a map's entry, and the entry that is asked for to be written. -/
def okLM (k i : Nat) : Bool := match ops[k]?, ops[i]? with
  | some a, some b => match a.op, b.op with
    | .lookup t x y false, .mapEntry t' x' y' => Nat.beq t t' && sameTmp x x' && sameTmp y y' && disj a.dst (usesT ops b) && disj b.dst (usesT ops a) && diffO a.dst b.dst && a.guard.isNone && b.guard.isNone &&
        (klook ra.hc k).isNone && (klook ra.hc i).isNone && (klook ra.bl k).isNone && (klook ra.bl i).isNone && (kdn ra.dn k).isEmpty && (kdn ra.dn i).isEmpty && (klook ra.rl k).isNone && (klook ra.rl i).isNone
    | _, _ => false
  | _, _ => false

/-- A load from a box, and what is appended to a row. -/
def okLA (k i : Nat) : Bool := match ops[k]?, ops[i]?, preds cert (ops.size + k) with
  | some a, some b, c :: _ => disj a.dst (usesT ops b) && disj b.dst (usesT ops a) && diffO a.dst b.dst && isLd a.op && isApp ra i b.op && a.guard.isNone && (klook ra.hc k).isNone && (klook ra.hc i).isNone && !(Nat.beq c 99998)
  | _, _, _ => false

def okPairD (k i : Nat) : Bool := okPair N ops ra k i || okLS ops ra cert k i || okLC ops ra cert k i || okLA ops ra cert k i
def okPairC (k i : Nat) : Bool := okPairD N ops ra cert k i || okLM ops ra k i
end

theorem get_putO {N : Nat} {st st' : St} {dst : Option Nat} {v : V} (h : putO N st dst v = some st') (t : Nat) : st'.get t = (if dst = some t then v else st.get t) ∧ st'.heap = st.heap := by
  unfold putO at h
  split at h
  · cases h; simp
  · split at h
    · cases h
      rename_i d _ _
      refine ⟨?_, rfl⟩
      rw [St.get_put]
      by_cases e : d = t
      · subst e; simp
      · rw [if_neg e, if_neg (by simpa using e)]
    · cases h

theorem putO_some {N : Nat} {st st' st2 : St} {dst : Option Nat} {v : V} (h : putO N st dst v = some st') : ∃ st2', putO N st2 dst v = some st2' := by
  cases dst with
  | none => exact ⟨_, rfl⟩
  | some d =>
    unfold putO at h ⊢
    cases hb : Nat.blt d N with
    | true => simp only [hb]; exact ⟨_, rfl⟩
    | false => simp only [hb] at h; cases h

theorem disj_spec {x : Option Nat} {l : List Nat} (h : disj x l = true) {t : Nat} (ht : t ∈ l) : x ≠ some t := by
  rintro rfl
  simp only [disj, Bool.not_eq_true'] at h
  rw [← Bool.not_eq_true, memN_iff] at h
  exact h ht

section
variable {P : Program} {N : Nat} {T : Tab} {ops : Array Oper} {ra : RA} {cert : List (List Nat)} {ni : List (Nat × Nat)}

theorem stepC_inv {i : Nat} {st st' : St} {obl : List Prop} (h : stepC P N T ops ra cert ni i st = some (st', obl)) : ∃ o v st1, ops[i]? = some o ∧ opRunX P N T ops ra i o st = some (v, obl, st1) ∧ chk ni (preds cert i) i v = true ∧ putO N st1 o.dst v = some st' := by
  unfold stepC at h
  split at h
  · cases h
  rename_i o ho
  split at h
  · cases h
  split at h
  · cases h
  rename_i v obl1 st1 hr
  split at h
  · cases h
  rename_i hc
  split at h
  · cases h
  rename_i st2 hp
  cases h
  exact ⟨o, v, st1, ho, hr, hc, hp⟩

theorem stepC_bx {i : Nat} {st st' : St} {obl : List Prop} (h : stepC P N T ops ra cert ni i st = some (st', obl)) {o : Oper} (ho : ops[i]? = some o) : bxOk (preds cert (ops.size + i)) st o.op = true := by
  unfold stepC at h
  rw [ho] at h
  simp only at h
  split at h
  · cases h
  · assumption

theorem bxOk_uses {st st2 : St} {o : Oper} (l : List Nat) (h : ∀ t ∈ usesT ops o, st2.get t = st.get t) : bxOk l st2 o.op = bxOk l st o.op := by
  have he := evo_uses h
  unfold bxOk
  cases l with
  | nil => rfl
  | cons c l =>
    obtain ⟨dst, op, type, pos, after, guard⟩ := o
    simp only at he ⊢
    cases op <;> simp only [seen_] at he ⊢
    case load t x => rw [he x (by simp)]
    case store t x y => rw [he x (by simp)]

theorem stepC_mk {i : Nat} {st st1 st' : St} {o : Oper} {v : V} {obl : List Prop} (ho : ops[i]? = some o) (hbx : bxOk (preds cert (ops.size + i)) st o.op = true) (hr : opRunX P N T ops ra i o st = some (v, obl, st1)) (hc : chk ni (preds cert i) i v = true) (hp : putO N st1 o.dst v = some st') : stepC P N T ops ra cert ni i st = some (st', obl) := by
  unfold stepC
  simp only [ho, hbx, hr, hc, hp]

theorem chk_spec {ps : List Nat} {i k d : Nat} {v : V} (h : chk ni ps i v = true) (hk : (k, d) ∈ ni) (hne : k ≠ i) (hp : k ∉ ps) : v.says d = false := by
  have := List.all_eq_true.1 h _ hk
  simp only [Bool.or_eq_true, Bool.not_eq_true'] at this
  rcases this with (h1 | h1) | h1
  · exact absurd (eq_of_beq' h1) hne
  · exact absurd (memN_iff.1 h1) hp
  · exact h1

theorem quietE_of {st : St} {d : Nat} (hd : d < pinBase) : ∀ {n : Nat}, (∀ t, t < n → (st.get t).says d = false) → quietE st d n = true
  | 0, _ => Nat.ble_eq_true_of_le hd
  | n + 1, h => by
    simp only [quietE, h n (by omega)]
    exact quietE_of hd fun t ht => h t (by omega)

theorem quietE_putO {st st1 st' : St} {dst : Option Nat} {v : V} {d : Nat} (hq : quietE st d N = true) (he : ∀ t, st1.get t = st.get t) (hv : v.says d = false) (hp : putO N st1 dst v = some st') : quietE st' d N = true :=
  quietE_of (quiet_pin hq) fun t ht => by
    rw [(get_putO hp t).1]
    split
    · exact hv
    · rw [he t]; exact quietE_lt hq t ht

theorem get_env {st st1 : St} (h : st1.env = st.env) (t : Nat) : st1.get t = st.get t := by unfold St.get; rw [h]

theorem quiet_mk {st : St} {d : Nat} (h1 : quietE st d N = true) (h2 : quietH d st.heap = true) : quiet N d st = true := by unfold quiet; rw [h1]; exact h2
/-- The numbers of new blocks are listed. -/
def NewOk (ops : Array Oper) (ra : RA) (ni : List (Nat × Nat)) : Prop := ∀ i o, ops[i]? = some o → clsX ra i o = 3 → (i, o.dst.getD 0) ∈ ni

theorem isRows_cls {ra : RA} {i : Nat} {o : Oper} (h : isRows ra i o = true) : clsX ra i o = 3 := by
  unfold isRows at h
  unfold clsX
  split at h
  · rename_i ha hk
    rw [hk]
    split at h
    · simp only [h]
    · cases h
  · rename_i hk
    rw [hk]
    simp only
    split at h
    · simp only [Bool.and_eq_true] at h
      exact Nat.eq_of_beq_eq_true h.2
    · cases h

theorem stepC_swapR (hni : NewOk ops ra ni) {k i : Nat} {a b : Oper} (ha : ops[k]? = some a) (hb : ops[i]? = some b) (d1 : disj a.dst (usesT ops b) = true) (d2 : disj b.dst (usesT ops a) = true) (d3 : diffO a.dst b.dst = true) (ra' : isRows ra k a = true) (rb' : isRows ra i b = true)
    (hne : k ≠ i) (hki : k ∉ preds cert i) {st st1 st2 : St} {o1 o2 : List Prop} (h1 : stepC P N T ops ra cert ni k st = some (st1, o1)) (h2 : stepC P N T ops ra cert ni i st1 = some (st2, o2))
    (hJ : ∀ o, ops[i]? = some o → clsX ra i o = 3 → quietE st (o.dst.getD 0) N = true) :
    ∃ st1' st2', stepC P N T ops ra cert ni i st = some (st1', o2) ∧ stepC P N T ops ra cert ni k st1' = some (st2', o1) ∧ Eqv st2' st2 := by
  obtain ⟨a', va, sa, ha', hra, hca, hpa⟩ := stepC_inv h1
  obtain ⟨b', vb, sb, hb', hrb, hcb, hpb⟩ := stepC_inv h2
  rw [ha] at ha'; cases ha'
  rw [hb] at hb'; cases hb'
  obtain ⟨ba, sa1, sa2, rfl, sa4⟩ := opRunX_rows ra' hra
  obtain ⟨bb, sb1, sb2, rfl, sb4⟩ := opRunX_rows rb' hrb
  have hst1 : st1.heap = hins st.heap (a.dst.getD 0) ba := (get_putO hpa 0).2
  have g1 : ∀ t, a.dst ≠ some t → st1.get t = st.get t := fun t ht => by rw [(get_putO hpa t).1, if_neg ht]; rfl
  have hna : hget st.heap (a.dst.getD 0) = none := (quietH_get (quiet_split sa2).2).1
  have hnb : hget st1.heap (b.dst.getD 0) = none := (quietH_get (quiet_split sb2).2).1
  have hdne : b.dst.getD 0 ≠ a.dst.getD 0 := by
    intro e
    rw [hst1, e, hget_hins, if_pos rfl] at hnb
    cases hnb
  have hqb : quiet N (b.dst.getD 0) st = true := by
    refine quiet_mk (hJ b hb (isRows_cls rb')) ?_
    have := (quiet_split sb2).2
    rw [hst1] at this
    exact quietH_of_hins hna this
  have hrb' := sb4 st (fun t ht => (g1 t (disj_spec d1 ht)).symm) hqb
  obtain ⟨st1', hp1⟩ := putO_some (st2 := ⟨st.env, hins st.heap (b.dst.getD 0) bb⟩) hpb
  have g2 : ∀ t, b.dst ≠ some t → st1'.get t = st.get t := fun t ht => by rw [(get_putO hp1 t).1, if_neg ht]; rfl
  have hst1' : st1'.heap = hins st.heap (b.dst.getD 0) bb := (get_putO hp1 0).2
  have hqa : quiet N (a.dst.getD 0) st1' = true := by
    obtain ⟨q1, q2⟩ := quiet_split sa2
    refine quiet_mk (quietE_putO (st1 := ⟨st.env, hins st.heap (b.dst.getD 0) bb⟩) q1 (fun t => rfl) (chk_spec hcb (hni k a ha (isRows_cls ra')) hne hki) hp1) ?_
    rw [hst1']
    exact quietH_hins hdne (sb1 _) q2
  have hra' := sa4 st1' (fun t ht => g2 t (disj_spec d2 ht)) hqa
  obtain ⟨st2', hp2⟩ := putO_some (st2 := ⟨st1'.env, hins st1'.heap (a.dst.getD 0) ba⟩) hpa
  have xb : bxOk (preds cert (ops.size + i)) st b.op = true := by rw [bxOk_uses (st := st1) _ (fun t ht => (g1 t (disj_spec d1 ht)).symm)]; exact stepC_bx h2 hb
  have xa : bxOk (preds cert (ops.size + k)) st1' a.op = true := by rw [bxOk_uses (st := st) _ (fun t ht => g2 t (disj_spec d2 ht))]; exact stepC_bx h1 ha
  refine ⟨st1', st2', stepC_mk hb xb hrb' hcb hp1, stepC_mk ha xa hra' hca hp2, ⟨fun t => ?_, ?_⟩⟩
  · rw [(get_putO hpb t).1, (get_putO hp2 t).1]
    have hd : ¬ (a.dst = some t ∧ b.dst = some t) := by
      rintro ⟨e1, e2⟩
      rw [e1, e2] at d3
      simp [diffO] at d3
    by_cases e1 : a.dst = some t
    · rw [if_pos e1, if_neg (fun e2 => hd ⟨e1, e2⟩)]
      show (⟨st1.env, _⟩ : St).get t = _
      rw [show (⟨st1.env, hins st1.heap (b.dst.getD 0) bb⟩ : St).get t = st1.get t from rfl, (get_putO hpa t).1, if_pos e1]
    · rw [if_neg e1]
      have e3 : (⟨st1'.env, hins st1'.heap (a.dst.getD 0) ba⟩ : St).get t = st1'.get t := rfl
      rw [e3, (get_putO hp1 t).1]
      split
      · rfl
      · rw [show (⟨st1.env, hins st1.heap (b.dst.getD 0) bb⟩ : St).get t = st1.get t from rfl, g1 t e1]; rfl
  · rw [(get_putO hpb 0).2, (get_putO hp2 0).2, hst1, hst1']
    exact hins_comm (a.dst.getD 0) (b.dst.getD 0) ba bb (Ne.symm hdne) st.heap

theorem stepC_swapM (hni : NewOk ops ra ni) {k i : Nat} {a b : Oper} (ha : ops[k]? = some a) (hb : ops[i]? = some b) (d1 : disj a.dst (usesT ops b) = true) (d2 : disj b.dst (usesT ops a) = true) (d3 : diffO a.dst b.dst = true) (ra' : (isRows ra k a || isMk ra k a) = true) (rb' : (isRows ra i b || isMk ra i b) = true) (hbN : ∀ t ∈ usesT ops b, t < N)
    (hne : k ≠ i) (hki : k ∉ preds cert i) {st st1 st2 : St} {o1 o2 : List Prop} (h1 : stepC P N T ops ra cert ni k st = some (st1, o1)) (h2 : stepC P N T ops ra cert ni i st1 = some (st2, o2))
    (hJ : ∀ o, ops[i]? = some o → clsX ra i o = 3 → quietE st (o.dst.getD 0) N = true) :
    ∃ st1' st2', stepC P N T ops ra cert ni i st = some (st1', o2) ∧ stepC P N T ops ra cert ni k st1' = some (st2', o1) ∧ Eqv st2' st2 := by
  obtain ⟨a', va, sa, ha', hra, hca, hpa⟩ := stepC_inv h1
  obtain ⟨b', vb, sb, hb', hrb, hcb, hpb⟩ := stepC_inv h2
  rw [ha] at ha'; cases ha'
  rw [hb] at hb'; cases hb'
  have ca : clsX ra k a = 3 := by
    rw [Bool.or_eq_true] at ra'
    exact ra'.elim isRows_cls isMk_cls
  have cb : clsX ra i b = 3 := by
    rw [Bool.or_eq_true] at rb'
    exact rb'.elim isRows_cls isMk_cls
  obtain ⟨ba, sa1, sa2, rfl, sa4⟩ := opRunX_mk ra' hra
  obtain ⟨bb, sb1, sb2, rfl, sb4⟩ := opRunX_mk rb' hrb
  have hst1 : st1.heap = hins st.heap (a.dst.getD 0) ba := (get_putO hpa 0).2
  have g1 : ∀ t, a.dst ≠ some t → st1.get t = st.get t := fun t ht => by rw [(get_putO hpa t).1, if_neg ht]; rfl
  have hna : hget st.heap (a.dst.getD 0) = none := (quietH_get (quiet_split sa2).2).1
  have hnb : hget st1.heap (b.dst.getD 0) = none := (quietH_get (quiet_split sb2).2).1
  have hdne : b.dst.getD 0 ≠ a.dst.getD 0 := by
    intro e
    rw [hst1, e, hget_hins, if_pos rfl] at hnb
    cases hnb
  have hqb : quiet N (b.dst.getD 0) st = true := by
    refine quiet_mk (hJ b hb cb) ?_
    have := (quiet_split sb2).2
    rw [hst1] at this
    exact quietH_of_hins hna this
  have hrb' := sb4 st (fun t ht => (g1 t (disj_spec d1 ht)).symm) (fun x hxm id bb hsy hb' => by
    rw [hst1, hget_hins] at hb'
    split at hb'
    · rename_i e
      exfalso
      have : (evo st1 x).says (a.dst.getD 0) = false := by
        cases x with
        | tmp t =>
          have ht : t ∈ usesT ops b := List.mem_append.2 (.inl (tmpsOf_mem hxm))
          show (st1.get t).says _ = false
          rw [g1 t (disj_spec d1 ht)]
          exact quietE_lt (quiet_split sa2).1 t (hbN t ht)
        | const v => exact ofVal_says v _
        | func f => rfl
        | global g => rfl
      rw [e] at this
      simp only [this] at hsy
      cases hsy
    · exact hb') hqb
  obtain ⟨st1', hp1⟩ := putO_some (st2 := ⟨st.env, hins st.heap (b.dst.getD 0) bb⟩) hpb
  have g2 : ∀ t, b.dst ≠ some t → st1'.get t = st.get t := fun t ht => by rw [(get_putO hp1 t).1, if_neg ht]; rfl
  have hst1' : st1'.heap = hins st.heap (b.dst.getD 0) bb := (get_putO hp1 0).2
  have hqa : quiet N (a.dst.getD 0) st1' = true := by
    obtain ⟨q1, q2⟩ := quiet_split sa2
    refine quiet_mk (quietE_putO (st1 := ⟨st.env, hins st.heap (b.dst.getD 0) bb⟩) q1 (fun t => rfl) (chk_spec hcb (hni k a ha ca) hne hki) hp1) ?_
    rw [hst1']
    exact quietH_hins hdne (sb1 _) q2
  have hra' := sa4 st1' (fun t ht => g2 t (disj_spec d2 ht)) (fun x hxm id bb' hsy hb' => by
    rw [hst1', hget_hins]
    split
    · rename_i e
      exfalso
      have hnb0 := (quietH_get (quiet_split hqb).2).1
      rw [e] at hnb0
      rw [hb'] at hnb0
      cases hnb0
    · exact hb') hqa
  obtain ⟨st2', hp2⟩ := putO_some (st2 := ⟨st1'.env, hins st1'.heap (a.dst.getD 0) ba⟩) hpa
  have xb : bxOk (preds cert (ops.size + i)) st b.op = true := by rw [bxOk_uses (st := st1) _ (fun t ht => (g1 t (disj_spec d1 ht)).symm)]; exact stepC_bx h2 hb
  have xa : bxOk (preds cert (ops.size + k)) st1' a.op = true := by rw [bxOk_uses (st := st) _ (fun t ht => g2 t (disj_spec d2 ht))]; exact stepC_bx h1 ha
  refine ⟨st1', st2', stepC_mk hb xb hrb' hcb hp1, stepC_mk ha xa hra' hca hp2, ⟨fun t => ?_, ?_⟩⟩
  · rw [(get_putO hpb t).1, (get_putO hp2 t).1]
    have hd : ¬ (a.dst = some t ∧ b.dst = some t) := by
      rintro ⟨e1, e2⟩
      rw [e1, e2] at d3
      simp [diffO] at d3
    by_cases e1 : a.dst = some t
    · rw [if_pos e1, if_neg (fun e2 => hd ⟨e1, e2⟩)]
      show (⟨st1.env, _⟩ : St).get t = _
      rw [show (⟨st1.env, hins st1.heap (b.dst.getD 0) bb⟩ : St).get t = st1.get t from rfl, (get_putO hpa t).1, if_pos e1]
    · rw [if_neg e1]
      have e3 : (⟨st1'.env, hins st1'.heap (a.dst.getD 0) ba⟩ : St).get t = st1'.get t := rfl
      rw [e3, (get_putO hp1 t).1]
      split
      · rfl
      · rw [show (⟨st1.env, hins st1.heap (b.dst.getD 0) bb⟩ : St).get t = st1.get t from rfl, g1 t e1]; rfl
  · rw [(get_putO hpb 0).2, (get_putO hp2 0).2, hst1, hst1']
    exact hins_comm (a.dst.getD 0) (b.dst.getD 0) ba bb (Ne.symm hdne) st.heap

theorem stepC_swapC1 (hni : NewOk ops ra ni) {k i e : Nat} {a b : Oper} (ha : ops[k]? = some a) (hb : ops[i]? = some b) (d1 : disj a.dst (usesT ops b) = true) (d2 : disj b.dst (usesT ops a) = true) (d3 : diffO a.dst b.dst = true) (ra' : plOf ra k a = some e) (rb' : isRows ra i b = true) (hde : b.dst.getD 0 ≠ e)
    {st st1 st2 : St} {o1 o2 : List Prop} (h1 : stepC P N T ops ra cert ni k st = some (st1, o1)) (h2 : stepC P N T ops ra cert ni i st1 = some (st2, o2))
    (hJ : ∀ o, ops[i]? = some o → clsX ra i o = 3 → quietE st (o.dst.getD 0) N = true) :
    ∃ st1' st2', stepC P N T ops ra cert ni i st = some (st1', o2) ∧ stepC P N T ops ra cert ni k st1' = some (st2', o1) ∧ Eqv st2' st2 := by
  obtain ⟨a', va, sa, ha', hra, hca, hpa⟩ := stepC_inv h1
  obtain ⟨b', vb, sb, hb', hrb, hcb, hpb⟩ := stepC_inv h2
  rw [ha] at ha'; cases ha'
  rw [hb] at hb'; cases hb'
  obtain ⟨ba, sa1, rfl, sa3, sa4⟩ := opRunX_place ra' hra
  obtain ⟨bb, sb1, sb2, rfl, sb4⟩ := opRunX_rows rb' hrb
  have hst1 : st1.heap = hrep st.heap e ba := (get_putO hpa 0).2
  have g1 : ∀ t, a.dst ≠ some t → st1.get t = st.get t := fun t ht => by rw [(get_putO hpa t).1, if_neg ht]; rfl
  have hqb : quiet N (b.dst.getD 0) st = true := by
    refine quiet_mk (hJ b hb (isRows_cls rb')) ?_
    have := (quiet_split sb2).2
    rw [hst1] at this
    exact quietH_of_hrep (Ne.symm hde) (fun b0 h0 => sa3 _ b0 hde h0) this
  have hrb' := sb4 st (fun t ht => (g1 t (disj_spec d1 ht)).symm) hqb
  obtain ⟨st1', hp1⟩ := putO_some (st2 := ⟨st.env, hins st.heap (b.dst.getD 0) bb⟩) hpb
  have g2 : ∀ t, b.dst ≠ some t → st1'.get t = st.get t := fun t ht => by rw [(get_putO hp1 t).1, if_neg ht]; rfl
  have hst1' : st1'.heap = hins st.heap (b.dst.getD 0) bb := (get_putO hp1 0).2
  have hra' := sa4 st1' (fun t ht => g2 t (disj_spec d2 ht)) (by rw [hst1', hget_hins, if_neg hde])
  obtain ⟨st2', hp2⟩ := putO_some (st2 := ⟨st1'.env, hrep st1'.heap e ba⟩) hpa
  have xb : bxOk (preds cert (ops.size + i)) st b.op = true := by rw [bxOk_uses (st := st1) _ (fun t ht => (g1 t (disj_spec d1 ht)).symm)]; exact stepC_bx h2 hb
  have xa : bxOk (preds cert (ops.size + k)) st1' a.op = true := by rw [bxOk_uses (st := st) _ (fun t ht => g2 t (disj_spec d2 ht))]; exact stepC_bx h1 ha
  refine ⟨st1', st2', stepC_mk hb xb hrb' hcb hp1, stepC_mk ha xa hra' hca hp2, ⟨fun t => ?_, ?_⟩⟩
  · rw [(get_putO hpb t).1, (get_putO hp2 t).1]
    have hd : ¬ (a.dst = some t ∧ b.dst = some t) := by
      rintro ⟨e1, e2⟩
      rw [e1, e2] at d3
      simp [diffO] at d3
    by_cases e1 : a.dst = some t
    · rw [if_pos e1, if_neg (fun e2 => hd ⟨e1, e2⟩)]
      show (⟨st1.env, _⟩ : St).get t = _
      rw [show (⟨st1.env, hins st1.heap (b.dst.getD 0) bb⟩ : St).get t = st1.get t from rfl, (get_putO hpa t).1, if_pos e1]
    · rw [if_neg e1]
      have e3 : (⟨st1'.env, hrep st1'.heap e ba⟩ : St).get t = st1'.get t := rfl
      rw [e3, (get_putO hp1 t).1]
      split
      · rfl
      · rw [show (⟨st1.env, hins st1.heap (b.dst.getD 0) bb⟩ : St).get t = st1.get t from rfl, g1 t e1]; rfl
  · rw [(get_putO hpb 0).2, (get_putO hp2 0).2]
    simp only
    rw [hst1, hst1', hrep_hins hde]

theorem stepC_swapC2 (hni : NewOk ops ra ni) {k i e : Nat} {a b : Oper} (ha : ops[k]? = some a) (hb : ops[i]? = some b) (d1 : disj a.dst (usesT ops b) = true) (d2 : disj b.dst (usesT ops a) = true) (d3 : diffO a.dst b.dst = true) (ra' : isRows ra k a = true) (rb' : plOf ra i b = some e) (hde : a.dst.getD 0 ≠ e)
    (hne : k ≠ i) (hki : k ∉ preds cert i) {st st1 st2 : St} {o1 o2 : List Prop} (h1 : stepC P N T ops ra cert ni k st = some (st1, o1)) (h2 : stepC P N T ops ra cert ni i st1 = some (st2, o2)) :
    ∃ st1' st2', stepC P N T ops ra cert ni i st = some (st1', o2) ∧ stepC P N T ops ra cert ni k st1' = some (st2', o1) ∧ Eqv st2' st2 := by
  obtain ⟨a', va, sa, ha', hra, hca, hpa⟩ := stepC_inv h1
  obtain ⟨b', vb, sb, hb', hrb, hcb, hpb⟩ := stepC_inv h2
  rw [ha] at ha'; cases ha'
  rw [hb] at hb'; cases hb'
  obtain ⟨ba, sa1, sa2, rfl, sa4⟩ := opRunX_rows ra' hra
  obtain ⟨bb, sb1, rfl, sb3, sb4⟩ := opRunX_place rb' hrb
  have hst1 : st1.heap = hins st.heap (a.dst.getD 0) ba := (get_putO hpa 0).2
  have g1 : ∀ t, a.dst ≠ some t → st1.get t = st.get t := fun t ht => by rw [(get_putO hpa t).1, if_neg ht]; rfl
  have hrb' := sb4 st (fun t ht => (g1 t (disj_spec d1 ht)).symm) (by rw [hst1, hget_hins, if_neg hde])
  obtain ⟨st1', hp1⟩ := putO_some (st2 := ⟨st.env, hrep st.heap e bb⟩) hpb
  have g2 : ∀ t, b.dst ≠ some t → st1'.get t = st.get t := fun t ht => by rw [(get_putO hp1 t).1, if_neg ht]; rfl
  have hst1' : st1'.heap = hrep st.heap e bb := (get_putO hp1 0).2
  have hqa : quiet N (a.dst.getD 0) st1' = true := by
    obtain ⟨q1, q2⟩ := quiet_split sa2
    refine quiet_mk (quietE_putO (st1 := ⟨st.env, hrep st.heap e bb⟩) q1 (fun t => rfl) (chk_spec hcb (hni k a ha (isRows_cls ra')) hne hki) hp1) ?_
    rw [hst1']
    exact quietH_hrep (sb1 _ hde) q2
  have hra' := sa4 st1' (fun t ht => g2 t (disj_spec d2 ht)) hqa
  obtain ⟨st2', hp2⟩ := putO_some (st2 := ⟨st1'.env, hins st1'.heap (a.dst.getD 0) ba⟩) hpa
  have xb : bxOk (preds cert (ops.size + i)) st b.op = true := by rw [bxOk_uses (st := st1) _ (fun t ht => (g1 t (disj_spec d1 ht)).symm)]; exact stepC_bx h2 hb
  have xa : bxOk (preds cert (ops.size + k)) st1' a.op = true := by rw [bxOk_uses (st := st) _ (fun t ht => g2 t (disj_spec d2 ht))]; exact stepC_bx h1 ha
  refine ⟨st1', st2', stepC_mk hb xb hrb' hcb hp1, stepC_mk ha xa hra' hca hp2, ⟨fun t => ?_, ?_⟩⟩
  · rw [(get_putO hpb t).1, (get_putO hp2 t).1]
    have hd : ¬ (a.dst = some t ∧ b.dst = some t) := by
      rintro ⟨e1, e2⟩
      rw [e1, e2] at d3
      simp [diffO] at d3
    by_cases e1 : a.dst = some t
    · rw [if_pos e1, if_neg (fun e2 => hd ⟨e1, e2⟩)]
      show (⟨st1.env, _⟩ : St).get t = _
      rw [show (⟨st1.env, hrep st1.heap e bb⟩ : St).get t = st1.get t from rfl, (get_putO hpa t).1, if_pos e1]
    · rw [if_neg e1]
      have e3 : (⟨st1'.env, hins st1'.heap (a.dst.getD 0) ba⟩ : St).get t = st1'.get t := rfl
      rw [e3, (get_putO hp1 t).1]
      split
      · rfl
      · rw [show (⟨st1.env, hrep st1.heap e bb⟩ : St).get t = st1.get t from rfl, g1 t e1]; rfl
  · rw [(get_putO hpb 0).2, (get_putO hp2 0).2]
    simp only
    rw [hst1, hst1', hrep_hins hde]

/-- A load of another block, ahead of the call or behind it. -/
theorem bxOk_says {op : Op} {st : St} {c : Nat} {l : List Nat} (h : bxOk (c :: l) st op = true) (hl : isLd op = true) : ∀ x ∈ seen_ op, ∀ id, (evo st x).says id = true → id = c := by
  unfold bxOk at h
  cases op <;> simp only [isLd] at hl <;> try (cases hl; done)
  rename_i t y
  intro x hx id hs
  simp only [seen_, List.mem_singleton] at hx
  subst hx
  simp only at h
  split at h
  · rename_i d off hq
    rw [hq] at hs
    simp only [V.says, C.says] at hs
    rw [← eq_of_beq' h]
    exact (eq_of_beq' hs).symm
  · rename_i hq
    rw [hq] at hs
    simp only [V.says, C.says] at hs
    cases hs
  · cases h

theorem stepC_swapC3 {k i e c : Nat} {l : List Nat} {a b : Oper} (ha : ops[k]? = some a) (hb : ops[i]? = some b) (d1 : disj a.dst (usesT ops b) = true) (d2 : disj b.dst (usesT ops a) = true) (d3 : diffO a.dst b.dst = true) (hla : isLd a.op = true) (hk1 : klook ra.hc k = none) (hpk : preds cert (ops.size + k) = c :: l) (rb' : plOf ra i b = some e) (hce : c ≠ e)
    {st st1 st2 : St} {o1 o2 : List Prop} (h1 : stepC P N T ops ra cert ni k st = some (st1, o1)) (h2 : stepC P N T ops ra cert ni i st1 = some (st2, o2)) :
    ∃ st1' st2', stepC P N T ops ra cert ni i st = some (st1', o2) ∧ stepC P N T ops ra cert ni k st1' = some (st2', o1) ∧ Eqv st2' st2 := by
  obtain ⟨a', va, sa, ha', hra, hca, hpa⟩ := stepC_inv h1
  obtain ⟨b', vb, sb, hb', hrb, hcb, hpb⟩ := stepC_inv h2
  rw [ha] at ha'; cases ha'
  rw [hb] at hb'; cases hb'
  have bxa := stepC_bx h1 ha
  rw [hpk] at bxa
  have c1 : clsX ra k a = 1 := by
    rw [clsX_none hk1]
    cases hq : a.op <;> rw [hq] at hla <;> first | (cases hla; done) | rfl
  obtain ⟨ea, hha, _⟩ := opRunX_local (st2 := st) (by omega) (fun t _ => rfl) (fun _ => rfl) (fun _ h => h) hra
  have hh1 : st1.heap = st.heap := (get_putO hpa 0).2.trans (hha (by omega))
  have g1 : ∀ t, a.dst ≠ some t → st1.get t = st.get t := fun t ht => by rw [(get_putO hpa t).1, if_neg ht]; exact get_env ea t
  have eb := opRunX_env hrb
  obtain ⟨bb, sb1, rfl, sb3, sb4⟩ := opRunX_place rb' hrb
  have hrb' := sb4 st (fun t ht => (g1 t (disj_spec d1 ht)).symm) (by rw [hh1])
  obtain ⟨st1', hp1⟩ := putO_some (st2 := ⟨st.env, hrep st.heap e bb⟩) hpb
  have g2 : ∀ t, b.dst ≠ some t → st1'.get t = st.get t := fun t ht => by rw [(get_putO hp1 t).1, if_neg ht]; rfl
  have hst1' : st1'.heap = hrep st.heap e bb := (get_putO hp1 0).2
  have hra' : opRunX P N T ops ra k a st1' = some (va, o1, st1') := by
    refine opRunX_mono c1 (fun t ht => g2 t (disj_spec d2 ht)) (fun x hxm id b0 hsy hb0 => ?_) hra
    have hid := bxOk_says bxa hla x hxm id hsy
    rw [hst1', hget_hrep, if_neg (by rw [hid]; exact Ne.symm hce)]
    exact hb0
  obtain ⟨st2', hp2⟩ := putO_some (st2 := st1') hpa
  have xb : bxOk (preds cert (ops.size + i)) st b.op = true := by rw [bxOk_uses (st := st1) _ (fun t ht => (g1 t (disj_spec d1 ht)).symm)]; exact stepC_bx h2 hb
  have xa : bxOk (preds cert (ops.size + k)) st1' a.op = true := by rw [bxOk_uses (st := st) _ (fun t ht => g2 t (disj_spec d2 ht))]; exact stepC_bx h1 ha
  refine ⟨st1', st2', stepC_mk hb xb hrb' hcb hp1, stepC_mk ha xa hra' hca hp2, ⟨fun t => ?_, ?_⟩⟩
  · rw [(get_putO hpb t).1, (get_putO hp2 t).1]
    have hd : ¬ (a.dst = some t ∧ b.dst = some t) := by
      rintro ⟨e1, e2⟩
      rw [e1, e2] at d3
      simp [diffO] at d3
    by_cases e1 : a.dst = some t
    · rw [if_pos e1, if_neg (fun e2 => hd ⟨e1, e2⟩), get_env eb, (get_putO hpa t).1, if_pos e1]
    · rw [if_neg e1]
      rw [(get_putO hp1 t).1]
      split
      · rfl
      · rw [get_env eb, g1 t e1]; rfl
  · rw [(get_putO hpb 0).2, (get_putO hp2 0).2, hst1']
    simp only
    rw [hh1]

theorem stepC_swapC4 {k i e c : Nat} {l : List Nat} {a b : Oper} (ha : ops[k]? = some a) (hb : ops[i]? = some b) (d1 : disj a.dst (usesT ops b) = true) (d2 : disj b.dst (usesT ops a) = true) (d3 : diffO a.dst b.dst = true) (hlb : isLd b.op = true) (hk1 : klook ra.hc i = none) (hpi : preds cert (ops.size + i) = c :: l) (ra' : plOf ra k a = some e) (hce : c ≠ e)
    {st st1 st2 : St} {o1 o2 : List Prop} (h1 : stepC P N T ops ra cert ni k st = some (st1, o1)) (h2 : stepC P N T ops ra cert ni i st1 = some (st2, o2)) :
    ∃ st1' st2', stepC P N T ops ra cert ni i st = some (st1', o2) ∧ stepC P N T ops ra cert ni k st1' = some (st2', o1) ∧ Eqv st2' st2 := by
  obtain ⟨a', va, sa, ha', hra, hca, hpa⟩ := stepC_inv h1
  obtain ⟨b', vb, sb, hb', hrb, hcb, hpb⟩ := stepC_inv h2
  rw [ha] at ha'; cases ha'
  rw [hb] at hb'; cases hb'
  have bxb := stepC_bx h2 hb
  rw [hpi] at bxb
  have c1 : clsX ra i b = 1 := by
    rw [clsX_none hk1]
    cases hq : b.op <;> rw [hq] at hlb <;> first | (cases hlb; done) | rfl
  obtain ⟨ba, sa1, rfl, sa3, sa4⟩ := opRunX_place ra' hra
  have hst1 : st1.heap = hrep st.heap e ba := (get_putO hpa 0).2
  have g1 : ∀ t, a.dst ≠ some t → st1.get t = st.get t := fun t ht => by rw [(get_putO hpa t).1, if_neg ht]; rfl
  obtain ⟨eb, hhb, _⟩ := opRunX_local (st2 := st1) (by omega) (fun t _ => rfl) (fun _ => rfl) (fun _ h => h) hrb
  have hrb' : opRunX P N T ops ra i b st = some (vb, o2, st) := by
    refine opRunX_mono c1 (fun t ht => (g1 t (disj_spec d1 ht)).symm) (fun x hxm id b0 hsy hb0 => ?_) hrb
    have hid := bxOk_says bxb hlb x hxm id hsy
    rw [hst1, hget_hrep, if_neg (by rw [hid]; exact Ne.symm hce)] at hb0
    exact hb0
  obtain ⟨st1', hp1⟩ := putO_some (st2 := st) hpb
  have g2 : ∀ t, b.dst ≠ some t → st1'.get t = st.get t := fun t ht => by rw [(get_putO hp1 t).1, if_neg ht]
  have hst1' : st1'.heap = st.heap := (get_putO hp1 0).2
  have hra' := sa4 st1' (fun t ht => g2 t (disj_spec d2 ht)) (by rw [hst1'])
  obtain ⟨st2', hp2⟩ := putO_some (st2 := ⟨st1'.env, hrep st1'.heap e ba⟩) hpa
  have xb : bxOk (preds cert (ops.size + i)) st b.op = true := by rw [bxOk_uses (st := st1) _ (fun t ht => (g1 t (disj_spec d1 ht)).symm)]; exact stepC_bx h2 hb
  have xa : bxOk (preds cert (ops.size + k)) st1' a.op = true := by rw [bxOk_uses (st := st) _ (fun t ht => g2 t (disj_spec d2 ht))]; exact stepC_bx h1 ha
  refine ⟨st1', st2', stepC_mk hb xb hrb' hcb hp1, stepC_mk ha xa hra' hca hp2, ⟨fun t => ?_, ?_⟩⟩
  · rw [(get_putO hpb t).1, (get_putO hp2 t).1]
    have hd : ¬ (a.dst = some t ∧ b.dst = some t) := by
      rintro ⟨e1, e2⟩
      rw [e1, e2] at d3
      simp [diffO] at d3
    by_cases e1 : a.dst = some t
    · rw [if_pos e1, if_neg (fun e2 => hd ⟨e1, e2⟩), get_env eb, (get_putO hpa t).1, if_pos e1]
    · rw [if_neg e1]
      rw [show (⟨st1'.env, hrep st1'.heap e ba⟩ : St).get t = st1'.get t from rfl, (get_putO hp1 t).1]
      split
      · rfl
      · rw [get_env eb, g1 t e1]
  · rw [(get_putO hpb 0).2, (get_putO hp2 0).2, hhb (by omega), hst1, hst1']

theorem evStore_far {T : Tab} {st st' : St} {t d off : Nat} {v : V} {an : Option Ans} {obl : List Prop} (h : evStore T st t (.one (.ptr d off)) v an = some (obl, st')) : ∀ id, id ≠ d → hget st'.heap id = hget st.heap id := by
  intro id hne
  unfold evStore at h
  split at h
  · split at h
    · simp only at h
      split at h
      · split at h
        · cases h
          simp only [hget_hset]
          rw [if_neg (Ne.symm hne)]
        · cases h
      · cases h
    · cases h
  · cases h

theorem opRun_far {o : Oper} {i d off : Nat} {st st' : St} {t : TypeId} {x y : Operand} {v : V} {obl : List Prop} (ho : o.op = .store t x y) (hx : evo st x = .one (.ptr d off)) (h : opRun P N T ops ra i o st = some (v, obl, st')) : ∀ id, id ≠ d → hget st'.heap id = hget st.heap id := by
  intro id hne
  unfold opRun at h
  split at h
  · cases h
  · cases h; rfl
  · split at h
    · cases h
    rename_i v0 obl0 st0 hev
    split at h
    · cases h
    split at h
    rotate_left
    · cases h
    split at h
    rotate_left
    · cases h
    cases h
    unfold evOp at hev
    simp only [ho, hx] at hev
    split at hev
    · rename_i q hq
      cases hev
      exact evStore_far hq id hne
    · cases hev

theorem stepC_swapL {k i : Nat} (hok : okLS ops ra cert k i = true) {st st1 st2 : St} {o1 o2 : List Prop} (h1 : stepC P N T ops ra cert ni k st = some (st1, o1)) (h2 : stepC P N T ops ra cert ni i st1 = some (st2, o2)) :
    ∃ st1' st2', stepC P N T ops ra cert ni i st = some (st1', o2) ∧ stepC P N T ops ra cert ni k st1' = some (st2', o1) ∧ Eqv st2' st2 := by
  obtain ⟨a, va, sa, ha, hra, hca, hpa⟩ := stepC_inv h1
  obtain ⟨b, vb, sb, hb, hrb, hcb, hpb⟩ := stepC_inv h2
  have bxa := stepC_bx h1 ha
  have bxb := stepC_bx h2 hb
  unfold okLS at hok
  rw [ha, hb] at hok
  split at hok
  rotate_left
  · cases hok
  rename_i a' b' c l d l' ea eb hpk hpi
  cases ea
  cases eb
  simp only [Bool.and_eq_true, Bool.not_eq_true', Option.isNone_iff_eq_none] at hok
  obtain ⟨⟨⟨⟨⟨⟨⟨d1, d2⟩, d3⟩, hla⟩, hsb⟩, hk1⟩, hk2⟩, hcd⟩ := hok
  have hcd : c ≠ d := Nat.ne_of_beq_eq_false hcd
  rw [hpk] at bxa
  rw [hpi] at bxb
  have c1 : clsX ra k a = 1 := by
    rw [clsX_none hk1]
    cases hq : a.op <;> rw [hq] at hla <;> first | (cases hla; done) | rfl
  have c2 : clsX ra i b = 2 := by
    rw [clsX_none hk2]
    cases hq : b.op <;> rw [hq] at hsb <;> first | (cases hsb; done) | rfl
  obtain ⟨ea, hha, _⟩ := opRunX_local (st2 := st) (by omega) (fun t _ => rfl) (fun _ => rfl) (fun _ h => h) hra
  have hh1 : st1.heap = st.heap := (get_putO hpa 0).2.trans (hha (by omega))
  have g1 : ∀ t, a.dst ≠ some t → st1.get t = st.get t := fun t ht => by rw [(get_putO hpa t).1, if_neg ht]; exact get_env ea t
  obtain ⟨eb, _, hrb'⟩ := opRunX_local (st2 := st) (by omega) (fun t ht => (g1 t (disj_spec d1 ht)).symm) (fun _ => hh1.symm) (fun h => by omega) hrb
  rw [if_neg (by omega)] at hrb'
  obtain ⟨st1', hp1⟩ := putO_some (st2 := ⟨st.env, sb.heap⟩) hpb
  have g2 : ∀ t, b.dst ≠ some t → st1'.get t = st.get t := fun t ht => by rw [(get_putO hp1 t).1, if_neg ht]; rfl
  have hh2 : st1'.heap = sb.heap := (get_putO hp1 0).2
  have hfar : ∀ id, id ≠ d → hget sb.heap id = hget st.heap id := by
    intro id hne
    rw [← hh1]
    unfold opRunX at hrb
    rw [hk2] at hrb
    simp only at hrb
    unfold bxOk at bxb
    cases hq : b.op <;> rw [hq] at hsb <;> try (cases hsb; done)
    rename_i t x y
    rw [hq] at bxb
    simp only at bxb
    split at bxb
    · rename_i d' off hx
      have := eq_of_beq' bxb
      subst this
      exact opRun_far hq hx hrb id hne
    · cases bxb
  have hra' : opRunX P N T ops ra k a st1' = some (va, o1, st1') := by
    refine opRunX_mono c1 (fun t ht => g2 t (disj_spec d2 ht)) (fun x hxm id bb hsy hb' => ?_) hra
    rw [hh2, hfar id ?_]
    · exact hb'
    rintro rfl
    unfold bxOk at bxa
    cases hq : a.op <;> rw [hq] at hla <;> try (cases hla; done)
    rename_i t y
    rw [hq] at bxa hxm
    simp only [seen_, List.mem_singleton] at hxm
    subst hxm
    simp only at bxa
    split at bxa
    · rename_i d' off hx
      have := eq_of_beq' bxa
      subst this
      simp only [hx, V.says, C.says] at hsy
      exact hcd (eq_of_beq' hsy)
    · rename_i hx
      simp only [hx, V.says, C.says] at hsy
      cases hsy
    · cases bxa
  obtain ⟨st2', hp2⟩ := putO_some (st2 := st1') hpa
  have xb : bxOk (preds cert (ops.size + i)) st b.op = true := by rw [bxOk_uses (st := st1) _ (fun t ht => (g1 t (disj_spec d1 ht)).symm)]; exact stepC_bx h2 hb
  have xa : bxOk (preds cert (ops.size + k)) st1' a.op = true := by rw [bxOk_uses (st := st) _ (fun t ht => g2 t (disj_spec d2 ht))]; exact stepC_bx h1 ha
  refine ⟨st1', st2', stepC_mk hb xb hrb' hcb hp1, stepC_mk ha xa hra' hca hp2, ⟨fun t => ?_, ?_⟩⟩
  · rw [(get_putO hpb t).1, (get_putO hp2 t).1]
    have hd : ¬ (a.dst = some t ∧ b.dst = some t) := by
      rintro ⟨e1, e2⟩
      rw [e1, e2] at d3
      simp [diffO] at d3
    by_cases e1 : a.dst = some t
    · rw [if_pos e1, if_neg (fun e2 => hd ⟨e1, e2⟩), get_env eb, (get_putO hpa t).1, if_pos e1]
    · rw [if_neg e1, (get_putO hp1 t).1]
      split
      · rfl
      · rw [get_env eb, g1 t e1]; rfl
  · rw [(get_putO hpb 0).2, (get_putO hp2 0).2, hh2]

theorem evAppend_boxes {st st1 : St} {d t : Nat} {s x : V} {an : Option Ans} {v : V} {obl : List Prop} (hn : hget st.heap d = none) (h : evAppend N T st d t s x an = some (v, obl, st1)) : ∀ id l, hget st.heap id = some (.box l) → hget st1.heap id = some (.box l) := by
  intro id' l' hb
  have hd : d ≠ id' := by
    rintro rfl
    rw [hn] at hb; cases hb
  unfold evAppend at h
  repeat' split at h
  all_goals first | (cases h; done) | skip
  all_goals (simp only [Option.some.injEq, Prod.mk.injEq] at h; obtain ⟨_, _, rfl⟩ := h)
  · rw [hget_cons, if_neg hd, hget_hdel, if_neg]
    · exact hb
    · rintro rfl
      simp_all
  · show hget (hins _ _ _) _ = _
    rw [hget_hins, if_neg hd]
    exact hb

theorem evLoad_box {st : St} {t id off : Nat} {r : V × List Prop} (h : evLoad T st t (.one (.ptr id off)) = some r) : ∃ l, hget st.heap id = some (.box l) := by
  unfold evLoad at h
  split at h
  · cases h
  split at h
  · cases h
  simp only at h
  split at h
  · rename_i l hl; exact ⟨l, hl⟩
  · cases h

theorem evLoadX_box {st : St} {t id off : Nat} {an : Option Ans} {r : V × List Prop} (h : evLoadX T st t (.one (.ptr id off)) an = some r) : ∃ l, hget st.heap id = some (.box l) := by
  unfold evLoadX at h
  split at h
  · unfold evLoadH at h
    split at h
    · rename_i e; cases e
    · cases h
  · exact evLoad_box h

theorem stepC_swapA {k i : Nat} (hok : okLA ops ra cert k i = true) {st st1 st2 : St} {o1 o2 : List Prop} (h1 : stepC P N T ops ra cert ni k st = some (st1, o1)) (h2 : stepC P N T ops ra cert ni i st1 = some (st2, o2))
    (hJ : ∀ o, ops[i]? = some o → clsX ra i o = 3 → quietE st (o.dst.getD 0) N = true) :
    ∃ st1' st2', stepC P N T ops ra cert ni i st = some (st1', o2) ∧ stepC P N T ops ra cert ni k st1' = some (st2', o1) ∧ Eqv st2' st2 := by
  obtain ⟨a, va, sa, ha, hra, hca, hpa⟩ := stepC_inv h1
  obtain ⟨b, vb, sb, hb, hrb, hcb, hpb⟩ := stepC_inv h2
  have bxa := stepC_bx h1 ha
  unfold okLA at hok
  rw [ha, hb] at hok
  split at hok
  rotate_left
  · cases hok
  rename_i a' b' c l ea eb hpk
  cases ea
  cases eb
  simp only [Bool.and_eq_true, Bool.not_eq_true', Option.isNone_iff_eq_none] at hok
  obtain ⟨⟨⟨⟨⟨⟨⟨⟨d1, d2⟩, d3⟩, hla⟩, hsb⟩, hga⟩, hk1⟩, hk2⟩, hcd⟩ := hok
  have hcd : c ≠ 99998 := Nat.ne_of_beq_eq_false hcd
  rw [hpk] at bxa
  obtain ⟨ta, xa, hqa⟩ : ∃ t x, a.op = .load t x := by
    cases hq : a.op <;> rw [hq] at hla <;> first | (cases hla; done) | exact ⟨_, _, rfl⟩
  have c1 : clsX ra k a = 1 := by rw [clsX_none hk1, hqa]; rfl
  have c2 : clsX ra i b = 3 := by
    rw [clsX_none hk2]
    unfold isApp at hsb
    split at hsb
    · rename_i hq
      split at hsb
      · rename_i hw
        rw [hq]
        simp only [clsOf, hw]
      · cases hsb
    · cases hsb
  -- where the load looks
  obtain ⟨off, hxa⟩ : ∃ off, evo st xa = .one (.ptr c off) := by
    unfold bxOk at bxa
    rw [hqa] at bxa
    simp only at bxa
    split at bxa
    · rename_i d' off hx
      have := eq_of_beq' bxa
      subst this
      exact ⟨off, hx⟩
    · exact absurd (eq_of_beq' bxa).symm hcd
    · cases bxa
  obtain ⟨bl, hbl⟩ : ∃ l, hget st.heap c = some (.box l) := by
    unfold opRunX at hra
    rw [hk1] at hra
    simp only [opRun, guardOk, hga, evOp, hqa, hxa] at hra
    cases hl : evLoadX T st ta (.one (.ptr c off)) (klook ra.an k) with
    | none => rw [hl] at hra; cases hra
    | some r => exact evLoadX_box hl
  obtain ⟨ea, hha, _⟩ := opRunX_local (st2 := st) (by omega) (fun t _ => rfl) (fun _ => rfl) (fun _ h => h) hra
  have hh1 : st1.heap = st.heap := (get_putO hpa 0).2.trans (hha (by omega))
  have g1 : ∀ t, a.dst ≠ some t → st1.get t = st.get t := fun t ht => by rw [(get_putO hpa t).1, if_neg ht]; exact get_env ea t
  have hqt : quiet N (b.dst.getD 0) st1 = true → quiet N (b.dst.getD 0) st = true := fun hq => quiet_mk (hJ b hb c2) (by rw [← hh1]; exact (quiet_split hq).2)
  obtain ⟨eb, _, hrb'⟩ := opRunX_local (st2 := st) (by omega) (fun t ht => (g1 t (disj_spec d1 ht)).symm) (fun _ => hh1.symm) (fun _ hq => hqt hq) hrb
  rw [if_neg (by omega)] at hrb'
  obtain ⟨st1', hp1⟩ := putO_some (st2 := ⟨st.env, sb.heap⟩) hpb
  have g2 : ∀ t, b.dst ≠ some t → st1'.get t = st.get t := fun t ht => by rw [(get_putO hp1 t).1, if_neg ht]; rfl
  have hh2 : st1'.heap = sb.heap := (get_putO hp1 0).2
  have hbox : hget sb.heap c = some (.box bl) := by
    have hb1 : hget st1.heap c = some (.box bl) := by rw [hh1]; exact hbl
    unfold opRunX at hrb
    rw [hk2] at hrb
    simp only at hrb
    have hcl : clsOf ra i b.op = 3 := by rw [← clsX_none hk2]; exact c2
    unfold opRun at hrb
    split at hrb
    · cases hrb
    · cases hrb; exact hb1
    · split at hrb
      · cases hrb
      rename_i v0 obl0 st0 hev
      have hquiet := evOp_quiet hcl hev
      split at hrb
      · cases hrb
      split at hrb
      rotate_left
      · cases hrb
      split at hrb
      rotate_left
      · cases hrb
      cases hrb
      unfold isApp at hsb
      split at hsb
      · rename_i hq
        split at hsb
        · rename_i hw
          simp only [evOp, hq, hw] at hev
          split at hev
          · split at hev
            · exact evAppend_boxes (quietH_get (quiet_split hquiet).2).1 hev c bl hb1
            · cases hev
          · cases hev
        · cases hsb
      · cases hsb
  have hra' : opRunX P N T ops ra k a st1' = some (va, o1, st1') := by
    refine opRunX_mono c1 (fun t ht => g2 t (disj_spec d2 ht)) (fun x hxm id bb hsy hb' => ?_) hra
    rw [hqa] at hxm
    simp only [seen_, List.mem_singleton] at hxm
    subst hxm
    rw [hxa] at hsy
    simp only [V.says, C.says] at hsy
    have := eq_of_beq' hsy
    subst this
    rw [hbl] at hb'
    cases hb'
    rw [hh2]; exact hbox
  obtain ⟨st2', hp2⟩ := putO_some (st2 := st1') hpa
  have xb : bxOk (preds cert (ops.size + i)) st b.op = true := by rw [bxOk_uses (st := st1) _ (fun t ht => (g1 t (disj_spec d1 ht)).symm)]; exact stepC_bx h2 hb
  have xa' : bxOk (preds cert (ops.size + k)) st1' a.op = true := by rw [bxOk_uses (st := st) _ (fun t ht => g2 t (disj_spec d2 ht))]; exact stepC_bx h1 ha
  refine ⟨st1', st2', stepC_mk hb xb hrb' hcb hp1, stepC_mk ha xa' hra' hca hp2, ⟨fun t => ?_, ?_⟩⟩
  · rw [(get_putO hpb t).1, (get_putO hp2 t).1]
    have hd : ¬ (a.dst = some t ∧ b.dst = some t) := by
      rintro ⟨e1, e2⟩
      rw [e1, e2] at d3
      simp [diffO] at d3
    by_cases e1 : a.dst = some t
    · rw [if_pos e1, if_neg (fun e2 => hd ⟨e1, e2⟩), get_env eb, (get_putO hpa t).1, if_pos e1]
    · rw [if_neg e1, (get_putO hp1 t).1]
      split
      · rfl
      · rw [get_env eb, g1 t e1]; rfl
  · rw [(get_putO hpb 0).2, (get_putO hp2 0).2, hh2]

theorem stepC_swapD (hni : NewOk ops ra ni) {k i : Nat} (hok : okPairD N ops ra cert k i = true) (hne : k ≠ i) (hki : k ∉ preds cert i) {st st1 st2 : St} {o1 o2 : List Prop} (h1 : stepC P N T ops ra cert ni k st = some (st1, o1)) (h2 : stepC P N T ops ra cert ni i st1 = some (st2, o2))
    (hJ : ∀ o, ops[i]? = some o → clsX ra i o = 3 → quietE st (o.dst.getD 0) N = true) :
    ∃ st1' st2', stepC P N T ops ra cert ni i st = some (st1', o2) ∧ stepC P N T ops ra cert ni k st1' = some (st2', o1) ∧ Eqv st2' st2 := by
  obtain ⟨a, va, sa, ha, hra, hca, hpa⟩ := stepC_inv h1
  obtain ⟨b, vb, sb, hb, hrb, hcb, hpb⟩ := stepC_inv h2
  unfold okPairD at hok
  rw [Bool.or_eq_true, Bool.or_eq_true, Bool.or_eq_true] at hok
  rcases hok with ((hok | hok) | hok) | hok
  rotate_right
  · exact stepC_swapA hok h1 h2 hJ
  rotate_left
  · exact stepC_swapL hok h1 h2
  · unfold okLC at hok
    rw [ha, hb] at hok
    simp only [Bool.and_eq_true] at hok
    obtain ⟨⟨⟨d1, d2⟩, d3⟩, hok⟩ := hok
    split at hok
    · rename_i e hpa' hpb'
      rw [Bool.or_eq_true] at hok
      rcases hok with hok | hok
      · rw [Bool.and_eq_true] at hok
        exact stepC_swapC1 hni ha hb d1 d2 d3 hpa' hok.1 (Nat.ne_of_beq_eq_false (by simpa using hok.2)) h1 h2 hJ
      · simp only [Bool.and_eq_true, Option.isNone_iff_eq_none] at hok
        obtain ⟨⟨q1, q2⟩, q3⟩ := hok
        split at q3
        · rename_i c l hpr
          exact stepC_swapC4 ha hb d1 d2 d3 q1 q2 hpr hpa' (Nat.ne_of_beq_eq_false (by simpa using q3)) h1 h2
        · cases q3
    · rename_i e hpa' hpb'
      rw [Bool.or_eq_true] at hok
      rcases hok with hok | hok
      · rw [Bool.and_eq_true] at hok
        exact stepC_swapC2 hni ha hb d1 d2 d3 hok.1 hpb' (Nat.ne_of_beq_eq_false (by simpa using hok.2)) hne hki h1 h2
      · simp only [Bool.and_eq_true, Option.isNone_iff_eq_none] at hok
        obtain ⟨⟨q1, q2⟩, q3⟩ := hok
        split at q3
        · rename_i c l hpr
          exact stepC_swapC3 ha hb d1 d2 d3 q1 q2 hpr hpb' (Nat.ne_of_beq_eq_false (by simpa using q3)) h1 h2
        · cases q3
    · cases hok
  unfold okPair at hok
  rw [ha, hb] at hok
  simp only [Bool.and_eq_true, Bool.or_eq_true] at hok
  obtain ⟨⟨⟨d1, d2⟩, d3⟩, hcl⟩ := hok
  rcases hcl with (hcl | ⟨hR1, hR2⟩) | ⟨⟨hR1, hR2⟩, hR3⟩
  rotate_left
  · exact stepC_swapR hni ha hb d1 d2 d3 hR1 hR2 hne hki h1 h2 hJ
  · exact stepC_swapM hni ha hb d1 d2 d3 (by rw [Bool.or_eq_true]; exact hR1) (by rw [Bool.or_eq_true]; exact hR2) (fun t ht => Nat.le_of_ble_eq_true (List.all_eq_true.1 hR3 t ht)) hne hki h1 h2 hJ
  have hcl' : (clsX ra k a ≤ 1 ∧ clsX ra i b ≤ 1) ∨ (clsX ra k a = 0 ∧ clsX ra i b ≤ 3) ∨ (clsX ra i b = 0 ∧ clsX ra k a ≤ 3) ∨ (clsX ra k a = 3 ∧ clsX ra i b = 1 ∧ ∀ t ∈ usesT ops b, t < N) ∨ (clsX ra k a = 1 ∧ clsX ra i b = 3 ∧ noKillX ra i b = true) := by
    rcases hcl with (((⟨h, h'⟩ | ⟨h, h'⟩) | ⟨h, h'⟩) | ⟨⟨h, h'⟩, h''⟩) | ⟨⟨h, h'⟩, h''⟩
    · exact .inl ⟨Nat.le_of_ble_eq_true h, Nat.le_of_ble_eq_true h'⟩
    · exact .inr (.inl ⟨eq_of_beq' h, Nat.le_of_ble_eq_true h'⟩)
    · exact .inr (.inr (.inl ⟨eq_of_beq' h, Nat.le_of_ble_eq_true h'⟩))
    · exact .inr (.inr (.inr (.inl ⟨eq_of_beq' h, eq_of_beq' h', fun t ht => Nat.le_of_ble_eq_true (List.all_eq_true.1 h'' t ht)⟩)))
    · exact .inr (.inr (.inr (.inr ⟨eq_of_beq' h, eq_of_beq' h', h''⟩)))
  -- k at st
  obtain ⟨ea, hha, _⟩ := opRunX_local (st2 := st) (by omega) (fun t _ => rfl) (fun _ => rfl) (fun _ h => h) hra
  have hh1 : clsX ra k a ≤ 1 → st1.heap = st.heap := fun h => (get_putO hpa 0).2.trans (hha h)
  have g1 : ∀ t, a.dst ≠ some t → st1.get t = st.get t := fun t ht => by rw [(get_putO hpa t).1, if_neg ht]; exact get_env ea t
  -- i at st
  have hkc : clsX ra k a ≤ 3 := by omega
  have hic : clsX ra i b ≤ 3 := by omega
  obtain ⟨eb, hhb, hrb'⟩ : sb.env = st1.env ∧ (clsX ra i b ≤ 1 → sb.heap = st1.heap) ∧ opRunX P N T ops ra i b st = some (vb, o2, ⟨st.env, if clsX ra i b ≤ 1 then st.heap else sb.heap⟩) := by
    by_cases hx : clsX ra k a = 3 ∧ clsX ra i b = 1
    · obtain ⟨e1, e2, _⟩ := opRunX_local (st2 := st1) (by omega) (fun t _ => rfl) (fun _ => rfl) (fun _ h => h) hrb
      refine ⟨e1, e2, ?_⟩
      rw [if_pos (by omega)]
      have hN : ∀ t ∈ usesT ops b, t < N := by
        rcases hcl' with h | h | h | h | h
        · omega
        · omega
        · omega
        · exact h.2.2
        · omega
      refine opRunX_mono hx.2 (fun t ht => (g1 t (disj_spec d1 ht)).symm) (fun x hxm id bb hsy hb' => ?_) hrb
      rw [(get_putO hpa 0).2] at hb'
      rcases opRunX_new hx.1 hra with rfl | ⟨hq, hn⟩
      · exact hb'
      · rcases hn id bb hb' with rfl | h
        · exfalso
          have : (evo st1 x).says (a.dst.getD 0) = false := by
            cases x with
            | tmp t =>
              have ht : t ∈ usesT ops b := List.mem_append.2 (.inl (tmpsOf_mem hxm))
              show (st1.get t).says _ = false
              rw [g1 t (disj_spec d1 ht)]
              exact quietE_lt (quiet_split hq).1 t (hN t ht)
            | const v => exact ofVal_says v _
            | func f => rfl
            | global g => rfl
          simp only [this] at hsy
          cases hsy
        · exact h
    · exact opRunX_local (st2 := st) (by omega) (fun t ht => (g1 t (disj_spec d1 ht)).symm) (fun h => (hh1 (by omega)).symm) (fun hc hq => by
        obtain ⟨_, q2⟩ := quiet_split hq
        refine quiet_mk (hJ b hb hc) ?_
        rw [← hh1 (by omega)]
        exact q2) hrb
  obtain ⟨st1', hp1⟩ := putO_some (st2 := ⟨st.env, if clsX ra i b ≤ 1 then st.heap else sb.heap⟩) hpb
  have xb : bxOk (preds cert (ops.size + i)) st b.op = true := by rw [bxOk_uses (st := st1) _ (fun t ht => (g1 t (disj_spec d1 ht)).symm)]; exact stepC_bx h2 hb
  have hs1 := stepC_mk (cert := cert) (ni := ni) hb xb hrb' hcb hp1
  have g2 : ∀ t, b.dst ≠ some t → st1'.get t = st.get t := fun t ht => by rw [(get_putO hp1 t).1, if_neg ht]; rfl
  have hh2 : clsX ra i b ≤ 1 → st1'.heap = st.heap := fun h => by rw [(get_putO hp1 0).2]; simp only [if_pos h]
  -- k behind i
  have hra' : opRunX P N T ops ra k a st1' = some (va, o1, ⟨st1'.env, if clsX ra k a ≤ 1 then st1'.heap else sa.heap⟩) := by
    by_cases hx : clsX ra k a = 1 ∧ clsX ra i b = 3
    · rw [if_pos (by omega)]
      have hnk : noKillX ra i b = true := by
        rcases hcl' with h | h | h | h | h
        · omega
        · omega
        · omega
        · omega
        · exact h.2.2
      refine opRunX_mono hx.1 (fun t ht => g2 t (disj_spec d2 ht)) (fun x hxm id bb hsy hb' => ?_) hra
      rw [(get_putO hp1 0).2]
      simp only [if_neg (show ¬ clsX ra i b ≤ 1 by omega)]
      have := opRunX_keeps hx.2 hnk hrb' id bb hb'
      simpa only [if_neg (show ¬ clsX ra i b ≤ 1 by omega)] using this
    · refine (opRunX_local (st2 := st1') (by omega) (fun t ht => g2 t (disj_spec d2 ht)) (fun h => hh2 (by omega)) (fun hc hq => by
        obtain ⟨q1, q2⟩ := quiet_split hq
        refine quiet_mk (quietE_putO (st1 := ⟨st.env, if clsX ra i b ≤ 1 then st.heap else sb.heap⟩) q1 (fun t => rfl) (chk_spec hcb (hni k a ha hc) hne hki) hp1) ?_
        rw [hh2 (by omega)]
        exact q2) hra).2.2
  obtain ⟨st2', hp2⟩ := putO_some (st2 := ⟨st1'.env, if clsX ra k a ≤ 1 then st1'.heap else sa.heap⟩) hpa
  have xa : bxOk (preds cert (ops.size + k)) st1' a.op = true := by rw [bxOk_uses (st := st) _ (fun t ht => g2 t (disj_spec d2 ht))]; exact stepC_bx h1 ha
  refine ⟨st1', st2', hs1, stepC_mk ha xa hra' hca hp2, ⟨fun t => ?_, ?_⟩⟩
  · rw [(get_putO hpb t).1, (get_putO hp2 t).1]
    have hd : ¬ (a.dst = some t ∧ b.dst = some t) := by
      rintro ⟨e1, e2⟩
      rw [e1, e2] at d3
      simp [diffO] at d3
    by_cases e1 : a.dst = some t
    · rw [if_pos e1, if_neg (fun e2 => hd ⟨e1, e2⟩), get_env eb, (get_putO hpa t).1, if_pos e1]
    · rw [if_neg e1]
      have e3 : (⟨st1'.env, if clsX ra k a ≤ 1 then st1'.heap else sa.heap⟩ : St).get t = st1'.get t := rfl
      rw [e3, (get_putO hp1 t).1]
      split
      · rfl
      · rw [get_env eb, g1 t e1]; rfl
  · rw [(get_putO hpb 0).2, (get_putO hp2 0).2]
    simp only
    by_cases c1 : clsX ra k a ≤ 1
    · rw [if_pos c1, (get_putO hp1 0).2]
      simp only
      by_cases c2 : clsX ra i b ≤ 1
      · rw [if_pos c2, hhb c2, hh1 c1]
      · rw [if_neg c2]
    · rw [if_neg c1, hhb (by omega), (get_putO hpa 0).2]

theorem stepC_swapLM {k i : Nat} (hok : okLM ops ra k i = true) {st st1 st2 : St} {o1 o2 : List Prop} (h1 : stepC P N T ops ra cert ni k st = some (st1, o1)) (h2 : stepC P N T ops ra cert ni i st1 = some (st2, o2)) :
    ∃ st1' st2' o1', stepC P N T ops ra cert ni i st = some (st1', o2) ∧ stepC P N T ops ra cert ni k st1' = some (st2', o1') ∧ Eqv st2' st2 ∧ ((∀ q ∈ o1 ++ o2, q) → ∀ q ∈ o1', q) := by
  obtain ⟨a, va, sa, ha, hra, hca, hpa⟩ := stepC_inv h1
  obtain ⟨b, vb, sb, hb, hrb, hcb, hpb⟩ := stepC_inv h2
  have xa0 := stepC_bx h1 ha
  have xb0 := stepC_bx h2 hb
  unfold okLM at hok
  rw [ha, hb] at hok
  simp only at hok
  split at hok
  rotate_left
  · cases hok
  rename_i t x y t' x' y' hao hbo
  simp only [Bool.and_eq_true, Option.isNone_iff_eq_none, List.isEmpty_iff] at hok
  obtain ⟨⟨⟨⟨⟨⟨⟨⟨⟨⟨⟨⟨⟨⟨⟨ht, hx⟩, hy⟩, d1⟩, d2⟩, d3⟩, ga⟩, gb⟩, hk1⟩, hk2⟩, b1⟩, b2⟩, n1⟩, n2⟩, r1⟩, r2⟩ := hok
  obtain rfl := Nat.eq_of_beq_eq_true ht
  have sT : ∀ {u v : Operand}, sameTmp u v = true → ∃ n, u = .tmp n ∧ v = .tmp n := fun {u v} h => by
    cases u <;> cases v <;> simp only [sameTmp] at h <;> (try (cases h; done))
    exact ⟨_, rfl, by rw [Nat.eq_of_beq_eq_true h]⟩
  obtain ⟨x, rfl, rfl⟩ := sT hx
  obtain ⟨y, rfl, rfl⟩ := sT hy
  have eL : ∀ s : St, opRunX P N T ops ra k a s = (evLookup P T s t (s.get x) (s.get y) false (klook ra.an k)).map fun p => (p.1, p.2, s) := fun s => by
    unfold opRunX
    rw [hk1]
    simp only [opRun, guardOk, ga, evOp, hao]
    have e : ∀ z, evo s (.tmp z) = s.get z := fun z => rfl
    rw [e, e]
    cases evLookup P T s t (s.get x) (s.get y) false (klook ra.an k) with
    | none => rfl
    | some p => simp only [b1, decideB, n1, dnV, r1, rlV, Option.map_some]
  have eM : ∀ s : St, opRunX P N T ops ra i b s = evMapEntry P T s t (s.get x) (s.get y) (klook ra.an i) := fun s => by
    unfold opRunX
    rw [hk2]
    simp only [opRun, guardOk, gb, evOp, hbo]
    have e : ∀ z, evo s (.tmp z) = s.get z := fun z => rfl
    rw [e, e]
    cases evMapEntry P T s t (s.get x) (s.get y) (klook ra.an i) with
    | none => rfl
    | some p => simp only [b2, decideB, n2, dnV, r2, rlV]
  rw [eL] at hra
  rw [eM] at hrb
  have ux : x ∈ usesT ops b ∧ y ∈ usesT ops b := by unfold usesT; rw [hbo]; simp [seen_, tmpsOf]
  have uxa : x ∈ usesT ops a ∧ y ∈ usesT ops a := by unfold usesT; rw [hao]; simp [seen_, tmpsOf]
  simp only [Option.map_eq_some_iff, Prod.mk.injEq] at hra
  obtain ⟨p, hp, rfl, rfl, rfl⟩ := hra
  obtain ⟨va, o1⟩ := p
  simp only at hp hca hpa
  have g1 : ∀ n, a.dst ≠ some n → st1.get n = st.get n := fun n hn => by rw [(get_putO hpa n).1, if_neg hn]
  have hh1 : st1.heap = st.heap := (get_putO hpa 0).2
  rw [g1 x (disj_spec d1 ux.1), g1 y (disj_spec d1 ux.2)] at hrb
  -- the entry
  unfold evMapEntry at hrb
  split at hrb
  rotate_left
  · cases hrb
  rename_i kt vt id kt' l kv ik j z0 l' hmt hmo hkv han
  split at hrb
  rotate_left
  · cases hrb
  rename_i z hz hden
  cases hrb
  have hmo' : mapOf st (st.get x) = some (id, kt', l) := by unfold mapOf at hmo ⊢; rw [hh1] at hmo; exact hmo
  obtain ⟨hxv, hl⟩ := mapOf_eq hmo'
  -- the look
  unfold evLookup at hp
  rw [hmt, hmo', hkv] at hp
  split at hp
  rotate_left
  · cases hp
  rename_i kt0 vt0 _ _ l0 kv0 v0 fz0 e1 e2 e3 e4 e5
  cases e2; cases e3; cases e4
  rw [hz] at hp
  cases hp
  have hevM : evMapEntry P T st t (st.get x) (st.get y) (klook ra.an i) = some (.tup [(false, [.junk]), (false, [.lit (.int .i64 j)])], [KeyOk P kt kv (kv :: l.map (·.1)), MEnt l kv z j l'], { st with heap := hset st.heap id (.map kt' l') }) := by
    unfold evMapEntry
    rw [hmt, hmo', hkv, han]
    simp only [hz, hden]
  obtain ⟨st1', hp1⟩ := putO_some (st2 := ⟨st.env, hset st.heap id (.map kt' l')⟩) hpb
  have g2 : ∀ n, b.dst ≠ some n → st1'.get n = st.get n := fun n hn => by rw [(get_putO hp1 n).1, if_neg hn]; rfl
  have hh2 : st1'.heap = hset st.heap id (.map kt' l') := (get_putO hp1 0).2
  have hevL : evLookup P T st1' t (st1'.get x) (st1'.get y) false (klook ra.an k) = some (va, [KeyOk P kt kv (l'.map (·.1)), MLook l' kv z va]) := by
    rw [g2 x (disj_spec d2 uxa.1), g2 y (disj_spec d2 uxa.2)]
    have hm2 : mapOf st1' (st.get x) = some (id, kt', l') := by
      unfold mapOf
      rw [hxv, hh2]
      simp only [hget_hset, if_true]
    unfold evLookup
    rw [hmt, hm2, hkv, e5]
    simp only [hz]
  have xb : bxOk (preds cert (ops.size + i)) st b.op = true := by rw [bxOk_uses (st := st1) _ (fun n hn => (g1 n (disj_spec d1 hn)).symm)]; exact xb0
  have xa : bxOk (preds cert (ops.size + k)) st1' a.op = true := by rw [bxOk_uses (st := st) _ (fun n hn => g2 n (disj_spec d2 hn))]; exact xa0
  have hs1 := stepC_mk (cert := cert) (ni := ni) hb xb ((eM st).trans hevM) hcb hp1
  obtain ⟨st2', hp2⟩ := putO_some (st2 := st1') hpa
  have hs2 := stepC_mk (cert := cert) (ni := ni) ha xa ((eL st1').trans (by rw [hevL]; rfl)) hca hp2
  refine ⟨st1', st2', _, hs1, hs2, ⟨fun n => ?_, ?_⟩, fun hq q hqm => ?_⟩
  · rw [(get_putO hpb n).1, (get_putO hp2 n).1]
    have hd : ¬ (a.dst = some n ∧ b.dst = some n) := by
      rintro ⟨e1, e2⟩
      rw [e1, e2] at d3
      simp [diffO] at d3
    by_cases e1 : a.dst = some n
    · rw [if_pos e1, if_neg (fun e2 => hd ⟨e1, e2⟩)]
      show st1.get n = va
      rw [(get_putO hpa n).1, if_pos e1]
    · rw [if_neg e1, (get_putO hp1 n).1]
      split
      · rfl
      · show st1.get n = st.get n
        exact g1 n e1
  · rw [(get_putO hpb 0).2, (get_putO hp2 0).2, hh2]
    show hset st1.heap id (.map kt' l') = _
    rw [hh1]
  · have q1 : MLook l kv z va := hq _ (by simp)
    have q2 : KeyOk P kt kv (kv :: l.map (·.1)) := hq _ (by simp)
    have q3 : MEnt l kv z j l' := hq _ (by simp)
    simp only [List.mem_cons, List.not_mem_nil, or_false] at hqm
    rcases hqm with rfl | rfl
    · exact q2.sub q3.keys
    · exact q1.ent q3

theorem stepC_swap (hni : NewOk ops ra ni) {k i : Nat} (hok : okPairC N ops ra cert k i = true) (hne : k ≠ i) (hki : k ∉ preds cert i) {st st1 st2 : St} {o1 o2 : List Prop} (h1 : stepC P N T ops ra cert ni k st = some (st1, o1)) (h2 : stepC P N T ops ra cert ni i st1 = some (st2, o2))
    (hJ : ∀ o, ops[i]? = some o → clsX ra i o = 3 → quietE st (o.dst.getD 0) N = true) :
    ∃ st1' st2' o1', stepC P N T ops ra cert ni i st = some (st1', o2) ∧ stepC P N T ops ra cert ni k st1' = some (st2', o1') ∧ Eqv st2' st2 ∧ ((∀ q ∈ o1 ++ o2, q) → ∀ q ∈ o1', q) := by
  unfold okPairC at hok
  rw [Bool.or_eq_true] at hok
  rcases hok with hok | hok
  · obtain ⟨a, b, h3, h4, h5⟩ := stepC_swapD hni hok hne hki h1 h2 hJ
    exact ⟨a, b, o1, h3, h4, h5, fun h q hq => h q (List.mem_append.2 (.inl hq))⟩
  · exact stepC_swapLM hok h1 h2

theorem stepC_eqv {i : Nat} {st st2 st' : St} {obl : List Prop} (hcls : ∀ o, ops[i]? = some o → okCls ra i o = true) (he : Eqv st st2) (h : stepC P N T ops ra cert ni i st = some (st', obl)) : ∃ st2', stepC P N T ops ra cert ni i st2 = some (st2', obl) ∧ Eqv st' st2' := by
  obtain ⟨o, v, s1, ho, hr, hc, hp⟩ := stepC_inv h
  have e1 := opRunX_env hr
  obtain ⟨hp', hr', hph⟩ := opRunX_eqv (hcls o ho) he hr
  obtain ⟨st2', hp2⟩ := putO_some (st2 := ⟨st2.env, hp'⟩) hp
  refine ⟨st2', stepC_mk ho (by rw [bxOk_uses (ops := ops) (st := st) _ (fun t _ => he.env t)]; exact stepC_bx h ho) hr' hc hp2, fun t => ?_, ?_⟩
  · rw [(get_putO hp t).1, (get_putO hp2 t).1]
    split
    · rfl
    · rw [get_env e1]; exact he.env t
  · rw [(get_putO hp 0).2, (get_putO hp2 0).2]
    exact hph

theorem execL_eqv : ∀ {l : List Nat} {st st2 st' : St} {obl : List Prop}, (∀ i ∈ l, ∀ o, ops[i]? = some o → okCls ra i o = true) → Eqv st st2 → execL P N T ops ra cert ni l st = some (st', obl) → ∃ st2', execL P N T ops ra cert ni l st2 = some (st2', obl) ∧ Eqv st' st2'
  | [], st, st2, st', obl, hcls, he, h => by cases h; exact ⟨st2, rfl, he⟩
  | i :: l, st, st2, st', obl, hcls, he, h => by
    simp only [execL] at h
    split at h
    · cases h
    rename_i s1 o1 h1
    split at h
    · cases h
    rename_i s2 o2 h2
    cases h
    obtain ⟨s1', h3, h4⟩ := stepC_eqv (hcls i (by simp)) he h1
    obtain ⟨s2', h5, h6⟩ := execL_eqv (fun j hj => hcls j (by simp [hj])) h4 h2
    exact ⟨s2', by simp only [execL, h3, h5], h6⟩

/-- Operation i is done first. -/
theorem execL_front (hni : NewOk ops ra ni) {i : Nat} {post : List Nat} : ∀ {pre : List Nat} {st F : St} {obl : List Prop}, (∀ k ∈ pre ++ post, ∀ o, ops[k]? = some o → okCls ra k o = true) → (∀ k ∈ pre, okPairC N ops ra cert k i = true ∧ k ≠ i ∧ k ∉ preds cert i ∧ i ∉ preds cert k) →
    (∀ o, ops[i]? = some o → clsX ra i o = 3 → quietE st (o.dst.getD 0) N = true) → execL P N T ops ra cert ni (pre ++ i :: post) st = some (F, obl) →
    ∃ st1 oi F' o', stepC P N T ops ra cert ni i st = some (st1, oi) ∧ execL P N T ops ra cert ni (pre ++ post) st1 = some (F', o') ∧ Eqv F F' ∧ ((∀ q ∈ obl, q) → ∀ q ∈ oi ++ o', q)
  | [], st, F, obl, hcls, hp, hJ, h => by
    simp only [List.nil_append, execL] at h
    split at h
    · cases h
    rename_i s1 o1 h1
    split at h
    · cases h
    rename_i s2 o2 h2
    cases h
    exact ⟨s1, o1, _, o2, h1, h2, Eqv.refl _, fun h q hq => h q hq⟩
  | k :: pre, st, F, obl, hcls, hp, hJ, h => by
    simp only [List.cons_append, execL] at h
    split at h
    · cases h
    rename_i s1 o1 h1
    split at h
    · cases h
    rename_i s2 o2 h2
    cases h
    obtain ⟨hok, hne, hki, hik⟩ := hp k (by simp)
    obtain ⟨a, va, sa, ha, hra, hca, hpa⟩ := stepC_inv h1
    have hJ1 : ∀ o, ops[i]? = some o → clsX ra i o = 3 → quietE s1 (o.dst.getD 0) N = true := fun o ho hc => by
      have ea := opRunX_env hra
      exact quietE_putO (hJ o ho hc) (get_env ea) (chk_spec hca (hni i o ho hc) (Ne.symm hne) hik) hpa
    obtain ⟨t1, oi, F1, o', h3, h4, h5, h6⟩ := execL_front hni (fun j hj => hcls j (List.mem_cons_of_mem _ hj)) (fun k' hk' => hp k' (by simp [hk'])) hJ1 h2
    obtain ⟨t1', t2', o1', h7, h8, h9, h12⟩ := stepC_swap hni hok hne hki h1 h3 hJ
    obtain ⟨F2, h10, h11⟩ := execL_eqv (l := pre ++ post) (fun j hj => hcls j (List.mem_cons_of_mem _ hj)) (st := t1) (st2 := t2') ⟨fun t => (h9.env t).symm, h9.heap.symm⟩ h4
    refine ⟨t1', oi, F2, o1' ++ o', h7, by simp only [List.cons_append, execL, h8, h10], h5.trans h11, fun hall q hq => ?_⟩
    have h6' := h6 fun q hq => hall q (List.mem_append.2 (.inr hq))
    rcases List.mem_append.1 hq with hq | hq
    · exact h6' q (List.mem_append.2 (.inl hq))
    · rcases List.mem_append.1 hq with hq | hq
      · refine h12 (fun q hq => ?_) q hq
        rcases List.mem_append.1 hq with hq | hq
        · exact hall q (List.mem_append.2 (.inl hq))
        · exact h6' q (List.mem_append.2 (.inl hq))
      · exact h6' q (List.mem_append.2 (.inr hq))
end

end Go.Proofs.Ytgedafbejcpioaa
