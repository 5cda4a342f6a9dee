/-
  Contracts of library functions, by the shelf.
-/
import Derived.Test.YtgedafbejcpioaaAmU
import Derived.Lib.LazyBuf
namespace Go.Proofs.Ytgedafbejcpioaa
open Go.RowKit
set_option linter.unusedSimpArgs false
set_option linter.unusedVariables false

/-- slices.Clone: a row of its own: by what it gives of nil, of a slice of none that is not nil, and of one that has some. -/
theorem clone_parts {P : Program} {f : FuncId} {sz n : Nat} {c : Nat → Nat → C} {h1 : List (Nat × B)} {res : V} (hf : FnOk P f)
    (hnil : n = 0 → ∀ cap, HCall P f [] [.one (.lit (.slice none 0 cap))] h1 res) (hemp : n = 0 → ∀ x cap, HCall P f [] [.one (.lit (.slice (some x) 0 cap))] h1 res) (hsome : 0 < n → HCall P f [] [.one (.sl sz n c)] h1 res) :
    HCall P f [] [.one (.sl sz n c)] h1 res := by
  rcases Nat.eq_zero_or_pos n with h0 | h0
  · refine ⟨hf, fun no S m w vs hS hno hrep hra => ?_⟩
    obtain ⟨hl, hra⟩ := hra
    obtain ⟨v, hv, hr⟩ := hra 0 _ rfl
    have hvs : vs = [v] := by
      match vs, hl with
      | [y], _ => simpa using hv
    subst hvs
    cases hr with
    | sl b off vals hcap ha hc h1' hr =>
      rename_i a cap
      subst h0
      cases a with
      | some x0 => exact (hemp rfl x0 cap).2 no S m w _ hS hno hrep ⟨rfl, fun j v hj => by
          match j, hj with
          | 0, hj => cases hj; exact ⟨_, rfl, RepC.lit⟩⟩
      | none => exact (hnil rfl cap).2 no S m w _ hS hno hrep ⟨rfl, fun j v hj => by
          match j, hj with
          | 0, hj => cases hj; exact ⟨_, rfl, RepC.lit⟩⟩
  · exact hsome h0

/-! ### nil slices that are handed on as such -/
inductive WkC : C → C → Prop
  | refl (c : C) : WkC c c
  | nul (sz : Nat) (cell : Nat → Nat → C) : WkC (.sl sz 0 cell) (.lit (.slice none 0 0))
inductive WkL : List C → List C → Prop
  | nil : WkL [] []
  | cons {c c' : C} {l l' : List C} : WkC c c' → WkL l l' → WkL (c :: l) (c' :: l')
inductive WkV : V → V → Prop
  | refl (v : V) : WkV v v
  | one {c c' : C} : WkC c c' → WkV (.one c) (.one c')
  | agg {l l' : List C} : WkL l l' → WkV (.agg l) (.agg l')
inductive WkA : List V → List V → Prop
  | nil : WkA [] []
  | cons {v v' : V} {l l' : List V} : WkV v v' → WkA l l' → WkA (v :: l) (v' :: l')

theorem WkC.rep {c c' : C} (h : WkC c c') {S : Nat → Prop} {w : World} {m : Mp} {x : Value} (hx : RepC S w m c' x) : RepC S w m c x := by
  cases h with
  | refl => exact hx
  | nul sz cell =>
    cases hx
    exact .sl 0 0 (fun _ _ => undef) (Nat.le_refl _) (fun h => absurd h (by simp)) (fun i j h => absurd h (by simp)) (fun i j h => absurd h (by simp)) (fun i j h => absurd h (by simp))

theorem WkL.len {l l' : List C} (h : WkL l l') : l.length = l'.length := by
  induction h with
  | nil => rfl
  | cons _ _ ih => simp [ih]

theorem WkL.get {l l' : List C} (h : WkL l l') : ∀ (j : Nat) (c : C), l[j]? = some c → ∃ c', l'[j]? = some c' ∧ WkC c c' := by
  induction h with
  | nil => intro j c h; simp at h
  | cons hc _ ih =>
    intro j c h
    cases j with
    | zero => cases h; exact ⟨_, rfl, hc⟩
    | succ j => simpa using ih j c (by simpa using h)

theorem WkV.rep {v v' : V} (h : WkV v v') {S : Nat → Prop} {w : World} {m : Mp} {x : Value} (hx : RepV S w m v' x) : RepV S w m v x := by
  cases h with
  | refl => exact hx
  | one hc => exact hc.rep (show RepC S w m _ x from hx)
  | agg hl =>
    obtain ⟨xs, rfl, h1, h2, h3⟩ := hx
    refine ⟨xs, rfl, by rw [h1, hl.len], fun j c hc => ?_, h3⟩
    obtain ⟨c', hc', hw⟩ := hl.get j c hc
    obtain ⟨y, hy, hr⟩ := h2 j c' hc'
    exact ⟨y, hy, hw.rep hr⟩

theorem WkA.len {l l' : List V} (h : WkA l l') : l.length = l'.length := by
  induction h with
  | nil => rfl
  | cons _ _ ih => simp [ih]

theorem WkA.get {l l' : List V} (h : WkA l l') : ∀ (j : Nat) (c : V), l[j]? = some c → ∃ c', l'[j]? = some c' ∧ WkV c c' := by
  induction h with
  | nil => intro j c h; simp at h
  | cons hc _ ih =>
    intro j c h
    cases j with
    | zero => cases h; exact ⟨_, rfl, hc⟩
    | succ j => simpa using ih j c (by simpa using h)

theorem SCall.weak {P : Program} {f : FuncId} {args args' : List V} {res : V} (h : SCall P f args res) (hw : WkA args args') : SCall P f args' res :=
  ⟨h.1, fun S w vs hS hr => h.2 S w vs hS ⟨by rw [hr.1, hw.len], fun j v hj => by
    obtain ⟨v', h1, h2⟩ := hw.get j v hj
    obtain ⟨x, h3, h4⟩ := hr.2 j v' h1
    exact ⟨x, h3, h2.rep h4⟩⟩⟩

theorem HCall.weak {P : Program} {f : FuncId} {h0 h1 : List (Nat × B)} {args args' : List V} {res : V} (h : HCall P f h0 args h1 res) (hw : WkA args args') : HCall P f h0 args' h1 res :=
  ⟨h.1, fun no S m w vs hS hno hrep hr => h.2 no S m w vs hS hno hrep ⟨by rw [hr.1, hw.len], fun j v hj => by
    obtain ⟨v', h1, h2⟩ := hw.get j v hj
    obtain ⟨x, h3, h4⟩ := hr.2 j v' h1
    exact ⟨x, h3, h2.rep h4⟩⟩⟩

end Go.Proofs.Ytgedafbejcpioaa
