/-
  TREES OF LEAN VALUES, over whatever program: lists as rows; what the evaluator's debts on rows are paid with.
-/
import Derived.Test.YtnbkjjoodmmneaaAmT
import Derived.KernelRfl
import Derived.IntWalk
namespace Go.Proofs.Ytnbkjjoodmmneaa
open Go.RowKit
set_option linter.unusedSimpArgs false
set_option linter.unusedVariables false

def rowsOf {α : Type} (e : α → List C) (d : α) (l : List α) : Nat → Nat → C := fun i j => (e (l.getD i d)).getD j .junk
def cL {α : Type} (sz : Nat) (e : α → List C) (d : α) (l : List α) : C := .sl sz l.length (rowsOf e d l)
def cI (k : IntKind) (n : Int) : List C := [.lit (.int k n)]
def cB (b : Bool) : List C := [.lit (.bool b)]
def cS (s : ByteArray) : List C := [.lit (.string s)]
def cLs {α : Type} (sz : Nat) (e : α → List C) (d : α) (l : List α) : List C := [cL sz e d l]
def cP {α β : Type} (e : α → List C) (f : β → List C) (p : α × β) : List C := e p.1 ++ f p.2

theorem ext_push {α : Type} {sz : Nat} {e : α → List C} {d : α} (out : List α) (x : α) : Ext sz out.length 1 (rowsOf e d out) (fun i j => (e x).getD (i * sz + j) .junk) (out ++ [x]).length (rowsOf e d (out ++ [x])) := by
  refine ⟨by simp, fun i j hi hj => ?_, fun i j hi hj => ?_⟩
  · simp [rowsOf, List.getD_eq_getElem?_getD, List.getElem?_append_left hi]
  · have : i = 0 := by omega
    subst this
    simp [rowsOf, List.getD_eq_getElem?_getD]

theorem ext_push0 {α : Type} {sz : Nat} {e : α → List C} {d : α} (x : α) : Ext sz 0 1 (fun _ _ => .junk) (fun i j => (e x).getD (i * sz + j) .junk) [x].length (rowsOf e d [x]) := by
  refine ⟨rfl, fun i j hi hj => absurd hi (by omega), fun i j hi hj => ?_⟩
  have : i = 0 := by omega
  subst this
  simp [rowsOf, List.getD_eq_getElem?_getD]

theorem ext_app {α : Type} {sz : Nat} {e : α → List C} {d : α} (out ys : List α) : Ext sz out.length ys.length (rowsOf e d out) (rowsOf e d ys) (out ++ ys).length (rowsOf e d (out ++ ys)) := by
  refine ⟨by simp, fun i j hi hj => ?_, fun i j hi hj => ?_⟩
  · simp [rowsOf, List.getD_eq_getElem?_getD, List.getElem?_append_left hi]
  · simp [rowsOf, List.getD_eq_getElem?_getD, List.getElem?_append_right]

theorem ext_app0 {α : Type} {sz : Nat} {e : α → List C} {d : α} (ys : List α) : Ext sz 0 ys.length (fun _ _ => .junk) (rowsOf e d ys) ys.length (rowsOf e d ys) :=
  ⟨by omega, fun i j hi hj => absurd hi (by omega), fun i j hi hj => by simp⟩

theorem ext_set {α : Type} {sz : Nat} {e : α → List C} {d : α} (out : List α) (k : Nat) (x : α) (hx : (e x).length = sz) : ExtU sz out.length (rowsOf e d out) k 0 (e x) (rowsOf e d (out.set k x)) := by
  intro i j hi hj
  by_cases h : i = k
  · subst h
    rw [if_pos ⟨rfl, by omega, by omega⟩]
    simp [rowsOf, List.getD_eq_getElem?_getD, hi]
  · rw [if_neg (fun hh => h hh.1)]
    simp [rowsOf, List.getD_eq_getElem?_getD, List.getElem?_set_ne (Ne.symm h)]

theorem ext_part {α : Type} {sz : Nat} {e : α → List C} {d : α} (out : List α) (k off : Nat) (x : α) (cs : List C) (hx : e x = splice (e (out.getD k d)) off cs) (hl : off + cs.length ≤ (e (out.getD k d)).length) : ExtU sz out.length (rowsOf e d out) k off cs (rowsOf e d (out.set k x)) := by
  intro i j hi hj
  by_cases h : i = k
  · subst h
    have h1 : rowsOf e d (out.set i x) i j = (e x).getD j .junk := by simp [rowsOf, List.getD_eq_getElem?_getD, hi]
    have h2 := splice_get (e (out.getD i d)) off cs hl j
    rw [h1, hx, List.getD_eq_getElem?_getD, h2]
    by_cases hj2 : off ≤ j ∧ j < off + cs.length
    · rw [if_pos hj2, if_pos ⟨rfl, hj2⟩, List.getD_eq_getElem?_getD]
    · rw [if_neg hj2, if_neg (fun hh => hj2 hh.2)]
      simp [rowsOf, List.getD_eq_getElem?_getD]
  · rw [if_neg (fun hh => h hh.1)]
    simp [rowsOf, List.getD_eq_getElem?_getD, List.getElem?_set_ne (Ne.symm h)]

theorem make_rows {α : Type} {sz : Nat} {e : α → List C} {d z : α} {zs : List C} (hz : e z = zs) (n : Nat) : ∀ i j, i < n → j < sz → rowsOf e d (List.replicate n z) i j = zs.getD j .junk := by
  intro i j hi hj
  subst hz
  simp [rowsOf, List.getD_eq_getElem?_getD, hi]

theorem make_orNil {α : Type} {sz : Nat} {e : α → List C} {d z : α} {zs : List C} (hz : ∀ j, j < sz → orNil (zs.getD j .junk) ((e z).getD j .junk)) (n : Nat) : ∀ i j, i < n → j < sz → orNil (zs.getD j .junk) (rowsOf e d (List.replicate n z) i j) := by
  intro i j hi hj
  have : rowsOf e d (List.replicate n z) i j = (e z).getD j .junk := by simp [rowsOf, List.getD_eq_getElem?_getD, hi]
  rw [this]
  exact hz j hj

theorem piece_drop {α : Type} {sz : Nat} {e : α → List C} {d : α} (l : List α) (k : Nat) : (l.drop k).length = l.length - k ∧ ∀ i j, i < l.length - k → j < sz → rowsOf e d (l.drop k) i j = rowsOf e d l (k + i) j :=
  ⟨by simp, fun i j hi hj => by simp [rowsOf, List.getD_eq_getElem?_getD]⟩

theorem piece_take {α : Type} {sz : Nat} {e : α → List C} {d : α} (l : List α) (h : Int) (hh : 0 ≤ h ∧ h ≤ ((l.length : Nat) : Int)) : (l.take h.toNat).length = h.toNat ∧ ∀ i j, i < h.toNat → j < sz → rowsOf e d (l.take h.toNat) i j = rowsOf e d l i j :=
  ⟨by simp; omega, fun i j hi hj => by simp [rowsOf, List.getD_eq_getElem?_getD, hi]⟩

theorem piece_both {α : Type} {sz : Nat} {e : α → List C} {d : α} (l : List α) (a h : Int) (hh : 0 ≤ a ∧ a ≤ h ∧ h ≤ ((l.length : Nat) : Int)) : ((l.drop a.toNat).take (h.toNat - a.toNat)).length = h.toNat - a.toNat ∧ ∀ i j, i < h.toNat - a.toNat → j < sz → rowsOf e d ((l.drop a.toNat).take (h.toNat - a.toNat)) i j = rowsOf e d l (a.toNat + i) j :=
  ⟨by simp; omega, fun i j hi hj => by simp [rowsOf, List.getD_eq_getElem?_getD, hi]⟩

/-- A walk that needs p. -/
def need {α : Type} (p : Prop) [Decidable p] (k : Option α) : Option α := if p then k else none
theorem need_some {α : Type} {p : Prop} [Decidable p] {k : Option α} {r : α} (h : need p k = some r) : p ∧ k = some r := by
  unfold need at h
  split at h
  · rename_i hp; exact ⟨hp, h⟩
  · cases h
theorem need_pos {α : Type} {p : Prop} [Decidable p] (h : p) (k : Option α) : need p k = k := if_pos h

theorem br_some {α : Type} {b : Bool} {x y : Option α} {r : α} (h : (bif b then x else y) = some r) : (b = true ∧ x = some r) ∨ (b = false ∧ y = some r) := by
  cases b
  · exact .inr ⟨rfl, h⟩
  · exact .inl ⟨rfl, h⟩

theorem ltOf {a : Int} {n : Nat} (h : 0 ≤ a ∧ a < (n : Int)) : a.toNat < n := by omega

theorem rows_flat {α : Type} {sz : Nat} {e : α → List C} {d : α} (he : ∀ x, (e x).length = sz) : ∀ (l : List α) (i j : Nat), i < l.length → j < sz → rowsOf e d l i j = (l.flatMap e).getD (i * sz + j) .junk
  | [], i, j, hi, _ => absurd hi (by simp)
  | x :: l, 0, j, _, hj => by simp [rowsOf, List.getD_eq_getElem?_getD, List.getElem?_append_left, he, hj]
  | x :: l, i + 1, j, hi, hj => by
    have ih := rows_flat (d := d) he l i j (by simpa using hi) hj
    simp only [rowsOf, List.getD_cons_succ] at ih ⊢
    rw [ih]
    simp only [List.flatMap_cons, List.getD_eq_getElem?_getD]
    rw [List.getElem?_append_right (by rw [he, Nat.add_mul]; omega), he]
    congr 2
    rw [Nat.add_mul]
    omega

/-- Of two, by a number. -/
def ix2 {α : Type} (n : Int) (a b : Option α) : Option α := if n = 0 then a else b
theorem ix2_some {α : Type} {n : Int} {a b : Option α} {r : α} (h : 0 ≤ n ∧ n < ((2 : Nat) : Int)) (hf : ix2 n a b = some r) : (n = 0 ∧ a = some r) ∨ (n = 1 ∧ b = some r) := by
  unfold ix2 at hf
  split at hf
  · rename_i e; exact .inl ⟨e, hf⟩
  · exact .inr ⟨by omega, hf⟩

theorem bind_some' {α β : Type} {x : Option α} {f : α → Option β} {r : β} (h : x.bind f = some r) : ∃ y, x = some y ∧ f y = some r := by
  cases x with
  | none => cases h
  | some y => exact ⟨y, rfl, h⟩

def add64 (a b : Int) : Int := IntKind.i64.wrap (a + b)
def sub64 (a b : Int) : Int := IntKind.i64.wrap (a - b)
def mul64 (a b : Int) : Int := IntKind.i64.wrap (a * b)

theorem wrap64_id {a : Int} (h : -9223372036854775808 ≤ a) (h' : a ≤ 9223372036854775807) : IntKind.i64.wrap a = a := IntWalk.i64_in a ⟨h, h'⟩

theorem add64_id {a b : Int} (h : -9223372036854775808 ≤ a + b) (h' : a + b ≤ 9223372036854775807) : add64 a b = a + b := wrap64_id h h'
theorem sub64_id {a b : Int} (h : -9223372036854775808 ≤ a - b) (h' : a - b ≤ 9223372036854775807) : sub64 a b = a - b := wrap64_id h h'
theorem mul64_id {a b : Int} (h : -9223372036854775808 ≤ a * b) (h' : a * b ≤ 9223372036854775807) : mul64 a b = a * b := wrap64_id h h'

/-! ### Views -/
theorem shr_rows {α : Type} {sz : Nat} {e : α → List C} {d : α} (l : List α) (k : Nat) : ∀ i j, i < k → j < sz → rowsOf e d (l.take k) i j = rowsOf e d l i j := by
  intro i j hi _
  simp only [rowsOf, List.getD_eq_getElem?_getD, List.getElem?_take, if_pos hi]
theorem shr_len {α : Type} (l : List α) (k : Nat) (h : k ≤ l.length) : (l.take k).length = k := by simp; omega

def clearL {α : Type} (l : List α) (lo k : Nat) (z : α) : List α := l.take lo ++ List.replicate k z ++ l.drop (lo + k)
theorem clear_len {α : Type} (l : List α) (lo k : Nat) (z : α) (h : lo + k ≤ l.length) : (clearL l lo k z).length = l.length := by simp [clearL]; omega
theorem clear_get {α : Type} (l : List α) (lo k : Nat) (z d : α) (h : lo + k ≤ l.length) (i : Nat) : (clearL l lo k z).getD i d = if lo ≤ i ∧ i < lo + k then z else l.getD i d := by
  simp only [clearL, List.getD_eq_getElem?_getD]
  by_cases h1 : i < lo
  · rw [if_neg (by omega), List.append_assoc, List.getElem?_append_left (by simp; omega), List.getElem?_take, if_pos h1]
  · by_cases h2 : i < lo + k
    · rw [if_pos (by omega), List.getElem?_append_left (by simp; omega), List.getElem?_append_right (by simp; omega), List.getElem?_replicate, if_pos (by simp; omega)]
      rfl
    · rw [if_neg (by omega), List.getElem?_append_right (by simp; omega), List.getElem?_drop]
      congr 2; simp; omega
theorem clear_old {α : Type} {sz : Nat} {e : α → List C} {d z : α} (l : List α) (lo k : Nat) (h : lo + k ≤ l.length) {R : Nat} : ∀ i j, i < R → j < sz → (i < lo ∨ lo + k ≤ i) → rowsOf e d (clearL l lo k z) i j = rowsOf e d l i j := by
  intro i j _ _ hi
  simp only [rowsOf, clear_get l lo k z d h]
  rw [if_neg (by omega)]
theorem clear_new {α : Type} {sz : Nat} {e : α → List C} {d z : α} {zs : List C} (l : List α) (lo k : Nat) (h : lo + k ≤ l.length) (hz : ∀ j, j < sz → orNil (zs.getD j .junk) ((e z).getD j .junk)) : ∀ i j, i < k → j < sz → orNil (zs.getD j .junk) (rowsOf e d (clearL l lo k z) (lo + i) j) := by
  intro i j hi hj
  simp only [rowsOf, clear_get l lo k z d h]
  rw [if_pos (by omega)]
  exact hz j hj

def appL {α : Type} (l : List α) (i j k : Nat) : List α := l.take i ++ (l.drop j).take k ++ l.drop (i + k)
theorem app_len {α : Type} (l : List α) (i j k : Nat) (h : j + k ≤ l.length ∧ i + k ≤ l.length) : (appL l i j k).length = l.length := by simp [appL]; omega
theorem app_get {α : Type} (l : List α) (i j k : Nat) (d : α) (h : j + k ≤ l.length ∧ i + k ≤ l.length) (p : Nat) : (appL l i j k).getD p d = if i ≤ p ∧ p < i + k then l.getD (j + (p - i)) d else l.getD p d := by
  simp only [appL, List.getD_eq_getElem?_getD]
  by_cases h1 : p < i
  · rw [if_neg (by omega), List.append_assoc, List.getElem?_append_left (by simp; omega), List.getElem?_take, if_pos h1]
  · by_cases h2 : p < i + k
    · rw [if_pos (by omega), List.getElem?_append_left (by simp; omega), List.getElem?_append_right (by simp; omega), List.getElem?_take, if_pos (by simp; omega), List.getElem?_drop]
      congr 3; simp; omega
    · rw [if_neg (by omega), List.getElem?_append_right (by simp; omega), List.getElem?_drop]
      congr 2; simp; omega
theorem app_old {α : Type} {sz : Nat} {e : α → List C} {d : α} (l : List α) (i j k : Nat) (h : j + k ≤ l.length ∧ i + k ≤ l.length) {R : Nat} : ∀ p q, p < R → q < sz → (p < i ∨ i + k ≤ p) → rowsOf e d (appL l i j k) p q = rowsOf e d l p q := by
  intro p q _ _ hp
  simp only [rowsOf, app_get l i j k d h]
  rw [if_neg (by omega)]
theorem app_new {α : Type} {sz : Nat} {e : α → List C} {d : α} (l : List α) (i j k : Nat) (h : j + k ≤ l.length ∧ i + k ≤ l.length) : ∀ p q, p < k → q < sz → rowsOf e d (appL l i j k) (i + p) q = rowsOf e d l (j + p) q := by
  intro p q hp _
  simp only [rowsOf, app_get l i j k d h]
  rw [if_pos (by omega), show j + (i + p - i) = j + p by omega]

end Go.Proofs.Ytnbkjjoodmmneaa
