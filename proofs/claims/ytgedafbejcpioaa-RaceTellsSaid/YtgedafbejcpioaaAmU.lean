/-
  TREES OF LEAN VALUES, over whatever program: lists as rows; what the evaluator's debts on rows are paid with.
-/
import Derived.Test.YtgedafbejcpioaaAmT
import Derived.KernelRfl
import Derived.IntWalk
namespace Go.Proofs.Ytgedafbejcpioaa
open Go.RowKit
set_option linter.unusedSimpArgs false
set_option linter.unusedVariables false

def rowsOf {α : Type} (e : α → List C) (d : α) (l : List α) : Nat → Nat → C := fun i j => (e (l.getD i d)).getD j .junk
def cL {α : Type} (sz : Nat) (e : α → List C) (d : α) (l : List α) : C := .sl sz l.length (rowsOf e d l)
def cLn {α : Type} (sz : Nat) (e : α → List C) (d : α) (l : List α) : C := .lsl sz l.length (rowsOf e d l)
def cI (k : IntKind) (n : Int) : List C := [.lit (.int k n)]
def cB (b : Bool) : List C := [.lit (.bool b)]
def cS (s : ByteArray) : List C := [.lit (.string s)]
def cLs {α : Type} (sz : Nat) (e : α → List C) (d : α) (l : List α) : List C := [cL sz e d l]
def cP {α β : Type} (e : α → List C) (f : β → List C) (p : α × β) : List C := e p.1 ++ f p.2

theorem ext_push {α : Type} {sz : Nat} {e : α → List C} {d : α} (out : List α) (x : α) : Ext sz out.length 1 (rowsOf e d out) (fun i j => (e x).getD (i * sz + j) .junk) (out ++ [x]).length (rowsOf e d (out ++ [x])) := by
  refine ⟨by simp, fun i j hi hj => ?_, fun i j hi hj => ?_⟩
  · simp [rowsOf, List.getD_eq_getElem?_getD, List.getElem?_append_left hi]
  · have : i = 0 := by omega
    subst this
    simp [rowsOf, List.getD_eq_getElem?_getD]

theorem ext_push0 {α : Type} {sz : Nat} {e : α → List C} {d : α} (x : α) : Ext sz 0 1 (fun _ _ => .junk) (fun i j => (e x).getD (i * sz + j) .junk) [x].length (rowsOf e d [x]) := by
  refine ⟨rfl, fun i j hi hj => absurd hi (by omega), fun i j hi hj => ?_⟩
  have : i = 0 := by omega
  subst this
  simp [rowsOf, List.getD_eq_getElem?_getD]

theorem ext_app {α : Type} {sz : Nat} {e : α → List C} {d : α} (out ys : List α) : Ext sz out.length ys.length (rowsOf e d out) (rowsOf e d ys) (out ++ ys).length (rowsOf e d (out ++ ys)) := by
  refine ⟨by simp, fun i j hi hj => ?_, fun i j hi hj => ?_⟩
  · simp [rowsOf, List.getD_eq_getElem?_getD, List.getElem?_append_left hi]
  · simp [rowsOf, List.getD_eq_getElem?_getD, List.getElem?_append_right]

theorem ext_app0 {α : Type} {sz : Nat} {e : α → List C} {d : α} (ys : List α) : Ext sz 0 ys.length (fun _ _ => .junk) (rowsOf e d ys) ys.length (rowsOf e d ys) :=
  ⟨by omega, fun i j hi hj => absurd hi (by omega), fun i j hi hj => by simp⟩

theorem ext_set {α : Type} {sz : Nat} {e : α → List C} {d : α} (out : List α) (k : Nat) (x : α) (hx : (e x).length = sz) : ExtU sz out.length (rowsOf e d out) k 0 (e x) (rowsOf e d (out.set k x)) := by
  intro i j hi hj
  by_cases h : i = k
  · subst h
    rw [if_pos ⟨rfl, by omega, by omega⟩]
    simp [rowsOf, List.getD_eq_getElem?_getD, hi]
  · rw [if_neg (fun hh => h hh.1)]
    simp [rowsOf, List.getD_eq_getElem?_getD, List.getElem?_set_ne (Ne.symm h)]

theorem ext_part {α : Type} {sz : Nat} {e : α → List C} {d : α} (out : List α) (k off : Nat) (x : α) (cs : List C) (hx : e x = splice (e (out.getD k d)) off cs) (hl : off + cs.length ≤ (e (out.getD k d)).length) : ExtU sz out.length (rowsOf e d out) k off cs (rowsOf e d (out.set k x)) := by
  intro i j hi hj
  by_cases h : i = k
  · subst h
    have h1 : rowsOf e d (out.set i x) i j = (e x).getD j .junk := by simp [rowsOf, List.getD_eq_getElem?_getD, hi]
    have h2 := splice_get (e (out.getD i d)) off cs hl j
    rw [h1, hx, List.getD_eq_getElem?_getD, h2]
    by_cases hj2 : off ≤ j ∧ j < off + cs.length
    · rw [if_pos hj2, if_pos ⟨rfl, hj2⟩, List.getD_eq_getElem?_getD]
    · rw [if_neg hj2, if_neg (fun hh => hj2 hh.2)]
      simp [rowsOf, List.getD_eq_getElem?_getD]
  · rw [if_neg (fun hh => h hh.1)]
    simp [rowsOf, List.getD_eq_getElem?_getD, List.getElem?_set_ne (Ne.symm h)]

theorem make_rows {α : Type} {sz : Nat} {e : α → List C} {d z : α} {zs : List C} (hz : e z = zs) (n : Nat) : ∀ i j, i < n → j < sz → rowsOf e d (List.replicate n z) i j = zs.getD j .junk := by
  intro i j hi hj
  subst hz
  simp [rowsOf, List.getD_eq_getElem?_getD, hi]

theorem make_orNil {α : Type} {sz : Nat} {e : α → List C} {d z : α} {zs : List C} (hz : ∀ j, j < sz → orNil (zs.getD j .junk) ((e z).getD j .junk)) (n : Nat) : ∀ i j, i < n → j < sz → orNil (zs.getD j .junk) (rowsOf e d (List.replicate n z) i j) := by
  intro i j hi hj
  have : rowsOf e d (List.replicate n z) i j = (e z).getD j .junk := by simp [rowsOf, List.getD_eq_getElem?_getD, hi]
  rw [this]
  exact hz j hj

theorem piece_drop {α : Type} {sz : Nat} {e : α → List C} {d : α} (l : List α) (k : Nat) : (l.drop k).length = l.length - k ∧ ∀ i j, i < l.length - k → j < sz → rowsOf e d (l.drop k) i j = rowsOf e d l (k + i) j :=
  ⟨by simp, fun i j hi hj => by simp [rowsOf, List.getD_eq_getElem?_getD]⟩

theorem piece_take {α : Type} {sz : Nat} {e : α → List C} {d : α} (l : List α) (h : Int) (hh : 0 ≤ h ∧ h ≤ ((l.length : Nat) : Int)) : (l.take h.toNat).length = h.toNat ∧ ∀ i j, i < h.toNat → j < sz → rowsOf e d (l.take h.toNat) i j = rowsOf e d l i j :=
  ⟨by simp; omega, fun i j hi hj => by simp [rowsOf, List.getD_eq_getElem?_getD, hi]⟩

theorem piece_both {α : Type} {sz : Nat} {e : α → List C} {d : α} (l : List α) (a h : Int) (hh : 0 ≤ a ∧ a ≤ h ∧ h ≤ ((l.length : Nat) : Int)) : ((l.drop a.toNat).take (h.toNat - a.toNat)).length = h.toNat - a.toNat ∧ ∀ i j, i < h.toNat - a.toNat → j < sz → rowsOf e d ((l.drop a.toNat).take (h.toNat - a.toNat)) i j = rowsOf e d l (a.toNat + i) j :=
  ⟨by simp; omega, fun i j hi hj => by simp [rowsOf, List.getD_eq_getElem?_getD, hi]⟩

/-- A walk that needs p. -/
def need {α : Type} (p : Prop) [Decidable p] (k : Option α) : Option α := if p then k else none
theorem need_some {α : Type} {p : Prop} [Decidable p] {k : Option α} {r : α} (h : need p k = some r) : p ∧ k = some r := by
  unfold need at h
  split at h
  · rename_i hp; exact ⟨hp, h⟩
  · cases h
theorem need_pos {α : Type} {p : Prop} [Decidable p] (h : p) (k : Option α) : need p k = k := if_pos h

theorem br_some {α : Type} {b : Bool} {x y : Option α} {r : α} (h : (bif b then x else y) = some r) : (b = true ∧ x = some r) ∨ (b = false ∧ y = some r) := by
  cases b
  · exact .inr ⟨rfl, h⟩
  · exact .inl ⟨rfl, h⟩

theorem ltOf {a : Int} {n : Nat} (h : 0 ≤ a ∧ a < (n : Int)) : a.toNat < n := by omega

theorem rows_flat {α : Type} {sz : Nat} {e : α → List C} {d : α} (he : ∀ x, (e x).length = sz) : ∀ (l : List α) (i j : Nat), i < l.length → j < sz → rowsOf e d l i j = (l.flatMap e).getD (i * sz + j) .junk
  | [], i, j, hi, _ => absurd hi (by simp)
  | x :: l, 0, j, _, hj => by simp [rowsOf, List.getD_eq_getElem?_getD, List.getElem?_append_left, he, hj]
  | x :: l, i + 1, j, hi, hj => by
    have ih := rows_flat (d := d) he l i j (by simpa using hi) hj
    simp only [rowsOf, List.getD_cons_succ] at ih ⊢
    rw [ih]
    simp only [List.flatMap_cons, List.getD_eq_getElem?_getD]
    rw [List.getElem?_append_right (by rw [he, Nat.add_mul]; omega), he]
    congr 2
    rw [Nat.add_mul]
    omega

/-- Of two, by a number. -/
def ix2 {α : Type} (n : Int) (a b : Option α) : Option α := if n = 0 then a else b
theorem ix2_some {α : Type} {n : Int} {a b : Option α} {r : α} (h : 0 ≤ n ∧ n < ((2 : Nat) : Int)) (hf : ix2 n a b = some r) : (n = 0 ∧ a = some r) ∨ (n = 1 ∧ b = some r) := by
  unfold ix2 at hf
  split at hf
  · rename_i e; exact .inl ⟨e, hf⟩
  · exact .inr ⟨by omega, hf⟩

/-- The rows of an array. -/
theorem arr_rows {α : Type} {sz : Nat} (e : α → List C) (d : α) (L : List α) (l : List C) (hs : ∀ x, (e x).length = sz) (hl : l = L.flatMap e) : ∀ i j, i < L.length → j < sz → rowsOf e d L i j = l.getD (0 + (i * sz + j)) .junk := by
  subst hl
  induction L with
  | nil => intro i j hi; simp at hi
  | cons x L ih =>
    intro i j hi hj
    have hx := hs x
    cases i with
    | zero =>
      simp only [rowsOf, List.flatMap_cons, List.getD_cons_zero, Nat.zero_mul, Nat.zero_add]
      simp only [List.getD_eq_getElem?_getD]
      rw [List.getElem?_append_left (by omega)]
    | succ i =>
      have h := ih i j (by simpa using hi) hj
      simp only [rowsOf, List.flatMap_cons, List.getD_cons_succ, Nat.zero_add] at h ⊢
      rw [h]
      simp only [List.getD_eq_getElem?_getD]
      rw [List.getElem?_append_right (by rw [hx, Nat.add_mul, Nat.one_mul]; omega), hx]
      congr 2
      rw [Nat.add_mul, Nat.one_mul]
      omega

def ix1 {α : Type} (n k : Int) (a b : Option α) : Option α := if n = k then a else b
theorem ix1_some {α : Type} {n k : Int} {a b : Option α} {r : α} (hf : ix1 n k a b = some r) : (n = k ∧ a = some r) ∨ (n ≠ k ∧ b = some r) := by
  unfold ix1 at hf
  split at hf
  · rename_i e; exact .inl ⟨e, hf⟩
  · rename_i e; exact .inr ⟨e, hf⟩

theorem bind_some' {α β : Type} {x : Option α} {f : α → Option β} {r : β} (h : x.bind f = some r) : ∃ y, x = some y ∧ f y = some r := by
  cases x with
  | none => cases h
  | some y => exact ⟨y, rfl, h⟩

def add64 (a b : Int) : Int := IntKind.i64.wrap (a + b)
def sub64 (a b : Int) : Int := IntKind.i64.wrap (a - b)
def mul64 (a b : Int) : Int := IntKind.i64.wrap (a * b)

theorem wrap64_id {a : Int} (h : -9223372036854775808 ≤ a) (h' : a ≤ 9223372036854775807) : IntKind.i64.wrap a = a := IntWalk.i64_in a ⟨h, h'⟩

theorem add64_id {a b : Int} (h : -9223372036854775808 ≤ a + b) (h' : a + b ≤ 9223372036854775807) : add64 a b = a + b := wrap64_id h h'
theorem sub64_id {a b : Int} (h : -9223372036854775808 ≤ a - b) (h' : a - b ≤ 9223372036854775807) : sub64 a b = a - b := wrap64_id h h'
theorem mul64_id {a b : Int} (h : -9223372036854775808 ≤ a * b) (h' : a * b ≤ 9223372036854775807) : mul64 a b = a * b := wrap64_id h h'

/-! ### Views -/
theorem shr_rows {α : Type} {sz : Nat} {e : α → List C} {d : α} (l : List α) (k : Nat) : ∀ i j, i < k → j < sz → rowsOf e d (l.take k) i j = rowsOf e d l i j := by
  intro i j hi _
  simp only [rowsOf, List.getD_eq_getElem?_getD, List.getElem?_take, if_pos hi]
theorem shr_len {α : Type} (l : List α) (k : Nat) (h : k ≤ l.length) : (l.take k).length = k := by simp; omega

def clearL {α : Type} (l : List α) (lo k : Nat) (z : α) : List α := l.take lo ++ List.replicate k z ++ l.drop (lo + k)
theorem clear_len {α : Type} (l : List α) (lo k : Nat) (z : α) (h : lo + k ≤ l.length) : (clearL l lo k z).length = l.length := by simp [clearL]; omega
theorem clear_get {α : Type} (l : List α) (lo k : Nat) (z d : α) (h : lo + k ≤ l.length) (i : Nat) : (clearL l lo k z).getD i d = if lo ≤ i ∧ i < lo + k then z else l.getD i d := by
  simp only [clearL, List.getD_eq_getElem?_getD]
  by_cases h1 : i < lo
  · rw [if_neg (by omega), List.append_assoc, List.getElem?_append_left (by simp; omega), List.getElem?_take, if_pos h1]
  · by_cases h2 : i < lo + k
    · rw [if_pos (by omega), List.getElem?_append_left (by simp; omega), List.getElem?_append_right (by simp; omega), List.getElem?_replicate, if_pos (by simp; omega)]
      rfl
    · rw [if_neg (by omega), List.getElem?_append_right (by simp; omega), List.getElem?_drop]
      congr 2; simp; omega
theorem clear_old {α : Type} {sz : Nat} {e : α → List C} {d z : α} (l : List α) (lo k : Nat) (h : lo + k ≤ l.length) {R : Nat} : ∀ i j, i < R → j < sz → (i < lo ∨ lo + k ≤ i) → rowsOf e d (clearL l lo k z) i j = rowsOf e d l i j := by
  intro i j _ _ hi
  simp only [rowsOf, clear_get l lo k z d h]
  rw [if_neg (by omega)]
theorem clear_new {α : Type} {sz : Nat} {e : α → List C} {d z : α} {zs : List C} (l : List α) (lo k : Nat) (h : lo + k ≤ l.length) (hz : ∀ j, j < sz → orNil (zs.getD j .junk) ((e z).getD j .junk)) : ∀ i j, i < k → j < sz → orNil (zs.getD j .junk) (rowsOf e d (clearL l lo k z) (lo + i) j) := by
  intro i j hi hj
  simp only [rowsOf, clear_get l lo k z d h]
  rw [if_pos (by omega)]
  exact hz j hj

def appL {α : Type} (l : List α) (i j k : Nat) : List α := l.take i ++ (l.drop j).take k ++ l.drop (i + k)
theorem app_len {α : Type} (l : List α) (i j k : Nat) (h : j + k ≤ l.length ∧ i + k ≤ l.length) : (appL l i j k).length = l.length := by simp [appL]; omega
theorem app_get {α : Type} (l : List α) (i j k : Nat) (d : α) (h : j + k ≤ l.length ∧ i + k ≤ l.length) (p : Nat) : (appL l i j k).getD p d = if i ≤ p ∧ p < i + k then l.getD (j + (p - i)) d else l.getD p d := by
  simp only [appL, List.getD_eq_getElem?_getD]
  by_cases h1 : p < i
  · rw [if_neg (by omega), List.append_assoc, List.getElem?_append_left (by simp; omega), List.getElem?_take, if_pos h1]
  · by_cases h2 : p < i + k
    · rw [if_pos (by omega), List.getElem?_append_left (by simp; omega), List.getElem?_append_right (by simp; omega), List.getElem?_take, if_pos (by simp; omega), List.getElem?_drop]
      congr 3; simp; omega
    · rw [if_neg (by omega), List.getElem?_append_right (by simp; omega), List.getElem?_drop]
      congr 2; simp; omega
theorem app_old {α : Type} {sz : Nat} {e : α → List C} {d : α} (l : List α) (i j k : Nat) (h : j + k ≤ l.length ∧ i + k ≤ l.length) {R : Nat} : ∀ p q, p < R → q < sz → (p < i ∨ i + k ≤ p) → rowsOf e d (appL l i j k) p q = rowsOf e d l p q := by
  intro p q _ _ hp
  simp only [rowsOf, app_get l i j k d h]
  rw [if_neg (by omega)]
theorem app_new {α : Type} {sz : Nat} {e : α → List C} {d : α} (l : List α) (i j k : Nat) (h : j + k ≤ l.length ∧ i + k ≤ l.length) : ∀ p q, p < k → q < sz → rowsOf e d (appL l i j k) (i + p) q = rowsOf e d l (j + p) q := by
  intro p q hp _
  simp only [rowsOf, app_get l i j k d h]
  rw [if_pos (by omega), show j + (i + p - i) = j + p by omega]

/-! ### Maps -/
def mget {κ ν : Type} [DecidableEq κ] (l : List (κ × ν)) (k : κ) (z : ν) : ν := match l with
  | [] => z
  | p :: r => if p.1 = k then p.2 else mget r k z
def mput {κ ν : Type} [DecidableEq κ] (l : List (κ × ν)) (k : κ) (v : ν) : List (κ × ν) := match l with
  | [] => [(k, v)]
  | p :: r => if p.1 = k then (k, v) :: r else p :: mput r k v
def mdel {κ ν : Type} [DecidableEq κ] (l : List (κ × ν)) (k : κ) : List (κ × ν) := match l with
  | [] => []
  | p :: r => if p.1 = k then r else p :: mdel r k
def encM {κ ν : Type} (kv : κ → Value) (vv : ν → V) (l : List (κ × ν)) : List (Value × V) := l.map fun p => (kv p.1, vv p.2)

theorem look_ok {κ ν : Type} [DecidableEq κ] {kv : κ → Value} {vv : ν → V} (hi : ∀ a b, kv a = kv b → a = b) {zv : Value} {z : ν} (hz : ∀ S w m, RepV S w m (vv z) zv) (k : κ) : ∀ l : List (κ × ν), MLook (encM kv vv l) (kv k) zv (vv (mget l k z))
  | [] => .inr ⟨by simp [encM], hz⟩
  | p :: r => by
    unfold mget
    by_cases h : p.1 = k
    · rw [if_pos h]
      exact .inl ⟨(kv p.1, vv p.2), by simp [encM], by rw [h], fun _ _ _ _ h => h⟩
    · rw [if_neg h]
      rcases look_ok hi hz k r with ⟨q, h1, h2, h3⟩ | ⟨h1, h2⟩
      · exact .inl ⟨q, by simp only [encM, List.map_cons, List.mem_cons]; exact .inr h1, h2, h3⟩
      · refine .inr ⟨fun q hq => ?_, h2⟩
        simp only [encM, List.map_cons, List.mem_cons] at hq
        rcases hq with rfl | hq
        · exact fun e => h (hi _ _ e)
        · exact h1 q hq

theorem put_ok {κ ν : Type} [DecidableEq κ] {kv : κ → Value} {vv : ν → V} (hi : ∀ a b, kv a = kv b → a = b) (k : κ) (v : ν) : ∀ l : List (κ × ν), MPut (encM kv vv l) (kv k) (vv v) (encM kv vv (mput l k v))
  | [] => .inr ⟨by simp [encM], rfl⟩
  | p :: r => by
    unfold mput
    by_cases h : p.1 = k
    · rw [if_pos h]
      exact .inl ⟨0, by simp [encM, h], by simp [encM]⟩
    · rw [if_neg h]
      rcases put_ok (vv := vv) hi k v r with ⟨j, h1, h2⟩ | ⟨h1, h2⟩
      · refine .inl ⟨j + 1, by simpa [encM] using h1, ?_⟩
        simp only [encM, List.map_cons, List.set_cons_succ] at h2 ⊢
        rw [← h2]
      · refine .inr ⟨fun q hq => ?_, ?_⟩
        · simp only [encM, List.map_cons, List.mem_cons] at hq
          rcases hq with rfl | hq
          · exact fun e => h (hi _ _ e)
          · exact h1 q hq
        · simp only [encM, List.map_cons, List.cons_append] at h2 ⊢
          rw [← h2]

theorem del_ok {κ ν : Type} [DecidableEq κ] {kv : κ → Value} {vv : ν → V} (hi : ∀ a b, kv a = kv b → a = b) (k : κ) : ∀ l : List (κ × ν), MDel (encM kv vv l) (kv k) (encM kv vv (mdel l k))
  | [] => .inr ⟨by simp [encM], rfl⟩
  | p :: r => by
    unfold mdel
    by_cases h : p.1 = k
    · rw [if_pos h]
      exact .inl ⟨0, by simp [encM, h], by simp [encM]⟩
    · rw [if_neg h]
      rcases del_ok (vv := vv) hi k r with ⟨j, h1, h2⟩ | ⟨h1, h2⟩
      · refine .inl ⟨j + 1, by simpa [encM] using h1, ?_⟩
        simp only [encM, List.map_cons, List.eraseIdx_cons_succ] at h2 ⊢
        rw [← h2]
      · refine .inr ⟨fun q hq => ?_, ?_⟩
        · simp only [encM, List.map_cons, List.mem_cons] at hq
          rcases hq with rfl | hq
          · exact fun e => h (hi _ _ e)
          · exact h1 q hq
        · simp only [encM, List.map_cons] at h2 ⊢
          rw [← h2]

def mpad {κ ν : Type} [DecidableEq κ] (l : List (κ × ν)) (k : κ) (z : ν) : List (κ × ν) := match l with
  | [] => [(k, z)]
  | p :: r => if p.1 = k then p :: r else p :: mpad r k z
def midx {κ ν : Type} [DecidableEq κ] (l : List (κ × ν)) (k : κ) : Nat := match l with
  | [] => 0
  | p :: r => if p.1 = k then 0 else midx r k + 1

theorem one_lit (z : Value) : ∀ S w m x, RepV S w m (.one (.lit z)) x → x = z := fun S w m x h => by
  cases (show RepC S w m (.lit z) x from h)
  rfl

theorem ent_ok {κ ν : Type} [DecidableEq κ] {kv : κ → Value} {vv : ν → V} (hi : ∀ a b, kv a = kv b → a = b) {zv : Value} {z : ν} (hz : ∀ S w m, RepV S w m (vv z) zv) (hz2 : ∀ S w m x, RepV S w m (vv z) x → x = zv) (k : κ) : ∀ l : List (κ × ν), MEnt (encM kv vv l) (kv k) zv ((midx l k : Nat) : Int) (encM kv vv (mpad l k z))
  | [] => .inr ⟨by simp [encM], rfl, vv z, hz, hz2, rfl⟩
  | p :: r => by
    unfold mpad midx
    split
    · rename_i h
      exact .inl ⟨0, by simp [encM, h], rfl, rfl⟩
    · rename_i h
      rcases ent_ok hi hz hz2 k r with ⟨j, h1, h2, h3⟩ | ⟨h1, h2, v, h3, h5, h4⟩
      · exact .inl ⟨j + 1, by simpa [encM] using h1, by omega, by simp only [encM, List.map_cons] at h3 ⊢; rw [h3]⟩
      · refine .inr ⟨fun q hq => ?_, by simp only [encM, List.map_cons, List.length_cons, List.length_map] at h2 ⊢; omega, v, h3, h5, by simp only [encM, List.map_cons, List.cons_append] at h4 ⊢; rw [h4]⟩
        simp only [encM, List.map_cons, List.mem_cons] at hq
        rcases hq with rfl | hq
        · exact fun e => h (hi _ _ e)
        · exact h1 q hq

theorem est_ok {κ ν : Type} [DecidableEq κ] {kv : κ → Value} {vv : ν → V} (k : κ) (z v : ν) : ∀ l : List (κ × ν), MSt (encM kv vv (mpad l k z)) ((midx l k : Nat) : Int) (vv v) (encM kv vv (mput l k v))
  | [] => ⟨0, rfl, (kv k, vv z), rfl, rfl⟩
  | p :: r => by
    unfold mpad midx mput
    split
    · rename_i h
      exact ⟨0, rfl, (kv p.1, vv p.2), rfl, by simp [encM, h]⟩
    · rename_i h
      obtain ⟨i, h1, q, h2, h3⟩ := est_ok (kv := kv) (vv := vv) k z v r
      exact ⟨i + 1, by omega, q, by simpa [encM] using h2, by simp only [encM, List.map_cons, List.set_cons_succ] at h3 ⊢; rw [h3]⟩

theorem encM_keys {κ ν : Type} {kv : κ → Value} {vv : ν → V} {l : List (κ × ν)} {k' : Value} (h : k' ∈ (encM kv vv l).map (·.1)) : ∃ a, k' = kv a := by
  simp only [encM, List.map_map, List.mem_map] at h
  obtain ⟨p, _, rfl⟩ := h
  exact ⟨p.1, rfl⟩

theorem keyOk_int {P : Program} {kt : TypeId} {ν : Type} {vv : ν → V} (hu : P.underlying kt = some (.int .i64)) (k : Int) (l : List (Int × ν)) : KeyOk P kt (.int .i64 k) ((encM (fun k => .int .i64 k) vv l).map (·.1)) := by
  refine ⟨fun e w => ?_, ⟨_, hu, fun k' hk => ?_⟩, fun k' hk w => ?_, by simp [Instr.sameBits]⟩
  · have : ∀ n, (Instr.checkKey e (n + 1) kt (.int .i64 k)).run P w = .ok () w := fun n => by simp [Instr.checkKey, Sem.run_bind, run_underlying hu]
    exact this 9999
  · obtain ⟨a, rfl⟩ := encM_keys hk
    exact .inr ⟨_, by simp [Instr.sameNow]; rfl, by simp⟩
  · obtain ⟨a, rfl⟩ := encM_keys hk
    refine ⟨k == a, ?_, by simp⟩
    have : ∀ n, (Op.equalIn (n + 1) kt (.int .i64 k) (.int .i64 a)).run P w = .ok (k == a) w := fun n => by simp [Op.equalIn, run_underlying hu]
    simp only [Op.equal, Op.maxDepth]
    exact this 9999

theorem keyOk_struct {P : Program} {kt : TypeId} {κ ν : Type} [DecidableEq κ] {kv : κ → Value} {vv : ν → V} {fs : Array Field} (hu : P.underlying kt = some (.struct fs)) (hagg : ∀ a, ∃ xs, kv a = .agg xs) (dp : Nat) (hdp : dp ≤ 10000) (hchk : ∀ e n k w, (Instr.checkKey e (n + dp) kt (kv k)).run P w = .ok () w)
    (heq : ∀ n a b w, (Op.equalIn (n + dp) kt (kv a) (kv b)).run P w = .ok (decide (a = b)) w) (hinj : ∀ a b, kv a = kv b → a = b) (hsame : ∀ k, Instr.sameBits 10000 (kv k) (kv k) = true) (k : κ) (l : List (κ × ν)) : KeyOk P kt (kv k) ((encM kv vv l).map (·.1)) := by
  have e9 : 10000 = (10000 - dp) + dp := by omega
  refine ⟨fun e w => by rw [e9]; exact hchk e _ k w, ⟨_, hu, fun k' hk => ?_⟩, fun k' hk w => ?_, hsame k⟩
  · obtain ⟨a, rfl⟩ := encM_keys hk
    obtain ⟨xs, h1⟩ := hagg k
    obtain ⟨ys, h2⟩ := hagg a
    rw [h1, h2]
    exact .inl rfl
  · obtain ⟨a, rfl⟩ := encM_keys hk
    refine ⟨decide (k = a), ?_, by simp; exact ⟨fun h => by rw [h], hinj _ _⟩⟩
    simp only [Op.equal, Op.maxDepth]
    rw [e9]
    exact heq _ k a w

theorem zero_agg {xs : List Value} {l : List C} (hone : xs.all Value.oneCell' = true) (hlen : l.length = xs.length) (h : ∀ j, j < xs.length → orNil ((xs.map C.lit).getD j .junk) (l.getD j .junk)) : ∀ S w m, RepV S w m (.agg l) (.agg xs.toArray) := by
  intro S w m
  obtain ⟨h1, h2, h3⟩ := RepL.lits (S := S) (w := w) (m := m) hone
  refine ⟨xs.toArray, rfl, by simp [hlen], fun j c hc => ?_, fun x hx => h3 x (by simpa using hx)⟩
  have hj : j < l.length := (List.getElem?_eq_some_iff.1 hc).1
  have hj2 : j < (xs.map C.lit).length := by simpa [hlen] using hj
  have e0 : (xs.map C.lit)[j]? = some ((xs.map C.lit).getD j .junk) := by simp [List.getD_eq_getElem?_getD, show j < xs.length by omega]
  obtain ⟨x, q1, q2⟩ := h2 j _ e0
  refine ⟨x, by simpa using q1, ?_⟩
  have := orNil_rep q2 (h j (by omega))
  have e1 : l.getD j .junk = c := by simp [List.getD_eq_getElem?_getD, hc]
  rw [e1] at this
  exact this

/-! ### Rows of words -/
def C.isLit : C → Bool
  | .lit _ => true
  | _ => false

theorem rows_lit {α : Type} {sz : Nat} {e : α → List C} {d : α} (h : ∀ a, (e a).all C.isLit = true) (hl : ∀ a, (e a).length = sz) (l : List α) (n : Nat) : ∀ i j, i < n → j < sz → ∃ x, rowsOf e d l i j = .lit x := by
  intro i j _ hj
  simp only [rowsOf]
  have h1 : j < (e (l.getD i d)).length := by rw [hl]; exact hj
  have h2 := List.all_eq_true.1 (h (l.getD i d)) _ (List.getElem_mem h1)
  rw [List.getD_eq_getElem?_getD, List.getElem?_eq_getElem h1]
  simp only [Option.getD_some]
  generalize (e (l.getD i d))[j] = c at h2
  cases c <;> simp only [C.isLit] at h2 <;> try (cases h2; done)
  exact ⟨_, rfl⟩

end Go.Proofs.Ytgedafbejcpioaa
