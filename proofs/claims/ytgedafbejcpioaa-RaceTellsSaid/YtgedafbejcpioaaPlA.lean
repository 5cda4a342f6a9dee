/-
  PLAIN LAWS, over no program: searches in lists, sums that stay in bounds, numbers that are compared.
-/
import Derived.Test.YtgedafbejcpioaaAmU
namespace Go.Proofs.Ytgedafbejcpioaa
set_option linter.unusedSimpArgs false
set_option linter.unusedVariables false

theorem drop_cons {α : Type} (l : List α) (d : α) (i : Nat) (h : i < l.length) : l.drop i = l.getD i d :: l.drop (i + 1) := by
  rw [List.drop_eq_getElem_cons h]
  simp [List.getD_eq_getElem?_getD, h]

theorem getD_of {α : Type} (l : List α) (d : α) (i : Nat) (h : i < l.length) : l.getD i d = l[i] := by simp [List.getD_eq_getElem?_getD, h]
theorem getD_mem {α : Type} (l : List α) (d : α) (i : Nat) (h : i < l.length) : l.getD i d ∈ l := by rw [getD_of l d i h]; exact List.getElem_mem h

/-- Where the first stands that has p; i: the number of the list's head. -/
def ixOf {α : Type} (p : α → Bool) : List α → Nat → Int
  | [], _ => -1
  | x :: r, i => if p x then (i : Int) else ixOf p r (i + 1)

theorem ixOf_neg {α : Type} (p : α → Bool) : ∀ (l : List α) (i : Nat), ixOf p l i < 0 ↔ ∀ x ∈ l, p x = false
  | [], i => by simp [ixOf]
  | x :: r, i => by
    simp only [ixOf]
    split
    · rename_i h
      constructor
      · intro h1; omega
      · intro h1; have := h1 x (by simp); rw [h] at this; cases this
    · rename_i h
      rw [ixOf_neg p r (i + 1)]
      simp only [List.mem_cons, forall_eq_or_imp, Bool.not_eq_true] at h ⊢
      exact ⟨fun h1 => ⟨h, h1⟩, fun h1 => h1.2⟩

theorem ixOf_pos {α : Type} (p : α → Bool) : ∀ (l : List α) (i : Nat), 0 ≤ ixOf p l i → ∃ k, k < l.length ∧ ixOf p l i = ((i + k : Nat) : Int) ∧ (∃ x, l[k]? = some x ∧ p x = true) ∧ ∀ j, j < k → ∃ x, l[j]? = some x ∧ p x = false
  | [], i, h => by simp [ixOf] at h
  | x :: r, i, h => by
    simp only [ixOf] at h ⊢
    split
    · rename_i hp
      exact ⟨0, by simp, by simp, ⟨x, rfl, hp⟩, fun j hj => by omega⟩
    · rename_i hp
      rw [if_neg hp] at h
      obtain ⟨k, h1, h2, ⟨y, h3, h4⟩, h5⟩ := ixOf_pos p r (i + 1) h
      refine ⟨k + 1, by simp; exact h1, by rw [h2]; congr 1; omega, ⟨y, by simpa using h3, h4⟩, fun j hj => ?_⟩
      cases j with
      | zero => exact ⟨x, rfl, by simpa using hp⟩
      | succ j => obtain ⟨y, h6, h7⟩ := h5 j (by omega); exact ⟨y, by simpa using h6, h7⟩

theorem ixOf_le {α : Type} (p : α → Bool) : ∀ (l : List α) (i : Nat), ixOf p l i < ((i + l.length : Nat) : Int)
  | [], i => by simp only [ixOf]; omega
  | x :: r, i => by
    simp only [ixOf]
    split
    · simp; omega
    · have := ixOf_le p r (i + 1)
      simp at this ⊢; omega

theorem ixOf_ge {α : Type} (p : α → Bool) (l : List α) (i : Nat) : -1 ≤ ixOf p l i := by
  rcases Int.lt_or_le (ixOf p l i) 0 with h | h
  · induction l generalizing i with
    | nil => simp [ixOf]
    | cons x r ih =>
      simp only [ixOf] at h ⊢
      split
      · omega
      · rename_i hp; rw [if_neg hp] at h; exact ih _ h
  · omega

theorem ixOf_congr {α : Type} {p q : α → Bool} : ∀ (l : List α) (i : Nat), (∀ x ∈ l, p x = q x) → ixOf p l i = ixOf q l i
  | [], i, _ => rfl
  | x :: r, i, h => by
    simp only [ixOf]
    rw [h x (by simp), ixOf_congr r (i + 1) fun y hy => h y (by simp [hy])]

theorem ixOf_split {α : Type} (p : α → Bool) : ∀ (l : List α) (i : Nat), (ixOf p l i < 0 → l.takeWhile (fun x => !p x) = l ∧ l.dropWhile (fun x => !p x) = []) ∧ (0 ≤ ixOf p l i → i ≤ (ixOf p l i).toNat ∧ l.takeWhile (fun x => !p x) = l.take ((ixOf p l i).toNat - i) ∧ l.dropWhile (fun x => !p x) = l.drop ((ixOf p l i).toNat - i))
  | [], i => by simp [ixOf]
  | x :: r, i => by
    obtain ⟨h1, h2⟩ := ixOf_split p r (i + 1)
    simp only [ixOf]
    cases hp : p x
    · simp only [Bool.false_eq_true, if_false, List.takeWhile_cons, List.dropWhile_cons, hp, Bool.not_false, if_true]
      refine ⟨fun h => ?_, fun h => ?_⟩
      · obtain ⟨h3, h4⟩ := h1 h
        exact ⟨by rw [h3], h4⟩
      · obtain ⟨h3, h4, h5⟩ := h2 h
        have e : (ixOf p r (i + 1)).toNat - i = ((ixOf p r (i + 1)).toNat - (i + 1)) + 1 := by omega
        rw [e, List.take_succ_cons, List.drop_succ_cons, h4, h5]
        exact ⟨by omega, rfl, rfl⟩
    · simp only [if_true, List.takeWhile_cons, List.dropWhile_cons, hp, Bool.not_true, Bool.false_eq_true, if_false]
      refine ⟨fun h => by omega, fun h => ?_⟩
      simp

/-! ### The orders -/
def cmpI (a b : Int) : Int := if a < b then -1 else if b < a then 1 else 0
def orI (a b : Int) : Int := if a = 0 then b else a

theorem cmpI_vals (a b : Int) : cmpI a b = -1 ∨ cmpI a b = 0 ∨ cmpI a b = 1 := by unfold cmpI; split <;> (try split) <;> simp
theorem cmpI_zero {a b : Int} : cmpI a b = 0 ↔ a = b := by unfold cmpI; constructor <;> intro h <;> (repeat' split at *) <;> omega
theorem cmpI_lt {a b : Int} : cmpI a b < 0 ↔ a < b := by unfold cmpI; constructor <;> intro h <;> (repeat' split at *) <;> omega
theorem cmpI_gt {a b : Int} : 0 < cmpI a b ↔ b < a := by unfold cmpI; constructor <;> intro h <;> (repeat' split at *) <;> omega

/-- Lists in which each stands ahead of the next. -/
theorem pairwise_of_chain {α : Type} {R : α → α → Prop} (ht : ∀ a b c, R a b → R b c → R a c) : ∀ (l : List α), (∀ i a b, l[i]? = some a → l[i + 1]? = some b → R a b) → l.Pairwise R
  | [], _ => .nil
  | [a], _ => List.pairwise_singleton _ _
  | a :: b :: r, h => by
    have ih := pairwise_of_chain ht (b :: r) fun i x y hx hy => h (i + 1) x y (by simpa using hx) (by simpa using hy)
    have hab := h 0 a b rfl rfl
    refine List.pairwise_cons.2 ⟨fun x hx => ?_, ih⟩
    rcases List.mem_cons.1 hx with rfl | hx
    · exact hab
    · exact ht _ _ _ hab ((List.pairwise_cons.1 ih).1 x hx)

theorem cond_decide' {α : Type} (p : Prop) [Decidable p] (a b : α) : (bif decide p then a else b) = if p then a else b := by by_cases h : p <;> simp [h]
theorem need_yes {α : Type} {p : Prop} [Decidable p] (h : p) (k : Option α) : need p k = k := if_pos h

/-- The bounds that a list of at most some entries keeps. -/
theorem small_len {n : Nat} (h : n ≤ 100000) : n ≤ maxLen := by simp only [maxLen]; omega

theorem wrap_u64 {a : Int} (h : 0 ≤ a) (h' : a ≤ 18446744073709551615) : IntKind.u64.wrap a = a := by
  simp only [IntKind.wrap, IntKind.bits, IntKind.signed]
  simp
  omega

theorem and_u64 (a b : Nat) (ha : a < 2 ^ 64) (hb : b < 2 ^ 64) : ((BitVec.ofInt (IntKind.bits .u64) (a : Int)) &&& (BitVec.ofInt (IntKind.bits .u64) (b : Int))).toNat = a &&& b := by
  have h1 : ∀ c : Nat, c < 2 ^ 64 → (BitVec.ofInt 64 (c : Int)).toNat = c := fun c hc => by
    rw [BitVec.ofInt_natCast, BitVec.toNat_ofNat]
    exact Nat.mod_eq_of_lt hc
  show (BitVec.ofInt 64 (a : Int) &&& BitVec.ofInt 64 (b : Int)).toNat = a &&& b
  rw [BitVec.toNat_and, h1 a ha, h1 b hb]

theorem add1 {i n : Nat} (hi : i < n) (hn : n ≤ maxLen) : add64 (i : Int) 1 = ((i + 1 : Nat) : Int) := by
  unfold maxLen at hn
  rw [add64_id (by omega) (by omega)]
  omega

/-- A loop that looks for the first that has p. -/
theorem loop_ix {α β : Type} (l : List α) (d : α) (p : α → Bool) (hl : l.length ≤ maxLen) (F : Nat → Int → Option β) (g : Int → β)
    (hF : ∀ fu (i : Nat), i < l.length → F (fu + 1) (i : Int) = if p (l.getD i d) then some (g i) else F fu (add64 (i : Int) 1)) (hE : ∀ fu, F (fu + 1) (l.length : Int) = some (g (-1))) :
    ∀ fu (i : Nat), i ≤ l.length → l.length - i < fu → F fu (i : Int) = some (g (ixOf p (l.drop i) i)) := by
  intro fu
  induction fu with
  | zero => intro i _ h; omega
  | succ fu ih =>
    intro i hi hf
    by_cases h : i < l.length
    · rw [hF fu i h, drop_cons l d i h]
      simp only [ixOf]
      split
      · rfl
      · rw [add1 h hl]
        exact ih (i + 1) (by omega) (by omega)
    · have e : i = l.length := by omega
      subst e
      rw [hE, List.drop_length]
      rfl

/-- A loop that counts those that have p. -/
theorem loop_count {α : Type} (l : List α) (d : α) (p : α → Bool) (hl : l.length ≤ maxLen) (F : Nat → Int → Int → Option Int)
    (hF : ∀ fu (i n : Nat), i < l.length → F (fu + 1) (n : Int) (i : Int) = if p (l.getD i d) then F fu (add64 (n : Int) 1) (add64 (i : Int) 1) else F fu (n : Int) (add64 (i : Int) 1)) (hE : ∀ fu n, F (fu + 1) n (l.length : Int) = some n) :
    ∀ fu (i n : Nat), i ≤ l.length → n ≤ i → l.length - i < fu → F fu (n : Int) (i : Int) = some ((n + (l.drop i).countP p : Nat) : Int) := by
  intro fu
  induction fu with
  | zero => intro i _ _ _ h; omega
  | succ fu ih =>
    intro i n hi hn hf
    by_cases h : i < l.length
    · rw [hF fu i n h, drop_cons l d i h, List.countP_cons, add1 h hl]
      split
      · rename_i hp
        rw [add1 (show n < l.length by omega) hl, ih (i + 1) (n + 1) (by omega) (by omega) (by omega)]
        congr 2; omega
      · rename_i hp
        rw [ih (i + 1) n (by omega) (by omega) (by omega)]
        rfl
    · have e : i = l.length := by omega
      subst e
      rw [hE, List.drop_length]
      simp

/-- A loop that turns each element by itself, in place. -/
theorem loop_map {α β : Type} (f : α → α) (d : α) (n : Nat) (hl : n ≤ maxLen) (F : Nat → Int → List α → Option β) (g : List α → Option β)
    (hF : ∀ fu (i : Nat) (w : List α), w.length = n → i < n → F (fu + 1) (i : Int) w = F fu (add64 (i : Int) 1) (w.set i (f (w.getD i d)))) (hE : ∀ fu w, w.length = n → F (fu + 1) (n : Int) w = g w) :
    ∀ fu (i : Nat) (w : List α), w.length = n → i ≤ n → n - i < fu → F fu (i : Int) w = g (w.take i ++ (w.drop i).map f) := by
  intro fu
  induction fu with
  | zero => intro i _ _ _ h; omega
  | succ fu ih =>
    intro i w hw hi hf
    by_cases h : i < n
    · rw [hF fu i w hw h, add1 h hl, ih (i + 1) _ (by simp [hw]) (by omega) (by omega)]
      congr 1
      have hwi : i < w.length := by omega
      apply List.ext_getElem?
      intro k
      rw [List.getElem?_append, List.getElem?_append]
      simp only [List.length_take, List.length_set, List.getElem?_take, List.getElem?_map, List.getElem?_drop, List.getElem?_set]
      rw [Nat.min_eq_left (by omega), Nat.min_eq_left (by omega)]
      by_cases h1 : k < i
      · rw [if_pos (by omega), if_pos (by omega), if_pos h1, if_pos h1, if_neg (by omega)]
      · by_cases h2 : k = i
        · subst h2
          rw [if_pos (by omega), if_pos (by omega), if_pos rfl, if_pos hwi, if_neg (by omega)]
          rw [getD_of w d k hwi]
          simp [hwi]
        · rw [if_neg (by omega), if_neg h1, if_neg (by omega)]
          congr 2; omega
    · have e : i = n := by omega
      subst e
      rw [hE _ _ hw]
      congr 1
      rw [List.drop_of_length_le (by omega), List.take_of_length_le (by omega)]
      simp

end Go.Proofs.Ytgedafbejcpioaa
