/-
  PLAIN FACTS on hexadecimal digits; no program in sight.
-/
import Derived.Test.YtocebogaopjkfaaDecP
namespace Go.Proofs.Ytocebogaopjkfaa

/-- What a digit of base 16 is; -1: it is none. -/
def valueOf (c : Nat) : Int :=
  if 48 ≤ c ∧ c ≤ 57 then (c : Int) - 48 else if 97 ≤ c ∧ c ≤ 102 then (c : Int) - 87 else if 65 ≤ c ∧ c ≤ 70 then (c : Int) - 55 else -1

theorem valueOf_le (c : Nat) : valueOf c ≤ 15 ∧ -1 ≤ valueOf c := by unfold valueOf; (repeat' split) <;> omega

def placeOf (l : List UInt8) (c : UInt8) : Int := if c ∈ l then (l.idxOf c : Int) else -1

theorem place_hit {l : List UInt8} {c : UInt8} (k : Nat) (hk : k < l.length) (h : l[k] = c) (hb : ∀ j (hj : j < k), l[j]'(by omega) ≠ c) : placeOf l c = k := by
  have hm : c ∈ l := h ▸ List.getElem_mem hk
  unfold placeOf
  rw [if_pos hm]
  congr 1
  have h1 : l.idxOf c < l.length := List.idxOf_lt_length_iff.2 hm
  have h2 : l[l.idxOf c] = c := List.getElem_idxOf h1
  rcases Nat.lt_trichotomy (l.idxOf c) k with h3 | h3 | h3
  · exact absurd h2 (hb _ h3)
  · exact h3
  · have := List.not_of_lt_findIdx (p := (· == c)) (xs := l) (i := k) h3
    rw [h] at this
    simp at this

theorem place_miss {l : List UInt8} {c : UInt8} (hb : ∀ j (hj : j < l.length), l[j] ≠ c) : placeOf l c = -1 := by
  unfold placeOf
  rw [if_neg]
  intro h
  obtain ⟨j, hj, e⟩ := List.getElem_of_mem h
  exact hb j hj e

def lowHex : List UInt8 := [48, 49, 50, 51, 52, 53, 54, 55, 56, 57, 97, 98, 99, 100, 101, 102]
def upHex : List UInt8 := [48, 49, 50, 51, 52, 53, 54, 55, 56, 57, 65, 66, 67, 68, 69, 70]

theorem place_value : ∀ c : Fin 256, (if placeOf lowHex (UInt8.ofNat c.val) < 0 then placeOf upHex (UInt8.ofNat c.val) else placeOf lowHex (UInt8.ofNat c.val)) = valueOf c.val := by decide +kernel

theorem place_value8 (c : UInt8) : (if placeOf lowHex c < 0 then placeOf upHex c else placeOf lowHex c) = valueOf c.toNat := by
  have := place_value ⟨c.toNat, c.toNat_lt⟩
  simpa using this

def hexV (l : List UInt8) : Int := l.foldl (fun n c => 16 * n + valueOf c.toNat) 0
def hexOk (l : List UInt8) : Bool := decide (1 ≤ l.length ∧ l.length ≤ 4 ∧ ∀ c ∈ l, 0 ≤ valueOf c.toNat)
def hexN (l : List UInt8) : Int := if hexOk l then hexV l else 0

theorem hex_no {l : List UInt8} (h : ¬ (1 ≤ l.length ∧ l.length ≤ 4 ∧ ∀ c ∈ l, 0 ≤ valueOf c.toNat)) : hexOk l = false ∧ hexN l = 0 := by
  have : hexOk l = false := decide_eq_false h
  exact ⟨this, by simp [hexN, this]⟩

theorem hex_yes {l : List UInt8} (h : 1 ≤ l.length ∧ l.length ≤ 4 ∧ ∀ c ∈ l, 0 ≤ valueOf c.toNat) : hexOk l = true ∧ hexN l = hexV l := by
  have : hexOk l = true := decide_eq_true h
  exact ⟨this, by simp [hexN, this]⟩

theorem hexV_snoc (l : List UInt8) (c : UInt8) : hexV (l ++ [c]) = 16 * hexV l + valueOf c.toNat := by simp [hexV, List.foldl_append]

theorem hexV_take_succ (l : List UInt8) (k : Nat) (hk : k < l.length) : hexV (l.take (k + 1)) = 16 * hexV (l.take k) + valueOf l[k].toNat := by
  rw [List.take_succ_eq_append_getElem hk, hexV_snoc]

theorem hex_bad {l : List UInt8} (k : Nat) (hk : k < l.length) (h : valueOf l[k].toNat < 0) : hexOk l = false ∧ hexN l = 0 :=
  hex_no (fun hh => by have := hh.2.2 _ (List.getElem_mem hk); omega)

theorem okDig_take_succ {l : List UInt8} {k : Nat} (hk : k < l.length) (h : ∀ c ∈ l.take k, 0 ≤ valueOf c.toNat) (hd : 0 ≤ valueOf l[k].toNat) : ∀ c ∈ l.take (k + 1), 0 ≤ valueOf c.toNat := by
  rw [List.take_succ_eq_append_getElem hk]
  intro c hc
  simp only [List.mem_append, List.mem_singleton] at hc
  rcases hc with hc | rfl
  · exact h c hc
  · exact hd

theorem hex_done {l : List UInt8} {k : Nat} (hk : l.length ≤ k) (h1 : 1 ≤ l.length) (h4 : l.length ≤ 4) (hd : ∀ c ∈ l.take k, 0 ≤ valueOf c.toNat) : hexOk l = true ∧ hexN l = hexV (l.take k) := by
  rw [List.take_of_length_le hk] at hd ⊢
  exact hex_yes ⟨h1, h4, hd⟩

/-- A digit of base 16. -/
def sign8 (d : Nat) : UInt8 := UInt8.ofNat (if d < 10 then 48 + d else 87 + d)

theorem sign8_toNat (d : Nat) (h : d < 16) : (sign8 d).toNat = if d < 10 then 48 + d else 87 + d := by
  unfold sign8
  rw [UInt8.toNat_ofNat']
  split <;> omega

theorem value_sign (d : Nat) (h : d < 16) : valueOf (sign8 d).toNat = d := by
  rw [sign8_toNat d h]
  unfold valueOf
  (repeat' split) <;> omega

def hexF : Nat → Nat → List UInt8
  | 0, n => [sign8 (n % 16)]
  | f + 1, n => if n < 16 then [sign8 (n % 16)] else hexF f (n / 16) ++ [sign8 (n % 16)]

def hexOf (n : Int) : List UInt8 := if n < 0 ∨ 65535 < n then [] else hexF 3 n.toNat

theorem hexF_ne (f n : Nat) : hexF f n ≠ [] := by
  cases f with
  | zero => simp [hexF]
  | succ f => rw [hexF]; split <;> simp

theorem hexF_len : ∀ (f n : Nat), (hexF f n).length ≤ f + 1 := by
  intro f
  induction f with
  | zero => intro n; simp [hexF]
  | succ f ih =>
    intro n
    rw [hexF]
    split
    · simp
    · have := ih (n / 16); simp; omega

theorem hexF_fuel : ∀ (f n : Nat), n < 16 ^ (f + 1) → hexF (f + 1) n = hexF f n := by
  intro f
  induction f with
  | zero => intro n h; simp at h; simp [hexF, h]
  | succ f ih =>
    intro n h
    rw [hexF]
    conv => rhs; rw [hexF]
    split
    · rfl
    · rw [ih]
      rw [Nat.pow_succ] at h
      omega

theorem hexV_hexF : ∀ (f n : Nat), n < 16 ^ (f + 1) → hexV (hexF f n) = n ∧ ∀ c ∈ hexF f n, 0 ≤ valueOf c.toNat := by
  intro f
  induction f with
  | zero =>
    intro n h
    simp at h
    have := value_sign (n % 16) (by omega)
    simp [hexF, hexV, this]
    omega
  | succ f ih =>
    intro n h
    have hs := value_sign (n % 16) (by omega)
    rw [hexF]
    split
    · simp [hexV, hs]
      omega
    · have := ih (n / 16) (by rw [Nat.pow_succ] at h; omega)
      rw [hexV_snoc, this.1, hs]
      refine ⟨by omega, ?_⟩
      intro c hc
      simp only [List.mem_append, List.mem_singleton] at hc
      rcases hc with hc | rfl
      · exact this.2 c hc
      · omega

theorem hex_back (n : Int) : hexOk (hexOf n) = decide (0 ≤ n ∧ n ≤ 65535) ∧ (hexOk (hexOf n) = true → hexN (hexOf n) = n) := by
  by_cases h : n < 0 ∨ 65535 < n
  · have e : hexOf n = [] := by unfold hexOf; rw [if_pos h]
    rw [e]
    have e2 : decide (0 ≤ n ∧ n ≤ 65535) = false := decide_eq_false (by omega)
    rw [e2]
    exact ⟨by decide, fun h => absurd h (by decide)⟩
  · have e : hexOf n = hexF 3 n.toNat := by unfold hexOf; rw [if_neg h]
    rw [e]
    have e2 : decide (0 ≤ n ∧ n ≤ 65535) = true := decide_eq_true (by omega)
    have hv := hexV_hexF 3 n.toNat (by omega)
    have hl := hexF_len 3 n.toNat
    have hp := List.length_pos_iff.2 (hexF_ne 3 n.toNat)
    have hy := hex_yes (l := hexF 3 n.toNat) ⟨by omega, by omega, hv.2⟩
    rw [e2, hy.2, hv.1]
    exact ⟨hy.1, fun _ => by omega⟩

end Go.Proofs.Ytocebogaopjkfaa
