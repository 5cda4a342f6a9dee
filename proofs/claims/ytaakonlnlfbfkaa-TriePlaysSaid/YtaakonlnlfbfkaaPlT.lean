/-
  PLAIN LAWS: how many bits two subnets have in common; trees of subnets.
-/
import Derived.Test.YtaakonlnlfbfkaaPlN
namespace Go.Proofs.Ytaakonlnlfbfkaa
set_option linter.unusedSimpArgs false
set_option linter.unusedVariables false

/-! ### The first bit that differs -/
/-- r is how many bits z needs. -/
def Len (z r : Nat) : Prop := z < 2 ^ r ∧ (0 < r → 2 ^ (r - 1) ≤ z)

theorem len_shift {z r : Nat} (k : Nat) (hz : 2 ^ k ≤ z) (h : Len (z / 2 ^ k) r) : Len z (r + k) ∧ 0 < r := by
  have hk : 0 < 2 ^ k := Nat.pow_pos (by omega)
  have h1 : 1 ≤ z / 2 ^ k := (Nat.le_div_iff_mul_le hk).2 (by omega)
  have hr : 0 < r := by
    rcases Nat.eq_zero_or_pos r with e | e
    · subst e; have := h.1; simp at this; omega
    · exact e
  refine ⟨⟨?_, fun _ => ?_⟩, hr⟩
  · rw [Nat.pow_add]; exact (Nat.div_lt_iff_lt_mul hk).1 h.1
  · have := (Nat.le_div_iff_mul_le hk).1 (h.2 hr)
    rw [← Nat.pow_add] at this
    rwa [show r + k - 1 = r - 1 + k by omega]

set_option maxRecDepth 100000 in
theorem len_c1 : ∃ T : ByteArray, T.size = 256 ∧ (∀ i : Fin 256, i.val < 2 ^ byteAt T i.val ∧ (0 < byteAt T i.val → 2 ^ (byteAt T i.val - 1) ≤ i.val) ∧ byteAt T i.val ≤ 8) ∧ ∀ v0 v2 : Int, g_math_bits_Len64_c1 v0 v2 =
    bif (decide (v0 ≥ (256 : Int))) then
      need (0 ≤ (IntKind.wrap .u8 (Int.fdiv v0 (2 ^ (min (8 : Int).toNat (IntKind.bits .u64))))) ∧ (IntKind.wrap .u8 (Int.fdiv v0 (2 ^ (min (8 : Int).toNat (IntKind.bits .u64))))) < ((T.size : Nat) : Int)) <|
      some (add64 (add64 v2 (8 : Int)) (IntKind.wrap .i64 ((byteAt T (IntKind.wrap .u8 (Int.fdiv v0 (2 ^ (min (8 : Int).toNat (IntKind.bits .u64))))).toNat : Nat) : Int)))
    else
      need (0 ≤ (IntKind.wrap .u8 v0) ∧ (IntKind.wrap .u8 v0) < ((T.size : Nat) : Int)) <|
      some (add64 v2 (IntKind.wrap .i64 ((byteAt T (IntKind.wrap .u8 v0).toNat : Nat) : Int))) := by
  refine ⟨_, ?_, ?_, fun v0 v2 => rfl⟩
  · rfl
  · decide +kernel

theorem wrap_u8 {a : Int} (h : 0 ≤ a) (h' : a < 256) : IntKind.u8.wrap a = a := by
  simp only [IntKind.wrap, IntKind.bits, IntKind.signed]
  simp
  omega
theorem wrap_i64' {a : Int} (h : 0 ≤ a) (h' : a < 256) : IntKind.i64.wrap a = a := by
  simp only [IntKind.wrap, IntKind.bits, IntKind.signed]
  simp
  omega

theorem len16 (z v : Nat) (hz : z < 65536) (hv : v ≤ 1000) : ∃ r, Len z r ∧ r ≤ 16 ∧ g_math_bits_Len64_c1 (z : Int) (v : Int) = some ((v + r : Nat) : Int) := by
  obtain ⟨T, hT, hi, he⟩ := len_c1
  rw [he, cond_decide', hT]
  by_cases h : 256 ≤ z
  · rw [if_pos (by omega)]
    have e : Int.fdiv (z : Int) (2 ^ (min (8 : Int).toNat (IntKind.bits .u64))) = ((z / 256 : Nat) : Int) := by
      rw [show (2 : Int) ^ (min (8 : Int).toNat (IntKind.bits .u64)) = 256 from rfl, Int.fdiv_eq_ediv_of_nonneg _ (by omega)]; rfl
    obtain ⟨h1, h2, h3⟩ := hi ⟨z / 256, by omega⟩
    simp only at h1 h2 h3
    rw [e, wrap_u8 (by omega) (by omega), need_yes (by omega), Int.toNat_natCast, wrap_i64' (by omega) (by omega)]
    obtain ⟨h4, h5⟩ := len_shift (z := z) (r := byteAt T (z / 256)) 8 (by omega) ⟨by rw [show (2 : Nat) ^ 8 = 256 from rfl]; exact h1, by rw [show (2 : Nat) ^ 8 = 256 from rfl]; exact h2⟩
    refine ⟨_, h4, by omega, ?_⟩
    rw [add64_id (a := (v : Int)) (by omega) (by omega), add64_id (by omega) (by omega)]
    congr 1; omega
  · rw [if_neg (by omega)]
    obtain ⟨h1, h2, h3⟩ := hi ⟨z, by omega⟩
    simp only at h1 h2 h3
    rw [wrap_u8 (by omega) (by omega), need_yes (by omega), Int.toNat_natCast, wrap_i64' (by omega) (by omega)]
    refine ⟨_, ⟨h1, h2⟩, by omega, ?_⟩
    rw [add64_id (by omega) (by omega)]
    congr 1

theorem len32 (z v : Nat) (hz : z < 4294967296) (hv : v ≤ 900) : ∃ r, Len z r ∧ r ≤ 32 ∧ g_math_bits_Len64_c0 (z : Int) (v : Int) = some ((v + r : Nat) : Int) := by
  simp only [g_math_bits_Len64_c0, cond_decide']
  by_cases h : 65536 ≤ z
  · rw [if_pos (by omega)]
    have e : Int.fdiv (z : Int) (2 ^ (min (16 : Int).toNat (IntKind.bits .u64))) = ((z / 65536 : Nat) : Int) := by
      rw [show (2 : Int) ^ (min (16 : Int).toNat (IntKind.bits .u64)) = 65536 from rfl, Int.fdiv_eq_ediv_of_nonneg _ (by omega)]; rfl
    rw [e, show add64 (v : Int) 16 = ((v + 16 : Nat) : Int) by rw [add64_id (by omega) (by omega)]; omega]
    obtain ⟨r, h1, h2, h3⟩ := len16 (z / 65536) (v + 16) (by omega) (by omega)
    obtain ⟨h4, _⟩ := len_shift (z := z) 16 (by omega) (by rw [show (2 : Nat) ^ 16 = 65536 from rfl]; exact h1)
    exact ⟨r + 16, h4, by omega, by rw [h3]; congr 2; omega⟩
  · rw [if_neg (by omega)]
    obtain ⟨r, h1, h2, h3⟩ := len16 z v (by omega) (by omega)
    exact ⟨r, h1, by omega, h3⟩

theorem len64 (z : Nat) (hz : z < 2 ^ 64) : ∃ r, Len z r ∧ r ≤ 64 ∧ g_math_bits_Len64 (z : Int) = some ((r : Nat) : Int) := by
  simp only [g_math_bits_Len64, cond_decide']
  by_cases h : 4294967296 ≤ z
  · rw [if_pos (by omega)]
    have e : Int.fdiv (z : Int) (2 ^ (min (32 : Int).toNat (IntKind.bits .u64))) = ((z / 4294967296 : Nat) : Int) := by
      rw [show (2 : Int) ^ (min (32 : Int).toNat (IntKind.bits .u64)) = 4294967296 from rfl, Int.fdiv_eq_ediv_of_nonneg _ (by omega)]; rfl
    rw [e]
    obtain ⟨r, h1, h2, h3⟩ := len32 (z / 4294967296) 32 (by omega) (by omega)
    obtain ⟨h4, _⟩ := len_shift (z := z) 32 (by omega) (by rw [show (2 : Nat) ^ 32 = 4294967296 from rfl]; exact h1)
    exact ⟨r + 32, h4, by omega, by rw [show (32 : Int) = ((32 : Nat) : Int) from rfl, h3]; congr 2; omega⟩
  · rw [if_neg (by omega)]
    obtain ⟨r, h1, h2, h3⟩ := len32 z 0 (by omega) (by omega)
    exact ⟨r, h1, by omega, by rw [show (0 : Int) = ((0 : Nat) : Int) from rfl, h3]; congr 2; omega⟩

theorem xor_u64 (a b : Nat) (ha : a < 2 ^ 64) (hb : b < 2 ^ 64) : IntKind.u64.wrap (((BitVec.ofInt (IntKind.bits .u64) (a : Int)) ^^^ (BitVec.ofInt (IntKind.bits .u64) (b : Int))).toNat : Int) = ((a ^^^ b : Nat) : Int) := by
  have h1 : ∀ c : Nat, c < 2 ^ 64 → (BitVec.ofInt 64 (c : Int)).toNat = c := fun c hc => by
    rw [BitVec.ofInt_natCast, BitVec.toNat_ofNat]
    exact Nat.mod_eq_of_lt hc
  have h2 : ((BitVec.ofInt (IntKind.bits .u64) (a : Int)) ^^^ (BitVec.ofInt (IntKind.bits .u64) (b : Int))).toNat = a ^^^ b := by
    show (BitVec.ofInt 64 (a : Int) ^^^ BitVec.ofInt 64 (b : Int)).toNat = a ^^^ b
    rw [BitVec.toNat_xor, h1 a ha, h1 b hb]
  rw [h2]
  have : a ^^^ b < 2 ^ 64 := Nat.xor_lt_two_pow ha hb
  exact wrap_u64 (by omega) (by omega)

/-- How many first bits of 64 two numbers have in common. -/
theorem lead (a b : Nat) (ha : a < 2 ^ 64) (hb : b < 2 ^ 64) : ∃ k, k ≤ 64 ∧ g_math_bits_LeadingZeros64 ((a ^^^ b : Nat) : Int) = some ((k : Nat) : Int) ∧ (∀ j, 64 - k ≤ j → a.testBit j = b.testBit j) ∧ (k < 64 → a.testBit (63 - k) ≠ b.testBit (63 - k)) ∧ (k = 64 ↔ a ^^^ b = 0) := by
  have hx : a ^^^ b < 2 ^ 64 := Nat.xor_lt_two_pow ha hb
  obtain ⟨r, h1, h2, h3⟩ := len64 (a ^^^ b) hx
  refine ⟨64 - r, by omega, ?_, fun j hj => ?_, fun hk => ?_, ?_⟩
  · simp only [g_math_bits_LeadingZeros64, h3, Option.bind_some]
    rw [sub64_id (by omega) (by omega)]
    congr 1; omega
  · have h4 : (a ^^^ b).testBit j = false := Nat.testBit_lt_two_pow (Nat.lt_of_lt_of_le h1.1 (Nat.pow_le_pow_right (by omega) (by omega)))
    rw [Nat.testBit_xor] at h4
    revert h4
    cases a.testBit j <;> cases b.testBit j <;> simp
  · have h4 : (a ^^^ b).testBit (r - 1) = true := by
      have h5 := h1.2 (by omega)
      have h6 : a ^^^ b < 2 ^ (r - 1) * 2 := by rw [← Nat.pow_succ, show (r - 1).succ = r by omega]; exact h1.1
      rw [Nat.testBit_eq_decide_div_mod_eq, decide_eq_true_eq]
      have h7 : (a ^^^ b) / 2 ^ (r - 1) = 1 := by
        have hp : 0 < 2 ^ (r - 1) := Nat.pow_pos (by omega)
        have := (Nat.le_div_iff_mul_le hp).2 (show 1 * 2 ^ (r - 1) ≤ a ^^^ b by omega)
        have := (Nat.div_lt_iff_lt_mul hp).2 (show a ^^^ b < 2 * 2 ^ (r - 1) by omega)
        omega
      rw [h7]
    rw [show 63 - (64 - r) = r - 1 by omega]
    rw [Nat.testBit_xor] at h4
    revert h4
    cases a.testBit (r - 1) <;> cases b.testBit (r - 1) <;> simp
  · constructor
    · intro e
      have : r = 0 := by omega
      subst this
      have := h1.1
      simpa using this
    · intro e
      rw [e] at h1
      rcases Nat.eq_zero_or_pos r with h | h
      · omega
      · have := h1.2 h
        have : 0 < 2 ^ (r - 1) := Nat.pow_pos (by omega)
        omega

/-- How many bits two subnets of one family have in common. -/
theorem common_eq {p q : T_api_Net} (hp : RN p) (hq : RN q) (hv : p.fAddr.fV6 = q.fAddr.fV6) :
    ∃ k : Nat, g_trie_common p q = some (k : Int) ∧ k ≤ p.fBits.toNat ∧ k ≤ q.fBits.toNat ∧ (∀ i, i < k → bitN p.fAddr i = bitN q.fAddr i) ∧ (k < p.fBits.toNat → k < q.fBits.toNat → bitN p.fAddr k ≠ bitN q.fAddr k) := by
  have fp := hp.fits; have fq := hq.fits
  have a1 := fp.hi0; have a2 := fp.hi1; have a3 := fp.lo0; have a4 := fp.lo1
  have b1 := fq.hi0; have b2 := fq.hi1; have b3 := fq.lo0; have b4 := fq.lo1
  have n1 := hp.nn; have n2 := hq.nn; have l1 := hp.le; have l2 := hq.le
  have v4p := fp.v4; have v4q := fq.v4
  clear hp hq fp fq
  obtain ⟨⟨v, hi, lo⟩, n⟩ := p
  obtain ⟨⟨v', hi', lo'⟩, n'⟩ := q
  simp only at hv a1 a2 a3 a4 b1 b2 b3 b4 n1 n2 v4p v4q
  subst hv
  obtain ⟨x, rfl⟩ := nat_of a1
  obtain ⟨y, rfl⟩ := nat_of a3
  obtain ⟨x', rfl⟩ := nat_of b1
  obtain ⟨y', rfl⟩ := nat_of b3
  obtain ⟨n, rfl⟩ := nat_of n1
  obtain ⟨n', rfl⟩ := nat_of n2
  have hmin : (if (n' : Int) < (n : Int) then (n' : Int) else (n : Int)) = ((min n n' : Nat) : Int) := by split <;> omega
  have hmn : ∀ k : Nat, (if ((min n n' : Nat) : Int) < (k : Int) then ((min n n' : Nat) : Int) else (k : Int)) = ((min k (min n n') : Nat) : Int) := fun k => by split <;> omega
  obtain ⟨k1, c1, c2, c3, c4, c5⟩ := lead x x' (by omega) (by omega)
  obtain ⟨k2, d1, d2, d3, d4, d5⟩ := lead y y' (by omega) (by omega)
  simp only [g_trie_common, xor_u64 x x' (by omega) (by omega), xor_u64 y y' (by omega) (by omega), c2, d2, Option.bind_some, hmin]
  -- what is to be shown of a number
  have fin : ∀ k : Nat, (∀ i, i < k → i < wid ⟨v, x, y⟩ → bitN ⟨v, x, y⟩ i = bitN ⟨v, x', y'⟩ i) → (k < wid ⟨v, x, y⟩ → bitN ⟨v, x, y⟩ k ≠ bitN ⟨v, x', y'⟩ k) →
      (min k (min n n')) ≤ n ∧ (min k (min n n')) ≤ n' ∧ (∀ i, i < min k (min n n') → bitN ⟨v, x, y⟩ i = bitN ⟨v, x', y'⟩ i) ∧ ((min k (min n n')) < n → (min k (min n n')) < n' → bitN ⟨v, x, y⟩ (min k (min n n')) ≠ bitN ⟨v, x', y'⟩ (min k (min n n'))) := by
    intro k h1 h2
    simp only at l1 l2
    refine ⟨by omega, by omega, fun i hi => h1 i (by omega) (by omega), fun h3 h4 => ?_⟩
    have e : min k (min n n') = k := by omega
    rw [e]
    exact h2 (by omega)
  cases v with
  | false =>
    have e1 := (v4p rfl).1; have e2 := (v4q rfl).1
    have e3 := (v4p rfl).2; have e4 := (v4q rfl).2
    have hx0 : x ^^^ x' = 0 := by rw [show x = x' by omega, Nat.xor_self]
    have hk2 : 32 ≤ k2 := by
      rcases Nat.lt_or_ge k2 32 with h | h
      · exfalso
        apply d4 (by omega)
        rw [Nat.testBit_lt_two_pow (Nat.lt_of_lt_of_le (show y < 2 ^ 32 by omega) (Nat.pow_le_pow_right (by omega) (by omega))), Nat.testBit_lt_two_pow (Nat.lt_of_lt_of_le (show y' < 2 ^ 32 by omega) (Nat.pow_le_pow_right (by omega) (by omega)))]
      · exact h
    rw [hx0, show (((0 : Nat) : Int) == 0) = true from rfl, cond_true]
    have e5 : sub64 (add64 64 (k2 : Int)) (sub64 128 32) = ((k2 - 32 : Nat) : Int) := by
      rw [add64_id (by omega) (by omega), show sub64 (128 : Int) 32 = 96 from rfl, sub64_id (by omega) (by omega)]; omega
    simp only [g_trie_common_c0, Bool.not_false, cond_true, g_addr_Bits, cond_false, Option.bind_some, e5, hmn]
    refine ⟨_, rfl, ?_⟩
    refine fin (k2 - 32) (fun i h1 h2 => ?_) (fun h => ?_)
    · have h2 : i < 32 := h2
      show (y.testBit (32 - 1 - i)) = (y'.testBit (32 - 1 - i))
      exact d3 _ (by omega)
    · have h : k2 - 32 < 32 := h
      show (y.testBit (32 - 1 - (k2 - 32))) ≠ (y'.testBit (32 - 1 - (k2 - 32)))
      rw [show 32 - 1 - (k2 - 32) = 63 - k2 by omega]
      exact d4 (by omega)
  | true =>
    have hb : ∀ (x y : Nat), y < 2 ^ 64 → ∀ i, bitN ⟨true, (x : Int), (y : Int)⟩ i = if 127 - i < 64 then y.testBit (127 - i) else x.testBit (127 - i - 64) := fun x y hy i => by
      unfold bitN num wid
      simp only [if_true, Int.toNat_natCast]
      rw [num6_bit (by omega)]
    by_cases hx : x ^^^ x' = 0
    · rw [hx, show (((0 : Nat) : Int) == 0) = true from rfl, cond_true]
      have hxx : x = x' := by
        apply Nat.eq_of_testBit_eq
        intro j
        exact c3 j (by have := c5.2 hx; omega)
      have e5 : add64 64 (k2 : Int) = ((64 + k2 : Nat) : Int) := by rw [add64_id (by omega) (by omega)]; omega
      simp only [g_trie_common_c0, Bool.not_true, cond_false, e5, hmn]
      refine ⟨_, rfl, ?_⟩
      refine fin (64 + k2) (fun i h1 h2 => ?_) (fun h => ?_)
      · have h2 : i < 128 := h2
        rw [hb x y (by omega), hb x' y' (by omega), hxx]
        split
        · exact d3 _ (by omega)
        · rfl
      · have h : 64 + k2 < 128 := h
        rw [hb x y (by omega), hb x' y' (by omega), if_pos (by omega), if_pos (by omega)]
        rw [show 127 - (64 + k2) = 63 - k2 by omega]
        exact d4 (by omega)
    · have hk : k1 < 64 := by
        rcases Nat.lt_or_ge k1 64 with h | h
        · exact h
        · exact absurd (c5.1 (by omega)) hx
      have hne : (((x ^^^ x' : Nat) : Int) == 0) = false := by
        rw [beq_eq_false_iff_ne]
        intro e
        exact hx (by omega)
      rw [hne, cond_false]
      simp only [g_trie_common_c0, Bool.not_true, cond_false, hmn]
      refine ⟨_, rfl, ?_⟩
      refine fin k1 (fun i h1 h2 => ?_) (fun h => ?_)
      · rw [hb x y (by omega), hb x' y' (by omega), if_neg (by omega), if_neg (by omega)]
        exact c3 _ (by omega)
      · rw [hb x y (by omega), hb x' y' (by omega), if_neg (by omega), if_neg (by omega)]
        rw [show 127 - k1 - 64 = 63 - k1 by omega]
        exact c4 hk

end Go.Proofs.Ytaakonlnlfbfkaa
