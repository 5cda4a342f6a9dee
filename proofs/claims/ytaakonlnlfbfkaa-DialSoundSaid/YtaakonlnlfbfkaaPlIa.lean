/-
  PLAIN LAWS: groups, bit by bit; the reference's Free.
-/
import Derived.Test.YtaakonlnlfbfkaaPlH
namespace Go.Proofs.Ytaakonlnlfbfkaa
set_option linter.unusedSimpArgs false
set_option linter.unusedVariables false

/-! ### Bits -/
def bitA (a : T_api_Addr) (j : Nat) : Int := if a.fV6 then a.fHi / 2 ^ (63 - j) % 2 else a.fLo / 2 ^ (31 - j) % 2

theorem bit_at (n k : Nat) (hk : k < 64) (hn : n < 2 ^ 64) : IntKind.i64.wrap (IntKind.u64.wrap (((BitVec.ofInt (IntKind.bits .u64) (Int.fdiv (n : Int) (2 ^ (min (IntKind.u64.wrap (k : Int)).toNat (IntKind.bits .u64))))) &&& (BitVec.ofInt (IntKind.bits .u64) (1 : Int))).toNat : Int)) = (n : Int) / 2 ^ k % 2 := by
  have e0 : (IntKind.u64.wrap (k : Int)).toNat = k := by rw [wrap_u64 (by omega) (by omega)]; rfl
  rw [e0, show min k (IntKind.bits .u64) = k from Nat.min_eq_left (by simp [IntKind.bits]; omega)]
  have e : Int.fdiv (n : Int) (2 ^ k) = ((n / 2 ^ k : Nat) : Int) := by
    rw [Int.fdiv_eq_ediv_of_nonneg _ (by have : (0 : Int) < 2 ^ k := Int.pow_pos (by omega); omega)]
    simp
  have h1 : n / 2 ^ k < 2 ^ 64 := Nat.lt_of_le_of_lt (Nat.div_le_self _ _) hn
  rw [e, show (1 : Int) = ((1 : Nat) : Int) from rfl, and_int _ 1 h1 (by omega), Nat.and_one_is_mod]
  have h2 : n / 2 ^ k % 2 < 2 := Nat.mod_lt _ (by omega)
  have h3 : IntKind.i64.wrap ((n / 2 ^ k % 2 : Nat) : Int) = ((n / 2 ^ k % 2 : Nat) : Int) := by
    simp only [IntKind.wrap, IntKind.bits, IntKind.signed]
    simp
    omega
  rw [h3]
  simp

theorem bit_eq (a : T_api_Addr) (h : a.ok) (j : Nat) (hj : j < if a.fV6 then 32 else 16) : g_doormanref06_Bit a (j : Int) = some (bitA a j) := by
  obtain ⟨v, hi, lo⟩ := a
  obtain ⟨_, h1, h2, _⟩ := h
  have h1 := okI_u64 h1
  have h2 := okI_u64 h2
  simp only at h1 h2
  obtain ⟨n, hn⟩ := nat_of h1.1
  obtain ⟨m, hm⟩ := nat_of h2.1
  subst hn hm
  cases v with
  | false =>
    have hj : j < 16 := by simpa using hj
    have e : sub64 (31 : Int) (j : Int) = ((31 - j : Nat) : Int) := by rw [sub64_id (by omega) (by omega)]; omega
    simp only [g_doormanref06_Bit, g_doormanref06_Bits, g_doormanref06_Bit_c0, cond_decide', Option.bind_some, cond_false, Bool.not_false, cond_true, e]
    rw [if_neg (by omega), if_neg (by omega), need_yes (by rw [wrap_u64 (by omega) (by omega)]; omega), bit_at m (31 - j) (by omega) (by omega)]
    simp [bitA]
  | true =>
    have hj : j < 32 := by simpa using hj
    have et : Int.tmod (j : Int) 64 = (j : Int) := by rw [Int.tmod_eq_emod_of_nonneg (by omega)]; omega
    have e : sub64 (63 : Int) (j : Int) = ((63 - j : Nat) : Int) := by rw [sub64_id (by omega) (by omega)]; omega
    simp only [g_doormanref06_Bit, g_doormanref06_Bits, g_doormanref06_Bit_c0, cond_decide', Option.bind_some, cond_false, Bool.not_true, cond_true, et, e]
    rw [if_neg (by omega), if_neg (by omega), if_pos (by omega), need_yes (by rw [wrap_u64 (by omega) (by omega)]; omega), bit_at n (63 - j) (by omega) (by omega)]
    simp [bitA]

theorem high_bits (n m t b : Nat) (hb : b ≤ t) (hn : n < 2 ^ t) (hm : m < 2 ^ t) : (∀ j, j < b → n / 2 ^ (t - 1 - j) % 2 = m / 2 ^ (t - 1 - j) % 2) ↔ n / 2 ^ (t - b) = m / 2 ^ (t - b) := by
  constructor
  · intro h
    apply Nat.eq_of_testBit_eq
    intro i
    rw [Nat.testBit_div_two_pow, Nat.testBit_div_two_pow]
    by_cases hi : i < b
    · have := h (b - 1 - i) (by omega)
      rw [show t - 1 - (b - 1 - i) = i + (t - b) by omega] at this
      rw [Nat.testBit_eq_decide_div_mod_eq, Nat.testBit_eq_decide_div_mod_eq, this]
    · rw [Nat.testBit_lt_two_pow (Nat.lt_of_lt_of_le hn (Nat.pow_le_pow_right (by omega) (by omega))), Nat.testBit_lt_two_pow (Nat.lt_of_lt_of_le hm (Nat.pow_le_pow_right (by omega) (by omega)))]
  · intro h j hj
    have e : 2 ^ (t - 1 - j) = 2 ^ (t - b) * 2 ^ (b - 1 - j) := by rw [← Nat.pow_add]; congr 1; omega
    rw [e, ← Nat.div_div_eq_div_mul, ← Nat.div_div_eq_div_mul, h]

theorem same_loop (a b : T_api_Addr) (ha : a.ok) (hb : b.ok) (hv : a.fV6 = b.fV6) : ∀ fu (i : Nat), i ≤ 32 → 32 - i < fu →
    ∃ r, g_doormanref08_Same_c0 fu (i : Int) a b = some r ∧ (r = true ↔ ∀ j, i ≤ j → j < (if a.fV6 then 32 else 16) → bitA a j = bitA b j) := by
  intro fu
  induction fu with
  | zero => intro _ _ h; omega
  | succ fu ih =>
    intro i hi hf
    simp only [g_doormanref08_Same_c0, cond_decide']
    by_cases h : i < 32
    · rw [if_pos (by omega)]
      have ha1 : add64 (i : Int) 1 = ((i + 1 : Nat) : Int) := add1 (n := 32) h (by unfold maxLen; omega)
      rw [ha1]
      obtain ⟨r, h1, h2⟩ := ih (i + 1) (by omega) (by omega)
      by_cases hr : i < (if a.fV6 then 32 else 16)
      · have e1 := bit_eq a ha i hr
        have e2 := bit_eq b hb i (by rw [← hv]; exact hr)
        have step : ∃ r, ((g_doormanref06_Bit a (i : Int)).bind fun x3 => (g_doormanref06_Bit b (i : Int)).bind fun x4 => bif (x3 != x4) then some false else g_doormanref08_Same_c0 fu ((i + 1 : Nat) : Int) a b) = some r ∧ (r = true ↔ ∀ j, i ≤ j → j < (if a.fV6 then 32 else 16) → bitA a j = bitA b j) := by
          rw [e1, e2]
          simp only [Option.bind_some]
          by_cases he : bitA a i = bitA b i
          · rw [show (bitA a i != bitA b i) = false by simp [he], cond_false]
            refine ⟨r, h1, h2.trans ⟨fun q j h3 h4 => ?_, fun q j h3 h4 => q j (by omega) h4⟩⟩
            by_cases h5 : j = i
            · subst h5; exact he
            · exact q j (by omega) h4
          · rw [show (bitA a i != bitA b i) = true by simp [he], cond_true]
            exact ⟨false, rfl, by simp; exact ⟨i, Nat.le_refl _, hr, he⟩⟩
        cases hq : a.fV6
        · rw [hq] at hr
          have hr : i < 16 := by simpa using hr
          simp only [cond_false]
          rw [if_pos (by omega)]
          rw [hq] at step
          exact step
        · simp only [cond_true]
          rw [hq] at step
          exact step
      · cases hq : a.fV6
        · rw [hq] at hr h2
          have hr : 16 ≤ i := by simpa using hr
          simp only [cond_false]
          rw [if_neg (by omega)]
          refine ⟨r, h1, h2.trans ⟨fun q j h3 h4 => ?_, fun q j h3 h4 => q j (by omega) h4⟩⟩
          have : j < 16 := by simpa using h4
          omega
        · rw [hq] at hr
          exact absurd h (by simpa using hr)
    · rw [if_neg (by omega)]
      refine ⟨true, rfl, by simp; intro j h3 h4; split at h4 <;> omega⟩

theorem same_eq (a b : T_api_Addr) (ha : a.ok) (hb : b.ok) (hr : rightA b = true) : g_doormanref08_Same a b = some (decide (grp a = grp b)) := by
  have hs := same_loop a b ha hb
  simp only [g_doormanref08_Same, ref_right a ha, ref_right b hb, hr, Option.bind_some, Bool.not_true, cond_false]
  cases hra : rightA a with
  | false =>
    simp only [Bool.not_false, cond_true, Option.some.injEq]
    rw [eq_comm, decide_eq_false_iff_not]
    unfold grp
    rw [hra, hr]
    intro e
    have := congrArg T_api_Net.fBits e
    simp only [Bool.false_eq_true, if_false, if_true] at this
    split at this <;> simp at this
  | true =>
    simp only [Bool.not_true, cond_false]
    by_cases hv : a.fV6 = b.fV6
    · rw [show (!(a.fV6 == b.fV6)) = false by simp [hv], cond_false]
      obtain ⟨r, h1, h2⟩ := hs hv (((32 : Int) - (0 : Int)).toNat + 2) 0 (by omega) (by omega)
      have h1 : g_doormanref08_Same_c0 (((32 : Int) - (0 : Int)).toNat + 2) 0 a b = some r := h1
      rw [h1, Option.some.injEq, Bool.eq_iff_iff, h2, decide_eq_true_eq]
      obtain ⟨v, hi, lo⟩ := a
      obtain ⟨v', hi', lo'⟩ := b
      simp only at hv
      subst hv
      have ha1 := okI_u64 ha.2.1
      have ha2 := okI_u64 ha.2.2.1
      have hb1 := okI_u64 hb.2.1
      have hb2 := okI_u64 hb.2.2.1
      simp only at ha1 ha2 hb1 hb2
      obtain ⟨n, hn⟩ := nat_of ha1.1
      obtain ⟨m, hm⟩ := nat_of ha2.1
      obtain ⟨n', hn'⟩ := nat_of hb1.1
      obtain ⟨m', hm'⟩ := nat_of hb2.1
      subst hn hm hn' hm'
      cases v with
      | false =>
        have c1 : (n : Int) = 0 ∧ (m : Int) < 4294967296 := by simpa [rightA] using hra
        have c2 : (n' : Int) = 0 ∧ (m' : Int) < 4294967296 := by simpa [rightA] using hr
        have hb := high_bits m m' 32 16 (by omega) (by omega) (by omega)
        simp only [grp, hra, hr, if_true, Bool.false_eq_true, if_false, T_api_Net.mk.injEq, T_api_Addr.mk.injEq, true_and, and_true]
        have e : (∀ j, 0 ≤ j → j < 16 → bitA ⟨false, n, m⟩ j = bitA ⟨false, n', m'⟩ j) ↔ ∀ j, j < 16 → m / 2 ^ (32 - 1 - j) % 2 = m' / 2 ^ (32 - 1 - j) % 2 := by
          constructor
          · intro q j h
            have := q j (by omega) h
            simp only [bitA, Bool.false_eq_true, if_false] at this
            rw [show 32 - 1 - j = 31 - j by omega]
            exact_mod_cast this
          · intro q j _ h
            have := q j h
            rw [show 32 - 1 - j = 31 - j by omega] at this
            simp only [bitA, Bool.false_eq_true, if_false]
            exact_mod_cast this
        rw [e, hb]
        rw [show (2 : Nat) ^ (32 - 16) = 65536 from rfl]
        constructor <;> intro q <;> omega
      | true =>
        have hb := high_bits n n' 64 32 (by omega) (by omega) (by omega)
        simp only [grp, hra, hr, if_true, Bool.false_eq_true, if_false, T_api_Net.mk.injEq, T_api_Addr.mk.injEq, true_and, and_true]
        have e : (∀ j, 0 ≤ j → j < 32 → bitA ⟨true, n, m⟩ j = bitA ⟨true, n', m'⟩ j) ↔ ∀ j, j < 32 → n / 2 ^ (64 - 1 - j) % 2 = n' / 2 ^ (64 - 1 - j) % 2 := by
          constructor
          · intro q j h
            have := q j (by omega) h
            simp only [bitA, if_true] at this
            rw [show 64 - 1 - j = 63 - j by omega]
            exact_mod_cast this
          · intro q j _ h
            have := q j h
            rw [show 64 - 1 - j = 63 - j by omega] at this
            simp only [bitA, if_true]
            exact_mod_cast this
        rw [e, hb]
        rw [show (2 : Nat) ^ (64 - 32) = 4294967296 from rfl]
        constructor <;> intro q <;> omega
    · rw [show (!(a.fV6 == b.fV6)) = true by simp [hv], cond_true, Option.some.injEq, eq_comm, decide_eq_false_iff_not]
      unfold grp
      rw [hra, hr]
      intro e
      have e1 := congrArg (fun x : T_api_Net => x.fAddr.fV6) e
      simp only [if_true] at e1
      apply hv
      cases h1 : a.fV6 <;> cases h2 : b.fV6 <;> simp [h1, h2] at e1 ⊢

/-! ### The reference's Free -/
end Go.Proofs.Ytaakonlnlfbfkaa
