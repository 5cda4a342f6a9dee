/-
  PLAIN LAWS: addresses: what the program tells and what the reference tells are one.
-/
import Derived.Test.YtaakonlnlfbfkaaPlA
import Derived.Test.YtaakonlnlfbfkaaDiaA2
namespace Go.Proofs.Ytaakonlnlfbfkaa
set_option linter.unusedSimpArgs false
set_option linter.unusedVariables false

theorem nat_of {a : Int} (h : 0 ≤ a) : ∃ n : Nat, a = n := ⟨a.toNat, by omega⟩

def rightA (a : T_api_Addr) : Bool := if a.fV6 then !(decide (a.fHi = 0) && decide (a.fLo / 4294967296 = 65535)) else decide (a.fHi = 0) && decide (a.fLo < 4294967296)

theorem mask32 (n : Nat) (h : n ≤ 18446744073709551615) : IntKind.u32.wrap (IntKind.u64.wrap (((BitVec.ofInt (IntKind.bits .u64) (n : Int)) &&& (BitVec.ofInt (IntKind.bits .u64) (4294967295 : Int))).toNat : Int)) = ((n % 4294967296 : Nat) : Int) := by
  have := and_u64 n 4294967295 (by omega) (by omega)
  rw [show ((4294967295 : Nat) : Int) = (4294967295 : Int) from rfl] at this
  rw [this, show (4294967295 : Nat) = 2 ^ 32 - 1 from rfl, Nat.and_two_pow_sub_one_eq_mod]
  rw [show (2 : Nat) ^ 32 = 4294967296 from rfl]
  have h1 : n % 4294967296 < 4294967296 := Nat.mod_lt _ (by omega)
  rw [wrap_u64 (by omega) (by omega)]
  simp only [IntKind.wrap, IntKind.bits, IntKind.signed]
  simp

theorem v4_eq (n : Nat) (h : n < 4294967296) : g_addr_V4 ((n : Nat) : Int) = some ⟨false, 0, n⟩ := by
  unfold g_addr_V4
  rw [wrap_u64 (by omega) (by omega)]

theorem addr_right (a : T_api_Addr) (h : a.ok) : g_addr_Right a = some (rightA a) := by
  obtain ⟨v, hi, lo⟩ := a
  obtain ⟨_, h1, h2, _⟩ := h
  have h1 := okI_u64 h1
  have h2 := okI_u64 h2
  simp only at h1 h2
  obtain ⟨n, rfl⟩ := nat_of h2.1
  have hm := mask32 n (by omega)
  have hlt : n % 4294967296 < 4294967296 := Nat.mod_lt _ (by omega)
  have hd : Int.fdiv (n : Int) (2 ^ (min (32 : Int).toNat (IntKind.bits .u64))) = (n : Int) / 4294967296 := by
    rw [show (2 : Int) ^ (min (32 : Int).toNat (IntKind.bits .u64)) = 4294967296 from rfl, Int.fdiv_eq_ediv_of_nonneg _ (by omega)]
  cases v with
  | true =>
    simp only [g_addr_Right, g_addr_V6, rightA, cond_true, hd, hm]
    have hb : ∀ (p q : Int), (p == q) = decide (p = q) := fun p q => by rw [Bool.eq_iff_iff]; simp
    have hv := v4_eq _ hlt
    by_cases h3 : hi = 0
    · by_cases h4 : (n : Int) / 4294967296 = 65535
      · rw [hb, hb, decide_eq_true h3, decide_eq_true h4, cond_true, cond_true, hv]
        simp
      · rw [hb, hb, decide_eq_true h3, decide_eq_false h4, cond_true, cond_false]
        simp
    · rw [hb, decide_eq_false h3, cond_false]
      simp
  | false =>
    simp only [g_addr_Right, rightA, cond_false, hm, v4_eq _ hlt, Option.bind_some]
    congr 1
    rw [Bool.eq_iff_iff]
    simp
    constructor
    · rintro ⟨h5, h6⟩; exact ⟨h5.symm, by omega⟩
    · rintro ⟨h5, h6⟩; exact ⟨h5.symm, by omega⟩

theorem ref_right (a : T_api_Addr) (h : a.ok) : g_doormanref06_Right a = some (rightA a) := by
  obtain ⟨v, hi, lo⟩ := a
  obtain ⟨_, h1, h2, _⟩ := h
  have h1 := okI_u64 h1
  have h2 := okI_u64 h2
  simp only at h1 h2
  have hd : IntKind.u64.wrap (Int.tdiv lo 4294967296) = lo / 4294967296 := by
    rw [Int.tdiv_eq_ediv_of_nonneg h2.1]
    exact wrap_u64 (by omega) (by omega)
  cases v with
  | true =>
    simp only [g_doormanref06_Right, rightA, hd, Bool.not_true, cond_false, if_true]
    generalize lo / 4294967296 = q
    simp only [Bool.cond_eq_ite, beq_iff_eq, bne_iff_ne, ne_eq, decide_eq_true_eq, Bool.not_eq_true', Bool.not_eq_false', decide_eq_false_iff_not]
    repeat' split
    all_goals first | rfl | (rw [Option.some.injEq, Bool.eq_iff_iff]; simp only [Bool.and_eq_true, Bool.not_eq_true', Bool.not_eq_false', Bool.and_eq_false_iff, decide_eq_true_eq, decide_eq_false_iff_not, beq_iff_eq, bne_iff_ne, ne_eq, iff_true, iff_false, true_iff, false_iff, Bool.false_eq_true, Bool.true_eq_false, not_true_eq_false, not_false_eq_true]; omega)
  | false =>
    simp only [g_doormanref06_Right, rightA, Bool.not_false, cond_true, Bool.false_eq_true, if_false]
    simp only [Bool.cond_eq_ite, beq_iff_eq, bne_iff_ne, ne_eq, decide_eq_true_eq, Bool.not_eq_true', Bool.not_eq_false', decide_eq_false_iff_not]
    repeat' split
    all_goals first | rfl | (rw [Option.some.injEq, Bool.eq_iff_iff]; simp only [Bool.and_eq_true, Bool.not_eq_true', Bool.not_eq_false', Bool.and_eq_false_iff, decide_eq_true_eq, decide_eq_false_iff_not, beq_iff_eq, bne_iff_ne, ne_eq, iff_true, iff_false, true_iff, false_iff, Bool.false_eq_true, Bool.true_eq_false, not_true_eq_false, not_false_eq_true]; omega)

end Go.Proofs.Ytaakonlnlfbfkaa
