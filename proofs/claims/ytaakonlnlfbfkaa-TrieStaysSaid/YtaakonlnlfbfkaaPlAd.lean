/-
  PLAIN LAWS: addresses: what the program tells and what the reference tells are one.
-/
import Derived.Test.YtaakonlnlfbfkaaPlA
import Derived.Test.YtaakonlnlfbfkaaTriA1
namespace Go.Proofs.Ytaakonlnlfbfkaa
set_option linter.unusedSimpArgs false
set_option linter.unusedVariables false

def famA (a : T_api_Addr) : Int := if a.fV6 then 1 else 0
def cmpA (a b : T_api_Addr) : Int := orI (cmpI (famA a) (famA b)) (orI (cmpI a.fHi b.fHi) (cmpI a.fLo b.fLo))

theorem orI_lt {a b : Int} : orI a b < 0 ↔ a < 0 ∨ (a = 0 ∧ b < 0) := by unfold orI; constructor <;> intro h <;> (repeat' split at *) <;> omega
theorem orI_gt {a b : Int} : 0 < orI a b ↔ 0 < a ∨ (a = 0 ∧ 0 < b) := by unfold orI; constructor <;> intro h <;> (repeat' split at *) <;> omega
theorem orI_zero {a b : Int} : orI a b = 0 ↔ a = 0 ∧ b = 0 := by unfold orI; constructor <;> intro h <;> (repeat' split at *) <;> omega

theorem famA_eq {a b : T_api_Addr} : famA a = famA b ↔ a.fV6 = b.fV6 := by unfold famA; cases a.fV6 <;> cases b.fV6 <;> simp

theorem cmpA_lt {a b : T_api_Addr} : cmpA a b < 0 ↔ famA a < famA b ∨ (famA a = famA b ∧ (a.fHi < b.fHi ∨ (a.fHi = b.fHi ∧ a.fLo < b.fLo))) := by simp only [cmpA, orI_lt, cmpI_lt, cmpI_zero]
theorem cmpA_gt {a b : T_api_Addr} : 0 < cmpA a b ↔ famA b < famA a ∨ (famA a = famA b ∧ (b.fHi < a.fHi ∨ (a.fHi = b.fHi ∧ b.fLo < a.fLo))) := by simp only [cmpA, orI_gt, cmpI_gt, cmpI_zero]
theorem cmpA_zero {a b : T_api_Addr} : cmpA a b = 0 ↔ a = b := by
  simp only [cmpA, orI_zero, cmpI_zero, famA_eq]
  obtain ⟨v, hi, lo⟩ := a
  obtain ⟨v', hi', lo'⟩ := b
  simp

theorem cmpA_trans {a b c : T_api_Addr} (h1 : cmpA a b < 0) (h2 : cmpA b c < 0) : cmpA a c < 0 := by
  rw [cmpA_lt] at *
  omega


theorem cmpA_swap {a b : T_api_Addr} : 0 < cmpA a b ↔ cmpA b a < 0 := by
  rw [cmpA_gt, cmpA_lt]
  constructor <;> intro h <;> omega

def cmpN (a b : T_api_Net) : Int := orI (cmpA a.fAddr b.fAddr) (cmpI a.fBits b.fBits)

theorem cmpN_lt {a b : T_api_Net} : cmpN a b < 0 ↔ cmpA a.fAddr b.fAddr < 0 ∨ (a.fAddr = b.fAddr ∧ a.fBits < b.fBits) := by simp only [cmpN, orI_lt, cmpI_lt, cmpA_zero]
theorem cmpN_gt {a b : T_api_Net} : 0 < cmpN a b ↔ 0 < cmpA a.fAddr b.fAddr ∨ (a.fAddr = b.fAddr ∧ b.fBits < a.fBits) := by simp only [cmpN, orI_gt, cmpI_gt, cmpA_zero]
theorem cmpN_zero {a b : T_api_Net} : cmpN a b = 0 ↔ a = b := by
  simp only [cmpN, orI_zero, cmpI_zero, cmpA_zero]
  obtain ⟨x, p⟩ := a
  obtain ⟨y, q⟩ := b
  simp
theorem cmpN_swap {a b : T_api_Net} : 0 < cmpN a b ↔ cmpN b a < 0 := by
  rw [cmpN_gt, cmpN_lt, cmpA_swap]
  constructor <;> rintro (h | ⟨h1, h2⟩) <;> first | exact .inl h | exact .inr ⟨h1.symm, h2⟩
theorem cmpN_trans {a b c : T_api_Net} (h1 : cmpN a b < 0) (h2 : cmpN b c < 0) : cmpN a c < 0 := by
  rw [cmpN_lt] at *
  rcases h1 with h1 | ⟨h1, h3⟩ <;> rcases h2 with h2 | ⟨h2, h4⟩
  · exact .inl (cmpA_trans h1 h2)
  · exact .inl (h2 ▸ h1)
  · exact .inl (h1 ▸ h2)
  · exact .inr ⟨h1.trans h2, by omega⟩

theorem nat_of {a : Int} (h : 0 ≤ a) : ∃ n : Nat, a = n := ⟨a.toNat, by omega⟩

def rightA (a : T_api_Addr) : Bool := if a.fV6 then !(decide (a.fHi = 0) && decide (a.fLo / 4294967296 = 65535)) else decide (a.fHi = 0) && decide (a.fLo < 4294967296)

theorem mask32 (n : Nat) (h : n ≤ 18446744073709551615) : IntKind.u32.wrap (IntKind.u64.wrap (((BitVec.ofInt (IntKind.bits .u64) (n : Int)) &&& (BitVec.ofInt (IntKind.bits .u64) (4294967295 : Int))).toNat : Int)) = ((n % 4294967296 : Nat) : Int) := by
  have := and_u64 n 4294967295 (by omega) (by omega)
  rw [show ((4294967295 : Nat) : Int) = (4294967295 : Int) from rfl] at this
  rw [this, show (4294967295 : Nat) = 2 ^ 32 - 1 from rfl, Nat.and_two_pow_sub_one_eq_mod]
  rw [show (2 : Nat) ^ 32 = 4294967296 from rfl]
  have h1 : n % 4294967296 < 4294967296 := Nat.mod_lt _ (by omega)
  rw [wrap_u64 (by omega) (by omega)]
  simp only [IntKind.wrap, IntKind.bits, IntKind.signed]
  simp

theorem v4_eq (n : Nat) (h : n < 4294967296) : g_addr_V4 ((n : Nat) : Int) = some ⟨false, 0, n⟩ := by
  unfold g_addr_V4
  rw [wrap_u64 (by omega) (by omega)]

theorem addr_right (a : T_api_Addr) (h : a.ok) : g_addr_Right a = some (rightA a) := by
  obtain ⟨v, hi, lo⟩ := a
  obtain ⟨_, h1, h2, _⟩ := h
  have h1 := okI_u64 h1
  have h2 := okI_u64 h2
  simp only at h1 h2
  obtain ⟨n, rfl⟩ := nat_of h2.1
  have hm := mask32 n (by omega)
  have hlt : n % 4294967296 < 4294967296 := Nat.mod_lt _ (by omega)
  have hd : Int.fdiv (n : Int) (2 ^ (min (32 : Int).toNat (IntKind.bits .u64))) = (n : Int) / 4294967296 := by
    rw [show (2 : Int) ^ (min (32 : Int).toNat (IntKind.bits .u64)) = 4294967296 from rfl, Int.fdiv_eq_ediv_of_nonneg _ (by omega)]
  cases v with
  | true =>
    simp only [g_addr_Right, g_addr_V6, rightA, cond_true, hd, hm]
    have hb : ∀ (p q : Int), (p == q) = decide (p = q) := fun p q => by rw [Bool.eq_iff_iff]; simp
    have hv := v4_eq _ hlt
    by_cases h3 : hi = 0
    · by_cases h4 : (n : Int) / 4294967296 = 65535
      · rw [hb, hb, decide_eq_true h3, decide_eq_true h4, cond_true, cond_true, hv]
        simp
      · rw [hb, hb, decide_eq_true h3, decide_eq_false h4, cond_true, cond_false]
        simp
    · rw [hb, decide_eq_false h3, cond_false]
      simp
  | false =>
    simp only [g_addr_Right, rightA, cond_false, hm, v4_eq _ hlt, Option.bind_some]
    congr 1
    rw [Bool.eq_iff_iff]
    simp
    constructor
    · rintro ⟨h5, h6⟩; exact ⟨h5.symm, by omega⟩
    · rintro ⟨h5, h6⟩; exact ⟨h5.symm, by omega⟩

theorem ref_right (a : T_api_Addr) (h : a.ok) : g_doormanref06_Right a = some (rightA a) := by
  obtain ⟨v, hi, lo⟩ := a
  obtain ⟨_, h1, h2, _⟩ := h
  have h1 := okI_u64 h1
  have h2 := okI_u64 h2
  simp only at h1 h2
  have hd : IntKind.u64.wrap (Int.tdiv lo 4294967296) = lo / 4294967296 := by
    rw [Int.tdiv_eq_ediv_of_nonneg h2.1]
    exact wrap_u64 (by omega) (by omega)
  cases v with
  | true =>
    simp only [g_doormanref06_Right, rightA, hd, Bool.not_true, cond_false, if_true]
    generalize lo / 4294967296 = q
    simp only [Bool.cond_eq_ite, beq_iff_eq, bne_iff_ne, ne_eq, decide_eq_true_eq, Bool.not_eq_true', Bool.not_eq_false', decide_eq_false_iff_not]
    repeat' split
    all_goals first | rfl | (rw [Option.some.injEq, Bool.eq_iff_iff]; simp only [Bool.and_eq_true, Bool.not_eq_true', Bool.not_eq_false', Bool.and_eq_false_iff, decide_eq_true_eq, decide_eq_false_iff_not, beq_iff_eq, bne_iff_ne, ne_eq, iff_true, iff_false, true_iff, false_iff, Bool.false_eq_true, Bool.true_eq_false, not_true_eq_false, not_false_eq_true]; omega)
  | false =>
    simp only [g_doormanref06_Right, rightA, Bool.not_false, cond_true, Bool.false_eq_true, if_false]
    simp only [Bool.cond_eq_ite, beq_iff_eq, bne_iff_ne, ne_eq, decide_eq_true_eq, Bool.not_eq_true', Bool.not_eq_false', decide_eq_false_iff_not]
    repeat' split
    all_goals first | rfl | (rw [Option.some.injEq, Bool.eq_iff_iff]; simp only [Bool.and_eq_true, Bool.not_eq_true', Bool.not_eq_false', Bool.and_eq_false_iff, decide_eq_true_eq, decide_eq_false_iff_not, beq_iff_eq, bne_iff_ne, ne_eq, iff_true, iff_false, true_iff, false_iff, Bool.false_eq_true, Bool.true_eq_false, not_true_eq_false, not_false_eq_true]; omega)

theorem ref_cmpA (a b : T_api_Addr) : g_doormanref06_Compare a b = some (cmpA a b) := by
  obtain ⟨v, hi, lo⟩ := a
  obtain ⟨v', hi', lo'⟩ := b
  simp only [g_doormanref06_Compare, g_doormanref06_Compare_c0, g_doormanref06_Compare_c1, cmpA, famA, cmpI, orI, T_api_Addr.mk.injEq]
  simp only [Bool.cond_eq_ite, bne_iff_ne, ne_eq, ite_not, decide_eq_true_eq, Bool.not_eq_true', beq_eq_false_iff_ne]
  cases v <;> cases v' <;> simp only [true_and, Bool.false_eq_true, Bool.true_eq_false, false_and, not_true_eq_false, not_false_eq_true, if_true, if_false, ite_true, ite_false, Bool.not_true, Bool.not_false]
  all_goals (repeat' split) <;> first | rfl | omega | (congr 1; omega) | simp_all

theorem ref_cmpN (a b : T_api_Net) : g_doormanref07_Compare a b = some (cmpN a b) := by
  simp only [g_doormanref07_Compare, ref_cmpA, Option.bind_some, cmpN, orI, cmpI]
  simp only [Bool.cond_eq_ite, bne_iff_ne, ne_eq, ite_not, decide_eq_true_eq, beq_iff_eq]
  generalize cmpA a.fAddr b.fAddr = c
  (repeat' split) <;> first | rfl | omega | (congr 1; omega) | simp_all

end Go.Proofs.Ytaakonlnlfbfkaa
