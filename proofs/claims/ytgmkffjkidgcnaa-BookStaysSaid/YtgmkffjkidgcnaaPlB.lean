/-
  PLAIN LAWS: addresses, ends, entries: what the program tells and what the reference tells are one.
-/
import Derived.Test.YtgmkffjkidgcnaaPlA
import Derived.Test.YtgmkffjkidgcnaaBookA1
namespace Go.Proofs.Ytgmkffjkidgcnaa
set_option linter.unusedSimpArgs false
set_option linter.unusedVariables false

theorem nat_of {a : Int} (h : 0 ≤ a) : ∃ n : Nat, a = n := ⟨a.toNat, by omega⟩

def rightA (a : T_api_Addr) : Bool := if a.fV6 then !(decide (a.fHi = 0) && decide (a.fLo / 4294967296 = 65535)) else decide (a.fHi = 0) && decide (a.fLo < 4294967296)

theorem mask32 (n : Nat) (h : n ≤ 18446744073709551615) : IntKind.u32.wrap (IntKind.u64.wrap (((BitVec.ofInt (IntKind.bits .u64) (n : Int)) &&& (BitVec.ofInt (IntKind.bits .u64) (4294967295 : Int))).toNat : Int)) = ((n % 4294967296 : Nat) : Int) := by
  have := and_u64 n 4294967295 (by omega) (by omega)
  rw [show ((4294967295 : Nat) : Int) = (4294967295 : Int) from rfl] at this
  rw [this, show (4294967295 : Nat) = 2 ^ 32 - 1 from rfl, Nat.and_two_pow_sub_one_eq_mod]
  rw [show (2 : Nat) ^ 32 = 4294967296 from rfl]
  have h1 : n % 4294967296 < 4294967296 := Nat.mod_lt _ (by omega)
  rw [wrap_u64 (by omega) (by omega)]
  simp only [IntKind.wrap, IntKind.bits, IntKind.signed]
  simp

theorem v4_eq (n : Nat) (h : n < 4294967296) : g_addr_V4 ((n : Nat) : Int) = some ⟨false, 0, n⟩ := by
  unfold g_addr_V4
  rw [wrap_u64 (by omega) (by omega)]

theorem addr_right (a : T_api_Addr) (h : a.ok) : g_addr_Right a = some (rightA a) := by
  obtain ⟨v, hi, lo⟩ := a
  obtain ⟨_, h1, h2, _⟩ := h
  have h1 := okI_u64 h1
  have h2 := okI_u64 h2
  simp only at h1 h2
  obtain ⟨n, rfl⟩ := nat_of h2.1
  have hm := mask32 n (by omega)
  have hlt : n % 4294967296 < 4294967296 := Nat.mod_lt _ (by omega)
  have hd : Int.fdiv (n : Int) (2 ^ (min (32 : Int).toNat (IntKind.bits .u64))) = (n : Int) / 4294967296 := by
    rw [show (2 : Int) ^ (min (32 : Int).toNat (IntKind.bits .u64)) = 4294967296 from rfl, Int.fdiv_eq_ediv_of_nonneg _ (by omega)]
  cases v with
  | true =>
    simp only [g_addr_Right, g_addr_V6, rightA, cond_true, hd, hm]
    have hb : ∀ (p q : Int), (p == q) = decide (p = q) := fun p q => by rw [Bool.eq_iff_iff]; simp
    have hv := v4_eq _ hlt
    by_cases h3 : hi = 0
    · by_cases h4 : (n : Int) / 4294967296 = 65535
      · rw [hb, hb, decide_eq_true h3, decide_eq_true h4, cond_true, cond_true, hv]
        simp
      · rw [hb, hb, decide_eq_true h3, decide_eq_false h4, cond_true, cond_false]
        simp
    · rw [hb, decide_eq_false h3, cond_false]
      simp
  | false =>
    simp only [g_addr_Right, rightA, cond_false, hm, v4_eq _ hlt, Option.bind_some]
    congr 1
    rw [Bool.eq_iff_iff]
    simp
    constructor
    · rintro ⟨h5, h6⟩; exact ⟨h5.symm, by omega⟩
    · rintro ⟨h5, h6⟩; exact ⟨h5.symm, by omega⟩

theorem ref_right (a : T_api_Addr) (h : a.ok) : g_doormanref06_Right a = some (rightA a) := by
  obtain ⟨v, hi, lo⟩ := a
  obtain ⟨_, h1, h2, _⟩ := h
  have h1 := okI_u64 h1
  have h2 := okI_u64 h2
  simp only at h1 h2
  have hd : IntKind.u64.wrap (Int.tdiv lo 4294967296) = lo / 4294967296 := by
    rw [Int.tdiv_eq_ediv_of_nonneg h2.1]
    exact wrap_u64 (by omega) (by omega)
  cases v with
  | true =>
    simp only [g_doormanref06_Right, rightA, hd, Bool.not_true, cond_false, if_true]
    generalize lo / 4294967296 = q
    simp only [Bool.cond_eq_ite, beq_iff_eq, bne_iff_ne, ne_eq, decide_eq_true_eq, Bool.not_eq_true', Bool.not_eq_false', decide_eq_false_iff_not]
    repeat' split
    all_goals first | rfl | (rw [Option.some.injEq, Bool.eq_iff_iff]; simp only [Bool.and_eq_true, Bool.not_eq_true', Bool.not_eq_false', Bool.and_eq_false_iff, decide_eq_true_eq, decide_eq_false_iff_not, beq_iff_eq, bne_iff_ne, ne_eq, iff_true, iff_false, true_iff, false_iff, Bool.false_eq_true, Bool.true_eq_false, not_true_eq_false, not_false_eq_true]; omega)
  | false =>
    simp only [g_doormanref06_Right, rightA, Bool.not_false, cond_true, Bool.false_eq_true, if_false]
    simp only [Bool.cond_eq_ite, beq_iff_eq, bne_iff_ne, ne_eq, decide_eq_true_eq, Bool.not_eq_true', Bool.not_eq_false', decide_eq_false_iff_not]
    repeat' split
    all_goals first | rfl | (rw [Option.some.injEq, Bool.eq_iff_iff]; simp only [Bool.and_eq_true, Bool.not_eq_true', Bool.not_eq_false', Bool.and_eq_false_iff, decide_eq_true_eq, decide_eq_false_iff_not, beq_iff_eq, bne_iff_ne, ne_eq, iff_true, iff_false, true_iff, false_iff, Bool.false_eq_true, Bool.true_eq_false, not_true_eq_false, not_false_eq_true]; omega)

def rightE (a : T_api_End) : Bool := rightA a.fAddr && decide (1 ≤ a.fPort) && decide (a.fPort ≤ 65535)

theorem endp_right (a : T_api_End) (h : a.ok) : g_endp_Right a = some (rightE a) := by
  simp only [g_endp_Right, addr_right _ h.1, rightE, Option.bind_some]
  generalize rightA a.fAddr = b
  cases b <;> simp only [cond_true, cond_false, Bool.true_and, Bool.false_and]
  simp only [Bool.cond_eq_ite, beq_iff_eq, bne_iff_ne, ne_eq, decide_eq_true_eq, Bool.not_eq_true', Bool.not_eq_false', decide_eq_false_iff_not]
  repeat' split
  all_goals first | rfl | (rw [Option.some.injEq, Bool.eq_iff_iff]; simp only [Bool.and_eq_true, Bool.not_eq_true', Bool.not_eq_false', Bool.and_eq_false_iff, decide_eq_true_eq, decide_eq_false_iff_not, beq_iff_eq, bne_iff_ne, ne_eq, iff_true, iff_false, true_iff, false_iff, Bool.false_eq_true, Bool.true_eq_false, not_true_eq_false, not_false_eq_true]; omega)

theorem ref_endRight (a : T_api_End) (h : a.ok) : g_doormanref09_Right a = some (rightE a) := by
  simp only [g_doormanref09_Right, ref_right _ h.1, rightE, Option.bind_some]
  generalize rightA a.fAddr = b
  cases b <;> simp only [cond_true, cond_false, Bool.true_and, Bool.false_and]
  simp only [Bool.cond_eq_ite, beq_iff_eq, bne_iff_ne, ne_eq, decide_eq_true_eq, Bool.not_eq_true', Bool.not_eq_false', decide_eq_false_iff_not]
  repeat' split
  all_goals first | rfl | (rw [Option.some.injEq, Bool.eq_iff_iff]; simp only [Bool.and_eq_true, Bool.not_eq_true', Bool.not_eq_false', Bool.and_eq_false_iff, decide_eq_true_eq, decide_eq_false_iff_not, beq_iff_eq, bne_iff_ne, ne_eq, iff_true, iff_false, true_iff, false_iff, Bool.false_eq_true, Bool.true_eq_false, not_true_eq_false, not_false_eq_true]; omega)

def rightN (e : T_api_Entry) : Bool := rightE e.fEnd && decide (1 ≤ e.fState) && decide (e.fState ≤ 3) && decide (0 ≤ e.fFails) && decide (e.fFails ≤ 1000) && decide (0 ≤ e.fNext) && decide (e.fNext ≤ 1099511627776)

theorem fit_eq (n : Int) : (n == (if (1099511627776 : Int) < (if (0 : Int) > n then (0 : Int) else n) then (1099511627776 : Int) else (if (0 : Int) > n then (0 : Int) else n))) = (decide (0 ≤ n) && decide (n ≤ 1099511627776)) := by
  rw [Bool.eq_iff_iff]
  simp only [beq_iff_eq, Bool.and_eq_true, decide_eq_true_eq]
  constructor
  · intro h; (repeat' split at h) <;> omega
  · intro h; (repeat' split) <;> omega

theorem entry_right (e : T_api_Entry) (h : e.ok) : g_entry_Right e = some (rightN e) := by
  simp only [g_entry_Right, endp_right _ h.1, g_sat_Fit, fit_eq, rightN, Option.bind_some]
  generalize rightE e.fEnd = b
  cases b <;> simp only [cond_true, cond_false, Bool.true_and, Bool.false_and]
  all_goals
    simp only [Bool.cond_eq_ite, beq_iff_eq, bne_iff_ne, ne_eq, decide_eq_true_eq, Bool.not_eq_true', Bool.not_eq_false', decide_eq_false_iff_not]
    repeat' split
    all_goals first | rfl | (rw [Option.some.injEq, Bool.eq_iff_iff]; simp only [Bool.and_eq_true, Bool.not_eq_true', Bool.not_eq_false', Bool.and_eq_false_iff, decide_eq_true_eq, decide_eq_false_iff_not, beq_iff_eq, bne_iff_ne, ne_eq, iff_true, iff_false, true_iff, false_iff, Bool.false_eq_true, Bool.true_eq_false, not_true_eq_false, not_false_eq_true]; omega)

theorem ref_entryRight (e : T_api_Entry) (h : e.ok) : g_doormanref25_Right e = some (rightN e) := by
  simp only [g_doormanref25_Right, ref_endRight _ h.1, rightN, Option.bind_some]
  generalize rightE e.fEnd = b
  cases b <;> simp only [cond_true, cond_false, Bool.true_and, Bool.false_and]
  simp only [Bool.cond_eq_ite, beq_iff_eq, bne_iff_ne, ne_eq, decide_eq_true_eq, Bool.not_eq_true', Bool.not_eq_false', decide_eq_false_iff_not]
  repeat' split
  all_goals first | rfl | (rw [Option.some.injEq, Bool.eq_iff_iff]; simp only [Bool.and_eq_true, Bool.not_eq_true', Bool.not_eq_false', Bool.and_eq_false_iff, decide_eq_true_eq, decide_eq_false_iff_not, beq_iff_eq, bne_iff_ne, ne_eq, iff_true, iff_false, true_iff, false_iff, Bool.false_eq_true, Bool.true_eq_false, not_true_eq_false, not_false_eq_true]; omega)

/-! ### The order of ends -/
def cmpE (a b : T_api_End) : Int := orI (cmpA a.fAddr b.fAddr) (cmpI a.fPort b.fPort)

theorem endp_cmp (a b : T_api_End) : g_endp_Compare a b = some (cmpE a b) := by
  simp only [g_endp_Compare, addr_cmp, cmp_int, or2, Option.bind_some, cmpE]

theorem ref_cmpA (a b : T_api_Addr) : g_doormanref06_Compare a b = some (cmpA a b) := by
  obtain ⟨v, hi, lo⟩ := a
  obtain ⟨v', hi', lo'⟩ := b
  simp only [g_doormanref06_Compare, g_doormanref06_Compare_c0, g_doormanref06_Compare_c1, cmpA, famA, cmpI, orI, T_api_Addr.mk.injEq]
  simp only [Bool.cond_eq_ite, bne_iff_ne, ne_eq, ite_not, decide_eq_true_eq, Bool.not_eq_true', beq_eq_false_iff_ne]
  cases v <;> cases v' <;> simp only [true_and, Bool.false_eq_true, Bool.true_eq_false, false_and, not_true_eq_false, not_false_eq_true, if_true, if_false, ite_true, ite_false, Bool.not_true, Bool.not_false]
  all_goals (repeat' split) <;> first | rfl | omega | (congr 1; omega) | simp_all

theorem ref_cmpE (a b : T_api_End) : g_doormanref09_Compare a b = some (cmpE a b) := by
  simp only [g_doormanref09_Compare, ref_cmpA, Option.bind_some, cmpE, orI, cmpI]
  simp only [Bool.cond_eq_ite, bne_iff_ne, ne_eq, ite_not, decide_eq_true_eq, beq_iff_eq]
  generalize cmpA a.fAddr b.fAddr = c
  (repeat' split) <;> first | rfl | omega | (congr 1; omega) | simp_all

theorem cmpE_lt {a b : T_api_End} : cmpE a b < 0 ↔ cmpA a.fAddr b.fAddr < 0 ∨ (a.fAddr = b.fAddr ∧ a.fPort < b.fPort) := by simp only [cmpE, orI_lt, cmpI_lt, cmpA_zero]
theorem cmpE_gt {a b : T_api_End} : 0 < cmpE a b ↔ 0 < cmpA a.fAddr b.fAddr ∨ (a.fAddr = b.fAddr ∧ b.fPort < a.fPort) := by simp only [cmpE, orI_gt, cmpI_gt, cmpA_zero]
theorem cmpE_zero {a b : T_api_End} : cmpE a b = 0 ↔ a = b := by
  simp only [cmpE, orI_zero, cmpI_zero, cmpA_zero]
  obtain ⟨x, p⟩ := a
  obtain ⟨y, q⟩ := b
  simp
theorem cmpE_swap {a b : T_api_End} : 0 < cmpE a b ↔ cmpE b a < 0 := by
  rw [cmpE_gt, cmpE_lt, cmpA_swap]
  constructor <;> rintro (h | ⟨h1, h2⟩) <;> first | exact .inl h | exact .inr ⟨h1.symm, h2⟩
theorem cmpE_trans {a b c : T_api_End} (h1 : cmpE a b < 0) (h2 : cmpE b c < 0) : cmpE a c < 0 := by
  rw [cmpE_lt] at *
  rcases h1 with h1 | ⟨h1, h3⟩ <;> rcases h2 with h2 | ⟨h2, h4⟩
  · exact .inl (cmpA_trans h1 h2)
  · exact .inl (h2 ▸ h1)
  · exact .inl (h1 ▸ h2)
  · exact .inr ⟨h1.trans h2, by omega⟩

end Go.Proofs.Ytgmkffjkidgcnaa
