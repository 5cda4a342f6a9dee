/-
  PLAIN LAWS: addresses, ends, entries: what the program tells and what the reference tells are one.
-/
import Derived.Test.YtaakonlnlfbfkaaPlAd
namespace Go.Proofs.Ytaakonlnlfbfkaa
set_option linter.unusedSimpArgs false
set_option linter.unusedVariables false

def rightE (a : T_api_End) : Bool := rightA a.fAddr && decide (1 ≤ a.fPort) && decide (a.fPort ≤ 65535)

theorem endp_right (a : T_api_End) (h : a.ok) : g_endp_Right a = some (rightE a) := by
  simp only [g_endp_Right, addr_right _ h.1, rightE, Option.bind_some]
  generalize rightA a.fAddr = b
  cases b <;> simp only [cond_true, cond_false, Bool.true_and, Bool.false_and]
  simp only [Bool.cond_eq_ite, beq_iff_eq, bne_iff_ne, ne_eq, decide_eq_true_eq, Bool.not_eq_true', Bool.not_eq_false', decide_eq_false_iff_not]
  repeat' split
  all_goals first | rfl | (rw [Option.some.injEq, Bool.eq_iff_iff]; simp only [Bool.and_eq_true, Bool.not_eq_true', Bool.not_eq_false', Bool.and_eq_false_iff, decide_eq_true_eq, decide_eq_false_iff_not, beq_iff_eq, bne_iff_ne, ne_eq, iff_true, iff_false, true_iff, false_iff, Bool.false_eq_true, Bool.true_eq_false, not_true_eq_false, not_false_eq_true]; omega)

theorem ref_endRight (a : T_api_End) (h : a.ok) : g_doormanref09_Right a = some (rightE a) := by
  simp only [g_doormanref09_Right, ref_right _ h.1, rightE, Option.bind_some]
  generalize rightA a.fAddr = b
  cases b <;> simp only [cond_true, cond_false, Bool.true_and, Bool.false_and]
  simp only [Bool.cond_eq_ite, beq_iff_eq, bne_iff_ne, ne_eq, decide_eq_true_eq, Bool.not_eq_true', Bool.not_eq_false', decide_eq_false_iff_not]
  repeat' split
  all_goals first | rfl | (rw [Option.some.injEq, Bool.eq_iff_iff]; simp only [Bool.and_eq_true, Bool.not_eq_true', Bool.not_eq_false', Bool.and_eq_false_iff, decide_eq_true_eq, decide_eq_false_iff_not, beq_iff_eq, bne_iff_ne, ne_eq, iff_true, iff_false, true_iff, false_iff, Bool.false_eq_true, Bool.true_eq_false, not_true_eq_false, not_false_eq_true]; omega)

def rightN (e : T_api_Entry) : Bool := rightE e.fEnd && decide (1 ≤ e.fState) && decide (e.fState ≤ 3) && decide (0 ≤ e.fFails) && decide (e.fFails ≤ 1000) && decide (0 ≤ e.fNext) && decide (e.fNext ≤ 1099511627776)

theorem fit_eq (n : Int) : (n == (if (1099511627776 : Int) < (if (0 : Int) > n then (0 : Int) else n) then (1099511627776 : Int) else (if (0 : Int) > n then (0 : Int) else n))) = (decide (0 ≤ n) && decide (n ≤ 1099511627776)) := by
  rw [Bool.eq_iff_iff]
  simp only [beq_iff_eq, Bool.and_eq_true, decide_eq_true_eq]
  constructor
  · intro h; (repeat' split at h) <;> omega
  · intro h; (repeat' split) <;> omega

theorem entry_right (e : T_api_Entry) (h : e.ok) : g_entry_Right e = some (rightN e) := by
  simp only [g_entry_Right, endp_right _ h.1, g_sat_Fit, fit_eq, rightN, Option.bind_some]
  generalize rightE e.fEnd = b
  cases b <;> simp only [cond_true, cond_false, Bool.true_and, Bool.false_and]
  all_goals
    simp only [Bool.cond_eq_ite, beq_iff_eq, bne_iff_ne, ne_eq, decide_eq_true_eq, Bool.not_eq_true', Bool.not_eq_false', decide_eq_false_iff_not]
    repeat' split
    all_goals first | rfl | (rw [Option.some.injEq, Bool.eq_iff_iff]; simp only [Bool.and_eq_true, Bool.not_eq_true', Bool.not_eq_false', Bool.and_eq_false_iff, decide_eq_true_eq, decide_eq_false_iff_not, beq_iff_eq, bne_iff_ne, ne_eq, iff_true, iff_false, true_iff, false_iff, Bool.false_eq_true, Bool.true_eq_false, not_true_eq_false, not_false_eq_true]; omega)

theorem ref_entryRight (e : T_api_Entry) (h : e.ok) : g_doormanref25_Right e = some (rightN e) := by
  simp only [g_doormanref25_Right, ref_endRight _ h.1, rightN, Option.bind_some]
  generalize rightE e.fEnd = b
  cases b <;> simp only [cond_true, cond_false, Bool.true_and, Bool.false_and]
  simp only [Bool.cond_eq_ite, beq_iff_eq, bne_iff_ne, ne_eq, decide_eq_true_eq, Bool.not_eq_true', Bool.not_eq_false', decide_eq_false_iff_not]
  repeat' split
  all_goals first | rfl | (rw [Option.some.injEq, Bool.eq_iff_iff]; simp only [Bool.and_eq_true, Bool.not_eq_true', Bool.not_eq_false', Bool.and_eq_false_iff, decide_eq_true_eq, decide_eq_false_iff_not, beq_iff_eq, bne_iff_ne, ne_eq, iff_true, iff_false, true_iff, false_iff, Bool.false_eq_true, Bool.true_eq_false, not_true_eq_false, not_false_eq_true]; omega)

/-! ### The order of ends -/
def cmpE (a b : T_api_End) : Int := orI (cmpA a.fAddr b.fAddr) (cmpI a.fPort b.fPort)

theorem endp_cmp (a b : T_api_End) : g_endp_Compare a b = some (cmpE a b) := by
  simp only [g_endp_Compare, addr_cmp, cmp_int, or2, Option.bind_some, cmpE]

theorem cmpE_lt {a b : T_api_End} : cmpE a b < 0 ↔ cmpA a.fAddr b.fAddr < 0 ∨ (a.fAddr = b.fAddr ∧ a.fPort < b.fPort) := by simp only [cmpE, orI_lt, cmpI_lt, cmpA_zero]
theorem cmpE_gt {a b : T_api_End} : 0 < cmpE a b ↔ 0 < cmpA a.fAddr b.fAddr ∨ (a.fAddr = b.fAddr ∧ b.fPort < a.fPort) := by simp only [cmpE, orI_gt, cmpI_gt, cmpA_zero]
theorem cmpE_zero {a b : T_api_End} : cmpE a b = 0 ↔ a = b := by
  simp only [cmpE, orI_zero, cmpI_zero, cmpA_zero]
  obtain ⟨x, p⟩ := a
  obtain ⟨y, q⟩ := b
  simp
theorem cmpE_swap {a b : T_api_End} : 0 < cmpE a b ↔ cmpE b a < 0 := by
  rw [cmpE_gt, cmpE_lt, cmpA_swap]
  constructor <;> rintro (h | ⟨h1, h2⟩) <;> first | exact .inl h | exact .inr ⟨h1.symm, h2⟩
theorem cmpE_trans {a b c : T_api_End} (h1 : cmpE a b < 0) (h2 : cmpE b c < 0) : cmpE a c < 0 := by
  rw [cmpE_lt] at *
  rcases h1 with h1 | ⟨h1, h3⟩ <;> rcases h2 with h2 | ⟨h2, h4⟩
  · exact .inl (cmpA_trans h1 h2)
  · exact .inl (h2 ▸ h1)
  · exact .inl (h1 ▸ h2)
  · exact .inr ⟨h1.trans h2, by omega⟩

end Go.Proofs.Ytaakonlnlfbfkaa
