/-
  PLAIN LAWS: the statement of how long an address is banned.
-/
import Derived.Test.YtgmkffjkidgcnaaPlW
namespace Go.Proofs.Ytgmkffjkidgcnaa
set_option linter.unusedSimpArgs false
set_option linter.unusedVariables false

set_option maxRecDepth 100000 in
theorem awake_eq : g_doormanlaw13_awake = some true := by decide +kernel

def sweepS (l : List T_api_Ban) (now : Int) : List T_api_Ban := l.filter fun b => decide (now < b.fUntil)

theorem sweepS_yes {b : T_api_Ban} {r : List T_api_Ban} {now : Int} (h : now < b.fUntil) : sweepS (b :: r) now = b :: sweepS r now := by simp [sweepS, h]
theorem sweepS_no {b : T_api_Ban} {r : List T_api_Ban} {now : Int} (h : ¬ now < b.fUntil) : sweepS (b :: r) now = sweepS r now := by simp [sweepS, h]

theorem small40 {n : Nat} (h : n ≤ 100000) : n * 40 ≤ 140737488355328 ∧ n ≤ maxLen := ⟨by omega, by unfold maxLen; omega⟩

theorem sweep_loop (l : List T_api_Ban) (now : Int) (hl : l.length ≤ 10000) : ∀ fu (i : Nat) (w : List T_api_Ban), i ≤ l.length → l.length - i < fu → w.length ≤ i →
    g_bans_Sweep_c0 l now fu l (l.length : Int) (i : Int) w = some (w ++ sweepS (l.drop i) now, ((l.length : Int) - ((w ++ sweepS (l.drop i) now).length : Int))) := by
  have hm : l.length ≤ maxLen := by unfold maxLen; omega
  intro fu
  induction fu with
  | zero => intro _ _ _ h; omega
  | succ fu ih =>
    intro i w hi hf hw
    simp only [g_bans_Sweep_c0, cond_decide', ban_lives, Option.bind_some]
    by_cases h : i < l.length
    · rw [if_pos (by omega), need_yes ⟨by omega, by omega⟩]
      simp only [Int.toNat_natCast]
      rw [add1 h hm, drop_cons l T_api_Ban.d i h]
      by_cases hb : now < (l.getD i T_api_Ban.d).fUntil
      · have hs := sweepS_yes (r := l.drop (i + 1)) hb
        rw [if_pos hb, need_yes (small40 (by simp; omega)), ih (i + 1) _ (by omega) (by omega) (by simp; omega), hs]
        simp
      · have hs := sweepS_no (r := l.drop (i + 1)) hb
        rw [if_neg hb, ih (i + 1) w (by omega) (by omega) (by omega), hs]
    · have e : i = l.length := by omega
      rw [if_neg (by omega), e, List.drop_length]
      simp only [sweepS, List.filter_nil, List.append_nil]
      rw [sub64_id (by omega) (by omega)]

theorem bans_sweep (l : List T_api_Ban) (now : Int) (hl : l.length ≤ 10000) : g_bans_Sweep l now = some (sweepS l now, ((l.length : Int) - ((sweepS l now).length : Int))) := by
  have := sweep_loop l now hl ((((l.length : Nat) : Int) - (0 : Int)).toNat + 2) 0 [] (by omega) (by omega) (by simp)
  simpa [g_bans_Sweep] using this

theorem refsweep_loop (l : List T_api_Ban) (now : Int) (hl : l.length ≤ 10000) : ∀ fu (i : Nat) (w : List T_api_Ban), i ≤ l.length → l.length - i < fu → w.length ≤ i →
    g_doormanref13_Sweep_c0 l now fu (i : Int) w = some (w ++ sweepS (l.drop i) now, ((l.length : Int) - ((w ++ sweepS (l.drop i) now).length : Int))) := by
  have hm : l.length ≤ maxLen := by unfold maxLen; omega
  intro fu
  induction fu with
  | zero => intro _ _ _ h; omega
  | succ fu ih =>
    intro i w hi hf hw
    simp only [g_doormanref13_Sweep_c0, cond_decide', gt_iff_lt]
    by_cases h : i < l.length
    · rw [if_pos (by omega), need_yes ⟨by omega, by omega⟩]
      simp only [Int.toNat_natCast]
      rw [add1 h hm, drop_cons l T_api_Ban.d i h]
      by_cases hb : now < (l.getD i T_api_Ban.d).fUntil
      · have hs := sweepS_yes (r := l.drop (i + 1)) hb
        rw [if_pos hb, need_yes (small40 (by simp; omega)), ih (i + 1) _ (by omega) (by omega) (by simp; omega), hs]
        simp
      · have hs := sweepS_no (r := l.drop (i + 1)) hb
        rw [if_neg hb, ih (i + 1) w (by omega) (by omega) (by omega), hs]
    · have e : i = l.length := by omega
      rw [if_neg (by omega), e, List.drop_length]
      simp only [sweepS, List.filter_nil, List.append_nil]
      rw [sub64_id (by omega) (by omega)]

theorem ref_sweep (l : List T_api_Ban) (now : Int) (hl : l.length ≤ 10000) : g_doormanref13_Sweep l now = some (sweepS l now, ((l.length : Int) - ((sweepS l now).length : Int))) := by
  have := refsweep_loop l now hl ((((l.length : Nat) : Int) - (0 : Int)).toNat + 2) 0 [] (by omega) (by omega) (by simp)
  simpa [g_doormanref13_Sweep] using this

theorem sweepS_mem {l : List T_api_Ban} {now : Int} {b : T_api_Ban} : b ∈ sweepS l now ↔ b ∈ l ∧ now < b.fUntil := by simp [sweepS]
theorem sweepS_len (l : List T_api_Ban) (now : Int) : (sweepS l now).length ≤ l.length := List.length_filter_le _ _

theorem BansUntil_plain (l : List T_api_Ban) (a : T_api_Addr) (now : Int) (hl : okL T_api_Ban.ok l) (ha : a.ok) (_ : okI .i64 now) : g_doormanlaw13_BansUntil l a now = some true := by
  simp only [g_doormanlaw13_BansUntil, awake_eq, cond_decide', Option.bind_some]
  split
  · rfl
  rename_i h1
  have hm : l.length ≤ maxLen := hl.1
  obtain ⟨r, r1, r2⟩ := until_eq l a now hm hl.2 ha
  obtain ⟨s, s1, s2⟩ := refUntil_eq l a now hm hl.2 ha
  obtain ⟨q, q1, q2⟩ := until_eq (sweepS l now) a now (Nat.le_trans (sweepS_len l now) hm) (fun b hb => hl.2 b (sweepS_mem.1 hb).1) ha
  have e1 : r = s := longest_eq r2 s2 fun b => Iff.rfl
  have e2 : q = r := longest_eq q2 r2 fun b => ⟨fun h => ⟨(sweepS_mem.1 h.1).1, h.2⟩, fun h => ⟨sweepS_mem.2 ⟨h.1, h.2.1⟩, h.2⟩⟩
  rw [r1, s1, bans_sweep l now (by omega)]
  simp only [Option.bind_some, q1]
  subst e1 e2
  simp only [bne_self_eq_false, cond_false, beq_self_eq_true, cond_true]
  rcases r2 with ⟨z, _⟩ | ⟨b, b1, b2, _⟩
  · rw [z]; rfl
  · by_cases hz : q = 0
    · rw [hz]; rfl
    · rw [show (q == 0) = false by simp [hz], cond_false, if_pos (by have := b1.2.1; omega)]

end Go.Proofs.Ytgmkffjkidgcnaa
