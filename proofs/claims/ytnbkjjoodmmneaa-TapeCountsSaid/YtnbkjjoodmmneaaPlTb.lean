/-
  PLAIN LAWS: codes that go step by step: locks, counters; the laws of tapes.
-/
import Derived.Test.YtnbkjjoodmmneaaPlTa
namespace Go.Proofs.Ytnbkjjoodmmneaa
set_option linter.unusedVariables false
set_option linter.unusedSimpArgs false

/-! ### Locks and counters -/
def partsN (p : Int) : Nat := if p < 1 then 1 else if p > 8 then 8 else p.toNat

theorem partsN_le (p : Int) : 1 ≤ partsN p ∧ partsN p ≤ 8 := by unfold partsN; split <;> (try split) <;> omega
theorem count_spec (p : Int) : g_tape_count p = some (partsN p : Int) := by
  unfold g_tape_count partsN
  congr 1
  repeat' split
  all_goals omega
theorem parts_spec (p : Int) : g_doormanref31_Parts p = some (partsN p : Int) := by
  unfold g_doormanref31_Parts partsN
  simp only [cond_decide']
  repeat' split
  all_goals first | rfl | (congr 1; omega) | omega

theorem LockAll_loop {got : List T_api_Value} (hL : got.length ≤ 1000000) (p : Int) (b : T_doormanref38_Walk) : ∀ (k i a f g : Nat), partsN p - i = k → i ≤ partsN p → a ≤ got.length → k + 1 ≤ f → k + 1 ≤ g →
    Lka got a anyP anyW (g_tape_LockAll_c0 f (partsN p : Int) i ⟨got.drop a⟩) ((g_doormanref38_LockAll_c0 p g i (wk got a) b).map fun w => (w, ())) ∧ ∀ q, g_doormanref38_LockAll_c0 p g i (wt got q) b = some (wt got q) := by
  have h8 := (partsN_le p).2
  intro k
  induction k with
  | zero =>
    intro i a f g hk hi ha hf hg
    obtain ⟨f, rfl⟩ : ∃ x, f = x + 1 := ⟨f - 1, by omega⟩
    obtain ⟨g, rfl⟩ : ∃ x, g = x + 1 := ⟨g - 1, by omega⟩
    have hc : ¬ ((i : Int) < (partsN p : Int)) := by omega
    refine ⟨?_, fun q => ?_⟩
    · unfold g_tape_LockAll_c0 g_doormanref38_LockAll_c0
      simp only [cond_decide', parts_spec, bind_s, if_neg hc]
      exact .inl ⟨(), (), a, rfl, rfl, Nat.le_refl _, ha, trivial⟩
    · unfold g_doormanref38_LockAll_c0
      simp only [cond_decide', parts_spec, bind_s, if_neg hc]
  | succ k ih =>
    intro i a f g hk hi ha hf hg
    obtain ⟨f, rfl⟩ : ∃ x, f = x + 1 := ⟨f - 1, by omega⟩
    obtain ⟨g, rfl⟩ : ∃ x, g = x + 1 := ⟨g - 1, by omega⟩
    have hc : (i : Int) < (partsN p : Int) := by omega
    have e1 : add64 (i : Int) 1 = ((i + 1 : Nat) : Int) := add1 (n := i + 1) (by omega) (by simp only [maxLen]; omega)
    refine ⟨?_, fun q => ?_⟩
    · unfold g_tape_LockAll_c0 g_doormanref38_LockAll_c0
      simp only [cond_decide', parts_spec, bind_s, if_pos hc, e1]
      rcases Lock_at hL ha (add64 2 (i : Int)) false with ⟨v, b', a', q1, q2, q3, q4, -⟩ | ⟨q, b', q1, q2, hq, hW⟩
      · have q2 := map_unit q2
        simp only [q1, q2, bind_s]
        rcases (ih (i + 1) a' f g (by omega) (by omega) q4 (by omega) (by omega)).1 with ⟨x, y, a2, r1, r2, r3, r4, r5⟩ | hq
        · exact .inl ⟨x, y, a2, r1, r2, by omega, r4, r5⟩
        · exact .inr hq
      · have q2 := map_unit q2
        simp only [q1, q2, bind_s]
        rw [(ih (i + 1) a f g (by omega) (by omega) ha (by omega) (by omega)).2 q]
        exact .inr ⟨q, (), rfl, rfl, hq, trivial⟩
    · unfold g_doormanref38_LockAll_c0
      simp only [cond_decide', parts_spec, bind_s, if_pos hc, e1, Key_wait]
      exact (ih (i + 1) a f g (by omega) (by omega) ha (by omega) (by omega)).2 q

theorem LockAll_at {got : List T_api_Value} (hL : got.length ≤ 1000000) {a : Nat} (ha : a ≤ got.length) (p : Int) : Lka got a anyP anyW (g_tape_LockAll ⟨got.drop a⟩ p) ((g_doormanref38_LockAll (wk got a) p).map fun w => (w, ())) := by
  have h8 := (partsN_le p).2
  unfold g_tape_LockAll g_doormanref38_LockAll
  rw [count_spec, bind_s]
  exact (LockAll_loop hL p _ (partsN p) 0 a _ 1000000 (by omega) (by omega) ha (by omega) (by omega)).1

theorem LockAll_wait (got : List T_api_Value) (hL : got.length ≤ 1000000) (q : T_api_Op) (p : Int) : g_doormanref38_LockAll (wt got q) p = some (wt got q) := by
  have h8 := (partsN_le p).2
  unfold g_doormanref38_LockAll
  exact (LockAll_loop hL p _ (partsN p) 0 0 (partsN p + 1) 1000000 (by omega) (by omega) (by omega) (by omega) (by omega)).2 q

theorem Reserve_loop {got : List T_api_Value} (hL : got.length ≤ 900000) (most : Int) (mark : Bool) (b6 : T_doormanref38_Walk) : ∀ (k a f g : Nat), got.length - a = k → a ≤ got.length → k + 1 ≤ f → k + 2 ≤ g →
    Lka got a eqP anyW (g_tape_Reserve_c0 most mark f ⟨got.drop a⟩ ⟨1, 0, 0⟩) (g_doormanref38_Reserve_c0 most mark g (wk got a) b6) := by
  intro k
  induction k using Nat.strongRecOn with
  | ind k ih =>
    intro a f g hk ha hf hg
    obtain ⟨f, rfl⟩ : ∃ x, f = x + 1 := ⟨f - 1, by omega⟩
    obtain ⟨g, rfl⟩ : ∃ x, g = x + 1 := ⟨g - 1, by omega⟩
    unfold g_tape_Reserve_c0 g_doormanref38_Reserve_c0
    simp only [wk_wait, Bool.not_false, cond_true]
    rcases Load_at (by omega) ha ⟨1, 0, 0⟩ trivial with ⟨v, b, a', h1, h2, h3, h4, rfl⟩ | ⟨q, b, h1, h2, hq, hW⟩
    · simp only [h1, h2, bind_s, wk_wait, cond_false, cond_decide']
      split
      · exact .inl ⟨false, false, a', rfl, rfl, by omega, h4, rfl⟩
      · rcases Swap_at (by omega) h4 1 v.fN (add64 v.fN 1) mark with ⟨v2, b2, a2, r1, r2, r3, r4, rfl⟩ | ⟨q, b2, r1, r2, hq, hW⟩
        · simp only [r1, r2, bind_s]
          cases v2 with
          | true => exact .inl ⟨true, true, a2, rfl, rfl, by omega, r4, rfl⟩
          | false =>
            simp only [cond_false]
            rcases ih (got.length - a2) (by omega) a2 f g rfl r4 (by omega) (by omega) with ⟨x, y, a3, s1, s2, s3, s4, s5⟩ | hq
            · exact .inl ⟨x, y, a3, s1, s2, by omega, s4, s5⟩
            · exact .inr hq
        · simp only [r1, r2, bind_s]
          cases b2 with
          | true => exact .inr ⟨q, true, rfl, rfl, hq, trivial⟩
          | false =>
            simp only [cond_false]
            obtain ⟨g, rfl⟩ : ∃ x, g = x + 1 := ⟨g - 1, by omega⟩
            unfold g_doormanref38_Reserve_c0
            simp only [wt_wait, Bool.not_true, cond_false]
            exact .inr ⟨q, false, rfl, rfl, hq, trivial⟩
    · simp only [h1, h2, bind_s, wt_wait, cond_true]
      exact .inr ⟨q, false, rfl, rfl, hq, trivial⟩

theorem Reserve_at {got : List T_api_Value} (hL : got.length ≤ 900000) {a : Nat} (ha : a ≤ got.length) (most : Int) (mark : Bool) : Lka got a eqP anyW (g_tape_Reserve ⟨got.drop a⟩ most mark) (g_doormanref38_Reserve (wk got a) most mark) := by
  unfold g_tape_Reserve g_doormanref38_Reserve
  exact Reserve_loop hL most mark _ _ a 1000000 1000000 rfl ha (by omega) (by omega)

theorem Reserve_c0_wait (got : List T_api_Value) (q : T_api_Op) (most : Int) (mark : Bool) (b6 : T_doormanref38_Walk) (g : Nat) (hg : 1 ≤ g) : g_doormanref38_Reserve_c0 most mark g (wt got q) b6 = some (wt got q, false) := by
  obtain ⟨g, rfl⟩ : ∃ x, g = x + 1 := ⟨g - 1, by omega⟩
  unfold g_doormanref38_Reserve_c0
  simp only [wt_wait, Bool.not_true, cond_false]
theorem Reserve_wait (got : List T_api_Value) (q : T_api_Op) (most : Int) (mark : Bool) : g_doormanref38_Reserve (wt got q) most mark = some (wt got q, false) := by
  unfold g_doormanref38_Reserve
  exact Reserve_c0_wait got q most mark _ 1000000 (by omega)

theorem Move_c0_wait (got : List T_api_Value) (q : T_api_Op) (k by_ : Int) (mark : Bool) (b8 : T_doormanref38_Walk) (g : Nat) (hg : 1 ≤ g) : g_doormanref38_Move_c0 k by_ mark g (wt got q) b8 = some (wt got q) := by
  obtain ⟨g, rfl⟩ : ∃ x, g = x + 1 := ⟨g - 1, by omega⟩
  unfold g_doormanref38_Move_c0
  simp only [wt_wait, Bool.not_true, cond_false]
theorem Move_wait (got : List T_api_Value) (q : T_api_Op) (k by_ : Int) (mark : Bool) : g_doormanref38_Move (wt got q) k by_ mark = some (wt got q) := by
  unfold g_doormanref38_Move
  exact Move_c0_wait got q k by_ mark _ 1000000 (by omega)

theorem Move_loop {got : List T_api_Value} (hL : got.length ≤ 900000) (kind by_ : Int) (mark : Bool) (b8 : T_doormanref38_Walk) : ∀ (k a f g : Nat), got.length - a = k → a ≤ got.length → k + 1 ≤ f → k + 2 ≤ g →
    Lka got a anyP anyW (g_tape_Move_c0 by_ mark f ⟨got.drop a⟩ ⟨kind, 0, 0⟩) ((g_doormanref38_Move_c0 kind by_ mark g (wk got a) b8).map fun w => (w, ())) := by
  intro k
  induction k using Nat.strongRecOn with
  | ind k ih =>
    intro a f g hk ha hf hg
    obtain ⟨f, rfl⟩ : ∃ x, f = x + 1 := ⟨f - 1, by omega⟩
    obtain ⟨g, rfl⟩ : ∃ x, g = x + 1 := ⟨g - 1, by omega⟩
    unfold g_tape_Move_c0 g_doormanref38_Move_c0
    simp only [wk_wait, Bool.not_false, cond_true]
    rcases Load_at (by omega) ha ⟨kind, 0, 0⟩ trivial with ⟨v, b, a', h1, h2, h3, h4, rfl⟩ | ⟨q, b, h1, h2, hq, hW⟩
    · simp only [h1, h2, bind_s]
      rcases Swap_at (by omega) h4 kind v.fN (add64 v.fN by_) mark with ⟨v2, b2, a2, r1, r2, r3, r4, rfl⟩ | ⟨q, b2, r1, r2, hq, hW⟩
      · simp only [r1, r2, bind_s]
        cases v2 with
        | true => exact .inl ⟨(), (), a2, rfl, rfl, by omega, r4, trivial⟩
        | false =>
          simp only [cond_false]
          rcases ih (got.length - a2) (by omega) a2 f g rfl r4 (by omega) (by omega) with ⟨x, y, a3, s1, s2, s3, s4, s5⟩ | hq
          · exact .inl ⟨x, y, a3, s1, s2, by omega, s4, s5⟩
          · exact .inr hq
      · simp only [r1, r2, bind_s]
        cases b2 with
        | true => exact .inr ⟨q, (), rfl, rfl, hq, trivial⟩
        | false =>
          simp only [cond_false]
          rw [Move_c0_wait got q kind by_ mark b8 g (by omega)]
          exact .inr ⟨q, (), rfl, rfl, hq, trivial⟩
    · simp only [h1, h2, bind_s, Swap_wait, cond_false]
      rw [Move_c0_wait got q kind by_ mark b8 g (by omega)]
      exact .inr ⟨q, (), rfl, rfl, hq, trivial⟩

theorem Move_at {got : List T_api_Value} (hL : got.length ≤ 900000) {a : Nat} (ha : a ≤ got.length) (kind by_ : Int) (mark : Bool) : Lka got a anyP anyW (g_tape_Move ⟨got.drop a⟩ kind by_ mark) ((g_doormanref38_Move (wk got a) kind by_ mark).map fun w => (w, ())) := by
  unfold g_tape_Move g_doormanref38_Move
  exact Move_loop hL kind by_ mark _ _ a 1000000 1000000 rfl ha (by omega) (by omega)

theorem sub1 {i : Nat} (h : i ≤ 1000000) : sub64 ((i + 1 : Nat) : Int) 1 = (i : Int) := by
  unfold sub64
  have : IntKind.i64.wrap (((i + 1 : Nat) : Int) - 1) = ((i + 1 : Nat) : Int) - 1 := wrap_small (by omega) (by omega)
  exact this.trans (by omega)
theorem sub0 : sub64 0 1 = -1 := by decide

/-- Downward: n is how many are left; the last one's number is n - 1. -/
theorem FreeAll_loop {got : List T_api_Value} (hL : got.length ≤ 1000000) (p : Int) (mark : Bool) (b6 : T_doormanref38_Walk) : ∀ (n a f g : Nat) (m : Bool), n ≤ partsN p → a ≤ got.length → n + 1 ≤ f → n + 1 ≤ g → (0 < n → m = (mark && decide (n = partsN p))) →
    Lka got a anyP anyW (g_tape_FreeAll_c0 p mark f ((n : Int) - 1) ⟨got.drop a⟩) ((g_doormanref38_FreeAll_c0 g m ((n : Int) - 1) (wk got a) b6).map fun w => (w, ())) ∧ ∀ q m, g_doormanref38_FreeAll_c0 g m ((n : Int) - 1) (wt got q) b6 = some (wt got q) := by
  have h8 := partsN_le p
  intro n
  induction n with
  | zero =>
    intro a f g m hn ha hf hg hm
    obtain ⟨f, rfl⟩ : ∃ x, f = x + 1 := ⟨f - 1, by omega⟩
    obtain ⟨g, rfl⟩ : ∃ x, g = x + 1 := ⟨g - 1, by omega⟩
    have hc : ¬ (((0 : Nat) : Int) - 1 ≥ 0) := by omega
    refine ⟨?_, fun q m => ?_⟩
    · unfold g_tape_FreeAll_c0 g_doormanref38_FreeAll_c0
      simp only [cond_decide', if_neg hc]
      exact .inl ⟨(), (), a, rfl, rfl, Nat.le_refl _, ha, trivial⟩
    · unfold g_doormanref38_FreeAll_c0
      simp only [cond_decide', if_neg hc]
  | succ n ih =>
    intro a f g m hn ha hf hg hm
    obtain ⟨f, rfl⟩ : ∃ x, f = x + 1 := ⟨f - 1, by omega⟩
    obtain ⟨g, rfl⟩ : ∃ x, g = x + 1 := ⟨g - 1, by omega⟩
    have hm := hm (by omega)
    have hc : (n : Int) ≥ 0 := by omega
    have e0 : (((n + 1 : Nat) : Int) - 1) = (n : Int) := by omega
    have e1 : sub64 (n : Int) 1 = ((n : Int) - 1) := by
      cases n with
      | zero => exact sub0
      | succ n => rw [sub1 (by omega)]; omega
    rw [e0]
    refine ⟨?_, fun q m => ?_⟩
    · unfold g_tape_FreeAll_c0 g_doormanref38_FreeAll_c0
      simp only [cond_decide', if_pos hc, e1]
      have hp : ∃ c : Nat, partsN p = c + 1 := ⟨partsN p - 1, by omega⟩
      obtain ⟨c, hcp⟩ := hp
      have hk : ∀ (v : Unit) (k : Bool), m = k → Lka got a anyP anyW
          ((g_tape_tape_Free ⟨got.drop a⟩ (add64 2 (n : Int)) k).bind fun x3 => match x3 with
            | .ret x3v x3g => g_tape_FreeAll_c0 p mark f ((n : Int) - 1) x3g
            | .pan x3o => some (Tout.pan x3o)
            | .bad x3s => some (Tout.bad x3s))
          (Option.map (fun w => (w, ())) ((g_doormanref38_Key (wk got a) 3 (add64 2 (n : Int)) m).bind fun x2 => g_doormanref38_FreeAll_c0 g false ((n : Int) - 1) x2 b6)) := by
        rintro v k rfl
        rcases Free_at hL ha (add64 2 (n : Int)) m with ⟨v, b', a', q1, q2, q3, q4, -⟩ | ⟨q, b', q1, q2, hq, hW⟩
        · have q2 := map_unit q2
          simp only [q1, q2, bind_s]
          rcases (ih a' f g false (by omega) q4 (by omega) (by omega) (fun _ => by simp [show ¬ n = partsN p by omega])).1 with ⟨x, y, a2, r1, r2, r3, r4, r5⟩ | hq
          · exact .inl ⟨x, y, a2, r1, r2, by omega, r4, r5⟩
          · exact .inr hq
        · have q2 := map_unit q2
          simp only [q1, q2, bind_s]
          rw [(ih a f g false (by omega) ha (by omega) (by omega) (fun _ => by simp [show ¬ n = partsN p by omega])).2 q false]
          exact .inr ⟨q, (), rfl, rfl, hq, trivial⟩
      cases mark with
      | true =>
        simp only [cond_true, count_spec, bind_s]
        refine hk () _ ?_
        rw [hm, hcp, sub1 (by omega)]
        by_cases h : n = c
        · subst h; simp
        · have h1 : ¬ (n + 1 = c + 1) := by omega
          have h2 : ((n : Int) == (c : Int)) = false := beq_false_of_ne (by omega)
          simp [h, h2]
      | false =>
        simp only [cond_false]
        exact hk () _ (by rw [hm]; rfl)
    · unfold g_doormanref38_FreeAll_c0
      simp only [cond_decide', if_pos hc, e1, Key_wait, bind_s]
      exact (ih 0 (n + 1) g (mark && decide (n = partsN p)) (by omega) (by omega) (by omega) (by omega) (fun _ => rfl)).2 q false

theorem FreeAll_at {got : List T_api_Value} (hL : got.length ≤ 1000000) {a : Nat} (ha : a ≤ got.length) (p : Int) (mark : Bool) : Lka got a anyP anyW (g_tape_FreeAll ⟨got.drop a⟩ p mark) ((g_doormanref38_FreeAll (wk got a) p mark).map fun w => (w, ())) := by
  have h8 := partsN_le p
  unfold g_tape_FreeAll g_doormanref38_FreeAll
  rw [count_spec, parts_spec, bind_s, bind_s]
  have e : sub64 (partsN p : Int) 1 = (partsN p : Int) - 1 := by
    obtain ⟨c, hc⟩ : ∃ c : Nat, partsN p = c + 1 := ⟨partsN p - 1, by omega⟩
    rw [hc, sub1 (by omega)]; omega
  rw [e]
  exact (FreeAll_loop hL p mark _ (partsN p) a _ _ mark (by omega) ha (by omega) (by omega) (fun _ => by simp)).1

theorem FreeAll_wait (got : List T_api_Value) (hL : got.length ≤ 1000000) (q : T_api_Op) (p : Int) (mark : Bool) : g_doormanref38_FreeAll (wt got q) p mark = some (wt got q) := by
  have h8 := partsN_le p
  unfold g_doormanref38_FreeAll
  rw [parts_spec, bind_s]
  have e : sub64 (partsN p : Int) 1 = (partsN p : Int) - 1 := by
    obtain ⟨c, hc⟩ : ∃ c : Nat, partsN p = c + 1 := ⟨partsN p - 1, by omega⟩
    rw [hc, sub1 (by omega)]; omega
  rw [e]
  exact (FreeAll_loop hL p mark _ (partsN p) 0 (partsN p + 1) _ mark (by omega) (by omega) (by omega) (by omega) (fun _ => by simp)).2 q mark

/-! ### What is the same -/
theorem sameBans_refl (l : List T_api_Ban) (h : l.length ≤ 1000000) : g_doormansame_Bans l l = some true := by
  have main : ∀ (k i f : Nat), l.length - i = k → i ≤ l.length → k + 1 ≤ f → g_doormansame_Bans_c0 l l f i = some true := by
    intro k
    induction k with
    | zero =>
      intro i f hk hi hf
      obtain ⟨f, rfl⟩ : ∃ x, f = x + 1 := ⟨f - 1, by omega⟩
      have hc : ¬ ((i : Int) < (l.length : Int)) := by omega
      unfold g_doormansame_Bans_c0
      simp only [cond_decide', if_neg hc]
    | succ k ih =>
      intro i f hk hi hf
      obtain ⟨f, rfl⟩ : ∃ x, f = x + 1 := ⟨f - 1, by omega⟩
      have hc : (i : Int) < (l.length : Int) := by omega
      have e1 : add64 (i : Int) 1 = ((i + 1 : Nat) : Int) := add1 (n := i + 1) (by omega) (by simp only [maxLen]; omega)
      unfold g_doormansame_Bans_c0
      simp only [cond_decide', if_pos hc, e1, decide_true, Bool.not_true, cond_false]
      rw [need_yes (by omega), need_yes (by omega)]
      exact ih (i + 1) f (by omega) (by omega) (by omega)
  unfold g_doormansame_Bans
  simp only [bne_self_eq_false, cond_false]
  exact main l.length 0 _ (by omega) (by omega) (by omega)

theorem sameBook_refl (l : List T_api_Entry) (h : l.length ≤ 1000000) : g_doormansame_Book l l = some true := by
  have main : ∀ (k i f : Nat), l.length - i = k → i ≤ l.length → k + 1 ≤ f → g_doormansame_Book_c0 l l f i = some true := by
    intro k
    induction k with
    | zero =>
      intro i f hk hi hf
      obtain ⟨f, rfl⟩ : ∃ x, f = x + 1 := ⟨f - 1, by omega⟩
      have hc : ¬ ((i : Int) < (l.length : Int)) := by omega
      unfold g_doormansame_Book_c0
      simp only [cond_decide', if_neg hc]
    | succ k ih =>
      intro i f hk hi hf
      obtain ⟨f, rfl⟩ : ∃ x, f = x + 1 := ⟨f - 1, by omega⟩
      have hc : (i : Int) < (l.length : Int) := by omega
      have e1 : add64 (i : Int) 1 = ((i + 1 : Nat) : Int) := add1 (n := i + 1) (by omega) (by simp only [maxLen]; omega)
      unfold g_doormansame_Book_c0
      simp only [cond_decide', if_pos hc, e1, decide_true, Bool.not_true, cond_false]
      rw [need_yes (by omega), need_yes (by omega)]
      exact ih (i + 1) f (by omega) (by omega) (by omega)
  unfold g_doormansame_Book
  simp only [bne_self_eq_false, cond_false]
  exact main l.length 0 _ (by omega) (by omega) (by omega)

theorem samePeers_refl (l : List T_api_Peer) (h : l.length ≤ 1000000) : g_doormansame_Peers l l = some true := by
  have main : ∀ (k i f : Nat), l.length - i = k → i ≤ l.length → k + 1 ≤ f → g_doormansame_Peers_c0 l l f i = some true := by
    intro k
    induction k with
    | zero =>
      intro i f hk hi hf
      obtain ⟨f, rfl⟩ : ∃ x, f = x + 1 := ⟨f - 1, by omega⟩
      have hc : ¬ ((i : Int) < (l.length : Int)) := by omega
      unfold g_doormansame_Peers_c0
      simp only [cond_decide', if_neg hc]
    | succ k ih =>
      intro i f hk hi hf
      obtain ⟨f, rfl⟩ : ∃ x, f = x + 1 := ⟨f - 1, by omega⟩
      have hc : (i : Int) < (l.length : Int) := by omega
      have e1 : add64 (i : Int) 1 = ((i + 1 : Nat) : Int) := add1 (n := i + 1) (by omega) (by simp only [maxLen]; omega)
      unfold g_doormansame_Peers_c0
      simp only [cond_decide', if_pos hc, e1, decide_true, Bool.not_true, cond_false]
      rw [need_yes (by omega), need_yes (by omega)]
      exact ih (i + 1) f (by omega) (by omega) (by omega)
  unfold g_doormansame_Peers
  simp only [bne_self_eq_false, cond_false]
  exact main l.length 0 _ (by omega) (by omega) (by omega)

theorem sameValue_refl (v : T_api_Value) (h : okV v) : g_doormansame_Value v v = some true := by
  unfold g_doormansame_Value
  simp only [beq_self_eq_true, decide_true, cond_true, sameBans_refl _ h.1, sameBook_refl _ h.2, bind_s]

theorem sameOp_refl (o : T_api_Op) (h : okV o.fVal) : g_doormansame_Op o o = some true := by
  unfold g_doormansame_Op
  simp only [beq_self_eq_true, decide_true, cond_true, sameValue_refl _ h, bind_s]

theorem sameReply_refl (r : T_api_Reply) (h : r.fPeers.length ≤ 1000000) : g_doormansame_Reply r r = some true := by
  unfold g_doormansame_Reply
  simp only [beq_self_eq_true, decide_true, cond_true, samePeers_refl _ h, bind_s]

end Go.Proofs.Ytnbkjjoodmmneaa
