/-
  PLAIN LAWS: where a lock was taken against the order; the law of stuck.
-/
import Derived.Test.YtgedafbejcpioaaPlRo
namespace Go.Proofs.Ytgedafbejcpioaa
set_option linter.unusedSimpArgs false
set_option linter.unusedVariables false
set_option linter.unusedSectionVars false

abbrev Stp := T_api_Step

/-! ### Is a lock held? -/
def hstep (who take give lock : Int) (is : Bool) (s : Stp) : Bool := if s.fWho = who ∧ s.fOp.fLock = lock then (if s.fOp.fKind = give then false else if s.fOp.fKind = take then true else is) else is
def heldF (l : List Stp) (who take give lock : Int) : Bool := l.foldl (hstep who take give lock) false

theorem held_c0 (l : List Stp) (hl : l.length ≤ maxLen) (who take give lock : Int) : ∀ (n fu i : Nat) (b : Bool), l.length - i = n → n < fu → i ≤ l.length →
    g_doormanref48_held_c0 l who take give lock fu b (i : Int) = some ((l.drop i).foldl (hstep who take give lock) b)
  | n, 0, i, b, _, h, _ => by omega
  | 0, fu + 1, i, b, hn, hf, hi => by
    simp only [g_doormanref48_held_c0]
    rw [cond_decide', if_neg (by omega), List.drop_of_length_le (by omega)]
    rfl
  | n + 1, fu + 1, i, b, hn, hf, hi => by
    have hi1 : i < l.length := by omega
    simp only [g_doormanref48_held_c0]
    rw [cond_decide', if_pos (by omega), need_yes (by omega), add1 hi1 hl, drop_cons l T_api_Step.d i hi1, List.foldl_cons]
    simp only [Int.toNat_natCast]
    generalize l.getD i T_api_Step.d = s
    have ih := fun c => held_c0 l hl who take give lock n fu (i + 1) c (by omega) (by omega) (by omega)
    rw [ih, ih, ih]
    unfold hstep
    by_cases h1 : s.fWho = who
    · by_cases h2 : s.fOp.fLock = lock
      · rw [if_pos ⟨h1, h2⟩, beq_iff_eq.2 h1, beq_iff_eq.2 h2, cond_true, cond_true]
        by_cases h3 : s.fOp.fKind = give
        · rw [if_pos h3, beq_iff_eq.2 h3]
          cases s.fOp.fKind == take <;> rfl
        · rw [if_neg h3, beq_eq_false_iff_ne.2 h3]
          by_cases h4 : s.fOp.fKind = take
          · rw [if_pos h4, beq_iff_eq.2 h4]; rfl
          · rw [if_neg h4, beq_eq_false_iff_ne.2 h4]; rfl
      · rw [if_neg (fun h => h2 h.2), beq_iff_eq.2 h1, beq_eq_false_iff_ne.2 h2]; rfl
    · rw [if_neg (fun h => h1 h.1), beq_eq_false_iff_ne.2 h1]; rfl

theorem held_eq (l : List Stp) (hl : l.length ≤ maxLen) (who take give lock : Int) : g_doormanref48_held l who take give lock = some (heldF l who take give lock) := by
  have := held_c0 l hl who take give lock l.length ((((l.length : Nat) : Int) - (0 : Int)).toNat + 2) 0 false (by omega) (by omega) (by omega)
  exact this

theorem heldF_snoc (l : List Stp) (s : Stp) (who take give lock : Int) : heldF (l ++ [s]) who take give lock = hstep who take give lock (heldF l who take give lock) s := by
  unfold heldF
  rw [List.foldl_append]
  rfl

theorem heldF_some (who take give lock : Int) : ∀ (l : List Stp) (b : Bool), l.foldl (hstep who take give lock) b = true → b = true ∨ ∃ x ∈ l, x.fWho = who ∧ x.fOp.fLock = lock ∧ x.fOp.fKind = take
  | [], b, h => .inl h
  | s :: r, b, h => by
    rw [List.foldl_cons] at h
    rcases heldF_some who take give lock r _ h with h1 | ⟨x, hx, h1⟩
    · unfold hstep at h1
      by_cases h2 : s.fWho = who ∧ s.fOp.fLock = lock
      · rw [if_pos h2] at h1
        by_cases h3 : s.fOp.fKind = give
        · rw [if_pos h3] at h1; cases h1
        · rw [if_neg h3] at h1
          by_cases h4 : s.fOp.fKind = take
          · exact .inr ⟨s, List.mem_cons_self, h2.1, h2.2, h4⟩
          · rw [if_neg h4] at h1; exact .inl h1
      · rw [if_neg h2] at h1; exact .inl h1
    · exact .inr ⟨x, List.mem_cons_of_mem _ hx, h1⟩

/-! ### The document's Rises -/
def fitR (L : List Stp) (s x : Stp) : Bool := (x.fWho == s.fWho) && !decide (x.fOp.fLock < s.fOp.fLock) && ((x.fOp.fKind == 1) && heldF L s.fWho 1 3 x.fOp.fLock || (x.fOp.fKind == 2) && heldF L s.fWho 2 4 x.fOp.fLock)

theorem ris_tree (L : List Stp) (s x : Stp) (q : Bool) (y n : Option Int) :
    (bif x.fWho != s.fWho then (bif q then y else n) else
      bif decide (x.fOp.fLock < s.fOp.fLock) then (bif q then y else n) else
      bif x.fOp.fKind == 1 then (bif heldF L s.fWho 1 3 x.fOp.fLock then y else bif x.fOp.fKind == 2 then (bif heldF L s.fWho 2 4 x.fOp.fLock then y else bif q then y else n) else bif q then y else n)
      else bif x.fOp.fKind == 2 then (bif heldF L s.fWho 2 4 x.fOp.fLock then y else bif q then y else n) else bif q then y else n) = bif fitR L s x || q then y else n := by
  unfold fitR
  by_cases h1 : x.fWho = s.fWho
  · rw [show (x.fWho != s.fWho) = false by rw [bne_eq_false_iff_eq]; exact h1, cond_false, beq_iff_eq.2 h1]
    by_cases h2 : x.fOp.fLock < s.fOp.fLock
    · rw [decide_eq_true h2]
      rfl
    · rw [decide_eq_false h2, cond_false]
      cases (x.fOp.fKind == 1) <;> cases (x.fOp.fKind == 2) <;> cases heldF L s.fWho 1 3 x.fOp.fLock <;> cases heldF L s.fWho 2 4 x.fOp.fLock <;> rfl
  · rw [show (x.fWho != s.fWho) = true by rw [bne_iff_ne]; exact h1, cond_true, beq_eq_false_iff_ne.2 h1]
    rfl

theorem ris_c1 (l : List Stp) (hl : l.length ≤ 60) (i : Nat) (hi : i < l.length) (K : Int → Option Int) (s : Stp) : ∀ (n fu m : Nat), i - m = n → n < fu → m ≤ i →
    g_doormanref48_Rises_c1 l (i : Int) K fu (m : Int) s = bif ((l.take i).drop m).any (fitR (l.take i) s) then some (i : Int) else K (add64 (i : Int) 1)
  | n, 0, m, _, h, _ => by omega
  | 0, fu + 1, m, hn, hf, hm => by
    simp only [g_doormanref48_Rises_c1]
    rw [cond_decide', if_neg (by omega), List.drop_of_length_le (by simp; omega)]
    rfl
  | n + 1, fu + 1, m, hn, hf, hm => by
    have hm1 : m < l.length := by omega
    have hL : (l.take i).length ≤ maxLen := by simp only [List.length_take, maxLen]; omega
    have ih := ris_c1 l hl i hi K s n fu (m + 1) (by omega) (by omega) (by omega)
    have hget : (l.take i).getD m T_api_Step.d = l.getD m T_api_Step.d := by
      simp only [List.getD_eq_getElem?_getD]
      rw [List.getElem?_take_of_lt (by omega)]
    simp only [g_doormanref48_Rises_c1]
    rw [cond_decide', if_pos (by omega), need_yes (by omega), add1 hm1 (by unfold maxLen; omega), ih]
    simp only [Int.toNat_natCast]
    rw [drop_cons (l.take i) T_api_Step.d m (by simp; omega), List.any_cons, hget]
    simp only [held_eq _ hL, Option.bind_some]
    rw [need_yes (by omega), need_yes (by omega)]
    exact ris_tree _ _ _ _ _ _

/-! ### The held locks -/
abbrev Hld := List (T_stuck_hold × Int)
def hasK (m : Hld) (k : T_stuck_hold) : Prop := ∃ p ∈ m, p.1 = k

theorem hasK_put (k g : T_stuck_hold) (v : Int) : ∀ m : Hld, hasK (mput m k v) g ↔ g = k ∨ hasK m g
  | [] => by unfold mput hasK; simp [eq_comm]
  | p :: r => by
    have ih := hasK_put k g v r
    unfold hasK at ih ⊢
    unfold mput
    by_cases h : p.1 = k
    · rw [if_pos h]
      simp only [List.mem_cons, exists_eq_or_imp]
      rw [h, eq_comm (a := k)]
      exact ⟨fun h => h.elim .inl fun h => .inr (.inr h), fun h => h.elim .inl id⟩
    · rw [if_neg h]
      simp only [List.mem_cons, exists_eq_or_imp]
      rw [ih]
      exact ⟨fun h => h.elim (fun h => .inr (.inl h)) (fun h => h.elim .inl fun h => .inr (.inr h)), fun h => h.elim (fun h => .inr (.inl h)) (fun h => h.elim .inl fun h => .inr (.inr h))⟩

theorem keys_put (k : T_stuck_hold) (v : Int) : ∀ m : Hld, (m.map (·.1)).Nodup → ((mput m k v).map (·.1)).Nodup
  | [], _ => by unfold mput; simp
  | p :: r, h => by
    rw [List.map_cons, List.nodup_cons] at h
    unfold mput
    by_cases e : p.1 = k
    · rw [if_pos e, List.map_cons, List.nodup_cons]
      exact ⟨by rw [← e]; exact h.1, h.2⟩
    · rw [if_neg e, List.map_cons, List.nodup_cons]
      refine ⟨fun hm => ?_, keys_put k v r h.2⟩
      obtain ⟨q, hq, h1⟩ := List.mem_map.1 hm
      rcases (hasK_put k p.1 v r).1 ⟨q, hq, h1⟩ with h2 | ⟨z, hz, h2⟩
      · exact e h2
      · exact h.1 (List.mem_map.2 ⟨z, hz, h2⟩)

theorem hasK_del (k g : T_stuck_hold) : ∀ m : Hld, (m.map (·.1)).Nodup → (hasK (mdel m k) g ↔ g ≠ k ∧ hasK m g)
  | [], _ => by unfold mdel hasK; simp
  | p :: r, h => by
    rw [List.map_cons, List.nodup_cons] at h
    have ih := hasK_del k g r h.2
    unfold hasK at ih ⊢
    unfold mdel
    by_cases e : p.1 = k
    · rw [if_pos e]
      simp only [List.mem_cons, exists_eq_or_imp]
      constructor
      · rintro ⟨q, hq, h1⟩
        refine ⟨fun e2 => h.1 ?_, .inr ⟨q, hq, h1⟩⟩
        rw [e, ← e2, ← h1]
        exact List.mem_map.2 ⟨q, hq, rfl⟩
      · rintro ⟨h1, h2 | h2⟩
        · exact absurd (h2.symm.trans e) h1
        · exact h2
    · rw [if_neg e]
      simp only [List.mem_cons, exists_eq_or_imp]
      rw [ih]
      constructor
      · rintro (h1 | ⟨h1, h2⟩)
        · exact ⟨fun e2 => e (h1.trans e2), .inl h1⟩
        · exact ⟨h1, .inr h2⟩
      · rintro ⟨h1, h2 | h2⟩
        · exact .inl h2
        · exact .inr ⟨h1, h2⟩

theorem keys_del (k : T_stuck_hold) : ∀ m : Hld, (m.map (·.1)).Nodup → ((mdel m k).map (·.1)).Nodup
  | [], _ => by unfold mdel; simp
  | p :: r, h => by
    have h' := h
    rw [List.map_cons, List.nodup_cons] at h
    unfold mdel
    by_cases e : p.1 = k
    · rw [if_pos e]; exact h.2
    · rw [if_neg e, List.map_cons, List.nodup_cons]
      refine ⟨fun hm => ?_, keys_del k r h.2⟩
      obtain ⟨q, hq, h1⟩ := List.mem_map.1 hm
      obtain ⟨_, z, hz, h2⟩ := (hasK_del k p.1 r h.2).1 ⟨q, hq, h1⟩
      exact h.1 (List.mem_map.2 ⟨z, hz, h2⟩)

/-- The map tells which locks are held behind the steps. -/
structure Hinv (L : List Stp) (m : Hld) : Prop where
  nd : (m.map (·.1)).Nodup
  is : ∀ k, hasK m k ↔ (k.fkind = 1 ∧ heldF L k.fwho 1 3 k.flock = true) ∨ (k.fkind = 2 ∧ heldF L k.fwho 2 4 k.flock = true)

theorem Hinv.fit {L : List Stp} {m : Hld} (h : Hinv L m) (s : Stp) : m.any (fun p => risesFit s p.1) = L.any (fitR L s) := by
  rw [Bool.eq_iff_iff, List.any_eq_true, List.any_eq_true]
  constructor
  · rintro ⟨p, hp, h1⟩
    unfold risesFit at h1
    cases h2 : (p.1.fwho == s.fWho) with
    | false => rw [h2] at h1; cases h1
    | true =>
      rw [h2, cond_true, decide_eq_true_iff] at h1
      rw [beq_iff_eq] at h2
      rcases (h.is p.1).1 ⟨p, hp, rfl⟩ with ⟨h3, h4⟩ | ⟨h3, h4⟩
      · rcases heldF_some _ _ _ _ L false h4 with h5 | ⟨x, hx, h5, h6, h7⟩
        · cases h5
        · refine ⟨x, hx, ?_⟩
          unfold fitR
          rw [h2] at h4 h5
          rw [h5, h6, h7, h4, decide_eq_false (by omega)]
          simp
      · rcases heldF_some _ _ _ _ L false h4 with h5 | ⟨x, hx, h5, h6, h7⟩
        · cases h5
        · refine ⟨x, hx, ?_⟩
          unfold fitR
          rw [h2] at h4 h5
          rw [h5, h6, h7, h4, decide_eq_false (by omega)]
          simp
  · rintro ⟨x, hx, h1⟩
    unfold fitR at h1
    simp only [Bool.and_eq_true, Bool.or_eq_true, beq_iff_eq, Bool.not_eq_true', decide_eq_false_iff_not] at h1
    obtain ⟨⟨h1, h2⟩, h3⟩ := h1
    have : hasK m ⟨s.fWho, x.fOp.fKind, x.fOp.fLock⟩ := by
      refine (h.is _).2 ?_
      rcases h3 with ⟨h3, h4⟩ | ⟨h3, h4⟩
      · exact .inl ⟨h3, h4⟩
      · exact .inr ⟨h3, h4⟩
    obtain ⟨p, hp, e⟩ := this
    refine ⟨p, hp, ?_⟩
    unfold risesFit
    rw [e]
    simp only [BEq.rfl, cond_true, decide_eq_true_iff]
    omega

theorem Hinv.nil : Hinv [] [] := ⟨by simp, fun k => by unfold hasK heldF; simp⟩

theorem hold_eq {k : T_stuck_hold} {a b c : Int} : k = ⟨a, b, c⟩ ↔ k.fwho = a ∧ k.fkind = b ∧ k.flock = c := by cases k; simp

theorem Hinv.put1 {L : List Stp} {m : Hld} (h : Hinv L m) (s : Stp) (hk : s.fOp.fKind = 1) (v : Int) : Hinv (L ++ [s]) (mput m ⟨s.fWho, 1, s.fOp.fLock⟩ v) := by
  refine ⟨keys_put _ _ _ h.nd, fun k => ?_⟩
  rw [hasK_put, h.is, heldF_snoc, heldF_snoc, hold_eq]
  unfold hstep
  rw [hk]
  by_cases h1 : s.fWho = k.fwho ∧ s.fOp.fLock = k.flock
  · rw [if_pos h1, if_pos h1]
    simp only [h1.1, h1.2]
    by_cases h2 : k.fkind = 1
    · simp [h2]
    · simp [h2]
  · rw [if_neg h1, if_neg h1]
    exact ⟨fun h => h.elim (fun e => absurd ⟨e.1.symm, e.2.2.symm⟩ h1) id, .inr⟩

theorem Hinv.put2 {L : List Stp} {m : Hld} (h : Hinv L m) (s : Stp) (hk : s.fOp.fKind = 2) (v : Int) : Hinv (L ++ [s]) (mput m ⟨s.fWho, 2, s.fOp.fLock⟩ v) := by
  refine ⟨keys_put _ _ _ h.nd, fun k => ?_⟩
  rw [hasK_put, h.is, heldF_snoc, heldF_snoc, hold_eq]
  unfold hstep
  rw [hk]
  by_cases h1 : s.fWho = k.fwho ∧ s.fOp.fLock = k.flock
  · rw [if_pos h1, if_pos h1]
    simp only [h1.1, h1.2]
    by_cases h2 : k.fkind = 2
    · simp [h2]
    · simp [h2]
  · rw [if_neg h1, if_neg h1]
    exact ⟨fun h => h.elim (fun e => absurd ⟨e.1.symm, e.2.2.symm⟩ h1) id, .inr⟩

theorem Hinv.del1 {L : List Stp} {m : Hld} (h : Hinv L m) (s : Stp) (hk : s.fOp.fKind = 3) : Hinv (L ++ [s]) (mdel m ⟨s.fWho, 1, s.fOp.fLock⟩) := by
  refine ⟨keys_del _ _ h.nd, fun k => ?_⟩
  rw [hasK_del _ _ _ h.nd, h.is, heldF_snoc, heldF_snoc, Ne, hold_eq]
  unfold hstep
  rw [hk]
  by_cases h1 : s.fWho = k.fwho ∧ s.fOp.fLock = k.flock
  · rw [if_pos h1, if_pos h1]
    simp only [h1.1, h1.2]
    by_cases h2 : k.fkind = 1
    · simp [h2]
    · simp [h2]
  · rw [if_neg h1, if_neg h1]
    exact ⟨fun h => h.2, fun h => ⟨fun e => h1 ⟨e.1.symm, e.2.2.symm⟩, h⟩⟩

theorem Hinv.del2 {L : List Stp} {m : Hld} (h : Hinv L m) (s : Stp) (hk : s.fOp.fKind = 4) : Hinv (L ++ [s]) (mdel m ⟨s.fWho, 2, s.fOp.fLock⟩) := by
  refine ⟨keys_del _ _ h.nd, fun k => ?_⟩
  rw [hasK_del _ _ _ h.nd, h.is, heldF_snoc, heldF_snoc, Ne, hold_eq]
  unfold hstep
  rw [hk]
  by_cases h1 : s.fWho = k.fwho ∧ s.fOp.fLock = k.flock
  · rw [if_pos h1, if_pos h1]
    simp only [h1.1, h1.2]
    by_cases h2 : k.fkind = 2
    · simp [h2]
    · simp [h2]
  · rw [if_neg h1, if_neg h1]
    exact ⟨fun h => h.2, fun h => ⟨fun e => h1 ⟨e.1.symm, e.2.2.symm⟩, h⟩⟩

theorem Hinv.same {L : List Stp} {m : Hld} (h : Hinv L m) (s : Stp) (h1 : s.fOp.fKind ≠ 1) (h2 : s.fOp.fKind ≠ 2) (h3 : s.fOp.fKind ≠ 3) (h4 : s.fOp.fKind ≠ 4) : Hinv (L ++ [s]) m := by
  refine ⟨h.nd, fun k => ?_⟩
  rw [h.is, heldF_snoc, heldF_snoc]
  unfold hstep
  rw [if_neg h1, if_neg h2, if_neg h3, if_neg h4]
  simp only [ite_self]

/-! ### Both walk side by side -/
theorem rises_both (l : List Stp) (hl : l.length ≤ 60) : ∀ (n fu fu2 i : Nat) (m : Hld), l.length - i = n → n < fu → n < fu2 → i ≤ l.length → Hinv (l.take i) m →
    ∃ r, g_stuck_Rises_c0 fu l (l.length : Int) (i : Int) m = some r ∧ g_doormanref48_Rises_c0 l fu2 (i : Int) = some r
  | n, 0, fu2, i, m, _, h, _, _, _ => by omega
  | n, fu + 1, 0, i, m, _, _, h, _, _ => by omega
  | 0, fu + 1, fu2 + 1, i, m, hn, hf, hf2, hi, hv => by
    simp only [g_stuck_Rises_c0, g_doormanref48_Rises_c0]
    rw [cond_decide', if_neg (by omega), cond_decide', if_neg (by omega)]
    exact ⟨_, rfl, rfl⟩
  | n + 1, fu + 1, fu2 + 1, i, m, hn, hf, hf2, hi, hv => by
    have hi1 : i < l.length := by omega
    have htk : l.take (i + 1) = l.take i ++ [l.getD i T_api_Step.d] := by
      rw [List.take_succ_eq_append_getElem hi1, getD_of l _ i hi1]
    have ih := fun m2 (h2 : Hinv (l.take i ++ [l.getD i T_api_Step.d]) m2) => rises_both l hl n fu fu2 (i + 1) m2 (by omega) (by omega) (by omega) (by omega) (by rw [htk]; exact h2)
    have hadd := add1 hi1 (show l.length ≤ maxLen by unfold maxLen; omega)
    have hc := fun s => ris_c1 l hl i hi1 (g_doormanref48_Rises_c0 l fu2) s i (((i : Int) - (0 : Int)).toNat + 2) 0 (by omega) (by omega) (by omega)
    simp only [Int.natCast_zero, List.drop_zero] at hc
    simp only [g_stuck_Rises_c0, g_doormanref48_Rises_c0, g_stuck_Rises_c1]
    rw [cond_decide', if_pos (by omega), need_yes (by omega), cond_decide', if_pos (by omega), need_yes (by omega)]
    simp only [Int.toNat_natCast]
    rw [hc, hadd]
    revert ih
    generalize l.getD i T_api_Step.d = s
    intro ih
    rw [hv.fit s]
    by_cases h1 : s.fOp.fKind = 1
    · rw [h1]
      simp only [BEq.rfl, cond_true, bne_self_eq_false, cond_false]
      cases (l.take i).any (fitR (l.take i) s) with
      | true => exact ⟨_, rfl, rfl⟩
      | false => exact ih _ (hv.put1 s h1 1)
    · rw [beq_eq_false_iff_ne.2 h1, bne_iff_ne.2 h1]
      simp only [cond_true, cond_false]
      by_cases h2 : s.fOp.fKind = 2
      · rw [h2]
        simp only [BEq.rfl, cond_true, bne_self_eq_false, cond_false]
        cases (l.take i).any (fitR (l.take i) s) with
        | true => exact ⟨_, rfl, rfl⟩
        | false => exact ih _ (hv.put2 s h2 1)
      · rw [beq_eq_false_iff_ne.2 h2, bne_iff_ne.2 h2]
        simp only [cond_true, cond_false]
        by_cases h3 : s.fOp.fKind = 3
        · rw [h3]
          exact ih _ (hv.del1 s h3)
        · rw [beq_eq_false_iff_ne.2 h3]
          by_cases h4 : s.fOp.fKind = 4
          · rw [h4]
            exact ih _ (hv.del2 s h4)
          · rw [beq_eq_false_iff_ne.2 h4]
            exact ih _ (hv.same s h1 h2 h3 h4)

theorem rises_same (l : List Stp) (hl : l.length ≤ 60) : ∃ r, g_stuck_Rises l = some r ∧ g_doormanref48_Rises l = some r := by
  simp only [g_stuck_Rises, g_doormanref48_Rises]
  exact rises_both l hl l.length _ _ 0 [] (by omega) (by omega) (by omega) (by omega) Hinv.nil

theorem stuck_awake : g_doormanlaw48_awake = some true := by decide +kernel

theorem StuckTells_plain (l : Prs) (log : List Stp) : g_doormanlaw48_StuckTells l log = some true := by
  simp only [g_doormanlaw48_StuckTells, stuck_awake, Option.bind_some]
  by_cases h1 : l.length > 80
  · rw [cond_decide', if_pos (by omega)]
  · rw [cond_decide', if_neg (by omega)]
    by_cases h2 : log.length > 60
    · rw [cond_decide', if_pos (by omega)]
    · rw [cond_decide', if_neg (by omega)]
      obtain ⟨b, h3, h4⟩ := round_same l (by omega)
      obtain ⟨r, h5, h6⟩ := rises_same log (by omega)
      rw [h3, h4, h5, h6]
      simp

end Go.Proofs.Ytgedafbejcpioaa
