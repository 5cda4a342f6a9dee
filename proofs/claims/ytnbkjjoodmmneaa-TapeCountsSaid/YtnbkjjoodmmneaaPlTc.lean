/-
  PLAIN LAWS: the laws of tapes.
-/
import Derived.Test.YtnbkjjoodmmneaaPlTb
namespace Go.Proofs.Ytnbkjjoodmmneaa
set_option linter.unusedVariables false
set_option linter.unusedSimpArgs false

theorem awake38 : g_doormanlaw38_awake = some true := by decide +kernel

/-! ### What is light -/
theorem light38 (l : List T_api_Op) (got : List T_api_Value) : ∃ b, g_doormanlaw38_light l got = some b ∧ (b = true → l.length ≤ 60 ∧ got.length ≤ 60 ∧ ∀ o ∈ l, okV o.fVal) := by
  have main : ∀ (k i f : Nat), 60 - i = k → i ≤ 60 → i ≤ l.length → k + 1 ≤ f → (∀ j, j < i → okV (l.getD j T_api_Op.d).fVal) → ∃ b, g_doormanlaw38_light_c0 l got f i = some b ∧ (b = true → l.length ≤ 60 ∧ got.length ≤ 60 ∧ ∀ o ∈ l, okV o.fVal) := by
    intro k
    have fin : ∀ i, (∀ j, j < i → okV (l.getD j T_api_Op.d).fVal) → l.length ≤ i → ∀ o ∈ l, okV o.fVal := fun i hj hi o ho => by
      obtain ⟨j, hj2, rfl⟩ := List.getElem_of_mem ho
      rw [← getD_of l T_api_Op.d j hj2]
      exact hj j (by omega)
    have tail : ∀ i, (∀ j, j < i → okV (l.getD j T_api_Op.d).fVal) → (l.length ≤ 60 → l.length ≤ i) → ∃ b, (if ((l.length : Nat) : Int) ≤ 60 then some (decide (((got.length : Nat) : Int) ≤ 60)) else some false) = some b ∧ (b = true → l.length ≤ 60 ∧ got.length ≤ 60 ∧ ∀ o ∈ l, okV o.fVal) := fun i hj hi => by
      by_cases h : ((l.length : Nat) : Int) ≤ 60
      · rw [if_pos h]
        exact ⟨_, rfl, fun hb => ⟨by omega, by have := of_decide_eq_true hb; omega, fin i hj (hi (by omega))⟩⟩
      · rw [if_neg h]
        exact ⟨_, rfl, fun hb => by cases hb⟩
    induction k with
    | zero =>
      intro i f hk hi hil hf hj
      obtain ⟨f, rfl⟩ : ∃ x, f = x + 1 := ⟨f - 1, by omega⟩
      unfold g_doormanlaw38_light_c0
      simp only [cond_decide']
      have c2 : ¬ ((i : Int) < 60) := by omega
      rw [if_neg c2]
      split
      · exact tail i hj (by omega)
      · exact tail i hj (by omega)
    | succ k ih =>
      intro i f hk hi hil hf hj
      obtain ⟨f, rfl⟩ : ∃ x, f = x + 1 := ⟨f - 1, by omega⟩
      unfold g_doormanlaw38_light_c0
      simp only [cond_decide']
      have c2 : (i : Int) < 60 := by omega
      rw [if_pos c2]
      by_cases c1 : (i : Int) < ((l.length : Nat) : Int)
      · rw [if_pos c1, need_yes (by omega)]
        have e1 : add64 (i : Int) 1 = ((i + 1 : Nat) : Int) := add1 (n := i + 1) (by omega) (by simp only [maxLen]; omega)
        by_cases h1 : (((l.getD ((i : Int)).toNat T_api_Op.d).fVal.fBans.length : Nat) : Int) > 20
        · rw [if_pos h1]
          exact ⟨_, rfl, fun hb => by cases hb⟩
        rw [if_neg h1]
        by_cases h2 : (((l.getD ((i : Int)).toNat T_api_Op.d).fVal.fBook.length : Nat) : Int) > 20
        · rw [if_pos h2]
          exact ⟨_, rfl, fun hb => by cases hb⟩
        rw [if_neg h2, e1]
        refine ih (i + 1) f (by omega) (by omega) (by omega) (by omega) fun j hj2 => ?_
        by_cases h : j < i
        · exact hj j h
        · have : j = i := by omega
          subst this
          simp only [Int.toNat_natCast] at h1 h2
          exact ⟨by omega, by omega⟩
      · rw [if_neg c1]
        exact tail i hj (by omega)
  exact main 60 0 _ (by omega) (by omega) (by omega) (by omega) (by simp)

/-! ### Operations, one behind the other -/
def badKind (o : T_api_Op) : Prop := o.fKind < 1 ∨ o.fKind > 8
instance (o : T_api_Op) : Decidable (badKind o) := by unfold badKind; infer_instance

inductive Dr where
  | done
  | wait (o : T_api_Op)
  | broken

def drillN : List T_api_Op → List T_api_Value → Dr
  | [], _ => .done
  | o :: l, got => if badKind o then .broken else match got with
    | [] => .wait o
    | _ :: g => drillN l g

def repN (n : Int) : T_api_Reply := ⟨0, endZ, n, 0, []⟩

theorem do_spec (g : List T_api_Value) (x : T_api_Op) : ∃ t, g_tape_do ⟨g⟩ x = some t ∧ (badKind x → ∃ s, t = .bad s) ∧ (¬ badKind x → t = match g with | [] => .pan (opN x) | _ :: r => .ret () ⟨r⟩) := by
  obtain ⟨k, lk, lc, old, new, v, m⟩ := x
  unfold badKind g_tape_do
  simp only [cond_eq]
  have cases8 : (k < 1 ∨ k > 8) ∨ k = 1 ∨ k = 2 ∨ k = 3 ∨ k = 4 ∨ k = 5 ∨ k = 6 ∨ k = 7 ∨ k = 8 := by omega
  rcases cases8 with h | rfl | rfl | rfl | rfl | rfl | rfl | rfl | rfl
  · rw [if_neg (by omega), if_neg (by omega), if_neg (by omega), if_neg (by omega), if_neg (by omega), if_neg (by omega), if_neg (by omega), if_neg (by omega)]
    exact ⟨_, rfl, fun _ => ⟨_, rfl⟩, fun h' => absurd h h'⟩
  all_goals
    simp (config := { decide := true }) only [if_true, if_false, g_tape_tape_Lock, g_tape_tape_Share, g_tape_tape_Free, g_tape_tape_Drop, g_tape_tape_Load, g_tape_tape_Store, g_tape_tape_Swap, g_tape_tape_Pass]
    cases g with
    | nil =>
      rw [ask_nil]
      exact ⟨_, rfl, fun h => absurd h (by decide), fun _ => rfl⟩
    | cons v r =>
      rw [ask_cons]
      exact ⟨_, rfl, fun h => absurd h (by decide), fun _ => rfl⟩

theorem Drill_loop (l : List T_api_Op) (got : List T_api_Value) (hl : l.length ≤ 1000000) (b3 : T_api_Reply) (b4 : T_api_Op) : ∀ (k i f g : Nat), l.length - i = k → i ≤ l.length → i ≤ got.length → k + 1 ≤ f → k + 1 ≤ g →
    match drillN (l.drop i) (got.drop i) with
    | .done => (∃ x, g_tape_Drill_1_c0 l f l (l.length : Int) i ⟨got.drop i⟩ b3 = some (.ret (repN (l.length : Int)) x)) ∧ g_doormanref38_Drill_c0 l got g i b4 = some (opZ, true, false)
    | .wait o => o ∈ l ∧ g_tape_Drill_1_c0 l f l (l.length : Int) i ⟨got.drop i⟩ b3 = some (.pan (opN o)) ∧ g_doormanref38_Drill_c0 l got g i b4 = some (opN o, false, false)
    | .broken => (∃ s, g_tape_Drill_1_c0 l f l (l.length : Int) i ⟨got.drop i⟩ b3 = some (.bad s)) ∧ g_doormanref38_Drill_c0 l got g i b4 = some (opZ, false, true) := by
  intro k
  induction k with
  | zero =>
    intro i f g hk hi hig hf hg
    obtain ⟨f, rfl⟩ : ∃ x, f = x + 1 := ⟨f - 1, by omega⟩
    obtain ⟨g, rfl⟩ : ∃ x, g = x + 1 := ⟨g - 1, by omega⟩
    have hc : ¬ ((i : Int) < (l.length : Int)) := by omega
    rw [List.drop_eq_nil_of_le (by omega)]
    unfold g_tape_Drill_1_c0 g_doormanref38_Drill_c0
    simp only [drillN, cond_decide', if_neg hc]
    exact ⟨⟨_, rfl⟩, rfl⟩
  | succ k ih =>
    intro i f g hk hi hig hf hg
    obtain ⟨f, rfl⟩ : ∃ x, f = x + 1 := ⟨f - 1, by omega⟩
    obtain ⟨g, rfl⟩ : ∃ x, g = x + 1 := ⟨g - 1, by omega⟩
    have hc : (i : Int) < (l.length : Int) := by omega
    have e1 : add64 (i : Int) 1 = ((i + 1 : Nat) : Int) := add1 (n := i + 1) (by omega) (by simp only [maxLen]; omega)
    have hd := drop_cons l T_api_Op.d i (by omega)
    have hmem : l.getD i T_api_Op.d ∈ l := getD_mem l _ i (by omega)
    rw [hd]
    unfold g_tape_Drill_1_c0 g_doormanref38_Drill_c0
    simp only [cond_decide', if_pos hc, e1, Int.toNat_natCast]
    rw [need_yes (by omega), need_yes (by omega)]
    obtain ⟨t, ht, hb, hg2⟩ := do_spec (got.drop i) (l.getD i T_api_Op.d)
    rw [ht]
    simp only [bind_s, drillN]
    by_cases hbad : badKind (l.getD i T_api_Op.d)
    · obtain ⟨s, rfl⟩ := hb hbad
      simp only [if_pos hbad]
      refine ⟨⟨s, rfl⟩, ?_⟩
      rcases hbad with h | h
      · rw [if_pos h]; rfl
      · rw [if_neg (by omega), if_pos h]; rfl
    · rw [hg2 hbad]
      simp only [if_neg hbad]
      have hn : ¬ ((l.getD i T_api_Op.d).fKind < 1) ∧ ¬ ((l.getD i T_api_Op.d).fKind > 8) := by
        unfold badKind at hbad; omega
      rw [if_neg hn.1, if_neg hn.2]
      by_cases hga : i < got.length
      · rw [drop_cons got T_api_Value.d i hga]
        simp only
        rw [if_neg (show ¬ ((i : Int) ≥ (got.length : Int)) by omega)]
        exact ih (i + 1) f g (by omega) (by omega) (by omega) (by omega) (by omega)
      · rw [List.drop_eq_nil_of_le (by omega)]
        simp only
        rw [if_pos (show (i : Int) ≥ (got.length : Int) by omega), refClean_spec]
        exact ⟨hmem, by first | trivial | rfl, rfl⟩

def turnN (n : Int) : Dr → T_tape_Turn
  | .done => ⟨opZ, repN n, true, false⟩
  | .wait o => ⟨opN o, repZ, false, false⟩
  | .broken => ⟨opZ, repZ, false, true⟩

theorem Drill_spec (l : List T_api_Op) (got : List T_api_Value) (hl : l.length ≤ 1000000) : g_tape_Drill l got = some (turnN (l.length : Int) (drillN l got)) ∧
    (∃ q d b, g_doormanref38_Drill l got = some (q, d, b) ∧ q = (turnN (l.length : Int) (drillN l got)).fOp ∧ d = (turnN (l.length : Int) (drillN l got)).fDone ∧ b = (turnN (l.length : Int) (drillN l got)).fBroken) ∧ ∀ o, drillN l got = .wait o → o ∈ l := by
  have h := Drill_loop l got hl (T_api_Reply.mk (0 : Int) (T_api_End.mk (T_api_Addr.mk false (0 : Int) (0 : Int)) (0 : Int)) (0 : Int) (0 : Int) ([] : (List T_api_Peer))) (T_api_Op.mk (0 : Int) (0 : Int) (T_api_Loc.mk (0 : Int) (0 : Int) (0 : Int)) (0 : Int) (0 : Int) (T_api_Value.mk (0 : Int) (T_api_Peer.mk (T_api_End.mk (T_api_Addr.mk false (0 : Int) (0 : Int)) (0 : Int)) false (0 : Int) (T_api_Score.mk (0 : Int) (0 : Int)) (0 : Int) (0 : Int)) ([] : (List T_api_Ban)) ([] : (List T_api_Entry))) false)
    l.length 0 ((((l.length : Nat) : Int) - (0 : Int)).toNat + 2) ((((l.length : Nat) : Int) - (0 : Int)).toNat + 2) (by omega) (by omega) (by omega) (by omega) (by omega)
  simp only [List.drop_zero] at h
  unfold g_tape_Drill g_tape_Play_46 g_tape_Drill_1 g_doormanref38_Drill
  cases hd : drillN l got with
  | done =>
    rw [hd] at h
    obtain ⟨⟨x, h1⟩, h2⟩ := h
    have h1' : g_tape_Drill_1_c0 l ((((l.length : Nat) : Int) - (0 : Int)).toNat + 2) l ((l.length : Nat) : Int) (0 : Int) ⟨got⟩ _ = _ := h1
    have h2' : g_doormanref38_Drill_c0 l got ((((l.length : Nat) : Int) - (0 : Int)).toNat + 2) (0 : Int) _ = _ := h2
    rw [h1', h2']
    exact ⟨rfl, ⟨_, _, _, rfl, rfl, rfl, rfl⟩, fun o h => by cases h⟩
  | wait o =>
    rw [hd] at h
    obtain ⟨h0, h1, h2⟩ := h
    have h1' : g_tape_Drill_1_c0 l ((((l.length : Nat) : Int) - (0 : Int)).toNat + 2) l ((l.length : Nat) : Int) (0 : Int) ⟨got⟩ _ = _ := h1
    have h2' : g_doormanref38_Drill_c0 l got ((((l.length : Nat) : Int) - (0 : Int)).toNat + 2) (0 : Int) _ = _ := h2
    rw [h1', h2']
    exact ⟨rfl, ⟨_, _, _, rfl, rfl, rfl, rfl⟩, fun o' h => by cases h; exact h0⟩
  | broken =>
    rw [hd] at h
    obtain ⟨⟨s, h1⟩, h2⟩ := h
    have h1' : g_tape_Drill_1_c0 l ((((l.length : Nat) : Int) - (0 : Int)).toNat + 2) l ((l.length : Nat) : Int) (0 : Int) ⟨got⟩ _ = _ := h1
    have h2' : g_doormanref38_Drill_c0 l got ((((l.length : Nat) : Int) - (0 : Int)).toNat + 2) (0 : Int) _ = _ := h2
    rw [h1', h2']
    exact ⟨rfl, ⟨_, _, _, rfl, rfl, rfl, rfl⟩, fun o h => by cases h⟩

theorem turn_okV {n : Int} {l : List T_api_Op} {got : List T_api_Value} (h : ∀ o ∈ l, okV o.fVal) (hw : ∀ o, drillN l got = .wait o → o ∈ l) : okV (turnN n (drillN l got)).fOp.fVal := by
  cases hd : drillN l got with
  | done => exact okV_Z
  | wait o => exact okV_op (h o (hw o hd))
  | broken => exact okV_Z

theorem TapeDrills_plain (a0 : List T_api_Op) (a1 : List T_api_Value) (h0 : okL T_api_Op.ok a0) (h1 : okL T_api_Value.ok a1) : g_doormanlaw38_TapeDrills a0 a1 = some true := by
  obtain ⟨b, hb, hl⟩ := light38 a0 a1
  unfold g_doormanlaw38_TapeDrills
  rw [hb]
  simp only [bind_s]
  cases b with
  | false => simp only [Bool.not_false, cond_true, awake38, bind_s]
  | true =>
    obtain ⟨l1, l2, l3⟩ := hl rfl
    obtain ⟨d1, ⟨q, d, b, d2, rfl, rfl, rfl⟩, d3⟩ := Drill_spec a0 a1 (by omega)
    have hv := turn_okV (n := (a0.length : Int)) l3 d3
    simp only [Bool.not_true, cond_false, d1, d2, bind_s]
    unfold g_doormanlaw38_TapeDrills_c0
    simp only [sameOp_refl _ hv, bind_s, cond_true, beq_self_eq_true]
    cases hd : drillN a0 a1 with
    | done =>
      simp only [turnN, cond_true]
      rw [show T_api_Reply.mk (0 : Int) (T_api_End.mk (T_api_Addr.mk false (0 : Int) (0 : Int)) (0 : Int)) ((a0.length : Nat) : Int) (0 : Int) ([] : (List T_api_Peer)) = repN (a0.length : Int) from rfl, sameReply_refl _ (by simp [repN])]
      simp only [bind_s, cond_true, awake38]
    | wait o =>
      simp only [turnN, cond_false]
      rw [show T_api_Reply.mk (0 : Int) (T_api_End.mk (T_api_Addr.mk false (0 : Int) (0 : Int)) (0 : Int)) (0 : Int) (0 : Int) ([] : (List T_api_Peer)) = repZ from rfl, sameReply_refl _ (by simp [repZ])]
      simp only [bind_s, cond_true, awake38]
    | broken =>
      simp only [turnN, cond_false]
      rw [show T_api_Reply.mk (0 : Int) (T_api_End.mk (T_api_Addr.mk false (0 : Int) (0 : Int)) (0 : Int)) (0 : Int) (0 : Int) ([] : (List T_api_Peer)) = repZ from rfl, sameReply_refl _ (by simp [repZ])]
      simp only [bind_s, cond_true, awake38]

theorem drill_more : ∀ (l : List T_api_Op) (a b : List T_api_Value), (drillN l a = .done → drillN l (a ++ b) = .done) ∧ (drillN l a = .broken → drillN l (a ++ b) = .broken)
  | [], a, b => ⟨fun _ => rfl, fun h => by cases h⟩
  | o :: l, a, b => by
    unfold drillN
    by_cases h : badKind o
    · simp only [if_pos h]; exact ⟨id, id⟩
    · simp only [if_neg h]
      cases a with
      | nil => exact ⟨fun h => (by cases h), fun h => (by cases h)⟩
      | cons v a => exact drill_more l a b

theorem TapeAhead_plain (a0 : List T_api_Op) (a1 a2 : List T_api_Value) (h0 : okL T_api_Op.ok a0) (h1 : okL T_api_Value.ok a1) (h2 : okL T_api_Value.ok a2) : g_doormanlaw38_TapeAhead a0 a1 a2 = some true := by
  obtain ⟨b, hb, hl⟩ := light38 a0 a1
  unfold g_doormanlaw38_TapeAhead
  rw [hb]
  simp only [bind_s]
  cases b with
  | false => simp only [Bool.not_false, cond_true, awake38, bind_s]
  | true =>
    obtain ⟨l1, l2, l3⟩ := hl rfl
    simp only [Bool.not_true, cond_false, cond_decide']
    split
    · simp only [awake38, bind_s]
    rename_i hlen
    obtain ⟨d1, -, d3⟩ := Drill_spec a0 a1 (by omega)
    obtain ⟨d4, -, -⟩ := Drill_spec a0 (a1 ++ a2) (by omega)
    have hv := turn_okV (n := (a0.length : Int)) l3 d3
    rw [d1, bind_s, need_yes (by simp only [List.nil_append, maxLen]; omega), need_yes (by simp only [List.nil_append, List.length_append, maxLen]; omega), need_yes (by simp only [List.nil_append, List.length_append]; omega)]
    simp only [List.nil_append, Int.toNat_natCast, List.take_left, d1, d4, bind_s, sameOp_refl _ hv, Bool.not_true, cond_false, beq_self_eq_true]
    obtain ⟨m1, m2⟩ := drill_more a0 a1 a2
    cases hd : drillN a0 a1 with
    | done =>
      rw [m1 hd]
      simp [turnN, awake38]
    | wait o => simp [turnN, awake38]
    | broken =>
      rw [m2 hd]
      simp [turnN, awake38]

/-! ### Codes -/
theorem shows_wait {q : T_api_Op} (h : okV q.fVal) : g_doormansame_Op q q = some true ∧ g_doormansame_Reply repZ repZ = some true := ⟨sameOp_refl q h, sameReply_refl _ (by simp [repZ])⟩

/-- An operation at which a code waits is one of those that have what they have alone: its lists are short, where no list is stored. -/
def noL (q : T_api_Op) : Prop := okV q.fVal

theorem TapeParts_plain (a0 : List T_api_Value) (h0 : okL T_api_Value.ok a0) : g_doormanlaw38_TapeParts a0 = some true := by
  obtain ⟨b, hb, hl⟩ := light38 [] a0
  unfold g_doormanlaw38_TapeParts
  rw [hb]
  simp only [bind_s]
  cases b with
  | false => simp only [Bool.not_false, cond_true, awake38, bind_s]
  | true =>
    obtain ⟨l1, l2, l3⟩ := hl rfl
    simp only [Bool.not_true, cond_false, cond_decide']
    have hw0 : (T_doormanref38_Walk.mk a0 (0 : Int) (T_api_Op.mk (0 : Int) (0 : Int) (T_api_Loc.mk (0 : Int) (0 : Int) (0 : Int)) (0 : Int) (0 : Int) (T_api_Value.mk (0 : Int) (T_api_Peer.mk (T_api_End.mk (T_api_Addr.mk false (0 : Int) (0 : Int)) (0 : Int)) false (0 : Int) (T_api_Score.mk (0 : Int) (0 : Int)) (0 : Int) (0 : Int)) ([] : (List T_api_Ban)) ([] : (List T_api_Entry))) false) false) = wk a0 0 := rfl
    rw [hw0]
    unfold g_tape_Play_26 g_doormanlaw38_parts
    have hend : ∀ (v5 : List T_api_Peer) (t : Tout T_api_Reply) (w : T_doormanref38_Walk), v5.length ≤ 1000000 → ((∃ a, playT t = ⟨opZ, ⟨0, endZ, (v5.length : Int), 0, v5⟩, true, false⟩ ∧ w = wk a0 a) ∨ ∃ q, okV q.fVal ∧ playT t = ⟨q, repZ, false, false⟩ ∧ w = wt a0 q) → g_doormanlaw38_TapeParts_c0 v5 (playT t) w = some true := by
      rintro v5 t w hv (⟨a, h1, rfl⟩ | ⟨q, hq, h1, rfl⟩)
      · unfold g_doormanlaw38_TapeParts_c0
        rw [h1]
        simp only [wk_wait, cond_false, cond_true, Bool.not_false]
        have e1 : g_doormansame_Op opZ (T_api_Op.mk (0 : Int) (0 : Int) (T_api_Loc.mk (0 : Int) (0 : Int) (0 : Int)) (0 : Int) (0 : Int) (T_api_Value.mk (0 : Int) (T_api_Peer.mk (T_api_End.mk (T_api_Addr.mk false (0 : Int) (0 : Int)) (0 : Int)) false (0 : Int) (T_api_Score.mk (0 : Int) (0 : Int)) (0 : Int) (0 : Int)) ([] : (List T_api_Ban)) ([] : (List T_api_Entry))) false) = some true := sameOp_refl opZ okV_Z
        rw [e1]
        simp only [bind_s, cond_true]
        have e2 : g_doormansame_Reply ⟨0, endZ, (v5.length : Int), 0, v5⟩ (T_api_Reply.mk (0 : Int) (T_api_End.mk (T_api_Addr.mk false (0 : Int) (0 : Int)) (0 : Int)) ((v5.length : Nat) : Int) (0 : Int) v5) = some true := sameReply_refl _ hv
        rw [e2]
        simp only [bind_s, cond_true, awake38]
      · unfold g_doormanlaw38_TapeParts_c0
        rw [h1]
        simp only [wt_wait, cond_false, cond_true, Bool.not_false]
        have e1 : g_doormansame_Op q (wt a0 q).fOp = some true := sameOp_refl q hq
        rw [e1]
        simp only [bind_s, cond_true]
        have e2 : g_doormansame_Reply repZ (T_api_Reply.mk (0 : Int) (T_api_End.mk (T_api_Addr.mk false (0 : Int) (0 : Int)) (0 : Int)) (0 : Int) (0 : Int) ([] : (List T_api_Peer))) = some true := sameReply_refl repZ (by simp [repZ])
        rw [e2]
        simp only [bind_s, cond_true, awake38]
    have hlast : ∀ (v : List T_api_Peer) (g : T_tape_tape), playT (.ret (T_api_Reply.mk (0 : Int) (T_api_End.mk (T_api_Addr.mk false (0 : Int) (0 : Int)) (0 : Int)) ((v.length : Nat) : Int) (0 : Int) v) g) = ⟨opZ, ⟨0, endZ, (v.length : Int), 0, v⟩, true, false⟩ := fun _ _ => rfl
    rcases Read_at (got := a0) (a := 0) (by omega) (by omega) 1 with ⟨v, b, a, h1, h2, h3, h4, rfl, h5⟩ | ⟨q, b, h1, h2, hq, hW⟩
    · simp only [List.drop_zero] at h1
      simp only [h1, h2, bind_s, cond_decide']
      by_cases h : ((v.length : Nat) : Int) > 0
      · have hn : 0 ≤ (1 : Int) ∧ (1 : Int) ≤ ((v.length : Nat) : Int) := by omega
        simp only [if_pos h, need_yes hn]
        rcases Write_at (got := a0) (by omega) h4 1 v (v.drop (1 : Int).toNat) (by simp only [List.length_drop]; omega) with ⟨v2, b2, a2, q1, q2, q3, q4, -⟩ | ⟨q, b2, q1, q2, hq, -⟩
        · have q2 := map_unit q2
          simp only [q1, q2, bind_s, Option.map_some]
          exact hend v _ _ (by omega) (.inl ⟨a2, hlast v _, rfl⟩)
        · have q2 := map_unit q2
          simp only [q1, q2, bind_s, Option.map_some]
          exact hend v (.pan q) _ (by omega) (.inr ⟨q, hq, rfl, rfl⟩)
      · simp only [if_neg h, bind_s, Option.map_some]
        exact hend v _ _ (by omega) (.inl ⟨a, hlast v _, rfl⟩)
    · simp only [List.drop_zero] at h1
      simp only [h1, h2, bind_s, Option.map_some]
      by_cases h : ((b.length : Nat) : Int) > 0
      · rw [if_pos h, need_yes (by omega), Write_wait a0 q 1 b _ (by simp only [List.length_drop]; omega)]
        simp only [bind_s]
        exact hend b (.pan q) _ (by omega) (.inr ⟨q, hq, rfl, rfl⟩)
      · rw [if_neg h]
        exact hend b (.pan q) _ (by omega) (.inr ⟨q, hq, rfl, rfl⟩)

theorem TapeCounts_plain (a0 : List T_api_Value) (h0 : okL T_api_Value.ok a0) : g_doormanlaw38_TapeCounts a0 = some true := by
  obtain ⟨b, hb, hl⟩ := light38 [] a0
  unfold g_doormanlaw38_TapeCounts
  rw [hb]
  simp only [bind_s]
  cases b with
  | false => simp only [Bool.not_false, cond_true, awake38, bind_s]
  | true =>
    obtain ⟨l1, l2, l3⟩ := hl rfl
    simp only [Bool.not_true, cond_false]
    have hw0 : (T_doormanref38_Walk.mk a0 (0 : Int) (T_api_Op.mk (0 : Int) (0 : Int) (T_api_Loc.mk (0 : Int) (0 : Int) (0 : Int)) (0 : Int) (0 : Int) (T_api_Value.mk (0 : Int) (T_api_Peer.mk (T_api_End.mk (T_api_Addr.mk false (0 : Int) (0 : Int)) (0 : Int)) false (0 : Int) (T_api_Score.mk (0 : Int) (0 : Int)) (0 : Int) (0 : Int)) ([] : (List T_api_Ban)) ([] : (List T_api_Entry))) false) false) = wk a0 0 := rfl
    rw [hw0]
    unfold g_tape_Play_29 g_doormanlaw38_counts
    have hend : ∀ (n : Int) (t : Tout T_api_Reply) (w : T_doormanref38_Walk), ((∃ a, playT t = ⟨opZ, repN n, true, false⟩ ∧ w = wk a0 a) ∨ ∃ q, okV q.fVal ∧ playT t = ⟨q, repZ, false, false⟩ ∧ w = wt a0 q) → g_doormanlaw38_TapeCounts_c0 n (playT t) w = some true := by
      rintro n t w (⟨a, h1, rfl⟩ | ⟨q, hq, h1, rfl⟩)
      · unfold g_doormanlaw38_TapeCounts_c0
        rw [h1]
        simp only [wk_wait, cond_false, cond_true, Bool.not_false]
        have e1 : g_doormansame_Op opZ (T_api_Op.mk (0 : Int) (0 : Int) (T_api_Loc.mk (0 : Int) (0 : Int) (0 : Int)) (0 : Int) (0 : Int) (T_api_Value.mk (0 : Int) (T_api_Peer.mk (T_api_End.mk (T_api_Addr.mk false (0 : Int) (0 : Int)) (0 : Int)) false (0 : Int) (T_api_Score.mk (0 : Int) (0 : Int)) (0 : Int) (0 : Int)) ([] : (List T_api_Ban)) ([] : (List T_api_Entry))) false) = some true := sameOp_refl opZ okV_Z
        rw [e1]
        simp only [bind_s, cond_true]
        have e2 : g_doormansame_Reply (repN n) (T_api_Reply.mk (0 : Int) (T_api_End.mk (T_api_Addr.mk false (0 : Int) (0 : Int)) (0 : Int)) n (0 : Int) ([] : (List T_api_Peer))) = some true := sameReply_refl _ (Nat.zero_le _)
        rw [e2]
        simp only [bind_s, cond_true, awake38]
      · unfold g_doormanlaw38_TapeCounts_c0
        rw [h1]
        simp only [wt_wait, cond_false, cond_true, Bool.not_false]
        have e1 : g_doormansame_Op q (wt a0 q).fOp = some true := sameOp_refl q hq
        rw [e1]
        simp only [bind_s, cond_true, awake38]
    have hwait : ∀ (n : Int) (q : T_api_Op), okV q.fVal → g_doormanlaw38_TapeCounts_c0 n (playT (.pan q)) (wt a0 q) = some true := fun n q hq => hend n (.pan q) _ (.inr ⟨q, hq, rfl, rfl⟩)
    rcases LockAll_at (got := a0) (a := 0) (by omega) (by omega) 3 with ⟨v, b, a, h1, h2, h3, h4, -⟩ | ⟨q, b, h1, h2, hq, hW⟩
    · have h2 := map_unit h2
      simp only [List.drop_zero] at h1
      simp only [h1, h2, bind_s]
      rcases Reserve_at (got := a0) (by omega) h4 2 true with ⟨v, b, a, h1, h2, h3, h4, rfl⟩ | ⟨q, b, h1, h2, hq, hW⟩
      · simp only [h1, h2, bind_s]
        have key : ∀ n : Int, (Option.map playT (Option.bind (g_tape_Move ⟨List.drop a a0⟩ 2 (-1) false) fun x3 => match x3 with
            | .ret x3v x3g => (g_tape_FreeAll x3g 3 true).bind fun x4 => match x4 with
              | .ret x4v x4g => some (Tout.ret (T_api_Reply.mk (0 : Int) (T_api_End.mk (T_api_Addr.mk false (0 : Int) (0 : Int)) (0 : Int)) n (0 : Int) ([] : (List T_api_Peer))) x4g)
              | .pan x4o => some (Tout.pan x4o)
              | .bad x4s => some (Tout.bad x4s)
            | .pan x3o => some (Tout.pan x3o)
            | .bad x3s => some (Tout.bad x3s))).bind (fun x3 => (g_doormanref38_Move (wk a0 a) 2 (-1) false).bind fun x6 => (g_doormanref38_FreeAll x6 3 true).bind fun x7 => g_doormanlaw38_TapeCounts_c0 n x3 x7) = some true := by
          intro n
          rcases Move_at (got := a0) (by omega) h4 2 (-1) false with ⟨v, b, a, h1, h2, h3, h4, -⟩ | ⟨q, b, h1, h2, hq, hW⟩
          · have h2 := map_unit h2
            simp only [h1, h2, bind_s]
            rcases FreeAll_at (got := a0) (by omega) h4 3 true with ⟨v, b, a, h1, h2, h3, h4, -⟩ | ⟨q, b, h1, h2, hq, hW⟩
            · have h2 := map_unit h2
              simp only [h1, h2, bind_s, Option.map_some]
              exact hend n _ _ (.inl ⟨a, rfl, rfl⟩)
            · have h2 := map_unit h2
              simp only [h1, h2, bind_s, Option.map_some]
              exact hwait n q hq
          · have h2 := map_unit h2
            simp only [h1, h2, bind_s, Option.map_some, FreeAll_wait a0 (by omega)]
            exact hwait n q hq
        cases v with
        | true => exact key 1
        | false => exact key 0
      · simp only [h1, h2, bind_s, Option.map_some, Move_wait, FreeAll_wait a0 (by omega)]
        cases b with
        | true => exact hwait 1 q hq
        | false => exact hwait 0 q hq
    · have h2 := map_unit h2
      simp only [List.drop_zero] at h1
      simp only [h1, h2, bind_s, Option.map_some, Reserve_wait, Move_wait, FreeAll_wait a0 (show a0.length ≤ 1000000 by omega), cond_false]
      exact hwait 0 q hq

end Go.Proofs.Ytnbkjjoodmmneaa
