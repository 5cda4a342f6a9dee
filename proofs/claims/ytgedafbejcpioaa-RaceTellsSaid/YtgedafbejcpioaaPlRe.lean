/-
  PLAIN LAWS: which step leads to which; which touch one place; what happened ahead of what.
-/
import Derived.Test.YtgedafbejcpioaaPlA
import Derived.Test.YtgedafbejcpioaaRacA
namespace Go.Proofs.Ytgedafbejcpioaa
set_option linter.unusedSimpArgs false
set_option linter.unusedVariables false
set_option linter.unusedSectionVars false

theorem cond_beq' {α : Type} (x y : Int) (a b : α) : (bif (x == y) then a else b) = if x = y then a else b := by
  by_cases h : x = y
  · rw [beq_iff_eq.2 h, if_pos h]; rfl
  · rw [beq_eq_false_iff_ne.2 h, if_neg h]; rfl
theorem cond_bne' {α : Type} (x y : Int) (a b : α) : (bif (x != y) then a else b) = if x = y then b else a := by
  by_cases h : x = y
  · rw [if_pos h, show (x != y) = false by rw [bne_eq_false_iff_eq]; exact h]; rfl
  · rw [if_neg h, show (x != y) = true by rw [bne_iff_ne]; exact h]; rfl
theorem ite_to {α : Type} {c : Prop} [Decidable c] {a b x : α} (h1 : c → a = x) (h2 : ¬ c → b = x) : (if c then a else b) = x := by
  by_cases h : c
  · rw [if_pos h]; exact h1 h
  · rw [if_neg h]; exact h2 h
theorem some_yes {p : Prop} [Decidable p] (h : p) : (some true : Option Bool) = some (decide p) := by rw [decide_eq_true h]
theorem some_no {p : Prop} [Decidable p] (h : ¬ p) : (some false : Option Bool) = some (decide p) := by rw [decide_eq_false h]
theorem some_eq {p : Prop} [Decidable p] {x y : Int} (h : x = y ↔ p) : (some (x == y) : Option Bool) = some (decide p) := by
  congr 1
  rw [Bool.eq_iff_iff, beq_iff_eq, decide_eq_true_iff]
  exact h

/-! ### Leads -/
abbrev Lf (a b : T_api_Step) : Prop := a.fWho = b.fWho ∨ (a.fOp.fKind = 3 ∧ a.fOp.fLock = b.fOp.fLock ∧ (b.fOp.fKind = 1 ∨ b.fOp.fKind = 2)) ∨ (a.fOp.fKind = 4 ∧ a.fOp.fLock = b.fOp.fLock ∧ b.fOp.fKind = 1) ∨
  (a.fOp.fKind = 7 ∧ a.fGot.fN = 1 ∧ (a.fOp.fLoc.fKind = 1 ∨ a.fOp.fLoc.fKind = 2) ∧ a.fOp.fLoc.fKind = b.fOp.fLoc.fKind ∧ (b.fOp.fKind = 5 ∨ b.fOp.fKind = 7))
def ldB (a b : T_api_Step) : Bool := decide (Lf a b)

theorem counter_eq (l : T_api_Loc) : g_clock_counter l = some (decide (l.fKind = 1 ∨ l.fKind = 2)) := by
  simp only [g_clock_counter, cond_beq']
  split
  · exact some_yes (by omega)
  · exact some_eq (by omega)

theorem leads_prog (a b : T_api_Step) : g_clock_Leads a b = some (ldB a b) := by
  simp only [g_clock_Leads, counter_eq, Option.bind_some, cond_beq', cond_decide', ldB, Lf]
  repeat' refine ite_to (fun _ => ?_) (fun _ => ?_)
  all_goals first
    | exact some_yes (by omega)
    | exact some_no (by omega)
    | exact some_eq (by omega)

theorem leads_ref (a b : T_api_Step) : g_doormanref46_Leads a b = some (ldB a b) := by
  simp only [g_doormanref46_Leads, cond_beq', cond_bne', cond_decide', ldB, Lf]
  repeat' refine ite_to (fun _ => ?_) (fun _ => ?_)
  all_goals first
    | exact some_yes (by omega)
    | exact some_no (by omega)
    | exact some_eq (by omega)

/-! ### Touch -/
abbrev Tf (a b : T_api_Step) : Prop := (a.fOp.fKind = 5 ∨ a.fOp.fKind = 6) ∧ (b.fOp.fKind = 5 ∨ b.fOp.fKind = 6) ∧ (a.fOp.fKind = 6 ∨ b.fOp.fKind = 6) ∧ a.fOp.fLoc.fKind = b.fOp.fLoc.fKind ∧ 3 ≤ a.fOp.fLoc.fKind ∧ a.fOp.fLoc.fKind ≤ 6 ∧
  (a.fOp.fLoc.fKind < 5 ∨ a.fOp.fLoc.fShard = b.fOp.fLoc.fShard) ∧ (a.fOp.fLoc.fKind < 6 ∨ a.fOp.fLoc.fSlot = b.fOp.fLoc.fSlot)
def tcB (a b : T_api_Step) : Bool := decide (Tf a b)

theorem touch_ref (a b : T_api_Step) : g_doormanref47_Touch a b = some (tcB a b) := by
  simp only [g_doormanref47_Touch, cond_beq', cond_bne', cond_decide', tcB, Tf]
  repeat' refine ite_to (fun _ => ?_) (fun _ => ?_)
  all_goals first
    | exact some_yes (by omega)
    | exact some_no (by omega)
    | exact some_eq (by omega)

def stPl (a : T_api_Step) : T_api_Loc × Bool :=
  if (a.fOp.fKind = 5 ∨ a.fOp.fKind = 6) ∧ 3 ≤ a.fOp.fLoc.fKind ∧ a.fOp.fLoc.fKind ≤ 6 then (⟨a.fOp.fLoc.fKind, if a.fOp.fLoc.fKind < 5 then 0 else a.fOp.fLoc.fShard, if a.fOp.fLoc.fKind < 6 then 0 else a.fOp.fLoc.fSlot⟩, true) else (⟨0, 0, 0⟩, false)

theorem place_c0 (a : T_api_Step) (h : a.fOp.fKind = 5 ∨ a.fOp.fKind = 6) (b : Bool) (hb : b = true ↔ a.fOp.fLoc.fKind = 3 ∨ a.fOp.fLoc.fKind = 4) (z : T_api_Loc) : g_race_place_c0 a.fOp.fLoc.fKind b z a.fOp.fLoc = some (stPl a) := by
  simp only [g_race_place_c0, stPl, cond_beq']
  cases b with
  | true =>
    have := hb.1 rfl
    rw [if_pos (show _ ∧ _ from ⟨h, by omega⟩), if_pos (show a.fOp.fLoc.fKind < 5 by omega), if_pos (show a.fOp.fLoc.fKind < 6 by omega)]
    rfl
  | false =>
    have : ¬ (a.fOp.fLoc.fKind = 3 ∨ a.fOp.fLoc.fKind = 4) := fun h => by have := hb.2 h; cases this
    by_cases h5 : a.fOp.fLoc.fKind = 5
    · rw [if_pos (show _ ∧ _ from ⟨h, by omega⟩), if_neg (show ¬ a.fOp.fLoc.fKind < 5 by omega), if_pos (show a.fOp.fLoc.fKind < 6 by omega), if_pos h5]
      rfl
    · by_cases h6 : a.fOp.fLoc.fKind = 6
      · rw [if_pos (show _ ∧ _ from ⟨h, by omega⟩), if_neg (show ¬ a.fOp.fLoc.fKind < 5 by omega), if_neg (show ¬ a.fOp.fLoc.fKind < 6 by omega), if_neg h5, if_pos h6]
        rfl
      · rw [if_neg (show ¬ (_ ∧ _) from fun h => by omega), if_neg h5, if_neg h6]
        rfl

theorem place_eq (a : T_api_Step) : g_race_place a = some (stPl a) := by
  simp only [g_race_place, cond_bne', cond_beq']
  by_cases h5 : a.fOp.fKind = 5
  · rw [if_pos h5]
    split
    · exact place_c0 a (.inl h5) _ (by rw [beq_iff_eq]; omega) _
    · exact place_c0 a (.inl h5) _ (by rw [beq_iff_eq]; omega) _
  · rw [if_neg h5]
    by_cases h6 : a.fOp.fKind = 6
    · rw [if_pos h6]
      split
      · exact place_c0 a (.inr h6) _ (by rw [beq_iff_eq]; omega) _
      · exact place_c0 a (.inr h6) _ (by rw [beq_iff_eq]; omega) _
    · rw [if_neg h6]
      unfold stPl
      rw [if_neg (by omega)]

theorem touch_prog (a b : T_api_Step) : g_race_Touch a b = some (tcB a b) := by
  simp only [g_race_Touch, place_eq, Option.bind_some, tcB, Tf]
  unfold stPl
  by_cases ha : (a.fOp.fKind = 5 ∨ a.fOp.fKind = 6) ∧ 3 ≤ a.fOp.fLoc.fKind ∧ a.fOp.fLoc.fKind ≤ 6
  · rw [if_pos ha]
    by_cases hb : (b.fOp.fKind = 5 ∨ b.fOp.fKind = 6) ∧ 3 ≤ b.fOp.fLoc.fKind ∧ b.fOp.fLoc.fKind ≤ 6
    · rw [if_pos hb]
      simp only [cond_true, cond_decide', cond_beq', T_api_Loc.mk.injEq]
      by_cases he : a.fOp.fLoc.fKind = b.fOp.fLoc.fKind ∧ ((if a.fOp.fLoc.fKind < 5 then 0 else a.fOp.fLoc.fShard) = if b.fOp.fLoc.fKind < 5 then 0 else b.fOp.fLoc.fShard) ∧ (if a.fOp.fLoc.fKind < 6 then 0 else a.fOp.fLoc.fSlot) = if b.fOp.fLoc.fKind < 6 then 0 else b.fOp.fLoc.fSlot
      · rw [if_pos he]
        obtain ⟨e1, e2, e3⟩ := he
        split
        · exact some_yes (by split at e2 <;> split at e3 <;> split at e2 <;> split at e3 <;> omega)
        · exact some_eq (by split at e2 <;> split at e3 <;> split at e2 <;> split at e3 <;> omega)
      · rw [if_neg he]
        refine some_no fun h => he ?_
        obtain ⟨h1, h2, h3, h4, h5, h6, h7, h8⟩ := h
        refine ⟨h4, ?_, ?_⟩
        · rw [← h4]; split
          · rfl
          · omega
        · rw [← h4]; split
          · rfl
          · omega
    · rw [if_neg hb]
      exact some_no (by omega)
  · rw [if_neg ha]
    exact some_no (by omega)

/-! ### Ahead -/
/-- Does x lead to k, through steps between? -/
inductive Hb (l : List T_api_Step) : Nat → Nat → Prop where
  | refl (k : Nat) : Hb l k k
  | step {x m k : Nat} : Hb l x m → m < k → ldB (l.getD m T_api_Step.d) (l.getD k T_api_Step.d) = true → Hb l x k

theorem Hb.le {l : List T_api_Step} {x k : Nat} (h : Hb l x k) : x ≤ k := by
  induction h with
  | refl => exact Nat.le_refl _
  | step _ h _ ih => omega
theorem Hb.trans {l : List T_api_Step} {x i k : Nat} (h : Hb l x i) (h2 : Hb l i k) : Hb l x k := by
  induction h2 with
  | refl => exact h
  | step _ h1 h2 ih => exact .step ih h1 h2
theorem Hb.last {l : List T_api_Step} {x k : Nat} : Hb l x k ↔ x = k ∨ ∃ j, j < k ∧ ldB (l.getD j T_api_Step.d) (l.getD k T_api_Step.d) = true ∧ Hb l x j := by
  constructor
  · intro h
    cases h with
    | refl => exact .inl rfl
    | step h1 h2 h3 => exact .inr ⟨_, h2, h3, h1⟩
  · rintro (rfl | ⟨j, h1, h2, h3⟩)
    · exact .refl _
    · exact .step h3 h1 h2
theorem Hb.who {l : List T_api_Step} {x k : Nat} (h : x ≤ k) (e : (l.getD x T_api_Step.d).fWho = (l.getD k T_api_Step.d).fWho) : Hb l x k := by
  rcases Nat.lt_or_ge x k with h1 | h1
  · exact .step (.refl x) h1 (by unfold ldB; rw [decide_eq_true_iff]; exact .inl e)
  · obtain rfl : x = k := by omega
    exact .refl _
theorem Hb.take {l : List T_api_Step} {n x k : Nat} (hk : k < n) : Hb (l.take n) x k ↔ Hb l x k := by
  have hg : ∀ j, j < n → (l.take n).getD j T_api_Step.d = l.getD j T_api_Step.d := fun j hj => by
    simp only [List.getD_eq_getElem?_getD]
    rw [List.getElem?_take_of_lt hj]
  constructor
  · intro h
    induction h with
    | refl => exact .refl _
    | step h1 h2 h3 ih => rw [hg _ (by omega), hg _ hk] at h3; exact .step (ih (by omega)) h2 h3
  · intro h
    induction h with
    | refl => exact .refl _
    | step h1 h2 h3 ih => rw [← hg _ (by omega), ← hg _ hk] at h3; exact .step (ih (by omega)) h2 h3

/-! ### The document's From -/
/-- The bools tell, up to the k-th, whether i is ahead. -/
def FromOk (l : List T_api_Step) (i k : Nat) (w : List Bool) : Prop := w.length = l.length ∧ (∀ x, x < k → (w.getD x false = true ↔ Hb l i x)) ∧ ∀ x, k ≤ x → w.getD x false = false

theorem getD_set_self {α : Type} (w : List α) (k : Nat) (b d : α) (h : k < w.length) : (w.set k b).getD k d = b := by
  simp only [List.getD_eq_getElem?_getD]
  rw [List.getElem?_set_self h]
  rfl
theorem getD_set_ne {α : Type} (w : List α) (k x : Nat) (b d : α) (h : x ≠ k) : (w.set k b).getD x d = w.getD x d := by
  simp only [List.getD_eq_getElem?_getD]
  rw [List.getElem?_set_ne (Ne.symm h)]

theorem from_c1 (l : List T_api_Step) (hl : l.length ≤ 1000) (a1 : Int) (i k : Nat) (hik : i < k) (hk : k < l.length) (K : Int → List Bool → Option (List Bool)) : ∀ (fu m : Nat) (w : List Bool), k - m < fu → m ≤ k → i ≤ m → w.length = l.length → (∀ x, x < k → (w.getD x false = true ↔ Hb l i x)) → (∀ x, k < x → w.getD x false = false) →
    (w.getD k false = true ↔ ∃ j, j < m ∧ ldB (l.getD j T_api_Step.d) (l.getD k T_api_Step.d) = true ∧ Hb l i j) → ∃ w', g_doormanref46_From_c1 l a1 (k : Int) K fu (m : Int) w = K (add64 (k : Int) 1) w' ∧ FromOk l i (k + 1) w' := by
  intro fu
  induction fu with
  | zero => intro m w h; omega
  | succ fu ih0 =>
    intro m w hf hm him hw h1 h2 h3
    have done : (w.getD k false = true ↔ Hb l i k) → FromOk l i (k + 1) w := fun h => by
      refine ⟨hw, fun x hx => ?_, fun x hx => h2 x (by omega)⟩
      by_cases e : x = k
      · rw [e]; exact h
      · exact h1 x (by omega)
    simp only [g_doormanref46_From_c1]
    by_cases hmk : m < k
    · rw [cond_decide', if_pos (by omega), need_yes (by omega)]
      simp only [Int.toNat_natCast]
      cases hwk : w.getD k false with
      | true =>
        simp only [Bool.not_true, cond_false]
        refine ⟨w, rfl, done ?_⟩
        rw [hwk, Hb.last]
        obtain ⟨j, q1, q2, q3⟩ := h3.1 hwk
        exact ⟨fun _ => .inr ⟨j, by omega, q2, q3⟩, fun _ => rfl⟩
      | false =>
        simp only [Bool.not_false, cond_true]
        rw [need_yes (by omega), add1 (n := k) hmk (by unfold maxLen; omega)]
        have no : ∀ j, j < m → ldB (l.getD j T_api_Step.d) (l.getD k T_api_Step.d) = true → ¬ Hb l i j := fun j q1 q2 q3 => by
          have := h3.2 ⟨j, q1, q2, q3⟩
          rw [hwk] at this; cases this
        have q1 : k - (m + 1) < fu := by clear h1 h2 h3 ih0 done no; omega
        have q2 : m + 1 ≤ k := by clear h1 h2 h3 ih0 done no; omega
        have q3 : i ≤ m + 1 := by clear h1 h2 h3 ih0 done no; omega
        have q4 : ∀ x, x < k → x ≠ k := fun x hx => by omega
        have q5 : ∀ x, k < x → x ≠ k := fun x hx => by omega
        have q6 : k < w.length := by clear h1 h2 h3 ih0 done no; omega
        have ih := fun b (hb : b = true ↔ ∃ j, j < m + 1 ∧ ldB (l.getD j T_api_Step.d) (l.getD k T_api_Step.d) = true ∧ Hb l i j) => ih0 (m + 1) (w.set k b) q1 q2 q3 (by rw [List.length_set]; exact hw)
          (fun x hx => by rw [getD_set_ne _ _ _ _ _ (q4 x hx)]; exact h1 x hx) (fun x hx => by rw [getD_set_ne _ _ _ _ _ (q5 x hx)]; exact h2 x hx) (by rw [getD_set_self _ _ _ _ q6]; exact hb)
        cases hwm : w.getD m false with
        | true =>
          simp only [cond_true]
          rw [need_yes (by omega), need_yes (by omega), leads_ref, Option.bind_some]
          refine ih _ ⟨fun h => ⟨m, by omega, h, (h1 m hmk).1 hwm⟩, fun ⟨j, q1, q2, q3⟩ => ?_⟩
          by_cases e : j = m
          · rw [← e]; exact q2
          · exact absurd q3 (no j (by omega) q2)
        | false =>
          simp only [cond_false]
          refine ih _ ⟨fun h => (by cases h), fun ⟨j, q1, q2, q3⟩ => ?_⟩
          by_cases e : j = m
          · rw [e] at q3
            have := (h1 m hmk).2 q3
            rw [hwm] at this; cases this
          · exact absurd q3 (no j (by omega) q2)
    · obtain rfl : m = k := by omega
      rw [cond_decide', if_neg (by omega)]
      refine ⟨w, rfl, done ?_⟩
      rw [h3, Hb.last]
      exact ⟨.inr, fun h => h.resolve_left (by omega)⟩

theorem from_c0 (l : List T_api_Step) (hl : l.length ≤ 1000) (a1 i : Nat) (hia : a1 = i) : ∀ (n fu k : Nat) (w : List Bool), l.length - k = n → n < fu → i < k → k ≤ l.length → FromOk l i k w → ∃ w', g_doormanref46_From_c0 l (a1 : Int) fu (k : Int) w = some w' ∧ FromOk l i l.length w'
  | n, 0, k, w, _, h, _, _, _ => by omega
  | n, fu + 1, k, w, hn, hf, hik, hk, hw => by
    simp only [g_doormanref46_From_c0]
    by_cases h : k < l.length
    · rw [cond_decide', if_pos (by omega)]
      obtain ⟨w', h1, h2⟩ := from_c1 l hl (a1 : Int) i k hik h (g_doormanref46_From_c0 l (a1 : Int) fu) (((k : Int) - (a1 : Int)).toNat + 2) a1 w (by omega) (by omega) (by omega) hw.1 hw.2.1 (fun x hx => hw.2.2 x (by omega)) (by
        rw [hw.2.2 k (Nat.le_refl _)]
        refine ⟨fun h => (by cases h), fun ⟨j, q1, _, q3⟩ => ?_⟩
        have := q3.le
        omega)
      rw [h1, add1 h (by unfold maxLen; omega)]
      exact from_c0 l hl a1 i hia (n - 1) fu (k + 1) w' (by omega) (by omega) (by omega) (by omega) h2
    · obtain rfl : k = l.length := by omega
      rw [cond_decide', if_neg (by omega)]
      exact ⟨w, rfl, hw⟩

theorem from_ref (l : List T_api_Step) (hl : l.length ≤ 1000) (i : Nat) (hi : i < l.length) : ∃ w, g_doormanref46_From l (i : Int) = some w ∧ FromOk l i l.length w := by
  simp only [g_doormanref46_From]
  rw [need_yes (by omega), cond_decide', if_neg (by omega), cond_decide', if_neg (by omega), need_yes (by omega), add1 hi (by unfold maxLen; omega)]
  simp only [Int.toNat_natCast]
  refine from_c0 l hl i i rfl (l.length - (i + 1)) _ (i + 1) _ rfl (by omega) (by omega) (by omega) ⟨by simp, fun x hx => ?_, fun x hx => ?_⟩
  · by_cases e : x = i
    · rw [e, getD_set_self _ _ _ _ (by simp; omega)]
      exact ⟨fun _ => .refl _, fun _ => rfl⟩
    · rw [getD_set_ne _ _ _ _ _ e]
      refine ⟨fun h => ?_, fun h => ?_⟩
      · simp [List.getD_eq_getElem?_getD, List.getElem?_replicate] at h
        split at h <;> cases h
      · have := h.le; omega
  · rw [getD_set_ne _ _ _ _ _ (by omega)]
    simp [List.getD_eq_getElem?_getD, List.getElem?_replicate]
    split <;> rfl

theorem before_ref (l : List T_api_Step) (hl : l.length ≤ 1000) (i k : Nat) (hik : i < k) (hk : k < l.length) : ∃ b, g_doormanref46_Before l (i : Int) (k : Int) = some b ∧ (b = true ↔ Hb l i k) := by
  obtain ⟨w, h1, h2, h3, _⟩ := from_ref l hl i (by omega)
  simp only [g_doormanref46_Before]
  rw [cond_decide', if_pos (by omega), cond_decide', if_pos (by omega), cond_decide', if_pos (by omega), h1, Option.bind_some, need_yes (by omega)]
  exact ⟨_, rfl, h3 k hk⟩

end Go.Proofs.Ytgedafbejcpioaa
