/-
  PLAIN LAWS: the past of each step; clocks; the steps that race.
-/
import Derived.Test.YtgedafbejcpioaaPlRe
namespace Go.Proofs.Ytgedafbejcpioaa
set_option linter.unusedSimpArgs false
set_option linter.unusedVariables false
set_option linter.unusedSectionVars false

/-! ### merge -/
theorem merge_c0 (a b : List Bool) (hab : b.length ≤ a.length) (ha : a.length ≤ 1000) : ∀ (fu i : Nat) (w : List Bool), b.length - i < fu → i ≤ b.length → w.length = a.length → (∀ x, x < i → w.getD x false = (a.getD x false || b.getD x false)) → (∀ x, i ≤ x → w.getD x false = a.getD x false) →
    ∃ w', g_clock_merge_c0 fu b ((b.length : Nat) : Int) (i : Int) w = some w' ∧ w'.length = a.length ∧ ∀ x, w'.getD x false = (a.getD x false || b.getD x false) := by
  intro fu
  induction fu with
  | zero => intro i w h; omega
  | succ fu ih =>
    intro i w hf hi hw h1 h2
    simp only [g_clock_merge_c0]
    by_cases h : i < b.length
    · rw [cond_decide', if_pos (by omega), need_yes (by omega), need_yes (by omega), add1 h (by unfold maxLen; omega)]
      simp only [Int.toNat_natCast]
      have go : ∀ v, v = (a.getD i false || b.getD i false) → ∃ w', g_clock_merge_c0 fu b ((b.length : Nat) : Int) ((i + 1 : Nat) : Int) (w.set i v) = some w' ∧ w'.length = a.length ∧ ∀ x, w'.getD x false = (a.getD x false || b.getD x false) := fun v hv => by
        refine ih (i + 1) (w.set i v) (by omega) (by omega) (by rw [List.length_set]; exact hw) (fun x hx => ?_) (fun x hx => ?_)
        · by_cases e : x = i
          · rw [e, getD_set_self _ _ _ _ (by omega), hv]
          · rw [getD_set_ne _ _ _ _ _ e]; exact h1 x (by omega)
        · rw [getD_set_ne _ _ _ _ _ (by omega)]; exact h2 x (by omega)
      have h3 := h2 i (Nat.le_refl _)
      cases hwi : w.getD i false with
      | true => rw [hwi] at h3; exact go true (by rw [← h3]; rfl)
      | false => rw [hwi] at h3; exact go _ (by rw [← h3]; simp)
    · rw [cond_decide', if_neg (by omega)]
      refine ⟨w, rfl, hw, fun x => ?_⟩
      by_cases hx : x < i
      · exact h1 x hx
      · rw [h2 x (by omega), show b.getD x false = false by simp [List.getD_eq_getElem?_getD, List.getElem?_eq_none (show b.length ≤ x by omega)], Bool.or_false]

theorem merge_eq (a b : List Bool) (hab : b.length ≤ a.length) (ha : a.length ≤ 1000) : ∃ w', g_clock_merge a b = some w' ∧ w'.length = a.length ∧ ∀ x, w'.getD x false = (a.getD x false || b.getD x false) :=
  merge_c0 a b hab ha _ 0 a (by omega) (by omega) rfl (fun x hx => by omega) (fun x _ => rfl)

/-! ### past -/
def Row (l : List T_api_Step) (k : Nat) (r : List Bool) : Prop := r.length = l.length ∧ ∀ x, x < l.length → (r.getD x false = true ↔ Hb l x k)

theorem past_c1 (l : List T_api_Step) (hl : l.length ≤ 1000) (k : Nat) (hk : k < l.length) (v10 : Int) (w8 : List (List Bool)) (hw : w8.length = l.length) (hr : ∀ j, j < k → Row l j (w8.getD j [])) (K : Int → Int → List (List Bool) → Option (List (List Bool))) :
    ∀ (fu i : Nat) (r : List Bool), i < fu → i ≤ k → r.length = l.length → (∀ x, x < l.length → (r.getD x false = true ↔ x = k ∨ ∃ j, i ≤ j ∧ j < k ∧ ldB (l.getD j T_api_Step.d) (l.getD k T_api_Step.d) = true ∧ Hb l x j)) →
      ∃ r', g_clock_past_c1 l v10 (k : Int) w8 K fu ((i : Int) - 1) r = K v10 (add64 (k : Int) 1) (w8.set k r') ∧ Row l k r' := by
  intro fu
  induction fu with
  | zero => intro i r h; omega
  | succ fu ih =>
    intro i r hf hi hrl h1
    simp only [g_clock_past_c1]
    cases i with
    | zero =>
      rw [cond_decide', if_neg (by omega)]
      refine ⟨r, rfl, hrl, fun x hx => ?_⟩
      rw [h1 x hx, Hb.last]
      constructor
      · rintro (h | ⟨j, _, q⟩)
        · exact .inl h
        · exact .inr ⟨j, q⟩
      · rintro (h | ⟨j, q⟩)
        · exact .inl h
        · exact .inr ⟨j, Nat.zero_le _, q⟩
    | succ m =>
      have e1 : ((m + 1 : Nat) : Int) - 1 = (m : Int) := by omega
      have e2 : sub64 (m : Int) 1 = (m : Int) - 1 := sub64_id (by omega) (by omega)
      have q1 : m < fu := by omega
      have q2 : m ≤ k := by omega
      have hm : m < l.length := by omega
      rw [e1, cond_decide', if_pos (by omega), need_yes (by omega), need_yes (by omega), e2]
      simp only [Int.toNat_natCast]
      have same : (∀ x, x < l.length → ldB (l.getD m T_api_Step.d) (l.getD k T_api_Step.d) = true → Hb l x m → r.getD x false = true) → ∃ r', g_clock_past_c1 l v10 (k : Int) w8 K fu ((m : Int) - 1) r = K v10 (add64 (k : Int) 1) (w8.set k r') ∧ Row l k r' := fun hs => by
        refine ih m r q1 q2 hrl fun x hx => ?_
        constructor
        · intro h
          rcases (h1 x hx).1 h with h | ⟨j, p1, p2⟩
          · exact .inl h
          · exact .inr ⟨j, Nat.le_of_succ_le p1, p2⟩
        · rintro (h | ⟨j, p1, p2, p3, p4⟩)
          · exact (h1 x hx).2 (.inl h)
          · by_cases e : j = m
            · rw [e] at p3 p4; exact hs x hx p3 p4
            · exact (h1 x hx).2 (.inr ⟨j, Nat.lt_of_le_of_ne p1 (Ne.symm e), p2, p3, p4⟩)
      cases hrm : r.getD m false with
      | true =>
        simp only [Bool.not_true, cond_false]
        refine same fun x hx p1 p2 => (h1 x hx).2 ?_
        rcases (h1 m hm).1 hrm with h | ⟨j, p3, p4, p5, p6⟩
        · exact absurd h (Nat.ne_of_lt hi)
        · exact .inr ⟨j, p3, p4, p5, p2.trans p6⟩
      | false =>
        simp only [Bool.not_false, cond_true]
        rw [need_yes (by omega), need_yes (by omega), leads_prog, Option.bind_some]
        cases hld : ldB (l.getD m T_api_Step.d) (l.getD k T_api_Step.d) with
        | false =>
          simp only [cond_false]
          exact same fun x hx p1 => by rw [hld] at p1; cases p1
        | true =>
          simp only [cond_true]
          obtain ⟨g1, g2⟩ := hr m (by omega)
          obtain ⟨r', f1, f2, f3⟩ := merge_eq r (w8.getD m []) (by omega) (by omega)
          rw [need_yes (by omega), need_yes (show m ≠ k by omega), f1, Option.bind_some]
          refine ih m r' q1 q2 (f2.trans hrl) fun x hx => ?_
          rw [f3 x, Bool.or_eq_true, h1 x hx, g2 x hx]
          constructor
          · rintro ((h | ⟨j, p1, p2⟩) | h)
            · exact .inl h
            · exact .inr ⟨j, Nat.le_of_succ_le p1, p2⟩
            · exact .inr ⟨m, Nat.le_refl _, hi, hld, h⟩
          · rintro (h | ⟨j, p1, p2, p3, p4⟩)
            · exact .inl (.inl h)
            · by_cases e : j = m
              · rw [e] at p4; exact .inr p4
              · exact .inl (.inr ⟨j, Nat.lt_of_le_of_ne p1 (Ne.symm e), p2, p3, p4⟩)

theorem rep_get (n x : Nat) : (List.replicate n false).getD x false = false := by
  simp [List.getD_eq_getElem?_getD, List.getElem?_replicate]
  split <;> rfl

theorem past_c0 (l : List T_api_Step) (hl : l.length ≤ 1000) : ∀ (fu k : Nat) (w8 : List (List Bool)), l.length - k < fu → k ≤ l.length → w8.length = l.length → (∀ j, j < k → Row l j (w8.getD j [])) →
    ∃ w', g_clock_past_c0 l fu ((l.length : Nat) : Int) (k : Int) w8 = some w' ∧ w'.length = l.length ∧ ∀ j, j < l.length → Row l j (w'.getD j []) := by
  intro fu
  induction fu with
  | zero => intro k w8 h; omega
  | succ fu ih =>
    intro k w8 hf hk hw hr
    simp only [g_clock_past_c0]
    by_cases h : k < l.length
    · have e2 : sub64 (k : Int) 1 = (k : Int) - 1 := sub64_id (by omega) (by omega)
      rw [cond_decide', if_pos (by omega), need_yes (by omega), need_yes (by omega), need_yes (by omega), e2]
      simp only [Int.toNat_natCast]
      obtain ⟨r', h1, h2⟩ := past_c1 l hl k h ((l.length : Nat) : Int) w8 hw hr (g_clock_past_c0 l fu) (k + 2) k ((List.replicate l.length false).set k true) (by omega) (Nat.le_refl _) (by simp) (fun x hx => by
        by_cases e : x = k
        · rw [e, getD_set_self _ _ _ _ (by simp; exact h)]
          exact ⟨fun _ => .inl rfl, fun _ => rfl⟩
        · rw [getD_set_ne _ _ _ _ _ e, rep_get]
          constructor
          · intro h; cases h
          · rintro (h | ⟨j, p1, p2, _⟩)
            · exact absurd h e
            · omega)
      rw [h1, add1 h (by unfold maxLen; omega)]
      refine ih (k + 1) _ (by omega) (by omega) (by rw [List.length_set]; exact hw) fun j hj => ?_
      by_cases e : j = k
      · rw [e, getD_set_self _ _ _ _ (by omega)]; exact h2
      · rw [getD_set_ne _ _ _ _ _ e]; exact hr j (by omega)
    · rw [cond_decide', if_neg (by omega)]
      exact ⟨w8, rfl, hw, fun j hj => hr j (by omega)⟩

theorem past_eq (l : List T_api_Step) (hl : l.length ≤ 1000) : ∃ w', g_clock_past l = some w' ∧ w'.length = l.length ∧ ∀ j, j < l.length → Row l j (w'.getD j []) := by
  simp only [g_clock_past]
  rw [need_yes (by omega)]
  simp only [Int.toNat_natCast]
  exact past_c0 l hl _ 0 _ (by omega) (by omega) (by simp) (fun j hj => by omega)

theorem before_prog (l : List T_api_Step) (hl : l.length ≤ 1000) (i k : Nat) (hik : i < k) (hk : k < l.length) : ∃ b, g_clock_Before l (i : Int) (k : Int) = some b ∧ (b = true ↔ Hb l i k) := by
  have hlt : (l.take (k + 1)).length = k + 1 := by simp; omega
  obtain ⟨w, h1, h2, h3⟩ := past_eq (l.take (k + 1)) (by omega)
  obtain ⟨h4, h5⟩ := h3 k (by omega)
  simp only [g_clock_Before]
  rw [cond_decide', if_neg (by omega), cond_decide', if_neg (by omega), cond_decide', if_neg (by omega), add1 hk (by unfold maxLen; omega), need_yes (by omega)]
  simp only [Int.toNat_natCast]
  rw [h1, Option.bind_some, need_yes (by omega), need_yes (by omega)]
  refine ⟨_, rfl, ?_⟩
  rw [h5 i (by omega), Hb.take (Nat.lt_succ_self k)]

/-! ### Counts -/
def cnt (p : Nat → Bool) : Nat → Nat
  | 0 => 0
  | i + 1 => cnt p i + if p i = true then 1 else 0

theorem cnt_le (p : Nat → Bool) : ∀ i, cnt p i ≤ i
  | 0 => Nat.le_refl _
  | i + 1 => by have := cnt_le p i; unfold cnt; split <;> omega
theorem cnt_up (p : Nat → Bool) (i : Nat) : ∀ n, i ≤ n → cnt p i ≤ cnt p n
  | 0, h => by have : i = 0 := by omega
               rw [this]; exact Nat.le_refl _
  | n + 1, h => by
    by_cases e : i = n + 1
    · rw [e]; exact Nat.le_refl _
    · have := cnt_up p i n (by omega)
      show _ ≤ cnt p n + _
      omega
theorem cnt_mono {p q : Nat → Bool} : ∀ n, (∀ y, y < n → p y = true → q y = true) → cnt p n ≤ cnt q n
  | 0, _ => Nat.le_refl _
  | n + 1, h => by
    have h1 := cnt_mono n fun y hy => h y (Nat.lt_succ_of_lt hy)
    have h2 := h n (Nat.lt_succ_self n)
    unfold cnt
    by_cases e : p n = true
    · rw [if_pos e, if_pos (h2 e)]; omega
    · rw [if_neg e]; omega
theorem cnt_flat {p : Nat → Bool} (i : Nat) : ∀ n, i ≤ n → (∀ y, i ≤ y → y < n → p y = false) → cnt p n = cnt p i
  | 0, h, _ => by have : i = 0 := by omega
                  rw [this]
  | n + 1, h, hp => by
    by_cases e : i = n + 1
    · rw [e]
    · rw [← cnt_flat i n (by omega) fun y h1 h2 => hp y h1 (by omega)]
      show cnt p n + _ = _
      rw [if_neg (by rw [hp n (by omega) (by omega)]; decide)]
      rfl

def whoP (l : List T_api_Step) (w : Int) (y : Nat) : Bool := decide ((l.getD y T_api_Step.d).fWho = w)
def stP (l : List T_api_Step) (r : List Bool) (w : Int) (y : Nat) : Bool := r.getD y false && whoP l w y

/-- By the clocks: a step is ahead of a later one just if as many of its task's are seen. -/
theorem clock_ge (l : List T_api_Step) (i k : Nat) (r : List Bool) (hik : i < k) (hk : k < l.length) (hr : Row l k r) (w : Int) (hw : (l.getD i T_api_Step.d).fWho = w) : cnt (whoP l w) (i + 1) ≤ cnt (stP l r w) l.length ↔ Hb l i k := by
  have hp : ∀ y, y < l.length → (stP l r w y = true ↔ Hb l y k ∧ (l.getD y T_api_Step.d).fWho = w) := fun y hy => by
    unfold stP whoP
    rw [Bool.and_eq_true, hr.2 y hy, decide_eq_true_iff]
  constructor
  · intro h
    refine Classical.byContradiction fun hn => ?_
    have h1 : cnt (stP l r w) l.length = cnt (stP l r w) i := cnt_flat i _ (by omega) fun y h1 h2 => by
      rw [← Bool.not_eq_true, hp y h2]
      rintro ⟨h3, h4⟩
      exact hn ((Hb.who h1 (hw.trans h4.symm)).trans h3)
    have h2 : cnt (stP l r w) i ≤ cnt (whoP l w) i := cnt_mono i fun y hy h => by
      unfold stP at h
      exact (Bool.and_eq_true _ _ ▸ h).2
    have h3 : cnt (whoP l w) (i + 1) = cnt (whoP l w) i + 1 := by
      show cnt _ i + _ = _
      rw [if_pos (by unfold whoP; rw [decide_eq_true_iff]; exact hw)]
    omega
  · intro h
    refine Nat.le_trans (cnt_mono (q := stP l r w) (i + 1) fun y hy h1 => ?_) (cnt_up _ _ _ (by omega))
    unfold whoP at h1
    rw [decide_eq_true_iff] at h1
    exact (hp y (by omega)).2 ⟨(Hb.who (Nat.le_of_lt_succ hy) (h1.trans hw.symm)).trans h, h1⟩

/-! ### The clocks -/
theorem stamps_c2 (l : List T_api_Step) (hl : l.length ≤ 1000) (v19 : List (List Bool)) (v20 v21 : Int) (K : List (List Bool) → Int → Int → List (List Int) → Option (List (List Int))) (r : List Bool) (hr : r.length = l.length) (w5 : List (List Int)) (h5 : w5.length ≤ 1000) :
    ∀ (fu i : Nat) (w : List Int), l.length - i < fu → i ≤ l.length → w.length = 8 → (∀ x : Nat, x < 8 → w.getD x 0 = (cnt (stP l r (x : Int)) i : Int)) →
      ∃ w', g_clock_Stamps_c2 l 8 v19 v20 v21 K fu r ((r.length : Nat) : Int) (i : Int) w5 w = K v19 v20 (add64 v21 1) (w5 ++ [w']) ∧ w'.length = 8 ∧ ∀ x : Nat, x < 8 → w'.getD x 0 = (cnt (stP l r (x : Int)) l.length : Int) := by
  intro fu
  induction fu with
  | zero => intro i w h; omega
  | succ fu ih =>
    intro i w hf hi hw h1
    simp only [g_clock_Stamps_c2]
    by_cases h : i < l.length
    · rw [cond_decide', if_pos (by omega), need_yes (by omega), need_yes (by omega), add1 h (by unfold maxLen; omega)]
      simp only [Int.toNat_natCast]
      have cs : ∀ x : Nat, cnt (stP l r (x : Int)) (i + 1) = cnt (stP l r (x : Int)) i + if r.getD i false = true ∧ (l.getD i T_api_Step.d).fWho = (x : Int) then 1 else 0 := fun x => by
        show cnt _ i + _ = _
        congr 1
        unfold stP whoP
        simp only [Bool.and_eq_true, decide_eq_true_iff]
      have same : ¬ (r.getD i false = true ∧ 0 ≤ (l.getD i T_api_Step.d).fWho ∧ (l.getD i T_api_Step.d).fWho < 8) → ∃ w', g_clock_Stamps_c2 l 8 v19 v20 v21 K fu r ((r.length : Nat) : Int) ((i + 1 : Nat) : Int) w5 w = K v19 v20 (add64 v21 1) (w5 ++ [w']) ∧ w'.length = 8 ∧ ∀ x : Nat, x < 8 → w'.getD x 0 = (cnt (stP l r (x : Int)) l.length : Int) := fun hn => by
        refine ih (i + 1) w (by omega) (by omega) hw fun x hx => ?_
        rw [h1 x hx, cs x, if_neg (fun q => hn ⟨q.1, by omega, by omega⟩)]
        rfl
      cases hri : r.getD i false with
      | false => exact same (fun q => by rw [hri] at q; cases q.1)
      | true =>
        simp only [cond_true]
        by_cases h2 : 0 ≤ (l.getD i T_api_Step.d).fWho
        · rw [cond_decide', if_pos h2]
          by_cases h3 : (l.getD i T_api_Step.d).fWho < 8
          · rw [cond_decide', if_pos h3, need_yes (by omega)]
            obtain ⟨g, hg⟩ : ∃ g : Nat, (l.getD i T_api_Step.d).fWho = (g : Int) := ⟨(l.getD i T_api_Step.d).fWho.toNat, by omega⟩
            have hg8 : g < 8 := by omega
            rw [hg, Int.toNat_natCast, h1 g hg8]
            have hc := cnt_le (stP l r (g : Int)) i
            rw [add64_id (by omega) (by omega)]
            refine ih (i + 1) _ (by omega) (by omega) (by rw [List.length_set]; exact hw) fun x hx => ?_
            rw [cs x]
            by_cases e : x = g
            · rw [e, getD_set_self _ _ _ _ (by omega), if_pos ⟨hri, hg⟩]
              omega
            · rw [getD_set_ne _ _ _ _ _ e, h1 x hx, if_neg (fun q => e (by have := hg.symm.trans q.2; omega))]
              rfl
          · rw [cond_decide', if_neg h3]
            exact same (fun q => h3 q.2.2)
        · rw [cond_decide', if_neg h2]
          exact same (fun q => h2 q.2.1)
    · obtain rfl : i = l.length := by omega
      rw [cond_decide', if_neg (by omega), need_yes (by simp only [List.length_append, List.length_singleton, maxLen]; omega)]
      exact ⟨w, rfl, hw, h1⟩

theorem stamps_c1 (l : List T_api_Step) (hl : l.length ≤ 900) (v19 : List (List Bool)) (h19 : v19.length = l.length) (hr : ∀ j, j < l.length → Row l j (v19.getD j [])) : ∀ (fu k : Nat) (w5 : List (List Int)), l.length - k < fu → k ≤ l.length → w5.length = k →
    (∀ j, j < k → (w5.getD j []).length = 8 ∧ ∀ x : Nat, x < 8 → (w5.getD j []).getD x 0 = (cnt (stP l (v19.getD j []) (x : Int)) l.length : Int)) →
    ∃ w', g_clock_Stamps_c1 l 8 fu v19 ((v19.length : Nat) : Int) (k : Int) w5 = some w' ∧ w'.length = l.length ∧ ∀ j, j < l.length → (w'.getD j []).length = 8 ∧ ∀ x : Nat, x < 8 → (w'.getD j []).getD x 0 = (cnt (stP l (v19.getD j []) (x : Int)) l.length : Int) := by
  intro fu
  induction fu with
  | zero => intro k w h; omega
  | succ fu ih =>
    intro k w5 hf hk hw h1
    simp only [g_clock_Stamps_c1]
    by_cases h : k < l.length
    · rw [cond_decide', if_pos (by omega), need_yes (by omega), need_yes (by omega)]
      simp only [Int.toNat_natCast]
      obtain ⟨w', g1, g2, g3⟩ := stamps_c2 l (by omega) v19 ((v19.length : Nat) : Int) (k : Int) (g_clock_Stamps_c1 l 8 fu) (v19.getD k []) (hr k h).1 w5 (by omega) ((((v19.getD k []).length : Nat) : Int) - 0).toNat.succ.succ 0 (List.replicate (8 : Int).toNat 0) (by have := (hr k h).1; omega) (by omega) (by simp) (fun x hx => by
        show (List.replicate 8 (0 : Int)).getD x 0 = 0
        rw [List.getD_eq_getElem?_getD, List.getElem?_replicate, if_pos hx]
        rfl)
      have g1' : g_clock_Stamps_c2 l 8 v19 ((v19.length : Nat) : Int) (k : Int) (g_clock_Stamps_c1 l 8 fu) (((((v19.getD k []).length : Nat) : Int) - 0).toNat + 2) (v19.getD k []) (((v19.getD k []).length : Nat) : Int) (0 : Int) w5 (List.replicate (8 : Int).toNat 0) = _ := g1
      rw [g1', add1 h (by unfold maxLen; omega)]
      refine ih (k + 1) _ (by omega) (by omega) (by simp [hw]) fun j hj => ?_
      have hget : ∀ j, (w5 ++ [w']).getD j [] = if j = k then w' else w5.getD j [] := fun j => by
        simp only [List.getD_eq_getElem?_getD]
        by_cases e : j = k
        · rw [if_pos e, e, List.getElem?_append_right (by omega), hw, Nat.sub_self]; rfl
        · rw [if_neg e]
          by_cases e2 : j < k
          · rw [List.getElem?_append_left (by omega)]
          · rw [List.getElem?_eq_none (by simp; omega), List.getElem?_eq_none (by omega)]
      rw [hget]
      by_cases e : j = k
      · rw [if_pos e, e]; exact ⟨g2, g3⟩
      · rw [if_neg e]; exact h1 j (by omega)
    · rw [cond_decide', if_neg (by omega)]
      exact ⟨w5, rfl, by omega, fun j hj => h1 j (by omega)⟩

theorem stamps_eq (l : List T_api_Step) (hl : l.length ≤ 900) : ∃ (v19 : List (List Bool)) (w' : List (List Int)), g_clock_Stamps l 8 = some w' ∧ (∀ j, j < l.length → Row l j (v19.getD j [])) ∧ w'.length = l.length ∧ ∀ j, j < l.length → (w'.getD j []).length = 8 ∧ ∀ x : Nat, x < 8 → (w'.getD j []).getD x 0 = (cnt (stP l (v19.getD j []) (x : Int)) l.length : Int) := by
  obtain ⟨v, h1, h2, h3⟩ := past_eq l (by omega)
  simp only [g_clock_Stamps, g_clock_Stamps_c0]
  rw [cond_decide', if_neg (by omega), cond_decide', if_neg (by omega), h1, Option.bind_some]
  obtain ⟨w', g1, g2⟩ := stamps_c1 l hl v h2 h3 ((((v.length : Nat) : Int) - (0 : Int)).toNat + 2) 0 [] (by omega) (by omega) rfl (fun j hj => by omega)
  exact ⟨v, w', g1, h3, g2⟩

/-! ### Numbers -/
theorem mget_put' {κ ν : Type} [DecidableEq κ] (k g : κ) (v z : ν) : ∀ l : List (κ × ν), mget (mput l k v) g z = if k = g then v else mget l g z
  | [] => by
    simp only [mput, mget]
  | p :: r => by
    simp only [mput]
    by_cases h : p.1 = k
    · rw [if_pos h]
      simp only [mget]
      by_cases h2 : k = g
      · simp [h2]
      · rw [if_neg h2, if_neg h2, if_neg (by rw [h]; exact h2)]
    · rw [if_neg h]
      simp only [mget]
      rw [mget_put' k g v z r]
      by_cases h2 : p.1 = g
      · rw [if_pos h2, if_pos h2, if_neg (by rintro rfl; exact h h2)]
      · rw [if_neg h2, if_neg h2]

theorem numbers_c0 (l : List T_api_Step) (hl : l.length ≤ 900) : ∀ (fu i : Nat) (w : List Int) (m : List (Int × Int)), l.length - i < fu → i ≤ l.length → w.length = i → (∀ j, j < i → w.getD j 0 = (cnt (whoP l (l.getD j T_api_Step.d).fWho) (j + 1) : Int)) → (∀ g, mget m g 0 = (cnt (whoP l g) i : Int)) →
    ∃ w', g_race_numbers_c0 fu l ((l.length : Nat) : Int) (i : Int) w m = some w' ∧ w'.length = l.length ∧ ∀ j, j < l.length → w'.getD j 0 = (cnt (whoP l (l.getD j T_api_Step.d).fWho) (j + 1) : Int) := by
  intro fu
  induction fu with
  | zero => intro i w m h; omega
  | succ fu ih =>
    intro i w m hf hi hw h1 h2
    simp only [g_race_numbers_c0]
    by_cases h : i < l.length
    · rw [cond_decide', if_pos (by omega), need_yes (by omega), need_yes (by simp only [List.length_append, List.length_singleton, maxLen]; omega), add1 h (by unfold maxLen; omega)]
      simp only [Int.toNat_natCast]
      have hc := cnt_le (whoP l (l.getD i T_api_Step.d).fWho) i
      have ha : add64 (mget m (l.getD i T_api_Step.d).fWho 0) 1 = (cnt (whoP l (l.getD i T_api_Step.d).fWho) (i + 1) : Int) := by
        rw [h2, add64_id (by omega) (by omega)]
        show _ = ((cnt _ i + _ : Nat) : Int)
        rw [if_pos (by unfold whoP; rw [decide_eq_true_iff])]
        rfl
      refine ih (i + 1) _ _ (by omega) (by omega) (by simp [hw]) (fun j hj => ?_) (fun g => ?_)
      · simp only [List.getD_eq_getElem?_getD]
        by_cases e : j = i
        · rw [e, List.getElem?_append_right (by omega), hw, Nat.sub_self]
          show mget (mput _ _ _) _ _ = _
          simp only [← List.getD_eq_getElem?_getD]
          rw [mget_put', if_pos rfl, ha]
        · rw [List.getElem?_append_left (by omega)]
          have := h1 j (by omega)
          simp only [List.getD_eq_getElem?_getD] at this
          exact this
      · rw [mget_put', ha]
        by_cases e : (l.getD i T_api_Step.d).fWho = g
        · rw [if_pos e, e]
        · rw [if_neg e, h2]
          show _ = ((cnt _ i + _ : Nat) : Int)
          rw [if_neg (by unfold whoP; rw [decide_eq_true_iff]; exact e)]
          rfl
    · rw [cond_decide', if_neg (by omega)]
      exact ⟨w, rfl, by omega, fun j hj => h1 j (by omega)⟩

theorem numbers_eq (l : List T_api_Step) (hl : l.length ≤ 900) : ∃ w', g_race_numbers l = some w' ∧ w'.length = l.length ∧ ∀ j, j < l.length → w'.getD j 0 = (cnt (whoP l (l.getD j T_api_Step.d).fWho) (j + 1) : Int) := by
  simp only [g_race_numbers]
  exact numbers_c0 l hl _ 0 [] [] (by omega) (by omega) rfl (fun j hj => by omega) (fun g => rfl)

/-! ### Who races -/
theorem ahead_eq (l : List T_api_Step) (hl : l.length ≤ 900) (nt : List Int) (st : List (List Int)) (hn : nt.length = l.length) (hn2 : ∀ j, j < l.length → nt.getD j 0 = (cnt (whoP l (l.getD j T_api_Step.d).fWho) (j + 1) : Int)) (v19 : List (List Bool)) (h19 : ∀ j, j < l.length → Row l j (v19.getD j [])) (hs : st.length = l.length)
    (hs2 : ∀ j, j < l.length → (st.getD j []).length = 8 ∧ ∀ x : Nat, x < 8 → (st.getD j []).getD x 0 = (cnt (stP l (v19.getD j []) (x : Int)) l.length : Int)) (i k : Nat) (hik : i < k) (hk : k < l.length) : ∃ b, g_race_ahead l (i : Int) (k : Int) nt st = some b ∧ (b = true ↔ Hb l i k) := by
  obtain ⟨b, hb1, hb2⟩ := before_prog l (by omega) i k hik hk
  simp only [g_race_ahead]
  rw [need_yes (by omega), hb1]
  simp only [Int.toNat_natCast, Option.bind_some]
  by_cases h1 : (l.getD i T_api_Step.d).fWho ≥ 0
  · rw [cond_decide', if_pos h1]
    by_cases h2 : (l.getD i T_api_Step.d).fWho < 8
    · have h3 := (hs2 k hk).1
      rw [cond_decide', if_pos h2, need_yes (by omega), need_yes (by omega), need_yes (by omega)]
      refine ⟨_, rfl, ?_⟩
      obtain ⟨g, hg⟩ : ∃ g : Nat, (l.getD i T_api_Step.d).fWho = (g : Int) := ⟨(l.getD i T_api_Step.d).fWho.toNat, by omega⟩
      rw [decide_eq_true_iff, hn2 i (by omega), hg, Int.toNat_natCast, (hs2 k hk).2 g (by omega), ← clock_ge l i k _ hik hk (h19 k hk) (g : Int) hg]
      omega
    · rw [cond_decide', if_neg h2]
      exact ⟨b, rfl, hb2⟩
  · rw [cond_decide', if_neg h1]
    exact ⟨b, rfl, hb2⟩

section
variable (l : List T_api_Step) (hl : l.length ≤ 900) (nt : List Int) (st : List (List Int)) (hA : ∀ i k, i < k → k < l.length → ∃ b, g_race_ahead l ((i : Nat) : Int) ((k : Nat) : Int) nt st = some b ∧ (b = true ↔ Hb l i k))
include hl hA

theorem find_c1 (k : Nat) (hk : k < l.length) (v13 : Int) (K : List (List Int) → List Int → Int → Int → List (Int × Int) → Option (List (Int × Int))) (K2 : Int → List (Int × Int) → Option (List (Int × Int))) : ∀ (fu fu2 i : Nat) (w : List (Int × Int)), k - i < fu → k - i < fu2 → i ≤ k → w.length ≤ 900 * k + i →
    ∃ w', g_race_Find_c1 l st nt v13 (k : Int) K fu (k : Int) (k : Int) (i : Int) w = K st nt v13 (add64 (k : Int) 1) w' ∧ g_doormanref47_Find_c1 l (k : Int) K2 fu2 (i : Int) w = K2 (add64 (k : Int) 1) w' ∧ w'.length ≤ 900 * k + k := by
  intro fu
  induction fu with
  | zero => intro fu2 i w h; omega
  | succ fu ih =>
    intro fu2 i w hf hf2 hi hw
    cases fu2 with
    | zero => omega
    | succ fu2 =>
    simp only [g_race_Find_c1, g_doormanref47_Find_c1]
    by_cases h : i < k
    · have q1 : k - (i + 1) < fu := by omega
      have q2 : k - (i + 1) < fu2 := by omega
      have q3 : i + 1 ≤ k := h
      have e1 : ((i : Nat) : Int) < ((k : Nat) : Int) := by omega
      have e2 : 0 ≤ ((i : Nat) : Int) ∧ ((i : Nat) : Int) < ((l.length : Nat) : Int) := by omega
      have e3 : 0 ≤ ((k : Nat) : Int) ∧ ((k : Nat) : Int) < ((l.length : Nat) : Int) := by omega
      rw [cond_decide', if_pos e1, need_yes e2, need_yes e3, cond_decide', if_pos e1, need_yes e2, need_yes e3, add1 h (by unfold maxLen; omega)]
      simp only [Int.toNat_natCast]
      have skip := ih fu2 (i + 1) w q1 q2 q3 (by omega)
      cases (l.getD i T_api_Step.d).fWho != (l.getD k T_api_Step.d).fWho with
      | false => exact skip
      | true =>
        simp only [cond_true]
        rw [touch_prog, touch_ref, Option.bind_some, Option.bind_some]
        cases tcB (l.getD i T_api_Step.d) (l.getD k T_api_Step.d) with
        | false => exact skip
        | true =>
          simp only [cond_true]
          obtain ⟨b, b1, b2⟩ := hA i k h hk
          obtain ⟨c, c1, c2⟩ := before_ref l (by omega) i k h hk
          have : b = c := by rw [Bool.eq_iff_iff, b2, c2]
          subst this
          rw [b1, c1, Option.bind_some, Option.bind_some]
          have e4 : (w ++ [(((i : Nat) : Int), ((k : Nat) : Int))]).length * 16 ≤ 140737488355328 ∧ (w ++ [(((i : Nat) : Int), ((k : Nat) : Int))]).length ≤ maxLen := by
            simp only [List.length_append, List.length_singleton, maxLen]
            omega
          cases b with
          | true => exact skip
          | false =>
            simp only [Bool.not_false, cond_true]
            rw [need_yes e4, need_yes e4]
            exact ih fu2 (i + 1) _ q1 q2 q3 (by simp only [List.length_append, List.length_singleton]; omega)
    · obtain rfl : i = k := by omega
      have e1 : ¬ ((i : Nat) : Int) < ((i : Nat) : Int) := by omega
      rw [cond_decide', if_neg e1, cond_decide', if_neg e1]
      exact ⟨w, rfl, rfl, hw⟩

theorem find_c0 : ∀ (fu fu2 k : Nat) (w : List (Int × Int)), l.length - k < fu → l.length - k < fu2 → k ≤ l.length → w.length ≤ 900 * k →
    ∃ w', g_race_Find_c0 l fu st nt ((l.length : Nat) : Int) (k : Int) w = some w' ∧ g_doormanref47_Find_c0 l fu2 (k : Int) w = some w' ∧ w'.length ≤ 900 * l.length := by
  intro fu
  induction fu with
  | zero => intro fu2 k w h; omega
  | succ fu ih =>
    intro fu2 k w hf hf2 hk hw
    cases fu2 with
    | zero => omega
    | succ fu2 =>
    simp only [g_race_Find_c0, g_doormanref47_Find_c0]
    by_cases h : k < l.length
    · have e1 : ((k : Nat) : Int) < ((l.length : Nat) : Int) := by omega
      rw [cond_decide', if_pos e1, cond_decide', if_pos e1]
      obtain ⟨w', h1, h2, h3⟩ := find_c1 l hl nt st hA k h ((l.length : Nat) : Int) (g_race_Find_c0 l fu) (g_doormanref47_Find_c0 l fu2) (((k : Int) - 0).toNat + 2) (((k : Int) - 0).toNat + 2) 0 w (by omega) (by omega) (by omega) (by omega)
      have h1' : g_race_Find_c1 l st nt ((l.length : Nat) : Int) (k : Int) (g_race_Find_c0 l fu) (((k : Int) - 0).toNat + 2) (k : Int) (k : Int) 0 w = _ := h1
      have h2' : g_doormanref47_Find_c1 l (k : Int) (g_doormanref47_Find_c0 l fu2) (((k : Int) - 0).toNat + 2) 0 w = _ := h2
      rw [h1', h2', add1 h (by unfold maxLen; omega)]
      exact ih fu2 (k + 1) w' (by omega) (by omega) (by omega) (by omega)
    · have e1 : ¬ ((k : Nat) : Int) < ((l.length : Nat) : Int) := by omega
      rw [cond_decide', if_neg e1, cond_decide', if_neg e1]
      exact ⟨w, rfl, rfl, by omega⟩
end

theorem find_both (l : List T_api_Step) (hl : l.length ≤ 900) : ∃ w, g_race_Find l = some w ∧ g_doormanref47_Find l = some w ∧ w.length ≤ 900 * l.length := by
  obtain ⟨v19, st, h1, h2, h3, h4⟩ := stamps_eq l hl
  obtain ⟨nt, h5, h6, h7⟩ := numbers_eq l hl
  simp only [g_race_Find, g_doormanref47_Find, h1, h5, Option.bind_some]
  exact find_c0 l hl nt st (fun i k hik hk => ahead_eq l hl nt st h6 h7 v19 h2 h3 h4 i k hik hk) _ _ 0 [] (by omega) (by omega) (by omega) (by simp)

theorem race_awake : g_doormanlaw47_awake = some true := by decide +kernel

theorem race_c1 (l : List T_api_Step) (v3 : Int) (K : Int → Option Bool) (w : List (Int × Int)) (hw : w.length ≤ maxLen) : ∀ (fu i : Nat), w.length - i < fu → i ≤ w.length → g_doormanlaw47_RaceTells_c1 l v3 K fu w w (i : Int) = some true := by
  intro fu
  induction fu with
  | zero => intro i h; omega
  | succ fu ih =>
    intro i hf hi
    simp only [g_doormanlaw47_RaceTells_c1, race_awake, Option.bind_some]
    by_cases h : i < w.length
    · rw [cond_decide', if_pos (by omega), cond_decide', if_pos (by omega), need_yes (by omega), need_yes (by omega), add1 h hw]
      exact ih (i + 1) (by omega) (by omega)
    · rw [cond_decide', if_neg (by omega)]

theorem race_c0 (l : List T_api_Step) (hl : l.length ≤ 40) (w : List (Int × Int)) (hw : w.length ≤ maxLen) (h1 : g_race_Find l = some w) (h2 : g_doormanref47_Find l = some w) : ∀ (fu i : Nat), l.length - i < fu → i ≤ l.length → g_doormanlaw47_RaceTells_c0 l fu (i : Int) = some true := by
  intro fu
  induction fu with
  | zero => intro i h; omega
  | succ fu ih =>
    intro i hf hi
    have ea : add64 (i : Int) 1 = ((i + 1 : Nat) : Int) := add1 (n := i + 1) (by omega) (by unfold maxLen; omega)
    simp only [g_doormanlaw47_RaceTells_c0, touch_prog, touch_ref, h1, h2, Option.bind_some, ea]
    by_cases h : i + 1 < l.length
    · rw [cond_decide', if_pos (by omega), need_yes (by omega), need_yes (by omega), BEq.rfl]
      exact ih (i + 1) (by omega) (by omega)
    · rw [cond_decide', if_neg (by omega), bne_self_eq_false, cond_false]
      exact race_c1 l _ _ w hw _ 0 (by omega) (by omega)

theorem RaceTells_plain (l : List T_api_Step) : g_doormanlaw47_RaceTells l = some true := by
  unfold g_doormanlaw47_RaceTells
  by_cases h : l.length > 40
  · rw [cond_decide', if_pos (by omega), race_awake]; rfl
  · rw [cond_decide', if_neg (by omega)]
    obtain ⟨w, h1, h2, h3⟩ := find_both l (by omega)
    exact race_c0 l (by omega) w (by unfold maxLen; omega) h1 h2 1000000 0 (by omega) (by omega)

end Go.Proofs.Ytgedafbejcpioaa
