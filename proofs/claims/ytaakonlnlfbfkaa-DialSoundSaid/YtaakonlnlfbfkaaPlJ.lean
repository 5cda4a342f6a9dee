/-
  PLAIN LAWS: heaps of items (order, down, Make, Pop).
-/
import Derived.Test.YtaakonlnlfbfkaaPlB
namespace Go.Proofs.Ytaakonlnlfbfkaa
set_option linter.unusedSimpArgs false
set_option linter.unusedVariables false

theorem small_len' {n : Nat} (h : n ≤ 1000000) : n ≤ maxLen := by simp only [maxLen]; omega
theorem wrap_i64s {a : Int} (h : -1000000000000000000 ≤ a) (h' : a ≤ 1000000000000000000) : IntKind.i64.wrap a = a := by
  simp only [IntKind.wrap, IntKind.bits, IntKind.signed]
  simp
  omega

abbrev Itm := T_heap_Item
def cmpH (a b : Itm) : Int := orI (cmpI a.fKey b.fKey) (cmpE a.fEnd b.fEnd)

theorem heap_order (a b : Itm) : g_heap_order a b = some (cmpH a b) := by
  simp only [g_heap_order, cmp_int, endp_cmp, or2, Option.bind_some, cmpH]

theorem heap_ahead (a b : Itm) : g_heap_Ahead a b = some (decide (cmpH a b < 0)) := by
  simp only [g_heap_Ahead, heap_order, Option.bind_some]

theorem cmpH_lt {a b : Itm} : cmpH a b < 0 ↔ a.fKey < b.fKey ∨ (a.fKey = b.fKey ∧ cmpE a.fEnd b.fEnd < 0) := by simp only [cmpH, orI_lt, cmpI_lt, cmpI_zero]
theorem cmpH_swap {a b : Itm} : 0 < cmpH a b ↔ cmpH b a < 0 := by
  simp only [cmpH, orI_lt, orI_gt, cmpI_lt, cmpI_gt, cmpI_zero, cmpE_swap]
  constructor <;> rintro (h | ⟨h1, h2⟩) <;> first | exact .inl h | exact .inr ⟨h1.symm, h2⟩
theorem cmpH_zero {a b : Itm} : cmpH a b = 0 ↔ a = b := by
  simp only [cmpH, orI_zero, cmpI_zero, cmpE_zero]
  obtain ⟨x, p⟩ := a
  obtain ⟨y, q⟩ := b
  simp
theorem cmpH_trans {a b c : Itm} (h1 : cmpH a b < 0) (h2 : cmpH b c < 0) : cmpH a c < 0 := by
  rw [cmpH_lt] at *
  rcases h1 with h1 | ⟨h1, h3⟩ <;> rcases h2 with h2 | ⟨h2, h4⟩
  · exact .inl (by omega)
  · exact .inl (by omega)
  · exact .inl (by omega)
  · exact .inr ⟨by omega, cmpE_trans h3 h4⟩

/-- Stands not behind. -/
def leH (a b : Itm) : Prop := ¬ cmpH b a < 0
theorem leH_refl (a : Itm) : leH a a := by unfold leH; rw [cmpH_zero.2 rfl]; omega
theorem leH_of_lt {a b : Itm} (h : cmpH a b < 0) : leH a b := by
  unfold leH; intro h2; have := cmpH_swap.2 h2; omega
theorem leH_trans {a b c : Itm} (h1 : leH a b) (h2 : leH b c) : leH a c := by
  unfold leH at *
  intro h
  have e1 : cmpH a b ≤ 0 := by
    by_cases q : 0 < cmpH a b
    · exact absurd (cmpH_swap.1 q) h1
    · omega
  by_cases q : cmpH a b = 0
  · have := cmpH_zero.1 q; subst this; exact h2 h
  · exact h2 (cmpH_trans h (by omega))
theorem leH_total {a b : Itm} (h : ¬ cmpH a b < 0) : leH b a := h

abbrev ixH (h : List Itm) (i : Nat) : Itm := h.getD i T_heap_Item.d

/-- From lo on: none stands ahead of the one above it. -/
def HF (lo : Nat) (h : List Itm) : Prop := ∀ k, 0 < k → k < h.length → lo ≤ (k - 1) / 2 → leH (ixH h ((k - 1) / 2)) (ixH h k)

/-- But at i. -/
structure HB (lo i : Nat) (h : List Itm) : Prop where
  ge : lo ≤ i
  up : ∀ k, 0 < k → k < h.length → lo ≤ (k - 1) / 2 → (k - 1) / 2 ≠ i → leH (ixH h ((k - 1) / 2)) (ixH h k)
  over : ∀ k, 0 < k → k < h.length → (k - 1) / 2 = i → 0 < i → lo ≤ (i - 1) / 2 → leH (ixH h ((i - 1) / 2)) (ixH h k)

def best2 (h : List Itm) (i b : Nat) : Nat := if 2 * i + 2 < h.length ∧ cmpH (ixH h (2 * i + 2)) (ixH h b) < 0 then 2 * i + 2 else b
def bestH (h : List Itm) (i : Nat) : Nat := best2 h i (if 2 * i + 1 < h.length ∧ cmpH (ixH h (2 * i + 1)) (ixH h i) < 0 then 2 * i + 1 else i)
theorem best_none (h : List Itm) (i : Nat) (e : ¬ 2 * i + 1 < h.length) : bestH h i = i := by
  unfold bestH best2
  rw [if_neg (fun x : 2 * i + 1 < h.length ∧ _ => e x.1), if_neg (fun x => by have := x.1; omega)]

theorem best_spec (h : List Itm) (i : Nat) (hi : i < h.length) : (bestH h i = i ∨ (bestH h i = 2 * i + 1 ∨ bestH h i = 2 * i + 2) ∧ bestH h i < h.length ∧ cmpH (ixH h (bestH h i)) (ixH h i) < 0) ∧ bestH h i < h.length ∧
    ∀ k, k < h.length → 0 < k → (k - 1) / 2 = i → leH (ixH h (bestH h i)) (ixH h k) := by
  have hk : ∀ k, 0 < k → (k - 1) / 2 = i → k = 2 * i + 1 ∨ k = 2 * i + 2 := by intro k h1 h2; omega
  unfold bestH best2
  by_cases c1 : 2 * i + 1 < h.length ∧ cmpH (ixH h (2 * i + 1)) (ixH h i) < 0
  · rw [if_pos c1]
    by_cases c2 : 2 * i + 2 < h.length ∧ cmpH (ixH h (2 * i + 2)) (ixH h (2 * i + 1)) < 0
    · rw [if_pos c2]
      refine ⟨.inr ⟨.inr rfl, c2.1, cmpH_trans c2.2 c1.2⟩, c2.1, fun k h1 h2 h3 => ?_⟩
      rcases hk k h2 h3 with e | e
      · subst e; exact leH_of_lt c2.2
      · subst e; exact leH_refl _
    · rw [if_neg c2]
      refine ⟨.inr ⟨.inl rfl, c1.1, c1.2⟩, c1.1, fun k h1 h2 h3 => ?_⟩
      rcases hk k h2 h3 with e | e
      · subst e; exact leH_refl _
      · subst e; exact leH_total fun q => c2 ⟨h1, q⟩
  · rw [if_neg c1]
    by_cases c2 : 2 * i + 2 < h.length ∧ cmpH (ixH h (2 * i + 2)) (ixH h i) < 0
    · rw [if_pos c2]
      refine ⟨.inr ⟨.inr rfl, c2.1, c2.2⟩, c2.1, fun k h1 h2 h3 => ?_⟩
      rcases hk k h2 h3 with e | e
      · subst e; exact leH_trans (leH_of_lt c2.2) (leH_total fun q => c1 ⟨h1, q⟩)
      · subst e; exact leH_refl _
    · rw [if_neg c2]
      refine ⟨.inl rfl, hi, fun k h1 h2 h3 => ?_⟩
      rcases hk k h2 h3 with e | e
      · subst e; exact leH_total fun q => c1 ⟨h1, q⟩
      · subst e; exact leH_total fun q => c2 ⟨h1, q⟩

def swapH (h : List Itm) (i b : Nat) : List Itm := (h.set i (ixH h b)).set b (ixH h i)
theorem swapH_len (h : List Itm) (i b : Nat) : (swapH h i b).length = h.length := by simp [swapH]
theorem swapH_get (h : List Itm) (i b k : Nat) (hi : i < h.length) (hb : b < h.length) : ixH (swapH h i b) k = if k = b then ixH h i else if k = i then ixH h b else ixH h k := by
  simp only [ixH, swapH, List.getD_eq_getElem?_getD, List.getElem?_set, List.length_set]
  by_cases h1 : k = b
  · subst h1; simp [hb]
  · rw [if_neg (Ne.symm h1), if_neg h1]
    by_cases h2 : k = i
    · subst h2; simp [hi]
    · rw [if_neg (Ne.symm h2), if_neg h2]

theorem swapH_perm (h : List Itm) (i b : Nat) (hi : i < h.length) (hb : b < h.length) : (swapH h i b).Perm h := by
  rw [List.perm_iff_count]
  intro a
  unfold swapH
  have e1 : ixH h i = h[i] := getD_of h _ i hi
  have e2 : ixH h b = h[b] := getD_of h _ b hb
  rw [e1, e2]
  by_cases hib : i = b
  · subst hib
    simp
  · rw [List.count_set (by simpa using hb), List.count_set hi, List.getElem_set_ne hib]
    have m1 : (if (h[i] == a) = true then 1 else 0) ≤ h.count a := by
      split
      · rename_i q
        have : h[i] = a := by simpa using q
        exact List.one_le_count_iff.2 (this ▸ List.getElem_mem hi)
      · omega
    have m2 : (if (h[b] == a) = true then 1 else 0) ≤ h.count a := by
      split
      · rename_i q
        have : h[b] = a := by simpa using q
        exact List.one_le_count_iff.2 (this ▸ List.getElem_mem hb)
      · omega
    by_cases q1 : (h[i] == a) = true <;> by_cases q2 : (h[b] == a) = true <;> simp only [q1, q2] at m1 m2 ⊢ <;> omega

theorem HB.step {lo i : Nat} {h : List Itm} (H : HB lo i h) (hi : i < h.length) (hne : bestH h i ≠ i) : HB lo (bestH h i) (swapH h i (bestH h i)) := by
  obtain ⟨c, hb, hm⟩ := best_spec h i hi
  generalize hbe : bestH h i = b at *
  rcases c with c | ⟨c, _, hlt⟩
  · exact absurd c hne
  have hpar : (b - 1) / 2 = i := by omega
  have hib : i < b := by omega
  refine ⟨by have := H.ge; omega, fun k h1 h2 h3 h4 => ?_, fun k h1 h2 h3 h4 h5 => ?_⟩
  · rw [swapH_len] at h2
    rw [swapH_get h i b _ hi hb, swapH_get h i b _ hi hb, if_neg h4]
    by_cases e1 : (k - 1) / 2 = i
    · rw [if_pos e1]
      by_cases e2 : k = b
      · rw [if_pos e2]; exact leH_of_lt hlt
      · rw [if_neg e2, if_neg (by omega)]; exact hm k h2 h1 e1
    · rw [if_neg e1, if_neg (by omega : k ≠ b)]
      by_cases e2 : k = i
      · rw [if_pos e2]; subst e2
        exact H.over b (by omega) hb hpar h1 h3
      · rw [if_neg e2]; exact H.up k h1 h2 h3 e1
  · rw [swapH_len] at h2
    rw [swapH_get h i b _ hi hb, swapH_get h i b _ hi hb, if_neg (by omega), if_pos hpar, if_neg (by omega), if_neg (by omega)]
    have := H.up k h1 h2 (by have := H.ge; omega) (by omega)
    rw [h3] at this
    exact this

theorem HB.done {lo i : Nat} {h : List Itm} (H : HB lo i h) (hi : i < h.length) (he : bestH h i = i) : HF lo h := by
  obtain ⟨c, hb, hm⟩ := best_spec h i hi
  intro k h1 h2 h3
  by_cases e : (k - 1) / 2 = i
  · rw [e]; rw [he] at hm; exact hm k h2 h1 e
  · exact H.up k h1 h2 h3 e

theorem mul2 {i : Nat} (h : i ≤ 1000000) : mul64 (2 : Int) (i : Int) = ((2 * i : Nat) : Int) := by
  simp only [mul64]
  rw [show (2 : Int) * (i : Int) = ((2 * i : Nat) : Int) by omega]
  exact wrap_i64s (by omega) (by omega)
theorem add2 {i k : Nat} (h : i ≤ 3000000) (hk : k ≤ 2) : add64 (i : Int) (k : Int) = ((i + k : Nat) : Int) := by rw [add64_id (by omega) (by omega)]; omega

theorem down_in (i : Nat) (h : List Itm) (hi : i < h.length) (hl : h.length ≤ 1000000) (kk : Int → List Itm → Option (List Itm)) (fu : Nat) (hf : 3 ≤ fu) :
    g_heap_down_c1 (i : Int) kk fu (i : Int) ((2 * i + 1 : Nat) : Int) h = if bestH h i = i then some h else kk ((bestH h i : Nat) : Int) (swapH h i (bestH h i)) := by
  obtain ⟨fu, rfl⟩ : ∃ n, fu = n + 3 := ⟨fu - 3, by omega⟩
  have two : add64 (mul64 (2 : Int) (i : Int)) (2 : Int) = ((2 * i + 2 : Nat) : Int) := by rw [mul2 (by omega)]; exact add2 (k := 2) (by omega) (by omega)
  have ends : ∀ b : Nat, b < h.length → (bif ((b : Int) == (i : Int)) then some h else need (0 ≤ (b : Int) ∧ (b : Int) < ((h.length : Nat) : Int)) <| need (0 ≤ (i : Int) ∧ (i : Int) < ((h.length : Nat) : Int)) <| kk (b : Int) ((h.set (i : Int).toNat (h.getD (b : Int).toNat T_heap_Item.d)).set (b : Int).toNat (h.getD (i : Int).toNat T_heap_Item.d))) =
      if b = i then some h else kk ((b : Nat) : Int) (swapH h i b) := by
    intro b hb
    by_cases e : b = i
    · subst e; simp
    · rw [show ((b : Int) == (i : Int)) = false by rw [beq_eq_false_iff_ne]; omega, cond_false, need_yes ⟨by omega, by omega⟩, need_yes ⟨by omega, by omega⟩, if_neg e]
      rfl
  -- the second one below, or none
  have second : ∀ (b : Nat) (fu : Nat), b < h.length → g_heap_down_c1 (i : Int) kk (fu + 2) (b : Int) ((2 * i + 2 : Nat) : Int) h = if best2 h i b = i then some h else kk ((best2 h i b : Nat) : Int) (swapH h i (best2 h i b)) := by
    intro b fu hb
    have third : ∀ c : Nat, c < h.length → g_heap_down_c1 (i : Int) kk (fu + 1) (c : Int) ((2 * i + 3 : Nat) : Int) h = if c = i then some h else kk ((c : Nat) : Int) (swapH h i c) := by
      intro c hc
      simp only [g_heap_down_c1, cond_decide', two]
      rw [if_neg (by omega)]
      exact ends c hc
    unfold g_heap_down_c1
    simp only [cond_decide', two]
    rw [if_pos (by omega)]
    by_cases e : 2 * i + 2 < h.length
    · rw [if_pos (by omega), need_yes ⟨by omega, by omega⟩, need_yes ⟨by omega, by omega⟩, heap_ahead]
      simp only [Option.bind_some, Int.toNat_natCast, cond_decide']
      rw [show add64 ((2 * i + 2 : Nat) : Int) (1 : Int) = ((2 * i + 3 : Nat) : Int) from add2 (i := 2 * i + 2) (k := 1) (by omega) (by omega)]
      by_cases q : cmpH (ixH h (2 * i + 2)) (ixH h b) < 0
      · rw [if_pos q, show best2 h i b = 2 * i + 2 from if_pos ⟨e, q⟩]; exact third _ e
      · rw [if_neg q, show best2 h i b = b from if_neg (fun x => q x.2)]; exact third _ hb
    · rw [if_neg (by omega), show best2 h i b = b from if_neg (fun x => e x.1)]
      exact ends b hb
  unfold g_heap_down_c1
  simp only [cond_decide', two]
  rw [if_pos (by omega)]
  by_cases e : 2 * i + 1 < h.length
  · rw [if_pos (by omega), need_yes ⟨by omega, by omega⟩, need_yes ⟨by omega, by omega⟩, heap_ahead]
    simp only [Option.bind_some, Int.toNat_natCast, cond_decide']
    rw [show add64 ((2 * i + 1 : Nat) : Int) (1 : Int) = ((2 * i + 2 : Nat) : Int) from add2 (i := 2 * i + 1) (k := 1) (by omega) (by omega)]
    by_cases q : cmpH (ixH h (2 * i + 1)) (ixH h i) < 0
    · rw [if_pos q, second _ fu e]
      unfold bestH
      rw [if_pos (show 2 * i + 1 < h.length ∧ cmpH (ixH h (2 * i + 1)) (ixH h i) < 0 from ⟨e, q⟩)]
    · rw [if_neg q, second _ fu hi]
      unfold bestH
      rw [if_neg (show ¬ (2 * i + 1 < h.length ∧ cmpH (ixH h (2 * i + 1)) (ixH h i) < 0) from fun x => q x.2)]
  · rw [if_neg (by omega), ends i hi, best_none h i e]

theorem down_loop : ∀ fu (lo i : Nat) (h : List Itm), i < h.length → h.length ≤ 1000000 → HB lo i h → h.length - i < fu → ∃ h', g_heap_down_c0 fu (i : Int) h = some h' ∧ h'.Perm h ∧ HF lo h' := by
  intro fu
  induction fu with
  | zero => intro _ _ _ _ _ _ h; omega
  | succ fu ih =>
    intro lo i h hi hl H hf
    simp only [g_heap_down_c0]
    have e1 : add64 (mul64 (2 : Int) (i : Int)) (1 : Int) = ((2 * i + 1 : Nat) : Int) := by rw [mul2 (by omega)]; exact add2 (k := 1) (by omega) (by omega)
    obtain ⟨c, hb, _⟩ := best_spec h i hi
    rw [e1]
    by_cases hc : 2 * i + 1 < h.length
    · rw [down_in i h hi hl _ _ (by omega)]
      by_cases e : bestH h i = i
      · rw [if_pos e]; exact ⟨h, rfl, List.Perm.refl _, H.done hi e⟩
      · rw [if_neg e]
        obtain ⟨h', h1, h2, h3⟩ := ih lo (bestH h i) (swapH h i (bestH h i)) (by rw [swapH_len]; exact hb) (by rw [swapH_len]; exact hl) (H.step hi e) (by rw [swapH_len]; omega)
        exact ⟨h', h1, h2.trans (swapH_perm h i _ hi hb), h3⟩
    · -- no kids: the fuel is small
      have e := best_none h i hc
      refine ⟨h, ?_, List.Perm.refl _, H.done hi e⟩
      have two : add64 (mul64 (2 : Int) (i : Int)) (2 : Int) = ((2 * i + 2 : Nat) : Int) := by rw [mul2 (by omega)]; exact add2 (k := 2) (by omega) (by omega)
      obtain ⟨n, hn⟩ : ∃ n, ((((h.length : Nat) : Int) - ((2 * i + 1 : Nat) : Int)).toNat + 2) = n + 1 := ⟨_, rfl⟩
      rw [hn]
      simp only [g_heap_down_c1, cond_decide', two]
      rw [if_pos (by omega), if_neg (by omega)]
      simp

theorem heap_down (lo i : Nat) (h : List Itm) (hi : i < h.length) (hl : h.length ≤ 900000) (H : HB lo i h) : ∃ h', g_heap_down h (i : Int) = some h' ∧ h'.Perm h ∧ HF lo h' :=
  down_loop 1000000 lo i h hi (by omega) H (by omega)

theorem down_nil : g_heap_down [] 0 = some [] := by
  have : ∀ fu, g_heap_down_c0 (fu + 1) 0 [] = some [] := fun fu => by
    rw [g_heap_down_c0]
    rw [show ((((([] : List Itm).length : Nat) : Int) - (add64 (mul64 (2 : Int) (0 : Int)) (1 : Int))).toNat + 2) = 1 + 1 from rfl]
    rfl
  exact this 999999

theorem clone_itm (l : List Itm) (h : l.length ≤ 1000000) : g_slices_Clone_doorman_heap_Item_doorman_heap_Item l = some l := by
  unfold g_slices_Clone_doorman_heap_Item_doorman_heap_Item
  rw [need_yes ⟨by omega, small_len' h⟩]

theorem make_loop : ∀ fu (i : Nat) (h : List Itm), i ≤ h.length / 2 → h.length ≤ 900000 → HF i h → i < fu → ∃ h', g_heap_Make_c0 fu ((i : Int) - 1) h = some h' ∧ h'.Perm h ∧ HF 0 h' := by
  intro fu
  induction fu with
  | zero => intro _ _ _ _ _ h; omega
  | succ fu ih =>
    intro i h hi hl H hf
    simp only [g_heap_Make_c0, cond_decide']
    by_cases e : i = 0
    · subst e
      rw [if_neg (by omega)]
      exact ⟨h, rfl, List.Perm.refl _, H⟩
    · rw [if_pos (by omega)]
      obtain ⟨j, rfl⟩ : ∃ j, i = j + 1 := ⟨i - 1, by omega⟩
      rw [show ((j + 1 : Nat) : Int) - 1 = (j : Int) by omega]
      have HBj : HB j j h := ⟨Nat.le_refl _, fun k h1 h2 h3 h4 => H k h1 h2 (by omega), fun k h1 h2 h3 h4 h5 => by omega⟩
      obtain ⟨h', d1, d2, d3⟩ := heap_down j j h (by omega) hl HBj
      rw [d1]
      simp only [Option.bind_some]
      rw [show sub64 (j : Int) (1 : Int) = (j : Int) - 1 from sub64_id (by omega) (by omega)]
      obtain ⟨h'', m1, m2, m3⟩ := ih j h' (by rw [d2.length_eq]; omega) (by rw [d2.length_eq]; exact hl) d3 (by omega)
      exact ⟨h'', m1, m2.trans d2, m3⟩

theorem tdiv2 (n : Nat) (h : n ≤ 1000000) : IntKind.wrap .i64 (Int.tdiv (n : Int) (2 : Int)) = ((n / 2 : Nat) : Int) := by
  rw [show Int.tdiv (n : Int) (2 : Int) = ((n / 2 : Nat) : Int) by rw [Int.tdiv_eq_ediv_of_nonneg (by omega)]; omega]
  exact wrap_i64s (by omega) (by omega)

theorem heap_make (l : List Itm) (hl : l.length ≤ 900000) : ∃ h, g_heap_Make l = some h ∧ h.Perm l ∧ HF 0 h := by
  simp only [g_heap_Make, clone_itm l (by omega), Option.bind_some]
  rw [tdiv2 _ (by omega), show sub64 ((l.length / 2 : Nat) : Int) (1 : Int) = ((l.length / 2 : Nat) : Int) - 1 from sub64_id (by omega) (by omega)]
  exact make_loop _ (l.length / 2) l (Nat.le_refl _) hl (fun k h1 h2 h3 => by omega) (by omega)

theorem heap_min {h : List Itm} (H : HF 0 h) : ∀ n k, k ≤ n → k < h.length → leH (ixH h 0) (ixH h k) := by
  intro n
  induction n with
  | zero => intro k h1 h2; rw [show k = 0 by omega]; exact leH_refl _
  | succ n ih =>
    intro k h1 h2
    by_cases e : k = 0
    · rw [e]; exact leH_refl _
    · exact leH_trans (ih ((k - 1) / 2) (by omega) (by omega)) (H k (by omega) h2 (Nat.zero_le _))

theorem heap_pop_nil : g_heap_Pop [] = some (⟨0, ⟨⟨false, 0, 0⟩, 0⟩⟩, [], false) := rfl

theorem heap_pop (h : List Itm) (hl : h.length ≤ 900000) (H : HF 0 h) (hne : h ≠ []) : ∃ x r, g_heap_Pop h = some (x, r, true) ∧ h.Perm (x :: r) ∧ HF 0 r ∧ ∀ y ∈ h, leH x y := by
  have hpos : 0 < h.length := List.length_pos_iff.2 hne
  have es : sub64 ((h.length : Nat) : Int) (1 : Int) = ((h.length - 1 : Nat) : Int) := by rw [sub64_id (by omega) (by omega)]; omega
  -- the rest ahead of sinking
  have hx : ∀ (l : List Itm), (hlp : 0 < l.length) → l.Perm (ixH l 0 :: (l.set 0 (ixH l (l.length - 1))).take (l.length - 1)) := by
    intro l hlp
    cases l with
    | nil => simp at hlp
    | cons a t =>
      simp only [ixH, List.getD_cons_zero, List.length_cons, Nat.add_sub_cancel, List.set_cons_zero]
      rcases t.eq_nil_or_concat with e | ⟨t', z, e⟩
      · subst e; simp
      · subst e
        simp only [List.concat_eq_append, List.length_append, List.length_singleton]
        rw [show ((a :: (t' ++ [z])).getD (t'.length + 1) T_heap_Item.d) = z by simp [List.getD_eq_getElem?_getD]]
        rw [show List.take (t'.length + 1) (z :: (t' ++ [z])) = z :: t' by simp]
        refine List.Perm.cons a ?_
        exact List.perm_append_comm
  have hin : ∀ y ∈ h, leH (ixH h 0) y := by
    intro y hy
    obtain ⟨k, h1, h2⟩ := List.getElem_of_mem hy
    have := heap_min H k k (Nat.le_refl _) h1
    rw [show ixH h k = y by rw [← h2]; exact getD_of h _ k h1] at this
    exact this
  let r0 := (h.set 0 (ixH h (h.length - 1))).take (h.length - 1)
  have hr0 : r0.length = h.length - 1 := by simp [r0]
  have hd : ∃ r, g_heap_down r0 (0 : Int) = some r ∧ r.Perm r0 ∧ HF 0 r := by
    by_cases e : h.length = 1
    · have : r0 = [] := List.eq_nil_of_length_eq_zero (by omega)
      rw [this]
      exact ⟨[], down_nil, List.Perm.refl _, fun k _ h2 => by simp at h2⟩
    · refine heap_down 0 0 r0 (by omega) (by omega) ⟨Nat.le_refl _, fun k h1 h2 h3 h4 => ?_, fun k h1 h2 h3 h4 => by omega⟩
      have e1 : ∀ j, 0 < j → j < r0.length → ixH r0 j = ixH h j := by
        intro j j1 j2
        rw [hr0] at j2
        simp only [ixH, r0, List.getD_eq_getElem?_getD, List.getElem?_take, if_pos j2, List.getElem?_set, if_neg (show ¬ 0 = j by omega)]
      rw [e1 k h1 h2, e1 _ (by omega) (by omega)]
      exact H k h1 (by rw [hr0] at h2; omega) h3
  obtain ⟨r, d1, d2, d3⟩ := hd
  refine ⟨ixH h 0, r, ?_, (hx h hpos).trans (List.Perm.cons _ d2.symm), d3, hin⟩
  simp only [g_heap_Pop]
  rw [show (((h.length : Nat) : Int) == (0 : Int)) = false by rw [beq_eq_false_iff_ne]; omega, cond_false, clone_itm h (by omega)]
  simp only [Option.bind_some, es, Int.toNat_natCast]
  rw [need_yes ⟨by omega, by omega⟩, need_yes ⟨by omega, by omega⟩, need_yes ⟨by omega, by omega, by omega⟩, need_yes (by simp)]
  rw [show (h.set ((0 : Int).toNat) (h.getD (h.length - 1) T_heap_Item.d)).take (h.length - 1) = r0 from rfl, d1]
  simp only [Option.bind_some]
  rw [need_yes ⟨by omega, by omega⟩]
  rfl

end Go.Proofs.Ytaakonlnlfbfkaa
