/-
  PLAIN LAWS: what becomes of a list of bans.
-/
import Derived.Test.YtgmkffjkidgcnaaPlX
namespace Go.Proofs.Ytgmkffjkidgcnaa
set_option linter.unusedSimpArgs false
set_option linter.unusedVariables false

def rightB (b : T_api_Ban) : Bool := rightC b.fNet && decide (1 ≤ b.fUntil) && decide (b.fUntil ≤ 1099511627776)

theorem ban_right (b : T_api_Ban) (h : b.ok) : g_ban_Right b = some (rightB b) := by
  simp only [g_ban_Right, cidr_right _ h.1.1, rightB, Option.bind_some, cond_decide']
  cases rightC b.fNet
  · rfl
  · simp only [cond_true, Bool.true_and]
    by_cases h1 : 1 ≤ b.fUntil
    · rw [if_pos h1, decide_eq_true h1]; rfl
    · rw [if_neg h1, decide_eq_false h1]; rfl

theorem ref12_right (b : T_api_Ban) (h : b.ok) : g_doormanref12_Right b = some (rightB b) := by
  simp only [g_doormanref12_Right, ref7_right _ h.1.1, rightB, Option.bind_some, cond_decide']
  cases rightC b.fNet
  · rfl
  · simp only [cond_true, Bool.true_and]
    by_cases h1 : 1 ≤ b.fUntil
    · rw [if_pos (by omega), decide_eq_true h1]; rfl
    · rw [if_neg (by omega), decide_eq_false h1]; rfl

theorem ref_cmpN (a b : T_api_Net) : g_doormanref07_Compare a b = some (cmpN a b) := by
  simp only [g_doormanref07_Compare, ref_cmpA, Option.bind_some, cmpN, orI, cmpI]
  simp only [Bool.cond_eq_ite, bne_iff_ne, ne_eq, ite_not, decide_eq_true_eq, beq_iff_eq]
  generalize cmpA a.fAddr b.fAddr = c
  (repeat' split) <;> first | rfl | omega | (congr 1; omega) | simp_all

/-! ### A right list -/
def rightL (l : List T_api_Ban) : Prop := (∀ b ∈ l, rightB b = true) ∧ l.Pairwise fun a b => cmpN a.fNet b.fNet < 0

theorem rightL_sub {l l' : List T_api_Ban} (h : rightL l) (hs : l'.Sublist l) : rightL l' := ⟨fun b hb => h.1 b (hs.subset hb), h.2.sublist hs⟩

theorem right_loop (l : List T_api_Ban) (hl : l.length ≤ maxLen) (hok : ∀ b ∈ l, b.ok) : ∀ fu (i : Nat), i ≤ l.length → l.length - i < fu →
    ∃ r, g_bans_Right_c0 l fu l (l.length : Int) (i : Int) = some r ∧ (r = true ↔ ∀ j, i ≤ j → j < l.length → rightB (l.getD j T_api_Ban.d) = true ∧ (0 < j → cmpN (l.getD (j - 1) T_api_Ban.d).fNet (l.getD j T_api_Ban.d).fNet < 0)) := by
  intro fu
  induction fu with
  | zero => intro _ _ h; omega
  | succ fu ih =>
    intro i hi hf
    simp only [g_bans_Right_c0, cond_decide', cidr_cmp, Option.bind_some]
    by_cases h : i < l.length
    · rw [if_pos (by omega), need_yes ⟨by omega, by omega⟩]
      simp only [Int.toNat_natCast]
      rw [ban_right _ (hok _ (getD_mem l T_api_Ban.d i h)), add1 h hl]
      simp only [Option.bind_some]
      obtain ⟨r, r1, r2⟩ := ih (i + 1) (by omega) (by omega)
      have more : (∀ j, i ≤ j → j < l.length → rightB (l.getD j T_api_Ban.d) = true ∧ (0 < j → cmpN (l.getD (j - 1) T_api_Ban.d).fNet (l.getD j T_api_Ban.d).fNet < 0)) ↔ (rightB (l.getD i T_api_Ban.d) = true ∧ (0 < i → cmpN (l.getD (i - 1) T_api_Ban.d).fNet (l.getD i T_api_Ban.d).fNet < 0)) ∧ r = true := by
        rw [r2]
        constructor
        · intro q; exact ⟨q i (Nat.le_refl _) h, fun j h1 h2 => q j (by omega) h2⟩
        · rintro ⟨q1, q2⟩ j h1 h2
          by_cases e : j = i
          · subst e; exact q1
          · exact q2 j (by omega) h2
      rw [more]
      cases hb : rightB (l.getD i T_api_Ban.d) with
      | false => exact ⟨false, rfl, by simp⟩
      | true =>
        simp only [Bool.not_true, cond_false]
        by_cases h0 : 0 < i
        · rw [if_pos (by omega), show sub64 (i : Int) 1 = ((i - 1 : Nat) : Int) by rw [sub64_id (by unfold maxLen at hl; omega) (by unfold maxLen at hl; omega)]; omega, need_yes ⟨by omega, by omega⟩]
          simp only [Int.toNat_natCast]
          by_cases hc : cmpN (l.getD (i - 1) T_api_Ban.d).fNet (l.getD i T_api_Ban.d).fNet ≥ 0
          · rw [if_pos hc]
            exact ⟨false, rfl, by simp only [Bool.false_eq_true, false_iff]; rintro ⟨⟨_, q⟩, _⟩; have := q h0; omega⟩
          · rw [if_neg hc]
            exact ⟨r, r1, ⟨fun q => ⟨⟨trivial, fun _ => by omega⟩, q⟩, fun q => q.2⟩⟩
        · rw [if_neg (by omega)]
          exact ⟨r, r1, ⟨fun q => ⟨⟨trivial, fun h => absurd h h0⟩, q⟩, fun q => q.2⟩⟩
    · rw [if_neg (by omega)]
      exact ⟨true, rfl, by simp; intro j h1 h2; omega⟩

theorem chain_iff (l : List T_api_Ban) : (∀ j, 0 ≤ j → j < l.length → rightB (l.getD j T_api_Ban.d) = true ∧ (0 < j → cmpN (l.getD (j - 1) T_api_Ban.d).fNet (l.getD j T_api_Ban.d).fNet < 0)) ↔ rightL l := by
  constructor
  · intro h
    refine ⟨fun b hb => ?_, pairwise_of_chain (R := fun a b : T_api_Ban => cmpN a.fNet b.fNet < 0) (fun a b c h1 h2 => cmpN_trans h1 h2) l fun i a b ha hb => ?_⟩
    · obtain ⟨i, hi, rfl⟩ := List.getElem_of_mem hb
      have := (h i (by omega) hi).1
      rwa [getD_of l _ i hi] at this
    · obtain ⟨h1, e1⟩ := List.getElem?_eq_some_iff.1 ha
      obtain ⟨h2, e2⟩ := List.getElem?_eq_some_iff.1 hb
      have := (h (i + 1) (by omega) h2).2 (by omega)
      rw [Nat.add_sub_cancel, getD_of l _ i h1, getD_of l _ (i + 1) h2, e1, e2] at this
      exact this
  · rintro ⟨h1, h2⟩ j _ hj
    refine ⟨h1 _ (getD_mem l _ j hj), fun h0 => ?_⟩
    rw [getD_of l _ j hj, getD_of l _ (j - 1) (by omega)]
    exact List.pairwise_iff_getElem.1 h2 (j - 1) j (by omega) hj (by omega)

theorem bans_right (l : List T_api_Ban) (hl : l.length ≤ maxLen) (hok : ∀ b ∈ l, b.ok) : ∃ r, g_bans_Right l = some r ∧ (r = true ↔ rightL l) := by
  obtain ⟨r, r1, r2⟩ := right_loop l hl hok ((((l.length : Nat) : Int) - (0 : Int)).toNat + 2) 0 (by omega) (by omega)
  exact ⟨r, r1, r2.trans (chain_iff l)⟩

theorem rr_in (l : List T_api_Ban) (hl : l.length ≤ maxLen) (v3 : Nat) (h3 : v3 < l.length) (k : Int → Option Bool) : ∀ fu (i : Nat), i ≤ v3 → v3 - i < fu →
    ((∀ j, i ≤ j → j < v3 → cmpN (l.getD j T_api_Ban.d).fNet (l.getD v3 T_api_Ban.d).fNet < 0) ∧ g_doormanref13_Right_c1 l (v3 : Int) k fu (i : Int) = k ((v3 + 1 : Nat) : Int)) ∨ ((¬ ∀ j, i ≤ j → j < v3 → cmpN (l.getD j T_api_Ban.d).fNet (l.getD v3 T_api_Ban.d).fNet < 0) ∧ g_doormanref13_Right_c1 l (v3 : Int) k fu (i : Int) = some false) := by
  intro fu
  induction fu with
  | zero => intro _ _ h; omega
  | succ fu ih =>
    intro i hi hf
    simp only [g_doormanref13_Right_c1, cond_decide', ref_cmpN, Option.bind_some]
    by_cases h : i < v3
    · rw [if_pos (by omega), need_yes ⟨by omega, by omega⟩, need_yes ⟨by omega, by omega⟩]
      simp only [Int.toNat_natCast]
      by_cases hc : cmpN (l.getD i T_api_Ban.d).fNet (l.getD v3 T_api_Ban.d).fNet ≥ 0
      · rw [if_pos hc]
        exact .inr ⟨fun q => by have := q i (Nat.le_refl _) h; omega, rfl⟩
      · rw [if_neg hc, add1 (n := l.length) (by omega) hl]
        rcases ih (i + 1) (by omega) (by omega) with ⟨q1, q2⟩ | ⟨q1, q2⟩
        · refine .inl ⟨fun j h1 h2 => ?_, q2⟩
          by_cases e : j = i
          · subst e; omega
          · exact q1 j (by omega) h2
        · exact .inr ⟨fun q => q1 fun j h1 h2 => q j (by omega) h2, q2⟩
    · rw [if_neg (by omega), add1 h3 hl]
      exact .inl ⟨fun j h1 h2 => by omega, rfl⟩

theorem rr_out (l : List T_api_Ban) (hl : l.length ≤ maxLen) (hok : ∀ b ∈ l, b.ok) : ∀ fu (i : Nat), i ≤ l.length → l.length - i < fu →
    ∃ r, g_doormanref13_Right_c0 l fu (i : Int) = some r ∧ (r = true ↔ ∀ j, i ≤ j → j < l.length → rightB (l.getD j T_api_Ban.d) = true ∧ ∀ q, 0 ≤ q → q < j → cmpN (l.getD q T_api_Ban.d).fNet (l.getD j T_api_Ban.d).fNet < 0) := by
  intro fu
  induction fu with
  | zero => intro _ _ h; omega
  | succ fu ih =>
    intro i hi hf
    simp only [g_doormanref13_Right_c0, cond_decide']
    by_cases h : i < l.length
    · rw [if_pos (by omega), need_yes ⟨by omega, by omega⟩]
      simp only [Int.toNat_natCast]
      rw [ref12_right _ (hok _ (getD_mem l T_api_Ban.d i h))]
      simp only [Option.bind_some]
      obtain ⟨r, r1, r2⟩ := ih (i + 1) (by omega) (by omega)
      have more : (∀ j, i ≤ j → j < l.length → rightB (l.getD j T_api_Ban.d) = true ∧ ∀ q, 0 ≤ q → q < j → cmpN (l.getD q T_api_Ban.d).fNet (l.getD j T_api_Ban.d).fNet < 0) ↔ (rightB (l.getD i T_api_Ban.d) = true ∧ ∀ q, 0 ≤ q → q < i → cmpN (l.getD q T_api_Ban.d).fNet (l.getD i T_api_Ban.d).fNet < 0) ∧ r = true := by
        rw [r2]
        constructor
        · intro q; exact ⟨q i (Nat.le_refl _) h, fun j h1 h2 => q j (by omega) h2⟩
        · rintro ⟨q1, q2⟩ j h1 h2
          by_cases e : j = i
          · subst e; exact q1
          · exact q2 j (by omega) h2
      rw [more]
      cases hb : rightB (l.getD i T_api_Ban.d) with
      | false => exact ⟨false, rfl, by simp⟩
      | true =>
        simp only [Bool.not_true, cond_false]
        rcases rr_in l hl i h (g_doormanref13_Right_c0 l fu) (((i : Int) - (0 : Int)).toNat + 2) 0 (by omega) (by omega) with ⟨q1, q2⟩ | ⟨q1, q2⟩
        · have q2 : g_doormanref13_Right_c1 l (i : Int) (g_doormanref13_Right_c0 l fu) (((i : Int) - (0 : Int)).toNat + 2) 0 = g_doormanref13_Right_c0 l fu ((i + 1 : Nat) : Int) := q2
          rw [q2]
          exact ⟨r, r1, ⟨fun q => ⟨⟨trivial, q1⟩, q⟩, fun q => q.2⟩⟩
        · have q2 : g_doormanref13_Right_c1 l (i : Int) (g_doormanref13_Right_c0 l fu) (((i : Int) - (0 : Int)).toNat + 2) 0 = some false := q2
          rw [q2]
          exact ⟨false, rfl, by simp only [Bool.false_eq_true, false_iff]; exact fun q => q1 q.1.2⟩
    · rw [if_neg (by omega)]
      exact ⟨true, rfl, by simp; intro j h1 h2; omega⟩

theorem ref_bright (l : List T_api_Ban) (hl : l.length ≤ maxLen) (hok : ∀ b ∈ l, b.ok) : ∃ r, g_doormanref13_Right l = some r ∧ (r = true ↔ rightL l) := by
  obtain ⟨r, r1, r2⟩ := rr_out l hl hok ((((l.length : Nat) : Int) - (0 : Int)).toNat + 2) 0 (by omega) (by omega)
  refine ⟨r, r1, r2.trans ?_⟩
  constructor
  · intro h
    exact (chain_iff l).1 fun j h1 h2 => ⟨(h j h1 h2).1, fun h0 => (h j h1 h2).2 (j - 1) (by omega) (by omega)⟩
  · rintro ⟨h1, h2⟩ j _ hj
    refine ⟨h1 _ (getD_mem l _ j hj), fun q _ hq => ?_⟩
    rw [getD_of l _ j hj, getD_of l _ q (by omega)]
    exact List.pairwise_iff_getElem.1 h2 q j (by omega) hj hq

/-! ### Find, Add, Drop -/
def findB (l : List T_api_Ban) (n : T_api_Net) : Int := ixOf (fun x => decide (x.fNet = n)) l 0
def afterB (l : List T_api_Ban) (n : T_api_Net) : Int := ixOf (fun x => decide (0 < cmpN x.fNet n)) l 0

theorem bans_find (l : List T_api_Ban) (n : T_api_Net) (hl : l.length ≤ maxLen) : g_bans_find l n = some (findB l n) := by
  simp only [g_bans_find, g_slices_IndexFunc_api_Ban_api_Ban_141]
  rw [show ((0 : Int)) = ((0 : Nat) : Int) from rfl]
  rw [loop_ix l T_api_Ban.d (fun x => decide (x.fNet = n)) hl (fun fu i => g_slices_IndexFunc_api_Ban_api_Ban_141_c0 l n fu (l.length : Int) i) (fun i => i) ?_ ?_ _ 0 (by omega) (by omega)]
  · rfl
  · intro fu i hi
    simp only [g_slices_IndexFunc_api_Ban_api_Ban_141_c0, g_bans_find_1, cond_decide', Option.bind_some]
    rw [if_pos (by omega), need_yes ⟨by omega, by omega⟩]
    simp
  · intro fu
    simp only [g_slices_IndexFunc_api_Ban_api_Ban_141_c0, cond_decide']
    rw [if_neg (by omega)]

theorem ref_index (l : List T_api_Ban) (n : T_api_Net) (hl : l.length ≤ maxLen) : g_doormanref13_Index l n = some (findB l n) := by
  simp only [g_doormanref13_Index]
  rw [show ((0 : Int)) = ((0 : Nat) : Int) from rfl]
  rw [loop_ix l T_api_Ban.d (fun x => decide (x.fNet = n)) hl (fun fu i => g_doormanref13_Index_c0 l fu i n) (fun i => i) ?_ ?_ _ 0 (by omega) (by omega)]
  · rfl
  · intro fu i hi
    simp only [g_doormanref13_Index_c0, cond_decide']
    rw [if_pos (by omega), need_yes ⟨by omega, by omega⟩]
    simp
  · intro fu
    simp only [g_doormanref13_Index_c0, cond_decide']
    rw [if_neg (by omega)]

theorem bans_after (l : List T_api_Ban) (b : T_api_Ban) (hl : l.length ≤ maxLen) : g_slices_IndexFunc_api_Ban_api_Ban_102 l b = some (afterB l b.fNet) := by
  simp only [g_slices_IndexFunc_api_Ban_api_Ban_102]
  rw [show ((0 : Int)) = ((0 : Nat) : Int) from rfl]
  rw [loop_ix l T_api_Ban.d (fun x => decide (0 < cmpN x.fNet b.fNet)) hl (fun fu i => g_slices_IndexFunc_api_Ban_api_Ban_102_c0 l b fu (l.length : Int) i) (fun i => i) ?_ ?_ _ 0 (by omega) (by omega)]
  · rfl
  · intro fu i hi
    simp only [g_slices_IndexFunc_api_Ban_api_Ban_102_c0, g_bans_Add_1, cidr_cmp, cond_decide', Option.bind_some]
    rw [if_pos (by omega), need_yes ⟨by omega, by omega⟩]
    simp
  · intro fu
    simp only [g_slices_IndexFunc_api_Ban_api_Ban_102_c0, cond_decide']
    rw [if_neg (by omega)]

def putB (l : List T_api_Ban) (b : T_api_Ban) : List T_api_Ban := l.takeWhile (fun x => !decide (0 < cmpN x.fNet b.fNet)) ++ [b] ++ l.dropWhile (fun x => !decide (0 < cmpN x.fNet b.fNet))
/-- Two bans of one subnet, joined. -/
def joinB (x b : T_api_Ban) : T_api_Ban := ⟨x.fNet, if b.fUntil > x.fUntil then b.fUntil else x.fUntil⟩
def addB (l : List T_api_Ban) (b : T_api_Ban) (most : Int) : List T_api_Ban × Int :=
  if rightB b then if 0 ≤ findB l b.fNet then (l.set (findB l b.fNet).toNat (joinB (l.getD (findB l b.fNet).toNat T_api_Ban.d) b), 0) else if (l.length : Int) ≥ most then ([], 5) else (putB l b, 0) else ([], 1)

theorem find_at (l : List T_api_Ban) (n : T_api_Net) (h : 0 ≤ findB l n) : (findB l n).toNat < l.length ∧ (l.getD (findB l n).toNat T_api_Ban.d).fNet = n := by
  obtain ⟨k, h1, h2, ⟨x, h3, h4⟩, _⟩ := ixOf_pos _ l 0 h
  have e : (findB l n).toNat = k := by unfold findB; rw [h2]; omega
  rw [e]
  refine ⟨h1, ?_⟩
  rw [List.getD_eq_getElem?_getD, h3]
  simpa using h4

theorem clone_ban (l : List T_api_Ban) (h : l.length ≤ 10000) : g_slices_Clone_doorman_api_Ban_doorman_api_Ban l = some l := by
  unfold g_slices_Clone_doorman_api_Ban_doorman_api_Ban
  rw [need_yes (small40 (by omega))]

theorem insert_ban (l : List T_api_Ban) (i : Int) (e : T_api_Ban) (h : l.length ≤ 10000) (h0 : 0 ≤ i) (h1 : i.toNat ≤ l.length) : g_slices_Insert_doorman_api_Ban_doorman_api_Ban l i [e] = some (l.take i.toNat ++ [e] ++ l.drop i.toNat) := by
  unfold g_slices_Insert_doorman_api_Ban_doorman_api_Ban
  rw [need_yes ⟨h0, h1, by simp, by simp only [List.length_cons, List.length_nil]; omega, by unfold maxLen; simp only [List.length_cons, List.length_nil]; omega⟩]

theorem bans_add (l : List T_api_Ban) (b : T_api_Ban) (most : Int) (h : l.length ≤ 10000) (hb : b.ok) : g_bans_Add l b most = some (addB l b most) := by
  have hm : l.length ≤ maxLen := by unfold maxLen; omega
  have hs := ixOf_split (fun x : T_api_Ban => decide (0 < cmpN x.fNet b.fNet)) l 0
  have hle := ixOf_le (fun x : T_api_Ban => decide (0 < cmpN x.fNet b.fNet)) l 0
  simp only [g_bans_Add, ban_right b hb, bans_find l _ hm, bans_after l b hm, clone_ban l h, Option.bind_some, addB]
  cases rightB b
  · rfl
  · simp only [Bool.not_true, cond_false, if_true, cond_decide', ge_iff_le]
    by_cases h1 : 0 ≤ findB l b.fNet
    · obtain ⟨f1, f2⟩ := find_at l b.fNet h1
      simp only [h1, if_true]
      rw [need_yes ⟨trivial, by omega⟩]
      simp only [g_ban_Join, f2, decide_true, cond_true, Option.bind_some]
      rw [need_yes ⟨trivial, by omega⟩]
      simp only [joinB, f2]
    · simp only [h1, if_false]
      by_cases h2 : most ≤ (l.length : Int)
      · simp only [h2, if_true]
      · simp only [h2, if_false]
        by_cases h3 : afterB l b.fNet < 0
        · rw [if_pos h3, insert_ban l _ b h (by omega) (by simp)]
          simp only [Option.bind_some]
          obtain ⟨h4, h5⟩ := hs.1 h3
          unfold putB
          rw [h4, h5]
          simp
        · rw [if_neg h3]
          have h3' : 0 ≤ afterB l b.fNet := by omega
          unfold afterB at h3'
          rw [insert_ban l _ b h (by omega) (by unfold afterB; omega)]
          simp only [Option.bind_some]
          obtain ⟨_, h4, h5⟩ := hs.2 h3'
          unfold putB afterB
          rw [h4, h5]
          rfl

theorem ref_bput (l : List T_api_Ban) (e : T_api_Ban) (h : l.length ≤ 10000) : ∀ fu (i : Nat), i ≤ l.length → l.length - i < fu →
    g_doormanref13_Add_c0 l fu (i : Int) e = some (l.take i ++ putB (l.drop i) e, 0) := by
  have hm : l.length ≤ maxLen := by unfold maxLen; omega
  have hfin : ∀ i : Nat, i ≤ l.length → (need (0 ≤ (i : Int) ∧ (i : Int) ≤ ((l.length : Nat) : Int)) <|
      need ((([] : List T_api_Ban) ++ (l.take (i : Int).toNat)).length * 40 ≤ 140737488355328 ∧ (([] : List T_api_Ban) ++ (l.take (i : Int).toNat)).length ≤ maxLen) <|
      need (((([] : List T_api_Ban) ++ (l.take (i : Int).toNat)) ++ ([e] : List T_api_Ban)).length * 40 ≤ 140737488355328 ∧ ((([] : List T_api_Ban) ++ (l.take (i : Int).toNat)) ++ ([e] : List T_api_Ban)).length ≤ maxLen) <|
      need ((((([] : List T_api_Ban) ++ (l.take (i : Int).toNat)) ++ ([e] : List T_api_Ban)) ++ (l.drop (i : Int).toNat)).length * 40 ≤ 140737488355328 ∧ (((([] : List T_api_Ban) ++ (l.take (i : Int).toNat)) ++ ([e] : List T_api_Ban)) ++ (l.drop (i : Int).toNat)).length ≤ maxLen) <|
      some ((((([] : List T_api_Ban) ++ (l.take (i : Int).toNat)) ++ ([e] : List T_api_Ban)) ++ (l.drop (i : Int).toNat)), (0 : Int))) = some (l.take i ++ [e] ++ l.drop i, 0) := by
    intro i hi
    rw [need_yes ⟨by omega, by omega⟩, need_yes (small40 (by simp; omega)), need_yes (small40 (by simp; omega)), need_yes (small40 (by simp; omega))]
    simp
  intro fu
  induction fu with
  | zero => intro i _ h; omega
  | succ fu ih =>
    intro i hi hf
    simp only [g_doormanref13_Add_c0, ref_cmpN, Option.bind_some, cond_decide']
    by_cases hlt : i < l.length
    · rw [if_pos (by omega), need_yes ⟨by omega, by omega⟩]
      have hd := drop_cons l T_api_Ban.d i hlt
      by_cases hc : cmpN (l.getD i T_api_Ban.d).fNet e.fNet ≤ 0
      · rw [if_pos (by simpa using hc), add1 hlt hm, ih (i + 1) (by omega) (by omega)]
        congr 2
        unfold putB
        rw [hd, List.takeWhile_cons, List.dropWhile_cons, if_pos (by simp; simpa using hc), if_pos (by simp; simpa using hc), List.take_succ_eq_append_getElem hlt]
        rw [getD_of l T_api_Ban.d i hlt]
        simp only [List.append_assoc, List.cons_append, List.nil_append]
      · rw [if_neg (by simpa using hc), hfin i hi]
        congr 2
        unfold putB
        rw [hd, List.takeWhile_cons, List.dropWhile_cons, if_neg (by simp; simpa using hc), if_neg (by simp; simpa using hc)]
        simp
    · rw [if_neg (by omega), hfin i hi]
      have : l.drop i = [] := List.drop_eq_nil_of_le (by omega)
      rw [this]
      simp [putB]

theorem ref_badd (l : List T_api_Ban) (b : T_api_Ban) (most : Int) (h : l.length ≤ 10000) (hb : b.ok) : g_doormanref13_Add l b most = some (addB l b most) := by
  have hm : l.length ≤ maxLen := by unfold maxLen; omega
  simp only [g_doormanref13_Add, ref12_right b hb, ref_index l _ hm, Option.bind_some, addB]
  cases rightB b
  · rfl
  · simp only [Bool.not_true, cond_false, if_true, cond_decide', ge_iff_le, List.nil_append]
    by_cases h1 : 0 ≤ findB l b.fNet
    · obtain ⟨f1, f2⟩ := find_at l b.fNet h1
      simp only [h1, if_true]
      rw [need_yes (small40 (by omega)), need_yes ⟨trivial, by omega⟩]
      unfold joinB
      by_cases hg : b.fUntil > (l.getD (findB l b.fNet).toNat T_api_Ban.d).fUntil
      · simp only [hg, if_true]
      · simp only [hg, if_false]
        congr 2
        have e : (⟨(l.getD (findB l b.fNet).toNat T_api_Ban.d).fNet, (l.getD (findB l b.fNet).toNat T_api_Ban.d).fUntil⟩ : T_api_Ban) = l[(findB l b.fNet).toNat] := by rw [getD_of l _ _ f1]
        rw [e, List.set_getElem_self]
    · simp only [h1, if_false]
      by_cases h2 : most ≤ (l.length : Int)
      · simp only [h2, if_true]
      · simp only [h2, if_false]
        have := ref_bput l b h ((((l.length : Nat) : Int) - (0 : Int)).toNat + 2) 0 (by omega) (by omega)
        simpa using this

def dropB (l : List T_api_Ban) (n : T_api_Net) : List T_api_Ban × Int := if findB l n < 0 then ([], 6) else (l.take (findB l n).toNat ++ l.drop ((findB l n).toNat + 1), 0)

theorem delete_ban (l : List T_api_Ban) (i : Nat) (h : l.length ≤ 10000) (hi : i < l.length) : g_slices_Delete_api_Ban_api_Ban l (i : Int) ((i + 1 : Nat) : Int) = some (l.take i ++ l.drop (i + 1)) := by
  unfold g_slices_Delete_api_Ban_api_Ban
  have hal : (appL l i (i + 1) (l.length - (i + 1))).length = l.length := app_len l i (i + 1) (l.length - (i + 1)) ⟨by omega, by omega⟩
  rw [need_yes ⟨by omega, by omega, by omega, by omega⟩, show ((i : Int) == ((i + 1 : Nat) : Int)) = false by rw [beq_eq_false_iff_ne]; omega, cond_false]
  simp only [Int.toNat_natCast, Nat.zero_add]
  rw [need_yes ⟨by omega, by omega, by omega⟩, need_yes ⟨by omega, by omega, by omega⟩, need_yes ⟨by omega, by omega⟩, need_yes ⟨by omega, by omega, by omega⟩, need_yes (by rw [hal]; omega), need_yes (by rw [clear_len _ _ _ _ (by rw [hal]; omega), hal]; omega)]
  congr 1
  unfold clearL
  rw [List.append_assoc, List.take_append_of_le_length (by simp [hal]; omega), List.take_take, Nat.min_self]
  unfold appL
  rw [List.take_append_of_le_length (by simp; omega), List.take_of_length_le (by simp; omega)]
  congr 1
  rw [List.take_of_length_le (by simp)]

theorem bans_drop (l : List T_api_Ban) (n : T_api_Net) (h : l.length ≤ 10000) : g_bans_Drop l n = some (dropB l n) := by
  have hm : l.length ≤ maxLen := by unfold maxLen; omega
  simp only [g_bans_Drop, bans_find l n hm, clone_ban l h, Option.bind_some, cond_decide', dropB]
  by_cases h1 : findB l n < 0
  · rw [if_pos h1, if_pos h1]
  · rw [if_neg h1, if_neg h1]
    obtain ⟨f1, _⟩ := find_at l n (by omega)
    have e : findB l n = (((findB l n).toNat : Nat) : Int) := by omega
    generalize (findB l n).toNat = k at f1 e
    rw [e, add1 f1 hm, delete_ban l k h f1]
    rfl

theorem ref_bdrop (l : List T_api_Ban) (n : T_api_Net) (h : l.length ≤ 10000) : g_doormanref13_Drop l n = some (dropB l n) := by
  have hm : l.length ≤ maxLen := by unfold maxLen; omega
  simp only [g_doormanref13_Drop, ref_index l n hm, Option.bind_some, cond_decide', dropB]
  by_cases h1 : findB l n < 0
  · rw [if_pos h1, if_pos h1]
  · rw [if_neg h1, if_neg h1]
    obtain ⟨f1, _⟩ := find_at l n (by omega)
    have e : findB l n = (((findB l n).toNat : Nat) : Int) := by omega
    generalize (findB l n).toNat = k at f1 e
    rw [e, add1 f1 hm]
    simp only [Int.toNat_natCast, List.nil_append]
    rw [need_yes ⟨by omega, by omega⟩, need_yes (small40 (by simp; omega)), need_yes ⟨by omega, by omega⟩, need_yes (small40 (by simp; omega))]

theorem same_bans (l : List T_api_Ban) (hl : l.length ≤ maxLen) : g_doormansame_Bans l l = some true := by
  have h : ∀ fu (i : Nat), i ≤ l.length → l.length - i < fu → g_doormansame_Bans_c0 l l fu (i : Int) = some true := by
    intro fu
    induction fu with
    | zero => intro _ _ h; omega
    | succ fu ih =>
      intro i hi hf
      simp only [g_doormansame_Bans_c0, cond_decide']
      by_cases h : i < l.length
      · have hpos : (i : Int) < (l.length : Int) := by omega
        simp only [hpos, if_true]
        rw [need_yes ⟨by omega, trivial⟩, need_yes ⟨by omega, trivial⟩]
        simp only [decide_true, Bool.not_true, cond_false]
        rw [add1 h hl]
        exact ih (i + 1) (by omega) (by omega)
      · rw [if_neg (by omega)]
  have := h ((((l.length : Nat) : Int) - (0 : Int)).toNat + 2) 0 (by omega) (by omega)
  simp only [g_doormansame_Bans, bne_self_eq_false, cond_false]
  simpa using this

theorem putB_len (l : List T_api_Ban) (e : T_api_Ban) : (putB l e).length = l.length + 1 := by
  unfold putB
  have := congrArg List.length (List.takeWhile_append_dropWhile (p := fun x : T_api_Ban => !decide (0 < cmpN x.fNet e.fNet)) (l := l))
  simp only [List.length_append, List.length_cons, List.length_nil] at this ⊢
  omega

theorem addB_len (l : List T_api_Ban) (e : T_api_Ban) (most : Int) : (addB l e most).1.length ≤ l.length + 1 := by
  unfold addB
  repeat' split
  all_goals simp [putB_len]
theorem dropB_len (l : List T_api_Ban) (n : T_api_Net) : (dropB l n).1.length ≤ l.length := by
  unfold dropB
  split <;> simp <;> omega

theorem BansTells_plain (l : List T_api_Ban) (b : T_api_Ban) (most : Int) (hl : okL T_api_Ban.ok l) (hb : b.ok) (_ : okI .i64 most) : g_doormanlaw13_BansTells l b most = some true := by
  simp only [g_doormanlaw13_BansTells, awake_eq, cond_decide', Option.bind_some]
  split
  · rfl
  rename_i h
  have h1 : l.length ≤ 10000 := by omega
  have hm : l.length ≤ maxLen := hl.1
  obtain ⟨r, r1, r2⟩ := bans_right l hm hl.2
  obtain ⟨s, s1, s2⟩ := ref_bright l hm hl.2
  have e : r = s := by rw [Bool.eq_iff_iff, r2, s2]
  have a1 := addB_len l b most; have a2 := dropB_len l b.fNet; have a3 := sweepS_len l most
  simp only [bans_add l b most h1 hb, ref_badd l b most h1 hb, bans_drop l _ h1, ref_bdrop l _ h1, bans_sweep l most h1, ref_sweep l most h1, r1, s1, e, Option.bind_some, beq_self_eq_true, cond_true,
    same_bans (addB l b most).1 (by unfold maxLen; omega), same_bans (dropB l b.fNet).1 (by unfold maxLen; omega), same_bans (sweepS l most) (by unfold maxLen; omega)]

end Go.Proofs.Ytgmkffjkidgcnaa
