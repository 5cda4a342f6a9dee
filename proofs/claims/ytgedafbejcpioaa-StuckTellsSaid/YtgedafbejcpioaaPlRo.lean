/-
  PLAIN LAWS: rounds of pairs: whoever waits for nobody is taken out, again and again; and going on from each first number.
-/
import Derived.Test.YtgedafbejcpioaaPlA
import Derived.Test.YtgedafbejcpioaaStkA
namespace Go.Proofs.Ytgedafbejcpioaa
set_option linter.unusedSimpArgs false
set_option linter.unusedVariables false
set_option linter.unusedSectionVars false

abbrev Prs := List (Int × Int)

/-! ### Ways along pairs -/
inductive Way (l : Prs) : Int → Int → Prop where
  | here (a : Int) : Way l a a
  | go {a b c : Int} : (a, b) ∈ l → Way l b c → Way l a c

theorem Way.one {l : Prs} {a b : Int} (h : (a, b) ∈ l) : Way l a b := .go h (.here b)
theorem Way.trans {l : Prs} {a b c : Int} (h : Way l a b) (h2 : Way l b c) : Way l a c := by
  induction h with
  | here => exact h2
  | go h _ ih => exact .go h (ih h2)
theorem Way.mono {l m : Prs} (h : ∀ p ∈ l, p ∈ m) {a b : Int} (hw : Way l a b) : Way m a b := by
  induction hw with
  | here => exact .here _
  | go h1 _ ih => exact .go (h _ h1) ih

def Cyc (l : Prs) : Prop := ∃ p ∈ l, Way l p.2 p.1

/-- Those that somebody waits behind. -/
def peel (l : Prs) : Prs := l.filter fun p => l.any fun q => q.1 == p.2

theorem mem_peel {l : Prs} {p : Int × Int} : p ∈ peel l ↔ p ∈ l ∧ ∃ q ∈ l, q.1 = p.2 := by
  unfold peel
  rw [List.mem_filter, List.any_eq_true]
  simp only [beq_iff_eq]

theorem way_first {l : Prs} {a b : Int} (h : Way l a b) : a = b ∨ ∃ q ∈ l, q.1 = a := by
  cases h with
  | here => exact .inl rfl
  | go h _ => exact .inr ⟨_, h, rfl⟩

theorem way_peel {l : Prs} {a b : Int} (h : Way l a b) (hb : ∃ q ∈ l, q.1 = b) : Way (peel l) a b := by
  induction h with
  | here => exact .here _
  | go h1 h2 ih =>
    refine .go (mem_peel.2 ⟨h1, ?_⟩) (ih hb)
    rcases way_first h2 with e | e
    · rw [e]; exact hb
    · exact e

theorem cyc_peel {l : Prs} : Cyc (peel l) ↔ Cyc l := by
  constructor
  · rintro ⟨p, hp, hw⟩
    exact ⟨p, (mem_peel.1 hp).1, hw.mono fun q hq => (mem_peel.1 hq).1⟩
  · rintro ⟨p, hp, hw⟩
    refine ⟨p, mem_peel.2 ⟨hp, ?_⟩, way_peel hw ⟨p, hp, rfl⟩⟩
    rcases way_first hw with e | e
    · exact ⟨p, hp, e.symm⟩
    · exact e

theorem countP_less {α : Type} (p q : α → Bool) : ∀ (l : List α), (∀ x ∈ l, p x = true → q x = true) → (∃ x ∈ l, p x = false ∧ q x = true) → l.countP p < l.countP q
  | [], _, h => by obtain ⟨x, hx, _⟩ := h; cases hx
  | x :: r, h, he => by
    rw [List.countP_cons, List.countP_cons]
    have hr := List.countP_mono_left (p := p) (q := q) fun y hy => h y (List.mem_cons_of_mem _ hy)
    obtain ⟨y, hy, h1, h2⟩ := he
    rcases List.mem_cons.1 hy with rfl | hy
    · rw [h1, h2]; simp; omega
    · have := countP_less p q r (fun z hz => h z (List.mem_cons_of_mem _ hz)) ⟨y, hy, h1, h2⟩
      have h3 := h x (List.mem_cons_self)
      by_cases h4 : p x = true
      · rw [if_pos h4, if_pos (h3 h4)]; omega
      · rw [if_neg h4]; split <;> omega

theorem cyc_of_next {l : Prs} (hn : ∀ p ∈ l, ∃ q ∈ l, q.1 = p.2) : ∀ (n : Nat) (p : Int × Int), p ∈ l → l.countP (fun q => @decide (Way l p.2 q.1) (Classical.propDecidable _)) ≤ n → Cyc l
  | n, p, hp, hc => by
    obtain ⟨q, hq, e⟩ := hn p hp
    by_cases hw : Way l q.2 q.1
    · exact ⟨q, hq, hw⟩
    · have hlt : l.countP (fun x => @decide (Way l q.2 x.1) (Classical.propDecidable _)) < l.countP (fun x => @decide (Way l p.2 x.1) (Classical.propDecidable _)) := by
        refine countP_less _ _ l (fun x _ hx => ?_) ⟨q, hq, ?_, ?_⟩
        · have hx := @of_decide_eq_true _ (Classical.propDecidable _) hx
          refine @decide_eq_true _ (Classical.propDecidable _) ?_
          rw [← e]
          exact .go hq hx
        · exact @decide_eq_false _ (Classical.propDecidable _) hw
        · refine @decide_eq_true _ (Classical.propDecidable _) ?_
          rw [← e]
          exact .here _
      cases n with
      | zero => omega
      | succ n => exact cyc_of_next hn n q hq (by omega)

theorem peel_len (l : Prs) : (peel l).length ≤ l.length := List.length_filter_le ..

theorem peel_fix {l : Prs} (h : (peel l).length = l.length) : l ≠ [] ↔ Cyc l := by
  have he : peel l = l := List.filter_eq_self.2 (List.length_filter_eq_length_iff.1 h)
  constructor
  · intro hne
    obtain ⟨p, hp⟩ := List.exists_mem_of_ne_nil l hne
    refine cyc_of_next (fun p hp => ?_) _ p hp (Nat.le_refl _)
    rw [← he] at hp
    exact (mem_peel.1 hp).2
  · rintro ⟨p, hp, _⟩ rfl
    cases hp

/-! ### The program's Round -/
section
variable {l : Prs}

theorem rnd_has (c : Prs) (hc : c.length ≤ maxLen) (p : Int × Int) : g_slices_ContainsFunc_2_int_2_int_19 c p = some (c.any fun q => q.1 == p.2) := by
  simp only [g_slices_ContainsFunc_2_int_2_int_19, g_slices_IndexFunc_2_int_2_int_19]
  have := loop_ix c ((0 : Int), (0 : Int)) (fun q => q.1 == p.2) hc (fun fu i => g_slices_IndexFunc_2_int_2_int_19_c0 c p fu (c.length : Int) i) (fun i => i) (fun fu i hi => by
      simp only [g_slices_IndexFunc_2_int_2_int_19_c0, g_stuck_Round_1_1, cond_decide', Option.bind_some]
      rw [if_pos (by omega), need_yes ⟨by omega, by omega⟩]
      simp only [Int.toNat_natCast]
      cases (c.getD i (0, 0)).1 == p.2 <;> rfl) (fun fu => by
      simp only [g_slices_IndexFunc_2_int_2_int_19_c0, cond_decide']
      rw [if_neg (by omega)]) ((((c.length : Nat) : Int) - (0 : Int)).toNat + 2) 0 (by omega) (by omega)
  simp only [Int.natCast_zero, List.drop_zero] at this
  rw [this, Option.bind_some]
  congr 1
  by_cases h : ixOf (fun q : Int × Int => q.1 == p.2) c 0 < 0
  · have hn := (ixOf_neg _ c 0).1 h
    rw [decide_eq_false (by omega)]
    symm
    rw [List.any_eq_false]
    intro x hx
    rw [hn x hx]; simp
  · obtain ⟨k, h1, h2, ⟨x, h3, h4⟩, h5⟩ := ixOf_pos (fun q : Int × Int => q.1 == p.2) c 0 (by omega)
    rw [decide_eq_true (by omega)]
    symm
    rw [List.any_eq_true]
    exact ⟨x, List.mem_of_getElem? h3, h4⟩

theorem rnd_out (c : Prs) (hc : c.length ≤ maxLen) (p : Int × Int) : g_stuck_Round_1 p c = some (!(c.any fun q => q.1 == p.2)) := by
  simp only [g_stuck_Round_1, rnd_has c hc, Option.bind_some]

theorem loop_del' {α : Type} (p : α → Bool) (d : α) (l : List α) (hl : l.length ≤ maxLen) (F : Nat → Int → Int → List α → Option (List α))
    (hs : ∀ fu (k j : Nat) w, w.length = l.length → k ≤ j → j < w.length → F (fu + 1) (k : Int) (j : Int) w = if p (w.getD j d) = true then F fu (k : Int) (add64 (j : Int) 1) w else F fu (add64 (k : Int) 1) (add64 (j : Int) 1) (w.set k (w.getD j d)))
    (he : ∀ fu (k : Nat) w, w.length = l.length → k ≤ w.length → F (fu + 1) (k : Int) (w.length : Int) w = some (w.take k)) :
    ∀ fu (k j : Nat) w, w.length = l.length → k ≤ j → j ≤ l.length → l.length - j < fu → w.take k = (l.take j).filter (fun x => !p x) → w.drop j = l.drop j → F fu (k : Int) (j : Int) w = some (l.filter fun x => !p x) := by
  intro fu
  induction fu with
  | zero => intro k j w _ _ _ h; omega
  | succ fu ih =>
    intro k j w hw hkj hj hf ht hd
    by_cases h : j < l.length
    · rw [hs fu k j w hw hkj (by omega), add1 h hl]
      have hx : w.getD j d = l.getD j d := by
        have := congrArg (fun q : List α => q.getD 0 d) hd
        simpa [List.getD_eq_getElem?_getD] using this
      have htk : l.take (j + 1) = l.take j ++ [l.getD j d] := by
        rw [List.take_succ_eq_append_getElem h, getD_of l d j h]
      have hd1 : w.drop (j + 1) = l.drop (j + 1) := by
        have := congrArg (List.drop 1) hd
        simpa [List.drop_drop, Nat.add_comm] using this
      by_cases hp : p (w.getD j d) = true
      · rw [if_pos hp]
        refine ih k (j + 1) w hw (by omega) (by omega) (by omega) ?_ hd1
        have hf1 : [w.getD j d].filter (fun x => !p x) = [] := by rw [List.filter_cons_of_neg (by rw [hp]; decide)]; rfl
        rw [htk, List.filter_append, ht, ← hx, hf1, List.append_nil]
      · rw [if_neg hp, add1 (n := l.length) (by omega) hl]
        refine ih (k + 1) (j + 1) _ (by simp [hw]) (by omega) (by omega) (by omega) ?_ ?_
        · rw [htk, List.filter_append, ← hx]
          have hf1 : [w.getD j d].filter (fun x => !p x) = [w.getD j d] := by rw [List.filter_cons_of_pos (by simpa using hp)]; rfl
          rw [List.take_succ_eq_append_getElem (by simp; omega), List.take_set_of_le (by omega), ht, hf1]
          simp
        · rw [List.drop_set_of_lt (by omega)]
          exact hd1
    · obtain rfl : j = l.length := by omega
      have e : (l.length : Int) = (w.length : Int) := by rw [hw]
      rw [e, he fu k w hw (by omega), ht, List.take_length]

theorem rnd_del (l c : Prs) (hl : l.length ≤ 1000) (hm : c.length ≤ maxLen) : g_slices_DeleteFunc_2_int_2_int_17 l c = some (l.filter fun p => c.any fun q => q.1 == p.2) := by
  have hL : l.length ≤ maxLen := by unfold maxLen; omega
  have hx : g_slices_IndexFunc_2_int_2_int_17 l c = some (ixOf (fun p => !(c.any fun q => q.1 == p.2)) l 0) := by
    simp only [g_slices_IndexFunc_2_int_2_int_17]
    have := loop_ix l ((0 : Int), (0 : Int)) (fun p => !(c.any fun q => q.1 == p.2)) hL (fun fu i => g_slices_IndexFunc_2_int_2_int_17_c0 l c fu (l.length : Int) i) (fun i => i) (fun fu i hi => by
        simp only [g_slices_IndexFunc_2_int_2_int_17_c0, rnd_out c hm, cond_decide', Option.bind_some]
        rw [if_pos (by omega), need_yes ⟨by omega, by omega⟩]
        simp only [Int.toNat_natCast]
        generalize (!(c.any fun q => q.1 == (l.getD i (0, 0)).2)) = q
        cases q <;> rfl) (fun fu => by
        simp only [g_slices_IndexFunc_2_int_2_int_17_c0, cond_decide']
        rw [if_neg (by omega)]) ((((l.length : Nat) : Int) - (0 : Int)).toNat + 2) 0 (by omega) (by omega)
    simp only [Int.natCast_zero, List.drop_zero] at this
    rw [this]
  have hfin : (fun p : Int × Int => c.any fun q => q.1 == p.2) = fun p => !(!(c.any fun q => q.1 == p.2)) := by funext p; rw [Bool.not_not]
  simp only [g_slices_DeleteFunc_2_int_2_int_17, hx, Option.bind_some]
  rw [hfin]
  generalize hP : (fun p : Int × Int => !(c.any fun q => q.1 == p.2)) = P
  have hP' : ∀ p : Int × Int, (!(c.any fun q => q.1 == p.2)) = P p := fun p => by rw [← hP]
  have hfin2 : (fun p : Int × Int => !(!(c.any fun q => q.1 == p.2))) = fun p => !(P p) := by funext p; rw [hP' p]
  rw [hfin2]
  by_cases h : ixOf P l 0 < 0
  · have hn := (ixOf_neg _ l 0).1 h
    have e : (ixOf P l 0 == -1) = true := by
      have := ixOf_ge P l 0
      rw [beq_iff_eq]; omega
    rw [e, cond_true]
    congr 1
    symm
    rw [List.filter_eq_self]
    intro x hx
    rw [hn x hx]
    rfl
  · obtain ⟨k, h1, h2, ⟨x, h3, h4⟩, h5⟩ := ixOf_pos P l 0 (by omega)
    have e : (ixOf P l 0 == -1) = false := by
      rw [beq_eq_false_iff_ne]; omega
    rw [e, cond_false, h2, Nat.zero_add, add1 h1 hL]
    refine loop_del' P ((0 : Int), (0 : Int)) l hL (fun fu a b w => g_slices_DeleteFunc_2_int_2_int_17_c0 c fu a b w) ?_ ?_ _ k (k + 1) l rfl (by omega) (by omega) (by omega) ?_ rfl
    · intro fu a b w hw hab hb
      simp only [g_slices_DeleteFunc_2_int_2_int_17_c0, rnd_out c hm, cond_decide', Option.bind_some]
      rw [if_pos (by omega), need_yes ⟨by omega, by omega⟩]
      simp only [Int.toNat_natCast]
      rw [hP']
      cases hq : P (w.getD b ((0 : Int), (0 : Int)))
      · simp only [Bool.not_false, cond_true]
        rw [need_yes ⟨by omega, by omega⟩, if_neg (by simp)]
      · simp only [Bool.not_true, cond_false]
        rw [if_pos trivial]
    · intro fu a w hw ha
      simp only [g_slices_DeleteFunc_2_int_2_int_17_c0, cond_decide']
      rw [if_neg (by omega), need_yes ⟨by omega, by omega, by omega⟩]
      simp only [Int.toNat_natCast]
      rw [need_yes (by omega), need_yes ⟨by omega, by omega, by omega⟩, need_yes (by rw [clear_len _ _ _ _ (by omega)]; exact ha)]
      congr 1
      simp only [clearL, List.append_assoc]
      rw [List.take_append_of_le_length (by simp; omega), List.take_take, Nat.min_self]
    · rw [List.take_succ_eq_append_getElem h1, List.filter_append]
      have e1 : (l.take k).filter (fun x => !P x) = l.take k := by
        rw [List.filter_eq_self]
        intro y hy
        obtain ⟨j, hj, rfl⟩ := List.getElem_of_mem hy
        have hjk : j < k := by simp at hj; omega
        obtain ⟨z, hz1, hz2⟩ := h5 j hjk
        have : (l.take k)[j] = z := by
          rw [List.getElem_take]
          rw [List.getElem?_eq_getElem (by omega)] at hz1
          exact Option.some.inj hz1
        rw [this, hz2]
        rfl
      have e2 : [l[k]].filter (fun x => !P x) = [] := by
        have : l[k] = x := by rw [List.getElem?_eq_getElem h1] at h3; exact Option.some.inj h3
        rw [List.filter_cons_of_neg (by rw [this, h4]; decide)]; rfl
      rw [e1, e2, List.append_nil]

theorem rnd_loop : ∀ (n fu : Nat) (l : Prs), l.length ≤ n → n < fu → n ≤ 1000 → ∃ b, g_stuck_Round_c0 fu l = some b ∧ (b = true ↔ Cyc l)
  | n, 0, l, _, h, _ => by omega
  | n, fu + 1, l, hl, hf, hn => by
    have hL : l.length ≤ maxLen := by unfold maxLen; omega
    simp only [g_stuck_Round_c0, g_slices_Clone_2_int_2_int]
    rw [need_yes ⟨by omega, hL⟩, Option.bind_some, rnd_del l l (by omega) hL, Option.bind_some]
    show ∃ b, (bif (((peel l).length : Int) == (l.length : Int)) then some (decide (((l.length : Nat) : Int) > 0)) else g_stuck_Round_c0 fu (peel l)) = some b ∧ (b = true ↔ Cyc l)
    by_cases h : (peel l).length = l.length
    · rw [show (((peel l).length : Int) == (l.length : Int)) = true by rw [beq_iff_eq]; omega, cond_true]
      refine ⟨_, rfl, ?_⟩
      rw [← peel_fix h, decide_eq_true_iff]
      cases l <;> simp
    · rw [show (((peel l).length : Int) == (l.length : Int)) = false by rw [beq_eq_false_iff_ne]; omega, cond_false]
      have := peel_len l
      cases n with
      | zero => omega
      | succ n =>
        obtain ⟨b, h1, h2⟩ := rnd_loop n fu (peel l) (by omega) (by omega) (by omega)
        exact ⟨b, h1, by rw [h2, cyc_peel]⟩

theorem min_take (l : Prs) (hl : l.length ≤ 80) : (if (64 : Int) < ((l.length : Nat) : Int) then (64 : Int) else ((l.length : Nat) : Int)).toNat = min 64 l.length := by split <;> omega

theorem round_prog (l : Prs) (hl : l.length ≤ 80) : ∃ b, g_stuck_Round l = some b ∧ (b = true ↔ Cyc (l.take 64)) := by
  have e : l.take (min 64 l.length) = l.take 64 := by
    rcases Nat.le_total 64 l.length with h | h
    · rw [Nat.min_eq_left h]
    · rw [Nat.min_eq_right h, List.take_length, List.take_of_length_le h]
  simp only [g_stuck_Round, g_slices_Clone_2_int_2_int]
  rw [need_yes (by split <;> omega), min_take l hl, e, need_yes (by simp only [maxLen, List.length_take]; omega), Option.bind_some]
  exact rnd_loop 64 _ _ (by simp; omega) (by omega) (by omega)
/-! ### The document's Round -/
theorem refhas (l : List Int) (n : Int) (hl : l.length ≤ maxLen) : g_doormanref48_has l n = some (l.contains n) := by
  simp only [g_doormanref48_has]
  have := loop_ix l (0 : Int) (fun q => q == n) hl (fun fu i => g_doormanref48_has_c0 l n fu i) (fun i => decide (0 ≤ i)) (fun fu i hi => by
      simp only [g_doormanref48_has_c0, cond_decide']
      rw [if_pos (by omega), need_yes ⟨by omega, by omega⟩]
      simp only [Int.toNat_natCast]
      rw [decide_eq_true (show (0 : Int) ≤ (i : Int) by omega)]
      cases l.getD i 0 == n <;> rfl) (fun fu => by
      simp only [g_doormanref48_has_c0, cond_decide']
      rw [if_neg (by omega)]
      rfl) ((((l.length : Nat) : Int) - (0 : Int)).toNat + 2) 0 (by omega) (by omega)
  simp only [Int.natCast_zero, List.drop_zero] at this
  rw [this]
  congr 1
  by_cases h : ixOf (fun q : Int => q == n) l 0 < 0
  · have hn := (ixOf_neg _ l 0).1 h
    rw [decide_eq_false (by omega)]
    symm
    rw [List.contains_eq_any_beq, List.any_eq_false]
    intro x hx e
    have := hn x hx
    rw [beq_eq_false_iff_ne] at this
    exact this (beq_iff_eq.1 e).symm
  · obtain ⟨k, h1, h2, ⟨x, h3, h4⟩, h5⟩ := ixOf_pos (fun q : Int => q == n) l 0 (by omega)
    rw [decide_eq_true (by omega)]
    symm
    rw [List.contains_eq_any_beq, List.any_eq_true]
    exact ⟨x, List.mem_of_getElem? h3, by rw [beq_iff_eq] at h4 ⊢; exact h4.symm⟩

/-- What a list of numbers grows by one pair. -/
def grow1 (x : Int) (w : List Int) (p : Int × Int) : List Int := if p.1 = x ∧ p.2 ∉ w then w ++ [p.2] else w

theorem grow1_len (x : Int) (w : List Int) (p : Int × Int) : (grow1 x w p).length ≤ w.length + 1 := by unfold grow1; split <;> simp

theorem grow1_get (x : Int) (w : List Int) (p : Int × Int) (i : Nat) (h : i < w.length) : (grow1 x w p).getD i 0 = w.getD i 0 ∧ i < (grow1 x w p).length := by
  unfold grow1
  split
  · simp only [List.getD_eq_getElem?_getD, List.length_append]
    rw [List.getElem?_append_left h]
    exact ⟨rfl, by omega⟩
  · exact ⟨rfl, h⟩

/-- Going on from the k-th, with the pairs from the m-th on. -/
theorem ref_c3 (l : Prs) (v3 : Int) (hl : l.length ≤ 64) (k : Nat) (k1 : Int → Option Bool) (k2 : Int → List Int → Option Bool) (x : Int) :
    ∀ (n fu m : Nat) (w : List Int), l.length - m = n → m ≤ l.length → n < fu → w.getD k 0 = x → k < w.length → w.length ≤ 200 + m →
      g_doormanref48_Round_c3 l v3 (k : Int) k1 k2 fu (m : Int) w = k2 (add64 (k : Int) 1) ((l.drop m).foldl (grow1 x) w)
  | n, 0, m, w, _, _, h, _, _, _ => by omega
  | 0, fu + 1, m, w, hn, hm, hf, hx, hk, hw => by
    simp only [g_doormanref48_Round_c3]
    rw [cond_decide', if_neg (by omega), List.drop_of_length_le (by omega)]
    rfl
  | n + 1, fu + 1, m, w, hn, hm, hf, hx, hk, hw => by
    have hm1 : m < l.length := by omega
    have hL : w.length ≤ maxLen := by unfold maxLen; omega
    simp only [g_doormanref48_Round_c3]
    have e1 : add64 (m : Int) 1 = ((m + 1 : Nat) : Int) := add1 (n := l.length) hm1 (by unfold maxLen; omega)
    rw [cond_decide', if_pos (by omega), need_yes (by omega), need_yes (by omega)]
    simp only [Int.toNat_natCast]
    rw [hx, refhas w _ hL, Option.bind_some, e1, drop_cons l ((0 : Int), (0 : Int)) m hm1, List.foldl_cons]
    have hg := grow1_get x w (l.getD m (0, 0)) k hk
    have hgl := grow1_len x w (l.getD m (0, 0))
    have ih := ref_c3 l v3 hl k k1 k2 x n fu (m + 1) (grow1 x w (l.getD m (0, 0))) (by omega) (by omega) (by omega) (by rw [hg.1, hx]) hg.2 (by omega)
    by_cases h1 : (l.getD m ((0 : Int), (0 : Int))).1 = x
    · rw [show ((l.getD m ((0 : Int), (0 : Int))).1 == x) = true by rw [beq_iff_eq]; exact h1, cond_true]
      by_cases h2 : (l.getD m ((0 : Int), (0 : Int))).2 ∈ w
      · rw [show w.contains (l.getD m ((0 : Int), (0 : Int))).2 = true by rw [List.contains_iff_mem]; exact h2]
        simp only [Bool.not_true, cond_false]
        rw [← ih]
        unfold grow1
        rw [if_neg (by intro h; exact h.2 h2)]
      · rw [show w.contains (l.getD m ((0 : Int), (0 : Int))).2 = false by rw [← Bool.not_eq_true, List.contains_iff_mem]; exact h2]
        simp only [Bool.not_false, cond_true]
        rw [need_yes (by simp only [List.length_append, List.length_singleton, maxLen]; omega), ← ih]
        unfold grow1
        rw [if_pos ⟨h1, h2⟩]
    · rw [show ((l.getD m ((0 : Int), (0 : Int))).1 == x) = false by rw [beq_eq_false_iff_ne]; exact h1, cond_false, ← ih]
      unfold grow1
      rw [if_neg (by intro h; exact h1 h.1)]

/-- What holds of the numbers seen, the first k of which were gone on from. -/
structure Seen (l : Prs) (s t : Int) (k : Nat) (w : List Int) : Prop where
  nd : w.Nodup
  sub : ∀ x ∈ w, x ∈ l.map (·.2)
  way : ∀ x ∈ w, Way l s x
  fst : s ∈ w
  past : ∀ i, i < k → w.getD i 0 ≠ t
  shut : ∀ i, i < k → ∀ p ∈ l, p.1 = w.getD i 0 → p.2 ∈ w
  le : k ≤ w.length

theorem fold_grow (l : Prs) (s x : Int) (hx : Way l s x) : ∀ (m : Prs) (w : List Int), (∀ p ∈ m, p ∈ l) → w.Nodup → (∀ y ∈ w, y ∈ l.map (·.2)) → (∀ y ∈ w, Way l s y) →
    (m.foldl (grow1 x) w).Nodup ∧ (∀ y ∈ m.foldl (grow1 x) w, y ∈ l.map (·.2)) ∧ (∀ y ∈ m.foldl (grow1 x) w, Way l s y) ∧ (∃ r, m.foldl (grow1 x) w = w ++ r) ∧ (∀ p ∈ m, p.1 = x → p.2 ∈ m.foldl (grow1 x) w)
  | [], w, _, h1, h2, h3 => ⟨h1, h2, h3, ⟨[], by simp⟩, fun p hp => by cases hp⟩
  | p :: m, w, hm, h1, h2, h3 => by
    rw [List.foldl_cons]
    have hp : p ∈ l := hm p List.mem_cons_self
    have key : (grow1 x w p).Nodup ∧ (∀ y ∈ grow1 x w p, y ∈ l.map (·.2)) ∧ (∀ y ∈ grow1 x w p, Way l s y) ∧ (∃ r, grow1 x w p = w ++ r) ∧ (p.1 = x → p.2 ∈ grow1 x w p) := by
      unfold grow1
      split
      · rename_i h
        refine ⟨?_, fun y hy => ?_, fun y hy => ?_, ⟨_, rfl⟩, fun _ => by simp⟩
        · rw [List.nodup_append]
          refine ⟨h1, by simp, fun a ha b hb => ?_⟩
          rw [List.mem_singleton] at hb
          subst hb
          rintro rfl
          exact h.2 ha
        · rcases List.mem_append.1 hy with hy | hy
          · exact h2 y hy
          · rw [List.mem_singleton] at hy
            subst hy
            exact List.mem_map.2 ⟨p, hp, rfl⟩
        · rcases List.mem_append.1 hy with hy | hy
          · exact h3 y hy
          · rw [List.mem_singleton] at hy
            subst hy
            refine hx.trans (.one ?_)
            rw [← h.1]
            exact hp
      · rename_i h
        refine ⟨h1, h2, h3, ⟨[], by simp⟩, fun e => ?_⟩
        exact Classical.byContradiction fun hq => h ⟨e, hq⟩
    obtain ⟨k1, k2, k3, ⟨r, k4⟩, k5⟩ := key
    obtain ⟨j1, j2, j3, ⟨r2, j4⟩, j5⟩ := fold_grow l s x hx m (grow1 x w p) (fun q hq => hm q (List.mem_cons_of_mem _ hq)) k1 k2 k3
    refine ⟨j1, j2, j3, ⟨r ++ r2, by rw [j4, k4, List.append_assoc]⟩, fun q hq e => ?_⟩
    rcases List.mem_cons.1 hq with rfl | hq
    · rw [j4]
      exact List.mem_append_left _ (k5 e)
    · exact j5 q hq e

theorem Seen.next {l : Prs} {s t : Int} {k : Nat} {w : List Int} (h : Seen l s t k w) (hk : k < w.length) (ht : w.getD k 0 ≠ t) : Seen l s t (k + 1) (l.foldl (grow1 (w.getD k 0)) w) := by
  have hx : Way l s (w.getD k 0) := h.way _ (getD_mem w 0 k hk)
  obtain ⟨j1, j2, j3, ⟨r, j4⟩, j5⟩ := fold_grow l s _ hx l w (fun _ h => h) h.nd h.sub h.way
  have hg : ∀ i, i < w.length → (l.foldl (grow1 (w.getD k 0)) w).getD i 0 = w.getD i 0 := fun i hi => by
    rw [j4]
    simp only [List.getD_eq_getElem?_getD]
    rw [List.getElem?_append_left hi]
  refine ⟨j1, j2, j3, by rw [j4]; exact List.mem_append_left _ h.fst, fun i hi => ?_, fun i hi p hp e => ?_, by rw [j4]; simp; omega⟩
  · rw [hg i (by omega)]
    by_cases e : i = k
    · rw [e]; exact ht
    · exact h.past i (by omega)
  · rw [hg i (by omega)] at e
    by_cases e2 : i = k
    · rw [e2] at e
      exact j5 p hp e
    · rw [j4]
      exact List.mem_append_left _ (h.shut i (by omega) p hp e)

theorem Seen.len {l : Prs} {s t : Int} {k : Nat} {w : List Int} (h : Seen l s t k w) : w.length ≤ l.length := by
  have := List.Nodup.length_le_of_subset h.nd (l₂ := l.map (·.2)) (fun x hx => h.sub x hx)
  rwa [List.length_map] at this

theorem Seen.done {l : Prs} {s t : Int} {w : List Int} (h : Seen l s t w.length w) : ¬ Way l s t := by
  intro hw
  have key : ∀ a b, Way l a b → a ∈ w → b ∈ w := by
    intro a b ha
    induction ha with
    | here => exact id
    | go h1 _ ih =>
      intro ha
      obtain ⟨i, hi, e⟩ := List.getElem_of_mem ha
      exact ih (h.shut i hi _ h1 (by rw [getD_of w 0 i hi]; exact e.symm))
  obtain ⟨i, hi, e⟩ := List.getElem_of_mem (key s t hw h.fst)
  exact h.past i hi (by rw [getD_of w 0 i hi]; exact e)

/-- Going on from the i-th pair's second number. -/
theorem ref_c2 (l : Prs) (hl : l.length ≤ 64) (i : Nat) (hi : i < l.length) (k1 : Int → Option Bool) :
    ∀ (n fu k : Nat) (w : List Int), 70 - k = n → n < fu → Seen l (l.getD i (0, 0)).2 (l.getD i (0, 0)).1 k w →
      ∃ r, g_doormanref48_Round_c2 l (i : Int) k1 fu (k : Int) w = r ∧ (Way l (l.getD i (0, 0)).2 (l.getD i (0, 0)).1 ∧ r = some true ∨ ¬ Way l (l.getD i (0, 0)).2 (l.getD i (0, 0)).1 ∧ r = k1 (add64 (i : Int) 1))
  | n, 0, k, w, _, h, _ => by omega
  | n, fu + 1, k, w, hn, hf, hs => by
    have hlen := hs.len
    simp only [g_doormanref48_Round_c2]
    by_cases hk : k < w.length
    · rw [cond_decide', if_pos (by omega), cond_decide', if_pos (by omega), need_yes (by omega), need_yes (by omega)]
      simp only [Int.toNat_natCast]
      by_cases h : w.getD k 0 = (l.getD i ((0 : Int), (0 : Int))).1
      · rw [show (w.getD k 0 == (l.getD i ((0 : Int), (0 : Int))).1) = true by rw [beq_iff_eq]; exact h, cond_true]
        refine ⟨_, rfl, .inl ⟨?_, rfl⟩⟩
        rw [← h]
        exact hs.way _ (getD_mem w 0 k hk)
      · rw [show (w.getD k 0 == (l.getD i ((0 : Int), (0 : Int))).1) = false by rw [beq_eq_false_iff_ne]; exact h, cond_false]
        have := ref_c3 l (i : Int) hl k k1 (g_doormanref48_Round_c2 l (i : Int) k1 fu) (w.getD k 0) l.length ((((l.length : Nat) : Int) - (0 : Int)).toNat + 2) 0 w (by omega) (by omega) (by omega) rfl hk (by omega)
        simp only [Int.natCast_zero, List.drop_zero] at this
        rw [this, add1 (n := w.length) hk (by unfold maxLen; omega)]
        exact ref_c2 l hl i hi k1 (n - 1) fu (k + 1) _ (by omega) (by omega) (hs.next hk h)
    · have e : k = w.length := by have := hs.le; omega
      rw [cond_decide', if_neg (by omega)]
      subst e
      exact ⟨_, rfl, .inr ⟨hs.done, rfl⟩⟩

theorem ref_c1 (l : Prs) (hl : l.length ≤ 64) : ∀ (n fu i : Nat), l.length - i = n → n < fu → i ≤ l.length →
    ∃ b, g_doormanref48_Round_c1 l fu (i : Int) = some b ∧ (b = true ↔ ∃ p ∈ l.drop i, Way l p.2 p.1)
  | n, 0, i, _, h, _ => by omega
  | 0, fu + 1, i, hn, hf, hi => by
    simp only [g_doormanref48_Round_c1]
    rw [cond_decide', if_neg (by omega), List.drop_of_length_le (by omega)]
    exact ⟨_, rfl, by simp⟩
  | n + 1, fu + 1, i, hn, hf, hi => by
    have hi1 : i < l.length := by omega
    simp only [g_doormanref48_Round_c1]
    rw [cond_decide', if_pos (by omega), need_yes (by omega)]
    simp only [Int.toNat_natCast]
    have hs : Seen l (l.getD i (0, 0)).2 (l.getD i (0, 0)).1 0 [(l.getD i (0, 0)).2] := by
      refine ⟨by simp, fun x hx => ?_, fun x hx => ?_, by simp, fun i hi => by omega, fun i hi => by omega, by simp⟩
      · rw [List.mem_singleton.1 hx]
        exact List.mem_map.2 ⟨_, getD_mem l (0, 0) i hi1, rfl⟩
      · rw [List.mem_singleton.1 hx]
        exact .here _
    obtain ⟨r, h1, h2⟩ := ref_c2 l hl i hi1 (g_doormanref48_Round_c1 l fu) 70 (((70 : Int) - (0 : Int)).toNat + 2) 0 _ (by omega) (by omega) hs
    simp only [Int.natCast_zero] at h1
    rw [h1, drop_cons l ((0 : Int), (0 : Int)) i hi1]
    simp only [List.mem_cons, exists_eq_or_imp]
    rcases h2 with ⟨hw, rfl⟩ | ⟨hw, rfl⟩
    · exact ⟨true, rfl, fun _ => .inl hw, fun _ => rfl⟩
    · rw [add1 (n := l.length) hi1 (by unfold maxLen; omega)]
      obtain ⟨b, h3, h4⟩ := ref_c1 l hl n fu (i + 1) (by omega) (by omega) (by omega)
      exact ⟨b, h3, h4.trans ⟨.inr, fun h => h.resolve_left hw⟩⟩

theorem round_ref (l : Prs) (hl : l.length ≤ 80) : ∃ b, g_doormanref48_Round l = some b ∧ (b = true ↔ Cyc (l.take 64)) := by
  simp only [g_doormanref48_Round, g_doormanref48_Round_c0]
  by_cases h : l.length > 64
  · rw [cond_decide', if_pos (by omega), need_yes (by omega)]
    obtain ⟨b, h1, h2⟩ := ref_c1 (l.take 64) (by simp; omega) (l.take 64).length ((((l.take 64).length : Nat) : Int) - (0 : Int)).toNat.succ.succ 0 (by omega) (by omega) (by omega)
    exact ⟨b, h1, h2⟩
  · rw [cond_decide', if_neg (by omega), List.take_of_length_le (by omega)]
    obtain ⟨b, h1, h2⟩ := ref_c1 l (by omega) l.length ((((l.length : Nat) : Int) - (0 : Int)).toNat + 2) 0 (by omega) (by omega) (by omega)
    exact ⟨b, h1, h2⟩

theorem round_same (l : Prs) (hl : l.length ≤ 80) : ∃ b, g_stuck_Round l = some b ∧ g_doormanref48_Round l = some b := by
  obtain ⟨b, h1, h2⟩ := round_prog l hl
  obtain ⟨c, h3, h4⟩ := round_ref l hl
  refine ⟨b, h1, ?_⟩
  rw [h3]
  congr 1
  rw [Bool.eq_iff_iff, h2, h4]
end

end Go.Proofs.Ytgedafbejcpioaa
