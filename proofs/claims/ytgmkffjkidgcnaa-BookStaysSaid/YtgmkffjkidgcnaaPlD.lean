/-
  PLAIN LAWS: the three statements of the address book.
-/
import Derived.Test.YtgmkffjkidgcnaaPlC
namespace Go.Proofs.Ytgmkffjkidgcnaa
set_option linter.unusedSimpArgs false
set_option linter.unusedVariables false

theorem putS_len (l : List T_api_Entry) (e : T_api_Entry) : (putS l e).length = l.length + 1 := by
  unfold putS
  have := congrArg List.length (List.takeWhile_append_dropWhile (p := fun x : T_api_Entry => !decide (0 < cmpE x.fEnd e.fEnd)) (l := l))
  simp only [List.length_append, List.length_cons, List.length_nil] at this ⊢
  omega

theorem addS_len (l : List T_api_Entry) (e : T_api_Entry) (most : Int) : (addS l e most).1.length ≤ l.length + 1 := by
  unfold addS
  repeat' split
  all_goals simp [putS_len]

theorem setS_len (l : List T_api_Entry) (e : T_api_Entry) : (setS l e).length = l.length := by
  unfold setS; split <;> simp

theorem BookTells_plain (l : List T_api_Entry) (e : T_api_Entry) (most : Int) (hl : okL T_api_Entry.ok l) (he : e.ok) (_ : okI .i64 most) : g_doormanlaw26_BookTells l e most = some true := by
  simp only [g_doormanlaw26_BookTells, awake_eq, cond_decide', Option.bind_some]
  split
  · rfl
  rename_i h
  have h1 : l.length ≤ 10000 := by omega
  have hm : l.length ≤ maxLen := small_len (by omega)
  simp only [book_add l e most h1 he, ref_add l e most h1 he, book_right l hm hl.2, ref_bookRight l hm hl.2, book_find l _ hm, ref_find l _ hm, Option.bind_some, beq_self_eq_true, cond_true,
    same_eq (addS l e most).1 _ (by have := addS_len l e most; omega), decide_true, book_set l e h1, ref_set l e h1, same_eq (setS l e) _ (by rw [setS_len]; omega), book_count l _ hm, ref_count l _ hm]

/-! ### Down -/
theorem contains_eq (l : List T_api_End) (e : T_api_End) (hl : l.length ≤ maxLen) : g_slices_Contains_api_End_api_End l e = some (l.contains e) := by
  simp only [g_slices_Contains_api_End_api_End, g_slices_Index_api_End_api_End]
  have := loop_ix l T_api_End.d (fun x => decide (e = x)) hl (fun fu i => g_slices_Index_api_End_api_End_c0 l fu (l.length : Int) i e) (fun i => i) (fun fu i hi => by
      simp only [g_slices_Index_api_End_api_End_c0, cond_decide']
      rw [if_pos (by omega), need_yes ⟨by omega, by omega⟩]
      simp) (fun fu => by
      simp only [g_slices_Index_api_End_api_End_c0, cond_decide']
      rw [if_neg (by omega)]) ((((l.length : Nat) : Int) - (0 : Int)).toNat + 2) 0 (by omega) (by omega)
  simp only [Int.natCast_zero, List.drop_zero] at this
  rw [this]
  simp only [Option.bind_some, Option.some.injEq]
  rw [Bool.eq_iff_iff, decide_eq_true_eq, List.contains_iff_mem]
  have hn := ixOf_neg (fun x => decide (e = x)) l 0
  constructor
  · intro h
    obtain ⟨k, h1, _, ⟨x, h3, h4⟩, _⟩ := ixOf_pos _ l 0 h
    rw [of_decide_eq_true h4]
    exact List.mem_of_getElem? h3
  · intro h
    apply Int.not_lt.1
    intro h1
    have := hn.1 h1 e h
    simp at this

theorem has_eq (l : List T_api_End) (e : T_api_End) (hl : l.length ≤ maxLen) : g_doormanref26_has l e = some (l.contains e) := by
  simp only [g_doormanref26_has]
  have := loop_ix l T_api_End.d (fun x => decide (x = e)) hl (fun fu i => g_doormanref26_has_c0 l fu i e) (fun i => decide (0 ≤ i)) (fun fu i hi => by
      simp only [g_doormanref26_has_c0, cond_decide']
      rw [if_pos (by omega), need_yes ⟨by omega, by omega⟩]
      simp) (fun fu => by
      simp only [g_doormanref26_has_c0, cond_decide']
      rw [if_neg (by omega)]
      rfl) ((((l.length : Nat) : Int) - (0 : Int)).toNat + 2) 0 (by omega) (by omega)
  simp only [Int.natCast_zero, List.drop_zero] at this
  rw [this]
  congr 1
  rw [Bool.eq_iff_iff, decide_eq_true_eq, List.contains_iff_mem]
  have hn := ixOf_neg (fun x => decide (x = e)) l 0
  constructor
  · intro h
    obtain ⟨k, h1, _, ⟨x, h3, h4⟩, _⟩ := ixOf_pos _ l 0 h
    rw [← of_decide_eq_true h4]
    exact List.mem_of_getElem? h3
  · intro h
    apply Int.not_lt.1
    intro h1
    have := hn.1 h1 e h
    simp at this

def downE (ends : List T_api_End) (x : T_api_Entry) : T_api_Entry := if x.fState = 3 then (if ends.contains x.fEnd then ⟨x.fEnd, 1, x.fFails, x.fNext⟩ else x) else x

theorem set_self {α : Type} (l : List α) (d : α) (i : Nat) (h : i < l.length) : l.set i (l.getD i d) = l := by
  apply List.ext_getElem?
  intro k
  rw [List.getElem?_set]
  split
  · rename_i e; subst e; rw [getD_of l d i h, List.getElem?_eq_getElem h]
  · rfl

theorem book_down (l : List T_api_Entry) (ends : List T_api_End) (h : l.length ≤ 10000) (hm : ends.length ≤ maxLen) : g_book_Down l ends = some (l.map (downE ends)) := by
  simp only [g_book_Down, clone_eq l h, Option.bind_some]
  have := loop_map (downE ends) T_api_Entry.d l.length (small_len (by omega)) (fun fu i w => g_book_Down_c0 ends fu (l.length : Int) i w) some (fun fu i w hw hi => by
      simp only [g_book_Down_c0, cond_decide', contains_eq ends _ hm, g_entry_Down, Option.bind_some]
      rw [if_pos (by omega), need_yes ⟨by omega, by omega⟩]
      simp only [Int.toNat_natCast, downE, Bool.cond_eq_ite, beq_iff_eq]
      split
      · split
        · rfl
        · rw [set_self w _ i (by omega)]
      · rw [set_self w _ i (by omega)]) (fun fu w hw => by
      simp only [g_book_Down_c0, cond_decide']
      rw [if_neg (by omega)]) ((((l.length : Nat) : Int) - (0 : Int)).toNat + 2) 0 l rfl (by omega) (by omega)
  simpa using this

theorem ref_down (l : List T_api_Entry) (ends : List T_api_End) (h : l.length ≤ 10000) (hm : ends.length ≤ maxLen) : g_doormanref26_Down l ends = some (l.map (downE ends)) := by
  simp only [g_doormanref26_Down, List.nil_append]
  rw [need_yes ⟨by omega, small_len (by omega)⟩]
  have := loop_map (downE ends) T_api_Entry.d l.length (small_len (by omega)) (fun fu i w => g_doormanref26_Down_c0 ends fu i w) some (fun fu i w hw hi => by
      simp only [g_doormanref26_Down_c0, cond_decide', has_eq ends _ hm, Option.bind_some]
      rw [if_pos (by omega), need_yes ⟨by omega, by omega⟩]
      simp only [Int.toNat_natCast, downE, Bool.cond_eq_ite, beq_iff_eq]
      split
      · split
        · rfl
        · rw [set_self w _ i (by omega)]
      · rw [set_self w _ i (by omega)]) (fun fu w hw => by
      simp only [g_doormanref26_Down_c0, cond_decide']
      rw [if_neg (by omega)]) ((((l.length : Nat) : Int) - (0 : Int)).toNat + 2) 0 l rfl (by omega) (by omega)
  simpa using this

theorem BookDowns_plain (l : List T_api_Entry) (ends : List T_api_End) (hl : okL T_api_Entry.ok l) (he : okL T_api_End.ok ends) : g_doormanlaw26_BookDowns l ends = some true := by
  simp only [g_doormanlaw26_BookDowns, awake_eq, Option.bind_some, Bool.cond_eq_ite, decide_eq_true_eq]
  by_cases h1 : (l.length : Int) > 60
  · simp [h1]
  by_cases h2 : (ends.length : Int) > 60
  · simp [h1, h2]
  have h3 : l.length ≤ 10000 := by omega
  have hm : ends.length ≤ maxLen := small_len (by omega)
  simp [h1, h2, book_down l ends h3 hm, ref_down l ends h3 hm, same_eq (l.map (downE ends)) _ (by rw [List.length_map]; omega)]

/-! ### Stays -/
theorem findS_neg {l : List T_api_Entry} {e : T_api_End} : findS l e < 0 ↔ ∀ x ∈ l, x.fEnd ≠ e := by
  unfold findS
  rw [ixOf_neg]
  simp

theorem mem_putS {l : List T_api_Entry} {e x : T_api_Entry} : x ∈ putS l e ↔ x = e ∨ x ∈ l := by
  unfold putS
  have := List.takeWhile_append_dropWhile (p := fun x : T_api_Entry => !decide (0 < cmpE x.fEnd e.fEnd)) (l := l)
  simp only [List.mem_append, List.mem_singleton]
  rw [show (x ∈ l) = (x ∈ l.takeWhile (fun x => !decide (0 < cmpE x.fEnd e.fEnd)) ++ l.dropWhile (fun x => !decide (0 < cmpE x.fEnd e.fEnd))) by rw [this], List.mem_append]
  constructor
  · rintro ((h | h) | h) <;> simp [h]
  · rintro (h | h | h) <;> simp [h]

theorem takeWhile_has {α : Type} (p : α → Bool) : ∀ (l : List α) {x : α}, x ∈ l.takeWhile p → p x = true
  | [], x, h => by simp at h
  | y :: r, x, h => by
    rw [List.takeWhile_cons] at h
    split at h
    · rename_i hp
      rcases List.mem_cons.1 h with rfl | h
      · exact hp
      · exact takeWhile_has p r h
    · cases h

theorem putS_right {l : List T_api_Entry} {e : T_api_Entry} (h : rightB l = true) (he : rightN e = true) (hf : findS l e.fEnd < 0) : rightB (putS l e) = true := by
  rw [rightB_iff] at h ⊢
  obtain ⟨h1, h2⟩ := h
  rw [findS_neg] at hf
  refine ⟨fun x hx => ?_, ?_⟩
  · rcases mem_putS.1 hx with rfl | hx
    · exact he
    · exact h1 x hx
  · have hsplit := List.takeWhile_append_dropWhile (p := fun x : T_api_Entry => !decide (0 < cmpE x.fEnd e.fEnd)) (l := l)
    have hp : (l.takeWhile (fun x : T_api_Entry => !decide (0 < cmpE x.fEnd e.fEnd)) ++ l.dropWhile (fun x : T_api_Entry => !decide (0 < cmpE x.fEnd e.fEnd))).Pairwise (fun a b => cmpE a.fEnd b.fEnd < 0) := by rw [hsplit]; exact h2
    obtain ⟨p1, p2, p3⟩ := List.pairwise_append.1 hp
    have lo : ∀ x ∈ l.takeWhile (fun x : T_api_Entry => !decide (0 < cmpE x.fEnd e.fEnd)), cmpE x.fEnd e.fEnd < 0 := by
      intro x hx
      have hx1 : ¬ 0 < cmpE x.fEnd e.fEnd := by simpa using (takeWhile_has _ _ hx)
      have hx2 : cmpE x.fEnd e.fEnd ≠ 0 := fun h => hf x (List.takeWhile_subset _ hx) (cmpE_zero.1 h)
      omega
    have hi : ∀ x ∈ l.dropWhile (fun x : T_api_Entry => !decide (0 < cmpE x.fEnd e.fEnd)), cmpE e.fEnd x.fEnd < 0 := by
      intro x hx
      cases hd : l.dropWhile (fun x : T_api_Entry => !decide (0 < cmpE x.fEnd e.fEnd)) with
      | nil => rw [hd] at hx; cases hx
      | cons y r =>
        have hy : 0 < cmpE y.fEnd e.fEnd := by
          have := List.head?_dropWhile_not (fun x : T_api_Entry => !decide (0 < cmpE x.fEnd e.fEnd)) l
          rw [hd] at this
          simpa using this
        rw [hd] at hx p2
        have hy' := cmpE_swap.1 hy
        rcases List.mem_cons.1 hx with rfl | hx
        · exact hy'
        · exact cmpE_trans hy' ((List.pairwise_cons.1 p2).1 x hx)
    unfold putS
    rw [List.append_assoc]
    refine List.pairwise_append.2 ⟨p1, List.pairwise_append.2 ⟨List.pairwise_singleton _ _, p2, fun a ha b hb => ?_⟩, fun a ha b hb => ?_⟩
    · rw [List.mem_singleton.1 ha]; exact hi b hb
    · rcases List.mem_append.1 hb with hb | hb
      · rw [List.mem_singleton.1 hb]; exact lo a ha
      · exact p3 a ha b hb

theorem setS_right {l : List T_api_Entry} {e : T_api_Entry} (h : rightB l = true) (he : rightN e = true) : rightB (setS l e) = true := by
  unfold setS
  split
  · rename_i hf
    rw [rightB_iff] at h ⊢
    obtain ⟨h1, h2⟩ := h
    obtain ⟨k, hk, hk2, ⟨x, hx, hxe⟩, _⟩ := ixOf_pos _ l 0 hf
    have hxe : x.fEnd = e.fEnd := of_decide_eq_true hxe
    rw [show findS l e.fEnd = ((0 + k : Nat) : Int) from hk2, Nat.zero_add, Int.toNat_natCast]
    have hg : ∀ j : Nat, ((l.set k e)[j]?).map T_api_Entry.fEnd = (l[j]?).map T_api_Entry.fEnd := by
      intro j
      rw [List.getElem?_set]
      split
      · rename_i ej; subst ej
        rw [hx]
        simp [hxe]
      · rfl
    refine ⟨fun y hy => ?_, List.pairwise_iff_getElem.2 fun i j hi hj hij => ?_⟩
    · rcases List.mem_or_eq_of_mem_set hy with hy | rfl
      · exact h1 y hy
      · exact he
    · rw [List.length_set] at hi hj
      have e1 := hg i
      have e2 := hg j
      rw [List.getElem?_eq_getElem (by rw [List.length_set]; exact hi), List.getElem?_eq_getElem hi] at e1
      rw [List.getElem?_eq_getElem (by rw [List.length_set]; exact hj), List.getElem?_eq_getElem hj] at e2
      simp only [Option.map_some, Option.some.injEq] at e1 e2
      rw [e1, e2]
      exact List.pairwise_iff_getElem.1 h2 i j hi hj hij
  · exact h

theorem setS_ok {l : List T_api_Entry} {e : T_api_Entry} (h : ∀ x ∈ l, x.ok) (he : e.ok) : ∀ x ∈ setS l e, x.ok := by
  unfold setS
  split
  · intro x hx
    rcases List.mem_or_eq_of_mem_set hx with hx | rfl
    · exact h x hx
    · exact he
  · exact h

theorem BookStays_plain (l : List T_api_Entry) (most : Int) (hl : okL T_api_Entry.ok l) (_ : okI .i64 most) : g_doormanlaw26_BookStays l most = some true := by
  simp only [g_doormanlaw26_BookStays, awake_eq, cond_decide', Option.bind_some]
  split
  · rfl
  rename_i hlen
  have h60 : l.length ≤ 60 := by omega
  have hmx : (if (0 : Int) > most then (0 : Int) else most) = max most 0 := by omega
  have check : ∀ (K : List T_api_Entry → Int → Option Bool) (i : Nat) (b : List T_api_Entry), i < l.length → b.length ≤ i + 1 → (∀ x ∈ b, x.ok) → rightB b = true → (b.length : Int) ≤ max most 0 → g_doormanlaw26_BookStays_c1 l most (i : Int) K b = K b ((i + 1 : Nat) : Int) := by
    intro K i b hi hbl hok hr hb
    simp only [g_doormanlaw26_BookStays_c1, book_right b (small_len (by omega)) hok, hr, Option.bind_some, Bool.not_true, cond_false, cond_decide', hmx]
    rw [if_neg (by omega), add1 (show i < 100 by omega) (by simp [maxLen])]
  have key : ∀ fu (i : Nat) (b : List T_api_Entry), i ≤ l.length → l.length - i < fu → b.length ≤ i → (∀ x ∈ b, x.ok) → rightB b = true → (b.length : Int) ≤ max most 0 → g_doormanlaw26_BookStays_c0 l most fu b (i : Int) = some true := by
    intro fu
    induction fu with
    | zero => intro i _ _ h; omega
    | succ fu ih =>
      intro i b hi hf hbl hok hr hb
      simp only [g_doormanlaw26_BookStays_c0, awake_eq, cond_decide', Option.bind_some]
      by_cases hlt : i < l.length
      · rw [if_pos (by omega), need_yes ⟨by omega, by omega⟩, need_yes ⟨by omega, by omega⟩]
        simp only [Int.toNat_natCast]
        have hxo : (l.getD i T_api_Entry.d).ok := hl.2 _ (getD_mem l _ i hlt)
        generalize hx : l.getD i T_api_Entry.d = x at *
        have hb1 : b.length ≤ 10000 := by omega
        split
        · rw [book_add b x most hb1 hxo]
          simp only [Option.bind_some]
          by_cases hc : (addS b x most).2 = 0
          · have hadd : rightN x = true ∧ findS b x.fEnd < 0 ∧ (b.length : Int) < most ∧ (addS b x most).1 = putS b x := by
              unfold addS at hc ⊢
              split at hc
              · rename_i q1
                rw [if_pos q1]
                split at hc
                · simp at hc
                · rename_i q2
                  rw [if_neg q2]
                  split at hc
                  · simp at hc
                  · rename_i q3
                    rw [if_neg q3]
                    exact ⟨q1, by omega, by omega, rfl⟩
              · simp at hc
            obtain ⟨q1, q2, q3, q4⟩ := hadd
            have hfind : ¬ findS (putS b x) x.fEnd < 0 := fun h => findS_neg.1 h x (mem_putS.2 (.inl rfl)) rfl
            have hpl := putS_len b x
            rw [hc, q4, book_find (putS b x) _ (small_len (by omega))]
            simp only [Option.bind_some, beq_self_eq_true, cond_true]
            rw [if_neg hfind, add1 (show b.length < 100 by omega) (by simp [maxLen]), hpl]
            simp only [bne_self_eq_false, cond_false]
            rw [check _ i _ hlt (by omega) (fun y hy => by
              rcases mem_putS.1 hy with rfl | hy
              · exact hxo
              · exact hok y hy) (putS_right hr q1 q2) (by rw [hpl]; omega)]
            exact ih (i + 1) _ (by omega) (by omega) (by omega) (fun y hy => by
              rcases mem_putS.1 hy with rfl | hy
              · exact hxo
              · exact hok y hy) (putS_right hr q1 q2) (by rw [hpl]; omega)
          · rw [show ((addS b x most).2 == 0) = false by simpa using hc]
            simp only [cond_false]
            rw [check _ i _ hlt (by omega) hok hr hb]
            exact ih (i + 1) _ (by omega) (by omega) (by omega) hok hr hb
        · rw [ref_entryRight x hxo]
          simp only [Option.bind_some]
          cases hn : rightN x
          · simp only [cond_false]
            rw [check _ i _ hlt (by omega) hok hr hb]
            exact ih (i + 1) _ (by omega) (by omega) (by omega) hok hr hb
          · rw [book_set b x hb1]
            simp only [cond_true, Option.bind_some]
            have hsl := setS_len b x
            rw [check _ i _ hlt (by omega) (setS_ok hok hxo) (setS_right hr hn) (by rw [hsl]; exact hb)]
            exact ih (i + 1) _ (by omega) (by omega) (by omega) (setS_ok hok hxo) (setS_right hr hn) (by rw [hsl]; exact hb)
      · rw [if_neg (by omega)]
  exact key ((((l.length : Nat) : Int) - (0 : Int)).toNat + 2) 0 [] (by omega) (by omega) (by simp) (by simp) rfl (by simp; omega)

end Go.Proofs.Ytgmkffjkidgcnaa
