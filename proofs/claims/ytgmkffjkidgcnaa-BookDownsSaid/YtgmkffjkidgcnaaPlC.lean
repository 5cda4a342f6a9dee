/-
  PLAIN LAWS: the address book: what the program tells and what the reference tells are one.
-/
import Derived.Test.YtgmkffjkidgcnaaPlB
namespace Go.Proofs.Ytgmkffjkidgcnaa
set_option linter.unusedSimpArgs false
set_option linter.unusedVariables false

def findS (l : List T_api_Entry) (e : T_api_End) : Int := ixOf (fun x => decide (x.fEnd = e)) l 0
def afterS (l : List T_api_Entry) (e : T_api_End) : Int := ixOf (fun x => decide (0 < cmpE x.fEnd e)) l 0

theorem book_find (l : List T_api_Entry) (e : T_api_End) (hl : l.length ≤ maxLen) : g_book_Find l e = some (findS l e) := by
  simp only [g_book_Find, g_slices_IndexFunc_api_Entry_api_Entry_93]
  rw [show ((0 : Int)) = ((0 : Nat) : Int) from rfl]
  rw [loop_ix l T_api_Entry.d (fun x => decide (x.fEnd = e)) hl (fun fu i => g_slices_IndexFunc_api_Entry_api_Entry_93_c0 l e fu (l.length : Int) i) (fun i => i) ?_ ?_ _ 0 (by omega) (by omega)]
  · rfl
  · intro fu i hi
    simp only [g_slices_IndexFunc_api_Entry_api_Entry_93_c0, g_book_Find_1, cond_decide', Option.bind_some]
    rw [if_pos (by omega), need_yes ⟨by omega, by omega⟩]
    simp
  · intro fu
    simp only [g_slices_IndexFunc_api_Entry_api_Entry_93_c0, cond_decide']
    rw [if_neg (by omega)]

theorem ref_find (l : List T_api_Entry) (e : T_api_End) (hl : l.length ≤ maxLen) : g_doormanref26_Find l e = some (findS l e) := by
  simp only [g_doormanref26_Find]
  rw [show ((0 : Int)) = ((0 : Nat) : Int) from rfl]
  rw [loop_ix l T_api_Entry.d (fun x => decide (x.fEnd = e)) hl (fun fu i => g_doormanref26_Find_c0 l fu i e) (fun i => i) ?_ ?_ _ 0 (by omega) (by omega)]
  · rfl
  · intro fu i hi
    simp only [g_doormanref26_Find_c0, cond_decide']
    rw [if_pos (by omega), need_yes ⟨by omega, by omega⟩]
    simp
  · intro fu
    simp only [g_doormanref26_Find_c0, cond_decide']
    rw [if_neg (by omega)]

theorem book_after (l : List T_api_Entry) (e : T_api_Entry) (hl : l.length ≤ maxLen) : g_slices_IndexFunc_api_Entry_api_Entry_89 l e = some (afterS l e.fEnd) := by
  simp only [g_slices_IndexFunc_api_Entry_api_Entry_89]
  rw [show ((0 : Int)) = ((0 : Nat) : Int) from rfl]
  rw [loop_ix l T_api_Entry.d (fun x => decide (0 < cmpE x.fEnd e.fEnd)) hl (fun fu i => g_slices_IndexFunc_api_Entry_api_Entry_89_c0 l e fu (l.length : Int) i) (fun i => i) ?_ ?_ _ 0 (by omega) (by omega)]
  · rfl
  · intro fu i hi
    simp only [g_slices_IndexFunc_api_Entry_api_Entry_89_c0, g_book_Add_1, endp_cmp, cond_decide', Option.bind_some]
    rw [if_pos (by omega), need_yes ⟨by omega, by omega⟩]
    simp
  · intro fu
    simp only [g_slices_IndexFunc_api_Entry_api_Entry_89_c0, cond_decide']
    rw [if_neg (by omega)]

/-- A book with an entry put in where it stands. -/
def putS (l : List T_api_Entry) (e : T_api_Entry) : List T_api_Entry := l.takeWhile (fun x => !decide (0 < cmpE x.fEnd e.fEnd)) ++ [e] ++ l.dropWhile (fun x => !decide (0 < cmpE x.fEnd e.fEnd))

theorem ixOf_split {α : Type} (p : α → Bool) : ∀ (l : List α) (i : Nat), (ixOf p l i < 0 → l.takeWhile (fun x => !p x) = l ∧ l.dropWhile (fun x => !p x) = []) ∧ (0 ≤ ixOf p l i → i ≤ (ixOf p l i).toNat ∧ l.takeWhile (fun x => !p x) = l.take ((ixOf p l i).toNat - i) ∧ l.dropWhile (fun x => !p x) = l.drop ((ixOf p l i).toNat - i))
  | [], i => by simp [ixOf]
  | x :: r, i => by
    obtain ⟨h1, h2⟩ := ixOf_split p r (i + 1)
    simp only [ixOf]
    cases hp : p x
    · simp only [Bool.false_eq_true, if_false, List.takeWhile_cons, List.dropWhile_cons, hp, Bool.not_false, if_true]
      refine ⟨fun h => ?_, fun h => ?_⟩
      · obtain ⟨h3, h4⟩ := h1 h
        exact ⟨by rw [h3], h4⟩
      · obtain ⟨h3, h4, h5⟩ := h2 h
        have e : (ixOf p r (i + 1)).toNat - i = ((ixOf p r (i + 1)).toNat - (i + 1)) + 1 := by omega
        rw [e, List.take_succ_cons, List.drop_succ_cons, h4, h5]
        exact ⟨by omega, rfl, rfl⟩
    · simp only [if_true, List.takeWhile_cons, List.dropWhile_cons, hp, Bool.not_true, Bool.false_eq_true, if_false]
      refine ⟨fun h => by omega, fun h => ?_⟩
      simp

/-- What is added: the book, and a code. -/
def addS (l : List T_api_Entry) (e : T_api_Entry) (most : Int) : List T_api_Entry × Int :=
  if rightN e then if 0 ≤ findS l e.fEnd then ([], 7) else if (l.length : Int) ≥ most then ([], 5) else (putS l e, 0) else ([], 1)

theorem clone_eq (l : List T_api_Entry) (h : l.length ≤ 10000) : g_slices_Clone_doorman_api_Entry_doorman_api_Entry l = some l := by
  unfold g_slices_Clone_doorman_api_Entry_doorman_api_Entry
  rw [need_yes ⟨by omega, small_len (by omega)⟩]

theorem insert_eq (l : List T_api_Entry) (i : Int) (e : T_api_Entry) (h : l.length ≤ 10000) (h0 : 0 ≤ i) (h1 : i.toNat ≤ l.length) : g_slices_Insert_doorman_api_Entry_doorman_api_Entry l i [e] = some (l.take i.toNat ++ [e] ++ l.drop i.toNat) := by
  unfold g_slices_Insert_doorman_api_Entry_doorman_api_Entry
  rw [need_yes ⟨h0, h1, by simp, by simp only [List.length_cons, List.length_nil]; omega, small_len (by simp only [List.length_cons, List.length_nil]; omega)⟩]

theorem book_add (l : List T_api_Entry) (e : T_api_Entry) (most : Int) (h : l.length ≤ 10000) (he : e.ok) : g_book_Add l e most = some (addS l e most) := by
  have hm : l.length ≤ maxLen := small_len (by omega)
  have hs := ixOf_split (fun x : T_api_Entry => decide (0 < cmpE x.fEnd e.fEnd)) l 0
  have hle := ixOf_le (fun x : T_api_Entry => decide (0 < cmpE x.fEnd e.fEnd)) l 0
  simp only [g_book_Add, entry_right e he, book_find l _ hm, book_after l e hm, clone_eq l h, Option.bind_some, addS]
  cases rightN e
  · rfl
  · simp only [Bool.not_true, cond_false, if_true, cond_decide', ge_iff_le]
    by_cases h1 : 0 ≤ findS l e.fEnd
    · simp only [h1, if_true]
    · simp only [h1, if_false]
      by_cases h2 : most ≤ (l.length : Int)
      · simp only [h2, if_true]
      · simp only [h2, if_false]
        by_cases h3 : afterS l e.fEnd < 0
        · rw [if_pos h3, insert_eq l _ e h (by omega) (by simp)]
          simp only [Option.bind_some]
          obtain ⟨h4, h5⟩ := hs.1 h3
          unfold putS
          rw [h4, h5]
          simp
        · rw [if_neg h3]
          have h3' : 0 ≤ afterS l e.fEnd := by omega
          unfold afterS at h3'
          rw [insert_eq l _ e h (by omega) (by unfold afterS; omega)]
          simp only [Option.bind_some]
          obtain ⟨_, h4, h5⟩ := hs.2 h3'
          unfold putS afterS
          rw [h4, h5]
          rfl

theorem ref_put (l : List T_api_Entry) (e : T_api_Entry) (h : l.length ≤ 10000) : ∀ fu (i : Nat), i ≤ l.length → l.length - i < fu →
    g_doormanref26_Add_c0 l fu (i : Int) e = some (l.take i ++ putS (l.drop i) e, 0) := by
  have hm : l.length ≤ maxLen := small_len (by omega)
  have hfin : ∀ i : Nat, i ≤ l.length → (need (0 ≤ (i : Int) ∧ (i : Int) ≤ ((l.length : Nat) : Int)) <|
      need ((([] : List T_api_Entry) ++ (l.take (i : Int).toNat)).length * 56 ≤ 140737488355328 ∧ (([] : List T_api_Entry) ++ (l.take (i : Int).toNat)).length ≤ maxLen) <|
      need (((([] : List T_api_Entry) ++ (l.take (i : Int).toNat)) ++ ([e] : List T_api_Entry)).length * 56 ≤ 140737488355328 ∧ ((([] : List T_api_Entry) ++ (l.take (i : Int).toNat)) ++ ([e] : List T_api_Entry)).length ≤ maxLen) <|
      need ((((([] : List T_api_Entry) ++ (l.take (i : Int).toNat)) ++ ([e] : List T_api_Entry)) ++ (l.drop (i : Int).toNat)).length * 56 ≤ 140737488355328 ∧ (((([] : List T_api_Entry) ++ (l.take (i : Int).toNat)) ++ ([e] : List T_api_Entry)) ++ (l.drop (i : Int).toNat)).length ≤ maxLen) <|
      some ((((([] : List T_api_Entry) ++ (l.take (i : Int).toNat)) ++ ([e] : List T_api_Entry)) ++ (l.drop (i : Int).toNat)), (0 : Int))) = some (l.take i ++ [e] ++ l.drop i, 0) := by
    intro i hi
    have b : ∀ n : Nat, n ≤ 10001 → n * 56 ≤ 140737488355328 ∧ n ≤ maxLen := fun n hn => ⟨by omega, small_len (by omega)⟩
    rw [need_yes ⟨by omega, by omega⟩, need_yes (b _ (by simp; omega)), need_yes (b _ (by simp; omega)), need_yes (b _ (by simp; omega))]
    simp
  intro fu
  induction fu with
  | zero => intro i _ h; omega
  | succ fu ih =>
    intro i hi hf
    simp only [g_doormanref26_Add_c0, ref_cmpE, Option.bind_some, cond_decide']
    by_cases hlt : i < l.length
    · rw [if_pos (by omega), need_yes ⟨by omega, by omega⟩]
      have hd := drop_cons l T_api_Entry.d i hlt
      by_cases hc : cmpE (l.getD i T_api_Entry.d).fEnd e.fEnd ≤ 0
      · rw [if_pos (by simpa using hc), add1 hlt hm, ih (i + 1) (by omega) (by omega)]
        congr 2
        unfold putS
        rw [hd, List.takeWhile_cons, List.dropWhile_cons, if_pos (by simp; simpa using hc), if_pos (by simp; simpa using hc), List.take_succ_eq_append_getElem hlt]
        rw [getD_of l T_api_Entry.d i hlt]
        simp only [List.append_assoc, List.cons_append, List.nil_append]
      · rw [if_neg (by simpa using hc), hfin i hi]
        congr 2
        unfold putS
        rw [hd, List.takeWhile_cons, List.dropWhile_cons, if_neg (by simp; simpa using hc), if_neg (by simp; simpa using hc)]
        simp
    · rw [if_neg (by omega), hfin i hi]
      have : l.drop i = [] := List.drop_eq_nil_of_le (by omega)
      rw [this]
      simp [putS]

theorem ref_add (l : List T_api_Entry) (e : T_api_Entry) (most : Int) (h : l.length ≤ 10000) (he : e.ok) : g_doormanref26_Add l e most = some (addS l e most) := by
  have hm : l.length ≤ maxLen := small_len (by omega)
  simp only [g_doormanref26_Add, ref_entryRight e he, ref_find l _ hm, Option.bind_some, addS]
  cases rightN e
  · rfl
  · simp only [Bool.not_true, cond_false, if_true, cond_decide', ge_iff_le]
    by_cases h1 : 0 ≤ findS l e.fEnd
    · simp only [h1, if_true]
    · simp only [h1, if_false]
      by_cases h2 : most ≤ (l.length : Int)
      · simp only [h2, if_true]
      · simp only [h2, if_false]
        have := ref_put l e h ((((l.length : Nat) : Int) - (0 : Int)).toNat + 2) 0 (by omega) (by omega)
        rw [show ((0 : Nat) : Int) = 0 from rfl] at this
        rw [this]
        rfl

/-- Same lists. -/
theorem same_eq (l l' : List T_api_Entry) (h : l.length ≤ 10001) : g_doormansame_Book l l' = some (decide (l = l')) := by
  have hm : l.length ≤ maxLen := small_len (by omega)
  simp only [g_doormansame_Book, Bool.cond_eq_ite, bne_iff_ne, ne_eq, ite_not]
  by_cases hl : (l.length : Int) = (l'.length : Int)
  · rw [if_pos hl]
    have hl' : l.length = l'.length := by omega
    have key : ∀ fu (i : Nat), i ≤ l.length → l.length - i < fu → g_doormansame_Book_c0 l l' fu (i : Int) = some (decide (l.drop i = l'.drop i)) := by
      intro fu
      induction fu with
      | zero => intro i _ h; omega
      | succ fu ih =>
        intro i hi hf
        simp only [g_doormansame_Book_c0, cond_decide']
        by_cases hlt : i < l.length
        · rw [if_pos (by omega), if_pos (by omega), need_yes ⟨by omega, by omega⟩, need_yes ⟨by omega, by omega⟩, add1 hlt hm, ih (i + 1) (by omega) (by omega), drop_cons l T_api_Entry.d i hlt, drop_cons l' T_api_Entry.d i (by omega)]
          by_cases e : l.getD i T_api_Entry.d = l'.getD i T_api_Entry.d
          · simp only [Int.toNat_natCast, e, decide_true, Bool.not_true, cond_false, List.cons.injEq, true_and]
          · simp only [Int.toNat_natCast, e, decide_false, Bool.not_false, cond_true, List.cons.injEq, false_and]
        · rw [if_neg (by omega)]
          rw [List.drop_eq_nil_of_le (by omega), List.drop_eq_nil_of_le (by omega)]
          simp
    have := key ((((l'.length : Nat) : Int) - (0 : Int)).toNat + 2) 0 (by omega) (by omega)
    rw [show ((0 : Nat) : Int) = 0 from rfl] at this
    rw [this]
    simp
  · rw [if_neg hl]
    have : l ≠ l' := fun e => hl (by rw [e])
    simp [this]

def countS (l : List T_api_Entry) (state : Int) : Int := ((l.countP fun x => decide (x.fState = state) : Nat) : Int)

theorem book_count (l : List T_api_Entry) (state : Int) (hl : l.length ≤ maxLen) : g_book_Count l state = some (countS l state) := by
  simp only [g_book_Count]
  have := loop_count l T_api_Entry.d (fun x => decide (x.fState = state)) hl (fun fu n i => g_book_Count_c0 state fu n l (l.length : Int) i) (fun fu i n hi => by
      simp only [g_book_Count_c0, cond_decide']
      rw [if_pos (by omega), need_yes ⟨by omega, by omega⟩]
      simp only [Bool.cond_eq_ite, beq_iff_eq, Int.toNat_natCast, decide_eq_true_eq]) (fun fu n => by
      simp only [g_book_Count_c0, cond_decide']
      rw [if_neg (by omega)]) ((((l.length : Nat) : Int) - (0 : Int)).toNat + 2) 0 0 (by omega) (by omega) (by omega)
  simpa [countS] using this

theorem ref_count (l : List T_api_Entry) (state : Int) (hl : l.length ≤ maxLen) : g_doormanref26_Count l state = some (countS l state) := by
  simp only [g_doormanref26_Count]
  have := loop_count l T_api_Entry.d (fun x => decide (x.fState = state)) hl (fun fu n i => g_doormanref26_Count_c0 l state fu n i) (fun fu i n hi => by
      simp only [g_doormanref26_Count_c0, cond_decide']
      rw [if_pos (by omega), need_yes ⟨by omega, by omega⟩]
      simp only [Bool.cond_eq_ite, beq_iff_eq, Int.toNat_natCast, decide_eq_true_eq]) (fun fu n => by
      simp only [g_doormanref26_Count_c0, cond_decide']
      rw [if_neg (by omega)]) ((((l.length : Nat) : Int) - (0 : Int)).toNat + 2) 0 0 (by omega) (by omega) (by omega)
  simpa [countS] using this

def setS (l : List T_api_Entry) (e : T_api_Entry) : List T_api_Entry := if 0 ≤ findS l e.fEnd then l.set (findS l e.fEnd).toNat e else l

theorem find_lt (l : List T_api_Entry) (e : T_api_End) : findS l e < (l.length : Int) := by
  have := ixOf_le (fun x : T_api_Entry => decide (x.fEnd = e)) l 0
  simpa [findS] using this

theorem book_set (l : List T_api_Entry) (e : T_api_Entry) (h : l.length ≤ 10000) : g_book_Set l e = some (setS l e) := by
  have hm : l.length ≤ maxLen := small_len (by omega)
  have := find_lt l e.fEnd
  simp only [g_book_Set, clone_eq l h, book_find l _ hm, Option.bind_some, cond_decide', setS, ge_iff_le]
  split
  · rename_i h1
    rw [need_yes ⟨h1, this⟩]
  · rfl

theorem ref_set (l : List T_api_Entry) (e : T_api_Entry) (h : l.length ≤ 10000) : g_doormanref26_Set l e = some (setS l e) := by
  have hm : l.length ≤ maxLen := small_len (by omega)
  have := find_lt l e.fEnd
  simp only [g_doormanref26_Set, ref_find l _ hm, Option.bind_some, cond_decide', setS, List.nil_append]
  split
  · rename_i h1
    rw [if_neg (by omega)]
  · rename_i h1
    rw [need_yes ⟨by omega, hm⟩, need_yes ⟨by omega, this⟩, if_pos (by omega)]

/-! ### Which book is right -/
def aheadO : Option T_api_Entry → T_api_Entry → Bool
  | none, _ => true
  | some p, x => decide (cmpE p.fEnd x.fEnd < 0)

def rightF : Option T_api_Entry → List T_api_Entry → Bool
  | _, [] => true
  | p, x :: r => rightN x && aheadO p x && rightF (some x) r

def rightB (l : List T_api_Entry) : Bool := rightF none l

/-- What the program looks at: each, and with the one ahead. -/
theorem book_right (l : List T_api_Entry) (h : l.length ≤ maxLen) (hok : ∀ x ∈ l, x.ok) : g_book_Right l = some (rightB l) := by
  simp only [g_book_Right]
  have key : ∀ fu (i : Nat), i ≤ l.length → l.length - i < fu → g_book_Right_c0 l fu l (l.length : Int) (i : Int) = some (rightF (if i = 0 then none else some (l.getD (i - 1) T_api_Entry.d)) (l.drop i)) := by
    intro fu
    induction fu with
    | zero => intro i _ h; omega
    | succ fu ih =>
      intro i hi hf
      simp only [g_book_Right_c0, cond_decide', endp_cmp, Option.bind_some]
      by_cases hlt : i < l.length
      · rw [if_pos (by omega), need_yes ⟨by omega, by omega⟩, entry_right _ (hok _ (by rw [Int.toNat_natCast]; exact getD_mem l _ i hlt))]
        simp only [Int.toNat_natCast, Option.bind_some]
        have hih := ih (i + 1) (by omega) (by omega)
        rw [if_neg (by omega), Nat.add_sub_cancel] at hih
        rw [drop_cons l T_api_Entry.d i hlt]
        simp only [rightF]
        cases rightN (l.getD i T_api_Entry.d)
        · rfl
        · simp only [Bool.not_true, cond_false, Bool.true_and]
          by_cases h0 : i = 0
          · subst h0
            rw [if_neg (by omega), if_pos rfl, add1 hlt h, hih]
            rfl
          · have hs : sub64 (i : Int) 1 = ((i - 1 : Nat) : Int) := by
              unfold maxLen at h
              rw [sub64_id (by omega) (by omega)]
              omega
            rw [if_pos (by omega), hs, need_yes ⟨by omega, by omega⟩, if_neg h0]
            simp only [Int.toNat_natCast, aheadO]
            by_cases hc : cmpE (l.getD (i - 1) T_api_Entry.d).fEnd (l.getD i T_api_Entry.d).fEnd ≥ 0
            · rw [if_pos hc, decide_eq_false (by omega)]
              rfl
            · rw [if_neg hc, decide_eq_true (by omega), add1 hlt h, hih]
              rfl
      · rw [if_neg (by omega), List.drop_eq_nil_of_le (by omega)]
        rfl
  have := key ((((l.length : Nat) : Int) - (0 : Int)).toNat + 2) 0 (by omega) (by omega)
  rw [show ((0 : Nat) : Int) = 0 from rfl] at this
  rw [this]
  rfl

/-- What the reference looks at: each, and with all ahead. -/
def rightR : List T_api_Entry → List T_api_Entry → Bool
  | _, [] => true
  | p, x :: r => rightN x && p.all (fun y => decide (cmpE y.fEnd x.fEnd < 0)) && rightR (p ++ [x]) r

theorem rightR_eq : ∀ (r p : List T_api_Entry), p.Pairwise (fun a b => cmpE a.fEnd b.fEnd < 0) → rightR p r = rightF p.getLast? r
  | [], p, _ => rfl
  | x :: r, p, hp => by
    simp only [rightR, rightF]
    have e : p.all (fun y => decide (cmpE y.fEnd x.fEnd < 0)) = aheadO p.getLast? x := by
      rcases List.eq_nil_or_concat p with rfl | ⟨q, z, rfl⟩
      · rfl
      · rw [List.concat_eq_append] at hp ⊢
        rw [List.getLast?_append, List.getLast?_singleton, Option.some_or, List.all_append]
        simp only [aheadO, List.all_cons, List.all_nil, Bool.and_true]
        by_cases hz : cmpE z.fEnd x.fEnd < 0
        · rw [decide_eq_true hz, Bool.and_true, List.all_eq_true]
          intro y hy
          have := (List.pairwise_append.1 hp).2.2 y hy z (by simp)
          exact decide_eq_true (cmpE_trans this hz)
        · rw [decide_eq_false hz, Bool.and_false]
    rw [e]
    cases ha : aheadO p.getLast? x
    · simp
    · rw [rightR_eq r (p ++ [x])]
      · simp
      · refine List.pairwise_append.2 ⟨hp, List.pairwise_singleton _ _, fun y hy z hz => ?_⟩
        rw [List.mem_singleton.1 hz]
        rw [ha] at e
        exact of_decide_eq_true (List.all_eq_true.1 e y hy)

theorem ref_bookRight (l : List T_api_Entry) (h : l.length ≤ maxLen) (hok : ∀ x ∈ l, x.ok) : g_doormanref26_Right l = some (rightB l) := by
  simp only [g_doormanref26_Right]
  have inner : ∀ (i : Nat) (K : Int → Option Bool), i < l.length → ∀ fu (j : Nat), j ≤ i → i - j < fu → g_doormanref26_Right_c1 l (i : Int) K fu (j : Int) = bif ((l.take i).drop j).all (fun y => decide (cmpE y.fEnd (l.getD i T_api_Entry.d).fEnd < 0)) then K (add64 (i : Int) 1) else some false := by
    intro i K hi fu
    induction fu with
    | zero => intro j _ h; omega
    | succ fu ih =>
      intro j hj hf
      simp only [g_doormanref26_Right_c1, cond_decide', ref_cmpE, Option.bind_some]
      by_cases hlt : j < i
      · rw [if_pos (by omega), need_yes ⟨by omega, by omega⟩, need_yes ⟨by omega, by omega⟩]
        simp only [Int.toNat_natCast]
        have hjt : j < (l.take i).length := by rw [List.length_take]; omega
        have hgt : (l.take i).getD j T_api_Entry.d = l.getD j T_api_Entry.d := by
          simp only [List.getD_eq_getElem?_getD, List.getElem?_take, if_pos hlt]
        rw [drop_cons (l.take i) T_api_Entry.d j hjt, hgt]
        simp only [List.all_cons]
        by_cases hc : cmpE (l.getD j T_api_Entry.d).fEnd (l.getD i T_api_Entry.d).fEnd ≥ 0
        · rw [if_pos hc, decide_eq_false (by omega)]
          rfl
        · rw [if_neg hc, decide_eq_true (by omega), add1 (show j < l.length by omega) h, ih (j + 1) (by omega) (by omega)]
          rfl
      · have e : j = i := by omega
        subst e
        rw [if_neg (by omega), List.drop_eq_nil_of_le (by rw [List.length_take]; omega)]
        rfl
  have key : ∀ fu (i : Nat), i ≤ l.length → l.length - i < fu → g_doormanref26_Right_c0 l fu (i : Int) = some (rightR (l.take i) (l.drop i)) := by
    intro fu
    induction fu with
    | zero => intro i _ h; omega
    | succ fu ih =>
      intro i hi hf
      simp only [g_doormanref26_Right_c0, cond_decide']
      by_cases hlt : i < l.length
      · rw [if_pos (by omega), need_yes ⟨by omega, by omega⟩, ref_entryRight _ (hok _ (by rw [Int.toNat_natCast]; exact getD_mem l _ i hlt))]
        simp only [Int.toNat_natCast, Option.bind_some]
        rw [drop_cons l T_api_Entry.d i hlt]
        simp only [rightR]
        cases rightN (l.getD i T_api_Entry.d)
        · rfl
        · simp only [Bool.not_true, cond_false, Bool.true_and]
          have hin := inner i (g_doormanref26_Right_c0 l fu) hlt (((i : Int) - (0 : Int)).toNat + 2) 0 (by omega) (by omega)
          rw [show ((0 : Nat) : Int) = 0 from rfl, List.drop_zero] at hin
          rw [hin]
          have hih := ih (i + 1) (by omega) (by omega)
          rw [List.take_succ_eq_append_getElem hlt, ← getD_of l T_api_Entry.d i hlt] at hih
          cases (l.take i).all (fun y => decide (cmpE y.fEnd (l.getD i T_api_Entry.d).fEnd < 0))
          · rfl
          · rw [cond_true, add1 hlt h, hih]
            rfl
      · rw [if_neg (by omega), List.drop_eq_nil_of_le (by omega)]
        rfl
  have := key ((((l.length : Nat) : Int) - (0 : Int)).toNat + 2) 0 (by omega) (by omega)
  rw [show ((0 : Nat) : Int) = 0 from rfl] at this
  rw [this]
  congr 1
  exact rightR_eq l [] .nil

theorem rightF_iff : ∀ (l : List T_api_Entry) (p : Option T_api_Entry), rightF p l = true ↔ (∀ x ∈ l, rightN x = true) ∧ l.Pairwise (fun a b => cmpE a.fEnd b.fEnd < 0) ∧ ∀ q, p = some q → ∀ x ∈ l, cmpE q.fEnd x.fEnd < 0
  | [], p => by simp [rightF]
  | x :: r, p => by
    simp only [rightF, Bool.and_eq_true, rightF_iff r (some x), List.mem_cons, forall_eq_or_imp, List.pairwise_cons, Option.some.injEq]
    constructor
    · rintro ⟨⟨h1, h2⟩, h3, h4, h5⟩
      have h6 := h5 x rfl
      refine ⟨⟨h1, h3⟩, ⟨h6, h4⟩, fun q hq => ?_⟩
      subst hq
      have h7 : cmpE q.fEnd x.fEnd < 0 := of_decide_eq_true h2
      exact ⟨h7, fun y hy => cmpE_trans h7 (h6 y hy)⟩
    · rintro ⟨⟨h1, h3⟩, ⟨h6, h4⟩, h5⟩
      refine ⟨⟨h1, ?_⟩, h3, h4, fun q hq => by subst hq; exact h6⟩
      cases p with
      | none => rfl
      | some q => exact decide_eq_true (h5 q rfl).1

theorem rightB_iff (l : List T_api_Entry) : rightB l = true ↔ (∀ x ∈ l, rightN x = true) ∧ l.Pairwise (fun a b => cmpE a.fEnd b.fEnd < 0) := by
  rw [rightB, rightF_iff]
  exact ⟨fun h => ⟨h.1, h.2.1⟩, fun h => ⟨h.1, h.2, fun q hq => by cases hq⟩⟩

theorem awake_eq : g_doormanlaw26_awake = some true := by rfl

end Go.Proofs.Ytgmkffjkidgcnaa
