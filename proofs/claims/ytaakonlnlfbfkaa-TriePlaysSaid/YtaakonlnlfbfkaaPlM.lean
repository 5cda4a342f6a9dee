/-
  PLAIN LAWS: the statements of trees.
-/
import Derived.Test.YtaakonlnlfbfkaaPlL
namespace Go.Proofs.Ytaakonlnlfbfkaa
set_option linter.unusedSimpArgs false
set_option linter.unusedVariables false

abbrev RHit := T_doormanref11_Hit
def cvH (x : T_trie_Hit) : RHit := ⟨x.fNet, x.fV⟩

theorem getD_map {α β : Type} (f : α → β) (l : List α) (d : α) (e : β) (i : Nat) (h : i < l.length) : (l.map f).getD i e = f (l.getD i d) := by
  simp [List.getD_eq_getElem?_getD, h]

theorem rwithout_loop (L : List T_trie_Hit) (n : T_api_Net) (hl : L.length ≤ 10000) : ∀ fu (i : Nat) (w : List RHit), i ≤ L.length → L.length - i < fu → w.length ≤ i →
    g_doormanref11_Without_c0 (L.map cvH) fu (i : Int) w n = some (w ++ (withoutS (L.drop i) n).map cvH) := by
  have hm : L.length ≤ maxLen := by unfold maxLen; omega
  intro fu
  induction fu with
  | zero => intro _ _ _ h; omega
  | succ fu ih =>
    intro i w hi hf hw
    simp only [g_doormanref11_Without_c0, cond_decide', List.length_map]
    by_cases h : i < L.length
    · rw [if_pos (by omega), need_yes ⟨by omega, by omega⟩]
      simp only [Int.toNat_natCast]
      rw [need_yes ⟨by simp; omega, by unfold maxLen; simp; omega⟩, add1 h hm, ih (i + 1) w (by omega) (by omega) (by omega), ih (i + 1) _ (by omega) (by omega) (by simp; omega), drop_cons L T_trie_Hit.d i h]
      simp only [getD_map cvH L T_trie_Hit.d T_doormanref11_Hit.d i h]
      generalize L.getD i T_trie_Hit.d = x
      by_cases e : x.fNet = n
      · rw [show (!decide ((cvH x).fNet = n)) = false by simp [cvH, e], cond_false]
        simp [withoutS, e]
      · rw [show (!decide ((cvH x).fNet = n)) = true by simp [cvH, e], cond_true]
        simp [withoutS, e]
    · rw [if_neg (by omega), List.drop_eq_nil_of_le (by omega)]
      simp [withoutS]

theorem rwithout (L : List T_trie_Hit) (n : T_api_Net) (hl : L.length ≤ 10000) : g_doormanref11_Without (L.map cvH) n = some ((withoutS L n).map cvH) := by
  have := rwithout_loop L n hl ((((L.length : Nat) : Int) - (0 : Int)).toNat + 2) 0 [] (by omega) (by omega) (by simp)
  simp only [Int.natCast_zero, List.drop_zero, List.nil_append] at this
  simp only [g_doormanref11_Without, List.length_map]
  exact this

theorem rwith_done (L : List T_trie_Hit) (n : T_api_Net) (v : Int) (hl : L.length ≤ 10000) : ∀ fu (i : Nat) (w : List RHit), i ≤ L.length → L.length - i < fu → w.length ≤ i + 1 →
    g_doormanref11_With_c0 v fu (L.map cvH) true (i : Int) w n = some (w ++ (L.drop i).map cvH) := by
  have hm : L.length ≤ maxLen := by unfold maxLen; omega
  intro fu
  induction fu with
  | zero => intro _ _ _ h; omega
  | succ fu ih =>
    intro i w hi hf hw
    simp only [g_doormanref11_With_c0, cond_decide', List.length_map, Bool.not_true, cond_false]
    by_cases h : i < L.length
    · rw [if_pos (by omega), need_yes ⟨by omega, by omega⟩]
      simp only [Int.toNat_natCast]
      rw [need_yes ⟨by simp; omega, by unfold maxLen; simp; omega⟩, add1 h hm, ih (i + 1) _ (by omega) (by omega) (by simp; omega), drop_cons L T_trie_Hit.d i h]
      simp only [getD_map cvH L T_trie_Hit.d T_doormanref11_Hit.d i h]
      simp
    · rw [if_neg (by omega), List.drop_eq_nil_of_le (by omega)]
      simp

theorem rwith_loop (L : List T_trie_Hit) (n : T_api_Net) (v : Int) (hl : L.length ≤ 10000) : ∀ fu (i : Nat) (w : List RHit), i ≤ L.length → L.length - i < fu → w.length ≤ i →
    g_doormanref11_With_c0 v fu (L.map cvH) false (i : Int) w n = some (w ++ (insS (L.drop i) ⟨n, v⟩).map cvH) := by
  have hm : L.length ≤ maxLen := by unfold maxLen; omega
  intro fu
  induction fu with
  | zero => intro _ _ _ h; omega
  | succ fu ih =>
    intro i w hi hf hw
    simp only [g_doormanref11_With_c0, cond_decide', List.length_map, Bool.not_false, cond_true]
    by_cases h : i < L.length
    · rw [if_pos (by omega), need_yes ⟨by omega, by omega⟩]
      simp only [Int.toNat_natCast]
      simp only [ref_cmpN, Option.bind_some, cond_decide']
      rw [need_yes ⟨by simp; omega, by unfold maxLen; simp; omega⟩, need_yes ⟨by simp; omega, by unfold maxLen; simp; omega⟩, need_yes ⟨by simp; omega, by unfold maxLen; simp; omega⟩, add1 h hm, drop_cons L T_trie_Hit.d i h]
      simp only [getD_map cvH L T_trie_Hit.d T_doormanref11_Hit.d i h]
      generalize L.getD i T_trie_Hit.d = x
      rw [ih (i + 1) _ (by omega) (by omega) (by simp; omega), rwith_done L n v hl fu (i + 1) _ (by omega) (by omega) (by simp; omega)]
      rw [show insS (x :: L.drop (i + 1)) ⟨n, v⟩ = if cmpN n x.fNet < 0 then ⟨n, v⟩ :: x :: L.drop (i + 1) else x :: insS (L.drop (i + 1)) ⟨n, v⟩ from rfl]
      by_cases e : cmpN n x.fNet < 0
      · rw [if_pos e, if_pos (show cmpN n (cvH x).fNet < 0 from e)]
        simp [cvH]
      · rw [if_neg e, if_neg (show ¬ cmpN n (cvH x).fNet < 0 from e)]
        simp
    · rw [if_neg (by omega), List.drop_eq_nil_of_le (by omega), need_yes ⟨by simp; omega, by unfold maxLen; simp; omega⟩]
      simp [insS, cvH]

theorem rwith (L : List T_trie_Hit) (n : T_api_Net) (v : Int) (hl : L.length ≤ 9000) (hn : n.fAddr.ok) : g_doormanref11_With (L.map cvH) n v = some ((wS L n v).map cvH) := by
  have hw : (withoutS L n).length ≤ L.length := List.length_filter_le _ _
  simp only [g_doormanref11_With, ref7_right n hn, Option.bind_some]
  unfold wS
  cases rightC n with
  | false => rfl
  | true =>
    simp only [Bool.not_true, cond_false, if_true]
    rw [rwithout L n (by omega)]
    simp only [Option.bind_some, List.length_map]
    have := rwith_loop (withoutS L n) n v (by omega) (((((withoutS L n).length : Nat) : Int) - (0 : Int)).toNat + 2) 0 [] (by omega) (by omega) (by simp)
    simp only [Int.natCast_zero, List.drop_zero, List.nil_append] at this
    exact this

theorem rget_loop (L : List T_trie_Hit) (n : T_api_Net) (hl : L.length ≤ 10000) : ∀ fu (i : Nat), i ≤ L.length → L.length - i < fu → g_doormanref11_Get_c0 (L.map cvH) fu (i : Int) n = some (hitOf (L.drop i) n) := by
  have hm : L.length ≤ maxLen := by unfold maxLen; omega
  intro fu
  induction fu with
  | zero => intro _ _ h; omega
  | succ fu ih =>
    intro i hi hf
    simp only [g_doormanref11_Get_c0, cond_decide', List.length_map]
    by_cases h : i < L.length
    · rw [if_pos (by omega), need_yes ⟨by omega, by omega⟩]
      simp only [Int.toNat_natCast]
      rw [add1 h hm, ih (i + 1) (by omega) (by omega), drop_cons L T_trie_Hit.d i h]
      simp only [getD_map cvH L T_trie_Hit.d T_doormanref11_Hit.d i h]
      generalize L.getD i T_trie_Hit.d = x
      by_cases e : x.fNet = n
      · rw [if_pos (show (cvH x).fNet = n from e)]; simp [hitOf, e, cvH]
      · rw [if_neg (show ¬ (cvH x).fNet = n from e)]; simp [hitOf, e]
    · rw [if_neg (by omega), List.drop_eq_nil_of_le (by omega)]
      rfl

theorem rget (L : List T_trie_Hit) (n : T_api_Net) (hl : L.length ≤ 10000) : g_doormanref11_Get (L.map cvH) n = some (hitOf L n) := by
  have := rget_loop L n hl ((((L.length : Nat) : Int) - (0 : Int)).toNat + 2) 0 (by omega) (by omega)
  simp only [Int.natCast_zero, List.drop_zero] at this
  simp only [g_doormanref11_Get, List.length_map]
  exact this

/-! ### What an address is in -/
def covS (L : List T_trie_Hit) (a : T_api_Addr) : List T_trie_Hit := L.filter fun x => hasS x.fNet a

theorem vt_cover {t : N_trie_Trie} {L : List T_trie_Hit} (h : VT t L) (a : T_api_Addr) (ha : a.ok) : g_trie_Trie_Cover t a = some (covS L a) := by
  have hg := h.gt
  rw [← h.eq]
  cases t with
  | nil => exact hg.elim
  | mk r4 r6 k =>
    simp only [g_trie_Trie_Cover, addr_right a ha, Option.bind_some, fam_eq]
    cases hr : rightA a
    · simp only [Bool.not_false, cond_true, Option.some.injEq]
      symm
      exact filter_none fun x hx => by simp [hasS, hr]
    · simp only [Bool.not_true, cond_false]
      have hw := wid_le a
      have e1 : ∀ (A B : Option (List T_trie_Hit)), ix2 0 A B = A := fun _ _ => rfl
      have e2 : ∀ (A B : Option (List T_trie_Hit)), ix2 1 A B = B := fun _ _ => rfl
      have hs : ∀ x : T_trie_Hit, RN x.fNet → hasS x.fNet a = (decide (x.fNet.fAddr.fV6 = a.fV6) && cov a x) := fun x hx => by
        unfold hasS cov
        rw [(rn_iff hx.ok).2 hx, hr, Bool.true_and, Bool.true_and]
      have same : ∀ (v : Bool) (l : List T_trie_Hit), (∀ x ∈ l, RN x.fNet ∧ x.fNet.fAddr.fV6 = v) → l.filter (fun x => hasS x.fNet a) = if v = a.fV6 then l.filter (cov a) else [] := by
        intro v l hl
        split
        · rename_i e
          apply List.filter_congr
          intro x hx
          rw [hs x (hl x hx).1, (hl x hx).2, decide_eq_true e, Bool.true_and]
        · rename_i e
          apply filter_none
          intro x hx
          rw [hs x (hl x hx).1, (hl x hx).2, decide_eq_false e, Bool.false_and]
      have s4 := same false (items r4) fun x hx => ⟨(items_below hg.1 x hx).1, (items_below hg.1 x hx).2.1⟩
      have s6 := same true (items r6) fun x hx => ⟨(items_below hg.2 x hx).1, (items_below hg.2 x hx).2.1⟩
      simp only [itemsT, covS, List.filter_append, s4, s6]
      cases hv : a.fV6 with
      | false =>
        simp only [Bool.false_eq_true, if_false, if_true]
        rw [need_yes (by omega), e1, cover_loop ha hr hv 1000000 r4 0 f0 [] hg.1 (fun i hi => by omega) (by omega) (by omega) (by simp)]
        simp
      | true =>
        simp only [if_true]
        rw [need_yes (by omega), e2, cover_loop ha hr hv 1000000 r6 0 f0 [] hg.2 (fun i hi => by omega) (by omega) (by omega) (by simp)]
        simp

theorem hasS_facts {p : T_api_Net} {a : T_api_Addr} (hp : RN p) (h : hasS p a = true) : p.fAddr.fV6 = a.fV6 ∧ ∀ i, i < p.fBits.toNat → bitN a i = bitN p.fAddr i := by
  unfold hasS at h
  simp only [Bool.and_eq_true, decide_eq_true_eq] at h
  exact ⟨h.2.1.2, h.2.2⟩

theorem cov_rise {L : List T_trie_Hit} (hs : SH L) (hr : ∀ x ∈ L, RN x.fNet) (a : T_api_Addr) : (covS L a).Pairwise fun x y => x.fNet.fBits < y.fNet.fBits := by
  have h0 : (covS L a).Pairwise fun x y => cmpN x.fNet y.fNet < 0 := List.Pairwise.filter _ hs
  refine List.Pairwise.imp_of_mem (fun {x y} hx hy hxy => ?_) h0
  simp only [covS, List.mem_filter] at hx hy
  have rx := hr x hx.1
  have ry := hr y hy.1
  obtain ⟨x1, x2⟩ := hasS_facts rx hx.2
  obtain ⟨y1, y2⟩ := hasS_facts ry hy.2
  have := rx.nn; have := ry.nn
  by_cases q : x.fNet.fBits < y.fNet.fBits
  · exact q
  exfalso
  by_cases e : x.fNet.fBits = y.fNet.fBits
  · have : x.fNet = y.fNet := by
      refine rn_ext rx ry (x1.trans y1.symm) ?_
      unfold bs
      rw [e]
      apply List.map_congr_left
      intro i hi
      have hi : i < y.fNet.fBits.toNat := by simpa using hi
      rw [← x2 i (by omega), ← y2 i hi]
    rw [this] at hxy
    exact cmpN_irrefl hxy
  · exact cmpN_asym hxy (cmpN_pre ry rx (y1.trans x1.symm) (by omega) fun i hi => by rw [← y2 i hi, x2 i (by omega)])

theorem part_keys : ∀ (F : List T_trie_Hit), F.Pairwise (fun x y => x.fNet.fBits < y.fNet.fBits) → ∀ k : Nat, F.filter (fun x => decide (x.fNet.fBits < ((k + 1 : Nat) : Int))) = F.filter (fun x => decide (x.fNet.fBits < (k : Int))) ++ F.filter (fun x => x.fNet.fBits == (k : Int))
  | [], _, _ => rfl
  | x :: r, h, k => by
    obtain ⟨hx, hr⟩ := List.pairwise_cons.1 h
    have ih := part_keys r hr k
    by_cases c1 : x.fNet.fBits < (k : Int)
    · have c2 : x.fNet.fBits < ((k + 1 : Nat) : Int) := by omega
      have c3 : (x.fNet.fBits == (k : Int)) = false := by rw [beq_eq_false_iff_ne]; omega
      simp only [List.filter_cons, decide_eq_true c1, decide_eq_true c2, c3, if_true, Bool.false_eq_true, if_false, ih, List.cons_append]
    · have e1 : (x :: r).filter (fun x => decide (x.fNet.fBits < (k : Int))) = [] := filter_none fun y hy => by
        rcases List.mem_cons.1 hy with e | hy
        · rw [e]; exact decide_eq_false c1
        · have := hx y hy
          exact decide_eq_false (by omega)
      rw [e1, List.nil_append]
      apply List.filter_congr
      intro y hy
      have : ¬ y.fNet.fBits < (k : Int) := by
        rcases List.mem_cons.1 hy with e | hy
        · rw [e]; exact c1
        · have := hx y hy; omega
      rw [Bool.eq_iff_iff, decide_eq_true_eq, beq_iff_eq]
      omega

theorem rcover_in (L : List T_trie_Hit) (a : T_api_Addr) (hl : L.length ≤ 10000) (ha : a.ok) (hr : ∀ x ∈ L, RN x.fNet) (b : Nat) (k : Int → List RHit → T_api_Addr → Option (List RHit)) : ∀ fu (i : Nat) (w : List RHit), i ≤ L.length → L.length - i < fu → w.length ≤ 90000000 + i →
    g_doormanref11_Cover_c1 (L.map cvH) (b : Int) a k fu (i : Int) w = k (add64 (b : Int) 1) (w ++ ((covS (L.drop i) a).filter fun x => x.fNet.fBits == (b : Int)).map cvH) a := by
  have hm : L.length ≤ maxLen := by unfold maxLen; omega
  intro fu
  induction fu with
  | zero => intro _ _ _ h; omega
  | succ fu ih =>
    intro i w hi hf hw
    simp only [g_doormanref11_Cover_c1, cond_decide', List.length_map]
    by_cases h : i < L.length
    · rw [if_pos (by omega), need_yes ⟨by omega, by omega⟩]
      simp only [Int.toNat_natCast]
      have hx := hr _ (getD_mem L T_trie_Hit.d i h)
      rw [need_yes ⟨by simp; omega, by unfold maxLen; simp; omega⟩, add1 h hm, ih (i + 1) w (by omega) (by omega) (by omega), ih (i + 1) _ (by omega) (by omega) (by simp; omega), drop_cons L T_trie_Hit.d i h]
      simp only [getD_map cvH L T_trie_Hit.d T_doormanref11_Hit.d i h]
      generalize L.getD i T_trie_Hit.d = x at hx ⊢
      rw [show (cvH x).fNet = x.fNet from rfl, ref7_has _ _ hx.ok ha]
      simp only [Option.bind_some, covS]
      cases e1 : (x.fNet.fBits == (b : Int)) with
      | false =>
        simp only [cond_false, List.filter_cons]
        cases hasS x.fNet a <;> simp [e1]
      | true =>
        simp only [cond_true, List.filter_cons]
        cases hasS x.fNet a <;> simp [e1]
    · rw [if_neg (by omega), List.drop_eq_nil_of_le (by omega)]
      simp [covS]

theorem rcover_out (L : List T_trie_Hit) (a : T_api_Addr) (hl : L.length ≤ 10000) (ha : a.ok) (hs : SH L) (hr : ∀ x ∈ L, RN x.fNet) : ∀ fu (b : Nat), b ≤ wid a + 1 → wid a + 1 - b < fu →
    g_doormanref11_Cover_c0 (L.map cvH) fu (b : Int) (((covS L a).filter fun x => decide (x.fNet.fBits < (b : Int))).map cvH) a = some ((covS L a).map cvH) := by
  have hw := wid_le a
  intro fu
  induction fu with
  | zero => intro _ _ h; omega
  | succ fu ih =>
    intro b hb hf
    have hlen : ((covS L a).filter fun x => decide (x.fNet.fBits < (b : Int))).length ≤ L.length := Nat.le_trans (List.length_filter_le _ _) (List.length_filter_le _ _)
    simp only [g_doormanref11_Cover_c0, rbits_eq, Option.bind_some, cond_decide', List.length_map]
    by_cases h : b ≤ wid a
    · rw [if_pos (by omega)]
      have := rcover_in L a hl ha hr b (g_doormanref11_Cover_c0 (L.map cvH) fu) ((((L.length : Nat) : Int) - (0 : Int)).toNat + 2) 0 (((covS L a).filter fun x => decide (x.fNet.fBits < (b : Int))).map cvH) (by omega) (by omega) (by simp only [List.length_map]; omega)
      simp only [Int.natCast_zero, List.drop_zero] at this
      rw [this, add1' (by omega), ← List.map_append, ← part_keys _ (cov_rise hs hr a) b]
      exact ih (b + 1) (by omega) (by omega)
    · rw [if_neg (by omega)]
      congr 1
      congr 1
      rw [List.filter_eq_self]
      intro x hx
      simp only [covS, List.mem_filter] at hx
      have rx := hr x hx.1
      have := rx.le
      have hv := (hasS_facts rx hx.2).1
      have hwx : wid x.fNet.fAddr = wid a := by unfold wid; rw [hv]
      rw [decide_eq_true_eq]
      omega

theorem rcover (L : List T_trie_Hit) (a : T_api_Addr) (hl : L.length ≤ 10000) (ha : a.ok) (hs : SH L) (hr : ∀ x ∈ L, RN x.fNet) : g_doormanref11_Cover (L.map cvH) a = some ((covS L a).map cvH) := by
  have hw := wid_le a
  have := rcover_out L a hl ha hs hr 1000000 0 (by omega) (by omega)
  have e : ((covS L a).filter fun x => decide (x.fNet.fBits < ((0 : Nat) : Int))) = [] := filter_none fun x hx => by
    have rx := hr x (List.mem_filter.1 hx).1
    have := rx.nn
    exact decide_eq_false (by omega)
  rw [e, Int.natCast_zero] at this
  unfold g_doormanref11_Cover
  exact this

theorem tsame_loop (L : List T_trie_Hit) (hl : L.length ≤ maxLen) : ∀ fu (i : Nat), i ≤ L.length → L.length - i < fu → g_doormanlaw11_same_c0 L (L.map cvH) fu (i : Int) = some true := by
  intro fu
  induction fu with
  | zero => intro _ _ h; omega
  | succ fu ih =>
    intro i hi hf
    simp only [g_doormanlaw11_same_c0, cond_decide', List.length_map]
    by_cases h : i < L.length
    · rw [if_pos (by omega), if_pos (by omega), need_yes ⟨by omega, by omega⟩, need_yes ⟨by omega, by omega⟩]
      simp only [Int.toNat_natCast]
      rw [add1 h hl, ih (i + 1) (by omega) (by omega)]
      simp only [getD_map cvH L T_trie_Hit.d T_doormanref11_Hit.d i h]
      simp [cvH]
    · rw [if_neg (by omega)]

theorem tsame (L : List T_trie_Hit) (hl : L.length ≤ maxLen) : g_doormanlaw11_same L (L.map cvH) = some true := by
  have := tsame_loop L hl ((((L.length : Nat) : Int) - (0 : Int)).toNat + 2) 0 (by omega) (by omega)
  simp only [Int.natCast_zero] at this
  simp only [g_doormanlaw11_same, List.length_map, bne_self_eq_false, cond_false]
  exact this

theorem awake11 : g_doormanlaw11_awake = some true := by decide +kernel

/-! ### The statements -/
abbrev Act11 := T_doormanlaw11_Act
def actS (L : List T_trie_Hit) (x : Act11) : List T_trie_Hit := if x.fKind == 0 then wS L x.fNet x.fV else withoutS L x.fNet

theorem actS_len (L : List T_trie_Hit) (x : Act11) : (actS L x).length ≤ L.length + 1 := by
  unfold actS
  split
  · exact wS_len _ _ _
  · have : (withoutS L x.fNet).length ≤ L.length := List.length_filter_le _ _
    omega

theorem vt_does {t : N_trie_Trie} {L : List T_trie_Hit} (h : VT t L) (hs : L.length < 9000) (x : Act11) (hx : x.ok) : ∃ t', g_doormanlaw11_does t x = some t' ∧ VT t' (actS L x) := by
  unfold g_doormanlaw11_does actS
  cases hk : (x.fKind == (0 : Int)) with
  | true =>
    obtain ⟨t', w1, w2⟩ := vt_with h x.fNet hx.2.1.1 x.fV (by omega)
    rw [cond_true, w1]
    exact ⟨t', rfl, by simpa using w2⟩
  | false =>
    obtain ⟨t', w1, w2⟩ := vt_without h x.fNet hx.2.1.1
    rw [cond_false, w1]
    exact ⟨t', rfl, by simpa using w2⟩

theorem plays_loop (l : List Act11) (hl : l.length ≤ 60) (hok : ∀ x ∈ l, x.ok) (a : T_api_Addr) (n : T_api_Net) (ha : a.ok) (hn : n.fAddr.ok) : ∀ fu (i : Nat) (t : N_trie_Trie) (L : List T_trie_Hit), i ≤ l.length → l.length - i < fu → VT t L → L.length ≤ i →
    g_doormanlaw11_TriePlays_c0 l fu t (L.map cvH) (i : Int) a n = some true := by
  have hm : l.length ≤ maxLen := by unfold maxLen; omega
  intro fu
  induction fu with
  | zero => intro _ _ _ _ h; omega
  | succ fu ih =>
    intro i t L hi hf hv hL
    simp only [g_doormanlaw11_TriePlays_c0, cond_decide', awake11, Option.bind_some]
    by_cases h : i < l.length
    · rw [if_pos (by omega), need_yes ⟨by omega, by omega⟩]
      simp only [Int.toNat_natCast]
      have hx := hok _ (getD_mem l T_doormanlaw11_Act.d i h)
      generalize l.getD i T_doormanlaw11_Act.d = x at hx ⊢
      obtain ⟨t', w1, w2⟩ := vt_does hv (by omega) x hx
      have hlen := actS_len L x
      rw [w1]
      simp only [Option.bind_some]
      have rest : g_doormanlaw11_TriePlays_c1 l (i : Int) a n (g_doormanlaw11_TriePlays_c0 l fu) t' ((actS L x).map cvH) = some true := by
        unfold g_doormanlaw11_TriePlays_c1
        have hc : (covS (actS L x) a).length ≤ (actS L x).length := List.length_filter_le _ _
        have t1 := tsame (actS L x) (by unfold maxLen; omega)
        have t2 := tsame (covS (actS L x) a) (by unfold maxLen; omega)
        rw [vt_get w2 n hn, rget _ n (by omega), trie_len, w2.cnt, vt_all w2, vt_cover w2 a ha, rcover _ a (by omega) ha w2.sorted w2.right]
        simp only [Option.bind_some, List.length_map, bne_self_eq_false, cond_false, Bool.not_true, beq_self_eq_true, t1, t2]
        rw [add1 h hm]
        exact ih (i + 1) t' _ (by omega) (by omega) w2 (by omega)
      rw [rwith L _ _ (by omega) hx.2.1.1, rwithout L _ (by omega)]
      unfold actS at rest
      simp only [Option.bind_some]
      cases hk : (x.fKind == (0 : Int)) with
      | true => rw [hk] at rest; simp only [if_true] at rest; rw [cond_true]; exact rest
      | false => rw [hk] at rest; simp only [Bool.false_eq_true, if_false] at rest; rw [cond_false]; exact rest
    · rw [if_neg (by omega)]

theorem TriePlays_plain (l : List Act11) (a : T_api_Addr) (n : T_api_Net) (hl : okL T_doormanlaw11_Act.ok l) (ha : a.ok) (hn : n.ok) : g_doormanlaw11_TriePlays l a n = some true := by
  simp only [g_doormanlaw11_TriePlays, awake11, cond_decide', Option.bind_some, trie_new]
  split
  · rfl
  rename_i h1
  have := plays_loop l (by omega) hl.2 a n ha hn.1 ((((l.length : Nat) : Int) - (0 : Int)).toNat + 2) 0 _ [] (by omega) (by omega) vt_new (by simp)
  simp only [Int.natCast_zero, List.map_nil] at this
  exact this

theorem stays_eq (L : List T_trie_Hit) (hl : L.length ≤ maxLen) (a0 a1 : List Act11) (v5 : N_trie_Trie) (v6 : Int) (v8 : Int) (v9 : N_trie_Trie) (v10 : Int) (k0 : N_trie_Trie → Int → Option Bool) (k1 : List T_trie_Hit → Int → N_trie_Trie → Int → Option Bool) : ∀ fu (i : Nat), i ≤ L.length → L.length - i < fu →
    g_doormanlaw11_TrieStays_c2 a0 a1 v5 v6 L v8 v9 v10 k0 k1 fu L (i : Int) = some true := by
  intro fu
  induction fu with
  | zero => intro _ _ h; omega
  | succ fu ih =>
    intro i hi hf
    simp only [g_doormanlaw11_TrieStays_c2, cond_decide', awake11, Option.bind_some]
    by_cases h : i < L.length
    · rw [if_pos (by omega), if_pos (by omega), need_yes ⟨by omega, by omega⟩, need_yes ⟨by omega, by omega⟩]
      rw [add1 h hl, ih (i + 1) (by omega) (by omega)]
      simp
    · rw [if_neg (by omega)]

theorem stays_more (l more : List Act11) (hm1 : more.length ≤ 60) (hok : ∀ x ∈ more, x.ok) {t : N_trie_Trie} {L : List T_trie_Hit} (hv : VT t L) (hL : L.length ≤ 60) (v6 : Int) (k0 : N_trie_Trie → Int → Option Bool) : ∀ fu (i : Nat) (x : N_trie_Trie) (X : List T_trie_Hit), i ≤ more.length → more.length - i < fu → VT x X → X.length ≤ 60 + i →
    g_doormanlaw11_TrieStays_c1 l more t v6 k0 fu L (cntT t) x (i : Int) = some true := by
  have hm : more.length ≤ maxLen := by unfold maxLen; omega
  intro fu
  induction fu with
  | zero => intro _ _ _ _ h; omega
  | succ fu ih =>
    intro i x X hi hf hx hX
    simp only [g_doormanlaw11_TrieStays_c1, cond_decide']
    by_cases h : i < more.length
    · rw [if_pos (by omega), need_yes ⟨by omega, by omega⟩]
      simp only [Int.toNat_natCast]
      have ha := hok _ (getD_mem more T_doormanlaw11_Act.d i h)
      generalize more.getD i T_doormanlaw11_Act.d = y at ha ⊢
      obtain ⟨x', w1, w2⟩ := vt_does hx (by omega) y ha
      obtain ⟨t', w3, _⟩ := vt_does hv (by omega) y ha
      have hlen := actS_len X y
      rw [w1, w3]
      simp only [Option.bind_some]
      rw [add1 h hm]
      exact ih (i + 1) x' _ (by omega) (by omega) w2 (by omega)
    · rw [if_neg (by omega), vt_all hv, trie_len]
      simp only [Option.bind_some, bne_self_eq_false, cond_false]
      have := stays_eq L (by unfold maxLen; omega) l more t v6 (cntT t) x (i : Int) k0 (g_doormanlaw11_TrieStays_c1 l more t v6 k0 fu) ((((L.length : Nat) : Int) - (0 : Int)).toNat + 2) 0 (by omega) (by omega)
      simp only [Int.natCast_zero] at this
      exact this

theorem stays_first (l more : List Act11) (hl : l.length ≤ 60) (hok : ∀ x ∈ l, x.ok) (hm1 : more.length ≤ 60) (hok1 : ∀ x ∈ more, x.ok) : ∀ fu (i : Nat) (t : N_trie_Trie) (L : List T_trie_Hit), i ≤ l.length → l.length - i < fu → VT t L → L.length ≤ i →
    g_doormanlaw11_TrieStays_c0 l more fu t (i : Int) = some true := by
  have hm : l.length ≤ maxLen := by unfold maxLen; omega
  intro fu
  induction fu with
  | zero => intro _ _ _ _ h; omega
  | succ fu ih =>
    intro i t L hi hf hv hL
    simp only [g_doormanlaw11_TrieStays_c0, cond_decide']
    by_cases h : i < l.length
    · rw [if_pos (by omega), need_yes ⟨by omega, by omega⟩]
      simp only [Int.toNat_natCast]
      have ha := hok _ (getD_mem l T_doormanlaw11_Act.d i h)
      generalize l.getD i T_doormanlaw11_Act.d = y at ha ⊢
      obtain ⟨t', w1, w2⟩ := vt_does hv (by omega) y ha
      have hlen := actS_len L y
      rw [w1]
      simp only [Option.bind_some]
      rw [add1 h hm]
      exact ih (i + 1) t' _ (by omega) (by omega) w2 (by omega)
    · rw [if_neg (by omega), vt_all hv, trie_len]
      simp only [Option.bind_some]
      have := stays_more l more hm1 hok1 hv (by omega) (i : Int) (g_doormanlaw11_TrieStays_c0 l more fu) ((((more.length : Nat) : Int) - (0 : Int)).toNat + 2) 0 t L (by omega) (by omega) hv (by omega)
      simp only [Int.natCast_zero] at this
      exact this

theorem TrieStays_plain (l more : List Act11) (hl : okL T_doormanlaw11_Act.ok l) (hmo : okL T_doormanlaw11_Act.ok more) : g_doormanlaw11_TrieStays l more = some true := by
  simp only [g_doormanlaw11_TrieStays, awake11, cond_decide', Option.bind_some, trie_new]
  split
  · rfl
  split
  · rfl
  rename_i h1 h2
  have := stays_first l more (by omega) hl.2 (by omega) hmo.2 ((((l.length : Nat) : Int) - (0 : Int)).toNat + 2) 0 _ [] (by omega) (by omega) vt_new (by simp)
  simp only [Int.natCast_zero] at this
  exact this

/-! ### The order is not to be seen -/
def acD (l : List Act11) (i : Nat) : Act11 := l.getD i T_doormanlaw11_Act.d
def hitA (x : Act11) : T_trie_Hit := ⟨x.fNet, x.fV⟩

theorem form_eq (L : List T_trie_Hit) (hl : L.length ≤ maxLen) (a0 : List Act11) (a1 v5 v1 : Int) (v7 v8 : N_trie_Trie) (v9 : Int) (k0 : Int → Option Bool) (k3 : N_trie_Trie → N_trie_Trie → Int → Option Bool) : ∀ fu (i : Nat), i ≤ L.length → L.length - i < fu →
    g_doormanlaw11_TrieForm_c4 a0 a1 v5 v1 v7 v8 v9 k0 k3 fu L L (i : Int) = some true := by
  intro fu
  induction fu with
  | zero => intro _ _ h; omega
  | succ fu ih =>
    intro i hi hf
    simp only [g_doormanlaw11_TrieForm_c4, cond_decide', awake11, Option.bind_some]
    by_cases h : i < L.length
    · rw [if_pos (by omega), if_pos (by omega), need_yes ⟨by omega, by omega⟩, need_yes ⟨by omega, by omega⟩]
      rw [add1 h hl, ih (i + 1) (by omega) (by omega)]
      simp
    · rw [if_neg (by omega)]

/-- What subnets that were put in, in whatever order, make. -/
def Made (l : List Act11) (κ : Nat → Nat) (i : Nat) (L : List T_trie_Hit) : Prop := ∀ x, x ∈ L ↔ ∃ j, j < i ∧ rightC (acD l (κ j)).fNet = true ∧ x = hitA (acD l (κ j))

theorem Made.step {l : List Act11} {κ : Nat → Nat} {i : Nat} {L : List T_trie_Hit} (h : Made l κ i L) (hne : ∀ j, j < i → (acD l (κ j)).fNet ≠ (acD l (κ i)).fNet) : Made l κ (i + 1) (wS L (acD l (κ i)).fNet (acD l (κ i)).fV) := by
  intro x
  unfold wS
  cases hr : rightC (acD l (κ i)).fNet with
  | true =>
    simp only [if_true]
    rw [mem_withS, h x]
    constructor
    · rintro (e | ⟨⟨j, j1, j2, j3⟩, _⟩)
      · exact ⟨i, by omega, hr, e⟩
      · exact ⟨j, by omega, j2, j3⟩
    · rintro ⟨j, j1, j2, j3⟩
      by_cases e : j = i
      · subst e; exact .inl j3
      · exact .inr ⟨⟨j, by omega, j2, j3⟩, by rw [j3]; exact hne j (by omega)⟩
  | false =>
    simp only [Bool.false_eq_true, if_false]
    rw [h x]
    constructor
    · rintro ⟨j, j1, j2, j3⟩; exact ⟨j, by omega, j2, j3⟩
    · rintro ⟨j, j1, j2, j3⟩
      by_cases e : j = i
      · subst e; rw [hr] at j2; cases j2
      · exact ⟨j, by omega, j2, j3⟩

def kap (n at_ j : Nat) : Nat := n - 1 - (j + at_) % n
theorem kap_lt {n at_ j : Nat} (h : 0 < n) : kap n at_ j < n := by unfold kap; omega
theorem kap_inj {n at_ i j : Nat} (hi : i < n) (hj : j < n) (e : kap n at_ i = kap n at_ j) : i = j := by
  unfold kap at e
  have h1 := Nat.mod_lt (i + at_) (show n > 0 by omega)
  have h2 := Nat.mod_lt (j + at_) (show n > 0 by omega)
  have e2 : (i + at_) % n = (j + at_) % n := by omega
  have d1 := Nat.div_add_mod (i + at_) n
  have d2 := Nat.div_add_mod (j + at_) n
  rw [e2] at d1
  by_cases q : (i + at_) / n = (j + at_) / n
  · rw [q] at d1; omega
  · rcases Nat.lt_or_gt_of_ne q with q | q
    · have : n * ((i + at_) / n + 1) ≤ n * ((j + at_) / n) := Nat.mul_le_mul_left _ q
      rw [Nat.mul_add] at this; omega
    · have : n * ((j + at_) / n + 1) ≤ n * ((i + at_) / n) := Nat.mul_le_mul_left _ q
      rw [Nat.mul_add] at this; omega
theorem kap_sur {n at_ k : Nat} (hk : k < n) (ha : at_ < n) : ∃ j, j < n ∧ kap n at_ j = k := by
  unfold kap
  by_cases h : at_ ≤ n - 1 - k
  · exact ⟨n - 1 - k - at_, by omega, by rw [show n - 1 - k - at_ + at_ = n - 1 - k by omega, Nat.mod_eq_of_lt (by omega)]; omega⟩
  · exact ⟨n + (n - 1 - k) - at_, by omega, by rw [show n + (n - 1 - k) - at_ + at_ = n - 1 - k + n by omega, Nat.add_mod_right, Nat.mod_eq_of_lt (by omega)]; omega⟩

theorem form_loop (l : List Act11) (hl : l.length ≤ 60) (h0 : 0 < l.length) (hok : ∀ x ∈ l, x.ok) (hne : ∀ i j, i < l.length → j < l.length → i ≠ j → (acD l i).fNet ≠ (acD l j).fNet) (at_ : Nat) (hat : at_ < l.length) (a1 v5 : Int) (k0 : Int → Option Bool) : ∀ fu (i : Nat) (a b : N_trie_Trie) (A B : List T_trie_Hit), i ≤ l.length → l.length - i < fu → VT a A → VT b B → A.length ≤ i → B.length ≤ i → Made l id i A → Made l (kap l.length at_) i B →
    g_doormanlaw11_TrieForm_c3 l a1 v5 (at_ : Int) k0 fu a b (i : Int) = some true := by
  have hm : l.length ≤ maxLen := by unfold maxLen; omega
  intro fu
  induction fu with
  | zero => intro _ _ _ _ _ _ h; omega
  | succ fu ih =>
    intro i a b A B hi hf ha hb hA hB mA mB
    simp only [g_doormanlaw11_TrieForm_c3, cond_decide']
    by_cases h : i < l.length
    · rw [if_pos (by omega), need_yes ⟨by omega, by omega⟩]
      simp only [Int.toNat_natCast]
      have hx := hok _ (getD_mem l T_doormanlaw11_Act.d i h)
      have hk := kap_lt (at_ := at_) (j := i) h0
      have hy := hok _ (getD_mem l T_doormanlaw11_Act.d _ hk)
      have ek : sub64 (sub64 ((l.length : Nat) : Int) (1 : Int)) (Int.tmod (add64 (i : Int) (at_ : Int)) ((l.length : Nat) : Int)) = ((kap l.length at_ i : Nat) : Int) := by
        rw [add64_id (by omega) (by omega), show (i : Int) + (at_ : Int) = ((i + at_ : Nat) : Int) by omega, show Int.tmod ((i + at_ : Nat) : Int) ((l.length : Nat) : Int) = (((i + at_) % l.length : Nat) : Int) from rfl]
        have := Nat.mod_lt (i + at_) h0
        unfold kap
        rw [sub64_id (a := ((l.length : Nat) : Int)) (by omega) (by omega), sub64_id (by omega) (by omega)]
        omega
      obtain ⟨a', w1, w2⟩ := vt_with ha (acD l i).fNet hx.2.1.1 (acD l i).fV (by omega)
      obtain ⟨b', w3, w4⟩ := vt_with hb (acD l (kap l.length at_ i)).fNet hy.2.1.1 (acD l (kap l.length at_ i)).fV (by omega)
      unfold acD at w1 w3
      rw [w1]
      simp only [Option.bind_some]
      rw [need_yes (by omega), ek, need_yes ⟨by omega, by omega⟩]
      simp only [Int.toNat_natCast]
      rw [w3]
      simp only [Option.bind_some]
      rw [add1 h hm]
      have l1 := wS_len A (acD l i).fNet (acD l i).fV
      have l2 := wS_len B (acD l (kap l.length at_ i)).fNet (acD l (kap l.length at_ i)).fV
      exact ih (i + 1) a' b' _ _ (by omega) (by omega) w2 w4 (by omega) (by omega) (mA.step fun j hj => hne j i (by omega) h (by omega)) (mB.step fun j hj => hne _ _ (kap_lt h0) hk fun e => by
        have := kap_inj (by omega) h e; omega)
    · have ei : i = l.length := by omega
      subst ei
      have hAB : A = B := sh_eq A B ha.sorted hb.sorted fun x => by
        rw [mA x, mB x]
        constructor
        · rintro ⟨j, j1, j2, j3⟩
          obtain ⟨k, k1, k2⟩ := kap_sur (at_ := at_) j1 hat
          exact ⟨k, k1, by rw [k2]; exact j2, by rw [k2]; exact j3⟩
        · rintro ⟨j, j1, j2, j3⟩
          exact ⟨_, kap_lt (at_ := at_) (j := j) h0, j2, j3⟩
      subst hAB
      rw [if_neg (by omega), vt_all ha, vt_all hb, trie_len, ha.cnt]
      simp only [Option.bind_some, bne_self_eq_false, cond_false]
      have := form_eq A (by unfold maxLen; omega) l a1 v5 (at_ : Int) a b (l.length : Int) k0 (g_doormanlaw11_TrieForm_c3 l a1 v5 (at_ : Int) k0 fu) ((((A.length : Nat) : Int) - (0 : Int)).toNat + 2) 0 (by omega) (by omega)
      simp only [Int.natCast_zero] at this
      exact this

theorem form_pairs (l : List Act11) (hl : l.length ≤ 60) (a1 : Int) (i : Nat) (hi : i < l.length) (k0 : Int → Option Bool) (hk : (∀ j, j < i → (acD l i).fNet ≠ (acD l j).fNet) → k0 ((i + 1 : Nat) : Int) = some true) : ∀ fu (k : Nat), k ≤ i → i - k < fu → (∀ j, j < k → (acD l i).fNet ≠ (acD l j).fNet) →
    g_doormanlaw11_TrieForm_c1 l a1 (i : Int) k0 fu (k : Int) = some true := by
  have hm : l.length ≤ maxLen := by unfold maxLen; omega
  intro fu
  induction fu with
  | zero => intro _ _ h; omega
  | succ fu ih =>
    intro k hki hf hn
    simp only [g_doormanlaw11_TrieForm_c1, cond_decide', awake11, Option.bind_some]
    by_cases h : k < i
    · rw [if_pos (by omega), need_yes ⟨by omega, by omega⟩, need_yes ⟨by omega, by omega⟩]
      simp only [Int.toNat_natCast]
      split
      · rfl
      · rename_i e
        rw [add1 (show k < l.length by omega) hm]
        refine ih (k + 1) (by omega) (by omega) fun j hj => ?_
        by_cases q : j = k
        · subst q; exact e
        · exact hn j (by omega)
    · rw [if_neg (by omega), add1 hi hm]
      exact hk fun j hj => hn j (by omega)

theorem form_start (l : List Act11) (hl : l.length ≤ 60) (h0 : 0 < l.length) (hok : ∀ x ∈ l, x.ok) (hne : ∀ i j, i < l.length → j < l.length → i ≠ j → (acD l i).fNet ≠ (acD l j).fNet) (at_ : Nat) (hat : at_ < l.length) (a1 v5 : Int) (k0 : Int → Option Bool) : g_doormanlaw11_TrieForm_c2 l a1 v5 k0 (at_ : Int) = some true := by
  unfold g_doormanlaw11_TrieForm_c2
  rw [trie_new]
  simp only [Option.bind_some]
  have := form_loop l hl h0 hok hne at_ hat a1 v5 k0 ((((l.length : Nat) : Int) - (0 : Int)).toNat + 2) 0 _ _ [] [] (by omega) (by omega) vt_new vt_new (by simp) (by simp) (fun x => by simp) (fun x => by simp)
  simp only [Int.natCast_zero] at this
  exact this

theorem form_out (l : List Act11) (hl : l.length ≤ 60) (h0 : 0 < l.length) (hok : ∀ x ∈ l, x.ok) (a1 : Int) : ∀ fu (i : Nat), i ≤ l.length → l.length - i < fu → (∀ p q, p < i → q < p → (acD l p).fNet ≠ (acD l q).fNet) →
    g_doormanlaw11_TrieForm_c0 l a1 fu (i : Int) = some true := by
  intro fu
  induction fu with
  | zero => intro _ _ h; omega
  | succ fu ih =>
    intro i hi hf hn
    simp only [g_doormanlaw11_TrieForm_c0, cond_decide']
    by_cases h : i < l.length
    · rw [if_pos (by omega)]
      have := form_pairs l hl a1 i h (g_doormanlaw11_TrieForm_c0 l a1 fu) (fun hq => ih (i + 1) (by omega) (by omega) fun p q hp hqp => by
        by_cases e : p = i
        · subst e; exact hq q hqp
        · exact hn p q (by omega) hqp) ((((i : Nat) : Int) - (0 : Int)).toNat + 2) 0 (by omega) (by omega) (fun j hj => by omega)
      simp only [Int.natCast_zero] at this
      exact this
    · have ei : i = l.length := by omega
      subst ei
      have hne : ∀ i j, i < l.length → j < l.length → i ≠ j → (acD l i).fNet ≠ (acD l j).fNet := fun i j hi hj hij => by
        rcases Nat.lt_or_gt_of_ne hij with q | q
        · exact fun e => hn j i hj q e.symm
        · exact hn i j hi q
      rw [if_neg (by omega)]
      split
      · have := form_start l hl h0 hok hne 0 (by omega) a1 (l.length : Int) (g_doormanlaw11_TrieForm_c0 l a1 fu)
        simpa using this
      · split
        · have := form_start l hl h0 hok hne 0 (by omega) a1 (l.length : Int) (g_doormanlaw11_TrieForm_c0 l a1 fu)
          simpa using this
        · rename_i q1 q2
          have := form_start l hl h0 hok hne a1.toNat (by omega) a1 (l.length : Int) (g_doormanlaw11_TrieForm_c0 l a1 fu)
          rwa [show ((a1.toNat : Nat) : Int) = a1 by omega] at this

theorem TrieForm_plain (l : List Act11) (a1 : Int) (hl : okL T_doormanlaw11_Act.ok l) (_ : okI .i64 a1) : g_doormanlaw11_TrieForm l a1 = some true := by
  simp only [g_doormanlaw11_TrieForm, awake11, cond_decide', Option.bind_some]
  split
  · rfl
  rename_i h1
  cases hq : (((l.length : Nat) : Int) == (0 : Int)) with
  | true => rw [cond_true]
  | false =>
    rw [cond_false]
    rw [beq_eq_false_iff_ne] at hq
    have := form_out l (by omega) (by omega) hl.2 a1 ((((l.length : Nat) : Int) - (0 : Int)).toNat + 2) 0 (by omega) (by omega) (fun p q hp => by omega)
    simp only [Int.natCast_zero] at this
    exact this

end Go.Proofs.Ytaakonlnlfbfkaa
