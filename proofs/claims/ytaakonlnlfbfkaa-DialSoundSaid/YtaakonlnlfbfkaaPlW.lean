/-
  PLAIN LAWS: how long an address is banned.
-/
import Derived.Test.YtaakonlnlfbfkaaPlV
namespace Go.Proofs.Ytaakonlnlfbfkaa
set_option linter.unusedSimpArgs false
set_option linter.unusedVariables false

theorem items_apart {v : Bool} : ∀ {nd : N_trie_node} {n : Nat} {f : Nat → Bool}, Grown v nd n f → (items nd).Pairwise fun x y => x.fNet ≠ y.fNet
  | .nil, _, _, _ => List.Pairwise.nil
  | .mk h has k0 k1, n, f, hg => by
    obtain ⟨g1, g2, g3, g4, g5⟩ := hg
    have b0 := fun x hx => bel_ext.1 (items_below g4 x hx).2.2
    have b1 := fun x hx => bel_ext.1 (items_below g5 x hx).2.2
    have hh : ∀ x ∈ (if has then [h] else []), x.fNet = h.fNet := fun x hx => by
      split at hx
      · rw [List.mem_singleton] at hx; rw [hx]
      · simp at hx
    simp only [items]
    rw [List.pairwise_append, List.pairwise_append]
    refine ⟨⟨?_, items_apart g4, fun x hx y hy e => ?_⟩, items_apart g5, fun x hx y hy e => ?_⟩
    · split
      · exact List.pairwise_singleton _ _
      · exact List.Pairwise.nil
    · have := (b0 y hy).1
      rw [← e, hh x hx] at this; omega
    · rcases List.mem_append.1 hx with hx | hx
      · have := (b1 y hy).1
        rw [← e, hh x hx] at this; omega
      · have h1 := (b0 x hx).2.2
        have h2 := (b1 y hy).2.2
        rw [e, h2] at h1; cases h1

theorem itemsT_apart {t : N_trie_Trie} (h : GT t) : (itemsT t).Pairwise fun x y => x.fNet ≠ y.fNet := by
  cases t with
  | nil => exact h.elim
  | mk r4 r6 k =>
    simp only [itemsT]
    rw [List.pairwise_append]
    refine ⟨items_apart h.1, items_apart h.2, fun x hx y hy e => ?_⟩
    have h1 := (items_below h.1 x hx).2.1
    have h2 := (items_below h.2 y hy).2.1
    rw [e, h2] at h1; cases h1

theorem hitOf_yes {l : List T_trie_Hit} {n : T_api_Net} (h : (hitOf l n).2 = true) : ∃ x ∈ l, x.fNet = n ∧ x.fV = (hitOf l n).1 := by
  unfold hitOf at h ⊢
  cases hq : l.find? (fun x => decide (x.fNet = n)) with
  | none => rw [hq] at h; cases h
  | some x =>
    have := List.find?_some hq
    exact ⟨x, List.mem_of_find?_eq_some hq, by simpa using this, rfl⟩
theorem hitOf_no {l : List T_trie_Hit} {n : T_api_Net} (h : (hitOf l n).2 = false) : ∀ x ∈ l, x.fNet ≠ n := by
  unfold hitOf at h
  cases hq : l.find? (fun x => decide (x.fNet = n)) with
  | none => rw [List.find?_eq_none] at hq; intro x hx; simpa using hq x hx
  | some x => rw [hq] at h; cases h

theorem apart_eq {l : List T_trie_Hit} (h : l.Pairwise fun x y => x.fNet ≠ y.fNet) {x y : T_trie_Hit} (hx : x ∈ l) (hy : y ∈ l) (e : x.fNet = y.fNet) : x = y := by
  obtain ⟨i, hi, rfl⟩ := List.getElem_of_mem hx
  obtain ⟨j, hj, rfl⟩ := List.getElem_of_mem hy
  have hp := List.pairwise_iff_getElem.1 h
  rcases Nat.lt_trichotomy i j with h1 | h1 | h1
  · exact absurd e (hp i j hi hj h1)
  · subst h1; rfl
  · exact absurd e.symm (hp j i hj hi h1)

theorem cover_len {v : Bool} {a : T_api_Addr} (hv : a.fV6 = v) : ∀ {nd : N_trie_node} {m : Nat} {f : Nat → Bool}, Grown v nd m f → m ≤ wid a + 1 → ((items nd).filter (cov a)).length + m ≤ wid a + 1
  | .nil, m, f, _, h => by simp [items]; exact h
  | .mk h has k0 k1, m, f, hg, hm => by
    obtain ⟨g1, g2, g3, g4, g5⟩ := hg
    have b0 := fun x hx => bel_ext.1 (items_below g4 x hx).2.2
    have b1 := fun x hx => bel_ext.1 (items_below g5 x hx).2.2
    have hw : wid h.fNet.fAddr = wid a := by unfold wid; rw [g2, hv]
    have n1 := g1.nn; have l1 := g1.le; have gm := g3.1
    have i0 := cover_len hv g4 (by omega)
    have i1 := cover_len hv g5 (by omega)
    have hh : ((if has then [h] else []).filter (cov a)).length ≤ 1 := by
      split
      · exact List.length_filter_le _ _
      · simp
    have hz : ((items k0).filter (cov a)).length = 0 ∨ ((items k1).filter (cov a)).length = 0 := by
      cases hb : bitN a h.fNet.fBits.toNat with
      | false =>
        refine .inr ?_
        rw [filter_none]
        · rfl
        · intro x hx
          unfold cov
          rw [decide_eq_false_iff_not]
          intro hq
          obtain ⟨x1, x2, x3⟩ := b1 x hx
          have := hq _ x1
          rw [hb, x3] at this; cases this
      | true =>
        refine .inl ?_
        rw [filter_none]
        · rfl
        · intro x hx
          unfold cov
          rw [decide_eq_false_iff_not]
          intro hq
          obtain ⟨x1, x2, x3⟩ := b0 x hx
          have := hq _ x1
          rw [hb, x3] at this; cases this
    simp only [items, List.filter_append, List.length_append]
    omega

theorem trie_cover {t : N_trie_Trie} (h : GT t) (a : T_api_Addr) (ha : a.ok) : ∃ L, g_trie_Trie_Cover t a = some L ∧ L.length ≤ maxLen ∧ ∀ x, x ∈ L ↔ x ∈ itemsT t ∧ hasS x.fNet a = true := by
  cases t with
  | nil => exact h.elim
  | mk r4 r6 k =>
    simp only [g_trie_Trie_Cover, addr_right a ha, Option.bind_some, fam_eq]
    cases hr : rightA a
    · exact ⟨[], rfl, by simp, fun x => by simp [hasS, hr]⟩
    · simp only [Bool.not_true, cond_false]
      have hw := wid_le a
      have e1 : ∀ (A B : Option (List T_trie_Hit)), ix2 0 A B = A := fun _ _ => rfl
      have e2 : ∀ (A B : Option (List T_trie_Hit)), ix2 1 A B = B := fun _ _ => rfl
      have hs : ∀ x : T_trie_Hit, RN x.fNet → hasS x.fNet a = (decide (x.fNet.fAddr.fV6 = a.fV6) && cov a x) := fun x hx => by
        unfold hasS cov
        rw [(rn_iff hx.ok).2 hx, hr, Bool.true_and, Bool.true_and]
      cases hv : a.fV6 with
      | false =>
        simp only [Bool.false_eq_true, if_false]
        rw [need_yes (by omega), e1, cover_loop ha hr hv 1000000 r4 0 f0 [] h.1 (fun i hi => by omega) (by omega) (by omega) (by simp)]
        refine ⟨_, rfl, by have := cover_len hv h.1 (by omega); unfold maxLen; simp only [List.nil_append]; omega, fun x => ?_⟩
        simp only [List.nil_append, List.mem_filter, itemsT, List.mem_append]
        constructor
        · rintro ⟨hx, hc⟩
          have := items_below h.1 x hx
          rw [hs x this.1, this.2.1, hv, hc]
          exact ⟨.inl hx, rfl⟩
        · rintro ⟨hx | hx, hc⟩
          · have := items_below h.1 x hx
            rw [hs x this.1, Bool.and_eq_true] at hc
            exact ⟨hx, hc.2⟩
          · have := items_below h.2 x hx
            rw [hs x this.1, this.2.1, hv] at hc
            simp at hc
      | true =>
        simp only [if_true]
        rw [need_yes (by omega), e2, cover_loop ha hr hv 1000000 r6 0 f0 [] h.2 (fun i hi => by omega) (by omega) (by omega) (by simp)]
        refine ⟨_, rfl, by have := cover_len hv h.2 (by omega); unfold maxLen; simp only [List.nil_append]; omega, fun x => ?_⟩
        simp only [List.nil_append, List.mem_filter, itemsT, List.mem_append]
        constructor
        · rintro ⟨hx, hc⟩
          have := items_below h.2 x hx
          rw [hs x this.1, this.2.1, hv, hc]
          exact ⟨.inr hx, rfl⟩
        · rintro ⟨hx | hx, hc⟩
          · have := items_below h.1 x hx
            rw [hs x this.1, this.2.1, hv] at hc
            simp at hc
          · have := items_below h.2 x hx
            rw [hs x this.1, Bool.and_eq_true] at hc
            exact ⟨hx, hc.2⟩

/-- The tree tells the longest of the bans that live. -/
structure Idx (now : Int) (t : N_trie_Trie) (l : List T_api_Ban) : Prop where
  gt : GT t
  from_ : ∀ x ∈ itemsT t, ∃ b ∈ l, now < b.fUntil ∧ b.fNet = x.fNet ∧ b.fUntil = x.fV
  has : ∀ b ∈ l, now < b.fUntil → rightC b.fNet = true → ∃ x ∈ itemsT t, x.fNet = b.fNet ∧ b.fUntil ≤ x.fV

theorem idx_keep {now : Int} {t : N_trie_Trie} {l : List T_api_Ban} {b : T_api_Ban} (h : Idx now t l) (hb : now < b.fUntil → rightC b.fNet = true → ∃ x ∈ itemsT t, x.fNet = b.fNet ∧ b.fUntil ≤ x.fV) : Idx now t (l ++ [b]) :=
  ⟨h.gt, fun x hx => by obtain ⟨c, h1, h2⟩ := h.from_ x hx; exact ⟨c, by simp [h1], h2⟩, fun c hc h1 h2 => by
    rcases List.mem_append.1 hc with hc | hc
    · exact h.has c hc h1 h2
    · rw [List.mem_singleton] at hc; subst hc; exact hb h1 h2⟩

theorem idx_step {now : Int} {t : N_trie_Trie} {l : List T_api_Ban} {b : T_api_Ban} (h : Idx now t l) (hb : b.fNet.fAddr.ok) (hl : now < b.fUntil) (hold : ∀ x ∈ itemsT t, x.fNet = b.fNet → x.fV ≤ b.fUntil) : ∃ t', g_trie_Trie_With t b.fNet b.fUntil = some t' ∧ Idx now t' (l ++ [b]) := by
  cases hr : rightC b.fNet with
  | true =>
    obtain ⟨t', w1, w2, w3⟩ := trie_with h.gt b.fNet hb b.fUntil hr
    refine ⟨t', w1, w2, fun x hx => ?_, fun c hc h1 h2 => ?_⟩
    · rcases (w3 x).1 hx with e | ⟨hx, hne⟩
      · subst e; exact ⟨b, by simp, hl, rfl, rfl⟩
      · obtain ⟨c, h1, h2⟩ := h.from_ x hx; exact ⟨c, by simp [h1], h2⟩
    · by_cases e : c.fNet = b.fNet
      · refine ⟨⟨b.fNet, b.fUntil⟩, (w3 _).2 (.inl rfl), e.symm, ?_⟩
        rcases List.mem_append.1 hc with hc | hc
        · obtain ⟨x, x1, x2, x3⟩ := h.has c hc h1 h2
          have := hold x x1 (x2.trans e)
          simp only; omega
        · rw [List.mem_singleton] at hc; subst hc; exact Int.le_refl _
      · rcases List.mem_append.1 hc with hc | hc
        · obtain ⟨x, x1, x2, x3⟩ := h.has c hc h1 h2
          exact ⟨x, (w3 x).2 (.inr ⟨x1, fun q => e (x2.symm.trans q)⟩), x2, x3⟩
        · rw [List.mem_singleton] at hc; subst hc; exact absurd rfl e
  | false =>
    refine ⟨t, ?_, idx_keep h fun _ q => by rw [hr] at q; cases q⟩
    cases t with
    | nil => exact h.gt.elim
    | mk r4 r6 k =>
      simp only [g_trie_Trie_With, g_trie_Trie_With_c0, cidr_right b.fNet hb, hr, Option.bind_some, Bool.not_false, cond_true]

theorem ban_lives (b : T_api_Ban) (now : Int) : g_ban_Lives b now = some (decide (now < b.fUntil)) := rfl

theorem index_loop (l : List T_api_Ban) (now : Int) (hl : l.length ≤ maxLen) (hok : ∀ b ∈ l, b.ok) : ∀ fu (i : Nat) (t : N_trie_Trie), i ≤ l.length → l.length - i < fu → Idx now t (l.take i) → ∃ t', g_bans_index_c0 now fu t l (l.length : Int) (i : Int) = some t' ∧ Idx now t' l := by
  intro fu
  induction fu with
  | zero => intro _ _ _ h; omega
  | succ fu ih =>
    intro i t hi hf h
    simp only [g_bans_index_c0, cond_decide']
    by_cases hlt : i < l.length
    · rw [if_pos (by omega), need_yes ⟨by omega, by omega⟩]
      simp only [Int.toNat_natCast]
      have hko := hok _ (getD_mem l T_api_Ban.d i hlt)
      have htk : l.take (i + 1) = l.take i ++ [l.getD i T_api_Ban.d] := by rw [List.take_succ_eq_append_getElem hlt, getD_of l _ i hlt]
      generalize l.getD i T_api_Ban.d = b at hko htk ⊢
      rw [trie_get h.gt b.fNet hko.1.1, ban_lives]
      simp only [Option.bind_some]
      rw [add1 hlt hl]
      have next : ∀ t', Idx now t' (l.take i ++ [b]) → ∃ t'', g_bans_index_c0 now fu t' l (l.length : Int) ((i + 1 : Nat) : Int) = some t'' ∧ Idx now t'' l := fun t' ht' => ih (i + 1) t' (by omega) (by omega) (by rw [htk]; exact ht')
      by_cases hlv : now < b.fUntil
      · rw [decide_eq_true hlv, cond_true]
        cases hr : rightC b.fNet with
        | false =>
          simp only [Bool.false_eq_true, if_false, Bool.not_false, cond_true]
          obtain ⟨t', s1, s2⟩ := idx_step h hko.1.1 hlv (fun x hx e => by
            have := (rn_iff hko.1.1).2 (e ▸ itemsT_right h.gt x hx)
            rw [hr] at this; cases this)
          rw [s1]
          exact next t' s2
        | true =>
          simp only [if_true]
          cases hq : (hitOf (itemsT t) b.fNet).2 with
          | false =>
            simp only [Bool.not_false, cond_true]
            obtain ⟨t', s1, s2⟩ := idx_step h hko.1.1 hlv (fun x hx e => absurd e (hitOf_no hq x hx))
            rw [s1]
            exact next t' s2
          | true =>
            simp only [Bool.not_true, cond_false]
            obtain ⟨y, y1, y2, y3⟩ := hitOf_yes hq
            by_cases hlt2 : (hitOf (itemsT t) b.fNet).1 < b.fUntil
            · rw [if_pos hlt2]
              obtain ⟨t', s1, s2⟩ := idx_step h hko.1.1 hlv (fun x hx e => by
                have := apart_eq (itemsT_apart h.gt) hx y1 (e.trans y2.symm)
                rw [this]; omega)
              rw [s1]
              exact next t' s2
            · rw [if_neg hlt2]
              exact next t (idx_keep h fun _ _ => ⟨y, y1, y2, by omega⟩)
      · rw [decide_eq_false hlv, cond_false]
        exact next t (idx_keep h fun q => absurd q hlv)
    · rw [if_neg (by omega)]
      refine ⟨t, rfl, ?_⟩
      rw [List.take_of_length_le (by omega)] at h
      exact h

theorem index_eq (l : List T_api_Ban) (now : Int) (hl : l.length ≤ maxLen) (hok : ∀ b ∈ l, b.ok) : ∃ t, g_bans_index l now = some t ∧ Idx now t l := by
  have := index_loop l now hl hok ((((l.length : Nat) : Int) - (0 : Int)).toNat + 2) 0 (.mk .nil .nil 0) (by omega) (by omega) ⟨⟨trivial, trivial⟩, fun x hx => by simp [itemsT, items] at hx, fun b hb => by simp at hb⟩
  simpa [g_bans_index, g_trie_New] using this

/-- What is to be told of an address. -/
def Holds (l : List T_api_Ban) (a : T_api_Addr) (now : Int) (b : T_api_Ban) : Prop := b ∈ l ∧ now < b.fUntil ∧ hasS b.fNet a = true
def Longest (l : List T_api_Ban) (a : T_api_Addr) (now r : Int) : Prop := (r = 0 ∧ ∀ b, ¬ Holds l a now b) ∨ ∃ b, Holds l a now b ∧ r = b.fUntil ∧ ∀ c, Holds l a now c → c.fUntil ≤ r

theorem longest_eq {l l' : List T_api_Ban} {a : T_api_Addr} {now r s : Int} (h : Longest l a now r) (h' : Longest l' a now s) (e : ∀ b, Holds l a now b ↔ Holds l' a now b) : r = s := by
  rcases h with ⟨h1, h2⟩ | ⟨b, h1, h2, h3⟩
  · rcases h' with ⟨g1, g2⟩ | ⟨c, g1, g2, g3⟩
    · omega
    · exact absurd ((e c).2 g1) (h2 c)
  · rcases h' with ⟨g1, g2⟩ | ⟨c, g1, g2, g3⟩
    · exact absurd ((e b).1 h1) (g2 b)
    · have := h3 c ((e c).2 g1)
      have := g3 b ((e b).1 h1)
      omega

theorem max_loop (L : List T_trie_Hit) (hL : L.length ≤ maxLen) : ∀ fu (i : Nat) (v : Int), i ≤ L.length → L.length - i < fu → ∃ r, g_bans_Until_c0 fu v L (L.length : Int) (i : Int) = some r ∧ v ≤ r ∧ (∀ x ∈ L.drop i, x.fV ≤ r) ∧ (r = v ∨ ∃ x ∈ L.drop i, r = x.fV) := by
  intro fu
  induction fu with
  | zero => intro _ _ _ h; omega
  | succ fu ih =>
    intro i v hi hf
    simp only [g_bans_Until_c0, cond_decide']
    by_cases h : i < L.length
    · rw [if_pos (by omega), need_yes ⟨by omega, by omega⟩]
      simp only [Int.toNat_natCast]
      rw [add1 h hL, drop_cons L T_trie_Hit.d i h]
      generalize L.getD i T_trie_Hit.d = x
      obtain ⟨r, r1, r2, r3, r4⟩ := ih (i + 1) (if x.fV > v then x.fV else v) (by omega) (by omega)
      refine ⟨r, r1, by split at r2 <;> omega, fun y hy => ?_, ?_⟩
      · rcases List.mem_cons.1 hy with e | hy
        · subst e; split at r2 <;> omega
        · exact r3 y hy
      · rcases r4 with e | ⟨y, y1, y2⟩
        · split at e
          · exact .inr ⟨x, by simp, e⟩
          · exact .inl e
        · exact .inr ⟨y, by simp [y1], y2⟩
    · rw [if_neg (by omega)]
      have : L.drop i = [] := List.drop_eq_nil_of_le (by omega)
      exact ⟨v, rfl, Int.le_refl _, by simp [this], .inl rfl⟩

theorem until_eq (l : List T_api_Ban) (a : T_api_Addr) (now : Int) (hl : l.length ≤ maxLen) (hok : ∀ b ∈ l, b.ok) (ha : a.ok) : ∃ r, g_bans_Until l a now = some r ∧ Longest l a now r := by
  obtain ⟨t, t1, t2⟩ := index_eq l now hl hok
  obtain ⟨L, c1, hL, c2⟩ := trie_cover t2.gt a ha
  simp only [g_bans_Until, t1, c1, Option.bind_some]
  have one : ∀ x ∈ L, ∃ b, Holds l a now b ∧ b.fUntil = x.fV := fun x hx => by
    obtain ⟨x1, x2⟩ := (c2 x).1 hx
    obtain ⟨b, b1, b2, b3, b4⟩ := t2.from_ x x1
    exact ⟨b, ⟨b1, b2, by rw [b3]; exact x2⟩, b4⟩
  have two : ∀ b, Holds l a now b → ∃ x ∈ L, b.fUntil ≤ x.fV := fun b hb => by
    have hr : rightC b.fNet = true := by have := hb.2.2; unfold hasS at this; rw [Bool.and_eq_true] at this; exact this.1
    obtain ⟨x, x1, x2, x3⟩ := t2.has b hb.1 hb.2.1 hr
    exact ⟨x, (c2 x).2 ⟨x1, by rw [x2]; exact hb.2.2⟩, x3⟩
  by_cases h0 : L = []
  · subst h0
    refine ⟨0, rfl, .inl ⟨rfl, fun b hb => ?_⟩⟩
    obtain ⟨x, hx, _⟩ := two b hb
    simp at hx
  · have hpos : 0 < L.length := List.length_pos_iff.2 h0
    rw [show (((L.length : Nat) : Int) == 0) = false by rw [beq_eq_false_iff_ne]; omega, cond_false, need_yes ⟨by omega, by omega⟩]
    obtain ⟨r, r1, r2, r3, r4⟩ := max_loop L hL ((((L.length : Nat) : Int) - (0 : Int)).toNat + 2) 0 (L.getD (0 : Int).toNat T_trie_Hit.d).fV (by omega) (by omega)
    simp only [Int.natCast_zero, List.drop_zero] at r1 r3 r4
    refine ⟨r, r1, .inr ?_⟩
    have hex : ∃ x ∈ L, r = x.fV := by
      rcases r4 with e | e
      · exact ⟨_, getD_mem L T_trie_Hit.d 0 hpos, e⟩
      · exact e
    obtain ⟨x, x1, x2⟩ := hex
    obtain ⟨b, b1, b2⟩ := one x x1
    refine ⟨b, b1, by omega, fun c hc => ?_⟩
    obtain ⟨y, y1, y2⟩ := two c hc
    have := r3 y y1
    omega

end Go.Proofs.Ytaakonlnlfbfkaa
