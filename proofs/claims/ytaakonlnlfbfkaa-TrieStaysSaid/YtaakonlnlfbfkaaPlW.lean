/-
  PLAIN LAWS: how long an address is banned.
-/
import Derived.Test.YtaakonlnlfbfkaaPlV
namespace Go.Proofs.Ytaakonlnlfbfkaa
set_option linter.unusedSimpArgs false
set_option linter.unusedVariables false

theorem items_apart {v : Bool} : ∀ {nd : N_trie_node} {n : Nat} {f : Nat → Bool}, Grown v nd n f → (items nd).Pairwise fun x y => x.fNet ≠ y.fNet
  | .nil, _, _, _ => List.Pairwise.nil
  | .mk h has k0 k1, n, f, hg => by
    obtain ⟨g1, g2, g3, g4, g5⟩ := hg
    have b0 := fun x hx => bel_ext.1 (items_below g4 x hx).2.2
    have b1 := fun x hx => bel_ext.1 (items_below g5 x hx).2.2
    have hh : ∀ x ∈ (if has then [h] else []), x.fNet = h.fNet := fun x hx => by
      split at hx
      · rw [List.mem_singleton] at hx; rw [hx]
      · simp at hx
    simp only [items]
    rw [List.pairwise_append, List.pairwise_append]
    refine ⟨⟨?_, items_apart g4, fun x hx y hy e => ?_⟩, items_apart g5, fun x hx y hy e => ?_⟩
    · split
      · exact List.pairwise_singleton _ _
      · exact List.Pairwise.nil
    · have := (b0 y hy).1
      rw [← e, hh x hx] at this; omega
    · rcases List.mem_append.1 hx with hx | hx
      · have := (b1 y hy).1
        rw [← e, hh x hx] at this; omega
      · have h1 := (b0 x hx).2.2
        have h2 := (b1 y hy).2.2
        rw [e, h2] at h1; cases h1

theorem itemsT_apart {t : N_trie_Trie} (h : GT t) : (itemsT t).Pairwise fun x y => x.fNet ≠ y.fNet := by
  cases t with
  | nil => exact h.elim
  | mk r4 r6 k =>
    simp only [itemsT]
    rw [List.pairwise_append]
    refine ⟨items_apart h.1, items_apart h.2, fun x hx y hy e => ?_⟩
    have h1 := (items_below h.1 x hx).2.1
    have h2 := (items_below h.2 y hy).2.1
    rw [e, h2] at h1; cases h1

theorem hitOf_yes {l : List T_trie_Hit} {n : T_api_Net} (h : (hitOf l n).2 = true) : ∃ x ∈ l, x.fNet = n ∧ x.fV = (hitOf l n).1 := by
  unfold hitOf at h ⊢
  cases hq : l.find? (fun x => decide (x.fNet = n)) with
  | none => rw [hq] at h; cases h
  | some x =>
    have := List.find?_some hq
    exact ⟨x, List.mem_of_find?_eq_some hq, by simpa using this, rfl⟩
theorem hitOf_no {l : List T_trie_Hit} {n : T_api_Net} (h : (hitOf l n).2 = false) : ∀ x ∈ l, x.fNet ≠ n := by
  unfold hitOf at h
  cases hq : l.find? (fun x => decide (x.fNet = n)) with
  | none => rw [List.find?_eq_none] at hq; intro x hx; simpa using hq x hx
  | some x => rw [hq] at h; cases h

theorem apart_eq {l : List T_trie_Hit} (h : l.Pairwise fun x y => x.fNet ≠ y.fNet) {x y : T_trie_Hit} (hx : x ∈ l) (hy : y ∈ l) (e : x.fNet = y.fNet) : x = y := by
  obtain ⟨i, hi, rfl⟩ := List.getElem_of_mem hx
  obtain ⟨j, hj, rfl⟩ := List.getElem_of_mem hy
  have hp := List.pairwise_iff_getElem.1 h
  rcases Nat.lt_trichotomy i j with h1 | h1 | h1
  · exact absurd e (hp i j hi hj h1)
  · subst h1; rfl
  · exact absurd e.symm (hp j i hj hi h1)

theorem cover_len {v : Bool} {a : T_api_Addr} (hv : a.fV6 = v) : ∀ {nd : N_trie_node} {m : Nat} {f : Nat → Bool}, Grown v nd m f → m ≤ wid a + 1 → ((items nd).filter (cov a)).length + m ≤ wid a + 1
  | .nil, m, f, _, h => by simp [items]; exact h
  | .mk h has k0 k1, m, f, hg, hm => by
    obtain ⟨g1, g2, g3, g4, g5⟩ := hg
    have b0 := fun x hx => bel_ext.1 (items_below g4 x hx).2.2
    have b1 := fun x hx => bel_ext.1 (items_below g5 x hx).2.2
    have hw : wid h.fNet.fAddr = wid a := by unfold wid; rw [g2, hv]
    have n1 := g1.nn; have l1 := g1.le; have gm := g3.1
    have i0 := cover_len hv g4 (by omega)
    have i1 := cover_len hv g5 (by omega)
    have hh : ((if has then [h] else []).filter (cov a)).length ≤ 1 := by
      split
      · exact List.length_filter_le _ _
      · simp
    have hz : ((items k0).filter (cov a)).length = 0 ∨ ((items k1).filter (cov a)).length = 0 := by
      cases hb : bitN a h.fNet.fBits.toNat with
      | false =>
        refine .inr ?_
        rw [filter_none]
        · rfl
        · intro x hx
          unfold cov
          rw [decide_eq_false_iff_not]
          intro hq
          obtain ⟨x1, x2, x3⟩ := b1 x hx
          have := hq _ x1
          rw [hb, x3] at this; cases this
      | true =>
        refine .inl ?_
        rw [filter_none]
        · rfl
        · intro x hx
          unfold cov
          rw [decide_eq_false_iff_not]
          intro hq
          obtain ⟨x1, x2, x3⟩ := b0 x hx
          have := hq _ x1
          rw [hb, x3] at this; cases this
    simp only [items, List.filter_append, List.length_append]
    omega

theorem trie_cover {t : N_trie_Trie} (h : GT t) (a : T_api_Addr) (ha : a.ok) : ∃ L, g_trie_Trie_Cover t a = some L ∧ L.length ≤ maxLen ∧ ∀ x, x ∈ L ↔ x ∈ itemsT t ∧ hasS x.fNet a = true := by
  cases t with
  | nil => exact h.elim
  | mk r4 r6 k =>
    simp only [g_trie_Trie_Cover, addr_right a ha, Option.bind_some, fam_eq]
    cases hr : rightA a
    · exact ⟨[], rfl, by simp, fun x => by simp [hasS, hr]⟩
    · simp only [Bool.not_true, cond_false]
      have hw := wid_le a
      have e1 : ∀ (A B : Option (List T_trie_Hit)), ix2 0 A B = A := fun _ _ => rfl
      have e2 : ∀ (A B : Option (List T_trie_Hit)), ix2 1 A B = B := fun _ _ => rfl
      have hs : ∀ x : T_trie_Hit, RN x.fNet → hasS x.fNet a = (decide (x.fNet.fAddr.fV6 = a.fV6) && cov a x) := fun x hx => by
        unfold hasS cov
        rw [(rn_iff hx.ok).2 hx, hr, Bool.true_and, Bool.true_and]
      cases hv : a.fV6 with
      | false =>
        simp only [Bool.false_eq_true, if_false]
        rw [need_yes (by omega), e1, cover_loop ha hr hv 1000000 r4 0 f0 [] h.1 (fun i hi => by omega) (by omega) (by omega) (by simp)]
        refine ⟨_, rfl, by have := cover_len hv h.1 (by omega); unfold maxLen; simp only [List.nil_append]; omega, fun x => ?_⟩
        simp only [List.nil_append, List.mem_filter, itemsT, List.mem_append]
        constructor
        · rintro ⟨hx, hc⟩
          have := items_below h.1 x hx
          rw [hs x this.1, this.2.1, hv, hc]
          exact ⟨.inl hx, rfl⟩
        · rintro ⟨hx | hx, hc⟩
          · have := items_below h.1 x hx
            rw [hs x this.1, Bool.and_eq_true] at hc
            exact ⟨hx, hc.2⟩
          · have := items_below h.2 x hx
            rw [hs x this.1, this.2.1, hv] at hc
            simp at hc
      | true =>
        simp only [if_true]
        rw [need_yes (by omega), e2, cover_loop ha hr hv 1000000 r6 0 f0 [] h.2 (fun i hi => by omega) (by omega) (by omega) (by simp)]
        refine ⟨_, rfl, by have := cover_len hv h.2 (by omega); unfold maxLen; simp only [List.nil_append]; omega, fun x => ?_⟩
        simp only [List.nil_append, List.mem_filter, itemsT, List.mem_append]
        constructor
        · rintro ⟨hx, hc⟩
          have := items_below h.2 x hx
          rw [hs x this.1, this.2.1, hv, hc]
          exact ⟨.inr hx, rfl⟩
        · rintro ⟨hx | hx, hc⟩
          · have := items_below h.1 x hx
            rw [hs x this.1, this.2.1, hv] at hc
            simp at hc
          · have := items_below h.2 x hx
            rw [hs x this.1, Bool.and_eq_true] at hc
            exact ⟨hx, hc.2⟩

end Go.Proofs.Ytaakonlnlfbfkaa
