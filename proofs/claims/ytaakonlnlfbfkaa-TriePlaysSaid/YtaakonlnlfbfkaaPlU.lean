/-
  PLAIN LAWS: trees of subnets: what they hold, Get, With, Cover.
-/
import Derived.Test.YtaakonlnlfbfkaaPlT
namespace Go.Proofs.Ytaakonlnlfbfkaa
set_option linter.unusedSimpArgs false
set_option linter.unusedVariables false

/-- The first n bits of a subnet are f's. -/
def Bel' (n : Nat) (f : Nat → Bool) (p : T_api_Net) : Prop := n ≤ p.fBits.toNat ∧ ∀ i, i < n → bitN p.fAddr i = f i
def ext' (p : T_api_Net) (b : Bool) : Nat → Bool := fun i => if i < p.fBits.toNat then bitN p.fAddr i else b

theorem bel_ext {p q : T_api_Net} {b : Bool} : Bel' (p.fBits.toNat + 1) (ext' p b) q ↔ p.fBits.toNat < q.fBits.toNat ∧ (∀ i, i < p.fBits.toNat → bitN q.fAddr i = bitN p.fAddr i) ∧ bitN q.fAddr p.fBits.toNat = b := by
  unfold Bel' ext'
  constructor
  · rintro ⟨h1, h2⟩
    refine ⟨by omega, fun i hi => ?_, ?_⟩
    · have := h2 i (by omega); rwa [if_pos hi] at this
    · have := h2 p.fBits.toNat (by omega); rwa [if_neg (by omega)] at this
  · rintro ⟨h1, h2, h3⟩
    refine ⟨by omega, fun i hi => ?_⟩
    by_cases h : i < p.fBits.toNat
    · rw [if_pos h]; exact h2 i h
    · rw [if_neg h, show i = p.fBits.toNat by omega]; exact h3

/-- A tree that holds subnets of one family, where they stand. -/
def Grown (v : Bool) : N_trie_node → Nat → (Nat → Bool) → Prop
  | .nil, _, _ => True
  | .mk h has k0 k1, n, f => RN h.fNet ∧ h.fNet.fAddr.fV6 = v ∧ Bel' n f h.fNet ∧ Grown v k0 (h.fNet.fBits.toNat + 1) (ext' h.fNet false) ∧ Grown v k1 (h.fNet.fBits.toNat + 1) (ext' h.fNet true)

def items : N_trie_node → List T_trie_Hit
  | .nil => []
  | .mk h has k0 k1 => (if has then [h] else []) ++ items k0 ++ items k1

theorem items_below {v : Bool} : ∀ {nd : N_trie_node} {n : Nat} {f : Nat → Bool}, Grown v nd n f → ∀ x ∈ items nd, RN x.fNet ∧ x.fNet.fAddr.fV6 = v ∧ Bel' n f x.fNet
  | .nil, _, _, _, x, hx => by simp [items] at hx
  | .mk h has k0 k1, n, f, hg, x, hx => by
    obtain ⟨g1, g2, g3, g4, g5⟩ := hg
    have kid : ∀ b, Bel' (h.fNet.fBits.toNat + 1) (ext' h.fNet b) x.fNet → Bel' n f x.fNet := fun b hb => by
      obtain ⟨b1, b2, _⟩ := bel_ext.1 hb
      have := g3.1
      exact ⟨by omega, fun i hi => by rw [b2 i (by omega)]; exact g3.2 i hi⟩
    simp only [items, List.mem_append] at hx
    rcases hx with (hx | hx) | hx
    · split at hx
      · rw [List.mem_singleton] at hx; rw [hx]; exact ⟨g1, g2, g3⟩
      · simp at hx
    · obtain ⟨h1, h2, h3⟩ := items_below g4 x hx
      exact ⟨h1, h2, kid _ h3⟩
    · obtain ⟨h1, h2, h3⟩ := items_below g5 x hx
      exact ⟨h1, h2, kid _ h3⟩

theorem Grown.rebase {v : Bool} {nd : N_trie_node} {n m : Nat} {f g : Nat → Bool} (h : Grown v nd n f) (hb : ∀ x has k0 k1, nd = .mk x has k0 k1 → Bel' m g x.fNet) : Grown v nd m g := by
  cases nd with
  | nil => trivial
  | mk x has k0 k1 => exact ⟨h.1, h.2.1, hb x has k0 k1 rfl, h.2.2.2⟩

def hitOf (l : List T_trie_Hit) (n : T_api_Net) : Int × Bool := match l.find? (fun x => decide (x.fNet = n)) with
  | some x => (x.fV, true)
  | none => (0, false)

theorem find_none {l : List T_trie_Hit} {n : T_api_Net} (h : ∀ x ∈ l, x.fNet ≠ n) : l.find? (fun x => decide (x.fNet = n)) = none := by
  rw [List.find?_eq_none]
  intro x hx
  simpa using h x hx

theorem get_loop {v : Bool} {n : T_api_Net} (hn : RN n) (hv : n.fAddr.fV6 = v) : ∀ fu (nd : N_trie_node) (m : Nat) (f : Nat → Bool), Grown v nd m f → n.fBits.toNat + 1 < fu + m → 
    g_trie_Trie_Get_c0 fu nd n = some (hitOf (items nd) n) ∨ (n.fBits.toNat < m ∧ fu = 0) := by
  intro fu
  induction fu with
  | zero => intro nd m f _ h; exact .inr ⟨by omega, rfl⟩
  | succ fu ih =>
    intro nd m f hg hf
    refine .inl ?_
    cases nd with
    | nil => rfl
    | mk h has k0 k1 =>
      obtain ⟨g1, g2, g3, g4, g5⟩ := hg
      have hw : wid h.fNet.fAddr = wid n.fAddr := by unfold wid; rw [g2, hv]
      have b0 := fun x hx => bel_ext.1 (items_below g4 x hx).2.2
      have b1 := fun x hx => bel_ext.1 (items_below g5 x hx).2.2
      have hnn := g1.nn; have hnn' := hn.nn
      simp only [g_trie_Trie_Get_c0, cond_decide']
      by_cases hlt : h.fNet.fBits < n.fBits
      · rw [if_pos hlt]
        have ht := tbit_eq hn h.fNet.fBits.toNat (by have := hn.le; omega)
        rw [Int.toNat_of_nonneg hnn] at ht
        rw [ht]
        have hh : ∀ x ∈ (if has then [h] else []), x.fNet ≠ n := fun x hx e => by
          split at hx
          · rw [List.mem_singleton] at hx; subst hx; rw [e] at hlt; omega
          · simp at hx
        have gm := g3.1
        cases hb : bitN n.fAddr h.fNet.fBits.toNat with
        | false =>
          simp only [Bool.false_eq_true, if_false, Option.bind_some]
          rw [need_yes (by omega)]
          have he : hitOf (items (.mk h has k0 k1)) n = hitOf (items k0) n := by
            unfold hitOf
            simp only [items]
            rw [List.find?_append, List.find?_append, find_none hh, find_none (l := items k1) fun x hx e => by have := (b1 x hx).2.2; rw [e, hb] at this; cases this]
            simp
          rw [he]
          rcases ih k0 _ _ g4 (by omega) with h | h
          · exact h
          · omega
        | true =>
          simp only [if_true, Option.bind_some]
          rw [need_yes (by omega)]
          have he : hitOf (items (.mk h has k0 k1)) n = hitOf (items k1) n := by
            unfold hitOf
            simp only [items]
            rw [List.find?_append, List.find?_append, find_none hh, find_none (l := items k0) fun x hx e => by have := (b0 x hx).2.2; rw [e, hb] at this; cases this]
            simp
          rw [he]
          rcases ih k1 _ _ g5 (by omega) with h | h
          · exact h
          · omega
      · rw [if_neg hlt]
        have he : hitOf (items (.mk h has k0 k1)) n = hitOf (if has then [h] else []) n := by
          unfold hitOf
          simp only [items]
          rw [List.find?_append, List.find?_append, find_none (l := items k0) fun x hx e => by have := (b0 x hx).1; rw [e] at this; omega, find_none (l := items k1) fun x hx e => by have := (b1 x hx).1; rw [e] at this; omega]
          simp
        rw [he]
        cases has with
        | false => rfl
        | true =>
          by_cases e : h.fNet = n
          · simp [hitOf, e]
          · simp [hitOf, e]

theorem eq_bits {p q : T_api_Net} (h : p = q) (i : Nat) : bitN p.fAddr i = bitN q.fAddr i := by rw [h]

theorem with_spec {v : Bool} {hit : T_trie_Hit} (hn : RN hit.fNet) (hv : hit.fNet.fAddr.fV6 = v) : ∀ fu (nd : N_trie_node) (m : Nat) (f : Nat → Bool), Grown v nd m f → Bel' m f hit.fNet → hit.fNet.fBits.toNat + 1 < fu + m →
    ∃ nd', g_trie_with fu nd hit = some nd' ∧ Grown v nd' m f ∧ ∀ x, x ∈ items nd' ↔ x = hit ∨ (x ∈ items nd ∧ x.fNet ≠ hit.fNet) := by
  intro fu
  induction fu with
  | zero => intro nd m f _ hb h; have := hb.1; omega
  | succ fu ih =>
    intro nd m f hg hbel hf
    cases nd with
    | nil => exact ⟨_, rfl, ⟨hn, hv, hbel, trivial, trivial⟩, fun x => by simp [items]⟩
    | mk h has k0 k1 =>
      have hg0 := hg
      obtain ⟨g1, g2, g3, g4, g5⟩ := hg
      have hwd : wid h.fNet.fAddr = wid hit.fNet.fAddr := by unfold wid; rw [g2, hv]
      have b0 := fun x hx => bel_ext.1 (items_below g4 x hx).2.2
      have b1 := fun x hx => bel_ext.1 (items_below g5 x hx).2.2
      have ball : ∀ x ∈ items (.mk h has k0 k1), h.fNet.fBits.toNat ≤ x.fNet.fBits.toNat ∧ ∀ i, i < h.fNet.fBits.toNat → bitN x.fNet.fAddr i = bitN h.fNet.fAddr i := fun x hx => by
        simp only [items, List.mem_append] at hx
        rcases hx with (hx | hx) | hx
        · split at hx
          · rw [List.mem_singleton] at hx; rw [hx]; exact ⟨Nat.le_refl _, fun _ _ => rfl⟩
          · simp at hx
        · obtain ⟨x1, x2, _⟩ := b0 x hx; exact ⟨by omega, x2⟩
        · obtain ⟨x1, x2, _⟩ := b1 x hx; exact ⟨by omega, x2⟩
      have n1 := g1.nn; have n2 := hn.nn; have l1 := g1.le; have l2 := hn.le
      obtain ⟨k, c1, c2, c3, c4, c5⟩ := common_eq g1 hn (g2.trans hv.symm)
      simp only [g_trie_with, c1, Option.bind_some, cond_decide']
      by_cases hk : k < h.fNet.fBits.toNat
      · rw [if_pos (by omega)]
        have hbit := tbit_eq g1 k (by omega)
        by_cases hkh : k = hit.fNet.fBits.toNat
        · -- the new one stands above
          have e : ((k : Int) == hit.fNet.fBits) = true := by rw [beq_iff_eq]; omega
          have hne : ∀ x ∈ items (.mk h has k0 k1), x.fNet ≠ hit.fNet := fun x hx e => by have := (ball x hx).1; rw [e] at this; omega
          have hB : Bel' (hit.fNet.fBits.toNat + 1) (ext' hit.fNet (bitN h.fNet.fAddr k)) h.fNet := bel_ext.2 ⟨by omega, fun i hi => c4 i (by omega), by rw [← hkh]⟩
          have hG : Grown v (.mk h has k0 k1) (hit.fNet.fBits.toNat + 1) (ext' hit.fNet (bitN h.fNet.fAddr k)) := hg0.rebase fun x _ _ _ e => by cases e; exact hB
          simp only [g_trie_branch, e, cond_true, hbit, Option.bind_some]
          cases hb : bitN h.fNet.fAddr k with
          | false =>
            rw [hb] at hG
            simp only [Bool.false_eq_true, if_false]
            rw [need_yes (by omega)]
            refine ⟨_, rfl, ⟨hn, hv, hbel, hG, trivial⟩, fun x => ?_⟩
            have : items (.mk hit true (.mk h has k0 k1) .nil) = [hit] ++ items (.mk h has k0 k1) := by simp [items]
            rw [this, List.mem_append, List.mem_singleton]
            exact or_congr Iff.rfl ⟨fun hx => ⟨hx, hne x hx⟩, fun hx => hx.1⟩
          | true =>
            rw [hb] at hG
            simp only [if_true]
            rw [need_yes (by omega)]
            refine ⟨_, rfl, ⟨hn, hv, hbel, trivial, hG⟩, fun x => ?_⟩
            have : items (.mk hit true .nil (.mk h has k0 k1)) = [hit] ++ items (.mk h has k0 k1) := by simp [items]
            rw [this, List.mem_append, List.mem_singleton]
            exact or_congr Iff.rfl ⟨fun hx => ⟨hx, hne x hx⟩, fun hx => hx.1⟩
        · -- they part
          have hk2 : k < hit.fNet.fBits.toNat := by omega
          have e : ((k : Int) == hit.fNet.fBits) = false := by rw [beq_eq_false_iff_ne]; omega
          have hdiff := c5 hk hk2
          have hne : ∀ x ∈ items (.mk h has k0 k1), x.fNet ≠ hit.fNet := fun x hx e => hdiff (by rw [← (ball x hx).2 k hk, e])
          obtain ⟨r1, r2⟩ := rn_make hn.ok hn.right k (by omega)
          have hmk : g_cidr_Make hit.fNet.fAddr (k : Int) = some (⟨maskA hit.fNet.fAddr k, (k : Int)⟩, true) := by
            rw [make_eq _ hn.ok, if_pos ⟨hn.right, by omega, by omega⟩, Int.toNat_natCast]
          have hkb : (⟨maskA hit.fNet.fAddr k, (k : Int)⟩ : T_api_Net).fBits.toNat = k := Int.toNat_natCast k
          have hpb : ∀ i, i < k → bitN (maskA hit.fNet.fAddr k) i = bitN hit.fNet.fAddr i := fun i hi => by
            rw [bit_mask hn.fits k i (by omega) (by omega), decide_eq_true hi]; rfl
          have hm : m ≤ k := by
            rcases Nat.lt_or_ge k m with hh | hh
            · exact absurd ((g3.2 k hh).trans (hbel.2 k hh).symm) hdiff
            · exact hh
          have hP : Bel' m f ⟨maskA hit.fNet.fAddr k, (k : Int)⟩ := ⟨by rw [hkb]; exact hm, fun i hi => by rw [hpb i (by omega)]; exact hbel.2 i hi⟩
          have hO : Grown v (.mk h has k0 k1) ((⟨maskA hit.fNet.fAddr k, (k : Int)⟩ : T_api_Net).fBits.toNat + 1) (ext' ⟨maskA hit.fNet.fAddr k, (k : Int)⟩ (bitN h.fNet.fAddr k)) := hg0.rebase fun x _ _ _ e => by
            cases e
            exact bel_ext.2 ⟨by rw [hkb]; exact hk, fun i hi => by rw [hkb] at hi; rw [hpb i hi]; exact c4 i hi, by rw [hkb]⟩
          have hL : Grown v (.mk hit true .nil .nil) ((⟨maskA hit.fNet.fAddr k, (k : Int)⟩ : T_api_Net).fBits.toNat + 1) (ext' ⟨maskA hit.fNet.fAddr k, (k : Int)⟩ (bitN hit.fNet.fAddr k)) :=
            ⟨hn, hv, bel_ext.2 ⟨by rw [hkb]; exact hk2, fun i hi => by rw [hkb] at hi; rw [hpb i hi], by rw [hkb]⟩, trivial, trivial⟩
          have hb2 := tbit_eq hn k (by omega)
          simp only [g_trie_branch, e, cond_false, hmk, hbit, hb2, Option.bind_some]
          cases hb : bitN h.fNet.fAddr k with
          | false =>
            have hb' : bitN hit.fNet.fAddr k = true := by
              cases hq : bitN hit.fNet.fAddr k
              · rw [hb, hq] at hdiff; exact absurd rfl hdiff
              · rfl
            rw [hb] at hO; rw [hb'] at hL
            simp only [hb', Bool.false_eq_true, if_false, if_true]
            rw [need_yes (by omega)]
            have e1 : ∀ (A B : Option N_trie_node), ix2 0 A B = A := fun _ _ => rfl
            have e2 : ∀ (A B : Option N_trie_node), ix2 1 A B = B := fun _ _ => rfl
            rw [e1, need_yes (by omega), e2]
            refine ⟨_, rfl, ⟨r1, by simp only [maskA_v6]; exact hv, hP, hO, hL⟩, fun x => ?_⟩
            have : items (.mk ⟨⟨maskA hit.fNet.fAddr k, (k : Int)⟩, 0⟩ false (.mk h has k0 k1) (.mk hit true .nil .nil)) = items (.mk h has k0 k1) ++ [hit] := by simp [items]
            rw [this, List.mem_append, List.mem_singleton, or_comm]
            exact or_congr Iff.rfl ⟨fun hx => ⟨hx, hne x hx⟩, fun hx => hx.1⟩
          | true =>
            have hb' : bitN hit.fNet.fAddr k = false := by
              cases hq : bitN hit.fNet.fAddr k
              · rfl
              · rw [hb, hq] at hdiff; exact absurd rfl hdiff
            rw [hb] at hO; rw [hb'] at hL
            simp only [hb', Bool.false_eq_true, if_false, if_true]
            rw [need_yes (by omega)]
            have e1 : ∀ (A B : Option N_trie_node), ix2 0 A B = A := fun _ _ => rfl
            have e2 : ∀ (A B : Option N_trie_node), ix2 1 A B = B := fun _ _ => rfl
            rw [e2, need_yes (by omega), e1]
            refine ⟨_, rfl, ⟨r1, by simp only [maskA_v6]; exact hv, hP, hL, hO⟩, fun x => ?_⟩
            have : items (.mk ⟨⟨maskA hit.fNet.fAddr k, (k : Int)⟩, 0⟩ false (.mk hit true .nil .nil) (.mk h has k0 k1)) = [hit] ++ items (.mk h has k0 k1) := by simp [items]
            rw [this, List.mem_append, List.mem_singleton]
            exact or_congr Iff.rfl ⟨fun hx => ⟨hx, hne x hx⟩, fun hx => hx.1⟩
      · rw [if_neg (by omega)]
        have hkh : k = h.fNet.fBits.toNat := by omega
        by_cases hke : k = hit.fNet.fBits.toNat
        · -- it is there
          have e : ((k : Int) == hit.fNet.fBits) = true := by rw [beq_iff_eq]; omega
          have hpq : h.fNet = hit.fNet := rn_ext g1 hn (g2.trans hv.symm) (by
            unfold bs
            rw [← hkh, ← hke]
            apply List.map_congr_left
            intro i hi
            exact c4 i (by simpa using hi))
          rw [e, cond_true]
          refine ⟨_, rfl, ⟨hn, hv, hbel, by rw [← hpq]; exact g4, by rw [← hpq]; exact g5⟩, fun x => ?_⟩
          have n0 : x ∈ items k0 → x.fNet ≠ hit.fNet := fun hx e => by have := (b0 x hx).1; rw [e] at this; omega
          have n1 : x ∈ items k1 → x.fNet ≠ hit.fNet := fun hx e => by have := (b1 x hx).1; rw [e] at this; omega
          simp only [items, List.mem_append, if_true, List.mem_singleton]
          constructor
          · rintro ((hx | hx) | hx)
            · exact .inl hx
            · exact .inr ⟨.inl (.inr hx), n0 hx⟩
            · exact .inr ⟨.inr hx, n1 hx⟩
          · rintro (hx | ⟨(hx | hx) | hx, hne⟩)
            · exact .inl (.inl hx)
            · split at hx
              · rw [List.mem_singleton] at hx; rw [hx] at hne; exact absurd hpq hne
              · simp at hx
            · exact .inl (.inr hx)
            · exact .inr hx
        · have e : ((k : Int) == hit.fNet.fBits) = false := by rw [beq_eq_false_iff_ne]; omega
          have hbit := tbit_eq hn k (by omega)
          have hB : Bel' (h.fNet.fBits.toNat + 1) (ext' h.fNet (bitN hit.fNet.fAddr k)) hit.fNet := bel_ext.2 ⟨by omega, fun i hi => (c4 i (by omega)).symm, by rw [← hkh]⟩
          have nh : ∀ x ∈ (if has then [h] else []), x.fNet ≠ hit.fNet := fun x hx e => by
            split at hx
            · rw [List.mem_singleton] at hx; rw [hx] at e; rw [e] at hkh; omega
            · simp at hx
          have gm := g3.1
          simp only [e, cond_false, hbit, Option.bind_some]
          cases hb : bitN hit.fNet.fAddr k with
          | false =>
            rw [hb] at hB
            simp only [Bool.false_eq_true, if_false]
            rw [need_yes (by omega)]
            obtain ⟨nd', w1, w2, w3⟩ := ih k0 _ _ g4 hB (by omega)
            have e1 : ∀ (A B : Option N_trie_node), ix2 0 A B = A := fun _ _ => rfl
            rw [e1, w1]
            refine ⟨_, rfl, ⟨g1, g2, g3, w2, g5⟩, fun x => ?_⟩
            have n1 : x ∈ items k1 → x.fNet ≠ hit.fNet := fun hx e => by have := (b1 x hx).2.2; rw [e, ← hkh, hb] at this; cases this
            simp only [items, List.mem_append, w3]
            constructor
            · rintro ((hx | hx | hx) | hx)
              · exact .inr ⟨.inl (.inl hx), nh x hx⟩
              · exact .inl hx
              · exact .inr ⟨.inl (.inr hx.1), hx.2⟩
              · exact .inr ⟨.inr hx, n1 hx⟩
            · rintro (hx | ⟨(hx | hx) | hx, hne⟩)
              · exact .inl (.inr (.inl hx))
              · exact .inl (.inl hx)
              · exact .inl (.inr (.inr ⟨hx, hne⟩))
              · exact .inr hx
          | true =>
            rw [hb] at hB
            simp only [if_true]
            rw [need_yes (by omega)]
            obtain ⟨nd', w1, w2, w3⟩ := ih k1 _ _ g5 hB (by omega)
            have e2 : ∀ (A B : Option N_trie_node), ix2 1 A B = B := fun _ _ => rfl
            rw [e2, w1]
            refine ⟨_, rfl, ⟨g1, g2, g3, g4, w2⟩, fun x => ?_⟩
            have n1 : x ∈ items k0 → x.fNet ≠ hit.fNet := fun hx e => by have := (b0 x hx).2.2; rw [e, ← hkh, hb] at this; cases this
            simp only [items, List.mem_append, w3]
            constructor
            · rintro ((hx | hx) | hx | hx)
              · exact .inr ⟨.inl (.inl hx), nh x hx⟩
              · exact .inr ⟨.inl (.inr hx), n1 hx⟩
              · exact .inl hx
              · exact .inr ⟨.inr hx.1, hx.2⟩
            · rintro (hx | ⟨(hx | hx) | hx, hne⟩)
              · exact .inr (.inl hx)
              · exact .inl (.inl hx)
              · exact .inl (.inr hx)
              · exact .inr (.inr ⟨hx, hne⟩)

/-! ### Cover -/
def cov (a : T_api_Addr) (x : T_trie_Hit) : Bool := decide (∀ i, i < x.fNet.fBits.toNat → bitN a i = bitN x.fNet.fAddr i)

theorem filter_none {α : Type} {p : α → Bool} {l : List α} (h : ∀ x ∈ l, p x = false) : l.filter p = [] := by
  rw [List.filter_eq_nil_iff]
  intro x hx
  rw [h x hx]; simp

theorem cover_loop {v : Bool} {a : T_api_Addr} (ha : a.ok) (hr : rightA a = true) (hv : a.fV6 = v) : ∀ fu (nd : N_trie_node) (m : Nat) (f : Nat → Bool) (w : List T_trie_Hit), Grown v nd m f → (∀ i, i < m → i < wid a → bitN a i = f i) → m ≤ wid a + 1 → wid a + 1 < fu + m → w.length ≤ m →
    g_trie_Trie_Cover_c0 fu nd w a = some (w ++ (items nd).filter (cov a)) := by
  have hwa : wid a ≤ 128 := by unfold wid; split <;> omega
  intro fu
  induction fu with
  | zero => intro nd m f w _ _ _ h; omega
  | succ fu ih =>
    intro nd m f w hg hp hmw hf hl
    cases nd with
    | nil => simp [g_trie_Trie_Cover_c0, items]
    | mk h has k0 k1 =>
      obtain ⟨g1, g2, g3, g4, g5⟩ := hg
      have hwd : wid h.fNet.fAddr = wid a := by unfold wid; rw [g2, hv]
      have b0 := fun x hx => bel_ext.1 (items_below g4 x hx).2.2
      have b1 := fun x hx => bel_ext.1 (items_below g5 x hx).2.2
      have w0 := fun x hx => (items_below g4 x hx)
      have w1 := fun x hx => (items_below g5 x hx)
      have n1 := g1.nn; have l1 := g1.le
      have gm := g3.1
      simp only [g_trie_Trie_Cover_c0, has_eq _ a g1 ha, hr, decide_eq_true (g2.trans hv.symm), Bool.true_and, Option.bind_some, cond_decide']
      by_cases hc : ∀ i, i < h.fNet.fBits.toNat → bitN a i = bitN h.fNet.fAddr i
      · rw [if_pos hc]
        have hcov : cov a h = true := by unfold cov; rw [decide_eq_true_eq]; exact hc
        -- what lies below
        have hkid : ∀ w' : List T_trie_Hit, w'.length ≤ h.fNet.fBits.toNat + 1 → ((g_addr_Bit a h.fNet.fBits).bind fun x6 => need (0 ≤ x6 ∧ x6 < ((2 : Nat) : Int)) <| ix2 x6 (g_trie_Trie_Cover_c0 fu k0 w' a) (g_trie_Trie_Cover_c0 fu k1 w' a)) = some (w' ++ ((items k0).filter (cov a) ++ (items k1).filter (cov a))) := by
          intro w' hw'
          by_cases hb : h.fNet.fBits.toNat < wid a
          · have ht := abit_eq (fits_of ha hr) h.fNet.fBits.toNat hb
            rw [Int.toNat_of_nonneg n1] at ht
            rw [ht]
            cases hbit : bitN a h.fNet.fBits.toNat with
            | false =>
              simp only [Bool.false_eq_true, if_false, Option.bind_some]
              rw [need_yes (by omega), show ∀ (A B : Option (List T_trie_Hit)), ix2 0 A B = A from fun _ _ => rfl]
              rw [ih k0 _ _ w' g4 (fun i hi hi' => by
                unfold ext'
                by_cases h3 : i < h.fNet.fBits.toNat
                · rw [if_pos h3]; exact hc i h3
                · rw [if_neg h3, show i = h.fNet.fBits.toNat by omega]; exact hbit) (by omega) (by omega) hw']
              rw [filter_none (l := items k1) fun x hx => ?_]
              · simp
              · unfold cov
                rw [decide_eq_false_iff_not]
                intro hq
                obtain ⟨x1, x2, x3⟩ := b1 x hx
                have := hq _ x1
                rw [hbit, x3] at this
                cases this
            | true =>
              simp only [if_true, Option.bind_some]
              rw [need_yes (by omega), show ∀ (A B : Option (List T_trie_Hit)), ix2 1 A B = B from fun _ _ => rfl]
              rw [ih k1 _ _ w' g5 (fun i hi hi' => by
                unfold ext'
                by_cases h3 : i < h.fNet.fBits.toNat
                · rw [if_pos h3]; exact hc i h3
                · rw [if_neg h3, show i = h.fNet.fBits.toNat by omega]; exact hbit) (by omega) (by omega) hw']
              rw [filter_none (l := items k0) fun x hx => ?_]
              · simp
              · unfold cov
                rw [decide_eq_false_iff_not]
                intro hq
                obtain ⟨x1, x2, x3⟩ := b0 x hx
                have := hq _ x1
                rw [hbit, x3] at this
                cases this
          · -- a whole address: nothing lies below
            have hno : ∀ (kid : N_trie_node) (b : Bool), Grown v kid (h.fNet.fBits.toNat + 1) (ext' h.fNet b) → kid = .nil := fun kid b hgk => by
              cases kid with
              | nil => rfl
              | mk x hs q0 q1 =>
                have h1 := hgk.2.2.1.1
                have h2 := hgk.1.le
                have h3 : wid x.fNet.fAddr = wid a := by unfold wid; rw [hgk.2.1, hv]
                omega
            rw [hno k0 _ g4, hno k1 _ g5]
            have hbits : g_addr_Bit a h.fNet.fBits = some 0 := by
              simp only [g_addr_Bit, bits_eq, Option.bind_some, cond_decide']
              rw [if_neg (by omega), if_pos (by omega)]
            rw [hbits]
            simp only [Option.bind_some]
            rw [need_yes (by omega), show ∀ (A B : Option (List T_trie_Hit)), ix2 0 A B = A from fun _ _ => rfl]
            have := ih .nil (h.fNet.fBits.toNat + 1) (ext' h.fNet false) w' trivial (fun i hi hi' => by
                unfold ext'
                rw [if_pos (by omega)]; exact hc i (by omega)) (by omega) (by omega) hw'
            rw [this]
            simp [items]
        cases has with
        | true =>
          simp only [cond_true, items, if_true]
          rw [need_yes ⟨by simp; omega, by unfold maxLen; simp; omega⟩, hkid _ (by simp; omega)]
          simp [hcov]
        | false =>
          simp only [cond_false, items, Bool.false_eq_true, if_false]
          rw [hkid _ (by omega)]
          simp
      · rw [if_neg hc]
        rw [filter_none]
        · simp
        · intro x hx
          unfold cov
          rw [decide_eq_false_iff_not]
          intro hq
          apply hc
          intro i hi
          simp only [items, List.mem_append] at hx
          rcases hx with (hx | hx) | hx
          · split at hx
            · rw [List.mem_singleton] at hx; rw [hx] at hq; exact hq i hi
            · simp at hx
          · obtain ⟨x1, x2, _⟩ := b0 x hx
            rw [hq i (by omega)]; exact x2 i hi
          · obtain ⟨x1, x2, _⟩ := b1 x hx
            rw [hq i (by omega)]; exact x2 i hi

end Go.Proofs.Ytaakonlnlfbfkaa
