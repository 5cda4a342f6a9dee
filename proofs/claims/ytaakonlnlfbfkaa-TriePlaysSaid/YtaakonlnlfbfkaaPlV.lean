/-
  PLAIN LAWS: bans: what the tree of bans tells is what the list tells.
-/
import Derived.Test.YtaakonlnlfbfkaaPlU
namespace Go.Proofs.Ytaakonlnlfbfkaa
set_option linter.unusedSimpArgs false
set_option linter.unusedVariables false

/-! ### The reference's bits -/
theorem rbit_eq {a : T_api_Addr} (h : Fits a) (i : Nat) (hi : i < wid a) : g_doormanref06_Bit a (i : Int) = some (if bitN a i then 1 else 0) := by
  have h1 := h.hi0; have h2 := h.hi1; have h3 := h.lo0; have h4 := h.lo1
  obtain ⟨v, hi', lo⟩ := a
  obtain ⟨p, hp⟩ := nat_of h.hi0
  obtain ⟨q, hq⟩ := nat_of h.lo0
  simp only at hp hq h1 h2 h3 h4
  subst hp hq
  have hw : ∀ k : Nat, k < 64 → (IntKind.u64.wrap ((k : Nat) : Int)) = ((k : Nat) : Int) := fun k hk => wrap_u64 (by omega) (by omega)
  cases v with
  | false =>
    have hi : i < 32 := hi
    have e : sub64 (31 : Int) (i : Int) = ((31 - i : Nat) : Int) := by rw [sub64_id (by omega) (by omega)]; omega
    simp only [g_doormanref06_Bit, g_doormanref06_Bits, g_doormanref06_Bit_c0, cond_decide', Option.bind_some, cond_false, Bool.not_false, cond_true, e, hw (31 - i) (by omega)]
    rw [if_neg (by omega), if_neg (by omega), need_yes (by omega), bit_at' q _ (by omega) (by omega)]
    rfl
  | true =>
    have hi : i < 128 := hi
    have hb : bitN ⟨true, (p : Int), (q : Int)⟩ i = if 127 - i < 64 then q.testBit (127 - i) else p.testBit (127 - i - 64) := by
      unfold bitN num wid
      simp only [if_true, Int.toNat_natCast]
      rw [num6_bit (by omega)]
    rw [hb]
    have et : Int.tmod (i : Int) 64 = ((i % 64 : Nat) : Int) := by rw [Int.tmod_eq_emod_of_nonneg (by omega)]; rfl
    have hm : i % 64 < 64 := Nat.mod_lt _ (by omega)
    have e : sub64 (63 : Int) ((i % 64 : Nat) : Int) = ((63 - i % 64 : Nat) : Int) := by rw [sub64_id (by omega) (by omega)]; omega
    simp only [g_doormanref06_Bit, g_doormanref06_Bits, g_doormanref06_Bit_c0, cond_decide', Option.bind_some, cond_false, Bool.not_true, cond_true, et, e, hw (63 - i % 64) (by omega)]
    rw [if_neg (by omega), if_neg (by omega)]
    by_cases h64 : i < 64
    · rw [if_pos (by omega), need_yes (by omega), bit_at' p _ (by omega) (by omega), if_neg (show ¬ 127 - i < 64 by omega), show 63 - i % 64 = 127 - i - 64 by omega]
    · rw [if_neg (by omega), need_yes (by omega), bit_at' q _ (by omega) (by omega), if_pos (show 127 - i < 64 by omega), show 63 - i % 64 = 127 - i by omega]

theorem rbits_eq (a : T_api_Addr) : g_doormanref06_Bits a = some (wid a : Int) := by
  unfold g_doormanref06_Bits wid
  cases a.fV6 <;> rfl

theorem wid_le (a : T_api_Addr) : wid a ≤ 128 := by unfold wid; split <;> omega

theorem add1' {i : Nat} (h : i ≤ 1000000) : add64 (i : Int) 1 = ((i + 1 : Nat) : Int) := by rw [add64_id (by omega) (by omega)]; omega

theorem ref7_loop {p : T_api_Net} (hf : Fits p.fAddr) : ∀ fu (i : Nat), i ≤ wid p.fAddr → wid p.fAddr - i < fu → ∃ r, g_doormanref07_Right_c0 fu (i : Int) p = some r ∧ (r = true ↔ ∀ j, i ≤ j → j < wid p.fAddr → bitN p.fAddr j = false) := by
  have hw := wid_le p.fAddr
  intro fu
  induction fu with
  | zero => intro _ _ h; omega
  | succ fu ih =>
    intro i hi hfu
    simp only [g_doormanref07_Right_c0, rbits_eq, Option.bind_some, cond_decide']
    by_cases h : i < wid p.fAddr
    · rw [if_pos (by omega), rbit_eq hf i h, add1' (by omega)]
      simp only [Option.bind_some]
      obtain ⟨r, h1, h2⟩ := ih (i + 1) (by omega) (by omega)
      cases hb : bitN p.fAddr i with
      | true =>
        simp only [if_true, beq_self_eq_true, cond_true]
        refine ⟨false, rfl, ?_⟩
        simp only [Bool.false_eq_true, false_iff]
        intro hq
        have := hq i (Nat.le_refl _) h
        rw [hb] at this; cases this
      | false =>
        simp only [Bool.false_eq_true, if_false]
        rw [show ((0 : Int) == 1) = false from rfl, cond_false]
        refine ⟨r, h1, h2.trans ⟨fun q j h3 h4 => ?_, fun q j h3 h4 => q j (by omega) h4⟩⟩
        by_cases h5 : j = i
        · subst h5; exact hb
        · exact q j (by omega) h4
    · rw [if_neg (by omega)]
      exact ⟨true, rfl, by simp; intro j h3 h4; omega⟩

theorem ref7_right (p : T_api_Net) (h : p.fAddr.ok) : g_doormanref07_Right p = some (rightC p) := by
  simp only [g_doormanref07_Right, ref_right p.fAddr h, rbits_eq, Option.bind_some, cond_decide']
  unfold rightC
  cases hr : rightA p.fAddr
  · simp
  · have hf := fits_of h hr
    simp only [Bool.not_true, cond_false, Bool.true_and]
    by_cases h0 : p.fBits < 0
    · rw [if_pos h0, show decide (0 ≤ p.fBits) = false by rw [decide_eq_false_iff_not]; omega]; simp
    · rw [if_neg h0]
      by_cases h1 : p.fBits > (wid p.fAddr : Int)
      · rw [if_pos h1, show decide (p.fBits ≤ (wid p.fAddr : Int)) = false by rw [decide_eq_false_iff_not]; omega]; simp
      · rw [if_neg h1, show decide (0 ≤ p.fBits) = true by rw [decide_eq_true_eq]; omega, show decide (p.fBits ≤ (wid p.fAddr : Int)) = true by rw [decide_eq_true_eq]; omega]
        have hw := wid_le p.fAddr
        obtain ⟨r, r1, r2⟩ := ref7_loop hf 1000000 p.fBits.toNat (by omega) (by omega)
        rw [Int.toNat_of_nonneg (by omega)] at r1
        rw [r1, Option.some.injEq, Bool.true_and, Bool.true_and, Bool.eq_iff_iff, r2, decide_eq_true_eq]
        constructor
        · intro q
          refine addr_ext (maskA_fits hf _) hf (maskA_v6 _ _) fun i hi => ?_
          have hi : i < wid p.fAddr := by unfold wid at hi ⊢; rwa [maskA_v6] at hi
          rw [bit_mask hf p.fBits.toNat i (by omega) hi]
          by_cases hb : i < p.fBits.toNat
          · rw [decide_eq_true hb]; rfl
          · rw [decide_eq_false hb, q i (by omega) hi]; rfl
        · intro q j h3 h4
          have := bit_mask hf p.fBits.toNat j (by omega) h4
          rw [q, decide_eq_false (by omega)] at this
          exact this

def hasS (p : T_api_Net) (a : T_api_Addr) : Bool := rightC p && (rightA a && decide (p.fAddr.fV6 = a.fV6) && decide (∀ i, i < p.fBits.toNat → bitN a i = bitN p.fAddr i))

theorem ref7_hasloop {p : T_api_Net} {a : T_api_Addr} (hp : RN p) (ha : Fits a) (hv : p.fAddr.fV6 = a.fV6) : ∀ fu (i : Nat), i ≤ p.fBits.toNat → p.fBits.toNat - i < fu → ∃ r, g_doormanref07_Has_c0 fu (i : Int) p a = some r ∧ (r = true ↔ ∀ j, i ≤ j → j < p.fBits.toNat → bitN a j = bitN p.fAddr j) := by
  have hw := wid_le p.fAddr
  have hwa : wid p.fAddr = wid a := by unfold wid; rw [hv]
  have n1 := hp.nn; have l1 := hp.le
  intro fu
  induction fu with
  | zero => intro _ _ h; omega
  | succ fu ih =>
    intro i hi hfu
    simp only [g_doormanref07_Has_c0, cond_decide']
    by_cases h : i < p.fBits.toNat
    · rw [if_pos (by omega), rbit_eq hp.fits i (by omega), rbit_eq ha i (by omega), add1' (by omega)]
      simp only [Option.bind_some]
      obtain ⟨r, h1, h2⟩ := ih (i + 1) (by omega) (by omega)
      by_cases hb : bitN a i = bitN p.fAddr i
      · rw [hb]
        simp only [bne_self_eq_false, cond_false]
        refine ⟨r, h1, h2.trans ⟨fun q j h3 h4 => ?_, fun q j h3 h4 => q j (by omega) h4⟩⟩
        by_cases h5 : j = i
        · subst h5; exact hb
        · exact q j (by omega) h4
      · have hne : ((if bitN p.fAddr i = true then (1 : Int) else 0) != if bitN a i = true then 1 else 0) = true := by
          revert hb
          cases bitN a i <;> cases bitN p.fAddr i <;> simp
        rw [hne, cond_true]
        refine ⟨false, rfl, ?_⟩
        simp only [Bool.false_eq_true, false_iff]
        intro hq
        exact hb (hq i (Nat.le_refl _) h)
    · rw [if_neg (by omega)]
      exact ⟨true, rfl, by simp; intro j h3 h4; omega⟩

theorem ref7_has (p : T_api_Net) (a : T_api_Addr) (hp : p.fAddr.ok) (ha : a.ok) : g_doormanref07_Has p a = some (hasS p a) := by
  simp only [g_doormanref07_Has, ref7_right p hp, ref_right a ha, Option.bind_some]
  unfold hasS
  cases hc : rightC p
  · rfl
  · have hrn := (rn_iff hp).1 hc
    simp only [Bool.not_true, cond_false, Bool.true_and]
    cases hr : rightA a
    · rfl
    · simp only [Bool.not_true, cond_false, Bool.true_and]
      by_cases hv : p.fAddr.fV6 = a.fV6
      · rw [show (!(p.fAddr.fV6 == a.fV6)) = false by simp [hv], cond_false, decide_eq_true hv, Bool.true_and]
        have hw := wid_le p.fAddr; have n1 := hrn.nn; have l1 := hrn.le
        obtain ⟨r, r1, r2⟩ := ref7_hasloop hrn (fits_of ha hr) hv 1000000 0 (by omega) (by omega)
        have r1 : g_doormanref07_Has_c0 1000000 0 p a = some r := r1
        rw [r1, Option.some.injEq, Bool.eq_iff_iff, r2, decide_eq_true_eq]
        exact ⟨fun q j hj => q j (by omega) hj, fun q j _ hj => q j hj⟩
      · rw [show (!(p.fAddr.fV6 == a.fV6)) = true by simp [hv], cond_true, decide_eq_false hv]; rfl

/-! ### Trees, whole -/
def f0 : Nat → Bool := fun _ => false
def GT : N_trie_Trie → Prop
  | .nil => False
  | .mk r4 r6 _ => Grown false r4 0 f0 ∧ Grown true r6 0 f0
def itemsT : N_trie_Trie → List T_trie_Hit
  | .nil => []
  | .mk r4 r6 _ => items r4 ++ items r6

theorem bel0 (p : T_api_Net) : Bel' 0 f0 p := ⟨Nat.zero_le _, fun i hi => by omega⟩

theorem itemsT_right {t : N_trie_Trie} (h : GT t) : ∀ x ∈ itemsT t, RN x.fNet := by
  cases t with
  | nil => exact h.elim
  | mk r4 r6 n =>
    intro x hx
    simp only [itemsT, List.mem_append] at hx
    rcases hx with hx | hx
    · exact (items_below h.1 x hx).1
    · exact (items_below h.2 x hx).1

theorem fam_eq (a : T_api_Addr) : g_trie_family a = some (if a.fV6 then 1 else 0) := by
  unfold g_trie_family
  cases a.fV6 <;> rfl

theorem trie_get {t : N_trie_Trie} (h : GT t) (n : T_api_Net) (hn : n.fAddr.ok) : g_trie_Trie_Get t n = some (if rightC n then hitOf (itemsT t) n else (0, false)) := by
  cases t with
  | nil => exact h.elim
  | mk r4 r6 k =>
    simp only [g_trie_Trie_Get, cidr_right n hn, Option.bind_some, fam_eq]
    cases hr : rightC n
    · rfl
    · have hrn := (rn_iff hn).1 hr
      have hb : n.fBits.toNat ≤ 128 := by have := hrn.le; have := hrn.nn; have := wid_le n.fAddr; omega
      simp only [Bool.not_true, cond_false, if_true]
      cases hv : n.fAddr.fV6 with
      | false =>
        simp only [Bool.false_eq_true, if_false]
        rw [need_yes (by omega), show ∀ (A B : Option (Int × Bool)), ix2 0 A B = A from fun _ _ => rfl]
        rcases get_loop hrn hv 1000000 r4 0 f0 h.1 (by omega) with e | e
        · rw [e]
          unfold hitOf
          simp only [itemsT]
          rw [List.find?_append, find_none (l := items r6) fun x hx e => by have := (items_below h.2 x hx).2.1; rw [e, hv] at this; cases this]
          simp
        · omega
      | true =>
        simp only [if_true]
        rw [need_yes (by omega), show ∀ (A B : Option (Int × Bool)), ix2 1 A B = B from fun _ _ => rfl]
        rcases get_loop hrn hv 1000000 r6 0 f0 h.2 (by omega) with e | e
        · rw [e]
          unfold hitOf
          simp only [itemsT]
          rw [List.find?_append, find_none (l := items r4) fun x hx e => by have := (items_below h.1 x hx).2.1; rw [e, hv] at this; cases this]
          simp
        · omega

/-- What With makes of a tree, but for how many there are. -/
theorem trie_with {t : N_trie_Trie} (h : GT t) (n : T_api_Net) (hn : n.fAddr.ok) (val : Int) (hr : rightC n = true) : ∃ t', g_trie_Trie_With t n val = some t' ∧ GT t' ∧ ∀ x, x ∈ itemsT t' ↔ x = ⟨n, val⟩ ∨ (x ∈ itemsT t ∧ x.fNet ≠ n) := by
  cases t with
  | nil => exact h.elim
  | mk r4 r6 k =>
    have hrn := (rn_iff hn).1 hr
    have hb : n.fBits.toNat ≤ 128 := by have := hrn.le; have := hrn.nn; have := wid_le n.fAddr; omega
    have hg := trie_get h n hn
    simp only [g_trie_Trie_With, g_trie_Trie_With_c0, cidr_right n hn, hr, hg, if_true, Option.bind_some, Bool.not_true, cond_false, fam_eq]
    have part4 : n.fAddr.fV6 = false → ∃ r, g_trie_with 1000 r4 ⟨n, val⟩ = some r ∧ Grown false r 0 f0 ∧ ∀ x, (x ∈ items r ∨ x ∈ items r6) ↔ x = ⟨n, val⟩ ∨ ((x ∈ items r4 ∨ x ∈ items r6) ∧ x.fNet ≠ n) := fun hv => by
      obtain ⟨r, w1, w2, w3⟩ := with_spec (hit := ⟨n, val⟩) hrn hv 1000 r4 0 f0 h.1 (bel0 _) (by simp only; omega)
      refine ⟨r, w1, w2, fun x => ?_⟩
      rw [w3 x]
      have h6 : x ∈ items r6 → x.fNet ≠ n := fun hx e => by have := (items_below h.2 x hx).2.1; rw [e, hv] at this; cases this
      constructor
      · rintro ((hx | hx) | hx)
        · exact .inl hx
        · exact .inr ⟨.inl hx.1, hx.2⟩
        · exact .inr ⟨.inr hx, h6 hx⟩
      · rintro (hx | ⟨hx | hx, hne⟩)
        · exact .inl (.inl hx)
        · exact .inl (.inr ⟨hx, hne⟩)
        · exact .inr hx
    have part6 : n.fAddr.fV6 = true → ∃ r, g_trie_with 1000 r6 ⟨n, val⟩ = some r ∧ Grown true r 0 f0 ∧ ∀ x, (x ∈ items r4 ∨ x ∈ items r) ↔ x = ⟨n, val⟩ ∨ ((x ∈ items r4 ∨ x ∈ items r6) ∧ x.fNet ≠ n) := fun hv => by
      obtain ⟨r, w1, w2, w3⟩ := with_spec (hit := ⟨n, val⟩) hrn hv 1000 r6 0 f0 h.2 (bel0 _) (by simp only; omega)
      refine ⟨r, w1, w2, fun x => ?_⟩
      rw [w3 x]
      have h4 : x ∈ items r4 → x.fNet ≠ n := fun hx e => by have := (items_below h.1 x hx).2.1; rw [e, hv] at this; cases this
      constructor
      · rintro (hx | hx | hx)
        · exact .inr ⟨.inl hx, h4 hx⟩
        · exact .inl hx
        · exact .inr ⟨.inr hx.1, hx.2⟩
      · rintro (hx | ⟨hx | hx, hne⟩)
        · exact .inr (.inl hx)
        · exact .inl hx
        · exact .inr (.inr ⟨hx, hne⟩)
    have e1 : ∀ (A B : Option N_trie_Trie), ix2 0 A B = A := fun _ _ => rfl
    have e2 : ∀ (A B : Option N_trie_Trie), ix2 1 A B = B := fun _ _ => rfl
    cases hv : n.fAddr.fV6 with
    | false =>
      obtain ⟨r, w1, w2, w3⟩ := part4 hv
      cases (hitOf (itemsT (.mk r4 r6 k)) n).2 <;>
      · simp only [Bool.not_false, Bool.not_true, cond_true, cond_false, Bool.false_eq_true, if_false]
        rw [need_yes (by omega), e1, w1]
        exact ⟨_, rfl, ⟨w2, h.2⟩, fun x => by simp only [itemsT, List.mem_append]; exact w3 x⟩
    | true =>
      obtain ⟨r, w1, w2, w3⟩ := part6 hv
      cases (hitOf (itemsT (.mk r4 r6 k)) n).2 <;>
      · simp only [Bool.not_false, Bool.not_true, cond_true, cond_false, if_true]
        rw [need_yes (by omega), e2, w1]
        exact ⟨_, rfl, ⟨h.1, w2⟩, fun x => by simp only [itemsT, List.mem_append]; exact w3 x⟩

end Go.Proofs.Ytaakonlnlfbfkaa
