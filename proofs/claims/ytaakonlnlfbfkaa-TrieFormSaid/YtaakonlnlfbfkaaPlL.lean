/-
  PLAIN LAWS: trees of subnets as sorted lists: All, Without, how many.
-/
import Derived.Test.YtaakonlnlfbfkaaPlW
namespace Go.Proofs.Ytaakonlnlfbfkaa
set_option linter.unusedSimpArgs false
set_option linter.unusedVariables false

/-! ### How subnets stand -/
theorem lt_of_bits {n m k : Nat} (h0 : n.testBit k = false) (h1 : m.testBit k = true) (h : ∀ j, k < j → n.testBit j = m.testBit j) : n < m := by
  have e : n / 2 ^ (k + 1) = m / 2 ^ (k + 1) := by
    apply Nat.eq_of_testBit_eq
    intro i
    rw [Nat.testBit_div_two_pow, Nat.testBit_div_two_pow]
    exact h _ (by omega)
  have a := Nat.div_add_mod n (2 ^ (k + 1))
  have b := Nat.div_add_mod m (2 ^ (k + 1))
  rw [Nat.testBit_eq_decide_div_mod_eq, decide_eq_false_iff_not] at h0
  rw [Nat.testBit_eq_decide_div_mod_eq, decide_eq_true_eq] at h1
  rw [Nat.mod_pow_succ, show n / 2 ^ k % 2 = 0 by omega] at a
  rw [Nat.mod_pow_succ, h1] at b
  rw [e] at a
  have := Nat.mod_lt n (Nat.two_pow_pos k)
  simp only [Nat.mul_zero, Nat.mul_one] at a b
  omega

theorem cmpA_num {a b : T_api_Addr} (ha : Fits a) (hb : Fits b) (hv : a.fV6 = b.fV6) : cmpA a b < 0 ↔ num a < num b := by
  rw [cmpA_lt]
  have := ha.hi0; have := ha.hi1; have := ha.lo0; have := ha.lo1
  have := hb.hi0; have := hb.hi1; have := hb.lo0; have := hb.lo1
  have hf : famA a = famA b := famA_eq.2 hv
  unfold num
  rw [hf]
  cases hq : b.fV6
  · have := ha.v4 (hv.trans hq); have := hb.v4 hq
    simp only [hv, hq, Bool.false_eq_true, if_false, true_and, Int.lt_irrefl, false_or]
    constructor <;> intro q <;> omega
  · simp only [hv, hq, if_true, true_and, Int.lt_irrefl, false_or]
    constructor <;> intro q <;> omega

theorem cmpN_part {p q : T_api_Net} (hp : RN p) (hq : RN q) (hv : p.fAddr.fV6 = q.fAddr.fV6) (k : Nat) (hk : k < wid p.fAddr) (hs : ∀ i, i < k → bitN p.fAddr i = bitN q.fAddr i) (h0 : bitN p.fAddr k = false) (h1 : bitN q.fAddr k = true) : cmpN p q < 0 := by
  have hw : wid q.fAddr = wid p.fAddr := by unfold wid; rw [hv]
  rw [cmpN_lt]
  refine .inl ((cmpA_num hp.fits hq.fits hv).2 ?_)
  unfold bitN at hs h0 h1
  rw [hw] at hs h1
  refine lt_of_bits h0 h1 fun j hj => ?_
  by_cases hjw : j < wid p.fAddr
  · have := hs (wid p.fAddr - 1 - j) (by omega)
    rwa [show wid p.fAddr - 1 - (wid p.fAddr - 1 - j) = j by omega] at this
  · have hl := num_lt hp.fits
    have hl2 := num_lt hq.fits
    rw [hw] at hl2
    have hpw : 2 ^ wid p.fAddr ≤ 2 ^ j := Nat.pow_le_pow_right (by omega) (by omega)
    rw [Nat.testBit_lt_two_pow (by omega), Nat.testBit_lt_two_pow (by omega)]

theorem cmpN_pre {p q : T_api_Net} (hp : RN p) (hq : RN q) (hv : p.fAddr.fV6 = q.fAddr.fV6) (hl : p.fBits.toNat < q.fBits.toNat) (hs : ∀ i, i < p.fBits.toNat → bitN p.fAddr i = bitN q.fAddr i) : cmpN p q < 0 := by
  have hw : wid q.fAddr = wid p.fAddr := by unfold wid; rw [hv]
  have hpl := hp.le; have hpn := hp.nn; have hql := hq.le; have hqn := hq.nn
  have hle : num p.fAddr ≤ num q.fAddr := by
    have e : num p.fAddr = num q.fAddr - num q.fAddr % 2 ^ (wid p.fAddr - p.fBits.toNat) := by
      apply Nat.eq_of_testBit_eq
      intro j
      rw [cut_bit]
      by_cases hjw : j < wid p.fAddr
      · by_cases hj : wid p.fAddr - p.fBits.toNat ≤ j
        · have := hs (wid p.fAddr - 1 - j) (by omega)
          unfold bitN at this
          rw [hw, show wid p.fAddr - 1 - (wid p.fAddr - 1 - j) = j by omega] at this
          rw [this, decide_eq_true hj, Bool.true_and]
        · have := rn_bit hp (wid p.fAddr - 1 - j) (by omega) (by omega)
          unfold bitN at this
          rw [show wid p.fAddr - 1 - (wid p.fAddr - 1 - j) = j by omega] at this
          rw [this, decide_eq_false hj, Bool.false_and]
      · have hl1 := num_lt hp.fits
        have hl2 := num_lt hq.fits
        rw [hw] at hl2
        have hpw : 2 ^ wid p.fAddr ≤ 2 ^ j := Nat.pow_le_pow_right (by omega) (by omega)
        rw [Nat.testBit_lt_two_pow (by omega), Nat.testBit_lt_two_pow (by omega), Bool.and_false]
    rw [e]; exact Nat.sub_le _ _
  rw [cmpN_lt]
  by_cases e : num p.fAddr = num q.fAddr
  · refine .inr ⟨addr_ext hp.fits hq.fits hv fun i _ => ?_, by omega⟩
    unfold bitN
    rw [hw, e]
  · exact .inl ((cmpA_num hp.fits hq.fits hv).2 (by omega))

theorem cmpN_fam {p q : T_api_Net} (hp : p.fAddr.fV6 = false) (hq : q.fAddr.fV6 = true) : cmpN p q < 0 := by
  rw [cmpN_lt, cmpA_lt]
  unfold famA
  rw [hp, hq]
  exact .inl (.inl (by simp))

def SH (l : List T_trie_Hit) : Prop := l.Pairwise fun x y => cmpN x.fNet y.fNet < 0

theorem items_sorted {v : Bool} : ∀ {nd : N_trie_node} {n : Nat} {f : Nat → Bool}, Grown v nd n f → SH (items nd)
  | .nil, _, _, _ => List.Pairwise.nil
  | .mk h has k0 k1, n, f, hg => by
    obtain ⟨g1, g2, g3, g4, g5⟩ := hg
    have b0 := fun x hx => items_below g4 x hx
    have b1 := fun x hx => items_below g5 x hx
    have hh : ∀ x ∈ (if has then [h] else []), x = h := fun x hx => by
      split at hx
      · rw [List.mem_singleton] at hx; exact hx
      · simp at hx
    have below : ∀ (b : Bool) (y : T_trie_Hit), RN y.fNet → y.fNet.fAddr.fV6 = v → Bel' (h.fNet.fBits.toNat + 1) (ext' h.fNet b) y.fNet → cmpN h.fNet y.fNet < 0 := fun b y y1 y2 y3 => by
      obtain ⟨c1, c2, c3⟩ := bel_ext.1 y3
      exact cmpN_pre g1 y1 (g2.trans y2.symm) c1 fun i hi => (c2 i hi).symm
    simp only [items, SH]
    rw [List.pairwise_append, List.pairwise_append]
    refine ⟨⟨?_, items_sorted g4, fun x hx y hy => ?_⟩, items_sorted g5, fun x hx y hy => ?_⟩
    · split
      · exact List.pairwise_singleton _ _
      · exact List.Pairwise.nil
    · rw [hh x hx]; obtain ⟨y1, y2, y3⟩ := b0 y hy; exact below false y y1 y2 y3
    · obtain ⟨y1, y2, y3⟩ := b1 y hy
      rcases List.mem_append.1 hx with hx | hx
      · rw [hh x hx]; exact below true y y1 y2 y3
      · obtain ⟨x1, x2, x3⟩ := b0 x hx
        obtain ⟨c1, c2, c3⟩ := bel_ext.1 x3
        obtain ⟨d1, d2, d3⟩ := bel_ext.1 y3
        exact cmpN_part x1 y1 (x2.trans y2.symm) h.fNet.fBits.toNat (by have := x1.le; omega) (fun i hi => (c2 i hi).trans (d2 i hi).symm) c3 d3

theorem itemsT_sorted {t : N_trie_Trie} (h : GT t) : SH (itemsT t) := by
  cases t with
  | nil => exact h.elim
  | mk r4 r6 k =>
    simp only [itemsT, SH]
    rw [List.pairwise_append]
    exact ⟨items_sorted h.1, items_sorted h.2, fun x hx y hy => cmpN_fam (items_below h.1 x hx).2.1 (items_below h.2 y hy).2.1⟩

theorem cmpN_irrefl {a : T_api_Net} (h : cmpN a a < 0) : False := by have := (cmpN_zero (a := a) (b := a)).2 rfl; omega
theorem cmpN_asym {a b : T_api_Net} (h : cmpN a b < 0) (h2 : cmpN b a < 0) : False := cmpN_irrefl (cmpN_trans h h2)

theorem sh_eq : ∀ (l l' : List T_trie_Hit), SH l → SH l' → (∀ x, x ∈ l ↔ x ∈ l') → l = l'
  | [], l', _, _, h => by
    cases l' with
    | nil => rfl
    | cons b l' => exact absurd ((h b).2 (by simp)) (by simp)
  | a :: l, [], _, _, h => absurd ((h a).1 (by simp)) (by simp)
  | a :: l, b :: l', h1, h2, h => by
    obtain ⟨ha, hl⟩ := List.pairwise_cons.1 h1
    obtain ⟨hb, hl'⟩ := List.pairwise_cons.1 h2
    have e : a = b := by
      rcases List.mem_cons.1 ((h a).1 (by simp)) with e | hm
      · exact e
      · rcases List.mem_cons.1 ((h b).2 (by simp)) with e | hm2
        · exact e.symm
        · exact (cmpN_asym (hb a hm) (ha b hm2)).elim
    subst e
    congr 1
    refine sh_eq l l' hl hl' fun x => ⟨fun hx => ?_, fun hx => ?_⟩
    · rcases List.mem_cons.1 ((h x).1 (by simp [hx])) with e | hm
      · subst e; exact (cmpN_irrefl (ha x hx)).elim
      · exact hm
    · rcases List.mem_cons.1 ((h x).2 (by simp [hx])) with e | hm
      · subst e; exact (cmpN_irrefl (hb x hx)).elim
      · exact hm

/-! ### Taken out, put in -/
def withoutS (l : List T_trie_Hit) (n : T_api_Net) : List T_trie_Hit := l.filter fun x => !decide (x.fNet = n)
def insS (l : List T_trie_Hit) (x : T_trie_Hit) : List T_trie_Hit := match l with
  | [] => [x]
  | y :: r => if cmpN x.fNet y.fNet < 0 then x :: y :: r else y :: insS r x
def withS (l : List T_trie_Hit) (n : T_api_Net) (v : Int) : List T_trie_Hit := insS (withoutS l n) ⟨n, v⟩

theorem mem_withoutS {l : List T_trie_Hit} {n : T_api_Net} {x : T_trie_Hit} : x ∈ withoutS l n ↔ x ∈ l ∧ x.fNet ≠ n := by simp [withoutS]
theorem mem_insS {x y : T_trie_Hit} : ∀ {l : List T_trie_Hit}, y ∈ insS l x ↔ y = x ∨ y ∈ l
  | [] => by simp [insS]
  | z :: r => by
    unfold insS
    split
    · simp
    · simp only [List.mem_cons, mem_insS (l := r)]
      constructor
      · rintro (h | h | h) <;> simp [h]
      · rintro (h | h | h) <;> simp [h]
theorem insS_len {x : T_trie_Hit} : ∀ {l : List T_trie_Hit}, (insS l x).length = l.length + 1
  | [] => rfl
  | z :: r => by
    unfold insS
    split
    · rfl
    · simp [insS_len (l := r)]
theorem insS_sorted {x : T_trie_Hit} : ∀ {l : List T_trie_Hit}, SH l → (∀ y ∈ l, y.fNet ≠ x.fNet) → SH (insS l x)
  | [], _, _ => List.pairwise_singleton _ _
  | z :: r, h, hne => by
    obtain ⟨hz, hr⟩ := List.pairwise_cons.1 h
    unfold insS
    split
    · rename_i hc
      refine List.pairwise_cons.2 ⟨fun y hy => ?_, h⟩
      rcases List.mem_cons.1 hy with e | hy
      · rw [e]; exact hc
      · exact cmpN_trans hc (hz y hy)
    · rename_i hc
      have hzx : cmpN z.fNet x.fNet < 0 := by
        by_cases q : cmpN x.fNet z.fNet = 0
        · exact absurd (cmpN_zero.1 q).symm (hne z (by simp))
        · exact cmpN_swap.1 (by omega)
      refine List.pairwise_cons.2 ⟨fun y hy => ?_, insS_sorted hr fun y hy => hne y (by simp [hy])⟩
      rcases mem_insS.1 hy with e | hy
      · rw [e]; exact hzx
      · exact hz y hy
theorem withoutS_sorted {l : List T_trie_Hit} (h : SH l) (n : T_api_Net) : SH (withoutS l n) := List.Pairwise.filter _ h
theorem withS_sorted {l : List T_trie_Hit} (h : SH l) (n : T_api_Net) (v : Int) : SH (withS l n v) :=
  insS_sorted (withoutS_sorted h n) fun y hy => (mem_withoutS.1 hy).2
theorem mem_withS {l : List T_trie_Hit} {n : T_api_Net} {v : Int} {x : T_trie_Hit} : x ∈ withS l n v ↔ x = ⟨n, v⟩ ∨ (x ∈ l ∧ x.fNet ≠ n) := by
  unfold withS; rw [mem_insS, mem_withoutS]

theorem withoutS_none {l : List T_trie_Hit} {n : T_api_Net} (h : ∀ x ∈ l, x.fNet ≠ n) : withoutS l n = l := by
  unfold withoutS
  rw [List.filter_eq_self]
  intro x hx
  simpa using h x hx

theorem withoutS_len : ∀ {l : List T_trie_Hit} (n : T_api_Net), SH l → ((withoutS l n).length : Int) = (l.length : Int) - (if (hitOf l n).2 then 1 else 0)
  | [], n, _ => by simp [withoutS, hitOf]
  | z :: r, n, h => by
    obtain ⟨hz, hr⟩ := List.pairwise_cons.1 h
    by_cases e : z.fNet = n
    · have hn : ∀ x ∈ r, x.fNet ≠ n := fun x hx q => by
        have := hz x hx
        rw [e, q] at this
        exact cmpN_irrefl this
      have e1 : withoutS (z :: r) n = r := by
        have : withoutS (z :: r) n = withoutS r n := by simp [withoutS, e]
        rw [this, withoutS_none hn]
      rw [e1, show (hitOf (z :: r) n).2 = true by simp [hitOf, e]]
      simp only [List.length_cons, if_true]
      omega
    · have e1 : withoutS (z :: r) n = z :: withoutS r n := by simp [withoutS, e]
      have e2 : hitOf (z :: r) n = hitOf r n := by simp [hitOf, e]
      rw [e1, e2]
      have := withoutS_len n hr
      simp only [List.length_cons]
      omega

/-! ### Without -/
theorem grown_kids {v : Bool} {h : T_trie_Hit} {has : Bool} {k0 k1 : N_trie_node} {m : Nat} {f : Nat → Bool} (hg : Grown v (.mk h has k0 k1) m f) : Grown v k0 m f ∧ Grown v k1 m f := by
  obtain ⟨g1, g2, g3, g4, g5⟩ := hg
  have kid : ∀ (b : Bool) (q : T_api_Net), Bel' (h.fNet.fBits.toNat + 1) (ext' h.fNet b) q → Bel' m f q := fun b q hb => by
    obtain ⟨b1, b2, _⟩ := bel_ext.1 hb
    have := g3.1
    exact ⟨by omega, fun i hi => by rw [b2 i (by omega)]; exact g3.2 i hi⟩
  refine ⟨g4.rebase fun x has2 a b e => ?_, g5.rebase fun x has2 a b e => ?_⟩
  · subst e; exact kid false _ g4.2.2.1
  · subst e; exact kid true _ g5.2.2.1

theorem short_spec {v : Bool} {h : T_trie_Hit} {has : Bool} {k0 k1 : N_trie_node} {m : Nat} {f : Nat → Bool} (hg : Grown v (.mk h has k0 k1) m f) :
    ∃ nd', g_trie_short (T_trie_node.mk h has (k0, k1)) = some nd' ∧ Grown v nd' m f ∧ ∀ x, x ∈ items nd' ↔ x ∈ items (.mk h has k0 k1) := by
  obtain ⟨e0, e1⟩ := grown_kids hg
  unfold g_trie_short g_trie_short_n
  cases has with
  | true => exact ⟨_, rfl, hg, fun x => Iff.rfl⟩
  | false =>
    cases k0 with
    | nil => exact ⟨k1, rfl, e1, fun x => by simp [items]⟩
    | mk a b c d =>
      cases k1 with
      | nil => exact ⟨_, rfl, e0, fun x => by simp [items]⟩
      | mk a' b' c' d' => exact ⟨_, rfl, hg, fun x => Iff.rfl⟩

theorem without_spec {v : Bool} {n : T_api_Net} : ∀ fu (nd : N_trie_node) (m : Nat) (f : Nat → Bool), Grown v nd m f → (∃ x ∈ items nd, x.fNet = n) → 131 ≤ fu + m → m ≤ 129 →
    ∃ nd', g_trie_without fu nd n = some nd' ∧ Grown v nd' m f ∧ ∀ x, x ∈ items nd' ↔ x ∈ items nd ∧ x.fNet ≠ n := by
  intro fu
  induction fu with
  | zero => intro nd m f _ _ h h2; omega
  | succ fu ih =>
    intro nd m f hg hex hf hm
    cases nd with
    | nil => obtain ⟨x, hx, _⟩ := hex; simp [items] at hx
    | mk h has k0 k1 =>
      have hg0 := hg
      obtain ⟨g1, g2, g3, g4, g5⟩ := hg
      have b0 := fun x hx => items_below g4 x hx
      have b1 := fun x hx => items_below g5 x hx
      have hmb := g3.1
      have hle : h.fNet.fBits.toNat ≤ 128 := by have := g1.le; have := g1.nn; have := wid_le h.fNet.fAddr; omega
      simp only [g_trie_without, cond_decide']
      by_cases e : h.fNet = n
      · rw [if_pos e]
        have hg' : Grown v (.mk h false k0 k1) m f := ⟨g1, g2, g3, g4, g5⟩
        obtain ⟨nd', s1, s2, s3⟩ := short_spec hg'
        rw [s1]
        refine ⟨nd', rfl, s2, fun x => ?_⟩
        rw [s3 x]
        have ne0 : ∀ x ∈ items k0, x.fNet ≠ n := fun x hx q => by
          have := (bel_ext.1 (b0 x hx).2.2).1
          rw [q, ← e] at this; omega
        have ne1 : ∀ x ∈ items k1, x.fNet ≠ n := fun x hx q => by
          have := (bel_ext.1 (b1 x hx).2.2).1
          rw [q, ← e] at this; omega
        simp only [items, Bool.false_eq_true, if_false, List.nil_append, List.mem_append]
        constructor
        · rintro (hx | hx)
          · exact ⟨.inl (.inr hx), ne0 x hx⟩
          · exact ⟨.inr hx, ne1 x hx⟩
        · rintro ⟨(hx | hx) | hx, hne⟩
          · split at hx
            · rw [List.mem_singleton] at hx; subst hx; exact absurd e hne
            · simp at hx
          · exact .inl hx
          · exact .inr hx
      · rw [if_neg e]
        obtain ⟨y, hy, hyn⟩ := hex
        have hh : ∀ x ∈ (if has then [h] else []), x.fNet ≠ n := fun x hx => by
          split at hx
          · rw [List.mem_singleton] at hx; rw [hx]; exact e
          · simp at hx
        simp only [items, List.mem_append] at hy
        have ei : h.fNet.fBits = ((h.fNet.fBits.toNat : Nat) : Int) := by have := g1.nn; omega
        rcases hy with (hy | hy) | hy
        · exact absurd hyn (hh y hy)
        · obtain ⟨y1, y2, y3⟩ := b0 y hy
          obtain ⟨c1, c2, c3⟩ := bel_ext.1 y3
          rw [hyn] at y1 c1 c3
          rw [ei, tbit_eq y1 h.fNet.fBits.toNat (by have := y1.le; omega), c3]
          simp only [Option.bind_some, Bool.false_eq_true, if_false]
          rw [need_yes (by omega), show ∀ (A B : Option N_trie_node), ix2 0 A B = A from fun _ _ => rfl]
          obtain ⟨k0', w1, w2, w3⟩ := ih k0 _ _ g4 ⟨y, hy, hyn⟩ (by omega) (by omega)
          rw [w1]
          have hg' : Grown v (.mk h has k0' k1) m f := ⟨g1, g2, g3, w2, g5⟩
          obtain ⟨nd', s1, s2, s3⟩ := short_spec hg'
          simp only [Option.bind_some, s1]
          refine ⟨nd', rfl, s2, fun x => ?_⟩
          have ne1 : ∀ x ∈ items k1, x.fNet ≠ n := fun x hx q => by
            have := (bel_ext.1 (b1 x hx).2.2).2.2
            rw [q, c3] at this; cases this
          rw [s3 x]
          simp only [items, List.mem_append, w3 x]
          constructor
          · rintro ((hx | hx) | hx)
            · exact ⟨.inl (.inl hx), hh x hx⟩
            · exact ⟨.inl (.inr hx.1), hx.2⟩
            · exact ⟨.inr hx, ne1 x hx⟩
          · rintro ⟨(hx | hx) | hx, hne⟩
            · exact .inl (.inl hx)
            · exact .inl (.inr ⟨hx, hne⟩)
            · exact .inr hx
        · obtain ⟨y1, y2, y3⟩ := b1 y hy
          obtain ⟨c1, c2, c3⟩ := bel_ext.1 y3
          rw [hyn] at y1 c1 c3
          rw [ei, tbit_eq y1 h.fNet.fBits.toNat (by have := y1.le; omega), c3]
          simp only [Option.bind_some, if_true]
          rw [need_yes (by omega), show ∀ (A B : Option N_trie_node), ix2 1 A B = B from fun _ _ => rfl]
          obtain ⟨k1', w1, w2, w3⟩ := ih k1 _ _ g5 ⟨y, hy, hyn⟩ (by omega) (by omega)
          rw [w1]
          have hg' : Grown v (.mk h has k0 k1') m f := ⟨g1, g2, g3, g4, w2⟩
          obtain ⟨nd', s1, s2, s3⟩ := short_spec hg'
          simp only [Option.bind_some, s1]
          refine ⟨nd', rfl, s2, fun x => ?_⟩
          have ne0 : ∀ x ∈ items k0, x.fNet ≠ n := fun x hx q => by
            have := (bel_ext.1 (b0 x hx).2.2).2.2
            rw [q, c3] at this; cases this
          rw [s3 x]
          simp only [items, List.mem_append, w3 x]
          constructor
          · rintro ((hx | hx) | hx)
            · exact ⟨.inl (.inl hx), hh x hx⟩
            · exact ⟨.inl (.inr hx), ne0 x hx⟩
            · exact ⟨.inr hx.1, hx.2⟩
          · rintro ⟨(hx | hx) | hx, hne⟩
            · exact .inl (.inl hx)
            · exact .inl (.inr hx)
            · exact .inr ⟨hx, hne⟩

/-! ### Trees that are right -/
def cntT : N_trie_Trie → Int
  | .nil => 0
  | .mk _ _ k => k

/-- A tree that is right, and tells how many there are. -/
structure VT (t : N_trie_Trie) (L : List T_trie_Hit) : Prop where
  gt : GT t
  eq : itemsT t = L
  cnt : cntT t = (L.length : Int)
  small : L.length ≤ 10000

theorem VT.sorted {t : N_trie_Trie} {L : List T_trie_Hit} (h : VT t L) : SH L := h.eq ▸ itemsT_sorted h.gt
theorem VT.right {t : N_trie_Trie} {L : List T_trie_Hit} (h : VT t L) : ∀ x ∈ L, RN x.fNet := by have := itemsT_right h.gt; rwa [h.eq] at this

theorem trie_new : g_trie_New = some (.mk .nil .nil 0) := rfl
theorem vt_new : VT (.mk .nil .nil 0) [] := ⟨⟨trivial, trivial⟩, rfl, rfl, by simp⟩
theorem trie_len (t : N_trie_Trie) : g_trie_Trie_Len t = some (cntT t) := by cases t <;> rfl

theorem hit_right {L : List T_trie_Hit} (h : ∀ x ∈ L, RN x.fNet) (n : T_api_Net) (hn : n.fAddr.ok) : (if rightC n then hitOf L n else (0, false)) = hitOf L n := by
  cases hr : rightC n with
  | true => rfl
  | false =>
    have : ∀ x ∈ L, x.fNet ≠ n := fun x hx e => by
      have := (rn_iff hn).2 (e ▸ h x hx)
      rw [hr] at this; cases this
    unfold hitOf
    rw [find_none this]
    rfl

theorem vt_get {t : N_trie_Trie} {L : List T_trie_Hit} (h : VT t L) (n : T_api_Net) (hn : n.fAddr.ok) : g_trie_Trie_Get t n = some (hitOf L n) := by
  rw [trie_get h.gt n hn, h.eq, hit_right h.right n hn]

theorem with_cnt {t t' : N_trie_Trie} (h : GT t) (n : T_api_Net) (hn : n.fAddr.ok) (v : Int) (hr : rightC n = true) (hw : g_trie_Trie_With t n v = some t') : cntT t' = if (hitOf (itemsT t) n).2 then cntT t else add64 (cntT t) 1 := by
  have hg := trie_get h n hn
  cases t with
  | nil => exact h.elim
  | mk r4 r6 k =>
    simp only [g_trie_Trie_With, g_trie_Trie_With_c0, cidr_right n hn, hr, hg, if_true, Option.bind_some, Bool.not_true, cond_false, fam_eq] at hw
    cases hq : (hitOf (itemsT (.mk r4 r6 k)) n).2 with
    | true =>
      rw [hq] at hw
      simp only [Bool.not_true, cond_false] at hw
      obtain ⟨o, hw⟩ := need_some hw
      cases hv : n.fAddr.fV6
      · rw [hv] at hw
        rw [show ∀ (A B : Option N_trie_Trie), ix2 (if (false = true) then (1 : Int) else 0) A B = A from fun _ _ => rfl] at hw
        obtain ⟨x, _, hw⟩ := bind_some' hw
        cases hw; rfl
      · rw [hv] at hw
        rw [show ∀ (A B : Option N_trie_Trie), ix2 (if (true = true) then (1 : Int) else 0) A B = B from fun _ _ => rfl] at hw
        obtain ⟨x, _, hw⟩ := bind_some' hw
        cases hw; rfl
    | false =>
      rw [hq] at hw
      simp only [Bool.not_false, cond_true] at hw
      obtain ⟨o, hw⟩ := need_some hw
      cases hv : n.fAddr.fV6
      · rw [hv] at hw
        rw [show ∀ (A B : Option N_trie_Trie), ix2 (if (false = true) then (1 : Int) else 0) A B = A from fun _ _ => rfl] at hw
        obtain ⟨x, _, hw⟩ := bind_some' hw
        cases hw; rfl
      · rw [hv] at hw
        rw [show ∀ (A B : Option N_trie_Trie), ix2 (if (true = true) then (1 : Int) else 0) A B = B from fun _ _ => rfl] at hw
        obtain ⟨x, _, hw⟩ := bind_some' hw
        cases hw; rfl

def wS (L : List T_trie_Hit) (n : T_api_Net) (v : Int) : List T_trie_Hit := if rightC n then withS L n v else L

theorem wS_len (L : List T_trie_Hit) (n : T_api_Net) (v : Int) : (wS L n v).length ≤ L.length + 1 := by
  unfold wS
  split
  · unfold withS
    rw [insS_len]
    have : (withoutS L n).length ≤ L.length := List.length_filter_le _ _
    omega
  · omega

theorem vt_with {t : N_trie_Trie} {L : List T_trie_Hit} (h : VT t L) (n : T_api_Net) (hn : n.fAddr.ok) (v : Int) (hs : L.length < 10000) : ∃ t', g_trie_Trie_With t n v = some t' ∧ VT t' (wS L n v) := by
  have hlen := wS_len L n v
  unfold wS at hlen ⊢
  cases hr : rightC n with
  | true =>
    rw [hr] at hlen
    simp only [if_true] at hlen ⊢
    obtain ⟨t', w1, w2, w3⟩ := trie_with h.gt n hn v hr
    have hi : itemsT t' = withS L n v := sh_eq _ _ (itemsT_sorted w2) (withS_sorted h.sorted n v) fun x => by rw [w3 x, mem_withS, h.eq]
    refine ⟨t', w1, w2, hi, ?_, by omega⟩
    have hc := with_cnt h.gt n hn v hr w1
    have hl := withoutS_len n h.sorted
    have e : ((withS L n v).length : Int) = ((withoutS L n).length : Int) + 1 := by unfold withS; rw [insS_len]; omega
    rw [hc, e, hl, h.eq, h.cnt]
    cases (hitOf L n).2
    · simp only [Bool.false_eq_true, if_false]
      rw [add64_id (by omega) (by omega)]; omega
    · simp only [if_true]; omega
  | false =>
    simp only [Bool.false_eq_true, if_false]
    refine ⟨t, ?_, h⟩
    have hg := h.gt
    cases t with
    | nil => exact hg.elim
    | mk r4 r6 k => simp only [g_trie_Trie_With, g_trie_Trie_With_c0, cidr_right n hn, hr, Option.bind_some, Bool.not_false, cond_true]

theorem vt_without {t : N_trie_Trie} {L : List T_trie_Hit} (h : VT t L) (n : T_api_Net) (hn : n.fAddr.ok) : ∃ t', g_trie_Trie_Without t n = some t' ∧ VT t' (withoutS L n) := by
  have hg := h.gt
  have hgt := vt_get h n hn
  have hl := withoutS_len n h.sorted
  have hle : (withoutS L n).length ≤ L.length := List.length_filter_le _ _
  have hsm := h.small
  cases t with
  | nil => exact hg.elim
  | mk r4 r6 k =>
    simp only [g_trie_Trie_Without, hgt, Option.bind_some, fam_eq]
    cases hq : (hitOf L n).2 with
    | false =>
      simp only [Bool.not_false, cond_true]
      refine ⟨_, rfl, hg, ?_, ?_, by omega⟩
      · rw [h.eq, withoutS_none (hitOf_no hq)]
      · rw [h.cnt, withoutS_none (hitOf_no hq)]
    | true =>
      simp only [Bool.not_true, cond_false]
      obtain ⟨y, y1, y2, y3⟩ := hitOf_yes hq
      rw [hq] at hl
      simp only [if_true] at hl
      have hk : k = (L.length : Int) := h.cnt
      have hsub : sub64 k 1 = ((withoutS L n).length : Int) := by rw [hk, sub64_id (by omega) (by omega)]; omega
      have hmem : y ∈ items r4 ∨ y ∈ items r6 := by
        rw [← h.eq] at y1
        simpa [itemsT] using y1
      cases hv : n.fAddr.fV6 with
      | false =>
        simp only [Bool.false_eq_true, if_false]
        rw [need_yes (by omega), show ∀ (A B : Option N_trie_Trie), ix2 0 A B = A from fun _ _ => rfl]
        have h4 : y ∈ items r4 := by
          rcases hmem with hm | hm
          · exact hm
          · have := (items_below hg.2 y hm).2.1
            rw [y2, hv] at this; cases this
        obtain ⟨r, w1, w2, w3⟩ := without_spec 1000 r4 0 f0 hg.1 ⟨y, h4, y2⟩ (by omega) (by omega)
        rw [w1]
        simp only [Option.bind_some]
        have hG : GT (.mk r r6 (sub64 k 1)) := ⟨w2, hg.2⟩
        refine ⟨_, rfl, hG, sh_eq _ _ (itemsT_sorted hG) (withoutS_sorted h.sorted n) fun x => ?_, hsub, by omega⟩
        rw [mem_withoutS, ← h.eq]
        simp only [itemsT, List.mem_append, w3 x]
        have h6 : x ∈ items r6 → x.fNet ≠ n := fun hx e => by have := (items_below hg.2 x hx).2.1; rw [e, hv] at this; cases this
        constructor
        · rintro (hx | hx)
          · exact ⟨.inl hx.1, hx.2⟩
          · exact ⟨.inr hx, h6 hx⟩
        · rintro ⟨hx | hx, hne⟩
          · exact .inl ⟨hx, hne⟩
          · exact .inr hx
      | true =>
        simp only [if_true]
        rw [need_yes (by omega), show ∀ (A B : Option N_trie_Trie), ix2 1 A B = B from fun _ _ => rfl]
        have h6 : y ∈ items r6 := by
          rcases hmem with hm | hm
          · have := (items_below hg.1 y hm).2.1
            rw [y2, hv] at this; cases this
          · exact hm
        obtain ⟨r, w1, w2, w3⟩ := without_spec 1000 r6 0 f0 hg.2 ⟨y, h6, y2⟩ (by omega) (by omega)
        rw [w1]
        simp only [Option.bind_some]
        have hG : GT (.mk r4 r (sub64 k 1)) := ⟨hg.1, w2⟩
        refine ⟨_, rfl, hG, sh_eq _ _ (itemsT_sorted hG) (withoutS_sorted h.sorted n) fun x => ?_, hsub, by omega⟩
        rw [mem_withoutS, ← h.eq]
        simp only [itemsT, List.mem_append, w3 x]
        have h4 : x ∈ items r4 → x.fNet ≠ n := fun hx e => by have := (items_below hg.1 x hx).2.1; rw [e, hv] at this; cases this
        constructor
        · rintro (hx | hx)
          · exact ⟨.inl hx, h4 hx⟩
          · exact ⟨.inr hx.1, hx.2⟩
        · rintro ⟨hx | hx, hne⟩
          · exact .inl hx
          · exact .inr ⟨hx, hne⟩

/-! ### All -/
theorem walk_eq {v : Bool} : ∀ fu (nd : N_trie_node) (m : Nat) (f : Nat → Bool) (w : List T_trie_Hit), Grown v nd m f → 131 ≤ fu + m → m ≤ 129 → (w ++ items nd).length ≤ 10000 → g_trie_node_walk fu nd w = some (w ++ items nd) := by
  intro fu
  induction fu with
  | zero => intro nd m f w _ h h2; omega
  | succ fu ih =>
    intro nd m f w hg hf hm hl
    cases nd with
    | nil => simp [g_trie_node_walk, items]
    | mk h has k0 k1 =>
      obtain ⟨g1, g2, g3, g4, g5⟩ := hg
      have hmb := g3.1
      have hle : h.fNet.fBits.toNat ≤ 128 := by have := g1.le; have := g1.nn; have := wid_le h.fNet.fAddr; omega
      simp only [items, List.length_append] at hl
      cases has with
      | true =>
        simp only [if_true, List.length_singleton] at hl
        simp only [g_trie_node_walk, cond_true, g_trie_All_1]
        rw [need_yes ⟨by simp; omega, by unfold maxLen; simp; omega⟩]
        simp only [Option.bind_some]
        rw [ih k0 _ _ _ g4 (by omega) (by omega) (by simp; omega)]
        simp only [Option.bind_some]
        rw [ih k1 _ _ _ g5 (by omega) (by omega) (by simp; omega)]
        simp [items]
      | false =>
        simp only [g_trie_node_walk, cond_false]
        rw [ih k0 _ _ _ g4 (by omega) (by omega) (by simp; omega)]
        simp only [Option.bind_some]
        rw [ih k1 _ _ _ g5 (by omega) (by omega) (by simp; omega)]
        simp [items]

theorem vt_all {t : N_trie_Trie} {L : List T_trie_Hit} (h : VT t L) : g_trie_Trie_All t = some L := by
  have hg := h.gt; have he := h.eq; have hs := h.small
  cases t with
  | nil => exact hg.elim
  | mk r4 r6 k =>
    simp only [itemsT] at he
    rw [← he] at hs ⊢
    simp only [List.length_append] at hs
    unfold g_trie_Trie_All
    simp only
    rw [walk_eq 1000 r4 0 f0 [] hg.1 (by omega) (by omega) (by simp; omega)]
    simp only [Option.bind_some, List.nil_append]
    rw [walk_eq 1000 r6 0 f0 _ hg.2 (by omega) (by omega) (by simp; omega)]

end Go.Proofs.Ytaakonlnlfbfkaa
