/-
  PLAIN LAWS: the two statements of the spread, joined.
-/
import Derived.Test.YtgmkffjkidgcnaaPlH
namespace Go.Proofs.Ytgmkffjkidgcnaa
set_option linter.unusedSimpArgs false
set_option linter.unusedVariables false

/-! ### Bits -/
def bitA (a : T_api_Addr) (j : Nat) : Int := if a.fV6 then a.fHi / 2 ^ (63 - j) % 2 else a.fLo / 2 ^ (31 - j) % 2

theorem bit_at (n k : Nat) (hk : k < 64) (hn : n < 2 ^ 64) : IntKind.i64.wrap (IntKind.u64.wrap (((BitVec.ofInt (IntKind.bits .u64) (Int.fdiv (n : Int) (2 ^ (min (IntKind.u64.wrap (k : Int)).toNat (IntKind.bits .u64))))) &&& (BitVec.ofInt (IntKind.bits .u64) (1 : Int))).toNat : Int)) = (n : Int) / 2 ^ k % 2 := by
  have e0 : (IntKind.u64.wrap (k : Int)).toNat = k := by rw [wrap_u64 (by omega) (by omega)]; rfl
  rw [e0, show min k (IntKind.bits .u64) = k from Nat.min_eq_left (by simp [IntKind.bits]; omega)]
  have e : Int.fdiv (n : Int) (2 ^ k) = ((n / 2 ^ k : Nat) : Int) := by
    rw [Int.fdiv_eq_ediv_of_nonneg _ (by have : (0 : Int) < 2 ^ k := Int.pow_pos (by omega); omega)]
    simp
  have h1 : n / 2 ^ k < 2 ^ 64 := Nat.lt_of_le_of_lt (Nat.div_le_self _ _) hn
  rw [e, show (1 : Int) = ((1 : Nat) : Int) from rfl, and_int _ 1 h1 (by omega), Nat.and_one_is_mod]
  have h2 : n / 2 ^ k % 2 < 2 := Nat.mod_lt _ (by omega)
  have h3 : IntKind.i64.wrap ((n / 2 ^ k % 2 : Nat) : Int) = ((n / 2 ^ k % 2 : Nat) : Int) := by
    simp only [IntKind.wrap, IntKind.bits, IntKind.signed]
    simp
    omega
  rw [h3]
  simp

theorem bit_eq (a : T_api_Addr) (h : a.ok) (j : Nat) (hj : j < if a.fV6 then 32 else 16) : g_doormanref06_Bit a (j : Int) = some (bitA a j) := by
  obtain ⟨v, hi, lo⟩ := a
  obtain ⟨_, h1, h2, _⟩ := h
  have h1 := okI_u64 h1
  have h2 := okI_u64 h2
  simp only at h1 h2
  obtain ⟨n, hn⟩ := nat_of h1.1
  obtain ⟨m, hm⟩ := nat_of h2.1
  subst hn hm
  cases v with
  | false =>
    have hj : j < 16 := by simpa using hj
    have e : sub64 (31 : Int) (j : Int) = ((31 - j : Nat) : Int) := by rw [sub64_id (by omega) (by omega)]; omega
    simp only [g_doormanref06_Bit, g_doormanref06_Bits, g_doormanref06_Bit_c0, cond_decide', Option.bind_some, cond_false, Bool.not_false, cond_true, e]
    rw [if_neg (by omega), if_neg (by omega), need_yes (by rw [wrap_u64 (by omega) (by omega)]; omega), bit_at m (31 - j) (by omega) (by omega)]
    simp [bitA]
  | true =>
    have hj : j < 32 := by simpa using hj
    have et : Int.tmod (j : Int) 64 = (j : Int) := by rw [Int.tmod_eq_emod_of_nonneg (by omega)]; omega
    have e : sub64 (63 : Int) (j : Int) = ((63 - j : Nat) : Int) := by rw [sub64_id (by omega) (by omega)]; omega
    simp only [g_doormanref06_Bit, g_doormanref06_Bits, g_doormanref06_Bit_c0, cond_decide', Option.bind_some, cond_false, Bool.not_true, cond_true, et, e]
    rw [if_neg (by omega), if_neg (by omega), if_pos (by omega), need_yes (by rw [wrap_u64 (by omega) (by omega)]; omega), bit_at n (63 - j) (by omega) (by omega)]
    simp [bitA]

theorem high_bits (n m t b : Nat) (hb : b ≤ t) (hn : n < 2 ^ t) (hm : m < 2 ^ t) : (∀ j, j < b → n / 2 ^ (t - 1 - j) % 2 = m / 2 ^ (t - 1 - j) % 2) ↔ n / 2 ^ (t - b) = m / 2 ^ (t - b) := by
  constructor
  · intro h
    apply Nat.eq_of_testBit_eq
    intro i
    rw [Nat.testBit_div_two_pow, Nat.testBit_div_two_pow]
    by_cases hi : i < b
    · have := h (b - 1 - i) (by omega)
      rw [show t - 1 - (b - 1 - i) = i + (t - b) by omega] at this
      rw [Nat.testBit_eq_decide_div_mod_eq, Nat.testBit_eq_decide_div_mod_eq, this]
    · rw [Nat.testBit_lt_two_pow (Nat.lt_of_lt_of_le hn (Nat.pow_le_pow_right (by omega) (by omega))), Nat.testBit_lt_two_pow (Nat.lt_of_lt_of_le hm (Nat.pow_le_pow_right (by omega) (by omega)))]
  · intro h j hj
    have e : 2 ^ (t - 1 - j) = 2 ^ (t - b) * 2 ^ (b - 1 - j) := by rw [← Nat.pow_add]; congr 1; omega
    rw [e, ← Nat.div_div_eq_div_mul, ← Nat.div_div_eq_div_mul, h]

theorem same_loop (a b : T_api_Addr) (ha : a.ok) (hb : b.ok) (hv : a.fV6 = b.fV6) : ∀ fu (i : Nat), i ≤ 32 → 32 - i < fu →
    ∃ r, g_doormanref08_Same_c0 fu (i : Int) a b = some r ∧ (r = true ↔ ∀ j, i ≤ j → j < (if a.fV6 then 32 else 16) → bitA a j = bitA b j) := by
  intro fu
  induction fu with
  | zero => intro _ _ h; omega
  | succ fu ih =>
    intro i hi hf
    simp only [g_doormanref08_Same_c0, cond_decide']
    by_cases h : i < 32
    · rw [if_pos (by omega)]
      have ha1 : add64 (i : Int) 1 = ((i + 1 : Nat) : Int) := add1 (n := 32) h (by unfold maxLen; omega)
      rw [ha1]
      obtain ⟨r, h1, h2⟩ := ih (i + 1) (by omega) (by omega)
      by_cases hr : i < (if a.fV6 then 32 else 16)
      · have e1 := bit_eq a ha i hr
        have e2 := bit_eq b hb i (by rw [← hv]; exact hr)
        have step : ∃ r, ((g_doormanref06_Bit a (i : Int)).bind fun x3 => (g_doormanref06_Bit b (i : Int)).bind fun x4 => bif (x3 != x4) then some false else g_doormanref08_Same_c0 fu ((i + 1 : Nat) : Int) a b) = some r ∧ (r = true ↔ ∀ j, i ≤ j → j < (if a.fV6 then 32 else 16) → bitA a j = bitA b j) := by
          rw [e1, e2]
          simp only [Option.bind_some]
          by_cases he : bitA a i = bitA b i
          · rw [show (bitA a i != bitA b i) = false by simp [he], cond_false]
            refine ⟨r, h1, h2.trans ⟨fun q j h3 h4 => ?_, fun q j h3 h4 => q j (by omega) h4⟩⟩
            by_cases h5 : j = i
            · subst h5; exact he
            · exact q j (by omega) h4
          · rw [show (bitA a i != bitA b i) = true by simp [he], cond_true]
            exact ⟨false, rfl, by simp; exact ⟨i, Nat.le_refl _, hr, he⟩⟩
        cases hq : a.fV6
        · rw [hq] at hr
          have hr : i < 16 := by simpa using hr
          simp only [cond_false]
          rw [if_pos (by omega)]
          rw [hq] at step
          exact step
        · simp only [cond_true]
          rw [hq] at step
          exact step
      · cases hq : a.fV6
        · rw [hq] at hr h2
          have hr : 16 ≤ i := by simpa using hr
          simp only [cond_false]
          rw [if_neg (by omega)]
          refine ⟨r, h1, h2.trans ⟨fun q j h3 h4 => ?_, fun q j h3 h4 => q j (by omega) h4⟩⟩
          have : j < 16 := by simpa using h4
          omega
        · rw [hq] at hr
          exact absurd h (by simpa using hr)
    · rw [if_neg (by omega)]
      refine ⟨true, rfl, by simp; intro j h3 h4; split at h4 <;> omega⟩

theorem same_eq (a b : T_api_Addr) (ha : a.ok) (hb : b.ok) (hr : rightA b = true) : g_doormanref08_Same a b = some (decide (grp a = grp b)) := by
  have hs := same_loop a b ha hb
  simp only [g_doormanref08_Same, ref_right a ha, ref_right b hb, hr, Option.bind_some, Bool.not_true, cond_false]
  cases hra : rightA a with
  | false =>
    simp only [Bool.not_false, cond_true, Option.some.injEq]
    rw [eq_comm, decide_eq_false_iff_not]
    unfold grp
    rw [hra, hr]
    intro e
    have := congrArg T_api_Net.fBits e
    simp only [Bool.false_eq_true, if_false, if_true] at this
    split at this <;> simp at this
  | true =>
    simp only [Bool.not_true, cond_false]
    by_cases hv : a.fV6 = b.fV6
    · rw [show (!(a.fV6 == b.fV6)) = false by simp [hv], cond_false]
      obtain ⟨r, h1, h2⟩ := hs hv (((32 : Int) - (0 : Int)).toNat + 2) 0 (by omega) (by omega)
      have h1 : g_doormanref08_Same_c0 (((32 : Int) - (0 : Int)).toNat + 2) 0 a b = some r := h1
      rw [h1, Option.some.injEq, Bool.eq_iff_iff, h2, decide_eq_true_eq]
      obtain ⟨v, hi, lo⟩ := a
      obtain ⟨v', hi', lo'⟩ := b
      simp only at hv
      subst hv
      have ha1 := okI_u64 ha.2.1
      have ha2 := okI_u64 ha.2.2.1
      have hb1 := okI_u64 hb.2.1
      have hb2 := okI_u64 hb.2.2.1
      simp only at ha1 ha2 hb1 hb2
      obtain ⟨n, hn⟩ := nat_of ha1.1
      obtain ⟨m, hm⟩ := nat_of ha2.1
      obtain ⟨n', hn'⟩ := nat_of hb1.1
      obtain ⟨m', hm'⟩ := nat_of hb2.1
      subst hn hm hn' hm'
      cases v with
      | false =>
        have c1 : (n : Int) = 0 ∧ (m : Int) < 4294967296 := by simpa [rightA] using hra
        have c2 : (n' : Int) = 0 ∧ (m' : Int) < 4294967296 := by simpa [rightA] using hr
        have hb := high_bits m m' 32 16 (by omega) (by omega) (by omega)
        simp only [grp, hra, hr, if_true, Bool.false_eq_true, if_false, T_api_Net.mk.injEq, T_api_Addr.mk.injEq, true_and, and_true]
        have e : (∀ j, 0 ≤ j → j < 16 → bitA ⟨false, n, m⟩ j = bitA ⟨false, n', m'⟩ j) ↔ ∀ j, j < 16 → m / 2 ^ (32 - 1 - j) % 2 = m' / 2 ^ (32 - 1 - j) % 2 := by
          constructor
          · intro q j h
            have := q j (by omega) h
            simp only [bitA, Bool.false_eq_true, if_false] at this
            rw [show 32 - 1 - j = 31 - j by omega]
            exact_mod_cast this
          · intro q j _ h
            have := q j h
            rw [show 32 - 1 - j = 31 - j by omega] at this
            simp only [bitA, Bool.false_eq_true, if_false]
            exact_mod_cast this
        rw [e, hb]
        rw [show (2 : Nat) ^ (32 - 16) = 65536 from rfl]
        constructor <;> intro q <;> omega
      | true =>
        have hb := high_bits n n' 64 32 (by omega) (by omega) (by omega)
        simp only [grp, hra, hr, if_true, Bool.false_eq_true, if_false, T_api_Net.mk.injEq, T_api_Addr.mk.injEq, true_and, and_true]
        have e : (∀ j, 0 ≤ j → j < 32 → bitA ⟨true, n, m⟩ j = bitA ⟨true, n', m'⟩ j) ↔ ∀ j, j < 32 → n / 2 ^ (64 - 1 - j) % 2 = n' / 2 ^ (64 - 1 - j) % 2 := by
          constructor
          · intro q j h
            have := q j (by omega) h
            simp only [bitA, if_true] at this
            rw [show 64 - 1 - j = 63 - j by omega]
            exact_mod_cast this
          · intro q j _ h
            have := q j h
            rw [show 64 - 1 - j = 63 - j by omega] at this
            simp only [bitA, if_true]
            exact_mod_cast this
        rw [e, hb]
        rw [show (2 : Nat) ^ (64 - 32) = 4294967296 from rfl]
        constructor <;> intro q <;> omega
    · rw [show (!(a.fV6 == b.fV6)) = true by simp [hv], cond_true, Option.some.injEq, eq_comm, decide_eq_false_iff_not]
      unfold grp
      rw [hra, hr]
      intro e
      have e1 := congrArg (fun x : T_api_Net => x.fAddr.fV6) e
      simp only [if_true] at e1
      apply hv
      cases h1 : a.fV6 <;> cases h2 : b.fV6 <;> simp [h1, h2] at e1 ⊢

/-! ### The reference's Free -/
theorem rfree_in (ps : List T_api_Peer) (es : List T_api_Entry) (hes : es.length ≤ 1000) (hok : ∀ e ∈ es, e.ok) (a : T_api_Addr) (ha : a.ok) (hr : rightA a = true) (v7 : Int) (k : Int → T_api_Addr → Option Bool) : ∀ fu (i : Nat), i ≤ es.length → es.length - i < fu →
    g_doormanref27_Free_c1 ps es v7 a k fu (i : Int) = some (!decide (grp a ∈ gsE (es.drop i))) := by
  have hm : es.length ≤ maxLen := by unfold maxLen; omega
  intro fu
  induction fu with
  | zero => intro _ _ h; omega
  | succ fu ih =>
    intro i hi hf
    simp only [g_doormanref27_Free_c1, cond_decide']
    by_cases h : i < es.length
    · rw [if_pos (by omega), need_yes ⟨by omega, by omega⟩, gsE_drop es i h]
      simp only [Int.toNat_natCast]
      have hko := hok _ (getD_mem es T_api_Entry.d i h)
      rw [add1 h hm, ih (i + 1) (by omega) (by omega)]
      cases hq : outE (es.getD i T_api_Entry.d)
      · have hq' : ((es.getD i T_api_Entry.d).fState == (2 : Int)) = false := hq
        rw [hq', cond_false]
        simp
      · have hq' : ((es.getD i T_api_Entry.d).fState == (2 : Int)) = true := hq
        rw [hq', cond_true, same_eq _ _ hko.1.1 ha hr]
        simp only [Option.bind_some, cond_decide', if_true, List.mem_append, List.mem_singleton]
        generalize grp (es.getD i T_api_Entry.d).fEnd.fAddr = g
        by_cases he : g = grp a
        · rw [if_pos he]; simp [he]
        · rw [if_neg he]; simp [Ne.symm he]
    · have e : i = es.length := by omega
      rw [if_neg (by omega), e, List.drop_length]
      simp [gsE]

theorem rfree_out (ps : List T_api_Peer) (es : List T_api_Entry) (hps : ps.length ≤ 1000) (hes : es.length ≤ 1000) (hokp : ∀ p ∈ ps, p.ok) (hok : ∀ e ∈ es, e.ok) (a : T_api_Addr) (ha : a.ok) (hr : rightA a = true) : ∀ fu (i : Nat), i ≤ ps.length → ps.length - i < fu →
    g_doormanref27_Free_c0 ps es fu (i : Int) a = some (!decide (grp a ∈ gsP (ps.drop i) ++ gsE es)) := by
  have hm : ps.length ≤ maxLen := by unfold maxLen; omega
  intro fu
  induction fu with
  | zero => intro _ _ h; omega
  | succ fu ih =>
    intro i hi hf
    simp only [g_doormanref27_Free_c0, cond_decide']
    by_cases h : i < ps.length
    · rw [if_pos (by omega), need_yes ⟨by omega, by omega⟩, gsP_drop ps i h]
      simp only [Int.toNat_natCast]
      have hko := hokp _ (getD_mem ps T_api_Peer.d i h)
      rw [add1 h hm, ih (i + 1) (by omega) (by omega)]
      cases hq : outP (ps.getD i T_api_Peer.d)
      · have hq' : (!(ps.getD i T_api_Peer.d).fIn) = false := hq
        rw [hq', cond_false]
        simp
      · have hq' : (!(ps.getD i T_api_Peer.d).fIn) = true := hq
        rw [hq', cond_true, same_eq _ _ hko.1.1 ha hr]
        simp only [Option.bind_some, cond_decide', if_true, List.mem_append, List.mem_singleton]
        generalize grp (ps.getD i T_api_Peer.d).fEnd.fAddr = g
        by_cases he : g = grp a
        · rw [if_pos he]; simp [he]
        · rw [if_neg he]; simp [Ne.symm he]
    · have e : i = ps.length := by omega
      rw [if_neg (by omega), e, List.drop_length]
      have := rfree_in ps es hes hok a ha hr (ps.length : Int) (g_doormanref27_Free_c0 ps es fu) ((((es.length : Nat) : Int) - (0 : Int)).toNat + 2) 0 (by omega) (by omega)
      simp only [Int.natCast_zero, List.drop_zero] at this
      rw [this]
      simp [gsP]

theorem ref_free (ps : List T_api_Peer) (es : List T_api_Entry) (a : T_api_Addr) (hps : ps.length ≤ 1000) (hes : es.length ≤ 1000) (hokp : ∀ p ∈ ps, p.ok) (hok : ∀ e ∈ es, e.ok) (ha : a.ok) :
    g_doormanref27_Free ps es a = some (rightA a && !decide (grp a ∈ gsP ps ++ gsE es)) := by
  simp only [g_doormanref27_Free, ref_right a ha, Option.bind_some]
  cases hr : rightA a
  · rfl
  · have := rfree_out ps es hps hes hokp hok a ha hr ((((ps.length : Nat) : Int) - (0 : Int)).toNat + 2) 0 (by omega) (by omega)
    simp only [Int.natCast_zero, List.drop_zero] at this
    simp only [Bool.not_true, cond_false, Bool.true_and]
    exact this

/-! ### The statements -/
def e0 : T_api_Entry := ⟨⟨⟨false, 0, 167838211⟩, 80⟩, 2, 0, 0⟩
theorem e0_ok : e0.ok := ⟨⟨⟨trivial, rfl, rfl, trivial⟩, rfl, trivial⟩, rfl, rfl, rfl, trivial⟩

theorem awake_eq : g_doormanlaw27_awake = some true := by
  have hok : ∀ e ∈ [e0], e.ok := fun e he => by rw [List.mem_singleton] at he; rw [he]; exact e0_ok
  obtain ⟨L, h1, h2, h3⟩ := spread_taken [] [e0] (by simp) (by simp) (by simp) hok
  have hL : L = [grp e0.fEnd.fAddr] := srt_eq _ _ h2 (List.pairwise_singleton _ _) fun x => by rw [h3]; simp [gsP, gsE, outE, e0]
  have f1 := spread_free [] [e0] ⟨false, 0, 167840009⟩ (by simp) (by simp) (by simp) hok ⟨trivial, rfl, rfl, trivial⟩
  have f2 := spread_free [] [e0] ⟨false, 0, 167903233⟩ (by simp) (by simp) (by simp) hok ⟨trivial, rfl, rfl, trivial⟩
  rw [show (rightA ⟨false, 0, 167840009⟩ && !decide (grp ⟨false, 0, 167840009⟩ ∈ gsP [] ++ gsE [e0])) = false by decide] at f1
  rw [show (rightA ⟨false, 0, 167903233⟩ && !decide (grp ⟨false, 0, 167903233⟩ ∈ gsP [] ++ gsE [e0])) = true by decide] at f2
  unfold g_doormanlaw27_awake
  unfold e0 at h1 f1 f2
  rw [h1, hL]
  simp only [Option.bind_some, List.length_singleton]
  rw [f1, f2]
  rfl

theorem SpreadTells_plain (ps : List T_api_Peer) (es : List T_api_Entry) (a : T_api_Addr) (hp : okL T_api_Peer.ok ps) (he : okL T_api_Entry.ok es) (ha : a.ok) : g_doormanlaw27_SpreadTells ps es a = some true := by
  simp only [g_doormanlaw27_SpreadTells, awake_eq, cond_decide', Option.bind_some]
  split
  · rfl
  split
  · rfl
  rename_i h1 h2
  have hps : ps.length ≤ 1000 := by omega
  have hes : es.length ≤ 1000 := by omega
  obtain ⟨L, l1, l2, l3⟩ := spread_taken ps es hps hes hp.2 he.2
  obtain ⟨M, m1, m2, m3⟩ := ref_taken ps es hps hes hp.2 he.2
  have e : L = M := srt_eq L M l2 m2 fun x => (l3 x).trans (m3 x).symm
  have hL : L.length ≤ maxLen := by
    have := srt_len l2 l3
    have := gsE_len es
    have := gsP_len ps
    simp only [List.length_append] at *
    unfold maxLen
    omega
  rw [l1, m1, ← e]
  simp only [Option.bind_some]
  rw [nets_same L hL, spread_free ps es a hps hes hp.2 he.2 ha, ref_free ps es a hps hes hp.2 he.2 ha]
  simp

/-- What the walk gathers: ends that stand in groups of their own. -/
structure Kept (w : List T_api_Entry) : Prop where
  ok : ∀ e ∈ w, e.ok ∧ e.fState = 2 ∧ rightA e.fEnd.fAddr = true
  apart : (w.map fun e => grp e.fEnd.fAddr).Nodup

theorem Kept.gs {w : List T_api_Entry} (h : Kept w) : gsE w = w.map fun e => grp e.fEnd.fAddr := by
  unfold gsE
  rw [List.filter_eq_self.2 fun e he => by simp [outE, (h.ok e he).2.1]]

theorem once_in (a0 : List T_api_End) (w : List T_api_Entry) (hw : Kept w) (hl : w.length ≤ 1000) (v4 : Int) (v5 : Nat) (h5 : v5 < w.length) (k0 k1 : Int → List T_api_Entry → Option Bool) : ∀ fu (i : Nat), i ≤ v5 → v5 - i < fu →
    g_doormanlaw27_SpreadOnce_c2 a0 v4 (v5 : Int) k0 k1 fu (i : Int) w = k1 ((v5 + 1 : Nat) : Int) w := by
  have hm : w.length ≤ maxLen := by unfold maxLen; omega
  intro fu
  induction fu with
  | zero => intro _ _ h; omega
  | succ fu ih =>
    intro i hi hf
    simp only [g_doormanlaw27_SpreadOnce_c2, cond_decide']
    by_cases h : i < v5
    · rw [if_pos (by omega), need_yes ⟨by omega, by omega⟩, need_yes ⟨by omega, by omega⟩]
      simp only [Int.toNat_natCast]
      have k1 := hw.ok _ (getD_mem w T_api_Entry.d v5 h5)
      have k2 := hw.ok _ (getD_mem w T_api_Entry.d i (by omega))
      rw [same_eq _ _ k1.1.1.1 k2.1.1.1 k2.2.2]
      have hne : ¬ grp (w.getD v5 T_api_Entry.d).fEnd.fAddr = grp (w.getD i T_api_Entry.d).fEnd.fAddr := by
        rw [getD_of w _ v5 h5, getD_of w _ i (by omega)]
        intro e
        have := List.pairwise_iff_getElem.1 hw.apart i v5 (by simp; omega) (by simp; omega) h
        apply this
        simp only [List.getElem_map]
        exact e.symm
      rw [decide_eq_false hne]
      simp only [Option.bind_some, cond_false]
      rw [add1 (n := w.length) (by omega) hm]
      exact ih (i + 1) (by omega) (by omega)
    · rw [if_neg (by omega), add1 h5 hm]

theorem once_mid (a0 : List T_api_End) (w : List T_api_Entry) (hw : Kept w) (hl : w.length ≤ 1000) (v4 : Int) (k0 : Int → List T_api_Entry → Option Bool) : ∀ fu (i : Nat), i ≤ w.length → w.length - i < fu →
    g_doormanlaw27_SpreadOnce_c1 a0 v4 k0 fu (i : Int) w = some true := by
  have hm : w.length ≤ maxLen := by unfold maxLen; omega
  intro fu
  induction fu with
  | zero => intro _ _ h; omega
  | succ fu ih =>
    intro i hi hf
    simp only [g_doormanlaw27_SpreadOnce_c1, cond_decide']
    by_cases h : i < w.length
    · rw [if_pos (by omega)]
      have := once_in a0 w hw hl v4 i h k0 (g_doormanlaw27_SpreadOnce_c1 a0 v4 k0 fu) (((i : Int) - (0 : Int)).toNat + 2) 0 (by omega) (by omega)
      simp only [Int.natCast_zero] at this
      rw [this]
      exact ih (i + 1) (by omega) (by omega)
    · rw [if_neg (by omega)]
      obtain ⟨L, l1, l2, l3⟩ := spread_taken [] w (by simp) hl (by simp) (fun e he => (hw.ok e he).1)
      rw [l1]
      have hg : gsP [] ++ gsE w = w.map fun e => grp e.fEnd.fAddr := by rw [hw.gs]; simp [gsP]
      rw [hg] at l3
      have h1 := nodup_len L _ l2.nodup fun x hx => (l3 x).1 hx
      have h2 := nodup_len _ L hw.apart fun x hx => (l3 x).2 hx
      have : L.length = w.length := by simp at h1 h2; omega
      simp only [Option.bind_some, this, beq_self_eq_true, cond_true, awake_eq]

theorem once_out (a0 : List T_api_End) (h0 : a0.length ≤ 60) (hok : ∀ e ∈ a0, e.ok) : ∀ fu (i : Nat) (w : List T_api_Entry), i ≤ a0.length → a0.length - i < fu → w.length ≤ i → Kept w → g_doormanlaw27_SpreadOnce_c0 a0 fu (i : Int) w = some true := by
  have hm : a0.length ≤ maxLen := by unfold maxLen; omega
  intro fu
  induction fu with
  | zero => intro _ _ _ h; omega
  | succ fu ih =>
    intro i w hi hf hl hw
    simp only [g_doormanlaw27_SpreadOnce_c0, cond_decide']
    by_cases h : i < a0.length
    · rw [if_pos (by omega), need_yes ⟨by omega, by omega⟩]
      simp only [Int.toNat_natCast]
      have hk := hok _ (getD_mem a0 T_api_End.d i h)
      rw [spread_free [] w _ (by simp) (by omega) (by simp) (fun e he => (hw.ok e he).1) hk.1]
      have hg : gsP [] ++ gsE w = w.map fun e => grp e.fEnd.fAddr := by rw [hw.gs]; simp [gsP]
      simp only [Option.bind_some, hg]
      rw [add1 h hm]
      cases hq : (rightA (a0.getD i T_api_End.d).fAddr && !decide (grp (a0.getD i T_api_End.d).fAddr ∈ w.map fun e => grp e.fEnd.fAddr))
      · simp only [cond_false]
        exact ih (i + 1) w (by omega) (by omega) (by omega) hw
      · simp only [cond_true]
        rw [Bool.and_eq_true, Bool.not_eq_true', decide_eq_false_iff_not] at hq
        rw [need_yes ⟨by simp; omega, by unfold maxLen; simp; omega⟩]
        refine ih (i + 1) _ (by omega) (by omega) (by simp; omega) ⟨fun e he => ?_, ?_⟩
        · rcases List.mem_append.1 he with he | he
          · exact hw.ok e he
          · rw [List.mem_singleton] at he
            rw [he]
            exact ⟨⟨hk, rfl, rfl, rfl, trivial⟩, rfl, hq.1⟩
        · rw [List.map_append, List.nodup_append]
          refine ⟨hw.apart, by simp, fun x hx y hy => ?_⟩
          simp only [List.map_cons, List.map_nil, List.mem_singleton] at hy
          rw [hy]
          intro e
          exact hq.2 (e ▸ hx)
    · rw [if_neg (by omega)]
      have := once_mid a0 w hw (by omega) (i : Int) (g_doormanlaw27_SpreadOnce_c0 a0 fu) ((((w.length : Nat) : Int) - (0 : Int)).toNat + 2) 0 (by omega) (by omega)
      simp only [Int.natCast_zero] at this
      exact this

theorem SpreadOnce_plain (a0 : List T_api_End) (h : okL T_api_End.ok a0) : g_doormanlaw27_SpreadOnce a0 = some true := by
  simp only [g_doormanlaw27_SpreadOnce, awake_eq, cond_decide', Option.bind_some]
  split
  · rfl
  rename_i h1
  have := once_out a0 (by omega) h.2 ((((a0.length : Nat) : Int) - (0 : Int)).toNat + 2) 0 [] (by omega) (by omega) (by simp) ⟨by simp, by simp⟩
  simpa using this

end Go.Proofs.Ytgmkffjkidgcnaa
