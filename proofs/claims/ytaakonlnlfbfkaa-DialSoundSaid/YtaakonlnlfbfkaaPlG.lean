/-
  PLAIN LAWS: groups of addresses; lists of nets, sorted, each once.
-/
import Derived.Test.YtaakonlnlfbfkaaPlAd
namespace Go.Proofs.Ytaakonlnlfbfkaa
set_option linter.unusedSimpArgs false
set_option linter.unusedVariables false

/-- An address' group. -/
def grp (a : T_api_Addr) : T_api_Net :=
  if rightA a then (if a.fV6 then ⟨⟨true, a.fHi - a.fHi % 4294967296, 0⟩, 32⟩ else ⟨⟨false, 0, a.fLo - a.fLo % 65536⟩, 16⟩) else ⟨⟨false, 0, 0⟩, 0⟩

theorem top16 : g_cidr_top 16 = some 18446462598732840960 := by decide +kernel
theorem top32 : g_cidr_top 32 = some 18446744069414584320 := by decide +kernel
theorem topm : g_cidr_top (sub64 32 64) = some 0 := by decide +kernel

theorem and_high (n k : Nat) (hk : k ≤ 64) (h : n < 2 ^ 64) : n &&& (2 ^ 64 - 2 ^ k) = n - n % 2 ^ k := by
  have h1 : n - n % 2 ^ k = 2 ^ k * (n / 2 ^ k) := by have := Nat.div_add_mod n (2 ^ k); omega
  rw [h1]
  apply Nat.eq_of_testBit_eq
  intro i
  have h2 : 2 ^ 64 - 2 ^ k = 2 ^ k * (2 ^ (64 - k) - 1) := by
    rw [Nat.mul_sub, ← Nat.pow_add, Nat.mul_one]
    congr 2; omega
  rw [Nat.testBit_and, h2, Nat.testBit_two_pow_mul, Nat.testBit_two_pow_mul, Nat.testBit_two_pow_sub_one, Nat.testBit_div_two_pow]
  by_cases hi : k ≤ i
  · by_cases h3 : i < 64
    · simp [hi, show i - k < 64 - k by omega, show i - k + k = i by omega]
    · have : n.testBit i = false := Nat.testBit_lt_two_pow (Nat.lt_of_lt_of_le h (Nat.pow_le_pow_right (by omega) (by omega)))
      simp [hi, this, show i - k + k = i by omega]
  · simp [hi]

theorem and_lo (n : Nat) (h : n < 4294967296) : n &&& 4294901760 = n - n % 65536 := by
  have h1 := and_high n 16 (by omega) (by omega)
  have h2 : n &&& 4294901760 = n &&& (2 ^ 64 - 2 ^ 16) := by
    apply Nat.eq_of_testBit_eq
    intro i
    rw [Nat.testBit_and, Nat.testBit_and]
    by_cases hi : i < 32
    · congr 1
      have : ∀ i : Fin 32, Nat.testBit 4294901760 i.val = Nat.testBit (2 ^ 64 - 2 ^ 16) i.val := by decide
      exact this ⟨i, hi⟩
    · have : n.testBit i = false := Nat.testBit_lt_two_pow (Nat.lt_of_lt_of_le h (Nat.pow_le_pow_right (n := 2) (by omega) (show 32 ≤ i by omega)))
      rw [this]; rfl
  rw [h2, h1]

theorem and_int (a b : Nat) (ha : a < 2 ^ 64) (hb : b < 2 ^ 64) : IntKind.u64.wrap (((BitVec.ofInt (IntKind.bits .u64) (a : Int)) &&& (BitVec.ofInt (IntKind.bits .u64) (b : Int))).toNat : Int) = ((a &&& b : Nat) : Int) := by
  rw [and_u64 a b ha hb]
  have : a &&& b < 2 ^ 64 := Nat.and_lt_two_pow _ hb
  exact wrap_u64 (by omega) (by omega)

theorem group_of (a : T_api_Addr) (h : a.ok) : g_group_Of a = some (grp a) := by
  have hr := addr_right a h
  obtain ⟨v, hi, lo⟩ := a
  obtain ⟨_, h1, h2, _⟩ := h
  have h1 := okI_u64 h1
  have h2 := okI_u64 h2
  simp only at h1 h2
  obtain ⟨n, hn⟩ := nat_of h1.1
  obtain ⟨m, hm⟩ := nat_of h2.1
  subst hn hm
  cases hv : rightA ⟨v, n, m⟩ with
  | false =>
    cases v <;> simp [g_group_Of, g_group_bits, g_cidr_Make, hr, hv, grp]
  | true =>
    cases v with
    | false =>
      have hc : (n : Int) = 0 ∧ (m : Int) < 4294967296 := by simpa [rightA] using hv
      have e2 : (m &&& 4294901760 : Nat) = m - m % 65536 := and_lo m (by omega)
      have e1 := and_int m 4294901760 (by omega) (by omega)
      rw [e2] at e1
      have e3 : Int.fdiv (18446462598732840960 : Int) (2 ^ (min (32 : Int).toNat (IntKind.bits .u64))) = ((4294901760 : Nat) : Int) := by decide +kernel
      simp only [g_group_Of, g_group_bits, g_cidr_Make, hr, hv, Option.bind_some, cond_false, Bool.not_true, g_addr_Bits, g_cidr_Mask, Bool.not_false, cond_true, grp, if_true, Bool.false_eq_true, if_false]
      simp only [show (decide ((16 : Int) < 0)) = false from rfl, show decide ((16 : Int) > 32) = false from rfl, cond_false, Option.bind_some]
      rw [show (if (32 : Int) < (if (0 : Int) > 16 then (0 : Int) else 16) then (32 : Int) else (if (0 : Int) > 16 then (0 : Int) else 16)) = 16 from rfl, top16]
      simp only [Option.bind_some, e3, e1, hc.1]
      congr 4
      omega
    | true =>
      have e1 := and_int n 18446744069414584320 (by omega) (by omega)
      have e2 := and_high n 32 (by omega) (by omega)
      rw [show (2 : Nat) ^ 64 - 2 ^ 32 = 18446744069414584320 from rfl, show (2 : Nat) ^ 32 = 4294967296 from rfl] at e2
      rw [e2] at e1
      have e3 := and_int m 0 (by omega) (by omega)
      rw [Nat.and_zero] at e3
      simp only [g_group_Of, g_group_bits, g_cidr_Make, hr, hv, Option.bind_some, cond_false, Bool.not_true, g_addr_Bits, g_cidr_Mask, Bool.not_false, cond_true, grp, if_true, Bool.false_eq_true, if_false]
      simp only [show (decide ((32 : Int) < 0)) = false from rfl, show decide ((32 : Int) > 128) = false from rfl, cond_false, Option.bind_some]
      rw [show (if (128 : Int) < (if (0 : Int) > 32 then (0 : Int) else 32) then (128 : Int) else (if (0 : Int) > 32 then (0 : Int) else 32)) = 32 from rfl]
      simp only [g_cidr_masked, top32, topm, Option.bind_some]
      simp only [show ((18446744069414584320 : Int)) = ((18446744069414584320 : Nat) : Int) from rfl, show (0 : Int) = ((0 : Nat) : Int) from rfl, e1, e3]
      congr 4
      omega

/-! ### Lists in which each stands ahead of the next -/
def Srt (l : List T_api_Net) : Prop := l.Pairwise fun a b => cmpN a b < 0

theorem Srt.nodup {l : List T_api_Net} (h : Srt l) : l.Nodup := List.Pairwise.imp (fun {a b} hab e => by subst e; have := (cmpN_zero (a := a) (b := a)).2 rfl; omega) h

theorem srt_eq : ∀ (l l' : List T_api_Net), Srt l → Srt l' → (∀ x, x ∈ l ↔ x ∈ l') → l = l'
  | [], [], _, _, _ => rfl
  | [], b :: r, _, _, h => by have := (h b).2 (by simp); simp at this
  | a :: r, [], _, _, h => by have := (h a).1 (by simp); simp at this
  | a :: r, b :: r', h1, h2, h => by
    have p1 := List.pairwise_cons.1 h1
    have p2 := List.pairwise_cons.1 h2
    have irr : ∀ x, ¬ cmpN x x < 0 := fun x hx => by have := (cmpN_zero (a := x) (b := x)).2 rfl; omega
    have hab : a = b := by
      rcases List.mem_cons.1 ((h a).1 (by simp)) with e | ha
      · exact e
      · rcases List.mem_cons.1 ((h b).2 (by simp)) with e | hb
        · exact e.symm
        · exact absurd (cmpN_trans (p2.1 a ha) (p1.1 b hb)) (irr b)
    subst hab
    congr 1
    refine srt_eq r r' p1.2 p2.2 fun x => ?_
    constructor
    · intro hx
      rcases List.mem_cons.1 ((h x).1 (by simp [hx])) with e | h3
      · subst e; exact absurd (p1.1 x hx) (irr x)
      · exact h3
    · intro hx
      rcases List.mem_cons.1 ((h x).2 (by simp [hx])) with e | h3
      · subst e; exact absurd (p2.1 x hx) (irr x)
      · exact h3

/-! ### Compact -/
def ddN (l : List T_api_Net) : Nat → List T_api_Net
  | 0 => []
  | m + 1 => if 0 < m ∧ l.getD m T_api_Net.d = l.getD (m - 1) T_api_Net.d then ddN l m else ddN l m ++ [l.getD m T_api_Net.d]

theorem ddN_len (l : List T_api_Net) : ∀ m, (ddN l m).length ≤ m
  | 0 => by simp [ddN]
  | m + 1 => by
    have := ddN_len l m
    simp only [ddN]
    split <;> simp <;> omega

theorem ddN_none (l : List T_api_Net) : ∀ m, m ≤ l.length → (∀ i, 0 < i → i < m → l.getD i T_api_Net.d ≠ l.getD (i - 1) T_api_Net.d) → ddN l m = l.take m
  | 0, _, _ => by simp [ddN]
  | m + 1, h, hn => by
    rw [ddN, if_neg (fun hh => hn m hh.1 (by omega) hh.2), ddN_none l m (by omega) (fun i h1 h2 => hn i h1 (by omega)), List.take_succ_eq_append_getElem (by omega), getD_of l _ m (by omega)]

theorem ddN_mem (l : List T_api_Net) : ∀ m, m ≤ l.length → ∀ x, x ∈ ddN l m ↔ x ∈ l.take m
  | 0, _, x => by simp [ddN]
  | m + 1, h, x => by
    have ih := ddN_mem l m (by omega)
    rw [List.take_succ_eq_append_getElem (by omega), List.mem_append, ddN]
    have e := getD_of l T_api_Net.d m (by omega)
    split
    · rename_i hh
      rw [ih x]
      constructor
      · exact .inl
      · rintro (h1 | h1)
        · exact h1
        · rw [List.mem_singleton] at h1
          rw [h1, ← e, hh.2, getD_of l T_api_Net.d (m - 1) (by omega)]
          exact List.mem_take_iff_getElem.2 ⟨m - 1, by omega, rfl⟩
    · rw [List.mem_append, ih x, e]

theorem ddN_srt (l : List T_api_Net) (hs : l.Pairwise fun a b => cmpN a b ≤ 0) : ∀ m, m ≤ l.length → Srt (ddN l m) ∧ ∀ x ∈ ddN l m, cmpN x (l.getD (m - 1) T_api_Net.d) ≤ 0
  | 0, _ => by simp [ddN, Srt]
  | m + 1, h => by
    obtain ⟨h1, h2⟩ := ddN_srt l hs m (by omega)
    rw [ddN]
    by_cases hm : m = 0
    · subst hm
      rw [if_neg (by simp)]
      simp only [ddN, List.nil_append]
      exact ⟨List.pairwise_singleton _ _, fun x hx => by rw [List.mem_singleton] at hx; rw [hx]; have := (cmpN_zero (a := l.getD 0 T_api_Net.d) (b := l.getD 0 T_api_Net.d)).2 rfl; simp at this ⊢; omega⟩
    · split
      · rename_i hh
        refine ⟨h1, fun x hx => ?_⟩
        rw [Nat.add_sub_cancel, hh.2]
        exact h2 x hx
      · rename_i hh
        have hne : l.getD m T_api_Net.d ≠ l.getD (m - 1) T_api_Net.d := fun e => hh ⟨by omega, e⟩
        have hle : cmpN (l.getD (m - 1) T_api_Net.d) (l.getD m T_api_Net.d) ≤ 0 := by
          rw [getD_of l _ m (by omega), getD_of l _ (m - 1) (by omega)]
          exact List.pairwise_iff_getElem.1 hs (m - 1) m (by omega) (by omega) (by omega)
        have hlt : cmpN (l.getD (m - 1) T_api_Net.d) (l.getD m T_api_Net.d) < 0 := by
          have : cmpN (l.getD (m - 1) T_api_Net.d) (l.getD m T_api_Net.d) ≠ 0 := fun e => hne (cmpN_zero.1 e).symm
          omega
        have hall : ∀ x ∈ ddN l m, cmpN x (l.getD m T_api_Net.d) < 0 := fun x hx => by
          have h3 := h2 x hx
          by_cases h4 : cmpN x (l.getD (m - 1) T_api_Net.d) = 0
          · rw [cmpN_zero.1 h4]; exact hlt
          · exact cmpN_trans (by omega) hlt
        refine ⟨List.pairwise_append.2 ⟨h1, List.pairwise_singleton _ _, fun x hx y hy => by rw [List.mem_singleton] at hy; rw [hy]; exact hall x hx⟩, fun x hx => ?_⟩
        rw [Nat.add_sub_cancel]
        rcases List.mem_append.1 hx with hx | hx
        · have := hall x hx; omega
        · rw [List.mem_singleton] at hx
          rw [hx]
          have := (cmpN_zero (a := l.getD m T_api_Net.d) (b := l.getD m T_api_Net.d)).2 rfl
          omega

theorem sub1 {i : Nat} (h : 0 < i) (hm : i ≤ maxLen) : sub64 (i : Int) 1 = ((i - 1 : Nat) : Int) := by
  unfold maxLen at hm
  rw [sub64_id (by omega) (by omega)]
  omega

theorem compact_in (l : List T_api_Net) (hl : l.length ≤ maxLen) (k0 : Nat) (hk0 : 0 < k0) (hk0l : k0 < l.length) (k : Int → List T_api_Net → Option (List T_api_Net)) : ∀ fu (j kk : Nat) (w : List T_api_Net), 0 < j → k0 + j ≤ l.length → l.length - (k0 + j) < fu →
    w.length = l.length → (∀ i, k0 + j - 1 ≤ i → w.getD i T_api_Net.d = l.getD i T_api_Net.d) → kk < k0 + j → w.take kk = ddN l (k0 + j) → kk ≤ w.length →
    g_slices_Compact_api_Net_api_Net_c1 k fu (kk : Int) k0 (l.length - k0) l.length (j : Int) w = some (ddN l l.length) := by
  intro fu
  induction fu with
  | zero => intro _ _ _ _ _ h; omega
  | succ fu ih =>
    intro j kk w hj hjl hf hw hsame hkk htake hkl
    simp only [g_slices_Compact_api_Net_api_Net_c1, cond_decide']
    by_cases h : k0 + j < l.length
    · rw [if_pos (by omega), need_yes ⟨by omega, by omega⟩, need_yes (by simp; omega), sub1 hj (by omega), need_yes ⟨by omega, by omega⟩, need_yes (by simp; omega)]
      simp only [Int.toNat_natCast]
      simp only [show k0 + (j - 1) = k0 + j - 1 by omega, hsame (k0 + j) (by omega), hsame (k0 + j - 1) (by omega)]
      have ha : add64 (j : Int) 1 = ((j + 1 : Nat) : Int) := add1 (n := l.length) (by omega) hl
      have hdd : ddN l (k0 + (j + 1)) = if 0 < k0 + j ∧ l.getD (k0 + j) T_api_Net.d = l.getD (k0 + j - 1) T_api_Net.d then ddN l (k0 + j) else ddN l (k0 + j) ++ [l.getD (k0 + j) T_api_Net.d] := rfl
      by_cases he : l.getD (k0 + j) T_api_Net.d = l.getD (k0 + j - 1) T_api_Net.d
      · rw [if_pos ⟨by omega, he⟩] at hdd
        rw [decide_eq_true he]
        simp only [Bool.not_true, cond_false]
        rw [ha]
        exact ih (j + 1) kk w (by omega) (by omega) (by omega) hw (fun i hi => hsame i (by omega)) (by omega) (by rw [hdd]; exact htake) hkl
      · rw [if_neg (fun hh => he hh.2)] at hdd
        rw [decide_eq_false he]
        simp only [Bool.not_false, cond_true]
        rw [need_yes ⟨by omega, by omega⟩, ha, show add64 (kk : Int) 1 = ((kk + 1 : Nat) : Int) from add1 (n := l.length) (by omega) hl]
        have hkw : kk < w.length := by omega
        refine ih (j + 1) (kk + 1) _ (by omega) (by omega) (by omega) (by simp [hw]) (fun i hi => ?_) (by omega) ?_ (by simp; omega)
        · rw [← hsame i (by omega)]
          simp only [List.getD_eq_getElem?_getD, Int.toNat_natCast]
          rw [List.getElem?_set_ne (by omega)]
        · rw [hdd, ← htake]
          (try simp only [Int.toNat_natCast])
          rw [List.take_succ_eq_append_getElem (by simp; omega), List.take_set_of_le (by omega)]
          simp
    · have e : k0 + j = l.length := by omega
      rw [if_neg (by omega), need_yes ⟨by omega, by omega, by omega⟩, need_yes (by simp; omega), need_yes ⟨by omega, by omega, by omega⟩]
      simp only [Int.toNat_natCast]
      rw [need_yes (by rw [clear_len _ _ _ _ (by omega)]; exact hkl)]
      rw [← e, ← htake]
      congr 1
      simp only [clearL, List.append_assoc]
      rw [List.take_append_of_le_length (by simp; omega), List.take_take, Nat.min_self]

theorem compact_out (l : List T_api_Net) (hl : l.length < 999999) : ∀ fu (i : Nat), 0 < i → i ≤ l.length → l.length - i < fu → (∀ q, 0 < q → q < i → l.getD q T_api_Net.d ≠ l.getD (q - 1) T_api_Net.d) →
    g_slices_Compact_api_Net_api_Net_c0 fu (i : Int) l = some (ddN l l.length) := by
  have hm : l.length ≤ maxLen := by unfold maxLen; omega
  intro fu
  induction fu with
  | zero => intro _ _ _ h; omega
  | succ fu ih =>
    intro i hi hil hf hn
    simp only [g_slices_Compact_api_Net_api_Net_c0, cond_decide']
    by_cases h : i < l.length
    · rw [if_pos (by omega), need_yes ⟨by omega, by omega⟩, sub1 hi (by omega), need_yes ⟨by omega, by omega⟩]
      simp only [Int.toNat_natCast]
      by_cases he : l.getD i T_api_Net.d = l.getD (i - 1) T_api_Net.d
      · rw [if_pos he, need_yes ⟨by omega, by omega, by omega⟩]
        refine compact_in l hm i hi h _ 1000000 1 i l (by omega) (by omega) (by omega) rfl (fun _ _ => rfl) (by omega) ?_ (by omega)
        rw [ddN, if_pos ⟨hi, he⟩, ddN_none l i (by omega) hn]
      · rw [if_neg he, add1 h hm]
        refine ih (i + 1) (by omega) (by omega) (by omega) fun q h1 h2 => ?_
        by_cases h3 : q = i
        · subst h3; exact he
        · exact hn q h1 (by omega)
    · have e : i = l.length := by omega
      rw [if_neg (by omega)]
      congr 1
      rw [ddN_none l l.length (Nat.le_refl _) (fun q h1 h2 => hn q h1 (by omega)), List.take_length]

theorem compact_eq (l : List T_api_Net) (hl : l.length < 999999) : g_slices_Compact_api_Net_api_Net l = some (ddN l l.length) := by
  simp only [g_slices_Compact_api_Net_api_Net, cond_decide']
  split
  · rename_i h
    congr 1
    rw [ddN_none l l.length (Nat.le_refl _) (fun i h1 h2 => by omega), List.take_length]
  · rename_i h
    exact compact_out l hl _ 1 (by omega) (by omega) (by omega) (fun q h1 h2 => by omega)

/-- Sorted, each once: one list. -/
theorem sort_srt (l : List T_api_Net) (h : l.length < 999999) : ∃ L, (g_sort_168_169 l).bind g_slices_Compact_api_Net_api_Net = some L ∧ Srt L ∧ ∀ x, x ∈ L ↔ x ∈ l := by
  unfold g_sort_168_169
  rw [need_yes (by omega)]
  simp only [Option.bind_some]
  have hp := List.mergeSort_perm l (fun x y => !(Go.Proofs.ltOf cmpN) y x)
  have hs := List.pairwise_mergeSort (le := fun x y => !(Go.Proofs.ltOf cmpN) y x) (fun a b c h1 h2 => by
      have := cmpN_swo.ntrans c b a (by simpa using h2) (by simpa using h1)
      simpa using this) (fun a b => by
      rw [ltN, ltN, Bool.or_eq_true, Bool.not_eq_true', Bool.not_eq_true', decide_eq_false_iff_not, decide_eq_false_iff_not]
      by_cases h1 : cmpN b a < 0
      · refine .inr fun h2 => ?_
        have := cmpN_trans h1 h2
        have := (cmpN_zero (a := b) (b := b)).2 rfl
        omega
      · exact .inl h1) l
  generalize l.mergeSort (fun x y => !(Go.Proofs.ltOf cmpN) y x) = m at hp hs
  rw [compact_eq m (by rw [hp.length_eq]; exact h)]
  refine ⟨_, rfl, (ddN_srt m (hs.imp fun {a b} hab => ?_) m.length (Nat.le_refl _)).1, fun x => ?_⟩
  · rw [ltN, Bool.not_eq_true', decide_eq_false_iff_not] at hab
    have : ¬ 0 < cmpN a b := fun h => hab (cmpN_swap.1 h)
    omega
  · rw [ddN_mem m m.length (Nat.le_refl _), List.take_length]
    exact hp.mem_iff

end Go.Proofs.Ytaakonlnlfbfkaa
