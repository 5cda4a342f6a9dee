/-
  PLAIN LAWS: subnets as lists of bits: masks, what covers what, how much two have in common.
-/
import Derived.Test.YtaakonlnlfbfkaaPlAd
namespace Go.Proofs.Ytaakonlnlfbfkaa
set_option linter.unusedSimpArgs false
set_option linter.unusedVariables false

def wid (a : T_api_Addr) : Nat := if a.fV6 then 128 else 32
def num (a : T_api_Addr) : Nat := if a.fV6 then 2 ^ 64 * a.fHi.toNat + a.fLo.toNat else a.fLo.toNat
/-- The bit behind so many. -/
def bitN (a : T_api_Addr) (i : Nat) : Bool := (num a).testBit (wid a - 1 - i)

/-- Numbers that an address may have. -/
structure Fits (a : T_api_Addr) : Prop where
  hi0 : 0 ≤ a.fHi
  hi1 : a.fHi ≤ 18446744073709551615
  lo0 : 0 ≤ a.fLo
  lo1 : a.fLo ≤ 18446744073709551615
  v4 : a.fV6 = false → a.fHi = 0 ∧ a.fLo < 4294967296

theorem fits_of {a : T_api_Addr} (h : a.ok) (hr : rightA a = true) : Fits a := by
  have h1 := okI_u64 h.2.1
  have h2 := okI_u64 h.2.2.1
  refine ⟨h1.1, h1.2, h2.1, h2.2, fun hv => ?_⟩
  unfold rightA at hr
  rw [hv] at hr
  simpa using hr

theorem Fits.ok {a : T_api_Addr} (h : Fits a) : a.ok := by
  refine ⟨trivial, ?_, ?_, trivial⟩
  · have := h.hi0; have := h.hi1
    simp only [okI, Lit.wf, IntKind.min, IntKind.max, IntKind.bits, IntKind.signed]
    simp; omega
  · have := h.lo0; have := h.lo1
    simp only [okI, Lit.wf, IntKind.min, IntKind.max, IntKind.bits, IntKind.signed]
    simp; omega

theorem num_lt {a : T_api_Addr} (h : Fits a) : num a < 2 ^ wid a := by
  have := h.hi0; have := h.hi1; have := h.lo0; have := h.lo1
  unfold num wid
  cases hv : a.fV6
  · have := h.v4 hv
    simp only [Bool.false_eq_true, if_false]
    omega
  · simp only [if_true]
    omega

theorem addr_ext {a b : T_api_Addr} (ha : Fits a) (hb : Fits b) (hv : a.fV6 = b.fV6) (h : ∀ i, i < wid a → bitN a i = bitN b i) : a = b := by
  have hn : num a = num b := by
    apply Nat.eq_of_testBit_eq
    intro j
    have hw : wid a = wid b := by unfold wid; rw [hv]
    by_cases hj : j < wid a
    · have := h (wid a - 1 - j) (by omega)
      unfold bitN at this
      rw [← hw] at this
      rw [show wid a - 1 - (wid a - 1 - j) = j by omega] at this
      exact this
    · rw [Nat.testBit_lt_two_pow (Nat.lt_of_lt_of_le (num_lt ha) (Nat.pow_le_pow_right (by omega) (by omega))), Nat.testBit_lt_two_pow (Nat.lt_of_lt_of_le (num_lt hb) (Nat.pow_le_pow_right (by omega) (by omega)))]
  have := ha.hi0; have := ha.hi1; have := ha.lo0; have := ha.lo1
  have := hb.hi0; have := hb.hi1; have := hb.lo0; have := hb.lo1
  obtain ⟨v, hi, lo⟩ := a
  obtain ⟨v', hi', lo'⟩ := b
  simp only at hv
  subst hv
  simp only [num] at hn
  simp only [T_api_Addr.mk.injEq, true_and]
  cases v
  · have := ha.v4 rfl; have := hb.v4 rfl
    simp only [Bool.false_eq_true, if_false] at *
    omega
  · simp only [if_true] at *
    omega

/-! ### Masks -/
theorem and_top (n k T : Nat) (hk : k ≤ T) (h : n < 2 ^ T) : n &&& (2 ^ T - 2 ^ k) = n - n % 2 ^ k := by
  have h1 : n - n % 2 ^ k = 2 ^ k * (n / 2 ^ k) := by have := Nat.div_add_mod n (2 ^ k); omega
  rw [h1]
  apply Nat.eq_of_testBit_eq
  intro i
  have h2 : 2 ^ T - 2 ^ k = 2 ^ k * (2 ^ (T - k) - 1) := by
    rw [Nat.mul_sub, ← Nat.pow_add, Nat.mul_one]
    congr 2; omega
  rw [Nat.testBit_and, h2, Nat.testBit_two_pow_mul, Nat.testBit_two_pow_mul, Nat.testBit_two_pow_sub_one, Nat.testBit_div_two_pow]
  by_cases hi : k ≤ i
  · by_cases h3 : i < T
    · simp [hi, show i - k < T - k by omega, show i - k + k = i by omega]
    · have : n.testBit i = false := Nat.testBit_lt_two_pow (Nat.lt_of_lt_of_le h (Nat.pow_le_pow_right (by omega) (by omega)))
      simp [hi, this, show i - k + k = i by omega]
  · simp [hi]

theorem cut_bit (n k j : Nat) : (n - n % 2 ^ k).testBit j = (decide (k ≤ j) && n.testBit j) := by
  have h1 : n - n % 2 ^ k = 2 ^ k * (n / 2 ^ k) := by have := Nat.div_add_mod n (2 ^ k); omega
  rw [h1, Nat.testBit_two_pow_mul, Nat.testBit_div_two_pow]
  by_cases h : k ≤ j
  · simp [h, show j - k + k = j by omega]
  · simp [h]

theorem and_int' (a b : Nat) (ha : a < 2 ^ 64) (hb : b < 2 ^ 64) : IntKind.u64.wrap (((BitVec.ofInt (IntKind.bits .u64) (a : Int)) &&& (BitVec.ofInt (IntKind.bits .u64) (b : Int))).toNat : Int) = ((a &&& b : Nat) : Int) := by
  rw [and_u64 a b ha hb]
  have : a &&& b < 2 ^ 64 := Nat.and_lt_two_pow _ hb
  exact wrap_u64 (by omega) (by omega)

theorem top_in : ∀ n : Fin 65, g_cidr_top ((n.val : Nat) : Int) = some (((2 ^ 64 - 2 ^ (64 - n.val) : Nat)) : Int) := by decide +kernel

theorem top_eq (n : Nat) (h : n ≤ 64) : g_cidr_top ((n : Nat) : Int) = some (((2 ^ 64 - 2 ^ (64 - n) : Nat)) : Int) := top_in ⟨n, by omega⟩

theorem top_clamp (n : Int) : g_cidr_top n = g_cidr_top (if (64 : Int) < (if (0 : Int) > n then (0 : Int) else n) then (64 : Int) else (if (0 : Int) > n then (0 : Int) else n)) := by
  unfold g_cidr_top
  have e : ∀ m : Int, 0 ≤ m → m ≤ 64 → (if (64 : Int) < (if (0 : Int) > m then (0 : Int) else m) then (64 : Int) else (if (0 : Int) > m then (0 : Int) else m)) = m := fun m h1 h2 => by
    repeat' split
    all_goals omega
  rw [e (if (64 : Int) < (if (0 : Int) > n then (0 : Int) else n) then (64 : Int) else (if (0 : Int) > n then (0 : Int) else n)) (by repeat' split <;> omega) (by repeat' split <;> omega)]

theorem top_low (n : Int) (h : n ≤ 0) : g_cidr_top n = some 0 := by
  rw [top_clamp, show (if (64 : Int) < (if (0 : Int) > n then (0 : Int) else n) then (64 : Int) else (if (0 : Int) > n then (0 : Int) else n)) = ((0 : Nat) : Int) by repeat' split <;> omega, top_eq 0 (by omega)]
  rfl

theorem top_high (n : Int) (h : 64 ≤ n) : g_cidr_top n = some 18446744073709551615 := by
  rw [top_clamp, show (if (64 : Int) < (if (0 : Int) > n then (0 : Int) else n) then (64 : Int) else (if (0 : Int) > n then (0 : Int) else n)) = ((64 : Nat) : Int) by repeat' split <;> omega, top_eq 64 (by omega)]
  rfl

def maskA (a : T_api_Addr) (n : Nat) : T_api_Addr :=
  if a.fV6 then (if n ≤ 64 then ⟨true, ((a.fHi.toNat - a.fHi.toNat % 2 ^ (64 - n) : Nat) : Int), 0⟩ else ⟨true, a.fHi, ((a.fLo.toNat - a.fLo.toNat % 2 ^ (128 - n) : Nat) : Int)⟩)
  else ⟨false, a.fHi, ((a.fLo.toNat - a.fLo.toNat % 2 ^ (32 - n) : Nat) : Int)⟩

theorem mask_eq {a : T_api_Addr} (h : a.ok) (hr : rightA a = true) (n : Nat) (hn : n ≤ wid a) : g_cidr_Mask a (n : Int) = some (maskA a n) := by
  have hf := fits_of h hr
  have hright := addr_right a h
  have hA := hf.hi0; have hB := hf.hi1; have hC := hf.lo0; have hD := hf.lo1
  obtain ⟨v, hi, lo⟩ := a
  obtain ⟨p, hp⟩ := nat_of hf.hi0
  obtain ⟨q, hq⟩ := nat_of hf.lo0
  simp only at hp hq hA hB hC hD
  subst hp hq
  cases v with
  | false =>
    have hv := hf.v4 rfl
    simp only at hv
    have hn : n ≤ 32 := hn
    have hmin : (if (32 : Int) < (if (0 : Int) > (n : Int) then (0 : Int) else (n : Int)) then (32 : Int) else (if (0 : Int) > (n : Int) then (0 : Int) else (n : Int))) = (n : Int) := by repeat' split <;> omega
    simp only [g_cidr_Mask, hright, hr, Option.bind_some, Bool.not_true, cond_false, g_addr_Bits, Bool.not_false, cond_true, hmin, top_eq n (by omega)]
    have hp : (2 : Nat) ^ (64 - n) = 2 ^ 32 * 2 ^ (32 - n) := by rw [← Nat.pow_add]; congr 1; omega
    have hp1 : (2 : Nat) ^ (32 - n) ≤ 2 ^ 32 := Nat.pow_le_pow_right (by omega) (by omega)
    have hp0 : 0 < (2 : Nat) ^ (32 - n) := Nat.pow_pos (by omega)
    have hd : (2 ^ 64 - 2 ^ (64 - n) : Nat) / 4294967296 = 2 ^ 32 - 2 ^ (32 - n) := by
      rw [hp]
      generalize (2 : Nat) ^ (32 - n) = z at *
      omega
    have e3 : Int.fdiv ((2 ^ 64 - 2 ^ (64 - n) : Nat) : Int) (2 ^ (min (32 : Int).toNat (IntKind.bits .u64))) = ((2 ^ 32 - 2 ^ (32 - n) : Nat) : Int) := by
      rw [show (2 : Int) ^ (min (32 : Int).toNat (IntKind.bits .u64)) = 4294967296 from rfl, Int.fdiv_eq_ediv_of_nonneg _ (by omega), ← hd]
      rfl
    rw [e3, and_int' q _ (by omega) (by generalize (2 : Nat) ^ (32 - n) = z at *; omega), and_top q (32 - n) 32 (by omega) (by omega)]
    simp [maskA]
  | true =>
    have hn : n ≤ 128 := hn
    have hmin : (if (128 : Int) < (if (0 : Int) > (n : Int) then (0 : Int) else (n : Int)) then (128 : Int) else (if (0 : Int) > (n : Int) then (0 : Int) else (n : Int))) = (n : Int) := by repeat' split <;> omega
    simp only [g_cidr_Mask, hright, hr, Option.bind_some, Bool.not_true, cond_false, g_addr_Bits, cond_true, hmin, g_cidr_masked]
    have hs : sub64 (n : Int) 64 = (n : Int) - 64 := sub64_id (by omega) (by omega)
    rw [hs]
    by_cases h64 : n ≤ 64
    · rw [top_eq n h64, top_low _ (by omega)]
      simp only [Option.bind_some]
      rw [and_int' p _ (by omega) (by have := Nat.pow_pos (a := 2) (n := 64 - n) (by omega); omega), and_top p (64 - n) 64 (by omega) (by omega)]
      have := and_int' q 0 (by omega) (by omega)
      rw [Nat.and_zero] at this
      rw [show (0 : Int) = ((0 : Nat) : Int) from rfl, this]
      simp [maskA, h64]
    · rw [top_high _ (by omega), show (n : Int) - 64 = ((n - 64 : Nat) : Int) by omega, top_eq (n - 64) (by omega)]
      simp only [Option.bind_some]
      have e1 := and_int' p 18446744073709551615 (by omega) (by omega)
      have e2 := and_top p 0 64 (by omega) (by omega)
      rw [show (2 : Nat) ^ 64 - 2 ^ 0 = 18446744073709551615 from rfl, Nat.pow_zero, Nat.mod_one, Nat.sub_zero] at e2
      rw [e2] at e1
      rw [show (18446744073709551615 : Int) = ((18446744073709551615 : Nat) : Int) from rfl, e1]
      rw [show 64 - (n - 64) = 128 - n by omega, and_int' q _ (by omega) (by have := Nat.pow_pos (a := 2) (n := 128 - n) (by omega); omega), and_top q (128 - n) 64 (by omega) (by omega)]
      simp [maskA, h64]

theorem maskA_v6 (a : T_api_Addr) (n : Nat) : (maskA a n).fV6 = a.fV6 := by
  unfold maskA
  cases h : a.fV6
  · rfl
  · simp only [if_true]; split <;> rfl

theorem maskA_fits {a : T_api_Addr} (h : Fits a) (n : Nat) : Fits (maskA a n) := by
  have := h.hi0; have := h.hi1; have := h.lo0; have := h.lo1
  have l : ∀ x y : Nat, x - x % y ≤ x := fun x y => Nat.sub_le _ _
  have l1 := l a.fHi.toNat (2 ^ (64 - n)); have l2 := l a.fLo.toNat (2 ^ (128 - n)); have l3 := l a.fLo.toNat (2 ^ (32 - n))
  unfold maskA
  cases hv : a.fV6
  · have := h.v4 hv
    simp only [Bool.false_eq_true, if_false]
    exact ⟨by simp only; omega, by simp only; omega, by simp only; omega, by simp only; omega, fun _ => ⟨this.1, by simp only; omega⟩⟩
  · simp only [if_true]
    split
    · exact ⟨by simp only; omega, by simp only; omega, by simp only; omega, by simp only; omega, fun h => by simp at h⟩
    · exact ⟨by simp only; omega, by simp only; omega, by simp only; omega, by simp only; omega, fun h => by simp at h⟩

theorem num6_bit {hi lo j : Nat} (hl : lo < 2 ^ 64) : (2 ^ 64 * hi + lo).testBit j = if j < 64 then lo.testBit j else hi.testBit (j - 64) := Nat.testBit_two_pow_mul_add hi hl j

theorem bit_mask {a : T_api_Addr} (h : Fits a) (n i : Nat) (hn : n ≤ wid a) (hi : i < wid a) : bitN (maskA a n) i = (decide (i < n) && bitN a i) := by
  have h1 := h.hi0; have h2 := h.hi1; have h3 := h.lo0; have h4 := h.lo1
  unfold bitN
  have hw : wid (maskA a n) = wid a := by unfold wid; rw [maskA_v6]
  rw [hw]
  unfold wid at hn hi ⊢
  unfold num maskA
  cases hv : a.fV6
  · simp only [hv, Bool.false_eq_true, if_false] at *
    rw [Int.toNat_natCast, cut_bit]
    congr 1
    rw [decide_eq_decide]; omega
  · simp only [hv, if_true] at *
    have hlo : a.fLo.toNat < 2 ^ 64 := by omega
    by_cases h64 : n ≤ 64
    · simp only [h64, if_true, Int.toNat_natCast]
      rw [num6_bit (by simp), num6_bit hlo]
      by_cases hj : 128 - 1 - i < 64
      · simp only [hj, if_true]
        rw [show (decide (i < n)) = false by rw [decide_eq_false_iff_not]; omega]
        simp
      · simp only [hj, if_false]
        rw [cut_bit]
        congr 1
        rw [decide_eq_decide]; omega
    · simp only [h64, if_false, if_true, Int.toNat_natCast]
      rw [num6_bit (Nat.lt_of_le_of_lt (Nat.sub_le _ _) hlo), num6_bit hlo]
      by_cases hj : 128 - 1 - i < 64
      · simp only [hj, if_true]
        rw [cut_bit]
        congr 1
        rw [decide_eq_decide]; omega
      · simp only [hj, if_false]
        rw [show (decide (i < n)) = true by rw [decide_eq_true_eq]; omega]
        simp

theorem mask_right {a : T_api_Addr} (h : Fits a) (hr : rightA a = true) (n : Nat) : rightA (maskA a n) = true := by
  have h1 := h.hi0; have h2 := h.hi1; have h3 := h.lo0; have h4 := h.lo1
  unfold maskA
  cases hv : a.fV6
  · have := h.v4 hv
    have l3 : a.fLo.toNat - a.fLo.toNat % 2 ^ (32 - n) ≤ a.fLo.toNat := Nat.sub_le _ _
    simp [rightA, this.1]
    omega
  · simp only [if_true]
    split
    · simp [rightA]
    · rename_i h64
      unfold rightA at hr ⊢
      rw [hv] at hr
      simp only [if_true, Bool.not_eq_true', Bool.and_eq_false_iff, decide_eq_false_iff_not] at hr ⊢
      rcases hr with hr | hr
      · exact .inl hr
      · refine .inr fun e => hr ?_
        have e' : (a.fLo.toNat - a.fLo.toNat % 2 ^ (128 - n)) / 4294967296 = 65535 := by omega
        have hx : a.fLo.toNat - a.fLo.toNat % 2 ^ (128 - n) = 2 ^ (128 - n) * (a.fLo.toNat / 2 ^ (128 - n)) := by have := Nat.div_add_mod a.fLo.toNat (2 ^ (128 - n)); omega
        rw [hx] at e'
        by_cases hk : 128 - n ≤ 32
        · have hp : (4294967296 : Nat) = 2 ^ (128 - n) * 2 ^ (32 - (128 - n)) := by
            rw [← Nat.pow_add, show 128 - n + (32 - (128 - n)) = 32 by omega]
          rw [hp, Nat.mul_div_mul_left _ _ (Nat.pow_pos (by omega)), Nat.div_div_eq_div_mul, ← hp] at e'
          omega
        · have hp : (2 : Nat) ^ (128 - n) = 4294967296 * (2 * 2 ^ (128 - n - 33)) := by
            rw [show (4294967296 : Nat) * (2 * 2 ^ (128 - n - 33)) = 2 ^ 33 * 2 ^ (128 - n - 33) by omega, ← Nat.pow_add]
            congr 1; omega
          rw [hp, Nat.mul_assoc, Nat.mul_div_cancel_left _ (by omega), Nat.mul_assoc] at e'
          omega

/-! ### Right subnets -/
def rightC (p : T_api_Net) : Bool := rightA p.fAddr && decide (0 ≤ p.fBits) && decide (p.fBits ≤ (wid p.fAddr : Int)) && decide (maskA p.fAddr p.fBits.toNat = p.fAddr)

structure RN (p : T_api_Net) : Prop where
  ok : p.fAddr.ok
  right : rightA p.fAddr = true
  nn : 0 ≤ p.fBits
  le : p.fBits ≤ (wid p.fAddr : Int)
  cut : maskA p.fAddr p.fBits.toNat = p.fAddr

theorem RN.fits {p : T_api_Net} (h : RN p) : Fits p.fAddr := fits_of h.ok h.right

theorem rn_iff {p : T_api_Net} (h : p.fAddr.ok) : rightC p = true ↔ RN p := by
  unfold rightC
  simp only [Bool.and_eq_true, decide_eq_true_eq]
  exact ⟨fun ⟨⟨⟨a, b⟩, c⟩, d⟩ => ⟨h, a, b, c, d⟩, fun ⟨_, a, b, c, d⟩ => ⟨⟨⟨a, b⟩, c⟩, d⟩⟩

theorem bits_eq (a : T_api_Addr) : g_addr_Bits a = some (wid a : Int) := by
  unfold g_addr_Bits wid
  cases a.fV6 <;> rfl

theorem make_eq (a : T_api_Addr) (h : a.ok) (n : Int) : g_cidr_Make a n = some (if rightA a = true ∧ 0 ≤ n ∧ n ≤ (wid a : Int) then (⟨maskA a n.toNat, n⟩, true) else (⟨⟨false, 0, 0⟩, 0⟩, false)) := by
  simp only [g_cidr_Make, addr_right a h, bits_eq, Option.bind_some, cond_decide']
  cases hr : rightA a
  · simp
  · simp only [Bool.not_true, cond_false, true_and]
    by_cases h0 : n < 0
    · rw [if_pos h0, if_neg (by omega)]
    · rw [if_neg h0]
      by_cases h1 : n > (wid a : Int)
      · rw [if_pos h1, if_neg (by omega)]
      · rw [if_neg h1, if_pos (by omega)]
        have := mask_eq h hr n.toNat (by omega)
        rw [Int.toNat_of_nonneg (by omega)] at this
        rw [this]
        rfl

theorem cidr_right (p : T_api_Net) (h : p.fAddr.ok) : g_cidr_Right p = some (rightC p) := by
  simp only [g_cidr_Right, make_eq _ h, Option.bind_some]
  unfold rightC
  split
  · rename_i hh
    simp only [cond_true, hh.1, hh.2.1, hh.2.2, decide_true, Bool.true_and, Option.some.injEq]
    rw [decide_eq_decide]
    obtain ⟨x, n⟩ := p
    simp
  · rename_i hh
    simp only [cond_false, Option.some.injEq]
    rw [eq_comm, Bool.eq_false_iff]
    intro hq
    simp only [Bool.and_eq_true, decide_eq_true_eq] at hq
    exact hh ⟨hq.1.1.1, hq.1.1.2, hq.1.2⟩

/-- Its bits. -/
def bs (p : T_api_Net) : List Bool := (List.range p.fBits.toNat).map (bitN p.fAddr)

theorem bs_len (p : T_api_Net) : (bs p).length = p.fBits.toNat := by simp [bs]
theorem bs_get (p : T_api_Net) (i : Nat) (h : i < p.fBits.toNat) : (bs p)[i]? = some (bitN p.fAddr i) := by simp [bs, h]

theorem rn_bit {p : T_api_Net} (h : RN p) (i : Nat) (hi : i < wid p.fAddr) (hn : p.fBits.toNat ≤ i) : bitN p.fAddr i = false := by
  have h1 := bit_mask h.fits p.fBits.toNat i (by have := h.le; omega) hi
  rw [h.cut] at h1
  rw [h1]
  rw [show decide (i < p.fBits.toNat) = false by rw [decide_eq_false_iff_not]; omega]
  rfl

theorem rn_ext {p q : T_api_Net} (hp : RN p) (hq : RN q) (hv : p.fAddr.fV6 = q.fAddr.fV6) (hb : bs p = bs q) : p = q := by
  have hw : wid p.fAddr = wid q.fAddr := by unfold wid; rw [hv]
  have hn : p.fBits = q.fBits := by
    have := congrArg List.length hb
    rw [bs_len, bs_len] at this
    have := hp.nn; have := hq.nn
    omega
  have ha : p.fAddr = q.fAddr := by
    refine addr_ext hp.fits hq.fits hv fun i hi => ?_
    by_cases h : i < p.fBits.toNat
    · have h1 := bs_get p i h
      rw [hb, bs_get q i (by omega)] at h1
      exact (Option.some.inj h1).symm
    · rw [rn_bit hp i hi (by omega), rn_bit hq i (by omega) (by omega)]
  obtain ⟨x, n⟩ := p
  obtain ⟨y, m⟩ := q
  simp only at hn ha
  rw [hn, ha]

/-- A subnet cut shorter. -/
theorem rn_make {a : T_api_Addr} (h : a.ok) (hr : rightA a = true) (n : Nat) (hn : n ≤ wid a) : RN ⟨maskA a n, (n : Int)⟩ ∧ bs ⟨maskA a n, (n : Int)⟩ = (List.range n).map (bitN a) := by
  have hf := fits_of h hr
  have hw : wid (maskA a n) = wid a := by unfold wid; rw [maskA_v6]
  refine ⟨⟨(maskA_fits hf n).ok, mask_right hf hr n, by simp only; omega, by simp only; omega, ?_⟩, ?_⟩
  · simp only [Int.toNat_natCast]
    refine addr_ext (maskA_fits (maskA_fits hf n) n) (maskA_fits hf n) (maskA_v6 _ _) fun i hi => ?_
    have hi : i < wid a := by unfold wid at hi ⊢; rwa [maskA_v6, maskA_v6] at hi
    rw [bit_mask (maskA_fits hf n) n i (by omega) (by omega), bit_mask hf n i hn hi]
    cases decide (i < n) <;> simp
  · unfold bs
    simp only [Int.toNat_natCast]
    apply List.map_congr_left
    intro i hi
    have hi : i < n := by simpa using hi
    rw [bit_mask hf n i hn (by omega), show decide (i < n) = true by rw [decide_eq_true_eq]; exact hi]
    rfl

/-- What an address is in. -/
theorem has_eq (p : T_api_Net) (a : T_api_Addr) (hp : RN p) (ha : a.ok) : g_cidr_Has p a = some (rightA a && decide (p.fAddr.fV6 = a.fV6) && decide (∀ i, i < p.fBits.toNat → bitN a i = bitN p.fAddr i)) := by
  have hrc := (rn_iff hp.ok).2 hp
  simp only [g_cidr_Has, cidr_right p hp.ok, hrc, addr_right a ha, Option.bind_some, cond_true]
  cases hr : rightA a
  · rfl
  · simp only [cond_true, Bool.true_and]
    by_cases hv : p.fAddr.fV6 = a.fV6
    · have hw : wid p.fAddr = wid a := by unfold wid; rw [hv]
      have hm := mask_eq ha hr p.fBits.toNat (by have := hp.le; omega)
      rw [Int.toNat_of_nonneg hp.nn] at hm
      have hf := fits_of ha hr
      rw [show (p.fAddr.fV6 == a.fV6) = true by simp [hv], cond_true, hm, decide_eq_true hv]
      simp only [Option.bind_some, Bool.true_and, Option.some.injEq]
      rw [decide_eq_decide]
      have hle : p.fBits.toNat ≤ wid a := by have := hp.le; omega
      constructor
      · intro e i hi
        have h1 := bit_mask hf p.fBits.toNat i hle (by omega)
        rw [e, decide_eq_true hi] at h1
        simpa using h1.symm
      · intro h
        refine addr_ext (maskA_fits hf _) hp.fits (by rw [maskA_v6]; exact hv.symm) fun i hi => ?_
        have hi : i < wid a := by unfold wid at hi ⊢; rwa [maskA_v6] at hi
        rw [bit_mask hf p.fBits.toNat i hle hi]
        by_cases hb : i < p.fBits.toNat
        · rw [decide_eq_true hb, h i hb]; rfl
        · rw [decide_eq_false hb, rn_bit hp i (by omega) (by omega)]; rfl
    · rw [show (p.fAddr.fV6 == a.fV6) = false by simp [hv], cond_false, decide_eq_false hv]
      rfl

/-- One bit. -/
theorem bit_at' (n k : Nat) (hk : k < 64) (hn : n < 2 ^ 64) : IntKind.i64.wrap (IntKind.u64.wrap (((BitVec.ofInt (IntKind.bits .u64) (Int.fdiv (n : Int) (2 ^ (min ((k : Nat) : Int).toNat (IntKind.bits .u64))))) &&& (BitVec.ofInt (IntKind.bits .u64) (1 : Int))).toNat : Int)) = if n.testBit k then 1 else 0 := by
  rw [Int.toNat_natCast, show min k (IntKind.bits .u64) = k from Nat.min_eq_left (by simp [IntKind.bits]; omega)]
  have e : Int.fdiv (n : Int) (2 ^ k) = ((n / 2 ^ k : Nat) : Int) := by
    rw [Int.fdiv_eq_ediv_of_nonneg _ (by have : (0 : Int) < 2 ^ k := Int.pow_pos (by omega); omega)]
    simp
  have h1 : n / 2 ^ k < 2 ^ 64 := Nat.lt_of_le_of_lt (Nat.div_le_self _ _) hn
  rw [e, show (1 : Int) = ((1 : Nat) : Int) from rfl, and_int' _ 1 h1 (by omega), Nat.and_one_is_mod, Nat.testBit_eq_decide_div_mod_eq]
  have h2 : n / 2 ^ k % 2 < 2 := Nat.mod_lt _ (by omega)
  have h3 : IntKind.i64.wrap ((n / 2 ^ k % 2 : Nat) : Int) = ((n / 2 ^ k % 2 : Nat) : Int) := by
    simp only [IntKind.wrap, IntKind.bits, IntKind.signed]
    simp
    omega
  rw [h3]
  simp only [decide_eq_true_eq]
  split <;> omega

theorem abit_eq {a : T_api_Addr} (h : Fits a) (i : Nat) (hi : i < wid a) : g_addr_Bit a (i : Int) = some (if bitN a i then 1 else 0) := by
  have h1 := h.hi0; have h2 := h.hi1; have h3 := h.lo0; have h4 := h.lo1
  obtain ⟨v, hi', lo⟩ := a
  obtain ⟨p, hp⟩ := nat_of h.hi0
  obtain ⟨q, hq⟩ := nat_of h.lo0
  simp only at hp hq h1 h2 h3 h4
  subst hp hq
  cases v with
  | false =>
    have hi : i < 32 := hi
    have hv := h.v4 rfl
    simp only at hv
    have e : sub64 (sub64 (32 : Int) 1) (i : Int) = ((31 - i : Nat) : Int) := by rw [show sub64 (32 : Int) 1 = 31 from rfl, sub64_id (by omega) (by omega)]; omega
    simp only [g_addr_Bit, g_addr_Bits, cond_false, Option.bind_some, cond_decide', e]
    rw [if_neg (by omega), if_neg (by omega), if_neg (by omega), need_yes (by omega), bit_at' q _ (by omega) (by omega)]
    rfl
  | true =>
    have hi : i < 128 := hi
    have e : sub64 (sub64 (128 : Int) 1) (i : Int) = ((127 - i : Nat) : Int) := by rw [show sub64 (128 : Int) 1 = 127 from rfl, sub64_id (by omega) (by omega)]; omega
    simp only [g_addr_Bit, g_addr_Bits, cond_true, Option.bind_some, cond_decide', e]
    rw [if_neg (by omega), if_neg (by omega)]
    have hb : bitN ⟨true, (p : Int), (q : Int)⟩ i = if 127 - i < 64 then q.testBit (127 - i) else p.testBit (127 - i - 64) := by
      unfold bitN num wid
      simp only [if_true, Int.toNat_natCast]
      rw [num6_bit (by omega)]
    rw [hb]
    by_cases h64 : i < 64
    · have e2 : sub64 ((127 - i : Nat) : Int) 64 = ((127 - i - 64 : Nat) : Int) := by rw [sub64_id (by omega) (by omega)]; omega
      rw [if_pos (by omega), e2, need_yes (by omega), bit_at' p _ (by omega) (by omega), if_neg (show ¬ 127 - i < 64 by omega)]
    · rw [if_neg (by omega), need_yes (by omega), bit_at' q _ (by omega) (by omega), if_pos (show 127 - i < 64 by omega)]

theorem tbit_eq {p : T_api_Net} (h : RN p) (i : Nat) (hi : i < wid p.fAddr) : g_trie_bit p (i : Int) = some (if bitN p.fAddr i then 1 else 0) := by
  simp only [g_trie_bit, abit_eq h.fits i hi, Option.bind_some]

end Go.Proofs.Ytaakonlnlfbfkaa
