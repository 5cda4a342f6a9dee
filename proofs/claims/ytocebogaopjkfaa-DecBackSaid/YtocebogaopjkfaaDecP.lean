/-
  PLAIN FACTS on decimal and hexadecimal digits; no program in sight.
-/
namespace Go.Proofs.Ytocebogaopjkfaa

/-- The byte of a decimal digit. -/
def dig8 (n : Nat) : UInt8 := UInt8.ofNat (48 + n % 10)

/-- The digits of a number (fuel: one a digit). -/
def digsF : Nat → Nat → List UInt8
  | 0, n => [dig8 n]
  | f + 1, n => if n < 10 then [dig8 n] else digsF f (n / 10) ++ [dig8 n]

def digs (n : Nat) : List UInt8 := digsF 20 n

theorem digsF_fuel : ∀ (f n : Nat), n < 10 ^ (f + 1) → digsF (f + 1) n = digsF f n := by
  intro f
  induction f with
  | zero => intro n h; simp at h; simp [digsF, h]
  | succ f ih =>
    intro n h
    rw [digsF]
    conv => rhs; rw [digsF]
    split
    · rfl
    · rw [ih]
      rw [Nat.pow_succ] at h
      omega

theorem digsF_stable (f g n : Nat) (h : n < 10 ^ (f + 1)) : digsF (f + g) n = digsF f n := by
  induction g with
  | zero => rfl
  | succ g ih =>
    rw [← Nat.add_assoc, digsF_fuel, ih]
    exact Nat.lt_of_lt_of_le h (Nat.pow_le_pow_right (by omega) (by omega))

theorem digs_small (n : Nat) (h : n < 10) : digs n = [dig8 n] := by simp [digs, digsF, h]

theorem digs_step (n : Nat) (h : 10 ≤ n) (hn : n < 18446744073709551616) : digs n = digs (n / 10) ++ [dig8 n] := by
  unfold digs
  rw [digsF, if_neg (by omega), digsF_fuel 19 (n / 10) (by omega)]

/-- The value of a text of digits. -/
def valF (l : List UInt8) (n : Nat) : Nat := l.foldl (fun n c => 10 * n + (c.toNat - 48)) n
def val (l : List UInt8) : Nat := valF l 0
def isDig (c : UInt8) : Prop := 48 ≤ c.toNat ∧ c.toNat ≤ 57
instance (c : UInt8) : Decidable (isDig c) := inferInstanceAs (Decidable (_ ∧ _))

theorem val_snoc (l : List UInt8) (c : UInt8) : val (l ++ [c]) = 10 * val l + (c.toNat - 48) := by simp [val, valF, List.foldl_append]

theorem dig8_toNat (n : Nat) : (dig8 n).toNat = 48 + n % 10 := by
  unfold dig8
  rw [UInt8.toNat_ofNat']
  omega

theorem dig8_isDig (n : Nat) : isDig (dig8 n) := by
  unfold isDig
  rw [dig8_toNat]
  omega

theorem dig8_inj {c : UInt8} {n : Nat} (hc : isDig c) (h : c.toNat - 48 = n % 10) : c = dig8 n := by
  unfold isDig at hc
  apply UInt8.toNat_inj.1
  rw [dig8_toNat]
  omega

theorem digsF_isDig : ∀ (f n : Nat) (c : UInt8), c ∈ digsF f n → isDig c := by
  intro f
  induction f with
  | zero => intro n c hc; simp [digsF] at hc; subst hc; exact dig8_isDig n
  | succ f ih =>
    intro n c hc
    rw [digsF] at hc
    split at hc
    · simp at hc; subst hc; exact dig8_isDig n
    · simp at hc
      rcases hc with hc | rfl
      · exact ih _ _ hc
      · exact dig8_isDig n

theorem digsF_ne (f n : Nat) : digsF f n ≠ [] := by
  cases f with
  | zero => simp [digsF]
  | succ f => rw [digsF]; split <;> simp

theorem digs_ne (n : Nat) : digs n ≠ [] := digsF_ne 20 n

theorem val_digsF : ∀ (f n : Nat), n < 10 ^ (f + 1) → val (digsF f n) = n := by
  intro f
  induction f with
  | zero => intro n h; simp at h; simp [digsF, val, valF, dig8_toNat]; omega
  | succ f ih =>
    intro n h
    rw [digsF]
    split
    · simp [val, valF, dig8_toNat]; omega
    · rw [val_snoc, ih (n / 10) (by rw [Nat.pow_succ] at h; omega), dig8_toNat]
      omega

theorem val_digs (n : Nat) (h : n < 18446744073709551616) : val (digs n) = n := val_digsF 20 n (Nat.lt_of_lt_of_le h (by decide))

/-- The first digit of a number that is not 0 is not 0. -/
theorem digsF_head : ∀ (f n : Nat), 0 < n → n < 10 ^ (f + 1) → (digsF f n).head? ≠ some 48 := by
  intro f
  induction f with
  | zero =>
    intro n h0 h
    simp at h
    simp only [digsF, List.head?_cons, ne_eq, Option.some.injEq]
    intro e
    have := congrArg UInt8.toNat e
    rw [dig8_toNat] at this
    simp at this
    omega
  | succ f ih =>
    intro n h0 h
    rw [digsF]
    split
    · simp only [List.head?_cons, ne_eq, Option.some.injEq]
      intro e
      have := congrArg UInt8.toNat e
      rw [dig8_toNat] at this
      simp at this
      omega
    · rw [List.head?_append]
      have hne := digsF_ne f (n / 10)
      have := ih (n / 10) (by omega) (by rw [Nat.pow_succ] at h; omega)
      cases hh : (digsF f (n / 10)).head? with
      | none => simp at hh; exact absurd hh hne
      | some c => rw [hh] at this; simpa using this

/-- A text of digits without a leading 0 is the text of its value. -/
theorem digs_val : ∀ (l : List UInt8), l ≠ [] → (∀ c ∈ l, isDig c) → (1 < l.length → l.head? ≠ some 48) → val l < 18446744073709551616 → digs (val l) = l := by
  intro l
  induction hn : l.length generalizing l with
  | zero => intro h; simp at hn; exact absurd hn h
  | succ n ih =>
    intro hne hd hz hv
    rcases List.eq_nil_or_concat l with h | ⟨l', c, rfl⟩
    · exact absurd h hne
    · rw [List.concat_eq_append] at *
      have hc : isDig c := hd c (by simp)
      have hcr := hc
      unfold isDig at hcr
      rw [val_snoc] at hv ⊢
      by_cases hl : l' = []
      · subst hl
        have e0 : val [] = 0 := rfl
        rw [e0] at hv ⊢
        rw [digs_small _ (by omega), ← dig8_inj (c := c) hc (by omega)]
        rfl
      · have hlen : 0 < l'.length := List.length_pos_iff.2 hl
        have hz' : l'.head? ≠ some 48 := by
          have hlen2 : l'.length = n := by simpa using hn
          have := hz (by omega)
          rw [List.head?_append] at this
          cases hh : l'.head? with
          | none => simp
          | some x => rw [hh] at this; simpa using this
        have hvl : 1 ≤ val l' := by
          cases l' with
          | nil => exact absurd rfl hl
          | cons x t =>
            have hx : isDig x := hd x (by simp)
            unfold isDig at hx
            have hx48 : x.toNat ≠ 48 := by
              intro e; apply hz'; simp; exact UInt8.toNat_inj.1 (by simpa using e)
            have mono : ∀ (t : List UInt8) (n : Nat), 1 ≤ n → 1 ≤ valF t n := by
              intro t
              induction t with
              | nil => intro n h; exact h
              | cons y t ih => intro n h; exact ih _ (by show 1 ≤ 10 * n + _; omega)
            exact mono t _ (by show 1 ≤ 10 * 0 + _; omega)
        have e := ih l' (by simpa using hn) hl (fun c hc => hd c (by simp [hc])) (fun _ => hz') (by omega)
        rw [digs_step _ (by omega) hv, show (10 * val l' + (c.toNat - 48)) / 10 = val l' from by omega, e, ← dig8_inj (c := c) hc (by omega)]

theorem val_lead (l : List UInt8) : ∀ (n : Nat), n ≤ valF l n := by
  induction l with
  | nil => intro n; exact Nat.le_refl _
  | cons c t ih => intro n; exact Nat.le_trans (by show n ≤ 10 * n + _; omega) (ih _)

theorem val_take_le (l : List UInt8) (k : Nat) : val (l.take k) ≤ val l := by
  conv => rhs; rw [← List.take_append_drop k l]
  unfold val valF
  rw [List.foldl_append]
  exact val_lead _ _

/-- A text of digits has a value below the power of its length. -/
theorem val_lt (l : List UInt8) (h : ∀ c ∈ l, isDig c) : val l < 10 ^ l.length := by
  induction hn : l.length generalizing l with
  | zero => simp at hn; subst hn; simp [val, valF]
  | succ n ih =>
    rcases List.eq_nil_or_concat l with h' | ⟨l', c, rfl⟩
    · simp [h'] at hn
    · rw [List.concat_eq_append] at *
      have hc := h c (by simp)
      unfold isDig at hc
      rw [val_snoc]
      have := ih l' (fun c hc => h c (by simp [hc])) (by simp at hn; omega)
      rw [Nat.pow_succ]
      omega

/-- Without a leading 0 the value is at least the power of the length less one. -/
theorem val_ge (l : List UInt8) (hd : ∀ c ∈ l, isDig c) (hne : l ≠ []) (hz : l.head? ≠ some 48) : 10 ^ (l.length - 1) ≤ val l := by
  cases l with
  | nil => exact absurd rfl hne
  | cons x t =>
    have hx : isDig x := hd x (by simp)
    unfold isDig at hx
    have hx48 : x.toNat ≠ 48 := by
      intro e; apply hz; simp; exact UInt8.toNat_inj.1 (by simpa using e)
    have grow : ∀ (t : List UInt8) (n : Nat), n * 10 ^ t.length ≤ valF t n := by
      intro t
      induction t with
      | nil => intro n; simp [valF]
      | cons y t ih =>
        intro n
        refine Nat.le_trans ?_ (ih (10 * n + (y.toNat - 48)))
        rw [List.length_cons, Nat.pow_succ, Nat.add_mul]
        have : n * (10 ^ t.length * 10) = 10 * n * 10 ^ t.length := by
          rw [Nat.mul_comm (10 ^ t.length) 10, ← Nat.mul_assoc, Nat.mul_comm n 10]
        omega
    have := grow t (10 * 0 + (x.toNat - 48))
    have h1 : 1 * 10 ^ t.length ≤ (10 * 0 + (x.toNat - 48)) * 10 ^ t.length := Nat.mul_le_mul_right _ (by omega)
    simp only [List.length_cons, Nat.add_sub_cancel]
    refine Nat.le_trans ?_ this
    omega

theorem digsF_len : ∀ (f n : Nat), (digsF f n).length ≤ f + 1 := by
  intro f
  induction f with
  | zero => intro n; simp [digsF]
  | succ f ih =>
    intro n
    rw [digsF]
    split
    · simp
    · have := ih (n / 10)
      simp
      omega


/-- What a text of digits is read as, up to a greatest number. -/
def parseOk (l : List UInt8) (most : Int) : Bool := decide (l ≠ [] ∧ (∀ c ∈ l, isDig c) ∧ (1 < l.length → l.head? ≠ some 48) ∧ (val l : Int) ≤ most)
def parseN (l : List UInt8) (most : Int) : Int := if parseOk l most then val l else 0

theorem parse_no {l : List UInt8} {most : Int} (h : ¬ (l ≠ [] ∧ (∀ c ∈ l, isDig c) ∧ (1 < l.length → l.head? ≠ some 48) ∧ (val l : Int) ≤ most)) : parseOk l most = false ∧ parseN l most = 0 := by
  have : parseOk l most = false := decide_eq_false h
  exact ⟨this, by simp [parseN, this]⟩

theorem parse_yes {l : List UInt8} {most : Int} (h : l ≠ [] ∧ (∀ c ∈ l, isDig c) ∧ (1 < l.length → l.head? ≠ some 48) ∧ (val l : Int) ≤ most) : parseOk l most = true ∧ parseN l most = val l := by
  have : parseOk l most = true := decide_eq_true h
  exact ⟨this, by simp [parseN, this]⟩

theorem parse_bad {l : List UInt8} {most : Int} (k : Nat) (hk : k < l.length) (h : ¬ isDig l[k]) : parseOk l most = false ∧ parseN l most = 0 :=
  parse_no (fun hh => h (hh.2.1 _ (List.getElem_mem hk)))

theorem val_take_succ (l : List UInt8) (k : Nat) (hk : k < l.length) : val (l.take (k + 1)) = 10 * val (l.take k) + (l[k].toNat - 48) := by
  rw [List.take_succ_eq_append_getElem hk, val_snoc]

theorem parse_over {l : List UInt8} {most : Int} (k : Nat) (h : most < (val (l.take k) : Int)) : parseOk l most = false ∧ parseN l most = 0 :=
  parse_no (fun hh => by have := val_take_le l k; have := hh.2.2.2; omega)

theorem allDig_take_succ {l : List UInt8} {k : Nat} (hk : k < l.length) (h : ∀ c ∈ l.take k, isDig c) (hd : isDig l[k]) : ∀ c ∈ l.take (k + 1), isDig c := by
  rw [List.take_succ_eq_append_getElem hk]
  intro c hc
  simp only [List.mem_append, List.mem_singleton] at hc
  rcases hc with hc | rfl
  · exact h c hc
  · exact hd

theorem bytes_at (s : ByteArray) (k : Nat) (h : k < s.size) : s.data.toList[k]'(by simpa using h) = s[k] := by
  simp [ByteArray.getElem_eq_getElem_data]

theorem parse_done {l : List UInt8} {most : Int} {k : Nat} (hk : l.length ≤ k) (hne : l ≠ []) (hd : ∀ c ∈ l.take k, isDig c) (hz : 1 < l.length → l.head? ≠ some 48) (h : (val (l.take k) : Int) ≤ most) :
    parseOk l most = true ∧ parseN l most = val (l.take k) := by
  rw [List.take_of_length_le hk] at hd h ⊢
  exact parse_yes ⟨hne, hd, hz, h⟩

theorem head_48 (s : ByteArray) (h : 0 < s.size) : s.data.toList.head? = some s[0] := by
  rw [← bytes_at s 0 h, List.head?_eq_getElem?]
  simp

theorem head_ne (s : ByteArray) (h : 0 < s.size) (h3 : ((s[0].toNat : Int) == 48) = false) : s.data.toList.head? ≠ some 48 := by
  rw [head_48 s h]
  intro e
  have := congrArg UInt8.toNat (Option.some.inj e)
  simp at h3
  simp at this
  exact h3 (by omega)

theorem head_eq (s : ByteArray) (h : 0 < s.size) (h3 : s[0].toNat = 48) : s.data.toList.head? = some 48 := by
  rw [head_48 s h]
  exact congrArg some (UInt8.toNat_inj.1 (by simpa using h3))

theorem list_ne (s : ByteArray) (h : 0 < s.size) : s.data.toList ≠ [] := by
  intro e
  have : s.data.toList.length = s.size := by simp
  rw [e] at this
  simp at this
  omega

theorem isEmpty_true (s : ByteArray) (h : s.size = 0) : s.toList.isEmpty = true ∧ s.data.toList = [] := by
  have : s = ByteArray.empty := by
    apply ByteArray.ext
    exact Array.eq_empty_of_size_eq_zero h
  subst this
  exact ⟨by decide +kernel, by rfl⟩

theorem parse_long {l : List UInt8} {most : Int} (h : 19 < l.length) (hm : most ≤ 9223372036854775807) : parseOk l most = false ∧ parseN l most = 0 := by
  refine parse_no fun ⟨h1, h2, h3, h4⟩ => ?_
  have := val_ge l h2 h1 (h3 (by omega))
  have hp : 10 ^ 19 ≤ 10 ^ (l.length - 1) := Nat.pow_le_pow_right (by omega) (by omega)
  omega

theorem parse_canon_no {l : List UInt8} {most : Int} {k : Nat} (hk : l.length ≤ k) (hv : val (l.take k) < 18446744073709551616) (h : (!digsF 20 (val (l.take k)) == l) = true) : parseOk l most = false ∧ parseN l most = 0 := by
  rw [List.take_of_length_le hk] at h hv
  refine parse_no fun ⟨h1, h2, h3, h4⟩ => ?_
  have := digs_val l h1 h2 h3 hv
  unfold digs at this
  rw [this] at h
  simp at h

theorem parse_canon {l : List UInt8} {most : Int} {k : Nat} (hk : l.length ≤ k) (hne : l ≠ []) (hd : ∀ c ∈ l.take k, isDig c) (hv : val (l.take k) < 18446744073709551616) (hm : (val (l.take k) : Int) ≤ most)
    (h : (!digsF 20 (val (l.take k)) == l) = false) : parseOk l most = true ∧ parseN l most = val (l.take k) := by
  refine parse_done hk hne hd (fun hl => ?_) hm
  rw [List.take_of_length_le hk] at h hv
  have e : digsF 20 (val l) = l := by simpa using h
  by_cases h0 : val l = 0
  · rw [h0] at e
    have : l.length = 1 := by rw [← e]; rfl
    omega
  · have := digsF_head 20 (val l) (by omega) (Nat.lt_of_lt_of_le hv (by decide))
    rw [e] at this
    exact this

theorem digs_len (f n : Nat) (hf : f ≤ 20) (h : n < 10 ^ (f + 1)) : (digs n).length ≤ f + 1 := by
  unfold digs
  rw [show (20 : Nat) = f + (20 - f) from by omega, digsF_stable f (20 - f) n h]
  exact digsF_len f n

theorem digs_two (n : Nat) (h : 10 ≤ n) (hn : n < 18446744073709551616) : 2 ≤ (digs n).length := by
  rw [digs_step n h hn]
  have := List.length_pos_iff.2 (digs_ne (n / 10))
  simp
  omega

end Go.Proofs.Ytocebogaopjkfaa
