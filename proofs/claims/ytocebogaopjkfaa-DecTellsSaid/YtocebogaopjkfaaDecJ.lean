/-
  WALKS of the functions of layer 2 (dec), of its reference and of its statements: what each call returns.
-/
import Derived.Test.YtocebogaopjkfaaDecD
import Derived.Test.YtocebogaopjkfaaDecE
import Derived.Test.YtocebogaopjkfaaDecH
import Derived.Test.YtocebogaopjkfaaDecI
namespace Go.Proofs.Ytocebogaopjkfaa
open Go.RowKit

theorem parse_120 (w : World) : Calls Try.prog 20 #[.string ⟨#[49, 50, 48]⟩, .int .i64 200] w fun e w' => e = .returned (.tuple #[.int .i64 120, .bool true]) ∧ w = w' := by
  have h := parse_any ⟨#[49, 50, 48]⟩ 200 w (by decide) (by decide)
  have e1 : parseN [49, 50, 48] 200 = 120 := by decide +kernel
  have e2 : parseOk [49, 50, 48] 200 = true := by decide +kernel
  refine h.mono ?_
  rintro e w' ⟨rfl, rfl⟩
  exact ⟨ret_par ⟨e2, e1⟩, rfl⟩

theorem phex_ff (w : World) : Calls Try.prog 25 #[.string ⟨#[48, 48, 70, 102]⟩] w fun e w' => e = .returned (.tuple #[.int .i64 255, .bool true]) ∧ w = w' := by
  have h := phex_any ⟨#[48, 48, 70, 102]⟩ w (by decide)
  have e1 : hexN [48, 48, 70, 102] = 255 := by decide +kernel
  have e2 : hexOk [48, 48, 70, 102] = true := by decide +kernel
  refine h.mono ?_
  rintro e w' ⟨rfl, rfl⟩
  exact ⟨ret_par ⟨e2, e1⟩, rfl⟩

theorem text_7 (w : World) : Calls Try.prog 22 #[.int .i64 (-7)] w fun e w' => e = .returned (.string ⟨#[45, 55]⟩) ∧ Below w.heap.size w w' := by
  refine (text_any (-7) w (by decide) (by decide)).mono ?_
  rintro e w' ⟨rfl, hb⟩
  exact ⟨ret_str (b := [45, 55]) (by decide +kernel), hb⟩

theorem hex_255 (w : World) : Calls Try.prog 27 #[.int .i64 255] w fun e w' => e = .returned (.string ⟨#[102, 102]⟩) ∧ Below w.heap.size w w' := by
  refine (hex_any 255 w (by decide) (by decide)).mono ?_
  rintro e w' ⟨rfl, hb⟩
  exact ⟨ret_str (b := [102, 102]) (by decide +kernel), hb⟩

theorem awake_any (w : World) : Calls Try.prog 24 #[] w fun e w' => e = .returned (.bool true) ∧ Below w.heap.size w w' := by
  go_enter Try.func24, Try.ntmps24
  go_wp2_with fail
  refine (parse_120 _).mono ?_
  rintro e w' ⟨rfl, rfl⟩
  go_wp2_with fail
  refine (phex_ff _).mono ?_
  rintro e w' ⟨rfl, rfl⟩
  go_wp2_with fail
  refine (text_7 _).mono ?_
  rintro e w1 ⟨rfl, hb1⟩
  go_wp2_with fail
  refine (hex_255 _).mono ?_
  rintro e w2 ⟨rfl, hb2⟩
  go_wp2_with fail
  go_ret
  exact ⟨rfl, hb1.trans (hb2.mono hb1.size)⟩

theorem tells_any (n most : Int) (s : ByteArray) (w : World) (h1 : -9223372036854775808 ≤ n) (h2 : n ≤ 9223372036854775807) (hs : s.size ≤ maxLen) (m1 : -9223372036854775808 ≤ most) (m2 : most ≤ 9223372036854775807) :
    Calls Try.prog 5 #[.int .i64 n, .string s, .int .i64 most] w fun e w' => e = .returned (.bool true) ∧ Below w.heap.size w w' := by
  obtain ⟨N, hN⟩ : ∃ N, N = parseN s.data.toList most := ⟨_, rfl⟩
  obtain ⟨B, hB⟩ : ∃ B, B = parseOk s.data.toList most := ⟨_, rfl⟩
  obtain ⟨T, hT⟩ : ∃ T, T = textOf n := ⟨_, rfl⟩
  have HN := Lib.hid hN
  have HB := Lib.hid hB
  have HT := Lib.hid hT
  clear hN hB hT
  go_enter Try.func5, Try.ntmps5
  go_wp2_with fail
  refine (parse_any _ _ _ hs m2).mono ?_
  rw [← HN.out, ← HB.out]
  rintro e w' ⟨rfl, rfl⟩
  go_wp2_with fail
  refine (rparse_any _ _ _ hs m2 m1).mono ?_
  rw [← HN.out, ← HB.out]
  rintro e w1 ⟨rfl, hb1⟩
  go_wp2_with fail
  refine (text_any _ _ h1 h2).mono ?_
  rw [← HT.out]
  rintro e w2 ⟨rfl, hb2⟩
  go_wp2_with fail
  refine (rtext_any _ _ h1 h2).mono ?_
  rw [← HT.out]
  rintro e w3 ⟨rfl, hb3⟩
  go_wp2_with fail
  refine (awake_any _).mono ?_
  rintro e w4 ⟨rfl, hb4⟩
  go_wp2_with fail
  go_ret
  have z1 := hb1.size
  have z2 := hb2.size
  have z3 := hb3.size
  exact ⟨rfl, ((hb1.trans (hb2.mono (by omega))).trans (hb3.mono (by omega))).trans (hb4.mono (by omega))⟩

theorem dechex_any (n : Int) (s : ByteArray) (w : World) (h1 : -9223372036854775808 ≤ n) (h2 : n ≤ 9223372036854775807) (hs : s.size ≤ maxLen) :
    Calls Try.prog 6 #[.int .i64 n, .string s] w fun e w' => e = .returned (.bool true) ∧ Below w.heap.size w w' := by
  obtain ⟨N, hN⟩ : ∃ N, N = hexN s.data.toList := ⟨_, rfl⟩
  obtain ⟨B, hB⟩ : ∃ B, B = hexOk s.data.toList := ⟨_, rfl⟩
  obtain ⟨T, hT⟩ : ∃ T, T = hexOf n := ⟨_, rfl⟩
  have HN := Lib.hid hN
  have HB := Lib.hid hB
  have HT := Lib.hid hT
  clear hN hB hT
  go_enter Try.func6, Try.ntmps6
  go_wp2_with fail
  refine (phex_any _ _ hs).mono ?_
  rw [← HN.out, ← HB.out]
  rintro e w' ⟨rfl, rfl⟩
  go_wp2_with fail
  refine (rphex_any _ _ hs).mono ?_
  rw [← HN.out, ← HB.out]
  rintro e w1 ⟨rfl, rfl⟩
  go_wp2_with fail
  refine (hex_any _ _ h1 h2).mono ?_
  rw [← HT.out]
  rintro e w2 ⟨rfl, hb2⟩
  go_wp2_with fail
  refine (rhex_any _ _ h1 h2).mono ?_
  rw [← HT.out]
  rintro e w3 ⟨rfl, hb3⟩
  go_wp2_with fail
  refine (awake_any _).mono ?_
  rintro e w4 ⟨rfl, hb4⟩
  go_wp2_with fail
  go_ret
  have z2 := hb2.size
  have z3 := hb3.size
  exact ⟨rfl, (hb2.trans (hb3.mono (by omega))).trans (hb4.mono (by omega))⟩

theorem text_back (n most : Int) (h1 : -9223372036854775808 ≤ n) (h2 : n ≤ 9223372036854775807) :
    (0 ≤ n ∧ n ≤ most → parseOk (textOf n) most = true ∧ parseN (textOf n) most = n) ∧ (¬ (0 ≤ n ∧ n ≤ most) → parseOk (textOf n) most = false ∧ parseN (textOf n) most = 0) := by
  by_cases hn : n < 0
  · have e : textOf n = 45 :: digs n.natAbs := by unfold textOf; rw [if_pos hn]
    refine ⟨fun h => by omega, fun _ => ?_⟩
    rw [e]
    exact parse_bad 0 (by simp) (by simp [isDig])
  · have e : textOf n = digs n.natAbs := by unfold textOf; rw [if_neg hn]
    have hv := val_digs n.natAbs (by omega)
    have hd : ∀ c ∈ digs n.natAbs, isDig c := digsF_isDig 20 n.natAbs
    have hz : 1 < (digs n.natAbs).length → (digs n.natAbs).head? ≠ some 48 := by
      intro hl
      by_cases h0 : n.natAbs = 0
      · rw [h0] at hl
        have : (digs 0).length = 1 := by decide
        omega
      · exact digsF_head 20 _ (by omega) (by omega)
    rw [e]
    by_cases hm : n ≤ most
    · refine ⟨fun _ => ?_, fun h => by omega⟩
      have := parse_yes (l := digs n.natAbs) (most := most) ⟨digs_ne _, hd, hz, by omega⟩
      rw [this.2, hv]
      exact ⟨this.1, by omega⟩
    · exact ⟨fun h => by omega, fun _ => parse_no fun h => by have := h.2.2.2; omega⟩

theorem parse_back (l : List UInt8) (most : Int) (m2 : most ≤ 9223372036854775807) :
    (parseOk l most = true → textOf (parseN l most) = l ∧ 0 ≤ parseN l most ∧ parseN l most ≤ most) ∧ (parseOk l most = false → parseN l most = 0) := by
  by_cases h : l ≠ [] ∧ (∀ c ∈ l, isDig c) ∧ (1 < l.length → l.head? ≠ some 48) ∧ (val l : Int) ≤ most
  · have hy := parse_yes h
    rw [hy.1, hy.2]
    refine ⟨fun _ => ⟨?_, by omega, h.2.2.2⟩, fun h => by cases h⟩
    unfold textOf
    rw [if_neg (by omega), show ((val l : Int)).natAbs = val l from by omega]
    exact digs_val l h.1 h.2.1 h.2.2.1 (by have := h.2.2.2; omega)
  · have hy := parse_no h
    rw [hy.1, hy.2]
    exact ⟨fun h => (by cases h), fun _ => rfl⟩

theorem hex_back2 (n : Int) : (0 ≤ n ∧ n ≤ 65535 → hexOk (hexOf n) = true ∧ hexN (hexOf n) = n) ∧ (¬ (0 ≤ n ∧ n ≤ 65535) → hexOk (hexOf n) = false ∧ hexN (hexOf n) = 0) := by
  have h := hex_back n
  constructor
  · intro hn
    rw [decide_eq_true hn] at h
    exact ⟨h.1, h.2 h.1⟩
  · intro hn
    rw [decide_eq_false hn] at h
    exact ⟨h.1, by unfold hexN; rw [h.1]; rfl⟩

theorem hexOf_len (n : Int) : (hexOf n).length ≤ 4 := by
  unfold hexOf
  split
  · simp
  · exact hexF_len 3 _

theorem textOf_len (n : Int) (h1 : -9223372036854775808 ≤ n) (h2 : n ≤ 9223372036854775807) : (textOf n).length ≤ 21 := by
  have := digs_len 18 n.natAbs (by omega) (by omega)
  unfold textOf
  split
  · simp; omega
  · omega

theorem size_mk (l : List UInt8) : (ByteArray.mk l.toArray).size = l.length := by simp [ByteArray.size]

/-- Parse of a number's own text. -/
theorem parse_text (n most : Int) (w : World) (h1 : -9223372036854775808 ≤ n) (h2 : n ≤ 9223372036854775807) (m2 : most ≤ 9223372036854775807) :
    (0 ≤ n ∧ n ≤ most → Calls Try.prog 20 #[.string ⟨(textOf n).toArray⟩, .int .i64 most] w fun e w' => e = .returned (.tuple #[.int .i64 n, .bool true]) ∧ w = w') ∧
    (¬ (0 ≤ n ∧ n ≤ most) → Calls Try.prog 20 #[.string ⟨(textOf n).toArray⟩, .int .i64 most] w fun e w' => e = .returned (.tuple #[.int .i64 0, .bool false]) ∧ w = w') := by
  have hl := textOf_len n h1 h2
  have h := parse_any ⟨(textOf n).toArray⟩ most w (by rw [size_mk]; unfold maxLen; omega) m2
  have hb := text_back n most h1 h2
  constructor <;> intro hn <;> refine h.mono ?_ <;> rintro e w' ⟨rfl, rfl⟩
  · exact ⟨ret_par (hb.1 hn), rfl⟩
  · exact ⟨ret_par (hb.2 hn), rfl⟩

theorem phex_hex (n : Int) (w : World) :
    (0 ≤ n ∧ n ≤ 65535 → Calls Try.prog 25 #[.string ⟨(hexOf n).toArray⟩] w fun e w' => e = .returned (.tuple #[.int .i64 n, .bool true]) ∧ w = w') ∧
    (¬ (0 ≤ n ∧ n ≤ 65535) → Calls Try.prog 25 #[.string ⟨(hexOf n).toArray⟩] w fun e w' => e = .returned (.tuple #[.int .i64 0, .bool false]) ∧ w = w') := by
  have hl := hexOf_len n
  have h := phex_any ⟨(hexOf n).toArray⟩ w (by rw [size_mk]; unfold maxLen; omega)
  have hb := hex_back2 n
  constructor <;> intro hn <;> refine h.mono ?_ <;> rintro e w' ⟨rfl, rfl⟩
  · exact ⟨ret_par (hb.1 hn), rfl⟩
  · exact ⟨ret_par (hb.2 hn), rfl⟩

/-- Parse, and the text of what it gives. -/
theorem parse_s (s : ByteArray) (most : Int) (hs : s.size ≤ maxLen) (m2 : most ≤ 9223372036854775807) :
    (∃ x : Int, 0 ≤ x ∧ x ≤ most ∧ textOf x = s.data.toList ∧ ∀ w, Calls Try.prog 20 #[.string s, .int .i64 most] w fun e w' => e = .returned (.tuple #[.int .i64 x, .bool true]) ∧ w = w') ∨
    (∀ w, Calls Try.prog 20 #[.string s, .int .i64 most] w fun e w' => e = .returned (.tuple #[.int .i64 0, .bool false]) ∧ w = w') := by
  have hb := parse_back s.data.toList most m2
  cases hp : parseOk s.data.toList most with
  | true =>
    have h1 := hb.1 hp
    refine .inl ⟨parseN s.data.toList most, h1.2.1, h1.2.2, h1.1, fun w => ?_⟩
    refine (parse_any s most w hs m2).mono ?_
    rintro e w' ⟨rfl, rfl⟩
    exact ⟨ret_par ⟨hp, rfl⟩, rfl⟩
  | false =>
    refine .inr fun w => ?_
    refine (parse_any s most w hs m2).mono ?_
    rintro e w' ⟨rfl, rfl⟩
    exact ⟨ret_par ⟨hp, hb.2 hp⟩, rfl⟩

end Go.Proofs.Ytocebogaopjkfaa
