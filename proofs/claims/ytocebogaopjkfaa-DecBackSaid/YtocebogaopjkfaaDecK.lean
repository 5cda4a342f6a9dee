/-
  WALKS of the functions of layer 2 (dec), of its reference and of its statements: what each call returns.
-/
import Derived.Test.YtocebogaopjkfaaDecJ
namespace Go.Proofs.Ytocebogaopjkfaa
open Go.RowKit

theorem ret_bool {b : Bool} (h : b = true) : Ending.returned (.bool b) = .returned (.bool true) := by rw [h]

set_option maxHeartbeats 1600000 in
theorem back_yes (n most : Int) (s : ByteArray) (w : World) (h1 : -9223372036854775808 ≤ n) (h2 : n ≤ 9223372036854775807) (_m1 : -9223372036854775808 ≤ most) (m2 : most ≤ 9223372036854775807)
    (x : Int) (hx0 : 0 ≤ x) (hxm : x ≤ most) (hx : textOf x = s.data.toList) (hp : Hid (∀ w, Calls Try.prog 20 #[.string s, .int .i64 most] w fun e w' => e = .returned (.tuple #[.int .i64 x, .bool true]) ∧ w = w')) :
    Calls Try.prog 7 #[.int .i64 n, .string s, .int .i64 most] w fun e w' => e = .returned (.bool true) ∧ Below w.heap.size w w' := by
  have heq : ((n == n) : Bool) = true := beq_self_eq_true n
  obtain ⟨T, hT⟩ : ∃ T, T = textOf x := ⟨_, rfl⟩
  have htx := text_any x
  rw [← hT] at hx htx
  have HT := Lib.hid hx
  clear hx hT
  have HTX := Lib.hid htx
  clear htx
  have heq2 : (!T == s.toList) = false := by rw [ByteArray.toList_eq, HT.out]; simp
  rcases (show n < 0 ∨ (0 ≤ n ∧ n ≤ most ∧ n ≤ 65535) ∨ (0 ≤ n ∧ n ≤ most ∧ 65535 < n) ∨ (0 ≤ n ∧ most < n ∧ n ≤ 65535) ∨ (0 ≤ n ∧ most < n ∧ 65535 < n) from by omega) with hn | ⟨hn, hn2, hn3⟩ | ⟨hn, hn2, hn3⟩ | ⟨hn, hn2, hn3⟩ | ⟨hn, hn2, hn3⟩
  all_goals
    go_enter Try.func7, Try.ntmps7
    go_wp2_with fail
    refine (text_any _ _ h1 h2).mono ?_
    rintro e w1 ⟨rfl, hb1⟩
    go_wp2_with fail
    first
      | (refine ((parse_text n most _ h1 h2 m2).1 (by omega)).mono ?_)
      | (refine ((parse_text n most _ h1 h2 m2).2 (by omega)).mono ?_)
    rintro e w' ⟨rfl, rfl⟩
    go_wp2_with fail
    refine (hp.out _).mono ?_
    rintro e w' ⟨rfl, rfl⟩
    go_wp2_with fail
    refine (HTX.out _ (by omega) (by omega)).mono ?_
    rintro e w2 ⟨rfl, hb2⟩
    go_wp2_with fail
    refine (hex_any _ _ h1 h2).mono ?_
    rintro e w3 ⟨rfl, hb3⟩
    go_wp2_with fail
    first
      | (refine ((phex_hex n _).1 (by omega)).mono ?_)
      | (refine ((phex_hex n _).2 (by omega)).mono ?_)
    rintro e w' ⟨rfl, rfl⟩
    go_wp2_with fail
    refine (awake_any _).mono ?_
    rintro e w4 ⟨rfl, hb4⟩
    go_wp2_with fail
    go_ret
    have z1 := hb1.size
    have z3 := hb3.size
    have z2 := hb2.size
    first
      | exact ⟨rfl, ((hb1.trans (hb2.mono (by omega))).trans (hb3.mono (by omega))).trans (hb4.mono (by omega))⟩
      | exact ⟨ret_bool (by simp; omega), ((hb1.trans (hb2.mono (by omega))).trans (hb3.mono (by omega))).trans (hb4.mono (by omega))⟩

set_option maxHeartbeats 1600000 in
theorem back_no (n most : Int) (s : ByteArray) (w : World) (h1 : -9223372036854775808 ≤ n) (h2 : n ≤ 9223372036854775807) (_m1 : -9223372036854775808 ≤ most) (m2 : most ≤ 9223372036854775807)
    (hp : Hid (∀ w, Calls Try.prog 20 #[.string s, .int .i64 most] w fun e w' => e = .returned (.tuple #[.int .i64 0, .bool false]) ∧ w = w')) :
    Calls Try.prog 7 #[.int .i64 n, .string s, .int .i64 most] w fun e w' => e = .returned (.bool true) ∧ Below w.heap.size w w' := by
  have heq : ((n == n) : Bool) = true := beq_self_eq_true n
  rcases (show n < 0 ∨ (0 ≤ n ∧ n ≤ most ∧ n ≤ 65535) ∨ (0 ≤ n ∧ n ≤ most ∧ 65535 < n) ∨ (0 ≤ n ∧ most < n ∧ n ≤ 65535) ∨ (0 ≤ n ∧ most < n ∧ 65535 < n) from by omega) with hn | ⟨hn, hn2, hn3⟩ | ⟨hn, hn2, hn3⟩ | ⟨hn, hn2, hn3⟩ | ⟨hn, hn2, hn3⟩
  all_goals
    go_enter Try.func7, Try.ntmps7
    go_wp2_with fail
    refine (text_any _ _ h1 h2).mono ?_
    rintro e w1 ⟨rfl, hb1⟩
    go_wp2_with fail
    first
      | (refine ((parse_text n most _ h1 h2 m2).1 (by omega)).mono ?_)
      | (refine ((parse_text n most _ h1 h2 m2).2 (by omega)).mono ?_)
    rintro e w' ⟨rfl, rfl⟩
    go_wp2_with fail
    refine (hp.out _).mono ?_
    rintro e w' ⟨rfl, rfl⟩
    go_wp2_with fail
    refine (hex_any _ _ h1 h2).mono ?_
    rintro e w3 ⟨rfl, hb3⟩
    go_wp2_with fail
    first
      | (refine ((phex_hex n _).1 (by omega)).mono ?_)
      | (refine ((phex_hex n _).2 (by omega)).mono ?_)
    rintro e w' ⟨rfl, rfl⟩
    go_wp2_with fail
    refine (awake_any _).mono ?_
    rintro e w4 ⟨rfl, hb4⟩
    go_wp2_with fail
    go_ret
    have z1 := hb1.size
    have z3 := hb3.size
    first
      | exact ⟨rfl, (hb1.trans (hb3.mono (by omega))).trans (hb4.mono (by omega))⟩
      | exact ⟨ret_bool (by simp; omega), (hb1.trans (hb3.mono (by omega))).trans (hb4.mono (by omega))⟩

theorem back_any (n most : Int) (s : ByteArray) (w : World) (h1 : -9223372036854775808 ≤ n) (h2 : n ≤ 9223372036854775807) (hs : s.size ≤ maxLen) (_m1 : -9223372036854775808 ≤ most) (m2 : most ≤ 9223372036854775807) :
    Calls Try.prog 7 #[.int .i64 n, .string s, .int .i64 most] w fun e w' => e = .returned (.bool true) ∧ Below w.heap.size w w' := by
  rcases parse_s s most hs m2 with ⟨x, hx0, hxm, hx, hp⟩ | hp
  · exact back_yes n most s w h1 h2 _m1 m2 x hx0 hxm hx (Lib.hid hp)
  · exact back_no n most s w h1 h2 _m1 m2 (Lib.hid hp)

end Go.Proofs.Ytocebogaopjkfaa
