/-
  WALKS of the functions of layer 2 (dec), of its reference and of its statements: what each call returns.
-/
import Derived.Test.YtocebogaopjkfaaDecC
import Derived.Test.YtocebogaopjkfaaDecQ
import Derived.Deep.QuietTactic
import Derived.BigQuiet
namespace Go.Proofs.Ytocebogaopjkfaa
open Go.RowKit

theorem value_any (c : UInt8) (w : World) :
    Calls Try.prog 49 #[.int .u8 c.toNat] w fun e w' => e = .returned (.int .i64 (valueOf c.toNat)) ∧ w = w' := by
  have hc : c.toNat < 256 := c.toNat_lt
  generalize c.toNat = n at *
  rcases (show (48 ≤ n ∧ n ≤ 57) ∨ (97 ≤ n ∧ n ≤ 102) ∨ (65 ≤ n ∧ n ≤ 70) ∨ (n < 48) ∨ (57 < n ∧ n < 65) ∨ (70 < n ∧ n < 97) ∨ 102 < n from by omega) with h | h | h | h | h | h | h
  all_goals
    go_enter Try.func49, Try.ntmps49
    go_wp2
    go_ret
    exact ⟨ret_int (by unfold valueOf; (repeat' split) <;> omega), rfl⟩

theorem place_any (s : ByteArray) (c : UInt8) (w : World) (hs : s.size ≤ 1000) :
    Calls Try.prog 50 #[.string s, .int .u8 c.toNat] w fun e w' => e = .returned (.int .i64 (placeOf s.data.toList c)) ∧ w = w' := by
  have hL : s.data.toList.length = s.size := by simp
  have hcb := c.toNat_lt
  go_enter Try.func50, Try.ntmps50
  go_wp2
  go_loop [5] (fun i => ∃ k : Nat, k ≤ s.size ∧ i = .int .i64 k ∧ Hid (∀ j (hj : j < k) (hj' : j < s.data.toList.length), s.data.toList[j] ≠ c)) (fun i => s.size - (intOf i).toNat)
  case atStart => exact ⟨0, Nat.zero_le _, rfl, Lib.hid (fun j hj => absurd hj (by omega))⟩
  case round =>
    obtain ⟨k, hk, rfl, hd⟩ := hrel
    by_cases hlt : k < s.size
    · have hsk := bytes_at s k hlt
      have HSK := Lib.hid hsk
      clear hsk
      by_cases he : s[k] = c
      · have hb : ((s[k].toNat : Int) == (c.toNat : Int)) = true := by rw [he]; simp
        have HE := Lib.hid he
        clear he
        go_wp2
        go_ret
        exact ⟨ret_int (place_hit k (by omega) (HSK.out.trans HE.out) (fun j hj => hd.out j hj (by omega))).symm, rfl⟩
      · have hb : ((s[k].toNat : Int) == (c.toNat : Int)) = false := by
          rw [beq_eq_false_iff_ne]
          intro h
          exact he (UInt8.toNat_inj.1 (by omega))
        go_wp2
        go_round
        case rel =>
          refine ⟨k + 1, by omega, by go_num, Lib.hid (fun j hj hj' => ?_)⟩
          rcases (show j < k ∨ j = k from by omega) with h | rfl
          · exact hd.out j h hj'
          · rw [HSK.out]; exact he
        case measure => simp [intOf]; omega
    · go_wp2
      go_ret
      exact ⟨ret_int (place_miss (fun j hj => hd.out j (by omega) hj)).symm, rfl⟩

theorem sign_any (d : Int) (w : World) (h0 : 0 ≤ d) (h1 : d < 16) :
    Calls Try.prog 51 #[.int .i64 d] w fun e w' => e = .returned (.int .u8 (sign8 d.toNat).toNat) ∧ w = w' := by
  have HS := Lib.hid (sign8_toNat d.toNat (by omega))
  by_cases h : d < 10
  · go_enter Try.func51, Try.ntmps51
    go_wp2
    go_ret
    exact ⟨ret_int (by rw [HS.out, if_pos (by omega)]; omega), rfl⟩
  · go_enter Try.func51, Try.ntmps51
    go_wp2
    go_ret
    exact ⟨ret_int (by rw [HS.out, if_neg (by omega)]; omega), rfl⟩

theorem ret_hexno {l : List UInt8} (h : hexOk l = false ∧ hexN l = 0) : Ending.returned (.tuple #[.int .i64 0, .bool false]) = .returned (.tuple #[.int .i64 (hexN l), .bool (hexOk l)]) := ret_par ⟨h.1.symm, h.2.symm⟩

set_option maxRecDepth 100000 in
set_option maxHeartbeats 400000 in
theorem phex_any (s : ByteArray) (w : World) (hs : s.size ≤ maxLen) :
    Calls Try.prog 25 #[.string s] w fun e w' => e = .returned (.tuple #[.int .i64 (hexN s.data.toList), .bool (hexOk s.data.toList)]) ∧ w = w' := by
  unfold maxLen at hs
  have hL : s.data.toList.length = s.size := by simp
  by_cases h0 : s.size = 0
  · have hne := (isEmpty_true s h0).1
    go_enter Try.func25, Try.ntmps25
    go_wp2
    go_ret2
    exact ⟨ret_hexno (hex_no fun h => by omega), rfl⟩
  have hne : s.toList.isEmpty = false := isEmpty_false s h0
  by_cases h4 : 4 < s.size
  · go_enter Try.func25, Try.ntmps25
    go_wp2
    go_ret2
    exact ⟨ret_hexno (hex_no fun h => by omega), rfl⟩
  go_enter Try.func25, Try.ntmps25
  go_wp2
  go_loop [4, 16] (fun n i => ∃ (k : Nat) (v : Int), k ≤ s.size ∧ i = .int .i64 k ∧ n = .int .i64 v ∧ Hid (v = hexV (s.data.toList.take k)) ∧ 0 ≤ v ∧ Hid (v < 16 ^ k) ∧ Hid (∀ c ∈ s.data.toList.take k, 0 ≤ valueOf c.toNat)) (fun _ i => s.size - (intOf i).toNat)
  case atStart => exact ⟨0, 0, Nat.zero_le _, rfl, rfl, by show _ = _; simp [hexV], by omega, by show _ < _; decide, by show ∀ _, _; simp⟩
  case round =>
    obtain ⟨k, v, hk, rfl, rfl, hv, hv0, hvb, hd⟩ := hrel
    have hp : v < 65536 := by
      have h1 := hvb.out
      have : (16 : Int) ^ k ≤ 16 ^ 4 := by
        have : 16 ^ k ≤ 16 ^ 4 := Nat.pow_le_pow_right (by omega) (by omega)
        exact_mod_cast this
      omega
    by_cases hlt : k < s.size
    · have hsk := bytes_at s k hlt
      have HSK := Lib.hid hsk
      clear hsk
      obtain ⟨c, hc⟩ : ∃ c, c = valueOf s[k].toNat := ⟨_, rfl⟩
      have hcb := valueOf_le s[k].toNat
      rw [← hc] at hcb
      have HC := Lib.hid hc
      clear hc
      go_wp2_with fail
      refine (value_any _ _).mono ?_
      rw [← HC.out]
      rintro e w' ⟨rfl, rfl⟩
      by_cases hneg : c < 0
      · go_wp2_with fail
        go_ret2
        exact ⟨ret_hexno (hex_bad k (by omega) (by rw [HSK.out, ← HC.out]; exact hneg)), rfl⟩
      · go_wp2_with fail
        go_round
        case rel =>
          have e := hexV_take_succ s.data.toList k (by omega)
          rw [HSK.out, ← HC.out, ← hv.out] at e
          refine ⟨k + 1, 16 * v + c, by omega, by go_num, by go_num, Lib.hid e.symm, by omega, Lib.hid ?_, Lib.hid (okDig_take_succ (by omega) hd.out (by rw [HSK.out, ← HC.out]; omega))⟩
          rw [Int.pow_succ]
          have := hvb.out
          omega
        case measure => simp [intOf]; omega
    · go_wp2_with fail
      go_ret2
      have r := hex_done (l := s.data.toList) (k := k) (by omega) (by omega) (by omega) hd.out
      exact ⟨ret_par ⟨r.1.symm, by rw [r.2, ← hv.out]⟩, rfl⟩

end Go.Proofs.Ytocebogaopjkfaa
