/-
  WALKS of the functions of layer 2 (dec), of its reference and of its statements: what each call returns.
-/
import Derived.Test.YtocebogaopjkfaaDecE
import Derived.Test.YtocebogaopjkfaaDecF
namespace Go.Proofs.Ytocebogaopjkfaa
open Go.RowKit

theorem place_low (c : UInt8) (w : World) : Calls Try.prog 50 #[.string ⟨#[48, 49, 50, 51, 52, 53, 54, 55, 56, 57, 97, 98, 99, 100, 101, 102]⟩, .int .u8 c.toNat] w fun e w' => e = .returned (.int .i64 (placeOf lowHex c)) ∧ w = w' :=
  place_any ⟨#[48, 49, 50, 51, 52, 53, 54, 55, 56, 57, 97, 98, 99, 100, 101, 102]⟩ c w (by decide)
theorem place_up (c : UInt8) (w : World) : Calls Try.prog 50 #[.string ⟨#[48, 49, 50, 51, 52, 53, 54, 55, 56, 57, 65, 66, 67, 68, 69, 70]⟩, .int .u8 c.toNat] w fun e w' => e = .returned (.int .i64 (placeOf upHex c)) ∧ w = w' :=
  place_any ⟨#[48, 49, 50, 51, 52, 53, 54, 55, 56, 57, 65, 66, 67, 68, 69, 70]⟩ c w (by decide)

theorem hexV_end {s : ByteArray} {k : Nat} {v c : Int} (hk : k < s.size) (hv : v = hexV (s.data.toList.take k)) (hc : c = valueOf s[k].toNat) : 16 * v + c = hexV (s.data.toList.take (k + 1)) := by
  have hL : s.data.toList.length = s.size := by simp
  rw [hexV_take_succ s.data.toList k (by omega), bytes_at s k hk, ← hc, ← hv]

set_option maxRecDepth 100000 in
set_option maxHeartbeats 800000 in
theorem rphex_any (s : ByteArray) (w : World) (hs : s.size ≤ maxLen) :
    Calls Try.prog 26 #[.string s] w fun e w' => e = .returned (.tuple #[.int .i64 (hexN s.data.toList), .bool (hexOk s.data.toList)]) ∧ w = w' := by
  unfold maxLen at hs
  have hL : s.data.toList.length = s.size := by simp
  by_cases h0 : s.size < 1
  · go_enter Try.func26, Try.ntmps26
    go_wp2
    go_ret2
    exact ⟨ret_hexno (hex_no fun h => by omega), rfl⟩
  by_cases h4 : 4 < s.size
  · go_enter Try.func26, Try.ntmps26
    go_wp2
    go_ret2
    exact ⟨ret_hexno (hex_no fun h => by omega), rfl⟩
  go_enter Try.func26, Try.ntmps26
  go_wp2
  go_loop [4, 5] (fun n i => ∃ (k : Nat) (v : Int), k ≤ s.size ∧ i = .int .i64 k ∧ n = .int .i64 v ∧ Hid (v = hexV (s.data.toList.take k)) ∧ 0 ≤ v ∧ Hid (v < 16 ^ k) ∧ Hid (∀ c ∈ s.data.toList.take k, 0 ≤ valueOf c.toNat)) (fun _ i => s.size - (intOf i).toNat)
  case atStart => exact ⟨0, 0, Nat.zero_le _, rfl, rfl, by show _ = _; simp [hexV], by omega, by show _ < _; decide, by show ∀ _, _; simp⟩
  case round =>
    obtain ⟨k, v, hk, rfl, rfl, hv, hv0, hvb, hd⟩ := hrel
    have hp : v < 65536 := by
      have h1 := hvb.out
      have : (16 : Int) ^ k ≤ 16 ^ 4 := by
        have : 16 ^ k ≤ 16 ^ 4 := Nat.pow_le_pow_right (by omega) (by omega)
        exact_mod_cast this
      omega
    by_cases hlt : k < s.size
    · have hsk := bytes_at s k hlt
      have HSK := Lib.hid hsk
      clear hsk
      obtain ⟨a, ha⟩ : ∃ a, a = placeOf lowHex s[k] := ⟨_, rfl⟩
      obtain ⟨b, hb⟩ : ∃ b, b = placeOf upHex s[k] := ⟨_, rfl⟩
      have hval := place_value8 s[k]
      have hcb := valueOf_le s[k].toNat
      rw [← ha, ← hb] at hval
      have HA := Lib.hid ha
      have HB := Lib.hid hb
      clear ha hb
      have HVAL := Lib.hid hval
      clear hval
      go_wp2_with fail
      refine (place_low _ _).mono ?_
      rw [← HA.out]
      rintro e w' ⟨rfl, rfl⟩
      by_cases hneg : a < 0
      · have HV : Hid (b = valueOf s[k].toNat) := by
          have := HVAL.out
          rwa [if_pos hneg] at this
        rw [← HV.out] at hcb
        go_wp2_with fail
        refine (place_up _ _).mono ?_
        rw [← HB.out]
        rintro e w' ⟨rfl, rfl⟩
        by_cases hnb : b < 0
        · go_wp2_with fail
          go_ret2
          exact ⟨ret_hexno (hex_bad k (by omega) (by rw [HSK.out, ← HV.out]; exact hnb)), rfl⟩
        · go_wp2_with fail
          go_round
          case rel =>
            refine ⟨k + 1, 16 * v + b, by omega, by go_num, by go_num, Lib.hid (hexV_end hlt hv.out HV.out), by omega, Lib.hid ?_, Lib.hid (okDig_take_succ (by omega) hd.out (by rw [HSK.out, ← HV.out]; omega))⟩
            rw [Int.pow_succ]
            have := hvb.out
            omega
          case measure => simp [intOf]; omega
      · have HV : Hid (a = valueOf s[k].toNat) := by
          have := HVAL.out
          rwa [if_neg hneg] at this
        rw [← HV.out] at hcb
        go_wp2_with fail
        go_round
        case rel =>
          refine ⟨k + 1, 16 * v + a, by omega, by go_num, by go_num, Lib.hid (hexV_end hlt hv.out HV.out), by omega, Lib.hid ?_, Lib.hid (okDig_take_succ (by omega) hd.out (by rw [HSK.out, ← HV.out]; omega))⟩
          rw [Int.pow_succ]
          have := hvb.out
          omega
        case measure => simp [intOf]; omega
    · go_wp2_with fail
      go_ret2
      have r := hex_done (l := s.data.toList) (k := k) (by omega) (by omega) (by omega) hd.out
      exact ⟨ret_par ⟨r.1.symm, by rw [r.2, ← hv.out]⟩, rfl⟩

end Go.Proofs.Ytocebogaopjkfaa
