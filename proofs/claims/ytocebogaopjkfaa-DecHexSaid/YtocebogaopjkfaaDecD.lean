/-
  WALKS of the functions of layer 2 (dec), of its reference and of its statements: what each call returns.
-/
import Derived.Test.YtocebogaopjkfaaDecC
namespace Go.Proofs.Ytocebogaopjkfaa
open Go.RowKit

set_option maxRecDepth 100000 in
set_option maxHeartbeats 800000 in
theorem rparse_any (s : ByteArray) (most : Int) (w : World) (hs : s.size ≤ maxLen) (hm : most ≤ 9223372036854775807) (hm0 : -9223372036854775808 ≤ most) :
    Calls Try.prog 21 #[.string s, .int .i64 most] w fun e w' => e = .returned (.tuple #[.int .i64 (parseN s.data.toList most), .bool (parseOk s.data.toList most)]) ∧ Below w.heap.size w w' := by
  unfold maxLen at hs
  have hL : s.data.toList.length = s.size := by simp
  by_cases h0 : s.size < 1
  · go_enter Try.func21, Try.ntmps21
    go_wp2
    go_ret2
    exact ⟨ret_no (parse_no fun h => h.1 (isEmpty_true s (by omega)).2), Below.refl _ _⟩
  by_cases h19 : 19 < s.size
  · go_enter Try.func21, Try.ntmps21
    go_wp2
    go_ret2
    exact ⟨ret_no (parse_long (by omega) hm), Below.refl _ _⟩
  go_enter Try.func21, Try.ntmps21
  go_wp2
  go_loop [6, 7] (fun n i => ∃ k : Nat, k ≤ s.size ∧ i = .int .i64 k ∧ n = .int .u64 (val (s.data.toList.take k)) ∧ val (s.data.toList.take k) < 10 ^ k ∧ (∀ c ∈ s.data.toList.take k, isDig c)) (fun _ i => s.size - (intOf i).toNat)
  case atStart => exact ⟨0, Nat.zero_le _, rfl, rfl, by show 0 < 1; omega, by simp⟩
  case round =>
    obtain ⟨k, hk, rfl, rfl, hv, hd⟩ := hrel
    have HD := Lib.hid hd
    clear hd
    have hp : 10 ^ k ≤ 10 ^ 19 := Nat.pow_le_pow_right (by omega) (by omega)
    have HV := Lib.hid hv
    have hv19 : val (s.data.toList.take k) ≤ 10000000000000000000 := by omega
    clear hv hp
    by_cases hlt : k < s.size
    · have hb := s[k].toNat_lt
      have hsk := bytes_at s k hlt
      have HSK := Lib.hid hsk
      clear hsk
      by_cases hc : 48 ≤ s[k].toNat ∧ s[k].toNat ≤ 57
      · obtain ⟨hc1, hc2⟩ := hc
        have HT : Hid (val (s.data.toList.take (k + 1)) = 10 * val (s.data.toList.take k) + (s[k].toNat - 48)) := by
          rw [val_take_succ _ _ (by omega), HSK.out]; rfl
        have hv18 : val (s.data.toList.take k) ≤ 1000000000000000000 := by
          have := HV.out
          have hp : 10 ^ k ≤ 10 ^ 18 := Nat.pow_le_pow_right (by omega) (by omega)
          omega
        clear hv19
        go_wp2
        go_round
        case rel => exact ⟨k + 1, by omega, by go_num, by rw [HT.out]; go_num, by rw [HT.out, Nat.pow_succ]; have := HV.out; omega, allDig_take_succ (by omega) HD.out (by rw [HSK.out]; exact ⟨hc1, hc2⟩)⟩
        case measure => simp [intOf]; omega
      · have hbad : Hid (¬ isDig s.data.toList[k]) := by rw [HSK.out]; exact hc
        go_wp2
        all_goals
          go_ret2
          exact ⟨ret_no (parse_bad k (by omega) hbad.out), Below.refl _ _⟩
    · by_cases hm1 : most < 0
      · go_wp2
        go_ret2
        exact ⟨ret_no (parse_over k (by omega)), Below.refl _ _⟩
      by_cases hm2 : most < (val (s.data.toList.take k) : Int)
      · go_wp2
        go_ret2
        exact ⟨ret_no (parse_over k (by omega)), Below.refl _ _⟩
      go_wp2_with fail
      refine (digits_any 20 _ _ (Lib.hid (by omega)) (by omega) (Lib.hid (by omega))).mono ?_
      rintro e w' ⟨rfl, hbel⟩
      have H1 := Lib.hid (show val (s.data.toList.take k) < 18446744073709551616 by omega)
      go_wp2
      · have h : (!digsF 20 (val (List.take k s.data.toList)) == s.toList) = true := by assumption
        rw [ByteArray.toList_eq] at h
        go_ret2
        exact ⟨ret_no (parse_canon_no (by omega) H1.out h), hbel⟩
      · have h : (!digsF 20 (val (List.take k s.data.toList)) == s.toList) = false := by assumption
        rw [ByteArray.toList_eq] at h
        go_ret2
        have r := parse_canon (most := most) (by omega) (list_ne s (by omega)) HD.out H1.out (by omega) h
        exact ⟨ret_par ⟨r.1.symm, r.2.symm⟩, hbel⟩

end Go.Proofs.Ytocebogaopjkfaa
