/-
  WALKS of the functions of layer 2 (dec), of its reference and of its statements: what each call returns.
-/
import Derived.Test.YtocebogaopjkfaaDecB
namespace Go.Proofs.Ytocebogaopjkfaa
open Go.RowKit

theorem ret_par {a b : Int} {x y : Bool} (h : x = y ∧ a = b) : Ending.returned (.tuple #[.int .i64 a, .bool x]) = .returned (.tuple #[.int .i64 b, .bool y]) := by rw [h.1, h.2]
theorem ret_no {l : List UInt8} {most : Int} (h : parseOk l most = false ∧ parseN l most = 0) : Ending.returned (.tuple #[.int .i64 0, .bool false]) = .returned (.tuple #[.int .i64 (parseN l most), .bool (parseOk l most)]) := ret_par ⟨h.1.symm, h.2.symm⟩

theorem isEmpty_false (s : ByteArray) (h : ¬ s.size = 0) : s.toList.isEmpty = false := by
  rw [ByteArray.toList_eq]
  have := list_ne s (by omega)
  cases hh : s.data.toList with
  | nil => exact absurd hh this
  | cons => rfl

set_option maxRecDepth 100000 in
set_option maxHeartbeats 800000 in
theorem parse_any (s : ByteArray) (most : Int) (w : World) (hs : s.size ≤ maxLen) (hm : most ≤ 9223372036854775807) :
    Calls Try.prog 20 #[.string s, .int .i64 most] w fun e w' => e = .returned (.tuple #[.int .i64 (parseN s.data.toList most), .bool (parseOk s.data.toList most)]) ∧ w = w' := by
  unfold maxLen at hs
  have hL : s.data.toList.length = s.size := by simp
  by_cases h0 : s.size = 0
  · have hne := (isEmpty_true s h0).1
    go_enter Try.func20, Try.ntmps20
    go_wp2
    go_ret2
    exact ⟨ret_no (parse_no fun h => h.1 (isEmpty_true s h0).2), rfl⟩
  have hne : s.toList.isEmpty = false := isEmpty_false s h0
  by_cases hz : 1 < s.size ∧ (∃ h : 0 < s.size, s[0].toNat = 48)
  · obtain ⟨hz1, hz2, hz3⟩ := hz
    have hz4 : ((s[0].toNat : Int) == 48) = true := by simp [hz3]
    have HZ := Lib.hid hz3
    clear hz3
    go_enter Try.func20, Try.ntmps20
    go_wp2
    go_ret2
    exact ⟨ret_no (parse_no fun h => h.2.2.1 (by omega) (head_eq s hz2 HZ.out)), rfl⟩
  have hor : (1 < s.size ∧ (∃ h : 0 < s.size, ((s[0].toNat : Int) == 48) = false)) ∨ s.size ≤ 1 := by
    by_cases h1 : 1 < s.size
    · refine .inl ⟨h1, by omega, ?_⟩
      have : ¬ (s[0].toNat = 48) := fun h => hz ⟨h1, by omega, h⟩
      simp
      omega
    · exact .inr (by omega)
  have HZ : Hid (1 < s.data.toList.length → s.data.toList.head? ≠ some 48) := by
    show _ → _
    intro h1
    rcases hor with ⟨h1, h2, h3⟩ | h1
    · exact head_ne s h2 h3
    · omega
  clear hz
  rcases hor with ⟨h1, h2, h3⟩ | h1
  all_goals
    go_enter Try.func20, Try.ntmps20
    go_wp2
    go_loop [6, 23] (fun n i => ∃ k : Nat, k ≤ s.size ∧ i = .int .i64 k ∧ n = .int .i64 (val (s.data.toList.take k)) ∧ val (s.data.toList.take k) ≤ 9223372036854775807 ∧ (∀ c ∈ s.data.toList.take k, isDig c)) (fun _ i => s.size - (intOf i).toNat)
    case atStart => exact ⟨0, Nat.zero_le _, rfl, rfl, Nat.zero_le _, by simp⟩
    case round =>
      obtain ⟨k, hk, rfl, rfl, hv, hd⟩ := hrel
      have HD := Lib.hid hd
      clear hd
      by_cases hlt : k < s.size
      · have hb := s[k].toNat_lt
        have hsk := bytes_at s k hlt
        have HSK := Lib.hid hsk
        clear hsk
        by_cases hc : 48 ≤ s[k].toNat ∧ s[k].toNat ≤ 57
        · obtain ⟨hc1, hc2⟩ := hc
          have HT : Hid (val (s.data.toList.take (k + 1)) = 10 * val (s.data.toList.take k) + (s[k].toNat - 48)) := by
            rw [val_take_succ _ _ (by omega), HSK.out]; rfl
          by_cases ho : (val (s.data.toList.take k) : Int) ≤ (9223372036854775807 - ((s[k].toNat : Int) - 48)) / 10
          · go_wp2
            go_round
            case rel => exact ⟨k + 1, by omega, by go_num, by rw [HT.out]; go_num, by rw [HT.out]; omega, allDig_take_succ (by omega) HD.out (by rw [HSK.out]; exact ⟨hc1, hc2⟩)⟩
            case measure => simp [intOf]; omega
          · go_wp2
            go_ret2
            exact ⟨ret_no (parse_over (k + 1) (by rw [HT.out]; omega)), rfl⟩
        · have hbad : Hid (¬ isDig s.data.toList[k]) := by rw [HSK.out]; exact hc
          go_wp2
          all_goals
            go_ret2
            exact ⟨ret_no (parse_bad k (by omega) hbad.out), rfl⟩
      · by_cases hmost : (val (s.data.toList.take k) : Int) ≤ most
        · go_wp2
          go_ret2
          have r := parse_done (by omega) (list_ne s (by omega)) HD.out HZ.out hmost
          exact ⟨ret_par ⟨r.1.symm, r.2.symm⟩, rfl⟩
        · go_wp2
          go_ret2
          exact ⟨ret_no (parse_over k (by omega)), rfl⟩

end Go.Proofs.Ytocebogaopjkfaa
