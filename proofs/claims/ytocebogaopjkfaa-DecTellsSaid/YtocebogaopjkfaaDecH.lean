/-
  WALKS of the functions of layer 2 (dec), of its reference and of its statements: what each call returns.
-/
import Derived.Test.YtocebogaopjkfaaDecG
namespace Go.Proofs.Ytocebogaopjkfaa
open Go.RowKit

theorem txt_str95 (w : World) (k c N : Nat) (l : List UInt8) (hN : N = l.length) :
    (convert 91 9 (Value.slice (some { block := w.heap.size, off := k }) N c)).run Try.prog (w.alloc (Obj.cells (txt k l) 95)) = .ok (.string ⟨l.toArray⟩) (w.alloc (Obj.cells (txt k l) 95)) := hN ▸
  run_convert_bytes_back (P := Try.prog) _ 91 9 5 ⟨w.heap.size, k, none⟩ c l Try.underlying91 Try.underlying5 Try.underlying9 (fun j hj => by
    have := txt_at k j l hj
    by_cases h0 : j = 0
    · subst h0
      simp only [Addr.add, if_true]
      rw [World.cell?_alloc_at _ _ _ _ rfl]
      exact this
    · simp only [Addr.add, if_neg h0]
      rw [World.cell?_alloc_at _ _ _ _ rfl]
      exact this)

theorem slice95 (B k N : Nat) (x : Int) (hx : x = k) (hN : k + N = 4) (h0 : 0 < N) (w : World) :
    (Instr.sliceAt 95 (.pointer (some { block := B, off := 0 })) (some (.int .i64 x)) none none).run Try.prog w = .ok (.slice (some { block := B, off := k }) N N) w := by
  subst hx
  obtain rfl : N = 4 - k := by omega
  have hal : Try.prog.arrayLen 95 = 4 := by kernel_rfl
  have hel : Try.prog.elem 95 = 5 := by kernel_rfl
  have hsz : (sizeOf 5).run Try.prog w = .ok 1 w := by kernel_rfl
  have h := run_sliceAt_array_l (P := Try.prog) w 95 { block := B, off := 0 } (by rw [hal, hel]; exact Try.underlying95) .i64 (k : Int) (by omega) (by rw [hal]; omega)
  rw [h, hal, hel, hsz]
  simp only [Result.andThen, slicedAt, Int.toNat_natCast, Nat.mul_one]
  rw [if_neg (by omega)]
  by_cases hk : k = 0
  · subst hk; rfl
  · simp [Addr.add, hk]

theorem hexF_len1 (m : Nat) : 1 ≤ (hexF 3 m).length := List.length_pos_iff.2 (hexF_ne 3 m)
theorem hexF_last (m : Nat) (h : m < 16) : hexF 3 m = [sign8 (m % 16)] := by rw [hexF, if_pos h]
theorem hexF_more (m : Nat) (h : ¬ m < 16) (h2 : m < 65536) : hexF 3 m = hexF 3 (m / 16) ++ [sign8 (m % 16)] := by
  rw [hexF, if_neg h, hexF_fuel 2 (m / 16) (by omega)]

set_option maxRecDepth 100000 in
set_option maxHeartbeats 400000 in
theorem hex_any (n : Int) (w : World) (h1 : -9223372036854775808 ≤ n) (h2 : n ≤ 9223372036854775807) :
    Calls Try.prog 27 #[.int .i64 n] w fun e w' => e = .returned (.string ⟨(hexOf n).toArray⟩) ∧ Below w.heap.size w w' := by
  by_cases h0 : n < 0
  · go_enter Try.func27, Try.ntmps27
    go_wp2_with fail
    go_ret
    exact ⟨by unfold hexOf; rw [if_pos (.inl h0)]; rfl, Below.refl _ _⟩
  by_cases h9 : 65535 < n
  · go_enter Try.func27, Try.ntmps27
    go_wp2_with fail
    go_ret
    exact ⟨by unfold hexOf; rw [if_pos (.inr h9)]; rfl, Below.refl _ _⟩
  obtain ⟨n, rfl⟩ : ∃ m : Nat, n = m := ⟨n.toNat, by omega⟩
  have HO : Hid (hexOf n = hexF 3 n) := by
    show _ = _
    unfold hexOf; rw [if_neg (by omega)]; rfl
  have hnl := hexF_len 3 n
  go_enter Try.func27, Try.ntmps27
  go_wp2_with fail
  go_loopw [0, 4] (fun u i wr => ∃ (k m : Nat) (l : List UInt8), k + l.length = 4 ∧ i = .int .i64 k ∧ u = .int .i64 m ∧ Hid (hexF 3 n = hexF 3 m ++ l) ∧ m ≤ n ∧ (hexF 3 m).length ≤ k ∧ wr = w.alloc (.cells (txt k l) 95)) (fun _ i _ => (intOf i).toNat)
  case atStart => exact ⟨4, n, [], rfl, rfl, rfl, by show _ = _; simp, Nat.le_refl _, by omega, rfl⟩
  case round =>
    obtain ⟨k, m, l, hkl, rfl, rfl, hd, hm, hlen, rfl⟩ := hrel
    have h1k := hexF_len1 m
    obtain ⟨k, rfl⟩ : ∃ j, k = j + 1 := ⟨k - 1, by omega⟩
    have hc := txt_cell w (k + 1) k l 95 (by omega)
    have hst := txt_store w k l 95 ((sign8 (m % 16)).toNat : Int) (sign8 (m % 16)) rfl
    by_cases h16 : m < 16
    · have HE : Hid (hexF 3 n = sign8 (m % 16) :: l) := by
        show _ = _
        rw [hd.out, hexF_last m h16]; rfl
      have hstr := txt_str95 w k (4 - k) (4 - k) (sign8 (m % 16) :: l) (by simp; omega)
      have hsl := slice95 w.heap.size k (4 - k) (k : Int) (by omega) (by omega) (by omega)
      have hz : ((m : Int) / 16 == 0) = true := by rw [beq_iff_eq]; omega
      clear hd
      go_wp2_with fail
      refine (sign_any _ _ (by omega) (by omega)).mono ?_
      rw [show ((m : Int) % 16).toNat = m % 16 from by omega]
      rintro e w' ⟨rfl, rfl⟩
      go_wp2_with fail
      go_ret
      exact ⟨ret_str (by rw [HO.out, HE.out]), (Below.refl _ _).alloc (Nat.le_refl _) _⟩
    · have HM := Lib.hid (hexF_more m h16 (by omega))
      have hz : ((m : Int) / 16 == 0) = false := by rw [beq_eq_false_iff_ne]; omega
      go_wp2_with fail
      refine (sign_any _ _ (by omega) (by omega)).mono ?_
      rw [show ((m : Int) % 16).toNat = m % 16 from by omega]
      rintro e w' ⟨rfl, rfl⟩
      go_wp2_with fail
      go_roundw
      case rel =>
        refine ⟨k, m / 16, sign8 (m % 16) :: l, by simp; omega, rfl, by go_num, Lib.hid (by rw [hd.out, HM.out]; simp), by omega, ?_, rfl⟩
        have := congrArg List.length HM.out
        simp at this
        omega
      case measure => simp [intOf]

end Go.Proofs.Ytocebogaopjkfaa
