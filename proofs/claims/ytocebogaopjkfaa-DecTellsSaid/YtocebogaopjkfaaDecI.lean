/-
  WALKS of the functions of layer 2 (dec), of its reference and of its statements: what each call returns.
-/
import Derived.Test.YtocebogaopjkfaaDecG
namespace Go.Proofs.Ytocebogaopjkfaa
open Go.RowKit

theorem low_at : ∀ d : Fin 16, (ByteArray.mk #[48, 49, 50, 51, 52, 53, 54, 55, 56, 57, 97, 98, 99, 100, 101, 102]).extract d.val (d.val + 1) = ⟨#[sign8 d.val]⟩ := by
  intro d
  apply ByteArray.ext
  revert d
  decide +kernel

theorem low_cut (d : Nat) (h : d < 16) : (ByteArray.mk #[48, 49, 50, 51, 52, 53, 54, 55, 56, 57, 97, 98, 99, 100, 101, 102]).extract d (d + 1) = ⟨#[sign8 d]⟩ := low_at ⟨d, h⟩

set_option maxRecDepth 100000 in
set_option maxHeartbeats 400000 in
theorem rhexF_any : ∀ (f n : Nat) (w : World), f ≤ 10 → Hid (n < 16 ^ (f + 1)) → n ≤ 65535 →
    Calls Try.prog 28 #[.int .i64 n] w fun e w' => e = .returned (.string ⟨(hexF f n).toArray⟩) ∧ ∃ q, w' = w.drewN q := by
  intro f
  induction f with
  | zero =>
    intro n w hf hn hb
    have h16 : n < 16 := by have := hn.out; omega
    have hlow := low_cut n h16
    go_enter Try.func28, Try.ntmps28
    go_wp2_with fail
    go_ret
    exact ⟨ret_str (by rw [hexF, Nat.mod_eq_of_lt h16]), 0, rfl⟩
  | succ f ih =>
    intro n w hf hn hb
    by_cases h16 : n < 16
    · have hlow := low_cut n h16
      go_enter Try.func28, Try.ntmps28
      go_wp2_with fail
      go_ret
      exact ⟨ret_str (by rw [hexF, if_pos h16, Nat.mod_eq_of_lt h16]), 0, rfl⟩
    · have hlow := low_cut (n % 16) (by omega)
      have hlen := hexF_len f (n / 16)
      have e6 : n % 16 < 16 := by omega
      have e3 : IntKind.i64.wrap ((n : Int) % 16 + 1) = (n : Int) % 16 + 1 := IntWalk.i64_in _ (by omega)
      have e4 : ((n : Int) % 16 + 1).toNat = n % 16 + 1 := by omega
      have hw : ∀ w, Calls Try.prog 28 #[.int .i64 ((n : Int) / 16)] w fun e w' => e = .returned (.string ⟨(hexF f (n / 16)).toArray⟩) ∧ ∃ q, w' = w.drewN q := by
        intro w
        rw [show (n : Int) / 16 = ((n / 16 : Nat) : Int) from by omega]
        exact ih (n / 16) w (by omega) (by have := hn.out; rw [Nat.pow_succ] at this; show _ < _; omega) (by omega)
      clear ih
      go_enter Try.func28, Try.ntmps28
      go_wp2_with fail
      go_quiet ((go_at_call 28; exact Calls.quiet_of (hw _)))
      go_wp2_with fail
      go_ret
      exact ⟨ret_str2 (by rw [hexF, if_neg h16]), _, rfl⟩

theorem rhex_any (n : Int) (w : World) (h1 : -9223372036854775808 ≤ n) (h2 : n ≤ 9223372036854775807) :
    Calls Try.prog 28 #[.int .i64 n] w fun e w' => e = .returned (.string ⟨(hexOf n).toArray⟩) ∧ Below w.heap.size w w' := by
  by_cases h0 : n < 0
  · go_enter Try.func28, Try.ntmps28
    go_wp2_with fail
    go_ret
    exact ⟨by unfold hexOf; rw [if_pos (.inl h0)]; rfl, Below.refl _ _⟩
  by_cases h9 : 65535 < n
  · go_enter Try.func28, Try.ntmps28
    go_wp2_with fail
    go_ret
    exact ⟨by unfold hexOf; rw [if_pos (.inr h9)]; rfl, Below.refl _ _⟩
  obtain ⟨n, rfl⟩ : ∃ m : Nat, n = m := ⟨n.toNat, by omega⟩
  refine (rhexF_any 3 n w (by omega) (Lib.hid (by omega)) (by omega)).mono ?_
  rintro e w' ⟨rfl, q, rfl⟩
  exact ⟨by unfold hexOf; rw [if_neg (by omega)]; rfl, below_drewN (Below.refl _ _) q⟩

end Go.Proofs.Ytocebogaopjkfaa
