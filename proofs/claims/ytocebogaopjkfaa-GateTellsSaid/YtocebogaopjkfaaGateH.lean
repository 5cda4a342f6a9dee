/-
  WALKS of the statement's comparison of two lists of numbers, and of its examples.
-/
import Derived.Test.YtocebogaopjkfaaGateF
import Derived.Deep.QuietTactic
import Derived.BigQuiet
namespace Go.Proofs.Ytocebogaopjkfaa
open Go.RowKit

theorem Rows.lit {α : Type} [Cells α] (w : World) (n : Nat) (l : List α) (t : TypeId) (hn : n = w.heap.size) : Rows (w.alloc (.cells (l.flatMap Cells.cells).toArray t)) (some ⟨n, 0, none⟩) l := by
  subst hn
  intro i hi
  refine ⟨_, _, rfl, fun j hj => ?_⟩
  rw [World.cell?_alloc_at _ _ _ _ rfl, Nat.zero_add, List.getElem?_toArray, flat_get l i j hi hj]

set_option maxHeartbeats 800000 in
theorem ints_any (s t : Sl Int) (w : World) (hs : Cells.deep w s) (ht : Cells.deep w t) (he : s.l = t.l) :
    Calls Try.prog 10 #[s.val, t.val] w fun e w' => e = .returned (.bool true) ∧ Below w.heap.size w w' := by
  obtain ⟨ao, cap, l⟩ := s
  obtain ⟨ao2, cap2, l2⟩ := t
  simp only at he
  subst he
  obtain ⟨h1, h2, h3, h4, h5⟩ := hs
  obtain ⟨q1, q2, q3, q4, q5⟩ := ht
  simp only [Sl.val] at *
  have H4 := Lib.hid h4
  have Q4 := Lib.hid q4
  clear h3 h4 h5 q3 q4 q5
  go_enter Try.func10, Try.ntmps10
  go_wp2_with fail
  go_loopw [5] (fun i wr => ∃ k : Nat, k ≤ l.length ∧ i = .int .i64 k ∧ ∃ q, wr = w.drewN q) (fun i _ => l.length - (intOf i).toNat)
  case atStart => exact ⟨0, Nat.zero_le _, rfl, 0, rfl⟩
  case round =>
    obtain ⟨k, hk, rfl, q, rfl⟩ := hrel
    by_cases hlt : k < l.length
    · obtain ⟨b, off, rfl, hc⟩ := H4.out.at k hlt
      obtain ⟨b2, off2, rfl, hc2⟩ := Q4.out.at k hlt
      have c0 : w.cell? ⟨b, off + k, none⟩ = some (.int .i64 l[k]) := by
        have := hc 0 _ rfl
        rwa [show Cells.sz Int = 1 from rfl, Nat.mul_one, Nat.add_zero] at this
      have c1 : w.cell? ⟨b2, off2 + k, none⟩ = some (.int .i64 l[k]) := by
        have := hc2 0 _ rfl
        rwa [show Cells.sz Int = 1 from rfl, Nat.mul_one, Nat.add_zero] at this
      clear hc hc2
      go_wp2_with fail
      go_quiet (fail)
      go_wp2_with fail
      go_roundw
      case rel => exact ⟨k + 1, by omega, by go_num, _, rfl⟩
      case measure => simp [intOf]; omega
    · go_wp2_with fail
      go_ret
      exact ⟨rfl, below_drewN (Below.refl _ _) q⟩

end Go.Proofs.Ytocebogaopjkfaa
