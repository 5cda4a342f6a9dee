/-
  WALKS of the functions of layer 2 (dec), of its reference and of its statements: what each call returns.
-/
import Derived.Test.YtocebogaopjkfaaProg
import Derived.Test.YtocebogaopjkfaaDecP
import Derived.WalkKit
import Derived.WalkSpells
import Derived.WalkLawsBesides
import Derived.Lib.Hide
import Derived.Outline
namespace Go.Proofs.Ytocebogaopjkfaa
open Go.RowKit

theorem ret_int {k : IntKind} {a b : Int} (h : a = b) : Ending.returned (.int k a) = .returned (.int k b) := by rw [h]
theorem ret_str {a b : List UInt8} (h : a = b) : Ending.returned (.string ⟨a.toArray⟩) = .returned (.string ⟨b.toArray⟩) := by rw [h]

theorem ret_str2 {a b l : List UInt8} (h : l = a ++ b) : Ending.returned (.string (⟨a.toArray⟩ ++ ⟨b.toArray⟩)) = .returned (.string ⟨l.toArray⟩) := by
  subst h
  congr 2

theorem size_any (n : Int) (w : World) (h1 : -9223372036854775808 ≤ n) (h2 : n ≤ 9223372036854775807) :
    Calls Try.prog 48 #[.int .i64 n] w fun e w' => e = .returned (.int .u64 n.natAbs) ∧ w = w' := by
  by_cases h : n < 0
  · go_enter Try.func48, Try.ntmps48
    go_wp2
    go_ret
    exact ⟨ret_int (by omega), rfl⟩
  · go_enter Try.func48, Try.ntmps48
    go_wp2
    go_ret
    exact ⟨ret_int (by omega), rfl⟩

theorem byte_cell (w : World) (n : Nat) : (w.alloc (Obj.cells #[Value.int IntKind.u8 (48 + (n : Int) % 10)] 5)).cell? ⟨w.heap.size, 0, none⟩ = some (.int .u8 ((dig8 n).toNat : Int)) := by
  rw [dig8_toNat, World.cell?_alloc_at _ _ _ _ rfl]
  simp

theorem byte_str (w : World) (n : Nat) :
    (convert 91 9 (Value.slice (some { block := w.heap.size, off := 0 }) 1 1)).run Try.prog (w.alloc (Obj.cells #[Value.int IntKind.u8 (48 + (n : Int) % 10)] 5)) =
      .ok (.string ⟨[dig8 n].toArray⟩) (w.alloc (Obj.cells #[Value.int IntKind.u8 (48 + (n : Int) % 10)] 5)) :=
  run_convert_bytes_back (P := Try.prog) _ 91 9 5 ⟨w.heap.size, 0, none⟩ 1 [dig8 n] Try.underlying91 Try.underlying5 Try.underlying9 (fun j hj => by
    simp at hj; subst hj
    exact byte_cell w n)

set_option maxRecDepth 100000 in
theorem digits_any : ∀ (f n : Nat) (w : World), Hid (n < 10 ^ (f + 1)) → f ≤ 20 → Hid (n < 18446744073709551616) →
    Calls Try.prog 47 #[.int .u64 n] w fun e w' => e = .returned (.string ⟨(digsF f n).toArray⟩) ∧ Below w.heap.size w w' := by
  intro f
  induction f with
  | zero =>
    intro n w hn _ _
    have hn' : n < 10 := by have := hn.out; omega
    have hs := byte_str w n
    go_enter Try.func47, Try.ntmps47
    go_wp2_with fail
    go_ret
    exact ⟨rfl, (Below.refl _ _).alloc (Nat.le_refl _) _⟩
  | succ f ih =>
    intro n w hn hf hb
    by_cases h10 : n < 10
    · have hs := byte_str w n
      go_enter Try.func47, Try.ntmps47
      go_wp2_with fail
      go_ret
      exact ⟨ret_str (by rw [digsF, if_pos h10]), (Below.refl _ _).alloc (Nat.le_refl _) _⟩
    · have hs := byte_str w n
      go_enter Try.func47, Try.ntmps47
      go_wp2_with fail
      clear hs
      have hw : IntKind.u64.wrap ((n : Int) / 10) = ((n / 10 : Nat) : Int) := by
        have := hb.out
        rw [IntWalk.u64_in _ (by omega)]
        omega
      rw [hw]
      refine (ih (n / 10) _ (by have := hn.out; have e : 10 ^ (f + 1 + 1) = 10 ^ (f + 1) * 10 := Nat.pow_succ .. ; rw [e] at this; exact Lib.hid (by omega)) (by omega) (Lib.hid (by have := hb.out; omega))).mono ?_
      rintro e w' ⟨rfl, hbel⟩
      have hlen : (digsF f (n / 10)).length ≤ 30 := Nat.le_trans (digsF_len f _) (by omega)
      clear ih hw
      go_wp2_with fail
      go_ret
      have hsz := hbel.size
      exact ⟨ret_str2 (by rw [digsF, if_neg h10]), ((Below.refl _ _).alloc (Nat.le_refl _) _).trans (hbel.mono (by simp))⟩

end Go.Proofs.Ytocebogaopjkfaa
