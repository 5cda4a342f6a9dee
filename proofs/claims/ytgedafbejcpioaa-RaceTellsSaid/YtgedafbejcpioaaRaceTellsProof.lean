/-
  Which steps of any log race is what the document says: for every log.
  No conditions.
-/
import Derived.Test.YtgedafbejcpioaaRows
import Derived.Test.YtgedafbejcpioaaPlRf
import Derived.WalkKit
import Derived.ProofKit
import Derived.OpenShut
import Derived.ShutString
import Derived.ChangeOld
import Derived.Below
import Derived.Carry
namespace Go.Proofs.Ytgedafbejcpioaa.raceTells
open Go.ChangeShapes Go.WideShapes Go.ChangeAt Go.RowKit
set_option linter.unusedVariables false

theorem own : ownKnob Try.prog.godebug = none := by kernel_rfl
theorem laidOut : laidOutB Try.prog = true := by kernel_rfl

set_option maxRecDepth 100000 in
theorem lifted (os : Os) (started : os.Started) (H : Type) (enc : TypeId × Value → H) :
    ReturnsInHanded {} Try.checked os 4 .any (Rows.raceTellsSpec.pre6 enc Try.prog Try.f4 Rows.raceTellsRow.domain false) (Rows.raceTellsSpec.post enc Try.prog Try.f4 false true false false) := by
  refine returnsInHanded_of_change (C := Try.checked) own started (by kernel_rfl) Try.func4
    (ChangeSpec.witness6 (enc := enc) (C := Try.checked) false ⟨#[], #[.slice none 0 0], []⟩ 12 (by kernel_rfl) (by kernel_rfl) (by kernel_rfl) (by kernel_rfl)) ?_
  intro W base args ds gs before hval0 hW hcnd _
  have hval : ∀ (j : Nat) t v, Try.f4.params[j]? = some t → args[j]? = some v → Value.okWide Try.prog W .any base t v := hval0
  have hW' := hW
  obtain ⟨p, q, hA0, hV, rfl, hfz, hnd⟩ := hW
  have hA : DataW.TrodAll enc Try.prog W 0 (fun _ => true) true Try.f4.params.toList args.toList ds p := hA0
  rw [Try.params4] at hA hval
  obtain ⟨v0, vs0, d0, ds0, p0, q0, hargs, rfl, rfl, h0, r0⟩ := trodAll_cons hA
  obtain ⟨rfl, rfl, rfl⟩ := trodAll_nil r0
  obtain rfl : args = #[v0] := by cases args; simp_all
  obtain ⟨rfl, rfl⟩ := trodVars_none hV
  have k0 := h0
  have lt0 : ∀ x ∈ p0, x.block < W.heap.size := by obtain ⟨m, hm⟩ := k0; exact DataW.trod_lt m _ _ _ hm
  obtain ⟨sa0, sl0, sc0, rfl⟩ := okWide_slice Try.underlying23 (hval 0 23 v0 rfl rfl)
  obtain ⟨a0, e0, w0⟩ : ∃ a : (List T_api_Step), RepL (fun b => b < W.heap.size) W none' ((cLs 37 T_api_Step.c T_api_Step.d) a) [Value.slice sa0 sl0 sc0] ∧ (okL T_api_Step.ok) a := by obtain ⟨m, hm⟩ := h0; exact (opn_slice (sz := 37) (d := T_api_Step.d) Try.underlying23 (by kernel_rfl) (by decide) (fun _ => rfl) opn_T_api_Step).get _ _ _ _ _ _ _ _ hm
  clear hA0 hval0
  refine ((show SCall _ _ _ _ from Con.ok (RaceTells_plain a0)).law (repA_cons (repV_one e0 rfl) repA_nil)).mono fun e W' ⟨he, bel⟩ => ?_
  subst he
  exact ⟨_, rfl, _, _, _, [], _, [], hW', trodAll_mk1 (shut_bool Try.underlying4 _), (trodAll_cons_mk (Below.trod laidOut (by kernel_rfl) (of_decide_eq_true (by kernel_rfl)) k0 bel lt0) trodAll_mk0), rfl, bel.frame _, fun h => by cases h⟩

theorem fact1 : (Rows.raceTellsRow.inPlace == Try.pinned.checked.prog.inPlace 4) = true := by kernel_rfl
theorem fact2 : (Rows.raceTellsRow.unfollowed == Try.pinned.checked.prog.unfollowed 4) = true := by kernel_rfl
theorem fact3 : (Rows.raceTellsRow.recurses == Try.pinned.checked.prog.recurses 4) = true := by kernel_rfl
theorem fact4 : (Rows.raceTellsRow.named == Try.pinned.checked.prog.varsNamed 4) = true := by kernel_rfl

theorem closed : joinedFacts Try.pinned.checked.prog 4 Try.f4 Rows.raceTellsSpec Rows.raceTellsRow = true := by
  unfold joinedFacts
  rw [fact1, fact2, fact3, fact4]
  kernel_rfl

theorem over : Rows.raceTellsRow.holds Try.pinned (OpenSpec.ofChange Rows.raceTellsSpec) :=
  OpenClaim.holds_of_wide 4 Try.f4 rfl rfl rfl rfl rfl rfl rfl ⟨rfl, rfl, rfl, rfl, rfl⟩ rfl rfl rfl rfl rfl (by kernel_rfl) Try.func4 closed
    (of_decide_eq_true (by kernel_rfl)) (by unfold Func.isWrapper; first | (rw [if_pos (by decide +kernel)]; kernel_rfl) | (rw [if_neg (by decide +kernel)]; exact ⟨rfl, rfl⟩))
    (fun os started H enc _ => lifted os started H enc)

theorem proved : Rows.RaceTellsSaid := over
#print axioms proved
end Go.Proofs.Ytgedafbejcpioaa.raceTells
