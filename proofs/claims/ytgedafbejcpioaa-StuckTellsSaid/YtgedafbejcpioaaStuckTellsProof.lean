/-
  Whether any pairs have a round, and where in any log a lock was taken against the order, is what the document says: for every list of pairs and every log.
  No conditions.
-/
import Derived.Test.YtgedafbejcpioaaRows
import Derived.Test.YtgedafbejcpioaaPlRi
import Derived.WalkKit
import Derived.ProofKit
import Derived.OpenShut
import Derived.ShutString
import Derived.ChangeOld
import Derived.Below
import Derived.Carry
namespace Go.Proofs.Ytgedafbejcpioaa.stuckTells
open Go.ChangeShapes Go.WideShapes Go.ChangeAt Go.RowKit
set_option linter.unusedVariables false

theorem own : ownKnob Try.prog.godebug = none := by kernel_rfl
theorem laidOut : laidOutB Try.prog = true := by kernel_rfl

set_option maxRecDepth 100000 in
theorem lifted (os : Os) (started : os.Started) (H : Type) (enc : TypeId × Value → H) :
    ReturnsInHanded {} Try.checked os 3 .any (Rows.stuckTellsSpec.pre6 enc Try.prog Try.f3 Rows.stuckTellsRow.domain false) (Rows.stuckTellsSpec.post enc Try.prog Try.f3 false true false false) := by
  refine returnsInHanded_of_change (C := Try.checked) own started (by kernel_rfl) Try.func3
    (ChangeSpec.witness6 (enc := enc) (C := Try.checked) false ⟨#[], #[.slice none 0 0, .slice none 0 0], []⟩ 12 (by kernel_rfl) (by kernel_rfl) (by kernel_rfl) (by kernel_rfl)) ?_
  intro W base args ds gs before hval0 hW hcnd _
  have hval : ∀ (j : Nat) t v, Try.f3.params[j]? = some t → args[j]? = some v → Value.okWide Try.prog W .any base t v := hval0
  have hW' := hW
  obtain ⟨p, q, hA0, hV, rfl, hfz, hnd⟩ := hW
  have hA : DataW.TrodAll enc Try.prog W 0 (fun _ => true) true Try.f3.params.toList args.toList ds p := hA0
  rw [Try.params3] at hA hval
  obtain ⟨v0, vs0, d0, ds0, p0, q0, hargs, rfl, rfl, h0, r0⟩ := trodAll_cons hA
  obtain ⟨v1, vs1, d1, ds1, p1, q1, rfl, rfl, rfl, h1, r1⟩ := trodAll_cons r0
  obtain ⟨rfl, rfl, rfl⟩ := trodAll_nil r1
  obtain rfl : args = #[v0, v1] := by cases args; simp_all
  obtain ⟨rfl, rfl⟩ := trodVars_none hV
  have k0 := h0
  have lt0 : ∀ x ∈ p0, x.block < W.heap.size := by obtain ⟨m, hm⟩ := k0; exact DataW.trod_lt m _ _ _ hm
  obtain ⟨sa0, sl0, sc0, rfl⟩ := okWide_slice Try.underlying22 (hval 0 22 v0 rfl rfl)
  obtain ⟨a0, e0, w0⟩ : ∃ a : (List (Int × Int)), RepL (fun b => b < W.heap.size) W none' ((cLs 2 (cP (cI .i64) (cI .i64)) ((0 : Int), (0 : Int))) a) [Value.slice sa0 sl0 sc0] ∧ (okL (okP (okI .i64) (okI .i64))) a := by obtain ⟨m, hm⟩ := h0; exact (opn_slice (sz := 2) (d := ((0 : Int), (0 : Int))) Try.underlying22 (by kernel_rfl) (by decide) (fun _ => rfl) (opn_arr (sz := 1) Try.underlying49 (by kernel_rfl) (by kernel_rfl) (atail_cons (by decide) (opn_int Try.underlying3) (atail_one rfl (opn_int Try.underlying3))))).get _ _ _ _ _ _ _ _ hm
  have k1 := h1
  have lt1 : ∀ x ∈ p1, x.block < W.heap.size := by obtain ⟨m, hm⟩ := k1; exact DataW.trod_lt m _ _ _ hm
  obtain ⟨sa1, sl1, sc1, rfl⟩ := okWide_slice Try.underlying23 (hval 1 23 v1 rfl rfl)
  obtain ⟨a1, e1, w1⟩ : ∃ a : (List T_api_Step), RepL (fun b => b < W.heap.size) W none' ((cLs 37 T_api_Step.c T_api_Step.d) a) [Value.slice sa1 sl1 sc1] ∧ (okL T_api_Step.ok) a := by obtain ⟨m, hm⟩ := h1; exact (opn_slice (sz := 37) (d := T_api_Step.d) Try.underlying23 (by kernel_rfl) (by decide) (fun _ => rfl) opn_T_api_Step).get _ _ _ _ _ _ _ _ hm
  clear hA0 hval0
  refine ((show SCall _ _ _ _ from Con.ok (StuckTells_plain a0 a1)).law (repA_cons (repV_one e0 rfl) (repA_cons (repV_one e1 rfl) repA_nil))).mono fun e W' ⟨he, bel⟩ => ?_
  subst he
  exact ⟨_, rfl, _, _, _, [], _, [], hW', trodAll_mk1 (shut_bool Try.underlying4 _), (trodAll_cons_mk (Below.trod laidOut (by kernel_rfl) (of_decide_eq_true (by kernel_rfl)) k0 bel lt0) (trodAll_cons_mk (Below.trod laidOut (by kernel_rfl) (of_decide_eq_true (by kernel_rfl)) k1 bel lt1) trodAll_mk0)), rfl, bel.frame _, fun h => by cases h⟩

theorem fact1 : (Rows.stuckTellsRow.inPlace == Try.pinned.checked.prog.inPlace 3) = true := by kernel_rfl
theorem fact2 : (Rows.stuckTellsRow.unfollowed == Try.pinned.checked.prog.unfollowed 3) = true := by kernel_rfl
theorem fact3 : (Rows.stuckTellsRow.recurses == Try.pinned.checked.prog.recurses 3) = true := by kernel_rfl
theorem fact4 : (Rows.stuckTellsRow.named == Try.pinned.checked.prog.varsNamed 3) = true := by kernel_rfl

theorem closed : joinedFacts Try.pinned.checked.prog 3 Try.f3 Rows.stuckTellsSpec Rows.stuckTellsRow = true := by
  unfold joinedFacts
  rw [fact1, fact2, fact3, fact4]
  kernel_rfl

theorem over : Rows.stuckTellsRow.holds Try.pinned (OpenSpec.ofChange Rows.stuckTellsSpec) :=
  OpenClaim.holds_of_wide 3 Try.f3 rfl rfl rfl rfl rfl rfl rfl ⟨rfl, rfl, rfl, rfl, rfl⟩ rfl rfl rfl rfl rfl (by kernel_rfl) Try.func3 closed
    (of_decide_eq_true (by kernel_rfl)) (by unfold Func.isWrapper; first | (rw [if_pos (by decide +kernel)]; kernel_rfl) | (rw [if_neg (by decide +kernel)]; exact ⟨rfl, rfl⟩))
    (fun os started H enc _ => lifted os started H enc)

theorem proved : Rows.StuckTellsSaid := over
#print axioms proved
end Go.Proofs.Ytgedafbejcpioaa.stuckTells
