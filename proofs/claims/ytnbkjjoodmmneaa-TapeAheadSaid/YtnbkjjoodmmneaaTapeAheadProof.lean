/-
  What a code was told later does not change what it asked ahead of that: doormanlaw38.TapeAhead returns true and leaves its arguments as they were.
  No conditions.
-/
import Derived.Test.YtnbkjjoodmmneaaRows
import Derived.Test.YtnbkjjoodmmneaaPlTc
import Derived.WalkKit
import Derived.ProofKit
import Derived.OpenShut
import Derived.ShutString
import Derived.ChangeOld
import Derived.Below
import Derived.Carry
namespace Go.Proofs.Ytnbkjjoodmmneaa.tapeAhead
open Go.ChangeShapes Go.WideShapes Go.ChangeAt Go.RowKit
set_option linter.unusedVariables false

theorem own : ownKnob Try.prog.godebug = none := by kernel_rfl
theorem laidOut : laidOutB Try.prog = true := by kernel_rfl

set_option maxRecDepth 100000 in
theorem lifted (os : Os) (started : os.Started) (H : Type) (enc : TypeId × Value → H) :
    ReturnsInHanded {} Try.checked os 6 .any (Rows.tapeAheadSpec.pre6 enc Try.prog Try.f6 Rows.tapeAheadRow.domain false) (Rows.tapeAheadSpec.post enc Try.prog Try.f6 false true false false) := by
  refine returnsInHanded_of_change (C := Try.checked) own started (by kernel_rfl) Try.func6
    (ChangeSpec.witness6 (enc := enc) (C := Try.checked) false ⟨#[], #[.slice none 0 0, .slice none 0 0, .slice none 0 0], []⟩ 12 (by kernel_rfl) (by kernel_rfl) (by kernel_rfl) (by kernel_rfl)) ?_
  intro W base args ds gs before hval0 hW hcnd _
  have hval : ∀ (j : Nat) t v, Try.f6.params[j]? = some t → args[j]? = some v → Value.okWide Try.prog W .any base t v := hval0
  have hW' := hW
  obtain ⟨p, q, hA0, hV, rfl, hfz, hnd⟩ := hW
  have hA : DataW.TrodAll enc Try.prog W 0 (fun _ => true) true Try.f6.params.toList args.toList ds p := hA0
  rw [Try.params6] at hA hval
  obtain ⟨v0, vs0, d0, ds0, p0, q0, hargs, rfl, rfl, h0, r0⟩ := trodAll_cons hA
  obtain ⟨v1, vs1, d1, ds1, p1, q1, rfl, rfl, rfl, h1, r1⟩ := trodAll_cons r0
  obtain ⟨v2, vs2, d2, ds2, p2, q2, rfl, rfl, rfl, h2, r2⟩ := trodAll_cons r1
  obtain ⟨rfl, rfl, rfl⟩ := trodAll_nil r2
  obtain rfl : args = #[v0, v1, v2] := by cases args; simp_all
  obtain ⟨rfl, rfl⟩ := trodVars_none hV
  have k0 := h0
  have lt0 : ∀ x ∈ p0, x.block < W.heap.size := by obtain ⟨m, hm⟩ := k0; exact DataW.trod_lt m _ _ _ hm
  obtain ⟨sa0, sl0, sc0, rfl⟩ := okWide_slice Try.underlying51 (hval 0 51 v0 rfl rfl)
  obtain ⟨a0, e0, w0⟩ : ∃ a : (List T_api_Op), RepL (fun b => b < W.heap.size) W none' ((cLs 21 T_api_Op.c T_api_Op.d) a) [Value.slice sa0 sl0 sc0] ∧ (okL T_api_Op.ok) a := by obtain ⟨m, hm⟩ := h0; exact (opn_slice (sz := 21) (d := T_api_Op.d) Try.underlying51 (by kernel_rfl) (by decide) (fun _ => rfl) opn_T_api_Op).get _ _ _ _ _ _ _ _ hm
  have k1 := h1
  have lt1 : ∀ x ∈ p1, x.block < W.heap.size := by obtain ⟨m, hm⟩ := k1; exact DataW.trod_lt m _ _ _ hm
  obtain ⟨sa1, sl1, sc1, rfl⟩ := okWide_slice Try.underlying52 (hval 1 52 v1 rfl rfl)
  obtain ⟨a1, e1, w1⟩ : ∃ a : (List T_api_Value), RepL (fun b => b < W.heap.size) W none' ((cLs 13 T_api_Value.c T_api_Value.d) a) [Value.slice sa1 sl1 sc1] ∧ (okL T_api_Value.ok) a := by obtain ⟨m, hm⟩ := h1; exact (opn_slice (sz := 13) (d := T_api_Value.d) Try.underlying52 (by kernel_rfl) (by decide) (fun _ => rfl) opn_T_api_Value).get _ _ _ _ _ _ _ _ hm
  have k2 := h2
  have lt2 : ∀ x ∈ p2, x.block < W.heap.size := by obtain ⟨m, hm⟩ := k2; exact DataW.trod_lt m _ _ _ hm
  obtain ⟨sa2, sl2, sc2, rfl⟩ := okWide_slice Try.underlying52 (hval 2 52 v2 rfl rfl)
  obtain ⟨a2, e2, w2⟩ : ∃ a : (List T_api_Value), RepL (fun b => b < W.heap.size) W none' ((cLs 13 T_api_Value.c T_api_Value.d) a) [Value.slice sa2 sl2 sc2] ∧ (okL T_api_Value.ok) a := by obtain ⟨m, hm⟩ := h2; exact (opn_slice (sz := 13) (d := T_api_Value.d) Try.underlying52 (by kernel_rfl) (by decide) (fun _ => rfl) opn_T_api_Value).get _ _ _ _ _ _ _ _ hm
  clear hA0 hval0
  refine ((g_doormanlaw38_TapeAhead_ok a0 a1 a2 true (TapeAhead_plain a0 a1 a2 w0 w1 w2)).law (repA_cons (repV_one e0 rfl) (repA_cons (repV_one e1 rfl) (repA_cons (repV_one e2 rfl) repA_nil)))).mono fun e W' ⟨he, bel⟩ => ?_
  subst he
  exact ⟨_, rfl, _, _, _, [], _, [], hW', trodAll_mk1 (shut_bool Try.underlying4 _), (trodAll_cons_mk (Below.trod laidOut (by kernel_rfl) (of_decide_eq_true (by kernel_rfl)) k0 bel lt0) (trodAll_cons_mk (Below.trod laidOut (by kernel_rfl) (of_decide_eq_true (by kernel_rfl)) k1 bel lt1) (trodAll_cons_mk (Below.trod laidOut (by kernel_rfl) (of_decide_eq_true (by kernel_rfl)) k2 bel lt2) trodAll_mk0))), rfl, bel.frame _, fun h => by cases h⟩

theorem over : Rows.tapeAheadRow.holds Try.pinned (OpenSpec.ofChange Rows.tapeAheadSpec) :=
  OpenClaim.holds_of_wide 6 Try.f6 rfl rfl rfl rfl rfl rfl rfl ⟨rfl, rfl, rfl, rfl, rfl⟩ rfl rfl rfl rfl rfl (by kernel_rfl) Try.func6 (by kernel_rfl)
    (of_decide_eq_true (by kernel_rfl)) (by unfold Func.isWrapper; first | (rw [if_pos (by decide +kernel)]; kernel_rfl) | (rw [if_neg (by decide +kernel)]; exact ⟨rfl, rfl⟩))
    (fun os started H enc _ => lifted os started H enc)

theorem proved : Rows.TapeAheadSaid := over
#print axioms proved
end Go.Proofs.Ytnbkjjoodmmneaa.tapeAhead
