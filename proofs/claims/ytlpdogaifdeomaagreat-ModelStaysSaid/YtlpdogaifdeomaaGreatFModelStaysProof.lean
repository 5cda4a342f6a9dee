/-
  whatever calls come, one behind the other, from a right state a right one comes, and all is answered as it should be
  No conditions.
-/
import Derived.Test.YtlpdogaifdeomaaGreatRows
import Derived.Test.YtlpdogaifdeomaaGreatFPlOj
import Derived.WalkKit
import Derived.ProofKit
import Derived.OpenShut
import Derived.ShutString
import Derived.ChangeOld
import Derived.Below
import Derived.Carry
namespace Go.Proofs.YtlpdogaifdeomaaGreat.modelStays
open Go.ChangeShapes Go.WideShapes Go.ChangeAt Go.RowKit
set_option linter.unusedVariables false
theorem own : ownKnob Tryz.prog.godebug = none := by kernel_rfl
theorem laidOut : laidOutB Tryz.prog = true := by kernel_rfl
set_option maxRecDepth 100000 in
theorem lifted (os : Os) (dM : os.Started) (H : Type) (enc : TypeId × Value -> H) :
    ReturnsInHanded {} Tryz.checked os 3 .any (Rows.modelStaysSpec.pre6 enc Tryz.prog Tryz.f3 Rows.modelStaysRow.domain false) (Rows.modelStaysSpec.post enc Tryz.prog Tryz.f3 false true false false) := by
  refine returnsInHanded_of_change (C := Tryz.checked) own dM (by kernel_rfl) Tryz.func3
    (ChangeSpec.witness6 (enc := enc) (C := Tryz.checked) false ⟨#[], #[.agg #[.int .i64 (0), .int .i64 (0), .int .i64 (0), .int .i64 (0), .int .i64 (0), .int .u64 (0), .int .i64 (0), .int .i64 (0), .int .i64 (0), .int .i64 (0), .int .i64 (0), .int .i64 (0), .int .i64 (0), .int .i64 (0), .int .i64 (0), .int .i64 (0)], .slice none 0 0], []⟩ 12 (by kernel_rfl) (by kernel_rfl) (by kernel_rfl) (by kernel_rfl)) ?_
  intro W a8 args ds gs mc iq hW hcnd _
  have eN : ∀ (j : Nat) t v, Tryz.f3.params[j]? = some t -> args[j]? = some v -> Value.okWide Tryz.prog W .any a8 t v := iq
  have hW' := hW
  obtain ⟨p, q, hA0, hV, rfl, hfz, jS⟩ := hW
  have hA : DataW.TrodAll enc Tryz.prog W 0 (fun _ => true) true Tryz.f3.params.toList args.toList ds p := hA0
  rw [Tryz.params3] at hA eN
  obtain ⟨v0, vs0, d0, ds0, p0, q0, hargs, rfl, rfl, h0, r0⟩ := trodAll_cons hA
  obtain ⟨v1, vs1, d1, ds1, p1, q1, rfl, rfl, rfl, h1, r1⟩ := trodAll_cons r0
  obtain ⟨rfl, rfl, rfl⟩ := trodAll_nil r1
  obtain rfl : args = #[v0, v1] := by cases args; simp_all
  obtain ⟨rfl, rfl⟩ := trodVars_none hV
  have k0 := h0
  have lt0 : ∀ x ∈ p0, x.block < W.heap.size := by obtain ⟨m, hm⟩ := k0; exact DataW.trod_lt m _ _ _ hm
  obtain ⟨c0, rfl, _⟩ := okWide_struct Tryz.underlying26 (eN 0 26 v0 rfl rfl)
  obtain ⟨a0, e0, w0⟩ : ∃ a : Zaq, RepL (fun b => b < W.heap.size) W Zde (Zaq.c a) c0.toList /\ Zaq.ok a := by obtain ⟨m, hm⟩ := h0; exact ZwM.get _ _ _ _ _ _ _ _ hm
  have k1 := h1
  have lt1 : ∀ x ∈ p1, x.block < W.heap.size := by obtain ⟨m, hm⟩ := k1; exact DataW.trod_lt m _ _ _ hm
  obtain ⟨jr, sl1, sc1, rfl⟩ := okWide_slice Tryz.underlying27 (eN 1 27 v1 rfl rfl)
  obtain ⟨a1, e1, w1⟩ : ∃ a : (List Zar), RepL (fun b => b < W.heap.size) W Zde ((cLs 12 Zar.c Zar.d) a) [Value.slice jr sl1 sc1] /\ (okL Zar.ok) a := by obtain ⟨m, hm⟩ := h1; exact (ZKs (sz := 12) (d := Zar.d) Tryz.underlying27 (by kernel_rfl) (by decide) (fun _ => rfl) ZwN).get _ _ _ _ _ _ _ _ hm
  clear hA0 iq
  refine ((show Zpi _ _ _ _ from Con.ok (Zup a0 a1 w0 w1)).law (ZAO (ZNQ e0) (ZAO (ZNP e1 rfl) ZNU))).mono fun e W' ⟨he, bel⟩ => ?_
  subst he
  exact ⟨_, rfl, _, _, _, [], _, [], hW', trodAll_mk1 (shut_bool Tryz.underlying4 _), (trodAll_cons_mk (Below.trod laidOut (by kernel_rfl) (of_decide_eq_true (by kernel_rfl)) k0 bel lt0) (trodAll_cons_mk (Below.trod laidOut (by kernel_rfl) (of_decide_eq_true (by kernel_rfl)) k1 bel lt1) trodAll_mk0)), rfl, bel.frame _, fun h => by cases h⟩
theorem fact1 : (Rows.modelStaysRow.inPlace == Tryz.pinned.checked.prog.inPlace 3) = true := by kernel_rfl
theorem fact2 : (Rows.modelStaysRow.unfollowed == Tryz.pinned.checked.prog.unfollowed 3) = true := by kernel_rfl
theorem fact3 : (Rows.modelStaysRow.recurses == Tryz.pinned.checked.prog.recurses 3) = true := by kernel_rfl
theorem fact4 : (Rows.modelStaysRow.named == Tryz.pinned.checked.prog.varsNamed 3) = true := by kernel_rfl
theorem closed : joinedFacts Tryz.pinned.checked.prog 3 Tryz.f3 Rows.modelStaysSpec Rows.modelStaysRow = true := by
  unfold joinedFacts
  rw [fact1, fact2, fact3, fact4]
  kernel_rfl
theorem over : Rows.modelStaysRow.holds Tryz.pinned (OpenSpec.ofChange Rows.modelStaysSpec) :=
  OpenClaim.holds_of_wide 3 Tryz.f3 rfl rfl rfl rfl rfl rfl rfl ⟨rfl, rfl, rfl, rfl, rfl⟩ rfl rfl rfl rfl rfl (by kernel_rfl) Tryz.func3 closed
    (of_decide_eq_true (by kernel_rfl)) (by unfold Func.isWrapper; first | (rw [if_pos (by decide +kernel)]; kernel_rfl) | (rw [if_neg (by decide +kernel)]; exact ⟨rfl, rfl⟩))
    (fun os dM H enc _ => lifted os dM H enc)
theorem proved : Rows.ModelStaysSaid := over
#print axioms proved
end Go.Proofs.YtlpdogaifdeomaaGreat.modelStays
