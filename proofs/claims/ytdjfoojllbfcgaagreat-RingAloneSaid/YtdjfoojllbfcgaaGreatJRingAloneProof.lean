/-
  doormanlaw41.RingAlone returns true. No conditions.
-/
import Derived.Test.YtdjfoojllbfcgaaGreatRows
import Derived.Test.YtdjfoojllbfcgaaGreatJPlQd
import Derived.WalkKit
import Derived.ProofKit
import Derived.OpenShut
import Derived.ShutString
import Derived.ChangeOld
import Derived.Below
import Derived.Carry
namespace Go.Proofs.YtdjfoojllbfcgaaGreat.ringAlone
open Go.ChangeShapes Go.WideShapes Go.ChangeAt Go.RowKit
set_option linter.unusedVariables false
theorem own : ownKnob Tryz.prog.godebug = none := by kernel_rfl
theorem laidOut : laidOutB Tryz.prog = true := by kernel_rfl
set_option maxRecDepth 100000 in
theorem lifted (os : Os) (dm : os.Started) (H : Type) (enc : TypeId × Value -> H) :
    ReturnsInHanded {} Tryz.checked os 10 .any (Rows.ringAloneSpec.pre6 enc Tryz.prog Tryz.f10 Rows.ringAloneRow.domain false) (Rows.ringAloneSpec.post enc Tryz.prog Tryz.f10 false true false false) := by
  refine returnsInHanded_of_change (C := Tryz.checked) own dm (by kernel_rfl) Tryz.func10
    (ChangeSpec.witness6 (enc := enc) (C := Tryz.checked) false ⟨#[], #[.agg #[.int .i64 (0), .int .i64 (0), .int .i64 (0), .int .i64 (0), .int .i64 (0), .int .u64 (0), .int .i64 (0), .int .i64 (0), .int .i64 (0), .int .i64 (0), .int .i64 (0), .int .i64 (0), .int .i64 (0), .int .i64 (0), .int .i64 (0), .int .i64 (0)], .agg #[.slice none 0 0, .slice none 0 0, .slice none 0 0], .agg #[.int .i64 (0), .bool false, .int .u64 (0), .int .u64 (0), .int .i64 (0), .bool false, .int .u64 (0), .int .u64 (0), .int .i64 (0), .int .i64 (0), .int .i64 (0), .bool false]], []⟩ 12 (by kernel_rfl) (by kernel_rfl) (by kernel_rfl) (by kernel_rfl)) ?_
  intro W bh args ds gs mn gW hW hcnd _
  have dD : ∀ (j : Nat) t v, Tryz.f10.params[j]? = some t -> args[j]? = some v -> Value.okWide Tryz.prog W .any bh t v := gW
  have hW' := hW
  obtain ⟨p, q, hA0, hV, rfl, hfz, je⟩ := hW
  have hA : DataW.TrodAll enc Tryz.prog W 0 (fun _ => true) true Tryz.f10.params.toList args.toList ds p := hA0
  rw [Tryz.params10] at hA dD
  obtain ⟨v0, vs0, d0, ds0, p0, q0, hargs, rfl, rfl, h0, r0⟩ := trodAll_cons hA
  obtain ⟨v1, vs1, d1, ds1, p1, q1, rfl, rfl, rfl, h1, r1⟩ := trodAll_cons r0
  obtain ⟨v2, vs2, d2, ds2, p2, q2, rfl, rfl, rfl, h2, r2⟩ := trodAll_cons r1
  obtain ⟨rfl, rfl, rfl⟩ := trodAll_nil r2
  obtain rfl : args = #[v0, v1, v2] := by cases args; simp_all
  obtain ⟨rfl, rfl⟩ := trodVars_none hV
  have k0 := h0
  have lt0 : ∀ x ∈ p0, x.block < W.heap.size := by obtain ⟨m, hm⟩ := k0; exact DataW.trod_lt m _ _ _ hm
  obtain ⟨c0, rfl, _⟩ := okWide_struct Tryz.underlying26 (dD 0 26 v0 rfl rfl)
  obtain ⟨a0, e0, w0⟩ : ∃ a : Zau, RepL (fun b => b < W.heap.size) W ZcO (Zau.c a) c0.toList /\ Zau.ok a := by obtain ⟨m, hm⟩ := h0; exact Zwy.get _ _ _ _ _ _ _ _ hm
  have k1 := h1
  have lt1 : ∀ x ∈ p1, x.block < W.heap.size := by obtain ⟨m, hm⟩ := k1; exact DataW.trod_lt m _ _ _ hm
  obtain ⟨c1, rfl, _⟩ := okWide_struct Tryz.underlying65 (dD 1 65 v1 rfl rfl)
  obtain ⟨a1, e1, w1⟩ : ∃ a : Zas, RepL (fun b => b < W.heap.size) W ZcO (Zas.c a) c1.toList /\ Zas.ok a := by obtain ⟨m, hm⟩ := h1; exact Zva.get _ _ _ _ _ _ _ _ hm
  have k2 := h2
  have lt2 : ∀ x ∈ p2, x.block < W.heap.size := by obtain ⟨m, hm⟩ := k2; exact DataW.trod_lt m _ _ _ hm
  obtain ⟨c2, rfl, _⟩ := okWide_struct Tryz.underlying34 (dD 2 34 v2 rfl rfl)
  obtain ⟨a2, e2, w2⟩ : ∃ a : ZaB, RepL (fun b => b < W.heap.size) W ZcO (ZaB.c a) c2.toList /\ ZaB.ok a := by obtain ⟨m, hm⟩ := h2; exact Zwz.get _ _ _ _ _ _ _ _ hm
  clear hA0 gW
  refine ((ZmE a0 a1 a2 true (Zwn a0 a1 a2 w0 w1 w2)).law (ZuP (Zyb e0) (ZuP (Zyb e1) (ZuP (Zyb e2) ZHN)))).mono fun e W' ⟨he, bel⟩ => ?_
  subst he
  exact ⟨_, rfl, _, _, _, [], _, [], hW', trodAll_mk1 (shut_bool Tryz.underlying4 _), (trodAll_cons_mk (Below.trod laidOut (by kernel_rfl) (of_decide_eq_true (by kernel_rfl)) k0 bel lt0) (trodAll_cons_mk (Below.trod laidOut (by kernel_rfl) (of_decide_eq_true (by kernel_rfl)) k1 bel lt1) (trodAll_cons_mk (Below.trod laidOut (by kernel_rfl) (of_decide_eq_true (by kernel_rfl)) k2 bel lt2) trodAll_mk0))), rfl, bel.frame _, fun h => by cases h⟩
theorem fact1 : (Rows.ringAloneRow.inPlace == Tryz.pinned.checked.prog.inPlace 10) = true := by kernel_rfl
theorem fact2 : (Rows.ringAloneRow.unfollowed == Tryz.pinned.checked.prog.unfollowed 10) = true := by kernel_rfl
theorem fact3 : (Rows.ringAloneRow.recurses == Tryz.pinned.checked.prog.recurses 10) = true := by kernel_rfl
theorem fact4 : (Rows.ringAloneRow.named == Tryz.pinned.checked.prog.varsNamed 10) = true := by kernel_rfl
theorem closed : joinedFacts Tryz.pinned.checked.prog 10 Tryz.f10 Rows.ringAloneSpec Rows.ringAloneRow = true := by
  unfold joinedFacts
  rw [fact1, fact2, fact3, fact4]
  kernel_rfl
theorem over : Rows.ringAloneRow.holds Tryz.pinned (OpenSpec.ofChange Rows.ringAloneSpec) :=
  OpenClaim.holds_of_wide 10 Tryz.f10 rfl rfl rfl rfl rfl rfl rfl ⟨rfl, rfl, rfl, rfl, rfl⟩ rfl rfl rfl rfl rfl (by kernel_rfl) Tryz.func10 closed
    (of_decide_eq_true (by kernel_rfl)) (by unfold Func.isWrapper; first | (rw [if_pos (by decide +kernel)]; kernel_rfl) | (rw [if_neg (by decide +kernel)]; exact ⟨rfl, rfl⟩))
    (fun os dm H enc _ => lifted os dm H enc)
theorem proved : Rows.RingAloneSaid := over
#print axioms proved
end Go.Proofs.YtdjfoojllbfcgaaGreat.ringAlone
