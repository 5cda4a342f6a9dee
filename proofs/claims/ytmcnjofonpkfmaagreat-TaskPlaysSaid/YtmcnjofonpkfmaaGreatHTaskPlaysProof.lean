/-
  What any task tells, at each value that it is handed, is what the document's task tells.
  No conditions.
-/
import Derived.Test.YtmcnjofonpkfmaaGreatRows
import Derived.Test.YtmcnjofonpkfmaaGreatHPlTk
import Derived.WalkKit
import Derived.ProofKit
import Derived.OpenShut
import Derived.ShutString
import Derived.ChangeOld
import Derived.Below
import Derived.Carry
namespace Go.Proofs.YtmcnjofonpkfmaaGreat.taskPlays
open Go.ChangeShapes Go.WideShapes Go.ChangeAt Go.RowKit
set_option linter.unusedVariables false
theorem own : ownKnob Tryz.prog.godebug = none := by kernel_rfl
theorem laidOut : laidOutB Tryz.prog = true := by kernel_rfl
set_option maxRecDepth 100000 in
theorem lifted (os : Os) (dO : os.Started) (H : Type) (enc : TypeId × Value -> H) :
    ReturnsInHanded {} Tryz.checked os 3 .any (Rows.taskPlaysSpec.pre6 enc Tryz.prog Tryz.f3 Rows.taskPlaysRow.domain false) (Rows.taskPlaysSpec.post enc Tryz.prog Tryz.f3 false true false false) := by
  refine returnsInHanded_of_change (C := Tryz.checked) own dO (by kernel_rfl) Tryz.func3
    (ChangeSpec.witness6 (enc := enc) (C := Tryz.checked) false ⟨#[], #[.agg #[.int .i64 (0), .int .i64 (0), .int .i64 (0), .int .i64 (0), .int .i64 (0), .int .u64 (0), .int .i64 (0), .int .i64 (0), .int .i64 (0), .int .i64 (0), .int .i64 (0), .int .i64 (0), .int .i64 (0), .int .i64 (0), .int .i64 (0), .int .i64 (0)], .slice none 0 0, .slice none 0 0], []⟩ 12 (by kernel_rfl) (by kernel_rfl) (by kernel_rfl) (by kernel_rfl)) ?_
  intro W bK args ds gs nV iO hW hcnd _
  have fE : ∀ (j : Nat) t v, Tryz.f3.params[j]? = some t -> args[j]? = some v -> Value.okWide Tryz.prog W .any bK t v := iO
  have hW' := hW
  obtain ⟨p, q, hA0, hV, rfl, hfz, iE⟩ := hW
  have hA : DataW.TrodAll enc Tryz.prog W 0 (λ_ => true) true Tryz.f3.params.toList args.toList ds p := hA0
  rw [Tryz.params3] at hA fE
  obtain ⟨v0, vs0, d0, ds0, p0, q0, CZ, rfl, rfl, h0, r0⟩ := trodAll_cons hA
  obtain ⟨v1, vs1, d1, ds1, p1, q1, rfl, rfl, rfl, h1, r1⟩ := trodAll_cons r0
  obtain ⟨v2, vs2, d2, ds2, p2, q2, rfl, rfl, rfl, h2, r2⟩ := trodAll_cons r1
  obtain ⟨rfl, rfl, rfl⟩ := trodAll_nil r2
  obtain rfl : args = #[v0, v1, v2] := by cases args; simp_all
  obtain ⟨rfl, rfl⟩ := trodVars_none hV
  have k0 := h0
  have lt0 : ∀ x ∈ p0, x.block < W.heap.size := by obtain ⟨m, hm⟩ := k0; exact DataW.trod_lt m _ _ _ hm
  obtain ⟨c0, rfl, _⟩ := okWide_struct Tryz.underlying26 (fE 0 26 v0 rfl rfl)
  obtain ⟨a0, e0, w0⟩ : ∃ a : p5, qk (λb => b < W.heap.size) W ru (p5.c a) c0.toList /\ p5.ok a := by obtain ⟨m, hm⟩ := h0; exact ZDC.get _ _ _ _ _ _ _ _ hm
  have k1 := h1
  have lt1 : ∀ x ∈ p1, x.block < W.heap.size := by obtain ⟨m, hm⟩ := k1; exact DataW.trod_lt m _ _ _ hm
  obtain ⟨lL, sl1, sc1, rfl⟩ := okWide_slice Tryz.underlying27 (fE 1 27 v1 rfl rfl)
  obtain ⟨a1, e1, w1⟩ : ∃ a : (List pD), qk (λb => b < W.heap.size) W ru ((wa 12 pD.c pD.d) a) [Value.slice lL sl1 sc1] /\ (zA pD.ok) a := by obtain ⟨m, hm⟩ := h1; exact (Zyu (sz := 12) (d := pD.d) Tryz.underlying27 (by kernel_rfl) (by decide) (λ_ => rfl) ZDD).get _ _ _ _ _ _ _ _ hm
  have k2 := h2
  have lt2 : ∀ x ∈ p2, x.block < W.heap.size := by obtain ⟨m, hm⟩ := k2; exact DataW.trod_lt m _ _ _ hm
  obtain ⟨iB, sl2, sc2, rfl⟩ := okWide_slice Tryz.underlying28 (fE 2 28 v2 rfl rfl)
  obtain ⟨a2, e2, w2⟩ : ∃ a : (List oM), qk (λb => b < W.heap.size) W ru ((wa 13 oM.c oM.d) a) [Value.slice iB sl2 sc2] /\ (zA oM.ok) a := by obtain ⟨m, hm⟩ := h2; exact (Zyu (sz := 13) (d := oM.d) Tryz.underlying28 (by kernel_rfl) (by decide) (λ_ => rfl) ZCh).get _ _ _ _ _ _ _ _ hm
  clear hA0 iO
  refine ((show yh _ _ _ _ from o0.ok (ZDn a0 a1 a2 w0 w1 w2)).law (ZBT (ZYA e0) (ZBT (ZPm e1 rfl) (ZBT (ZPm e2 rfl) ZYE)))).mono λe W' ⟨he, bel⟩ => ?_
  subst he
  exact ⟨_, rfl, _, _, _, [], _, [], hW', trodAll_mk1 (shut_bool Tryz.underlying4 _), (trodAll_cons_mk (Below.trod laidOut (by kernel_rfl) (of_decide_eq_true (by kernel_rfl)) k0 bel lt0) (trodAll_cons_mk (Below.trod laidOut (by kernel_rfl) (of_decide_eq_true (by kernel_rfl)) k1 bel lt1) (trodAll_cons_mk (Below.trod laidOut (by kernel_rfl) (of_decide_eq_true (by kernel_rfl)) k2 bel lt2) trodAll_mk0))), rfl, bel.frame _, λh => by cases h⟩
theorem fact1 : (Rows.taskPlaysRow.inPlace == Tryz.pinned.checked.prog.inPlace 3) = true := by kernel_rfl
theorem fact2 : (Rows.taskPlaysRow.unfollowed == Tryz.pinned.checked.prog.unfollowed 3) = true := by kernel_rfl
theorem fact3 : (Rows.taskPlaysRow.recurses == Tryz.pinned.checked.prog.recurses 3) = true := by kernel_rfl
theorem fact4 : (Rows.taskPlaysRow.named == Tryz.pinned.checked.prog.varsNamed 3) = true := by kernel_rfl
theorem fact5 : laidOutB Tryz.pinned.checked.prog = true := laidOut
theorem fact6 : mapsRowed Tryz.pinned.checked.prog = true := by kernel_rfl
theorem fact7 : Tryz.pinned.checked.prog.stopsHeard = true := by kernel_rfl
theorem fact8 : Tryz.pinned.checked.prog.mayEnter = true := by kernel_rfl
theorem fact9 : (Rows.taskPlaysRow.lifted == Tryz.pinned.checked.prog.liftsFinal) = true := by kernel_rfl
theorem fact10 : (Tryz.pinned.checked.prog.make == some Rows.taskPlaysRow.make) = true := by kernel_rfl
theorem closed : joinedFacts Tryz.pinned.checked.prog 3 Tryz.f3 Rows.taskPlaysSpec Rows.taskPlaysRow = true := by
  unfold joinedFacts
  rw [fact1, fact2, fact3, fact4, fact5, fact6, fact7, fact8, fact9, fact10]
  kernel_rfl
theorem over : Rows.taskPlaysRow.holds Tryz.pinned (OpenSpec.ofChange Rows.taskPlaysSpec) :=
  OpenClaim.holds_of_wide 3 Tryz.f3 rfl rfl rfl rfl rfl rfl rfl ⟨rfl, rfl, rfl, rfl, rfl⟩ rfl rfl rfl rfl rfl (by kernel_rfl) Tryz.func3 closed
    (of_decide_eq_true (by kernel_rfl)) (by unfold Func.isWrapper; first | (rw [if_pos (by decide +kernel)]; kernel_rfl) | (rw [if_neg (by decide +kernel)]; exact ⟨rfl, rfl⟩))
    (λos dO H enc _ => lifted os dO H enc)
theorem proved : Rows.TaskPlaysSaid := over
#print axioms proved
end Go.Proofs.YtmcnjofonpkfmaaGreat.taskPlays
