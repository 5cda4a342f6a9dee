/-
  when all inbound slots are full, just the one goes that the choice names, or nobody; whoever is among the first by a quota stays
  No conditions.
-/
import Derived.Test.YtmnloegcpaahcaaGreatRows
import Derived.Test.YtmnloegcpaahcaaGreatCPlOe
import Derived.WalkKit
import Derived.ProofKit
import Derived.OpenShut
import Derived.ShutString
import Derived.ChangeOld
import Derived.Below
import Derived.Carry
namespace Go.Proofs.YtmnloegcpaahcaaGreat.modelEvicts
open Go.ChangeShapes Go.WideShapes Go.ChangeAt Go.RowKit
set_option linter.unusedVariables false
theorem own : ownKnob Tryz.prog.godebug = none := by kernel_rfl
theorem laidOut : laidOutB Tryz.prog = true := by kernel_rfl
set_option maxRecDepth 100000 in
theorem lifted (os : Os) (cT : os.Started) (H : Type) (enc : TypeId × Value -> H) :
    ReturnsInHanded {} Tryz.checked os 7 .any (Rows.modelEvictsSpec.pre6 enc Tryz.prog Tryz.f7 Rows.modelEvictsRow.domain false) (Rows.modelEvictsSpec.post enc Tryz.prog Tryz.f7 false true false false) := by
  refine returnsInHanded_of_change (C := Tryz.checked) own cT (by kernel_rfl) Tryz.func7
    (ChangeSpec.witness6 (enc := enc) (C := Tryz.checked) false ⟨#[], #[.agg #[.int .i64 (0), .int .i64 (0), .int .i64 (0), .int .i64 (0), .int .i64 (0), .int .u64 (0), .int .i64 (0), .int .i64 (0), .int .i64 (0), .int .i64 (0), .int .i64 (0), .int .i64 (0), .int .i64 (0), .int .i64 (0), .int .i64 (0), .int .i64 (0)], .slice none 0 0, .agg #[.int .i64 (0), .bool false, .int .u64 (0), .int .u64 (0), .int .i64 (0), .bool false, .int .u64 (0), .int .u64 (0), .int .i64 (0), .int .i64 (0), .int .i64 (0), .bool false]], []⟩ 12 (by kernel_rfl) (by kernel_rfl) (by kernel_rfl) (by kernel_rfl)) ?_
  intro W bh args ds gs lh gA hW hcnd _
  have c9 : ∀ (j : Nat) t v, Tryz.f7.params[j]? = some t -> args[j]? = some v -> Value.okWide Tryz.prog W .any bh t v := gA
  have hW' := hW
  obtain ⟨p, q, hA0, hV, rfl, hfz, hnd⟩ := hW
  have hA : DataW.TrodAll enc Tryz.prog W 0 (fun _ => true) true Tryz.f7.params.toList args.toList ds p := hA0
  rw [Tryz.params7] at hA c9
  obtain ⟨v0, vs0, d0, ds0, p0, q0, hargs, rfl, rfl, h0, r0⟩ := trodAll_cons hA
  obtain ⟨v1, vs1, d1, ds1, p1, q1, rfl, rfl, rfl, h1, r1⟩ := trodAll_cons r0
  obtain ⟨v2, vs2, d2, ds2, p2, q2, rfl, rfl, rfl, h2, r2⟩ := trodAll_cons r1
  obtain ⟨rfl, rfl, rfl⟩ := trodAll_nil r2
  obtain rfl : args = #[v0, v1, v2] := by cases args; simp_all
  obtain ⟨rfl, rfl⟩ := trodVars_none hV
  have k0 := h0
  have lt0 : ∀ x ∈ p0, x.block < W.heap.size := by obtain ⟨m, hm⟩ := k0; exact DataW.trod_lt m _ _ _ hm
  obtain ⟨c0, rfl, _⟩ := okWide_struct Tryz.underlying26 (c9 0 26 v0 rfl rfl)
  obtain ⟨a0, e0, w0⟩ : ∃ a : Zav, RepL (fun b => b < W.heap.size) W Zdd (Zav.c a) c0.toList /\ Zav.ok a := by obtain ⟨m, hm⟩ := h0; exact ZwC.get _ _ _ _ _ _ _ _ hm
  have k1 := h1
  have lt1 : ∀ x ∈ p1, x.block < W.heap.size := by obtain ⟨m, hm⟩ := k1; exact DataW.trod_lt m _ _ _ hm
  obtain ⟨ix, sl1, sc1, rfl⟩ := okWide_slice Tryz.underlying88 (c9 1 88 v1 rfl rfl)
  obtain ⟨a1, e1, w1⟩ : ∃ a : (List Zar), RepL (fun b => b < W.heap.size) W Zdd ((cLs 12 Zar.c Zar.d) a) [Value.slice ix sl1 sc1] /\ (okL Zar.ok) a := by obtain ⟨m, hm⟩ := h1; exact (ZGd (sz := 12) (d := Zar.d) Tryz.underlying88 (by kernel_rfl) (by decide) (fun _ => rfl) Zrt).get _ _ _ _ _ _ _ _ hm
  have k2 := h2
  have lt2 : ∀ x ∈ p2, x.block < W.heap.size := by obtain ⟨m, hm⟩ := k2; exact DataW.trod_lt m _ _ _ hm
  obtain ⟨c2, rfl, _⟩ := okWide_struct Tryz.underlying34 (c9 2 34 v2 rfl rfl)
  obtain ⟨a2, e2, w2⟩ : ∃ a : Zar, RepL (fun b => b < W.heap.size) W Zdd (Zar.c a) c2.toList /\ Zar.ok a := by obtain ⟨m, hm⟩ := h2; exact Zrt.get _ _ _ _ _ _ _ _ hm
  clear hA0 gA
  refine ((Zmd a0 a1 a2 true (ZtQ a0 a1 a2 w0 w1 w2)).law (Zva (ZCF e0) (Zva (ZIh e1 rfl) (Zva (ZCF e2) ZIl)))).mono fun e W' ⟨he, bel⟩ => ?_
  subst he
  exact ⟨_, rfl, _, _, _, [], _, [], hW', trodAll_mk1 (shut_bool Tryz.underlying4 _), (trodAll_cons_mk (Below.trod laidOut (by kernel_rfl) (of_decide_eq_true (by kernel_rfl)) k0 bel lt0) (trodAll_cons_mk (Below.trod laidOut (by kernel_rfl) (of_decide_eq_true (by kernel_rfl)) k1 bel lt1) (trodAll_cons_mk (Below.trod laidOut (by kernel_rfl) (of_decide_eq_true (by kernel_rfl)) k2 bel lt2) trodAll_mk0))), rfl, bel.frame _, fun h => by cases h⟩
theorem fact1 : (Rows.modelEvictsRow.inPlace == Tryz.pinned.checked.prog.inPlace 7) = true := by kernel_rfl
theorem fact2 : (Rows.modelEvictsRow.unfollowed == Tryz.pinned.checked.prog.unfollowed 7) = true := by kernel_rfl
theorem fact3 : (Rows.modelEvictsRow.recurses == Tryz.pinned.checked.prog.recurses 7) = true := by kernel_rfl
theorem fact4 : (Rows.modelEvictsRow.named == Tryz.pinned.checked.prog.varsNamed 7) = true := by kernel_rfl
theorem closed : joinedFacts Tryz.pinned.checked.prog 7 Tryz.f7 Rows.modelEvictsSpec Rows.modelEvictsRow = true := by
  unfold joinedFacts
  rw [fact1, fact2, fact3, fact4]
  kernel_rfl
theorem over : Rows.modelEvictsRow.holds Tryz.pinned (OpenSpec.ofChange Rows.modelEvictsSpec) :=
  OpenClaim.holds_of_wide 7 Tryz.f7 rfl rfl rfl rfl rfl rfl rfl ⟨rfl, rfl, rfl, rfl, rfl⟩ rfl rfl rfl rfl rfl (by kernel_rfl) Tryz.func7 closed
    (of_decide_eq_true (by kernel_rfl)) (by unfold Func.isWrapper; first | (rw [if_pos (by decide +kernel)]; kernel_rfl) | (rw [if_neg (by decide +kernel)]; exact ⟨rfl, rfl⟩))
    (fun os cT H enc _ => lifted os cT H enc)
theorem proved : Rows.ModelEvictsSaid := over
#print axioms proved
end Go.Proofs.YtmnloegcpaahcaaGreat.modelEvicts
