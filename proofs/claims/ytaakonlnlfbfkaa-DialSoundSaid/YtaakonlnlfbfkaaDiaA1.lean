/-
  Functions and their contracts.
  WRITTEN BY A PROGRAM OF MY OWN (wip/gen/am.py).
-/
import Derived.Test.YtaakonlnlfbfkaaDiaA0
namespace Go.Proofs.Ytaakonlnlfbfkaa
open Go.RowKit Go.Lib Go.Shelf
set_option linter.unusedVariables false
set_option maxRecDepth 100000
def g_slices_Compact_api_Net_api_Net_c1  (kg_slices_Compact_api_Net_api_Net_c0 : Int → (List T_api_Net) → Option (List T_api_Net)) : Nat → Int → Nat → Nat → Nat → Int → (List T_api_Net) → Option (List T_api_Net)
  | 0, _, _, _, _, _, _ => none
  | fu + 1, v3, vo4, vl4, vn4, v5, w100000 =>
    bif (decide (v5 < ((vl4 : Nat) : Int))) then
      need (0 ≤ v5 ∧ v5 < ((vl4 : Nat) : Int)) <|
      need ((vo4 + v5.toNat) < w100000.length) <|
      need (0 ≤ (sub64 v5 (1 : Int)) ∧ (sub64 v5 (1 : Int)) < ((vl4 : Nat) : Int)) <|
      need ((vo4 + (sub64 v5 (1 : Int)).toNat) < w100000.length) <|
      bif (!(decide ((w100000.getD (vo4 + v5.toNat) T_api_Net.d) = (w100000.getD (vo4 + (sub64 v5 (1 : Int)).toNat) T_api_Net.d)))) then
        need (0 ≤ v3 ∧ v3 < ((w100000.length : Nat) : Int)) <|
        g_slices_Compact_api_Net_api_Net_c1  kg_slices_Compact_api_Net_api_Net_c0 fu (add64 v3 (1 : Int)) vo4 vl4 vn4 (add64 v5 (1 : Int)) (w100000.set v3.toNat (w100000.getD (vo4 + v5.toNat) T_api_Net.d))
      else
        g_slices_Compact_api_Net_api_Net_c1  kg_slices_Compact_api_Net_api_Net_c0 fu v3 vo4 vl4 vn4 (add64 v5 (1 : Int)) w100000
    else
      need (0 ≤ v3 ∧ v3 ≤ ((w100000.length : Nat) : Int) ∧ ((w100000.length : Nat) : Int) ≤ ((w100000.length : Nat) : Int)) <|
      need (v3.toNat + (w100000.length - v3.toNat) ≤ w100000.length) <|
      need (0 ≤ (0 : Int) ∧ (0 : Int) ≤ v3 ∧ v3 ≤ ((w100000.length : Nat) : Int)) <|
      need (v3.toNat ≤ (clearL w100000 v3.toNat (w100000.length - v3.toNat) T_api_Net.d).length) <|
      some ((clearL w100000 v3.toNat (w100000.length - v3.toNat) T_api_Net.d).take v3.toNat)

theorem g_slices_Compact_api_Net_api_Net_c1_ok (S0 : Nat → Prop) (w0 : Start)  (kg_slices_Compact_api_Net_api_Net_c0 : Int → (List T_api_Net) → Option (List T_api_Net)) (hg_slices_Compact_api_Net_api_Net_c0 : ∀ (v3_ : Int) (w100000_ : (List T_api_Net)) (r : (List T_api_Net)), kg_slices_Compact_api_Net_api_Net_c0 v3_ w100000_ = some r → Good Try.prog 61 S0 w0 (bodyPost Try.prog Try.f170 (HPost S0 w0 [(99999, .rows 81 4 r.length (rowsOf T_api_Net.c T_api_Net.d r))] (.one (.osl 99999 r.length)))) (at_ [1, 1, 0, 1, 0] (bodyOf Try.f170)) ⟨[(0, .one (.osl 100000 w100000_.length)), (3, .one (.lit (.int .i64 v3_)))], [(100000, .rows 81 4 w100000_.length (rowsOf T_api_Net.c T_api_Net.d w100000_))]⟩) : ∀ (fu : Nat) (v3 : Int) (vo4 : Nat) (vl4 : Nat) (vn4 : Nat) (v5 : Int) (w100000 : (List T_api_Net)) (r : (List T_api_Net)), g_slices_Compact_api_Net_api_Net_c1  kg_slices_Compact_api_Net_api_Net_c0 fu v3 vo4 vl4 vn4 v5 w100000 = some r → Good Try.prog 61 S0 w0 (bodyPost Try.prog Try.f170 (HPost S0 w0 [(99999, .rows 81 4 r.length (rowsOf T_api_Net.c T_api_Net.d r))] (.one (.osl 99999 r.length)))) (at_ [1, 1, 0, 1, 0, 0, 1, 0, 0, 1, 0, 1, 0, 1, 0] (bodyOf Try.f170)) ⟨[(0, .one (.osl 100000 w100000.length)), (3, .one (.lit (.int .i64 v3))), (4, .one (.osub 100000 4 vo4 vl4 vn4)), (5, .one (.lit (.int .i64 v5)))], [(100000, .rows 81 4 w100000.length (rowsOf T_api_Net.c T_api_Net.d w100000))]⟩ := by
  intro fu
  induction fu with
  | zero =>
    intro v3 vo4 vl4 vn4 v5 w100000 r hf
    simp [g_slices_Compact_api_Net_api_Net_c1] at hf
  | succ fu ih =>
    intro v3 vo4 vl4 vn4 v5 w100000 r hf
    unfold g_slices_Compact_api_Net_api_Net_c1 at hf
    rcases br_some hf with ⟨h7, hf⟩ | ⟨h7, hf⟩
    · obtain ⟨o8, hf⟩ := need_some hf
      obtain ⟨o9, hf⟩ := need_some hf
      obtain ⟨o10, hf⟩ := need_some hf
      obtain ⟨o11, hf⟩ := need_some hf
      rcases br_some hf with ⟨h12, hf⟩ | ⟨h12, hf⟩
      · obtain ⟨o13, hf⟩ := need_some hf
        exact toK_good allOk HPost.ends 17 _ _ _ _ [⟨[], [], [], [], [], [], []⟩, ⟨[(9, .r (.one (.lit (.bool (!(decide ((w100000.getD (vo4 + v5.toNat) T_api_Net.d) = (w100000.getD (vo4 + (sub64 v5 (1 : Int)).toNat) T_api_Net.d))))))) [])], [], [], [[], [], [0, 1], [2, 0, 1], [], [], [5], [4, 6, 5], [7, 4, 6, 5], [3, 2, 0, 1, 8, 7, 4, 6, 5]], [], [], []⟩, ⟨[(7, .c (w100000.set v3.toNat (w100000.getD (vo4 + v5.toNat) T_api_Net.d)).length (rowsOf T_api_Net.c T_api_Net.d (w100000.set v3.toNat (w100000.getD (vo4 + v5.toNat) T_api_Net.d))))], [], [], [], [], [], []⟩, ⟨[], [], [], [], [], [], []⟩, ⟨[], [], [], [], [], [], []⟩] [true, true] ⟨[], [], [], [(100000, ((w100000.set v3.toNat (w100000.getD (vo4 + v5.toNat) T_api_Net.d)).length))], [], [0, 3, 4, 5], [100000], []⟩ [(decide (v5 < ((vl4 : Nat) : Int))) = true, 0 ≤ v5 ∧ v5 < ((vl4 : Nat) : Int), (vo4 + v5.toNat) < w100000.length, 0 ≤ (sub64 v5 (1 : Int)) ∧ (sub64 v5 (1 : Int)) < ((vl4 : Nat) : Int), (vo4 + (sub64 v5 (1 : Int)).toNat) < w100000.length, ∀ w, (do eqGuard .neq 81 (.tmp 38) (.tmp 43) (.agg #[.bool (((w100000.getD (vo4 + v5.toNat) T_api_Net.d).fAddr).fV6), .int .u64 (((w100000.getD (vo4 + v5.toNat) T_api_Net.d).fAddr).fHi), .int .u64 (((w100000.getD (vo4 + v5.toNat) T_api_Net.d).fAddr).fLo), .int .i64 ((w100000.getD (vo4 + v5.toNat) T_api_Net.d).fBits)]) (.agg #[.bool (((w100000.getD (vo4 + (sub64 v5 (1 : Int)).toNat) T_api_Net.d).fAddr).fV6), .int .u64 (((w100000.getD (vo4 + (sub64 v5 (1 : Int)).toNat) T_api_Net.d).fAddr).fHi), .int .u64 (((w100000.getD (vo4 + (sub64 v5 (1 : Int)).toNat) T_api_Net.d).fAddr).fLo), .int .i64 ((w100000.getD (vo4 + (sub64 v5 (1 : Int)).toNat) T_api_Net.d).fBits)]); binOp .neq 81 (.agg #[.bool (((w100000.getD (vo4 + v5.toNat) T_api_Net.d).fAddr).fV6), .int .u64 (((w100000.getD (vo4 + v5.toNat) T_api_Net.d).fAddr).fHi), .int .u64 (((w100000.getD (vo4 + v5.toNat) T_api_Net.d).fAddr).fLo), .int .i64 ((w100000.getD (vo4 + v5.toNat) T_api_Net.d).fBits)]) (.agg #[.bool (((w100000.getD (vo4 + (sub64 v5 (1 : Int)).toNat) T_api_Net.d).fAddr).fV6), .int .u64 (((w100000.getD (vo4 + (sub64 v5 (1 : Int)).toNat) T_api_Net.d).fAddr).fHi), .int .u64 (((w100000.getD (vo4 + (sub64 v5 (1 : Int)).toNat) T_api_Net.d).fAddr).fLo), .int .i64 ((w100000.getD (vo4 + (sub64 v5 (1 : Int)).toNat) T_api_Net.d).fBits)]) : Sem Value).run Try.prog w = .ok (.bool (!(decide ((w100000.getD (vo4 + v5.toNat) T_api_Net.d) = (w100000.getD (vo4 + (sub64 v5 (1 : Int)).toNat) T_api_Net.d))))) w, (!(decide ((w100000.getD (vo4 + v5.toNat) T_api_Net.d) = (w100000.getD (vo4 + (sub64 v5 (1 : Int)).toNat) T_api_Net.d)))) = true, 0 ≤ v5 ∧ v5 < ((vl4 : Nat) : Int), (vo4 + v5.toNat) < w100000.length, 0 ≤ v3 ∧ v3 < ((w100000.length : Nat) : Int), (w100000.set v3.toNat (w100000.getD (vo4 + v5.toNat) T_api_Net.d)).length = w100000.length, v3.toNat < w100000.length, ExtU 4 w100000.length (rowsOf T_api_Net.c T_api_Net.d w100000) v3.toNat 0 (T_api_Net.c (w100000.getD (vo4 + v5.toNat) T_api_Net.d)) (rowsOf T_api_Net.c T_api_Net.d (w100000.set v3.toNat (w100000.getD (vo4 + v5.toNat) T_api_Net.d))), (w100000.set v3.toNat (w100000.getD (vo4 + v5.toNat) T_api_Net.d)).length = (w100000.set v3.toNat (w100000.getD (vo4 + v5.toNat) T_api_Net.d)).length] (by kernel_rfl) ⟨h7, o8, o9, o10, o11, (neq_T_api_Net (w100000.getD (vo4 + v5.toNat) T_api_Net.d) (w100000.getD (vo4 + (sub64 v5 (1 : Int)).toNat) T_api_Net.d) _ _), h12, o8, o9, o13, List.length_set, (ltOf o13), (ext_set _ _ _ rfl), rfl, trivial⟩ (ih (add64 v3 (1 : Int)) vo4 vl4 vn4 (add64 v5 (1 : Int)) (w100000.set v3.toNat (w100000.getD (vo4 + v5.toNat) T_api_Net.d)) r hf)
      · exact toK_good allOk HPost.ends 15 _ _ _ _ [⟨[], [], [], [], [], [], []⟩, ⟨[(9, .r (.one (.lit (.bool (!(decide ((w100000.getD (vo4 + v5.toNat) T_api_Net.d) = (w100000.getD (vo4 + (sub64 v5 (1 : Int)).toNat) T_api_Net.d))))))) [])], [], [], [[], [], [0, 1], [2, 0, 1], [], [], [5], [4, 6, 5], [7, 4, 6, 5], [3, 2, 0, 1, 8, 7, 4, 6, 5]], [], [], []⟩, ⟨[], [], [], [], [], [], []⟩] [true, false] ⟨[], [], [], [], [], [0, 3, 4, 5], [100000], []⟩ [(decide (v5 < ((vl4 : Nat) : Int))) = true, 0 ≤ v5 ∧ v5 < ((vl4 : Nat) : Int), (vo4 + v5.toNat) < w100000.length, 0 ≤ (sub64 v5 (1 : Int)) ∧ (sub64 v5 (1 : Int)) < ((vl4 : Nat) : Int), (vo4 + (sub64 v5 (1 : Int)).toNat) < w100000.length, ∀ w, (do eqGuard .neq 81 (.tmp 38) (.tmp 43) (.agg #[.bool (((w100000.getD (vo4 + v5.toNat) T_api_Net.d).fAddr).fV6), .int .u64 (((w100000.getD (vo4 + v5.toNat) T_api_Net.d).fAddr).fHi), .int .u64 (((w100000.getD (vo4 + v5.toNat) T_api_Net.d).fAddr).fLo), .int .i64 ((w100000.getD (vo4 + v5.toNat) T_api_Net.d).fBits)]) (.agg #[.bool (((w100000.getD (vo4 + (sub64 v5 (1 : Int)).toNat) T_api_Net.d).fAddr).fV6), .int .u64 (((w100000.getD (vo4 + (sub64 v5 (1 : Int)).toNat) T_api_Net.d).fAddr).fHi), .int .u64 (((w100000.getD (vo4 + (sub64 v5 (1 : Int)).toNat) T_api_Net.d).fAddr).fLo), .int .i64 ((w100000.getD (vo4 + (sub64 v5 (1 : Int)).toNat) T_api_Net.d).fBits)]); binOp .neq 81 (.agg #[.bool (((w100000.getD (vo4 + v5.toNat) T_api_Net.d).fAddr).fV6), .int .u64 (((w100000.getD (vo4 + v5.toNat) T_api_Net.d).fAddr).fHi), .int .u64 (((w100000.getD (vo4 + v5.toNat) T_api_Net.d).fAddr).fLo), .int .i64 ((w100000.getD (vo4 + v5.toNat) T_api_Net.d).fBits)]) (.agg #[.bool (((w100000.getD (vo4 + (sub64 v5 (1 : Int)).toNat) T_api_Net.d).fAddr).fV6), .int .u64 (((w100000.getD (vo4 + (sub64 v5 (1 : Int)).toNat) T_api_Net.d).fAddr).fHi), .int .u64 (((w100000.getD (vo4 + (sub64 v5 (1 : Int)).toNat) T_api_Net.d).fAddr).fLo), .int .i64 ((w100000.getD (vo4 + (sub64 v5 (1 : Int)).toNat) T_api_Net.d).fBits)]) : Sem Value).run Try.prog w = .ok (.bool (!(decide ((w100000.getD (vo4 + v5.toNat) T_api_Net.d) = (w100000.getD (vo4 + (sub64 v5 (1 : Int)).toNat) T_api_Net.d))))) w, (!(decide ((w100000.getD (vo4 + v5.toNat) T_api_Net.d) = (w100000.getD (vo4 + (sub64 v5 (1 : Int)).toNat) T_api_Net.d)))) = false] (by kernel_rfl) ⟨h7, o8, o9, o10, o11, (neq_T_api_Net (w100000.getD (vo4 + v5.toNat) T_api_Net.d) (w100000.getD (vo4 + (sub64 v5 (1 : Int)).toNat) T_api_Net.d) _ _), h12, trivial⟩ (ih v3 vo4 vl4 vn4 (add64 v5 (1 : Int)) w100000 r hf)
    · obtain ⟨o14, hf⟩ := need_some hf
      obtain ⟨o15, hf⟩ := need_some hf
      obtain ⟨o16, hf⟩ := need_some hf
      obtain ⟨o17, hf⟩ := need_some hf
      replace hf := Option.some.inj hf
      subst hf
      exact toEndH_good allOk 10 _ _ [⟨[], [], [], [], [], [], []⟩, ⟨[(3, .c (clearL w100000 v3.toNat (w100000.length - v3.toNat) T_api_Net.d).length (rowsOf T_api_Net.c T_api_Net.d (clearL w100000 v3.toNat (w100000.length - v3.toNat) T_api_Net.d)))], [], [], [], [], [], []⟩, ⟨[(3, .c ((clearL w100000 v3.toNat (w100000.length - v3.toNat) T_api_Net.d).take v3.toNat).length (rowsOf T_api_Net.c T_api_Net.d ((clearL w100000 v3.toNat (w100000.length - v3.toNat) T_api_Net.d).take v3.toNat)))], [], [], [], [], [], []⟩] [false] ⟨[], [], [], [], [], [2], [2], [(2, 99999)]⟩ [(decide (v5 < ((vl4 : Nat) : Int))) = false, 0 ≤ v3 ∧ v3 ≤ ((w100000.length : Nat) : Int) ∧ ((w100000.length : Nat) : Int) ≤ ((w100000.length : Nat) : Int), (clearL w100000 v3.toNat (w100000.length - v3.toNat) T_api_Net.d).length = w100000.length, ∀ i j, i < w100000.length → j < 4 → (i < v3.toNat ∨ v3.toNat + (w100000.length - v3.toNat) ≤ i) → rowsOf T_api_Net.c T_api_Net.d (clearL w100000 v3.toNat (w100000.length - v3.toNat) T_api_Net.d) i j = rowsOf T_api_Net.c T_api_Net.d w100000 i j, ∀ i j, i < (w100000.length - v3.toNat) → j < 4 → orNil (([.lit (.bool false), .lit (.int .u64 (0)), .lit (.int .u64 (0)), .lit (.int .i64 (0))] : List C).getD j .junk) (rowsOf T_api_Net.c T_api_Net.d (clearL w100000 v3.toNat (w100000.length - v3.toNat) T_api_Net.d) (v3.toNat + i) j), 0 ≤ (0 : Int) ∧ (0 : Int) ≤ v3 ∧ v3 ≤ ((w100000.length : Nat) : Int), 0 = 0, ((clearL w100000 v3.toNat (w100000.length - v3.toNat) T_api_Net.d).take v3.toNat).length = v3.toNat, ∀ i j, i < v3.toNat → j < 4 → rowsOf T_api_Net.c T_api_Net.d ((clearL w100000 v3.toNat (w100000.length - v3.toNat) T_api_Net.d).take v3.toNat) i j = rowsOf T_api_Net.c T_api_Net.d (clearL w100000 v3.toNat (w100000.length - v3.toNat) T_api_Net.d) i j] (by kernel_rfl) ⟨h7, o14, (clear_len _ _ _ _ o15), (clear_old _ _ _ o15), (clear_new _ _ _ o15 (fun j hj => .inl rfl)), o16, rfl, (shr_len _ _ o17), (shr_rows _ _), trivial⟩

def g_slices_Compact_api_Net_api_Net_c0   : Nat → Int → (List T_api_Net) → Option (List T_api_Net)
  | 0, _, _ => none
  | fu + 1, v3, w100000 =>
    bif (decide (v3 < ((w100000.length : Nat) : Int))) then
      need (0 ≤ v3 ∧ v3 < ((w100000.length : Nat) : Int)) <|
      need (0 ≤ (sub64 v3 (1 : Int)) ∧ (sub64 v3 (1 : Int)) < ((w100000.length : Nat) : Int)) <|
      bif (decide ((w100000.getD v3.toNat T_api_Net.d) = (w100000.getD ((sub64 v3 (1 : Int)).toNat) T_api_Net.d))) then
        need (0 ≤ v3 ∧ v3 ≤ ((w100000.length : Nat) : Int) ∧ ((w100000.length : Nat) : Int) ≤ ((w100000.length : Nat) : Int)) <|
        g_slices_Compact_api_Net_api_Net_c1  (g_slices_Compact_api_Net_api_Net_c0   fu) 1000000 v3 v3.toNat (w100000.length - v3.toNat) w100000.length (1 : Int) w100000
      else
        g_slices_Compact_api_Net_api_Net_c0   fu (add64 v3 (1 : Int)) w100000
    else
      some w100000

theorem g_slices_Compact_api_Net_api_Net_c0_ok (S0 : Nat → Prop) (w0 : Start)   : ∀ (fu : Nat) (v3 : Int) (w100000 : (List T_api_Net)) (r : (List T_api_Net)), g_slices_Compact_api_Net_api_Net_c0   fu v3 w100000 = some r → Good Try.prog 61 S0 w0 (bodyPost Try.prog Try.f170 (HPost S0 w0 [(99999, .rows 81 4 r.length (rowsOf T_api_Net.c T_api_Net.d r))] (.one (.osl 99999 r.length)))) (at_ [1, 1, 0, 1, 0] (bodyOf Try.f170)) ⟨[(0, .one (.osl 100000 w100000.length)), (3, .one (.lit (.int .i64 v3)))], [(100000, .rows 81 4 w100000.length (rowsOf T_api_Net.c T_api_Net.d w100000))]⟩ := by
  intro fu
  induction fu with
  | zero =>
    intro v3 w100000 r hf
    simp [g_slices_Compact_api_Net_api_Net_c0] at hf
  | succ fu ih =>
    intro v3 w100000 r hf
    unfold g_slices_Compact_api_Net_api_Net_c0 at hf
    rcases br_some hf with ⟨h2, hf⟩ | ⟨h2, hf⟩
    · obtain ⟨o3, hf⟩ := need_some hf
      obtain ⟨o4, hf⟩ := need_some hf
      rcases br_some hf with ⟨h5, hf⟩ | ⟨h5, hf⟩
      · obtain ⟨o6, hf⟩ := need_some hf
        exact toK_good allOk HPost.ends 17 _ _ _ _ [⟨[], [], [], [], [], [], []⟩, ⟨[(9, .r (.one (.lit (.bool (decide ((w100000.getD v3.toNat T_api_Net.d) = (w100000.getD ((sub64 v3 (1 : Int)).toNat) T_api_Net.d)))))) [])], [], [], [[], [], [0, 1], [2, 0, 1], [], [], [5], [4, 6, 5], [7, 4, 6, 5], [3, 2, 0, 1, 8, 7, 4, 6, 5]], [], [], []⟩, ⟨[], [], [], [], [], [], []⟩, ⟨[], [], [], [], [], [], []⟩] [true, true] ⟨[], [], [], [], [], [0, 3, 4, 5], [100000], []⟩ [(decide (v3 < ((w100000.length : Nat) : Int))) = true, 0 ≤ v3 ∧ v3 < ((w100000.length : Nat) : Int), v3.toNat < w100000.length, 0 ≤ (sub64 v3 (1 : Int)) ∧ (sub64 v3 (1 : Int)) < ((w100000.length : Nat) : Int), (sub64 v3 (1 : Int)).toNat < w100000.length, ∀ w, (do eqGuard .eql 81 (.tmp 19) (.tmp 24) (.agg #[.bool (((w100000.getD v3.toNat T_api_Net.d).fAddr).fV6), .int .u64 (((w100000.getD v3.toNat T_api_Net.d).fAddr).fHi), .int .u64 (((w100000.getD v3.toNat T_api_Net.d).fAddr).fLo), .int .i64 ((w100000.getD v3.toNat T_api_Net.d).fBits)]) (.agg #[.bool (((w100000.getD ((sub64 v3 (1 : Int)).toNat) T_api_Net.d).fAddr).fV6), .int .u64 (((w100000.getD ((sub64 v3 (1 : Int)).toNat) T_api_Net.d).fAddr).fHi), .int .u64 (((w100000.getD ((sub64 v3 (1 : Int)).toNat) T_api_Net.d).fAddr).fLo), .int .i64 ((w100000.getD ((sub64 v3 (1 : Int)).toNat) T_api_Net.d).fBits)]); binOp .eql 81 (.agg #[.bool (((w100000.getD v3.toNat T_api_Net.d).fAddr).fV6), .int .u64 (((w100000.getD v3.toNat T_api_Net.d).fAddr).fHi), .int .u64 (((w100000.getD v3.toNat T_api_Net.d).fAddr).fLo), .int .i64 ((w100000.getD v3.toNat T_api_Net.d).fBits)]) (.agg #[.bool (((w100000.getD ((sub64 v3 (1 : Int)).toNat) T_api_Net.d).fAddr).fV6), .int .u64 (((w100000.getD ((sub64 v3 (1 : Int)).toNat) T_api_Net.d).fAddr).fHi), .int .u64 (((w100000.getD ((sub64 v3 (1 : Int)).toNat) T_api_Net.d).fAddr).fLo), .int .i64 ((w100000.getD ((sub64 v3 (1 : Int)).toNat) T_api_Net.d).fBits)]) : Sem Value).run Try.prog w = .ok (.bool (decide ((w100000.getD v3.toNat T_api_Net.d) = (w100000.getD ((sub64 v3 (1 : Int)).toNat) T_api_Net.d)))) w, (decide ((w100000.getD v3.toNat T_api_Net.d) = (w100000.getD ((sub64 v3 (1 : Int)).toNat) T_api_Net.d))) = true, 0 ≤ v3 ∧ v3 ≤ ((w100000.length : Nat) : Int) ∧ ((w100000.length : Nat) : Int) ≤ ((w100000.length : Nat) : Int)] (by kernel_rfl) ⟨h2, o3, (ltOf o3), o4, (ltOf o4), (eql_T_api_Net (w100000.getD v3.toNat T_api_Net.d) (w100000.getD ((sub64 v3 (1 : Int)).toNat) T_api_Net.d) _ _), h5, o6, trivial⟩ (g_slices_Compact_api_Net_api_Net_c1_ok S0 w0  (g_slices_Compact_api_Net_api_Net_c0   fu) ih 1000000 v3 v3.toNat (w100000.length - v3.toNat) w100000.length (1 : Int) w100000 r hf)
      · exact toK_good allOk HPost.ends 15 _ _ _ _ [⟨[], [], [], [], [], [], []⟩, ⟨[(9, .r (.one (.lit (.bool (decide ((w100000.getD v3.toNat T_api_Net.d) = (w100000.getD ((sub64 v3 (1 : Int)).toNat) T_api_Net.d)))))) [])], [], [], [[], [], [0, 1], [2, 0, 1], [], [], [5], [4, 6, 5], [7, 4, 6, 5], [3, 2, 0, 1, 8, 7, 4, 6, 5]], [], [], []⟩, ⟨[], [], [], [], [], [], []⟩] [true, false] ⟨[], [], [], [], [], [0, 3], [100000], []⟩ [(decide (v3 < ((w100000.length : Nat) : Int))) = true, 0 ≤ v3 ∧ v3 < ((w100000.length : Nat) : Int), v3.toNat < w100000.length, 0 ≤ (sub64 v3 (1 : Int)) ∧ (sub64 v3 (1 : Int)) < ((w100000.length : Nat) : Int), (sub64 v3 (1 : Int)).toNat < w100000.length, ∀ w, (do eqGuard .eql 81 (.tmp 19) (.tmp 24) (.agg #[.bool (((w100000.getD v3.toNat T_api_Net.d).fAddr).fV6), .int .u64 (((w100000.getD v3.toNat T_api_Net.d).fAddr).fHi), .int .u64 (((w100000.getD v3.toNat T_api_Net.d).fAddr).fLo), .int .i64 ((w100000.getD v3.toNat T_api_Net.d).fBits)]) (.agg #[.bool (((w100000.getD ((sub64 v3 (1 : Int)).toNat) T_api_Net.d).fAddr).fV6), .int .u64 (((w100000.getD ((sub64 v3 (1 : Int)).toNat) T_api_Net.d).fAddr).fHi), .int .u64 (((w100000.getD ((sub64 v3 (1 : Int)).toNat) T_api_Net.d).fAddr).fLo), .int .i64 ((w100000.getD ((sub64 v3 (1 : Int)).toNat) T_api_Net.d).fBits)]); binOp .eql 81 (.agg #[.bool (((w100000.getD v3.toNat T_api_Net.d).fAddr).fV6), .int .u64 (((w100000.getD v3.toNat T_api_Net.d).fAddr).fHi), .int .u64 (((w100000.getD v3.toNat T_api_Net.d).fAddr).fLo), .int .i64 ((w100000.getD v3.toNat T_api_Net.d).fBits)]) (.agg #[.bool (((w100000.getD ((sub64 v3 (1 : Int)).toNat) T_api_Net.d).fAddr).fV6), .int .u64 (((w100000.getD ((sub64 v3 (1 : Int)).toNat) T_api_Net.d).fAddr).fHi), .int .u64 (((w100000.getD ((sub64 v3 (1 : Int)).toNat) T_api_Net.d).fAddr).fLo), .int .i64 ((w100000.getD ((sub64 v3 (1 : Int)).toNat) T_api_Net.d).fBits)]) : Sem Value).run Try.prog w = .ok (.bool (decide ((w100000.getD v3.toNat T_api_Net.d) = (w100000.getD ((sub64 v3 (1 : Int)).toNat) T_api_Net.d)))) w, (decide ((w100000.getD v3.toNat T_api_Net.d) = (w100000.getD ((sub64 v3 (1 : Int)).toNat) T_api_Net.d))) = false] (by kernel_rfl) ⟨h2, o3, (ltOf o3), o4, (ltOf o4), (eql_T_api_Net (w100000.getD v3.toNat T_api_Net.d) (w100000.getD ((sub64 v3 (1 : Int)).toNat) T_api_Net.d) _ _), h5, trivial⟩ (ih (add64 v3 (1 : Int)) w100000 r hf)
    · replace hf := Option.some.inj hf
      subst hf
      exact toEndH_good allOk 8 _ _ [⟨[], [], [], [], [], [], []⟩, ⟨[], [], [], [], [], [], []⟩] [false] ⟨[], [], [], [], [], [2], [100000], [(100000, 99999)]⟩ [(decide (v3 < ((w100000.length : Nat) : Int))) = false] (by kernel_rfl) ⟨h2, trivial⟩

/-- slices.Compact[[]doorman/api.Net,doorman/api.Net] -/
def g_slices_Compact_api_Net_api_Net (a0 : (List T_api_Net)) : Option (List T_api_Net) :=
  bif (decide (((a0.length : Nat) : Int) < (2 : Int))) then
    some a0
  else
    g_slices_Compact_api_Net_api_Net_c0   ((((a0.length : Nat) : Int) - (1 : Int)).toNat + 2) (1 : Int) a0

theorem g_slices_Compact_api_Net_api_Net_own (a0 : (List T_api_Net)) (r : (List T_api_Net)) (hf : g_slices_Compact_api_Net_api_Net a0 = some r) : HCall Try.prog 170 [(100000, .rows 81 4 a0.length (rowsOf T_api_Net.c T_api_Net.d a0))] [.one (.osl 100000 a0.length)] [(99999, .rows 81 4 r.length (rowsOf T_api_Net.c T_api_Net.d r))] (.one (.osl 99999 r.length)) := by
  refine HCall.of Try.func170 rfl rfl rfl rfl fun S0 w0 => ?_
  unfold g_slices_Compact_api_Net_api_Net at hf
  rcases br_some hf with ⟨h1, hf⟩ | ⟨h1, hf⟩
  · replace hf := Option.some.inj hf
    subst hf
    exact toEndH_good allOk 8 _ _ [⟨[], [], [], [], [], [], []⟩, ⟨[], [], [], [], [], [], []⟩, ⟨[], [], [], [], [], [], []⟩] [true] ⟨[], [], [], [], [], [2], [100000], [(100000, 99999)]⟩ [(decide (((a0.length : Nat) : Int) < (2 : Int))) = true] (by kernel_rfl) ⟨h1, trivial⟩
  · exact toK_good allOk HPost.ends 11 _ _ _ _ [⟨[], [], [], [], [], [], []⟩, ⟨[], [], [], [], [], [], []⟩, ⟨[], [], [], [], [], [], []⟩] [false] ⟨[], [], [], [], [], [0, 3], [100000], []⟩ [(decide (((a0.length : Nat) : Int) < (2 : Int))) = false] (by kernel_rfl) ⟨h1, trivial⟩ (g_slices_Compact_api_Net_api_Net_c0_ok S0 w0    ((((a0.length : Nat) : Int) - (1 : Int)).toNat + 2) (1 : Int) a0 r hf)

/-- slices.SortFunc[[]doorman/api.Net,doorman/api.Net] by doorman/cidr.Compare -/
def g_sort_168_169 (a0 : List T_api_Net) : Option (List T_api_Net) :=
  need (a0.length < 4611686018427387904) <|
  some (a0.mergeSort fun x y => !(Go.Proofs.ltOf cmpN) y x)

theorem g_sort_168_169_own (a0 : List T_api_Net) (r : List T_api_Net) (hf : g_sort_168_169 a0 = some r) : HCall Try.prog 168 [(100000, .rows 81 4 a0.length (rowsOf T_api_Net.c T_api_Net.d a0))] [.one (.osl 100000 a0.length), .one (.lit (.func (.func 169) #[] #[]))] [(100000, .rows 81 4 a0.length (rowsOf T_api_Net.c T_api_Net.d r))] (.tup []) := by
  obtain ⟨o1, hf⟩ := need_some hf
  cases hf
  haveI : Inhabited T_api_Net := ⟨T_api_Net.d⟩
  exact sortFunc_call (ρ := sort168_ren) (ev := fun a => (T_api_Net.c a).map unlit) sort168 ⟨_, Try.func168, rfl, rfl⟩ ⟨_, Try.func169, rfl, rfl⟩ (by decide) (fun _ => rfl) (fun _ => rfl)
    (fun x v hv => List.all_eq_true.1 (show ((T_api_Net.c x).map unlit).all (fun v => v.oneCell') = true from rfl) v hv) Try.isAgg81 Try.sizeOf81 cmpN cmpN_swo cmpN_parts (fun x y => g_cidr_Compare_ok x y _ (cidr_cmp x y)) a0 o1

theorem g_sort_168_169_len (a0 : List T_api_Net) (r : List T_api_Net) (hf : g_sort_168_169 a0 = some r) : r.length = a0.length := by
  obtain ⟨o1, hf⟩ := need_some hf
  cases hf
  exact List.length_mergeSort a0

def g_spread_Taken_c1 (a1 : (List T_api_Entry)) (v10 : (List T_api_Peer)) (v11 : Int) (v12 : Int) (kg_spread_Taken_c0 : (List T_api_Peer) → Int → Int → (List T_api_Net) → Option (List T_api_Net)) : Nat → (List T_api_Entry) → Int → Int → (List T_api_Net) → Option (List T_api_Net)
  | 0, _, _, _, _ => none
  | fu + 1, v27, v28, v29, w5 =>
    bif (decide (v29 < v28)) then
      need (0 ≤ v29 ∧ v29 < ((v27.length : Nat) : Int)) <|
      bif ((v27.getD v29.toNat T_api_Entry.d).fState == (2 : Int)) then
        (g_group_Of (((v27.getD v29.toNat T_api_Entry.d).fEnd).fAddr)).bind fun x2 =>
        need ((w5 ++ ([x2] : List T_api_Net)).length * 32 ≤ 140737488355328 ∧ (w5 ++ ([x2] : List T_api_Net)).length ≤ maxLen) <|
        g_spread_Taken_c1 a1 v10 v11 v12 kg_spread_Taken_c0 fu v27 v28 (add64 v29 (1 : Int)) (w5 ++ ([x2] : List T_api_Net))
      else
        g_spread_Taken_c1 a1 v10 v11 v12 kg_spread_Taken_c0 fu v27 v28 (add64 v29 (1 : Int)) w5
    else
      (g_sort_168_169 w5).bind fun x3 =>
      (g_slices_Compact_api_Net_api_Net x3).bind fun x4 =>
      some x4

theorem g_spread_Taken_c1_ok (S0 : Nat → Prop) (w0 : Start) (a1 : (List T_api_Entry)) (v10 : (List T_api_Peer)) (v11 : Int) (v12 : Int) (kg_spread_Taken_c0 : (List T_api_Peer) → Int → Int → (List T_api_Net) → Option (List T_api_Net)) (hg_spread_Taken_c0 : ∀ (v10_ : (List T_api_Peer)) (v11_ : Int) (v12_ : Int) (w5_ : (List T_api_Net)) (r : (List T_api_Net)), kg_spread_Taken_c0 v10_ v11_ v12_ w5_ = some r → Good Try.prog 48 S0 w0 (bodyPost Try.prog Try.f159 (HPost S0 w0 [(99999, .rows 81 4 r.length (rowsOf T_api_Net.c T_api_Net.d r))] (.one (.osl 99999 r.length)))) (at_ [1, 1, 0, 1, 0] (bodyOf Try.f159)) ⟨[(1, .one (cL 7 T_api_Entry.c T_api_Entry.d a1)), (5, .one (.osl 5 w5_.length)), (10, .one (cL 10 T_api_Peer.c T_api_Peer.d v10_)), (11, .one (.lit (.int .i64 v11_))), (12, .one (.lit (.int .i64 v12_)))], [(5, .rows 81 4 w5_.length (rowsOf T_api_Net.c T_api_Net.d w5_))]⟩) : ∀ (fu : Nat) (v27 : (List T_api_Entry)) (v28 : Int) (v29 : Int) (w5 : (List T_api_Net)) (r : (List T_api_Net)), g_spread_Taken_c1 a1 v10 v11 v12 kg_spread_Taken_c0 fu v27 v28 v29 w5 = some r → Good Try.prog 48 S0 w0 (bodyPost Try.prog Try.f159 (HPost S0 w0 [(99999, .rows 81 4 r.length (rowsOf T_api_Net.c T_api_Net.d r))] (.one (.osl 99999 r.length)))) (at_ [1, 1, 1, 0, 1, 0] (bodyOf Try.f159)) ⟨[(5, .one (.osl 5 w5.length)), (27, .one (cL 7 T_api_Entry.c T_api_Entry.d v27)), (28, .one (.lit (.int .i64 v28))), (29, .one (.lit (.int .i64 v29)))], [(5, .rows 81 4 w5.length (rowsOf T_api_Net.c T_api_Net.d w5))]⟩ := by
  intro fu
  induction fu with
  | zero =>
    intro v27 v28 v29 w5 r hf
    simp [g_spread_Taken_c1] at hf
  | succ fu ih =>
    intro v27 v28 v29 w5 r hf
    unfold g_spread_Taken_c1 at hf
    rcases br_some hf with ⟨h6, hf⟩ | ⟨h6, hf⟩
    · obtain ⟨o7, hf⟩ := need_some hf
      rcases br_some hf with ⟨h8, hf⟩ | ⟨h8, hf⟩
      · obtain ⟨x2, q9, hf⟩ := bind_some' hf
        obtain ⟨o10, hf⟩ := need_some hf
        exact toK_good allOk HPost.ends 17 _ _ _ _ [⟨[], [], [], [], [], [], []⟩, ⟨[], [], [], [], [], [], []⟩, ⟨[], [], [], [], [], [], []⟩, ⟨[(4, .r (.agg (T_api_Net.c x2)) []), (6, .c ((w5 ++ ([x2] : List T_api_Net)).length) (rowsOf T_api_Net.c T_api_Net.d (w5 ++ ([x2] : List T_api_Net))))], [], [], [], [], [(5, (([x2] : List T_api_Net).length, rowsOf T_api_Net.c T_api_Net.d ([x2] : List T_api_Net)))], []⟩, ⟨[], [], [], [], [], [], []⟩] [true, true] ⟨[], [], [], [], [], [5, 27, 28, 29], [42], [(42, 5)]⟩ [(decide (v29 < v28)) = true, 0 ≤ v29 ∧ v29 < ((v27.length : Nat) : Int), ((v27.getD v29.toNat T_api_Entry.d).fState == (2 : Int)) = true, SCall Try.prog 160 [.agg (T_api_Addr.c (((v27.getD v29.toNat T_api_Entry.d).fEnd).fAddr))] (.agg (T_api_Net.c x2)), ([x2] : List T_api_Net).length = 1 ∧ ∀ i j, i < 1 → j < 4 → rowsOf T_api_Net.c T_api_Net.d ([x2] : List T_api_Net) i j = (([x2] : List T_api_Net).flatMap T_api_Net.c).getD (i * 4 + j) .junk, Ext 4 w5.length (([x2] : List T_api_Net).length) (rowsOf T_api_Net.c T_api_Net.d w5) (rowsOf T_api_Net.c T_api_Net.d ([x2] : List T_api_Net)) ((w5 ++ ([x2] : List T_api_Net)).length) (rowsOf T_api_Net.c T_api_Net.d (w5 ++ ([x2] : List T_api_Net))), (w5 ++ ([x2] : List T_api_Net)).length * 32 ≤ 140737488355328, (w5 ++ ([x2] : List T_api_Net)).length ≤ maxLen] (by kernel_rfl) ⟨h6, o7, h8, (g_group_Of_ok (((v27.getD v29.toNat T_api_Entry.d).fEnd).fAddr) x2 q9), ⟨rfl, fun i j hi hj => rows_flat (sz := 4) (e := T_api_Net.c) (d := T_api_Net.d) (fun _ => rfl) ([x2] : List T_api_Net) i j hi hj⟩, (ext_app _ _), o10.1, o10.2, trivial⟩ (ih v27 v28 (add64 v29 (1 : Int)) (w5 ++ ([x2] : List T_api_Net)) r hf)
      · exact toK_good allOk HPost.ends 17 _ _ _ _ [⟨[], [], [], [], [], [], []⟩, ⟨[], [], [], [], [], [], []⟩, ⟨[], [], [], [], [], [], []⟩, ⟨[], [], [], [], [], [], []⟩] [true, false] ⟨[], [], [], [], [], [5, 27, 28, 29], [5], []⟩ [(decide (v29 < v28)) = true, 0 ≤ v29 ∧ v29 < ((v27.length : Nat) : Int), ((v27.getD v29.toNat T_api_Entry.d).fState == (2 : Int)) = false] (by kernel_rfl) ⟨h6, o7, h8, trivial⟩ (ih v27 v28 (add64 v29 (1 : Int)) w5 r hf)
    · obtain ⟨x3, q11, hf⟩ := bind_some' hf
      obtain ⟨x4, q12, hf⟩ := bind_some' hf
      replace hf := Option.some.inj hf
      subst hf
      exact toEndH_good allOk 10 _ _ [⟨[], [], [], [], [], [], []⟩, ⟨[], [], [], [], [], [], [(1, ⟨[(100000, 5)], [], [(100000, .rows 81 4 w5.length (rowsOf T_api_Net.c T_api_Net.d x3))], .tup []⟩)]⟩, ⟨[], [], [], [], [], [], [(1, ⟨[(100000, 5)], [(99999, 47)], [(99999, .rows 81 4 x4.length (rowsOf T_api_Net.c T_api_Net.d x4))], .one (.osl 99999 x4.length)⟩)]⟩] [false] ⟨[], [], [], [], [], [4], [47], [(47, 99999)]⟩ [(decide (v29 < v28)) = false, HCall Try.prog 168 [(100000, .rows 81 4 w5.length (rowsOf T_api_Net.c T_api_Net.d w5))] [.one (.osl 100000 w5.length), .one (.lit (.func (.func 169) #[] #[]))] [(100000, .rows 81 4 w5.length (rowsOf T_api_Net.c T_api_Net.d x3))] (.tup []), HCall Try.prog 170 [(100000, .rows 81 4 w5.length (rowsOf T_api_Net.c T_api_Net.d x3))] [.one (.osl 100000 w5.length)] [(99999, .rows 81 4 x4.length (rowsOf T_api_Net.c T_api_Net.d x4))] (.one (.osl 99999 x4.length))] (by kernel_rfl) ⟨h6, (g_sort_168_169_own w5 x3 q11), (by rw [← (g_sort_168_169_len w5 x3 q11)]; exact (g_slices_Compact_api_Net_api_Net_own x3 x4 q12)), trivial⟩

def g_spread_Taken_c0 (a1 : (List T_api_Entry))  : Nat → (List T_api_Peer) → Int → Int → (List T_api_Net) → Option (List T_api_Net)
  | 0, _, _, _, _ => none
  | fu + 1, v10, v11, v12, w5 =>
    bif (decide (v12 < v11)) then
      need (0 ≤ v12 ∧ v12 < ((v10.length : Nat) : Int)) <|
      bif (!(v10.getD v12.toNat T_api_Peer.d).fIn) then
        (g_group_Of (((v10.getD v12.toNat T_api_Peer.d).fEnd).fAddr)).bind fun x1 =>
        need ((w5 ++ ([x1] : List T_api_Net)).length * 32 ≤ 140737488355328 ∧ (w5 ++ ([x1] : List T_api_Net)).length ≤ maxLen) <|
        g_spread_Taken_c0 a1  fu v10 v11 (add64 v12 (1 : Int)) (w5 ++ ([x1] : List T_api_Net))
      else
        g_spread_Taken_c0 a1  fu v10 v11 (add64 v12 (1 : Int)) w5
    else
      g_spread_Taken_c1 a1 v10 v11 v12 (g_spread_Taken_c0 a1  fu) ((((a1.length : Nat) : Int) - (0 : Int)).toNat + 2) a1 ((a1.length : Nat) : Int) (0 : Int) w5

theorem g_spread_Taken_c0_ok (S0 : Nat → Prop) (w0 : Start) (a1 : (List T_api_Entry))  : ∀ (fu : Nat) (v10 : (List T_api_Peer)) (v11 : Int) (v12 : Int) (w5 : (List T_api_Net)) (r : (List T_api_Net)), g_spread_Taken_c0 a1  fu v10 v11 v12 w5 = some r → Good Try.prog 48 S0 w0 (bodyPost Try.prog Try.f159 (HPost S0 w0 [(99999, .rows 81 4 r.length (rowsOf T_api_Net.c T_api_Net.d r))] (.one (.osl 99999 r.length)))) (at_ [1, 1, 0, 1, 0] (bodyOf Try.f159)) ⟨[(1, .one (cL 7 T_api_Entry.c T_api_Entry.d a1)), (5, .one (.osl 5 w5.length)), (10, .one (cL 10 T_api_Peer.c T_api_Peer.d v10)), (11, .one (.lit (.int .i64 v11))), (12, .one (.lit (.int .i64 v12)))], [(5, .rows 81 4 w5.length (rowsOf T_api_Net.c T_api_Net.d w5))]⟩ := by
  intro fu
  induction fu with
  | zero =>
    intro v10 v11 v12 w5 r hf
    simp [g_spread_Taken_c0] at hf
  | succ fu ih =>
    intro v10 v11 v12 w5 r hf
    unfold g_spread_Taken_c0 at hf
    rcases br_some hf with ⟨h1, hf⟩ | ⟨h1, hf⟩
    · obtain ⟨o2, hf⟩ := need_some hf
      rcases br_some hf with ⟨h3, hf⟩ | ⟨h3, hf⟩
      · obtain ⟨x1, q4, hf⟩ := bind_some' hf
        obtain ⟨o5, hf⟩ := need_some hf
        exact toK_good allOk HPost.ends 17 _ _ _ _ [⟨[], [], [], [], [], [], []⟩, ⟨[], [], [], [], [], [], []⟩, ⟨[], [], [], [], [], [], []⟩, ⟨[(4, .r (.agg (T_api_Net.c x1)) []), (6, .c ((w5 ++ ([x1] : List T_api_Net)).length) (rowsOf T_api_Net.c T_api_Net.d (w5 ++ ([x1] : List T_api_Net))))], [], [], [], [], [(5, (([x1] : List T_api_Net).length, rowsOf T_api_Net.c T_api_Net.d ([x1] : List T_api_Net)))], []⟩, ⟨[], [], [], [], [], [], []⟩] [true, true] ⟨[], [], [], [], [], [1, 5, 10, 11, 12], [25], [(25, 5)]⟩ [(decide (v12 < v11)) = true, 0 ≤ v12 ∧ v12 < ((v10.length : Nat) : Int), (!(v10.getD v12.toNat T_api_Peer.d).fIn) = true, SCall Try.prog 160 [.agg (T_api_Addr.c (((v10.getD v12.toNat T_api_Peer.d).fEnd).fAddr))] (.agg (T_api_Net.c x1)), ([x1] : List T_api_Net).length = 1 ∧ ∀ i j, i < 1 → j < 4 → rowsOf T_api_Net.c T_api_Net.d ([x1] : List T_api_Net) i j = (([x1] : List T_api_Net).flatMap T_api_Net.c).getD (i * 4 + j) .junk, Ext 4 w5.length (([x1] : List T_api_Net).length) (rowsOf T_api_Net.c T_api_Net.d w5) (rowsOf T_api_Net.c T_api_Net.d ([x1] : List T_api_Net)) ((w5 ++ ([x1] : List T_api_Net)).length) (rowsOf T_api_Net.c T_api_Net.d (w5 ++ ([x1] : List T_api_Net))), (w5 ++ ([x1] : List T_api_Net)).length * 32 ≤ 140737488355328, (w5 ++ ([x1] : List T_api_Net)).length ≤ maxLen] (by kernel_rfl) ⟨h1, o2, h3, (g_group_Of_ok (((v10.getD v12.toNat T_api_Peer.d).fEnd).fAddr) x1 q4), ⟨rfl, fun i j hi hj => rows_flat (sz := 4) (e := T_api_Net.c) (d := T_api_Net.d) (fun _ => rfl) ([x1] : List T_api_Net) i j hi hj⟩, (ext_app _ _), o5.1, o5.2, trivial⟩ (ih v10 v11 (add64 v12 (1 : Int)) (w5 ++ ([x1] : List T_api_Net)) r hf)
      · exact toK_good allOk HPost.ends 17 _ _ _ _ [⟨[], [], [], [], [], [], []⟩, ⟨[], [], [], [], [], [], []⟩, ⟨[], [], [], [], [], [], []⟩, ⟨[], [], [], [], [], [], []⟩] [true, false] ⟨[], [], [], [], [], [1, 5, 10, 11, 12], [5], []⟩ [(decide (v12 < v11)) = true, 0 ≤ v12 ∧ v12 < ((v10.length : Nat) : Int), (!(v10.getD v12.toNat T_api_Peer.d).fIn) = false] (by kernel_rfl) ⟨h1, o2, h3, trivial⟩ (ih v10 v11 (add64 v12 (1 : Int)) w5 r hf)
    · exact toK_good allOk HPost.ends 10 _ _ _ _ [⟨[], [], [], [], [], [], []⟩, ⟨[], [], [], [], [], [], []⟩] [false] ⟨[], [], [], [], [], [5, 27, 28, 29], [5], []⟩ [(decide (v12 < v11)) = false] (by kernel_rfl) ⟨h1, trivial⟩ (g_spread_Taken_c1_ok S0 w0 a1 v10 v11 v12 (g_spread_Taken_c0 a1  fu) ih ((((a1.length : Nat) : Int) - (0 : Int)).toNat + 2) a1 ((a1.length : Nat) : Int) (0 : Int) w5 r hf)

/-- doorman/spread.Taken -/
def g_spread_Taken (a0 : (List T_api_Peer)) (a1 : (List T_api_Entry)) : Option (List T_api_Net) :=
  g_spread_Taken_c0 a1  ((((a0.length : Nat) : Int) - (0 : Int)).toNat + 2) a0 ((a0.length : Nat) : Int) (0 : Int) ([])

theorem g_spread_Taken_own (a0 : (List T_api_Peer)) (a1 : (List T_api_Entry)) (r : (List T_api_Net)) (hf : g_spread_Taken a0 a1 = some r) : HCall Try.prog 159 [] [.one (cL 10 T_api_Peer.c T_api_Peer.d a0), .one (cL 7 T_api_Entry.c T_api_Entry.d a1)] [(99999, .rows 81 4 r.length (rowsOf T_api_Net.c T_api_Net.d r))] (.one (.osl 99999 r.length)) := by
  refine HCall.of Try.func159 rfl rfl rfl rfl fun S0 w0 => ?_
  unfold g_spread_Taken at hf
  exact toK_good allOk HPost.ends 8 _ _ _ _ [⟨[], [], [], [], [], [], []⟩, ⟨[], [], [], [], [], [], []⟩, ⟨[], [], [], [], [], [], []⟩] [] ⟨[], [], [], [], [(5, 5, 81, 4, rowsOf T_api_Net.c T_api_Net.d [])], [1, 5, 10, 11, 12], [5], []⟩ [] (by kernel_rfl) trivial (g_spread_Taken_c0_ok S0 w0 a1   ((((a0.length : Nat) : Int) - (0 : Int)).toNat + 2) a0 ((a0.length : Nat) : Int) (0 : Int) ([]) r hf)

theorem g_spread_Taken_ok (a0 : (List T_api_Peer)) (a1 : (List T_api_Entry)) (r : (List T_api_Net)) (hf : g_spread_Taken a0 a1 = some r) : SCall Try.prog 159 [.one (cL 10 T_api_Peer.c T_api_Peer.d a0), .one (cL 7 T_api_Entry.c T_api_Entry.d a1)] (.one (cL 4 T_api_Net.c T_api_Net.d r)) := (g_spread_Taken_own a0 a1 r hf).pure

def g_slices_Index_api_Net_api_Net_c0 (a0 : (List T_api_Net))  : Nat → Int → Int → T_api_Net → Option Int
  | 0, _, _, _ => none
  | fu + 1, v7, v8, b3 =>
    bif (decide (v8 < v7)) then
      need (0 ≤ v8 ∧ v8 < ((a0.length : Nat) : Int)) <|
      bif (decide (b3 = (a0.getD v8.toNat T_api_Net.d))) then
        some v8
      else
        g_slices_Index_api_Net_api_Net_c0 a0  fu v7 (add64 v8 (1 : Int)) b3
    else
      some (-1 : Int)

theorem g_slices_Index_api_Net_api_Net_c0_ok (S0 : Nat → Prop) (w0 : Start) (a0 : (List T_api_Net))  : ∀ (fu : Nat) (v7 : Int) (v8 : Int) (b3 : T_api_Net) (r : Int), g_slices_Index_api_Net_api_Net_c0 a0  fu v7 v8 b3 = some r → Good Try.prog 19 S0 w0 (bodyPost Try.prog Try.f167 (Post S0 w0 (.one (.lit (.int .i64 r))))) (at_ [1, 0, 1, 0] (bodyOf Try.f167)) ⟨[(0, .one (cL 4 T_api_Net.c T_api_Net.d a0)), (3, .one (.ptr 3 0)), (7, .one (.lit (.int .i64 v7))), (8, .one (.lit (.int .i64 v8)))], [(3, .box [.lit (.bool b3.fAddr.fV6), .lit (.int .u64 b3.fAddr.fHi), .lit (.int .u64 b3.fAddr.fLo), .lit (.int .i64 b3.fBits)])]⟩ := by
  intro fu
  induction fu with
  | zero =>
    intro v7 v8 b3 r hf
    simp [g_slices_Index_api_Net_api_Net_c0] at hf
  | succ fu ih =>
    intro v7 v8 b3 r hf
    unfold g_slices_Index_api_Net_api_Net_c0 at hf
    rcases br_some hf with ⟨h1, hf⟩ | ⟨h1, hf⟩
    · obtain ⟨o2, hf⟩ := need_some hf
      rcases br_some hf with ⟨h3, hf⟩ | ⟨h3, hf⟩
      · replace hf := Option.some.inj hf
        subst hf
        exact toEnd_good allOk 15 _ _ [⟨[], [], [], [], [], [], []⟩, ⟨[], [], [], [], [], [], []⟩, ⟨[(5, .r (.one (.lit (.bool (decide (b3 = (a0.getD v8.toNat T_api_Net.d)))))) [])], [], [], [[], [], [], [1, 2], [3, 1, 2], [0, 4, 3, 1, 2]], [], [], []⟩, ⟨[], [], [], [], [], [], []⟩] [true, true] [] [] [] [(decide (v8 < v7)) = true, 0 ≤ v8 ∧ v8 < ((a0.length : Nat) : Int), ∀ w, (do eqGuard .eql 81 (.tmp 11) (.tmp 15) (.agg #[.bool b3.fAddr.fV6, .int .u64 b3.fAddr.fHi, .int .u64 b3.fAddr.fLo, .int .i64 b3.fBits]) (.agg #[.bool (((a0.getD v8.toNat T_api_Net.d).fAddr).fV6), .int .u64 (((a0.getD v8.toNat T_api_Net.d).fAddr).fHi), .int .u64 (((a0.getD v8.toNat T_api_Net.d).fAddr).fLo), .int .i64 ((a0.getD v8.toNat T_api_Net.d).fBits)]); binOp .eql 81 (.agg #[.bool b3.fAddr.fV6, .int .u64 b3.fAddr.fHi, .int .u64 b3.fAddr.fLo, .int .i64 b3.fBits]) (.agg #[.bool (((a0.getD v8.toNat T_api_Net.d).fAddr).fV6), .int .u64 (((a0.getD v8.toNat T_api_Net.d).fAddr).fHi), .int .u64 (((a0.getD v8.toNat T_api_Net.d).fAddr).fLo), .int .i64 ((a0.getD v8.toNat T_api_Net.d).fBits)]) : Sem Value).run Try.prog w = .ok (.bool (decide (b3 = (a0.getD v8.toNat T_api_Net.d)))) w, (decide (b3 = (a0.getD v8.toNat T_api_Net.d))) = true] (by kernel_rfl) rfl ⟨h1, o2, (eql_T_api_Net b3 (a0.getD v8.toNat T_api_Net.d) _ _), h3, trivial⟩
      · exact toK_good allOk Post.ends 17 _ _ _ _ [⟨[], [], [], [], [], [], []⟩, ⟨[], [], [], [], [], [], []⟩, ⟨[(5, .r (.one (.lit (.bool (decide (b3 = (a0.getD v8.toNat T_api_Net.d)))))) [])], [], [], [[], [], [], [1, 2], [3, 1, 2], [0, 4, 3, 1, 2]], [], [], []⟩, ⟨[], [], [], [], [], [], []⟩] [true, false] ⟨[], [], [], [], [], [0, 3, 7, 8], [3], []⟩ [(decide (v8 < v7)) = true, 0 ≤ v8 ∧ v8 < ((a0.length : Nat) : Int), ∀ w, (do eqGuard .eql 81 (.tmp 11) (.tmp 15) (.agg #[.bool b3.fAddr.fV6, .int .u64 b3.fAddr.fHi, .int .u64 b3.fAddr.fLo, .int .i64 b3.fBits]) (.agg #[.bool (((a0.getD v8.toNat T_api_Net.d).fAddr).fV6), .int .u64 (((a0.getD v8.toNat T_api_Net.d).fAddr).fHi), .int .u64 (((a0.getD v8.toNat T_api_Net.d).fAddr).fLo), .int .i64 ((a0.getD v8.toNat T_api_Net.d).fBits)]); binOp .eql 81 (.agg #[.bool b3.fAddr.fV6, .int .u64 b3.fAddr.fHi, .int .u64 b3.fAddr.fLo, .int .i64 b3.fBits]) (.agg #[.bool (((a0.getD v8.toNat T_api_Net.d).fAddr).fV6), .int .u64 (((a0.getD v8.toNat T_api_Net.d).fAddr).fHi), .int .u64 (((a0.getD v8.toNat T_api_Net.d).fAddr).fLo), .int .i64 ((a0.getD v8.toNat T_api_Net.d).fBits)]) : Sem Value).run Try.prog w = .ok (.bool (decide (b3 = (a0.getD v8.toNat T_api_Net.d)))) w, (decide (b3 = (a0.getD v8.toNat T_api_Net.d))) = false] (by kernel_rfl) ⟨h1, o2, (eql_T_api_Net b3 (a0.getD v8.toNat T_api_Net.d) _ _), h3, trivial⟩ (ih v7 (add64 v8 (1 : Int)) b3 r hf)
    · replace hf := Option.some.inj hf
      subst hf
      exact toEnd_good allOk 8 _ _ [⟨[], [], [], [], [], [], []⟩, ⟨[], [], [], [], [], [], []⟩] [false] [] [] [] [(decide (v8 < v7)) = false] (by kernel_rfl) rfl ⟨h1, trivial⟩

/-- slices.Index[[]doorman/api.Net,doorman/api.Net] -/
def g_slices_Index_api_Net_api_Net (a0 : (List T_api_Net)) (a1 : T_api_Net) : Option Int :=
  g_slices_Index_api_Net_api_Net_c0 a0  ((((a0.length : Nat) : Int) - (0 : Int)).toNat + 2) ((a0.length : Nat) : Int) (0 : Int) a1

theorem g_slices_Index_api_Net_api_Net_ok (a0 : (List T_api_Net)) (a1 : T_api_Net) (r : Int) (hf : g_slices_Index_api_Net_api_Net a0 a1 = some r) : SCall Try.prog 167 [.one (cL 4 T_api_Net.c T_api_Net.d a0), .agg (T_api_Net.c a1)] (.one (.lit (.int .i64 r))) := by
  refine SCall.of Try.func167 rfl rfl rfl rfl fun S0 w0 => ?_
  unfold g_slices_Index_api_Net_api_Net at hf
  exact toK_good allOk Post.ends 6 _ _ _ _ [⟨[], [], [], [], [], [], []⟩, ⟨[], [], [], [], [], [], []⟩] [] ⟨[], [], [], [], [], [0, 3, 7, 8], [3], []⟩ [] (by kernel_rfl) trivial (g_slices_Index_api_Net_api_Net_c0_ok S0 w0 a0   ((((a0.length : Nat) : Int) - (0 : Int)).toNat + 2) ((a0.length : Nat) : Int) (0 : Int) a1 r hf)

/-- slices.Contains[[]doorman/api.Net,doorman/api.Net] -/
def g_slices_Contains_api_Net_api_Net (a0 : (List T_api_Net)) (a1 : T_api_Net) : Option Bool :=
  (g_slices_Index_api_Net_api_Net a0 a1).bind fun x1 =>
  some (decide (x1 ≥ (0 : Int)))

theorem g_slices_Contains_api_Net_api_Net_ok (a0 : (List T_api_Net)) (a1 : T_api_Net) (r : Bool) (hf : g_slices_Contains_api_Net_api_Net a0 a1 = some r) : SCall Try.prog 158 [.one (cL 4 T_api_Net.c T_api_Net.d a0), .agg (T_api_Net.c a1)] (.one (.lit (.bool r))) := by
  refine SCall.of Try.func158 rfl rfl rfl rfl fun S0 w0 => ?_
  unfold g_slices_Contains_api_Net_api_Net at hf
  obtain ⟨x1, q1, hf⟩ := bind_some' hf
  replace hf := Option.some.inj hf
  subst hf
  exact toEnd_good allOk 4 _ _ [⟨[], [], [], [], [], [], []⟩, ⟨[(2, .r (.one (.lit (.int .i64 x1))) [])], [], [], [], [], [], []⟩] [] [] [] [] [SCall Try.prog 167 [.one (cL 4 T_api_Net.c T_api_Net.d a0), .agg (T_api_Net.c a1)] (.one (.lit (.int .i64 x1)))] (by kernel_rfl) rfl ⟨(g_slices_Index_api_Net_api_Net_ok a0 a1 x1 q1), trivial⟩

/-- doorman/spread.Free -/
def g_spread_Free (a0 : (List T_api_Peer)) (a1 : (List T_api_Entry)) (a2 : T_api_Addr) : Option Bool :=
  (g_addr_Right a2).bind fun x1 =>
  bif x1 then
    (g_spread_Taken a0 a1).bind fun x2 =>
    (g_group_Of a2).bind fun x3 =>
    (g_slices_Contains_api_Net_api_Net x2 x3).bind fun x4 =>
    some (!x4)
  else
    some false

theorem g_spread_Free_ok (a0 : (List T_api_Peer)) (a1 : (List T_api_Entry)) (a2 : T_api_Addr) (r : Bool) (hf : g_spread_Free a0 a1 a2 = some r) : SCall Try.prog 145 [.one (cL 10 T_api_Peer.c T_api_Peer.d a0), .one (cL 7 T_api_Entry.c T_api_Entry.d a1), .agg (T_api_Addr.c a2)] (.one (.lit (.bool r))) := by
  refine SCall.of Try.func145 rfl rfl rfl rfl fun S0 w0 => ?_
  unfold g_spread_Free at hf
  obtain ⟨x1, q1, hf⟩ := bind_some' hf
  rcases br_some hf with ⟨h2, hf⟩ | ⟨h2, hf⟩
  · obtain ⟨x2, q3, hf⟩ := bind_some' hf
    obtain ⟨x3, q4, hf⟩ := bind_some' hf
    obtain ⟨x4, q5, hf⟩ := bind_some' hf
    replace hf := Option.some.inj hf
    subst hf
    exact toEnd_good allOk 4 _ _ [⟨[], [], [], [], [], [], []⟩, ⟨[(1, .r (.one (.lit (.bool x1))) []), (5, .r (.one (cL 4 T_api_Net.c T_api_Net.d x2)) []), (7, .r (.agg (T_api_Net.c x3)) []), (8, .r (.one (.lit (.bool x4))) [])], [(2, true)], [], [[], [0], [1, 0], [2, 1, 0], [2, 1, 0], [3, 2, 1, 0, 4], [2, 1, 0], [6, 2, 1, 0, 5, 3, 4], [5, 3, 2, 1, 0, 4, 7, 6], [8, 5, 3, 2, 1, 0, 4, 7, 6], [2, 1, 0, 9, 8, 5, 3, 4, 7, 6], [10, 2, 1, 0, 9, 8, 5, 3, 4, 7, 6]], [], [], []⟩] [] [] [] [] [SCall Try.prog 98 [.agg (T_api_Addr.c a2)] (.one (.lit (.bool x1))), x1 = true, SCall Try.prog 159 [.one (cL 10 T_api_Peer.c T_api_Peer.d a0), .one (cL 7 T_api_Entry.c T_api_Entry.d a1)] (.one (cL 4 T_api_Net.c T_api_Net.d x2)), SCall Try.prog 160 [.agg (T_api_Addr.c a2)] (.agg (T_api_Net.c x3)), SCall Try.prog 158 [.one (cL 4 T_api_Net.c T_api_Net.d x2), .agg (T_api_Net.c x3)] (.one (.lit (.bool x4)))] (by kernel_rfl) rfl ⟨(g_addr_Right_ok a2 x1 q1), h2, (g_spread_Taken_ok a0 a1 x2 q3), (g_group_Of_ok a2 x3 q4), (g_slices_Contains_api_Net_api_Net_ok x2 x3 x4 q5), trivial⟩
  · replace hf := Option.some.inj hf
    subst hf
    exact toEnd_good allOk 4 _ _ [⟨[], [], [], [], [], [], []⟩, ⟨[(1, .r (.one (.lit (.bool x1))) [])], [(2, false)], [], [[], [0], [1, 0], [2, 1, 0], [2, 1, 0], [3, 2, 1, 0, 4], [2, 1, 0], [6, 2, 1, 0, 5, 3, 4], [5, 3, 2, 1, 0, 4, 7, 6], [8, 5, 3, 2, 1, 0, 4, 7, 6], [2, 1, 0, 9, 8, 5, 3, 4, 7, 6], [10, 2, 1, 0, 9, 8, 5, 3, 4, 7, 6]], [], [], []⟩] [] [] [] [] [SCall Try.prog 98 [.agg (T_api_Addr.c a2)] (.one (.lit (.bool x1))), x1 = false] (by kernel_rfl) rfl ⟨(g_addr_Right_ok a2 x1 q1), h2, trivial⟩

/-- (doorman/dial.View).open -/
def g_dial_View_open (a0 : T_dial_View) (a1 : T_api_End) (a2 : Int) : Option Bool :=
  (g_dial_View_connected a0 a1).bind fun x1 =>
  bif (!x1) then
    (g_bans_Until a0.fBans a1.fAddr a2).bind fun x2 =>
    bif (x2 == (0 : Int)) then
      (g_spread_Free a0.fPeers a0.fBook a1.fAddr).bind fun x3 =>
      some x3
    else
      some false
  else
    some false

theorem g_dial_View_open_ok (a0 : T_dial_View) (a1 : T_api_End) (a2 : Int) (r : Bool) (hf : g_dial_View_open a0 a1 a2 = some r) : SCall Try.prog 111 [.agg (T_dial_View.c a0), .agg (T_api_End.c a1), .one (.lit (.int .i64 a2))] (.one (.lit (.bool r))) := by
  refine SCall.of Try.func111 rfl rfl rfl rfl fun S0 w0 => ?_
  unfold g_dial_View_open at hf
  obtain ⟨x1, q1, hf⟩ := bind_some' hf
  rcases br_some hf with ⟨h2, hf⟩ | ⟨h2, hf⟩
  · obtain ⟨x2, q3, hf⟩ := bind_some' hf
    rcases br_some hf with ⟨h4, hf⟩ | ⟨h4, hf⟩
    · obtain ⟨x3, q5, hf⟩ := bind_some' hf
      replace hf := Option.some.inj hf
      subst hf
      exact toEnd_good allOk 4 _ _ [⟨[], [], [], [], [], [], []⟩, ⟨[(2, .r (.one (.lit (.bool x1))) []), (10, .r (.one (.lit (.int .i64 x2))) []), (20, .r (.one (.lit (.bool x3))) [])], [(4, true), (13, true)], [], [], [], [], []⟩] [] [] [] [] [SCall Try.prog 143 [.agg (T_dial_View.c a0), .agg (T_api_End.c a1)] (.one (.lit (.bool x1))), (!x1) = true, SCall Try.prog 144 [.one (cL 5 T_api_Ban.c T_api_Ban.d a0.fBans), .agg (T_api_Addr.c a1.fAddr), .one (.lit (.int .i64 a2))] (.one (.lit (.int .i64 x2))), (x2 == (0 : Int)) = true, SCall Try.prog 145 [.one (cL 10 T_api_Peer.c T_api_Peer.d a0.fPeers), .one (cL 7 T_api_Entry.c T_api_Entry.d a0.fBook), .agg (T_api_Addr.c a1.fAddr)] (.one (.lit (.bool x3)))] (by kernel_rfl) rfl ⟨(g_dial_View_connected_ok a0 a1 x1 q1), h2, (g_bans_Until_ok a0.fBans a1.fAddr a2 x2 q3), h4, (g_spread_Free_ok a0.fPeers a0.fBook a1.fAddr x3 q5), trivial⟩
    · replace hf := Option.some.inj hf
      subst hf
      exact toEnd_good allOk 4 _ _ [⟨[], [], [], [], [], [], []⟩, ⟨[(2, .r (.one (.lit (.bool x1))) []), (10, .r (.one (.lit (.int .i64 x2))) [])], [(4, true), (13, false)], [], [], [], [], []⟩] [] [] [] [] [SCall Try.prog 143 [.agg (T_dial_View.c a0), .agg (T_api_End.c a1)] (.one (.lit (.bool x1))), (!x1) = true, SCall Try.prog 144 [.one (cL 5 T_api_Ban.c T_api_Ban.d a0.fBans), .agg (T_api_Addr.c a1.fAddr), .one (.lit (.int .i64 a2))] (.one (.lit (.int .i64 x2))), (x2 == (0 : Int)) = false] (by kernel_rfl) rfl ⟨(g_dial_View_connected_ok a0 a1 x1 q1), h2, (g_bans_Until_ok a0.fBans a1.fAddr a2 x2 q3), h4, trivial⟩
  · replace hf := Option.some.inj hf
    subst hf
    exact toEnd_good allOk 4 _ _ [⟨[], [], [], [], [], [], []⟩, ⟨[(2, .r (.one (.lit (.bool x1))) [])], [(4, false)], [], [], [], [], []⟩] [] [] [] [] [SCall Try.prog 143 [.agg (T_dial_View.c a0), .agg (T_api_End.c a1)] (.one (.lit (.bool x1))), (!x1) = false] (by kernel_rfl) rfl ⟨(g_dial_View_connected_ok a0 a1 x1 q1), h2, trivial⟩

/-- doorman/dial.Pick$1 -/
def g_dial_Pick_1 (a0 : T_api_Entry) (c0 : Int) : Option Bool :=
  (g_entry_Due a0 c0).bind fun x1 =>
  some x1

theorem g_dial_Pick_1_ok (a0 : T_api_Entry) (c0 : Int) (r : Bool) (hf : g_dial_Pick_1 a0 c0 = some r) : SCall Try.prog 108 [.agg (T_api_Entry.c a0), .one (.rp false 1 (fun j => ([.lit (.int .i64 c0)] : List C).getD (0 + j) .junk))] (.one (.lit (.bool r))) := by
  refine SCall.of Try.func108 rfl rfl rfl rfl fun S0 w0 => ?_
  unfold g_dial_Pick_1 at hf
  obtain ⟨x1, q1, hf⟩ := bind_some' hf
  replace hf := Option.some.inj hf
  subst hf
  exact toEnd_good allOk 4 _ _ [⟨[], [], [], [], [], [], []⟩, ⟨[(2, .r (.one (.lit (.bool x1))) [])], [], [], [], [], [], []⟩] [] [] [] [] [SCall Try.prog 109 [.agg (T_api_Entry.c a0), .one (.lit (.int .i64 c0))] (.one (.lit (.bool x1)))] (by kernel_rfl) rfl ⟨(g_entry_Due_ok a0 c0 x1 q1), trivial⟩

def g_dial_View_items_108_c0 (a1_0 : Int)  : Nat → (List T_api_Entry) → Int → Int → (List T_heap_Item) → Option (List T_heap_Item)
  | 0, _, _, _, _ => none
  | fu + 1, v9, v10, v11, w5 =>
    bif (decide (v11 < v10)) then
      need (0 ≤ v11 ∧ v11 < ((v9.length : Nat) : Int)) <|
      (g_entry_Right (v9.getD v11.toNat T_api_Entry.d)).bind fun x1 =>
      bif x1 then
        (g_dial_Pick_1 (v9.getD v11.toNat T_api_Entry.d) a1_0).bind fun x2 =>
        bif x2 then
          need ((w5 ++ ([(T_heap_Item.mk ((v9.getD v11.toNat T_api_Entry.d).fNext) ((v9.getD v11.toNat T_api_Entry.d).fEnd))] : List T_heap_Item)).length * 40 ≤ 140737488355328 ∧ (w5 ++ ([(T_heap_Item.mk ((v9.getD v11.toNat T_api_Entry.d).fNext) ((v9.getD v11.toNat T_api_Entry.d).fEnd))] : List T_heap_Item)).length ≤ maxLen) <|
          g_dial_View_items_108_c0 a1_0  fu v9 v10 (add64 v11 (1 : Int)) (w5 ++ ([(T_heap_Item.mk ((v9.getD v11.toNat T_api_Entry.d).fNext) ((v9.getD v11.toNat T_api_Entry.d).fEnd))] : List T_heap_Item))
        else
          g_dial_View_items_108_c0 a1_0  fu v9 v10 (add64 v11 (1 : Int)) w5
      else
        g_dial_View_items_108_c0 a1_0  fu v9 v10 (add64 v11 (1 : Int)) w5
    else
      (g_heap_Make w5).bind fun x3 =>
      some x3

theorem g_dial_View_items_108_c0_ok (S0 : Nat → Prop) (w0 : Start) (a1_0 : Int)  : ∀ (fu : Nat) (v9 : (List T_api_Entry)) (v10 : Int) (v11 : Int) (w5 : (List T_heap_Item)) (r : (List T_heap_Item)), g_dial_View_items_108_c0 a1_0  fu v9 v10 v11 w5 = some r → Good Try.prog 33 S0 w0 (bodyPost Try.prog Try.f107 (HPost S0 w0 [(99999, .rows 186 5 r.length (rowsOf T_heap_Item.c T_heap_Item.d r))] (.one (.osl 99999 r.length)))) (at_ [1, 1, 0, 1, 0] (bodyOf Try.f107)) ⟨[(1, .one (.clo (.func 108) 0 1 (fun i => ([] : List C).getD i .junk) (fun i => ([.rp false 1 (fun j => ([.lit (.int .i64 a1_0)] : List C).getD (0 + j) .junk)] : List C).getD i .junk))), (5, .one (.osl 5 w5.length)), (9, .one (cL 7 T_api_Entry.c T_api_Entry.d v9)), (10, .one (.lit (.int .i64 v10))), (11, .one (.lit (.int .i64 v11)))], [(5, .rows 186 5 w5.length (rowsOf T_heap_Item.c T_heap_Item.d w5))]⟩ := by
  intro fu
  induction fu with
  | zero =>
    intro v9 v10 v11 w5 r hf
    simp [g_dial_View_items_108_c0] at hf
  | succ fu ih =>
    intro v9 v10 v11 w5 r hf
    unfold g_dial_View_items_108_c0 at hf
    rcases br_some hf with ⟨h1, hf⟩ | ⟨h1, hf⟩
    · obtain ⟨o2, hf⟩ := need_some hf
      obtain ⟨x1, q3, hf⟩ := bind_some' hf
      rcases br_some hf with ⟨h4, hf⟩ | ⟨h4, hf⟩
      · obtain ⟨x2, q5, hf⟩ := bind_some' hf
        rcases br_some hf with ⟨h6, hf⟩ | ⟨h6, hf⟩
        · obtain ⟨o7, hf⟩ := need_some hf
          exact toK_good allOk HPost.ends 17 _ _ _ _ [⟨[], [], [], [], [], [], []⟩, ⟨[], [], [], [], [], [], []⟩, ⟨[(1, .r (.one (.lit (.bool x1))) []), (5, .r (.one (.lit (.bool x2))) [])], [(2, true)], [], [], [], [], []⟩, ⟨[(7, .c ((w5 ++ ([(T_heap_Item.mk ((v9.getD v11.toNat T_api_Entry.d).fNext) ((v9.getD v11.toNat T_api_Entry.d).fEnd))] : List T_heap_Item)).length) (rowsOf T_heap_Item.c T_heap_Item.d (w5 ++ ([(T_heap_Item.mk ((v9.getD v11.toNat T_api_Entry.d).fNext) ((v9.getD v11.toNat T_api_Entry.d).fEnd))] : List T_heap_Item))))], [], [], [], [], [(6, (([(T_heap_Item.mk ((v9.getD v11.toNat T_api_Entry.d).fNext) ((v9.getD v11.toNat T_api_Entry.d).fEnd))] : List T_heap_Item).length, rowsOf T_heap_Item.c T_heap_Item.d ([(T_heap_Item.mk ((v9.getD v11.toNat T_api_Entry.d).fNext) ((v9.getD v11.toNat T_api_Entry.d).fEnd))] : List T_heap_Item)))], []⟩, ⟨[], [], [], [], [], [], []⟩] [true, true] ⟨[], [], [], [], [], [1, 5, 9, 10, 11], [29], [(29, 5)]⟩ [(decide (v11 < v10)) = true, 0 ≤ v11 ∧ v11 < ((v9.length : Nat) : Int), SCall Try.prog 113 [.agg (T_api_Entry.c (v9.getD v11.toNat T_api_Entry.d))] (.one (.lit (.bool x1))), x1 = true, SCall Try.prog 108 [.agg (T_api_Entry.c (v9.getD v11.toNat T_api_Entry.d)), .one (.rp false 1 (fun j => ([.lit (.int .i64 a1_0)] : List C).getD (0 + j) .junk))] (.one (.lit (.bool x2))), x2 = true, ([(T_heap_Item.mk ((v9.getD v11.toNat T_api_Entry.d).fNext) ((v9.getD v11.toNat T_api_Entry.d).fEnd))] : List T_heap_Item).length = 1 ∧ ∀ i j, i < 1 → j < 5 → rowsOf T_heap_Item.c T_heap_Item.d ([(T_heap_Item.mk ((v9.getD v11.toNat T_api_Entry.d).fNext) ((v9.getD v11.toNat T_api_Entry.d).fEnd))] : List T_heap_Item) i j = (([(T_heap_Item.mk ((v9.getD v11.toNat T_api_Entry.d).fNext) ((v9.getD v11.toNat T_api_Entry.d).fEnd))] : List T_heap_Item).flatMap T_heap_Item.c).getD (i * 5 + j) .junk, Ext 5 w5.length (([(T_heap_Item.mk ((v9.getD v11.toNat T_api_Entry.d).fNext) ((v9.getD v11.toNat T_api_Entry.d).fEnd))] : List T_heap_Item).length) (rowsOf T_heap_Item.c T_heap_Item.d w5) (rowsOf T_heap_Item.c T_heap_Item.d ([(T_heap_Item.mk ((v9.getD v11.toNat T_api_Entry.d).fNext) ((v9.getD v11.toNat T_api_Entry.d).fEnd))] : List T_heap_Item)) ((w5 ++ ([(T_heap_Item.mk ((v9.getD v11.toNat T_api_Entry.d).fNext) ((v9.getD v11.toNat T_api_Entry.d).fEnd))] : List T_heap_Item)).length) (rowsOf T_heap_Item.c T_heap_Item.d (w5 ++ ([(T_heap_Item.mk ((v9.getD v11.toNat T_api_Entry.d).fNext) ((v9.getD v11.toNat T_api_Entry.d).fEnd))] : List T_heap_Item))), (w5 ++ ([(T_heap_Item.mk ((v9.getD v11.toNat T_api_Entry.d).fNext) ((v9.getD v11.toNat T_api_Entry.d).fEnd))] : List T_heap_Item)).length * 40 ≤ 140737488355328, (w5 ++ ([(T_heap_Item.mk ((v9.getD v11.toNat T_api_Entry.d).fNext) ((v9.getD v11.toNat T_api_Entry.d).fEnd))] : List T_heap_Item)).length ≤ maxLen] (by kernel_rfl) ⟨h1, o2, (g_entry_Right_ok (v9.getD v11.toNat T_api_Entry.d) x1 q3), h4, (g_dial_Pick_1_ok (v9.getD v11.toNat T_api_Entry.d) a1_0 x2 q5), h6, ⟨rfl, fun i j hi hj => rows_flat (sz := 5) (e := T_heap_Item.c) (d := T_heap_Item.d) (fun _ => rfl) ([(T_heap_Item.mk ((v9.getD v11.toNat T_api_Entry.d).fNext) ((v9.getD v11.toNat T_api_Entry.d).fEnd))] : List T_heap_Item) i j hi hj⟩, (ext_app _ _), o7.1, o7.2, trivial⟩ (ih v9 v10 (add64 v11 (1 : Int)) (w5 ++ ([(T_heap_Item.mk ((v9.getD v11.toNat T_api_Entry.d).fNext) ((v9.getD v11.toNat T_api_Entry.d).fEnd))] : List T_heap_Item)) r hf)
        · exact toK_good allOk HPost.ends 17 _ _ _ _ [⟨[], [], [], [], [], [], []⟩, ⟨[], [], [], [], [], [], []⟩, ⟨[(1, .r (.one (.lit (.bool x1))) []), (5, .r (.one (.lit (.bool x2))) [])], [(2, true)], [], [], [], [], []⟩, ⟨[], [], [], [], [], [], []⟩] [true, false] ⟨[], [], [], [], [], [1, 5, 9, 10, 11], [5], []⟩ [(decide (v11 < v10)) = true, 0 ≤ v11 ∧ v11 < ((v9.length : Nat) : Int), SCall Try.prog 113 [.agg (T_api_Entry.c (v9.getD v11.toNat T_api_Entry.d))] (.one (.lit (.bool x1))), x1 = true, SCall Try.prog 108 [.agg (T_api_Entry.c (v9.getD v11.toNat T_api_Entry.d)), .one (.rp false 1 (fun j => ([.lit (.int .i64 a1_0)] : List C).getD (0 + j) .junk))] (.one (.lit (.bool x2))), x2 = false] (by kernel_rfl) ⟨h1, o2, (g_entry_Right_ok (v9.getD v11.toNat T_api_Entry.d) x1 q3), h4, (g_dial_Pick_1_ok (v9.getD v11.toNat T_api_Entry.d) a1_0 x2 q5), h6, trivial⟩ (ih v9 v10 (add64 v11 (1 : Int)) w5 r hf)
      · exact toK_good allOk HPost.ends 17 _ _ _ _ [⟨[], [], [], [], [], [], []⟩, ⟨[], [], [], [], [], [], []⟩, ⟨[(1, .r (.one (.lit (.bool x1))) [])], [(2, false)], [], [], [], [], []⟩, ⟨[], [], [], [], [], [], []⟩] [true, false] ⟨[], [], [], [], [], [1, 5, 9, 10, 11], [5], []⟩ [(decide (v11 < v10)) = true, 0 ≤ v11 ∧ v11 < ((v9.length : Nat) : Int), SCall Try.prog 113 [.agg (T_api_Entry.c (v9.getD v11.toNat T_api_Entry.d))] (.one (.lit (.bool x1))), x1 = false, false = false] (by kernel_rfl) ⟨h1, o2, (g_entry_Right_ok (v9.getD v11.toNat T_api_Entry.d) x1 q3), h4, rfl, trivial⟩ (ih v9 v10 (add64 v11 (1 : Int)) w5 r hf)
    · obtain ⟨x3, q8, hf⟩ := bind_some' hf
      replace hf := Option.some.inj hf
      subst hf
      exact toEndH_good allOk 8 _ _ [⟨[], [], [], [], [], [], []⟩, ⟨[], [], [(1, [5])], [], [], [], [(1, ⟨[], [(99999, 32)], [(99999, .rows 186 5 x3.length (rowsOf T_heap_Item.c T_heap_Item.d x3))], .one (.osl 99999 x3.length)⟩)]⟩] [false] ⟨[], [], [], [], [], [4], [32], [(32, 99999)]⟩ [(decide (v11 < v10)) = false, HCall Try.prog 140 [] [.one (cL 5 T_heap_Item.c T_heap_Item.d w5)] [(99999, .rows 186 5 x3.length (rowsOf T_heap_Item.c T_heap_Item.d x3))] (.one (.osl 99999 x3.length))] (by kernel_rfl) ⟨h1, (g_heap_Make_own w5 x3 q8), trivial⟩

/-- (doorman/dial.View).items -/
def g_dial_View_items_108 (a0 : T_dial_View) (a1_0 : Int) : Option (List T_heap_Item) :=
  g_dial_View_items_108_c0 a1_0  ((((a0.fBook.length : Nat) : Int) - (0 : Int)).toNat + 2) a0.fBook ((a0.fBook.length : Nat) : Int) (0 : Int) ([])

theorem g_dial_View_items_108_own (a0 : T_dial_View) (a1_0 : Int) (r : (List T_heap_Item)) (hf : g_dial_View_items_108 a0 a1_0 = some r) : HCall Try.prog 107 [] [.agg (T_dial_View.c a0), .one (.clo (.func 108) 0 1 (fun i => ([] : List C).getD i .junk) (fun i => ([.rp false 1 (fun j => ([.lit (.int .i64 a1_0)] : List C).getD (0 + j) .junk)] : List C).getD i .junk))] [(99999, .rows 186 5 r.length (rowsOf T_heap_Item.c T_heap_Item.d r))] (.one (.osl 99999 r.length)) := by
  refine HCall.of Try.func107 rfl rfl rfl rfl fun S0 w0 => ?_
  unfold g_dial_View_items_108 at hf
  exact toK_good allOk HPost.ends 8 _ _ _ _ [⟨[], [], [], [], [], [], []⟩, ⟨[], [], [], [], [], [], []⟩, ⟨[], [], [], [], [], [], []⟩] [] ⟨[], [], [], [], [(5, 5, 186, 5, rowsOf T_heap_Item.c T_heap_Item.d [])], [1, 5, 9, 10, 11], [5], []⟩ [] (by kernel_rfl) trivial (g_dial_View_items_108_c0_ok S0 w0 a1_0   ((((a0.fBook.length : Nat) : Int) - (0 : Int)).toNat + 2) a0.fBook ((a0.fBook.length : Nat) : Int) (0 : Int) ([]) r hf)

theorem g_dial_View_items_108_ok (a0 : T_dial_View) (a1_0 : Int) (r : (List T_heap_Item)) (hf : g_dial_View_items_108 a0 a1_0 = some r) : SCall Try.prog 107 [.agg (T_dial_View.c a0), .one (.clo (.func 108) 0 1 (fun i => ([] : List C).getD i .junk) (fun i => ([.rp false 1 (fun j => ([.lit (.int .i64 a1_0)] : List C).getD (0 + j) .junk)] : List C).getD i .junk))] (.one (cL 5 T_heap_Item.c T_heap_Item.d r)) := (g_dial_View_items_108_own a0 a1_0 r hf).pure

def g_dial_Pick_c0 (a1 : Int)  : Nat → (List T_heap_Item) → T_dial_View → T_api_End → Option (T_api_End × Bool)
  | 0, _, _, _ => none
  | fu + 1, v6, b2, b4 =>
    (g_heap_Pop v6).bind fun x2 =>
    bif (!x2.2.2) then
      some (x2.1.fEnd, x2.2.2)
    else
      (g_dial_View_open b2 x2.1.fEnd a1).bind fun x3 =>
      bif x3 then
        some (x2.1.fEnd, x2.2.2)
      else
        g_dial_Pick_c0 a1  fu x2.2.1 b2 b4

theorem g_dial_Pick_c0_ok (S0 : Nat → Prop) (w0 : Start) (a1 : Int)  : ∀ (fu : Nat) (v6 : (List T_heap_Item)) (b2 : T_dial_View) (b4 : T_api_End) (r : (T_api_End × Bool)), g_dial_Pick_c0 a1  fu v6 b2 b4 = some r → Good Try.prog 32 S0 w0 (bodyPost Try.prog Try.f53 (Post S0 w0 (.tup [(true, T_api_End.c r.1), (false, cB r.2)]))) (at_ [1, 1, 0] (bodyOf Try.f53)) ⟨[(2, .one (.ptr 2 0)), (3, .one (.rp false 1 (fun j => ([.lit (.int .i64 a1)] : List C).getD (0 + j) .junk))), (4, .one (.ptr 4 0)), (6, .one (cL 5 T_heap_Item.c T_heap_Item.d v6))], [(2, .box [cL 7 T_api_Entry.c T_api_Entry.d b2.fBook, cL 10 T_api_Peer.c T_api_Peer.d b2.fPeers, cL 5 T_api_Ban.c T_api_Ban.d b2.fBans]), (4, .box [.lit (.bool b4.fAddr.fV6), .lit (.int .u64 b4.fAddr.fHi), .lit (.int .u64 b4.fAddr.fLo), .lit (.int .i64 b4.fPort)])]⟩ := by
  intro fu
  induction fu with
  | zero =>
    intro v6 b2 b4 r hf
    simp [g_dial_Pick_c0] at hf
  | succ fu ih =>
    intro v6 b2 b4 r hf
    unfold g_dial_Pick_c0 at hf
    obtain ⟨x2, q2, hf⟩ := bind_some' hf
    rcases br_some hf with ⟨h3, hf⟩ | ⟨h3, hf⟩
    · replace hf := Option.some.inj hf
      subst hf
      exact toEnd_good allOk 10 _ _ [⟨[(1, .r (.tup [(true, T_heap_Item.c x2.1), (false, (cLs 5 T_heap_Item.c T_heap_Item.d) x2.2.1), (false, cB x2.2.2)]) [])], [], [], [], [], [], []⟩, ⟨[], [(2, true)], [], [], [], [], []⟩, ⟨[], [], [], [], [], [], []⟩] [true] [] [] [] [SCall Try.prog 110 [.one (cL 5 T_heap_Item.c T_heap_Item.d v6)] (.tup [(true, T_heap_Item.c x2.1), (false, (cLs 5 T_heap_Item.c T_heap_Item.d) x2.2.1), (false, cB x2.2.2)]), (!x2.2.2) = true, true = true] (by kernel_rfl) rfl ⟨(g_heap_Pop_ok v6 x2 q2), h3, rfl, trivial⟩
    · obtain ⟨x3, q4, hf⟩ := bind_some' hf
      rcases br_some hf with ⟨h5, hf⟩ | ⟨h5, hf⟩
      · replace hf := Option.some.inj hf
        subst hf
        exact toEnd_good allOk 10 _ _ [⟨[(1, .r (.tup [(true, T_heap_Item.c x2.1), (false, (cLs 5 T_heap_Item.c T_heap_Item.d) x2.2.1), (false, cB x2.2.2)]) [])], [], [], [], [], [], []⟩, ⟨[(7, .r (.one (.lit (.bool x3))) [])], [(2, false)], [], [], [], [], []⟩, ⟨[], [], [], [], [], [], []⟩] [true] [] [] [] [SCall Try.prog 110 [.one (cL 5 T_heap_Item.c T_heap_Item.d v6)] (.tup [(true, T_heap_Item.c x2.1), (false, (cLs 5 T_heap_Item.c T_heap_Item.d) x2.2.1), (false, cB x2.2.2)]), (!x2.2.2) = false, SCall Try.prog 111 [.agg (T_dial_View.c b2), .agg (T_api_End.c x2.1.fEnd), .one (.lit (.int .i64 a1))] (.one (.lit (.bool x3))), x3 = true] (by kernel_rfl) rfl ⟨(g_heap_Pop_ok v6 x2 q2), h3, (g_dial_View_open_ok b2 x2.1.fEnd a1 x3 q4), h5, trivial⟩
      · exact toK_good allOk Post.ends 12 _ _ _ _ [⟨[(1, .r (.tup [(true, T_heap_Item.c x2.1), (false, (cLs 5 T_heap_Item.c T_heap_Item.d) x2.2.1), (false, cB x2.2.2)]) [])], [], [], [], [], [], []⟩, ⟨[(7, .r (.one (.lit (.bool x3))) [])], [(2, false)], [], [], [], [], []⟩, ⟨[], [], [], [], [], [], []⟩] [false] ⟨[], [], [], [], [], [2, 3, 4, 6], [2, 4], []⟩ [SCall Try.prog 110 [.one (cL 5 T_heap_Item.c T_heap_Item.d v6)] (.tup [(true, T_heap_Item.c x2.1), (false, (cLs 5 T_heap_Item.c T_heap_Item.d) x2.2.1), (false, cB x2.2.2)]), (!x2.2.2) = false, SCall Try.prog 111 [.agg (T_dial_View.c b2), .agg (T_api_End.c x2.1.fEnd), .one (.lit (.int .i64 a1))] (.one (.lit (.bool x3))), x3 = false] (by kernel_rfl) ⟨(g_heap_Pop_ok v6 x2 q2), h3, (g_dial_View_open_ok b2 x2.1.fEnd a1 x3 q4), h5, trivial⟩ (ih x2.2.1 b2 b4 r hf)

/-- doorman/dial.Pick -/
def g_dial_Pick (a0 : T_dial_View) (a1 : Int) : Option (T_api_End × Bool) :=
  (g_dial_View_items_108 a0 a1).bind fun x1 =>
  g_dial_Pick_c0 a1  1000000 x1 a0 (T_api_End.mk (T_api_Addr.mk false (0 : Int) (0 : Int)) (0 : Int))

theorem g_dial_Pick_ok (a0 : T_dial_View) (a1 : Int) (r : (T_api_End × Bool)) (hf : g_dial_Pick a0 a1 = some r) : SCall Try.prog 53 [.agg (T_dial_View.c a0), .one (.lit (.int .i64 a1))] (.tup [(true, T_api_End.c r.1), (false, cB r.2)]) := by
  refine SCall.of Try.func53 rfl rfl rfl rfl fun S0 w0 => ?_
  unfold g_dial_Pick at hf
  obtain ⟨x1, q1, hf⟩ := bind_some' hf
  exact toK_good allOk Post.ends 5 _ _ _ _ [⟨[], [], [], [], [], [], []⟩, ⟨[(2, .r (.one (cL 5 T_heap_Item.c T_heap_Item.d x1)) [])], [], [(1, [3])], [], [], [], []⟩] [] ⟨[], [], [], [], [], [2, 3, 4, 6], [2, 4], []⟩ [SCall Try.prog 107 [.agg (T_dial_View.c a0), .one (.clo (.func 108) 0 1 (fun i => ([] : List C).getD i .junk) (fun i => ([.rp false 1 (fun j => ([.lit (.int .i64 a1)] : List C).getD (0 + j) .junk)] : List C).getD i .junk))] (.one (cL 5 T_heap_Item.c T_heap_Item.d x1))] (by kernel_rfl) ⟨(g_dial_View_items_108_ok a0 a1 x1 q1), trivial⟩ (g_dial_Pick_c0_ok S0 w0 a1   1000000 x1 a0 (T_api_End.mk (T_api_Addr.mk false (0 : Int) (0 : Int)) (0 : Int)) r hf)

/-- doorman/doormanref06.Bits -/
def g_doormanref06_Bits (a0 : T_api_Addr) : Option Int :=
  bif a0.fV6 then
    some (128 : Int)
  else
    some (32 : Int)

theorem g_doormanref06_Bits_ok (a0 : T_api_Addr) (r : Int) (hf : g_doormanref06_Bits a0 = some r) : SCall Try.prog 101 [.agg (T_api_Addr.c a0)] (.one (.lit (.int .i64 r))) := by
  refine SCall.of Try.func101 rfl rfl rfl rfl fun S0 w0 => ?_
  unfold g_doormanref06_Bits at hf
  rcases br_some hf with ⟨h1, hf⟩ | ⟨h1, hf⟩
  · replace hf := Option.some.inj hf
    subst hf
    exact toEnd_good allOk 8 _ _ [⟨[], [], [], [], [], [], []⟩, ⟨[], [], [], [], [], [], []⟩, ⟨[], [], [], [], [], [], []⟩] [true] [] [] [] [a0.fV6 = true] (by kernel_rfl) rfl ⟨h1, trivial⟩
  · replace hf := Option.some.inj hf
    subst hf
    exact toEnd_good allOk 9 _ _ [⟨[], [], [], [], [], [], []⟩, ⟨[], [], [], [], [], [], []⟩, ⟨[], [], [], [], [], [], []⟩] [false] [] [] [] [a0.fV6 = false] (by kernel_rfl) rfl ⟨h1, trivial⟩

/-- doorman/doormanref06.Right -/
def g_doormanref06_Right (a0 : T_api_Addr) : Option Bool :=
  bif (!a0.fV6) then
    bif (a0.fHi == (0 : Int)) then
      some (decide (a0.fLo < (4294967296 : Int)))
    else
      some false
  else
    bif (a0.fHi != (0 : Int)) then
      some true
    else
      some ((IntKind.wrap .u64 (Int.tdiv a0.fLo (4294967296 : Int))) != (65535 : Int))

theorem g_doormanref06_Right_ok (a0 : T_api_Addr) (r : Bool) (hf : g_doormanref06_Right a0 = some r) : SCall Try.prog 114 [.agg (T_api_Addr.c a0)] (.one (.lit (.bool r))) := by
  refine SCall.of Try.func114 rfl rfl rfl rfl fun S0 w0 => ?_
  unfold g_doormanref06_Right at hf
  rcases br_some hf with ⟨h1, hf⟩ | ⟨h1, hf⟩
  · rcases br_some hf with ⟨h2, hf⟩ | ⟨h2, hf⟩
    · replace hf := Option.some.inj hf
      subst hf
      exact toEnd_good allOk 8 _ _ [⟨[], [], [], [], [], [], []⟩, ⟨[], [], [], [], [], [], []⟩, ⟨[], [(3, true)], [], [], [], [], []⟩] [true] [] [] [] [(!a0.fV6) = true, (a0.fHi == (0 : Int)) = true] (by kernel_rfl) rfl ⟨h1, h2, trivial⟩
    · replace hf := Option.some.inj hf
      subst hf
      exact toEnd_good allOk 8 _ _ [⟨[], [], [], [], [], [], []⟩, ⟨[], [], [], [], [], [], []⟩, ⟨[], [(3, false)], [], [], [], [], []⟩] [true] [] [] [] [(!a0.fV6) = true, (a0.fHi == (0 : Int)) = false] (by kernel_rfl) rfl ⟨h1, h2, trivial⟩
  · rcases br_some hf with ⟨h3, hf⟩ | ⟨h3, hf⟩
    · replace hf := Option.some.inj hf
      subst hf
      exact toEnd_good allOk 9 _ _ [⟨[], [], [], [], [], [], []⟩, ⟨[], [], [], [], [], [], []⟩, ⟨[], [(3, true)], [], [], [], [], []⟩] [false] [] [] [] [(!a0.fV6) = false, (a0.fHi != (0 : Int)) = true] (by kernel_rfl) rfl ⟨h1, h3, trivial⟩
    · replace hf := Option.some.inj hf
      subst hf
      exact toEnd_good allOk 9 _ _ [⟨[], [], [], [], [], [], []⟩, ⟨[], [], [], [], [], [], []⟩, ⟨[], [(3, false)], [], [], [], [], []⟩] [false] [] [] [] [(!a0.fV6) = false, (a0.fHi != (0 : Int)) = false, (4294967296 : Int) ≠ 0] (by kernel_rfl) rfl ⟨h1, h3, (by decide), trivial⟩

def g_doormanref07_Cut_c1 (a0 : Int) (a1 : Int) (a2 : Int) (v9 : Int) (v10 : Int) (v11 : Int) (kg_doormanref07_Cut_c0 : Int → Int → Int → Int → Option (Int × Int)) (v8 : Int) : Option (Int × Int) :=
  bif (decide ((add64 v11 (64 : Int)) < a2)) then
    need (v10 ≠ 0) <|
    bif ((Int.tmod (IntKind.wrap .u64 (Int.tdiv a1 v10)) (2 : Int)) == (1 : Int)) then
      kg_doormanref07_Cut_c0 v8 (IntKind.wrap .u64 (v9 + v10)) (IntKind.wrap .u64 (Int.tdiv v10 (2 : Int))) (add64 v11 (1 : Int))
    else
      kg_doormanref07_Cut_c0 v8 v9 (IntKind.wrap .u64 (Int.tdiv v10 (2 : Int))) (add64 v11 (1 : Int))
  else
    kg_doormanref07_Cut_c0 v8 v9 (IntKind.wrap .u64 (Int.tdiv v10 (2 : Int))) (add64 v11 (1 : Int))

theorem g_doormanref07_Cut_c1_ok (S0 : Nat → Prop) (w0 : Start) (a0 : Int) (a1 : Int) (a2 : Int) (v9 : Int) (v10 : Int) (v11 : Int) (kg_doormanref07_Cut_c0 : Int → Int → Int → Int → Option (Int × Int)) (hg_doormanref07_Cut_c0 : ∀ (v8_ : Int) (v9_ : Int) (v10_ : Int) (v11_ : Int) (r : (Int × Int)), kg_doormanref07_Cut_c0 v8_ v9_ v10_ v11_ = some r → Good Try.prog 47 S0 w0 (bodyPost Try.prog Try.f164 (Post S0 w0 (.tup [(false, (cI .u64) r.1), (false, (cI .u64) r.2)]))) (at_ [1, 1, 1, 0, 1, 0] (bodyOf Try.f164)) ⟨[(0, .one (.lit (.int .u64 a0))), (1, .one (.lit (.int .u64 a1))), (2, .one (.lit (.int .i64 a2))), (8, .one (.lit (.int .u64 v8_))), (9, .one (.lit (.int .u64 v9_))), (10, .one (.lit (.int .u64 v10_))), (11, .one (.lit (.int .i64 v11_)))], []⟩) (v8 : Int) (r : (Int × Int)) (hf : g_doormanref07_Cut_c1 a0 a1 a2 v9 v10 v11 kg_doormanref07_Cut_c0 v8 = some r) : Good Try.prog 47 S0 w0 (bodyPost Try.prog Try.f164 (Post S0 w0 (.tup [(false, (cI .u64) r.1), (false, (cI .u64) r.2)]))) (at_ [1, 1, 1, 0, 1, 0, 0, 1, 0, 0, 1] (bodyOf Try.f164)) ⟨[(0, .one (.lit (.int .u64 a0))), (1, .one (.lit (.int .u64 a1))), (2, .one (.lit (.int .i64 a2))), (8, .one (.lit (.int .u64 v8))), (9, .one (.lit (.int .u64 v9))), (10, .one (.lit (.int .u64 v10))), (11, .one (.lit (.int .i64 v11)))], []⟩ := by
  unfold g_doormanref07_Cut_c1 at hf
  rcases br_some hf with ⟨h5, hf⟩ | ⟨h5, hf⟩
  · obtain ⟨o6, hf⟩ := need_some hf
    rcases br_some hf with ⟨h7, hf⟩ | ⟨h7, hf⟩
    · exact toK_good allOk Post.ends 9 _ _ _ _ [⟨[], [(4, true)], [], [], [], [], []⟩, ⟨[], [], [], [], [], [], []⟩, ⟨[], [], [], [], [], [], []⟩, ⟨[], [], [], [], [], [], []⟩] [true] ⟨[], [], [], [], [], [0, 1, 2, 8, 9, 10, 11], [], []⟩ [(decide ((add64 v11 (64 : Int)) < a2)) = true, v10 ≠ 0, (2 : Int) ≠ 0, ((Int.tmod (IntKind.wrap .u64 (Int.tdiv a1 v10)) (2 : Int)) == (1 : Int)) = true, (2 : Int) ≠ 0] (by kernel_rfl) ⟨h5, o6, (by decide), h7, (by decide), trivial⟩ (hg_doormanref07_Cut_c0 v8 (IntKind.wrap .u64 (v9 + v10)) (IntKind.wrap .u64 (Int.tdiv v10 (2 : Int))) (add64 v11 (1 : Int)) r hf)
    · exact toK_good allOk Post.ends 9 _ _ _ _ [⟨[], [(4, true)], [], [], [], [], []⟩, ⟨[], [], [], [], [], [], []⟩, ⟨[], [], [], [], [], [], []⟩] [false] ⟨[], [], [], [], [], [0, 1, 2, 8, 9, 10, 11], [], []⟩ [(decide ((add64 v11 (64 : Int)) < a2)) = true, v10 ≠ 0, (2 : Int) ≠ 0, ((Int.tmod (IntKind.wrap .u64 (Int.tdiv a1 v10)) (2 : Int)) == (1 : Int)) = false, (2 : Int) ≠ 0] (by kernel_rfl) ⟨h5, o6, (by decide), h7, (by decide), trivial⟩ (hg_doormanref07_Cut_c0 v8 v9 (IntKind.wrap .u64 (Int.tdiv v10 (2 : Int))) (add64 v11 (1 : Int)) r hf)
  · exact toK_good allOk Post.ends 9 _ _ _ _ [⟨[], [(4, false)], [], [], [], [], []⟩, ⟨[], [], [], [], [], [], []⟩, ⟨[], [], [], [], [], [], []⟩] [false] ⟨[], [], [], [], [], [0, 1, 2, 8, 9, 10, 11], [], []⟩ [(decide ((add64 v11 (64 : Int)) < a2)) = false, false = false, (2 : Int) ≠ 0] (by kernel_rfl) ⟨h5, rfl, (by decide), trivial⟩ (hg_doormanref07_Cut_c0 v8 v9 (IntKind.wrap .u64 (Int.tdiv v10 (2 : Int))) (add64 v11 (1 : Int)) r hf)

def g_doormanref07_Cut_c0 (a0 : Int) (a1 : Int) (a2 : Int)  : Nat → Int → Int → Int → Int → Option (Int × Int)
  | 0, _, _, _, _ => none
  | fu + 1, v8, v9, v10, v11 =>
    bif (decide (v11 < (64 : Int))) then
      bif (decide (v11 < a2)) then
        need (v10 ≠ 0) <|
        bif ((Int.tmod (IntKind.wrap .u64 (Int.tdiv a0 v10)) (2 : Int)) == (1 : Int)) then
          g_doormanref07_Cut_c1 a0 a1 a2 v9 v10 v11 (g_doormanref07_Cut_c0 a0 a1 a2  fu) (IntKind.wrap .u64 (v8 + v10))
        else
          g_doormanref07_Cut_c1 a0 a1 a2 v9 v10 v11 (g_doormanref07_Cut_c0 a0 a1 a2  fu) v8
      else
        g_doormanref07_Cut_c1 a0 a1 a2 v9 v10 v11 (g_doormanref07_Cut_c0 a0 a1 a2  fu) v8
    else
      some (v8, v9)

theorem g_doormanref07_Cut_c0_ok (S0 : Nat → Prop) (w0 : Start) (a0 : Int) (a1 : Int) (a2 : Int)  : ∀ (fu : Nat) (v8 : Int) (v9 : Int) (v10 : Int) (v11 : Int) (r : (Int × Int)), g_doormanref07_Cut_c0 a0 a1 a2  fu v8 v9 v10 v11 = some r → Good Try.prog 47 S0 w0 (bodyPost Try.prog Try.f164 (Post S0 w0 (.tup [(false, (cI .u64) r.1), (false, (cI .u64) r.2)]))) (at_ [1, 1, 1, 0, 1, 0] (bodyOf Try.f164)) ⟨[(0, .one (.lit (.int .u64 a0))), (1, .one (.lit (.int .u64 a1))), (2, .one (.lit (.int .i64 a2))), (8, .one (.lit (.int .u64 v8))), (9, .one (.lit (.int .u64 v9))), (10, .one (.lit (.int .u64 v10))), (11, .one (.lit (.int .i64 v11)))], []⟩ := by
  intro fu
  induction fu with
  | zero =>
    intro v8 v9 v10 v11 r hf
    simp [g_doormanref07_Cut_c0] at hf
  | succ fu ih =>
    intro v8 v9 v10 v11 r hf
    unfold g_doormanref07_Cut_c0 at hf
    rcases br_some hf with ⟨h1, hf⟩ | ⟨h1, hf⟩
    · rcases br_some hf with ⟨h2, hf⟩ | ⟨h2, hf⟩
      · obtain ⟨o3, hf⟩ := need_some hf
        rcases br_some hf with ⟨h4, hf⟩ | ⟨h4, hf⟩
        · exact toK_good allOk Post.ends 13 _ _ _ _ [⟨[], [], [], [], [], [], []⟩, ⟨[], [(3, true)], [], [], [], [], []⟩, ⟨[], [], [], [], [], [], []⟩] [true, true] ⟨[], [], [], [], [], [0, 1, 2, 8, 9, 10, 11], [], []⟩ [(decide (v11 < (64 : Int))) = true, (decide (v11 < a2)) = true, v10 ≠ 0, (2 : Int) ≠ 0, ((Int.tmod (IntKind.wrap .u64 (Int.tdiv a0 v10)) (2 : Int)) == (1 : Int)) = true] (by kernel_rfl) ⟨h1, h2, o3, (by decide), h4, trivial⟩ (g_doormanref07_Cut_c1_ok S0 w0 a0 a1 a2 v9 v10 v11 (g_doormanref07_Cut_c0 a0 a1 a2  fu) ih (IntKind.wrap .u64 (v8 + v10)) r hf)
        · exact toK_good allOk Post.ends 13 _ _ _ _ [⟨[], [], [], [], [], [], []⟩, ⟨[], [(3, true)], [], [], [], [], []⟩] [true, false] ⟨[], [], [], [], [], [0, 1, 2, 8, 9, 10, 11], [], []⟩ [(decide (v11 < (64 : Int))) = true, (decide (v11 < a2)) = true, v10 ≠ 0, (2 : Int) ≠ 0, ((Int.tmod (IntKind.wrap .u64 (Int.tdiv a0 v10)) (2 : Int)) == (1 : Int)) = false] (by kernel_rfl) ⟨h1, h2, o3, (by decide), h4, trivial⟩ (g_doormanref07_Cut_c1_ok S0 w0 a0 a1 a2 v9 v10 v11 (g_doormanref07_Cut_c0 a0 a1 a2  fu) ih v8 r hf)
      · exact toK_good allOk Post.ends 13 _ _ _ _ [⟨[], [], [], [], [], [], []⟩, ⟨[], [(3, false)], [], [], [], [], []⟩] [true, false] ⟨[], [], [], [], [], [0, 1, 2, 8, 9, 10, 11], [], []⟩ [(decide (v11 < (64 : Int))) = true, (decide (v11 < a2)) = false, false = false] (by kernel_rfl) ⟨h1, h2, rfl, trivial⟩ (g_doormanref07_Cut_c1_ok S0 w0 a0 a1 a2 v9 v10 v11 (g_doormanref07_Cut_c0 a0 a1 a2  fu) ih v8 r hf)
    · replace hf := Option.some.inj hf
      subst hf
      exact toEnd_good allOk 8 _ _ [⟨[], [], [], [], [], [], []⟩, ⟨[], [], [], [], [], [], []⟩] [false] [] [] [] [(decide (v11 < (64 : Int))) = false] (by kernel_rfl) rfl ⟨h1, trivial⟩

/-- doorman/doormanref07.Cut -/
def g_doormanref07_Cut (a0 : Int) (a1 : Int) (a2 : Int) : Option (Int × Int) :=
  g_doormanref07_Cut_c0 a0 a1 a2  (((64 : Int) - (0 : Int)).toNat + 2) (0 : Int) (0 : Int) (9223372036854775808 : Int) (0 : Int)

theorem g_doormanref07_Cut_ok (a0 : Int) (a1 : Int) (a2 : Int) (r : (Int × Int)) (hf : g_doormanref07_Cut a0 a1 a2 = some r) : SCall Try.prog 164 [.one (.lit (.int .u64 a0)), .one (.lit (.int .u64 a1)), .one (.lit (.int .i64 a2))] (.tup [(false, (cI .u64) r.1), (false, (cI .u64) r.2)]) := by
  refine SCall.of Try.func164 rfl rfl rfl rfl fun S0 w0 => ?_
  unfold g_doormanref07_Cut at hf
  exact toK_good allOk Post.ends 10 _ _ _ _ [⟨[], [], [], [], [], [], []⟩, ⟨[], [], [], [], [], [], []⟩, ⟨[], [], [], [], [], [], []⟩, ⟨[], [], [], [], [], [], []⟩] [] ⟨[], [], [], [], [], [0, 1, 2, 8, 9, 10, 11], [], []⟩ [] (by kernel_rfl) trivial (g_doormanref07_Cut_c0_ok S0 w0 a0 a1 a2   (((64 : Int) - (0 : Int)).toNat + 2) (0 : Int) (0 : Int) (9223372036854775808 : Int) (0 : Int) r hf)

def g_doormanref07_Mask_c1 (b2 : T_api_Addr) (b4 : T_api_Addr)  (v1 : Int) : Option T_api_Addr :=
  bif b2.fV6 then
    (g_doormanref07_Cut b2.fHi b2.fLo v1).bind fun x3 =>
    some (T_api_Addr.mk true x3.1 x3.2)
  else
    (g_doormanref07_Cut (0 : Int) b2.fLo (add64 (96 : Int) v1)).bind fun x4 =>
    some (T_api_Addr.mk false (0 : Int) x4.2)

theorem g_doormanref07_Mask_c1_ok (S0 : Nat → Prop) (w0 : Start) (b2 : T_api_Addr) (b4 : T_api_Addr)  (v1 : Int) (r : T_api_Addr) (hf : g_doormanref07_Mask_c1 b2 b4  v1 = some r) : Good Try.prog 45 S0 w0 (bodyPost Try.prog Try.f155 (Post S0 w0 (.agg (T_api_Addr.c r)))) (at_ [1, 1, 1, 1] (bodyOf Try.f155)) ⟨[(1, .one (.lit (.int .i64 v1))), (2, .one (.ptr 2 0)), (4, .one (.ptr 4 0))], [(2, .box [.lit (.bool b2.fV6), .lit (.int .u64 b2.fHi), .lit (.int .u64 b2.fLo)]), (4, .box [.lit (.bool b4.fV6), .lit (.int .u64 b4.fHi), .lit (.int .u64 b4.fLo)])]⟩ := by
  unfold g_doormanref07_Mask_c1 at hf
  rcases br_some hf with ⟨h6, hf⟩ | ⟨h6, hf⟩
  · obtain ⟨x3, q7, hf⟩ := bind_some' hf
    replace hf := Option.some.inj hf
    subst hf
    exact toEnd_good allOk 8 _ _ [⟨[], [], [], [], [], [], []⟩, ⟨[(5, .r (.tup [(false, (cI .u64) x3.1), (false, (cI .u64) x3.2)]) [])], [], [], [], [], [], []⟩, ⟨[], [], [], [], [], [], []⟩] [true] [] [] [] [b2.fV6 = true, SCall Try.prog 164 [.one (.lit (.int .u64 b2.fHi)), .one (.lit (.int .u64 b2.fLo)), .one (.lit (.int .i64 v1))] (.tup [(false, (cI .u64) x3.1), (false, (cI .u64) x3.2)])] (by kernel_rfl) rfl ⟨h6, (g_doormanref07_Cut_ok b2.fHi b2.fLo v1 x3 q7), trivial⟩
  · obtain ⟨x4, q8, hf⟩ := bind_some' hf
    replace hf := Option.some.inj hf
    subst hf
    exact toEnd_good allOk 9 _ _ [⟨[], [], [], [], [], [], []⟩, ⟨[(4, .r (.tup [(false, (cI .u64) x4.1), (false, (cI .u64) x4.2)]) [])], [], [], [], [], [], []⟩, ⟨[], [], [], [], [], [], []⟩] [false] [] [] [] [b2.fV6 = false, SCall Try.prog 164 [.one (.lit (.int .u64 (0 : Int))), .one (.lit (.int .u64 b2.fLo)), .one (.lit (.int .i64 (add64 (96 : Int) v1)))] (.tup [(false, (cI .u64) x4.1), (false, (cI .u64) x4.2)])] (by kernel_rfl) rfl ⟨h6, (g_doormanref07_Cut_ok (0 : Int) b2.fLo (add64 (96 : Int) v1) x4 q8), trivial⟩

def g_doormanref07_Mask_c0   (v1 : Int) (b2 : T_api_Addr) (b4 : T_api_Addr) : Option T_api_Addr :=
  (g_doormanref06_Bits b2).bind fun x2 =>
  bif (decide (v1 > x2)) then
    g_doormanref07_Mask_c1 b2 b4  x2
  else
    g_doormanref07_Mask_c1 b2 b4  v1

theorem g_doormanref07_Mask_c0_ok (S0 : Nat → Prop) (w0 : Start)   (v1 : Int) (b2 : T_api_Addr) (b4 : T_api_Addr) (r : T_api_Addr) (hf : g_doormanref07_Mask_c0   v1 b2 b4 = some r) : Good Try.prog 45 S0 w0 (bodyPost Try.prog Try.f155 (Post S0 w0 (.agg (T_api_Addr.c r)))) (at_ [1, 1, 1] (bodyOf Try.f155)) ⟨[(1, .one (.lit (.int .i64 v1))), (2, .one (.ptr 2 0)), (4, .one (.ptr 4 0))], [(2, .box [.lit (.bool b2.fV6), .lit (.int .u64 b2.fHi), .lit (.int .u64 b2.fLo)]), (4, .box [.lit (.bool b4.fV6), .lit (.int .u64 b4.fHi), .lit (.int .u64 b4.fLo)])]⟩ := by
  unfold g_doormanref07_Mask_c0 at hf
  obtain ⟨x2, q4, hf⟩ := bind_some' hf
  rcases br_some hf with ⟨h5, hf⟩ | ⟨h5, hf⟩
  · exact toK_good allOk Post.ends 5 _ _ _ _ [⟨[(2, .r (.one (.lit (.int .i64 x2))) [])], [], [], [], [], [], []⟩, ⟨[(1, .r (.one (.lit (.int .i64 x2))) [])], [], [], [], [], [], []⟩] [true] ⟨[], [], [], [], [], [1, 2, 4], [2, 4], []⟩ [SCall Try.prog 101 [.agg (T_api_Addr.c b2)] (.one (.lit (.int .i64 x2))), (decide (v1 > x2)) = true, SCall Try.prog 101 [.agg (T_api_Addr.c b2)] (.one (.lit (.int .i64 x2)))] (by kernel_rfl) ⟨(g_doormanref06_Bits_ok b2 x2 q4), h5, (g_doormanref06_Bits_ok b2 x2 q4), trivial⟩ (g_doormanref07_Mask_c1_ok S0 w0 b2 b4   x2 r hf)
  · exact toK_good allOk Post.ends 5 _ _ _ _ [⟨[(2, .r (.one (.lit (.int .i64 x2))) [])], [], [], [], [], [], []⟩] [false] ⟨[], [], [], [], [], [1, 2, 4], [2, 4], []⟩ [SCall Try.prog 101 [.agg (T_api_Addr.c b2)] (.one (.lit (.int .i64 x2))), (decide (v1 > x2)) = false] (by kernel_rfl) ⟨(g_doormanref06_Bits_ok b2 x2 q4), h5, trivial⟩ (g_doormanref07_Mask_c1_ok S0 w0 b2 b4   v1 r hf)

/-- doorman/doormanref07.Mask -/
def g_doormanref07_Mask (a0 : T_api_Addr) (a1 : Int) : Option T_api_Addr :=
  (g_doormanref06_Right a0).bind fun x1 =>
  bif (!x1) then
    some (T_api_Addr.mk false (0 : Int) (0 : Int))
  else
    bif (decide (a1 < (0 : Int))) then
      g_doormanref07_Mask_c0   (0 : Int) a0 (T_api_Addr.mk false (0 : Int) (0 : Int))
    else
      g_doormanref07_Mask_c0   a1 a0 (T_api_Addr.mk false (0 : Int) (0 : Int))

theorem g_doormanref07_Mask_ok (a0 : T_api_Addr) (a1 : Int) (r : T_api_Addr) (hf : g_doormanref07_Mask a0 a1 = some r) : SCall Try.prog 155 [.agg (T_api_Addr.c a0), .one (.lit (.int .i64 a1))] (.agg (T_api_Addr.c r)) := by
  refine SCall.of Try.func155 rfl rfl rfl rfl fun S0 w0 => ?_
  unfold g_doormanref07_Mask at hf
  obtain ⟨x1, q1, hf⟩ := bind_some' hf
  rcases br_some hf with ⟨h2, hf⟩ | ⟨h2, hf⟩
  · replace hf := Option.some.inj hf
    subst hf
    exact toEnd_good allOk 8 _ _ [⟨[], [], [], [], [], [], []⟩, ⟨[(1, .r (.one (.lit (.bool x1))) [])], [], [], [], [], [], []⟩, ⟨[], [], [], [], [], [], []⟩] [true] [] [] [] [SCall Try.prog 114 [.agg (T_api_Addr.c a0)] (.one (.lit (.bool x1))), (!x1) = true] (by kernel_rfl) rfl ⟨(g_doormanref06_Right_ok a0 x1 q1), h2, trivial⟩
  · rcases br_some hf with ⟨h3, hf⟩ | ⟨h3, hf⟩
    · exact toK_good allOk Post.ends 12 _ _ _ _ [⟨[], [], [], [], [], [], []⟩, ⟨[(1, .r (.one (.lit (.bool x1))) [])], [], [], [], [], [], []⟩, ⟨[], [], [], [], [], [], []⟩, ⟨[], [], [], [], [], [], []⟩] [false, true] ⟨[], [], [], [], [], [1, 2, 4], [2, 4], []⟩ [SCall Try.prog 114 [.agg (T_api_Addr.c a0)] (.one (.lit (.bool x1))), (!x1) = false, (decide (a1 < (0 : Int))) = true] (by kernel_rfl) ⟨(g_doormanref06_Right_ok a0 x1 q1), h2, h3, trivial⟩ (g_doormanref07_Mask_c0_ok S0 w0    (0 : Int) a0 (T_api_Addr.mk false (0 : Int) (0 : Int)) r hf)
    · exact toK_good allOk Post.ends 12 _ _ _ _ [⟨[], [], [], [], [], [], []⟩, ⟨[(1, .r (.one (.lit (.bool x1))) [])], [], [], [], [], [], []⟩, ⟨[], [], [], [], [], [], []⟩] [false, false] ⟨[], [], [], [], [], [1, 2, 4], [2, 4], []⟩ [SCall Try.prog 114 [.agg (T_api_Addr.c a0)] (.one (.lit (.bool x1))), (!x1) = false, (decide (a1 < (0 : Int))) = false] (by kernel_rfl) ⟨(g_doormanref06_Right_ok a0 x1 q1), h2, h3, trivial⟩ (g_doormanref07_Mask_c0_ok S0 w0    a1 a0 (T_api_Addr.mk false (0 : Int) (0 : Int)) r hf)

/-- doorman/doormanref07.Make -/
def g_doormanref07_Make (a0 : T_api_Addr) (a1 : Int) : Option (T_api_Net × Bool) :=
  (g_doormanref06_Right a0).bind fun x1 =>
  bif (!x1) then
    some ((T_api_Net.mk (T_api_Addr.mk false (0 : Int) (0 : Int)) (0 : Int)), false)
  else
    bif (decide (a1 < (0 : Int))) then
      some ((T_api_Net.mk (T_api_Addr.mk false (0 : Int) (0 : Int)) (0 : Int)), false)
    else
      (g_doormanref06_Bits a0).bind fun x2 =>
      bif (decide (a1 > x2)) then
        some ((T_api_Net.mk (T_api_Addr.mk false (0 : Int) (0 : Int)) (0 : Int)), false)
      else
        (g_doormanref07_Mask a0 a1).bind fun x3 =>
        some ((T_api_Net.mk x3 a1), true)

theorem g_doormanref07_Make_ok (a0 : T_api_Addr) (a1 : Int) (r : (T_api_Net × Bool)) (hf : g_doormanref07_Make a0 a1 = some r) : SCall Try.prog 138 [.agg (T_api_Addr.c a0), .one (.lit (.int .i64 a1))] (.tup [(true, T_api_Net.c r.1), (false, cB r.2)]) := by
  refine SCall.of Try.func138 rfl rfl rfl rfl fun S0 w0 => ?_
  unfold g_doormanref07_Make at hf
  obtain ⟨x1, q1, hf⟩ := bind_some' hf
  rcases br_some hf with ⟨h2, hf⟩ | ⟨h2, hf⟩
  · replace hf := Option.some.inj hf
    subst hf
    exact toEnd_good allOk 8 _ _ [⟨[], [], [], [], [], [], []⟩, ⟨[(1, .r (.one (.lit (.bool x1))) [])], [(3, true)], [], [], [], [], []⟩, ⟨[], [], [], [], [], [], []⟩] [true] [] [] [] [SCall Try.prog 114 [.agg (T_api_Addr.c a0)] (.one (.lit (.bool x1))), (!x1) = true, true = true] (by kernel_rfl) rfl ⟨(g_doormanref06_Right_ok a0 x1 q1), h2, rfl, trivial⟩
  · rcases br_some hf with ⟨h3, hf⟩ | ⟨h3, hf⟩
    · replace hf := Option.some.inj hf
      subst hf
      exact toEnd_good allOk 8 _ _ [⟨[], [], [], [], [], [], []⟩, ⟨[(1, .r (.one (.lit (.bool x1))) [])], [(3, false), (7, true)], [], [], [], [], []⟩, ⟨[], [], [], [], [], [], []⟩] [true] [] [] [] [SCall Try.prog 114 [.agg (T_api_Addr.c a0)] (.one (.lit (.bool x1))), (!x1) = false, (decide (a1 < (0 : Int))) = true, true = true] (by kernel_rfl) rfl ⟨(g_doormanref06_Right_ok a0 x1 q1), h2, h3, rfl, trivial⟩
    · obtain ⟨x2, q4, hf⟩ := bind_some' hf
      rcases br_some hf with ⟨h5, hf⟩ | ⟨h5, hf⟩
      · replace hf := Option.some.inj hf
        subst hf
        exact toEnd_good allOk 8 _ _ [⟨[], [], [], [], [], [], []⟩, ⟨[(1, .r (.one (.lit (.bool x1))) []), (10, .r (.one (.lit (.int .i64 x2))) [])], [(3, false), (7, false)], [], [], [], [], []⟩, ⟨[], [], [], [], [], [], []⟩] [true] [] [] [] [SCall Try.prog 114 [.agg (T_api_Addr.c a0)] (.one (.lit (.bool x1))), (!x1) = false, (decide (a1 < (0 : Int))) = false, SCall Try.prog 101 [.agg (T_api_Addr.c a0)] (.one (.lit (.int .i64 x2))), (decide (a1 > x2)) = true] (by kernel_rfl) rfl ⟨(g_doormanref06_Right_ok a0 x1 q1), h2, h3, (g_doormanref06_Bits_ok a0 x2 q4), h5, trivial⟩
      · obtain ⟨x3, q6, hf⟩ := bind_some' hf
        replace hf := Option.some.inj hf
        subst hf
        exact toEnd_good allOk 9 _ _ [⟨[], [], [], [], [], [], []⟩, ⟨[(1, .r (.one (.lit (.bool x1))) []), (10, .r (.one (.lit (.int .i64 x2))) [])], [(3, false), (7, false)], [], [], [], [], []⟩, ⟨[(2, .r (.agg (T_api_Addr.c x3)) [])], [], [], [], [], [], []⟩] [false] [] [] [] [SCall Try.prog 114 [.agg (T_api_Addr.c a0)] (.one (.lit (.bool x1))), (!x1) = false, (decide (a1 < (0 : Int))) = false, SCall Try.prog 101 [.agg (T_api_Addr.c a0)] (.one (.lit (.int .i64 x2))), (decide (a1 > x2)) = false, SCall Try.prog 155 [.agg (T_api_Addr.c a0), .one (.lit (.int .i64 a1))] (.agg (T_api_Addr.c x3))] (by kernel_rfl) rfl ⟨(g_doormanref06_Right_ok a0 x1 q1), h2, h3, (g_doormanref06_Bits_ok a0 x2 q4), h5, (g_doormanref07_Mask_ok a0 a1 x3 q6), trivial⟩

/-- doorman/doormanref07.Full -/
def g_doormanref07_Full (a0 : T_api_Addr) : Option T_api_Net :=
  (g_doormanref06_Bits a0).bind fun x1 =>
  (g_doormanref07_Make a0 x1).bind fun x2 =>
  some x2.1

theorem g_doormanref07_Full_ok (a0 : T_api_Addr) (r : T_api_Net) (hf : g_doormanref07_Full a0 = some r) : SCall Try.prog 105 [.agg (T_api_Addr.c a0)] (.agg (T_api_Net.c r)) := by
  refine SCall.of Try.func105 rfl rfl rfl rfl fun S0 w0 => ?_
  unfold g_doormanref07_Full at hf
  obtain ⟨x1, q1, hf⟩ := bind_some' hf
  obtain ⟨x2, q2, hf⟩ := bind_some' hf
  replace hf := Option.some.inj hf
  subst hf
  exact toEnd_good allOk 6 _ _ [⟨[], [], [], [], [], [], []⟩, ⟨[(2, .r (.one (.lit (.int .i64 x1))) []), (3, .r (.tup [(true, T_api_Net.c x2.1), (false, cB x2.2)]) [])], [], [], [[], [], [1], [0, 2, 1], [3, 0, 2, 1], [4, 3, 0, 2, 1], [4, 3, 0, 2, 1], [], [7, 5, 4, 3, 0, 2, 1], [6, 4, 3, 0, 2, 1, 8, 7, 5]], [], [], []⟩, ⟨[], [], [], [], [], [], []⟩] [] [] [] [] [SCall Try.prog 101 [.agg (T_api_Addr.c a0)] (.one (.lit (.int .i64 x1))), SCall Try.prog 138 [.agg (T_api_Addr.c a0), .one (.lit (.int .i64 x1))] (.tup [(true, T_api_Net.c x2.1), (false, cB x2.2)])] (by kernel_rfl) rfl ⟨(g_doormanref06_Bits_ok a0 x1 q1), (g_doormanref07_Make_ok a0 x1 x2 q2), trivial⟩

/-- doorman/dial.When$1 -/
def g_dial_When_1 (a0 : T_api_Entry) (c0 : Int) : Option Bool :=
  bif (a0.fState == (1 : Int)) then
    some (decide (a0.fNext > c0))
  else
    some false

theorem g_dial_When_1_ok (a0 : T_api_Entry) (c0 : Int) (r : Bool) (hf : g_dial_When_1 a0 c0 = some r) : SCall Try.prog 139 [.agg (T_api_Entry.c a0), .one (.rp false 1 (fun j => ([.lit (.int .i64 c0)] : List C).getD (0 + j) .junk))] (.one (.lit (.bool r))) := by
  refine SCall.of Try.func139 rfl rfl rfl rfl fun S0 w0 => ?_
  unfold g_dial_When_1 at hf
  rcases br_some hf with ⟨h1, hf⟩ | ⟨h1, hf⟩
  · replace hf := Option.some.inj hf
    subst hf
    exact toEnd_good allOk 4 _ _ [⟨[], [], [], [], [], [], []⟩, ⟨[], [(3, true)], [], [], [], [], []⟩] [] [] [] [] [(a0.fState == (1 : Int)) = true] (by kernel_rfl) rfl ⟨h1, trivial⟩
  · replace hf := Option.some.inj hf
    subst hf
    exact toEnd_good allOk 4 _ _ [⟨[], [], [], [], [], [], []⟩, ⟨[], [(3, false)], [], [], [], [], []⟩] [] [] [] [] [(a0.fState == (1 : Int)) = false] (by kernel_rfl) rfl ⟨h1, trivial⟩

def g_dial_View_items_139_c0 (a1_0 : Int)  : Nat → (List T_api_Entry) → Int → Int → (List T_heap_Item) → Option (List T_heap_Item)
  | 0, _, _, _, _ => none
  | fu + 1, v9, v10, v11, w5 =>
    bif (decide (v11 < v10)) then
      need (0 ≤ v11 ∧ v11 < ((v9.length : Nat) : Int)) <|
      (g_entry_Right (v9.getD v11.toNat T_api_Entry.d)).bind fun x1 =>
      bif x1 then
        (g_dial_When_1 (v9.getD v11.toNat T_api_Entry.d) a1_0).bind fun x2 =>
        bif x2 then
          need ((w5 ++ ([(T_heap_Item.mk ((v9.getD v11.toNat T_api_Entry.d).fNext) ((v9.getD v11.toNat T_api_Entry.d).fEnd))] : List T_heap_Item)).length * 40 ≤ 140737488355328 ∧ (w5 ++ ([(T_heap_Item.mk ((v9.getD v11.toNat T_api_Entry.d).fNext) ((v9.getD v11.toNat T_api_Entry.d).fEnd))] : List T_heap_Item)).length ≤ maxLen) <|
          g_dial_View_items_139_c0 a1_0  fu v9 v10 (add64 v11 (1 : Int)) (w5 ++ ([(T_heap_Item.mk ((v9.getD v11.toNat T_api_Entry.d).fNext) ((v9.getD v11.toNat T_api_Entry.d).fEnd))] : List T_heap_Item))
        else
          g_dial_View_items_139_c0 a1_0  fu v9 v10 (add64 v11 (1 : Int)) w5
      else
        g_dial_View_items_139_c0 a1_0  fu v9 v10 (add64 v11 (1 : Int)) w5
    else
      (g_heap_Make w5).bind fun x3 =>
      some x3

theorem g_dial_View_items_139_c0_ok (S0 : Nat → Prop) (w0 : Start) (a1_0 : Int)  : ∀ (fu : Nat) (v9 : (List T_api_Entry)) (v10 : Int) (v11 : Int) (w5 : (List T_heap_Item)) (r : (List T_heap_Item)), g_dial_View_items_139_c0 a1_0  fu v9 v10 v11 w5 = some r → Good Try.prog 33 S0 w0 (bodyPost Try.prog Try.f107 (HPost S0 w0 [(99999, .rows 186 5 r.length (rowsOf T_heap_Item.c T_heap_Item.d r))] (.one (.osl 99999 r.length)))) (at_ [1, 1, 0, 1, 0] (bodyOf Try.f107)) ⟨[(1, .one (.clo (.func 139) 0 1 (fun i => ([] : List C).getD i .junk) (fun i => ([.rp false 1 (fun j => ([.lit (.int .i64 a1_0)] : List C).getD (0 + j) .junk)] : List C).getD i .junk))), (5, .one (.osl 5 w5.length)), (9, .one (cL 7 T_api_Entry.c T_api_Entry.d v9)), (10, .one (.lit (.int .i64 v10))), (11, .one (.lit (.int .i64 v11)))], [(5, .rows 186 5 w5.length (rowsOf T_heap_Item.c T_heap_Item.d w5))]⟩ := by
  intro fu
  induction fu with
  | zero =>
    intro v9 v10 v11 w5 r hf
    simp [g_dial_View_items_139_c0] at hf
  | succ fu ih =>
    intro v9 v10 v11 w5 r hf
    unfold g_dial_View_items_139_c0 at hf
    rcases br_some hf with ⟨h1, hf⟩ | ⟨h1, hf⟩
    · obtain ⟨o2, hf⟩ := need_some hf
      obtain ⟨x1, q3, hf⟩ := bind_some' hf
      rcases br_some hf with ⟨h4, hf⟩ | ⟨h4, hf⟩
      · obtain ⟨x2, q5, hf⟩ := bind_some' hf
        rcases br_some hf with ⟨h6, hf⟩ | ⟨h6, hf⟩
        · obtain ⟨o7, hf⟩ := need_some hf
          exact toK_good allOk HPost.ends 17 _ _ _ _ [⟨[], [], [], [], [], [], []⟩, ⟨[], [], [], [], [], [], []⟩, ⟨[(1, .r (.one (.lit (.bool x1))) []), (5, .r (.one (.lit (.bool x2))) [])], [(2, true)], [], [], [], [], []⟩, ⟨[(7, .c ((w5 ++ ([(T_heap_Item.mk ((v9.getD v11.toNat T_api_Entry.d).fNext) ((v9.getD v11.toNat T_api_Entry.d).fEnd))] : List T_heap_Item)).length) (rowsOf T_heap_Item.c T_heap_Item.d (w5 ++ ([(T_heap_Item.mk ((v9.getD v11.toNat T_api_Entry.d).fNext) ((v9.getD v11.toNat T_api_Entry.d).fEnd))] : List T_heap_Item))))], [], [], [], [], [(6, (([(T_heap_Item.mk ((v9.getD v11.toNat T_api_Entry.d).fNext) ((v9.getD v11.toNat T_api_Entry.d).fEnd))] : List T_heap_Item).length, rowsOf T_heap_Item.c T_heap_Item.d ([(T_heap_Item.mk ((v9.getD v11.toNat T_api_Entry.d).fNext) ((v9.getD v11.toNat T_api_Entry.d).fEnd))] : List T_heap_Item)))], []⟩, ⟨[], [], [], [], [], [], []⟩] [true, true] ⟨[], [], [], [], [], [1, 5, 9, 10, 11], [29], [(29, 5)]⟩ [(decide (v11 < v10)) = true, 0 ≤ v11 ∧ v11 < ((v9.length : Nat) : Int), SCall Try.prog 113 [.agg (T_api_Entry.c (v9.getD v11.toNat T_api_Entry.d))] (.one (.lit (.bool x1))), x1 = true, SCall Try.prog 139 [.agg (T_api_Entry.c (v9.getD v11.toNat T_api_Entry.d)), .one (.rp false 1 (fun j => ([.lit (.int .i64 a1_0)] : List C).getD (0 + j) .junk))] (.one (.lit (.bool x2))), x2 = true, ([(T_heap_Item.mk ((v9.getD v11.toNat T_api_Entry.d).fNext) ((v9.getD v11.toNat T_api_Entry.d).fEnd))] : List T_heap_Item).length = 1 ∧ ∀ i j, i < 1 → j < 5 → rowsOf T_heap_Item.c T_heap_Item.d ([(T_heap_Item.mk ((v9.getD v11.toNat T_api_Entry.d).fNext) ((v9.getD v11.toNat T_api_Entry.d).fEnd))] : List T_heap_Item) i j = (([(T_heap_Item.mk ((v9.getD v11.toNat T_api_Entry.d).fNext) ((v9.getD v11.toNat T_api_Entry.d).fEnd))] : List T_heap_Item).flatMap T_heap_Item.c).getD (i * 5 + j) .junk, Ext 5 w5.length (([(T_heap_Item.mk ((v9.getD v11.toNat T_api_Entry.d).fNext) ((v9.getD v11.toNat T_api_Entry.d).fEnd))] : List T_heap_Item).length) (rowsOf T_heap_Item.c T_heap_Item.d w5) (rowsOf T_heap_Item.c T_heap_Item.d ([(T_heap_Item.mk ((v9.getD v11.toNat T_api_Entry.d).fNext) ((v9.getD v11.toNat T_api_Entry.d).fEnd))] : List T_heap_Item)) ((w5 ++ ([(T_heap_Item.mk ((v9.getD v11.toNat T_api_Entry.d).fNext) ((v9.getD v11.toNat T_api_Entry.d).fEnd))] : List T_heap_Item)).length) (rowsOf T_heap_Item.c T_heap_Item.d (w5 ++ ([(T_heap_Item.mk ((v9.getD v11.toNat T_api_Entry.d).fNext) ((v9.getD v11.toNat T_api_Entry.d).fEnd))] : List T_heap_Item))), (w5 ++ ([(T_heap_Item.mk ((v9.getD v11.toNat T_api_Entry.d).fNext) ((v9.getD v11.toNat T_api_Entry.d).fEnd))] : List T_heap_Item)).length * 40 ≤ 140737488355328, (w5 ++ ([(T_heap_Item.mk ((v9.getD v11.toNat T_api_Entry.d).fNext) ((v9.getD v11.toNat T_api_Entry.d).fEnd))] : List T_heap_Item)).length ≤ maxLen] (by kernel_rfl) ⟨h1, o2, (g_entry_Right_ok (v9.getD v11.toNat T_api_Entry.d) x1 q3), h4, (g_dial_When_1_ok (v9.getD v11.toNat T_api_Entry.d) a1_0 x2 q5), h6, ⟨rfl, fun i j hi hj => rows_flat (sz := 5) (e := T_heap_Item.c) (d := T_heap_Item.d) (fun _ => rfl) ([(T_heap_Item.mk ((v9.getD v11.toNat T_api_Entry.d).fNext) ((v9.getD v11.toNat T_api_Entry.d).fEnd))] : List T_heap_Item) i j hi hj⟩, (ext_app _ _), o7.1, o7.2, trivial⟩ (ih v9 v10 (add64 v11 (1 : Int)) (w5 ++ ([(T_heap_Item.mk ((v9.getD v11.toNat T_api_Entry.d).fNext) ((v9.getD v11.toNat T_api_Entry.d).fEnd))] : List T_heap_Item)) r hf)
        · exact toK_good allOk HPost.ends 17 _ _ _ _ [⟨[], [], [], [], [], [], []⟩, ⟨[], [], [], [], [], [], []⟩, ⟨[(1, .r (.one (.lit (.bool x1))) []), (5, .r (.one (.lit (.bool x2))) [])], [(2, true)], [], [], [], [], []⟩, ⟨[], [], [], [], [], [], []⟩] [true, false] ⟨[], [], [], [], [], [1, 5, 9, 10, 11], [5], []⟩ [(decide (v11 < v10)) = true, 0 ≤ v11 ∧ v11 < ((v9.length : Nat) : Int), SCall Try.prog 113 [.agg (T_api_Entry.c (v9.getD v11.toNat T_api_Entry.d))] (.one (.lit (.bool x1))), x1 = true, SCall Try.prog 139 [.agg (T_api_Entry.c (v9.getD v11.toNat T_api_Entry.d)), .one (.rp false 1 (fun j => ([.lit (.int .i64 a1_0)] : List C).getD (0 + j) .junk))] (.one (.lit (.bool x2))), x2 = false] (by kernel_rfl) ⟨h1, o2, (g_entry_Right_ok (v9.getD v11.toNat T_api_Entry.d) x1 q3), h4, (g_dial_When_1_ok (v9.getD v11.toNat T_api_Entry.d) a1_0 x2 q5), h6, trivial⟩ (ih v9 v10 (add64 v11 (1 : Int)) w5 r hf)
      · exact toK_good allOk HPost.ends 17 _ _ _ _ [⟨[], [], [], [], [], [], []⟩, ⟨[], [], [], [], [], [], []⟩, ⟨[(1, .r (.one (.lit (.bool x1))) [])], [(2, false)], [], [], [], [], []⟩, ⟨[], [], [], [], [], [], []⟩] [true, false] ⟨[], [], [], [], [], [1, 5, 9, 10, 11], [5], []⟩ [(decide (v11 < v10)) = true, 0 ≤ v11 ∧ v11 < ((v9.length : Nat) : Int), SCall Try.prog 113 [.agg (T_api_Entry.c (v9.getD v11.toNat T_api_Entry.d))] (.one (.lit (.bool x1))), x1 = false, false = false] (by kernel_rfl) ⟨h1, o2, (g_entry_Right_ok (v9.getD v11.toNat T_api_Entry.d) x1 q3), h4, rfl, trivial⟩ (ih v9 v10 (add64 v11 (1 : Int)) w5 r hf)
    · obtain ⟨x3, q8, hf⟩ := bind_some' hf
      replace hf := Option.some.inj hf
      subst hf
      exact toEndH_good allOk 8 _ _ [⟨[], [], [], [], [], [], []⟩, ⟨[], [], [(1, [5])], [], [], [], [(1, ⟨[], [(99999, 32)], [(99999, .rows 186 5 x3.length (rowsOf T_heap_Item.c T_heap_Item.d x3))], .one (.osl 99999 x3.length)⟩)]⟩] [false] ⟨[], [], [], [], [], [4], [32], [(32, 99999)]⟩ [(decide (v11 < v10)) = false, HCall Try.prog 140 [] [.one (cL 5 T_heap_Item.c T_heap_Item.d w5)] [(99999, .rows 186 5 x3.length (rowsOf T_heap_Item.c T_heap_Item.d x3))] (.one (.osl 99999 x3.length))] (by kernel_rfl) ⟨h1, (g_heap_Make_own w5 x3 q8), trivial⟩

/-- (doorman/dial.View).items -/
def g_dial_View_items_139 (a0 : T_dial_View) (a1_0 : Int) : Option (List T_heap_Item) :=
  g_dial_View_items_139_c0 a1_0  ((((a0.fBook.length : Nat) : Int) - (0 : Int)).toNat + 2) a0.fBook ((a0.fBook.length : Nat) : Int) (0 : Int) ([])

theorem g_dial_View_items_139_own (a0 : T_dial_View) (a1_0 : Int) (r : (List T_heap_Item)) (hf : g_dial_View_items_139 a0 a1_0 = some r) : HCall Try.prog 107 [] [.agg (T_dial_View.c a0), .one (.clo (.func 139) 0 1 (fun i => ([] : List C).getD i .junk) (fun i => ([.rp false 1 (fun j => ([.lit (.int .i64 a1_0)] : List C).getD (0 + j) .junk)] : List C).getD i .junk))] [(99999, .rows 186 5 r.length (rowsOf T_heap_Item.c T_heap_Item.d r))] (.one (.osl 99999 r.length)) := by
  refine HCall.of Try.func107 rfl rfl rfl rfl fun S0 w0 => ?_
  unfold g_dial_View_items_139 at hf
  exact toK_good allOk HPost.ends 8 _ _ _ _ [⟨[], [], [], [], [], [], []⟩, ⟨[], [], [], [], [], [], []⟩, ⟨[], [], [], [], [], [], []⟩] [] ⟨[], [], [], [], [(5, 5, 186, 5, rowsOf T_heap_Item.c T_heap_Item.d [])], [1, 5, 9, 10, 11], [5], []⟩ [] (by kernel_rfl) trivial (g_dial_View_items_139_c0_ok S0 w0 a1_0   ((((a0.fBook.length : Nat) : Int) - (0 : Int)).toNat + 2) a0.fBook ((a0.fBook.length : Nat) : Int) (0 : Int) ([]) r hf)

theorem g_dial_View_items_139_ok (a0 : T_dial_View) (a1_0 : Int) (r : (List T_heap_Item)) (hf : g_dial_View_items_139 a0 a1_0 = some r) : SCall Try.prog 107 [.agg (T_dial_View.c a0), .one (.clo (.func 139) 0 1 (fun i => ([] : List C).getD i .junk) (fun i => ([.rp false 1 (fun j => ([.lit (.int .i64 a1_0)] : List C).getD (0 + j) .junk)] : List C).getD i .junk))] (.one (cL 5 T_heap_Item.c T_heap_Item.d r)) := (g_dial_View_items_139_own a0 a1_0 r hf).pure

/-- doorman/dial.When -/
def g_dial_When (a0 : T_dial_View) (a1 : Int) : Option Int :=
  (g_dial_View_items_139 a0 a1).bind fun x1 =>
  (g_heap_Pop x1).bind fun x2 =>
  some x2.1.fKey

theorem g_dial_When_ok (a0 : T_dial_View) (a1 : Int) (r : Int) (hf : g_dial_When a0 a1 = some r) : SCall Try.prog 106 [.agg (T_dial_View.c a0), .one (.lit (.int .i64 a1))] (.one (.lit (.int .i64 r))) := by
  refine SCall.of Try.func106 rfl rfl rfl rfl fun S0 w0 => ?_
  unfold g_dial_When at hf
  obtain ⟨x1, q1, hf⟩ := bind_some' hf
  obtain ⟨x2, q2, hf⟩ := bind_some' hf
  replace hf := Option.some.inj hf
  subst hf
  exact toEnd_good allOk 6 _ _ [⟨[], [], [], [], [], [], []⟩, ⟨[(2, .r (.one (cL 5 T_heap_Item.c T_heap_Item.d x1)) []), (3, .r (.tup [(true, T_heap_Item.c x2.1), (false, (cLs 5 T_heap_Item.c T_heap_Item.d) x2.2.1), (false, cB x2.2.2)]) [])], [], [(1, [3])], [], [], [], []⟩, ⟨[], [], [], [], [], [], []⟩] [] [] [] [] [SCall Try.prog 107 [.agg (T_dial_View.c a0), .one (.clo (.func 139) 0 1 (fun i => ([] : List C).getD i .junk) (fun i => ([.rp false 1 (fun j => ([.lit (.int .i64 a1)] : List C).getD (0 + j) .junk)] : List C).getD i .junk))] (.one (cL 5 T_heap_Item.c T_heap_Item.d x1)), SCall Try.prog 110 [.one (cL 5 T_heap_Item.c T_heap_Item.d x1)] (.tup [(true, T_heap_Item.c x2.1), (false, (cLs 5 T_heap_Item.c T_heap_Item.d) x2.2.1), (false, cB x2.2.2)])] (by kernel_rfl) rfl ⟨(g_dial_View_items_139_ok a0 a1 x1 q1), (g_heap_Pop_ok x1 x2 q2), trivial⟩

/-- doorman/dial.May -/
def g_dial_May (a0 : T_dial_View) (a1 : T_api_Entry) (a2 : Int) : Option Bool :=
  (g_entry_Right a1).bind fun x1 =>
  bif x1 then
    (g_entry_Due a1 a2).bind fun x2 =>
    bif x2 then
      (g_dial_View_open a0 a1.fEnd a2).bind fun x3 =>
      some x3
    else
      some false
  else
    some false

theorem g_dial_May_ok (a0 : T_dial_View) (a1 : T_api_Entry) (a2 : Int) (r : Bool) (hf : g_dial_May a0 a1 a2 = some r) : SCall Try.prog 56 [.agg (T_dial_View.c a0), .agg (T_api_Entry.c a1), .one (.lit (.int .i64 a2))] (.one (.lit (.bool r))) := by
  refine SCall.of Try.func56 rfl rfl rfl rfl fun S0 w0 => ?_
  unfold g_dial_May at hf
  obtain ⟨x1, q1, hf⟩ := bind_some' hf
  rcases br_some hf with ⟨h2, hf⟩ | ⟨h2, hf⟩
  · obtain ⟨x2, q3, hf⟩ := bind_some' hf
    rcases br_some hf with ⟨h4, hf⟩ | ⟨h4, hf⟩
    · obtain ⟨x3, q5, hf⟩ := bind_some' hf
      replace hf := Option.some.inj hf
      subst hf
      exact toEnd_good allOk 4 _ _ [⟨[], [], [], [], [], [], []⟩, ⟨[(1, .r (.one (.lit (.bool x1))) []), (5, .r (.one (.lit (.bool x2))) []), (12, .r (.one (.lit (.bool x3))) [])], [(2, true), (7, true)], [], [], [], [], []⟩] [] [] [] [] [SCall Try.prog 113 [.agg (T_api_Entry.c a1)] (.one (.lit (.bool x1))), x1 = true, SCall Try.prog 109 [.agg (T_api_Entry.c a1), .one (.lit (.int .i64 a2))] (.one (.lit (.bool x2))), x2 = true, SCall Try.prog 111 [.agg (T_dial_View.c a0), .agg (T_api_End.c a1.fEnd), .one (.lit (.int .i64 a2))] (.one (.lit (.bool x3)))] (by kernel_rfl) rfl ⟨(g_entry_Right_ok a1 x1 q1), h2, (g_entry_Due_ok a1 a2 x2 q3), h4, (g_dial_View_open_ok a0 a1.fEnd a2 x3 q5), trivial⟩
    · replace hf := Option.some.inj hf
      subst hf
      exact toEnd_good allOk 4 _ _ [⟨[], [], [], [], [], [], []⟩, ⟨[(1, .r (.one (.lit (.bool x1))) []), (5, .r (.one (.lit (.bool x2))) [])], [(2, true), (7, false)], [], [], [], [], []⟩] [] [] [] [] [SCall Try.prog 113 [.agg (T_api_Entry.c a1)] (.one (.lit (.bool x1))), x1 = true, SCall Try.prog 109 [.agg (T_api_Entry.c a1), .one (.lit (.int .i64 a2))] (.one (.lit (.bool x2))), x2 = false] (by kernel_rfl) rfl ⟨(g_entry_Right_ok a1 x1 q1), h2, (g_entry_Due_ok a1 a2 x2 q3), h4, trivial⟩
  · replace hf := Option.some.inj hf
    subst hf
    exact toEnd_good allOk 4 _ _ [⟨[], [], [], [], [], [], []⟩, ⟨[(1, .r (.one (.lit (.bool x1))) [])], [(2, false)], [], [], [], [], []⟩] [] [] [] [] [SCall Try.prog 113 [.agg (T_api_Entry.c a1)] (.one (.lit (.bool x1))), x1 = false] (by kernel_rfl) rfl ⟨(g_entry_Right_ok a1 x1 q1), h2, trivial⟩

/-- doorman/doormanlaw28.awake -/
def g_doormanlaw28_awake  : Option Bool :=
  (g_doormanlaw28_at (1 : Int) (5 : Int)).bind fun x1 =>
  (g_doormanlaw28_at (2 : Int) (3 : Int)).bind fun x2 =>
  (g_dial_Pick (T_dial_View.mk ([x1, x2] : List T_api_Entry) ([] : (List T_api_Peer)) ([] : (List T_api_Ban))) (9 : Int)).bind fun x3 =>
  (g_doormanref07_Full (T_api_Addr.mk false (0 : Int) (131072 : Int))).bind fun x4 =>
  (g_dial_Pick (T_dial_View.mk ([x1, x2] : List T_api_Entry) ([] : (List T_api_Peer)) ([(T_api_Ban.mk x4 (20 : Int))] : List T_api_Ban)) (9 : Int)).bind fun x5 =>
  bif x3.2 then
    (g_doormanlaw28_at (2 : Int) (0 : Int)).bind fun x6 =>
    bif (decide (x3.1 = x6.fEnd)) then
      bif x5.2 then
        (g_doormanlaw28_at (1 : Int) (0 : Int)).bind fun x7 =>
        bif (decide (x5.1 = x7.fEnd)) then
          (g_dial_When (T_dial_View.mk ([x1, x2] : List T_api_Entry) ([] : (List T_api_Peer)) ([(T_api_Ban.mk x4 (20 : Int))] : List T_api_Ban)) (4 : Int)).bind fun x8 =>
          bif (x8 == (5 : Int)) then
            (g_dial_May (T_dial_View.mk ([x1, x2] : List T_api_Entry) ([] : (List T_api_Peer)) ([(T_api_Ban.mk x4 (20 : Int))] : List T_api_Ban)) x1 (5 : Int)).bind fun x9 =>
            some x9
          else
            some false
        else
          some false
      else
        some false
    else
      some false
  else
    some false

theorem g_doormanlaw28_awake_ok  (r : Bool) (hf : g_doormanlaw28_awake  = some r) : SCall Try.prog 52 [] (.one (.lit (.bool r))) := by
  refine SCall.of Try.func52 rfl rfl rfl rfl fun S0 w0 => ?_
  unfold g_doormanlaw28_awake at hf
  obtain ⟨x1, q1, hf⟩ := bind_some' hf
  obtain ⟨x2, q2, hf⟩ := bind_some' hf
  obtain ⟨x3, q3, hf⟩ := bind_some' hf
  obtain ⟨x4, q4, hf⟩ := bind_some' hf
  obtain ⟨x5, q5, hf⟩ := bind_some' hf
  rcases br_some hf with ⟨h6, hf⟩ | ⟨h6, hf⟩
  · obtain ⟨x6, q7, hf⟩ := bind_some' hf
    rcases br_some hf with ⟨h8, hf⟩ | ⟨h8, hf⟩
    · rcases br_some hf with ⟨h9, hf⟩ | ⟨h9, hf⟩
      · obtain ⟨x7, q10, hf⟩ := bind_some' hf
        rcases br_some hf with ⟨h11, hf⟩ | ⟨h11, hf⟩
        · obtain ⟨x8, q12, hf⟩ := bind_some' hf
          rcases br_some hf with ⟨h13, hf⟩ | ⟨h13, hf⟩
          · obtain ⟨x9, q14, hf⟩ := bind_some' hf
            replace hf := Option.some.inj hf
            subst hf
            exact toEnd_good allOk 12 _ _ [⟨[], [], [], [], [], [], []⟩, ⟨[(0, .r (.agg (T_api_Entry.c x1)) []), (1, .r (.agg (T_api_Entry.c x2)) [])], [], [], [], [], [(2, (([x1, x2] : List T_api_Entry).length, rowsOf T_api_Entry.c T_api_Entry.d ([x1, x2] : List T_api_Entry)))], []⟩, ⟨[(1, .r (.tup [(true, T_api_End.c x3.1), (false, cB x3.2)]) [])], [], [], [], [(0, [(1, cL 10 T_api_Peer.c T_api_Peer.d []), (2, cL 5 T_api_Ban.c T_api_Ban.d [])])], [], []⟩, ⟨[(1, .r (.agg (T_api_Net.c x4)) [])], [], [], [], [], [(3, (([(T_api_Ban.mk x4 (20 : Int))] : List T_api_Ban).length, rowsOf T_api_Ban.c T_api_Ban.d ([(T_api_Ban.mk x4 (20 : Int))] : List T_api_Ban)))], []⟩, ⟨[(1, .r (.tup [(true, T_api_End.c x5.1), (false, cB x5.2)]) [])], [], [], [], [(0, [(1, cL 10 T_api_Peer.c T_api_Peer.d [])])], [], []⟩, ⟨[(3, .r (.agg (T_api_Entry.c x6)) []), (5, .r (.one (.lit (.bool (decide (x3.1 = x6.fEnd))))) []), (12, .r (.agg (T_api_Entry.c x7)) []), (14, .r (.one (.lit (.bool (decide (x5.1 = x7.fEnd))))) []), (18, .r (.one (.lit (.int .i64 x8))) []), (23, .r (.agg (T_api_Entry.c x1)) []), (24, .r (.one (.lit (.bool x9))) [])], [(1, true), (7, true), (10, true), (16, true), (21, true)], [], [[], [0], [1, 0], [1, 0], [3, 1, 0], [2, 1, 0, 4, 3], [1, 0, 5, 2, 4, 3], [6, 1, 0, 5, 2, 4, 3], [7, 6, 1, 0, 5, 2, 4, 3], [7, 6, 1, 0, 5, 2, 4, 3, 8], [9, 7, 6, 1, 0, 5, 2, 4, 3, 8], [10, 9, 7, 6, 1, 0, 5, 2, 4, 3, 8], [10, 9, 7, 6, 1, 0, 5, 2, 4, 3, 8], [12, 10, 9, 7, 6, 1, 0, 5, 2, 4, 3, 8], [11, 10, 9, 7, 6, 1, 0, 5, 2, 4, 3, 8, 13, 12], [10, 9, 7, 6, 1, 0, 5, 2, 4, 3, 8, 14, 11, 13, 12], [15, 10, 9, 7, 6, 1, 0, 5, 2, 4, 3, 8, 14, 11, 13, 12], [16, 15, 10, 9, 7, 6, 1, 0, 5, 2, 4, 3, 8, 14, 11, 13, 12], [17, 16, 15, 10, 9, 7, 6, 1, 0, 5, 2, 4, 3, 8, 14, 11, 13, 12], [18, 17, 16, 15, 10, 9, 7, 6, 1, 0, 5, 2, 4, 3, 8, 14, 11, 13, 12], [16, 15, 10, 9, 7, 6, 1, 0, 5, 2, 4, 3, 8, 14, 11, 13, 12, 19, 18, 17], [20, 16, 15, 10, 9, 7, 6, 1, 0, 5, 2, 4, 3, 8, 14, 11, 13, 12, 19, 18, 17], [21, 20, 16, 15, 10, 9, 7, 6, 1, 0, 5, 2, 4, 3, 8, 14, 11, 13, 12, 19, 18, 17], [21, 20, 16, 15, 10, 9, 7, 6, 1, 0, 5, 2, 4, 3, 8, 14, 11, 13, 12, 19, 18, 17], [22, 21, 20, 16, 15, 10, 9, 7, 6, 1, 0, 5, 2, 4, 3, 8, 14, 11, 13, 12, 19, 18, 17, 23], [21, 20, 16, 15, 10, 9, 7, 6, 1, 0, 5, 2, 4, 3, 8, 14, 11, 13, 12, 19, 18, 17, 24, 22, 23], [25, 21, 20, 16, 15, 10, 9, 7, 6, 1, 0, 5, 2, 4, 3, 8, 14, 11, 13, 12, 19, 18, 17, 24, 22, 23]], [(17, [(1, cL 10 T_api_Peer.c T_api_Peer.d [])]), (22, [(1, cL 10 T_api_Peer.c T_api_Peer.d [])])], [], []⟩] [] [] [] [] [SCall Try.prog 104 [.one (.lit (.int .u64 (1 : Int))), .one (.lit (.int .i64 (5 : Int)))] (.agg (T_api_Entry.c x1)), SCall Try.prog 104 [.one (.lit (.int .u64 (2 : Int))), .one (.lit (.int .i64 (3 : Int)))] (.agg (T_api_Entry.c x2)), ([x1, x2] : List T_api_Entry).length = 2 ∧ ∀ i j, i < 2 → j < 7 → rowsOf T_api_Entry.c T_api_Entry.d ([x1, x2] : List T_api_Entry) i j = (([x1, x2] : List T_api_Entry).flatMap T_api_Entry.c).getD (i * 7 + j) .junk, SCall Try.prog 53 [.agg (T_dial_View.c (T_dial_View.mk ([x1, x2] : List T_api_Entry) ([] : (List T_api_Peer)) ([] : (List T_api_Ban)))), .one (.lit (.int .i64 (9 : Int)))] (.tup [(true, T_api_End.c x3.1), (false, cB x3.2)]), SCall Try.prog 105 [.agg (T_api_Addr.c (T_api_Addr.mk false (0 : Int) (131072 : Int)))] (.agg (T_api_Net.c x4)), ([(T_api_Ban.mk x4 (20 : Int))] : List T_api_Ban).length = 1 ∧ ∀ i j, i < 1 → j < 5 → rowsOf T_api_Ban.c T_api_Ban.d ([(T_api_Ban.mk x4 (20 : Int))] : List T_api_Ban) i j = (([(T_api_Ban.mk x4 (20 : Int))] : List T_api_Ban).flatMap T_api_Ban.c).getD (i * 5 + j) .junk, SCall Try.prog 53 [.agg (T_dial_View.c (T_dial_View.mk ([x1, x2] : List T_api_Entry) ([] : (List T_api_Peer)) ([(T_api_Ban.mk x4 (20 : Int))] : List T_api_Ban))), .one (.lit (.int .i64 (9 : Int)))] (.tup [(true, T_api_End.c x5.1), (false, cB x5.2)]), x3.2 = true, SCall Try.prog 104 [.one (.lit (.int .u64 (2 : Int))), .one (.lit (.int .i64 (0 : Int)))] (.agg (T_api_Entry.c x6)), ∀ w, (do eqGuard .eql 35 (.tmp 27) (.tmp 29) (.agg #[.bool x3.1.fAddr.fV6, .int .u64 x3.1.fAddr.fHi, .int .u64 x3.1.fAddr.fLo, .int .i64 x3.1.fPort]) (.agg #[.bool x6.fEnd.fAddr.fV6, .int .u64 x6.fEnd.fAddr.fHi, .int .u64 x6.fEnd.fAddr.fLo, .int .i64 x6.fEnd.fPort]); binOp .eql 35 (.agg #[.bool x3.1.fAddr.fV6, .int .u64 x3.1.fAddr.fHi, .int .u64 x3.1.fAddr.fLo, .int .i64 x3.1.fPort]) (.agg #[.bool x6.fEnd.fAddr.fV6, .int .u64 x6.fEnd.fAddr.fHi, .int .u64 x6.fEnd.fAddr.fLo, .int .i64 x6.fEnd.fPort]) : Sem Value).run Try.prog w = .ok (.bool (decide (x3.1 = x6.fEnd))) w, (decide (x3.1 = x6.fEnd)) = true, x5.2 = true, SCall Try.prog 104 [.one (.lit (.int .u64 (1 : Int))), .one (.lit (.int .i64 (0 : Int)))] (.agg (T_api_Entry.c x7)), ∀ w, (do eqGuard .eql 35 (.tmp 36) (.tmp 38) (.agg #[.bool x5.1.fAddr.fV6, .int .u64 x5.1.fAddr.fHi, .int .u64 x5.1.fAddr.fLo, .int .i64 x5.1.fPort]) (.agg #[.bool x7.fEnd.fAddr.fV6, .int .u64 x7.fEnd.fAddr.fHi, .int .u64 x7.fEnd.fAddr.fLo, .int .i64 x7.fEnd.fPort]); binOp .eql 35 (.agg #[.bool x5.1.fAddr.fV6, .int .u64 x5.1.fAddr.fHi, .int .u64 x5.1.fAddr.fLo, .int .i64 x5.1.fPort]) (.agg #[.bool x7.fEnd.fAddr.fV6, .int .u64 x7.fEnd.fAddr.fHi, .int .u64 x7.fEnd.fAddr.fLo, .int .i64 x7.fEnd.fPort]) : Sem Value).run Try.prog w = .ok (.bool (decide (x5.1 = x7.fEnd))) w, (decide (x5.1 = x7.fEnd)) = true, SCall Try.prog 106 [.agg (T_dial_View.c (T_dial_View.mk ([x1, x2] : List T_api_Entry) ([] : (List T_api_Peer)) ([(T_api_Ban.mk x4 (20 : Int))] : List T_api_Ban))), .one (.lit (.int .i64 (4 : Int)))] (.one (.lit (.int .i64 x8))), (x8 == (5 : Int)) = true, SCall Try.prog 104 [.one (.lit (.int .u64 (1 : Int))), .one (.lit (.int .i64 (5 : Int)))] (.agg (T_api_Entry.c x1)), SCall Try.prog 56 [.agg (T_dial_View.c (T_dial_View.mk ([x1, x2] : List T_api_Entry) ([] : (List T_api_Peer)) ([(T_api_Ban.mk x4 (20 : Int))] : List T_api_Ban))), .agg (T_api_Entry.c x1), .one (.lit (.int .i64 (5 : Int)))] (.one (.lit (.bool x9)))] (by kernel_rfl) rfl ⟨(g_doormanlaw28_at_ok (1 : Int) (5 : Int) x1 q1), (g_doormanlaw28_at_ok (2 : Int) (3 : Int) x2 q2), ⟨rfl, fun i j hi hj => rows_flat (sz := 7) (e := T_api_Entry.c) (d := T_api_Entry.d) (fun _ => rfl) ([x1, x2] : List T_api_Entry) i j hi hj⟩, (g_dial_Pick_ok (T_dial_View.mk ([x1, x2] : List T_api_Entry) ([] : (List T_api_Peer)) ([] : (List T_api_Ban))) (9 : Int) x3 q3), (g_doormanref07_Full_ok (T_api_Addr.mk false (0 : Int) (131072 : Int)) x4 q4), ⟨rfl, fun i j hi hj => rows_flat (sz := 5) (e := T_api_Ban.c) (d := T_api_Ban.d) (fun _ => rfl) ([(T_api_Ban.mk x4 (20 : Int))] : List T_api_Ban) i j hi hj⟩, (g_dial_Pick_ok (T_dial_View.mk ([x1, x2] : List T_api_Entry) ([] : (List T_api_Peer)) ([(T_api_Ban.mk x4 (20 : Int))] : List T_api_Ban)) (9 : Int) x5 q5), h6, (g_doormanlaw28_at_ok (2 : Int) (0 : Int) x6 q7), (eql_T_api_End x3.1 x6.fEnd _ _), h8, h9, (g_doormanlaw28_at_ok (1 : Int) (0 : Int) x7 q10), (eql_T_api_End x5.1 x7.fEnd _ _), h11, (g_dial_When_ok (T_dial_View.mk ([x1, x2] : List T_api_Entry) ([] : (List T_api_Peer)) ([(T_api_Ban.mk x4 (20 : Int))] : List T_api_Ban)) (4 : Int) x8 q12), h13, (g_doormanlaw28_at_ok (1 : Int) (5 : Int) x1 q1), (g_dial_May_ok (T_dial_View.mk ([x1, x2] : List T_api_Entry) ([] : (List T_api_Peer)) ([(T_api_Ban.mk x4 (20 : Int))] : List T_api_Ban)) x1 (5 : Int) x9 q14), trivial⟩
          · replace hf := Option.some.inj hf
            subst hf
            exact toEnd_good allOk 12 _ _ [⟨[], [], [], [], [], [], []⟩, ⟨[(0, .r (.agg (T_api_Entry.c x1)) []), (1, .r (.agg (T_api_Entry.c x2)) [])], [], [], [], [], [(2, (([x1, x2] : List T_api_Entry).length, rowsOf T_api_Entry.c T_api_Entry.d ([x1, x2] : List T_api_Entry)))], []⟩, ⟨[(1, .r (.tup [(true, T_api_End.c x3.1), (false, cB x3.2)]) [])], [], [], [], [(0, [(1, cL 10 T_api_Peer.c T_api_Peer.d []), (2, cL 5 T_api_Ban.c T_api_Ban.d [])])], [], []⟩, ⟨[(1, .r (.agg (T_api_Net.c x4)) [])], [], [], [], [], [(3, (([(T_api_Ban.mk x4 (20 : Int))] : List T_api_Ban).length, rowsOf T_api_Ban.c T_api_Ban.d ([(T_api_Ban.mk x4 (20 : Int))] : List T_api_Ban)))], []⟩, ⟨[(1, .r (.tup [(true, T_api_End.c x5.1), (false, cB x5.2)]) [])], [], [], [], [(0, [(1, cL 10 T_api_Peer.c T_api_Peer.d [])])], [], []⟩, ⟨[(3, .r (.agg (T_api_Entry.c x6)) []), (5, .r (.one (.lit (.bool (decide (x3.1 = x6.fEnd))))) []), (12, .r (.agg (T_api_Entry.c x7)) []), (14, .r (.one (.lit (.bool (decide (x5.1 = x7.fEnd))))) []), (18, .r (.one (.lit (.int .i64 x8))) [])], [(1, true), (7, true), (10, true), (16, true), (21, false)], [], [[], [0], [1, 0], [1, 0], [3, 1, 0], [2, 1, 0, 4, 3], [1, 0, 5, 2, 4, 3], [6, 1, 0, 5, 2, 4, 3], [7, 6, 1, 0, 5, 2, 4, 3], [7, 6, 1, 0, 5, 2, 4, 3, 8], [9, 7, 6, 1, 0, 5, 2, 4, 3, 8], [10, 9, 7, 6, 1, 0, 5, 2, 4, 3, 8], [10, 9, 7, 6, 1, 0, 5, 2, 4, 3, 8], [12, 10, 9, 7, 6, 1, 0, 5, 2, 4, 3, 8], [11, 10, 9, 7, 6, 1, 0, 5, 2, 4, 3, 8, 13, 12], [10, 9, 7, 6, 1, 0, 5, 2, 4, 3, 8, 14, 11, 13, 12], [15, 10, 9, 7, 6, 1, 0, 5, 2, 4, 3, 8, 14, 11, 13, 12], [16, 15, 10, 9, 7, 6, 1, 0, 5, 2, 4, 3, 8, 14, 11, 13, 12], [17, 16, 15, 10, 9, 7, 6, 1, 0, 5, 2, 4, 3, 8, 14, 11, 13, 12], [18, 17, 16, 15, 10, 9, 7, 6, 1, 0, 5, 2, 4, 3, 8, 14, 11, 13, 12], [16, 15, 10, 9, 7, 6, 1, 0, 5, 2, 4, 3, 8, 14, 11, 13, 12, 19, 18, 17], [20, 16, 15, 10, 9, 7, 6, 1, 0, 5, 2, 4, 3, 8, 14, 11, 13, 12, 19, 18, 17], [21, 20, 16, 15, 10, 9, 7, 6, 1, 0, 5, 2, 4, 3, 8, 14, 11, 13, 12, 19, 18, 17], [21, 20, 16, 15, 10, 9, 7, 6, 1, 0, 5, 2, 4, 3, 8, 14, 11, 13, 12, 19, 18, 17], [22, 21, 20, 16, 15, 10, 9, 7, 6, 1, 0, 5, 2, 4, 3, 8, 14, 11, 13, 12, 19, 18, 17, 23], [21, 20, 16, 15, 10, 9, 7, 6, 1, 0, 5, 2, 4, 3, 8, 14, 11, 13, 12, 19, 18, 17, 24, 22, 23], [25, 21, 20, 16, 15, 10, 9, 7, 6, 1, 0, 5, 2, 4, 3, 8, 14, 11, 13, 12, 19, 18, 17, 24, 22, 23]], [(17, [(1, cL 10 T_api_Peer.c T_api_Peer.d [])])], [], []⟩] [] [] [] [] [SCall Try.prog 104 [.one (.lit (.int .u64 (1 : Int))), .one (.lit (.int .i64 (5 : Int)))] (.agg (T_api_Entry.c x1)), SCall Try.prog 104 [.one (.lit (.int .u64 (2 : Int))), .one (.lit (.int .i64 (3 : Int)))] (.agg (T_api_Entry.c x2)), ([x1, x2] : List T_api_Entry).length = 2 ∧ ∀ i j, i < 2 → j < 7 → rowsOf T_api_Entry.c T_api_Entry.d ([x1, x2] : List T_api_Entry) i j = (([x1, x2] : List T_api_Entry).flatMap T_api_Entry.c).getD (i * 7 + j) .junk, SCall Try.prog 53 [.agg (T_dial_View.c (T_dial_View.mk ([x1, x2] : List T_api_Entry) ([] : (List T_api_Peer)) ([] : (List T_api_Ban)))), .one (.lit (.int .i64 (9 : Int)))] (.tup [(true, T_api_End.c x3.1), (false, cB x3.2)]), SCall Try.prog 105 [.agg (T_api_Addr.c (T_api_Addr.mk false (0 : Int) (131072 : Int)))] (.agg (T_api_Net.c x4)), ([(T_api_Ban.mk x4 (20 : Int))] : List T_api_Ban).length = 1 ∧ ∀ i j, i < 1 → j < 5 → rowsOf T_api_Ban.c T_api_Ban.d ([(T_api_Ban.mk x4 (20 : Int))] : List T_api_Ban) i j = (([(T_api_Ban.mk x4 (20 : Int))] : List T_api_Ban).flatMap T_api_Ban.c).getD (i * 5 + j) .junk, SCall Try.prog 53 [.agg (T_dial_View.c (T_dial_View.mk ([x1, x2] : List T_api_Entry) ([] : (List T_api_Peer)) ([(T_api_Ban.mk x4 (20 : Int))] : List T_api_Ban))), .one (.lit (.int .i64 (9 : Int)))] (.tup [(true, T_api_End.c x5.1), (false, cB x5.2)]), x3.2 = true, SCall Try.prog 104 [.one (.lit (.int .u64 (2 : Int))), .one (.lit (.int .i64 (0 : Int)))] (.agg (T_api_Entry.c x6)), ∀ w, (do eqGuard .eql 35 (.tmp 27) (.tmp 29) (.agg #[.bool x3.1.fAddr.fV6, .int .u64 x3.1.fAddr.fHi, .int .u64 x3.1.fAddr.fLo, .int .i64 x3.1.fPort]) (.agg #[.bool x6.fEnd.fAddr.fV6, .int .u64 x6.fEnd.fAddr.fHi, .int .u64 x6.fEnd.fAddr.fLo, .int .i64 x6.fEnd.fPort]); binOp .eql 35 (.agg #[.bool x3.1.fAddr.fV6, .int .u64 x3.1.fAddr.fHi, .int .u64 x3.1.fAddr.fLo, .int .i64 x3.1.fPort]) (.agg #[.bool x6.fEnd.fAddr.fV6, .int .u64 x6.fEnd.fAddr.fHi, .int .u64 x6.fEnd.fAddr.fLo, .int .i64 x6.fEnd.fPort]) : Sem Value).run Try.prog w = .ok (.bool (decide (x3.1 = x6.fEnd))) w, (decide (x3.1 = x6.fEnd)) = true, x5.2 = true, SCall Try.prog 104 [.one (.lit (.int .u64 (1 : Int))), .one (.lit (.int .i64 (0 : Int)))] (.agg (T_api_Entry.c x7)), ∀ w, (do eqGuard .eql 35 (.tmp 36) (.tmp 38) (.agg #[.bool x5.1.fAddr.fV6, .int .u64 x5.1.fAddr.fHi, .int .u64 x5.1.fAddr.fLo, .int .i64 x5.1.fPort]) (.agg #[.bool x7.fEnd.fAddr.fV6, .int .u64 x7.fEnd.fAddr.fHi, .int .u64 x7.fEnd.fAddr.fLo, .int .i64 x7.fEnd.fPort]); binOp .eql 35 (.agg #[.bool x5.1.fAddr.fV6, .int .u64 x5.1.fAddr.fHi, .int .u64 x5.1.fAddr.fLo, .int .i64 x5.1.fPort]) (.agg #[.bool x7.fEnd.fAddr.fV6, .int .u64 x7.fEnd.fAddr.fHi, .int .u64 x7.fEnd.fAddr.fLo, .int .i64 x7.fEnd.fPort]) : Sem Value).run Try.prog w = .ok (.bool (decide (x5.1 = x7.fEnd))) w, (decide (x5.1 = x7.fEnd)) = true, SCall Try.prog 106 [.agg (T_dial_View.c (T_dial_View.mk ([x1, x2] : List T_api_Entry) ([] : (List T_api_Peer)) ([(T_api_Ban.mk x4 (20 : Int))] : List T_api_Ban))), .one (.lit (.int .i64 (4 : Int)))] (.one (.lit (.int .i64 x8))), (x8 == (5 : Int)) = false] (by kernel_rfl) rfl ⟨(g_doormanlaw28_at_ok (1 : Int) (5 : Int) x1 q1), (g_doormanlaw28_at_ok (2 : Int) (3 : Int) x2 q2), ⟨rfl, fun i j hi hj => rows_flat (sz := 7) (e := T_api_Entry.c) (d := T_api_Entry.d) (fun _ => rfl) ([x1, x2] : List T_api_Entry) i j hi hj⟩, (g_dial_Pick_ok (T_dial_View.mk ([x1, x2] : List T_api_Entry) ([] : (List T_api_Peer)) ([] : (List T_api_Ban))) (9 : Int) x3 q3), (g_doormanref07_Full_ok (T_api_Addr.mk false (0 : Int) (131072 : Int)) x4 q4), ⟨rfl, fun i j hi hj => rows_flat (sz := 5) (e := T_api_Ban.c) (d := T_api_Ban.d) (fun _ => rfl) ([(T_api_Ban.mk x4 (20 : Int))] : List T_api_Ban) i j hi hj⟩, (g_dial_Pick_ok (T_dial_View.mk ([x1, x2] : List T_api_Entry) ([] : (List T_api_Peer)) ([(T_api_Ban.mk x4 (20 : Int))] : List T_api_Ban)) (9 : Int) x5 q5), h6, (g_doormanlaw28_at_ok (2 : Int) (0 : Int) x6 q7), (eql_T_api_End x3.1 x6.fEnd _ _), h8, h9, (g_doormanlaw28_at_ok (1 : Int) (0 : Int) x7 q10), (eql_T_api_End x5.1 x7.fEnd _ _), h11, (g_dial_When_ok (T_dial_View.mk ([x1, x2] : List T_api_Entry) ([] : (List T_api_Peer)) ([(T_api_Ban.mk x4 (20 : Int))] : List T_api_Ban)) (4 : Int) x8 q12), h13, trivial⟩
        · replace hf := Option.some.inj hf
          subst hf
          exact toEnd_good allOk 12 _ _ [⟨[], [], [], [], [], [], []⟩, ⟨[(0, .r (.agg (T_api_Entry.c x1)) []), (1, .r (.agg (T_api_Entry.c x2)) [])], [], [], [], [], [(2, (([x1, x2] : List T_api_Entry).length, rowsOf T_api_Entry.c T_api_Entry.d ([x1, x2] : List T_api_Entry)))], []⟩, ⟨[(1, .r (.tup [(true, T_api_End.c x3.1), (false, cB x3.2)]) [])], [], [], [], [(0, [(1, cL 10 T_api_Peer.c T_api_Peer.d []), (2, cL 5 T_api_Ban.c T_api_Ban.d [])])], [], []⟩, ⟨[(1, .r (.agg (T_api_Net.c x4)) [])], [], [], [], [], [(3, (([(T_api_Ban.mk x4 (20 : Int))] : List T_api_Ban).length, rowsOf T_api_Ban.c T_api_Ban.d ([(T_api_Ban.mk x4 (20 : Int))] : List T_api_Ban)))], []⟩, ⟨[(1, .r (.tup [(true, T_api_End.c x5.1), (false, cB x5.2)]) [])], [], [], [], [(0, [(1, cL 10 T_api_Peer.c T_api_Peer.d [])])], [], []⟩, ⟨[(3, .r (.agg (T_api_Entry.c x6)) []), (5, .r (.one (.lit (.bool (decide (x3.1 = x6.fEnd))))) []), (12, .r (.agg (T_api_Entry.c x7)) []), (14, .r (.one (.lit (.bool (decide (x5.1 = x7.fEnd))))) [])], [(1, true), (7, true), (10, true), (16, false)], [], [[], [0], [1, 0], [1, 0], [3, 1, 0], [2, 1, 0, 4, 3], [1, 0, 5, 2, 4, 3], [6, 1, 0, 5, 2, 4, 3], [7, 6, 1, 0, 5, 2, 4, 3], [7, 6, 1, 0, 5, 2, 4, 3, 8], [9, 7, 6, 1, 0, 5, 2, 4, 3, 8], [10, 9, 7, 6, 1, 0, 5, 2, 4, 3, 8], [10, 9, 7, 6, 1, 0, 5, 2, 4, 3, 8], [12, 10, 9, 7, 6, 1, 0, 5, 2, 4, 3, 8], [11, 10, 9, 7, 6, 1, 0, 5, 2, 4, 3, 8, 13, 12], [10, 9, 7, 6, 1, 0, 5, 2, 4, 3, 8, 14, 11, 13, 12], [15, 10, 9, 7, 6, 1, 0, 5, 2, 4, 3, 8, 14, 11, 13, 12], [16, 15, 10, 9, 7, 6, 1, 0, 5, 2, 4, 3, 8, 14, 11, 13, 12], [17, 16, 15, 10, 9, 7, 6, 1, 0, 5, 2, 4, 3, 8, 14, 11, 13, 12], [18, 17, 16, 15, 10, 9, 7, 6, 1, 0, 5, 2, 4, 3, 8, 14, 11, 13, 12], [16, 15, 10, 9, 7, 6, 1, 0, 5, 2, 4, 3, 8, 14, 11, 13, 12, 19, 18, 17], [20, 16, 15, 10, 9, 7, 6, 1, 0, 5, 2, 4, 3, 8, 14, 11, 13, 12, 19, 18, 17], [21, 20, 16, 15, 10, 9, 7, 6, 1, 0, 5, 2, 4, 3, 8, 14, 11, 13, 12, 19, 18, 17], [21, 20, 16, 15, 10, 9, 7, 6, 1, 0, 5, 2, 4, 3, 8, 14, 11, 13, 12, 19, 18, 17], [22, 21, 20, 16, 15, 10, 9, 7, 6, 1, 0, 5, 2, 4, 3, 8, 14, 11, 13, 12, 19, 18, 17, 23], [21, 20, 16, 15, 10, 9, 7, 6, 1, 0, 5, 2, 4, 3, 8, 14, 11, 13, 12, 19, 18, 17, 24, 22, 23], [25, 21, 20, 16, 15, 10, 9, 7, 6, 1, 0, 5, 2, 4, 3, 8, 14, 11, 13, 12, 19, 18, 17, 24, 22, 23]], [], [], []⟩] [] [] [] [] [SCall Try.prog 104 [.one (.lit (.int .u64 (1 : Int))), .one (.lit (.int .i64 (5 : Int)))] (.agg (T_api_Entry.c x1)), SCall Try.prog 104 [.one (.lit (.int .u64 (2 : Int))), .one (.lit (.int .i64 (3 : Int)))] (.agg (T_api_Entry.c x2)), ([x1, x2] : List T_api_Entry).length = 2 ∧ ∀ i j, i < 2 → j < 7 → rowsOf T_api_Entry.c T_api_Entry.d ([x1, x2] : List T_api_Entry) i j = (([x1, x2] : List T_api_Entry).flatMap T_api_Entry.c).getD (i * 7 + j) .junk, SCall Try.prog 53 [.agg (T_dial_View.c (T_dial_View.mk ([x1, x2] : List T_api_Entry) ([] : (List T_api_Peer)) ([] : (List T_api_Ban)))), .one (.lit (.int .i64 (9 : Int)))] (.tup [(true, T_api_End.c x3.1), (false, cB x3.2)]), SCall Try.prog 105 [.agg (T_api_Addr.c (T_api_Addr.mk false (0 : Int) (131072 : Int)))] (.agg (T_api_Net.c x4)), ([(T_api_Ban.mk x4 (20 : Int))] : List T_api_Ban).length = 1 ∧ ∀ i j, i < 1 → j < 5 → rowsOf T_api_Ban.c T_api_Ban.d ([(T_api_Ban.mk x4 (20 : Int))] : List T_api_Ban) i j = (([(T_api_Ban.mk x4 (20 : Int))] : List T_api_Ban).flatMap T_api_Ban.c).getD (i * 5 + j) .junk, SCall Try.prog 53 [.agg (T_dial_View.c (T_dial_View.mk ([x1, x2] : List T_api_Entry) ([] : (List T_api_Peer)) ([(T_api_Ban.mk x4 (20 : Int))] : List T_api_Ban))), .one (.lit (.int .i64 (9 : Int)))] (.tup [(true, T_api_End.c x5.1), (false, cB x5.2)]), x3.2 = true, SCall Try.prog 104 [.one (.lit (.int .u64 (2 : Int))), .one (.lit (.int .i64 (0 : Int)))] (.agg (T_api_Entry.c x6)), ∀ w, (do eqGuard .eql 35 (.tmp 27) (.tmp 29) (.agg #[.bool x3.1.fAddr.fV6, .int .u64 x3.1.fAddr.fHi, .int .u64 x3.1.fAddr.fLo, .int .i64 x3.1.fPort]) (.agg #[.bool x6.fEnd.fAddr.fV6, .int .u64 x6.fEnd.fAddr.fHi, .int .u64 x6.fEnd.fAddr.fLo, .int .i64 x6.fEnd.fPort]); binOp .eql 35 (.agg #[.bool x3.1.fAddr.fV6, .int .u64 x3.1.fAddr.fHi, .int .u64 x3.1.fAddr.fLo, .int .i64 x3.1.fPort]) (.agg #[.bool x6.fEnd.fAddr.fV6, .int .u64 x6.fEnd.fAddr.fHi, .int .u64 x6.fEnd.fAddr.fLo, .int .i64 x6.fEnd.fPort]) : Sem Value).run Try.prog w = .ok (.bool (decide (x3.1 = x6.fEnd))) w, (decide (x3.1 = x6.fEnd)) = true, x5.2 = true, SCall Try.prog 104 [.one (.lit (.int .u64 (1 : Int))), .one (.lit (.int .i64 (0 : Int)))] (.agg (T_api_Entry.c x7)), ∀ w, (do eqGuard .eql 35 (.tmp 36) (.tmp 38) (.agg #[.bool x5.1.fAddr.fV6, .int .u64 x5.1.fAddr.fHi, .int .u64 x5.1.fAddr.fLo, .int .i64 x5.1.fPort]) (.agg #[.bool x7.fEnd.fAddr.fV6, .int .u64 x7.fEnd.fAddr.fHi, .int .u64 x7.fEnd.fAddr.fLo, .int .i64 x7.fEnd.fPort]); binOp .eql 35 (.agg #[.bool x5.1.fAddr.fV6, .int .u64 x5.1.fAddr.fHi, .int .u64 x5.1.fAddr.fLo, .int .i64 x5.1.fPort]) (.agg #[.bool x7.fEnd.fAddr.fV6, .int .u64 x7.fEnd.fAddr.fHi, .int .u64 x7.fEnd.fAddr.fLo, .int .i64 x7.fEnd.fPort]) : Sem Value).run Try.prog w = .ok (.bool (decide (x5.1 = x7.fEnd))) w, (decide (x5.1 = x7.fEnd)) = false] (by kernel_rfl) rfl ⟨(g_doormanlaw28_at_ok (1 : Int) (5 : Int) x1 q1), (g_doormanlaw28_at_ok (2 : Int) (3 : Int) x2 q2), ⟨rfl, fun i j hi hj => rows_flat (sz := 7) (e := T_api_Entry.c) (d := T_api_Entry.d) (fun _ => rfl) ([x1, x2] : List T_api_Entry) i j hi hj⟩, (g_dial_Pick_ok (T_dial_View.mk ([x1, x2] : List T_api_Entry) ([] : (List T_api_Peer)) ([] : (List T_api_Ban))) (9 : Int) x3 q3), (g_doormanref07_Full_ok (T_api_Addr.mk false (0 : Int) (131072 : Int)) x4 q4), ⟨rfl, fun i j hi hj => rows_flat (sz := 5) (e := T_api_Ban.c) (d := T_api_Ban.d) (fun _ => rfl) ([(T_api_Ban.mk x4 (20 : Int))] : List T_api_Ban) i j hi hj⟩, (g_dial_Pick_ok (T_dial_View.mk ([x1, x2] : List T_api_Entry) ([] : (List T_api_Peer)) ([(T_api_Ban.mk x4 (20 : Int))] : List T_api_Ban)) (9 : Int) x5 q5), h6, (g_doormanlaw28_at_ok (2 : Int) (0 : Int) x6 q7), (eql_T_api_End x3.1 x6.fEnd _ _), h8, h9, (g_doormanlaw28_at_ok (1 : Int) (0 : Int) x7 q10), (eql_T_api_End x5.1 x7.fEnd _ _), h11, trivial⟩
      · replace hf := Option.some.inj hf
        subst hf
        exact toEnd_good allOk 12 _ _ [⟨[], [], [], [], [], [], []⟩, ⟨[(0, .r (.agg (T_api_Entry.c x1)) []), (1, .r (.agg (T_api_Entry.c x2)) [])], [], [], [], [], [(2, (([x1, x2] : List T_api_Entry).length, rowsOf T_api_Entry.c T_api_Entry.d ([x1, x2] : List T_api_Entry)))], []⟩, ⟨[(1, .r (.tup [(true, T_api_End.c x3.1), (false, cB x3.2)]) [])], [], [], [], [(0, [(1, cL 10 T_api_Peer.c T_api_Peer.d []), (2, cL 5 T_api_Ban.c T_api_Ban.d [])])], [], []⟩, ⟨[(1, .r (.agg (T_api_Net.c x4)) [])], [], [], [], [], [(3, (([(T_api_Ban.mk x4 (20 : Int))] : List T_api_Ban).length, rowsOf T_api_Ban.c T_api_Ban.d ([(T_api_Ban.mk x4 (20 : Int))] : List T_api_Ban)))], []⟩, ⟨[(1, .r (.tup [(true, T_api_End.c x5.1), (false, cB x5.2)]) [])], [], [], [], [(0, [(1, cL 10 T_api_Peer.c T_api_Peer.d [])])], [], []⟩, ⟨[(3, .r (.agg (T_api_Entry.c x6)) []), (5, .r (.one (.lit (.bool (decide (x3.1 = x6.fEnd))))) [])], [(1, true), (7, true), (10, false)], [], [[], [0], [1, 0], [1, 0], [3, 1, 0], [2, 1, 0, 4, 3], [1, 0, 5, 2, 4, 3], [6, 1, 0, 5, 2, 4, 3], [7, 6, 1, 0, 5, 2, 4, 3], [7, 6, 1, 0, 5, 2, 4, 3, 8], [9, 7, 6, 1, 0, 5, 2, 4, 3, 8], [10, 9, 7, 6, 1, 0, 5, 2, 4, 3, 8], [10, 9, 7, 6, 1, 0, 5, 2, 4, 3, 8], [12, 10, 9, 7, 6, 1, 0, 5, 2, 4, 3, 8], [11, 10, 9, 7, 6, 1, 0, 5, 2, 4, 3, 8, 13, 12], [10, 9, 7, 6, 1, 0, 5, 2, 4, 3, 8, 14, 11, 13, 12], [15, 10, 9, 7, 6, 1, 0, 5, 2, 4, 3, 8, 14, 11, 13, 12], [16, 15, 10, 9, 7, 6, 1, 0, 5, 2, 4, 3, 8, 14, 11, 13, 12], [17, 16, 15, 10, 9, 7, 6, 1, 0, 5, 2, 4, 3, 8, 14, 11, 13, 12], [18, 17, 16, 15, 10, 9, 7, 6, 1, 0, 5, 2, 4, 3, 8, 14, 11, 13, 12], [16, 15, 10, 9, 7, 6, 1, 0, 5, 2, 4, 3, 8, 14, 11, 13, 12, 19, 18, 17], [20, 16, 15, 10, 9, 7, 6, 1, 0, 5, 2, 4, 3, 8, 14, 11, 13, 12, 19, 18, 17], [21, 20, 16, 15, 10, 9, 7, 6, 1, 0, 5, 2, 4, 3, 8, 14, 11, 13, 12, 19, 18, 17], [21, 20, 16, 15, 10, 9, 7, 6, 1, 0, 5, 2, 4, 3, 8, 14, 11, 13, 12, 19, 18, 17], [22, 21, 20, 16, 15, 10, 9, 7, 6, 1, 0, 5, 2, 4, 3, 8, 14, 11, 13, 12, 19, 18, 17, 23], [21, 20, 16, 15, 10, 9, 7, 6, 1, 0, 5, 2, 4, 3, 8, 14, 11, 13, 12, 19, 18, 17, 24, 22, 23], [25, 21, 20, 16, 15, 10, 9, 7, 6, 1, 0, 5, 2, 4, 3, 8, 14, 11, 13, 12, 19, 18, 17, 24, 22, 23]], [], [], []⟩] [] [] [] [] [SCall Try.prog 104 [.one (.lit (.int .u64 (1 : Int))), .one (.lit (.int .i64 (5 : Int)))] (.agg (T_api_Entry.c x1)), SCall Try.prog 104 [.one (.lit (.int .u64 (2 : Int))), .one (.lit (.int .i64 (3 : Int)))] (.agg (T_api_Entry.c x2)), ([x1, x2] : List T_api_Entry).length = 2 ∧ ∀ i j, i < 2 → j < 7 → rowsOf T_api_Entry.c T_api_Entry.d ([x1, x2] : List T_api_Entry) i j = (([x1, x2] : List T_api_Entry).flatMap T_api_Entry.c).getD (i * 7 + j) .junk, SCall Try.prog 53 [.agg (T_dial_View.c (T_dial_View.mk ([x1, x2] : List T_api_Entry) ([] : (List T_api_Peer)) ([] : (List T_api_Ban)))), .one (.lit (.int .i64 (9 : Int)))] (.tup [(true, T_api_End.c x3.1), (false, cB x3.2)]), SCall Try.prog 105 [.agg (T_api_Addr.c (T_api_Addr.mk false (0 : Int) (131072 : Int)))] (.agg (T_api_Net.c x4)), ([(T_api_Ban.mk x4 (20 : Int))] : List T_api_Ban).length = 1 ∧ ∀ i j, i < 1 → j < 5 → rowsOf T_api_Ban.c T_api_Ban.d ([(T_api_Ban.mk x4 (20 : Int))] : List T_api_Ban) i j = (([(T_api_Ban.mk x4 (20 : Int))] : List T_api_Ban).flatMap T_api_Ban.c).getD (i * 5 + j) .junk, SCall Try.prog 53 [.agg (T_dial_View.c (T_dial_View.mk ([x1, x2] : List T_api_Entry) ([] : (List T_api_Peer)) ([(T_api_Ban.mk x4 (20 : Int))] : List T_api_Ban))), .one (.lit (.int .i64 (9 : Int)))] (.tup [(true, T_api_End.c x5.1), (false, cB x5.2)]), x3.2 = true, SCall Try.prog 104 [.one (.lit (.int .u64 (2 : Int))), .one (.lit (.int .i64 (0 : Int)))] (.agg (T_api_Entry.c x6)), ∀ w, (do eqGuard .eql 35 (.tmp 27) (.tmp 29) (.agg #[.bool x3.1.fAddr.fV6, .int .u64 x3.1.fAddr.fHi, .int .u64 x3.1.fAddr.fLo, .int .i64 x3.1.fPort]) (.agg #[.bool x6.fEnd.fAddr.fV6, .int .u64 x6.fEnd.fAddr.fHi, .int .u64 x6.fEnd.fAddr.fLo, .int .i64 x6.fEnd.fPort]); binOp .eql 35 (.agg #[.bool x3.1.fAddr.fV6, .int .u64 x3.1.fAddr.fHi, .int .u64 x3.1.fAddr.fLo, .int .i64 x3.1.fPort]) (.agg #[.bool x6.fEnd.fAddr.fV6, .int .u64 x6.fEnd.fAddr.fHi, .int .u64 x6.fEnd.fAddr.fLo, .int .i64 x6.fEnd.fPort]) : Sem Value).run Try.prog w = .ok (.bool (decide (x3.1 = x6.fEnd))) w, (decide (x3.1 = x6.fEnd)) = true, x5.2 = false] (by kernel_rfl) rfl ⟨(g_doormanlaw28_at_ok (1 : Int) (5 : Int) x1 q1), (g_doormanlaw28_at_ok (2 : Int) (3 : Int) x2 q2), ⟨rfl, fun i j hi hj => rows_flat (sz := 7) (e := T_api_Entry.c) (d := T_api_Entry.d) (fun _ => rfl) ([x1, x2] : List T_api_Entry) i j hi hj⟩, (g_dial_Pick_ok (T_dial_View.mk ([x1, x2] : List T_api_Entry) ([] : (List T_api_Peer)) ([] : (List T_api_Ban))) (9 : Int) x3 q3), (g_doormanref07_Full_ok (T_api_Addr.mk false (0 : Int) (131072 : Int)) x4 q4), ⟨rfl, fun i j hi hj => rows_flat (sz := 5) (e := T_api_Ban.c) (d := T_api_Ban.d) (fun _ => rfl) ([(T_api_Ban.mk x4 (20 : Int))] : List T_api_Ban) i j hi hj⟩, (g_dial_Pick_ok (T_dial_View.mk ([x1, x2] : List T_api_Entry) ([] : (List T_api_Peer)) ([(T_api_Ban.mk x4 (20 : Int))] : List T_api_Ban)) (9 : Int) x5 q5), h6, (g_doormanlaw28_at_ok (2 : Int) (0 : Int) x6 q7), (eql_T_api_End x3.1 x6.fEnd _ _), h8, h9, trivial⟩
    · replace hf := Option.some.inj hf
      subst hf
      exact toEnd_good allOk 12 _ _ [⟨[], [], [], [], [], [], []⟩, ⟨[(0, .r (.agg (T_api_Entry.c x1)) []), (1, .r (.agg (T_api_Entry.c x2)) [])], [], [], [], [], [(2, (([x1, x2] : List T_api_Entry).length, rowsOf T_api_Entry.c T_api_Entry.d ([x1, x2] : List T_api_Entry)))], []⟩, ⟨[(1, .r (.tup [(true, T_api_End.c x3.1), (false, cB x3.2)]) [])], [], [], [], [(0, [(1, cL 10 T_api_Peer.c T_api_Peer.d []), (2, cL 5 T_api_Ban.c T_api_Ban.d [])])], [], []⟩, ⟨[(1, .r (.agg (T_api_Net.c x4)) [])], [], [], [], [], [(3, (([(T_api_Ban.mk x4 (20 : Int))] : List T_api_Ban).length, rowsOf T_api_Ban.c T_api_Ban.d ([(T_api_Ban.mk x4 (20 : Int))] : List T_api_Ban)))], []⟩, ⟨[(1, .r (.tup [(true, T_api_End.c x5.1), (false, cB x5.2)]) [])], [], [], [], [(0, [(1, cL 10 T_api_Peer.c T_api_Peer.d [])])], [], []⟩, ⟨[(3, .r (.agg (T_api_Entry.c x6)) []), (5, .r (.one (.lit (.bool (decide (x3.1 = x6.fEnd))))) [])], [(1, true), (7, false)], [], [[], [0], [1, 0], [1, 0], [3, 1, 0], [2, 1, 0, 4, 3], [1, 0, 5, 2, 4, 3], [6, 1, 0, 5, 2, 4, 3], [7, 6, 1, 0, 5, 2, 4, 3], [7, 6, 1, 0, 5, 2, 4, 3, 8], [9, 7, 6, 1, 0, 5, 2, 4, 3, 8], [10, 9, 7, 6, 1, 0, 5, 2, 4, 3, 8], [10, 9, 7, 6, 1, 0, 5, 2, 4, 3, 8], [12, 10, 9, 7, 6, 1, 0, 5, 2, 4, 3, 8], [11, 10, 9, 7, 6, 1, 0, 5, 2, 4, 3, 8, 13, 12], [10, 9, 7, 6, 1, 0, 5, 2, 4, 3, 8, 14, 11, 13, 12], [15, 10, 9, 7, 6, 1, 0, 5, 2, 4, 3, 8, 14, 11, 13, 12], [16, 15, 10, 9, 7, 6, 1, 0, 5, 2, 4, 3, 8, 14, 11, 13, 12], [17, 16, 15, 10, 9, 7, 6, 1, 0, 5, 2, 4, 3, 8, 14, 11, 13, 12], [18, 17, 16, 15, 10, 9, 7, 6, 1, 0, 5, 2, 4, 3, 8, 14, 11, 13, 12], [16, 15, 10, 9, 7, 6, 1, 0, 5, 2, 4, 3, 8, 14, 11, 13, 12, 19, 18, 17], [20, 16, 15, 10, 9, 7, 6, 1, 0, 5, 2, 4, 3, 8, 14, 11, 13, 12, 19, 18, 17], [21, 20, 16, 15, 10, 9, 7, 6, 1, 0, 5, 2, 4, 3, 8, 14, 11, 13, 12, 19, 18, 17], [21, 20, 16, 15, 10, 9, 7, 6, 1, 0, 5, 2, 4, 3, 8, 14, 11, 13, 12, 19, 18, 17], [22, 21, 20, 16, 15, 10, 9, 7, 6, 1, 0, 5, 2, 4, 3, 8, 14, 11, 13, 12, 19, 18, 17, 23], [21, 20, 16, 15, 10, 9, 7, 6, 1, 0, 5, 2, 4, 3, 8, 14, 11, 13, 12, 19, 18, 17, 24, 22, 23], [25, 21, 20, 16, 15, 10, 9, 7, 6, 1, 0, 5, 2, 4, 3, 8, 14, 11, 13, 12, 19, 18, 17, 24, 22, 23]], [], [], []⟩] [] [] [] [] [SCall Try.prog 104 [.one (.lit (.int .u64 (1 : Int))), .one (.lit (.int .i64 (5 : Int)))] (.agg (T_api_Entry.c x1)), SCall Try.prog 104 [.one (.lit (.int .u64 (2 : Int))), .one (.lit (.int .i64 (3 : Int)))] (.agg (T_api_Entry.c x2)), ([x1, x2] : List T_api_Entry).length = 2 ∧ ∀ i j, i < 2 → j < 7 → rowsOf T_api_Entry.c T_api_Entry.d ([x1, x2] : List T_api_Entry) i j = (([x1, x2] : List T_api_Entry).flatMap T_api_Entry.c).getD (i * 7 + j) .junk, SCall Try.prog 53 [.agg (T_dial_View.c (T_dial_View.mk ([x1, x2] : List T_api_Entry) ([] : (List T_api_Peer)) ([] : (List T_api_Ban)))), .one (.lit (.int .i64 (9 : Int)))] (.tup [(true, T_api_End.c x3.1), (false, cB x3.2)]), SCall Try.prog 105 [.agg (T_api_Addr.c (T_api_Addr.mk false (0 : Int) (131072 : Int)))] (.agg (T_api_Net.c x4)), ([(T_api_Ban.mk x4 (20 : Int))] : List T_api_Ban).length = 1 ∧ ∀ i j, i < 1 → j < 5 → rowsOf T_api_Ban.c T_api_Ban.d ([(T_api_Ban.mk x4 (20 : Int))] : List T_api_Ban) i j = (([(T_api_Ban.mk x4 (20 : Int))] : List T_api_Ban).flatMap T_api_Ban.c).getD (i * 5 + j) .junk, SCall Try.prog 53 [.agg (T_dial_View.c (T_dial_View.mk ([x1, x2] : List T_api_Entry) ([] : (List T_api_Peer)) ([(T_api_Ban.mk x4 (20 : Int))] : List T_api_Ban))), .one (.lit (.int .i64 (9 : Int)))] (.tup [(true, T_api_End.c x5.1), (false, cB x5.2)]), x3.2 = true, SCall Try.prog 104 [.one (.lit (.int .u64 (2 : Int))), .one (.lit (.int .i64 (0 : Int)))] (.agg (T_api_Entry.c x6)), ∀ w, (do eqGuard .eql 35 (.tmp 27) (.tmp 29) (.agg #[.bool x3.1.fAddr.fV6, .int .u64 x3.1.fAddr.fHi, .int .u64 x3.1.fAddr.fLo, .int .i64 x3.1.fPort]) (.agg #[.bool x6.fEnd.fAddr.fV6, .int .u64 x6.fEnd.fAddr.fHi, .int .u64 x6.fEnd.fAddr.fLo, .int .i64 x6.fEnd.fPort]); binOp .eql 35 (.agg #[.bool x3.1.fAddr.fV6, .int .u64 x3.1.fAddr.fHi, .int .u64 x3.1.fAddr.fLo, .int .i64 x3.1.fPort]) (.agg #[.bool x6.fEnd.fAddr.fV6, .int .u64 x6.fEnd.fAddr.fHi, .int .u64 x6.fEnd.fAddr.fLo, .int .i64 x6.fEnd.fPort]) : Sem Value).run Try.prog w = .ok (.bool (decide (x3.1 = x6.fEnd))) w, (decide (x3.1 = x6.fEnd)) = false] (by kernel_rfl) rfl ⟨(g_doormanlaw28_at_ok (1 : Int) (5 : Int) x1 q1), (g_doormanlaw28_at_ok (2 : Int) (3 : Int) x2 q2), ⟨rfl, fun i j hi hj => rows_flat (sz := 7) (e := T_api_Entry.c) (d := T_api_Entry.d) (fun _ => rfl) ([x1, x2] : List T_api_Entry) i j hi hj⟩, (g_dial_Pick_ok (T_dial_View.mk ([x1, x2] : List T_api_Entry) ([] : (List T_api_Peer)) ([] : (List T_api_Ban))) (9 : Int) x3 q3), (g_doormanref07_Full_ok (T_api_Addr.mk false (0 : Int) (131072 : Int)) x4 q4), ⟨rfl, fun i j hi hj => rows_flat (sz := 5) (e := T_api_Ban.c) (d := T_api_Ban.d) (fun _ => rfl) ([(T_api_Ban.mk x4 (20 : Int))] : List T_api_Ban) i j hi hj⟩, (g_dial_Pick_ok (T_dial_View.mk ([x1, x2] : List T_api_Entry) ([] : (List T_api_Peer)) ([(T_api_Ban.mk x4 (20 : Int))] : List T_api_Ban)) (9 : Int) x5 q5), h6, (g_doormanlaw28_at_ok (2 : Int) (0 : Int) x6 q7), (eql_T_api_End x3.1 x6.fEnd _ _), h8, trivial⟩
  · replace hf := Option.some.inj hf
    subst hf
    exact toEnd_good allOk 12 _ _ [⟨[], [], [], [], [], [], []⟩, ⟨[(0, .r (.agg (T_api_Entry.c x1)) []), (1, .r (.agg (T_api_Entry.c x2)) [])], [], [], [], [], [(2, (([x1, x2] : List T_api_Entry).length, rowsOf T_api_Entry.c T_api_Entry.d ([x1, x2] : List T_api_Entry)))], []⟩, ⟨[(1, .r (.tup [(true, T_api_End.c x3.1), (false, cB x3.2)]) [])], [], [], [], [(0, [(1, cL 10 T_api_Peer.c T_api_Peer.d []), (2, cL 5 T_api_Ban.c T_api_Ban.d [])])], [], []⟩, ⟨[(1, .r (.agg (T_api_Net.c x4)) [])], [], [], [], [], [(3, (([(T_api_Ban.mk x4 (20 : Int))] : List T_api_Ban).length, rowsOf T_api_Ban.c T_api_Ban.d ([(T_api_Ban.mk x4 (20 : Int))] : List T_api_Ban)))], []⟩, ⟨[(1, .r (.tup [(true, T_api_End.c x5.1), (false, cB x5.2)]) [])], [], [], [], [(0, [(1, cL 10 T_api_Peer.c T_api_Peer.d [])])], [], []⟩, ⟨[], [(1, false)], [], [[], [0], [1, 0], [1, 0], [3, 1, 0], [2, 1, 0, 4, 3], [1, 0, 5, 2, 4, 3], [6, 1, 0, 5, 2, 4, 3], [7, 6, 1, 0, 5, 2, 4, 3], [7, 6, 1, 0, 5, 2, 4, 3, 8], [9, 7, 6, 1, 0, 5, 2, 4, 3, 8], [10, 9, 7, 6, 1, 0, 5, 2, 4, 3, 8], [10, 9, 7, 6, 1, 0, 5, 2, 4, 3, 8], [12, 10, 9, 7, 6, 1, 0, 5, 2, 4, 3, 8], [11, 10, 9, 7, 6, 1, 0, 5, 2, 4, 3, 8, 13, 12], [10, 9, 7, 6, 1, 0, 5, 2, 4, 3, 8, 14, 11, 13, 12], [15, 10, 9, 7, 6, 1, 0, 5, 2, 4, 3, 8, 14, 11, 13, 12], [16, 15, 10, 9, 7, 6, 1, 0, 5, 2, 4, 3, 8, 14, 11, 13, 12], [17, 16, 15, 10, 9, 7, 6, 1, 0, 5, 2, 4, 3, 8, 14, 11, 13, 12], [18, 17, 16, 15, 10, 9, 7, 6, 1, 0, 5, 2, 4, 3, 8, 14, 11, 13, 12], [16, 15, 10, 9, 7, 6, 1, 0, 5, 2, 4, 3, 8, 14, 11, 13, 12, 19, 18, 17], [20, 16, 15, 10, 9, 7, 6, 1, 0, 5, 2, 4, 3, 8, 14, 11, 13, 12, 19, 18, 17], [21, 20, 16, 15, 10, 9, 7, 6, 1, 0, 5, 2, 4, 3, 8, 14, 11, 13, 12, 19, 18, 17], [21, 20, 16, 15, 10, 9, 7, 6, 1, 0, 5, 2, 4, 3, 8, 14, 11, 13, 12, 19, 18, 17], [22, 21, 20, 16, 15, 10, 9, 7, 6, 1, 0, 5, 2, 4, 3, 8, 14, 11, 13, 12, 19, 18, 17, 23], [21, 20, 16, 15, 10, 9, 7, 6, 1, 0, 5, 2, 4, 3, 8, 14, 11, 13, 12, 19, 18, 17, 24, 22, 23], [25, 21, 20, 16, 15, 10, 9, 7, 6, 1, 0, 5, 2, 4, 3, 8, 14, 11, 13, 12, 19, 18, 17, 24, 22, 23]], [], [], []⟩] [] [] [] [] [SCall Try.prog 104 [.one (.lit (.int .u64 (1 : Int))), .one (.lit (.int .i64 (5 : Int)))] (.agg (T_api_Entry.c x1)), SCall Try.prog 104 [.one (.lit (.int .u64 (2 : Int))), .one (.lit (.int .i64 (3 : Int)))] (.agg (T_api_Entry.c x2)), ([x1, x2] : List T_api_Entry).length = 2 ∧ ∀ i j, i < 2 → j < 7 → rowsOf T_api_Entry.c T_api_Entry.d ([x1, x2] : List T_api_Entry) i j = (([x1, x2] : List T_api_Entry).flatMap T_api_Entry.c).getD (i * 7 + j) .junk, SCall Try.prog 53 [.agg (T_dial_View.c (T_dial_View.mk ([x1, x2] : List T_api_Entry) ([] : (List T_api_Peer)) ([] : (List T_api_Ban)))), .one (.lit (.int .i64 (9 : Int)))] (.tup [(true, T_api_End.c x3.1), (false, cB x3.2)]), SCall Try.prog 105 [.agg (T_api_Addr.c (T_api_Addr.mk false (0 : Int) (131072 : Int)))] (.agg (T_api_Net.c x4)), ([(T_api_Ban.mk x4 (20 : Int))] : List T_api_Ban).length = 1 ∧ ∀ i j, i < 1 → j < 5 → rowsOf T_api_Ban.c T_api_Ban.d ([(T_api_Ban.mk x4 (20 : Int))] : List T_api_Ban) i j = (([(T_api_Ban.mk x4 (20 : Int))] : List T_api_Ban).flatMap T_api_Ban.c).getD (i * 5 + j) .junk, SCall Try.prog 53 [.agg (T_dial_View.c (T_dial_View.mk ([x1, x2] : List T_api_Entry) ([] : (List T_api_Peer)) ([(T_api_Ban.mk x4 (20 : Int))] : List T_api_Ban))), .one (.lit (.int .i64 (9 : Int)))] (.tup [(true, T_api_End.c x5.1), (false, cB x5.2)]), x3.2 = false] (by kernel_rfl) rfl ⟨(g_doormanlaw28_at_ok (1 : Int) (5 : Int) x1 q1), (g_doormanlaw28_at_ok (2 : Int) (3 : Int) x2 q2), ⟨rfl, fun i j hi hj => rows_flat (sz := 7) (e := T_api_Entry.c) (d := T_api_Entry.d) (fun _ => rfl) ([x1, x2] : List T_api_Entry) i j hi hj⟩, (g_dial_Pick_ok (T_dial_View.mk ([x1, x2] : List T_api_Entry) ([] : (List T_api_Peer)) ([] : (List T_api_Ban))) (9 : Int) x3 q3), (g_doormanref07_Full_ok (T_api_Addr.mk false (0 : Int) (131072 : Int)) x4 q4), ⟨rfl, fun i j hi hj => rows_flat (sz := 5) (e := T_api_Ban.c) (d := T_api_Ban.d) (fun _ => rfl) ([(T_api_Ban.mk x4 (20 : Int))] : List T_api_Ban) i j hi hj⟩, (g_dial_Pick_ok (T_dial_View.mk ([x1, x2] : List T_api_Entry) ([] : (List T_api_Peer)) ([(T_api_Ban.mk x4 (20 : Int))] : List T_api_Ban)) (9 : Int) x5 q5), h6, trivial⟩

/-- doorman/doormanref09.Right -/
def g_doormanref09_Right (a0 : T_api_End) : Option Bool :=
  (g_doormanref06_Right a0.fAddr).bind fun x1 =>
  bif x1 then
    bif (decide (a0.fPort > (0 : Int))) then
      some (decide (a0.fPort < (65536 : Int)))
    else
      some false
  else
    some false

theorem g_doormanref09_Right_ok (a0 : T_api_End) (r : Bool) (hf : g_doormanref09_Right a0 = some r) : SCall Try.prog 112 [.agg (T_api_End.c a0)] (.one (.lit (.bool r))) := by
  refine SCall.of Try.func112 rfl rfl rfl rfl fun S0 w0 => ?_
  unfold g_doormanref09_Right at hf
  obtain ⟨x1, q1, hf⟩ := bind_some' hf
  rcases br_some hf with ⟨h2, hf⟩ | ⟨h2, hf⟩
  · rcases br_some hf with ⟨h3, hf⟩ | ⟨h3, hf⟩
    · replace hf := Option.some.inj hf
      subst hf
      exact toEnd_good allOk 4 _ _ [⟨[], [], [], [], [], [], []⟩, ⟨[(2, .r (.one (.lit (.bool x1))) [])], [(3, true), (8, true)], [], [], [], [], []⟩] [] [] [] [] [SCall Try.prog 114 [.agg (T_api_Addr.c a0.fAddr)] (.one (.lit (.bool x1))), x1 = true, (decide (a0.fPort > (0 : Int))) = true] (by kernel_rfl) rfl ⟨(g_doormanref06_Right_ok a0.fAddr x1 q1), h2, h3, trivial⟩
    · replace hf := Option.some.inj hf
      subst hf
      exact toEnd_good allOk 4 _ _ [⟨[], [], [], [], [], [], []⟩, ⟨[(2, .r (.one (.lit (.bool x1))) [])], [(3, true), (8, false)], [], [], [], [], []⟩] [] [] [] [] [SCall Try.prog 114 [.agg (T_api_Addr.c a0.fAddr)] (.one (.lit (.bool x1))), x1 = true, (decide (a0.fPort > (0 : Int))) = false] (by kernel_rfl) rfl ⟨(g_doormanref06_Right_ok a0.fAddr x1 q1), h2, h3, trivial⟩
  · replace hf := Option.some.inj hf
    subst hf
    exact toEnd_good allOk 4 _ _ [⟨[], [], [], [], [], [], []⟩, ⟨[(2, .r (.one (.lit (.bool x1))) [])], [(3, false)], [], [], [], [], []⟩] [] [] [] [] [SCall Try.prog 114 [.agg (T_api_Addr.c a0.fAddr)] (.one (.lit (.bool x1))), x1 = false] (by kernel_rfl) rfl ⟨(g_doormanref06_Right_ok a0.fAddr x1 q1), h2, trivial⟩

/-- doorman/doormanref25.Right -/
def g_doormanref25_Right (a0 : T_api_Entry) : Option Bool :=
  (g_doormanref09_Right a0.fEnd).bind fun x1 =>
  bif x1 then
    bif (decide (a0.fState ≥ (1 : Int))) then
      bif (decide (a0.fState ≤ (3 : Int))) then
        bif (decide (a0.fFails ≥ (0 : Int))) then
          bif (decide (a0.fFails ≤ (1000 : Int))) then
            bif (decide (a0.fNext ≥ (0 : Int))) then
              some (decide (a0.fNext ≤ (1099511627776 : Int)))
            else
              some false
          else
            some false
        else
          some false
      else
        some false
    else
      some false
  else
    some false

theorem g_doormanref25_Right_ok (a0 : T_api_Entry) (r : Bool) (hf : g_doormanref25_Right a0 = some r) : SCall Try.prog 54 [.agg (T_api_Entry.c a0)] (.one (.lit (.bool r))) := by
  refine SCall.of Try.func54 rfl rfl rfl rfl fun S0 w0 => ?_
  unfold g_doormanref25_Right at hf
  obtain ⟨x1, q1, hf⟩ := bind_some' hf
  rcases br_some hf with ⟨h2, hf⟩ | ⟨h2, hf⟩
  · rcases br_some hf with ⟨h3, hf⟩ | ⟨h3, hf⟩
    · rcases br_some hf with ⟨h4, hf⟩ | ⟨h4, hf⟩
      · rcases br_some hf with ⟨h5, hf⟩ | ⟨h5, hf⟩
        · rcases br_some hf with ⟨h6, hf⟩ | ⟨h6, hf⟩
          · rcases br_some hf with ⟨h7, hf⟩ | ⟨h7, hf⟩
            · replace hf := Option.some.inj hf
              subst hf
              exact toEnd_good allOk 4 _ _ [⟨[], [], [], [], [], [], []⟩, ⟨[(2, .r (.one (.lit (.bool x1))) [])], [(3, true), (8, true), (13, true), (18, true), (23, true), (28, true)], [], [], [], [], []⟩] [] [] [] [] [SCall Try.prog 112 [.agg (T_api_End.c a0.fEnd)] (.one (.lit (.bool x1))), x1 = true, (decide (a0.fState ≥ (1 : Int))) = true, (decide (a0.fState ≤ (3 : Int))) = true, (decide (a0.fFails ≥ (0 : Int))) = true, (decide (a0.fFails ≤ (1000 : Int))) = true, (decide (a0.fNext ≥ (0 : Int))) = true] (by kernel_rfl) rfl ⟨(g_doormanref09_Right_ok a0.fEnd x1 q1), h2, h3, h4, h5, h6, h7, trivial⟩
            · replace hf := Option.some.inj hf
              subst hf
              exact toEnd_good allOk 4 _ _ [⟨[], [], [], [], [], [], []⟩, ⟨[(2, .r (.one (.lit (.bool x1))) [])], [(3, true), (8, true), (13, true), (18, true), (23, true), (28, false)], [], [], [], [], []⟩] [] [] [] [] [SCall Try.prog 112 [.agg (T_api_End.c a0.fEnd)] (.one (.lit (.bool x1))), x1 = true, (decide (a0.fState ≥ (1 : Int))) = true, (decide (a0.fState ≤ (3 : Int))) = true, (decide (a0.fFails ≥ (0 : Int))) = true, (decide (a0.fFails ≤ (1000 : Int))) = true, (decide (a0.fNext ≥ (0 : Int))) = false] (by kernel_rfl) rfl ⟨(g_doormanref09_Right_ok a0.fEnd x1 q1), h2, h3, h4, h5, h6, h7, trivial⟩
          · replace hf := Option.some.inj hf
            subst hf
            exact toEnd_good allOk 4 _ _ [⟨[], [], [], [], [], [], []⟩, ⟨[(2, .r (.one (.lit (.bool x1))) [])], [(3, true), (8, true), (13, true), (18, true), (23, false)], [], [], [], [], []⟩] [] [] [] [] [SCall Try.prog 112 [.agg (T_api_End.c a0.fEnd)] (.one (.lit (.bool x1))), x1 = true, (decide (a0.fState ≥ (1 : Int))) = true, (decide (a0.fState ≤ (3 : Int))) = true, (decide (a0.fFails ≥ (0 : Int))) = true, (decide (a0.fFails ≤ (1000 : Int))) = false] (by kernel_rfl) rfl ⟨(g_doormanref09_Right_ok a0.fEnd x1 q1), h2, h3, h4, h5, h6, trivial⟩
        · replace hf := Option.some.inj hf
          subst hf
          exact toEnd_good allOk 4 _ _ [⟨[], [], [], [], [], [], []⟩, ⟨[(2, .r (.one (.lit (.bool x1))) [])], [(3, true), (8, true), (13, true), (18, false)], [], [], [], [], []⟩] [] [] [] [] [SCall Try.prog 112 [.agg (T_api_End.c a0.fEnd)] (.one (.lit (.bool x1))), x1 = true, (decide (a0.fState ≥ (1 : Int))) = true, (decide (a0.fState ≤ (3 : Int))) = true, (decide (a0.fFails ≥ (0 : Int))) = false] (by kernel_rfl) rfl ⟨(g_doormanref09_Right_ok a0.fEnd x1 q1), h2, h3, h4, h5, trivial⟩
      · replace hf := Option.some.inj hf
        subst hf
        exact toEnd_good allOk 4 _ _ [⟨[], [], [], [], [], [], []⟩, ⟨[(2, .r (.one (.lit (.bool x1))) [])], [(3, true), (8, true), (13, false)], [], [], [], [], []⟩] [] [] [] [] [SCall Try.prog 112 [.agg (T_api_End.c a0.fEnd)] (.one (.lit (.bool x1))), x1 = true, (decide (a0.fState ≥ (1 : Int))) = true, (decide (a0.fState ≤ (3 : Int))) = false] (by kernel_rfl) rfl ⟨(g_doormanref09_Right_ok a0.fEnd x1 q1), h2, h3, h4, trivial⟩
    · replace hf := Option.some.inj hf
      subst hf
      exact toEnd_good allOk 4 _ _ [⟨[], [], [], [], [], [], []⟩, ⟨[(2, .r (.one (.lit (.bool x1))) [])], [(3, true), (8, false)], [], [], [], [], []⟩] [] [] [] [] [SCall Try.prog 112 [.agg (T_api_End.c a0.fEnd)] (.one (.lit (.bool x1))), x1 = true, (decide (a0.fState ≥ (1 : Int))) = false] (by kernel_rfl) rfl ⟨(g_doormanref09_Right_ok a0.fEnd x1 q1), h2, h3, trivial⟩
  · replace hf := Option.some.inj hf
    subst hf
    exact toEnd_good allOk 4 _ _ [⟨[], [], [], [], [], [], []⟩, ⟨[(2, .r (.one (.lit (.bool x1))) [])], [(3, false)], [], [], [], [], []⟩] [] [] [] [] [SCall Try.prog 112 [.agg (T_api_End.c a0.fEnd)] (.one (.lit (.bool x1))), x1 = false] (by kernel_rfl) rfl ⟨(g_doormanref09_Right_ok a0.fEnd x1 q1), h2, trivial⟩

/-- doorman/doormanref25.Due -/
def g_doormanref25_Due (a0 : T_api_Entry) (a1 : Int) : Option Bool :=
  bif (a0.fState == (1 : Int)) then
    some (decide (a0.fNext ≤ a1))
  else
    some false

theorem g_doormanref25_Due_ok (a0 : T_api_Entry) (a1 : Int) (r : Bool) (hf : g_doormanref25_Due a0 a1 = some r) : SCall Try.prog 55 [.agg (T_api_Entry.c a0), .one (.lit (.int .i64 a1))] (.one (.lit (.bool r))) := by
  refine SCall.of Try.func55 rfl rfl rfl rfl fun S0 w0 => ?_
  unfold g_doormanref25_Due at hf
  rcases br_some hf with ⟨h1, hf⟩ | ⟨h1, hf⟩
  · replace hf := Option.some.inj hf
    subst hf
    exact toEnd_good allOk 4 _ _ [⟨[], [], [], [], [], [], []⟩, ⟨[], [(3, true)], [], [], [], [], []⟩] [] [] [] [] [(a0.fState == (1 : Int)) = true] (by kernel_rfl) rfl ⟨h1, trivial⟩
  · replace hf := Option.some.inj hf
    subst hf
    exact toEnd_good allOk 4 _ _ [⟨[], [], [], [], [], [], []⟩, ⟨[], [(3, false)], [], [], [], [], []⟩] [] [] [] [] [(a0.fState == (1 : Int)) = false] (by kernel_rfl) rfl ⟨h1, trivial⟩

def g_doormanref06_Bit_c0 (a1 : Int)  (v5 : Int) (b2 : T_api_Addr) : Option Int :=
  bif (!b2.fV6) then
    need (0 ≤ (IntKind.wrap .u64 (sub64 (31 : Int) a1))) <|
    some (IntKind.wrap .i64 (IntKind.wrap .u64 (((BitVec.ofInt (IntKind.bits .u64) (Int.fdiv v5 (2 ^ (min (IntKind.wrap .u64 (sub64 (31 : Int) a1)).toNat (IntKind.bits .u64))))) &&& (BitVec.ofInt (IntKind.bits .u64) (1 : Int))).toNat : Int)))
  else
    need (0 ≤ (IntKind.wrap .u64 (sub64 (63 : Int) (Int.tmod a1 (64 : Int))))) <|
    some (IntKind.wrap .i64 (IntKind.wrap .u64 (((BitVec.ofInt (IntKind.bits .u64) (Int.fdiv v5 (2 ^ (min (IntKind.wrap .u64 (sub64 (63 : Int) (Int.tmod a1 (64 : Int)))).toNat (IntKind.bits .u64))))) &&& (BitVec.ofInt (IntKind.bits .u64) (1 : Int))).toNat : Int)))

theorem g_doormanref06_Bit_c0_ok (S0 : Nat → Prop) (w0 : Start) (a1 : Int)  (v5 : Int) (b2 : T_api_Addr) (r : Int) (hf : g_doormanref06_Bit_c0 a1  v5 b2 = some r) : Good Try.prog 39 S0 w0 (bodyPost Try.prog Try.f115 (Post S0 w0 (.one (.lit (.int .i64 r))))) (at_ [1, 1, 1, 1] (bodyOf Try.f115)) ⟨[(1, .one (.lit (.int .i64 a1))), (2, .one (.ptr 2 0)), (5, .one (.lit (.int .u64 v5)))], [(2, .box [.lit (.bool b2.fV6), .lit (.int .u64 b2.fHi), .lit (.int .u64 b2.fLo)])]⟩ := by
  unfold g_doormanref06_Bit_c0 at hf
  rcases br_some hf with ⟨h6, hf⟩ | ⟨h6, hf⟩
  · obtain ⟨o7, hf⟩ := need_some hf
    replace hf := Option.some.inj hf
    subst hf
    exact toEnd_good allOk 9 _ _ [⟨[], [], [], [], [], [], []⟩, ⟨[], [], [], [], [], [], []⟩, ⟨[], [], [], [], [], [], []⟩, ⟨[], [], [], [], [], [], []⟩] [true] [] [] [] [(64 : Int) ≠ 0, (!b2.fV6) = true, 0 ≤ (IntKind.wrap .u64 (sub64 (31 : Int) a1))] (by kernel_rfl) rfl ⟨(by decide), h6, o7, trivial⟩
  · obtain ⟨o8, hf⟩ := need_some hf
    replace hf := Option.some.inj hf
    subst hf
    exact toEnd_good allOk 9 _ _ [⟨[], [], [], [], [], [], []⟩, ⟨[], [], [], [], [], [], []⟩, ⟨[], [], [], [], [], [], []⟩] [false] [] [] [] [(64 : Int) ≠ 0, (!b2.fV6) = false, 0 ≤ (IntKind.wrap .u64 (sub64 (63 : Int) (Int.tmod a1 (64 : Int))))] (by kernel_rfl) rfl ⟨(by decide), h6, o8, trivial⟩

/-- doorman/doormanref06.Bit -/
def g_doormanref06_Bit (a0 : T_api_Addr) (a1 : Int) : Option Int :=
  bif (decide (a1 < (0 : Int))) then
    some (0 : Int)
  else
    (g_doormanref06_Bits a0).bind fun x1 =>
    bif (decide (a1 ≥ x1)) then
      some (0 : Int)
    else
      bif a0.fV6 then
        bif (decide (a1 < (64 : Int))) then
          g_doormanref06_Bit_c0 a1  a0.fHi a0
        else
          g_doormanref06_Bit_c0 a1  a0.fLo a0
      else
        g_doormanref06_Bit_c0 a1  a0.fLo a0

theorem g_doormanref06_Bit_ok (a0 : T_api_Addr) (a1 : Int) (r : Int) (hf : g_doormanref06_Bit a0 a1 = some r) : SCall Try.prog 115 [.agg (T_api_Addr.c a0), .one (.lit (.int .i64 a1))] (.one (.lit (.int .i64 r))) := by
  refine SCall.of Try.func115 rfl rfl rfl rfl fun S0 w0 => ?_
  unfold g_doormanref06_Bit at hf
  rcases br_some hf with ⟨h1, hf⟩ | ⟨h1, hf⟩
  · replace hf := Option.some.inj hf
    subst hf
    exact toEnd_good allOk 8 _ _ [⟨[], [], [], [], [], [], []⟩, ⟨[], [(2, true)], [], [], [], [], []⟩, ⟨[], [], [], [], [], [], []⟩] [true] [] [] [] [(decide (a1 < (0 : Int))) = true, true = true] (by kernel_rfl) rfl ⟨h1, rfl, trivial⟩
  · obtain ⟨x1, q2, hf⟩ := bind_some' hf
    rcases br_some hf with ⟨h3, hf⟩ | ⟨h3, hf⟩
    · replace hf := Option.some.inj hf
      subst hf
      exact toEnd_good allOk 8 _ _ [⟨[], [], [], [], [], [], []⟩, ⟨[(5, .r (.one (.lit (.int .i64 x1))) [])], [(2, false)], [], [], [], [], []⟩, ⟨[], [], [], [], [], [], []⟩] [true] [] [] [] [(decide (a1 < (0 : Int))) = false, SCall Try.prog 101 [.agg (T_api_Addr.c a0)] (.one (.lit (.int .i64 x1))), (decide (a1 ≥ x1)) = true] (by kernel_rfl) rfl ⟨h1, (g_doormanref06_Bits_ok a0 x1 q2), h3, trivial⟩
    · rcases br_some hf with ⟨h4, hf⟩ | ⟨h4, hf⟩
      · rcases br_some hf with ⟨h5, hf⟩ | ⟨h5, hf⟩
        · exact toK_good allOk Post.ends 14 _ _ _ _ [⟨[], [], [], [], [], [], []⟩, ⟨[(5, .r (.one (.lit (.int .i64 x1))) [])], [(2, false)], [], [], [], [], []⟩, ⟨[], [], [], [], [], [], []⟩, ⟨[], [(2, true)], [], [], [], [], []⟩, ⟨[], [], [], [], [], [], []⟩] [false, true] ⟨[], [], [], [], [], [1, 2, 5], [2], []⟩ [(decide (a1 < (0 : Int))) = false, SCall Try.prog 101 [.agg (T_api_Addr.c a0)] (.one (.lit (.int .i64 x1))), (decide (a1 ≥ x1)) = false, a0.fV6 = true, (decide (a1 < (64 : Int))) = true] (by kernel_rfl) ⟨h1, (g_doormanref06_Bits_ok a0 x1 q2), h3, h4, h5, trivial⟩ (g_doormanref06_Bit_c0_ok S0 w0 a1   a0.fHi a0 r hf)
        · exact toK_good allOk Post.ends 14 _ _ _ _ [⟨[], [], [], [], [], [], []⟩, ⟨[(5, .r (.one (.lit (.int .i64 x1))) [])], [(2, false)], [], [], [], [], []⟩, ⟨[], [], [], [], [], [], []⟩, ⟨[], [(2, true)], [], [], [], [], []⟩] [false, false] ⟨[], [], [], [], [], [1, 2, 5], [2], []⟩ [(decide (a1 < (0 : Int))) = false, SCall Try.prog 101 [.agg (T_api_Addr.c a0)] (.one (.lit (.int .i64 x1))), (decide (a1 ≥ x1)) = false, a0.fV6 = true, (decide (a1 < (64 : Int))) = false] (by kernel_rfl) ⟨h1, (g_doormanref06_Bits_ok a0 x1 q2), h3, h4, h5, trivial⟩ (g_doormanref06_Bit_c0_ok S0 w0 a1   a0.fLo a0 r hf)
      · exact toK_good allOk Post.ends 14 _ _ _ _ [⟨[], [], [], [], [], [], []⟩, ⟨[(5, .r (.one (.lit (.int .i64 x1))) [])], [(2, false)], [], [], [], [], []⟩, ⟨[], [], [], [], [], [], []⟩, ⟨[], [(2, false)], [], [], [], [], []⟩] [false, false] ⟨[], [], [], [], [], [1, 2, 5], [2], []⟩ [(decide (a1 < (0 : Int))) = false, SCall Try.prog 101 [.agg (T_api_Addr.c a0)] (.one (.lit (.int .i64 x1))), (decide (a1 ≥ x1)) = false, a0.fV6 = false, false = false] (by kernel_rfl) ⟨h1, (g_doormanref06_Bits_ok a0 x1 q2), h3, h4, rfl, trivial⟩ (g_doormanref06_Bit_c0_ok S0 w0 a1   a0.fLo a0 r hf)

def g_doormanref08_Same_c0   : Nat → Int → T_api_Addr → T_api_Addr → Option Bool
  | 0, _, _, _ => none
  | fu + 1, v5, b2, b3 =>
    bif (decide (v5 < (32 : Int))) then
      bif b2.fV6 then
        (g_doormanref06_Bit b2 v5).bind fun x3 =>
        (g_doormanref06_Bit b3 v5).bind fun x4 =>
        bif (x3 != x4) then
          some false
        else
          g_doormanref08_Same_c0   fu (add64 v5 (1 : Int)) b2 b3
      else
        bif (decide (v5 < (16 : Int))) then
          (g_doormanref06_Bit b2 v5).bind fun x5 =>
          (g_doormanref06_Bit b3 v5).bind fun x6 =>
          bif (x5 != x6) then
            some false
          else
            g_doormanref08_Same_c0   fu (add64 v5 (1 : Int)) b2 b3
        else
          g_doormanref08_Same_c0   fu (add64 v5 (1 : Int)) b2 b3
    else
      some true

theorem g_doormanref08_Same_c0_ok (S0 : Nat → Prop) (w0 : Start)   : ∀ (fu : Nat) (v5 : Int) (b2 : T_api_Addr) (b3 : T_api_Addr) (r : Bool), g_doormanref08_Same_c0   fu v5 b2 b3 = some r → Good Try.prog 40 S0 w0 (bodyPost Try.prog Try.f57 (Post S0 w0 (.one (.lit (.bool r))))) (at_ [1, 1, 0, 1, 0] (bodyOf Try.f57)) ⟨[(2, .one (.ptr 2 0)), (3, .one (.ptr 3 0)), (5, .one (.lit (.int .i64 v5)))], [(2, .box [.lit (.bool b2.fV6), .lit (.int .u64 b2.fHi), .lit (.int .u64 b2.fLo)]), (3, .box [.lit (.bool b3.fV6), .lit (.int .u64 b3.fHi), .lit (.int .u64 b3.fLo)])]⟩ := by
  intro fu
  induction fu with
  | zero =>
    intro v5 b2 b3 r hf
    simp [g_doormanref08_Same_c0] at hf
  | succ fu ih =>
    intro v5 b2 b3 r hf
    unfold g_doormanref08_Same_c0 at hf
    rcases br_some hf with ⟨h6, hf⟩ | ⟨h6, hf⟩
    · rcases br_some hf with ⟨h7, hf⟩ | ⟨h7, hf⟩
      · obtain ⟨x3, q8, hf⟩ := bind_some' hf
        obtain ⟨x4, q9, hf⟩ := bind_some' hf
        rcases br_some hf with ⟨h10, hf⟩ | ⟨h10, hf⟩
        · replace hf := Option.some.inj hf
          subst hf
          exact toEnd_good allOk 13 _ _ [⟨[], [], [], [], [], [], []⟩, ⟨[(9, .r (.one (.lit (.int .i64 x3))) []), (12, .r (.one (.lit (.int .i64 x4))) [])], [(2, true)], [], [[], [0], [1, 0], [2, 1, 0], [3, 2, 1, 0], [2, 1, 0, 4, 3], [5, 2, 1, 0, 4, 3], [6, 5, 2, 1, 0, 4, 3], [6, 5, 2, 1, 0, 4, 3], [7, 6, 5, 2, 1, 0, 4, 3, 8], [6, 5, 2, 1, 0, 4, 3], [6, 5, 2, 1, 0, 4, 3], [10, 6, 5, 2, 1, 0, 4, 3, 11, 9, 7, 8], [9, 7, 6, 5, 2, 1, 0, 4, 3, 8, 12, 10, 11], [6, 5, 2, 1, 0, 4, 3, 13, 9, 7, 8, 12, 10, 11]], [], [], []⟩, ⟨[], [], [], [], [], [], []⟩] [true, true] [] [] [] [(decide (v5 < (32 : Int))) = true, b2.fV6 = true, SCall Try.prog 115 [.agg (T_api_Addr.c b2), .one (.lit (.int .i64 v5))] (.one (.lit (.int .i64 x3))), SCall Try.prog 115 [.agg (T_api_Addr.c b3), .one (.lit (.int .i64 v5))] (.one (.lit (.int .i64 x4))), (x3 != x4) = true] (by kernel_rfl) rfl ⟨h6, h7, (g_doormanref06_Bit_ok b2 v5 x3 q8), (g_doormanref06_Bit_ok b3 v5 x4 q9), h10, trivial⟩
        · exact toK_good allOk Post.ends 15 _ _ _ _ [⟨[], [], [], [], [], [], []⟩, ⟨[(9, .r (.one (.lit (.int .i64 x3))) []), (12, .r (.one (.lit (.int .i64 x4))) [])], [(2, true)], [], [[], [0], [1, 0], [2, 1, 0], [3, 2, 1, 0], [2, 1, 0, 4, 3], [5, 2, 1, 0, 4, 3], [6, 5, 2, 1, 0, 4, 3], [6, 5, 2, 1, 0, 4, 3], [7, 6, 5, 2, 1, 0, 4, 3, 8], [6, 5, 2, 1, 0, 4, 3], [6, 5, 2, 1, 0, 4, 3], [10, 6, 5, 2, 1, 0, 4, 3, 11, 9, 7, 8], [9, 7, 6, 5, 2, 1, 0, 4, 3, 8, 12, 10, 11], [6, 5, 2, 1, 0, 4, 3, 13, 9, 7, 8, 12, 10, 11]], [], [], []⟩, ⟨[], [], [], [], [], [], []⟩] [true, false] ⟨[], [], [], [], [], [2, 3, 5], [2, 3], []⟩ [(decide (v5 < (32 : Int))) = true, b2.fV6 = true, SCall Try.prog 115 [.agg (T_api_Addr.c b2), .one (.lit (.int .i64 v5))] (.one (.lit (.int .i64 x3))), SCall Try.prog 115 [.agg (T_api_Addr.c b3), .one (.lit (.int .i64 v5))] (.one (.lit (.int .i64 x4))), (x3 != x4) = false] (by kernel_rfl) ⟨h6, h7, (g_doormanref06_Bit_ok b2 v5 x3 q8), (g_doormanref06_Bit_ok b3 v5 x4 q9), h10, trivial⟩ (ih (add64 v5 (1 : Int)) b2 b3 r hf)
      · rcases br_some hf with ⟨h11, hf⟩ | ⟨h11, hf⟩
        · obtain ⟨x5, q12, hf⟩ := bind_some' hf
          obtain ⟨x6, q13, hf⟩ := bind_some' hf
          rcases br_some hf with ⟨h14, hf⟩ | ⟨h14, hf⟩
          · replace hf := Option.some.inj hf
            subst hf
            exact toEnd_good allOk 13 _ _ [⟨[], [], [], [], [], [], []⟩, ⟨[(9, .r (.one (.lit (.int .i64 x5))) []), (12, .r (.one (.lit (.int .i64 x6))) [])], [(2, false), (6, true)], [], [[], [0], [1, 0], [2, 1, 0], [3, 2, 1, 0], [2, 1, 0, 4, 3], [5, 2, 1, 0, 4, 3], [6, 5, 2, 1, 0, 4, 3], [6, 5, 2, 1, 0, 4, 3], [7, 6, 5, 2, 1, 0, 4, 3, 8], [6, 5, 2, 1, 0, 4, 3], [6, 5, 2, 1, 0, 4, 3], [10, 6, 5, 2, 1, 0, 4, 3, 11, 9, 7, 8], [9, 7, 6, 5, 2, 1, 0, 4, 3, 8, 12, 10, 11], [6, 5, 2, 1, 0, 4, 3, 13, 9, 7, 8, 12, 10, 11]], [], [], []⟩, ⟨[], [], [], [], [], [], []⟩] [true, true] [] [] [] [(decide (v5 < (32 : Int))) = true, b2.fV6 = false, (decide (v5 < (16 : Int))) = true, SCall Try.prog 115 [.agg (T_api_Addr.c b2), .one (.lit (.int .i64 v5))] (.one (.lit (.int .i64 x5))), SCall Try.prog 115 [.agg (T_api_Addr.c b3), .one (.lit (.int .i64 v5))] (.one (.lit (.int .i64 x6))), (x5 != x6) = true] (by kernel_rfl) rfl ⟨h6, h7, h11, (g_doormanref06_Bit_ok b2 v5 x5 q12), (g_doormanref06_Bit_ok b3 v5 x6 q13), h14, trivial⟩
          · exact toK_good allOk Post.ends 15 _ _ _ _ [⟨[], [], [], [], [], [], []⟩, ⟨[(9, .r (.one (.lit (.int .i64 x5))) []), (12, .r (.one (.lit (.int .i64 x6))) [])], [(2, false), (6, true)], [], [[], [0], [1, 0], [2, 1, 0], [3, 2, 1, 0], [2, 1, 0, 4, 3], [5, 2, 1, 0, 4, 3], [6, 5, 2, 1, 0, 4, 3], [6, 5, 2, 1, 0, 4, 3], [7, 6, 5, 2, 1, 0, 4, 3, 8], [6, 5, 2, 1, 0, 4, 3], [6, 5, 2, 1, 0, 4, 3], [10, 6, 5, 2, 1, 0, 4, 3, 11, 9, 7, 8], [9, 7, 6, 5, 2, 1, 0, 4, 3, 8, 12, 10, 11], [6, 5, 2, 1, 0, 4, 3, 13, 9, 7, 8, 12, 10, 11]], [], [], []⟩, ⟨[], [], [], [], [], [], []⟩] [true, false] ⟨[], [], [], [], [], [2, 3, 5], [2, 3], []⟩ [(decide (v5 < (32 : Int))) = true, b2.fV6 = false, (decide (v5 < (16 : Int))) = true, SCall Try.prog 115 [.agg (T_api_Addr.c b2), .one (.lit (.int .i64 v5))] (.one (.lit (.int .i64 x5))), SCall Try.prog 115 [.agg (T_api_Addr.c b3), .one (.lit (.int .i64 v5))] (.one (.lit (.int .i64 x6))), (x5 != x6) = false] (by kernel_rfl) ⟨h6, h7, h11, (g_doormanref06_Bit_ok b2 v5 x5 q12), (g_doormanref06_Bit_ok b3 v5 x6 q13), h14, trivial⟩ (ih (add64 v5 (1 : Int)) b2 b3 r hf)
        · exact toK_good allOk Post.ends 15 _ _ _ _ [⟨[], [], [], [], [], [], []⟩, ⟨[], [(2, false), (6, false)], [], [[], [0], [1, 0], [2, 1, 0], [3, 2, 1, 0], [2, 1, 0, 4, 3], [5, 2, 1, 0, 4, 3], [6, 5, 2, 1, 0, 4, 3], [6, 5, 2, 1, 0, 4, 3], [7, 6, 5, 2, 1, 0, 4, 3, 8], [6, 5, 2, 1, 0, 4, 3], [6, 5, 2, 1, 0, 4, 3], [10, 6, 5, 2, 1, 0, 4, 3, 11, 9, 7, 8], [9, 7, 6, 5, 2, 1, 0, 4, 3, 8, 12, 10, 11], [6, 5, 2, 1, 0, 4, 3, 13, 9, 7, 8, 12, 10, 11]], [], [], []⟩, ⟨[], [], [], [], [], [], []⟩] [true, false] ⟨[], [], [], [], [], [2, 3, 5], [2, 3], []⟩ [(decide (v5 < (32 : Int))) = true, b2.fV6 = false, (decide (v5 < (16 : Int))) = false, false = false] (by kernel_rfl) ⟨h6, h7, h11, rfl, trivial⟩ (ih (add64 v5 (1 : Int)) b2 b3 r hf)
    · replace hf := Option.some.inj hf
      subst hf
      exact toEnd_good allOk 8 _ _ [⟨[], [], [], [], [], [], []⟩, ⟨[], [], [], [], [], [], []⟩] [false] [] [] [] [(decide (v5 < (32 : Int))) = false] (by kernel_rfl) rfl ⟨h6, trivial⟩

/-- doorman/doormanref08.Same -/
def g_doormanref08_Same (a0 : T_api_Addr) (a1 : T_api_Addr) : Option Bool :=
  (g_doormanref06_Right a0).bind fun x1 =>
  bif (!x1) then
    some false
  else
    (g_doormanref06_Right a1).bind fun x2 =>
    bif (!x2) then
      some false
    else
      bif (!(a0.fV6 == a1.fV6)) then
        some false
      else
        g_doormanref08_Same_c0   (((32 : Int) - (0 : Int)).toNat + 2) (0 : Int) a0 a1

theorem g_doormanref08_Same_ok (a0 : T_api_Addr) (a1 : T_api_Addr) (r : Bool) (hf : g_doormanref08_Same a0 a1 = some r) : SCall Try.prog 57 [.agg (T_api_Addr.c a0), .agg (T_api_Addr.c a1)] (.one (.lit (.bool r))) := by
  refine SCall.of Try.func57 rfl rfl rfl rfl fun S0 w0 => ?_
  unfold g_doormanref08_Same at hf
  obtain ⟨x1, q1, hf⟩ := bind_some' hf
  rcases br_some hf with ⟨h2, hf⟩ | ⟨h2, hf⟩
  · replace hf := Option.some.inj hf
    subst hf
    exact toEnd_good allOk 8 _ _ [⟨[], [], [], [], [], [], []⟩, ⟨[(1, .r (.one (.lit (.bool x1))) [])], [(3, true)], [], [], [], [], []⟩, ⟨[], [], [], [], [], [], []⟩] [true] [] [] [] [SCall Try.prog 114 [.agg (T_api_Addr.c a0)] (.one (.lit (.bool x1))), (!x1) = true, true = true] (by kernel_rfl) rfl ⟨(g_doormanref06_Right_ok a0 x1 q1), h2, rfl, trivial⟩
  · obtain ⟨x2, q3, hf⟩ := bind_some' hf
    rcases br_some hf with ⟨h4, hf⟩ | ⟨h4, hf⟩
    · replace hf := Option.some.inj hf
      subst hf
      exact toEnd_good allOk 8 _ _ [⟨[], [], [], [], [], [], []⟩, ⟨[(1, .r (.one (.lit (.bool x1))) []), (5, .r (.one (.lit (.bool x2))) [])], [(3, false), (8, true)], [], [], [], [], []⟩, ⟨[], [], [], [], [], [], []⟩] [true] [] [] [] [SCall Try.prog 114 [.agg (T_api_Addr.c a0)] (.one (.lit (.bool x1))), (!x1) = false, SCall Try.prog 114 [.agg (T_api_Addr.c a1)] (.one (.lit (.bool x2))), (!x2) = true, true = true] (by kernel_rfl) rfl ⟨(g_doormanref06_Right_ok a0 x1 q1), h2, (g_doormanref06_Right_ok a1 x2 q3), h4, rfl, trivial⟩
    · rcases br_some hf with ⟨h5, hf⟩ | ⟨h5, hf⟩
      · replace hf := Option.some.inj hf
        subst hf
        exact toEnd_good allOk 8 _ _ [⟨[], [], [], [], [], [], []⟩, ⟨[(1, .r (.one (.lit (.bool x1))) []), (5, .r (.one (.lit (.bool x2))) [])], [(3, false), (8, false)], [], [], [], [], []⟩, ⟨[], [], [], [], [], [], []⟩] [true] [] [] [] [SCall Try.prog 114 [.agg (T_api_Addr.c a0)] (.one (.lit (.bool x1))), (!x1) = false, SCall Try.prog 114 [.agg (T_api_Addr.c a1)] (.one (.lit (.bool x2))), (!x2) = false, (!(a0.fV6 == a1.fV6)) = true] (by kernel_rfl) rfl ⟨(g_doormanref06_Right_ok a0 x1 q1), h2, (g_doormanref06_Right_ok a1 x2 q3), h4, h5, trivial⟩
      · exact toK_good allOk Post.ends 11 _ _ _ _ [⟨[], [], [], [], [], [], []⟩, ⟨[(1, .r (.one (.lit (.bool x1))) []), (5, .r (.one (.lit (.bool x2))) [])], [(3, false), (8, false)], [], [], [], [], []⟩, ⟨[], [], [], [], [], [], []⟩] [false] ⟨[], [], [], [], [], [2, 3, 5], [2, 3], []⟩ [SCall Try.prog 114 [.agg (T_api_Addr.c a0)] (.one (.lit (.bool x1))), (!x1) = false, SCall Try.prog 114 [.agg (T_api_Addr.c a1)] (.one (.lit (.bool x2))), (!x2) = false, (!(a0.fV6 == a1.fV6)) = false] (by kernel_rfl) ⟨(g_doormanref06_Right_ok a0 x1 q1), h2, (g_doormanref06_Right_ok a1 x2 q3), h4, h5, trivial⟩ (g_doormanref08_Same_c0_ok S0 w0    (((32 : Int) - (0 : Int)).toNat + 2) (0 : Int) a0 a1 r hf)

def g_doormanref07_Right_c0   : Nat → Int → T_api_Net → Option Bool
  | 0, _, _ => none
  | fu + 1, v3, b1 =>
    (g_doormanref06_Bits b1.fAddr).bind fun x3 =>
    bif (decide (v3 < x3)) then
      (g_doormanref06_Bit b1.fAddr v3).bind fun x4 =>
      bif (x4 == (1 : Int)) then
        some false
      else
        g_doormanref07_Right_c0   fu (add64 v3 (1 : Int)) b1
    else
      some true

theorem g_doormanref07_Right_c0_ok (S0 : Nat → Prop) (w0 : Start)   : ∀ (fu : Nat) (v3 : Int) (b1 : T_api_Net) (r : Bool), g_doormanref07_Right_c0   fu v3 b1 = some r → Good Try.prog 35 S0 w0 (bodyPost Try.prog Try.f91 (Post S0 w0 (.one (.lit (.bool r))))) (at_ [1, 1, 0, 1, 0] (bodyOf Try.f91)) ⟨[(1, .one (.ptr 1 0)), (3, .one (.lit (.int .i64 v3)))], [(1, .box [.lit (.bool b1.fAddr.fV6), .lit (.int .u64 b1.fAddr.fHi), .lit (.int .u64 b1.fAddr.fLo), .lit (.int .i64 b1.fBits)])]⟩ := by
  intro fu
  induction fu with
  | zero =>
    intro v3 b1 r hf
    simp [g_doormanref07_Right_c0] at hf
  | succ fu ih =>
    intro v3 b1 r hf
    unfold g_doormanref07_Right_c0 at hf
    obtain ⟨x3, q6, hf⟩ := bind_some' hf
    rcases br_some hf with ⟨h7, hf⟩ | ⟨h7, hf⟩
    · obtain ⟨x4, q8, hf⟩ := bind_some' hf
      rcases br_some hf with ⟨h9, hf⟩ | ⟨h9, hf⟩
      · replace hf := Option.some.inj hf
        subst hf
        exact toEnd_good allOk 13 _ _ [⟨[(3, .r (.one (.lit (.int .i64 x3))) [])], [], [], [], [], [], []⟩, ⟨[(3, .r (.one (.lit (.int .i64 x4))) [])], [], [], [], [], [], []⟩, ⟨[], [], [], [], [], [], []⟩] [true, true] [] [] [] [SCall Try.prog 101 [.agg (T_api_Addr.c b1.fAddr)] (.one (.lit (.int .i64 x3))), (decide (v3 < x3)) = true, SCall Try.prog 115 [.agg (T_api_Addr.c b1.fAddr), .one (.lit (.int .i64 v3))] (.one (.lit (.int .i64 x4))), (x4 == (1 : Int)) = true] (by kernel_rfl) rfl ⟨(g_doormanref06_Bits_ok b1.fAddr x3 q6), h7, (g_doormanref06_Bit_ok b1.fAddr v3 x4 q8), h9, trivial⟩
      · exact toK_good allOk Post.ends 15 _ _ _ _ [⟨[(3, .r (.one (.lit (.int .i64 x3))) [])], [], [], [], [], [], []⟩, ⟨[(3, .r (.one (.lit (.int .i64 x4))) [])], [], [], [], [], [], []⟩, ⟨[], [], [], [], [], [], []⟩] [true, false] ⟨[], [], [], [], [], [1, 3], [1], []⟩ [SCall Try.prog 101 [.agg (T_api_Addr.c b1.fAddr)] (.one (.lit (.int .i64 x3))), (decide (v3 < x3)) = true, SCall Try.prog 115 [.agg (T_api_Addr.c b1.fAddr), .one (.lit (.int .i64 v3))] (.one (.lit (.int .i64 x4))), (x4 == (1 : Int)) = false] (by kernel_rfl) ⟨(g_doormanref06_Bits_ok b1.fAddr x3 q6), h7, (g_doormanref06_Bit_ok b1.fAddr v3 x4 q8), h9, trivial⟩ (ih (add64 v3 (1 : Int)) b1 r hf)
    · replace hf := Option.some.inj hf
      subst hf
      exact toEnd_good allOk 8 _ _ [⟨[(3, .r (.one (.lit (.int .i64 x3))) [])], [], [], [], [], [], []⟩, ⟨[], [], [], [], [], [], []⟩] [false] [] [] [] [SCall Try.prog 101 [.agg (T_api_Addr.c b1.fAddr)] (.one (.lit (.int .i64 x3))), (decide (v3 < x3)) = false] (by kernel_rfl) rfl ⟨(g_doormanref06_Bits_ok b1.fAddr x3 q6), h7, trivial⟩

/-- doorman/doormanref07.Right -/
def g_doormanref07_Right (a0 : T_api_Net) : Option Bool :=
  (g_doormanref06_Right a0.fAddr).bind fun x1 =>
  bif (!x1) then
    some false
  else
    bif (decide (a0.fBits < (0 : Int))) then
      some false
    else
      (g_doormanref06_Bits a0.fAddr).bind fun x2 =>
      bif (decide (a0.fBits > x2)) then
        some false
      else
        g_doormanref07_Right_c0   1000000 a0.fBits a0

theorem g_doormanref07_Right_ok (a0 : T_api_Net) (r : Bool) (hf : g_doormanref07_Right a0 = some r) : SCall Try.prog 91 [.agg (T_api_Net.c a0)] (.one (.lit (.bool r))) := by
  refine SCall.of Try.func91 rfl rfl rfl rfl fun S0 w0 => ?_
  unfold g_doormanref07_Right at hf
  obtain ⟨x1, q1, hf⟩ := bind_some' hf
  rcases br_some hf with ⟨h2, hf⟩ | ⟨h2, hf⟩
  · replace hf := Option.some.inj hf
    subst hf
    exact toEnd_good allOk 8 _ _ [⟨[], [], [], [], [], [], []⟩, ⟨[(2, .r (.one (.lit (.bool x1))) [])], [(4, true)], [], [[], [0], [1, 0], [2, 1, 0], [3, 2, 1, 0], [4, 3, 2, 1, 0], [5, 4, 3, 2, 1, 0], [6, 5, 4, 3, 2, 1, 0], [4, 3, 2, 1, 0, 7, 6, 5], [8, 4, 3, 2, 1, 0, 7, 6, 5], [9, 8, 4, 3, 2, 1, 0, 7, 6, 5], [10, 9, 8, 4, 3, 2, 1, 0, 7, 6, 5], [9, 8, 4, 3, 2, 1, 0, 7, 6, 5], [12, 9, 8, 4, 3, 2, 1, 0, 7, 6, 5], [13, 12, 9, 8, 4, 3, 2, 1, 0, 7, 6, 5], [11, 10, 9, 8, 4, 3, 2, 1, 0, 7, 6, 5, 14, 13, 12], [9, 8, 4, 3, 2, 1, 0, 7, 6, 5, 15, 11, 10, 14, 13, 12]], [], [], []⟩, ⟨[], [], [], [], [], [], []⟩] [true] [] [] [] [SCall Try.prog 114 [.agg (T_api_Addr.c a0.fAddr)] (.one (.lit (.bool x1))), (!x1) = true, true = true] (by kernel_rfl) rfl ⟨(g_doormanref06_Right_ok a0.fAddr x1 q1), h2, rfl, trivial⟩
  · rcases br_some hf with ⟨h3, hf⟩ | ⟨h3, hf⟩
    · replace hf := Option.some.inj hf
      subst hf
      exact toEnd_good allOk 8 _ _ [⟨[], [], [], [], [], [], []⟩, ⟨[(2, .r (.one (.lit (.bool x1))) [])], [(4, false), (9, true)], [], [[], [0], [1, 0], [2, 1, 0], [3, 2, 1, 0], [4, 3, 2, 1, 0], [5, 4, 3, 2, 1, 0], [6, 5, 4, 3, 2, 1, 0], [4, 3, 2, 1, 0, 7, 6, 5], [8, 4, 3, 2, 1, 0, 7, 6, 5], [9, 8, 4, 3, 2, 1, 0, 7, 6, 5], [10, 9, 8, 4, 3, 2, 1, 0, 7, 6, 5], [9, 8, 4, 3, 2, 1, 0, 7, 6, 5], [12, 9, 8, 4, 3, 2, 1, 0, 7, 6, 5], [13, 12, 9, 8, 4, 3, 2, 1, 0, 7, 6, 5], [11, 10, 9, 8, 4, 3, 2, 1, 0, 7, 6, 5, 14, 13, 12], [9, 8, 4, 3, 2, 1, 0, 7, 6, 5, 15, 11, 10, 14, 13, 12]], [], [], []⟩, ⟨[], [], [], [], [], [], []⟩] [true] [] [] [] [SCall Try.prog 114 [.agg (T_api_Addr.c a0.fAddr)] (.one (.lit (.bool x1))), (!x1) = false, (decide (a0.fBits < (0 : Int))) = true, true = true] (by kernel_rfl) rfl ⟨(g_doormanref06_Right_ok a0.fAddr x1 q1), h2, h3, rfl, trivial⟩
    · obtain ⟨x2, q4, hf⟩ := bind_some' hf
      rcases br_some hf with ⟨h5, hf⟩ | ⟨h5, hf⟩
      · replace hf := Option.some.inj hf
        subst hf
        exact toEnd_good allOk 8 _ _ [⟨[], [], [], [], [], [], []⟩, ⟨[(2, .r (.one (.lit (.bool x1))) []), (14, .r (.one (.lit (.int .i64 x2))) [])], [(4, false), (9, false)], [], [[], [0], [1, 0], [2, 1, 0], [3, 2, 1, 0], [4, 3, 2, 1, 0], [5, 4, 3, 2, 1, 0], [6, 5, 4, 3, 2, 1, 0], [4, 3, 2, 1, 0, 7, 6, 5], [8, 4, 3, 2, 1, 0, 7, 6, 5], [9, 8, 4, 3, 2, 1, 0, 7, 6, 5], [10, 9, 8, 4, 3, 2, 1, 0, 7, 6, 5], [9, 8, 4, 3, 2, 1, 0, 7, 6, 5], [12, 9, 8, 4, 3, 2, 1, 0, 7, 6, 5], [13, 12, 9, 8, 4, 3, 2, 1, 0, 7, 6, 5], [11, 10, 9, 8, 4, 3, 2, 1, 0, 7, 6, 5, 14, 13, 12], [9, 8, 4, 3, 2, 1, 0, 7, 6, 5, 15, 11, 10, 14, 13, 12]], [], [], []⟩, ⟨[], [], [], [], [], [], []⟩] [true] [] [] [] [SCall Try.prog 114 [.agg (T_api_Addr.c a0.fAddr)] (.one (.lit (.bool x1))), (!x1) = false, (decide (a0.fBits < (0 : Int))) = false, SCall Try.prog 101 [.agg (T_api_Addr.c a0.fAddr)] (.one (.lit (.int .i64 x2))), (decide (a0.fBits > x2)) = true] (by kernel_rfl) rfl ⟨(g_doormanref06_Right_ok a0.fAddr x1 q1), h2, h3, (g_doormanref06_Bits_ok a0.fAddr x2 q4), h5, trivial⟩
      · exact toK_good allOk Post.ends 11 _ _ _ _ [⟨[], [], [], [], [], [], []⟩, ⟨[(2, .r (.one (.lit (.bool x1))) []), (14, .r (.one (.lit (.int .i64 x2))) [])], [(4, false), (9, false)], [], [[], [0], [1, 0], [2, 1, 0], [3, 2, 1, 0], [4, 3, 2, 1, 0], [5, 4, 3, 2, 1, 0], [6, 5, 4, 3, 2, 1, 0], [4, 3, 2, 1, 0, 7, 6, 5], [8, 4, 3, 2, 1, 0, 7, 6, 5], [9, 8, 4, 3, 2, 1, 0, 7, 6, 5], [10, 9, 8, 4, 3, 2, 1, 0, 7, 6, 5], [9, 8, 4, 3, 2, 1, 0, 7, 6, 5], [12, 9, 8, 4, 3, 2, 1, 0, 7, 6, 5], [13, 12, 9, 8, 4, 3, 2, 1, 0, 7, 6, 5], [11, 10, 9, 8, 4, 3, 2, 1, 0, 7, 6, 5, 14, 13, 12], [9, 8, 4, 3, 2, 1, 0, 7, 6, 5, 15, 11, 10, 14, 13, 12]], [], [], []⟩, ⟨[], [], [], [], [], [], []⟩] [false] ⟨[], [], [], [], [], [1, 3], [1], []⟩ [SCall Try.prog 114 [.agg (T_api_Addr.c a0.fAddr)] (.one (.lit (.bool x1))), (!x1) = false, (decide (a0.fBits < (0 : Int))) = false, SCall Try.prog 101 [.agg (T_api_Addr.c a0.fAddr)] (.one (.lit (.int .i64 x2))), (decide (a0.fBits > x2)) = false] (by kernel_rfl) ⟨(g_doormanref06_Right_ok a0.fAddr x1 q1), h2, h3, (g_doormanref06_Bits_ok a0.fAddr x2 q4), h5, trivial⟩ (g_doormanref07_Right_c0_ok S0 w0    1000000 a0.fBits a0 r hf)

def g_doormanref07_Has_c0   : Nat → Int → T_api_Net → T_api_Addr → Option Bool
  | 0, _, _, _ => none
  | fu + 1, v5, b2, b3 =>
    bif (decide (v5 < b2.fBits)) then
      (g_doormanref06_Bit b2.fAddr v5).bind fun x3 =>
      (g_doormanref06_Bit b3 v5).bind fun x4 =>
      bif (x3 != x4) then
        some false
      else
        g_doormanref07_Has_c0   fu (add64 v5 (1 : Int)) b2 b3
    else
      some true

theorem g_doormanref07_Has_c0_ok (S0 : Nat → Prop) (w0 : Start)   : ∀ (fu : Nat) (v5 : Int) (b2 : T_api_Net) (b3 : T_api_Addr) (r : Bool), g_doormanref07_Has_c0   fu v5 b2 b3 = some r → Good Try.prog 36 S0 w0 (bodyPost Try.prog Try.f102 (Post S0 w0 (.one (.lit (.bool r))))) (at_ [1, 1, 0, 1, 0] (bodyOf Try.f102)) ⟨[(2, .one (.ptr 2 0)), (3, .one (.ptr 3 0)), (5, .one (.lit (.int .i64 v5)))], [(2, .box [.lit (.bool b2.fAddr.fV6), .lit (.int .u64 b2.fAddr.fHi), .lit (.int .u64 b2.fAddr.fLo), .lit (.int .i64 b2.fBits)]), (3, .box [.lit (.bool b3.fV6), .lit (.int .u64 b3.fHi), .lit (.int .u64 b3.fLo)])]⟩ := by
  intro fu
  induction fu with
  | zero =>
    intro v5 b2 b3 r hf
    simp [g_doormanref07_Has_c0] at hf
  | succ fu ih =>
    intro v5 b2 b3 r hf
    unfold g_doormanref07_Has_c0 at hf
    rcases br_some hf with ⟨h6, hf⟩ | ⟨h6, hf⟩
    · obtain ⟨x3, q7, hf⟩ := bind_some' hf
      obtain ⟨x4, q8, hf⟩ := bind_some' hf
      rcases br_some hf with ⟨h9, hf⟩ | ⟨h9, hf⟩
      · replace hf := Option.some.inj hf
        subst hf
        exact toEnd_good allOk 13 _ _ [⟨[], [], [], [], [], [], []⟩, ⟨[(3, .r (.one (.lit (.int .i64 x3))) []), (6, .r (.one (.lit (.int .i64 x4))) [])], [], [], [[], [0], [], [1, 0, 2], [], [], [4, 5, 3, 1, 0, 2], [3, 1, 0, 2, 6, 4, 5]], [], [], []⟩, ⟨[], [], [], [], [], [], []⟩] [true, true] [] [] [] [(decide (v5 < b2.fBits)) = true, SCall Try.prog 115 [.agg (T_api_Addr.c b2.fAddr), .one (.lit (.int .i64 v5))] (.one (.lit (.int .i64 x3))), SCall Try.prog 115 [.agg (T_api_Addr.c b3), .one (.lit (.int .i64 v5))] (.one (.lit (.int .i64 x4))), (x3 != x4) = true] (by kernel_rfl) rfl ⟨h6, (g_doormanref06_Bit_ok b2.fAddr v5 x3 q7), (g_doormanref06_Bit_ok b3 v5 x4 q8), h9, trivial⟩
      · exact toK_good allOk Post.ends 15 _ _ _ _ [⟨[], [], [], [], [], [], []⟩, ⟨[(3, .r (.one (.lit (.int .i64 x3))) []), (6, .r (.one (.lit (.int .i64 x4))) [])], [], [], [[], [0], [], [1, 0, 2], [], [], [4, 5, 3, 1, 0, 2], [3, 1, 0, 2, 6, 4, 5]], [], [], []⟩, ⟨[], [], [], [], [], [], []⟩] [true, false] ⟨[], [], [], [], [], [2, 3, 5], [2, 3], []⟩ [(decide (v5 < b2.fBits)) = true, SCall Try.prog 115 [.agg (T_api_Addr.c b2.fAddr), .one (.lit (.int .i64 v5))] (.one (.lit (.int .i64 x3))), SCall Try.prog 115 [.agg (T_api_Addr.c b3), .one (.lit (.int .i64 v5))] (.one (.lit (.int .i64 x4))), (x3 != x4) = false] (by kernel_rfl) ⟨h6, (g_doormanref06_Bit_ok b2.fAddr v5 x3 q7), (g_doormanref06_Bit_ok b3 v5 x4 q8), h9, trivial⟩ (ih (add64 v5 (1 : Int)) b2 b3 r hf)
    · replace hf := Option.some.inj hf
      subst hf
      exact toEnd_good allOk 8 _ _ [⟨[], [], [], [], [], [], []⟩, ⟨[], [], [], [], [], [], []⟩] [false] [] [] [] [(decide (v5 < b2.fBits)) = false] (by kernel_rfl) rfl ⟨h6, trivial⟩

/-- doorman/doormanref07.Has -/
def g_doormanref07_Has (a0 : T_api_Net) (a1 : T_api_Addr) : Option Bool :=
  (g_doormanref07_Right a0).bind fun x1 =>
  bif (!x1) then
    some false
  else
    (g_doormanref06_Right a1).bind fun x2 =>
    bif (!x2) then
      some false
    else
      bif (!(a0.fAddr.fV6 == a1.fV6)) then
        some false
      else
        g_doormanref07_Has_c0   1000000 (0 : Int) a0 a1

theorem g_doormanref07_Has_ok (a0 : T_api_Net) (a1 : T_api_Addr) (r : Bool) (hf : g_doormanref07_Has a0 a1 = some r) : SCall Try.prog 102 [.agg (T_api_Net.c a0), .agg (T_api_Addr.c a1)] (.one (.lit (.bool r))) := by
  refine SCall.of Try.func102 rfl rfl rfl rfl fun S0 w0 => ?_
  unfold g_doormanref07_Has at hf
  obtain ⟨x1, q1, hf⟩ := bind_some' hf
  rcases br_some hf with ⟨h2, hf⟩ | ⟨h2, hf⟩
  · replace hf := Option.some.inj hf
    subst hf
    exact toEnd_good allOk 8 _ _ [⟨[], [], [], [], [], [], []⟩, ⟨[(1, .r (.one (.lit (.bool x1))) [])], [(3, true)], [], [], [], [], []⟩, ⟨[], [], [], [], [], [], []⟩] [true] [] [] [] [SCall Try.prog 91 [.agg (T_api_Net.c a0)] (.one (.lit (.bool x1))), (!x1) = true, true = true] (by kernel_rfl) rfl ⟨(g_doormanref07_Right_ok a0 x1 q1), h2, rfl, trivial⟩
  · obtain ⟨x2, q3, hf⟩ := bind_some' hf
    rcases br_some hf with ⟨h4, hf⟩ | ⟨h4, hf⟩
    · replace hf := Option.some.inj hf
      subst hf
      exact toEnd_good allOk 8 _ _ [⟨[], [], [], [], [], [], []⟩, ⟨[(1, .r (.one (.lit (.bool x1))) []), (5, .r (.one (.lit (.bool x2))) [])], [(3, false), (8, true)], [], [], [], [], []⟩, ⟨[], [], [], [], [], [], []⟩] [true] [] [] [] [SCall Try.prog 91 [.agg (T_api_Net.c a0)] (.one (.lit (.bool x1))), (!x1) = false, SCall Try.prog 114 [.agg (T_api_Addr.c a1)] (.one (.lit (.bool x2))), (!x2) = true, true = true] (by kernel_rfl) rfl ⟨(g_doormanref07_Right_ok a0 x1 q1), h2, (g_doormanref06_Right_ok a1 x2 q3), h4, rfl, trivial⟩
    · rcases br_some hf with ⟨h5, hf⟩ | ⟨h5, hf⟩
      · replace hf := Option.some.inj hf
        subst hf
        exact toEnd_good allOk 8 _ _ [⟨[], [], [], [], [], [], []⟩, ⟨[(1, .r (.one (.lit (.bool x1))) []), (5, .r (.one (.lit (.bool x2))) [])], [(3, false), (8, false)], [], [], [], [], []⟩, ⟨[], [], [], [], [], [], []⟩] [true] [] [] [] [SCall Try.prog 91 [.agg (T_api_Net.c a0)] (.one (.lit (.bool x1))), (!x1) = false, SCall Try.prog 114 [.agg (T_api_Addr.c a1)] (.one (.lit (.bool x2))), (!x2) = false, (!(a0.fAddr.fV6 == a1.fV6)) = true] (by kernel_rfl) rfl ⟨(g_doormanref07_Right_ok a0 x1 q1), h2, (g_doormanref06_Right_ok a1 x2 q3), h4, h5, trivial⟩
      · exact toK_good allOk Post.ends 11 _ _ _ _ [⟨[], [], [], [], [], [], []⟩, ⟨[(1, .r (.one (.lit (.bool x1))) []), (5, .r (.one (.lit (.bool x2))) [])], [(3, false), (8, false)], [], [], [], [], []⟩, ⟨[], [], [], [], [], [], []⟩] [false] ⟨[], [], [], [], [], [2, 3, 5], [2, 3], []⟩ [SCall Try.prog 91 [.agg (T_api_Net.c a0)] (.one (.lit (.bool x1))), (!x1) = false, SCall Try.prog 114 [.agg (T_api_Addr.c a1)] (.one (.lit (.bool x2))), (!x2) = false, (!(a0.fAddr.fV6 == a1.fV6)) = false] (by kernel_rfl) ⟨(g_doormanref07_Right_ok a0 x1 q1), h2, (g_doormanref06_Right_ok a1 x2 q3), h4, h5, trivial⟩ (g_doormanref07_Has_c0_ok S0 w0    1000000 (0 : Int) a0 a1 r hf)

/-- doorman/doormanref12.Hits -/
def g_doormanref12_Hits (a0 : T_api_Ban) (a1 : T_api_Addr) (a2 : Int) : Option Bool :=
  bif (decide (a0.fUntil > a2)) then
    (g_doormanref07_Has a0.fNet a1).bind fun x1 =>
    some x1
  else
    some false

theorem g_doormanref12_Hits_ok (a0 : T_api_Ban) (a1 : T_api_Addr) (a2 : Int) (r : Bool) (hf : g_doormanref12_Hits a0 a1 a2 = some r) : SCall Try.prog 58 [.agg (T_api_Ban.c a0), .agg (T_api_Addr.c a1), .one (.lit (.int .i64 a2))] (.one (.lit (.bool r))) := by
  refine SCall.of Try.func58 rfl rfl rfl rfl fun S0 w0 => ?_
  unfold g_doormanref12_Hits at hf
  rcases br_some hf with ⟨h1, hf⟩ | ⟨h1, hf⟩
  · obtain ⟨x1, q2, hf⟩ := bind_some' hf
    replace hf := Option.some.inj hf
    subst hf
    exact toEnd_good allOk 4 _ _ [⟨[], [], [], [], [], [], []⟩, ⟨[(8, .r (.one (.lit (.bool x1))) [])], [(4, true)], [], [], [], [], []⟩] [] [] [] [] [(decide (a0.fUntil > a2)) = true, SCall Try.prog 102 [.agg (T_api_Net.c a0.fNet), .agg (T_api_Addr.c a1)] (.one (.lit (.bool x1)))] (by kernel_rfl) rfl ⟨h1, (g_doormanref07_Has_ok a0.fNet a1 x1 q2), trivial⟩
  · replace hf := Option.some.inj hf
    subst hf
    exact toEnd_good allOk 4 _ _ [⟨[], [], [], [], [], [], []⟩, ⟨[], [(4, false)], [], [], [], [], []⟩] [] [] [] [] [(decide (a0.fUntil > a2)) = false] (by kernel_rfl) rfl ⟨h1, trivial⟩
end Go.Proofs.Ytaakonlnlfbfkaa
