/-
  Functions and their contracts.
  WRITTEN BY A PROGRAM OF MY OWN (wip/gen/am.py).
-/
import Derived.Test.YtgmkffjkidgcnaaBanA0
namespace Go.Proofs.Ytgmkffjkidgcnaa
open Go.RowKit Go.Lib Go.Shelf
set_option linter.unusedVariables false
set_option maxRecDepth 100000
def g_bans_Right_c0 (a0 : (List T_api_Ban))  : Nat → (List T_api_Ban) → Int → Int → Option Bool
  | 0, _, _, _ => none
  | fu + 1, v5, v6, v7 =>
    bif (decide (v7 < v6)) then
      need (0 ≤ v7 ∧ v7 < ((v5.length : Nat) : Int)) <|
      (g_ban_Right (v5.getD v7.toNat T_api_Ban.d)).bind fun x1 =>
      bif (!x1) then
        some false
      else
        bif (decide (v7 > (0 : Int))) then
          need (0 ≤ (sub64 v7 (1 : Int)) ∧ (sub64 v7 (1 : Int)) < ((a0.length : Nat) : Int)) <|
          (g_cidr_Compare ((a0.getD (sub64 v7 (1 : Int)).toNat T_api_Ban.d).fNet) ((v5.getD v7.toNat T_api_Ban.d).fNet)).bind fun x2 =>
          bif (decide (x2 ≥ (0 : Int))) then
            some false
          else
            g_bans_Right_c0 a0  fu v5 v6 (add64 v7 (1 : Int))
        else
          g_bans_Right_c0 a0  fu v5 v6 (add64 v7 (1 : Int))
    else
      some true

theorem g_bans_Right_c0_ok (S0 : Nat → Prop) (w0 : Start) (a0 : (List T_api_Ban))  : ∀ (fu : Nat) (v5 : (List T_api_Ban)) (v6 : Int) (v7 : Int) (r : Bool), g_bans_Right_c0 a0  fu v5 v6 v7 = some r → Good Try.prog 32 S0 w0 (bodyPost Try.prog Try.f52 (Post S0 w0 (.one (.lit (.bool r))))) (at_ [1, 0, 1, 0] (bodyOf Try.f52)) ⟨[(0, .one (cL 5 T_api_Ban.c T_api_Ban.d a0)), (5, .one (cL 5 T_api_Ban.c T_api_Ban.d v5)), (6, .one (.lit (.int .i64 v6))), (7, .one (.lit (.int .i64 v7)))], []⟩ := by
  intro fu
  induction fu with
  | zero =>
    intro v5 v6 v7 r hf
    simp [g_bans_Right_c0] at hf
  | succ fu ih =>
    intro v5 v6 v7 r hf
    unfold g_bans_Right_c0 at hf
    rcases br_some hf with ⟨h1, hf⟩ | ⟨h1, hf⟩
    · obtain ⟨o2, hf⟩ := need_some hf
      obtain ⟨x1, q3, hf⟩ := bind_some' hf
      rcases br_some hf with ⟨h4, hf⟩ | ⟨h4, hf⟩
      · replace hf := Option.some.inj hf
        subst hf
        exact toEnd_good allOk 15 _ _ [⟨[], [], [], [], [], [], []⟩, ⟨[], [], [], [], [], [], []⟩, ⟨[(1, .r (.one (.lit (.bool x1))) [])], [(3, true)], [], [[], [0], [1, 0], [2, 1, 0], [3, 2, 1, 0], [4, 3, 2, 1, 0], [5, 4, 3, 2, 1, 0], [6, 5, 4, 3, 2, 1, 0], [6, 5, 4, 3, 2, 1, 0], [8, 6, 5, 4, 3, 2, 1, 0], [7, 6, 5, 4, 3, 2, 1, 0, 9, 8], [10, 7, 6, 5, 4, 3, 2, 1, 0, 9, 8], [11, 10, 7, 6, 5, 4, 3, 2, 1, 0, 9, 8], [6, 5, 4, 3, 2, 1, 0], [13, 6, 5, 4, 3, 2, 1, 0], [12, 11, 10, 7, 6, 5, 4, 3, 2, 1, 0, 9, 8, 14, 13], [15, 12, 11, 10, 7, 6, 5, 4, 3, 2, 1, 0, 9, 8, 14, 13], [6, 5, 4, 3, 2, 1, 0, 16, 15, 12, 11, 10, 7, 9, 8, 14, 13], [3, 2, 1, 0, 17, 6, 5, 4, 16, 15, 12, 11, 10, 7, 9, 8, 14, 13]], [], [], []⟩, ⟨[], [], [], [], [], [], []⟩] [true, true] [] [] [] [(decide (v7 < v6)) = true, 0 ≤ v7 ∧ v7 < ((v5.length : Nat) : Int), SCall Try.prog 97 [.agg (T_api_Ban.c (v5.getD v7.toNat T_api_Ban.d))] (.one (.lit (.bool x1))), (!x1) = true, true = true] (by kernel_rfl) rfl ⟨h1, o2, (g_ban_Right_ok (v5.getD v7.toNat T_api_Ban.d) x1 q3), h4, rfl, trivial⟩
      · rcases br_some hf with ⟨h5, hf⟩ | ⟨h5, hf⟩
        · obtain ⟨o6, hf⟩ := need_some hf
          obtain ⟨x2, q7, hf⟩ := bind_some' hf
          rcases br_some hf with ⟨h8, hf⟩ | ⟨h8, hf⟩
          · replace hf := Option.some.inj hf
            subst hf
            exact toEnd_good allOk 15 _ _ [⟨[], [], [], [], [], [], []⟩, ⟨[], [], [], [], [], [], []⟩, ⟨[(1, .r (.one (.lit (.bool x1))) []), (15, .r (.one (.lit (.int .i64 x2))) [])], [(3, false), (6, true)], [], [[], [0], [1, 0], [2, 1, 0], [3, 2, 1, 0], [4, 3, 2, 1, 0], [5, 4, 3, 2, 1, 0], [6, 5, 4, 3, 2, 1, 0], [6, 5, 4, 3, 2, 1, 0], [8, 6, 5, 4, 3, 2, 1, 0], [7, 6, 5, 4, 3, 2, 1, 0, 9, 8], [10, 7, 6, 5, 4, 3, 2, 1, 0, 9, 8], [11, 10, 7, 6, 5, 4, 3, 2, 1, 0, 9, 8], [6, 5, 4, 3, 2, 1, 0], [13, 6, 5, 4, 3, 2, 1, 0], [12, 11, 10, 7, 6, 5, 4, 3, 2, 1, 0, 9, 8, 14, 13], [15, 12, 11, 10, 7, 6, 5, 4, 3, 2, 1, 0, 9, 8, 14, 13], [6, 5, 4, 3, 2, 1, 0, 16, 15, 12, 11, 10, 7, 9, 8, 14, 13], [3, 2, 1, 0, 17, 6, 5, 4, 16, 15, 12, 11, 10, 7, 9, 8, 14, 13]], [], [], []⟩, ⟨[], [], [], [], [], [], []⟩] [true, true] [] [] [] [(decide (v7 < v6)) = true, 0 ≤ v7 ∧ v7 < ((v5.length : Nat) : Int), SCall Try.prog 97 [.agg (T_api_Ban.c (v5.getD v7.toNat T_api_Ban.d))] (.one (.lit (.bool x1))), (!x1) = false, (decide (v7 > (0 : Int))) = true, 0 ≤ (sub64 v7 (1 : Int)) ∧ (sub64 v7 (1 : Int)) < ((a0.length : Nat) : Int), SCall Try.prog 103 [.agg (T_api_Net.c ((a0.getD (sub64 v7 (1 : Int)).toNat T_api_Ban.d).fNet)), .agg (T_api_Net.c ((v5.getD v7.toNat T_api_Ban.d).fNet))] (.one (.lit (.int .i64 x2))), (decide (x2 ≥ (0 : Int))) = true] (by kernel_rfl) rfl ⟨h1, o2, (g_ban_Right_ok (v5.getD v7.toNat T_api_Ban.d) x1 q3), h4, h5, o6, (g_cidr_Compare_ok ((a0.getD (sub64 v7 (1 : Int)).toNat T_api_Ban.d).fNet) ((v5.getD v7.toNat T_api_Ban.d).fNet) x2 q7), h8, trivial⟩
          · exact toK_good allOk Post.ends 17 _ _ _ _ [⟨[], [], [], [], [], [], []⟩, ⟨[], [], [], [], [], [], []⟩, ⟨[(1, .r (.one (.lit (.bool x1))) []), (15, .r (.one (.lit (.int .i64 x2))) [])], [(3, false), (6, true)], [], [[], [0], [1, 0], [2, 1, 0], [3, 2, 1, 0], [4, 3, 2, 1, 0], [5, 4, 3, 2, 1, 0], [6, 5, 4, 3, 2, 1, 0], [6, 5, 4, 3, 2, 1, 0], [8, 6, 5, 4, 3, 2, 1, 0], [7, 6, 5, 4, 3, 2, 1, 0, 9, 8], [10, 7, 6, 5, 4, 3, 2, 1, 0, 9, 8], [11, 10, 7, 6, 5, 4, 3, 2, 1, 0, 9, 8], [6, 5, 4, 3, 2, 1, 0], [13, 6, 5, 4, 3, 2, 1, 0], [12, 11, 10, 7, 6, 5, 4, 3, 2, 1, 0, 9, 8, 14, 13], [15, 12, 11, 10, 7, 6, 5, 4, 3, 2, 1, 0, 9, 8, 14, 13], [6, 5, 4, 3, 2, 1, 0, 16, 15, 12, 11, 10, 7, 9, 8, 14, 13], [3, 2, 1, 0, 17, 6, 5, 4, 16, 15, 12, 11, 10, 7, 9, 8, 14, 13]], [], [], []⟩, ⟨[], [], [], [], [], [], []⟩] [true, false] ⟨[], [], [], [], [], [0, 5, 6, 7], [], []⟩ [(decide (v7 < v6)) = true, 0 ≤ v7 ∧ v7 < ((v5.length : Nat) : Int), SCall Try.prog 97 [.agg (T_api_Ban.c (v5.getD v7.toNat T_api_Ban.d))] (.one (.lit (.bool x1))), (!x1) = false, (decide (v7 > (0 : Int))) = true, 0 ≤ (sub64 v7 (1 : Int)) ∧ (sub64 v7 (1 : Int)) < ((a0.length : Nat) : Int), SCall Try.prog 103 [.agg (T_api_Net.c ((a0.getD (sub64 v7 (1 : Int)).toNat T_api_Ban.d).fNet)), .agg (T_api_Net.c ((v5.getD v7.toNat T_api_Ban.d).fNet))] (.one (.lit (.int .i64 x2))), (decide (x2 ≥ (0 : Int))) = false] (by kernel_rfl) ⟨h1, o2, (g_ban_Right_ok (v5.getD v7.toNat T_api_Ban.d) x1 q3), h4, h5, o6, (g_cidr_Compare_ok ((a0.getD (sub64 v7 (1 : Int)).toNat T_api_Ban.d).fNet) ((v5.getD v7.toNat T_api_Ban.d).fNet) x2 q7), h8, trivial⟩ (ih v5 v6 (add64 v7 (1 : Int)) r hf)
        · exact toK_good allOk Post.ends 17 _ _ _ _ [⟨[], [], [], [], [], [], []⟩, ⟨[], [], [], [], [], [], []⟩, ⟨[(1, .r (.one (.lit (.bool x1))) [])], [(3, false), (6, false)], [], [[], [0], [1, 0], [2, 1, 0], [3, 2, 1, 0], [4, 3, 2, 1, 0], [5, 4, 3, 2, 1, 0], [6, 5, 4, 3, 2, 1, 0], [6, 5, 4, 3, 2, 1, 0], [8, 6, 5, 4, 3, 2, 1, 0], [7, 6, 5, 4, 3, 2, 1, 0, 9, 8], [10, 7, 6, 5, 4, 3, 2, 1, 0, 9, 8], [11, 10, 7, 6, 5, 4, 3, 2, 1, 0, 9, 8], [6, 5, 4, 3, 2, 1, 0], [13, 6, 5, 4, 3, 2, 1, 0], [12, 11, 10, 7, 6, 5, 4, 3, 2, 1, 0, 9, 8, 14, 13], [15, 12, 11, 10, 7, 6, 5, 4, 3, 2, 1, 0, 9, 8, 14, 13], [6, 5, 4, 3, 2, 1, 0, 16, 15, 12, 11, 10, 7, 9, 8, 14, 13], [3, 2, 1, 0, 17, 6, 5, 4, 16, 15, 12, 11, 10, 7, 9, 8, 14, 13]], [], [], []⟩, ⟨[], [], [], [], [], [], []⟩] [true, false] ⟨[], [], [], [], [], [0, 5, 6, 7], [], []⟩ [(decide (v7 < v6)) = true, 0 ≤ v7 ∧ v7 < ((v5.length : Nat) : Int), SCall Try.prog 97 [.agg (T_api_Ban.c (v5.getD v7.toNat T_api_Ban.d))] (.one (.lit (.bool x1))), (!x1) = false, (decide (v7 > (0 : Int))) = false, false = false] (by kernel_rfl) ⟨h1, o2, (g_ban_Right_ok (v5.getD v7.toNat T_api_Ban.d) x1 q3), h4, h5, rfl, trivial⟩ (ih v5 v6 (add64 v7 (1 : Int)) r hf)
    · replace hf := Option.some.inj hf
      subst hf
      exact toEnd_good allOk 8 _ _ [⟨[], [], [], [], [], [], []⟩, ⟨[], [], [], [], [], [], []⟩] [false] [] [] [] [(decide (v7 < v6)) = false] (by kernel_rfl) rfl ⟨h1, trivial⟩

/-- doorman/bans.Right -/
def g_bans_Right (a0 : (List T_api_Ban)) : Option Bool :=
  g_bans_Right_c0 a0  ((((a0.length : Nat) : Int) - (0 : Int)).toNat + 2) a0 ((a0.length : Nat) : Int) (0 : Int)

theorem g_bans_Right_ok (a0 : (List T_api_Ban)) (r : Bool) (hf : g_bans_Right a0 = some r) : SCall Try.prog 52 [.one (cL 5 T_api_Ban.c T_api_Ban.d a0)] (.one (.lit (.bool r))) := by
  refine SCall.of Try.func52 rfl rfl rfl rfl fun S0 w0 => ?_
  unfold g_bans_Right at hf
  exact toK_good allOk Post.ends 6 _ _ _ _ [⟨[], [], [], [], [], [], []⟩, ⟨[], [], [], [], [], [], []⟩] [] ⟨[], [], [], [], [], [0, 5, 6, 7], [], []⟩ [] (by kernel_rfl) trivial (g_bans_Right_c0_ok S0 w0 a0   ((((a0.length : Nat) : Int) - (0 : Int)).toNat + 2) a0 ((a0.length : Nat) : Int) (0 : Int) r hf)

/-- doorman/doormanlaw13.awake -/
def g_doormanlaw13_awake  : Option Bool :=
  (g_bans_Add ([(T_api_Ban.mk (T_api_Net.mk (T_api_Addr.mk false (0 : Int) (167772160 : Int)) (8 : Int)) (50 : Int))] : List T_api_Ban) (T_api_Ban.mk (T_api_Net.mk (T_api_Addr.mk false (0 : Int) (167837696 : Int)) (16 : Int)) (20 : Int)) (9 : Int)).bind fun x1 =>
  bif (x1.2 == (0 : Int)) then
    bif (((x1.1.length : Nat) : Int) == (2 : Int)) then
      (g_bans_Until x1.1 (T_api_Addr.mk false (0 : Int) (167838211 : Int)) (5 : Int)).bind fun x2 =>
      bif (x2 == (50 : Int)) then
        (g_bans_Right x1.1).bind fun x3 =>
        some x3
      else
        some false
    else
      some false
  else
    some false

theorem g_doormanlaw13_awake_ok  (r : Bool) (hf : g_doormanlaw13_awake  = some r) : SCall Try.prog 43 [] (.one (.lit (.bool r))) := by
  refine SCall.of Try.func43 rfl rfl rfl rfl fun S0 w0 => ?_
  unfold g_doormanlaw13_awake at hf
  obtain ⟨x1, q1, hf⟩ := bind_some' hf
  rcases br_some hf with ⟨h2, hf⟩ | ⟨h2, hf⟩
  · rcases br_some hf with ⟨h3, hf⟩ | ⟨h3, hf⟩
    · obtain ⟨x2, q4, hf⟩ := bind_some' hf
      rcases br_some hf with ⟨h5, hf⟩ | ⟨h5, hf⟩
      · obtain ⟨x3, q6, hf⟩ := bind_some' hf
        replace hf := Option.some.inj hf
        subst hf
        exact toEnd_good allOk 8 _ _ [⟨[], [], [], [], [], [], []⟩, ⟨[], [], [], [], [], [(3, (([(T_api_Ban.mk (T_api_Net.mk (T_api_Addr.mk false (0 : Int) (167772160 : Int)) (8 : Int)) (50 : Int))] : List T_api_Ban).length, rowsOf T_api_Ban.c T_api_Ban.d ([(T_api_Ban.mk (T_api_Net.mk (T_api_Addr.mk false (0 : Int) (167772160 : Int)) (8 : Int)) (50 : Int))] : List T_api_Ban)))], []⟩, ⟨[(4, .r (.tup [(false, (cLs 5 T_api_Ban.c T_api_Ban.d) x1.1), (false, (cI .i64) x1.2)]) [])], [], [], [], [], [], []⟩, ⟨[(10, .r (.one (.lit (.int .i64 x2))) []), (15, .r (.one (.lit (.bool x3))) [])], [(2, true), (7, true), (13, true)], [], [], [], [], []⟩] [] [] [] [] [([(T_api_Ban.mk (T_api_Net.mk (T_api_Addr.mk false (0 : Int) (167772160 : Int)) (8 : Int)) (50 : Int))] : List T_api_Ban).length = 1 ∧ ∀ i j, i < 1 → j < 5 → rowsOf T_api_Ban.c T_api_Ban.d ([(T_api_Ban.mk (T_api_Net.mk (T_api_Addr.mk false (0 : Int) (167772160 : Int)) (8 : Int)) (50 : Int))] : List T_api_Ban) i j = (([(T_api_Ban.mk (T_api_Net.mk (T_api_Addr.mk false (0 : Int) (167772160 : Int)) (8 : Int)) (50 : Int))] : List T_api_Ban).flatMap T_api_Ban.c).getD (i * 5 + j) .junk, SCall Try.prog 47 [.one (cL 5 T_api_Ban.c T_api_Ban.d ([(T_api_Ban.mk (T_api_Net.mk (T_api_Addr.mk false (0 : Int) (167772160 : Int)) (8 : Int)) (50 : Int))] : List T_api_Ban)), .agg (T_api_Ban.c (T_api_Ban.mk (T_api_Net.mk (T_api_Addr.mk false (0 : Int) (167837696 : Int)) (16 : Int)) (20 : Int))), .one (.lit (.int .i64 (9 : Int)))] (.tup [(false, (cLs 5 T_api_Ban.c T_api_Ban.d) x1.1), (false, (cI .i64) x1.2)]), (x1.2 == (0 : Int)) = true, (((x1.1.length : Nat) : Int) == (2 : Int)) = true, SCall Try.prog 44 [.one (cL 5 T_api_Ban.c T_api_Ban.d x1.1), .agg (T_api_Addr.c (T_api_Addr.mk false (0 : Int) (167838211 : Int))), .one (.lit (.int .i64 (5 : Int)))] (.one (.lit (.int .i64 x2))), (x2 == (50 : Int)) = true, SCall Try.prog 52 [.one (cL 5 T_api_Ban.c T_api_Ban.d x1.1)] (.one (.lit (.bool x3)))] (by kernel_rfl) rfl ⟨⟨rfl, fun i j hi hj => rows_flat (sz := 5) (e := T_api_Ban.c) (d := T_api_Ban.d) (fun _ => rfl) ([(T_api_Ban.mk (T_api_Net.mk (T_api_Addr.mk false (0 : Int) (167772160 : Int)) (8 : Int)) (50 : Int))] : List T_api_Ban) i j hi hj⟩, (g_bans_Add_ok ([(T_api_Ban.mk (T_api_Net.mk (T_api_Addr.mk false (0 : Int) (167772160 : Int)) (8 : Int)) (50 : Int))] : List T_api_Ban) (T_api_Ban.mk (T_api_Net.mk (T_api_Addr.mk false (0 : Int) (167837696 : Int)) (16 : Int)) (20 : Int)) (9 : Int) x1 q1), h2, h3, (g_bans_Until_ok x1.1 (T_api_Addr.mk false (0 : Int) (167838211 : Int)) (5 : Int) x2 q4), h5, (g_bans_Right_ok x1.1 x3 q6), trivial⟩
      · replace hf := Option.some.inj hf
        subst hf
        exact toEnd_good allOk 8 _ _ [⟨[], [], [], [], [], [], []⟩, ⟨[], [], [], [], [], [(3, (([(T_api_Ban.mk (T_api_Net.mk (T_api_Addr.mk false (0 : Int) (167772160 : Int)) (8 : Int)) (50 : Int))] : List T_api_Ban).length, rowsOf T_api_Ban.c T_api_Ban.d ([(T_api_Ban.mk (T_api_Net.mk (T_api_Addr.mk false (0 : Int) (167772160 : Int)) (8 : Int)) (50 : Int))] : List T_api_Ban)))], []⟩, ⟨[(4, .r (.tup [(false, (cLs 5 T_api_Ban.c T_api_Ban.d) x1.1), (false, (cI .i64) x1.2)]) [])], [], [], [], [], [], []⟩, ⟨[(10, .r (.one (.lit (.int .i64 x2))) [])], [(2, true), (7, true), (13, false)], [], [], [], [], []⟩] [] [] [] [] [([(T_api_Ban.mk (T_api_Net.mk (T_api_Addr.mk false (0 : Int) (167772160 : Int)) (8 : Int)) (50 : Int))] : List T_api_Ban).length = 1 ∧ ∀ i j, i < 1 → j < 5 → rowsOf T_api_Ban.c T_api_Ban.d ([(T_api_Ban.mk (T_api_Net.mk (T_api_Addr.mk false (0 : Int) (167772160 : Int)) (8 : Int)) (50 : Int))] : List T_api_Ban) i j = (([(T_api_Ban.mk (T_api_Net.mk (T_api_Addr.mk false (0 : Int) (167772160 : Int)) (8 : Int)) (50 : Int))] : List T_api_Ban).flatMap T_api_Ban.c).getD (i * 5 + j) .junk, SCall Try.prog 47 [.one (cL 5 T_api_Ban.c T_api_Ban.d ([(T_api_Ban.mk (T_api_Net.mk (T_api_Addr.mk false (0 : Int) (167772160 : Int)) (8 : Int)) (50 : Int))] : List T_api_Ban)), .agg (T_api_Ban.c (T_api_Ban.mk (T_api_Net.mk (T_api_Addr.mk false (0 : Int) (167837696 : Int)) (16 : Int)) (20 : Int))), .one (.lit (.int .i64 (9 : Int)))] (.tup [(false, (cLs 5 T_api_Ban.c T_api_Ban.d) x1.1), (false, (cI .i64) x1.2)]), (x1.2 == (0 : Int)) = true, (((x1.1.length : Nat) : Int) == (2 : Int)) = true, SCall Try.prog 44 [.one (cL 5 T_api_Ban.c T_api_Ban.d x1.1), .agg (T_api_Addr.c (T_api_Addr.mk false (0 : Int) (167838211 : Int))), .one (.lit (.int .i64 (5 : Int)))] (.one (.lit (.int .i64 x2))), (x2 == (50 : Int)) = false] (by kernel_rfl) rfl ⟨⟨rfl, fun i j hi hj => rows_flat (sz := 5) (e := T_api_Ban.c) (d := T_api_Ban.d) (fun _ => rfl) ([(T_api_Ban.mk (T_api_Net.mk (T_api_Addr.mk false (0 : Int) (167772160 : Int)) (8 : Int)) (50 : Int))] : List T_api_Ban) i j hi hj⟩, (g_bans_Add_ok ([(T_api_Ban.mk (T_api_Net.mk (T_api_Addr.mk false (0 : Int) (167772160 : Int)) (8 : Int)) (50 : Int))] : List T_api_Ban) (T_api_Ban.mk (T_api_Net.mk (T_api_Addr.mk false (0 : Int) (167837696 : Int)) (16 : Int)) (20 : Int)) (9 : Int) x1 q1), h2, h3, (g_bans_Until_ok x1.1 (T_api_Addr.mk false (0 : Int) (167838211 : Int)) (5 : Int) x2 q4), h5, trivial⟩
    · replace hf := Option.some.inj hf
      subst hf
      exact toEnd_good allOk 8 _ _ [⟨[], [], [], [], [], [], []⟩, ⟨[], [], [], [], [], [(3, (([(T_api_Ban.mk (T_api_Net.mk (T_api_Addr.mk false (0 : Int) (167772160 : Int)) (8 : Int)) (50 : Int))] : List T_api_Ban).length, rowsOf T_api_Ban.c T_api_Ban.d ([(T_api_Ban.mk (T_api_Net.mk (T_api_Addr.mk false (0 : Int) (167772160 : Int)) (8 : Int)) (50 : Int))] : List T_api_Ban)))], []⟩, ⟨[(4, .r (.tup [(false, (cLs 5 T_api_Ban.c T_api_Ban.d) x1.1), (false, (cI .i64) x1.2)]) [])], [], [], [], [], [], []⟩, ⟨[], [(2, true), (7, false)], [], [], [], [], []⟩] [] [] [] [] [([(T_api_Ban.mk (T_api_Net.mk (T_api_Addr.mk false (0 : Int) (167772160 : Int)) (8 : Int)) (50 : Int))] : List T_api_Ban).length = 1 ∧ ∀ i j, i < 1 → j < 5 → rowsOf T_api_Ban.c T_api_Ban.d ([(T_api_Ban.mk (T_api_Net.mk (T_api_Addr.mk false (0 : Int) (167772160 : Int)) (8 : Int)) (50 : Int))] : List T_api_Ban) i j = (([(T_api_Ban.mk (T_api_Net.mk (T_api_Addr.mk false (0 : Int) (167772160 : Int)) (8 : Int)) (50 : Int))] : List T_api_Ban).flatMap T_api_Ban.c).getD (i * 5 + j) .junk, SCall Try.prog 47 [.one (cL 5 T_api_Ban.c T_api_Ban.d ([(T_api_Ban.mk (T_api_Net.mk (T_api_Addr.mk false (0 : Int) (167772160 : Int)) (8 : Int)) (50 : Int))] : List T_api_Ban)), .agg (T_api_Ban.c (T_api_Ban.mk (T_api_Net.mk (T_api_Addr.mk false (0 : Int) (167837696 : Int)) (16 : Int)) (20 : Int))), .one (.lit (.int .i64 (9 : Int)))] (.tup [(false, (cLs 5 T_api_Ban.c T_api_Ban.d) x1.1), (false, (cI .i64) x1.2)]), (x1.2 == (0 : Int)) = true, (((x1.1.length : Nat) : Int) == (2 : Int)) = false] (by kernel_rfl) rfl ⟨⟨rfl, fun i j hi hj => rows_flat (sz := 5) (e := T_api_Ban.c) (d := T_api_Ban.d) (fun _ => rfl) ([(T_api_Ban.mk (T_api_Net.mk (T_api_Addr.mk false (0 : Int) (167772160 : Int)) (8 : Int)) (50 : Int))] : List T_api_Ban) i j hi hj⟩, (g_bans_Add_ok ([(T_api_Ban.mk (T_api_Net.mk (T_api_Addr.mk false (0 : Int) (167772160 : Int)) (8 : Int)) (50 : Int))] : List T_api_Ban) (T_api_Ban.mk (T_api_Net.mk (T_api_Addr.mk false (0 : Int) (167837696 : Int)) (16 : Int)) (20 : Int)) (9 : Int) x1 q1), h2, h3, trivial⟩
  · replace hf := Option.some.inj hf
    subst hf
    exact toEnd_good allOk 8 _ _ [⟨[], [], [], [], [], [], []⟩, ⟨[], [], [], [], [], [(3, (([(T_api_Ban.mk (T_api_Net.mk (T_api_Addr.mk false (0 : Int) (167772160 : Int)) (8 : Int)) (50 : Int))] : List T_api_Ban).length, rowsOf T_api_Ban.c T_api_Ban.d ([(T_api_Ban.mk (T_api_Net.mk (T_api_Addr.mk false (0 : Int) (167772160 : Int)) (8 : Int)) (50 : Int))] : List T_api_Ban)))], []⟩, ⟨[(4, .r (.tup [(false, (cLs 5 T_api_Ban.c T_api_Ban.d) x1.1), (false, (cI .i64) x1.2)]) [])], [], [], [], [], [], []⟩, ⟨[], [(2, false)], [], [], [], [], []⟩] [] [] [] [] [([(T_api_Ban.mk (T_api_Net.mk (T_api_Addr.mk false (0 : Int) (167772160 : Int)) (8 : Int)) (50 : Int))] : List T_api_Ban).length = 1 ∧ ∀ i j, i < 1 → j < 5 → rowsOf T_api_Ban.c T_api_Ban.d ([(T_api_Ban.mk (T_api_Net.mk (T_api_Addr.mk false (0 : Int) (167772160 : Int)) (8 : Int)) (50 : Int))] : List T_api_Ban) i j = (([(T_api_Ban.mk (T_api_Net.mk (T_api_Addr.mk false (0 : Int) (167772160 : Int)) (8 : Int)) (50 : Int))] : List T_api_Ban).flatMap T_api_Ban.c).getD (i * 5 + j) .junk, SCall Try.prog 47 [.one (cL 5 T_api_Ban.c T_api_Ban.d ([(T_api_Ban.mk (T_api_Net.mk (T_api_Addr.mk false (0 : Int) (167772160 : Int)) (8 : Int)) (50 : Int))] : List T_api_Ban)), .agg (T_api_Ban.c (T_api_Ban.mk (T_api_Net.mk (T_api_Addr.mk false (0 : Int) (167837696 : Int)) (16 : Int)) (20 : Int))), .one (.lit (.int .i64 (9 : Int)))] (.tup [(false, (cLs 5 T_api_Ban.c T_api_Ban.d) x1.1), (false, (cI .i64) x1.2)]), (x1.2 == (0 : Int)) = false] (by kernel_rfl) rfl ⟨⟨rfl, fun i j hi hj => rows_flat (sz := 5) (e := T_api_Ban.c) (d := T_api_Ban.d) (fun _ => rfl) ([(T_api_Ban.mk (T_api_Net.mk (T_api_Addr.mk false (0 : Int) (167772160 : Int)) (8 : Int)) (50 : Int))] : List T_api_Ban) i j hi hj⟩, (g_bans_Add_ok ([(T_api_Ban.mk (T_api_Net.mk (T_api_Addr.mk false (0 : Int) (167772160 : Int)) (8 : Int)) (50 : Int))] : List T_api_Ban) (T_api_Ban.mk (T_api_Net.mk (T_api_Addr.mk false (0 : Int) (167837696 : Int)) (16 : Int)) (20 : Int)) (9 : Int) x1 q1), h2, trivial⟩

/-- doorman/doormanref06.Right -/
def g_doormanref06_Right (a0 : T_api_Addr) : Option Bool :=
  bif (!a0.fV6) then
    bif (a0.fHi == (0 : Int)) then
      some (decide (a0.fLo < (4294967296 : Int)))
    else
      some false
  else
    bif (a0.fHi != (0 : Int)) then
      some true
    else
      some ((IntKind.wrap .u64 (Int.tdiv a0.fLo (4294967296 : Int))) != (65535 : Int))

theorem g_doormanref06_Right_ok (a0 : T_api_Addr) (r : Bool) (hf : g_doormanref06_Right a0 = some r) : SCall Try.prog 114 [.agg (T_api_Addr.c a0)] (.one (.lit (.bool r))) := by
  refine SCall.of Try.func114 rfl rfl rfl rfl fun S0 w0 => ?_
  unfold g_doormanref06_Right at hf
  rcases br_some hf with ⟨h1, hf⟩ | ⟨h1, hf⟩
  · rcases br_some hf with ⟨h2, hf⟩ | ⟨h2, hf⟩
    · replace hf := Option.some.inj hf
      subst hf
      exact toEnd_good allOk 8 _ _ [⟨[], [], [], [], [], [], []⟩, ⟨[], [], [], [], [], [], []⟩, ⟨[], [(3, true)], [], [], [], [], []⟩] [true] [] [] [] [(!a0.fV6) = true, (a0.fHi == (0 : Int)) = true] (by kernel_rfl) rfl ⟨h1, h2, trivial⟩
    · replace hf := Option.some.inj hf
      subst hf
      exact toEnd_good allOk 8 _ _ [⟨[], [], [], [], [], [], []⟩, ⟨[], [], [], [], [], [], []⟩, ⟨[], [(3, false)], [], [], [], [], []⟩] [true] [] [] [] [(!a0.fV6) = true, (a0.fHi == (0 : Int)) = false] (by kernel_rfl) rfl ⟨h1, h2, trivial⟩
  · rcases br_some hf with ⟨h3, hf⟩ | ⟨h3, hf⟩
    · replace hf := Option.some.inj hf
      subst hf
      exact toEnd_good allOk 9 _ _ [⟨[], [], [], [], [], [], []⟩, ⟨[], [], [], [], [], [], []⟩, ⟨[], [(3, true)], [], [], [], [], []⟩] [false] [] [] [] [(!a0.fV6) = false, (a0.fHi != (0 : Int)) = true] (by kernel_rfl) rfl ⟨h1, h3, trivial⟩
    · replace hf := Option.some.inj hf
      subst hf
      exact toEnd_good allOk 9 _ _ [⟨[], [], [], [], [], [], []⟩, ⟨[], [], [], [], [], [], []⟩, ⟨[], [(3, false)], [], [], [], [], []⟩] [false] [] [] [] [(!a0.fV6) = false, (a0.fHi != (0 : Int)) = false, (4294967296 : Int) ≠ 0] (by kernel_rfl) rfl ⟨h1, h3, (by decide), trivial⟩

/-- doorman/doormanref06.Bits -/
def g_doormanref06_Bits (a0 : T_api_Addr) : Option Int :=
  bif a0.fV6 then
    some (128 : Int)
  else
    some (32 : Int)

theorem g_doormanref06_Bits_ok (a0 : T_api_Addr) (r : Int) (hf : g_doormanref06_Bits a0 = some r) : SCall Try.prog 80 [.agg (T_api_Addr.c a0)] (.one (.lit (.int .i64 r))) := by
  refine SCall.of Try.func80 rfl rfl rfl rfl fun S0 w0 => ?_
  unfold g_doormanref06_Bits at hf
  rcases br_some hf with ⟨h1, hf⟩ | ⟨h1, hf⟩
  · replace hf := Option.some.inj hf
    subst hf
    exact toEnd_good allOk 8 _ _ [⟨[], [], [], [], [], [], []⟩, ⟨[], [], [], [], [], [], []⟩, ⟨[], [], [], [], [], [], []⟩] [true] [] [] [] [a0.fV6 = true] (by kernel_rfl) rfl ⟨h1, trivial⟩
  · replace hf := Option.some.inj hf
    subst hf
    exact toEnd_good allOk 9 _ _ [⟨[], [], [], [], [], [], []⟩, ⟨[], [], [], [], [], [], []⟩, ⟨[], [], [], [], [], [], []⟩] [false] [] [] [] [a0.fV6 = false] (by kernel_rfl) rfl ⟨h1, trivial⟩

def g_doormanref06_Bit_c0 (a1 : Int)  (v5 : Int) (b2 : T_api_Addr) : Option Int :=
  bif (!b2.fV6) then
    need (0 ≤ (IntKind.wrap .u64 (sub64 (31 : Int) a1))) <|
    some (IntKind.wrap .i64 (IntKind.wrap .u64 (((BitVec.ofInt (IntKind.bits .u64) (Int.fdiv v5 (2 ^ (min (IntKind.wrap .u64 (sub64 (31 : Int) a1)).toNat (IntKind.bits .u64))))) &&& (BitVec.ofInt (IntKind.bits .u64) (1 : Int))).toNat : Int)))
  else
    need (0 ≤ (IntKind.wrap .u64 (sub64 (63 : Int) (Int.tmod a1 (64 : Int))))) <|
    some (IntKind.wrap .i64 (IntKind.wrap .u64 (((BitVec.ofInt (IntKind.bits .u64) (Int.fdiv v5 (2 ^ (min (IntKind.wrap .u64 (sub64 (63 : Int) (Int.tmod a1 (64 : Int)))).toNat (IntKind.bits .u64))))) &&& (BitVec.ofInt (IntKind.bits .u64) (1 : Int))).toNat : Int)))

theorem g_doormanref06_Bit_c0_ok (S0 : Nat → Prop) (w0 : Start) (a1 : Int)  (v5 : Int) (b2 : T_api_Addr) (r : Int) (hf : g_doormanref06_Bit_c0 a1  v5 b2 = some r) : Good Try.prog 39 S0 w0 (bodyPost Try.prog Try.f115 (Post S0 w0 (.one (.lit (.int .i64 r))))) (at_ [1, 1, 1, 1] (bodyOf Try.f115)) ⟨[(1, .one (.lit (.int .i64 a1))), (2, .one (.ptr 2 0)), (5, .one (.lit (.int .u64 v5)))], [(2, .box [.lit (.bool b2.fV6), .lit (.int .u64 b2.fHi), .lit (.int .u64 b2.fLo)])]⟩ := by
  unfold g_doormanref06_Bit_c0 at hf
  rcases br_some hf with ⟨h6, hf⟩ | ⟨h6, hf⟩
  · obtain ⟨o7, hf⟩ := need_some hf
    replace hf := Option.some.inj hf
    subst hf
    exact toEnd_good allOk 9 _ _ [⟨[], [], [], [], [], [], []⟩, ⟨[], [], [], [], [], [], []⟩, ⟨[], [], [], [], [], [], []⟩, ⟨[], [], [], [], [], [], []⟩] [true] [] [] [] [(64 : Int) ≠ 0, (!b2.fV6) = true, 0 ≤ (IntKind.wrap .u64 (sub64 (31 : Int) a1))] (by kernel_rfl) rfl ⟨(by decide), h6, o7, trivial⟩
  · obtain ⟨o8, hf⟩ := need_some hf
    replace hf := Option.some.inj hf
    subst hf
    exact toEnd_good allOk 9 _ _ [⟨[], [], [], [], [], [], []⟩, ⟨[], [], [], [], [], [], []⟩, ⟨[], [], [], [], [], [], []⟩] [false] [] [] [] [(64 : Int) ≠ 0, (!b2.fV6) = false, 0 ≤ (IntKind.wrap .u64 (sub64 (63 : Int) (Int.tmod a1 (64 : Int))))] (by kernel_rfl) rfl ⟨(by decide), h6, o8, trivial⟩

/-- doorman/doormanref06.Bit -/
def g_doormanref06_Bit (a0 : T_api_Addr) (a1 : Int) : Option Int :=
  bif (decide (a1 < (0 : Int))) then
    some (0 : Int)
  else
    (g_doormanref06_Bits a0).bind fun x1 =>
    bif (decide (a1 ≥ x1)) then
      some (0 : Int)
    else
      bif a0.fV6 then
        bif (decide (a1 < (64 : Int))) then
          g_doormanref06_Bit_c0 a1  a0.fHi a0
        else
          g_doormanref06_Bit_c0 a1  a0.fLo a0
      else
        g_doormanref06_Bit_c0 a1  a0.fLo a0

theorem g_doormanref06_Bit_ok (a0 : T_api_Addr) (a1 : Int) (r : Int) (hf : g_doormanref06_Bit a0 a1 = some r) : SCall Try.prog 115 [.agg (T_api_Addr.c a0), .one (.lit (.int .i64 a1))] (.one (.lit (.int .i64 r))) := by
  refine SCall.of Try.func115 rfl rfl rfl rfl fun S0 w0 => ?_
  unfold g_doormanref06_Bit at hf
  rcases br_some hf with ⟨h1, hf⟩ | ⟨h1, hf⟩
  · replace hf := Option.some.inj hf
    subst hf
    exact toEnd_good allOk 8 _ _ [⟨[], [], [], [], [], [], []⟩, ⟨[], [(2, true)], [], [], [], [], []⟩, ⟨[], [], [], [], [], [], []⟩] [true] [] [] [] [(decide (a1 < (0 : Int))) = true, true = true] (by kernel_rfl) rfl ⟨h1, rfl, trivial⟩
  · obtain ⟨x1, q2, hf⟩ := bind_some' hf
    rcases br_some hf with ⟨h3, hf⟩ | ⟨h3, hf⟩
    · replace hf := Option.some.inj hf
      subst hf
      exact toEnd_good allOk 8 _ _ [⟨[], [], [], [], [], [], []⟩, ⟨[(5, .r (.one (.lit (.int .i64 x1))) [])], [(2, false)], [], [], [], [], []⟩, ⟨[], [], [], [], [], [], []⟩] [true] [] [] [] [(decide (a1 < (0 : Int))) = false, SCall Try.prog 80 [.agg (T_api_Addr.c a0)] (.one (.lit (.int .i64 x1))), (decide (a1 ≥ x1)) = true] (by kernel_rfl) rfl ⟨h1, (g_doormanref06_Bits_ok a0 x1 q2), h3, trivial⟩
    · rcases br_some hf with ⟨h4, hf⟩ | ⟨h4, hf⟩
      · rcases br_some hf with ⟨h5, hf⟩ | ⟨h5, hf⟩
        · exact toK_good allOk Post.ends 14 _ _ _ _ [⟨[], [], [], [], [], [], []⟩, ⟨[(5, .r (.one (.lit (.int .i64 x1))) [])], [(2, false)], [], [], [], [], []⟩, ⟨[], [], [], [], [], [], []⟩, ⟨[], [(2, true)], [], [], [], [], []⟩, ⟨[], [], [], [], [], [], []⟩] [false, true] ⟨[], [], [], [], [], [1, 2, 5], [2], []⟩ [(decide (a1 < (0 : Int))) = false, SCall Try.prog 80 [.agg (T_api_Addr.c a0)] (.one (.lit (.int .i64 x1))), (decide (a1 ≥ x1)) = false, a0.fV6 = true, (decide (a1 < (64 : Int))) = true] (by kernel_rfl) ⟨h1, (g_doormanref06_Bits_ok a0 x1 q2), h3, h4, h5, trivial⟩ (g_doormanref06_Bit_c0_ok S0 w0 a1   a0.fHi a0 r hf)
        · exact toK_good allOk Post.ends 14 _ _ _ _ [⟨[], [], [], [], [], [], []⟩, ⟨[(5, .r (.one (.lit (.int .i64 x1))) [])], [(2, false)], [], [], [], [], []⟩, ⟨[], [], [], [], [], [], []⟩, ⟨[], [(2, true)], [], [], [], [], []⟩] [false, false] ⟨[], [], [], [], [], [1, 2, 5], [2], []⟩ [(decide (a1 < (0 : Int))) = false, SCall Try.prog 80 [.agg (T_api_Addr.c a0)] (.one (.lit (.int .i64 x1))), (decide (a1 ≥ x1)) = false, a0.fV6 = true, (decide (a1 < (64 : Int))) = false] (by kernel_rfl) ⟨h1, (g_doormanref06_Bits_ok a0 x1 q2), h3, h4, h5, trivial⟩ (g_doormanref06_Bit_c0_ok S0 w0 a1   a0.fLo a0 r hf)
      · exact toK_good allOk Post.ends 14 _ _ _ _ [⟨[], [], [], [], [], [], []⟩, ⟨[(5, .r (.one (.lit (.int .i64 x1))) [])], [(2, false)], [], [], [], [], []⟩, ⟨[], [], [], [], [], [], []⟩, ⟨[], [(2, false)], [], [], [], [], []⟩] [false, false] ⟨[], [], [], [], [], [1, 2, 5], [2], []⟩ [(decide (a1 < (0 : Int))) = false, SCall Try.prog 80 [.agg (T_api_Addr.c a0)] (.one (.lit (.int .i64 x1))), (decide (a1 ≥ x1)) = false, a0.fV6 = false, false = false] (by kernel_rfl) ⟨h1, (g_doormanref06_Bits_ok a0 x1 q2), h3, h4, rfl, trivial⟩ (g_doormanref06_Bit_c0_ok S0 w0 a1   a0.fLo a0 r hf)

def g_doormanref07_Right_c0   : Nat → Int → T_api_Net → Option Bool
  | 0, _, _ => none
  | fu + 1, v3, b1 =>
    (g_doormanref06_Bits b1.fAddr).bind fun x3 =>
    bif (decide (v3 < x3)) then
      (g_doormanref06_Bit b1.fAddr v3).bind fun x4 =>
      bif (x4 == (1 : Int)) then
        some false
      else
        g_doormanref07_Right_c0   fu (add64 v3 (1 : Int)) b1
    else
      some true

theorem g_doormanref07_Right_c0_ok (S0 : Nat → Prop) (w0 : Start)   : ∀ (fu : Nat) (v3 : Int) (b1 : T_api_Net) (r : Bool), g_doormanref07_Right_c0   fu v3 b1 = some r → Good Try.prog 35 S0 w0 (bodyPost Try.prog Try.f70 (Post S0 w0 (.one (.lit (.bool r))))) (at_ [1, 1, 0, 1, 0] (bodyOf Try.f70)) ⟨[(1, .one (.ptr 1 0)), (3, .one (.lit (.int .i64 v3)))], [(1, .box [.lit (.bool b1.fAddr.fV6), .lit (.int .u64 b1.fAddr.fHi), .lit (.int .u64 b1.fAddr.fLo), .lit (.int .i64 b1.fBits)])]⟩ := by
  intro fu
  induction fu with
  | zero =>
    intro v3 b1 r hf
    simp [g_doormanref07_Right_c0] at hf
  | succ fu ih =>
    intro v3 b1 r hf
    unfold g_doormanref07_Right_c0 at hf
    obtain ⟨x3, q6, hf⟩ := bind_some' hf
    rcases br_some hf with ⟨h7, hf⟩ | ⟨h7, hf⟩
    · obtain ⟨x4, q8, hf⟩ := bind_some' hf
      rcases br_some hf with ⟨h9, hf⟩ | ⟨h9, hf⟩
      · replace hf := Option.some.inj hf
        subst hf
        exact toEnd_good allOk 13 _ _ [⟨[(3, .r (.one (.lit (.int .i64 x3))) [])], [], [], [], [], [], []⟩, ⟨[(3, .r (.one (.lit (.int .i64 x4))) [])], [], [], [], [], [], []⟩, ⟨[], [], [], [], [], [], []⟩] [true, true] [] [] [] [SCall Try.prog 80 [.agg (T_api_Addr.c b1.fAddr)] (.one (.lit (.int .i64 x3))), (decide (v3 < x3)) = true, SCall Try.prog 115 [.agg (T_api_Addr.c b1.fAddr), .one (.lit (.int .i64 v3))] (.one (.lit (.int .i64 x4))), (x4 == (1 : Int)) = true] (by kernel_rfl) rfl ⟨(g_doormanref06_Bits_ok b1.fAddr x3 q6), h7, (g_doormanref06_Bit_ok b1.fAddr v3 x4 q8), h9, trivial⟩
      · exact toK_good allOk Post.ends 15 _ _ _ _ [⟨[(3, .r (.one (.lit (.int .i64 x3))) [])], [], [], [], [], [], []⟩, ⟨[(3, .r (.one (.lit (.int .i64 x4))) [])], [], [], [], [], [], []⟩, ⟨[], [], [], [], [], [], []⟩] [true, false] ⟨[], [], [], [], [], [1, 3], [1], []⟩ [SCall Try.prog 80 [.agg (T_api_Addr.c b1.fAddr)] (.one (.lit (.int .i64 x3))), (decide (v3 < x3)) = true, SCall Try.prog 115 [.agg (T_api_Addr.c b1.fAddr), .one (.lit (.int .i64 v3))] (.one (.lit (.int .i64 x4))), (x4 == (1 : Int)) = false] (by kernel_rfl) ⟨(g_doormanref06_Bits_ok b1.fAddr x3 q6), h7, (g_doormanref06_Bit_ok b1.fAddr v3 x4 q8), h9, trivial⟩ (ih (add64 v3 (1 : Int)) b1 r hf)
    · replace hf := Option.some.inj hf
      subst hf
      exact toEnd_good allOk 8 _ _ [⟨[(3, .r (.one (.lit (.int .i64 x3))) [])], [], [], [], [], [], []⟩, ⟨[], [], [], [], [], [], []⟩] [false] [] [] [] [SCall Try.prog 80 [.agg (T_api_Addr.c b1.fAddr)] (.one (.lit (.int .i64 x3))), (decide (v3 < x3)) = false] (by kernel_rfl) rfl ⟨(g_doormanref06_Bits_ok b1.fAddr x3 q6), h7, trivial⟩

/-- doorman/doormanref07.Right -/
def g_doormanref07_Right (a0 : T_api_Net) : Option Bool :=
  (g_doormanref06_Right a0.fAddr).bind fun x1 =>
  bif (!x1) then
    some false
  else
    bif (decide (a0.fBits < (0 : Int))) then
      some false
    else
      (g_doormanref06_Bits a0.fAddr).bind fun x2 =>
      bif (decide (a0.fBits > x2)) then
        some false
      else
        g_doormanref07_Right_c0   1000000 a0.fBits a0

theorem g_doormanref07_Right_ok (a0 : T_api_Net) (r : Bool) (hf : g_doormanref07_Right a0 = some r) : SCall Try.prog 70 [.agg (T_api_Net.c a0)] (.one (.lit (.bool r))) := by
  refine SCall.of Try.func70 rfl rfl rfl rfl fun S0 w0 => ?_
  unfold g_doormanref07_Right at hf
  obtain ⟨x1, q1, hf⟩ := bind_some' hf
  rcases br_some hf with ⟨h2, hf⟩ | ⟨h2, hf⟩
  · replace hf := Option.some.inj hf
    subst hf
    exact toEnd_good allOk 8 _ _ [⟨[], [], [], [], [], [], []⟩, ⟨[(2, .r (.one (.lit (.bool x1))) [])], [(4, true)], [], [[], [0], [1, 0], [2, 1, 0], [3, 2, 1, 0], [4, 3, 2, 1, 0], [5, 4, 3, 2, 1, 0], [6, 5, 4, 3, 2, 1, 0], [4, 3, 2, 1, 0, 7, 6, 5], [8, 4, 3, 2, 1, 0, 7, 6, 5], [9, 8, 4, 3, 2, 1, 0, 7, 6, 5], [10, 9, 8, 4, 3, 2, 1, 0, 7, 6, 5], [9, 8, 4, 3, 2, 1, 0, 7, 6, 5], [12, 9, 8, 4, 3, 2, 1, 0, 7, 6, 5], [13, 12, 9, 8, 4, 3, 2, 1, 0, 7, 6, 5], [11, 10, 9, 8, 4, 3, 2, 1, 0, 7, 6, 5, 14, 13, 12], [9, 8, 4, 3, 2, 1, 0, 7, 6, 5, 15, 11, 10, 14, 13, 12]], [], [], []⟩, ⟨[], [], [], [], [], [], []⟩] [true] [] [] [] [SCall Try.prog 114 [.agg (T_api_Addr.c a0.fAddr)] (.one (.lit (.bool x1))), (!x1) = true, true = true] (by kernel_rfl) rfl ⟨(g_doormanref06_Right_ok a0.fAddr x1 q1), h2, rfl, trivial⟩
  · rcases br_some hf with ⟨h3, hf⟩ | ⟨h3, hf⟩
    · replace hf := Option.some.inj hf
      subst hf
      exact toEnd_good allOk 8 _ _ [⟨[], [], [], [], [], [], []⟩, ⟨[(2, .r (.one (.lit (.bool x1))) [])], [(4, false), (9, true)], [], [[], [0], [1, 0], [2, 1, 0], [3, 2, 1, 0], [4, 3, 2, 1, 0], [5, 4, 3, 2, 1, 0], [6, 5, 4, 3, 2, 1, 0], [4, 3, 2, 1, 0, 7, 6, 5], [8, 4, 3, 2, 1, 0, 7, 6, 5], [9, 8, 4, 3, 2, 1, 0, 7, 6, 5], [10, 9, 8, 4, 3, 2, 1, 0, 7, 6, 5], [9, 8, 4, 3, 2, 1, 0, 7, 6, 5], [12, 9, 8, 4, 3, 2, 1, 0, 7, 6, 5], [13, 12, 9, 8, 4, 3, 2, 1, 0, 7, 6, 5], [11, 10, 9, 8, 4, 3, 2, 1, 0, 7, 6, 5, 14, 13, 12], [9, 8, 4, 3, 2, 1, 0, 7, 6, 5, 15, 11, 10, 14, 13, 12]], [], [], []⟩, ⟨[], [], [], [], [], [], []⟩] [true] [] [] [] [SCall Try.prog 114 [.agg (T_api_Addr.c a0.fAddr)] (.one (.lit (.bool x1))), (!x1) = false, (decide (a0.fBits < (0 : Int))) = true, true = true] (by kernel_rfl) rfl ⟨(g_doormanref06_Right_ok a0.fAddr x1 q1), h2, h3, rfl, trivial⟩
    · obtain ⟨x2, q4, hf⟩ := bind_some' hf
      rcases br_some hf with ⟨h5, hf⟩ | ⟨h5, hf⟩
      · replace hf := Option.some.inj hf
        subst hf
        exact toEnd_good allOk 8 _ _ [⟨[], [], [], [], [], [], []⟩, ⟨[(2, .r (.one (.lit (.bool x1))) []), (14, .r (.one (.lit (.int .i64 x2))) [])], [(4, false), (9, false)], [], [[], [0], [1, 0], [2, 1, 0], [3, 2, 1, 0], [4, 3, 2, 1, 0], [5, 4, 3, 2, 1, 0], [6, 5, 4, 3, 2, 1, 0], [4, 3, 2, 1, 0, 7, 6, 5], [8, 4, 3, 2, 1, 0, 7, 6, 5], [9, 8, 4, 3, 2, 1, 0, 7, 6, 5], [10, 9, 8, 4, 3, 2, 1, 0, 7, 6, 5], [9, 8, 4, 3, 2, 1, 0, 7, 6, 5], [12, 9, 8, 4, 3, 2, 1, 0, 7, 6, 5], [13, 12, 9, 8, 4, 3, 2, 1, 0, 7, 6, 5], [11, 10, 9, 8, 4, 3, 2, 1, 0, 7, 6, 5, 14, 13, 12], [9, 8, 4, 3, 2, 1, 0, 7, 6, 5, 15, 11, 10, 14, 13, 12]], [], [], []⟩, ⟨[], [], [], [], [], [], []⟩] [true] [] [] [] [SCall Try.prog 114 [.agg (T_api_Addr.c a0.fAddr)] (.one (.lit (.bool x1))), (!x1) = false, (decide (a0.fBits < (0 : Int))) = false, SCall Try.prog 80 [.agg (T_api_Addr.c a0.fAddr)] (.one (.lit (.int .i64 x2))), (decide (a0.fBits > x2)) = true] (by kernel_rfl) rfl ⟨(g_doormanref06_Right_ok a0.fAddr x1 q1), h2, h3, (g_doormanref06_Bits_ok a0.fAddr x2 q4), h5, trivial⟩
      · exact toK_good allOk Post.ends 11 _ _ _ _ [⟨[], [], [], [], [], [], []⟩, ⟨[(2, .r (.one (.lit (.bool x1))) []), (14, .r (.one (.lit (.int .i64 x2))) [])], [(4, false), (9, false)], [], [[], [0], [1, 0], [2, 1, 0], [3, 2, 1, 0], [4, 3, 2, 1, 0], [5, 4, 3, 2, 1, 0], [6, 5, 4, 3, 2, 1, 0], [4, 3, 2, 1, 0, 7, 6, 5], [8, 4, 3, 2, 1, 0, 7, 6, 5], [9, 8, 4, 3, 2, 1, 0, 7, 6, 5], [10, 9, 8, 4, 3, 2, 1, 0, 7, 6, 5], [9, 8, 4, 3, 2, 1, 0, 7, 6, 5], [12, 9, 8, 4, 3, 2, 1, 0, 7, 6, 5], [13, 12, 9, 8, 4, 3, 2, 1, 0, 7, 6, 5], [11, 10, 9, 8, 4, 3, 2, 1, 0, 7, 6, 5, 14, 13, 12], [9, 8, 4, 3, 2, 1, 0, 7, 6, 5, 15, 11, 10, 14, 13, 12]], [], [], []⟩, ⟨[], [], [], [], [], [], []⟩] [false] ⟨[], [], [], [], [], [1, 3], [1], []⟩ [SCall Try.prog 114 [.agg (T_api_Addr.c a0.fAddr)] (.one (.lit (.bool x1))), (!x1) = false, (decide (a0.fBits < (0 : Int))) = false, SCall Try.prog 80 [.agg (T_api_Addr.c a0.fAddr)] (.one (.lit (.int .i64 x2))), (decide (a0.fBits > x2)) = false] (by kernel_rfl) ⟨(g_doormanref06_Right_ok a0.fAddr x1 q1), h2, h3, (g_doormanref06_Bits_ok a0.fAddr x2 q4), h5, trivial⟩ (g_doormanref07_Right_c0_ok S0 w0    1000000 a0.fBits a0 r hf)

def g_doormanref07_Has_c0   : Nat → Int → T_api_Net → T_api_Addr → Option Bool
  | 0, _, _, _ => none
  | fu + 1, v5, b2, b3 =>
    bif (decide (v5 < b2.fBits)) then
      (g_doormanref06_Bit b2.fAddr v5).bind fun x3 =>
      (g_doormanref06_Bit b3 v5).bind fun x4 =>
      bif (x3 != x4) then
        some false
      else
        g_doormanref07_Has_c0   fu (add64 v5 (1 : Int)) b2 b3
    else
      some true

theorem g_doormanref07_Has_c0_ok (S0 : Nat → Prop) (w0 : Start)   : ∀ (fu : Nat) (v5 : Int) (b2 : T_api_Net) (b3 : T_api_Addr) (r : Bool), g_doormanref07_Has_c0   fu v5 b2 b3 = some r → Good Try.prog 36 S0 w0 (bodyPost Try.prog Try.f81 (Post S0 w0 (.one (.lit (.bool r))))) (at_ [1, 1, 0, 1, 0] (bodyOf Try.f81)) ⟨[(2, .one (.ptr 2 0)), (3, .one (.ptr 3 0)), (5, .one (.lit (.int .i64 v5)))], [(2, .box [.lit (.bool b2.fAddr.fV6), .lit (.int .u64 b2.fAddr.fHi), .lit (.int .u64 b2.fAddr.fLo), .lit (.int .i64 b2.fBits)]), (3, .box [.lit (.bool b3.fV6), .lit (.int .u64 b3.fHi), .lit (.int .u64 b3.fLo)])]⟩ := by
  intro fu
  induction fu with
  | zero =>
    intro v5 b2 b3 r hf
    simp [g_doormanref07_Has_c0] at hf
  | succ fu ih =>
    intro v5 b2 b3 r hf
    unfold g_doormanref07_Has_c0 at hf
    rcases br_some hf with ⟨h6, hf⟩ | ⟨h6, hf⟩
    · obtain ⟨x3, q7, hf⟩ := bind_some' hf
      obtain ⟨x4, q8, hf⟩ := bind_some' hf
      rcases br_some hf with ⟨h9, hf⟩ | ⟨h9, hf⟩
      · replace hf := Option.some.inj hf
        subst hf
        exact toEnd_good allOk 13 _ _ [⟨[], [], [], [], [], [], []⟩, ⟨[(3, .r (.one (.lit (.int .i64 x3))) []), (6, .r (.one (.lit (.int .i64 x4))) [])], [], [], [[], [0], [], [1, 0, 2], [], [], [4, 5, 3, 1, 0, 2], [3, 1, 0, 2, 6, 4, 5]], [], [], []⟩, ⟨[], [], [], [], [], [], []⟩] [true, true] [] [] [] [(decide (v5 < b2.fBits)) = true, SCall Try.prog 115 [.agg (T_api_Addr.c b2.fAddr), .one (.lit (.int .i64 v5))] (.one (.lit (.int .i64 x3))), SCall Try.prog 115 [.agg (T_api_Addr.c b3), .one (.lit (.int .i64 v5))] (.one (.lit (.int .i64 x4))), (x3 != x4) = true] (by kernel_rfl) rfl ⟨h6, (g_doormanref06_Bit_ok b2.fAddr v5 x3 q7), (g_doormanref06_Bit_ok b3 v5 x4 q8), h9, trivial⟩
      · exact toK_good allOk Post.ends 15 _ _ _ _ [⟨[], [], [], [], [], [], []⟩, ⟨[(3, .r (.one (.lit (.int .i64 x3))) []), (6, .r (.one (.lit (.int .i64 x4))) [])], [], [], [[], [0], [], [1, 0, 2], [], [], [4, 5, 3, 1, 0, 2], [3, 1, 0, 2, 6, 4, 5]], [], [], []⟩, ⟨[], [], [], [], [], [], []⟩] [true, false] ⟨[], [], [], [], [], [2, 3, 5], [2, 3], []⟩ [(decide (v5 < b2.fBits)) = true, SCall Try.prog 115 [.agg (T_api_Addr.c b2.fAddr), .one (.lit (.int .i64 v5))] (.one (.lit (.int .i64 x3))), SCall Try.prog 115 [.agg (T_api_Addr.c b3), .one (.lit (.int .i64 v5))] (.one (.lit (.int .i64 x4))), (x3 != x4) = false] (by kernel_rfl) ⟨h6, (g_doormanref06_Bit_ok b2.fAddr v5 x3 q7), (g_doormanref06_Bit_ok b3 v5 x4 q8), h9, trivial⟩ (ih (add64 v5 (1 : Int)) b2 b3 r hf)
    · replace hf := Option.some.inj hf
      subst hf
      exact toEnd_good allOk 8 _ _ [⟨[], [], [], [], [], [], []⟩, ⟨[], [], [], [], [], [], []⟩] [false] [] [] [] [(decide (v5 < b2.fBits)) = false] (by kernel_rfl) rfl ⟨h6, trivial⟩

/-- doorman/doormanref07.Has -/
def g_doormanref07_Has (a0 : T_api_Net) (a1 : T_api_Addr) : Option Bool :=
  (g_doormanref07_Right a0).bind fun x1 =>
  bif (!x1) then
    some false
  else
    (g_doormanref06_Right a1).bind fun x2 =>
    bif (!x2) then
      some false
    else
      bif (!(a0.fAddr.fV6 == a1.fV6)) then
        some false
      else
        g_doormanref07_Has_c0   1000000 (0 : Int) a0 a1

theorem g_doormanref07_Has_ok (a0 : T_api_Net) (a1 : T_api_Addr) (r : Bool) (hf : g_doormanref07_Has a0 a1 = some r) : SCall Try.prog 81 [.agg (T_api_Net.c a0), .agg (T_api_Addr.c a1)] (.one (.lit (.bool r))) := by
  refine SCall.of Try.func81 rfl rfl rfl rfl fun S0 w0 => ?_
  unfold g_doormanref07_Has at hf
  obtain ⟨x1, q1, hf⟩ := bind_some' hf
  rcases br_some hf with ⟨h2, hf⟩ | ⟨h2, hf⟩
  · replace hf := Option.some.inj hf
    subst hf
    exact toEnd_good allOk 8 _ _ [⟨[], [], [], [], [], [], []⟩, ⟨[(1, .r (.one (.lit (.bool x1))) [])], [(3, true)], [], [], [], [], []⟩, ⟨[], [], [], [], [], [], []⟩] [true] [] [] [] [SCall Try.prog 70 [.agg (T_api_Net.c a0)] (.one (.lit (.bool x1))), (!x1) = true, true = true] (by kernel_rfl) rfl ⟨(g_doormanref07_Right_ok a0 x1 q1), h2, rfl, trivial⟩
  · obtain ⟨x2, q3, hf⟩ := bind_some' hf
    rcases br_some hf with ⟨h4, hf⟩ | ⟨h4, hf⟩
    · replace hf := Option.some.inj hf
      subst hf
      exact toEnd_good allOk 8 _ _ [⟨[], [], [], [], [], [], []⟩, ⟨[(1, .r (.one (.lit (.bool x1))) []), (5, .r (.one (.lit (.bool x2))) [])], [(3, false), (8, true)], [], [], [], [], []⟩, ⟨[], [], [], [], [], [], []⟩] [true] [] [] [] [SCall Try.prog 70 [.agg (T_api_Net.c a0)] (.one (.lit (.bool x1))), (!x1) = false, SCall Try.prog 114 [.agg (T_api_Addr.c a1)] (.one (.lit (.bool x2))), (!x2) = true, true = true] (by kernel_rfl) rfl ⟨(g_doormanref07_Right_ok a0 x1 q1), h2, (g_doormanref06_Right_ok a1 x2 q3), h4, rfl, trivial⟩
    · rcases br_some hf with ⟨h5, hf⟩ | ⟨h5, hf⟩
      · replace hf := Option.some.inj hf
        subst hf
        exact toEnd_good allOk 8 _ _ [⟨[], [], [], [], [], [], []⟩, ⟨[(1, .r (.one (.lit (.bool x1))) []), (5, .r (.one (.lit (.bool x2))) [])], [(3, false), (8, false)], [], [], [], [], []⟩, ⟨[], [], [], [], [], [], []⟩] [true] [] [] [] [SCall Try.prog 70 [.agg (T_api_Net.c a0)] (.one (.lit (.bool x1))), (!x1) = false, SCall Try.prog 114 [.agg (T_api_Addr.c a1)] (.one (.lit (.bool x2))), (!x2) = false, (!(a0.fAddr.fV6 == a1.fV6)) = true] (by kernel_rfl) rfl ⟨(g_doormanref07_Right_ok a0 x1 q1), h2, (g_doormanref06_Right_ok a1 x2 q3), h4, h5, trivial⟩
      · exact toK_good allOk Post.ends 11 _ _ _ _ [⟨[], [], [], [], [], [], []⟩, ⟨[(1, .r (.one (.lit (.bool x1))) []), (5, .r (.one (.lit (.bool x2))) [])], [(3, false), (8, false)], [], [], [], [], []⟩, ⟨[], [], [], [], [], [], []⟩] [false] ⟨[], [], [], [], [], [2, 3, 5], [2, 3], []⟩ [SCall Try.prog 70 [.agg (T_api_Net.c a0)] (.one (.lit (.bool x1))), (!x1) = false, SCall Try.prog 114 [.agg (T_api_Addr.c a1)] (.one (.lit (.bool x2))), (!x2) = false, (!(a0.fAddr.fV6 == a1.fV6)) = false] (by kernel_rfl) ⟨(g_doormanref07_Right_ok a0 x1 q1), h2, (g_doormanref06_Right_ok a1 x2 q3), h4, h5, trivial⟩ (g_doormanref07_Has_c0_ok S0 w0    1000000 (0 : Int) a0 a1 r hf)

/-- doorman/doormanref12.Hits -/
def g_doormanref12_Hits (a0 : T_api_Ban) (a1 : T_api_Addr) (a2 : Int) : Option Bool :=
  bif (decide (a0.fUntil > a2)) then
    (g_doormanref07_Has a0.fNet a1).bind fun x1 =>
    some x1
  else
    some false

theorem g_doormanref12_Hits_ok (a0 : T_api_Ban) (a1 : T_api_Addr) (a2 : Int) (r : Bool) (hf : g_doormanref12_Hits a0 a1 a2 = some r) : SCall Try.prog 67 [.agg (T_api_Ban.c a0), .agg (T_api_Addr.c a1), .one (.lit (.int .i64 a2))] (.one (.lit (.bool r))) := by
  refine SCall.of Try.func67 rfl rfl rfl rfl fun S0 w0 => ?_
  unfold g_doormanref12_Hits at hf
  rcases br_some hf with ⟨h1, hf⟩ | ⟨h1, hf⟩
  · obtain ⟨x1, q2, hf⟩ := bind_some' hf
    replace hf := Option.some.inj hf
    subst hf
    exact toEnd_good allOk 4 _ _ [⟨[], [], [], [], [], [], []⟩, ⟨[(8, .r (.one (.lit (.bool x1))) [])], [(4, true)], [], [], [], [], []⟩] [] [] [] [] [(decide (a0.fUntil > a2)) = true, SCall Try.prog 81 [.agg (T_api_Net.c a0.fNet), .agg (T_api_Addr.c a1)] (.one (.lit (.bool x1)))] (by kernel_rfl) rfl ⟨h1, (g_doormanref07_Has_ok a0.fNet a1 x1 q2), trivial⟩
  · replace hf := Option.some.inj hf
    subst hf
    exact toEnd_good allOk 4 _ _ [⟨[], [], [], [], [], [], []⟩, ⟨[], [(4, false)], [], [], [], [], []⟩] [] [] [] [] [(decide (a0.fUntil > a2)) = false] (by kernel_rfl) rfl ⟨h1, trivial⟩

def g_doormanref13_Until_c0 (a0 : (List T_api_Ban)) (a2 : Int)  : Nat → Int → Bool → Int → T_api_Addr → Option Int
  | 0, _, _, _, _ => none
  | fu + 1, v7, v8, v9, b4 =>
    bif (decide (v9 < ((a0.length : Nat) : Int))) then
      need (0 ≤ v9 ∧ v9 < ((a0.length : Nat) : Int)) <|
      (g_doormanref12_Hits (a0.getD v9.toNat T_api_Ban.d) b4 a2).bind fun x1 =>
      bif x1 then
        bif (!v8) then
          g_doormanref13_Until_c0 a0 a2  fu ((a0.getD v9.toNat T_api_Ban.d).fUntil) true (add64 v9 (1 : Int)) b4
        else
          bif (decide ((a0.getD v9.toNat T_api_Ban.d).fUntil > v7)) then
            g_doormanref13_Until_c0 a0 a2  fu ((a0.getD v9.toNat T_api_Ban.d).fUntil) true (add64 v9 (1 : Int)) b4
          else
            g_doormanref13_Until_c0 a0 a2  fu v7 v8 (add64 v9 (1 : Int)) b4
      else
        g_doormanref13_Until_c0 a0 a2  fu v7 v8 (add64 v9 (1 : Int)) b4
    else
      some v7

theorem g_doormanref13_Until_c0_ok (S0 : Nat → Prop) (w0 : Start) (a0 : (List T_api_Ban)) (a2 : Int)  : ∀ (fu : Nat) (v7 : Int) (v8 : Bool) (v9 : Int) (b4 : T_api_Addr) (r : Int), g_doormanref13_Until_c0 a0 a2  fu v7 v8 v9 b4 = some r → Good Try.prog 42 S0 w0 (bodyPost Try.prog Try.f45 (Post S0 w0 (.one (.lit (.int .i64 r))))) (at_ [1, 1, 0, 1, 0] (bodyOf Try.f45)) ⟨[(0, .one (cL 5 T_api_Ban.c T_api_Ban.d a0)), (2, .one (.lit (.int .i64 a2))), (4, .one (.ptr 4 0)), (7, .one (.lit (.int .i64 v7))), (8, .one (.lit (.bool v8))), (9, .one (.lit (.int .i64 v9)))], [(4, .box [.lit (.bool b4.fV6), .lit (.int .u64 b4.fHi), .lit (.int .u64 b4.fLo)])]⟩ := by
  intro fu
  induction fu with
  | zero =>
    intro v7 v8 v9 b4 r hf
    simp [g_doormanref13_Until_c0] at hf
  | succ fu ih =>
    intro v7 v8 v9 b4 r hf
    unfold g_doormanref13_Until_c0 at hf
    rcases br_some hf with ⟨h1, hf⟩ | ⟨h1, hf⟩
    · obtain ⟨o2, hf⟩ := need_some hf
      obtain ⟨x1, q3, hf⟩ := bind_some' hf
      rcases br_some hf with ⟨h4, hf⟩ | ⟨h4, hf⟩
      · rcases br_some hf with ⟨h5, hf⟩ | ⟨h5, hf⟩
        · exact toK_good allOk Post.ends 17 _ _ _ _ [⟨[], [], [], [], [], [], []⟩, ⟨[(6, .r (.one (.lit (.bool x1))) [])], [(7, true), (10, true)], [], [[], [], [0, 1], [2, 0, 1], [], [], [3, 2, 0, 1, 4, 5], [6, 3, 2, 0, 1, 4, 5], [7, 6, 3, 2, 0, 1, 4, 5], [8, 7, 6, 3, 2, 0, 1, 4, 5], [9, 8, 7, 6, 3, 2, 0, 1, 4, 5], [10, 9, 8, 7, 6, 3, 2, 0, 1, 4, 5], [10, 9, 8, 7, 6, 3, 2, 0, 1, 4, 5], [11, 10, 9, 8, 7, 6, 3, 2, 0, 1, 4, 5, 12], [13, 11, 10, 9, 8, 7, 6, 3, 2, 0, 1, 4, 5, 12], [14, 13, 11, 10, 9, 8, 7, 6, 3, 2, 0, 1, 4, 5, 12], [10, 9, 8, 7, 6, 3, 2, 0, 1, 4, 5], [15, 14, 13, 11, 10, 9, 8, 7, 6, 3, 2, 0, 1, 4, 5, 12, 16], [10, 9, 8, 7, 6, 3, 2, 0, 1, 4, 5, 17, 15, 14, 13, 11, 12, 16], [7, 6, 3, 2, 0, 1, 4, 5, 18, 10, 9, 8, 17, 15, 14, 13, 11, 12, 16]], [], [], []⟩, ⟨[], [], [], [], [], [], []⟩, ⟨[], [], [], [], [], [], []⟩, ⟨[], [], [], [], [], [], []⟩] [true, true] ⟨[], [], [], [], [], [0, 2, 4, 7, 8, 9], [4], []⟩ [(decide (v9 < ((a0.length : Nat) : Int))) = true, 0 ≤ v9 ∧ v9 < ((a0.length : Nat) : Int), SCall Try.prog 67 [.agg (T_api_Ban.c (a0.getD v9.toNat T_api_Ban.d)), .agg (T_api_Addr.c b4), .one (.lit (.int .i64 a2))] (.one (.lit (.bool x1))), x1 = true, (!v8) = true, true = true, 0 ≤ v9 ∧ v9 < ((a0.length : Nat) : Int)] (by kernel_rfl) ⟨h1, o2, (g_doormanref12_Hits_ok (a0.getD v9.toNat T_api_Ban.d) b4 a2 x1 q3), h4, h5, rfl, o2, trivial⟩ (ih ((a0.getD v9.toNat T_api_Ban.d).fUntil) true (add64 v9 (1 : Int)) b4 r hf)
        · rcases br_some hf with ⟨h6, hf⟩ | ⟨h6, hf⟩
          · exact toK_good allOk Post.ends 17 _ _ _ _ [⟨[], [], [], [], [], [], []⟩, ⟨[(6, .r (.one (.lit (.bool x1))) [])], [(7, true), (10, false)], [], [[], [], [0, 1], [2, 0, 1], [], [], [3, 2, 0, 1, 4, 5], [6, 3, 2, 0, 1, 4, 5], [7, 6, 3, 2, 0, 1, 4, 5], [8, 7, 6, 3, 2, 0, 1, 4, 5], [9, 8, 7, 6, 3, 2, 0, 1, 4, 5], [10, 9, 8, 7, 6, 3, 2, 0, 1, 4, 5], [10, 9, 8, 7, 6, 3, 2, 0, 1, 4, 5], [11, 10, 9, 8, 7, 6, 3, 2, 0, 1, 4, 5, 12], [13, 11, 10, 9, 8, 7, 6, 3, 2, 0, 1, 4, 5, 12], [14, 13, 11, 10, 9, 8, 7, 6, 3, 2, 0, 1, 4, 5, 12], [10, 9, 8, 7, 6, 3, 2, 0, 1, 4, 5], [15, 14, 13, 11, 10, 9, 8, 7, 6, 3, 2, 0, 1, 4, 5, 12, 16], [10, 9, 8, 7, 6, 3, 2, 0, 1, 4, 5, 17, 15, 14, 13, 11, 12, 16], [7, 6, 3, 2, 0, 1, 4, 5, 18, 10, 9, 8, 17, 15, 14, 13, 11, 12, 16]], [], [], []⟩, ⟨[], [], [], [], [], [], []⟩, ⟨[], [], [], [], [], [], []⟩, ⟨[], [], [], [], [], [], []⟩] [true, true] ⟨[], [], [], [], [], [0, 2, 4, 7, 8, 9], [4], []⟩ [(decide (v9 < ((a0.length : Nat) : Int))) = true, 0 ≤ v9 ∧ v9 < ((a0.length : Nat) : Int), SCall Try.prog 67 [.agg (T_api_Ban.c (a0.getD v9.toNat T_api_Ban.d)), .agg (T_api_Addr.c b4), .one (.lit (.int .i64 a2))] (.one (.lit (.bool x1))), x1 = true, (!v8) = false, 0 ≤ v9 ∧ v9 < ((a0.length : Nat) : Int), (decide ((a0.getD v9.toNat T_api_Ban.d).fUntil > v7)) = true, 0 ≤ v9 ∧ v9 < ((a0.length : Nat) : Int)] (by kernel_rfl) ⟨h1, o2, (g_doormanref12_Hits_ok (a0.getD v9.toNat T_api_Ban.d) b4 a2 x1 q3), h4, h5, o2, h6, o2, trivial⟩ (ih ((a0.getD v9.toNat T_api_Ban.d).fUntil) true (add64 v9 (1 : Int)) b4 r hf)
          · exact toK_good allOk Post.ends 15 _ _ _ _ [⟨[], [], [], [], [], [], []⟩, ⟨[(6, .r (.one (.lit (.bool x1))) [])], [(7, true), (10, false)], [], [[], [], [0, 1], [2, 0, 1], [], [], [3, 2, 0, 1, 4, 5], [6, 3, 2, 0, 1, 4, 5], [7, 6, 3, 2, 0, 1, 4, 5], [8, 7, 6, 3, 2, 0, 1, 4, 5], [9, 8, 7, 6, 3, 2, 0, 1, 4, 5], [10, 9, 8, 7, 6, 3, 2, 0, 1, 4, 5], [10, 9, 8, 7, 6, 3, 2, 0, 1, 4, 5], [11, 10, 9, 8, 7, 6, 3, 2, 0, 1, 4, 5, 12], [13, 11, 10, 9, 8, 7, 6, 3, 2, 0, 1, 4, 5, 12], [14, 13, 11, 10, 9, 8, 7, 6, 3, 2, 0, 1, 4, 5, 12], [10, 9, 8, 7, 6, 3, 2, 0, 1, 4, 5], [15, 14, 13, 11, 10, 9, 8, 7, 6, 3, 2, 0, 1, 4, 5, 12, 16], [10, 9, 8, 7, 6, 3, 2, 0, 1, 4, 5, 17, 15, 14, 13, 11, 12, 16], [7, 6, 3, 2, 0, 1, 4, 5, 18, 10, 9, 8, 17, 15, 14, 13, 11, 12, 16]], [], [], []⟩, ⟨[], [], [], [], [], [], []⟩] [true, false] ⟨[], [], [], [], [], [0, 2, 4, 7, 8, 9], [4], []⟩ [(decide (v9 < ((a0.length : Nat) : Int))) = true, 0 ≤ v9 ∧ v9 < ((a0.length : Nat) : Int), SCall Try.prog 67 [.agg (T_api_Ban.c (a0.getD v9.toNat T_api_Ban.d)), .agg (T_api_Addr.c b4), .one (.lit (.int .i64 a2))] (.one (.lit (.bool x1))), x1 = true, (!v8) = false, 0 ≤ v9 ∧ v9 < ((a0.length : Nat) : Int), (decide ((a0.getD v9.toNat T_api_Ban.d).fUntil > v7)) = false] (by kernel_rfl) ⟨h1, o2, (g_doormanref12_Hits_ok (a0.getD v9.toNat T_api_Ban.d) b4 a2 x1 q3), h4, h5, o2, h6, trivial⟩ (ih v7 v8 (add64 v9 (1 : Int)) b4 r hf)
      · exact toK_good allOk Post.ends 15 _ _ _ _ [⟨[], [], [], [], [], [], []⟩, ⟨[(6, .r (.one (.lit (.bool x1))) [])], [(7, false)], [], [[], [], [0, 1], [2, 0, 1], [], [], [3, 2, 0, 1, 4, 5], [6, 3, 2, 0, 1, 4, 5], [7, 6, 3, 2, 0, 1, 4, 5], [8, 7, 6, 3, 2, 0, 1, 4, 5], [9, 8, 7, 6, 3, 2, 0, 1, 4, 5], [10, 9, 8, 7, 6, 3, 2, 0, 1, 4, 5], [10, 9, 8, 7, 6, 3, 2, 0, 1, 4, 5], [11, 10, 9, 8, 7, 6, 3, 2, 0, 1, 4, 5, 12], [13, 11, 10, 9, 8, 7, 6, 3, 2, 0, 1, 4, 5, 12], [14, 13, 11, 10, 9, 8, 7, 6, 3, 2, 0, 1, 4, 5, 12], [10, 9, 8, 7, 6, 3, 2, 0, 1, 4, 5], [15, 14, 13, 11, 10, 9, 8, 7, 6, 3, 2, 0, 1, 4, 5, 12, 16], [10, 9, 8, 7, 6, 3, 2, 0, 1, 4, 5, 17, 15, 14, 13, 11, 12, 16], [7, 6, 3, 2, 0, 1, 4, 5, 18, 10, 9, 8, 17, 15, 14, 13, 11, 12, 16]], [], [], []⟩, ⟨[], [], [], [], [], [], []⟩] [true, false] ⟨[], [], [], [], [], [0, 2, 4, 7, 8, 9], [4], []⟩ [(decide (v9 < ((a0.length : Nat) : Int))) = true, 0 ≤ v9 ∧ v9 < ((a0.length : Nat) : Int), SCall Try.prog 67 [.agg (T_api_Ban.c (a0.getD v9.toNat T_api_Ban.d)), .agg (T_api_Addr.c b4), .one (.lit (.int .i64 a2))] (.one (.lit (.bool x1))), x1 = false, false = false] (by kernel_rfl) ⟨h1, o2, (g_doormanref12_Hits_ok (a0.getD v9.toNat T_api_Ban.d) b4 a2 x1 q3), h4, rfl, trivial⟩ (ih v7 v8 (add64 v9 (1 : Int)) b4 r hf)
    · replace hf := Option.some.inj hf
      subst hf
      exact toEnd_good allOk 8 _ _ [⟨[], [], [], [], [], [], []⟩, ⟨[], [], [], [], [], [], []⟩] [false] [] [] [] [(decide (v9 < ((a0.length : Nat) : Int))) = false] (by kernel_rfl) rfl ⟨h1, trivial⟩

/-- doorman/doormanref13.Until -/
def g_doormanref13_Until (a0 : (List T_api_Ban)) (a1 : T_api_Addr) (a2 : Int) : Option Int :=
  g_doormanref13_Until_c0 a0 a2  ((((a0.length : Nat) : Int) - (0 : Int)).toNat + 2) (0 : Int) false (0 : Int) a1

theorem g_doormanref13_Until_ok (a0 : (List T_api_Ban)) (a1 : T_api_Addr) (a2 : Int) (r : Int) (hf : g_doormanref13_Until a0 a1 a2 = some r) : SCall Try.prog 45 [.one (cL 5 T_api_Ban.c T_api_Ban.d a0), .agg (T_api_Addr.c a1), .one (.lit (.int .i64 a2))] (.one (.lit (.int .i64 r))) := by
  refine SCall.of Try.func45 rfl rfl rfl rfl fun S0 w0 => ?_
  unfold g_doormanref13_Until at hf
  exact toK_good allOk Post.ends 8 _ _ _ _ [⟨[], [], [], [], [], [], []⟩, ⟨[], [], [], [], [], [], []⟩, ⟨[], [], [], [], [], [], []⟩] [] ⟨[], [], [], [], [], [0, 2, 4, 7, 8, 9], [4], []⟩ [] (by kernel_rfl) trivial (g_doormanref13_Until_c0_ok S0 w0 a0 a2   ((((a0.length : Nat) : Int) - (0 : Int)).toNat + 2) (0 : Int) false (0 : Int) a1 r hf)

def g_bans_Sweep_c0 (a0 : (List T_api_Ban)) (a1 : Int)  : Nat → (List T_api_Ban) → Int → Int → (List T_api_Ban) → Option ((List T_api_Ban) × Int)
  | 0, _, _, _, _ => none
  | fu + 1, v9, v10, v11, w6 =>
    bif (decide (v11 < v10)) then
      need (0 ≤ v11 ∧ v11 < ((v9.length : Nat) : Int)) <|
      (g_ban_Lives (v9.getD v11.toNat T_api_Ban.d) a1).bind fun x1 =>
      bif x1 then
        need ((w6 ++ ([(v9.getD v11.toNat T_api_Ban.d)] : List T_api_Ban)).length * 40 ≤ 140737488355328 ∧ (w6 ++ ([(v9.getD v11.toNat T_api_Ban.d)] : List T_api_Ban)).length ≤ maxLen) <|
        g_bans_Sweep_c0 a0 a1  fu v9 v10 (add64 v11 (1 : Int)) (w6 ++ ([(v9.getD v11.toNat T_api_Ban.d)] : List T_api_Ban))
      else
        g_bans_Sweep_c0 a0 a1  fu v9 v10 (add64 v11 (1 : Int)) w6
    else
      some (w6, (sub64 ((a0.length : Nat) : Int) ((w6.length : Nat) : Int)))

theorem g_bans_Sweep_c0_ok (S0 : Nat → Prop) (w0 : Start) (a0 : (List T_api_Ban)) (a1 : Int)  : ∀ (fu : Nat) (v9 : (List T_api_Ban)) (v10 : Int) (v11 : Int) (w6 : (List T_api_Ban)) (r : ((List T_api_Ban) × Int)), g_bans_Sweep_c0 a0 a1  fu v9 v10 v11 w6 = some r → Good Try.prog 29 S0 w0 (bodyPost Try.prog Try.f46 (Post S0 w0 (.tup [(false, (cLs 5 T_api_Ban.c T_api_Ban.d) r.1), (false, (cI .i64) r.2)]))) (at_ [1, 1, 0, 1, 0] (bodyOf Try.f46)) ⟨[(0, .one (cL 5 T_api_Ban.c T_api_Ban.d a0)), (1, .one (.lit (.int .i64 a1))), (6, .one (.osl 6 w6.length)), (9, .one (cL 5 T_api_Ban.c T_api_Ban.d v9)), (10, .one (.lit (.int .i64 v10))), (11, .one (.lit (.int .i64 v11)))], [(6, .rows 79 5 w6.length (rowsOf T_api_Ban.c T_api_Ban.d w6))]⟩ := by
  intro fu
  induction fu with
  | zero =>
    intro v9 v10 v11 w6 r hf
    simp [g_bans_Sweep_c0] at hf
  | succ fu ih =>
    intro v9 v10 v11 w6 r hf
    unfold g_bans_Sweep_c0 at hf
    rcases br_some hf with ⟨h1, hf⟩ | ⟨h1, hf⟩
    · obtain ⟨o2, hf⟩ := need_some hf
      obtain ⟨x1, q3, hf⟩ := bind_some' hf
      rcases br_some hf with ⟨h4, hf⟩ | ⟨h4, hf⟩
      · obtain ⟨o5, hf⟩ := need_some hf
        exact toK_good allOk Post.ends 17 _ _ _ _ [⟨[], [], [], [], [], [], []⟩, ⟨[], [], [], [], [], [], []⟩, ⟨[(2, .r (.one (.lit (.bool x1))) [])], [], [], [], [], [], []⟩, ⟨[(3, .c ((w6 ++ ([(v9.getD v11.toNat T_api_Ban.d)] : List T_api_Ban)).length) (rowsOf T_api_Ban.c T_api_Ban.d (w6 ++ ([(v9.getD v11.toNat T_api_Ban.d)] : List T_api_Ban))))], [], [], [], [], [(2, (([(v9.getD v11.toNat T_api_Ban.d)] : List T_api_Ban).length, rowsOf T_api_Ban.c T_api_Ban.d ([(v9.getD v11.toNat T_api_Ban.d)] : List T_api_Ban)))], []⟩, ⟨[], [], [], [], [], [], []⟩] [true, true] ⟨[], [], [], [], [], [0, 1, 6, 9, 10, 11], [21], [(21, 6)]⟩ [(decide (v11 < v10)) = true, 0 ≤ v11 ∧ v11 < ((v9.length : Nat) : Int), SCall Try.prog 96 [.agg (T_api_Ban.c (v9.getD v11.toNat T_api_Ban.d)), .one (.lit (.int .i64 a1))] (.one (.lit (.bool x1))), x1 = true, ([(v9.getD v11.toNat T_api_Ban.d)] : List T_api_Ban).length = 1 ∧ ∀ i j, i < 1 → j < 5 → rowsOf T_api_Ban.c T_api_Ban.d ([(v9.getD v11.toNat T_api_Ban.d)] : List T_api_Ban) i j = (([(v9.getD v11.toNat T_api_Ban.d)] : List T_api_Ban).flatMap T_api_Ban.c).getD (i * 5 + j) .junk, Ext 5 w6.length (([(v9.getD v11.toNat T_api_Ban.d)] : List T_api_Ban).length) (rowsOf T_api_Ban.c T_api_Ban.d w6) (rowsOf T_api_Ban.c T_api_Ban.d ([(v9.getD v11.toNat T_api_Ban.d)] : List T_api_Ban)) ((w6 ++ ([(v9.getD v11.toNat T_api_Ban.d)] : List T_api_Ban)).length) (rowsOf T_api_Ban.c T_api_Ban.d (w6 ++ ([(v9.getD v11.toNat T_api_Ban.d)] : List T_api_Ban))), (w6 ++ ([(v9.getD v11.toNat T_api_Ban.d)] : List T_api_Ban)).length * 40 ≤ 140737488355328, (w6 ++ ([(v9.getD v11.toNat T_api_Ban.d)] : List T_api_Ban)).length ≤ maxLen] (by kernel_rfl) ⟨h1, o2, (g_ban_Lives_ok (v9.getD v11.toNat T_api_Ban.d) a1 x1 q3), h4, ⟨rfl, fun i j hi hj => rows_flat (sz := 5) (e := T_api_Ban.c) (d := T_api_Ban.d) (fun _ => rfl) ([(v9.getD v11.toNat T_api_Ban.d)] : List T_api_Ban) i j hi hj⟩, (ext_app _ _), o5.1, o5.2, trivial⟩ (ih v9 v10 (add64 v11 (1 : Int)) (w6 ++ ([(v9.getD v11.toNat T_api_Ban.d)] : List T_api_Ban)) r hf)
      · exact toK_good allOk Post.ends 17 _ _ _ _ [⟨[], [], [], [], [], [], []⟩, ⟨[], [], [], [], [], [], []⟩, ⟨[(2, .r (.one (.lit (.bool x1))) [])], [], [], [], [], [], []⟩, ⟨[], [], [], [], [], [], []⟩] [true, false] ⟨[], [], [], [], [], [0, 1, 6, 9, 10, 11], [6], []⟩ [(decide (v11 < v10)) = true, 0 ≤ v11 ∧ v11 < ((v9.length : Nat) : Int), SCall Try.prog 96 [.agg (T_api_Ban.c (v9.getD v11.toNat T_api_Ban.d)), .one (.lit (.int .i64 a1))] (.one (.lit (.bool x1))), x1 = false] (by kernel_rfl) ⟨h1, o2, (g_ban_Lives_ok (v9.getD v11.toNat T_api_Ban.d) a1 x1 q3), h4, trivial⟩ (ih v9 v10 (add64 v11 (1 : Int)) w6 r hf)
    · replace hf := Option.some.inj hf
      subst hf
      exact toEnd_good allOk 8 _ _ [⟨[], [], [], [], [], [], []⟩, ⟨[], [], [], [], [], [], []⟩] [false] [6] [] [] [(decide (v11 < v10)) = false] (by kernel_rfl) rfl ⟨h1, trivial⟩

/-- doorman/bans.Sweep -/
def g_bans_Sweep (a0 : (List T_api_Ban)) (a1 : Int) : Option ((List T_api_Ban) × Int) :=
  g_bans_Sweep_c0 a0 a1  ((((a0.length : Nat) : Int) - (0 : Int)).toNat + 2) a0 ((a0.length : Nat) : Int) (0 : Int) ([])

theorem g_bans_Sweep_ok (a0 : (List T_api_Ban)) (a1 : Int) (r : ((List T_api_Ban) × Int)) (hf : g_bans_Sweep a0 a1 = some r) : SCall Try.prog 46 [.one (cL 5 T_api_Ban.c T_api_Ban.d a0), .one (.lit (.int .i64 a1))] (.tup [(false, (cLs 5 T_api_Ban.c T_api_Ban.d) r.1), (false, (cI .i64) r.2)]) := by
  refine SCall.of Try.func46 rfl rfl rfl rfl fun S0 w0 => ?_
  unfold g_bans_Sweep at hf
  exact toK_good allOk Post.ends 8 _ _ _ _ [⟨[], [], [], [], [], [], []⟩, ⟨[], [], [], [], [], [], []⟩, ⟨[], [], [], [], [], [], []⟩] [] ⟨[], [], [], [], [(6, 6, 79, 5, rowsOf T_api_Ban.c T_api_Ban.d [])], [0, 1, 6, 9, 10, 11], [6], []⟩ [] (by kernel_rfl) trivial (g_bans_Sweep_c0_ok S0 w0 a0 a1   ((((a0.length : Nat) : Int) - (0 : Int)).toNat + 2) a0 ((a0.length : Nat) : Int) (0 : Int) ([]) r hf)

/-- doorman/doormanlaw13.BansUntil -/
def g_doormanlaw13_BansUntil (a0 : (List T_api_Ban)) (a1 : T_api_Addr) (a2 : Int) : Option Bool :=
  bif (decide (((a0.length : Nat) : Int) > (60 : Int))) then
    (g_doormanlaw13_awake).bind fun x1 =>
    some x1
  else
    (g_bans_Until a0 a1 a2).bind fun x2 =>
    (g_doormanref13_Until a0 a1 a2).bind fun x3 =>
    bif (x2 != x3) then
      some false
    else
      (g_bans_Sweep a0 a2).bind fun x4 =>
      (g_bans_Until x4.1 a1 a2).bind fun x5 =>
      bif (x5 == x2) then
        bif (x2 == (0 : Int)) then
          (g_doormanlaw13_awake).bind fun x6 =>
          some x6
        else
          bif (decide (x2 > a2)) then
            (g_doormanlaw13_awake).bind fun x7 =>
            some x7
          else
            some false
      else
        some false

theorem g_doormanlaw13_BansUntil_ok (a0 : (List T_api_Ban)) (a1 : T_api_Addr) (a2 : Int) (r : Bool) (hf : g_doormanlaw13_BansUntil a0 a1 a2 = some r) : SCall Try.prog 9 [.one (cL 5 T_api_Ban.c T_api_Ban.d a0), .agg (T_api_Addr.c a1), .one (.lit (.int .i64 a2))] (.one (.lit (.bool r))) := by
  refine SCall.of Try.func9 rfl rfl rfl rfl fun S0 w0 => ?_
  unfold g_doormanlaw13_BansUntil at hf
  rcases br_some hf with ⟨h1, hf⟩ | ⟨h1, hf⟩
  · obtain ⟨x1, q2, hf⟩ := bind_some' hf
    replace hf := Option.some.inj hf
    subst hf
    exact toEnd_good allOk 8 _ _ [⟨[], [], [], [], [], [], []⟩, ⟨[], [], [], [], [], [], []⟩, ⟨[(0, .r (.one (.lit (.bool x1))) [])], [], [], [], [], [], []⟩] [true] [] [] [] [(decide (((a0.length : Nat) : Int) > (60 : Int))) = true, SCall Try.prog 43 [] (.one (.lit (.bool x1)))] (by kernel_rfl) rfl ⟨h1, (g_doormanlaw13_awake_ok  x1 q2), trivial⟩
  · obtain ⟨x2, q3, hf⟩ := bind_some' hf
    obtain ⟨x3, q4, hf⟩ := bind_some' hf
    rcases br_some hf with ⟨h5, hf⟩ | ⟨h5, hf⟩
    · replace hf := Option.some.inj hf
      subst hf
      exact toEnd_good allOk 15 _ _ [⟨[], [], [], [], [], [], []⟩, ⟨[], [], [], [], [], [], []⟩, ⟨[(3, .r (.one (.lit (.int .i64 x2))) [])], [], [], [], [], [], []⟩, ⟨[(4, .r (.one (.lit (.int .i64 x3))) [])], [], [], [], [], [], []⟩, ⟨[], [], [], [], [], [], []⟩] [false, true] [] [] [] [(decide (((a0.length : Nat) : Int) > (60 : Int))) = false, SCall Try.prog 44 [.one (cL 5 T_api_Ban.c T_api_Ban.d a0), .agg (T_api_Addr.c a1), .one (.lit (.int .i64 a2))] (.one (.lit (.int .i64 x2))), SCall Try.prog 45 [.one (cL 5 T_api_Ban.c T_api_Ban.d a0), .agg (T_api_Addr.c a1), .one (.lit (.int .i64 a2))] (.one (.lit (.int .i64 x3))), (x2 != x3) = true] (by kernel_rfl) rfl ⟨h1, (g_bans_Until_ok a0 a1 a2 x2 q3), (g_doormanref13_Until_ok a0 a1 a2 x3 q4), h5, trivial⟩
    · obtain ⟨x4, q6, hf⟩ := bind_some' hf
      obtain ⟨x5, q7, hf⟩ := bind_some' hf
      rcases br_some hf with ⟨h8, hf⟩ | ⟨h8, hf⟩
      · rcases br_some hf with ⟨h9, hf⟩ | ⟨h9, hf⟩
        · obtain ⟨x6, q10, hf⟩ := bind_some' hf
          replace hf := Option.some.inj hf
          subst hf
          exact toEnd_good allOk 18 _ _ [⟨[], [], [], [], [], [], []⟩, ⟨[], [], [], [], [], [], []⟩, ⟨[(3, .r (.one (.lit (.int .i64 x2))) [])], [], [], [], [], [], []⟩, ⟨[(4, .r (.one (.lit (.int .i64 x3))) [])], [], [], [], [], [], []⟩, ⟨[(2, .r (.tup [(false, (cLs 5 T_api_Ban.c T_api_Ban.d) x4.1), (false, (cI .i64) x4.2)]) [])], [], [], [], [], [], []⟩, ⟨[(3, .r (.one (.lit (.int .i64 x5))) []), (16, .r (.one (.lit (.bool x6))) [])], [(6, true), (9, true)], [], [], [], [], []⟩] [false, false] [] [] [] [(decide (((a0.length : Nat) : Int) > (60 : Int))) = false, SCall Try.prog 44 [.one (cL 5 T_api_Ban.c T_api_Ban.d a0), .agg (T_api_Addr.c a1), .one (.lit (.int .i64 a2))] (.one (.lit (.int .i64 x2))), SCall Try.prog 45 [.one (cL 5 T_api_Ban.c T_api_Ban.d a0), .agg (T_api_Addr.c a1), .one (.lit (.int .i64 a2))] (.one (.lit (.int .i64 x3))), (x2 != x3) = false, SCall Try.prog 46 [.one (cL 5 T_api_Ban.c T_api_Ban.d a0), .one (.lit (.int .i64 a2))] (.tup [(false, (cLs 5 T_api_Ban.c T_api_Ban.d) x4.1), (false, (cI .i64) x4.2)]), SCall Try.prog 44 [.one (cL 5 T_api_Ban.c T_api_Ban.d x4.1), .agg (T_api_Addr.c a1), .one (.lit (.int .i64 a2))] (.one (.lit (.int .i64 x5))), (x5 == x2) = true, (x2 == (0 : Int)) = true, SCall Try.prog 43 [] (.one (.lit (.bool x6)))] (by kernel_rfl) rfl ⟨h1, (g_bans_Until_ok a0 a1 a2 x2 q3), (g_doormanref13_Until_ok a0 a1 a2 x3 q4), h5, (g_bans_Sweep_ok a0 a2 x4 q6), (g_bans_Until_ok x4.1 a1 a2 x5 q7), h8, h9, (g_doormanlaw13_awake_ok  x6 q10), trivial⟩
        · rcases br_some hf with ⟨h11, hf⟩ | ⟨h11, hf⟩
          · obtain ⟨x7, q12, hf⟩ := bind_some' hf
            replace hf := Option.some.inj hf
            subst hf
            exact toEnd_good allOk 18 _ _ [⟨[], [], [], [], [], [], []⟩, ⟨[], [], [], [], [], [], []⟩, ⟨[(3, .r (.one (.lit (.int .i64 x2))) [])], [], [], [], [], [], []⟩, ⟨[(4, .r (.one (.lit (.int .i64 x3))) [])], [], [], [], [], [], []⟩, ⟨[(2, .r (.tup [(false, (cLs 5 T_api_Ban.c T_api_Ban.d) x4.1), (false, (cI .i64) x4.2)]) [])], [], [], [], [], [], []⟩, ⟨[(3, .r (.one (.lit (.int .i64 x5))) []), (16, .r (.one (.lit (.bool x7))) [])], [(6, true), (9, false), (15, true)], [], [], [], [], []⟩] [false, false] [] [] [] [(decide (((a0.length : Nat) : Int) > (60 : Int))) = false, SCall Try.prog 44 [.one (cL 5 T_api_Ban.c T_api_Ban.d a0), .agg (T_api_Addr.c a1), .one (.lit (.int .i64 a2))] (.one (.lit (.int .i64 x2))), SCall Try.prog 45 [.one (cL 5 T_api_Ban.c T_api_Ban.d a0), .agg (T_api_Addr.c a1), .one (.lit (.int .i64 a2))] (.one (.lit (.int .i64 x3))), (x2 != x3) = false, SCall Try.prog 46 [.one (cL 5 T_api_Ban.c T_api_Ban.d a0), .one (.lit (.int .i64 a2))] (.tup [(false, (cLs 5 T_api_Ban.c T_api_Ban.d) x4.1), (false, (cI .i64) x4.2)]), SCall Try.prog 44 [.one (cL 5 T_api_Ban.c T_api_Ban.d x4.1), .agg (T_api_Addr.c a1), .one (.lit (.int .i64 a2))] (.one (.lit (.int .i64 x5))), (x5 == x2) = true, (x2 == (0 : Int)) = false, (decide (x2 > a2)) = true, SCall Try.prog 43 [] (.one (.lit (.bool x7)))] (by kernel_rfl) rfl ⟨h1, (g_bans_Until_ok a0 a1 a2 x2 q3), (g_doormanref13_Until_ok a0 a1 a2 x3 q4), h5, (g_bans_Sweep_ok a0 a2 x4 q6), (g_bans_Until_ok x4.1 a1 a2 x5 q7), h8, h9, h11, (g_doormanlaw13_awake_ok  x7 q12), trivial⟩
          · replace hf := Option.some.inj hf
            subst hf
            exact toEnd_good allOk 18 _ _ [⟨[], [], [], [], [], [], []⟩, ⟨[], [], [], [], [], [], []⟩, ⟨[(3, .r (.one (.lit (.int .i64 x2))) [])], [], [], [], [], [], []⟩, ⟨[(4, .r (.one (.lit (.int .i64 x3))) [])], [], [], [], [], [], []⟩, ⟨[(2, .r (.tup [(false, (cLs 5 T_api_Ban.c T_api_Ban.d) x4.1), (false, (cI .i64) x4.2)]) [])], [], [], [], [], [], []⟩, ⟨[(3, .r (.one (.lit (.int .i64 x5))) [])], [(6, true), (9, false), (15, false)], [], [], [], [], []⟩] [false, false] [] [] [] [(decide (((a0.length : Nat) : Int) > (60 : Int))) = false, SCall Try.prog 44 [.one (cL 5 T_api_Ban.c T_api_Ban.d a0), .agg (T_api_Addr.c a1), .one (.lit (.int .i64 a2))] (.one (.lit (.int .i64 x2))), SCall Try.prog 45 [.one (cL 5 T_api_Ban.c T_api_Ban.d a0), .agg (T_api_Addr.c a1), .one (.lit (.int .i64 a2))] (.one (.lit (.int .i64 x3))), (x2 != x3) = false, SCall Try.prog 46 [.one (cL 5 T_api_Ban.c T_api_Ban.d a0), .one (.lit (.int .i64 a2))] (.tup [(false, (cLs 5 T_api_Ban.c T_api_Ban.d) x4.1), (false, (cI .i64) x4.2)]), SCall Try.prog 44 [.one (cL 5 T_api_Ban.c T_api_Ban.d x4.1), .agg (T_api_Addr.c a1), .one (.lit (.int .i64 a2))] (.one (.lit (.int .i64 x5))), (x5 == x2) = true, (x2 == (0 : Int)) = false, (decide (x2 > a2)) = false] (by kernel_rfl) rfl ⟨h1, (g_bans_Until_ok a0 a1 a2 x2 q3), (g_doormanref13_Until_ok a0 a1 a2 x3 q4), h5, (g_bans_Sweep_ok a0 a2 x4 q6), (g_bans_Until_ok x4.1 a1 a2 x5 q7), h8, h9, h11, trivial⟩
      · replace hf := Option.some.inj hf
        subst hf
        exact toEnd_good allOk 18 _ _ [⟨[], [], [], [], [], [], []⟩, ⟨[], [], [], [], [], [], []⟩, ⟨[(3, .r (.one (.lit (.int .i64 x2))) [])], [], [], [], [], [], []⟩, ⟨[(4, .r (.one (.lit (.int .i64 x3))) [])], [], [], [], [], [], []⟩, ⟨[(2, .r (.tup [(false, (cLs 5 T_api_Ban.c T_api_Ban.d) x4.1), (false, (cI .i64) x4.2)]) [])], [], [], [], [], [], []⟩, ⟨[(3, .r (.one (.lit (.int .i64 x5))) [])], [(6, false)], [], [], [], [], []⟩] [false, false] [] [] [] [(decide (((a0.length : Nat) : Int) > (60 : Int))) = false, SCall Try.prog 44 [.one (cL 5 T_api_Ban.c T_api_Ban.d a0), .agg (T_api_Addr.c a1), .one (.lit (.int .i64 a2))] (.one (.lit (.int .i64 x2))), SCall Try.prog 45 [.one (cL 5 T_api_Ban.c T_api_Ban.d a0), .agg (T_api_Addr.c a1), .one (.lit (.int .i64 a2))] (.one (.lit (.int .i64 x3))), (x2 != x3) = false, SCall Try.prog 46 [.one (cL 5 T_api_Ban.c T_api_Ban.d a0), .one (.lit (.int .i64 a2))] (.tup [(false, (cLs 5 T_api_Ban.c T_api_Ban.d) x4.1), (false, (cI .i64) x4.2)]), SCall Try.prog 44 [.one (cL 5 T_api_Ban.c T_api_Ban.d x4.1), .agg (T_api_Addr.c a1), .one (.lit (.int .i64 a2))] (.one (.lit (.int .i64 x5))), (x5 == x2) = false] (by kernel_rfl) rfl ⟨h1, (g_bans_Until_ok a0 a1 a2 x2 q3), (g_doormanref13_Until_ok a0 a1 a2 x3 q4), h5, (g_bans_Sweep_ok a0 a2 x4 q6), (g_bans_Until_ok x4.1 a1 a2 x5 q7), h8, trivial⟩

/-- doorman/doormanref12.Right -/
def g_doormanref12_Right (a0 : T_api_Ban) : Option Bool :=
  (g_doormanref07_Right a0.fNet).bind fun x1 =>
  bif x1 then
    bif (decide (a0.fUntil > (0 : Int))) then
      some (decide (a0.fUntil ≤ (1099511627776 : Int)))
    else
      some false
  else
    some false

theorem g_doormanref12_Right_ok (a0 : T_api_Ban) (r : Bool) (hf : g_doormanref12_Right a0 = some r) : SCall Try.prog 105 [.agg (T_api_Ban.c a0)] (.one (.lit (.bool r))) := by
  refine SCall.of Try.func105 rfl rfl rfl rfl fun S0 w0 => ?_
  unfold g_doormanref12_Right at hf
  obtain ⟨x1, q1, hf⟩ := bind_some' hf
  rcases br_some hf with ⟨h2, hf⟩ | ⟨h2, hf⟩
  · rcases br_some hf with ⟨h3, hf⟩ | ⟨h3, hf⟩
    · replace hf := Option.some.inj hf
      subst hf
      exact toEnd_good allOk 4 _ _ [⟨[], [], [], [], [], [], []⟩, ⟨[(2, .r (.one (.lit (.bool x1))) [])], [(3, true), (8, true)], [], [], [], [], []⟩] [] [] [] [] [SCall Try.prog 70 [.agg (T_api_Net.c a0.fNet)] (.one (.lit (.bool x1))), x1 = true, (decide (a0.fUntil > (0 : Int))) = true] (by kernel_rfl) rfl ⟨(g_doormanref07_Right_ok a0.fNet x1 q1), h2, h3, trivial⟩
    · replace hf := Option.some.inj hf
      subst hf
      exact toEnd_good allOk 4 _ _ [⟨[], [], [], [], [], [], []⟩, ⟨[(2, .r (.one (.lit (.bool x1))) [])], [(3, true), (8, false)], [], [], [], [], []⟩] [] [] [] [] [SCall Try.prog 70 [.agg (T_api_Net.c a0.fNet)] (.one (.lit (.bool x1))), x1 = true, (decide (a0.fUntil > (0 : Int))) = false] (by kernel_rfl) rfl ⟨(g_doormanref07_Right_ok a0.fNet x1 q1), h2, h3, trivial⟩
  · replace hf := Option.some.inj hf
    subst hf
    exact toEnd_good allOk 4 _ _ [⟨[], [], [], [], [], [], []⟩, ⟨[(2, .r (.one (.lit (.bool x1))) [])], [(3, false)], [], [], [], [], []⟩] [] [] [] [] [SCall Try.prog 70 [.agg (T_api_Net.c a0.fNet)] (.one (.lit (.bool x1))), x1 = false] (by kernel_rfl) rfl ⟨(g_doormanref07_Right_ok a0.fNet x1 q1), h2, trivial⟩

def g_doormanref13_Index_c0 (a0 : (List T_api_Ban))  : Nat → Int → T_api_Net → Option Int
  | 0, _, _ => none
  | fu + 1, v5, b3 =>
    bif (decide (v5 < ((a0.length : Nat) : Int))) then
      need (0 ≤ v5 ∧ v5 < ((a0.length : Nat) : Int)) <|
      bif (decide ((a0.getD v5.toNat T_api_Ban.d).fNet = b3)) then
        some v5
      else
        g_doormanref13_Index_c0 a0  fu (add64 v5 (1 : Int)) b3
    else
      some (-1 : Int)

theorem g_doormanref13_Index_c0_ok (S0 : Nat → Prop) (w0 : Start) (a0 : (List T_api_Ban))  : ∀ (fu : Nat) (v5 : Int) (b3 : T_api_Net) (r : Int), g_doormanref13_Index_c0 a0  fu v5 b3 = some r → Good Try.prog 20 S0 w0 (bodyPost Try.prog Try.f106 (Post S0 w0 (.one (.lit (.int .i64 r))))) (at_ [1, 0, 1, 0] (bodyOf Try.f106)) ⟨[(0, .one (cL 5 T_api_Ban.c T_api_Ban.d a0)), (3, .one (.ptr 3 0)), (5, .one (.lit (.int .i64 v5)))], [(3, .box [.lit (.bool b3.fAddr.fV6), .lit (.int .u64 b3.fAddr.fHi), .lit (.int .u64 b3.fAddr.fLo), .lit (.int .i64 b3.fBits)])]⟩ := by
  intro fu
  induction fu with
  | zero =>
    intro v5 b3 r hf
    simp [g_doormanref13_Index_c0] at hf
  | succ fu ih =>
    intro v5 b3 r hf
    unfold g_doormanref13_Index_c0 at hf
    rcases br_some hf with ⟨h1, hf⟩ | ⟨h1, hf⟩
    · obtain ⟨o2, hf⟩ := need_some hf
      rcases br_some hf with ⟨h3, hf⟩ | ⟨h3, hf⟩
      · replace hf := Option.some.inj hf
        subst hf
        exact toEnd_good allOk 13 _ _ [⟨[], [], [], [], [], [], []⟩, ⟨[(6, .r (.one (.lit (.bool (decide ((a0.getD v5.toNat T_api_Ban.d).fNet = b3))))) [])], [], [], [[], [], [0, 1], [2, 0, 1], [3, 2, 0, 1], [], [4, 3, 2, 0, 1, 5]], [], [], []⟩, ⟨[], [], [], [], [], [], []⟩] [true, true] [] [] [] [(decide (v5 < ((a0.length : Nat) : Int))) = true, 0 ≤ v5 ∧ v5 < ((a0.length : Nat) : Int), ∀ w, (do eqGuard .eql 27 (.tmp 16) (.tmp 17) (.agg #[.bool ((((a0.getD v5.toNat T_api_Ban.d).fNet).fAddr).fV6), .int .u64 ((((a0.getD v5.toNat T_api_Ban.d).fNet).fAddr).fHi), .int .u64 ((((a0.getD v5.toNat T_api_Ban.d).fNet).fAddr).fLo), .int .i64 (((a0.getD v5.toNat T_api_Ban.d).fNet).fBits)]) (.agg #[.bool b3.fAddr.fV6, .int .u64 b3.fAddr.fHi, .int .u64 b3.fAddr.fLo, .int .i64 b3.fBits]); binOp .eql 27 (.agg #[.bool ((((a0.getD v5.toNat T_api_Ban.d).fNet).fAddr).fV6), .int .u64 ((((a0.getD v5.toNat T_api_Ban.d).fNet).fAddr).fHi), .int .u64 ((((a0.getD v5.toNat T_api_Ban.d).fNet).fAddr).fLo), .int .i64 (((a0.getD v5.toNat T_api_Ban.d).fNet).fBits)]) (.agg #[.bool b3.fAddr.fV6, .int .u64 b3.fAddr.fHi, .int .u64 b3.fAddr.fLo, .int .i64 b3.fBits]) : Sem Value).run Try.prog w = .ok (.bool (decide ((a0.getD v5.toNat T_api_Ban.d).fNet = b3))) w, (decide ((a0.getD v5.toNat T_api_Ban.d).fNet = b3)) = true] (by kernel_rfl) rfl ⟨h1, o2, (eql_T_api_Net ((a0.getD v5.toNat T_api_Ban.d).fNet) b3 _ _), h3, trivial⟩
      · exact toK_good allOk Post.ends 15 _ _ _ _ [⟨[], [], [], [], [], [], []⟩, ⟨[(6, .r (.one (.lit (.bool (decide ((a0.getD v5.toNat T_api_Ban.d).fNet = b3))))) [])], [], [], [[], [], [0, 1], [2, 0, 1], [3, 2, 0, 1], [], [4, 3, 2, 0, 1, 5]], [], [], []⟩, ⟨[], [], [], [], [], [], []⟩] [true, false] ⟨[], [], [], [], [], [0, 3, 5], [3], []⟩ [(decide (v5 < ((a0.length : Nat) : Int))) = true, 0 ≤ v5 ∧ v5 < ((a0.length : Nat) : Int), ∀ w, (do eqGuard .eql 27 (.tmp 16) (.tmp 17) (.agg #[.bool ((((a0.getD v5.toNat T_api_Ban.d).fNet).fAddr).fV6), .int .u64 ((((a0.getD v5.toNat T_api_Ban.d).fNet).fAddr).fHi), .int .u64 ((((a0.getD v5.toNat T_api_Ban.d).fNet).fAddr).fLo), .int .i64 (((a0.getD v5.toNat T_api_Ban.d).fNet).fBits)]) (.agg #[.bool b3.fAddr.fV6, .int .u64 b3.fAddr.fHi, .int .u64 b3.fAddr.fLo, .int .i64 b3.fBits]); binOp .eql 27 (.agg #[.bool ((((a0.getD v5.toNat T_api_Ban.d).fNet).fAddr).fV6), .int .u64 ((((a0.getD v5.toNat T_api_Ban.d).fNet).fAddr).fHi), .int .u64 ((((a0.getD v5.toNat T_api_Ban.d).fNet).fAddr).fLo), .int .i64 (((a0.getD v5.toNat T_api_Ban.d).fNet).fBits)]) (.agg #[.bool b3.fAddr.fV6, .int .u64 b3.fAddr.fHi, .int .u64 b3.fAddr.fLo, .int .i64 b3.fBits]) : Sem Value).run Try.prog w = .ok (.bool (decide ((a0.getD v5.toNat T_api_Ban.d).fNet = b3))) w, (decide ((a0.getD v5.toNat T_api_Ban.d).fNet = b3)) = false] (by kernel_rfl) ⟨h1, o2, (eql_T_api_Net ((a0.getD v5.toNat T_api_Ban.d).fNet) b3 _ _), h3, trivial⟩ (ih (add64 v5 (1 : Int)) b3 r hf)
    · replace hf := Option.some.inj hf
      subst hf
      exact toEnd_good allOk 8 _ _ [⟨[], [], [], [], [], [], []⟩, ⟨[], [], [], [], [], [], []⟩] [false] [] [] [] [(decide (v5 < ((a0.length : Nat) : Int))) = false] (by kernel_rfl) rfl ⟨h1, trivial⟩

/-- doorman/doormanref13.Index -/
def g_doormanref13_Index (a0 : (List T_api_Ban)) (a1 : T_api_Net) : Option Int :=
  g_doormanref13_Index_c0 a0  ((((a0.length : Nat) : Int) - (0 : Int)).toNat + 2) (0 : Int) a1

theorem g_doormanref13_Index_ok (a0 : (List T_api_Ban)) (a1 : T_api_Net) (r : Int) (hf : g_doormanref13_Index a0 a1 = some r) : SCall Try.prog 106 [.one (cL 5 T_api_Ban.c T_api_Ban.d a0), .agg (T_api_Net.c a1)] (.one (.lit (.int .i64 r))) := by
  refine SCall.of Try.func106 rfl rfl rfl rfl fun S0 w0 => ?_
  unfold g_doormanref13_Index at hf
  exact toK_good allOk Post.ends 6 _ _ _ _ [⟨[], [], [], [], [], [], []⟩, ⟨[], [], [], [], [], [], []⟩] [] ⟨[], [], [], [], [], [0, 3, 5], [3], []⟩ [] (by kernel_rfl) trivial (g_doormanref13_Index_c0_ok S0 w0 a0   ((((a0.length : Nat) : Int) - (0 : Int)).toNat + 2) (0 : Int) a1 r hf)

def g_doormanref06_Compare_c1   (v5 : Bool) : Option Int :=
  bif v5 then
    some (-1 : Int)
  else
    some (1 : Int)

theorem g_doormanref06_Compare_c1_ok (S0 : Nat → Prop) (w0 : Start)   (v5 : Bool) (r : Int) (hf : g_doormanref06_Compare_c1   v5 = some r) : Good Try.prog 33 S0 w0 (bodyPost Try.prog Try.f125 (Post S0 w0 (.one (.lit (.int .i64 r))))) (at_ [1, 1, 1, 1, 1] (bodyOf Try.f125)) ⟨[(5, .one (.lit (.bool v5)))], []⟩ := by
  unfold g_doormanref06_Compare_c1 at hf
  rcases br_some hf with ⟨h4, hf⟩ | ⟨h4, hf⟩
  · replace hf := Option.some.inj hf
    subst hf
    exact toEnd_good allOk 6 _ _ [⟨[], [], [], [], [], [], []⟩, ⟨[], [], [], [], [], [], []⟩] [true] [] [] [] [v5 = true] (by kernel_rfl) rfl ⟨h4, trivial⟩
  · replace hf := Option.some.inj hf
    subst hf
    exact toEnd_good allOk 7 _ _ [⟨[], [], [], [], [], [], []⟩, ⟨[], [], [], [], [], [], []⟩] [false] [] [] [] [v5 = false] (by kernel_rfl) rfl ⟨h4, trivial⟩

def g_doormanref06_Compare_c0   (v5 : Bool) (b2 : T_api_Addr) (b3 : T_api_Addr) : Option Int :=
  bif (!(b2.fV6 == b3.fV6)) then
    g_doormanref06_Compare_c1   (!b2.fV6)
  else
    g_doormanref06_Compare_c1   v5

theorem g_doormanref06_Compare_c0_ok (S0 : Nat → Prop) (w0 : Start)   (v5 : Bool) (b2 : T_api_Addr) (b3 : T_api_Addr) (r : Int) (hf : g_doormanref06_Compare_c0   v5 b2 b3 = some r) : Good Try.prog 33 S0 w0 (bodyPost Try.prog Try.f125 (Post S0 w0 (.one (.lit (.int .i64 r))))) (at_ [1, 1, 1, 1] (bodyOf Try.f125)) ⟨[(2, .one (.ptr 2 0)), (3, .one (.ptr 3 0)), (5, .one (.lit (.bool v5)))], [(2, .box [.lit (.bool b2.fV6), .lit (.int .u64 b2.fHi), .lit (.int .u64 b2.fLo)]), (3, .box [.lit (.bool b3.fV6), .lit (.int .u64 b3.fHi), .lit (.int .u64 b3.fLo)])]⟩ := by
  unfold g_doormanref06_Compare_c0 at hf
  rcases br_some hf with ⟨h3, hf⟩ | ⟨h3, hf⟩
  · exact toK_good allOk Post.ends 5 _ _ _ _ [⟨[], [], [], [], [], [], []⟩, ⟨[], [], [], [], [], [], []⟩] [true] ⟨[], [], [], [], [], [5], [], []⟩ [(!(b2.fV6 == b3.fV6)) = true] (by kernel_rfl) ⟨h3, trivial⟩ (g_doormanref06_Compare_c1_ok S0 w0    (!b2.fV6) r hf)
  · exact toK_good allOk Post.ends 5 _ _ _ _ [⟨[], [], [], [], [], [], []⟩] [false] ⟨[], [], [], [], [], [5], [], []⟩ [(!(b2.fV6 == b3.fV6)) = false] (by kernel_rfl) ⟨h3, trivial⟩ (g_doormanref06_Compare_c1_ok S0 w0    v5 r hf)

/-- doorman/doormanref06.Compare -/
def g_doormanref06_Compare (a0 : T_api_Addr) (a1 : T_api_Addr) : Option Int :=
  bif (decide (a0 = a1)) then
    some (0 : Int)
  else
    bif (a0.fHi != a1.fHi) then
      g_doormanref06_Compare_c0   (decide (a0.fHi < a1.fHi)) a0 a1
    else
      g_doormanref06_Compare_c0   (decide (a0.fLo < a1.fLo)) a0 a1

theorem g_doormanref06_Compare_ok (a0 : T_api_Addr) (a1 : T_api_Addr) (r : Int) (hf : g_doormanref06_Compare a0 a1 = some r) : SCall Try.prog 125 [.agg (T_api_Addr.c a0), .agg (T_api_Addr.c a1)] (.one (.lit (.int .i64 r))) := by
  refine SCall.of Try.func125 rfl rfl rfl rfl fun S0 w0 => ?_
  unfold g_doormanref06_Compare at hf
  rcases br_some hf with ⟨h1, hf⟩ | ⟨h1, hf⟩
  · replace hf := Option.some.inj hf
    subst hf
    exact toEnd_good allOk 8 _ _ [⟨[], [], [], [], [], [], []⟩, ⟨[(2, .r (.one (.lit (.bool (decide (a0 = a1))))) [])], [], [], [], [], [], []⟩, ⟨[], [], [], [], [], [], []⟩] [true] [] [] [] [∀ w, (do eqGuard .eql 25 (.tmp 6) (.tmp 7) (.agg #[.bool a0.fV6, .int .u64 a0.fHi, .int .u64 a0.fLo]) (.agg #[.bool a1.fV6, .int .u64 a1.fHi, .int .u64 a1.fLo]); binOp .eql 25 (.agg #[.bool a0.fV6, .int .u64 a0.fHi, .int .u64 a0.fLo]) (.agg #[.bool a1.fV6, .int .u64 a1.fHi, .int .u64 a1.fLo]) : Sem Value).run Try.prog w = .ok (.bool (decide (a0 = a1))) w, (decide (a0 = a1)) = true] (by kernel_rfl) rfl ⟨(eql_T_api_Addr a0 a1 _ _), h1, trivial⟩
  · rcases br_some hf with ⟨h2, hf⟩ | ⟨h2, hf⟩
    · exact toK_good allOk Post.ends 14 _ _ _ _ [⟨[], [], [], [], [], [], []⟩, ⟨[(2, .r (.one (.lit (.bool (decide (a0 = a1))))) [])], [], [], [], [], [], []⟩, ⟨[], [], [], [], [], [], []⟩, ⟨[], [], [], [], [], [], []⟩, ⟨[], [], [], [], [], [], []⟩] [false, true] ⟨[], [], [], [], [], [2, 3, 5], [2, 3], []⟩ [∀ w, (do eqGuard .eql 25 (.tmp 6) (.tmp 7) (.agg #[.bool a0.fV6, .int .u64 a0.fHi, .int .u64 a0.fLo]) (.agg #[.bool a1.fV6, .int .u64 a1.fHi, .int .u64 a1.fLo]); binOp .eql 25 (.agg #[.bool a0.fV6, .int .u64 a0.fHi, .int .u64 a0.fLo]) (.agg #[.bool a1.fV6, .int .u64 a1.fHi, .int .u64 a1.fLo]) : Sem Value).run Try.prog w = .ok (.bool (decide (a0 = a1))) w, (decide (a0 = a1)) = false, (a0.fHi != a1.fHi) = true] (by kernel_rfl) ⟨(eql_T_api_Addr a0 a1 _ _), h1, h2, trivial⟩ (g_doormanref06_Compare_c0_ok S0 w0    (decide (a0.fHi < a1.fHi)) a0 a1 r hf)
    · exact toK_good allOk Post.ends 14 _ _ _ _ [⟨[], [], [], [], [], [], []⟩, ⟨[(2, .r (.one (.lit (.bool (decide (a0 = a1))))) [])], [], [], [], [], [], []⟩, ⟨[], [], [], [], [], [], []⟩, ⟨[], [], [], [], [], [], []⟩] [false, false] ⟨[], [], [], [], [], [2, 3, 5], [2, 3], []⟩ [∀ w, (do eqGuard .eql 25 (.tmp 6) (.tmp 7) (.agg #[.bool a0.fV6, .int .u64 a0.fHi, .int .u64 a0.fLo]) (.agg #[.bool a1.fV6, .int .u64 a1.fHi, .int .u64 a1.fLo]); binOp .eql 25 (.agg #[.bool a0.fV6, .int .u64 a0.fHi, .int .u64 a0.fLo]) (.agg #[.bool a1.fV6, .int .u64 a1.fHi, .int .u64 a1.fLo]) : Sem Value).run Try.prog w = .ok (.bool (decide (a0 = a1))) w, (decide (a0 = a1)) = false, (a0.fHi != a1.fHi) = false] (by kernel_rfl) ⟨(eql_T_api_Addr a0 a1 _ _), h1, h2, trivial⟩ (g_doormanref06_Compare_c0_ok S0 w0    (decide (a0.fLo < a1.fLo)) a0 a1 r hf)

/-- doorman/doormanref07.Compare -/
def g_doormanref07_Compare (a0 : T_api_Net) (a1 : T_api_Net) : Option Int :=
  (g_doormanref06_Compare a0.fAddr a1.fAddr).bind fun x1 =>
  bif (x1 != (0 : Int)) then
    some x1
  else
    bif (a0.fBits == a1.fBits) then
      some x1
    else
      bif (decide (a0.fBits < a1.fBits)) then
        some (-1 : Int)
      else
        some (1 : Int)

theorem g_doormanref07_Compare_ok (a0 : T_api_Net) (a1 : T_api_Net) (r : Int) (hf : g_doormanref07_Compare a0 a1 = some r) : SCall Try.prog 71 [.agg (T_api_Net.c a0), .agg (T_api_Net.c a1)] (.one (.lit (.int .i64 r))) := by
  refine SCall.of Try.func71 rfl rfl rfl rfl fun S0 w0 => ?_
  unfold g_doormanref07_Compare at hf
  obtain ⟨x1, q1, hf⟩ := bind_some' hf
  rcases br_some hf with ⟨h2, hf⟩ | ⟨h2, hf⟩
  · replace hf := Option.some.inj hf
    subst hf
    exact toEnd_good allOk 10 _ _ [⟨[], [], [], [], [], [], []⟩, ⟨[(4, .r (.one (.lit (.int .i64 x1))) [])], [], [], [], [], [], []⟩, ⟨[], [(2, true)], [], [], [], [], []⟩, ⟨[], [], [], [], [], [], []⟩] [true] [] [] [] [SCall Try.prog 125 [.agg (T_api_Addr.c a0.fAddr), .agg (T_api_Addr.c a1.fAddr)] (.one (.lit (.int .i64 x1))), (x1 != (0 : Int)) = true, true = true] (by kernel_rfl) rfl ⟨(g_doormanref06_Compare_ok a0.fAddr a1.fAddr x1 q1), h2, rfl, trivial⟩
  · rcases br_some hf with ⟨h3, hf⟩ | ⟨h3, hf⟩
    · replace hf := Option.some.inj hf
      subst hf
      exact toEnd_good allOk 10 _ _ [⟨[], [], [], [], [], [], []⟩, ⟨[(4, .r (.one (.lit (.int .i64 x1))) [])], [], [], [], [], [], []⟩, ⟨[], [(2, false)], [], [], [], [], []⟩, ⟨[], [], [], [], [], [], []⟩] [true] [] [] [] [SCall Try.prog 125 [.agg (T_api_Addr.c a0.fAddr), .agg (T_api_Addr.c a1.fAddr)] (.one (.lit (.int .i64 x1))), (x1 != (0 : Int)) = false, (a0.fBits == a1.fBits) = true] (by kernel_rfl) rfl ⟨(g_doormanref06_Compare_ok a0.fAddr a1.fAddr x1 q1), h2, h3, trivial⟩
    · rcases br_some hf with ⟨h4, hf⟩ | ⟨h4, hf⟩
      · replace hf := Option.some.inj hf
        subst hf
        exact toEnd_good allOk 15 _ _ [⟨[], [], [], [], [], [], []⟩, ⟨[(4, .r (.one (.lit (.int .i64 x1))) [])], [], [], [], [], [], []⟩, ⟨[], [(2, false)], [], [], [], [], []⟩, ⟨[], [], [], [], [], [], []⟩, ⟨[], [], [], [], [], [], []⟩] [false, true] [] [] [] [SCall Try.prog 125 [.agg (T_api_Addr.c a0.fAddr), .agg (T_api_Addr.c a1.fAddr)] (.one (.lit (.int .i64 x1))), (x1 != (0 : Int)) = false, (a0.fBits == a1.fBits) = false, (decide (a0.fBits < a1.fBits)) = true] (by kernel_rfl) rfl ⟨(g_doormanref06_Compare_ok a0.fAddr a1.fAddr x1 q1), h2, h3, h4, trivial⟩
      · replace hf := Option.some.inj hf
        subst hf
        exact toEnd_good allOk 16 _ _ [⟨[], [], [], [], [], [], []⟩, ⟨[(4, .r (.one (.lit (.int .i64 x1))) [])], [], [], [], [], [], []⟩, ⟨[], [(2, false)], [], [], [], [], []⟩, ⟨[], [], [], [], [], [], []⟩, ⟨[], [], [], [], [], [], []⟩] [false, false] [] [] [] [SCall Try.prog 125 [.agg (T_api_Addr.c a0.fAddr), .agg (T_api_Addr.c a1.fAddr)] (.one (.lit (.int .i64 x1))), (x1 != (0 : Int)) = false, (a0.fBits == a1.fBits) = false, (decide (a0.fBits < a1.fBits)) = false] (by kernel_rfl) rfl ⟨(g_doormanref06_Compare_ok a0.fAddr a1.fAddr x1 q1), h2, h3, h4, trivial⟩

def g_doormanref13_Add_c0 (a0 : (List T_api_Ban))  : Nat → Int → T_api_Ban → Option ((List T_api_Ban) × Int)
  | 0, _, _ => none
  | fu + 1, v10, b4 =>
    bif (decide (v10 < ((a0.length : Nat) : Int))) then
      need (0 ≤ v10 ∧ v10 < ((a0.length : Nat) : Int)) <|
      (g_doormanref07_Compare ((a0.getD v10.toNat T_api_Ban.d).fNet) b4.fNet).bind fun x3 =>
      bif (decide (x3 ≤ (0 : Int))) then
        g_doormanref13_Add_c0 a0  fu (add64 v10 (1 : Int)) b4
      else
        need (0 ≤ v10 ∧ v10 ≤ ((a0.length : Nat) : Int)) <|
        need ((([] : List T_api_Ban) ++ (a0.take v10.toNat)).length * 40 ≤ 140737488355328 ∧ (([] : List T_api_Ban) ++ (a0.take v10.toNat)).length ≤ maxLen) <|
        need (((([] : List T_api_Ban) ++ (a0.take v10.toNat)) ++ ([b4] : List T_api_Ban)).length * 40 ≤ 140737488355328 ∧ ((([] : List T_api_Ban) ++ (a0.take v10.toNat)) ++ ([b4] : List T_api_Ban)).length ≤ maxLen) <|
        need ((((([] : List T_api_Ban) ++ (a0.take v10.toNat)) ++ ([b4] : List T_api_Ban)) ++ (a0.drop v10.toNat)).length * 40 ≤ 140737488355328 ∧ (((([] : List T_api_Ban) ++ (a0.take v10.toNat)) ++ ([b4] : List T_api_Ban)) ++ (a0.drop v10.toNat)).length ≤ maxLen) <|
        some ((((([] : List T_api_Ban) ++ (a0.take v10.toNat)) ++ ([b4] : List T_api_Ban)) ++ (a0.drop v10.toNat)), (0 : Int))
    else
      need (0 ≤ v10 ∧ v10 ≤ ((a0.length : Nat) : Int)) <|
      need ((([] : List T_api_Ban) ++ (a0.take v10.toNat)).length * 40 ≤ 140737488355328 ∧ (([] : List T_api_Ban) ++ (a0.take v10.toNat)).length ≤ maxLen) <|
      need (((([] : List T_api_Ban) ++ (a0.take v10.toNat)) ++ ([b4] : List T_api_Ban)).length * 40 ≤ 140737488355328 ∧ ((([] : List T_api_Ban) ++ (a0.take v10.toNat)) ++ ([b4] : List T_api_Ban)).length ≤ maxLen) <|
      need ((((([] : List T_api_Ban) ++ (a0.take v10.toNat)) ++ ([b4] : List T_api_Ban)) ++ (a0.drop v10.toNat)).length * 40 ≤ 140737488355328 ∧ (((([] : List T_api_Ban) ++ (a0.take v10.toNat)) ++ ([b4] : List T_api_Ban)) ++ (a0.drop v10.toNat)).length ≤ maxLen) <|
      some ((((([] : List T_api_Ban) ++ (a0.take v10.toNat)) ++ ([b4] : List T_api_Ban)) ++ (a0.drop v10.toNat)), (0 : Int))

theorem g_doormanref13_Add_c0_ok (S0 : Nat → Prop) (w0 : Start) (a0 : (List T_api_Ban))  : ∀ (fu : Nat) (v10 : Int) (b4 : T_api_Ban) (r : ((List T_api_Ban) × Int)), g_doormanref13_Add_c0 a0  fu v10 b4 = some r → Good Try.prog 73 S0 w0 (bodyPost Try.prog Try.f48 (Post S0 w0 (.tup [(false, (cLs 5 T_api_Ban.c T_api_Ban.d) r.1), (false, (cI .i64) r.2)]))) (at_ [1, 1, 1, 1, 1, 1, 0, 0] (bodyOf Try.f48)) ⟨[(0, .one (cL 5 T_api_Ban.c T_api_Ban.d a0)), (4, .one (.ptr 4 0)), (10, .one (.lit (.int .i64 v10)))], [(4, .box [.lit (.bool b4.fNet.fAddr.fV6), .lit (.int .u64 b4.fNet.fAddr.fHi), .lit (.int .u64 b4.fNet.fAddr.fLo), .lit (.int .i64 b4.fNet.fBits), .lit (.int .i64 b4.fUntil)])]⟩ := by
  intro fu
  induction fu with
  | zero =>
    intro v10 b4 r hf
    simp [g_doormanref13_Add_c0] at hf
  | succ fu ih =>
    intro v10 b4 r hf
    unfold g_doormanref13_Add_c0 at hf
    rcases br_some hf with ⟨h9, hf⟩ | ⟨h9, hf⟩
    · obtain ⟨o10, hf⟩ := need_some hf
      obtain ⟨x3, q11, hf⟩ := bind_some' hf
      rcases br_some hf with ⟨h12, hf⟩ | ⟨h12, hf⟩
      · exact toK_good allOk Post.ends 10 _ _ _ _ [⟨[(12, .r (.one (.lit (.int .i64 x3))) [])], [(4, true)], [], [[], [], [1], [0, 2, 1], [3, 0, 2, 1], [4, 3, 0, 2, 1], [4, 3, 0, 2, 1], [5, 4, 3, 0, 2, 1, 6], [7, 5, 4, 3, 0, 2, 1, 6], [8, 7, 5, 4, 3, 0, 2, 1, 6], [4, 3, 0, 2, 1], [10, 4, 3, 0, 2, 1], [9, 8, 7, 5, 4, 3, 0, 2, 1, 6, 11, 10], [12, 9, 8, 7, 5, 4, 3, 0, 2, 1, 6, 11, 10], [4, 3, 0, 2, 1, 13, 12, 9, 8, 7, 5, 6, 11, 10]], [], [], []⟩, ⟨[], [], [], [], [], [], []⟩] [true] ⟨[], [], [], [], [], [0, 4, 10], [4], []⟩ [(decide (v10 < ((a0.length : Nat) : Int))) = true, 0 ≤ v10 ∧ v10 < ((a0.length : Nat) : Int), SCall Try.prog 71 [.agg (T_api_Net.c ((a0.getD v10.toNat T_api_Ban.d).fNet)), .agg (T_api_Net.c b4.fNet)] (.one (.lit (.int .i64 x3))), (decide (x3 ≤ (0 : Int))) = true] (by kernel_rfl) ⟨h9, o10, (g_doormanref07_Compare_ok ((a0.getD v10.toNat T_api_Ban.d).fNet) b4.fNet x3 q11), h12, trivial⟩ (ih (add64 v10 (1 : Int)) b4 r hf)
      · obtain ⟨o13, hf⟩ := need_some hf
        obtain ⟨o14, hf⟩ := need_some hf
        obtain ⟨o15, hf⟩ := need_some hf
        obtain ⟨o16, hf⟩ := need_some hf
        replace hf := Option.some.inj hf
        subst hf
        exact toEnd_good allOk 10 _ _ [⟨[(12, .r (.one (.lit (.int .i64 x3))) [])], [(4, true)], [], [[], [], [1], [0, 2, 1], [3, 0, 2, 1], [4, 3, 0, 2, 1], [4, 3, 0, 2, 1], [5, 4, 3, 0, 2, 1, 6], [7, 5, 4, 3, 0, 2, 1, 6], [8, 7, 5, 4, 3, 0, 2, 1, 6], [4, 3, 0, 2, 1], [10, 4, 3, 0, 2, 1], [9, 8, 7, 5, 4, 3, 0, 2, 1, 6, 11, 10], [12, 9, 8, 7, 5, 4, 3, 0, 2, 1, 6, 11, 10], [4, 3, 0, 2, 1, 13, 12, 9, 8, 7, 5, 6, 11, 10]], [], [], []⟩, ⟨[(0, .c ([] : List T_api_Ban).length (rowsOf T_api_Ban.c T_api_Ban.d ([] : List T_api_Ban))), (4, .c ((([] : List T_api_Ban) ++ (a0.take v10.toNat)).length) (rowsOf T_api_Ban.c T_api_Ban.d (([] : List T_api_Ban) ++ (a0.take v10.toNat)))), (7, .c (((([] : List T_api_Ban) ++ (a0.take v10.toNat)) ++ ([b4] : List T_api_Ban)).length) (rowsOf T_api_Ban.c T_api_Ban.d ((([] : List T_api_Ban) ++ (a0.take v10.toNat)) ++ ([b4] : List T_api_Ban))))], [], [], [[], [], [], [1, 2], [0, 3, 1, 2], [], [5], [4, 0, 3, 1, 2, 6, 5], [7, 4, 0, 3, 1, 2, 6, 5]], [], [(3, ((a0.take v10.toNat).length, rowsOf T_api_Ban.c T_api_Ban.d (a0.take v10.toNat))), (6, (([b4] : List T_api_Ban).length, rowsOf T_api_Ban.c T_api_Ban.d ([b4] : List T_api_Ban)))], []⟩, ⟨[(4, .c ((((([] : List T_api_Ban) ++ (a0.take v10.toNat)) ++ ([b4] : List T_api_Ban)) ++ (a0.drop v10.toNat)).length) (rowsOf T_api_Ban.c T_api_Ban.d (((([] : List T_api_Ban) ++ (a0.take v10.toNat)) ++ ([b4] : List T_api_Ban)) ++ (a0.drop v10.toNat))))], [], [], [], [], [(3, ((a0.drop v10.toNat).length, rowsOf T_api_Ban.c T_api_Ban.d (a0.drop v10.toNat)))], []⟩] [false] [72] [] [] [(decide (v10 < ((a0.length : Nat) : Int))) = true, 0 ≤ v10 ∧ v10 < ((a0.length : Nat) : Int), SCall Try.prog 71 [.agg (T_api_Net.c ((a0.getD v10.toNat T_api_Ban.d).fNet)), .agg (T_api_Net.c b4.fNet)] (.one (.lit (.int .i64 x3))), (decide (x3 ≤ (0 : Int))) = false, ([] : List T_api_Ban).length = 0, ∀ i j, i < 0 → j < 5 → rowsOf T_api_Ban.c T_api_Ban.d ([] : List T_api_Ban) i j = (([] : List T_api_Ban).flatMap T_api_Ban.c).getD (i * 5 + j) .junk, (a0.take v10.toNat).length = v10.toNat ∧ ∀ i j, i < v10.toNat → j < 5 → rowsOf T_api_Ban.c T_api_Ban.d (a0.take v10.toNat) i j = rowsOf T_api_Ban.c T_api_Ban.d a0 i j, 0 ≤ v10 ∧ v10 ≤ ((a0.length : Nat) : Int), Ext 5 (([] : List T_api_Ban).length) ((a0.take v10.toNat).length) (rowsOf T_api_Ban.c T_api_Ban.d ([] : List T_api_Ban)) (rowsOf T_api_Ban.c T_api_Ban.d (a0.take v10.toNat)) ((([] : List T_api_Ban) ++ (a0.take v10.toNat)).length) (rowsOf T_api_Ban.c T_api_Ban.d (([] : List T_api_Ban) ++ (a0.take v10.toNat))), (([] : List T_api_Ban) ++ (a0.take v10.toNat)).length * 40 ≤ 140737488355328, (([] : List T_api_Ban) ++ (a0.take v10.toNat)).length ≤ maxLen, ([b4] : List T_api_Ban).length = 1 ∧ ∀ i j, i < 1 → j < 5 → rowsOf T_api_Ban.c T_api_Ban.d ([b4] : List T_api_Ban) i j = (([b4] : List T_api_Ban).flatMap T_api_Ban.c).getD (i * 5 + j) .junk, Ext 5 ((([] : List T_api_Ban) ++ (a0.take v10.toNat)).length) (([b4] : List T_api_Ban).length) (rowsOf T_api_Ban.c T_api_Ban.d (([] : List T_api_Ban) ++ (a0.take v10.toNat))) (rowsOf T_api_Ban.c T_api_Ban.d ([b4] : List T_api_Ban)) (((([] : List T_api_Ban) ++ (a0.take v10.toNat)) ++ ([b4] : List T_api_Ban)).length) (rowsOf T_api_Ban.c T_api_Ban.d ((([] : List T_api_Ban) ++ (a0.take v10.toNat)) ++ ([b4] : List T_api_Ban))), ((([] : List T_api_Ban) ++ (a0.take v10.toNat)) ++ ([b4] : List T_api_Ban)).length * 40 ≤ 140737488355328, ((([] : List T_api_Ban) ++ (a0.take v10.toNat)) ++ ([b4] : List T_api_Ban)).length ≤ maxLen, (a0.drop v10.toNat).length = a0.length - v10.toNat ∧ ∀ i j, i < a0.length - v10.toNat → j < 5 → rowsOf T_api_Ban.c T_api_Ban.d (a0.drop v10.toNat) i j = rowsOf T_api_Ban.c T_api_Ban.d a0 (v10.toNat + i) j, 0 ≤ v10 ∧ v10 ≤ ((a0.length : Nat) : Int), Ext 5 (((([] : List T_api_Ban) ++ (a0.take v10.toNat)) ++ ([b4] : List T_api_Ban)).length) ((a0.drop v10.toNat).length) (rowsOf T_api_Ban.c T_api_Ban.d ((([] : List T_api_Ban) ++ (a0.take v10.toNat)) ++ ([b4] : List T_api_Ban))) (rowsOf T_api_Ban.c T_api_Ban.d (a0.drop v10.toNat)) ((((([] : List T_api_Ban) ++ (a0.take v10.toNat)) ++ ([b4] : List T_api_Ban)) ++ (a0.drop v10.toNat)).length) (rowsOf T_api_Ban.c T_api_Ban.d (((([] : List T_api_Ban) ++ (a0.take v10.toNat)) ++ ([b4] : List T_api_Ban)) ++ (a0.drop v10.toNat))), (((([] : List T_api_Ban) ++ (a0.take v10.toNat)) ++ ([b4] : List T_api_Ban)) ++ (a0.drop v10.toNat)).length * 40 ≤ 140737488355328, (((([] : List T_api_Ban) ++ (a0.take v10.toNat)) ++ ([b4] : List T_api_Ban)) ++ (a0.drop v10.toNat)).length ≤ maxLen] (by kernel_rfl) rfl ⟨h9, o10, (g_doormanref07_Compare_ok ((a0.getD v10.toNat T_api_Ban.d).fNet) b4.fNet x3 q11), h12, rfl, (fun i j hi hj => rows_flat (sz := 5) (e := T_api_Ban.c) (d := T_api_Ban.d) (fun _ => rfl) ([] : List T_api_Ban) i j hi hj), (piece_take _ _ o13), o13, (ext_app _ _), o14.1, o14.2, ⟨rfl, fun i j hi hj => rows_flat (sz := 5) (e := T_api_Ban.c) (d := T_api_Ban.d) (fun _ => rfl) ([b4] : List T_api_Ban) i j hi hj⟩, (ext_app _ _), o15.1, o15.2, (piece_drop _ _), o13, (ext_app _ _), o16.1, o16.2, trivial⟩
    · obtain ⟨o17, hf⟩ := need_some hf
      obtain ⟨o18, hf⟩ := need_some hf
      obtain ⟨o19, hf⟩ := need_some hf
      obtain ⟨o20, hf⟩ := need_some hf
      replace hf := Option.some.inj hf
      subst hf
      exact toEnd_good allOk 10 _ _ [⟨[], [(4, false)], [], [[], [], [1], [0, 2, 1], [3, 0, 2, 1], [4, 3, 0, 2, 1], [4, 3, 0, 2, 1], [5, 4, 3, 0, 2, 1, 6], [7, 5, 4, 3, 0, 2, 1, 6], [8, 7, 5, 4, 3, 0, 2, 1, 6], [4, 3, 0, 2, 1], [10, 4, 3, 0, 2, 1], [9, 8, 7, 5, 4, 3, 0, 2, 1, 6, 11, 10], [12, 9, 8, 7, 5, 4, 3, 0, 2, 1, 6, 11, 10], [4, 3, 0, 2, 1, 13, 12, 9, 8, 7, 5, 6, 11, 10]], [], [], []⟩, ⟨[(0, .c ([] : List T_api_Ban).length (rowsOf T_api_Ban.c T_api_Ban.d ([] : List T_api_Ban))), (4, .c ((([] : List T_api_Ban) ++ (a0.take v10.toNat)).length) (rowsOf T_api_Ban.c T_api_Ban.d (([] : List T_api_Ban) ++ (a0.take v10.toNat)))), (7, .c (((([] : List T_api_Ban) ++ (a0.take v10.toNat)) ++ ([b4] : List T_api_Ban)).length) (rowsOf T_api_Ban.c T_api_Ban.d ((([] : List T_api_Ban) ++ (a0.take v10.toNat)) ++ ([b4] : List T_api_Ban))))], [], [], [[], [], [], [1, 2], [0, 3, 1, 2], [], [5], [4, 0, 3, 1, 2, 6, 5], [7, 4, 0, 3, 1, 2, 6, 5]], [], [(3, ((a0.take v10.toNat).length, rowsOf T_api_Ban.c T_api_Ban.d (a0.take v10.toNat))), (6, (([b4] : List T_api_Ban).length, rowsOf T_api_Ban.c T_api_Ban.d ([b4] : List T_api_Ban)))], []⟩, ⟨[(4, .c ((((([] : List T_api_Ban) ++ (a0.take v10.toNat)) ++ ([b4] : List T_api_Ban)) ++ (a0.drop v10.toNat)).length) (rowsOf T_api_Ban.c T_api_Ban.d (((([] : List T_api_Ban) ++ (a0.take v10.toNat)) ++ ([b4] : List T_api_Ban)) ++ (a0.drop v10.toNat))))], [], [], [], [], [(3, ((a0.drop v10.toNat).length, rowsOf T_api_Ban.c T_api_Ban.d (a0.drop v10.toNat)))], []⟩] [false] [72] [] [] [(decide (v10 < ((a0.length : Nat) : Int))) = false, false = false, ([] : List T_api_Ban).length = 0, ∀ i j, i < 0 → j < 5 → rowsOf T_api_Ban.c T_api_Ban.d ([] : List T_api_Ban) i j = (([] : List T_api_Ban).flatMap T_api_Ban.c).getD (i * 5 + j) .junk, (a0.take v10.toNat).length = v10.toNat ∧ ∀ i j, i < v10.toNat → j < 5 → rowsOf T_api_Ban.c T_api_Ban.d (a0.take v10.toNat) i j = rowsOf T_api_Ban.c T_api_Ban.d a0 i j, 0 ≤ v10 ∧ v10 ≤ ((a0.length : Nat) : Int), Ext 5 (([] : List T_api_Ban).length) ((a0.take v10.toNat).length) (rowsOf T_api_Ban.c T_api_Ban.d ([] : List T_api_Ban)) (rowsOf T_api_Ban.c T_api_Ban.d (a0.take v10.toNat)) ((([] : List T_api_Ban) ++ (a0.take v10.toNat)).length) (rowsOf T_api_Ban.c T_api_Ban.d (([] : List T_api_Ban) ++ (a0.take v10.toNat))), (([] : List T_api_Ban) ++ (a0.take v10.toNat)).length * 40 ≤ 140737488355328, (([] : List T_api_Ban) ++ (a0.take v10.toNat)).length ≤ maxLen, ([b4] : List T_api_Ban).length = 1 ∧ ∀ i j, i < 1 → j < 5 → rowsOf T_api_Ban.c T_api_Ban.d ([b4] : List T_api_Ban) i j = (([b4] : List T_api_Ban).flatMap T_api_Ban.c).getD (i * 5 + j) .junk, Ext 5 ((([] : List T_api_Ban) ++ (a0.take v10.toNat)).length) (([b4] : List T_api_Ban).length) (rowsOf T_api_Ban.c T_api_Ban.d (([] : List T_api_Ban) ++ (a0.take v10.toNat))) (rowsOf T_api_Ban.c T_api_Ban.d ([b4] : List T_api_Ban)) (((([] : List T_api_Ban) ++ (a0.take v10.toNat)) ++ ([b4] : List T_api_Ban)).length) (rowsOf T_api_Ban.c T_api_Ban.d ((([] : List T_api_Ban) ++ (a0.take v10.toNat)) ++ ([b4] : List T_api_Ban))), ((([] : List T_api_Ban) ++ (a0.take v10.toNat)) ++ ([b4] : List T_api_Ban)).length * 40 ≤ 140737488355328, ((([] : List T_api_Ban) ++ (a0.take v10.toNat)) ++ ([b4] : List T_api_Ban)).length ≤ maxLen, (a0.drop v10.toNat).length = a0.length - v10.toNat ∧ ∀ i j, i < a0.length - v10.toNat → j < 5 → rowsOf T_api_Ban.c T_api_Ban.d (a0.drop v10.toNat) i j = rowsOf T_api_Ban.c T_api_Ban.d a0 (v10.toNat + i) j, 0 ≤ v10 ∧ v10 ≤ ((a0.length : Nat) : Int), Ext 5 (((([] : List T_api_Ban) ++ (a0.take v10.toNat)) ++ ([b4] : List T_api_Ban)).length) ((a0.drop v10.toNat).length) (rowsOf T_api_Ban.c T_api_Ban.d ((([] : List T_api_Ban) ++ (a0.take v10.toNat)) ++ ([b4] : List T_api_Ban))) (rowsOf T_api_Ban.c T_api_Ban.d (a0.drop v10.toNat)) ((((([] : List T_api_Ban) ++ (a0.take v10.toNat)) ++ ([b4] : List T_api_Ban)) ++ (a0.drop v10.toNat)).length) (rowsOf T_api_Ban.c T_api_Ban.d (((([] : List T_api_Ban) ++ (a0.take v10.toNat)) ++ ([b4] : List T_api_Ban)) ++ (a0.drop v10.toNat))), (((([] : List T_api_Ban) ++ (a0.take v10.toNat)) ++ ([b4] : List T_api_Ban)) ++ (a0.drop v10.toNat)).length * 40 ≤ 140737488355328, (((([] : List T_api_Ban) ++ (a0.take v10.toNat)) ++ ([b4] : List T_api_Ban)) ++ (a0.drop v10.toNat)).length ≤ maxLen] (by kernel_rfl) rfl ⟨h9, rfl, rfl, (fun i j hi hj => rows_flat (sz := 5) (e := T_api_Ban.c) (d := T_api_Ban.d) (fun _ => rfl) ([] : List T_api_Ban) i j hi hj), (piece_take _ _ o17), o17, (ext_app _ _), o18.1, o18.2, ⟨rfl, fun i j hi hj => rows_flat (sz := 5) (e := T_api_Ban.c) (d := T_api_Ban.d) (fun _ => rfl) ([b4] : List T_api_Ban) i j hi hj⟩, (ext_app _ _), o19.1, o19.2, (piece_drop _ _), o17, (ext_app _ _), o20.1, o20.2, trivial⟩

/-- doorman/doormanref13.Add -/
def g_doormanref13_Add (a0 : (List T_api_Ban)) (a1 : T_api_Ban) (a2 : Int) : Option ((List T_api_Ban) × Int) :=
  (g_doormanref12_Right a1).bind fun x1 =>
  bif (!x1) then
    some (([] : (List T_api_Ban)), (1 : Int))
  else
    (g_doormanref13_Index a0 a1.fNet).bind fun x2 =>
    bif (decide (x2 ≥ (0 : Int))) then
      need ((([] : List T_api_Ban) ++ a0).length * 40 ≤ 140737488355328 ∧ (([] : List T_api_Ban) ++ a0).length ≤ maxLen) <|
      need (0 ≤ x2 ∧ x2 < (((([] : List T_api_Ban) ++ a0).length : Nat) : Int)) <|
      bif (decide (a1.fUntil > ((([] : List T_api_Ban) ++ a0).getD x2.toNat T_api_Ban.d).fUntil)) then
        some (((([] : List T_api_Ban) ++ a0).set x2.toNat (T_api_Ban.mk (((([] : List T_api_Ban) ++ a0).getD x2.toNat T_api_Ban.d).fNet) a1.fUntil)), (0 : Int))
      else
        some ((([] : List T_api_Ban) ++ a0), (0 : Int))
    else
      bif (decide (((a0.length : Nat) : Int) ≥ a2)) then
        some (([] : (List T_api_Ban)), (5 : Int))
      else
        g_doormanref13_Add_c0 a0  ((((a0.length : Nat) : Int) - (0 : Int)).toNat + 2) (0 : Int) a1

theorem g_doormanref13_Add_ok (a0 : (List T_api_Ban)) (a1 : T_api_Ban) (a2 : Int) (r : ((List T_api_Ban) × Int)) (hf : g_doormanref13_Add a0 a1 a2 = some r) : SCall Try.prog 48 [.one (cL 5 T_api_Ban.c T_api_Ban.d a0), .agg (T_api_Ban.c a1), .one (.lit (.int .i64 a2))] (.tup [(false, (cLs 5 T_api_Ban.c T_api_Ban.d) r.1), (false, (cI .i64) r.2)]) := by
  refine SCall.of Try.func48 rfl rfl rfl rfl fun S0 w0 => ?_
  unfold g_doormanref13_Add at hf
  obtain ⟨x1, q1, hf⟩ := bind_some' hf
  rcases br_some hf with ⟨h2, hf⟩ | ⟨h2, hf⟩
  · replace hf := Option.some.inj hf
    subst hf
    exact toEnd_good allOk 8 _ _ [⟨[], [], [], [], [], [], []⟩, ⟨[(1, .r (.one (.lit (.bool x1))) [])], [], [], [], [], [], []⟩, ⟨[], [], [], [], [], [], []⟩] [true] [] [] [(6, [(0, cL 5 T_api_Ban.c T_api_Ban.d [])])] [SCall Try.prog 105 [.agg (T_api_Ban.c a1)] (.one (.lit (.bool x1))), (!x1) = true] (by kernel_rfl) rfl ⟨(g_doormanref12_Right_ok a1 x1 q1), h2, trivial⟩
  · obtain ⟨x2, q3, hf⟩ := bind_some' hf
    rcases br_some hf with ⟨h4, hf⟩ | ⟨h4, hf⟩
    · obtain ⟨o5, hf⟩ := need_some hf
      obtain ⟨o6, hf⟩ := need_some hf
      rcases br_some hf with ⟨h7, hf⟩ | ⟨h7, hf⟩
      · replace hf := Option.some.inj hf
        subst hf
        exact toEnd_good allOk 22 _ _ [⟨[], [], [], [], [], [], []⟩, ⟨[(1, .r (.one (.lit (.bool x1))) [])], [], [], [], [], [], []⟩, ⟨[(3, .r (.one (.lit (.int .i64 x2))) [])], [], [], [], [], [], []⟩, ⟨[], [], [], [], [], [], []⟩, ⟨[(0, .c ([] : List T_api_Ban).length (rowsOf T_api_Ban.c T_api_Ban.d ([] : List T_api_Ban))), (2, .c ((([] : List T_api_Ban) ++ a0).length) (rowsOf T_api_Ban.c T_api_Ban.d (([] : List T_api_Ban) ++ a0)))], [], [], [], [], [], []⟩, ⟨[], [], [], [[], [0], [], [], [2, 3], [4, 2, 3], [5, 4, 2, 3], [1, 0, 6, 5, 4, 2, 3]], [], [], []⟩, ⟨[(6, .c ((([] : List T_api_Ban) ++ a0).set x2.toNat (T_api_Ban.mk (((([] : List T_api_Ban) ++ a0).getD x2.toNat T_api_Ban.d).fNet) a1.fUntil)).length (rowsOf T_api_Ban.c T_api_Ban.d ((([] : List T_api_Ban) ++ a0).set x2.toNat (T_api_Ban.mk (((([] : List T_api_Ban) ++ a0).getD x2.toNat T_api_Ban.d).fNet) a1.fUntil))))], [], [], [], [], [], []⟩, ⟨[], [], [], [], [], [], []⟩] [false, true, true] [23] [] [] [SCall Try.prog 105 [.agg (T_api_Ban.c a1)] (.one (.lit (.bool x1))), (!x1) = false, SCall Try.prog 106 [.one (cL 5 T_api_Ban.c T_api_Ban.d a0), .agg (T_api_Net.c a1.fNet)] (.one (.lit (.int .i64 x2))), (decide (x2 ≥ (0 : Int))) = true, ([] : List T_api_Ban).length = 0, ∀ i j, i < 0 → j < 5 → rowsOf T_api_Ban.c T_api_Ban.d ([] : List T_api_Ban) i j = (([] : List T_api_Ban).flatMap T_api_Ban.c).getD (i * 5 + j) .junk, Ext 5 (([] : List T_api_Ban).length) a0.length (rowsOf T_api_Ban.c T_api_Ban.d ([] : List T_api_Ban)) (rowsOf T_api_Ban.c T_api_Ban.d a0) ((([] : List T_api_Ban) ++ a0).length) (rowsOf T_api_Ban.c T_api_Ban.d (([] : List T_api_Ban) ++ a0)), (([] : List T_api_Ban) ++ a0).length * 40 ≤ 140737488355328, (([] : List T_api_Ban) ++ a0).length ≤ maxLen, 0 ≤ x2 ∧ x2 < (((([] : List T_api_Ban) ++ a0).length : Nat) : Int), x2.toNat < (([] : List T_api_Ban) ++ a0).length, (decide (a1.fUntil > ((([] : List T_api_Ban) ++ a0).getD x2.toNat T_api_Ban.d).fUntil)) = true, 0 ≤ x2 ∧ x2 < (((([] : List T_api_Ban) ++ a0).length : Nat) : Int), ((([] : List T_api_Ban) ++ a0).set x2.toNat (T_api_Ban.mk (((([] : List T_api_Ban) ++ a0).getD x2.toNat T_api_Ban.d).fNet) a1.fUntil)).length = (([] : List T_api_Ban) ++ a0).length, x2.toNat < (([] : List T_api_Ban) ++ a0).length, ExtU 5 ((([] : List T_api_Ban) ++ a0).length) (rowsOf T_api_Ban.c T_api_Ban.d (([] : List T_api_Ban) ++ a0)) x2.toNat 4 [.lit (.int .i64 a1.fUntil)] (rowsOf T_api_Ban.c T_api_Ban.d ((([] : List T_api_Ban) ++ a0).set x2.toNat (T_api_Ban.mk (((([] : List T_api_Ban) ++ a0).getD x2.toNat T_api_Ban.d).fNet) a1.fUntil)))] (by kernel_rfl) rfl ⟨(g_doormanref12_Right_ok a1 x1 q1), h2, (g_doormanref13_Index_ok a0 a1.fNet x2 q3), h4, rfl, (fun i j hi hj => rows_flat (sz := 5) (e := T_api_Ban.c) (d := T_api_Ban.d) (fun _ => rfl) ([] : List T_api_Ban) i j hi hj), (ext_app _ _), o5.1, o5.2, o6, (ltOf o6), h7, o6, List.length_set, (ltOf o6), (ext_part _ _ _ _ _ rfl (Nat.le_of_ble_eq_true rfl)), trivial⟩
      · replace hf := Option.some.inj hf
        subst hf
        exact toEnd_good allOk 22 _ _ [⟨[], [], [], [], [], [], []⟩, ⟨[(1, .r (.one (.lit (.bool x1))) [])], [], [], [], [], [], []⟩, ⟨[(3, .r (.one (.lit (.int .i64 x2))) [])], [], [], [], [], [], []⟩, ⟨[], [], [], [], [], [], []⟩, ⟨[(0, .c ([] : List T_api_Ban).length (rowsOf T_api_Ban.c T_api_Ban.d ([] : List T_api_Ban))), (2, .c ((([] : List T_api_Ban) ++ a0).length) (rowsOf T_api_Ban.c T_api_Ban.d (([] : List T_api_Ban) ++ a0)))], [], [], [], [], [], []⟩, ⟨[], [], [], [[], [0], [], [], [2, 3], [4, 2, 3], [5, 4, 2, 3], [1, 0, 6, 5, 4, 2, 3]], [], [], []⟩, ⟨[], [], [], [], [], [], []⟩] [false, true, false] [23] [] [] [SCall Try.prog 105 [.agg (T_api_Ban.c a1)] (.one (.lit (.bool x1))), (!x1) = false, SCall Try.prog 106 [.one (cL 5 T_api_Ban.c T_api_Ban.d a0), .agg (T_api_Net.c a1.fNet)] (.one (.lit (.int .i64 x2))), (decide (x2 ≥ (0 : Int))) = true, ([] : List T_api_Ban).length = 0, ∀ i j, i < 0 → j < 5 → rowsOf T_api_Ban.c T_api_Ban.d ([] : List T_api_Ban) i j = (([] : List T_api_Ban).flatMap T_api_Ban.c).getD (i * 5 + j) .junk, Ext 5 (([] : List T_api_Ban).length) a0.length (rowsOf T_api_Ban.c T_api_Ban.d ([] : List T_api_Ban)) (rowsOf T_api_Ban.c T_api_Ban.d a0) ((([] : List T_api_Ban) ++ a0).length) (rowsOf T_api_Ban.c T_api_Ban.d (([] : List T_api_Ban) ++ a0)), (([] : List T_api_Ban) ++ a0).length * 40 ≤ 140737488355328, (([] : List T_api_Ban) ++ a0).length ≤ maxLen, 0 ≤ x2 ∧ x2 < (((([] : List T_api_Ban) ++ a0).length : Nat) : Int), x2.toNat < (([] : List T_api_Ban) ++ a0).length, (decide (a1.fUntil > ((([] : List T_api_Ban) ++ a0).getD x2.toNat T_api_Ban.d).fUntil)) = false] (by kernel_rfl) rfl ⟨(g_doormanref12_Right_ok a1 x1 q1), h2, (g_doormanref13_Index_ok a0 a1.fNet x2 q3), h4, rfl, (fun i j hi hj => rows_flat (sz := 5) (e := T_api_Ban.c) (d := T_api_Ban.d) (fun _ => rfl) ([] : List T_api_Ban) i j hi hj), (ext_app _ _), o5.1, o5.2, o6, (ltOf o6), h7, trivial⟩
    · rcases br_some hf with ⟨h8, hf⟩ | ⟨h8, hf⟩
      · replace hf := Option.some.inj hf
        subst hf
        exact toEnd_good allOk 20 _ _ [⟨[], [], [], [], [], [], []⟩, ⟨[(1, .r (.one (.lit (.bool x1))) [])], [], [], [], [], [], []⟩, ⟨[(3, .r (.one (.lit (.int .i64 x2))) [])], [], [], [], [], [], []⟩, ⟨[], [], [], [], [], [], []⟩, ⟨[], [], [], [], [], [], []⟩, ⟨[], [], [], [], [], [], []⟩] [false, false, true] [] [] [(6, [(0, cL 5 T_api_Ban.c T_api_Ban.d [])])] [SCall Try.prog 105 [.agg (T_api_Ban.c a1)] (.one (.lit (.bool x1))), (!x1) = false, SCall Try.prog 106 [.one (cL 5 T_api_Ban.c T_api_Ban.d a0), .agg (T_api_Net.c a1.fNet)] (.one (.lit (.int .i64 x2))), (decide (x2 ≥ (0 : Int))) = false, (decide (((a0.length : Nat) : Int) ≥ a2)) = true] (by kernel_rfl) rfl ⟨(g_doormanref12_Right_ok a1 x1 q1), h2, (g_doormanref13_Index_ok a0 a1.fNet x2 q3), h4, h8, trivial⟩
      · exact toK_good allOk Post.ends 23 _ _ _ _ [⟨[], [], [], [], [], [], []⟩, ⟨[(1, .r (.one (.lit (.bool x1))) [])], [], [], [], [], [], []⟩, ⟨[(3, .r (.one (.lit (.int .i64 x2))) [])], [], [], [], [], [], []⟩, ⟨[], [], [], [], [], [], []⟩, ⟨[], [], [], [], [], [], []⟩, ⟨[], [], [], [], [], [], []⟩] [false, false, false] ⟨[], [], [], [], [], [0, 4, 10], [4], []⟩ [SCall Try.prog 105 [.agg (T_api_Ban.c a1)] (.one (.lit (.bool x1))), (!x1) = false, SCall Try.prog 106 [.one (cL 5 T_api_Ban.c T_api_Ban.d a0), .agg (T_api_Net.c a1.fNet)] (.one (.lit (.int .i64 x2))), (decide (x2 ≥ (0 : Int))) = false, (decide (((a0.length : Nat) : Int) ≥ a2)) = false] (by kernel_rfl) ⟨(g_doormanref12_Right_ok a1 x1 q1), h2, (g_doormanref13_Index_ok a0 a1.fNet x2 q3), h4, h8, trivial⟩ (g_doormanref13_Add_c0_ok S0 w0 a0   ((((a0.length : Nat) : Int) - (0 : Int)).toNat + 2) (0 : Int) a1 r hf)

/-- slices.Delete[[]doorman/api.Ban,doorman/api.Ban] -/
def g_slices_Delete_api_Ban_api_Ban (a0 : (List T_api_Ban)) (a1 : Int) (a2 : Int) : Option (List T_api_Ban) :=
  need (0 ≤ a1 ∧ a1 ≤ a2 ∧ a2 ≤ ((a0.length : Nat) : Int) ∧ ((a0.length : Nat) : Int) ≤ ((a0.length : Nat) : Int)) <|
  bif (a1 == a2) then
    some a0
  else
    need (0 ≤ (0 : Int) ∧ (0 : Int) ≤ a1 ∧ a1 ≤ ((a0.length : Nat) : Int)) <|
    need (0 ≤ a2 ∧ a2 ≤ ((a0.length : Nat) : Int) ∧ ((a0.length : Nat) : Int) ≤ ((a0.length : Nat) : Int)) <|
    need (a2.toNat + (a0.length - a2.toNat) ≤ a0.length ∧ a1.toNat + (a0.length - a2.toNat) ≤ a0.length) <|
    need (0 ≤ (((a1.toNat + (a0.length - a2.toNat)) : Nat) : Int) ∧ (((a1.toNat + (a0.length - a2.toNat)) : Nat) : Int) ≤ ((a0.length : Nat) : Int) ∧ ((0 : Nat) : Int) + ((a0.length : Nat) : Int) ≤ ((a0.length : Nat) : Int)) <|
    need ((0 + (((a1.toNat + (a0.length - a2.toNat)) : Nat) : Int).toNat) + (((a0.length : Nat) : Int).toNat - (((a1.toNat + (a0.length - a2.toNat)) : Nat) : Int).toNat) ≤ (appL a0 a1.toNat a2.toNat (a0.length - a2.toNat)).length) <|
    need ((a1.toNat + (a0.length - a2.toNat)) ≤ (clearL (appL a0 a1.toNat a2.toNat (a0.length - a2.toNat)) (0 + (((a1.toNat + (a0.length - a2.toNat)) : Nat) : Int).toNat) (((a0.length : Nat) : Int).toNat - (((a1.toNat + (a0.length - a2.toNat)) : Nat) : Int).toNat) T_api_Ban.d).length) <|
    some ((clearL (appL a0 a1.toNat a2.toNat (a0.length - a2.toNat)) (0 + (((a1.toNat + (a0.length - a2.toNat)) : Nat) : Int).toNat) (((a0.length : Nat) : Int).toNat - (((a1.toNat + (a0.length - a2.toNat)) : Nat) : Int).toNat) T_api_Ban.d).take (a1.toNat + (a0.length - a2.toNat)))

theorem g_slices_Delete_api_Ban_api_Ban_own (a0 : (List T_api_Ban)) (a1 : Int) (a2 : Int) (r : (List T_api_Ban)) (hf : g_slices_Delete_api_Ban_api_Ban a0 a1 a2 = some r) : HCall Try.prog 107 [(100000, .rows 79 5 a0.length (rowsOf T_api_Ban.c T_api_Ban.d a0))] [.one (.osl 100000 a0.length), .one (.lit (.int .i64 a1)), .one (.lit (.int .i64 a2))] [(99999, .rows 79 5 r.length (rowsOf T_api_Ban.c T_api_Ban.d r))] (.one (.osl 99999 r.length)) := by
  refine HCall.of Try.func107 rfl rfl rfl rfl fun S0 w0 => ?_
  unfold g_slices_Delete_api_Ban_api_Ban at hf
  obtain ⟨o1, hf⟩ := need_some hf
  rcases br_some hf with ⟨h2, hf⟩ | ⟨h2, hf⟩
  · replace hf := Option.some.inj hf
    subst hf
    exact toEndH_good allOk 10 _ _ [⟨[], [], [], [], [], [], []⟩, ⟨[], [], [], [], [], [], []⟩, ⟨[], [], [], [], [], [], []⟩, ⟨[], [], [], [], [], [], []⟩] [true] ⟨[], [], [], [], [], [6], [100000], [(100000, 99999)]⟩ [0 ≤ a1 ∧ a1 ≤ a2 ∧ a2 ≤ ((a0.length : Nat) : Int) ∧ ((a0.length : Nat) : Int) ≤ ((a0.length : Nat) : Int), (a1 == a2) = true] (by kernel_rfl) ⟨o1, h2, trivial⟩
  · obtain ⟨o3, hf⟩ := need_some hf
    obtain ⟨o4, hf⟩ := need_some hf
    obtain ⟨o5, hf⟩ := need_some hf
    obtain ⟨o6, hf⟩ := need_some hf
    obtain ⟨o7, hf⟩ := need_some hf
    obtain ⟨o8, hf⟩ := need_some hf
    replace hf := Option.some.inj hf
    subst hf
    exact toEndH_good allOk 17 _ _ [⟨[], [], [], [], [], [], []⟩, ⟨[], [], [], [], [], [], []⟩, ⟨[], [], [], [], [], [], []⟩, ⟨[], [], [], [], [], [], []⟩, ⟨[(6, .r (.one (.sl 5 (appL a0 a1.toNat a2.toNat (a0.length - a2.toNat)).length (rowsOf T_api_Ban.c T_api_Ban.d (appL a0 a1.toNat a2.toNat (a0.length - a2.toNat))))) [])], [], [], [[], [], [0, 1], [], [], [3, 4], [2, 0, 1, 5, 3, 4], [6, 2, 0, 1, 5, 3, 4]], [], [], []⟩, ⟨[(5, .c (clearL (appL a0 a1.toNat a2.toNat (a0.length - a2.toNat)) (0 + (((a1.toNat + (a0.length - a2.toNat)) : Nat) : Int).toNat) (((a0.length : Nat) : Int).toNat - (((a1.toNat + (a0.length - a2.toNat)) : Nat) : Int).toNat) T_api_Ban.d).length (rowsOf T_api_Ban.c T_api_Ban.d (clearL (appL a0 a1.toNat a2.toNat (a0.length - a2.toNat)) (0 + (((a1.toNat + (a0.length - a2.toNat)) : Nat) : Int).toNat) (((a0.length : Nat) : Int).toNat - (((a1.toNat + (a0.length - a2.toNat)) : Nat) : Int).toNat) T_api_Ban.d)))], [], [], [], [], [], []⟩, ⟨[(1, .c ((clearL (appL a0 a1.toNat a2.toNat (a0.length - a2.toNat)) (0 + (((a1.toNat + (a0.length - a2.toNat)) : Nat) : Int).toNat) (((a0.length : Nat) : Int).toNat - (((a1.toNat + (a0.length - a2.toNat)) : Nat) : Int).toNat) T_api_Ban.d).take (a1.toNat + (a0.length - a2.toNat))).length (rowsOf T_api_Ban.c T_api_Ban.d ((clearL (appL a0 a1.toNat a2.toNat (a0.length - a2.toNat)) (0 + (((a1.toNat + (a0.length - a2.toNat)) : Nat) : Int).toNat) (((a0.length : Nat) : Int).toNat - (((a1.toNat + (a0.length - a2.toNat)) : Nat) : Int).toNat) T_api_Ban.d).take (a1.toNat + (a0.length - a2.toNat)))))], [], [], [], [], [], []⟩] [false] ⟨[], [], [], [], [], [6], [6], [(6, 99999)]⟩ [0 ≤ a1 ∧ a1 ≤ a2 ∧ a2 ≤ ((a0.length : Nat) : Int) ∧ ((a0.length : Nat) : Int) ≤ ((a0.length : Nat) : Int), (a1 == a2) = false, 0 ≤ (0 : Int) ∧ (0 : Int) ≤ a1 ∧ a1 ≤ ((a0.length : Nat) : Int), 0 ≤ a2 ∧ a2 ≤ ((a0.length : Nat) : Int) ∧ ((a0.length : Nat) : Int) ≤ ((a0.length : Nat) : Int), (appL a0 a1.toNat a2.toNat (a0.length - a2.toNat)).length = a0.length, 0 = 0, a1.toNat + (a0.length - a2.toNat) ≤ a0.length, ∀ p q, p < a0.length → q < 5 → (p < a1.toNat ∨ a1.toNat + (a0.length - a2.toNat) ≤ p) → rowsOf T_api_Ban.c T_api_Ban.d (appL a0 a1.toNat a2.toNat (a0.length - a2.toNat)) p q = rowsOf T_api_Ban.c T_api_Ban.d a0 p q, ∀ p q, p < (a0.length - a2.toNat) → q < 5 → rowsOf T_api_Ban.c T_api_Ban.d (appL a0 a1.toNat a2.toNat (a0.length - a2.toNat)) (a1.toNat + p) q = rowsOf T_api_Ban.c T_api_Ban.d a0 (a2.toNat + p) q, 0 ≤ (((a1.toNat + (a0.length - a2.toNat)) : Nat) : Int) ∧ (((a1.toNat + (a0.length - a2.toNat)) : Nat) : Int) ≤ ((a0.length : Nat) : Int) ∧ ((0 : Nat) : Int) + ((a0.length : Nat) : Int) ≤ ((a0.length : Nat) : Int), (clearL (appL a0 a1.toNat a2.toNat (a0.length - a2.toNat)) (0 + (((a1.toNat + (a0.length - a2.toNat)) : Nat) : Int).toNat) (((a0.length : Nat) : Int).toNat - (((a1.toNat + (a0.length - a2.toNat)) : Nat) : Int).toNat) T_api_Ban.d).length = (appL a0 a1.toNat a2.toNat (a0.length - a2.toNat)).length, ∀ i j, i < (appL a0 a1.toNat a2.toNat (a0.length - a2.toNat)).length → j < 5 → (i < (0 + (((a1.toNat + (a0.length - a2.toNat)) : Nat) : Int).toNat) ∨ (0 + (((a1.toNat + (a0.length - a2.toNat)) : Nat) : Int).toNat) + (((a0.length : Nat) : Int).toNat - (((a1.toNat + (a0.length - a2.toNat)) : Nat) : Int).toNat) ≤ i) → rowsOf T_api_Ban.c T_api_Ban.d (clearL (appL a0 a1.toNat a2.toNat (a0.length - a2.toNat)) (0 + (((a1.toNat + (a0.length - a2.toNat)) : Nat) : Int).toNat) (((a0.length : Nat) : Int).toNat - (((a1.toNat + (a0.length - a2.toNat)) : Nat) : Int).toNat) T_api_Ban.d) i j = rowsOf T_api_Ban.c T_api_Ban.d (appL a0 a1.toNat a2.toNat (a0.length - a2.toNat)) i j, ∀ i j, i < (((a0.length : Nat) : Int).toNat - (((a1.toNat + (a0.length - a2.toNat)) : Nat) : Int).toNat) → j < 5 → orNil (([.lit (.bool false), .lit (.int .u64 (0)), .lit (.int .u64 (0)), .lit (.int .i64 (0)), .lit (.int .i64 (0))] : List C).getD j .junk) (rowsOf T_api_Ban.c T_api_Ban.d (clearL (appL a0 a1.toNat a2.toNat (a0.length - a2.toNat)) (0 + (((a1.toNat + (a0.length - a2.toNat)) : Nat) : Int).toNat) (((a0.length : Nat) : Int).toNat - (((a1.toNat + (a0.length - a2.toNat)) : Nat) : Int).toNat) T_api_Ban.d) ((0 + (((a1.toNat + (a0.length - a2.toNat)) : Nat) : Int).toNat) + i) j), 0 = 0, ((clearL (appL a0 a1.toNat a2.toNat (a0.length - a2.toNat)) (0 + (((a1.toNat + (a0.length - a2.toNat)) : Nat) : Int).toNat) (((a0.length : Nat) : Int).toNat - (((a1.toNat + (a0.length - a2.toNat)) : Nat) : Int).toNat) T_api_Ban.d).take (a1.toNat + (a0.length - a2.toNat))).length = (a1.toNat + (a0.length - a2.toNat)), ∀ i j, i < (a1.toNat + (a0.length - a2.toNat)) → j < 5 → rowsOf T_api_Ban.c T_api_Ban.d ((clearL (appL a0 a1.toNat a2.toNat (a0.length - a2.toNat)) (0 + (((a1.toNat + (a0.length - a2.toNat)) : Nat) : Int).toNat) (((a0.length : Nat) : Int).toNat - (((a1.toNat + (a0.length - a2.toNat)) : Nat) : Int).toNat) T_api_Ban.d).take (a1.toNat + (a0.length - a2.toNat))) i j = rowsOf T_api_Ban.c T_api_Ban.d (clearL (appL a0 a1.toNat a2.toNat (a0.length - a2.toNat)) (0 + (((a1.toNat + (a0.length - a2.toNat)) : Nat) : Int).toNat) (((a0.length : Nat) : Int).toNat - (((a1.toNat + (a0.length - a2.toNat)) : Nat) : Int).toNat) T_api_Ban.d) i j] (by kernel_rfl) ⟨o1, h2, o3, o4, (app_len _ _ _ _ o5), rfl, o5.2, (app_old _ _ _ _ o5), (app_new _ _ _ _ o5), o6, (clear_len _ _ _ _ o7), (clear_old _ _ _ o7), (clear_new _ _ _ o7 (fun j hj => .inl rfl)), rfl, (shr_len _ _ o8), (shr_rows _ _), trivial⟩

/-- doorman/bans.Drop -/
def g_bans_Drop (a0 : (List T_api_Ban)) (a1 : T_api_Net) : Option ((List T_api_Ban) × Int) :=
  (g_bans_find a0 a1).bind fun x1 =>
  bif (decide (x1 < (0 : Int))) then
    some (([] : (List T_api_Ban)), (6 : Int))
  else
    (g_slices_Clone_doorman_api_Ban_doorman_api_Ban a0).bind fun x2 =>
    (g_slices_Delete_api_Ban_api_Ban x2 x1 (add64 x1 (1 : Int))).bind fun x3 =>
    some (x3, (0 : Int))

theorem g_bans_Drop_ok (a0 : (List T_api_Ban)) (a1 : T_api_Net) (r : ((List T_api_Ban) × Int)) (hf : g_bans_Drop a0 a1 = some r) : SCall Try.prog 49 [.one (cL 5 T_api_Ban.c T_api_Ban.d a0), .agg (T_api_Net.c a1)] (.tup [(false, (cLs 5 T_api_Ban.c T_api_Ban.d) r.1), (false, (cI .i64) r.2)]) := by
  refine SCall.of Try.func49 rfl rfl rfl rfl fun S0 w0 => ?_
  unfold g_bans_Drop at hf
  obtain ⟨x1, q1, hf⟩ := bind_some' hf
  rcases br_some hf with ⟨h2, hf⟩ | ⟨h2, hf⟩
  · replace hf := Option.some.inj hf
    subst hf
    exact toEnd_good allOk 10 _ _ [⟨[], [], [], [], [], [], []⟩, ⟨[(2, .r (.one (.lit (.int .i64 x1))) [])], [], [], [], [], [], []⟩, ⟨[], [], [], [], [], [], []⟩, ⟨[], [], [], [], [], [], []⟩] [true] [] [] [(4, [(0, cL 5 T_api_Ban.c T_api_Ban.d [])])] [SCall Try.prog 99 [.one (cL 5 T_api_Ban.c T_api_Ban.d a0), .agg (T_api_Net.c a1)] (.one (.lit (.int .i64 x1))), (decide (x1 < (0 : Int))) = true] (by kernel_rfl) rfl ⟨(g_bans_find_ok a0 a1 x1 q1), h2, trivial⟩
  · obtain ⟨x2, q3, hf⟩ := bind_some' hf
    obtain ⟨x3, q4, hf⟩ := bind_some' hf
    replace hf := Option.some.inj hf
    subst hf
    exact toEnd_good allOk 11 _ _ [⟨[], [], [], [], [], [], []⟩, ⟨[(2, .r (.one (.lit (.int .i64 x1))) [])], [], [], [], [], [], []⟩, ⟨[], [], [], [], [], [], []⟩, ⟨[], [], [], [], [], [], [(1, ⟨[], [(99999, 13)], [(99999, .rows 79 5 x2.length (rowsOf T_api_Ban.c T_api_Ban.d x2))], .one (.osl 99999 x2.length)⟩), (5, ⟨[(100000, 13)], [(99999, 17)], [(99999, .rows 79 5 x3.length (rowsOf T_api_Ban.c T_api_Ban.d x3))], .one (.osl 99999 x3.length)⟩)]⟩] [false] [17] [] [] [SCall Try.prog 99 [.one (cL 5 T_api_Ban.c T_api_Ban.d a0), .agg (T_api_Net.c a1)] (.one (.lit (.int .i64 x1))), (decide (x1 < (0 : Int))) = false, HCall Try.prog 98 [] [.one (cL 5 T_api_Ban.c T_api_Ban.d a0)] [(99999, .rows 79 5 x2.length (rowsOf T_api_Ban.c T_api_Ban.d x2))] (.one (.osl 99999 x2.length)), HCall Try.prog 107 [(100000, .rows 79 5 x2.length (rowsOf T_api_Ban.c T_api_Ban.d x2))] [.one (.osl 100000 x2.length), .one (.lit (.int .i64 x1)), .one (.lit (.int .i64 (add64 x1 (1 : Int))))] [(99999, .rows 79 5 x3.length (rowsOf T_api_Ban.c T_api_Ban.d x3))] (.one (.osl 99999 x3.length))] (by kernel_rfl) rfl ⟨(g_bans_find_ok a0 a1 x1 q1), h2, (g_slices_Clone_doorman_api_Ban_doorman_api_Ban_own a0 x2 q3), (g_slices_Delete_api_Ban_api_Ban_own x2 x1 (add64 x1 (1 : Int)) x3 q4), trivial⟩

/-- doorman/doormanref13.Drop -/
def g_doormanref13_Drop (a0 : (List T_api_Ban)) (a1 : T_api_Net) : Option ((List T_api_Ban) × Int) :=
  (g_doormanref13_Index a0 a1).bind fun x1 =>
  bif (decide (x1 < (0 : Int))) then
    some (([] : (List T_api_Ban)), (6 : Int))
  else
    need (0 ≤ x1 ∧ x1 ≤ ((a0.length : Nat) : Int)) <|
    need ((([] : List T_api_Ban) ++ (a0.take x1.toNat)).length * 40 ≤ 140737488355328 ∧ (([] : List T_api_Ban) ++ (a0.take x1.toNat)).length ≤ maxLen) <|
    need (0 ≤ (add64 x1 (1 : Int)) ∧ (add64 x1 (1 : Int)) ≤ ((a0.length : Nat) : Int)) <|
    need (((([] : List T_api_Ban) ++ (a0.take x1.toNat)) ++ (a0.drop (add64 x1 (1 : Int)).toNat)).length * 40 ≤ 140737488355328 ∧ ((([] : List T_api_Ban) ++ (a0.take x1.toNat)) ++ (a0.drop (add64 x1 (1 : Int)).toNat)).length ≤ maxLen) <|
    some (((([] : List T_api_Ban) ++ (a0.take x1.toNat)) ++ (a0.drop (add64 x1 (1 : Int)).toNat)), (0 : Int))

theorem g_doormanref13_Drop_ok (a0 : (List T_api_Ban)) (a1 : T_api_Net) (r : ((List T_api_Ban) × Int)) (hf : g_doormanref13_Drop a0 a1 = some r) : SCall Try.prog 50 [.one (cL 5 T_api_Ban.c T_api_Ban.d a0), .agg (T_api_Net.c a1)] (.tup [(false, (cLs 5 T_api_Ban.c T_api_Ban.d) r.1), (false, (cI .i64) r.2)]) := by
  refine SCall.of Try.func50 rfl rfl rfl rfl fun S0 w0 => ?_
  unfold g_doormanref13_Drop at hf
  obtain ⟨x1, q1, hf⟩ := bind_some' hf
  rcases br_some hf with ⟨h2, hf⟩ | ⟨h2, hf⟩
  · replace hf := Option.some.inj hf
    subst hf
    exact toEnd_good allOk 10 _ _ [⟨[], [], [], [], [], [], []⟩, ⟨[(2, .r (.one (.lit (.int .i64 x1))) [])], [], [], [], [], [], []⟩, ⟨[], [], [], [], [], [], []⟩, ⟨[], [], [], [], [], [], []⟩] [true] [] [] [(4, [(0, cL 5 T_api_Ban.c T_api_Ban.d [])])] [SCall Try.prog 106 [.one (cL 5 T_api_Ban.c T_api_Ban.d a0), .agg (T_api_Net.c a1)] (.one (.lit (.int .i64 x1))), (decide (x1 < (0 : Int))) = true] (by kernel_rfl) rfl ⟨(g_doormanref13_Index_ok a0 a1 x1 q1), h2, trivial⟩
  · obtain ⟨o3, hf⟩ := need_some hf
    obtain ⟨o4, hf⟩ := need_some hf
    obtain ⟨o5, hf⟩ := need_some hf
    obtain ⟨o6, hf⟩ := need_some hf
    replace hf := Option.some.inj hf
    subst hf
    exact toEnd_good allOk 11 _ _ [⟨[], [], [], [], [], [], []⟩, ⟨[(2, .r (.one (.lit (.int .i64 x1))) [])], [], [], [], [], [], []⟩, ⟨[], [], [], [], [], [], []⟩, ⟨[(0, .c ([] : List T_api_Ban).length (rowsOf T_api_Ban.c T_api_Ban.d ([] : List T_api_Ban))), (4, .c ((([] : List T_api_Ban) ++ (a0.take x1.toNat)).length) (rowsOf T_api_Ban.c T_api_Ban.d (([] : List T_api_Ban) ++ (a0.take x1.toNat)))), (9, .c (((([] : List T_api_Ban) ++ (a0.take x1.toNat)) ++ (a0.drop (add64 x1 (1 : Int)).toNat)).length) (rowsOf T_api_Ban.c T_api_Ban.d ((([] : List T_api_Ban) ++ (a0.take x1.toNat)) ++ (a0.drop (add64 x1 (1 : Int)).toNat))))], [], [], [[], [], [], [1, 2], [0, 3, 1, 2], [], [], [6], [5, 7, 6], [4, 0, 3, 1, 2, 8, 5, 7, 6], [9, 4, 0, 3, 1, 2, 8, 5, 7, 6], [10, 9, 4, 0, 3, 1, 2, 8, 5, 7, 6]], [], [(3, ((a0.take x1.toNat).length, rowsOf T_api_Ban.c T_api_Ban.d (a0.take x1.toNat))), (8, ((a0.drop (add64 x1 (1 : Int)).toNat).length, rowsOf T_api_Ban.c T_api_Ban.d (a0.drop (add64 x1 (1 : Int)).toNat)))], []⟩] [false] [21] [] [] [SCall Try.prog 106 [.one (cL 5 T_api_Ban.c T_api_Ban.d a0), .agg (T_api_Net.c a1)] (.one (.lit (.int .i64 x1))), (decide (x1 < (0 : Int))) = false, ([] : List T_api_Ban).length = 0, ∀ i j, i < 0 → j < 5 → rowsOf T_api_Ban.c T_api_Ban.d ([] : List T_api_Ban) i j = (([] : List T_api_Ban).flatMap T_api_Ban.c).getD (i * 5 + j) .junk, (a0.take x1.toNat).length = x1.toNat ∧ ∀ i j, i < x1.toNat → j < 5 → rowsOf T_api_Ban.c T_api_Ban.d (a0.take x1.toNat) i j = rowsOf T_api_Ban.c T_api_Ban.d a0 i j, 0 ≤ x1 ∧ x1 ≤ ((a0.length : Nat) : Int), Ext 5 (([] : List T_api_Ban).length) ((a0.take x1.toNat).length) (rowsOf T_api_Ban.c T_api_Ban.d ([] : List T_api_Ban)) (rowsOf T_api_Ban.c T_api_Ban.d (a0.take x1.toNat)) ((([] : List T_api_Ban) ++ (a0.take x1.toNat)).length) (rowsOf T_api_Ban.c T_api_Ban.d (([] : List T_api_Ban) ++ (a0.take x1.toNat))), (([] : List T_api_Ban) ++ (a0.take x1.toNat)).length * 40 ≤ 140737488355328, (([] : List T_api_Ban) ++ (a0.take x1.toNat)).length ≤ maxLen, (a0.drop (add64 x1 (1 : Int)).toNat).length = a0.length - (add64 x1 (1 : Int)).toNat ∧ ∀ i j, i < a0.length - (add64 x1 (1 : Int)).toNat → j < 5 → rowsOf T_api_Ban.c T_api_Ban.d (a0.drop (add64 x1 (1 : Int)).toNat) i j = rowsOf T_api_Ban.c T_api_Ban.d a0 ((add64 x1 (1 : Int)).toNat + i) j, 0 ≤ (add64 x1 (1 : Int)) ∧ (add64 x1 (1 : Int)) ≤ ((a0.length : Nat) : Int), Ext 5 ((([] : List T_api_Ban) ++ (a0.take x1.toNat)).length) ((a0.drop (add64 x1 (1 : Int)).toNat).length) (rowsOf T_api_Ban.c T_api_Ban.d (([] : List T_api_Ban) ++ (a0.take x1.toNat))) (rowsOf T_api_Ban.c T_api_Ban.d (a0.drop (add64 x1 (1 : Int)).toNat)) (((([] : List T_api_Ban) ++ (a0.take x1.toNat)) ++ (a0.drop (add64 x1 (1 : Int)).toNat)).length) (rowsOf T_api_Ban.c T_api_Ban.d ((([] : List T_api_Ban) ++ (a0.take x1.toNat)) ++ (a0.drop (add64 x1 (1 : Int)).toNat))), ((([] : List T_api_Ban) ++ (a0.take x1.toNat)) ++ (a0.drop (add64 x1 (1 : Int)).toNat)).length * 40 ≤ 140737488355328, ((([] : List T_api_Ban) ++ (a0.take x1.toNat)) ++ (a0.drop (add64 x1 (1 : Int)).toNat)).length ≤ maxLen] (by kernel_rfl) rfl ⟨(g_doormanref13_Index_ok a0 a1 x1 q1), h2, rfl, (fun i j hi hj => rows_flat (sz := 5) (e := T_api_Ban.c) (d := T_api_Ban.d) (fun _ => rfl) ([] : List T_api_Ban) i j hi hj), (piece_take _ _ o3), o3, (ext_app _ _), o4.1, o4.2, (piece_drop _ _), o5, (ext_app _ _), o6.1, o6.2, trivial⟩

def g_doormanref13_Sweep_c0 (a0 : (List T_api_Ban)) (a1 : Int)  : Nat → Int → (List T_api_Ban) → Option ((List T_api_Ban) × Int)
  | 0, _, _ => none
  | fu + 1, v7, w6 =>
    bif (decide (v7 < ((a0.length : Nat) : Int))) then
      need (0 ≤ v7 ∧ v7 < ((a0.length : Nat) : Int)) <|
      bif (decide ((a0.getD v7.toNat T_api_Ban.d).fUntil > a1)) then
        need ((w6 ++ ([(a0.getD v7.toNat T_api_Ban.d)] : List T_api_Ban)).length * 40 ≤ 140737488355328 ∧ (w6 ++ ([(a0.getD v7.toNat T_api_Ban.d)] : List T_api_Ban)).length ≤ maxLen) <|
        g_doormanref13_Sweep_c0 a0 a1  fu (add64 v7 (1 : Int)) (w6 ++ ([(a0.getD v7.toNat T_api_Ban.d)] : List T_api_Ban))
      else
        g_doormanref13_Sweep_c0 a0 a1  fu (add64 v7 (1 : Int)) w6
    else
      some (w6, (sub64 ((a0.length : Nat) : Int) ((w6.length : Nat) : Int)))

theorem g_doormanref13_Sweep_c0_ok (S0 : Nat → Prop) (w0 : Start) (a0 : (List T_api_Ban)) (a1 : Int)  : ∀ (fu : Nat) (v7 : Int) (w6 : (List T_api_Ban)) (r : ((List T_api_Ban) × Int)), g_doormanref13_Sweep_c0 a0 a1  fu v7 w6 = some r → Good Try.prog 35 S0 w0 (bodyPost Try.prog Try.f51 (Post S0 w0 (.tup [(false, (cLs 5 T_api_Ban.c T_api_Ban.d) r.1), (false, (cI .i64) r.2)]))) (at_ [1, 1, 0, 1, 0] (bodyOf Try.f51)) ⟨[(0, .one (cL 5 T_api_Ban.c T_api_Ban.d a0)), (1, .one (.lit (.int .i64 a1))), (6, .one (.osl 6 w6.length)), (7, .one (.lit (.int .i64 v7)))], [(6, .rows 79 5 w6.length (rowsOf T_api_Ban.c T_api_Ban.d w6))]⟩ := by
  intro fu
  induction fu with
  | zero =>
    intro v7 w6 r hf
    simp [g_doormanref13_Sweep_c0] at hf
  | succ fu ih =>
    intro v7 w6 r hf
    unfold g_doormanref13_Sweep_c0 at hf
    rcases br_some hf with ⟨h1, hf⟩ | ⟨h1, hf⟩
    · obtain ⟨o2, hf⟩ := need_some hf
      rcases br_some hf with ⟨h3, hf⟩ | ⟨h3, hf⟩
      · obtain ⟨o4, hf⟩ := need_some hf
        exact toK_good allOk Post.ends 15 _ _ _ _ [⟨[], [], [], [], [], [], []⟩, ⟨[], [], [], [], [], [], []⟩, ⟨[(6, .c ((w6 ++ ([(a0.getD v7.toNat T_api_Ban.d)] : List T_api_Ban)).length) (rowsOf T_api_Ban.c T_api_Ban.d (w6 ++ ([(a0.getD v7.toNat T_api_Ban.d)] : List T_api_Ban))))], [], [], [], [], [(5, (([(a0.getD v7.toNat T_api_Ban.d)] : List T_api_Ban).length, rowsOf T_api_Ban.c T_api_Ban.d ([(a0.getD v7.toNat T_api_Ban.d)] : List T_api_Ban)))], []⟩, ⟨[], [], [], [], [], [], []⟩] [true, true] ⟨[], [], [], [], [], [0, 1, 6, 7], [28], [(28, 6)]⟩ [(decide (v7 < ((a0.length : Nat) : Int))) = true, 0 ≤ v7 ∧ v7 < ((a0.length : Nat) : Int), (decide ((a0.getD v7.toNat T_api_Ban.d).fUntil > a1)) = true, 0 ≤ v7 ∧ v7 < ((a0.length : Nat) : Int), ([(a0.getD v7.toNat T_api_Ban.d)] : List T_api_Ban).length = 1 ∧ ∀ i j, i < 1 → j < 5 → rowsOf T_api_Ban.c T_api_Ban.d ([(a0.getD v7.toNat T_api_Ban.d)] : List T_api_Ban) i j = (([(a0.getD v7.toNat T_api_Ban.d)] : List T_api_Ban).flatMap T_api_Ban.c).getD (i * 5 + j) .junk, Ext 5 w6.length (([(a0.getD v7.toNat T_api_Ban.d)] : List T_api_Ban).length) (rowsOf T_api_Ban.c T_api_Ban.d w6) (rowsOf T_api_Ban.c T_api_Ban.d ([(a0.getD v7.toNat T_api_Ban.d)] : List T_api_Ban)) ((w6 ++ ([(a0.getD v7.toNat T_api_Ban.d)] : List T_api_Ban)).length) (rowsOf T_api_Ban.c T_api_Ban.d (w6 ++ ([(a0.getD v7.toNat T_api_Ban.d)] : List T_api_Ban))), (w6 ++ ([(a0.getD v7.toNat T_api_Ban.d)] : List T_api_Ban)).length * 40 ≤ 140737488355328, (w6 ++ ([(a0.getD v7.toNat T_api_Ban.d)] : List T_api_Ban)).length ≤ maxLen] (by kernel_rfl) ⟨h1, o2, h3, o2, ⟨rfl, fun i j hi hj => rows_flat (sz := 5) (e := T_api_Ban.c) (d := T_api_Ban.d) (fun _ => rfl) ([(a0.getD v7.toNat T_api_Ban.d)] : List T_api_Ban) i j hi hj⟩, (ext_app _ _), o4.1, o4.2, trivial⟩ (ih (add64 v7 (1 : Int)) (w6 ++ ([(a0.getD v7.toNat T_api_Ban.d)] : List T_api_Ban)) r hf)
      · exact toK_good allOk Post.ends 15 _ _ _ _ [⟨[], [], [], [], [], [], []⟩, ⟨[], [], [], [], [], [], []⟩, ⟨[], [], [], [], [], [], []⟩] [true, false] ⟨[], [], [], [], [], [0, 1, 6, 7], [6], []⟩ [(decide (v7 < ((a0.length : Nat) : Int))) = true, 0 ≤ v7 ∧ v7 < ((a0.length : Nat) : Int), (decide ((a0.getD v7.toNat T_api_Ban.d).fUntil > a1)) = false] (by kernel_rfl) ⟨h1, o2, h3, trivial⟩ (ih (add64 v7 (1 : Int)) w6 r hf)
    · replace hf := Option.some.inj hf
      subst hf
      exact toEnd_good allOk 8 _ _ [⟨[], [], [], [], [], [], []⟩, ⟨[], [], [], [], [], [], []⟩] [false] [6] [] [] [(decide (v7 < ((a0.length : Nat) : Int))) = false] (by kernel_rfl) rfl ⟨h1, trivial⟩

/-- doorman/doormanref13.Sweep -/
def g_doormanref13_Sweep (a0 : (List T_api_Ban)) (a1 : Int) : Option ((List T_api_Ban) × Int) :=
  g_doormanref13_Sweep_c0 a0 a1  ((((a0.length : Nat) : Int) - (0 : Int)).toNat + 2) (0 : Int) ([] : List T_api_Ban)

theorem g_doormanref13_Sweep_ok (a0 : (List T_api_Ban)) (a1 : Int) (r : ((List T_api_Ban) × Int)) (hf : g_doormanref13_Sweep a0 a1 = some r) : SCall Try.prog 51 [.one (cL 5 T_api_Ban.c T_api_Ban.d a0), .one (.lit (.int .i64 a1))] (.tup [(false, (cLs 5 T_api_Ban.c T_api_Ban.d) r.1), (false, (cI .i64) r.2)]) := by
  refine SCall.of Try.func51 rfl rfl rfl rfl fun S0 w0 => ?_
  unfold g_doormanref13_Sweep at hf
  exact toK_good allOk Post.ends 8 _ _ _ _ [⟨[], [], [], [], [], [], []⟩, ⟨[(0, .c ([] : List T_api_Ban).length (rowsOf T_api_Ban.c T_api_Ban.d ([] : List T_api_Ban)))], [], [], [], [], [], []⟩, ⟨[], [], [], [], [], [], []⟩] [] ⟨[], [], [], [], [], [0, 1, 6, 7], [8], [(8, 6)]⟩ [([] : List T_api_Ban).length = 0, ∀ i j, i < 0 → j < 5 → rowsOf T_api_Ban.c T_api_Ban.d ([] : List T_api_Ban) i j = (([] : List T_api_Ban).flatMap T_api_Ban.c).getD (i * 5 + j) .junk] (by kernel_rfl) ⟨rfl, (fun i j hi hj => rows_flat (sz := 5) (e := T_api_Ban.c) (d := T_api_Ban.d) (fun _ => rfl) ([] : List T_api_Ban) i j hi hj), trivial⟩ (g_doormanref13_Sweep_c0_ok S0 w0 a0 a1   ((((a0.length : Nat) : Int) - (0 : Int)).toNat + 2) (0 : Int) ([] : List T_api_Ban) r hf)

def g_doormanref13_Right_c1 (a0 : (List T_api_Ban)) (v3 : Int) (kg_doormanref13_Right_c0 : Int → Option Bool) : Nat → Int → Option Bool
  | 0, _ => none
  | fu + 1, v4 =>
    bif (decide (v4 < v3)) then
      need (0 ≤ v4 ∧ v4 < ((a0.length : Nat) : Int)) <|
      need (0 ≤ v3 ∧ v3 < ((a0.length : Nat) : Int)) <|
      (g_doormanref07_Compare ((a0.getD v4.toNat T_api_Ban.d).fNet) ((a0.getD v3.toNat T_api_Ban.d).fNet)).bind fun x2 =>
      bif (decide (x2 ≥ (0 : Int))) then
        some false
      else
        g_doormanref13_Right_c1 a0 v3 kg_doormanref13_Right_c0 fu (add64 v4 (1 : Int))
    else
      kg_doormanref13_Right_c0 (add64 v3 (1 : Int))

theorem g_doormanref13_Right_c1_ok (S0 : Nat → Prop) (w0 : Start) (a0 : (List T_api_Ban)) (v3 : Int) (kg_doormanref13_Right_c0 : Int → Option Bool) (hg_doormanref13_Right_c0 : ∀ (v3_ : Int) (r : Bool), kg_doormanref13_Right_c0 v3_ = some r → Good Try.prog 34 S0 w0 (bodyPost Try.prog Try.f53 (Post S0 w0 (.one (.lit (.bool r))))) (at_ [1, 0, 1, 0] (bodyOf Try.f53)) ⟨[(0, .one (cL 5 T_api_Ban.c T_api_Ban.d a0)), (3, .one (.lit (.int .i64 v3_)))], []⟩) : ∀ (fu : Nat) (v4 : Int) (r : Bool), g_doormanref13_Right_c1 a0 v3 kg_doormanref13_Right_c0 fu v4 = some r → Good Try.prog 34 S0 w0 (bodyPost Try.prog Try.f53 (Post S0 w0 (.one (.lit (.bool r))))) (at_ [1, 0, 1, 0, 0, 1, 0, 0, 1, 1, 0] (bodyOf Try.f53)) ⟨[(0, .one (cL 5 T_api_Ban.c T_api_Ban.d a0)), (3, .one (.lit (.int .i64 v3))), (4, .one (.lit (.int .i64 v4)))], []⟩ := by
  intro fu
  induction fu with
  | zero =>
    intro v4 r hf
    simp [g_doormanref13_Right_c1] at hf
  | succ fu ih =>
    intro v4 r hf
    unfold g_doormanref13_Right_c1 at hf
    rcases br_some hf with ⟨h5, hf⟩ | ⟨h5, hf⟩
    · obtain ⟨o6, hf⟩ := need_some hf
      obtain ⟨o7, hf⟩ := need_some hf
      obtain ⟨x2, q8, hf⟩ := bind_some' hf
      rcases br_some hf with ⟨h9, hf⟩ | ⟨h9, hf⟩
      · replace hf := Option.some.inj hf
        subst hf
        exact toEnd_good allOk 13 _ _ [⟨[], [], [], [], [], [], []⟩, ⟨[(10, .r (.one (.lit (.int .i64 x2))) [])], [], [], [[], [], [0, 1], [2, 0, 1], [3, 2, 0, 1], [], [], [5, 6], [7, 5, 6], [8, 7, 5, 6], [4, 3, 2, 0, 1, 9, 8, 7, 5, 6], [10, 4, 3, 2, 0, 1, 9, 8, 7, 5, 6]], [], [], []⟩, ⟨[], [], [], [], [], [], []⟩] [true, true] [] [] [] [(decide (v4 < v3)) = true, 0 ≤ v4 ∧ v4 < ((a0.length : Nat) : Int), 0 ≤ v3 ∧ v3 < ((a0.length : Nat) : Int), SCall Try.prog 71 [.agg (T_api_Net.c ((a0.getD v4.toNat T_api_Ban.d).fNet)), .agg (T_api_Net.c ((a0.getD v3.toNat T_api_Ban.d).fNet))] (.one (.lit (.int .i64 x2))), (decide (x2 ≥ (0 : Int))) = true] (by kernel_rfl) rfl ⟨h5, o6, o7, (g_doormanref07_Compare_ok ((a0.getD v4.toNat T_api_Ban.d).fNet) ((a0.getD v3.toNat T_api_Ban.d).fNet) x2 q8), h9, trivial⟩
      · exact toK_good allOk Post.ends 15 _ _ _ _ [⟨[], [], [], [], [], [], []⟩, ⟨[(10, .r (.one (.lit (.int .i64 x2))) [])], [], [], [[], [], [0, 1], [2, 0, 1], [3, 2, 0, 1], [], [], [5, 6], [7, 5, 6], [8, 7, 5, 6], [4, 3, 2, 0, 1, 9, 8, 7, 5, 6], [10, 4, 3, 2, 0, 1, 9, 8, 7, 5, 6]], [], [], []⟩, ⟨[], [], [], [], [], [], []⟩] [true, false] ⟨[], [], [], [], [], [0, 3, 4], [], []⟩ [(decide (v4 < v3)) = true, 0 ≤ v4 ∧ v4 < ((a0.length : Nat) : Int), 0 ≤ v3 ∧ v3 < ((a0.length : Nat) : Int), SCall Try.prog 71 [.agg (T_api_Net.c ((a0.getD v4.toNat T_api_Ban.d).fNet)), .agg (T_api_Net.c ((a0.getD v3.toNat T_api_Ban.d).fNet))] (.one (.lit (.int .i64 x2))), (decide (x2 ≥ (0 : Int))) = false] (by kernel_rfl) ⟨h5, o6, o7, (g_doormanref07_Compare_ok ((a0.getD v4.toNat T_api_Ban.d).fNet) ((a0.getD v3.toNat T_api_Ban.d).fNet) x2 q8), h9, trivial⟩ (ih (add64 v4 (1 : Int)) r hf)
    · exact toK_good allOk Post.ends 9 _ _ _ _ [⟨[], [], [], [], [], [], []⟩, ⟨[], [], [], [], [], [], []⟩] [false] ⟨[], [], [], [], [], [0, 3], [], []⟩ [(decide (v4 < v3)) = false] (by kernel_rfl) ⟨h5, trivial⟩ (hg_doormanref13_Right_c0 (add64 v3 (1 : Int)) r hf)

def g_doormanref13_Right_c0 (a0 : (List T_api_Ban))  : Nat → Int → Option Bool
  | 0, _ => none
  | fu + 1, v3 =>
    bif (decide (v3 < ((a0.length : Nat) : Int))) then
      need (0 ≤ v3 ∧ v3 < ((a0.length : Nat) : Int)) <|
      (g_doormanref12_Right (a0.getD v3.toNat T_api_Ban.d)).bind fun x1 =>
      bif (!x1) then
        some false
      else
        g_doormanref13_Right_c1 a0 v3 (g_doormanref13_Right_c0 a0  fu) ((v3 - (0 : Int)).toNat + 2) (0 : Int)
    else
      some true

theorem g_doormanref13_Right_c0_ok (S0 : Nat → Prop) (w0 : Start) (a0 : (List T_api_Ban))  : ∀ (fu : Nat) (v3 : Int) (r : Bool), g_doormanref13_Right_c0 a0  fu v3 = some r → Good Try.prog 34 S0 w0 (bodyPost Try.prog Try.f53 (Post S0 w0 (.one (.lit (.bool r))))) (at_ [1, 0, 1, 0] (bodyOf Try.f53)) ⟨[(0, .one (cL 5 T_api_Ban.c T_api_Ban.d a0)), (3, .one (.lit (.int .i64 v3)))], []⟩ := by
  intro fu
  induction fu with
  | zero =>
    intro v3 r hf
    simp [g_doormanref13_Right_c0] at hf
  | succ fu ih =>
    intro v3 r hf
    unfold g_doormanref13_Right_c0 at hf
    rcases br_some hf with ⟨h1, hf⟩ | ⟨h1, hf⟩
    · obtain ⟨o2, hf⟩ := need_some hf
      obtain ⟨x1, q3, hf⟩ := bind_some' hf
      rcases br_some hf with ⟨h4, hf⟩ | ⟨h4, hf⟩
      · replace hf := Option.some.inj hf
        subst hf
        exact toEnd_good allOk 14 _ _ [⟨[], [], [], [], [], [], []⟩, ⟨[(4, .r (.one (.lit (.bool x1))) [])], [], [], [], [], [], []⟩, ⟨[], [], [], [], [], [], []⟩] [true, true] [] [] [] [(decide (v3 < ((a0.length : Nat) : Int))) = true, 0 ≤ v3 ∧ v3 < ((a0.length : Nat) : Int), SCall Try.prog 105 [.agg (T_api_Ban.c (a0.getD v3.toNat T_api_Ban.d))] (.one (.lit (.bool x1))), (!x1) = true] (by kernel_rfl) rfl ⟨h1, o2, (g_doormanref12_Right_ok (a0.getD v3.toNat T_api_Ban.d) x1 q3), h4, trivial⟩
      · exact toK_good allOk Post.ends 16 _ _ _ _ [⟨[], [], [], [], [], [], []⟩, ⟨[(4, .r (.one (.lit (.bool x1))) [])], [], [], [], [], [], []⟩, ⟨[], [], [], [], [], [], []⟩] [true, false] ⟨[], [], [], [], [], [0, 3, 4], [], []⟩ [(decide (v3 < ((a0.length : Nat) : Int))) = true, 0 ≤ v3 ∧ v3 < ((a0.length : Nat) : Int), SCall Try.prog 105 [.agg (T_api_Ban.c (a0.getD v3.toNat T_api_Ban.d))] (.one (.lit (.bool x1))), (!x1) = false] (by kernel_rfl) ⟨h1, o2, (g_doormanref12_Right_ok (a0.getD v3.toNat T_api_Ban.d) x1 q3), h4, trivial⟩ (g_doormanref13_Right_c1_ok S0 w0 a0 v3 (g_doormanref13_Right_c0 a0  fu) ih ((v3 - (0 : Int)).toNat + 2) (0 : Int) r hf)
    · replace hf := Option.some.inj hf
      subst hf
      exact toEnd_good allOk 8 _ _ [⟨[], [], [], [], [], [], []⟩, ⟨[], [], [], [], [], [], []⟩] [false] [] [] [] [(decide (v3 < ((a0.length : Nat) : Int))) = false] (by kernel_rfl) rfl ⟨h1, trivial⟩

/-- doorman/doormanref13.Right -/
def g_doormanref13_Right (a0 : (List T_api_Ban)) : Option Bool :=
  g_doormanref13_Right_c0 a0  ((((a0.length : Nat) : Int) - (0 : Int)).toNat + 2) (0 : Int)

theorem g_doormanref13_Right_ok (a0 : (List T_api_Ban)) (r : Bool) (hf : g_doormanref13_Right a0 = some r) : SCall Try.prog 53 [.one (cL 5 T_api_Ban.c T_api_Ban.d a0)] (.one (.lit (.bool r))) := by
  refine SCall.of Try.func53 rfl rfl rfl rfl fun S0 w0 => ?_
  unfold g_doormanref13_Right at hf
  exact toK_good allOk Post.ends 6 _ _ _ _ [⟨[], [], [], [], [], [], []⟩, ⟨[], [], [], [], [], [], []⟩] [] ⟨[], [], [], [], [], [0, 3], [], []⟩ [] (by kernel_rfl) trivial (g_doormanref13_Right_c0_ok S0 w0 a0   ((((a0.length : Nat) : Int) - (0 : Int)).toNat + 2) (0 : Int) r hf)

def g_doormansame_Bans_c0 (a0 : (List T_api_Ban)) (a1 : (List T_api_Ban))  : Nat → Int → Option Bool
  | 0, _ => none
  | fu + 1, v5 =>
    bif (decide (v5 < ((a0.length : Nat) : Int))) then
      bif (decide (v5 < ((a1.length : Nat) : Int))) then
        need (0 ≤ v5 ∧ v5 < ((a0.length : Nat) : Int)) <|
        need (0 ≤ v5 ∧ v5 < ((a1.length : Nat) : Int)) <|
        bif (!(decide ((a0.getD v5.toNat T_api_Ban.d) = (a1.getD v5.toNat T_api_Ban.d)))) then
          some false
        else
          g_doormansame_Bans_c0 a0 a1  fu (add64 v5 (1 : Int))
      else
        some true
    else
      some true

theorem g_doormansame_Bans_c0_ok (S0 : Nat → Prop) (w0 : Start) (a0 : (List T_api_Ban)) (a1 : (List T_api_Ban))  : ∀ (fu : Nat) (v5 : Int) (r : Bool), g_doormansame_Bans_c0 a0 a1  fu v5 = some r → Good Try.prog 32 S0 w0 (bodyPost Try.prog Try.f54 (Post S0 w0 (.one (.lit (.bool r))))) (at_ [1, 1, 0, 1, 0] (bodyOf Try.f54)) ⟨[(0, .one (cL 5 T_api_Ban.c T_api_Ban.d a0)), (1, .one (cL 5 T_api_Ban.c T_api_Ban.d a1)), (5, .one (.lit (.int .i64 v5)))], []⟩ := by
  intro fu
  induction fu with
  | zero =>
    intro v5 r hf
    simp [g_doormansame_Bans_c0] at hf
  | succ fu ih =>
    intro v5 r hf
    unfold g_doormansame_Bans_c0 at hf
    rcases br_some hf with ⟨h2, hf⟩ | ⟨h2, hf⟩
    · rcases br_some hf with ⟨h3, hf⟩ | ⟨h3, hf⟩
      · obtain ⟨o4, hf⟩ := need_some hf
        obtain ⟨o5, hf⟩ := need_some hf
        rcases br_some hf with ⟨h6, hf⟩ | ⟨h6, hf⟩
        · replace hf := Option.some.inj hf
          subst hf
          exact toEnd_good allOk 13 _ _ [⟨[], [(4, true)], [], [], [], [], []⟩, ⟨[(8, .r (.one (.lit (.bool (!(decide ((a0.getD v5.toNat T_api_Ban.d) = (a1.getD v5.toNat T_api_Ban.d))))))) [])], [], [], [[], [], [0, 1], [2, 0, 1], [], [], [4, 5], [6, 4, 5], [3, 2, 0, 1, 7, 6, 4, 5]], [], [], []⟩, ⟨[], [], [], [], [], [], []⟩] [true, true] [] [] [] [(decide (v5 < ((a0.length : Nat) : Int))) = true, (decide (v5 < ((a1.length : Nat) : Int))) = true, 0 ≤ v5 ∧ v5 < ((a0.length : Nat) : Int), 0 ≤ v5 ∧ v5 < ((a1.length : Nat) : Int), ∀ w, (do eqGuard .neq 79 (.tmp 26) (.tmp 30) (.agg #[.bool ((((a0.getD v5.toNat T_api_Ban.d).fNet).fAddr).fV6), .int .u64 ((((a0.getD v5.toNat T_api_Ban.d).fNet).fAddr).fHi), .int .u64 ((((a0.getD v5.toNat T_api_Ban.d).fNet).fAddr).fLo), .int .i64 (((a0.getD v5.toNat T_api_Ban.d).fNet).fBits), .int .i64 ((a0.getD v5.toNat T_api_Ban.d).fUntil)]) (.agg #[.bool ((((a1.getD v5.toNat T_api_Ban.d).fNet).fAddr).fV6), .int .u64 ((((a1.getD v5.toNat T_api_Ban.d).fNet).fAddr).fHi), .int .u64 ((((a1.getD v5.toNat T_api_Ban.d).fNet).fAddr).fLo), .int .i64 (((a1.getD v5.toNat T_api_Ban.d).fNet).fBits), .int .i64 ((a1.getD v5.toNat T_api_Ban.d).fUntil)]); binOp .neq 79 (.agg #[.bool ((((a0.getD v5.toNat T_api_Ban.d).fNet).fAddr).fV6), .int .u64 ((((a0.getD v5.toNat T_api_Ban.d).fNet).fAddr).fHi), .int .u64 ((((a0.getD v5.toNat T_api_Ban.d).fNet).fAddr).fLo), .int .i64 (((a0.getD v5.toNat T_api_Ban.d).fNet).fBits), .int .i64 ((a0.getD v5.toNat T_api_Ban.d).fUntil)]) (.agg #[.bool ((((a1.getD v5.toNat T_api_Ban.d).fNet).fAddr).fV6), .int .u64 ((((a1.getD v5.toNat T_api_Ban.d).fNet).fAddr).fHi), .int .u64 ((((a1.getD v5.toNat T_api_Ban.d).fNet).fAddr).fLo), .int .i64 (((a1.getD v5.toNat T_api_Ban.d).fNet).fBits), .int .i64 ((a1.getD v5.toNat T_api_Ban.d).fUntil)]) : Sem Value).run Try.prog w = .ok (.bool (!(decide ((a0.getD v5.toNat T_api_Ban.d) = (a1.getD v5.toNat T_api_Ban.d))))) w, (!(decide ((a0.getD v5.toNat T_api_Ban.d) = (a1.getD v5.toNat T_api_Ban.d)))) = true] (by kernel_rfl) rfl ⟨h2, h3, o4, o5, (neq_T_api_Ban (a0.getD v5.toNat T_api_Ban.d) (a1.getD v5.toNat T_api_Ban.d) _ _), h6, trivial⟩
        · exact toK_good allOk Post.ends 15 _ _ _ _ [⟨[], [(4, true)], [], [], [], [], []⟩, ⟨[(8, .r (.one (.lit (.bool (!(decide ((a0.getD v5.toNat T_api_Ban.d) = (a1.getD v5.toNat T_api_Ban.d))))))) [])], [], [], [[], [], [0, 1], [2, 0, 1], [], [], [4, 5], [6, 4, 5], [3, 2, 0, 1, 7, 6, 4, 5]], [], [], []⟩, ⟨[], [], [], [], [], [], []⟩] [true, false] ⟨[], [], [], [], [], [0, 1, 5], [], []⟩ [(decide (v5 < ((a0.length : Nat) : Int))) = true, (decide (v5 < ((a1.length : Nat) : Int))) = true, 0 ≤ v5 ∧ v5 < ((a0.length : Nat) : Int), 0 ≤ v5 ∧ v5 < ((a1.length : Nat) : Int), ∀ w, (do eqGuard .neq 79 (.tmp 26) (.tmp 30) (.agg #[.bool ((((a0.getD v5.toNat T_api_Ban.d).fNet).fAddr).fV6), .int .u64 ((((a0.getD v5.toNat T_api_Ban.d).fNet).fAddr).fHi), .int .u64 ((((a0.getD v5.toNat T_api_Ban.d).fNet).fAddr).fLo), .int .i64 (((a0.getD v5.toNat T_api_Ban.d).fNet).fBits), .int .i64 ((a0.getD v5.toNat T_api_Ban.d).fUntil)]) (.agg #[.bool ((((a1.getD v5.toNat T_api_Ban.d).fNet).fAddr).fV6), .int .u64 ((((a1.getD v5.toNat T_api_Ban.d).fNet).fAddr).fHi), .int .u64 ((((a1.getD v5.toNat T_api_Ban.d).fNet).fAddr).fLo), .int .i64 (((a1.getD v5.toNat T_api_Ban.d).fNet).fBits), .int .i64 ((a1.getD v5.toNat T_api_Ban.d).fUntil)]); binOp .neq 79 (.agg #[.bool ((((a0.getD v5.toNat T_api_Ban.d).fNet).fAddr).fV6), .int .u64 ((((a0.getD v5.toNat T_api_Ban.d).fNet).fAddr).fHi), .int .u64 ((((a0.getD v5.toNat T_api_Ban.d).fNet).fAddr).fLo), .int .i64 (((a0.getD v5.toNat T_api_Ban.d).fNet).fBits), .int .i64 ((a0.getD v5.toNat T_api_Ban.d).fUntil)]) (.agg #[.bool ((((a1.getD v5.toNat T_api_Ban.d).fNet).fAddr).fV6), .int .u64 ((((a1.getD v5.toNat T_api_Ban.d).fNet).fAddr).fHi), .int .u64 ((((a1.getD v5.toNat T_api_Ban.d).fNet).fAddr).fLo), .int .i64 (((a1.getD v5.toNat T_api_Ban.d).fNet).fBits), .int .i64 ((a1.getD v5.toNat T_api_Ban.d).fUntil)]) : Sem Value).run Try.prog w = .ok (.bool (!(decide ((a0.getD v5.toNat T_api_Ban.d) = (a1.getD v5.toNat T_api_Ban.d))))) w, (!(decide ((a0.getD v5.toNat T_api_Ban.d) = (a1.getD v5.toNat T_api_Ban.d)))) = false] (by kernel_rfl) ⟨h2, h3, o4, o5, (neq_T_api_Ban (a0.getD v5.toNat T_api_Ban.d) (a1.getD v5.toNat T_api_Ban.d) _ _), h6, trivial⟩ (ih (add64 v5 (1 : Int)) r hf)
      · replace hf := Option.some.inj hf
        subst hf
        exact toEnd_good allOk 8 _ _ [⟨[], [(4, true)], [], [], [], [], []⟩, ⟨[], [], [], [], [], [], []⟩] [false] [] [] [] [(decide (v5 < ((a0.length : Nat) : Int))) = true, (decide (v5 < ((a1.length : Nat) : Int))) = false] (by kernel_rfl) rfl ⟨h2, h3, trivial⟩
    · replace hf := Option.some.inj hf
      subst hf
      exact toEnd_good allOk 8 _ _ [⟨[], [(4, false)], [], [], [], [], []⟩, ⟨[], [], [], [], [], [], []⟩] [false] [] [] [] [(decide (v5 < ((a0.length : Nat) : Int))) = false, false = false] (by kernel_rfl) rfl ⟨h2, rfl, trivial⟩

/-- doorman/doormansame.Bans -/
def g_doormansame_Bans (a0 : (List T_api_Ban)) (a1 : (List T_api_Ban)) : Option Bool :=
  bif (((a0.length : Nat) : Int) != ((a1.length : Nat) : Int)) then
    some false
  else
    g_doormansame_Bans_c0 a0 a1  ((((a1.length : Nat) : Int) - (0 : Int)).toNat + 2) (0 : Int)

theorem g_doormansame_Bans_ok (a0 : (List T_api_Ban)) (a1 : (List T_api_Ban)) (r : Bool) (hf : g_doormansame_Bans a0 a1 = some r) : SCall Try.prog 54 [.one (cL 5 T_api_Ban.c T_api_Ban.d a0), .one (cL 5 T_api_Ban.c T_api_Ban.d a1)] (.one (.lit (.bool r))) := by
  refine SCall.of Try.func54 rfl rfl rfl rfl fun S0 w0 => ?_
  unfold g_doormansame_Bans at hf
  rcases br_some hf with ⟨h1, hf⟩ | ⟨h1, hf⟩
  · replace hf := Option.some.inj hf
    subst hf
    exact toEnd_good allOk 8 _ _ [⟨[], [], [], [], [], [], []⟩, ⟨[], [], [], [], [], [], []⟩, ⟨[], [], [], [], [], [], []⟩] [true] [] [] [] [(((a0.length : Nat) : Int) != ((a1.length : Nat) : Int)) = true] (by kernel_rfl) rfl ⟨h1, trivial⟩
  · exact toK_good allOk Post.ends 11 _ _ _ _ [⟨[], [], [], [], [], [], []⟩, ⟨[], [], [], [], [], [], []⟩, ⟨[], [], [], [], [], [], []⟩] [false] ⟨[], [], [], [], [], [0, 1, 5], [], []⟩ [(((a0.length : Nat) : Int) != ((a1.length : Nat) : Int)) = false] (by kernel_rfl) ⟨h1, trivial⟩ (g_doormansame_Bans_c0_ok S0 w0 a0 a1   ((((a1.length : Nat) : Int) - (0 : Int)).toNat + 2) (0 : Int) r hf)

/-- doorman/doormanlaw13.BansTells -/
def g_doormanlaw13_BansTells (a0 : (List T_api_Ban)) (a1 : T_api_Ban) (a2 : Int) : Option Bool :=
  bif (decide (((a0.length : Nat) : Int) > (60 : Int))) then
    (g_doormanlaw13_awake).bind fun x1 =>
    some x1
  else
    (g_bans_Add a0 a1 a2).bind fun x2 =>
    (g_doormanref13_Add a0 a1 a2).bind fun x3 =>
    (g_bans_Drop a0 a1.fNet).bind fun x4 =>
    (g_doormanref13_Drop a0 a1.fNet).bind fun x5 =>
    (g_bans_Sweep a0 a2).bind fun x6 =>
    (g_doormanref13_Sweep a0 a2).bind fun x7 =>
    (g_bans_Right a0).bind fun x8 =>
    (g_doormanref13_Right a0).bind fun x9 =>
    bif (x8 == x9) then
      (g_doormansame_Bans x2.1 x3.1).bind fun x10 =>
      bif x10 then
        bif (x2.2 == x3.2) then
          (g_doormansame_Bans x4.1 x5.1).bind fun x11 =>
          bif x11 then
            bif (x4.2 == x5.2) then
              (g_doormansame_Bans x6.1 x7.1).bind fun x12 =>
              bif x12 then
                bif (x6.2 == x7.2) then
                  (g_doormanlaw13_awake).bind fun x13 =>
                  some x13
                else
                  some false
              else
                some false
            else
              some false
          else
            some false
        else
          some false
      else
        some false
    else
      some false

theorem g_doormanlaw13_BansTells_ok (a0 : (List T_api_Ban)) (a1 : T_api_Ban) (a2 : Int) (r : Bool) (hf : g_doormanlaw13_BansTells a0 a1 a2 = some r) : SCall Try.prog 10 [.one (cL 5 T_api_Ban.c T_api_Ban.d a0), .agg (T_api_Ban.c a1), .one (.lit (.int .i64 a2))] (.one (.lit (.bool r))) := by
  refine SCall.of Try.func10 rfl rfl rfl rfl fun S0 w0 => ?_
  unfold g_doormanlaw13_BansTells at hf
  rcases br_some hf with ⟨h1, hf⟩ | ⟨h1, hf⟩
  · obtain ⟨x1, q2, hf⟩ := bind_some' hf
    replace hf := Option.some.inj hf
    subst hf
    exact toEnd_good allOk 8 _ _ [⟨[], [], [], [], [], [], []⟩, ⟨[], [], [], [], [], [], []⟩, ⟨[(0, .r (.one (.lit (.bool x1))) [])], [], [], [], [], [], []⟩] [true] [] [] [] [(decide (((a0.length : Nat) : Int) > (60 : Int))) = true, SCall Try.prog 43 [] (.one (.lit (.bool x1)))] (by kernel_rfl) rfl ⟨h1, (g_doormanlaw13_awake_ok  x1 q2), trivial⟩
  · obtain ⟨x2, q3, hf⟩ := bind_some' hf
    obtain ⟨x3, q4, hf⟩ := bind_some' hf
    obtain ⟨x4, q5, hf⟩ := bind_some' hf
    obtain ⟨x5, q6, hf⟩ := bind_some' hf
    obtain ⟨x6, q7, hf⟩ := bind_some' hf
    obtain ⟨x7, q8, hf⟩ := bind_some' hf
    obtain ⟨x8, q9, hf⟩ := bind_some' hf
    obtain ⟨x9, q10, hf⟩ := bind_some' hf
    rcases br_some hf with ⟨h11, hf⟩ | ⟨h11, hf⟩
    · obtain ⟨x10, q12, hf⟩ := bind_some' hf
      rcases br_some hf with ⟨h13, hf⟩ | ⟨h13, hf⟩
      · rcases br_some hf with ⟨h14, hf⟩ | ⟨h14, hf⟩
        · obtain ⟨x11, q15, hf⟩ := bind_some' hf
          rcases br_some hf with ⟨h16, hf⟩ | ⟨h16, hf⟩
          · rcases br_some hf with ⟨h17, hf⟩ | ⟨h17, hf⟩
            · obtain ⟨x12, q18, hf⟩ := bind_some' hf
              rcases br_some hf with ⟨h19, hf⟩ | ⟨h19, hf⟩
              · rcases br_some hf with ⟨h20, hf⟩ | ⟨h20, hf⟩
                · obtain ⟨x13, q21, hf⟩ := bind_some' hf
                  replace hf := Option.some.inj hf
                  subst hf
                  exact toEnd_good allOk 21 _ _ [⟨[], [], [], [], [], [], []⟩, ⟨[], [], [], [], [], [], []⟩, ⟨[(3, .r (.tup [(false, (cLs 5 T_api_Ban.c T_api_Ban.d) x2.1), (false, (cI .i64) x2.2)]) [])], [], [], [], [], [], []⟩, ⟨[(3, .r (.tup [(false, (cLs 5 T_api_Ban.c T_api_Ban.d) x3.1), (false, (cI .i64) x3.2)]) [])], [], [], [], [], [], []⟩, ⟨[(3, .r (.tup [(false, (cLs 5 T_api_Ban.c T_api_Ban.d) x4.1), (false, (cI .i64) x4.2)]) [])], [], [], [], [], [], []⟩, ⟨[(3, .r (.tup [(false, (cLs 5 T_api_Ban.c T_api_Ban.d) x5.1), (false, (cI .i64) x5.2)]) [])], [], [], [], [], [], []⟩, ⟨[(2, .r (.tup [(false, (cLs 5 T_api_Ban.c T_api_Ban.d) x6.1), (false, (cI .i64) x6.2)]) [])], [], [], [], [], [], []⟩, ⟨[(2, .r (.tup [(false, (cLs 5 T_api_Ban.c T_api_Ban.d) x7.1), (false, (cI .i64) x7.2)]) [])], [], [], [], [], [], []⟩, ⟨[(1, .r (.one (.lit (.bool x8))) []), (3, .r (.one (.lit (.bool x9))) []), (8, .r (.one (.lit (.bool x10))) []), (18, .r (.one (.lit (.bool x11))) []), (28, .r (.one (.lit (.bool x12))) []), (36, .r (.one (.lit (.bool x13))) [])], [(5, true), (10, true), (15, true), (20, true), (25, true), (30, true), (35, true)], [], [], [], [], []⟩] [false] [] [] [] [(decide (((a0.length : Nat) : Int) > (60 : Int))) = false, SCall Try.prog 47 [.one (cL 5 T_api_Ban.c T_api_Ban.d a0), .agg (T_api_Ban.c a1), .one (.lit (.int .i64 a2))] (.tup [(false, (cLs 5 T_api_Ban.c T_api_Ban.d) x2.1), (false, (cI .i64) x2.2)]), SCall Try.prog 48 [.one (cL 5 T_api_Ban.c T_api_Ban.d a0), .agg (T_api_Ban.c a1), .one (.lit (.int .i64 a2))] (.tup [(false, (cLs 5 T_api_Ban.c T_api_Ban.d) x3.1), (false, (cI .i64) x3.2)]), SCall Try.prog 49 [.one (cL 5 T_api_Ban.c T_api_Ban.d a0), .agg (T_api_Net.c a1.fNet)] (.tup [(false, (cLs 5 T_api_Ban.c T_api_Ban.d) x4.1), (false, (cI .i64) x4.2)]), SCall Try.prog 50 [.one (cL 5 T_api_Ban.c T_api_Ban.d a0), .agg (T_api_Net.c a1.fNet)] (.tup [(false, (cLs 5 T_api_Ban.c T_api_Ban.d) x5.1), (false, (cI .i64) x5.2)]), SCall Try.prog 46 [.one (cL 5 T_api_Ban.c T_api_Ban.d a0), .one (.lit (.int .i64 a2))] (.tup [(false, (cLs 5 T_api_Ban.c T_api_Ban.d) x6.1), (false, (cI .i64) x6.2)]), SCall Try.prog 51 [.one (cL 5 T_api_Ban.c T_api_Ban.d a0), .one (.lit (.int .i64 a2))] (.tup [(false, (cLs 5 T_api_Ban.c T_api_Ban.d) x7.1), (false, (cI .i64) x7.2)]), SCall Try.prog 52 [.one (cL 5 T_api_Ban.c T_api_Ban.d a0)] (.one (.lit (.bool x8))), SCall Try.prog 53 [.one (cL 5 T_api_Ban.c T_api_Ban.d a0)] (.one (.lit (.bool x9))), (x8 == x9) = true, SCall Try.prog 54 [.one (cL 5 T_api_Ban.c T_api_Ban.d x2.1), .one (cL 5 T_api_Ban.c T_api_Ban.d x3.1)] (.one (.lit (.bool x10))), x10 = true, (x2.2 == x3.2) = true, SCall Try.prog 54 [.one (cL 5 T_api_Ban.c T_api_Ban.d x4.1), .one (cL 5 T_api_Ban.c T_api_Ban.d x5.1)] (.one (.lit (.bool x11))), x11 = true, (x4.2 == x5.2) = true, SCall Try.prog 54 [.one (cL 5 T_api_Ban.c T_api_Ban.d x6.1), .one (cL 5 T_api_Ban.c T_api_Ban.d x7.1)] (.one (.lit (.bool x12))), x12 = true, (x6.2 == x7.2) = true, SCall Try.prog 43 [] (.one (.lit (.bool x13)))] (by kernel_rfl) rfl ⟨h1, (g_bans_Add_ok a0 a1 a2 x2 q3), (g_doormanref13_Add_ok a0 a1 a2 x3 q4), (g_bans_Drop_ok a0 a1.fNet x4 q5), (g_doormanref13_Drop_ok a0 a1.fNet x5 q6), (g_bans_Sweep_ok a0 a2 x6 q7), (g_doormanref13_Sweep_ok a0 a2 x7 q8), (g_bans_Right_ok a0 x8 q9), (g_doormanref13_Right_ok a0 x9 q10), h11, (g_doormansame_Bans_ok x2.1 x3.1 x10 q12), h13, h14, (g_doormansame_Bans_ok x4.1 x5.1 x11 q15), h16, h17, (g_doormansame_Bans_ok x6.1 x7.1 x12 q18), h19, h20, (g_doormanlaw13_awake_ok  x13 q21), trivial⟩
                · replace hf := Option.some.inj hf
                  subst hf
                  exact toEnd_good allOk 21 _ _ [⟨[], [], [], [], [], [], []⟩, ⟨[], [], [], [], [], [], []⟩, ⟨[(3, .r (.tup [(false, (cLs 5 T_api_Ban.c T_api_Ban.d) x2.1), (false, (cI .i64) x2.2)]) [])], [], [], [], [], [], []⟩, ⟨[(3, .r (.tup [(false, (cLs 5 T_api_Ban.c T_api_Ban.d) x3.1), (false, (cI .i64) x3.2)]) [])], [], [], [], [], [], []⟩, ⟨[(3, .r (.tup [(false, (cLs 5 T_api_Ban.c T_api_Ban.d) x4.1), (false, (cI .i64) x4.2)]) [])], [], [], [], [], [], []⟩, ⟨[(3, .r (.tup [(false, (cLs 5 T_api_Ban.c T_api_Ban.d) x5.1), (false, (cI .i64) x5.2)]) [])], [], [], [], [], [], []⟩, ⟨[(2, .r (.tup [(false, (cLs 5 T_api_Ban.c T_api_Ban.d) x6.1), (false, (cI .i64) x6.2)]) [])], [], [], [], [], [], []⟩, ⟨[(2, .r (.tup [(false, (cLs 5 T_api_Ban.c T_api_Ban.d) x7.1), (false, (cI .i64) x7.2)]) [])], [], [], [], [], [], []⟩, ⟨[(1, .r (.one (.lit (.bool x8))) []), (3, .r (.one (.lit (.bool x9))) []), (8, .r (.one (.lit (.bool x10))) []), (18, .r (.one (.lit (.bool x11))) []), (28, .r (.one (.lit (.bool x12))) [])], [(5, true), (10, true), (15, true), (20, true), (25, true), (30, true), (35, false)], [], [], [], [], []⟩] [false] [] [] [] [(decide (((a0.length : Nat) : Int) > (60 : Int))) = false, SCall Try.prog 47 [.one (cL 5 T_api_Ban.c T_api_Ban.d a0), .agg (T_api_Ban.c a1), .one (.lit (.int .i64 a2))] (.tup [(false, (cLs 5 T_api_Ban.c T_api_Ban.d) x2.1), (false, (cI .i64) x2.2)]), SCall Try.prog 48 [.one (cL 5 T_api_Ban.c T_api_Ban.d a0), .agg (T_api_Ban.c a1), .one (.lit (.int .i64 a2))] (.tup [(false, (cLs 5 T_api_Ban.c T_api_Ban.d) x3.1), (false, (cI .i64) x3.2)]), SCall Try.prog 49 [.one (cL 5 T_api_Ban.c T_api_Ban.d a0), .agg (T_api_Net.c a1.fNet)] (.tup [(false, (cLs 5 T_api_Ban.c T_api_Ban.d) x4.1), (false, (cI .i64) x4.2)]), SCall Try.prog 50 [.one (cL 5 T_api_Ban.c T_api_Ban.d a0), .agg (T_api_Net.c a1.fNet)] (.tup [(false, (cLs 5 T_api_Ban.c T_api_Ban.d) x5.1), (false, (cI .i64) x5.2)]), SCall Try.prog 46 [.one (cL 5 T_api_Ban.c T_api_Ban.d a0), .one (.lit (.int .i64 a2))] (.tup [(false, (cLs 5 T_api_Ban.c T_api_Ban.d) x6.1), (false, (cI .i64) x6.2)]), SCall Try.prog 51 [.one (cL 5 T_api_Ban.c T_api_Ban.d a0), .one (.lit (.int .i64 a2))] (.tup [(false, (cLs 5 T_api_Ban.c T_api_Ban.d) x7.1), (false, (cI .i64) x7.2)]), SCall Try.prog 52 [.one (cL 5 T_api_Ban.c T_api_Ban.d a0)] (.one (.lit (.bool x8))), SCall Try.prog 53 [.one (cL 5 T_api_Ban.c T_api_Ban.d a0)] (.one (.lit (.bool x9))), (x8 == x9) = true, SCall Try.prog 54 [.one (cL 5 T_api_Ban.c T_api_Ban.d x2.1), .one (cL 5 T_api_Ban.c T_api_Ban.d x3.1)] (.one (.lit (.bool x10))), x10 = true, (x2.2 == x3.2) = true, SCall Try.prog 54 [.one (cL 5 T_api_Ban.c T_api_Ban.d x4.1), .one (cL 5 T_api_Ban.c T_api_Ban.d x5.1)] (.one (.lit (.bool x11))), x11 = true, (x4.2 == x5.2) = true, SCall Try.prog 54 [.one (cL 5 T_api_Ban.c T_api_Ban.d x6.1), .one (cL 5 T_api_Ban.c T_api_Ban.d x7.1)] (.one (.lit (.bool x12))), x12 = true, (x6.2 == x7.2) = false] (by kernel_rfl) rfl ⟨h1, (g_bans_Add_ok a0 a1 a2 x2 q3), (g_doormanref13_Add_ok a0 a1 a2 x3 q4), (g_bans_Drop_ok a0 a1.fNet x4 q5), (g_doormanref13_Drop_ok a0 a1.fNet x5 q6), (g_bans_Sweep_ok a0 a2 x6 q7), (g_doormanref13_Sweep_ok a0 a2 x7 q8), (g_bans_Right_ok a0 x8 q9), (g_doormanref13_Right_ok a0 x9 q10), h11, (g_doormansame_Bans_ok x2.1 x3.1 x10 q12), h13, h14, (g_doormansame_Bans_ok x4.1 x5.1 x11 q15), h16, h17, (g_doormansame_Bans_ok x6.1 x7.1 x12 q18), h19, h20, trivial⟩
              · replace hf := Option.some.inj hf
                subst hf
                exact toEnd_good allOk 21 _ _ [⟨[], [], [], [], [], [], []⟩, ⟨[], [], [], [], [], [], []⟩, ⟨[(3, .r (.tup [(false, (cLs 5 T_api_Ban.c T_api_Ban.d) x2.1), (false, (cI .i64) x2.2)]) [])], [], [], [], [], [], []⟩, ⟨[(3, .r (.tup [(false, (cLs 5 T_api_Ban.c T_api_Ban.d) x3.1), (false, (cI .i64) x3.2)]) [])], [], [], [], [], [], []⟩, ⟨[(3, .r (.tup [(false, (cLs 5 T_api_Ban.c T_api_Ban.d) x4.1), (false, (cI .i64) x4.2)]) [])], [], [], [], [], [], []⟩, ⟨[(3, .r (.tup [(false, (cLs 5 T_api_Ban.c T_api_Ban.d) x5.1), (false, (cI .i64) x5.2)]) [])], [], [], [], [], [], []⟩, ⟨[(2, .r (.tup [(false, (cLs 5 T_api_Ban.c T_api_Ban.d) x6.1), (false, (cI .i64) x6.2)]) [])], [], [], [], [], [], []⟩, ⟨[(2, .r (.tup [(false, (cLs 5 T_api_Ban.c T_api_Ban.d) x7.1), (false, (cI .i64) x7.2)]) [])], [], [], [], [], [], []⟩, ⟨[(1, .r (.one (.lit (.bool x8))) []), (3, .r (.one (.lit (.bool x9))) []), (8, .r (.one (.lit (.bool x10))) []), (18, .r (.one (.lit (.bool x11))) []), (28, .r (.one (.lit (.bool x12))) [])], [(5, true), (10, true), (15, true), (20, true), (25, true), (30, false)], [], [], [], [], []⟩] [false] [] [] [] [(decide (((a0.length : Nat) : Int) > (60 : Int))) = false, SCall Try.prog 47 [.one (cL 5 T_api_Ban.c T_api_Ban.d a0), .agg (T_api_Ban.c a1), .one (.lit (.int .i64 a2))] (.tup [(false, (cLs 5 T_api_Ban.c T_api_Ban.d) x2.1), (false, (cI .i64) x2.2)]), SCall Try.prog 48 [.one (cL 5 T_api_Ban.c T_api_Ban.d a0), .agg (T_api_Ban.c a1), .one (.lit (.int .i64 a2))] (.tup [(false, (cLs 5 T_api_Ban.c T_api_Ban.d) x3.1), (false, (cI .i64) x3.2)]), SCall Try.prog 49 [.one (cL 5 T_api_Ban.c T_api_Ban.d a0), .agg (T_api_Net.c a1.fNet)] (.tup [(false, (cLs 5 T_api_Ban.c T_api_Ban.d) x4.1), (false, (cI .i64) x4.2)]), SCall Try.prog 50 [.one (cL 5 T_api_Ban.c T_api_Ban.d a0), .agg (T_api_Net.c a1.fNet)] (.tup [(false, (cLs 5 T_api_Ban.c T_api_Ban.d) x5.1), (false, (cI .i64) x5.2)]), SCall Try.prog 46 [.one (cL 5 T_api_Ban.c T_api_Ban.d a0), .one (.lit (.int .i64 a2))] (.tup [(false, (cLs 5 T_api_Ban.c T_api_Ban.d) x6.1), (false, (cI .i64) x6.2)]), SCall Try.prog 51 [.one (cL 5 T_api_Ban.c T_api_Ban.d a0), .one (.lit (.int .i64 a2))] (.tup [(false, (cLs 5 T_api_Ban.c T_api_Ban.d) x7.1), (false, (cI .i64) x7.2)]), SCall Try.prog 52 [.one (cL 5 T_api_Ban.c T_api_Ban.d a0)] (.one (.lit (.bool x8))), SCall Try.prog 53 [.one (cL 5 T_api_Ban.c T_api_Ban.d a0)] (.one (.lit (.bool x9))), (x8 == x9) = true, SCall Try.prog 54 [.one (cL 5 T_api_Ban.c T_api_Ban.d x2.1), .one (cL 5 T_api_Ban.c T_api_Ban.d x3.1)] (.one (.lit (.bool x10))), x10 = true, (x2.2 == x3.2) = true, SCall Try.prog 54 [.one (cL 5 T_api_Ban.c T_api_Ban.d x4.1), .one (cL 5 T_api_Ban.c T_api_Ban.d x5.1)] (.one (.lit (.bool x11))), x11 = true, (x4.2 == x5.2) = true, SCall Try.prog 54 [.one (cL 5 T_api_Ban.c T_api_Ban.d x6.1), .one (cL 5 T_api_Ban.c T_api_Ban.d x7.1)] (.one (.lit (.bool x12))), x12 = false] (by kernel_rfl) rfl ⟨h1, (g_bans_Add_ok a0 a1 a2 x2 q3), (g_doormanref13_Add_ok a0 a1 a2 x3 q4), (g_bans_Drop_ok a0 a1.fNet x4 q5), (g_doormanref13_Drop_ok a0 a1.fNet x5 q6), (g_bans_Sweep_ok a0 a2 x6 q7), (g_doormanref13_Sweep_ok a0 a2 x7 q8), (g_bans_Right_ok a0 x8 q9), (g_doormanref13_Right_ok a0 x9 q10), h11, (g_doormansame_Bans_ok x2.1 x3.1 x10 q12), h13, h14, (g_doormansame_Bans_ok x4.1 x5.1 x11 q15), h16, h17, (g_doormansame_Bans_ok x6.1 x7.1 x12 q18), h19, trivial⟩
            · replace hf := Option.some.inj hf
              subst hf
              exact toEnd_good allOk 21 _ _ [⟨[], [], [], [], [], [], []⟩, ⟨[], [], [], [], [], [], []⟩, ⟨[(3, .r (.tup [(false, (cLs 5 T_api_Ban.c T_api_Ban.d) x2.1), (false, (cI .i64) x2.2)]) [])], [], [], [], [], [], []⟩, ⟨[(3, .r (.tup [(false, (cLs 5 T_api_Ban.c T_api_Ban.d) x3.1), (false, (cI .i64) x3.2)]) [])], [], [], [], [], [], []⟩, ⟨[(3, .r (.tup [(false, (cLs 5 T_api_Ban.c T_api_Ban.d) x4.1), (false, (cI .i64) x4.2)]) [])], [], [], [], [], [], []⟩, ⟨[(3, .r (.tup [(false, (cLs 5 T_api_Ban.c T_api_Ban.d) x5.1), (false, (cI .i64) x5.2)]) [])], [], [], [], [], [], []⟩, ⟨[(2, .r (.tup [(false, (cLs 5 T_api_Ban.c T_api_Ban.d) x6.1), (false, (cI .i64) x6.2)]) [])], [], [], [], [], [], []⟩, ⟨[(2, .r (.tup [(false, (cLs 5 T_api_Ban.c T_api_Ban.d) x7.1), (false, (cI .i64) x7.2)]) [])], [], [], [], [], [], []⟩, ⟨[(1, .r (.one (.lit (.bool x8))) []), (3, .r (.one (.lit (.bool x9))) []), (8, .r (.one (.lit (.bool x10))) []), (18, .r (.one (.lit (.bool x11))) [])], [(5, true), (10, true), (15, true), (20, true), (25, false)], [], [], [], [], []⟩] [false] [] [] [] [(decide (((a0.length : Nat) : Int) > (60 : Int))) = false, SCall Try.prog 47 [.one (cL 5 T_api_Ban.c T_api_Ban.d a0), .agg (T_api_Ban.c a1), .one (.lit (.int .i64 a2))] (.tup [(false, (cLs 5 T_api_Ban.c T_api_Ban.d) x2.1), (false, (cI .i64) x2.2)]), SCall Try.prog 48 [.one (cL 5 T_api_Ban.c T_api_Ban.d a0), .agg (T_api_Ban.c a1), .one (.lit (.int .i64 a2))] (.tup [(false, (cLs 5 T_api_Ban.c T_api_Ban.d) x3.1), (false, (cI .i64) x3.2)]), SCall Try.prog 49 [.one (cL 5 T_api_Ban.c T_api_Ban.d a0), .agg (T_api_Net.c a1.fNet)] (.tup [(false, (cLs 5 T_api_Ban.c T_api_Ban.d) x4.1), (false, (cI .i64) x4.2)]), SCall Try.prog 50 [.one (cL 5 T_api_Ban.c T_api_Ban.d a0), .agg (T_api_Net.c a1.fNet)] (.tup [(false, (cLs 5 T_api_Ban.c T_api_Ban.d) x5.1), (false, (cI .i64) x5.2)]), SCall Try.prog 46 [.one (cL 5 T_api_Ban.c T_api_Ban.d a0), .one (.lit (.int .i64 a2))] (.tup [(false, (cLs 5 T_api_Ban.c T_api_Ban.d) x6.1), (false, (cI .i64) x6.2)]), SCall Try.prog 51 [.one (cL 5 T_api_Ban.c T_api_Ban.d a0), .one (.lit (.int .i64 a2))] (.tup [(false, (cLs 5 T_api_Ban.c T_api_Ban.d) x7.1), (false, (cI .i64) x7.2)]), SCall Try.prog 52 [.one (cL 5 T_api_Ban.c T_api_Ban.d a0)] (.one (.lit (.bool x8))), SCall Try.prog 53 [.one (cL 5 T_api_Ban.c T_api_Ban.d a0)] (.one (.lit (.bool x9))), (x8 == x9) = true, SCall Try.prog 54 [.one (cL 5 T_api_Ban.c T_api_Ban.d x2.1), .one (cL 5 T_api_Ban.c T_api_Ban.d x3.1)] (.one (.lit (.bool x10))), x10 = true, (x2.2 == x3.2) = true, SCall Try.prog 54 [.one (cL 5 T_api_Ban.c T_api_Ban.d x4.1), .one (cL 5 T_api_Ban.c T_api_Ban.d x5.1)] (.one (.lit (.bool x11))), x11 = true, (x4.2 == x5.2) = false] (by kernel_rfl) rfl ⟨h1, (g_bans_Add_ok a0 a1 a2 x2 q3), (g_doormanref13_Add_ok a0 a1 a2 x3 q4), (g_bans_Drop_ok a0 a1.fNet x4 q5), (g_doormanref13_Drop_ok a0 a1.fNet x5 q6), (g_bans_Sweep_ok a0 a2 x6 q7), (g_doormanref13_Sweep_ok a0 a2 x7 q8), (g_bans_Right_ok a0 x8 q9), (g_doormanref13_Right_ok a0 x9 q10), h11, (g_doormansame_Bans_ok x2.1 x3.1 x10 q12), h13, h14, (g_doormansame_Bans_ok x4.1 x5.1 x11 q15), h16, h17, trivial⟩
          · replace hf := Option.some.inj hf
            subst hf
            exact toEnd_good allOk 21 _ _ [⟨[], [], [], [], [], [], []⟩, ⟨[], [], [], [], [], [], []⟩, ⟨[(3, .r (.tup [(false, (cLs 5 T_api_Ban.c T_api_Ban.d) x2.1), (false, (cI .i64) x2.2)]) [])], [], [], [], [], [], []⟩, ⟨[(3, .r (.tup [(false, (cLs 5 T_api_Ban.c T_api_Ban.d) x3.1), (false, (cI .i64) x3.2)]) [])], [], [], [], [], [], []⟩, ⟨[(3, .r (.tup [(false, (cLs 5 T_api_Ban.c T_api_Ban.d) x4.1), (false, (cI .i64) x4.2)]) [])], [], [], [], [], [], []⟩, ⟨[(3, .r (.tup [(false, (cLs 5 T_api_Ban.c T_api_Ban.d) x5.1), (false, (cI .i64) x5.2)]) [])], [], [], [], [], [], []⟩, ⟨[(2, .r (.tup [(false, (cLs 5 T_api_Ban.c T_api_Ban.d) x6.1), (false, (cI .i64) x6.2)]) [])], [], [], [], [], [], []⟩, ⟨[(2, .r (.tup [(false, (cLs 5 T_api_Ban.c T_api_Ban.d) x7.1), (false, (cI .i64) x7.2)]) [])], [], [], [], [], [], []⟩, ⟨[(1, .r (.one (.lit (.bool x8))) []), (3, .r (.one (.lit (.bool x9))) []), (8, .r (.one (.lit (.bool x10))) []), (18, .r (.one (.lit (.bool x11))) [])], [(5, true), (10, true), (15, true), (20, false)], [], [], [], [], []⟩] [false] [] [] [] [(decide (((a0.length : Nat) : Int) > (60 : Int))) = false, SCall Try.prog 47 [.one (cL 5 T_api_Ban.c T_api_Ban.d a0), .agg (T_api_Ban.c a1), .one (.lit (.int .i64 a2))] (.tup [(false, (cLs 5 T_api_Ban.c T_api_Ban.d) x2.1), (false, (cI .i64) x2.2)]), SCall Try.prog 48 [.one (cL 5 T_api_Ban.c T_api_Ban.d a0), .agg (T_api_Ban.c a1), .one (.lit (.int .i64 a2))] (.tup [(false, (cLs 5 T_api_Ban.c T_api_Ban.d) x3.1), (false, (cI .i64) x3.2)]), SCall Try.prog 49 [.one (cL 5 T_api_Ban.c T_api_Ban.d a0), .agg (T_api_Net.c a1.fNet)] (.tup [(false, (cLs 5 T_api_Ban.c T_api_Ban.d) x4.1), (false, (cI .i64) x4.2)]), SCall Try.prog 50 [.one (cL 5 T_api_Ban.c T_api_Ban.d a0), .agg (T_api_Net.c a1.fNet)] (.tup [(false, (cLs 5 T_api_Ban.c T_api_Ban.d) x5.1), (false, (cI .i64) x5.2)]), SCall Try.prog 46 [.one (cL 5 T_api_Ban.c T_api_Ban.d a0), .one (.lit (.int .i64 a2))] (.tup [(false, (cLs 5 T_api_Ban.c T_api_Ban.d) x6.1), (false, (cI .i64) x6.2)]), SCall Try.prog 51 [.one (cL 5 T_api_Ban.c T_api_Ban.d a0), .one (.lit (.int .i64 a2))] (.tup [(false, (cLs 5 T_api_Ban.c T_api_Ban.d) x7.1), (false, (cI .i64) x7.2)]), SCall Try.prog 52 [.one (cL 5 T_api_Ban.c T_api_Ban.d a0)] (.one (.lit (.bool x8))), SCall Try.prog 53 [.one (cL 5 T_api_Ban.c T_api_Ban.d a0)] (.one (.lit (.bool x9))), (x8 == x9) = true, SCall Try.prog 54 [.one (cL 5 T_api_Ban.c T_api_Ban.d x2.1), .one (cL 5 T_api_Ban.c T_api_Ban.d x3.1)] (.one (.lit (.bool x10))), x10 = true, (x2.2 == x3.2) = true, SCall Try.prog 54 [.one (cL 5 T_api_Ban.c T_api_Ban.d x4.1), .one (cL 5 T_api_Ban.c T_api_Ban.d x5.1)] (.one (.lit (.bool x11))), x11 = false] (by kernel_rfl) rfl ⟨h1, (g_bans_Add_ok a0 a1 a2 x2 q3), (g_doormanref13_Add_ok a0 a1 a2 x3 q4), (g_bans_Drop_ok a0 a1.fNet x4 q5), (g_doormanref13_Drop_ok a0 a1.fNet x5 q6), (g_bans_Sweep_ok a0 a2 x6 q7), (g_doormanref13_Sweep_ok a0 a2 x7 q8), (g_bans_Right_ok a0 x8 q9), (g_doormanref13_Right_ok a0 x9 q10), h11, (g_doormansame_Bans_ok x2.1 x3.1 x10 q12), h13, h14, (g_doormansame_Bans_ok x4.1 x5.1 x11 q15), h16, trivial⟩
        · replace hf := Option.some.inj hf
          subst hf
          exact toEnd_good allOk 21 _ _ [⟨[], [], [], [], [], [], []⟩, ⟨[], [], [], [], [], [], []⟩, ⟨[(3, .r (.tup [(false, (cLs 5 T_api_Ban.c T_api_Ban.d) x2.1), (false, (cI .i64) x2.2)]) [])], [], [], [], [], [], []⟩, ⟨[(3, .r (.tup [(false, (cLs 5 T_api_Ban.c T_api_Ban.d) x3.1), (false, (cI .i64) x3.2)]) [])], [], [], [], [], [], []⟩, ⟨[(3, .r (.tup [(false, (cLs 5 T_api_Ban.c T_api_Ban.d) x4.1), (false, (cI .i64) x4.2)]) [])], [], [], [], [], [], []⟩, ⟨[(3, .r (.tup [(false, (cLs 5 T_api_Ban.c T_api_Ban.d) x5.1), (false, (cI .i64) x5.2)]) [])], [], [], [], [], [], []⟩, ⟨[(2, .r (.tup [(false, (cLs 5 T_api_Ban.c T_api_Ban.d) x6.1), (false, (cI .i64) x6.2)]) [])], [], [], [], [], [], []⟩, ⟨[(2, .r (.tup [(false, (cLs 5 T_api_Ban.c T_api_Ban.d) x7.1), (false, (cI .i64) x7.2)]) [])], [], [], [], [], [], []⟩, ⟨[(1, .r (.one (.lit (.bool x8))) []), (3, .r (.one (.lit (.bool x9))) []), (8, .r (.one (.lit (.bool x10))) [])], [(5, true), (10, true), (15, false)], [], [], [], [], []⟩] [false] [] [] [] [(decide (((a0.length : Nat) : Int) > (60 : Int))) = false, SCall Try.prog 47 [.one (cL 5 T_api_Ban.c T_api_Ban.d a0), .agg (T_api_Ban.c a1), .one (.lit (.int .i64 a2))] (.tup [(false, (cLs 5 T_api_Ban.c T_api_Ban.d) x2.1), (false, (cI .i64) x2.2)]), SCall Try.prog 48 [.one (cL 5 T_api_Ban.c T_api_Ban.d a0), .agg (T_api_Ban.c a1), .one (.lit (.int .i64 a2))] (.tup [(false, (cLs 5 T_api_Ban.c T_api_Ban.d) x3.1), (false, (cI .i64) x3.2)]), SCall Try.prog 49 [.one (cL 5 T_api_Ban.c T_api_Ban.d a0), .agg (T_api_Net.c a1.fNet)] (.tup [(false, (cLs 5 T_api_Ban.c T_api_Ban.d) x4.1), (false, (cI .i64) x4.2)]), SCall Try.prog 50 [.one (cL 5 T_api_Ban.c T_api_Ban.d a0), .agg (T_api_Net.c a1.fNet)] (.tup [(false, (cLs 5 T_api_Ban.c T_api_Ban.d) x5.1), (false, (cI .i64) x5.2)]), SCall Try.prog 46 [.one (cL 5 T_api_Ban.c T_api_Ban.d a0), .one (.lit (.int .i64 a2))] (.tup [(false, (cLs 5 T_api_Ban.c T_api_Ban.d) x6.1), (false, (cI .i64) x6.2)]), SCall Try.prog 51 [.one (cL 5 T_api_Ban.c T_api_Ban.d a0), .one (.lit (.int .i64 a2))] (.tup [(false, (cLs 5 T_api_Ban.c T_api_Ban.d) x7.1), (false, (cI .i64) x7.2)]), SCall Try.prog 52 [.one (cL 5 T_api_Ban.c T_api_Ban.d a0)] (.one (.lit (.bool x8))), SCall Try.prog 53 [.one (cL 5 T_api_Ban.c T_api_Ban.d a0)] (.one (.lit (.bool x9))), (x8 == x9) = true, SCall Try.prog 54 [.one (cL 5 T_api_Ban.c T_api_Ban.d x2.1), .one (cL 5 T_api_Ban.c T_api_Ban.d x3.1)] (.one (.lit (.bool x10))), x10 = true, (x2.2 == x3.2) = false] (by kernel_rfl) rfl ⟨h1, (g_bans_Add_ok a0 a1 a2 x2 q3), (g_doormanref13_Add_ok a0 a1 a2 x3 q4), (g_bans_Drop_ok a0 a1.fNet x4 q5), (g_doormanref13_Drop_ok a0 a1.fNet x5 q6), (g_bans_Sweep_ok a0 a2 x6 q7), (g_doormanref13_Sweep_ok a0 a2 x7 q8), (g_bans_Right_ok a0 x8 q9), (g_doormanref13_Right_ok a0 x9 q10), h11, (g_doormansame_Bans_ok x2.1 x3.1 x10 q12), h13, h14, trivial⟩
      · replace hf := Option.some.inj hf
        subst hf
        exact toEnd_good allOk 21 _ _ [⟨[], [], [], [], [], [], []⟩, ⟨[], [], [], [], [], [], []⟩, ⟨[(3, .r (.tup [(false, (cLs 5 T_api_Ban.c T_api_Ban.d) x2.1), (false, (cI .i64) x2.2)]) [])], [], [], [], [], [], []⟩, ⟨[(3, .r (.tup [(false, (cLs 5 T_api_Ban.c T_api_Ban.d) x3.1), (false, (cI .i64) x3.2)]) [])], [], [], [], [], [], []⟩, ⟨[(3, .r (.tup [(false, (cLs 5 T_api_Ban.c T_api_Ban.d) x4.1), (false, (cI .i64) x4.2)]) [])], [], [], [], [], [], []⟩, ⟨[(3, .r (.tup [(false, (cLs 5 T_api_Ban.c T_api_Ban.d) x5.1), (false, (cI .i64) x5.2)]) [])], [], [], [], [], [], []⟩, ⟨[(2, .r (.tup [(false, (cLs 5 T_api_Ban.c T_api_Ban.d) x6.1), (false, (cI .i64) x6.2)]) [])], [], [], [], [], [], []⟩, ⟨[(2, .r (.tup [(false, (cLs 5 T_api_Ban.c T_api_Ban.d) x7.1), (false, (cI .i64) x7.2)]) [])], [], [], [], [], [], []⟩, ⟨[(1, .r (.one (.lit (.bool x8))) []), (3, .r (.one (.lit (.bool x9))) []), (8, .r (.one (.lit (.bool x10))) [])], [(5, true), (10, false)], [], [], [], [], []⟩] [false] [] [] [] [(decide (((a0.length : Nat) : Int) > (60 : Int))) = false, SCall Try.prog 47 [.one (cL 5 T_api_Ban.c T_api_Ban.d a0), .agg (T_api_Ban.c a1), .one (.lit (.int .i64 a2))] (.tup [(false, (cLs 5 T_api_Ban.c T_api_Ban.d) x2.1), (false, (cI .i64) x2.2)]), SCall Try.prog 48 [.one (cL 5 T_api_Ban.c T_api_Ban.d a0), .agg (T_api_Ban.c a1), .one (.lit (.int .i64 a2))] (.tup [(false, (cLs 5 T_api_Ban.c T_api_Ban.d) x3.1), (false, (cI .i64) x3.2)]), SCall Try.prog 49 [.one (cL 5 T_api_Ban.c T_api_Ban.d a0), .agg (T_api_Net.c a1.fNet)] (.tup [(false, (cLs 5 T_api_Ban.c T_api_Ban.d) x4.1), (false, (cI .i64) x4.2)]), SCall Try.prog 50 [.one (cL 5 T_api_Ban.c T_api_Ban.d a0), .agg (T_api_Net.c a1.fNet)] (.tup [(false, (cLs 5 T_api_Ban.c T_api_Ban.d) x5.1), (false, (cI .i64) x5.2)]), SCall Try.prog 46 [.one (cL 5 T_api_Ban.c T_api_Ban.d a0), .one (.lit (.int .i64 a2))] (.tup [(false, (cLs 5 T_api_Ban.c T_api_Ban.d) x6.1), (false, (cI .i64) x6.2)]), SCall Try.prog 51 [.one (cL 5 T_api_Ban.c T_api_Ban.d a0), .one (.lit (.int .i64 a2))] (.tup [(false, (cLs 5 T_api_Ban.c T_api_Ban.d) x7.1), (false, (cI .i64) x7.2)]), SCall Try.prog 52 [.one (cL 5 T_api_Ban.c T_api_Ban.d a0)] (.one (.lit (.bool x8))), SCall Try.prog 53 [.one (cL 5 T_api_Ban.c T_api_Ban.d a0)] (.one (.lit (.bool x9))), (x8 == x9) = true, SCall Try.prog 54 [.one (cL 5 T_api_Ban.c T_api_Ban.d x2.1), .one (cL 5 T_api_Ban.c T_api_Ban.d x3.1)] (.one (.lit (.bool x10))), x10 = false] (by kernel_rfl) rfl ⟨h1, (g_bans_Add_ok a0 a1 a2 x2 q3), (g_doormanref13_Add_ok a0 a1 a2 x3 q4), (g_bans_Drop_ok a0 a1.fNet x4 q5), (g_doormanref13_Drop_ok a0 a1.fNet x5 q6), (g_bans_Sweep_ok a0 a2 x6 q7), (g_doormanref13_Sweep_ok a0 a2 x7 q8), (g_bans_Right_ok a0 x8 q9), (g_doormanref13_Right_ok a0 x9 q10), h11, (g_doormansame_Bans_ok x2.1 x3.1 x10 q12), h13, trivial⟩
    · replace hf := Option.some.inj hf
      subst hf
      exact toEnd_good allOk 21 _ _ [⟨[], [], [], [], [], [], []⟩, ⟨[], [], [], [], [], [], []⟩, ⟨[(3, .r (.tup [(false, (cLs 5 T_api_Ban.c T_api_Ban.d) x2.1), (false, (cI .i64) x2.2)]) [])], [], [], [], [], [], []⟩, ⟨[(3, .r (.tup [(false, (cLs 5 T_api_Ban.c T_api_Ban.d) x3.1), (false, (cI .i64) x3.2)]) [])], [], [], [], [], [], []⟩, ⟨[(3, .r (.tup [(false, (cLs 5 T_api_Ban.c T_api_Ban.d) x4.1), (false, (cI .i64) x4.2)]) [])], [], [], [], [], [], []⟩, ⟨[(3, .r (.tup [(false, (cLs 5 T_api_Ban.c T_api_Ban.d) x5.1), (false, (cI .i64) x5.2)]) [])], [], [], [], [], [], []⟩, ⟨[(2, .r (.tup [(false, (cLs 5 T_api_Ban.c T_api_Ban.d) x6.1), (false, (cI .i64) x6.2)]) [])], [], [], [], [], [], []⟩, ⟨[(2, .r (.tup [(false, (cLs 5 T_api_Ban.c T_api_Ban.d) x7.1), (false, (cI .i64) x7.2)]) [])], [], [], [], [], [], []⟩, ⟨[(1, .r (.one (.lit (.bool x8))) []), (3, .r (.one (.lit (.bool x9))) [])], [(5, false)], [], [], [], [], []⟩] [false] [] [] [] [(decide (((a0.length : Nat) : Int) > (60 : Int))) = false, SCall Try.prog 47 [.one (cL 5 T_api_Ban.c T_api_Ban.d a0), .agg (T_api_Ban.c a1), .one (.lit (.int .i64 a2))] (.tup [(false, (cLs 5 T_api_Ban.c T_api_Ban.d) x2.1), (false, (cI .i64) x2.2)]), SCall Try.prog 48 [.one (cL 5 T_api_Ban.c T_api_Ban.d a0), .agg (T_api_Ban.c a1), .one (.lit (.int .i64 a2))] (.tup [(false, (cLs 5 T_api_Ban.c T_api_Ban.d) x3.1), (false, (cI .i64) x3.2)]), SCall Try.prog 49 [.one (cL 5 T_api_Ban.c T_api_Ban.d a0), .agg (T_api_Net.c a1.fNet)] (.tup [(false, (cLs 5 T_api_Ban.c T_api_Ban.d) x4.1), (false, (cI .i64) x4.2)]), SCall Try.prog 50 [.one (cL 5 T_api_Ban.c T_api_Ban.d a0), .agg (T_api_Net.c a1.fNet)] (.tup [(false, (cLs 5 T_api_Ban.c T_api_Ban.d) x5.1), (false, (cI .i64) x5.2)]), SCall Try.prog 46 [.one (cL 5 T_api_Ban.c T_api_Ban.d a0), .one (.lit (.int .i64 a2))] (.tup [(false, (cLs 5 T_api_Ban.c T_api_Ban.d) x6.1), (false, (cI .i64) x6.2)]), SCall Try.prog 51 [.one (cL 5 T_api_Ban.c T_api_Ban.d a0), .one (.lit (.int .i64 a2))] (.tup [(false, (cLs 5 T_api_Ban.c T_api_Ban.d) x7.1), (false, (cI .i64) x7.2)]), SCall Try.prog 52 [.one (cL 5 T_api_Ban.c T_api_Ban.d a0)] (.one (.lit (.bool x8))), SCall Try.prog 53 [.one (cL 5 T_api_Ban.c T_api_Ban.d a0)] (.one (.lit (.bool x9))), (x8 == x9) = false] (by kernel_rfl) rfl ⟨h1, (g_bans_Add_ok a0 a1 a2 x2 q3), (g_doormanref13_Add_ok a0 a1 a2 x3 q4), (g_bans_Drop_ok a0 a1.fNet x4 q5), (g_doormanref13_Drop_ok a0 a1.fNet x5 q6), (g_bans_Sweep_ok a0 a2 x6 q7), (g_doormanref13_Sweep_ok a0 a2 x7 q8), (g_bans_Right_ok a0 x8 q9), (g_doormanref13_Right_ok a0 x9 q10), h11, trivial⟩

def g_doormanlaw13_BansStay_c1 (a0 : (List T_doormanlaw13_Act)) (a1 : Int) (v6 : Int) (kg_doormanlaw13_BansStay_c0 : (List T_api_Ban) → Int → Option Bool) (v5 : (List T_api_Ban)) : Option Bool :=
  (g_bans_Right v5).bind fun x4 =>
  bif (!x4) then
    some false
  else
    bif (decide (((v5.length : Nat) : Int) > (if (0 : Int) > a1 then (0 : Int) else a1))) then
      some false
    else
      kg_doormanlaw13_BansStay_c0 v5 (add64 v6 (1 : Int))

theorem g_doormanlaw13_BansStay_c1_ok (S0 : Nat → Prop) (w0 : Start) (a0 : (List T_doormanlaw13_Act)) (a1 : Int) (v6 : Int) (kg_doormanlaw13_BansStay_c0 : (List T_api_Ban) → Int → Option Bool) (hg_doormanlaw13_BansStay_c0 : ∀ (v5_ : (List T_api_Ban)) (v6_ : Int) (r : Bool), kg_doormanlaw13_BansStay_c0 v5_ v6_ = some r → Good Try.prog 103 S0 w0 (bodyPost Try.prog Try.f11 (Post S0 w0 (.one (.lit (.bool r))))) (at_ [1, 1, 1, 0, 1, 0] (bodyOf Try.f11)) ⟨[(0, .one (cL 6 T_doormanlaw13_Act.c T_doormanlaw13_Act.d a0)), (1, .one (.lit (.int .i64 a1))), (5, .one (cL 5 T_api_Ban.c T_api_Ban.d v5_)), (6, .one (.lit (.int .i64 v6_)))], []⟩) (v5 : (List T_api_Ban)) (r : Bool) (hf : g_doormanlaw13_BansStay_c1 a0 a1 v6 kg_doormanlaw13_BansStay_c0 v5 = some r) : Good Try.prog 103 S0 w0 (bodyPost Try.prog Try.f11 (Post S0 w0 (.one (.lit (.bool r))))) (at_ [1, 1, 1, 0, 1, 0, 0, 1, 0, 0, 1, 1] (bodyOf Try.f11)) ⟨[(0, .one (cL 6 T_doormanlaw13_Act.c T_doormanlaw13_Act.d a0)), (1, .one (.lit (.int .i64 a1))), (5, .one (cL 5 T_api_Ban.c T_api_Ban.d v5)), (6, .one (.lit (.int .i64 v6)))], []⟩ := by
  unfold g_doormanlaw13_BansStay_c1 at hf
  obtain ⟨x4, q10, hf⟩ := bind_some' hf
  rcases br_some hf with ⟨h11, hf⟩ | ⟨h11, hf⟩
  · replace hf := Option.some.inj hf
    subst hf
    exact toEnd_good allOk 5 _ _ [⟨[(1, .r (.one (.lit (.bool x4))) [])], [(3, true)], [], [], [], [], []⟩, ⟨[], [], [], [], [], [], []⟩] [true] [] [] [] [SCall Try.prog 52 [.one (cL 5 T_api_Ban.c T_api_Ban.d v5)] (.one (.lit (.bool x4))), (!x4) = true, true = true] (by kernel_rfl) rfl ⟨(g_bans_Right_ok v5 x4 q10), h11, rfl, trivial⟩
  · rcases br_some hf with ⟨h12, hf⟩ | ⟨h12, hf⟩
    · replace hf := Option.some.inj hf
      subst hf
      exact toEnd_good allOk 5 _ _ [⟨[(1, .r (.one (.lit (.bool x4))) [])], [(3, false)], [], [], [], [], []⟩, ⟨[], [], [], [], [], [], []⟩] [true] [] [] [] [SCall Try.prog 52 [.one (cL 5 T_api_Ban.c T_api_Ban.d v5)] (.one (.lit (.bool x4))), (!x4) = false, (decide (((v5.length : Nat) : Int) > (if (0 : Int) > a1 then (0 : Int) else a1))) = true] (by kernel_rfl) rfl ⟨(g_bans_Right_ok v5 x4 q10), h11, h12, trivial⟩
    · exact toK_good allOk Post.ends 7 _ _ _ _ [⟨[(1, .r (.one (.lit (.bool x4))) [])], [(3, false)], [], [], [], [], []⟩, ⟨[], [], [], [], [], [], []⟩] [false] ⟨[], [], [], [], [], [0, 1, 5, 6], [], []⟩ [SCall Try.prog 52 [.one (cL 5 T_api_Ban.c T_api_Ban.d v5)] (.one (.lit (.bool x4))), (!x4) = false, (decide (((v5.length : Nat) : Int) > (if (0 : Int) > a1 then (0 : Int) else a1))) = false] (by kernel_rfl) ⟨(g_bans_Right_ok v5 x4 q10), h11, h12, trivial⟩ (hg_doormanlaw13_BansStay_c0 v5 (add64 v6 (1 : Int)) r hf)

def g_doormanlaw13_BansStay_c0 (a0 : (List T_doormanlaw13_Act)) (a1 : Int)  : Nat → (List T_api_Ban) → Int → Option Bool
  | 0, _, _ => none
  | fu + 1, v5, v6 =>
    bif (decide (v6 < ((a0.length : Nat) : Int))) then
      need (0 ≤ v6 ∧ v6 < ((a0.length : Nat) : Int)) <|
      bif ((a0.getD v6.toNat T_doormanlaw13_Act.d).fKind == (0 : Int)) then
        (g_bans_Add v5 ((a0.getD v6.toNat T_doormanlaw13_Act.d).fBan) a1).bind fun x2 =>
        bif (x2.2 == (0 : Int)) then
          (g_bans_Until x2.1 ((((a0.getD v6.toNat T_doormanlaw13_Act.d).fBan).fNet).fAddr) (sub64 (((a0.getD v6.toNat T_doormanlaw13_Act.d).fBan).fUntil) (1 : Int))).bind fun x3 =>
          bif (decide (x3 < ((a0.getD v6.toNat T_doormanlaw13_Act.d).fBan).fUntil)) then
            some false
          else
            g_doormanlaw13_BansStay_c1 a0 a1 v6 (g_doormanlaw13_BansStay_c0 a0 a1  fu) x2.1
        else
          g_doormanlaw13_BansStay_c1 a0 a1 v6 (g_doormanlaw13_BansStay_c0 a0 a1  fu) v5
      else
        bif ((a0.getD v6.toNat T_doormanlaw13_Act.d).fKind == (1 : Int)) then
          (g_bans_Drop v5 (((a0.getD v6.toNat T_doormanlaw13_Act.d).fBan).fNet)).bind fun x4 =>
          bif (x4.2 == (0 : Int)) then
            bif (((x4.1.length : Nat) : Int) != (sub64 ((v5.length : Nat) : Int) (1 : Int))) then
              some false
            else
              g_doormanlaw13_BansStay_c1 a0 a1 v6 (g_doormanlaw13_BansStay_c0 a0 a1  fu) x4.1
          else
            g_doormanlaw13_BansStay_c1 a0 a1 v6 (g_doormanlaw13_BansStay_c0 a0 a1  fu) v5
        else
          (g_bans_Sweep v5 (((a0.getD v6.toNat T_doormanlaw13_Act.d).fBan).fUntil)).bind fun x5 =>
          bif ((add64 ((x5.1.length : Nat) : Int) x5.2) != ((v5.length : Nat) : Int)) then
            some false
          else
            g_doormanlaw13_BansStay_c1 a0 a1 v6 (g_doormanlaw13_BansStay_c0 a0 a1  fu) x5.1
    else
      (g_doormanlaw13_awake).bind fun x6 =>
      some x6

theorem g_doormanlaw13_BansStay_c0_ok (S0 : Nat → Prop) (w0 : Start) (a0 : (List T_doormanlaw13_Act)) (a1 : Int)  : ∀ (fu : Nat) (v5 : (List T_api_Ban)) (v6 : Int) (r : Bool), g_doormanlaw13_BansStay_c0 a0 a1  fu v5 v6 = some r → Good Try.prog 103 S0 w0 (bodyPost Try.prog Try.f11 (Post S0 w0 (.one (.lit (.bool r))))) (at_ [1, 1, 1, 0, 1, 0] (bodyOf Try.f11)) ⟨[(0, .one (cL 6 T_doormanlaw13_Act.c T_doormanlaw13_Act.d a0)), (1, .one (.lit (.int .i64 a1))), (5, .one (cL 5 T_api_Ban.c T_api_Ban.d v5)), (6, .one (.lit (.int .i64 v6)))], []⟩ := by
  intro fu
  induction fu with
  | zero =>
    intro v5 v6 r hf
    simp [g_doormanlaw13_BansStay_c0] at hf
  | succ fu ih =>
    intro v5 v6 r hf
    unfold g_doormanlaw13_BansStay_c0 at hf
    rcases br_some hf with ⟨h3, hf⟩ | ⟨h3, hf⟩
    · obtain ⟨o4, hf⟩ := need_some hf
      rcases br_some hf with ⟨h5, hf⟩ | ⟨h5, hf⟩
      · obtain ⟨x2, q6, hf⟩ := bind_some' hf
        rcases br_some hf with ⟨h7, hf⟩ | ⟨h7, hf⟩
        · obtain ⟨x3, q8, hf⟩ := bind_some' hf
          rcases br_some hf with ⟨h9, hf⟩ | ⟨h9, hf⟩
          · replace hf := Option.some.inj hf
            subst hf
            exact toEnd_good allOk 29 _ _ [⟨[], [], [], [], [], [], []⟩, ⟨[], [], [], [], [], [], []⟩, ⟨[], [], [], [], [], [], []⟩, ⟨[], [], [], [], [], [], []⟩, ⟨[(4, .r (.tup [(false, (cLs 5 T_api_Ban.c T_api_Ban.d) x2.1), (false, (cI .i64) x2.2)]) [])], [], [], [], [], [], []⟩, ⟨[], [], [], [], [], [], []⟩, ⟨[], [], [], [], [], [], []⟩, ⟨[(9, .r (.one (.lit (.int .i64 x3))) [])], [], [], [[], [], [1], [2, 1], [3, 2, 1], [], [5], [6, 5], [7, 6, 5], [0, 4, 3, 2, 1, 8, 7, 6, 5], [], [10], [11, 10], [9, 0, 4, 3, 2, 1, 8, 7, 6, 5, 12, 11, 10]], [], [], []⟩, ⟨[], [], [], [], [], [], []⟩] [true, true, true, true] [] [] [] [(decide (v6 < ((a0.length : Nat) : Int))) = true, 0 ≤ v6 ∧ v6 < ((a0.length : Nat) : Int), ((a0.getD v6.toNat T_doormanlaw13_Act.d).fKind == (0 : Int)) = true, SCall Try.prog 47 [.one (cL 5 T_api_Ban.c T_api_Ban.d v5), .agg (T_api_Ban.c ((a0.getD v6.toNat T_doormanlaw13_Act.d).fBan)), .one (.lit (.int .i64 a1))] (.tup [(false, (cLs 5 T_api_Ban.c T_api_Ban.d) x2.1), (false, (cI .i64) x2.2)]), (x2.2 == (0 : Int)) = true, SCall Try.prog 44 [.one (cL 5 T_api_Ban.c T_api_Ban.d x2.1), .agg (T_api_Addr.c ((((a0.getD v6.toNat T_doormanlaw13_Act.d).fBan).fNet).fAddr)), .one (.lit (.int .i64 (sub64 (((a0.getD v6.toNat T_doormanlaw13_Act.d).fBan).fUntil) (1 : Int))))] (.one (.lit (.int .i64 x3))), (decide (x3 < ((a0.getD v6.toNat T_doormanlaw13_Act.d).fBan).fUntil)) = true] (by kernel_rfl) rfl ⟨h3, o4, h5, (g_bans_Add_ok v5 ((a0.getD v6.toNat T_doormanlaw13_Act.d).fBan) a1 x2 q6), h7, (g_bans_Until_ok x2.1 ((((a0.getD v6.toNat T_doormanlaw13_Act.d).fBan).fNet).fAddr) (sub64 (((a0.getD v6.toNat T_doormanlaw13_Act.d).fBan).fUntil) (1 : Int)) x3 q8), h9, trivial⟩
          · exact toK_good allOk Post.ends 29 _ _ _ _ [⟨[], [], [], [], [], [], []⟩, ⟨[], [], [], [], [], [], []⟩, ⟨[], [], [], [], [], [], []⟩, ⟨[], [], [], [], [], [], []⟩, ⟨[(4, .r (.tup [(false, (cLs 5 T_api_Ban.c T_api_Ban.d) x2.1), (false, (cI .i64) x2.2)]) [])], [], [], [], [], [], []⟩, ⟨[], [], [], [], [], [], []⟩, ⟨[], [], [], [], [], [], []⟩, ⟨[(9, .r (.one (.lit (.int .i64 x3))) [])], [], [], [[], [], [1], [2, 1], [3, 2, 1], [], [5], [6, 5], [7, 6, 5], [0, 4, 3, 2, 1, 8, 7, 6, 5], [], [10], [11, 10], [9, 0, 4, 3, 2, 1, 8, 7, 6, 5, 12, 11, 10]], [], [], []⟩] [true, true, true, false] ⟨[], [], [], [], [], [0, 1, 5, 6], [], []⟩ [(decide (v6 < ((a0.length : Nat) : Int))) = true, 0 ≤ v6 ∧ v6 < ((a0.length : Nat) : Int), ((a0.getD v6.toNat T_doormanlaw13_Act.d).fKind == (0 : Int)) = true, SCall Try.prog 47 [.one (cL 5 T_api_Ban.c T_api_Ban.d v5), .agg (T_api_Ban.c ((a0.getD v6.toNat T_doormanlaw13_Act.d).fBan)), .one (.lit (.int .i64 a1))] (.tup [(false, (cLs 5 T_api_Ban.c T_api_Ban.d) x2.1), (false, (cI .i64) x2.2)]), (x2.2 == (0 : Int)) = true, SCall Try.prog 44 [.one (cL 5 T_api_Ban.c T_api_Ban.d x2.1), .agg (T_api_Addr.c ((((a0.getD v6.toNat T_doormanlaw13_Act.d).fBan).fNet).fAddr)), .one (.lit (.int .i64 (sub64 (((a0.getD v6.toNat T_doormanlaw13_Act.d).fBan).fUntil) (1 : Int))))] (.one (.lit (.int .i64 x3))), (decide (x3 < ((a0.getD v6.toNat T_doormanlaw13_Act.d).fBan).fUntil)) = false] (by kernel_rfl) ⟨h3, o4, h5, (g_bans_Add_ok v5 ((a0.getD v6.toNat T_doormanlaw13_Act.d).fBan) a1 x2 q6), h7, (g_bans_Until_ok x2.1 ((((a0.getD v6.toNat T_doormanlaw13_Act.d).fBan).fNet).fAddr) (sub64 (((a0.getD v6.toNat T_doormanlaw13_Act.d).fBan).fUntil) (1 : Int)) x3 q8), h9, trivial⟩ (g_doormanlaw13_BansStay_c1_ok S0 w0 a0 a1 v6 (g_doormanlaw13_BansStay_c0 a0 a1  fu) ih x2.1 r hf)
        · exact toK_good allOk Post.ends 24 _ _ _ _ [⟨[], [], [], [], [], [], []⟩, ⟨[], [], [], [], [], [], []⟩, ⟨[], [], [], [], [], [], []⟩, ⟨[], [], [], [], [], [], []⟩, ⟨[(4, .r (.tup [(false, (cLs 5 T_api_Ban.c T_api_Ban.d) x2.1), (false, (cI .i64) x2.2)]) [])], [], [], [], [], [], []⟩, ⟨[], [], [], [], [], [], []⟩] [true, true, false] ⟨[], [], [], [], [], [0, 1, 5, 6], [], []⟩ [(decide (v6 < ((a0.length : Nat) : Int))) = true, 0 ≤ v6 ∧ v6 < ((a0.length : Nat) : Int), ((a0.getD v6.toNat T_doormanlaw13_Act.d).fKind == (0 : Int)) = true, SCall Try.prog 47 [.one (cL 5 T_api_Ban.c T_api_Ban.d v5), .agg (T_api_Ban.c ((a0.getD v6.toNat T_doormanlaw13_Act.d).fBan)), .one (.lit (.int .i64 a1))] (.tup [(false, (cLs 5 T_api_Ban.c T_api_Ban.d) x2.1), (false, (cI .i64) x2.2)]), (x2.2 == (0 : Int)) = false] (by kernel_rfl) ⟨h3, o4, h5, (g_bans_Add_ok v5 ((a0.getD v6.toNat T_doormanlaw13_Act.d).fBan) a1 x2 q6), h7, trivial⟩ (g_doormanlaw13_BansStay_c1_ok S0 w0 a0 a1 v6 (g_doormanlaw13_BansStay_c0 a0 a1  fu) ih v5 r hf)
      · rcases br_some hf with ⟨h10, hf⟩ | ⟨h10, hf⟩
        · obtain ⟨x4, q11, hf⟩ := bind_some' hf
          rcases br_some hf with ⟨h12, hf⟩ | ⟨h12, hf⟩
          · rcases br_some hf with ⟨h13, hf⟩ | ⟨h13, hf⟩
            · replace hf := Option.some.inj hf
              subst hf
              exact toEnd_good allOk 31 _ _ [⟨[], [], [], [], [], [], []⟩, ⟨[], [], [], [], [], [], []⟩, ⟨[], [], [], [], [], [], []⟩, ⟨[], [], [], [], [], [], []⟩, ⟨[], [], [], [], [], [], []⟩, ⟨[(4, .r (.tup [(false, (cLs 5 T_api_Ban.c T_api_Ban.d) x4.1), (false, (cI .i64) x4.2)]) [])], [], [], [], [], [], []⟩, ⟨[], [], [], [], [], [], []⟩, ⟨[], [], [], [], [], [], []⟩, ⟨[], [], [], [], [], [], []⟩] [true, false, true, true, true] [] [] [] [(decide (v6 < ((a0.length : Nat) : Int))) = true, 0 ≤ v6 ∧ v6 < ((a0.length : Nat) : Int), ((a0.getD v6.toNat T_doormanlaw13_Act.d).fKind == (0 : Int)) = false, ((a0.getD v6.toNat T_doormanlaw13_Act.d).fKind == (1 : Int)) = true, SCall Try.prog 49 [.one (cL 5 T_api_Ban.c T_api_Ban.d v5), .agg (T_api_Net.c (((a0.getD v6.toNat T_doormanlaw13_Act.d).fBan).fNet))] (.tup [(false, (cLs 5 T_api_Ban.c T_api_Ban.d) x4.1), (false, (cI .i64) x4.2)]), (x4.2 == (0 : Int)) = true, (((x4.1.length : Nat) : Int) != (sub64 ((v5.length : Nat) : Int) (1 : Int))) = true] (by kernel_rfl) rfl ⟨h3, o4, h5, h10, (g_bans_Drop_ok v5 (((a0.getD v6.toNat T_doormanlaw13_Act.d).fBan).fNet) x4 q11), h12, h13, trivial⟩
            · exact toK_good allOk Post.ends 32 _ _ _ _ [⟨[], [], [], [], [], [], []⟩, ⟨[], [], [], [], [], [], []⟩, ⟨[], [], [], [], [], [], []⟩, ⟨[], [], [], [], [], [], []⟩, ⟨[], [], [], [], [], [], []⟩, ⟨[(4, .r (.tup [(false, (cLs 5 T_api_Ban.c T_api_Ban.d) x4.1), (false, (cI .i64) x4.2)]) [])], [], [], [], [], [], []⟩, ⟨[], [], [], [], [], [], []⟩, ⟨[], [], [], [], [], [], []⟩, ⟨[], [], [], [], [], [], []⟩] [true, false, true, true, false] ⟨[], [], [], [], [], [0, 1, 5, 6], [], []⟩ [(decide (v6 < ((a0.length : Nat) : Int))) = true, 0 ≤ v6 ∧ v6 < ((a0.length : Nat) : Int), ((a0.getD v6.toNat T_doormanlaw13_Act.d).fKind == (0 : Int)) = false, ((a0.getD v6.toNat T_doormanlaw13_Act.d).fKind == (1 : Int)) = true, SCall Try.prog 49 [.one (cL 5 T_api_Ban.c T_api_Ban.d v5), .agg (T_api_Net.c (((a0.getD v6.toNat T_doormanlaw13_Act.d).fBan).fNet))] (.tup [(false, (cLs 5 T_api_Ban.c T_api_Ban.d) x4.1), (false, (cI .i64) x4.2)]), (x4.2 == (0 : Int)) = true, (((x4.1.length : Nat) : Int) != (sub64 ((v5.length : Nat) : Int) (1 : Int))) = false] (by kernel_rfl) ⟨h3, o4, h5, h10, (g_bans_Drop_ok v5 (((a0.getD v6.toNat T_doormanlaw13_Act.d).fBan).fNet) x4 q11), h12, h13, trivial⟩ (g_doormanlaw13_BansStay_c1_ok S0 w0 a0 a1 v6 (g_doormanlaw13_BansStay_c0 a0 a1  fu) ih x4.1 r hf)
          · exact toK_good allOk Post.ends 27 _ _ _ _ [⟨[], [], [], [], [], [], []⟩, ⟨[], [], [], [], [], [], []⟩, ⟨[], [], [], [], [], [], []⟩, ⟨[], [], [], [], [], [], []⟩, ⟨[], [], [], [], [], [], []⟩, ⟨[(4, .r (.tup [(false, (cLs 5 T_api_Ban.c T_api_Ban.d) x4.1), (false, (cI .i64) x4.2)]) [])], [], [], [], [], [], []⟩, ⟨[], [], [], [], [], [], []⟩] [true, false, true, false] ⟨[], [], [], [], [], [0, 1, 5, 6], [], []⟩ [(decide (v6 < ((a0.length : Nat) : Int))) = true, 0 ≤ v6 ∧ v6 < ((a0.length : Nat) : Int), ((a0.getD v6.toNat T_doormanlaw13_Act.d).fKind == (0 : Int)) = false, ((a0.getD v6.toNat T_doormanlaw13_Act.d).fKind == (1 : Int)) = true, SCall Try.prog 49 [.one (cL 5 T_api_Ban.c T_api_Ban.d v5), .agg (T_api_Net.c (((a0.getD v6.toNat T_doormanlaw13_Act.d).fBan).fNet))] (.tup [(false, (cLs 5 T_api_Ban.c T_api_Ban.d) x4.1), (false, (cI .i64) x4.2)]), (x4.2 == (0 : Int)) = false] (by kernel_rfl) ⟨h3, o4, h5, h10, (g_bans_Drop_ok v5 (((a0.getD v6.toNat T_doormanlaw13_Act.d).fBan).fNet) x4 q11), h12, trivial⟩ (g_doormanlaw13_BansStay_c1_ok S0 w0 a0 a1 v6 (g_doormanlaw13_BansStay_c0 a0 a1  fu) ih v5 r hf)
        · obtain ⟨x5, q14, hf⟩ := bind_some' hf
          rcases br_some hf with ⟨h15, hf⟩ | ⟨h15, hf⟩
          · replace hf := Option.some.inj hf
            subst hf
            exact toEnd_good allOk 28 _ _ [⟨[], [], [], [], [], [], []⟩, ⟨[], [], [], [], [], [], []⟩, ⟨[], [], [], [], [], [], []⟩, ⟨[], [], [], [], [], [], []⟩, ⟨[], [], [], [], [], [], []⟩, ⟨[(4, .r (.tup [(false, (cLs 5 T_api_Ban.c T_api_Ban.d) x5.1), (false, (cI .i64) x5.2)]) [])], [], [], [], [], [], []⟩, ⟨[], [], [], [], [], [], []⟩, ⟨[], [], [], [], [], [], []⟩] [true, false, false, true] [] [] [] [(decide (v6 < ((a0.length : Nat) : Int))) = true, 0 ≤ v6 ∧ v6 < ((a0.length : Nat) : Int), ((a0.getD v6.toNat T_doormanlaw13_Act.d).fKind == (0 : Int)) = false, ((a0.getD v6.toNat T_doormanlaw13_Act.d).fKind == (1 : Int)) = false, SCall Try.prog 46 [.one (cL 5 T_api_Ban.c T_api_Ban.d v5), .one (.lit (.int .i64 (((a0.getD v6.toNat T_doormanlaw13_Act.d).fBan).fUntil)))] (.tup [(false, (cLs 5 T_api_Ban.c T_api_Ban.d) x5.1), (false, (cI .i64) x5.2)]), ((add64 ((x5.1.length : Nat) : Int) x5.2) != ((v5.length : Nat) : Int)) = true] (by kernel_rfl) rfl ⟨h3, o4, h5, h10, (g_bans_Sweep_ok v5 (((a0.getD v6.toNat T_doormanlaw13_Act.d).fBan).fUntil) x5 q14), h15, trivial⟩
          · exact toK_good allOk Post.ends 29 _ _ _ _ [⟨[], [], [], [], [], [], []⟩, ⟨[], [], [], [], [], [], []⟩, ⟨[], [], [], [], [], [], []⟩, ⟨[], [], [], [], [], [], []⟩, ⟨[], [], [], [], [], [], []⟩, ⟨[(4, .r (.tup [(false, (cLs 5 T_api_Ban.c T_api_Ban.d) x5.1), (false, (cI .i64) x5.2)]) [])], [], [], [], [], [], []⟩, ⟨[], [], [], [], [], [], []⟩, ⟨[], [], [], [], [], [], []⟩] [true, false, false, false] ⟨[], [], [], [], [], [0, 1, 5, 6], [], []⟩ [(decide (v6 < ((a0.length : Nat) : Int))) = true, 0 ≤ v6 ∧ v6 < ((a0.length : Nat) : Int), ((a0.getD v6.toNat T_doormanlaw13_Act.d).fKind == (0 : Int)) = false, ((a0.getD v6.toNat T_doormanlaw13_Act.d).fKind == (1 : Int)) = false, SCall Try.prog 46 [.one (cL 5 T_api_Ban.c T_api_Ban.d v5), .one (.lit (.int .i64 (((a0.getD v6.toNat T_doormanlaw13_Act.d).fBan).fUntil)))] (.tup [(false, (cLs 5 T_api_Ban.c T_api_Ban.d) x5.1), (false, (cI .i64) x5.2)]), ((add64 ((x5.1.length : Nat) : Int) x5.2) != ((v5.length : Nat) : Int)) = false] (by kernel_rfl) ⟨h3, o4, h5, h10, (g_bans_Sweep_ok v5 (((a0.getD v6.toNat T_doormanlaw13_Act.d).fBan).fUntil) x5 q14), h15, trivial⟩ (g_doormanlaw13_BansStay_c1_ok S0 w0 a0 a1 v6 (g_doormanlaw13_BansStay_c0 a0 a1  fu) ih x5.1 r hf)
    · obtain ⟨x6, q16, hf⟩ := bind_some' hf
      replace hf := Option.some.inj hf
      subst hf
      exact toEnd_good allOk 8 _ _ [⟨[], [], [], [], [], [], []⟩, ⟨[(0, .r (.one (.lit (.bool x6))) [])], [], [], [], [], [], []⟩] [false] [] [] [] [(decide (v6 < ((a0.length : Nat) : Int))) = false, SCall Try.prog 43 [] (.one (.lit (.bool x6)))] (by kernel_rfl) rfl ⟨h3, (g_doormanlaw13_awake_ok  x6 q16), trivial⟩

/-- doorman/doormanlaw13.BansStay -/
def g_doormanlaw13_BansStay (a0 : (List T_doormanlaw13_Act)) (a1 : Int) : Option Bool :=
  bif (decide (((a0.length : Nat) : Int) > (60 : Int))) then
    (g_doormanlaw13_awake).bind fun x1 =>
    some x1
  else
    g_doormanlaw13_BansStay_c0 a0 a1  ((((a0.length : Nat) : Int) - (0 : Int)).toNat + 2) ([]) (0 : Int)

theorem g_doormanlaw13_BansStay_ok (a0 : (List T_doormanlaw13_Act)) (a1 : Int) (r : Bool) (hf : g_doormanlaw13_BansStay a0 a1 = some r) : SCall Try.prog 11 [.one (cL 6 T_doormanlaw13_Act.c T_doormanlaw13_Act.d a0), .one (.lit (.int .i64 a1))] (.one (.lit (.bool r))) := by
  refine SCall.of Try.func11 rfl rfl rfl rfl fun S0 w0 => ?_
  unfold g_doormanlaw13_BansStay at hf
  rcases br_some hf with ⟨h1, hf⟩ | ⟨h1, hf⟩
  · obtain ⟨x1, q2, hf⟩ := bind_some' hf
    replace hf := Option.some.inj hf
    subst hf
    exact toEnd_good allOk 8 _ _ [⟨[], [], [], [], [], [], []⟩, ⟨[], [], [], [], [], [], []⟩, ⟨[(0, .r (.one (.lit (.bool x1))) [])], [], [], [], [], [], []⟩] [true] [] [] [] [(decide (((a0.length : Nat) : Int) > (60 : Int))) = true, SCall Try.prog 43 [] (.one (.lit (.bool x1)))] (by kernel_rfl) rfl ⟨h1, (g_doormanlaw13_awake_ok  x1 q2), trivial⟩
  · exact toK_good allOk Post.ends 13 _ _ _ _ [⟨[], [], [], [], [], [], []⟩, ⟨[], [], [], [], [], [], []⟩, ⟨[], [], [], [], [], [], []⟩, ⟨[], [], [], [], [], [], []⟩] [false] ⟨[], [], [(5, [(0, cL 5 T_api_Ban.c T_api_Ban.d [])])], [], [], [0, 1, 5, 6], [], []⟩ [(decide (((a0.length : Nat) : Int) > (60 : Int))) = false] (by kernel_rfl) ⟨h1, trivial⟩ (g_doormanlaw13_BansStay_c0_ok S0 w0 a0 a1   ((((a0.length : Nat) : Int) - (0 : Int)).toNat + 2) ([]) (0 : Int) r hf)
end Go.Proofs.Ytgmkffjkidgcnaa
