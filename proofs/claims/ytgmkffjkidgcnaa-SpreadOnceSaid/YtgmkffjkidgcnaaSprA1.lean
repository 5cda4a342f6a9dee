/-
  Functions and their contracts.
  WRITTEN BY A PROGRAM OF MY OWN (wip/gen/am.py).
-/
import Derived.Test.YtgmkffjkidgcnaaSprA0
namespace Go.Proofs.Ytgmkffjkidgcnaa
open Go.RowKit Go.Lib Go.Shelf
set_option linter.unusedVariables false
set_option maxRecDepth 100000
def g_doormanlaw27_SpreadOnce_c2 (a0 : (List T_api_End)) (v4 : Int) (v5 : Int) (kg_doormanlaw27_SpreadOnce_c0 : Int → (List T_api_Entry) → Option Bool) (kg_doormanlaw27_SpreadOnce_c1 : Int → (List T_api_Entry) → Option Bool) : Nat → Int → (List T_api_Entry) → Option Bool
  | 0, _, _ => none
  | fu + 1, v6, w3 =>
    bif (decide (v6 < v5)) then
      need (0 ≤ v5 ∧ v5 < ((w3.length : Nat) : Int)) <|
      need (0 ≤ v6 ∧ v6 < ((w3.length : Nat) : Int)) <|
      (g_doormanref08_Same (((w3.getD v5.toNat T_api_Entry.d).fEnd).fAddr) (((w3.getD v6.toNat T_api_Entry.d).fEnd).fAddr)).bind fun x3 =>
      bif x3 then
        some false
      else
        g_doormanlaw27_SpreadOnce_c2 a0 v4 v5 kg_doormanlaw27_SpreadOnce_c0 kg_doormanlaw27_SpreadOnce_c1 fu (add64 v6 (1 : Int)) w3
    else
      kg_doormanlaw27_SpreadOnce_c1 (add64 v5 (1 : Int)) w3

theorem g_doormanlaw27_SpreadOnce_c2_ok (S0 : Nat → Prop) (w0 : Start) (a0 : (List T_api_End)) (v4 : Int) (v5 : Int) (kg_doormanlaw27_SpreadOnce_c0 : Int → (List T_api_Entry) → Option Bool) (kg_doormanlaw27_SpreadOnce_c1 : Int → (List T_api_Entry) → Option Bool) (hg_doormanlaw27_SpreadOnce_c0 : ∀ (v4_ : Int) (w3_ : (List T_api_Entry)) (r : Bool), kg_doormanlaw27_SpreadOnce_c0 v4_ w3_ = some r → Good Try.prog 65 S0 w0 (bodyPost Try.prog Try.f13 (Post S0 w0 (.one (.lit (.bool r))))) (at_ [1, 1, 1, 0, 1, 0] (bodyOf Try.f13)) ⟨[(0, .one (cL 4 T_api_End.c T_api_End.d a0)), (3, .one (.osl 3 w3_.length)), (4, .one (.lit (.int .i64 v4_)))], [(3, .rows 60 7 w3_.length (rowsOf T_api_Entry.c T_api_Entry.d w3_))]⟩) (hg_doormanlaw27_SpreadOnce_c1 : ∀ (v5_ : Int) (w3_ : (List T_api_Entry)) (r : Bool), kg_doormanlaw27_SpreadOnce_c1 v5_ w3_ = some r → Good Try.prog 65 S0 w0 (bodyPost Try.prog Try.f13 (Post S0 w0 (.one (.lit (.bool r))))) (at_ [1, 1, 1, 1, 0, 1, 0] (bodyOf Try.f13)) ⟨[(3, .one (.osl 3 w3_.length)), (5, .one (.lit (.int .i64 v5_)))], [(3, .rows 60 7 w3_.length (rowsOf T_api_Entry.c T_api_Entry.d w3_))]⟩) : ∀ (fu : Nat) (v6 : Int) (w3 : (List T_api_Entry)) (r : Bool), g_doormanlaw27_SpreadOnce_c2 a0 v4 v5 kg_doormanlaw27_SpreadOnce_c0 kg_doormanlaw27_SpreadOnce_c1 fu v6 w3 = some r → Good Try.prog 65 S0 w0 (bodyPost Try.prog Try.f13 (Post S0 w0 (.one (.lit (.bool r))))) (at_ [1, 1, 1, 1, 0, 1, 0, 0, 1, 0, 0, 1, 0] (bodyOf Try.f13)) ⟨[(3, .one (.osl 3 w3.length)), (5, .one (.lit (.int .i64 v5))), (6, .one (.lit (.int .i64 v6)))], [(3, .rows 60 7 w3.length (rowsOf T_api_Entry.c T_api_Entry.d w3))]⟩ := by
  intro fu
  induction fu with
  | zero =>
    intro v6 w3 r hf
    simp [g_doormanlaw27_SpreadOnce_c2] at hf
  | succ fu ih =>
    intro v6 w3 r hf
    unfold g_doormanlaw27_SpreadOnce_c2 at hf
    rcases br_some hf with ⟨h9, hf⟩ | ⟨h9, hf⟩
    · obtain ⟨o10, hf⟩ := need_some hf
      obtain ⟨o11, hf⟩ := need_some hf
      obtain ⟨x3, q12, hf⟩ := bind_some' hf
      rcases br_some hf with ⟨h13, hf⟩ | ⟨h13, hf⟩
      · replace hf := Option.some.inj hf
        subst hf
        exact toEnd_good allOk 13 _ _ [⟨[], [], [], [], [], [], []⟩, ⟨[(12, .r (.one (.lit (.bool x3))) [])], [], [], [[], [], [0, 1], [2, 0, 1], [3, 2, 0, 1], [4, 3, 2, 0, 1], [], [], [6, 7], [8, 6, 7], [9, 8, 6, 7], [10, 9, 8, 6, 7], [5, 4, 3, 2, 0, 1, 11, 10, 9, 8, 6, 7]], [], [], []⟩, ⟨[], [], [], [], [], [], []⟩] [true, true] [] [] [] [(decide (v6 < v5)) = true, 0 ≤ v5 ∧ v5 < ((w3.length : Nat) : Int), v5.toNat < w3.length, 0 ≤ v6 ∧ v6 < ((w3.length : Nat) : Int), v6.toNat < w3.length, SCall Try.prog 61 [.agg (T_api_Addr.c (((w3.getD v5.toNat T_api_Entry.d).fEnd).fAddr)), .agg (T_api_Addr.c (((w3.getD v6.toNat T_api_Entry.d).fEnd).fAddr))] (.one (.lit (.bool x3))), x3 = true] (by kernel_rfl) rfl ⟨h9, o10, (ltOf o10), o11, (ltOf o11), (g_doormanref08_Same_ok (((w3.getD v5.toNat T_api_Entry.d).fEnd).fAddr) (((w3.getD v6.toNat T_api_Entry.d).fEnd).fAddr) x3 q12), h13, trivial⟩
      · exact toK_good allOk Post.ends 15 _ _ _ _ [⟨[], [], [], [], [], [], []⟩, ⟨[(12, .r (.one (.lit (.bool x3))) [])], [], [], [[], [], [0, 1], [2, 0, 1], [3, 2, 0, 1], [4, 3, 2, 0, 1], [], [], [6, 7], [8, 6, 7], [9, 8, 6, 7], [10, 9, 8, 6, 7], [5, 4, 3, 2, 0, 1, 11, 10, 9, 8, 6, 7]], [], [], []⟩, ⟨[], [], [], [], [], [], []⟩] [true, false] ⟨[], [], [], [], [], [3, 5, 6], [3], []⟩ [(decide (v6 < v5)) = true, 0 ≤ v5 ∧ v5 < ((w3.length : Nat) : Int), v5.toNat < w3.length, 0 ≤ v6 ∧ v6 < ((w3.length : Nat) : Int), v6.toNat < w3.length, SCall Try.prog 61 [.agg (T_api_Addr.c (((w3.getD v5.toNat T_api_Entry.d).fEnd).fAddr)), .agg (T_api_Addr.c (((w3.getD v6.toNat T_api_Entry.d).fEnd).fAddr))] (.one (.lit (.bool x3))), x3 = false] (by kernel_rfl) ⟨h9, o10, (ltOf o10), o11, (ltOf o11), (g_doormanref08_Same_ok (((w3.getD v5.toNat T_api_Entry.d).fEnd).fAddr) (((w3.getD v6.toNat T_api_Entry.d).fEnd).fAddr) x3 q12), h13, trivial⟩ (ih (add64 v6 (1 : Int)) w3 r hf)
    · exact toK_good allOk Post.ends 9 _ _ _ _ [⟨[], [], [], [], [], [], []⟩, ⟨[], [], [], [], [], [], []⟩] [false] ⟨[], [], [], [], [], [3, 5], [3], []⟩ [(decide (v6 < v5)) = false] (by kernel_rfl) ⟨h9, trivial⟩ (hg_doormanlaw27_SpreadOnce_c1 (add64 v5 (1 : Int)) w3 r hf)

def g_doormanlaw27_SpreadOnce_c1 (a0 : (List T_api_End)) (v4 : Int) (kg_doormanlaw27_SpreadOnce_c0 : Int → (List T_api_Entry) → Option Bool) : Nat → Int → (List T_api_Entry) → Option Bool
  | 0, _, _ => none
  | fu + 1, v5, w3 =>
    bif (decide (v5 < ((w3.length : Nat) : Int))) then
      g_doormanlaw27_SpreadOnce_c2 a0 v4 v5 kg_doormanlaw27_SpreadOnce_c0 (g_doormanlaw27_SpreadOnce_c1 a0 v4 kg_doormanlaw27_SpreadOnce_c0 fu) ((v5 - (0 : Int)).toNat + 2) (0 : Int) w3
    else
      (g_spread_Taken ([] : (List T_api_Peer)) w3).bind fun x3 =>
      bif (((x3.length : Nat) : Int) == ((w3.length : Nat) : Int)) then
        (g_doormanlaw27_awake).bind fun x4 =>
        some x4
      else
        some false

theorem g_doormanlaw27_SpreadOnce_c1_ok (S0 : Nat → Prop) (w0 : Start) (a0 : (List T_api_End)) (v4 : Int) (kg_doormanlaw27_SpreadOnce_c0 : Int → (List T_api_Entry) → Option Bool) (hg_doormanlaw27_SpreadOnce_c0 : ∀ (v4_ : Int) (w3_ : (List T_api_Entry)) (r : Bool), kg_doormanlaw27_SpreadOnce_c0 v4_ w3_ = some r → Good Try.prog 65 S0 w0 (bodyPost Try.prog Try.f13 (Post S0 w0 (.one (.lit (.bool r))))) (at_ [1, 1, 1, 0, 1, 0] (bodyOf Try.f13)) ⟨[(0, .one (cL 4 T_api_End.c T_api_End.d a0)), (3, .one (.osl 3 w3_.length)), (4, .one (.lit (.int .i64 v4_)))], [(3, .rows 60 7 w3_.length (rowsOf T_api_Entry.c T_api_Entry.d w3_))]⟩) : ∀ (fu : Nat) (v5 : Int) (w3 : (List T_api_Entry)) (r : Bool), g_doormanlaw27_SpreadOnce_c1 a0 v4 kg_doormanlaw27_SpreadOnce_c0 fu v5 w3 = some r → Good Try.prog 65 S0 w0 (bodyPost Try.prog Try.f13 (Post S0 w0 (.one (.lit (.bool r))))) (at_ [1, 1, 1, 1, 0, 1, 0] (bodyOf Try.f13)) ⟨[(3, .one (.osl 3 w3.length)), (5, .one (.lit (.int .i64 v5)))], [(3, .rows 60 7 w3.length (rowsOf T_api_Entry.c T_api_Entry.d w3))]⟩ := by
  intro fu
  induction fu with
  | zero =>
    intro v5 w3 r hf
    simp [g_doormanlaw27_SpreadOnce_c1] at hf
  | succ fu ih =>
    intro v5 w3 r hf
    unfold g_doormanlaw27_SpreadOnce_c1 at hf
    rcases br_some hf with ⟨h8, hf⟩ | ⟨h8, hf⟩
    · exact toK_good allOk Post.ends 11 _ _ _ _ [⟨[], [], [], [], [], [], []⟩, ⟨[], [], [], [], [], [], []⟩] [true] ⟨[], [], [], [], [], [3, 5, 6], [3], []⟩ [(decide (v5 < ((w3.length : Nat) : Int))) = true] (by kernel_rfl) ⟨h8, trivial⟩ (g_doormanlaw27_SpreadOnce_c2_ok S0 w0 a0 v4 v5 kg_doormanlaw27_SpreadOnce_c0 (g_doormanlaw27_SpreadOnce_c1 a0 v4 kg_doormanlaw27_SpreadOnce_c0 fu) hg_doormanlaw27_SpreadOnce_c0 ih ((v5 - (0 : Int)).toNat + 2) (0 : Int) w3 r hf)
    · obtain ⟨x3, q9, hf⟩ := bind_some' hf
      rcases br_some hf with ⟨h10, hf⟩ | ⟨h10, hf⟩
      · obtain ⟨x4, q11, hf⟩ := bind_some' hf
        replace hf := Option.some.inj hf
        subst hf
        exact toEnd_good allOk 8 _ _ [⟨[], [], [], [], [], [], []⟩, ⟨[(1, .r (.one (cL 4 T_api_Net.c T_api_Net.d x3)) []), (7, .r (.one (.lit (.bool x4))) [])], [(6, true)], [(1, [3])], [], [], [], []⟩] [false] [] [] [] [(decide (v5 < ((w3.length : Nat) : Int))) = false, SCall Try.prog 57 [.one (.lit (.slice none 0 0)), .one (cL 7 T_api_Entry.c T_api_Entry.d w3)] (.one (cL 4 T_api_Net.c T_api_Net.d x3)), (((x3.length : Nat) : Int) == ((w3.length : Nat) : Int)) = true, SCall Try.prog 55 [] (.one (.lit (.bool x4)))] (by kernel_rfl) rfl ⟨h8, ((g_spread_Taken_ok ([] : (List T_api_Peer)) w3 x3 q9).weak (.cons (.one (.nul _ _)) (.cons (.refl _) .nil))), h10, (g_doormanlaw27_awake_ok  x4 q11), trivial⟩
      · replace hf := Option.some.inj hf
        subst hf
        exact toEnd_good allOk 8 _ _ [⟨[], [], [], [], [], [], []⟩, ⟨[(1, .r (.one (cL 4 T_api_Net.c T_api_Net.d x3)) [])], [(6, false)], [(1, [3])], [], [], [], []⟩] [false] [] [] [] [(decide (v5 < ((w3.length : Nat) : Int))) = false, SCall Try.prog 57 [.one (.lit (.slice none 0 0)), .one (cL 7 T_api_Entry.c T_api_Entry.d w3)] (.one (cL 4 T_api_Net.c T_api_Net.d x3)), (((x3.length : Nat) : Int) == ((w3.length : Nat) : Int)) = false] (by kernel_rfl) rfl ⟨h8, ((g_spread_Taken_ok ([] : (List T_api_Peer)) w3 x3 q9).weak (.cons (.one (.nul _ _)) (.cons (.refl _) .nil))), h10, trivial⟩

def g_doormanlaw27_SpreadOnce_c0 (a0 : (List T_api_End))  : Nat → Int → (List T_api_Entry) → Option Bool
  | 0, _, _ => none
  | fu + 1, v4, w3 =>
    bif (decide (v4 < ((a0.length : Nat) : Int))) then
      need (0 ≤ v4 ∧ v4 < ((a0.length : Nat) : Int)) <|
      (g_spread_Free ([] : (List T_api_Peer)) w3 ((a0.getD v4.toNat T_api_End.d).fAddr)).bind fun x2 =>
      bif x2 then
        need ((w3 ++ ([(T_api_Entry.mk (a0.getD v4.toNat T_api_End.d) (2 : Int) (0 : Int) (0 : Int))] : List T_api_Entry)).length * 56 ≤ 140737488355328 ∧ (w3 ++ ([(T_api_Entry.mk (a0.getD v4.toNat T_api_End.d) (2 : Int) (0 : Int) (0 : Int))] : List T_api_Entry)).length ≤ maxLen) <|
        g_doormanlaw27_SpreadOnce_c0 a0  fu (add64 v4 (1 : Int)) (w3 ++ ([(T_api_Entry.mk (a0.getD v4.toNat T_api_End.d) (2 : Int) (0 : Int) (0 : Int))] : List T_api_Entry))
      else
        g_doormanlaw27_SpreadOnce_c0 a0  fu (add64 v4 (1 : Int)) w3
    else
      g_doormanlaw27_SpreadOnce_c1 a0 v4 (g_doormanlaw27_SpreadOnce_c0 a0  fu) ((((w3.length : Nat) : Int) - (0 : Int)).toNat + 2) (0 : Int) w3

theorem g_doormanlaw27_SpreadOnce_c0_ok (S0 : Nat → Prop) (w0 : Start) (a0 : (List T_api_End))  : ∀ (fu : Nat) (v4 : Int) (w3 : (List T_api_Entry)) (r : Bool), g_doormanlaw27_SpreadOnce_c0 a0  fu v4 w3 = some r → Good Try.prog 65 S0 w0 (bodyPost Try.prog Try.f13 (Post S0 w0 (.one (.lit (.bool r))))) (at_ [1, 1, 1, 0, 1, 0] (bodyOf Try.f13)) ⟨[(0, .one (cL 4 T_api_End.c T_api_End.d a0)), (3, .one (.osl 3 w3.length)), (4, .one (.lit (.int .i64 v4)))], [(3, .rows 60 7 w3.length (rowsOf T_api_Entry.c T_api_Entry.d w3))]⟩ := by
  intro fu
  induction fu with
  | zero =>
    intro v4 w3 r hf
    simp [g_doormanlaw27_SpreadOnce_c0] at hf
  | succ fu ih =>
    intro v4 w3 r hf
    unfold g_doormanlaw27_SpreadOnce_c0 at hf
    rcases br_some hf with ⟨h3, hf⟩ | ⟨h3, hf⟩
    · obtain ⟨o4, hf⟩ := need_some hf
      obtain ⟨x2, q5, hf⟩ := bind_some' hf
      rcases br_some hf with ⟨h6, hf⟩ | ⟨h6, hf⟩
      · obtain ⟨o7, hf⟩ := need_some hf
        exact toK_good allOk Post.ends 15 _ _ _ _ [⟨[], [], [], [], [], [], []⟩, ⟨[(6, .r (.one (.lit (.bool x2))) [])], [], [], [], [], [], []⟩, ⟨[(7, .c ((w3 ++ ([(T_api_Entry.mk (a0.getD v4.toNat T_api_End.d) (2 : Int) (0 : Int) (0 : Int))] : List T_api_Entry)).length) (rowsOf T_api_Entry.c T_api_Entry.d (w3 ++ ([(T_api_Entry.mk (a0.getD v4.toNat T_api_End.d) (2 : Int) (0 : Int) (0 : Int))] : List T_api_Entry))))], [], [], [], [], [(6, (([(T_api_Entry.mk (a0.getD v4.toNat T_api_End.d) (2 : Int) (0 : Int) (0 : Int))] : List T_api_Entry).length, rowsOf T_api_Entry.c T_api_Entry.d ([(T_api_Entry.mk (a0.getD v4.toNat T_api_End.d) (2 : Int) (0 : Int) (0 : Int))] : List T_api_Entry)))], []⟩, ⟨[], [], [], [], [], [], []⟩] [true, true] ⟨[], [], [], [], [], [0, 3, 4], [31], [(31, 3)]⟩ [(decide (v4 < ((a0.length : Nat) : Int))) = true, 0 ≤ v4 ∧ v4 < ((a0.length : Nat) : Int), SCall Try.prog 59 [.one (.lit (.slice none 0 0)), .one (cL 7 T_api_Entry.c T_api_Entry.d w3), .agg (T_api_Addr.c ((a0.getD v4.toNat T_api_End.d).fAddr))] (.one (.lit (.bool x2))), x2 = true, 0 ≤ v4 ∧ v4 < ((a0.length : Nat) : Int), ([(T_api_Entry.mk (a0.getD v4.toNat T_api_End.d) (2 : Int) (0 : Int) (0 : Int))] : List T_api_Entry).length = 1 ∧ ∀ i j, i < 1 → j < 7 → rowsOf T_api_Entry.c T_api_Entry.d ([(T_api_Entry.mk (a0.getD v4.toNat T_api_End.d) (2 : Int) (0 : Int) (0 : Int))] : List T_api_Entry) i j = (([(T_api_Entry.mk (a0.getD v4.toNat T_api_End.d) (2 : Int) (0 : Int) (0 : Int))] : List T_api_Entry).flatMap T_api_Entry.c).getD (i * 7 + j) .junk, Ext 7 w3.length (([(T_api_Entry.mk (a0.getD v4.toNat T_api_End.d) (2 : Int) (0 : Int) (0 : Int))] : List T_api_Entry).length) (rowsOf T_api_Entry.c T_api_Entry.d w3) (rowsOf T_api_Entry.c T_api_Entry.d ([(T_api_Entry.mk (a0.getD v4.toNat T_api_End.d) (2 : Int) (0 : Int) (0 : Int))] : List T_api_Entry)) ((w3 ++ ([(T_api_Entry.mk (a0.getD v4.toNat T_api_End.d) (2 : Int) (0 : Int) (0 : Int))] : List T_api_Entry)).length) (rowsOf T_api_Entry.c T_api_Entry.d (w3 ++ ([(T_api_Entry.mk (a0.getD v4.toNat T_api_End.d) (2 : Int) (0 : Int) (0 : Int))] : List T_api_Entry))), (w3 ++ ([(T_api_Entry.mk (a0.getD v4.toNat T_api_End.d) (2 : Int) (0 : Int) (0 : Int))] : List T_api_Entry)).length * 56 ≤ 140737488355328, (w3 ++ ([(T_api_Entry.mk (a0.getD v4.toNat T_api_End.d) (2 : Int) (0 : Int) (0 : Int))] : List T_api_Entry)).length ≤ maxLen] (by kernel_rfl) ⟨h3, o4, ((g_spread_Free_ok ([] : (List T_api_Peer)) w3 ((a0.getD v4.toNat T_api_End.d).fAddr) x2 q5).weak (.cons (.one (.nul _ _)) (.cons (.refl _) (.cons (.refl _) .nil)))), h6, o4, ⟨rfl, fun i j hi hj => rows_flat (sz := 7) (e := T_api_Entry.c) (d := T_api_Entry.d) (fun _ => rfl) ([(T_api_Entry.mk (a0.getD v4.toNat T_api_End.d) (2 : Int) (0 : Int) (0 : Int))] : List T_api_Entry) i j hi hj⟩, (ext_app _ _), o7.1, o7.2, trivial⟩ (ih (add64 v4 (1 : Int)) (w3 ++ ([(T_api_Entry.mk (a0.getD v4.toNat T_api_End.d) (2 : Int) (0 : Int) (0 : Int))] : List T_api_Entry)) r hf)
      · exact toK_good allOk Post.ends 15 _ _ _ _ [⟨[], [], [], [], [], [], []⟩, ⟨[(6, .r (.one (.lit (.bool x2))) [])], [], [], [], [], [], []⟩, ⟨[], [], [], [], [], [], []⟩] [true, false] ⟨[], [], [], [], [], [0, 3, 4], [3], []⟩ [(decide (v4 < ((a0.length : Nat) : Int))) = true, 0 ≤ v4 ∧ v4 < ((a0.length : Nat) : Int), SCall Try.prog 59 [.one (.lit (.slice none 0 0)), .one (cL 7 T_api_Entry.c T_api_Entry.d w3), .agg (T_api_Addr.c ((a0.getD v4.toNat T_api_End.d).fAddr))] (.one (.lit (.bool x2))), x2 = false] (by kernel_rfl) ⟨h3, o4, ((g_spread_Free_ok ([] : (List T_api_Peer)) w3 ((a0.getD v4.toNat T_api_End.d).fAddr) x2 q5).weak (.cons (.one (.nul _ _)) (.cons (.refl _) (.cons (.refl _) .nil)))), h6, trivial⟩ (ih (add64 v4 (1 : Int)) w3 r hf)
    · exact toK_good allOk Post.ends 10 _ _ _ _ [⟨[], [], [], [], [], [], []⟩, ⟨[], [], [], [], [], [], []⟩] [false] ⟨[], [], [], [], [], [3, 5], [3], []⟩ [(decide (v4 < ((a0.length : Nat) : Int))) = false] (by kernel_rfl) ⟨h3, trivial⟩ (g_doormanlaw27_SpreadOnce_c1_ok S0 w0 a0 v4 (g_doormanlaw27_SpreadOnce_c0 a0  fu) ih ((((w3.length : Nat) : Int) - (0 : Int)).toNat + 2) (0 : Int) w3 r hf)

/-- doorman/doormanlaw27.SpreadOnce -/
def g_doormanlaw27_SpreadOnce (a0 : (List T_api_End)) : Option Bool :=
  bif (decide (((a0.length : Nat) : Int) > (60 : Int))) then
    (g_doormanlaw27_awake).bind fun x1 =>
    some x1
  else
    g_doormanlaw27_SpreadOnce_c0 a0  ((((a0.length : Nat) : Int) - (0 : Int)).toNat + 2) (0 : Int) ([])

theorem g_doormanlaw27_SpreadOnce_ok (a0 : (List T_api_End)) (r : Bool) (hf : g_doormanlaw27_SpreadOnce a0 = some r) : SCall Try.prog 13 [.one (cL 4 T_api_End.c T_api_End.d a0)] (.one (.lit (.bool r))) := by
  refine SCall.of Try.func13 rfl rfl rfl rfl fun S0 w0 => ?_
  unfold g_doormanlaw27_SpreadOnce at hf
  rcases br_some hf with ⟨h1, hf⟩ | ⟨h1, hf⟩
  · obtain ⟨x1, q2, hf⟩ := bind_some' hf
    replace hf := Option.some.inj hf
    subst hf
    exact toEnd_good allOk 8 _ _ [⟨[], [], [], [], [], [], []⟩, ⟨[], [], [], [], [], [], []⟩, ⟨[(0, .r (.one (.lit (.bool x1))) [])], [], [], [], [], [], []⟩] [true] [] [] [] [(decide (((a0.length : Nat) : Int) > (60 : Int))) = true, SCall Try.prog 55 [] (.one (.lit (.bool x1)))] (by kernel_rfl) rfl ⟨h1, (g_doormanlaw27_awake_ok  x1 q2), trivial⟩
  · exact toK_good allOk Post.ends 13 _ _ _ _ [⟨[], [], [], [], [], [], []⟩, ⟨[], [], [], [], [], [], []⟩, ⟨[], [], [], [], [], [], []⟩, ⟨[], [], [], [], [], [], []⟩] [false] ⟨[], [], [], [], [(3, 3, 60, 7, rowsOf T_api_Entry.c T_api_Entry.d [])], [0, 3, 4], [3], []⟩ [(decide (((a0.length : Nat) : Int) > (60 : Int))) = false] (by kernel_rfl) ⟨h1, trivial⟩ (g_doormanlaw27_SpreadOnce_c0_ok S0 w0 a0   ((((a0.length : Nat) : Int) - (0 : Int)).toNat + 2) (0 : Int) ([]) r hf)
end Go.Proofs.Ytgmkffjkidgcnaa
