/-
  Functions and their contracts.
  WRITTEN BY A PROGRAM OF MY OWN (wip/gen/am.py).
-/
import Derived.Test.YtaakonlnlfbfkaaTriA0
namespace Go.Proofs.Ytaakonlnlfbfkaa
open Go.RowKit Go.Lib Go.Shelf
set_option linter.unusedVariables false
set_option maxRecDepth 100000
def g_doormanref11_Get_c0 (a0 : (List T_doormanref11_Hit))  : Nat → Int → T_api_Net → Option (Int × Bool)
  | 0, _, _ => none
  | fu + 1, v6, b3 =>
    bif (decide (v6 < ((a0.length : Nat) : Int))) then
      need (0 ≤ v6 ∧ v6 < ((a0.length : Nat) : Int)) <|
      bif (decide ((a0.getD v6.toNat T_doormanref11_Hit.d).fNet = b3)) then
        some ((a0.getD v6.toNat T_doormanref11_Hit.d).fV, true)
      else
        g_doormanref11_Get_c0 a0  fu (add64 v6 (1 : Int)) b3
    else
      some ((0 : Int), false)

theorem g_doormanref11_Get_c0_ok (S0 : Nat → Prop) (w0 : Start) (a0 : (List T_doormanref11_Hit))  : ∀ (fu : Nat) (v6 : Int) (b3 : T_api_Net) (r : (Int × Bool)), g_doormanref11_Get_c0 a0  fu v6 b3 = some r → Good Try.prog 25 S0 w0 (bodyPost Try.prog Try.f44 (Post S0 w0 (.tup [(false, (cI .i64) r.1), (false, cB r.2)]))) (at_ [1, 0, 1, 0] (bodyOf Try.f44)) ⟨[(0, .one (cL 5 T_doormanref11_Hit.c T_doormanref11_Hit.d a0)), (3, .one (.ptr 3 0)), (6, .one (.lit (.int .i64 v6)))], [(3, .box [.lit (.bool b3.fAddr.fV6), .lit (.int .u64 b3.fAddr.fHi), .lit (.int .u64 b3.fAddr.fLo), .lit (.int .i64 b3.fBits)])]⟩ := by
  intro fu
  induction fu with
  | zero =>
    intro v6 b3 r hf
    simp [g_doormanref11_Get_c0] at hf
  | succ fu ih =>
    intro v6 b3 r hf
    unfold g_doormanref11_Get_c0 at hf
    rcases br_some hf with ⟨h1, hf⟩ | ⟨h1, hf⟩
    · obtain ⟨o2, hf⟩ := need_some hf
      rcases br_some hf with ⟨h3, hf⟩ | ⟨h3, hf⟩
      · replace hf := Option.some.inj hf
        subst hf
        exact toEnd_good allOk 13 _ _ [⟨[], [], [], [], [], [], []⟩, ⟨[(6, .r (.one (.lit (.bool (decide ((a0.getD v6.toNat T_doormanref11_Hit.d).fNet = b3))))) [])], [], [], [[], [], [0, 1], [2, 0, 1], [3, 2, 0, 1], [], [4, 3, 2, 0, 1, 5]], [], [], []⟩, ⟨[], [], [], [], [], [], []⟩] [true, true] [] [] [] [(decide (v6 < ((a0.length : Nat) : Int))) = true, 0 ≤ v6 ∧ v6 < ((a0.length : Nat) : Int), ∀ w, (do eqGuard .eql 81 (.tmp 17) (.tmp 18) (.agg #[.bool ((((a0.getD v6.toNat T_doormanref11_Hit.d).fNet).fAddr).fV6), .int .u64 ((((a0.getD v6.toNat T_doormanref11_Hit.d).fNet).fAddr).fHi), .int .u64 ((((a0.getD v6.toNat T_doormanref11_Hit.d).fNet).fAddr).fLo), .int .i64 (((a0.getD v6.toNat T_doormanref11_Hit.d).fNet).fBits)]) (.agg #[.bool b3.fAddr.fV6, .int .u64 b3.fAddr.fHi, .int .u64 b3.fAddr.fLo, .int .i64 b3.fBits]); binOp .eql 81 (.agg #[.bool ((((a0.getD v6.toNat T_doormanref11_Hit.d).fNet).fAddr).fV6), .int .u64 ((((a0.getD v6.toNat T_doormanref11_Hit.d).fNet).fAddr).fHi), .int .u64 ((((a0.getD v6.toNat T_doormanref11_Hit.d).fNet).fAddr).fLo), .int .i64 (((a0.getD v6.toNat T_doormanref11_Hit.d).fNet).fBits)]) (.agg #[.bool b3.fAddr.fV6, .int .u64 b3.fAddr.fHi, .int .u64 b3.fAddr.fLo, .int .i64 b3.fBits]) : Sem Value).run Try.prog w = .ok (.bool (decide ((a0.getD v6.toNat T_doormanref11_Hit.d).fNet = b3))) w, (decide ((a0.getD v6.toNat T_doormanref11_Hit.d).fNet = b3)) = true, 0 ≤ v6 ∧ v6 < ((a0.length : Nat) : Int)] (by kernel_rfl) rfl ⟨h1, o2, (eql_T_api_Net ((a0.getD v6.toNat T_doormanref11_Hit.d).fNet) b3 _ _), h3, o2, trivial⟩
      · exact toK_good allOk Post.ends 15 _ _ _ _ [⟨[], [], [], [], [], [], []⟩, ⟨[(6, .r (.one (.lit (.bool (decide ((a0.getD v6.toNat T_doormanref11_Hit.d).fNet = b3))))) [])], [], [], [[], [], [0, 1], [2, 0, 1], [3, 2, 0, 1], [], [4, 3, 2, 0, 1, 5]], [], [], []⟩, ⟨[], [], [], [], [], [], []⟩] [true, false] ⟨[], [], [], [], [], [0, 3, 6], [3], []⟩ [(decide (v6 < ((a0.length : Nat) : Int))) = true, 0 ≤ v6 ∧ v6 < ((a0.length : Nat) : Int), ∀ w, (do eqGuard .eql 81 (.tmp 17) (.tmp 18) (.agg #[.bool ((((a0.getD v6.toNat T_doormanref11_Hit.d).fNet).fAddr).fV6), .int .u64 ((((a0.getD v6.toNat T_doormanref11_Hit.d).fNet).fAddr).fHi), .int .u64 ((((a0.getD v6.toNat T_doormanref11_Hit.d).fNet).fAddr).fLo), .int .i64 (((a0.getD v6.toNat T_doormanref11_Hit.d).fNet).fBits)]) (.agg #[.bool b3.fAddr.fV6, .int .u64 b3.fAddr.fHi, .int .u64 b3.fAddr.fLo, .int .i64 b3.fBits]); binOp .eql 81 (.agg #[.bool ((((a0.getD v6.toNat T_doormanref11_Hit.d).fNet).fAddr).fV6), .int .u64 ((((a0.getD v6.toNat T_doormanref11_Hit.d).fNet).fAddr).fHi), .int .u64 ((((a0.getD v6.toNat T_doormanref11_Hit.d).fNet).fAddr).fLo), .int .i64 (((a0.getD v6.toNat T_doormanref11_Hit.d).fNet).fBits)]) (.agg #[.bool b3.fAddr.fV6, .int .u64 b3.fAddr.fHi, .int .u64 b3.fAddr.fLo, .int .i64 b3.fBits]) : Sem Value).run Try.prog w = .ok (.bool (decide ((a0.getD v6.toNat T_doormanref11_Hit.d).fNet = b3))) w, (decide ((a0.getD v6.toNat T_doormanref11_Hit.d).fNet = b3)) = false] (by kernel_rfl) ⟨h1, o2, (eql_T_api_Net ((a0.getD v6.toNat T_doormanref11_Hit.d).fNet) b3 _ _), h3, trivial⟩ (ih (add64 v6 (1 : Int)) b3 r hf)
    · replace hf := Option.some.inj hf
      subst hf
      exact toEnd_good allOk 8 _ _ [⟨[], [], [], [], [], [], []⟩, ⟨[], [], [], [], [], [], []⟩] [false] [] [] [] [(decide (v6 < ((a0.length : Nat) : Int))) = false] (by kernel_rfl) rfl ⟨h1, trivial⟩

/-- doorman/doormanref11.Get -/
def g_doormanref11_Get (a0 : (List T_doormanref11_Hit)) (a1 : T_api_Net) : Option (Int × Bool) :=
  g_doormanref11_Get_c0 a0  ((((a0.length : Nat) : Int) - (0 : Int)).toNat + 2) (0 : Int) a1

theorem g_doormanref11_Get_ok (a0 : (List T_doormanref11_Hit)) (a1 : T_api_Net) (r : (Int × Bool)) (hf : g_doormanref11_Get a0 a1 = some r) : SCall Try.prog 44 [.one (cL 5 T_doormanref11_Hit.c T_doormanref11_Hit.d a0), .agg (T_api_Net.c a1)] (.tup [(false, (cI .i64) r.1), (false, cB r.2)]) := by
  refine SCall.of Try.func44 rfl rfl rfl rfl fun S0 w0 => ?_
  unfold g_doormanref11_Get at hf
  exact toK_good allOk Post.ends 6 _ _ _ _ [⟨[], [], [], [], [], [], []⟩, ⟨[], [], [], [], [], [], []⟩] [] ⟨[], [], [], [], [], [0, 3, 6], [3], []⟩ [] (by kernel_rfl) trivial (g_doormanref11_Get_c0_ok S0 w0 a0   ((((a0.length : Nat) : Int) - (0 : Int)).toNat + 2) (0 : Int) a1 r hf)





/-- trie.All's closure -/
def g_trie_All_1 (x : T_trie_Hit) (w : List T_trie_Hit) : Option (List T_trie_Hit) :=
  need ((w ++ [x]).length * 40 ≤ 140737488355328 ∧ (w ++ [x]).length ≤ maxLen) <|
  some (w ++ [x])

theorem g_trie_All_1_own (x : T_trie_Hit) (w : List T_trie_Hit) (r : List T_trie_Hit) (hf : g_trie_All_1 x w = some r) : HCall Try.prog 97 [(100000, .box [.osl 100001 w.length]), (100001, .rows 101 5 w.length (rowsOf T_trie_Hit.c T_trie_Hit.d w))] [.agg (T_trie_Hit.c x), .one (.ptr 100000 0)] [(100000, .box [.osl 99999 r.length]), (99999, .rows 101 5 r.length (rowsOf T_trie_Hit.c T_trie_Hit.d r))] (.tup []) := by
  refine HCall.of Try.func97 rfl rfl rfl rfl fun S0 w0 => ?_
  unfold g_trie_All_1 at hf
  obtain ⟨o1, hf⟩ := need_some hf
  replace hf := Option.some.inj hf
  subst hf
  exact toEndH_good allOk 3 _ _ [⟨[], [], [], [], [], [], []⟩, ⟨[(3, .c (w ++ [x]).length (rowsOf T_trie_Hit.c T_trie_Hit.d (w ++ [x])))], [], [], [], [], [(2, (([x] : List T_trie_Hit).length, rowsOf T_trie_Hit.c T_trie_Hit.d ([x] : List T_trie_Hit)))], []⟩] [] ⟨[], [], [], [], [], [], [100000, 6], [(6, 99999)]⟩
    [([x] : List T_trie_Hit).length = 1 ∧ ∀ i j, i < 1 → j < 5 → rowsOf T_trie_Hit.c T_trie_Hit.d ([x] : List T_trie_Hit) i j = (([x] : List T_trie_Hit).flatMap T_trie_Hit.c).getD (i * 5 + j) .junk, Ext 5 w.length ([x] : List T_trie_Hit).length (rowsOf T_trie_Hit.c T_trie_Hit.d w) (rowsOf T_trie_Hit.c T_trie_Hit.d ([x] : List T_trie_Hit)) (w ++ [x]).length (rowsOf T_trie_Hit.c T_trie_Hit.d (w ++ [x])), (w ++ [x]).length * 40 ≤ 140737488355328, (w ++ [x]).length ≤ maxLen]
    (by kernel_rfl) ⟨⟨rfl, fun i j hi hj => rows_flat (sz := 5) (e := T_trie_Hit.c) (d := T_trie_Hit.d) (fun _ => rfl) [x] i j hi hj⟩, ext_app _ _, o1.1, o1.2, trivial⟩

/-- the tree's walk -/
def g_trie_node_walk : Nat → N_trie_node → List T_trie_Hit → Option (List T_trie_Hit)
  | 0, _, _ => none
  | _ + 1, .nil, w => some w
  | fu + 1, .mk p0 p1 p2 p3, w =>
    bif p1 then
      (g_trie_All_1 p0 w).bind fun x1 =>
      (g_trie_node_walk fu p2 x1).bind fun x2 =>
      g_trie_node_walk fu p3 x2
    else
      (g_trie_node_walk fu p2 w).bind fun x2 =>
      g_trie_node_walk fu p3 x2

theorem g_trie_node_walk_own : ∀ (fu : Nat) (x : N_trie_node) (w : List T_trie_Hit) (r : List T_trie_Hit) (hf : g_trie_node_walk fu x w = some r), HCall Try.prog 96 [(100000, .box [.osl 100001 w.length]), (100001, .rows 101 5 w.length (rowsOf T_trie_Hit.c T_trie_Hit.d w))] [.one (N_trie_node.c x), .one (.clo (.func 97) 0 1 (fun i => ([] : List C).getD i .junk) (fun i => ([.ptr 100000 0] : List C).getD i .junk))] [(100000, .box [.osl 99999 r.length]), (99999, .rows 101 5 r.length (rowsOf T_trie_Hit.c T_trie_Hit.d r))] (.tup []) := by
  intro fu
  induction fu with
  | zero => intro x w r hf; cases hf
  | succ fu ih =>
    intro x w r hf
    refine HCall.of Try.func96 rfl rfl rfl rfl fun S0 w0 => ?_
    cases x with
    | nil =>
      replace hf := Option.some.inj hf
      subst hf
      exact toEndH_good allOk 4 _ _ [⟨[], [], [], [], [], [], []⟩] [true] ⟨[], [], [], [], [], [], [100000, 100001], [(100001, 99999)]⟩ [true = true] (by kernel_rfl) ⟨rfl, trivial⟩
    | mk p0 p1 p2 p3 =>
      unfold g_trie_node_walk at hf
      rcases br_some hf with ⟨h1, hf⟩ | ⟨h1, hf⟩
      · obtain ⟨x1, q1, hf⟩ := bind_some' hf
        obtain ⟨x2, q2, hf⟩ := bind_some' hf
        exact toEndH_good allOk 13 _ _ [⟨[], [], [], [], [], [], []⟩, ⟨[], [], [], [], [], [], []⟩, ⟨[], [], [], [], [], [], [(5, ⟨[(100000, 100000), (100001, 100001)], [(99999, 5001)], [(100000, .box [.osl 99999 x1.length]), (99999, .rows 101 5 x1.length (rowsOf T_trie_Hit.c T_trie_Hit.d x1))], .tup []⟩)]⟩, ⟨[], [], [], [], [], [], [(6, ⟨[(100000, 100000), (100001, 5001)], [(99999, 5002)], [(100000, .box [.osl 99999 x2.length]), (99999, .rows 101 5 x2.length (rowsOf T_trie_Hit.c T_trie_Hit.d x2))], .tup []⟩)]⟩, ⟨[], [], [], [], [], [], [(6, ⟨[(100000, 100000), (100001, 5002)], [(99999, 5003)], [(100000, .box [.osl 99999 r.length]), (99999, .rows 101 5 r.length (rowsOf T_trie_Hit.c T_trie_Hit.d r))], .tup []⟩)]⟩] [false, true] ⟨[], [], [], [], [], [], [100000, 5003], [(5003, 99999)]⟩
          [false = false, p1 = true, HCall Try.prog 97 [(100000, .box [.osl 100001 w.length]), (100001, .rows 101 5 w.length (rowsOf T_trie_Hit.c T_trie_Hit.d w))] [.agg (T_trie_Hit.c p0), .one (.ptr 100000 0)] [(100000, .box [.osl 99999 x1.length]), (99999, .rows 101 5 x1.length (rowsOf T_trie_Hit.c T_trie_Hit.d x1))] (.tup []), 0 ≤ (0 : Int) ∧ (0 : Int) < ((2 : Nat) : Int), HCall Try.prog 96 [(100000, .box [.osl 100001 x1.length]), (100001, .rows 101 5 x1.length (rowsOf T_trie_Hit.c T_trie_Hit.d x1))] [.one (N_trie_node.c p2), .one (.clo (.func 97) 0 1 (fun i => ([] : List C).getD i .junk) (fun i => ([.ptr 100000 0] : List C).getD i .junk))] [(100000, .box [.osl 99999 x2.length]), (99999, .rows 101 5 x2.length (rowsOf T_trie_Hit.c T_trie_Hit.d x2))] (.tup []), 0 ≤ (1 : Int) ∧ (1 : Int) < ((2 : Nat) : Int), HCall Try.prog 96 [(100000, .box [.osl 100001 x2.length]), (100001, .rows 101 5 x2.length (rowsOf T_trie_Hit.c T_trie_Hit.d x2))] [.one (N_trie_node.c p3), .one (.clo (.func 97) 0 1 (fun i => ([] : List C).getD i .junk) (fun i => ([.ptr 100000 0] : List C).getD i .junk))] [(100000, .box [.osl 99999 r.length]), (99999, .rows 101 5 r.length (rowsOf T_trie_Hit.c T_trie_Hit.d r))] (.tup [])]
          (by kernel_rfl) ⟨rfl, h1, g_trie_All_1_own p0 w x1 q1, by decide, ih p2 x1 x2 q2, by decide, ih p3 x2 r hf, trivial⟩
      · obtain ⟨x2, q2, hf⟩ := bind_some' hf
        exact toEndH_good allOk 13 _ _ [⟨[], [], [], [], [], [], []⟩, ⟨[], [], [], [], [], [], []⟩, ⟨[], [], [], [], [], [], [(6, ⟨[(100000, 100000), (100001, 100001)], [(99999, 5002)], [(100000, .box [.osl 99999 x2.length]), (99999, .rows 101 5 x2.length (rowsOf T_trie_Hit.c T_trie_Hit.d x2))], .tup []⟩)]⟩, ⟨[], [], [], [], [], [], [(6, ⟨[(100000, 100000), (100001, 5002)], [(99999, 5003)], [(100000, .box [.osl 99999 r.length]), (99999, .rows 101 5 r.length (rowsOf T_trie_Hit.c T_trie_Hit.d r))], .tup []⟩)]⟩] [false, false] ⟨[], [], [], [], [], [], [100000, 5003], [(5003, 99999)]⟩
          [false = false, p1 = false, 0 ≤ (0 : Int) ∧ (0 : Int) < ((2 : Nat) : Int), HCall Try.prog 96 [(100000, .box [.osl 100001 w.length]), (100001, .rows 101 5 w.length (rowsOf T_trie_Hit.c T_trie_Hit.d w))] [.one (N_trie_node.c p2), .one (.clo (.func 97) 0 1 (fun i => ([] : List C).getD i .junk) (fun i => ([.ptr 100000 0] : List C).getD i .junk))] [(100000, .box [.osl 99999 x2.length]), (99999, .rows 101 5 x2.length (rowsOf T_trie_Hit.c T_trie_Hit.d x2))] (.tup []), 0 ≤ (1 : Int) ∧ (1 : Int) < ((2 : Nat) : Int), HCall Try.prog 96 [(100000, .box [.osl 100001 x2.length]), (100001, .rows 101 5 x2.length (rowsOf T_trie_Hit.c T_trie_Hit.d x2))] [.one (N_trie_node.c p3), .one (.clo (.func 97) 0 1 (fun i => ([] : List C).getD i .junk) (fun i => ([.ptr 100000 0] : List C).getD i .junk))] [(100000, .box [.osl 99999 r.length]), (99999, .rows 101 5 r.length (rowsOf T_trie_Hit.c T_trie_Hit.d r))] (.tup [])]
          (by kernel_rfl) ⟨rfl, h1, by decide, ih p2 w x2 q2, by decide, ih p3 x2 r hf, trivial⟩

/-- trie.All -/
def g_trie_Trie_All (a0 : N_trie_Trie) : Option (List T_trie_Hit) :=
  (match a0 with
  | .nil => some []
  | .mk k0 k1 _ =>
    (g_trie_node_walk 1000 k0 []).bind fun x1 =>
    g_trie_node_walk 1000 k1 x1)

theorem g_trie_Trie_All_own (a0 : N_trie_Trie) (r : List T_trie_Hit) (hf : g_trie_Trie_All a0 = some r) : HCall Try.prog 47 [] [.one (N_trie_Trie.c a0)] [(99999, .rows 101 5 r.length (rowsOf T_trie_Hit.c T_trie_Hit.d r))] (.one (.osl 99999 r.length)) := by
  refine HCall.of Try.func47 rfl rfl rfl rfl fun S0 w0 => ?_
  unfold g_trie_Trie_All at hf
  cases a0 with
  | nil =>
    dsimp only at hf
    replace hf := Option.some.inj hf
    subst hf
    exact toEndH_good allOk 8 _ _ [⟨[], [], [], [], [], [], []⟩, ⟨[], [], [], [], [], [], []⟩, ⟨[], [], [], [], [], [], []⟩] [true] ⟨[], [], [], [], [(2, 99999, 101, 5, rowsOf T_trie_Hit.c T_trie_Hit.d [])], [2], [99999], []⟩ [true = true] (by kernel_rfl) ⟨rfl, trivial⟩
  | mk k0 k1 n =>
    dsimp only at hf
    obtain ⟨x1, q1, hf⟩ := bind_some' hf
    have hk : Good Try.prog 20 S0 w0 (bodyPost Try.prog Try.f47 (HPost S0 w0 [(99999, .rows 101 5 r.length (rowsOf T_trie_Hit.c T_trie_Hit.d r))] (.one (.osl 99999 r.length)))) (at_ [1, 1, 1] (bodyOf Try.f47)) ⟨[(0, .one (N_trie_Trie.c (.mk k0 k1 n))), (3, .one (.ptr 3 0))], [(3, .box [.osl 5000 ([] : List T_trie_Hit).length]), (5000, .rows 101 5 ([] : List T_trie_Hit).length (rowsOf T_trie_Hit.c T_trie_Hit.d ([] : List T_trie_Hit)))]⟩ := by
      exact toEndH_good allOk 40 _ _ [⟨[], [], [], [], [], [], []⟩, ⟨[], [], [], [], [], [], []⟩, ⟨[], [], [], [], [], [], []⟩, ⟨[], [], [], [], [], [], [(2, ⟨[(100000, 3), (100001, 5000)], [(99999, 5001)], [(100000, .box [.osl 99999 x1.length]), (99999, .rows 101 5 x1.length (rowsOf T_trie_Hit.c T_trie_Hit.d x1))], .tup []⟩)]⟩, ⟨[], [], [], [], [], [], []⟩, ⟨[], [], [], [], [], [], []⟩, ⟨[], [], [], [], [], [], []⟩, ⟨[], [], [], [], [], [], [(2, ⟨[(100000, 3), (100001, 5001)], [(99999, 5002)], [(100000, .box [.osl 99999 r.length]), (99999, .rows 101 5 r.length (rowsOf T_trie_Hit.c T_trie_Hit.d r))], .tup []⟩)]⟩, ⟨[], [], [], [], [], [], []⟩, ⟨[], [], [], [], [], [], []⟩, ⟨[], [], [], [], [], [], []⟩] [true, true, false] ⟨[], [], [], [], [], [2], [5002], [(5002, 99999)]⟩
        [decide ((0 : Int) < 2) = true, 0 ≤ (0 : Int) ∧ (0 : Int) < ((2 : Nat) : Int), HCall Try.prog 96 [(100000, .box [.osl 100001 ([] : List T_trie_Hit).length]), (100001, .rows 101 5 ([] : List T_trie_Hit).length (rowsOf T_trie_Hit.c T_trie_Hit.d ([] : List T_trie_Hit)))] [.one (N_trie_node.c k0), .one (.clo (.func 97) 0 1 (fun i => ([] : List C).getD i .junk) (fun i => ([.ptr 100000 0] : List C).getD i .junk))] [(100000, .box [.osl 99999 x1.length]), (99999, .rows 101 5 x1.length (rowsOf T_trie_Hit.c T_trie_Hit.d x1))] (.tup []), decide ((1 : Int) < 2) = true, 0 ≤ (1 : Int) ∧ (1 : Int) < ((2 : Nat) : Int), HCall Try.prog 96 [(100000, .box [.osl 100001 x1.length]), (100001, .rows 101 5 x1.length (rowsOf T_trie_Hit.c T_trie_Hit.d x1))] [.one (N_trie_node.c k1), .one (.clo (.func 97) 0 1 (fun i => ([] : List C).getD i .junk) (fun i => ([.ptr 100000 0] : List C).getD i .junk))] [(100000, .box [.osl 99999 r.length]), (99999, .rows 101 5 r.length (rowsOf T_trie_Hit.c T_trie_Hit.d r))] (.tup []), decide ((2 : Int) < 2) = false]
        (by kernel_rfl) ⟨by decide, by decide, g_trie_node_walk_own 1000 k0 [] x1 q1, by decide, by decide, g_trie_node_walk_own 1000 k1 x1 r hf, by decide, trivial⟩
    exact toK_good allOk HPost.ends 9 _ _ _ _ [⟨[], [], [], [], [], [], []⟩, ⟨[], [], [], [], [], [], []⟩, ⟨[], [], [], [], [], [], []⟩] [false] ⟨[], [], [], [], [(203000, 5000, 101, 5, rowsOf T_trie_Hit.c T_trie_Hit.d [])], [0, 3], [3, 5000], []⟩ [false = false] (by kernel_rfl) ⟨rfl, trivial⟩ hk

theorem g_trie_Trie_All_ok (a0 : N_trie_Trie) (r : List T_trie_Hit) (hf : g_trie_Trie_All a0 = some r) : SCall Try.prog 47 [.one (N_trie_Trie.c a0)] (.one (cL 5 T_trie_Hit.c T_trie_Hit.d r)) := (g_trie_Trie_All_own a0 r hf).pure


def g_doormanlaw11_same_c0 (a0 : (List T_trie_Hit)) (a1 : (List T_doormanref11_Hit))  : Nat → Int → Option Bool
  | 0, _ => none
  | fu + 1, v5 =>
    bif (decide (v5 < ((a0.length : Nat) : Int))) then
      bif (decide (v5 < ((a1.length : Nat) : Int))) then
        need (0 ≤ v5 ∧ v5 < ((a0.length : Nat) : Int)) <|
        need (0 ≤ v5 ∧ v5 < ((a1.length : Nat) : Int)) <|
        bif (!(decide ((a0.getD v5.toNat T_trie_Hit.d).fNet = (a1.getD v5.toNat T_doormanref11_Hit.d).fNet))) then
          some false
        else
          bif ((a0.getD v5.toNat T_trie_Hit.d).fV != (a1.getD v5.toNat T_doormanref11_Hit.d).fV) then
            some false
          else
            g_doormanlaw11_same_c0 a0 a1  fu (add64 v5 (1 : Int))
      else
        some true
    else
      some true

theorem g_doormanlaw11_same_c0_ok (S0 : Nat → Prop) (w0 : Start) (a0 : (List T_trie_Hit)) (a1 : (List T_doormanref11_Hit))  : ∀ (fu : Nat) (v5 : Int) (r : Bool), g_doormanlaw11_same_c0 a0 a1  fu v5 = some r → Good Try.prog 47 S0 w0 (bodyPost Try.prog Try.f46 (Post S0 w0 (.one (.lit (.bool r))))) (at_ [1, 1, 0, 1, 0] (bodyOf Try.f46)) ⟨[(0, .one (cL 5 T_trie_Hit.c T_trie_Hit.d a0)), (1, .one (cL 5 T_doormanref11_Hit.c T_doormanref11_Hit.d a1)), (5, .one (.lit (.int .i64 v5)))], []⟩ := by
  intro fu
  induction fu with
  | zero =>
    intro v5 r hf
    simp [g_doormanlaw11_same_c0] at hf
  | succ fu ih =>
    intro v5 r hf
    unfold g_doormanlaw11_same_c0 at hf
    rcases br_some hf with ⟨h2, hf⟩ | ⟨h2, hf⟩
    · rcases br_some hf with ⟨h3, hf⟩ | ⟨h3, hf⟩
      · obtain ⟨o4, hf⟩ := need_some hf
        obtain ⟨o5, hf⟩ := need_some hf
        rcases br_some hf with ⟨h6, hf⟩ | ⟨h6, hf⟩
        · replace hf := Option.some.inj hf
          subst hf
          exact toEnd_good allOk 13 _ _ [⟨[], [(4, true)], [], [], [], [], []⟩, ⟨[(10, .r (.one (.lit (.bool (!(decide ((a0.getD v5.toNat T_trie_Hit.d).fNet = (a1.getD v5.toNat T_doormanref11_Hit.d).fNet)))))) [])], [(11, true)], [], [[], [], [0, 1], [2, 0, 1], [3, 2, 0, 1], [], [], [5, 6], [7, 5, 6], [8, 7, 5, 6], [4, 3, 2, 0, 1, 9, 8, 7, 5, 6], [10, 4, 3, 2, 0, 1, 9, 8, 7, 5, 6], [11, 10, 4, 3, 2, 0, 1, 9, 8, 7, 5, 6], [11, 10, 4, 3, 2, 0, 1, 9, 8, 7, 5, 6], [12, 11, 10, 4, 3, 2, 0, 1, 9, 8, 7, 5, 6, 13], [14, 12, 11, 10, 4, 3, 2, 0, 1, 9, 8, 7, 5, 6, 13], [15, 14, 12, 11, 10, 4, 3, 2, 0, 1, 9, 8, 7, 5, 6, 13], [11, 10, 4, 3, 2, 0, 1, 9, 8, 7, 5, 6], [11, 10, 4, 3, 2, 0, 1, 9, 8, 7, 5, 6], [17, 11, 10, 4, 3, 2, 0, 1, 9, 8, 7, 5, 6, 18], [19, 17, 11, 10, 4, 3, 2, 0, 1, 9, 8, 7, 5, 6, 18], [20, 19, 17, 11, 10, 4, 3, 2, 0, 1, 9, 8, 7, 5, 6, 18], [16, 15, 14, 12, 11, 10, 4, 3, 2, 0, 1, 9, 8, 7, 5, 6, 13, 21, 20, 19, 17, 18], [11, 10, 4, 3, 2, 0, 1, 9, 8, 7, 5, 6, 22, 16, 15, 14, 12, 13, 21, 20, 19, 17, 18]], [], [], []⟩, ⟨[], [], [], [], [], [], []⟩] [true, true] [] [] [] [(decide (v5 < ((a0.length : Nat) : Int))) = true, (decide (v5 < ((a1.length : Nat) : Int))) = true, 0 ≤ v5 ∧ v5 < ((a0.length : Nat) : Int), 0 ≤ v5 ∧ v5 < ((a1.length : Nat) : Int), ∀ w, (do eqGuard .neq 81 (.tmp 27) (.tmp 32) (.agg #[.bool ((((a0.getD v5.toNat T_trie_Hit.d).fNet).fAddr).fV6), .int .u64 ((((a0.getD v5.toNat T_trie_Hit.d).fNet).fAddr).fHi), .int .u64 ((((a0.getD v5.toNat T_trie_Hit.d).fNet).fAddr).fLo), .int .i64 (((a0.getD v5.toNat T_trie_Hit.d).fNet).fBits)]) (.agg #[.bool ((((a1.getD v5.toNat T_doormanref11_Hit.d).fNet).fAddr).fV6), .int .u64 ((((a1.getD v5.toNat T_doormanref11_Hit.d).fNet).fAddr).fHi), .int .u64 ((((a1.getD v5.toNat T_doormanref11_Hit.d).fNet).fAddr).fLo), .int .i64 (((a1.getD v5.toNat T_doormanref11_Hit.d).fNet).fBits)]); binOp .neq 81 (.agg #[.bool ((((a0.getD v5.toNat T_trie_Hit.d).fNet).fAddr).fV6), .int .u64 ((((a0.getD v5.toNat T_trie_Hit.d).fNet).fAddr).fHi), .int .u64 ((((a0.getD v5.toNat T_trie_Hit.d).fNet).fAddr).fLo), .int .i64 (((a0.getD v5.toNat T_trie_Hit.d).fNet).fBits)]) (.agg #[.bool ((((a1.getD v5.toNat T_doormanref11_Hit.d).fNet).fAddr).fV6), .int .u64 ((((a1.getD v5.toNat T_doormanref11_Hit.d).fNet).fAddr).fHi), .int .u64 ((((a1.getD v5.toNat T_doormanref11_Hit.d).fNet).fAddr).fLo), .int .i64 (((a1.getD v5.toNat T_doormanref11_Hit.d).fNet).fBits)]) : Sem Value).run Try.prog w = .ok (.bool (!(decide ((a0.getD v5.toNat T_trie_Hit.d).fNet = (a1.getD v5.toNat T_doormanref11_Hit.d).fNet)))) w, (!(decide ((a0.getD v5.toNat T_trie_Hit.d).fNet = (a1.getD v5.toNat T_doormanref11_Hit.d).fNet))) = true, true = true] (by kernel_rfl) rfl ⟨h2, h3, o4, o5, (neq_T_api_Net ((a0.getD v5.toNat T_trie_Hit.d).fNet) ((a1.getD v5.toNat T_doormanref11_Hit.d).fNet) _ _), h6, rfl, trivial⟩
        · rcases br_some hf with ⟨h7, hf⟩ | ⟨h7, hf⟩
          · replace hf := Option.some.inj hf
            subst hf
            exact toEnd_good allOk 13 _ _ [⟨[], [(4, true)], [], [], [], [], []⟩, ⟨[(10, .r (.one (.lit (.bool (!(decide ((a0.getD v5.toNat T_trie_Hit.d).fNet = (a1.getD v5.toNat T_doormanref11_Hit.d).fNet)))))) [])], [(11, false)], [], [[], [], [0, 1], [2, 0, 1], [3, 2, 0, 1], [], [], [5, 6], [7, 5, 6], [8, 7, 5, 6], [4, 3, 2, 0, 1, 9, 8, 7, 5, 6], [10, 4, 3, 2, 0, 1, 9, 8, 7, 5, 6], [11, 10, 4, 3, 2, 0, 1, 9, 8, 7, 5, 6], [11, 10, 4, 3, 2, 0, 1, 9, 8, 7, 5, 6], [12, 11, 10, 4, 3, 2, 0, 1, 9, 8, 7, 5, 6, 13], [14, 12, 11, 10, 4, 3, 2, 0, 1, 9, 8, 7, 5, 6, 13], [15, 14, 12, 11, 10, 4, 3, 2, 0, 1, 9, 8, 7, 5, 6, 13], [11, 10, 4, 3, 2, 0, 1, 9, 8, 7, 5, 6], [11, 10, 4, 3, 2, 0, 1, 9, 8, 7, 5, 6], [17, 11, 10, 4, 3, 2, 0, 1, 9, 8, 7, 5, 6, 18], [19, 17, 11, 10, 4, 3, 2, 0, 1, 9, 8, 7, 5, 6, 18], [20, 19, 17, 11, 10, 4, 3, 2, 0, 1, 9, 8, 7, 5, 6, 18], [16, 15, 14, 12, 11, 10, 4, 3, 2, 0, 1, 9, 8, 7, 5, 6, 13, 21, 20, 19, 17, 18], [11, 10, 4, 3, 2, 0, 1, 9, 8, 7, 5, 6, 22, 16, 15, 14, 12, 13, 21, 20, 19, 17, 18]], [], [], []⟩, ⟨[], [], [], [], [], [], []⟩] [true, true] [] [] [] [(decide (v5 < ((a0.length : Nat) : Int))) = true, (decide (v5 < ((a1.length : Nat) : Int))) = true, 0 ≤ v5 ∧ v5 < ((a0.length : Nat) : Int), 0 ≤ v5 ∧ v5 < ((a1.length : Nat) : Int), ∀ w, (do eqGuard .neq 81 (.tmp 27) (.tmp 32) (.agg #[.bool ((((a0.getD v5.toNat T_trie_Hit.d).fNet).fAddr).fV6), .int .u64 ((((a0.getD v5.toNat T_trie_Hit.d).fNet).fAddr).fHi), .int .u64 ((((a0.getD v5.toNat T_trie_Hit.d).fNet).fAddr).fLo), .int .i64 (((a0.getD v5.toNat T_trie_Hit.d).fNet).fBits)]) (.agg #[.bool ((((a1.getD v5.toNat T_doormanref11_Hit.d).fNet).fAddr).fV6), .int .u64 ((((a1.getD v5.toNat T_doormanref11_Hit.d).fNet).fAddr).fHi), .int .u64 ((((a1.getD v5.toNat T_doormanref11_Hit.d).fNet).fAddr).fLo), .int .i64 (((a1.getD v5.toNat T_doormanref11_Hit.d).fNet).fBits)]); binOp .neq 81 (.agg #[.bool ((((a0.getD v5.toNat T_trie_Hit.d).fNet).fAddr).fV6), .int .u64 ((((a0.getD v5.toNat T_trie_Hit.d).fNet).fAddr).fHi), .int .u64 ((((a0.getD v5.toNat T_trie_Hit.d).fNet).fAddr).fLo), .int .i64 (((a0.getD v5.toNat T_trie_Hit.d).fNet).fBits)]) (.agg #[.bool ((((a1.getD v5.toNat T_doormanref11_Hit.d).fNet).fAddr).fV6), .int .u64 ((((a1.getD v5.toNat T_doormanref11_Hit.d).fNet).fAddr).fHi), .int .u64 ((((a1.getD v5.toNat T_doormanref11_Hit.d).fNet).fAddr).fLo), .int .i64 (((a1.getD v5.toNat T_doormanref11_Hit.d).fNet).fBits)]) : Sem Value).run Try.prog w = .ok (.bool (!(decide ((a0.getD v5.toNat T_trie_Hit.d).fNet = (a1.getD v5.toNat T_doormanref11_Hit.d).fNet)))) w, (!(decide ((a0.getD v5.toNat T_trie_Hit.d).fNet = (a1.getD v5.toNat T_doormanref11_Hit.d).fNet))) = false, 0 ≤ v5 ∧ v5 < ((a0.length : Nat) : Int), 0 ≤ v5 ∧ v5 < ((a1.length : Nat) : Int), ((a0.getD v5.toNat T_trie_Hit.d).fV != (a1.getD v5.toNat T_doormanref11_Hit.d).fV) = true] (by kernel_rfl) rfl ⟨h2, h3, o4, o5, (neq_T_api_Net ((a0.getD v5.toNat T_trie_Hit.d).fNet) ((a1.getD v5.toNat T_doormanref11_Hit.d).fNet) _ _), h6, o4, o5, h7, trivial⟩
          · exact toK_good allOk Post.ends 15 _ _ _ _ [⟨[], [(4, true)], [], [], [], [], []⟩, ⟨[(10, .r (.one (.lit (.bool (!(decide ((a0.getD v5.toNat T_trie_Hit.d).fNet = (a1.getD v5.toNat T_doormanref11_Hit.d).fNet)))))) [])], [(11, false)], [], [[], [], [0, 1], [2, 0, 1], [3, 2, 0, 1], [], [], [5, 6], [7, 5, 6], [8, 7, 5, 6], [4, 3, 2, 0, 1, 9, 8, 7, 5, 6], [10, 4, 3, 2, 0, 1, 9, 8, 7, 5, 6], [11, 10, 4, 3, 2, 0, 1, 9, 8, 7, 5, 6], [11, 10, 4, 3, 2, 0, 1, 9, 8, 7, 5, 6], [12, 11, 10, 4, 3, 2, 0, 1, 9, 8, 7, 5, 6, 13], [14, 12, 11, 10, 4, 3, 2, 0, 1, 9, 8, 7, 5, 6, 13], [15, 14, 12, 11, 10, 4, 3, 2, 0, 1, 9, 8, 7, 5, 6, 13], [11, 10, 4, 3, 2, 0, 1, 9, 8, 7, 5, 6], [11, 10, 4, 3, 2, 0, 1, 9, 8, 7, 5, 6], [17, 11, 10, 4, 3, 2, 0, 1, 9, 8, 7, 5, 6, 18], [19, 17, 11, 10, 4, 3, 2, 0, 1, 9, 8, 7, 5, 6, 18], [20, 19, 17, 11, 10, 4, 3, 2, 0, 1, 9, 8, 7, 5, 6, 18], [16, 15, 14, 12, 11, 10, 4, 3, 2, 0, 1, 9, 8, 7, 5, 6, 13, 21, 20, 19, 17, 18], [11, 10, 4, 3, 2, 0, 1, 9, 8, 7, 5, 6, 22, 16, 15, 14, 12, 13, 21, 20, 19, 17, 18]], [], [], []⟩, ⟨[], [], [], [], [], [], []⟩] [true, false] ⟨[], [], [], [], [], [0, 1, 5], [], []⟩ [(decide (v5 < ((a0.length : Nat) : Int))) = true, (decide (v5 < ((a1.length : Nat) : Int))) = true, 0 ≤ v5 ∧ v5 < ((a0.length : Nat) : Int), 0 ≤ v5 ∧ v5 < ((a1.length : Nat) : Int), ∀ w, (do eqGuard .neq 81 (.tmp 27) (.tmp 32) (.agg #[.bool ((((a0.getD v5.toNat T_trie_Hit.d).fNet).fAddr).fV6), .int .u64 ((((a0.getD v5.toNat T_trie_Hit.d).fNet).fAddr).fHi), .int .u64 ((((a0.getD v5.toNat T_trie_Hit.d).fNet).fAddr).fLo), .int .i64 (((a0.getD v5.toNat T_trie_Hit.d).fNet).fBits)]) (.agg #[.bool ((((a1.getD v5.toNat T_doormanref11_Hit.d).fNet).fAddr).fV6), .int .u64 ((((a1.getD v5.toNat T_doormanref11_Hit.d).fNet).fAddr).fHi), .int .u64 ((((a1.getD v5.toNat T_doormanref11_Hit.d).fNet).fAddr).fLo), .int .i64 (((a1.getD v5.toNat T_doormanref11_Hit.d).fNet).fBits)]); binOp .neq 81 (.agg #[.bool ((((a0.getD v5.toNat T_trie_Hit.d).fNet).fAddr).fV6), .int .u64 ((((a0.getD v5.toNat T_trie_Hit.d).fNet).fAddr).fHi), .int .u64 ((((a0.getD v5.toNat T_trie_Hit.d).fNet).fAddr).fLo), .int .i64 (((a0.getD v5.toNat T_trie_Hit.d).fNet).fBits)]) (.agg #[.bool ((((a1.getD v5.toNat T_doormanref11_Hit.d).fNet).fAddr).fV6), .int .u64 ((((a1.getD v5.toNat T_doormanref11_Hit.d).fNet).fAddr).fHi), .int .u64 ((((a1.getD v5.toNat T_doormanref11_Hit.d).fNet).fAddr).fLo), .int .i64 (((a1.getD v5.toNat T_doormanref11_Hit.d).fNet).fBits)]) : Sem Value).run Try.prog w = .ok (.bool (!(decide ((a0.getD v5.toNat T_trie_Hit.d).fNet = (a1.getD v5.toNat T_doormanref11_Hit.d).fNet)))) w, (!(decide ((a0.getD v5.toNat T_trie_Hit.d).fNet = (a1.getD v5.toNat T_doormanref11_Hit.d).fNet))) = false, 0 ≤ v5 ∧ v5 < ((a0.length : Nat) : Int), 0 ≤ v5 ∧ v5 < ((a1.length : Nat) : Int), ((a0.getD v5.toNat T_trie_Hit.d).fV != (a1.getD v5.toNat T_doormanref11_Hit.d).fV) = false] (by kernel_rfl) ⟨h2, h3, o4, o5, (neq_T_api_Net ((a0.getD v5.toNat T_trie_Hit.d).fNet) ((a1.getD v5.toNat T_doormanref11_Hit.d).fNet) _ _), h6, o4, o5, h7, trivial⟩ (ih (add64 v5 (1 : Int)) r hf)
      · replace hf := Option.some.inj hf
        subst hf
        exact toEnd_good allOk 8 _ _ [⟨[], [(4, true)], [], [], [], [], []⟩, ⟨[], [], [], [], [], [], []⟩] [false] [] [] [] [(decide (v5 < ((a0.length : Nat) : Int))) = true, (decide (v5 < ((a1.length : Nat) : Int))) = false] (by kernel_rfl) rfl ⟨h2, h3, trivial⟩
    · replace hf := Option.some.inj hf
      subst hf
      exact toEnd_good allOk 8 _ _ [⟨[], [(4, false)], [], [], [], [], []⟩, ⟨[], [], [], [], [], [], []⟩] [false] [] [] [] [(decide (v5 < ((a0.length : Nat) : Int))) = false, false = false] (by kernel_rfl) rfl ⟨h2, rfl, trivial⟩

/-- doorman/doormanlaw11.same -/
def g_doormanlaw11_same (a0 : (List T_trie_Hit)) (a1 : (List T_doormanref11_Hit)) : Option Bool :=
  bif (((a0.length : Nat) : Int) != ((a1.length : Nat) : Int)) then
    some false
  else
    g_doormanlaw11_same_c0 a0 a1  ((((a1.length : Nat) : Int) - (0 : Int)).toNat + 2) (0 : Int)

theorem g_doormanlaw11_same_ok (a0 : (List T_trie_Hit)) (a1 : (List T_doormanref11_Hit)) (r : Bool) (hf : g_doormanlaw11_same a0 a1 = some r) : SCall Try.prog 46 [.one (cL 5 T_trie_Hit.c T_trie_Hit.d a0), .one (cL 5 T_doormanref11_Hit.c T_doormanref11_Hit.d a1)] (.one (.lit (.bool r))) := by
  refine SCall.of Try.func46 rfl rfl rfl rfl fun S0 w0 => ?_
  unfold g_doormanlaw11_same at hf
  rcases br_some hf with ⟨h1, hf⟩ | ⟨h1, hf⟩
  · replace hf := Option.some.inj hf
    subst hf
    exact toEnd_good allOk 8 _ _ [⟨[], [], [], [], [], [], []⟩, ⟨[], [], [], [], [], [], []⟩, ⟨[], [], [], [], [], [], []⟩] [true] [] [] [] [(((a0.length : Nat) : Int) != ((a1.length : Nat) : Int)) = true] (by kernel_rfl) rfl ⟨h1, trivial⟩
  · exact toK_good allOk Post.ends 11 _ _ _ _ [⟨[], [], [], [], [], [], []⟩, ⟨[], [], [], [], [], [], []⟩, ⟨[], [], [], [], [], [], []⟩] [false] ⟨[], [], [], [], [], [0, 1, 5], [], []⟩ [(((a0.length : Nat) : Int) != ((a1.length : Nat) : Int)) = false] (by kernel_rfl) ⟨h1, trivial⟩ (g_doormanlaw11_same_c0_ok S0 w0 a0 a1   ((((a1.length : Nat) : Int) - (0 : Int)).toNat + 2) (0 : Int) r hf)

def g_doormanref07_Has_c0   : Nat → Int → T_api_Net → T_api_Addr → Option Bool
  | 0, _, _, _ => none
  | fu + 1, v5, b2, b3 =>
    bif (decide (v5 < b2.fBits)) then
      (g_doormanref06_Bit b2.fAddr v5).bind fun x3 =>
      (g_doormanref06_Bit b3 v5).bind fun x4 =>
      bif (x3 != x4) then
        some false
      else
        g_doormanref07_Has_c0   fu (add64 v5 (1 : Int)) b2 b3
    else
      some true

theorem g_doormanref07_Has_c0_ok (S0 : Nat → Prop) (w0 : Start)   : ∀ (fu : Nat) (v5 : Int) (b2 : T_api_Net) (b3 : T_api_Addr) (r : Bool), g_doormanref07_Has_c0   fu v5 b2 b3 = some r → Good Try.prog 36 S0 w0 (bodyPost Try.prog Try.f102 (Post S0 w0 (.one (.lit (.bool r))))) (at_ [1, 1, 0, 1, 0] (bodyOf Try.f102)) ⟨[(2, .one (.ptr 2 0)), (3, .one (.ptr 3 0)), (5, .one (.lit (.int .i64 v5)))], [(2, .box [.lit (.bool b2.fAddr.fV6), .lit (.int .u64 b2.fAddr.fHi), .lit (.int .u64 b2.fAddr.fLo), .lit (.int .i64 b2.fBits)]), (3, .box [.lit (.bool b3.fV6), .lit (.int .u64 b3.fHi), .lit (.int .u64 b3.fLo)])]⟩ := by
  intro fu
  induction fu with
  | zero =>
    intro v5 b2 b3 r hf
    simp [g_doormanref07_Has_c0] at hf
  | succ fu ih =>
    intro v5 b2 b3 r hf
    unfold g_doormanref07_Has_c0 at hf
    rcases br_some hf with ⟨h6, hf⟩ | ⟨h6, hf⟩
    · obtain ⟨x3, q7, hf⟩ := bind_some' hf
      obtain ⟨x4, q8, hf⟩ := bind_some' hf
      rcases br_some hf with ⟨h9, hf⟩ | ⟨h9, hf⟩
      · replace hf := Option.some.inj hf
        subst hf
        exact toEnd_good allOk 13 _ _ [⟨[], [], [], [], [], [], []⟩, ⟨[(3, .r (.one (.lit (.int .i64 x3))) []), (6, .r (.one (.lit (.int .i64 x4))) [])], [], [], [[], [0], [], [1, 0, 2], [], [], [4, 5, 3, 1, 0, 2], [3, 1, 0, 2, 6, 4, 5]], [], [], []⟩, ⟨[], [], [], [], [], [], []⟩] [true, true] [] [] [] [(decide (v5 < b2.fBits)) = true, SCall Try.prog 115 [.agg (T_api_Addr.c b2.fAddr), .one (.lit (.int .i64 v5))] (.one (.lit (.int .i64 x3))), SCall Try.prog 115 [.agg (T_api_Addr.c b3), .one (.lit (.int .i64 v5))] (.one (.lit (.int .i64 x4))), (x3 != x4) = true] (by kernel_rfl) rfl ⟨h6, (g_doormanref06_Bit_ok b2.fAddr v5 x3 q7), (g_doormanref06_Bit_ok b3 v5 x4 q8), h9, trivial⟩
      · exact toK_good allOk Post.ends 15 _ _ _ _ [⟨[], [], [], [], [], [], []⟩, ⟨[(3, .r (.one (.lit (.int .i64 x3))) []), (6, .r (.one (.lit (.int .i64 x4))) [])], [], [], [[], [0], [], [1, 0, 2], [], [], [4, 5, 3, 1, 0, 2], [3, 1, 0, 2, 6, 4, 5]], [], [], []⟩, ⟨[], [], [], [], [], [], []⟩] [true, false] ⟨[], [], [], [], [], [2, 3, 5], [2, 3], []⟩ [(decide (v5 < b2.fBits)) = true, SCall Try.prog 115 [.agg (T_api_Addr.c b2.fAddr), .one (.lit (.int .i64 v5))] (.one (.lit (.int .i64 x3))), SCall Try.prog 115 [.agg (T_api_Addr.c b3), .one (.lit (.int .i64 v5))] (.one (.lit (.int .i64 x4))), (x3 != x4) = false] (by kernel_rfl) ⟨h6, (g_doormanref06_Bit_ok b2.fAddr v5 x3 q7), (g_doormanref06_Bit_ok b3 v5 x4 q8), h9, trivial⟩ (ih (add64 v5 (1 : Int)) b2 b3 r hf)
    · replace hf := Option.some.inj hf
      subst hf
      exact toEnd_good allOk 8 _ _ [⟨[], [], [], [], [], [], []⟩, ⟨[], [], [], [], [], [], []⟩] [false] [] [] [] [(decide (v5 < b2.fBits)) = false] (by kernel_rfl) rfl ⟨h6, trivial⟩

/-- doorman/doormanref07.Has -/
def g_doormanref07_Has (a0 : T_api_Net) (a1 : T_api_Addr) : Option Bool :=
  (g_doormanref07_Right a0).bind fun x1 =>
  bif (!x1) then
    some false
  else
    (g_doormanref06_Right a1).bind fun x2 =>
    bif (!x2) then
      some false
    else
      bif (!(a0.fAddr.fV6 == a1.fV6)) then
        some false
      else
        g_doormanref07_Has_c0   1000000 (0 : Int) a0 a1

theorem g_doormanref07_Has_ok (a0 : T_api_Net) (a1 : T_api_Addr) (r : Bool) (hf : g_doormanref07_Has a0 a1 = some r) : SCall Try.prog 102 [.agg (T_api_Net.c a0), .agg (T_api_Addr.c a1)] (.one (.lit (.bool r))) := by
  refine SCall.of Try.func102 rfl rfl rfl rfl fun S0 w0 => ?_
  unfold g_doormanref07_Has at hf
  obtain ⟨x1, q1, hf⟩ := bind_some' hf
  rcases br_some hf with ⟨h2, hf⟩ | ⟨h2, hf⟩
  · replace hf := Option.some.inj hf
    subst hf
    exact toEnd_good allOk 8 _ _ [⟨[], [], [], [], [], [], []⟩, ⟨[(1, .r (.one (.lit (.bool x1))) [])], [(3, true)], [], [], [], [], []⟩, ⟨[], [], [], [], [], [], []⟩] [true] [] [] [] [SCall Try.prog 91 [.agg (T_api_Net.c a0)] (.one (.lit (.bool x1))), (!x1) = true, true = true] (by kernel_rfl) rfl ⟨(g_doormanref07_Right_ok a0 x1 q1), h2, rfl, trivial⟩
  · obtain ⟨x2, q3, hf⟩ := bind_some' hf
    rcases br_some hf with ⟨h4, hf⟩ | ⟨h4, hf⟩
    · replace hf := Option.some.inj hf
      subst hf
      exact toEnd_good allOk 8 _ _ [⟨[], [], [], [], [], [], []⟩, ⟨[(1, .r (.one (.lit (.bool x1))) []), (5, .r (.one (.lit (.bool x2))) [])], [(3, false), (8, true)], [], [], [], [], []⟩, ⟨[], [], [], [], [], [], []⟩] [true] [] [] [] [SCall Try.prog 91 [.agg (T_api_Net.c a0)] (.one (.lit (.bool x1))), (!x1) = false, SCall Try.prog 114 [.agg (T_api_Addr.c a1)] (.one (.lit (.bool x2))), (!x2) = true, true = true] (by kernel_rfl) rfl ⟨(g_doormanref07_Right_ok a0 x1 q1), h2, (g_doormanref06_Right_ok a1 x2 q3), h4, rfl, trivial⟩
    · rcases br_some hf with ⟨h5, hf⟩ | ⟨h5, hf⟩
      · replace hf := Option.some.inj hf
        subst hf
        exact toEnd_good allOk 8 _ _ [⟨[], [], [], [], [], [], []⟩, ⟨[(1, .r (.one (.lit (.bool x1))) []), (5, .r (.one (.lit (.bool x2))) [])], [(3, false), (8, false)], [], [], [], [], []⟩, ⟨[], [], [], [], [], [], []⟩] [true] [] [] [] [SCall Try.prog 91 [.agg (T_api_Net.c a0)] (.one (.lit (.bool x1))), (!x1) = false, SCall Try.prog 114 [.agg (T_api_Addr.c a1)] (.one (.lit (.bool x2))), (!x2) = false, (!(a0.fAddr.fV6 == a1.fV6)) = true] (by kernel_rfl) rfl ⟨(g_doormanref07_Right_ok a0 x1 q1), h2, (g_doormanref06_Right_ok a1 x2 q3), h4, h5, trivial⟩
      · exact toK_good allOk Post.ends 11 _ _ _ _ [⟨[], [], [], [], [], [], []⟩, ⟨[(1, .r (.one (.lit (.bool x1))) []), (5, .r (.one (.lit (.bool x2))) [])], [(3, false), (8, false)], [], [], [], [], []⟩, ⟨[], [], [], [], [], [], []⟩] [false] ⟨[], [], [], [], [], [2, 3, 5], [2, 3], []⟩ [SCall Try.prog 91 [.agg (T_api_Net.c a0)] (.one (.lit (.bool x1))), (!x1) = false, SCall Try.prog 114 [.agg (T_api_Addr.c a1)] (.one (.lit (.bool x2))), (!x2) = false, (!(a0.fAddr.fV6 == a1.fV6)) = false] (by kernel_rfl) ⟨(g_doormanref07_Right_ok a0 x1 q1), h2, (g_doormanref06_Right_ok a1 x2 q3), h4, h5, trivial⟩ (g_doormanref07_Has_c0_ok S0 w0    1000000 (0 : Int) a0 a1 r hf)

def g_doormanref11_Cover_c1 (a0 : (List T_doormanref11_Hit)) (v6 : Int) (b3 : T_api_Addr) (kg_doormanref11_Cover_c0 : Int → (List T_doormanref11_Hit) → T_api_Addr → Option (List T_doormanref11_Hit)) : Nat → Int → (List T_doormanref11_Hit) → Option (List T_doormanref11_Hit)
  | 0, _, _ => none
  | fu + 1, v7, w5 =>
    bif (decide (v7 < ((a0.length : Nat) : Int))) then
      need (0 ≤ v7 ∧ v7 < ((a0.length : Nat) : Int)) <|
      bif (((a0.getD v7.toNat T_doormanref11_Hit.d).fNet).fBits == v6) then
        (g_doormanref07_Has ((a0.getD v7.toNat T_doormanref11_Hit.d).fNet) b3).bind fun x2 =>
        bif x2 then
          need ((w5 ++ ([(a0.getD v7.toNat T_doormanref11_Hit.d)] : List T_doormanref11_Hit)).length * 40 ≤ 140737488355328 ∧ (w5 ++ ([(a0.getD v7.toNat T_doormanref11_Hit.d)] : List T_doormanref11_Hit)).length ≤ maxLen) <|
          g_doormanref11_Cover_c1 a0 v6 b3 kg_doormanref11_Cover_c0 fu (add64 v7 (1 : Int)) (w5 ++ ([(a0.getD v7.toNat T_doormanref11_Hit.d)] : List T_doormanref11_Hit))
        else
          g_doormanref11_Cover_c1 a0 v6 b3 kg_doormanref11_Cover_c0 fu (add64 v7 (1 : Int)) w5
      else
        g_doormanref11_Cover_c1 a0 v6 b3 kg_doormanref11_Cover_c0 fu (add64 v7 (1 : Int)) w5
    else
      kg_doormanref11_Cover_c0 (add64 v6 (1 : Int)) w5 b3

theorem g_doormanref11_Cover_c1_ok (S0 : Nat → Prop) (w0 : Start) (a0 : (List T_doormanref11_Hit)) (v6 : Int) (b3 : T_api_Addr) (kg_doormanref11_Cover_c0 : Int → (List T_doormanref11_Hit) → T_api_Addr → Option (List T_doormanref11_Hit)) (hg_doormanref11_Cover_c0 : ∀ (v6_ : Int) (w5_ : (List T_doormanref11_Hit)) (b3_ : T_api_Addr) (r : (List T_doormanref11_Hit)), kg_doormanref11_Cover_c0 v6_ w5_ b3_ = some r → Good Try.prog 46 S0 w0 (bodyPost Try.prog Try.f49 (HPost S0 w0 [(99999, .rows 169 5 r.length (rowsOf T_doormanref11_Hit.c T_doormanref11_Hit.d r))] (.one (.osl 99999 r.length)))) (at_ [1, 1, 0, 1, 0] (bodyOf Try.f49)) ⟨[(0, .one (cL 5 T_doormanref11_Hit.c T_doormanref11_Hit.d a0)), (3, .one (.ptr 3 0)), (5, .one (.osl 5 w5_.length)), (6, .one (.lit (.int .i64 v6_)))], [(5, .rows 169 5 w5_.length (rowsOf T_doormanref11_Hit.c T_doormanref11_Hit.d w5_)), (3, .box [.lit (.bool b3_.fV6), .lit (.int .u64 b3_.fHi), .lit (.int .u64 b3_.fLo)])]⟩) : ∀ (fu : Nat) (v7 : Int) (w5 : (List T_doormanref11_Hit)) (r : (List T_doormanref11_Hit)), g_doormanref11_Cover_c1 a0 v6 b3 kg_doormanref11_Cover_c0 fu v7 w5 = some r → Good Try.prog 46 S0 w0 (bodyPost Try.prog Try.f49 (HPost S0 w0 [(99999, .rows 169 5 r.length (rowsOf T_doormanref11_Hit.c T_doormanref11_Hit.d r))] (.one (.osl 99999 r.length)))) (at_ [1, 1, 0, 1, 0, 0, 1, 0, 0, 1, 0] (bodyOf Try.f49)) ⟨[(0, .one (cL 5 T_doormanref11_Hit.c T_doormanref11_Hit.d a0)), (3, .one (.ptr 3 0)), (5, .one (.osl 5 w5.length)), (6, .one (.lit (.int .i64 v6))), (7, .one (.lit (.int .i64 v7)))], [(5, .rows 169 5 w5.length (rowsOf T_doormanref11_Hit.c T_doormanref11_Hit.d w5)), (3, .box [.lit (.bool b3.fV6), .lit (.int .u64 b3.fHi), .lit (.int .u64 b3.fLo)])]⟩ := by
  intro fu
  induction fu with
  | zero =>
    intro v7 w5 r hf
    simp [g_doormanref11_Cover_c1] at hf
  | succ fu ih =>
    intro v7 w5 r hf
    unfold g_doormanref11_Cover_c1 at hf
    rcases br_some hf with ⟨h3, hf⟩ | ⟨h3, hf⟩
    · obtain ⟨o4, hf⟩ := need_some hf
      rcases br_some hf with ⟨h5, hf⟩ | ⟨h5, hf⟩
      · obtain ⟨x2, q6, hf⟩ := bind_some' hf
        rcases br_some hf with ⟨h7, hf⟩ | ⟨h7, hf⟩
        · obtain ⟨o8, hf⟩ := need_some hf
          exact toK_good allOk HPost.ends 15 _ _ _ _ [⟨[], [], [], [], [], [], []⟩, ⟨[(15, .r (.one (.lit (.bool x2))) [])], [(8, true)], [], [[], [], [0, 1], [2, 0, 1], [3, 2, 0, 1], [4, 3, 2, 0, 1], [], [5, 4, 3, 2, 0, 1, 6], [7, 5, 4, 3, 2, 0, 1, 6], [8, 7, 5, 4, 3, 2, 0, 1, 6], [8, 7, 5, 4, 3, 2, 0, 1, 6], [9, 8, 7, 5, 4, 3, 2, 0, 1, 6, 10], [11, 9, 8, 7, 5, 4, 3, 2, 0, 1, 6, 10], [12, 11, 9, 8, 7, 5, 4, 3, 2, 0, 1, 6, 10], [8, 7, 5, 4, 3, 2, 0, 1, 6], [13, 12, 11, 9, 8, 7, 5, 4, 3, 2, 0, 1, 6, 10, 14], [8, 7, 5, 4, 3, 2, 0, 1, 6, 15, 13, 12, 11, 9, 10, 14]], [], [], []⟩, ⟨[(6, .c ((w5 ++ ([(a0.getD v7.toNat T_doormanref11_Hit.d)] : List T_doormanref11_Hit)).length) (rowsOf T_doormanref11_Hit.c T_doormanref11_Hit.d (w5 ++ ([(a0.getD v7.toNat T_doormanref11_Hit.d)] : List T_doormanref11_Hit))))], [], [], [], [], [(5, (([(a0.getD v7.toNat T_doormanref11_Hit.d)] : List T_doormanref11_Hit).length, rowsOf T_doormanref11_Hit.c T_doormanref11_Hit.d ([(a0.getD v7.toNat T_doormanref11_Hit.d)] : List T_doormanref11_Hit)))], []⟩, ⟨[], [], [], [], [], [], []⟩] [true, true] ⟨[], [], [], [], [], [0, 3, 5, 6, 7], [44, 3], [(44, 5)]⟩ [(decide (v7 < ((a0.length : Nat) : Int))) = true, 0 ≤ v7 ∧ v7 < ((a0.length : Nat) : Int), (((a0.getD v7.toNat T_doormanref11_Hit.d).fNet).fBits == v6) = true, 0 ≤ v7 ∧ v7 < ((a0.length : Nat) : Int), SCall Try.prog 102 [.agg (T_api_Net.c ((a0.getD v7.toNat T_doormanref11_Hit.d).fNet)), .agg (T_api_Addr.c b3)] (.one (.lit (.bool x2))), x2 = true, 0 ≤ v7 ∧ v7 < ((a0.length : Nat) : Int), ([(a0.getD v7.toNat T_doormanref11_Hit.d)] : List T_doormanref11_Hit).length = 1 ∧ ∀ i j, i < 1 → j < 5 → rowsOf T_doormanref11_Hit.c T_doormanref11_Hit.d ([(a0.getD v7.toNat T_doormanref11_Hit.d)] : List T_doormanref11_Hit) i j = (([(a0.getD v7.toNat T_doormanref11_Hit.d)] : List T_doormanref11_Hit).flatMap T_doormanref11_Hit.c).getD (i * 5 + j) .junk, Ext 5 w5.length (([(a0.getD v7.toNat T_doormanref11_Hit.d)] : List T_doormanref11_Hit).length) (rowsOf T_doormanref11_Hit.c T_doormanref11_Hit.d w5) (rowsOf T_doormanref11_Hit.c T_doormanref11_Hit.d ([(a0.getD v7.toNat T_doormanref11_Hit.d)] : List T_doormanref11_Hit)) ((w5 ++ ([(a0.getD v7.toNat T_doormanref11_Hit.d)] : List T_doormanref11_Hit)).length) (rowsOf T_doormanref11_Hit.c T_doormanref11_Hit.d (w5 ++ ([(a0.getD v7.toNat T_doormanref11_Hit.d)] : List T_doormanref11_Hit))), (w5 ++ ([(a0.getD v7.toNat T_doormanref11_Hit.d)] : List T_doormanref11_Hit)).length * 40 ≤ 140737488355328, (w5 ++ ([(a0.getD v7.toNat T_doormanref11_Hit.d)] : List T_doormanref11_Hit)).length ≤ maxLen] (by kernel_rfl) ⟨h3, o4, h5, o4, (g_doormanref07_Has_ok ((a0.getD v7.toNat T_doormanref11_Hit.d).fNet) b3 x2 q6), h7, o4, ⟨rfl, fun i j hi hj => rows_flat (sz := 5) (e := T_doormanref11_Hit.c) (d := T_doormanref11_Hit.d) (fun _ => rfl) ([(a0.getD v7.toNat T_doormanref11_Hit.d)] : List T_doormanref11_Hit) i j hi hj⟩, (ext_app _ _), o8.1, o8.2, trivial⟩ (ih (add64 v7 (1 : Int)) (w5 ++ ([(a0.getD v7.toNat T_doormanref11_Hit.d)] : List T_doormanref11_Hit)) r hf)
        · exact toK_good allOk HPost.ends 15 _ _ _ _ [⟨[], [], [], [], [], [], []⟩, ⟨[(15, .r (.one (.lit (.bool x2))) [])], [(8, true)], [], [[], [], [0, 1], [2, 0, 1], [3, 2, 0, 1], [4, 3, 2, 0, 1], [], [5, 4, 3, 2, 0, 1, 6], [7, 5, 4, 3, 2, 0, 1, 6], [8, 7, 5, 4, 3, 2, 0, 1, 6], [8, 7, 5, 4, 3, 2, 0, 1, 6], [9, 8, 7, 5, 4, 3, 2, 0, 1, 6, 10], [11, 9, 8, 7, 5, 4, 3, 2, 0, 1, 6, 10], [12, 11, 9, 8, 7, 5, 4, 3, 2, 0, 1, 6, 10], [8, 7, 5, 4, 3, 2, 0, 1, 6], [13, 12, 11, 9, 8, 7, 5, 4, 3, 2, 0, 1, 6, 10, 14], [8, 7, 5, 4, 3, 2, 0, 1, 6, 15, 13, 12, 11, 9, 10, 14]], [], [], []⟩, ⟨[], [], [], [], [], [], []⟩] [true, false] ⟨[], [], [], [], [], [0, 3, 5, 6, 7], [5, 3], []⟩ [(decide (v7 < ((a0.length : Nat) : Int))) = true, 0 ≤ v7 ∧ v7 < ((a0.length : Nat) : Int), (((a0.getD v7.toNat T_doormanref11_Hit.d).fNet).fBits == v6) = true, 0 ≤ v7 ∧ v7 < ((a0.length : Nat) : Int), SCall Try.prog 102 [.agg (T_api_Net.c ((a0.getD v7.toNat T_doormanref11_Hit.d).fNet)), .agg (T_api_Addr.c b3)] (.one (.lit (.bool x2))), x2 = false] (by kernel_rfl) ⟨h3, o4, h5, o4, (g_doormanref07_Has_ok ((a0.getD v7.toNat T_doormanref11_Hit.d).fNet) b3 x2 q6), h7, trivial⟩ (ih (add64 v7 (1 : Int)) w5 r hf)
      · exact toK_good allOk HPost.ends 15 _ _ _ _ [⟨[], [], [], [], [], [], []⟩, ⟨[], [(8, false)], [], [[], [], [0, 1], [2, 0, 1], [3, 2, 0, 1], [4, 3, 2, 0, 1], [], [5, 4, 3, 2, 0, 1, 6], [7, 5, 4, 3, 2, 0, 1, 6], [8, 7, 5, 4, 3, 2, 0, 1, 6], [8, 7, 5, 4, 3, 2, 0, 1, 6], [9, 8, 7, 5, 4, 3, 2, 0, 1, 6, 10], [11, 9, 8, 7, 5, 4, 3, 2, 0, 1, 6, 10], [12, 11, 9, 8, 7, 5, 4, 3, 2, 0, 1, 6, 10], [8, 7, 5, 4, 3, 2, 0, 1, 6], [13, 12, 11, 9, 8, 7, 5, 4, 3, 2, 0, 1, 6, 10, 14], [8, 7, 5, 4, 3, 2, 0, 1, 6, 15, 13, 12, 11, 9, 10, 14]], [], [], []⟩, ⟨[], [], [], [], [], [], []⟩] [true, false] ⟨[], [], [], [], [], [0, 3, 5, 6, 7], [5, 3], []⟩ [(decide (v7 < ((a0.length : Nat) : Int))) = true, 0 ≤ v7 ∧ v7 < ((a0.length : Nat) : Int), (((a0.getD v7.toNat T_doormanref11_Hit.d).fNet).fBits == v6) = false, false = false] (by kernel_rfl) ⟨h3, o4, h5, rfl, trivial⟩ (ih (add64 v7 (1 : Int)) w5 r hf)
    · exact toK_good allOk HPost.ends 9 _ _ _ _ [⟨[], [], [], [], [], [], []⟩, ⟨[], [], [], [], [], [], []⟩] [false] ⟨[], [], [], [], [], [0, 3, 5, 6], [5, 3], []⟩ [(decide (v7 < ((a0.length : Nat) : Int))) = false] (by kernel_rfl) ⟨h3, trivial⟩ (hg_doormanref11_Cover_c0 (add64 v6 (1 : Int)) w5 b3 r hf)

def g_doormanref11_Cover_c0 (a0 : (List T_doormanref11_Hit))  : Nat → Int → (List T_doormanref11_Hit) → T_api_Addr → Option (List T_doormanref11_Hit)
  | 0, _, _, _ => none
  | fu + 1, v6, w5, b3 =>
    (g_doormanref06_Bits b3).bind fun x1 =>
    bif (decide (v6 ≤ x1)) then
      g_doormanref11_Cover_c1 a0 v6 b3 (g_doormanref11_Cover_c0 a0  fu) ((((a0.length : Nat) : Int) - (0 : Int)).toNat + 2) (0 : Int) w5
    else
      some w5

theorem g_doormanref11_Cover_c0_ok (S0 : Nat → Prop) (w0 : Start) (a0 : (List T_doormanref11_Hit))  : ∀ (fu : Nat) (v6 : Int) (w5 : (List T_doormanref11_Hit)) (b3 : T_api_Addr) (r : (List T_doormanref11_Hit)), g_doormanref11_Cover_c0 a0  fu v6 w5 b3 = some r → Good Try.prog 46 S0 w0 (bodyPost Try.prog Try.f49 (HPost S0 w0 [(99999, .rows 169 5 r.length (rowsOf T_doormanref11_Hit.c T_doormanref11_Hit.d r))] (.one (.osl 99999 r.length)))) (at_ [1, 1, 0, 1, 0] (bodyOf Try.f49)) ⟨[(0, .one (cL 5 T_doormanref11_Hit.c T_doormanref11_Hit.d a0)), (3, .one (.ptr 3 0)), (5, .one (.osl 5 w5.length)), (6, .one (.lit (.int .i64 v6)))], [(5, .rows 169 5 w5.length (rowsOf T_doormanref11_Hit.c T_doormanref11_Hit.d w5)), (3, .box [.lit (.bool b3.fV6), .lit (.int .u64 b3.fHi), .lit (.int .u64 b3.fLo)])]⟩ := by
  intro fu
  induction fu with
  | zero =>
    intro v6 w5 b3 r hf
    simp [g_doormanref11_Cover_c0] at hf
  | succ fu ih =>
    intro v6 w5 b3 r hf
    unfold g_doormanref11_Cover_c0 at hf
    obtain ⟨x1, q1, hf⟩ := bind_some' hf
    rcases br_some hf with ⟨h2, hf⟩ | ⟨h2, hf⟩
    · exact toK_good allOk HPost.ends 11 _ _ _ _ [⟨[(2, .r (.one (.lit (.int .i64 x1))) [])], [], [], [], [], [], []⟩, ⟨[], [], [], [], [], [], []⟩] [true] ⟨[], [], [], [], [], [0, 3, 5, 6, 7], [5, 3], []⟩ [SCall Try.prog 101 [.agg (T_api_Addr.c b3)] (.one (.lit (.int .i64 x1))), (decide (v6 ≤ x1)) = true] (by kernel_rfl) ⟨(g_doormanref06_Bits_ok b3 x1 q1), h2, trivial⟩ (g_doormanref11_Cover_c1_ok S0 w0 a0 v6 b3 (g_doormanref11_Cover_c0 a0  fu) ih ((((a0.length : Nat) : Int) - (0 : Int)).toNat + 2) (0 : Int) w5 r hf)
    · replace hf := Option.some.inj hf
      subst hf
      exact toEndH_good allOk 8 _ _ [⟨[(2, .r (.one (.lit (.int .i64 x1))) [])], [], [], [], [], [], []⟩, ⟨[], [], [], [], [], [], []⟩] [false] ⟨[], [], [], [], [], [4], [5], [(5, 99999)]⟩ [SCall Try.prog 101 [.agg (T_api_Addr.c b3)] (.one (.lit (.int .i64 x1))), (decide (v6 ≤ x1)) = false] (by kernel_rfl) ⟨(g_doormanref06_Bits_ok b3 x1 q1), h2, trivial⟩

/-- doorman/doormanref11.Cover -/
def g_doormanref11_Cover (a0 : (List T_doormanref11_Hit)) (a1 : T_api_Addr) : Option (List T_doormanref11_Hit) :=
  g_doormanref11_Cover_c0 a0  1000000 (0 : Int) ([] : List T_doormanref11_Hit) a1

theorem g_doormanref11_Cover_own (a0 : (List T_doormanref11_Hit)) (a1 : T_api_Addr) (r : (List T_doormanref11_Hit)) (hf : g_doormanref11_Cover a0 a1 = some r) : HCall Try.prog 49 [] [.one (cL 5 T_doormanref11_Hit.c T_doormanref11_Hit.d a0), .agg (T_api_Addr.c a1)] [(99999, .rows 169 5 r.length (rowsOf T_doormanref11_Hit.c T_doormanref11_Hit.d r))] (.one (.osl 99999 r.length)) := by
  refine HCall.of Try.func49 rfl rfl rfl rfl fun S0 w0 => ?_
  unfold g_doormanref11_Cover at hf
  exact toK_good allOk HPost.ends 8 _ _ _ _ [⟨[], [], [], [], [], [], []⟩, ⟨[(0, .c ([] : List T_doormanref11_Hit).length (rowsOf T_doormanref11_Hit.c T_doormanref11_Hit.d ([] : List T_doormanref11_Hit)))], [], [], [], [], [], []⟩, ⟨[], [], [], [], [], [], []⟩] [] ⟨[], [], [], [], [], [0, 3, 5, 6], [8, 3], [(8, 5)]⟩ [([] : List T_doormanref11_Hit).length = 0, ∀ i j, i < 0 → j < 5 → rowsOf T_doormanref11_Hit.c T_doormanref11_Hit.d ([] : List T_doormanref11_Hit) i j = (([] : List T_doormanref11_Hit).flatMap T_doormanref11_Hit.c).getD (i * 5 + j) .junk] (by kernel_rfl) ⟨rfl, (fun i j hi hj => rows_flat (sz := 5) (e := T_doormanref11_Hit.c) (d := T_doormanref11_Hit.d) (fun _ => rfl) ([] : List T_doormanref11_Hit) i j hi hj), trivial⟩ (g_doormanref11_Cover_c0_ok S0 w0 a0   1000000 (0 : Int) ([] : List T_doormanref11_Hit) a1 r hf)

theorem g_doormanref11_Cover_ok (a0 : (List T_doormanref11_Hit)) (a1 : T_api_Addr) (r : (List T_doormanref11_Hit)) (hf : g_doormanref11_Cover a0 a1 = some r) : SCall Try.prog 49 [.one (cL 5 T_doormanref11_Hit.c T_doormanref11_Hit.d a0), .agg (T_api_Addr.c a1)] (.one (cL 5 T_doormanref11_Hit.c T_doormanref11_Hit.d r)) := (g_doormanref11_Cover_own a0 a1 r hf).pure

def g_doormanlaw11_TriePlays_c1 (a0 : (List T_doormanlaw11_Act)) (v9 : Int) (b4 : T_api_Addr) (b5 : T_api_Net) (kg_doormanlaw11_TriePlays_c0 : N_trie_Trie → (List T_doormanref11_Hit) → Int → T_api_Addr → T_api_Net → Option Bool) (v7 : N_trie_Trie) (v8 : (List T_doormanref11_Hit)) : Option Bool :=
  (g_trie_Trie_Get v7 b5).bind fun x5 =>
  (g_doormanref11_Get v8 b5).bind fun x6 =>
  (g_trie_Trie_Len v7).bind fun x7 =>
  bif (x7 != ((v8.length : Nat) : Int)) then
    some false
  else
    (g_trie_Trie_All v7).bind fun x8 =>
    (g_doormanlaw11_same x8 v8).bind fun x9 =>
    bif (!x9) then
      some false
    else
      (g_trie_Trie_Cover v7 b4).bind fun x10 =>
      (g_doormanref11_Cover v8 b4).bind fun x11 =>
      (g_doormanlaw11_same x10 x11).bind fun x12 =>
      bif (!x12) then
        some false
      else
        bif (x5.1 != x6.1) then
          some false
        else
          bif (!(x5.2 == x6.2)) then
            some false
          else
            kg_doormanlaw11_TriePlays_c0 v7 v8 (add64 v9 (1 : Int)) b4 b5

theorem g_doormanlaw11_TriePlays_c1_ok (S0 : Nat → Prop) (w0 : Start) (a0 : (List T_doormanlaw11_Act)) (v9 : Int) (b4 : T_api_Addr) (b5 : T_api_Net) (kg_doormanlaw11_TriePlays_c0 : N_trie_Trie → (List T_doormanref11_Hit) → Int → T_api_Addr → T_api_Net → Option Bool) (hg_doormanlaw11_TriePlays_c0 : ∀ (v7_ : N_trie_Trie) (v8_ : (List T_doormanref11_Hit)) (v9_ : Int) (b4_ : T_api_Addr) (b5_ : T_api_Net) (r : Bool), kg_doormanlaw11_TriePlays_c0 v7_ v8_ v9_ b4_ b5_ = some r → Good Try.prog 101 S0 w0 (bodyPost Try.prog Try.f9 (Post S0 w0 (.one (.lit (.bool r))))) (at_ [1, 1, 1, 1, 0, 1, 0] (bodyOf Try.f9)) ⟨[(0, .one (cL 6 T_doormanlaw11_Act.c T_doormanlaw11_Act.d a0)), (4, .one (.ptr 4 0)), (5, .one (.ptr 5 0)), (7, .one (N_trie_Trie.c v7_)), (8, .one (cL 5 T_doormanref11_Hit.c T_doormanref11_Hit.d v8_)), (9, .one (.lit (.int .i64 v9_)))], [(4, .box [.lit (.bool b4_.fV6), .lit (.int .u64 b4_.fHi), .lit (.int .u64 b4_.fLo)]), (5, .box [.lit (.bool b5_.fAddr.fV6), .lit (.int .u64 b5_.fAddr.fHi), .lit (.int .u64 b5_.fAddr.fLo), .lit (.int .i64 b5_.fBits)])]⟩) (v7 : N_trie_Trie) (v8 : (List T_doormanref11_Hit)) (r : Bool) (hf : g_doormanlaw11_TriePlays_c1 a0 v9 b4 b5 kg_doormanlaw11_TriePlays_c0 v7 v8 = some r) : Good Try.prog 101 S0 w0 (bodyPost Try.prog Try.f9 (Post S0 w0 (.one (.lit (.bool r))))) (at_ [1, 1, 1, 1, 0, 1, 0, 0, 1, 0, 0, 1, 1] (bodyOf Try.f9)) ⟨[(0, .one (cL 6 T_doormanlaw11_Act.c T_doormanlaw11_Act.d a0)), (4, .one (.ptr 4 0)), (5, .one (.ptr 5 0)), (7, .one (N_trie_Trie.c v7)), (8, .one (cL 5 T_doormanref11_Hit.c T_doormanref11_Hit.d v8)), (9, .one (.lit (.int .i64 v9)))], [(4, .box [.lit (.bool b4.fV6), .lit (.int .u64 b4.fHi), .lit (.int .u64 b4.fLo)]), (5, .box [.lit (.bool b5.fAddr.fV6), .lit (.int .u64 b5.fAddr.fHi), .lit (.int .u64 b5.fAddr.fLo), .lit (.int .i64 b5.fBits)])]⟩ := by
  unfold g_doormanlaw11_TriePlays_c1 at hf
  obtain ⟨x5, q9, hf⟩ := bind_some' hf
  obtain ⟨x6, q10, hf⟩ := bind_some' hf
  obtain ⟨x7, q11, hf⟩ := bind_some' hf
  rcases br_some hf with ⟨h12, hf⟩ | ⟨h12, hf⟩
  · replace hf := Option.some.inj hf
    subst hf
    exact toEnd_good allOk 9 _ _ [⟨[(2, .r (.tup [(false, (cI .i64) x5.1), (false, cB x5.2)]) [])], [], [], [], [], [], []⟩, ⟨[(2, .r (.tup [(false, (cI .i64) x6.1), (false, cB x6.2)]) [])], [], [], [], [], [], []⟩, ⟨[(1, .r (.one (.lit (.int .i64 x7))) [])], [(5, true)], [], [[], [0], [], [2], [1, 0, 3, 2], [4, 1, 0, 3, 2], [5, 4, 1, 0, 3, 2], [6, 5, 4, 1, 0, 3, 2], [5, 4, 1, 0, 3, 2], [7, 6, 5, 4, 1, 0, 3, 2, 8], [9, 7, 6, 5, 4, 1, 0, 3, 2, 8], [5, 4, 1, 0, 3, 2, 10, 9, 7, 6, 8], [11, 5, 4, 1, 0, 3, 2, 10, 9, 7, 6, 8], [12, 11, 5, 4, 1, 0, 3, 2, 10, 9, 7, 6, 8], [12, 11, 5, 4, 1, 0, 3, 2, 10, 9, 7, 6, 8], [13, 12, 11, 5, 4, 1, 0, 3, 2, 10, 9, 7, 6, 8, 14], [12, 11, 5, 4, 1, 0, 3, 2, 10, 9, 7, 6, 8], [12, 11, 5, 4, 1, 0, 3, 2, 10, 9, 7, 6, 8], [16, 12, 11, 5, 4, 1, 0, 3, 2, 10, 9, 7, 6, 8, 17, 15, 13, 14], [15, 13, 12, 11, 5, 4, 1, 0, 3, 2, 10, 9, 7, 6, 8, 14, 18, 16, 17], [19, 15, 13, 12, 11, 5, 4, 1, 0, 3, 2, 10, 9, 7, 6, 8, 14, 18, 16, 17], [12, 11, 5, 4, 1, 0, 3, 2, 10, 9, 7, 6, 8, 20, 19, 15, 13, 14, 18, 16, 17], [21, 12, 11, 5, 4, 1, 0, 3, 2, 10, 9, 7, 6, 8, 20, 19, 15, 13, 14, 18, 16, 17], [22, 21, 12, 11, 5, 4, 1, 0, 3, 2, 10, 9, 7, 6, 8, 20, 19, 15, 13, 14, 18, 16, 17], [22, 21, 12, 11, 5, 4, 1, 0, 3, 2, 10, 9, 7, 6, 8, 20, 19, 15, 13, 14, 18, 16, 17], [23, 22, 21, 12, 11, 5, 4, 1, 0, 3, 2, 10, 9, 7, 6, 8, 20, 19, 15, 13, 14, 18, 16, 17, 24], [22, 21, 12, 11, 5, 4, 1, 0, 3, 2, 10, 9, 7, 6, 8, 20, 19, 15, 13, 14, 18, 16, 17, 25, 23, 24], [26, 22, 21, 12, 11, 5, 4, 1, 0, 3, 2, 10, 9, 7, 6, 8, 20, 19, 15, 13, 14, 18, 16, 17, 25, 23, 24], [27, 26, 22, 21, 12, 11, 5, 4, 1, 0, 3, 2, 10, 9, 7, 6, 8, 20, 19, 15, 13, 14, 18, 16, 17, 25, 23, 24], [27, 26, 22, 21, 12, 11, 5, 4, 1, 0, 3, 2, 10, 9, 7, 6, 8, 20, 19, 15, 13, 14, 18, 16, 17, 25, 23, 24], [28, 27, 26, 22, 21, 12, 11, 5, 4, 1, 0, 3, 2, 10, 9, 7, 6, 8, 20, 19, 15, 13, 14, 18, 16, 17, 25, 23, 24, 29], [27, 26, 22, 21, 12, 11, 5, 4, 1, 0, 3, 2, 10, 9, 7, 6, 8, 20, 19, 15, 13, 14, 18, 16, 17, 25, 23, 24, 30, 28, 29]], [], [], []⟩, ⟨[], [], [], [], [], [], []⟩] [true] [] [] [] [SCall Try.prog 43 [.one (N_trie_Trie.c v7), .agg (T_api_Net.c b5)] (.tup [(false, (cI .i64) x5.1), (false, cB x5.2)]), SCall Try.prog 44 [.one (cL 5 T_doormanref11_Hit.c T_doormanref11_Hit.d v8), .agg (T_api_Net.c b5)] (.tup [(false, (cI .i64) x6.1), (false, cB x6.2)]), SCall Try.prog 45 [.one (N_trie_Trie.c v7)] (.one (.lit (.int .i64 x7))), (x7 != ((v8.length : Nat) : Int)) = true, true = true] (by kernel_rfl) rfl ⟨(g_trie_Trie_Get_ok v7 b5 x5 q9), (g_doormanref11_Get_ok v8 b5 x6 q10), (g_trie_Trie_Len_ok v7 x7 q11), h12, rfl, trivial⟩
  · obtain ⟨x8, q13, hf⟩ := bind_some' hf
    obtain ⟨x9, q14, hf⟩ := bind_some' hf
    rcases br_some hf with ⟨h15, hf⟩ | ⟨h15, hf⟩
    · replace hf := Option.some.inj hf
      subst hf
      exact toEnd_good allOk 9 _ _ [⟨[(2, .r (.tup [(false, (cI .i64) x5.1), (false, cB x5.2)]) [])], [], [], [], [], [], []⟩, ⟨[(2, .r (.tup [(false, (cI .i64) x6.1), (false, cB x6.2)]) [])], [], [], [], [], [], []⟩, ⟨[(1, .r (.one (.lit (.int .i64 x7))) []), (7, .r (.one (cL 5 T_trie_Hit.c T_trie_Hit.d x8)) []), (9, .r (.one (.lit (.bool x9))) [])], [(5, false), (12, true)], [], [[], [0], [], [2], [1, 0, 3, 2], [4, 1, 0, 3, 2], [5, 4, 1, 0, 3, 2], [6, 5, 4, 1, 0, 3, 2], [5, 4, 1, 0, 3, 2], [7, 6, 5, 4, 1, 0, 3, 2, 8], [9, 7, 6, 5, 4, 1, 0, 3, 2, 8], [5, 4, 1, 0, 3, 2, 10, 9, 7, 6, 8], [11, 5, 4, 1, 0, 3, 2, 10, 9, 7, 6, 8], [12, 11, 5, 4, 1, 0, 3, 2, 10, 9, 7, 6, 8], [12, 11, 5, 4, 1, 0, 3, 2, 10, 9, 7, 6, 8], [13, 12, 11, 5, 4, 1, 0, 3, 2, 10, 9, 7, 6, 8, 14], [12, 11, 5, 4, 1, 0, 3, 2, 10, 9, 7, 6, 8], [12, 11, 5, 4, 1, 0, 3, 2, 10, 9, 7, 6, 8], [16, 12, 11, 5, 4, 1, 0, 3, 2, 10, 9, 7, 6, 8, 17, 15, 13, 14], [15, 13, 12, 11, 5, 4, 1, 0, 3, 2, 10, 9, 7, 6, 8, 14, 18, 16, 17], [19, 15, 13, 12, 11, 5, 4, 1, 0, 3, 2, 10, 9, 7, 6, 8, 14, 18, 16, 17], [12, 11, 5, 4, 1, 0, 3, 2, 10, 9, 7, 6, 8, 20, 19, 15, 13, 14, 18, 16, 17], [21, 12, 11, 5, 4, 1, 0, 3, 2, 10, 9, 7, 6, 8, 20, 19, 15, 13, 14, 18, 16, 17], [22, 21, 12, 11, 5, 4, 1, 0, 3, 2, 10, 9, 7, 6, 8, 20, 19, 15, 13, 14, 18, 16, 17], [22, 21, 12, 11, 5, 4, 1, 0, 3, 2, 10, 9, 7, 6, 8, 20, 19, 15, 13, 14, 18, 16, 17], [23, 22, 21, 12, 11, 5, 4, 1, 0, 3, 2, 10, 9, 7, 6, 8, 20, 19, 15, 13, 14, 18, 16, 17, 24], [22, 21, 12, 11, 5, 4, 1, 0, 3, 2, 10, 9, 7, 6, 8, 20, 19, 15, 13, 14, 18, 16, 17, 25, 23, 24], [26, 22, 21, 12, 11, 5, 4, 1, 0, 3, 2, 10, 9, 7, 6, 8, 20, 19, 15, 13, 14, 18, 16, 17, 25, 23, 24], [27, 26, 22, 21, 12, 11, 5, 4, 1, 0, 3, 2, 10, 9, 7, 6, 8, 20, 19, 15, 13, 14, 18, 16, 17, 25, 23, 24], [27, 26, 22, 21, 12, 11, 5, 4, 1, 0, 3, 2, 10, 9, 7, 6, 8, 20, 19, 15, 13, 14, 18, 16, 17, 25, 23, 24], [28, 27, 26, 22, 21, 12, 11, 5, 4, 1, 0, 3, 2, 10, 9, 7, 6, 8, 20, 19, 15, 13, 14, 18, 16, 17, 25, 23, 24, 29], [27, 26, 22, 21, 12, 11, 5, 4, 1, 0, 3, 2, 10, 9, 7, 6, 8, 20, 19, 15, 13, 14, 18, 16, 17, 25, 23, 24, 30, 28, 29]], [], [], []⟩, ⟨[], [], [], [], [], [], []⟩] [true] [] [] [] [SCall Try.prog 43 [.one (N_trie_Trie.c v7), .agg (T_api_Net.c b5)] (.tup [(false, (cI .i64) x5.1), (false, cB x5.2)]), SCall Try.prog 44 [.one (cL 5 T_doormanref11_Hit.c T_doormanref11_Hit.d v8), .agg (T_api_Net.c b5)] (.tup [(false, (cI .i64) x6.1), (false, cB x6.2)]), SCall Try.prog 45 [.one (N_trie_Trie.c v7)] (.one (.lit (.int .i64 x7))), (x7 != ((v8.length : Nat) : Int)) = false, SCall Try.prog 47 [.one (N_trie_Trie.c v7)] (.one (cL 5 T_trie_Hit.c T_trie_Hit.d x8)), SCall Try.prog 46 [.one (cL 5 T_trie_Hit.c T_trie_Hit.d x8), .one (cL 5 T_doormanref11_Hit.c T_doormanref11_Hit.d v8)] (.one (.lit (.bool x9))), (!x9) = true, true = true] (by kernel_rfl) rfl ⟨(g_trie_Trie_Get_ok v7 b5 x5 q9), (g_doormanref11_Get_ok v8 b5 x6 q10), (g_trie_Trie_Len_ok v7 x7 q11), h12, (g_trie_Trie_All_ok v7 x8 q13), (g_doormanlaw11_same_ok x8 v8 x9 q14), h15, rfl, trivial⟩
    · obtain ⟨x10, q16, hf⟩ := bind_some' hf
      obtain ⟨x11, q17, hf⟩ := bind_some' hf
      obtain ⟨x12, q18, hf⟩ := bind_some' hf
      rcases br_some hf with ⟨h19, hf⟩ | ⟨h19, hf⟩
      · replace hf := Option.some.inj hf
        subst hf
        exact toEnd_good allOk 9 _ _ [⟨[(2, .r (.tup [(false, (cI .i64) x5.1), (false, cB x5.2)]) [])], [], [], [], [], [], []⟩, ⟨[(2, .r (.tup [(false, (cI .i64) x6.1), (false, cB x6.2)]) [])], [], [], [], [], [], []⟩, ⟨[(1, .r (.one (.lit (.int .i64 x7))) []), (7, .r (.one (cL 5 T_trie_Hit.c T_trie_Hit.d x8)) []), (9, .r (.one (.lit (.bool x9))) []), (15, .r (.one (cL 5 T_trie_Hit.c T_trie_Hit.d x10)) []), (18, .r (.one (cL 5 T_doormanref11_Hit.c T_doormanref11_Hit.d x11)) []), (19, .r (.one (.lit (.bool x12))) [])], [(5, false), (12, false), (22, true)], [], [[], [0], [], [2], [1, 0, 3, 2], [4, 1, 0, 3, 2], [5, 4, 1, 0, 3, 2], [6, 5, 4, 1, 0, 3, 2], [5, 4, 1, 0, 3, 2], [7, 6, 5, 4, 1, 0, 3, 2, 8], [9, 7, 6, 5, 4, 1, 0, 3, 2, 8], [5, 4, 1, 0, 3, 2, 10, 9, 7, 6, 8], [11, 5, 4, 1, 0, 3, 2, 10, 9, 7, 6, 8], [12, 11, 5, 4, 1, 0, 3, 2, 10, 9, 7, 6, 8], [12, 11, 5, 4, 1, 0, 3, 2, 10, 9, 7, 6, 8], [13, 12, 11, 5, 4, 1, 0, 3, 2, 10, 9, 7, 6, 8, 14], [12, 11, 5, 4, 1, 0, 3, 2, 10, 9, 7, 6, 8], [12, 11, 5, 4, 1, 0, 3, 2, 10, 9, 7, 6, 8], [16, 12, 11, 5, 4, 1, 0, 3, 2, 10, 9, 7, 6, 8, 17, 15, 13, 14], [15, 13, 12, 11, 5, 4, 1, 0, 3, 2, 10, 9, 7, 6, 8, 14, 18, 16, 17], [19, 15, 13, 12, 11, 5, 4, 1, 0, 3, 2, 10, 9, 7, 6, 8, 14, 18, 16, 17], [12, 11, 5, 4, 1, 0, 3, 2, 10, 9, 7, 6, 8, 20, 19, 15, 13, 14, 18, 16, 17], [21, 12, 11, 5, 4, 1, 0, 3, 2, 10, 9, 7, 6, 8, 20, 19, 15, 13, 14, 18, 16, 17], [22, 21, 12, 11, 5, 4, 1, 0, 3, 2, 10, 9, 7, 6, 8, 20, 19, 15, 13, 14, 18, 16, 17], [22, 21, 12, 11, 5, 4, 1, 0, 3, 2, 10, 9, 7, 6, 8, 20, 19, 15, 13, 14, 18, 16, 17], [23, 22, 21, 12, 11, 5, 4, 1, 0, 3, 2, 10, 9, 7, 6, 8, 20, 19, 15, 13, 14, 18, 16, 17, 24], [22, 21, 12, 11, 5, 4, 1, 0, 3, 2, 10, 9, 7, 6, 8, 20, 19, 15, 13, 14, 18, 16, 17, 25, 23, 24], [26, 22, 21, 12, 11, 5, 4, 1, 0, 3, 2, 10, 9, 7, 6, 8, 20, 19, 15, 13, 14, 18, 16, 17, 25, 23, 24], [27, 26, 22, 21, 12, 11, 5, 4, 1, 0, 3, 2, 10, 9, 7, 6, 8, 20, 19, 15, 13, 14, 18, 16, 17, 25, 23, 24], [27, 26, 22, 21, 12, 11, 5, 4, 1, 0, 3, 2, 10, 9, 7, 6, 8, 20, 19, 15, 13, 14, 18, 16, 17, 25, 23, 24], [28, 27, 26, 22, 21, 12, 11, 5, 4, 1, 0, 3, 2, 10, 9, 7, 6, 8, 20, 19, 15, 13, 14, 18, 16, 17, 25, 23, 24, 29], [27, 26, 22, 21, 12, 11, 5, 4, 1, 0, 3, 2, 10, 9, 7, 6, 8, 20, 19, 15, 13, 14, 18, 16, 17, 25, 23, 24, 30, 28, 29]], [], [], []⟩, ⟨[], [], [], [], [], [], []⟩] [true] [] [] [] [SCall Try.prog 43 [.one (N_trie_Trie.c v7), .agg (T_api_Net.c b5)] (.tup [(false, (cI .i64) x5.1), (false, cB x5.2)]), SCall Try.prog 44 [.one (cL 5 T_doormanref11_Hit.c T_doormanref11_Hit.d v8), .agg (T_api_Net.c b5)] (.tup [(false, (cI .i64) x6.1), (false, cB x6.2)]), SCall Try.prog 45 [.one (N_trie_Trie.c v7)] (.one (.lit (.int .i64 x7))), (x7 != ((v8.length : Nat) : Int)) = false, SCall Try.prog 47 [.one (N_trie_Trie.c v7)] (.one (cL 5 T_trie_Hit.c T_trie_Hit.d x8)), SCall Try.prog 46 [.one (cL 5 T_trie_Hit.c T_trie_Hit.d x8), .one (cL 5 T_doormanref11_Hit.c T_doormanref11_Hit.d v8)] (.one (.lit (.bool x9))), (!x9) = false, SCall Try.prog 48 [.one (N_trie_Trie.c v7), .agg (T_api_Addr.c b4)] (.one (cL 5 T_trie_Hit.c T_trie_Hit.d x10)), SCall Try.prog 49 [.one (cL 5 T_doormanref11_Hit.c T_doormanref11_Hit.d v8), .agg (T_api_Addr.c b4)] (.one (cL 5 T_doormanref11_Hit.c T_doormanref11_Hit.d x11)), SCall Try.prog 46 [.one (cL 5 T_trie_Hit.c T_trie_Hit.d x10), .one (cL 5 T_doormanref11_Hit.c T_doormanref11_Hit.d x11)] (.one (.lit (.bool x12))), (!x12) = true, true = true] (by kernel_rfl) rfl ⟨(g_trie_Trie_Get_ok v7 b5 x5 q9), (g_doormanref11_Get_ok v8 b5 x6 q10), (g_trie_Trie_Len_ok v7 x7 q11), h12, (g_trie_Trie_All_ok v7 x8 q13), (g_doormanlaw11_same_ok x8 v8 x9 q14), h15, (g_trie_Trie_Cover_ok v7 b4 x10 q16), (g_doormanref11_Cover_ok v8 b4 x11 q17), (g_doormanlaw11_same_ok x10 x11 x12 q18), h19, rfl, trivial⟩
      · rcases br_some hf with ⟨h20, hf⟩ | ⟨h20, hf⟩
        · replace hf := Option.some.inj hf
          subst hf
          exact toEnd_good allOk 9 _ _ [⟨[(2, .r (.tup [(false, (cI .i64) x5.1), (false, cB x5.2)]) [])], [], [], [], [], [], []⟩, ⟨[(2, .r (.tup [(false, (cI .i64) x6.1), (false, cB x6.2)]) [])], [], [], [], [], [], []⟩, ⟨[(1, .r (.one (.lit (.int .i64 x7))) []), (7, .r (.one (cL 5 T_trie_Hit.c T_trie_Hit.d x8)) []), (9, .r (.one (.lit (.bool x9))) []), (15, .r (.one (cL 5 T_trie_Hit.c T_trie_Hit.d x10)) []), (18, .r (.one (cL 5 T_doormanref11_Hit.c T_doormanref11_Hit.d x11)) []), (19, .r (.one (.lit (.bool x12))) [])], [(5, false), (12, false), (22, false), (27, true)], [], [[], [0], [], [2], [1, 0, 3, 2], [4, 1, 0, 3, 2], [5, 4, 1, 0, 3, 2], [6, 5, 4, 1, 0, 3, 2], [5, 4, 1, 0, 3, 2], [7, 6, 5, 4, 1, 0, 3, 2, 8], [9, 7, 6, 5, 4, 1, 0, 3, 2, 8], [5, 4, 1, 0, 3, 2, 10, 9, 7, 6, 8], [11, 5, 4, 1, 0, 3, 2, 10, 9, 7, 6, 8], [12, 11, 5, 4, 1, 0, 3, 2, 10, 9, 7, 6, 8], [12, 11, 5, 4, 1, 0, 3, 2, 10, 9, 7, 6, 8], [13, 12, 11, 5, 4, 1, 0, 3, 2, 10, 9, 7, 6, 8, 14], [12, 11, 5, 4, 1, 0, 3, 2, 10, 9, 7, 6, 8], [12, 11, 5, 4, 1, 0, 3, 2, 10, 9, 7, 6, 8], [16, 12, 11, 5, 4, 1, 0, 3, 2, 10, 9, 7, 6, 8, 17, 15, 13, 14], [15, 13, 12, 11, 5, 4, 1, 0, 3, 2, 10, 9, 7, 6, 8, 14, 18, 16, 17], [19, 15, 13, 12, 11, 5, 4, 1, 0, 3, 2, 10, 9, 7, 6, 8, 14, 18, 16, 17], [12, 11, 5, 4, 1, 0, 3, 2, 10, 9, 7, 6, 8, 20, 19, 15, 13, 14, 18, 16, 17], [21, 12, 11, 5, 4, 1, 0, 3, 2, 10, 9, 7, 6, 8, 20, 19, 15, 13, 14, 18, 16, 17], [22, 21, 12, 11, 5, 4, 1, 0, 3, 2, 10, 9, 7, 6, 8, 20, 19, 15, 13, 14, 18, 16, 17], [22, 21, 12, 11, 5, 4, 1, 0, 3, 2, 10, 9, 7, 6, 8, 20, 19, 15, 13, 14, 18, 16, 17], [23, 22, 21, 12, 11, 5, 4, 1, 0, 3, 2, 10, 9, 7, 6, 8, 20, 19, 15, 13, 14, 18, 16, 17, 24], [22, 21, 12, 11, 5, 4, 1, 0, 3, 2, 10, 9, 7, 6, 8, 20, 19, 15, 13, 14, 18, 16, 17, 25, 23, 24], [26, 22, 21, 12, 11, 5, 4, 1, 0, 3, 2, 10, 9, 7, 6, 8, 20, 19, 15, 13, 14, 18, 16, 17, 25, 23, 24], [27, 26, 22, 21, 12, 11, 5, 4, 1, 0, 3, 2, 10, 9, 7, 6, 8, 20, 19, 15, 13, 14, 18, 16, 17, 25, 23, 24], [27, 26, 22, 21, 12, 11, 5, 4, 1, 0, 3, 2, 10, 9, 7, 6, 8, 20, 19, 15, 13, 14, 18, 16, 17, 25, 23, 24], [28, 27, 26, 22, 21, 12, 11, 5, 4, 1, 0, 3, 2, 10, 9, 7, 6, 8, 20, 19, 15, 13, 14, 18, 16, 17, 25, 23, 24, 29], [27, 26, 22, 21, 12, 11, 5, 4, 1, 0, 3, 2, 10, 9, 7, 6, 8, 20, 19, 15, 13, 14, 18, 16, 17, 25, 23, 24, 30, 28, 29]], [], [], []⟩, ⟨[], [], [], [], [], [], []⟩] [true] [] [] [] [SCall Try.prog 43 [.one (N_trie_Trie.c v7), .agg (T_api_Net.c b5)] (.tup [(false, (cI .i64) x5.1), (false, cB x5.2)]), SCall Try.prog 44 [.one (cL 5 T_doormanref11_Hit.c T_doormanref11_Hit.d v8), .agg (T_api_Net.c b5)] (.tup [(false, (cI .i64) x6.1), (false, cB x6.2)]), SCall Try.prog 45 [.one (N_trie_Trie.c v7)] (.one (.lit (.int .i64 x7))), (x7 != ((v8.length : Nat) : Int)) = false, SCall Try.prog 47 [.one (N_trie_Trie.c v7)] (.one (cL 5 T_trie_Hit.c T_trie_Hit.d x8)), SCall Try.prog 46 [.one (cL 5 T_trie_Hit.c T_trie_Hit.d x8), .one (cL 5 T_doormanref11_Hit.c T_doormanref11_Hit.d v8)] (.one (.lit (.bool x9))), (!x9) = false, SCall Try.prog 48 [.one (N_trie_Trie.c v7), .agg (T_api_Addr.c b4)] (.one (cL 5 T_trie_Hit.c T_trie_Hit.d x10)), SCall Try.prog 49 [.one (cL 5 T_doormanref11_Hit.c T_doormanref11_Hit.d v8), .agg (T_api_Addr.c b4)] (.one (cL 5 T_doormanref11_Hit.c T_doormanref11_Hit.d x11)), SCall Try.prog 46 [.one (cL 5 T_trie_Hit.c T_trie_Hit.d x10), .one (cL 5 T_doormanref11_Hit.c T_doormanref11_Hit.d x11)] (.one (.lit (.bool x12))), (!x12) = false, (x5.1 != x6.1) = true, true = true] (by kernel_rfl) rfl ⟨(g_trie_Trie_Get_ok v7 b5 x5 q9), (g_doormanref11_Get_ok v8 b5 x6 q10), (g_trie_Trie_Len_ok v7 x7 q11), h12, (g_trie_Trie_All_ok v7 x8 q13), (g_doormanlaw11_same_ok x8 v8 x9 q14), h15, (g_trie_Trie_Cover_ok v7 b4 x10 q16), (g_doormanref11_Cover_ok v8 b4 x11 q17), (g_doormanlaw11_same_ok x10 x11 x12 q18), h19, h20, rfl, trivial⟩
        · rcases br_some hf with ⟨h21, hf⟩ | ⟨h21, hf⟩
          · replace hf := Option.some.inj hf
            subst hf
            exact toEnd_good allOk 9 _ _ [⟨[(2, .r (.tup [(false, (cI .i64) x5.1), (false, cB x5.2)]) [])], [], [], [], [], [], []⟩, ⟨[(2, .r (.tup [(false, (cI .i64) x6.1), (false, cB x6.2)]) [])], [], [], [], [], [], []⟩, ⟨[(1, .r (.one (.lit (.int .i64 x7))) []), (7, .r (.one (cL 5 T_trie_Hit.c T_trie_Hit.d x8)) []), (9, .r (.one (.lit (.bool x9))) []), (15, .r (.one (cL 5 T_trie_Hit.c T_trie_Hit.d x10)) []), (18, .r (.one (cL 5 T_doormanref11_Hit.c T_doormanref11_Hit.d x11)) []), (19, .r (.one (.lit (.bool x12))) [])], [(5, false), (12, false), (22, false), (27, false)], [], [[], [0], [], [2], [1, 0, 3, 2], [4, 1, 0, 3, 2], [5, 4, 1, 0, 3, 2], [6, 5, 4, 1, 0, 3, 2], [5, 4, 1, 0, 3, 2], [7, 6, 5, 4, 1, 0, 3, 2, 8], [9, 7, 6, 5, 4, 1, 0, 3, 2, 8], [5, 4, 1, 0, 3, 2, 10, 9, 7, 6, 8], [11, 5, 4, 1, 0, 3, 2, 10, 9, 7, 6, 8], [12, 11, 5, 4, 1, 0, 3, 2, 10, 9, 7, 6, 8], [12, 11, 5, 4, 1, 0, 3, 2, 10, 9, 7, 6, 8], [13, 12, 11, 5, 4, 1, 0, 3, 2, 10, 9, 7, 6, 8, 14], [12, 11, 5, 4, 1, 0, 3, 2, 10, 9, 7, 6, 8], [12, 11, 5, 4, 1, 0, 3, 2, 10, 9, 7, 6, 8], [16, 12, 11, 5, 4, 1, 0, 3, 2, 10, 9, 7, 6, 8, 17, 15, 13, 14], [15, 13, 12, 11, 5, 4, 1, 0, 3, 2, 10, 9, 7, 6, 8, 14, 18, 16, 17], [19, 15, 13, 12, 11, 5, 4, 1, 0, 3, 2, 10, 9, 7, 6, 8, 14, 18, 16, 17], [12, 11, 5, 4, 1, 0, 3, 2, 10, 9, 7, 6, 8, 20, 19, 15, 13, 14, 18, 16, 17], [21, 12, 11, 5, 4, 1, 0, 3, 2, 10, 9, 7, 6, 8, 20, 19, 15, 13, 14, 18, 16, 17], [22, 21, 12, 11, 5, 4, 1, 0, 3, 2, 10, 9, 7, 6, 8, 20, 19, 15, 13, 14, 18, 16, 17], [22, 21, 12, 11, 5, 4, 1, 0, 3, 2, 10, 9, 7, 6, 8, 20, 19, 15, 13, 14, 18, 16, 17], [23, 22, 21, 12, 11, 5, 4, 1, 0, 3, 2, 10, 9, 7, 6, 8, 20, 19, 15, 13, 14, 18, 16, 17, 24], [22, 21, 12, 11, 5, 4, 1, 0, 3, 2, 10, 9, 7, 6, 8, 20, 19, 15, 13, 14, 18, 16, 17, 25, 23, 24], [26, 22, 21, 12, 11, 5, 4, 1, 0, 3, 2, 10, 9, 7, 6, 8, 20, 19, 15, 13, 14, 18, 16, 17, 25, 23, 24], [27, 26, 22, 21, 12, 11, 5, 4, 1, 0, 3, 2, 10, 9, 7, 6, 8, 20, 19, 15, 13, 14, 18, 16, 17, 25, 23, 24], [27, 26, 22, 21, 12, 11, 5, 4, 1, 0, 3, 2, 10, 9, 7, 6, 8, 20, 19, 15, 13, 14, 18, 16, 17, 25, 23, 24], [28, 27, 26, 22, 21, 12, 11, 5, 4, 1, 0, 3, 2, 10, 9, 7, 6, 8, 20, 19, 15, 13, 14, 18, 16, 17, 25, 23, 24, 29], [27, 26, 22, 21, 12, 11, 5, 4, 1, 0, 3, 2, 10, 9, 7, 6, 8, 20, 19, 15, 13, 14, 18, 16, 17, 25, 23, 24, 30, 28, 29]], [], [], []⟩, ⟨[], [], [], [], [], [], []⟩] [true] [] [] [] [SCall Try.prog 43 [.one (N_trie_Trie.c v7), .agg (T_api_Net.c b5)] (.tup [(false, (cI .i64) x5.1), (false, cB x5.2)]), SCall Try.prog 44 [.one (cL 5 T_doormanref11_Hit.c T_doormanref11_Hit.d v8), .agg (T_api_Net.c b5)] (.tup [(false, (cI .i64) x6.1), (false, cB x6.2)]), SCall Try.prog 45 [.one (N_trie_Trie.c v7)] (.one (.lit (.int .i64 x7))), (x7 != ((v8.length : Nat) : Int)) = false, SCall Try.prog 47 [.one (N_trie_Trie.c v7)] (.one (cL 5 T_trie_Hit.c T_trie_Hit.d x8)), SCall Try.prog 46 [.one (cL 5 T_trie_Hit.c T_trie_Hit.d x8), .one (cL 5 T_doormanref11_Hit.c T_doormanref11_Hit.d v8)] (.one (.lit (.bool x9))), (!x9) = false, SCall Try.prog 48 [.one (N_trie_Trie.c v7), .agg (T_api_Addr.c b4)] (.one (cL 5 T_trie_Hit.c T_trie_Hit.d x10)), SCall Try.prog 49 [.one (cL 5 T_doormanref11_Hit.c T_doormanref11_Hit.d v8), .agg (T_api_Addr.c b4)] (.one (cL 5 T_doormanref11_Hit.c T_doormanref11_Hit.d x11)), SCall Try.prog 46 [.one (cL 5 T_trie_Hit.c T_trie_Hit.d x10), .one (cL 5 T_doormanref11_Hit.c T_doormanref11_Hit.d x11)] (.one (.lit (.bool x12))), (!x12) = false, (x5.1 != x6.1) = false, (!(x5.2 == x6.2)) = true] (by kernel_rfl) rfl ⟨(g_trie_Trie_Get_ok v7 b5 x5 q9), (g_doormanref11_Get_ok v8 b5 x6 q10), (g_trie_Trie_Len_ok v7 x7 q11), h12, (g_trie_Trie_All_ok v7 x8 q13), (g_doormanlaw11_same_ok x8 v8 x9 q14), h15, (g_trie_Trie_Cover_ok v7 b4 x10 q16), (g_doormanref11_Cover_ok v8 b4 x11 q17), (g_doormanlaw11_same_ok x10 x11 x12 q18), h19, h20, h21, trivial⟩
          · exact toK_good allOk Post.ends 11 _ _ _ _ [⟨[(2, .r (.tup [(false, (cI .i64) x5.1), (false, cB x5.2)]) [])], [], [], [], [], [], []⟩, ⟨[(2, .r (.tup [(false, (cI .i64) x6.1), (false, cB x6.2)]) [])], [], [], [], [], [], []⟩, ⟨[(1, .r (.one (.lit (.int .i64 x7))) []), (7, .r (.one (cL 5 T_trie_Hit.c T_trie_Hit.d x8)) []), (9, .r (.one (.lit (.bool x9))) []), (15, .r (.one (cL 5 T_trie_Hit.c T_trie_Hit.d x10)) []), (18, .r (.one (cL 5 T_doormanref11_Hit.c T_doormanref11_Hit.d x11)) []), (19, .r (.one (.lit (.bool x12))) [])], [(5, false), (12, false), (22, false), (27, false)], [], [[], [0], [], [2], [1, 0, 3, 2], [4, 1, 0, 3, 2], [5, 4, 1, 0, 3, 2], [6, 5, 4, 1, 0, 3, 2], [5, 4, 1, 0, 3, 2], [7, 6, 5, 4, 1, 0, 3, 2, 8], [9, 7, 6, 5, 4, 1, 0, 3, 2, 8], [5, 4, 1, 0, 3, 2, 10, 9, 7, 6, 8], [11, 5, 4, 1, 0, 3, 2, 10, 9, 7, 6, 8], [12, 11, 5, 4, 1, 0, 3, 2, 10, 9, 7, 6, 8], [12, 11, 5, 4, 1, 0, 3, 2, 10, 9, 7, 6, 8], [13, 12, 11, 5, 4, 1, 0, 3, 2, 10, 9, 7, 6, 8, 14], [12, 11, 5, 4, 1, 0, 3, 2, 10, 9, 7, 6, 8], [12, 11, 5, 4, 1, 0, 3, 2, 10, 9, 7, 6, 8], [16, 12, 11, 5, 4, 1, 0, 3, 2, 10, 9, 7, 6, 8, 17, 15, 13, 14], [15, 13, 12, 11, 5, 4, 1, 0, 3, 2, 10, 9, 7, 6, 8, 14, 18, 16, 17], [19, 15, 13, 12, 11, 5, 4, 1, 0, 3, 2, 10, 9, 7, 6, 8, 14, 18, 16, 17], [12, 11, 5, 4, 1, 0, 3, 2, 10, 9, 7, 6, 8, 20, 19, 15, 13, 14, 18, 16, 17], [21, 12, 11, 5, 4, 1, 0, 3, 2, 10, 9, 7, 6, 8, 20, 19, 15, 13, 14, 18, 16, 17], [22, 21, 12, 11, 5, 4, 1, 0, 3, 2, 10, 9, 7, 6, 8, 20, 19, 15, 13, 14, 18, 16, 17], [22, 21, 12, 11, 5, 4, 1, 0, 3, 2, 10, 9, 7, 6, 8, 20, 19, 15, 13, 14, 18, 16, 17], [23, 22, 21, 12, 11, 5, 4, 1, 0, 3, 2, 10, 9, 7, 6, 8, 20, 19, 15, 13, 14, 18, 16, 17, 24], [22, 21, 12, 11, 5, 4, 1, 0, 3, 2, 10, 9, 7, 6, 8, 20, 19, 15, 13, 14, 18, 16, 17, 25, 23, 24], [26, 22, 21, 12, 11, 5, 4, 1, 0, 3, 2, 10, 9, 7, 6, 8, 20, 19, 15, 13, 14, 18, 16, 17, 25, 23, 24], [27, 26, 22, 21, 12, 11, 5, 4, 1, 0, 3, 2, 10, 9, 7, 6, 8, 20, 19, 15, 13, 14, 18, 16, 17, 25, 23, 24], [27, 26, 22, 21, 12, 11, 5, 4, 1, 0, 3, 2, 10, 9, 7, 6, 8, 20, 19, 15, 13, 14, 18, 16, 17, 25, 23, 24], [28, 27, 26, 22, 21, 12, 11, 5, 4, 1, 0, 3, 2, 10, 9, 7, 6, 8, 20, 19, 15, 13, 14, 18, 16, 17, 25, 23, 24, 29], [27, 26, 22, 21, 12, 11, 5, 4, 1, 0, 3, 2, 10, 9, 7, 6, 8, 20, 19, 15, 13, 14, 18, 16, 17, 25, 23, 24, 30, 28, 29]], [], [], []⟩, ⟨[], [], [], [], [], [], []⟩] [false] ⟨[], [], [], [], [], [0, 4, 5, 7, 8, 9], [4, 5], []⟩ [SCall Try.prog 43 [.one (N_trie_Trie.c v7), .agg (T_api_Net.c b5)] (.tup [(false, (cI .i64) x5.1), (false, cB x5.2)]), SCall Try.prog 44 [.one (cL 5 T_doormanref11_Hit.c T_doormanref11_Hit.d v8), .agg (T_api_Net.c b5)] (.tup [(false, (cI .i64) x6.1), (false, cB x6.2)]), SCall Try.prog 45 [.one (N_trie_Trie.c v7)] (.one (.lit (.int .i64 x7))), (x7 != ((v8.length : Nat) : Int)) = false, SCall Try.prog 47 [.one (N_trie_Trie.c v7)] (.one (cL 5 T_trie_Hit.c T_trie_Hit.d x8)), SCall Try.prog 46 [.one (cL 5 T_trie_Hit.c T_trie_Hit.d x8), .one (cL 5 T_doormanref11_Hit.c T_doormanref11_Hit.d v8)] (.one (.lit (.bool x9))), (!x9) = false, SCall Try.prog 48 [.one (N_trie_Trie.c v7), .agg (T_api_Addr.c b4)] (.one (cL 5 T_trie_Hit.c T_trie_Hit.d x10)), SCall Try.prog 49 [.one (cL 5 T_doormanref11_Hit.c T_doormanref11_Hit.d v8), .agg (T_api_Addr.c b4)] (.one (cL 5 T_doormanref11_Hit.c T_doormanref11_Hit.d x11)), SCall Try.prog 46 [.one (cL 5 T_trie_Hit.c T_trie_Hit.d x10), .one (cL 5 T_doormanref11_Hit.c T_doormanref11_Hit.d x11)] (.one (.lit (.bool x12))), (!x12) = false, (x5.1 != x6.1) = false, (!(x5.2 == x6.2)) = false] (by kernel_rfl) ⟨(g_trie_Trie_Get_ok v7 b5 x5 q9), (g_doormanref11_Get_ok v8 b5 x6 q10), (g_trie_Trie_Len_ok v7 x7 q11), h12, (g_trie_Trie_All_ok v7 x8 q13), (g_doormanlaw11_same_ok x8 v8 x9 q14), h15, (g_trie_Trie_Cover_ok v7 b4 x10 q16), (g_doormanref11_Cover_ok v8 b4 x11 q17), (g_doormanlaw11_same_ok x10 x11 x12 q18), h19, h20, h21, trivial⟩ (hg_doormanlaw11_TriePlays_c0 v7 v8 (add64 v9 (1 : Int)) b4 b5 r hf)

def g_doormanlaw11_TriePlays_c0 (a0 : (List T_doormanlaw11_Act))  : Nat → N_trie_Trie → (List T_doormanref11_Hit) → Int → T_api_Addr → T_api_Net → Option Bool
  | 0, _, _, _, _, _ => none
  | fu + 1, v7, v8, v9, b4, b5 =>
    bif (decide (v9 < ((a0.length : Nat) : Int))) then
      need (0 ≤ v9 ∧ v9 < ((a0.length : Nat) : Int)) <|
      (g_doormanlaw11_does v7 (a0.getD v9.toNat T_doormanlaw11_Act.d)).bind fun x3 =>
      bif ((a0.getD v9.toNat T_doormanlaw11_Act.d).fKind == (0 : Int)) then
        (g_doormanref11_With v8 ((a0.getD v9.toNat T_doormanlaw11_Act.d).fNet) ((a0.getD v9.toNat T_doormanlaw11_Act.d).fV)).bind fun x4 =>
        g_doormanlaw11_TriePlays_c1 a0 v9 b4 b5 (g_doormanlaw11_TriePlays_c0 a0  fu) x3 x4
      else
        (g_doormanref11_Without v8 ((a0.getD v9.toNat T_doormanlaw11_Act.d).fNet)).bind fun x5 =>
        g_doormanlaw11_TriePlays_c1 a0 v9 b4 b5 (g_doormanlaw11_TriePlays_c0 a0  fu) x3 x5
    else
      (g_doormanlaw11_awake).bind fun x6 =>
      some x6

theorem g_doormanlaw11_TriePlays_c0_ok (S0 : Nat → Prop) (w0 : Start) (a0 : (List T_doormanlaw11_Act))  : ∀ (fu : Nat) (v7 : N_trie_Trie) (v8 : (List T_doormanref11_Hit)) (v9 : Int) (b4 : T_api_Addr) (b5 : T_api_Net) (r : Bool), g_doormanlaw11_TriePlays_c0 a0  fu v7 v8 v9 b4 b5 = some r → Good Try.prog 101 S0 w0 (bodyPost Try.prog Try.f9 (Post S0 w0 (.one (.lit (.bool r))))) (at_ [1, 1, 1, 1, 0, 1, 0] (bodyOf Try.f9)) ⟨[(0, .one (cL 6 T_doormanlaw11_Act.c T_doormanlaw11_Act.d a0)), (4, .one (.ptr 4 0)), (5, .one (.ptr 5 0)), (7, .one (N_trie_Trie.c v7)), (8, .one (cL 5 T_doormanref11_Hit.c T_doormanref11_Hit.d v8)), (9, .one (.lit (.int .i64 v9)))], [(4, .box [.lit (.bool b4.fV6), .lit (.int .u64 b4.fHi), .lit (.int .u64 b4.fLo)]), (5, .box [.lit (.bool b5.fAddr.fV6), .lit (.int .u64 b5.fAddr.fHi), .lit (.int .u64 b5.fAddr.fLo), .lit (.int .i64 b5.fBits)])]⟩ := by
  intro fu
  induction fu with
  | zero =>
    intro v7 v8 v9 b4 b5 r hf
    simp [g_doormanlaw11_TriePlays_c0] at hf
  | succ fu ih =>
    intro v7 v8 v9 b4 b5 r hf
    unfold g_doormanlaw11_TriePlays_c0 at hf
    rcases br_some hf with ⟨h4, hf⟩ | ⟨h4, hf⟩
    · obtain ⟨o5, hf⟩ := need_some hf
      obtain ⟨x3, q6, hf⟩ := bind_some' hf
      rcases br_some hf with ⟨h7, hf⟩ | ⟨h7, hf⟩
      · obtain ⟨x4, q8, hf⟩ := bind_some' hf
        exact toK_good allOk Post.ends 15 _ _ _ _ [⟨[], [], [], [], [], [], []⟩, ⟨[(5, .r (.one (N_trie_Trie.c x3)) [])], [], [], [], [], [], []⟩, ⟨[], [], [], [], [], [], []⟩, ⟨[(11, .r (.one (cL 5 T_doormanref11_Hit.c T_doormanref11_Hit.d x4)) [])], [], [], [[], [], [], [1, 2], [3, 1, 2], [4, 3, 1, 2], [], [], [6, 7], [8, 6, 7], [9, 8, 6, 7], [0, 5, 4, 3, 1, 2, 10, 9, 8, 6, 7], [11, 0, 5, 4, 3, 1, 2, 10, 9, 8, 6, 7]], [], [], []⟩] [true, true] ⟨[], [], [], [], [], [0, 4, 5, 7, 8, 9], [4, 5], []⟩ [(decide (v9 < ((a0.length : Nat) : Int))) = true, 0 ≤ v9 ∧ v9 < ((a0.length : Nat) : Int), SCall Try.prog 40 [.one (N_trie_Trie.c v7), .agg (T_doormanlaw11_Act.c (a0.getD v9.toNat T_doormanlaw11_Act.d))] (.one (N_trie_Trie.c x3)), 0 ≤ v9 ∧ v9 < ((a0.length : Nat) : Int), ((a0.getD v9.toNat T_doormanlaw11_Act.d).fKind == (0 : Int)) = true, 0 ≤ v9 ∧ v9 < ((a0.length : Nat) : Int), 0 ≤ v9 ∧ v9 < ((a0.length : Nat) : Int), SCall Try.prog 41 [.one (cL 5 T_doormanref11_Hit.c T_doormanref11_Hit.d v8), .agg (T_api_Net.c ((a0.getD v9.toNat T_doormanlaw11_Act.d).fNet)), .one (.lit (.int .i64 ((a0.getD v9.toNat T_doormanlaw11_Act.d).fV)))] (.one (cL 5 T_doormanref11_Hit.c T_doormanref11_Hit.d x4))] (by kernel_rfl) ⟨h4, o5, (g_doormanlaw11_does_ok v7 (a0.getD v9.toNat T_doormanlaw11_Act.d) x3 q6), o5, h7, o5, o5, (g_doormanref11_With_ok v8 ((a0.getD v9.toNat T_doormanlaw11_Act.d).fNet) ((a0.getD v9.toNat T_doormanlaw11_Act.d).fV) x4 q8), trivial⟩ (g_doormanlaw11_TriePlays_c1_ok S0 w0 a0 v9 b4 b5 (g_doormanlaw11_TriePlays_c0 a0  fu) ih x3 x4 r hf)
      · obtain ⟨x5, q9, hf⟩ := bind_some' hf
        exact toK_good allOk Post.ends 15 _ _ _ _ [⟨[], [], [], [], [], [], []⟩, ⟨[(5, .r (.one (N_trie_Trie.c x3)) [])], [], [], [], [], [], []⟩, ⟨[], [], [], [], [], [], []⟩, ⟨[(6, .r (.one (cL 5 T_doormanref11_Hit.c T_doormanref11_Hit.d x5)) [])], [], [], [], [], [], []⟩] [true, false] ⟨[], [], [], [], [], [0, 4, 5, 7, 8, 9], [4, 5], []⟩ [(decide (v9 < ((a0.length : Nat) : Int))) = true, 0 ≤ v9 ∧ v9 < ((a0.length : Nat) : Int), SCall Try.prog 40 [.one (N_trie_Trie.c v7), .agg (T_doormanlaw11_Act.c (a0.getD v9.toNat T_doormanlaw11_Act.d))] (.one (N_trie_Trie.c x3)), 0 ≤ v9 ∧ v9 < ((a0.length : Nat) : Int), ((a0.getD v9.toNat T_doormanlaw11_Act.d).fKind == (0 : Int)) = false, 0 ≤ v9 ∧ v9 < ((a0.length : Nat) : Int), SCall Try.prog 42 [.one (cL 5 T_doormanref11_Hit.c T_doormanref11_Hit.d v8), .agg (T_api_Net.c ((a0.getD v9.toNat T_doormanlaw11_Act.d).fNet))] (.one (cL 5 T_doormanref11_Hit.c T_doormanref11_Hit.d x5))] (by kernel_rfl) ⟨h4, o5, (g_doormanlaw11_does_ok v7 (a0.getD v9.toNat T_doormanlaw11_Act.d) x3 q6), o5, h7, o5, (g_doormanref11_Without_ok v8 ((a0.getD v9.toNat T_doormanlaw11_Act.d).fNet) x5 q9), trivial⟩ (g_doormanlaw11_TriePlays_c1_ok S0 w0 a0 v9 b4 b5 (g_doormanlaw11_TriePlays_c0 a0  fu) ih x3 x5 r hf)
    · obtain ⟨x6, q10, hf⟩ := bind_some' hf
      replace hf := Option.some.inj hf
      subst hf
      exact toEnd_good allOk 8 _ _ [⟨[], [], [], [], [], [], []⟩, ⟨[(0, .r (.one (.lit (.bool x6))) [])], [], [], [], [], [], []⟩] [false] [] [] [] [(decide (v9 < ((a0.length : Nat) : Int))) = false, SCall Try.prog 38 [] (.one (.lit (.bool x6)))] (by kernel_rfl) rfl ⟨h4, (g_doormanlaw11_awake_ok  x6 q10), trivial⟩

/-- doorman/doormanlaw11.TriePlays -/
def g_doormanlaw11_TriePlays (a0 : (List T_doormanlaw11_Act)) (a1 : T_api_Addr) (a2 : T_api_Net) : Option Bool :=
  bif (decide (((a0.length : Nat) : Int) > (60 : Int))) then
    (g_doormanlaw11_awake).bind fun x1 =>
    some x1
  else
    (g_trie_New).bind fun x2 =>
    g_doormanlaw11_TriePlays_c0 a0  ((((a0.length : Nat) : Int) - (0 : Int)).toNat + 2) x2 ([]) (0 : Int) a1 a2

theorem g_doormanlaw11_TriePlays_ok (a0 : (List T_doormanlaw11_Act)) (a1 : T_api_Addr) (a2 : T_api_Net) (r : Bool) (hf : g_doormanlaw11_TriePlays a0 a1 a2 = some r) : SCall Try.prog 9 [.one (cL 6 T_doormanlaw11_Act.c T_doormanlaw11_Act.d a0), .agg (T_api_Addr.c a1), .agg (T_api_Net.c a2)] (.one (.lit (.bool r))) := by
  refine SCall.of Try.func9 rfl rfl rfl rfl fun S0 w0 => ?_
  unfold g_doormanlaw11_TriePlays at hf
  rcases br_some hf with ⟨h1, hf⟩ | ⟨h1, hf⟩
  · obtain ⟨x1, q2, hf⟩ := bind_some' hf
    replace hf := Option.some.inj hf
    subst hf
    exact toEnd_good allOk 8 _ _ [⟨[], [], [], [], [], [], []⟩, ⟨[], [], [], [], [], [], []⟩, ⟨[(0, .r (.one (.lit (.bool x1))) [])], [], [], [], [], [], []⟩] [true] [] [] [] [(decide (((a0.length : Nat) : Int) > (60 : Int))) = true, SCall Try.prog 38 [] (.one (.lit (.bool x1)))] (by kernel_rfl) rfl ⟨h1, (g_doormanlaw11_awake_ok  x1 q2), trivial⟩
  · obtain ⟨x2, q3, hf⟩ := bind_some' hf
    exact toK_good allOk Post.ends 15 _ _ _ _ [⟨[], [], [], [], [], [], []⟩, ⟨[], [], [], [], [], [], []⟩, ⟨[(0, .r (.one (N_trie_Trie.c x2)) [])], [], [], [], [], [], []⟩, ⟨[], [], [], [], [], [], []⟩, ⟨[], [], [], [], [], [], []⟩] [false] ⟨[], [], [(8, [(0, cL 5 T_doormanref11_Hit.c T_doormanref11_Hit.d [])])], [], [], [0, 4, 5, 7, 8, 9], [4, 5], []⟩ [(decide (((a0.length : Nat) : Int) > (60 : Int))) = false, SCall Try.prog 39 [] (.one (N_trie_Trie.c x2))] (by kernel_rfl) ⟨h1, (g_trie_New_ok  x2 q3), trivial⟩ (g_doormanlaw11_TriePlays_c0_ok S0 w0 a0   ((((a0.length : Nat) : Int) - (0 : Int)).toNat + 2) x2 ([]) (0 : Int) a1 a2 r hf)

def g_doormanlaw11_TrieStays_c2 (a0 : (List T_doormanlaw11_Act)) (a1 : (List T_doormanlaw11_Act)) (v5 : N_trie_Trie) (v6 : Int) (v7 : (List T_trie_Hit)) (v8 : Int) (v9 : N_trie_Trie) (v10 : Int) (kg_doormanlaw11_TrieStays_c0 : N_trie_Trie → Int → Option Bool) (kg_doormanlaw11_TrieStays_c1 : (List T_trie_Hit) → Int → N_trie_Trie → Int → Option Bool) : Nat → (List T_trie_Hit) → Int → Option Bool
  | 0, _, _ => none
  | fu + 1, v11, v12 =>
    bif (decide (v12 < ((v11.length : Nat) : Int))) then
      bif (decide (v12 < ((v7.length : Nat) : Int))) then
        need (0 ≤ v12 ∧ v12 < ((v11.length : Nat) : Int)) <|
        need (0 ≤ v12 ∧ v12 < ((v7.length : Nat) : Int)) <|
        bif (!(decide ((v11.getD v12.toNat T_trie_Hit.d) = (v7.getD v12.toNat T_trie_Hit.d)))) then
          some false
        else
          g_doormanlaw11_TrieStays_c2 a0 a1 v5 v6 v7 v8 v9 v10 kg_doormanlaw11_TrieStays_c0 kg_doormanlaw11_TrieStays_c1 fu v11 (add64 v12 (1 : Int))
      else
        (g_doormanlaw11_awake).bind fun x11 =>
        some x11
    else
      (g_doormanlaw11_awake).bind fun x12 =>
      some x12

theorem g_doormanlaw11_TrieStays_c2_ok (S0 : Nat → Prop) (w0 : Start) (a0 : (List T_doormanlaw11_Act)) (a1 : (List T_doormanlaw11_Act)) (v5 : N_trie_Trie) (v6 : Int) (v7 : (List T_trie_Hit)) (v8 : Int) (v9 : N_trie_Trie) (v10 : Int) (kg_doormanlaw11_TrieStays_c0 : N_trie_Trie → Int → Option Bool) (kg_doormanlaw11_TrieStays_c1 : (List T_trie_Hit) → Int → N_trie_Trie → Int → Option Bool) (hg_doormanlaw11_TrieStays_c0 : ∀ (v5_ : N_trie_Trie) (v6_ : Int) (r : Bool), kg_doormanlaw11_TrieStays_c0 v5_ v6_ = some r → Good Try.prog 93 S0 w0 (bodyPost Try.prog Try.f10 (Post S0 w0 (.one (.lit (.bool r))))) (at_ [1, 1, 1, 0, 1, 0] (bodyOf Try.f10)) ⟨[(0, .one (cL 6 T_doormanlaw11_Act.c T_doormanlaw11_Act.d a0)), (1, .one (cL 6 T_doormanlaw11_Act.c T_doormanlaw11_Act.d a1)), (5, .one (N_trie_Trie.c v5_)), (6, .one (.lit (.int .i64 v6_)))], []⟩) (hg_doormanlaw11_TrieStays_c1 : ∀ (v7_ : (List T_trie_Hit)) (v8_ : Int) (v9_ : N_trie_Trie) (v10_ : Int) (r : Bool), kg_doormanlaw11_TrieStays_c1 v7_ v8_ v9_ v10_ = some r → Good Try.prog 93 S0 w0 (bodyPost Try.prog Try.f10 (Post S0 w0 (.one (.lit (.bool r))))) (at_ [1, 1, 1, 1, 1, 1, 0, 1, 0] (bodyOf Try.f10)) ⟨[(1, .one (cL 6 T_doormanlaw11_Act.c T_doormanlaw11_Act.d a1)), (5, .one (N_trie_Trie.c v5)), (7, .one (cL 5 T_trie_Hit.c T_trie_Hit.d v7_)), (8, .one (.lit (.int .i64 v8_))), (9, .one (N_trie_Trie.c v9_)), (10, .one (.lit (.int .i64 v10_)))], []⟩) : ∀ (fu : Nat) (v11 : (List T_trie_Hit)) (v12 : Int) (r : Bool), g_doormanlaw11_TrieStays_c2 a0 a1 v5 v6 v7 v8 v9 v10 kg_doormanlaw11_TrieStays_c0 kg_doormanlaw11_TrieStays_c1 fu v11 v12 = some r → Good Try.prog 93 S0 w0 (bodyPost Try.prog Try.f10 (Post S0 w0 (.one (.lit (.bool r))))) (at_ [1, 1, 1, 1, 1, 1, 1, 1, 1, 0, 1, 0] (bodyOf Try.f10)) ⟨[(7, .one (cL 5 T_trie_Hit.c T_trie_Hit.d v7)), (11, .one (cL 5 T_trie_Hit.c T_trie_Hit.d v11)), (12, .one (.lit (.int .i64 v12)))], []⟩ := by
  intro fu
  induction fu with
  | zero =>
    intro v11 v12 r hf
    simp [g_doormanlaw11_TrieStays_c2] at hf
  | succ fu ih =>
    intro v11 v12 r hf
    unfold g_doormanlaw11_TrieStays_c2 at hf
    rcases br_some hf with ⟨h19, hf⟩ | ⟨h19, hf⟩
    · rcases br_some hf with ⟨h20, hf⟩ | ⟨h20, hf⟩
      · obtain ⟨o21, hf⟩ := need_some hf
        obtain ⟨o22, hf⟩ := need_some hf
        rcases br_some hf with ⟨h23, hf⟩ | ⟨h23, hf⟩
        · replace hf := Option.some.inj hf
          subst hf
          exact toEnd_good allOk 13 _ _ [⟨[], [(4, true)], [], [], [], [], []⟩, ⟨[(8, .r (.one (.lit (.bool (!(decide ((v11.getD v12.toNat T_trie_Hit.d) = (v7.getD v12.toNat T_trie_Hit.d))))))) [])], [], [], [[], [], [0, 1], [2, 0, 1], [], [], [4, 5], [6, 4, 5], [3, 2, 0, 1, 7, 6, 4, 5]], [], [], []⟩, ⟨[], [], [], [], [], [], []⟩] [true, true] [] [] [] [(decide (v12 < ((v11.length : Nat) : Int))) = true, (decide (v12 < ((v7.length : Nat) : Int))) = true, 0 ≤ v12 ∧ v12 < ((v11.length : Nat) : Int), 0 ≤ v12 ∧ v12 < ((v7.length : Nat) : Int), ∀ w, (do eqGuard .neq 101 (.tmp 86) (.tmp 90) (.agg #[.bool ((((v11.getD v12.toNat T_trie_Hit.d).fNet).fAddr).fV6), .int .u64 ((((v11.getD v12.toNat T_trie_Hit.d).fNet).fAddr).fHi), .int .u64 ((((v11.getD v12.toNat T_trie_Hit.d).fNet).fAddr).fLo), .int .i64 (((v11.getD v12.toNat T_trie_Hit.d).fNet).fBits), .int .i64 ((v11.getD v12.toNat T_trie_Hit.d).fV)]) (.agg #[.bool ((((v7.getD v12.toNat T_trie_Hit.d).fNet).fAddr).fV6), .int .u64 ((((v7.getD v12.toNat T_trie_Hit.d).fNet).fAddr).fHi), .int .u64 ((((v7.getD v12.toNat T_trie_Hit.d).fNet).fAddr).fLo), .int .i64 (((v7.getD v12.toNat T_trie_Hit.d).fNet).fBits), .int .i64 ((v7.getD v12.toNat T_trie_Hit.d).fV)]); binOp .neq 101 (.agg #[.bool ((((v11.getD v12.toNat T_trie_Hit.d).fNet).fAddr).fV6), .int .u64 ((((v11.getD v12.toNat T_trie_Hit.d).fNet).fAddr).fHi), .int .u64 ((((v11.getD v12.toNat T_trie_Hit.d).fNet).fAddr).fLo), .int .i64 (((v11.getD v12.toNat T_trie_Hit.d).fNet).fBits), .int .i64 ((v11.getD v12.toNat T_trie_Hit.d).fV)]) (.agg #[.bool ((((v7.getD v12.toNat T_trie_Hit.d).fNet).fAddr).fV6), .int .u64 ((((v7.getD v12.toNat T_trie_Hit.d).fNet).fAddr).fHi), .int .u64 ((((v7.getD v12.toNat T_trie_Hit.d).fNet).fAddr).fLo), .int .i64 (((v7.getD v12.toNat T_trie_Hit.d).fNet).fBits), .int .i64 ((v7.getD v12.toNat T_trie_Hit.d).fV)]) : Sem Value).run Try.prog w = .ok (.bool (!(decide ((v11.getD v12.toNat T_trie_Hit.d) = (v7.getD v12.toNat T_trie_Hit.d))))) w, (!(decide ((v11.getD v12.toNat T_trie_Hit.d) = (v7.getD v12.toNat T_trie_Hit.d)))) = true] (by kernel_rfl) rfl ⟨h19, h20, o21, o22, (neq_T_trie_Hit (v11.getD v12.toNat T_trie_Hit.d) (v7.getD v12.toNat T_trie_Hit.d) _ _), h23, trivial⟩
        · exact toK_good allOk Post.ends 15 _ _ _ _ [⟨[], [(4, true)], [], [], [], [], []⟩, ⟨[(8, .r (.one (.lit (.bool (!(decide ((v11.getD v12.toNat T_trie_Hit.d) = (v7.getD v12.toNat T_trie_Hit.d))))))) [])], [], [], [[], [], [0, 1], [2, 0, 1], [], [], [4, 5], [6, 4, 5], [3, 2, 0, 1, 7, 6, 4, 5]], [], [], []⟩, ⟨[], [], [], [], [], [], []⟩] [true, false] ⟨[], [], [], [], [], [7, 11, 12], [], []⟩ [(decide (v12 < ((v11.length : Nat) : Int))) = true, (decide (v12 < ((v7.length : Nat) : Int))) = true, 0 ≤ v12 ∧ v12 < ((v11.length : Nat) : Int), 0 ≤ v12 ∧ v12 < ((v7.length : Nat) : Int), ∀ w, (do eqGuard .neq 101 (.tmp 86) (.tmp 90) (.agg #[.bool ((((v11.getD v12.toNat T_trie_Hit.d).fNet).fAddr).fV6), .int .u64 ((((v11.getD v12.toNat T_trie_Hit.d).fNet).fAddr).fHi), .int .u64 ((((v11.getD v12.toNat T_trie_Hit.d).fNet).fAddr).fLo), .int .i64 (((v11.getD v12.toNat T_trie_Hit.d).fNet).fBits), .int .i64 ((v11.getD v12.toNat T_trie_Hit.d).fV)]) (.agg #[.bool ((((v7.getD v12.toNat T_trie_Hit.d).fNet).fAddr).fV6), .int .u64 ((((v7.getD v12.toNat T_trie_Hit.d).fNet).fAddr).fHi), .int .u64 ((((v7.getD v12.toNat T_trie_Hit.d).fNet).fAddr).fLo), .int .i64 (((v7.getD v12.toNat T_trie_Hit.d).fNet).fBits), .int .i64 ((v7.getD v12.toNat T_trie_Hit.d).fV)]); binOp .neq 101 (.agg #[.bool ((((v11.getD v12.toNat T_trie_Hit.d).fNet).fAddr).fV6), .int .u64 ((((v11.getD v12.toNat T_trie_Hit.d).fNet).fAddr).fHi), .int .u64 ((((v11.getD v12.toNat T_trie_Hit.d).fNet).fAddr).fLo), .int .i64 (((v11.getD v12.toNat T_trie_Hit.d).fNet).fBits), .int .i64 ((v11.getD v12.toNat T_trie_Hit.d).fV)]) (.agg #[.bool ((((v7.getD v12.toNat T_trie_Hit.d).fNet).fAddr).fV6), .int .u64 ((((v7.getD v12.toNat T_trie_Hit.d).fNet).fAddr).fHi), .int .u64 ((((v7.getD v12.toNat T_trie_Hit.d).fNet).fAddr).fLo), .int .i64 (((v7.getD v12.toNat T_trie_Hit.d).fNet).fBits), .int .i64 ((v7.getD v12.toNat T_trie_Hit.d).fV)]) : Sem Value).run Try.prog w = .ok (.bool (!(decide ((v11.getD v12.toNat T_trie_Hit.d) = (v7.getD v12.toNat T_trie_Hit.d))))) w, (!(decide ((v11.getD v12.toNat T_trie_Hit.d) = (v7.getD v12.toNat T_trie_Hit.d)))) = false] (by kernel_rfl) ⟨h19, h20, o21, o22, (neq_T_trie_Hit (v11.getD v12.toNat T_trie_Hit.d) (v7.getD v12.toNat T_trie_Hit.d) _ _), h23, trivial⟩ (ih v11 (add64 v12 (1 : Int)) r hf)
      · obtain ⟨x11, q24, hf⟩ := bind_some' hf
        replace hf := Option.some.inj hf
        subst hf
        exact toEnd_good allOk 8 _ _ [⟨[], [(4, true)], [], [], [], [], []⟩, ⟨[(0, .r (.one (.lit (.bool x11))) [])], [], [], [], [], [], []⟩] [false] [] [] [] [(decide (v12 < ((v11.length : Nat) : Int))) = true, (decide (v12 < ((v7.length : Nat) : Int))) = false, SCall Try.prog 38 [] (.one (.lit (.bool x11)))] (by kernel_rfl) rfl ⟨h19, h20, (g_doormanlaw11_awake_ok  x11 q24), trivial⟩
    · obtain ⟨x12, q25, hf⟩ := bind_some' hf
      replace hf := Option.some.inj hf
      subst hf
      exact toEnd_good allOk 8 _ _ [⟨[], [(4, false)], [], [], [], [], []⟩, ⟨[(0, .r (.one (.lit (.bool x12))) [])], [], [], [], [], [], []⟩] [false] [] [] [] [(decide (v12 < ((v11.length : Nat) : Int))) = false, false = false, SCall Try.prog 38 [] (.one (.lit (.bool x12)))] (by kernel_rfl) rfl ⟨h19, rfl, (g_doormanlaw11_awake_ok  x12 q25), trivial⟩

def g_doormanlaw11_TrieStays_c1 (a0 : (List T_doormanlaw11_Act)) (a1 : (List T_doormanlaw11_Act)) (v5 : N_trie_Trie) (v6 : Int) (kg_doormanlaw11_TrieStays_c0 : N_trie_Trie → Int → Option Bool) : Nat → (List T_trie_Hit) → Int → N_trie_Trie → Int → Option Bool
  | 0, _, _, _, _ => none
  | fu + 1, v7, v8, v9, v10 =>
    bif (decide (v10 < ((a1.length : Nat) : Int))) then
      need (0 ≤ v10 ∧ v10 < ((a1.length : Nat) : Int)) <|
      (g_doormanlaw11_does v9 (a1.getD v10.toNat T_doormanlaw11_Act.d)).bind fun x7 =>
      (g_doormanlaw11_does v5 (a1.getD v10.toNat T_doormanlaw11_Act.d)).bind fun x8 =>
      g_doormanlaw11_TrieStays_c1 a0 a1 v5 v6 kg_doormanlaw11_TrieStays_c0 fu v7 v8 x7 (add64 v10 (1 : Int))
    else
      (g_trie_Trie_All v5).bind fun x9 =>
      bif (((x9.length : Nat) : Int) != ((v7.length : Nat) : Int)) then
        some false
      else
        (g_trie_Trie_Len v5).bind fun x10 =>
        bif (x10 != v8) then
          some false
        else
          g_doormanlaw11_TrieStays_c2 a0 a1 v5 v6 v7 v8 v9 v10 kg_doormanlaw11_TrieStays_c0 (g_doormanlaw11_TrieStays_c1 a0 a1 v5 v6 kg_doormanlaw11_TrieStays_c0 fu) ((((v7.length : Nat) : Int) - (0 : Int)).toNat + 2) x9 (0 : Int)

theorem g_doormanlaw11_TrieStays_c1_ok (S0 : Nat → Prop) (w0 : Start) (a0 : (List T_doormanlaw11_Act)) (a1 : (List T_doormanlaw11_Act)) (v5 : N_trie_Trie) (v6 : Int) (kg_doormanlaw11_TrieStays_c0 : N_trie_Trie → Int → Option Bool) (hg_doormanlaw11_TrieStays_c0 : ∀ (v5_ : N_trie_Trie) (v6_ : Int) (r : Bool), kg_doormanlaw11_TrieStays_c0 v5_ v6_ = some r → Good Try.prog 93 S0 w0 (bodyPost Try.prog Try.f10 (Post S0 w0 (.one (.lit (.bool r))))) (at_ [1, 1, 1, 0, 1, 0] (bodyOf Try.f10)) ⟨[(0, .one (cL 6 T_doormanlaw11_Act.c T_doormanlaw11_Act.d a0)), (1, .one (cL 6 T_doormanlaw11_Act.c T_doormanlaw11_Act.d a1)), (5, .one (N_trie_Trie.c v5_)), (6, .one (.lit (.int .i64 v6_)))], []⟩) : ∀ (fu : Nat) (v7 : (List T_trie_Hit)) (v8 : Int) (v9 : N_trie_Trie) (v10 : Int) (r : Bool), g_doormanlaw11_TrieStays_c1 a0 a1 v5 v6 kg_doormanlaw11_TrieStays_c0 fu v7 v8 v9 v10 = some r → Good Try.prog 93 S0 w0 (bodyPost Try.prog Try.f10 (Post S0 w0 (.one (.lit (.bool r))))) (at_ [1, 1, 1, 1, 1, 1, 0, 1, 0] (bodyOf Try.f10)) ⟨[(1, .one (cL 6 T_doormanlaw11_Act.c T_doormanlaw11_Act.d a1)), (5, .one (N_trie_Trie.c v5)), (7, .one (cL 5 T_trie_Hit.c T_trie_Hit.d v7)), (8, .one (.lit (.int .i64 v8))), (9, .one (N_trie_Trie.c v9)), (10, .one (.lit (.int .i64 v10)))], []⟩ := by
  intro fu
  induction fu with
  | zero =>
    intro v7 v8 v9 v10 r hf
    simp [g_doormanlaw11_TrieStays_c1] at hf
  | succ fu ih =>
    intro v7 v8 v9 v10 r hf
    unfold g_doormanlaw11_TrieStays_c1 at hf
    rcases br_some hf with ⟨h11, hf⟩ | ⟨h11, hf⟩
    · obtain ⟨o12, hf⟩ := need_some hf
      obtain ⟨x7, q13, hf⟩ := bind_some' hf
      obtain ⟨x8, q14, hf⟩ := bind_some' hf
      exact toK_good allOk Post.ends 14 _ _ _ _ [⟨[], [], [], [], [], [], []⟩, ⟨[(5, .r (.one (N_trie_Trie.c x7)) [])], [], [], [], [], [], []⟩, ⟨[(5, .r (.one (N_trie_Trie.c x8)) [])], [], [], [], [], [], []⟩, ⟨[], [], [], [], [], [], []⟩] [true] ⟨[], [], [], [], [], [1, 5, 7, 8, 9, 10], [], []⟩ [(decide (v10 < ((a1.length : Nat) : Int))) = true, 0 ≤ v10 ∧ v10 < ((a1.length : Nat) : Int), SCall Try.prog 40 [.one (N_trie_Trie.c v9), .agg (T_doormanlaw11_Act.c (a1.getD v10.toNat T_doormanlaw11_Act.d))] (.one (N_trie_Trie.c x7)), 0 ≤ v10 ∧ v10 < ((a1.length : Nat) : Int), SCall Try.prog 40 [.one (N_trie_Trie.c v5), .agg (T_doormanlaw11_Act.c (a1.getD v10.toNat T_doormanlaw11_Act.d))] (.one (N_trie_Trie.c x8))] (by kernel_rfl) ⟨h11, o12, (g_doormanlaw11_does_ok v9 (a1.getD v10.toNat T_doormanlaw11_Act.d) x7 q13), o12, (g_doormanlaw11_does_ok v5 (a1.getD v10.toNat T_doormanlaw11_Act.d) x8 q14), trivial⟩ (ih v7 v8 x7 (add64 v10 (1 : Int)) r hf)
    · obtain ⟨x9, q15, hf⟩ := bind_some' hf
      rcases br_some hf with ⟨h16, hf⟩ | ⟨h16, hf⟩
      · replace hf := Option.some.inj hf
        subst hf
        exact toEnd_good allOk 14 _ _ [⟨[], [], [], [], [], [], []⟩, ⟨[(1, .r (.one (cL 5 T_trie_Hit.c T_trie_Hit.d x9)) [])], [], [], [], [], [], []⟩, ⟨[], [(5, true)], [], [], [], [], []⟩, ⟨[], [], [], [], [], [], []⟩] [false, true] [] [] [] [(decide (v10 < ((a1.length : Nat) : Int))) = false, SCall Try.prog 47 [.one (N_trie_Trie.c v5)] (.one (cL 5 T_trie_Hit.c T_trie_Hit.d x9)), (((x9.length : Nat) : Int) != ((v7.length : Nat) : Int)) = true, true = true] (by kernel_rfl) rfl ⟨h11, (g_trie_Trie_All_ok v5 x9 q15), h16, rfl, trivial⟩
      · obtain ⟨x10, q17, hf⟩ := bind_some' hf
        rcases br_some hf with ⟨h18, hf⟩ | ⟨h18, hf⟩
        · replace hf := Option.some.inj hf
          subst hf
          exact toEnd_good allOk 14 _ _ [⟨[], [], [], [], [], [], []⟩, ⟨[(1, .r (.one (cL 5 T_trie_Hit.c T_trie_Hit.d x9)) [])], [], [], [], [], [], []⟩, ⟨[(7, .r (.one (.lit (.int .i64 x10))) [])], [(5, false)], [], [], [], [], []⟩, ⟨[], [], [], [], [], [], []⟩] [false, true] [] [] [] [(decide (v10 < ((a1.length : Nat) : Int))) = false, SCall Try.prog 47 [.one (N_trie_Trie.c v5)] (.one (cL 5 T_trie_Hit.c T_trie_Hit.d x9)), (((x9.length : Nat) : Int) != ((v7.length : Nat) : Int)) = false, SCall Try.prog 45 [.one (N_trie_Trie.c v5)] (.one (.lit (.int .i64 x10))), (x10 != v8) = true] (by kernel_rfl) rfl ⟨h11, (g_trie_Trie_All_ok v5 x9 q15), h16, (g_trie_Trie_Len_ok v5 x10 q17), h18, trivial⟩
        · exact toK_good allOk Post.ends 17 _ _ _ _ [⟨[], [], [], [], [], [], []⟩, ⟨[(1, .r (.one (cL 5 T_trie_Hit.c T_trie_Hit.d x9)) [])], [], [], [], [], [], []⟩, ⟨[(7, .r (.one (.lit (.int .i64 x10))) [])], [(5, false)], [], [], [], [], []⟩, ⟨[], [], [], [], [], [], []⟩] [false, false] ⟨[], [], [], [], [], [7, 11, 12], [], []⟩ [(decide (v10 < ((a1.length : Nat) : Int))) = false, SCall Try.prog 47 [.one (N_trie_Trie.c v5)] (.one (cL 5 T_trie_Hit.c T_trie_Hit.d x9)), (((x9.length : Nat) : Int) != ((v7.length : Nat) : Int)) = false, SCall Try.prog 45 [.one (N_trie_Trie.c v5)] (.one (.lit (.int .i64 x10))), (x10 != v8) = false] (by kernel_rfl) ⟨h11, (g_trie_Trie_All_ok v5 x9 q15), h16, (g_trie_Trie_Len_ok v5 x10 q17), h18, trivial⟩ (g_doormanlaw11_TrieStays_c2_ok S0 w0 a0 a1 v5 v6 v7 v8 v9 v10 kg_doormanlaw11_TrieStays_c0 (g_doormanlaw11_TrieStays_c1 a0 a1 v5 v6 kg_doormanlaw11_TrieStays_c0 fu) hg_doormanlaw11_TrieStays_c0 ih ((((v7.length : Nat) : Int) - (0 : Int)).toNat + 2) x9 (0 : Int) r hf)

def g_doormanlaw11_TrieStays_c0 (a0 : (List T_doormanlaw11_Act)) (a1 : (List T_doormanlaw11_Act))  : Nat → N_trie_Trie → Int → Option Bool
  | 0, _, _ => none
  | fu + 1, v5, v6 =>
    bif (decide (v6 < ((a0.length : Nat) : Int))) then
      need (0 ≤ v6 ∧ v6 < ((a0.length : Nat) : Int)) <|
      (g_doormanlaw11_does v5 (a0.getD v6.toNat T_doormanlaw11_Act.d)).bind fun x4 =>
      g_doormanlaw11_TrieStays_c0 a0 a1  fu x4 (add64 v6 (1 : Int))
    else
      (g_trie_Trie_All v5).bind fun x5 =>
      (g_trie_Trie_Len v5).bind fun x6 =>
      g_doormanlaw11_TrieStays_c1 a0 a1 v5 v6 (g_doormanlaw11_TrieStays_c0 a0 a1  fu) ((((a1.length : Nat) : Int) - (0 : Int)).toNat + 2) x5 x6 v5 (0 : Int)

theorem g_doormanlaw11_TrieStays_c0_ok (S0 : Nat → Prop) (w0 : Start) (a0 : (List T_doormanlaw11_Act)) (a1 : (List T_doormanlaw11_Act))  : ∀ (fu : Nat) (v5 : N_trie_Trie) (v6 : Int) (r : Bool), g_doormanlaw11_TrieStays_c0 a0 a1  fu v5 v6 = some r → Good Try.prog 93 S0 w0 (bodyPost Try.prog Try.f10 (Post S0 w0 (.one (.lit (.bool r))))) (at_ [1, 1, 1, 0, 1, 0] (bodyOf Try.f10)) ⟨[(0, .one (cL 6 T_doormanlaw11_Act.c T_doormanlaw11_Act.d a0)), (1, .one (cL 6 T_doormanlaw11_Act.c T_doormanlaw11_Act.d a1)), (5, .one (N_trie_Trie.c v5)), (6, .one (.lit (.int .i64 v6)))], []⟩ := by
  intro fu
  induction fu with
  | zero =>
    intro v5 v6 r hf
    simp [g_doormanlaw11_TrieStays_c0] at hf
  | succ fu ih =>
    intro v5 v6 r hf
    unfold g_doormanlaw11_TrieStays_c0 at hf
    rcases br_some hf with ⟨h6, hf⟩ | ⟨h6, hf⟩
    · obtain ⟨o7, hf⟩ := need_some hf
      obtain ⟨x4, q8, hf⟩ := bind_some' hf
      exact toK_good allOk Post.ends 12 _ _ _ _ [⟨[], [], [], [], [], [], []⟩, ⟨[(5, .r (.one (N_trie_Trie.c x4)) [])], [], [], [], [], [], []⟩, ⟨[], [], [], [], [], [], []⟩] [true] ⟨[], [], [], [], [], [0, 1, 5, 6], [], []⟩ [(decide (v6 < ((a0.length : Nat) : Int))) = true, 0 ≤ v6 ∧ v6 < ((a0.length : Nat) : Int), SCall Try.prog 40 [.one (N_trie_Trie.c v5), .agg (T_doormanlaw11_Act.c (a0.getD v6.toNat T_doormanlaw11_Act.d))] (.one (N_trie_Trie.c x4))] (by kernel_rfl) ⟨h6, o7, (g_doormanlaw11_does_ok v5 (a0.getD v6.toNat T_doormanlaw11_Act.d) x4 q8), trivial⟩ (ih x4 (add64 v6 (1 : Int)) r hf)
    · obtain ⟨x5, q9, hf⟩ := bind_some' hf
      obtain ⟨x6, q10, hf⟩ := bind_some' hf
      exact toK_good allOk Post.ends 14 _ _ _ _ [⟨[], [], [], [], [], [], []⟩, ⟨[(1, .r (.one (cL 5 T_trie_Hit.c T_trie_Hit.d x5)) []), (3, .r (.one (.lit (.int .i64 x6))) [])], [], [], [], [], [], []⟩, ⟨[], [], [], [], [], [], []⟩, ⟨[], [], [], [], [], [], []⟩] [false] ⟨[], [], [], [], [], [1, 5, 7, 8, 9, 10], [], []⟩ [(decide (v6 < ((a0.length : Nat) : Int))) = false, SCall Try.prog 47 [.one (N_trie_Trie.c v5)] (.one (cL 5 T_trie_Hit.c T_trie_Hit.d x5)), SCall Try.prog 45 [.one (N_trie_Trie.c v5)] (.one (.lit (.int .i64 x6)))] (by kernel_rfl) ⟨h6, (g_trie_Trie_All_ok v5 x5 q9), (g_trie_Trie_Len_ok v5 x6 q10), trivial⟩ (g_doormanlaw11_TrieStays_c1_ok S0 w0 a0 a1 v5 v6 (g_doormanlaw11_TrieStays_c0 a0 a1  fu) ih ((((a1.length : Nat) : Int) - (0 : Int)).toNat + 2) x5 x6 v5 (0 : Int) r hf)

/-- doorman/doormanlaw11.TrieStays -/
def g_doormanlaw11_TrieStays (a0 : (List T_doormanlaw11_Act)) (a1 : (List T_doormanlaw11_Act)) : Option Bool :=
  bif (decide (((a0.length : Nat) : Int) > (60 : Int))) then
    (g_doormanlaw11_awake).bind fun x1 =>
    some x1
  else
    bif (decide (((a1.length : Nat) : Int) > (60 : Int))) then
      (g_doormanlaw11_awake).bind fun x2 =>
      some x2
    else
      (g_trie_New).bind fun x3 =>
      g_doormanlaw11_TrieStays_c0 a0 a1  ((((a0.length : Nat) : Int) - (0 : Int)).toNat + 2) x3 (0 : Int)

theorem g_doormanlaw11_TrieStays_ok (a0 : (List T_doormanlaw11_Act)) (a1 : (List T_doormanlaw11_Act)) (r : Bool) (hf : g_doormanlaw11_TrieStays a0 a1 = some r) : SCall Try.prog 10 [.one (cL 6 T_doormanlaw11_Act.c T_doormanlaw11_Act.d a0), .one (cL 6 T_doormanlaw11_Act.c T_doormanlaw11_Act.d a1)] (.one (.lit (.bool r))) := by
  refine SCall.of Try.func10 rfl rfl rfl rfl fun S0 w0 => ?_
  unfold g_doormanlaw11_TrieStays at hf
  rcases br_some hf with ⟨h1, hf⟩ | ⟨h1, hf⟩
  · obtain ⟨x1, q2, hf⟩ := bind_some' hf
    replace hf := Option.some.inj hf
    subst hf
    exact toEnd_good allOk 8 _ _ [⟨[], [], [], [], [], [], []⟩, ⟨[], [(3, true)], [], [], [], [], []⟩, ⟨[(0, .r (.one (.lit (.bool x1))) [])], [], [], [], [], [], []⟩] [true] [] [] [] [(decide (((a0.length : Nat) : Int) > (60 : Int))) = true, true = true, SCall Try.prog 38 [] (.one (.lit (.bool x1)))] (by kernel_rfl) rfl ⟨h1, rfl, (g_doormanlaw11_awake_ok  x1 q2), trivial⟩
  · rcases br_some hf with ⟨h3, hf⟩ | ⟨h3, hf⟩
    · obtain ⟨x2, q4, hf⟩ := bind_some' hf
      replace hf := Option.some.inj hf
      subst hf
      exact toEnd_good allOk 8 _ _ [⟨[], [], [], [], [], [], []⟩, ⟨[], [(3, false)], [], [], [], [], []⟩, ⟨[(0, .r (.one (.lit (.bool x2))) [])], [], [], [], [], [], []⟩] [true] [] [] [] [(decide (((a0.length : Nat) : Int) > (60 : Int))) = false, (decide (((a1.length : Nat) : Int) > (60 : Int))) = true, SCall Try.prog 38 [] (.one (.lit (.bool x2)))] (by kernel_rfl) rfl ⟨h1, h3, (g_doormanlaw11_awake_ok  x2 q4), trivial⟩
    · obtain ⟨x3, q5, hf⟩ := bind_some' hf
      exact toK_good allOk Post.ends 13 _ _ _ _ [⟨[], [], [], [], [], [], []⟩, ⟨[], [(3, false)], [], [], [], [], []⟩, ⟨[(0, .r (.one (N_trie_Trie.c x3)) [])], [], [], [], [], [], []⟩, ⟨[], [], [], [], [], [], []⟩] [false] ⟨[], [], [], [], [], [0, 1, 5, 6], [], []⟩ [(decide (((a0.length : Nat) : Int) > (60 : Int))) = false, (decide (((a1.length : Nat) : Int) > (60 : Int))) = false, SCall Try.prog 39 [] (.one (N_trie_Trie.c x3))] (by kernel_rfl) ⟨h1, h3, (g_trie_New_ok  x3 q5), trivial⟩ (g_doormanlaw11_TrieStays_c0_ok S0 w0 a0 a1   ((((a0.length : Nat) : Int) - (0 : Int)).toNat + 2) x3 (0 : Int) r hf)

def g_doormanlaw11_TrieForm_c1 (a0 : (List T_doormanlaw11_Act)) (a1 : Int) (v5 : Int) (kg_doormanlaw11_TrieForm_c0 : Int → Option Bool) : Nat → Int → Option Bool
  | 0, _ => none
  | fu + 1, v6 =>
    bif (decide (v6 < v5)) then
      need (0 ≤ v5 ∧ v5 < ((a0.length : Nat) : Int)) <|
      need (0 ≤ v6 ∧ v6 < ((a0.length : Nat) : Int)) <|
      bif (decide ((a0.getD v5.toNat T_doormanlaw11_Act.d).fNet = (a0.getD v6.toNat T_doormanlaw11_Act.d).fNet)) then
        (g_doormanlaw11_awake).bind fun x3 =>
        some x3
      else
        g_doormanlaw11_TrieForm_c1 a0 a1 v5 kg_doormanlaw11_TrieForm_c0 fu (add64 v6 (1 : Int))
    else
      kg_doormanlaw11_TrieForm_c0 (add64 v5 (1 : Int))

theorem g_doormanlaw11_TrieForm_c1_ok (S0 : Nat → Prop) (w0 : Start) (a0 : (List T_doormanlaw11_Act)) (a1 : Int) (v5 : Int) (kg_doormanlaw11_TrieForm_c0 : Int → Option Bool) (hg_doormanlaw11_TrieForm_c0 : ∀ (v5_ : Int) (r : Bool), kg_doormanlaw11_TrieForm_c0 v5_ = some r → Good Try.prog 134 S0 w0 (bodyPost Try.prog Try.f11 (Post S0 w0 (.one (.lit (.bool r))))) (at_ [1, 1, 0, 1, 0] (bodyOf Try.f11)) ⟨[(0, .one (cL 6 T_doormanlaw11_Act.c T_doormanlaw11_Act.d a0)), (1, .one (.lit (.int .i64 a1))), (5, .one (.lit (.int .i64 v5_)))], []⟩) : ∀ (fu : Nat) (v6 : Int) (r : Bool), g_doormanlaw11_TrieForm_c1 a0 a1 v5 kg_doormanlaw11_TrieForm_c0 fu v6 = some r → Good Try.prog 134 S0 w0 (bodyPost Try.prog Try.f11 (Post S0 w0 (.one (.lit (.bool r))))) (at_ [1, 1, 0, 1, 0, 0, 1, 0, 0, 1, 0] (bodyOf Try.f11)) ⟨[(0, .one (cL 6 T_doormanlaw11_Act.c T_doormanlaw11_Act.d a0)), (1, .one (.lit (.int .i64 a1))), (5, .one (.lit (.int .i64 v5))), (6, .one (.lit (.int .i64 v6)))], []⟩ := by
  intro fu
  induction fu with
  | zero =>
    intro v6 r hf
    simp [g_doormanlaw11_TrieForm_c1] at hf
  | succ fu ih =>
    intro v6 r hf
    unfold g_doormanlaw11_TrieForm_c1 at hf
    rcases br_some hf with ⟨h6, hf⟩ | ⟨h6, hf⟩
    · obtain ⟨o7, hf⟩ := need_some hf
      obtain ⟨o8, hf⟩ := need_some hf
      rcases br_some hf with ⟨h9, hf⟩ | ⟨h9, hf⟩
      · obtain ⟨x3, q10, hf⟩ := bind_some' hf
        replace hf := Option.some.inj hf
        subst hf
        exact toEnd_good allOk 13 _ _ [⟨[], [], [], [], [], [], []⟩, ⟨[(10, .r (.one (.lit (.bool (decide ((a0.getD v5.toNat T_doormanlaw11_Act.d).fNet = (a0.getD v6.toNat T_doormanlaw11_Act.d).fNet))))) [])], [], [], [[], [], [0, 1], [2, 0, 1], [3, 2, 0, 1], [], [], [5, 6], [7, 5, 6], [8, 7, 5, 6], [4, 3, 2, 0, 1, 9, 8, 7, 5, 6]], [], [], []⟩, ⟨[(0, .r (.one (.lit (.bool x3))) [])], [], [], [], [], [], []⟩] [true, true] [] [] [] [(decide (v6 < v5)) = true, 0 ≤ v5 ∧ v5 < ((a0.length : Nat) : Int), 0 ≤ v6 ∧ v6 < ((a0.length : Nat) : Int), ∀ w, (do eqGuard .eql 81 (.tmp 38) (.tmp 43) (.agg #[.bool ((((a0.getD v5.toNat T_doormanlaw11_Act.d).fNet).fAddr).fV6), .int .u64 ((((a0.getD v5.toNat T_doormanlaw11_Act.d).fNet).fAddr).fHi), .int .u64 ((((a0.getD v5.toNat T_doormanlaw11_Act.d).fNet).fAddr).fLo), .int .i64 (((a0.getD v5.toNat T_doormanlaw11_Act.d).fNet).fBits)]) (.agg #[.bool ((((a0.getD v6.toNat T_doormanlaw11_Act.d).fNet).fAddr).fV6), .int .u64 ((((a0.getD v6.toNat T_doormanlaw11_Act.d).fNet).fAddr).fHi), .int .u64 ((((a0.getD v6.toNat T_doormanlaw11_Act.d).fNet).fAddr).fLo), .int .i64 (((a0.getD v6.toNat T_doormanlaw11_Act.d).fNet).fBits)]); binOp .eql 81 (.agg #[.bool ((((a0.getD v5.toNat T_doormanlaw11_Act.d).fNet).fAddr).fV6), .int .u64 ((((a0.getD v5.toNat T_doormanlaw11_Act.d).fNet).fAddr).fHi), .int .u64 ((((a0.getD v5.toNat T_doormanlaw11_Act.d).fNet).fAddr).fLo), .int .i64 (((a0.getD v5.toNat T_doormanlaw11_Act.d).fNet).fBits)]) (.agg #[.bool ((((a0.getD v6.toNat T_doormanlaw11_Act.d).fNet).fAddr).fV6), .int .u64 ((((a0.getD v6.toNat T_doormanlaw11_Act.d).fNet).fAddr).fHi), .int .u64 ((((a0.getD v6.toNat T_doormanlaw11_Act.d).fNet).fAddr).fLo), .int .i64 (((a0.getD v6.toNat T_doormanlaw11_Act.d).fNet).fBits)]) : Sem Value).run Try.prog w = .ok (.bool (decide ((a0.getD v5.toNat T_doormanlaw11_Act.d).fNet = (a0.getD v6.toNat T_doormanlaw11_Act.d).fNet))) w, (decide ((a0.getD v5.toNat T_doormanlaw11_Act.d).fNet = (a0.getD v6.toNat T_doormanlaw11_Act.d).fNet)) = true, SCall Try.prog 38 [] (.one (.lit (.bool x3)))] (by kernel_rfl) rfl ⟨h6, o7, o8, (eql_T_api_Net ((a0.getD v5.toNat T_doormanlaw11_Act.d).fNet) ((a0.getD v6.toNat T_doormanlaw11_Act.d).fNet) _ _), h9, (g_doormanlaw11_awake_ok  x3 q10), trivial⟩
      · exact toK_good allOk Post.ends 15 _ _ _ _ [⟨[], [], [], [], [], [], []⟩, ⟨[(10, .r (.one (.lit (.bool (decide ((a0.getD v5.toNat T_doormanlaw11_Act.d).fNet = (a0.getD v6.toNat T_doormanlaw11_Act.d).fNet))))) [])], [], [], [[], [], [0, 1], [2, 0, 1], [3, 2, 0, 1], [], [], [5, 6], [7, 5, 6], [8, 7, 5, 6], [4, 3, 2, 0, 1, 9, 8, 7, 5, 6]], [], [], []⟩, ⟨[], [], [], [], [], [], []⟩] [true, false] ⟨[], [], [], [], [], [0, 1, 5, 6], [], []⟩ [(decide (v6 < v5)) = true, 0 ≤ v5 ∧ v5 < ((a0.length : Nat) : Int), 0 ≤ v6 ∧ v6 < ((a0.length : Nat) : Int), ∀ w, (do eqGuard .eql 81 (.tmp 38) (.tmp 43) (.agg #[.bool ((((a0.getD v5.toNat T_doormanlaw11_Act.d).fNet).fAddr).fV6), .int .u64 ((((a0.getD v5.toNat T_doormanlaw11_Act.d).fNet).fAddr).fHi), .int .u64 ((((a0.getD v5.toNat T_doormanlaw11_Act.d).fNet).fAddr).fLo), .int .i64 (((a0.getD v5.toNat T_doormanlaw11_Act.d).fNet).fBits)]) (.agg #[.bool ((((a0.getD v6.toNat T_doormanlaw11_Act.d).fNet).fAddr).fV6), .int .u64 ((((a0.getD v6.toNat T_doormanlaw11_Act.d).fNet).fAddr).fHi), .int .u64 ((((a0.getD v6.toNat T_doormanlaw11_Act.d).fNet).fAddr).fLo), .int .i64 (((a0.getD v6.toNat T_doormanlaw11_Act.d).fNet).fBits)]); binOp .eql 81 (.agg #[.bool ((((a0.getD v5.toNat T_doormanlaw11_Act.d).fNet).fAddr).fV6), .int .u64 ((((a0.getD v5.toNat T_doormanlaw11_Act.d).fNet).fAddr).fHi), .int .u64 ((((a0.getD v5.toNat T_doormanlaw11_Act.d).fNet).fAddr).fLo), .int .i64 (((a0.getD v5.toNat T_doormanlaw11_Act.d).fNet).fBits)]) (.agg #[.bool ((((a0.getD v6.toNat T_doormanlaw11_Act.d).fNet).fAddr).fV6), .int .u64 ((((a0.getD v6.toNat T_doormanlaw11_Act.d).fNet).fAddr).fHi), .int .u64 ((((a0.getD v6.toNat T_doormanlaw11_Act.d).fNet).fAddr).fLo), .int .i64 (((a0.getD v6.toNat T_doormanlaw11_Act.d).fNet).fBits)]) : Sem Value).run Try.prog w = .ok (.bool (decide ((a0.getD v5.toNat T_doormanlaw11_Act.d).fNet = (a0.getD v6.toNat T_doormanlaw11_Act.d).fNet))) w, (decide ((a0.getD v5.toNat T_doormanlaw11_Act.d).fNet = (a0.getD v6.toNat T_doormanlaw11_Act.d).fNet)) = false] (by kernel_rfl) ⟨h6, o7, o8, (eql_T_api_Net ((a0.getD v5.toNat T_doormanlaw11_Act.d).fNet) ((a0.getD v6.toNat T_doormanlaw11_Act.d).fNet) _ _), h9, trivial⟩ (ih (add64 v6 (1 : Int)) r hf)
    · exact toK_good allOk Post.ends 9 _ _ _ _ [⟨[], [], [], [], [], [], []⟩, ⟨[], [], [], [], [], [], []⟩] [false] ⟨[], [], [], [], [], [0, 1, 5], [], []⟩ [(decide (v6 < v5)) = false] (by kernel_rfl) ⟨h6, trivial⟩ (hg_doormanlaw11_TrieForm_c0 (add64 v5 (1 : Int)) r hf)

def g_doormanlaw11_TrieForm_c4 (a0 : (List T_doormanlaw11_Act)) (a1 : Int) (v5 : Int) (v1 : Int) (v7 : N_trie_Trie) (v8 : N_trie_Trie) (v9 : Int) (kg_doormanlaw11_TrieForm_c0 : Int → Option Bool) (kg_doormanlaw11_TrieForm_c3 : N_trie_Trie → N_trie_Trie → Int → Option Bool) : Nat → (List T_trie_Hit) → (List T_trie_Hit) → Int → Option Bool
  | 0, _, _, _ => none
  | fu + 1, v11, v12, v13 =>
    bif (decide (v13 < ((v11.length : Nat) : Int))) then
      bif (decide (v13 < ((v12.length : Nat) : Int))) then
        need (0 ≤ v13 ∧ v13 < ((v11.length : Nat) : Int)) <|
        need (0 ≤ v13 ∧ v13 < ((v12.length : Nat) : Int)) <|
        bif (!(decide ((v11.getD v13.toNat T_trie_Hit.d) = (v12.getD v13.toNat T_trie_Hit.d)))) then
          some false
        else
          g_doormanlaw11_TrieForm_c4 a0 a1 v5 v1 v7 v8 v9 kg_doormanlaw11_TrieForm_c0 kg_doormanlaw11_TrieForm_c3 fu v11 v12 (add64 v13 (1 : Int))
      else
        (g_doormanlaw11_awake).bind fun x9 =>
        some x9
    else
      (g_doormanlaw11_awake).bind fun x10 =>
      some x10

theorem g_doormanlaw11_TrieForm_c4_ok (S0 : Nat → Prop) (w0 : Start) (a0 : (List T_doormanlaw11_Act)) (a1 : Int) (v5 : Int) (v1 : Int) (v7 : N_trie_Trie) (v8 : N_trie_Trie) (v9 : Int) (kg_doormanlaw11_TrieForm_c0 : Int → Option Bool) (kg_doormanlaw11_TrieForm_c3 : N_trie_Trie → N_trie_Trie → Int → Option Bool) (hg_doormanlaw11_TrieForm_c0 : ∀ (v5_ : Int) (r : Bool), kg_doormanlaw11_TrieForm_c0 v5_ = some r → Good Try.prog 134 S0 w0 (bodyPost Try.prog Try.f11 (Post S0 w0 (.one (.lit (.bool r))))) (at_ [1, 1, 0, 1, 0] (bodyOf Try.f11)) ⟨[(0, .one (cL 6 T_doormanlaw11_Act.c T_doormanlaw11_Act.d a0)), (1, .one (.lit (.int .i64 a1))), (5, .one (.lit (.int .i64 v5_)))], []⟩) (hg_doormanlaw11_TrieForm_c3 : ∀ (v7_ : N_trie_Trie) (v8_ : N_trie_Trie) (v9_ : Int) (r : Bool), kg_doormanlaw11_TrieForm_c3 v7_ v8_ v9_ = some r → Good Try.prog 134 S0 w0 (bodyPost Try.prog Try.f11 (Post S0 w0 (.one (.lit (.bool r))))) (at_ [1, 1, 1, 1, 1, 0, 1, 0] (bodyOf Try.f11)) ⟨[(0, .one (cL 6 T_doormanlaw11_Act.c T_doormanlaw11_Act.d a0)), (1, .one (.lit (.int .i64 v1))), (7, .one (N_trie_Trie.c v7_)), (8, .one (N_trie_Trie.c v8_)), (9, .one (.lit (.int .i64 v9_)))], []⟩) : ∀ (fu : Nat) (v11 : (List T_trie_Hit)) (v12 : (List T_trie_Hit)) (v13 : Int) (r : Bool), g_doormanlaw11_TrieForm_c4 a0 a1 v5 v1 v7 v8 v9 kg_doormanlaw11_TrieForm_c0 kg_doormanlaw11_TrieForm_c3 fu v11 v12 v13 = some r → Good Try.prog 134 S0 w0 (bodyPost Try.prog Try.f11 (Post S0 w0 (.one (.lit (.bool r))))) (at_ [1, 1, 1, 1, 1, 1, 1, 1, 0, 1, 0] (bodyOf Try.f11)) ⟨[(11, .one (cL 5 T_trie_Hit.c T_trie_Hit.d v11)), (12, .one (cL 5 T_trie_Hit.c T_trie_Hit.d v12)), (13, .one (.lit (.int .i64 v13)))], []⟩ := by
  intro fu
  induction fu with
  | zero =>
    intro v11 v12 v13 r hf
    simp [g_doormanlaw11_TrieForm_c4] at hf
  | succ fu ih =>
    intro v11 v12 v13 r hf
    unfold g_doormanlaw11_TrieForm_c4 at hf
    rcases br_some hf with ⟨h19, hf⟩ | ⟨h19, hf⟩
    · rcases br_some hf with ⟨h20, hf⟩ | ⟨h20, hf⟩
      · obtain ⟨o21, hf⟩ := need_some hf
        obtain ⟨o22, hf⟩ := need_some hf
        rcases br_some hf with ⟨h23, hf⟩ | ⟨h23, hf⟩
        · replace hf := Option.some.inj hf
          subst hf
          exact toEnd_good allOk 13 _ _ [⟨[], [(4, true)], [], [], [], [], []⟩, ⟨[(8, .r (.one (.lit (.bool (!(decide ((v11.getD v13.toNat T_trie_Hit.d) = (v12.getD v13.toNat T_trie_Hit.d))))))) [])], [], [], [[], [], [0, 1], [2, 0, 1], [], [], [4, 5], [6, 4, 5], [3, 2, 0, 1, 7, 6, 4, 5]], [], [], []⟩, ⟨[], [], [], [], [], [], []⟩] [true, true] [] [] [] [(decide (v13 < ((v11.length : Nat) : Int))) = true, (decide (v13 < ((v12.length : Nat) : Int))) = true, 0 ≤ v13 ∧ v13 < ((v11.length : Nat) : Int), 0 ≤ v13 ∧ v13 < ((v12.length : Nat) : Int), ∀ w, (do eqGuard .neq 101 (.tmp 127) (.tmp 131) (.agg #[.bool ((((v11.getD v13.toNat T_trie_Hit.d).fNet).fAddr).fV6), .int .u64 ((((v11.getD v13.toNat T_trie_Hit.d).fNet).fAddr).fHi), .int .u64 ((((v11.getD v13.toNat T_trie_Hit.d).fNet).fAddr).fLo), .int .i64 (((v11.getD v13.toNat T_trie_Hit.d).fNet).fBits), .int .i64 ((v11.getD v13.toNat T_trie_Hit.d).fV)]) (.agg #[.bool ((((v12.getD v13.toNat T_trie_Hit.d).fNet).fAddr).fV6), .int .u64 ((((v12.getD v13.toNat T_trie_Hit.d).fNet).fAddr).fHi), .int .u64 ((((v12.getD v13.toNat T_trie_Hit.d).fNet).fAddr).fLo), .int .i64 (((v12.getD v13.toNat T_trie_Hit.d).fNet).fBits), .int .i64 ((v12.getD v13.toNat T_trie_Hit.d).fV)]); binOp .neq 101 (.agg #[.bool ((((v11.getD v13.toNat T_trie_Hit.d).fNet).fAddr).fV6), .int .u64 ((((v11.getD v13.toNat T_trie_Hit.d).fNet).fAddr).fHi), .int .u64 ((((v11.getD v13.toNat T_trie_Hit.d).fNet).fAddr).fLo), .int .i64 (((v11.getD v13.toNat T_trie_Hit.d).fNet).fBits), .int .i64 ((v11.getD v13.toNat T_trie_Hit.d).fV)]) (.agg #[.bool ((((v12.getD v13.toNat T_trie_Hit.d).fNet).fAddr).fV6), .int .u64 ((((v12.getD v13.toNat T_trie_Hit.d).fNet).fAddr).fHi), .int .u64 ((((v12.getD v13.toNat T_trie_Hit.d).fNet).fAddr).fLo), .int .i64 (((v12.getD v13.toNat T_trie_Hit.d).fNet).fBits), .int .i64 ((v12.getD v13.toNat T_trie_Hit.d).fV)]) : Sem Value).run Try.prog w = .ok (.bool (!(decide ((v11.getD v13.toNat T_trie_Hit.d) = (v12.getD v13.toNat T_trie_Hit.d))))) w, (!(decide ((v11.getD v13.toNat T_trie_Hit.d) = (v12.getD v13.toNat T_trie_Hit.d)))) = true] (by kernel_rfl) rfl ⟨h19, h20, o21, o22, (neq_T_trie_Hit (v11.getD v13.toNat T_trie_Hit.d) (v12.getD v13.toNat T_trie_Hit.d) _ _), h23, trivial⟩
        · exact toK_good allOk Post.ends 15 _ _ _ _ [⟨[], [(4, true)], [], [], [], [], []⟩, ⟨[(8, .r (.one (.lit (.bool (!(decide ((v11.getD v13.toNat T_trie_Hit.d) = (v12.getD v13.toNat T_trie_Hit.d))))))) [])], [], [], [[], [], [0, 1], [2, 0, 1], [], [], [4, 5], [6, 4, 5], [3, 2, 0, 1, 7, 6, 4, 5]], [], [], []⟩, ⟨[], [], [], [], [], [], []⟩] [true, false] ⟨[], [], [], [], [], [11, 12, 13], [], []⟩ [(decide (v13 < ((v11.length : Nat) : Int))) = true, (decide (v13 < ((v12.length : Nat) : Int))) = true, 0 ≤ v13 ∧ v13 < ((v11.length : Nat) : Int), 0 ≤ v13 ∧ v13 < ((v12.length : Nat) : Int), ∀ w, (do eqGuard .neq 101 (.tmp 127) (.tmp 131) (.agg #[.bool ((((v11.getD v13.toNat T_trie_Hit.d).fNet).fAddr).fV6), .int .u64 ((((v11.getD v13.toNat T_trie_Hit.d).fNet).fAddr).fHi), .int .u64 ((((v11.getD v13.toNat T_trie_Hit.d).fNet).fAddr).fLo), .int .i64 (((v11.getD v13.toNat T_trie_Hit.d).fNet).fBits), .int .i64 ((v11.getD v13.toNat T_trie_Hit.d).fV)]) (.agg #[.bool ((((v12.getD v13.toNat T_trie_Hit.d).fNet).fAddr).fV6), .int .u64 ((((v12.getD v13.toNat T_trie_Hit.d).fNet).fAddr).fHi), .int .u64 ((((v12.getD v13.toNat T_trie_Hit.d).fNet).fAddr).fLo), .int .i64 (((v12.getD v13.toNat T_trie_Hit.d).fNet).fBits), .int .i64 ((v12.getD v13.toNat T_trie_Hit.d).fV)]); binOp .neq 101 (.agg #[.bool ((((v11.getD v13.toNat T_trie_Hit.d).fNet).fAddr).fV6), .int .u64 ((((v11.getD v13.toNat T_trie_Hit.d).fNet).fAddr).fHi), .int .u64 ((((v11.getD v13.toNat T_trie_Hit.d).fNet).fAddr).fLo), .int .i64 (((v11.getD v13.toNat T_trie_Hit.d).fNet).fBits), .int .i64 ((v11.getD v13.toNat T_trie_Hit.d).fV)]) (.agg #[.bool ((((v12.getD v13.toNat T_trie_Hit.d).fNet).fAddr).fV6), .int .u64 ((((v12.getD v13.toNat T_trie_Hit.d).fNet).fAddr).fHi), .int .u64 ((((v12.getD v13.toNat T_trie_Hit.d).fNet).fAddr).fLo), .int .i64 (((v12.getD v13.toNat T_trie_Hit.d).fNet).fBits), .int .i64 ((v12.getD v13.toNat T_trie_Hit.d).fV)]) : Sem Value).run Try.prog w = .ok (.bool (!(decide ((v11.getD v13.toNat T_trie_Hit.d) = (v12.getD v13.toNat T_trie_Hit.d))))) w, (!(decide ((v11.getD v13.toNat T_trie_Hit.d) = (v12.getD v13.toNat T_trie_Hit.d)))) = false] (by kernel_rfl) ⟨h19, h20, o21, o22, (neq_T_trie_Hit (v11.getD v13.toNat T_trie_Hit.d) (v12.getD v13.toNat T_trie_Hit.d) _ _), h23, trivial⟩ (ih v11 v12 (add64 v13 (1 : Int)) r hf)
      · obtain ⟨x9, q24, hf⟩ := bind_some' hf
        replace hf := Option.some.inj hf
        subst hf
        exact toEnd_good allOk 8 _ _ [⟨[], [(4, true)], [], [], [], [], []⟩, ⟨[(0, .r (.one (.lit (.bool x9))) [])], [], [], [], [], [], []⟩] [false] [] [] [] [(decide (v13 < ((v11.length : Nat) : Int))) = true, (decide (v13 < ((v12.length : Nat) : Int))) = false, SCall Try.prog 38 [] (.one (.lit (.bool x9)))] (by kernel_rfl) rfl ⟨h19, h20, (g_doormanlaw11_awake_ok  x9 q24), trivial⟩
    · obtain ⟨x10, q25, hf⟩ := bind_some' hf
      replace hf := Option.some.inj hf
      subst hf
      exact toEnd_good allOk 8 _ _ [⟨[], [(4, false)], [], [], [], [], []⟩, ⟨[(0, .r (.one (.lit (.bool x10))) [])], [], [], [], [], [], []⟩] [false] [] [] [] [(decide (v13 < ((v11.length : Nat) : Int))) = false, false = false, SCall Try.prog 38 [] (.one (.lit (.bool x10)))] (by kernel_rfl) rfl ⟨h19, rfl, (g_doormanlaw11_awake_ok  x10 q25), trivial⟩

def g_doormanlaw11_TrieForm_c3 (a0 : (List T_doormanlaw11_Act)) (a1 : Int) (v5 : Int) (v1 : Int) (kg_doormanlaw11_TrieForm_c0 : Int → Option Bool) : Nat → N_trie_Trie → N_trie_Trie → Int → Option Bool
  | 0, _, _, _ => none
  | fu + 1, v7, v8, v9 =>
    bif (decide (v9 < ((a0.length : Nat) : Int))) then
      need (0 ≤ v9 ∧ v9 < ((a0.length : Nat) : Int)) <|
      (g_trie_Trie_With v7 ((a0.getD v9.toNat T_doormanlaw11_Act.d).fNet) ((a0.getD v9.toNat T_doormanlaw11_Act.d).fV)).bind fun x4 =>
      need (((a0.length : Nat) : Int) ≠ 0) <|
      need (0 ≤ (sub64 (sub64 ((a0.length : Nat) : Int) (1 : Int)) (Int.tmod (add64 v9 v1) ((a0.length : Nat) : Int))) ∧ (sub64 (sub64 ((a0.length : Nat) : Int) (1 : Int)) (Int.tmod (add64 v9 v1) ((a0.length : Nat) : Int))) < ((a0.length : Nat) : Int)) <|
      (g_trie_Trie_With v8 ((a0.getD (sub64 (sub64 ((a0.length : Nat) : Int) (1 : Int)) (Int.tmod (add64 v9 v1) ((a0.length : Nat) : Int))).toNat T_doormanlaw11_Act.d).fNet) ((a0.getD (sub64 (sub64 ((a0.length : Nat) : Int) (1 : Int)) (Int.tmod (add64 v9 v1) ((a0.length : Nat) : Int))).toNat T_doormanlaw11_Act.d).fV)).bind fun x5 =>
      g_doormanlaw11_TrieForm_c3 a0 a1 v5 v1 kg_doormanlaw11_TrieForm_c0 fu x4 x5 (add64 v9 (1 : Int))
    else
      (g_trie_Trie_All v7).bind fun x6 =>
      (g_trie_Trie_All v8).bind fun x7 =>
      bif (((x6.length : Nat) : Int) != ((x7.length : Nat) : Int)) then
        some false
      else
        (g_trie_Trie_Len v7).bind fun x8 =>
        bif (x8 != ((x6.length : Nat) : Int)) then
          some false
        else
          g_doormanlaw11_TrieForm_c4 a0 a1 v5 v1 v7 v8 v9 kg_doormanlaw11_TrieForm_c0 (g_doormanlaw11_TrieForm_c3 a0 a1 v5 v1 kg_doormanlaw11_TrieForm_c0 fu) ((((x7.length : Nat) : Int) - (0 : Int)).toNat + 2) x6 x7 (0 : Int)

theorem g_doormanlaw11_TrieForm_c3_ok (S0 : Nat → Prop) (w0 : Start) (a0 : (List T_doormanlaw11_Act)) (a1 : Int) (v5 : Int) (v1 : Int) (kg_doormanlaw11_TrieForm_c0 : Int → Option Bool) (hg_doormanlaw11_TrieForm_c0 : ∀ (v5_ : Int) (r : Bool), kg_doormanlaw11_TrieForm_c0 v5_ = some r → Good Try.prog 134 S0 w0 (bodyPost Try.prog Try.f11 (Post S0 w0 (.one (.lit (.bool r))))) (at_ [1, 1, 0, 1, 0] (bodyOf Try.f11)) ⟨[(0, .one (cL 6 T_doormanlaw11_Act.c T_doormanlaw11_Act.d a0)), (1, .one (.lit (.int .i64 a1))), (5, .one (.lit (.int .i64 v5_)))], []⟩) : ∀ (fu : Nat) (v7 : N_trie_Trie) (v8 : N_trie_Trie) (v9 : Int) (r : Bool), g_doormanlaw11_TrieForm_c3 a0 a1 v5 v1 kg_doormanlaw11_TrieForm_c0 fu v7 v8 v9 = some r → Good Try.prog 134 S0 w0 (bodyPost Try.prog Try.f11 (Post S0 w0 (.one (.lit (.bool r))))) (at_ [1, 1, 1, 1, 1, 0, 1, 0] (bodyOf Try.f11)) ⟨[(0, .one (cL 6 T_doormanlaw11_Act.c T_doormanlaw11_Act.d a0)), (1, .one (.lit (.int .i64 v1))), (7, .one (N_trie_Trie.c v7)), (8, .one (N_trie_Trie.c v8)), (9, .one (.lit (.int .i64 v9)))], []⟩ := by
  intro fu
  induction fu with
  | zero =>
    intro v7 v8 v9 r hf
    simp [g_doormanlaw11_TrieForm_c3] at hf
  | succ fu ih =>
    intro v7 v8 v9 r hf
    unfold g_doormanlaw11_TrieForm_c3 at hf
    rcases br_some hf with ⟨h8, hf⟩ | ⟨h8, hf⟩
    · obtain ⟨o9, hf⟩ := need_some hf
      obtain ⟨x4, q10, hf⟩ := bind_some' hf
      obtain ⟨o11, hf⟩ := need_some hf
      obtain ⟨o12, hf⟩ := need_some hf
      obtain ⟨x5, q13, hf⟩ := bind_some' hf
      exact toK_good allOk Post.ends 16 _ _ _ _ [⟨[], [], [], [], [], [], []⟩, ⟨[(11, .r (.one (N_trie_Trie.c x4)) [])], [], [], [[], [], [], [1, 2], [3, 1, 2], [4, 3, 1, 2], [], [], [6, 7], [8, 6, 7], [9, 8, 6, 7], [0, 5, 4, 3, 1, 2, 10, 9, 8, 6, 7], [11, 0, 5, 4, 3, 1, 2, 10, 9, 8, 6, 7]], [], [], []⟩, ⟨[], [], [], [], [], [], []⟩, ⟨[(11, .r (.one (N_trie_Trie.c x5)) [])], [], [], [[], [], [], [1, 2], [3, 1, 2], [4, 3, 1, 2], [], [], [6, 7], [8, 6, 7], [9, 8, 6, 7], [0, 5, 4, 3, 1, 2, 10, 9, 8, 6, 7], [11, 0, 5, 4, 3, 1, 2, 10, 9, 8, 6, 7]], [], [], []⟩, ⟨[], [], [], [], [], [], []⟩] [true] ⟨[], [], [], [], [], [0, 1, 7, 8, 9], [], []⟩ [(decide (v9 < ((a0.length : Nat) : Int))) = true, 0 ≤ v9 ∧ v9 < ((a0.length : Nat) : Int), 0 ≤ v9 ∧ v9 < ((a0.length : Nat) : Int), SCall Try.prog 50 [.one (N_trie_Trie.c v7), .agg (T_api_Net.c ((a0.getD v9.toNat T_doormanlaw11_Act.d).fNet)), .one (.lit (.int .i64 ((a0.getD v9.toNat T_doormanlaw11_Act.d).fV)))] (.one (N_trie_Trie.c x4)), ((a0.length : Nat) : Int) ≠ 0, 0 ≤ (sub64 (sub64 ((a0.length : Nat) : Int) (1 : Int)) (Int.tmod (add64 v9 v1) ((a0.length : Nat) : Int))) ∧ (sub64 (sub64 ((a0.length : Nat) : Int) (1 : Int)) (Int.tmod (add64 v9 v1) ((a0.length : Nat) : Int))) < ((a0.length : Nat) : Int), 0 ≤ (sub64 (sub64 ((a0.length : Nat) : Int) (1 : Int)) (Int.tmod (add64 v9 v1) ((a0.length : Nat) : Int))) ∧ (sub64 (sub64 ((a0.length : Nat) : Int) (1 : Int)) (Int.tmod (add64 v9 v1) ((a0.length : Nat) : Int))) < ((a0.length : Nat) : Int), SCall Try.prog 50 [.one (N_trie_Trie.c v8), .agg (T_api_Net.c ((a0.getD (sub64 (sub64 ((a0.length : Nat) : Int) (1 : Int)) (Int.tmod (add64 v9 v1) ((a0.length : Nat) : Int))).toNat T_doormanlaw11_Act.d).fNet)), .one (.lit (.int .i64 ((a0.getD (sub64 (sub64 ((a0.length : Nat) : Int) (1 : Int)) (Int.tmod (add64 v9 v1) ((a0.length : Nat) : Int))).toNat T_doormanlaw11_Act.d).fV)))] (.one (N_trie_Trie.c x5))] (by kernel_rfl) ⟨h8, o9, o9, (g_trie_Trie_With_ok v7 ((a0.getD v9.toNat T_doormanlaw11_Act.d).fNet) ((a0.getD v9.toNat T_doormanlaw11_Act.d).fV) x4 q10), o11, o12, o12, (g_trie_Trie_With_ok v8 ((a0.getD (sub64 (sub64 ((a0.length : Nat) : Int) (1 : Int)) (Int.tmod (add64 v9 v1) ((a0.length : Nat) : Int))).toNat T_doormanlaw11_Act.d).fNet) ((a0.getD (sub64 (sub64 ((a0.length : Nat) : Int) (1 : Int)) (Int.tmod (add64 v9 v1) ((a0.length : Nat) : Int))).toNat T_doormanlaw11_Act.d).fV) x5 q13), trivial⟩ (ih x4 x5 (add64 v9 (1 : Int)) r hf)
    · obtain ⟨x6, q14, hf⟩ := bind_some' hf
      obtain ⟨x7, q15, hf⟩ := bind_some' hf
      rcases br_some hf with ⟨h16, hf⟩ | ⟨h16, hf⟩
      · replace hf := Option.some.inj hf
        subst hf
        exact toEnd_good allOk 14 _ _ [⟨[], [], [], [], [], [], []⟩, ⟨[(1, .r (.one (cL 5 T_trie_Hit.c T_trie_Hit.d x6)) []), (3, .r (.one (cL 5 T_trie_Hit.c T_trie_Hit.d x7)) [])], [], [], [], [], [], []⟩, ⟨[], [(5, true)], [], [], [], [], []⟩, ⟨[], [], [], [], [], [], []⟩] [false, true] [] [] [] [(decide (v9 < ((a0.length : Nat) : Int))) = false, SCall Try.prog 47 [.one (N_trie_Trie.c v7)] (.one (cL 5 T_trie_Hit.c T_trie_Hit.d x6)), SCall Try.prog 47 [.one (N_trie_Trie.c v8)] (.one (cL 5 T_trie_Hit.c T_trie_Hit.d x7)), (((x6.length : Nat) : Int) != ((x7.length : Nat) : Int)) = true, true = true] (by kernel_rfl) rfl ⟨h8, (g_trie_Trie_All_ok v7 x6 q14), (g_trie_Trie_All_ok v8 x7 q15), h16, rfl, trivial⟩
      · obtain ⟨x8, q17, hf⟩ := bind_some' hf
        rcases br_some hf with ⟨h18, hf⟩ | ⟨h18, hf⟩
        · replace hf := Option.some.inj hf
          subst hf
          exact toEnd_good allOk 14 _ _ [⟨[], [], [], [], [], [], []⟩, ⟨[(1, .r (.one (cL 5 T_trie_Hit.c T_trie_Hit.d x6)) []), (3, .r (.one (cL 5 T_trie_Hit.c T_trie_Hit.d x7)) [])], [], [], [], [], [], []⟩, ⟨[(7, .r (.one (.lit (.int .i64 x8))) [])], [(5, false)], [], [], [], [], []⟩, ⟨[], [], [], [], [], [], []⟩] [false, true] [] [] [] [(decide (v9 < ((a0.length : Nat) : Int))) = false, SCall Try.prog 47 [.one (N_trie_Trie.c v7)] (.one (cL 5 T_trie_Hit.c T_trie_Hit.d x6)), SCall Try.prog 47 [.one (N_trie_Trie.c v8)] (.one (cL 5 T_trie_Hit.c T_trie_Hit.d x7)), (((x6.length : Nat) : Int) != ((x7.length : Nat) : Int)) = false, SCall Try.prog 45 [.one (N_trie_Trie.c v7)] (.one (.lit (.int .i64 x8))), (x8 != ((x6.length : Nat) : Int)) = true] (by kernel_rfl) rfl ⟨h8, (g_trie_Trie_All_ok v7 x6 q14), (g_trie_Trie_All_ok v8 x7 q15), h16, (g_trie_Trie_Len_ok v7 x8 q17), h18, trivial⟩
        · exact toK_good allOk Post.ends 17 _ _ _ _ [⟨[], [], [], [], [], [], []⟩, ⟨[(1, .r (.one (cL 5 T_trie_Hit.c T_trie_Hit.d x6)) []), (3, .r (.one (cL 5 T_trie_Hit.c T_trie_Hit.d x7)) [])], [], [], [], [], [], []⟩, ⟨[(7, .r (.one (.lit (.int .i64 x8))) [])], [(5, false)], [], [], [], [], []⟩, ⟨[], [], [], [], [], [], []⟩] [false, false] ⟨[], [], [], [], [], [11, 12, 13], [], []⟩ [(decide (v9 < ((a0.length : Nat) : Int))) = false, SCall Try.prog 47 [.one (N_trie_Trie.c v7)] (.one (cL 5 T_trie_Hit.c T_trie_Hit.d x6)), SCall Try.prog 47 [.one (N_trie_Trie.c v8)] (.one (cL 5 T_trie_Hit.c T_trie_Hit.d x7)), (((x6.length : Nat) : Int) != ((x7.length : Nat) : Int)) = false, SCall Try.prog 45 [.one (N_trie_Trie.c v7)] (.one (.lit (.int .i64 x8))), (x8 != ((x6.length : Nat) : Int)) = false] (by kernel_rfl) ⟨h8, (g_trie_Trie_All_ok v7 x6 q14), (g_trie_Trie_All_ok v8 x7 q15), h16, (g_trie_Trie_Len_ok v7 x8 q17), h18, trivial⟩ (g_doormanlaw11_TrieForm_c4_ok S0 w0 a0 a1 v5 v1 v7 v8 v9 kg_doormanlaw11_TrieForm_c0 (g_doormanlaw11_TrieForm_c3 a0 a1 v5 v1 kg_doormanlaw11_TrieForm_c0 fu) hg_doormanlaw11_TrieForm_c0 ih ((((x7.length : Nat) : Int) - (0 : Int)).toNat + 2) x6 x7 (0 : Int) r hf)

def g_doormanlaw11_TrieForm_c2 (a0 : (List T_doormanlaw11_Act)) (a1 : Int) (v5 : Int) (kg_doormanlaw11_TrieForm_c0 : Int → Option Bool) (v1 : Int) : Option Bool :=
  (g_trie_New).bind fun x3 =>
  g_doormanlaw11_TrieForm_c3 a0 a1 v5 v1 kg_doormanlaw11_TrieForm_c0 ((((a0.length : Nat) : Int) - (0 : Int)).toNat + 2) x3 x3 (0 : Int)

theorem g_doormanlaw11_TrieForm_c2_ok (S0 : Nat → Prop) (w0 : Start) (a0 : (List T_doormanlaw11_Act)) (a1 : Int) (v5 : Int) (kg_doormanlaw11_TrieForm_c0 : Int → Option Bool) (hg_doormanlaw11_TrieForm_c0 : ∀ (v5_ : Int) (r : Bool), kg_doormanlaw11_TrieForm_c0 v5_ = some r → Good Try.prog 134 S0 w0 (bodyPost Try.prog Try.f11 (Post S0 w0 (.one (.lit (.bool r))))) (at_ [1, 1, 0, 1, 0] (bodyOf Try.f11)) ⟨[(0, .one (cL 6 T_doormanlaw11_Act.c T_doormanlaw11_Act.d a0)), (1, .one (.lit (.int .i64 a1))), (5, .one (.lit (.int .i64 v5_)))], []⟩) (v1 : Int) (r : Bool) (hf : g_doormanlaw11_TrieForm_c2 a0 a1 v5 kg_doormanlaw11_TrieForm_c0 v1 = some r) : Good Try.prog 134 S0 w0 (bodyPost Try.prog Try.f11 (Post S0 w0 (.one (.lit (.bool r))))) (at_ [1, 1, 1, 1] (bodyOf Try.f11)) ⟨[(0, .one (cL 6 T_doormanlaw11_Act.c T_doormanlaw11_Act.d a0)), (1, .one (.lit (.int .i64 v1)))], []⟩ := by
  unfold g_doormanlaw11_TrieForm_c2 at hf
  obtain ⟨x3, q7, hf⟩ := bind_some' hf
  exact toK_good allOk Post.ends 6 _ _ _ _ [⟨[(0, .r (.one (N_trie_Trie.c x3)) []), (1, .r (.one (N_trie_Trie.c x3)) [])], [], [], [], [], [], []⟩, ⟨[], [], [], [], [], [], []⟩] [] ⟨[], [], [], [], [], [0, 1, 7, 8, 9], [], []⟩ [SCall Try.prog 39 [] (.one (N_trie_Trie.c x3)), SCall Try.prog 39 [] (.one (N_trie_Trie.c x3))] (by kernel_rfl) ⟨(g_trie_New_ok  x3 q7), (g_trie_New_ok  x3 q7), trivial⟩ (g_doormanlaw11_TrieForm_c3_ok S0 w0 a0 a1 v5 v1 kg_doormanlaw11_TrieForm_c0 hg_doormanlaw11_TrieForm_c0 ((((a0.length : Nat) : Int) - (0 : Int)).toNat + 2) x3 x3 (0 : Int) r hf)

def g_doormanlaw11_TrieForm_c0 (a0 : (List T_doormanlaw11_Act)) (a1 : Int)  : Nat → Int → Option Bool
  | 0, _ => none
  | fu + 1, v5 =>
    bif (decide (v5 < ((a0.length : Nat) : Int))) then
      g_doormanlaw11_TrieForm_c1 a0 a1 v5 (g_doormanlaw11_TrieForm_c0 a0 a1  fu) ((v5 - (0 : Int)).toNat + 2) (0 : Int)
    else
      bif (decide (a1 < (0 : Int))) then
        g_doormanlaw11_TrieForm_c2 a0 a1 v5 (g_doormanlaw11_TrieForm_c0 a0 a1  fu) (0 : Int)
      else
        bif (decide (a1 ≥ ((a0.length : Nat) : Int))) then
          g_doormanlaw11_TrieForm_c2 a0 a1 v5 (g_doormanlaw11_TrieForm_c0 a0 a1  fu) (0 : Int)
        else
          g_doormanlaw11_TrieForm_c2 a0 a1 v5 (g_doormanlaw11_TrieForm_c0 a0 a1  fu) a1

theorem g_doormanlaw11_TrieForm_c0_ok (S0 : Nat → Prop) (w0 : Start) (a0 : (List T_doormanlaw11_Act)) (a1 : Int)  : ∀ (fu : Nat) (v5 : Int) (r : Bool), g_doormanlaw11_TrieForm_c0 a0 a1  fu v5 = some r → Good Try.prog 134 S0 w0 (bodyPost Try.prog Try.f11 (Post S0 w0 (.one (.lit (.bool r))))) (at_ [1, 1, 0, 1, 0] (bodyOf Try.f11)) ⟨[(0, .one (cL 6 T_doormanlaw11_Act.c T_doormanlaw11_Act.d a0)), (1, .one (.lit (.int .i64 a1))), (5, .one (.lit (.int .i64 v5)))], []⟩ := by
  intro fu
  induction fu with
  | zero =>
    intro v5 r hf
    simp [g_doormanlaw11_TrieForm_c0] at hf
  | succ fu ih =>
    intro v5 r hf
    unfold g_doormanlaw11_TrieForm_c0 at hf
    rcases br_some hf with ⟨h5, hf⟩ | ⟨h5, hf⟩
    · exact toK_good allOk Post.ends 11 _ _ _ _ [⟨[], [], [], [], [], [], []⟩, ⟨[], [], [], [], [], [], []⟩] [true] ⟨[], [], [], [], [], [0, 1, 5, 6], [], []⟩ [(decide (v5 < ((a0.length : Nat) : Int))) = true] (by kernel_rfl) ⟨h5, trivial⟩ (g_doormanlaw11_TrieForm_c1_ok S0 w0 a0 a1 v5 (g_doormanlaw11_TrieForm_c0 a0 a1  fu) ih ((v5 - (0 : Int)).toNat + 2) (0 : Int) r hf)
    · rcases br_some hf with ⟨h6, hf⟩ | ⟨h6, hf⟩
      · exact toK_good allOk Post.ends 11 _ _ _ _ [⟨[], [], [], [], [], [], []⟩, ⟨[], [(2, true)], [], [], [], [], []⟩, ⟨[], [], [], [], [], [], []⟩] [false, true] ⟨[], [], [], [], [], [0, 1], [], []⟩ [(decide (v5 < ((a0.length : Nat) : Int))) = false, (decide (a1 < (0 : Int))) = true, true = true] (by kernel_rfl) ⟨h5, h6, rfl, trivial⟩ (g_doormanlaw11_TrieForm_c2_ok S0 w0 a0 a1 v5 (g_doormanlaw11_TrieForm_c0 a0 a1  fu) ih (0 : Int) r hf)
      · rcases br_some hf with ⟨h7, hf⟩ | ⟨h7, hf⟩
        · exact toK_good allOk Post.ends 11 _ _ _ _ [⟨[], [], [], [], [], [], []⟩, ⟨[], [(2, false)], [], [], [], [], []⟩, ⟨[], [], [], [], [], [], []⟩] [false, true] ⟨[], [], [], [], [], [0, 1], [], []⟩ [(decide (v5 < ((a0.length : Nat) : Int))) = false, (decide (a1 < (0 : Int))) = false, (decide (a1 ≥ ((a0.length : Nat) : Int))) = true] (by kernel_rfl) ⟨h5, h6, h7, trivial⟩ (g_doormanlaw11_TrieForm_c2_ok S0 w0 a0 a1 v5 (g_doormanlaw11_TrieForm_c0 a0 a1  fu) ih (0 : Int) r hf)
        · exact toK_good allOk Post.ends 11 _ _ _ _ [⟨[], [], [], [], [], [], []⟩, ⟨[], [(2, false)], [], [], [], [], []⟩] [false, false] ⟨[], [], [], [], [], [0, 1], [], []⟩ [(decide (v5 < ((a0.length : Nat) : Int))) = false, (decide (a1 < (0 : Int))) = false, (decide (a1 ≥ ((a0.length : Nat) : Int))) = false] (by kernel_rfl) ⟨h5, h6, h7, trivial⟩ (g_doormanlaw11_TrieForm_c2_ok S0 w0 a0 a1 v5 (g_doormanlaw11_TrieForm_c0 a0 a1  fu) ih a1 r hf)

/-- doorman/doormanlaw11.TrieForm -/
def g_doormanlaw11_TrieForm (a0 : (List T_doormanlaw11_Act)) (a1 : Int) : Option Bool :=
  bif (decide (((a0.length : Nat) : Int) > (60 : Int))) then
    (g_doormanlaw11_awake).bind fun x1 =>
    some x1
  else
    bif (((a0.length : Nat) : Int) == (0 : Int)) then
      (g_doormanlaw11_awake).bind fun x2 =>
      some x2
    else
      g_doormanlaw11_TrieForm_c0 a0 a1  ((((a0.length : Nat) : Int) - (0 : Int)).toNat + 2) (0 : Int)

theorem g_doormanlaw11_TrieForm_ok (a0 : (List T_doormanlaw11_Act)) (a1 : Int) (r : Bool) (hf : g_doormanlaw11_TrieForm a0 a1 = some r) : SCall Try.prog 11 [.one (cL 6 T_doormanlaw11_Act.c T_doormanlaw11_Act.d a0), .one (.lit (.int .i64 a1))] (.one (.lit (.bool r))) := by
  refine SCall.of Try.func11 rfl rfl rfl rfl fun S0 w0 => ?_
  unfold g_doormanlaw11_TrieForm at hf
  rcases br_some hf with ⟨h1, hf⟩ | ⟨h1, hf⟩
  · obtain ⟨x1, q2, hf⟩ := bind_some' hf
    replace hf := Option.some.inj hf
    subst hf
    exact toEnd_good allOk 8 _ _ [⟨[], [], [], [], [], [], []⟩, ⟨[], [(3, true)], [], [], [], [], []⟩, ⟨[(0, .r (.one (.lit (.bool x1))) [])], [], [], [], [], [], []⟩] [true] [] [] [] [(decide (((a0.length : Nat) : Int) > (60 : Int))) = true, true = true, SCall Try.prog 38 [] (.one (.lit (.bool x1)))] (by kernel_rfl) rfl ⟨h1, rfl, (g_doormanlaw11_awake_ok  x1 q2), trivial⟩
  · rcases br_some hf with ⟨h3, hf⟩ | ⟨h3, hf⟩
    · obtain ⟨x2, q4, hf⟩ := bind_some' hf
      replace hf := Option.some.inj hf
      subst hf
      exact toEnd_good allOk 8 _ _ [⟨[], [], [], [], [], [], []⟩, ⟨[], [(3, false)], [], [], [], [], []⟩, ⟨[(0, .r (.one (.lit (.bool x2))) [])], [], [], [], [], [], []⟩] [true] [] [] [] [(decide (((a0.length : Nat) : Int) > (60 : Int))) = false, (((a0.length : Nat) : Int) == (0 : Int)) = true, SCall Try.prog 38 [] (.one (.lit (.bool x2)))] (by kernel_rfl) rfl ⟨h1, h3, (g_doormanlaw11_awake_ok  x2 q4), trivial⟩
    · exact toK_good allOk Post.ends 11 _ _ _ _ [⟨[], [], [], [], [], [], []⟩, ⟨[], [(3, false)], [], [], [], [], []⟩, ⟨[], [], [], [], [], [], []⟩] [false] ⟨[], [], [], [], [], [0, 1, 5], [], []⟩ [(decide (((a0.length : Nat) : Int) > (60 : Int))) = false, (((a0.length : Nat) : Int) == (0 : Int)) = false] (by kernel_rfl) ⟨h1, h3, trivial⟩ (g_doormanlaw11_TrieForm_c0_ok S0 w0 a0 a1   ((((a0.length : Nat) : Int) - (0 : Int)).toNat + 2) (0 : Int) r hf)
end Go.Proofs.Ytaakonlnlfbfkaa
