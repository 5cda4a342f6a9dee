/-
  Functions and their contracts.
  WRITTEN BY A PROGRAM OF MY OWN (wip/gen/am.py).
-/
import Derived.Test.YtgedafbejcpioaaStkT
namespace Go.Proofs.Ytgedafbejcpioaa
open Go.RowKit Go.Lib Go.Shelf
set_option linter.unusedVariables false
set_option maxRecDepth 100000
variable {z : Zw}
theorem eqFields_T_stuck_hold : (Try.prog.fieldsOf 59).toList = [{ name := "who", type := 3, offset := 0, embedded := false, tag := "", pkgPath := "doorman/stuck", byteOffset := 0 }, { name := "kind", type := 3, offset := 1, embedded := false, tag := "", pkgPath := "doorman/stuck", byteOffset := 8 }, { name := "lock", type := 3, offset := 2, embedded := false, tag := "", pkgPath := "doorman/stuck", byteOffset := 16 }] := by kernel_rfl

theorem eqIn_T_stuck_hold (d : Nat) (x y : T_stuck_hold) (w : World) : (Op.equalIn (d + 2) 59 (.agg #[.int .i64 x.fwho, .int .i64 x.fkind, .int .i64 x.flock]) (.agg #[.int .i64 y.fwho, .int .i64 y.fkind, .int .i64 y.flock])).run Try.prog w = .ok (decide (x = y)) w := by rw [run_equalIn_struct w (d + 1) _ _ _ (by kernel_rfl) (by kernel_rfl)]; simp only [eqFields_T_stuck_hold, Op.eqFields]; simp [go_sem]; cases x; cases y; simp only [T_stuck_hold.mk.injEq]; (repeat' split) <;> simp_all

theorem eql_T_stuck_hold (x y : T_stuck_hold) (xo yo : Operand) : ∀ w, (do eqGuard .eql 59 xo yo (.agg #[.int .i64 x.fwho, .int .i64 x.fkind, .int .i64 x.flock]) (.agg #[.int .i64 y.fwho, .int .i64 y.fkind, .int .i64 y.flock]); binOp .eql 59 (.agg #[.int .i64 x.fwho, .int .i64 x.fkind, .int .i64 x.flock]) (.agg #[.int .i64 y.fwho, .int .i64 y.fkind, .int .i64 y.flock]) : Sem Value).run Try.prog w = .ok (.bool (decide (x = y))) w := by
  intro w
  have hg : (eqGuard .eql 59 xo yo (.agg #[.int .i64 x.fwho, .int .i64 x.fkind, .int .i64 x.flock]) (.agg #[.int .i64 y.fwho, .int .i64 y.fkind, .int .i64 y.flock])).run Try.prog w = .ok () w := by simp [eqGuard, Sem.run_bind, Try.eqGuardType59]
  rw [Sem.run_bind, hg, Result.andThen_ok, run_eql_struct]
  exact congrArg (fun r : Result Bool => r.andThen fun b w' => Result.ok (Value.bool b) w') (eqIn_T_stuck_hold 9998 x y w)

theorem neq_T_stuck_hold (x y : T_stuck_hold) (xo yo : Operand) : ∀ w, (do eqGuard .neq 59 xo yo (.agg #[.int .i64 x.fwho, .int .i64 x.fkind, .int .i64 x.flock]) (.agg #[.int .i64 y.fwho, .int .i64 y.fkind, .int .i64 y.flock]); binOp .neq 59 (.agg #[.int .i64 x.fwho, .int .i64 x.fkind, .int .i64 x.flock]) (.agg #[.int .i64 y.fwho, .int .i64 y.fkind, .int .i64 y.flock]) : Sem Value).run Try.prog w = .ok (.bool (!decide (x = y))) w := by
  intro w
  have hg : (eqGuard .neq 59 xo yo (.agg #[.int .i64 x.fwho, .int .i64 x.fkind, .int .i64 x.flock]) (.agg #[.int .i64 y.fwho, .int .i64 y.fkind, .int .i64 y.flock])).run Try.prog w = .ok () w := by simp [eqGuard, Sem.run_bind, Try.eqGuardType59]
  rw [Sem.run_bind, hg, Result.andThen_ok, run_neq_struct]
  exact congrArg (fun r : Result Bool => r.andThen fun b w' => Result.ok (Value.bool (!b)) w') (eqIn_T_stuck_hold 9998 x y w)

theorem keyInj_T_stuck_hold (a b : T_stuck_hold) (h : (fun k : T_stuck_hold => (.agg #[.int .i64 k.fwho, .int .i64 k.fkind, .int .i64 k.flock] : Value)) a = (fun k : T_stuck_hold => (.agg #[.int .i64 k.fwho, .int .i64 k.fkind, .int .i64 k.flock] : Value)) b) : a = b := by
  obtain ⟨x1, x2, x3⟩ := a
  obtain ⟨y4, y5, y6⟩ := b
  simp only [Value.agg.injEq] at h
  have := congrArg Array.toList h
  simp at this
  simp_all

theorem keyChk_T_stuck_hold (e : Bool) (n : Nat) (k : T_stuck_hold) (w : World) : (Instr.checkKey e (n + 3) 59 (.agg #[.int .i64 k.fwho, .int .i64 k.fkind, .int .i64 k.flock])).run Try.prog w = .ok () w := by kernel_rfl

theorem keyOk_T_stuck_hold {ν : Type} {vv : ν → V} (k : T_stuck_hold) (l : List (T_stuck_hold × ν)) : KeyOk Try.prog 59 (.agg #[.int .i64 k.fwho, .int .i64 k.fkind, .int .i64 k.flock]) ((encM (fun k => .agg #[.int .i64 k.fwho, .int .i64 k.fkind, .int .i64 k.flock]) vv l).map (·.1)) :=
  keyOk_struct (kv := fun k : T_stuck_hold => .agg #[.int .i64 k.fwho, .int .i64 k.fkind, .int .i64 k.flock]) Try.underlying59 (fun a => ⟨_, rfl⟩) 3 (by decide) keyChk_T_stuck_hold (fun n a b w => by have := eqIn_T_stuck_hold (n + 1) a b w; simpa [Nat.add_assoc] using this) keyInj_T_stuck_hold (fun k => by simp [Instr.sameBits]) k l

/-- slices.Clone[[][2]int,[2]int] -/
def g_slices_Clone_2_int_2_int_n (a0 : (List (Int × Int))) : Option (List (Int × Int)) :=
  need (0 < a0.length) <|
  need ((([] : List (Int × Int)) ++ a0).length * 16 ≤ 140737488355328 ∧ (([] : List (Int × Int)) ++ a0).length ≤ maxLen) <|
  some (([] : List (Int × Int)) ++ a0)

theorem g_slices_Clone_2_int_2_int_n_own (a0 : (List (Int × Int))) (r : (List (Int × Int))) (hf : g_slices_Clone_2_int_2_int_n a0 = some r) : HCall Try.prog 15 [] [.one (cL 2 (cP (cI .i64) (cI .i64)) ((0 : Int), (0 : Int)) a0)] [(99999, .rows 49 2 r.length (rowsOf (cP (cI .i64) (cI .i64)) ((0 : Int), (0 : Int)) r))] (.one (.osl 99999 r.length)) := by
  refine HCall.of Try.func15 rfl rfl rfl rfl fun S0 w0 => ?_
  unfold g_slices_Clone_2_int_2_int_n at hf
  obtain ⟨o1, hf⟩ := need_some hf
  obtain ⟨o2, hf⟩ := need_some hf
  obtain rfl := oi hf
  exact toEndH_g allOk 9 [rz, rz, rA [(0, .c ([] : List (Int × Int)).length (rowsOf (cP (cI .i64) (cI .i64)) ((0 : Int), (0 : Int)) ([] : List (Int × Int)))), (2, .c ((([] : List (Int × Int)) ++ a0).length) (rowsOf (cP (cI .i64) (cI .i64)) ((0 : Int), (0 : Int)) (([] : List (Int × Int)) ++ a0)))]] [false] ⟨[], [], [], [], [], [2], [7], [(7, 99999)]⟩ (.c o1 (.c (show false = false from rfl) (.c (show ([] : List (Int × Int)).length = 0 from rfl) (.c (show ∀ i j, i < 0 → j < 2 → rowsOf (cP (cI .i64) (cI .i64)) ((0 : Int), (0 : Int)) ([] : List (Int × Int)) i j = (([] : List (Int × Int)).flatMap (cP (cI .i64) (cI .i64))).getD (i * 2 + j) .junk from (fun i j hi hj => rows_flat (sz := 2) (e := (cP (cI .i64) (cI .i64))) (d := ((0 : Int), (0 : Int))) (fun _ => rfl) ([] : List (Int × Int)) i j hi hj)) (.c (ext_app (sz := 2) (e := (cP (cI .i64) (cI .i64))) (d := ((0 : Int), (0 : Int))) ([] : List (Int × Int)) a0) (.c o2.1 (.c o2.2 .n))))))) (by kernel_rfl)

theorem g_slices_Clone_2_int_2_int_n_ok (a0 : (List (Int × Int))) (r : (List (Int × Int))) (hf : g_slices_Clone_2_int_2_int_n a0 = some r) : SCall Try.prog 15 [.one (cL 2 (cP (cI .i64) (cI .i64)) ((0 : Int), (0 : Int)) a0)] (.one (cL 2 (cP (cI .i64) (cI .i64)) ((0 : Int), (0 : Int)) r)) := (g_slices_Clone_2_int_2_int_n_own a0 r hf).pure

theorem g_slices_Clone_2_int_2_int_lit (x : Addr) (cap : Nat) (c : Nat → Nat → C) : HCall Try.prog 15 [] [.one (.lit (.slice (some x) 0 cap))] [(99999, .rows 49 2 0 c)] (.one (.osl 99999 0)) := by
  refine HCall.of Try.func15 rfl rfl rfl rfl fun S0 w0 => ?_
  exact toEndH_good allOk 9 _ _ [⟨[], [], [], [], [], [], []⟩, ⟨[(1, .r (.one (.lit (.bool false))) [])], [], [], [], [], [], []⟩, ⟨[(0, .c 0 c), (2, .c 0 c)], [], [], [], [], [], []⟩] [false] ⟨[], [], [], [], [], [2], [7], [(7, 99999)]⟩
    [∀ w, (do eqGuard .eql 22 (.tmp 3) (.const (.slice none 0 0)) (.slice (some x) 0 cap) (.slice none 0 0); binOp .eql 22 (.slice (some x) 0 cap) (.slice none 0 0) : Sem Value).run Try.prog w = .ok (.bool false) w, false = false, 0 = 0, ∀ i j, i < 0 → j < 2 → c i j = ([] : List C).getD (i * 2 + j) .junk, Ext 2 0 0 c (fun _ _ => .junk) 0 c, 0 * 16 ≤ 140737488355328, 0 ≤ maxLen] (by kernel_rfl) ⟨fun w => by
      have hg : (eqGuard .eql 22 (.tmp 3) (.const (.slice none 0 0)) (.slice (some x) 0 cap) (.slice none 0 0)).run Try.prog w = .ok () w := by simp [eqGuard]
      rw [Sem.run_bind, hg, Result.andThen_ok]
      exact Go.run_eql_slice_nil w _ _ (some x) 0 cap Try.underlying22, rfl, rfl, fun i j h => absurd h (Nat.not_lt_zero i), ⟨rfl, fun _ _ h => absurd h (Nat.not_lt_zero _), fun _ _ h => absurd h (Nat.not_lt_zero _)⟩, by decide, by decide, trivial⟩

theorem g_slices_Clone_2_int_2_int_nil (cap : Nat) (c : Nat → Nat → C) : HCall Try.prog 15 [] [.one (.lit (.slice none 0 cap))] [(99999, .rows 49 2 0 c)] (.one (.osl 99999 0)) := by
  refine HCall.of Try.func15 rfl rfl rfl rfl fun S0 w0 => ?_
  exact toEndH_good allOk 8 _ _ [⟨[], [], [], [], [], [], []⟩, ⟨[(1, .r (.one (.lit (.bool true))) [])], [], [], [], [], [], []⟩, ⟨[], [], [], [], [], [], []⟩] [true] ⟨[], [], [], [], [(2, 99999, 49, 2, c)], [2], [99999], []⟩
    [∀ w, (do eqGuard .eql 22 (.tmp 3) (.const (.slice none 0 0)) (.slice none 0 cap) (.slice none 0 0); binOp .eql 22 (.slice none 0 cap) (.slice none 0 0) : Sem Value).run Try.prog w = .ok (.bool true) w, true = true] (by kernel_rfl) ⟨fun w => by
      have hg : (eqGuard .eql 22 (.tmp 3) (.const (.slice none 0 0)) (.slice none 0 cap) (.slice none 0 0)).run Try.prog w = .ok () w := by simp [eqGuard]
      rw [Sem.run_bind, hg, Result.andThen_ok]
      exact Go.run_eql_slice_nil w _ _ none 0 cap Try.underlying22, rfl, trivial⟩

/-- slices.Clone[[][2]int,[2]int] -/
def g_slices_Clone_2_int_2_int (a0 : List (Int × Int)) : Option (List (Int × Int)) :=
  need (a0.length * 16 ≤ 140737488355328 ∧ a0.length ≤ maxLen) <|
  some a0

theorem g_slices_Clone_2_int_2_int_own (a0 : List (Int × Int)) (r : List (Int × Int)) (hf : g_slices_Clone_2_int_2_int a0 = some r) : HCall Try.prog 15 [] [.one (cL 2 (cP (cI .i64) (cI .i64)) ((0 : Int), (0 : Int)) a0)] [(99999, .rows 49 2 r.length (rowsOf (cP (cI .i64) (cI .i64)) ((0 : Int), (0 : Int)) r))] (.one (.osl 99999 r.length)) := by
  obtain ⟨o1, hf⟩ := need_some hf
  cases hf
  refine clone_parts ⟨_, Try.func15, rfl, rfl⟩ (fun h cap => ?_) (fun h x cap => ?_) (fun h => ?_)
  · rw [h]; exact g_slices_Clone_2_int_2_int_nil cap _
  · rw [h]; exact g_slices_Clone_2_int_2_int_lit x cap _
  · refine g_slices_Clone_2_int_2_int_n_own a0 a0 ?_
    unfold g_slices_Clone_2_int_2_int_n
    rw [need_pos h, need_pos (by simpa using o1)]
    simp

theorem g_slices_Clone_2_int_2_int_ok (a0 : List (Int × Int)) (r : List (Int × Int)) (hf : g_slices_Clone_2_int_2_int a0 = some r) : SCall Try.prog 15 [.one (cL 2 (cP (cI .i64) (cI .i64)) ((0 : Int), (0 : Int)) a0)] (.one (cL 2 (cP (cI .i64) (cI .i64)) ((0 : Int), (0 : Int)) r)) := (g_slices_Clone_2_int_2_int_own a0 r hf).pure

instance i_g_slices_Clone_2_int_2_int_ok (a0 : List (Int × Int)) : Con (g_slices_Clone_2_int_2_int a0) (eS 15 [.one (cL 2 (cP (cI .i64) (cI .i64)) ((0 : Int), (0 : Int)) a0)] fun (r : List (Int × Int)) => (.one (cL 2 (cP (cI .i64) (cI .i64)) ((0 : Int), (0 : Int)) r))) := Con.of fun r hf => g_slices_Clone_2_int_2_int_ok a0 r hf

instance h_g_slices_Clone_2_int_2_int_own (a0 : List (Int × Int)) : ConH (g_slices_Clone_2_int_2_int a0) (eH 15 [] [.one (cL 2 (cP (cI .i64) (cI .i64)) ((0 : Int), (0 : Int)) a0)] (fun (r : List (Int × Int)) => [(99999, .rows 49 2 r.length (rowsOf (cP (cI .i64) (cI .i64)) ((0 : Int), (0 : Int)) r))]) fun r => (.one (.osl 99999 r.length))) := ConH.of fun r hf => g_slices_Clone_2_int_2_int_own a0 r hf

/-- doorman/stuck.Round$1$1 -/
def g_stuck_Round_1_1 (a0 : (Int × Int)) (c0 : (Int × Int)) : Option Bool :=
  some (a0.1 == c0.2)

instance i_g_stuck_Round_1_1 {a0} {c0} : Con (g_stuck_Round_1_1 a0 c0) (eS 19 [.agg ((cP (cI .i64) (cI .i64)) a0), .one (.rp false 2 (fun j => ([.lit (.int .i64 c0.1), .lit (.int .i64 c0.2)] : List C).getD (0 + j) .junk))] fun r => .one (.lit (.bool r))) := kS Try.func19 (kH (show 0 ≤ (0 : Int) ∧ (0 : Int) < ((2 : Nat) : Int) from (by decide)) <| kH (show 0 ≤ (1 : Int) ∧ (1 : Int) < ((2 : Nat) : Int) from (by decide)) <| kR0)

def g_slices_IndexFunc_2_int_2_int_19_c0 (a0 : (List (Int × Int))) (a1_0 : (Int × Int))  : Nat → Int → Int → Option Int
  | 0, _, _ => none
  | fu + 1, v7, v8 =>
    bif (decide (v8 < v7)) then
      need (0 ≤ v8 ∧ v8 < ((a0.length : Nat) : Int)) <|
      (g_stuck_Round_1_1 (a0.getD v8.toNat ((0 : Int), (0 : Int))) a1_0).bind fun x1 =>
      bif x1 then
        some v8
      else
        g_slices_IndexFunc_2_int_2_int_19_c0 a0 a1_0  fu v7 (add64 v8 (1 : Int))
    else
      some (-1 : Int)

theorem g_slices_IndexFunc_2_int_2_int_19_c0_ok {a0 a1_0}  : ∀ {fu v7 v8}, LS z Try.f27 [1, 0, 1, 0] (g_slices_IndexFunc_2_int_2_int_19_c0 a0 a1_0 fu v7 v8) (fun r => .one (.lit (.int .i64 r))) ⟨[(0, .one (cL 2 (cP (cI .i64) (cI .i64)) ((0 : Int), (0 : Int)) a0)), (1, .one (.clo (.func 19) 0 1 (fun i => ([] : List C).getD i .junk) (fun i => ([.rp false 2 (fun j => ([.lit (.int .i64 a1_0.1), .lit (.int .i64 a1_0.2)] : List C).getD (0 + j) .junk)] : List C).getD i .junk))), (7, .one (.lit (.int .i64 v7))), (8, .one (.lit (.int .i64 v8)))], []⟩ := by
  intro fu
  induction fu with
  | zero => exact kZ
  | succ fu ih => exact kB (kN <| kC fun _ => kB kR0 (kL 17 ih)) kR0

/-- slices.IndexFunc[[][2]int,[2]int] -/
def g_slices_IndexFunc_2_int_2_int_19 (a0 : (List (Int × Int))) (a1_0 : (Int × Int)) : Option Int :=
  g_slices_IndexFunc_2_int_2_int_19_c0 a0 a1_0  ((((a0.length : Nat) : Int) - (0 : Int)).toNat + 2) ((a0.length : Nat) : Int) (0 : Int)

instance i_g_slices_IndexFunc_2_int_2_int_19 {a0} {a1_0} : Con (g_slices_IndexFunc_2_int_2_int_19 a0 a1_0) (eS 27 [.one (cL 2 (cP (cI .i64) (cI .i64)) ((0 : Int), (0 : Int)) a0), .one (.clo (.func 19) 0 1 (fun i => ([] : List C).getD i .junk) (fun i => ([.rp false 2 (fun j => ([.lit (.int .i64 a1_0.1), .lit (.int .i64 a1_0.2)] : List C).getD (0 + j) .junk)] : List C).getD i .junk))] fun r => .one (.lit (.int .i64 r))) := kS Try.func27 (kL 6 g_slices_IndexFunc_2_int_2_int_19_c0_ok)

/-- slices.ContainsFunc[[][2]int,[2]int] -/
def g_slices_ContainsFunc_2_int_2_int_19 (a0 : (List (Int × Int))) (a1_0 : (Int × Int)) : Option Bool :=
  (g_slices_IndexFunc_2_int_2_int_19 a0 a1_0).bind fun x1 =>
  some (decide (x1 ≥ (0 : Int)))

instance i_g_slices_ContainsFunc_2_int_2_int_19 {a0} {a1_0} : Con (g_slices_ContainsFunc_2_int_2_int_19 a0 a1_0) (eS 18 [.one (cL 2 (cP (cI .i64) (cI .i64)) ((0 : Int), (0 : Int)) a0), .one (.clo (.func 19) 0 1 (fun i => ([] : List C).getD i .junk) (fun i => ([.rp false 2 (fun j => ([.lit (.int .i64 a1_0.1), .lit (.int .i64 a1_0.2)] : List C).getD (0 + j) .junk)] : List C).getD i .junk))] fun r => .one (.lit (.bool r))) := kS Try.func18 (kC fun _ => kR0)

/-- doorman/stuck.Round$1 -/
def g_stuck_Round_1 (a0 : (Int × Int)) (c0 : (List (Int × Int))) : Option Bool :=
  (g_slices_ContainsFunc_2_int_2_int_19 c0 a0).bind fun x1 =>
  some (!x1)

instance i_g_stuck_Round_1 {a0} {c0} : Con (g_stuck_Round_1 a0 c0) (eS 17 [.agg ((cP (cI .i64) (cI .i64)) a0), .one (.rp false 1 (fun j => ([cL 2 (cP (cI .i64) (cI .i64)) ((0 : Int), (0 : Int)) c0] : List C).getD (0 + j) .junk))] fun r => .one (.lit (.bool r))) := kS Try.func17 (kC fun _ => kX 1 ⟨[], [], [(1, [2])], [], [], [], []⟩ <| kR0)

def g_slices_IndexFunc_2_int_2_int_17_c0 (a0 : (List (Int × Int))) (a1_0 : (List (Int × Int)))  : Nat → Int → Int → Option Int
  | 0, _, _ => none
  | fu + 1, v7, v8 =>
    bif (decide (v8 < v7)) then
      need (0 ≤ v8 ∧ v8 < ((a0.length : Nat) : Int)) <|
      (g_stuck_Round_1 (a0.getD v8.toNat ((0 : Int), (0 : Int))) a1_0).bind fun x1 =>
      bif x1 then
        some v8
      else
        g_slices_IndexFunc_2_int_2_int_17_c0 a0 a1_0  fu v7 (add64 v8 (1 : Int))
    else
      some (-1 : Int)

theorem g_slices_IndexFunc_2_int_2_int_17_c0_ok {a0 a1_0}  : ∀ {fu v7 v8}, LS z Try.f27 [1, 0, 1, 0] (g_slices_IndexFunc_2_int_2_int_17_c0 a0 a1_0 fu v7 v8) (fun r => .one (.lit (.int .i64 r))) ⟨[(0, .one (cL 2 (cP (cI .i64) (cI .i64)) ((0 : Int), (0 : Int)) a0)), (1, .one (.clo (.func 17) 0 1 (fun i => ([] : List C).getD i .junk) (fun i => ([.rp false 1 (fun j => ([cL 2 (cP (cI .i64) (cI .i64)) ((0 : Int), (0 : Int)) a1_0] : List C).getD (0 + j) .junk)] : List C).getD i .junk))), (7, .one (.lit (.int .i64 v7))), (8, .one (.lit (.int .i64 v8)))], []⟩ := by
  intro fu
  induction fu with
  | zero => exact kZ
  | succ fu ih => exact kB (kN <| kC fun _ => kB kR0 (kL 17 ih)) kR0

/-- slices.IndexFunc[[][2]int,[2]int] -/
def g_slices_IndexFunc_2_int_2_int_17 (a0 : (List (Int × Int))) (a1_0 : (List (Int × Int))) : Option Int :=
  g_slices_IndexFunc_2_int_2_int_17_c0 a0 a1_0  ((((a0.length : Nat) : Int) - (0 : Int)).toNat + 2) ((a0.length : Nat) : Int) (0 : Int)

instance i_g_slices_IndexFunc_2_int_2_int_17 {a0} {a1_0} : Con (g_slices_IndexFunc_2_int_2_int_17 a0 a1_0) (eS 27 [.one (cL 2 (cP (cI .i64) (cI .i64)) ((0 : Int), (0 : Int)) a0), .one (.clo (.func 17) 0 1 (fun i => ([] : List C).getD i .junk) (fun i => ([.rp false 1 (fun j => ([cL 2 (cP (cI .i64) (cI .i64)) ((0 : Int), (0 : Int)) a1_0] : List C).getD (0 + j) .junk)] : List C).getD i .junk))] fun r => .one (.lit (.int .i64 r))) := kS Try.func27 (kL 6 g_slices_IndexFunc_2_int_2_int_17_c0_ok)

def g_slices_DeleteFunc_2_int_2_int_17_c0 (a1_0 : (List (Int × Int)))  : Nat → Int → Int → (List (Int × Int)) → Option (List (Int × Int))
  | 0, _, _, _ => none
  | fu + 1, v5, v6, w100000 =>
    bif (decide (v6 < ((w100000.length : Nat) : Int))) then
      need (0 ≤ v6 ∧ v6 < ((w100000.length : Nat) : Int)) <|
      (g_stuck_Round_1 (w100000.getD v6.toNat ((0 : Int), (0 : Int))) a1_0).bind fun x2 =>
      bif (!x2) then
        need (0 ≤ v5 ∧ v5 < ((w100000.length : Nat) : Int)) <|
        g_slices_DeleteFunc_2_int_2_int_17_c0 a1_0  fu (add64 v5 (1 : Int)) (add64 v6 (1 : Int)) (w100000.set v5.toNat (w100000.getD v6.toNat ((0 : Int), (0 : Int))))
      else
        g_slices_DeleteFunc_2_int_2_int_17_c0 a1_0  fu v5 (add64 v6 (1 : Int)) w100000
    else
      need (0 ≤ v5 ∧ v5 ≤ ((w100000.length : Nat) : Int) ∧ ((w100000.length : Nat) : Int) ≤ ((w100000.length : Nat) : Int)) <|
      need (v5.toNat + (w100000.length - v5.toNat) ≤ w100000.length) <|
      need (0 ≤ (0 : Int) ∧ (0 : Int) ≤ v5 ∧ v5 ≤ ((w100000.length : Nat) : Int)) <|
      need (v5.toNat ≤ (clearL w100000 v5.toNat (w100000.length - v5.toNat) ((0 : Int), (0 : Int))).length) <|
      some ((clearL w100000 v5.toNat (w100000.length - v5.toNat) ((0 : Int), (0 : Int))).take v5.toNat)

theorem g_slices_DeleteFunc_2_int_2_int_17_c0_ok {a1_0}  : ∀ {fu v5 v6 w100000}, LH z Try.f16 [1, 1, 1, 0, 1, 0] (g_slices_DeleteFunc_2_int_2_int_17_c0 a1_0 fu v5 v6 w100000) (fun r => [(99999, .rows 49 2 r.length (rowsOf (cP (cI .i64) (cI .i64)) ((0 : Int), (0 : Int)) r))]) (fun r => (.one (.osl 99999 r.length))) ⟨[(0, .one (.osl 100000 w100000.length)), (1, .one (.clo (.func 17) 0 1 (fun i => ([] : List C).getD i .junk) (fun i => ([.rp false 1 (fun j => ([cL 2 (cP (cI .i64) (cI .i64)) ((0 : Int), (0 : Int)) a1_0] : List C).getD (0 + j) .junk)] : List C).getD i .junk))), (5, .one (.lit (.int .i64 v5))), (6, .one (.lit (.int .i64 v6)))], [(100000, .rows 49 2 w100000.length (rowsOf (cP (cI .i64) (cI .i64)) ((0 : Int), (0 : Int)) w100000))]⟩ := by
  intro fu
  induction fu with
  | zero => exact kZ
  | succ fu ih => intro v5 v6 w100000; exact kB (kNq fun o4 => kH (ltOf o4) <| kC fun _ => kB (kNq fun o7 => kW 3 4 ⟨2, (cP (cI .i64) (cI .i64)), ((0 : Int), (0 : Int))⟩ w100000 v5.toNat (w100000.getD v6.toNat ((0 : Int), (0 : Int))) (ltOf o7) <| kH (show (w100000.set v5.toNat (w100000.getD v6.toNat ((0 : Int), (0 : Int)))).length = (w100000.set v5.toNat (w100000.getD v6.toNat ((0 : Int), (0 : Int)))).length from rfl) <| kLx 19 [] [] [] [(100000, ((w100000.set v5.toNat (w100000.getD v6.toNat ((0 : Int), (0 : Int)))).length))] [] [] ih) (kL 17 ih)) (kN <| kNm fun o9 => kH (show (clearL w100000 v5.toNat (w100000.length - v5.toNat) ((0 : Int), (0 : Int))).length = w100000.length from (clear_len _ _ _ _ o9)) <| kH (show ∀ i j, i < w100000.length → j < 2 → (i < v5.toNat ∨ v5.toNat + (w100000.length - v5.toNat) ≤ i) → rowsOf (cP (cI .i64) (cI .i64)) ((0 : Int), (0 : Int)) (clearL w100000 v5.toNat (w100000.length - v5.toNat) ((0 : Int), (0 : Int))) i j = rowsOf (cP (cI .i64) (cI .i64)) ((0 : Int), (0 : Int)) w100000 i j from (clear_old _ _ _ o9)) <| kH (show ∀ i j, i < (w100000.length - v5.toNat) → j < 2 → orNil (([.lit (.int .i64 (0)), .lit (.int .i64 (0))] : List C).getD j .junk) (rowsOf (cP (cI .i64) (cI .i64)) ((0 : Int), (0 : Int)) (clearL w100000 v5.toNat (w100000.length - v5.toNat) ((0 : Int), (0 : Int))) (v5.toNat + i) j) from (clear_new _ _ _ o9 (fun j hj => .inl rfl))) <| kN <| kH (show 0 = 0 from rfl) <| kNm fun o11 => kH (show ((clearL w100000 v5.toNat (w100000.length - v5.toNat) ((0 : Int), (0 : Int))).take v5.toNat).length = v5.toNat from (shr_len _ _ o11)) <| kH (show ∀ i j, i < v5.toNat → j < 2 → rowsOf (cP (cI .i64) (cI .i64)) ((0 : Int), (0 : Int)) ((clearL w100000 v5.toNat (w100000.length - v5.toNat) ((0 : Int), (0 : Int))).take v5.toNat) i j = rowsOf (cP (cI .i64) (cI .i64)) ((0 : Int), (0 : Int)) (clearL w100000 v5.toNat (w100000.length - v5.toNat) ((0 : Int), (0 : Int))) i j from (shr_rows _ _)) <| kX 1 (rA [(3, .c (clearL w100000 v5.toNat (w100000.length - v5.toNat) ((0 : Int), (0 : Int))).length (rowsOf (cP (cI .i64) (cI .i64)) ((0 : Int), (0 : Int)) (clearL w100000 v5.toNat (w100000.length - v5.toNat) ((0 : Int), (0 : Int)))))]) <| kX 2 (rA [(3, .c ((clearL w100000 v5.toNat (w100000.length - v5.toNat) ((0 : Int), (0 : Int))).take v5.toNat).length (rowsOf (cP (cI .i64) (cI .i64)) ((0 : Int), (0 : Int)) ((clearL w100000 v5.toNat (w100000.length - v5.toNat) ((0 : Int), (0 : Int))).take v5.toNat)))]) <| kRH ⟨[], [], [], [], [], [4], [4], [(4, 99999)]⟩ none)

/-- slices.DeleteFunc[[][2]int,[2]int] -/
def g_slices_DeleteFunc_2_int_2_int_17 (a0 : (List (Int × Int))) (a1_0 : (List (Int × Int))) : Option (List (Int × Int)) :=
  (g_slices_IndexFunc_2_int_2_int_17 a0 a1_0).bind fun x1 =>
  bif (x1 == (-1 : Int)) then
    some a0
  else
    g_slices_DeleteFunc_2_int_2_int_17_c0 a1_0  ((((a0.length : Nat) : Int) - (add64 x1 (1 : Int))).toNat + 2) x1 (add64 x1 (1 : Int)) a0

instance h_g_slices_DeleteFunc_2_int_2_int_17 {a0} {a1_0} : ConH (g_slices_DeleteFunc_2_int_2_int_17 a0 a1_0) (eH 16 [(100000, .rows 49 2 a0.length (rowsOf (cP (cI .i64) (cI .i64)) ((0 : Int), (0 : Int)) a0))] [.one (.osl 100000 a0.length), .one (.clo (.func 17) 0 1 (fun i => ([] : List C).getD i .junk) (fun i => ([.rp false 1 (fun j => ([cL 2 (cP (cI .i64) (cI .i64)) ((0 : Int), (0 : Int)) a1_0] : List C).getD (0 + j) .junk)] : List C).getD i .junk))] (fun r => [(99999, .rows 49 2 r.length (rowsOf (cP (cI .i64) (cI .i64)) ((0 : Int), (0 : Int)) r))]) fun r => (.one (.osl 99999 r.length))) := kHC Try.func16 (kC fun _ => kB (kRH ⟨[], [], [], [], [], [4], [100000], [(100000, 99999)]⟩ none) (kL 13 g_slices_DeleteFunc_2_int_2_int_17_c0_ok))

def g_stuck_Round_c0   : Nat → (List (Int × Int)) → Option Bool
  | 0, _ => none
  | fu + 1, b1 =>
    (g_slices_Clone_2_int_2_int b1).bind fun x2 =>
    (g_slices_DeleteFunc_2_int_2_int_17 x2 b1).bind fun x3 =>
    bif (((x3.length : Nat) : Int) == ((b1.length : Nat) : Int)) then
      some (decide (((b1.length : Nat) : Int) > (0 : Int)))
    else
      g_stuck_Round_c0   fu x3

theorem g_stuck_Round_c0_ok   : ∀ {fu b1}, LS z Try.f6 [1, 1, 0] (g_stuck_Round_c0 fu b1) (fun r => .one (.lit (.bool r))) ⟨[(1, .one (.ptr 1 0))], [(1, .box [cL 2 (cP (cI .i64) (cI .i64)) ((0 : Int), (0 : Int)) b1])]⟩ := by
  intro fu
  induction fu with
  | zero => exact kZ
  | succ fu ih => exact kD 0 1 [] [(99999, 11)] fun _ => kD 0 3 [(100000, 11)] [(99999, 13)] fun x3 => kH (show ∀ i j, i < x3.length → j < 2 → ∃ y, rowsOf (cP (cI .i64) (cI .i64)) ((0 : Int), (0 : Int)) x3 i j = .lit y from (rows_lit (sz := 2) (e := (cP (cI .i64) (cI .i64))) (d := ((0 : Int), (0 : Int))) (fun _ => rfl) (fun _ => rfl) _ _)) <| kB kR0 (kLx 12 [13] [] [] [] [] [] ih)

/-- doorman/stuck.Round -/
def g_stuck_Round (a0 : (List (Int × Int))) : Option Bool :=
  need (0 ≤ (if (64 : Int) < ((a0.length : Nat) : Int) then (64 : Int) else ((a0.length : Nat) : Int)) ∧ (if (64 : Int) < ((a0.length : Nat) : Int) then (64 : Int) else ((a0.length : Nat) : Int)) ≤ ((a0.length : Nat) : Int)) <|
  (g_slices_Clone_2_int_2_int (a0.take (if (64 : Int) < ((a0.length : Nat) : Int) then (64 : Int) else ((a0.length : Nat) : Int)).toNat)).bind fun x1 =>
  g_stuck_Round_c0   1000000 x1

instance i_g_stuck_Round {a0} : Con (g_stuck_Round a0) (eS 6 [.one (cL 2 (cP (cI .i64) (cI .i64)) ((0 : Int), (0 : Int)) a0)] fun r => .one (.lit (.bool r))) := kS Try.func6 (kNm fun o1 => kH (show (a0.take (if (64 : Int) < ((a0.length : Nat) : Int) then (64 : Int) else ((a0.length : Nat) : Int)).toNat).length = (if (64 : Int) < ((a0.length : Nat) : Int) then (64 : Int) else ((a0.length : Nat) : Int)).toNat ∧ ∀ i j, i < (if (64 : Int) < ((a0.length : Nat) : Int) then (64 : Int) else ((a0.length : Nat) : Int)).toNat → j < 2 → rowsOf (cP (cI .i64) (cI .i64)) ((0 : Int), (0 : Int)) (a0.take (if (64 : Int) < ((a0.length : Nat) : Int) then (64 : Int) else ((a0.length : Nat) : Int)).toNat) i j = rowsOf (cP (cI .i64) (cI .i64)) ((0 : Int), (0 : Int)) a0 i j from (piece_take _ _ o1)) <| kH o1 <| kC fun _ => kX 1 ⟨[], [], [], [], [], [(4, ((a0.take (if (64 : Int) < ((a0.length : Nat) : Int) then (64 : Int) else ((a0.length : Nat) : Int)).toNat).length, rowsOf (cP (cI .i64) (cI .i64)) ((0 : Int), (0 : Int)) (a0.take (if (64 : Int) < ((a0.length : Nat) : Int) then (64 : Int) else ((a0.length : Nat) : Int)).toNat)))], []⟩ <| kL 5 g_stuck_Round_c0_ok)

/-- Is this lock held by the step's task, and no smaller than the step's? -/
def risesFit (b5 : T_api_Step) (h : T_stuck_hold) : Bool := bif (h.fwho == b5.fWho) then decide (b5.fOp.fLock ≤ h.flock) else false
def hdC : List It → Code | .code c :: _ => c | _ => .skip
def rOps : Code → Array Oper | .region _ o _ => o | _ => #[]
def rgGet (r : Option (St × List Prop)) : St := match r with | some (s, _) => s | none => ⟨[], []⟩
def risP : List Nat := [1, 1, 0, 1, 0, 0, 1, 1, 0, 0, 1, 1, 0, 1]
def risC (fn : Func) (l : List Nat) : Code := hdC (at_ (risP ++ l) (bodyOf fn))


def hkv (k : T_stuck_hold) : Value := .agg #[.int .i64 k.fwho, .int .i64 k.fkind, .int .i64 k.flock]
def risSt (v8 : (List T_api_Step)) (v9 v10 v17 : Int) (v18 : Bool) (m7 : (List (T_stuck_hold × Int))) (b5 : T_api_Step) : St := ⟨[(3, .one (.mp 7)), (4, .one (.lit (.int .i64 v10))), (5, .one (.ptr 5 0)), (8, .one (cL 37 T_api_Step.c T_api_Step.d v8)), (9, .one (.lit (.int .i64 v9))), (10, .one (.lit (.int .i64 v10))), (17, .one (.lit (.int .i64 v17))), (18, .one (.lit (.bool v18)))], [(7, .map 1000059 (encM (fun k => .agg #[.int .i64 k.fwho, .int .i64 k.fkind, .int .i64 k.flock]) (fun v => .one (.lit (.int .i64 v))) m7)), (5, .box b5.c)]⟩

theorem ris_items : at_ (risP ++ [0, 0]) (bodyOf Try.f8) = .code (.seq (.region 8 (rOps (risC Try.f8 [0, 0, 0])) false) (.block 3 (.loop (risC Try.f8 [0, 0, 1, 0, 0])))) :: at_ (risP ++ [0, 1]) (bodyOf Try.f8) := by kernel_rfl
theorem ris_body : risC Try.f8 [0, 0, 1, 0, 0] = .seq (.region 9 (rOps (risC Try.f8 [0, 0, 1, 0, 0, 0])) false) (.seq (.cond (.tmp 24) .skip (.exit 3)) (.block 4 (.seq (.region 10 (rOps (risC Try.f8 [0, 0, 1, 0, 0, 1, 1, 0, 0])) false) (risC Try.f8 [0, 0, 1, 0, 0, 1, 1, 0, 1])))) := by kernel_rfl

def risV : Int → V := fun r => .one (.lit (.int .i64 r))
/-- What stands behind a round's first region. -/
def risK (fn : Func) : List It := .code (risC fn [0, 0, 1, 0, 0, 1, 1, 0, 1]) :: .endB 4 :: .endL (risC fn [0, 0, 1, 0, 0]) :: .endB 3 :: at_ (risP ++ [0, 1]) (bodyOf fn)
def risO (fn : Func) : List Oper := (rOps (risC fn [0, 0, 1, 0, 0, 1, 1, 0, 0])).toList.tail

/-- The state behind a round's first region. -/
def risE (P : Program) (fn : Func) (tb : Tab) (v8 : (List T_api_Step)) (v9 v10 v17 : Int) (v18 : Bool) (m7 : (List (T_stuck_hold × Int))) (b5 : T_api_Step) (bm bit : Nat) (h : T_stuck_hold) (x : Int) : St :=
  rgGet (runOps P fn.ntmps tb (rOps (risC fn [0, 0, 1, 0, 0, 1, 1, 0, 0])) (rA []) 1 (risO fn) (rgSt (risSt v8 v9 v10 v17 v18 m7 b5) 3 22 7 bm bit 24 25 (hkv h, .one (.lit (.int .i64 x)))))
theorem risE_run (v8 : (List T_api_Step)) (v9 v10 v17 : Int) (v18 : Bool) (m7 : (List (T_stuck_hold × Int))) (b5 : T_api_Step) (bm bit : Nat) (h : T_stuck_hold) (x : Int) :
  runOps Try.prog Try.f8.ntmps tab (rOps (risC Try.f8 [0, 0, 1, 0, 0, 1, 1, 0, 0])) (rA []) 1 (risO Try.f8) (rgSt (risSt v8 v9 v10 v17 v18 m7 b5) 3 22 7 bm bit 24 25 (hkv h, .one (.lit (.int .i64 x)))) = some (risE Try.prog Try.f8 tab v8 v9 v10 v17 v18 m7 b5 bm bit h x, []) := by kernel_rfl

theorem ris_yes {v8 : (List T_api_Step)} {v9 v10 v17 : Int} {v18 : Bool} {m7 : (List (T_stuck_hold × Int))} {b5 : T_api_Step} {bm bit : Nat} {h : T_stuck_hold} {x : Int} (hf : risesFit b5 h = true) : Chk Try.prog Try.f8.ntmps z (qS Try.prog Try.f8 z risV) (risK Try.f8) (risE Try.prog Try.f8 tab v8 v9 v10 v17 v18 m7 b5 bm bit h x) [] (some v10) := by
  have hT : Chk Try.prog Try.f8.ntmps z (qS Try.prog Try.f8 z risV) (risK Try.f8) (risE Try.prog Try.f8 tab v8 v9 v10 v17 v18 m7 b5 bm bit h x) [] (bif (h.fwho == b5.fWho) then bif (decide (b5.fOp.fLock ≤ h.flock)) then some v10 else none else none) := kB (kB kR0 kZ) kZ
  unfold risesFit at hf
  cases h1 : (h.fwho == b5.fWho) with
  | false => rw [h1] at hf; cases hf
  | true =>
    rw [h1] at hf hT
    have hf : decide (b5.fOp.fLock ≤ h.flock) = true := hf
    rw [hf] at hT
    exact hT

theorem ris_no {R : Type} {Q : R → Exit → Act → World → Prop} [EndsQ Q] {o : Option R} {v8 : (List T_api_Step)} {v9 v10 v17 : Int} {v18 : Bool} {m7 : (List (T_stuck_hold × Int))} {b5 : T_api_Step} {bm bit : Nat} {h : T_stuck_hold} {x : Int} (hf : risesFit b5 h = false)
    (hk : Chk Try.prog Try.f8.ntmps z Q (.endL (risC Try.f8 [0, 0, 1, 0, 0]) :: .endB 3 :: at_ (risP ++ [0, 1]) (bodyOf Try.f8)) (hidSt (risSt v8 v9 v10 v17 v18 m7 b5) 3 22 7 bm bit) [] o) : Chk Try.prog Try.f8.ntmps z Q (risK Try.f8) (risE Try.prog Try.f8 tab v8 v9 v10 v17 v18 m7 b5 bm bit h x) [] o := by
  have hT : Chk Try.prog Try.f8.ntmps z Q (risK Try.f8) (risE Try.prog Try.f8 tab v8 v9 v10 v17 v18 m7 b5 bm bit h x) [] (bif (h.fwho == b5.fWho) then bif (decide (b5.fOp.fLock ≤ h.flock)) then none else o else o) := kB (kB kZ (kL 5 hk)) (kK false <| kL 5 hk)
  unfold risesFit at hf
  cases h1 : (h.fwho == b5.fWho) with
  | false => rw [h1] at hT; exact hT
  | true =>
    rw [h1] at hf hT
    have hf : decide (b5.fOp.fLock ≤ h.flock) = false := hf
    rw [hf] at hT
    exact hT

theorem rises_range {v8 : (List T_api_Step)} {v9 v10 v17 : Int} {v18 : Bool} {m7 : (List (T_stuck_hold × Int))} {b5 : T_api_Step} {o : Option Int}
    (h : Chk Try.prog Try.f8.ntmps z (qS Try.prog Try.f8 z risV) (at_ (risP ++ [0, 1]) (bodyOf Try.f8)) (risSt v8 v9 v10 v17 v18 m7 b5) [] o) :
    Chk Try.prog Try.f8.ntmps z (qS Try.prog Try.f8 z risV) (at_ (risP ++ [0, 0]) (bodyOf Try.f8)) (risSt v8 v9 v10 v17 v18 m7 b5) [] (bif m7.any (fun h => risesFit b5 h.1) then some v10 else o) := fun _ r hr => by
  have hmem : ∀ p ∈ encM (fun k : T_stuck_hold => (.agg #[.int .i64 k.fwho, .int .i64 k.fkind, .int .i64 k.flock] : Value)) (fun v : Int => (.one (.lit (.int .i64 v)) : V)) m7, ∃ q ∈ m7, p = (hkv q.1, .one (.lit (.int .i64 q.2))) := fun p hp => by
    obtain ⟨q, h1, h2⟩ := List.mem_map.1 hp
    exact ⟨q, h1, h2.symm⟩
  have hfit : ∀ q : T_stuck_hold, (fun v : Value => @decide (∃ h, hkv h = v ∧ risesFit b5 h = true) (Classical.propDecidable _)) (hkv q) = risesFit b5 q := fun q => by
    cases hq : risesFit b5 q with
    | true => exact @decide_eq_true _ (Classical.propDecidable _) ⟨q, rfl, hq⟩
    | false => exact @decide_eq_false _ (Classical.propDecidable _) fun ⟨h, h1, h2⟩ => by rw [keyInj_T_stuck_hold h q h1, hq] at h2; cases h2
  rw [ris_items]
  refine good_range (src := 3) (t21 := 21) (it := 22) (id := 7) (t23 := 23) (t24 := 24) (t25 := 25) (kt := 1000059) (fit := fun v : Value => @decide (∃ h, hkv h = v ∧ risesFit b5 h = true) (Classical.propDecidable _)) (l := encM (fun k : T_stuck_hold => .agg #[.int .i64 k.fwho, .int .i64 k.fkind, .int .i64 k.flock]) (fun v : Int => .one (.lit (.int .i64 v))) m7)
    (oM := (rOps (risC Try.f8 [0, 0, 0])).getD 0 default) (oR := (rOps (risC Try.f8 [0, 0, 0])).getD 1 default) (oN := (rOps (risC Try.f8 [0, 0, 1, 0, 0, 0])).getD 0 default) (oX := (rOps (risC Try.f8 [0, 0, 1, 0, 0, 0])).getD 1 default) (oE := (rOps (risC Try.f8 [0, 0, 1, 0, 0, 1, 1, 0, 0])).getD 0 default) (rest10 := risO Try.f8)
    tbOk.ok.1 ((inferInstance : EndsQ (qS Try.prog Try.f8 z risV)).ends r) (by kernel_rfl) (by kernel_rfl) (by kernel_rfl) (by kernel_rfl) (by kernel_rfl) (by kernel_rfl) (by kernel_rfl) (fun t ht => ?_) (fun i l hi hl => ?_) (by decide) (by decide) (by decide) (by decide) (by decide)
    (by kernel_rfl) ⟨by kernel_rfl, by kernel_rfl, by kernel_rfl⟩ ⟨by kernel_rfl, by kernel_rfl, by kernel_rfl⟩ Try.underlying57 (by kernel_rfl) ⟨by kernel_rfl, by kernel_rfl, by kernel_rfl⟩ ⟨by kernel_rfl, by kernel_rfl, by kernel_rfl⟩ (by kernel_rfl) ⟨by kernel_rfl, by kernel_rfl, by kernel_rfl⟩
    (fun p hp => ?_) _ ris_body (fun hn => ?_) (fun p hp hf bm bit S1 w1 hF hg => ?_) (fun p hp hf bm bit S1 w1 hg => ?_)
  · exact look_free ht (by kernel_rfl)
  · exact hget_free hi (by kernel_rfl) hl
  · obtain ⟨q, _, rfl⟩ := hmem p hp
    exact ⟨_, _, rfl, fun y hy => by simp at hy; rcases hy with rfl | rfl | rfl <;> rfl, rfl⟩
  · have ha : m7.any (fun h => risesFit b5 h.1) = false := List.any_eq_false.2 fun q hq => by
      have := hn _ (List.mem_map.2 ⟨q, hq, rfl⟩)
      have := (hfit q.1).symm.trans this
      simp [this]
    rw [ha] at hr
    exact h trivial r hr
  · obtain ⟨q, hq, rfl⟩ := hmem p hp
    have hf' : risesFit b5 q.1 = true := (hfit q.1).symm.trans hf
    have ha : m7.any (fun h => risesFit b5 h.1) = true := List.any_eq_true.2 ⟨q, hq, hf'⟩
    rw [ha] at hr
    refine ⟨_, [], rA [], risE_run v8 v9 v10 v17 v18 m7 b5 bm bit q.1 q.2, by simp, fun a w hs => ?_⟩
    exact contK_mono (qS_back hF hg) _ _ _ _ (ris_yes (z := ⟨S1, w1⟩) hf' trivial r hr a w hs)
  · obtain ⟨q, hq, rfl⟩ := hmem p hp
    have hf' : risesFit b5 q.1 = false := (hfit q.1).symm.trans hf
    refine ⟨_, [], rA [], risE_run v8 v9 v10 v17 v18 m7 b5 bm bit q.1 q.2, by simp, ?_⟩
    have : EndsQ (fun _ : Unit => qS Try.prog Try.f8 z risV r) := ⟨fun _ => (inferInstance : EndsQ (qS Try.prog Try.f8 z risV)).ends r⟩
    exact ris_no (z := ⟨S1, w1⟩) (Q := fun _ : Unit => qS Try.prog Try.f8 z risV r) (o := some ()) hf' (fun _ _ _ => hg) trivial () rfl

def g_stuck_Rises_c1 (v8 : (List T_api_Step)) (v9 : Int) (v10 : Int) (kg_stuck_Rises_c0 : (List T_api_Step) → Int → Int → (List (T_stuck_hold × Int)) → Option Int) (v17 : Int) (v18 : Bool) (m7 : (List (T_stuck_hold × Int))) (b5 : T_api_Step) : Option Int :=
  bif v18 then
    bif m7.any (fun h => risesFit b5 h.1) then some v10 else
    kg_stuck_Rises_c0 v8 v9 (add64 v10 (1 : Int)) (mput m7 (T_stuck_hold.mk b5.fWho b5.fOp.fKind b5.fOp.fLock) (1 : Int))
  else
    bif (v17 == (3 : Int)) then
      kg_stuck_Rises_c0 v8 v9 (add64 v10 (1 : Int)) (mdel m7 (T_stuck_hold.mk b5.fWho (1 : Int) b5.fOp.fLock))
    else
      bif (v17 == (4 : Int)) then
        kg_stuck_Rises_c0 v8 v9 (add64 v10 (1 : Int)) (mdel m7 (T_stuck_hold.mk b5.fWho (2 : Int) b5.fOp.fLock))
      else
        kg_stuck_Rises_c0 v8 v9 (add64 v10 (1 : Int)) m7

theorem g_stuck_Rises_c1_ok {v8 : (List T_api_Step)} {v9 : Int} {v10 : Int} {kg_stuck_Rises_c0 : (List T_api_Step) → Int → Int → (List (T_stuck_hold × Int)) → Option Int} (hg_stuck_Rises_c0 : ∀ {v8_ v9_ v10_ m7_}, LS z Try.f8 [1, 1, 0, 1, 0] (kg_stuck_Rises_c0 v8_ v9_ v10_ m7_) (fun r => .one (.lit (.int .i64 r))) ⟨[(3, .one (.mp 7)), (8, .one (cL 37 T_api_Step.c T_api_Step.d v8_)), (9, .one (.lit (.int .i64 v9_))), (10, .one (.lit (.int .i64 v10_)))], [(7, .map 1000059 (encM (fun k => .agg #[.int .i64 k.fwho, .int .i64 k.fkind, .int .i64 k.flock]) (fun v => .one (.lit (.int .i64 v))) m7_))]⟩) {v17 v18 m7 b5} : LS z Try.f8 [1, 1, 0, 1, 0, 0, 1, 1, 0, 0, 1, 1, 0, 1] (g_stuck_Rises_c1 v8 v9 v10 kg_stuck_Rises_c0 v17 v18 m7 b5) (fun r => .one (.lit (.int .i64 r))) ⟨[(3, .one (.mp 7)), (4, .one (.lit (.int .i64 v10))), (5, .one (.ptr 5 0)), (8, .one (cL 37 T_api_Step.c T_api_Step.d v8)), (9, .one (.lit (.int .i64 v9))), (10, .one (.lit (.int .i64 v10))), (17, .one (.lit (.int .i64 v17))), (18, .one (.lit (.bool v18)))], [(7, .map 1000059 (encM (fun k => .agg #[.int .i64 k.fwho, .int .i64 k.fkind, .int .i64 k.flock]) (fun v => .one (.lit (.int .i64 v))) m7)), (5, .box [.lit (.int .i64 b5.fWho), .lit (.int .i64 b5.fNth), .lit (.int .i64 b5.fOp.fKind), .lit (.int .i64 b5.fOp.fLock), .lit (.int .i64 b5.fOp.fLoc.fKind), .lit (.int .i64 b5.fOp.fLoc.fShard), .lit (.int .i64 b5.fOp.fLoc.fSlot), .lit (.int .i64 b5.fOp.fOld), .lit (.int .i64 b5.fOp.fNew), .lit (.int .i64 b5.fOp.fVal.fN), .lit (.bool b5.fOp.fVal.fPeer.fEnd.fAddr.fV6), .lit (.int .u64 b5.fOp.fVal.fPeer.fEnd.fAddr.fHi), .lit (.int .u64 b5.fOp.fVal.fPeer.fEnd.fAddr.fLo), .lit (.int .i64 b5.fOp.fVal.fPeer.fEnd.fPort), .lit (.bool b5.fOp.fVal.fPeer.fIn), .lit (.int .i64 b5.fOp.fVal.fPeer.fSince), .lit (.int .i64 b5.fOp.fVal.fPeer.fScore.fPoints), .lit (.int .i64 b5.fOp.fVal.fPeer.fScore.fAt), .lit (.int .i64 b5.fOp.fVal.fPeer.fPing), .lit (.int .i64 b5.fOp.fVal.fPeer.fWork), cL 5 T_api_Ban.c T_api_Ban.d b5.fOp.fVal.fBans, cL 7 T_api_Entry.c T_api_Entry.d b5.fOp.fVal.fBook, .lit (.bool b5.fOp.fMark), .lit (.int .i64 b5.fGot.fN), .lit (.bool b5.fGot.fPeer.fEnd.fAddr.fV6), .lit (.int .u64 b5.fGot.fPeer.fEnd.fAddr.fHi), .lit (.int .u64 b5.fGot.fPeer.fEnd.fAddr.fLo), .lit (.int .i64 b5.fGot.fPeer.fEnd.fPort), .lit (.bool b5.fGot.fPeer.fIn), .lit (.int .i64 b5.fGot.fPeer.fSince), .lit (.int .i64 b5.fGot.fPeer.fScore.fPoints), .lit (.int .i64 b5.fGot.fPeer.fScore.fAt), .lit (.int .i64 b5.fGot.fPeer.fPing), .lit (.int .i64 b5.fGot.fPeer.fWork), cL 5 T_api_Ban.c T_api_Ban.d b5.fGot.fBans, cL 7 T_api_Entry.c T_api_Entry.d b5.fGot.fBook, .lit (.bool b5.fLast)])]⟩ := kB (kL 2 <| rises_range (v8 := v8) (v9 := v9) (v10 := v10) (v17 := v17) (v18 := v18) (m7 := m7) (b5 := b5) <| kH (show KeyOk Try.prog 59 (.agg #[.int .i64 ((T_stuck_hold.mk b5.fWho b5.fOp.fKind b5.fOp.fLock).fwho), .int .i64 ((T_stuck_hold.mk b5.fWho b5.fOp.fKind b5.fOp.fLock).fkind), .int .i64 ((T_stuck_hold.mk b5.fWho b5.fOp.fKind b5.fOp.fLock).flock)]) ((encM (fun k => .agg #[.int .i64 k.fwho, .int .i64 k.fkind, .int .i64 k.flock]) (fun v => .one (.lit (.int .i64 v))) m7).map (·.1)) from (keyOk_T_stuck_hold (T_stuck_hold.mk b5.fWho b5.fOp.fKind b5.fOp.fLock) m7)) <| kH (show MPut (encM (fun k => .agg #[.int .i64 k.fwho, .int .i64 k.fkind, .int .i64 k.flock]) (fun v => .one (.lit (.int .i64 v))) m7) (.agg #[.int .i64 ((T_stuck_hold.mk b5.fWho b5.fOp.fKind b5.fOp.fLock).fwho), .int .i64 ((T_stuck_hold.mk b5.fWho b5.fOp.fKind b5.fOp.fLock).fkind), .int .i64 ((T_stuck_hold.mk b5.fWho b5.fOp.fKind b5.fOp.fLock).flock)]) (.one (.lit (.int .i64 (1 : Int)))) (encM (fun k => .agg #[.int .i64 k.fwho, .int .i64 k.fkind, .int .i64 k.flock]) (fun v => .one (.lit (.int .i64 v))) (mput m7 (T_stuck_hold.mk b5.fWho b5.fOp.fKind b5.fOp.fLock) (1 : Int))) from (put_ok (kv := (fun k => .agg #[.int .i64 k.fwho, .int .i64 k.fkind, .int .i64 k.flock])) (vv := (fun v => .one (.lit (.int .i64 v)))) keyInj_T_stuck_hold (T_stuck_hold.mk b5.fWho b5.fOp.fKind b5.fOp.fLock) (1 : Int) m7)) <| kX 0 (rA [(10, .m (encM (fun k => .agg #[.int .i64 k.fwho, .int .i64 k.fkind, .int .i64 k.flock]) (fun v => .one (.lit (.int .i64 v))) (mput m7 (T_stuck_hold.mk b5.fWho b5.fOp.fKind b5.fOp.fLock) (1 : Int))))]) <| kL 5 hg_stuck_Rises_c0) (kB (kH (show KeyOk Try.prog 59 (.agg #[.int .i64 ((T_stuck_hold.mk b5.fWho (1 : Int) b5.fOp.fLock).fwho), .int .i64 ((T_stuck_hold.mk b5.fWho (1 : Int) b5.fOp.fLock).fkind), .int .i64 ((T_stuck_hold.mk b5.fWho (1 : Int) b5.fOp.fLock).flock)]) ((encM (fun k => .agg #[.int .i64 k.fwho, .int .i64 k.fkind, .int .i64 k.flock]) (fun v => .one (.lit (.int .i64 v))) m7).map (·.1)) from (keyOk_T_stuck_hold (T_stuck_hold.mk b5.fWho (1 : Int) b5.fOp.fLock) m7)) <| kH (show MDel (encM (fun k => .agg #[.int .i64 k.fwho, .int .i64 k.fkind, .int .i64 k.flock]) (fun v => .one (.lit (.int .i64 v))) m7) (.agg #[.int .i64 ((T_stuck_hold.mk b5.fWho (1 : Int) b5.fOp.fLock).fwho), .int .i64 ((T_stuck_hold.mk b5.fWho (1 : Int) b5.fOp.fLock).fkind), .int .i64 ((T_stuck_hold.mk b5.fWho (1 : Int) b5.fOp.fLock).flock)]) (encM (fun k => .agg #[.int .i64 k.fwho, .int .i64 k.fkind, .int .i64 k.flock]) (fun v => .one (.lit (.int .i64 v))) (mdel m7 (T_stuck_hold.mk b5.fWho (1 : Int) b5.fOp.fLock))) from (del_ok (kv := (fun k => .agg #[.int .i64 k.fwho, .int .i64 k.fkind, .int .i64 k.flock])) (vv := (fun v => .one (.lit (.int .i64 v)))) keyInj_T_stuck_hold (T_stuck_hold.mk b5.fWho (1 : Int) b5.fOp.fLock) m7)) <| kX 1 (rA [(7, .m (encM (fun k => .agg #[.int .i64 k.fwho, .int .i64 k.fkind, .int .i64 k.flock]) (fun v => .one (.lit (.int .i64 v))) (mdel m7 (T_stuck_hold.mk b5.fWho (1 : Int) b5.fOp.fLock))))]) <| kL 9 hg_stuck_Rises_c0) (kB (kH (show KeyOk Try.prog 59 (.agg #[.int .i64 ((T_stuck_hold.mk b5.fWho (2 : Int) b5.fOp.fLock).fwho), .int .i64 ((T_stuck_hold.mk b5.fWho (2 : Int) b5.fOp.fLock).fkind), .int .i64 ((T_stuck_hold.mk b5.fWho (2 : Int) b5.fOp.fLock).flock)]) ((encM (fun k => .agg #[.int .i64 k.fwho, .int .i64 k.fkind, .int .i64 k.flock]) (fun v => .one (.lit (.int .i64 v))) m7).map (·.1)) from (keyOk_T_stuck_hold (T_stuck_hold.mk b5.fWho (2 : Int) b5.fOp.fLock) m7)) <| kH (show MDel (encM (fun k => .agg #[.int .i64 k.fwho, .int .i64 k.fkind, .int .i64 k.flock]) (fun v => .one (.lit (.int .i64 v))) m7) (.agg #[.int .i64 ((T_stuck_hold.mk b5.fWho (2 : Int) b5.fOp.fLock).fwho), .int .i64 ((T_stuck_hold.mk b5.fWho (2 : Int) b5.fOp.fLock).fkind), .int .i64 ((T_stuck_hold.mk b5.fWho (2 : Int) b5.fOp.fLock).flock)]) (encM (fun k => .agg #[.int .i64 k.fwho, .int .i64 k.fkind, .int .i64 k.flock]) (fun v => .one (.lit (.int .i64 v))) (mdel m7 (T_stuck_hold.mk b5.fWho (2 : Int) b5.fOp.fLock))) from (del_ok (kv := (fun k => .agg #[.int .i64 k.fwho, .int .i64 k.fkind, .int .i64 k.flock])) (vv := (fun v => .one (.lit (.int .i64 v)))) keyInj_T_stuck_hold (T_stuck_hold.mk b5.fWho (2 : Int) b5.fOp.fLock) m7)) <| kX 2 (rA [(7, .m (encM (fun k => .agg #[.int .i64 k.fwho, .int .i64 k.fkind, .int .i64 k.flock]) (fun v => .one (.lit (.int .i64 v))) (mdel m7 (T_stuck_hold.mk b5.fWho (2 : Int) b5.fOp.fLock))))]) <| kL 12 hg_stuck_Rises_c0) (kL 12 hg_stuck_Rises_c0)))

def g_stuck_Rises_c0   : Nat → (List T_api_Step) → Int → Int → (List (T_stuck_hold × Int)) → Option Int
  | 0, _, _, _, _ => none
  | fu + 1, v8, v9, v10, m7 =>
    bif (decide (v10 < v9)) then
      need (0 ≤ v10 ∧ v10 < ((v8.length : Nat) : Int)) <|
      bif (((v8.getD v10.toNat T_api_Step.d).fOp).fKind == (1 : Int)) then
        g_stuck_Rises_c1 v8 v9 v10 (g_stuck_Rises_c0   fu) (((v8.getD v10.toNat T_api_Step.d).fOp).fKind) (((v8.getD v10.toNat T_api_Step.d).fOp).fKind == (1 : Int)) m7 (v8.getD v10.toNat T_api_Step.d)
      else
        g_stuck_Rises_c1 v8 v9 v10 (g_stuck_Rises_c0   fu) (((v8.getD v10.toNat T_api_Step.d).fOp).fKind) (((v8.getD v10.toNat T_api_Step.d).fOp).fKind == (2 : Int)) m7 (v8.getD v10.toNat T_api_Step.d)
    else
      some (-1 : Int)

theorem g_stuck_Rises_c0_ok   : ∀ {fu v8 v9 v10 m7}, LS z Try.f8 [1, 1, 0, 1, 0] (g_stuck_Rises_c0 fu v8 v9 v10 m7) (fun r => .one (.lit (.int .i64 r))) ⟨[(3, .one (.mp 7)), (8, .one (cL 37 T_api_Step.c T_api_Step.d v8)), (9, .one (.lit (.int .i64 v9))), (10, .one (.lit (.int .i64 v10)))], [(7, .map 1000059 (encM (fun k => .agg #[.int .i64 k.fwho, .int .i64 k.fkind, .int .i64 k.flock]) (fun v => .one (.lit (.int .i64 v))) m7))]⟩ := by
  intro fu
  induction fu with
  | zero => exact kZ
  | succ fu ih => exact kB (kN <| kB (kL 18 (g_stuck_Rises_c1_ok ih)) (kL 18 (g_stuck_Rises_c1_ok ih))) kR0

/-- doorman/stuck.Rises -/
def g_stuck_Rises (a0 : (List T_api_Step)) : Option Int :=
  g_stuck_Rises_c0   ((((a0.length : Nat) : Int) - (0 : Int)).toNat + 2) a0 ((a0.length : Nat) : Int) (0 : Int) ([] : (List (T_stuck_hold × Int)))

instance i_g_stuck_Rises {a0} : Con (g_stuck_Rises a0) (eS 8 [.one (cL 37 T_api_Step.c T_api_Step.d a0)] fun r => .one (.lit (.int .i64 r))) := kS Try.func8 (kL 8 (kF (st := ⟨[(3, .one (.mp 7)), (8, .one (cL 37 T_api_Step.c T_api_Step.d a0)), (9, .one (.lit (.int .i64 ((a0.length : Nat) : Int)))), (10, .one (.lit (.int .i64 (0 : Int))))], [(7, .map 59 (encM (fun k : T_stuck_hold => .agg #[.int .i64 k.fwho, .int .i64 k.fkind, .int .i64 k.flock]) (fun v : Int => .one (.lit (.int .i64 v))) []))]⟩) 7 g_stuck_Rises_c0_ok))


/-- doorman/doormanlaw48.awake -/
def g_doormanlaw48_awake  : Option Bool :=
  (g_stuck_Round ([((0 : Int), (1 : Int)), ((1 : Int), (0 : Int))] : List (Int × Int))).bind fun x1 =>
  bif x1 then
    (g_stuck_Round ([((0 : Int), (1 : Int))] : List (Int × Int))).bind fun x2 =>
    bif (!x2) then
      (g_stuck_Rises ([(T_api_Step.mk (0 : Int) (0 : Int) (T_api_Op.mk (1 : Int) (1 : Int) (T_api_Loc.mk (0 : Int) (0 : Int) (0 : Int)) (0 : Int) (0 : Int) (T_api_Value.mk (0 : Int) (T_api_Peer.mk (T_api_End.mk (T_api_Addr.mk false (0 : Int) (0 : Int)) (0 : Int)) false (0 : Int) (T_api_Score.mk (0 : Int) (0 : Int)) (0 : Int) (0 : Int)) ([] : (List T_api_Ban)) ([] : (List T_api_Entry))) false) (T_api_Value.mk (0 : Int) (T_api_Peer.mk (T_api_End.mk (T_api_Addr.mk false (0 : Int) (0 : Int)) (0 : Int)) false (0 : Int) (T_api_Score.mk (0 : Int) (0 : Int)) (0 : Int) (0 : Int)) ([] : (List T_api_Ban)) ([] : (List T_api_Entry))) false), (T_api_Step.mk (0 : Int) (0 : Int) (T_api_Op.mk (1 : Int) (0 : Int) (T_api_Loc.mk (0 : Int) (0 : Int) (0 : Int)) (0 : Int) (0 : Int) (T_api_Value.mk (0 : Int) (T_api_Peer.mk (T_api_End.mk (T_api_Addr.mk false (0 : Int) (0 : Int)) (0 : Int)) false (0 : Int) (T_api_Score.mk (0 : Int) (0 : Int)) (0 : Int) (0 : Int)) ([] : (List T_api_Ban)) ([] : (List T_api_Entry))) false) (T_api_Value.mk (0 : Int) (T_api_Peer.mk (T_api_End.mk (T_api_Addr.mk false (0 : Int) (0 : Int)) (0 : Int)) false (0 : Int) (T_api_Score.mk (0 : Int) (0 : Int)) (0 : Int) (0 : Int)) ([] : (List T_api_Ban)) ([] : (List T_api_Entry))) false)] : List T_api_Step)).bind fun x3 =>
      bif (x3 == (1 : Int)) then
        need (0 ≤ (1 : Int) ∧ (1 : Int) ≤ ((([(T_api_Step.mk (0 : Int) (0 : Int) (T_api_Op.mk (1 : Int) (1 : Int) (T_api_Loc.mk (0 : Int) (0 : Int) (0 : Int)) (0 : Int) (0 : Int) (T_api_Value.mk (0 : Int) (T_api_Peer.mk (T_api_End.mk (T_api_Addr.mk false (0 : Int) (0 : Int)) (0 : Int)) false (0 : Int) (T_api_Score.mk (0 : Int) (0 : Int)) (0 : Int) (0 : Int)) ([] : (List T_api_Ban)) ([] : (List T_api_Entry))) false) (T_api_Value.mk (0 : Int) (T_api_Peer.mk (T_api_End.mk (T_api_Addr.mk false (0 : Int) (0 : Int)) (0 : Int)) false (0 : Int) (T_api_Score.mk (0 : Int) (0 : Int)) (0 : Int) (0 : Int)) ([] : (List T_api_Ban)) ([] : (List T_api_Entry))) false), (T_api_Step.mk (0 : Int) (0 : Int) (T_api_Op.mk (1 : Int) (0 : Int) (T_api_Loc.mk (0 : Int) (0 : Int) (0 : Int)) (0 : Int) (0 : Int) (T_api_Value.mk (0 : Int) (T_api_Peer.mk (T_api_End.mk (T_api_Addr.mk false (0 : Int) (0 : Int)) (0 : Int)) false (0 : Int) (T_api_Score.mk (0 : Int) (0 : Int)) (0 : Int) (0 : Int)) ([] : (List T_api_Ban)) ([] : (List T_api_Entry))) false) (T_api_Value.mk (0 : Int) (T_api_Peer.mk (T_api_End.mk (T_api_Addr.mk false (0 : Int) (0 : Int)) (0 : Int)) false (0 : Int) (T_api_Score.mk (0 : Int) (0 : Int)) (0 : Int) (0 : Int)) ([] : (List T_api_Ban)) ([] : (List T_api_Entry))) false)] : List T_api_Step).length : Nat) : Int)) <|
        (g_stuck_Rises (([(T_api_Step.mk (0 : Int) (0 : Int) (T_api_Op.mk (1 : Int) (1 : Int) (T_api_Loc.mk (0 : Int) (0 : Int) (0 : Int)) (0 : Int) (0 : Int) (T_api_Value.mk (0 : Int) (T_api_Peer.mk (T_api_End.mk (T_api_Addr.mk false (0 : Int) (0 : Int)) (0 : Int)) false (0 : Int) (T_api_Score.mk (0 : Int) (0 : Int)) (0 : Int) (0 : Int)) ([] : (List T_api_Ban)) ([] : (List T_api_Entry))) false) (T_api_Value.mk (0 : Int) (T_api_Peer.mk (T_api_End.mk (T_api_Addr.mk false (0 : Int) (0 : Int)) (0 : Int)) false (0 : Int) (T_api_Score.mk (0 : Int) (0 : Int)) (0 : Int) (0 : Int)) ([] : (List T_api_Ban)) ([] : (List T_api_Entry))) false), (T_api_Step.mk (0 : Int) (0 : Int) (T_api_Op.mk (1 : Int) (0 : Int) (T_api_Loc.mk (0 : Int) (0 : Int) (0 : Int)) (0 : Int) (0 : Int) (T_api_Value.mk (0 : Int) (T_api_Peer.mk (T_api_End.mk (T_api_Addr.mk false (0 : Int) (0 : Int)) (0 : Int)) false (0 : Int) (T_api_Score.mk (0 : Int) (0 : Int)) (0 : Int) (0 : Int)) ([] : (List T_api_Ban)) ([] : (List T_api_Entry))) false) (T_api_Value.mk (0 : Int) (T_api_Peer.mk (T_api_End.mk (T_api_Addr.mk false (0 : Int) (0 : Int)) (0 : Int)) false (0 : Int) (T_api_Score.mk (0 : Int) (0 : Int)) (0 : Int) (0 : Int)) ([] : (List T_api_Ban)) ([] : (List T_api_Entry))) false)] : List T_api_Step).take (1 : Int).toNat)).bind fun x4 =>
        some (x4 == (-1 : Int))
      else
        some false
    else
      some false
  else
    some false

instance i_g_doormanlaw48_awake  : Con (g_doormanlaw48_awake) (eS 5 [] fun r => .one (.lit (.bool r))) := kS Try.func5 (kM 1 4 T_api_Step.E ([(T_api_Step.mk (0 : Int) (0 : Int) (T_api_Op.mk (1 : Int) (1 : Int) (T_api_Loc.mk (0 : Int) (0 : Int) (0 : Int)) (0 : Int) (0 : Int) (T_api_Value.mk (0 : Int) (T_api_Peer.mk (T_api_End.mk (T_api_Addr.mk false (0 : Int) (0 : Int)) (0 : Int)) false (0 : Int) (T_api_Score.mk (0 : Int) (0 : Int)) (0 : Int) (0 : Int)) ([] : (List T_api_Ban)) ([] : (List T_api_Entry))) false) (T_api_Value.mk (0 : Int) (T_api_Peer.mk (T_api_End.mk (T_api_Addr.mk false (0 : Int) (0 : Int)) (0 : Int)) false (0 : Int) (T_api_Score.mk (0 : Int) (0 : Int)) (0 : Int) (0 : Int)) ([] : (List T_api_Ban)) ([] : (List T_api_Entry))) false), (T_api_Step.mk (0 : Int) (0 : Int) (T_api_Op.mk (1 : Int) (0 : Int) (T_api_Loc.mk (0 : Int) (0 : Int) (0 : Int)) (0 : Int) (0 : Int) (T_api_Value.mk (0 : Int) (T_api_Peer.mk (T_api_End.mk (T_api_Addr.mk false (0 : Int) (0 : Int)) (0 : Int)) false (0 : Int) (T_api_Score.mk (0 : Int) (0 : Int)) (0 : Int) (0 : Int)) ([] : (List T_api_Ban)) ([] : (List T_api_Entry))) false) (T_api_Value.mk (0 : Int) (T_api_Peer.mk (T_api_End.mk (T_api_Addr.mk false (0 : Int) (0 : Int)) (0 : Int)) false (0 : Int) (T_api_Score.mk (0 : Int) (0 : Int)) (0 : Int) (0 : Int)) ([] : (List T_api_Ban)) ([] : (List T_api_Entry))) false)] : List T_api_Step) <| kM 2 2 ⟨2, (cP (cI .i64) (cI .i64)), ((0 : Int), (0 : Int))⟩ ([((0 : Int), (1 : Int)), ((1 : Int), (0 : Int))] : List (Int × Int)) <| kC fun _ => kB (kM 2 6 ⟨2, (cP (cI .i64) (cI .i64)), ((0 : Int), (0 : Int))⟩ ([((0 : Int), (1 : Int))] : List (Int × Int)) <| kC fun _ => kB (kC fun _ => kB (kNm fun o7 => kH (show (([(T_api_Step.mk (0 : Int) (0 : Int) (T_api_Op.mk (1 : Int) (1 : Int) (T_api_Loc.mk (0 : Int) (0 : Int) (0 : Int)) (0 : Int) (0 : Int) (T_api_Value.mk (0 : Int) (T_api_Peer.mk (T_api_End.mk (T_api_Addr.mk false (0 : Int) (0 : Int)) (0 : Int)) false (0 : Int) (T_api_Score.mk (0 : Int) (0 : Int)) (0 : Int) (0 : Int)) ([] : (List T_api_Ban)) ([] : (List T_api_Entry))) false) (T_api_Value.mk (0 : Int) (T_api_Peer.mk (T_api_End.mk (T_api_Addr.mk false (0 : Int) (0 : Int)) (0 : Int)) false (0 : Int) (T_api_Score.mk (0 : Int) (0 : Int)) (0 : Int) (0 : Int)) ([] : (List T_api_Ban)) ([] : (List T_api_Entry))) false), (T_api_Step.mk (0 : Int) (0 : Int) (T_api_Op.mk (1 : Int) (0 : Int) (T_api_Loc.mk (0 : Int) (0 : Int) (0 : Int)) (0 : Int) (0 : Int) (T_api_Value.mk (0 : Int) (T_api_Peer.mk (T_api_End.mk (T_api_Addr.mk false (0 : Int) (0 : Int)) (0 : Int)) false (0 : Int) (T_api_Score.mk (0 : Int) (0 : Int)) (0 : Int) (0 : Int)) ([] : (List T_api_Ban)) ([] : (List T_api_Entry))) false) (T_api_Value.mk (0 : Int) (T_api_Peer.mk (T_api_End.mk (T_api_Addr.mk false (0 : Int) (0 : Int)) (0 : Int)) false (0 : Int) (T_api_Score.mk (0 : Int) (0 : Int)) (0 : Int) (0 : Int)) ([] : (List T_api_Ban)) ([] : (List T_api_Entry))) false)] : List T_api_Step).take (1 : Int).toNat).length = (1 : Int).toNat ∧ ∀ i j, i < (1 : Int).toNat → j < 37 → rowsOf T_api_Step.c T_api_Step.d (([(T_api_Step.mk (0 : Int) (0 : Int) (T_api_Op.mk (1 : Int) (1 : Int) (T_api_Loc.mk (0 : Int) (0 : Int) (0 : Int)) (0 : Int) (0 : Int) (T_api_Value.mk (0 : Int) (T_api_Peer.mk (T_api_End.mk (T_api_Addr.mk false (0 : Int) (0 : Int)) (0 : Int)) false (0 : Int) (T_api_Score.mk (0 : Int) (0 : Int)) (0 : Int) (0 : Int)) ([] : (List T_api_Ban)) ([] : (List T_api_Entry))) false) (T_api_Value.mk (0 : Int) (T_api_Peer.mk (T_api_End.mk (T_api_Addr.mk false (0 : Int) (0 : Int)) (0 : Int)) false (0 : Int) (T_api_Score.mk (0 : Int) (0 : Int)) (0 : Int) (0 : Int)) ([] : (List T_api_Ban)) ([] : (List T_api_Entry))) false), (T_api_Step.mk (0 : Int) (0 : Int) (T_api_Op.mk (1 : Int) (0 : Int) (T_api_Loc.mk (0 : Int) (0 : Int) (0 : Int)) (0 : Int) (0 : Int) (T_api_Value.mk (0 : Int) (T_api_Peer.mk (T_api_End.mk (T_api_Addr.mk false (0 : Int) (0 : Int)) (0 : Int)) false (0 : Int) (T_api_Score.mk (0 : Int) (0 : Int)) (0 : Int) (0 : Int)) ([] : (List T_api_Ban)) ([] : (List T_api_Entry))) false) (T_api_Value.mk (0 : Int) (T_api_Peer.mk (T_api_End.mk (T_api_Addr.mk false (0 : Int) (0 : Int)) (0 : Int)) false (0 : Int) (T_api_Score.mk (0 : Int) (0 : Int)) (0 : Int) (0 : Int)) ([] : (List T_api_Ban)) ([] : (List T_api_Entry))) false)] : List T_api_Step).take (1 : Int).toNat) i j = rowsOf T_api_Step.c T_api_Step.d ([(T_api_Step.mk (0 : Int) (0 : Int) (T_api_Op.mk (1 : Int) (1 : Int) (T_api_Loc.mk (0 : Int) (0 : Int) (0 : Int)) (0 : Int) (0 : Int) (T_api_Value.mk (0 : Int) (T_api_Peer.mk (T_api_End.mk (T_api_Addr.mk false (0 : Int) (0 : Int)) (0 : Int)) false (0 : Int) (T_api_Score.mk (0 : Int) (0 : Int)) (0 : Int) (0 : Int)) ([] : (List T_api_Ban)) ([] : (List T_api_Entry))) false) (T_api_Value.mk (0 : Int) (T_api_Peer.mk (T_api_End.mk (T_api_Addr.mk false (0 : Int) (0 : Int)) (0 : Int)) false (0 : Int) (T_api_Score.mk (0 : Int) (0 : Int)) (0 : Int) (0 : Int)) ([] : (List T_api_Ban)) ([] : (List T_api_Entry))) false), (T_api_Step.mk (0 : Int) (0 : Int) (T_api_Op.mk (1 : Int) (0 : Int) (T_api_Loc.mk (0 : Int) (0 : Int) (0 : Int)) (0 : Int) (0 : Int) (T_api_Value.mk (0 : Int) (T_api_Peer.mk (T_api_End.mk (T_api_Addr.mk false (0 : Int) (0 : Int)) (0 : Int)) false (0 : Int) (T_api_Score.mk (0 : Int) (0 : Int)) (0 : Int) (0 : Int)) ([] : (List T_api_Ban)) ([] : (List T_api_Entry))) false) (T_api_Value.mk (0 : Int) (T_api_Peer.mk (T_api_End.mk (T_api_Addr.mk false (0 : Int) (0 : Int)) (0 : Int)) false (0 : Int) (T_api_Score.mk (0 : Int) (0 : Int)) (0 : Int) (0 : Int)) ([] : (List T_api_Ban)) ([] : (List T_api_Entry))) false)] : List T_api_Step) i j from (piece_take _ _ o7)) <| kH o7 <| kC fun _ => kX 1 ⟨[], [], [], [], [(1, [(20, cL 5 T_api_Ban.c T_api_Ban.d []), (21, cL 7 T_api_Entry.c T_api_Entry.d []), (34, cL 5 T_api_Ban.c T_api_Ban.d []), (35, cL 7 T_api_Entry.c T_api_Entry.d [])]), (3, [(20, cL 5 T_api_Ban.c T_api_Ban.d []), (21, cL 7 T_api_Entry.c T_api_Entry.d []), (34, cL 5 T_api_Ban.c T_api_Ban.d []), (35, cL 7 T_api_Entry.c T_api_Entry.d [])])], [], []⟩ <| kX 2 ⟨[], [], [], [], [], [(17, ((([(T_api_Step.mk (0 : Int) (0 : Int) (T_api_Op.mk (1 : Int) (1 : Int) (T_api_Loc.mk (0 : Int) (0 : Int) (0 : Int)) (0 : Int) (0 : Int) (T_api_Value.mk (0 : Int) (T_api_Peer.mk (T_api_End.mk (T_api_Addr.mk false (0 : Int) (0 : Int)) (0 : Int)) false (0 : Int) (T_api_Score.mk (0 : Int) (0 : Int)) (0 : Int) (0 : Int)) ([] : (List T_api_Ban)) ([] : (List T_api_Entry))) false) (T_api_Value.mk (0 : Int) (T_api_Peer.mk (T_api_End.mk (T_api_Addr.mk false (0 : Int) (0 : Int)) (0 : Int)) false (0 : Int) (T_api_Score.mk (0 : Int) (0 : Int)) (0 : Int) (0 : Int)) ([] : (List T_api_Ban)) ([] : (List T_api_Entry))) false), (T_api_Step.mk (0 : Int) (0 : Int) (T_api_Op.mk (1 : Int) (0 : Int) (T_api_Loc.mk (0 : Int) (0 : Int) (0 : Int)) (0 : Int) (0 : Int) (T_api_Value.mk (0 : Int) (T_api_Peer.mk (T_api_End.mk (T_api_Addr.mk false (0 : Int) (0 : Int)) (0 : Int)) false (0 : Int) (T_api_Score.mk (0 : Int) (0 : Int)) (0 : Int) (0 : Int)) ([] : (List T_api_Ban)) ([] : (List T_api_Entry))) false) (T_api_Value.mk (0 : Int) (T_api_Peer.mk (T_api_End.mk (T_api_Addr.mk false (0 : Int) (0 : Int)) (0 : Int)) false (0 : Int) (T_api_Score.mk (0 : Int) (0 : Int)) (0 : Int) (0 : Int)) ([] : (List T_api_Ban)) ([] : (List T_api_Entry))) false)] : List T_api_Step).take (1 : Int).toNat).length, rowsOf T_api_Step.c T_api_Step.d (([(T_api_Step.mk (0 : Int) (0 : Int) (T_api_Op.mk (1 : Int) (1 : Int) (T_api_Loc.mk (0 : Int) (0 : Int) (0 : Int)) (0 : Int) (0 : Int) (T_api_Value.mk (0 : Int) (T_api_Peer.mk (T_api_End.mk (T_api_Addr.mk false (0 : Int) (0 : Int)) (0 : Int)) false (0 : Int) (T_api_Score.mk (0 : Int) (0 : Int)) (0 : Int) (0 : Int)) ([] : (List T_api_Ban)) ([] : (List T_api_Entry))) false) (T_api_Value.mk (0 : Int) (T_api_Peer.mk (T_api_End.mk (T_api_Addr.mk false (0 : Int) (0 : Int)) (0 : Int)) false (0 : Int) (T_api_Score.mk (0 : Int) (0 : Int)) (0 : Int) (0 : Int)) ([] : (List T_api_Ban)) ([] : (List T_api_Entry))) false), (T_api_Step.mk (0 : Int) (0 : Int) (T_api_Op.mk (1 : Int) (0 : Int) (T_api_Loc.mk (0 : Int) (0 : Int) (0 : Int)) (0 : Int) (0 : Int) (T_api_Value.mk (0 : Int) (T_api_Peer.mk (T_api_End.mk (T_api_Addr.mk false (0 : Int) (0 : Int)) (0 : Int)) false (0 : Int) (T_api_Score.mk (0 : Int) (0 : Int)) (0 : Int) (0 : Int)) ([] : (List T_api_Ban)) ([] : (List T_api_Entry))) false) (T_api_Value.mk (0 : Int) (T_api_Peer.mk (T_api_End.mk (T_api_Addr.mk false (0 : Int) (0 : Int)) (0 : Int)) false (0 : Int) (T_api_Score.mk (0 : Int) (0 : Int)) (0 : Int) (0 : Int)) ([] : (List T_api_Ban)) ([] : (List T_api_Entry))) false)] : List T_api_Step).take (1 : Int).toNat)))], []⟩ <| kR0) (kX 1 ⟨[], [], [], [], [(1, [(20, cL 5 T_api_Ban.c T_api_Ban.d []), (21, cL 7 T_api_Entry.c T_api_Entry.d []), (34, cL 5 T_api_Ban.c T_api_Ban.d []), (35, cL 7 T_api_Entry.c T_api_Entry.d [])]), (3, [(20, cL 5 T_api_Ban.c T_api_Ban.d []), (21, cL 7 T_api_Entry.c T_api_Entry.d []), (34, cL 5 T_api_Ban.c T_api_Ban.d []), (35, cL 7 T_api_Entry.c T_api_Entry.d [])])], [], []⟩ <| kR0)) (kK false <| kX 1 ⟨[], [], [], [], [(1, [(20, cL 5 T_api_Ban.c T_api_Ban.d []), (21, cL 7 T_api_Entry.c T_api_Entry.d []), (34, cL 5 T_api_Ban.c T_api_Ban.d []), (35, cL 7 T_api_Entry.c T_api_Entry.d [])]), (3, [(20, cL 5 T_api_Ban.c T_api_Ban.d []), (21, cL 7 T_api_Entry.c T_api_Entry.d []), (34, cL 5 T_api_Ban.c T_api_Ban.d []), (35, cL 7 T_api_Entry.c T_api_Entry.d [])])], [], []⟩ <| kR0)) (kK false <| kK false <| kX 1 ⟨[], [], [], [], [(1, [(20, cL 5 T_api_Ban.c T_api_Ban.d []), (21, cL 7 T_api_Entry.c T_api_Entry.d []), (34, cL 5 T_api_Ban.c T_api_Ban.d []), (35, cL 7 T_api_Entry.c T_api_Entry.d [])]), (3, [(20, cL 5 T_api_Ban.c T_api_Ban.d []), (21, cL 7 T_api_Entry.c T_api_Entry.d []), (34, cL 5 T_api_Ban.c T_api_Ban.d []), (35, cL 7 T_api_Entry.c T_api_Entry.d [])])], [], []⟩ <| kR0))

def g_doormanref48_has_c0 (a0 : (List Int)) (a1 : Int)  : Nat → Int → Option Bool
  | 0, _ => none
  | fu + 1, v5 =>
    bif (decide (v5 < ((a0.length : Nat) : Int))) then
      need (0 ≤ v5 ∧ v5 < ((a0.length : Nat) : Int)) <|
      bif ((a0.getD v5.toNat (0 : Int)) == a1) then
        some true
      else
        g_doormanref48_has_c0 a0 a1  fu (add64 v5 (1 : Int))
    else
      some false

theorem g_doormanref48_has_c0_ok {a0 a1}  : ∀ {fu v5}, LS z Try.f20 [1, 0, 1, 0] (g_doormanref48_has_c0 a0 a1 fu v5) (fun r => .one (.lit (.bool r))) ⟨[(0, .one (cL 1 (cI .i64) (0 : Int) a0)), (1, .one (.lit (.int .i64 a1))), (5, .one (.lit (.int .i64 v5)))], []⟩ := by
  intro fu
  induction fu with
  | zero => exact kZ
  | succ fu ih => exact kB (kN <| kB kR0 (kL 15 ih)) kR0

/-- doorman/doormanref48.has -/
def g_doormanref48_has (a0 : (List Int)) (a1 : Int) : Option Bool :=
  g_doormanref48_has_c0 a0 a1  ((((a0.length : Nat) : Int) - (0 : Int)).toNat + 2) (0 : Int)

instance i_g_doormanref48_has {a0} {a1} : Con (g_doormanref48_has a0 a1) (eS 20 [.one (cL 1 (cI .i64) (0 : Int) a0), .one (.lit (.int .i64 a1))] fun r => .one (.lit (.bool r))) := kS Try.func20 (kL 6 g_doormanref48_has_c0_ok)

def g_doormanref48_Round_c3 (v0 : (List (Int × Int))) (v3 : Int) (v5 : Int) (kg_doormanref48_Round_c1 : Int → Option Bool) (kg_doormanref48_Round_c2 : Int → (List Int) → Option Bool) : Nat → Int → (List Int) → Option Bool
  | 0, _, _ => none
  | fu + 1, v6, w4 =>
    bif (decide (v6 < ((v0.length : Nat) : Int))) then
      need (0 ≤ v6 ∧ v6 < ((v0.length : Nat) : Int)) <|
      need (0 ≤ v5 ∧ v5 < ((w4.length : Nat) : Int)) <|
      bif ((v0.getD v6.toNat ((0 : Int), (0 : Int))).1 == (w4.getD v5.toNat (0 : Int))) then
        (g_doormanref48_has w4 ((v0.getD v6.toNat ((0 : Int), (0 : Int))).2)).bind fun x1 =>
        bif (!x1) then
          need ((w4 ++ ([(v0.getD v6.toNat ((0 : Int), (0 : Int))).2] : List Int)).length * 8 ≤ 140737488355328 ∧ (w4 ++ ([(v0.getD v6.toNat ((0 : Int), (0 : Int))).2] : List Int)).length ≤ maxLen) <|
          g_doormanref48_Round_c3 v0 v3 v5 kg_doormanref48_Round_c1 kg_doormanref48_Round_c2 fu (add64 v6 (1 : Int)) (w4 ++ ([(v0.getD v6.toNat ((0 : Int), (0 : Int))).2] : List Int))
        else
          g_doormanref48_Round_c3 v0 v3 v5 kg_doormanref48_Round_c1 kg_doormanref48_Round_c2 fu (add64 v6 (1 : Int)) w4
      else
        g_doormanref48_Round_c3 v0 v3 v5 kg_doormanref48_Round_c1 kg_doormanref48_Round_c2 fu (add64 v6 (1 : Int)) w4
    else
      kg_doormanref48_Round_c2 (add64 v5 (1 : Int)) w4

theorem g_doormanref48_Round_c3_ok {v0 : (List (Int × Int))} {v3 : Int} {v5 : Int} {kg_doormanref48_Round_c1 : Int → Option Bool} {kg_doormanref48_Round_c2 : Int → (List Int) → Option Bool} (hg_doormanref48_Round_c1 : ∀ {v3_}, LS z Try.f7 [1, 1, 0, 1, 0] (kg_doormanref48_Round_c1 v3_) (fun r => .one (.lit (.bool r))) ⟨[(0, .one (cL 2 (cP (cI .i64) (cI .i64)) ((0 : Int), (0 : Int)) v0)), (3, .one (.lit (.int .i64 v3_)))], []⟩) (hg_doormanref48_Round_c2 : ∀ {v5_ w4_}, LS z Try.f7 [1, 1, 0, 1, 0, 0, 1, 0, 0, 1, 1, 0] (kg_doormanref48_Round_c2 v5_ w4_) (fun r => .one (.lit (.bool r))) ⟨[(0, .one (cL 2 (cP (cI .i64) (cI .i64)) ((0 : Int), (0 : Int)) v0)), (3, .one (.lit (.int .i64 v3))), (4, .one (.osl 4 w4_.length)), (5, .one (.lit (.int .i64 v5_)))], [(4, .rows 3 1 w4_.length (rowsOf (cI .i64) (0 : Int) w4_))]⟩) : ∀ {fu v6 w4}, LS z Try.f7 [1, 1, 0, 1, 0, 0, 1, 0, 0, 1, 1, 0, 0, 1, 0, 0, 1, 1, 0] (g_doormanref48_Round_c3 v0 v3 v5 kg_doormanref48_Round_c1 kg_doormanref48_Round_c2 fu v6 w4) (fun r => .one (.lit (.bool r))) ⟨[(0, .one (cL 2 (cP (cI .i64) (cI .i64)) ((0 : Int), (0 : Int)) v0)), (3, .one (.lit (.int .i64 v3))), (4, .one (.osl 4 w4.length)), (5, .one (.lit (.int .i64 v5))), (6, .one (.lit (.int .i64 v6)))], [(4, .rows 3 1 w4.length (rowsOf (cI .i64) (0 : Int) w4))]⟩ := by
  intro fu
  induction fu with
  | zero => exact kZ
  | succ fu ih => intro v6 w4; exact kB (kNq fun o11 => kH (show 0 ≤ (0 : Int) ∧ (0 : Int) < ((2 : Nat) : Int) from (by decide)) <| kNq fun o12 => kH (ltOf o12) <| kB (kH o11 <| kH (show 0 ≤ (1 : Int) ∧ (1 : Int) < ((2 : Nat) : Int) from (by decide)) <| kC fun _ => kB (kH o11 <| kH (show 0 ≤ (1 : Int) ∧ (1 : Int) < ((2 : Nat) : Int) from (by decide)) <| kM 2 6 (eI .i64) ([(v0.getD v6.toNat ((0 : Int), (0 : Int))).2] : List Int) <| kA 2 7 (eI .i64) <| kLr 15 [(77, 4)] ih) (kL 15 ih)) (kK false <| kL 15 ih)) (kL 9 hg_doormanref48_Round_c2)

def g_doormanref48_Round_c2 (v0 : (List (Int × Int))) (v3 : Int) (kg_doormanref48_Round_c1 : Int → Option Bool) : Nat → Int → (List Int) → Option Bool
  | 0, _, _ => none
  | fu + 1, v5, w4 =>
    bif (decide (v5 < ((w4.length : Nat) : Int))) then
      bif (decide (v5 < (70 : Int))) then
        need (0 ≤ v5 ∧ v5 < ((w4.length : Nat) : Int)) <|
        need (0 ≤ v3 ∧ v3 < ((v0.length : Nat) : Int)) <|
        bif ((w4.getD v5.toNat (0 : Int)) == (v0.getD v3.toNat ((0 : Int), (0 : Int))).1) then
          some true
        else
          g_doormanref48_Round_c3 v0 v3 v5 kg_doormanref48_Round_c1 (g_doormanref48_Round_c2 v0 v3 kg_doormanref48_Round_c1 fu) ((((v0.length : Nat) : Int) - (0 : Int)).toNat + 2) (0 : Int) w4
      else
        kg_doormanref48_Round_c1 (add64 v3 (1 : Int))
    else
      kg_doormanref48_Round_c1 (add64 v3 (1 : Int))

theorem g_doormanref48_Round_c2_ok {v0 : (List (Int × Int))} {v3 : Int} {kg_doormanref48_Round_c1 : Int → Option Bool} (hg_doormanref48_Round_c1 : ∀ {v3_}, LS z Try.f7 [1, 1, 0, 1, 0] (kg_doormanref48_Round_c1 v3_) (fun r => .one (.lit (.bool r))) ⟨[(0, .one (cL 2 (cP (cI .i64) (cI .i64)) ((0 : Int), (0 : Int)) v0)), (3, .one (.lit (.int .i64 v3_)))], []⟩) : ∀ {fu v5 w4}, LS z Try.f7 [1, 1, 0, 1, 0, 0, 1, 0, 0, 1, 1, 0] (g_doormanref48_Round_c2 v0 v3 kg_doormanref48_Round_c1 fu v5 w4) (fun r => .one (.lit (.bool r))) ⟨[(0, .one (cL 2 (cP (cI .i64) (cI .i64)) ((0 : Int), (0 : Int)) v0)), (3, .one (.lit (.int .i64 v3))), (4, .one (.osl 4 w4.length)), (5, .one (.lit (.int .i64 v5)))], [(4, .rows 3 1 w4.length (rowsOf (cI .i64) (0 : Int) w4))]⟩ := by
  intro fu
  induction fu with
  | zero => exact kZ
  | succ fu ih => exact kB (kB (kNq fun o7 => kH (ltOf o7) <| kN <| kH (show 0 ≤ (0 : Int) ∧ (0 : Int) < ((2 : Nat) : Int) from (by decide)) <| kB kR0 (kL 16 (g_doormanref48_Round_c3_ok hg_doormanref48_Round_c1 ih))) (kL 9 hg_doormanref48_Round_c1)) (kK false <| kL 9 hg_doormanref48_Round_c1)

def g_doormanref48_Round_c1 (v0 : (List (Int × Int)))  : Nat → Int → Option Bool
  | 0, _ => none
  | fu + 1, v3 =>
    bif (decide (v3 < ((v0.length : Nat) : Int))) then
      need (0 ≤ v3 ∧ v3 < ((v0.length : Nat) : Int)) <|
      g_doormanref48_Round_c2 v0 v3 (g_doormanref48_Round_c1 v0  fu) (((70 : Int) - (0 : Int)).toNat + 2) (0 : Int) ([(v0.getD v3.toNat ((0 : Int), (0 : Int))).2] : List Int)
    else
      some false

theorem g_doormanref48_Round_c1_ok {v0}  : ∀ {fu v3}, LS z Try.f7 [1, 1, 0, 1, 0] (g_doormanref48_Round_c1 v0 fu v3) (fun r => .one (.lit (.bool r))) ⟨[(0, .one (cL 2 (cP (cI .i64) (cI .i64)) ((0 : Int), (0 : Int)) v0)), (3, .one (.lit (.int .i64 v3)))], []⟩ := by
  intro fu
  induction fu with
  | zero => exact kZ
  | succ fu ih => intro v3; exact kB (kN <| kH (show 0 ≤ (1 : Int) ∧ (1 : Int) < ((2 : Nat) : Int) from (by decide)) <| kH (show ([(v0.getD v3.toNat ((0 : Int), (0 : Int))).2] : List Int).length = 1 from rfl) <| kH (show ∀ i j, i < 1 → j < 1 → rowsOf (cI .i64) (0 : Int) ([(v0.getD v3.toNat ((0 : Int), (0 : Int))).2] : List Int) i j = (([(v0.getD v3.toNat ((0 : Int), (0 : Int))).2] : List Int).flatMap (cI .i64)).getD (i * 1 + j) .junk from (fun i j hi hj => rows_flat (sz := 1) (e := (cI .i64)) (d := (0 : Int)) (fun _ => rfl) ([(v0.getD v3.toNat ((0 : Int), (0 : Int))).2] : List Int) i j hi hj)) <| kX 1 (rA [(5, .c ([(v0.getD v3.toNat ((0 : Int), (0 : Int))).2] : List Int).length (rowsOf (cI .i64) (0 : Int) ([(v0.getD v3.toNat ((0 : Int), (0 : Int))).2] : List Int)))]) <| kLr 13 [(23, 4)] (g_doormanref48_Round_c2_ok ih)) kR0

def g_doormanref48_Round_c0   (v0 : (List (Int × Int))) : Option Bool :=
  g_doormanref48_Round_c1 v0  ((((v0.length : Nat) : Int) - (0 : Int)).toNat + 2) (0 : Int)

theorem g_doormanref48_Round_c0_ok   {v0} : LS z Try.f7 [1, 1] (g_doormanref48_Round_c0 v0) (fun r => .one (.lit (.bool r))) ⟨[(0, .one (cL 2 (cP (cI .i64) (cI .i64)) ((0 : Int), (0 : Int)) v0))], []⟩ := kL 4 g_doormanref48_Round_c1_ok

/-- doorman/doormanref48.Round -/
def g_doormanref48_Round (a0 : (List (Int × Int))) : Option Bool :=
  bif (decide (((a0.length : Nat) : Int) > (64 : Int))) then
    need (0 ≤ (64 : Int) ∧ (64 : Int) ≤ ((a0.length : Nat) : Int)) <|
    g_doormanref48_Round_c0   (a0.take (64 : Int).toNat)
  else
    g_doormanref48_Round_c0   a0

instance i_g_doormanref48_Round {a0} : Con (g_doormanref48_Round a0) (eS 7 [.one (cL 2 (cP (cI .i64) (cI .i64)) ((0 : Int), (0 : Int)) a0)] fun r => .one (.lit (.bool r))) := kS Try.func7 (kB (kNm fun o2 => kH (show (a0.take (64 : Int).toNat).length = (64 : Int).toNat ∧ ∀ i j, i < (64 : Int).toNat → j < 2 → rowsOf (cP (cI .i64) (cI .i64)) ((0 : Int), (0 : Int)) (a0.take (64 : Int).toNat) i j = rowsOf (cP (cI .i64) (cI .i64)) ((0 : Int), (0 : Int)) a0 i j from (piece_take _ _ o2)) <| kH o2 <| kX 2 ⟨[], [], [], [], [], [(1, ((a0.take (64 : Int).toNat).length, rowsOf (cP (cI .i64) (cI .i64)) ((0 : Int), (0 : Int)) (a0.take (64 : Int).toNat)))], []⟩ <| kL 7 g_doormanref48_Round_c0_ok) (kL 7 g_doormanref48_Round_c0_ok))

def g_doormanref48_held_c0 (a0 : (List T_api_Step)) (a1 : Int) (a2 : Int) (a3 : Int) (a4 : Int)  : Nat → Bool → Int → Option Bool
  | 0, _, _ => none
  | fu + 1, v11, v12 =>
    bif (decide (v12 < ((a0.length : Nat) : Int))) then
      need (0 ≤ v12 ∧ v12 < ((a0.length : Nat) : Int)) <|
      bif ((a0.getD v12.toNat T_api_Step.d).fWho == a1) then
        bif (((a0.getD v12.toNat T_api_Step.d).fOp).fLock == a4) then
          bif (((a0.getD v12.toNat T_api_Step.d).fOp).fKind == a2) then
            bif (((a0.getD v12.toNat T_api_Step.d).fOp).fKind == a3) then
              g_doormanref48_held_c0 a0 a1 a2 a3 a4  fu false (add64 v12 (1 : Int))
            else
              g_doormanref48_held_c0 a0 a1 a2 a3 a4  fu true (add64 v12 (1 : Int))
          else
            bif (((a0.getD v12.toNat T_api_Step.d).fOp).fKind == a3) then
              g_doormanref48_held_c0 a0 a1 a2 a3 a4  fu false (add64 v12 (1 : Int))
            else
              g_doormanref48_held_c0 a0 a1 a2 a3 a4  fu v11 (add64 v12 (1 : Int))
        else
          g_doormanref48_held_c0 a0 a1 a2 a3 a4  fu v11 (add64 v12 (1 : Int))
      else
        g_doormanref48_held_c0 a0 a1 a2 a3 a4  fu v11 (add64 v12 (1 : Int))
    else
      some v11

theorem g_doormanref48_held_c0_ok {a0 a1 a2 a3 a4}  : ∀ {fu v11 v12}, LS z Try.f21 [1, 1, 0, 1, 0] (g_doormanref48_held_c0 a0 a1 a2 a3 a4 fu v11 v12) (fun r => .one (.lit (.bool r))) ⟨[(0, .one (cL 37 T_api_Step.c T_api_Step.d a0)), (1, .one (.lit (.int .i64 a1))), (2, .one (.lit (.int .i64 a2))), (3, .one (.lit (.int .i64 a3))), (4, .one (.lit (.int .i64 a4))), (11, .one (.lit (.bool v11))), (12, .one (.lit (.int .i64 v12)))], []⟩ := by
  intro fu
  induction fu with
  | zero => exact kZ
  | succ fu ih => exact kB (kNq fun o2 => kB (kH o2 <| kB (kH o2 <| kB (kH o2 <| kB (kL 23 ih) (kL 23 ih)) (kH o2 <| kB (kL 23 ih) (kL 23 ih))) (kL 15 ih)) (kK false <| kL 15 ih)) kR0

/-- doorman/doormanref48.held -/
def g_doormanref48_held (a0 : (List T_api_Step)) (a1 : Int) (a2 : Int) (a3 : Int) (a4 : Int) : Option Bool :=
  g_doormanref48_held_c0 a0 a1 a2 a3 a4  ((((a0.length : Nat) : Int) - (0 : Int)).toNat + 2) false (0 : Int)

instance i_g_doormanref48_held {a0} {a1} {a2} {a3} {a4} : Con (g_doormanref48_held a0 a1 a2 a3 a4) (eS 21 [.one (cL 37 T_api_Step.c T_api_Step.d a0), .one (.lit (.int .i64 a1)), .one (.lit (.int .i64 a2)), .one (.lit (.int .i64 a3)), .one (.lit (.int .i64 a4))] fun r => .one (.lit (.bool r))) := kS Try.func21 (kL 8 g_doormanref48_held_c0_ok)

def g_doormanref48_Rises_c1 (a0 : (List T_api_Step)) (v3 : Int) (kg_doormanref48_Rises_c0 : Int → Option Int) : Nat → Int → T_api_Step → Option Int
  | 0, _, _ => none
  | fu + 1, v5, b4 =>
    bif (decide (v5 < v3)) then
      need (0 ≤ v5 ∧ v5 < ((a0.length : Nat) : Int)) <|
      bif ((a0.getD v5.toNat T_api_Step.d).fWho != b4.fWho) then
        g_doormanref48_Rises_c1 a0 v3 kg_doormanref48_Rises_c0 fu (add64 v5 (1 : Int)) b4
      else
        bif (decide (((a0.getD v5.toNat T_api_Step.d).fOp).fLock < b4.fOp.fLock)) then
          g_doormanref48_Rises_c1 a0 v3 kg_doormanref48_Rises_c0 fu (add64 v5 (1 : Int)) b4
        else
          bif (((a0.getD v5.toNat T_api_Step.d).fOp).fKind == (1 : Int)) then
            need (0 ≤ v3 ∧ v3 ≤ ((a0.length : Nat) : Int)) <|
            (g_doormanref48_held (a0.take v3.toNat) b4.fWho (1 : Int) (3 : Int) (((a0.getD v5.toNat T_api_Step.d).fOp).fLock)).bind fun x1 =>
            bif x1 then
              some v3
            else
              bif (((a0.getD v5.toNat T_api_Step.d).fOp).fKind == (2 : Int)) then
                (g_doormanref48_held (a0.take v3.toNat) b4.fWho (2 : Int) (4 : Int) (((a0.getD v5.toNat T_api_Step.d).fOp).fLock)).bind fun x2 =>
                bif x2 then
                  some v3
                else
                  g_doormanref48_Rises_c1 a0 v3 kg_doormanref48_Rises_c0 fu (add64 v5 (1 : Int)) b4
              else
                g_doormanref48_Rises_c1 a0 v3 kg_doormanref48_Rises_c0 fu (add64 v5 (1 : Int)) b4
          else
            bif (((a0.getD v5.toNat T_api_Step.d).fOp).fKind == (2 : Int)) then
              need (0 ≤ v3 ∧ v3 ≤ ((a0.length : Nat) : Int)) <|
              (g_doormanref48_held (a0.take v3.toNat) b4.fWho (2 : Int) (4 : Int) (((a0.getD v5.toNat T_api_Step.d).fOp).fLock)).bind fun x3 =>
              bif x3 then
                some v3
              else
                g_doormanref48_Rises_c1 a0 v3 kg_doormanref48_Rises_c0 fu (add64 v5 (1 : Int)) b4
            else
              g_doormanref48_Rises_c1 a0 v3 kg_doormanref48_Rises_c0 fu (add64 v5 (1 : Int)) b4
    else
      kg_doormanref48_Rises_c0 (add64 v3 (1 : Int))

theorem g_doormanref48_Rises_c1_ok {a0 : (List T_api_Step)} {v3 : Int} {kg_doormanref48_Rises_c0 : Int → Option Int} (hg_doormanref48_Rises_c0 : ∀ {v3_}, LS z Try.f9 [1, 0, 1, 0] (kg_doormanref48_Rises_c0 v3_) (fun r => .one (.lit (.int .i64 r))) ⟨[(0, .one (cL 37 T_api_Step.c T_api_Step.d a0)), (3, .one (.lit (.int .i64 v3_)))], []⟩) : ∀ {fu v5 b4}, LS z Try.f9 [1, 0, 1, 0, 0, 1, 0, 0, 1, 1, 1, 0] (g_doormanref48_Rises_c1 a0 v3 kg_doormanref48_Rises_c0 fu v5 b4) (fun r => .one (.lit (.int .i64 r))) ⟨[(0, .one (cL 37 T_api_Step.c T_api_Step.d a0)), (3, .one (.lit (.int .i64 v3))), (4, .one (.ptr 4 0)), (5, .one (.lit (.int .i64 v5)))], [(4, .box [.lit (.int .i64 b4.fWho), .lit (.int .i64 b4.fNth), .lit (.int .i64 b4.fOp.fKind), .lit (.int .i64 b4.fOp.fLock), .lit (.int .i64 b4.fOp.fLoc.fKind), .lit (.int .i64 b4.fOp.fLoc.fShard), .lit (.int .i64 b4.fOp.fLoc.fSlot), .lit (.int .i64 b4.fOp.fOld), .lit (.int .i64 b4.fOp.fNew), .lit (.int .i64 b4.fOp.fVal.fN), .lit (.bool b4.fOp.fVal.fPeer.fEnd.fAddr.fV6), .lit (.int .u64 b4.fOp.fVal.fPeer.fEnd.fAddr.fHi), .lit (.int .u64 b4.fOp.fVal.fPeer.fEnd.fAddr.fLo), .lit (.int .i64 b4.fOp.fVal.fPeer.fEnd.fPort), .lit (.bool b4.fOp.fVal.fPeer.fIn), .lit (.int .i64 b4.fOp.fVal.fPeer.fSince), .lit (.int .i64 b4.fOp.fVal.fPeer.fScore.fPoints), .lit (.int .i64 b4.fOp.fVal.fPeer.fScore.fAt), .lit (.int .i64 b4.fOp.fVal.fPeer.fPing), .lit (.int .i64 b4.fOp.fVal.fPeer.fWork), cL 5 T_api_Ban.c T_api_Ban.d b4.fOp.fVal.fBans, cL 7 T_api_Entry.c T_api_Entry.d b4.fOp.fVal.fBook, .lit (.bool b4.fOp.fMark), .lit (.int .i64 b4.fGot.fN), .lit (.bool b4.fGot.fPeer.fEnd.fAddr.fV6), .lit (.int .u64 b4.fGot.fPeer.fEnd.fAddr.fHi), .lit (.int .u64 b4.fGot.fPeer.fEnd.fAddr.fLo), .lit (.int .i64 b4.fGot.fPeer.fEnd.fPort), .lit (.bool b4.fGot.fPeer.fIn), .lit (.int .i64 b4.fGot.fPeer.fSince), .lit (.int .i64 b4.fGot.fPeer.fScore.fPoints), .lit (.int .i64 b4.fGot.fPeer.fScore.fAt), .lit (.int .i64 b4.fGot.fPeer.fPing), .lit (.int .i64 b4.fGot.fPeer.fWork), cL 5 T_api_Ban.c T_api_Ban.d b4.fGot.fBans, cL 7 T_api_Entry.c T_api_Entry.d b4.fGot.fBook, .lit (.bool b4.fLast)])]⟩ := by
  intro fu
  induction fu with
  | zero => exact kZ
  | succ fu ih => exact kB (kN <| kB (kK true <| kL 17 ih) (kB (kL 17 ih) (kB (kNm fun o10 => kH (show (a0.take v3.toNat).length = v3.toNat ∧ ∀ i j, i < v3.toNat → j < 37 → rowsOf T_api_Step.c T_api_Step.d (a0.take v3.toNat) i j = rowsOf T_api_Step.c T_api_Step.d a0 i j from (piece_take _ _ o10)) <| kH o10 <| kC fun _ => kB (kK true <| kX 3 ⟨[], [], [], [], [], [(7, ((a0.take v3.toNat).length, rowsOf T_api_Step.c T_api_Step.d (a0.take v3.toNat)))], []⟩ <| kR0) (kB (kH (show (a0.take v3.toNat).length = v3.toNat ∧ ∀ i j, i < v3.toNat → j < 37 → rowsOf T_api_Step.c T_api_Step.d (a0.take v3.toNat) i j = rowsOf T_api_Step.c T_api_Step.d a0 i j from (piece_take _ _ o10)) <| kH o10 <| kC fun _ => kB (kX 3 ⟨[], [], [], [], [], [(7, ((a0.take v3.toNat).length, rowsOf T_api_Step.c T_api_Step.d (a0.take v3.toNat))), (23, ((a0.take v3.toNat).length, rowsOf T_api_Step.c T_api_Step.d (a0.take v3.toNat)))], []⟩ <| kR0) (kX 3 ⟨[], [], [], [], [], [(7, ((a0.take v3.toNat).length, rowsOf T_api_Step.c T_api_Step.d (a0.take v3.toNat))), (23, ((a0.take v3.toNat).length, rowsOf T_api_Step.c T_api_Step.d (a0.take v3.toNat)))], []⟩ <| kL 22 ih)) (kK false <| kX 3 ⟨[], [], [], [], [], [(7, ((a0.take v3.toNat).length, rowsOf T_api_Step.c T_api_Step.d (a0.take v3.toNat)))], []⟩ <| kL 22 ih))) (kK false <| kB (kNm fun o17 => kH (show (a0.take v3.toNat).length = v3.toNat ∧ ∀ i j, i < v3.toNat → j < 37 → rowsOf T_api_Step.c T_api_Step.d (a0.take v3.toNat) i j = rowsOf T_api_Step.c T_api_Step.d a0 i j from (piece_take _ _ o17)) <| kH o17 <| kC fun _ => kB (kX 3 ⟨[], [], [], [], [], [(23, ((a0.take v3.toNat).length, rowsOf T_api_Step.c T_api_Step.d (a0.take v3.toNat)))], []⟩ <| kR0) (kX 3 ⟨[], [], [], [], [], [(23, ((a0.take v3.toNat).length, rowsOf T_api_Step.c T_api_Step.d (a0.take v3.toNat)))], []⟩ <| kL 22 ih)) (kK false <| kL 22 ih))))) (kL 9 hg_doormanref48_Rises_c0)

def g_doormanref48_Rises_c0 (a0 : (List T_api_Step))  : Nat → Int → Option Int
  | 0, _ => none
  | fu + 1, v3 =>
    bif (decide (v3 < ((a0.length : Nat) : Int))) then
      need (0 ≤ v3 ∧ v3 < ((a0.length : Nat) : Int)) <|
      bif (((a0.getD v3.toNat T_api_Step.d).fOp).fKind != (1 : Int)) then
        bif (((a0.getD v3.toNat T_api_Step.d).fOp).fKind != (2 : Int)) then
          g_doormanref48_Rises_c0 a0  fu (add64 v3 (1 : Int))
        else
          g_doormanref48_Rises_c1 a0 v3 (g_doormanref48_Rises_c0 a0  fu) ((v3 - (0 : Int)).toNat + 2) (0 : Int) (a0.getD v3.toNat T_api_Step.d)
      else
        g_doormanref48_Rises_c1 a0 v3 (g_doormanref48_Rises_c0 a0  fu) ((v3 - (0 : Int)).toNat + 2) (0 : Int) (a0.getD v3.toNat T_api_Step.d)
    else
      some (-1 : Int)

theorem g_doormanref48_Rises_c0_ok {a0}  : ∀ {fu v3}, LS z Try.f9 [1, 0, 1, 0] (g_doormanref48_Rises_c0 a0 fu v3) (fun r => .one (.lit (.int .i64 r))) ⟨[(0, .one (cL 37 T_api_Step.c T_api_Step.d a0)), (3, .one (.lit (.int .i64 v3)))], []⟩ := by
  intro fu
  induction fu with
  | zero => exact kZ
  | succ fu ih => exact kB (kN <| kB (kB (kL 17 ih) (kL 18 (g_doormanref48_Rises_c1_ok ih))) (kK false <| kL 18 (g_doormanref48_Rises_c1_ok ih))) kR0

/-- doorman/doormanref48.Rises -/
def g_doormanref48_Rises (a0 : (List T_api_Step)) : Option Int :=
  g_doormanref48_Rises_c0 a0  ((((a0.length : Nat) : Int) - (0 : Int)).toNat + 2) (0 : Int)

instance i_g_doormanref48_Rises {a0} : Con (g_doormanref48_Rises a0) (eS 9 [.one (cL 37 T_api_Step.c T_api_Step.d a0)] fun r => .one (.lit (.int .i64 r))) := kS Try.func9 (kL 6 g_doormanref48_Rises_c0_ok)

/-- doorman/doormanlaw48.StuckTells -/
def g_doormanlaw48_StuckTells (a0 : (List (Int × Int))) (a1 : (List T_api_Step)) : Option Bool :=
  bif (decide (((a0.length : Nat) : Int) > (80 : Int))) then
    (g_doormanlaw48_awake).bind fun x1 =>
    some x1
  else
    bif (decide (((a1.length : Nat) : Int) > (60 : Int))) then
      (g_doormanlaw48_awake).bind fun x2 =>
      some x2
    else
      (g_stuck_Round a0).bind fun x3 =>
      (g_doormanref48_Round a0).bind fun x4 =>
      bif (x3 == x4) then
        (g_stuck_Rises a1).bind fun x5 =>
        (g_doormanref48_Rises a1).bind fun x6 =>
        bif (x5 == x6) then
          (g_doormanlaw48_awake).bind fun x7 =>
          some x7
        else
          some false
      else
        some false

instance i_g_doormanlaw48_StuckTells {a0} {a1} : Con (g_doormanlaw48_StuckTells a0 a1) (eS 3 [.one (cL 2 (cP (cI .i64) (cI .i64)) ((0 : Int), (0 : Int)) a0), .one (cL 37 T_api_Step.c T_api_Step.d a1)] fun r => .one (.lit (.bool r))) := kS Try.func3 (kB (kK true <| kC fun _ => kR0) (kB (kC fun _ => kR0) (kC fun _ => kC fun _ => kB (kC fun _ => kC fun _ => kB (kC fun _ => kR0) kR0) (kK false <| kR0))))
end Go.Proofs.Ytgedafbejcpioaa
