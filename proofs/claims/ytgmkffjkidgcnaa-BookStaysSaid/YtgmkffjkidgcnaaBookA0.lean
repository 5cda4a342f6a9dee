/-
  Functions and their contracts.
  WRITTEN BY A PROGRAM OF MY OWN (wip/gen/am.py).
-/
import Derived.Test.YtgmkffjkidgcnaaBookT
namespace Go.Proofs.Ytgmkffjkidgcnaa
open Go.RowKit Go.Lib Go.Shelf
set_option linter.unusedVariables false
set_option maxRecDepth 100000
theorem eqFields_T_api_Addr : (Try.prog.fieldsOf 25).toList = [{ name := "V6", type := 4, offset := 0, embedded := false, tag := "", pkgPath := "", byteOffset := 0 }, { name := "Hi", type := 23, offset := 1, embedded := false, tag := "", pkgPath := "", byteOffset := 8 }, { name := "Lo", type := 23, offset := 2, embedded := false, tag := "", pkgPath := "", byteOffset := 16 }] := by kernel_rfl

theorem eqIn_T_api_Addr (d : Nat) (x y : T_api_Addr) (w : World) : (Op.equalIn (d + 2) 25 (.agg #[.bool x.fV6, .int .u64 x.fHi, .int .u64 x.fLo]) (.agg #[.bool y.fV6, .int .u64 y.fHi, .int .u64 y.fLo])).run Try.prog w = .ok (decide (x = y)) w := by rw [run_equalIn_struct w (d + 1) _ _ _ (by kernel_rfl) (by kernel_rfl)]; simp only [eqFields_T_api_Addr, Op.eqFields]; simp [go_sem]; cases x; cases y; simp only [T_api_Addr.mk.injEq]; (repeat' split) <;> simp_all

theorem eql_T_api_Addr (x y : T_api_Addr) (xo yo : Operand) : ∀ w, (do eqGuard .eql 25 xo yo (.agg #[.bool x.fV6, .int .u64 x.fHi, .int .u64 x.fLo]) (.agg #[.bool y.fV6, .int .u64 y.fHi, .int .u64 y.fLo]); binOp .eql 25 (.agg #[.bool x.fV6, .int .u64 x.fHi, .int .u64 x.fLo]) (.agg #[.bool y.fV6, .int .u64 y.fHi, .int .u64 y.fLo]) : Sem Value).run Try.prog w = .ok (.bool (decide (x = y))) w := by
  intro w
  have hg : (eqGuard .eql 25 xo yo (.agg #[.bool x.fV6, .int .u64 x.fHi, .int .u64 x.fLo]) (.agg #[.bool y.fV6, .int .u64 y.fHi, .int .u64 y.fLo])).run Try.prog w = .ok () w := by simp [eqGuard, Sem.run_bind, Try.eqGuardType25]
  rw [Sem.run_bind, hg, Result.andThen_ok, run_eql_struct]
  exact congrArg (fun r : Result Bool => r.andThen fun b w' => Result.ok (Value.bool b) w') (eqIn_T_api_Addr 9998 x y w)

theorem neq_T_api_Addr (x y : T_api_Addr) (xo yo : Operand) : ∀ w, (do eqGuard .neq 25 xo yo (.agg #[.bool x.fV6, .int .u64 x.fHi, .int .u64 x.fLo]) (.agg #[.bool y.fV6, .int .u64 y.fHi, .int .u64 y.fLo]); binOp .neq 25 (.agg #[.bool x.fV6, .int .u64 x.fHi, .int .u64 x.fLo]) (.agg #[.bool y.fV6, .int .u64 y.fHi, .int .u64 y.fLo]) : Sem Value).run Try.prog w = .ok (.bool (!decide (x = y))) w := by
  intro w
  have hg : (eqGuard .neq 25 xo yo (.agg #[.bool x.fV6, .int .u64 x.fHi, .int .u64 x.fLo]) (.agg #[.bool y.fV6, .int .u64 y.fHi, .int .u64 y.fLo])).run Try.prog w = .ok () w := by simp [eqGuard, Sem.run_bind, Try.eqGuardType25]
  rw [Sem.run_bind, hg, Result.andThen_ok, run_neq_struct]
  exact congrArg (fun r : Result Bool => r.andThen fun b w' => Result.ok (Value.bool (!b)) w') (eqIn_T_api_Addr 9998 x y w)

theorem eqFields_T_api_End : (Try.prog.fieldsOf 58).toList = [{ name := "Addr", type := 25, offset := 0, embedded := false, tag := "", pkgPath := "", byteOffset := 0 }, { name := "Port", type := 3, offset := 3, embedded := false, tag := "", pkgPath := "", byteOffset := 24 }] := by kernel_rfl

theorem eqIn_T_api_End (d : Nat) (x y : T_api_End) (w : World) : (Op.equalIn (d + 4) 58 (.agg #[.bool x.fAddr.fV6, .int .u64 x.fAddr.fHi, .int .u64 x.fAddr.fLo, .int .i64 x.fPort]) (.agg #[.bool y.fAddr.fV6, .int .u64 y.fAddr.fHi, .int .u64 y.fAddr.fLo, .int .i64 y.fPort])).run Try.prog w = .ok (decide (x = y)) w := by rw [run_equalIn_struct w (d + 3) _ _ _ (by kernel_rfl) (by kernel_rfl)]; simp only [eqFields_T_api_End, Op.eqFields]; simp [go_sem, eqIn_T_api_Addr]; cases x; cases y; simp only [T_api_End.mk.injEq]; (repeat' split) <;> simp_all

theorem eql_T_api_End (x y : T_api_End) (xo yo : Operand) : ∀ w, (do eqGuard .eql 58 xo yo (.agg #[.bool x.fAddr.fV6, .int .u64 x.fAddr.fHi, .int .u64 x.fAddr.fLo, .int .i64 x.fPort]) (.agg #[.bool y.fAddr.fV6, .int .u64 y.fAddr.fHi, .int .u64 y.fAddr.fLo, .int .i64 y.fPort]); binOp .eql 58 (.agg #[.bool x.fAddr.fV6, .int .u64 x.fAddr.fHi, .int .u64 x.fAddr.fLo, .int .i64 x.fPort]) (.agg #[.bool y.fAddr.fV6, .int .u64 y.fAddr.fHi, .int .u64 y.fAddr.fLo, .int .i64 y.fPort]) : Sem Value).run Try.prog w = .ok (.bool (decide (x = y))) w := by
  intro w
  have hg : (eqGuard .eql 58 xo yo (.agg #[.bool x.fAddr.fV6, .int .u64 x.fAddr.fHi, .int .u64 x.fAddr.fLo, .int .i64 x.fPort]) (.agg #[.bool y.fAddr.fV6, .int .u64 y.fAddr.fHi, .int .u64 y.fAddr.fLo, .int .i64 y.fPort])).run Try.prog w = .ok () w := by simp [eqGuard, Sem.run_bind, Try.eqGuardType58]
  rw [Sem.run_bind, hg, Result.andThen_ok, run_eql_struct]
  exact congrArg (fun r : Result Bool => r.andThen fun b w' => Result.ok (Value.bool b) w') (eqIn_T_api_End 9996 x y w)

theorem neq_T_api_End (x y : T_api_End) (xo yo : Operand) : ∀ w, (do eqGuard .neq 58 xo yo (.agg #[.bool x.fAddr.fV6, .int .u64 x.fAddr.fHi, .int .u64 x.fAddr.fLo, .int .i64 x.fPort]) (.agg #[.bool y.fAddr.fV6, .int .u64 y.fAddr.fHi, .int .u64 y.fAddr.fLo, .int .i64 y.fPort]); binOp .neq 58 (.agg #[.bool x.fAddr.fV6, .int .u64 x.fAddr.fHi, .int .u64 x.fAddr.fLo, .int .i64 x.fPort]) (.agg #[.bool y.fAddr.fV6, .int .u64 y.fAddr.fHi, .int .u64 y.fAddr.fLo, .int .i64 y.fPort]) : Sem Value).run Try.prog w = .ok (.bool (!decide (x = y))) w := by
  intro w
  have hg : (eqGuard .neq 58 xo yo (.agg #[.bool x.fAddr.fV6, .int .u64 x.fAddr.fHi, .int .u64 x.fAddr.fLo, .int .i64 x.fPort]) (.agg #[.bool y.fAddr.fV6, .int .u64 y.fAddr.fHi, .int .u64 y.fAddr.fLo, .int .i64 y.fPort])).run Try.prog w = .ok () w := by simp [eqGuard, Sem.run_bind, Try.eqGuardType58]
  rw [Sem.run_bind, hg, Result.andThen_ok, run_neq_struct]
  exact congrArg (fun r : Result Bool => r.andThen fun b w' => Result.ok (Value.bool (!b)) w') (eqIn_T_api_End 9996 x y w)

theorem eqFields_T_api_Entry : (Try.prog.fieldsOf 60).toList = [{ name := "End", type := 58, offset := 0, embedded := false, tag := "", pkgPath := "", byteOffset := 0 }, { name := "State", type := 3, offset := 4, embedded := false, tag := "", pkgPath := "", byteOffset := 32 }, { name := "Fails", type := 3, offset := 5, embedded := false, tag := "", pkgPath := "", byteOffset := 40 }, { name := "Next", type := 3, offset := 6, embedded := false, tag := "", pkgPath := "", byteOffset := 48 }] := by kernel_rfl

theorem eqIn_T_api_Entry (d : Nat) (x y : T_api_Entry) (w : World) : (Op.equalIn (d + 6) 60 (.agg #[.bool x.fEnd.fAddr.fV6, .int .u64 x.fEnd.fAddr.fHi, .int .u64 x.fEnd.fAddr.fLo, .int .i64 x.fEnd.fPort, .int .i64 x.fState, .int .i64 x.fFails, .int .i64 x.fNext]) (.agg #[.bool y.fEnd.fAddr.fV6, .int .u64 y.fEnd.fAddr.fHi, .int .u64 y.fEnd.fAddr.fLo, .int .i64 y.fEnd.fPort, .int .i64 y.fState, .int .i64 y.fFails, .int .i64 y.fNext])).run Try.prog w = .ok (decide (x = y)) w := by rw [run_equalIn_struct w (d + 5) _ _ _ (by kernel_rfl) (by kernel_rfl)]; simp only [eqFields_T_api_Entry, Op.eqFields]; simp [go_sem, eqIn_T_api_End]; cases x; cases y; simp only [T_api_Entry.mk.injEq]; (repeat' split) <;> simp_all

theorem eql_T_api_Entry (x y : T_api_Entry) (xo yo : Operand) : ∀ w, (do eqGuard .eql 60 xo yo (.agg #[.bool x.fEnd.fAddr.fV6, .int .u64 x.fEnd.fAddr.fHi, .int .u64 x.fEnd.fAddr.fLo, .int .i64 x.fEnd.fPort, .int .i64 x.fState, .int .i64 x.fFails, .int .i64 x.fNext]) (.agg #[.bool y.fEnd.fAddr.fV6, .int .u64 y.fEnd.fAddr.fHi, .int .u64 y.fEnd.fAddr.fLo, .int .i64 y.fEnd.fPort, .int .i64 y.fState, .int .i64 y.fFails, .int .i64 y.fNext]); binOp .eql 60 (.agg #[.bool x.fEnd.fAddr.fV6, .int .u64 x.fEnd.fAddr.fHi, .int .u64 x.fEnd.fAddr.fLo, .int .i64 x.fEnd.fPort, .int .i64 x.fState, .int .i64 x.fFails, .int .i64 x.fNext]) (.agg #[.bool y.fEnd.fAddr.fV6, .int .u64 y.fEnd.fAddr.fHi, .int .u64 y.fEnd.fAddr.fLo, .int .i64 y.fEnd.fPort, .int .i64 y.fState, .int .i64 y.fFails, .int .i64 y.fNext]) : Sem Value).run Try.prog w = .ok (.bool (decide (x = y))) w := by
  intro w
  have hg : (eqGuard .eql 60 xo yo (.agg #[.bool x.fEnd.fAddr.fV6, .int .u64 x.fEnd.fAddr.fHi, .int .u64 x.fEnd.fAddr.fLo, .int .i64 x.fEnd.fPort, .int .i64 x.fState, .int .i64 x.fFails, .int .i64 x.fNext]) (.agg #[.bool y.fEnd.fAddr.fV6, .int .u64 y.fEnd.fAddr.fHi, .int .u64 y.fEnd.fAddr.fLo, .int .i64 y.fEnd.fPort, .int .i64 y.fState, .int .i64 y.fFails, .int .i64 y.fNext])).run Try.prog w = .ok () w := by simp [eqGuard, Sem.run_bind, Try.eqGuardType60]
  rw [Sem.run_bind, hg, Result.andThen_ok, run_eql_struct]
  exact congrArg (fun r : Result Bool => r.andThen fun b w' => Result.ok (Value.bool b) w') (eqIn_T_api_Entry 9994 x y w)

theorem neq_T_api_Entry (x y : T_api_Entry) (xo yo : Operand) : ∀ w, (do eqGuard .neq 60 xo yo (.agg #[.bool x.fEnd.fAddr.fV6, .int .u64 x.fEnd.fAddr.fHi, .int .u64 x.fEnd.fAddr.fLo, .int .i64 x.fEnd.fPort, .int .i64 x.fState, .int .i64 x.fFails, .int .i64 x.fNext]) (.agg #[.bool y.fEnd.fAddr.fV6, .int .u64 y.fEnd.fAddr.fHi, .int .u64 y.fEnd.fAddr.fLo, .int .i64 y.fEnd.fPort, .int .i64 y.fState, .int .i64 y.fFails, .int .i64 y.fNext]); binOp .neq 60 (.agg #[.bool x.fEnd.fAddr.fV6, .int .u64 x.fEnd.fAddr.fHi, .int .u64 x.fEnd.fAddr.fLo, .int .i64 x.fEnd.fPort, .int .i64 x.fState, .int .i64 x.fFails, .int .i64 x.fNext]) (.agg #[.bool y.fEnd.fAddr.fV6, .int .u64 y.fEnd.fAddr.fHi, .int .u64 y.fEnd.fAddr.fLo, .int .i64 y.fEnd.fPort, .int .i64 y.fState, .int .i64 y.fFails, .int .i64 y.fNext]) : Sem Value).run Try.prog w = .ok (.bool (!decide (x = y))) w := by
  intro w
  have hg : (eqGuard .neq 60 xo yo (.agg #[.bool x.fEnd.fAddr.fV6, .int .u64 x.fEnd.fAddr.fHi, .int .u64 x.fEnd.fAddr.fLo, .int .i64 x.fEnd.fPort, .int .i64 x.fState, .int .i64 x.fFails, .int .i64 x.fNext]) (.agg #[.bool y.fEnd.fAddr.fV6, .int .u64 y.fEnd.fAddr.fHi, .int .u64 y.fEnd.fAddr.fLo, .int .i64 y.fEnd.fPort, .int .i64 y.fState, .int .i64 y.fFails, .int .i64 y.fNext])).run Try.prog w = .ok () w := by simp [eqGuard, Sem.run_bind, Try.eqGuardType60]
  rw [Sem.run_bind, hg, Result.andThen_ok, run_neq_struct]
  exact congrArg (fun r : Result Bool => r.andThen fun b w' => Result.ok (Value.bool (!b)) w') (eqIn_T_api_Entry 9994 x y w)

/-- doorman/addr.V4 -/
def g_addr_V4 (a0 : Int) : Option T_api_Addr :=
  some (T_api_Addr.mk false (0 : Int) (IntKind.wrap .u64 a0))

theorem g_addr_V4_ok (a0 : Int) (r : T_api_Addr) (hf : g_addr_V4 a0 = some r) : SCall Try.prog 128 [.one (.lit (.int .u32 a0))] (.agg (T_api_Addr.c r)) := by
  refine SCall.of Try.func128 rfl rfl rfl rfl fun S0 w0 => ?_
  unfold g_addr_V4 at hf
  replace hf := Option.some.inj hf
  subst hf
  exact toEnd_good allOk 4 _ _ [⟨[], [], [], [], [], [], []⟩, ⟨[], [], [], [], [], [], []⟩] [] [] [] [] [] (by kernel_rfl) rfl trivial

/-- doorman/addr.V6 -/
def g_addr_V6 (a0 : Int) (a1 : Int) : Option T_api_Addr :=
  bif (a0 == (0 : Int)) then
    bif ((Int.fdiv a1 (2 ^ (min (32 : Int).toNat (IntKind.bits .u64)))) == (65535 : Int)) then
      (g_addr_V4 (IntKind.wrap .u32 (IntKind.wrap .u64 (((BitVec.ofInt (IntKind.bits .u64) a1) &&& (BitVec.ofInt (IntKind.bits .u64) (4294967295 : Int))).toNat : Int)))).bind fun x1 =>
      some x1
    else
      some (T_api_Addr.mk true a0 a1)
  else
    some (T_api_Addr.mk true a0 a1)

theorem g_addr_V6_ok (a0 : Int) (a1 : Int) (r : T_api_Addr) (hf : g_addr_V6 a0 a1 = some r) : SCall Try.prog 127 [.one (.lit (.int .u64 a0)), .one (.lit (.int .u64 a1))] (.agg (T_api_Addr.c r)) := by
  refine SCall.of Try.func127 rfl rfl rfl rfl fun S0 w0 => ?_
  unfold g_addr_V6 at hf
  rcases br_some hf with ⟨h1, hf⟩ | ⟨h1, hf⟩
  · rcases br_some hf with ⟨h2, hf⟩ | ⟨h2, hf⟩
    · obtain ⟨x1, q3, hf⟩ := bind_some' hf
      replace hf := Option.some.inj hf
      subst hf
      exact toEnd_good allOk 8 _ _ [⟨[], [], [], [], [], [], []⟩, ⟨[], [(2, true)], [], [], [], [], []⟩, ⟨[(3, .r (.agg (T_api_Addr.c x1)) [])], [], [], [], [], [], []⟩] [true] [] [] [] [(a0 == (0 : Int)) = true, 0 ≤ (32 : Int), ((Int.fdiv a1 (2 ^ (min (32 : Int).toNat (IntKind.bits .u64)))) == (65535 : Int)) = true, SCall Try.prog 128 [.one (.lit (.int .u32 (IntKind.wrap .u32 (IntKind.wrap .u64 (((BitVec.ofInt (IntKind.bits .u64) a1) &&& (BitVec.ofInt (IntKind.bits .u64) (4294967295 : Int))).toNat : Int)))))] (.agg (T_api_Addr.c x1))] (by kernel_rfl) rfl ⟨h1, (by decide), h2, (g_addr_V4_ok (IntKind.wrap .u32 (IntKind.wrap .u64 (((BitVec.ofInt (IntKind.bits .u64) a1) &&& (BitVec.ofInt (IntKind.bits .u64) (4294967295 : Int))).toNat : Int))) x1 q3), trivial⟩
    · replace hf := Option.some.inj hf
      subst hf
      exact toEnd_good allOk 9 _ _ [⟨[], [], [], [], [], [], []⟩, ⟨[], [(2, true)], [], [], [], [], []⟩, ⟨[], [], [], [], [], [], []⟩] [false] [] [] [] [(a0 == (0 : Int)) = true, 0 ≤ (32 : Int), ((Int.fdiv a1 (2 ^ (min (32 : Int).toNat (IntKind.bits .u64)))) == (65535 : Int)) = false] (by kernel_rfl) rfl ⟨h1, (by decide), h2, trivial⟩
  · replace hf := Option.some.inj hf
    subst hf
    exact toEnd_good allOk 9 _ _ [⟨[], [], [], [], [], [], []⟩, ⟨[], [(2, false)], [], [], [], [], []⟩, ⟨[], [], [], [], [], [], []⟩] [false] [] [] [] [(a0 == (0 : Int)) = false, false = false] (by kernel_rfl) rfl ⟨h1, rfl, trivial⟩

/-- doorman/addr.Right -/
def g_addr_Right (a0 : T_api_Addr) : Option Bool :=
  bif a0.fV6 then
    (g_addr_V6 a0.fHi a0.fLo).bind fun x1 =>
    some (decide (x1 = a0))
  else
    (g_addr_V4 (IntKind.wrap .u32 (IntKind.wrap .u64 (((BitVec.ofInt (IntKind.bits .u64) a0.fLo) &&& (BitVec.ofInt (IntKind.bits .u64) (4294967295 : Int))).toNat : Int)))).bind fun x2 =>
    some (decide (x2 = a0))

theorem g_addr_Right_ok (a0 : T_api_Addr) (r : Bool) (hf : g_addr_Right a0 = some r) : SCall Try.prog 77 [.agg (T_api_Addr.c a0)] (.one (.lit (.bool r))) := by
  refine SCall.of Try.func77 rfl rfl rfl rfl fun S0 w0 => ?_
  unfold g_addr_Right at hf
  rcases br_some hf with ⟨h1, hf⟩ | ⟨h1, hf⟩
  · obtain ⟨x1, q2, hf⟩ := bind_some' hf
    replace hf := Option.some.inj hf
    subst hf
    exact toEnd_good allOk 8 _ _ [⟨[], [], [], [], [], [], []⟩, ⟨[], [], [], [], [], [], []⟩, ⟨[(4, .r (.agg (T_api_Addr.c x1)) []), (6, .r (.one (.lit (.bool (decide (x1 = a0))))) [])], [], [], [[], [0], [], [2], [1, 0, 3, 2], [], [4, 1, 0, 3, 2, 5], [6, 4, 1, 0, 3, 2, 5]], [], [], []⟩] [true] [] [] [] [a0.fV6 = true, SCall Try.prog 127 [.one (.lit (.int .u64 a0.fHi)), .one (.lit (.int .u64 a0.fLo))] (.agg (T_api_Addr.c x1)), ∀ w, (do eqGuard .eql 25 (.tmp 9) (.tmp 10) (.agg #[.bool x1.fV6, .int .u64 x1.fHi, .int .u64 x1.fLo]) (.agg #[.bool a0.fV6, .int .u64 a0.fHi, .int .u64 a0.fLo]); binOp .eql 25 (.agg #[.bool x1.fV6, .int .u64 x1.fHi, .int .u64 x1.fLo]) (.agg #[.bool a0.fV6, .int .u64 a0.fHi, .int .u64 a0.fLo]) : Sem Value).run Try.prog w = .ok (.bool (decide (x1 = a0))) w] (by kernel_rfl) rfl ⟨h1, (g_addr_V6_ok a0.fHi a0.fLo x1 q2), (eql_T_api_Addr x1 a0 _ _), trivial⟩
  · obtain ⟨x2, q3, hf⟩ := bind_some' hf
    replace hf := Option.some.inj hf
    subst hf
    exact toEnd_good allOk 9 _ _ [⟨[], [], [], [], [], [], []⟩, ⟨[], [], [], [], [], [], []⟩, ⟨[(4, .r (.agg (T_api_Addr.c x2)) []), (6, .r (.one (.lit (.bool (decide (x2 = a0))))) [])], [], [], [[], [0], [1, 0], [2, 1, 0], [3, 2, 1, 0], [], [4, 3, 2, 1, 0, 5], [6, 4, 3, 2, 1, 0, 5]], [], [], []⟩] [false] [] [] [] [a0.fV6 = false, SCall Try.prog 128 [.one (.lit (.int .u32 (IntKind.wrap .u32 (IntKind.wrap .u64 (((BitVec.ofInt (IntKind.bits .u64) a0.fLo) &&& (BitVec.ofInt (IntKind.bits .u64) (4294967295 : Int))).toNat : Int)))))] (.agg (T_api_Addr.c x2)), ∀ w, (do eqGuard .eql 25 (.tmp 16) (.tmp 17) (.agg #[.bool x2.fV6, .int .u64 x2.fHi, .int .u64 x2.fLo]) (.agg #[.bool a0.fV6, .int .u64 a0.fHi, .int .u64 a0.fLo]); binOp .eql 25 (.agg #[.bool x2.fV6, .int .u64 x2.fHi, .int .u64 x2.fLo]) (.agg #[.bool a0.fV6, .int .u64 a0.fHi, .int .u64 a0.fLo]) : Sem Value).run Try.prog w = .ok (.bool (decide (x2 = a0))) w] (by kernel_rfl) rfl ⟨h1, (g_addr_V4_ok (IntKind.wrap .u32 (IntKind.wrap .u64 (((BitVec.ofInt (IntKind.bits .u64) a0.fLo) &&& (BitVec.ofInt (IntKind.bits .u64) (4294967295 : Int))).toNat : Int))) x2 q3), (eql_T_api_Addr x2 a0 _ _), trivial⟩

/-- doorman/endp.Right -/
def g_endp_Right (a0 : T_api_End) : Option Bool :=
  (g_addr_Right a0.fAddr).bind fun x1 =>
  bif x1 then
    bif (decide (a0.fPort ≥ (1 : Int))) then
      some (decide (a0.fPort ≤ (65535 : Int)))
    else
      some false
  else
    some false

theorem g_endp_Right_ok (a0 : T_api_End) (r : Bool) (hf : g_endp_Right a0 = some r) : SCall Try.prog 134 [.agg (T_api_End.c a0)] (.one (.lit (.bool r))) := by
  refine SCall.of Try.func134 rfl rfl rfl rfl fun S0 w0 => ?_
  unfold g_endp_Right at hf
  obtain ⟨x1, q1, hf⟩ := bind_some' hf
  rcases br_some hf with ⟨h2, hf⟩ | ⟨h2, hf⟩
  · rcases br_some hf with ⟨h3, hf⟩ | ⟨h3, hf⟩
    · replace hf := Option.some.inj hf
      subst hf
      exact toEnd_good allOk 4 _ _ [⟨[], [], [], [], [], [], []⟩, ⟨[(2, .r (.one (.lit (.bool x1))) [])], [(3, true), (8, true)], [], [], [], [], []⟩] [] [] [] [] [SCall Try.prog 77 [.agg (T_api_Addr.c a0.fAddr)] (.one (.lit (.bool x1))), x1 = true, (decide (a0.fPort ≥ (1 : Int))) = true] (by kernel_rfl) rfl ⟨(g_addr_Right_ok a0.fAddr x1 q1), h2, h3, trivial⟩
    · replace hf := Option.some.inj hf
      subst hf
      exact toEnd_good allOk 4 _ _ [⟨[], [], [], [], [], [], []⟩, ⟨[(2, .r (.one (.lit (.bool x1))) [])], [(3, true), (8, false)], [], [], [], [], []⟩] [] [] [] [] [SCall Try.prog 77 [.agg (T_api_Addr.c a0.fAddr)] (.one (.lit (.bool x1))), x1 = true, (decide (a0.fPort ≥ (1 : Int))) = false] (by kernel_rfl) rfl ⟨(g_addr_Right_ok a0.fAddr x1 q1), h2, h3, trivial⟩
  · replace hf := Option.some.inj hf
    subst hf
    exact toEnd_good allOk 4 _ _ [⟨[], [], [], [], [], [], []⟩, ⟨[(2, .r (.one (.lit (.bool x1))) [])], [(3, false)], [], [], [], [], []⟩] [] [] [] [] [SCall Try.prog 77 [.agg (T_api_Addr.c a0.fAddr)] (.one (.lit (.bool x1))), x1 = false] (by kernel_rfl) rfl ⟨(g_addr_Right_ok a0.fAddr x1 q1), h2, trivial⟩

/-- doorman/sat.Fit -/
def g_sat_Fit (a0 : Int) : Option Int :=
  some (if (1099511627776 : Int) < (if (0 : Int) > a0 then (0 : Int) else a0) then (1099511627776 : Int) else (if (0 : Int) > a0 then (0 : Int) else a0))

theorem g_sat_Fit_ok (a0 : Int) (r : Int) (hf : g_sat_Fit a0 = some r) : SCall Try.prog 135 [.one (.lit (.int .i64 a0))] (.one (.lit (.int .i64 r))) := by
  refine SCall.of Try.func135 rfl rfl rfl rfl fun S0 w0 => ?_
  unfold g_sat_Fit at hf
  replace hf := Option.some.inj hf
  subst hf
  exact toEnd_good allOk 4 _ _ [⟨[], [], [], [], [], [], []⟩, ⟨[], [], [], [], [], [], []⟩] [] [] [] [] [] (by kernel_rfl) rfl trivial

/-- doorman/entry.Right -/
def g_entry_Right (a0 : T_api_Entry) : Option Bool :=
  bif (decide (a0.fState ≥ (1 : Int))) then
    (g_endp_Right a0.fEnd).bind fun x1 =>
    bif x1 then
      bif (decide (a0.fState ≤ (3 : Int))) then
        bif (decide (a0.fFails ≥ (0 : Int))) then
          bif (decide (a0.fFails ≤ (1000 : Int))) then
            (g_sat_Fit a0.fNext).bind fun x2 =>
            some (a0.fNext == x2)
          else
            some false
        else
          some false
      else
        some false
    else
      some false
  else
    (g_endp_Right a0.fEnd).bind fun x3 =>
    bif x3 then
      some false
    else
      some false

theorem g_entry_Right_ok (a0 : T_api_Entry) (r : Bool) (hf : g_entry_Right a0 = some r) : SCall Try.prog 87 [.agg (T_api_Entry.c a0)] (.one (.lit (.bool r))) := by
  refine SCall.of Try.func87 rfl rfl rfl rfl fun S0 w0 => ?_
  unfold g_entry_Right at hf
  rcases br_some hf with ⟨h1, hf⟩ | ⟨h1, hf⟩
  · obtain ⟨x1, q2, hf⟩ := bind_some' hf
    rcases br_some hf with ⟨h3, hf⟩ | ⟨h3, hf⟩
    · rcases br_some hf with ⟨h4, hf⟩ | ⟨h4, hf⟩
      · rcases br_some hf with ⟨h5, hf⟩ | ⟨h5, hf⟩
        · rcases br_some hf with ⟨h6, hf⟩ | ⟨h6, hf⟩
          · obtain ⟨x2, q7, hf⟩ := bind_some' hf
            replace hf := Option.some.inj hf
            subst hf
            exact toEnd_good allOk 6 _ _ [⟨[], [], [], [], [], [], []⟩, ⟨[], [(3, true)], [], [], [], [], []⟩, ⟨[(2, .r (.one (.lit (.bool x1))) []), (21, .r (.one (.lit (.int .i64 x2))) [])], [(3, true), (6, true), (11, true), (16, true)], [], [[], [0], [1, 0], [2, 1, 0], [3, 2, 1, 0], [3, 2, 1, 0, 4], [5, 3, 2, 1, 0, 4], [6, 5, 3, 2, 1, 0, 4], [7, 6, 5, 3, 2, 1, 0, 4], [8, 7, 6, 5, 3, 2, 1, 0, 4], [6, 5, 3, 2, 1, 0, 4, 9, 8, 7], [10, 6, 5, 3, 2, 1, 0, 4, 9, 8, 7], [11, 10, 6, 5, 3, 2, 1, 0, 4, 9, 8, 7], [12, 11, 10, 6, 5, 3, 2, 1, 0, 4, 9, 8, 7], [13, 12, 11, 10, 6, 5, 3, 2, 1, 0, 4, 9, 8, 7], [11, 10, 6, 5, 3, 2, 1, 0, 4, 9, 8, 7, 14, 13, 12], [15, 11, 10, 6, 5, 3, 2, 1, 0, 4, 9, 8, 7, 14, 13, 12], [16, 15, 11, 10, 6, 5, 3, 2, 1, 0, 4, 9, 8, 7, 14, 13, 12], [17, 16, 15, 11, 10, 6, 5, 3, 2, 1, 0, 4, 9, 8, 7, 14, 13, 12], [16, 15, 11, 10, 6, 5, 3, 2, 1, 0, 4, 9, 8, 7, 14, 13, 12], [19, 16, 15, 11, 10, 6, 5, 3, 2, 1, 0, 4, 9, 8, 7, 14, 13, 12], [20, 19, 16, 15, 11, 10, 6, 5, 3, 2, 1, 0, 4, 9, 8, 7, 14, 13, 12], [18, 17, 16, 15, 11, 10, 6, 5, 3, 2, 1, 0, 4, 9, 8, 7, 14, 13, 12, 21, 20, 19], [16, 15, 11, 10, 6, 5, 3, 2, 1, 0, 4, 9, 8, 7, 14, 13, 12, 22, 18, 17, 21, 20, 19], [23, 16, 15, 11, 10, 6, 5, 3, 2, 1, 0, 4, 9, 8, 7, 14, 13, 12, 22, 18, 17, 21, 20, 19]], [], [], []⟩] [] [] [] [] [(decide (a0.fState ≥ (1 : Int))) = true, SCall Try.prog 134 [.agg (T_api_End.c a0.fEnd)] (.one (.lit (.bool x1))), x1 = true, (decide (a0.fState ≤ (3 : Int))) = true, (decide (a0.fFails ≥ (0 : Int))) = true, (decide (a0.fFails ≤ (1000 : Int))) = true, SCall Try.prog 135 [.one (.lit (.int .i64 a0.fNext))] (.one (.lit (.int .i64 x2)))] (by kernel_rfl) rfl ⟨h1, (g_endp_Right_ok a0.fEnd x1 q2), h3, h4, h5, h6, (g_sat_Fit_ok a0.fNext x2 q7), trivial⟩
          · replace hf := Option.some.inj hf
            subst hf
            exact toEnd_good allOk 6 _ _ [⟨[], [], [], [], [], [], []⟩, ⟨[], [(3, true)], [], [], [], [], []⟩, ⟨[(2, .r (.one (.lit (.bool x1))) [])], [(3, true), (6, true), (11, true), (16, false)], [], [[], [0], [1, 0], [2, 1, 0], [3, 2, 1, 0], [3, 2, 1, 0, 4], [5, 3, 2, 1, 0, 4], [6, 5, 3, 2, 1, 0, 4], [7, 6, 5, 3, 2, 1, 0, 4], [8, 7, 6, 5, 3, 2, 1, 0, 4], [6, 5, 3, 2, 1, 0, 4, 9, 8, 7], [10, 6, 5, 3, 2, 1, 0, 4, 9, 8, 7], [11, 10, 6, 5, 3, 2, 1, 0, 4, 9, 8, 7], [12, 11, 10, 6, 5, 3, 2, 1, 0, 4, 9, 8, 7], [13, 12, 11, 10, 6, 5, 3, 2, 1, 0, 4, 9, 8, 7], [11, 10, 6, 5, 3, 2, 1, 0, 4, 9, 8, 7, 14, 13, 12], [15, 11, 10, 6, 5, 3, 2, 1, 0, 4, 9, 8, 7, 14, 13, 12], [16, 15, 11, 10, 6, 5, 3, 2, 1, 0, 4, 9, 8, 7, 14, 13, 12], [17, 16, 15, 11, 10, 6, 5, 3, 2, 1, 0, 4, 9, 8, 7, 14, 13, 12], [16, 15, 11, 10, 6, 5, 3, 2, 1, 0, 4, 9, 8, 7, 14, 13, 12], [19, 16, 15, 11, 10, 6, 5, 3, 2, 1, 0, 4, 9, 8, 7, 14, 13, 12], [20, 19, 16, 15, 11, 10, 6, 5, 3, 2, 1, 0, 4, 9, 8, 7, 14, 13, 12], [18, 17, 16, 15, 11, 10, 6, 5, 3, 2, 1, 0, 4, 9, 8, 7, 14, 13, 12, 21, 20, 19], [16, 15, 11, 10, 6, 5, 3, 2, 1, 0, 4, 9, 8, 7, 14, 13, 12, 22, 18, 17, 21, 20, 19], [23, 16, 15, 11, 10, 6, 5, 3, 2, 1, 0, 4, 9, 8, 7, 14, 13, 12, 22, 18, 17, 21, 20, 19]], [], [], []⟩] [] [] [] [] [(decide (a0.fState ≥ (1 : Int))) = true, SCall Try.prog 134 [.agg (T_api_End.c a0.fEnd)] (.one (.lit (.bool x1))), x1 = true, (decide (a0.fState ≤ (3 : Int))) = true, (decide (a0.fFails ≥ (0 : Int))) = true, (decide (a0.fFails ≤ (1000 : Int))) = false] (by kernel_rfl) rfl ⟨h1, (g_endp_Right_ok a0.fEnd x1 q2), h3, h4, h5, h6, trivial⟩
        · replace hf := Option.some.inj hf
          subst hf
          exact toEnd_good allOk 6 _ _ [⟨[], [], [], [], [], [], []⟩, ⟨[], [(3, true)], [], [], [], [], []⟩, ⟨[(2, .r (.one (.lit (.bool x1))) [])], [(3, true), (6, true), (11, false)], [], [[], [0], [1, 0], [2, 1, 0], [3, 2, 1, 0], [3, 2, 1, 0, 4], [5, 3, 2, 1, 0, 4], [6, 5, 3, 2, 1, 0, 4], [7, 6, 5, 3, 2, 1, 0, 4], [8, 7, 6, 5, 3, 2, 1, 0, 4], [6, 5, 3, 2, 1, 0, 4, 9, 8, 7], [10, 6, 5, 3, 2, 1, 0, 4, 9, 8, 7], [11, 10, 6, 5, 3, 2, 1, 0, 4, 9, 8, 7], [12, 11, 10, 6, 5, 3, 2, 1, 0, 4, 9, 8, 7], [13, 12, 11, 10, 6, 5, 3, 2, 1, 0, 4, 9, 8, 7], [11, 10, 6, 5, 3, 2, 1, 0, 4, 9, 8, 7, 14, 13, 12], [15, 11, 10, 6, 5, 3, 2, 1, 0, 4, 9, 8, 7, 14, 13, 12], [16, 15, 11, 10, 6, 5, 3, 2, 1, 0, 4, 9, 8, 7, 14, 13, 12], [17, 16, 15, 11, 10, 6, 5, 3, 2, 1, 0, 4, 9, 8, 7, 14, 13, 12], [16, 15, 11, 10, 6, 5, 3, 2, 1, 0, 4, 9, 8, 7, 14, 13, 12], [19, 16, 15, 11, 10, 6, 5, 3, 2, 1, 0, 4, 9, 8, 7, 14, 13, 12], [20, 19, 16, 15, 11, 10, 6, 5, 3, 2, 1, 0, 4, 9, 8, 7, 14, 13, 12], [18, 17, 16, 15, 11, 10, 6, 5, 3, 2, 1, 0, 4, 9, 8, 7, 14, 13, 12, 21, 20, 19], [16, 15, 11, 10, 6, 5, 3, 2, 1, 0, 4, 9, 8, 7, 14, 13, 12, 22, 18, 17, 21, 20, 19], [23, 16, 15, 11, 10, 6, 5, 3, 2, 1, 0, 4, 9, 8, 7, 14, 13, 12, 22, 18, 17, 21, 20, 19]], [], [], []⟩] [] [] [] [] [(decide (a0.fState ≥ (1 : Int))) = true, SCall Try.prog 134 [.agg (T_api_End.c a0.fEnd)] (.one (.lit (.bool x1))), x1 = true, (decide (a0.fState ≤ (3 : Int))) = true, (decide (a0.fFails ≥ (0 : Int))) = false] (by kernel_rfl) rfl ⟨h1, (g_endp_Right_ok a0.fEnd x1 q2), h3, h4, h5, trivial⟩
      · replace hf := Option.some.inj hf
        subst hf
        exact toEnd_good allOk 6 _ _ [⟨[], [], [], [], [], [], []⟩, ⟨[], [(3, true)], [], [], [], [], []⟩, ⟨[(2, .r (.one (.lit (.bool x1))) [])], [(3, true), (6, false)], [], [[], [0], [1, 0], [2, 1, 0], [3, 2, 1, 0], [3, 2, 1, 0, 4], [5, 3, 2, 1, 0, 4], [6, 5, 3, 2, 1, 0, 4], [7, 6, 5, 3, 2, 1, 0, 4], [8, 7, 6, 5, 3, 2, 1, 0, 4], [6, 5, 3, 2, 1, 0, 4, 9, 8, 7], [10, 6, 5, 3, 2, 1, 0, 4, 9, 8, 7], [11, 10, 6, 5, 3, 2, 1, 0, 4, 9, 8, 7], [12, 11, 10, 6, 5, 3, 2, 1, 0, 4, 9, 8, 7], [13, 12, 11, 10, 6, 5, 3, 2, 1, 0, 4, 9, 8, 7], [11, 10, 6, 5, 3, 2, 1, 0, 4, 9, 8, 7, 14, 13, 12], [15, 11, 10, 6, 5, 3, 2, 1, 0, 4, 9, 8, 7, 14, 13, 12], [16, 15, 11, 10, 6, 5, 3, 2, 1, 0, 4, 9, 8, 7, 14, 13, 12], [17, 16, 15, 11, 10, 6, 5, 3, 2, 1, 0, 4, 9, 8, 7, 14, 13, 12], [16, 15, 11, 10, 6, 5, 3, 2, 1, 0, 4, 9, 8, 7, 14, 13, 12], [19, 16, 15, 11, 10, 6, 5, 3, 2, 1, 0, 4, 9, 8, 7, 14, 13, 12], [20, 19, 16, 15, 11, 10, 6, 5, 3, 2, 1, 0, 4, 9, 8, 7, 14, 13, 12], [18, 17, 16, 15, 11, 10, 6, 5, 3, 2, 1, 0, 4, 9, 8, 7, 14, 13, 12, 21, 20, 19], [16, 15, 11, 10, 6, 5, 3, 2, 1, 0, 4, 9, 8, 7, 14, 13, 12, 22, 18, 17, 21, 20, 19], [23, 16, 15, 11, 10, 6, 5, 3, 2, 1, 0, 4, 9, 8, 7, 14, 13, 12, 22, 18, 17, 21, 20, 19]], [], [], []⟩] [] [] [] [] [(decide (a0.fState ≥ (1 : Int))) = true, SCall Try.prog 134 [.agg (T_api_End.c a0.fEnd)] (.one (.lit (.bool x1))), x1 = true, (decide (a0.fState ≤ (3 : Int))) = false] (by kernel_rfl) rfl ⟨h1, (g_endp_Right_ok a0.fEnd x1 q2), h3, h4, trivial⟩
    · replace hf := Option.some.inj hf
      subst hf
      exact toEnd_good allOk 6 _ _ [⟨[], [], [], [], [], [], []⟩, ⟨[], [(3, true)], [], [], [], [], []⟩, ⟨[(2, .r (.one (.lit (.bool x1))) [])], [(3, false)], [], [[], [0], [1, 0], [2, 1, 0], [3, 2, 1, 0], [3, 2, 1, 0, 4], [5, 3, 2, 1, 0, 4], [6, 5, 3, 2, 1, 0, 4], [7, 6, 5, 3, 2, 1, 0, 4], [8, 7, 6, 5, 3, 2, 1, 0, 4], [6, 5, 3, 2, 1, 0, 4, 9, 8, 7], [10, 6, 5, 3, 2, 1, 0, 4, 9, 8, 7], [11, 10, 6, 5, 3, 2, 1, 0, 4, 9, 8, 7], [12, 11, 10, 6, 5, 3, 2, 1, 0, 4, 9, 8, 7], [13, 12, 11, 10, 6, 5, 3, 2, 1, 0, 4, 9, 8, 7], [11, 10, 6, 5, 3, 2, 1, 0, 4, 9, 8, 7, 14, 13, 12], [15, 11, 10, 6, 5, 3, 2, 1, 0, 4, 9, 8, 7, 14, 13, 12], [16, 15, 11, 10, 6, 5, 3, 2, 1, 0, 4, 9, 8, 7, 14, 13, 12], [17, 16, 15, 11, 10, 6, 5, 3, 2, 1, 0, 4, 9, 8, 7, 14, 13, 12], [16, 15, 11, 10, 6, 5, 3, 2, 1, 0, 4, 9, 8, 7, 14, 13, 12], [19, 16, 15, 11, 10, 6, 5, 3, 2, 1, 0, 4, 9, 8, 7, 14, 13, 12], [20, 19, 16, 15, 11, 10, 6, 5, 3, 2, 1, 0, 4, 9, 8, 7, 14, 13, 12], [18, 17, 16, 15, 11, 10, 6, 5, 3, 2, 1, 0, 4, 9, 8, 7, 14, 13, 12, 21, 20, 19], [16, 15, 11, 10, 6, 5, 3, 2, 1, 0, 4, 9, 8, 7, 14, 13, 12, 22, 18, 17, 21, 20, 19], [23, 16, 15, 11, 10, 6, 5, 3, 2, 1, 0, 4, 9, 8, 7, 14, 13, 12, 22, 18, 17, 21, 20, 19]], [], [], []⟩] [] [] [] [] [(decide (a0.fState ≥ (1 : Int))) = true, SCall Try.prog 134 [.agg (T_api_End.c a0.fEnd)] (.one (.lit (.bool x1))), x1 = false] (by kernel_rfl) rfl ⟨h1, (g_endp_Right_ok a0.fEnd x1 q2), h3, trivial⟩
  · obtain ⟨x3, q8, hf⟩ := bind_some' hf
    rcases br_some hf with ⟨h9, hf⟩ | ⟨h9, hf⟩
    · replace hf := Option.some.inj hf
      subst hf
      exact toEnd_good allOk 6 _ _ [⟨[], [], [], [], [], [], []⟩, ⟨[], [(3, false)], [], [], [], [], []⟩, ⟨[(2, .r (.one (.lit (.bool x3))) [])], [(3, true)], [], [[], [0], [1, 0], [2, 1, 0], [3, 2, 1, 0], [3, 2, 1, 0, 4], [5, 3, 2, 1, 0, 4], [6, 5, 3, 2, 1, 0, 4], [7, 6, 5, 3, 2, 1, 0, 4], [8, 7, 6, 5, 3, 2, 1, 0, 4], [6, 5, 3, 2, 1, 0, 4, 9, 8, 7], [10, 6, 5, 3, 2, 1, 0, 4, 9, 8, 7], [11, 10, 6, 5, 3, 2, 1, 0, 4, 9, 8, 7], [12, 11, 10, 6, 5, 3, 2, 1, 0, 4, 9, 8, 7], [13, 12, 11, 10, 6, 5, 3, 2, 1, 0, 4, 9, 8, 7], [11, 10, 6, 5, 3, 2, 1, 0, 4, 9, 8, 7, 14, 13, 12], [15, 11, 10, 6, 5, 3, 2, 1, 0, 4, 9, 8, 7, 14, 13, 12], [16, 15, 11, 10, 6, 5, 3, 2, 1, 0, 4, 9, 8, 7, 14, 13, 12], [17, 16, 15, 11, 10, 6, 5, 3, 2, 1, 0, 4, 9, 8, 7, 14, 13, 12], [16, 15, 11, 10, 6, 5, 3, 2, 1, 0, 4, 9, 8, 7, 14, 13, 12], [19, 16, 15, 11, 10, 6, 5, 3, 2, 1, 0, 4, 9, 8, 7, 14, 13, 12], [20, 19, 16, 15, 11, 10, 6, 5, 3, 2, 1, 0, 4, 9, 8, 7, 14, 13, 12], [18, 17, 16, 15, 11, 10, 6, 5, 3, 2, 1, 0, 4, 9, 8, 7, 14, 13, 12, 21, 20, 19], [16, 15, 11, 10, 6, 5, 3, 2, 1, 0, 4, 9, 8, 7, 14, 13, 12, 22, 18, 17, 21, 20, 19], [23, 16, 15, 11, 10, 6, 5, 3, 2, 1, 0, 4, 9, 8, 7, 14, 13, 12, 22, 18, 17, 21, 20, 19]], [], [], []⟩] [] [] [] [] [(decide (a0.fState ≥ (1 : Int))) = false, SCall Try.prog 134 [.agg (T_api_End.c a0.fEnd)] (.one (.lit (.bool x3))), x3 = true] (by kernel_rfl) rfl ⟨h1, (g_endp_Right_ok a0.fEnd x3 q8), h9, trivial⟩
    · replace hf := Option.some.inj hf
      subst hf
      exact toEnd_good allOk 6 _ _ [⟨[], [], [], [], [], [], []⟩, ⟨[], [(3, false)], [], [], [], [], []⟩, ⟨[(2, .r (.one (.lit (.bool x3))) [])], [(3, false)], [], [[], [0], [1, 0], [2, 1, 0], [3, 2, 1, 0], [3, 2, 1, 0, 4], [5, 3, 2, 1, 0, 4], [6, 5, 3, 2, 1, 0, 4], [7, 6, 5, 3, 2, 1, 0, 4], [8, 7, 6, 5, 3, 2, 1, 0, 4], [6, 5, 3, 2, 1, 0, 4, 9, 8, 7], [10, 6, 5, 3, 2, 1, 0, 4, 9, 8, 7], [11, 10, 6, 5, 3, 2, 1, 0, 4, 9, 8, 7], [12, 11, 10, 6, 5, 3, 2, 1, 0, 4, 9, 8, 7], [13, 12, 11, 10, 6, 5, 3, 2, 1, 0, 4, 9, 8, 7], [11, 10, 6, 5, 3, 2, 1, 0, 4, 9, 8, 7, 14, 13, 12], [15, 11, 10, 6, 5, 3, 2, 1, 0, 4, 9, 8, 7, 14, 13, 12], [16, 15, 11, 10, 6, 5, 3, 2, 1, 0, 4, 9, 8, 7, 14, 13, 12], [17, 16, 15, 11, 10, 6, 5, 3, 2, 1, 0, 4, 9, 8, 7, 14, 13, 12], [16, 15, 11, 10, 6, 5, 3, 2, 1, 0, 4, 9, 8, 7, 14, 13, 12], [19, 16, 15, 11, 10, 6, 5, 3, 2, 1, 0, 4, 9, 8, 7, 14, 13, 12], [20, 19, 16, 15, 11, 10, 6, 5, 3, 2, 1, 0, 4, 9, 8, 7, 14, 13, 12], [18, 17, 16, 15, 11, 10, 6, 5, 3, 2, 1, 0, 4, 9, 8, 7, 14, 13, 12, 21, 20, 19], [16, 15, 11, 10, 6, 5, 3, 2, 1, 0, 4, 9, 8, 7, 14, 13, 12, 22, 18, 17, 21, 20, 19], [23, 16, 15, 11, 10, 6, 5, 3, 2, 1, 0, 4, 9, 8, 7, 14, 13, 12, 22, 18, 17, 21, 20, 19]], [], [], []⟩] [] [] [] [] [(decide (a0.fState ≥ (1 : Int))) = false, SCall Try.prog 134 [.agg (T_api_End.c a0.fEnd)] (.one (.lit (.bool x3))), x3 = false] (by kernel_rfl) rfl ⟨h1, (g_endp_Right_ok a0.fEnd x3 q8), h9, trivial⟩

/-- doorman/book.Find$1 -/
def g_book_Find_1 (a0 : T_api_Entry) (c0 : T_api_End) : Option Bool :=
  some (decide (a0.fEnd = c0))

theorem g_book_Find_1_ok (a0 : T_api_Entry) (c0 : T_api_End) (r : Bool) (hf : g_book_Find_1 a0 c0 = some r) : SCall Try.prog 93 [.agg (T_api_Entry.c a0), .one (.rp 4 (fun j => (T_api_End.c c0 : List C).getD (0 + j) .junk))] (.one (.lit (.bool r))) := by
  refine SCall.of Try.func93 rfl rfl rfl rfl fun S0 w0 => ?_
  unfold g_book_Find_1 at hf
  replace hf := Option.some.inj hf
  subst hf
  exact toEnd_good allOk 4 _ _ [⟨[], [], [], [], [], [], []⟩, ⟨[(3, .r (.one (.lit (.bool (decide (a0.fEnd = c0))))) [])], [], [], [], [], [], []⟩] [] [] [] [] [∀ w, (do eqGuard .eql 58 (.tmp 5) (.tmp 6) (.agg #[.bool a0.fEnd.fAddr.fV6, .int .u64 a0.fEnd.fAddr.fHi, .int .u64 a0.fEnd.fAddr.fLo, .int .i64 a0.fEnd.fPort]) (.agg #[.bool c0.fAddr.fV6, .int .u64 c0.fAddr.fHi, .int .u64 c0.fAddr.fLo, .int .i64 c0.fPort]); binOp .eql 58 (.agg #[.bool a0.fEnd.fAddr.fV6, .int .u64 a0.fEnd.fAddr.fHi, .int .u64 a0.fEnd.fAddr.fLo, .int .i64 a0.fEnd.fPort]) (.agg #[.bool c0.fAddr.fV6, .int .u64 c0.fAddr.fHi, .int .u64 c0.fAddr.fLo, .int .i64 c0.fPort]) : Sem Value).run Try.prog w = .ok (.bool (decide (a0.fEnd = c0))) w] (by kernel_rfl) rfl ⟨(eql_T_api_End a0.fEnd c0 _ _), trivial⟩

def g_slices_IndexFunc_api_Entry_api_Entry_93_c0 (a0 : (List T_api_Entry)) (a1_0 : T_api_End)  : Nat → Int → Int → Option Int
  | 0, _, _ => none
  | fu + 1, v7, v8 =>
    bif (decide (v8 < v7)) then
      need (0 ≤ v8 ∧ v8 < ((a0.length : Nat) : Int)) <|
      (g_book_Find_1 (a0.getD v8.toNat T_api_Entry.d) a1_0).bind fun x1 =>
      bif x1 then
        some v8
      else
        g_slices_IndexFunc_api_Entry_api_Entry_93_c0 a0 a1_0  fu v7 (add64 v8 (1 : Int))
    else
      some (-1 : Int)

theorem g_slices_IndexFunc_api_Entry_api_Entry_93_c0_ok (S0 : Nat → Prop) (w0 : Start) (a0 : (List T_api_Entry)) (a1_0 : T_api_End)  : ∀ (fu : Nat) (v7 : Int) (v8 : Int) (r : Int), g_slices_IndexFunc_api_Entry_api_Entry_93_c0 a0 a1_0  fu v7 v8 = some r → Good Try.prog 19 S0 w0 (bodyPost Try.prog Try.f88 (Post S0 w0 (.one (.lit (.int .i64 r))))) (at_ [1, 0, 1, 0] (bodyOf Try.f88)) ⟨[(0, .one (cL 7 T_api_Entry.c T_api_Entry.d a0)), (1, .one (.clo (.func 93) 0 1 (fun i => ([] : List C).getD i .junk) (fun i => ([.rp 4 (fun j => (T_api_End.c a1_0 : List C).getD (0 + j) .junk)] : List C).getD i .junk))), (7, .one (.lit (.int .i64 v7))), (8, .one (.lit (.int .i64 v8)))], []⟩ := by
  intro fu
  induction fu with
  | zero =>
    intro v7 v8 r hf
    simp [g_slices_IndexFunc_api_Entry_api_Entry_93_c0] at hf
  | succ fu ih =>
    intro v7 v8 r hf
    unfold g_slices_IndexFunc_api_Entry_api_Entry_93_c0 at hf
    rcases br_some hf with ⟨h1, hf⟩ | ⟨h1, hf⟩
    · obtain ⟨o2, hf⟩ := need_some hf
      obtain ⟨x1, q3, hf⟩ := bind_some' hf
      rcases br_some hf with ⟨h4, hf⟩ | ⟨h4, hf⟩
      · replace hf := Option.some.inj hf
        subst hf
        exact toEnd_good allOk 15 _ _ [⟨[], [], [], [], [], [], []⟩, ⟨[], [], [], [], [], [], []⟩, ⟨[(5, .r (.one (.lit (.bool x1))) [])], [], [], [], [], [], []⟩, ⟨[], [], [], [], [], [], []⟩] [true, true] [] [] [] [(decide (v8 < v7)) = true, 0 ≤ v8 ∧ v8 < ((a0.length : Nat) : Int), SCall Try.prog 93 [.agg (T_api_Entry.c (a0.getD v8.toNat T_api_Entry.d)), .one (.rp 4 (fun j => (T_api_End.c a1_0 : List C).getD (0 + j) .junk))] (.one (.lit (.bool x1))), x1 = true] (by kernel_rfl) rfl ⟨h1, o2, (g_book_Find_1_ok (a0.getD v8.toNat T_api_Entry.d) a1_0 x1 q3), h4, trivial⟩
      · exact toK_good allOk Post.ends 17 _ _ _ _ [⟨[], [], [], [], [], [], []⟩, ⟨[], [], [], [], [], [], []⟩, ⟨[(5, .r (.one (.lit (.bool x1))) [])], [], [], [], [], [], []⟩, ⟨[], [], [], [], [], [], []⟩] [true, false] ⟨[], [], [], [], [], [0, 1, 7, 8], [], []⟩ [(decide (v8 < v7)) = true, 0 ≤ v8 ∧ v8 < ((a0.length : Nat) : Int), SCall Try.prog 93 [.agg (T_api_Entry.c (a0.getD v8.toNat T_api_Entry.d)), .one (.rp 4 (fun j => (T_api_End.c a1_0 : List C).getD (0 + j) .junk))] (.one (.lit (.bool x1))), x1 = false] (by kernel_rfl) ⟨h1, o2, (g_book_Find_1_ok (a0.getD v8.toNat T_api_Entry.d) a1_0 x1 q3), h4, trivial⟩ (ih v7 (add64 v8 (1 : Int)) r hf)
    · replace hf := Option.some.inj hf
      subst hf
      exact toEnd_good allOk 8 _ _ [⟨[], [], [], [], [], [], []⟩, ⟨[], [], [], [], [], [], []⟩] [false] [] [] [] [(decide (v8 < v7)) = false] (by kernel_rfl) rfl ⟨h1, trivial⟩

/-- slices.IndexFunc[[]doorman/api.Entry,doorman/api.Entry] -/
def g_slices_IndexFunc_api_Entry_api_Entry_93 (a0 : (List T_api_Entry)) (a1_0 : T_api_End) : Option Int :=
  g_slices_IndexFunc_api_Entry_api_Entry_93_c0 a0 a1_0  ((((a0.length : Nat) : Int) - (0 : Int)).toNat + 2) ((a0.length : Nat) : Int) (0 : Int)

theorem g_slices_IndexFunc_api_Entry_api_Entry_93_ok (a0 : (List T_api_Entry)) (a1_0 : T_api_End) (r : Int) (hf : g_slices_IndexFunc_api_Entry_api_Entry_93 a0 a1_0 = some r) : SCall Try.prog 88 [.one (cL 7 T_api_Entry.c T_api_Entry.d a0), .one (.clo (.func 93) 0 1 (fun i => ([] : List C).getD i .junk) (fun i => ([.rp 4 (fun j => (T_api_End.c a1_0 : List C).getD (0 + j) .junk)] : List C).getD i .junk))] (.one (.lit (.int .i64 r))) := by
  refine SCall.of Try.func88 rfl rfl rfl rfl fun S0 w0 => ?_
  unfold g_slices_IndexFunc_api_Entry_api_Entry_93 at hf
  exact toK_good allOk Post.ends 6 _ _ _ _ [⟨[], [], [], [], [], [], []⟩, ⟨[], [], [], [], [], [], []⟩] [] ⟨[], [], [], [], [], [0, 1, 7, 8], [], []⟩ [] (by kernel_rfl) trivial (g_slices_IndexFunc_api_Entry_api_Entry_93_c0_ok S0 w0 a0 a1_0   ((((a0.length : Nat) : Int) - (0 : Int)).toNat + 2) ((a0.length : Nat) : Int) (0 : Int) r hf)

/-- doorman/book.Find -/
def g_book_Find (a0 : (List T_api_Entry)) (a1 : T_api_End) : Option Int :=
  (g_slices_IndexFunc_api_Entry_api_Entry_93 a0 a1).bind fun x1 =>
  some x1

theorem g_book_Find_ok (a0 : (List T_api_Entry)) (a1 : T_api_End) (r : Int) (hf : g_book_Find a0 a1 = some r) : SCall Try.prog 36 [.one (cL 7 T_api_Entry.c T_api_Entry.d a0), .agg (T_api_End.c a1)] (.one (.lit (.int .i64 r))) := by
  refine SCall.of Try.func36 rfl rfl rfl rfl fun S0 w0 => ?_
  unfold g_book_Find at hf
  obtain ⟨x1, q1, hf⟩ := bind_some' hf
  replace hf := Option.some.inj hf
  subst hf
  exact toEnd_good allOk 4 _ _ [⟨[], [], [], [], [], [], []⟩, ⟨[(2, .r (.one (.lit (.int .i64 x1))) [])], [], [(1, [3])], [], [], [], []⟩] [] [] [] [] [SCall Try.prog 88 [.one (cL 7 T_api_Entry.c T_api_Entry.d a0), .one (.clo (.func 93) 0 1 (fun i => ([] : List C).getD i .junk) (fun i => ([.rp 4 (fun j => (T_api_End.c a1 : List C).getD (0 + j) .junk)] : List C).getD i .junk))] (.one (.lit (.int .i64 x1)))] (by kernel_rfl) rfl ⟨(g_slices_IndexFunc_api_Entry_api_Entry_93_ok a0 a1 x1 q1), trivial⟩

/-- doorman/addr.family -/
def g_addr_family (a0 : T_api_Addr) : Option Int :=
  bif a0.fV6 then
    some (1 : Int)
  else
    some (0 : Int)

theorem g_addr_family_ok (a0 : T_api_Addr) (r : Int) (hf : g_addr_family a0 = some r) : SCall Try.prog 158 [.agg (T_api_Addr.c a0)] (.one (.lit (.int .i64 r))) := by
  refine SCall.of Try.func158 rfl rfl rfl rfl fun S0 w0 => ?_
  unfold g_addr_family at hf
  rcases br_some hf with ⟨h1, hf⟩ | ⟨h1, hf⟩
  · replace hf := Option.some.inj hf
    subst hf
    exact toEnd_good allOk 8 _ _ [⟨[], [], [], [], [], [], []⟩, ⟨[], [], [], [], [], [], []⟩, ⟨[], [], [], [], [], [], []⟩] [true] [] [] [] [a0.fV6 = true] (by kernel_rfl) rfl ⟨h1, trivial⟩
  · replace hf := Option.some.inj hf
    subst hf
    exact toEnd_good allOk 9 _ _ [⟨[], [], [], [], [], [], []⟩, ⟨[], [], [], [], [], [], []⟩, ⟨[], [], [], [], [], [], []⟩] [false] [] [] [] [a0.fV6 = false] (by kernel_rfl) rfl ⟨h1, trivial⟩

/-- cmp.isNaN[int] -/
def g_cmp_isNaN_int (a0 : Int) : Option Bool :=
  some (a0 != a0)

theorem g_cmp_isNaN_int_ok (a0 : Int) (r : Bool) (hf : g_cmp_isNaN_int a0 = some r) : SCall Try.prog 160 [.one (.lit (.int .i64 a0))] (.one (.lit (.bool r))) := by
  refine SCall.of Try.func160 rfl rfl rfl rfl fun S0 w0 => ?_
  unfold g_cmp_isNaN_int at hf
  replace hf := Option.some.inj hf
  subst hf
  exact toEnd_good allOk 4 _ _ [⟨[], [], [], [], [], [], []⟩, ⟨[], [], [], [], [], [], []⟩] [] [] [] [] [] (by kernel_rfl) rfl trivial

/-- cmp.Compare[int] -/
def g_cmp_Compare_int (a0 : Int) (a1 : Int) : Option Int :=
  (g_cmp_isNaN_int a0).bind fun x1 =>
  (g_cmp_isNaN_int a1).bind fun x2 =>
  bif x1 then
    bif x2 then
      some (0 : Int)
    else
      some (-1 : Int)
  else
    bif x2 then
      some (1 : Int)
    else
      bif (decide (a0 < a1)) then
        some (-1 : Int)
      else
        bif (decide (a0 > a1)) then
          some (1 : Int)
        else
          some (0 : Int)

theorem g_cmp_Compare_int_ok (a0 : Int) (a1 : Int) (r : Int) (hf : g_cmp_Compare_int a0 a1 = some r) : SCall Try.prog 138 [.one (.lit (.int .i64 a0)), .one (.lit (.int .i64 a1))] (.one (.lit (.int .i64 r))) := by
  refine SCall.of Try.func138 rfl rfl rfl rfl fun S0 w0 => ?_
  unfold g_cmp_Compare_int at hf
  obtain ⟨x1, q1, hf⟩ := bind_some' hf
  obtain ⟨x2, q2, hf⟩ := bind_some' hf
  rcases br_some hf with ⟨h3, hf⟩ | ⟨h3, hf⟩
  · rcases br_some hf with ⟨h4, hf⟩ | ⟨h4, hf⟩
    · replace hf := Option.some.inj hf
      subst hf
      exact toEnd_good allOk 16 _ _ [⟨[], [], [], [], [], [], []⟩, ⟨[(1, .r (.one (.lit (.bool x1))) [])], [], [], [], [], [], []⟩, ⟨[(1, .r (.one (.lit (.bool x2))) [])], [], [], [], [], [], []⟩, ⟨[], [], [], [], [], [], []⟩, ⟨[], [], [], [], [], [], []⟩, ⟨[], [], [], [], [], [], []⟩] [true, true] [] [] [] [SCall Try.prog 160 [.one (.lit (.int .i64 a0))] (.one (.lit (.bool x1))), SCall Try.prog 160 [.one (.lit (.int .i64 a1))] (.one (.lit (.bool x2))), x1 = true, x2 = true] (by kernel_rfl) rfl ⟨(g_cmp_isNaN_int_ok a0 x1 q1), (g_cmp_isNaN_int_ok a1 x2 q2), h3, h4, trivial⟩
    · replace hf := Option.some.inj hf
      subst hf
      exact toEnd_good allOk 17 _ _ [⟨[], [], [], [], [], [], []⟩, ⟨[(1, .r (.one (.lit (.bool x1))) [])], [], [], [], [], [], []⟩, ⟨[(1, .r (.one (.lit (.bool x2))) [])], [], [], [], [], [], []⟩, ⟨[], [], [], [], [], [], []⟩, ⟨[], [], [], [], [], [], []⟩, ⟨[], [], [], [], [], [], []⟩] [true, false] [] [] [] [SCall Try.prog 160 [.one (.lit (.int .i64 a0))] (.one (.lit (.bool x1))), SCall Try.prog 160 [.one (.lit (.int .i64 a1))] (.one (.lit (.bool x2))), x1 = true, x2 = false] (by kernel_rfl) rfl ⟨(g_cmp_isNaN_int_ok a0 x1 q1), (g_cmp_isNaN_int_ok a1 x2 q2), h3, h4, trivial⟩
  · rcases br_some hf with ⟨h5, hf⟩ | ⟨h5, hf⟩
    · replace hf := Option.some.inj hf
      subst hf
      exact toEnd_good allOk 17 _ _ [⟨[], [], [], [], [], [], []⟩, ⟨[(1, .r (.one (.lit (.bool x1))) [])], [], [], [], [], [], []⟩, ⟨[(1, .r (.one (.lit (.bool x2))) [])], [], [], [], [], [], []⟩, ⟨[], [], [], [], [], [], []⟩, ⟨[], [], [], [], [], [], []⟩, ⟨[], [], [], [], [], [], []⟩] [false, true] [] [] [] [SCall Try.prog 160 [.one (.lit (.int .i64 a0))] (.one (.lit (.bool x1))), SCall Try.prog 160 [.one (.lit (.int .i64 a1))] (.one (.lit (.bool x2))), x1 = false, x2 = true] (by kernel_rfl) rfl ⟨(g_cmp_isNaN_int_ok a0 x1 q1), (g_cmp_isNaN_int_ok a1 x2 q2), h3, h5, trivial⟩
    · rcases br_some hf with ⟨h6, hf⟩ | ⟨h6, hf⟩
      · replace hf := Option.some.inj hf
        subst hf
        exact toEnd_good allOk 22 _ _ [⟨[], [], [], [], [], [], []⟩, ⟨[(1, .r (.one (.lit (.bool x1))) [])], [], [], [], [], [], []⟩, ⟨[(1, .r (.one (.lit (.bool x2))) [])], [], [], [], [], [], []⟩, ⟨[], [], [], [], [], [], []⟩, ⟨[], [], [], [], [], [], []⟩, ⟨[], [], [], [], [], [], []⟩, ⟨[], [], [], [], [], [], []⟩] [false, false, true] [] [] [] [SCall Try.prog 160 [.one (.lit (.int .i64 a0))] (.one (.lit (.bool x1))), SCall Try.prog 160 [.one (.lit (.int .i64 a1))] (.one (.lit (.bool x2))), x1 = false, x2 = false, (decide (a0 < a1)) = true] (by kernel_rfl) rfl ⟨(g_cmp_isNaN_int_ok a0 x1 q1), (g_cmp_isNaN_int_ok a1 x2 q2), h3, h5, h6, trivial⟩
      · rcases br_some hf with ⟨h7, hf⟩ | ⟨h7, hf⟩
        · replace hf := Option.some.inj hf
          subst hf
          exact toEnd_good allOk 27 _ _ [⟨[], [], [], [], [], [], []⟩, ⟨[(1, .r (.one (.lit (.bool x1))) [])], [], [], [], [], [], []⟩, ⟨[(1, .r (.one (.lit (.bool x2))) [])], [], [], [], [], [], []⟩, ⟨[], [], [], [], [], [], []⟩, ⟨[], [], [], [], [], [], []⟩, ⟨[], [], [], [], [], [], []⟩, ⟨[], [], [], [], [], [], []⟩, ⟨[], [], [], [], [], [], []⟩] [false, false, false, true] [] [] [] [SCall Try.prog 160 [.one (.lit (.int .i64 a0))] (.one (.lit (.bool x1))), SCall Try.prog 160 [.one (.lit (.int .i64 a1))] (.one (.lit (.bool x2))), x1 = false, x2 = false, (decide (a0 < a1)) = false, (decide (a0 > a1)) = true] (by kernel_rfl) rfl ⟨(g_cmp_isNaN_int_ok a0 x1 q1), (g_cmp_isNaN_int_ok a1 x2 q2), h3, h5, h6, h7, trivial⟩
        · replace hf := Option.some.inj hf
          subst hf
          exact toEnd_good allOk 28 _ _ [⟨[], [], [], [], [], [], []⟩, ⟨[(1, .r (.one (.lit (.bool x1))) [])], [], [], [], [], [], []⟩, ⟨[(1, .r (.one (.lit (.bool x2))) [])], [], [], [], [], [], []⟩, ⟨[], [], [], [], [], [], []⟩, ⟨[], [], [], [], [], [], []⟩, ⟨[], [], [], [], [], [], []⟩, ⟨[], [], [], [], [], [], []⟩, ⟨[], [], [], [], [], [], []⟩] [false, false, false, false] [] [] [] [SCall Try.prog 160 [.one (.lit (.int .i64 a0))] (.one (.lit (.bool x1))), SCall Try.prog 160 [.one (.lit (.int .i64 a1))] (.one (.lit (.bool x2))), x1 = false, x2 = false, (decide (a0 < a1)) = false, (decide (a0 > a1)) = false] (by kernel_rfl) rfl ⟨(g_cmp_isNaN_int_ok a0 x1 q1), (g_cmp_isNaN_int_ok a1 x2 q2), h3, h5, h6, h7, trivial⟩

/-- cmp.isNaN[uint64] -/
def g_cmp_isNaN_uint64 (a0 : Int) : Option Bool :=
  some (a0 != a0)

theorem g_cmp_isNaN_uint64_ok (a0 : Int) (r : Bool) (hf : g_cmp_isNaN_uint64 a0 = some r) : SCall Try.prog 176 [.one (.lit (.int .u64 a0))] (.one (.lit (.bool r))) := by
  refine SCall.of Try.func176 rfl rfl rfl rfl fun S0 w0 => ?_
  unfold g_cmp_isNaN_uint64 at hf
  replace hf := Option.some.inj hf
  subst hf
  exact toEnd_good allOk 4 _ _ [⟨[], [], [], [], [], [], []⟩, ⟨[], [], [], [], [], [], []⟩] [] [] [] [] [] (by kernel_rfl) rfl trivial

/-- cmp.Compare[uint64] -/
def g_cmp_Compare_uint64 (a0 : Int) (a1 : Int) : Option Int :=
  (g_cmp_isNaN_uint64 a0).bind fun x1 =>
  (g_cmp_isNaN_uint64 a1).bind fun x2 =>
  bif x1 then
    bif x2 then
      some (0 : Int)
    else
      some (-1 : Int)
  else
    bif x2 then
      some (1 : Int)
    else
      bif (decide (a0 < a1)) then
        some (-1 : Int)
      else
        bif (decide (a0 > a1)) then
          some (1 : Int)
        else
          some (0 : Int)

theorem g_cmp_Compare_uint64_ok (a0 : Int) (a1 : Int) (r : Int) (hf : g_cmp_Compare_uint64 a0 a1 = some r) : SCall Try.prog 159 [.one (.lit (.int .u64 a0)), .one (.lit (.int .u64 a1))] (.one (.lit (.int .i64 r))) := by
  refine SCall.of Try.func159 rfl rfl rfl rfl fun S0 w0 => ?_
  unfold g_cmp_Compare_uint64 at hf
  obtain ⟨x1, q1, hf⟩ := bind_some' hf
  obtain ⟨x2, q2, hf⟩ := bind_some' hf
  rcases br_some hf with ⟨h3, hf⟩ | ⟨h3, hf⟩
  · rcases br_some hf with ⟨h4, hf⟩ | ⟨h4, hf⟩
    · replace hf := Option.some.inj hf
      subst hf
      exact toEnd_good allOk 16 _ _ [⟨[], [], [], [], [], [], []⟩, ⟨[(1, .r (.one (.lit (.bool x1))) [])], [], [], [], [], [], []⟩, ⟨[(1, .r (.one (.lit (.bool x2))) [])], [], [], [], [], [], []⟩, ⟨[], [], [], [], [], [], []⟩, ⟨[], [], [], [], [], [], []⟩, ⟨[], [], [], [], [], [], []⟩] [true, true] [] [] [] [SCall Try.prog 176 [.one (.lit (.int .u64 a0))] (.one (.lit (.bool x1))), SCall Try.prog 176 [.one (.lit (.int .u64 a1))] (.one (.lit (.bool x2))), x1 = true, x2 = true] (by kernel_rfl) rfl ⟨(g_cmp_isNaN_uint64_ok a0 x1 q1), (g_cmp_isNaN_uint64_ok a1 x2 q2), h3, h4, trivial⟩
    · replace hf := Option.some.inj hf
      subst hf
      exact toEnd_good allOk 17 _ _ [⟨[], [], [], [], [], [], []⟩, ⟨[(1, .r (.one (.lit (.bool x1))) [])], [], [], [], [], [], []⟩, ⟨[(1, .r (.one (.lit (.bool x2))) [])], [], [], [], [], [], []⟩, ⟨[], [], [], [], [], [], []⟩, ⟨[], [], [], [], [], [], []⟩, ⟨[], [], [], [], [], [], []⟩] [true, false] [] [] [] [SCall Try.prog 176 [.one (.lit (.int .u64 a0))] (.one (.lit (.bool x1))), SCall Try.prog 176 [.one (.lit (.int .u64 a1))] (.one (.lit (.bool x2))), x1 = true, x2 = false] (by kernel_rfl) rfl ⟨(g_cmp_isNaN_uint64_ok a0 x1 q1), (g_cmp_isNaN_uint64_ok a1 x2 q2), h3, h4, trivial⟩
  · rcases br_some hf with ⟨h5, hf⟩ | ⟨h5, hf⟩
    · replace hf := Option.some.inj hf
      subst hf
      exact toEnd_good allOk 17 _ _ [⟨[], [], [], [], [], [], []⟩, ⟨[(1, .r (.one (.lit (.bool x1))) [])], [], [], [], [], [], []⟩, ⟨[(1, .r (.one (.lit (.bool x2))) [])], [], [], [], [], [], []⟩, ⟨[], [], [], [], [], [], []⟩, ⟨[], [], [], [], [], [], []⟩, ⟨[], [], [], [], [], [], []⟩] [false, true] [] [] [] [SCall Try.prog 176 [.one (.lit (.int .u64 a0))] (.one (.lit (.bool x1))), SCall Try.prog 176 [.one (.lit (.int .u64 a1))] (.one (.lit (.bool x2))), x1 = false, x2 = true] (by kernel_rfl) rfl ⟨(g_cmp_isNaN_uint64_ok a0 x1 q1), (g_cmp_isNaN_uint64_ok a1 x2 q2), h3, h5, trivial⟩
    · rcases br_some hf with ⟨h6, hf⟩ | ⟨h6, hf⟩
      · replace hf := Option.some.inj hf
        subst hf
        exact toEnd_good allOk 22 _ _ [⟨[], [], [], [], [], [], []⟩, ⟨[(1, .r (.one (.lit (.bool x1))) [])], [], [], [], [], [], []⟩, ⟨[(1, .r (.one (.lit (.bool x2))) [])], [], [], [], [], [], []⟩, ⟨[], [], [], [], [], [], []⟩, ⟨[], [], [], [], [], [], []⟩, ⟨[], [], [], [], [], [], []⟩, ⟨[], [], [], [], [], [], []⟩] [false, false, true] [] [] [] [SCall Try.prog 176 [.one (.lit (.int .u64 a0))] (.one (.lit (.bool x1))), SCall Try.prog 176 [.one (.lit (.int .u64 a1))] (.one (.lit (.bool x2))), x1 = false, x2 = false, (decide (a0 < a1)) = true] (by kernel_rfl) rfl ⟨(g_cmp_isNaN_uint64_ok a0 x1 q1), (g_cmp_isNaN_uint64_ok a1 x2 q2), h3, h5, h6, trivial⟩
      · rcases br_some hf with ⟨h7, hf⟩ | ⟨h7, hf⟩
        · replace hf := Option.some.inj hf
          subst hf
          exact toEnd_good allOk 27 _ _ [⟨[], [], [], [], [], [], []⟩, ⟨[(1, .r (.one (.lit (.bool x1))) [])], [], [], [], [], [], []⟩, ⟨[(1, .r (.one (.lit (.bool x2))) [])], [], [], [], [], [], []⟩, ⟨[], [], [], [], [], [], []⟩, ⟨[], [], [], [], [], [], []⟩, ⟨[], [], [], [], [], [], []⟩, ⟨[], [], [], [], [], [], []⟩, ⟨[], [], [], [], [], [], []⟩] [false, false, false, true] [] [] [] [SCall Try.prog 176 [.one (.lit (.int .u64 a0))] (.one (.lit (.bool x1))), SCall Try.prog 176 [.one (.lit (.int .u64 a1))] (.one (.lit (.bool x2))), x1 = false, x2 = false, (decide (a0 < a1)) = false, (decide (a0 > a1)) = true] (by kernel_rfl) rfl ⟨(g_cmp_isNaN_uint64_ok a0 x1 q1), (g_cmp_isNaN_uint64_ok a1 x2 q2), h3, h5, h6, h7, trivial⟩
        · replace hf := Option.some.inj hf
          subst hf
          exact toEnd_good allOk 28 _ _ [⟨[], [], [], [], [], [], []⟩, ⟨[(1, .r (.one (.lit (.bool x1))) [])], [], [], [], [], [], []⟩, ⟨[(1, .r (.one (.lit (.bool x2))) [])], [], [], [], [], [], []⟩, ⟨[], [], [], [], [], [], []⟩, ⟨[], [], [], [], [], [], []⟩, ⟨[], [], [], [], [], [], []⟩, ⟨[], [], [], [], [], [], []⟩, ⟨[], [], [], [], [], [], []⟩] [false, false, false, false] [] [] [] [SCall Try.prog 176 [.one (.lit (.int .u64 a0))] (.one (.lit (.bool x1))), SCall Try.prog 176 [.one (.lit (.int .u64 a1))] (.one (.lit (.bool x2))), x1 = false, x2 = false, (decide (a0 < a1)) = false, (decide (a0 > a1)) = false] (by kernel_rfl) rfl ⟨(g_cmp_isNaN_uint64_ok a0 x1 q1), (g_cmp_isNaN_uint64_ok a1 x2 q2), h3, h5, h6, h7, trivial⟩

def g_cmp_Or_int_c0   : Nat → Int → (List Int) → Int → Int → Option Int
  | 0, _, _, _, _ => none
  | fu + 1, v3, v6, v7, v8 =>
    bif (decide (v8 < v7)) then
      need (0 ≤ v8 ∧ v8 < ((v6.length : Nat) : Int)) <|
      bif ((v6.getD v8.toNat (0 : Int)) != v3) then
        some (v6.getD v8.toNat (0 : Int))
      else
        g_cmp_Or_int_c0   fu v3 v6 v7 (add64 v8 (1 : Int))
    else
      some v3

theorem g_cmp_Or_int_c0_ok (S0 : Nat → Prop) (w0 : Start)   : ∀ (fu : Nat) (v3 : Int) (v6 : (List Int)) (v7 : Int) (v8 : Int) (r : Int), g_cmp_Or_int_c0   fu v3 v6 v7 v8 = some r → Good Try.prog 18 S0 w0 (bodyPost Try.prog Try.f136 (Post S0 w0 (.one (.lit (.int .i64 r))))) (at_ [1, 1, 0, 1, 0] (bodyOf Try.f136)) ⟨[(3, .one (.lit (.int .i64 v3))), (6, .one (cL 1 (cI .i64) (0 : Int) v6)), (7, .one (.lit (.int .i64 v7))), (8, .one (.lit (.int .i64 v8)))], []⟩ := by
  intro fu
  induction fu with
  | zero =>
    intro v3 v6 v7 v8 r hf
    simp [g_cmp_Or_int_c0] at hf
  | succ fu ih =>
    intro v3 v6 v7 v8 r hf
    unfold g_cmp_Or_int_c0 at hf
    rcases br_some hf with ⟨h1, hf⟩ | ⟨h1, hf⟩
    · obtain ⟨o2, hf⟩ := need_some hf
      rcases br_some hf with ⟨h3, hf⟩ | ⟨h3, hf⟩
      · replace hf := Option.some.inj hf
        subst hf
        exact toEnd_good allOk 15 _ _ [⟨[], [], [], [], [], [], []⟩, ⟨[], [], [], [], [], [], []⟩, ⟨[], [], [], [], [], [], []⟩, ⟨[], [], [], [], [], [], []⟩] [true, true] [] [] [] [(decide (v8 < v7)) = true, 0 ≤ v8 ∧ v8 < ((v6.length : Nat) : Int), ((v6.getD v8.toNat (0 : Int)) != v3) = true] (by kernel_rfl) rfl ⟨h1, o2, h3, trivial⟩
      · exact toK_good allOk Post.ends 17 _ _ _ _ [⟨[], [], [], [], [], [], []⟩, ⟨[], [], [], [], [], [], []⟩, ⟨[], [], [], [], [], [], []⟩, ⟨[], [], [], [], [], [], []⟩] [true, false] ⟨[], [], [], [], [], [3, 6, 7, 8], [], []⟩ [(decide (v8 < v7)) = true, 0 ≤ v8 ∧ v8 < ((v6.length : Nat) : Int), ((v6.getD v8.toNat (0 : Int)) != v3) = false] (by kernel_rfl) ⟨h1, o2, h3, trivial⟩ (ih v3 v6 v7 (add64 v8 (1 : Int)) r hf)
    · replace hf := Option.some.inj hf
      subst hf
      exact toEnd_good allOk 8 _ _ [⟨[], [], [], [], [], [], []⟩, ⟨[], [], [], [], [], [], []⟩] [false] [] [] [] [(decide (v8 < v7)) = false] (by kernel_rfl) rfl ⟨h1, trivial⟩

/-- cmp.Or[int] -/
def g_cmp_Or_int (a0 : (List Int)) : Option Int :=
  g_cmp_Or_int_c0   ((((a0.length : Nat) : Int) - (0 : Int)).toNat + 2) (0 : Int) a0 ((a0.length : Nat) : Int) (0 : Int)

theorem g_cmp_Or_int_ok (a0 : (List Int)) (r : Int) (hf : g_cmp_Or_int a0 = some r) : SCall Try.prog 136 [.one (cL 1 (cI .i64) (0 : Int) a0)] (.one (.lit (.int .i64 r))) := by
  refine SCall.of Try.func136 rfl rfl rfl rfl fun S0 w0 => ?_
  unfold g_cmp_Or_int at hf
  exact toK_good allOk Post.ends 8 _ _ _ _ [⟨[], [], [], [], [], [], []⟩, ⟨[], [], [], [], [], [], []⟩, ⟨[], [], [], [], [], [], []⟩] [] ⟨[], [], [], [], [], [3, 6, 7, 8], [], []⟩ [] (by kernel_rfl) trivial (g_cmp_Or_int_c0_ok S0 w0    ((((a0.length : Nat) : Int) - (0 : Int)).toNat + 2) (0 : Int) a0 ((a0.length : Nat) : Int) (0 : Int) r hf)

/-- doorman/addr.Compare -/
def g_addr_Compare (a0 : T_api_Addr) (a1 : T_api_Addr) : Option Int :=
  (g_addr_family a0).bind fun x1 =>
  (g_addr_family a1).bind fun x2 =>
  (g_cmp_Compare_int x1 x2).bind fun x3 =>
  (g_cmp_Compare_uint64 a0.fHi a1.fHi).bind fun x4 =>
  (g_cmp_Compare_uint64 a0.fLo a1.fLo).bind fun x5 =>
  (g_cmp_Or_int ([x3, x4, x5] : List Int)).bind fun x6 =>
  some x6

theorem g_addr_Compare_ok (a0 : T_api_Addr) (a1 : T_api_Addr) (r : Int) (hf : g_addr_Compare a0 a1 = some r) : SCall Try.prog 137 [.agg (T_api_Addr.c a0), .agg (T_api_Addr.c a1)] (.one (.lit (.int .i64 r))) := by
  refine SCall.of Try.func137 rfl rfl rfl rfl fun S0 w0 => ?_
  unfold g_addr_Compare at hf
  obtain ⟨x1, q1, hf⟩ := bind_some' hf
  obtain ⟨x2, q2, hf⟩ := bind_some' hf
  obtain ⟨x3, q3, hf⟩ := bind_some' hf
  obtain ⟨x4, q4, hf⟩ := bind_some' hf
  obtain ⟨x5, q5, hf⟩ := bind_some' hf
  obtain ⟨x6, q6, hf⟩ := bind_some' hf
  replace hf := Option.some.inj hf
  subst hf
  exact toEnd_good allOk 4 _ _ [⟨[], [], [], [], [], [], []⟩, ⟨[(1, .r (.one (.lit (.int .i64 x1))) []), (3, .r (.one (.lit (.int .i64 x2))) []), (4, .r (.one (.lit (.int .i64 x3))) []), (9, .r (.one (.lit (.int .i64 x4))) []), (14, .r (.one (.lit (.int .i64 x5))) []), (16, .r (.one (.lit (.int .i64 x6))) [])], [], [], [[], [0], [], [2, 1, 0], [1, 0, 3, 2], [], [5], [], [7], [6, 5, 8, 7, 4, 1, 0, 3, 2], [], [10], [], [12], [11, 10, 13, 12, 9, 6, 5, 8, 7, 4, 1, 0, 3, 2], [4, 1, 0, 3, 2, 9, 6, 5, 8, 7, 14, 11, 10, 13, 12], [15, 4, 1, 0, 3, 2, 9, 6, 5, 8, 7, 14, 11, 10, 13, 12], [16, 15, 4, 1, 0, 3, 2, 9, 6, 5, 8, 7, 14, 11, 10, 13, 12]], [], [(15, (([x3, x4, x5] : List Int).length, rowsOf (cI .i64) (0 : Int) ([x3, x4, x5] : List Int)))], []⟩] [] [] [] [] [SCall Try.prog 158 [.agg (T_api_Addr.c a0)] (.one (.lit (.int .i64 x1))), SCall Try.prog 158 [.agg (T_api_Addr.c a1)] (.one (.lit (.int .i64 x2))), SCall Try.prog 138 [.one (.lit (.int .i64 x1)), .one (.lit (.int .i64 x2))] (.one (.lit (.int .i64 x3))), SCall Try.prog 159 [.one (.lit (.int .u64 a0.fHi)), .one (.lit (.int .u64 a1.fHi))] (.one (.lit (.int .i64 x4))), SCall Try.prog 159 [.one (.lit (.int .u64 a0.fLo)), .one (.lit (.int .u64 a1.fLo))] (.one (.lit (.int .i64 x5))), ([x3, x4, x5] : List Int).length = 3 ∧ ∀ i j, i < 3 → j < 1 → rowsOf (cI .i64) (0 : Int) ([x3, x4, x5] : List Int) i j = (([x3, x4, x5] : List Int).flatMap (cI .i64)).getD (i * 1 + j) .junk, SCall Try.prog 136 [.one (cL 1 (cI .i64) (0 : Int) ([x3, x4, x5] : List Int))] (.one (.lit (.int .i64 x6)))] (by kernel_rfl) rfl ⟨(g_addr_family_ok a0 x1 q1), (g_addr_family_ok a1 x2 q2), (g_cmp_Compare_int_ok x1 x2 x3 q3), (g_cmp_Compare_uint64_ok a0.fHi a1.fHi x4 q4), (g_cmp_Compare_uint64_ok a0.fLo a1.fLo x5 q5), ⟨rfl, fun i j hi hj => rows_flat (sz := 1) (e := (cI .i64)) (d := (0 : Int)) (fun _ => rfl) ([x3, x4, x5] : List Int) i j hi hj⟩, (g_cmp_Or_int_ok ([x3, x4, x5] : List Int) x6 q6), trivial⟩

/-! inline -/
def famA (a : T_api_Addr) : Int := if a.fV6 then 1 else 0
def cmpA (a b : T_api_Addr) : Int := orI (cmpI (famA a) (famA b)) (orI (cmpI a.fHi b.fHi) (cmpI a.fLo b.fLo))

theorem cmp_int (a b : Int) : g_cmp_Compare_int a b = some (cmpI a b) := by
  simp only [g_cmp_Compare_int, g_cmp_isNaN_int, cmpI, bne_self_eq_false, Option.bind_some, cond_false]
  by_cases h1 : a < b <;> by_cases h2 : a > b <;> simp [h1, h2] <;> omega

theorem cmp_u64 (a b : Int) : g_cmp_Compare_uint64 a b = some (cmpI a b) := by
  simp only [g_cmp_Compare_uint64, g_cmp_isNaN_uint64, cmpI, bne_self_eq_false, Option.bind_some, cond_false]
  by_cases h1 : a < b <;> by_cases h2 : a > b <;> simp [h1, h2] <;> omega

theorem or2 (a b : Int) : g_cmp_Or_int [a, b] = some (orI a b) := by
  unfold g_cmp_Or_int orI
  simp only [List.length_cons, List.length_nil]
  rw [show (((0 + 1 + 1 : Nat) : Int) - 0).toNat + 2 = 4 from rfl]
  simp only [g_cmp_Or_int_c0, show add64 0 1 = 1 from rfl, show add64 1 1 = 2 from rfl]
  simp only [Bool.cond_eq_ite, bne_iff_ne, ne_eq, ite_not, need]
  by_cases h1 : a = 0 <;> by_cases h2 : b = 0 <;> simp [h1, h2]

theorem or3 (a b c : Int) : g_cmp_Or_int [a, b, c] = some (orI a (orI b c)) := by
  unfold g_cmp_Or_int orI
  simp only [List.length_cons, List.length_nil]
  rw [show (((0 + 1 + 1 + 1 : Nat) : Int) - 0).toNat + 2 = 5 from rfl]
  simp only [g_cmp_Or_int_c0, show add64 0 1 = 1 from rfl, show add64 1 1 = 2 from rfl, show add64 2 1 = 3 from rfl]
  simp only [Bool.cond_eq_ite, bne_iff_ne, ne_eq, ite_not, need]
  by_cases h1 : a = 0 <;> by_cases h2 : b = 0 <;> by_cases h3 : c = 0 <;> simp [h1, h2, h3]

theorem addr_cmp (a b : T_api_Addr) : g_addr_Compare a b = some (cmpA a b) := by
  have hf : ∀ c, g_addr_family c = some (famA c) := fun c => by unfold g_addr_family famA; cases c.fV6 <;> rfl
  simp only [g_addr_Compare, hf, cmp_int, cmp_u64, or3, Option.bind_some, cmpA]


theorem orI_lt {a b : Int} : orI a b < 0 ↔ a < 0 ∨ (a = 0 ∧ b < 0) := by unfold orI; constructor <;> intro h <;> (repeat' split at *) <;> omega
theorem orI_gt {a b : Int} : 0 < orI a b ↔ 0 < a ∨ (a = 0 ∧ 0 < b) := by unfold orI; constructor <;> intro h <;> (repeat' split at *) <;> omega
theorem orI_zero {a b : Int} : orI a b = 0 ↔ a = 0 ∧ b = 0 := by unfold orI; constructor <;> intro h <;> (repeat' split at *) <;> omega

theorem famA_eq {a b : T_api_Addr} : famA a = famA b ↔ a.fV6 = b.fV6 := by unfold famA; cases a.fV6 <;> cases b.fV6 <;> simp

theorem cmpA_lt {a b : T_api_Addr} : cmpA a b < 0 ↔ famA a < famA b ∨ (famA a = famA b ∧ (a.fHi < b.fHi ∨ (a.fHi = b.fHi ∧ a.fLo < b.fLo))) := by simp only [cmpA, orI_lt, cmpI_lt, cmpI_zero]
theorem cmpA_gt {a b : T_api_Addr} : 0 < cmpA a b ↔ famA b < famA a ∨ (famA a = famA b ∧ (b.fHi < a.fHi ∨ (a.fHi = b.fHi ∧ b.fLo < a.fLo))) := by simp only [cmpA, orI_gt, cmpI_gt, cmpI_zero]
theorem cmpA_zero {a b : T_api_Addr} : cmpA a b = 0 ↔ a = b := by
  simp only [cmpA, orI_zero, cmpI_zero, famA_eq]
  obtain ⟨v, hi, lo⟩ := a
  obtain ⟨v', hi', lo'⟩ := b
  simp

theorem cmpA_trans {a b c : T_api_Addr} (h1 : cmpA a b < 0) (h2 : cmpA b c < 0) : cmpA a c < 0 := by
  rw [cmpA_lt] at *
  omega


theorem cmpA_swap {a b : T_api_Addr} : 0 < cmpA a b ↔ cmpA b a < 0 := by
  rw [cmpA_gt, cmpA_lt]
  constructor <;> intro h <;> omega


/-- doorman/endp.Compare -/
def g_endp_Compare (a0 : T_api_End) (a1 : T_api_End) : Option Int :=
  (g_addr_Compare a0.fAddr a1.fAddr).bind fun x1 =>
  (g_cmp_Compare_int a0.fPort a1.fPort).bind fun x2 =>
  (g_cmp_Or_int ([x1, x2] : List Int)).bind fun x3 =>
  some x3

theorem g_endp_Compare_ok (a0 : T_api_End) (a1 : T_api_End) (r : Int) (hf : g_endp_Compare a0 a1 = some r) : SCall Try.prog 90 [.agg (T_api_End.c a0), .agg (T_api_End.c a1)] (.one (.lit (.int .i64 r))) := by
  refine SCall.of Try.func90 rfl rfl rfl rfl fun S0 w0 => ?_
  unfold g_endp_Compare at hf
  obtain ⟨x1, q1, hf⟩ := bind_some' hf
  obtain ⟨x2, q2, hf⟩ := bind_some' hf
  obtain ⟨x3, q3, hf⟩ := bind_some' hf
  replace hf := Option.some.inj hf
  subst hf
  exact toEnd_good allOk 4 _ _ [⟨[], [], [], [], [], [], []⟩, ⟨[(4, .r (.one (.lit (.int .i64 x1))) []), (9, .r (.one (.lit (.int .i64 x2))) []), (11, .r (.one (.lit (.int .i64 x3))) [])], [], [], [[], [0], [], [2], [1, 0, 3, 2], [], [5], [], [7], [6, 5, 8, 7, 4, 1, 0, 3, 2], [4, 1, 0, 3, 2, 9, 6, 5, 8, 7], [10, 4, 1, 0, 3, 2, 9, 6, 5, 8, 7], [11, 10, 4, 1, 0, 3, 2, 9, 6, 5, 8, 7]], [], [(10, (([x1, x2] : List Int).length, rowsOf (cI .i64) (0 : Int) ([x1, x2] : List Int)))], []⟩] [] [] [] [] [SCall Try.prog 137 [.agg (T_api_Addr.c a0.fAddr), .agg (T_api_Addr.c a1.fAddr)] (.one (.lit (.int .i64 x1))), SCall Try.prog 138 [.one (.lit (.int .i64 a0.fPort)), .one (.lit (.int .i64 a1.fPort))] (.one (.lit (.int .i64 x2))), ([x1, x2] : List Int).length = 2 ∧ ∀ i j, i < 2 → j < 1 → rowsOf (cI .i64) (0 : Int) ([x1, x2] : List Int) i j = (([x1, x2] : List Int).flatMap (cI .i64)).getD (i * 1 + j) .junk, SCall Try.prog 136 [.one (cL 1 (cI .i64) (0 : Int) ([x1, x2] : List Int))] (.one (.lit (.int .i64 x3)))] (by kernel_rfl) rfl ⟨(g_addr_Compare_ok a0.fAddr a1.fAddr x1 q1), (g_cmp_Compare_int_ok a0.fPort a1.fPort x2 q2), ⟨rfl, fun i j hi hj => rows_flat (sz := 1) (e := (cI .i64)) (d := (0 : Int)) (fun _ => rfl) ([x1, x2] : List Int) i j hi hj⟩, (g_cmp_Or_int_ok ([x1, x2] : List Int) x3 q3), trivial⟩

/-- slices.Clone[[]doorman/api.Entry,doorman/api.Entry] -/
def g_slices_Clone_doorman_api_Entry_doorman_api_Entry_n (a0 : (List T_api_Entry)) : Option (List T_api_Entry) :=
  need (0 < a0.length) <|
  need ((([] : List T_api_Entry) ++ a0).length * 56 ≤ 140737488355328 ∧ (([] : List T_api_Entry) ++ a0).length ≤ maxLen) <|
  some (([] : List T_api_Entry) ++ a0)

theorem g_slices_Clone_doorman_api_Entry_doorman_api_Entry_n_own (a0 : (List T_api_Entry)) (r : (List T_api_Entry)) (hf : g_slices_Clone_doorman_api_Entry_doorman_api_Entry_n a0 = some r) : HCall Try.prog 83 [] [.one (cL 7 T_api_Entry.c T_api_Entry.d a0)] [(99999, .rows 60 7 r.length (rowsOf T_api_Entry.c T_api_Entry.d r))] (.one (.osl 99999 r.length)) := by
  refine HCall.of Try.func83 rfl rfl rfl rfl fun S0 w0 => ?_
  unfold g_slices_Clone_doorman_api_Entry_doorman_api_Entry_n at hf
  obtain ⟨o1, hf⟩ := need_some hf
  obtain ⟨o2, hf⟩ := need_some hf
  replace hf := Option.some.inj hf
  subst hf
  exact toEndH_good allOk 9 _ _ [⟨[], [], [], [], [], [], []⟩, ⟨[], [], [], [], [], [], []⟩, ⟨[(0, .c ([] : List T_api_Entry).length (rowsOf T_api_Entry.c T_api_Entry.d ([] : List T_api_Entry))), (2, .c ((([] : List T_api_Entry) ++ a0).length) (rowsOf T_api_Entry.c T_api_Entry.d (([] : List T_api_Entry) ++ a0)))], [], [], [], [], [], []⟩] [false] ⟨[], [], [], [], [], [2], [7], [(7, 99999)]⟩ [0 < a0.length, false = false, ([] : List T_api_Entry).length = 0, ∀ i j, i < 0 → j < 7 → rowsOf T_api_Entry.c T_api_Entry.d ([] : List T_api_Entry) i j = (([] : List T_api_Entry).flatMap T_api_Entry.c).getD (i * 7 + j) .junk, Ext 7 (([] : List T_api_Entry).length) a0.length (rowsOf T_api_Entry.c T_api_Entry.d ([] : List T_api_Entry)) (rowsOf T_api_Entry.c T_api_Entry.d a0) ((([] : List T_api_Entry) ++ a0).length) (rowsOf T_api_Entry.c T_api_Entry.d (([] : List T_api_Entry) ++ a0)), (([] : List T_api_Entry) ++ a0).length * 56 ≤ 140737488355328, (([] : List T_api_Entry) ++ a0).length ≤ maxLen] (by kernel_rfl) ⟨o1, rfl, rfl, (fun i j hi hj => rows_flat (sz := 7) (e := T_api_Entry.c) (d := T_api_Entry.d) (fun _ => rfl) ([] : List T_api_Entry) i j hi hj), (ext_app _ _), o2.1, o2.2, trivial⟩

theorem g_slices_Clone_doorman_api_Entry_doorman_api_Entry_n_ok (a0 : (List T_api_Entry)) (r : (List T_api_Entry)) (hf : g_slices_Clone_doorman_api_Entry_doorman_api_Entry_n a0 = some r) : SCall Try.prog 83 [.one (cL 7 T_api_Entry.c T_api_Entry.d a0)] (.one (cL 7 T_api_Entry.c T_api_Entry.d r)) := (g_slices_Clone_doorman_api_Entry_doorman_api_Entry_n_own a0 r hf).pure

theorem g_slices_Clone_doorman_api_Entry_doorman_api_Entry_lit (x : Addr) (cap : Nat) (c : Nat → Nat → C) : HCall Try.prog 83 [] [.one (.lit (.slice (some x) 0 cap))] [(99999, .rows 60 7 0 c)] (.one (.osl 99999 0)) := by
  refine HCall.of Try.func83 rfl rfl rfl rfl fun S0 w0 => ?_
  exact toEndH_good allOk 9 _ _ [⟨[], [], [], [], [], [], []⟩, ⟨[(1, .r (.one (.lit (.bool false))) [])], [], [], [], [], [], []⟩, ⟨[(0, .c 0 c), (2, .c 0 c)], [], [], [], [], [], []⟩] [false] ⟨[], [], [], [], [], [2], [7], [(7, 99999)]⟩
    [∀ w, (do eqGuard .eql 52 (.tmp 3) (.const (.slice none 0 0)) (.slice (some x) 0 cap) (.slice none 0 0); binOp .eql 52 (.slice (some x) 0 cap) (.slice none 0 0) : Sem Value).run Try.prog w = .ok (.bool false) w, false = false, 0 = 0, ∀ i j, i < 0 → j < 7 → c i j = ([] : List C).getD (i * 7 + j) .junk, Ext 7 0 0 c (fun _ _ => .junk) 0 c, 0 * 56 ≤ 140737488355328, 0 ≤ maxLen] (by kernel_rfl) ⟨fun w => by
      have hg : (eqGuard .eql 52 (.tmp 3) (.const (.slice none 0 0)) (.slice (some x) 0 cap) (.slice none 0 0)).run Try.prog w = .ok () w := by simp [eqGuard]
      rw [Sem.run_bind, hg, Result.andThen_ok]
      exact Go.run_eql_slice_nil w _ _ (some x) 0 cap Try.underlying52, rfl, rfl, fun i j h => absurd h (Nat.not_lt_zero i), ⟨rfl, fun _ _ h => absurd h (Nat.not_lt_zero _), fun _ _ h => absurd h (Nat.not_lt_zero _)⟩, by decide, by decide, trivial⟩

theorem g_slices_Clone_doorman_api_Entry_doorman_api_Entry_nil (cap : Nat) (c : Nat → Nat → C) : HCall Try.prog 83 [] [.one (.lit (.slice none 0 cap))] [(99999, .rows 60 7 0 c)] (.one (.osl 99999 0)) := by
  refine HCall.of Try.func83 rfl rfl rfl rfl fun S0 w0 => ?_
  exact toEndH_good allOk 8 _ _ [⟨[], [], [], [], [], [], []⟩, ⟨[(1, .r (.one (.lit (.bool true))) [])], [], [], [], [], [], []⟩, ⟨[], [], [], [], [], [], []⟩] [true] ⟨[], [], [], [], [(2, 99999, 60, 7, c)], [2], [99999], []⟩
    [∀ w, (do eqGuard .eql 52 (.tmp 3) (.const (.slice none 0 0)) (.slice none 0 cap) (.slice none 0 0); binOp .eql 52 (.slice none 0 cap) (.slice none 0 0) : Sem Value).run Try.prog w = .ok (.bool true) w, true = true] (by kernel_rfl) ⟨fun w => by
      have hg : (eqGuard .eql 52 (.tmp 3) (.const (.slice none 0 0)) (.slice none 0 cap) (.slice none 0 0)).run Try.prog w = .ok () w := by simp [eqGuard]
      rw [Sem.run_bind, hg, Result.andThen_ok]
      exact Go.run_eql_slice_nil w _ _ none 0 cap Try.underlying52, rfl, trivial⟩

/-- slices.Clone[[]doorman/api.Entry,doorman/api.Entry] -/
def g_slices_Clone_doorman_api_Entry_doorman_api_Entry (a0 : List T_api_Entry) : Option (List T_api_Entry) :=
  need (a0.length * 56 ≤ 140737488355328 ∧ a0.length ≤ maxLen) <|
  some a0

theorem g_slices_Clone_doorman_api_Entry_doorman_api_Entry_own (a0 : List T_api_Entry) (r : List T_api_Entry) (hf : g_slices_Clone_doorman_api_Entry_doorman_api_Entry a0 = some r) : HCall Try.prog 83 [] [.one (cL 7 T_api_Entry.c T_api_Entry.d a0)] [(99999, .rows 60 7 r.length (rowsOf T_api_Entry.c T_api_Entry.d r))] (.one (.osl 99999 r.length)) := by
  obtain ⟨o1, hf⟩ := need_some hf
  cases hf
  refine clone_parts ⟨_, Try.func83, rfl, rfl⟩ (fun h cap => ?_) (fun h x cap => ?_) (fun h => ?_)
  · rw [h]; exact g_slices_Clone_doorman_api_Entry_doorman_api_Entry_nil cap _
  · rw [h]; exact g_slices_Clone_doorman_api_Entry_doorman_api_Entry_lit x cap _
  · refine g_slices_Clone_doorman_api_Entry_doorman_api_Entry_n_own a0 a0 ?_
    unfold g_slices_Clone_doorman_api_Entry_doorman_api_Entry_n
    rw [need_pos h, need_pos (by simpa using o1)]
    simp

theorem g_slices_Clone_doorman_api_Entry_doorman_api_Entry_ok (a0 : List T_api_Entry) (r : List T_api_Entry) (hf : g_slices_Clone_doorman_api_Entry_doorman_api_Entry a0 = some r) : SCall Try.prog 83 [.one (cL 7 T_api_Entry.c T_api_Entry.d a0)] (.one (cL 7 T_api_Entry.c T_api_Entry.d r)) := (g_slices_Clone_doorman_api_Entry_doorman_api_Entry_own a0 r hf).pure

def g_slices_Reverse_api_Entry_api_Entry_c0   : Nat → Int → Int → (List T_api_Entry) → Option (List T_api_Entry)
  | 0, _, _, _ => none
  | fu + 1, v2, v3, w100000 =>
    bif (decide (v2 < v3)) then
      need (0 ≤ v3 ∧ v3 < ((w100000.length : Nat) : Int)) <|
      need (0 ≤ v2 ∧ v2 < ((w100000.length : Nat) : Int)) <|
      g_slices_Reverse_api_Entry_api_Entry_c0   fu (add64 v2 (1 : Int)) (sub64 v3 (1 : Int)) ((w100000.set v2.toNat (w100000.getD v3.toNat T_api_Entry.d)).set v3.toNat (w100000.getD v2.toNat T_api_Entry.d))
    else
      some w100000

theorem g_slices_Reverse_api_Entry_api_Entry_c0_ok (S0 : Nat → Prop) (w0 : Start)   : ∀ (fu : Nat) (v2 : Int) (v3 : Int) (w100000 : (List T_api_Entry)) (r : (List T_api_Entry)), g_slices_Reverse_api_Entry_api_Entry_c0   fu v2 v3 w100000 = some r → Good Try.prog 28 S0 w0 (bodyPost Try.prog Try.f177 (HPost S0 w0 [(100000, .rows 60 7 r.length (rowsOf T_api_Entry.c T_api_Entry.d r))] (.tup []))) (at_ [1, 0] (bodyOf Try.f177)) ⟨[(0, .one (.osl 100000 w100000.length)), (2, .one (.lit (.int .i64 v2))), (3, .one (.lit (.int .i64 v3)))], [(100000, .rows 60 7 w100000.length (rowsOf T_api_Entry.c T_api_Entry.d w100000))]⟩ := by
  intro fu
  induction fu with
  | zero =>
    intro v2 v3 w100000 r hf
    simp [g_slices_Reverse_api_Entry_api_Entry_c0] at hf
  | succ fu ih =>
    intro v2 v3 w100000 r hf
    unfold g_slices_Reverse_api_Entry_api_Entry_c0 at hf
    rcases br_some hf with ⟨h1, hf⟩ | ⟨h1, hf⟩
    · obtain ⟨o2, hf⟩ := need_some hf
      obtain ⟨o3, hf⟩ := need_some hf
      exact toK_good allOk HPost.ends 12 _ _ _ _ [⟨[], [], [], [], [], [], []⟩, ⟨[(13, .c (w100000.set v2.toNat (w100000.getD v3.toNat T_api_Entry.d)).length (rowsOf T_api_Entry.c T_api_Entry.d (w100000.set v2.toNat (w100000.getD v3.toNat T_api_Entry.d)))), (15, .c ((w100000.set v2.toNat (w100000.getD v3.toNat T_api_Entry.d)).set v3.toNat (w100000.getD v2.toNat T_api_Entry.d)).length (rowsOf T_api_Entry.c T_api_Entry.d ((w100000.set v2.toNat (w100000.getD v3.toNat T_api_Entry.d)).set v3.toNat (w100000.getD v2.toNat T_api_Entry.d))))], [], [], [[], [], [], [], [], [], [4, 5], [6, 4, 5], [], [], [8, 9], [10, 8, 9], [0, 1, 4, 5, 6, 7, 11, 10, 8, 9], [12, 0, 1, 4, 5, 6, 7, 11, 10, 8, 9], [2, 3, 0, 1, 4, 5, 6, 7, 8, 9, 10, 11, 12, 13], [14, 2, 3, 0, 1, 4, 5, 6, 7, 8, 9, 10, 11, 12, 13]], [], [], []⟩, ⟨[], [], [], [], [], [], []⟩] [true] ⟨[], [], [], [(100000, (((w100000.set v2.toNat (w100000.getD v3.toNat T_api_Entry.d)).set v3.toNat (w100000.getD v2.toNat T_api_Entry.d)).length))], [], [0, 2, 3], [100000], []⟩ [(decide (v2 < v3)) = true, 0 ≤ v3 ∧ v3 < ((w100000.length : Nat) : Int), v3.toNat < w100000.length, 0 ≤ v2 ∧ v2 < ((w100000.length : Nat) : Int), v2.toNat < w100000.length, 0 ≤ v2 ∧ v2 < ((w100000.length : Nat) : Int), (w100000.set v2.toNat (w100000.getD v3.toNat T_api_Entry.d)).length = w100000.length, v2.toNat < w100000.length, ExtU 7 w100000.length (rowsOf T_api_Entry.c T_api_Entry.d w100000) v2.toNat 0 (T_api_Entry.c (w100000.getD v3.toNat T_api_Entry.d)) (rowsOf T_api_Entry.c T_api_Entry.d (w100000.set v2.toNat (w100000.getD v3.toNat T_api_Entry.d))), 0 ≤ v3 ∧ v3 < ((w100000.length : Nat) : Int), ((w100000.set v2.toNat (w100000.getD v3.toNat T_api_Entry.d)).set v3.toNat (w100000.getD v2.toNat T_api_Entry.d)).length = (w100000.set v2.toNat (w100000.getD v3.toNat T_api_Entry.d)).length, v3.toNat < (w100000.set v2.toNat (w100000.getD v3.toNat T_api_Entry.d)).length, ExtU 7 ((w100000.set v2.toNat (w100000.getD v3.toNat T_api_Entry.d)).length) (rowsOf T_api_Entry.c T_api_Entry.d (w100000.set v2.toNat (w100000.getD v3.toNat T_api_Entry.d))) v3.toNat 0 (T_api_Entry.c (w100000.getD v2.toNat T_api_Entry.d)) (rowsOf T_api_Entry.c T_api_Entry.d ((w100000.set v2.toNat (w100000.getD v3.toNat T_api_Entry.d)).set v3.toNat (w100000.getD v2.toNat T_api_Entry.d))), ((w100000.set v2.toNat (w100000.getD v3.toNat T_api_Entry.d)).set v3.toNat (w100000.getD v2.toNat T_api_Entry.d)).length = ((w100000.set v2.toNat (w100000.getD v3.toNat T_api_Entry.d)).set v3.toNat (w100000.getD v2.toNat T_api_Entry.d)).length] (by kernel_rfl) ⟨h1, o2, (ltOf o2), o3, (ltOf o3), o3, List.length_set, (ltOf o3), (ext_set _ _ _ rfl), o2, List.length_set, (by have := ltOf o2; simp at this ⊢; omega), (ext_set _ _ _ rfl), rfl, trivial⟩ (ih (add64 v2 (1 : Int)) (sub64 v3 (1 : Int)) ((w100000.set v2.toNat (w100000.getD v3.toNat T_api_Entry.d)).set v3.toNat (w100000.getD v2.toNat T_api_Entry.d)) r hf)
    · replace hf := Option.some.inj hf
      subst hf
      exact toEndH_good allOk 6 _ _ [⟨[], [], [], [], [], [], []⟩] [false] ⟨[], [], [], [], [], [], [100000], []⟩ [(decide (v2 < v3)) = false] (by kernel_rfl) ⟨h1, trivial⟩

/-- slices.Reverse[[]doorman/api.Entry,doorman/api.Entry] -/
def g_slices_Reverse_api_Entry_api_Entry (a0 : (List T_api_Entry)) : Option (List T_api_Entry) :=
  g_slices_Reverse_api_Entry_api_Entry_c0   (((sub64 ((a0.length : Nat) : Int) (1 : Int)) - (0 : Int)).toNat + 2) (0 : Int) (sub64 ((a0.length : Nat) : Int) (1 : Int)) a0

theorem g_slices_Reverse_api_Entry_api_Entry_own (a0 : (List T_api_Entry)) (r : (List T_api_Entry)) (hf : g_slices_Reverse_api_Entry_api_Entry a0 = some r) : HCall Try.prog 177 [(100000, .rows 60 7 a0.length (rowsOf T_api_Entry.c T_api_Entry.d a0))] [.one (.osl 100000 a0.length)] [(100000, .rows 60 7 r.length (rowsOf T_api_Entry.c T_api_Entry.d r))] (.tup []) := by
  refine HCall.of Try.func177 rfl rfl rfl rfl fun S0 w0 => ?_
  unfold g_slices_Reverse_api_Entry_api_Entry at hf
  exact toK_good allOk HPost.ends 3 _ _ _ _ [⟨[], [], [], [], [], [], []⟩] [] ⟨[], [], [], [], [], [0, 2, 3], [100000], []⟩ [] (by kernel_rfl) trivial (g_slices_Reverse_api_Entry_api_Entry_c0_ok S0 w0    (((sub64 ((a0.length : Nat) : Int) (1 : Int)) - (0 : Int)).toNat + 2) (0 : Int) (sub64 ((a0.length : Nat) : Int) (1 : Int)) a0 r hf)

set_option maxHeartbeats 4000000 in
set_option maxRecDepth 100000 in
theorem ins91_shift (b n c i vb m vc : Nat) (cur vcur : Array Value) (w : World) (hi : i < n) (hm : 0 < m) (hroom : n + m ≤ c) (hc63 : c ≤ maxLen) (hvb : vb ≠ b)
    (hcur : w.heap[b]? = some (.cells cur 60 (0, 0))) (hcs : cur.size = c * 7) (hvcur : w.heap[vb]? = some (.cells vcur 60 (0, 0))) (hvm : m ≤ vc) (hvs : vcur.size = vc * 7)
    (h1c : ∀ v ∈ cur.toList.take (n * 7), v.oneCell' = true) (h1v : ∀ v ∈ vcur.toList.take (m * 7), v.oneCell' = true) :
    Calls Try.prog 91 #[.slice (some ⟨b, 0, none⟩) n c, .int .i64 i, .slice (some ⟨vb, 0, none⟩) m vc] w fun e w' =>
      ∃ R : Array Value, e = .returned (.slice (some ⟨b, 0, none⟩) (n + m) c) ∧ w.drawn ≤ w'.drawn ∧ w.grownBy w' (some b) ∧ w'.heap[b]? = some (.cells R 60 (0, 0)) ∧ R.size = c * 7 ∧
        R.toList.take ((n + m) * 7) = cur.toList.take (i * 7) ++ vcur.toList.take (m * 7) ++ (cur.toList.drop (i * 7)).take ((n - i) * 7) := by
  have hc63' := hc63
  unfold maxLen at hc63
  have hz1 : ¬ ((m : Int) = 0) := by omega
  have hz2 : ¬ ((i : Int) = (n : Int)) := by omega
  have hw1 : IntKind.i64.wrap ((i : Int) + (m : Int)) = (i : Int) + (m : Int) := by rw [IntKind.wrap_i64]; omega
  have hw2 : IntKind.i64.wrap ((n : Int) + (m : Int)) = (n : Int) + (m : Int) := by rw [IntKind.wrap_i64]; omega
  have hb1 : (0 : Int) ≤ (i : Int) + (m : Int) := by omega
  have hin : i ≤ n := by omega
  have htn : ((i : Int) + (m : Int)).toNat = i + m := by omega
  have hb2 : ¬ (c = i + m) := by omega
  have hb3 : (i : Int) ≤ (n : Int) + (m : Int) := by omega
  have hb4 : ¬ (c = i) := by omega
  have hov : ∀ o lb cb, (callFunc 139 #[.slice (some ⟨vb, 0, none⟩) m vc, .slice (some ⟨b, o, none⟩) lb cb]).run Try.prog w = .ok (.value (.bool false)) w := fun o lb cb => by
    rw [run_callFunc_extern Try.func139 (by kernel_rfl) (by kernel_rfl) (by kernel_rfl) (e := Extern.SlicesOverlaps.overlaps #[52, 52] #[4]) (by kernel_rfl),
      Lib.run_overlaps_apart w 52 4 60 Try.underlying52 7 Try.sizeOf60 ⟨vb, 0, none⟩ ⟨b, o, none⟩ m vc lb cb hvb 60 60 vcur.size cur.size (by simp [World.shape?, hvcur]) (by simp [World.shape?, hcur]) (by omega) (by simp [World.frozen?, hvcur]) (by simp [World.frozen?, hvcur])]
    rfl
  have hsz : (Try.prog.info? 60).map (·.size) = some 7 := by kernel_rfl
  obtain ⟨M1, hM1⟩ : ∃ M1, M1 = splice cur.toList ((i + m) * 7) ((cur.toList.drop (i * 7)).take ((n - i) * 7)) := ⟨_, rfl⟩
  have hM1l : M1.toArray.size = c * 7 := by
    rw [hM1]; simp [splice]; omega
  have hcp1 : ∀ ty dc sc, (Builtin.copy_ #[52, 52] ty #[.slice (some ⟨b, (i + m) * 7, none⟩) (n + m - (i + m)) dc, .slice (some ⟨b, i * 7, none⟩) (n + m - i) sc]).run Try.prog w.drew = .ok (goInt ((n - i : Nat) : Int)) (w.drew.setRow b M1.toArray) := fun ty dc sc => by
    have h := run_copy_rowK (P := Try.prog) w.drew 52 52 ty 60 7 b ((i + m) * 7) (n + m - (i + m)) dc ⟨b, i * 7, none⟩ (n + m - i) sc cur 60 ((cur.toList.drop (i * 7)).take ((n - i) * 7)) Try.underlying52 hsz
      (by have : Nat.min (n + m - i) (n + m - (i + m)) = n - i := by simp only [Nat.min_def]; split <;> omega
          rw [this]; simp; omega)
      (fun j v hj => by
        rw [addr_off]
        rw [List.getElem?_take] at hj
        split at hj
        · rw [List.getElem?_drop] at hj
          rw [show w.drew.cell? ⟨b, i * 7 + j, none⟩ = w.cell? ⟨b, i * 7 + j, none⟩ from rfl, cell_of_row w b _ cur 60 (0, 0) hcur]
          simpa using hj
        · cases hj)
      hcur (by simp; omega) (fun v hv => h1c v (by
        obtain ⟨j, hj⟩ := List.getElem?_of_mem hv
        rw [List.getElem?_take] at hj
        split at hj
        · rw [List.getElem?_drop] at hj
          exact List.mem_of_getElem? (i := i * 7 + j) (by rw [List.getElem?_take, if_pos (by omega)]; exact hj)
        · cases hj))
    rw [show Nat.min (n + m - i) (n + m - (i + m)) = n - i by simp only [Nat.min_def]; split <;> omega, ← hM1] at h
    exact h
  obtain ⟨W1, hW1⟩ : ∃ W1, W1 = w.drew.setRow b M1.toArray := ⟨_, rfl⟩
  have hW1b : W1.heap[b]? = some (.cells M1.toArray 60 (0, 0)) := by
    rw [hW1]; exact setRow_heap _ _ _ _ _ _ hcur
  have hW1v : W1.heap[vb]? = some (.cells vcur 60 (0, 0)) := by
    rw [hW1, setRow_other _ _ _ _ hvb]; exact hvcur
  have hcp2 : ∀ (W : World), W.heap = W1.heap → ∀ ty dc, (Builtin.copy_ #[52, 52] ty #[.slice (some ⟨b, i * 7, none⟩) (n + m - i) dc, .slice (some ⟨vb, 0, none⟩) m vc]).run Try.prog W = .ok (goInt (m : Int)) (W.setRow b (splice M1 (i * 7) (vcur.toList.take (m * 7))).toArray) := fun W hWh ty dc => by
    have h := run_copy_rowK (P := Try.prog) W 52 52 ty 60 7 b (i * 7) (n + m - i) dc ⟨vb, 0, none⟩ m vc M1.toArray 60 (vcur.toList.take (m * 7)) Try.underlying52 hsz
      (by have : Nat.min m (n + m - i) = m := by simp only [Nat.min_def]; split <;> omega
          rw [this]; simp; omega)
      (fun j v hj => by
        rw [addr_off, Nat.zero_add]
        rw [List.getElem?_take] at hj
        split at hj
        · rw [cell_of_row W vb _ vcur 60 (0, 0) (by rw [hWh]; exact hW1v)]
          simpa using hj
        · cases hj)
      (by rw [hWh]; exact hW1b) (by simp at hM1l ⊢; omega) h1v
    rw [show Nat.min m (n + m - i) = m by simp only [Nat.min_def]; split <;> omega] at h
    exact h
  rw [← hW1] at hcp1
  obtain ⟨R3, hR3⟩ : ∃ R3, R3 = splice M1 (i * 7) (vcur.toList.take (m * 7)) := ⟨_, rfl⟩
  rw [← hR3] at hcp2
  have hR3l : R3.length = c * 7 := by
    rw [hR3]; simp at hM1l; simp [splice]; omega
  have hfin : R3.take ((n + m) * 7) = cur.toList.take (i * 7) ++ vcur.toList.take (m * 7) ++ (cur.toList.drop (i * 7)).take ((n - i) * 7) := by
    have hM1l' : M1.length = c * 7 := by simpa using hM1l
    have hvl : (vcur.toList.take (m * 7)).length = m * 7 := by simp; omega
    have hdl : ((cur.toList.drop (i * 7)).take ((n - i) * 7)).length = (n - i) * 7 := by simp; omega
    apply List.ext_getElem?
    intro k
    rw [List.getElem?_take]
    split
    · rename_i hk
      rw [hR3, splice_get _ _ _ (by rw [hvl]; omega), hM1, splice_get _ _ _ (by rw [hdl]; simp; omega)]
      by_cases h1 : k < i * 7
      · rw [if_neg (by omega), if_neg (by omega), List.append_assoc, List.getElem?_append_left (by simp; omega), List.getElem?_take, if_pos h1]
      · by_cases h2 : k < (i + m) * 7
        · rw [if_pos ⟨by omega, by rw [hvl]; omega⟩, List.append_assoc, List.getElem?_append_right (by simp; omega), List.getElem?_append_left (by simp; omega)]
          congr 1; simp; omega
        · rw [if_neg (by rw [hvl]; omega), if_pos ⟨by omega, by rw [hdl]; omega⟩, List.getElem?_append_right (by rw [List.length_append, hvl]; simp; omega)]
          congr 1; rw [List.length_append, hvl]; simp; omega
    · rename_i hk
      rw [List.getElem?_eq_none (by rw [List.length_append, List.length_append, hvl, hdl]; simp; omega)]
  have hgb : w.grownBy (W1.setRow b R3.toArray) (some b) := by
    rw [hW1]
    exact ⟨rfl, rfl, rfl, by simp, fun k _ hk => by
      have hne : k ≠ b := fun h => hk (by rw [h])
      rw [setRow_other _ _ _ _ hne, setRow_other _ _ _ _ hne]
      rfl⟩
  have hat := setRow_heap W1 b _ R3.toArray _ _ hW1b
  have HF := Lib.hid hfin; clear hfin
  have HL := Lib.hid hR3l; clear hR3l
  have hdr : w.drawn ≤ (W1.setRow b R3.toArray).drawn := by rw [hW1]; exact Nat.le_succ _
  have HG := Lib.hid hgb; clear hgb
  have HD := Lib.hid hdr; clear hdr
  have HA := Lib.hid hat; clear hat
  clear hM1l hW1b hW1v h1c h1v hsz hR3
  clear hW1
  clear hM1
  have mixed : Try.prog.follows .mixedOrders = true := by kernel_rfl
  go_enter Try.func91, Try.ntmps91
  go_wp2_with (simp only [hov])
  go_region_law_o (refine step_copy_runI rfl _ _ 52 52 rfl _ _ (by simp [Act.eval, Act.put]) (by simp [Act.eval, Act.put]) (hcp1 _ _ _) ?_)
  go_wp2_with (at_builtin; refine wpList_copy_runI _ rfl _ _ 52 52 rfl _ _ rfl rfl (hcp2 _ rfl _ _) ?_)
  go_ret
  exact ⟨R3.toArray, rfl, HD.out, HG.out, HA.out, HL.out, HF.out⟩

set_option maxHeartbeats 4000000 in
set_option maxRecDepth 100000 in
theorem ins91_grow (b n c i vb m vc : Nat) (cur vcur : Array Value) (w : World) (hi : i < n) (hm : 0 < m) (hnc : n ≤ c) (hroom : c < n + m) (hbig : (n + m) * 56 ≤ 140737488355328)
    (hcur : w.heap[b]? = some (.cells cur 60 (0, 0))) (hcs : cur.size = c * 7) (hvcur : w.heap[vb]? = some (.cells vcur 60 (0, 0))) (hvm : m ≤ vc) (hvs : vcur.size = vc * 7)
    (h1c : ∀ v ∈ cur.toList.take (n * 7), v.oneCell' = true) (h1v : ∀ v ∈ vcur.toList.take (m * 7), v.oneCell' = true) :
    Calls Try.prog 91 #[.slice (some ⟨b, 0, none⟩) n c, .int .i64 i, .slice (some ⟨vb, 0, none⟩) m vc] w fun e w' =>
      ∃ (G : Nat) (R : Array Value), e = .returned (.slice (some ⟨w.heap.size, 0, none⟩) (n + m) G) ∧ w.drawn ≤ w'.drawn ∧ Below w.heap.size w w' ∧ w'.heap[w.heap.size]? = some (.cells R 60 (0, 0)) ∧ n + m ≤ G ∧ G ≤ maxLen ∧ R.size = G * 7 ∧
        R.toList.take ((n + m) * 7) = cur.toList.take (i * 7) ++ vcur.toList.take (m * 7) ++ (cur.toList.drop (i * 7)).take ((n - i) * 7) := by
  have hz1 : ¬ ((m : Int) = 0) := by omega
  have hz2 : ¬ ((i : Int) = (n : Int)) := by omega
  have hz3 : (c : Int) < (n : Int) + (m : Int) := by omega
  have hkk : (n : Int) + (m : Int) - (i : Int) = ((n + m - i : Nat) : Int) := by omega
  have hik : i + (n + m - i) = n + m := by omega
  have hbw : b < w.heap.size := (Array.getElem?_eq_some_iff.1 hcur).1
  have hvw : vb < w.heap.size := (Array.getElem?_eq_some_iff.1 hvcur).1
  have hbN : b ≠ w.heap.size := by omega
  have hvN : vb ≠ w.heap.size := by omega
  obtain ⟨i0, hi0, hzs, hzb, hz0⟩ := tabOk.info (t := 60) (show tlook tab 60 = some _ from rfl)
  replace hzs : i0.size = 7 := hzs
  replace hzb : i0.bytes = 56 := hzb
  replace hz0 : i0.zero = some (.agg #[.bool false, .int .u64 (0), .int .u64 (0), .int .i64 (0), .int .i64 (0), .int .i64 (0), .int .i64 (0)]) := hz0
  have hsz : (Try.prog.info? 60).map (·.size) = some 7 := by kernel_rfl
  have hold : (Builtin.firstCells i0.size i (.slice (some ⟨b, 0, none⟩) i c)).run Try.prog w.drew = .ok (cur.toList.take (i * 7)).toArray w.drew := by
    rw [hzs]
    exact run_firstCells_some w.drew 7 i ⟨b, 0, none⟩ i c (cur.toList.take (i * 7)) (by simp; omega) (fun j v hj => by
      rw [addr_off, Nat.zero_add]
      rw [List.getElem?_take] at hj
      split at hj
      · rw [show w.drew.cell? ⟨b, j, none⟩ = w.cell? ⟨b, j, none⟩ from rfl, cell_of_row w b _ cur 60 (0, 0) hcur]
        simpa using hj
      · cases hj)
  obtain ⟨G, hG⟩ : ∃ G, G = grownCap w (n + m) c 60 := ⟨_, rfl⟩
  obtain ⟨ROW, hROW⟩ : ∃ ROW : Array Value, ROW = (cur.toList.take (i * 7)).toArray ++ Builtin.zeroCells (Value.cells (.agg #[.bool false, .int .u64 (0), .int .u64 (0), .int .i64 (0), .int .i64 (0), .int .i64 (0), .int .i64 (0)])) (n + m - i) ++ Builtin.zeroCells (Value.cells (.agg #[.bool false, .int .u64 (0), .int .u64 (0), .int .i64 (0), .int .i64 (0), .int .i64 (0), .int .i64 (0)])) (G - (n + m)) := ⟨_, rfl⟩
  have hrz : ∀ ty, (Builtin.append_ #[52, 3] ty #[.slice (some ⟨b, 0, none⟩) i c, .int .i64 ((n : Int) + (m : Int) - (i : Int))]).run Try.prog w =
      .ok (.slice (some ⟨w.heap.size, 0, none⟩) (n + m) G) (w.drew.alloc (.cells ROW 60)) := fun ty => by
    have h := Lib.run_append_grow_zeros w 52 3 ty 60 i0 _ .i64 .i64 Try.underlying52 Try.underlying3 hi0 hz0 (some ⟨b, 0, none⟩) i c (cur.toList.take (i * 7)) hold (n + m - i) (by omega) (by omega) (by omega) (by omega) (by rw [hzb]; omega) (by rw [hzb, hik]; exact growslice_fits hroom hbig)
    rw [hik, ← hG, ← hROW] at h
    rw [hkk]
    exact h
  have hGn : n + m ≤ G := by rw [hG]; exact grownCap_ge w _ _ _
  have hGm : G ≤ maxLen := by rw [hG]; exact grownCap_le_maxLen w (n + m) c 60 (by unfold maxLen; omega)
  have hRs : ROW.size = G * 7 := by
    rw [hROW]
    simp [Builtin.zeroCells, Value.cells]
    omega
  have hRt : ROW.toList.take (i * 7) = cur.toList.take (i * 7) := by
    rw [hROW]
    simp only [Array.toList_append, List.append_assoc]
    rw [List.take_append_of_le_length (by simp; omega)]
    simp [List.take_take]
  clear hROW hG hold
  obtain ⟨W1, hW1⟩ : ∃ W1, W1 = w.drew.alloc (.cells ROW 60) := ⟨_, rfl⟩
  have hWN : W1.heap[w.heap.size]? = some (.cells ROW 60 (0, 0)) := by rw [hW1]; exact heap_alloc_new w.drew _
  have hWb : W1.heap[b]? = some (.cells cur 60 (0, 0)) := by rw [hW1, heap_alloc_old w.drew _ hbw]; exact hcur
  have hWv : W1.heap[vb]? = some (.cells vcur 60 (0, 0)) := by rw [hW1, heap_alloc_old w.drew _ hvw]; exact hvcur
  obtain ⟨V, hV⟩ : ∃ V, V = vcur.toList.take (m * 7) := ⟨_, rfl⟩
  have hVl : V.length = m * 7 := by rw [hV]; simp; omega
  obtain ⟨D, hD⟩ : ∃ D, D = (cur.toList.drop (i * 7)).take ((n - i) * 7) := ⟨_, rfl⟩
  have hDl : D.length = (n - i) * 7 := by rw [hD]; simp; omega
  obtain ⟨R2, hR2⟩ : ∃ R2, R2 = splice ROW.toList (i * 7) V := ⟨_, rfl⟩
  have hR2l : R2.length = G * 7 := by rw [hR2]; simp [splice, hVl]; omega
  obtain ⟨R3, hR3⟩ : ∃ R3, R3 = splice R2 ((i + m) * 7) D := ⟨_, rfl⟩
  have hR3l : R3.length = G * 7 := by rw [hR3]; simp [splice, hDl]; omega
  have hfin : R3.take ((n + m) * 7) = cur.toList.take (i * 7) ++ V ++ D := by
    apply List.ext_getElem?
    intro k
    rw [List.getElem?_take]
    split
    · rename_i hk
      rw [hR3, splice_get _ _ _ (by rw [hDl]; omega), hR2, splice_get _ _ _ (by rw [hVl]; simp; omega)]
      by_cases h1 : k < i * 7
      · rw [if_neg (by omega), if_neg (by omega), List.append_assoc, List.getElem?_append_left (by simp; omega), ← hRt, List.getElem?_take, if_pos h1]
      · by_cases h2 : k < (i + m) * 7
        · rw [if_neg (by omega), if_pos ⟨by omega, by rw [hVl]; omega⟩, List.append_assoc, List.getElem?_append_right (by simp; omega), List.getElem?_append_left (by simp; omega)]
          congr 1; simp; omega
        · rw [if_pos ⟨by omega, by rw [hDl]; omega⟩, List.getElem?_append_right (by simp [hVl]; omega)]
          congr 1; simp [hVl]; omega
    · rename_i hk
      rw [List.getElem?_eq_none (by simp [hVl, hDl]; omega)]
  have hcpA : ∀ (W : World), W.heap = W1.heap → ∀ ty dc, (Builtin.copy_ #[52, 52] ty #[.slice (some ⟨w.heap.size, i * 7, none⟩) (n + m - i) dc, .slice (some ⟨vb, 0, none⟩) m vc]).run Try.prog W = .ok (goInt (m : Int)) (W.setRow w.heap.size R2.toArray) := fun W hWh ty dc => by
    have h := run_copy_rowK (P := Try.prog) W 52 52 ty 60 7 w.heap.size (i * 7) (n + m - i) dc ⟨vb, 0, none⟩ m vc ROW 60 V Try.underlying52 hsz
      (by have : Nat.min m (n + m - i) = m := by simp only [Nat.min_def]; split <;> omega
          rw [this, hVl])
      (fun j v hj => by
        rw [hV] at hj
        rw [addr_off, Nat.zero_add]
        rw [List.getElem?_take] at hj
        split at hj
        · rw [cell_of_row W vb _ vcur 60 (0, 0) (by rw [hWh]; exact hWv)]
          simpa using hj
        · cases hj)
      (by rw [hWh]; exact hWN) (by rw [hVl, hRs]; omega) (by rw [hV]; exact h1v)
    rw [show Nat.min m (n + m - i) = m by simp only [Nat.min_def]; split <;> omega, ← hR2] at h
    exact h
  have hcpB : ∀ (W : World), W.heap[w.heap.size]? = some (.cells R2.toArray 60 (0, 0)) → W.heap[b]? = some (.cells cur 60 (0, 0)) → ∀ ty dc sc, (Builtin.copy_ #[52, 52] ty #[.slice (some ⟨w.heap.size, (i + m) * 7, none⟩) (n + m - (i + m)) dc, .slice (some ⟨b, i * 7, none⟩) (n - i) sc]).run Try.prog W = .ok (goInt ((n - i : Nat) : Int)) (W.setRow w.heap.size R3.toArray) := fun W hN hB ty dc sc => by
    have h := run_copy_rowK (P := Try.prog) W 52 52 ty 60 7 w.heap.size ((i + m) * 7) (n + m - (i + m)) dc ⟨b, i * 7, none⟩ (n - i) sc R2.toArray 60 D Try.underlying52 hsz
      (by have : Nat.min (n - i) (n + m - (i + m)) = n - i := by simp only [Nat.min_def]; split <;> omega
          rw [this, hDl])
      (fun j v hj => by
        rw [hD] at hj
        rw [addr_off]
        rw [List.getElem?_take] at hj
        split at hj
        · rw [List.getElem?_drop] at hj
          rw [cell_of_row W b _ cur 60 (0, 0) hB]
          simpa using hj
        · cases hj)
      hN (by simp [hDl, hR2l]; omega) (fun v hv => h1c v (by
        rw [hD] at hv
        obtain ⟨j, hj⟩ := List.getElem?_of_mem hv
        rw [List.getElem?_take] at hj
        split at hj
        · rw [List.getElem?_drop] at hj
          exact List.mem_of_getElem? (i := i * 7 + j) (by rw [List.getElem?_take, if_pos (by omega)]; exact hj)
        · cases hj))
    rw [show Nat.min (n - i) (n + m - (i + m)) = n - i by simp only [Nat.min_def]; split <;> omega] at h
    rw [show R2.toArray.toList = R2 from rfl, ← hR3] at h
    exact h
  have hW2N : (W1.setRow w.heap.size R2.toArray).heap[w.heap.size]? = some (.cells R2.toArray 60 (0, 0)) := setRow_heap _ _ _ _ _ _ hWN
  have hW2b : (W1.setRow w.heap.size R2.toArray).heap[b]? = some (.cells cur 60 (0, 0)) := by rw [setRow_other _ _ _ _ hbN]; exact hWb
  have hbel : Below w.heap.size w W1 := by
    rw [hW1]
    exact ⟨rfl, rfl, rfl, by simp, fun k hk => heap_alloc_old w.drew _ hk⟩
  have mixed : Try.prog.follows .mixedOrders = true := by kernel_rfl
  have hdr : w.drawn ≤ W1.drawn := by rw [hW1]; exact Nat.le_succ _
  have HW := Lib.hid hdr; clear hdr
  have HF := Lib.hid hfin; clear hfin
  have hGi : ¬ (G = i) := by omega
  have hGim : ¬ (G = i + m) := by omega
  have hci : ¬ (c = i) := by omega
  have hGM := hGm
  unfold maxLen at hGM
  have hin : i ≤ n := by omega
  have htn : ((i : Int) + (m : Int)).toNat = i + m := by omega
  have hw1 : IntKind.i64.wrap ((i : Int) + (m : Int)) = (i : Int) + (m : Int) := by rw [IntKind.wrap_i64]; omega
  have hb1 : (0 : Int) ≤ (i : Int) + (m : Int) := by omega
  have hb3 : (i : Int) ≤ (n : Int) := by omega
  rw [← hV, ← hD]
  rw [← hW1] at hrz
  clear hV hD hVl hDl hR2 hR2l hR3 hRt hi0 hzb hzs hz0 hsz hRs hkk hik hWN hWb hWv hcs hvs h1c h1v hcur hvcur hW1
  have HR3 := Lib.hid hR3l; clear hR3l
  go_enter Try.func91, Try.ntmps91
  go_wp2_with (first
    | (at_builtin; refine Lib.wpList_append_run _ rfl _ _ _ _ rfl _ _ rfl rfl _ _ (hrz _) ?_)
    | (at_builtin; refine wpList_copy_runI _ rfl _ _ 52 52 rfl _ _ rfl rfl (hcpA _ rfl _ _) ?_)
    | (at_builtin; refine wpList_copy_runI _ rfl _ _ 52 52 rfl _ _ rfl rfl (hcpB _ (by first | exact hW2N | assumption) (by first | exact hW2b | assumption) _ _ _) ?_))
  go_region_law_o (refine step_copy_runI rfl _ _ 52 52 rfl (.slice (some ⟨w.heap.size, (i + m) * 7, none⟩) (n + m - (i + m)) (G - (i + m))) (.slice (some ⟨b, i * 7, none⟩) (n - i) (c - i)) (by simp [Act.eval, Act.put]) (by simp [Act.eval, Act.put]) (hcpB (W1.setRow w.heap.size R2.toArray).drew hW2N hW2b 3 (G - (i + m)) (c - i)) ?_)
  go_wp2
  go_ret
  exact ⟨G, R3.toArray, rfl, Nat.le_trans HW.out (by simp [World.setRow]), ⟨hbel.os, hbel.tape, hbel.output, by simpa using hbel.size, fun k hk => by rw [setRow_other _ _ _ _ (by omega)]; exact (setRow_other _ _ _ _ (by omega)).trans (hbel.block k hk)⟩, setRow_heap _ _ _ _ _ _ hW2N, hGn, hGm, HR3.out, HF.out⟩

set_option maxHeartbeats 4000000 in
set_option maxRecDepth 100000 in
theorem ins91_end (base : Option Addr) (n c vb m vc : Nat) (w w' : World) (v' : Value) (hnc : n ≤ c) (hc63 : c ≤ maxLen) (hm : 0 < m) (hnil : base = none → n = 0) (hm63 : m ≤ maxLen)
    (hrun : ∀ ty, (Builtin.append_ #[52, 52] ty #[.slice base n c, .slice (some ⟨vb, 0, none⟩) m vc]).run Try.prog w = .ok v' w') :
    Calls Try.prog 91 #[.slice base n c, .int .i64 n, .slice (some ⟨vb, 0, none⟩) m vc] w fun e w1 => e = .returned v' ∧ w' = w1 := by
  have hz1 : ¬ ((m : Int) = 0) := by omega
  unfold maxLen at hc63 hm63
  cases base with
  | none =>
    have h0 := hnil rfl
    subst h0
    go_enter Try.func91, Try.ntmps91
    go_wp2_with (at_builtin; refine Lib.wpList_append_run _ rfl _ _ _ _ rfl _ _ rfl rfl _ _ (hrun _) ?_)
    go_ret
    exact ⟨rfl, rfl⟩
  | some a =>
    obtain ⟨ab, ao, asp⟩ := a
    go_enter Try.func91, Try.ntmps91
    go_wp2_with (at_builtin; refine Lib.wpList_append_run _ rfl _ _ _ _ rfl _ _ rfl rfl _ _ (hrun _) ?_)
    all_goals (go_ret; exact ⟨rfl, rfl⟩)

/-- slices.Insert -/
def g_slices_Insert_doorman_api_Entry_doorman_api_Entry (a0 : List T_api_Entry) (a1 : Int) (a2 : List T_api_Entry) : Option (List T_api_Entry) :=
  need (0 ≤ a1 ∧ a1.toNat ≤ a0.length ∧ 0 < a2.length ∧ (a0.length + a2.length) * 56 ≤ 140737488355328 ∧ a0.length + a2.length ≤ maxLen) <|
  some (a0.take a1.toNat ++ a2 ++ a0.drop a1.toNat)

theorem g_slices_Insert_doorman_api_Entry_doorman_api_Entry_own (a0 : List T_api_Entry) (a1 : Int) (a2 : List T_api_Entry) (r : List T_api_Entry) (hf : g_slices_Insert_doorman_api_Entry_doorman_api_Entry a0 a1 a2 = some r) :
    HCall Try.prog 91 [(100000, .rows 60 7 a0.length (rowsOf T_api_Entry.c T_api_Entry.d a0)), (100001, .rows 60 7 a2.length (rowsOf T_api_Entry.c T_api_Entry.d a2))] [.one (.osl 100000 a0.length), .one (.lit (.int .i64 a1)), .one (.osl 100001 a2.length)]
      [(99999, .rows 60 7 r.length (rowsOf T_api_Entry.c T_api_Entry.d r))] (.one (.osl 99999 r.length)) := by
  obtain ⟨⟨o1, o2, o3, o4, o5⟩, hf⟩ := need_some hf
  cases hf
  obtain ⟨i0, hi0, hzs, hzb, hz0⟩ := tabOk.info (t := 60) (show tlook tab 60 = some _ from rfl)
  have h := insert_call (enc := T_api_Entry.c) (d := T_api_Entry.d) (F := 91) (BY := 56) (K := 7) ⟨_, Try.func91, rfl, rfl⟩ Try.underlying52 hi0 hz0 hzs hzb rfl (by decide) (fun b n c i vb m vc cur vcur w h1 h2 h3 h4 h5 h6 h7 h8 h9 h10 h11 h12 => ins91_shift b n c i vb m vc cur vcur w h1 h2 h3 h4 h5 h6 h7 h8 h9 h10 h11 h12)
    (fun b n c i vb m vc cur vcur w h1 h2 h3 h4 h5 h6 h7 h8 h9 h10 h11 h12 => ins91_grow b n c i vb m vc cur vcur w h1 h2 h3 h4 h5 h6 h7 h8 h9 h10 h11 h12)
    (fun base n c vb m vc w w' v' h1 h2 h3 h4 h5 h6 => ins91_end base n c vb m vc w w' v' h1 h2 h3 h4 h5 h6) a0 a2 a1.toNat o2 o3 o4 o5
  rw [Int.toNat_of_nonneg o1] at h
  exact h


/-- doorman/book.Add$1 -/
def g_book_Add_1 (a0 : T_api_Entry) (c0 : T_api_Entry) : Option Bool :=
  (g_endp_Compare a0.fEnd c0.fEnd).bind fun x1 =>
  some (decide (x1 > (0 : Int)))

theorem g_book_Add_1_ok (a0 : T_api_Entry) (c0 : T_api_Entry) (r : Bool) (hf : g_book_Add_1 a0 c0 = some r) : SCall Try.prog 89 [.agg (T_api_Entry.c a0), .one (.rp 7 (fun j => (T_api_Entry.c c0 : List C).getD (0 + j) .junk))] (.one (.lit (.bool r))) := by
  refine SCall.of Try.func89 rfl rfl rfl rfl fun S0 w0 => ?_
  unfold g_book_Add_1 at hf
  obtain ⟨x1, q1, hf⟩ := bind_some' hf
  replace hf := Option.some.inj hf
  subst hf
  exact toEnd_good allOk 4 _ _ [⟨[], [], [], [], [], [], []⟩, ⟨[(4, .r (.one (.lit (.int .i64 x1))) [])], [], [], [], [], [], []⟩] [] [] [] [] [SCall Try.prog 90 [.agg (T_api_End.c a0.fEnd), .agg (T_api_End.c c0.fEnd)] (.one (.lit (.int .i64 x1)))] (by kernel_rfl) rfl ⟨(g_endp_Compare_ok a0.fEnd c0.fEnd x1 q1), trivial⟩

def g_slices_IndexFunc_api_Entry_api_Entry_89_c0 (a0 : (List T_api_Entry)) (a1_0 : T_api_Entry)  : Nat → Int → Int → Option Int
  | 0, _, _ => none
  | fu + 1, v7, v8 =>
    bif (decide (v8 < v7)) then
      need (0 ≤ v8 ∧ v8 < ((a0.length : Nat) : Int)) <|
      (g_book_Add_1 (a0.getD v8.toNat T_api_Entry.d) a1_0).bind fun x1 =>
      bif x1 then
        some v8
      else
        g_slices_IndexFunc_api_Entry_api_Entry_89_c0 a0 a1_0  fu v7 (add64 v8 (1 : Int))
    else
      some (-1 : Int)

theorem g_slices_IndexFunc_api_Entry_api_Entry_89_c0_ok (S0 : Nat → Prop) (w0 : Start) (a0 : (List T_api_Entry)) (a1_0 : T_api_Entry)  : ∀ (fu : Nat) (v7 : Int) (v8 : Int) (r : Int), g_slices_IndexFunc_api_Entry_api_Entry_89_c0 a0 a1_0  fu v7 v8 = some r → Good Try.prog 19 S0 w0 (bodyPost Try.prog Try.f88 (Post S0 w0 (.one (.lit (.int .i64 r))))) (at_ [1, 0, 1, 0] (bodyOf Try.f88)) ⟨[(0, .one (cL 7 T_api_Entry.c T_api_Entry.d a0)), (1, .one (.clo (.func 89) 0 1 (fun i => ([] : List C).getD i .junk) (fun i => ([.rp 7 (fun j => (T_api_Entry.c a1_0 : List C).getD (0 + j) .junk)] : List C).getD i .junk))), (7, .one (.lit (.int .i64 v7))), (8, .one (.lit (.int .i64 v8)))], []⟩ := by
  intro fu
  induction fu with
  | zero =>
    intro v7 v8 r hf
    simp [g_slices_IndexFunc_api_Entry_api_Entry_89_c0] at hf
  | succ fu ih =>
    intro v7 v8 r hf
    unfold g_slices_IndexFunc_api_Entry_api_Entry_89_c0 at hf
    rcases br_some hf with ⟨h1, hf⟩ | ⟨h1, hf⟩
    · obtain ⟨o2, hf⟩ := need_some hf
      obtain ⟨x1, q3, hf⟩ := bind_some' hf
      rcases br_some hf with ⟨h4, hf⟩ | ⟨h4, hf⟩
      · replace hf := Option.some.inj hf
        subst hf
        exact toEnd_good allOk 15 _ _ [⟨[], [], [], [], [], [], []⟩, ⟨[], [], [], [], [], [], []⟩, ⟨[(5, .r (.one (.lit (.bool x1))) [])], [], [], [], [], [], []⟩, ⟨[], [], [], [], [], [], []⟩] [true, true] [] [] [] [(decide (v8 < v7)) = true, 0 ≤ v8 ∧ v8 < ((a0.length : Nat) : Int), SCall Try.prog 89 [.agg (T_api_Entry.c (a0.getD v8.toNat T_api_Entry.d)), .one (.rp 7 (fun j => (T_api_Entry.c a1_0 : List C).getD (0 + j) .junk))] (.one (.lit (.bool x1))), x1 = true] (by kernel_rfl) rfl ⟨h1, o2, (g_book_Add_1_ok (a0.getD v8.toNat T_api_Entry.d) a1_0 x1 q3), h4, trivial⟩
      · exact toK_good allOk Post.ends 17 _ _ _ _ [⟨[], [], [], [], [], [], []⟩, ⟨[], [], [], [], [], [], []⟩, ⟨[(5, .r (.one (.lit (.bool x1))) [])], [], [], [], [], [], []⟩, ⟨[], [], [], [], [], [], []⟩] [true, false] ⟨[], [], [], [], [], [0, 1, 7, 8], [], []⟩ [(decide (v8 < v7)) = true, 0 ≤ v8 ∧ v8 < ((a0.length : Nat) : Int), SCall Try.prog 89 [.agg (T_api_Entry.c (a0.getD v8.toNat T_api_Entry.d)), .one (.rp 7 (fun j => (T_api_Entry.c a1_0 : List C).getD (0 + j) .junk))] (.one (.lit (.bool x1))), x1 = false] (by kernel_rfl) ⟨h1, o2, (g_book_Add_1_ok (a0.getD v8.toNat T_api_Entry.d) a1_0 x1 q3), h4, trivial⟩ (ih v7 (add64 v8 (1 : Int)) r hf)
    · replace hf := Option.some.inj hf
      subst hf
      exact toEnd_good allOk 8 _ _ [⟨[], [], [], [], [], [], []⟩, ⟨[], [], [], [], [], [], []⟩] [false] [] [] [] [(decide (v8 < v7)) = false] (by kernel_rfl) rfl ⟨h1, trivial⟩

/-- slices.IndexFunc[[]doorman/api.Entry,doorman/api.Entry] -/
def g_slices_IndexFunc_api_Entry_api_Entry_89 (a0 : (List T_api_Entry)) (a1_0 : T_api_Entry) : Option Int :=
  g_slices_IndexFunc_api_Entry_api_Entry_89_c0 a0 a1_0  ((((a0.length : Nat) : Int) - (0 : Int)).toNat + 2) ((a0.length : Nat) : Int) (0 : Int)

theorem g_slices_IndexFunc_api_Entry_api_Entry_89_ok (a0 : (List T_api_Entry)) (a1_0 : T_api_Entry) (r : Int) (hf : g_slices_IndexFunc_api_Entry_api_Entry_89 a0 a1_0 = some r) : SCall Try.prog 88 [.one (cL 7 T_api_Entry.c T_api_Entry.d a0), .one (.clo (.func 89) 0 1 (fun i => ([] : List C).getD i .junk) (fun i => ([.rp 7 (fun j => (T_api_Entry.c a1_0 : List C).getD (0 + j) .junk)] : List C).getD i .junk))] (.one (.lit (.int .i64 r))) := by
  refine SCall.of Try.func88 rfl rfl rfl rfl fun S0 w0 => ?_
  unfold g_slices_IndexFunc_api_Entry_api_Entry_89 at hf
  exact toK_good allOk Post.ends 6 _ _ _ _ [⟨[], [], [], [], [], [], []⟩, ⟨[], [], [], [], [], [], []⟩] [] ⟨[], [], [], [], [], [0, 1, 7, 8], [], []⟩ [] (by kernel_rfl) trivial (g_slices_IndexFunc_api_Entry_api_Entry_89_c0_ok S0 w0 a0 a1_0   ((((a0.length : Nat) : Int) - (0 : Int)).toNat + 2) ((a0.length : Nat) : Int) (0 : Int) r hf)

/-- doorman/book.Add -/
def g_book_Add (a0 : (List T_api_Entry)) (a1 : T_api_Entry) (a2 : Int) : Option ((List T_api_Entry) × Int) :=
  (g_entry_Right a1).bind fun x1 =>
  bif (!x1) then
    some (([] : (List T_api_Entry)), (1 : Int))
  else
    (g_book_Find a0 a1.fEnd).bind fun x2 =>
    bif (decide (x2 ≥ (0 : Int))) then
      some (([] : (List T_api_Entry)), (7 : Int))
    else
      bif (decide (((a0.length : Nat) : Int) ≥ a2)) then
        some (([] : (List T_api_Entry)), (5 : Int))
      else
        (g_slices_IndexFunc_api_Entry_api_Entry_89 a0 a1).bind fun x3 =>
        bif (decide (x3 < (0 : Int))) then
          (g_slices_Clone_doorman_api_Entry_doorman_api_Entry a0).bind fun x4 =>
          (g_slices_Insert_doorman_api_Entry_doorman_api_Entry x4 ((a0.length : Nat) : Int) ([a1] : List T_api_Entry)).bind fun x5 =>
          some (x5, (0 : Int))
        else
          (g_slices_Clone_doorman_api_Entry_doorman_api_Entry a0).bind fun x6 =>
          (g_slices_Insert_doorman_api_Entry_doorman_api_Entry x6 x3 ([a1] : List T_api_Entry)).bind fun x7 =>
          some (x7, (0 : Int))

theorem g_book_Add_ok (a0 : (List T_api_Entry)) (a1 : T_api_Entry) (a2 : Int) (r : ((List T_api_Entry) × Int)) (hf : g_book_Add a0 a1 a2 = some r) : SCall Try.prog 32 [.one (cL 7 T_api_Entry.c T_api_Entry.d a0), .agg (T_api_Entry.c a1), .one (.lit (.int .i64 a2))] (.tup [(false, (cLs 7 T_api_Entry.c T_api_Entry.d) r.1), (false, (cI .i64) r.2)]) := by
  refine SCall.of Try.func32 rfl rfl rfl rfl fun S0 w0 => ?_
  unfold g_book_Add at hf
  obtain ⟨x1, q1, hf⟩ := bind_some' hf
  rcases br_some hf with ⟨h2, hf⟩ | ⟨h2, hf⟩
  · replace hf := Option.some.inj hf
    subst hf
    exact toEnd_good allOk 9 _ _ [⟨[], [], [], [], [], [], []⟩, ⟨[(1, .r (.one (.lit (.bool x1))) [])], [], [], [], [], [], []⟩, ⟨[], [], [], [], [], [], []⟩] [true] [] [] [(6, [(0, cL 7 T_api_Entry.c T_api_Entry.d [])])] [SCall Try.prog 87 [.agg (T_api_Entry.c a1)] (.one (.lit (.bool x1))), (!x1) = true] (by kernel_rfl) rfl ⟨(g_entry_Right_ok a1 x1 q1), h2, trivial⟩
  · obtain ⟨x2, q3, hf⟩ := bind_some' hf
    rcases br_some hf with ⟨h4, hf⟩ | ⟨h4, hf⟩
    · replace hf := Option.some.inj hf
      subst hf
      exact toEnd_good allOk 12 _ _ [⟨[], [], [], [], [], [], []⟩, ⟨[(1, .r (.one (.lit (.bool x1))) [])], [], [], [], [], [], []⟩, ⟨[(3, .r (.one (.lit (.int .i64 x2))) [])], [], [], [], [], [], []⟩, ⟨[], [], [], [], [], [], []⟩] [false, true] [] [] [(6, [(0, cL 7 T_api_Entry.c T_api_Entry.d [])])] [SCall Try.prog 87 [.agg (T_api_Entry.c a1)] (.one (.lit (.bool x1))), (!x1) = false, SCall Try.prog 36 [.one (cL 7 T_api_Entry.c T_api_Entry.d a0), .agg (T_api_End.c a1.fEnd)] (.one (.lit (.int .i64 x2))), (decide (x2 ≥ (0 : Int))) = true] (by kernel_rfl) rfl ⟨(g_entry_Right_ok a1 x1 q1), h2, (g_book_Find_ok a0 a1.fEnd x2 q3), h4, trivial⟩
    · rcases br_some hf with ⟨h5, hf⟩ | ⟨h5, hf⟩
      · replace hf := Option.some.inj hf
        subst hf
        exact toEnd_good allOk 15 _ _ [⟨[], [], [], [], [], [], []⟩, ⟨[(1, .r (.one (.lit (.bool x1))) [])], [], [], [], [], [], []⟩, ⟨[(3, .r (.one (.lit (.int .i64 x2))) [])], [], [], [], [], [], []⟩, ⟨[], [], [], [], [], [], []⟩, ⟨[], [], [], [], [], [], []⟩] [false, false, true] [] [] [(6, [(0, cL 7 T_api_Entry.c T_api_Entry.d [])])] [SCall Try.prog 87 [.agg (T_api_Entry.c a1)] (.one (.lit (.bool x1))), (!x1) = false, SCall Try.prog 36 [.one (cL 7 T_api_Entry.c T_api_Entry.d a0), .agg (T_api_End.c a1.fEnd)] (.one (.lit (.int .i64 x2))), (decide (x2 ≥ (0 : Int))) = false, (decide (((a0.length : Nat) : Int) ≥ a2)) = true] (by kernel_rfl) rfl ⟨(g_entry_Right_ok a1 x1 q1), h2, (g_book_Find_ok a0 a1.fEnd x2 q3), h4, h5, trivial⟩
      · obtain ⟨x3, q6, hf⟩ := bind_some' hf
        rcases br_some hf with ⟨h7, hf⟩ | ⟨h7, hf⟩
        · obtain ⟨x4, q8, hf⟩ := bind_some' hf
          obtain ⟨x5, q9, hf⟩ := bind_some' hf
          replace hf := Option.some.inj hf
          subst hf
          exact toEnd_good allOk 24 _ _ [⟨[], [], [], [], [], [], []⟩, ⟨[(1, .r (.one (.lit (.bool x1))) [])], [], [], [], [], [], []⟩, ⟨[(3, .r (.one (.lit (.int .i64 x2))) [])], [], [], [], [], [], []⟩, ⟨[], [], [], [], [], [], []⟩, ⟨[(2, .r (.one (.lit (.int .i64 x3))) [])], [], [(1, [4])], [], [], [], []⟩, ⟨[], [], [], [], [], [], []⟩, ⟨[], [], [], [], [], [], []⟩, ⟨[(4, .c ([a1] : List T_api_Entry).length (rowsOf T_api_Entry.c T_api_Entry.d ([a1] : List T_api_Entry)))], [], [], [[], [0], [], [], [3], [1, 0, 2, 4, 3], [5, 1, 0, 2, 4, 3], [6, 5, 1, 0, 2, 4, 3]], [], [], [(1, ⟨[], [(99999, 32)], [(99999, .rows 60 7 x4.length (rowsOf T_api_Entry.c T_api_Entry.d x4))], .one (.osl 99999 x4.length)⟩), (5, ⟨[(100000, 32), (100001, 35)], [(99999, 36)], [(99999, .rows 60 7 x5.length (rowsOf T_api_Entry.c T_api_Entry.d x5))], .one (.osl 99999 x5.length)⟩)]⟩] [false, false, false, true] [36] [] [] [SCall Try.prog 87 [.agg (T_api_Entry.c a1)] (.one (.lit (.bool x1))), (!x1) = false, SCall Try.prog 36 [.one (cL 7 T_api_Entry.c T_api_Entry.d a0), .agg (T_api_End.c a1.fEnd)] (.one (.lit (.int .i64 x2))), (decide (x2 ≥ (0 : Int))) = false, (decide (((a0.length : Nat) : Int) ≥ a2)) = false, SCall Try.prog 88 [.one (cL 7 T_api_Entry.c T_api_Entry.d a0), .one (.clo (.func 89) 0 1 (fun i => ([] : List C).getD i .junk) (fun i => ([.rp 7 (fun j => (T_api_Entry.c a1 : List C).getD (0 + j) .junk)] : List C).getD i .junk))] (.one (.lit (.int .i64 x3))), (decide (x3 < (0 : Int))) = true, HCall Try.prog 83 [] [.one (cL 7 T_api_Entry.c T_api_Entry.d a0)] [(99999, .rows 60 7 x4.length (rowsOf T_api_Entry.c T_api_Entry.d x4))] (.one (.osl 99999 x4.length)), ([a1] : List T_api_Entry).length = 1, ∀ i j, i < 1 → j < 7 → rowsOf T_api_Entry.c T_api_Entry.d ([a1] : List T_api_Entry) i j = (([a1] : List T_api_Entry).flatMap T_api_Entry.c).getD (i * 7 + j) .junk, HCall Try.prog 91 [(100000, .rows 60 7 x4.length (rowsOf T_api_Entry.c T_api_Entry.d x4)), (100001, .rows 60 7 (([a1] : List T_api_Entry).length) (rowsOf T_api_Entry.c T_api_Entry.d ([a1] : List T_api_Entry)))] [.one (.osl 100000 x4.length), .one (.lit (.int .i64 ((a0.length : Nat) : Int))), .one (.osl 100001 (([a1] : List T_api_Entry).length))] [(99999, .rows 60 7 x5.length (rowsOf T_api_Entry.c T_api_Entry.d x5))] (.one (.osl 99999 x5.length))] (by kernel_rfl) rfl ⟨(g_entry_Right_ok a1 x1 q1), h2, (g_book_Find_ok a0 a1.fEnd x2 q3), h4, h5, (g_slices_IndexFunc_api_Entry_api_Entry_89_ok a0 a1 x3 q6), h7, (g_slices_Clone_doorman_api_Entry_doorman_api_Entry_own a0 x4 q8), rfl, (fun i j hi hj => rows_flat (sz := 7) (e := T_api_Entry.c) (d := T_api_Entry.d) (fun _ => rfl) ([a1] : List T_api_Entry) i j hi hj), (g_slices_Insert_doorman_api_Entry_doorman_api_Entry_own x4 ((a0.length : Nat) : Int) ([a1] : List T_api_Entry) x5 q9), trivial⟩
        · obtain ⟨x6, q10, hf⟩ := bind_some' hf
          obtain ⟨x7, q11, hf⟩ := bind_some' hf
          replace hf := Option.some.inj hf
          subst hf
          exact toEnd_good allOk 24 _ _ [⟨[], [], [], [], [], [], []⟩, ⟨[(1, .r (.one (.lit (.bool x1))) [])], [], [], [], [], [], []⟩, ⟨[(3, .r (.one (.lit (.int .i64 x2))) [])], [], [], [], [], [], []⟩, ⟨[], [], [], [], [], [], []⟩, ⟨[(2, .r (.one (.lit (.int .i64 x3))) [])], [], [(1, [4])], [], [], [], []⟩, ⟨[], [], [], [], [], [], []⟩, ⟨[(4, .c ([a1] : List T_api_Entry).length (rowsOf T_api_Entry.c T_api_Entry.d ([a1] : List T_api_Entry)))], [], [], [[], [0], [], [], [3], [1, 0, 2, 4, 3], [5, 1, 0, 2, 4, 3], [6, 5, 1, 0, 2, 4, 3]], [], [], [(1, ⟨[], [(99999, 32)], [(99999, .rows 60 7 x6.length (rowsOf T_api_Entry.c T_api_Entry.d x6))], .one (.osl 99999 x6.length)⟩), (5, ⟨[(100000, 32), (100001, 35)], [(99999, 36)], [(99999, .rows 60 7 x7.length (rowsOf T_api_Entry.c T_api_Entry.d x7))], .one (.osl 99999 x7.length)⟩)]⟩] [false, false, false, false] [36] [] [] [SCall Try.prog 87 [.agg (T_api_Entry.c a1)] (.one (.lit (.bool x1))), (!x1) = false, SCall Try.prog 36 [.one (cL 7 T_api_Entry.c T_api_Entry.d a0), .agg (T_api_End.c a1.fEnd)] (.one (.lit (.int .i64 x2))), (decide (x2 ≥ (0 : Int))) = false, (decide (((a0.length : Nat) : Int) ≥ a2)) = false, SCall Try.prog 88 [.one (cL 7 T_api_Entry.c T_api_Entry.d a0), .one (.clo (.func 89) 0 1 (fun i => ([] : List C).getD i .junk) (fun i => ([.rp 7 (fun j => (T_api_Entry.c a1 : List C).getD (0 + j) .junk)] : List C).getD i .junk))] (.one (.lit (.int .i64 x3))), (decide (x3 < (0 : Int))) = false, HCall Try.prog 83 [] [.one (cL 7 T_api_Entry.c T_api_Entry.d a0)] [(99999, .rows 60 7 x6.length (rowsOf T_api_Entry.c T_api_Entry.d x6))] (.one (.osl 99999 x6.length)), ([a1] : List T_api_Entry).length = 1, ∀ i j, i < 1 → j < 7 → rowsOf T_api_Entry.c T_api_Entry.d ([a1] : List T_api_Entry) i j = (([a1] : List T_api_Entry).flatMap T_api_Entry.c).getD (i * 7 + j) .junk, HCall Try.prog 91 [(100000, .rows 60 7 x6.length (rowsOf T_api_Entry.c T_api_Entry.d x6)), (100001, .rows 60 7 (([a1] : List T_api_Entry).length) (rowsOf T_api_Entry.c T_api_Entry.d ([a1] : List T_api_Entry)))] [.one (.osl 100000 x6.length), .one (.lit (.int .i64 x3)), .one (.osl 100001 (([a1] : List T_api_Entry).length))] [(99999, .rows 60 7 x7.length (rowsOf T_api_Entry.c T_api_Entry.d x7))] (.one (.osl 99999 x7.length))] (by kernel_rfl) rfl ⟨(g_entry_Right_ok a1 x1 q1), h2, (g_book_Find_ok a0 a1.fEnd x2 q3), h4, h5, (g_slices_IndexFunc_api_Entry_api_Entry_89_ok a0 a1 x3 q6), h7, (g_slices_Clone_doorman_api_Entry_doorman_api_Entry_own a0 x6 q10), rfl, (fun i j hi hj => rows_flat (sz := 7) (e := T_api_Entry.c) (d := T_api_Entry.d) (fun _ => rfl) ([a1] : List T_api_Entry) i j hi hj), (g_slices_Insert_doorman_api_Entry_doorman_api_Entry_own x6 x3 ([a1] : List T_api_Entry) x7 q11), trivial⟩

def g_book_Count_c0 (a1 : Int)  : Nat → Int → (List T_api_Entry) → Int → Int → Option Int
  | 0, _, _, _, _ => none
  | fu + 1, v5, v8, v9, v10 =>
    bif (decide (v10 < v9)) then
      need (0 ≤ v10 ∧ v10 < ((v8.length : Nat) : Int)) <|
      bif ((v8.getD v10.toNat T_api_Entry.d).fState == a1) then
        g_book_Count_c0 a1  fu (add64 v5 (1 : Int)) v8 v9 (add64 v10 (1 : Int))
      else
        g_book_Count_c0 a1  fu v5 v8 v9 (add64 v10 (1 : Int))
    else
      some v5

theorem g_book_Count_c0_ok (S0 : Nat → Prop) (w0 : Start) (a1 : Int)  : ∀ (fu : Nat) (v5 : Int) (v8 : (List T_api_Entry)) (v9 : Int) (v10 : Int) (r : Int), g_book_Count_c0 a1  fu v5 v8 v9 v10 = some r → Good Try.prog 22 S0 w0 (bodyPost Try.prog Try.f40 (Post S0 w0 (.one (.lit (.int .i64 r))))) (at_ [1, 1, 0, 1, 0] (bodyOf Try.f40)) ⟨[(1, .one (.lit (.int .i64 a1))), (5, .one (.lit (.int .i64 v5))), (8, .one (cL 7 T_api_Entry.c T_api_Entry.d v8)), (9, .one (.lit (.int .i64 v9))), (10, .one (.lit (.int .i64 v10)))], []⟩ := by
  intro fu
  induction fu with
  | zero =>
    intro v5 v8 v9 v10 r hf
    simp [g_book_Count_c0] at hf
  | succ fu ih =>
    intro v5 v8 v9 v10 r hf
    unfold g_book_Count_c0 at hf
    rcases br_some hf with ⟨h1, hf⟩ | ⟨h1, hf⟩
    · obtain ⟨o2, hf⟩ := need_some hf
      rcases br_some hf with ⟨h3, hf⟩ | ⟨h3, hf⟩
      · exact toK_good allOk Post.ends 17 _ _ _ _ [⟨[], [], [], [], [], [], []⟩, ⟨[], [], [], [], [], [], []⟩, ⟨[], [], [], [], [], [], []⟩, ⟨[], [], [], [], [], [], []⟩, ⟨[], [], [], [], [], [], []⟩] [true, true] ⟨[], [], [], [], [], [1, 5, 8, 9, 10], [], []⟩ [(decide (v10 < v9)) = true, 0 ≤ v10 ∧ v10 < ((v8.length : Nat) : Int), ((v8.getD v10.toNat T_api_Entry.d).fState == a1) = true] (by kernel_rfl) ⟨h1, o2, h3, trivial⟩ (ih (add64 v5 (1 : Int)) v8 v9 (add64 v10 (1 : Int)) r hf)
      · exact toK_good allOk Post.ends 17 _ _ _ _ [⟨[], [], [], [], [], [], []⟩, ⟨[], [], [], [], [], [], []⟩, ⟨[], [], [], [], [], [], []⟩, ⟨[], [], [], [], [], [], []⟩] [true, false] ⟨[], [], [], [], [], [1, 5, 8, 9, 10], [], []⟩ [(decide (v10 < v9)) = true, 0 ≤ v10 ∧ v10 < ((v8.length : Nat) : Int), ((v8.getD v10.toNat T_api_Entry.d).fState == a1) = false] (by kernel_rfl) ⟨h1, o2, h3, trivial⟩ (ih v5 v8 v9 (add64 v10 (1 : Int)) r hf)
    · replace hf := Option.some.inj hf
      subst hf
      exact toEnd_good allOk 8 _ _ [⟨[], [], [], [], [], [], []⟩, ⟨[], [], [], [], [], [], []⟩] [false] [] [] [] [(decide (v10 < v9)) = false] (by kernel_rfl) rfl ⟨h1, trivial⟩

/-- doorman/book.Count -/
def g_book_Count (a0 : (List T_api_Entry)) (a1 : Int) : Option Int :=
  g_book_Count_c0 a1  ((((a0.length : Nat) : Int) - (0 : Int)).toNat + 2) (0 : Int) a0 ((a0.length : Nat) : Int) (0 : Int)

theorem g_book_Count_ok (a0 : (List T_api_Entry)) (a1 : Int) (r : Int) (hf : g_book_Count a0 a1 = some r) : SCall Try.prog 40 [.one (cL 7 T_api_Entry.c T_api_Entry.d a0), .one (.lit (.int .i64 a1))] (.one (.lit (.int .i64 r))) := by
  refine SCall.of Try.func40 rfl rfl rfl rfl fun S0 w0 => ?_
  unfold g_book_Count at hf
  exact toK_good allOk Post.ends 8 _ _ _ _ [⟨[], [], [], [], [], [], []⟩, ⟨[], [], [], [], [], [], []⟩, ⟨[], [], [], [], [], [], []⟩] [] ⟨[], [], [], [], [], [1, 5, 8, 9, 10], [], []⟩ [] (by kernel_rfl) trivial (g_book_Count_c0_ok S0 w0 a1   ((((a0.length : Nat) : Int) - (0 : Int)).toNat + 2) (0 : Int) a0 ((a0.length : Nat) : Int) (0 : Int) r hf)

def g_slices_Index_api_End_api_End_c0 (a0 : (List T_api_End))  : Nat → Int → Int → T_api_End → Option Int
  | 0, _, _, _ => none
  | fu + 1, v7, v8, b3 =>
    bif (decide (v8 < v7)) then
      need (0 ≤ v8 ∧ v8 < ((a0.length : Nat) : Int)) <|
      bif (decide (b3 = (a0.getD v8.toNat T_api_End.d))) then
        some v8
      else
        g_slices_Index_api_End_api_End_c0 a0  fu v7 (add64 v8 (1 : Int)) b3
    else
      some (-1 : Int)

theorem g_slices_Index_api_End_api_End_c0_ok (S0 : Nat → Prop) (w0 : Start) (a0 : (List T_api_End))  : ∀ (fu : Nat) (v7 : Int) (v8 : Int) (b3 : T_api_End) (r : Int), g_slices_Index_api_End_api_End_c0 a0  fu v7 v8 b3 = some r → Good Try.prog 19 S0 w0 (bodyPost Try.prog Try.f133 (Post S0 w0 (.one (.lit (.int .i64 r))))) (at_ [1, 0, 1, 0] (bodyOf Try.f133)) ⟨[(0, .one (cL 4 T_api_End.c T_api_End.d a0)), (3, .one (.ptr 3 0)), (7, .one (.lit (.int .i64 v7))), (8, .one (.lit (.int .i64 v8)))], [(3, .box [.lit (.bool b3.fAddr.fV6), .lit (.int .u64 b3.fAddr.fHi), .lit (.int .u64 b3.fAddr.fLo), .lit (.int .i64 b3.fPort)])]⟩ := by
  intro fu
  induction fu with
  | zero =>
    intro v7 v8 b3 r hf
    simp [g_slices_Index_api_End_api_End_c0] at hf
  | succ fu ih =>
    intro v7 v8 b3 r hf
    unfold g_slices_Index_api_End_api_End_c0 at hf
    rcases br_some hf with ⟨h1, hf⟩ | ⟨h1, hf⟩
    · obtain ⟨o2, hf⟩ := need_some hf
      rcases br_some hf with ⟨h3, hf⟩ | ⟨h3, hf⟩
      · replace hf := Option.some.inj hf
        subst hf
        exact toEnd_good allOk 15 _ _ [⟨[], [], [], [], [], [], []⟩, ⟨[], [], [], [], [], [], []⟩, ⟨[(5, .r (.one (.lit (.bool (decide (b3 = (a0.getD v8.toNat T_api_End.d)))))) [])], [], [], [[], [], [], [1, 2], [3, 1, 2], [0, 4, 3, 1, 2]], [], [], []⟩, ⟨[], [], [], [], [], [], []⟩] [true, true] [] [] [] [(decide (v8 < v7)) = true, 0 ≤ v8 ∧ v8 < ((a0.length : Nat) : Int), ∀ w, (do eqGuard .eql 58 (.tmp 11) (.tmp 15) (.agg #[.bool b3.fAddr.fV6, .int .u64 b3.fAddr.fHi, .int .u64 b3.fAddr.fLo, .int .i64 b3.fPort]) (.agg #[.bool (((a0.getD v8.toNat T_api_End.d).fAddr).fV6), .int .u64 (((a0.getD v8.toNat T_api_End.d).fAddr).fHi), .int .u64 (((a0.getD v8.toNat T_api_End.d).fAddr).fLo), .int .i64 ((a0.getD v8.toNat T_api_End.d).fPort)]); binOp .eql 58 (.agg #[.bool b3.fAddr.fV6, .int .u64 b3.fAddr.fHi, .int .u64 b3.fAddr.fLo, .int .i64 b3.fPort]) (.agg #[.bool (((a0.getD v8.toNat T_api_End.d).fAddr).fV6), .int .u64 (((a0.getD v8.toNat T_api_End.d).fAddr).fHi), .int .u64 (((a0.getD v8.toNat T_api_End.d).fAddr).fLo), .int .i64 ((a0.getD v8.toNat T_api_End.d).fPort)]) : Sem Value).run Try.prog w = .ok (.bool (decide (b3 = (a0.getD v8.toNat T_api_End.d)))) w, (decide (b3 = (a0.getD v8.toNat T_api_End.d))) = true] (by kernel_rfl) rfl ⟨h1, o2, (eql_T_api_End b3 (a0.getD v8.toNat T_api_End.d) _ _), h3, trivial⟩
      · exact toK_good allOk Post.ends 17 _ _ _ _ [⟨[], [], [], [], [], [], []⟩, ⟨[], [], [], [], [], [], []⟩, ⟨[(5, .r (.one (.lit (.bool (decide (b3 = (a0.getD v8.toNat T_api_End.d)))))) [])], [], [], [[], [], [], [1, 2], [3, 1, 2], [0, 4, 3, 1, 2]], [], [], []⟩, ⟨[], [], [], [], [], [], []⟩] [true, false] ⟨[], [], [], [], [], [0, 3, 7, 8], [3], []⟩ [(decide (v8 < v7)) = true, 0 ≤ v8 ∧ v8 < ((a0.length : Nat) : Int), ∀ w, (do eqGuard .eql 58 (.tmp 11) (.tmp 15) (.agg #[.bool b3.fAddr.fV6, .int .u64 b3.fAddr.fHi, .int .u64 b3.fAddr.fLo, .int .i64 b3.fPort]) (.agg #[.bool (((a0.getD v8.toNat T_api_End.d).fAddr).fV6), .int .u64 (((a0.getD v8.toNat T_api_End.d).fAddr).fHi), .int .u64 (((a0.getD v8.toNat T_api_End.d).fAddr).fLo), .int .i64 ((a0.getD v8.toNat T_api_End.d).fPort)]); binOp .eql 58 (.agg #[.bool b3.fAddr.fV6, .int .u64 b3.fAddr.fHi, .int .u64 b3.fAddr.fLo, .int .i64 b3.fPort]) (.agg #[.bool (((a0.getD v8.toNat T_api_End.d).fAddr).fV6), .int .u64 (((a0.getD v8.toNat T_api_End.d).fAddr).fHi), .int .u64 (((a0.getD v8.toNat T_api_End.d).fAddr).fLo), .int .i64 ((a0.getD v8.toNat T_api_End.d).fPort)]) : Sem Value).run Try.prog w = .ok (.bool (decide (b3 = (a0.getD v8.toNat T_api_End.d)))) w, (decide (b3 = (a0.getD v8.toNat T_api_End.d))) = false] (by kernel_rfl) ⟨h1, o2, (eql_T_api_End b3 (a0.getD v8.toNat T_api_End.d) _ _), h3, trivial⟩ (ih v7 (add64 v8 (1 : Int)) b3 r hf)
    · replace hf := Option.some.inj hf
      subst hf
      exact toEnd_good allOk 8 _ _ [⟨[], [], [], [], [], [], []⟩, ⟨[], [], [], [], [], [], []⟩] [false] [] [] [] [(decide (v8 < v7)) = false] (by kernel_rfl) rfl ⟨h1, trivial⟩

/-- slices.Index[[]doorman/api.End,doorman/api.End] -/
def g_slices_Index_api_End_api_End (a0 : (List T_api_End)) (a1 : T_api_End) : Option Int :=
  g_slices_Index_api_End_api_End_c0 a0  ((((a0.length : Nat) : Int) - (0 : Int)).toNat + 2) ((a0.length : Nat) : Int) (0 : Int) a1

theorem g_slices_Index_api_End_api_End_ok (a0 : (List T_api_End)) (a1 : T_api_End) (r : Int) (hf : g_slices_Index_api_End_api_End a0 a1 = some r) : SCall Try.prog 133 [.one (cL 4 T_api_End.c T_api_End.d a0), .agg (T_api_End.c a1)] (.one (.lit (.int .i64 r))) := by
  refine SCall.of Try.func133 rfl rfl rfl rfl fun S0 w0 => ?_
  unfold g_slices_Index_api_End_api_End at hf
  exact toK_good allOk Post.ends 6 _ _ _ _ [⟨[], [], [], [], [], [], []⟩, ⟨[], [], [], [], [], [], []⟩] [] ⟨[], [], [], [], [], [0, 3, 7, 8], [3], []⟩ [] (by kernel_rfl) trivial (g_slices_Index_api_End_api_End_c0_ok S0 w0 a0   ((((a0.length : Nat) : Int) - (0 : Int)).toNat + 2) ((a0.length : Nat) : Int) (0 : Int) a1 r hf)

/-- slices.Contains[[]doorman/api.End,doorman/api.End] -/
def g_slices_Contains_api_End_api_End (a0 : (List T_api_End)) (a1 : T_api_End) : Option Bool :=
  (g_slices_Index_api_End_api_End a0 a1).bind fun x1 =>
  some (decide (x1 ≥ (0 : Int)))

theorem g_slices_Contains_api_End_api_End_ok (a0 : (List T_api_End)) (a1 : T_api_End) (r : Bool) (hf : g_slices_Contains_api_End_api_End a0 a1 = some r) : SCall Try.prog 84 [.one (cL 4 T_api_End.c T_api_End.d a0), .agg (T_api_End.c a1)] (.one (.lit (.bool r))) := by
  refine SCall.of Try.func84 rfl rfl rfl rfl fun S0 w0 => ?_
  unfold g_slices_Contains_api_End_api_End at hf
  obtain ⟨x1, q1, hf⟩ := bind_some' hf
  replace hf := Option.some.inj hf
  subst hf
  exact toEnd_good allOk 4 _ _ [⟨[], [], [], [], [], [], []⟩, ⟨[(2, .r (.one (.lit (.int .i64 x1))) [])], [], [], [], [], [], []⟩] [] [] [] [] [SCall Try.prog 133 [.one (cL 4 T_api_End.c T_api_End.d a0), .agg (T_api_End.c a1)] (.one (.lit (.int .i64 x1)))] (by kernel_rfl) rfl ⟨(g_slices_Index_api_End_api_End_ok a0 a1 x1 q1), trivial⟩

/-- doorman/entry.Down -/
def g_entry_Down (a0 : T_api_Entry) : Option T_api_Entry :=
  some (T_api_Entry.mk a0.fEnd (1 : Int) a0.fFails a0.fNext)

theorem g_entry_Down_ok (a0 : T_api_Entry) (r : T_api_Entry) (hf : g_entry_Down a0 = some r) : SCall Try.prog 85 [.agg (T_api_Entry.c a0)] (.agg (T_api_Entry.c r)) := by
  refine SCall.of Try.func85 rfl rfl rfl rfl fun S0 w0 => ?_
  unfold g_entry_Down at hf
  replace hf := Option.some.inj hf
  subst hf
  exact toEnd_good allOk 6 _ _ [⟨[], [], [], [], [], [], []⟩, ⟨[], [], [], [], [], [], []⟩, ⟨[], [], [], [], [], [], []⟩] [] [] [] [] [] (by kernel_rfl) rfl trivial

def g_book_Down_c0 (a1 : (List T_api_End))  : Nat → Int → Int → (List T_api_Entry) → Option (List T_api_Entry)
  | 0, _, _, _ => none
  | fu + 1, v11, v12, w9 =>
    bif (decide (v12 < v11)) then
      need (0 ≤ v12 ∧ v12 < ((w9.length : Nat) : Int)) <|
      bif ((w9.getD v12.toNat T_api_Entry.d).fState == (3 : Int)) then
        (g_slices_Contains_api_End_api_End a1 ((w9.getD v12.toNat T_api_Entry.d).fEnd)).bind fun x2 =>
        bif x2 then
          (g_entry_Down (w9.getD v12.toNat T_api_Entry.d)).bind fun x3 =>
          g_book_Down_c0 a1  fu v11 (add64 v12 (1 : Int)) (w9.set v12.toNat x3)
        else
          g_book_Down_c0 a1  fu v11 (add64 v12 (1 : Int)) w9
      else
        g_book_Down_c0 a1  fu v11 (add64 v12 (1 : Int)) w9
    else
      some w9

theorem g_book_Down_c0_ok (S0 : Nat → Prop) (w0 : Start) (a1 : (List T_api_End))  : ∀ (fu : Nat) (v11 : Int) (v12 : Int) (w9 : (List T_api_Entry)) (r : (List T_api_Entry)), g_book_Down_c0 a1  fu v11 v12 w9 = some r → Good Try.prog 33 S0 w0 (bodyPost Try.prog Try.f30 (HPost S0 w0 [(99999, .rows 60 7 r.length (rowsOf T_api_Entry.c T_api_Entry.d r))] (.one (.osl 99999 r.length)))) (at_ [1, 1, 0, 1, 0] (bodyOf Try.f30)) ⟨[(1, .one (cL 4 T_api_End.c T_api_End.d a1)), (5, .one (.osl 9 w9.length)), (10, .one (.osl 9 w9.length)), (11, .one (.lit (.int .i64 v11))), (12, .one (.lit (.int .i64 v12)))], [(9, .rows 60 7 w9.length (rowsOf T_api_Entry.c T_api_Entry.d w9))]⟩ := by
  intro fu
  induction fu with
  | zero =>
    intro v11 v12 w9 r hf
    simp [g_book_Down_c0] at hf
  | succ fu ih =>
    intro v11 v12 w9 r hf
    unfold g_book_Down_c0 at hf
    rcases br_some hf with ⟨h2, hf⟩ | ⟨h2, hf⟩
    · obtain ⟨o3, hf⟩ := need_some hf
      rcases br_some hf with ⟨h4, hf⟩ | ⟨h4, hf⟩
      · obtain ⟨x2, q5, hf⟩ := bind_some' hf
        rcases br_some hf with ⟨h6, hf⟩ | ⟨h6, hf⟩
        · obtain ⟨x3, q7, hf⟩ := bind_some' hf
          exact toK_good allOk HPost.ends 17 _ _ _ _ [⟨[], [], [], [], [], [], []⟩, ⟨[], [], [], [], [], [], []⟩, ⟨[(7, .r (.one (.lit (.bool x2))) [])], [(3, true)], [], [], [], [], []⟩, ⟨[(3, .r (.agg (T_api_Entry.c x3)) []), (5, .c (w9.set v12.toNat x3).length (rowsOf T_api_Entry.c T_api_Entry.d (w9.set v12.toNat x3)))], [], [], [], [], [], []⟩, ⟨[], [], [], [], [], [], []⟩] [true, true] ⟨[], [], [], [(9, ((w9.set v12.toNat x3).length))], [], [1, 5, 10, 11, 12], [9], []⟩ [(decide (v12 < v11)) = true, 0 ≤ v12 ∧ v12 < ((w9.length : Nat) : Int), v12.toNat < w9.length, ((w9.getD v12.toNat T_api_Entry.d).fState == (3 : Int)) = true, SCall Try.prog 84 [.one (cL 4 T_api_End.c T_api_End.d a1), .agg (T_api_End.c ((w9.getD v12.toNat T_api_Entry.d).fEnd))] (.one (.lit (.bool x2))), x2 = true, SCall Try.prog 85 [.agg (T_api_Entry.c (w9.getD v12.toNat T_api_Entry.d))] (.agg (T_api_Entry.c x3)), 0 ≤ v12 ∧ v12 < ((w9.length : Nat) : Int), (w9.set v12.toNat x3).length = w9.length, v12.toNat < w9.length, ExtU 7 w9.length (rowsOf T_api_Entry.c T_api_Entry.d w9) v12.toNat 0 (T_api_Entry.c x3) (rowsOf T_api_Entry.c T_api_Entry.d (w9.set v12.toNat x3)), (w9.set v12.toNat x3).length = (w9.set v12.toNat x3).length] (by kernel_rfl) ⟨h2, o3, (ltOf o3), h4, (g_slices_Contains_api_End_api_End_ok a1 ((w9.getD v12.toNat T_api_Entry.d).fEnd) x2 q5), h6, (g_entry_Down_ok (w9.getD v12.toNat T_api_Entry.d) x3 q7), o3, List.length_set, (ltOf o3), (ext_set _ _ _ rfl), rfl, trivial⟩ (ih v11 (add64 v12 (1 : Int)) (w9.set v12.toNat x3) r hf)
        · exact toK_good allOk HPost.ends 17 _ _ _ _ [⟨[], [], [], [], [], [], []⟩, ⟨[], [], [], [], [], [], []⟩, ⟨[(7, .r (.one (.lit (.bool x2))) [])], [(3, true)], [], [], [], [], []⟩, ⟨[], [], [], [], [], [], []⟩] [true, false] ⟨[], [], [], [], [], [1, 5, 10, 11, 12], [9], []⟩ [(decide (v12 < v11)) = true, 0 ≤ v12 ∧ v12 < ((w9.length : Nat) : Int), v12.toNat < w9.length, ((w9.getD v12.toNat T_api_Entry.d).fState == (3 : Int)) = true, SCall Try.prog 84 [.one (cL 4 T_api_End.c T_api_End.d a1), .agg (T_api_End.c ((w9.getD v12.toNat T_api_Entry.d).fEnd))] (.one (.lit (.bool x2))), x2 = false] (by kernel_rfl) ⟨h2, o3, (ltOf o3), h4, (g_slices_Contains_api_End_api_End_ok a1 ((w9.getD v12.toNat T_api_Entry.d).fEnd) x2 q5), h6, trivial⟩ (ih v11 (add64 v12 (1 : Int)) w9 r hf)
      · exact toK_good allOk HPost.ends 17 _ _ _ _ [⟨[], [], [], [], [], [], []⟩, ⟨[], [], [], [], [], [], []⟩, ⟨[], [(3, false)], [], [], [], [], []⟩, ⟨[], [], [], [], [], [], []⟩] [true, false] ⟨[], [], [], [], [], [1, 5, 10, 11, 12], [9], []⟩ [(decide (v12 < v11)) = true, 0 ≤ v12 ∧ v12 < ((w9.length : Nat) : Int), v12.toNat < w9.length, ((w9.getD v12.toNat T_api_Entry.d).fState == (3 : Int)) = false, false = false] (by kernel_rfl) ⟨h2, o3, (ltOf o3), h4, rfl, trivial⟩ (ih v11 (add64 v12 (1 : Int)) w9 r hf)
    · replace hf := Option.some.inj hf
      subst hf
      exact toEndH_good allOk 8 _ _ [⟨[], [], [], [], [], [], []⟩, ⟨[], [], [], [], [], [], []⟩] [false] ⟨[], [], [], [], [], [4], [9], [(9, 99999)]⟩ [(decide (v12 < v11)) = false] (by kernel_rfl) ⟨h2, trivial⟩

/-- doorman/book.Down -/
def g_book_Down (a0 : (List T_api_Entry)) (a1 : (List T_api_End)) : Option (List T_api_Entry) :=
  (g_slices_Clone_doorman_api_Entry_doorman_api_Entry a0).bind fun x1 =>
  g_book_Down_c0 a1  ((((x1.length : Nat) : Int) - (0 : Int)).toNat + 2) ((x1.length : Nat) : Int) (0 : Int) x1

theorem g_book_Down_own (a0 : (List T_api_Entry)) (a1 : (List T_api_End)) (r : (List T_api_Entry)) (hf : g_book_Down a0 a1 = some r) : HCall Try.prog 30 [] [.one (cL 7 T_api_Entry.c T_api_Entry.d a0), .one (cL 4 T_api_End.c T_api_End.d a1)] [(99999, .rows 60 7 r.length (rowsOf T_api_Entry.c T_api_Entry.d r))] (.one (.osl 99999 r.length)) := by
  refine HCall.of Try.func30 rfl rfl rfl rfl fun S0 w0 => ?_
  unfold g_book_Down at hf
  obtain ⟨x1, q1, hf⟩ := bind_some' hf
  exact toK_good allOk HPost.ends 8 _ _ _ _ [⟨[], [], [], [], [], [], []⟩, ⟨[], [], [], [], [], [], [(1, ⟨[], [(99999, 9)], [(99999, .rows 60 7 x1.length (rowsOf T_api_Entry.c T_api_Entry.d x1))], .one (.osl 99999 x1.length)⟩)]⟩, ⟨[], [], [], [], [], [], []⟩] [] ⟨[], [], [], [], [], [1, 5, 10, 11, 12], [9], []⟩ [HCall Try.prog 83 [] [.one (cL 7 T_api_Entry.c T_api_Entry.d a0)] [(99999, .rows 60 7 x1.length (rowsOf T_api_Entry.c T_api_Entry.d x1))] (.one (.osl 99999 x1.length))] (by kernel_rfl) ⟨(g_slices_Clone_doorman_api_Entry_doorman_api_Entry_own a0 x1 q1), trivial⟩ (g_book_Down_c0_ok S0 w0 a1   ((((x1.length : Nat) : Int) - (0 : Int)).toNat + 2) ((x1.length : Nat) : Int) (0 : Int) x1 r hf)

theorem g_book_Down_ok (a0 : (List T_api_Entry)) (a1 : (List T_api_End)) (r : (List T_api_Entry)) (hf : g_book_Down a0 a1 = some r) : SCall Try.prog 30 [.one (cL 7 T_api_Entry.c T_api_Entry.d a0), .one (cL 4 T_api_End.c T_api_End.d a1)] (.one (cL 7 T_api_Entry.c T_api_Entry.d r)) := (g_book_Down_own a0 a1 r hf).pure

def g_book_Right_c0 (a0 : (List T_api_Entry))  : Nat → (List T_api_Entry) → Int → Int → Option Bool
  | 0, _, _, _ => none
  | fu + 1, v5, v6, v7 =>
    bif (decide (v7 < v6)) then
      need (0 ≤ v7 ∧ v7 < ((v5.length : Nat) : Int)) <|
      (g_entry_Right (v5.getD v7.toNat T_api_Entry.d)).bind fun x1 =>
      bif (!x1) then
        some false
      else
        bif (decide (v7 > (0 : Int))) then
          need (0 ≤ (sub64 v7 (1 : Int)) ∧ (sub64 v7 (1 : Int)) < ((a0.length : Nat) : Int)) <|
          (g_endp_Compare ((a0.getD (sub64 v7 (1 : Int)).toNat T_api_Entry.d).fEnd) ((v5.getD v7.toNat T_api_Entry.d).fEnd)).bind fun x2 =>
          bif (decide (x2 ≥ (0 : Int))) then
            some false
          else
            g_book_Right_c0 a0  fu v5 v6 (add64 v7 (1 : Int))
        else
          g_book_Right_c0 a0  fu v5 v6 (add64 v7 (1 : Int))
    else
      some true

theorem g_book_Right_c0_ok (S0 : Nat → Prop) (w0 : Start) (a0 : (List T_api_Entry))  : ∀ (fu : Nat) (v5 : (List T_api_Entry)) (v6 : Int) (v7 : Int) (r : Bool), g_book_Right_c0 a0  fu v5 v6 v7 = some r → Good Try.prog 32 S0 w0 (bodyPost Try.prog Try.f34 (Post S0 w0 (.one (.lit (.bool r))))) (at_ [1, 0, 1, 0] (bodyOf Try.f34)) ⟨[(0, .one (cL 7 T_api_Entry.c T_api_Entry.d a0)), (5, .one (cL 7 T_api_Entry.c T_api_Entry.d v5)), (6, .one (.lit (.int .i64 v6))), (7, .one (.lit (.int .i64 v7)))], []⟩ := by
  intro fu
  induction fu with
  | zero =>
    intro v5 v6 v7 r hf
    simp [g_book_Right_c0] at hf
  | succ fu ih =>
    intro v5 v6 v7 r hf
    unfold g_book_Right_c0 at hf
    rcases br_some hf with ⟨h1, hf⟩ | ⟨h1, hf⟩
    · obtain ⟨o2, hf⟩ := need_some hf
      obtain ⟨x1, q3, hf⟩ := bind_some' hf
      rcases br_some hf with ⟨h4, hf⟩ | ⟨h4, hf⟩
      · replace hf := Option.some.inj hf
        subst hf
        exact toEnd_good allOk 15 _ _ [⟨[], [], [], [], [], [], []⟩, ⟨[], [], [], [], [], [], []⟩, ⟨[(1, .r (.one (.lit (.bool x1))) [])], [(3, true)], [], [[], [0], [1, 0], [2, 1, 0], [3, 2, 1, 0], [4, 3, 2, 1, 0], [5, 4, 3, 2, 1, 0], [6, 5, 4, 3, 2, 1, 0], [6, 5, 4, 3, 2, 1, 0], [8, 6, 5, 4, 3, 2, 1, 0], [7, 6, 5, 4, 3, 2, 1, 0, 9, 8], [10, 7, 6, 5, 4, 3, 2, 1, 0, 9, 8], [11, 10, 7, 6, 5, 4, 3, 2, 1, 0, 9, 8], [6, 5, 4, 3, 2, 1, 0], [13, 6, 5, 4, 3, 2, 1, 0], [12, 11, 10, 7, 6, 5, 4, 3, 2, 1, 0, 9, 8, 14, 13], [15, 12, 11, 10, 7, 6, 5, 4, 3, 2, 1, 0, 9, 8, 14, 13], [6, 5, 4, 3, 2, 1, 0, 16, 15, 12, 11, 10, 7, 9, 8, 14, 13], [3, 2, 1, 0, 17, 6, 5, 4, 16, 15, 12, 11, 10, 7, 9, 8, 14, 13]], [], [], []⟩, ⟨[], [], [], [], [], [], []⟩] [true, true] [] [] [] [(decide (v7 < v6)) = true, 0 ≤ v7 ∧ v7 < ((v5.length : Nat) : Int), SCall Try.prog 87 [.agg (T_api_Entry.c (v5.getD v7.toNat T_api_Entry.d))] (.one (.lit (.bool x1))), (!x1) = true, true = true] (by kernel_rfl) rfl ⟨h1, o2, (g_entry_Right_ok (v5.getD v7.toNat T_api_Entry.d) x1 q3), h4, rfl, trivial⟩
      · rcases br_some hf with ⟨h5, hf⟩ | ⟨h5, hf⟩
        · obtain ⟨o6, hf⟩ := need_some hf
          obtain ⟨x2, q7, hf⟩ := bind_some' hf
          rcases br_some hf with ⟨h8, hf⟩ | ⟨h8, hf⟩
          · replace hf := Option.some.inj hf
            subst hf
            exact toEnd_good allOk 15 _ _ [⟨[], [], [], [], [], [], []⟩, ⟨[], [], [], [], [], [], []⟩, ⟨[(1, .r (.one (.lit (.bool x1))) []), (15, .r (.one (.lit (.int .i64 x2))) [])], [(3, false), (6, true)], [], [[], [0], [1, 0], [2, 1, 0], [3, 2, 1, 0], [4, 3, 2, 1, 0], [5, 4, 3, 2, 1, 0], [6, 5, 4, 3, 2, 1, 0], [6, 5, 4, 3, 2, 1, 0], [8, 6, 5, 4, 3, 2, 1, 0], [7, 6, 5, 4, 3, 2, 1, 0, 9, 8], [10, 7, 6, 5, 4, 3, 2, 1, 0, 9, 8], [11, 10, 7, 6, 5, 4, 3, 2, 1, 0, 9, 8], [6, 5, 4, 3, 2, 1, 0], [13, 6, 5, 4, 3, 2, 1, 0], [12, 11, 10, 7, 6, 5, 4, 3, 2, 1, 0, 9, 8, 14, 13], [15, 12, 11, 10, 7, 6, 5, 4, 3, 2, 1, 0, 9, 8, 14, 13], [6, 5, 4, 3, 2, 1, 0, 16, 15, 12, 11, 10, 7, 9, 8, 14, 13], [3, 2, 1, 0, 17, 6, 5, 4, 16, 15, 12, 11, 10, 7, 9, 8, 14, 13]], [], [], []⟩, ⟨[], [], [], [], [], [], []⟩] [true, true] [] [] [] [(decide (v7 < v6)) = true, 0 ≤ v7 ∧ v7 < ((v5.length : Nat) : Int), SCall Try.prog 87 [.agg (T_api_Entry.c (v5.getD v7.toNat T_api_Entry.d))] (.one (.lit (.bool x1))), (!x1) = false, (decide (v7 > (0 : Int))) = true, 0 ≤ (sub64 v7 (1 : Int)) ∧ (sub64 v7 (1 : Int)) < ((a0.length : Nat) : Int), SCall Try.prog 90 [.agg (T_api_End.c ((a0.getD (sub64 v7 (1 : Int)).toNat T_api_Entry.d).fEnd)), .agg (T_api_End.c ((v5.getD v7.toNat T_api_Entry.d).fEnd))] (.one (.lit (.int .i64 x2))), (decide (x2 ≥ (0 : Int))) = true] (by kernel_rfl) rfl ⟨h1, o2, (g_entry_Right_ok (v5.getD v7.toNat T_api_Entry.d) x1 q3), h4, h5, o6, (g_endp_Compare_ok ((a0.getD (sub64 v7 (1 : Int)).toNat T_api_Entry.d).fEnd) ((v5.getD v7.toNat T_api_Entry.d).fEnd) x2 q7), h8, trivial⟩
          · exact toK_good allOk Post.ends 17 _ _ _ _ [⟨[], [], [], [], [], [], []⟩, ⟨[], [], [], [], [], [], []⟩, ⟨[(1, .r (.one (.lit (.bool x1))) []), (15, .r (.one (.lit (.int .i64 x2))) [])], [(3, false), (6, true)], [], [[], [0], [1, 0], [2, 1, 0], [3, 2, 1, 0], [4, 3, 2, 1, 0], [5, 4, 3, 2, 1, 0], [6, 5, 4, 3, 2, 1, 0], [6, 5, 4, 3, 2, 1, 0], [8, 6, 5, 4, 3, 2, 1, 0], [7, 6, 5, 4, 3, 2, 1, 0, 9, 8], [10, 7, 6, 5, 4, 3, 2, 1, 0, 9, 8], [11, 10, 7, 6, 5, 4, 3, 2, 1, 0, 9, 8], [6, 5, 4, 3, 2, 1, 0], [13, 6, 5, 4, 3, 2, 1, 0], [12, 11, 10, 7, 6, 5, 4, 3, 2, 1, 0, 9, 8, 14, 13], [15, 12, 11, 10, 7, 6, 5, 4, 3, 2, 1, 0, 9, 8, 14, 13], [6, 5, 4, 3, 2, 1, 0, 16, 15, 12, 11, 10, 7, 9, 8, 14, 13], [3, 2, 1, 0, 17, 6, 5, 4, 16, 15, 12, 11, 10, 7, 9, 8, 14, 13]], [], [], []⟩, ⟨[], [], [], [], [], [], []⟩] [true, false] ⟨[], [], [], [], [], [0, 5, 6, 7], [], []⟩ [(decide (v7 < v6)) = true, 0 ≤ v7 ∧ v7 < ((v5.length : Nat) : Int), SCall Try.prog 87 [.agg (T_api_Entry.c (v5.getD v7.toNat T_api_Entry.d))] (.one (.lit (.bool x1))), (!x1) = false, (decide (v7 > (0 : Int))) = true, 0 ≤ (sub64 v7 (1 : Int)) ∧ (sub64 v7 (1 : Int)) < ((a0.length : Nat) : Int), SCall Try.prog 90 [.agg (T_api_End.c ((a0.getD (sub64 v7 (1 : Int)).toNat T_api_Entry.d).fEnd)), .agg (T_api_End.c ((v5.getD v7.toNat T_api_Entry.d).fEnd))] (.one (.lit (.int .i64 x2))), (decide (x2 ≥ (0 : Int))) = false] (by kernel_rfl) ⟨h1, o2, (g_entry_Right_ok (v5.getD v7.toNat T_api_Entry.d) x1 q3), h4, h5, o6, (g_endp_Compare_ok ((a0.getD (sub64 v7 (1 : Int)).toNat T_api_Entry.d).fEnd) ((v5.getD v7.toNat T_api_Entry.d).fEnd) x2 q7), h8, trivial⟩ (ih v5 v6 (add64 v7 (1 : Int)) r hf)
        · exact toK_good allOk Post.ends 17 _ _ _ _ [⟨[], [], [], [], [], [], []⟩, ⟨[], [], [], [], [], [], []⟩, ⟨[(1, .r (.one (.lit (.bool x1))) [])], [(3, false), (6, false)], [], [[], [0], [1, 0], [2, 1, 0], [3, 2, 1, 0], [4, 3, 2, 1, 0], [5, 4, 3, 2, 1, 0], [6, 5, 4, 3, 2, 1, 0], [6, 5, 4, 3, 2, 1, 0], [8, 6, 5, 4, 3, 2, 1, 0], [7, 6, 5, 4, 3, 2, 1, 0, 9, 8], [10, 7, 6, 5, 4, 3, 2, 1, 0, 9, 8], [11, 10, 7, 6, 5, 4, 3, 2, 1, 0, 9, 8], [6, 5, 4, 3, 2, 1, 0], [13, 6, 5, 4, 3, 2, 1, 0], [12, 11, 10, 7, 6, 5, 4, 3, 2, 1, 0, 9, 8, 14, 13], [15, 12, 11, 10, 7, 6, 5, 4, 3, 2, 1, 0, 9, 8, 14, 13], [6, 5, 4, 3, 2, 1, 0, 16, 15, 12, 11, 10, 7, 9, 8, 14, 13], [3, 2, 1, 0, 17, 6, 5, 4, 16, 15, 12, 11, 10, 7, 9, 8, 14, 13]], [], [], []⟩, ⟨[], [], [], [], [], [], []⟩] [true, false] ⟨[], [], [], [], [], [0, 5, 6, 7], [], []⟩ [(decide (v7 < v6)) = true, 0 ≤ v7 ∧ v7 < ((v5.length : Nat) : Int), SCall Try.prog 87 [.agg (T_api_Entry.c (v5.getD v7.toNat T_api_Entry.d))] (.one (.lit (.bool x1))), (!x1) = false, (decide (v7 > (0 : Int))) = false, false = false] (by kernel_rfl) ⟨h1, o2, (g_entry_Right_ok (v5.getD v7.toNat T_api_Entry.d) x1 q3), h4, h5, rfl, trivial⟩ (ih v5 v6 (add64 v7 (1 : Int)) r hf)
    · replace hf := Option.some.inj hf
      subst hf
      exact toEnd_good allOk 8 _ _ [⟨[], [], [], [], [], [], []⟩, ⟨[], [], [], [], [], [], []⟩] [false] [] [] [] [(decide (v7 < v6)) = false] (by kernel_rfl) rfl ⟨h1, trivial⟩

/-- doorman/book.Right -/
def g_book_Right (a0 : (List T_api_Entry)) : Option Bool :=
  g_book_Right_c0 a0  ((((a0.length : Nat) : Int) - (0 : Int)).toNat + 2) a0 ((a0.length : Nat) : Int) (0 : Int)

theorem g_book_Right_ok (a0 : (List T_api_Entry)) (r : Bool) (hf : g_book_Right a0 = some r) : SCall Try.prog 34 [.one (cL 7 T_api_Entry.c T_api_Entry.d a0)] (.one (.lit (.bool r))) := by
  refine SCall.of Try.func34 rfl rfl rfl rfl fun S0 w0 => ?_
  unfold g_book_Right at hf
  exact toK_good allOk Post.ends 6 _ _ _ _ [⟨[], [], [], [], [], [], []⟩, ⟨[], [], [], [], [], [], []⟩] [] ⟨[], [], [], [], [], [0, 5, 6, 7], [], []⟩ [] (by kernel_rfl) trivial (g_book_Right_c0_ok S0 w0 a0   ((((a0.length : Nat) : Int) - (0 : Int)).toNat + 2) a0 ((a0.length : Nat) : Int) (0 : Int) r hf)

/-- doorman/doormanlaw26.awake -/
def g_doormanlaw26_awake  : Option Bool :=
  (g_book_Add ([] : (List T_api_Entry)) (T_api_Entry.mk (T_api_End.mk (T_api_Addr.mk false (0 : Int) (1 : Int)) (80 : Int)) (3 : Int) (0 : Int) (0 : Int)) (2 : Int)).bind fun x1 =>
  (g_book_Add x1.1 (T_api_Entry.mk (T_api_End.mk (T_api_Addr.mk false (0 : Int) (1 : Int)) (80 : Int)) (3 : Int) (0 : Int) (0 : Int)) (2 : Int)).bind fun x2 =>
  bif (x1.2 == (0 : Int)) then
    bif (x2.2 == (7 : Int)) then
      (g_book_Find x1.1 (T_api_End.mk (T_api_Addr.mk false (0 : Int) (1 : Int)) (80 : Int))).bind fun x3 =>
      bif (x3 == (0 : Int)) then
        (g_book_Count x1.1 (3 : Int)).bind fun x4 =>
        bif (x4 == (1 : Int)) then
          (g_book_Down x1.1 ([(T_api_End.mk (T_api_Addr.mk false (0 : Int) (1 : Int)) (80 : Int))] : List T_api_End)).bind fun x5 =>
          (g_book_Count x5 (3 : Int)).bind fun x6 =>
          bif (x6 == (0 : Int)) then
            (g_book_Right x1.1).bind fun x7 =>
            some x7
          else
            some false
        else
          some false
      else
        some false
    else
      some false
  else
    some false

theorem g_doormanlaw26_awake_ok  (r : Bool) (hf : g_doormanlaw26_awake  = some r) : SCall Try.prog 28 [] (.one (.lit (.bool r))) := by
  refine SCall.of Try.func28 rfl rfl rfl rfl fun S0 w0 => ?_
  unfold g_doormanlaw26_awake at hf
  obtain ⟨x1, q1, hf⟩ := bind_some' hf
  obtain ⟨x2, q2, hf⟩ := bind_some' hf
  rcases br_some hf with ⟨h3, hf⟩ | ⟨h3, hf⟩
  · rcases br_some hf with ⟨h4, hf⟩ | ⟨h4, hf⟩
    · obtain ⟨x3, q5, hf⟩ := bind_some' hf
      rcases br_some hf with ⟨h6, hf⟩ | ⟨h6, hf⟩
      · obtain ⟨x4, q7, hf⟩ := bind_some' hf
        rcases br_some hf with ⟨h8, hf⟩ | ⟨h8, hf⟩
        · obtain ⟨x5, q9, hf⟩ := bind_some' hf
          obtain ⟨x6, q10, hf⟩ := bind_some' hf
          rcases br_some hf with ⟨h11, hf⟩ | ⟨h11, hf⟩
          · obtain ⟨x7, q12, hf⟩ := bind_some' hf
            replace hf := Option.some.inj hf
            subst hf
            exact toEnd_good allOk 10 _ _ [⟨[], [], [], [], [], [], []⟩, ⟨[], [], [], [], [], [], []⟩, ⟨[(1, .r (.tup [(false, (cLs 7 T_api_Entry.c T_api_Entry.d) x1.1), (false, (cI .i64) x1.2)]) [])], [], [], [], [], [], []⟩, ⟨[(2, .r (.tup [(false, (cLs 7 T_api_Entry.c T_api_Entry.d) x2.1), (false, (cI .i64) x2.2)]) [])], [], [], [], [], [], []⟩, ⟨[(10, .r (.one (.lit (.int .i64 x3))) []), (15, .r (.one (.lit (.int .i64 x4))) []), (23, .r (.one (cL 7 T_api_Entry.c T_api_Entry.d x5)) []), (24, .r (.one (.lit (.int .i64 x6))) []), (29, .r (.one (.lit (.bool x7))) [])], [(2, true), (6, true), (13, true), (18, true), (27, true)], [], [], [], [(22, (([(T_api_End.mk (T_api_Addr.mk false (0 : Int) (1 : Int)) (80 : Int))] : List T_api_End).length, rowsOf T_api_End.c T_api_End.d ([(T_api_End.mk (T_api_Addr.mk false (0 : Int) (1 : Int)) (80 : Int))] : List T_api_End)))], []⟩] [] [] [] [] [SCall Try.prog 32 [.one (.lit (.slice none 0 0)), .agg (T_api_Entry.c (T_api_Entry.mk (T_api_End.mk (T_api_Addr.mk false (0 : Int) (1 : Int)) (80 : Int)) (3 : Int) (0 : Int) (0 : Int))), .one (.lit (.int .i64 (2 : Int)))] (.tup [(false, (cLs 7 T_api_Entry.c T_api_Entry.d) x1.1), (false, (cI .i64) x1.2)]), SCall Try.prog 32 [.one (cL 7 T_api_Entry.c T_api_Entry.d x1.1), .agg (T_api_Entry.c (T_api_Entry.mk (T_api_End.mk (T_api_Addr.mk false (0 : Int) (1 : Int)) (80 : Int)) (3 : Int) (0 : Int) (0 : Int))), .one (.lit (.int .i64 (2 : Int)))] (.tup [(false, (cLs 7 T_api_Entry.c T_api_Entry.d) x2.1), (false, (cI .i64) x2.2)]), (x1.2 == (0 : Int)) = true, (x2.2 == (7 : Int)) = true, SCall Try.prog 36 [.one (cL 7 T_api_Entry.c T_api_Entry.d x1.1), .agg (T_api_End.c (T_api_End.mk (T_api_Addr.mk false (0 : Int) (1 : Int)) (80 : Int)))] (.one (.lit (.int .i64 x3))), (x3 == (0 : Int)) = true, SCall Try.prog 40 [.one (cL 7 T_api_Entry.c T_api_Entry.d x1.1), .one (.lit (.int .i64 (3 : Int)))] (.one (.lit (.int .i64 x4))), (x4 == (1 : Int)) = true, ([(T_api_End.mk (T_api_Addr.mk false (0 : Int) (1 : Int)) (80 : Int))] : List T_api_End).length = 1 ∧ ∀ i j, i < 1 → j < 4 → rowsOf T_api_End.c T_api_End.d ([(T_api_End.mk (T_api_Addr.mk false (0 : Int) (1 : Int)) (80 : Int))] : List T_api_End) i j = (([(T_api_End.mk (T_api_Addr.mk false (0 : Int) (1 : Int)) (80 : Int))] : List T_api_End).flatMap T_api_End.c).getD (i * 4 + j) .junk, SCall Try.prog 30 [.one (cL 7 T_api_Entry.c T_api_Entry.d x1.1), .one (cL 4 T_api_End.c T_api_End.d ([(T_api_End.mk (T_api_Addr.mk false (0 : Int) (1 : Int)) (80 : Int))] : List T_api_End))] (.one (cL 7 T_api_Entry.c T_api_Entry.d x5)), SCall Try.prog 40 [.one (cL 7 T_api_Entry.c T_api_Entry.d x5), .one (.lit (.int .i64 (3 : Int)))] (.one (.lit (.int .i64 x6))), (x6 == (0 : Int)) = true, SCall Try.prog 34 [.one (cL 7 T_api_Entry.c T_api_Entry.d x1.1)] (.one (.lit (.bool x7)))] (by kernel_rfl) rfl ⟨((g_book_Add_ok ([] : (List T_api_Entry)) (T_api_Entry.mk (T_api_End.mk (T_api_Addr.mk false (0 : Int) (1 : Int)) (80 : Int)) (3 : Int) (0 : Int) (0 : Int)) (2 : Int) x1 q1).weak (.cons (.one (.nul _ _)) (.cons (.refl _) (.cons (.refl _) .nil)))), (g_book_Add_ok x1.1 (T_api_Entry.mk (T_api_End.mk (T_api_Addr.mk false (0 : Int) (1 : Int)) (80 : Int)) (3 : Int) (0 : Int) (0 : Int)) (2 : Int) x2 q2), h3, h4, (g_book_Find_ok x1.1 (T_api_End.mk (T_api_Addr.mk false (0 : Int) (1 : Int)) (80 : Int)) x3 q5), h6, (g_book_Count_ok x1.1 (3 : Int) x4 q7), h8, ⟨rfl, fun i j hi hj => rows_flat (sz := 4) (e := T_api_End.c) (d := T_api_End.d) (fun _ => rfl) ([(T_api_End.mk (T_api_Addr.mk false (0 : Int) (1 : Int)) (80 : Int))] : List T_api_End) i j hi hj⟩, (g_book_Down_ok x1.1 ([(T_api_End.mk (T_api_Addr.mk false (0 : Int) (1 : Int)) (80 : Int))] : List T_api_End) x5 q9), (g_book_Count_ok x5 (3 : Int) x6 q10), h11, (g_book_Right_ok x1.1 x7 q12), trivial⟩
          · replace hf := Option.some.inj hf
            subst hf
            exact toEnd_good allOk 10 _ _ [⟨[], [], [], [], [], [], []⟩, ⟨[], [], [], [], [], [], []⟩, ⟨[(1, .r (.tup [(false, (cLs 7 T_api_Entry.c T_api_Entry.d) x1.1), (false, (cI .i64) x1.2)]) [])], [], [], [], [], [], []⟩, ⟨[(2, .r (.tup [(false, (cLs 7 T_api_Entry.c T_api_Entry.d) x2.1), (false, (cI .i64) x2.2)]) [])], [], [], [], [], [], []⟩, ⟨[(10, .r (.one (.lit (.int .i64 x3))) []), (15, .r (.one (.lit (.int .i64 x4))) []), (23, .r (.one (cL 7 T_api_Entry.c T_api_Entry.d x5)) []), (24, .r (.one (.lit (.int .i64 x6))) [])], [(2, true), (6, true), (13, true), (18, true), (27, false)], [], [], [], [(22, (([(T_api_End.mk (T_api_Addr.mk false (0 : Int) (1 : Int)) (80 : Int))] : List T_api_End).length, rowsOf T_api_End.c T_api_End.d ([(T_api_End.mk (T_api_Addr.mk false (0 : Int) (1 : Int)) (80 : Int))] : List T_api_End)))], []⟩] [] [] [] [] [SCall Try.prog 32 [.one (.lit (.slice none 0 0)), .agg (T_api_Entry.c (T_api_Entry.mk (T_api_End.mk (T_api_Addr.mk false (0 : Int) (1 : Int)) (80 : Int)) (3 : Int) (0 : Int) (0 : Int))), .one (.lit (.int .i64 (2 : Int)))] (.tup [(false, (cLs 7 T_api_Entry.c T_api_Entry.d) x1.1), (false, (cI .i64) x1.2)]), SCall Try.prog 32 [.one (cL 7 T_api_Entry.c T_api_Entry.d x1.1), .agg (T_api_Entry.c (T_api_Entry.mk (T_api_End.mk (T_api_Addr.mk false (0 : Int) (1 : Int)) (80 : Int)) (3 : Int) (0 : Int) (0 : Int))), .one (.lit (.int .i64 (2 : Int)))] (.tup [(false, (cLs 7 T_api_Entry.c T_api_Entry.d) x2.1), (false, (cI .i64) x2.2)]), (x1.2 == (0 : Int)) = true, (x2.2 == (7 : Int)) = true, SCall Try.prog 36 [.one (cL 7 T_api_Entry.c T_api_Entry.d x1.1), .agg (T_api_End.c (T_api_End.mk (T_api_Addr.mk false (0 : Int) (1 : Int)) (80 : Int)))] (.one (.lit (.int .i64 x3))), (x3 == (0 : Int)) = true, SCall Try.prog 40 [.one (cL 7 T_api_Entry.c T_api_Entry.d x1.1), .one (.lit (.int .i64 (3 : Int)))] (.one (.lit (.int .i64 x4))), (x4 == (1 : Int)) = true, ([(T_api_End.mk (T_api_Addr.mk false (0 : Int) (1 : Int)) (80 : Int))] : List T_api_End).length = 1 ∧ ∀ i j, i < 1 → j < 4 → rowsOf T_api_End.c T_api_End.d ([(T_api_End.mk (T_api_Addr.mk false (0 : Int) (1 : Int)) (80 : Int))] : List T_api_End) i j = (([(T_api_End.mk (T_api_Addr.mk false (0 : Int) (1 : Int)) (80 : Int))] : List T_api_End).flatMap T_api_End.c).getD (i * 4 + j) .junk, SCall Try.prog 30 [.one (cL 7 T_api_Entry.c T_api_Entry.d x1.1), .one (cL 4 T_api_End.c T_api_End.d ([(T_api_End.mk (T_api_Addr.mk false (0 : Int) (1 : Int)) (80 : Int))] : List T_api_End))] (.one (cL 7 T_api_Entry.c T_api_Entry.d x5)), SCall Try.prog 40 [.one (cL 7 T_api_Entry.c T_api_Entry.d x5), .one (.lit (.int .i64 (3 : Int)))] (.one (.lit (.int .i64 x6))), (x6 == (0 : Int)) = false] (by kernel_rfl) rfl ⟨((g_book_Add_ok ([] : (List T_api_Entry)) (T_api_Entry.mk (T_api_End.mk (T_api_Addr.mk false (0 : Int) (1 : Int)) (80 : Int)) (3 : Int) (0 : Int) (0 : Int)) (2 : Int) x1 q1).weak (.cons (.one (.nul _ _)) (.cons (.refl _) (.cons (.refl _) .nil)))), (g_book_Add_ok x1.1 (T_api_Entry.mk (T_api_End.mk (T_api_Addr.mk false (0 : Int) (1 : Int)) (80 : Int)) (3 : Int) (0 : Int) (0 : Int)) (2 : Int) x2 q2), h3, h4, (g_book_Find_ok x1.1 (T_api_End.mk (T_api_Addr.mk false (0 : Int) (1 : Int)) (80 : Int)) x3 q5), h6, (g_book_Count_ok x1.1 (3 : Int) x4 q7), h8, ⟨rfl, fun i j hi hj => rows_flat (sz := 4) (e := T_api_End.c) (d := T_api_End.d) (fun _ => rfl) ([(T_api_End.mk (T_api_Addr.mk false (0 : Int) (1 : Int)) (80 : Int))] : List T_api_End) i j hi hj⟩, (g_book_Down_ok x1.1 ([(T_api_End.mk (T_api_Addr.mk false (0 : Int) (1 : Int)) (80 : Int))] : List T_api_End) x5 q9), (g_book_Count_ok x5 (3 : Int) x6 q10), h11, trivial⟩
        · replace hf := Option.some.inj hf
          subst hf
          exact toEnd_good allOk 10 _ _ [⟨[], [], [], [], [], [], []⟩, ⟨[], [], [], [], [], [], []⟩, ⟨[(1, .r (.tup [(false, (cLs 7 T_api_Entry.c T_api_Entry.d) x1.1), (false, (cI .i64) x1.2)]) [])], [], [], [], [], [], []⟩, ⟨[(2, .r (.tup [(false, (cLs 7 T_api_Entry.c T_api_Entry.d) x2.1), (false, (cI .i64) x2.2)]) [])], [], [], [], [], [], []⟩, ⟨[(10, .r (.one (.lit (.int .i64 x3))) []), (15, .r (.one (.lit (.int .i64 x4))) [])], [(2, true), (6, true), (13, true), (18, false)], [], [], [], [], []⟩] [] [] [] [] [SCall Try.prog 32 [.one (.lit (.slice none 0 0)), .agg (T_api_Entry.c (T_api_Entry.mk (T_api_End.mk (T_api_Addr.mk false (0 : Int) (1 : Int)) (80 : Int)) (3 : Int) (0 : Int) (0 : Int))), .one (.lit (.int .i64 (2 : Int)))] (.tup [(false, (cLs 7 T_api_Entry.c T_api_Entry.d) x1.1), (false, (cI .i64) x1.2)]), SCall Try.prog 32 [.one (cL 7 T_api_Entry.c T_api_Entry.d x1.1), .agg (T_api_Entry.c (T_api_Entry.mk (T_api_End.mk (T_api_Addr.mk false (0 : Int) (1 : Int)) (80 : Int)) (3 : Int) (0 : Int) (0 : Int))), .one (.lit (.int .i64 (2 : Int)))] (.tup [(false, (cLs 7 T_api_Entry.c T_api_Entry.d) x2.1), (false, (cI .i64) x2.2)]), (x1.2 == (0 : Int)) = true, (x2.2 == (7 : Int)) = true, SCall Try.prog 36 [.one (cL 7 T_api_Entry.c T_api_Entry.d x1.1), .agg (T_api_End.c (T_api_End.mk (T_api_Addr.mk false (0 : Int) (1 : Int)) (80 : Int)))] (.one (.lit (.int .i64 x3))), (x3 == (0 : Int)) = true, SCall Try.prog 40 [.one (cL 7 T_api_Entry.c T_api_Entry.d x1.1), .one (.lit (.int .i64 (3 : Int)))] (.one (.lit (.int .i64 x4))), (x4 == (1 : Int)) = false] (by kernel_rfl) rfl ⟨((g_book_Add_ok ([] : (List T_api_Entry)) (T_api_Entry.mk (T_api_End.mk (T_api_Addr.mk false (0 : Int) (1 : Int)) (80 : Int)) (3 : Int) (0 : Int) (0 : Int)) (2 : Int) x1 q1).weak (.cons (.one (.nul _ _)) (.cons (.refl _) (.cons (.refl _) .nil)))), (g_book_Add_ok x1.1 (T_api_Entry.mk (T_api_End.mk (T_api_Addr.mk false (0 : Int) (1 : Int)) (80 : Int)) (3 : Int) (0 : Int) (0 : Int)) (2 : Int) x2 q2), h3, h4, (g_book_Find_ok x1.1 (T_api_End.mk (T_api_Addr.mk false (0 : Int) (1 : Int)) (80 : Int)) x3 q5), h6, (g_book_Count_ok x1.1 (3 : Int) x4 q7), h8, trivial⟩
      · replace hf := Option.some.inj hf
        subst hf
        exact toEnd_good allOk 10 _ _ [⟨[], [], [], [], [], [], []⟩, ⟨[], [], [], [], [], [], []⟩, ⟨[(1, .r (.tup [(false, (cLs 7 T_api_Entry.c T_api_Entry.d) x1.1), (false, (cI .i64) x1.2)]) [])], [], [], [], [], [], []⟩, ⟨[(2, .r (.tup [(false, (cLs 7 T_api_Entry.c T_api_Entry.d) x2.1), (false, (cI .i64) x2.2)]) [])], [], [], [], [], [], []⟩, ⟨[(10, .r (.one (.lit (.int .i64 x3))) [])], [(2, true), (6, true), (13, false)], [], [], [], [], []⟩] [] [] [] [] [SCall Try.prog 32 [.one (.lit (.slice none 0 0)), .agg (T_api_Entry.c (T_api_Entry.mk (T_api_End.mk (T_api_Addr.mk false (0 : Int) (1 : Int)) (80 : Int)) (3 : Int) (0 : Int) (0 : Int))), .one (.lit (.int .i64 (2 : Int)))] (.tup [(false, (cLs 7 T_api_Entry.c T_api_Entry.d) x1.1), (false, (cI .i64) x1.2)]), SCall Try.prog 32 [.one (cL 7 T_api_Entry.c T_api_Entry.d x1.1), .agg (T_api_Entry.c (T_api_Entry.mk (T_api_End.mk (T_api_Addr.mk false (0 : Int) (1 : Int)) (80 : Int)) (3 : Int) (0 : Int) (0 : Int))), .one (.lit (.int .i64 (2 : Int)))] (.tup [(false, (cLs 7 T_api_Entry.c T_api_Entry.d) x2.1), (false, (cI .i64) x2.2)]), (x1.2 == (0 : Int)) = true, (x2.2 == (7 : Int)) = true, SCall Try.prog 36 [.one (cL 7 T_api_Entry.c T_api_Entry.d x1.1), .agg (T_api_End.c (T_api_End.mk (T_api_Addr.mk false (0 : Int) (1 : Int)) (80 : Int)))] (.one (.lit (.int .i64 x3))), (x3 == (0 : Int)) = false] (by kernel_rfl) rfl ⟨((g_book_Add_ok ([] : (List T_api_Entry)) (T_api_Entry.mk (T_api_End.mk (T_api_Addr.mk false (0 : Int) (1 : Int)) (80 : Int)) (3 : Int) (0 : Int) (0 : Int)) (2 : Int) x1 q1).weak (.cons (.one (.nul _ _)) (.cons (.refl _) (.cons (.refl _) .nil)))), (g_book_Add_ok x1.1 (T_api_Entry.mk (T_api_End.mk (T_api_Addr.mk false (0 : Int) (1 : Int)) (80 : Int)) (3 : Int) (0 : Int) (0 : Int)) (2 : Int) x2 q2), h3, h4, (g_book_Find_ok x1.1 (T_api_End.mk (T_api_Addr.mk false (0 : Int) (1 : Int)) (80 : Int)) x3 q5), h6, trivial⟩
    · replace hf := Option.some.inj hf
      subst hf
      exact toEnd_good allOk 10 _ _ [⟨[], [], [], [], [], [], []⟩, ⟨[], [], [], [], [], [], []⟩, ⟨[(1, .r (.tup [(false, (cLs 7 T_api_Entry.c T_api_Entry.d) x1.1), (false, (cI .i64) x1.2)]) [])], [], [], [], [], [], []⟩, ⟨[(2, .r (.tup [(false, (cLs 7 T_api_Entry.c T_api_Entry.d) x2.1), (false, (cI .i64) x2.2)]) [])], [], [], [], [], [], []⟩, ⟨[], [(2, true), (6, false)], [], [], [], [], []⟩] [] [] [] [] [SCall Try.prog 32 [.one (.lit (.slice none 0 0)), .agg (T_api_Entry.c (T_api_Entry.mk (T_api_End.mk (T_api_Addr.mk false (0 : Int) (1 : Int)) (80 : Int)) (3 : Int) (0 : Int) (0 : Int))), .one (.lit (.int .i64 (2 : Int)))] (.tup [(false, (cLs 7 T_api_Entry.c T_api_Entry.d) x1.1), (false, (cI .i64) x1.2)]), SCall Try.prog 32 [.one (cL 7 T_api_Entry.c T_api_Entry.d x1.1), .agg (T_api_Entry.c (T_api_Entry.mk (T_api_End.mk (T_api_Addr.mk false (0 : Int) (1 : Int)) (80 : Int)) (3 : Int) (0 : Int) (0 : Int))), .one (.lit (.int .i64 (2 : Int)))] (.tup [(false, (cLs 7 T_api_Entry.c T_api_Entry.d) x2.1), (false, (cI .i64) x2.2)]), (x1.2 == (0 : Int)) = true, (x2.2 == (7 : Int)) = false] (by kernel_rfl) rfl ⟨((g_book_Add_ok ([] : (List T_api_Entry)) (T_api_Entry.mk (T_api_End.mk (T_api_Addr.mk false (0 : Int) (1 : Int)) (80 : Int)) (3 : Int) (0 : Int) (0 : Int)) (2 : Int) x1 q1).weak (.cons (.one (.nul _ _)) (.cons (.refl _) (.cons (.refl _) .nil)))), (g_book_Add_ok x1.1 (T_api_Entry.mk (T_api_End.mk (T_api_Addr.mk false (0 : Int) (1 : Int)) (80 : Int)) (3 : Int) (0 : Int) (0 : Int)) (2 : Int) x2 q2), h3, h4, trivial⟩
  · replace hf := Option.some.inj hf
    subst hf
    exact toEnd_good allOk 10 _ _ [⟨[], [], [], [], [], [], []⟩, ⟨[], [], [], [], [], [], []⟩, ⟨[(1, .r (.tup [(false, (cLs 7 T_api_Entry.c T_api_Entry.d) x1.1), (false, (cI .i64) x1.2)]) [])], [], [], [], [], [], []⟩, ⟨[(2, .r (.tup [(false, (cLs 7 T_api_Entry.c T_api_Entry.d) x2.1), (false, (cI .i64) x2.2)]) [])], [], [], [], [], [], []⟩, ⟨[], [(2, false)], [], [], [], [], []⟩] [] [] [] [] [SCall Try.prog 32 [.one (.lit (.slice none 0 0)), .agg (T_api_Entry.c (T_api_Entry.mk (T_api_End.mk (T_api_Addr.mk false (0 : Int) (1 : Int)) (80 : Int)) (3 : Int) (0 : Int) (0 : Int))), .one (.lit (.int .i64 (2 : Int)))] (.tup [(false, (cLs 7 T_api_Entry.c T_api_Entry.d) x1.1), (false, (cI .i64) x1.2)]), SCall Try.prog 32 [.one (cL 7 T_api_Entry.c T_api_Entry.d x1.1), .agg (T_api_Entry.c (T_api_Entry.mk (T_api_End.mk (T_api_Addr.mk false (0 : Int) (1 : Int)) (80 : Int)) (3 : Int) (0 : Int) (0 : Int))), .one (.lit (.int .i64 (2 : Int)))] (.tup [(false, (cLs 7 T_api_Entry.c T_api_Entry.d) x2.1), (false, (cI .i64) x2.2)]), (x1.2 == (0 : Int)) = false] (by kernel_rfl) rfl ⟨((g_book_Add_ok ([] : (List T_api_Entry)) (T_api_Entry.mk (T_api_End.mk (T_api_Addr.mk false (0 : Int) (1 : Int)) (80 : Int)) (3 : Int) (0 : Int) (0 : Int)) (2 : Int) x1 q1).weak (.cons (.one (.nul _ _)) (.cons (.refl _) (.cons (.refl _) .nil)))), (g_book_Add_ok x1.1 (T_api_Entry.mk (T_api_End.mk (T_api_Addr.mk false (0 : Int) (1 : Int)) (80 : Int)) (3 : Int) (0 : Int) (0 : Int)) (2 : Int) x2 q2), h3, trivial⟩

def g_doormanref26_has_c0 (a0 : (List T_api_End))  : Nat → Int → T_api_End → Option Bool
  | 0, _, _ => none
  | fu + 1, v5, b3 =>
    bif (decide (v5 < ((a0.length : Nat) : Int))) then
      need (0 ≤ v5 ∧ v5 < ((a0.length : Nat) : Int)) <|
      bif (decide ((a0.getD v5.toNat T_api_End.d) = b3)) then
        some true
      else
        g_doormanref26_has_c0 a0  fu (add64 v5 (1 : Int)) b3
    else
      some false

theorem g_doormanref26_has_c0_ok (S0 : Nat → Prop) (w0 : Start) (a0 : (List T_api_End))  : ∀ (fu : Nat) (v5 : Int) (b3 : T_api_End) (r : Bool), g_doormanref26_has_c0 a0  fu v5 b3 = some r → Good Try.prog 18 S0 w0 (bodyPost Try.prog Try.f86 (Post S0 w0 (.one (.lit (.bool r))))) (at_ [1, 0, 1, 0] (bodyOf Try.f86)) ⟨[(0, .one (cL 4 T_api_End.c T_api_End.d a0)), (3, .one (.ptr 3 0)), (5, .one (.lit (.int .i64 v5)))], [(3, .box [.lit (.bool b3.fAddr.fV6), .lit (.int .u64 b3.fAddr.fHi), .lit (.int .u64 b3.fAddr.fLo), .lit (.int .i64 b3.fPort)])]⟩ := by
  intro fu
  induction fu with
  | zero =>
    intro v5 b3 r hf
    simp [g_doormanref26_has_c0] at hf
  | succ fu ih =>
    intro v5 b3 r hf
    unfold g_doormanref26_has_c0 at hf
    rcases br_some hf with ⟨h1, hf⟩ | ⟨h1, hf⟩
    · obtain ⟨o2, hf⟩ := need_some hf
      rcases br_some hf with ⟨h3, hf⟩ | ⟨h3, hf⟩
      · replace hf := Option.some.inj hf
        subst hf
        exact toEnd_good allOk 13 _ _ [⟨[], [], [], [], [], [], []⟩, ⟨[(5, .r (.one (.lit (.bool (decide ((a0.getD v5.toNat T_api_End.d) = b3))))) [])], [], [], [[], [], [0, 1], [2, 0, 1], [], [3, 2, 0, 1, 4]], [], [], []⟩, ⟨[], [], [], [], [], [], []⟩] [true, true] [] [] [] [(decide (v5 < ((a0.length : Nat) : Int))) = true, 0 ≤ v5 ∧ v5 < ((a0.length : Nat) : Int), ∀ w, (do eqGuard .eql 58 (.tmp 15) (.tmp 16) (.agg #[.bool (((a0.getD v5.toNat T_api_End.d).fAddr).fV6), .int .u64 (((a0.getD v5.toNat T_api_End.d).fAddr).fHi), .int .u64 (((a0.getD v5.toNat T_api_End.d).fAddr).fLo), .int .i64 ((a0.getD v5.toNat T_api_End.d).fPort)]) (.agg #[.bool b3.fAddr.fV6, .int .u64 b3.fAddr.fHi, .int .u64 b3.fAddr.fLo, .int .i64 b3.fPort]); binOp .eql 58 (.agg #[.bool (((a0.getD v5.toNat T_api_End.d).fAddr).fV6), .int .u64 (((a0.getD v5.toNat T_api_End.d).fAddr).fHi), .int .u64 (((a0.getD v5.toNat T_api_End.d).fAddr).fLo), .int .i64 ((a0.getD v5.toNat T_api_End.d).fPort)]) (.agg #[.bool b3.fAddr.fV6, .int .u64 b3.fAddr.fHi, .int .u64 b3.fAddr.fLo, .int .i64 b3.fPort]) : Sem Value).run Try.prog w = .ok (.bool (decide ((a0.getD v5.toNat T_api_End.d) = b3))) w, (decide ((a0.getD v5.toNat T_api_End.d) = b3)) = true] (by kernel_rfl) rfl ⟨h1, o2, (eql_T_api_End (a0.getD v5.toNat T_api_End.d) b3 _ _), h3, trivial⟩
      · exact toK_good allOk Post.ends 15 _ _ _ _ [⟨[], [], [], [], [], [], []⟩, ⟨[(5, .r (.one (.lit (.bool (decide ((a0.getD v5.toNat T_api_End.d) = b3))))) [])], [], [], [[], [], [0, 1], [2, 0, 1], [], [3, 2, 0, 1, 4]], [], [], []⟩, ⟨[], [], [], [], [], [], []⟩] [true, false] ⟨[], [], [], [], [], [0, 3, 5], [3], []⟩ [(decide (v5 < ((a0.length : Nat) : Int))) = true, 0 ≤ v5 ∧ v5 < ((a0.length : Nat) : Int), ∀ w, (do eqGuard .eql 58 (.tmp 15) (.tmp 16) (.agg #[.bool (((a0.getD v5.toNat T_api_End.d).fAddr).fV6), .int .u64 (((a0.getD v5.toNat T_api_End.d).fAddr).fHi), .int .u64 (((a0.getD v5.toNat T_api_End.d).fAddr).fLo), .int .i64 ((a0.getD v5.toNat T_api_End.d).fPort)]) (.agg #[.bool b3.fAddr.fV6, .int .u64 b3.fAddr.fHi, .int .u64 b3.fAddr.fLo, .int .i64 b3.fPort]); binOp .eql 58 (.agg #[.bool (((a0.getD v5.toNat T_api_End.d).fAddr).fV6), .int .u64 (((a0.getD v5.toNat T_api_End.d).fAddr).fHi), .int .u64 (((a0.getD v5.toNat T_api_End.d).fAddr).fLo), .int .i64 ((a0.getD v5.toNat T_api_End.d).fPort)]) (.agg #[.bool b3.fAddr.fV6, .int .u64 b3.fAddr.fHi, .int .u64 b3.fAddr.fLo, .int .i64 b3.fPort]) : Sem Value).run Try.prog w = .ok (.bool (decide ((a0.getD v5.toNat T_api_End.d) = b3))) w, (decide ((a0.getD v5.toNat T_api_End.d) = b3)) = false] (by kernel_rfl) ⟨h1, o2, (eql_T_api_End (a0.getD v5.toNat T_api_End.d) b3 _ _), h3, trivial⟩ (ih (add64 v5 (1 : Int)) b3 r hf)
    · replace hf := Option.some.inj hf
      subst hf
      exact toEnd_good allOk 8 _ _ [⟨[], [], [], [], [], [], []⟩, ⟨[], [], [], [], [], [], []⟩] [false] [] [] [] [(decide (v5 < ((a0.length : Nat) : Int))) = false] (by kernel_rfl) rfl ⟨h1, trivial⟩

/-- doorman/doormanref26.has -/
def g_doormanref26_has (a0 : (List T_api_End)) (a1 : T_api_End) : Option Bool :=
  g_doormanref26_has_c0 a0  ((((a0.length : Nat) : Int) - (0 : Int)).toNat + 2) (0 : Int) a1

theorem g_doormanref26_has_ok (a0 : (List T_api_End)) (a1 : T_api_End) (r : Bool) (hf : g_doormanref26_has a0 a1 = some r) : SCall Try.prog 86 [.one (cL 4 T_api_End.c T_api_End.d a0), .agg (T_api_End.c a1)] (.one (.lit (.bool r))) := by
  refine SCall.of Try.func86 rfl rfl rfl rfl fun S0 w0 => ?_
  unfold g_doormanref26_has at hf
  exact toK_good allOk Post.ends 6 _ _ _ _ [⟨[], [], [], [], [], [], []⟩, ⟨[], [], [], [], [], [], []⟩] [] ⟨[], [], [], [], [], [0, 3, 5], [3], []⟩ [] (by kernel_rfl) trivial (g_doormanref26_has_c0_ok S0 w0 a0   ((((a0.length : Nat) : Int) - (0 : Int)).toNat + 2) (0 : Int) a1 r hf)

def g_doormanref26_Down_c0 (a1 : (List T_api_End))  : Nat → Int → (List T_api_Entry) → Option (List T_api_Entry)
  | 0, _, _ => none
  | fu + 1, v6, w9 =>
    bif (decide (v6 < ((w9.length : Nat) : Int))) then
      need (0 ≤ v6 ∧ v6 < ((w9.length : Nat) : Int)) <|
      bif ((w9.getD v6.toNat T_api_Entry.d).fState == (3 : Int)) then
        (g_doormanref26_has a1 ((w9.getD v6.toNat T_api_Entry.d).fEnd)).bind fun x1 =>
        bif x1 then
          g_doormanref26_Down_c0 a1  fu (add64 v6 (1 : Int)) (w9.set v6.toNat (T_api_Entry.mk ((w9.getD v6.toNat T_api_Entry.d).fEnd) (1 : Int) ((w9.getD v6.toNat T_api_Entry.d).fFails) ((w9.getD v6.toNat T_api_Entry.d).fNext)))
        else
          g_doormanref26_Down_c0 a1  fu (add64 v6 (1 : Int)) w9
      else
        g_doormanref26_Down_c0 a1  fu (add64 v6 (1 : Int)) w9
    else
      some w9

theorem g_doormanref26_Down_c0_ok (S0 : Nat → Prop) (w0 : Start) (a1 : (List T_api_End))  : ∀ (fu : Nat) (v6 : Int) (w9 : (List T_api_Entry)) (r : (List T_api_Entry)), g_doormanref26_Down_c0 a1  fu v6 w9 = some r → Good Try.prog 36 S0 w0 (bodyPost Try.prog Try.f31 (HPost S0 w0 [(99999, .rows 60 7 r.length (rowsOf T_api_Entry.c T_api_Entry.d r))] (.one (.osl 99999 r.length)))) (at_ [1, 1, 0, 1, 0] (bodyOf Try.f31)) ⟨[(1, .one (cL 4 T_api_End.c T_api_End.d a1)), (5, .one (.osl 9 w9.length)), (6, .one (.lit (.int .i64 v6)))], [(9, .rows 60 7 w9.length (rowsOf T_api_Entry.c T_api_Entry.d w9))]⟩ := by
  intro fu
  induction fu with
  | zero =>
    intro v6 w9 r hf
    simp [g_doormanref26_Down_c0] at hf
  | succ fu ih =>
    intro v6 w9 r hf
    unfold g_doormanref26_Down_c0 at hf
    rcases br_some hf with ⟨h2, hf⟩ | ⟨h2, hf⟩
    · obtain ⟨o3, hf⟩ := need_some hf
      rcases br_some hf with ⟨h4, hf⟩ | ⟨h4, hf⟩
      · obtain ⟨x1, q5, hf⟩ := bind_some' hf
        rcases br_some hf with ⟨h6, hf⟩ | ⟨h6, hf⟩
        · exact toK_good allOk HPost.ends 15 _ _ _ _ [⟨[], [], [], [], [], [], []⟩, ⟨[(13, .r (.one (.lit (.bool x1))) [])], [(6, true)], [], [], [], [], []⟩, ⟨[(4, .c (w9.set v6.toNat (T_api_Entry.mk ((w9.getD v6.toNat T_api_Entry.d).fEnd) (1 : Int) ((w9.getD v6.toNat T_api_Entry.d).fFails) ((w9.getD v6.toNat T_api_Entry.d).fNext))).length (rowsOf T_api_Entry.c T_api_Entry.d (w9.set v6.toNat (T_api_Entry.mk ((w9.getD v6.toNat T_api_Entry.d).fEnd) (1 : Int) ((w9.getD v6.toNat T_api_Entry.d).fFails) ((w9.getD v6.toNat T_api_Entry.d).fNext)))))], [], [], [], [], [], []⟩, ⟨[], [], [], [], [], [], []⟩] [true, true] ⟨[], [], [], [(9, ((w9.set v6.toNat (T_api_Entry.mk ((w9.getD v6.toNat T_api_Entry.d).fEnd) (1 : Int) ((w9.getD v6.toNat T_api_Entry.d).fFails) ((w9.getD v6.toNat T_api_Entry.d).fNext))).length))], [], [1, 5, 6], [9], []⟩ [(decide (v6 < ((w9.length : Nat) : Int))) = true, 0 ≤ v6 ∧ v6 < ((w9.length : Nat) : Int), v6.toNat < w9.length, ((w9.getD v6.toNat T_api_Entry.d).fState == (3 : Int)) = true, 0 ≤ v6 ∧ v6 < ((w9.length : Nat) : Int), v6.toNat < w9.length, SCall Try.prog 86 [.one (cL 4 T_api_End.c T_api_End.d a1), .agg (T_api_End.c ((w9.getD v6.toNat T_api_Entry.d).fEnd))] (.one (.lit (.bool x1))), x1 = true, 0 ≤ v6 ∧ v6 < ((w9.length : Nat) : Int), (w9.set v6.toNat (T_api_Entry.mk ((w9.getD v6.toNat T_api_Entry.d).fEnd) (1 : Int) ((w9.getD v6.toNat T_api_Entry.d).fFails) ((w9.getD v6.toNat T_api_Entry.d).fNext))).length = w9.length, v6.toNat < w9.length, ExtU 7 w9.length (rowsOf T_api_Entry.c T_api_Entry.d w9) v6.toNat 4 [.lit (.int .i64 (1 : Int))] (rowsOf T_api_Entry.c T_api_Entry.d (w9.set v6.toNat (T_api_Entry.mk ((w9.getD v6.toNat T_api_Entry.d).fEnd) (1 : Int) ((w9.getD v6.toNat T_api_Entry.d).fFails) ((w9.getD v6.toNat T_api_Entry.d).fNext)))), (w9.set v6.toNat (T_api_Entry.mk ((w9.getD v6.toNat T_api_Entry.d).fEnd) (1 : Int) ((w9.getD v6.toNat T_api_Entry.d).fFails) ((w9.getD v6.toNat T_api_Entry.d).fNext))).length = (w9.set v6.toNat (T_api_Entry.mk ((w9.getD v6.toNat T_api_Entry.d).fEnd) (1 : Int) ((w9.getD v6.toNat T_api_Entry.d).fFails) ((w9.getD v6.toNat T_api_Entry.d).fNext))).length] (by kernel_rfl) ⟨h2, o3, (ltOf o3), h4, o3, (ltOf o3), (g_doormanref26_has_ok a1 ((w9.getD v6.toNat T_api_Entry.d).fEnd) x1 q5), h6, o3, List.length_set, (ltOf o3), (ext_part _ _ _ _ _ rfl (Nat.le_of_ble_eq_true rfl)), rfl, trivial⟩ (ih (add64 v6 (1 : Int)) (w9.set v6.toNat (T_api_Entry.mk ((w9.getD v6.toNat T_api_Entry.d).fEnd) (1 : Int) ((w9.getD v6.toNat T_api_Entry.d).fFails) ((w9.getD v6.toNat T_api_Entry.d).fNext))) r hf)
        · exact toK_good allOk HPost.ends 15 _ _ _ _ [⟨[], [], [], [], [], [], []⟩, ⟨[(13, .r (.one (.lit (.bool x1))) [])], [(6, true)], [], [], [], [], []⟩, ⟨[], [], [], [], [], [], []⟩] [true, false] ⟨[], [], [], [], [], [1, 5, 6], [9], []⟩ [(decide (v6 < ((w9.length : Nat) : Int))) = true, 0 ≤ v6 ∧ v6 < ((w9.length : Nat) : Int), v6.toNat < w9.length, ((w9.getD v6.toNat T_api_Entry.d).fState == (3 : Int)) = true, 0 ≤ v6 ∧ v6 < ((w9.length : Nat) : Int), v6.toNat < w9.length, SCall Try.prog 86 [.one (cL 4 T_api_End.c T_api_End.d a1), .agg (T_api_End.c ((w9.getD v6.toNat T_api_Entry.d).fEnd))] (.one (.lit (.bool x1))), x1 = false] (by kernel_rfl) ⟨h2, o3, (ltOf o3), h4, o3, (ltOf o3), (g_doormanref26_has_ok a1 ((w9.getD v6.toNat T_api_Entry.d).fEnd) x1 q5), h6, trivial⟩ (ih (add64 v6 (1 : Int)) w9 r hf)
      · exact toK_good allOk HPost.ends 15 _ _ _ _ [⟨[], [], [], [], [], [], []⟩, ⟨[], [(6, false)], [], [], [], [], []⟩, ⟨[], [], [], [], [], [], []⟩] [true, false] ⟨[], [], [], [], [], [1, 5, 6], [9], []⟩ [(decide (v6 < ((w9.length : Nat) : Int))) = true, 0 ≤ v6 ∧ v6 < ((w9.length : Nat) : Int), v6.toNat < w9.length, ((w9.getD v6.toNat T_api_Entry.d).fState == (3 : Int)) = false, false = false] (by kernel_rfl) ⟨h2, o3, (ltOf o3), h4, rfl, trivial⟩ (ih (add64 v6 (1 : Int)) w9 r hf)
    · replace hf := Option.some.inj hf
      subst hf
      exact toEndH_good allOk 8 _ _ [⟨[], [], [], [], [], [], []⟩, ⟨[], [], [], [], [], [], []⟩] [false] ⟨[], [], [], [], [], [4], [9], [(9, 99999)]⟩ [(decide (v6 < ((w9.length : Nat) : Int))) = false] (by kernel_rfl) ⟨h2, trivial⟩

/-- doorman/doormanref26.Down -/
def g_doormanref26_Down (a0 : (List T_api_Entry)) (a1 : (List T_api_End)) : Option (List T_api_Entry) :=
  need ((([] : List T_api_Entry) ++ a0).length * 56 ≤ 140737488355328 ∧ (([] : List T_api_Entry) ++ a0).length ≤ maxLen) <|
  g_doormanref26_Down_c0 a1  (((((([] : List T_api_Entry) ++ a0).length : Nat) : Int) - (0 : Int)).toNat + 2) (0 : Int) (([] : List T_api_Entry) ++ a0)

theorem g_doormanref26_Down_own (a0 : (List T_api_Entry)) (a1 : (List T_api_End)) (r : (List T_api_Entry)) (hf : g_doormanref26_Down a0 a1 = some r) : HCall Try.prog 31 [] [.one (cL 7 T_api_Entry.c T_api_Entry.d a0), .one (cL 4 T_api_End.c T_api_End.d a1)] [(99999, .rows 60 7 r.length (rowsOf T_api_Entry.c T_api_Entry.d r))] (.one (.osl 99999 r.length)) := by
  refine HCall.of Try.func31 rfl rfl rfl rfl fun S0 w0 => ?_
  unfold g_doormanref26_Down at hf
  obtain ⟨o1, hf⟩ := need_some hf
  exact toK_good allOk HPost.ends 8 _ _ _ _ [⟨[], [], [], [], [], [], []⟩, ⟨[(0, .c ([] : List T_api_Entry).length (rowsOf T_api_Entry.c T_api_Entry.d ([] : List T_api_Entry))), (2, .c ((([] : List T_api_Entry) ++ a0).length) (rowsOf T_api_Entry.c T_api_Entry.d (([] : List T_api_Entry) ++ a0)))], [], [], [], [], [], []⟩, ⟨[], [], [], [], [], [], []⟩] [] ⟨[], [], [], [], [], [1, 5, 6], [9], []⟩ [([] : List T_api_Entry).length = 0, ∀ i j, i < 0 → j < 7 → rowsOf T_api_Entry.c T_api_Entry.d ([] : List T_api_Entry) i j = (([] : List T_api_Entry).flatMap T_api_Entry.c).getD (i * 7 + j) .junk, Ext 7 (([] : List T_api_Entry).length) a0.length (rowsOf T_api_Entry.c T_api_Entry.d ([] : List T_api_Entry)) (rowsOf T_api_Entry.c T_api_Entry.d a0) ((([] : List T_api_Entry) ++ a0).length) (rowsOf T_api_Entry.c T_api_Entry.d (([] : List T_api_Entry) ++ a0)), (([] : List T_api_Entry) ++ a0).length * 56 ≤ 140737488355328, (([] : List T_api_Entry) ++ a0).length ≤ maxLen] (by kernel_rfl) ⟨rfl, (fun i j hi hj => rows_flat (sz := 7) (e := T_api_Entry.c) (d := T_api_Entry.d) (fun _ => rfl) ([] : List T_api_Entry) i j hi hj), (ext_app _ _), o1.1, o1.2, trivial⟩ (g_doormanref26_Down_c0_ok S0 w0 a1   (((((([] : List T_api_Entry) ++ a0).length : Nat) : Int) - (0 : Int)).toNat + 2) (0 : Int) (([] : List T_api_Entry) ++ a0) r hf)

theorem g_doormanref26_Down_ok (a0 : (List T_api_Entry)) (a1 : (List T_api_End)) (r : (List T_api_Entry)) (hf : g_doormanref26_Down a0 a1 = some r) : SCall Try.prog 31 [.one (cL 7 T_api_Entry.c T_api_Entry.d a0), .one (cL 4 T_api_End.c T_api_End.d a1)] (.one (cL 7 T_api_Entry.c T_api_Entry.d r)) := (g_doormanref26_Down_own a0 a1 r hf).pure

def g_doormansame_Book_c0 (a0 : (List T_api_Entry)) (a1 : (List T_api_Entry))  : Nat → Int → Option Bool
  | 0, _ => none
  | fu + 1, v5 =>
    bif (decide (v5 < ((a0.length : Nat) : Int))) then
      bif (decide (v5 < ((a1.length : Nat) : Int))) then
        need (0 ≤ v5 ∧ v5 < ((a0.length : Nat) : Int)) <|
        need (0 ≤ v5 ∧ v5 < ((a1.length : Nat) : Int)) <|
        bif (!(decide ((a0.getD v5.toNat T_api_Entry.d) = (a1.getD v5.toNat T_api_Entry.d)))) then
          some false
        else
          g_doormansame_Book_c0 a0 a1  fu (add64 v5 (1 : Int))
      else
        some true
    else
      some true

theorem g_doormansame_Book_c0_ok (S0 : Nat → Prop) (w0 : Start) (a0 : (List T_api_Entry)) (a1 : (List T_api_Entry))  : ∀ (fu : Nat) (v5 : Int) (r : Bool), g_doormansame_Book_c0 a0 a1  fu v5 = some r → Good Try.prog 32 S0 w0 (bodyPost Try.prog Try.f29 (Post S0 w0 (.one (.lit (.bool r))))) (at_ [1, 1, 0, 1, 0] (bodyOf Try.f29)) ⟨[(0, .one (cL 7 T_api_Entry.c T_api_Entry.d a0)), (1, .one (cL 7 T_api_Entry.c T_api_Entry.d a1)), (5, .one (.lit (.int .i64 v5)))], []⟩ := by
  intro fu
  induction fu with
  | zero =>
    intro v5 r hf
    simp [g_doormansame_Book_c0] at hf
  | succ fu ih =>
    intro v5 r hf
    unfold g_doormansame_Book_c0 at hf
    rcases br_some hf with ⟨h2, hf⟩ | ⟨h2, hf⟩
    · rcases br_some hf with ⟨h3, hf⟩ | ⟨h3, hf⟩
      · obtain ⟨o4, hf⟩ := need_some hf
        obtain ⟨o5, hf⟩ := need_some hf
        rcases br_some hf with ⟨h6, hf⟩ | ⟨h6, hf⟩
        · replace hf := Option.some.inj hf
          subst hf
          exact toEnd_good allOk 13 _ _ [⟨[], [(4, true)], [], [], [], [], []⟩, ⟨[(8, .r (.one (.lit (.bool (!(decide ((a0.getD v5.toNat T_api_Entry.d) = (a1.getD v5.toNat T_api_Entry.d))))))) [])], [], [], [[], [], [0, 1], [2, 0, 1], [], [], [4, 5], [6, 4, 5], [3, 2, 0, 1, 7, 6, 4, 5]], [], [], []⟩, ⟨[], [], [], [], [], [], []⟩] [true, true] [] [] [] [(decide (v5 < ((a0.length : Nat) : Int))) = true, (decide (v5 < ((a1.length : Nat) : Int))) = true, 0 ≤ v5 ∧ v5 < ((a0.length : Nat) : Int), 0 ≤ v5 ∧ v5 < ((a1.length : Nat) : Int), ∀ w, (do eqGuard .neq 60 (.tmp 26) (.tmp 30) (.agg #[.bool ((((a0.getD v5.toNat T_api_Entry.d).fEnd).fAddr).fV6), .int .u64 ((((a0.getD v5.toNat T_api_Entry.d).fEnd).fAddr).fHi), .int .u64 ((((a0.getD v5.toNat T_api_Entry.d).fEnd).fAddr).fLo), .int .i64 (((a0.getD v5.toNat T_api_Entry.d).fEnd).fPort), .int .i64 ((a0.getD v5.toNat T_api_Entry.d).fState), .int .i64 ((a0.getD v5.toNat T_api_Entry.d).fFails), .int .i64 ((a0.getD v5.toNat T_api_Entry.d).fNext)]) (.agg #[.bool ((((a1.getD v5.toNat T_api_Entry.d).fEnd).fAddr).fV6), .int .u64 ((((a1.getD v5.toNat T_api_Entry.d).fEnd).fAddr).fHi), .int .u64 ((((a1.getD v5.toNat T_api_Entry.d).fEnd).fAddr).fLo), .int .i64 (((a1.getD v5.toNat T_api_Entry.d).fEnd).fPort), .int .i64 ((a1.getD v5.toNat T_api_Entry.d).fState), .int .i64 ((a1.getD v5.toNat T_api_Entry.d).fFails), .int .i64 ((a1.getD v5.toNat T_api_Entry.d).fNext)]); binOp .neq 60 (.agg #[.bool ((((a0.getD v5.toNat T_api_Entry.d).fEnd).fAddr).fV6), .int .u64 ((((a0.getD v5.toNat T_api_Entry.d).fEnd).fAddr).fHi), .int .u64 ((((a0.getD v5.toNat T_api_Entry.d).fEnd).fAddr).fLo), .int .i64 (((a0.getD v5.toNat T_api_Entry.d).fEnd).fPort), .int .i64 ((a0.getD v5.toNat T_api_Entry.d).fState), .int .i64 ((a0.getD v5.toNat T_api_Entry.d).fFails), .int .i64 ((a0.getD v5.toNat T_api_Entry.d).fNext)]) (.agg #[.bool ((((a1.getD v5.toNat T_api_Entry.d).fEnd).fAddr).fV6), .int .u64 ((((a1.getD v5.toNat T_api_Entry.d).fEnd).fAddr).fHi), .int .u64 ((((a1.getD v5.toNat T_api_Entry.d).fEnd).fAddr).fLo), .int .i64 (((a1.getD v5.toNat T_api_Entry.d).fEnd).fPort), .int .i64 ((a1.getD v5.toNat T_api_Entry.d).fState), .int .i64 ((a1.getD v5.toNat T_api_Entry.d).fFails), .int .i64 ((a1.getD v5.toNat T_api_Entry.d).fNext)]) : Sem Value).run Try.prog w = .ok (.bool (!(decide ((a0.getD v5.toNat T_api_Entry.d) = (a1.getD v5.toNat T_api_Entry.d))))) w, (!(decide ((a0.getD v5.toNat T_api_Entry.d) = (a1.getD v5.toNat T_api_Entry.d)))) = true] (by kernel_rfl) rfl ⟨h2, h3, o4, o5, (neq_T_api_Entry (a0.getD v5.toNat T_api_Entry.d) (a1.getD v5.toNat T_api_Entry.d) _ _), h6, trivial⟩
        · exact toK_good allOk Post.ends 15 _ _ _ _ [⟨[], [(4, true)], [], [], [], [], []⟩, ⟨[(8, .r (.one (.lit (.bool (!(decide ((a0.getD v5.toNat T_api_Entry.d) = (a1.getD v5.toNat T_api_Entry.d))))))) [])], [], [], [[], [], [0, 1], [2, 0, 1], [], [], [4, 5], [6, 4, 5], [3, 2, 0, 1, 7, 6, 4, 5]], [], [], []⟩, ⟨[], [], [], [], [], [], []⟩] [true, false] ⟨[], [], [], [], [], [0, 1, 5], [], []⟩ [(decide (v5 < ((a0.length : Nat) : Int))) = true, (decide (v5 < ((a1.length : Nat) : Int))) = true, 0 ≤ v5 ∧ v5 < ((a0.length : Nat) : Int), 0 ≤ v5 ∧ v5 < ((a1.length : Nat) : Int), ∀ w, (do eqGuard .neq 60 (.tmp 26) (.tmp 30) (.agg #[.bool ((((a0.getD v5.toNat T_api_Entry.d).fEnd).fAddr).fV6), .int .u64 ((((a0.getD v5.toNat T_api_Entry.d).fEnd).fAddr).fHi), .int .u64 ((((a0.getD v5.toNat T_api_Entry.d).fEnd).fAddr).fLo), .int .i64 (((a0.getD v5.toNat T_api_Entry.d).fEnd).fPort), .int .i64 ((a0.getD v5.toNat T_api_Entry.d).fState), .int .i64 ((a0.getD v5.toNat T_api_Entry.d).fFails), .int .i64 ((a0.getD v5.toNat T_api_Entry.d).fNext)]) (.agg #[.bool ((((a1.getD v5.toNat T_api_Entry.d).fEnd).fAddr).fV6), .int .u64 ((((a1.getD v5.toNat T_api_Entry.d).fEnd).fAddr).fHi), .int .u64 ((((a1.getD v5.toNat T_api_Entry.d).fEnd).fAddr).fLo), .int .i64 (((a1.getD v5.toNat T_api_Entry.d).fEnd).fPort), .int .i64 ((a1.getD v5.toNat T_api_Entry.d).fState), .int .i64 ((a1.getD v5.toNat T_api_Entry.d).fFails), .int .i64 ((a1.getD v5.toNat T_api_Entry.d).fNext)]); binOp .neq 60 (.agg #[.bool ((((a0.getD v5.toNat T_api_Entry.d).fEnd).fAddr).fV6), .int .u64 ((((a0.getD v5.toNat T_api_Entry.d).fEnd).fAddr).fHi), .int .u64 ((((a0.getD v5.toNat T_api_Entry.d).fEnd).fAddr).fLo), .int .i64 (((a0.getD v5.toNat T_api_Entry.d).fEnd).fPort), .int .i64 ((a0.getD v5.toNat T_api_Entry.d).fState), .int .i64 ((a0.getD v5.toNat T_api_Entry.d).fFails), .int .i64 ((a0.getD v5.toNat T_api_Entry.d).fNext)]) (.agg #[.bool ((((a1.getD v5.toNat T_api_Entry.d).fEnd).fAddr).fV6), .int .u64 ((((a1.getD v5.toNat T_api_Entry.d).fEnd).fAddr).fHi), .int .u64 ((((a1.getD v5.toNat T_api_Entry.d).fEnd).fAddr).fLo), .int .i64 (((a1.getD v5.toNat T_api_Entry.d).fEnd).fPort), .int .i64 ((a1.getD v5.toNat T_api_Entry.d).fState), .int .i64 ((a1.getD v5.toNat T_api_Entry.d).fFails), .int .i64 ((a1.getD v5.toNat T_api_Entry.d).fNext)]) : Sem Value).run Try.prog w = .ok (.bool (!(decide ((a0.getD v5.toNat T_api_Entry.d) = (a1.getD v5.toNat T_api_Entry.d))))) w, (!(decide ((a0.getD v5.toNat T_api_Entry.d) = (a1.getD v5.toNat T_api_Entry.d)))) = false] (by kernel_rfl) ⟨h2, h3, o4, o5, (neq_T_api_Entry (a0.getD v5.toNat T_api_Entry.d) (a1.getD v5.toNat T_api_Entry.d) _ _), h6, trivial⟩ (ih (add64 v5 (1 : Int)) r hf)
      · replace hf := Option.some.inj hf
        subst hf
        exact toEnd_good allOk 8 _ _ [⟨[], [(4, true)], [], [], [], [], []⟩, ⟨[], [], [], [], [], [], []⟩] [false] [] [] [] [(decide (v5 < ((a0.length : Nat) : Int))) = true, (decide (v5 < ((a1.length : Nat) : Int))) = false] (by kernel_rfl) rfl ⟨h2, h3, trivial⟩
    · replace hf := Option.some.inj hf
      subst hf
      exact toEnd_good allOk 8 _ _ [⟨[], [(4, false)], [], [], [], [], []⟩, ⟨[], [], [], [], [], [], []⟩] [false] [] [] [] [(decide (v5 < ((a0.length : Nat) : Int))) = false, false = false] (by kernel_rfl) rfl ⟨h2, rfl, trivial⟩

/-- doorman/doormansame.Book -/
def g_doormansame_Book (a0 : (List T_api_Entry)) (a1 : (List T_api_Entry)) : Option Bool :=
  bif (((a0.length : Nat) : Int) != ((a1.length : Nat) : Int)) then
    some false
  else
    g_doormansame_Book_c0 a0 a1  ((((a1.length : Nat) : Int) - (0 : Int)).toNat + 2) (0 : Int)

theorem g_doormansame_Book_ok (a0 : (List T_api_Entry)) (a1 : (List T_api_Entry)) (r : Bool) (hf : g_doormansame_Book a0 a1 = some r) : SCall Try.prog 29 [.one (cL 7 T_api_Entry.c T_api_Entry.d a0), .one (cL 7 T_api_Entry.c T_api_Entry.d a1)] (.one (.lit (.bool r))) := by
  refine SCall.of Try.func29 rfl rfl rfl rfl fun S0 w0 => ?_
  unfold g_doormansame_Book at hf
  rcases br_some hf with ⟨h1, hf⟩ | ⟨h1, hf⟩
  · replace hf := Option.some.inj hf
    subst hf
    exact toEnd_good allOk 8 _ _ [⟨[], [], [], [], [], [], []⟩, ⟨[], [], [], [], [], [], []⟩, ⟨[], [], [], [], [], [], []⟩] [true] [] [] [] [(((a0.length : Nat) : Int) != ((a1.length : Nat) : Int)) = true] (by kernel_rfl) rfl ⟨h1, trivial⟩
  · exact toK_good allOk Post.ends 11 _ _ _ _ [⟨[], [], [], [], [], [], []⟩, ⟨[], [], [], [], [], [], []⟩, ⟨[], [], [], [], [], [], []⟩] [false] ⟨[], [], [], [], [], [0, 1, 5], [], []⟩ [(((a0.length : Nat) : Int) != ((a1.length : Nat) : Int)) = false] (by kernel_rfl) ⟨h1, trivial⟩ (g_doormansame_Book_c0_ok S0 w0 a0 a1   ((((a1.length : Nat) : Int) - (0 : Int)).toNat + 2) (0 : Int) r hf)

/-- doorman/doormanlaw26.BookDowns -/
def g_doormanlaw26_BookDowns (a0 : (List T_api_Entry)) (a1 : (List T_api_End)) : Option Bool :=
  bif (decide (((a0.length : Nat) : Int) > (60 : Int))) then
    (g_doormanlaw26_awake).bind fun x1 =>
    some x1
  else
    bif (decide (((a1.length : Nat) : Int) > (60 : Int))) then
      (g_doormanlaw26_awake).bind fun x2 =>
      some x2
    else
      (g_book_Down a0 a1).bind fun x3 =>
      (g_doormanref26_Down a0 a1).bind fun x4 =>
      (g_doormansame_Book x3 x4).bind fun x5 =>
      bif x5 then
        (g_doormanlaw26_awake).bind fun x6 =>
        some x6
      else
        some false

theorem g_doormanlaw26_BookDowns_ok (a0 : (List T_api_Entry)) (a1 : (List T_api_End)) (r : Bool) (hf : g_doormanlaw26_BookDowns a0 a1 = some r) : SCall Try.prog 6 [.one (cL 7 T_api_Entry.c T_api_Entry.d a0), .one (cL 4 T_api_End.c T_api_End.d a1)] (.one (.lit (.bool r))) := by
  refine SCall.of Try.func6 rfl rfl rfl rfl fun S0 w0 => ?_
  unfold g_doormanlaw26_BookDowns at hf
  rcases br_some hf with ⟨h1, hf⟩ | ⟨h1, hf⟩
  · obtain ⟨x1, q2, hf⟩ := bind_some' hf
    replace hf := Option.some.inj hf
    subst hf
    exact toEnd_good allOk 8 _ _ [⟨[], [], [], [], [], [], []⟩, ⟨[], [(3, true)], [], [], [], [], []⟩, ⟨[(0, .r (.one (.lit (.bool x1))) [])], [], [], [], [], [], []⟩] [true] [] [] [] [(decide (((a0.length : Nat) : Int) > (60 : Int))) = true, true = true, SCall Try.prog 28 [] (.one (.lit (.bool x1)))] (by kernel_rfl) rfl ⟨h1, rfl, (g_doormanlaw26_awake_ok  x1 q2), trivial⟩
  · rcases br_some hf with ⟨h3, hf⟩ | ⟨h3, hf⟩
    · obtain ⟨x2, q4, hf⟩ := bind_some' hf
      replace hf := Option.some.inj hf
      subst hf
      exact toEnd_good allOk 8 _ _ [⟨[], [], [], [], [], [], []⟩, ⟨[], [(3, false)], [], [], [], [], []⟩, ⟨[(0, .r (.one (.lit (.bool x2))) [])], [], [], [], [], [], []⟩] [true] [] [] [] [(decide (((a0.length : Nat) : Int) > (60 : Int))) = false, (decide (((a1.length : Nat) : Int) > (60 : Int))) = true, SCall Try.prog 28 [] (.one (.lit (.bool x2)))] (by kernel_rfl) rfl ⟨h1, h3, (g_doormanlaw26_awake_ok  x2 q4), trivial⟩
    · obtain ⟨x3, q5, hf⟩ := bind_some' hf
      obtain ⟨x4, q6, hf⟩ := bind_some' hf
      obtain ⟨x5, q7, hf⟩ := bind_some' hf
      rcases br_some hf with ⟨h8, hf⟩ | ⟨h8, hf⟩
      · obtain ⟨x6, q9, hf⟩ := bind_some' hf
        replace hf := Option.some.inj hf
        subst hf
        exact toEnd_good allOk 9 _ _ [⟨[], [], [], [], [], [], []⟩, ⟨[], [(3, false)], [], [], [], [], []⟩, ⟨[(2, .r (.one (cL 7 T_api_Entry.c T_api_Entry.d x3)) []), (5, .r (.one (cL 7 T_api_Entry.c T_api_Entry.d x4)) []), (6, .r (.one (.lit (.bool x5))) []), (8, .r (.one (.lit (.bool x6))) [])], [(7, true)], [], [], [], [], []⟩] [false] [] [] [] [(decide (((a0.length : Nat) : Int) > (60 : Int))) = false, (decide (((a1.length : Nat) : Int) > (60 : Int))) = false, SCall Try.prog 30 [.one (cL 7 T_api_Entry.c T_api_Entry.d a0), .one (cL 4 T_api_End.c T_api_End.d a1)] (.one (cL 7 T_api_Entry.c T_api_Entry.d x3)), SCall Try.prog 31 [.one (cL 7 T_api_Entry.c T_api_Entry.d a0), .one (cL 4 T_api_End.c T_api_End.d a1)] (.one (cL 7 T_api_Entry.c T_api_Entry.d x4)), SCall Try.prog 29 [.one (cL 7 T_api_Entry.c T_api_Entry.d x3), .one (cL 7 T_api_Entry.c T_api_Entry.d x4)] (.one (.lit (.bool x5))), x5 = true, SCall Try.prog 28 [] (.one (.lit (.bool x6)))] (by kernel_rfl) rfl ⟨h1, h3, (g_book_Down_ok a0 a1 x3 q5), (g_doormanref26_Down_ok a0 a1 x4 q6), (g_doormansame_Book_ok x3 x4 x5 q7), h8, (g_doormanlaw26_awake_ok  x6 q9), trivial⟩
      · replace hf := Option.some.inj hf
        subst hf
        exact toEnd_good allOk 9 _ _ [⟨[], [], [], [], [], [], []⟩, ⟨[], [(3, false)], [], [], [], [], []⟩, ⟨[(2, .r (.one (cL 7 T_api_Entry.c T_api_Entry.d x3)) []), (5, .r (.one (cL 7 T_api_Entry.c T_api_Entry.d x4)) []), (6, .r (.one (.lit (.bool x5))) [])], [(7, false)], [], [], [], [], []⟩] [false] [] [] [] [(decide (((a0.length : Nat) : Int) > (60 : Int))) = false, (decide (((a1.length : Nat) : Int) > (60 : Int))) = false, SCall Try.prog 30 [.one (cL 7 T_api_Entry.c T_api_Entry.d a0), .one (cL 4 T_api_End.c T_api_End.d a1)] (.one (cL 7 T_api_Entry.c T_api_Entry.d x3)), SCall Try.prog 31 [.one (cL 7 T_api_Entry.c T_api_Entry.d a0), .one (cL 4 T_api_End.c T_api_End.d a1)] (.one (cL 7 T_api_Entry.c T_api_Entry.d x4)), SCall Try.prog 29 [.one (cL 7 T_api_Entry.c T_api_Entry.d x3), .one (cL 7 T_api_Entry.c T_api_Entry.d x4)] (.one (.lit (.bool x5))), x5 = false] (by kernel_rfl) rfl ⟨h1, h3, (g_book_Down_ok a0 a1 x3 q5), (g_doormanref26_Down_ok a0 a1 x4 q6), (g_doormansame_Book_ok x3 x4 x5 q7), h8, trivial⟩

/-- doorman/doormanref06.Right -/
def g_doormanref06_Right (a0 : T_api_Addr) : Option Bool :=
  bif (!a0.fV6) then
    bif (a0.fHi == (0 : Int)) then
      some (decide (a0.fLo < (4294967296 : Int)))
    else
      some false
  else
    bif (a0.fHi != (0 : Int)) then
      some true
    else
      some ((IntKind.wrap .u64 (Int.tdiv a0.fLo (4294967296 : Int))) != (65535 : Int))

theorem g_doormanref06_Right_ok (a0 : T_api_Addr) (r : Bool) (hf : g_doormanref06_Right a0 = some r) : SCall Try.prog 114 [.agg (T_api_Addr.c a0)] (.one (.lit (.bool r))) := by
  refine SCall.of Try.func114 rfl rfl rfl rfl fun S0 w0 => ?_
  unfold g_doormanref06_Right at hf
  rcases br_some hf with ⟨h1, hf⟩ | ⟨h1, hf⟩
  · rcases br_some hf with ⟨h2, hf⟩ | ⟨h2, hf⟩
    · replace hf := Option.some.inj hf
      subst hf
      exact toEnd_good allOk 8 _ _ [⟨[], [], [], [], [], [], []⟩, ⟨[], [], [], [], [], [], []⟩, ⟨[], [(3, true)], [], [], [], [], []⟩] [true] [] [] [] [(!a0.fV6) = true, (a0.fHi == (0 : Int)) = true] (by kernel_rfl) rfl ⟨h1, h2, trivial⟩
    · replace hf := Option.some.inj hf
      subst hf
      exact toEnd_good allOk 8 _ _ [⟨[], [], [], [], [], [], []⟩, ⟨[], [], [], [], [], [], []⟩, ⟨[], [(3, false)], [], [], [], [], []⟩] [true] [] [] [] [(!a0.fV6) = true, (a0.fHi == (0 : Int)) = false] (by kernel_rfl) rfl ⟨h1, h2, trivial⟩
  · rcases br_some hf with ⟨h3, hf⟩ | ⟨h3, hf⟩
    · replace hf := Option.some.inj hf
      subst hf
      exact toEnd_good allOk 9 _ _ [⟨[], [], [], [], [], [], []⟩, ⟨[], [], [], [], [], [], []⟩, ⟨[], [(3, true)], [], [], [], [], []⟩] [false] [] [] [] [(!a0.fV6) = false, (a0.fHi != (0 : Int)) = true] (by kernel_rfl) rfl ⟨h1, h3, trivial⟩
    · replace hf := Option.some.inj hf
      subst hf
      exact toEnd_good allOk 9 _ _ [⟨[], [], [], [], [], [], []⟩, ⟨[], [], [], [], [], [], []⟩, ⟨[], [(3, false)], [], [], [], [], []⟩] [false] [] [] [] [(!a0.fV6) = false, (a0.fHi != (0 : Int)) = false, (4294967296 : Int) ≠ 0] (by kernel_rfl) rfl ⟨h1, h3, (by decide), trivial⟩

/-- doorman/doormanref09.Right -/
def g_doormanref09_Right (a0 : T_api_End) : Option Bool :=
  (g_doormanref06_Right a0.fAddr).bind fun x1 =>
  bif x1 then
    bif (decide (a0.fPort > (0 : Int))) then
      some (decide (a0.fPort < (65536 : Int)))
    else
      some false
  else
    some false

theorem g_doormanref09_Right_ok (a0 : T_api_End) (r : Bool) (hf : g_doormanref09_Right a0 = some r) : SCall Try.prog 94 [.agg (T_api_End.c a0)] (.one (.lit (.bool r))) := by
  refine SCall.of Try.func94 rfl rfl rfl rfl fun S0 w0 => ?_
  unfold g_doormanref09_Right at hf
  obtain ⟨x1, q1, hf⟩ := bind_some' hf
  rcases br_some hf with ⟨h2, hf⟩ | ⟨h2, hf⟩
  · rcases br_some hf with ⟨h3, hf⟩ | ⟨h3, hf⟩
    · replace hf := Option.some.inj hf
      subst hf
      exact toEnd_good allOk 4 _ _ [⟨[], [], [], [], [], [], []⟩, ⟨[(2, .r (.one (.lit (.bool x1))) [])], [(3, true), (8, true)], [], [], [], [], []⟩] [] [] [] [] [SCall Try.prog 114 [.agg (T_api_Addr.c a0.fAddr)] (.one (.lit (.bool x1))), x1 = true, (decide (a0.fPort > (0 : Int))) = true] (by kernel_rfl) rfl ⟨(g_doormanref06_Right_ok a0.fAddr x1 q1), h2, h3, trivial⟩
    · replace hf := Option.some.inj hf
      subst hf
      exact toEnd_good allOk 4 _ _ [⟨[], [], [], [], [], [], []⟩, ⟨[(2, .r (.one (.lit (.bool x1))) [])], [(3, true), (8, false)], [], [], [], [], []⟩] [] [] [] [] [SCall Try.prog 114 [.agg (T_api_Addr.c a0.fAddr)] (.one (.lit (.bool x1))), x1 = true, (decide (a0.fPort > (0 : Int))) = false] (by kernel_rfl) rfl ⟨(g_doormanref06_Right_ok a0.fAddr x1 q1), h2, h3, trivial⟩
  · replace hf := Option.some.inj hf
    subst hf
    exact toEnd_good allOk 4 _ _ [⟨[], [], [], [], [], [], []⟩, ⟨[(2, .r (.one (.lit (.bool x1))) [])], [(3, false)], [], [], [], [], []⟩] [] [] [] [] [SCall Try.prog 114 [.agg (T_api_Addr.c a0.fAddr)] (.one (.lit (.bool x1))), x1 = false] (by kernel_rfl) rfl ⟨(g_doormanref06_Right_ok a0.fAddr x1 q1), h2, trivial⟩

/-- doorman/doormanref25.Right -/
def g_doormanref25_Right (a0 : T_api_Entry) : Option Bool :=
  (g_doormanref09_Right a0.fEnd).bind fun x1 =>
  bif x1 then
    bif (decide (a0.fState ≥ (1 : Int))) then
      bif (decide (a0.fState ≤ (3 : Int))) then
        bif (decide (a0.fFails ≥ (0 : Int))) then
          bif (decide (a0.fFails ≤ (1000 : Int))) then
            bif (decide (a0.fNext ≥ (0 : Int))) then
              some (decide (a0.fNext ≤ (1099511627776 : Int)))
            else
              some false
          else
            some false
        else
          some false
      else
        some false
    else
      some false
  else
    some false

theorem g_doormanref25_Right_ok (a0 : T_api_Entry) (r : Bool) (hf : g_doormanref25_Right a0 = some r) : SCall Try.prog 42 [.agg (T_api_Entry.c a0)] (.one (.lit (.bool r))) := by
  refine SCall.of Try.func42 rfl rfl rfl rfl fun S0 w0 => ?_
  unfold g_doormanref25_Right at hf
  obtain ⟨x1, q1, hf⟩ := bind_some' hf
  rcases br_some hf with ⟨h2, hf⟩ | ⟨h2, hf⟩
  · rcases br_some hf with ⟨h3, hf⟩ | ⟨h3, hf⟩
    · rcases br_some hf with ⟨h4, hf⟩ | ⟨h4, hf⟩
      · rcases br_some hf with ⟨h5, hf⟩ | ⟨h5, hf⟩
        · rcases br_some hf with ⟨h6, hf⟩ | ⟨h6, hf⟩
          · rcases br_some hf with ⟨h7, hf⟩ | ⟨h7, hf⟩
            · replace hf := Option.some.inj hf
              subst hf
              exact toEnd_good allOk 4 _ _ [⟨[], [], [], [], [], [], []⟩, ⟨[(2, .r (.one (.lit (.bool x1))) [])], [(3, true), (8, true), (13, true), (18, true), (23, true), (28, true)], [], [], [], [], []⟩] [] [] [] [] [SCall Try.prog 94 [.agg (T_api_End.c a0.fEnd)] (.one (.lit (.bool x1))), x1 = true, (decide (a0.fState ≥ (1 : Int))) = true, (decide (a0.fState ≤ (3 : Int))) = true, (decide (a0.fFails ≥ (0 : Int))) = true, (decide (a0.fFails ≤ (1000 : Int))) = true, (decide (a0.fNext ≥ (0 : Int))) = true] (by kernel_rfl) rfl ⟨(g_doormanref09_Right_ok a0.fEnd x1 q1), h2, h3, h4, h5, h6, h7, trivial⟩
            · replace hf := Option.some.inj hf
              subst hf
              exact toEnd_good allOk 4 _ _ [⟨[], [], [], [], [], [], []⟩, ⟨[(2, .r (.one (.lit (.bool x1))) [])], [(3, true), (8, true), (13, true), (18, true), (23, true), (28, false)], [], [], [], [], []⟩] [] [] [] [] [SCall Try.prog 94 [.agg (T_api_End.c a0.fEnd)] (.one (.lit (.bool x1))), x1 = true, (decide (a0.fState ≥ (1 : Int))) = true, (decide (a0.fState ≤ (3 : Int))) = true, (decide (a0.fFails ≥ (0 : Int))) = true, (decide (a0.fFails ≤ (1000 : Int))) = true, (decide (a0.fNext ≥ (0 : Int))) = false] (by kernel_rfl) rfl ⟨(g_doormanref09_Right_ok a0.fEnd x1 q1), h2, h3, h4, h5, h6, h7, trivial⟩
          · replace hf := Option.some.inj hf
            subst hf
            exact toEnd_good allOk 4 _ _ [⟨[], [], [], [], [], [], []⟩, ⟨[(2, .r (.one (.lit (.bool x1))) [])], [(3, true), (8, true), (13, true), (18, true), (23, false)], [], [], [], [], []⟩] [] [] [] [] [SCall Try.prog 94 [.agg (T_api_End.c a0.fEnd)] (.one (.lit (.bool x1))), x1 = true, (decide (a0.fState ≥ (1 : Int))) = true, (decide (a0.fState ≤ (3 : Int))) = true, (decide (a0.fFails ≥ (0 : Int))) = true, (decide (a0.fFails ≤ (1000 : Int))) = false] (by kernel_rfl) rfl ⟨(g_doormanref09_Right_ok a0.fEnd x1 q1), h2, h3, h4, h5, h6, trivial⟩
        · replace hf := Option.some.inj hf
          subst hf
          exact toEnd_good allOk 4 _ _ [⟨[], [], [], [], [], [], []⟩, ⟨[(2, .r (.one (.lit (.bool x1))) [])], [(3, true), (8, true), (13, true), (18, false)], [], [], [], [], []⟩] [] [] [] [] [SCall Try.prog 94 [.agg (T_api_End.c a0.fEnd)] (.one (.lit (.bool x1))), x1 = true, (decide (a0.fState ≥ (1 : Int))) = true, (decide (a0.fState ≤ (3 : Int))) = true, (decide (a0.fFails ≥ (0 : Int))) = false] (by kernel_rfl) rfl ⟨(g_doormanref09_Right_ok a0.fEnd x1 q1), h2, h3, h4, h5, trivial⟩
      · replace hf := Option.some.inj hf
        subst hf
        exact toEnd_good allOk 4 _ _ [⟨[], [], [], [], [], [], []⟩, ⟨[(2, .r (.one (.lit (.bool x1))) [])], [(3, true), (8, true), (13, false)], [], [], [], [], []⟩] [] [] [] [] [SCall Try.prog 94 [.agg (T_api_End.c a0.fEnd)] (.one (.lit (.bool x1))), x1 = true, (decide (a0.fState ≥ (1 : Int))) = true, (decide (a0.fState ≤ (3 : Int))) = false] (by kernel_rfl) rfl ⟨(g_doormanref09_Right_ok a0.fEnd x1 q1), h2, h3, h4, trivial⟩
    · replace hf := Option.some.inj hf
      subst hf
      exact toEnd_good allOk 4 _ _ [⟨[], [], [], [], [], [], []⟩, ⟨[(2, .r (.one (.lit (.bool x1))) [])], [(3, true), (8, false)], [], [], [], [], []⟩] [] [] [] [] [SCall Try.prog 94 [.agg (T_api_End.c a0.fEnd)] (.one (.lit (.bool x1))), x1 = true, (decide (a0.fState ≥ (1 : Int))) = false] (by kernel_rfl) rfl ⟨(g_doormanref09_Right_ok a0.fEnd x1 q1), h2, h3, trivial⟩
  · replace hf := Option.some.inj hf
    subst hf
    exact toEnd_good allOk 4 _ _ [⟨[], [], [], [], [], [], []⟩, ⟨[(2, .r (.one (.lit (.bool x1))) [])], [(3, false)], [], [], [], [], []⟩] [] [] [] [] [SCall Try.prog 94 [.agg (T_api_End.c a0.fEnd)] (.one (.lit (.bool x1))), x1 = false] (by kernel_rfl) rfl ⟨(g_doormanref09_Right_ok a0.fEnd x1 q1), h2, trivial⟩

def g_doormanref26_Find_c0 (a0 : (List T_api_Entry))  : Nat → Int → T_api_End → Option Int
  | 0, _, _ => none
  | fu + 1, v5, b3 =>
    bif (decide (v5 < ((a0.length : Nat) : Int))) then
      need (0 ≤ v5 ∧ v5 < ((a0.length : Nat) : Int)) <|
      bif (decide ((a0.getD v5.toNat T_api_Entry.d).fEnd = b3)) then
        some v5
      else
        g_doormanref26_Find_c0 a0  fu (add64 v5 (1 : Int)) b3
    else
      some (-1 : Int)

theorem g_doormanref26_Find_c0_ok (S0 : Nat → Prop) (w0 : Start) (a0 : (List T_api_Entry))  : ∀ (fu : Nat) (v5 : Int) (b3 : T_api_End) (r : Int), g_doormanref26_Find_c0 a0  fu v5 b3 = some r → Good Try.prog 20 S0 w0 (bodyPost Try.prog Try.f37 (Post S0 w0 (.one (.lit (.int .i64 r))))) (at_ [1, 0, 1, 0] (bodyOf Try.f37)) ⟨[(0, .one (cL 7 T_api_Entry.c T_api_Entry.d a0)), (3, .one (.ptr 3 0)), (5, .one (.lit (.int .i64 v5)))], [(3, .box [.lit (.bool b3.fAddr.fV6), .lit (.int .u64 b3.fAddr.fHi), .lit (.int .u64 b3.fAddr.fLo), .lit (.int .i64 b3.fPort)])]⟩ := by
  intro fu
  induction fu with
  | zero =>
    intro v5 b3 r hf
    simp [g_doormanref26_Find_c0] at hf
  | succ fu ih =>
    intro v5 b3 r hf
    unfold g_doormanref26_Find_c0 at hf
    rcases br_some hf with ⟨h1, hf⟩ | ⟨h1, hf⟩
    · obtain ⟨o2, hf⟩ := need_some hf
      rcases br_some hf with ⟨h3, hf⟩ | ⟨h3, hf⟩
      · replace hf := Option.some.inj hf
        subst hf
        exact toEnd_good allOk 13 _ _ [⟨[], [], [], [], [], [], []⟩, ⟨[(6, .r (.one (.lit (.bool (decide ((a0.getD v5.toNat T_api_Entry.d).fEnd = b3))))) [])], [], [], [[], [], [0, 1], [2, 0, 1], [3, 2, 0, 1], [], [4, 3, 2, 0, 1, 5]], [], [], []⟩, ⟨[], [], [], [], [], [], []⟩] [true, true] [] [] [] [(decide (v5 < ((a0.length : Nat) : Int))) = true, 0 ≤ v5 ∧ v5 < ((a0.length : Nat) : Int), ∀ w, (do eqGuard .eql 58 (.tmp 16) (.tmp 17) (.agg #[.bool ((((a0.getD v5.toNat T_api_Entry.d).fEnd).fAddr).fV6), .int .u64 ((((a0.getD v5.toNat T_api_Entry.d).fEnd).fAddr).fHi), .int .u64 ((((a0.getD v5.toNat T_api_Entry.d).fEnd).fAddr).fLo), .int .i64 (((a0.getD v5.toNat T_api_Entry.d).fEnd).fPort)]) (.agg #[.bool b3.fAddr.fV6, .int .u64 b3.fAddr.fHi, .int .u64 b3.fAddr.fLo, .int .i64 b3.fPort]); binOp .eql 58 (.agg #[.bool ((((a0.getD v5.toNat T_api_Entry.d).fEnd).fAddr).fV6), .int .u64 ((((a0.getD v5.toNat T_api_Entry.d).fEnd).fAddr).fHi), .int .u64 ((((a0.getD v5.toNat T_api_Entry.d).fEnd).fAddr).fLo), .int .i64 (((a0.getD v5.toNat T_api_Entry.d).fEnd).fPort)]) (.agg #[.bool b3.fAddr.fV6, .int .u64 b3.fAddr.fHi, .int .u64 b3.fAddr.fLo, .int .i64 b3.fPort]) : Sem Value).run Try.prog w = .ok (.bool (decide ((a0.getD v5.toNat T_api_Entry.d).fEnd = b3))) w, (decide ((a0.getD v5.toNat T_api_Entry.d).fEnd = b3)) = true] (by kernel_rfl) rfl ⟨h1, o2, (eql_T_api_End ((a0.getD v5.toNat T_api_Entry.d).fEnd) b3 _ _), h3, trivial⟩
      · exact toK_good allOk Post.ends 15 _ _ _ _ [⟨[], [], [], [], [], [], []⟩, ⟨[(6, .r (.one (.lit (.bool (decide ((a0.getD v5.toNat T_api_Entry.d).fEnd = b3))))) [])], [], [], [[], [], [0, 1], [2, 0, 1], [3, 2, 0, 1], [], [4, 3, 2, 0, 1, 5]], [], [], []⟩, ⟨[], [], [], [], [], [], []⟩] [true, false] ⟨[], [], [], [], [], [0, 3, 5], [3], []⟩ [(decide (v5 < ((a0.length : Nat) : Int))) = true, 0 ≤ v5 ∧ v5 < ((a0.length : Nat) : Int), ∀ w, (do eqGuard .eql 58 (.tmp 16) (.tmp 17) (.agg #[.bool ((((a0.getD v5.toNat T_api_Entry.d).fEnd).fAddr).fV6), .int .u64 ((((a0.getD v5.toNat T_api_Entry.d).fEnd).fAddr).fHi), .int .u64 ((((a0.getD v5.toNat T_api_Entry.d).fEnd).fAddr).fLo), .int .i64 (((a0.getD v5.toNat T_api_Entry.d).fEnd).fPort)]) (.agg #[.bool b3.fAddr.fV6, .int .u64 b3.fAddr.fHi, .int .u64 b3.fAddr.fLo, .int .i64 b3.fPort]); binOp .eql 58 (.agg #[.bool ((((a0.getD v5.toNat T_api_Entry.d).fEnd).fAddr).fV6), .int .u64 ((((a0.getD v5.toNat T_api_Entry.d).fEnd).fAddr).fHi), .int .u64 ((((a0.getD v5.toNat T_api_Entry.d).fEnd).fAddr).fLo), .int .i64 (((a0.getD v5.toNat T_api_Entry.d).fEnd).fPort)]) (.agg #[.bool b3.fAddr.fV6, .int .u64 b3.fAddr.fHi, .int .u64 b3.fAddr.fLo, .int .i64 b3.fPort]) : Sem Value).run Try.prog w = .ok (.bool (decide ((a0.getD v5.toNat T_api_Entry.d).fEnd = b3))) w, (decide ((a0.getD v5.toNat T_api_Entry.d).fEnd = b3)) = false] (by kernel_rfl) ⟨h1, o2, (eql_T_api_End ((a0.getD v5.toNat T_api_Entry.d).fEnd) b3 _ _), h3, trivial⟩ (ih (add64 v5 (1 : Int)) b3 r hf)
    · replace hf := Option.some.inj hf
      subst hf
      exact toEnd_good allOk 8 _ _ [⟨[], [], [], [], [], [], []⟩, ⟨[], [], [], [], [], [], []⟩] [false] [] [] [] [(decide (v5 < ((a0.length : Nat) : Int))) = false] (by kernel_rfl) rfl ⟨h1, trivial⟩

/-- doorman/doormanref26.Find -/
def g_doormanref26_Find (a0 : (List T_api_Entry)) (a1 : T_api_End) : Option Int :=
  g_doormanref26_Find_c0 a0  ((((a0.length : Nat) : Int) - (0 : Int)).toNat + 2) (0 : Int) a1

theorem g_doormanref26_Find_ok (a0 : (List T_api_Entry)) (a1 : T_api_End) (r : Int) (hf : g_doormanref26_Find a0 a1 = some r) : SCall Try.prog 37 [.one (cL 7 T_api_Entry.c T_api_Entry.d a0), .agg (T_api_End.c a1)] (.one (.lit (.int .i64 r))) := by
  refine SCall.of Try.func37 rfl rfl rfl rfl fun S0 w0 => ?_
  unfold g_doormanref26_Find at hf
  exact toK_good allOk Post.ends 6 _ _ _ _ [⟨[], [], [], [], [], [], []⟩, ⟨[], [], [], [], [], [], []⟩] [] ⟨[], [], [], [], [], [0, 3, 5], [3], []⟩ [] (by kernel_rfl) trivial (g_doormanref26_Find_c0_ok S0 w0 a0   ((((a0.length : Nat) : Int) - (0 : Int)).toNat + 2) (0 : Int) a1 r hf)

def g_doormanref06_Compare_c1   (v5 : Bool) : Option Int :=
  bif v5 then
    some (-1 : Int)
  else
    some (1 : Int)

theorem g_doormanref06_Compare_c1_ok (S0 : Nat → Prop) (w0 : Start)   (v5 : Bool) (r : Int) (hf : g_doormanref06_Compare_c1   v5 = some r) : Good Try.prog 33 S0 w0 (bodyPost Try.prog Try.f125 (Post S0 w0 (.one (.lit (.int .i64 r))))) (at_ [1, 1, 1, 1, 1] (bodyOf Try.f125)) ⟨[(5, .one (.lit (.bool v5)))], []⟩ := by
  unfold g_doormanref06_Compare_c1 at hf
  rcases br_some hf with ⟨h4, hf⟩ | ⟨h4, hf⟩
  · replace hf := Option.some.inj hf
    subst hf
    exact toEnd_good allOk 6 _ _ [⟨[], [], [], [], [], [], []⟩, ⟨[], [], [], [], [], [], []⟩] [true] [] [] [] [v5 = true] (by kernel_rfl) rfl ⟨h4, trivial⟩
  · replace hf := Option.some.inj hf
    subst hf
    exact toEnd_good allOk 7 _ _ [⟨[], [], [], [], [], [], []⟩, ⟨[], [], [], [], [], [], []⟩] [false] [] [] [] [v5 = false] (by kernel_rfl) rfl ⟨h4, trivial⟩

def g_doormanref06_Compare_c0   (v5 : Bool) (b2 : T_api_Addr) (b3 : T_api_Addr) : Option Int :=
  bif (!(b2.fV6 == b3.fV6)) then
    g_doormanref06_Compare_c1   (!b2.fV6)
  else
    g_doormanref06_Compare_c1   v5

theorem g_doormanref06_Compare_c0_ok (S0 : Nat → Prop) (w0 : Start)   (v5 : Bool) (b2 : T_api_Addr) (b3 : T_api_Addr) (r : Int) (hf : g_doormanref06_Compare_c0   v5 b2 b3 = some r) : Good Try.prog 33 S0 w0 (bodyPost Try.prog Try.f125 (Post S0 w0 (.one (.lit (.int .i64 r))))) (at_ [1, 1, 1, 1] (bodyOf Try.f125)) ⟨[(2, .one (.ptr 2 0)), (3, .one (.ptr 3 0)), (5, .one (.lit (.bool v5)))], [(2, .box [.lit (.bool b2.fV6), .lit (.int .u64 b2.fHi), .lit (.int .u64 b2.fLo)]), (3, .box [.lit (.bool b3.fV6), .lit (.int .u64 b3.fHi), .lit (.int .u64 b3.fLo)])]⟩ := by
  unfold g_doormanref06_Compare_c0 at hf
  rcases br_some hf with ⟨h3, hf⟩ | ⟨h3, hf⟩
  · exact toK_good allOk Post.ends 5 _ _ _ _ [⟨[], [], [], [], [], [], []⟩, ⟨[], [], [], [], [], [], []⟩] [true] ⟨[], [], [], [], [], [5], [], []⟩ [(!(b2.fV6 == b3.fV6)) = true] (by kernel_rfl) ⟨h3, trivial⟩ (g_doormanref06_Compare_c1_ok S0 w0    (!b2.fV6) r hf)
  · exact toK_good allOk Post.ends 5 _ _ _ _ [⟨[], [], [], [], [], [], []⟩] [false] ⟨[], [], [], [], [], [5], [], []⟩ [(!(b2.fV6 == b3.fV6)) = false] (by kernel_rfl) ⟨h3, trivial⟩ (g_doormanref06_Compare_c1_ok S0 w0    v5 r hf)

/-- doorman/doormanref06.Compare -/
def g_doormanref06_Compare (a0 : T_api_Addr) (a1 : T_api_Addr) : Option Int :=
  bif (decide (a0 = a1)) then
    some (0 : Int)
  else
    bif (a0.fHi != a1.fHi) then
      g_doormanref06_Compare_c0   (decide (a0.fHi < a1.fHi)) a0 a1
    else
      g_doormanref06_Compare_c0   (decide (a0.fLo < a1.fLo)) a0 a1

theorem g_doormanref06_Compare_ok (a0 : T_api_Addr) (a1 : T_api_Addr) (r : Int) (hf : g_doormanref06_Compare a0 a1 = some r) : SCall Try.prog 125 [.agg (T_api_Addr.c a0), .agg (T_api_Addr.c a1)] (.one (.lit (.int .i64 r))) := by
  refine SCall.of Try.func125 rfl rfl rfl rfl fun S0 w0 => ?_
  unfold g_doormanref06_Compare at hf
  rcases br_some hf with ⟨h1, hf⟩ | ⟨h1, hf⟩
  · replace hf := Option.some.inj hf
    subst hf
    exact toEnd_good allOk 8 _ _ [⟨[], [], [], [], [], [], []⟩, ⟨[(2, .r (.one (.lit (.bool (decide (a0 = a1))))) [])], [], [], [], [], [], []⟩, ⟨[], [], [], [], [], [], []⟩] [true] [] [] [] [∀ w, (do eqGuard .eql 25 (.tmp 6) (.tmp 7) (.agg #[.bool a0.fV6, .int .u64 a0.fHi, .int .u64 a0.fLo]) (.agg #[.bool a1.fV6, .int .u64 a1.fHi, .int .u64 a1.fLo]); binOp .eql 25 (.agg #[.bool a0.fV6, .int .u64 a0.fHi, .int .u64 a0.fLo]) (.agg #[.bool a1.fV6, .int .u64 a1.fHi, .int .u64 a1.fLo]) : Sem Value).run Try.prog w = .ok (.bool (decide (a0 = a1))) w, (decide (a0 = a1)) = true] (by kernel_rfl) rfl ⟨(eql_T_api_Addr a0 a1 _ _), h1, trivial⟩
  · rcases br_some hf with ⟨h2, hf⟩ | ⟨h2, hf⟩
    · exact toK_good allOk Post.ends 14 _ _ _ _ [⟨[], [], [], [], [], [], []⟩, ⟨[(2, .r (.one (.lit (.bool (decide (a0 = a1))))) [])], [], [], [], [], [], []⟩, ⟨[], [], [], [], [], [], []⟩, ⟨[], [], [], [], [], [], []⟩, ⟨[], [], [], [], [], [], []⟩] [false, true] ⟨[], [], [], [], [], [2, 3, 5], [2, 3], []⟩ [∀ w, (do eqGuard .eql 25 (.tmp 6) (.tmp 7) (.agg #[.bool a0.fV6, .int .u64 a0.fHi, .int .u64 a0.fLo]) (.agg #[.bool a1.fV6, .int .u64 a1.fHi, .int .u64 a1.fLo]); binOp .eql 25 (.agg #[.bool a0.fV6, .int .u64 a0.fHi, .int .u64 a0.fLo]) (.agg #[.bool a1.fV6, .int .u64 a1.fHi, .int .u64 a1.fLo]) : Sem Value).run Try.prog w = .ok (.bool (decide (a0 = a1))) w, (decide (a0 = a1)) = false, (a0.fHi != a1.fHi) = true] (by kernel_rfl) ⟨(eql_T_api_Addr a0 a1 _ _), h1, h2, trivial⟩ (g_doormanref06_Compare_c0_ok S0 w0    (decide (a0.fHi < a1.fHi)) a0 a1 r hf)
    · exact toK_good allOk Post.ends 14 _ _ _ _ [⟨[], [], [], [], [], [], []⟩, ⟨[(2, .r (.one (.lit (.bool (decide (a0 = a1))))) [])], [], [], [], [], [], []⟩, ⟨[], [], [], [], [], [], []⟩, ⟨[], [], [], [], [], [], []⟩] [false, false] ⟨[], [], [], [], [], [2, 3, 5], [2, 3], []⟩ [∀ w, (do eqGuard .eql 25 (.tmp 6) (.tmp 7) (.agg #[.bool a0.fV6, .int .u64 a0.fHi, .int .u64 a0.fLo]) (.agg #[.bool a1.fV6, .int .u64 a1.fHi, .int .u64 a1.fLo]); binOp .eql 25 (.agg #[.bool a0.fV6, .int .u64 a0.fHi, .int .u64 a0.fLo]) (.agg #[.bool a1.fV6, .int .u64 a1.fHi, .int .u64 a1.fLo]) : Sem Value).run Try.prog w = .ok (.bool (decide (a0 = a1))) w, (decide (a0 = a1)) = false, (a0.fHi != a1.fHi) = false] (by kernel_rfl) ⟨(eql_T_api_Addr a0 a1 _ _), h1, h2, trivial⟩ (g_doormanref06_Compare_c0_ok S0 w0    (decide (a0.fLo < a1.fLo)) a0 a1 r hf)

/-- doorman/doormanref09.Compare -/
def g_doormanref09_Compare (a0 : T_api_End) (a1 : T_api_End) : Option Int :=
  (g_doormanref06_Compare a0.fAddr a1.fAddr).bind fun x1 =>
  bif (x1 != (0 : Int)) then
    some x1
  else
    bif (a0.fPort == a1.fPort) then
      some x1
    else
      bif (decide (a0.fPort < a1.fPort)) then
        some (-1 : Int)
      else
        some (1 : Int)

theorem g_doormanref09_Compare_ok (a0 : T_api_End) (a1 : T_api_End) (r : Int) (hf : g_doormanref09_Compare a0 a1 = some r) : SCall Try.prog 92 [.agg (T_api_End.c a0), .agg (T_api_End.c a1)] (.one (.lit (.int .i64 r))) := by
  refine SCall.of Try.func92 rfl rfl rfl rfl fun S0 w0 => ?_
  unfold g_doormanref09_Compare at hf
  obtain ⟨x1, q1, hf⟩ := bind_some' hf
  rcases br_some hf with ⟨h2, hf⟩ | ⟨h2, hf⟩
  · replace hf := Option.some.inj hf
    subst hf
    exact toEnd_good allOk 10 _ _ [⟨[], [], [], [], [], [], []⟩, ⟨[(4, .r (.one (.lit (.int .i64 x1))) [])], [], [], [], [], [], []⟩, ⟨[], [(2, true)], [], [], [], [], []⟩, ⟨[], [], [], [], [], [], []⟩] [true] [] [] [] [SCall Try.prog 125 [.agg (T_api_Addr.c a0.fAddr), .agg (T_api_Addr.c a1.fAddr)] (.one (.lit (.int .i64 x1))), (x1 != (0 : Int)) = true, true = true] (by kernel_rfl) rfl ⟨(g_doormanref06_Compare_ok a0.fAddr a1.fAddr x1 q1), h2, rfl, trivial⟩
  · rcases br_some hf with ⟨h3, hf⟩ | ⟨h3, hf⟩
    · replace hf := Option.some.inj hf
      subst hf
      exact toEnd_good allOk 10 _ _ [⟨[], [], [], [], [], [], []⟩, ⟨[(4, .r (.one (.lit (.int .i64 x1))) [])], [], [], [], [], [], []⟩, ⟨[], [(2, false)], [], [], [], [], []⟩, ⟨[], [], [], [], [], [], []⟩] [true] [] [] [] [SCall Try.prog 125 [.agg (T_api_Addr.c a0.fAddr), .agg (T_api_Addr.c a1.fAddr)] (.one (.lit (.int .i64 x1))), (x1 != (0 : Int)) = false, (a0.fPort == a1.fPort) = true] (by kernel_rfl) rfl ⟨(g_doormanref06_Compare_ok a0.fAddr a1.fAddr x1 q1), h2, h3, trivial⟩
    · rcases br_some hf with ⟨h4, hf⟩ | ⟨h4, hf⟩
      · replace hf := Option.some.inj hf
        subst hf
        exact toEnd_good allOk 15 _ _ [⟨[], [], [], [], [], [], []⟩, ⟨[(4, .r (.one (.lit (.int .i64 x1))) [])], [], [], [], [], [], []⟩, ⟨[], [(2, false)], [], [], [], [], []⟩, ⟨[], [], [], [], [], [], []⟩, ⟨[], [], [], [], [], [], []⟩] [false, true] [] [] [] [SCall Try.prog 125 [.agg (T_api_Addr.c a0.fAddr), .agg (T_api_Addr.c a1.fAddr)] (.one (.lit (.int .i64 x1))), (x1 != (0 : Int)) = false, (a0.fPort == a1.fPort) = false, (decide (a0.fPort < a1.fPort)) = true] (by kernel_rfl) rfl ⟨(g_doormanref06_Compare_ok a0.fAddr a1.fAddr x1 q1), h2, h3, h4, trivial⟩
      · replace hf := Option.some.inj hf
        subst hf
        exact toEnd_good allOk 16 _ _ [⟨[], [], [], [], [], [], []⟩, ⟨[(4, .r (.one (.lit (.int .i64 x1))) [])], [], [], [], [], [], []⟩, ⟨[], [(2, false)], [], [], [], [], []⟩, ⟨[], [], [], [], [], [], []⟩, ⟨[], [], [], [], [], [], []⟩] [false, false] [] [] [] [SCall Try.prog 125 [.agg (T_api_Addr.c a0.fAddr), .agg (T_api_Addr.c a1.fAddr)] (.one (.lit (.int .i64 x1))), (x1 != (0 : Int)) = false, (a0.fPort == a1.fPort) = false, (decide (a0.fPort < a1.fPort)) = false] (by kernel_rfl) rfl ⟨(g_doormanref06_Compare_ok a0.fAddr a1.fAddr x1 q1), h2, h3, h4, trivial⟩

def g_doormanref26_Add_c0 (a0 : (List T_api_Entry))  : Nat → Int → T_api_Entry → Option ((List T_api_Entry) × Int)
  | 0, _, _ => none
  | fu + 1, v8, b4 =>
    bif (decide (v8 < ((a0.length : Nat) : Int))) then
      need (0 ≤ v8 ∧ v8 < ((a0.length : Nat) : Int)) <|
      (g_doormanref09_Compare ((a0.getD v8.toNat T_api_Entry.d).fEnd) b4.fEnd).bind fun x3 =>
      bif (decide (x3 ≤ (0 : Int))) then
        g_doormanref26_Add_c0 a0  fu (add64 v8 (1 : Int)) b4
      else
        need (0 ≤ v8 ∧ v8 ≤ ((a0.length : Nat) : Int)) <|
        need ((([] : List T_api_Entry) ++ (a0.take v8.toNat)).length * 56 ≤ 140737488355328 ∧ (([] : List T_api_Entry) ++ (a0.take v8.toNat)).length ≤ maxLen) <|
        need (((([] : List T_api_Entry) ++ (a0.take v8.toNat)) ++ ([b4] : List T_api_Entry)).length * 56 ≤ 140737488355328 ∧ ((([] : List T_api_Entry) ++ (a0.take v8.toNat)) ++ ([b4] : List T_api_Entry)).length ≤ maxLen) <|
        need ((((([] : List T_api_Entry) ++ (a0.take v8.toNat)) ++ ([b4] : List T_api_Entry)) ++ (a0.drop v8.toNat)).length * 56 ≤ 140737488355328 ∧ (((([] : List T_api_Entry) ++ (a0.take v8.toNat)) ++ ([b4] : List T_api_Entry)) ++ (a0.drop v8.toNat)).length ≤ maxLen) <|
        some ((((([] : List T_api_Entry) ++ (a0.take v8.toNat)) ++ ([b4] : List T_api_Entry)) ++ (a0.drop v8.toNat)), (0 : Int))
    else
      need (0 ≤ v8 ∧ v8 ≤ ((a0.length : Nat) : Int)) <|
      need ((([] : List T_api_Entry) ++ (a0.take v8.toNat)).length * 56 ≤ 140737488355328 ∧ (([] : List T_api_Entry) ++ (a0.take v8.toNat)).length ≤ maxLen) <|
      need (((([] : List T_api_Entry) ++ (a0.take v8.toNat)) ++ ([b4] : List T_api_Entry)).length * 56 ≤ 140737488355328 ∧ ((([] : List T_api_Entry) ++ (a0.take v8.toNat)) ++ ([b4] : List T_api_Entry)).length ≤ maxLen) <|
      need ((((([] : List T_api_Entry) ++ (a0.take v8.toNat)) ++ ([b4] : List T_api_Entry)) ++ (a0.drop v8.toNat)).length * 56 ≤ 140737488355328 ∧ (((([] : List T_api_Entry) ++ (a0.take v8.toNat)) ++ ([b4] : List T_api_Entry)) ++ (a0.drop v8.toNat)).length ≤ maxLen) <|
      some ((((([] : List T_api_Entry) ++ (a0.take v8.toNat)) ++ ([b4] : List T_api_Entry)) ++ (a0.drop v8.toNat)), (0 : Int))

theorem g_doormanref26_Add_c0_ok (S0 : Nat → Prop) (w0 : Start) (a0 : (List T_api_Entry))  : ∀ (fu : Nat) (v8 : Int) (b4 : T_api_Entry) (r : ((List T_api_Entry) × Int)), g_doormanref26_Add_c0 a0  fu v8 b4 = some r → Good Try.prog 52 S0 w0 (bodyPost Try.prog Try.f33 (Post S0 w0 (.tup [(false, (cLs 7 T_api_Entry.c T_api_Entry.d) r.1), (false, (cI .i64) r.2)]))) (at_ [1, 1, 1, 1, 1, 0, 0] (bodyOf Try.f33)) ⟨[(0, .one (cL 7 T_api_Entry.c T_api_Entry.d a0)), (4, .one (.ptr 4 0)), (8, .one (.lit (.int .i64 v8)))], [(4, .box [.lit (.bool b4.fEnd.fAddr.fV6), .lit (.int .u64 b4.fEnd.fAddr.fHi), .lit (.int .u64 b4.fEnd.fAddr.fLo), .lit (.int .i64 b4.fEnd.fPort), .lit (.int .i64 b4.fState), .lit (.int .i64 b4.fFails), .lit (.int .i64 b4.fNext)])]⟩ := by
  intro fu
  induction fu with
  | zero =>
    intro v8 b4 r hf
    simp [g_doormanref26_Add_c0] at hf
  | succ fu ih =>
    intro v8 b4 r hf
    unfold g_doormanref26_Add_c0 at hf
    rcases br_some hf with ⟨h6, hf⟩ | ⟨h6, hf⟩
    · obtain ⟨o7, hf⟩ := need_some hf
      obtain ⟨x3, q8, hf⟩ := bind_some' hf
      rcases br_some hf with ⟨h9, hf⟩ | ⟨h9, hf⟩
      · exact toK_good allOk Post.ends 10 _ _ _ _ [⟨[(12, .r (.one (.lit (.int .i64 x3))) [])], [(4, true)], [], [[], [], [1], [0, 2, 1], [3, 0, 2, 1], [4, 3, 0, 2, 1], [4, 3, 0, 2, 1], [5, 4, 3, 0, 2, 1, 6], [7, 5, 4, 3, 0, 2, 1, 6], [8, 7, 5, 4, 3, 0, 2, 1, 6], [4, 3, 0, 2, 1], [10, 4, 3, 0, 2, 1], [9, 8, 7, 5, 4, 3, 0, 2, 1, 6, 11, 10], [12, 9, 8, 7, 5, 4, 3, 0, 2, 1, 6, 11, 10], [4, 3, 0, 2, 1, 13, 12, 9, 8, 7, 5, 6, 11, 10]], [], [], []⟩, ⟨[], [], [], [], [], [], []⟩] [true] ⟨[], [], [], [], [], [0, 4, 8], [4], []⟩ [(decide (v8 < ((a0.length : Nat) : Int))) = true, 0 ≤ v8 ∧ v8 < ((a0.length : Nat) : Int), SCall Try.prog 92 [.agg (T_api_End.c ((a0.getD v8.toNat T_api_Entry.d).fEnd)), .agg (T_api_End.c b4.fEnd)] (.one (.lit (.int .i64 x3))), (decide (x3 ≤ (0 : Int))) = true] (by kernel_rfl) ⟨h6, o7, (g_doormanref09_Compare_ok ((a0.getD v8.toNat T_api_Entry.d).fEnd) b4.fEnd x3 q8), h9, trivial⟩ (ih (add64 v8 (1 : Int)) b4 r hf)
      · obtain ⟨o10, hf⟩ := need_some hf
        obtain ⟨o11, hf⟩ := need_some hf
        obtain ⟨o12, hf⟩ := need_some hf
        obtain ⟨o13, hf⟩ := need_some hf
        replace hf := Option.some.inj hf
        subst hf
        exact toEnd_good allOk 10 _ _ [⟨[(12, .r (.one (.lit (.int .i64 x3))) [])], [(4, true)], [], [[], [], [1], [0, 2, 1], [3, 0, 2, 1], [4, 3, 0, 2, 1], [4, 3, 0, 2, 1], [5, 4, 3, 0, 2, 1, 6], [7, 5, 4, 3, 0, 2, 1, 6], [8, 7, 5, 4, 3, 0, 2, 1, 6], [4, 3, 0, 2, 1], [10, 4, 3, 0, 2, 1], [9, 8, 7, 5, 4, 3, 0, 2, 1, 6, 11, 10], [12, 9, 8, 7, 5, 4, 3, 0, 2, 1, 6, 11, 10], [4, 3, 0, 2, 1, 13, 12, 9, 8, 7, 5, 6, 11, 10]], [], [], []⟩, ⟨[(0, .c ([] : List T_api_Entry).length (rowsOf T_api_Entry.c T_api_Entry.d ([] : List T_api_Entry))), (4, .c ((([] : List T_api_Entry) ++ (a0.take v8.toNat)).length) (rowsOf T_api_Entry.c T_api_Entry.d (([] : List T_api_Entry) ++ (a0.take v8.toNat)))), (7, .c (((([] : List T_api_Entry) ++ (a0.take v8.toNat)) ++ ([b4] : List T_api_Entry)).length) (rowsOf T_api_Entry.c T_api_Entry.d ((([] : List T_api_Entry) ++ (a0.take v8.toNat)) ++ ([b4] : List T_api_Entry))))], [], [], [[], [], [], [1, 2], [0, 3, 1, 2], [], [5], [4, 0, 3, 1, 2, 6, 5], [7, 4, 0, 3, 1, 2, 6, 5]], [], [(3, ((a0.take v8.toNat).length, rowsOf T_api_Entry.c T_api_Entry.d (a0.take v8.toNat))), (6, (([b4] : List T_api_Entry).length, rowsOf T_api_Entry.c T_api_Entry.d ([b4] : List T_api_Entry)))], []⟩, ⟨[(4, .c ((((([] : List T_api_Entry) ++ (a0.take v8.toNat)) ++ ([b4] : List T_api_Entry)) ++ (a0.drop v8.toNat)).length) (rowsOf T_api_Entry.c T_api_Entry.d (((([] : List T_api_Entry) ++ (a0.take v8.toNat)) ++ ([b4] : List T_api_Entry)) ++ (a0.drop v8.toNat))))], [], [], [], [], [(3, ((a0.drop v8.toNat).length, rowsOf T_api_Entry.c T_api_Entry.d (a0.drop v8.toNat)))], []⟩] [false] [51] [] [] [(decide (v8 < ((a0.length : Nat) : Int))) = true, 0 ≤ v8 ∧ v8 < ((a0.length : Nat) : Int), SCall Try.prog 92 [.agg (T_api_End.c ((a0.getD v8.toNat T_api_Entry.d).fEnd)), .agg (T_api_End.c b4.fEnd)] (.one (.lit (.int .i64 x3))), (decide (x3 ≤ (0 : Int))) = false, ([] : List T_api_Entry).length = 0, ∀ i j, i < 0 → j < 7 → rowsOf T_api_Entry.c T_api_Entry.d ([] : List T_api_Entry) i j = (([] : List T_api_Entry).flatMap T_api_Entry.c).getD (i * 7 + j) .junk, (a0.take v8.toNat).length = v8.toNat ∧ ∀ i j, i < v8.toNat → j < 7 → rowsOf T_api_Entry.c T_api_Entry.d (a0.take v8.toNat) i j = rowsOf T_api_Entry.c T_api_Entry.d a0 i j, 0 ≤ v8 ∧ v8 ≤ ((a0.length : Nat) : Int), Ext 7 (([] : List T_api_Entry).length) ((a0.take v8.toNat).length) (rowsOf T_api_Entry.c T_api_Entry.d ([] : List T_api_Entry)) (rowsOf T_api_Entry.c T_api_Entry.d (a0.take v8.toNat)) ((([] : List T_api_Entry) ++ (a0.take v8.toNat)).length) (rowsOf T_api_Entry.c T_api_Entry.d (([] : List T_api_Entry) ++ (a0.take v8.toNat))), (([] : List T_api_Entry) ++ (a0.take v8.toNat)).length * 56 ≤ 140737488355328, (([] : List T_api_Entry) ++ (a0.take v8.toNat)).length ≤ maxLen, ([b4] : List T_api_Entry).length = 1 ∧ ∀ i j, i < 1 → j < 7 → rowsOf T_api_Entry.c T_api_Entry.d ([b4] : List T_api_Entry) i j = (([b4] : List T_api_Entry).flatMap T_api_Entry.c).getD (i * 7 + j) .junk, Ext 7 ((([] : List T_api_Entry) ++ (a0.take v8.toNat)).length) (([b4] : List T_api_Entry).length) (rowsOf T_api_Entry.c T_api_Entry.d (([] : List T_api_Entry) ++ (a0.take v8.toNat))) (rowsOf T_api_Entry.c T_api_Entry.d ([b4] : List T_api_Entry)) (((([] : List T_api_Entry) ++ (a0.take v8.toNat)) ++ ([b4] : List T_api_Entry)).length) (rowsOf T_api_Entry.c T_api_Entry.d ((([] : List T_api_Entry) ++ (a0.take v8.toNat)) ++ ([b4] : List T_api_Entry))), ((([] : List T_api_Entry) ++ (a0.take v8.toNat)) ++ ([b4] : List T_api_Entry)).length * 56 ≤ 140737488355328, ((([] : List T_api_Entry) ++ (a0.take v8.toNat)) ++ ([b4] : List T_api_Entry)).length ≤ maxLen, (a0.drop v8.toNat).length = a0.length - v8.toNat ∧ ∀ i j, i < a0.length - v8.toNat → j < 7 → rowsOf T_api_Entry.c T_api_Entry.d (a0.drop v8.toNat) i j = rowsOf T_api_Entry.c T_api_Entry.d a0 (v8.toNat + i) j, 0 ≤ v8 ∧ v8 ≤ ((a0.length : Nat) : Int), Ext 7 (((([] : List T_api_Entry) ++ (a0.take v8.toNat)) ++ ([b4] : List T_api_Entry)).length) ((a0.drop v8.toNat).length) (rowsOf T_api_Entry.c T_api_Entry.d ((([] : List T_api_Entry) ++ (a0.take v8.toNat)) ++ ([b4] : List T_api_Entry))) (rowsOf T_api_Entry.c T_api_Entry.d (a0.drop v8.toNat)) ((((([] : List T_api_Entry) ++ (a0.take v8.toNat)) ++ ([b4] : List T_api_Entry)) ++ (a0.drop v8.toNat)).length) (rowsOf T_api_Entry.c T_api_Entry.d (((([] : List T_api_Entry) ++ (a0.take v8.toNat)) ++ ([b4] : List T_api_Entry)) ++ (a0.drop v8.toNat))), (((([] : List T_api_Entry) ++ (a0.take v8.toNat)) ++ ([b4] : List T_api_Entry)) ++ (a0.drop v8.toNat)).length * 56 ≤ 140737488355328, (((([] : List T_api_Entry) ++ (a0.take v8.toNat)) ++ ([b4] : List T_api_Entry)) ++ (a0.drop v8.toNat)).length ≤ maxLen] (by kernel_rfl) rfl ⟨h6, o7, (g_doormanref09_Compare_ok ((a0.getD v8.toNat T_api_Entry.d).fEnd) b4.fEnd x3 q8), h9, rfl, (fun i j hi hj => rows_flat (sz := 7) (e := T_api_Entry.c) (d := T_api_Entry.d) (fun _ => rfl) ([] : List T_api_Entry) i j hi hj), (piece_take _ _ o10), o10, (ext_app _ _), o11.1, o11.2, ⟨rfl, fun i j hi hj => rows_flat (sz := 7) (e := T_api_Entry.c) (d := T_api_Entry.d) (fun _ => rfl) ([b4] : List T_api_Entry) i j hi hj⟩, (ext_app _ _), o12.1, o12.2, (piece_drop _ _), o10, (ext_app _ _), o13.1, o13.2, trivial⟩
    · obtain ⟨o14, hf⟩ := need_some hf
      obtain ⟨o15, hf⟩ := need_some hf
      obtain ⟨o16, hf⟩ := need_some hf
      obtain ⟨o17, hf⟩ := need_some hf
      replace hf := Option.some.inj hf
      subst hf
      exact toEnd_good allOk 10 _ _ [⟨[], [(4, false)], [], [[], [], [1], [0, 2, 1], [3, 0, 2, 1], [4, 3, 0, 2, 1], [4, 3, 0, 2, 1], [5, 4, 3, 0, 2, 1, 6], [7, 5, 4, 3, 0, 2, 1, 6], [8, 7, 5, 4, 3, 0, 2, 1, 6], [4, 3, 0, 2, 1], [10, 4, 3, 0, 2, 1], [9, 8, 7, 5, 4, 3, 0, 2, 1, 6, 11, 10], [12, 9, 8, 7, 5, 4, 3, 0, 2, 1, 6, 11, 10], [4, 3, 0, 2, 1, 13, 12, 9, 8, 7, 5, 6, 11, 10]], [], [], []⟩, ⟨[(0, .c ([] : List T_api_Entry).length (rowsOf T_api_Entry.c T_api_Entry.d ([] : List T_api_Entry))), (4, .c ((([] : List T_api_Entry) ++ (a0.take v8.toNat)).length) (rowsOf T_api_Entry.c T_api_Entry.d (([] : List T_api_Entry) ++ (a0.take v8.toNat)))), (7, .c (((([] : List T_api_Entry) ++ (a0.take v8.toNat)) ++ ([b4] : List T_api_Entry)).length) (rowsOf T_api_Entry.c T_api_Entry.d ((([] : List T_api_Entry) ++ (a0.take v8.toNat)) ++ ([b4] : List T_api_Entry))))], [], [], [[], [], [], [1, 2], [0, 3, 1, 2], [], [5], [4, 0, 3, 1, 2, 6, 5], [7, 4, 0, 3, 1, 2, 6, 5]], [], [(3, ((a0.take v8.toNat).length, rowsOf T_api_Entry.c T_api_Entry.d (a0.take v8.toNat))), (6, (([b4] : List T_api_Entry).length, rowsOf T_api_Entry.c T_api_Entry.d ([b4] : List T_api_Entry)))], []⟩, ⟨[(4, .c ((((([] : List T_api_Entry) ++ (a0.take v8.toNat)) ++ ([b4] : List T_api_Entry)) ++ (a0.drop v8.toNat)).length) (rowsOf T_api_Entry.c T_api_Entry.d (((([] : List T_api_Entry) ++ (a0.take v8.toNat)) ++ ([b4] : List T_api_Entry)) ++ (a0.drop v8.toNat))))], [], [], [], [], [(3, ((a0.drop v8.toNat).length, rowsOf T_api_Entry.c T_api_Entry.d (a0.drop v8.toNat)))], []⟩] [false] [51] [] [] [(decide (v8 < ((a0.length : Nat) : Int))) = false, false = false, ([] : List T_api_Entry).length = 0, ∀ i j, i < 0 → j < 7 → rowsOf T_api_Entry.c T_api_Entry.d ([] : List T_api_Entry) i j = (([] : List T_api_Entry).flatMap T_api_Entry.c).getD (i * 7 + j) .junk, (a0.take v8.toNat).length = v8.toNat ∧ ∀ i j, i < v8.toNat → j < 7 → rowsOf T_api_Entry.c T_api_Entry.d (a0.take v8.toNat) i j = rowsOf T_api_Entry.c T_api_Entry.d a0 i j, 0 ≤ v8 ∧ v8 ≤ ((a0.length : Nat) : Int), Ext 7 (([] : List T_api_Entry).length) ((a0.take v8.toNat).length) (rowsOf T_api_Entry.c T_api_Entry.d ([] : List T_api_Entry)) (rowsOf T_api_Entry.c T_api_Entry.d (a0.take v8.toNat)) ((([] : List T_api_Entry) ++ (a0.take v8.toNat)).length) (rowsOf T_api_Entry.c T_api_Entry.d (([] : List T_api_Entry) ++ (a0.take v8.toNat))), (([] : List T_api_Entry) ++ (a0.take v8.toNat)).length * 56 ≤ 140737488355328, (([] : List T_api_Entry) ++ (a0.take v8.toNat)).length ≤ maxLen, ([b4] : List T_api_Entry).length = 1 ∧ ∀ i j, i < 1 → j < 7 → rowsOf T_api_Entry.c T_api_Entry.d ([b4] : List T_api_Entry) i j = (([b4] : List T_api_Entry).flatMap T_api_Entry.c).getD (i * 7 + j) .junk, Ext 7 ((([] : List T_api_Entry) ++ (a0.take v8.toNat)).length) (([b4] : List T_api_Entry).length) (rowsOf T_api_Entry.c T_api_Entry.d (([] : List T_api_Entry) ++ (a0.take v8.toNat))) (rowsOf T_api_Entry.c T_api_Entry.d ([b4] : List T_api_Entry)) (((([] : List T_api_Entry) ++ (a0.take v8.toNat)) ++ ([b4] : List T_api_Entry)).length) (rowsOf T_api_Entry.c T_api_Entry.d ((([] : List T_api_Entry) ++ (a0.take v8.toNat)) ++ ([b4] : List T_api_Entry))), ((([] : List T_api_Entry) ++ (a0.take v8.toNat)) ++ ([b4] : List T_api_Entry)).length * 56 ≤ 140737488355328, ((([] : List T_api_Entry) ++ (a0.take v8.toNat)) ++ ([b4] : List T_api_Entry)).length ≤ maxLen, (a0.drop v8.toNat).length = a0.length - v8.toNat ∧ ∀ i j, i < a0.length - v8.toNat → j < 7 → rowsOf T_api_Entry.c T_api_Entry.d (a0.drop v8.toNat) i j = rowsOf T_api_Entry.c T_api_Entry.d a0 (v8.toNat + i) j, 0 ≤ v8 ∧ v8 ≤ ((a0.length : Nat) : Int), Ext 7 (((([] : List T_api_Entry) ++ (a0.take v8.toNat)) ++ ([b4] : List T_api_Entry)).length) ((a0.drop v8.toNat).length) (rowsOf T_api_Entry.c T_api_Entry.d ((([] : List T_api_Entry) ++ (a0.take v8.toNat)) ++ ([b4] : List T_api_Entry))) (rowsOf T_api_Entry.c T_api_Entry.d (a0.drop v8.toNat)) ((((([] : List T_api_Entry) ++ (a0.take v8.toNat)) ++ ([b4] : List T_api_Entry)) ++ (a0.drop v8.toNat)).length) (rowsOf T_api_Entry.c T_api_Entry.d (((([] : List T_api_Entry) ++ (a0.take v8.toNat)) ++ ([b4] : List T_api_Entry)) ++ (a0.drop v8.toNat))), (((([] : List T_api_Entry) ++ (a0.take v8.toNat)) ++ ([b4] : List T_api_Entry)) ++ (a0.drop v8.toNat)).length * 56 ≤ 140737488355328, (((([] : List T_api_Entry) ++ (a0.take v8.toNat)) ++ ([b4] : List T_api_Entry)) ++ (a0.drop v8.toNat)).length ≤ maxLen] (by kernel_rfl) rfl ⟨h6, rfl, rfl, (fun i j hi hj => rows_flat (sz := 7) (e := T_api_Entry.c) (d := T_api_Entry.d) (fun _ => rfl) ([] : List T_api_Entry) i j hi hj), (piece_take _ _ o14), o14, (ext_app _ _), o15.1, o15.2, ⟨rfl, fun i j hi hj => rows_flat (sz := 7) (e := T_api_Entry.c) (d := T_api_Entry.d) (fun _ => rfl) ([b4] : List T_api_Entry) i j hi hj⟩, (ext_app _ _), o16.1, o16.2, (piece_drop _ _), o14, (ext_app _ _), o17.1, o17.2, trivial⟩

/-- doorman/doormanref26.Add -/
def g_doormanref26_Add (a0 : (List T_api_Entry)) (a1 : T_api_Entry) (a2 : Int) : Option ((List T_api_Entry) × Int) :=
  (g_doormanref25_Right a1).bind fun x1 =>
  bif (!x1) then
    some (([] : (List T_api_Entry)), (1 : Int))
  else
    (g_doormanref26_Find a0 a1.fEnd).bind fun x2 =>
    bif (decide (x2 ≥ (0 : Int))) then
      some (([] : (List T_api_Entry)), (7 : Int))
    else
      bif (decide (((a0.length : Nat) : Int) ≥ a2)) then
        some (([] : (List T_api_Entry)), (5 : Int))
      else
        g_doormanref26_Add_c0 a0  ((((a0.length : Nat) : Int) - (0 : Int)).toNat + 2) (0 : Int) a1

theorem g_doormanref26_Add_ok (a0 : (List T_api_Entry)) (a1 : T_api_Entry) (a2 : Int) (r : ((List T_api_Entry) × Int)) (hf : g_doormanref26_Add a0 a1 a2 = some r) : SCall Try.prog 33 [.one (cL 7 T_api_Entry.c T_api_Entry.d a0), .agg (T_api_Entry.c a1), .one (.lit (.int .i64 a2))] (.tup [(false, (cLs 7 T_api_Entry.c T_api_Entry.d) r.1), (false, (cI .i64) r.2)]) := by
  refine SCall.of Try.func33 rfl rfl rfl rfl fun S0 w0 => ?_
  unfold g_doormanref26_Add at hf
  obtain ⟨x1, q1, hf⟩ := bind_some' hf
  rcases br_some hf with ⟨h2, hf⟩ | ⟨h2, hf⟩
  · replace hf := Option.some.inj hf
    subst hf
    exact toEnd_good allOk 8 _ _ [⟨[], [], [], [], [], [], []⟩, ⟨[(1, .r (.one (.lit (.bool x1))) [])], [], [], [], [], [], []⟩, ⟨[], [], [], [], [], [], []⟩] [true] [] [] [(6, [(0, cL 7 T_api_Entry.c T_api_Entry.d [])])] [SCall Try.prog 42 [.agg (T_api_Entry.c a1)] (.one (.lit (.bool x1))), (!x1) = true] (by kernel_rfl) rfl ⟨(g_doormanref25_Right_ok a1 x1 q1), h2, trivial⟩
  · obtain ⟨x2, q3, hf⟩ := bind_some' hf
    rcases br_some hf with ⟨h4, hf⟩ | ⟨h4, hf⟩
    · replace hf := Option.some.inj hf
      subst hf
      exact toEnd_good allOk 13 _ _ [⟨[], [], [], [], [], [], []⟩, ⟨[(1, .r (.one (.lit (.bool x1))) [])], [], [], [], [], [], []⟩, ⟨[(3, .r (.one (.lit (.int .i64 x2))) [])], [], [], [], [], [], []⟩, ⟨[], [], [], [], [], [], []⟩] [false, true] [] [] [(6, [(0, cL 7 T_api_Entry.c T_api_Entry.d [])])] [SCall Try.prog 42 [.agg (T_api_Entry.c a1)] (.one (.lit (.bool x1))), (!x1) = false, SCall Try.prog 37 [.one (cL 7 T_api_Entry.c T_api_Entry.d a0), .agg (T_api_End.c a1.fEnd)] (.one (.lit (.int .i64 x2))), (decide (x2 ≥ (0 : Int))) = true] (by kernel_rfl) rfl ⟨(g_doormanref25_Right_ok a1 x1 q1), h2, (g_doormanref26_Find_ok a0 a1.fEnd x2 q3), h4, trivial⟩
    · rcases br_some hf with ⟨h5, hf⟩ | ⟨h5, hf⟩
      · replace hf := Option.some.inj hf
        subst hf
        exact toEnd_good allOk 18 _ _ [⟨[], [], [], [], [], [], []⟩, ⟨[(1, .r (.one (.lit (.bool x1))) [])], [], [], [], [], [], []⟩, ⟨[(3, .r (.one (.lit (.int .i64 x2))) [])], [], [], [], [], [], []⟩, ⟨[], [], [], [], [], [], []⟩, ⟨[], [], [], [], [], [], []⟩] [false, false, true] [] [] [(6, [(0, cL 7 T_api_Entry.c T_api_Entry.d [])])] [SCall Try.prog 42 [.agg (T_api_Entry.c a1)] (.one (.lit (.bool x1))), (!x1) = false, SCall Try.prog 37 [.one (cL 7 T_api_Entry.c T_api_Entry.d a0), .agg (T_api_End.c a1.fEnd)] (.one (.lit (.int .i64 x2))), (decide (x2 ≥ (0 : Int))) = false, (decide (((a0.length : Nat) : Int) ≥ a2)) = true] (by kernel_rfl) rfl ⟨(g_doormanref25_Right_ok a1 x1 q1), h2, (g_doormanref26_Find_ok a0 a1.fEnd x2 q3), h4, h5, trivial⟩
      · exact toK_good allOk Post.ends 21 _ _ _ _ [⟨[], [], [], [], [], [], []⟩, ⟨[(1, .r (.one (.lit (.bool x1))) [])], [], [], [], [], [], []⟩, ⟨[(3, .r (.one (.lit (.int .i64 x2))) [])], [], [], [], [], [], []⟩, ⟨[], [], [], [], [], [], []⟩, ⟨[], [], [], [], [], [], []⟩] [false, false, false] ⟨[], [], [], [], [], [0, 4, 8], [4], []⟩ [SCall Try.prog 42 [.agg (T_api_Entry.c a1)] (.one (.lit (.bool x1))), (!x1) = false, SCall Try.prog 37 [.one (cL 7 T_api_Entry.c T_api_Entry.d a0), .agg (T_api_End.c a1.fEnd)] (.one (.lit (.int .i64 x2))), (decide (x2 ≥ (0 : Int))) = false, (decide (((a0.length : Nat) : Int) ≥ a2)) = false] (by kernel_rfl) ⟨(g_doormanref25_Right_ok a1 x1 q1), h2, (g_doormanref26_Find_ok a0 a1.fEnd x2 q3), h4, h5, trivial⟩ (g_doormanref26_Add_c0_ok S0 w0 a0   ((((a0.length : Nat) : Int) - (0 : Int)).toNat + 2) (0 : Int) a1 r hf)

def g_doormanref26_Right_c1 (a0 : (List T_api_Entry)) (v3 : Int) (kg_doormanref26_Right_c0 : Int → Option Bool) : Nat → Int → Option Bool
  | 0, _ => none
  | fu + 1, v4 =>
    bif (decide (v4 < v3)) then
      need (0 ≤ v4 ∧ v4 < ((a0.length : Nat) : Int)) <|
      need (0 ≤ v3 ∧ v3 < ((a0.length : Nat) : Int)) <|
      (g_doormanref09_Compare ((a0.getD v4.toNat T_api_Entry.d).fEnd) ((a0.getD v3.toNat T_api_Entry.d).fEnd)).bind fun x2 =>
      bif (decide (x2 ≥ (0 : Int))) then
        some false
      else
        g_doormanref26_Right_c1 a0 v3 kg_doormanref26_Right_c0 fu (add64 v4 (1 : Int))
    else
      kg_doormanref26_Right_c0 (add64 v3 (1 : Int))

theorem g_doormanref26_Right_c1_ok (S0 : Nat → Prop) (w0 : Start) (a0 : (List T_api_Entry)) (v3 : Int) (kg_doormanref26_Right_c0 : Int → Option Bool) (hg_doormanref26_Right_c0 : ∀ (v3_ : Int) (r : Bool), kg_doormanref26_Right_c0 v3_ = some r → Good Try.prog 34 S0 w0 (bodyPost Try.prog Try.f35 (Post S0 w0 (.one (.lit (.bool r))))) (at_ [1, 0, 1, 0] (bodyOf Try.f35)) ⟨[(0, .one (cL 7 T_api_Entry.c T_api_Entry.d a0)), (3, .one (.lit (.int .i64 v3_)))], []⟩) : ∀ (fu : Nat) (v4 : Int) (r : Bool), g_doormanref26_Right_c1 a0 v3 kg_doormanref26_Right_c0 fu v4 = some r → Good Try.prog 34 S0 w0 (bodyPost Try.prog Try.f35 (Post S0 w0 (.one (.lit (.bool r))))) (at_ [1, 0, 1, 0, 0, 1, 0, 0, 1, 1, 0] (bodyOf Try.f35)) ⟨[(0, .one (cL 7 T_api_Entry.c T_api_Entry.d a0)), (3, .one (.lit (.int .i64 v3))), (4, .one (.lit (.int .i64 v4)))], []⟩ := by
  intro fu
  induction fu with
  | zero =>
    intro v4 r hf
    simp [g_doormanref26_Right_c1] at hf
  | succ fu ih =>
    intro v4 r hf
    unfold g_doormanref26_Right_c1 at hf
    rcases br_some hf with ⟨h5, hf⟩ | ⟨h5, hf⟩
    · obtain ⟨o6, hf⟩ := need_some hf
      obtain ⟨o7, hf⟩ := need_some hf
      obtain ⟨x2, q8, hf⟩ := bind_some' hf
      rcases br_some hf with ⟨h9, hf⟩ | ⟨h9, hf⟩
      · replace hf := Option.some.inj hf
        subst hf
        exact toEnd_good allOk 13 _ _ [⟨[], [], [], [], [], [], []⟩, ⟨[(10, .r (.one (.lit (.int .i64 x2))) [])], [], [], [[], [], [0, 1], [2, 0, 1], [3, 2, 0, 1], [], [], [5, 6], [7, 5, 6], [8, 7, 5, 6], [4, 3, 2, 0, 1, 9, 8, 7, 5, 6], [10, 4, 3, 2, 0, 1, 9, 8, 7, 5, 6]], [], [], []⟩, ⟨[], [], [], [], [], [], []⟩] [true, true] [] [] [] [(decide (v4 < v3)) = true, 0 ≤ v4 ∧ v4 < ((a0.length : Nat) : Int), 0 ≤ v3 ∧ v3 < ((a0.length : Nat) : Int), SCall Try.prog 92 [.agg (T_api_End.c ((a0.getD v4.toNat T_api_Entry.d).fEnd)), .agg (T_api_End.c ((a0.getD v3.toNat T_api_Entry.d).fEnd))] (.one (.lit (.int .i64 x2))), (decide (x2 ≥ (0 : Int))) = true] (by kernel_rfl) rfl ⟨h5, o6, o7, (g_doormanref09_Compare_ok ((a0.getD v4.toNat T_api_Entry.d).fEnd) ((a0.getD v3.toNat T_api_Entry.d).fEnd) x2 q8), h9, trivial⟩
      · exact toK_good allOk Post.ends 15 _ _ _ _ [⟨[], [], [], [], [], [], []⟩, ⟨[(10, .r (.one (.lit (.int .i64 x2))) [])], [], [], [[], [], [0, 1], [2, 0, 1], [3, 2, 0, 1], [], [], [5, 6], [7, 5, 6], [8, 7, 5, 6], [4, 3, 2, 0, 1, 9, 8, 7, 5, 6], [10, 4, 3, 2, 0, 1, 9, 8, 7, 5, 6]], [], [], []⟩, ⟨[], [], [], [], [], [], []⟩] [true, false] ⟨[], [], [], [], [], [0, 3, 4], [], []⟩ [(decide (v4 < v3)) = true, 0 ≤ v4 ∧ v4 < ((a0.length : Nat) : Int), 0 ≤ v3 ∧ v3 < ((a0.length : Nat) : Int), SCall Try.prog 92 [.agg (T_api_End.c ((a0.getD v4.toNat T_api_Entry.d).fEnd)), .agg (T_api_End.c ((a0.getD v3.toNat T_api_Entry.d).fEnd))] (.one (.lit (.int .i64 x2))), (decide (x2 ≥ (0 : Int))) = false] (by kernel_rfl) ⟨h5, o6, o7, (g_doormanref09_Compare_ok ((a0.getD v4.toNat T_api_Entry.d).fEnd) ((a0.getD v3.toNat T_api_Entry.d).fEnd) x2 q8), h9, trivial⟩ (ih (add64 v4 (1 : Int)) r hf)
    · exact toK_good allOk Post.ends 9 _ _ _ _ [⟨[], [], [], [], [], [], []⟩, ⟨[], [], [], [], [], [], []⟩] [false] ⟨[], [], [], [], [], [0, 3], [], []⟩ [(decide (v4 < v3)) = false] (by kernel_rfl) ⟨h5, trivial⟩ (hg_doormanref26_Right_c0 (add64 v3 (1 : Int)) r hf)

def g_doormanref26_Right_c0 (a0 : (List T_api_Entry))  : Nat → Int → Option Bool
  | 0, _ => none
  | fu + 1, v3 =>
    bif (decide (v3 < ((a0.length : Nat) : Int))) then
      need (0 ≤ v3 ∧ v3 < ((a0.length : Nat) : Int)) <|
      (g_doormanref25_Right (a0.getD v3.toNat T_api_Entry.d)).bind fun x1 =>
      bif (!x1) then
        some false
      else
        g_doormanref26_Right_c1 a0 v3 (g_doormanref26_Right_c0 a0  fu) ((v3 - (0 : Int)).toNat + 2) (0 : Int)
    else
      some true

theorem g_doormanref26_Right_c0_ok (S0 : Nat → Prop) (w0 : Start) (a0 : (List T_api_Entry))  : ∀ (fu : Nat) (v3 : Int) (r : Bool), g_doormanref26_Right_c0 a0  fu v3 = some r → Good Try.prog 34 S0 w0 (bodyPost Try.prog Try.f35 (Post S0 w0 (.one (.lit (.bool r))))) (at_ [1, 0, 1, 0] (bodyOf Try.f35)) ⟨[(0, .one (cL 7 T_api_Entry.c T_api_Entry.d a0)), (3, .one (.lit (.int .i64 v3)))], []⟩ := by
  intro fu
  induction fu with
  | zero =>
    intro v3 r hf
    simp [g_doormanref26_Right_c0] at hf
  | succ fu ih =>
    intro v3 r hf
    unfold g_doormanref26_Right_c0 at hf
    rcases br_some hf with ⟨h1, hf⟩ | ⟨h1, hf⟩
    · obtain ⟨o2, hf⟩ := need_some hf
      obtain ⟨x1, q3, hf⟩ := bind_some' hf
      rcases br_some hf with ⟨h4, hf⟩ | ⟨h4, hf⟩
      · replace hf := Option.some.inj hf
        subst hf
        exact toEnd_good allOk 14 _ _ [⟨[], [], [], [], [], [], []⟩, ⟨[(4, .r (.one (.lit (.bool x1))) [])], [], [], [], [], [], []⟩, ⟨[], [], [], [], [], [], []⟩] [true, true] [] [] [] [(decide (v3 < ((a0.length : Nat) : Int))) = true, 0 ≤ v3 ∧ v3 < ((a0.length : Nat) : Int), SCall Try.prog 42 [.agg (T_api_Entry.c (a0.getD v3.toNat T_api_Entry.d))] (.one (.lit (.bool x1))), (!x1) = true] (by kernel_rfl) rfl ⟨h1, o2, (g_doormanref25_Right_ok (a0.getD v3.toNat T_api_Entry.d) x1 q3), h4, trivial⟩
      · exact toK_good allOk Post.ends 16 _ _ _ _ [⟨[], [], [], [], [], [], []⟩, ⟨[(4, .r (.one (.lit (.bool x1))) [])], [], [], [], [], [], []⟩, ⟨[], [], [], [], [], [], []⟩] [true, false] ⟨[], [], [], [], [], [0, 3, 4], [], []⟩ [(decide (v3 < ((a0.length : Nat) : Int))) = true, 0 ≤ v3 ∧ v3 < ((a0.length : Nat) : Int), SCall Try.prog 42 [.agg (T_api_Entry.c (a0.getD v3.toNat T_api_Entry.d))] (.one (.lit (.bool x1))), (!x1) = false] (by kernel_rfl) ⟨h1, o2, (g_doormanref25_Right_ok (a0.getD v3.toNat T_api_Entry.d) x1 q3), h4, trivial⟩ (g_doormanref26_Right_c1_ok S0 w0 a0 v3 (g_doormanref26_Right_c0 a0  fu) ih ((v3 - (0 : Int)).toNat + 2) (0 : Int) r hf)
    · replace hf := Option.some.inj hf
      subst hf
      exact toEnd_good allOk 8 _ _ [⟨[], [], [], [], [], [], []⟩, ⟨[], [], [], [], [], [], []⟩] [false] [] [] [] [(decide (v3 < ((a0.length : Nat) : Int))) = false] (by kernel_rfl) rfl ⟨h1, trivial⟩

/-- doorman/doormanref26.Right -/
def g_doormanref26_Right (a0 : (List T_api_Entry)) : Option Bool :=
  g_doormanref26_Right_c0 a0  ((((a0.length : Nat) : Int) - (0 : Int)).toNat + 2) (0 : Int)

theorem g_doormanref26_Right_ok (a0 : (List T_api_Entry)) (r : Bool) (hf : g_doormanref26_Right a0 = some r) : SCall Try.prog 35 [.one (cL 7 T_api_Entry.c T_api_Entry.d a0)] (.one (.lit (.bool r))) := by
  refine SCall.of Try.func35 rfl rfl rfl rfl fun S0 w0 => ?_
  unfold g_doormanref26_Right at hf
  exact toK_good allOk Post.ends 6 _ _ _ _ [⟨[], [], [], [], [], [], []⟩, ⟨[], [], [], [], [], [], []⟩] [] ⟨[], [], [], [], [], [0, 3], [], []⟩ [] (by kernel_rfl) trivial (g_doormanref26_Right_c0_ok S0 w0 a0   ((((a0.length : Nat) : Int) - (0 : Int)).toNat + 2) (0 : Int) r hf)

/-- doorman/book.Set -/
def g_book_Set (a0 : (List T_api_Entry)) (a1 : T_api_Entry) : Option (List T_api_Entry) :=
  (g_slices_Clone_doorman_api_Entry_doorman_api_Entry a0).bind fun x1 =>
  (g_book_Find a0 a1.fEnd).bind fun x2 =>
  bif (decide (x2 ≥ (0 : Int))) then
    need (0 ≤ x2 ∧ x2 < ((x1.length : Nat) : Int)) <|
    some (x1.set x2.toNat a1)
  else
    some x1

theorem g_book_Set_own (a0 : (List T_api_Entry)) (a1 : T_api_Entry) (r : (List T_api_Entry)) (hf : g_book_Set a0 a1 = some r) : HCall Try.prog 38 [] [.one (cL 7 T_api_Entry.c T_api_Entry.d a0), .agg (T_api_Entry.c a1)] [(99999, .rows 60 7 r.length (rowsOf T_api_Entry.c T_api_Entry.d r))] (.one (.osl 99999 r.length)) := by
  refine HCall.of Try.func38 rfl rfl rfl rfl fun S0 w0 => ?_
  unfold g_book_Set at hf
  obtain ⟨x1, q1, hf⟩ := bind_some' hf
  obtain ⟨x2, q2, hf⟩ := bind_some' hf
  rcases br_some hf with ⟨h3, hf⟩ | ⟨h3, hf⟩
  · obtain ⟨o4, hf⟩ := need_some hf
    replace hf := Option.some.inj hf
    subst hf
    exact toEndH_good allOk 13 _ _ [⟨[], [], [], [], [], [], []⟩, ⟨[], [], [], [], [], [], [(1, ⟨[], [(99999, 8)], [(99999, .rows 60 7 x1.length (rowsOf T_api_Entry.c T_api_Entry.d x1))], .one (.osl 99999 x1.length)⟩)]⟩, ⟨[(3, .r (.one (.lit (.int .i64 x2))) [])], [], [], [], [], [], []⟩, ⟨[], [], [], [], [], [], []⟩, ⟨[(4, .c (x1.set x2.toNat a1).length (rowsOf T_api_Entry.c T_api_Entry.d (x1.set x2.toNat a1)))], [], [], [], [], [], []⟩, ⟨[], [], [], [], [], [], []⟩] [true] ⟨[], [], [], [(99999, (x1.set x2.toNat a1).length)], [], [4], [8], [(8, 99999)]⟩ [HCall Try.prog 83 [] [.one (cL 7 T_api_Entry.c T_api_Entry.d a0)] [(99999, .rows 60 7 x1.length (rowsOf T_api_Entry.c T_api_Entry.d x1))] (.one (.osl 99999 x1.length)), SCall Try.prog 36 [.one (cL 7 T_api_Entry.c T_api_Entry.d a0), .agg (T_api_End.c a1.fEnd)] (.one (.lit (.int .i64 x2))), (decide (x2 ≥ (0 : Int))) = true, 0 ≤ x2 ∧ x2 < ((x1.length : Nat) : Int), (x1.set x2.toNat a1).length = x1.length, x2.toNat < x1.length, ExtU 7 x1.length (rowsOf T_api_Entry.c T_api_Entry.d x1) x2.toNat 0 (T_api_Entry.c a1) (rowsOf T_api_Entry.c T_api_Entry.d (x1.set x2.toNat a1)), (x1.set x2.toNat a1).length = (x1.set x2.toNat a1).length] (by kernel_rfl) ⟨(g_slices_Clone_doorman_api_Entry_doorman_api_Entry_own a0 x1 q1), (g_book_Find_ok a0 a1.fEnd x2 q2), h3, o4, List.length_set, (ltOf o4), (ext_set _ _ _ rfl), rfl, trivial⟩
  · replace hf := Option.some.inj hf
    subst hf
    exact toEndH_good allOk 13 _ _ [⟨[], [], [], [], [], [], []⟩, ⟨[], [], [], [], [], [], [(1, ⟨[], [(99999, 8)], [(99999, .rows 60 7 x1.length (rowsOf T_api_Entry.c T_api_Entry.d x1))], .one (.osl 99999 x1.length)⟩)]⟩, ⟨[(3, .r (.one (.lit (.int .i64 x2))) [])], [], [], [], [], [], []⟩, ⟨[], [], [], [], [], [], []⟩, ⟨[], [], [], [], [], [], []⟩] [false] ⟨[], [], [], [], [], [4], [8], [(8, 99999)]⟩ [HCall Try.prog 83 [] [.one (cL 7 T_api_Entry.c T_api_Entry.d a0)] [(99999, .rows 60 7 x1.length (rowsOf T_api_Entry.c T_api_Entry.d x1))] (.one (.osl 99999 x1.length)), SCall Try.prog 36 [.one (cL 7 T_api_Entry.c T_api_Entry.d a0), .agg (T_api_End.c a1.fEnd)] (.one (.lit (.int .i64 x2))), (decide (x2 ≥ (0 : Int))) = false] (by kernel_rfl) ⟨(g_slices_Clone_doorman_api_Entry_doorman_api_Entry_own a0 x1 q1), (g_book_Find_ok a0 a1.fEnd x2 q2), h3, trivial⟩

theorem g_book_Set_ok (a0 : (List T_api_Entry)) (a1 : T_api_Entry) (r : (List T_api_Entry)) (hf : g_book_Set a0 a1 = some r) : SCall Try.prog 38 [.one (cL 7 T_api_Entry.c T_api_Entry.d a0), .agg (T_api_Entry.c a1)] (.one (cL 7 T_api_Entry.c T_api_Entry.d r)) := (g_book_Set_own a0 a1 r hf).pure
end Go.Proofs.Ytgmkffjkidgcnaa
