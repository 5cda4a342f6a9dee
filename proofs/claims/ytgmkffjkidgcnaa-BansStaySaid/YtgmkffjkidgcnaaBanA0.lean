/-
  Functions and their contracts.
  WRITTEN BY A PROGRAM OF MY OWN (wip/gen/am.py).
-/
import Derived.Test.YtgmkffjkidgcnaaBanT
namespace Go.Proofs.Ytgmkffjkidgcnaa
open Go.RowKit Go.Lib Go.Shelf
set_option linter.unusedVariables false
set_option maxRecDepth 100000
theorem eqFields_T_api_Addr : (Try.prog.fieldsOf 25).toList = [{ name := "V6", type := 4, offset := 0, embedded := false, tag := "", pkgPath := "", byteOffset := 0 }, { name := "Hi", type := 23, offset := 1, embedded := false, tag := "", pkgPath := "", byteOffset := 8 }, { name := "Lo", type := 23, offset := 2, embedded := false, tag := "", pkgPath := "", byteOffset := 16 }] := by kernel_rfl

theorem eqIn_T_api_Addr (d : Nat) (x y : T_api_Addr) (w : World) : (Op.equalIn (d + 2) 25 (.agg #[.bool x.fV6, .int .u64 x.fHi, .int .u64 x.fLo]) (.agg #[.bool y.fV6, .int .u64 y.fHi, .int .u64 y.fLo])).run Try.prog w = .ok (decide (x = y)) w := by rw [run_equalIn_struct w (d + 1) _ _ _ (by kernel_rfl) (by kernel_rfl)]; simp only [eqFields_T_api_Addr, Op.eqFields]; simp [go_sem]; cases x; cases y; simp only [T_api_Addr.mk.injEq]; (repeat' split) <;> simp_all

theorem eql_T_api_Addr (x y : T_api_Addr) (xo yo : Operand) : ∀ w, (do eqGuard .eql 25 xo yo (.agg #[.bool x.fV6, .int .u64 x.fHi, .int .u64 x.fLo]) (.agg #[.bool y.fV6, .int .u64 y.fHi, .int .u64 y.fLo]); binOp .eql 25 (.agg #[.bool x.fV6, .int .u64 x.fHi, .int .u64 x.fLo]) (.agg #[.bool y.fV6, .int .u64 y.fHi, .int .u64 y.fLo]) : Sem Value).run Try.prog w = .ok (.bool (decide (x = y))) w := by
  intro w
  have hg : (eqGuard .eql 25 xo yo (.agg #[.bool x.fV6, .int .u64 x.fHi, .int .u64 x.fLo]) (.agg #[.bool y.fV6, .int .u64 y.fHi, .int .u64 y.fLo])).run Try.prog w = .ok () w := by simp [eqGuard, Sem.run_bind, Try.eqGuardType25]
  rw [Sem.run_bind, hg, Result.andThen_ok, run_eql_struct]
  exact congrArg (fun r : Result Bool => r.andThen fun b w' => Result.ok (Value.bool b) w') (eqIn_T_api_Addr 9998 x y w)

theorem neq_T_api_Addr (x y : T_api_Addr) (xo yo : Operand) : ∀ w, (do eqGuard .neq 25 xo yo (.agg #[.bool x.fV6, .int .u64 x.fHi, .int .u64 x.fLo]) (.agg #[.bool y.fV6, .int .u64 y.fHi, .int .u64 y.fLo]); binOp .neq 25 (.agg #[.bool x.fV6, .int .u64 x.fHi, .int .u64 x.fLo]) (.agg #[.bool y.fV6, .int .u64 y.fHi, .int .u64 y.fLo]) : Sem Value).run Try.prog w = .ok (.bool (!decide (x = y))) w := by
  intro w
  have hg : (eqGuard .neq 25 xo yo (.agg #[.bool x.fV6, .int .u64 x.fHi, .int .u64 x.fLo]) (.agg #[.bool y.fV6, .int .u64 y.fHi, .int .u64 y.fLo])).run Try.prog w = .ok () w := by simp [eqGuard, Sem.run_bind, Try.eqGuardType25]
  rw [Sem.run_bind, hg, Result.andThen_ok, run_neq_struct]
  exact congrArg (fun r : Result Bool => r.andThen fun b w' => Result.ok (Value.bool (!b)) w') (eqIn_T_api_Addr 9998 x y w)

theorem eqFields_T_api_Net : (Try.prog.fieldsOf 27).toList = [{ name := "Addr", type := 25, offset := 0, embedded := false, tag := "", pkgPath := "", byteOffset := 0 }, { name := "Bits", type := 3, offset := 3, embedded := false, tag := "", pkgPath := "", byteOffset := 24 }] := by kernel_rfl

theorem eqIn_T_api_Net (d : Nat) (x y : T_api_Net) (w : World) : (Op.equalIn (d + 4) 27 (.agg #[.bool x.fAddr.fV6, .int .u64 x.fAddr.fHi, .int .u64 x.fAddr.fLo, .int .i64 x.fBits]) (.agg #[.bool y.fAddr.fV6, .int .u64 y.fAddr.fHi, .int .u64 y.fAddr.fLo, .int .i64 y.fBits])).run Try.prog w = .ok (decide (x = y)) w := by rw [run_equalIn_struct w (d + 3) _ _ _ (by kernel_rfl) (by kernel_rfl)]; simp only [eqFields_T_api_Net, Op.eqFields]; simp [go_sem, eqIn_T_api_Addr]; cases x; cases y; simp only [T_api_Net.mk.injEq]; (repeat' split) <;> simp_all

theorem eql_T_api_Net (x y : T_api_Net) (xo yo : Operand) : ∀ w, (do eqGuard .eql 27 xo yo (.agg #[.bool x.fAddr.fV6, .int .u64 x.fAddr.fHi, .int .u64 x.fAddr.fLo, .int .i64 x.fBits]) (.agg #[.bool y.fAddr.fV6, .int .u64 y.fAddr.fHi, .int .u64 y.fAddr.fLo, .int .i64 y.fBits]); binOp .eql 27 (.agg #[.bool x.fAddr.fV6, .int .u64 x.fAddr.fHi, .int .u64 x.fAddr.fLo, .int .i64 x.fBits]) (.agg #[.bool y.fAddr.fV6, .int .u64 y.fAddr.fHi, .int .u64 y.fAddr.fLo, .int .i64 y.fBits]) : Sem Value).run Try.prog w = .ok (.bool (decide (x = y))) w := by
  intro w
  have hg : (eqGuard .eql 27 xo yo (.agg #[.bool x.fAddr.fV6, .int .u64 x.fAddr.fHi, .int .u64 x.fAddr.fLo, .int .i64 x.fBits]) (.agg #[.bool y.fAddr.fV6, .int .u64 y.fAddr.fHi, .int .u64 y.fAddr.fLo, .int .i64 y.fBits])).run Try.prog w = .ok () w := by simp [eqGuard, Sem.run_bind, Try.eqGuardType27]
  rw [Sem.run_bind, hg, Result.andThen_ok, run_eql_struct]
  exact congrArg (fun r : Result Bool => r.andThen fun b w' => Result.ok (Value.bool b) w') (eqIn_T_api_Net 9996 x y w)

theorem neq_T_api_Net (x y : T_api_Net) (xo yo : Operand) : ∀ w, (do eqGuard .neq 27 xo yo (.agg #[.bool x.fAddr.fV6, .int .u64 x.fAddr.fHi, .int .u64 x.fAddr.fLo, .int .i64 x.fBits]) (.agg #[.bool y.fAddr.fV6, .int .u64 y.fAddr.fHi, .int .u64 y.fAddr.fLo, .int .i64 y.fBits]); binOp .neq 27 (.agg #[.bool x.fAddr.fV6, .int .u64 x.fAddr.fHi, .int .u64 x.fAddr.fLo, .int .i64 x.fBits]) (.agg #[.bool y.fAddr.fV6, .int .u64 y.fAddr.fHi, .int .u64 y.fAddr.fLo, .int .i64 y.fBits]) : Sem Value).run Try.prog w = .ok (.bool (!decide (x = y))) w := by
  intro w
  have hg : (eqGuard .neq 27 xo yo (.agg #[.bool x.fAddr.fV6, .int .u64 x.fAddr.fHi, .int .u64 x.fAddr.fLo, .int .i64 x.fBits]) (.agg #[.bool y.fAddr.fV6, .int .u64 y.fAddr.fHi, .int .u64 y.fAddr.fLo, .int .i64 y.fBits])).run Try.prog w = .ok () w := by simp [eqGuard, Sem.run_bind, Try.eqGuardType27]
  rw [Sem.run_bind, hg, Result.andThen_ok, run_neq_struct]
  exact congrArg (fun r : Result Bool => r.andThen fun b w' => Result.ok (Value.bool (!b)) w') (eqIn_T_api_Net 9996 x y w)

theorem eqFields_T_api_Ban : (Try.prog.fieldsOf 79).toList = [{ name := "Net", type := 27, offset := 0, embedded := false, tag := "", pkgPath := "", byteOffset := 0 }, { name := "Until", type := 3, offset := 4, embedded := false, tag := "", pkgPath := "", byteOffset := 32 }] := by kernel_rfl

theorem eqIn_T_api_Ban (d : Nat) (x y : T_api_Ban) (w : World) : (Op.equalIn (d + 6) 79 (.agg #[.bool x.fNet.fAddr.fV6, .int .u64 x.fNet.fAddr.fHi, .int .u64 x.fNet.fAddr.fLo, .int .i64 x.fNet.fBits, .int .i64 x.fUntil]) (.agg #[.bool y.fNet.fAddr.fV6, .int .u64 y.fNet.fAddr.fHi, .int .u64 y.fNet.fAddr.fLo, .int .i64 y.fNet.fBits, .int .i64 y.fUntil])).run Try.prog w = .ok (decide (x = y)) w := by rw [run_equalIn_struct w (d + 5) _ _ _ (by kernel_rfl) (by kernel_rfl)]; simp only [eqFields_T_api_Ban, Op.eqFields]; simp [go_sem, eqIn_T_api_Net]; cases x; cases y; simp only [T_api_Ban.mk.injEq]; (repeat' split) <;> simp_all

theorem eql_T_api_Ban (x y : T_api_Ban) (xo yo : Operand) : ∀ w, (do eqGuard .eql 79 xo yo (.agg #[.bool x.fNet.fAddr.fV6, .int .u64 x.fNet.fAddr.fHi, .int .u64 x.fNet.fAddr.fLo, .int .i64 x.fNet.fBits, .int .i64 x.fUntil]) (.agg #[.bool y.fNet.fAddr.fV6, .int .u64 y.fNet.fAddr.fHi, .int .u64 y.fNet.fAddr.fLo, .int .i64 y.fNet.fBits, .int .i64 y.fUntil]); binOp .eql 79 (.agg #[.bool x.fNet.fAddr.fV6, .int .u64 x.fNet.fAddr.fHi, .int .u64 x.fNet.fAddr.fLo, .int .i64 x.fNet.fBits, .int .i64 x.fUntil]) (.agg #[.bool y.fNet.fAddr.fV6, .int .u64 y.fNet.fAddr.fHi, .int .u64 y.fNet.fAddr.fLo, .int .i64 y.fNet.fBits, .int .i64 y.fUntil]) : Sem Value).run Try.prog w = .ok (.bool (decide (x = y))) w := by
  intro w
  have hg : (eqGuard .eql 79 xo yo (.agg #[.bool x.fNet.fAddr.fV6, .int .u64 x.fNet.fAddr.fHi, .int .u64 x.fNet.fAddr.fLo, .int .i64 x.fNet.fBits, .int .i64 x.fUntil]) (.agg #[.bool y.fNet.fAddr.fV6, .int .u64 y.fNet.fAddr.fHi, .int .u64 y.fNet.fAddr.fLo, .int .i64 y.fNet.fBits, .int .i64 y.fUntil])).run Try.prog w = .ok () w := by simp [eqGuard, Sem.run_bind, Try.eqGuardType79]
  rw [Sem.run_bind, hg, Result.andThen_ok, run_eql_struct]
  exact congrArg (fun r : Result Bool => r.andThen fun b w' => Result.ok (Value.bool b) w') (eqIn_T_api_Ban 9994 x y w)

theorem neq_T_api_Ban (x y : T_api_Ban) (xo yo : Operand) : ∀ w, (do eqGuard .neq 79 xo yo (.agg #[.bool x.fNet.fAddr.fV6, .int .u64 x.fNet.fAddr.fHi, .int .u64 x.fNet.fAddr.fLo, .int .i64 x.fNet.fBits, .int .i64 x.fUntil]) (.agg #[.bool y.fNet.fAddr.fV6, .int .u64 y.fNet.fAddr.fHi, .int .u64 y.fNet.fAddr.fLo, .int .i64 y.fNet.fBits, .int .i64 y.fUntil]); binOp .neq 79 (.agg #[.bool x.fNet.fAddr.fV6, .int .u64 x.fNet.fAddr.fHi, .int .u64 x.fNet.fAddr.fLo, .int .i64 x.fNet.fBits, .int .i64 x.fUntil]) (.agg #[.bool y.fNet.fAddr.fV6, .int .u64 y.fNet.fAddr.fHi, .int .u64 y.fNet.fAddr.fLo, .int .i64 y.fNet.fBits, .int .i64 y.fUntil]) : Sem Value).run Try.prog w = .ok (.bool (!decide (x = y))) w := by
  intro w
  have hg : (eqGuard .neq 79 xo yo (.agg #[.bool x.fNet.fAddr.fV6, .int .u64 x.fNet.fAddr.fHi, .int .u64 x.fNet.fAddr.fLo, .int .i64 x.fNet.fBits, .int .i64 x.fUntil]) (.agg #[.bool y.fNet.fAddr.fV6, .int .u64 y.fNet.fAddr.fHi, .int .u64 y.fNet.fAddr.fLo, .int .i64 y.fNet.fBits, .int .i64 y.fUntil])).run Try.prog w = .ok () w := by simp [eqGuard, Sem.run_bind, Try.eqGuardType79]
  rw [Sem.run_bind, hg, Result.andThen_ok, run_neq_struct]
  exact congrArg (fun r : Result Bool => r.andThen fun b w' => Result.ok (Value.bool (!b)) w') (eqIn_T_api_Ban 9994 x y w)

/-- doorman/addr.V4 -/
def g_addr_V4 (a0 : Int) : Option T_api_Addr :=
  some (T_api_Addr.mk false (0 : Int) (IntKind.wrap .u64 a0))

theorem g_addr_V4_ok (a0 : Int) (r : T_api_Addr) (hf : g_addr_V4 a0 = some r) : SCall Try.prog 128 [.one (.lit (.int .u32 a0))] (.agg (T_api_Addr.c r)) := by
  refine SCall.of Try.func128 rfl rfl rfl rfl fun S0 w0 => ?_
  unfold g_addr_V4 at hf
  replace hf := Option.some.inj hf
  subst hf
  exact toEnd_good allOk 4 _ _ [⟨[], [], [], [], [], [], []⟩, ⟨[], [], [], [], [], [], []⟩] [] [] [] [] [] (by kernel_rfl) rfl trivial

/-- doorman/addr.V6 -/
def g_addr_V6 (a0 : Int) (a1 : Int) : Option T_api_Addr :=
  bif (a0 == (0 : Int)) then
    bif ((Int.fdiv a1 (2 ^ (min (32 : Int).toNat (IntKind.bits .u64)))) == (65535 : Int)) then
      (g_addr_V4 (IntKind.wrap .u32 (IntKind.wrap .u64 (((BitVec.ofInt (IntKind.bits .u64) a1) &&& (BitVec.ofInt (IntKind.bits .u64) (4294967295 : Int))).toNat : Int)))).bind fun x1 =>
      some x1
    else
      some (T_api_Addr.mk true a0 a1)
  else
    some (T_api_Addr.mk true a0 a1)

theorem g_addr_V6_ok (a0 : Int) (a1 : Int) (r : T_api_Addr) (hf : g_addr_V6 a0 a1 = some r) : SCall Try.prog 127 [.one (.lit (.int .u64 a0)), .one (.lit (.int .u64 a1))] (.agg (T_api_Addr.c r)) := by
  refine SCall.of Try.func127 rfl rfl rfl rfl fun S0 w0 => ?_
  unfold g_addr_V6 at hf
  rcases br_some hf with ⟨h1, hf⟩ | ⟨h1, hf⟩
  · rcases br_some hf with ⟨h2, hf⟩ | ⟨h2, hf⟩
    · obtain ⟨x1, q3, hf⟩ := bind_some' hf
      replace hf := Option.some.inj hf
      subst hf
      exact toEnd_good allOk 8 _ _ [⟨[], [], [], [], [], [], []⟩, ⟨[], [(2, true)], [], [], [], [], []⟩, ⟨[(3, .r (.agg (T_api_Addr.c x1)) [])], [], [], [], [], [], []⟩] [true] [] [] [] [(a0 == (0 : Int)) = true, 0 ≤ (32 : Int), ((Int.fdiv a1 (2 ^ (min (32 : Int).toNat (IntKind.bits .u64)))) == (65535 : Int)) = true, SCall Try.prog 128 [.one (.lit (.int .u32 (IntKind.wrap .u32 (IntKind.wrap .u64 (((BitVec.ofInt (IntKind.bits .u64) a1) &&& (BitVec.ofInt (IntKind.bits .u64) (4294967295 : Int))).toNat : Int)))))] (.agg (T_api_Addr.c x1))] (by kernel_rfl) rfl ⟨h1, (by decide), h2, (g_addr_V4_ok (IntKind.wrap .u32 (IntKind.wrap .u64 (((BitVec.ofInt (IntKind.bits .u64) a1) &&& (BitVec.ofInt (IntKind.bits .u64) (4294967295 : Int))).toNat : Int))) x1 q3), trivial⟩
    · replace hf := Option.some.inj hf
      subst hf
      exact toEnd_good allOk 9 _ _ [⟨[], [], [], [], [], [], []⟩, ⟨[], [(2, true)], [], [], [], [], []⟩, ⟨[], [], [], [], [], [], []⟩] [false] [] [] [] [(a0 == (0 : Int)) = true, 0 ≤ (32 : Int), ((Int.fdiv a1 (2 ^ (min (32 : Int).toNat (IntKind.bits .u64)))) == (65535 : Int)) = false] (by kernel_rfl) rfl ⟨h1, (by decide), h2, trivial⟩
  · replace hf := Option.some.inj hf
    subst hf
    exact toEnd_good allOk 9 _ _ [⟨[], [], [], [], [], [], []⟩, ⟨[], [(2, false)], [], [], [], [], []⟩, ⟨[], [], [], [], [], [], []⟩] [false] [] [] [] [(a0 == (0 : Int)) = false, false = false] (by kernel_rfl) rfl ⟨h1, rfl, trivial⟩

/-- doorman/addr.Right -/
def g_addr_Right (a0 : T_api_Addr) : Option Bool :=
  bif a0.fV6 then
    (g_addr_V6 a0.fHi a0.fLo).bind fun x1 =>
    some (decide (x1 = a0))
  else
    (g_addr_V4 (IntKind.wrap .u32 (IntKind.wrap .u64 (((BitVec.ofInt (IntKind.bits .u64) a0.fLo) &&& (BitVec.ofInt (IntKind.bits .u64) (4294967295 : Int))).toNat : Int)))).bind fun x2 =>
    some (decide (x2 = a0))

theorem g_addr_Right_ok (a0 : T_api_Addr) (r : Bool) (hf : g_addr_Right a0 = some r) : SCall Try.prog 77 [.agg (T_api_Addr.c a0)] (.one (.lit (.bool r))) := by
  refine SCall.of Try.func77 rfl rfl rfl rfl fun S0 w0 => ?_
  unfold g_addr_Right at hf
  rcases br_some hf with ⟨h1, hf⟩ | ⟨h1, hf⟩
  · obtain ⟨x1, q2, hf⟩ := bind_some' hf
    replace hf := Option.some.inj hf
    subst hf
    exact toEnd_good allOk 8 _ _ [⟨[], [], [], [], [], [], []⟩, ⟨[], [], [], [], [], [], []⟩, ⟨[(4, .r (.agg (T_api_Addr.c x1)) []), (6, .r (.one (.lit (.bool (decide (x1 = a0))))) [])], [], [], [[], [0], [], [2], [1, 0, 3, 2], [], [4, 1, 0, 3, 2, 5], [6, 4, 1, 0, 3, 2, 5]], [], [], []⟩] [true] [] [] [] [a0.fV6 = true, SCall Try.prog 127 [.one (.lit (.int .u64 a0.fHi)), .one (.lit (.int .u64 a0.fLo))] (.agg (T_api_Addr.c x1)), ∀ w, (do eqGuard .eql 25 (.tmp 9) (.tmp 10) (.agg #[.bool x1.fV6, .int .u64 x1.fHi, .int .u64 x1.fLo]) (.agg #[.bool a0.fV6, .int .u64 a0.fHi, .int .u64 a0.fLo]); binOp .eql 25 (.agg #[.bool x1.fV6, .int .u64 x1.fHi, .int .u64 x1.fLo]) (.agg #[.bool a0.fV6, .int .u64 a0.fHi, .int .u64 a0.fLo]) : Sem Value).run Try.prog w = .ok (.bool (decide (x1 = a0))) w] (by kernel_rfl) rfl ⟨h1, (g_addr_V6_ok a0.fHi a0.fLo x1 q2), (eql_T_api_Addr x1 a0 _ _), trivial⟩
  · obtain ⟨x2, q3, hf⟩ := bind_some' hf
    replace hf := Option.some.inj hf
    subst hf
    exact toEnd_good allOk 9 _ _ [⟨[], [], [], [], [], [], []⟩, ⟨[], [], [], [], [], [], []⟩, ⟨[(4, .r (.agg (T_api_Addr.c x2)) []), (6, .r (.one (.lit (.bool (decide (x2 = a0))))) [])], [], [], [[], [0], [1, 0], [2, 1, 0], [3, 2, 1, 0], [], [4, 3, 2, 1, 0, 5], [6, 4, 3, 2, 1, 0, 5]], [], [], []⟩] [false] [] [] [] [a0.fV6 = false, SCall Try.prog 128 [.one (.lit (.int .u32 (IntKind.wrap .u32 (IntKind.wrap .u64 (((BitVec.ofInt (IntKind.bits .u64) a0.fLo) &&& (BitVec.ofInt (IntKind.bits .u64) (4294967295 : Int))).toNat : Int)))))] (.agg (T_api_Addr.c x2)), ∀ w, (do eqGuard .eql 25 (.tmp 16) (.tmp 17) (.agg #[.bool x2.fV6, .int .u64 x2.fHi, .int .u64 x2.fLo]) (.agg #[.bool a0.fV6, .int .u64 a0.fHi, .int .u64 a0.fLo]); binOp .eql 25 (.agg #[.bool x2.fV6, .int .u64 x2.fHi, .int .u64 x2.fLo]) (.agg #[.bool a0.fV6, .int .u64 a0.fHi, .int .u64 a0.fLo]) : Sem Value).run Try.prog w = .ok (.bool (decide (x2 = a0))) w] (by kernel_rfl) rfl ⟨h1, (g_addr_V4_ok (IntKind.wrap .u32 (IntKind.wrap .u64 (((BitVec.ofInt (IntKind.bits .u64) a0.fLo) &&& (BitVec.ofInt (IntKind.bits .u64) (4294967295 : Int))).toNat : Int))) x2 q3), (eql_T_api_Addr x2 a0 _ _), trivial⟩

/-- doorman/addr.Bits -/
def g_addr_Bits (a0 : T_api_Addr) : Option Int :=
  bif a0.fV6 then
    some (128 : Int)
  else
    some (32 : Int)

theorem g_addr_Bits_ok (a0 : T_api_Addr) (r : Int) (hf : g_addr_Bits a0 = some r) : SCall Try.prog 130 [.agg (T_api_Addr.c a0)] (.one (.lit (.int .i64 r))) := by
  refine SCall.of Try.func130 rfl rfl rfl rfl fun S0 w0 => ?_
  unfold g_addr_Bits at hf
  rcases br_some hf with ⟨h1, hf⟩ | ⟨h1, hf⟩
  · replace hf := Option.some.inj hf
    subst hf
    exact toEnd_good allOk 8 _ _ [⟨[], [], [], [], [], [], []⟩, ⟨[], [], [], [], [], [], []⟩, ⟨[], [], [], [], [], [], []⟩] [true] [] [] [] [a0.fV6 = true] (by kernel_rfl) rfl ⟨h1, trivial⟩
  · replace hf := Option.some.inj hf
    subst hf
    exact toEnd_good allOk 9 _ _ [⟨[], [], [], [], [], [], []⟩, ⟨[], [], [], [], [], [], []⟩, ⟨[], [], [], [], [], [], []⟩] [false] [] [] [] [a0.fV6 = false] (by kernel_rfl) rfl ⟨h1, trivial⟩

/-- math/bits.ReverseBytes64 -/
def g_math_bits_ReverseBytes64 (a0 : Int) : Option Int :=
  some (IntKind.wrap .u64 (((BitVec.ofInt (IntKind.bits .u64) (Int.fdiv (IntKind.wrap .u64 (((BitVec.ofInt (IntKind.bits .u64) (IntKind.wrap .u64 (((BitVec.ofInt (IntKind.bits .u64) (Int.fdiv (IntKind.wrap .u64 (((BitVec.ofInt (IntKind.bits .u64) (IntKind.wrap .u64 (((BitVec.ofInt (IntKind.bits .u64) (Int.fdiv a0 (2 ^ (min (8 : Int).toNat (IntKind.bits .u64))))) &&& (BitVec.ofInt (IntKind.bits .u64) (71777214294589695 : Int))).toNat : Int))) ||| (BitVec.ofInt (IntKind.bits .u64) (IntKind.wrap .u64 ((IntKind.wrap .u64 (((BitVec.ofInt (IntKind.bits .u64) a0) &&& (BitVec.ofInt (IntKind.bits .u64) (71777214294589695 : Int))).toNat : Int)) * 2 ^ (min (8 : Int).toNat (IntKind.bits .u64)))))).toNat : Int)) (2 ^ (min (16 : Int).toNat (IntKind.bits .u64))))) &&& (BitVec.ofInt (IntKind.bits .u64) (281470681808895 : Int))).toNat : Int))) ||| (BitVec.ofInt (IntKind.bits .u64) (IntKind.wrap .u64 ((IntKind.wrap .u64 (((BitVec.ofInt (IntKind.bits .u64) (IntKind.wrap .u64 (((BitVec.ofInt (IntKind.bits .u64) (IntKind.wrap .u64 (((BitVec.ofInt (IntKind.bits .u64) (Int.fdiv a0 (2 ^ (min (8 : Int).toNat (IntKind.bits .u64))))) &&& (BitVec.ofInt (IntKind.bits .u64) (71777214294589695 : Int))).toNat : Int))) ||| (BitVec.ofInt (IntKind.bits .u64) (IntKind.wrap .u64 ((IntKind.wrap .u64 (((BitVec.ofInt (IntKind.bits .u64) a0) &&& (BitVec.ofInt (IntKind.bits .u64) (71777214294589695 : Int))).toNat : Int)) * 2 ^ (min (8 : Int).toNat (IntKind.bits .u64)))))).toNat : Int))) &&& (BitVec.ofInt (IntKind.bits .u64) (281470681808895 : Int))).toNat : Int)) * 2 ^ (min (16 : Int).toNat (IntKind.bits .u64)))))).toNat : Int)) (2 ^ (min (32 : Int).toNat (IntKind.bits .u64))))) ||| (BitVec.ofInt (IntKind.bits .u64) (IntKind.wrap .u64 ((IntKind.wrap .u64 (((BitVec.ofInt (IntKind.bits .u64) (IntKind.wrap .u64 (((BitVec.ofInt (IntKind.bits .u64) (Int.fdiv (IntKind.wrap .u64 (((BitVec.ofInt (IntKind.bits .u64) (IntKind.wrap .u64 (((BitVec.ofInt (IntKind.bits .u64) (Int.fdiv a0 (2 ^ (min (8 : Int).toNat (IntKind.bits .u64))))) &&& (BitVec.ofInt (IntKind.bits .u64) (71777214294589695 : Int))).toNat : Int))) ||| (BitVec.ofInt (IntKind.bits .u64) (IntKind.wrap .u64 ((IntKind.wrap .u64 (((BitVec.ofInt (IntKind.bits .u64) a0) &&& (BitVec.ofInt (IntKind.bits .u64) (71777214294589695 : Int))).toNat : Int)) * 2 ^ (min (8 : Int).toNat (IntKind.bits .u64)))))).toNat : Int)) (2 ^ (min (16 : Int).toNat (IntKind.bits .u64))))) &&& (BitVec.ofInt (IntKind.bits .u64) (281470681808895 : Int))).toNat : Int))) ||| (BitVec.ofInt (IntKind.bits .u64) (IntKind.wrap .u64 ((IntKind.wrap .u64 (((BitVec.ofInt (IntKind.bits .u64) (IntKind.wrap .u64 (((BitVec.ofInt (IntKind.bits .u64) (IntKind.wrap .u64 (((BitVec.ofInt (IntKind.bits .u64) (Int.fdiv a0 (2 ^ (min (8 : Int).toNat (IntKind.bits .u64))))) &&& (BitVec.ofInt (IntKind.bits .u64) (71777214294589695 : Int))).toNat : Int))) ||| (BitVec.ofInt (IntKind.bits .u64) (IntKind.wrap .u64 ((IntKind.wrap .u64 (((BitVec.ofInt (IntKind.bits .u64) a0) &&& (BitVec.ofInt (IntKind.bits .u64) (71777214294589695 : Int))).toNat : Int)) * 2 ^ (min (8 : Int).toNat (IntKind.bits .u64)))))).toNat : Int))) &&& (BitVec.ofInt (IntKind.bits .u64) (281470681808895 : Int))).toNat : Int)) * 2 ^ (min (16 : Int).toNat (IntKind.bits .u64)))))).toNat : Int)) * 2 ^ (min (32 : Int).toNat (IntKind.bits .u64)))))).toNat : Int))

theorem g_math_bits_ReverseBytes64_ok (a0 : Int) (r : Int) (hf : g_math_bits_ReverseBytes64 a0 = some r) : SCall Try.prog 186 [.one (.lit (.int .u64 a0))] (.one (.lit (.int .u64 r))) := by
  refine SCall.of Try.func186 rfl rfl rfl rfl fun S0 w0 => ?_
  unfold g_math_bits_ReverseBytes64 at hf
  replace hf := Option.some.inj hf
  subst hf
  exact toEnd_good allOk 8 _ _ [⟨[], [], [], [], [], [], []⟩, ⟨[], [], [], [], [], [], []⟩, ⟨[], [], [], [], [], [], []⟩, ⟨[], [], [], [], [], [], []⟩] [] [] [] [] [0 ≤ (8 : Int), 0 ≤ (8 : Int), 0 ≤ (16 : Int), 0 ≤ (16 : Int), 0 ≤ (32 : Int), 0 ≤ (32 : Int)] (by kernel_rfl) rfl ⟨(by decide), (by decide), (by decide), (by decide), (by decide), (by decide), trivial⟩

/-- math/bits.Reverse64 -/
def g_math_bits_Reverse64 (a0 : Int) : Option Int :=
  (g_math_bits_ReverseBytes64 (IntKind.wrap .u64 (((BitVec.ofInt (IntKind.bits .u64) (IntKind.wrap .u64 (((BitVec.ofInt (IntKind.bits .u64) (Int.fdiv (IntKind.wrap .u64 (((BitVec.ofInt (IntKind.bits .u64) (IntKind.wrap .u64 (((BitVec.ofInt (IntKind.bits .u64) (Int.fdiv (IntKind.wrap .u64 (((BitVec.ofInt (IntKind.bits .u64) (IntKind.wrap .u64 (((BitVec.ofInt (IntKind.bits .u64) (Int.fdiv a0 (2 ^ (min (1 : Int).toNat (IntKind.bits .u64))))) &&& (BitVec.ofInt (IntKind.bits .u64) (6148914691236517205 : Int))).toNat : Int))) ||| (BitVec.ofInt (IntKind.bits .u64) (IntKind.wrap .u64 ((IntKind.wrap .u64 (((BitVec.ofInt (IntKind.bits .u64) a0) &&& (BitVec.ofInt (IntKind.bits .u64) (6148914691236517205 : Int))).toNat : Int)) * 2 ^ (min (1 : Int).toNat (IntKind.bits .u64)))))).toNat : Int)) (2 ^ (min (2 : Int).toNat (IntKind.bits .u64))))) &&& (BitVec.ofInt (IntKind.bits .u64) (3689348814741910323 : Int))).toNat : Int))) ||| (BitVec.ofInt (IntKind.bits .u64) (IntKind.wrap .u64 ((IntKind.wrap .u64 (((BitVec.ofInt (IntKind.bits .u64) (IntKind.wrap .u64 (((BitVec.ofInt (IntKind.bits .u64) (IntKind.wrap .u64 (((BitVec.ofInt (IntKind.bits .u64) (Int.fdiv a0 (2 ^ (min (1 : Int).toNat (IntKind.bits .u64))))) &&& (BitVec.ofInt (IntKind.bits .u64) (6148914691236517205 : Int))).toNat : Int))) ||| (BitVec.ofInt (IntKind.bits .u64) (IntKind.wrap .u64 ((IntKind.wrap .u64 (((BitVec.ofInt (IntKind.bits .u64) a0) &&& (BitVec.ofInt (IntKind.bits .u64) (6148914691236517205 : Int))).toNat : Int)) * 2 ^ (min (1 : Int).toNat (IntKind.bits .u64)))))).toNat : Int))) &&& (BitVec.ofInt (IntKind.bits .u64) (3689348814741910323 : Int))).toNat : Int)) * 2 ^ (min (2 : Int).toNat (IntKind.bits .u64)))))).toNat : Int)) (2 ^ (min (4 : Int).toNat (IntKind.bits .u64))))) &&& (BitVec.ofInt (IntKind.bits .u64) (1085102592571150095 : Int))).toNat : Int))) ||| (BitVec.ofInt (IntKind.bits .u64) (IntKind.wrap .u64 ((IntKind.wrap .u64 (((BitVec.ofInt (IntKind.bits .u64) (IntKind.wrap .u64 (((BitVec.ofInt (IntKind.bits .u64) (IntKind.wrap .u64 (((BitVec.ofInt (IntKind.bits .u64) (Int.fdiv (IntKind.wrap .u64 (((BitVec.ofInt (IntKind.bits .u64) (IntKind.wrap .u64 (((BitVec.ofInt (IntKind.bits .u64) (Int.fdiv a0 (2 ^ (min (1 : Int).toNat (IntKind.bits .u64))))) &&& (BitVec.ofInt (IntKind.bits .u64) (6148914691236517205 : Int))).toNat : Int))) ||| (BitVec.ofInt (IntKind.bits .u64) (IntKind.wrap .u64 ((IntKind.wrap .u64 (((BitVec.ofInt (IntKind.bits .u64) a0) &&& (BitVec.ofInt (IntKind.bits .u64) (6148914691236517205 : Int))).toNat : Int)) * 2 ^ (min (1 : Int).toNat (IntKind.bits .u64)))))).toNat : Int)) (2 ^ (min (2 : Int).toNat (IntKind.bits .u64))))) &&& (BitVec.ofInt (IntKind.bits .u64) (3689348814741910323 : Int))).toNat : Int))) ||| (BitVec.ofInt (IntKind.bits .u64) (IntKind.wrap .u64 ((IntKind.wrap .u64 (((BitVec.ofInt (IntKind.bits .u64) (IntKind.wrap .u64 (((BitVec.ofInt (IntKind.bits .u64) (IntKind.wrap .u64 (((BitVec.ofInt (IntKind.bits .u64) (Int.fdiv a0 (2 ^ (min (1 : Int).toNat (IntKind.bits .u64))))) &&& (BitVec.ofInt (IntKind.bits .u64) (6148914691236517205 : Int))).toNat : Int))) ||| (BitVec.ofInt (IntKind.bits .u64) (IntKind.wrap .u64 ((IntKind.wrap .u64 (((BitVec.ofInt (IntKind.bits .u64) a0) &&& (BitVec.ofInt (IntKind.bits .u64) (6148914691236517205 : Int))).toNat : Int)) * 2 ^ (min (1 : Int).toNat (IntKind.bits .u64)))))).toNat : Int))) &&& (BitVec.ofInt (IntKind.bits .u64) (3689348814741910323 : Int))).toNat : Int)) * 2 ^ (min (2 : Int).toNat (IntKind.bits .u64)))))).toNat : Int))) &&& (BitVec.ofInt (IntKind.bits .u64) (1085102592571150095 : Int))).toNat : Int)) * 2 ^ (min (4 : Int).toNat (IntKind.bits .u64)))))).toNat : Int))).bind fun x1 =>
  some x1

theorem g_math_bits_Reverse64_ok (a0 : Int) (r : Int) (hf : g_math_bits_Reverse64 a0 = some r) : SCall Try.prog 175 [.one (.lit (.int .u64 a0))] (.one (.lit (.int .u64 r))) := by
  refine SCall.of Try.func175 rfl rfl rfl rfl fun S0 w0 => ?_
  unfold g_math_bits_Reverse64 at hf
  obtain ⟨x1, q1, hf⟩ := bind_some' hf
  replace hf := Option.some.inj hf
  subst hf
  exact toEnd_good allOk 10 _ _ [⟨[], [], [], [], [], [], []⟩, ⟨[], [], [], [], [], [], []⟩, ⟨[], [], [], [], [], [], []⟩, ⟨[], [], [], [], [], [], []⟩, ⟨[(1, .r (.one (.lit (.int .u64 x1))) [])], [], [], [], [], [], []⟩] [] [] [] [] [0 ≤ (1 : Int), 0 ≤ (1 : Int), 0 ≤ (2 : Int), 0 ≤ (2 : Int), 0 ≤ (4 : Int), 0 ≤ (4 : Int), SCall Try.prog 186 [.one (.lit (.int .u64 (IntKind.wrap .u64 (((BitVec.ofInt (IntKind.bits .u64) (IntKind.wrap .u64 (((BitVec.ofInt (IntKind.bits .u64) (Int.fdiv (IntKind.wrap .u64 (((BitVec.ofInt (IntKind.bits .u64) (IntKind.wrap .u64 (((BitVec.ofInt (IntKind.bits .u64) (Int.fdiv (IntKind.wrap .u64 (((BitVec.ofInt (IntKind.bits .u64) (IntKind.wrap .u64 (((BitVec.ofInt (IntKind.bits .u64) (Int.fdiv a0 (2 ^ (min (1 : Int).toNat (IntKind.bits .u64))))) &&& (BitVec.ofInt (IntKind.bits .u64) (6148914691236517205 : Int))).toNat : Int))) ||| (BitVec.ofInt (IntKind.bits .u64) (IntKind.wrap .u64 ((IntKind.wrap .u64 (((BitVec.ofInt (IntKind.bits .u64) a0) &&& (BitVec.ofInt (IntKind.bits .u64) (6148914691236517205 : Int))).toNat : Int)) * 2 ^ (min (1 : Int).toNat (IntKind.bits .u64)))))).toNat : Int)) (2 ^ (min (2 : Int).toNat (IntKind.bits .u64))))) &&& (BitVec.ofInt (IntKind.bits .u64) (3689348814741910323 : Int))).toNat : Int))) ||| (BitVec.ofInt (IntKind.bits .u64) (IntKind.wrap .u64 ((IntKind.wrap .u64 (((BitVec.ofInt (IntKind.bits .u64) (IntKind.wrap .u64 (((BitVec.ofInt (IntKind.bits .u64) (IntKind.wrap .u64 (((BitVec.ofInt (IntKind.bits .u64) (Int.fdiv a0 (2 ^ (min (1 : Int).toNat (IntKind.bits .u64))))) &&& (BitVec.ofInt (IntKind.bits .u64) (6148914691236517205 : Int))).toNat : Int))) ||| (BitVec.ofInt (IntKind.bits .u64) (IntKind.wrap .u64 ((IntKind.wrap .u64 (((BitVec.ofInt (IntKind.bits .u64) a0) &&& (BitVec.ofInt (IntKind.bits .u64) (6148914691236517205 : Int))).toNat : Int)) * 2 ^ (min (1 : Int).toNat (IntKind.bits .u64)))))).toNat : Int))) &&& (BitVec.ofInt (IntKind.bits .u64) (3689348814741910323 : Int))).toNat : Int)) * 2 ^ (min (2 : Int).toNat (IntKind.bits .u64)))))).toNat : Int)) (2 ^ (min (4 : Int).toNat (IntKind.bits .u64))))) &&& (BitVec.ofInt (IntKind.bits .u64) (1085102592571150095 : Int))).toNat : Int))) ||| (BitVec.ofInt (IntKind.bits .u64) (IntKind.wrap .u64 ((IntKind.wrap .u64 (((BitVec.ofInt (IntKind.bits .u64) (IntKind.wrap .u64 (((BitVec.ofInt (IntKind.bits .u64) (IntKind.wrap .u64 (((BitVec.ofInt (IntKind.bits .u64) (Int.fdiv (IntKind.wrap .u64 (((BitVec.ofInt (IntKind.bits .u64) (IntKind.wrap .u64 (((BitVec.ofInt (IntKind.bits .u64) (Int.fdiv a0 (2 ^ (min (1 : Int).toNat (IntKind.bits .u64))))) &&& (BitVec.ofInt (IntKind.bits .u64) (6148914691236517205 : Int))).toNat : Int))) ||| (BitVec.ofInt (IntKind.bits .u64) (IntKind.wrap .u64 ((IntKind.wrap .u64 (((BitVec.ofInt (IntKind.bits .u64) a0) &&& (BitVec.ofInt (IntKind.bits .u64) (6148914691236517205 : Int))).toNat : Int)) * 2 ^ (min (1 : Int).toNat (IntKind.bits .u64)))))).toNat : Int)) (2 ^ (min (2 : Int).toNat (IntKind.bits .u64))))) &&& (BitVec.ofInt (IntKind.bits .u64) (3689348814741910323 : Int))).toNat : Int))) ||| (BitVec.ofInt (IntKind.bits .u64) (IntKind.wrap .u64 ((IntKind.wrap .u64 (((BitVec.ofInt (IntKind.bits .u64) (IntKind.wrap .u64 (((BitVec.ofInt (IntKind.bits .u64) (IntKind.wrap .u64 (((BitVec.ofInt (IntKind.bits .u64) (Int.fdiv a0 (2 ^ (min (1 : Int).toNat (IntKind.bits .u64))))) &&& (BitVec.ofInt (IntKind.bits .u64) (6148914691236517205 : Int))).toNat : Int))) ||| (BitVec.ofInt (IntKind.bits .u64) (IntKind.wrap .u64 ((IntKind.wrap .u64 (((BitVec.ofInt (IntKind.bits .u64) a0) &&& (BitVec.ofInt (IntKind.bits .u64) (6148914691236517205 : Int))).toNat : Int)) * 2 ^ (min (1 : Int).toNat (IntKind.bits .u64)))))).toNat : Int))) &&& (BitVec.ofInt (IntKind.bits .u64) (3689348814741910323 : Int))).toNat : Int)) * 2 ^ (min (2 : Int).toNat (IntKind.bits .u64)))))).toNat : Int))) &&& (BitVec.ofInt (IntKind.bits .u64) (1085102592571150095 : Int))).toNat : Int)) * 2 ^ (min (4 : Int).toNat (IntKind.bits .u64)))))).toNat : Int))))] (.one (.lit (.int .u64 x1)))] (by kernel_rfl) rfl ⟨(by decide), (by decide), (by decide), (by decide), (by decide), (by decide), (g_math_bits_ReverseBytes64_ok (IntKind.wrap .u64 (((BitVec.ofInt (IntKind.bits .u64) (IntKind.wrap .u64 (((BitVec.ofInt (IntKind.bits .u64) (Int.fdiv (IntKind.wrap .u64 (((BitVec.ofInt (IntKind.bits .u64) (IntKind.wrap .u64 (((BitVec.ofInt (IntKind.bits .u64) (Int.fdiv (IntKind.wrap .u64 (((BitVec.ofInt (IntKind.bits .u64) (IntKind.wrap .u64 (((BitVec.ofInt (IntKind.bits .u64) (Int.fdiv a0 (2 ^ (min (1 : Int).toNat (IntKind.bits .u64))))) &&& (BitVec.ofInt (IntKind.bits .u64) (6148914691236517205 : Int))).toNat : Int))) ||| (BitVec.ofInt (IntKind.bits .u64) (IntKind.wrap .u64 ((IntKind.wrap .u64 (((BitVec.ofInt (IntKind.bits .u64) a0) &&& (BitVec.ofInt (IntKind.bits .u64) (6148914691236517205 : Int))).toNat : Int)) * 2 ^ (min (1 : Int).toNat (IntKind.bits .u64)))))).toNat : Int)) (2 ^ (min (2 : Int).toNat (IntKind.bits .u64))))) &&& (BitVec.ofInt (IntKind.bits .u64) (3689348814741910323 : Int))).toNat : Int))) ||| (BitVec.ofInt (IntKind.bits .u64) (IntKind.wrap .u64 ((IntKind.wrap .u64 (((BitVec.ofInt (IntKind.bits .u64) (IntKind.wrap .u64 (((BitVec.ofInt (IntKind.bits .u64) (IntKind.wrap .u64 (((BitVec.ofInt (IntKind.bits .u64) (Int.fdiv a0 (2 ^ (min (1 : Int).toNat (IntKind.bits .u64))))) &&& (BitVec.ofInt (IntKind.bits .u64) (6148914691236517205 : Int))).toNat : Int))) ||| (BitVec.ofInt (IntKind.bits .u64) (IntKind.wrap .u64 ((IntKind.wrap .u64 (((BitVec.ofInt (IntKind.bits .u64) a0) &&& (BitVec.ofInt (IntKind.bits .u64) (6148914691236517205 : Int))).toNat : Int)) * 2 ^ (min (1 : Int).toNat (IntKind.bits .u64)))))).toNat : Int))) &&& (BitVec.ofInt (IntKind.bits .u64) (3689348814741910323 : Int))).toNat : Int)) * 2 ^ (min (2 : Int).toNat (IntKind.bits .u64)))))).toNat : Int)) (2 ^ (min (4 : Int).toNat (IntKind.bits .u64))))) &&& (BitVec.ofInt (IntKind.bits .u64) (1085102592571150095 : Int))).toNat : Int))) ||| (BitVec.ofInt (IntKind.bits .u64) (IntKind.wrap .u64 ((IntKind.wrap .u64 (((BitVec.ofInt (IntKind.bits .u64) (IntKind.wrap .u64 (((BitVec.ofInt (IntKind.bits .u64) (IntKind.wrap .u64 (((BitVec.ofInt (IntKind.bits .u64) (Int.fdiv (IntKind.wrap .u64 (((BitVec.ofInt (IntKind.bits .u64) (IntKind.wrap .u64 (((BitVec.ofInt (IntKind.bits .u64) (Int.fdiv a0 (2 ^ (min (1 : Int).toNat (IntKind.bits .u64))))) &&& (BitVec.ofInt (IntKind.bits .u64) (6148914691236517205 : Int))).toNat : Int))) ||| (BitVec.ofInt (IntKind.bits .u64) (IntKind.wrap .u64 ((IntKind.wrap .u64 (((BitVec.ofInt (IntKind.bits .u64) a0) &&& (BitVec.ofInt (IntKind.bits .u64) (6148914691236517205 : Int))).toNat : Int)) * 2 ^ (min (1 : Int).toNat (IntKind.bits .u64)))))).toNat : Int)) (2 ^ (min (2 : Int).toNat (IntKind.bits .u64))))) &&& (BitVec.ofInt (IntKind.bits .u64) (3689348814741910323 : Int))).toNat : Int))) ||| (BitVec.ofInt (IntKind.bits .u64) (IntKind.wrap .u64 ((IntKind.wrap .u64 (((BitVec.ofInt (IntKind.bits .u64) (IntKind.wrap .u64 (((BitVec.ofInt (IntKind.bits .u64) (IntKind.wrap .u64 (((BitVec.ofInt (IntKind.bits .u64) (Int.fdiv a0 (2 ^ (min (1 : Int).toNat (IntKind.bits .u64))))) &&& (BitVec.ofInt (IntKind.bits .u64) (6148914691236517205 : Int))).toNat : Int))) ||| (BitVec.ofInt (IntKind.bits .u64) (IntKind.wrap .u64 ((IntKind.wrap .u64 (((BitVec.ofInt (IntKind.bits .u64) a0) &&& (BitVec.ofInt (IntKind.bits .u64) (6148914691236517205 : Int))).toNat : Int)) * 2 ^ (min (1 : Int).toNat (IntKind.bits .u64)))))).toNat : Int))) &&& (BitVec.ofInt (IntKind.bits .u64) (3689348814741910323 : Int))).toNat : Int)) * 2 ^ (min (2 : Int).toNat (IntKind.bits .u64)))))).toNat : Int))) &&& (BitVec.ofInt (IntKind.bits .u64) (1085102592571150095 : Int))).toNat : Int)) * 2 ^ (min (4 : Int).toNat (IntKind.bits .u64)))))).toNat : Int)) x1 q1), trivial⟩

/-- doorman/cidr.top -/
def g_cidr_top (a0 : Int) : Option Int :=
  need (0 ≤ (if (64 : Int) < (if (0 : Int) > a0 then (0 : Int) else a0) then (64 : Int) else (if (0 : Int) > a0 then (0 : Int) else a0))) <|
  (g_math_bits_Reverse64 (IntKind.wrap .u64 ((IntKind.wrap .u64 ((1 : Int) * 2 ^ (min (if (64 : Int) < (if (0 : Int) > a0 then (0 : Int) else a0) then (64 : Int) else (if (0 : Int) > a0 then (0 : Int) else a0)).toNat (IntKind.bits .u64)))) - (1 : Int)))).bind fun x1 =>
  some x1

theorem g_cidr_top_ok (a0 : Int) (r : Int) (hf : g_cidr_top a0 = some r) : SCall Try.prog 155 [.one (.lit (.int .i64 a0))] (.one (.lit (.int .u64 r))) := by
  refine SCall.of Try.func155 rfl rfl rfl rfl fun S0 w0 => ?_
  unfold g_cidr_top at hf
  obtain ⟨o1, hf⟩ := need_some hf
  obtain ⟨x1, q2, hf⟩ := bind_some' hf
  replace hf := Option.some.inj hf
  subst hf
  exact toEnd_good allOk 6 _ _ [⟨[], [], [], [], [], [], []⟩, ⟨[], [], [], [], [], [], []⟩, ⟨[(3, .r (.one (.lit (.int .u64 x1))) [])], [], [], [], [], [], []⟩] [] [] [] [] [0 ≤ (if (64 : Int) < (if (0 : Int) > a0 then (0 : Int) else a0) then (64 : Int) else (if (0 : Int) > a0 then (0 : Int) else a0)), SCall Try.prog 175 [.one (.lit (.int .u64 (IntKind.wrap .u64 ((IntKind.wrap .u64 ((1 : Int) * 2 ^ (min (if (64 : Int) < (if (0 : Int) > a0 then (0 : Int) else a0) then (64 : Int) else (if (0 : Int) > a0 then (0 : Int) else a0)).toNat (IntKind.bits .u64)))) - (1 : Int)))))] (.one (.lit (.int .u64 x1)))] (by kernel_rfl) rfl ⟨o1, (g_math_bits_Reverse64_ok (IntKind.wrap .u64 ((IntKind.wrap .u64 ((1 : Int) * 2 ^ (min (if (64 : Int) < (if (0 : Int) > a0 then (0 : Int) else a0) then (64 : Int) else (if (0 : Int) > a0 then (0 : Int) else a0)).toNat (IntKind.bits .u64)))) - (1 : Int))) x1 q2), trivial⟩

/-- doorman/cidr.masked -/
def g_cidr_masked (a0 : Int) (a1 : Int) (a2 : Int) : Option (Int × Int) :=
  (g_cidr_top a2).bind fun x1 =>
  (g_cidr_top (sub64 a2 (64 : Int))).bind fun x2 =>
  some ((IntKind.wrap .u64 (((BitVec.ofInt (IntKind.bits .u64) a0) &&& (BitVec.ofInt (IntKind.bits .u64) x1)).toNat : Int)), (IntKind.wrap .u64 (((BitVec.ofInt (IntKind.bits .u64) a1) &&& (BitVec.ofInt (IntKind.bits .u64) x2)).toNat : Int)))

theorem g_cidr_masked_ok (a0 : Int) (a1 : Int) (a2 : Int) (r : (Int × Int)) (hf : g_cidr_masked a0 a1 a2 = some r) : SCall Try.prog 156 [.one (.lit (.int .u64 a0)), .one (.lit (.int .u64 a1)), .one (.lit (.int .i64 a2))] (.tup [(false, (cI .u64) r.1), (false, (cI .u64) r.2)]) := by
  refine SCall.of Try.func156 rfl rfl rfl rfl fun S0 w0 => ?_
  unfold g_cidr_masked at hf
  obtain ⟨x1, q1, hf⟩ := bind_some' hf
  obtain ⟨x2, q2, hf⟩ := bind_some' hf
  replace hf := Option.some.inj hf
  subst hf
  exact toEnd_good allOk 4 _ _ [⟨[], [], [], [], [], [], []⟩, ⟨[(2, .r (.one (.lit (.int .u64 x1))) []), (7, .r (.one (.lit (.int .u64 x2))) [])], [], [], [], [], [], []⟩] [] [] [] [] [SCall Try.prog 155 [.one (.lit (.int .i64 a2))] (.one (.lit (.int .u64 x1))), SCall Try.prog 155 [.one (.lit (.int .i64 (sub64 a2 (64 : Int))))] (.one (.lit (.int .u64 x2)))] (by kernel_rfl) rfl ⟨(g_cidr_top_ok a2 x1 q1), (g_cidr_top_ok (sub64 a2 (64 : Int)) x2 q2), trivial⟩

/-- doorman/cidr.Mask -/
def g_cidr_Mask (a0 : T_api_Addr) (a1 : Int) : Option T_api_Addr :=
  (g_addr_Right a0).bind fun x1 =>
  bif (!x1) then
    some (T_api_Addr.mk false (0 : Int) (0 : Int))
  else
    (g_addr_Bits a0).bind fun x2 =>
    bif (!a0.fV6) then
      (g_cidr_top (if x2 < (if (0 : Int) > a1 then (0 : Int) else a1) then x2 else (if (0 : Int) > a1 then (0 : Int) else a1))).bind fun x3 =>
      some (T_api_Addr.mk a0.fV6 a0.fHi (IntKind.wrap .u64 (((BitVec.ofInt (IntKind.bits .u64) a0.fLo) &&& (BitVec.ofInt (IntKind.bits .u64) (Int.fdiv x3 (2 ^ (min (32 : Int).toNat (IntKind.bits .u64)))))).toNat : Int)))
    else
      (g_cidr_masked a0.fHi a0.fLo (if x2 < (if (0 : Int) > a1 then (0 : Int) else a1) then x2 else (if (0 : Int) > a1 then (0 : Int) else a1))).bind fun x4 =>
      some (T_api_Addr.mk a0.fV6 x4.1 x4.2)

theorem g_cidr_Mask_ok (a0 : T_api_Addr) (a1 : Int) (r : T_api_Addr) (hf : g_cidr_Mask a0 a1 = some r) : SCall Try.prog 129 [.agg (T_api_Addr.c a0), .one (.lit (.int .i64 a1))] (.agg (T_api_Addr.c r)) := by
  refine SCall.of Try.func129 rfl rfl rfl rfl fun S0 w0 => ?_
  unfold g_cidr_Mask at hf
  obtain ⟨x1, q1, hf⟩ := bind_some' hf
  rcases br_some hf with ⟨h2, hf⟩ | ⟨h2, hf⟩
  · replace hf := Option.some.inj hf
    subst hf
    exact toEnd_good allOk 8 _ _ [⟨[], [], [], [], [], [], []⟩, ⟨[(1, .r (.one (.lit (.bool x1))) [])], [], [], [], [], [], []⟩, ⟨[], [], [], [], [], [], []⟩] [true] [] [] [] [SCall Try.prog 77 [.agg (T_api_Addr.c a0)] (.one (.lit (.bool x1))), (!x1) = true] (by kernel_rfl) rfl ⟨(g_addr_Right_ok a0 x1 q1), h2, trivial⟩
  · obtain ⟨x2, q3, hf⟩ := bind_some' hf
    rcases br_some hf with ⟨h4, hf⟩ | ⟨h4, hf⟩
    · obtain ⟨x3, q5, hf⟩ := bind_some' hf
      replace hf := Option.some.inj hf
      subst hf
      exact toEnd_good allOk 17 _ _ [⟨[], [], [], [], [], [], []⟩, ⟨[(1, .r (.one (.lit (.bool x1))) [])], [], [], [], [], [], []⟩, ⟨[(3, .r (.one (.lit (.int .i64 x2))) [])], [], [], [], [], [], []⟩, ⟨[], [], [], [], [], [], []⟩, ⟨[(3, .r (.one (.lit (.int .u64 x3))) [])], [], [], [[], [0], [], [2], [3, 2], [1, 0, 4, 3, 2], [0, 1, 2, 3, 4, 5], [6, 0, 1, 2, 3, 4, 5]], [], [], []⟩, ⟨[], [], [], [], [], [], []⟩] [false, true] [] [] [] [SCall Try.prog 77 [.agg (T_api_Addr.c a0)] (.one (.lit (.bool x1))), (!x1) = false, SCall Try.prog 130 [.agg (T_api_Addr.c a0)] (.one (.lit (.int .i64 x2))), (!a0.fV6) = true, SCall Try.prog 155 [.one (.lit (.int .i64 (if x2 < (if (0 : Int) > a1 then (0 : Int) else a1) then x2 else (if (0 : Int) > a1 then (0 : Int) else a1))))] (.one (.lit (.int .u64 x3))), 0 ≤ (32 : Int)] (by kernel_rfl) rfl ⟨(g_addr_Right_ok a0 x1 q1), h2, (g_addr_Bits_ok a0 x2 q3), h4, (g_cidr_top_ok (if x2 < (if (0 : Int) > a1 then (0 : Int) else a1) then x2 else (if (0 : Int) > a1 then (0 : Int) else a1)) x3 q5), (by decide), trivial⟩
    · obtain ⟨x4, q6, hf⟩ := bind_some' hf
      replace hf := Option.some.inj hf
      subst hf
      exact toEnd_good allOk 18 _ _ [⟨[], [], [], [], [], [], []⟩, ⟨[(1, .r (.one (.lit (.bool x1))) [])], [], [], [], [], [], []⟩, ⟨[(3, .r (.one (.lit (.int .i64 x2))) [])], [], [], [], [], [], []⟩, ⟨[], [], [], [], [], [], []⟩, ⟨[(5, .r (.tup [(false, (cI .u64) x4.1), (false, (cI .u64) x4.2)]) [])], [], [], [], [], [], []⟩, ⟨[], [], [], [], [], [], []⟩] [false, false] [] [] [] [SCall Try.prog 77 [.agg (T_api_Addr.c a0)] (.one (.lit (.bool x1))), (!x1) = false, SCall Try.prog 130 [.agg (T_api_Addr.c a0)] (.one (.lit (.int .i64 x2))), (!a0.fV6) = false, SCall Try.prog 156 [.one (.lit (.int .u64 a0.fHi)), .one (.lit (.int .u64 a0.fLo)), .one (.lit (.int .i64 (if x2 < (if (0 : Int) > a1 then (0 : Int) else a1) then x2 else (if (0 : Int) > a1 then (0 : Int) else a1))))] (.tup [(false, (cI .u64) x4.1), (false, (cI .u64) x4.2)])] (by kernel_rfl) rfl ⟨(g_addr_Right_ok a0 x1 q1), h2, (g_addr_Bits_ok a0 x2 q3), h4, (g_cidr_masked_ok a0.fHi a0.fLo (if x2 < (if (0 : Int) > a1 then (0 : Int) else a1) then x2 else (if (0 : Int) > a1 then (0 : Int) else a1)) x4 q6), trivial⟩

/-- doorman/cidr.Make -/
def g_cidr_Make (a0 : T_api_Addr) (a1 : Int) : Option (T_api_Net × Bool) :=
  (g_addr_Right a0).bind fun x1 =>
  bif (!x1) then
    some ((T_api_Net.mk (T_api_Addr.mk false (0 : Int) (0 : Int)) (0 : Int)), false)
  else
    bif (decide (a1 < (0 : Int))) then
      some ((T_api_Net.mk (T_api_Addr.mk false (0 : Int) (0 : Int)) (0 : Int)), false)
    else
      (g_addr_Bits a0).bind fun x2 =>
      bif (decide (a1 > x2)) then
        some ((T_api_Net.mk (T_api_Addr.mk false (0 : Int) (0 : Int)) (0 : Int)), false)
      else
        (g_cidr_Mask a0 a1).bind fun x3 =>
        some ((T_api_Net.mk x3 a1), true)

theorem g_cidr_Make_ok (a0 : T_api_Addr) (a1 : Int) (r : (T_api_Net × Bool)) (hf : g_cidr_Make a0 a1 = some r) : SCall Try.prog 126 [.agg (T_api_Addr.c a0), .one (.lit (.int .i64 a1))] (.tup [(true, T_api_Net.c r.1), (false, cB r.2)]) := by
  refine SCall.of Try.func126 rfl rfl rfl rfl fun S0 w0 => ?_
  unfold g_cidr_Make at hf
  obtain ⟨x1, q1, hf⟩ := bind_some' hf
  rcases br_some hf with ⟨h2, hf⟩ | ⟨h2, hf⟩
  · replace hf := Option.some.inj hf
    subst hf
    exact toEnd_good allOk 8 _ _ [⟨[], [], [], [], [], [], []⟩, ⟨[(1, .r (.one (.lit (.bool x1))) [])], [(3, true)], [], [], [], [], []⟩, ⟨[], [], [], [], [], [], []⟩] [true] [] [] [] [SCall Try.prog 77 [.agg (T_api_Addr.c a0)] (.one (.lit (.bool x1))), (!x1) = true, true = true] (by kernel_rfl) rfl ⟨(g_addr_Right_ok a0 x1 q1), h2, rfl, trivial⟩
  · rcases br_some hf with ⟨h3, hf⟩ | ⟨h3, hf⟩
    · replace hf := Option.some.inj hf
      subst hf
      exact toEnd_good allOk 8 _ _ [⟨[], [], [], [], [], [], []⟩, ⟨[(1, .r (.one (.lit (.bool x1))) [])], [(3, false), (7, true)], [], [], [], [], []⟩, ⟨[], [], [], [], [], [], []⟩] [true] [] [] [] [SCall Try.prog 77 [.agg (T_api_Addr.c a0)] (.one (.lit (.bool x1))), (!x1) = false, (decide (a1 < (0 : Int))) = true, true = true] (by kernel_rfl) rfl ⟨(g_addr_Right_ok a0 x1 q1), h2, h3, rfl, trivial⟩
    · obtain ⟨x2, q4, hf⟩ := bind_some' hf
      rcases br_some hf with ⟨h5, hf⟩ | ⟨h5, hf⟩
      · replace hf := Option.some.inj hf
        subst hf
        exact toEnd_good allOk 8 _ _ [⟨[], [], [], [], [], [], []⟩, ⟨[(1, .r (.one (.lit (.bool x1))) []), (10, .r (.one (.lit (.int .i64 x2))) [])], [(3, false), (7, false)], [], [], [], [], []⟩, ⟨[], [], [], [], [], [], []⟩] [true] [] [] [] [SCall Try.prog 77 [.agg (T_api_Addr.c a0)] (.one (.lit (.bool x1))), (!x1) = false, (decide (a1 < (0 : Int))) = false, SCall Try.prog 130 [.agg (T_api_Addr.c a0)] (.one (.lit (.int .i64 x2))), (decide (a1 > x2)) = true] (by kernel_rfl) rfl ⟨(g_addr_Right_ok a0 x1 q1), h2, h3, (g_addr_Bits_ok a0 x2 q4), h5, trivial⟩
      · obtain ⟨x3, q6, hf⟩ := bind_some' hf
        replace hf := Option.some.inj hf
        subst hf
        exact toEnd_good allOk 9 _ _ [⟨[], [], [], [], [], [], []⟩, ⟨[(1, .r (.one (.lit (.bool x1))) []), (10, .r (.one (.lit (.int .i64 x2))) [])], [(3, false), (7, false)], [], [], [], [], []⟩, ⟨[(2, .r (.agg (T_api_Addr.c x3)) [])], [], [], [], [], [], []⟩] [false] [] [] [] [SCall Try.prog 77 [.agg (T_api_Addr.c a0)] (.one (.lit (.bool x1))), (!x1) = false, (decide (a1 < (0 : Int))) = false, SCall Try.prog 130 [.agg (T_api_Addr.c a0)] (.one (.lit (.int .i64 x2))), (decide (a1 > x2)) = false, SCall Try.prog 129 [.agg (T_api_Addr.c a0), .one (.lit (.int .i64 a1))] (.agg (T_api_Addr.c x3))] (by kernel_rfl) rfl ⟨(g_addr_Right_ok a0 x1 q1), h2, h3, (g_addr_Bits_ok a0 x2 q4), h5, (g_cidr_Mask_ok a0 a1 x3 q6), trivial⟩

/-- doorman/cidr.Right -/
def g_cidr_Right (a0 : T_api_Net) : Option Bool :=
  (g_cidr_Make a0.fAddr a0.fBits).bind fun x1 =>
  bif x1.2 then
    some (decide (x1.1 = a0))
  else
    some false

theorem g_cidr_Right_ok (a0 : T_api_Net) (r : Bool) (hf : g_cidr_Right a0 = some r) : SCall Try.prog 72 [.agg (T_api_Net.c a0)] (.one (.lit (.bool r))) := by
  refine SCall.of Try.func72 rfl rfl rfl rfl fun S0 w0 => ?_
  unfold g_cidr_Right at hf
  obtain ⟨x1, q1, hf⟩ := bind_some' hf
  rcases br_some hf with ⟨h2, hf⟩ | ⟨h2, hf⟩
  · replace hf := Option.some.inj hf
    subst hf
    exact toEnd_good allOk 6 _ _ [⟨[], [], [], [], [], [], []⟩, ⟨[(4, .r (.tup [(true, T_api_Net.c x1.1), (false, cB x1.2)]) [])], [], [], [], [], [], []⟩, ⟨[(4, .r (.one (.lit (.bool (decide (x1.1 = a0))))) [])], [(1, true)], [], [], [], [], []⟩] [] [] [] [] [SCall Try.prog 126 [.agg (T_api_Addr.c a0.fAddr), .one (.lit (.int .i64 a0.fBits))] (.tup [(true, T_api_Net.c x1.1), (false, cB x1.2)]), x1.2 = true, ∀ w, (do eqGuard .eql 27 (.tmp 15) (.tmp 16) (.agg #[.bool x1.1.fAddr.fV6, .int .u64 x1.1.fAddr.fHi, .int .u64 x1.1.fAddr.fLo, .int .i64 x1.1.fBits]) (.agg #[.bool a0.fAddr.fV6, .int .u64 a0.fAddr.fHi, .int .u64 a0.fAddr.fLo, .int .i64 a0.fBits]); binOp .eql 27 (.agg #[.bool x1.1.fAddr.fV6, .int .u64 x1.1.fAddr.fHi, .int .u64 x1.1.fAddr.fLo, .int .i64 x1.1.fBits]) (.agg #[.bool a0.fAddr.fV6, .int .u64 a0.fAddr.fHi, .int .u64 a0.fAddr.fLo, .int .i64 a0.fBits]) : Sem Value).run Try.prog w = .ok (.bool (decide (x1.1 = a0))) w] (by kernel_rfl) rfl ⟨(g_cidr_Make_ok a0.fAddr a0.fBits x1 q1), h2, (eql_T_api_Net x1.1 a0 _ _), trivial⟩
  · replace hf := Option.some.inj hf
    subst hf
    exact toEnd_good allOk 6 _ _ [⟨[], [], [], [], [], [], []⟩, ⟨[(4, .r (.tup [(true, T_api_Net.c x1.1), (false, cB x1.2)]) [])], [], [], [], [], [], []⟩, ⟨[], [(1, false)], [], [], [], [], []⟩] [] [] [] [] [SCall Try.prog 126 [.agg (T_api_Addr.c a0.fAddr), .one (.lit (.int .i64 a0.fBits))] (.tup [(true, T_api_Net.c x1.1), (false, cB x1.2)]), x1.2 = false] (by kernel_rfl) rfl ⟨(g_cidr_Make_ok a0.fAddr a0.fBits x1 q1), h2, trivial⟩

/-- doorman/ban.Right -/
def g_ban_Right (a0 : T_api_Ban) : Option Bool :=
  (g_cidr_Right a0.fNet).bind fun x1 =>
  bif x1 then
    bif (decide (a0.fUntil ≥ (1 : Int))) then
      some (decide (a0.fUntil ≤ (1099511627776 : Int)))
    else
      some false
  else
    some false

theorem g_ban_Right_ok (a0 : T_api_Ban) (r : Bool) (hf : g_ban_Right a0 = some r) : SCall Try.prog 97 [.agg (T_api_Ban.c a0)] (.one (.lit (.bool r))) := by
  refine SCall.of Try.func97 rfl rfl rfl rfl fun S0 w0 => ?_
  unfold g_ban_Right at hf
  obtain ⟨x1, q1, hf⟩ := bind_some' hf
  rcases br_some hf with ⟨h2, hf⟩ | ⟨h2, hf⟩
  · rcases br_some hf with ⟨h3, hf⟩ | ⟨h3, hf⟩
    · replace hf := Option.some.inj hf
      subst hf
      exact toEnd_good allOk 4 _ _ [⟨[], [], [], [], [], [], []⟩, ⟨[(2, .r (.one (.lit (.bool x1))) [])], [(3, true), (8, true)], [], [], [], [], []⟩] [] [] [] [] [SCall Try.prog 72 [.agg (T_api_Net.c a0.fNet)] (.one (.lit (.bool x1))), x1 = true, (decide (a0.fUntil ≥ (1 : Int))) = true] (by kernel_rfl) rfl ⟨(g_cidr_Right_ok a0.fNet x1 q1), h2, h3, trivial⟩
    · replace hf := Option.some.inj hf
      subst hf
      exact toEnd_good allOk 4 _ _ [⟨[], [], [], [], [], [], []⟩, ⟨[(2, .r (.one (.lit (.bool x1))) [])], [(3, true), (8, false)], [], [], [], [], []⟩] [] [] [] [] [SCall Try.prog 72 [.agg (T_api_Net.c a0.fNet)] (.one (.lit (.bool x1))), x1 = true, (decide (a0.fUntil ≥ (1 : Int))) = false] (by kernel_rfl) rfl ⟨(g_cidr_Right_ok a0.fNet x1 q1), h2, h3, trivial⟩
  · replace hf := Option.some.inj hf
    subst hf
    exact toEnd_good allOk 4 _ _ [⟨[], [], [], [], [], [], []⟩, ⟨[(2, .r (.one (.lit (.bool x1))) [])], [(3, false)], [], [], [], [], []⟩] [] [] [] [] [SCall Try.prog 72 [.agg (T_api_Net.c a0.fNet)] (.one (.lit (.bool x1))), x1 = false] (by kernel_rfl) rfl ⟨(g_cidr_Right_ok a0.fNet x1 q1), h2, trivial⟩

/-- slices.Clone[[]doorman/api.Ban,doorman/api.Ban] -/
def g_slices_Clone_doorman_api_Ban_doorman_api_Ban_n (a0 : (List T_api_Ban)) : Option (List T_api_Ban) :=
  need (0 < a0.length) <|
  need ((([] : List T_api_Ban) ++ a0).length * 40 ≤ 140737488355328 ∧ (([] : List T_api_Ban) ++ a0).length ≤ maxLen) <|
  some (([] : List T_api_Ban) ++ a0)

theorem g_slices_Clone_doorman_api_Ban_doorman_api_Ban_n_own (a0 : (List T_api_Ban)) (r : (List T_api_Ban)) (hf : g_slices_Clone_doorman_api_Ban_doorman_api_Ban_n a0 = some r) : HCall Try.prog 98 [] [.one (cL 5 T_api_Ban.c T_api_Ban.d a0)] [(99999, .rows 79 5 r.length (rowsOf T_api_Ban.c T_api_Ban.d r))] (.one (.osl 99999 r.length)) := by
  refine HCall.of Try.func98 rfl rfl rfl rfl fun S0 w0 => ?_
  unfold g_slices_Clone_doorman_api_Ban_doorman_api_Ban_n at hf
  obtain ⟨o1, hf⟩ := need_some hf
  obtain ⟨o2, hf⟩ := need_some hf
  replace hf := Option.some.inj hf
  subst hf
  exact toEndH_good allOk 9 _ _ [⟨[], [], [], [], [], [], []⟩, ⟨[], [], [], [], [], [], []⟩, ⟨[(0, .c ([] : List T_api_Ban).length (rowsOf T_api_Ban.c T_api_Ban.d ([] : List T_api_Ban))), (2, .c ((([] : List T_api_Ban) ++ a0).length) (rowsOf T_api_Ban.c T_api_Ban.d (([] : List T_api_Ban) ++ a0)))], [], [], [], [], [], []⟩] [false] ⟨[], [], [], [], [], [2], [7], [(7, 99999)]⟩ [0 < a0.length, false = false, ([] : List T_api_Ban).length = 0, ∀ i j, i < 0 → j < 5 → rowsOf T_api_Ban.c T_api_Ban.d ([] : List T_api_Ban) i j = (([] : List T_api_Ban).flatMap T_api_Ban.c).getD (i * 5 + j) .junk, Ext 5 (([] : List T_api_Ban).length) a0.length (rowsOf T_api_Ban.c T_api_Ban.d ([] : List T_api_Ban)) (rowsOf T_api_Ban.c T_api_Ban.d a0) ((([] : List T_api_Ban) ++ a0).length) (rowsOf T_api_Ban.c T_api_Ban.d (([] : List T_api_Ban) ++ a0)), (([] : List T_api_Ban) ++ a0).length * 40 ≤ 140737488355328, (([] : List T_api_Ban) ++ a0).length ≤ maxLen] (by kernel_rfl) ⟨o1, rfl, rfl, (fun i j hi hj => rows_flat (sz := 5) (e := T_api_Ban.c) (d := T_api_Ban.d) (fun _ => rfl) ([] : List T_api_Ban) i j hi hj), (ext_app _ _), o2.1, o2.2, trivial⟩

theorem g_slices_Clone_doorman_api_Ban_doorman_api_Ban_n_ok (a0 : (List T_api_Ban)) (r : (List T_api_Ban)) (hf : g_slices_Clone_doorman_api_Ban_doorman_api_Ban_n a0 = some r) : SCall Try.prog 98 [.one (cL 5 T_api_Ban.c T_api_Ban.d a0)] (.one (cL 5 T_api_Ban.c T_api_Ban.d r)) := (g_slices_Clone_doorman_api_Ban_doorman_api_Ban_n_own a0 r hf).pure

theorem g_slices_Clone_doorman_api_Ban_doorman_api_Ban_lit (x : Addr) (cap : Nat) (c : Nat → Nat → C) : HCall Try.prog 98 [] [.one (.lit (.slice (some x) 0 cap))] [(99999, .rows 79 5 0 c)] (.one (.osl 99999 0)) := by
  refine HCall.of Try.func98 rfl rfl rfl rfl fun S0 w0 => ?_
  exact toEndH_good allOk 9 _ _ [⟨[], [], [], [], [], [], []⟩, ⟨[(1, .r (.one (.lit (.bool false))) [])], [], [], [], [], [], []⟩, ⟨[(0, .c 0 c), (2, .c 0 c)], [], [], [], [], [], []⟩] [false] ⟨[], [], [], [], [], [2], [7], [(7, 99999)]⟩
    [∀ w, (do eqGuard .eql 73 (.tmp 3) (.const (.slice none 0 0)) (.slice (some x) 0 cap) (.slice none 0 0); binOp .eql 73 (.slice (some x) 0 cap) (.slice none 0 0) : Sem Value).run Try.prog w = .ok (.bool false) w, false = false, 0 = 0, ∀ i j, i < 0 → j < 5 → c i j = ([] : List C).getD (i * 5 + j) .junk, Ext 5 0 0 c (fun _ _ => .junk) 0 c, 0 * 40 ≤ 140737488355328, 0 ≤ maxLen] (by kernel_rfl) ⟨fun w => by
      have hg : (eqGuard .eql 73 (.tmp 3) (.const (.slice none 0 0)) (.slice (some x) 0 cap) (.slice none 0 0)).run Try.prog w = .ok () w := by simp [eqGuard]
      rw [Sem.run_bind, hg, Result.andThen_ok]
      exact Go.run_eql_slice_nil w _ _ (some x) 0 cap Try.underlying73, rfl, rfl, fun i j h => absurd h (Nat.not_lt_zero i), ⟨rfl, fun _ _ h => absurd h (Nat.not_lt_zero _), fun _ _ h => absurd h (Nat.not_lt_zero _)⟩, by decide, by decide, trivial⟩

theorem g_slices_Clone_doorman_api_Ban_doorman_api_Ban_nil (cap : Nat) (c : Nat → Nat → C) : HCall Try.prog 98 [] [.one (.lit (.slice none 0 cap))] [(99999, .rows 79 5 0 c)] (.one (.osl 99999 0)) := by
  refine HCall.of Try.func98 rfl rfl rfl rfl fun S0 w0 => ?_
  exact toEndH_good allOk 8 _ _ [⟨[], [], [], [], [], [], []⟩, ⟨[(1, .r (.one (.lit (.bool true))) [])], [], [], [], [], [], []⟩, ⟨[], [], [], [], [], [], []⟩] [true] ⟨[], [], [], [], [(2, 99999, 79, 5, c)], [2], [99999], []⟩
    [∀ w, (do eqGuard .eql 73 (.tmp 3) (.const (.slice none 0 0)) (.slice none 0 cap) (.slice none 0 0); binOp .eql 73 (.slice none 0 cap) (.slice none 0 0) : Sem Value).run Try.prog w = .ok (.bool true) w, true = true] (by kernel_rfl) ⟨fun w => by
      have hg : (eqGuard .eql 73 (.tmp 3) (.const (.slice none 0 0)) (.slice none 0 cap) (.slice none 0 0)).run Try.prog w = .ok () w := by simp [eqGuard]
      rw [Sem.run_bind, hg, Result.andThen_ok]
      exact Go.run_eql_slice_nil w _ _ none 0 cap Try.underlying73, rfl, trivial⟩

/-- slices.Clone[[]doorman/api.Ban,doorman/api.Ban] -/
def g_slices_Clone_doorman_api_Ban_doorman_api_Ban (a0 : List T_api_Ban) : Option (List T_api_Ban) :=
  need (a0.length * 40 ≤ 140737488355328 ∧ a0.length ≤ maxLen) <|
  some a0

theorem g_slices_Clone_doorman_api_Ban_doorman_api_Ban_own (a0 : List T_api_Ban) (r : List T_api_Ban) (hf : g_slices_Clone_doorman_api_Ban_doorman_api_Ban a0 = some r) : HCall Try.prog 98 [] [.one (cL 5 T_api_Ban.c T_api_Ban.d a0)] [(99999, .rows 79 5 r.length (rowsOf T_api_Ban.c T_api_Ban.d r))] (.one (.osl 99999 r.length)) := by
  obtain ⟨o1, hf⟩ := need_some hf
  cases hf
  refine clone_parts ⟨_, Try.func98, rfl, rfl⟩ (fun h cap => ?_) (fun h x cap => ?_) (fun h => ?_)
  · rw [h]; exact g_slices_Clone_doorman_api_Ban_doorman_api_Ban_nil cap _
  · rw [h]; exact g_slices_Clone_doorman_api_Ban_doorman_api_Ban_lit x cap _
  · refine g_slices_Clone_doorman_api_Ban_doorman_api_Ban_n_own a0 a0 ?_
    unfold g_slices_Clone_doorman_api_Ban_doorman_api_Ban_n
    rw [need_pos h, need_pos (by simpa using o1)]
    simp

theorem g_slices_Clone_doorman_api_Ban_doorman_api_Ban_ok (a0 : List T_api_Ban) (r : List T_api_Ban) (hf : g_slices_Clone_doorman_api_Ban_doorman_api_Ban a0 = some r) : SCall Try.prog 98 [.one (cL 5 T_api_Ban.c T_api_Ban.d a0)] (.one (cL 5 T_api_Ban.c T_api_Ban.d r)) := (g_slices_Clone_doorman_api_Ban_doorman_api_Ban_own a0 r hf).pure

/-- doorman/bans.find$1 -/
def g_bans_find_1 (a0 : T_api_Ban) (c0 : T_api_Net) : Option Bool :=
  some (decide (a0.fNet = c0))

theorem g_bans_find_1_ok (a0 : T_api_Ban) (c0 : T_api_Net) (r : Bool) (hf : g_bans_find_1 a0 c0 = some r) : SCall Try.prog 141 [.agg (T_api_Ban.c a0), .one (.rp false 4 (fun j => (T_api_Net.c c0 : List C).getD (0 + j) .junk))] (.one (.lit (.bool r))) := by
  refine SCall.of Try.func141 rfl rfl rfl rfl fun S0 w0 => ?_
  unfold g_bans_find_1 at hf
  replace hf := Option.some.inj hf
  subst hf
  exact toEnd_good allOk 4 _ _ [⟨[], [], [], [], [], [], []⟩, ⟨[(3, .r (.one (.lit (.bool (decide (a0.fNet = c0))))) [])], [], [], [], [], [], []⟩] [] [] [] [] [∀ w, (do eqGuard .eql 27 (.tmp 5) (.tmp 6) (.agg #[.bool a0.fNet.fAddr.fV6, .int .u64 a0.fNet.fAddr.fHi, .int .u64 a0.fNet.fAddr.fLo, .int .i64 a0.fNet.fBits]) (.agg #[.bool c0.fAddr.fV6, .int .u64 c0.fAddr.fHi, .int .u64 c0.fAddr.fLo, .int .i64 c0.fBits]); binOp .eql 27 (.agg #[.bool a0.fNet.fAddr.fV6, .int .u64 a0.fNet.fAddr.fHi, .int .u64 a0.fNet.fAddr.fLo, .int .i64 a0.fNet.fBits]) (.agg #[.bool c0.fAddr.fV6, .int .u64 c0.fAddr.fHi, .int .u64 c0.fAddr.fLo, .int .i64 c0.fBits]) : Sem Value).run Try.prog w = .ok (.bool (decide (a0.fNet = c0))) w] (by kernel_rfl) rfl ⟨(eql_T_api_Net a0.fNet c0 _ _), trivial⟩

def g_slices_IndexFunc_api_Ban_api_Ban_141_c0 (a0 : (List T_api_Ban)) (a1_0 : T_api_Net)  : Nat → Int → Int → Option Int
  | 0, _, _ => none
  | fu + 1, v7, v8 =>
    bif (decide (v8 < v7)) then
      need (0 ≤ v8 ∧ v8 < ((a0.length : Nat) : Int)) <|
      (g_bans_find_1 (a0.getD v8.toNat T_api_Ban.d) a1_0).bind fun x1 =>
      bif x1 then
        some v8
      else
        g_slices_IndexFunc_api_Ban_api_Ban_141_c0 a0 a1_0  fu v7 (add64 v8 (1 : Int))
    else
      some (-1 : Int)

theorem g_slices_IndexFunc_api_Ban_api_Ban_141_c0_ok (S0 : Nat → Prop) (w0 : Start) (a0 : (List T_api_Ban)) (a1_0 : T_api_Net)  : ∀ (fu : Nat) (v7 : Int) (v8 : Int) (r : Int), g_slices_IndexFunc_api_Ban_api_Ban_141_c0 a0 a1_0  fu v7 v8 = some r → Good Try.prog 19 S0 w0 (bodyPost Try.prog Try.f101 (Post S0 w0 (.one (.lit (.int .i64 r))))) (at_ [1, 0, 1, 0] (bodyOf Try.f101)) ⟨[(0, .one (cL 5 T_api_Ban.c T_api_Ban.d a0)), (1, .one (.clo (.func 141) 0 1 (fun i => ([] : List C).getD i .junk) (fun i => ([.rp false 4 (fun j => (T_api_Net.c a1_0 : List C).getD (0 + j) .junk)] : List C).getD i .junk))), (7, .one (.lit (.int .i64 v7))), (8, .one (.lit (.int .i64 v8)))], []⟩ := by
  intro fu
  induction fu with
  | zero =>
    intro v7 v8 r hf
    simp [g_slices_IndexFunc_api_Ban_api_Ban_141_c0] at hf
  | succ fu ih =>
    intro v7 v8 r hf
    unfold g_slices_IndexFunc_api_Ban_api_Ban_141_c0 at hf
    rcases br_some hf with ⟨h1, hf⟩ | ⟨h1, hf⟩
    · obtain ⟨o2, hf⟩ := need_some hf
      obtain ⟨x1, q3, hf⟩ := bind_some' hf
      rcases br_some hf with ⟨h4, hf⟩ | ⟨h4, hf⟩
      · replace hf := Option.some.inj hf
        subst hf
        exact toEnd_good allOk 15 _ _ [⟨[], [], [], [], [], [], []⟩, ⟨[], [], [], [], [], [], []⟩, ⟨[(5, .r (.one (.lit (.bool x1))) [])], [], [], [], [], [], []⟩, ⟨[], [], [], [], [], [], []⟩] [true, true] [] [] [] [(decide (v8 < v7)) = true, 0 ≤ v8 ∧ v8 < ((a0.length : Nat) : Int), SCall Try.prog 141 [.agg (T_api_Ban.c (a0.getD v8.toNat T_api_Ban.d)), .one (.rp false 4 (fun j => (T_api_Net.c a1_0 : List C).getD (0 + j) .junk))] (.one (.lit (.bool x1))), x1 = true] (by kernel_rfl) rfl ⟨h1, o2, (g_bans_find_1_ok (a0.getD v8.toNat T_api_Ban.d) a1_0 x1 q3), h4, trivial⟩
      · exact toK_good allOk Post.ends 17 _ _ _ _ [⟨[], [], [], [], [], [], []⟩, ⟨[], [], [], [], [], [], []⟩, ⟨[(5, .r (.one (.lit (.bool x1))) [])], [], [], [], [], [], []⟩, ⟨[], [], [], [], [], [], []⟩] [true, false] ⟨[], [], [], [], [], [0, 1, 7, 8], [], []⟩ [(decide (v8 < v7)) = true, 0 ≤ v8 ∧ v8 < ((a0.length : Nat) : Int), SCall Try.prog 141 [.agg (T_api_Ban.c (a0.getD v8.toNat T_api_Ban.d)), .one (.rp false 4 (fun j => (T_api_Net.c a1_0 : List C).getD (0 + j) .junk))] (.one (.lit (.bool x1))), x1 = false] (by kernel_rfl) ⟨h1, o2, (g_bans_find_1_ok (a0.getD v8.toNat T_api_Ban.d) a1_0 x1 q3), h4, trivial⟩ (ih v7 (add64 v8 (1 : Int)) r hf)
    · replace hf := Option.some.inj hf
      subst hf
      exact toEnd_good allOk 8 _ _ [⟨[], [], [], [], [], [], []⟩, ⟨[], [], [], [], [], [], []⟩] [false] [] [] [] [(decide (v8 < v7)) = false] (by kernel_rfl) rfl ⟨h1, trivial⟩

/-- slices.IndexFunc[[]doorman/api.Ban,doorman/api.Ban] -/
def g_slices_IndexFunc_api_Ban_api_Ban_141 (a0 : (List T_api_Ban)) (a1_0 : T_api_Net) : Option Int :=
  g_slices_IndexFunc_api_Ban_api_Ban_141_c0 a0 a1_0  ((((a0.length : Nat) : Int) - (0 : Int)).toNat + 2) ((a0.length : Nat) : Int) (0 : Int)

theorem g_slices_IndexFunc_api_Ban_api_Ban_141_ok (a0 : (List T_api_Ban)) (a1_0 : T_api_Net) (r : Int) (hf : g_slices_IndexFunc_api_Ban_api_Ban_141 a0 a1_0 = some r) : SCall Try.prog 101 [.one (cL 5 T_api_Ban.c T_api_Ban.d a0), .one (.clo (.func 141) 0 1 (fun i => ([] : List C).getD i .junk) (fun i => ([.rp false 4 (fun j => (T_api_Net.c a1_0 : List C).getD (0 + j) .junk)] : List C).getD i .junk))] (.one (.lit (.int .i64 r))) := by
  refine SCall.of Try.func101 rfl rfl rfl rfl fun S0 w0 => ?_
  unfold g_slices_IndexFunc_api_Ban_api_Ban_141 at hf
  exact toK_good allOk Post.ends 6 _ _ _ _ [⟨[], [], [], [], [], [], []⟩, ⟨[], [], [], [], [], [], []⟩] [] ⟨[], [], [], [], [], [0, 1, 7, 8], [], []⟩ [] (by kernel_rfl) trivial (g_slices_IndexFunc_api_Ban_api_Ban_141_c0_ok S0 w0 a0 a1_0   ((((a0.length : Nat) : Int) - (0 : Int)).toNat + 2) ((a0.length : Nat) : Int) (0 : Int) r hf)

/-- doorman/bans.find -/
def g_bans_find (a0 : (List T_api_Ban)) (a1 : T_api_Net) : Option Int :=
  (g_slices_IndexFunc_api_Ban_api_Ban_141 a0 a1).bind fun x1 =>
  some x1

theorem g_bans_find_ok (a0 : (List T_api_Ban)) (a1 : T_api_Net) (r : Int) (hf : g_bans_find a0 a1 = some r) : SCall Try.prog 99 [.one (cL 5 T_api_Ban.c T_api_Ban.d a0), .agg (T_api_Net.c a1)] (.one (.lit (.int .i64 r))) := by
  refine SCall.of Try.func99 rfl rfl rfl rfl fun S0 w0 => ?_
  unfold g_bans_find at hf
  obtain ⟨x1, q1, hf⟩ := bind_some' hf
  replace hf := Option.some.inj hf
  subst hf
  exact toEnd_good allOk 4 _ _ [⟨[], [], [], [], [], [], []⟩, ⟨[(2, .r (.one (.lit (.int .i64 x1))) [])], [], [(1, [3])], [], [], [], []⟩] [] [] [] [] [SCall Try.prog 101 [.one (cL 5 T_api_Ban.c T_api_Ban.d a0), .one (.clo (.func 141) 0 1 (fun i => ([] : List C).getD i .junk) (fun i => ([.rp false 4 (fun j => (T_api_Net.c a1 : List C).getD (0 + j) .junk)] : List C).getD i .junk))] (.one (.lit (.int .i64 x1)))] (by kernel_rfl) rfl ⟨(g_slices_IndexFunc_api_Ban_api_Ban_141_ok a0 a1 x1 q1), trivial⟩

/-- doorman/ban.Join -/
def g_ban_Join (a0 : T_api_Ban) (a1 : T_api_Ban) : Option T_api_Ban :=
  bif (decide (a0.fNet = a1.fNet)) then
    some (T_api_Ban.mk a0.fNet (if a1.fUntil > a0.fUntil then a1.fUntil else a0.fUntil))
  else
    some a0

theorem g_ban_Join_ok (a0 : T_api_Ban) (a1 : T_api_Ban) (r : T_api_Ban) (hf : g_ban_Join a0 a1 = some r) : SCall Try.prog 100 [.agg (T_api_Ban.c a0), .agg (T_api_Ban.c a1)] (.agg (T_api_Ban.c r)) := by
  refine SCall.of Try.func100 rfl rfl rfl rfl fun S0 w0 => ?_
  unfold g_ban_Join at hf
  rcases br_some hf with ⟨h1, hf⟩ | ⟨h1, hf⟩
  · replace hf := Option.some.inj hf
    subst hf
    exact toEnd_good allOk 9 _ _ [⟨[], [], [], [], [], [], []⟩, ⟨[(4, .r (.one (.lit (.bool (decide (a0.fNet = a1.fNet))))) [])], [], [], [], [], [], []⟩, ⟨[], [], [], [], [], [], []⟩, ⟨[], [], [], [], [], [], []⟩] [true] [] [] [] [∀ w, (do eqGuard .eql 27 (.tmp 6) (.tmp 8) (.agg #[.bool a0.fNet.fAddr.fV6, .int .u64 a0.fNet.fAddr.fHi, .int .u64 a0.fNet.fAddr.fLo, .int .i64 a0.fNet.fBits]) (.agg #[.bool a1.fNet.fAddr.fV6, .int .u64 a1.fNet.fAddr.fHi, .int .u64 a1.fNet.fAddr.fLo, .int .i64 a1.fNet.fBits]); binOp .eql 27 (.agg #[.bool a0.fNet.fAddr.fV6, .int .u64 a0.fNet.fAddr.fHi, .int .u64 a0.fNet.fAddr.fLo, .int .i64 a0.fNet.fBits]) (.agg #[.bool a1.fNet.fAddr.fV6, .int .u64 a1.fNet.fAddr.fHi, .int .u64 a1.fNet.fAddr.fLo, .int .i64 a1.fNet.fBits]) : Sem Value).run Try.prog w = .ok (.bool (decide (a0.fNet = a1.fNet))) w, (decide (a0.fNet = a1.fNet)) = true] (by kernel_rfl) rfl ⟨(eql_T_api_Net a0.fNet a1.fNet _ _), h1, trivial⟩
  · replace hf := Option.some.inj hf
    subst hf
    exact toEnd_good allOk 9 _ _ [⟨[], [], [], [], [], [], []⟩, ⟨[(4, .r (.one (.lit (.bool (decide (a0.fNet = a1.fNet))))) [])], [], [], [], [], [], []⟩, ⟨[], [], [], [], [], [], []⟩] [false] [] [] [] [∀ w, (do eqGuard .eql 27 (.tmp 6) (.tmp 8) (.agg #[.bool a0.fNet.fAddr.fV6, .int .u64 a0.fNet.fAddr.fHi, .int .u64 a0.fNet.fAddr.fLo, .int .i64 a0.fNet.fBits]) (.agg #[.bool a1.fNet.fAddr.fV6, .int .u64 a1.fNet.fAddr.fHi, .int .u64 a1.fNet.fAddr.fLo, .int .i64 a1.fNet.fBits]); binOp .eql 27 (.agg #[.bool a0.fNet.fAddr.fV6, .int .u64 a0.fNet.fAddr.fHi, .int .u64 a0.fNet.fAddr.fLo, .int .i64 a0.fNet.fBits]) (.agg #[.bool a1.fNet.fAddr.fV6, .int .u64 a1.fNet.fAddr.fHi, .int .u64 a1.fNet.fAddr.fLo, .int .i64 a1.fNet.fBits]) : Sem Value).run Try.prog w = .ok (.bool (decide (a0.fNet = a1.fNet))) w, (decide (a0.fNet = a1.fNet)) = false] (by kernel_rfl) rfl ⟨(eql_T_api_Net a0.fNet a1.fNet _ _), h1, trivial⟩

/-- doorman/addr.family -/
def g_addr_family (a0 : T_api_Addr) : Option Int :=
  bif a0.fV6 then
    some (1 : Int)
  else
    some (0 : Int)

theorem g_addr_family_ok (a0 : T_api_Addr) (r : Int) (hf : g_addr_family a0 = some r) : SCall Try.prog 158 [.agg (T_api_Addr.c a0)] (.one (.lit (.int .i64 r))) := by
  refine SCall.of Try.func158 rfl rfl rfl rfl fun S0 w0 => ?_
  unfold g_addr_family at hf
  rcases br_some hf with ⟨h1, hf⟩ | ⟨h1, hf⟩
  · replace hf := Option.some.inj hf
    subst hf
    exact toEnd_good allOk 8 _ _ [⟨[], [], [], [], [], [], []⟩, ⟨[], [], [], [], [], [], []⟩, ⟨[], [], [], [], [], [], []⟩] [true] [] [] [] [a0.fV6 = true] (by kernel_rfl) rfl ⟨h1, trivial⟩
  · replace hf := Option.some.inj hf
    subst hf
    exact toEnd_good allOk 9 _ _ [⟨[], [], [], [], [], [], []⟩, ⟨[], [], [], [], [], [], []⟩, ⟨[], [], [], [], [], [], []⟩] [false] [] [] [] [a0.fV6 = false] (by kernel_rfl) rfl ⟨h1, trivial⟩

/-- cmp.isNaN[int] -/
def g_cmp_isNaN_int (a0 : Int) : Option Bool :=
  some (a0 != a0)

theorem g_cmp_isNaN_int_ok (a0 : Int) (r : Bool) (hf : g_cmp_isNaN_int a0 = some r) : SCall Try.prog 160 [.one (.lit (.int .i64 a0))] (.one (.lit (.bool r))) := by
  refine SCall.of Try.func160 rfl rfl rfl rfl fun S0 w0 => ?_
  unfold g_cmp_isNaN_int at hf
  replace hf := Option.some.inj hf
  subst hf
  exact toEnd_good allOk 4 _ _ [⟨[], [], [], [], [], [], []⟩, ⟨[], [], [], [], [], [], []⟩] [] [] [] [] [] (by kernel_rfl) rfl trivial

/-- cmp.Compare[int] -/
def g_cmp_Compare_int (a0 : Int) (a1 : Int) : Option Int :=
  (g_cmp_isNaN_int a0).bind fun x1 =>
  (g_cmp_isNaN_int a1).bind fun x2 =>
  bif x1 then
    bif x2 then
      some (0 : Int)
    else
      some (-1 : Int)
  else
    bif x2 then
      some (1 : Int)
    else
      bif (decide (a0 < a1)) then
        some (-1 : Int)
      else
        bif (decide (a0 > a1)) then
          some (1 : Int)
        else
          some (0 : Int)

theorem g_cmp_Compare_int_ok (a0 : Int) (a1 : Int) (r : Int) (hf : g_cmp_Compare_int a0 a1 = some r) : SCall Try.prog 138 [.one (.lit (.int .i64 a0)), .one (.lit (.int .i64 a1))] (.one (.lit (.int .i64 r))) := by
  refine SCall.of Try.func138 rfl rfl rfl rfl fun S0 w0 => ?_
  unfold g_cmp_Compare_int at hf
  obtain ⟨x1, q1, hf⟩ := bind_some' hf
  obtain ⟨x2, q2, hf⟩ := bind_some' hf
  rcases br_some hf with ⟨h3, hf⟩ | ⟨h3, hf⟩
  · rcases br_some hf with ⟨h4, hf⟩ | ⟨h4, hf⟩
    · replace hf := Option.some.inj hf
      subst hf
      exact toEnd_good allOk 16 _ _ [⟨[], [], [], [], [], [], []⟩, ⟨[(1, .r (.one (.lit (.bool x1))) [])], [], [], [], [], [], []⟩, ⟨[(1, .r (.one (.lit (.bool x2))) [])], [], [], [], [], [], []⟩, ⟨[], [], [], [], [], [], []⟩, ⟨[], [], [], [], [], [], []⟩, ⟨[], [], [], [], [], [], []⟩] [true, true] [] [] [] [SCall Try.prog 160 [.one (.lit (.int .i64 a0))] (.one (.lit (.bool x1))), SCall Try.prog 160 [.one (.lit (.int .i64 a1))] (.one (.lit (.bool x2))), x1 = true, x2 = true] (by kernel_rfl) rfl ⟨(g_cmp_isNaN_int_ok a0 x1 q1), (g_cmp_isNaN_int_ok a1 x2 q2), h3, h4, trivial⟩
    · replace hf := Option.some.inj hf
      subst hf
      exact toEnd_good allOk 17 _ _ [⟨[], [], [], [], [], [], []⟩, ⟨[(1, .r (.one (.lit (.bool x1))) [])], [], [], [], [], [], []⟩, ⟨[(1, .r (.one (.lit (.bool x2))) [])], [], [], [], [], [], []⟩, ⟨[], [], [], [], [], [], []⟩, ⟨[], [], [], [], [], [], []⟩, ⟨[], [], [], [], [], [], []⟩] [true, false] [] [] [] [SCall Try.prog 160 [.one (.lit (.int .i64 a0))] (.one (.lit (.bool x1))), SCall Try.prog 160 [.one (.lit (.int .i64 a1))] (.one (.lit (.bool x2))), x1 = true, x2 = false] (by kernel_rfl) rfl ⟨(g_cmp_isNaN_int_ok a0 x1 q1), (g_cmp_isNaN_int_ok a1 x2 q2), h3, h4, trivial⟩
  · rcases br_some hf with ⟨h5, hf⟩ | ⟨h5, hf⟩
    · replace hf := Option.some.inj hf
      subst hf
      exact toEnd_good allOk 17 _ _ [⟨[], [], [], [], [], [], []⟩, ⟨[(1, .r (.one (.lit (.bool x1))) [])], [], [], [], [], [], []⟩, ⟨[(1, .r (.one (.lit (.bool x2))) [])], [], [], [], [], [], []⟩, ⟨[], [], [], [], [], [], []⟩, ⟨[], [], [], [], [], [], []⟩, ⟨[], [], [], [], [], [], []⟩] [false, true] [] [] [] [SCall Try.prog 160 [.one (.lit (.int .i64 a0))] (.one (.lit (.bool x1))), SCall Try.prog 160 [.one (.lit (.int .i64 a1))] (.one (.lit (.bool x2))), x1 = false, x2 = true] (by kernel_rfl) rfl ⟨(g_cmp_isNaN_int_ok a0 x1 q1), (g_cmp_isNaN_int_ok a1 x2 q2), h3, h5, trivial⟩
    · rcases br_some hf with ⟨h6, hf⟩ | ⟨h6, hf⟩
      · replace hf := Option.some.inj hf
        subst hf
        exact toEnd_good allOk 22 _ _ [⟨[], [], [], [], [], [], []⟩, ⟨[(1, .r (.one (.lit (.bool x1))) [])], [], [], [], [], [], []⟩, ⟨[(1, .r (.one (.lit (.bool x2))) [])], [], [], [], [], [], []⟩, ⟨[], [], [], [], [], [], []⟩, ⟨[], [], [], [], [], [], []⟩, ⟨[], [], [], [], [], [], []⟩, ⟨[], [], [], [], [], [], []⟩] [false, false, true] [] [] [] [SCall Try.prog 160 [.one (.lit (.int .i64 a0))] (.one (.lit (.bool x1))), SCall Try.prog 160 [.one (.lit (.int .i64 a1))] (.one (.lit (.bool x2))), x1 = false, x2 = false, (decide (a0 < a1)) = true] (by kernel_rfl) rfl ⟨(g_cmp_isNaN_int_ok a0 x1 q1), (g_cmp_isNaN_int_ok a1 x2 q2), h3, h5, h6, trivial⟩
      · rcases br_some hf with ⟨h7, hf⟩ | ⟨h7, hf⟩
        · replace hf := Option.some.inj hf
          subst hf
          exact toEnd_good allOk 27 _ _ [⟨[], [], [], [], [], [], []⟩, ⟨[(1, .r (.one (.lit (.bool x1))) [])], [], [], [], [], [], []⟩, ⟨[(1, .r (.one (.lit (.bool x2))) [])], [], [], [], [], [], []⟩, ⟨[], [], [], [], [], [], []⟩, ⟨[], [], [], [], [], [], []⟩, ⟨[], [], [], [], [], [], []⟩, ⟨[], [], [], [], [], [], []⟩, ⟨[], [], [], [], [], [], []⟩] [false, false, false, true] [] [] [] [SCall Try.prog 160 [.one (.lit (.int .i64 a0))] (.one (.lit (.bool x1))), SCall Try.prog 160 [.one (.lit (.int .i64 a1))] (.one (.lit (.bool x2))), x1 = false, x2 = false, (decide (a0 < a1)) = false, (decide (a0 > a1)) = true] (by kernel_rfl) rfl ⟨(g_cmp_isNaN_int_ok a0 x1 q1), (g_cmp_isNaN_int_ok a1 x2 q2), h3, h5, h6, h7, trivial⟩
        · replace hf := Option.some.inj hf
          subst hf
          exact toEnd_good allOk 28 _ _ [⟨[], [], [], [], [], [], []⟩, ⟨[(1, .r (.one (.lit (.bool x1))) [])], [], [], [], [], [], []⟩, ⟨[(1, .r (.one (.lit (.bool x2))) [])], [], [], [], [], [], []⟩, ⟨[], [], [], [], [], [], []⟩, ⟨[], [], [], [], [], [], []⟩, ⟨[], [], [], [], [], [], []⟩, ⟨[], [], [], [], [], [], []⟩, ⟨[], [], [], [], [], [], []⟩] [false, false, false, false] [] [] [] [SCall Try.prog 160 [.one (.lit (.int .i64 a0))] (.one (.lit (.bool x1))), SCall Try.prog 160 [.one (.lit (.int .i64 a1))] (.one (.lit (.bool x2))), x1 = false, x2 = false, (decide (a0 < a1)) = false, (decide (a0 > a1)) = false] (by kernel_rfl) rfl ⟨(g_cmp_isNaN_int_ok a0 x1 q1), (g_cmp_isNaN_int_ok a1 x2 q2), h3, h5, h6, h7, trivial⟩

/-- cmp.isNaN[uint64] -/
def g_cmp_isNaN_uint64 (a0 : Int) : Option Bool :=
  some (a0 != a0)

theorem g_cmp_isNaN_uint64_ok (a0 : Int) (r : Bool) (hf : g_cmp_isNaN_uint64 a0 = some r) : SCall Try.prog 176 [.one (.lit (.int .u64 a0))] (.one (.lit (.bool r))) := by
  refine SCall.of Try.func176 rfl rfl rfl rfl fun S0 w0 => ?_
  unfold g_cmp_isNaN_uint64 at hf
  replace hf := Option.some.inj hf
  subst hf
  exact toEnd_good allOk 4 _ _ [⟨[], [], [], [], [], [], []⟩, ⟨[], [], [], [], [], [], []⟩] [] [] [] [] [] (by kernel_rfl) rfl trivial

/-- cmp.Compare[uint64] -/
def g_cmp_Compare_uint64 (a0 : Int) (a1 : Int) : Option Int :=
  (g_cmp_isNaN_uint64 a0).bind fun x1 =>
  (g_cmp_isNaN_uint64 a1).bind fun x2 =>
  bif x1 then
    bif x2 then
      some (0 : Int)
    else
      some (-1 : Int)
  else
    bif x2 then
      some (1 : Int)
    else
      bif (decide (a0 < a1)) then
        some (-1 : Int)
      else
        bif (decide (a0 > a1)) then
          some (1 : Int)
        else
          some (0 : Int)

theorem g_cmp_Compare_uint64_ok (a0 : Int) (a1 : Int) (r : Int) (hf : g_cmp_Compare_uint64 a0 a1 = some r) : SCall Try.prog 159 [.one (.lit (.int .u64 a0)), .one (.lit (.int .u64 a1))] (.one (.lit (.int .i64 r))) := by
  refine SCall.of Try.func159 rfl rfl rfl rfl fun S0 w0 => ?_
  unfold g_cmp_Compare_uint64 at hf
  obtain ⟨x1, q1, hf⟩ := bind_some' hf
  obtain ⟨x2, q2, hf⟩ := bind_some' hf
  rcases br_some hf with ⟨h3, hf⟩ | ⟨h3, hf⟩
  · rcases br_some hf with ⟨h4, hf⟩ | ⟨h4, hf⟩
    · replace hf := Option.some.inj hf
      subst hf
      exact toEnd_good allOk 16 _ _ [⟨[], [], [], [], [], [], []⟩, ⟨[(1, .r (.one (.lit (.bool x1))) [])], [], [], [], [], [], []⟩, ⟨[(1, .r (.one (.lit (.bool x2))) [])], [], [], [], [], [], []⟩, ⟨[], [], [], [], [], [], []⟩, ⟨[], [], [], [], [], [], []⟩, ⟨[], [], [], [], [], [], []⟩] [true, true] [] [] [] [SCall Try.prog 176 [.one (.lit (.int .u64 a0))] (.one (.lit (.bool x1))), SCall Try.prog 176 [.one (.lit (.int .u64 a1))] (.one (.lit (.bool x2))), x1 = true, x2 = true] (by kernel_rfl) rfl ⟨(g_cmp_isNaN_uint64_ok a0 x1 q1), (g_cmp_isNaN_uint64_ok a1 x2 q2), h3, h4, trivial⟩
    · replace hf := Option.some.inj hf
      subst hf
      exact toEnd_good allOk 17 _ _ [⟨[], [], [], [], [], [], []⟩, ⟨[(1, .r (.one (.lit (.bool x1))) [])], [], [], [], [], [], []⟩, ⟨[(1, .r (.one (.lit (.bool x2))) [])], [], [], [], [], [], []⟩, ⟨[], [], [], [], [], [], []⟩, ⟨[], [], [], [], [], [], []⟩, ⟨[], [], [], [], [], [], []⟩] [true, false] [] [] [] [SCall Try.prog 176 [.one (.lit (.int .u64 a0))] (.one (.lit (.bool x1))), SCall Try.prog 176 [.one (.lit (.int .u64 a1))] (.one (.lit (.bool x2))), x1 = true, x2 = false] (by kernel_rfl) rfl ⟨(g_cmp_isNaN_uint64_ok a0 x1 q1), (g_cmp_isNaN_uint64_ok a1 x2 q2), h3, h4, trivial⟩
  · rcases br_some hf with ⟨h5, hf⟩ | ⟨h5, hf⟩
    · replace hf := Option.some.inj hf
      subst hf
      exact toEnd_good allOk 17 _ _ [⟨[], [], [], [], [], [], []⟩, ⟨[(1, .r (.one (.lit (.bool x1))) [])], [], [], [], [], [], []⟩, ⟨[(1, .r (.one (.lit (.bool x2))) [])], [], [], [], [], [], []⟩, ⟨[], [], [], [], [], [], []⟩, ⟨[], [], [], [], [], [], []⟩, ⟨[], [], [], [], [], [], []⟩] [false, true] [] [] [] [SCall Try.prog 176 [.one (.lit (.int .u64 a0))] (.one (.lit (.bool x1))), SCall Try.prog 176 [.one (.lit (.int .u64 a1))] (.one (.lit (.bool x2))), x1 = false, x2 = true] (by kernel_rfl) rfl ⟨(g_cmp_isNaN_uint64_ok a0 x1 q1), (g_cmp_isNaN_uint64_ok a1 x2 q2), h3, h5, trivial⟩
    · rcases br_some hf with ⟨h6, hf⟩ | ⟨h6, hf⟩
      · replace hf := Option.some.inj hf
        subst hf
        exact toEnd_good allOk 22 _ _ [⟨[], [], [], [], [], [], []⟩, ⟨[(1, .r (.one (.lit (.bool x1))) [])], [], [], [], [], [], []⟩, ⟨[(1, .r (.one (.lit (.bool x2))) [])], [], [], [], [], [], []⟩, ⟨[], [], [], [], [], [], []⟩, ⟨[], [], [], [], [], [], []⟩, ⟨[], [], [], [], [], [], []⟩, ⟨[], [], [], [], [], [], []⟩] [false, false, true] [] [] [] [SCall Try.prog 176 [.one (.lit (.int .u64 a0))] (.one (.lit (.bool x1))), SCall Try.prog 176 [.one (.lit (.int .u64 a1))] (.one (.lit (.bool x2))), x1 = false, x2 = false, (decide (a0 < a1)) = true] (by kernel_rfl) rfl ⟨(g_cmp_isNaN_uint64_ok a0 x1 q1), (g_cmp_isNaN_uint64_ok a1 x2 q2), h3, h5, h6, trivial⟩
      · rcases br_some hf with ⟨h7, hf⟩ | ⟨h7, hf⟩
        · replace hf := Option.some.inj hf
          subst hf
          exact toEnd_good allOk 27 _ _ [⟨[], [], [], [], [], [], []⟩, ⟨[(1, .r (.one (.lit (.bool x1))) [])], [], [], [], [], [], []⟩, ⟨[(1, .r (.one (.lit (.bool x2))) [])], [], [], [], [], [], []⟩, ⟨[], [], [], [], [], [], []⟩, ⟨[], [], [], [], [], [], []⟩, ⟨[], [], [], [], [], [], []⟩, ⟨[], [], [], [], [], [], []⟩, ⟨[], [], [], [], [], [], []⟩] [false, false, false, true] [] [] [] [SCall Try.prog 176 [.one (.lit (.int .u64 a0))] (.one (.lit (.bool x1))), SCall Try.prog 176 [.one (.lit (.int .u64 a1))] (.one (.lit (.bool x2))), x1 = false, x2 = false, (decide (a0 < a1)) = false, (decide (a0 > a1)) = true] (by kernel_rfl) rfl ⟨(g_cmp_isNaN_uint64_ok a0 x1 q1), (g_cmp_isNaN_uint64_ok a1 x2 q2), h3, h5, h6, h7, trivial⟩
        · replace hf := Option.some.inj hf
          subst hf
          exact toEnd_good allOk 28 _ _ [⟨[], [], [], [], [], [], []⟩, ⟨[(1, .r (.one (.lit (.bool x1))) [])], [], [], [], [], [], []⟩, ⟨[(1, .r (.one (.lit (.bool x2))) [])], [], [], [], [], [], []⟩, ⟨[], [], [], [], [], [], []⟩, ⟨[], [], [], [], [], [], []⟩, ⟨[], [], [], [], [], [], []⟩, ⟨[], [], [], [], [], [], []⟩, ⟨[], [], [], [], [], [], []⟩] [false, false, false, false] [] [] [] [SCall Try.prog 176 [.one (.lit (.int .u64 a0))] (.one (.lit (.bool x1))), SCall Try.prog 176 [.one (.lit (.int .u64 a1))] (.one (.lit (.bool x2))), x1 = false, x2 = false, (decide (a0 < a1)) = false, (decide (a0 > a1)) = false] (by kernel_rfl) rfl ⟨(g_cmp_isNaN_uint64_ok a0 x1 q1), (g_cmp_isNaN_uint64_ok a1 x2 q2), h3, h5, h6, h7, trivial⟩

def g_cmp_Or_int_c0   : Nat → Int → (List Int) → Int → Int → Option Int
  | 0, _, _, _, _ => none
  | fu + 1, v3, v6, v7, v8 =>
    bif (decide (v8 < v7)) then
      need (0 ≤ v8 ∧ v8 < ((v6.length : Nat) : Int)) <|
      bif ((v6.getD v8.toNat (0 : Int)) != v3) then
        some (v6.getD v8.toNat (0 : Int))
      else
        g_cmp_Or_int_c0   fu v3 v6 v7 (add64 v8 (1 : Int))
    else
      some v3

theorem g_cmp_Or_int_c0_ok (S0 : Nat → Prop) (w0 : Start)   : ∀ (fu : Nat) (v3 : Int) (v6 : (List Int)) (v7 : Int) (v8 : Int) (r : Int), g_cmp_Or_int_c0   fu v3 v6 v7 v8 = some r → Good Try.prog 18 S0 w0 (bodyPost Try.prog Try.f136 (Post S0 w0 (.one (.lit (.int .i64 r))))) (at_ [1, 1, 0, 1, 0] (bodyOf Try.f136)) ⟨[(3, .one (.lit (.int .i64 v3))), (6, .one (cL 1 (cI .i64) (0 : Int) v6)), (7, .one (.lit (.int .i64 v7))), (8, .one (.lit (.int .i64 v8)))], []⟩ := by
  intro fu
  induction fu with
  | zero =>
    intro v3 v6 v7 v8 r hf
    simp [g_cmp_Or_int_c0] at hf
  | succ fu ih =>
    intro v3 v6 v7 v8 r hf
    unfold g_cmp_Or_int_c0 at hf
    rcases br_some hf with ⟨h1, hf⟩ | ⟨h1, hf⟩
    · obtain ⟨o2, hf⟩ := need_some hf
      rcases br_some hf with ⟨h3, hf⟩ | ⟨h3, hf⟩
      · replace hf := Option.some.inj hf
        subst hf
        exact toEnd_good allOk 15 _ _ [⟨[], [], [], [], [], [], []⟩, ⟨[], [], [], [], [], [], []⟩, ⟨[], [], [], [], [], [], []⟩, ⟨[], [], [], [], [], [], []⟩] [true, true] [] [] [] [(decide (v8 < v7)) = true, 0 ≤ v8 ∧ v8 < ((v6.length : Nat) : Int), ((v6.getD v8.toNat (0 : Int)) != v3) = true] (by kernel_rfl) rfl ⟨h1, o2, h3, trivial⟩
      · exact toK_good allOk Post.ends 17 _ _ _ _ [⟨[], [], [], [], [], [], []⟩, ⟨[], [], [], [], [], [], []⟩, ⟨[], [], [], [], [], [], []⟩, ⟨[], [], [], [], [], [], []⟩] [true, false] ⟨[], [], [], [], [], [3, 6, 7, 8], [], []⟩ [(decide (v8 < v7)) = true, 0 ≤ v8 ∧ v8 < ((v6.length : Nat) : Int), ((v6.getD v8.toNat (0 : Int)) != v3) = false] (by kernel_rfl) ⟨h1, o2, h3, trivial⟩ (ih v3 v6 v7 (add64 v8 (1 : Int)) r hf)
    · replace hf := Option.some.inj hf
      subst hf
      exact toEnd_good allOk 8 _ _ [⟨[], [], [], [], [], [], []⟩, ⟨[], [], [], [], [], [], []⟩] [false] [] [] [] [(decide (v8 < v7)) = false] (by kernel_rfl) rfl ⟨h1, trivial⟩

/-- cmp.Or[int] -/
def g_cmp_Or_int (a0 : (List Int)) : Option Int :=
  g_cmp_Or_int_c0   ((((a0.length : Nat) : Int) - (0 : Int)).toNat + 2) (0 : Int) a0 ((a0.length : Nat) : Int) (0 : Int)

theorem g_cmp_Or_int_ok (a0 : (List Int)) (r : Int) (hf : g_cmp_Or_int a0 = some r) : SCall Try.prog 136 [.one (cL 1 (cI .i64) (0 : Int) a0)] (.one (.lit (.int .i64 r))) := by
  refine SCall.of Try.func136 rfl rfl rfl rfl fun S0 w0 => ?_
  unfold g_cmp_Or_int at hf
  exact toK_good allOk Post.ends 8 _ _ _ _ [⟨[], [], [], [], [], [], []⟩, ⟨[], [], [], [], [], [], []⟩, ⟨[], [], [], [], [], [], []⟩] [] ⟨[], [], [], [], [], [3, 6, 7, 8], [], []⟩ [] (by kernel_rfl) trivial (g_cmp_Or_int_c0_ok S0 w0    ((((a0.length : Nat) : Int) - (0 : Int)).toNat + 2) (0 : Int) a0 ((a0.length : Nat) : Int) (0 : Int) r hf)

/-- doorman/addr.Compare -/
def g_addr_Compare (a0 : T_api_Addr) (a1 : T_api_Addr) : Option Int :=
  (g_addr_family a0).bind fun x1 =>
  (g_addr_family a1).bind fun x2 =>
  (g_cmp_Compare_int x1 x2).bind fun x3 =>
  (g_cmp_Compare_uint64 a0.fHi a1.fHi).bind fun x4 =>
  (g_cmp_Compare_uint64 a0.fLo a1.fLo).bind fun x5 =>
  (g_cmp_Or_int ([x3, x4, x5] : List Int)).bind fun x6 =>
  some x6

theorem g_addr_Compare_ok (a0 : T_api_Addr) (a1 : T_api_Addr) (r : Int) (hf : g_addr_Compare a0 a1 = some r) : SCall Try.prog 137 [.agg (T_api_Addr.c a0), .agg (T_api_Addr.c a1)] (.one (.lit (.int .i64 r))) := by
  refine SCall.of Try.func137 rfl rfl rfl rfl fun S0 w0 => ?_
  unfold g_addr_Compare at hf
  obtain ⟨x1, q1, hf⟩ := bind_some' hf
  obtain ⟨x2, q2, hf⟩ := bind_some' hf
  obtain ⟨x3, q3, hf⟩ := bind_some' hf
  obtain ⟨x4, q4, hf⟩ := bind_some' hf
  obtain ⟨x5, q5, hf⟩ := bind_some' hf
  obtain ⟨x6, q6, hf⟩ := bind_some' hf
  replace hf := Option.some.inj hf
  subst hf
  exact toEnd_good allOk 4 _ _ [⟨[], [], [], [], [], [], []⟩, ⟨[(1, .r (.one (.lit (.int .i64 x1))) []), (3, .r (.one (.lit (.int .i64 x2))) []), (4, .r (.one (.lit (.int .i64 x3))) []), (9, .r (.one (.lit (.int .i64 x4))) []), (14, .r (.one (.lit (.int .i64 x5))) []), (16, .r (.one (.lit (.int .i64 x6))) [])], [], [], [[], [0], [], [2, 1, 0], [1, 0, 3, 2], [], [5], [], [7], [6, 5, 8, 7, 4, 1, 0, 3, 2], [], [10], [], [12], [11, 10, 13, 12, 9, 6, 5, 8, 7, 4, 1, 0, 3, 2], [4, 1, 0, 3, 2, 9, 6, 5, 8, 7, 14, 11, 10, 13, 12], [15, 4, 1, 0, 3, 2, 9, 6, 5, 8, 7, 14, 11, 10, 13, 12], [16, 15, 4, 1, 0, 3, 2, 9, 6, 5, 8, 7, 14, 11, 10, 13, 12]], [], [(15, (([x3, x4, x5] : List Int).length, rowsOf (cI .i64) (0 : Int) ([x3, x4, x5] : List Int)))], []⟩] [] [] [] [] [SCall Try.prog 158 [.agg (T_api_Addr.c a0)] (.one (.lit (.int .i64 x1))), SCall Try.prog 158 [.agg (T_api_Addr.c a1)] (.one (.lit (.int .i64 x2))), SCall Try.prog 138 [.one (.lit (.int .i64 x1)), .one (.lit (.int .i64 x2))] (.one (.lit (.int .i64 x3))), SCall Try.prog 159 [.one (.lit (.int .u64 a0.fHi)), .one (.lit (.int .u64 a1.fHi))] (.one (.lit (.int .i64 x4))), SCall Try.prog 159 [.one (.lit (.int .u64 a0.fLo)), .one (.lit (.int .u64 a1.fLo))] (.one (.lit (.int .i64 x5))), ([x3, x4, x5] : List Int).length = 3 ∧ ∀ i j, i < 3 → j < 1 → rowsOf (cI .i64) (0 : Int) ([x3, x4, x5] : List Int) i j = (([x3, x4, x5] : List Int).flatMap (cI .i64)).getD (i * 1 + j) .junk, SCall Try.prog 136 [.one (cL 1 (cI .i64) (0 : Int) ([x3, x4, x5] : List Int))] (.one (.lit (.int .i64 x6)))] (by kernel_rfl) rfl ⟨(g_addr_family_ok a0 x1 q1), (g_addr_family_ok a1 x2 q2), (g_cmp_Compare_int_ok x1 x2 x3 q3), (g_cmp_Compare_uint64_ok a0.fHi a1.fHi x4 q4), (g_cmp_Compare_uint64_ok a0.fLo a1.fLo x5 q5), ⟨rfl, fun i j hi hj => rows_flat (sz := 1) (e := (cI .i64)) (d := (0 : Int)) (fun _ => rfl) ([x3, x4, x5] : List Int) i j hi hj⟩, (g_cmp_Or_int_ok ([x3, x4, x5] : List Int) x6 q6), trivial⟩

/-! inline -/
def famA (a : T_api_Addr) : Int := if a.fV6 then 1 else 0
def cmpA (a b : T_api_Addr) : Int := orI (cmpI (famA a) (famA b)) (orI (cmpI a.fHi b.fHi) (cmpI a.fLo b.fLo))

theorem cmp_int (a b : Int) : g_cmp_Compare_int a b = some (cmpI a b) := by
  simp only [g_cmp_Compare_int, g_cmp_isNaN_int, cmpI, bne_self_eq_false, Option.bind_some, cond_false]
  by_cases h1 : a < b <;> by_cases h2 : a > b <;> simp [h1, h2] <;> omega

theorem cmp_u64 (a b : Int) : g_cmp_Compare_uint64 a b = some (cmpI a b) := by
  simp only [g_cmp_Compare_uint64, g_cmp_isNaN_uint64, cmpI, bne_self_eq_false, Option.bind_some, cond_false]
  by_cases h1 : a < b <;> by_cases h2 : a > b <;> simp [h1, h2] <;> omega

theorem or2 (a b : Int) : g_cmp_Or_int [a, b] = some (orI a b) := by
  unfold g_cmp_Or_int orI
  simp only [List.length_cons, List.length_nil]
  rw [show (((0 + 1 + 1 : Nat) : Int) - 0).toNat + 2 = 4 from rfl]
  simp only [g_cmp_Or_int_c0, show add64 0 1 = 1 from rfl, show add64 1 1 = 2 from rfl]
  simp only [Bool.cond_eq_ite, bne_iff_ne, ne_eq, ite_not, need]
  by_cases h1 : a = 0 <;> by_cases h2 : b = 0 <;> simp [h1, h2]

theorem or3 (a b c : Int) : g_cmp_Or_int [a, b, c] = some (orI a (orI b c)) := by
  unfold g_cmp_Or_int orI
  simp only [List.length_cons, List.length_nil]
  rw [show (((0 + 1 + 1 + 1 : Nat) : Int) - 0).toNat + 2 = 5 from rfl]
  simp only [g_cmp_Or_int_c0, show add64 0 1 = 1 from rfl, show add64 1 1 = 2 from rfl, show add64 2 1 = 3 from rfl]
  simp only [Bool.cond_eq_ite, bne_iff_ne, ne_eq, ite_not, need]
  by_cases h1 : a = 0 <;> by_cases h2 : b = 0 <;> by_cases h3 : c = 0 <;> simp [h1, h2, h3]

theorem addr_cmp (a b : T_api_Addr) : g_addr_Compare a b = some (cmpA a b) := by
  have hf : ∀ c, g_addr_family c = some (famA c) := fun c => by unfold g_addr_family famA; cases c.fV6 <;> rfl
  simp only [g_addr_Compare, hf, cmp_int, cmp_u64, or3, Option.bind_some, cmpA]


theorem orI_lt {a b : Int} : orI a b < 0 ↔ a < 0 ∨ (a = 0 ∧ b < 0) := by unfold orI; constructor <;> intro h <;> (repeat' split at *) <;> omega
theorem orI_gt {a b : Int} : 0 < orI a b ↔ 0 < a ∨ (a = 0 ∧ 0 < b) := by unfold orI; constructor <;> intro h <;> (repeat' split at *) <;> omega
theorem orI_zero {a b : Int} : orI a b = 0 ↔ a = 0 ∧ b = 0 := by unfold orI; constructor <;> intro h <;> (repeat' split at *) <;> omega

theorem famA_eq {a b : T_api_Addr} : famA a = famA b ↔ a.fV6 = b.fV6 := by unfold famA; cases a.fV6 <;> cases b.fV6 <;> simp

theorem cmpA_lt {a b : T_api_Addr} : cmpA a b < 0 ↔ famA a < famA b ∨ (famA a = famA b ∧ (a.fHi < b.fHi ∨ (a.fHi = b.fHi ∧ a.fLo < b.fLo))) := by simp only [cmpA, orI_lt, cmpI_lt, cmpI_zero]
theorem cmpA_gt {a b : T_api_Addr} : 0 < cmpA a b ↔ famA b < famA a ∨ (famA a = famA b ∧ (b.fHi < a.fHi ∨ (a.fHi = b.fHi ∧ b.fLo < a.fLo))) := by simp only [cmpA, orI_gt, cmpI_gt, cmpI_zero]
theorem cmpA_zero {a b : T_api_Addr} : cmpA a b = 0 ↔ a = b := by
  simp only [cmpA, orI_zero, cmpI_zero, famA_eq]
  obtain ⟨v, hi, lo⟩ := a
  obtain ⟨v', hi', lo'⟩ := b
  simp

theorem cmpA_trans {a b c : T_api_Addr} (h1 : cmpA a b < 0) (h2 : cmpA b c < 0) : cmpA a c < 0 := by
  rw [cmpA_lt] at *
  omega


theorem cmpA_swap {a b : T_api_Addr} : 0 < cmpA a b ↔ cmpA b a < 0 := by
  rw [cmpA_gt, cmpA_lt]
  constructor <;> intro h <;> omega


/-- doorman/cidr.Compare -/
def g_cidr_Compare (a0 : T_api_Net) (a1 : T_api_Net) : Option Int :=
  (g_addr_Compare a0.fAddr a1.fAddr).bind fun x1 =>
  (g_cmp_Compare_int a0.fBits a1.fBits).bind fun x2 =>
  (g_cmp_Or_int ([x1, x2] : List Int)).bind fun x3 =>
  some x3

theorem g_cidr_Compare_ok (a0 : T_api_Net) (a1 : T_api_Net) (r : Int) (hf : g_cidr_Compare a0 a1 = some r) : SCall Try.prog 103 [.agg (T_api_Net.c a0), .agg (T_api_Net.c a1)] (.one (.lit (.int .i64 r))) := by
  refine SCall.of Try.func103 rfl rfl rfl rfl fun S0 w0 => ?_
  unfold g_cidr_Compare at hf
  obtain ⟨x1, q1, hf⟩ := bind_some' hf
  obtain ⟨x2, q2, hf⟩ := bind_some' hf
  obtain ⟨x3, q3, hf⟩ := bind_some' hf
  replace hf := Option.some.inj hf
  subst hf
  exact toEnd_good allOk 4 _ _ [⟨[], [], [], [], [], [], []⟩, ⟨[(4, .r (.one (.lit (.int .i64 x1))) []), (9, .r (.one (.lit (.int .i64 x2))) []), (11, .r (.one (.lit (.int .i64 x3))) [])], [], [], [[], [0], [], [2], [1, 0, 3, 2], [], [5], [], [7], [6, 5, 8, 7, 4, 1, 0, 3, 2], [4, 1, 0, 3, 2, 9, 6, 5, 8, 7], [10, 4, 1, 0, 3, 2, 9, 6, 5, 8, 7], [11, 10, 4, 1, 0, 3, 2, 9, 6, 5, 8, 7]], [], [(10, (([x1, x2] : List Int).length, rowsOf (cI .i64) (0 : Int) ([x1, x2] : List Int)))], []⟩] [] [] [] [] [SCall Try.prog 137 [.agg (T_api_Addr.c a0.fAddr), .agg (T_api_Addr.c a1.fAddr)] (.one (.lit (.int .i64 x1))), SCall Try.prog 138 [.one (.lit (.int .i64 a0.fBits)), .one (.lit (.int .i64 a1.fBits))] (.one (.lit (.int .i64 x2))), ([x1, x2] : List Int).length = 2 ∧ ∀ i j, i < 2 → j < 1 → rowsOf (cI .i64) (0 : Int) ([x1, x2] : List Int) i j = (([x1, x2] : List Int).flatMap (cI .i64)).getD (i * 1 + j) .junk, SCall Try.prog 136 [.one (cL 1 (cI .i64) (0 : Int) ([x1, x2] : List Int))] (.one (.lit (.int .i64 x3)))] (by kernel_rfl) rfl ⟨(g_addr_Compare_ok a0.fAddr a1.fAddr x1 q1), (g_cmp_Compare_int_ok a0.fBits a1.fBits x2 q2), ⟨rfl, fun i j hi hj => rows_flat (sz := 1) (e := (cI .i64)) (d := (0 : Int)) (fun _ => rfl) ([x1, x2] : List Int) i j hi hj⟩, (g_cmp_Or_int_ok ([x1, x2] : List Int) x3 q3), trivial⟩

/-! inline -/
def cmpN (a b : T_api_Net) : Int := orI (cmpA a.fAddr b.fAddr) (cmpI a.fBits b.fBits)

theorem cidr_cmp (a b : T_api_Net) : g_cidr_Compare a b = some (cmpN a b) := by
  simp only [g_cidr_Compare, addr_cmp, cmp_int, or2, Option.bind_some, cmpN]

theorem cmpN_lt {a b : T_api_Net} : cmpN a b < 0 ↔ cmpA a.fAddr b.fAddr < 0 ∨ (a.fAddr = b.fAddr ∧ a.fBits < b.fBits) := by simp only [cmpN, orI_lt, cmpI_lt, cmpA_zero]
theorem cmpN_gt {a b : T_api_Net} : 0 < cmpN a b ↔ 0 < cmpA a.fAddr b.fAddr ∨ (a.fAddr = b.fAddr ∧ b.fBits < a.fBits) := by simp only [cmpN, orI_gt, cmpI_gt, cmpA_zero]
theorem cmpN_zero {a b : T_api_Net} : cmpN a b = 0 ↔ a = b := by
  simp only [cmpN, orI_zero, cmpI_zero, cmpA_zero]
  obtain ⟨x, p⟩ := a
  obtain ⟨y, q⟩ := b
  simp
theorem cmpN_swap {a b : T_api_Net} : 0 < cmpN a b ↔ cmpN b a < 0 := by
  rw [cmpN_gt, cmpN_lt, cmpA_swap]
  constructor <;> rintro (h | ⟨h1, h2⟩) <;> first | exact .inl h | exact .inr ⟨h1.symm, h2⟩
theorem cmpN_trans {a b c : T_api_Net} (h1 : cmpN a b < 0) (h2 : cmpN b c < 0) : cmpN a c < 0 := by
  rw [cmpN_lt] at *
  rcases h1 with h1 | ⟨h1, h3⟩ <;> rcases h2 with h2 | ⟨h2, h4⟩
  · exact .inl (cmpA_trans h1 h2)
  · exact .inl (h2 ▸ h1)
  · exact .inl (h1 ▸ h2)
  · exact .inr ⟨h1.trans h2, by omega⟩



def g_slices_Reverse_api_Ban_api_Ban_c0   : Nat → Int → Int → (List T_api_Ban) → Option (List T_api_Ban)
  | 0, _, _, _ => none
  | fu + 1, v2, v3, w100000 =>
    bif (decide (v2 < v3)) then
      need (0 ≤ v3 ∧ v3 < ((w100000.length : Nat) : Int)) <|
      need (0 ≤ v2 ∧ v2 < ((w100000.length : Nat) : Int)) <|
      g_slices_Reverse_api_Ban_api_Ban_c0   fu (add64 v2 (1 : Int)) (sub64 v3 (1 : Int)) ((w100000.set v2.toNat (w100000.getD v3.toNat T_api_Ban.d)).set v3.toNat (w100000.getD v2.toNat T_api_Ban.d))
    else
      some w100000

theorem g_slices_Reverse_api_Ban_api_Ban_c0_ok (S0 : Nat → Prop) (w0 : Start)   : ∀ (fu : Nat) (v2 : Int) (v3 : Int) (w100000 : (List T_api_Ban)) (r : (List T_api_Ban)), g_slices_Reverse_api_Ban_api_Ban_c0   fu v2 v3 w100000 = some r → Good Try.prog 28 S0 w0 (bodyPost Try.prog Try.f178 (HPost S0 w0 [(100000, .rows 79 5 r.length (rowsOf T_api_Ban.c T_api_Ban.d r))] (.tup []))) (at_ [1, 0] (bodyOf Try.f178)) ⟨[(0, .one (.osl 100000 w100000.length)), (2, .one (.lit (.int .i64 v2))), (3, .one (.lit (.int .i64 v3)))], [(100000, .rows 79 5 w100000.length (rowsOf T_api_Ban.c T_api_Ban.d w100000))]⟩ := by
  intro fu
  induction fu with
  | zero =>
    intro v2 v3 w100000 r hf
    simp [g_slices_Reverse_api_Ban_api_Ban_c0] at hf
  | succ fu ih =>
    intro v2 v3 w100000 r hf
    unfold g_slices_Reverse_api_Ban_api_Ban_c0 at hf
    rcases br_some hf with ⟨h1, hf⟩ | ⟨h1, hf⟩
    · obtain ⟨o2, hf⟩ := need_some hf
      obtain ⟨o3, hf⟩ := need_some hf
      exact toK_good allOk HPost.ends 12 _ _ _ _ [⟨[], [], [], [], [], [], []⟩, ⟨[(13, .c (w100000.set v2.toNat (w100000.getD v3.toNat T_api_Ban.d)).length (rowsOf T_api_Ban.c T_api_Ban.d (w100000.set v2.toNat (w100000.getD v3.toNat T_api_Ban.d)))), (15, .c ((w100000.set v2.toNat (w100000.getD v3.toNat T_api_Ban.d)).set v3.toNat (w100000.getD v2.toNat T_api_Ban.d)).length (rowsOf T_api_Ban.c T_api_Ban.d ((w100000.set v2.toNat (w100000.getD v3.toNat T_api_Ban.d)).set v3.toNat (w100000.getD v2.toNat T_api_Ban.d))))], [], [], [[], [], [], [], [], [], [4, 5], [6, 4, 5], [], [], [8, 9], [10, 8, 9], [0, 1, 4, 5, 6, 7, 11, 10, 8, 9], [12, 0, 1, 4, 5, 6, 7, 11, 10, 8, 9], [2, 3, 0, 1, 4, 5, 6, 7, 8, 9, 10, 11, 12, 13], [14, 2, 3, 0, 1, 4, 5, 6, 7, 8, 9, 10, 11, 12, 13]], [], [], []⟩, ⟨[], [], [], [], [], [], []⟩] [true] ⟨[], [], [], [(100000, (((w100000.set v2.toNat (w100000.getD v3.toNat T_api_Ban.d)).set v3.toNat (w100000.getD v2.toNat T_api_Ban.d)).length))], [], [0, 2, 3], [100000], []⟩ [(decide (v2 < v3)) = true, 0 ≤ v3 ∧ v3 < ((w100000.length : Nat) : Int), v3.toNat < w100000.length, 0 ≤ v2 ∧ v2 < ((w100000.length : Nat) : Int), v2.toNat < w100000.length, 0 ≤ v2 ∧ v2 < ((w100000.length : Nat) : Int), (w100000.set v2.toNat (w100000.getD v3.toNat T_api_Ban.d)).length = w100000.length, v2.toNat < w100000.length, ExtU 5 w100000.length (rowsOf T_api_Ban.c T_api_Ban.d w100000) v2.toNat 0 (T_api_Ban.c (w100000.getD v3.toNat T_api_Ban.d)) (rowsOf T_api_Ban.c T_api_Ban.d (w100000.set v2.toNat (w100000.getD v3.toNat T_api_Ban.d))), 0 ≤ v3 ∧ v3 < ((w100000.length : Nat) : Int), ((w100000.set v2.toNat (w100000.getD v3.toNat T_api_Ban.d)).set v3.toNat (w100000.getD v2.toNat T_api_Ban.d)).length = (w100000.set v2.toNat (w100000.getD v3.toNat T_api_Ban.d)).length, v3.toNat < (w100000.set v2.toNat (w100000.getD v3.toNat T_api_Ban.d)).length, ExtU 5 ((w100000.set v2.toNat (w100000.getD v3.toNat T_api_Ban.d)).length) (rowsOf T_api_Ban.c T_api_Ban.d (w100000.set v2.toNat (w100000.getD v3.toNat T_api_Ban.d))) v3.toNat 0 (T_api_Ban.c (w100000.getD v2.toNat T_api_Ban.d)) (rowsOf T_api_Ban.c T_api_Ban.d ((w100000.set v2.toNat (w100000.getD v3.toNat T_api_Ban.d)).set v3.toNat (w100000.getD v2.toNat T_api_Ban.d))), ((w100000.set v2.toNat (w100000.getD v3.toNat T_api_Ban.d)).set v3.toNat (w100000.getD v2.toNat T_api_Ban.d)).length = ((w100000.set v2.toNat (w100000.getD v3.toNat T_api_Ban.d)).set v3.toNat (w100000.getD v2.toNat T_api_Ban.d)).length] (by kernel_rfl) ⟨h1, o2, (ltOf o2), o3, (ltOf o3), o3, List.length_set, (ltOf o3), (ext_set _ _ _ rfl), o2, List.length_set, (by have := ltOf o2; simp at this ⊢; omega), (ext_set _ _ _ rfl), rfl, trivial⟩ (ih (add64 v2 (1 : Int)) (sub64 v3 (1 : Int)) ((w100000.set v2.toNat (w100000.getD v3.toNat T_api_Ban.d)).set v3.toNat (w100000.getD v2.toNat T_api_Ban.d)) r hf)
    · replace hf := Option.some.inj hf
      subst hf
      exact toEndH_good allOk 6 _ _ [⟨[], [], [], [], [], [], []⟩] [false] ⟨[], [], [], [], [], [], [100000], []⟩ [(decide (v2 < v3)) = false] (by kernel_rfl) ⟨h1, trivial⟩

/-- slices.Reverse[[]doorman/api.Ban,doorman/api.Ban] -/
def g_slices_Reverse_api_Ban_api_Ban (a0 : (List T_api_Ban)) : Option (List T_api_Ban) :=
  g_slices_Reverse_api_Ban_api_Ban_c0   (((sub64 ((a0.length : Nat) : Int) (1 : Int)) - (0 : Int)).toNat + 2) (0 : Int) (sub64 ((a0.length : Nat) : Int) (1 : Int)) a0

theorem g_slices_Reverse_api_Ban_api_Ban_own (a0 : (List T_api_Ban)) (r : (List T_api_Ban)) (hf : g_slices_Reverse_api_Ban_api_Ban a0 = some r) : HCall Try.prog 178 [(100000, .rows 79 5 a0.length (rowsOf T_api_Ban.c T_api_Ban.d a0))] [.one (.osl 100000 a0.length)] [(100000, .rows 79 5 r.length (rowsOf T_api_Ban.c T_api_Ban.d r))] (.tup []) := by
  refine HCall.of Try.func178 rfl rfl rfl rfl fun S0 w0 => ?_
  unfold g_slices_Reverse_api_Ban_api_Ban at hf
  exact toK_good allOk HPost.ends 3 _ _ _ _ [⟨[], [], [], [], [], [], []⟩] [] ⟨[], [], [], [], [], [0, 2, 3], [100000], []⟩ [] (by kernel_rfl) trivial (g_slices_Reverse_api_Ban_api_Ban_c0_ok S0 w0    (((sub64 ((a0.length : Nat) : Int) (1 : Int)) - (0 : Int)).toNat + 2) (0 : Int) (sub64 ((a0.length : Nat) : Int) (1 : Int)) a0 r hf)

set_option maxHeartbeats 4000000 in
set_option maxRecDepth 100000 in
theorem ins104_shift (b n c i vb m vc : Nat) (cur vcur : Array Value) (w : World) (hi : i < n) (hm : 0 < m) (hroom : n + m ≤ c) (hc63 : c ≤ maxLen) (hvb : vb ≠ b)
    (hcur : w.heap[b]? = some (.cells cur 79 (0, 0))) (hcs : cur.size = c * 5) (hvcur : w.heap[vb]? = some (.cells vcur 79 (0, 0))) (hvm : m ≤ vc) (hvs : vcur.size = vc * 5)
    (h1c : ∀ v ∈ cur.toList.take (n * 5), v.oneCell' = true) (h1v : ∀ v ∈ vcur.toList.take (m * 5), v.oneCell' = true) :
    Calls Try.prog 104 #[.slice (some ⟨b, 0, none⟩) n c, .int .i64 i, .slice (some ⟨vb, 0, none⟩) m vc] w fun e w' =>
      ∃ R : Array Value, e = .returned (.slice (some ⟨b, 0, none⟩) (n + m) c) ∧ w.drawn ≤ w'.drawn ∧ w.grownBy w' (some b) ∧ w'.heap[b]? = some (.cells R 79 (0, 0)) ∧ R.size = c * 5 ∧
        R.toList.take ((n + m) * 5) = cur.toList.take (i * 5) ++ vcur.toList.take (m * 5) ++ (cur.toList.drop (i * 5)).take ((n - i) * 5) := by
  have hc63' := hc63
  unfold maxLen at hc63
  have hz1 : ¬ ((m : Int) = 0) := by omega
  have hz2 : ¬ ((i : Int) = (n : Int)) := by omega
  have hw1 : IntKind.i64.wrap ((i : Int) + (m : Int)) = (i : Int) + (m : Int) := by rw [IntKind.wrap_i64]; omega
  have hw2 : IntKind.i64.wrap ((n : Int) + (m : Int)) = (n : Int) + (m : Int) := by rw [IntKind.wrap_i64]; omega
  have hb1 : (0 : Int) ≤ (i : Int) + (m : Int) := by omega
  have hin : i ≤ n := by omega
  have htn : ((i : Int) + (m : Int)).toNat = i + m := by omega
  have hb2 : ¬ (c = i + m) := by omega
  have hb3 : (i : Int) ≤ (n : Int) + (m : Int) := by omega
  have hb4 : ¬ (c = i) := by omega
  have hov : ∀ o lb cb, (callFunc 142 #[.slice (some ⟨vb, 0, none⟩) m vc, .slice (some ⟨b, o, none⟩) lb cb]).run Try.prog w = .ok (.value (.bool false)) w := fun o lb cb => by
    rw [run_callFunc_extern Try.func142 (by kernel_rfl) (by kernel_rfl) (by kernel_rfl) (e := Extern.SlicesOverlaps.overlaps #[73, 73] #[4]) (by kernel_rfl),
      Lib.run_overlaps_apart w 73 4 79 Try.underlying73 5 Try.sizeOf79 ⟨vb, 0, none⟩ ⟨b, o, none⟩ m vc lb cb hvb 79 79 vcur.size cur.size (by simp [World.shape?, hvcur]) (by simp [World.shape?, hcur]) (by omega) (by simp [World.frozen?, hvcur]) (by simp [World.frozen?, hvcur])]
    rfl
  have hsz : (Try.prog.info? 79).map (·.size) = some 5 := by kernel_rfl
  obtain ⟨M1, hM1⟩ : ∃ M1, M1 = splice cur.toList ((i + m) * 5) ((cur.toList.drop (i * 5)).take ((n - i) * 5)) := ⟨_, rfl⟩
  have hM1l : M1.toArray.size = c * 5 := by
    rw [hM1]; simp [splice]; omega
  have hcp1 : ∀ ty dc sc, (Builtin.copy_ #[73, 73] ty #[.slice (some ⟨b, (i + m) * 5, none⟩) (n + m - (i + m)) dc, .slice (some ⟨b, i * 5, none⟩) (n + m - i) sc]).run Try.prog w.drew = .ok (goInt ((n - i : Nat) : Int)) (w.drew.setRow b M1.toArray) := fun ty dc sc => by
    have h := run_copy_rowK (P := Try.prog) w.drew 73 73 ty 79 5 b ((i + m) * 5) (n + m - (i + m)) dc ⟨b, i * 5, none⟩ (n + m - i) sc cur 79 ((cur.toList.drop (i * 5)).take ((n - i) * 5)) Try.underlying73 hsz
      (by have : Nat.min (n + m - i) (n + m - (i + m)) = n - i := by simp only [Nat.min_def]; split <;> omega
          rw [this]; simp; omega)
      (fun j v hj => by
        rw [addr_off]
        rw [List.getElem?_take] at hj
        split at hj
        · rw [List.getElem?_drop] at hj
          rw [show w.drew.cell? ⟨b, i * 5 + j, none⟩ = w.cell? ⟨b, i * 5 + j, none⟩ from rfl, cell_of_row w b _ cur 79 (0, 0) hcur]
          simpa using hj
        · cases hj)
      hcur (by simp; omega) (fun v hv => h1c v (by
        obtain ⟨j, hj⟩ := List.getElem?_of_mem hv
        rw [List.getElem?_take] at hj
        split at hj
        · rw [List.getElem?_drop] at hj
          exact List.mem_of_getElem? (i := i * 5 + j) (by rw [List.getElem?_take, if_pos (by omega)]; exact hj)
        · cases hj))
    rw [show Nat.min (n + m - i) (n + m - (i + m)) = n - i by simp only [Nat.min_def]; split <;> omega, ← hM1] at h
    exact h
  obtain ⟨W1, hW1⟩ : ∃ W1, W1 = w.drew.setRow b M1.toArray := ⟨_, rfl⟩
  have hW1b : W1.heap[b]? = some (.cells M1.toArray 79 (0, 0)) := by
    rw [hW1]; exact setRow_heap _ _ _ _ _ _ hcur
  have hW1v : W1.heap[vb]? = some (.cells vcur 79 (0, 0)) := by
    rw [hW1, setRow_other _ _ _ _ hvb]; exact hvcur
  have hcp2 : ∀ (W : World), W.heap = W1.heap → ∀ ty dc, (Builtin.copy_ #[73, 73] ty #[.slice (some ⟨b, i * 5, none⟩) (n + m - i) dc, .slice (some ⟨vb, 0, none⟩) m vc]).run Try.prog W = .ok (goInt (m : Int)) (W.setRow b (splice M1 (i * 5) (vcur.toList.take (m * 5))).toArray) := fun W hWh ty dc => by
    have h := run_copy_rowK (P := Try.prog) W 73 73 ty 79 5 b (i * 5) (n + m - i) dc ⟨vb, 0, none⟩ m vc M1.toArray 79 (vcur.toList.take (m * 5)) Try.underlying73 hsz
      (by have : Nat.min m (n + m - i) = m := by simp only [Nat.min_def]; split <;> omega
          rw [this]; simp; omega)
      (fun j v hj => by
        rw [addr_off, Nat.zero_add]
        rw [List.getElem?_take] at hj
        split at hj
        · rw [cell_of_row W vb _ vcur 79 (0, 0) (by rw [hWh]; exact hW1v)]
          simpa using hj
        · cases hj)
      (by rw [hWh]; exact hW1b) (by simp at hM1l ⊢; omega) h1v
    rw [show Nat.min m (n + m - i) = m by simp only [Nat.min_def]; split <;> omega] at h
    exact h
  rw [← hW1] at hcp1
  obtain ⟨R3, hR3⟩ : ∃ R3, R3 = splice M1 (i * 5) (vcur.toList.take (m * 5)) := ⟨_, rfl⟩
  rw [← hR3] at hcp2
  have hR3l : R3.length = c * 5 := by
    rw [hR3]; simp at hM1l; simp [splice]; omega
  have hfin : R3.take ((n + m) * 5) = cur.toList.take (i * 5) ++ vcur.toList.take (m * 5) ++ (cur.toList.drop (i * 5)).take ((n - i) * 5) := by
    have hM1l' : M1.length = c * 5 := by simpa using hM1l
    have hvl : (vcur.toList.take (m * 5)).length = m * 5 := by simp; omega
    have hdl : ((cur.toList.drop (i * 5)).take ((n - i) * 5)).length = (n - i) * 5 := by simp; omega
    apply List.ext_getElem?
    intro k
    rw [List.getElem?_take]
    split
    · rename_i hk
      rw [hR3, splice_get _ _ _ (by rw [hvl]; omega), hM1, splice_get _ _ _ (by rw [hdl]; simp; omega)]
      by_cases h1 : k < i * 5
      · rw [if_neg (by omega), if_neg (by omega), List.append_assoc, List.getElem?_append_left (by simp; omega), List.getElem?_take, if_pos h1]
      · by_cases h2 : k < (i + m) * 5
        · rw [if_pos ⟨by omega, by rw [hvl]; omega⟩, List.append_assoc, List.getElem?_append_right (by simp; omega), List.getElem?_append_left (by simp; omega)]
          congr 1; simp; omega
        · rw [if_neg (by rw [hvl]; omega), if_pos ⟨by omega, by rw [hdl]; omega⟩, List.getElem?_append_right (by rw [List.length_append, hvl]; simp; omega)]
          congr 1; rw [List.length_append, hvl]; simp; omega
    · rename_i hk
      rw [List.getElem?_eq_none (by rw [List.length_append, List.length_append, hvl, hdl]; simp; omega)]
  have hgb : w.grownBy (W1.setRow b R3.toArray) (some b) := by
    rw [hW1]
    exact ⟨rfl, rfl, rfl, by simp, fun k _ hk => by
      have hne : k ≠ b := fun h => hk (by rw [h])
      rw [setRow_other _ _ _ _ hne, setRow_other _ _ _ _ hne]
      rfl⟩
  have hat := setRow_heap W1 b _ R3.toArray _ _ hW1b
  have HF := Lib.hid hfin; clear hfin
  have HL := Lib.hid hR3l; clear hR3l
  have hdr : w.drawn ≤ (W1.setRow b R3.toArray).drawn := by rw [hW1]; exact Nat.le_succ _
  have HG := Lib.hid hgb; clear hgb
  have HD := Lib.hid hdr; clear hdr
  have HA := Lib.hid hat; clear hat
  clear hM1l hW1b hW1v h1c h1v hsz hR3
  clear hW1
  clear hM1
  have mixed : Try.prog.follows .mixedOrders = true := by kernel_rfl
  go_enter Try.func104, Try.ntmps104
  go_wp2_with (simp only [hov])
  go_region_law_o (refine step_copy_runI rfl _ _ 73 73 rfl _ _ (by simp [Act.eval, Act.put]) (by simp [Act.eval, Act.put]) (hcp1 _ _ _) ?_)
  go_wp2_with (at_builtin; refine wpList_copy_runI _ rfl _ _ 73 73 rfl _ _ rfl rfl (hcp2 _ rfl _ _) ?_)
  go_ret
  exact ⟨R3.toArray, rfl, HD.out, HG.out, HA.out, HL.out, HF.out⟩

set_option maxHeartbeats 4000000 in
set_option maxRecDepth 100000 in
theorem ins104_grow (b n c i vb m vc : Nat) (cur vcur : Array Value) (w : World) (hi : i < n) (hm : 0 < m) (hnc : n ≤ c) (hroom : c < n + m) (hbig : (n + m) * 40 ≤ 140737488355328)
    (hcur : w.heap[b]? = some (.cells cur 79 (0, 0))) (hcs : cur.size = c * 5) (hvcur : w.heap[vb]? = some (.cells vcur 79 (0, 0))) (hvm : m ≤ vc) (hvs : vcur.size = vc * 5)
    (h1c : ∀ v ∈ cur.toList.take (n * 5), v.oneCell' = true) (h1v : ∀ v ∈ vcur.toList.take (m * 5), v.oneCell' = true) :
    Calls Try.prog 104 #[.slice (some ⟨b, 0, none⟩) n c, .int .i64 i, .slice (some ⟨vb, 0, none⟩) m vc] w fun e w' =>
      ∃ (G : Nat) (R : Array Value), e = .returned (.slice (some ⟨w.heap.size, 0, none⟩) (n + m) G) ∧ w.drawn ≤ w'.drawn ∧ Below w.heap.size w w' ∧ w'.heap[w.heap.size]? = some (.cells R 79 (0, 0)) ∧ n + m ≤ G ∧ G ≤ maxLen ∧ R.size = G * 5 ∧
        R.toList.take ((n + m) * 5) = cur.toList.take (i * 5) ++ vcur.toList.take (m * 5) ++ (cur.toList.drop (i * 5)).take ((n - i) * 5) := by
  have hz1 : ¬ ((m : Int) = 0) := by omega
  have hz2 : ¬ ((i : Int) = (n : Int)) := by omega
  have hz3 : (c : Int) < (n : Int) + (m : Int) := by omega
  have hkk : (n : Int) + (m : Int) - (i : Int) = ((n + m - i : Nat) : Int) := by omega
  have hik : i + (n + m - i) = n + m := by omega
  have hbw : b < w.heap.size := (Array.getElem?_eq_some_iff.1 hcur).1
  have hvw : vb < w.heap.size := (Array.getElem?_eq_some_iff.1 hvcur).1
  have hbN : b ≠ w.heap.size := by omega
  have hvN : vb ≠ w.heap.size := by omega
  obtain ⟨i0, hi0, hzs, hzb, hz0⟩ := tabOk.info (t := 79) (show tlook tab 79 = some _ from rfl)
  replace hzs : i0.size = 5 := hzs
  replace hzb : i0.bytes = 40 := hzb
  replace hz0 : i0.zero = some (.agg #[.bool false, .int .u64 (0), .int .u64 (0), .int .i64 (0), .int .i64 (0)]) := hz0
  have hsz : (Try.prog.info? 79).map (·.size) = some 5 := by kernel_rfl
  have hold : (Builtin.firstCells i0.size i (.slice (some ⟨b, 0, none⟩) i c)).run Try.prog w.drew = .ok (cur.toList.take (i * 5)).toArray w.drew := by
    rw [hzs]
    exact run_firstCells_some w.drew 5 i ⟨b, 0, none⟩ i c (cur.toList.take (i * 5)) (by simp; omega) (fun j v hj => by
      rw [addr_off, Nat.zero_add]
      rw [List.getElem?_take] at hj
      split at hj
      · rw [show w.drew.cell? ⟨b, j, none⟩ = w.cell? ⟨b, j, none⟩ from rfl, cell_of_row w b _ cur 79 (0, 0) hcur]
        simpa using hj
      · cases hj)
  obtain ⟨G, hG⟩ : ∃ G, G = grownCap w (n + m) c 79 := ⟨_, rfl⟩
  obtain ⟨ROW, hROW⟩ : ∃ ROW : Array Value, ROW = (cur.toList.take (i * 5)).toArray ++ Builtin.zeroCells (Value.cells (.agg #[.bool false, .int .u64 (0), .int .u64 (0), .int .i64 (0), .int .i64 (0)])) (n + m - i) ++ Builtin.zeroCells (Value.cells (.agg #[.bool false, .int .u64 (0), .int .u64 (0), .int .i64 (0), .int .i64 (0)])) (G - (n + m)) := ⟨_, rfl⟩
  have hrz : ∀ ty, (Builtin.append_ #[73, 3] ty #[.slice (some ⟨b, 0, none⟩) i c, .int .i64 ((n : Int) + (m : Int) - (i : Int))]).run Try.prog w =
      .ok (.slice (some ⟨w.heap.size, 0, none⟩) (n + m) G) (w.drew.alloc (.cells ROW 79)) := fun ty => by
    have h := Lib.run_append_grow_zeros w 73 3 ty 79 i0 _ .i64 .i64 Try.underlying73 Try.underlying3 hi0 hz0 (some ⟨b, 0, none⟩) i c (cur.toList.take (i * 5)) hold (n + m - i) (by omega) (by omega) (by omega) (by omega) (by rw [hzb]; omega) (by rw [hzb, hik]; exact growslice_fits hroom hbig)
    rw [hik, ← hG, ← hROW] at h
    rw [hkk]
    exact h
  have hGn : n + m ≤ G := by rw [hG]; exact grownCap_ge w _ _ _
  have hGm : G ≤ maxLen := by rw [hG]; exact grownCap_le_maxLen w (n + m) c 79 (by unfold maxLen; omega)
  have hRs : ROW.size = G * 5 := by
    rw [hROW]
    simp [Builtin.zeroCells, Value.cells]
    omega
  have hRt : ROW.toList.take (i * 5) = cur.toList.take (i * 5) := by
    rw [hROW]
    simp only [Array.toList_append, List.append_assoc]
    rw [List.take_append_of_le_length (by simp; omega)]
    simp [List.take_take]
  clear hROW hG hold
  obtain ⟨W1, hW1⟩ : ∃ W1, W1 = w.drew.alloc (.cells ROW 79) := ⟨_, rfl⟩
  have hWN : W1.heap[w.heap.size]? = some (.cells ROW 79 (0, 0)) := by rw [hW1]; exact heap_alloc_new w.drew _
  have hWb : W1.heap[b]? = some (.cells cur 79 (0, 0)) := by rw [hW1, heap_alloc_old w.drew _ hbw]; exact hcur
  have hWv : W1.heap[vb]? = some (.cells vcur 79 (0, 0)) := by rw [hW1, heap_alloc_old w.drew _ hvw]; exact hvcur
  obtain ⟨V, hV⟩ : ∃ V, V = vcur.toList.take (m * 5) := ⟨_, rfl⟩
  have hVl : V.length = m * 5 := by rw [hV]; simp; omega
  obtain ⟨D, hD⟩ : ∃ D, D = (cur.toList.drop (i * 5)).take ((n - i) * 5) := ⟨_, rfl⟩
  have hDl : D.length = (n - i) * 5 := by rw [hD]; simp; omega
  obtain ⟨R2, hR2⟩ : ∃ R2, R2 = splice ROW.toList (i * 5) V := ⟨_, rfl⟩
  have hR2l : R2.length = G * 5 := by rw [hR2]; simp [splice, hVl]; omega
  obtain ⟨R3, hR3⟩ : ∃ R3, R3 = splice R2 ((i + m) * 5) D := ⟨_, rfl⟩
  have hR3l : R3.length = G * 5 := by rw [hR3]; simp [splice, hDl]; omega
  have hfin : R3.take ((n + m) * 5) = cur.toList.take (i * 5) ++ V ++ D := by
    apply List.ext_getElem?
    intro k
    rw [List.getElem?_take]
    split
    · rename_i hk
      rw [hR3, splice_get _ _ _ (by rw [hDl]; omega), hR2, splice_get _ _ _ (by rw [hVl]; simp; omega)]
      by_cases h1 : k < i * 5
      · rw [if_neg (by omega), if_neg (by omega), List.append_assoc, List.getElem?_append_left (by simp; omega), ← hRt, List.getElem?_take, if_pos h1]
      · by_cases h2 : k < (i + m) * 5
        · rw [if_neg (by omega), if_pos ⟨by omega, by rw [hVl]; omega⟩, List.append_assoc, List.getElem?_append_right (by simp; omega), List.getElem?_append_left (by simp; omega)]
          congr 1; simp; omega
        · rw [if_pos ⟨by omega, by rw [hDl]; omega⟩, List.getElem?_append_right (by simp [hVl]; omega)]
          congr 1; simp [hVl]; omega
    · rename_i hk
      rw [List.getElem?_eq_none (by simp [hVl, hDl]; omega)]
  have hcpA : ∀ (W : World), W.heap = W1.heap → ∀ ty dc, (Builtin.copy_ #[73, 73] ty #[.slice (some ⟨w.heap.size, i * 5, none⟩) (n + m - i) dc, .slice (some ⟨vb, 0, none⟩) m vc]).run Try.prog W = .ok (goInt (m : Int)) (W.setRow w.heap.size R2.toArray) := fun W hWh ty dc => by
    have h := run_copy_rowK (P := Try.prog) W 73 73 ty 79 5 w.heap.size (i * 5) (n + m - i) dc ⟨vb, 0, none⟩ m vc ROW 79 V Try.underlying73 hsz
      (by have : Nat.min m (n + m - i) = m := by simp only [Nat.min_def]; split <;> omega
          rw [this, hVl])
      (fun j v hj => by
        rw [hV] at hj
        rw [addr_off, Nat.zero_add]
        rw [List.getElem?_take] at hj
        split at hj
        · rw [cell_of_row W vb _ vcur 79 (0, 0) (by rw [hWh]; exact hWv)]
          simpa using hj
        · cases hj)
      (by rw [hWh]; exact hWN) (by rw [hVl, hRs]; omega) (by rw [hV]; exact h1v)
    rw [show Nat.min m (n + m - i) = m by simp only [Nat.min_def]; split <;> omega, ← hR2] at h
    exact h
  have hcpB : ∀ (W : World), W.heap[w.heap.size]? = some (.cells R2.toArray 79 (0, 0)) → W.heap[b]? = some (.cells cur 79 (0, 0)) → ∀ ty dc sc, (Builtin.copy_ #[73, 73] ty #[.slice (some ⟨w.heap.size, (i + m) * 5, none⟩) (n + m - (i + m)) dc, .slice (some ⟨b, i * 5, none⟩) (n - i) sc]).run Try.prog W = .ok (goInt ((n - i : Nat) : Int)) (W.setRow w.heap.size R3.toArray) := fun W hN hB ty dc sc => by
    have h := run_copy_rowK (P := Try.prog) W 73 73 ty 79 5 w.heap.size ((i + m) * 5) (n + m - (i + m)) dc ⟨b, i * 5, none⟩ (n - i) sc R2.toArray 79 D Try.underlying73 hsz
      (by have : Nat.min (n - i) (n + m - (i + m)) = n - i := by simp only [Nat.min_def]; split <;> omega
          rw [this, hDl])
      (fun j v hj => by
        rw [hD] at hj
        rw [addr_off]
        rw [List.getElem?_take] at hj
        split at hj
        · rw [List.getElem?_drop] at hj
          rw [cell_of_row W b _ cur 79 (0, 0) hB]
          simpa using hj
        · cases hj)
      hN (by simp [hDl, hR2l]; omega) (fun v hv => h1c v (by
        rw [hD] at hv
        obtain ⟨j, hj⟩ := List.getElem?_of_mem hv
        rw [List.getElem?_take] at hj
        split at hj
        · rw [List.getElem?_drop] at hj
          exact List.mem_of_getElem? (i := i * 5 + j) (by rw [List.getElem?_take, if_pos (by omega)]; exact hj)
        · cases hj))
    rw [show Nat.min (n - i) (n + m - (i + m)) = n - i by simp only [Nat.min_def]; split <;> omega] at h
    rw [show R2.toArray.toList = R2 from rfl, ← hR3] at h
    exact h
  have hW2N : (W1.setRow w.heap.size R2.toArray).heap[w.heap.size]? = some (.cells R2.toArray 79 (0, 0)) := setRow_heap _ _ _ _ _ _ hWN
  have hW2b : (W1.setRow w.heap.size R2.toArray).heap[b]? = some (.cells cur 79 (0, 0)) := by rw [setRow_other _ _ _ _ hbN]; exact hWb
  have hbel : Below w.heap.size w W1 := by
    rw [hW1]
    exact ⟨rfl, rfl, rfl, by simp, fun k hk => heap_alloc_old w.drew _ hk⟩
  have mixed : Try.prog.follows .mixedOrders = true := by kernel_rfl
  have hdr : w.drawn ≤ W1.drawn := by rw [hW1]; exact Nat.le_succ _
  have HW := Lib.hid hdr; clear hdr
  have HF := Lib.hid hfin; clear hfin
  have hGi : ¬ (G = i) := by omega
  have hGim : ¬ (G = i + m) := by omega
  have hci : ¬ (c = i) := by omega
  have hGM := hGm
  unfold maxLen at hGM
  have hin : i ≤ n := by omega
  have htn : ((i : Int) + (m : Int)).toNat = i + m := by omega
  have hw1 : IntKind.i64.wrap ((i : Int) + (m : Int)) = (i : Int) + (m : Int) := by rw [IntKind.wrap_i64]; omega
  have hb1 : (0 : Int) ≤ (i : Int) + (m : Int) := by omega
  have hb3 : (i : Int) ≤ (n : Int) := by omega
  rw [← hV, ← hD]
  rw [← hW1] at hrz
  clear hV hD hVl hDl hR2 hR2l hR3 hRt hi0 hzb hzs hz0 hsz hRs hkk hik hWN hWb hWv hcs hvs h1c h1v hcur hvcur hW1
  have HR3 := Lib.hid hR3l; clear hR3l
  go_enter Try.func104, Try.ntmps104
  go_wp2_with (first
    | (at_builtin; refine Lib.wpList_append_run _ rfl _ _ _ _ rfl _ _ rfl rfl _ _ (hrz _) ?_)
    | (at_builtin; refine wpList_copy_runI _ rfl _ _ 73 73 rfl _ _ rfl rfl (hcpA _ rfl _ _) ?_)
    | (at_builtin; refine wpList_copy_runI _ rfl _ _ 73 73 rfl _ _ rfl rfl (hcpB _ (by first | exact hW2N | assumption) (by first | exact hW2b | assumption) _ _ _) ?_))
  go_region_law_o (refine step_copy_runI rfl _ _ 73 73 rfl (.slice (some ⟨w.heap.size, (i + m) * 5, none⟩) (n + m - (i + m)) (G - (i + m))) (.slice (some ⟨b, i * 5, none⟩) (n - i) (c - i)) (by simp [Act.eval, Act.put]) (by simp [Act.eval, Act.put]) (hcpB (W1.setRow w.heap.size R2.toArray).drew hW2N hW2b 3 (G - (i + m)) (c - i)) ?_)
  go_wp2
  go_ret
  exact ⟨G, R3.toArray, rfl, Nat.le_trans HW.out (by simp [World.setRow]), ⟨hbel.os, hbel.tape, hbel.output, by simpa using hbel.size, fun k hk => by rw [setRow_other _ _ _ _ (by omega)]; exact (setRow_other _ _ _ _ (by omega)).trans (hbel.block k hk)⟩, setRow_heap _ _ _ _ _ _ hW2N, hGn, hGm, HR3.out, HF.out⟩

set_option maxHeartbeats 4000000 in
set_option maxRecDepth 100000 in
theorem ins104_end (base : Option Addr) (n c vb m vc : Nat) (w w' : World) (v' : Value) (hnc : n ≤ c) (hc63 : c ≤ maxLen) (hm : 0 < m) (hnil : base = none → n = 0) (hm63 : m ≤ maxLen)
    (hrun : ∀ ty, (Builtin.append_ #[73, 73] ty #[.slice base n c, .slice (some ⟨vb, 0, none⟩) m vc]).run Try.prog w = .ok v' w') :
    Calls Try.prog 104 #[.slice base n c, .int .i64 n, .slice (some ⟨vb, 0, none⟩) m vc] w fun e w1 => e = .returned v' ∧ w' = w1 := by
  have hz1 : ¬ ((m : Int) = 0) := by omega
  unfold maxLen at hc63 hm63
  cases base with
  | none =>
    have h0 := hnil rfl
    subst h0
    go_enter Try.func104, Try.ntmps104
    go_wp2_with (at_builtin; refine Lib.wpList_append_run _ rfl _ _ _ _ rfl _ _ rfl rfl _ _ (hrun _) ?_)
    go_ret
    exact ⟨rfl, rfl⟩
  | some a =>
    obtain ⟨ab, ao, asp⟩ := a
    go_enter Try.func104, Try.ntmps104
    go_wp2_with (at_builtin; refine Lib.wpList_append_run _ rfl _ _ _ _ rfl _ _ rfl rfl _ _ (hrun _) ?_)
    all_goals (go_ret; exact ⟨rfl, rfl⟩)

/-- slices.Insert -/
def g_slices_Insert_doorman_api_Ban_doorman_api_Ban (a0 : List T_api_Ban) (a1 : Int) (a2 : List T_api_Ban) : Option (List T_api_Ban) :=
  need (0 ≤ a1 ∧ a1.toNat ≤ a0.length ∧ 0 < a2.length ∧ (a0.length + a2.length) * 40 ≤ 140737488355328 ∧ a0.length + a2.length ≤ maxLen) <|
  some (a0.take a1.toNat ++ a2 ++ a0.drop a1.toNat)

theorem g_slices_Insert_doorman_api_Ban_doorman_api_Ban_own (a0 : List T_api_Ban) (a1 : Int) (a2 : List T_api_Ban) (r : List T_api_Ban) (hf : g_slices_Insert_doorman_api_Ban_doorman_api_Ban a0 a1 a2 = some r) :
    HCall Try.prog 104 [(100000, .rows 79 5 a0.length (rowsOf T_api_Ban.c T_api_Ban.d a0)), (100001, .rows 79 5 a2.length (rowsOf T_api_Ban.c T_api_Ban.d a2))] [.one (.osl 100000 a0.length), .one (.lit (.int .i64 a1)), .one (.osl 100001 a2.length)]
      [(99999, .rows 79 5 r.length (rowsOf T_api_Ban.c T_api_Ban.d r))] (.one (.osl 99999 r.length)) := by
  obtain ⟨⟨o1, o2, o3, o4, o5⟩, hf⟩ := need_some hf
  cases hf
  obtain ⟨i0, hi0, hzs, hzb, hz0⟩ := tabOk.info (t := 79) (show tlook tab 79 = some _ from rfl)
  have h := insert_call (enc := T_api_Ban.c) (d := T_api_Ban.d) (F := 104) (BY := 40) (K := 5) ⟨_, Try.func104, rfl, rfl⟩ Try.underlying73 hi0 hz0 hzs hzb rfl (by decide) (fun b n c i vb m vc cur vcur w h1 h2 h3 h4 h5 h6 h7 h8 h9 h10 h11 h12 => ins104_shift b n c i vb m vc cur vcur w h1 h2 h3 h4 h5 h6 h7 h8 h9 h10 h11 h12)
    (fun b n c i vb m vc cur vcur w h1 h2 h3 h4 h5 h6 h7 h8 h9 h10 h11 h12 => ins104_grow b n c i vb m vc cur vcur w h1 h2 h3 h4 h5 h6 h7 h8 h9 h10 h11 h12)
    (fun base n c vb m vc w w' v' h1 h2 h3 h4 h5 h6 => ins104_end base n c vb m vc w w' v' h1 h2 h3 h4 h5 h6) a0 a2 a1.toNat o2 o3 o4 o5
  rw [Int.toNat_of_nonneg o1] at h
  exact h


/-- doorman/bans.Add$1 -/
def g_bans_Add_1 (a0 : T_api_Ban) (c0 : T_api_Ban) : Option Bool :=
  (g_cidr_Compare a0.fNet c0.fNet).bind fun x1 =>
  some (decide (x1 > (0 : Int)))

theorem g_bans_Add_1_ok (a0 : T_api_Ban) (c0 : T_api_Ban) (r : Bool) (hf : g_bans_Add_1 a0 c0 = some r) : SCall Try.prog 102 [.agg (T_api_Ban.c a0), .one (.rp false 5 (fun j => (T_api_Ban.c c0 : List C).getD (0 + j) .junk))] (.one (.lit (.bool r))) := by
  refine SCall.of Try.func102 rfl rfl rfl rfl fun S0 w0 => ?_
  unfold g_bans_Add_1 at hf
  obtain ⟨x1, q1, hf⟩ := bind_some' hf
  replace hf := Option.some.inj hf
  subst hf
  exact toEnd_good allOk 4 _ _ [⟨[], [], [], [], [], [], []⟩, ⟨[(4, .r (.one (.lit (.int .i64 x1))) [])], [], [], [], [], [], []⟩] [] [] [] [] [SCall Try.prog 103 [.agg (T_api_Net.c a0.fNet), .agg (T_api_Net.c c0.fNet)] (.one (.lit (.int .i64 x1)))] (by kernel_rfl) rfl ⟨(g_cidr_Compare_ok a0.fNet c0.fNet x1 q1), trivial⟩

def g_slices_IndexFunc_api_Ban_api_Ban_102_c0 (a0 : (List T_api_Ban)) (a1_0 : T_api_Ban)  : Nat → Int → Int → Option Int
  | 0, _, _ => none
  | fu + 1, v7, v8 =>
    bif (decide (v8 < v7)) then
      need (0 ≤ v8 ∧ v8 < ((a0.length : Nat) : Int)) <|
      (g_bans_Add_1 (a0.getD v8.toNat T_api_Ban.d) a1_0).bind fun x1 =>
      bif x1 then
        some v8
      else
        g_slices_IndexFunc_api_Ban_api_Ban_102_c0 a0 a1_0  fu v7 (add64 v8 (1 : Int))
    else
      some (-1 : Int)

theorem g_slices_IndexFunc_api_Ban_api_Ban_102_c0_ok (S0 : Nat → Prop) (w0 : Start) (a0 : (List T_api_Ban)) (a1_0 : T_api_Ban)  : ∀ (fu : Nat) (v7 : Int) (v8 : Int) (r : Int), g_slices_IndexFunc_api_Ban_api_Ban_102_c0 a0 a1_0  fu v7 v8 = some r → Good Try.prog 19 S0 w0 (bodyPost Try.prog Try.f101 (Post S0 w0 (.one (.lit (.int .i64 r))))) (at_ [1, 0, 1, 0] (bodyOf Try.f101)) ⟨[(0, .one (cL 5 T_api_Ban.c T_api_Ban.d a0)), (1, .one (.clo (.func 102) 0 1 (fun i => ([] : List C).getD i .junk) (fun i => ([.rp false 5 (fun j => (T_api_Ban.c a1_0 : List C).getD (0 + j) .junk)] : List C).getD i .junk))), (7, .one (.lit (.int .i64 v7))), (8, .one (.lit (.int .i64 v8)))], []⟩ := by
  intro fu
  induction fu with
  | zero =>
    intro v7 v8 r hf
    simp [g_slices_IndexFunc_api_Ban_api_Ban_102_c0] at hf
  | succ fu ih =>
    intro v7 v8 r hf
    unfold g_slices_IndexFunc_api_Ban_api_Ban_102_c0 at hf
    rcases br_some hf with ⟨h1, hf⟩ | ⟨h1, hf⟩
    · obtain ⟨o2, hf⟩ := need_some hf
      obtain ⟨x1, q3, hf⟩ := bind_some' hf
      rcases br_some hf with ⟨h4, hf⟩ | ⟨h4, hf⟩
      · replace hf := Option.some.inj hf
        subst hf
        exact toEnd_good allOk 15 _ _ [⟨[], [], [], [], [], [], []⟩, ⟨[], [], [], [], [], [], []⟩, ⟨[(5, .r (.one (.lit (.bool x1))) [])], [], [], [], [], [], []⟩, ⟨[], [], [], [], [], [], []⟩] [true, true] [] [] [] [(decide (v8 < v7)) = true, 0 ≤ v8 ∧ v8 < ((a0.length : Nat) : Int), SCall Try.prog 102 [.agg (T_api_Ban.c (a0.getD v8.toNat T_api_Ban.d)), .one (.rp false 5 (fun j => (T_api_Ban.c a1_0 : List C).getD (0 + j) .junk))] (.one (.lit (.bool x1))), x1 = true] (by kernel_rfl) rfl ⟨h1, o2, (g_bans_Add_1_ok (a0.getD v8.toNat T_api_Ban.d) a1_0 x1 q3), h4, trivial⟩
      · exact toK_good allOk Post.ends 17 _ _ _ _ [⟨[], [], [], [], [], [], []⟩, ⟨[], [], [], [], [], [], []⟩, ⟨[(5, .r (.one (.lit (.bool x1))) [])], [], [], [], [], [], []⟩, ⟨[], [], [], [], [], [], []⟩] [true, false] ⟨[], [], [], [], [], [0, 1, 7, 8], [], []⟩ [(decide (v8 < v7)) = true, 0 ≤ v8 ∧ v8 < ((a0.length : Nat) : Int), SCall Try.prog 102 [.agg (T_api_Ban.c (a0.getD v8.toNat T_api_Ban.d)), .one (.rp false 5 (fun j => (T_api_Ban.c a1_0 : List C).getD (0 + j) .junk))] (.one (.lit (.bool x1))), x1 = false] (by kernel_rfl) ⟨h1, o2, (g_bans_Add_1_ok (a0.getD v8.toNat T_api_Ban.d) a1_0 x1 q3), h4, trivial⟩ (ih v7 (add64 v8 (1 : Int)) r hf)
    · replace hf := Option.some.inj hf
      subst hf
      exact toEnd_good allOk 8 _ _ [⟨[], [], [], [], [], [], []⟩, ⟨[], [], [], [], [], [], []⟩] [false] [] [] [] [(decide (v8 < v7)) = false] (by kernel_rfl) rfl ⟨h1, trivial⟩

/-- slices.IndexFunc[[]doorman/api.Ban,doorman/api.Ban] -/
def g_slices_IndexFunc_api_Ban_api_Ban_102 (a0 : (List T_api_Ban)) (a1_0 : T_api_Ban) : Option Int :=
  g_slices_IndexFunc_api_Ban_api_Ban_102_c0 a0 a1_0  ((((a0.length : Nat) : Int) - (0 : Int)).toNat + 2) ((a0.length : Nat) : Int) (0 : Int)

theorem g_slices_IndexFunc_api_Ban_api_Ban_102_ok (a0 : (List T_api_Ban)) (a1_0 : T_api_Ban) (r : Int) (hf : g_slices_IndexFunc_api_Ban_api_Ban_102 a0 a1_0 = some r) : SCall Try.prog 101 [.one (cL 5 T_api_Ban.c T_api_Ban.d a0), .one (.clo (.func 102) 0 1 (fun i => ([] : List C).getD i .junk) (fun i => ([.rp false 5 (fun j => (T_api_Ban.c a1_0 : List C).getD (0 + j) .junk)] : List C).getD i .junk))] (.one (.lit (.int .i64 r))) := by
  refine SCall.of Try.func101 rfl rfl rfl rfl fun S0 w0 => ?_
  unfold g_slices_IndexFunc_api_Ban_api_Ban_102 at hf
  exact toK_good allOk Post.ends 6 _ _ _ _ [⟨[], [], [], [], [], [], []⟩, ⟨[], [], [], [], [], [], []⟩] [] ⟨[], [], [], [], [], [0, 1, 7, 8], [], []⟩ [] (by kernel_rfl) trivial (g_slices_IndexFunc_api_Ban_api_Ban_102_c0_ok S0 w0 a0 a1_0   ((((a0.length : Nat) : Int) - (0 : Int)).toNat + 2) ((a0.length : Nat) : Int) (0 : Int) r hf)

/-- doorman/bans.Add -/
def g_bans_Add (a0 : (List T_api_Ban)) (a1 : T_api_Ban) (a2 : Int) : Option ((List T_api_Ban) × Int) :=
  (g_ban_Right a1).bind fun x1 =>
  bif (!x1) then
    some (([] : (List T_api_Ban)), (1 : Int))
  else
    (g_slices_Clone_doorman_api_Ban_doorman_api_Ban a0).bind fun x2 =>
    (g_bans_find a0 a1.fNet).bind fun x3 =>
    bif (decide (x3 ≥ (0 : Int))) then
      need (0 ≤ x3 ∧ x3 < ((a0.length : Nat) : Int)) <|
      (g_ban_Join (a0.getD x3.toNat T_api_Ban.d) a1).bind fun x4 =>
      need (0 ≤ x3 ∧ x3 < ((x2.length : Nat) : Int)) <|
      some ((x2.set x3.toNat x4), (0 : Int))
    else
      bif (decide (((a0.length : Nat) : Int) ≥ a2)) then
        some (([] : (List T_api_Ban)), (5 : Int))
      else
        (g_slices_IndexFunc_api_Ban_api_Ban_102 a0 a1).bind fun x5 =>
        bif (decide (x5 < (0 : Int))) then
          (g_slices_Insert_doorman_api_Ban_doorman_api_Ban x2 ((a0.length : Nat) : Int) ([a1] : List T_api_Ban)).bind fun x6 =>
          some (x6, (0 : Int))
        else
          (g_slices_Insert_doorman_api_Ban_doorman_api_Ban x2 x5 ([a1] : List T_api_Ban)).bind fun x7 =>
          some (x7, (0 : Int))

theorem g_bans_Add_ok (a0 : (List T_api_Ban)) (a1 : T_api_Ban) (a2 : Int) (r : ((List T_api_Ban) × Int)) (hf : g_bans_Add a0 a1 a2 = some r) : SCall Try.prog 47 [.one (cL 5 T_api_Ban.c T_api_Ban.d a0), .agg (T_api_Ban.c a1), .one (.lit (.int .i64 a2))] (.tup [(false, (cLs 5 T_api_Ban.c T_api_Ban.d) r.1), (false, (cI .i64) r.2)]) := by
  refine SCall.of Try.func47 rfl rfl rfl rfl fun S0 w0 => ?_
  unfold g_bans_Add at hf
  obtain ⟨x1, q1, hf⟩ := bind_some' hf
  rcases br_some hf with ⟨h2, hf⟩ | ⟨h2, hf⟩
  · replace hf := Option.some.inj hf
    subst hf
    exact toEnd_good allOk 8 _ _ [⟨[], [], [], [], [], [], []⟩, ⟨[(1, .r (.one (.lit (.bool x1))) [])], [], [], [], [], [], []⟩, ⟨[], [], [], [], [], [], []⟩] [true] [] [] [(6, [(0, cL 5 T_api_Ban.c T_api_Ban.d [])])] [SCall Try.prog 97 [.agg (T_api_Ban.c a1)] (.one (.lit (.bool x1))), (!x1) = true] (by kernel_rfl) rfl ⟨(g_ban_Right_ok a1 x1 q1), h2, trivial⟩
  · obtain ⟨x2, q3, hf⟩ := bind_some' hf
    obtain ⟨x3, q4, hf⟩ := bind_some' hf
    rcases br_some hf with ⟨h5, hf⟩ | ⟨h5, hf⟩
    · obtain ⟨o6, hf⟩ := need_some hf
      obtain ⟨x4, q7, hf⟩ := bind_some' hf
      obtain ⟨o8, hf⟩ := need_some hf
      replace hf := Option.some.inj hf
      subst hf
      exact toEnd_good allOk 19 _ _ [⟨[], [], [], [], [], [], []⟩, ⟨[(1, .r (.one (.lit (.bool x1))) [])], [], [], [], [], [], []⟩, ⟨[], [], [], [], [], [], [(1, ⟨[], [(99999, 15)], [(99999, .rows 79 5 x2.length (rowsOf T_api_Ban.c T_api_Ban.d x2))], .one (.osl 99999 x2.length)⟩)]⟩, ⟨[(3, .r (.one (.lit (.int .i64 x3))) [])], [], [], [], [], [], []⟩, ⟨[], [], [], [], [], [], []⟩, ⟨[(7, .r (.agg (T_api_Ban.c x4)) []), (9, .c (x2.set x3.toNat x4).length (rowsOf T_api_Ban.c T_api_Ban.d (x2.set x3.toNat x4)))], [], [], [[], [], [], [], [2, 3], [4, 2, 3], [], [5, 4, 2, 3, 6], [0, 1, 2, 3, 4, 5, 6, 7], [8, 0, 1, 2, 3, 4, 5, 6, 7]], [], [], []⟩, ⟨[], [], [], [], [], [], []⟩] [false, true] [15] [] [] [SCall Try.prog 97 [.agg (T_api_Ban.c a1)] (.one (.lit (.bool x1))), (!x1) = false, HCall Try.prog 98 [] [.one (cL 5 T_api_Ban.c T_api_Ban.d a0)] [(99999, .rows 79 5 x2.length (rowsOf T_api_Ban.c T_api_Ban.d x2))] (.one (.osl 99999 x2.length)), SCall Try.prog 99 [.one (cL 5 T_api_Ban.c T_api_Ban.d a0), .agg (T_api_Net.c a1.fNet)] (.one (.lit (.int .i64 x3))), (decide (x3 ≥ (0 : Int))) = true, 0 ≤ x3 ∧ x3 < ((a0.length : Nat) : Int), SCall Try.prog 100 [.agg (T_api_Ban.c (a0.getD x3.toNat T_api_Ban.d)), .agg (T_api_Ban.c a1)] (.agg (T_api_Ban.c x4)), 0 ≤ x3 ∧ x3 < ((x2.length : Nat) : Int), (x2.set x3.toNat x4).length = x2.length, x3.toNat < x2.length, ExtU 5 x2.length (rowsOf T_api_Ban.c T_api_Ban.d x2) x3.toNat 0 (T_api_Ban.c x4) (rowsOf T_api_Ban.c T_api_Ban.d (x2.set x3.toNat x4))] (by kernel_rfl) rfl ⟨(g_ban_Right_ok a1 x1 q1), h2, (g_slices_Clone_doorman_api_Ban_doorman_api_Ban_own a0 x2 q3), (g_bans_find_ok a0 a1.fNet x3 q4), h5, o6, (g_ban_Join_ok (a0.getD x3.toNat T_api_Ban.d) a1 x4 q7), o8, List.length_set, (ltOf o8), (ext_set _ _ _ rfl), trivial⟩
    · rcases br_some hf with ⟨h9, hf⟩ | ⟨h9, hf⟩
      · replace hf := Option.some.inj hf
        subst hf
        exact toEnd_good allOk 22 _ _ [⟨[], [], [], [], [], [], []⟩, ⟨[(1, .r (.one (.lit (.bool x1))) [])], [], [], [], [], [], []⟩, ⟨[], [], [], [], [], [], [(1, ⟨[], [(99999, 15)], [(99999, .rows 79 5 x2.length (rowsOf T_api_Ban.c T_api_Ban.d x2))], .one (.osl 99999 x2.length)⟩)]⟩, ⟨[(3, .r (.one (.lit (.int .i64 x3))) [])], [], [], [], [], [], []⟩, ⟨[], [], [], [], [], [], []⟩, ⟨[], [], [], [], [], [], []⟩, ⟨[], [], [], [], [], [], []⟩] [false, false, true] [] [] [(6, [(0, cL 5 T_api_Ban.c T_api_Ban.d [])])] [SCall Try.prog 97 [.agg (T_api_Ban.c a1)] (.one (.lit (.bool x1))), (!x1) = false, HCall Try.prog 98 [] [.one (cL 5 T_api_Ban.c T_api_Ban.d a0)] [(99999, .rows 79 5 x2.length (rowsOf T_api_Ban.c T_api_Ban.d x2))] (.one (.osl 99999 x2.length)), SCall Try.prog 99 [.one (cL 5 T_api_Ban.c T_api_Ban.d a0), .agg (T_api_Net.c a1.fNet)] (.one (.lit (.int .i64 x3))), (decide (x3 ≥ (0 : Int))) = false, (decide (((a0.length : Nat) : Int) ≥ a2)) = true] (by kernel_rfl) rfl ⟨(g_ban_Right_ok a1 x1 q1), h2, (g_slices_Clone_doorman_api_Ban_doorman_api_Ban_own a0 x2 q3), (g_bans_find_ok a0 a1.fNet x3 q4), h5, h9, trivial⟩
      · obtain ⟨x5, q10, hf⟩ := bind_some' hf
        rcases br_some hf with ⟨h11, hf⟩ | ⟨h11, hf⟩
        · obtain ⟨x6, q12, hf⟩ := bind_some' hf
          replace hf := Option.some.inj hf
          subst hf
          exact toEnd_good allOk 30 _ _ [⟨[], [], [], [], [], [], []⟩, ⟨[(1, .r (.one (.lit (.bool x1))) [])], [], [], [], [], [], []⟩, ⟨[], [], [], [], [], [], [(1, ⟨[], [(99999, 15)], [(99999, .rows 79 5 x2.length (rowsOf T_api_Ban.c T_api_Ban.d x2))], .one (.osl 99999 x2.length)⟩)]⟩, ⟨[(3, .r (.one (.lit (.int .i64 x3))) [])], [], [], [], [], [], []⟩, ⟨[], [], [], [], [], [], []⟩, ⟨[], [], [], [], [], [], []⟩, ⟨[(2, .r (.one (.lit (.int .i64 x5))) [])], [], [(1, [4])], [], [], [], []⟩, ⟨[], [], [], [], [], [], []⟩, ⟨[], [], [], [], [], [], []⟩, ⟨[(3, .c ([a1] : List T_api_Ban).length (rowsOf T_api_Ban.c T_api_Ban.d ([a1] : List T_api_Ban)))], [], [], [], [], [], [(4, ⟨[(100000, 15), (100001, 46)], [(99999, 47)], [(99999, .rows 79 5 x6.length (rowsOf T_api_Ban.c T_api_Ban.d x6))], .one (.osl 99999 x6.length)⟩)]⟩] [false, false, false, true] [47] [] [] [SCall Try.prog 97 [.agg (T_api_Ban.c a1)] (.one (.lit (.bool x1))), (!x1) = false, HCall Try.prog 98 [] [.one (cL 5 T_api_Ban.c T_api_Ban.d a0)] [(99999, .rows 79 5 x2.length (rowsOf T_api_Ban.c T_api_Ban.d x2))] (.one (.osl 99999 x2.length)), SCall Try.prog 99 [.one (cL 5 T_api_Ban.c T_api_Ban.d a0), .agg (T_api_Net.c a1.fNet)] (.one (.lit (.int .i64 x3))), (decide (x3 ≥ (0 : Int))) = false, (decide (((a0.length : Nat) : Int) ≥ a2)) = false, SCall Try.prog 101 [.one (cL 5 T_api_Ban.c T_api_Ban.d a0), .one (.clo (.func 102) 0 1 (fun i => ([] : List C).getD i .junk) (fun i => ([.rp false 5 (fun j => (T_api_Ban.c a1 : List C).getD (0 + j) .junk)] : List C).getD i .junk))] (.one (.lit (.int .i64 x5))), (decide (x5 < (0 : Int))) = true, ([a1] : List T_api_Ban).length = 1, ∀ i j, i < 1 → j < 5 → rowsOf T_api_Ban.c T_api_Ban.d ([a1] : List T_api_Ban) i j = (([a1] : List T_api_Ban).flatMap T_api_Ban.c).getD (i * 5 + j) .junk, HCall Try.prog 104 [(100000, .rows 79 5 x2.length (rowsOf T_api_Ban.c T_api_Ban.d x2)), (100001, .rows 79 5 (([a1] : List T_api_Ban).length) (rowsOf T_api_Ban.c T_api_Ban.d ([a1] : List T_api_Ban)))] [.one (.osl 100000 x2.length), .one (.lit (.int .i64 ((a0.length : Nat) : Int))), .one (.osl 100001 (([a1] : List T_api_Ban).length))] [(99999, .rows 79 5 x6.length (rowsOf T_api_Ban.c T_api_Ban.d x6))] (.one (.osl 99999 x6.length))] (by kernel_rfl) rfl ⟨(g_ban_Right_ok a1 x1 q1), h2, (g_slices_Clone_doorman_api_Ban_doorman_api_Ban_own a0 x2 q3), (g_bans_find_ok a0 a1.fNet x3 q4), h5, h9, (g_slices_IndexFunc_api_Ban_api_Ban_102_ok a0 a1 x5 q10), h11, rfl, (fun i j hi hj => rows_flat (sz := 5) (e := T_api_Ban.c) (d := T_api_Ban.d) (fun _ => rfl) ([a1] : List T_api_Ban) i j hi hj), (g_slices_Insert_doorman_api_Ban_doorman_api_Ban_own x2 ((a0.length : Nat) : Int) ([a1] : List T_api_Ban) x6 q12), trivial⟩
        · obtain ⟨x7, q13, hf⟩ := bind_some' hf
          replace hf := Option.some.inj hf
          subst hf
          exact toEnd_good allOk 30 _ _ [⟨[], [], [], [], [], [], []⟩, ⟨[(1, .r (.one (.lit (.bool x1))) [])], [], [], [], [], [], []⟩, ⟨[], [], [], [], [], [], [(1, ⟨[], [(99999, 15)], [(99999, .rows 79 5 x2.length (rowsOf T_api_Ban.c T_api_Ban.d x2))], .one (.osl 99999 x2.length)⟩)]⟩, ⟨[(3, .r (.one (.lit (.int .i64 x3))) [])], [], [], [], [], [], []⟩, ⟨[], [], [], [], [], [], []⟩, ⟨[], [], [], [], [], [], []⟩, ⟨[(2, .r (.one (.lit (.int .i64 x5))) [])], [], [(1, [4])], [], [], [], []⟩, ⟨[], [], [], [], [], [], []⟩, ⟨[(3, .c ([a1] : List T_api_Ban).length (rowsOf T_api_Ban.c T_api_Ban.d ([a1] : List T_api_Ban)))], [], [], [], [], [], [(4, ⟨[(100000, 15), (100001, 46)], [(99999, 47)], [(99999, .rows 79 5 x7.length (rowsOf T_api_Ban.c T_api_Ban.d x7))], .one (.osl 99999 x7.length)⟩)]⟩] [false, false, false, false] [47] [] [] [SCall Try.prog 97 [.agg (T_api_Ban.c a1)] (.one (.lit (.bool x1))), (!x1) = false, HCall Try.prog 98 [] [.one (cL 5 T_api_Ban.c T_api_Ban.d a0)] [(99999, .rows 79 5 x2.length (rowsOf T_api_Ban.c T_api_Ban.d x2))] (.one (.osl 99999 x2.length)), SCall Try.prog 99 [.one (cL 5 T_api_Ban.c T_api_Ban.d a0), .agg (T_api_Net.c a1.fNet)] (.one (.lit (.int .i64 x3))), (decide (x3 ≥ (0 : Int))) = false, (decide (((a0.length : Nat) : Int) ≥ a2)) = false, SCall Try.prog 101 [.one (cL 5 T_api_Ban.c T_api_Ban.d a0), .one (.clo (.func 102) 0 1 (fun i => ([] : List C).getD i .junk) (fun i => ([.rp false 5 (fun j => (T_api_Ban.c a1 : List C).getD (0 + j) .junk)] : List C).getD i .junk))] (.one (.lit (.int .i64 x5))), (decide (x5 < (0 : Int))) = false, ([a1] : List T_api_Ban).length = 1, ∀ i j, i < 1 → j < 5 → rowsOf T_api_Ban.c T_api_Ban.d ([a1] : List T_api_Ban) i j = (([a1] : List T_api_Ban).flatMap T_api_Ban.c).getD (i * 5 + j) .junk, HCall Try.prog 104 [(100000, .rows 79 5 x2.length (rowsOf T_api_Ban.c T_api_Ban.d x2)), (100001, .rows 79 5 (([a1] : List T_api_Ban).length) (rowsOf T_api_Ban.c T_api_Ban.d ([a1] : List T_api_Ban)))] [.one (.osl 100000 x2.length), .one (.lit (.int .i64 x5)), .one (.osl 100001 (([a1] : List T_api_Ban).length))] [(99999, .rows 79 5 x7.length (rowsOf T_api_Ban.c T_api_Ban.d x7))] (.one (.osl 99999 x7.length))] (by kernel_rfl) rfl ⟨(g_ban_Right_ok a1 x1 q1), h2, (g_slices_Clone_doorman_api_Ban_doorman_api_Ban_own a0 x2 q3), (g_bans_find_ok a0 a1.fNet x3 q4), h5, h9, (g_slices_IndexFunc_api_Ban_api_Ban_102_ok a0 a1 x5 q10), h11, rfl, (fun i j hi hj => rows_flat (sz := 5) (e := T_api_Ban.c) (d := T_api_Ban.d) (fun _ => rfl) ([a1] : List T_api_Ban) i j hi hj), (g_slices_Insert_doorman_api_Ban_doorman_api_Ban_own x2 x5 ([a1] : List T_api_Ban) x7 q13), trivial⟩

/-- doorman/trie.New -/
def g_trie_New  : Option N_trie_Trie :=
  some (N_trie_Trie.mk N_trie_node.nil N_trie_node.nil (0 : Int))

theorem g_trie_New_ok  (r : N_trie_Trie) (hf : g_trie_New  = some r) : SCall Try.prog 16 [] (.one (N_trie_Trie.c r)) := by
  refine SCall.of Try.func16 rfl rfl rfl rfl fun S0 w0 => ?_
  unfold g_trie_New at hf
  replace hf := Option.some.inj hf
  subst hf
  exact toEnd_good allOk 4 _ _ [⟨[], [], [], [], [], [], []⟩, ⟨[], [], [], [], [(0, [(0, N_trie_node.c N_trie_node.nil), (1, N_trie_node.c N_trie_node.nil)])], [], []⟩] [] [2] [] [] [] (by kernel_rfl) rfl trivial

/-- doorman/trie.family -/
def g_trie_family (a0 : T_api_Addr) : Option Int :=
  bif a0.fV6 then
    some (1 : Int)
  else
    some (0 : Int)

theorem g_trie_family_ok (a0 : T_api_Addr) (r : Int) (hf : g_trie_family a0 = some r) : SCall Try.prog 73 [.agg (T_api_Addr.c a0)] (.one (.lit (.int .i64 r))) := by
  refine SCall.of Try.func73 rfl rfl rfl rfl fun S0 w0 => ?_
  unfold g_trie_family at hf
  rcases br_some hf with ⟨h1, hf⟩ | ⟨h1, hf⟩
  · replace hf := Option.some.inj hf
    subst hf
    exact toEnd_good allOk 8 _ _ [⟨[], [], [], [], [], [], []⟩, ⟨[], [], [], [], [], [], []⟩, ⟨[], [], [], [], [], [], []⟩] [true] [] [] [] [a0.fV6 = true] (by kernel_rfl) rfl ⟨h1, trivial⟩
  · replace hf := Option.some.inj hf
    subst hf
    exact toEnd_good allOk 9 _ _ [⟨[], [], [], [], [], [], []⟩, ⟨[], [], [], [], [], [], []⟩, ⟨[], [], [], [], [], [], []⟩] [false] [] [] [] [a0.fV6 = false] (by kernel_rfl) rfl ⟨h1, trivial⟩

/-- doorman/addr.Bit -/
def g_addr_Bit (a0 : T_api_Addr) (a1 : Int) : Option Int :=
  (g_addr_Bits a0).bind fun x1 =>
  bif (decide (a1 < (0 : Int))) then
    some (0 : Int)
  else
    bif (decide (a1 ≥ x1)) then
      some (0 : Int)
    else
      bif (decide ((sub64 (sub64 x1 (1 : Int)) a1) ≥ (64 : Int))) then
        need (0 ≤ (sub64 (sub64 (sub64 x1 (1 : Int)) a1) (64 : Int))) <|
        some (IntKind.wrap .i64 (IntKind.wrap .u64 (((BitVec.ofInt (IntKind.bits .u64) (Int.fdiv a0.fHi (2 ^ (min (sub64 (sub64 (sub64 x1 (1 : Int)) a1) (64 : Int)).toNat (IntKind.bits .u64))))) &&& (BitVec.ofInt (IntKind.bits .u64) (1 : Int))).toNat : Int)))
      else
        need (0 ≤ (sub64 (sub64 x1 (1 : Int)) a1)) <|
        some (IntKind.wrap .i64 (IntKind.wrap .u64 (((BitVec.ofInt (IntKind.bits .u64) (Int.fdiv a0.fLo (2 ^ (min (sub64 (sub64 x1 (1 : Int)) a1).toNat (IntKind.bits .u64))))) &&& (BitVec.ofInt (IntKind.bits .u64) (1 : Int))).toNat : Int)))

theorem g_addr_Bit_ok (a0 : T_api_Addr) (a1 : Int) (r : Int) (hf : g_addr_Bit a0 a1 = some r) : SCall Try.prog 79 [.agg (T_api_Addr.c a0), .one (.lit (.int .i64 a1))] (.one (.lit (.int .i64 r))) := by
  refine SCall.of Try.func79 rfl rfl rfl rfl fun S0 w0 => ?_
  unfold g_addr_Bit at hf
  obtain ⟨x1, q1, hf⟩ := bind_some' hf
  rcases br_some hf with ⟨h2, hf⟩ | ⟨h2, hf⟩
  · replace hf := Option.some.inj hf
    subst hf
    exact toEnd_good allOk 10 _ _ [⟨[], [], [], [], [], [], []⟩, ⟨[(1, .r (.one (.lit (.int .i64 x1))) [])], [], [], [], [], [], []⟩, ⟨[], [(2, true)], [], [], [], [], []⟩, ⟨[], [], [], [], [], [], []⟩] [true] [] [] [] [SCall Try.prog 130 [.agg (T_api_Addr.c a0)] (.one (.lit (.int .i64 x1))), (decide (a1 < (0 : Int))) = true, true = true] (by kernel_rfl) rfl ⟨(g_addr_Bits_ok a0 x1 q1), h2, rfl, trivial⟩
  · rcases br_some hf with ⟨h3, hf⟩ | ⟨h3, hf⟩
    · replace hf := Option.some.inj hf
      subst hf
      exact toEnd_good allOk 10 _ _ [⟨[], [], [], [], [], [], []⟩, ⟨[(1, .r (.one (.lit (.int .i64 x1))) [])], [], [], [], [], [], []⟩, ⟨[], [(2, false)], [], [], [], [], []⟩, ⟨[], [], [], [], [], [], []⟩] [true] [] [] [] [SCall Try.prog 130 [.agg (T_api_Addr.c a0)] (.one (.lit (.int .i64 x1))), (decide (a1 < (0 : Int))) = false, (decide (a1 ≥ x1)) = true] (by kernel_rfl) rfl ⟨(g_addr_Bits_ok a0 x1 q1), h2, h3, trivial⟩
    · rcases br_some hf with ⟨h4, hf⟩ | ⟨h4, hf⟩
      · obtain ⟨o5, hf⟩ := need_some hf
        replace hf := Option.some.inj hf
        subst hf
        exact toEnd_good allOk 17 _ _ [⟨[], [], [], [], [], [], []⟩, ⟨[(1, .r (.one (.lit (.int .i64 x1))) [])], [], [], [], [], [], []⟩, ⟨[], [(2, false)], [], [], [], [], []⟩, ⟨[], [], [], [], [], [], []⟩, ⟨[], [], [], [], [], [], []⟩, ⟨[], [], [], [], [], [], []⟩] [false, true] [] [] [] [SCall Try.prog 130 [.agg (T_api_Addr.c a0)] (.one (.lit (.int .i64 x1))), (decide (a1 < (0 : Int))) = false, (decide (a1 ≥ x1)) = false, (decide ((sub64 (sub64 x1 (1 : Int)) a1) ≥ (64 : Int))) = true, 0 ≤ (sub64 (sub64 (sub64 x1 (1 : Int)) a1) (64 : Int))] (by kernel_rfl) rfl ⟨(g_addr_Bits_ok a0 x1 q1), h2, h3, h4, o5, trivial⟩
      · obtain ⟨o6, hf⟩ := need_some hf
        replace hf := Option.some.inj hf
        subst hf
        exact toEnd_good allOk 18 _ _ [⟨[], [], [], [], [], [], []⟩, ⟨[(1, .r (.one (.lit (.int .i64 x1))) [])], [], [], [], [], [], []⟩, ⟨[], [(2, false)], [], [], [], [], []⟩, ⟨[], [], [], [], [], [], []⟩, ⟨[], [], [], [], [], [], []⟩, ⟨[], [], [], [], [], [], []⟩] [false, false] [] [] [] [SCall Try.prog 130 [.agg (T_api_Addr.c a0)] (.one (.lit (.int .i64 x1))), (decide (a1 < (0 : Int))) = false, (decide (a1 ≥ x1)) = false, (decide ((sub64 (sub64 x1 (1 : Int)) a1) ≥ (64 : Int))) = false, 0 ≤ (sub64 (sub64 x1 (1 : Int)) a1)] (by kernel_rfl) rfl ⟨(g_addr_Bits_ok a0 x1 q1), h2, h3, h4, o6, trivial⟩

/-- doorman/trie.bit -/
def g_trie_bit (a0 : T_api_Net) (a1 : Int) : Option Int :=
  (g_addr_Bit a0.fAddr a1).bind fun x1 =>
  some x1

theorem g_trie_bit_ok (a0 : T_api_Net) (a1 : Int) (r : Int) (hf : g_trie_bit a0 a1 = some r) : SCall Try.prog 74 [.agg (T_api_Net.c a0), .one (.lit (.int .i64 a1))] (.one (.lit (.int .i64 r))) := by
  refine SCall.of Try.func74 rfl rfl rfl rfl fun S0 w0 => ?_
  unfold g_trie_bit at hf
  obtain ⟨x1, q1, hf⟩ := bind_some' hf
  replace hf := Option.some.inj hf
  subst hf
  exact toEnd_good allOk 4 _ _ [⟨[], [], [], [], [], [], []⟩, ⟨[(3, .r (.one (.lit (.int .i64 x1))) [])], [], [], [], [], [], []⟩] [] [] [] [] [SCall Try.prog 79 [.agg (T_api_Addr.c a0.fAddr), .one (.lit (.int .i64 a1))] (.one (.lit (.int .i64 x1)))] (by kernel_rfl) rfl ⟨(g_addr_Bit_ok a0.fAddr a1 x1 q1), trivial⟩

def g_trie_Trie_Get_c0   : Nat → N_trie_node → T_api_Net → Option (Int × Bool)
  | 0, _, _ => none
  | fu + 1, v6, b3 =>
    (match v6 with
    | .nil =>
      some ((0 : Int), false)
    | .mk p4_0 p4_1 p4_2 p4_3 =>
      bif (decide (p4_0.fNet.fBits < b3.fBits)) then
        (g_trie_bit b3 p4_0.fNet.fBits).bind fun x5 =>
        need (0 ≤ x5 ∧ x5 < ((2 : Nat) : Int)) <|
        ix2 x5 (
          g_trie_Trie_Get_c0   fu p4_2 b3) (
          g_trie_Trie_Get_c0   fu p4_3 b3)
      else
        bif (!p4_1) then
          some ((0 : Int), false)
        else
          bif (!(decide (p4_0.fNet = b3))) then
            some ((0 : Int), false)
          else
            some (p4_0.fV, true))

theorem g_trie_Trie_Get_c0_ok (S0 : Nat → Prop) (w0 : Start)   : ∀ (fu : Nat) (v6 : N_trie_node) (b3 : T_api_Net) (r : (Int × Bool)), g_trie_Trie_Get_c0   fu v6 b3 = some r → Good Try.prog 71 S0 w0 (bodyPost Try.prog Try.f20 (Post S0 w0 (.tup [(false, (cI .i64) r.1), (false, cB r.2)]))) (at_ [1, 1, 1, 0, 0] (bodyOf Try.f20)) ⟨[(3, .one (.ptr 3 0)), (6, .one (N_trie_node.c v6))], [(3, .box [.lit (.bool b3.fAddr.fV6), .lit (.int .u64 b3.fAddr.fHi), .lit (.int .u64 b3.fAddr.fLo), .lit (.int .i64 b3.fBits)])]⟩ := by
  intro fu
  induction fu with
  | zero =>
    intro v6 b3 r hf
    simp [g_trie_Trie_Get_c0] at hf
  | succ fu ih =>
    intro v6 b3 r hf
    unfold g_trie_Trie_Get_c0 at hf
    cases v6 with
    | nil =>
      dsimp only at hf
      replace hf := Option.some.inj hf
      subst hf
      exact toEnd_good allOk 12 _ _ [⟨[], [], [], [[], [0], [1, 0], [2, 1, 0], [3, 2, 1, 0], [4, 3, 2, 1, 0], [5, 4, 3, 2, 1, 0], [6, 5, 4, 3, 2, 1, 0], [7, 6, 5, 4, 3, 2, 1, 0], [2, 1, 0], [9, 2, 1, 0], [8, 7, 6, 5, 4, 3, 2, 1, 0, 10, 9], [2, 1, 0, 11, 8, 7, 6, 5, 4, 3, 10, 9]], [], [], []⟩, ⟨[], [], [], [[], [0], [1, 0], [2, 1, 0], [3, 2, 1, 0], [4, 3, 2, 1, 0], [5, 4, 3, 2, 1, 0], [6, 5, 4, 3, 2, 1, 0], [2, 1, 0, 7, 6, 5, 4, 3], [8, 2, 1, 0, 7, 6, 5, 4, 3], [9, 8, 2, 1, 0, 7, 6, 5, 4, 3], [10, 9, 8, 2, 1, 0, 7, 6, 5, 4, 3], [11, 10, 9, 8, 2, 1, 0, 7, 6, 5, 4, 3], [12, 11, 10, 9, 8, 2, 1, 0, 7, 6, 5, 4, 3], [13, 12, 11, 10, 9, 8, 2, 1, 0, 7, 6, 5, 4, 3], [9, 8, 2, 1, 0, 7, 6, 5, 4, 3], [14, 13, 12, 11, 10, 9, 8, 2, 1, 0, 7, 6, 5, 4, 3, 15], [9, 8, 2, 1, 0, 7, 6, 5, 4, 3, 16, 14, 13, 12, 11, 10, 15]], [], [], []⟩, ⟨[], [], [], [], [], [], []⟩] [false, true] [] [] [] [false = false, true = true] (by kernel_rfl) rfl ⟨rfl, rfl, trivial⟩
    | mk p4_0 p4_1 p4_2 p4_3 =>
      dsimp only at hf
      rcases br_some hf with ⟨h5, hf⟩ | ⟨h5, hf⟩
      · obtain ⟨x5, q6, hf⟩ := bind_some' hf
        obtain ⟨o7, hf⟩ := need_some hf
        rcases ix2_some o7 hf with ⟨e, hf⟩ | ⟨e, hf⟩
        · subst e
          exact toK_good allOk Post.ends 10 _ _ _ _ [⟨[], [], [], [[], [0], [1, 0], [2, 1, 0], [3, 2, 1, 0], [4, 3, 2, 1, 0], [5, 4, 3, 2, 1, 0], [6, 5, 4, 3, 2, 1, 0], [7, 6, 5, 4, 3, 2, 1, 0], [2, 1, 0], [9, 2, 1, 0], [8, 7, 6, 5, 4, 3, 2, 1, 0, 10, 9], [2, 1, 0, 11, 8, 7, 6, 5, 4, 3, 10, 9]], [], [], []⟩, ⟨[(8, .r (.one (.lit (.int .i64 (0 : Int)))) [])], [], [], [[], [], [], [2], [3, 2], [4, 3, 2], [5, 4, 3, 2], [6, 5, 4, 3, 2], [1, 7, 6, 5, 4, 3, 2], [0], [9, 0], [10, 9, 0, 8, 1, 7, 6, 5, 4, 3, 2], [11, 10, 9, 0, 8, 1, 7, 6, 5, 4, 3, 2], [12, 11, 10, 9, 0, 8, 1, 7, 6, 5, 4, 3, 2]], [], [], []⟩] [true] ⟨[], [], [], [], [], [3, 6], [3], []⟩ [(decide (p4_0.fNet.fBits < b3.fBits)) = true, SCall Try.prog 74 [.agg (T_api_Net.c b3), .one (.lit (.int .i64 p4_0.fNet.fBits))] (.one (.lit (.int .i64 (0 : Int)))), 0 ≤ (0 : Int) ∧ (0 : Int) < ((2 : Nat) : Int)] (by kernel_rfl) ⟨h5, (g_trie_bit_ok b3 p4_0.fNet.fBits (0 : Int) q6), (by decide), trivial⟩ (ih p4_2 b3 r hf)
        · subst e
          exact toK_good allOk Post.ends 10 _ _ _ _ [⟨[], [], [], [[], [0], [1, 0], [2, 1, 0], [3, 2, 1, 0], [4, 3, 2, 1, 0], [5, 4, 3, 2, 1, 0], [6, 5, 4, 3, 2, 1, 0], [7, 6, 5, 4, 3, 2, 1, 0], [2, 1, 0], [9, 2, 1, 0], [8, 7, 6, 5, 4, 3, 2, 1, 0, 10, 9], [2, 1, 0, 11, 8, 7, 6, 5, 4, 3, 10, 9]], [], [], []⟩, ⟨[(8, .r (.one (.lit (.int .i64 (1 : Int)))) [])], [], [], [[], [], [], [2], [3, 2], [4, 3, 2], [5, 4, 3, 2], [6, 5, 4, 3, 2], [1, 7, 6, 5, 4, 3, 2], [0], [9, 0], [10, 9, 0, 8, 1, 7, 6, 5, 4, 3, 2], [11, 10, 9, 0, 8, 1, 7, 6, 5, 4, 3, 2], [12, 11, 10, 9, 0, 8, 1, 7, 6, 5, 4, 3, 2]], [], [], []⟩] [true] ⟨[], [], [], [], [], [3, 6], [3], []⟩ [(decide (p4_0.fNet.fBits < b3.fBits)) = true, SCall Try.prog 74 [.agg (T_api_Net.c b3), .one (.lit (.int .i64 p4_0.fNet.fBits))] (.one (.lit (.int .i64 (1 : Int)))), 0 ≤ (1 : Int) ∧ (1 : Int) < ((2 : Nat) : Int)] (by kernel_rfl) ⟨h5, (g_trie_bit_ok b3 p4_0.fNet.fBits (1 : Int) q6), (by decide), trivial⟩ (ih p4_3 b3 r hf)
      · rcases br_some hf with ⟨h8, hf⟩ | ⟨h8, hf⟩
        · replace hf := Option.some.inj hf
          subst hf
          exact toEnd_good allOk 12 _ _ [⟨[], [], [], [[], [0], [1, 0], [2, 1, 0], [3, 2, 1, 0], [4, 3, 2, 1, 0], [5, 4, 3, 2, 1, 0], [6, 5, 4, 3, 2, 1, 0], [7, 6, 5, 4, 3, 2, 1, 0], [2, 1, 0], [9, 2, 1, 0], [8, 7, 6, 5, 4, 3, 2, 1, 0, 10, 9], [2, 1, 0, 11, 8, 7, 6, 5, 4, 3, 10, 9]], [], [], []⟩, ⟨[], [(9, true)], [], [[], [0], [1, 0], [2, 1, 0], [3, 2, 1, 0], [4, 3, 2, 1, 0], [5, 4, 3, 2, 1, 0], [6, 5, 4, 3, 2, 1, 0], [2, 1, 0, 7, 6, 5, 4, 3], [8, 2, 1, 0, 7, 6, 5, 4, 3], [9, 8, 2, 1, 0, 7, 6, 5, 4, 3], [10, 9, 8, 2, 1, 0, 7, 6, 5, 4, 3], [11, 10, 9, 8, 2, 1, 0, 7, 6, 5, 4, 3], [12, 11, 10, 9, 8, 2, 1, 0, 7, 6, 5, 4, 3], [13, 12, 11, 10, 9, 8, 2, 1, 0, 7, 6, 5, 4, 3], [9, 8, 2, 1, 0, 7, 6, 5, 4, 3], [14, 13, 12, 11, 10, 9, 8, 2, 1, 0, 7, 6, 5, 4, 3, 15], [9, 8, 2, 1, 0, 7, 6, 5, 4, 3, 16, 14, 13, 12, 11, 10, 15]], [], [], []⟩, ⟨[], [], [], [], [], [], []⟩] [false, true] [] [] [] [(decide (p4_0.fNet.fBits < b3.fBits)) = false, (!p4_1) = true, true = true] (by kernel_rfl) rfl ⟨h5, h8, rfl, trivial⟩
        · rcases br_some hf with ⟨h9, hf⟩ | ⟨h9, hf⟩
          · replace hf := Option.some.inj hf
            subst hf
            exact toEnd_good allOk 12 _ _ [⟨[], [], [], [[], [0], [1, 0], [2, 1, 0], [3, 2, 1, 0], [4, 3, 2, 1, 0], [5, 4, 3, 2, 1, 0], [6, 5, 4, 3, 2, 1, 0], [7, 6, 5, 4, 3, 2, 1, 0], [2, 1, 0], [9, 2, 1, 0], [8, 7, 6, 5, 4, 3, 2, 1, 0, 10, 9], [2, 1, 0, 11, 8, 7, 6, 5, 4, 3, 10, 9]], [], [], []⟩, ⟨[(16, .r (.one (.lit (.bool (!(decide (p4_0.fNet = b3)))))) [])], [(9, false)], [], [[], [0], [1, 0], [2, 1, 0], [3, 2, 1, 0], [4, 3, 2, 1, 0], [5, 4, 3, 2, 1, 0], [6, 5, 4, 3, 2, 1, 0], [2, 1, 0, 7, 6, 5, 4, 3], [8, 2, 1, 0, 7, 6, 5, 4, 3], [9, 8, 2, 1, 0, 7, 6, 5, 4, 3], [10, 9, 8, 2, 1, 0, 7, 6, 5, 4, 3], [11, 10, 9, 8, 2, 1, 0, 7, 6, 5, 4, 3], [12, 11, 10, 9, 8, 2, 1, 0, 7, 6, 5, 4, 3], [13, 12, 11, 10, 9, 8, 2, 1, 0, 7, 6, 5, 4, 3], [9, 8, 2, 1, 0, 7, 6, 5, 4, 3], [14, 13, 12, 11, 10, 9, 8, 2, 1, 0, 7, 6, 5, 4, 3, 15], [9, 8, 2, 1, 0, 7, 6, 5, 4, 3, 16, 14, 13, 12, 11, 10, 15]], [], [], []⟩, ⟨[], [], [], [], [], [], []⟩] [false, true] [] [] [] [(decide (p4_0.fNet.fBits < b3.fBits)) = false, (!p4_1) = false, ∀ w, (do eqGuard .neq 27 (.tmp 62) (.tmp 63) (.agg #[.bool p4_0.fNet.fAddr.fV6, .int .u64 p4_0.fNet.fAddr.fHi, .int .u64 p4_0.fNet.fAddr.fLo, .int .i64 p4_0.fNet.fBits]) (.agg #[.bool b3.fAddr.fV6, .int .u64 b3.fAddr.fHi, .int .u64 b3.fAddr.fLo, .int .i64 b3.fBits]); binOp .neq 27 (.agg #[.bool p4_0.fNet.fAddr.fV6, .int .u64 p4_0.fNet.fAddr.fHi, .int .u64 p4_0.fNet.fAddr.fLo, .int .i64 p4_0.fNet.fBits]) (.agg #[.bool b3.fAddr.fV6, .int .u64 b3.fAddr.fHi, .int .u64 b3.fAddr.fLo, .int .i64 b3.fBits]) : Sem Value).run Try.prog w = .ok (.bool (!(decide (p4_0.fNet = b3)))) w, (!(decide (p4_0.fNet = b3))) = true] (by kernel_rfl) rfl ⟨h5, h8, (neq_T_api_Net p4_0.fNet b3 _ _), h9, trivial⟩
          · replace hf := Option.some.inj hf
            subst hf
            exact toEnd_good allOk 13 _ _ [⟨[], [], [], [[], [0], [1, 0], [2, 1, 0], [3, 2, 1, 0], [4, 3, 2, 1, 0], [5, 4, 3, 2, 1, 0], [6, 5, 4, 3, 2, 1, 0], [7, 6, 5, 4, 3, 2, 1, 0], [2, 1, 0], [9, 2, 1, 0], [8, 7, 6, 5, 4, 3, 2, 1, 0, 10, 9], [2, 1, 0, 11, 8, 7, 6, 5, 4, 3, 10, 9]], [], [], []⟩, ⟨[(16, .r (.one (.lit (.bool (!(decide (p4_0.fNet = b3)))))) [])], [(9, false)], [], [[], [0], [1, 0], [2, 1, 0], [3, 2, 1, 0], [4, 3, 2, 1, 0], [5, 4, 3, 2, 1, 0], [6, 5, 4, 3, 2, 1, 0], [2, 1, 0, 7, 6, 5, 4, 3], [8, 2, 1, 0, 7, 6, 5, 4, 3], [9, 8, 2, 1, 0, 7, 6, 5, 4, 3], [10, 9, 8, 2, 1, 0, 7, 6, 5, 4, 3], [11, 10, 9, 8, 2, 1, 0, 7, 6, 5, 4, 3], [12, 11, 10, 9, 8, 2, 1, 0, 7, 6, 5, 4, 3], [13, 12, 11, 10, 9, 8, 2, 1, 0, 7, 6, 5, 4, 3], [9, 8, 2, 1, 0, 7, 6, 5, 4, 3], [14, 13, 12, 11, 10, 9, 8, 2, 1, 0, 7, 6, 5, 4, 3, 15], [9, 8, 2, 1, 0, 7, 6, 5, 4, 3, 16, 14, 13, 12, 11, 10, 15]], [], [], []⟩, ⟨[], [], [], [], [], [], []⟩] [false, false] [] [] [] [(decide (p4_0.fNet.fBits < b3.fBits)) = false, (!p4_1) = false, ∀ w, (do eqGuard .neq 27 (.tmp 62) (.tmp 63) (.agg #[.bool p4_0.fNet.fAddr.fV6, .int .u64 p4_0.fNet.fAddr.fHi, .int .u64 p4_0.fNet.fAddr.fLo, .int .i64 p4_0.fNet.fBits]) (.agg #[.bool b3.fAddr.fV6, .int .u64 b3.fAddr.fHi, .int .u64 b3.fAddr.fLo, .int .i64 b3.fBits]); binOp .neq 27 (.agg #[.bool p4_0.fNet.fAddr.fV6, .int .u64 p4_0.fNet.fAddr.fHi, .int .u64 p4_0.fNet.fAddr.fLo, .int .i64 p4_0.fNet.fBits]) (.agg #[.bool b3.fAddr.fV6, .int .u64 b3.fAddr.fHi, .int .u64 b3.fAddr.fLo, .int .i64 b3.fBits]) : Sem Value).run Try.prog w = .ok (.bool (!(decide (p4_0.fNet = b3)))) w, (!(decide (p4_0.fNet = b3))) = false] (by kernel_rfl) rfl ⟨h5, h8, (neq_T_api_Net p4_0.fNet b3 _ _), h9, trivial⟩

/-- (*doorman/trie.Trie).Get -/
def g_trie_Trie_Get (a0 : N_trie_Trie) (a1 : T_api_Net) : Option (Int × Bool) :=
  (match a0 with
  | .nil =>
    some ((0 : Int), false)
  | .mk p1_0 p1_1 p1_2 =>
    (g_cidr_Right a1).bind fun x2 =>
    bif (!x2) then
      some ((0 : Int), false)
    else
      (g_trie_family a1.fAddr).bind fun x3 =>
      need (0 ≤ x3 ∧ x3 < ((2 : Nat) : Int)) <|
      ix2 x3 (
        g_trie_Trie_Get_c0   1000000 p1_0 a1) (
        g_trie_Trie_Get_c0   1000000 p1_1 a1))

theorem g_trie_Trie_Get_ok (a0 : N_trie_Trie) (a1 : T_api_Net) (r : (Int × Bool)) (hf : g_trie_Trie_Get a0 a1 = some r) : SCall Try.prog 20 [.one (N_trie_Trie.c a0), .agg (T_api_Net.c a1)] (.tup [(false, (cI .i64) r.1), (false, cB r.2)]) := by
  refine SCall.of Try.func20 rfl rfl rfl rfl fun S0 w0 => ?_
  unfold g_trie_Trie_Get at hf
  cases a0 with
  | nil =>
    dsimp only at hf
    replace hf := Option.some.inj hf
    subst hf
    exact toEnd_good allOk 8 _ _ [⟨[], [], [], [], [], [], []⟩, ⟨[], [], [], [], [], [], []⟩, ⟨[], [], [], [], [], [], []⟩] [true] [] [] [] [true = true] (by kernel_rfl) rfl ⟨rfl, trivial⟩
  | mk p1_0 p1_1 p1_2 =>
    dsimp only at hf
    obtain ⟨x2, q1, hf⟩ := bind_some' hf
    rcases br_some hf with ⟨h2, hf⟩ | ⟨h2, hf⟩
    · replace hf := Option.some.inj hf
      subst hf
      exact toEnd_good allOk 8 _ _ [⟨[], [], [], [], [], [], []⟩, ⟨[(4, .r (.one (.lit (.bool x2))) [])], [], [], [], [], [], []⟩, ⟨[], [], [], [], [], [], []⟩] [true] [] [] [] [SCall Try.prog 72 [.agg (T_api_Net.c a1)] (.one (.lit (.bool x2))), (!x2) = true] (by kernel_rfl) rfl ⟨(g_cidr_Right_ok a1 x2 q1), h2, trivial⟩
    · obtain ⟨x3, q3, hf⟩ := bind_some' hf
      obtain ⟨o4, hf⟩ := need_some hf
      rcases ix2_some o4 hf with ⟨e, hf⟩ | ⟨e, hf⟩
      · subst e
        exact toK_good allOk Post.ends 11 _ _ _ _ [⟨[], [], [], [], [], [], []⟩, ⟨[(4, .r (.one (.lit (.bool x2))) [])], [], [], [], [], [], []⟩, ⟨[(3, .r (.one (.lit (.int .i64 (0 : Int)))) [])], [], [], [[], [], [1], [2, 1], [0], [4, 0], [5, 4, 0, 3, 2, 1], [6, 5, 4, 0, 3, 2, 1], [7, 6, 5, 4, 0, 3, 2, 1]], [], [], []⟩] [false] ⟨[], [], [], [], [], [3, 6], [3], []⟩ [SCall Try.prog 72 [.agg (T_api_Net.c a1)] (.one (.lit (.bool x2))), (!x2) = false, SCall Try.prog 73 [.agg (T_api_Addr.c a1.fAddr)] (.one (.lit (.int .i64 (0 : Int)))), 0 ≤ (0 : Int) ∧ (0 : Int) < ((2 : Nat) : Int)] (by kernel_rfl) ⟨(g_cidr_Right_ok a1 x2 q1), h2, (g_trie_family_ok a1.fAddr (0 : Int) q3), (by decide), trivial⟩ (g_trie_Trie_Get_c0_ok S0 w0    1000000 p1_0 a1 r hf)
      · subst e
        exact toK_good allOk Post.ends 11 _ _ _ _ [⟨[], [], [], [], [], [], []⟩, ⟨[(4, .r (.one (.lit (.bool x2))) [])], [], [], [], [], [], []⟩, ⟨[(3, .r (.one (.lit (.int .i64 (1 : Int)))) [])], [], [], [[], [], [1], [2, 1], [0], [4, 0], [5, 4, 0, 3, 2, 1], [6, 5, 4, 0, 3, 2, 1], [7, 6, 5, 4, 0, 3, 2, 1]], [], [], []⟩] [false] ⟨[], [], [], [], [], [3, 6], [3], []⟩ [SCall Try.prog 72 [.agg (T_api_Net.c a1)] (.one (.lit (.bool x2))), (!x2) = false, SCall Try.prog 73 [.agg (T_api_Addr.c a1.fAddr)] (.one (.lit (.int .i64 (1 : Int)))), 0 ≤ (1 : Int) ∧ (1 : Int) < ((2 : Nat) : Int)] (by kernel_rfl) ⟨(g_cidr_Right_ok a1 x2 q1), h2, (g_trie_family_ok a1.fAddr (1 : Int) q3), (by decide), trivial⟩ (g_trie_Trie_Get_c0_ok S0 w0    1000000 p1_1 a1 r hf)

/-- doorman/ban.Lives -/
def g_ban_Lives (a0 : T_api_Ban) (a1 : Int) : Option Bool :=
  some (decide (a1 < a0.fUntil))

theorem g_ban_Lives_ok (a0 : T_api_Ban) (a1 : Int) (r : Bool) (hf : g_ban_Lives a0 a1 = some r) : SCall Try.prog 96 [.agg (T_api_Ban.c a0), .one (.lit (.int .i64 a1))] (.one (.lit (.bool r))) := by
  refine SCall.of Try.func96 rfl rfl rfl rfl fun S0 w0 => ?_
  unfold g_ban_Lives at hf
  replace hf := Option.some.inj hf
  subst hf
  exact toEnd_good allOk 4 _ _ [⟨[], [], [], [], [], [], []⟩, ⟨[], [], [], [], [], [], []⟩] [] [] [] [] [] (by kernel_rfl) rfl trivial

def g_math_bits_Len64_c1   (v0 : Int) (v2 : Int) : Option Int :=
  bif (decide (v0 ≥ (256 : Int))) then
    need (0 ≤ (IntKind.wrap .u8 (Int.fdiv v0 (2 ^ (min (8 : Int).toNat (IntKind.bits .u64))))) ∧ (IntKind.wrap .u8 (Int.fdiv v0 (2 ^ (min (8 : Int).toNat (IntKind.bits .u64))))) < (((⟨#[0, 1, 2, 2, 3, 3, 3, 3, 4, 4, 4, 4, 4, 4, 4, 4, 5, 5, 5, 5, 5, 5, 5, 5, 5, 5, 5, 5, 5, 5, 5, 5, 6, 6, 6, 6, 6, 6, 6, 6, 6, 6, 6, 6, 6, 6, 6, 6, 6, 6, 6, 6, 6, 6, 6, 6, 6, 6, 6, 6, 6, 6, 6, 6, 7, 7, 7, 7, 7, 7, 7, 7, 7, 7, 7, 7, 7, 7, 7, 7, 7, 7, 7, 7, 7, 7, 7, 7, 7, 7, 7, 7, 7, 7, 7, 7, 7, 7, 7, 7, 7, 7, 7, 7, 7, 7, 7, 7, 7, 7, 7, 7, 7, 7, 7, 7, 7, 7, 7, 7, 7, 7, 7, 7, 7, 7, 7, 7, 8, 8, 8, 8, 8, 8, 8, 8, 8, 8, 8, 8, 8, 8, 8, 8, 8, 8, 8, 8, 8, 8, 8, 8, 8, 8, 8, 8, 8, 8, 8, 8, 8, 8, 8, 8, 8, 8, 8, 8, 8, 8, 8, 8, 8, 8, 8, 8, 8, 8, 8, 8, 8, 8, 8, 8, 8, 8, 8, 8, 8, 8, 8, 8, 8, 8, 8, 8, 8, 8, 8, 8, 8, 8, 8, 8, 8, 8, 8, 8, 8, 8, 8, 8, 8, 8, 8, 8, 8, 8, 8, 8, 8, 8, 8, 8, 8, 8, 8, 8, 8, 8, 8, 8, 8, 8, 8, 8, 8, 8, 8, 8, 8, 8, 8, 8, 8, 8, 8, 8, 8, 8, 8, 8, 8, 8, 8, 8]⟩ : ByteArray).size : Nat) : Int)) <|
    some (add64 (add64 v2 (8 : Int)) (IntKind.wrap .i64 ((byteAt (⟨#[0, 1, 2, 2, 3, 3, 3, 3, 4, 4, 4, 4, 4, 4, 4, 4, 5, 5, 5, 5, 5, 5, 5, 5, 5, 5, 5, 5, 5, 5, 5, 5, 6, 6, 6, 6, 6, 6, 6, 6, 6, 6, 6, 6, 6, 6, 6, 6, 6, 6, 6, 6, 6, 6, 6, 6, 6, 6, 6, 6, 6, 6, 6, 6, 7, 7, 7, 7, 7, 7, 7, 7, 7, 7, 7, 7, 7, 7, 7, 7, 7, 7, 7, 7, 7, 7, 7, 7, 7, 7, 7, 7, 7, 7, 7, 7, 7, 7, 7, 7, 7, 7, 7, 7, 7, 7, 7, 7, 7, 7, 7, 7, 7, 7, 7, 7, 7, 7, 7, 7, 7, 7, 7, 7, 7, 7, 7, 7, 8, 8, 8, 8, 8, 8, 8, 8, 8, 8, 8, 8, 8, 8, 8, 8, 8, 8, 8, 8, 8, 8, 8, 8, 8, 8, 8, 8, 8, 8, 8, 8, 8, 8, 8, 8, 8, 8, 8, 8, 8, 8, 8, 8, 8, 8, 8, 8, 8, 8, 8, 8, 8, 8, 8, 8, 8, 8, 8, 8, 8, 8, 8, 8, 8, 8, 8, 8, 8, 8, 8, 8, 8, 8, 8, 8, 8, 8, 8, 8, 8, 8, 8, 8, 8, 8, 8, 8, 8, 8, 8, 8, 8, 8, 8, 8, 8, 8, 8, 8, 8, 8, 8, 8, 8, 8, 8, 8, 8, 8, 8, 8, 8, 8, 8, 8, 8, 8, 8, 8, 8, 8, 8, 8, 8, 8, 8, 8]⟩ : ByteArray) (IntKind.wrap .u8 (Int.fdiv v0 (2 ^ (min (8 : Int).toNat (IntKind.bits .u64))))).toNat : Nat) : Int)))
  else
    need (0 ≤ (IntKind.wrap .u8 v0) ∧ (IntKind.wrap .u8 v0) < (((⟨#[0, 1, 2, 2, 3, 3, 3, 3, 4, 4, 4, 4, 4, 4, 4, 4, 5, 5, 5, 5, 5, 5, 5, 5, 5, 5, 5, 5, 5, 5, 5, 5, 6, 6, 6, 6, 6, 6, 6, 6, 6, 6, 6, 6, 6, 6, 6, 6, 6, 6, 6, 6, 6, 6, 6, 6, 6, 6, 6, 6, 6, 6, 6, 6, 7, 7, 7, 7, 7, 7, 7, 7, 7, 7, 7, 7, 7, 7, 7, 7, 7, 7, 7, 7, 7, 7, 7, 7, 7, 7, 7, 7, 7, 7, 7, 7, 7, 7, 7, 7, 7, 7, 7, 7, 7, 7, 7, 7, 7, 7, 7, 7, 7, 7, 7, 7, 7, 7, 7, 7, 7, 7, 7, 7, 7, 7, 7, 7, 8, 8, 8, 8, 8, 8, 8, 8, 8, 8, 8, 8, 8, 8, 8, 8, 8, 8, 8, 8, 8, 8, 8, 8, 8, 8, 8, 8, 8, 8, 8, 8, 8, 8, 8, 8, 8, 8, 8, 8, 8, 8, 8, 8, 8, 8, 8, 8, 8, 8, 8, 8, 8, 8, 8, 8, 8, 8, 8, 8, 8, 8, 8, 8, 8, 8, 8, 8, 8, 8, 8, 8, 8, 8, 8, 8, 8, 8, 8, 8, 8, 8, 8, 8, 8, 8, 8, 8, 8, 8, 8, 8, 8, 8, 8, 8, 8, 8, 8, 8, 8, 8, 8, 8, 8, 8, 8, 8, 8, 8, 8, 8, 8, 8, 8, 8, 8, 8, 8, 8, 8, 8, 8, 8, 8, 8, 8, 8]⟩ : ByteArray).size : Nat) : Int)) <|
    some (add64 v2 (IntKind.wrap .i64 ((byteAt (⟨#[0, 1, 2, 2, 3, 3, 3, 3, 4, 4, 4, 4, 4, 4, 4, 4, 5, 5, 5, 5, 5, 5, 5, 5, 5, 5, 5, 5, 5, 5, 5, 5, 6, 6, 6, 6, 6, 6, 6, 6, 6, 6, 6, 6, 6, 6, 6, 6, 6, 6, 6, 6, 6, 6, 6, 6, 6, 6, 6, 6, 6, 6, 6, 6, 7, 7, 7, 7, 7, 7, 7, 7, 7, 7, 7, 7, 7, 7, 7, 7, 7, 7, 7, 7, 7, 7, 7, 7, 7, 7, 7, 7, 7, 7, 7, 7, 7, 7, 7, 7, 7, 7, 7, 7, 7, 7, 7, 7, 7, 7, 7, 7, 7, 7, 7, 7, 7, 7, 7, 7, 7, 7, 7, 7, 7, 7, 7, 7, 8, 8, 8, 8, 8, 8, 8, 8, 8, 8, 8, 8, 8, 8, 8, 8, 8, 8, 8, 8, 8, 8, 8, 8, 8, 8, 8, 8, 8, 8, 8, 8, 8, 8, 8, 8, 8, 8, 8, 8, 8, 8, 8, 8, 8, 8, 8, 8, 8, 8, 8, 8, 8, 8, 8, 8, 8, 8, 8, 8, 8, 8, 8, 8, 8, 8, 8, 8, 8, 8, 8, 8, 8, 8, 8, 8, 8, 8, 8, 8, 8, 8, 8, 8, 8, 8, 8, 8, 8, 8, 8, 8, 8, 8, 8, 8, 8, 8, 8, 8, 8, 8, 8, 8, 8, 8, 8, 8, 8, 8, 8, 8, 8, 8, 8, 8, 8, 8, 8, 8, 8, 8, 8, 8, 8, 8, 8, 8]⟩ : ByteArray) (IntKind.wrap .u8 v0).toNat : Nat) : Int)))

theorem g_math_bits_Len64_c1_ok (S0 : Nat → Prop) (w0 : Start)   (v0 : Int) (v2 : Int) (r : Int) (hf : g_math_bits_Len64_c1   v0 v2 = some r) : Good Try.prog 25 S0 w0 (bodyPost Try.prog Try.f172 (Post S0 w0 (.one (.lit (.int .i64 r))))) (at_ [1, 1, 1] (bodyOf Try.f172)) ⟨[(0, .one (.lit (.int .u64 v0))), (2, .one (.lit (.int .i64 v2)))], []⟩ := by
  unfold g_math_bits_Len64_c1 at hf
  rcases br_some hf with ⟨h3, hf⟩ | ⟨h3, hf⟩
  · obtain ⟨o4, hf⟩ := need_some hf
    replace hf := Option.some.inj hf
    subst hf
    exact toEnd_good allOk 9 _ _ [⟨[], [], [], [], [], [], []⟩, ⟨[], [], [], [], [], [], []⟩, ⟨[], [], [], [], [], [], []⟩, ⟨[], [], [], [], [], [], []⟩] [true] [] [] [] [(decide (v0 ≥ (256 : Int))) = true, 0 ≤ (8 : Int), 0 ≤ (IntKind.wrap .u8 (Int.fdiv v0 (2 ^ (min (8 : Int).toNat (IntKind.bits .u64))))) ∧ (IntKind.wrap .u8 (Int.fdiv v0 (2 ^ (min (8 : Int).toNat (IntKind.bits .u64))))) < (((⟨#[0, 1, 2, 2, 3, 3, 3, 3, 4, 4, 4, 4, 4, 4, 4, 4, 5, 5, 5, 5, 5, 5, 5, 5, 5, 5, 5, 5, 5, 5, 5, 5, 6, 6, 6, 6, 6, 6, 6, 6, 6, 6, 6, 6, 6, 6, 6, 6, 6, 6, 6, 6, 6, 6, 6, 6, 6, 6, 6, 6, 6, 6, 6, 6, 7, 7, 7, 7, 7, 7, 7, 7, 7, 7, 7, 7, 7, 7, 7, 7, 7, 7, 7, 7, 7, 7, 7, 7, 7, 7, 7, 7, 7, 7, 7, 7, 7, 7, 7, 7, 7, 7, 7, 7, 7, 7, 7, 7, 7, 7, 7, 7, 7, 7, 7, 7, 7, 7, 7, 7, 7, 7, 7, 7, 7, 7, 7, 7, 8, 8, 8, 8, 8, 8, 8, 8, 8, 8, 8, 8, 8, 8, 8, 8, 8, 8, 8, 8, 8, 8, 8, 8, 8, 8, 8, 8, 8, 8, 8, 8, 8, 8, 8, 8, 8, 8, 8, 8, 8, 8, 8, 8, 8, 8, 8, 8, 8, 8, 8, 8, 8, 8, 8, 8, 8, 8, 8, 8, 8, 8, 8, 8, 8, 8, 8, 8, 8, 8, 8, 8, 8, 8, 8, 8, 8, 8, 8, 8, 8, 8, 8, 8, 8, 8, 8, 8, 8, 8, 8, 8, 8, 8, 8, 8, 8, 8, 8, 8, 8, 8, 8, 8, 8, 8, 8, 8, 8, 8, 8, 8, 8, 8, 8, 8, 8, 8, 8, 8, 8, 8, 8, 8, 8, 8, 8, 8]⟩ : ByteArray).size : Nat) : Int)] (by kernel_rfl) rfl ⟨h3, (by decide), o4, trivial⟩
  · obtain ⟨o5, hf⟩ := need_some hf
    replace hf := Option.some.inj hf
    subst hf
    exact toEnd_good allOk 7 _ _ [⟨[], [], [], [], [], [], []⟩, ⟨[], [], [], [], [], [], []⟩] [false] [] [] [] [(decide (v0 ≥ (256 : Int))) = false, 0 ≤ (IntKind.wrap .u8 v0) ∧ (IntKind.wrap .u8 v0) < (((⟨#[0, 1, 2, 2, 3, 3, 3, 3, 4, 4, 4, 4, 4, 4, 4, 4, 5, 5, 5, 5, 5, 5, 5, 5, 5, 5, 5, 5, 5, 5, 5, 5, 6, 6, 6, 6, 6, 6, 6, 6, 6, 6, 6, 6, 6, 6, 6, 6, 6, 6, 6, 6, 6, 6, 6, 6, 6, 6, 6, 6, 6, 6, 6, 6, 7, 7, 7, 7, 7, 7, 7, 7, 7, 7, 7, 7, 7, 7, 7, 7, 7, 7, 7, 7, 7, 7, 7, 7, 7, 7, 7, 7, 7, 7, 7, 7, 7, 7, 7, 7, 7, 7, 7, 7, 7, 7, 7, 7, 7, 7, 7, 7, 7, 7, 7, 7, 7, 7, 7, 7, 7, 7, 7, 7, 7, 7, 7, 7, 8, 8, 8, 8, 8, 8, 8, 8, 8, 8, 8, 8, 8, 8, 8, 8, 8, 8, 8, 8, 8, 8, 8, 8, 8, 8, 8, 8, 8, 8, 8, 8, 8, 8, 8, 8, 8, 8, 8, 8, 8, 8, 8, 8, 8, 8, 8, 8, 8, 8, 8, 8, 8, 8, 8, 8, 8, 8, 8, 8, 8, 8, 8, 8, 8, 8, 8, 8, 8, 8, 8, 8, 8, 8, 8, 8, 8, 8, 8, 8, 8, 8, 8, 8, 8, 8, 8, 8, 8, 8, 8, 8, 8, 8, 8, 8, 8, 8, 8, 8, 8, 8, 8, 8, 8, 8, 8, 8, 8, 8, 8, 8, 8, 8, 8, 8, 8, 8, 8, 8, 8, 8, 8, 8, 8, 8, 8, 8]⟩ : ByteArray).size : Nat) : Int)] (by kernel_rfl) rfl ⟨h3, o5, trivial⟩

def g_math_bits_Len64_c0   (v0 : Int) (v2 : Int) : Option Int :=
  bif (decide (v0 ≥ (65536 : Int))) then
    g_math_bits_Len64_c1   (Int.fdiv v0 (2 ^ (min (16 : Int).toNat (IntKind.bits .u64)))) (add64 v2 (16 : Int))
  else
    g_math_bits_Len64_c1   v0 v2

theorem g_math_bits_Len64_c0_ok (S0 : Nat → Prop) (w0 : Start)   (v0 : Int) (v2 : Int) (r : Int) (hf : g_math_bits_Len64_c0   v0 v2 = some r) : Good Try.prog 25 S0 w0 (bodyPost Try.prog Try.f172 (Post S0 w0 (.one (.lit (.int .i64 r))))) (at_ [1, 1] (bodyOf Try.f172)) ⟨[(0, .one (.lit (.int .u64 v0))), (2, .one (.lit (.int .i64 v2)))], []⟩ := by
  unfold g_math_bits_Len64_c0 at hf
  rcases br_some hf with ⟨h2, hf⟩ | ⟨h2, hf⟩
  · exact toK_good allOk Post.ends 7 _ _ _ _ [⟨[], [], [], [], [], [], []⟩, ⟨[], [], [], [], [], [], []⟩, ⟨[], [], [], [], [], [], []⟩] [true] ⟨[], [], [], [], [], [0, 2], [], []⟩ [(decide (v0 ≥ (65536 : Int))) = true, 0 ≤ (16 : Int)] (by kernel_rfl) ⟨h2, (by decide), trivial⟩ (g_math_bits_Len64_c1_ok S0 w0    (Int.fdiv v0 (2 ^ (min (16 : Int).toNat (IntKind.bits .u64)))) (add64 v2 (16 : Int)) r hf)
  · exact toK_good allOk Post.ends 5 _ _ _ _ [⟨[], [], [], [], [], [], []⟩] [false] ⟨[], [], [], [], [], [0, 2], [], []⟩ [(decide (v0 ≥ (65536 : Int))) = false] (by kernel_rfl) ⟨h2, trivial⟩ (g_math_bits_Len64_c1_ok S0 w0    v0 v2 r hf)

/-- math/bits.Len64 -/
def g_math_bits_Len64 (a0 : Int) : Option Int :=
  bif (decide (a0 ≥ (4294967296 : Int))) then
    g_math_bits_Len64_c0   (Int.fdiv a0 (2 ^ (min (32 : Int).toNat (IntKind.bits .u64)))) (32 : Int)
  else
    g_math_bits_Len64_c0   a0 (0 : Int)

theorem g_math_bits_Len64_ok (a0 : Int) (r : Int) (hf : g_math_bits_Len64 a0 = some r) : SCall Try.prog 172 [.one (.lit (.int .u64 a0))] (.one (.lit (.int .i64 r))) := by
  refine SCall.of Try.func172 rfl rfl rfl rfl fun S0 w0 => ?_
  unfold g_math_bits_Len64 at hf
  rcases br_some hf with ⟨h1, hf⟩ | ⟨h1, hf⟩
  · exact toK_good allOk Post.ends 9 _ _ _ _ [⟨[], [], [], [], [], [], []⟩, ⟨[], [], [], [], [], [], []⟩, ⟨[], [], [], [], [], [], []⟩, ⟨[], [], [], [], [], [], []⟩] [true] ⟨[], [], [], [], [], [0, 2], [], []⟩ [(decide (a0 ≥ (4294967296 : Int))) = true, 0 ≤ (32 : Int)] (by kernel_rfl) ⟨h1, (by decide), trivial⟩ (g_math_bits_Len64_c0_ok S0 w0    (Int.fdiv a0 (2 ^ (min (32 : Int).toNat (IntKind.bits .u64)))) (32 : Int) r hf)
  · exact toK_good allOk Post.ends 7 _ _ _ _ [⟨[], [], [], [], [], [], []⟩, ⟨[], [], [], [], [], [], []⟩] [false] ⟨[], [], [], [], [], [0, 2], [], []⟩ [(decide (a0 ≥ (4294967296 : Int))) = false] (by kernel_rfl) ⟨h1, trivial⟩ (g_math_bits_Len64_c0_ok S0 w0    a0 (0 : Int) r hf)

/-- math/bits.LeadingZeros64 -/
def g_math_bits_LeadingZeros64 (a0 : Int) : Option Int :=
  (g_math_bits_Len64 a0).bind fun x1 =>
  some (sub64 (64 : Int) x1)

theorem g_math_bits_LeadingZeros64_ok (a0 : Int) (r : Int) (hf : g_math_bits_LeadingZeros64 a0 = some r) : SCall Try.prog 157 [.one (.lit (.int .u64 a0))] (.one (.lit (.int .i64 r))) := by
  refine SCall.of Try.func157 rfl rfl rfl rfl fun S0 w0 => ?_
  unfold g_math_bits_LeadingZeros64 at hf
  obtain ⟨x1, q1, hf⟩ := bind_some' hf
  replace hf := Option.some.inj hf
  subst hf
  exact toEnd_good allOk 4 _ _ [⟨[], [], [], [], [], [], []⟩, ⟨[(1, .r (.one (.lit (.int .i64 x1))) [])], [], [], [], [], [], []⟩] [] [] [] [] [SCall Try.prog 172 [.one (.lit (.int .u64 a0))] (.one (.lit (.int .i64 x1)))] (by kernel_rfl) rfl ⟨(g_math_bits_Len64_ok a0 x1 q1), trivial⟩

def g_trie_common_c0   (v5 : Int) (v8 : Int) (b2 : T_api_Net) : Option Int :=
  bif (!b2.fAddr.fV6) then
    (g_addr_Bits b2.fAddr).bind fun x3 =>
    some (if v5 < (sub64 v8 (sub64 (128 : Int) x3)) then v5 else (sub64 v8 (sub64 (128 : Int) x3)))
  else
    some (if v5 < v8 then v5 else v8)

theorem g_trie_common_c0_ok (S0 : Nat → Prop) (w0 : Start)   (v5 : Int) (v8 : Int) (b2 : T_api_Net) (r : Int) (hf : g_trie_common_c0   v5 v8 b2 = some r) : Good Try.prog 48 S0 w0 (bodyPost Try.prog Try.f131 (Post S0 w0 (.one (.lit (.int .i64 r))))) (at_ [1, 1, 1, 1, 1] (bodyOf Try.f131)) ⟨[(2, .one (.ptr 2 0)), (5, .one (.lit (.int .i64 v5))), (8, .one (.lit (.int .i64 v8)))], [(2, .box [.lit (.bool b2.fAddr.fV6), .lit (.int .u64 b2.fAddr.fHi), .lit (.int .u64 b2.fAddr.fLo), .lit (.int .i64 b2.fBits)])]⟩ := by
  unfold g_trie_common_c0 at hf
  rcases br_some hf with ⟨h4, hf⟩ | ⟨h4, hf⟩
  · obtain ⟨x3, q5, hf⟩ := bind_some' hf
    replace hf := Option.some.inj hf
    subst hf
    exact toEnd_good allOk 7 _ _ [⟨[], [], [], [], [], [], []⟩, ⟨[(3, .r (.one (.lit (.int .i64 x3))) [])], [], [], [], [], [], []⟩, ⟨[], [], [], [], [], [], []⟩] [true] [] [] [] [(!b2.fAddr.fV6) = true, SCall Try.prog 130 [.agg (T_api_Addr.c b2.fAddr)] (.one (.lit (.int .i64 x3)))] (by kernel_rfl) rfl ⟨h4, (g_addr_Bits_ok b2.fAddr x3 q5), trivial⟩
  · replace hf := Option.some.inj hf
    subst hf
    exact toEnd_good allOk 7 _ _ [⟨[], [], [], [], [], [], []⟩, ⟨[], [], [], [], [], [], []⟩] [false] [] [] [] [(!b2.fAddr.fV6) = false] (by kernel_rfl) rfl ⟨h4, trivial⟩

/-- doorman/trie.common -/
def g_trie_common (a0 : T_api_Net) (a1 : T_api_Net) : Option Int :=
  (g_math_bits_LeadingZeros64 (IntKind.wrap .u64 (((BitVec.ofInt (IntKind.bits .u64) a0.fAddr.fHi) ^^^ (BitVec.ofInt (IntKind.bits .u64) a1.fAddr.fHi)).toNat : Int))).bind fun x1 =>
  bif ((IntKind.wrap .u64 (((BitVec.ofInt (IntKind.bits .u64) a0.fAddr.fHi) ^^^ (BitVec.ofInt (IntKind.bits .u64) a1.fAddr.fHi)).toNat : Int)) == (0 : Int)) then
    (g_math_bits_LeadingZeros64 (IntKind.wrap .u64 (((BitVec.ofInt (IntKind.bits .u64) a0.fAddr.fLo) ^^^ (BitVec.ofInt (IntKind.bits .u64) a1.fAddr.fLo)).toNat : Int))).bind fun x2 =>
    g_trie_common_c0   (if a1.fBits < a0.fBits then a1.fBits else a0.fBits) (add64 (64 : Int) x2) a0
  else
    g_trie_common_c0   (if a1.fBits < a0.fBits then a1.fBits else a0.fBits) x1 a0

theorem g_trie_common_ok (a0 : T_api_Net) (a1 : T_api_Net) (r : Int) (hf : g_trie_common a0 a1 = some r) : SCall Try.prog 131 [.agg (T_api_Net.c a0), .agg (T_api_Net.c a1)] (.one (.lit (.int .i64 r))) := by
  refine SCall.of Try.func131 rfl rfl rfl rfl fun S0 w0 => ?_
  unfold g_trie_common at hf
  obtain ⟨x1, q1, hf⟩ := bind_some' hf
  rcases br_some hf with ⟨h2, hf⟩ | ⟨h2, hf⟩
  · obtain ⟨x2, q3, hf⟩ := bind_some' hf
    exact toK_good allOk Post.ends 13 _ _ _ _ [⟨[], [], [], [], [], [], []⟩, ⟨[], [], [], [], [], [], []⟩, ⟨[], [], [], [[], [0], [1, 0], [], [3], [4, 3], [2, 1, 0, 5, 4, 3], [], [7], [8, 7], [], [10], [11, 10], [9, 8, 7, 12, 11, 10], [6, 2, 1, 0, 5, 4, 3], [13, 9, 8, 7, 12, 11, 10, 14, 6, 2, 1, 0, 5, 4, 3]], [], [], []⟩, ⟨[(1, .r (.one (.lit (.int .i64 x1))) [])], [], [], [], [], [], []⟩, ⟨[], [], [], [], [], [], []⟩, ⟨[(1, .r (.one (.lit (.int .i64 x2))) [])], [], [], [], [], [], []⟩] [true] ⟨[], [], [], [], [], [2, 5, 8], [2], []⟩ [SCall Try.prog 157 [.one (.lit (.int .u64 (IntKind.wrap .u64 (((BitVec.ofInt (IntKind.bits .u64) a0.fAddr.fHi) ^^^ (BitVec.ofInt (IntKind.bits .u64) a1.fAddr.fHi)).toNat : Int))))] (.one (.lit (.int .i64 x1))), ((IntKind.wrap .u64 (((BitVec.ofInt (IntKind.bits .u64) a0.fAddr.fHi) ^^^ (BitVec.ofInt (IntKind.bits .u64) a1.fAddr.fHi)).toNat : Int)) == (0 : Int)) = true, SCall Try.prog 157 [.one (.lit (.int .u64 (IntKind.wrap .u64 (((BitVec.ofInt (IntKind.bits .u64) a0.fAddr.fLo) ^^^ (BitVec.ofInt (IntKind.bits .u64) a1.fAddr.fLo)).toNat : Int))))] (.one (.lit (.int .i64 x2)))] (by kernel_rfl) ⟨(g_math_bits_LeadingZeros64_ok (IntKind.wrap .u64 (((BitVec.ofInt (IntKind.bits .u64) a0.fAddr.fHi) ^^^ (BitVec.ofInt (IntKind.bits .u64) a1.fAddr.fHi)).toNat : Int)) x1 q1), h2, (g_math_bits_LeadingZeros64_ok (IntKind.wrap .u64 (((BitVec.ofInt (IntKind.bits .u64) a0.fAddr.fLo) ^^^ (BitVec.ofInt (IntKind.bits .u64) a1.fAddr.fLo)).toNat : Int)) x2 q3), trivial⟩ (g_trie_common_c0_ok S0 w0    (if a1.fBits < a0.fBits then a1.fBits else a0.fBits) (add64 (64 : Int) x2) a0 r hf)
  · exact toK_good allOk Post.ends 13 _ _ _ _ [⟨[], [], [], [], [], [], []⟩, ⟨[], [], [], [], [], [], []⟩, ⟨[], [], [], [[], [0], [1, 0], [], [3], [4, 3], [2, 1, 0, 5, 4, 3], [], [7], [8, 7], [], [10], [11, 10], [9, 8, 7, 12, 11, 10], [6, 2, 1, 0, 5, 4, 3], [13, 9, 8, 7, 12, 11, 10, 14, 6, 2, 1, 0, 5, 4, 3]], [], [], []⟩, ⟨[(1, .r (.one (.lit (.int .i64 x1))) [])], [], [], [], [], [], []⟩, ⟨[], [], [], [], [], [], []⟩] [false] ⟨[], [], [], [], [], [2, 5, 8], [2], []⟩ [SCall Try.prog 157 [.one (.lit (.int .u64 (IntKind.wrap .u64 (((BitVec.ofInt (IntKind.bits .u64) a0.fAddr.fHi) ^^^ (BitVec.ofInt (IntKind.bits .u64) a1.fAddr.fHi)).toNat : Int))))] (.one (.lit (.int .i64 x1))), ((IntKind.wrap .u64 (((BitVec.ofInt (IntKind.bits .u64) a0.fAddr.fHi) ^^^ (BitVec.ofInt (IntKind.bits .u64) a1.fAddr.fHi)).toNat : Int)) == (0 : Int)) = false] (by kernel_rfl) ⟨(g_math_bits_LeadingZeros64_ok (IntKind.wrap .u64 (((BitVec.ofInt (IntKind.bits .u64) a0.fAddr.fHi) ^^^ (BitVec.ofInt (IntKind.bits .u64) a1.fAddr.fHi)).toNat : Int)) x1 q1), h2, trivial⟩ (g_trie_common_c0_ok S0 w0    (if a1.fBits < a0.fBits then a1.fBits else a0.fBits) x1 a0 r hf)

/-- doorman/trie.branch -/
def g_trie_branch (a0 : N_trie_node) (a1 : T_trie_node) (a2 : Int) : Option N_trie_node :=
  bif (a2 == a1.fhit.fNet.fBits) then
    (match a0 with
    | .nil =>
      none
    | .mk p1_0 p1_1 p1_2 p1_3 =>
      (g_trie_bit p1_0.fNet a2).bind fun x2 =>
      need (0 ≤ x2 ∧ x2 < ((2 : Nat) : Int)) <|
      ix2 x2 (
        some (N_trie_node.mk a1.fhit a1.fhas (N_trie_node.mk p1_0 p1_1 p1_2 p1_3) a1.fkids.2)) (
        some (N_trie_node.mk a1.fhit a1.fhas a1.fkids.1 (N_trie_node.mk p1_0 p1_1 p1_2 p1_3))))
  else
    (g_cidr_Make a1.fhit.fNet.fAddr a2).bind fun x3 =>
    (match a0 with
    | .nil =>
      none
    | .mk p4_0 p4_1 p4_2 p4_3 =>
      (g_trie_bit p4_0.fNet a2).bind fun x5 =>
      need (0 ≤ x5 ∧ x5 < ((2 : Nat) : Int)) <|
      ix2 x5 (
        (g_trie_bit a1.fhit.fNet a2).bind fun x6 =>
        need (0 ≤ x6 ∧ x6 < ((2 : Nat) : Int)) <|
        ix2 x6 (
          some (N_trie_node.mk (T_trie_Hit.mk x3.1 (0 : Int)) false (N_trie_node.mk a1.fhit a1.fhas a1.fkids.1 a1.fkids.2) N_trie_node.nil)) (
          some (N_trie_node.mk (T_trie_Hit.mk x3.1 (0 : Int)) false (N_trie_node.mk p4_0 p4_1 p4_2 p4_3) (N_trie_node.mk a1.fhit a1.fhas a1.fkids.1 a1.fkids.2)))) (
        (g_trie_bit a1.fhit.fNet a2).bind fun x7 =>
        need (0 ≤ x7 ∧ x7 < ((2 : Nat) : Int)) <|
        ix2 x7 (
          some (N_trie_node.mk (T_trie_Hit.mk x3.1 (0 : Int)) false (N_trie_node.mk a1.fhit a1.fhas a1.fkids.1 a1.fkids.2) (N_trie_node.mk p4_0 p4_1 p4_2 p4_3))) (
          some (N_trie_node.mk (T_trie_Hit.mk x3.1 (0 : Int)) false N_trie_node.nil (N_trie_node.mk a1.fhit a1.fhas a1.fkids.1 a1.fkids.2)))))

theorem g_trie_branch_own (a0 : N_trie_node) (a1 : T_trie_node) (a2 : Int) (r : N_trie_node) (hf : g_trie_branch a0 a1 a2 = some r) : HCall Try.prog 132 [(100000, .box (T_trie_node.c a1))] [.one (N_trie_node.c a0), .one (.ptr 100000 0), .one (.lit (.int .i64 a2))] [] (.one (N_trie_node.c r)) := by
  refine HCall.of Try.func132 rfl rfl rfl rfl fun S0 w0 => ?_
  unfold g_trie_branch at hf
  rcases br_some hf with ⟨h1, hf⟩ | ⟨h1, hf⟩
  · cases a0 with
    | nil =>
      dsimp only at hf
      cases hf
    | mk p1_0 p1_1 p1_2 p1_3 =>
      dsimp only at hf
      obtain ⟨x2, q2, hf⟩ := bind_some' hf
      obtain ⟨o3, hf⟩ := need_some hf
      rcases ix2_some o3 hf with ⟨e, hf⟩ | ⟨e, hf⟩
      · subst e
        replace hf := Option.some.inj hf
        subst hf
        exact toEndH_good allOk 10 _ _ [⟨[], [], [], [], [], [], []⟩, ⟨[], [], [], [], [], [], []⟩, ⟨[(7, .r (.one (.lit (.int .i64 (0 : Int)))) [])], [], [], [[], [], [1], [2, 1], [3, 2, 1], [4, 3, 2, 1], [], [5, 4, 3, 2, 1, 6], [], [0], [9, 0], [10, 9, 0, 7, 5, 4, 3, 2, 1, 6, 8], [11, 10, 9, 0, 7, 5, 4, 3, 2, 1, 6, 8]], [], [], []⟩, ⟨[], [], [], [], [], [], []⟩] [true] ⟨[100000], [], [], [], [], [6], [], []⟩ [(a2 == a1.fhit.fNet.fBits) = true, SCall Try.prog 74 [.agg (T_api_Net.c p1_0.fNet), .one (.lit (.int .i64 a2))] (.one (.lit (.int .i64 (0 : Int)))), 0 ≤ (0 : Int) ∧ (0 : Int) < ((2 : Nat) : Int)] (by kernel_rfl) ⟨h1, (g_trie_bit_ok p1_0.fNet a2 (0 : Int) q2), (by decide), trivial⟩
      · subst e
        replace hf := Option.some.inj hf
        subst hf
        exact toEndH_good allOk 10 _ _ [⟨[], [], [], [], [], [], []⟩, ⟨[], [], [], [], [], [], []⟩, ⟨[(7, .r (.one (.lit (.int .i64 (1 : Int)))) [])], [], [], [[], [], [1], [2, 1], [3, 2, 1], [4, 3, 2, 1], [], [5, 4, 3, 2, 1, 6], [], [0], [9, 0], [10, 9, 0, 7, 5, 4, 3, 2, 1, 6, 8], [11, 10, 9, 0, 7, 5, 4, 3, 2, 1, 6, 8]], [], [], []⟩, ⟨[], [], [], [], [], [], []⟩] [true] ⟨[100000], [], [], [], [], [6], [], []⟩ [(a2 == a1.fhit.fNet.fBits) = true, SCall Try.prog 74 [.agg (T_api_Net.c p1_0.fNet), .one (.lit (.int .i64 a2))] (.one (.lit (.int .i64 (1 : Int)))), 0 ≤ (1 : Int) ∧ (1 : Int) < ((2 : Nat) : Int)] (by kernel_rfl) ⟨h1, (g_trie_bit_ok p1_0.fNet a2 (1 : Int) q2), (by decide), trivial⟩
  · obtain ⟨x3, q4, hf⟩ := bind_some' hf
    cases a0 with
    | nil =>
      dsimp only at hf
      cases hf
    | mk p4_0 p4_1 p4_2 p4_3 =>
      dsimp only at hf
      obtain ⟨x5, q5, hf⟩ := bind_some' hf
      obtain ⟨o6, hf⟩ := need_some hf
      rcases ix2_some o6 hf with ⟨e, hf⟩ | ⟨e, hf⟩
      · subst e
        obtain ⟨x6, q7, hf⟩ := bind_some' hf
        obtain ⟨o8, hf⟩ := need_some hf
        rcases ix2_some o8 hf with ⟨e, hf⟩ | ⟨e, hf⟩
        · subst e
          replace hf := Option.some.inj hf
          subst hf
          exact toEndH_good allOk 17 _ _ [⟨[], [], [], [], [], [], []⟩, ⟨[], [], [], [], [], [], []⟩, ⟨[(7, .r (.tup [(true, T_api_Net.c x3.1), (false, cB x3.2)]) [])], [], [], [], [], [], []⟩, ⟨[], [], [], [], [(2, [(6, N_trie_node.c N_trie_node.nil), (7, N_trie_node.c N_trie_node.nil)])], [], []⟩, ⟨[(7, .r (.one (.lit (.int .i64 (0 : Int)))) [])], [], [], [[], [], [1], [2, 1], [3, 2, 1], [4, 3, 2, 1], [], [5, 4, 3, 2, 1, 6], [], [0], [9, 0], [10, 9, 0, 7, 5, 4, 3, 2, 1, 6, 8], [11, 10, 9, 0, 7, 5, 4, 3, 2, 1, 6, 8]], [], [], []⟩, ⟨[(7, .r (.one (.lit (.int .i64 (0 : Int)))) [])], [], [], [[], [], [1], [2, 1], [3, 2, 1], [4, 3, 2, 1], [], [5, 4, 3, 2, 1, 6], [], [0], [9, 0], [10, 9, 0, 7, 5, 4, 3, 2, 1, 6, 8], [11, 10, 9, 0, 7, 5, 4, 3, 2, 1, 6, 8]], [], [], []⟩, ⟨[], [], [], [], [], [], []⟩] [false] ⟨[100000, 45], [], [], [], [], [6], [], []⟩ [(a2 == a1.fhit.fNet.fBits) = false, SCall Try.prog 126 [.agg (T_api_Addr.c a1.fhit.fNet.fAddr), .one (.lit (.int .i64 a2))] (.tup [(true, T_api_Net.c x3.1), (false, cB x3.2)]), SCall Try.prog 74 [.agg (T_api_Net.c p4_0.fNet), .one (.lit (.int .i64 a2))] (.one (.lit (.int .i64 (0 : Int)))), 0 ≤ (0 : Int) ∧ (0 : Int) < ((2 : Nat) : Int), SCall Try.prog 74 [.agg (T_api_Net.c a1.fhit.fNet), .one (.lit (.int .i64 a2))] (.one (.lit (.int .i64 (0 : Int)))), 0 ≤ (0 : Int) ∧ (0 : Int) < ((2 : Nat) : Int)] (by kernel_rfl) ⟨h1, (g_cidr_Make_ok a1.fhit.fNet.fAddr a2 x3 q4), (g_trie_bit_ok p4_0.fNet a2 (0 : Int) q5), (by decide), (g_trie_bit_ok a1.fhit.fNet a2 (0 : Int) q7), (by decide), trivial⟩
        · subst e
          replace hf := Option.some.inj hf
          subst hf
          exact toEndH_good allOk 17 _ _ [⟨[], [], [], [], [], [], []⟩, ⟨[], [], [], [], [], [], []⟩, ⟨[(7, .r (.tup [(true, T_api_Net.c x3.1), (false, cB x3.2)]) [])], [], [], [], [], [], []⟩, ⟨[], [], [], [], [(2, [(6, N_trie_node.c N_trie_node.nil), (7, N_trie_node.c N_trie_node.nil)])], [], []⟩, ⟨[(7, .r (.one (.lit (.int .i64 (0 : Int)))) [])], [], [], [[], [], [1], [2, 1], [3, 2, 1], [4, 3, 2, 1], [], [5, 4, 3, 2, 1, 6], [], [0], [9, 0], [10, 9, 0, 7, 5, 4, 3, 2, 1, 6, 8], [11, 10, 9, 0, 7, 5, 4, 3, 2, 1, 6, 8]], [], [], []⟩, ⟨[(7, .r (.one (.lit (.int .i64 (1 : Int)))) [])], [], [], [[], [], [1], [2, 1], [3, 2, 1], [4, 3, 2, 1], [], [5, 4, 3, 2, 1, 6], [], [0], [9, 0], [10, 9, 0, 7, 5, 4, 3, 2, 1, 6, 8], [11, 10, 9, 0, 7, 5, 4, 3, 2, 1, 6, 8]], [], [], []⟩, ⟨[], [], [], [], [], [], []⟩] [false] ⟨[100000, 45], [], [], [], [], [6], [], []⟩ [(a2 == a1.fhit.fNet.fBits) = false, SCall Try.prog 126 [.agg (T_api_Addr.c a1.fhit.fNet.fAddr), .one (.lit (.int .i64 a2))] (.tup [(true, T_api_Net.c x3.1), (false, cB x3.2)]), SCall Try.prog 74 [.agg (T_api_Net.c p4_0.fNet), .one (.lit (.int .i64 a2))] (.one (.lit (.int .i64 (0 : Int)))), 0 ≤ (0 : Int) ∧ (0 : Int) < ((2 : Nat) : Int), SCall Try.prog 74 [.agg (T_api_Net.c a1.fhit.fNet), .one (.lit (.int .i64 a2))] (.one (.lit (.int .i64 (1 : Int)))), 0 ≤ (1 : Int) ∧ (1 : Int) < ((2 : Nat) : Int)] (by kernel_rfl) ⟨h1, (g_cidr_Make_ok a1.fhit.fNet.fAddr a2 x3 q4), (g_trie_bit_ok p4_0.fNet a2 (0 : Int) q5), (by decide), (g_trie_bit_ok a1.fhit.fNet a2 (1 : Int) q7), (by decide), trivial⟩
      · subst e
        obtain ⟨x7, q9, hf⟩ := bind_some' hf
        obtain ⟨o10, hf⟩ := need_some hf
        rcases ix2_some o10 hf with ⟨e, hf⟩ | ⟨e, hf⟩
        · subst e
          replace hf := Option.some.inj hf
          subst hf
          exact toEndH_good allOk 17 _ _ [⟨[], [], [], [], [], [], []⟩, ⟨[], [], [], [], [], [], []⟩, ⟨[(7, .r (.tup [(true, T_api_Net.c x3.1), (false, cB x3.2)]) [])], [], [], [], [], [], []⟩, ⟨[], [], [], [], [(2, [(6, N_trie_node.c N_trie_node.nil), (7, N_trie_node.c N_trie_node.nil)])], [], []⟩, ⟨[(7, .r (.one (.lit (.int .i64 (1 : Int)))) [])], [], [], [[], [], [1], [2, 1], [3, 2, 1], [4, 3, 2, 1], [], [5, 4, 3, 2, 1, 6], [], [0], [9, 0], [10, 9, 0, 7, 5, 4, 3, 2, 1, 6, 8], [11, 10, 9, 0, 7, 5, 4, 3, 2, 1, 6, 8]], [], [], []⟩, ⟨[(7, .r (.one (.lit (.int .i64 (0 : Int)))) [])], [], [], [[], [], [1], [2, 1], [3, 2, 1], [4, 3, 2, 1], [], [5, 4, 3, 2, 1, 6], [], [0], [9, 0], [10, 9, 0, 7, 5, 4, 3, 2, 1, 6, 8], [11, 10, 9, 0, 7, 5, 4, 3, 2, 1, 6, 8]], [], [], []⟩, ⟨[], [], [], [], [], [], []⟩] [false] ⟨[100000, 45], [], [], [], [], [6], [], []⟩ [(a2 == a1.fhit.fNet.fBits) = false, SCall Try.prog 126 [.agg (T_api_Addr.c a1.fhit.fNet.fAddr), .one (.lit (.int .i64 a2))] (.tup [(true, T_api_Net.c x3.1), (false, cB x3.2)]), SCall Try.prog 74 [.agg (T_api_Net.c p4_0.fNet), .one (.lit (.int .i64 a2))] (.one (.lit (.int .i64 (1 : Int)))), 0 ≤ (1 : Int) ∧ (1 : Int) < ((2 : Nat) : Int), SCall Try.prog 74 [.agg (T_api_Net.c a1.fhit.fNet), .one (.lit (.int .i64 a2))] (.one (.lit (.int .i64 (0 : Int)))), 0 ≤ (0 : Int) ∧ (0 : Int) < ((2 : Nat) : Int)] (by kernel_rfl) ⟨h1, (g_cidr_Make_ok a1.fhit.fNet.fAddr a2 x3 q4), (g_trie_bit_ok p4_0.fNet a2 (1 : Int) q5), (by decide), (g_trie_bit_ok a1.fhit.fNet a2 (0 : Int) q9), (by decide), trivial⟩
        · subst e
          replace hf := Option.some.inj hf
          subst hf
          exact toEndH_good allOk 17 _ _ [⟨[], [], [], [], [], [], []⟩, ⟨[], [], [], [], [], [], []⟩, ⟨[(7, .r (.tup [(true, T_api_Net.c x3.1), (false, cB x3.2)]) [])], [], [], [], [], [], []⟩, ⟨[], [], [], [], [(2, [(6, N_trie_node.c N_trie_node.nil), (7, N_trie_node.c N_trie_node.nil)])], [], []⟩, ⟨[(7, .r (.one (.lit (.int .i64 (1 : Int)))) [])], [], [], [[], [], [1], [2, 1], [3, 2, 1], [4, 3, 2, 1], [], [5, 4, 3, 2, 1, 6], [], [0], [9, 0], [10, 9, 0, 7, 5, 4, 3, 2, 1, 6, 8], [11, 10, 9, 0, 7, 5, 4, 3, 2, 1, 6, 8]], [], [], []⟩, ⟨[(7, .r (.one (.lit (.int .i64 (1 : Int)))) [])], [], [], [[], [], [1], [2, 1], [3, 2, 1], [4, 3, 2, 1], [], [5, 4, 3, 2, 1, 6], [], [0], [9, 0], [10, 9, 0, 7, 5, 4, 3, 2, 1, 6, 8], [11, 10, 9, 0, 7, 5, 4, 3, 2, 1, 6, 8]], [], [], []⟩, ⟨[], [], [], [], [], [], []⟩] [false] ⟨[100000, 45], [], [], [], [], [6], [], []⟩ [(a2 == a1.fhit.fNet.fBits) = false, SCall Try.prog 126 [.agg (T_api_Addr.c a1.fhit.fNet.fAddr), .one (.lit (.int .i64 a2))] (.tup [(true, T_api_Net.c x3.1), (false, cB x3.2)]), SCall Try.prog 74 [.agg (T_api_Net.c p4_0.fNet), .one (.lit (.int .i64 a2))] (.one (.lit (.int .i64 (1 : Int)))), 0 ≤ (1 : Int) ∧ (1 : Int) < ((2 : Nat) : Int), SCall Try.prog 74 [.agg (T_api_Net.c a1.fhit.fNet), .one (.lit (.int .i64 a2))] (.one (.lit (.int .i64 (1 : Int)))), 0 ≤ (1 : Int) ∧ (1 : Int) < ((2 : Nat) : Int)] (by kernel_rfl) ⟨h1, (g_cidr_Make_ok a1.fhit.fNet.fAddr a2 x3 q4), (g_trie_bit_ok p4_0.fNet a2 (1 : Int) q5), (by decide), (g_trie_bit_ok a1.fhit.fNet a2 (1 : Int) q9), (by decide), trivial⟩

/-- doorman/trie.with -/
def g_trie_with : Nat → N_trie_node → T_trie_Hit → Option N_trie_node
  | 0, _, _ => none
  | fu + 1, a0, a1 =>
    (match a0 with
    | .nil =>
      some (N_trie_node.mk a1 true N_trie_node.nil N_trie_node.nil)
    | .mk p1_0 p1_1 p1_2 p1_3 =>
      (g_trie_common p1_0.fNet a1.fNet).bind fun x2 =>
      bif (decide (x2 < p1_0.fNet.fBits)) then
        (g_trie_branch (N_trie_node.mk p1_0 p1_1 p1_2 p1_3) (T_trie_node.mk a1 true (N_trie_node.nil, N_trie_node.nil)) x2).bind fun x3 =>
        some x3
      else
        bif (x2 == a1.fNet.fBits) then
          some (N_trie_node.mk a1 true p1_2 p1_3)
        else
          (g_trie_bit a1.fNet x2).bind fun x4 =>
          need (0 ≤ x4 ∧ x4 < ((2 : Nat) : Int)) <|
          ix2 x4 (
            (g_trie_with fu p1_2 a1).bind fun x5 =>
            some (N_trie_node.mk p1_0 p1_1 x5 p1_3)) (
            (g_trie_with fu p1_3 a1).bind fun x6 =>
            some (N_trie_node.mk p1_0 p1_1 p1_2 x6)))

theorem g_trie_with_ok : ∀ (fu : Nat) (a0 : N_trie_node) (a1 : T_trie_Hit) (r : N_trie_node) (hf : g_trie_with fu a0 a1 = some r), SCall Try.prog 82 [.one (N_trie_node.c a0), .agg (T_trie_Hit.c a1)] (.one (N_trie_node.c r)) := by
  intro fu
  induction fu with
  | zero =>
    intro a0 a1 r hf
    simp [g_trie_with] at hf
  | succ fu ih =>
    intro a0 a1 r hf
    refine SCall.of Try.func82 rfl rfl rfl rfl fun S0 w0 => ?_
    unfold g_trie_with at hf
    cases a0 with
    | nil =>
      dsimp only at hf
      replace hf := Option.some.inj hf
      subst hf
      exact toEnd_good allOk 8 _ _ [⟨[], [], [], [], [], [], []⟩, ⟨[], [], [], [], [], [], []⟩, ⟨[], [], [], [], [(1, [(6, N_trie_node.c N_trie_node.nil), (7, N_trie_node.c N_trie_node.nil)])], [], []⟩] [true] [12] [] [] [true = true] (by kernel_rfl) rfl ⟨rfl, trivial⟩
    | mk p1_0 p1_1 p1_2 p1_3 =>
      dsimp only at hf
      obtain ⟨x2, q1, hf⟩ := bind_some' hf
      rcases br_some hf with ⟨h2, hf⟩ | ⟨h2, hf⟩
      · obtain ⟨x3, q3, hf⟩ := bind_some' hf
        replace hf := Option.some.inj hf
        subst hf
        exact toEnd_good allOk 15 _ _ [⟨[], [], [], [], [], [], []⟩, ⟨[], [], [], [], [], [], []⟩, ⟨[(7, .r (.one (.lit (.int .i64 x2))) [])], [], [], [[], [0], [1, 0], [2, 1, 0], [3, 2, 1, 0], [], [5], [4, 3, 2, 1, 0, 6, 5], [7, 4, 3, 2, 1, 0, 6, 5]], [], [], []⟩, ⟨[], [], [], [], [], [], []⟩, ⟨[], [], [], [], [(2, [(6, N_trie_node.c N_trie_node.nil), (7, N_trie_node.c N_trie_node.nil)])], [], [(5, ⟨[(100000, 32)], [], [], .one (N_trie_node.c x3)⟩)]⟩] [false, true] [] [] [] [false = false, SCall Try.prog 131 [.agg (T_api_Net.c p1_0.fNet), .agg (T_api_Net.c a1.fNet)] (.one (.lit (.int .i64 x2))), (decide (x2 < p1_0.fNet.fBits)) = true, HCall Try.prog 132 [(100000, .box (T_trie_node.c (T_trie_node.mk a1 true (N_trie_node.nil, N_trie_node.nil))))] [.one (N_trie_node.c (N_trie_node.mk p1_0 p1_1 p1_2 p1_3)), .one (.ptr 100000 0), .one (.lit (.int .i64 x2))] [] (.one (N_trie_node.c x3))] (by kernel_rfl) rfl ⟨rfl, (g_trie_common_ok p1_0.fNet a1.fNet x2 q1), h2, (g_trie_branch_own (N_trie_node.mk p1_0 p1_1 p1_2 p1_3) (T_trie_node.mk a1 true (N_trie_node.nil, N_trie_node.nil)) x2 x3 q3), trivial⟩
      · rcases br_some hf with ⟨h4, hf⟩ | ⟨h4, hf⟩
        · replace hf := Option.some.inj hf
          subst hf
          exact toEnd_good allOk 24 _ _ [⟨[], [], [], [], [], [], []⟩, ⟨[], [], [], [], [], [], []⟩, ⟨[(7, .r (.one (.lit (.int .i64 x2))) [])], [], [], [[], [0], [1, 0], [2, 1, 0], [3, 2, 1, 0], [], [5], [4, 3, 2, 1, 0, 6, 5], [7, 4, 3, 2, 1, 0, 6, 5]], [], [], []⟩, ⟨[], [], [], [], [], [], []⟩, ⟨[], [], [], [], [], [], []⟩, ⟨[], [], [], [], [], [], []⟩, ⟨[], [], [], [], [], [], []⟩, ⟨[], [], [], [], [], [], []⟩] [false, false, true] [6] [] [] [false = false, SCall Try.prog 131 [.agg (T_api_Net.c p1_0.fNet), .agg (T_api_Net.c a1.fNet)] (.one (.lit (.int .i64 x2))), (decide (x2 < p1_0.fNet.fBits)) = false, (x2 == a1.fNet.fBits) = true] (by kernel_rfl) rfl ⟨rfl, (g_trie_common_ok p1_0.fNet a1.fNet x2 q1), h2, h4, trivial⟩
        · obtain ⟨x4, q5, hf⟩ := bind_some' hf
          obtain ⟨o6, hf⟩ := need_some hf
          rcases ix2_some o6 hf with ⟨e, hf⟩ | ⟨e, hf⟩
          · subst e
            obtain ⟨x5, q7, hf⟩ := bind_some' hf
            replace hf := Option.some.inj hf
            subst hf
            exact toEnd_good allOk 27 _ _ [⟨[], [], [], [], [], [], []⟩, ⟨[], [], [], [], [], [], []⟩, ⟨[(7, .r (.one (.lit (.int .i64 x2))) [])], [], [], [[], [0], [1, 0], [2, 1, 0], [3, 2, 1, 0], [], [5], [4, 3, 2, 1, 0, 6, 5], [7, 4, 3, 2, 1, 0, 6, 5]], [], [], []⟩, ⟨[], [], [], [], [], [], []⟩, ⟨[], [], [], [], [], [], []⟩, ⟨[], [], [], [], [], [], []⟩, ⟨[(3, .r (.one (.lit (.int .i64 (0 : Int)))) [])], [], [], [], [], [], []⟩, ⟨[(8, .r (.one (N_trie_node.c x5)) [])], [], [], [[], [], [], [1], [3, 1], [4, 3, 1, 2], [5, 4, 3, 1, 2], [], [6, 5, 4, 3, 1, 2, 7], [], [9, 0, 1, 2, 3, 4, 5, 6, 7, 8], [10, 9, 0, 1, 2, 3, 4, 5, 6, 7, 8]], [], [], []⟩, ⟨[], [], [], [], [], [], []⟩] [false, false, false] [6] [] [] [false = false, SCall Try.prog 131 [.agg (T_api_Net.c p1_0.fNet), .agg (T_api_Net.c a1.fNet)] (.one (.lit (.int .i64 x2))), (decide (x2 < p1_0.fNet.fBits)) = false, (x2 == a1.fNet.fBits) = false, SCall Try.prog 74 [.agg (T_api_Net.c a1.fNet), .one (.lit (.int .i64 x2))] (.one (.lit (.int .i64 (0 : Int)))), 0 ≤ (0 : Int) ∧ (0 : Int) < ((2 : Nat) : Int), SCall Try.prog 82 [.one (N_trie_node.c p1_2), .agg (T_trie_Hit.c a1)] (.one (N_trie_node.c x5)), 0 ≤ (0 : Int) ∧ (0 : Int) < ((2 : Nat) : Int)] (by kernel_rfl) rfl ⟨rfl, (g_trie_common_ok p1_0.fNet a1.fNet x2 q1), h2, h4, (g_trie_bit_ok a1.fNet x2 (0 : Int) q5), (by decide), (ih p1_2 a1 x5 q7), (by decide), trivial⟩
          · subst e
            obtain ⟨x6, q8, hf⟩ := bind_some' hf
            replace hf := Option.some.inj hf
            subst hf
            exact toEnd_good allOk 27 _ _ [⟨[], [], [], [], [], [], []⟩, ⟨[], [], [], [], [], [], []⟩, ⟨[(7, .r (.one (.lit (.int .i64 x2))) [])], [], [], [[], [0], [1, 0], [2, 1, 0], [3, 2, 1, 0], [], [5], [4, 3, 2, 1, 0, 6, 5], [7, 4, 3, 2, 1, 0, 6, 5]], [], [], []⟩, ⟨[], [], [], [], [], [], []⟩, ⟨[], [], [], [], [], [], []⟩, ⟨[], [], [], [], [], [], []⟩, ⟨[(3, .r (.one (.lit (.int .i64 (1 : Int)))) [])], [], [], [], [], [], []⟩, ⟨[(8, .r (.one (N_trie_node.c x6)) [])], [], [], [[], [], [], [1], [3, 1], [4, 3, 1, 2], [5, 4, 3, 1, 2], [], [6, 5, 4, 3, 1, 2, 7], [], [9, 0, 1, 2, 3, 4, 5, 6, 7, 8], [10, 9, 0, 1, 2, 3, 4, 5, 6, 7, 8]], [], [], []⟩, ⟨[], [], [], [], [], [], []⟩] [false, false, false] [6] [] [] [false = false, SCall Try.prog 131 [.agg (T_api_Net.c p1_0.fNet), .agg (T_api_Net.c a1.fNet)] (.one (.lit (.int .i64 x2))), (decide (x2 < p1_0.fNet.fBits)) = false, (x2 == a1.fNet.fBits) = false, SCall Try.prog 74 [.agg (T_api_Net.c a1.fNet), .one (.lit (.int .i64 x2))] (.one (.lit (.int .i64 (1 : Int)))), 0 ≤ (1 : Int) ∧ (1 : Int) < ((2 : Nat) : Int), SCall Try.prog 82 [.one (N_trie_node.c p1_3), .agg (T_trie_Hit.c a1)] (.one (N_trie_node.c x6)), 0 ≤ (1 : Int) ∧ (1 : Int) < ((2 : Nat) : Int)] (by kernel_rfl) rfl ⟨rfl, (g_trie_common_ok p1_0.fNet a1.fNet x2 q1), h2, h4, (g_trie_bit_ok a1.fNet x2 (1 : Int) q5), (by decide), (ih p1_3 a1 x6 q8), (by decide), trivial⟩

def g_trie_Trie_With_c0 (a2 : Int)  (v0 : N_trie_Trie) (b4 : T_api_Net) : Option N_trie_Trie :=
  (match v0 with
  | .nil =>
    none
  | .mk p3_0 p3_1 p3_2 =>
    (g_cidr_Right b4).bind fun x4 =>
    bif (!x4) then
      some (N_trie_Trie.mk p3_0 p3_1 p3_2)
    else
      (g_trie_Trie_Get (N_trie_Trie.mk p3_0 p3_1 p3_2) b4).bind fun x5 =>
      bif (!x5.2) then
        (g_trie_family b4.fAddr).bind fun x6 =>
        need (0 ≤ x6 ∧ x6 < ((2 : Nat) : Int)) <|
        ix2 x6 (
          (g_trie_with 1000 p3_0 (T_trie_Hit.mk b4 a2)).bind fun x7 =>
          some (N_trie_Trie.mk x7 p3_1 (add64 p3_2 (1 : Int)))) (
          (g_trie_with 1000 p3_1 (T_trie_Hit.mk b4 a2)).bind fun x8 =>
          some (N_trie_Trie.mk p3_0 x8 (add64 p3_2 (1 : Int))))
      else
        (g_trie_family b4.fAddr).bind fun x9 =>
        need (0 ≤ x9 ∧ x9 < ((2 : Nat) : Int)) <|
        ix2 x9 (
          (g_trie_with 1000 p3_0 (T_trie_Hit.mk b4 a2)).bind fun x10 =>
          some (N_trie_Trie.mk x10 p3_1 p3_2)) (
          (g_trie_with 1000 p3_1 (T_trie_Hit.mk b4 a2)).bind fun x11 =>
          some (N_trie_Trie.mk p3_0 x11 p3_2)))

theorem g_trie_Trie_With_c0_ok (S0 : Nat → Prop) (w0 : Start) (a2 : Int)  (v0 : N_trie_Trie) (b4 : T_api_Net) (r : N_trie_Trie) (hf : g_trie_Trie_With_c0 a2  v0 b4 = some r) : Good Try.prog 48 S0 w0 (bodyPost Try.prog Try.f27 (Post S0 w0 (.one (N_trie_Trie.c r)))) (at_ [1, 1] (bodyOf Try.f27)) ⟨[(0, .one (N_trie_Trie.c v0)), (2, .one (.lit (.int .i64 a2))), (4, .one (.ptr 4 0))], [(4, .box [.lit (.bool b4.fAddr.fV6), .lit (.int .u64 b4.fAddr.fHi), .lit (.int .u64 b4.fAddr.fLo), .lit (.int .i64 b4.fBits)])]⟩ := by
  unfold g_trie_Trie_With_c0 at hf
  cases v0 with
  | nil =>
    dsimp only at hf
    cases hf
  | mk p3_0 p3_1 p3_2 =>
    dsimp only at hf
    obtain ⟨x4, q2, hf⟩ := bind_some' hf
    rcases br_some hf with ⟨h3, hf⟩ | ⟨h3, hf⟩
    · replace hf := Option.some.inj hf
      subst hf
      exact toEnd_good allOk 8 _ _ [⟨[], [], [], [], [], [], []⟩, ⟨[(1, .r (.one (.lit (.bool x4))) [])], [], [], [], [], [], []⟩, ⟨[], [], [], [], [], [], []⟩] [true] [7] [] [] [SCall Try.prog 72 [.agg (T_api_Net.c b4)] (.one (.lit (.bool x4))), (!x4) = true] (by kernel_rfl) rfl ⟨(g_cidr_Right_ok b4 x4 q2), h3, trivial⟩
    · obtain ⟨x5, q4, hf⟩ := bind_some' hf
      rcases br_some hf with ⟨h5, hf⟩ | ⟨h5, hf⟩
      · obtain ⟨x6, q6, hf⟩ := bind_some' hf
        obtain ⟨o7, hf⟩ := need_some hf
        rcases ix2_some o7 hf with ⟨e, hf⟩ | ⟨e, hf⟩
        · subst e
          obtain ⟨x7, q8, hf⟩ := bind_some' hf
          replace hf := Option.some.inj hf
          subst hf
          exact toEnd_good allOk 20 _ _ [⟨[], [], [], [], [], [], []⟩, ⟨[(1, .r (.one (.lit (.bool x4))) [])], [], [], [], [], [], []⟩, ⟨[(2, .r (.tup [(false, (cI .i64) x5.1), (false, cB x5.2)]) [])], [], [], [], [], [], []⟩, ⟨[], [], [], [], [], [], []⟩, ⟨[], [], [], [], [], [], []⟩, ⟨[(2, .r (.one (.lit (.int .i64 (0 : Int)))) [])], [], [], [], [], [], []⟩, ⟨[(10, .r (.one (N_trie_node.c x7)) [])], [], [], [[], [], [], [1], [3, 1], [4, 3, 1, 2], [5, 4, 3, 1, 2], [], [], [7, 8], [6, 5, 4, 3, 1, 2, 9, 7, 8], [], [11, 0, 1, 2, 3, 4, 5, 6, 7, 8, 9, 10], [12, 11, 0, 1, 2, 3, 4, 5, 6, 7, 8, 9, 10]], [], [], []⟩, ⟨[], [], [], [], [], [], []⟩] [false, true] [7] [] [] [SCall Try.prog 72 [.agg (T_api_Net.c b4)] (.one (.lit (.bool x4))), (!x4) = false, SCall Try.prog 20 [.one (N_trie_Trie.c (N_trie_Trie.mk p3_0 p3_1 p3_2)), .agg (T_api_Net.c b4)] (.tup [(false, (cI .i64) x5.1), (false, cB x5.2)]), (!x5.2) = true, SCall Try.prog 73 [.agg (T_api_Addr.c b4.fAddr)] (.one (.lit (.int .i64 (0 : Int)))), 0 ≤ (0 : Int) ∧ (0 : Int) < ((2 : Nat) : Int), SCall Try.prog 82 [.one (N_trie_node.c p3_0), .agg (T_trie_Hit.c (T_trie_Hit.mk b4 a2))] (.one (N_trie_node.c x7)), 0 ≤ (0 : Int) ∧ (0 : Int) < ((2 : Nat) : Int)] (by kernel_rfl) rfl ⟨(g_cidr_Right_ok b4 x4 q2), h3, (g_trie_Trie_Get_ok (N_trie_Trie.mk p3_0 p3_1 p3_2) b4 x5 q4), h5, (g_trie_family_ok b4.fAddr (0 : Int) q6), (by decide), (g_trie_with_ok 1000 p3_0 (T_trie_Hit.mk b4 a2) x7 q8), (by decide), trivial⟩
        · subst e
          obtain ⟨x8, q9, hf⟩ := bind_some' hf
          replace hf := Option.some.inj hf
          subst hf
          exact toEnd_good allOk 20 _ _ [⟨[], [], [], [], [], [], []⟩, ⟨[(1, .r (.one (.lit (.bool x4))) [])], [], [], [], [], [], []⟩, ⟨[(2, .r (.tup [(false, (cI .i64) x5.1), (false, cB x5.2)]) [])], [], [], [], [], [], []⟩, ⟨[], [], [], [], [], [], []⟩, ⟨[], [], [], [], [], [], []⟩, ⟨[(2, .r (.one (.lit (.int .i64 (1 : Int)))) [])], [], [], [], [], [], []⟩, ⟨[(10, .r (.one (N_trie_node.c x8)) [])], [], [], [[], [], [], [1], [3, 1], [4, 3, 1, 2], [5, 4, 3, 1, 2], [], [], [7, 8], [6, 5, 4, 3, 1, 2, 9, 7, 8], [], [11, 0, 1, 2, 3, 4, 5, 6, 7, 8, 9, 10], [12, 11, 0, 1, 2, 3, 4, 5, 6, 7, 8, 9, 10]], [], [], []⟩, ⟨[], [], [], [], [], [], []⟩] [false, true] [7] [] [] [SCall Try.prog 72 [.agg (T_api_Net.c b4)] (.one (.lit (.bool x4))), (!x4) = false, SCall Try.prog 20 [.one (N_trie_Trie.c (N_trie_Trie.mk p3_0 p3_1 p3_2)), .agg (T_api_Net.c b4)] (.tup [(false, (cI .i64) x5.1), (false, cB x5.2)]), (!x5.2) = true, SCall Try.prog 73 [.agg (T_api_Addr.c b4.fAddr)] (.one (.lit (.int .i64 (1 : Int)))), 0 ≤ (1 : Int) ∧ (1 : Int) < ((2 : Nat) : Int), SCall Try.prog 82 [.one (N_trie_node.c p3_1), .agg (T_trie_Hit.c (T_trie_Hit.mk b4 a2))] (.one (N_trie_node.c x8)), 0 ≤ (1 : Int) ∧ (1 : Int) < ((2 : Nat) : Int)] (by kernel_rfl) rfl ⟨(g_cidr_Right_ok b4 x4 q2), h3, (g_trie_Trie_Get_ok (N_trie_Trie.mk p3_0 p3_1 p3_2) b4 x5 q4), h5, (g_trie_family_ok b4.fAddr (1 : Int) q6), (by decide), (g_trie_with_ok 1000 p3_1 (T_trie_Hit.mk b4 a2) x8 q9), (by decide), trivial⟩
      · obtain ⟨x9, q10, hf⟩ := bind_some' hf
        obtain ⟨o11, hf⟩ := need_some hf
        rcases ix2_some o11 hf with ⟨e, hf⟩ | ⟨e, hf⟩
        · subst e
          obtain ⟨x10, q12, hf⟩ := bind_some' hf
          replace hf := Option.some.inj hf
          subst hf
          exact toEnd_good allOk 20 _ _ [⟨[], [], [], [], [], [], []⟩, ⟨[(1, .r (.one (.lit (.bool x4))) [])], [], [], [], [], [], []⟩, ⟨[(2, .r (.tup [(false, (cI .i64) x5.1), (false, cB x5.2)]) [])], [], [], [], [], [], []⟩, ⟨[], [], [], [], [], [], []⟩, ⟨[(2, .r (.one (.lit (.int .i64 (0 : Int)))) [])], [], [], [], [], [], []⟩, ⟨[(10, .r (.one (N_trie_node.c x10)) [])], [], [], [[], [], [], [1], [3, 1], [4, 3, 1, 2], [5, 4, 3, 1, 2], [], [], [7, 8], [6, 5, 4, 3, 1, 2, 9, 7, 8], [], [11, 0, 1, 2, 3, 4, 5, 6, 7, 8, 9, 10], [12, 11, 0, 1, 2, 3, 4, 5, 6, 7, 8, 9, 10]], [], [], []⟩, ⟨[], [], [], [], [], [], []⟩] [false, false] [7] [] [] [SCall Try.prog 72 [.agg (T_api_Net.c b4)] (.one (.lit (.bool x4))), (!x4) = false, SCall Try.prog 20 [.one (N_trie_Trie.c (N_trie_Trie.mk p3_0 p3_1 p3_2)), .agg (T_api_Net.c b4)] (.tup [(false, (cI .i64) x5.1), (false, cB x5.2)]), (!x5.2) = false, SCall Try.prog 73 [.agg (T_api_Addr.c b4.fAddr)] (.one (.lit (.int .i64 (0 : Int)))), 0 ≤ (0 : Int) ∧ (0 : Int) < ((2 : Nat) : Int), SCall Try.prog 82 [.one (N_trie_node.c p3_0), .agg (T_trie_Hit.c (T_trie_Hit.mk b4 a2))] (.one (N_trie_node.c x10)), 0 ≤ (0 : Int) ∧ (0 : Int) < ((2 : Nat) : Int)] (by kernel_rfl) rfl ⟨(g_cidr_Right_ok b4 x4 q2), h3, (g_trie_Trie_Get_ok (N_trie_Trie.mk p3_0 p3_1 p3_2) b4 x5 q4), h5, (g_trie_family_ok b4.fAddr (0 : Int) q10), (by decide), (g_trie_with_ok 1000 p3_0 (T_trie_Hit.mk b4 a2) x10 q12), (by decide), trivial⟩
        · subst e
          obtain ⟨x11, q13, hf⟩ := bind_some' hf
          replace hf := Option.some.inj hf
          subst hf
          exact toEnd_good allOk 20 _ _ [⟨[], [], [], [], [], [], []⟩, ⟨[(1, .r (.one (.lit (.bool x4))) [])], [], [], [], [], [], []⟩, ⟨[(2, .r (.tup [(false, (cI .i64) x5.1), (false, cB x5.2)]) [])], [], [], [], [], [], []⟩, ⟨[], [], [], [], [], [], []⟩, ⟨[(2, .r (.one (.lit (.int .i64 (1 : Int)))) [])], [], [], [], [], [], []⟩, ⟨[(10, .r (.one (N_trie_node.c x11)) [])], [], [], [[], [], [], [1], [3, 1], [4, 3, 1, 2], [5, 4, 3, 1, 2], [], [], [7, 8], [6, 5, 4, 3, 1, 2, 9, 7, 8], [], [11, 0, 1, 2, 3, 4, 5, 6, 7, 8, 9, 10], [12, 11, 0, 1, 2, 3, 4, 5, 6, 7, 8, 9, 10]], [], [], []⟩, ⟨[], [], [], [], [], [], []⟩] [false, false] [7] [] [] [SCall Try.prog 72 [.agg (T_api_Net.c b4)] (.one (.lit (.bool x4))), (!x4) = false, SCall Try.prog 20 [.one (N_trie_Trie.c (N_trie_Trie.mk p3_0 p3_1 p3_2)), .agg (T_api_Net.c b4)] (.tup [(false, (cI .i64) x5.1), (false, cB x5.2)]), (!x5.2) = false, SCall Try.prog 73 [.agg (T_api_Addr.c b4.fAddr)] (.one (.lit (.int .i64 (1 : Int)))), 0 ≤ (1 : Int) ∧ (1 : Int) < ((2 : Nat) : Int), SCall Try.prog 82 [.one (N_trie_node.c p3_1), .agg (T_trie_Hit.c (T_trie_Hit.mk b4 a2))] (.one (N_trie_node.c x11)), 0 ≤ (1 : Int) ∧ (1 : Int) < ((2 : Nat) : Int)] (by kernel_rfl) rfl ⟨(g_cidr_Right_ok b4 x4 q2), h3, (g_trie_Trie_Get_ok (N_trie_Trie.mk p3_0 p3_1 p3_2) b4 x5 q4), h5, (g_trie_family_ok b4.fAddr (1 : Int) q10), (by decide), (g_trie_with_ok 1000 p3_1 (T_trie_Hit.mk b4 a2) x11 q13), (by decide), trivial⟩

/-- (*doorman/trie.Trie).With -/
def g_trie_Trie_With (a0 : N_trie_Trie) (a1 : T_api_Net) (a2 : Int) : Option N_trie_Trie :=
  (match a0 with
  | .nil =>
    (g_trie_New).bind fun x2 =>
    g_trie_Trie_With_c0 a2  x2 a1
  | .mk p1_0 p1_1 p1_2 =>
    g_trie_Trie_With_c0 a2  (N_trie_Trie.mk p1_0 p1_1 p1_2) a1)

theorem g_trie_Trie_With_ok (a0 : N_trie_Trie) (a1 : T_api_Net) (a2 : Int) (r : N_trie_Trie) (hf : g_trie_Trie_With a0 a1 a2 = some r) : SCall Try.prog 27 [.one (N_trie_Trie.c a0), .agg (T_api_Net.c a1), .one (.lit (.int .i64 a2))] (.one (N_trie_Trie.c r)) := by
  refine SCall.of Try.func27 rfl rfl rfl rfl fun S0 w0 => ?_
  unfold g_trie_Trie_With at hf
  cases a0 with
  | nil =>
    dsimp only at hf
    obtain ⟨x2, q1, hf⟩ := bind_some' hf
    exact toK_good allOk Post.ends 7 _ _ _ _ [⟨[], [], [], [], [], [], []⟩, ⟨[], [], [], [], [], [], []⟩, ⟨[(0, .r (.one (N_trie_Trie.c x2)) [])], [], [], [], [], [], []⟩] [true] ⟨[], [], [], [], [], [0, 2, 4], [4], []⟩ [true = true, SCall Try.prog 16 [] (.one (N_trie_Trie.c x2))] (by kernel_rfl) ⟨rfl, (g_trie_New_ok  x2 q1), trivial⟩ (g_trie_Trie_With_c0_ok S0 w0 a2   x2 a1 r hf)
  | mk p1_0 p1_1 p1_2 =>
    dsimp only at hf
    exact toK_good allOk Post.ends 7 _ _ _ _ [⟨[], [], [], [], [], [], []⟩, ⟨[], [], [], [], [], [], []⟩] [false] ⟨[], [], [], [], [], [0, 2, 4], [4], []⟩ [false = false] (by kernel_rfl) ⟨rfl, trivial⟩ (g_trie_Trie_With_c0_ok S0 w0 a2   (N_trie_Trie.mk p1_0 p1_1 p1_2) a1 r hf)

def g_bans_index_c0 (a1 : Int)  : Nat → N_trie_Trie → (List T_api_Ban) → Int → Int → Option N_trie_Trie
  | 0, _, _, _, _ => none
  | fu + 1, v5, v11, v12, v13 =>
    bif (decide (v13 < v12)) then
      need (0 ≤ v13 ∧ v13 < ((v11.length : Nat) : Int)) <|
      (g_trie_Trie_Get v5 ((v11.getD v13.toNat T_api_Ban.d).fNet)).bind fun x2 =>
      (g_ban_Lives (v11.getD v13.toNat T_api_Ban.d) a1).bind fun x3 =>
      bif x3 then
        bif (!x2.2) then
          (g_trie_Trie_With v5 ((v11.getD v13.toNat T_api_Ban.d).fNet) ((v11.getD v13.toNat T_api_Ban.d).fUntil)).bind fun x4 =>
          g_bans_index_c0 a1  fu x4 v11 v12 (add64 v13 (1 : Int))
        else
          bif (decide (x2.1 < (v11.getD v13.toNat T_api_Ban.d).fUntil)) then
            (g_trie_Trie_With v5 ((v11.getD v13.toNat T_api_Ban.d).fNet) ((v11.getD v13.toNat T_api_Ban.d).fUntil)).bind fun x5 =>
            g_bans_index_c0 a1  fu x5 v11 v12 (add64 v13 (1 : Int))
          else
            g_bans_index_c0 a1  fu v5 v11 v12 (add64 v13 (1 : Int))
      else
        g_bans_index_c0 a1  fu v5 v11 v12 (add64 v13 (1 : Int))
    else
      some v5

theorem g_bans_index_c0_ok (S0 : Nat → Prop) (w0 : Start) (a1 : Int)  : ∀ (fu : Nat) (v5 : N_trie_Trie) (v11 : (List T_api_Ban)) (v12 : Int) (v13 : Int) (r : N_trie_Trie), g_bans_index_c0 a1  fu v5 v11 v12 v13 = some r → Good Try.prog 45 S0 w0 (bodyPost Try.prog Try.f95 (Post S0 w0 (.one (N_trie_Trie.c r)))) (at_ [1, 1, 0, 1, 0] (bodyOf Try.f95)) ⟨[(1, .one (.lit (.int .i64 a1))), (5, .one (N_trie_Trie.c v5)), (11, .one (cL 5 T_api_Ban.c T_api_Ban.d v11)), (12, .one (.lit (.int .i64 v12))), (13, .one (.lit (.int .i64 v13)))], []⟩ := by
  intro fu
  induction fu with
  | zero =>
    intro v5 v11 v12 v13 r hf
    simp [g_bans_index_c0] at hf
  | succ fu ih =>
    intro v5 v11 v12 v13 r hf
    unfold g_bans_index_c0 at hf
    rcases br_some hf with ⟨h2, hf⟩ | ⟨h2, hf⟩
    · obtain ⟨o3, hf⟩ := need_some hf
      obtain ⟨x2, q4, hf⟩ := bind_some' hf
      obtain ⟨x3, q5, hf⟩ := bind_some' hf
      rcases br_some hf with ⟨h6, hf⟩ | ⟨h6, hf⟩
      · rcases br_some hf with ⟨h7, hf⟩ | ⟨h7, hf⟩
        · obtain ⟨x4, q8, hf⟩ := bind_some' hf
          exact toK_good allOk Post.ends 19 _ _ _ _ [⟨[], [], [], [], [], [], []⟩, ⟨[], [], [], [], [], [], []⟩, ⟨[(3, .r (.tup [(false, (cI .i64) x2.1), (false, cB x2.2)]) [])], [], [], [], [], [], []⟩, ⟨[(2, .r (.one (.lit (.bool x3))) [])], [(3, true), (6, true)], [], [], [], [], []⟩, ⟨[(5, .r (.one (N_trie_Trie.c x4)) [])], [], [], [], [], [], []⟩, ⟨[], [], [], [], [], [], []⟩] [true, true] ⟨[], [], [], [], [], [1, 5, 11, 12, 13], [], []⟩ [(decide (v13 < v12)) = true, 0 ≤ v13 ∧ v13 < ((v11.length : Nat) : Int), SCall Try.prog 20 [.one (N_trie_Trie.c v5), .agg (T_api_Net.c ((v11.getD v13.toNat T_api_Ban.d).fNet))] (.tup [(false, (cI .i64) x2.1), (false, cB x2.2)]), SCall Try.prog 96 [.agg (T_api_Ban.c (v11.getD v13.toNat T_api_Ban.d)), .one (.lit (.int .i64 a1))] (.one (.lit (.bool x3))), x3 = true, (!x2.2) = true, true = true, SCall Try.prog 27 [.one (N_trie_Trie.c v5), .agg (T_api_Net.c ((v11.getD v13.toNat T_api_Ban.d).fNet)), .one (.lit (.int .i64 ((v11.getD v13.toNat T_api_Ban.d).fUntil)))] (.one (N_trie_Trie.c x4))] (by kernel_rfl) ⟨h2, o3, (g_trie_Trie_Get_ok v5 ((v11.getD v13.toNat T_api_Ban.d).fNet) x2 q4), (g_ban_Lives_ok (v11.getD v13.toNat T_api_Ban.d) a1 x3 q5), h6, h7, rfl, (g_trie_Trie_With_ok v5 ((v11.getD v13.toNat T_api_Ban.d).fNet) ((v11.getD v13.toNat T_api_Ban.d).fUntil) x4 q8), trivial⟩ (ih x4 v11 v12 (add64 v13 (1 : Int)) r hf)
        · rcases br_some hf with ⟨h9, hf⟩ | ⟨h9, hf⟩
          · obtain ⟨x5, q10, hf⟩ := bind_some' hf
            exact toK_good allOk Post.ends 19 _ _ _ _ [⟨[], [], [], [], [], [], []⟩, ⟨[], [], [], [], [], [], []⟩, ⟨[(3, .r (.tup [(false, (cI .i64) x2.1), (false, cB x2.2)]) [])], [], [], [], [], [], []⟩, ⟨[(2, .r (.one (.lit (.bool x3))) [])], [(3, true), (6, false)], [], [], [], [], []⟩, ⟨[(5, .r (.one (N_trie_Trie.c x5)) [])], [], [], [], [], [], []⟩, ⟨[], [], [], [], [], [], []⟩] [true, true] ⟨[], [], [], [], [], [1, 5, 11, 12, 13], [], []⟩ [(decide (v13 < v12)) = true, 0 ≤ v13 ∧ v13 < ((v11.length : Nat) : Int), SCall Try.prog 20 [.one (N_trie_Trie.c v5), .agg (T_api_Net.c ((v11.getD v13.toNat T_api_Ban.d).fNet))] (.tup [(false, (cI .i64) x2.1), (false, cB x2.2)]), SCall Try.prog 96 [.agg (T_api_Ban.c (v11.getD v13.toNat T_api_Ban.d)), .one (.lit (.int .i64 a1))] (.one (.lit (.bool x3))), x3 = true, (!x2.2) = false, (decide (x2.1 < (v11.getD v13.toNat T_api_Ban.d).fUntil)) = true, SCall Try.prog 27 [.one (N_trie_Trie.c v5), .agg (T_api_Net.c ((v11.getD v13.toNat T_api_Ban.d).fNet)), .one (.lit (.int .i64 ((v11.getD v13.toNat T_api_Ban.d).fUntil)))] (.one (N_trie_Trie.c x5))] (by kernel_rfl) ⟨h2, o3, (g_trie_Trie_Get_ok v5 ((v11.getD v13.toNat T_api_Ban.d).fNet) x2 q4), (g_ban_Lives_ok (v11.getD v13.toNat T_api_Ban.d) a1 x3 q5), h6, h7, h9, (g_trie_Trie_With_ok v5 ((v11.getD v13.toNat T_api_Ban.d).fNet) ((v11.getD v13.toNat T_api_Ban.d).fUntil) x5 q10), trivial⟩ (ih x5 v11 v12 (add64 v13 (1 : Int)) r hf)
          · exact toK_good allOk Post.ends 19 _ _ _ _ [⟨[], [], [], [], [], [], []⟩, ⟨[], [], [], [], [], [], []⟩, ⟨[(3, .r (.tup [(false, (cI .i64) x2.1), (false, cB x2.2)]) [])], [], [], [], [], [], []⟩, ⟨[(2, .r (.one (.lit (.bool x3))) [])], [(3, true), (6, false)], [], [], [], [], []⟩, ⟨[], [], [], [], [], [], []⟩] [true, false] ⟨[], [], [], [], [], [1, 5, 11, 12, 13], [], []⟩ [(decide (v13 < v12)) = true, 0 ≤ v13 ∧ v13 < ((v11.length : Nat) : Int), SCall Try.prog 20 [.one (N_trie_Trie.c v5), .agg (T_api_Net.c ((v11.getD v13.toNat T_api_Ban.d).fNet))] (.tup [(false, (cI .i64) x2.1), (false, cB x2.2)]), SCall Try.prog 96 [.agg (T_api_Ban.c (v11.getD v13.toNat T_api_Ban.d)), .one (.lit (.int .i64 a1))] (.one (.lit (.bool x3))), x3 = true, (!x2.2) = false, (decide (x2.1 < (v11.getD v13.toNat T_api_Ban.d).fUntil)) = false] (by kernel_rfl) ⟨h2, o3, (g_trie_Trie_Get_ok v5 ((v11.getD v13.toNat T_api_Ban.d).fNet) x2 q4), (g_ban_Lives_ok (v11.getD v13.toNat T_api_Ban.d) a1 x3 q5), h6, h7, h9, trivial⟩ (ih v5 v11 v12 (add64 v13 (1 : Int)) r hf)
      · exact toK_good allOk Post.ends 19 _ _ _ _ [⟨[], [], [], [], [], [], []⟩, ⟨[], [], [], [], [], [], []⟩, ⟨[(3, .r (.tup [(false, (cI .i64) x2.1), (false, cB x2.2)]) [])], [], [], [], [], [], []⟩, ⟨[(2, .r (.one (.lit (.bool x3))) [])], [(3, false)], [], [], [], [], []⟩, ⟨[], [], [], [], [], [], []⟩] [true, false] ⟨[], [], [], [], [], [1, 5, 11, 12, 13], [], []⟩ [(decide (v13 < v12)) = true, 0 ≤ v13 ∧ v13 < ((v11.length : Nat) : Int), SCall Try.prog 20 [.one (N_trie_Trie.c v5), .agg (T_api_Net.c ((v11.getD v13.toNat T_api_Ban.d).fNet))] (.tup [(false, (cI .i64) x2.1), (false, cB x2.2)]), SCall Try.prog 96 [.agg (T_api_Ban.c (v11.getD v13.toNat T_api_Ban.d)), .one (.lit (.int .i64 a1))] (.one (.lit (.bool x3))), x3 = false, false = false] (by kernel_rfl) ⟨h2, o3, (g_trie_Trie_Get_ok v5 ((v11.getD v13.toNat T_api_Ban.d).fNet) x2 q4), (g_ban_Lives_ok (v11.getD v13.toNat T_api_Ban.d) a1 x3 q5), h6, rfl, trivial⟩ (ih v5 v11 v12 (add64 v13 (1 : Int)) r hf)
    · replace hf := Option.some.inj hf
      subst hf
      exact toEnd_good allOk 8 _ _ [⟨[], [], [], [], [], [], []⟩, ⟨[], [], [], [], [], [], []⟩] [false] [] [] [] [(decide (v13 < v12)) = false] (by kernel_rfl) rfl ⟨h2, trivial⟩

/-- doorman/bans.index -/
def g_bans_index (a0 : (List T_api_Ban)) (a1 : Int) : Option N_trie_Trie :=
  (g_trie_New).bind fun x1 =>
  g_bans_index_c0 a1  ((((a0.length : Nat) : Int) - (0 : Int)).toNat + 2) x1 a0 ((a0.length : Nat) : Int) (0 : Int)

theorem g_bans_index_ok (a0 : (List T_api_Ban)) (a1 : Int) (r : N_trie_Trie) (hf : g_bans_index a0 a1 = some r) : SCall Try.prog 95 [.one (cL 5 T_api_Ban.c T_api_Ban.d a0), .one (.lit (.int .i64 a1))] (.one (N_trie_Trie.c r)) := by
  refine SCall.of Try.func95 rfl rfl rfl rfl fun S0 w0 => ?_
  unfold g_bans_index at hf
  obtain ⟨x1, q1, hf⟩ := bind_some' hf
  exact toK_good allOk Post.ends 8 _ _ _ _ [⟨[], [], [], [], [], [], []⟩, ⟨[(0, .r (.one (N_trie_Trie.c x1)) [])], [], [], [], [], [], []⟩, ⟨[], [], [], [], [], [], []⟩] [] ⟨[], [], [], [], [], [1, 5, 11, 12, 13], [], []⟩ [SCall Try.prog 16 [] (.one (N_trie_Trie.c x1))] (by kernel_rfl) ⟨(g_trie_New_ok  x1 q1), trivial⟩ (g_bans_index_c0_ok S0 w0 a1   ((((a0.length : Nat) : Int) - (0 : Int)).toNat + 2) x1 a0 ((a0.length : Nat) : Int) (0 : Int) r hf)

/-- doorman/cidr.Has -/
def g_cidr_Has (a0 : T_api_Net) (a1 : T_api_Addr) : Option Bool :=
  (g_cidr_Right a0).bind fun x1 =>
  bif x1 then
    (g_addr_Right a1).bind fun x2 =>
    bif x2 then
      bif (a0.fAddr.fV6 == a1.fV6) then
        (g_cidr_Mask a1 a0.fBits).bind fun x3 =>
        some (decide (x3 = a0.fAddr))
      else
        some false
    else
      some false
  else
    some false

theorem g_cidr_Has_ok (a0 : T_api_Net) (a1 : T_api_Addr) (r : Bool) (hf : g_cidr_Has a0 a1 = some r) : SCall Try.prog 78 [.agg (T_api_Net.c a0), .agg (T_api_Addr.c a1)] (.one (.lit (.bool r))) := by
  refine SCall.of Try.func78 rfl rfl rfl rfl fun S0 w0 => ?_
  unfold g_cidr_Has at hf
  obtain ⟨x1, q1, hf⟩ := bind_some' hf
  rcases br_some hf with ⟨h2, hf⟩ | ⟨h2, hf⟩
  · obtain ⟨x2, q3, hf⟩ := bind_some' hf
    rcases br_some hf with ⟨h4, hf⟩ | ⟨h4, hf⟩
    · rcases br_some hf with ⟨h5, hf⟩ | ⟨h5, hf⟩
      · obtain ⟨x3, q6, hf⟩ := bind_some' hf
        replace hf := Option.some.inj hf
        subst hf
        exact toEnd_good allOk 4 _ _ [⟨[], [], [], [], [], [], []⟩, ⟨[(1, .r (.one (.lit (.bool x1))) []), (4, .r (.one (.lit (.bool x2))) []), (18, .r (.agg (T_api_Addr.c x3)) []), (21, .r (.one (.lit (.bool (decide (x3 = a0.fAddr))))) [])], [(2, true), (6, true), (14, true)], [], [[], [0], [1, 0], [2, 1, 0], [3, 2, 1, 0], [2, 1, 0, 4, 3], [5, 2, 1, 0, 4, 3], [6, 5, 2, 1, 0, 4, 3], [7, 6, 5, 2, 1, 0, 4, 3], [8, 7, 6, 5, 2, 1, 0, 4, 3], [6, 5, 2, 1, 0, 4, 3], [10, 6, 5, 2, 1, 0, 4, 3], [9, 8, 7, 6, 5, 2, 1, 0, 4, 3, 11, 10], [6, 5, 2, 1, 0, 4, 3, 12, 9, 8, 7, 11, 10], [13, 6, 5, 2, 1, 0, 4, 3, 12, 9, 8, 7, 11, 10], [14, 13, 6, 5, 2, 1, 0, 4, 3, 12, 9, 8, 7, 11, 10], [14, 13, 6, 5, 2, 1, 0, 4, 3, 12, 9, 8, 7, 11, 10], [16, 14, 13, 6, 5, 2, 1, 0, 4, 3, 12, 9, 8, 7, 11, 10], [15, 14, 13, 6, 5, 2, 1, 0, 4, 3, 12, 9, 8, 7, 11, 10, 17, 16], [14, 13, 6, 5, 2, 1, 0, 4, 3, 12, 9, 8, 7, 11, 10], [19, 14, 13, 6, 5, 2, 1, 0, 4, 3, 12, 9, 8, 7, 11, 10], [18, 15, 14, 13, 6, 5, 2, 1, 0, 4, 3, 12, 9, 8, 7, 11, 10, 17, 16, 20, 19], [14, 13, 6, 5, 2, 1, 0, 4, 3, 12, 9, 8, 7, 11, 10, 21, 18, 15, 17, 16, 20, 19], [22, 14, 13, 6, 5, 2, 1, 0, 4, 3, 12, 9, 8, 7, 11, 10, 21, 18, 15, 17, 16, 20, 19]], [], [], []⟩] [] [] [] [] [SCall Try.prog 72 [.agg (T_api_Net.c a0)] (.one (.lit (.bool x1))), x1 = true, SCall Try.prog 77 [.agg (T_api_Addr.c a1)] (.one (.lit (.bool x2))), x2 = true, (a0.fAddr.fV6 == a1.fV6) = true, SCall Try.prog 129 [.agg (T_api_Addr.c a1), .one (.lit (.int .i64 a0.fBits))] (.agg (T_api_Addr.c x3)), ∀ w, (do eqGuard .eql 25 (.tmp 23) (.tmp 25) (.agg #[.bool x3.fV6, .int .u64 x3.fHi, .int .u64 x3.fLo]) (.agg #[.bool a0.fAddr.fV6, .int .u64 a0.fAddr.fHi, .int .u64 a0.fAddr.fLo]); binOp .eql 25 (.agg #[.bool x3.fV6, .int .u64 x3.fHi, .int .u64 x3.fLo]) (.agg #[.bool a0.fAddr.fV6, .int .u64 a0.fAddr.fHi, .int .u64 a0.fAddr.fLo]) : Sem Value).run Try.prog w = .ok (.bool (decide (x3 = a0.fAddr))) w] (by kernel_rfl) rfl ⟨(g_cidr_Right_ok a0 x1 q1), h2, (g_addr_Right_ok a1 x2 q3), h4, h5, (g_cidr_Mask_ok a1 a0.fBits x3 q6), (eql_T_api_Addr x3 a0.fAddr _ _), trivial⟩
      · replace hf := Option.some.inj hf
        subst hf
        exact toEnd_good allOk 4 _ _ [⟨[], [], [], [], [], [], []⟩, ⟨[(1, .r (.one (.lit (.bool x1))) []), (4, .r (.one (.lit (.bool x2))) [])], [(2, true), (6, true), (14, false)], [], [[], [0], [1, 0], [2, 1, 0], [3, 2, 1, 0], [2, 1, 0, 4, 3], [5, 2, 1, 0, 4, 3], [6, 5, 2, 1, 0, 4, 3], [7, 6, 5, 2, 1, 0, 4, 3], [8, 7, 6, 5, 2, 1, 0, 4, 3], [6, 5, 2, 1, 0, 4, 3], [10, 6, 5, 2, 1, 0, 4, 3], [9, 8, 7, 6, 5, 2, 1, 0, 4, 3, 11, 10], [6, 5, 2, 1, 0, 4, 3, 12, 9, 8, 7, 11, 10], [13, 6, 5, 2, 1, 0, 4, 3, 12, 9, 8, 7, 11, 10], [14, 13, 6, 5, 2, 1, 0, 4, 3, 12, 9, 8, 7, 11, 10], [14, 13, 6, 5, 2, 1, 0, 4, 3, 12, 9, 8, 7, 11, 10], [16, 14, 13, 6, 5, 2, 1, 0, 4, 3, 12, 9, 8, 7, 11, 10], [15, 14, 13, 6, 5, 2, 1, 0, 4, 3, 12, 9, 8, 7, 11, 10, 17, 16], [14, 13, 6, 5, 2, 1, 0, 4, 3, 12, 9, 8, 7, 11, 10], [19, 14, 13, 6, 5, 2, 1, 0, 4, 3, 12, 9, 8, 7, 11, 10], [18, 15, 14, 13, 6, 5, 2, 1, 0, 4, 3, 12, 9, 8, 7, 11, 10, 17, 16, 20, 19], [14, 13, 6, 5, 2, 1, 0, 4, 3, 12, 9, 8, 7, 11, 10, 21, 18, 15, 17, 16, 20, 19], [22, 14, 13, 6, 5, 2, 1, 0, 4, 3, 12, 9, 8, 7, 11, 10, 21, 18, 15, 17, 16, 20, 19]], [], [], []⟩] [] [] [] [] [SCall Try.prog 72 [.agg (T_api_Net.c a0)] (.one (.lit (.bool x1))), x1 = true, SCall Try.prog 77 [.agg (T_api_Addr.c a1)] (.one (.lit (.bool x2))), x2 = true, (a0.fAddr.fV6 == a1.fV6) = false] (by kernel_rfl) rfl ⟨(g_cidr_Right_ok a0 x1 q1), h2, (g_addr_Right_ok a1 x2 q3), h4, h5, trivial⟩
    · replace hf := Option.some.inj hf
      subst hf
      exact toEnd_good allOk 4 _ _ [⟨[], [], [], [], [], [], []⟩, ⟨[(1, .r (.one (.lit (.bool x1))) []), (4, .r (.one (.lit (.bool x2))) [])], [(2, true), (6, false)], [], [[], [0], [1, 0], [2, 1, 0], [3, 2, 1, 0], [2, 1, 0, 4, 3], [5, 2, 1, 0, 4, 3], [6, 5, 2, 1, 0, 4, 3], [7, 6, 5, 2, 1, 0, 4, 3], [8, 7, 6, 5, 2, 1, 0, 4, 3], [6, 5, 2, 1, 0, 4, 3], [10, 6, 5, 2, 1, 0, 4, 3], [9, 8, 7, 6, 5, 2, 1, 0, 4, 3, 11, 10], [6, 5, 2, 1, 0, 4, 3, 12, 9, 8, 7, 11, 10], [13, 6, 5, 2, 1, 0, 4, 3, 12, 9, 8, 7, 11, 10], [14, 13, 6, 5, 2, 1, 0, 4, 3, 12, 9, 8, 7, 11, 10], [14, 13, 6, 5, 2, 1, 0, 4, 3, 12, 9, 8, 7, 11, 10], [16, 14, 13, 6, 5, 2, 1, 0, 4, 3, 12, 9, 8, 7, 11, 10], [15, 14, 13, 6, 5, 2, 1, 0, 4, 3, 12, 9, 8, 7, 11, 10, 17, 16], [14, 13, 6, 5, 2, 1, 0, 4, 3, 12, 9, 8, 7, 11, 10], [19, 14, 13, 6, 5, 2, 1, 0, 4, 3, 12, 9, 8, 7, 11, 10], [18, 15, 14, 13, 6, 5, 2, 1, 0, 4, 3, 12, 9, 8, 7, 11, 10, 17, 16, 20, 19], [14, 13, 6, 5, 2, 1, 0, 4, 3, 12, 9, 8, 7, 11, 10, 21, 18, 15, 17, 16, 20, 19], [22, 14, 13, 6, 5, 2, 1, 0, 4, 3, 12, 9, 8, 7, 11, 10, 21, 18, 15, 17, 16, 20, 19]], [], [], []⟩] [] [] [] [] [SCall Try.prog 72 [.agg (T_api_Net.c a0)] (.one (.lit (.bool x1))), x1 = true, SCall Try.prog 77 [.agg (T_api_Addr.c a1)] (.one (.lit (.bool x2))), x2 = false] (by kernel_rfl) rfl ⟨(g_cidr_Right_ok a0 x1 q1), h2, (g_addr_Right_ok a1 x2 q3), h4, trivial⟩
  · replace hf := Option.some.inj hf
    subst hf
    exact toEnd_good allOk 4 _ _ [⟨[], [], [], [], [], [], []⟩, ⟨[(1, .r (.one (.lit (.bool x1))) [])], [(2, false)], [], [[], [0], [1, 0], [2, 1, 0], [3, 2, 1, 0], [2, 1, 0, 4, 3], [5, 2, 1, 0, 4, 3], [6, 5, 2, 1, 0, 4, 3], [7, 6, 5, 2, 1, 0, 4, 3], [8, 7, 6, 5, 2, 1, 0, 4, 3], [6, 5, 2, 1, 0, 4, 3], [10, 6, 5, 2, 1, 0, 4, 3], [9, 8, 7, 6, 5, 2, 1, 0, 4, 3, 11, 10], [6, 5, 2, 1, 0, 4, 3, 12, 9, 8, 7, 11, 10], [13, 6, 5, 2, 1, 0, 4, 3, 12, 9, 8, 7, 11, 10], [14, 13, 6, 5, 2, 1, 0, 4, 3, 12, 9, 8, 7, 11, 10], [14, 13, 6, 5, 2, 1, 0, 4, 3, 12, 9, 8, 7, 11, 10], [16, 14, 13, 6, 5, 2, 1, 0, 4, 3, 12, 9, 8, 7, 11, 10], [15, 14, 13, 6, 5, 2, 1, 0, 4, 3, 12, 9, 8, 7, 11, 10, 17, 16], [14, 13, 6, 5, 2, 1, 0, 4, 3, 12, 9, 8, 7, 11, 10], [19, 14, 13, 6, 5, 2, 1, 0, 4, 3, 12, 9, 8, 7, 11, 10], [18, 15, 14, 13, 6, 5, 2, 1, 0, 4, 3, 12, 9, 8, 7, 11, 10, 17, 16, 20, 19], [14, 13, 6, 5, 2, 1, 0, 4, 3, 12, 9, 8, 7, 11, 10, 21, 18, 15, 17, 16, 20, 19], [22, 14, 13, 6, 5, 2, 1, 0, 4, 3, 12, 9, 8, 7, 11, 10, 21, 18, 15, 17, 16, 20, 19]], [], [], []⟩] [] [] [] [] [SCall Try.prog 72 [.agg (T_api_Net.c a0)] (.one (.lit (.bool x1))), x1 = false] (by kernel_rfl) rfl ⟨(g_cidr_Right_ok a0 x1 q1), h2, trivial⟩

def g_trie_Trie_Cover_c0   : Nat → N_trie_node → (List T_trie_Hit) → T_api_Addr → Option (List T_trie_Hit)
  | 0, _, _, _ => none
  | fu + 1, v6, w5, b3 =>
    (match v6 with
    | .nil =>
      some w5
    | .mk p4_0 p4_1 p4_2 p4_3 =>
      (g_cidr_Has p4_0.fNet b3).bind fun x5 =>
      bif x5 then
        bif p4_1 then
          need ((w5 ++ ([p4_0] : List T_trie_Hit)).length * 40 ≤ 140737488355328 ∧ (w5 ++ ([p4_0] : List T_trie_Hit)).length ≤ maxLen) <|
          (g_addr_Bit b3 p4_0.fNet.fBits).bind fun x6 =>
          need (0 ≤ x6 ∧ x6 < ((2 : Nat) : Int)) <|
          ix2 x6 (
            g_trie_Trie_Cover_c0   fu p4_2 (w5 ++ ([p4_0] : List T_trie_Hit)) b3) (
            g_trie_Trie_Cover_c0   fu p4_3 (w5 ++ ([p4_0] : List T_trie_Hit)) b3)
        else
          (g_addr_Bit b3 p4_0.fNet.fBits).bind fun x7 =>
          need (0 ≤ x7 ∧ x7 < ((2 : Nat) : Int)) <|
          ix2 x7 (
            g_trie_Trie_Cover_c0   fu p4_2 w5 b3) (
            g_trie_Trie_Cover_c0   fu p4_3 w5 b3)
      else
        some w5)

theorem g_trie_Trie_Cover_c0_ok (S0 : Nat → Prop) (w0 : Start)   : ∀ (fu : Nat) (v6 : N_trie_node) (w5 : (List T_trie_Hit)) (b3 : T_api_Addr) (r : (List T_trie_Hit)), g_trie_Trie_Cover_c0   fu v6 w5 b3 = some r → Good Try.prog 57 S0 w0 (bodyPost Try.prog Try.f25 (HPost S0 w0 [(99999, .rows 48 5 r.length (rowsOf T_trie_Hit.c T_trie_Hit.d r))] (.one (.osl 99999 r.length)))) (at_ [1, 1, 1, 1, 0, 0] (bodyOf Try.f25)) ⟨[(3, .one (.ptr 3 0)), (5, .one (.osl 5 w5.length)), (6, .one (N_trie_node.c v6))], [(5, .rows 48 5 w5.length (rowsOf T_trie_Hit.c T_trie_Hit.d w5)), (3, .box [.lit (.bool b3.fV6), .lit (.int .u64 b3.fHi), .lit (.int .u64 b3.fLo)])]⟩ := by
  intro fu
  induction fu with
  | zero =>
    intro v6 w5 b3 r hf
    simp [g_trie_Trie_Cover_c0] at hf
  | succ fu ih =>
    intro v6 w5 b3 r hf
    unfold g_trie_Trie_Cover_c0 at hf
    cases v6 with
    | nil =>
      dsimp only at hf
      replace hf := Option.some.inj hf
      subst hf
      exact toEndH_good allOk 8 _ _ [⟨[], [], [], [[], [0], [1, 0], [2, 1, 0], [3, 2, 1, 0], [4, 3, 2, 1, 0], [5, 4, 3, 2, 1, 0], [6, 5, 4, 3, 2, 1, 0], [2, 1, 0], [7, 6, 5, 4, 3, 2, 1, 0, 8], [2, 1, 0, 9, 7, 6, 5, 4, 3, 8]], [], [], []⟩, ⟨[], [], [], [], [], [], []⟩] [false] ⟨[], [], [], [], [], [4], [5], [(5, 99999)]⟩ [false = false] (by kernel_rfl) ⟨rfl, trivial⟩
    | mk p4_0 p4_1 p4_2 p4_3 =>
      dsimp only at hf
      obtain ⟨x5, q5, hf⟩ := bind_some' hf
      rcases br_some hf with ⟨h6, hf⟩ | ⟨h6, hf⟩
      · rcases br_some hf with ⟨h7, hf⟩ | ⟨h7, hf⟩
        · obtain ⟨o8, hf⟩ := need_some hf
          obtain ⟨x6, q9, hf⟩ := bind_some' hf
          obtain ⟨o10, hf⟩ := need_some hf
          rcases ix2_some o10 hf with ⟨e, hf⟩ | ⟨e, hf⟩
          · subst e
            exact toK_good allOk HPost.ends 15 _ _ _ _ [⟨[(9, .r (.one (.lit (.bool x5))) [])], [], [], [[], [0], [1, 0], [2, 1, 0], [3, 2, 1, 0], [4, 3, 2, 1, 0], [5, 4, 3, 2, 1, 0], [6, 5, 4, 3, 2, 1, 0], [2, 1, 0], [7, 6, 5, 4, 3, 2, 1, 0, 8], [2, 1, 0, 9, 7, 6, 5, 4, 3, 8]], [], [], []⟩, ⟨[], [], [], [], [], [], []⟩, ⟨[(6, .c ((w5 ++ ([p4_0] : List T_trie_Hit)).length) (rowsOf T_trie_Hit.c T_trie_Hit.d (w5 ++ ([p4_0] : List T_trie_Hit))))], [], [], [], [], [(5, (([p4_0] : List T_trie_Hit).length, rowsOf T_trie_Hit.c T_trie_Hit.d ([p4_0] : List T_trie_Hit)))], []⟩, ⟨[(8, .r (.one (.lit (.int .i64 (0 : Int)))) [])], [], [], [[], [], [], [2], [3, 2], [4, 3, 2], [5, 4, 3, 2], [6, 5, 4, 3, 2], [1, 7, 6, 5, 4, 3, 2], [0], [9, 0], [10, 9, 0, 8, 1, 7, 6, 5, 4, 3, 2], [11, 10, 9, 0, 8, 1, 7, 6, 5, 4, 3, 2], [12, 11, 10, 9, 0, 8, 1, 7, 6, 5, 4, 3, 2]], [], [], []⟩] [true, true] ⟨[], [], [], [], [], [3, 5, 6], [42, 3], [(42, 5)]⟩ [SCall Try.prog 78 [.agg (T_api_Net.c p4_0.fNet), .agg (T_api_Addr.c b3)] (.one (.lit (.bool x5))), x5 = true, p4_1 = true, ([p4_0] : List T_trie_Hit).length = 1 ∧ ∀ i j, i < 1 → j < 5 → rowsOf T_trie_Hit.c T_trie_Hit.d ([p4_0] : List T_trie_Hit) i j = (([p4_0] : List T_trie_Hit).flatMap T_trie_Hit.c).getD (i * 5 + j) .junk, Ext 5 w5.length (([p4_0] : List T_trie_Hit).length) (rowsOf T_trie_Hit.c T_trie_Hit.d w5) (rowsOf T_trie_Hit.c T_trie_Hit.d ([p4_0] : List T_trie_Hit)) ((w5 ++ ([p4_0] : List T_trie_Hit)).length) (rowsOf T_trie_Hit.c T_trie_Hit.d (w5 ++ ([p4_0] : List T_trie_Hit))), (w5 ++ ([p4_0] : List T_trie_Hit)).length * 40 ≤ 140737488355328, (w5 ++ ([p4_0] : List T_trie_Hit)).length ≤ maxLen, SCall Try.prog 79 [.agg (T_api_Addr.c b3), .one (.lit (.int .i64 p4_0.fNet.fBits))] (.one (.lit (.int .i64 (0 : Int)))), 0 ≤ (0 : Int) ∧ (0 : Int) < ((2 : Nat) : Int)] (by kernel_rfl) ⟨(g_cidr_Has_ok p4_0.fNet b3 x5 q5), h6, h7, ⟨rfl, fun i j hi hj => rows_flat (sz := 5) (e := T_trie_Hit.c) (d := T_trie_Hit.d) (fun _ => rfl) ([p4_0] : List T_trie_Hit) i j hi hj⟩, (ext_app _ _), o8.1, o8.2, (g_addr_Bit_ok b3 p4_0.fNet.fBits (0 : Int) q9), (by decide), trivial⟩ (ih p4_2 (w5 ++ ([p4_0] : List T_trie_Hit)) b3 r hf)
          · subst e
            exact toK_good allOk HPost.ends 15 _ _ _ _ [⟨[(9, .r (.one (.lit (.bool x5))) [])], [], [], [[], [0], [1, 0], [2, 1, 0], [3, 2, 1, 0], [4, 3, 2, 1, 0], [5, 4, 3, 2, 1, 0], [6, 5, 4, 3, 2, 1, 0], [2, 1, 0], [7, 6, 5, 4, 3, 2, 1, 0, 8], [2, 1, 0, 9, 7, 6, 5, 4, 3, 8]], [], [], []⟩, ⟨[], [], [], [], [], [], []⟩, ⟨[(6, .c ((w5 ++ ([p4_0] : List T_trie_Hit)).length) (rowsOf T_trie_Hit.c T_trie_Hit.d (w5 ++ ([p4_0] : List T_trie_Hit))))], [], [], [], [], [(5, (([p4_0] : List T_trie_Hit).length, rowsOf T_trie_Hit.c T_trie_Hit.d ([p4_0] : List T_trie_Hit)))], []⟩, ⟨[(8, .r (.one (.lit (.int .i64 (1 : Int)))) [])], [], [], [[], [], [], [2], [3, 2], [4, 3, 2], [5, 4, 3, 2], [6, 5, 4, 3, 2], [1, 7, 6, 5, 4, 3, 2], [0], [9, 0], [10, 9, 0, 8, 1, 7, 6, 5, 4, 3, 2], [11, 10, 9, 0, 8, 1, 7, 6, 5, 4, 3, 2], [12, 11, 10, 9, 0, 8, 1, 7, 6, 5, 4, 3, 2]], [], [], []⟩] [true, true] ⟨[], [], [], [], [], [3, 5, 6], [42, 3], [(42, 5)]⟩ [SCall Try.prog 78 [.agg (T_api_Net.c p4_0.fNet), .agg (T_api_Addr.c b3)] (.one (.lit (.bool x5))), x5 = true, p4_1 = true, ([p4_0] : List T_trie_Hit).length = 1 ∧ ∀ i j, i < 1 → j < 5 → rowsOf T_trie_Hit.c T_trie_Hit.d ([p4_0] : List T_trie_Hit) i j = (([p4_0] : List T_trie_Hit).flatMap T_trie_Hit.c).getD (i * 5 + j) .junk, Ext 5 w5.length (([p4_0] : List T_trie_Hit).length) (rowsOf T_trie_Hit.c T_trie_Hit.d w5) (rowsOf T_trie_Hit.c T_trie_Hit.d ([p4_0] : List T_trie_Hit)) ((w5 ++ ([p4_0] : List T_trie_Hit)).length) (rowsOf T_trie_Hit.c T_trie_Hit.d (w5 ++ ([p4_0] : List T_trie_Hit))), (w5 ++ ([p4_0] : List T_trie_Hit)).length * 40 ≤ 140737488355328, (w5 ++ ([p4_0] : List T_trie_Hit)).length ≤ maxLen, SCall Try.prog 79 [.agg (T_api_Addr.c b3), .one (.lit (.int .i64 p4_0.fNet.fBits))] (.one (.lit (.int .i64 (1 : Int)))), 0 ≤ (1 : Int) ∧ (1 : Int) < ((2 : Nat) : Int)] (by kernel_rfl) ⟨(g_cidr_Has_ok p4_0.fNet b3 x5 q5), h6, h7, ⟨rfl, fun i j hi hj => rows_flat (sz := 5) (e := T_trie_Hit.c) (d := T_trie_Hit.d) (fun _ => rfl) ([p4_0] : List T_trie_Hit) i j hi hj⟩, (ext_app _ _), o8.1, o8.2, (g_addr_Bit_ok b3 p4_0.fNet.fBits (1 : Int) q9), (by decide), trivial⟩ (ih p4_3 (w5 ++ ([p4_0] : List T_trie_Hit)) b3 r hf)
        · obtain ⟨x7, q11, hf⟩ := bind_some' hf
          obtain ⟨o12, hf⟩ := need_some hf
          rcases ix2_some o12 hf with ⟨e, hf⟩ | ⟨e, hf⟩
          · subst e
            exact toK_good allOk HPost.ends 15 _ _ _ _ [⟨[(9, .r (.one (.lit (.bool x5))) [])], [], [], [[], [0], [1, 0], [2, 1, 0], [3, 2, 1, 0], [4, 3, 2, 1, 0], [5, 4, 3, 2, 1, 0], [6, 5, 4, 3, 2, 1, 0], [2, 1, 0], [7, 6, 5, 4, 3, 2, 1, 0, 8], [2, 1, 0, 9, 7, 6, 5, 4, 3, 8]], [], [], []⟩, ⟨[], [], [], [], [], [], []⟩, ⟨[(8, .r (.one (.lit (.int .i64 (0 : Int)))) [])], [], [], [[], [], [], [2], [3, 2], [4, 3, 2], [5, 4, 3, 2], [6, 5, 4, 3, 2], [1, 7, 6, 5, 4, 3, 2], [0], [9, 0], [10, 9, 0, 8, 1, 7, 6, 5, 4, 3, 2], [11, 10, 9, 0, 8, 1, 7, 6, 5, 4, 3, 2], [12, 11, 10, 9, 0, 8, 1, 7, 6, 5, 4, 3, 2]], [], [], []⟩] [true, false] ⟨[], [], [], [], [], [3, 5, 6], [5, 3], []⟩ [SCall Try.prog 78 [.agg (T_api_Net.c p4_0.fNet), .agg (T_api_Addr.c b3)] (.one (.lit (.bool x5))), x5 = true, p4_1 = false, SCall Try.prog 79 [.agg (T_api_Addr.c b3), .one (.lit (.int .i64 p4_0.fNet.fBits))] (.one (.lit (.int .i64 (0 : Int)))), 0 ≤ (0 : Int) ∧ (0 : Int) < ((2 : Nat) : Int)] (by kernel_rfl) ⟨(g_cidr_Has_ok p4_0.fNet b3 x5 q5), h6, h7, (g_addr_Bit_ok b3 p4_0.fNet.fBits (0 : Int) q11), (by decide), trivial⟩ (ih p4_2 w5 b3 r hf)
          · subst e
            exact toK_good allOk HPost.ends 15 _ _ _ _ [⟨[(9, .r (.one (.lit (.bool x5))) [])], [], [], [[], [0], [1, 0], [2, 1, 0], [3, 2, 1, 0], [4, 3, 2, 1, 0], [5, 4, 3, 2, 1, 0], [6, 5, 4, 3, 2, 1, 0], [2, 1, 0], [7, 6, 5, 4, 3, 2, 1, 0, 8], [2, 1, 0, 9, 7, 6, 5, 4, 3, 8]], [], [], []⟩, ⟨[], [], [], [], [], [], []⟩, ⟨[(8, .r (.one (.lit (.int .i64 (1 : Int)))) [])], [], [], [[], [], [], [2], [3, 2], [4, 3, 2], [5, 4, 3, 2], [6, 5, 4, 3, 2], [1, 7, 6, 5, 4, 3, 2], [0], [9, 0], [10, 9, 0, 8, 1, 7, 6, 5, 4, 3, 2], [11, 10, 9, 0, 8, 1, 7, 6, 5, 4, 3, 2], [12, 11, 10, 9, 0, 8, 1, 7, 6, 5, 4, 3, 2]], [], [], []⟩] [true, false] ⟨[], [], [], [], [], [3, 5, 6], [5, 3], []⟩ [SCall Try.prog 78 [.agg (T_api_Net.c p4_0.fNet), .agg (T_api_Addr.c b3)] (.one (.lit (.bool x5))), x5 = true, p4_1 = false, SCall Try.prog 79 [.agg (T_api_Addr.c b3), .one (.lit (.int .i64 p4_0.fNet.fBits))] (.one (.lit (.int .i64 (1 : Int)))), 0 ≤ (1 : Int) ∧ (1 : Int) < ((2 : Nat) : Int)] (by kernel_rfl) ⟨(g_cidr_Has_ok p4_0.fNet b3 x5 q5), h6, h7, (g_addr_Bit_ok b3 p4_0.fNet.fBits (1 : Int) q11), (by decide), trivial⟩ (ih p4_3 w5 b3 r hf)
      · replace hf := Option.some.inj hf
        subst hf
        exact toEndH_good allOk 8 _ _ [⟨[(9, .r (.one (.lit (.bool x5))) [])], [], [], [[], [0], [1, 0], [2, 1, 0], [3, 2, 1, 0], [4, 3, 2, 1, 0], [5, 4, 3, 2, 1, 0], [6, 5, 4, 3, 2, 1, 0], [2, 1, 0], [7, 6, 5, 4, 3, 2, 1, 0, 8], [2, 1, 0, 9, 7, 6, 5, 4, 3, 8]], [], [], []⟩, ⟨[], [], [], [], [], [], []⟩] [false] ⟨[], [], [], [], [], [4], [5], [(5, 99999)]⟩ [SCall Try.prog 78 [.agg (T_api_Net.c p4_0.fNet), .agg (T_api_Addr.c b3)] (.one (.lit (.bool x5))), x5 = false] (by kernel_rfl) ⟨(g_cidr_Has_ok p4_0.fNet b3 x5 q5), h6, trivial⟩

/-- (*doorman/trie.Trie).Cover -/
def g_trie_Trie_Cover (a0 : N_trie_Trie) (a1 : T_api_Addr) : Option (List T_trie_Hit) :=
  (match a0 with
  | .nil =>
    some ([] : List T_trie_Hit)
  | .mk p1_0 p1_1 p1_2 =>
    (g_addr_Right a1).bind fun x2 =>
    bif (!x2) then
      some ([] : List T_trie_Hit)
    else
      (g_trie_family a1).bind fun x3 =>
      need (0 ≤ x3 ∧ x3 < ((2 : Nat) : Int)) <|
      ix2 x3 (
        g_trie_Trie_Cover_c0   1000000 p1_0 ([]) a1) (
        g_trie_Trie_Cover_c0   1000000 p1_1 ([]) a1))

theorem g_trie_Trie_Cover_own (a0 : N_trie_Trie) (a1 : T_api_Addr) (r : (List T_trie_Hit)) (hf : g_trie_Trie_Cover a0 a1 = some r) : HCall Try.prog 25 [] [.one (N_trie_Trie.c a0), .agg (T_api_Addr.c a1)] [(99999, .rows 48 5 r.length (rowsOf T_trie_Hit.c T_trie_Hit.d r))] (.one (.osl 99999 r.length)) := by
  refine HCall.of Try.func25 rfl rfl rfl rfl fun S0 w0 => ?_
  unfold g_trie_Trie_Cover at hf
  cases a0 with
  | nil =>
    dsimp only at hf
    replace hf := Option.some.inj hf
    subst hf
    exact toEndH_good allOk 8 _ _ [⟨[], [], [], [], [], [], []⟩, ⟨[], [], [], [], [], [], []⟩, ⟨[], [], [], [], [], [], []⟩] [true] ⟨[], [], [], [], [(4, 99999, 48, 5, rowsOf T_trie_Hit.c T_trie_Hit.d [])], [4], [99999], []⟩ [true = true] (by kernel_rfl) ⟨rfl, trivial⟩
  | mk p1_0 p1_1 p1_2 =>
    dsimp only at hf
    obtain ⟨x2, q1, hf⟩ := bind_some' hf
    rcases br_some hf with ⟨h2, hf⟩ | ⟨h2, hf⟩
    · replace hf := Option.some.inj hf
      subst hf
      exact toEndH_good allOk 8 _ _ [⟨[], [], [], [], [], [], []⟩, ⟨[(4, .r (.one (.lit (.bool x2))) [])], [], [], [], [], [], []⟩, ⟨[], [], [], [], [], [], []⟩] [true] ⟨[], [], [], [], [(4, 99999, 48, 5, rowsOf T_trie_Hit.c T_trie_Hit.d [])], [4], [99999], []⟩ [SCall Try.prog 77 [.agg (T_api_Addr.c a1)] (.one (.lit (.bool x2))), (!x2) = true] (by kernel_rfl) ⟨(g_addr_Right_ok a1 x2 q1), h2, trivial⟩
    · obtain ⟨x3, q3, hf⟩ := bind_some' hf
      obtain ⟨o4, hf⟩ := need_some hf
      rcases ix2_some o4 hf with ⟨e, hf⟩ | ⟨e, hf⟩
      · subst e
        exact toK_good allOk HPost.ends 13 _ _ _ _ [⟨[], [], [], [], [], [], []⟩, ⟨[(4, .r (.one (.lit (.bool x2))) [])], [], [], [], [], [], []⟩, ⟨[], [], [], [], [], [], []⟩, ⟨[(2, .r (.one (.lit (.int .i64 (0 : Int)))) [])], [], [], [[], [], [1], [0], [3, 0], [4, 3, 0, 2, 1], [5, 4, 3, 0, 2, 1], [6, 5, 4, 3, 0, 2, 1]], [], [], []⟩] [false] ⟨[], [], [], [], [(5, 5, 48, 5, rowsOf T_trie_Hit.c T_trie_Hit.d [])], [3, 5, 6], [5, 3], []⟩ [SCall Try.prog 77 [.agg (T_api_Addr.c a1)] (.one (.lit (.bool x2))), (!x2) = false, SCall Try.prog 73 [.agg (T_api_Addr.c a1)] (.one (.lit (.int .i64 (0 : Int)))), 0 ≤ (0 : Int) ∧ (0 : Int) < ((2 : Nat) : Int)] (by kernel_rfl) ⟨(g_addr_Right_ok a1 x2 q1), h2, (g_trie_family_ok a1 (0 : Int) q3), (by decide), trivial⟩ (g_trie_Trie_Cover_c0_ok S0 w0    1000000 p1_0 ([]) a1 r hf)
      · subst e
        exact toK_good allOk HPost.ends 13 _ _ _ _ [⟨[], [], [], [], [], [], []⟩, ⟨[(4, .r (.one (.lit (.bool x2))) [])], [], [], [], [], [], []⟩, ⟨[], [], [], [], [], [], []⟩, ⟨[(2, .r (.one (.lit (.int .i64 (1 : Int)))) [])], [], [], [[], [], [1], [0], [3, 0], [4, 3, 0, 2, 1], [5, 4, 3, 0, 2, 1], [6, 5, 4, 3, 0, 2, 1]], [], [], []⟩] [false] ⟨[], [], [], [], [(5, 5, 48, 5, rowsOf T_trie_Hit.c T_trie_Hit.d [])], [3, 5, 6], [5, 3], []⟩ [SCall Try.prog 77 [.agg (T_api_Addr.c a1)] (.one (.lit (.bool x2))), (!x2) = false, SCall Try.prog 73 [.agg (T_api_Addr.c a1)] (.one (.lit (.int .i64 (1 : Int)))), 0 ≤ (1 : Int) ∧ (1 : Int) < ((2 : Nat) : Int)] (by kernel_rfl) ⟨(g_addr_Right_ok a1 x2 q1), h2, (g_trie_family_ok a1 (1 : Int) q3), (by decide), trivial⟩ (g_trie_Trie_Cover_c0_ok S0 w0    1000000 p1_1 ([]) a1 r hf)

theorem g_trie_Trie_Cover_ok (a0 : N_trie_Trie) (a1 : T_api_Addr) (r : (List T_trie_Hit)) (hf : g_trie_Trie_Cover a0 a1 = some r) : SCall Try.prog 25 [.one (N_trie_Trie.c a0), .agg (T_api_Addr.c a1)] (.one (cL 5 T_trie_Hit.c T_trie_Hit.d r)) := (g_trie_Trie_Cover_own a0 a1 r hf).pure

def g_bans_Until_c0   : Nat → Int → (List T_trie_Hit) → Int → Int → Option Int
  | 0, _, _, _, _ => none
  | fu + 1, v8, v23, v24, v25 =>
    bif (decide (v25 < v24)) then
      need (0 ≤ v25 ∧ v25 < ((v23.length : Nat) : Int)) <|
      g_bans_Until_c0   fu (if (v23.getD v25.toNat T_trie_Hit.d).fV > v8 then (v23.getD v25.toNat T_trie_Hit.d).fV else v8) v23 v24 (add64 v25 (1 : Int))
    else
      some v8

theorem g_bans_Until_c0_ok (S0 : Nat → Prop) (w0 : Start)   : ∀ (fu : Nat) (v8 : Int) (v23 : (List T_trie_Hit)) (v24 : Int) (v25 : Int) (r : Int), g_bans_Until_c0   fu v8 v23 v24 v25 = some r → Good Try.prog 35 S0 w0 (bodyPost Try.prog Try.f44 (Post S0 w0 (.one (.lit (.int .i64 r))))) (at_ [1, 1, 1, 1, 0, 1, 0] (bodyOf Try.f44)) ⟨[(8, .one (.lit (.int .i64 v8))), (23, .one (cL 5 T_trie_Hit.c T_trie_Hit.d v23)), (24, .one (.lit (.int .i64 v24))), (25, .one (.lit (.int .i64 v25)))], []⟩ := by
  intro fu
  induction fu with
  | zero =>
    intro v8 v23 v24 v25 r hf
    simp [g_bans_Until_c0] at hf
  | succ fu ih =>
    intro v8 v23 v24 v25 r hf
    unfold g_bans_Until_c0 at hf
    rcases br_some hf with ⟨h5, hf⟩ | ⟨h5, hf⟩
    · obtain ⟨o6, hf⟩ := need_some hf
      exact toK_good allOk Post.ends 14 _ _ _ _ [⟨[], [], [], [], [], [], []⟩, ⟨[], [], [], [], [], [], []⟩, ⟨[], [], [], [], [], [], []⟩, ⟨[], [], [], [], [], [], []⟩] [true] ⟨[], [], [], [], [], [8, 23, 24, 25], [], []⟩ [(decide (v25 < v24)) = true, 0 ≤ v25 ∧ v25 < ((v23.length : Nat) : Int)] (by kernel_rfl) ⟨h5, o6, trivial⟩ (ih (if (v23.getD v25.toNat T_trie_Hit.d).fV > v8 then (v23.getD v25.toNat T_trie_Hit.d).fV else v8) v23 v24 (add64 v25 (1 : Int)) r hf)
    · replace hf := Option.some.inj hf
      subst hf
      exact toEnd_good allOk 8 _ _ [⟨[], [], [], [], [], [], []⟩, ⟨[], [], [], [], [], [], []⟩] [false] [] [] [] [(decide (v25 < v24)) = false] (by kernel_rfl) rfl ⟨h5, trivial⟩

/-- doorman/bans.Until -/
def g_bans_Until (a0 : (List T_api_Ban)) (a1 : T_api_Addr) (a2 : Int) : Option Int :=
  (g_bans_index a0 a2).bind fun x1 =>
  (g_trie_Trie_Cover x1 a1).bind fun x2 =>
  bif (((x2.length : Nat) : Int) == (0 : Int)) then
    some (0 : Int)
  else
    need (0 ≤ (0 : Int) ∧ (0 : Int) < ((x2.length : Nat) : Int)) <|
    g_bans_Until_c0   ((((x2.length : Nat) : Int) - (0 : Int)).toNat + 2) ((x2.getD (0 : Int).toNat T_trie_Hit.d).fV) x2 ((x2.length : Nat) : Int) (0 : Int)

theorem g_bans_Until_ok (a0 : (List T_api_Ban)) (a1 : T_api_Addr) (a2 : Int) (r : Int) (hf : g_bans_Until a0 a1 a2 = some r) : SCall Try.prog 44 [.one (cL 5 T_api_Ban.c T_api_Ban.d a0), .agg (T_api_Addr.c a1), .one (.lit (.int .i64 a2))] (.one (.lit (.int .i64 r))) := by
  refine SCall.of Try.func44 rfl rfl rfl rfl fun S0 w0 => ?_
  unfold g_bans_Until at hf
  obtain ⟨x1, q1, hf⟩ := bind_some' hf
  obtain ⟨x2, q2, hf⟩ := bind_some' hf
  rcases br_some hf with ⟨h3, hf⟩ | ⟨h3, hf⟩
  · replace hf := Option.some.inj hf
    subst hf
    exact toEnd_good allOk 10 _ _ [⟨[], [], [], [], [], [], []⟩, ⟨[(2, .r (.one (N_trie_Trie.c x1)) []), (4, .r (.one (cL 5 T_trie_Hit.c T_trie_Hit.d x2)) [])], [], [], [[], [], [0, 1], [], [2, 0, 1, 3], [4, 2, 0, 1, 3]], [], [], []⟩, ⟨[], [], [], [], [], [], []⟩, ⟨[], [], [], [], [], [], []⟩] [true] [] [] [] [SCall Try.prog 95 [.one (cL 5 T_api_Ban.c T_api_Ban.d a0), .one (.lit (.int .i64 a2))] (.one (N_trie_Trie.c x1)), SCall Try.prog 25 [.one (N_trie_Trie.c x1), .agg (T_api_Addr.c a1)] (.one (cL 5 T_trie_Hit.c T_trie_Hit.d x2)), (((x2.length : Nat) : Int) == (0 : Int)) = true] (by kernel_rfl) rfl ⟨(g_bans_index_ok a0 a2 x1 q1), (g_trie_Trie_Cover_ok x1 a1 x2 q2), h3, trivial⟩
  · obtain ⟨o4, hf⟩ := need_some hf
    exact toK_good allOk Post.ends 15 _ _ _ _ [⟨[], [], [], [], [], [], []⟩, ⟨[(2, .r (.one (N_trie_Trie.c x1)) []), (4, .r (.one (cL 5 T_trie_Hit.c T_trie_Hit.d x2)) [])], [], [], [[], [], [0, 1], [], [2, 0, 1, 3], [4, 2, 0, 1, 3]], [], [], []⟩, ⟨[], [], [], [], [], [], []⟩, ⟨[], [], [], [], [], [], []⟩, ⟨[], [], [], [], [], [], []⟩] [false] ⟨[], [], [], [], [], [8, 23, 24, 25], [], []⟩ [SCall Try.prog 95 [.one (cL 5 T_api_Ban.c T_api_Ban.d a0), .one (.lit (.int .i64 a2))] (.one (N_trie_Trie.c x1)), SCall Try.prog 25 [.one (N_trie_Trie.c x1), .agg (T_api_Addr.c a1)] (.one (cL 5 T_trie_Hit.c T_trie_Hit.d x2)), (((x2.length : Nat) : Int) == (0 : Int)) = false, 0 ≤ (0 : Int) ∧ (0 : Int) < ((x2.length : Nat) : Int)] (by kernel_rfl) ⟨(g_bans_index_ok a0 a2 x1 q1), (g_trie_Trie_Cover_ok x1 a1 x2 q2), h3, o4, trivial⟩ (g_bans_Until_c0_ok S0 w0    ((((x2.length : Nat) : Int) - (0 : Int)).toNat + 2) ((x2.getD (0 : Int).toNat T_trie_Hit.d).fV) x2 ((x2.length : Nat) : Int) (0 : Int) r hf)
end Go.Proofs.Ytgmkffjkidgcnaa
