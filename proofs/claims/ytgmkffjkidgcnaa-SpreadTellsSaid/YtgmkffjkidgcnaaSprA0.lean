/-
  Functions and their contracts.
  WRITTEN BY A PROGRAM OF MY OWN (wip/gen/am.py).
-/
import Derived.Test.YtgmkffjkidgcnaaSprT
namespace Go.Proofs.Ytgmkffjkidgcnaa
open Go.RowKit Go.Lib Go.Shelf
set_option linter.unusedVariables false
set_option maxRecDepth 100000
theorem eqFields_T_api_Addr : (Try.prog.fieldsOf 25).toList = [{ name := "V6", type := 4, offset := 0, embedded := false, tag := "", pkgPath := "", byteOffset := 0 }, { name := "Hi", type := 23, offset := 1, embedded := false, tag := "", pkgPath := "", byteOffset := 8 }, { name := "Lo", type := 23, offset := 2, embedded := false, tag := "", pkgPath := "", byteOffset := 16 }] := by kernel_rfl

theorem eqIn_T_api_Addr (d : Nat) (x y : T_api_Addr) (w : World) : (Op.equalIn (d + 2) 25 (.agg #[.bool x.fV6, .int .u64 x.fHi, .int .u64 x.fLo]) (.agg #[.bool y.fV6, .int .u64 y.fHi, .int .u64 y.fLo])).run Try.prog w = .ok (decide (x = y)) w := by rw [run_equalIn_struct w (d + 1) _ _ _ (by kernel_rfl) (by kernel_rfl)]; simp only [eqFields_T_api_Addr, Op.eqFields]; simp [go_sem]; cases x; cases y; simp only [T_api_Addr.mk.injEq]; (repeat' split) <;> simp_all

theorem eql_T_api_Addr (x y : T_api_Addr) (xo yo : Operand) : ∀ w, (do eqGuard .eql 25 xo yo (.agg #[.bool x.fV6, .int .u64 x.fHi, .int .u64 x.fLo]) (.agg #[.bool y.fV6, .int .u64 y.fHi, .int .u64 y.fLo]); binOp .eql 25 (.agg #[.bool x.fV6, .int .u64 x.fHi, .int .u64 x.fLo]) (.agg #[.bool y.fV6, .int .u64 y.fHi, .int .u64 y.fLo]) : Sem Value).run Try.prog w = .ok (.bool (decide (x = y))) w := by
  intro w
  have hg : (eqGuard .eql 25 xo yo (.agg #[.bool x.fV6, .int .u64 x.fHi, .int .u64 x.fLo]) (.agg #[.bool y.fV6, .int .u64 y.fHi, .int .u64 y.fLo])).run Try.prog w = .ok () w := by simp [eqGuard, Sem.run_bind, Try.eqGuardType25]
  rw [Sem.run_bind, hg, Result.andThen_ok, run_eql_struct]
  exact congrArg (fun r : Result Bool => r.andThen fun b w' => Result.ok (Value.bool b) w') (eqIn_T_api_Addr 9998 x y w)

theorem neq_T_api_Addr (x y : T_api_Addr) (xo yo : Operand) : ∀ w, (do eqGuard .neq 25 xo yo (.agg #[.bool x.fV6, .int .u64 x.fHi, .int .u64 x.fLo]) (.agg #[.bool y.fV6, .int .u64 y.fHi, .int .u64 y.fLo]); binOp .neq 25 (.agg #[.bool x.fV6, .int .u64 x.fHi, .int .u64 x.fLo]) (.agg #[.bool y.fV6, .int .u64 y.fHi, .int .u64 y.fLo]) : Sem Value).run Try.prog w = .ok (.bool (!decide (x = y))) w := by
  intro w
  have hg : (eqGuard .neq 25 xo yo (.agg #[.bool x.fV6, .int .u64 x.fHi, .int .u64 x.fLo]) (.agg #[.bool y.fV6, .int .u64 y.fHi, .int .u64 y.fLo])).run Try.prog w = .ok () w := by simp [eqGuard, Sem.run_bind, Try.eqGuardType25]
  rw [Sem.run_bind, hg, Result.andThen_ok, run_neq_struct]
  exact congrArg (fun r : Result Bool => r.andThen fun b w' => Result.ok (Value.bool (!b)) w') (eqIn_T_api_Addr 9998 x y w)

theorem eqFields_T_api_Net : (Try.prog.fieldsOf 27).toList = [{ name := "Addr", type := 25, offset := 0, embedded := false, tag := "", pkgPath := "", byteOffset := 0 }, { name := "Bits", type := 3, offset := 3, embedded := false, tag := "", pkgPath := "", byteOffset := 24 }] := by kernel_rfl

theorem eqIn_T_api_Net (d : Nat) (x y : T_api_Net) (w : World) : (Op.equalIn (d + 4) 27 (.agg #[.bool x.fAddr.fV6, .int .u64 x.fAddr.fHi, .int .u64 x.fAddr.fLo, .int .i64 x.fBits]) (.agg #[.bool y.fAddr.fV6, .int .u64 y.fAddr.fHi, .int .u64 y.fAddr.fLo, .int .i64 y.fBits])).run Try.prog w = .ok (decide (x = y)) w := by rw [run_equalIn_struct w (d + 3) _ _ _ (by kernel_rfl) (by kernel_rfl)]; simp only [eqFields_T_api_Net, Op.eqFields]; simp [go_sem, eqIn_T_api_Addr]; cases x; cases y; simp only [T_api_Net.mk.injEq]; (repeat' split) <;> simp_all

theorem eql_T_api_Net (x y : T_api_Net) (xo yo : Operand) : ∀ w, (do eqGuard .eql 27 xo yo (.agg #[.bool x.fAddr.fV6, .int .u64 x.fAddr.fHi, .int .u64 x.fAddr.fLo, .int .i64 x.fBits]) (.agg #[.bool y.fAddr.fV6, .int .u64 y.fAddr.fHi, .int .u64 y.fAddr.fLo, .int .i64 y.fBits]); binOp .eql 27 (.agg #[.bool x.fAddr.fV6, .int .u64 x.fAddr.fHi, .int .u64 x.fAddr.fLo, .int .i64 x.fBits]) (.agg #[.bool y.fAddr.fV6, .int .u64 y.fAddr.fHi, .int .u64 y.fAddr.fLo, .int .i64 y.fBits]) : Sem Value).run Try.prog w = .ok (.bool (decide (x = y))) w := by
  intro w
  have hg : (eqGuard .eql 27 xo yo (.agg #[.bool x.fAddr.fV6, .int .u64 x.fAddr.fHi, .int .u64 x.fAddr.fLo, .int .i64 x.fBits]) (.agg #[.bool y.fAddr.fV6, .int .u64 y.fAddr.fHi, .int .u64 y.fAddr.fLo, .int .i64 y.fBits])).run Try.prog w = .ok () w := by simp [eqGuard, Sem.run_bind, Try.eqGuardType27]
  rw [Sem.run_bind, hg, Result.andThen_ok, run_eql_struct]
  exact congrArg (fun r : Result Bool => r.andThen fun b w' => Result.ok (Value.bool b) w') (eqIn_T_api_Net 9996 x y w)

theorem neq_T_api_Net (x y : T_api_Net) (xo yo : Operand) : ∀ w, (do eqGuard .neq 27 xo yo (.agg #[.bool x.fAddr.fV6, .int .u64 x.fAddr.fHi, .int .u64 x.fAddr.fLo, .int .i64 x.fBits]) (.agg #[.bool y.fAddr.fV6, .int .u64 y.fAddr.fHi, .int .u64 y.fAddr.fLo, .int .i64 y.fBits]); binOp .neq 27 (.agg #[.bool x.fAddr.fV6, .int .u64 x.fAddr.fHi, .int .u64 x.fAddr.fLo, .int .i64 x.fBits]) (.agg #[.bool y.fAddr.fV6, .int .u64 y.fAddr.fHi, .int .u64 y.fAddr.fLo, .int .i64 y.fBits]) : Sem Value).run Try.prog w = .ok (.bool (!decide (x = y))) w := by
  intro w
  have hg : (eqGuard .neq 27 xo yo (.agg #[.bool x.fAddr.fV6, .int .u64 x.fAddr.fHi, .int .u64 x.fAddr.fLo, .int .i64 x.fBits]) (.agg #[.bool y.fAddr.fV6, .int .u64 y.fAddr.fHi, .int .u64 y.fAddr.fLo, .int .i64 y.fBits])).run Try.prog w = .ok () w := by simp [eqGuard, Sem.run_bind, Try.eqGuardType27]
  rw [Sem.run_bind, hg, Result.andThen_ok, run_neq_struct]
  exact congrArg (fun r : Result Bool => r.andThen fun b w' => Result.ok (Value.bool (!b)) w') (eqIn_T_api_Net 9996 x y w)

/-- doorman/group.bits -/
def g_group_bits (a0 : T_api_Addr) : Option Int :=
  bif a0.fV6 then
    some (32 : Int)
  else
    some (16 : Int)

theorem g_group_bits_ok (a0 : T_api_Addr) (r : Int) (hf : g_group_bits a0 = some r) : SCall Try.prog 144 [.agg (T_api_Addr.c a0)] (.one (.lit (.int .i64 r))) := by
  refine SCall.of Try.func144 rfl rfl rfl rfl fun S0 w0 => ?_
  unfold g_group_bits at hf
  rcases br_some hf with ⟨h1, hf⟩ | ⟨h1, hf⟩
  · replace hf := Option.some.inj hf
    subst hf
    exact toEnd_good allOk 8 _ _ [⟨[], [], [], [], [], [], []⟩, ⟨[], [], [], [], [], [], []⟩, ⟨[], [], [], [], [], [], []⟩] [true] [] [] [] [a0.fV6 = true] (by kernel_rfl) rfl ⟨h1, trivial⟩
  · replace hf := Option.some.inj hf
    subst hf
    exact toEnd_good allOk 9 _ _ [⟨[], [], [], [], [], [], []⟩, ⟨[], [], [], [], [], [], []⟩, ⟨[], [], [], [], [], [], []⟩] [false] [] [] [] [a0.fV6 = false] (by kernel_rfl) rfl ⟨h1, trivial⟩

/-- doorman/addr.V4 -/
def g_addr_V4 (a0 : Int) : Option T_api_Addr :=
  some (T_api_Addr.mk false (0 : Int) (IntKind.wrap .u64 a0))

theorem g_addr_V4_ok (a0 : Int) (r : T_api_Addr) (hf : g_addr_V4 a0 = some r) : SCall Try.prog 128 [.one (.lit (.int .u32 a0))] (.agg (T_api_Addr.c r)) := by
  refine SCall.of Try.func128 rfl rfl rfl rfl fun S0 w0 => ?_
  unfold g_addr_V4 at hf
  replace hf := Option.some.inj hf
  subst hf
  exact toEnd_good allOk 4 _ _ [⟨[], [], [], [], [], [], []⟩, ⟨[], [], [], [], [], [], []⟩] [] [] [] [] [] (by kernel_rfl) rfl trivial

/-- doorman/addr.V6 -/
def g_addr_V6 (a0 : Int) (a1 : Int) : Option T_api_Addr :=
  bif (a0 == (0 : Int)) then
    bif ((Int.fdiv a1 (2 ^ (min (32 : Int).toNat (IntKind.bits .u64)))) == (65535 : Int)) then
      (g_addr_V4 (IntKind.wrap .u32 (IntKind.wrap .u64 (((BitVec.ofInt (IntKind.bits .u64) a1) &&& (BitVec.ofInt (IntKind.bits .u64) (4294967295 : Int))).toNat : Int)))).bind fun x1 =>
      some x1
    else
      some (T_api_Addr.mk true a0 a1)
  else
    some (T_api_Addr.mk true a0 a1)

theorem g_addr_V6_ok (a0 : Int) (a1 : Int) (r : T_api_Addr) (hf : g_addr_V6 a0 a1 = some r) : SCall Try.prog 127 [.one (.lit (.int .u64 a0)), .one (.lit (.int .u64 a1))] (.agg (T_api_Addr.c r)) := by
  refine SCall.of Try.func127 rfl rfl rfl rfl fun S0 w0 => ?_
  unfold g_addr_V6 at hf
  rcases br_some hf with ⟨h1, hf⟩ | ⟨h1, hf⟩
  · rcases br_some hf with ⟨h2, hf⟩ | ⟨h2, hf⟩
    · obtain ⟨x1, q3, hf⟩ := bind_some' hf
      replace hf := Option.some.inj hf
      subst hf
      exact toEnd_good allOk 8 _ _ [⟨[], [], [], [], [], [], []⟩, ⟨[], [(2, true)], [], [], [], [], []⟩, ⟨[(3, .r (.agg (T_api_Addr.c x1)) [])], [], [], [], [], [], []⟩] [true] [] [] [] [(a0 == (0 : Int)) = true, 0 ≤ (32 : Int), ((Int.fdiv a1 (2 ^ (min (32 : Int).toNat (IntKind.bits .u64)))) == (65535 : Int)) = true, SCall Try.prog 128 [.one (.lit (.int .u32 (IntKind.wrap .u32 (IntKind.wrap .u64 (((BitVec.ofInt (IntKind.bits .u64) a1) &&& (BitVec.ofInt (IntKind.bits .u64) (4294967295 : Int))).toNat : Int)))))] (.agg (T_api_Addr.c x1))] (by kernel_rfl) rfl ⟨h1, (by decide), h2, (g_addr_V4_ok (IntKind.wrap .u32 (IntKind.wrap .u64 (((BitVec.ofInt (IntKind.bits .u64) a1) &&& (BitVec.ofInt (IntKind.bits .u64) (4294967295 : Int))).toNat : Int))) x1 q3), trivial⟩
    · replace hf := Option.some.inj hf
      subst hf
      exact toEnd_good allOk 9 _ _ [⟨[], [], [], [], [], [], []⟩, ⟨[], [(2, true)], [], [], [], [], []⟩, ⟨[], [], [], [], [], [], []⟩] [false] [] [] [] [(a0 == (0 : Int)) = true, 0 ≤ (32 : Int), ((Int.fdiv a1 (2 ^ (min (32 : Int).toNat (IntKind.bits .u64)))) == (65535 : Int)) = false] (by kernel_rfl) rfl ⟨h1, (by decide), h2, trivial⟩
  · replace hf := Option.some.inj hf
    subst hf
    exact toEnd_good allOk 9 _ _ [⟨[], [], [], [], [], [], []⟩, ⟨[], [(2, false)], [], [], [], [], []⟩, ⟨[], [], [], [], [], [], []⟩] [false] [] [] [] [(a0 == (0 : Int)) = false, false = false] (by kernel_rfl) rfl ⟨h1, rfl, trivial⟩

/-- doorman/addr.Right -/
def g_addr_Right (a0 : T_api_Addr) : Option Bool :=
  bif a0.fV6 then
    (g_addr_V6 a0.fHi a0.fLo).bind fun x1 =>
    some (decide (x1 = a0))
  else
    (g_addr_V4 (IntKind.wrap .u32 (IntKind.wrap .u64 (((BitVec.ofInt (IntKind.bits .u64) a0.fLo) &&& (BitVec.ofInt (IntKind.bits .u64) (4294967295 : Int))).toNat : Int)))).bind fun x2 =>
    some (decide (x2 = a0))

theorem g_addr_Right_ok (a0 : T_api_Addr) (r : Bool) (hf : g_addr_Right a0 = some r) : SCall Try.prog 77 [.agg (T_api_Addr.c a0)] (.one (.lit (.bool r))) := by
  refine SCall.of Try.func77 rfl rfl rfl rfl fun S0 w0 => ?_
  unfold g_addr_Right at hf
  rcases br_some hf with ⟨h1, hf⟩ | ⟨h1, hf⟩
  · obtain ⟨x1, q2, hf⟩ := bind_some' hf
    replace hf := Option.some.inj hf
    subst hf
    exact toEnd_good allOk 8 _ _ [⟨[], [], [], [], [], [], []⟩, ⟨[], [], [], [], [], [], []⟩, ⟨[(4, .r (.agg (T_api_Addr.c x1)) []), (6, .r (.one (.lit (.bool (decide (x1 = a0))))) [])], [], [], [[], [0], [], [2], [1, 0, 3, 2], [], [4, 1, 0, 3, 2, 5], [6, 4, 1, 0, 3, 2, 5]], [], [], []⟩] [true] [] [] [] [a0.fV6 = true, SCall Try.prog 127 [.one (.lit (.int .u64 a0.fHi)), .one (.lit (.int .u64 a0.fLo))] (.agg (T_api_Addr.c x1)), ∀ w, (do eqGuard .eql 25 (.tmp 9) (.tmp 10) (.agg #[.bool x1.fV6, .int .u64 x1.fHi, .int .u64 x1.fLo]) (.agg #[.bool a0.fV6, .int .u64 a0.fHi, .int .u64 a0.fLo]); binOp .eql 25 (.agg #[.bool x1.fV6, .int .u64 x1.fHi, .int .u64 x1.fLo]) (.agg #[.bool a0.fV6, .int .u64 a0.fHi, .int .u64 a0.fLo]) : Sem Value).run Try.prog w = .ok (.bool (decide (x1 = a0))) w] (by kernel_rfl) rfl ⟨h1, (g_addr_V6_ok a0.fHi a0.fLo x1 q2), (eql_T_api_Addr x1 a0 _ _), trivial⟩
  · obtain ⟨x2, q3, hf⟩ := bind_some' hf
    replace hf := Option.some.inj hf
    subst hf
    exact toEnd_good allOk 9 _ _ [⟨[], [], [], [], [], [], []⟩, ⟨[], [], [], [], [], [], []⟩, ⟨[(4, .r (.agg (T_api_Addr.c x2)) []), (6, .r (.one (.lit (.bool (decide (x2 = a0))))) [])], [], [], [[], [0], [1, 0], [2, 1, 0], [3, 2, 1, 0], [], [4, 3, 2, 1, 0, 5], [6, 4, 3, 2, 1, 0, 5]], [], [], []⟩] [false] [] [] [] [a0.fV6 = false, SCall Try.prog 128 [.one (.lit (.int .u32 (IntKind.wrap .u32 (IntKind.wrap .u64 (((BitVec.ofInt (IntKind.bits .u64) a0.fLo) &&& (BitVec.ofInt (IntKind.bits .u64) (4294967295 : Int))).toNat : Int)))))] (.agg (T_api_Addr.c x2)), ∀ w, (do eqGuard .eql 25 (.tmp 16) (.tmp 17) (.agg #[.bool x2.fV6, .int .u64 x2.fHi, .int .u64 x2.fLo]) (.agg #[.bool a0.fV6, .int .u64 a0.fHi, .int .u64 a0.fLo]); binOp .eql 25 (.agg #[.bool x2.fV6, .int .u64 x2.fHi, .int .u64 x2.fLo]) (.agg #[.bool a0.fV6, .int .u64 a0.fHi, .int .u64 a0.fLo]) : Sem Value).run Try.prog w = .ok (.bool (decide (x2 = a0))) w] (by kernel_rfl) rfl ⟨h1, (g_addr_V4_ok (IntKind.wrap .u32 (IntKind.wrap .u64 (((BitVec.ofInt (IntKind.bits .u64) a0.fLo) &&& (BitVec.ofInt (IntKind.bits .u64) (4294967295 : Int))).toNat : Int))) x2 q3), (eql_T_api_Addr x2 a0 _ _), trivial⟩

/-- doorman/addr.Bits -/
def g_addr_Bits (a0 : T_api_Addr) : Option Int :=
  bif a0.fV6 then
    some (128 : Int)
  else
    some (32 : Int)

theorem g_addr_Bits_ok (a0 : T_api_Addr) (r : Int) (hf : g_addr_Bits a0 = some r) : SCall Try.prog 130 [.agg (T_api_Addr.c a0)] (.one (.lit (.int .i64 r))) := by
  refine SCall.of Try.func130 rfl rfl rfl rfl fun S0 w0 => ?_
  unfold g_addr_Bits at hf
  rcases br_some hf with ⟨h1, hf⟩ | ⟨h1, hf⟩
  · replace hf := Option.some.inj hf
    subst hf
    exact toEnd_good allOk 8 _ _ [⟨[], [], [], [], [], [], []⟩, ⟨[], [], [], [], [], [], []⟩, ⟨[], [], [], [], [], [], []⟩] [true] [] [] [] [a0.fV6 = true] (by kernel_rfl) rfl ⟨h1, trivial⟩
  · replace hf := Option.some.inj hf
    subst hf
    exact toEnd_good allOk 9 _ _ [⟨[], [], [], [], [], [], []⟩, ⟨[], [], [], [], [], [], []⟩, ⟨[], [], [], [], [], [], []⟩] [false] [] [] [] [a0.fV6 = false] (by kernel_rfl) rfl ⟨h1, trivial⟩

/-- math/bits.ReverseBytes64 -/
def g_math_bits_ReverseBytes64 (a0 : Int) : Option Int :=
  some (IntKind.wrap .u64 (((BitVec.ofInt (IntKind.bits .u64) (Int.fdiv (IntKind.wrap .u64 (((BitVec.ofInt (IntKind.bits .u64) (IntKind.wrap .u64 (((BitVec.ofInt (IntKind.bits .u64) (Int.fdiv (IntKind.wrap .u64 (((BitVec.ofInt (IntKind.bits .u64) (IntKind.wrap .u64 (((BitVec.ofInt (IntKind.bits .u64) (Int.fdiv a0 (2 ^ (min (8 : Int).toNat (IntKind.bits .u64))))) &&& (BitVec.ofInt (IntKind.bits .u64) (71777214294589695 : Int))).toNat : Int))) ||| (BitVec.ofInt (IntKind.bits .u64) (IntKind.wrap .u64 ((IntKind.wrap .u64 (((BitVec.ofInt (IntKind.bits .u64) a0) &&& (BitVec.ofInt (IntKind.bits .u64) (71777214294589695 : Int))).toNat : Int)) * 2 ^ (min (8 : Int).toNat (IntKind.bits .u64)))))).toNat : Int)) (2 ^ (min (16 : Int).toNat (IntKind.bits .u64))))) &&& (BitVec.ofInt (IntKind.bits .u64) (281470681808895 : Int))).toNat : Int))) ||| (BitVec.ofInt (IntKind.bits .u64) (IntKind.wrap .u64 ((IntKind.wrap .u64 (((BitVec.ofInt (IntKind.bits .u64) (IntKind.wrap .u64 (((BitVec.ofInt (IntKind.bits .u64) (IntKind.wrap .u64 (((BitVec.ofInt (IntKind.bits .u64) (Int.fdiv a0 (2 ^ (min (8 : Int).toNat (IntKind.bits .u64))))) &&& (BitVec.ofInt (IntKind.bits .u64) (71777214294589695 : Int))).toNat : Int))) ||| (BitVec.ofInt (IntKind.bits .u64) (IntKind.wrap .u64 ((IntKind.wrap .u64 (((BitVec.ofInt (IntKind.bits .u64) a0) &&& (BitVec.ofInt (IntKind.bits .u64) (71777214294589695 : Int))).toNat : Int)) * 2 ^ (min (8 : Int).toNat (IntKind.bits .u64)))))).toNat : Int))) &&& (BitVec.ofInt (IntKind.bits .u64) (281470681808895 : Int))).toNat : Int)) * 2 ^ (min (16 : Int).toNat (IntKind.bits .u64)))))).toNat : Int)) (2 ^ (min (32 : Int).toNat (IntKind.bits .u64))))) ||| (BitVec.ofInt (IntKind.bits .u64) (IntKind.wrap .u64 ((IntKind.wrap .u64 (((BitVec.ofInt (IntKind.bits .u64) (IntKind.wrap .u64 (((BitVec.ofInt (IntKind.bits .u64) (Int.fdiv (IntKind.wrap .u64 (((BitVec.ofInt (IntKind.bits .u64) (IntKind.wrap .u64 (((BitVec.ofInt (IntKind.bits .u64) (Int.fdiv a0 (2 ^ (min (8 : Int).toNat (IntKind.bits .u64))))) &&& (BitVec.ofInt (IntKind.bits .u64) (71777214294589695 : Int))).toNat : Int))) ||| (BitVec.ofInt (IntKind.bits .u64) (IntKind.wrap .u64 ((IntKind.wrap .u64 (((BitVec.ofInt (IntKind.bits .u64) a0) &&& (BitVec.ofInt (IntKind.bits .u64) (71777214294589695 : Int))).toNat : Int)) * 2 ^ (min (8 : Int).toNat (IntKind.bits .u64)))))).toNat : Int)) (2 ^ (min (16 : Int).toNat (IntKind.bits .u64))))) &&& (BitVec.ofInt (IntKind.bits .u64) (281470681808895 : Int))).toNat : Int))) ||| (BitVec.ofInt (IntKind.bits .u64) (IntKind.wrap .u64 ((IntKind.wrap .u64 (((BitVec.ofInt (IntKind.bits .u64) (IntKind.wrap .u64 (((BitVec.ofInt (IntKind.bits .u64) (IntKind.wrap .u64 (((BitVec.ofInt (IntKind.bits .u64) (Int.fdiv a0 (2 ^ (min (8 : Int).toNat (IntKind.bits .u64))))) &&& (BitVec.ofInt (IntKind.bits .u64) (71777214294589695 : Int))).toNat : Int))) ||| (BitVec.ofInt (IntKind.bits .u64) (IntKind.wrap .u64 ((IntKind.wrap .u64 (((BitVec.ofInt (IntKind.bits .u64) a0) &&& (BitVec.ofInt (IntKind.bits .u64) (71777214294589695 : Int))).toNat : Int)) * 2 ^ (min (8 : Int).toNat (IntKind.bits .u64)))))).toNat : Int))) &&& (BitVec.ofInt (IntKind.bits .u64) (281470681808895 : Int))).toNat : Int)) * 2 ^ (min (16 : Int).toNat (IntKind.bits .u64)))))).toNat : Int)) * 2 ^ (min (32 : Int).toNat (IntKind.bits .u64)))))).toNat : Int))

theorem g_math_bits_ReverseBytes64_ok (a0 : Int) (r : Int) (hf : g_math_bits_ReverseBytes64 a0 = some r) : SCall Try.prog 186 [.one (.lit (.int .u64 a0))] (.one (.lit (.int .u64 r))) := by
  refine SCall.of Try.func186 rfl rfl rfl rfl fun S0 w0 => ?_
  unfold g_math_bits_ReverseBytes64 at hf
  replace hf := Option.some.inj hf
  subst hf
  exact toEnd_good allOk 8 _ _ [⟨[], [], [], [], [], [], []⟩, ⟨[], [], [], [], [], [], []⟩, ⟨[], [], [], [], [], [], []⟩, ⟨[], [], [], [], [], [], []⟩] [] [] [] [] [0 ≤ (8 : Int), 0 ≤ (8 : Int), 0 ≤ (16 : Int), 0 ≤ (16 : Int), 0 ≤ (32 : Int), 0 ≤ (32 : Int)] (by kernel_rfl) rfl ⟨(by decide), (by decide), (by decide), (by decide), (by decide), (by decide), trivial⟩

/-- math/bits.Reverse64 -/
def g_math_bits_Reverse64 (a0 : Int) : Option Int :=
  (g_math_bits_ReverseBytes64 (IntKind.wrap .u64 (((BitVec.ofInt (IntKind.bits .u64) (IntKind.wrap .u64 (((BitVec.ofInt (IntKind.bits .u64) (Int.fdiv (IntKind.wrap .u64 (((BitVec.ofInt (IntKind.bits .u64) (IntKind.wrap .u64 (((BitVec.ofInt (IntKind.bits .u64) (Int.fdiv (IntKind.wrap .u64 (((BitVec.ofInt (IntKind.bits .u64) (IntKind.wrap .u64 (((BitVec.ofInt (IntKind.bits .u64) (Int.fdiv a0 (2 ^ (min (1 : Int).toNat (IntKind.bits .u64))))) &&& (BitVec.ofInt (IntKind.bits .u64) (6148914691236517205 : Int))).toNat : Int))) ||| (BitVec.ofInt (IntKind.bits .u64) (IntKind.wrap .u64 ((IntKind.wrap .u64 (((BitVec.ofInt (IntKind.bits .u64) a0) &&& (BitVec.ofInt (IntKind.bits .u64) (6148914691236517205 : Int))).toNat : Int)) * 2 ^ (min (1 : Int).toNat (IntKind.bits .u64)))))).toNat : Int)) (2 ^ (min (2 : Int).toNat (IntKind.bits .u64))))) &&& (BitVec.ofInt (IntKind.bits .u64) (3689348814741910323 : Int))).toNat : Int))) ||| (BitVec.ofInt (IntKind.bits .u64) (IntKind.wrap .u64 ((IntKind.wrap .u64 (((BitVec.ofInt (IntKind.bits .u64) (IntKind.wrap .u64 (((BitVec.ofInt (IntKind.bits .u64) (IntKind.wrap .u64 (((BitVec.ofInt (IntKind.bits .u64) (Int.fdiv a0 (2 ^ (min (1 : Int).toNat (IntKind.bits .u64))))) &&& (BitVec.ofInt (IntKind.bits .u64) (6148914691236517205 : Int))).toNat : Int))) ||| (BitVec.ofInt (IntKind.bits .u64) (IntKind.wrap .u64 ((IntKind.wrap .u64 (((BitVec.ofInt (IntKind.bits .u64) a0) &&& (BitVec.ofInt (IntKind.bits .u64) (6148914691236517205 : Int))).toNat : Int)) * 2 ^ (min (1 : Int).toNat (IntKind.bits .u64)))))).toNat : Int))) &&& (BitVec.ofInt (IntKind.bits .u64) (3689348814741910323 : Int))).toNat : Int)) * 2 ^ (min (2 : Int).toNat (IntKind.bits .u64)))))).toNat : Int)) (2 ^ (min (4 : Int).toNat (IntKind.bits .u64))))) &&& (BitVec.ofInt (IntKind.bits .u64) (1085102592571150095 : Int))).toNat : Int))) ||| (BitVec.ofInt (IntKind.bits .u64) (IntKind.wrap .u64 ((IntKind.wrap .u64 (((BitVec.ofInt (IntKind.bits .u64) (IntKind.wrap .u64 (((BitVec.ofInt (IntKind.bits .u64) (IntKind.wrap .u64 (((BitVec.ofInt (IntKind.bits .u64) (Int.fdiv (IntKind.wrap .u64 (((BitVec.ofInt (IntKind.bits .u64) (IntKind.wrap .u64 (((BitVec.ofInt (IntKind.bits .u64) (Int.fdiv a0 (2 ^ (min (1 : Int).toNat (IntKind.bits .u64))))) &&& (BitVec.ofInt (IntKind.bits .u64) (6148914691236517205 : Int))).toNat : Int))) ||| (BitVec.ofInt (IntKind.bits .u64) (IntKind.wrap .u64 ((IntKind.wrap .u64 (((BitVec.ofInt (IntKind.bits .u64) a0) &&& (BitVec.ofInt (IntKind.bits .u64) (6148914691236517205 : Int))).toNat : Int)) * 2 ^ (min (1 : Int).toNat (IntKind.bits .u64)))))).toNat : Int)) (2 ^ (min (2 : Int).toNat (IntKind.bits .u64))))) &&& (BitVec.ofInt (IntKind.bits .u64) (3689348814741910323 : Int))).toNat : Int))) ||| (BitVec.ofInt (IntKind.bits .u64) (IntKind.wrap .u64 ((IntKind.wrap .u64 (((BitVec.ofInt (IntKind.bits .u64) (IntKind.wrap .u64 (((BitVec.ofInt (IntKind.bits .u64) (IntKind.wrap .u64 (((BitVec.ofInt (IntKind.bits .u64) (Int.fdiv a0 (2 ^ (min (1 : Int).toNat (IntKind.bits .u64))))) &&& (BitVec.ofInt (IntKind.bits .u64) (6148914691236517205 : Int))).toNat : Int))) ||| (BitVec.ofInt (IntKind.bits .u64) (IntKind.wrap .u64 ((IntKind.wrap .u64 (((BitVec.ofInt (IntKind.bits .u64) a0) &&& (BitVec.ofInt (IntKind.bits .u64) (6148914691236517205 : Int))).toNat : Int)) * 2 ^ (min (1 : Int).toNat (IntKind.bits .u64)))))).toNat : Int))) &&& (BitVec.ofInt (IntKind.bits .u64) (3689348814741910323 : Int))).toNat : Int)) * 2 ^ (min (2 : Int).toNat (IntKind.bits .u64)))))).toNat : Int))) &&& (BitVec.ofInt (IntKind.bits .u64) (1085102592571150095 : Int))).toNat : Int)) * 2 ^ (min (4 : Int).toNat (IntKind.bits .u64)))))).toNat : Int))).bind fun x1 =>
  some x1

theorem g_math_bits_Reverse64_ok (a0 : Int) (r : Int) (hf : g_math_bits_Reverse64 a0 = some r) : SCall Try.prog 175 [.one (.lit (.int .u64 a0))] (.one (.lit (.int .u64 r))) := by
  refine SCall.of Try.func175 rfl rfl rfl rfl fun S0 w0 => ?_
  unfold g_math_bits_Reverse64 at hf
  obtain ⟨x1, q1, hf⟩ := bind_some' hf
  replace hf := Option.some.inj hf
  subst hf
  exact toEnd_good allOk 10 _ _ [⟨[], [], [], [], [], [], []⟩, ⟨[], [], [], [], [], [], []⟩, ⟨[], [], [], [], [], [], []⟩, ⟨[], [], [], [], [], [], []⟩, ⟨[(1, .r (.one (.lit (.int .u64 x1))) [])], [], [], [], [], [], []⟩] [] [] [] [] [0 ≤ (1 : Int), 0 ≤ (1 : Int), 0 ≤ (2 : Int), 0 ≤ (2 : Int), 0 ≤ (4 : Int), 0 ≤ (4 : Int), SCall Try.prog 186 [.one (.lit (.int .u64 (IntKind.wrap .u64 (((BitVec.ofInt (IntKind.bits .u64) (IntKind.wrap .u64 (((BitVec.ofInt (IntKind.bits .u64) (Int.fdiv (IntKind.wrap .u64 (((BitVec.ofInt (IntKind.bits .u64) (IntKind.wrap .u64 (((BitVec.ofInt (IntKind.bits .u64) (Int.fdiv (IntKind.wrap .u64 (((BitVec.ofInt (IntKind.bits .u64) (IntKind.wrap .u64 (((BitVec.ofInt (IntKind.bits .u64) (Int.fdiv a0 (2 ^ (min (1 : Int).toNat (IntKind.bits .u64))))) &&& (BitVec.ofInt (IntKind.bits .u64) (6148914691236517205 : Int))).toNat : Int))) ||| (BitVec.ofInt (IntKind.bits .u64) (IntKind.wrap .u64 ((IntKind.wrap .u64 (((BitVec.ofInt (IntKind.bits .u64) a0) &&& (BitVec.ofInt (IntKind.bits .u64) (6148914691236517205 : Int))).toNat : Int)) * 2 ^ (min (1 : Int).toNat (IntKind.bits .u64)))))).toNat : Int)) (2 ^ (min (2 : Int).toNat (IntKind.bits .u64))))) &&& (BitVec.ofInt (IntKind.bits .u64) (3689348814741910323 : Int))).toNat : Int))) ||| (BitVec.ofInt (IntKind.bits .u64) (IntKind.wrap .u64 ((IntKind.wrap .u64 (((BitVec.ofInt (IntKind.bits .u64) (IntKind.wrap .u64 (((BitVec.ofInt (IntKind.bits .u64) (IntKind.wrap .u64 (((BitVec.ofInt (IntKind.bits .u64) (Int.fdiv a0 (2 ^ (min (1 : Int).toNat (IntKind.bits .u64))))) &&& (BitVec.ofInt (IntKind.bits .u64) (6148914691236517205 : Int))).toNat : Int))) ||| (BitVec.ofInt (IntKind.bits .u64) (IntKind.wrap .u64 ((IntKind.wrap .u64 (((BitVec.ofInt (IntKind.bits .u64) a0) &&& (BitVec.ofInt (IntKind.bits .u64) (6148914691236517205 : Int))).toNat : Int)) * 2 ^ (min (1 : Int).toNat (IntKind.bits .u64)))))).toNat : Int))) &&& (BitVec.ofInt (IntKind.bits .u64) (3689348814741910323 : Int))).toNat : Int)) * 2 ^ (min (2 : Int).toNat (IntKind.bits .u64)))))).toNat : Int)) (2 ^ (min (4 : Int).toNat (IntKind.bits .u64))))) &&& (BitVec.ofInt (IntKind.bits .u64) (1085102592571150095 : Int))).toNat : Int))) ||| (BitVec.ofInt (IntKind.bits .u64) (IntKind.wrap .u64 ((IntKind.wrap .u64 (((BitVec.ofInt (IntKind.bits .u64) (IntKind.wrap .u64 (((BitVec.ofInt (IntKind.bits .u64) (IntKind.wrap .u64 (((BitVec.ofInt (IntKind.bits .u64) (Int.fdiv (IntKind.wrap .u64 (((BitVec.ofInt (IntKind.bits .u64) (IntKind.wrap .u64 (((BitVec.ofInt (IntKind.bits .u64) (Int.fdiv a0 (2 ^ (min (1 : Int).toNat (IntKind.bits .u64))))) &&& (BitVec.ofInt (IntKind.bits .u64) (6148914691236517205 : Int))).toNat : Int))) ||| (BitVec.ofInt (IntKind.bits .u64) (IntKind.wrap .u64 ((IntKind.wrap .u64 (((BitVec.ofInt (IntKind.bits .u64) a0) &&& (BitVec.ofInt (IntKind.bits .u64) (6148914691236517205 : Int))).toNat : Int)) * 2 ^ (min (1 : Int).toNat (IntKind.bits .u64)))))).toNat : Int)) (2 ^ (min (2 : Int).toNat (IntKind.bits .u64))))) &&& (BitVec.ofInt (IntKind.bits .u64) (3689348814741910323 : Int))).toNat : Int))) ||| (BitVec.ofInt (IntKind.bits .u64) (IntKind.wrap .u64 ((IntKind.wrap .u64 (((BitVec.ofInt (IntKind.bits .u64) (IntKind.wrap .u64 (((BitVec.ofInt (IntKind.bits .u64) (IntKind.wrap .u64 (((BitVec.ofInt (IntKind.bits .u64) (Int.fdiv a0 (2 ^ (min (1 : Int).toNat (IntKind.bits .u64))))) &&& (BitVec.ofInt (IntKind.bits .u64) (6148914691236517205 : Int))).toNat : Int))) ||| (BitVec.ofInt (IntKind.bits .u64) (IntKind.wrap .u64 ((IntKind.wrap .u64 (((BitVec.ofInt (IntKind.bits .u64) a0) &&& (BitVec.ofInt (IntKind.bits .u64) (6148914691236517205 : Int))).toNat : Int)) * 2 ^ (min (1 : Int).toNat (IntKind.bits .u64)))))).toNat : Int))) &&& (BitVec.ofInt (IntKind.bits .u64) (3689348814741910323 : Int))).toNat : Int)) * 2 ^ (min (2 : Int).toNat (IntKind.bits .u64)))))).toNat : Int))) &&& (BitVec.ofInt (IntKind.bits .u64) (1085102592571150095 : Int))).toNat : Int)) * 2 ^ (min (4 : Int).toNat (IntKind.bits .u64)))))).toNat : Int))))] (.one (.lit (.int .u64 x1)))] (by kernel_rfl) rfl ⟨(by decide), (by decide), (by decide), (by decide), (by decide), (by decide), (g_math_bits_ReverseBytes64_ok (IntKind.wrap .u64 (((BitVec.ofInt (IntKind.bits .u64) (IntKind.wrap .u64 (((BitVec.ofInt (IntKind.bits .u64) (Int.fdiv (IntKind.wrap .u64 (((BitVec.ofInt (IntKind.bits .u64) (IntKind.wrap .u64 (((BitVec.ofInt (IntKind.bits .u64) (Int.fdiv (IntKind.wrap .u64 (((BitVec.ofInt (IntKind.bits .u64) (IntKind.wrap .u64 (((BitVec.ofInt (IntKind.bits .u64) (Int.fdiv a0 (2 ^ (min (1 : Int).toNat (IntKind.bits .u64))))) &&& (BitVec.ofInt (IntKind.bits .u64) (6148914691236517205 : Int))).toNat : Int))) ||| (BitVec.ofInt (IntKind.bits .u64) (IntKind.wrap .u64 ((IntKind.wrap .u64 (((BitVec.ofInt (IntKind.bits .u64) a0) &&& (BitVec.ofInt (IntKind.bits .u64) (6148914691236517205 : Int))).toNat : Int)) * 2 ^ (min (1 : Int).toNat (IntKind.bits .u64)))))).toNat : Int)) (2 ^ (min (2 : Int).toNat (IntKind.bits .u64))))) &&& (BitVec.ofInt (IntKind.bits .u64) (3689348814741910323 : Int))).toNat : Int))) ||| (BitVec.ofInt (IntKind.bits .u64) (IntKind.wrap .u64 ((IntKind.wrap .u64 (((BitVec.ofInt (IntKind.bits .u64) (IntKind.wrap .u64 (((BitVec.ofInt (IntKind.bits .u64) (IntKind.wrap .u64 (((BitVec.ofInt (IntKind.bits .u64) (Int.fdiv a0 (2 ^ (min (1 : Int).toNat (IntKind.bits .u64))))) &&& (BitVec.ofInt (IntKind.bits .u64) (6148914691236517205 : Int))).toNat : Int))) ||| (BitVec.ofInt (IntKind.bits .u64) (IntKind.wrap .u64 ((IntKind.wrap .u64 (((BitVec.ofInt (IntKind.bits .u64) a0) &&& (BitVec.ofInt (IntKind.bits .u64) (6148914691236517205 : Int))).toNat : Int)) * 2 ^ (min (1 : Int).toNat (IntKind.bits .u64)))))).toNat : Int))) &&& (BitVec.ofInt (IntKind.bits .u64) (3689348814741910323 : Int))).toNat : Int)) * 2 ^ (min (2 : Int).toNat (IntKind.bits .u64)))))).toNat : Int)) (2 ^ (min (4 : Int).toNat (IntKind.bits .u64))))) &&& (BitVec.ofInt (IntKind.bits .u64) (1085102592571150095 : Int))).toNat : Int))) ||| (BitVec.ofInt (IntKind.bits .u64) (IntKind.wrap .u64 ((IntKind.wrap .u64 (((BitVec.ofInt (IntKind.bits .u64) (IntKind.wrap .u64 (((BitVec.ofInt (IntKind.bits .u64) (IntKind.wrap .u64 (((BitVec.ofInt (IntKind.bits .u64) (Int.fdiv (IntKind.wrap .u64 (((BitVec.ofInt (IntKind.bits .u64) (IntKind.wrap .u64 (((BitVec.ofInt (IntKind.bits .u64) (Int.fdiv a0 (2 ^ (min (1 : Int).toNat (IntKind.bits .u64))))) &&& (BitVec.ofInt (IntKind.bits .u64) (6148914691236517205 : Int))).toNat : Int))) ||| (BitVec.ofInt (IntKind.bits .u64) (IntKind.wrap .u64 ((IntKind.wrap .u64 (((BitVec.ofInt (IntKind.bits .u64) a0) &&& (BitVec.ofInt (IntKind.bits .u64) (6148914691236517205 : Int))).toNat : Int)) * 2 ^ (min (1 : Int).toNat (IntKind.bits .u64)))))).toNat : Int)) (2 ^ (min (2 : Int).toNat (IntKind.bits .u64))))) &&& (BitVec.ofInt (IntKind.bits .u64) (3689348814741910323 : Int))).toNat : Int))) ||| (BitVec.ofInt (IntKind.bits .u64) (IntKind.wrap .u64 ((IntKind.wrap .u64 (((BitVec.ofInt (IntKind.bits .u64) (IntKind.wrap .u64 (((BitVec.ofInt (IntKind.bits .u64) (IntKind.wrap .u64 (((BitVec.ofInt (IntKind.bits .u64) (Int.fdiv a0 (2 ^ (min (1 : Int).toNat (IntKind.bits .u64))))) &&& (BitVec.ofInt (IntKind.bits .u64) (6148914691236517205 : Int))).toNat : Int))) ||| (BitVec.ofInt (IntKind.bits .u64) (IntKind.wrap .u64 ((IntKind.wrap .u64 (((BitVec.ofInt (IntKind.bits .u64) a0) &&& (BitVec.ofInt (IntKind.bits .u64) (6148914691236517205 : Int))).toNat : Int)) * 2 ^ (min (1 : Int).toNat (IntKind.bits .u64)))))).toNat : Int))) &&& (BitVec.ofInt (IntKind.bits .u64) (3689348814741910323 : Int))).toNat : Int)) * 2 ^ (min (2 : Int).toNat (IntKind.bits .u64)))))).toNat : Int))) &&& (BitVec.ofInt (IntKind.bits .u64) (1085102592571150095 : Int))).toNat : Int)) * 2 ^ (min (4 : Int).toNat (IntKind.bits .u64)))))).toNat : Int)) x1 q1), trivial⟩

/-- doorman/cidr.top -/
def g_cidr_top (a0 : Int) : Option Int :=
  need (0 ≤ (if (64 : Int) < (if (0 : Int) > a0 then (0 : Int) else a0) then (64 : Int) else (if (0 : Int) > a0 then (0 : Int) else a0))) <|
  (g_math_bits_Reverse64 (IntKind.wrap .u64 ((IntKind.wrap .u64 ((1 : Int) * 2 ^ (min (if (64 : Int) < (if (0 : Int) > a0 then (0 : Int) else a0) then (64 : Int) else (if (0 : Int) > a0 then (0 : Int) else a0)).toNat (IntKind.bits .u64)))) - (1 : Int)))).bind fun x1 =>
  some x1

theorem g_cidr_top_ok (a0 : Int) (r : Int) (hf : g_cidr_top a0 = some r) : SCall Try.prog 155 [.one (.lit (.int .i64 a0))] (.one (.lit (.int .u64 r))) := by
  refine SCall.of Try.func155 rfl rfl rfl rfl fun S0 w0 => ?_
  unfold g_cidr_top at hf
  obtain ⟨o1, hf⟩ := need_some hf
  obtain ⟨x1, q2, hf⟩ := bind_some' hf
  replace hf := Option.some.inj hf
  subst hf
  exact toEnd_good allOk 6 _ _ [⟨[], [], [], [], [], [], []⟩, ⟨[], [], [], [], [], [], []⟩, ⟨[(3, .r (.one (.lit (.int .u64 x1))) [])], [], [], [], [], [], []⟩] [] [] [] [] [0 ≤ (if (64 : Int) < (if (0 : Int) > a0 then (0 : Int) else a0) then (64 : Int) else (if (0 : Int) > a0 then (0 : Int) else a0)), SCall Try.prog 175 [.one (.lit (.int .u64 (IntKind.wrap .u64 ((IntKind.wrap .u64 ((1 : Int) * 2 ^ (min (if (64 : Int) < (if (0 : Int) > a0 then (0 : Int) else a0) then (64 : Int) else (if (0 : Int) > a0 then (0 : Int) else a0)).toNat (IntKind.bits .u64)))) - (1 : Int)))))] (.one (.lit (.int .u64 x1)))] (by kernel_rfl) rfl ⟨o1, (g_math_bits_Reverse64_ok (IntKind.wrap .u64 ((IntKind.wrap .u64 ((1 : Int) * 2 ^ (min (if (64 : Int) < (if (0 : Int) > a0 then (0 : Int) else a0) then (64 : Int) else (if (0 : Int) > a0 then (0 : Int) else a0)).toNat (IntKind.bits .u64)))) - (1 : Int))) x1 q2), trivial⟩

/-- doorman/cidr.masked -/
def g_cidr_masked (a0 : Int) (a1 : Int) (a2 : Int) : Option (Int × Int) :=
  (g_cidr_top a2).bind fun x1 =>
  (g_cidr_top (sub64 a2 (64 : Int))).bind fun x2 =>
  some ((IntKind.wrap .u64 (((BitVec.ofInt (IntKind.bits .u64) a0) &&& (BitVec.ofInt (IntKind.bits .u64) x1)).toNat : Int)), (IntKind.wrap .u64 (((BitVec.ofInt (IntKind.bits .u64) a1) &&& (BitVec.ofInt (IntKind.bits .u64) x2)).toNat : Int)))

theorem g_cidr_masked_ok (a0 : Int) (a1 : Int) (a2 : Int) (r : (Int × Int)) (hf : g_cidr_masked a0 a1 a2 = some r) : SCall Try.prog 156 [.one (.lit (.int .u64 a0)), .one (.lit (.int .u64 a1)), .one (.lit (.int .i64 a2))] (.tup [(false, (cI .u64) r.1), (false, (cI .u64) r.2)]) := by
  refine SCall.of Try.func156 rfl rfl rfl rfl fun S0 w0 => ?_
  unfold g_cidr_masked at hf
  obtain ⟨x1, q1, hf⟩ := bind_some' hf
  obtain ⟨x2, q2, hf⟩ := bind_some' hf
  replace hf := Option.some.inj hf
  subst hf
  exact toEnd_good allOk 4 _ _ [⟨[], [], [], [], [], [], []⟩, ⟨[(2, .r (.one (.lit (.int .u64 x1))) []), (7, .r (.one (.lit (.int .u64 x2))) [])], [], [], [], [], [], []⟩] [] [] [] [] [SCall Try.prog 155 [.one (.lit (.int .i64 a2))] (.one (.lit (.int .u64 x1))), SCall Try.prog 155 [.one (.lit (.int .i64 (sub64 a2 (64 : Int))))] (.one (.lit (.int .u64 x2)))] (by kernel_rfl) rfl ⟨(g_cidr_top_ok a2 x1 q1), (g_cidr_top_ok (sub64 a2 (64 : Int)) x2 q2), trivial⟩

/-- doorman/cidr.Mask -/
def g_cidr_Mask (a0 : T_api_Addr) (a1 : Int) : Option T_api_Addr :=
  (g_addr_Right a0).bind fun x1 =>
  bif (!x1) then
    some (T_api_Addr.mk false (0 : Int) (0 : Int))
  else
    (g_addr_Bits a0).bind fun x2 =>
    bif (!a0.fV6) then
      (g_cidr_top (if x2 < (if (0 : Int) > a1 then (0 : Int) else a1) then x2 else (if (0 : Int) > a1 then (0 : Int) else a1))).bind fun x3 =>
      some (T_api_Addr.mk a0.fV6 a0.fHi (IntKind.wrap .u64 (((BitVec.ofInt (IntKind.bits .u64) a0.fLo) &&& (BitVec.ofInt (IntKind.bits .u64) (Int.fdiv x3 (2 ^ (min (32 : Int).toNat (IntKind.bits .u64)))))).toNat : Int)))
    else
      (g_cidr_masked a0.fHi a0.fLo (if x2 < (if (0 : Int) > a1 then (0 : Int) else a1) then x2 else (if (0 : Int) > a1 then (0 : Int) else a1))).bind fun x4 =>
      some (T_api_Addr.mk a0.fV6 x4.1 x4.2)

theorem g_cidr_Mask_ok (a0 : T_api_Addr) (a1 : Int) (r : T_api_Addr) (hf : g_cidr_Mask a0 a1 = some r) : SCall Try.prog 129 [.agg (T_api_Addr.c a0), .one (.lit (.int .i64 a1))] (.agg (T_api_Addr.c r)) := by
  refine SCall.of Try.func129 rfl rfl rfl rfl fun S0 w0 => ?_
  unfold g_cidr_Mask at hf
  obtain ⟨x1, q1, hf⟩ := bind_some' hf
  rcases br_some hf with ⟨h2, hf⟩ | ⟨h2, hf⟩
  · replace hf := Option.some.inj hf
    subst hf
    exact toEnd_good allOk 8 _ _ [⟨[], [], [], [], [], [], []⟩, ⟨[(1, .r (.one (.lit (.bool x1))) [])], [], [], [], [], [], []⟩, ⟨[], [], [], [], [], [], []⟩] [true] [] [] [] [SCall Try.prog 77 [.agg (T_api_Addr.c a0)] (.one (.lit (.bool x1))), (!x1) = true] (by kernel_rfl) rfl ⟨(g_addr_Right_ok a0 x1 q1), h2, trivial⟩
  · obtain ⟨x2, q3, hf⟩ := bind_some' hf
    rcases br_some hf with ⟨h4, hf⟩ | ⟨h4, hf⟩
    · obtain ⟨x3, q5, hf⟩ := bind_some' hf
      replace hf := Option.some.inj hf
      subst hf
      exact toEnd_good allOk 17 _ _ [⟨[], [], [], [], [], [], []⟩, ⟨[(1, .r (.one (.lit (.bool x1))) [])], [], [], [], [], [], []⟩, ⟨[(3, .r (.one (.lit (.int .i64 x2))) [])], [], [], [], [], [], []⟩, ⟨[], [], [], [], [], [], []⟩, ⟨[(3, .r (.one (.lit (.int .u64 x3))) [])], [], [], [[], [0], [], [2], [3, 2], [1, 0, 4, 3, 2], [0, 1, 2, 3, 4, 5], [6, 0, 1, 2, 3, 4, 5]], [], [], []⟩, ⟨[], [], [], [], [], [], []⟩] [false, true] [] [] [] [SCall Try.prog 77 [.agg (T_api_Addr.c a0)] (.one (.lit (.bool x1))), (!x1) = false, SCall Try.prog 130 [.agg (T_api_Addr.c a0)] (.one (.lit (.int .i64 x2))), (!a0.fV6) = true, SCall Try.prog 155 [.one (.lit (.int .i64 (if x2 < (if (0 : Int) > a1 then (0 : Int) else a1) then x2 else (if (0 : Int) > a1 then (0 : Int) else a1))))] (.one (.lit (.int .u64 x3))), 0 ≤ (32 : Int)] (by kernel_rfl) rfl ⟨(g_addr_Right_ok a0 x1 q1), h2, (g_addr_Bits_ok a0 x2 q3), h4, (g_cidr_top_ok (if x2 < (if (0 : Int) > a1 then (0 : Int) else a1) then x2 else (if (0 : Int) > a1 then (0 : Int) else a1)) x3 q5), (by decide), trivial⟩
    · obtain ⟨x4, q6, hf⟩ := bind_some' hf
      replace hf := Option.some.inj hf
      subst hf
      exact toEnd_good allOk 18 _ _ [⟨[], [], [], [], [], [], []⟩, ⟨[(1, .r (.one (.lit (.bool x1))) [])], [], [], [], [], [], []⟩, ⟨[(3, .r (.one (.lit (.int .i64 x2))) [])], [], [], [], [], [], []⟩, ⟨[], [], [], [], [], [], []⟩, ⟨[(5, .r (.tup [(false, (cI .u64) x4.1), (false, (cI .u64) x4.2)]) [])], [], [], [], [], [], []⟩, ⟨[], [], [], [], [], [], []⟩] [false, false] [] [] [] [SCall Try.prog 77 [.agg (T_api_Addr.c a0)] (.one (.lit (.bool x1))), (!x1) = false, SCall Try.prog 130 [.agg (T_api_Addr.c a0)] (.one (.lit (.int .i64 x2))), (!a0.fV6) = false, SCall Try.prog 156 [.one (.lit (.int .u64 a0.fHi)), .one (.lit (.int .u64 a0.fLo)), .one (.lit (.int .i64 (if x2 < (if (0 : Int) > a1 then (0 : Int) else a1) then x2 else (if (0 : Int) > a1 then (0 : Int) else a1))))] (.tup [(false, (cI .u64) x4.1), (false, (cI .u64) x4.2)])] (by kernel_rfl) rfl ⟨(g_addr_Right_ok a0 x1 q1), h2, (g_addr_Bits_ok a0 x2 q3), h4, (g_cidr_masked_ok a0.fHi a0.fLo (if x2 < (if (0 : Int) > a1 then (0 : Int) else a1) then x2 else (if (0 : Int) > a1 then (0 : Int) else a1)) x4 q6), trivial⟩

/-- doorman/cidr.Make -/
def g_cidr_Make (a0 : T_api_Addr) (a1 : Int) : Option (T_api_Net × Bool) :=
  (g_addr_Right a0).bind fun x1 =>
  bif (!x1) then
    some ((T_api_Net.mk (T_api_Addr.mk false (0 : Int) (0 : Int)) (0 : Int)), false)
  else
    bif (decide (a1 < (0 : Int))) then
      some ((T_api_Net.mk (T_api_Addr.mk false (0 : Int) (0 : Int)) (0 : Int)), false)
    else
      (g_addr_Bits a0).bind fun x2 =>
      bif (decide (a1 > x2)) then
        some ((T_api_Net.mk (T_api_Addr.mk false (0 : Int) (0 : Int)) (0 : Int)), false)
      else
        (g_cidr_Mask a0 a1).bind fun x3 =>
        some ((T_api_Net.mk x3 a1), true)

theorem g_cidr_Make_ok (a0 : T_api_Addr) (a1 : Int) (r : (T_api_Net × Bool)) (hf : g_cidr_Make a0 a1 = some r) : SCall Try.prog 126 [.agg (T_api_Addr.c a0), .one (.lit (.int .i64 a1))] (.tup [(true, T_api_Net.c r.1), (false, cB r.2)]) := by
  refine SCall.of Try.func126 rfl rfl rfl rfl fun S0 w0 => ?_
  unfold g_cidr_Make at hf
  obtain ⟨x1, q1, hf⟩ := bind_some' hf
  rcases br_some hf with ⟨h2, hf⟩ | ⟨h2, hf⟩
  · replace hf := Option.some.inj hf
    subst hf
    exact toEnd_good allOk 8 _ _ [⟨[], [], [], [], [], [], []⟩, ⟨[(1, .r (.one (.lit (.bool x1))) [])], [(3, true)], [], [], [], [], []⟩, ⟨[], [], [], [], [], [], []⟩] [true] [] [] [] [SCall Try.prog 77 [.agg (T_api_Addr.c a0)] (.one (.lit (.bool x1))), (!x1) = true, true = true] (by kernel_rfl) rfl ⟨(g_addr_Right_ok a0 x1 q1), h2, rfl, trivial⟩
  · rcases br_some hf with ⟨h3, hf⟩ | ⟨h3, hf⟩
    · replace hf := Option.some.inj hf
      subst hf
      exact toEnd_good allOk 8 _ _ [⟨[], [], [], [], [], [], []⟩, ⟨[(1, .r (.one (.lit (.bool x1))) [])], [(3, false), (7, true)], [], [], [], [], []⟩, ⟨[], [], [], [], [], [], []⟩] [true] [] [] [] [SCall Try.prog 77 [.agg (T_api_Addr.c a0)] (.one (.lit (.bool x1))), (!x1) = false, (decide (a1 < (0 : Int))) = true, true = true] (by kernel_rfl) rfl ⟨(g_addr_Right_ok a0 x1 q1), h2, h3, rfl, trivial⟩
    · obtain ⟨x2, q4, hf⟩ := bind_some' hf
      rcases br_some hf with ⟨h5, hf⟩ | ⟨h5, hf⟩
      · replace hf := Option.some.inj hf
        subst hf
        exact toEnd_good allOk 8 _ _ [⟨[], [], [], [], [], [], []⟩, ⟨[(1, .r (.one (.lit (.bool x1))) []), (10, .r (.one (.lit (.int .i64 x2))) [])], [(3, false), (7, false)], [], [], [], [], []⟩, ⟨[], [], [], [], [], [], []⟩] [true] [] [] [] [SCall Try.prog 77 [.agg (T_api_Addr.c a0)] (.one (.lit (.bool x1))), (!x1) = false, (decide (a1 < (0 : Int))) = false, SCall Try.prog 130 [.agg (T_api_Addr.c a0)] (.one (.lit (.int .i64 x2))), (decide (a1 > x2)) = true] (by kernel_rfl) rfl ⟨(g_addr_Right_ok a0 x1 q1), h2, h3, (g_addr_Bits_ok a0 x2 q4), h5, trivial⟩
      · obtain ⟨x3, q6, hf⟩ := bind_some' hf
        replace hf := Option.some.inj hf
        subst hf
        exact toEnd_good allOk 9 _ _ [⟨[], [], [], [], [], [], []⟩, ⟨[(1, .r (.one (.lit (.bool x1))) []), (10, .r (.one (.lit (.int .i64 x2))) [])], [(3, false), (7, false)], [], [], [], [], []⟩, ⟨[(2, .r (.agg (T_api_Addr.c x3)) [])], [], [], [], [], [], []⟩] [false] [] [] [] [SCall Try.prog 77 [.agg (T_api_Addr.c a0)] (.one (.lit (.bool x1))), (!x1) = false, (decide (a1 < (0 : Int))) = false, SCall Try.prog 130 [.agg (T_api_Addr.c a0)] (.one (.lit (.int .i64 x2))), (decide (a1 > x2)) = false, SCall Try.prog 129 [.agg (T_api_Addr.c a0), .one (.lit (.int .i64 a1))] (.agg (T_api_Addr.c x3))] (by kernel_rfl) rfl ⟨(g_addr_Right_ok a0 x1 q1), h2, h3, (g_addr_Bits_ok a0 x2 q4), h5, (g_cidr_Mask_ok a0 a1 x3 q6), trivial⟩

/-- doorman/group.Of -/
def g_group_Of (a0 : T_api_Addr) : Option T_api_Net :=
  (g_group_bits a0).bind fun x1 =>
  (g_cidr_Make a0 x1).bind fun x2 =>
  some x2.1

theorem g_group_Of_ok (a0 : T_api_Addr) (r : T_api_Net) (hf : g_group_Of a0 = some r) : SCall Try.prog 108 [.agg (T_api_Addr.c a0)] (.agg (T_api_Net.c r)) := by
  refine SCall.of Try.func108 rfl rfl rfl rfl fun S0 w0 => ?_
  unfold g_group_Of at hf
  obtain ⟨x1, q1, hf⟩ := bind_some' hf
  obtain ⟨x2, q2, hf⟩ := bind_some' hf
  replace hf := Option.some.inj hf
  subst hf
  exact toEnd_good allOk 6 _ _ [⟨[], [], [], [], [], [], []⟩, ⟨[(2, .r (.one (.lit (.int .i64 x1))) []), (3, .r (.tup [(true, T_api_Net.c x2.1), (false, cB x2.2)]) [])], [], [], [[], [], [1], [0, 2, 1], [3, 0, 2, 1], [4, 3, 0, 2, 1], [4, 3, 0, 2, 1], [], [7, 5, 4, 3, 0, 2, 1], [6, 4, 3, 0, 2, 1, 8, 7, 5]], [], [], []⟩, ⟨[], [], [], [], [], [], []⟩] [] [] [] [] [SCall Try.prog 144 [.agg (T_api_Addr.c a0)] (.one (.lit (.int .i64 x1))), SCall Try.prog 126 [.agg (T_api_Addr.c a0), .one (.lit (.int .i64 x1))] (.tup [(true, T_api_Net.c x2.1), (false, cB x2.2)])] (by kernel_rfl) rfl ⟨(g_group_bits_ok a0 x1 q1), (g_cidr_Make_ok a0 x1 x2 q2), trivial⟩

/-- doorman/addr.family -/
def g_addr_family (a0 : T_api_Addr) : Option Int :=
  bif a0.fV6 then
    some (1 : Int)
  else
    some (0 : Int)

theorem g_addr_family_ok (a0 : T_api_Addr) (r : Int) (hf : g_addr_family a0 = some r) : SCall Try.prog 158 [.agg (T_api_Addr.c a0)] (.one (.lit (.int .i64 r))) := by
  refine SCall.of Try.func158 rfl rfl rfl rfl fun S0 w0 => ?_
  unfold g_addr_family at hf
  rcases br_some hf with ⟨h1, hf⟩ | ⟨h1, hf⟩
  · replace hf := Option.some.inj hf
    subst hf
    exact toEnd_good allOk 8 _ _ [⟨[], [], [], [], [], [], []⟩, ⟨[], [], [], [], [], [], []⟩, ⟨[], [], [], [], [], [], []⟩] [true] [] [] [] [a0.fV6 = true] (by kernel_rfl) rfl ⟨h1, trivial⟩
  · replace hf := Option.some.inj hf
    subst hf
    exact toEnd_good allOk 9 _ _ [⟨[], [], [], [], [], [], []⟩, ⟨[], [], [], [], [], [], []⟩, ⟨[], [], [], [], [], [], []⟩] [false] [] [] [] [a0.fV6 = false] (by kernel_rfl) rfl ⟨h1, trivial⟩

/-- cmp.isNaN[int] -/
def g_cmp_isNaN_int (a0 : Int) : Option Bool :=
  some (a0 != a0)

theorem g_cmp_isNaN_int_ok (a0 : Int) (r : Bool) (hf : g_cmp_isNaN_int a0 = some r) : SCall Try.prog 160 [.one (.lit (.int .i64 a0))] (.one (.lit (.bool r))) := by
  refine SCall.of Try.func160 rfl rfl rfl rfl fun S0 w0 => ?_
  unfold g_cmp_isNaN_int at hf
  replace hf := Option.some.inj hf
  subst hf
  exact toEnd_good allOk 4 _ _ [⟨[], [], [], [], [], [], []⟩, ⟨[], [], [], [], [], [], []⟩] [] [] [] [] [] (by kernel_rfl) rfl trivial

/-- cmp.Compare[int] -/
def g_cmp_Compare_int (a0 : Int) (a1 : Int) : Option Int :=
  (g_cmp_isNaN_int a0).bind fun x1 =>
  (g_cmp_isNaN_int a1).bind fun x2 =>
  bif x1 then
    bif x2 then
      some (0 : Int)
    else
      some (-1 : Int)
  else
    bif x2 then
      some (1 : Int)
    else
      bif (decide (a0 < a1)) then
        some (-1 : Int)
      else
        bif (decide (a0 > a1)) then
          some (1 : Int)
        else
          some (0 : Int)

theorem g_cmp_Compare_int_ok (a0 : Int) (a1 : Int) (r : Int) (hf : g_cmp_Compare_int a0 a1 = some r) : SCall Try.prog 138 [.one (.lit (.int .i64 a0)), .one (.lit (.int .i64 a1))] (.one (.lit (.int .i64 r))) := by
  refine SCall.of Try.func138 rfl rfl rfl rfl fun S0 w0 => ?_
  unfold g_cmp_Compare_int at hf
  obtain ⟨x1, q1, hf⟩ := bind_some' hf
  obtain ⟨x2, q2, hf⟩ := bind_some' hf
  rcases br_some hf with ⟨h3, hf⟩ | ⟨h3, hf⟩
  · rcases br_some hf with ⟨h4, hf⟩ | ⟨h4, hf⟩
    · replace hf := Option.some.inj hf
      subst hf
      exact toEnd_good allOk 16 _ _ [⟨[], [], [], [], [], [], []⟩, ⟨[(1, .r (.one (.lit (.bool x1))) [])], [], [], [], [], [], []⟩, ⟨[(1, .r (.one (.lit (.bool x2))) [])], [], [], [], [], [], []⟩, ⟨[], [], [], [], [], [], []⟩, ⟨[], [], [], [], [], [], []⟩, ⟨[], [], [], [], [], [], []⟩] [true, true] [] [] [] [SCall Try.prog 160 [.one (.lit (.int .i64 a0))] (.one (.lit (.bool x1))), SCall Try.prog 160 [.one (.lit (.int .i64 a1))] (.one (.lit (.bool x2))), x1 = true, x2 = true] (by kernel_rfl) rfl ⟨(g_cmp_isNaN_int_ok a0 x1 q1), (g_cmp_isNaN_int_ok a1 x2 q2), h3, h4, trivial⟩
    · replace hf := Option.some.inj hf
      subst hf
      exact toEnd_good allOk 17 _ _ [⟨[], [], [], [], [], [], []⟩, ⟨[(1, .r (.one (.lit (.bool x1))) [])], [], [], [], [], [], []⟩, ⟨[(1, .r (.one (.lit (.bool x2))) [])], [], [], [], [], [], []⟩, ⟨[], [], [], [], [], [], []⟩, ⟨[], [], [], [], [], [], []⟩, ⟨[], [], [], [], [], [], []⟩] [true, false] [] [] [] [SCall Try.prog 160 [.one (.lit (.int .i64 a0))] (.one (.lit (.bool x1))), SCall Try.prog 160 [.one (.lit (.int .i64 a1))] (.one (.lit (.bool x2))), x1 = true, x2 = false] (by kernel_rfl) rfl ⟨(g_cmp_isNaN_int_ok a0 x1 q1), (g_cmp_isNaN_int_ok a1 x2 q2), h3, h4, trivial⟩
  · rcases br_some hf with ⟨h5, hf⟩ | ⟨h5, hf⟩
    · replace hf := Option.some.inj hf
      subst hf
      exact toEnd_good allOk 17 _ _ [⟨[], [], [], [], [], [], []⟩, ⟨[(1, .r (.one (.lit (.bool x1))) [])], [], [], [], [], [], []⟩, ⟨[(1, .r (.one (.lit (.bool x2))) [])], [], [], [], [], [], []⟩, ⟨[], [], [], [], [], [], []⟩, ⟨[], [], [], [], [], [], []⟩, ⟨[], [], [], [], [], [], []⟩] [false, true] [] [] [] [SCall Try.prog 160 [.one (.lit (.int .i64 a0))] (.one (.lit (.bool x1))), SCall Try.prog 160 [.one (.lit (.int .i64 a1))] (.one (.lit (.bool x2))), x1 = false, x2 = true] (by kernel_rfl) rfl ⟨(g_cmp_isNaN_int_ok a0 x1 q1), (g_cmp_isNaN_int_ok a1 x2 q2), h3, h5, trivial⟩
    · rcases br_some hf with ⟨h6, hf⟩ | ⟨h6, hf⟩
      · replace hf := Option.some.inj hf
        subst hf
        exact toEnd_good allOk 22 _ _ [⟨[], [], [], [], [], [], []⟩, ⟨[(1, .r (.one (.lit (.bool x1))) [])], [], [], [], [], [], []⟩, ⟨[(1, .r (.one (.lit (.bool x2))) [])], [], [], [], [], [], []⟩, ⟨[], [], [], [], [], [], []⟩, ⟨[], [], [], [], [], [], []⟩, ⟨[], [], [], [], [], [], []⟩, ⟨[], [], [], [], [], [], []⟩] [false, false, true] [] [] [] [SCall Try.prog 160 [.one (.lit (.int .i64 a0))] (.one (.lit (.bool x1))), SCall Try.prog 160 [.one (.lit (.int .i64 a1))] (.one (.lit (.bool x2))), x1 = false, x2 = false, (decide (a0 < a1)) = true] (by kernel_rfl) rfl ⟨(g_cmp_isNaN_int_ok a0 x1 q1), (g_cmp_isNaN_int_ok a1 x2 q2), h3, h5, h6, trivial⟩
      · rcases br_some hf with ⟨h7, hf⟩ | ⟨h7, hf⟩
        · replace hf := Option.some.inj hf
          subst hf
          exact toEnd_good allOk 27 _ _ [⟨[], [], [], [], [], [], []⟩, ⟨[(1, .r (.one (.lit (.bool x1))) [])], [], [], [], [], [], []⟩, ⟨[(1, .r (.one (.lit (.bool x2))) [])], [], [], [], [], [], []⟩, ⟨[], [], [], [], [], [], []⟩, ⟨[], [], [], [], [], [], []⟩, ⟨[], [], [], [], [], [], []⟩, ⟨[], [], [], [], [], [], []⟩, ⟨[], [], [], [], [], [], []⟩] [false, false, false, true] [] [] [] [SCall Try.prog 160 [.one (.lit (.int .i64 a0))] (.one (.lit (.bool x1))), SCall Try.prog 160 [.one (.lit (.int .i64 a1))] (.one (.lit (.bool x2))), x1 = false, x2 = false, (decide (a0 < a1)) = false, (decide (a0 > a1)) = true] (by kernel_rfl) rfl ⟨(g_cmp_isNaN_int_ok a0 x1 q1), (g_cmp_isNaN_int_ok a1 x2 q2), h3, h5, h6, h7, trivial⟩
        · replace hf := Option.some.inj hf
          subst hf
          exact toEnd_good allOk 28 _ _ [⟨[], [], [], [], [], [], []⟩, ⟨[(1, .r (.one (.lit (.bool x1))) [])], [], [], [], [], [], []⟩, ⟨[(1, .r (.one (.lit (.bool x2))) [])], [], [], [], [], [], []⟩, ⟨[], [], [], [], [], [], []⟩, ⟨[], [], [], [], [], [], []⟩, ⟨[], [], [], [], [], [], []⟩, ⟨[], [], [], [], [], [], []⟩, ⟨[], [], [], [], [], [], []⟩] [false, false, false, false] [] [] [] [SCall Try.prog 160 [.one (.lit (.int .i64 a0))] (.one (.lit (.bool x1))), SCall Try.prog 160 [.one (.lit (.int .i64 a1))] (.one (.lit (.bool x2))), x1 = false, x2 = false, (decide (a0 < a1)) = false, (decide (a0 > a1)) = false] (by kernel_rfl) rfl ⟨(g_cmp_isNaN_int_ok a0 x1 q1), (g_cmp_isNaN_int_ok a1 x2 q2), h3, h5, h6, h7, trivial⟩

/-- cmp.isNaN[uint64] -/
def g_cmp_isNaN_uint64 (a0 : Int) : Option Bool :=
  some (a0 != a0)

theorem g_cmp_isNaN_uint64_ok (a0 : Int) (r : Bool) (hf : g_cmp_isNaN_uint64 a0 = some r) : SCall Try.prog 176 [.one (.lit (.int .u64 a0))] (.one (.lit (.bool r))) := by
  refine SCall.of Try.func176 rfl rfl rfl rfl fun S0 w0 => ?_
  unfold g_cmp_isNaN_uint64 at hf
  replace hf := Option.some.inj hf
  subst hf
  exact toEnd_good allOk 4 _ _ [⟨[], [], [], [], [], [], []⟩, ⟨[], [], [], [], [], [], []⟩] [] [] [] [] [] (by kernel_rfl) rfl trivial

/-- cmp.Compare[uint64] -/
def g_cmp_Compare_uint64 (a0 : Int) (a1 : Int) : Option Int :=
  (g_cmp_isNaN_uint64 a0).bind fun x1 =>
  (g_cmp_isNaN_uint64 a1).bind fun x2 =>
  bif x1 then
    bif x2 then
      some (0 : Int)
    else
      some (-1 : Int)
  else
    bif x2 then
      some (1 : Int)
    else
      bif (decide (a0 < a1)) then
        some (-1 : Int)
      else
        bif (decide (a0 > a1)) then
          some (1 : Int)
        else
          some (0 : Int)

theorem g_cmp_Compare_uint64_ok (a0 : Int) (a1 : Int) (r : Int) (hf : g_cmp_Compare_uint64 a0 a1 = some r) : SCall Try.prog 159 [.one (.lit (.int .u64 a0)), .one (.lit (.int .u64 a1))] (.one (.lit (.int .i64 r))) := by
  refine SCall.of Try.func159 rfl rfl rfl rfl fun S0 w0 => ?_
  unfold g_cmp_Compare_uint64 at hf
  obtain ⟨x1, q1, hf⟩ := bind_some' hf
  obtain ⟨x2, q2, hf⟩ := bind_some' hf
  rcases br_some hf with ⟨h3, hf⟩ | ⟨h3, hf⟩
  · rcases br_some hf with ⟨h4, hf⟩ | ⟨h4, hf⟩
    · replace hf := Option.some.inj hf
      subst hf
      exact toEnd_good allOk 16 _ _ [⟨[], [], [], [], [], [], []⟩, ⟨[(1, .r (.one (.lit (.bool x1))) [])], [], [], [], [], [], []⟩, ⟨[(1, .r (.one (.lit (.bool x2))) [])], [], [], [], [], [], []⟩, ⟨[], [], [], [], [], [], []⟩, ⟨[], [], [], [], [], [], []⟩, ⟨[], [], [], [], [], [], []⟩] [true, true] [] [] [] [SCall Try.prog 176 [.one (.lit (.int .u64 a0))] (.one (.lit (.bool x1))), SCall Try.prog 176 [.one (.lit (.int .u64 a1))] (.one (.lit (.bool x2))), x1 = true, x2 = true] (by kernel_rfl) rfl ⟨(g_cmp_isNaN_uint64_ok a0 x1 q1), (g_cmp_isNaN_uint64_ok a1 x2 q2), h3, h4, trivial⟩
    · replace hf := Option.some.inj hf
      subst hf
      exact toEnd_good allOk 17 _ _ [⟨[], [], [], [], [], [], []⟩, ⟨[(1, .r (.one (.lit (.bool x1))) [])], [], [], [], [], [], []⟩, ⟨[(1, .r (.one (.lit (.bool x2))) [])], [], [], [], [], [], []⟩, ⟨[], [], [], [], [], [], []⟩, ⟨[], [], [], [], [], [], []⟩, ⟨[], [], [], [], [], [], []⟩] [true, false] [] [] [] [SCall Try.prog 176 [.one (.lit (.int .u64 a0))] (.one (.lit (.bool x1))), SCall Try.prog 176 [.one (.lit (.int .u64 a1))] (.one (.lit (.bool x2))), x1 = true, x2 = false] (by kernel_rfl) rfl ⟨(g_cmp_isNaN_uint64_ok a0 x1 q1), (g_cmp_isNaN_uint64_ok a1 x2 q2), h3, h4, trivial⟩
  · rcases br_some hf with ⟨h5, hf⟩ | ⟨h5, hf⟩
    · replace hf := Option.some.inj hf
      subst hf
      exact toEnd_good allOk 17 _ _ [⟨[], [], [], [], [], [], []⟩, ⟨[(1, .r (.one (.lit (.bool x1))) [])], [], [], [], [], [], []⟩, ⟨[(1, .r (.one (.lit (.bool x2))) [])], [], [], [], [], [], []⟩, ⟨[], [], [], [], [], [], []⟩, ⟨[], [], [], [], [], [], []⟩, ⟨[], [], [], [], [], [], []⟩] [false, true] [] [] [] [SCall Try.prog 176 [.one (.lit (.int .u64 a0))] (.one (.lit (.bool x1))), SCall Try.prog 176 [.one (.lit (.int .u64 a1))] (.one (.lit (.bool x2))), x1 = false, x2 = true] (by kernel_rfl) rfl ⟨(g_cmp_isNaN_uint64_ok a0 x1 q1), (g_cmp_isNaN_uint64_ok a1 x2 q2), h3, h5, trivial⟩
    · rcases br_some hf with ⟨h6, hf⟩ | ⟨h6, hf⟩
      · replace hf := Option.some.inj hf
        subst hf
        exact toEnd_good allOk 22 _ _ [⟨[], [], [], [], [], [], []⟩, ⟨[(1, .r (.one (.lit (.bool x1))) [])], [], [], [], [], [], []⟩, ⟨[(1, .r (.one (.lit (.bool x2))) [])], [], [], [], [], [], []⟩, ⟨[], [], [], [], [], [], []⟩, ⟨[], [], [], [], [], [], []⟩, ⟨[], [], [], [], [], [], []⟩, ⟨[], [], [], [], [], [], []⟩] [false, false, true] [] [] [] [SCall Try.prog 176 [.one (.lit (.int .u64 a0))] (.one (.lit (.bool x1))), SCall Try.prog 176 [.one (.lit (.int .u64 a1))] (.one (.lit (.bool x2))), x1 = false, x2 = false, (decide (a0 < a1)) = true] (by kernel_rfl) rfl ⟨(g_cmp_isNaN_uint64_ok a0 x1 q1), (g_cmp_isNaN_uint64_ok a1 x2 q2), h3, h5, h6, trivial⟩
      · rcases br_some hf with ⟨h7, hf⟩ | ⟨h7, hf⟩
        · replace hf := Option.some.inj hf
          subst hf
          exact toEnd_good allOk 27 _ _ [⟨[], [], [], [], [], [], []⟩, ⟨[(1, .r (.one (.lit (.bool x1))) [])], [], [], [], [], [], []⟩, ⟨[(1, .r (.one (.lit (.bool x2))) [])], [], [], [], [], [], []⟩, ⟨[], [], [], [], [], [], []⟩, ⟨[], [], [], [], [], [], []⟩, ⟨[], [], [], [], [], [], []⟩, ⟨[], [], [], [], [], [], []⟩, ⟨[], [], [], [], [], [], []⟩] [false, false, false, true] [] [] [] [SCall Try.prog 176 [.one (.lit (.int .u64 a0))] (.one (.lit (.bool x1))), SCall Try.prog 176 [.one (.lit (.int .u64 a1))] (.one (.lit (.bool x2))), x1 = false, x2 = false, (decide (a0 < a1)) = false, (decide (a0 > a1)) = true] (by kernel_rfl) rfl ⟨(g_cmp_isNaN_uint64_ok a0 x1 q1), (g_cmp_isNaN_uint64_ok a1 x2 q2), h3, h5, h6, h7, trivial⟩
        · replace hf := Option.some.inj hf
          subst hf
          exact toEnd_good allOk 28 _ _ [⟨[], [], [], [], [], [], []⟩, ⟨[(1, .r (.one (.lit (.bool x1))) [])], [], [], [], [], [], []⟩, ⟨[(1, .r (.one (.lit (.bool x2))) [])], [], [], [], [], [], []⟩, ⟨[], [], [], [], [], [], []⟩, ⟨[], [], [], [], [], [], []⟩, ⟨[], [], [], [], [], [], []⟩, ⟨[], [], [], [], [], [], []⟩, ⟨[], [], [], [], [], [], []⟩] [false, false, false, false] [] [] [] [SCall Try.prog 176 [.one (.lit (.int .u64 a0))] (.one (.lit (.bool x1))), SCall Try.prog 176 [.one (.lit (.int .u64 a1))] (.one (.lit (.bool x2))), x1 = false, x2 = false, (decide (a0 < a1)) = false, (decide (a0 > a1)) = false] (by kernel_rfl) rfl ⟨(g_cmp_isNaN_uint64_ok a0 x1 q1), (g_cmp_isNaN_uint64_ok a1 x2 q2), h3, h5, h6, h7, trivial⟩

def g_cmp_Or_int_c0   : Nat → Int → (List Int) → Int → Int → Option Int
  | 0, _, _, _, _ => none
  | fu + 1, v3, v6, v7, v8 =>
    bif (decide (v8 < v7)) then
      need (0 ≤ v8 ∧ v8 < ((v6.length : Nat) : Int)) <|
      bif ((v6.getD v8.toNat (0 : Int)) != v3) then
        some (v6.getD v8.toNat (0 : Int))
      else
        g_cmp_Or_int_c0   fu v3 v6 v7 (add64 v8 (1 : Int))
    else
      some v3

theorem g_cmp_Or_int_c0_ok (S0 : Nat → Prop) (w0 : Start)   : ∀ (fu : Nat) (v3 : Int) (v6 : (List Int)) (v7 : Int) (v8 : Int) (r : Int), g_cmp_Or_int_c0   fu v3 v6 v7 v8 = some r → Good Try.prog 18 S0 w0 (bodyPost Try.prog Try.f136 (Post S0 w0 (.one (.lit (.int .i64 r))))) (at_ [1, 1, 0, 1, 0] (bodyOf Try.f136)) ⟨[(3, .one (.lit (.int .i64 v3))), (6, .one (cL 1 (cI .i64) (0 : Int) v6)), (7, .one (.lit (.int .i64 v7))), (8, .one (.lit (.int .i64 v8)))], []⟩ := by
  intro fu
  induction fu with
  | zero =>
    intro v3 v6 v7 v8 r hf
    simp [g_cmp_Or_int_c0] at hf
  | succ fu ih =>
    intro v3 v6 v7 v8 r hf
    unfold g_cmp_Or_int_c0 at hf
    rcases br_some hf with ⟨h1, hf⟩ | ⟨h1, hf⟩
    · obtain ⟨o2, hf⟩ := need_some hf
      rcases br_some hf with ⟨h3, hf⟩ | ⟨h3, hf⟩
      · replace hf := Option.some.inj hf
        subst hf
        exact toEnd_good allOk 15 _ _ [⟨[], [], [], [], [], [], []⟩, ⟨[], [], [], [], [], [], []⟩, ⟨[], [], [], [], [], [], []⟩, ⟨[], [], [], [], [], [], []⟩] [true, true] [] [] [] [(decide (v8 < v7)) = true, 0 ≤ v8 ∧ v8 < ((v6.length : Nat) : Int), ((v6.getD v8.toNat (0 : Int)) != v3) = true] (by kernel_rfl) rfl ⟨h1, o2, h3, trivial⟩
      · exact toK_good allOk Post.ends 17 _ _ _ _ [⟨[], [], [], [], [], [], []⟩, ⟨[], [], [], [], [], [], []⟩, ⟨[], [], [], [], [], [], []⟩, ⟨[], [], [], [], [], [], []⟩] [true, false] ⟨[], [], [], [], [], [3, 6, 7, 8], [], []⟩ [(decide (v8 < v7)) = true, 0 ≤ v8 ∧ v8 < ((v6.length : Nat) : Int), ((v6.getD v8.toNat (0 : Int)) != v3) = false] (by kernel_rfl) ⟨h1, o2, h3, trivial⟩ (ih v3 v6 v7 (add64 v8 (1 : Int)) r hf)
    · replace hf := Option.some.inj hf
      subst hf
      exact toEnd_good allOk 8 _ _ [⟨[], [], [], [], [], [], []⟩, ⟨[], [], [], [], [], [], []⟩] [false] [] [] [] [(decide (v8 < v7)) = false] (by kernel_rfl) rfl ⟨h1, trivial⟩

/-- cmp.Or[int] -/
def g_cmp_Or_int (a0 : (List Int)) : Option Int :=
  g_cmp_Or_int_c0   ((((a0.length : Nat) : Int) - (0 : Int)).toNat + 2) (0 : Int) a0 ((a0.length : Nat) : Int) (0 : Int)

theorem g_cmp_Or_int_ok (a0 : (List Int)) (r : Int) (hf : g_cmp_Or_int a0 = some r) : SCall Try.prog 136 [.one (cL 1 (cI .i64) (0 : Int) a0)] (.one (.lit (.int .i64 r))) := by
  refine SCall.of Try.func136 rfl rfl rfl rfl fun S0 w0 => ?_
  unfold g_cmp_Or_int at hf
  exact toK_good allOk Post.ends 8 _ _ _ _ [⟨[], [], [], [], [], [], []⟩, ⟨[], [], [], [], [], [], []⟩, ⟨[], [], [], [], [], [], []⟩] [] ⟨[], [], [], [], [], [3, 6, 7, 8], [], []⟩ [] (by kernel_rfl) trivial (g_cmp_Or_int_c0_ok S0 w0    ((((a0.length : Nat) : Int) - (0 : Int)).toNat + 2) (0 : Int) a0 ((a0.length : Nat) : Int) (0 : Int) r hf)

/-- doorman/addr.Compare -/
def g_addr_Compare (a0 : T_api_Addr) (a1 : T_api_Addr) : Option Int :=
  (g_addr_family a0).bind fun x1 =>
  (g_addr_family a1).bind fun x2 =>
  (g_cmp_Compare_int x1 x2).bind fun x3 =>
  (g_cmp_Compare_uint64 a0.fHi a1.fHi).bind fun x4 =>
  (g_cmp_Compare_uint64 a0.fLo a1.fLo).bind fun x5 =>
  (g_cmp_Or_int ([x3, x4, x5] : List Int)).bind fun x6 =>
  some x6

theorem g_addr_Compare_ok (a0 : T_api_Addr) (a1 : T_api_Addr) (r : Int) (hf : g_addr_Compare a0 a1 = some r) : SCall Try.prog 137 [.agg (T_api_Addr.c a0), .agg (T_api_Addr.c a1)] (.one (.lit (.int .i64 r))) := by
  refine SCall.of Try.func137 rfl rfl rfl rfl fun S0 w0 => ?_
  unfold g_addr_Compare at hf
  obtain ⟨x1, q1, hf⟩ := bind_some' hf
  obtain ⟨x2, q2, hf⟩ := bind_some' hf
  obtain ⟨x3, q3, hf⟩ := bind_some' hf
  obtain ⟨x4, q4, hf⟩ := bind_some' hf
  obtain ⟨x5, q5, hf⟩ := bind_some' hf
  obtain ⟨x6, q6, hf⟩ := bind_some' hf
  replace hf := Option.some.inj hf
  subst hf
  exact toEnd_good allOk 4 _ _ [⟨[], [], [], [], [], [], []⟩, ⟨[(1, .r (.one (.lit (.int .i64 x1))) []), (3, .r (.one (.lit (.int .i64 x2))) []), (4, .r (.one (.lit (.int .i64 x3))) []), (9, .r (.one (.lit (.int .i64 x4))) []), (14, .r (.one (.lit (.int .i64 x5))) []), (16, .r (.one (.lit (.int .i64 x6))) [])], [], [], [[], [0], [], [2, 1, 0], [1, 0, 3, 2], [], [5], [], [7], [6, 5, 8, 7, 4, 1, 0, 3, 2], [], [10], [], [12], [11, 10, 13, 12, 9, 6, 5, 8, 7, 4, 1, 0, 3, 2], [4, 1, 0, 3, 2, 9, 6, 5, 8, 7, 14, 11, 10, 13, 12], [15, 4, 1, 0, 3, 2, 9, 6, 5, 8, 7, 14, 11, 10, 13, 12], [16, 15, 4, 1, 0, 3, 2, 9, 6, 5, 8, 7, 14, 11, 10, 13, 12]], [], [(15, (([x3, x4, x5] : List Int).length, rowsOf (cI .i64) (0 : Int) ([x3, x4, x5] : List Int)))], []⟩] [] [] [] [] [SCall Try.prog 158 [.agg (T_api_Addr.c a0)] (.one (.lit (.int .i64 x1))), SCall Try.prog 158 [.agg (T_api_Addr.c a1)] (.one (.lit (.int .i64 x2))), SCall Try.prog 138 [.one (.lit (.int .i64 x1)), .one (.lit (.int .i64 x2))] (.one (.lit (.int .i64 x3))), SCall Try.prog 159 [.one (.lit (.int .u64 a0.fHi)), .one (.lit (.int .u64 a1.fHi))] (.one (.lit (.int .i64 x4))), SCall Try.prog 159 [.one (.lit (.int .u64 a0.fLo)), .one (.lit (.int .u64 a1.fLo))] (.one (.lit (.int .i64 x5))), ([x3, x4, x5] : List Int).length = 3 ∧ ∀ i j, i < 3 → j < 1 → rowsOf (cI .i64) (0 : Int) ([x3, x4, x5] : List Int) i j = (([x3, x4, x5] : List Int).flatMap (cI .i64)).getD (i * 1 + j) .junk, SCall Try.prog 136 [.one (cL 1 (cI .i64) (0 : Int) ([x3, x4, x5] : List Int))] (.one (.lit (.int .i64 x6)))] (by kernel_rfl) rfl ⟨(g_addr_family_ok a0 x1 q1), (g_addr_family_ok a1 x2 q2), (g_cmp_Compare_int_ok x1 x2 x3 q3), (g_cmp_Compare_uint64_ok a0.fHi a1.fHi x4 q4), (g_cmp_Compare_uint64_ok a0.fLo a1.fLo x5 q5), ⟨rfl, fun i j hi hj => rows_flat (sz := 1) (e := (cI .i64)) (d := (0 : Int)) (fun _ => rfl) ([x3, x4, x5] : List Int) i j hi hj⟩, (g_cmp_Or_int_ok ([x3, x4, x5] : List Int) x6 q6), trivial⟩

/-! inline -/
def famA (a : T_api_Addr) : Int := if a.fV6 then 1 else 0
def cmpA (a b : T_api_Addr) : Int := orI (cmpI (famA a) (famA b)) (orI (cmpI a.fHi b.fHi) (cmpI a.fLo b.fLo))

theorem cmp_int (a b : Int) : g_cmp_Compare_int a b = some (cmpI a b) := by
  simp only [g_cmp_Compare_int, g_cmp_isNaN_int, cmpI, bne_self_eq_false, Option.bind_some, cond_false]
  by_cases h1 : a < b <;> by_cases h2 : a > b <;> simp [h1, h2] <;> omega

theorem cmp_u64 (a b : Int) : g_cmp_Compare_uint64 a b = some (cmpI a b) := by
  simp only [g_cmp_Compare_uint64, g_cmp_isNaN_uint64, cmpI, bne_self_eq_false, Option.bind_some, cond_false]
  by_cases h1 : a < b <;> by_cases h2 : a > b <;> simp [h1, h2] <;> omega

theorem or2 (a b : Int) : g_cmp_Or_int [a, b] = some (orI a b) := by
  unfold g_cmp_Or_int orI
  simp only [List.length_cons, List.length_nil]
  rw [show (((0 + 1 + 1 : Nat) : Int) - 0).toNat + 2 = 4 from rfl]
  simp only [g_cmp_Or_int_c0, show add64 0 1 = 1 from rfl, show add64 1 1 = 2 from rfl]
  simp only [Bool.cond_eq_ite, bne_iff_ne, ne_eq, ite_not, need]
  by_cases h1 : a = 0 <;> by_cases h2 : b = 0 <;> simp [h1, h2]

theorem or3 (a b c : Int) : g_cmp_Or_int [a, b, c] = some (orI a (orI b c)) := by
  unfold g_cmp_Or_int orI
  simp only [List.length_cons, List.length_nil]
  rw [show (((0 + 1 + 1 + 1 : Nat) : Int) - 0).toNat + 2 = 5 from rfl]
  simp only [g_cmp_Or_int_c0, show add64 0 1 = 1 from rfl, show add64 1 1 = 2 from rfl, show add64 2 1 = 3 from rfl]
  simp only [Bool.cond_eq_ite, bne_iff_ne, ne_eq, ite_not, need]
  by_cases h1 : a = 0 <;> by_cases h2 : b = 0 <;> by_cases h3 : c = 0 <;> simp [h1, h2, h3]

theorem addr_cmp (a b : T_api_Addr) : g_addr_Compare a b = some (cmpA a b) := by
  have hf : ∀ c, g_addr_family c = some (famA c) := fun c => by unfold g_addr_family famA; cases c.fV6 <;> rfl
  simp only [g_addr_Compare, hf, cmp_int, cmp_u64, or3, Option.bind_some, cmpA]


theorem orI_lt {a b : Int} : orI a b < 0 ↔ a < 0 ∨ (a = 0 ∧ b < 0) := by unfold orI; constructor <;> intro h <;> (repeat' split at *) <;> omega
theorem orI_gt {a b : Int} : 0 < orI a b ↔ 0 < a ∨ (a = 0 ∧ 0 < b) := by unfold orI; constructor <;> intro h <;> (repeat' split at *) <;> omega
theorem orI_zero {a b : Int} : orI a b = 0 ↔ a = 0 ∧ b = 0 := by unfold orI; constructor <;> intro h <;> (repeat' split at *) <;> omega

theorem famA_eq {a b : T_api_Addr} : famA a = famA b ↔ a.fV6 = b.fV6 := by unfold famA; cases a.fV6 <;> cases b.fV6 <;> simp

theorem cmpA_lt {a b : T_api_Addr} : cmpA a b < 0 ↔ famA a < famA b ∨ (famA a = famA b ∧ (a.fHi < b.fHi ∨ (a.fHi = b.fHi ∧ a.fLo < b.fLo))) := by simp only [cmpA, orI_lt, cmpI_lt, cmpI_zero]
theorem cmpA_gt {a b : T_api_Addr} : 0 < cmpA a b ↔ famA b < famA a ∨ (famA a = famA b ∧ (b.fHi < a.fHi ∨ (a.fHi = b.fHi ∧ b.fLo < a.fLo))) := by simp only [cmpA, orI_gt, cmpI_gt, cmpI_zero]
theorem cmpA_zero {a b : T_api_Addr} : cmpA a b = 0 ↔ a = b := by
  simp only [cmpA, orI_zero, cmpI_zero, famA_eq]
  obtain ⟨v, hi, lo⟩ := a
  obtain ⟨v', hi', lo'⟩ := b
  simp

theorem cmpA_trans {a b c : T_api_Addr} (h1 : cmpA a b < 0) (h2 : cmpA b c < 0) : cmpA a c < 0 := by
  rw [cmpA_lt] at *
  omega


theorem cmpA_swap {a b : T_api_Addr} : 0 < cmpA a b ↔ cmpA b a < 0 := by
  rw [cmpA_gt, cmpA_lt]
  constructor <;> intro h <;> omega


/-- doorman/cidr.Compare -/
def g_cidr_Compare (a0 : T_api_Net) (a1 : T_api_Net) : Option Int :=
  (g_addr_Compare a0.fAddr a1.fAddr).bind fun x1 =>
  (g_cmp_Compare_int a0.fBits a1.fBits).bind fun x2 =>
  (g_cmp_Or_int ([x1, x2] : List Int)).bind fun x3 =>
  some x3

theorem g_cidr_Compare_ok (a0 : T_api_Net) (a1 : T_api_Net) (r : Int) (hf : g_cidr_Compare a0 a1 = some r) : SCall Try.prog 103 [.agg (T_api_Net.c a0), .agg (T_api_Net.c a1)] (.one (.lit (.int .i64 r))) := by
  refine SCall.of Try.func103 rfl rfl rfl rfl fun S0 w0 => ?_
  unfold g_cidr_Compare at hf
  obtain ⟨x1, q1, hf⟩ := bind_some' hf
  obtain ⟨x2, q2, hf⟩ := bind_some' hf
  obtain ⟨x3, q3, hf⟩ := bind_some' hf
  replace hf := Option.some.inj hf
  subst hf
  exact toEnd_good allOk 4 _ _ [⟨[], [], [], [], [], [], []⟩, ⟨[(4, .r (.one (.lit (.int .i64 x1))) []), (9, .r (.one (.lit (.int .i64 x2))) []), (11, .r (.one (.lit (.int .i64 x3))) [])], [], [], [[], [0], [], [2], [1, 0, 3, 2], [], [5], [], [7], [6, 5, 8, 7, 4, 1, 0, 3, 2], [4, 1, 0, 3, 2, 9, 6, 5, 8, 7], [10, 4, 1, 0, 3, 2, 9, 6, 5, 8, 7], [11, 10, 4, 1, 0, 3, 2, 9, 6, 5, 8, 7]], [], [(10, (([x1, x2] : List Int).length, rowsOf (cI .i64) (0 : Int) ([x1, x2] : List Int)))], []⟩] [] [] [] [] [SCall Try.prog 137 [.agg (T_api_Addr.c a0.fAddr), .agg (T_api_Addr.c a1.fAddr)] (.one (.lit (.int .i64 x1))), SCall Try.prog 138 [.one (.lit (.int .i64 a0.fBits)), .one (.lit (.int .i64 a1.fBits))] (.one (.lit (.int .i64 x2))), ([x1, x2] : List Int).length = 2 ∧ ∀ i j, i < 2 → j < 1 → rowsOf (cI .i64) (0 : Int) ([x1, x2] : List Int) i j = (([x1, x2] : List Int).flatMap (cI .i64)).getD (i * 1 + j) .junk, SCall Try.prog 136 [.one (cL 1 (cI .i64) (0 : Int) ([x1, x2] : List Int))] (.one (.lit (.int .i64 x3)))] (by kernel_rfl) rfl ⟨(g_addr_Compare_ok a0.fAddr a1.fAddr x1 q1), (g_cmp_Compare_int_ok a0.fBits a1.fBits x2 q2), ⟨rfl, fun i j hi hj => rows_flat (sz := 1) (e := (cI .i64)) (d := (0 : Int)) (fun _ => rfl) ([x1, x2] : List Int) i j hi hj⟩, (g_cmp_Or_int_ok ([x1, x2] : List Int) x3 q3), trivial⟩

/-! inline -/
def cmpN (a b : T_api_Net) : Int := orI (cmpA a.fAddr b.fAddr) (cmpI a.fBits b.fBits)

theorem cidr_cmp (a b : T_api_Net) : g_cidr_Compare a b = some (cmpN a b) := by
  simp only [g_cidr_Compare, addr_cmp, cmp_int, or2, Option.bind_some, cmpN]

theorem cmpN_lt {a b : T_api_Net} : cmpN a b < 0 ↔ cmpA a.fAddr b.fAddr < 0 ∨ (a.fAddr = b.fAddr ∧ a.fBits < b.fBits) := by simp only [cmpN, orI_lt, cmpI_lt, cmpA_zero]
theorem cmpN_gt {a b : T_api_Net} : 0 < cmpN a b ↔ 0 < cmpA a.fAddr b.fAddr ∨ (a.fAddr = b.fAddr ∧ b.fBits < a.fBits) := by simp only [cmpN, orI_gt, cmpI_gt, cmpA_zero]
theorem cmpN_zero {a b : T_api_Net} : cmpN a b = 0 ↔ a = b := by
  simp only [cmpN, orI_zero, cmpI_zero, cmpA_zero]
  obtain ⟨x, p⟩ := a
  obtain ⟨y, q⟩ := b
  simp
theorem cmpN_swap {a b : T_api_Net} : 0 < cmpN a b ↔ cmpN b a < 0 := by
  rw [cmpN_gt, cmpN_lt, cmpA_swap]
  constructor <;> rintro (h | ⟨h1, h2⟩) <;> first | exact .inl h | exact .inr ⟨h1.symm, h2⟩
theorem cmpN_trans {a b c : T_api_Net} (h1 : cmpN a b < 0) (h2 : cmpN b c < 0) : cmpN a c < 0 := by
  rw [cmpN_lt] at *
  rcases h1 with h1 | ⟨h1, h3⟩ <;> rcases h2 with h2 | ⟨h2, h4⟩
  · exact .inl (cmpA_trans h1 h2)
  · exact .inl (h2 ▸ h1)
  · exact .inl (h1 ▸ h2)
  · exact .inr ⟨h1.trans h2, by omega⟩

theorem ltN (a b : T_api_Net) : Go.Proofs.ltOf cmpN a b = decide (cmpN a b < 0) := by
  unfold Go.Proofs.ltOf
  rfl

theorem cmpN_swo : Go.Sort.SWO (Go.Proofs.ltOf cmpN) where
  irrefl x := by rw [ltN]; simp [(cmpN_zero (a := x) (b := x)).2 rfl]
  trans x y z h1 h2 := by
    rw [ltN, decide_eq_true_eq] at *
    exact cmpN_trans h1 h2
  ntrans x y z h1 h2 := by
    rw [ltN, decide_eq_false_iff_not] at *
    intro h
    have e1 : cmpN x y = 0 ∨ 0 < cmpN x y := by omega
    have e2 : cmpN y z = 0 ∨ 0 < cmpN y z := by omega
    rcases e1 with e1 | e1
    · rw [cmpN_zero] at e1; subst e1; omega
    · rcases e2 with e2 | e2
      · rw [cmpN_zero] at e2; subst e2; omega
      · have h3 := cmpN_trans (cmpN_swap.1 e2) (cmpN_swap.1 e1)
        have h4 := cmpN_swap.2 h3
        omega

theorem cmpN_parts (x y : T_api_Net) (h1 : Go.Proofs.ltOf cmpN x y = false) (h2 : Go.Proofs.ltOf cmpN y x = false) : x = y := by
  rw [ltN, decide_eq_false_iff_not] at *
  rw [← cmpN_zero]
  have : ¬ 0 < cmpN x y := fun h => h2 (cmpN_swap.1 h)
  omega


def g_slices_Compact_api_Net_api_Net_c1  (kg_slices_Compact_api_Net_api_Net_c0 : Int → (List T_api_Net) → Option (List T_api_Net)) : Nat → Int → Nat → Nat → Nat → Int → (List T_api_Net) → Option (List T_api_Net)
  | 0, _, _, _, _, _, _ => none
  | fu + 1, v3, vo4, vl4, vn4, v5, w100000 =>
    bif (decide (v5 < ((vl4 : Nat) : Int))) then
      need (0 ≤ v5 ∧ v5 < ((vl4 : Nat) : Int)) <|
      need ((vo4 + v5.toNat) < w100000.length) <|
      need (0 ≤ (sub64 v5 (1 : Int)) ∧ (sub64 v5 (1 : Int)) < ((vl4 : Nat) : Int)) <|
      need ((vo4 + (sub64 v5 (1 : Int)).toNat) < w100000.length) <|
      bif (!(decide ((w100000.getD (vo4 + v5.toNat) T_api_Net.d) = (w100000.getD (vo4 + (sub64 v5 (1 : Int)).toNat) T_api_Net.d)))) then
        need (0 ≤ v3 ∧ v3 < ((w100000.length : Nat) : Int)) <|
        g_slices_Compact_api_Net_api_Net_c1  kg_slices_Compact_api_Net_api_Net_c0 fu (add64 v3 (1 : Int)) vo4 vl4 vn4 (add64 v5 (1 : Int)) (w100000.set v3.toNat (w100000.getD (vo4 + v5.toNat) T_api_Net.d))
      else
        g_slices_Compact_api_Net_api_Net_c1  kg_slices_Compact_api_Net_api_Net_c0 fu v3 vo4 vl4 vn4 (add64 v5 (1 : Int)) w100000
    else
      need (0 ≤ v3 ∧ v3 ≤ ((w100000.length : Nat) : Int) ∧ ((w100000.length : Nat) : Int) ≤ ((w100000.length : Nat) : Int)) <|
      need (v3.toNat + (w100000.length - v3.toNat) ≤ w100000.length) <|
      need (0 ≤ (0 : Int) ∧ (0 : Int) ≤ v3 ∧ v3 ≤ ((w100000.length : Nat) : Int)) <|
      need (v3.toNat ≤ (clearL w100000 v3.toNat (w100000.length - v3.toNat) T_api_Net.d).length) <|
      some ((clearL w100000 v3.toNat (w100000.length - v3.toNat) T_api_Net.d).take v3.toNat)

theorem g_slices_Compact_api_Net_api_Net_c1_ok (S0 : Nat → Prop) (w0 : Start)  (kg_slices_Compact_api_Net_api_Net_c0 : Int → (List T_api_Net) → Option (List T_api_Net)) (hg_slices_Compact_api_Net_api_Net_c0 : ∀ (v3_ : Int) (w100000_ : (List T_api_Net)) (r : (List T_api_Net)), kg_slices_Compact_api_Net_api_Net_c0 v3_ w100000_ = some r → Good Try.prog 61 S0 w0 (bodyPost Try.prog Try.f110 (HPost S0 w0 [(99999, .rows 27 4 r.length (rowsOf T_api_Net.c T_api_Net.d r))] (.one (.osl 99999 r.length)))) (at_ [1, 1, 0, 1, 0] (bodyOf Try.f110)) ⟨[(0, .one (.osl 100000 w100000_.length)), (3, .one (.lit (.int .i64 v3_)))], [(100000, .rows 27 4 w100000_.length (rowsOf T_api_Net.c T_api_Net.d w100000_))]⟩) : ∀ (fu : Nat) (v3 : Int) (vo4 : Nat) (vl4 : Nat) (vn4 : Nat) (v5 : Int) (w100000 : (List T_api_Net)) (r : (List T_api_Net)), g_slices_Compact_api_Net_api_Net_c1  kg_slices_Compact_api_Net_api_Net_c0 fu v3 vo4 vl4 vn4 v5 w100000 = some r → Good Try.prog 61 S0 w0 (bodyPost Try.prog Try.f110 (HPost S0 w0 [(99999, .rows 27 4 r.length (rowsOf T_api_Net.c T_api_Net.d r))] (.one (.osl 99999 r.length)))) (at_ [1, 1, 0, 1, 0, 0, 1, 0, 0, 1, 0, 1, 0, 1, 0] (bodyOf Try.f110)) ⟨[(0, .one (.osl 100000 w100000.length)), (3, .one (.lit (.int .i64 v3))), (4, .one (.osub 100000 4 vo4 vl4 vn4)), (5, .one (.lit (.int .i64 v5)))], [(100000, .rows 27 4 w100000.length (rowsOf T_api_Net.c T_api_Net.d w100000))]⟩ := by
  intro fu
  induction fu with
  | zero =>
    intro v3 vo4 vl4 vn4 v5 w100000 r hf
    simp [g_slices_Compact_api_Net_api_Net_c1] at hf
  | succ fu ih =>
    intro v3 vo4 vl4 vn4 v5 w100000 r hf
    unfold g_slices_Compact_api_Net_api_Net_c1 at hf
    rcases br_some hf with ⟨h7, hf⟩ | ⟨h7, hf⟩
    · obtain ⟨o8, hf⟩ := need_some hf
      obtain ⟨o9, hf⟩ := need_some hf
      obtain ⟨o10, hf⟩ := need_some hf
      obtain ⟨o11, hf⟩ := need_some hf
      rcases br_some hf with ⟨h12, hf⟩ | ⟨h12, hf⟩
      · obtain ⟨o13, hf⟩ := need_some hf
        exact toK_good allOk HPost.ends 17 _ _ _ _ [⟨[], [], [], [], [], [], []⟩, ⟨[(9, .r (.one (.lit (.bool (!(decide ((w100000.getD (vo4 + v5.toNat) T_api_Net.d) = (w100000.getD (vo4 + (sub64 v5 (1 : Int)).toNat) T_api_Net.d))))))) [])], [], [], [[], [], [0, 1], [2, 0, 1], [], [], [5], [4, 6, 5], [7, 4, 6, 5], [3, 2, 0, 1, 8, 7, 4, 6, 5]], [], [], []⟩, ⟨[(7, .c (w100000.set v3.toNat (w100000.getD (vo4 + v5.toNat) T_api_Net.d)).length (rowsOf T_api_Net.c T_api_Net.d (w100000.set v3.toNat (w100000.getD (vo4 + v5.toNat) T_api_Net.d))))], [], [], [], [], [], []⟩, ⟨[], [], [], [], [], [], []⟩, ⟨[], [], [], [], [], [], []⟩] [true, true] ⟨[], [], [], [(100000, ((w100000.set v3.toNat (w100000.getD (vo4 + v5.toNat) T_api_Net.d)).length))], [], [0, 3, 4, 5], [100000], []⟩ [(decide (v5 < ((vl4 : Nat) : Int))) = true, 0 ≤ v5 ∧ v5 < ((vl4 : Nat) : Int), (vo4 + v5.toNat) < w100000.length, 0 ≤ (sub64 v5 (1 : Int)) ∧ (sub64 v5 (1 : Int)) < ((vl4 : Nat) : Int), (vo4 + (sub64 v5 (1 : Int)).toNat) < w100000.length, ∀ w, (do eqGuard .neq 27 (.tmp 38) (.tmp 43) (.agg #[.bool (((w100000.getD (vo4 + v5.toNat) T_api_Net.d).fAddr).fV6), .int .u64 (((w100000.getD (vo4 + v5.toNat) T_api_Net.d).fAddr).fHi), .int .u64 (((w100000.getD (vo4 + v5.toNat) T_api_Net.d).fAddr).fLo), .int .i64 ((w100000.getD (vo4 + v5.toNat) T_api_Net.d).fBits)]) (.agg #[.bool (((w100000.getD (vo4 + (sub64 v5 (1 : Int)).toNat) T_api_Net.d).fAddr).fV6), .int .u64 (((w100000.getD (vo4 + (sub64 v5 (1 : Int)).toNat) T_api_Net.d).fAddr).fHi), .int .u64 (((w100000.getD (vo4 + (sub64 v5 (1 : Int)).toNat) T_api_Net.d).fAddr).fLo), .int .i64 ((w100000.getD (vo4 + (sub64 v5 (1 : Int)).toNat) T_api_Net.d).fBits)]); binOp .neq 27 (.agg #[.bool (((w100000.getD (vo4 + v5.toNat) T_api_Net.d).fAddr).fV6), .int .u64 (((w100000.getD (vo4 + v5.toNat) T_api_Net.d).fAddr).fHi), .int .u64 (((w100000.getD (vo4 + v5.toNat) T_api_Net.d).fAddr).fLo), .int .i64 ((w100000.getD (vo4 + v5.toNat) T_api_Net.d).fBits)]) (.agg #[.bool (((w100000.getD (vo4 + (sub64 v5 (1 : Int)).toNat) T_api_Net.d).fAddr).fV6), .int .u64 (((w100000.getD (vo4 + (sub64 v5 (1 : Int)).toNat) T_api_Net.d).fAddr).fHi), .int .u64 (((w100000.getD (vo4 + (sub64 v5 (1 : Int)).toNat) T_api_Net.d).fAddr).fLo), .int .i64 ((w100000.getD (vo4 + (sub64 v5 (1 : Int)).toNat) T_api_Net.d).fBits)]) : Sem Value).run Try.prog w = .ok (.bool (!(decide ((w100000.getD (vo4 + v5.toNat) T_api_Net.d) = (w100000.getD (vo4 + (sub64 v5 (1 : Int)).toNat) T_api_Net.d))))) w, (!(decide ((w100000.getD (vo4 + v5.toNat) T_api_Net.d) = (w100000.getD (vo4 + (sub64 v5 (1 : Int)).toNat) T_api_Net.d)))) = true, 0 ≤ v5 ∧ v5 < ((vl4 : Nat) : Int), (vo4 + v5.toNat) < w100000.length, 0 ≤ v3 ∧ v3 < ((w100000.length : Nat) : Int), (w100000.set v3.toNat (w100000.getD (vo4 + v5.toNat) T_api_Net.d)).length = w100000.length, v3.toNat < w100000.length, ExtU 4 w100000.length (rowsOf T_api_Net.c T_api_Net.d w100000) v3.toNat 0 (T_api_Net.c (w100000.getD (vo4 + v5.toNat) T_api_Net.d)) (rowsOf T_api_Net.c T_api_Net.d (w100000.set v3.toNat (w100000.getD (vo4 + v5.toNat) T_api_Net.d))), (w100000.set v3.toNat (w100000.getD (vo4 + v5.toNat) T_api_Net.d)).length = (w100000.set v3.toNat (w100000.getD (vo4 + v5.toNat) T_api_Net.d)).length] (by kernel_rfl) ⟨h7, o8, o9, o10, o11, (neq_T_api_Net (w100000.getD (vo4 + v5.toNat) T_api_Net.d) (w100000.getD (vo4 + (sub64 v5 (1 : Int)).toNat) T_api_Net.d) _ _), h12, o8, o9, o13, List.length_set, (ltOf o13), (ext_set _ _ _ rfl), rfl, trivial⟩ (ih (add64 v3 (1 : Int)) vo4 vl4 vn4 (add64 v5 (1 : Int)) (w100000.set v3.toNat (w100000.getD (vo4 + v5.toNat) T_api_Net.d)) r hf)
      · exact toK_good allOk HPost.ends 15 _ _ _ _ [⟨[], [], [], [], [], [], []⟩, ⟨[(9, .r (.one (.lit (.bool (!(decide ((w100000.getD (vo4 + v5.toNat) T_api_Net.d) = (w100000.getD (vo4 + (sub64 v5 (1 : Int)).toNat) T_api_Net.d))))))) [])], [], [], [[], [], [0, 1], [2, 0, 1], [], [], [5], [4, 6, 5], [7, 4, 6, 5], [3, 2, 0, 1, 8, 7, 4, 6, 5]], [], [], []⟩, ⟨[], [], [], [], [], [], []⟩] [true, false] ⟨[], [], [], [], [], [0, 3, 4, 5], [100000], []⟩ [(decide (v5 < ((vl4 : Nat) : Int))) = true, 0 ≤ v5 ∧ v5 < ((vl4 : Nat) : Int), (vo4 + v5.toNat) < w100000.length, 0 ≤ (sub64 v5 (1 : Int)) ∧ (sub64 v5 (1 : Int)) < ((vl4 : Nat) : Int), (vo4 + (sub64 v5 (1 : Int)).toNat) < w100000.length, ∀ w, (do eqGuard .neq 27 (.tmp 38) (.tmp 43) (.agg #[.bool (((w100000.getD (vo4 + v5.toNat) T_api_Net.d).fAddr).fV6), .int .u64 (((w100000.getD (vo4 + v5.toNat) T_api_Net.d).fAddr).fHi), .int .u64 (((w100000.getD (vo4 + v5.toNat) T_api_Net.d).fAddr).fLo), .int .i64 ((w100000.getD (vo4 + v5.toNat) T_api_Net.d).fBits)]) (.agg #[.bool (((w100000.getD (vo4 + (sub64 v5 (1 : Int)).toNat) T_api_Net.d).fAddr).fV6), .int .u64 (((w100000.getD (vo4 + (sub64 v5 (1 : Int)).toNat) T_api_Net.d).fAddr).fHi), .int .u64 (((w100000.getD (vo4 + (sub64 v5 (1 : Int)).toNat) T_api_Net.d).fAddr).fLo), .int .i64 ((w100000.getD (vo4 + (sub64 v5 (1 : Int)).toNat) T_api_Net.d).fBits)]); binOp .neq 27 (.agg #[.bool (((w100000.getD (vo4 + v5.toNat) T_api_Net.d).fAddr).fV6), .int .u64 (((w100000.getD (vo4 + v5.toNat) T_api_Net.d).fAddr).fHi), .int .u64 (((w100000.getD (vo4 + v5.toNat) T_api_Net.d).fAddr).fLo), .int .i64 ((w100000.getD (vo4 + v5.toNat) T_api_Net.d).fBits)]) (.agg #[.bool (((w100000.getD (vo4 + (sub64 v5 (1 : Int)).toNat) T_api_Net.d).fAddr).fV6), .int .u64 (((w100000.getD (vo4 + (sub64 v5 (1 : Int)).toNat) T_api_Net.d).fAddr).fHi), .int .u64 (((w100000.getD (vo4 + (sub64 v5 (1 : Int)).toNat) T_api_Net.d).fAddr).fLo), .int .i64 ((w100000.getD (vo4 + (sub64 v5 (1 : Int)).toNat) T_api_Net.d).fBits)]) : Sem Value).run Try.prog w = .ok (.bool (!(decide ((w100000.getD (vo4 + v5.toNat) T_api_Net.d) = (w100000.getD (vo4 + (sub64 v5 (1 : Int)).toNat) T_api_Net.d))))) w, (!(decide ((w100000.getD (vo4 + v5.toNat) T_api_Net.d) = (w100000.getD (vo4 + (sub64 v5 (1 : Int)).toNat) T_api_Net.d)))) = false] (by kernel_rfl) ⟨h7, o8, o9, o10, o11, (neq_T_api_Net (w100000.getD (vo4 + v5.toNat) T_api_Net.d) (w100000.getD (vo4 + (sub64 v5 (1 : Int)).toNat) T_api_Net.d) _ _), h12, trivial⟩ (ih v3 vo4 vl4 vn4 (add64 v5 (1 : Int)) w100000 r hf)
    · obtain ⟨o14, hf⟩ := need_some hf
      obtain ⟨o15, hf⟩ := need_some hf
      obtain ⟨o16, hf⟩ := need_some hf
      obtain ⟨o17, hf⟩ := need_some hf
      replace hf := Option.some.inj hf
      subst hf
      exact toEndH_good allOk 10 _ _ [⟨[], [], [], [], [], [], []⟩, ⟨[(3, .c (clearL w100000 v3.toNat (w100000.length - v3.toNat) T_api_Net.d).length (rowsOf T_api_Net.c T_api_Net.d (clearL w100000 v3.toNat (w100000.length - v3.toNat) T_api_Net.d)))], [], [], [], [], [], []⟩, ⟨[(3, .c ((clearL w100000 v3.toNat (w100000.length - v3.toNat) T_api_Net.d).take v3.toNat).length (rowsOf T_api_Net.c T_api_Net.d ((clearL w100000 v3.toNat (w100000.length - v3.toNat) T_api_Net.d).take v3.toNat)))], [], [], [], [], [], []⟩] [false] ⟨[], [], [], [], [], [2], [2], [(2, 99999)]⟩ [(decide (v5 < ((vl4 : Nat) : Int))) = false, 0 ≤ v3 ∧ v3 ≤ ((w100000.length : Nat) : Int) ∧ ((w100000.length : Nat) : Int) ≤ ((w100000.length : Nat) : Int), (clearL w100000 v3.toNat (w100000.length - v3.toNat) T_api_Net.d).length = w100000.length, ∀ i j, i < w100000.length → j < 4 → (i < v3.toNat ∨ v3.toNat + (w100000.length - v3.toNat) ≤ i) → rowsOf T_api_Net.c T_api_Net.d (clearL w100000 v3.toNat (w100000.length - v3.toNat) T_api_Net.d) i j = rowsOf T_api_Net.c T_api_Net.d w100000 i j, ∀ i j, i < (w100000.length - v3.toNat) → j < 4 → orNil (([.lit (.bool false), .lit (.int .u64 (0)), .lit (.int .u64 (0)), .lit (.int .i64 (0))] : List C).getD j .junk) (rowsOf T_api_Net.c T_api_Net.d (clearL w100000 v3.toNat (w100000.length - v3.toNat) T_api_Net.d) (v3.toNat + i) j), 0 ≤ (0 : Int) ∧ (0 : Int) ≤ v3 ∧ v3 ≤ ((w100000.length : Nat) : Int), 0 = 0, ((clearL w100000 v3.toNat (w100000.length - v3.toNat) T_api_Net.d).take v3.toNat).length = v3.toNat, ∀ i j, i < v3.toNat → j < 4 → rowsOf T_api_Net.c T_api_Net.d ((clearL w100000 v3.toNat (w100000.length - v3.toNat) T_api_Net.d).take v3.toNat) i j = rowsOf T_api_Net.c T_api_Net.d (clearL w100000 v3.toNat (w100000.length - v3.toNat) T_api_Net.d) i j] (by kernel_rfl) ⟨h7, o14, (clear_len _ _ _ _ o15), (clear_old _ _ _ o15), (clear_new _ _ _ o15 (fun j hj => .inl rfl)), o16, rfl, (shr_len _ _ o17), (shr_rows _ _), trivial⟩

def g_slices_Compact_api_Net_api_Net_c0   : Nat → Int → (List T_api_Net) → Option (List T_api_Net)
  | 0, _, _ => none
  | fu + 1, v3, w100000 =>
    bif (decide (v3 < ((w100000.length : Nat) : Int))) then
      need (0 ≤ v3 ∧ v3 < ((w100000.length : Nat) : Int)) <|
      need (0 ≤ (sub64 v3 (1 : Int)) ∧ (sub64 v3 (1 : Int)) < ((w100000.length : Nat) : Int)) <|
      bif (decide ((w100000.getD v3.toNat T_api_Net.d) = (w100000.getD ((sub64 v3 (1 : Int)).toNat) T_api_Net.d))) then
        need (0 ≤ v3 ∧ v3 ≤ ((w100000.length : Nat) : Int) ∧ ((w100000.length : Nat) : Int) ≤ ((w100000.length : Nat) : Int)) <|
        g_slices_Compact_api_Net_api_Net_c1  (g_slices_Compact_api_Net_api_Net_c0   fu) 1000000 v3 v3.toNat (w100000.length - v3.toNat) w100000.length (1 : Int) w100000
      else
        g_slices_Compact_api_Net_api_Net_c0   fu (add64 v3 (1 : Int)) w100000
    else
      some w100000

theorem g_slices_Compact_api_Net_api_Net_c0_ok (S0 : Nat → Prop) (w0 : Start)   : ∀ (fu : Nat) (v3 : Int) (w100000 : (List T_api_Net)) (r : (List T_api_Net)), g_slices_Compact_api_Net_api_Net_c0   fu v3 w100000 = some r → Good Try.prog 61 S0 w0 (bodyPost Try.prog Try.f110 (HPost S0 w0 [(99999, .rows 27 4 r.length (rowsOf T_api_Net.c T_api_Net.d r))] (.one (.osl 99999 r.length)))) (at_ [1, 1, 0, 1, 0] (bodyOf Try.f110)) ⟨[(0, .one (.osl 100000 w100000.length)), (3, .one (.lit (.int .i64 v3)))], [(100000, .rows 27 4 w100000.length (rowsOf T_api_Net.c T_api_Net.d w100000))]⟩ := by
  intro fu
  induction fu with
  | zero =>
    intro v3 w100000 r hf
    simp [g_slices_Compact_api_Net_api_Net_c0] at hf
  | succ fu ih =>
    intro v3 w100000 r hf
    unfold g_slices_Compact_api_Net_api_Net_c0 at hf
    rcases br_some hf with ⟨h2, hf⟩ | ⟨h2, hf⟩
    · obtain ⟨o3, hf⟩ := need_some hf
      obtain ⟨o4, hf⟩ := need_some hf
      rcases br_some hf with ⟨h5, hf⟩ | ⟨h5, hf⟩
      · obtain ⟨o6, hf⟩ := need_some hf
        exact toK_good allOk HPost.ends 17 _ _ _ _ [⟨[], [], [], [], [], [], []⟩, ⟨[(9, .r (.one (.lit (.bool (decide ((w100000.getD v3.toNat T_api_Net.d) = (w100000.getD ((sub64 v3 (1 : Int)).toNat) T_api_Net.d)))))) [])], [], [], [[], [], [0, 1], [2, 0, 1], [], [], [5], [4, 6, 5], [7, 4, 6, 5], [3, 2, 0, 1, 8, 7, 4, 6, 5]], [], [], []⟩, ⟨[], [], [], [], [], [], []⟩, ⟨[], [], [], [], [], [], []⟩] [true, true] ⟨[], [], [], [], [], [0, 3, 4, 5], [100000], []⟩ [(decide (v3 < ((w100000.length : Nat) : Int))) = true, 0 ≤ v3 ∧ v3 < ((w100000.length : Nat) : Int), v3.toNat < w100000.length, 0 ≤ (sub64 v3 (1 : Int)) ∧ (sub64 v3 (1 : Int)) < ((w100000.length : Nat) : Int), (sub64 v3 (1 : Int)).toNat < w100000.length, ∀ w, (do eqGuard .eql 27 (.tmp 19) (.tmp 24) (.agg #[.bool (((w100000.getD v3.toNat T_api_Net.d).fAddr).fV6), .int .u64 (((w100000.getD v3.toNat T_api_Net.d).fAddr).fHi), .int .u64 (((w100000.getD v3.toNat T_api_Net.d).fAddr).fLo), .int .i64 ((w100000.getD v3.toNat T_api_Net.d).fBits)]) (.agg #[.bool (((w100000.getD ((sub64 v3 (1 : Int)).toNat) T_api_Net.d).fAddr).fV6), .int .u64 (((w100000.getD ((sub64 v3 (1 : Int)).toNat) T_api_Net.d).fAddr).fHi), .int .u64 (((w100000.getD ((sub64 v3 (1 : Int)).toNat) T_api_Net.d).fAddr).fLo), .int .i64 ((w100000.getD ((sub64 v3 (1 : Int)).toNat) T_api_Net.d).fBits)]); binOp .eql 27 (.agg #[.bool (((w100000.getD v3.toNat T_api_Net.d).fAddr).fV6), .int .u64 (((w100000.getD v3.toNat T_api_Net.d).fAddr).fHi), .int .u64 (((w100000.getD v3.toNat T_api_Net.d).fAddr).fLo), .int .i64 ((w100000.getD v3.toNat T_api_Net.d).fBits)]) (.agg #[.bool (((w100000.getD ((sub64 v3 (1 : Int)).toNat) T_api_Net.d).fAddr).fV6), .int .u64 (((w100000.getD ((sub64 v3 (1 : Int)).toNat) T_api_Net.d).fAddr).fHi), .int .u64 (((w100000.getD ((sub64 v3 (1 : Int)).toNat) T_api_Net.d).fAddr).fLo), .int .i64 ((w100000.getD ((sub64 v3 (1 : Int)).toNat) T_api_Net.d).fBits)]) : Sem Value).run Try.prog w = .ok (.bool (decide ((w100000.getD v3.toNat T_api_Net.d) = (w100000.getD ((sub64 v3 (1 : Int)).toNat) T_api_Net.d)))) w, (decide ((w100000.getD v3.toNat T_api_Net.d) = (w100000.getD ((sub64 v3 (1 : Int)).toNat) T_api_Net.d))) = true, 0 ≤ v3 ∧ v3 ≤ ((w100000.length : Nat) : Int) ∧ ((w100000.length : Nat) : Int) ≤ ((w100000.length : Nat) : Int)] (by kernel_rfl) ⟨h2, o3, (ltOf o3), o4, (ltOf o4), (eql_T_api_Net (w100000.getD v3.toNat T_api_Net.d) (w100000.getD ((sub64 v3 (1 : Int)).toNat) T_api_Net.d) _ _), h5, o6, trivial⟩ (g_slices_Compact_api_Net_api_Net_c1_ok S0 w0  (g_slices_Compact_api_Net_api_Net_c0   fu) ih 1000000 v3 v3.toNat (w100000.length - v3.toNat) w100000.length (1 : Int) w100000 r hf)
      · exact toK_good allOk HPost.ends 15 _ _ _ _ [⟨[], [], [], [], [], [], []⟩, ⟨[(9, .r (.one (.lit (.bool (decide ((w100000.getD v3.toNat T_api_Net.d) = (w100000.getD ((sub64 v3 (1 : Int)).toNat) T_api_Net.d)))))) [])], [], [], [[], [], [0, 1], [2, 0, 1], [], [], [5], [4, 6, 5], [7, 4, 6, 5], [3, 2, 0, 1, 8, 7, 4, 6, 5]], [], [], []⟩, ⟨[], [], [], [], [], [], []⟩] [true, false] ⟨[], [], [], [], [], [0, 3], [100000], []⟩ [(decide (v3 < ((w100000.length : Nat) : Int))) = true, 0 ≤ v3 ∧ v3 < ((w100000.length : Nat) : Int), v3.toNat < w100000.length, 0 ≤ (sub64 v3 (1 : Int)) ∧ (sub64 v3 (1 : Int)) < ((w100000.length : Nat) : Int), (sub64 v3 (1 : Int)).toNat < w100000.length, ∀ w, (do eqGuard .eql 27 (.tmp 19) (.tmp 24) (.agg #[.bool (((w100000.getD v3.toNat T_api_Net.d).fAddr).fV6), .int .u64 (((w100000.getD v3.toNat T_api_Net.d).fAddr).fHi), .int .u64 (((w100000.getD v3.toNat T_api_Net.d).fAddr).fLo), .int .i64 ((w100000.getD v3.toNat T_api_Net.d).fBits)]) (.agg #[.bool (((w100000.getD ((sub64 v3 (1 : Int)).toNat) T_api_Net.d).fAddr).fV6), .int .u64 (((w100000.getD ((sub64 v3 (1 : Int)).toNat) T_api_Net.d).fAddr).fHi), .int .u64 (((w100000.getD ((sub64 v3 (1 : Int)).toNat) T_api_Net.d).fAddr).fLo), .int .i64 ((w100000.getD ((sub64 v3 (1 : Int)).toNat) T_api_Net.d).fBits)]); binOp .eql 27 (.agg #[.bool (((w100000.getD v3.toNat T_api_Net.d).fAddr).fV6), .int .u64 (((w100000.getD v3.toNat T_api_Net.d).fAddr).fHi), .int .u64 (((w100000.getD v3.toNat T_api_Net.d).fAddr).fLo), .int .i64 ((w100000.getD v3.toNat T_api_Net.d).fBits)]) (.agg #[.bool (((w100000.getD ((sub64 v3 (1 : Int)).toNat) T_api_Net.d).fAddr).fV6), .int .u64 (((w100000.getD ((sub64 v3 (1 : Int)).toNat) T_api_Net.d).fAddr).fHi), .int .u64 (((w100000.getD ((sub64 v3 (1 : Int)).toNat) T_api_Net.d).fAddr).fLo), .int .i64 ((w100000.getD ((sub64 v3 (1 : Int)).toNat) T_api_Net.d).fBits)]) : Sem Value).run Try.prog w = .ok (.bool (decide ((w100000.getD v3.toNat T_api_Net.d) = (w100000.getD ((sub64 v3 (1 : Int)).toNat) T_api_Net.d)))) w, (decide ((w100000.getD v3.toNat T_api_Net.d) = (w100000.getD ((sub64 v3 (1 : Int)).toNat) T_api_Net.d))) = false] (by kernel_rfl) ⟨h2, o3, (ltOf o3), o4, (ltOf o4), (eql_T_api_Net (w100000.getD v3.toNat T_api_Net.d) (w100000.getD ((sub64 v3 (1 : Int)).toNat) T_api_Net.d) _ _), h5, trivial⟩ (ih (add64 v3 (1 : Int)) w100000 r hf)
    · replace hf := Option.some.inj hf
      subst hf
      exact toEndH_good allOk 8 _ _ [⟨[], [], [], [], [], [], []⟩, ⟨[], [], [], [], [], [], []⟩] [false] ⟨[], [], [], [], [], [2], [100000], [(100000, 99999)]⟩ [(decide (v3 < ((w100000.length : Nat) : Int))) = false] (by kernel_rfl) ⟨h2, trivial⟩

/-- slices.Compact[[]doorman/api.Net,doorman/api.Net] -/
def g_slices_Compact_api_Net_api_Net (a0 : (List T_api_Net)) : Option (List T_api_Net) :=
  bif (decide (((a0.length : Nat) : Int) < (2 : Int))) then
    some a0
  else
    g_slices_Compact_api_Net_api_Net_c0   ((((a0.length : Nat) : Int) - (1 : Int)).toNat + 2) (1 : Int) a0

theorem g_slices_Compact_api_Net_api_Net_own (a0 : (List T_api_Net)) (r : (List T_api_Net)) (hf : g_slices_Compact_api_Net_api_Net a0 = some r) : HCall Try.prog 110 [(100000, .rows 27 4 a0.length (rowsOf T_api_Net.c T_api_Net.d a0))] [.one (.osl 100000 a0.length)] [(99999, .rows 27 4 r.length (rowsOf T_api_Net.c T_api_Net.d r))] (.one (.osl 99999 r.length)) := by
  refine HCall.of Try.func110 rfl rfl rfl rfl fun S0 w0 => ?_
  unfold g_slices_Compact_api_Net_api_Net at hf
  rcases br_some hf with ⟨h1, hf⟩ | ⟨h1, hf⟩
  · replace hf := Option.some.inj hf
    subst hf
    exact toEndH_good allOk 8 _ _ [⟨[], [], [], [], [], [], []⟩, ⟨[], [], [], [], [], [], []⟩, ⟨[], [], [], [], [], [], []⟩] [true] ⟨[], [], [], [], [], [2], [100000], [(100000, 99999)]⟩ [(decide (((a0.length : Nat) : Int) < (2 : Int))) = true] (by kernel_rfl) ⟨h1, trivial⟩
  · exact toK_good allOk HPost.ends 11 _ _ _ _ [⟨[], [], [], [], [], [], []⟩, ⟨[], [], [], [], [], [], []⟩, ⟨[], [], [], [], [], [], []⟩] [false] ⟨[], [], [], [], [], [0, 3], [100000], []⟩ [(decide (((a0.length : Nat) : Int) < (2 : Int))) = false] (by kernel_rfl) ⟨h1, trivial⟩ (g_slices_Compact_api_Net_api_Net_c0_ok S0 w0    ((((a0.length : Nat) : Int) - (1 : Int)).toNat + 2) (1 : Int) a0 r hf)

/-- slices.SortFunc[[]doorman/api.Net,doorman/api.Net] by doorman/cidr.Compare -/
def g_sort_109_103 (a0 : List T_api_Net) : Option (List T_api_Net) :=
  need (a0.length < 4611686018427387904) <|
  some (a0.mergeSort fun x y => !(Go.Proofs.ltOf cmpN) y x)

theorem g_sort_109_103_own (a0 : List T_api_Net) (r : List T_api_Net) (hf : g_sort_109_103 a0 = some r) : HCall Try.prog 109 [(100000, .rows 27 4 a0.length (rowsOf T_api_Net.c T_api_Net.d a0))] [.one (.osl 100000 a0.length), .one (.lit (.func (.func 103) #[] #[]))] [(100000, .rows 27 4 a0.length (rowsOf T_api_Net.c T_api_Net.d r))] (.tup []) := by
  obtain ⟨o1, hf⟩ := need_some hf
  cases hf
  haveI : Inhabited T_api_Net := ⟨T_api_Net.d⟩
  exact sortFunc_call (ρ := sort109_ren) (ev := fun a => (T_api_Net.c a).map unlit) sort109 ⟨_, Try.func109, rfl, rfl⟩ ⟨_, Try.func103, rfl, rfl⟩ (by decide) (fun _ => rfl) (fun _ => rfl)
    (fun x v hv => List.all_eq_true.1 (show ((T_api_Net.c x).map unlit).all (fun v => v.oneCell') = true from rfl) v hv) Try.isAgg27 Try.sizeOf27 cmpN cmpN_swo cmpN_parts (fun x y => g_cidr_Compare_ok x y _ (cidr_cmp x y)) a0 o1

theorem g_sort_109_103_len (a0 : List T_api_Net) (r : List T_api_Net) (hf : g_sort_109_103 a0 = some r) : r.length = a0.length := by
  obtain ⟨o1, hf⟩ := need_some hf
  cases hf
  exact List.length_mergeSort a0

def g_spread_Taken_c1 (a1 : (List T_api_Entry)) (v10 : (List T_api_Peer)) (v11 : Int) (v12 : Int) (kg_spread_Taken_c0 : (List T_api_Peer) → Int → Int → (List T_api_Net) → Option (List T_api_Net)) : Nat → (List T_api_Entry) → Int → Int → (List T_api_Net) → Option (List T_api_Net)
  | 0, _, _, _, _ => none
  | fu + 1, v27, v28, v29, w5 =>
    bif (decide (v29 < v28)) then
      need (0 ≤ v29 ∧ v29 < ((v27.length : Nat) : Int)) <|
      bif ((v27.getD v29.toNat T_api_Entry.d).fState == (2 : Int)) then
        (g_group_Of (((v27.getD v29.toNat T_api_Entry.d).fEnd).fAddr)).bind fun x2 =>
        need ((w5 ++ ([x2] : List T_api_Net)).length * 32 ≤ 140737488355328 ∧ (w5 ++ ([x2] : List T_api_Net)).length ≤ maxLen) <|
        g_spread_Taken_c1 a1 v10 v11 v12 kg_spread_Taken_c0 fu v27 v28 (add64 v29 (1 : Int)) (w5 ++ ([x2] : List T_api_Net))
      else
        g_spread_Taken_c1 a1 v10 v11 v12 kg_spread_Taken_c0 fu v27 v28 (add64 v29 (1 : Int)) w5
    else
      (g_sort_109_103 w5).bind fun x3 =>
      (g_slices_Compact_api_Net_api_Net x3).bind fun x4 =>
      some x4

theorem g_spread_Taken_c1_ok (S0 : Nat → Prop) (w0 : Start) (a1 : (List T_api_Entry)) (v10 : (List T_api_Peer)) (v11 : Int) (v12 : Int) (kg_spread_Taken_c0 : (List T_api_Peer) → Int → Int → (List T_api_Net) → Option (List T_api_Net)) (hg_spread_Taken_c0 : ∀ (v10_ : (List T_api_Peer)) (v11_ : Int) (v12_ : Int) (w5_ : (List T_api_Net)) (r : (List T_api_Net)), kg_spread_Taken_c0 v10_ v11_ v12_ w5_ = some r → Good Try.prog 48 S0 w0 (bodyPost Try.prog Try.f57 (HPost S0 w0 [(99999, .rows 27 4 r.length (rowsOf T_api_Net.c T_api_Net.d r))] (.one (.osl 99999 r.length)))) (at_ [1, 1, 0, 1, 0] (bodyOf Try.f57)) ⟨[(1, .one (cL 7 T_api_Entry.c T_api_Entry.d a1)), (5, .one (.osl 5 w5_.length)), (10, .one (cL 10 T_api_Peer.c T_api_Peer.d v10_)), (11, .one (.lit (.int .i64 v11_))), (12, .one (.lit (.int .i64 v12_)))], [(5, .rows 27 4 w5_.length (rowsOf T_api_Net.c T_api_Net.d w5_))]⟩) : ∀ (fu : Nat) (v27 : (List T_api_Entry)) (v28 : Int) (v29 : Int) (w5 : (List T_api_Net)) (r : (List T_api_Net)), g_spread_Taken_c1 a1 v10 v11 v12 kg_spread_Taken_c0 fu v27 v28 v29 w5 = some r → Good Try.prog 48 S0 w0 (bodyPost Try.prog Try.f57 (HPost S0 w0 [(99999, .rows 27 4 r.length (rowsOf T_api_Net.c T_api_Net.d r))] (.one (.osl 99999 r.length)))) (at_ [1, 1, 1, 0, 1, 0] (bodyOf Try.f57)) ⟨[(5, .one (.osl 5 w5.length)), (27, .one (cL 7 T_api_Entry.c T_api_Entry.d v27)), (28, .one (.lit (.int .i64 v28))), (29, .one (.lit (.int .i64 v29)))], [(5, .rows 27 4 w5.length (rowsOf T_api_Net.c T_api_Net.d w5))]⟩ := by
  intro fu
  induction fu with
  | zero =>
    intro v27 v28 v29 w5 r hf
    simp [g_spread_Taken_c1] at hf
  | succ fu ih =>
    intro v27 v28 v29 w5 r hf
    unfold g_spread_Taken_c1 at hf
    rcases br_some hf with ⟨h6, hf⟩ | ⟨h6, hf⟩
    · obtain ⟨o7, hf⟩ := need_some hf
      rcases br_some hf with ⟨h8, hf⟩ | ⟨h8, hf⟩
      · obtain ⟨x2, q9, hf⟩ := bind_some' hf
        obtain ⟨o10, hf⟩ := need_some hf
        exact toK_good allOk HPost.ends 17 _ _ _ _ [⟨[], [], [], [], [], [], []⟩, ⟨[], [], [], [], [], [], []⟩, ⟨[], [], [], [], [], [], []⟩, ⟨[(4, .r (.agg (T_api_Net.c x2)) []), (6, .c ((w5 ++ ([x2] : List T_api_Net)).length) (rowsOf T_api_Net.c T_api_Net.d (w5 ++ ([x2] : List T_api_Net))))], [], [], [], [], [(5, (([x2] : List T_api_Net).length, rowsOf T_api_Net.c T_api_Net.d ([x2] : List T_api_Net)))], []⟩, ⟨[], [], [], [], [], [], []⟩] [true, true] ⟨[], [], [], [], [], [5, 27, 28, 29], [42], [(42, 5)]⟩ [(decide (v29 < v28)) = true, 0 ≤ v29 ∧ v29 < ((v27.length : Nat) : Int), ((v27.getD v29.toNat T_api_Entry.d).fState == (2 : Int)) = true, SCall Try.prog 108 [.agg (T_api_Addr.c (((v27.getD v29.toNat T_api_Entry.d).fEnd).fAddr))] (.agg (T_api_Net.c x2)), ([x2] : List T_api_Net).length = 1 ∧ ∀ i j, i < 1 → j < 4 → rowsOf T_api_Net.c T_api_Net.d ([x2] : List T_api_Net) i j = (([x2] : List T_api_Net).flatMap T_api_Net.c).getD (i * 4 + j) .junk, Ext 4 w5.length (([x2] : List T_api_Net).length) (rowsOf T_api_Net.c T_api_Net.d w5) (rowsOf T_api_Net.c T_api_Net.d ([x2] : List T_api_Net)) ((w5 ++ ([x2] : List T_api_Net)).length) (rowsOf T_api_Net.c T_api_Net.d (w5 ++ ([x2] : List T_api_Net))), (w5 ++ ([x2] : List T_api_Net)).length * 32 ≤ 140737488355328, (w5 ++ ([x2] : List T_api_Net)).length ≤ maxLen] (by kernel_rfl) ⟨h6, o7, h8, (g_group_Of_ok (((v27.getD v29.toNat T_api_Entry.d).fEnd).fAddr) x2 q9), ⟨rfl, fun i j hi hj => rows_flat (sz := 4) (e := T_api_Net.c) (d := T_api_Net.d) (fun _ => rfl) ([x2] : List T_api_Net) i j hi hj⟩, (ext_app _ _), o10.1, o10.2, trivial⟩ (ih v27 v28 (add64 v29 (1 : Int)) (w5 ++ ([x2] : List T_api_Net)) r hf)
      · exact toK_good allOk HPost.ends 17 _ _ _ _ [⟨[], [], [], [], [], [], []⟩, ⟨[], [], [], [], [], [], []⟩, ⟨[], [], [], [], [], [], []⟩, ⟨[], [], [], [], [], [], []⟩] [true, false] ⟨[], [], [], [], [], [5, 27, 28, 29], [5], []⟩ [(decide (v29 < v28)) = true, 0 ≤ v29 ∧ v29 < ((v27.length : Nat) : Int), ((v27.getD v29.toNat T_api_Entry.d).fState == (2 : Int)) = false] (by kernel_rfl) ⟨h6, o7, h8, trivial⟩ (ih v27 v28 (add64 v29 (1 : Int)) w5 r hf)
    · obtain ⟨x3, q11, hf⟩ := bind_some' hf
      obtain ⟨x4, q12, hf⟩ := bind_some' hf
      replace hf := Option.some.inj hf
      subst hf
      exact toEndH_good allOk 10 _ _ [⟨[], [], [], [], [], [], []⟩, ⟨[], [], [], [], [], [], [(1, ⟨[(100000, 5)], [], [(100000, .rows 27 4 w5.length (rowsOf T_api_Net.c T_api_Net.d x3))], .tup []⟩)]⟩, ⟨[], [], [], [], [], [], [(1, ⟨[(100000, 5)], [(99999, 47)], [(99999, .rows 27 4 x4.length (rowsOf T_api_Net.c T_api_Net.d x4))], .one (.osl 99999 x4.length)⟩)]⟩] [false] ⟨[], [], [], [], [], [4], [47], [(47, 99999)]⟩ [(decide (v29 < v28)) = false, HCall Try.prog 109 [(100000, .rows 27 4 w5.length (rowsOf T_api_Net.c T_api_Net.d w5))] [.one (.osl 100000 w5.length), .one (.lit (.func (.func 103) #[] #[]))] [(100000, .rows 27 4 w5.length (rowsOf T_api_Net.c T_api_Net.d x3))] (.tup []), HCall Try.prog 110 [(100000, .rows 27 4 w5.length (rowsOf T_api_Net.c T_api_Net.d x3))] [.one (.osl 100000 w5.length)] [(99999, .rows 27 4 x4.length (rowsOf T_api_Net.c T_api_Net.d x4))] (.one (.osl 99999 x4.length))] (by kernel_rfl) ⟨h6, (g_sort_109_103_own w5 x3 q11), (by rw [← (g_sort_109_103_len w5 x3 q11)]; exact (g_slices_Compact_api_Net_api_Net_own x3 x4 q12)), trivial⟩

def g_spread_Taken_c0 (a1 : (List T_api_Entry))  : Nat → (List T_api_Peer) → Int → Int → (List T_api_Net) → Option (List T_api_Net)
  | 0, _, _, _, _ => none
  | fu + 1, v10, v11, v12, w5 =>
    bif (decide (v12 < v11)) then
      need (0 ≤ v12 ∧ v12 < ((v10.length : Nat) : Int)) <|
      bif (!(v10.getD v12.toNat T_api_Peer.d).fIn) then
        (g_group_Of (((v10.getD v12.toNat T_api_Peer.d).fEnd).fAddr)).bind fun x1 =>
        need ((w5 ++ ([x1] : List T_api_Net)).length * 32 ≤ 140737488355328 ∧ (w5 ++ ([x1] : List T_api_Net)).length ≤ maxLen) <|
        g_spread_Taken_c0 a1  fu v10 v11 (add64 v12 (1 : Int)) (w5 ++ ([x1] : List T_api_Net))
      else
        g_spread_Taken_c0 a1  fu v10 v11 (add64 v12 (1 : Int)) w5
    else
      g_spread_Taken_c1 a1 v10 v11 v12 (g_spread_Taken_c0 a1  fu) ((((a1.length : Nat) : Int) - (0 : Int)).toNat + 2) a1 ((a1.length : Nat) : Int) (0 : Int) w5

theorem g_spread_Taken_c0_ok (S0 : Nat → Prop) (w0 : Start) (a1 : (List T_api_Entry))  : ∀ (fu : Nat) (v10 : (List T_api_Peer)) (v11 : Int) (v12 : Int) (w5 : (List T_api_Net)) (r : (List T_api_Net)), g_spread_Taken_c0 a1  fu v10 v11 v12 w5 = some r → Good Try.prog 48 S0 w0 (bodyPost Try.prog Try.f57 (HPost S0 w0 [(99999, .rows 27 4 r.length (rowsOf T_api_Net.c T_api_Net.d r))] (.one (.osl 99999 r.length)))) (at_ [1, 1, 0, 1, 0] (bodyOf Try.f57)) ⟨[(1, .one (cL 7 T_api_Entry.c T_api_Entry.d a1)), (5, .one (.osl 5 w5.length)), (10, .one (cL 10 T_api_Peer.c T_api_Peer.d v10)), (11, .one (.lit (.int .i64 v11))), (12, .one (.lit (.int .i64 v12)))], [(5, .rows 27 4 w5.length (rowsOf T_api_Net.c T_api_Net.d w5))]⟩ := by
  intro fu
  induction fu with
  | zero =>
    intro v10 v11 v12 w5 r hf
    simp [g_spread_Taken_c0] at hf
  | succ fu ih =>
    intro v10 v11 v12 w5 r hf
    unfold g_spread_Taken_c0 at hf
    rcases br_some hf with ⟨h1, hf⟩ | ⟨h1, hf⟩
    · obtain ⟨o2, hf⟩ := need_some hf
      rcases br_some hf with ⟨h3, hf⟩ | ⟨h3, hf⟩
      · obtain ⟨x1, q4, hf⟩ := bind_some' hf
        obtain ⟨o5, hf⟩ := need_some hf
        exact toK_good allOk HPost.ends 17 _ _ _ _ [⟨[], [], [], [], [], [], []⟩, ⟨[], [], [], [], [], [], []⟩, ⟨[], [], [], [], [], [], []⟩, ⟨[(4, .r (.agg (T_api_Net.c x1)) []), (6, .c ((w5 ++ ([x1] : List T_api_Net)).length) (rowsOf T_api_Net.c T_api_Net.d (w5 ++ ([x1] : List T_api_Net))))], [], [], [], [], [(5, (([x1] : List T_api_Net).length, rowsOf T_api_Net.c T_api_Net.d ([x1] : List T_api_Net)))], []⟩, ⟨[], [], [], [], [], [], []⟩] [true, true] ⟨[], [], [], [], [], [1, 5, 10, 11, 12], [25], [(25, 5)]⟩ [(decide (v12 < v11)) = true, 0 ≤ v12 ∧ v12 < ((v10.length : Nat) : Int), (!(v10.getD v12.toNat T_api_Peer.d).fIn) = true, SCall Try.prog 108 [.agg (T_api_Addr.c (((v10.getD v12.toNat T_api_Peer.d).fEnd).fAddr))] (.agg (T_api_Net.c x1)), ([x1] : List T_api_Net).length = 1 ∧ ∀ i j, i < 1 → j < 4 → rowsOf T_api_Net.c T_api_Net.d ([x1] : List T_api_Net) i j = (([x1] : List T_api_Net).flatMap T_api_Net.c).getD (i * 4 + j) .junk, Ext 4 w5.length (([x1] : List T_api_Net).length) (rowsOf T_api_Net.c T_api_Net.d w5) (rowsOf T_api_Net.c T_api_Net.d ([x1] : List T_api_Net)) ((w5 ++ ([x1] : List T_api_Net)).length) (rowsOf T_api_Net.c T_api_Net.d (w5 ++ ([x1] : List T_api_Net))), (w5 ++ ([x1] : List T_api_Net)).length * 32 ≤ 140737488355328, (w5 ++ ([x1] : List T_api_Net)).length ≤ maxLen] (by kernel_rfl) ⟨h1, o2, h3, (g_group_Of_ok (((v10.getD v12.toNat T_api_Peer.d).fEnd).fAddr) x1 q4), ⟨rfl, fun i j hi hj => rows_flat (sz := 4) (e := T_api_Net.c) (d := T_api_Net.d) (fun _ => rfl) ([x1] : List T_api_Net) i j hi hj⟩, (ext_app _ _), o5.1, o5.2, trivial⟩ (ih v10 v11 (add64 v12 (1 : Int)) (w5 ++ ([x1] : List T_api_Net)) r hf)
      · exact toK_good allOk HPost.ends 17 _ _ _ _ [⟨[], [], [], [], [], [], []⟩, ⟨[], [], [], [], [], [], []⟩, ⟨[], [], [], [], [], [], []⟩, ⟨[], [], [], [], [], [], []⟩] [true, false] ⟨[], [], [], [], [], [1, 5, 10, 11, 12], [5], []⟩ [(decide (v12 < v11)) = true, 0 ≤ v12 ∧ v12 < ((v10.length : Nat) : Int), (!(v10.getD v12.toNat T_api_Peer.d).fIn) = false] (by kernel_rfl) ⟨h1, o2, h3, trivial⟩ (ih v10 v11 (add64 v12 (1 : Int)) w5 r hf)
    · exact toK_good allOk HPost.ends 10 _ _ _ _ [⟨[], [], [], [], [], [], []⟩, ⟨[], [], [], [], [], [], []⟩] [false] ⟨[], [], [], [], [], [5, 27, 28, 29], [5], []⟩ [(decide (v12 < v11)) = false] (by kernel_rfl) ⟨h1, trivial⟩ (g_spread_Taken_c1_ok S0 w0 a1 v10 v11 v12 (g_spread_Taken_c0 a1  fu) ih ((((a1.length : Nat) : Int) - (0 : Int)).toNat + 2) a1 ((a1.length : Nat) : Int) (0 : Int) w5 r hf)

/-- doorman/spread.Taken -/
def g_spread_Taken (a0 : (List T_api_Peer)) (a1 : (List T_api_Entry)) : Option (List T_api_Net) :=
  g_spread_Taken_c0 a1  ((((a0.length : Nat) : Int) - (0 : Int)).toNat + 2) a0 ((a0.length : Nat) : Int) (0 : Int) ([])

theorem g_spread_Taken_own (a0 : (List T_api_Peer)) (a1 : (List T_api_Entry)) (r : (List T_api_Net)) (hf : g_spread_Taken a0 a1 = some r) : HCall Try.prog 57 [] [.one (cL 10 T_api_Peer.c T_api_Peer.d a0), .one (cL 7 T_api_Entry.c T_api_Entry.d a1)] [(99999, .rows 27 4 r.length (rowsOf T_api_Net.c T_api_Net.d r))] (.one (.osl 99999 r.length)) := by
  refine HCall.of Try.func57 rfl rfl rfl rfl fun S0 w0 => ?_
  unfold g_spread_Taken at hf
  exact toK_good allOk HPost.ends 8 _ _ _ _ [⟨[], [], [], [], [], [], []⟩, ⟨[], [], [], [], [], [], []⟩, ⟨[], [], [], [], [], [], []⟩] [] ⟨[], [], [], [], [(5, 5, 27, 4, rowsOf T_api_Net.c T_api_Net.d [])], [1, 5, 10, 11, 12], [5], []⟩ [] (by kernel_rfl) trivial (g_spread_Taken_c0_ok S0 w0 a1   ((((a0.length : Nat) : Int) - (0 : Int)).toNat + 2) a0 ((a0.length : Nat) : Int) (0 : Int) ([]) r hf)

theorem g_spread_Taken_ok (a0 : (List T_api_Peer)) (a1 : (List T_api_Entry)) (r : (List T_api_Net)) (hf : g_spread_Taken a0 a1 = some r) : SCall Try.prog 57 [.one (cL 10 T_api_Peer.c T_api_Peer.d a0), .one (cL 7 T_api_Entry.c T_api_Entry.d a1)] (.one (cL 4 T_api_Net.c T_api_Net.d r)) := (g_spread_Taken_own a0 a1 r hf).pure

def g_slices_Index_api_Net_api_Net_c0 (a0 : (List T_api_Net))  : Nat → Int → Int → T_api_Net → Option Int
  | 0, _, _, _ => none
  | fu + 1, v7, v8, b3 =>
    bif (decide (v8 < v7)) then
      need (0 ≤ v8 ∧ v8 < ((a0.length : Nat) : Int)) <|
      bif (decide (b3 = (a0.getD v8.toNat T_api_Net.d))) then
        some v8
      else
        g_slices_Index_api_Net_api_Net_c0 a0  fu v7 (add64 v8 (1 : Int)) b3
    else
      some (-1 : Int)

theorem g_slices_Index_api_Net_api_Net_c0_ok (S0 : Nat → Prop) (w0 : Start) (a0 : (List T_api_Net))  : ∀ (fu : Nat) (v7 : Int) (v8 : Int) (b3 : T_api_Net) (r : Int), g_slices_Index_api_Net_api_Net_c0 a0  fu v7 v8 b3 = some r → Good Try.prog 19 S0 w0 (bodyPost Try.prog Try.f147 (Post S0 w0 (.one (.lit (.int .i64 r))))) (at_ [1, 0, 1, 0] (bodyOf Try.f147)) ⟨[(0, .one (cL 4 T_api_Net.c T_api_Net.d a0)), (3, .one (.ptr 3 0)), (7, .one (.lit (.int .i64 v7))), (8, .one (.lit (.int .i64 v8)))], [(3, .box [.lit (.bool b3.fAddr.fV6), .lit (.int .u64 b3.fAddr.fHi), .lit (.int .u64 b3.fAddr.fLo), .lit (.int .i64 b3.fBits)])]⟩ := by
  intro fu
  induction fu with
  | zero =>
    intro v7 v8 b3 r hf
    simp [g_slices_Index_api_Net_api_Net_c0] at hf
  | succ fu ih =>
    intro v7 v8 b3 r hf
    unfold g_slices_Index_api_Net_api_Net_c0 at hf
    rcases br_some hf with ⟨h1, hf⟩ | ⟨h1, hf⟩
    · obtain ⟨o2, hf⟩ := need_some hf
      rcases br_some hf with ⟨h3, hf⟩ | ⟨h3, hf⟩
      · replace hf := Option.some.inj hf
        subst hf
        exact toEnd_good allOk 15 _ _ [⟨[], [], [], [], [], [], []⟩, ⟨[], [], [], [], [], [], []⟩, ⟨[(5, .r (.one (.lit (.bool (decide (b3 = (a0.getD v8.toNat T_api_Net.d)))))) [])], [], [], [[], [], [], [1, 2], [3, 1, 2], [0, 4, 3, 1, 2]], [], [], []⟩, ⟨[], [], [], [], [], [], []⟩] [true, true] [] [] [] [(decide (v8 < v7)) = true, 0 ≤ v8 ∧ v8 < ((a0.length : Nat) : Int), ∀ w, (do eqGuard .eql 27 (.tmp 11) (.tmp 15) (.agg #[.bool b3.fAddr.fV6, .int .u64 b3.fAddr.fHi, .int .u64 b3.fAddr.fLo, .int .i64 b3.fBits]) (.agg #[.bool (((a0.getD v8.toNat T_api_Net.d).fAddr).fV6), .int .u64 (((a0.getD v8.toNat T_api_Net.d).fAddr).fHi), .int .u64 (((a0.getD v8.toNat T_api_Net.d).fAddr).fLo), .int .i64 ((a0.getD v8.toNat T_api_Net.d).fBits)]); binOp .eql 27 (.agg #[.bool b3.fAddr.fV6, .int .u64 b3.fAddr.fHi, .int .u64 b3.fAddr.fLo, .int .i64 b3.fBits]) (.agg #[.bool (((a0.getD v8.toNat T_api_Net.d).fAddr).fV6), .int .u64 (((a0.getD v8.toNat T_api_Net.d).fAddr).fHi), .int .u64 (((a0.getD v8.toNat T_api_Net.d).fAddr).fLo), .int .i64 ((a0.getD v8.toNat T_api_Net.d).fBits)]) : Sem Value).run Try.prog w = .ok (.bool (decide (b3 = (a0.getD v8.toNat T_api_Net.d)))) w, (decide (b3 = (a0.getD v8.toNat T_api_Net.d))) = true] (by kernel_rfl) rfl ⟨h1, o2, (eql_T_api_Net b3 (a0.getD v8.toNat T_api_Net.d) _ _), h3, trivial⟩
      · exact toK_good allOk Post.ends 17 _ _ _ _ [⟨[], [], [], [], [], [], []⟩, ⟨[], [], [], [], [], [], []⟩, ⟨[(5, .r (.one (.lit (.bool (decide (b3 = (a0.getD v8.toNat T_api_Net.d)))))) [])], [], [], [[], [], [], [1, 2], [3, 1, 2], [0, 4, 3, 1, 2]], [], [], []⟩, ⟨[], [], [], [], [], [], []⟩] [true, false] ⟨[], [], [], [], [], [0, 3, 7, 8], [3], []⟩ [(decide (v8 < v7)) = true, 0 ≤ v8 ∧ v8 < ((a0.length : Nat) : Int), ∀ w, (do eqGuard .eql 27 (.tmp 11) (.tmp 15) (.agg #[.bool b3.fAddr.fV6, .int .u64 b3.fAddr.fHi, .int .u64 b3.fAddr.fLo, .int .i64 b3.fBits]) (.agg #[.bool (((a0.getD v8.toNat T_api_Net.d).fAddr).fV6), .int .u64 (((a0.getD v8.toNat T_api_Net.d).fAddr).fHi), .int .u64 (((a0.getD v8.toNat T_api_Net.d).fAddr).fLo), .int .i64 ((a0.getD v8.toNat T_api_Net.d).fBits)]); binOp .eql 27 (.agg #[.bool b3.fAddr.fV6, .int .u64 b3.fAddr.fHi, .int .u64 b3.fAddr.fLo, .int .i64 b3.fBits]) (.agg #[.bool (((a0.getD v8.toNat T_api_Net.d).fAddr).fV6), .int .u64 (((a0.getD v8.toNat T_api_Net.d).fAddr).fHi), .int .u64 (((a0.getD v8.toNat T_api_Net.d).fAddr).fLo), .int .i64 ((a0.getD v8.toNat T_api_Net.d).fBits)]) : Sem Value).run Try.prog w = .ok (.bool (decide (b3 = (a0.getD v8.toNat T_api_Net.d)))) w, (decide (b3 = (a0.getD v8.toNat T_api_Net.d))) = false] (by kernel_rfl) ⟨h1, o2, (eql_T_api_Net b3 (a0.getD v8.toNat T_api_Net.d) _ _), h3, trivial⟩ (ih v7 (add64 v8 (1 : Int)) b3 r hf)
    · replace hf := Option.some.inj hf
      subst hf
      exact toEnd_good allOk 8 _ _ [⟨[], [], [], [], [], [], []⟩, ⟨[], [], [], [], [], [], []⟩] [false] [] [] [] [(decide (v8 < v7)) = false] (by kernel_rfl) rfl ⟨h1, trivial⟩

/-- slices.Index[[]doorman/api.Net,doorman/api.Net] -/
def g_slices_Index_api_Net_api_Net (a0 : (List T_api_Net)) (a1 : T_api_Net) : Option Int :=
  g_slices_Index_api_Net_api_Net_c0 a0  ((((a0.length : Nat) : Int) - (0 : Int)).toNat + 2) ((a0.length : Nat) : Int) (0 : Int) a1

theorem g_slices_Index_api_Net_api_Net_ok (a0 : (List T_api_Net)) (a1 : T_api_Net) (r : Int) (hf : g_slices_Index_api_Net_api_Net a0 a1 = some r) : SCall Try.prog 147 [.one (cL 4 T_api_Net.c T_api_Net.d a0), .agg (T_api_Net.c a1)] (.one (.lit (.int .i64 r))) := by
  refine SCall.of Try.func147 rfl rfl rfl rfl fun S0 w0 => ?_
  unfold g_slices_Index_api_Net_api_Net at hf
  exact toK_good allOk Post.ends 6 _ _ _ _ [⟨[], [], [], [], [], [], []⟩, ⟨[], [], [], [], [], [], []⟩] [] ⟨[], [], [], [], [], [0, 3, 7, 8], [3], []⟩ [] (by kernel_rfl) trivial (g_slices_Index_api_Net_api_Net_c0_ok S0 w0 a0   ((((a0.length : Nat) : Int) - (0 : Int)).toNat + 2) ((a0.length : Nat) : Int) (0 : Int) a1 r hf)

/-- slices.Contains[[]doorman/api.Net,doorman/api.Net] -/
def g_slices_Contains_api_Net_api_Net (a0 : (List T_api_Net)) (a1 : T_api_Net) : Option Bool :=
  (g_slices_Index_api_Net_api_Net a0 a1).bind fun x1 =>
  some (decide (x1 ≥ (0 : Int)))

theorem g_slices_Contains_api_Net_api_Net_ok (a0 : (List T_api_Net)) (a1 : T_api_Net) (r : Bool) (hf : g_slices_Contains_api_Net_api_Net a0 a1 = some r) : SCall Try.prog 113 [.one (cL 4 T_api_Net.c T_api_Net.d a0), .agg (T_api_Net.c a1)] (.one (.lit (.bool r))) := by
  refine SCall.of Try.func113 rfl rfl rfl rfl fun S0 w0 => ?_
  unfold g_slices_Contains_api_Net_api_Net at hf
  obtain ⟨x1, q1, hf⟩ := bind_some' hf
  replace hf := Option.some.inj hf
  subst hf
  exact toEnd_good allOk 4 _ _ [⟨[], [], [], [], [], [], []⟩, ⟨[(2, .r (.one (.lit (.int .i64 x1))) [])], [], [], [], [], [], []⟩] [] [] [] [] [SCall Try.prog 147 [.one (cL 4 T_api_Net.c T_api_Net.d a0), .agg (T_api_Net.c a1)] (.one (.lit (.int .i64 x1)))] (by kernel_rfl) rfl ⟨(g_slices_Index_api_Net_api_Net_ok a0 a1 x1 q1), trivial⟩

/-- doorman/spread.Free -/
def g_spread_Free (a0 : (List T_api_Peer)) (a1 : (List T_api_Entry)) (a2 : T_api_Addr) : Option Bool :=
  (g_addr_Right a2).bind fun x1 =>
  bif x1 then
    (g_spread_Taken a0 a1).bind fun x2 =>
    (g_group_Of a2).bind fun x3 =>
    (g_slices_Contains_api_Net_api_Net x2 x3).bind fun x4 =>
    some (!x4)
  else
    some false

theorem g_spread_Free_ok (a0 : (List T_api_Peer)) (a1 : (List T_api_Entry)) (a2 : T_api_Addr) (r : Bool) (hf : g_spread_Free a0 a1 a2 = some r) : SCall Try.prog 59 [.one (cL 10 T_api_Peer.c T_api_Peer.d a0), .one (cL 7 T_api_Entry.c T_api_Entry.d a1), .agg (T_api_Addr.c a2)] (.one (.lit (.bool r))) := by
  refine SCall.of Try.func59 rfl rfl rfl rfl fun S0 w0 => ?_
  unfold g_spread_Free at hf
  obtain ⟨x1, q1, hf⟩ := bind_some' hf
  rcases br_some hf with ⟨h2, hf⟩ | ⟨h2, hf⟩
  · obtain ⟨x2, q3, hf⟩ := bind_some' hf
    obtain ⟨x3, q4, hf⟩ := bind_some' hf
    obtain ⟨x4, q5, hf⟩ := bind_some' hf
    replace hf := Option.some.inj hf
    subst hf
    exact toEnd_good allOk 4 _ _ [⟨[], [], [], [], [], [], []⟩, ⟨[(1, .r (.one (.lit (.bool x1))) []), (5, .r (.one (cL 4 T_api_Net.c T_api_Net.d x2)) []), (7, .r (.agg (T_api_Net.c x3)) []), (8, .r (.one (.lit (.bool x4))) [])], [(2, true)], [], [[], [0], [1, 0], [2, 1, 0], [2, 1, 0], [3, 2, 1, 0, 4], [2, 1, 0], [6, 2, 1, 0, 5, 3, 4], [5, 3, 2, 1, 0, 4, 7, 6], [8, 5, 3, 2, 1, 0, 4, 7, 6], [2, 1, 0, 9, 8, 5, 3, 4, 7, 6], [10, 2, 1, 0, 9, 8, 5, 3, 4, 7, 6]], [], [], []⟩] [] [] [] [] [SCall Try.prog 77 [.agg (T_api_Addr.c a2)] (.one (.lit (.bool x1))), x1 = true, SCall Try.prog 57 [.one (cL 10 T_api_Peer.c T_api_Peer.d a0), .one (cL 7 T_api_Entry.c T_api_Entry.d a1)] (.one (cL 4 T_api_Net.c T_api_Net.d x2)), SCall Try.prog 108 [.agg (T_api_Addr.c a2)] (.agg (T_api_Net.c x3)), SCall Try.prog 113 [.one (cL 4 T_api_Net.c T_api_Net.d x2), .agg (T_api_Net.c x3)] (.one (.lit (.bool x4)))] (by kernel_rfl) rfl ⟨(g_addr_Right_ok a2 x1 q1), h2, (g_spread_Taken_ok a0 a1 x2 q3), (g_group_Of_ok a2 x3 q4), (g_slices_Contains_api_Net_api_Net_ok x2 x3 x4 q5), trivial⟩
  · replace hf := Option.some.inj hf
    subst hf
    exact toEnd_good allOk 4 _ _ [⟨[], [], [], [], [], [], []⟩, ⟨[(1, .r (.one (.lit (.bool x1))) [])], [(2, false)], [], [[], [0], [1, 0], [2, 1, 0], [2, 1, 0], [3, 2, 1, 0, 4], [2, 1, 0], [6, 2, 1, 0, 5, 3, 4], [5, 3, 2, 1, 0, 4, 7, 6], [8, 5, 3, 2, 1, 0, 4, 7, 6], [2, 1, 0, 9, 8, 5, 3, 4, 7, 6], [10, 2, 1, 0, 9, 8, 5, 3, 4, 7, 6]], [], [], []⟩] [] [] [] [] [SCall Try.prog 77 [.agg (T_api_Addr.c a2)] (.one (.lit (.bool x1))), x1 = false] (by kernel_rfl) rfl ⟨(g_addr_Right_ok a2 x1 q1), h2, trivial⟩

/-- doorman/doormanlaw27.awake -/
def g_doormanlaw27_awake  : Option Bool :=
  (g_spread_Taken ([] : (List T_api_Peer)) ([(T_api_Entry.mk (T_api_End.mk (T_api_Addr.mk false (0 : Int) (167838211 : Int)) (80 : Int)) (2 : Int) (0 : Int) (0 : Int))] : List T_api_Entry)).bind fun x1 =>
  bif (((x1.length : Nat) : Int) == (1 : Int)) then
    (g_spread_Free ([] : (List T_api_Peer)) ([(T_api_Entry.mk (T_api_End.mk (T_api_Addr.mk false (0 : Int) (167838211 : Int)) (80 : Int)) (2 : Int) (0 : Int) (0 : Int))] : List T_api_Entry) (T_api_Addr.mk false (0 : Int) (167840009 : Int))).bind fun x2 =>
    bif (!x2) then
      (g_spread_Free ([] : (List T_api_Peer)) ([(T_api_Entry.mk (T_api_End.mk (T_api_Addr.mk false (0 : Int) (167838211 : Int)) (80 : Int)) (2 : Int) (0 : Int) (0 : Int))] : List T_api_Entry) (T_api_Addr.mk false (0 : Int) (167903233 : Int))).bind fun x3 =>
      some x3
    else
      some false
  else
    some false

theorem g_doormanlaw27_awake_ok  (r : Bool) (hf : g_doormanlaw27_awake  = some r) : SCall Try.prog 55 [] (.one (.lit (.bool r))) := by
  refine SCall.of Try.func55 rfl rfl rfl rfl fun S0 w0 => ?_
  unfold g_doormanlaw27_awake at hf
  obtain ⟨x1, q1, hf⟩ := bind_some' hf
  rcases br_some hf with ⟨h2, hf⟩ | ⟨h2, hf⟩
  · obtain ⟨x2, q3, hf⟩ := bind_some' hf
    rcases br_some hf with ⟨h4, hf⟩ | ⟨h4, hf⟩
    · obtain ⟨x3, q5, hf⟩ := bind_some' hf
      replace hf := Option.some.inj hf
      subst hf
      exact toEnd_good allOk 6 _ _ [⟨[], [], [], [], [], [], []⟩, ⟨[], [], [], [], [], [(3, (([(T_api_Entry.mk (T_api_End.mk (T_api_Addr.mk false (0 : Int) (167838211 : Int)) (80 : Int)) (2 : Int) (0 : Int) (0 : Int))] : List T_api_Entry).length, rowsOf T_api_Entry.c T_api_Entry.d ([(T_api_Entry.mk (T_api_End.mk (T_api_Addr.mk false (0 : Int) (167838211 : Int)) (80 : Int)) (2 : Int) (0 : Int) (0 : Int))] : List T_api_Entry)))], []⟩, ⟨[(1, .r (.one (cL 4 T_api_Net.c T_api_Net.d x1)) []), (7, .r (.one (.lit (.bool x2))) []), (13, .r (.one (.lit (.bool x3))) [])], [(4, true), (10, true)], [], [], [], [], []⟩] [] [] [] [] [([(T_api_Entry.mk (T_api_End.mk (T_api_Addr.mk false (0 : Int) (167838211 : Int)) (80 : Int)) (2 : Int) (0 : Int) (0 : Int))] : List T_api_Entry).length = 1 ∧ ∀ i j, i < 1 → j < 7 → rowsOf T_api_Entry.c T_api_Entry.d ([(T_api_Entry.mk (T_api_End.mk (T_api_Addr.mk false (0 : Int) (167838211 : Int)) (80 : Int)) (2 : Int) (0 : Int) (0 : Int))] : List T_api_Entry) i j = (([(T_api_Entry.mk (T_api_End.mk (T_api_Addr.mk false (0 : Int) (167838211 : Int)) (80 : Int)) (2 : Int) (0 : Int) (0 : Int))] : List T_api_Entry).flatMap T_api_Entry.c).getD (i * 7 + j) .junk, SCall Try.prog 57 [.one (.lit (.slice none 0 0)), .one (cL 7 T_api_Entry.c T_api_Entry.d ([(T_api_Entry.mk (T_api_End.mk (T_api_Addr.mk false (0 : Int) (167838211 : Int)) (80 : Int)) (2 : Int) (0 : Int) (0 : Int))] : List T_api_Entry))] (.one (cL 4 T_api_Net.c T_api_Net.d x1)), (((x1.length : Nat) : Int) == (1 : Int)) = true, SCall Try.prog 59 [.one (.lit (.slice none 0 0)), .one (cL 7 T_api_Entry.c T_api_Entry.d ([(T_api_Entry.mk (T_api_End.mk (T_api_Addr.mk false (0 : Int) (167838211 : Int)) (80 : Int)) (2 : Int) (0 : Int) (0 : Int))] : List T_api_Entry)), .agg (T_api_Addr.c (T_api_Addr.mk false (0 : Int) (167840009 : Int)))] (.one (.lit (.bool x2))), (!x2) = true, SCall Try.prog 59 [.one (.lit (.slice none 0 0)), .one (cL 7 T_api_Entry.c T_api_Entry.d ([(T_api_Entry.mk (T_api_End.mk (T_api_Addr.mk false (0 : Int) (167838211 : Int)) (80 : Int)) (2 : Int) (0 : Int) (0 : Int))] : List T_api_Entry)), .agg (T_api_Addr.c (T_api_Addr.mk false (0 : Int) (167903233 : Int)))] (.one (.lit (.bool x3)))] (by kernel_rfl) rfl ⟨⟨rfl, fun i j hi hj => rows_flat (sz := 7) (e := T_api_Entry.c) (d := T_api_Entry.d) (fun _ => rfl) ([(T_api_Entry.mk (T_api_End.mk (T_api_Addr.mk false (0 : Int) (167838211 : Int)) (80 : Int)) (2 : Int) (0 : Int) (0 : Int))] : List T_api_Entry) i j hi hj⟩, ((g_spread_Taken_ok ([] : (List T_api_Peer)) ([(T_api_Entry.mk (T_api_End.mk (T_api_Addr.mk false (0 : Int) (167838211 : Int)) (80 : Int)) (2 : Int) (0 : Int) (0 : Int))] : List T_api_Entry) x1 q1).weak (.cons (.one (.nul _ _)) (.cons (.refl _) .nil))), h2, ((g_spread_Free_ok ([] : (List T_api_Peer)) ([(T_api_Entry.mk (T_api_End.mk (T_api_Addr.mk false (0 : Int) (167838211 : Int)) (80 : Int)) (2 : Int) (0 : Int) (0 : Int))] : List T_api_Entry) (T_api_Addr.mk false (0 : Int) (167840009 : Int)) x2 q3).weak (.cons (.one (.nul _ _)) (.cons (.refl _) (.cons (.refl _) .nil)))), h4, ((g_spread_Free_ok ([] : (List T_api_Peer)) ([(T_api_Entry.mk (T_api_End.mk (T_api_Addr.mk false (0 : Int) (167838211 : Int)) (80 : Int)) (2 : Int) (0 : Int) (0 : Int))] : List T_api_Entry) (T_api_Addr.mk false (0 : Int) (167903233 : Int)) x3 q5).weak (.cons (.one (.nul _ _)) (.cons (.refl _) (.cons (.refl _) .nil)))), trivial⟩
    · replace hf := Option.some.inj hf
      subst hf
      exact toEnd_good allOk 6 _ _ [⟨[], [], [], [], [], [], []⟩, ⟨[], [], [], [], [], [(3, (([(T_api_Entry.mk (T_api_End.mk (T_api_Addr.mk false (0 : Int) (167838211 : Int)) (80 : Int)) (2 : Int) (0 : Int) (0 : Int))] : List T_api_Entry).length, rowsOf T_api_Entry.c T_api_Entry.d ([(T_api_Entry.mk (T_api_End.mk (T_api_Addr.mk false (0 : Int) (167838211 : Int)) (80 : Int)) (2 : Int) (0 : Int) (0 : Int))] : List T_api_Entry)))], []⟩, ⟨[(1, .r (.one (cL 4 T_api_Net.c T_api_Net.d x1)) []), (7, .r (.one (.lit (.bool x2))) [])], [(4, true), (10, false)], [], [], [], [], []⟩] [] [] [] [] [([(T_api_Entry.mk (T_api_End.mk (T_api_Addr.mk false (0 : Int) (167838211 : Int)) (80 : Int)) (2 : Int) (0 : Int) (0 : Int))] : List T_api_Entry).length = 1 ∧ ∀ i j, i < 1 → j < 7 → rowsOf T_api_Entry.c T_api_Entry.d ([(T_api_Entry.mk (T_api_End.mk (T_api_Addr.mk false (0 : Int) (167838211 : Int)) (80 : Int)) (2 : Int) (0 : Int) (0 : Int))] : List T_api_Entry) i j = (([(T_api_Entry.mk (T_api_End.mk (T_api_Addr.mk false (0 : Int) (167838211 : Int)) (80 : Int)) (2 : Int) (0 : Int) (0 : Int))] : List T_api_Entry).flatMap T_api_Entry.c).getD (i * 7 + j) .junk, SCall Try.prog 57 [.one (.lit (.slice none 0 0)), .one (cL 7 T_api_Entry.c T_api_Entry.d ([(T_api_Entry.mk (T_api_End.mk (T_api_Addr.mk false (0 : Int) (167838211 : Int)) (80 : Int)) (2 : Int) (0 : Int) (0 : Int))] : List T_api_Entry))] (.one (cL 4 T_api_Net.c T_api_Net.d x1)), (((x1.length : Nat) : Int) == (1 : Int)) = true, SCall Try.prog 59 [.one (.lit (.slice none 0 0)), .one (cL 7 T_api_Entry.c T_api_Entry.d ([(T_api_Entry.mk (T_api_End.mk (T_api_Addr.mk false (0 : Int) (167838211 : Int)) (80 : Int)) (2 : Int) (0 : Int) (0 : Int))] : List T_api_Entry)), .agg (T_api_Addr.c (T_api_Addr.mk false (0 : Int) (167840009 : Int)))] (.one (.lit (.bool x2))), (!x2) = false] (by kernel_rfl) rfl ⟨⟨rfl, fun i j hi hj => rows_flat (sz := 7) (e := T_api_Entry.c) (d := T_api_Entry.d) (fun _ => rfl) ([(T_api_Entry.mk (T_api_End.mk (T_api_Addr.mk false (0 : Int) (167838211 : Int)) (80 : Int)) (2 : Int) (0 : Int) (0 : Int))] : List T_api_Entry) i j hi hj⟩, ((g_spread_Taken_ok ([] : (List T_api_Peer)) ([(T_api_Entry.mk (T_api_End.mk (T_api_Addr.mk false (0 : Int) (167838211 : Int)) (80 : Int)) (2 : Int) (0 : Int) (0 : Int))] : List T_api_Entry) x1 q1).weak (.cons (.one (.nul _ _)) (.cons (.refl _) .nil))), h2, ((g_spread_Free_ok ([] : (List T_api_Peer)) ([(T_api_Entry.mk (T_api_End.mk (T_api_Addr.mk false (0 : Int) (167838211 : Int)) (80 : Int)) (2 : Int) (0 : Int) (0 : Int))] : List T_api_Entry) (T_api_Addr.mk false (0 : Int) (167840009 : Int)) x2 q3).weak (.cons (.one (.nul _ _)) (.cons (.refl _) (.cons (.refl _) .nil)))), h4, trivial⟩
  · replace hf := Option.some.inj hf
    subst hf
    exact toEnd_good allOk 6 _ _ [⟨[], [], [], [], [], [], []⟩, ⟨[], [], [], [], [], [(3, (([(T_api_Entry.mk (T_api_End.mk (T_api_Addr.mk false (0 : Int) (167838211 : Int)) (80 : Int)) (2 : Int) (0 : Int) (0 : Int))] : List T_api_Entry).length, rowsOf T_api_Entry.c T_api_Entry.d ([(T_api_Entry.mk (T_api_End.mk (T_api_Addr.mk false (0 : Int) (167838211 : Int)) (80 : Int)) (2 : Int) (0 : Int) (0 : Int))] : List T_api_Entry)))], []⟩, ⟨[(1, .r (.one (cL 4 T_api_Net.c T_api_Net.d x1)) [])], [(4, false)], [], [], [], [], []⟩] [] [] [] [] [([(T_api_Entry.mk (T_api_End.mk (T_api_Addr.mk false (0 : Int) (167838211 : Int)) (80 : Int)) (2 : Int) (0 : Int) (0 : Int))] : List T_api_Entry).length = 1 ∧ ∀ i j, i < 1 → j < 7 → rowsOf T_api_Entry.c T_api_Entry.d ([(T_api_Entry.mk (T_api_End.mk (T_api_Addr.mk false (0 : Int) (167838211 : Int)) (80 : Int)) (2 : Int) (0 : Int) (0 : Int))] : List T_api_Entry) i j = (([(T_api_Entry.mk (T_api_End.mk (T_api_Addr.mk false (0 : Int) (167838211 : Int)) (80 : Int)) (2 : Int) (0 : Int) (0 : Int))] : List T_api_Entry).flatMap T_api_Entry.c).getD (i * 7 + j) .junk, SCall Try.prog 57 [.one (.lit (.slice none 0 0)), .one (cL 7 T_api_Entry.c T_api_Entry.d ([(T_api_Entry.mk (T_api_End.mk (T_api_Addr.mk false (0 : Int) (167838211 : Int)) (80 : Int)) (2 : Int) (0 : Int) (0 : Int))] : List T_api_Entry))] (.one (cL 4 T_api_Net.c T_api_Net.d x1)), (((x1.length : Nat) : Int) == (1 : Int)) = false] (by kernel_rfl) rfl ⟨⟨rfl, fun i j hi hj => rows_flat (sz := 7) (e := T_api_Entry.c) (d := T_api_Entry.d) (fun _ => rfl) ([(T_api_Entry.mk (T_api_End.mk (T_api_Addr.mk false (0 : Int) (167838211 : Int)) (80 : Int)) (2 : Int) (0 : Int) (0 : Int))] : List T_api_Entry) i j hi hj⟩, ((g_spread_Taken_ok ([] : (List T_api_Peer)) ([(T_api_Entry.mk (T_api_End.mk (T_api_Addr.mk false (0 : Int) (167838211 : Int)) (80 : Int)) (2 : Int) (0 : Int) (0 : Int))] : List T_api_Entry) x1 q1).weak (.cons (.one (.nul _ _)) (.cons (.refl _) .nil))), h2, trivial⟩

/-- doorman/doormanref06.Right -/
def g_doormanref06_Right (a0 : T_api_Addr) : Option Bool :=
  bif (!a0.fV6) then
    bif (a0.fHi == (0 : Int)) then
      some (decide (a0.fLo < (4294967296 : Int)))
    else
      some false
  else
    bif (a0.fHi != (0 : Int)) then
      some true
    else
      some ((IntKind.wrap .u64 (Int.tdiv a0.fLo (4294967296 : Int))) != (65535 : Int))

theorem g_doormanref06_Right_ok (a0 : T_api_Addr) (r : Bool) (hf : g_doormanref06_Right a0 = some r) : SCall Try.prog 114 [.agg (T_api_Addr.c a0)] (.one (.lit (.bool r))) := by
  refine SCall.of Try.func114 rfl rfl rfl rfl fun S0 w0 => ?_
  unfold g_doormanref06_Right at hf
  rcases br_some hf with ⟨h1, hf⟩ | ⟨h1, hf⟩
  · rcases br_some hf with ⟨h2, hf⟩ | ⟨h2, hf⟩
    · replace hf := Option.some.inj hf
      subst hf
      exact toEnd_good allOk 8 _ _ [⟨[], [], [], [], [], [], []⟩, ⟨[], [], [], [], [], [], []⟩, ⟨[], [(3, true)], [], [], [], [], []⟩] [true] [] [] [] [(!a0.fV6) = true, (a0.fHi == (0 : Int)) = true] (by kernel_rfl) rfl ⟨h1, h2, trivial⟩
    · replace hf := Option.some.inj hf
      subst hf
      exact toEnd_good allOk 8 _ _ [⟨[], [], [], [], [], [], []⟩, ⟨[], [], [], [], [], [], []⟩, ⟨[], [(3, false)], [], [], [], [], []⟩] [true] [] [] [] [(!a0.fV6) = true, (a0.fHi == (0 : Int)) = false] (by kernel_rfl) rfl ⟨h1, h2, trivial⟩
  · rcases br_some hf with ⟨h3, hf⟩ | ⟨h3, hf⟩
    · replace hf := Option.some.inj hf
      subst hf
      exact toEnd_good allOk 9 _ _ [⟨[], [], [], [], [], [], []⟩, ⟨[], [], [], [], [], [], []⟩, ⟨[], [(3, true)], [], [], [], [], []⟩] [false] [] [] [] [(!a0.fV6) = false, (a0.fHi != (0 : Int)) = true] (by kernel_rfl) rfl ⟨h1, h3, trivial⟩
    · replace hf := Option.some.inj hf
      subst hf
      exact toEnd_good allOk 9 _ _ [⟨[], [], [], [], [], [], []⟩, ⟨[], [], [], [], [], [], []⟩, ⟨[], [(3, false)], [], [], [], [], []⟩] [false] [] [] [] [(!a0.fV6) = false, (a0.fHi != (0 : Int)) = false, (4294967296 : Int) ≠ 0] (by kernel_rfl) rfl ⟨h1, h3, (by decide), trivial⟩

/-- doorman/doormanref08.Of -/
def g_doormanref08_Of (a0 : T_api_Addr) : Option T_api_Net :=
  (g_doormanref06_Right a0).bind fun x1 =>
  bif (!x1) then
    some (T_api_Net.mk (T_api_Addr.mk false (0 : Int) (0 : Int)) (0 : Int))
  else
    bif a0.fV6 then
      some (T_api_Net.mk (T_api_Addr.mk true (IntKind.wrap .u64 (a0.fHi - (Int.tmod a0.fHi (4294967296 : Int)))) (0 : Int)) (32 : Int))
    else
      some (T_api_Net.mk (T_api_Addr.mk false (0 : Int) (IntKind.wrap .u64 (a0.fLo - (Int.tmod a0.fLo (65536 : Int))))) (16 : Int))

theorem g_doormanref08_Of_ok (a0 : T_api_Addr) (r : T_api_Net) (hf : g_doormanref08_Of a0 = some r) : SCall Try.prog 112 [.agg (T_api_Addr.c a0)] (.agg (T_api_Net.c r)) := by
  refine SCall.of Try.func112 rfl rfl rfl rfl fun S0 w0 => ?_
  unfold g_doormanref08_Of at hf
  obtain ⟨x1, q1, hf⟩ := bind_some' hf
  rcases br_some hf with ⟨h2, hf⟩ | ⟨h2, hf⟩
  · replace hf := Option.some.inj hf
    subst hf
    exact toEnd_good allOk 8 _ _ [⟨[], [], [], [], [], [], []⟩, ⟨[(1, .r (.one (.lit (.bool x1))) [])], [], [], [], [], [], []⟩, ⟨[], [], [], [], [], [], []⟩] [true] [] [] [] [SCall Try.prog 114 [.agg (T_api_Addr.c a0)] (.one (.lit (.bool x1))), (!x1) = true] (by kernel_rfl) rfl ⟨(g_doormanref06_Right_ok a0 x1 q1), h2, trivial⟩
  · rcases br_some hf with ⟨h3, hf⟩ | ⟨h3, hf⟩
    · replace hf := Option.some.inj hf
      subst hf
      exact toEnd_good allOk 13 _ _ [⟨[], [], [], [], [], [], []⟩, ⟨[(1, .r (.one (.lit (.bool x1))) [])], [], [], [], [], [], []⟩, ⟨[], [], [], [], [], [], []⟩, ⟨[], [], [], [], [], [], []⟩] [false, true] [] [] [] [SCall Try.prog 114 [.agg (T_api_Addr.c a0)] (.one (.lit (.bool x1))), (!x1) = false, a0.fV6 = true, (4294967296 : Int) ≠ 0] (by kernel_rfl) rfl ⟨(g_doormanref06_Right_ok a0 x1 q1), h2, h3, (by decide), trivial⟩
    · replace hf := Option.some.inj hf
      subst hf
      exact toEnd_good allOk 14 _ _ [⟨[], [], [], [], [], [], []⟩, ⟨[(1, .r (.one (.lit (.bool x1))) [])], [], [], [], [], [], []⟩, ⟨[], [], [], [], [], [], []⟩, ⟨[], [], [], [], [], [], []⟩] [false, false] [] [] [] [SCall Try.prog 114 [.agg (T_api_Addr.c a0)] (.one (.lit (.bool x1))), (!x1) = false, a0.fV6 = false, (65536 : Int) ≠ 0] (by kernel_rfl) rfl ⟨(g_doormanref06_Right_ok a0 x1 q1), h2, h3, (by decide), trivial⟩

def g_doormanref06_Compare_c1   (v5 : Bool) : Option Int :=
  bif v5 then
    some (-1 : Int)
  else
    some (1 : Int)

theorem g_doormanref06_Compare_c1_ok (S0 : Nat → Prop) (w0 : Start)   (v5 : Bool) (r : Int) (hf : g_doormanref06_Compare_c1   v5 = some r) : Good Try.prog 33 S0 w0 (bodyPost Try.prog Try.f125 (Post S0 w0 (.one (.lit (.int .i64 r))))) (at_ [1, 1, 1, 1, 1] (bodyOf Try.f125)) ⟨[(5, .one (.lit (.bool v5)))], []⟩ := by
  unfold g_doormanref06_Compare_c1 at hf
  rcases br_some hf with ⟨h4, hf⟩ | ⟨h4, hf⟩
  · replace hf := Option.some.inj hf
    subst hf
    exact toEnd_good allOk 6 _ _ [⟨[], [], [], [], [], [], []⟩, ⟨[], [], [], [], [], [], []⟩] [true] [] [] [] [v5 = true] (by kernel_rfl) rfl ⟨h4, trivial⟩
  · replace hf := Option.some.inj hf
    subst hf
    exact toEnd_good allOk 7 _ _ [⟨[], [], [], [], [], [], []⟩, ⟨[], [], [], [], [], [], []⟩] [false] [] [] [] [v5 = false] (by kernel_rfl) rfl ⟨h4, trivial⟩

def g_doormanref06_Compare_c0   (v5 : Bool) (b2 : T_api_Addr) (b3 : T_api_Addr) : Option Int :=
  bif (!(b2.fV6 == b3.fV6)) then
    g_doormanref06_Compare_c1   (!b2.fV6)
  else
    g_doormanref06_Compare_c1   v5

theorem g_doormanref06_Compare_c0_ok (S0 : Nat → Prop) (w0 : Start)   (v5 : Bool) (b2 : T_api_Addr) (b3 : T_api_Addr) (r : Int) (hf : g_doormanref06_Compare_c0   v5 b2 b3 = some r) : Good Try.prog 33 S0 w0 (bodyPost Try.prog Try.f125 (Post S0 w0 (.one (.lit (.int .i64 r))))) (at_ [1, 1, 1, 1] (bodyOf Try.f125)) ⟨[(2, .one (.ptr 2 0)), (3, .one (.ptr 3 0)), (5, .one (.lit (.bool v5)))], [(2, .box [.lit (.bool b2.fV6), .lit (.int .u64 b2.fHi), .lit (.int .u64 b2.fLo)]), (3, .box [.lit (.bool b3.fV6), .lit (.int .u64 b3.fHi), .lit (.int .u64 b3.fLo)])]⟩ := by
  unfold g_doormanref06_Compare_c0 at hf
  rcases br_some hf with ⟨h3, hf⟩ | ⟨h3, hf⟩
  · exact toK_good allOk Post.ends 5 _ _ _ _ [⟨[], [], [], [], [], [], []⟩, ⟨[], [], [], [], [], [], []⟩] [true] ⟨[], [], [], [], [], [5], [], []⟩ [(!(b2.fV6 == b3.fV6)) = true] (by kernel_rfl) ⟨h3, trivial⟩ (g_doormanref06_Compare_c1_ok S0 w0    (!b2.fV6) r hf)
  · exact toK_good allOk Post.ends 5 _ _ _ _ [⟨[], [], [], [], [], [], []⟩] [false] ⟨[], [], [], [], [], [5], [], []⟩ [(!(b2.fV6 == b3.fV6)) = false] (by kernel_rfl) ⟨h3, trivial⟩ (g_doormanref06_Compare_c1_ok S0 w0    v5 r hf)

/-- doorman/doormanref06.Compare -/
def g_doormanref06_Compare (a0 : T_api_Addr) (a1 : T_api_Addr) : Option Int :=
  bif (decide (a0 = a1)) then
    some (0 : Int)
  else
    bif (a0.fHi != a1.fHi) then
      g_doormanref06_Compare_c0   (decide (a0.fHi < a1.fHi)) a0 a1
    else
      g_doormanref06_Compare_c0   (decide (a0.fLo < a1.fLo)) a0 a1

theorem g_doormanref06_Compare_ok (a0 : T_api_Addr) (a1 : T_api_Addr) (r : Int) (hf : g_doormanref06_Compare a0 a1 = some r) : SCall Try.prog 125 [.agg (T_api_Addr.c a0), .agg (T_api_Addr.c a1)] (.one (.lit (.int .i64 r))) := by
  refine SCall.of Try.func125 rfl rfl rfl rfl fun S0 w0 => ?_
  unfold g_doormanref06_Compare at hf
  rcases br_some hf with ⟨h1, hf⟩ | ⟨h1, hf⟩
  · replace hf := Option.some.inj hf
    subst hf
    exact toEnd_good allOk 8 _ _ [⟨[], [], [], [], [], [], []⟩, ⟨[(2, .r (.one (.lit (.bool (decide (a0 = a1))))) [])], [], [], [], [], [], []⟩, ⟨[], [], [], [], [], [], []⟩] [true] [] [] [] [∀ w, (do eqGuard .eql 25 (.tmp 6) (.tmp 7) (.agg #[.bool a0.fV6, .int .u64 a0.fHi, .int .u64 a0.fLo]) (.agg #[.bool a1.fV6, .int .u64 a1.fHi, .int .u64 a1.fLo]); binOp .eql 25 (.agg #[.bool a0.fV6, .int .u64 a0.fHi, .int .u64 a0.fLo]) (.agg #[.bool a1.fV6, .int .u64 a1.fHi, .int .u64 a1.fLo]) : Sem Value).run Try.prog w = .ok (.bool (decide (a0 = a1))) w, (decide (a0 = a1)) = true] (by kernel_rfl) rfl ⟨(eql_T_api_Addr a0 a1 _ _), h1, trivial⟩
  · rcases br_some hf with ⟨h2, hf⟩ | ⟨h2, hf⟩
    · exact toK_good allOk Post.ends 14 _ _ _ _ [⟨[], [], [], [], [], [], []⟩, ⟨[(2, .r (.one (.lit (.bool (decide (a0 = a1))))) [])], [], [], [], [], [], []⟩, ⟨[], [], [], [], [], [], []⟩, ⟨[], [], [], [], [], [], []⟩, ⟨[], [], [], [], [], [], []⟩] [false, true] ⟨[], [], [], [], [], [2, 3, 5], [2, 3], []⟩ [∀ w, (do eqGuard .eql 25 (.tmp 6) (.tmp 7) (.agg #[.bool a0.fV6, .int .u64 a0.fHi, .int .u64 a0.fLo]) (.agg #[.bool a1.fV6, .int .u64 a1.fHi, .int .u64 a1.fLo]); binOp .eql 25 (.agg #[.bool a0.fV6, .int .u64 a0.fHi, .int .u64 a0.fLo]) (.agg #[.bool a1.fV6, .int .u64 a1.fHi, .int .u64 a1.fLo]) : Sem Value).run Try.prog w = .ok (.bool (decide (a0 = a1))) w, (decide (a0 = a1)) = false, (a0.fHi != a1.fHi) = true] (by kernel_rfl) ⟨(eql_T_api_Addr a0 a1 _ _), h1, h2, trivial⟩ (g_doormanref06_Compare_c0_ok S0 w0    (decide (a0.fHi < a1.fHi)) a0 a1 r hf)
    · exact toK_good allOk Post.ends 14 _ _ _ _ [⟨[], [], [], [], [], [], []⟩, ⟨[(2, .r (.one (.lit (.bool (decide (a0 = a1))))) [])], [], [], [], [], [], []⟩, ⟨[], [], [], [], [], [], []⟩, ⟨[], [], [], [], [], [], []⟩] [false, false] ⟨[], [], [], [], [], [2, 3, 5], [2, 3], []⟩ [∀ w, (do eqGuard .eql 25 (.tmp 6) (.tmp 7) (.agg #[.bool a0.fV6, .int .u64 a0.fHi, .int .u64 a0.fLo]) (.agg #[.bool a1.fV6, .int .u64 a1.fHi, .int .u64 a1.fLo]); binOp .eql 25 (.agg #[.bool a0.fV6, .int .u64 a0.fHi, .int .u64 a0.fLo]) (.agg #[.bool a1.fV6, .int .u64 a1.fHi, .int .u64 a1.fLo]) : Sem Value).run Try.prog w = .ok (.bool (decide (a0 = a1))) w, (decide (a0 = a1)) = false, (a0.fHi != a1.fHi) = false] (by kernel_rfl) ⟨(eql_T_api_Addr a0 a1 _ _), h1, h2, trivial⟩ (g_doormanref06_Compare_c0_ok S0 w0    (decide (a0.fLo < a1.fLo)) a0 a1 r hf)

/-- doorman/doormanref07.Compare -/
def g_doormanref07_Compare (a0 : T_api_Net) (a1 : T_api_Net) : Option Int :=
  (g_doormanref06_Compare a0.fAddr a1.fAddr).bind fun x1 =>
  bif (x1 != (0 : Int)) then
    some x1
  else
    bif (a0.fBits == a1.fBits) then
      some x1
    else
      bif (decide (a0.fBits < a1.fBits)) then
        some (-1 : Int)
      else
        some (1 : Int)

theorem g_doormanref07_Compare_ok (a0 : T_api_Net) (a1 : T_api_Net) (r : Int) (hf : g_doormanref07_Compare a0 a1 = some r) : SCall Try.prog 71 [.agg (T_api_Net.c a0), .agg (T_api_Net.c a1)] (.one (.lit (.int .i64 r))) := by
  refine SCall.of Try.func71 rfl rfl rfl rfl fun S0 w0 => ?_
  unfold g_doormanref07_Compare at hf
  obtain ⟨x1, q1, hf⟩ := bind_some' hf
  rcases br_some hf with ⟨h2, hf⟩ | ⟨h2, hf⟩
  · replace hf := Option.some.inj hf
    subst hf
    exact toEnd_good allOk 10 _ _ [⟨[], [], [], [], [], [], []⟩, ⟨[(4, .r (.one (.lit (.int .i64 x1))) [])], [], [], [], [], [], []⟩, ⟨[], [(2, true)], [], [], [], [], []⟩, ⟨[], [], [], [], [], [], []⟩] [true] [] [] [] [SCall Try.prog 125 [.agg (T_api_Addr.c a0.fAddr), .agg (T_api_Addr.c a1.fAddr)] (.one (.lit (.int .i64 x1))), (x1 != (0 : Int)) = true, true = true] (by kernel_rfl) rfl ⟨(g_doormanref06_Compare_ok a0.fAddr a1.fAddr x1 q1), h2, rfl, trivial⟩
  · rcases br_some hf with ⟨h3, hf⟩ | ⟨h3, hf⟩
    · replace hf := Option.some.inj hf
      subst hf
      exact toEnd_good allOk 10 _ _ [⟨[], [], [], [], [], [], []⟩, ⟨[(4, .r (.one (.lit (.int .i64 x1))) [])], [], [], [], [], [], []⟩, ⟨[], [(2, false)], [], [], [], [], []⟩, ⟨[], [], [], [], [], [], []⟩] [true] [] [] [] [SCall Try.prog 125 [.agg (T_api_Addr.c a0.fAddr), .agg (T_api_Addr.c a1.fAddr)] (.one (.lit (.int .i64 x1))), (x1 != (0 : Int)) = false, (a0.fBits == a1.fBits) = true] (by kernel_rfl) rfl ⟨(g_doormanref06_Compare_ok a0.fAddr a1.fAddr x1 q1), h2, h3, trivial⟩
    · rcases br_some hf with ⟨h4, hf⟩ | ⟨h4, hf⟩
      · replace hf := Option.some.inj hf
        subst hf
        exact toEnd_good allOk 15 _ _ [⟨[], [], [], [], [], [], []⟩, ⟨[(4, .r (.one (.lit (.int .i64 x1))) [])], [], [], [], [], [], []⟩, ⟨[], [(2, false)], [], [], [], [], []⟩, ⟨[], [], [], [], [], [], []⟩, ⟨[], [], [], [], [], [], []⟩] [false, true] [] [] [] [SCall Try.prog 125 [.agg (T_api_Addr.c a0.fAddr), .agg (T_api_Addr.c a1.fAddr)] (.one (.lit (.int .i64 x1))), (x1 != (0 : Int)) = false, (a0.fBits == a1.fBits) = false, (decide (a0.fBits < a1.fBits)) = true] (by kernel_rfl) rfl ⟨(g_doormanref06_Compare_ok a0.fAddr a1.fAddr x1 q1), h2, h3, h4, trivial⟩
      · replace hf := Option.some.inj hf
        subst hf
        exact toEnd_good allOk 16 _ _ [⟨[], [], [], [], [], [], []⟩, ⟨[(4, .r (.one (.lit (.int .i64 x1))) [])], [], [], [], [], [], []⟩, ⟨[], [(2, false)], [], [], [], [], []⟩, ⟨[], [], [], [], [], [], []⟩, ⟨[], [], [], [], [], [], []⟩] [false, false] [] [] [] [SCall Try.prog 125 [.agg (T_api_Addr.c a0.fAddr), .agg (T_api_Addr.c a1.fAddr)] (.one (.lit (.int .i64 x1))), (x1 != (0 : Int)) = false, (a0.fBits == a1.fBits) = false, (decide (a0.fBits < a1.fBits)) = false] (by kernel_rfl) rfl ⟨(g_doormanref06_Compare_ok a0.fAddr a1.fAddr x1 q1), h2, h3, h4, trivial⟩

def g_doormanref27_put_c0 (a0 : (List T_api_Net))  : Nat → Int → T_api_Net → Option (List T_api_Net)
  | 0, _, _ => none
  | fu + 1, v5, b3 =>
    bif (decide (v5 < ((a0.length : Nat) : Int))) then
      need (0 ≤ v5 ∧ v5 < ((a0.length : Nat) : Int)) <|
      (g_doormanref07_Compare (a0.getD v5.toNat T_api_Net.d) b3).bind fun x1 =>
      bif (decide (x1 < (0 : Int))) then
        g_doormanref27_put_c0 a0  fu (add64 v5 (1 : Int)) b3
      else
        bif (decide (v5 < ((a0.length : Nat) : Int))) then
          bif (decide ((a0.getD v5.toNat T_api_Net.d) = b3)) then
            some a0
          else
            need (0 ≤ v5 ∧ v5 ≤ ((a0.length : Nat) : Int)) <|
            need ((([] : List T_api_Net) ++ (a0.take v5.toNat)).length * 32 ≤ 140737488355328 ∧ (([] : List T_api_Net) ++ (a0.take v5.toNat)).length ≤ maxLen) <|
            need (((([] : List T_api_Net) ++ (a0.take v5.toNat)) ++ ([b3] : List T_api_Net)).length * 32 ≤ 140737488355328 ∧ ((([] : List T_api_Net) ++ (a0.take v5.toNat)) ++ ([b3] : List T_api_Net)).length ≤ maxLen) <|
            need ((((([] : List T_api_Net) ++ (a0.take v5.toNat)) ++ ([b3] : List T_api_Net)) ++ (a0.drop v5.toNat)).length * 32 ≤ 140737488355328 ∧ (((([] : List T_api_Net) ++ (a0.take v5.toNat)) ++ ([b3] : List T_api_Net)) ++ (a0.drop v5.toNat)).length ≤ maxLen) <|
            some (((([] : List T_api_Net) ++ (a0.take v5.toNat)) ++ ([b3] : List T_api_Net)) ++ (a0.drop v5.toNat))
        else
          need (0 ≤ v5 ∧ v5 ≤ ((a0.length : Nat) : Int)) <|
          need ((([] : List T_api_Net) ++ (a0.take v5.toNat)).length * 32 ≤ 140737488355328 ∧ (([] : List T_api_Net) ++ (a0.take v5.toNat)).length ≤ maxLen) <|
          need (((([] : List T_api_Net) ++ (a0.take v5.toNat)) ++ ([b3] : List T_api_Net)).length * 32 ≤ 140737488355328 ∧ ((([] : List T_api_Net) ++ (a0.take v5.toNat)) ++ ([b3] : List T_api_Net)).length ≤ maxLen) <|
          need ((((([] : List T_api_Net) ++ (a0.take v5.toNat)) ++ ([b3] : List T_api_Net)) ++ (a0.drop v5.toNat)).length * 32 ≤ 140737488355328 ∧ (((([] : List T_api_Net) ++ (a0.take v5.toNat)) ++ ([b3] : List T_api_Net)) ++ (a0.drop v5.toNat)).length ≤ maxLen) <|
          some (((([] : List T_api_Net) ++ (a0.take v5.toNat)) ++ ([b3] : List T_api_Net)) ++ (a0.drop v5.toNat))
    else
      bif (decide (v5 < ((a0.length : Nat) : Int))) then
        need (0 ≤ v5 ∧ v5 < ((a0.length : Nat) : Int)) <|
        bif (decide ((a0.getD v5.toNat T_api_Net.d) = b3)) then
          some a0
        else
          need (0 ≤ v5 ∧ v5 ≤ ((a0.length : Nat) : Int)) <|
          need ((([] : List T_api_Net) ++ (a0.take v5.toNat)).length * 32 ≤ 140737488355328 ∧ (([] : List T_api_Net) ++ (a0.take v5.toNat)).length ≤ maxLen) <|
          need (((([] : List T_api_Net) ++ (a0.take v5.toNat)) ++ ([b3] : List T_api_Net)).length * 32 ≤ 140737488355328 ∧ ((([] : List T_api_Net) ++ (a0.take v5.toNat)) ++ ([b3] : List T_api_Net)).length ≤ maxLen) <|
          need ((((([] : List T_api_Net) ++ (a0.take v5.toNat)) ++ ([b3] : List T_api_Net)) ++ (a0.drop v5.toNat)).length * 32 ≤ 140737488355328 ∧ (((([] : List T_api_Net) ++ (a0.take v5.toNat)) ++ ([b3] : List T_api_Net)) ++ (a0.drop v5.toNat)).length ≤ maxLen) <|
          some (((([] : List T_api_Net) ++ (a0.take v5.toNat)) ++ ([b3] : List T_api_Net)) ++ (a0.drop v5.toNat))
      else
        need (0 ≤ v5 ∧ v5 ≤ ((a0.length : Nat) : Int)) <|
        need ((([] : List T_api_Net) ++ (a0.take v5.toNat)).length * 32 ≤ 140737488355328 ∧ (([] : List T_api_Net) ++ (a0.take v5.toNat)).length ≤ maxLen) <|
        need (((([] : List T_api_Net) ++ (a0.take v5.toNat)) ++ ([b3] : List T_api_Net)).length * 32 ≤ 140737488355328 ∧ ((([] : List T_api_Net) ++ (a0.take v5.toNat)) ++ ([b3] : List T_api_Net)).length ≤ maxLen) <|
        need ((((([] : List T_api_Net) ++ (a0.take v5.toNat)) ++ ([b3] : List T_api_Net)) ++ (a0.drop v5.toNat)).length * 32 ≤ 140737488355328 ∧ (((([] : List T_api_Net) ++ (a0.take v5.toNat)) ++ ([b3] : List T_api_Net)) ++ (a0.drop v5.toNat)).length ≤ maxLen) <|
        some (((([] : List T_api_Net) ++ (a0.take v5.toNat)) ++ ([b3] : List T_api_Net)) ++ (a0.drop v5.toNat))

theorem g_doormanref27_put_c0_ok (S0 : Nat → Prop) (w0 : Start) (a0 : (List T_api_Net))  : ∀ (fu : Nat) (v5 : Int) (b3 : T_api_Net) (r : (List T_api_Net)), g_doormanref27_put_c0 a0  fu v5 b3 = some r → Good Try.prog 48 S0 w0 (bodyPost Try.prog Try.f111 (Post S0 w0 (.one (cL 4 T_api_Net.c T_api_Net.d r)))) (at_ [1, 1, 0, 0] (bodyOf Try.f111)) ⟨[(0, .one (cL 4 T_api_Net.c T_api_Net.d a0)), (3, .one (.ptr 3 0)), (5, .one (.lit (.int .i64 v5)))], [(3, .box [.lit (.bool b3.fAddr.fV6), .lit (.int .u64 b3.fAddr.fHi), .lit (.int .u64 b3.fAddr.fLo), .lit (.int .i64 b3.fBits)])]⟩ := by
  intro fu
  induction fu with
  | zero =>
    intro v5 b3 r hf
    simp [g_doormanref27_put_c0] at hf
  | succ fu ih =>
    intro v5 b3 r hf
    unfold g_doormanref27_put_c0 at hf
    rcases br_some hf with ⟨h1, hf⟩ | ⟨h1, hf⟩
    · obtain ⟨o2, hf⟩ := need_some hf
      obtain ⟨x1, q3, hf⟩ := bind_some' hf
      rcases br_some hf with ⟨h4, hf⟩ | ⟨h4, hf⟩
      · exact toK_good allOk Post.ends 10 _ _ _ _ [⟨[(10, .r (.one (.lit (.int .i64 x1))) [])], [(4, true)], [], [[], [], [1], [0, 2, 1], [3, 0, 2, 1], [4, 3, 0, 2, 1], [4, 3, 0, 2, 1], [5, 4, 3, 0, 2, 1, 6], [7, 5, 4, 3, 0, 2, 1, 6], [4, 3, 0, 2, 1], [8, 7, 5, 4, 3, 0, 2, 1, 6, 9], [10, 8, 7, 5, 4, 3, 0, 2, 1, 6, 9], [4, 3, 0, 2, 1, 11, 10, 8, 7, 5, 6, 9]], [], [], []⟩, ⟨[], [], [], [], [], [], []⟩] [true] ⟨[], [], [], [], [], [0, 3, 5], [3], []⟩ [(decide (v5 < ((a0.length : Nat) : Int))) = true, 0 ≤ v5 ∧ v5 < ((a0.length : Nat) : Int), SCall Try.prog 71 [.agg (T_api_Net.c (a0.getD v5.toNat T_api_Net.d)), .agg (T_api_Net.c b3)] (.one (.lit (.int .i64 x1))), (decide (x1 < (0 : Int))) = true] (by kernel_rfl) ⟨h1, o2, (g_doormanref07_Compare_ok (a0.getD v5.toNat T_api_Net.d) b3 x1 q3), h4, trivial⟩ (ih (add64 v5 (1 : Int)) b3 r hf)
      · rcases br_some hf with ⟨h5, hf⟩ | ⟨h5, hf⟩
        · rcases br_some hf with ⟨h6, hf⟩ | ⟨h6, hf⟩
          · replace hf := Option.some.inj hf
            subst hf
            exact toEnd_good allOk 12 _ _ [⟨[(10, .r (.one (.lit (.int .i64 x1))) [])], [(4, true)], [], [[], [], [1], [0, 2, 1], [3, 0, 2, 1], [4, 3, 0, 2, 1], [4, 3, 0, 2, 1], [5, 4, 3, 0, 2, 1, 6], [7, 5, 4, 3, 0, 2, 1, 6], [4, 3, 0, 2, 1], [8, 7, 5, 4, 3, 0, 2, 1, 6, 9], [10, 8, 7, 5, 4, 3, 0, 2, 1, 6, 9], [4, 3, 0, 2, 1, 11, 10, 8, 7, 5, 6, 9]], [], [], []⟩, ⟨[(10, .r (.one (.lit (.bool (decide ((a0.getD v5.toNat T_api_Net.d) = b3))))) [])], [(4, true)], [], [[], [], [1], [0, 2, 1], [3, 0, 2, 1], [4, 3, 0, 2, 1], [4, 3, 0, 2, 1], [5, 4, 3, 0, 2, 1, 6], [7, 5, 4, 3, 0, 2, 1, 6], [4, 3, 0, 2, 1], [8, 7, 5, 4, 3, 0, 2, 1, 6, 9], [4, 3, 0, 2, 1, 10, 8, 7, 5, 6, 9]], [], [], []⟩, ⟨[], [], [], [], [], [], []⟩] [false, true] [] [] [] [(decide (v5 < ((a0.length : Nat) : Int))) = true, 0 ≤ v5 ∧ v5 < ((a0.length : Nat) : Int), SCall Try.prog 71 [.agg (T_api_Net.c (a0.getD v5.toNat T_api_Net.d)), .agg (T_api_Net.c b3)] (.one (.lit (.int .i64 x1))), (decide (x1 < (0 : Int))) = false, (decide (v5 < ((a0.length : Nat) : Int))) = true, 0 ≤ v5 ∧ v5 < ((a0.length : Nat) : Int), ∀ w, (do eqGuard .eql 27 (.tmp 30) (.tmp 31) (.agg #[.bool (((a0.getD v5.toNat T_api_Net.d).fAddr).fV6), .int .u64 (((a0.getD v5.toNat T_api_Net.d).fAddr).fHi), .int .u64 (((a0.getD v5.toNat T_api_Net.d).fAddr).fLo), .int .i64 ((a0.getD v5.toNat T_api_Net.d).fBits)]) (.agg #[.bool b3.fAddr.fV6, .int .u64 b3.fAddr.fHi, .int .u64 b3.fAddr.fLo, .int .i64 b3.fBits]); binOp .eql 27 (.agg #[.bool (((a0.getD v5.toNat T_api_Net.d).fAddr).fV6), .int .u64 (((a0.getD v5.toNat T_api_Net.d).fAddr).fHi), .int .u64 (((a0.getD v5.toNat T_api_Net.d).fAddr).fLo), .int .i64 ((a0.getD v5.toNat T_api_Net.d).fBits)]) (.agg #[.bool b3.fAddr.fV6, .int .u64 b3.fAddr.fHi, .int .u64 b3.fAddr.fLo, .int .i64 b3.fBits]) : Sem Value).run Try.prog w = .ok (.bool (decide ((a0.getD v5.toNat T_api_Net.d) = b3))) w, (decide ((a0.getD v5.toNat T_api_Net.d) = b3)) = true] (by kernel_rfl) rfl ⟨h1, o2, (g_doormanref07_Compare_ok (a0.getD v5.toNat T_api_Net.d) b3 x1 q3), h4, h5, o2, (eql_T_api_Net (a0.getD v5.toNat T_api_Net.d) b3 _ _), h6, trivial⟩
          · obtain ⟨o7, hf⟩ := need_some hf
            obtain ⟨o8, hf⟩ := need_some hf
            obtain ⟨o9, hf⟩ := need_some hf
            obtain ⟨o10, hf⟩ := need_some hf
            replace hf := Option.some.inj hf
            subst hf
            exact toEnd_good allOk 15 _ _ [⟨[(10, .r (.one (.lit (.int .i64 x1))) [])], [(4, true)], [], [[], [], [1], [0, 2, 1], [3, 0, 2, 1], [4, 3, 0, 2, 1], [4, 3, 0, 2, 1], [5, 4, 3, 0, 2, 1, 6], [7, 5, 4, 3, 0, 2, 1, 6], [4, 3, 0, 2, 1], [8, 7, 5, 4, 3, 0, 2, 1, 6, 9], [10, 8, 7, 5, 4, 3, 0, 2, 1, 6, 9], [4, 3, 0, 2, 1, 11, 10, 8, 7, 5, 6, 9]], [], [], []⟩, ⟨[(10, .r (.one (.lit (.bool (decide ((a0.getD v5.toNat T_api_Net.d) = b3))))) [])], [(4, true)], [], [[], [], [1], [0, 2, 1], [3, 0, 2, 1], [4, 3, 0, 2, 1], [4, 3, 0, 2, 1], [5, 4, 3, 0, 2, 1, 6], [7, 5, 4, 3, 0, 2, 1, 6], [4, 3, 0, 2, 1], [8, 7, 5, 4, 3, 0, 2, 1, 6, 9], [4, 3, 0, 2, 1, 10, 8, 7, 5, 6, 9]], [], [], []⟩, ⟨[(0, .c ([] : List T_api_Net).length (rowsOf T_api_Net.c T_api_Net.d ([] : List T_api_Net))), (4, .c ((([] : List T_api_Net) ++ (a0.take v5.toNat)).length) (rowsOf T_api_Net.c T_api_Net.d (([] : List T_api_Net) ++ (a0.take v5.toNat)))), (7, .c (((([] : List T_api_Net) ++ (a0.take v5.toNat)) ++ ([b3] : List T_api_Net)).length) (rowsOf T_api_Net.c T_api_Net.d ((([] : List T_api_Net) ++ (a0.take v5.toNat)) ++ ([b3] : List T_api_Net))))], [], [], [[], [], [], [1, 2], [0, 3, 1, 2], [], [5], [4, 0, 3, 1, 2, 6, 5], [7, 4, 0, 3, 1, 2, 6, 5]], [], [(3, ((a0.take v5.toNat).length, rowsOf T_api_Net.c T_api_Net.d (a0.take v5.toNat))), (6, (([b3] : List T_api_Net).length, rowsOf T_api_Net.c T_api_Net.d ([b3] : List T_api_Net)))], []⟩, ⟨[(4, .c ((((([] : List T_api_Net) ++ (a0.take v5.toNat)) ++ ([b3] : List T_api_Net)) ++ (a0.drop v5.toNat)).length) (rowsOf T_api_Net.c T_api_Net.d (((([] : List T_api_Net) ++ (a0.take v5.toNat)) ++ ([b3] : List T_api_Net)) ++ (a0.drop v5.toNat))))], [], [], [], [], [(3, ((a0.drop v5.toNat).length, rowsOf T_api_Net.c T_api_Net.d (a0.drop v5.toNat)))], []⟩] [false, false] [47] [] [] [(decide (v5 < ((a0.length : Nat) : Int))) = true, 0 ≤ v5 ∧ v5 < ((a0.length : Nat) : Int), SCall Try.prog 71 [.agg (T_api_Net.c (a0.getD v5.toNat T_api_Net.d)), .agg (T_api_Net.c b3)] (.one (.lit (.int .i64 x1))), (decide (x1 < (0 : Int))) = false, (decide (v5 < ((a0.length : Nat) : Int))) = true, 0 ≤ v5 ∧ v5 < ((a0.length : Nat) : Int), ∀ w, (do eqGuard .eql 27 (.tmp 30) (.tmp 31) (.agg #[.bool (((a0.getD v5.toNat T_api_Net.d).fAddr).fV6), .int .u64 (((a0.getD v5.toNat T_api_Net.d).fAddr).fHi), .int .u64 (((a0.getD v5.toNat T_api_Net.d).fAddr).fLo), .int .i64 ((a0.getD v5.toNat T_api_Net.d).fBits)]) (.agg #[.bool b3.fAddr.fV6, .int .u64 b3.fAddr.fHi, .int .u64 b3.fAddr.fLo, .int .i64 b3.fBits]); binOp .eql 27 (.agg #[.bool (((a0.getD v5.toNat T_api_Net.d).fAddr).fV6), .int .u64 (((a0.getD v5.toNat T_api_Net.d).fAddr).fHi), .int .u64 (((a0.getD v5.toNat T_api_Net.d).fAddr).fLo), .int .i64 ((a0.getD v5.toNat T_api_Net.d).fBits)]) (.agg #[.bool b3.fAddr.fV6, .int .u64 b3.fAddr.fHi, .int .u64 b3.fAddr.fLo, .int .i64 b3.fBits]) : Sem Value).run Try.prog w = .ok (.bool (decide ((a0.getD v5.toNat T_api_Net.d) = b3))) w, (decide ((a0.getD v5.toNat T_api_Net.d) = b3)) = false, ([] : List T_api_Net).length = 0, ∀ i j, i < 0 → j < 4 → rowsOf T_api_Net.c T_api_Net.d ([] : List T_api_Net) i j = (([] : List T_api_Net).flatMap T_api_Net.c).getD (i * 4 + j) .junk, (a0.take v5.toNat).length = v5.toNat ∧ ∀ i j, i < v5.toNat → j < 4 → rowsOf T_api_Net.c T_api_Net.d (a0.take v5.toNat) i j = rowsOf T_api_Net.c T_api_Net.d a0 i j, 0 ≤ v5 ∧ v5 ≤ ((a0.length : Nat) : Int), Ext 4 (([] : List T_api_Net).length) ((a0.take v5.toNat).length) (rowsOf T_api_Net.c T_api_Net.d ([] : List T_api_Net)) (rowsOf T_api_Net.c T_api_Net.d (a0.take v5.toNat)) ((([] : List T_api_Net) ++ (a0.take v5.toNat)).length) (rowsOf T_api_Net.c T_api_Net.d (([] : List T_api_Net) ++ (a0.take v5.toNat))), (([] : List T_api_Net) ++ (a0.take v5.toNat)).length * 32 ≤ 140737488355328, (([] : List T_api_Net) ++ (a0.take v5.toNat)).length ≤ maxLen, ([b3] : List T_api_Net).length = 1 ∧ ∀ i j, i < 1 → j < 4 → rowsOf T_api_Net.c T_api_Net.d ([b3] : List T_api_Net) i j = (([b3] : List T_api_Net).flatMap T_api_Net.c).getD (i * 4 + j) .junk, Ext 4 ((([] : List T_api_Net) ++ (a0.take v5.toNat)).length) (([b3] : List T_api_Net).length) (rowsOf T_api_Net.c T_api_Net.d (([] : List T_api_Net) ++ (a0.take v5.toNat))) (rowsOf T_api_Net.c T_api_Net.d ([b3] : List T_api_Net)) (((([] : List T_api_Net) ++ (a0.take v5.toNat)) ++ ([b3] : List T_api_Net)).length) (rowsOf T_api_Net.c T_api_Net.d ((([] : List T_api_Net) ++ (a0.take v5.toNat)) ++ ([b3] : List T_api_Net))), ((([] : List T_api_Net) ++ (a0.take v5.toNat)) ++ ([b3] : List T_api_Net)).length * 32 ≤ 140737488355328, ((([] : List T_api_Net) ++ (a0.take v5.toNat)) ++ ([b3] : List T_api_Net)).length ≤ maxLen, (a0.drop v5.toNat).length = a0.length - v5.toNat ∧ ∀ i j, i < a0.length - v5.toNat → j < 4 → rowsOf T_api_Net.c T_api_Net.d (a0.drop v5.toNat) i j = rowsOf T_api_Net.c T_api_Net.d a0 (v5.toNat + i) j, 0 ≤ v5 ∧ v5 ≤ ((a0.length : Nat) : Int), Ext 4 (((([] : List T_api_Net) ++ (a0.take v5.toNat)) ++ ([b3] : List T_api_Net)).length) ((a0.drop v5.toNat).length) (rowsOf T_api_Net.c T_api_Net.d ((([] : List T_api_Net) ++ (a0.take v5.toNat)) ++ ([b3] : List T_api_Net))) (rowsOf T_api_Net.c T_api_Net.d (a0.drop v5.toNat)) ((((([] : List T_api_Net) ++ (a0.take v5.toNat)) ++ ([b3] : List T_api_Net)) ++ (a0.drop v5.toNat)).length) (rowsOf T_api_Net.c T_api_Net.d (((([] : List T_api_Net) ++ (a0.take v5.toNat)) ++ ([b3] : List T_api_Net)) ++ (a0.drop v5.toNat))), (((([] : List T_api_Net) ++ (a0.take v5.toNat)) ++ ([b3] : List T_api_Net)) ++ (a0.drop v5.toNat)).length * 32 ≤ 140737488355328, (((([] : List T_api_Net) ++ (a0.take v5.toNat)) ++ ([b3] : List T_api_Net)) ++ (a0.drop v5.toNat)).length ≤ maxLen] (by kernel_rfl) rfl ⟨h1, o2, (g_doormanref07_Compare_ok (a0.getD v5.toNat T_api_Net.d) b3 x1 q3), h4, h5, o2, (eql_T_api_Net (a0.getD v5.toNat T_api_Net.d) b3 _ _), h6, rfl, (fun i j hi hj => rows_flat (sz := 4) (e := T_api_Net.c) (d := T_api_Net.d) (fun _ => rfl) ([] : List T_api_Net) i j hi hj), (piece_take _ _ o7), o7, (ext_app _ _), o8.1, o8.2, ⟨rfl, fun i j hi hj => rows_flat (sz := 4) (e := T_api_Net.c) (d := T_api_Net.d) (fun _ => rfl) ([b3] : List T_api_Net) i j hi hj⟩, (ext_app _ _), o9.1, o9.2, (piece_drop _ _), o7, (ext_app _ _), o10.1, o10.2, trivial⟩
        · obtain ⟨o11, hf⟩ := need_some hf
          obtain ⟨o12, hf⟩ := need_some hf
          obtain ⟨o13, hf⟩ := need_some hf
          obtain ⟨o14, hf⟩ := need_some hf
          replace hf := Option.some.inj hf
          subst hf
          exact toEnd_good allOk 15 _ _ [⟨[(10, .r (.one (.lit (.int .i64 x1))) [])], [(4, true)], [], [[], [], [1], [0, 2, 1], [3, 0, 2, 1], [4, 3, 0, 2, 1], [4, 3, 0, 2, 1], [5, 4, 3, 0, 2, 1, 6], [7, 5, 4, 3, 0, 2, 1, 6], [4, 3, 0, 2, 1], [8, 7, 5, 4, 3, 0, 2, 1, 6, 9], [10, 8, 7, 5, 4, 3, 0, 2, 1, 6, 9], [4, 3, 0, 2, 1, 11, 10, 8, 7, 5, 6, 9]], [], [], []⟩, ⟨[], [(4, false)], [], [[], [], [1], [0, 2, 1], [3, 0, 2, 1], [4, 3, 0, 2, 1], [4, 3, 0, 2, 1], [5, 4, 3, 0, 2, 1, 6], [7, 5, 4, 3, 0, 2, 1, 6], [4, 3, 0, 2, 1], [8, 7, 5, 4, 3, 0, 2, 1, 6, 9], [4, 3, 0, 2, 1, 10, 8, 7, 5, 6, 9]], [], [], []⟩, ⟨[(0, .c ([] : List T_api_Net).length (rowsOf T_api_Net.c T_api_Net.d ([] : List T_api_Net))), (4, .c ((([] : List T_api_Net) ++ (a0.take v5.toNat)).length) (rowsOf T_api_Net.c T_api_Net.d (([] : List T_api_Net) ++ (a0.take v5.toNat)))), (7, .c (((([] : List T_api_Net) ++ (a0.take v5.toNat)) ++ ([b3] : List T_api_Net)).length) (rowsOf T_api_Net.c T_api_Net.d ((([] : List T_api_Net) ++ (a0.take v5.toNat)) ++ ([b3] : List T_api_Net))))], [], [], [[], [], [], [1, 2], [0, 3, 1, 2], [], [5], [4, 0, 3, 1, 2, 6, 5], [7, 4, 0, 3, 1, 2, 6, 5]], [], [(3, ((a0.take v5.toNat).length, rowsOf T_api_Net.c T_api_Net.d (a0.take v5.toNat))), (6, (([b3] : List T_api_Net).length, rowsOf T_api_Net.c T_api_Net.d ([b3] : List T_api_Net)))], []⟩, ⟨[(4, .c ((((([] : List T_api_Net) ++ (a0.take v5.toNat)) ++ ([b3] : List T_api_Net)) ++ (a0.drop v5.toNat)).length) (rowsOf T_api_Net.c T_api_Net.d (((([] : List T_api_Net) ++ (a0.take v5.toNat)) ++ ([b3] : List T_api_Net)) ++ (a0.drop v5.toNat))))], [], [], [], [], [(3, ((a0.drop v5.toNat).length, rowsOf T_api_Net.c T_api_Net.d (a0.drop v5.toNat)))], []⟩] [false, false] [47] [] [] [(decide (v5 < ((a0.length : Nat) : Int))) = true, 0 ≤ v5 ∧ v5 < ((a0.length : Nat) : Int), SCall Try.prog 71 [.agg (T_api_Net.c (a0.getD v5.toNat T_api_Net.d)), .agg (T_api_Net.c b3)] (.one (.lit (.int .i64 x1))), (decide (x1 < (0 : Int))) = false, (decide (v5 < ((a0.length : Nat) : Int))) = false, false = false, ([] : List T_api_Net).length = 0, ∀ i j, i < 0 → j < 4 → rowsOf T_api_Net.c T_api_Net.d ([] : List T_api_Net) i j = (([] : List T_api_Net).flatMap T_api_Net.c).getD (i * 4 + j) .junk, (a0.take v5.toNat).length = v5.toNat ∧ ∀ i j, i < v5.toNat → j < 4 → rowsOf T_api_Net.c T_api_Net.d (a0.take v5.toNat) i j = rowsOf T_api_Net.c T_api_Net.d a0 i j, 0 ≤ v5 ∧ v5 ≤ ((a0.length : Nat) : Int), Ext 4 (([] : List T_api_Net).length) ((a0.take v5.toNat).length) (rowsOf T_api_Net.c T_api_Net.d ([] : List T_api_Net)) (rowsOf T_api_Net.c T_api_Net.d (a0.take v5.toNat)) ((([] : List T_api_Net) ++ (a0.take v5.toNat)).length) (rowsOf T_api_Net.c T_api_Net.d (([] : List T_api_Net) ++ (a0.take v5.toNat))), (([] : List T_api_Net) ++ (a0.take v5.toNat)).length * 32 ≤ 140737488355328, (([] : List T_api_Net) ++ (a0.take v5.toNat)).length ≤ maxLen, ([b3] : List T_api_Net).length = 1 ∧ ∀ i j, i < 1 → j < 4 → rowsOf T_api_Net.c T_api_Net.d ([b3] : List T_api_Net) i j = (([b3] : List T_api_Net).flatMap T_api_Net.c).getD (i * 4 + j) .junk, Ext 4 ((([] : List T_api_Net) ++ (a0.take v5.toNat)).length) (([b3] : List T_api_Net).length) (rowsOf T_api_Net.c T_api_Net.d (([] : List T_api_Net) ++ (a0.take v5.toNat))) (rowsOf T_api_Net.c T_api_Net.d ([b3] : List T_api_Net)) (((([] : List T_api_Net) ++ (a0.take v5.toNat)) ++ ([b3] : List T_api_Net)).length) (rowsOf T_api_Net.c T_api_Net.d ((([] : List T_api_Net) ++ (a0.take v5.toNat)) ++ ([b3] : List T_api_Net))), ((([] : List T_api_Net) ++ (a0.take v5.toNat)) ++ ([b3] : List T_api_Net)).length * 32 ≤ 140737488355328, ((([] : List T_api_Net) ++ (a0.take v5.toNat)) ++ ([b3] : List T_api_Net)).length ≤ maxLen, (a0.drop v5.toNat).length = a0.length - v5.toNat ∧ ∀ i j, i < a0.length - v5.toNat → j < 4 → rowsOf T_api_Net.c T_api_Net.d (a0.drop v5.toNat) i j = rowsOf T_api_Net.c T_api_Net.d a0 (v5.toNat + i) j, 0 ≤ v5 ∧ v5 ≤ ((a0.length : Nat) : Int), Ext 4 (((([] : List T_api_Net) ++ (a0.take v5.toNat)) ++ ([b3] : List T_api_Net)).length) ((a0.drop v5.toNat).length) (rowsOf T_api_Net.c T_api_Net.d ((([] : List T_api_Net) ++ (a0.take v5.toNat)) ++ ([b3] : List T_api_Net))) (rowsOf T_api_Net.c T_api_Net.d (a0.drop v5.toNat)) ((((([] : List T_api_Net) ++ (a0.take v5.toNat)) ++ ([b3] : List T_api_Net)) ++ (a0.drop v5.toNat)).length) (rowsOf T_api_Net.c T_api_Net.d (((([] : List T_api_Net) ++ (a0.take v5.toNat)) ++ ([b3] : List T_api_Net)) ++ (a0.drop v5.toNat))), (((([] : List T_api_Net) ++ (a0.take v5.toNat)) ++ ([b3] : List T_api_Net)) ++ (a0.drop v5.toNat)).length * 32 ≤ 140737488355328, (((([] : List T_api_Net) ++ (a0.take v5.toNat)) ++ ([b3] : List T_api_Net)) ++ (a0.drop v5.toNat)).length ≤ maxLen] (by kernel_rfl) rfl ⟨h1, o2, (g_doormanref07_Compare_ok (a0.getD v5.toNat T_api_Net.d) b3 x1 q3), h4, h5, rfl, rfl, (fun i j hi hj => rows_flat (sz := 4) (e := T_api_Net.c) (d := T_api_Net.d) (fun _ => rfl) ([] : List T_api_Net) i j hi hj), (piece_take _ _ o11), o11, (ext_app _ _), o12.1, o12.2, ⟨rfl, fun i j hi hj => rows_flat (sz := 4) (e := T_api_Net.c) (d := T_api_Net.d) (fun _ => rfl) ([b3] : List T_api_Net) i j hi hj⟩, (ext_app _ _), o13.1, o13.2, (piece_drop _ _), o11, (ext_app _ _), o14.1, o14.2, trivial⟩
    · rcases br_some hf with ⟨h15, hf⟩ | ⟨h15, hf⟩
      · obtain ⟨o16, hf⟩ := need_some hf
        rcases br_some hf with ⟨h17, hf⟩ | ⟨h17, hf⟩
        · replace hf := Option.some.inj hf
          subst hf
          exact toEnd_good allOk 12 _ _ [⟨[], [(4, false)], [], [[], [], [1], [0, 2, 1], [3, 0, 2, 1], [4, 3, 0, 2, 1], [4, 3, 0, 2, 1], [5, 4, 3, 0, 2, 1, 6], [7, 5, 4, 3, 0, 2, 1, 6], [4, 3, 0, 2, 1], [8, 7, 5, 4, 3, 0, 2, 1, 6, 9], [10, 8, 7, 5, 4, 3, 0, 2, 1, 6, 9], [4, 3, 0, 2, 1, 11, 10, 8, 7, 5, 6, 9]], [], [], []⟩, ⟨[(10, .r (.one (.lit (.bool (decide ((a0.getD v5.toNat T_api_Net.d) = b3))))) [])], [(4, true)], [], [[], [], [1], [0, 2, 1], [3, 0, 2, 1], [4, 3, 0, 2, 1], [4, 3, 0, 2, 1], [5, 4, 3, 0, 2, 1, 6], [7, 5, 4, 3, 0, 2, 1, 6], [4, 3, 0, 2, 1], [8, 7, 5, 4, 3, 0, 2, 1, 6, 9], [4, 3, 0, 2, 1, 10, 8, 7, 5, 6, 9]], [], [], []⟩, ⟨[], [], [], [], [], [], []⟩] [false, true] [] [] [] [(decide (v5 < ((a0.length : Nat) : Int))) = false, false = false, (decide (v5 < ((a0.length : Nat) : Int))) = true, 0 ≤ v5 ∧ v5 < ((a0.length : Nat) : Int), ∀ w, (do eqGuard .eql 27 (.tmp 30) (.tmp 31) (.agg #[.bool (((a0.getD v5.toNat T_api_Net.d).fAddr).fV6), .int .u64 (((a0.getD v5.toNat T_api_Net.d).fAddr).fHi), .int .u64 (((a0.getD v5.toNat T_api_Net.d).fAddr).fLo), .int .i64 ((a0.getD v5.toNat T_api_Net.d).fBits)]) (.agg #[.bool b3.fAddr.fV6, .int .u64 b3.fAddr.fHi, .int .u64 b3.fAddr.fLo, .int .i64 b3.fBits]); binOp .eql 27 (.agg #[.bool (((a0.getD v5.toNat T_api_Net.d).fAddr).fV6), .int .u64 (((a0.getD v5.toNat T_api_Net.d).fAddr).fHi), .int .u64 (((a0.getD v5.toNat T_api_Net.d).fAddr).fLo), .int .i64 ((a0.getD v5.toNat T_api_Net.d).fBits)]) (.agg #[.bool b3.fAddr.fV6, .int .u64 b3.fAddr.fHi, .int .u64 b3.fAddr.fLo, .int .i64 b3.fBits]) : Sem Value).run Try.prog w = .ok (.bool (decide ((a0.getD v5.toNat T_api_Net.d) = b3))) w, (decide ((a0.getD v5.toNat T_api_Net.d) = b3)) = true] (by kernel_rfl) rfl ⟨h1, rfl, h15, o16, (eql_T_api_Net (a0.getD v5.toNat T_api_Net.d) b3 _ _), h17, trivial⟩
        · obtain ⟨o18, hf⟩ := need_some hf
          obtain ⟨o19, hf⟩ := need_some hf
          obtain ⟨o20, hf⟩ := need_some hf
          obtain ⟨o21, hf⟩ := need_some hf
          replace hf := Option.some.inj hf
          subst hf
          exact toEnd_good allOk 15 _ _ [⟨[], [(4, false)], [], [[], [], [1], [0, 2, 1], [3, 0, 2, 1], [4, 3, 0, 2, 1], [4, 3, 0, 2, 1], [5, 4, 3, 0, 2, 1, 6], [7, 5, 4, 3, 0, 2, 1, 6], [4, 3, 0, 2, 1], [8, 7, 5, 4, 3, 0, 2, 1, 6, 9], [10, 8, 7, 5, 4, 3, 0, 2, 1, 6, 9], [4, 3, 0, 2, 1, 11, 10, 8, 7, 5, 6, 9]], [], [], []⟩, ⟨[(10, .r (.one (.lit (.bool (decide ((a0.getD v5.toNat T_api_Net.d) = b3))))) [])], [(4, true)], [], [[], [], [1], [0, 2, 1], [3, 0, 2, 1], [4, 3, 0, 2, 1], [4, 3, 0, 2, 1], [5, 4, 3, 0, 2, 1, 6], [7, 5, 4, 3, 0, 2, 1, 6], [4, 3, 0, 2, 1], [8, 7, 5, 4, 3, 0, 2, 1, 6, 9], [4, 3, 0, 2, 1, 10, 8, 7, 5, 6, 9]], [], [], []⟩, ⟨[(0, .c ([] : List T_api_Net).length (rowsOf T_api_Net.c T_api_Net.d ([] : List T_api_Net))), (4, .c ((([] : List T_api_Net) ++ (a0.take v5.toNat)).length) (rowsOf T_api_Net.c T_api_Net.d (([] : List T_api_Net) ++ (a0.take v5.toNat)))), (7, .c (((([] : List T_api_Net) ++ (a0.take v5.toNat)) ++ ([b3] : List T_api_Net)).length) (rowsOf T_api_Net.c T_api_Net.d ((([] : List T_api_Net) ++ (a0.take v5.toNat)) ++ ([b3] : List T_api_Net))))], [], [], [[], [], [], [1, 2], [0, 3, 1, 2], [], [5], [4, 0, 3, 1, 2, 6, 5], [7, 4, 0, 3, 1, 2, 6, 5]], [], [(3, ((a0.take v5.toNat).length, rowsOf T_api_Net.c T_api_Net.d (a0.take v5.toNat))), (6, (([b3] : List T_api_Net).length, rowsOf T_api_Net.c T_api_Net.d ([b3] : List T_api_Net)))], []⟩, ⟨[(4, .c ((((([] : List T_api_Net) ++ (a0.take v5.toNat)) ++ ([b3] : List T_api_Net)) ++ (a0.drop v5.toNat)).length) (rowsOf T_api_Net.c T_api_Net.d (((([] : List T_api_Net) ++ (a0.take v5.toNat)) ++ ([b3] : List T_api_Net)) ++ (a0.drop v5.toNat))))], [], [], [], [], [(3, ((a0.drop v5.toNat).length, rowsOf T_api_Net.c T_api_Net.d (a0.drop v5.toNat)))], []⟩] [false, false] [47] [] [] [(decide (v5 < ((a0.length : Nat) : Int))) = false, false = false, (decide (v5 < ((a0.length : Nat) : Int))) = true, 0 ≤ v5 ∧ v5 < ((a0.length : Nat) : Int), ∀ w, (do eqGuard .eql 27 (.tmp 30) (.tmp 31) (.agg #[.bool (((a0.getD v5.toNat T_api_Net.d).fAddr).fV6), .int .u64 (((a0.getD v5.toNat T_api_Net.d).fAddr).fHi), .int .u64 (((a0.getD v5.toNat T_api_Net.d).fAddr).fLo), .int .i64 ((a0.getD v5.toNat T_api_Net.d).fBits)]) (.agg #[.bool b3.fAddr.fV6, .int .u64 b3.fAddr.fHi, .int .u64 b3.fAddr.fLo, .int .i64 b3.fBits]); binOp .eql 27 (.agg #[.bool (((a0.getD v5.toNat T_api_Net.d).fAddr).fV6), .int .u64 (((a0.getD v5.toNat T_api_Net.d).fAddr).fHi), .int .u64 (((a0.getD v5.toNat T_api_Net.d).fAddr).fLo), .int .i64 ((a0.getD v5.toNat T_api_Net.d).fBits)]) (.agg #[.bool b3.fAddr.fV6, .int .u64 b3.fAddr.fHi, .int .u64 b3.fAddr.fLo, .int .i64 b3.fBits]) : Sem Value).run Try.prog w = .ok (.bool (decide ((a0.getD v5.toNat T_api_Net.d) = b3))) w, (decide ((a0.getD v5.toNat T_api_Net.d) = b3)) = false, ([] : List T_api_Net).length = 0, ∀ i j, i < 0 → j < 4 → rowsOf T_api_Net.c T_api_Net.d ([] : List T_api_Net) i j = (([] : List T_api_Net).flatMap T_api_Net.c).getD (i * 4 + j) .junk, (a0.take v5.toNat).length = v5.toNat ∧ ∀ i j, i < v5.toNat → j < 4 → rowsOf T_api_Net.c T_api_Net.d (a0.take v5.toNat) i j = rowsOf T_api_Net.c T_api_Net.d a0 i j, 0 ≤ v5 ∧ v5 ≤ ((a0.length : Nat) : Int), Ext 4 (([] : List T_api_Net).length) ((a0.take v5.toNat).length) (rowsOf T_api_Net.c T_api_Net.d ([] : List T_api_Net)) (rowsOf T_api_Net.c T_api_Net.d (a0.take v5.toNat)) ((([] : List T_api_Net) ++ (a0.take v5.toNat)).length) (rowsOf T_api_Net.c T_api_Net.d (([] : List T_api_Net) ++ (a0.take v5.toNat))), (([] : List T_api_Net) ++ (a0.take v5.toNat)).length * 32 ≤ 140737488355328, (([] : List T_api_Net) ++ (a0.take v5.toNat)).length ≤ maxLen, ([b3] : List T_api_Net).length = 1 ∧ ∀ i j, i < 1 → j < 4 → rowsOf T_api_Net.c T_api_Net.d ([b3] : List T_api_Net) i j = (([b3] : List T_api_Net).flatMap T_api_Net.c).getD (i * 4 + j) .junk, Ext 4 ((([] : List T_api_Net) ++ (a0.take v5.toNat)).length) (([b3] : List T_api_Net).length) (rowsOf T_api_Net.c T_api_Net.d (([] : List T_api_Net) ++ (a0.take v5.toNat))) (rowsOf T_api_Net.c T_api_Net.d ([b3] : List T_api_Net)) (((([] : List T_api_Net) ++ (a0.take v5.toNat)) ++ ([b3] : List T_api_Net)).length) (rowsOf T_api_Net.c T_api_Net.d ((([] : List T_api_Net) ++ (a0.take v5.toNat)) ++ ([b3] : List T_api_Net))), ((([] : List T_api_Net) ++ (a0.take v5.toNat)) ++ ([b3] : List T_api_Net)).length * 32 ≤ 140737488355328, ((([] : List T_api_Net) ++ (a0.take v5.toNat)) ++ ([b3] : List T_api_Net)).length ≤ maxLen, (a0.drop v5.toNat).length = a0.length - v5.toNat ∧ ∀ i j, i < a0.length - v5.toNat → j < 4 → rowsOf T_api_Net.c T_api_Net.d (a0.drop v5.toNat) i j = rowsOf T_api_Net.c T_api_Net.d a0 (v5.toNat + i) j, 0 ≤ v5 ∧ v5 ≤ ((a0.length : Nat) : Int), Ext 4 (((([] : List T_api_Net) ++ (a0.take v5.toNat)) ++ ([b3] : List T_api_Net)).length) ((a0.drop v5.toNat).length) (rowsOf T_api_Net.c T_api_Net.d ((([] : List T_api_Net) ++ (a0.take v5.toNat)) ++ ([b3] : List T_api_Net))) (rowsOf T_api_Net.c T_api_Net.d (a0.drop v5.toNat)) ((((([] : List T_api_Net) ++ (a0.take v5.toNat)) ++ ([b3] : List T_api_Net)) ++ (a0.drop v5.toNat)).length) (rowsOf T_api_Net.c T_api_Net.d (((([] : List T_api_Net) ++ (a0.take v5.toNat)) ++ ([b3] : List T_api_Net)) ++ (a0.drop v5.toNat))), (((([] : List T_api_Net) ++ (a0.take v5.toNat)) ++ ([b3] : List T_api_Net)) ++ (a0.drop v5.toNat)).length * 32 ≤ 140737488355328, (((([] : List T_api_Net) ++ (a0.take v5.toNat)) ++ ([b3] : List T_api_Net)) ++ (a0.drop v5.toNat)).length ≤ maxLen] (by kernel_rfl) rfl ⟨h1, rfl, h15, o16, (eql_T_api_Net (a0.getD v5.toNat T_api_Net.d) b3 _ _), h17, rfl, (fun i j hi hj => rows_flat (sz := 4) (e := T_api_Net.c) (d := T_api_Net.d) (fun _ => rfl) ([] : List T_api_Net) i j hi hj), (piece_take _ _ o18), o18, (ext_app _ _), o19.1, o19.2, ⟨rfl, fun i j hi hj => rows_flat (sz := 4) (e := T_api_Net.c) (d := T_api_Net.d) (fun _ => rfl) ([b3] : List T_api_Net) i j hi hj⟩, (ext_app _ _), o20.1, o20.2, (piece_drop _ _), o18, (ext_app _ _), o21.1, o21.2, trivial⟩
      · obtain ⟨o22, hf⟩ := need_some hf
        obtain ⟨o23, hf⟩ := need_some hf
        obtain ⟨o24, hf⟩ := need_some hf
        obtain ⟨o25, hf⟩ := need_some hf
        replace hf := Option.some.inj hf
        subst hf
        exact toEnd_good allOk 15 _ _ [⟨[], [(4, false)], [], [[], [], [1], [0, 2, 1], [3, 0, 2, 1], [4, 3, 0, 2, 1], [4, 3, 0, 2, 1], [5, 4, 3, 0, 2, 1, 6], [7, 5, 4, 3, 0, 2, 1, 6], [4, 3, 0, 2, 1], [8, 7, 5, 4, 3, 0, 2, 1, 6, 9], [10, 8, 7, 5, 4, 3, 0, 2, 1, 6, 9], [4, 3, 0, 2, 1, 11, 10, 8, 7, 5, 6, 9]], [], [], []⟩, ⟨[], [(4, false)], [], [[], [], [1], [0, 2, 1], [3, 0, 2, 1], [4, 3, 0, 2, 1], [4, 3, 0, 2, 1], [5, 4, 3, 0, 2, 1, 6], [7, 5, 4, 3, 0, 2, 1, 6], [4, 3, 0, 2, 1], [8, 7, 5, 4, 3, 0, 2, 1, 6, 9], [4, 3, 0, 2, 1, 10, 8, 7, 5, 6, 9]], [], [], []⟩, ⟨[(0, .c ([] : List T_api_Net).length (rowsOf T_api_Net.c T_api_Net.d ([] : List T_api_Net))), (4, .c ((([] : List T_api_Net) ++ (a0.take v5.toNat)).length) (rowsOf T_api_Net.c T_api_Net.d (([] : List T_api_Net) ++ (a0.take v5.toNat)))), (7, .c (((([] : List T_api_Net) ++ (a0.take v5.toNat)) ++ ([b3] : List T_api_Net)).length) (rowsOf T_api_Net.c T_api_Net.d ((([] : List T_api_Net) ++ (a0.take v5.toNat)) ++ ([b3] : List T_api_Net))))], [], [], [[], [], [], [1, 2], [0, 3, 1, 2], [], [5], [4, 0, 3, 1, 2, 6, 5], [7, 4, 0, 3, 1, 2, 6, 5]], [], [(3, ((a0.take v5.toNat).length, rowsOf T_api_Net.c T_api_Net.d (a0.take v5.toNat))), (6, (([b3] : List T_api_Net).length, rowsOf T_api_Net.c T_api_Net.d ([b3] : List T_api_Net)))], []⟩, ⟨[(4, .c ((((([] : List T_api_Net) ++ (a0.take v5.toNat)) ++ ([b3] : List T_api_Net)) ++ (a0.drop v5.toNat)).length) (rowsOf T_api_Net.c T_api_Net.d (((([] : List T_api_Net) ++ (a0.take v5.toNat)) ++ ([b3] : List T_api_Net)) ++ (a0.drop v5.toNat))))], [], [], [], [], [(3, ((a0.drop v5.toNat).length, rowsOf T_api_Net.c T_api_Net.d (a0.drop v5.toNat)))], []⟩] [false, false] [47] [] [] [(decide (v5 < ((a0.length : Nat) : Int))) = false, false = false, (decide (v5 < ((a0.length : Nat) : Int))) = false, false = false, ([] : List T_api_Net).length = 0, ∀ i j, i < 0 → j < 4 → rowsOf T_api_Net.c T_api_Net.d ([] : List T_api_Net) i j = (([] : List T_api_Net).flatMap T_api_Net.c).getD (i * 4 + j) .junk, (a0.take v5.toNat).length = v5.toNat ∧ ∀ i j, i < v5.toNat → j < 4 → rowsOf T_api_Net.c T_api_Net.d (a0.take v5.toNat) i j = rowsOf T_api_Net.c T_api_Net.d a0 i j, 0 ≤ v5 ∧ v5 ≤ ((a0.length : Nat) : Int), Ext 4 (([] : List T_api_Net).length) ((a0.take v5.toNat).length) (rowsOf T_api_Net.c T_api_Net.d ([] : List T_api_Net)) (rowsOf T_api_Net.c T_api_Net.d (a0.take v5.toNat)) ((([] : List T_api_Net) ++ (a0.take v5.toNat)).length) (rowsOf T_api_Net.c T_api_Net.d (([] : List T_api_Net) ++ (a0.take v5.toNat))), (([] : List T_api_Net) ++ (a0.take v5.toNat)).length * 32 ≤ 140737488355328, (([] : List T_api_Net) ++ (a0.take v5.toNat)).length ≤ maxLen, ([b3] : List T_api_Net).length = 1 ∧ ∀ i j, i < 1 → j < 4 → rowsOf T_api_Net.c T_api_Net.d ([b3] : List T_api_Net) i j = (([b3] : List T_api_Net).flatMap T_api_Net.c).getD (i * 4 + j) .junk, Ext 4 ((([] : List T_api_Net) ++ (a0.take v5.toNat)).length) (([b3] : List T_api_Net).length) (rowsOf T_api_Net.c T_api_Net.d (([] : List T_api_Net) ++ (a0.take v5.toNat))) (rowsOf T_api_Net.c T_api_Net.d ([b3] : List T_api_Net)) (((([] : List T_api_Net) ++ (a0.take v5.toNat)) ++ ([b3] : List T_api_Net)).length) (rowsOf T_api_Net.c T_api_Net.d ((([] : List T_api_Net) ++ (a0.take v5.toNat)) ++ ([b3] : List T_api_Net))), ((([] : List T_api_Net) ++ (a0.take v5.toNat)) ++ ([b3] : List T_api_Net)).length * 32 ≤ 140737488355328, ((([] : List T_api_Net) ++ (a0.take v5.toNat)) ++ ([b3] : List T_api_Net)).length ≤ maxLen, (a0.drop v5.toNat).length = a0.length - v5.toNat ∧ ∀ i j, i < a0.length - v5.toNat → j < 4 → rowsOf T_api_Net.c T_api_Net.d (a0.drop v5.toNat) i j = rowsOf T_api_Net.c T_api_Net.d a0 (v5.toNat + i) j, 0 ≤ v5 ∧ v5 ≤ ((a0.length : Nat) : Int), Ext 4 (((([] : List T_api_Net) ++ (a0.take v5.toNat)) ++ ([b3] : List T_api_Net)).length) ((a0.drop v5.toNat).length) (rowsOf T_api_Net.c T_api_Net.d ((([] : List T_api_Net) ++ (a0.take v5.toNat)) ++ ([b3] : List T_api_Net))) (rowsOf T_api_Net.c T_api_Net.d (a0.drop v5.toNat)) ((((([] : List T_api_Net) ++ (a0.take v5.toNat)) ++ ([b3] : List T_api_Net)) ++ (a0.drop v5.toNat)).length) (rowsOf T_api_Net.c T_api_Net.d (((([] : List T_api_Net) ++ (a0.take v5.toNat)) ++ ([b3] : List T_api_Net)) ++ (a0.drop v5.toNat))), (((([] : List T_api_Net) ++ (a0.take v5.toNat)) ++ ([b3] : List T_api_Net)) ++ (a0.drop v5.toNat)).length * 32 ≤ 140737488355328, (((([] : List T_api_Net) ++ (a0.take v5.toNat)) ++ ([b3] : List T_api_Net)) ++ (a0.drop v5.toNat)).length ≤ maxLen] (by kernel_rfl) rfl ⟨h1, rfl, h15, rfl, rfl, (fun i j hi hj => rows_flat (sz := 4) (e := T_api_Net.c) (d := T_api_Net.d) (fun _ => rfl) ([] : List T_api_Net) i j hi hj), (piece_take _ _ o22), o22, (ext_app _ _), o23.1, o23.2, ⟨rfl, fun i j hi hj => rows_flat (sz := 4) (e := T_api_Net.c) (d := T_api_Net.d) (fun _ => rfl) ([b3] : List T_api_Net) i j hi hj⟩, (ext_app _ _), o24.1, o24.2, (piece_drop _ _), o22, (ext_app _ _), o25.1, o25.2, trivial⟩

/-- doorman/doormanref27.put -/
def g_doormanref27_put (a0 : (List T_api_Net)) (a1 : T_api_Net) : Option (List T_api_Net) :=
  g_doormanref27_put_c0 a0  ((((a0.length : Nat) : Int) - (0 : Int)).toNat + 2) (0 : Int) a1

theorem g_doormanref27_put_ok (a0 : (List T_api_Net)) (a1 : T_api_Net) (r : (List T_api_Net)) (hf : g_doormanref27_put a0 a1 = some r) : SCall Try.prog 111 [.one (cL 4 T_api_Net.c T_api_Net.d a0), .agg (T_api_Net.c a1)] (.one (cL 4 T_api_Net.c T_api_Net.d r)) := by
  refine SCall.of Try.func111 rfl rfl rfl rfl fun S0 w0 => ?_
  unfold g_doormanref27_put at hf
  exact toK_good allOk Post.ends 6 _ _ _ _ [⟨[], [], [], [], [], [], []⟩, ⟨[], [], [], [], [], [], []⟩] [] ⟨[], [], [], [], [], [0, 3, 5], [3], []⟩ [] (by kernel_rfl) trivial (g_doormanref27_put_c0_ok S0 w0 a0   ((((a0.length : Nat) : Int) - (0 : Int)).toNat + 2) (0 : Int) a1 r hf)

def g_doormanref27_Taken_c1 (a0 : (List T_api_Peer)) (a1 : (List T_api_Entry)) (v6 : Int) (kg_doormanref27_Taken_c0 : (List T_api_Net) → Int → Option (List T_api_Net)) : Nat → (List T_api_Net) → Int → Option (List T_api_Net)
  | 0, _, _ => none
  | fu + 1, v5, v7 =>
    bif (decide (v7 < ((a1.length : Nat) : Int))) then
      need (0 ≤ v7 ∧ v7 < ((a1.length : Nat) : Int)) <|
      bif ((a1.getD v7.toNat T_api_Entry.d).fState == (2 : Int)) then
        (g_doormanref08_Of (((a1.getD v7.toNat T_api_Entry.d).fEnd).fAddr)).bind fun x3 =>
        (g_doormanref27_put v5 x3).bind fun x4 =>
        g_doormanref27_Taken_c1 a0 a1 v6 kg_doormanref27_Taken_c0 fu x4 (add64 v7 (1 : Int))
      else
        g_doormanref27_Taken_c1 a0 a1 v6 kg_doormanref27_Taken_c0 fu v5 (add64 v7 (1 : Int))
    else
      some v5

theorem g_doormanref27_Taken_c1_ok (S0 : Nat → Prop) (w0 : Start) (a0 : (List T_api_Peer)) (a1 : (List T_api_Entry)) (v6 : Int) (kg_doormanref27_Taken_c0 : (List T_api_Net) → Int → Option (List T_api_Net)) (hg_doormanref27_Taken_c0 : ∀ (v5_ : (List T_api_Net)) (v6_ : Int) (r : (List T_api_Net)), kg_doormanref27_Taken_c0 v5_ v6_ = some r → Good Try.prog 52 S0 w0 (bodyPost Try.prog Try.f58 (Post S0 w0 (.one (cL 4 T_api_Net.c T_api_Net.d r)))) (at_ [1, 1, 0, 1, 0] (bodyOf Try.f58)) ⟨[(0, .one (cL 10 T_api_Peer.c T_api_Peer.d a0)), (1, .one (cL 7 T_api_Entry.c T_api_Entry.d a1)), (5, .one (cL 4 T_api_Net.c T_api_Net.d v5_)), (6, .one (.lit (.int .i64 v6_)))], []⟩) : ∀ (fu : Nat) (v5 : (List T_api_Net)) (v7 : Int) (r : (List T_api_Net)), g_doormanref27_Taken_c1 a0 a1 v6 kg_doormanref27_Taken_c0 fu v5 v7 = some r → Good Try.prog 52 S0 w0 (bodyPost Try.prog Try.f58 (Post S0 w0 (.one (cL 4 T_api_Net.c T_api_Net.d r)))) (at_ [1, 1, 1, 0, 1, 0] (bodyOf Try.f58)) ⟨[(1, .one (cL 7 T_api_Entry.c T_api_Entry.d a1)), (5, .one (cL 4 T_api_Net.c T_api_Net.d v5)), (7, .one (.lit (.int .i64 v7)))], []⟩ := by
  intro fu
  induction fu with
  | zero =>
    intro v5 v7 r hf
    simp [g_doormanref27_Taken_c1] at hf
  | succ fu ih =>
    intro v5 v7 r hf
    unfold g_doormanref27_Taken_c1 at hf
    rcases br_some hf with ⟨h6, hf⟩ | ⟨h6, hf⟩
    · obtain ⟨o7, hf⟩ := need_some hf
      rcases br_some hf with ⟨h8, hf⟩ | ⟨h8, hf⟩
      · obtain ⟨x3, q9, hf⟩ := bind_some' hf
        obtain ⟨x4, q10, hf⟩ := bind_some' hf
        exact toK_good allOk Post.ends 15 _ _ _ _ [⟨[], [], [], [], [], [], []⟩, ⟨[], [], [], [], [], [], []⟩, ⟨[(7, .r (.agg (T_api_Net.c x3)) []), (8, .r (.one (cL 4 T_api_Net.c T_api_Net.d x4)) [])], [], [], [], [], [], []⟩, ⟨[], [], [], [], [], [], []⟩] [true, true] ⟨[], [], [], [], [], [1, 5, 7], [], []⟩ [(decide (v7 < ((a1.length : Nat) : Int))) = true, 0 ≤ v7 ∧ v7 < ((a1.length : Nat) : Int), ((a1.getD v7.toNat T_api_Entry.d).fState == (2 : Int)) = true, 0 ≤ v7 ∧ v7 < ((a1.length : Nat) : Int), SCall Try.prog 112 [.agg (T_api_Addr.c (((a1.getD v7.toNat T_api_Entry.d).fEnd).fAddr))] (.agg (T_api_Net.c x3)), SCall Try.prog 111 [.one (cL 4 T_api_Net.c T_api_Net.d v5), .agg (T_api_Net.c x3)] (.one (cL 4 T_api_Net.c T_api_Net.d x4))] (by kernel_rfl) ⟨h6, o7, h8, o7, (g_doormanref08_Of_ok (((a1.getD v7.toNat T_api_Entry.d).fEnd).fAddr) x3 q9), (g_doormanref27_put_ok v5 x3 x4 q10), trivial⟩ (ih x4 (add64 v7 (1 : Int)) r hf)
      · exact toK_good allOk Post.ends 15 _ _ _ _ [⟨[], [], [], [], [], [], []⟩, ⟨[], [], [], [], [], [], []⟩, ⟨[], [], [], [], [], [], []⟩] [true, false] ⟨[], [], [], [], [], [1, 5, 7], [], []⟩ [(decide (v7 < ((a1.length : Nat) : Int))) = true, 0 ≤ v7 ∧ v7 < ((a1.length : Nat) : Int), ((a1.getD v7.toNat T_api_Entry.d).fState == (2 : Int)) = false] (by kernel_rfl) ⟨h6, o7, h8, trivial⟩ (ih v5 (add64 v7 (1 : Int)) r hf)
    · replace hf := Option.some.inj hf
      subst hf
      exact toEnd_good allOk 8 _ _ [⟨[], [], [], [], [], [], []⟩, ⟨[], [], [], [], [], [], []⟩] [false] [] [] [] [(decide (v7 < ((a1.length : Nat) : Int))) = false] (by kernel_rfl) rfl ⟨h6, trivial⟩

def g_doormanref27_Taken_c0 (a0 : (List T_api_Peer)) (a1 : (List T_api_Entry))  : Nat → (List T_api_Net) → Int → Option (List T_api_Net)
  | 0, _, _ => none
  | fu + 1, v5, v6 =>
    bif (decide (v6 < ((a0.length : Nat) : Int))) then
      need (0 ≤ v6 ∧ v6 < ((a0.length : Nat) : Int)) <|
      bif (!(a0.getD v6.toNat T_api_Peer.d).fIn) then
        (g_doormanref08_Of (((a0.getD v6.toNat T_api_Peer.d).fEnd).fAddr)).bind fun x1 =>
        (g_doormanref27_put v5 x1).bind fun x2 =>
        g_doormanref27_Taken_c0 a0 a1  fu x2 (add64 v6 (1 : Int))
      else
        g_doormanref27_Taken_c0 a0 a1  fu v5 (add64 v6 (1 : Int))
    else
      g_doormanref27_Taken_c1 a0 a1 v6 (g_doormanref27_Taken_c0 a0 a1  fu) ((((a1.length : Nat) : Int) - (0 : Int)).toNat + 2) v5 (0 : Int)

theorem g_doormanref27_Taken_c0_ok (S0 : Nat → Prop) (w0 : Start) (a0 : (List T_api_Peer)) (a1 : (List T_api_Entry))  : ∀ (fu : Nat) (v5 : (List T_api_Net)) (v6 : Int) (r : (List T_api_Net)), g_doormanref27_Taken_c0 a0 a1  fu v5 v6 = some r → Good Try.prog 52 S0 w0 (bodyPost Try.prog Try.f58 (Post S0 w0 (.one (cL 4 T_api_Net.c T_api_Net.d r)))) (at_ [1, 1, 0, 1, 0] (bodyOf Try.f58)) ⟨[(0, .one (cL 10 T_api_Peer.c T_api_Peer.d a0)), (1, .one (cL 7 T_api_Entry.c T_api_Entry.d a1)), (5, .one (cL 4 T_api_Net.c T_api_Net.d v5)), (6, .one (.lit (.int .i64 v6)))], []⟩ := by
  intro fu
  induction fu with
  | zero =>
    intro v5 v6 r hf
    simp [g_doormanref27_Taken_c0] at hf
  | succ fu ih =>
    intro v5 v6 r hf
    unfold g_doormanref27_Taken_c0 at hf
    rcases br_some hf with ⟨h1, hf⟩ | ⟨h1, hf⟩
    · obtain ⟨o2, hf⟩ := need_some hf
      rcases br_some hf with ⟨h3, hf⟩ | ⟨h3, hf⟩
      · obtain ⟨x1, q4, hf⟩ := bind_some' hf
        obtain ⟨x2, q5, hf⟩ := bind_some' hf
        exact toK_good allOk Post.ends 15 _ _ _ _ [⟨[], [], [], [], [], [], []⟩, ⟨[], [], [], [], [], [], []⟩, ⟨[(7, .r (.agg (T_api_Net.c x1)) []), (8, .r (.one (cL 4 T_api_Net.c T_api_Net.d x2)) [])], [], [], [], [], [], []⟩, ⟨[], [], [], [], [], [], []⟩] [true, true] ⟨[], [], [], [], [], [0, 1, 5, 6], [], []⟩ [(decide (v6 < ((a0.length : Nat) : Int))) = true, 0 ≤ v6 ∧ v6 < ((a0.length : Nat) : Int), (!(a0.getD v6.toNat T_api_Peer.d).fIn) = true, 0 ≤ v6 ∧ v6 < ((a0.length : Nat) : Int), SCall Try.prog 112 [.agg (T_api_Addr.c (((a0.getD v6.toNat T_api_Peer.d).fEnd).fAddr))] (.agg (T_api_Net.c x1)), SCall Try.prog 111 [.one (cL 4 T_api_Net.c T_api_Net.d v5), .agg (T_api_Net.c x1)] (.one (cL 4 T_api_Net.c T_api_Net.d x2))] (by kernel_rfl) ⟨h1, o2, h3, o2, (g_doormanref08_Of_ok (((a0.getD v6.toNat T_api_Peer.d).fEnd).fAddr) x1 q4), (g_doormanref27_put_ok v5 x1 x2 q5), trivial⟩ (ih x2 (add64 v6 (1 : Int)) r hf)
      · exact toK_good allOk Post.ends 15 _ _ _ _ [⟨[], [], [], [], [], [], []⟩, ⟨[], [], [], [], [], [], []⟩, ⟨[], [], [], [], [], [], []⟩] [true, false] ⟨[], [], [], [], [], [0, 1, 5, 6], [], []⟩ [(decide (v6 < ((a0.length : Nat) : Int))) = true, 0 ≤ v6 ∧ v6 < ((a0.length : Nat) : Int), (!(a0.getD v6.toNat T_api_Peer.d).fIn) = false] (by kernel_rfl) ⟨h1, o2, h3, trivial⟩ (ih v5 (add64 v6 (1 : Int)) r hf)
    · exact toK_good allOk Post.ends 10 _ _ _ _ [⟨[], [], [], [], [], [], []⟩, ⟨[], [], [], [], [], [], []⟩] [false] ⟨[], [], [], [], [], [1, 5, 7], [], []⟩ [(decide (v6 < ((a0.length : Nat) : Int))) = false] (by kernel_rfl) ⟨h1, trivial⟩ (g_doormanref27_Taken_c1_ok S0 w0 a0 a1 v6 (g_doormanref27_Taken_c0 a0 a1  fu) ih ((((a1.length : Nat) : Int) - (0 : Int)).toNat + 2) v5 (0 : Int) r hf)

/-- doorman/doormanref27.Taken -/
def g_doormanref27_Taken (a0 : (List T_api_Peer)) (a1 : (List T_api_Entry)) : Option (List T_api_Net) :=
  g_doormanref27_Taken_c0 a0 a1  ((((a0.length : Nat) : Int) - (0 : Int)).toNat + 2) ([] : List T_api_Net) (0 : Int)

theorem g_doormanref27_Taken_ok (a0 : (List T_api_Peer)) (a1 : (List T_api_Entry)) (r : (List T_api_Net)) (hf : g_doormanref27_Taken a0 a1 = some r) : SCall Try.prog 58 [.one (cL 10 T_api_Peer.c T_api_Peer.d a0), .one (cL 7 T_api_Entry.c T_api_Entry.d a1)] (.one (cL 4 T_api_Net.c T_api_Net.d r)) := by
  refine SCall.of Try.func58 rfl rfl rfl rfl fun S0 w0 => ?_
  unfold g_doormanref27_Taken at hf
  exact toK_good allOk Post.ends 8 _ _ _ _ [⟨[], [], [], [], [], [], []⟩, ⟨[], [], [], [], [], [(0, (([] : List T_api_Net).length, rowsOf T_api_Net.c T_api_Net.d ([] : List T_api_Net)))], []⟩, ⟨[], [], [], [], [], [], []⟩] [] ⟨[], [], [], [], [], [0, 1, 5, 6], [], []⟩ [([] : List T_api_Net).length = 0 ∧ ∀ i j, i < 0 → j < 4 → rowsOf T_api_Net.c T_api_Net.d ([] : List T_api_Net) i j = (([] : List T_api_Net).flatMap T_api_Net.c).getD (i * 4 + j) .junk] (by kernel_rfl) ⟨⟨rfl, fun i j hi hj => rows_flat (sz := 4) (e := T_api_Net.c) (d := T_api_Net.d) (fun _ => rfl) ([] : List T_api_Net) i j hi hj⟩, trivial⟩ (g_doormanref27_Taken_c0_ok S0 w0 a0 a1   ((((a0.length : Nat) : Int) - (0 : Int)).toNat + 2) ([] : List T_api_Net) (0 : Int) r hf)

def g_doormansame_Nets_c0 (a0 : (List T_api_Net)) (a1 : (List T_api_Net))  : Nat → Int → Option Bool
  | 0, _ => none
  | fu + 1, v5 =>
    bif (decide (v5 < ((a0.length : Nat) : Int))) then
      bif (decide (v5 < ((a1.length : Nat) : Int))) then
        need (0 ≤ v5 ∧ v5 < ((a0.length : Nat) : Int)) <|
        need (0 ≤ v5 ∧ v5 < ((a1.length : Nat) : Int)) <|
        bif (!(decide ((a0.getD v5.toNat T_api_Net.d) = (a1.getD v5.toNat T_api_Net.d)))) then
          some false
        else
          g_doormansame_Nets_c0 a0 a1  fu (add64 v5 (1 : Int))
      else
        some true
    else
      some true

theorem g_doormansame_Nets_c0_ok (S0 : Nat → Prop) (w0 : Start) (a0 : (List T_api_Net)) (a1 : (List T_api_Net))  : ∀ (fu : Nat) (v5 : Int) (r : Bool), g_doormansame_Nets_c0 a0 a1  fu v5 = some r → Good Try.prog 32 S0 w0 (bodyPost Try.prog Try.f56 (Post S0 w0 (.one (.lit (.bool r))))) (at_ [1, 1, 0, 1, 0] (bodyOf Try.f56)) ⟨[(0, .one (cL 4 T_api_Net.c T_api_Net.d a0)), (1, .one (cL 4 T_api_Net.c T_api_Net.d a1)), (5, .one (.lit (.int .i64 v5)))], []⟩ := by
  intro fu
  induction fu with
  | zero =>
    intro v5 r hf
    simp [g_doormansame_Nets_c0] at hf
  | succ fu ih =>
    intro v5 r hf
    unfold g_doormansame_Nets_c0 at hf
    rcases br_some hf with ⟨h2, hf⟩ | ⟨h2, hf⟩
    · rcases br_some hf with ⟨h3, hf⟩ | ⟨h3, hf⟩
      · obtain ⟨o4, hf⟩ := need_some hf
        obtain ⟨o5, hf⟩ := need_some hf
        rcases br_some hf with ⟨h6, hf⟩ | ⟨h6, hf⟩
        · replace hf := Option.some.inj hf
          subst hf
          exact toEnd_good allOk 13 _ _ [⟨[], [(4, true)], [], [], [], [], []⟩, ⟨[(8, .r (.one (.lit (.bool (!(decide ((a0.getD v5.toNat T_api_Net.d) = (a1.getD v5.toNat T_api_Net.d))))))) [])], [], [], [[], [], [0, 1], [2, 0, 1], [], [], [4, 5], [6, 4, 5], [3, 2, 0, 1, 7, 6, 4, 5]], [], [], []⟩, ⟨[], [], [], [], [], [], []⟩] [true, true] [] [] [] [(decide (v5 < ((a0.length : Nat) : Int))) = true, (decide (v5 < ((a1.length : Nat) : Int))) = true, 0 ≤ v5 ∧ v5 < ((a0.length : Nat) : Int), 0 ≤ v5 ∧ v5 < ((a1.length : Nat) : Int), ∀ w, (do eqGuard .neq 27 (.tmp 26) (.tmp 30) (.agg #[.bool (((a0.getD v5.toNat T_api_Net.d).fAddr).fV6), .int .u64 (((a0.getD v5.toNat T_api_Net.d).fAddr).fHi), .int .u64 (((a0.getD v5.toNat T_api_Net.d).fAddr).fLo), .int .i64 ((a0.getD v5.toNat T_api_Net.d).fBits)]) (.agg #[.bool (((a1.getD v5.toNat T_api_Net.d).fAddr).fV6), .int .u64 (((a1.getD v5.toNat T_api_Net.d).fAddr).fHi), .int .u64 (((a1.getD v5.toNat T_api_Net.d).fAddr).fLo), .int .i64 ((a1.getD v5.toNat T_api_Net.d).fBits)]); binOp .neq 27 (.agg #[.bool (((a0.getD v5.toNat T_api_Net.d).fAddr).fV6), .int .u64 (((a0.getD v5.toNat T_api_Net.d).fAddr).fHi), .int .u64 (((a0.getD v5.toNat T_api_Net.d).fAddr).fLo), .int .i64 ((a0.getD v5.toNat T_api_Net.d).fBits)]) (.agg #[.bool (((a1.getD v5.toNat T_api_Net.d).fAddr).fV6), .int .u64 (((a1.getD v5.toNat T_api_Net.d).fAddr).fHi), .int .u64 (((a1.getD v5.toNat T_api_Net.d).fAddr).fLo), .int .i64 ((a1.getD v5.toNat T_api_Net.d).fBits)]) : Sem Value).run Try.prog w = .ok (.bool (!(decide ((a0.getD v5.toNat T_api_Net.d) = (a1.getD v5.toNat T_api_Net.d))))) w, (!(decide ((a0.getD v5.toNat T_api_Net.d) = (a1.getD v5.toNat T_api_Net.d)))) = true] (by kernel_rfl) rfl ⟨h2, h3, o4, o5, (neq_T_api_Net (a0.getD v5.toNat T_api_Net.d) (a1.getD v5.toNat T_api_Net.d) _ _), h6, trivial⟩
        · exact toK_good allOk Post.ends 15 _ _ _ _ [⟨[], [(4, true)], [], [], [], [], []⟩, ⟨[(8, .r (.one (.lit (.bool (!(decide ((a0.getD v5.toNat T_api_Net.d) = (a1.getD v5.toNat T_api_Net.d))))))) [])], [], [], [[], [], [0, 1], [2, 0, 1], [], [], [4, 5], [6, 4, 5], [3, 2, 0, 1, 7, 6, 4, 5]], [], [], []⟩, ⟨[], [], [], [], [], [], []⟩] [true, false] ⟨[], [], [], [], [], [0, 1, 5], [], []⟩ [(decide (v5 < ((a0.length : Nat) : Int))) = true, (decide (v5 < ((a1.length : Nat) : Int))) = true, 0 ≤ v5 ∧ v5 < ((a0.length : Nat) : Int), 0 ≤ v5 ∧ v5 < ((a1.length : Nat) : Int), ∀ w, (do eqGuard .neq 27 (.tmp 26) (.tmp 30) (.agg #[.bool (((a0.getD v5.toNat T_api_Net.d).fAddr).fV6), .int .u64 (((a0.getD v5.toNat T_api_Net.d).fAddr).fHi), .int .u64 (((a0.getD v5.toNat T_api_Net.d).fAddr).fLo), .int .i64 ((a0.getD v5.toNat T_api_Net.d).fBits)]) (.agg #[.bool (((a1.getD v5.toNat T_api_Net.d).fAddr).fV6), .int .u64 (((a1.getD v5.toNat T_api_Net.d).fAddr).fHi), .int .u64 (((a1.getD v5.toNat T_api_Net.d).fAddr).fLo), .int .i64 ((a1.getD v5.toNat T_api_Net.d).fBits)]); binOp .neq 27 (.agg #[.bool (((a0.getD v5.toNat T_api_Net.d).fAddr).fV6), .int .u64 (((a0.getD v5.toNat T_api_Net.d).fAddr).fHi), .int .u64 (((a0.getD v5.toNat T_api_Net.d).fAddr).fLo), .int .i64 ((a0.getD v5.toNat T_api_Net.d).fBits)]) (.agg #[.bool (((a1.getD v5.toNat T_api_Net.d).fAddr).fV6), .int .u64 (((a1.getD v5.toNat T_api_Net.d).fAddr).fHi), .int .u64 (((a1.getD v5.toNat T_api_Net.d).fAddr).fLo), .int .i64 ((a1.getD v5.toNat T_api_Net.d).fBits)]) : Sem Value).run Try.prog w = .ok (.bool (!(decide ((a0.getD v5.toNat T_api_Net.d) = (a1.getD v5.toNat T_api_Net.d))))) w, (!(decide ((a0.getD v5.toNat T_api_Net.d) = (a1.getD v5.toNat T_api_Net.d)))) = false] (by kernel_rfl) ⟨h2, h3, o4, o5, (neq_T_api_Net (a0.getD v5.toNat T_api_Net.d) (a1.getD v5.toNat T_api_Net.d) _ _), h6, trivial⟩ (ih (add64 v5 (1 : Int)) r hf)
      · replace hf := Option.some.inj hf
        subst hf
        exact toEnd_good allOk 8 _ _ [⟨[], [(4, true)], [], [], [], [], []⟩, ⟨[], [], [], [], [], [], []⟩] [false] [] [] [] [(decide (v5 < ((a0.length : Nat) : Int))) = true, (decide (v5 < ((a1.length : Nat) : Int))) = false] (by kernel_rfl) rfl ⟨h2, h3, trivial⟩
    · replace hf := Option.some.inj hf
      subst hf
      exact toEnd_good allOk 8 _ _ [⟨[], [(4, false)], [], [], [], [], []⟩, ⟨[], [], [], [], [], [], []⟩] [false] [] [] [] [(decide (v5 < ((a0.length : Nat) : Int))) = false, false = false] (by kernel_rfl) rfl ⟨h2, rfl, trivial⟩

/-- doorman/doormansame.Nets -/
def g_doormansame_Nets (a0 : (List T_api_Net)) (a1 : (List T_api_Net)) : Option Bool :=
  bif (((a0.length : Nat) : Int) != ((a1.length : Nat) : Int)) then
    some false
  else
    g_doormansame_Nets_c0 a0 a1  ((((a1.length : Nat) : Int) - (0 : Int)).toNat + 2) (0 : Int)

theorem g_doormansame_Nets_ok (a0 : (List T_api_Net)) (a1 : (List T_api_Net)) (r : Bool) (hf : g_doormansame_Nets a0 a1 = some r) : SCall Try.prog 56 [.one (cL 4 T_api_Net.c T_api_Net.d a0), .one (cL 4 T_api_Net.c T_api_Net.d a1)] (.one (.lit (.bool r))) := by
  refine SCall.of Try.func56 rfl rfl rfl rfl fun S0 w0 => ?_
  unfold g_doormansame_Nets at hf
  rcases br_some hf with ⟨h1, hf⟩ | ⟨h1, hf⟩
  · replace hf := Option.some.inj hf
    subst hf
    exact toEnd_good allOk 8 _ _ [⟨[], [], [], [], [], [], []⟩, ⟨[], [], [], [], [], [], []⟩, ⟨[], [], [], [], [], [], []⟩] [true] [] [] [] [(((a0.length : Nat) : Int) != ((a1.length : Nat) : Int)) = true] (by kernel_rfl) rfl ⟨h1, trivial⟩
  · exact toK_good allOk Post.ends 11 _ _ _ _ [⟨[], [], [], [], [], [], []⟩, ⟨[], [], [], [], [], [], []⟩, ⟨[], [], [], [], [], [], []⟩] [false] ⟨[], [], [], [], [], [0, 1, 5], [], []⟩ [(((a0.length : Nat) : Int) != ((a1.length : Nat) : Int)) = false] (by kernel_rfl) ⟨h1, trivial⟩ (g_doormansame_Nets_c0_ok S0 w0 a0 a1   ((((a1.length : Nat) : Int) - (0 : Int)).toNat + 2) (0 : Int) r hf)

/-- doorman/doormanref06.Bits -/
def g_doormanref06_Bits (a0 : T_api_Addr) : Option Int :=
  bif a0.fV6 then
    some (128 : Int)
  else
    some (32 : Int)

theorem g_doormanref06_Bits_ok (a0 : T_api_Addr) (r : Int) (hf : g_doormanref06_Bits a0 = some r) : SCall Try.prog 80 [.agg (T_api_Addr.c a0)] (.one (.lit (.int .i64 r))) := by
  refine SCall.of Try.func80 rfl rfl rfl rfl fun S0 w0 => ?_
  unfold g_doormanref06_Bits at hf
  rcases br_some hf with ⟨h1, hf⟩ | ⟨h1, hf⟩
  · replace hf := Option.some.inj hf
    subst hf
    exact toEnd_good allOk 8 _ _ [⟨[], [], [], [], [], [], []⟩, ⟨[], [], [], [], [], [], []⟩, ⟨[], [], [], [], [], [], []⟩] [true] [] [] [] [a0.fV6 = true] (by kernel_rfl) rfl ⟨h1, trivial⟩
  · replace hf := Option.some.inj hf
    subst hf
    exact toEnd_good allOk 9 _ _ [⟨[], [], [], [], [], [], []⟩, ⟨[], [], [], [], [], [], []⟩, ⟨[], [], [], [], [], [], []⟩] [false] [] [] [] [a0.fV6 = false] (by kernel_rfl) rfl ⟨h1, trivial⟩

def g_doormanref06_Bit_c0 (a1 : Int)  (v5 : Int) (b2 : T_api_Addr) : Option Int :=
  bif (!b2.fV6) then
    need (0 ≤ (IntKind.wrap .u64 (sub64 (31 : Int) a1))) <|
    some (IntKind.wrap .i64 (IntKind.wrap .u64 (((BitVec.ofInt (IntKind.bits .u64) (Int.fdiv v5 (2 ^ (min (IntKind.wrap .u64 (sub64 (31 : Int) a1)).toNat (IntKind.bits .u64))))) &&& (BitVec.ofInt (IntKind.bits .u64) (1 : Int))).toNat : Int)))
  else
    need (0 ≤ (IntKind.wrap .u64 (sub64 (63 : Int) (Int.tmod a1 (64 : Int))))) <|
    some (IntKind.wrap .i64 (IntKind.wrap .u64 (((BitVec.ofInt (IntKind.bits .u64) (Int.fdiv v5 (2 ^ (min (IntKind.wrap .u64 (sub64 (63 : Int) (Int.tmod a1 (64 : Int)))).toNat (IntKind.bits .u64))))) &&& (BitVec.ofInt (IntKind.bits .u64) (1 : Int))).toNat : Int)))

theorem g_doormanref06_Bit_c0_ok (S0 : Nat → Prop) (w0 : Start) (a1 : Int)  (v5 : Int) (b2 : T_api_Addr) (r : Int) (hf : g_doormanref06_Bit_c0 a1  v5 b2 = some r) : Good Try.prog 39 S0 w0 (bodyPost Try.prog Try.f115 (Post S0 w0 (.one (.lit (.int .i64 r))))) (at_ [1, 1, 1, 1] (bodyOf Try.f115)) ⟨[(1, .one (.lit (.int .i64 a1))), (2, .one (.ptr 2 0)), (5, .one (.lit (.int .u64 v5)))], [(2, .box [.lit (.bool b2.fV6), .lit (.int .u64 b2.fHi), .lit (.int .u64 b2.fLo)])]⟩ := by
  unfold g_doormanref06_Bit_c0 at hf
  rcases br_some hf with ⟨h6, hf⟩ | ⟨h6, hf⟩
  · obtain ⟨o7, hf⟩ := need_some hf
    replace hf := Option.some.inj hf
    subst hf
    exact toEnd_good allOk 9 _ _ [⟨[], [], [], [], [], [], []⟩, ⟨[], [], [], [], [], [], []⟩, ⟨[], [], [], [], [], [], []⟩, ⟨[], [], [], [], [], [], []⟩] [true] [] [] [] [(64 : Int) ≠ 0, (!b2.fV6) = true, 0 ≤ (IntKind.wrap .u64 (sub64 (31 : Int) a1))] (by kernel_rfl) rfl ⟨(by decide), h6, o7, trivial⟩
  · obtain ⟨o8, hf⟩ := need_some hf
    replace hf := Option.some.inj hf
    subst hf
    exact toEnd_good allOk 9 _ _ [⟨[], [], [], [], [], [], []⟩, ⟨[], [], [], [], [], [], []⟩, ⟨[], [], [], [], [], [], []⟩] [false] [] [] [] [(64 : Int) ≠ 0, (!b2.fV6) = false, 0 ≤ (IntKind.wrap .u64 (sub64 (63 : Int) (Int.tmod a1 (64 : Int))))] (by kernel_rfl) rfl ⟨(by decide), h6, o8, trivial⟩

/-- doorman/doormanref06.Bit -/
def g_doormanref06_Bit (a0 : T_api_Addr) (a1 : Int) : Option Int :=
  bif (decide (a1 < (0 : Int))) then
    some (0 : Int)
  else
    (g_doormanref06_Bits a0).bind fun x1 =>
    bif (decide (a1 ≥ x1)) then
      some (0 : Int)
    else
      bif a0.fV6 then
        bif (decide (a1 < (64 : Int))) then
          g_doormanref06_Bit_c0 a1  a0.fHi a0
        else
          g_doormanref06_Bit_c0 a1  a0.fLo a0
      else
        g_doormanref06_Bit_c0 a1  a0.fLo a0

theorem g_doormanref06_Bit_ok (a0 : T_api_Addr) (a1 : Int) (r : Int) (hf : g_doormanref06_Bit a0 a1 = some r) : SCall Try.prog 115 [.agg (T_api_Addr.c a0), .one (.lit (.int .i64 a1))] (.one (.lit (.int .i64 r))) := by
  refine SCall.of Try.func115 rfl rfl rfl rfl fun S0 w0 => ?_
  unfold g_doormanref06_Bit at hf
  rcases br_some hf with ⟨h1, hf⟩ | ⟨h1, hf⟩
  · replace hf := Option.some.inj hf
    subst hf
    exact toEnd_good allOk 8 _ _ [⟨[], [], [], [], [], [], []⟩, ⟨[], [(2, true)], [], [], [], [], []⟩, ⟨[], [], [], [], [], [], []⟩] [true] [] [] [] [(decide (a1 < (0 : Int))) = true, true = true] (by kernel_rfl) rfl ⟨h1, rfl, trivial⟩
  · obtain ⟨x1, q2, hf⟩ := bind_some' hf
    rcases br_some hf with ⟨h3, hf⟩ | ⟨h3, hf⟩
    · replace hf := Option.some.inj hf
      subst hf
      exact toEnd_good allOk 8 _ _ [⟨[], [], [], [], [], [], []⟩, ⟨[(5, .r (.one (.lit (.int .i64 x1))) [])], [(2, false)], [], [], [], [], []⟩, ⟨[], [], [], [], [], [], []⟩] [true] [] [] [] [(decide (a1 < (0 : Int))) = false, SCall Try.prog 80 [.agg (T_api_Addr.c a0)] (.one (.lit (.int .i64 x1))), (decide (a1 ≥ x1)) = true] (by kernel_rfl) rfl ⟨h1, (g_doormanref06_Bits_ok a0 x1 q2), h3, trivial⟩
    · rcases br_some hf with ⟨h4, hf⟩ | ⟨h4, hf⟩
      · rcases br_some hf with ⟨h5, hf⟩ | ⟨h5, hf⟩
        · exact toK_good allOk Post.ends 14 _ _ _ _ [⟨[], [], [], [], [], [], []⟩, ⟨[(5, .r (.one (.lit (.int .i64 x1))) [])], [(2, false)], [], [], [], [], []⟩, ⟨[], [], [], [], [], [], []⟩, ⟨[], [(2, true)], [], [], [], [], []⟩, ⟨[], [], [], [], [], [], []⟩] [false, true] ⟨[], [], [], [], [], [1, 2, 5], [2], []⟩ [(decide (a1 < (0 : Int))) = false, SCall Try.prog 80 [.agg (T_api_Addr.c a0)] (.one (.lit (.int .i64 x1))), (decide (a1 ≥ x1)) = false, a0.fV6 = true, (decide (a1 < (64 : Int))) = true] (by kernel_rfl) ⟨h1, (g_doormanref06_Bits_ok a0 x1 q2), h3, h4, h5, trivial⟩ (g_doormanref06_Bit_c0_ok S0 w0 a1   a0.fHi a0 r hf)
        · exact toK_good allOk Post.ends 14 _ _ _ _ [⟨[], [], [], [], [], [], []⟩, ⟨[(5, .r (.one (.lit (.int .i64 x1))) [])], [(2, false)], [], [], [], [], []⟩, ⟨[], [], [], [], [], [], []⟩, ⟨[], [(2, true)], [], [], [], [], []⟩] [false, false] ⟨[], [], [], [], [], [1, 2, 5], [2], []⟩ [(decide (a1 < (0 : Int))) = false, SCall Try.prog 80 [.agg (T_api_Addr.c a0)] (.one (.lit (.int .i64 x1))), (decide (a1 ≥ x1)) = false, a0.fV6 = true, (decide (a1 < (64 : Int))) = false] (by kernel_rfl) ⟨h1, (g_doormanref06_Bits_ok a0 x1 q2), h3, h4, h5, trivial⟩ (g_doormanref06_Bit_c0_ok S0 w0 a1   a0.fLo a0 r hf)
      · exact toK_good allOk Post.ends 14 _ _ _ _ [⟨[], [], [], [], [], [], []⟩, ⟨[(5, .r (.one (.lit (.int .i64 x1))) [])], [(2, false)], [], [], [], [], []⟩, ⟨[], [], [], [], [], [], []⟩, ⟨[], [(2, false)], [], [], [], [], []⟩] [false, false] ⟨[], [], [], [], [], [1, 2, 5], [2], []⟩ [(decide (a1 < (0 : Int))) = false, SCall Try.prog 80 [.agg (T_api_Addr.c a0)] (.one (.lit (.int .i64 x1))), (decide (a1 ≥ x1)) = false, a0.fV6 = false, false = false] (by kernel_rfl) ⟨h1, (g_doormanref06_Bits_ok a0 x1 q2), h3, h4, rfl, trivial⟩ (g_doormanref06_Bit_c0_ok S0 w0 a1   a0.fLo a0 r hf)

def g_doormanref08_Same_c0   : Nat → Int → T_api_Addr → T_api_Addr → Option Bool
  | 0, _, _, _ => none
  | fu + 1, v5, b2, b3 =>
    bif (decide (v5 < (32 : Int))) then
      bif b2.fV6 then
        (g_doormanref06_Bit b2 v5).bind fun x3 =>
        (g_doormanref06_Bit b3 v5).bind fun x4 =>
        bif (x3 != x4) then
          some false
        else
          g_doormanref08_Same_c0   fu (add64 v5 (1 : Int)) b2 b3
      else
        bif (decide (v5 < (16 : Int))) then
          (g_doormanref06_Bit b2 v5).bind fun x5 =>
          (g_doormanref06_Bit b3 v5).bind fun x6 =>
          bif (x5 != x6) then
            some false
          else
            g_doormanref08_Same_c0   fu (add64 v5 (1 : Int)) b2 b3
        else
          g_doormanref08_Same_c0   fu (add64 v5 (1 : Int)) b2 b3
    else
      some true

theorem g_doormanref08_Same_c0_ok (S0 : Nat → Prop) (w0 : Start)   : ∀ (fu : Nat) (v5 : Int) (b2 : T_api_Addr) (b3 : T_api_Addr) (r : Bool), g_doormanref08_Same_c0   fu v5 b2 b3 = some r → Good Try.prog 40 S0 w0 (bodyPost Try.prog Try.f61 (Post S0 w0 (.one (.lit (.bool r))))) (at_ [1, 1, 0, 1, 0] (bodyOf Try.f61)) ⟨[(2, .one (.ptr 2 0)), (3, .one (.ptr 3 0)), (5, .one (.lit (.int .i64 v5)))], [(2, .box [.lit (.bool b2.fV6), .lit (.int .u64 b2.fHi), .lit (.int .u64 b2.fLo)]), (3, .box [.lit (.bool b3.fV6), .lit (.int .u64 b3.fHi), .lit (.int .u64 b3.fLo)])]⟩ := by
  intro fu
  induction fu with
  | zero =>
    intro v5 b2 b3 r hf
    simp [g_doormanref08_Same_c0] at hf
  | succ fu ih =>
    intro v5 b2 b3 r hf
    unfold g_doormanref08_Same_c0 at hf
    rcases br_some hf with ⟨h6, hf⟩ | ⟨h6, hf⟩
    · rcases br_some hf with ⟨h7, hf⟩ | ⟨h7, hf⟩
      · obtain ⟨x3, q8, hf⟩ := bind_some' hf
        obtain ⟨x4, q9, hf⟩ := bind_some' hf
        rcases br_some hf with ⟨h10, hf⟩ | ⟨h10, hf⟩
        · replace hf := Option.some.inj hf
          subst hf
          exact toEnd_good allOk 13 _ _ [⟨[], [], [], [], [], [], []⟩, ⟨[(9, .r (.one (.lit (.int .i64 x3))) []), (12, .r (.one (.lit (.int .i64 x4))) [])], [(2, true)], [], [[], [0], [1, 0], [2, 1, 0], [3, 2, 1, 0], [2, 1, 0, 4, 3], [5, 2, 1, 0, 4, 3], [6, 5, 2, 1, 0, 4, 3], [6, 5, 2, 1, 0, 4, 3], [7, 6, 5, 2, 1, 0, 4, 3, 8], [6, 5, 2, 1, 0, 4, 3], [6, 5, 2, 1, 0, 4, 3], [10, 6, 5, 2, 1, 0, 4, 3, 11, 9, 7, 8], [9, 7, 6, 5, 2, 1, 0, 4, 3, 8, 12, 10, 11], [6, 5, 2, 1, 0, 4, 3, 13, 9, 7, 8, 12, 10, 11]], [], [], []⟩, ⟨[], [], [], [], [], [], []⟩] [true, true] [] [] [] [(decide (v5 < (32 : Int))) = true, b2.fV6 = true, SCall Try.prog 115 [.agg (T_api_Addr.c b2), .one (.lit (.int .i64 v5))] (.one (.lit (.int .i64 x3))), SCall Try.prog 115 [.agg (T_api_Addr.c b3), .one (.lit (.int .i64 v5))] (.one (.lit (.int .i64 x4))), (x3 != x4) = true] (by kernel_rfl) rfl ⟨h6, h7, (g_doormanref06_Bit_ok b2 v5 x3 q8), (g_doormanref06_Bit_ok b3 v5 x4 q9), h10, trivial⟩
        · exact toK_good allOk Post.ends 15 _ _ _ _ [⟨[], [], [], [], [], [], []⟩, ⟨[(9, .r (.one (.lit (.int .i64 x3))) []), (12, .r (.one (.lit (.int .i64 x4))) [])], [(2, true)], [], [[], [0], [1, 0], [2, 1, 0], [3, 2, 1, 0], [2, 1, 0, 4, 3], [5, 2, 1, 0, 4, 3], [6, 5, 2, 1, 0, 4, 3], [6, 5, 2, 1, 0, 4, 3], [7, 6, 5, 2, 1, 0, 4, 3, 8], [6, 5, 2, 1, 0, 4, 3], [6, 5, 2, 1, 0, 4, 3], [10, 6, 5, 2, 1, 0, 4, 3, 11, 9, 7, 8], [9, 7, 6, 5, 2, 1, 0, 4, 3, 8, 12, 10, 11], [6, 5, 2, 1, 0, 4, 3, 13, 9, 7, 8, 12, 10, 11]], [], [], []⟩, ⟨[], [], [], [], [], [], []⟩] [true, false] ⟨[], [], [], [], [], [2, 3, 5], [2, 3], []⟩ [(decide (v5 < (32 : Int))) = true, b2.fV6 = true, SCall Try.prog 115 [.agg (T_api_Addr.c b2), .one (.lit (.int .i64 v5))] (.one (.lit (.int .i64 x3))), SCall Try.prog 115 [.agg (T_api_Addr.c b3), .one (.lit (.int .i64 v5))] (.one (.lit (.int .i64 x4))), (x3 != x4) = false] (by kernel_rfl) ⟨h6, h7, (g_doormanref06_Bit_ok b2 v5 x3 q8), (g_doormanref06_Bit_ok b3 v5 x4 q9), h10, trivial⟩ (ih (add64 v5 (1 : Int)) b2 b3 r hf)
      · rcases br_some hf with ⟨h11, hf⟩ | ⟨h11, hf⟩
        · obtain ⟨x5, q12, hf⟩ := bind_some' hf
          obtain ⟨x6, q13, hf⟩ := bind_some' hf
          rcases br_some hf with ⟨h14, hf⟩ | ⟨h14, hf⟩
          · replace hf := Option.some.inj hf
            subst hf
            exact toEnd_good allOk 13 _ _ [⟨[], [], [], [], [], [], []⟩, ⟨[(9, .r (.one (.lit (.int .i64 x5))) []), (12, .r (.one (.lit (.int .i64 x6))) [])], [(2, false), (6, true)], [], [[], [0], [1, 0], [2, 1, 0], [3, 2, 1, 0], [2, 1, 0, 4, 3], [5, 2, 1, 0, 4, 3], [6, 5, 2, 1, 0, 4, 3], [6, 5, 2, 1, 0, 4, 3], [7, 6, 5, 2, 1, 0, 4, 3, 8], [6, 5, 2, 1, 0, 4, 3], [6, 5, 2, 1, 0, 4, 3], [10, 6, 5, 2, 1, 0, 4, 3, 11, 9, 7, 8], [9, 7, 6, 5, 2, 1, 0, 4, 3, 8, 12, 10, 11], [6, 5, 2, 1, 0, 4, 3, 13, 9, 7, 8, 12, 10, 11]], [], [], []⟩, ⟨[], [], [], [], [], [], []⟩] [true, true] [] [] [] [(decide (v5 < (32 : Int))) = true, b2.fV6 = false, (decide (v5 < (16 : Int))) = true, SCall Try.prog 115 [.agg (T_api_Addr.c b2), .one (.lit (.int .i64 v5))] (.one (.lit (.int .i64 x5))), SCall Try.prog 115 [.agg (T_api_Addr.c b3), .one (.lit (.int .i64 v5))] (.one (.lit (.int .i64 x6))), (x5 != x6) = true] (by kernel_rfl) rfl ⟨h6, h7, h11, (g_doormanref06_Bit_ok b2 v5 x5 q12), (g_doormanref06_Bit_ok b3 v5 x6 q13), h14, trivial⟩
          · exact toK_good allOk Post.ends 15 _ _ _ _ [⟨[], [], [], [], [], [], []⟩, ⟨[(9, .r (.one (.lit (.int .i64 x5))) []), (12, .r (.one (.lit (.int .i64 x6))) [])], [(2, false), (6, true)], [], [[], [0], [1, 0], [2, 1, 0], [3, 2, 1, 0], [2, 1, 0, 4, 3], [5, 2, 1, 0, 4, 3], [6, 5, 2, 1, 0, 4, 3], [6, 5, 2, 1, 0, 4, 3], [7, 6, 5, 2, 1, 0, 4, 3, 8], [6, 5, 2, 1, 0, 4, 3], [6, 5, 2, 1, 0, 4, 3], [10, 6, 5, 2, 1, 0, 4, 3, 11, 9, 7, 8], [9, 7, 6, 5, 2, 1, 0, 4, 3, 8, 12, 10, 11], [6, 5, 2, 1, 0, 4, 3, 13, 9, 7, 8, 12, 10, 11]], [], [], []⟩, ⟨[], [], [], [], [], [], []⟩] [true, false] ⟨[], [], [], [], [], [2, 3, 5], [2, 3], []⟩ [(decide (v5 < (32 : Int))) = true, b2.fV6 = false, (decide (v5 < (16 : Int))) = true, SCall Try.prog 115 [.agg (T_api_Addr.c b2), .one (.lit (.int .i64 v5))] (.one (.lit (.int .i64 x5))), SCall Try.prog 115 [.agg (T_api_Addr.c b3), .one (.lit (.int .i64 v5))] (.one (.lit (.int .i64 x6))), (x5 != x6) = false] (by kernel_rfl) ⟨h6, h7, h11, (g_doormanref06_Bit_ok b2 v5 x5 q12), (g_doormanref06_Bit_ok b3 v5 x6 q13), h14, trivial⟩ (ih (add64 v5 (1 : Int)) b2 b3 r hf)
        · exact toK_good allOk Post.ends 15 _ _ _ _ [⟨[], [], [], [], [], [], []⟩, ⟨[], [(2, false), (6, false)], [], [[], [0], [1, 0], [2, 1, 0], [3, 2, 1, 0], [2, 1, 0, 4, 3], [5, 2, 1, 0, 4, 3], [6, 5, 2, 1, 0, 4, 3], [6, 5, 2, 1, 0, 4, 3], [7, 6, 5, 2, 1, 0, 4, 3, 8], [6, 5, 2, 1, 0, 4, 3], [6, 5, 2, 1, 0, 4, 3], [10, 6, 5, 2, 1, 0, 4, 3, 11, 9, 7, 8], [9, 7, 6, 5, 2, 1, 0, 4, 3, 8, 12, 10, 11], [6, 5, 2, 1, 0, 4, 3, 13, 9, 7, 8, 12, 10, 11]], [], [], []⟩, ⟨[], [], [], [], [], [], []⟩] [true, false] ⟨[], [], [], [], [], [2, 3, 5], [2, 3], []⟩ [(decide (v5 < (32 : Int))) = true, b2.fV6 = false, (decide (v5 < (16 : Int))) = false, false = false] (by kernel_rfl) ⟨h6, h7, h11, rfl, trivial⟩ (ih (add64 v5 (1 : Int)) b2 b3 r hf)
    · replace hf := Option.some.inj hf
      subst hf
      exact toEnd_good allOk 8 _ _ [⟨[], [], [], [], [], [], []⟩, ⟨[], [], [], [], [], [], []⟩] [false] [] [] [] [(decide (v5 < (32 : Int))) = false] (by kernel_rfl) rfl ⟨h6, trivial⟩

/-- doorman/doormanref08.Same -/
def g_doormanref08_Same (a0 : T_api_Addr) (a1 : T_api_Addr) : Option Bool :=
  (g_doormanref06_Right a0).bind fun x1 =>
  bif (!x1) then
    some false
  else
    (g_doormanref06_Right a1).bind fun x2 =>
    bif (!x2) then
      some false
    else
      bif (!(a0.fV6 == a1.fV6)) then
        some false
      else
        g_doormanref08_Same_c0   (((32 : Int) - (0 : Int)).toNat + 2) (0 : Int) a0 a1

theorem g_doormanref08_Same_ok (a0 : T_api_Addr) (a1 : T_api_Addr) (r : Bool) (hf : g_doormanref08_Same a0 a1 = some r) : SCall Try.prog 61 [.agg (T_api_Addr.c a0), .agg (T_api_Addr.c a1)] (.one (.lit (.bool r))) := by
  refine SCall.of Try.func61 rfl rfl rfl rfl fun S0 w0 => ?_
  unfold g_doormanref08_Same at hf
  obtain ⟨x1, q1, hf⟩ := bind_some' hf
  rcases br_some hf with ⟨h2, hf⟩ | ⟨h2, hf⟩
  · replace hf := Option.some.inj hf
    subst hf
    exact toEnd_good allOk 8 _ _ [⟨[], [], [], [], [], [], []⟩, ⟨[(1, .r (.one (.lit (.bool x1))) [])], [(3, true)], [], [], [], [], []⟩, ⟨[], [], [], [], [], [], []⟩] [true] [] [] [] [SCall Try.prog 114 [.agg (T_api_Addr.c a0)] (.one (.lit (.bool x1))), (!x1) = true, true = true] (by kernel_rfl) rfl ⟨(g_doormanref06_Right_ok a0 x1 q1), h2, rfl, trivial⟩
  · obtain ⟨x2, q3, hf⟩ := bind_some' hf
    rcases br_some hf with ⟨h4, hf⟩ | ⟨h4, hf⟩
    · replace hf := Option.some.inj hf
      subst hf
      exact toEnd_good allOk 8 _ _ [⟨[], [], [], [], [], [], []⟩, ⟨[(1, .r (.one (.lit (.bool x1))) []), (5, .r (.one (.lit (.bool x2))) [])], [(3, false), (8, true)], [], [], [], [], []⟩, ⟨[], [], [], [], [], [], []⟩] [true] [] [] [] [SCall Try.prog 114 [.agg (T_api_Addr.c a0)] (.one (.lit (.bool x1))), (!x1) = false, SCall Try.prog 114 [.agg (T_api_Addr.c a1)] (.one (.lit (.bool x2))), (!x2) = true, true = true] (by kernel_rfl) rfl ⟨(g_doormanref06_Right_ok a0 x1 q1), h2, (g_doormanref06_Right_ok a1 x2 q3), h4, rfl, trivial⟩
    · rcases br_some hf with ⟨h5, hf⟩ | ⟨h5, hf⟩
      · replace hf := Option.some.inj hf
        subst hf
        exact toEnd_good allOk 8 _ _ [⟨[], [], [], [], [], [], []⟩, ⟨[(1, .r (.one (.lit (.bool x1))) []), (5, .r (.one (.lit (.bool x2))) [])], [(3, false), (8, false)], [], [], [], [], []⟩, ⟨[], [], [], [], [], [], []⟩] [true] [] [] [] [SCall Try.prog 114 [.agg (T_api_Addr.c a0)] (.one (.lit (.bool x1))), (!x1) = false, SCall Try.prog 114 [.agg (T_api_Addr.c a1)] (.one (.lit (.bool x2))), (!x2) = false, (!(a0.fV6 == a1.fV6)) = true] (by kernel_rfl) rfl ⟨(g_doormanref06_Right_ok a0 x1 q1), h2, (g_doormanref06_Right_ok a1 x2 q3), h4, h5, trivial⟩
      · exact toK_good allOk Post.ends 11 _ _ _ _ [⟨[], [], [], [], [], [], []⟩, ⟨[(1, .r (.one (.lit (.bool x1))) []), (5, .r (.one (.lit (.bool x2))) [])], [(3, false), (8, false)], [], [], [], [], []⟩, ⟨[], [], [], [], [], [], []⟩] [false] ⟨[], [], [], [], [], [2, 3, 5], [2, 3], []⟩ [SCall Try.prog 114 [.agg (T_api_Addr.c a0)] (.one (.lit (.bool x1))), (!x1) = false, SCall Try.prog 114 [.agg (T_api_Addr.c a1)] (.one (.lit (.bool x2))), (!x2) = false, (!(a0.fV6 == a1.fV6)) = false] (by kernel_rfl) ⟨(g_doormanref06_Right_ok a0 x1 q1), h2, (g_doormanref06_Right_ok a1 x2 q3), h4, h5, trivial⟩ (g_doormanref08_Same_c0_ok S0 w0    (((32 : Int) - (0 : Int)).toNat + 2) (0 : Int) a0 a1 r hf)

def g_doormanref27_Free_c1 (a0 : (List T_api_Peer)) (a1 : (List T_api_Entry)) (v7 : Int) (b5 : T_api_Addr) (kg_doormanref27_Free_c0 : Int → T_api_Addr → Option Bool) : Nat → Int → Option Bool
  | 0, _ => none
  | fu + 1, v8 =>
    bif (decide (v8 < ((a1.length : Nat) : Int))) then
      need (0 ≤ v8 ∧ v8 < ((a1.length : Nat) : Int)) <|
      bif ((a1.getD v8.toNat T_api_Entry.d).fState == (2 : Int)) then
        (g_doormanref08_Same (((a1.getD v8.toNat T_api_Entry.d).fEnd).fAddr) b5).bind fun x3 =>
        bif x3 then
          some false
        else
          g_doormanref27_Free_c1 a0 a1 v7 b5 kg_doormanref27_Free_c0 fu (add64 v8 (1 : Int))
      else
        g_doormanref27_Free_c1 a0 a1 v7 b5 kg_doormanref27_Free_c0 fu (add64 v8 (1 : Int))
    else
      some true

theorem g_doormanref27_Free_c1_ok (S0 : Nat → Prop) (w0 : Start) (a0 : (List T_api_Peer)) (a1 : (List T_api_Entry)) (v7 : Int) (b5 : T_api_Addr) (kg_doormanref27_Free_c0 : Int → T_api_Addr → Option Bool) (hg_doormanref27_Free_c0 : ∀ (v7_ : Int) (b5_ : T_api_Addr) (r : Bool), kg_doormanref27_Free_c0 v7_ b5_ = some r → Good Try.prog 56 S0 w0 (bodyPost Try.prog Try.f60 (Post S0 w0 (.one (.lit (.bool r))))) (at_ [1, 1, 0, 1, 0] (bodyOf Try.f60)) ⟨[(0, .one (cL 10 T_api_Peer.c T_api_Peer.d a0)), (1, .one (cL 7 T_api_Entry.c T_api_Entry.d a1)), (5, .one (.ptr 5 0)), (7, .one (.lit (.int .i64 v7_)))], [(5, .box [.lit (.bool b5_.fV6), .lit (.int .u64 b5_.fHi), .lit (.int .u64 b5_.fLo)])]⟩) : ∀ (fu : Nat) (v8 : Int) (r : Bool), g_doormanref27_Free_c1 a0 a1 v7 b5 kg_doormanref27_Free_c0 fu v8 = some r → Good Try.prog 56 S0 w0 (bodyPost Try.prog Try.f60 (Post S0 w0 (.one (.lit (.bool r))))) (at_ [1, 1, 1, 0, 1, 0] (bodyOf Try.f60)) ⟨[(1, .one (cL 7 T_api_Entry.c T_api_Entry.d a1)), (5, .one (.ptr 5 0)), (8, .one (.lit (.int .i64 v8)))], [(5, .box [.lit (.bool b5.fV6), .lit (.int .u64 b5.fHi), .lit (.int .u64 b5.fLo)])]⟩ := by
  intro fu
  induction fu with
  | zero =>
    intro v8 r hf
    simp [g_doormanref27_Free_c1] at hf
  | succ fu ih =>
    intro v8 r hf
    unfold g_doormanref27_Free_c1 at hf
    rcases br_some hf with ⟨h8, hf⟩ | ⟨h8, hf⟩
    · obtain ⟨o9, hf⟩ := need_some hf
      rcases br_some hf with ⟨h10, hf⟩ | ⟨h10, hf⟩
      · obtain ⟨x3, q11, hf⟩ := bind_some' hf
        rcases br_some hf with ⟨h12, hf⟩ | ⟨h12, hf⟩
        · replace hf := Option.some.inj hf
          subst hf
          exact toEnd_good allOk 13 _ _ [⟨[], [], [], [], [], [], []⟩, ⟨[(14, .r (.one (.lit (.bool x3))) [])], [(6, true)], [], [[], [], [0, 1], [2, 0, 1], [3, 2, 0, 1], [4, 3, 2, 0, 1], [5, 4, 3, 2, 0, 1], [6, 5, 4, 3, 2, 0, 1], [6, 5, 4, 3, 2, 0, 1], [7, 6, 5, 4, 3, 2, 0, 1, 8], [9, 7, 6, 5, 4, 3, 2, 0, 1, 8], [10, 9, 7, 6, 5, 4, 3, 2, 0, 1, 8], [11, 10, 9, 7, 6, 5, 4, 3, 2, 0, 1, 8], [6, 5, 4, 3, 2, 0, 1], [12, 11, 10, 9, 7, 6, 5, 4, 3, 2, 0, 1, 8, 13], [6, 5, 4, 3, 2, 0, 1, 14, 12, 11, 10, 9, 7, 8, 13]], [], [], []⟩, ⟨[], [], [], [], [], [], []⟩] [true, true] [] [] [] [(decide (v8 < ((a1.length : Nat) : Int))) = true, 0 ≤ v8 ∧ v8 < ((a1.length : Nat) : Int), ((a1.getD v8.toNat T_api_Entry.d).fState == (2 : Int)) = true, 0 ≤ v8 ∧ v8 < ((a1.length : Nat) : Int), SCall Try.prog 61 [.agg (T_api_Addr.c (((a1.getD v8.toNat T_api_Entry.d).fEnd).fAddr)), .agg (T_api_Addr.c b5)] (.one (.lit (.bool x3))), x3 = true] (by kernel_rfl) rfl ⟨h8, o9, h10, o9, (g_doormanref08_Same_ok (((a1.getD v8.toNat T_api_Entry.d).fEnd).fAddr) b5 x3 q11), h12, trivial⟩
        · exact toK_good allOk Post.ends 15 _ _ _ _ [⟨[], [], [], [], [], [], []⟩, ⟨[(14, .r (.one (.lit (.bool x3))) [])], [(6, true)], [], [[], [], [0, 1], [2, 0, 1], [3, 2, 0, 1], [4, 3, 2, 0, 1], [5, 4, 3, 2, 0, 1], [6, 5, 4, 3, 2, 0, 1], [6, 5, 4, 3, 2, 0, 1], [7, 6, 5, 4, 3, 2, 0, 1, 8], [9, 7, 6, 5, 4, 3, 2, 0, 1, 8], [10, 9, 7, 6, 5, 4, 3, 2, 0, 1, 8], [11, 10, 9, 7, 6, 5, 4, 3, 2, 0, 1, 8], [6, 5, 4, 3, 2, 0, 1], [12, 11, 10, 9, 7, 6, 5, 4, 3, 2, 0, 1, 8, 13], [6, 5, 4, 3, 2, 0, 1, 14, 12, 11, 10, 9, 7, 8, 13]], [], [], []⟩, ⟨[], [], [], [], [], [], []⟩] [true, false] ⟨[], [], [], [], [], [1, 5, 8], [5], []⟩ [(decide (v8 < ((a1.length : Nat) : Int))) = true, 0 ≤ v8 ∧ v8 < ((a1.length : Nat) : Int), ((a1.getD v8.toNat T_api_Entry.d).fState == (2 : Int)) = true, 0 ≤ v8 ∧ v8 < ((a1.length : Nat) : Int), SCall Try.prog 61 [.agg (T_api_Addr.c (((a1.getD v8.toNat T_api_Entry.d).fEnd).fAddr)), .agg (T_api_Addr.c b5)] (.one (.lit (.bool x3))), x3 = false] (by kernel_rfl) ⟨h8, o9, h10, o9, (g_doormanref08_Same_ok (((a1.getD v8.toNat T_api_Entry.d).fEnd).fAddr) b5 x3 q11), h12, trivial⟩ (ih (add64 v8 (1 : Int)) r hf)
      · exact toK_good allOk Post.ends 15 _ _ _ _ [⟨[], [], [], [], [], [], []⟩, ⟨[], [(6, false)], [], [[], [], [0, 1], [2, 0, 1], [3, 2, 0, 1], [4, 3, 2, 0, 1], [5, 4, 3, 2, 0, 1], [6, 5, 4, 3, 2, 0, 1], [6, 5, 4, 3, 2, 0, 1], [7, 6, 5, 4, 3, 2, 0, 1, 8], [9, 7, 6, 5, 4, 3, 2, 0, 1, 8], [10, 9, 7, 6, 5, 4, 3, 2, 0, 1, 8], [11, 10, 9, 7, 6, 5, 4, 3, 2, 0, 1, 8], [6, 5, 4, 3, 2, 0, 1], [12, 11, 10, 9, 7, 6, 5, 4, 3, 2, 0, 1, 8, 13], [6, 5, 4, 3, 2, 0, 1, 14, 12, 11, 10, 9, 7, 8, 13]], [], [], []⟩, ⟨[], [], [], [], [], [], []⟩] [true, false] ⟨[], [], [], [], [], [1, 5, 8], [5], []⟩ [(decide (v8 < ((a1.length : Nat) : Int))) = true, 0 ≤ v8 ∧ v8 < ((a1.length : Nat) : Int), ((a1.getD v8.toNat T_api_Entry.d).fState == (2 : Int)) = false, false = false] (by kernel_rfl) ⟨h8, o9, h10, rfl, trivial⟩ (ih (add64 v8 (1 : Int)) r hf)
    · replace hf := Option.some.inj hf
      subst hf
      exact toEnd_good allOk 8 _ _ [⟨[], [], [], [], [], [], []⟩, ⟨[], [], [], [], [], [], []⟩] [false] [] [] [] [(decide (v8 < ((a1.length : Nat) : Int))) = false] (by kernel_rfl) rfl ⟨h8, trivial⟩

def g_doormanref27_Free_c0 (a0 : (List T_api_Peer)) (a1 : (List T_api_Entry))  : Nat → Int → T_api_Addr → Option Bool
  | 0, _, _ => none
  | fu + 1, v7, b5 =>
    bif (decide (v7 < ((a0.length : Nat) : Int))) then
      need (0 ≤ v7 ∧ v7 < ((a0.length : Nat) : Int)) <|
      bif (!(a0.getD v7.toNat T_api_Peer.d).fIn) then
        (g_doormanref08_Same (((a0.getD v7.toNat T_api_Peer.d).fEnd).fAddr) b5).bind fun x2 =>
        bif x2 then
          some false
        else
          g_doormanref27_Free_c0 a0 a1  fu (add64 v7 (1 : Int)) b5
      else
        g_doormanref27_Free_c0 a0 a1  fu (add64 v7 (1 : Int)) b5
    else
      g_doormanref27_Free_c1 a0 a1 v7 b5 (g_doormanref27_Free_c0 a0 a1  fu) ((((a1.length : Nat) : Int) - (0 : Int)).toNat + 2) (0 : Int)

theorem g_doormanref27_Free_c0_ok (S0 : Nat → Prop) (w0 : Start) (a0 : (List T_api_Peer)) (a1 : (List T_api_Entry))  : ∀ (fu : Nat) (v7 : Int) (b5 : T_api_Addr) (r : Bool), g_doormanref27_Free_c0 a0 a1  fu v7 b5 = some r → Good Try.prog 56 S0 w0 (bodyPost Try.prog Try.f60 (Post S0 w0 (.one (.lit (.bool r))))) (at_ [1, 1, 0, 1, 0] (bodyOf Try.f60)) ⟨[(0, .one (cL 10 T_api_Peer.c T_api_Peer.d a0)), (1, .one (cL 7 T_api_Entry.c T_api_Entry.d a1)), (5, .one (.ptr 5 0)), (7, .one (.lit (.int .i64 v7)))], [(5, .box [.lit (.bool b5.fV6), .lit (.int .u64 b5.fHi), .lit (.int .u64 b5.fLo)])]⟩ := by
  intro fu
  induction fu with
  | zero =>
    intro v7 b5 r hf
    simp [g_doormanref27_Free_c0] at hf
  | succ fu ih =>
    intro v7 b5 r hf
    unfold g_doormanref27_Free_c0 at hf
    rcases br_some hf with ⟨h3, hf⟩ | ⟨h3, hf⟩
    · obtain ⟨o4, hf⟩ := need_some hf
      rcases br_some hf with ⟨h5, hf⟩ | ⟨h5, hf⟩
      · obtain ⟨x2, q6, hf⟩ := bind_some' hf
        rcases br_some hf with ⟨h7, hf⟩ | ⟨h7, hf⟩
        · replace hf := Option.some.inj hf
          subst hf
          exact toEnd_good allOk 13 _ _ [⟨[], [], [], [], [], [], []⟩, ⟨[(14, .r (.one (.lit (.bool x2))) [])], [(6, true)], [], [[], [], [0, 1], [2, 0, 1], [3, 2, 0, 1], [4, 3, 2, 0, 1], [5, 4, 3, 2, 0, 1], [6, 5, 4, 3, 2, 0, 1], [6, 5, 4, 3, 2, 0, 1], [7, 6, 5, 4, 3, 2, 0, 1, 8], [9, 7, 6, 5, 4, 3, 2, 0, 1, 8], [10, 9, 7, 6, 5, 4, 3, 2, 0, 1, 8], [11, 10, 9, 7, 6, 5, 4, 3, 2, 0, 1, 8], [6, 5, 4, 3, 2, 0, 1], [12, 11, 10, 9, 7, 6, 5, 4, 3, 2, 0, 1, 8, 13], [6, 5, 4, 3, 2, 0, 1, 14, 12, 11, 10, 9, 7, 8, 13]], [], [], []⟩, ⟨[], [], [], [], [], [], []⟩] [true, true] [] [] [] [(decide (v7 < ((a0.length : Nat) : Int))) = true, 0 ≤ v7 ∧ v7 < ((a0.length : Nat) : Int), (!(a0.getD v7.toNat T_api_Peer.d).fIn) = true, 0 ≤ v7 ∧ v7 < ((a0.length : Nat) : Int), SCall Try.prog 61 [.agg (T_api_Addr.c (((a0.getD v7.toNat T_api_Peer.d).fEnd).fAddr)), .agg (T_api_Addr.c b5)] (.one (.lit (.bool x2))), x2 = true] (by kernel_rfl) rfl ⟨h3, o4, h5, o4, (g_doormanref08_Same_ok (((a0.getD v7.toNat T_api_Peer.d).fEnd).fAddr) b5 x2 q6), h7, trivial⟩
        · exact toK_good allOk Post.ends 15 _ _ _ _ [⟨[], [], [], [], [], [], []⟩, ⟨[(14, .r (.one (.lit (.bool x2))) [])], [(6, true)], [], [[], [], [0, 1], [2, 0, 1], [3, 2, 0, 1], [4, 3, 2, 0, 1], [5, 4, 3, 2, 0, 1], [6, 5, 4, 3, 2, 0, 1], [6, 5, 4, 3, 2, 0, 1], [7, 6, 5, 4, 3, 2, 0, 1, 8], [9, 7, 6, 5, 4, 3, 2, 0, 1, 8], [10, 9, 7, 6, 5, 4, 3, 2, 0, 1, 8], [11, 10, 9, 7, 6, 5, 4, 3, 2, 0, 1, 8], [6, 5, 4, 3, 2, 0, 1], [12, 11, 10, 9, 7, 6, 5, 4, 3, 2, 0, 1, 8, 13], [6, 5, 4, 3, 2, 0, 1, 14, 12, 11, 10, 9, 7, 8, 13]], [], [], []⟩, ⟨[], [], [], [], [], [], []⟩] [true, false] ⟨[], [], [], [], [], [0, 1, 5, 7], [5], []⟩ [(decide (v7 < ((a0.length : Nat) : Int))) = true, 0 ≤ v7 ∧ v7 < ((a0.length : Nat) : Int), (!(a0.getD v7.toNat T_api_Peer.d).fIn) = true, 0 ≤ v7 ∧ v7 < ((a0.length : Nat) : Int), SCall Try.prog 61 [.agg (T_api_Addr.c (((a0.getD v7.toNat T_api_Peer.d).fEnd).fAddr)), .agg (T_api_Addr.c b5)] (.one (.lit (.bool x2))), x2 = false] (by kernel_rfl) ⟨h3, o4, h5, o4, (g_doormanref08_Same_ok (((a0.getD v7.toNat T_api_Peer.d).fEnd).fAddr) b5 x2 q6), h7, trivial⟩ (ih (add64 v7 (1 : Int)) b5 r hf)
      · exact toK_good allOk Post.ends 15 _ _ _ _ [⟨[], [], [], [], [], [], []⟩, ⟨[], [(6, false)], [], [[], [], [0, 1], [2, 0, 1], [3, 2, 0, 1], [4, 3, 2, 0, 1], [5, 4, 3, 2, 0, 1], [6, 5, 4, 3, 2, 0, 1], [6, 5, 4, 3, 2, 0, 1], [7, 6, 5, 4, 3, 2, 0, 1, 8], [9, 7, 6, 5, 4, 3, 2, 0, 1, 8], [10, 9, 7, 6, 5, 4, 3, 2, 0, 1, 8], [11, 10, 9, 7, 6, 5, 4, 3, 2, 0, 1, 8], [6, 5, 4, 3, 2, 0, 1], [12, 11, 10, 9, 7, 6, 5, 4, 3, 2, 0, 1, 8, 13], [6, 5, 4, 3, 2, 0, 1, 14, 12, 11, 10, 9, 7, 8, 13]], [], [], []⟩, ⟨[], [], [], [], [], [], []⟩] [true, false] ⟨[], [], [], [], [], [0, 1, 5, 7], [5], []⟩ [(decide (v7 < ((a0.length : Nat) : Int))) = true, 0 ≤ v7 ∧ v7 < ((a0.length : Nat) : Int), (!(a0.getD v7.toNat T_api_Peer.d).fIn) = false, false = false] (by kernel_rfl) ⟨h3, o4, h5, rfl, trivial⟩ (ih (add64 v7 (1 : Int)) b5 r hf)
    · exact toK_good allOk Post.ends 10 _ _ _ _ [⟨[], [], [], [], [], [], []⟩, ⟨[], [], [], [], [], [], []⟩] [false] ⟨[], [], [], [], [], [1, 5, 8], [5], []⟩ [(decide (v7 < ((a0.length : Nat) : Int))) = false] (by kernel_rfl) ⟨h3, trivial⟩ (g_doormanref27_Free_c1_ok S0 w0 a0 a1 v7 b5 (g_doormanref27_Free_c0 a0 a1  fu) ih ((((a1.length : Nat) : Int) - (0 : Int)).toNat + 2) (0 : Int) r hf)

/-- doorman/doormanref27.Free -/
def g_doormanref27_Free (a0 : (List T_api_Peer)) (a1 : (List T_api_Entry)) (a2 : T_api_Addr) : Option Bool :=
  (g_doormanref06_Right a2).bind fun x1 =>
  bif (!x1) then
    some false
  else
    g_doormanref27_Free_c0 a0 a1  ((((a0.length : Nat) : Int) - (0 : Int)).toNat + 2) (0 : Int) a2

theorem g_doormanref27_Free_ok (a0 : (List T_api_Peer)) (a1 : (List T_api_Entry)) (a2 : T_api_Addr) (r : Bool) (hf : g_doormanref27_Free a0 a1 a2 = some r) : SCall Try.prog 60 [.one (cL 10 T_api_Peer.c T_api_Peer.d a0), .one (cL 7 T_api_Entry.c T_api_Entry.d a1), .agg (T_api_Addr.c a2)] (.one (.lit (.bool r))) := by
  refine SCall.of Try.func60 rfl rfl rfl rfl fun S0 w0 => ?_
  unfold g_doormanref27_Free at hf
  obtain ⟨x1, q1, hf⟩ := bind_some' hf
  rcases br_some hf with ⟨h2, hf⟩ | ⟨h2, hf⟩
  · replace hf := Option.some.inj hf
    subst hf
    exact toEnd_good allOk 8 _ _ [⟨[], [], [], [], [], [], []⟩, ⟨[(1, .r (.one (.lit (.bool x1))) [])], [], [], [], [], [], []⟩, ⟨[], [], [], [], [], [], []⟩] [true] [] [] [] [SCall Try.prog 114 [.agg (T_api_Addr.c a2)] (.one (.lit (.bool x1))), (!x1) = true] (by kernel_rfl) rfl ⟨(g_doormanref06_Right_ok a2 x1 q1), h2, trivial⟩
  · exact toK_good allOk Post.ends 11 _ _ _ _ [⟨[], [], [], [], [], [], []⟩, ⟨[(1, .r (.one (.lit (.bool x1))) [])], [], [], [], [], [], []⟩, ⟨[], [], [], [], [], [], []⟩] [false] ⟨[], [], [], [], [], [0, 1, 5, 7], [5], []⟩ [SCall Try.prog 114 [.agg (T_api_Addr.c a2)] (.one (.lit (.bool x1))), (!x1) = false] (by kernel_rfl) ⟨(g_doormanref06_Right_ok a2 x1 q1), h2, trivial⟩ (g_doormanref27_Free_c0_ok S0 w0 a0 a1   ((((a0.length : Nat) : Int) - (0 : Int)).toNat + 2) (0 : Int) a2 r hf)

/-- doorman/doormanlaw27.SpreadTells -/
def g_doormanlaw27_SpreadTells (a0 : (List T_api_Peer)) (a1 : (List T_api_Entry)) (a2 : T_api_Addr) : Option Bool :=
  bif (decide (((a0.length : Nat) : Int) > (60 : Int))) then
    (g_doormanlaw27_awake).bind fun x1 =>
    some x1
  else
    bif (decide (((a1.length : Nat) : Int) > (60 : Int))) then
      (g_doormanlaw27_awake).bind fun x2 =>
      some x2
    else
      (g_spread_Taken a0 a1).bind fun x3 =>
      (g_doormanref27_Taken a0 a1).bind fun x4 =>
      (g_doormansame_Nets x3 x4).bind fun x5 =>
      bif x5 then
        (g_spread_Free a0 a1 a2).bind fun x6 =>
        (g_doormanref27_Free a0 a1 a2).bind fun x7 =>
        bif (x6 == x7) then
          (g_doormanlaw27_awake).bind fun x8 =>
          some x8
        else
          some false
      else
        some false

theorem g_doormanlaw27_SpreadTells_ok (a0 : (List T_api_Peer)) (a1 : (List T_api_Entry)) (a2 : T_api_Addr) (r : Bool) (hf : g_doormanlaw27_SpreadTells a0 a1 a2 = some r) : SCall Try.prog 12 [.one (cL 10 T_api_Peer.c T_api_Peer.d a0), .one (cL 7 T_api_Entry.c T_api_Entry.d a1), .agg (T_api_Addr.c a2)] (.one (.lit (.bool r))) := by
  refine SCall.of Try.func12 rfl rfl rfl rfl fun S0 w0 => ?_
  unfold g_doormanlaw27_SpreadTells at hf
  rcases br_some hf with ⟨h1, hf⟩ | ⟨h1, hf⟩
  · obtain ⟨x1, q2, hf⟩ := bind_some' hf
    replace hf := Option.some.inj hf
    subst hf
    exact toEnd_good allOk 8 _ _ [⟨[], [], [], [], [], [], []⟩, ⟨[], [(3, true)], [], [], [], [], []⟩, ⟨[(0, .r (.one (.lit (.bool x1))) [])], [], [], [], [], [], []⟩] [true] [] [] [] [(decide (((a0.length : Nat) : Int) > (60 : Int))) = true, true = true, SCall Try.prog 55 [] (.one (.lit (.bool x1)))] (by kernel_rfl) rfl ⟨h1, rfl, (g_doormanlaw27_awake_ok  x1 q2), trivial⟩
  · rcases br_some hf with ⟨h3, hf⟩ | ⟨h3, hf⟩
    · obtain ⟨x2, q4, hf⟩ := bind_some' hf
      replace hf := Option.some.inj hf
      subst hf
      exact toEnd_good allOk 8 _ _ [⟨[], [], [], [], [], [], []⟩, ⟨[], [(3, false)], [], [], [], [], []⟩, ⟨[(0, .r (.one (.lit (.bool x2))) [])], [], [], [], [], [], []⟩] [true] [] [] [] [(decide (((a0.length : Nat) : Int) > (60 : Int))) = false, (decide (((a1.length : Nat) : Int) > (60 : Int))) = true, SCall Try.prog 55 [] (.one (.lit (.bool x2)))] (by kernel_rfl) rfl ⟨h1, h3, (g_doormanlaw27_awake_ok  x2 q4), trivial⟩
    · obtain ⟨x3, q5, hf⟩ := bind_some' hf
      obtain ⟨x4, q6, hf⟩ := bind_some' hf
      obtain ⟨x5, q7, hf⟩ := bind_some' hf
      rcases br_some hf with ⟨h8, hf⟩ | ⟨h8, hf⟩
      · obtain ⟨x6, q9, hf⟩ := bind_some' hf
        obtain ⟨x7, q10, hf⟩ := bind_some' hf
        rcases br_some hf with ⟨h11, hf⟩ | ⟨h11, hf⟩
        · obtain ⟨x8, q12, hf⟩ := bind_some' hf
          replace hf := Option.some.inj hf
          subst hf
          exact toEnd_good allOk 9 _ _ [⟨[], [], [], [], [], [], []⟩, ⟨[], [(3, false)], [], [], [], [], []⟩, ⟨[(2, .r (.one (cL 4 T_api_Net.c T_api_Net.d x3)) []), (5, .r (.one (cL 4 T_api_Net.c T_api_Net.d x4)) []), (6, .r (.one (.lit (.bool x5))) []), (11, .r (.one (.lit (.bool x6))) []), (15, .r (.one (.lit (.bool x7))) []), (19, .r (.one (.lit (.bool x8))) [])], [(7, true), (18, true)], [], [[], [], [0, 1], [], [], [3, 4, 2, 0, 1], [2, 0, 1, 5, 3, 4], [6, 2, 0, 1, 5, 3, 4], [7, 6, 2, 0, 1, 5, 3, 4], [7, 6, 2, 0, 1, 5, 3, 4], [7, 6, 2, 0, 1, 5, 3, 4], [8, 7, 6, 2, 0, 1, 5, 3, 4, 9, 10], [7, 6, 2, 0, 1, 5, 3, 4], [7, 6, 2, 0, 1, 5, 3, 4], [7, 6, 2, 0, 1, 5, 3, 4], [12, 7, 6, 2, 0, 1, 5, 3, 4, 13, 14, 11, 8, 9, 10], [11, 8, 7, 6, 2, 0, 1, 5, 3, 4, 9, 10, 15, 12, 13, 14], [7, 6, 2, 0, 1, 5, 3, 4, 16, 11, 8, 9, 10, 15, 12, 13, 14], [17, 7, 6, 2, 0, 1, 5, 3, 4, 16, 11, 8, 9, 10, 15, 12, 13, 14], [18, 17, 7, 6, 2, 0, 1, 5, 3, 4, 16, 11, 8, 9, 10, 15, 12, 13, 14], [18, 17, 7, 6, 2, 0, 1, 5, 3, 4, 16, 11, 8, 9, 10, 15, 12, 13, 14, 19], [20, 18, 17, 7, 6, 2, 0, 1, 5, 3, 4, 16, 11, 8, 9, 10, 15, 12, 13, 14, 19]], [], [], []⟩] [false] [] [] [] [(decide (((a0.length : Nat) : Int) > (60 : Int))) = false, (decide (((a1.length : Nat) : Int) > (60 : Int))) = false, SCall Try.prog 57 [.one (cL 10 T_api_Peer.c T_api_Peer.d a0), .one (cL 7 T_api_Entry.c T_api_Entry.d a1)] (.one (cL 4 T_api_Net.c T_api_Net.d x3)), SCall Try.prog 58 [.one (cL 10 T_api_Peer.c T_api_Peer.d a0), .one (cL 7 T_api_Entry.c T_api_Entry.d a1)] (.one (cL 4 T_api_Net.c T_api_Net.d x4)), SCall Try.prog 56 [.one (cL 4 T_api_Net.c T_api_Net.d x3), .one (cL 4 T_api_Net.c T_api_Net.d x4)] (.one (.lit (.bool x5))), x5 = true, SCall Try.prog 59 [.one (cL 10 T_api_Peer.c T_api_Peer.d a0), .one (cL 7 T_api_Entry.c T_api_Entry.d a1), .agg (T_api_Addr.c a2)] (.one (.lit (.bool x6))), SCall Try.prog 60 [.one (cL 10 T_api_Peer.c T_api_Peer.d a0), .one (cL 7 T_api_Entry.c T_api_Entry.d a1), .agg (T_api_Addr.c a2)] (.one (.lit (.bool x7))), (x6 == x7) = true, SCall Try.prog 55 [] (.one (.lit (.bool x8)))] (by kernel_rfl) rfl ⟨h1, h3, (g_spread_Taken_ok a0 a1 x3 q5), (g_doormanref27_Taken_ok a0 a1 x4 q6), (g_doormansame_Nets_ok x3 x4 x5 q7), h8, (g_spread_Free_ok a0 a1 a2 x6 q9), (g_doormanref27_Free_ok a0 a1 a2 x7 q10), h11, (g_doormanlaw27_awake_ok  x8 q12), trivial⟩
        · replace hf := Option.some.inj hf
          subst hf
          exact toEnd_good allOk 9 _ _ [⟨[], [], [], [], [], [], []⟩, ⟨[], [(3, false)], [], [], [], [], []⟩, ⟨[(2, .r (.one (cL 4 T_api_Net.c T_api_Net.d x3)) []), (5, .r (.one (cL 4 T_api_Net.c T_api_Net.d x4)) []), (6, .r (.one (.lit (.bool x5))) []), (11, .r (.one (.lit (.bool x6))) []), (15, .r (.one (.lit (.bool x7))) [])], [(7, true), (18, false)], [], [[], [], [0, 1], [], [], [3, 4, 2, 0, 1], [2, 0, 1, 5, 3, 4], [6, 2, 0, 1, 5, 3, 4], [7, 6, 2, 0, 1, 5, 3, 4], [7, 6, 2, 0, 1, 5, 3, 4], [7, 6, 2, 0, 1, 5, 3, 4], [8, 7, 6, 2, 0, 1, 5, 3, 4, 9, 10], [7, 6, 2, 0, 1, 5, 3, 4], [7, 6, 2, 0, 1, 5, 3, 4], [7, 6, 2, 0, 1, 5, 3, 4], [12, 7, 6, 2, 0, 1, 5, 3, 4, 13, 14, 11, 8, 9, 10], [11, 8, 7, 6, 2, 0, 1, 5, 3, 4, 9, 10, 15, 12, 13, 14], [7, 6, 2, 0, 1, 5, 3, 4, 16, 11, 8, 9, 10, 15, 12, 13, 14], [17, 7, 6, 2, 0, 1, 5, 3, 4, 16, 11, 8, 9, 10, 15, 12, 13, 14], [18, 17, 7, 6, 2, 0, 1, 5, 3, 4, 16, 11, 8, 9, 10, 15, 12, 13, 14], [18, 17, 7, 6, 2, 0, 1, 5, 3, 4, 16, 11, 8, 9, 10, 15, 12, 13, 14, 19], [20, 18, 17, 7, 6, 2, 0, 1, 5, 3, 4, 16, 11, 8, 9, 10, 15, 12, 13, 14, 19]], [], [], []⟩] [false] [] [] [] [(decide (((a0.length : Nat) : Int) > (60 : Int))) = false, (decide (((a1.length : Nat) : Int) > (60 : Int))) = false, SCall Try.prog 57 [.one (cL 10 T_api_Peer.c T_api_Peer.d a0), .one (cL 7 T_api_Entry.c T_api_Entry.d a1)] (.one (cL 4 T_api_Net.c T_api_Net.d x3)), SCall Try.prog 58 [.one (cL 10 T_api_Peer.c T_api_Peer.d a0), .one (cL 7 T_api_Entry.c T_api_Entry.d a1)] (.one (cL 4 T_api_Net.c T_api_Net.d x4)), SCall Try.prog 56 [.one (cL 4 T_api_Net.c T_api_Net.d x3), .one (cL 4 T_api_Net.c T_api_Net.d x4)] (.one (.lit (.bool x5))), x5 = true, SCall Try.prog 59 [.one (cL 10 T_api_Peer.c T_api_Peer.d a0), .one (cL 7 T_api_Entry.c T_api_Entry.d a1), .agg (T_api_Addr.c a2)] (.one (.lit (.bool x6))), SCall Try.prog 60 [.one (cL 10 T_api_Peer.c T_api_Peer.d a0), .one (cL 7 T_api_Entry.c T_api_Entry.d a1), .agg (T_api_Addr.c a2)] (.one (.lit (.bool x7))), (x6 == x7) = false] (by kernel_rfl) rfl ⟨h1, h3, (g_spread_Taken_ok a0 a1 x3 q5), (g_doormanref27_Taken_ok a0 a1 x4 q6), (g_doormansame_Nets_ok x3 x4 x5 q7), h8, (g_spread_Free_ok a0 a1 a2 x6 q9), (g_doormanref27_Free_ok a0 a1 a2 x7 q10), h11, trivial⟩
      · replace hf := Option.some.inj hf
        subst hf
        exact toEnd_good allOk 9 _ _ [⟨[], [], [], [], [], [], []⟩, ⟨[], [(3, false)], [], [], [], [], []⟩, ⟨[(2, .r (.one (cL 4 T_api_Net.c T_api_Net.d x3)) []), (5, .r (.one (cL 4 T_api_Net.c T_api_Net.d x4)) []), (6, .r (.one (.lit (.bool x5))) [])], [(7, false)], [], [[], [], [0, 1], [], [], [3, 4, 2, 0, 1], [2, 0, 1, 5, 3, 4], [6, 2, 0, 1, 5, 3, 4], [7, 6, 2, 0, 1, 5, 3, 4], [7, 6, 2, 0, 1, 5, 3, 4], [7, 6, 2, 0, 1, 5, 3, 4], [8, 7, 6, 2, 0, 1, 5, 3, 4, 9, 10], [7, 6, 2, 0, 1, 5, 3, 4], [7, 6, 2, 0, 1, 5, 3, 4], [7, 6, 2, 0, 1, 5, 3, 4], [12, 7, 6, 2, 0, 1, 5, 3, 4, 13, 14, 11, 8, 9, 10], [11, 8, 7, 6, 2, 0, 1, 5, 3, 4, 9, 10, 15, 12, 13, 14], [7, 6, 2, 0, 1, 5, 3, 4, 16, 11, 8, 9, 10, 15, 12, 13, 14], [17, 7, 6, 2, 0, 1, 5, 3, 4, 16, 11, 8, 9, 10, 15, 12, 13, 14], [18, 17, 7, 6, 2, 0, 1, 5, 3, 4, 16, 11, 8, 9, 10, 15, 12, 13, 14], [18, 17, 7, 6, 2, 0, 1, 5, 3, 4, 16, 11, 8, 9, 10, 15, 12, 13, 14, 19], [20, 18, 17, 7, 6, 2, 0, 1, 5, 3, 4, 16, 11, 8, 9, 10, 15, 12, 13, 14, 19]], [], [], []⟩] [false] [] [] [] [(decide (((a0.length : Nat) : Int) > (60 : Int))) = false, (decide (((a1.length : Nat) : Int) > (60 : Int))) = false, SCall Try.prog 57 [.one (cL 10 T_api_Peer.c T_api_Peer.d a0), .one (cL 7 T_api_Entry.c T_api_Entry.d a1)] (.one (cL 4 T_api_Net.c T_api_Net.d x3)), SCall Try.prog 58 [.one (cL 10 T_api_Peer.c T_api_Peer.d a0), .one (cL 7 T_api_Entry.c T_api_Entry.d a1)] (.one (cL 4 T_api_Net.c T_api_Net.d x4)), SCall Try.prog 56 [.one (cL 4 T_api_Net.c T_api_Net.d x3), .one (cL 4 T_api_Net.c T_api_Net.d x4)] (.one (.lit (.bool x5))), x5 = false] (by kernel_rfl) rfl ⟨h1, h3, (g_spread_Taken_ok a0 a1 x3 q5), (g_doormanref27_Taken_ok a0 a1 x4 q6), (g_doormansame_Nets_ok x3 x4 x5 q7), h8, trivial⟩
end Go.Proofs.Ytgmkffjkidgcnaa
