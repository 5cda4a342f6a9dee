/-
  Functions and their contracts.
  WRITTEN BY A PROGRAM OF MY OWN (wip/gen/am.py).
-/
import Derived.Test.YtaakonlnlfbfkaaDiaT
namespace Go.Proofs.Ytaakonlnlfbfkaa
open Go.RowKit Go.Lib Go.Shelf
set_option linter.unusedVariables false
set_option maxRecDepth 100000
theorem eqFields_T_api_Addr : (Try.prog.fieldsOf 33).toList = [{ name := "V6", type := 4, offset := 0, embedded := false, tag := "", pkgPath := "", byteOffset := 0 }, { name := "Hi", type := 31, offset := 1, embedded := false, tag := "", pkgPath := "", byteOffset := 8 }, { name := "Lo", type := 31, offset := 2, embedded := false, tag := "", pkgPath := "", byteOffset := 16 }] := by kernel_rfl

theorem eqIn_T_api_Addr (d : Nat) (x y : T_api_Addr) (w : World) : (Op.equalIn (d + 2) 33 (.agg #[.bool x.fV6, .int .u64 x.fHi, .int .u64 x.fLo]) (.agg #[.bool y.fV6, .int .u64 y.fHi, .int .u64 y.fLo])).run Try.prog w = .ok (decide (x = y)) w := by rw [run_equalIn_struct w (d + 1) _ _ _ (by kernel_rfl) (by kernel_rfl)]; simp only [eqFields_T_api_Addr, Op.eqFields]; simp [go_sem]; cases x; cases y; simp only [T_api_Addr.mk.injEq]; (repeat' split) <;> simp_all

theorem eql_T_api_Addr (x y : T_api_Addr) (xo yo : Operand) : ∀ w, (do eqGuard .eql 33 xo yo (.agg #[.bool x.fV6, .int .u64 x.fHi, .int .u64 x.fLo]) (.agg #[.bool y.fV6, .int .u64 y.fHi, .int .u64 y.fLo]); binOp .eql 33 (.agg #[.bool x.fV6, .int .u64 x.fHi, .int .u64 x.fLo]) (.agg #[.bool y.fV6, .int .u64 y.fHi, .int .u64 y.fLo]) : Sem Value).run Try.prog w = .ok (.bool (decide (x = y))) w := by
  intro w
  have hg : (eqGuard .eql 33 xo yo (.agg #[.bool x.fV6, .int .u64 x.fHi, .int .u64 x.fLo]) (.agg #[.bool y.fV6, .int .u64 y.fHi, .int .u64 y.fLo])).run Try.prog w = .ok () w := by simp [eqGuard, Sem.run_bind, Try.eqGuardType33]
  rw [Sem.run_bind, hg, Result.andThen_ok, run_eql_struct]
  exact congrArg (fun r : Result Bool => r.andThen fun b w' => Result.ok (Value.bool b) w') (eqIn_T_api_Addr 9998 x y w)

theorem neq_T_api_Addr (x y : T_api_Addr) (xo yo : Operand) : ∀ w, (do eqGuard .neq 33 xo yo (.agg #[.bool x.fV6, .int .u64 x.fHi, .int .u64 x.fLo]) (.agg #[.bool y.fV6, .int .u64 y.fHi, .int .u64 y.fLo]); binOp .neq 33 (.agg #[.bool x.fV6, .int .u64 x.fHi, .int .u64 x.fLo]) (.agg #[.bool y.fV6, .int .u64 y.fHi, .int .u64 y.fLo]) : Sem Value).run Try.prog w = .ok (.bool (!decide (x = y))) w := by
  intro w
  have hg : (eqGuard .neq 33 xo yo (.agg #[.bool x.fV6, .int .u64 x.fHi, .int .u64 x.fLo]) (.agg #[.bool y.fV6, .int .u64 y.fHi, .int .u64 y.fLo])).run Try.prog w = .ok () w := by simp [eqGuard, Sem.run_bind, Try.eqGuardType33]
  rw [Sem.run_bind, hg, Result.andThen_ok, run_neq_struct]
  exact congrArg (fun r : Result Bool => r.andThen fun b w' => Result.ok (Value.bool (!b)) w') (eqIn_T_api_Addr 9998 x y w)

theorem eqFields_T_api_End : (Try.prog.fieldsOf 35).toList = [{ name := "Addr", type := 33, offset := 0, embedded := false, tag := "", pkgPath := "", byteOffset := 0 }, { name := "Port", type := 3, offset := 3, embedded := false, tag := "", pkgPath := "", byteOffset := 24 }] := by kernel_rfl

theorem eqIn_T_api_End (d : Nat) (x y : T_api_End) (w : World) : (Op.equalIn (d + 4) 35 (.agg #[.bool x.fAddr.fV6, .int .u64 x.fAddr.fHi, .int .u64 x.fAddr.fLo, .int .i64 x.fPort]) (.agg #[.bool y.fAddr.fV6, .int .u64 y.fAddr.fHi, .int .u64 y.fAddr.fLo, .int .i64 y.fPort])).run Try.prog w = .ok (decide (x = y)) w := by rw [run_equalIn_struct w (d + 3) _ _ _ (by kernel_rfl) (by kernel_rfl)]; simp only [eqFields_T_api_End, Op.eqFields]; simp [go_sem, eqIn_T_api_Addr]; cases x; cases y; simp only [T_api_End.mk.injEq]; (repeat' split) <;> simp_all

theorem eql_T_api_End (x y : T_api_End) (xo yo : Operand) : ∀ w, (do eqGuard .eql 35 xo yo (.agg #[.bool x.fAddr.fV6, .int .u64 x.fAddr.fHi, .int .u64 x.fAddr.fLo, .int .i64 x.fPort]) (.agg #[.bool y.fAddr.fV6, .int .u64 y.fAddr.fHi, .int .u64 y.fAddr.fLo, .int .i64 y.fPort]); binOp .eql 35 (.agg #[.bool x.fAddr.fV6, .int .u64 x.fAddr.fHi, .int .u64 x.fAddr.fLo, .int .i64 x.fPort]) (.agg #[.bool y.fAddr.fV6, .int .u64 y.fAddr.fHi, .int .u64 y.fAddr.fLo, .int .i64 y.fPort]) : Sem Value).run Try.prog w = .ok (.bool (decide (x = y))) w := by
  intro w
  have hg : (eqGuard .eql 35 xo yo (.agg #[.bool x.fAddr.fV6, .int .u64 x.fAddr.fHi, .int .u64 x.fAddr.fLo, .int .i64 x.fPort]) (.agg #[.bool y.fAddr.fV6, .int .u64 y.fAddr.fHi, .int .u64 y.fAddr.fLo, .int .i64 y.fPort])).run Try.prog w = .ok () w := by simp [eqGuard, Sem.run_bind, Try.eqGuardType35]
  rw [Sem.run_bind, hg, Result.andThen_ok, run_eql_struct]
  exact congrArg (fun r : Result Bool => r.andThen fun b w' => Result.ok (Value.bool b) w') (eqIn_T_api_End 9996 x y w)

theorem neq_T_api_End (x y : T_api_End) (xo yo : Operand) : ∀ w, (do eqGuard .neq 35 xo yo (.agg #[.bool x.fAddr.fV6, .int .u64 x.fAddr.fHi, .int .u64 x.fAddr.fLo, .int .i64 x.fPort]) (.agg #[.bool y.fAddr.fV6, .int .u64 y.fAddr.fHi, .int .u64 y.fAddr.fLo, .int .i64 y.fPort]); binOp .neq 35 (.agg #[.bool x.fAddr.fV6, .int .u64 x.fAddr.fHi, .int .u64 x.fAddr.fLo, .int .i64 x.fPort]) (.agg #[.bool y.fAddr.fV6, .int .u64 y.fAddr.fHi, .int .u64 y.fAddr.fLo, .int .i64 y.fPort]) : Sem Value).run Try.prog w = .ok (.bool (!decide (x = y))) w := by
  intro w
  have hg : (eqGuard .neq 35 xo yo (.agg #[.bool x.fAddr.fV6, .int .u64 x.fAddr.fHi, .int .u64 x.fAddr.fLo, .int .i64 x.fPort]) (.agg #[.bool y.fAddr.fV6, .int .u64 y.fAddr.fHi, .int .u64 y.fAddr.fLo, .int .i64 y.fPort])).run Try.prog w = .ok () w := by simp [eqGuard, Sem.run_bind, Try.eqGuardType35]
  rw [Sem.run_bind, hg, Result.andThen_ok, run_neq_struct]
  exact congrArg (fun r : Result Bool => r.andThen fun b w' => Result.ok (Value.bool (!b)) w') (eqIn_T_api_End 9996 x y w)

theorem eqFields_T_api_Net : (Try.prog.fieldsOf 81).toList = [{ name := "Addr", type := 33, offset := 0, embedded := false, tag := "", pkgPath := "", byteOffset := 0 }, { name := "Bits", type := 3, offset := 3, embedded := false, tag := "", pkgPath := "", byteOffset := 24 }] := by kernel_rfl

theorem eqIn_T_api_Net (d : Nat) (x y : T_api_Net) (w : World) : (Op.equalIn (d + 4) 81 (.agg #[.bool x.fAddr.fV6, .int .u64 x.fAddr.fHi, .int .u64 x.fAddr.fLo, .int .i64 x.fBits]) (.agg #[.bool y.fAddr.fV6, .int .u64 y.fAddr.fHi, .int .u64 y.fAddr.fLo, .int .i64 y.fBits])).run Try.prog w = .ok (decide (x = y)) w := by rw [run_equalIn_struct w (d + 3) _ _ _ (by kernel_rfl) (by kernel_rfl)]; simp only [eqFields_T_api_Net, Op.eqFields]; simp [go_sem, eqIn_T_api_Addr]; cases x; cases y; simp only [T_api_Net.mk.injEq]; (repeat' split) <;> simp_all

theorem eql_T_api_Net (x y : T_api_Net) (xo yo : Operand) : ∀ w, (do eqGuard .eql 81 xo yo (.agg #[.bool x.fAddr.fV6, .int .u64 x.fAddr.fHi, .int .u64 x.fAddr.fLo, .int .i64 x.fBits]) (.agg #[.bool y.fAddr.fV6, .int .u64 y.fAddr.fHi, .int .u64 y.fAddr.fLo, .int .i64 y.fBits]); binOp .eql 81 (.agg #[.bool x.fAddr.fV6, .int .u64 x.fAddr.fHi, .int .u64 x.fAddr.fLo, .int .i64 x.fBits]) (.agg #[.bool y.fAddr.fV6, .int .u64 y.fAddr.fHi, .int .u64 y.fAddr.fLo, .int .i64 y.fBits]) : Sem Value).run Try.prog w = .ok (.bool (decide (x = y))) w := by
  intro w
  have hg : (eqGuard .eql 81 xo yo (.agg #[.bool x.fAddr.fV6, .int .u64 x.fAddr.fHi, .int .u64 x.fAddr.fLo, .int .i64 x.fBits]) (.agg #[.bool y.fAddr.fV6, .int .u64 y.fAddr.fHi, .int .u64 y.fAddr.fLo, .int .i64 y.fBits])).run Try.prog w = .ok () w := by simp [eqGuard, Sem.run_bind, Try.eqGuardType81]
  rw [Sem.run_bind, hg, Result.andThen_ok, run_eql_struct]
  exact congrArg (fun r : Result Bool => r.andThen fun b w' => Result.ok (Value.bool b) w') (eqIn_T_api_Net 9996 x y w)

theorem neq_T_api_Net (x y : T_api_Net) (xo yo : Operand) : ∀ w, (do eqGuard .neq 81 xo yo (.agg #[.bool x.fAddr.fV6, .int .u64 x.fAddr.fHi, .int .u64 x.fAddr.fLo, .int .i64 x.fBits]) (.agg #[.bool y.fAddr.fV6, .int .u64 y.fAddr.fHi, .int .u64 y.fAddr.fLo, .int .i64 y.fBits]); binOp .neq 81 (.agg #[.bool x.fAddr.fV6, .int .u64 x.fAddr.fHi, .int .u64 x.fAddr.fLo, .int .i64 x.fBits]) (.agg #[.bool y.fAddr.fV6, .int .u64 y.fAddr.fHi, .int .u64 y.fAddr.fLo, .int .i64 y.fBits]) : Sem Value).run Try.prog w = .ok (.bool (!decide (x = y))) w := by
  intro w
  have hg : (eqGuard .neq 81 xo yo (.agg #[.bool x.fAddr.fV6, .int .u64 x.fAddr.fHi, .int .u64 x.fAddr.fLo, .int .i64 x.fBits]) (.agg #[.bool y.fAddr.fV6, .int .u64 y.fAddr.fHi, .int .u64 y.fAddr.fLo, .int .i64 y.fBits])).run Try.prog w = .ok () w := by simp [eqGuard, Sem.run_bind, Try.eqGuardType81]
  rw [Sem.run_bind, hg, Result.andThen_ok, run_neq_struct]
  exact congrArg (fun r : Result Bool => r.andThen fun b w' => Result.ok (Value.bool (!b)) w') (eqIn_T_api_Net 9996 x y w)

/-- doorman/doormanlaw28.light -/
def g_doormanlaw28_light (a0 : T_dial_View) : Option Bool :=
  bif (decide (((a0.fBook.length : Nat) : Int) ≤ (30 : Int))) then
    bif (decide (((a0.fPeers.length : Nat) : Int) ≤ (30 : Int))) then
      some (decide (((a0.fBans.length : Nat) : Int) ≤ (30 : Int)))
    else
      some false
  else
    some false

theorem g_doormanlaw28_light_ok (a0 : T_dial_View) (r : Bool) (hf : g_doormanlaw28_light a0 = some r) : SCall Try.prog 51 [.agg (T_dial_View.c a0)] (.one (.lit (.bool r))) := by
  refine SCall.of Try.func51 rfl rfl rfl rfl fun S0 w0 => ?_
  unfold g_doormanlaw28_light at hf
  rcases br_some hf with ⟨h1, hf⟩ | ⟨h1, hf⟩
  · rcases br_some hf with ⟨h2, hf⟩ | ⟨h2, hf⟩
    · replace hf := Option.some.inj hf
      subst hf
      exact toEnd_good allOk 4 _ _ [⟨[], [], [], [], [], [], []⟩, ⟨[], [(4, true), (10, true)], [], [], [], [], []⟩] [] [] [] [] [(decide (((a0.fBook.length : Nat) : Int) ≤ (30 : Int))) = true, (decide (((a0.fPeers.length : Nat) : Int) ≤ (30 : Int))) = true] (by kernel_rfl) rfl ⟨h1, h2, trivial⟩
    · replace hf := Option.some.inj hf
      subst hf
      exact toEnd_good allOk 4 _ _ [⟨[], [], [], [], [], [], []⟩, ⟨[], [(4, true), (10, false)], [], [], [], [], []⟩] [] [] [] [] [(decide (((a0.fBook.length : Nat) : Int) ≤ (30 : Int))) = true, (decide (((a0.fPeers.length : Nat) : Int) ≤ (30 : Int))) = false] (by kernel_rfl) rfl ⟨h1, h2, trivial⟩
  · replace hf := Option.some.inj hf
    subst hf
    exact toEnd_good allOk 4 _ _ [⟨[], [], [], [], [], [], []⟩, ⟨[], [(4, false)], [], [], [], [], []⟩] [] [] [] [] [(decide (((a0.fBook.length : Nat) : Int) ≤ (30 : Int))) = false] (by kernel_rfl) rfl ⟨h1, trivial⟩

/-- doorman/doormanlaw28.at -/
def g_doormanlaw28_at (a0 : Int) (a1 : Int) : Option T_api_Entry :=
  some (T_api_Entry.mk (T_api_End.mk (T_api_Addr.mk false (0 : Int) (IntKind.wrap .u64 (a0 * (65536 : Int)))) (80 : Int)) (1 : Int) (0 : Int) a1)

theorem g_doormanlaw28_at_ok (a0 : Int) (a1 : Int) (r : T_api_Entry) (hf : g_doormanlaw28_at a0 a1 = some r) : SCall Try.prog 104 [.one (.lit (.int .u64 a0)), .one (.lit (.int .i64 a1))] (.agg (T_api_Entry.c r)) := by
  refine SCall.of Try.func104 rfl rfl rfl rfl fun S0 w0 => ?_
  unfold g_doormanlaw28_at at hf
  replace hf := Option.some.inj hf
  subst hf
  exact toEnd_good allOk 4 _ _ [⟨[], [], [], [], [], [], []⟩, ⟨[], [], [], [], [], [], []⟩] [] [] [] [] [] (by kernel_rfl) rfl trivial

/-- doorman/entry.Due -/
def g_entry_Due (a0 : T_api_Entry) (a1 : Int) : Option Bool :=
  bif (a0.fState == (1 : Int)) then
    some (decide (a0.fNext ≤ a1))
  else
    some false

theorem g_entry_Due_ok (a0 : T_api_Entry) (a1 : Int) (r : Bool) (hf : g_entry_Due a0 a1 = some r) : SCall Try.prog 109 [.agg (T_api_Entry.c a0), .one (.lit (.int .i64 a1))] (.one (.lit (.bool r))) := by
  refine SCall.of Try.func109 rfl rfl rfl rfl fun S0 w0 => ?_
  unfold g_entry_Due at hf
  rcases br_some hf with ⟨h1, hf⟩ | ⟨h1, hf⟩
  · replace hf := Option.some.inj hf
    subst hf
    exact toEnd_good allOk 4 _ _ [⟨[], [], [], [], [], [], []⟩, ⟨[], [(3, true)], [], [], [], [], []⟩] [] [] [] [] [(a0.fState == (1 : Int)) = true] (by kernel_rfl) rfl ⟨h1, trivial⟩
  · replace hf := Option.some.inj hf
    subst hf
    exact toEnd_good allOk 4 _ _ [⟨[], [], [], [], [], [], []⟩, ⟨[], [(3, false)], [], [], [], [], []⟩] [] [] [] [] [(a0.fState == (1 : Int)) = false] (by kernel_rfl) rfl ⟨h1, trivial⟩

/-- doorman/addr.V4 -/
def g_addr_V4 (a0 : Int) : Option T_api_Addr :=
  some (T_api_Addr.mk false (0 : Int) (IntKind.wrap .u64 a0))

theorem g_addr_V4_ok (a0 : Int) (r : T_api_Addr) (hf : g_addr_V4 a0 = some r) : SCall Try.prog 133 [.one (.lit (.int .u32 a0))] (.agg (T_api_Addr.c r)) := by
  refine SCall.of Try.func133 rfl rfl rfl rfl fun S0 w0 => ?_
  unfold g_addr_V4 at hf
  replace hf := Option.some.inj hf
  subst hf
  exact toEnd_good allOk 4 _ _ [⟨[], [], [], [], [], [], []⟩, ⟨[], [], [], [], [], [], []⟩] [] [] [] [] [] (by kernel_rfl) rfl trivial

/-- doorman/addr.V6 -/
def g_addr_V6 (a0 : Int) (a1 : Int) : Option T_api_Addr :=
  bif (a0 == (0 : Int)) then
    bif ((Int.fdiv a1 (2 ^ (min (32 : Int).toNat (IntKind.bits .u64)))) == (65535 : Int)) then
      (g_addr_V4 (IntKind.wrap .u32 (IntKind.wrap .u64 (((BitVec.ofInt (IntKind.bits .u64) a1) &&& (BitVec.ofInt (IntKind.bits .u64) (4294967295 : Int))).toNat : Int)))).bind fun x1 =>
      some x1
    else
      some (T_api_Addr.mk true a0 a1)
  else
    some (T_api_Addr.mk true a0 a1)

theorem g_addr_V6_ok (a0 : Int) (a1 : Int) (r : T_api_Addr) (hf : g_addr_V6 a0 a1 = some r) : SCall Try.prog 132 [.one (.lit (.int .u64 a0)), .one (.lit (.int .u64 a1))] (.agg (T_api_Addr.c r)) := by
  refine SCall.of Try.func132 rfl rfl rfl rfl fun S0 w0 => ?_
  unfold g_addr_V6 at hf
  rcases br_some hf with ⟨h1, hf⟩ | ⟨h1, hf⟩
  · rcases br_some hf with ⟨h2, hf⟩ | ⟨h2, hf⟩
    · obtain ⟨x1, q3, hf⟩ := bind_some' hf
      replace hf := Option.some.inj hf
      subst hf
      exact toEnd_good allOk 8 _ _ [⟨[], [], [], [], [], [], []⟩, ⟨[], [(2, true)], [], [], [], [], []⟩, ⟨[(3, .r (.agg (T_api_Addr.c x1)) [])], [], [], [], [], [], []⟩] [true] [] [] [] [(a0 == (0 : Int)) = true, 0 ≤ (32 : Int), ((Int.fdiv a1 (2 ^ (min (32 : Int).toNat (IntKind.bits .u64)))) == (65535 : Int)) = true, SCall Try.prog 133 [.one (.lit (.int .u32 (IntKind.wrap .u32 (IntKind.wrap .u64 (((BitVec.ofInt (IntKind.bits .u64) a1) &&& (BitVec.ofInt (IntKind.bits .u64) (4294967295 : Int))).toNat : Int)))))] (.agg (T_api_Addr.c x1))] (by kernel_rfl) rfl ⟨h1, (by decide), h2, (g_addr_V4_ok (IntKind.wrap .u32 (IntKind.wrap .u64 (((BitVec.ofInt (IntKind.bits .u64) a1) &&& (BitVec.ofInt (IntKind.bits .u64) (4294967295 : Int))).toNat : Int))) x1 q3), trivial⟩
    · replace hf := Option.some.inj hf
      subst hf
      exact toEnd_good allOk 9 _ _ [⟨[], [], [], [], [], [], []⟩, ⟨[], [(2, true)], [], [], [], [], []⟩, ⟨[], [], [], [], [], [], []⟩] [false] [] [] [] [(a0 == (0 : Int)) = true, 0 ≤ (32 : Int), ((Int.fdiv a1 (2 ^ (min (32 : Int).toNat (IntKind.bits .u64)))) == (65535 : Int)) = false] (by kernel_rfl) rfl ⟨h1, (by decide), h2, trivial⟩
  · replace hf := Option.some.inj hf
    subst hf
    exact toEnd_good allOk 9 _ _ [⟨[], [], [], [], [], [], []⟩, ⟨[], [(2, false)], [], [], [], [], []⟩, ⟨[], [], [], [], [], [], []⟩] [false] [] [] [] [(a0 == (0 : Int)) = false, false = false] (by kernel_rfl) rfl ⟨h1, rfl, trivial⟩

/-- doorman/addr.Right -/
def g_addr_Right (a0 : T_api_Addr) : Option Bool :=
  bif a0.fV6 then
    (g_addr_V6 a0.fHi a0.fLo).bind fun x1 =>
    some (decide (x1 = a0))
  else
    (g_addr_V4 (IntKind.wrap .u32 (IntKind.wrap .u64 (((BitVec.ofInt (IntKind.bits .u64) a0.fLo) &&& (BitVec.ofInt (IntKind.bits .u64) (4294967295 : Int))).toNat : Int)))).bind fun x2 =>
    some (decide (x2 = a0))

theorem g_addr_Right_ok (a0 : T_api_Addr) (r : Bool) (hf : g_addr_Right a0 = some r) : SCall Try.prog 98 [.agg (T_api_Addr.c a0)] (.one (.lit (.bool r))) := by
  refine SCall.of Try.func98 rfl rfl rfl rfl fun S0 w0 => ?_
  unfold g_addr_Right at hf
  rcases br_some hf with ⟨h1, hf⟩ | ⟨h1, hf⟩
  · obtain ⟨x1, q2, hf⟩ := bind_some' hf
    replace hf := Option.some.inj hf
    subst hf
    exact toEnd_good allOk 8 _ _ [⟨[], [], [], [], [], [], []⟩, ⟨[], [], [], [], [], [], []⟩, ⟨[(4, .r (.agg (T_api_Addr.c x1)) []), (6, .r (.one (.lit (.bool (decide (x1 = a0))))) [])], [], [], [[], [0], [], [2], [1, 0, 3, 2], [], [4, 1, 0, 3, 2, 5], [6, 4, 1, 0, 3, 2, 5]], [], [], []⟩] [true] [] [] [] [a0.fV6 = true, SCall Try.prog 132 [.one (.lit (.int .u64 a0.fHi)), .one (.lit (.int .u64 a0.fLo))] (.agg (T_api_Addr.c x1)), ∀ w, (do eqGuard .eql 33 (.tmp 9) (.tmp 10) (.agg #[.bool x1.fV6, .int .u64 x1.fHi, .int .u64 x1.fLo]) (.agg #[.bool a0.fV6, .int .u64 a0.fHi, .int .u64 a0.fLo]); binOp .eql 33 (.agg #[.bool x1.fV6, .int .u64 x1.fHi, .int .u64 x1.fLo]) (.agg #[.bool a0.fV6, .int .u64 a0.fHi, .int .u64 a0.fLo]) : Sem Value).run Try.prog w = .ok (.bool (decide (x1 = a0))) w] (by kernel_rfl) rfl ⟨h1, (g_addr_V6_ok a0.fHi a0.fLo x1 q2), (eql_T_api_Addr x1 a0 _ _), trivial⟩
  · obtain ⟨x2, q3, hf⟩ := bind_some' hf
    replace hf := Option.some.inj hf
    subst hf
    exact toEnd_good allOk 9 _ _ [⟨[], [], [], [], [], [], []⟩, ⟨[], [], [], [], [], [], []⟩, ⟨[(4, .r (.agg (T_api_Addr.c x2)) []), (6, .r (.one (.lit (.bool (decide (x2 = a0))))) [])], [], [], [[], [0], [1, 0], [2, 1, 0], [3, 2, 1, 0], [], [4, 3, 2, 1, 0, 5], [6, 4, 3, 2, 1, 0, 5]], [], [], []⟩] [false] [] [] [] [a0.fV6 = false, SCall Try.prog 133 [.one (.lit (.int .u32 (IntKind.wrap .u32 (IntKind.wrap .u64 (((BitVec.ofInt (IntKind.bits .u64) a0.fLo) &&& (BitVec.ofInt (IntKind.bits .u64) (4294967295 : Int))).toNat : Int)))))] (.agg (T_api_Addr.c x2)), ∀ w, (do eqGuard .eql 33 (.tmp 16) (.tmp 17) (.agg #[.bool x2.fV6, .int .u64 x2.fHi, .int .u64 x2.fLo]) (.agg #[.bool a0.fV6, .int .u64 a0.fHi, .int .u64 a0.fLo]); binOp .eql 33 (.agg #[.bool x2.fV6, .int .u64 x2.fHi, .int .u64 x2.fLo]) (.agg #[.bool a0.fV6, .int .u64 a0.fHi, .int .u64 a0.fLo]) : Sem Value).run Try.prog w = .ok (.bool (decide (x2 = a0))) w] (by kernel_rfl) rfl ⟨h1, (g_addr_V4_ok (IntKind.wrap .u32 (IntKind.wrap .u64 (((BitVec.ofInt (IntKind.bits .u64) a0.fLo) &&& (BitVec.ofInt (IntKind.bits .u64) (4294967295 : Int))).toNat : Int))) x2 q3), (eql_T_api_Addr x2 a0 _ _), trivial⟩

/-- doorman/endp.Right -/
def g_endp_Right (a0 : T_api_End) : Option Bool :=
  (g_addr_Right a0.fAddr).bind fun x1 =>
  bif x1 then
    bif (decide (a0.fPort ≥ (1 : Int))) then
      some (decide (a0.fPort ≤ (65535 : Int)))
    else
      some false
  else
    some false

theorem g_endp_Right_ok (a0 : T_api_End) (r : Bool) (hf : g_endp_Right a0 = some r) : SCall Try.prog 146 [.agg (T_api_End.c a0)] (.one (.lit (.bool r))) := by
  refine SCall.of Try.func146 rfl rfl rfl rfl fun S0 w0 => ?_
  unfold g_endp_Right at hf
  obtain ⟨x1, q1, hf⟩ := bind_some' hf
  rcases br_some hf with ⟨h2, hf⟩ | ⟨h2, hf⟩
  · rcases br_some hf with ⟨h3, hf⟩ | ⟨h3, hf⟩
    · replace hf := Option.some.inj hf
      subst hf
      exact toEnd_good allOk 4 _ _ [⟨[], [], [], [], [], [], []⟩, ⟨[(2, .r (.one (.lit (.bool x1))) [])], [(3, true), (8, true)], [], [], [], [], []⟩] [] [] [] [] [SCall Try.prog 98 [.agg (T_api_Addr.c a0.fAddr)] (.one (.lit (.bool x1))), x1 = true, (decide (a0.fPort ≥ (1 : Int))) = true] (by kernel_rfl) rfl ⟨(g_addr_Right_ok a0.fAddr x1 q1), h2, h3, trivial⟩
    · replace hf := Option.some.inj hf
      subst hf
      exact toEnd_good allOk 4 _ _ [⟨[], [], [], [], [], [], []⟩, ⟨[(2, .r (.one (.lit (.bool x1))) [])], [(3, true), (8, false)], [], [], [], [], []⟩] [] [] [] [] [SCall Try.prog 98 [.agg (T_api_Addr.c a0.fAddr)] (.one (.lit (.bool x1))), x1 = true, (decide (a0.fPort ≥ (1 : Int))) = false] (by kernel_rfl) rfl ⟨(g_addr_Right_ok a0.fAddr x1 q1), h2, h3, trivial⟩
  · replace hf := Option.some.inj hf
    subst hf
    exact toEnd_good allOk 4 _ _ [⟨[], [], [], [], [], [], []⟩, ⟨[(2, .r (.one (.lit (.bool x1))) [])], [(3, false)], [], [], [], [], []⟩] [] [] [] [] [SCall Try.prog 98 [.agg (T_api_Addr.c a0.fAddr)] (.one (.lit (.bool x1))), x1 = false] (by kernel_rfl) rfl ⟨(g_addr_Right_ok a0.fAddr x1 q1), h2, trivial⟩

/-- doorman/sat.Fit -/
def g_sat_Fit (a0 : Int) : Option Int :=
  some (if (1099511627776 : Int) < (if (0 : Int) > a0 then (0 : Int) else a0) then (1099511627776 : Int) else (if (0 : Int) > a0 then (0 : Int) else a0))

theorem g_sat_Fit_ok (a0 : Int) (r : Int) (hf : g_sat_Fit a0 = some r) : SCall Try.prog 147 [.one (.lit (.int .i64 a0))] (.one (.lit (.int .i64 r))) := by
  refine SCall.of Try.func147 rfl rfl rfl rfl fun S0 w0 => ?_
  unfold g_sat_Fit at hf
  replace hf := Option.some.inj hf
  subst hf
  exact toEnd_good allOk 4 _ _ [⟨[], [], [], [], [], [], []⟩, ⟨[], [], [], [], [], [], []⟩] [] [] [] [] [] (by kernel_rfl) rfl trivial

/-- doorman/entry.Right -/
def g_entry_Right (a0 : T_api_Entry) : Option Bool :=
  bif (decide (a0.fState ≥ (1 : Int))) then
    (g_endp_Right a0.fEnd).bind fun x1 =>
    bif x1 then
      bif (decide (a0.fState ≤ (3 : Int))) then
        bif (decide (a0.fFails ≥ (0 : Int))) then
          bif (decide (a0.fFails ≤ (1000 : Int))) then
            (g_sat_Fit a0.fNext).bind fun x2 =>
            some (a0.fNext == x2)
          else
            some false
        else
          some false
      else
        some false
    else
      some false
  else
    (g_endp_Right a0.fEnd).bind fun x3 =>
    bif x3 then
      some false
    else
      some false

theorem g_entry_Right_ok (a0 : T_api_Entry) (r : Bool) (hf : g_entry_Right a0 = some r) : SCall Try.prog 113 [.agg (T_api_Entry.c a0)] (.one (.lit (.bool r))) := by
  refine SCall.of Try.func113 rfl rfl rfl rfl fun S0 w0 => ?_
  unfold g_entry_Right at hf
  rcases br_some hf with ⟨h1, hf⟩ | ⟨h1, hf⟩
  · obtain ⟨x1, q2, hf⟩ := bind_some' hf
    rcases br_some hf with ⟨h3, hf⟩ | ⟨h3, hf⟩
    · rcases br_some hf with ⟨h4, hf⟩ | ⟨h4, hf⟩
      · rcases br_some hf with ⟨h5, hf⟩ | ⟨h5, hf⟩
        · rcases br_some hf with ⟨h6, hf⟩ | ⟨h6, hf⟩
          · obtain ⟨x2, q7, hf⟩ := bind_some' hf
            replace hf := Option.some.inj hf
            subst hf
            exact toEnd_good allOk 6 _ _ [⟨[], [], [], [], [], [], []⟩, ⟨[], [(3, true)], [], [], [], [], []⟩, ⟨[(2, .r (.one (.lit (.bool x1))) []), (21, .r (.one (.lit (.int .i64 x2))) [])], [(3, true), (6, true), (11, true), (16, true)], [], [[], [0], [1, 0], [2, 1, 0], [3, 2, 1, 0], [3, 2, 1, 0, 4], [5, 3, 2, 1, 0, 4], [6, 5, 3, 2, 1, 0, 4], [7, 6, 5, 3, 2, 1, 0, 4], [8, 7, 6, 5, 3, 2, 1, 0, 4], [6, 5, 3, 2, 1, 0, 4, 9, 8, 7], [10, 6, 5, 3, 2, 1, 0, 4, 9, 8, 7], [11, 10, 6, 5, 3, 2, 1, 0, 4, 9, 8, 7], [12, 11, 10, 6, 5, 3, 2, 1, 0, 4, 9, 8, 7], [13, 12, 11, 10, 6, 5, 3, 2, 1, 0, 4, 9, 8, 7], [11, 10, 6, 5, 3, 2, 1, 0, 4, 9, 8, 7, 14, 13, 12], [15, 11, 10, 6, 5, 3, 2, 1, 0, 4, 9, 8, 7, 14, 13, 12], [16, 15, 11, 10, 6, 5, 3, 2, 1, 0, 4, 9, 8, 7, 14, 13, 12], [17, 16, 15, 11, 10, 6, 5, 3, 2, 1, 0, 4, 9, 8, 7, 14, 13, 12], [16, 15, 11, 10, 6, 5, 3, 2, 1, 0, 4, 9, 8, 7, 14, 13, 12], [19, 16, 15, 11, 10, 6, 5, 3, 2, 1, 0, 4, 9, 8, 7, 14, 13, 12], [20, 19, 16, 15, 11, 10, 6, 5, 3, 2, 1, 0, 4, 9, 8, 7, 14, 13, 12], [18, 17, 16, 15, 11, 10, 6, 5, 3, 2, 1, 0, 4, 9, 8, 7, 14, 13, 12, 21, 20, 19], [16, 15, 11, 10, 6, 5, 3, 2, 1, 0, 4, 9, 8, 7, 14, 13, 12, 22, 18, 17, 21, 20, 19], [23, 16, 15, 11, 10, 6, 5, 3, 2, 1, 0, 4, 9, 8, 7, 14, 13, 12, 22, 18, 17, 21, 20, 19]], [], [], []⟩] [] [] [] [] [(decide (a0.fState ≥ (1 : Int))) = true, SCall Try.prog 146 [.agg (T_api_End.c a0.fEnd)] (.one (.lit (.bool x1))), x1 = true, (decide (a0.fState ≤ (3 : Int))) = true, (decide (a0.fFails ≥ (0 : Int))) = true, (decide (a0.fFails ≤ (1000 : Int))) = true, SCall Try.prog 147 [.one (.lit (.int .i64 a0.fNext))] (.one (.lit (.int .i64 x2)))] (by kernel_rfl) rfl ⟨h1, (g_endp_Right_ok a0.fEnd x1 q2), h3, h4, h5, h6, (g_sat_Fit_ok a0.fNext x2 q7), trivial⟩
          · replace hf := Option.some.inj hf
            subst hf
            exact toEnd_good allOk 6 _ _ [⟨[], [], [], [], [], [], []⟩, ⟨[], [(3, true)], [], [], [], [], []⟩, ⟨[(2, .r (.one (.lit (.bool x1))) [])], [(3, true), (6, true), (11, true), (16, false)], [], [[], [0], [1, 0], [2, 1, 0], [3, 2, 1, 0], [3, 2, 1, 0, 4], [5, 3, 2, 1, 0, 4], [6, 5, 3, 2, 1, 0, 4], [7, 6, 5, 3, 2, 1, 0, 4], [8, 7, 6, 5, 3, 2, 1, 0, 4], [6, 5, 3, 2, 1, 0, 4, 9, 8, 7], [10, 6, 5, 3, 2, 1, 0, 4, 9, 8, 7], [11, 10, 6, 5, 3, 2, 1, 0, 4, 9, 8, 7], [12, 11, 10, 6, 5, 3, 2, 1, 0, 4, 9, 8, 7], [13, 12, 11, 10, 6, 5, 3, 2, 1, 0, 4, 9, 8, 7], [11, 10, 6, 5, 3, 2, 1, 0, 4, 9, 8, 7, 14, 13, 12], [15, 11, 10, 6, 5, 3, 2, 1, 0, 4, 9, 8, 7, 14, 13, 12], [16, 15, 11, 10, 6, 5, 3, 2, 1, 0, 4, 9, 8, 7, 14, 13, 12], [17, 16, 15, 11, 10, 6, 5, 3, 2, 1, 0, 4, 9, 8, 7, 14, 13, 12], [16, 15, 11, 10, 6, 5, 3, 2, 1, 0, 4, 9, 8, 7, 14, 13, 12], [19, 16, 15, 11, 10, 6, 5, 3, 2, 1, 0, 4, 9, 8, 7, 14, 13, 12], [20, 19, 16, 15, 11, 10, 6, 5, 3, 2, 1, 0, 4, 9, 8, 7, 14, 13, 12], [18, 17, 16, 15, 11, 10, 6, 5, 3, 2, 1, 0, 4, 9, 8, 7, 14, 13, 12, 21, 20, 19], [16, 15, 11, 10, 6, 5, 3, 2, 1, 0, 4, 9, 8, 7, 14, 13, 12, 22, 18, 17, 21, 20, 19], [23, 16, 15, 11, 10, 6, 5, 3, 2, 1, 0, 4, 9, 8, 7, 14, 13, 12, 22, 18, 17, 21, 20, 19]], [], [], []⟩] [] [] [] [] [(decide (a0.fState ≥ (1 : Int))) = true, SCall Try.prog 146 [.agg (T_api_End.c a0.fEnd)] (.one (.lit (.bool x1))), x1 = true, (decide (a0.fState ≤ (3 : Int))) = true, (decide (a0.fFails ≥ (0 : Int))) = true, (decide (a0.fFails ≤ (1000 : Int))) = false] (by kernel_rfl) rfl ⟨h1, (g_endp_Right_ok a0.fEnd x1 q2), h3, h4, h5, h6, trivial⟩
        · replace hf := Option.some.inj hf
          subst hf
          exact toEnd_good allOk 6 _ _ [⟨[], [], [], [], [], [], []⟩, ⟨[], [(3, true)], [], [], [], [], []⟩, ⟨[(2, .r (.one (.lit (.bool x1))) [])], [(3, true), (6, true), (11, false)], [], [[], [0], [1, 0], [2, 1, 0], [3, 2, 1, 0], [3, 2, 1, 0, 4], [5, 3, 2, 1, 0, 4], [6, 5, 3, 2, 1, 0, 4], [7, 6, 5, 3, 2, 1, 0, 4], [8, 7, 6, 5, 3, 2, 1, 0, 4], [6, 5, 3, 2, 1, 0, 4, 9, 8, 7], [10, 6, 5, 3, 2, 1, 0, 4, 9, 8, 7], [11, 10, 6, 5, 3, 2, 1, 0, 4, 9, 8, 7], [12, 11, 10, 6, 5, 3, 2, 1, 0, 4, 9, 8, 7], [13, 12, 11, 10, 6, 5, 3, 2, 1, 0, 4, 9, 8, 7], [11, 10, 6, 5, 3, 2, 1, 0, 4, 9, 8, 7, 14, 13, 12], [15, 11, 10, 6, 5, 3, 2, 1, 0, 4, 9, 8, 7, 14, 13, 12], [16, 15, 11, 10, 6, 5, 3, 2, 1, 0, 4, 9, 8, 7, 14, 13, 12], [17, 16, 15, 11, 10, 6, 5, 3, 2, 1, 0, 4, 9, 8, 7, 14, 13, 12], [16, 15, 11, 10, 6, 5, 3, 2, 1, 0, 4, 9, 8, 7, 14, 13, 12], [19, 16, 15, 11, 10, 6, 5, 3, 2, 1, 0, 4, 9, 8, 7, 14, 13, 12], [20, 19, 16, 15, 11, 10, 6, 5, 3, 2, 1, 0, 4, 9, 8, 7, 14, 13, 12], [18, 17, 16, 15, 11, 10, 6, 5, 3, 2, 1, 0, 4, 9, 8, 7, 14, 13, 12, 21, 20, 19], [16, 15, 11, 10, 6, 5, 3, 2, 1, 0, 4, 9, 8, 7, 14, 13, 12, 22, 18, 17, 21, 20, 19], [23, 16, 15, 11, 10, 6, 5, 3, 2, 1, 0, 4, 9, 8, 7, 14, 13, 12, 22, 18, 17, 21, 20, 19]], [], [], []⟩] [] [] [] [] [(decide (a0.fState ≥ (1 : Int))) = true, SCall Try.prog 146 [.agg (T_api_End.c a0.fEnd)] (.one (.lit (.bool x1))), x1 = true, (decide (a0.fState ≤ (3 : Int))) = true, (decide (a0.fFails ≥ (0 : Int))) = false] (by kernel_rfl) rfl ⟨h1, (g_endp_Right_ok a0.fEnd x1 q2), h3, h4, h5, trivial⟩
      · replace hf := Option.some.inj hf
        subst hf
        exact toEnd_good allOk 6 _ _ [⟨[], [], [], [], [], [], []⟩, ⟨[], [(3, true)], [], [], [], [], []⟩, ⟨[(2, .r (.one (.lit (.bool x1))) [])], [(3, true), (6, false)], [], [[], [0], [1, 0], [2, 1, 0], [3, 2, 1, 0], [3, 2, 1, 0, 4], [5, 3, 2, 1, 0, 4], [6, 5, 3, 2, 1, 0, 4], [7, 6, 5, 3, 2, 1, 0, 4], [8, 7, 6, 5, 3, 2, 1, 0, 4], [6, 5, 3, 2, 1, 0, 4, 9, 8, 7], [10, 6, 5, 3, 2, 1, 0, 4, 9, 8, 7], [11, 10, 6, 5, 3, 2, 1, 0, 4, 9, 8, 7], [12, 11, 10, 6, 5, 3, 2, 1, 0, 4, 9, 8, 7], [13, 12, 11, 10, 6, 5, 3, 2, 1, 0, 4, 9, 8, 7], [11, 10, 6, 5, 3, 2, 1, 0, 4, 9, 8, 7, 14, 13, 12], [15, 11, 10, 6, 5, 3, 2, 1, 0, 4, 9, 8, 7, 14, 13, 12], [16, 15, 11, 10, 6, 5, 3, 2, 1, 0, 4, 9, 8, 7, 14, 13, 12], [17, 16, 15, 11, 10, 6, 5, 3, 2, 1, 0, 4, 9, 8, 7, 14, 13, 12], [16, 15, 11, 10, 6, 5, 3, 2, 1, 0, 4, 9, 8, 7, 14, 13, 12], [19, 16, 15, 11, 10, 6, 5, 3, 2, 1, 0, 4, 9, 8, 7, 14, 13, 12], [20, 19, 16, 15, 11, 10, 6, 5, 3, 2, 1, 0, 4, 9, 8, 7, 14, 13, 12], [18, 17, 16, 15, 11, 10, 6, 5, 3, 2, 1, 0, 4, 9, 8, 7, 14, 13, 12, 21, 20, 19], [16, 15, 11, 10, 6, 5, 3, 2, 1, 0, 4, 9, 8, 7, 14, 13, 12, 22, 18, 17, 21, 20, 19], [23, 16, 15, 11, 10, 6, 5, 3, 2, 1, 0, 4, 9, 8, 7, 14, 13, 12, 22, 18, 17, 21, 20, 19]], [], [], []⟩] [] [] [] [] [(decide (a0.fState ≥ (1 : Int))) = true, SCall Try.prog 146 [.agg (T_api_End.c a0.fEnd)] (.one (.lit (.bool x1))), x1 = true, (decide (a0.fState ≤ (3 : Int))) = false] (by kernel_rfl) rfl ⟨h1, (g_endp_Right_ok a0.fEnd x1 q2), h3, h4, trivial⟩
    · replace hf := Option.some.inj hf
      subst hf
      exact toEnd_good allOk 6 _ _ [⟨[], [], [], [], [], [], []⟩, ⟨[], [(3, true)], [], [], [], [], []⟩, ⟨[(2, .r (.one (.lit (.bool x1))) [])], [(3, false)], [], [[], [0], [1, 0], [2, 1, 0], [3, 2, 1, 0], [3, 2, 1, 0, 4], [5, 3, 2, 1, 0, 4], [6, 5, 3, 2, 1, 0, 4], [7, 6, 5, 3, 2, 1, 0, 4], [8, 7, 6, 5, 3, 2, 1, 0, 4], [6, 5, 3, 2, 1, 0, 4, 9, 8, 7], [10, 6, 5, 3, 2, 1, 0, 4, 9, 8, 7], [11, 10, 6, 5, 3, 2, 1, 0, 4, 9, 8, 7], [12, 11, 10, 6, 5, 3, 2, 1, 0, 4, 9, 8, 7], [13, 12, 11, 10, 6, 5, 3, 2, 1, 0, 4, 9, 8, 7], [11, 10, 6, 5, 3, 2, 1, 0, 4, 9, 8, 7, 14, 13, 12], [15, 11, 10, 6, 5, 3, 2, 1, 0, 4, 9, 8, 7, 14, 13, 12], [16, 15, 11, 10, 6, 5, 3, 2, 1, 0, 4, 9, 8, 7, 14, 13, 12], [17, 16, 15, 11, 10, 6, 5, 3, 2, 1, 0, 4, 9, 8, 7, 14, 13, 12], [16, 15, 11, 10, 6, 5, 3, 2, 1, 0, 4, 9, 8, 7, 14, 13, 12], [19, 16, 15, 11, 10, 6, 5, 3, 2, 1, 0, 4, 9, 8, 7, 14, 13, 12], [20, 19, 16, 15, 11, 10, 6, 5, 3, 2, 1, 0, 4, 9, 8, 7, 14, 13, 12], [18, 17, 16, 15, 11, 10, 6, 5, 3, 2, 1, 0, 4, 9, 8, 7, 14, 13, 12, 21, 20, 19], [16, 15, 11, 10, 6, 5, 3, 2, 1, 0, 4, 9, 8, 7, 14, 13, 12, 22, 18, 17, 21, 20, 19], [23, 16, 15, 11, 10, 6, 5, 3, 2, 1, 0, 4, 9, 8, 7, 14, 13, 12, 22, 18, 17, 21, 20, 19]], [], [], []⟩] [] [] [] [] [(decide (a0.fState ≥ (1 : Int))) = true, SCall Try.prog 146 [.agg (T_api_End.c a0.fEnd)] (.one (.lit (.bool x1))), x1 = false] (by kernel_rfl) rfl ⟨h1, (g_endp_Right_ok a0.fEnd x1 q2), h3, trivial⟩
  · obtain ⟨x3, q8, hf⟩ := bind_some' hf
    rcases br_some hf with ⟨h9, hf⟩ | ⟨h9, hf⟩
    · replace hf := Option.some.inj hf
      subst hf
      exact toEnd_good allOk 6 _ _ [⟨[], [], [], [], [], [], []⟩, ⟨[], [(3, false)], [], [], [], [], []⟩, ⟨[(2, .r (.one (.lit (.bool x3))) [])], [(3, true)], [], [[], [0], [1, 0], [2, 1, 0], [3, 2, 1, 0], [3, 2, 1, 0, 4], [5, 3, 2, 1, 0, 4], [6, 5, 3, 2, 1, 0, 4], [7, 6, 5, 3, 2, 1, 0, 4], [8, 7, 6, 5, 3, 2, 1, 0, 4], [6, 5, 3, 2, 1, 0, 4, 9, 8, 7], [10, 6, 5, 3, 2, 1, 0, 4, 9, 8, 7], [11, 10, 6, 5, 3, 2, 1, 0, 4, 9, 8, 7], [12, 11, 10, 6, 5, 3, 2, 1, 0, 4, 9, 8, 7], [13, 12, 11, 10, 6, 5, 3, 2, 1, 0, 4, 9, 8, 7], [11, 10, 6, 5, 3, 2, 1, 0, 4, 9, 8, 7, 14, 13, 12], [15, 11, 10, 6, 5, 3, 2, 1, 0, 4, 9, 8, 7, 14, 13, 12], [16, 15, 11, 10, 6, 5, 3, 2, 1, 0, 4, 9, 8, 7, 14, 13, 12], [17, 16, 15, 11, 10, 6, 5, 3, 2, 1, 0, 4, 9, 8, 7, 14, 13, 12], [16, 15, 11, 10, 6, 5, 3, 2, 1, 0, 4, 9, 8, 7, 14, 13, 12], [19, 16, 15, 11, 10, 6, 5, 3, 2, 1, 0, 4, 9, 8, 7, 14, 13, 12], [20, 19, 16, 15, 11, 10, 6, 5, 3, 2, 1, 0, 4, 9, 8, 7, 14, 13, 12], [18, 17, 16, 15, 11, 10, 6, 5, 3, 2, 1, 0, 4, 9, 8, 7, 14, 13, 12, 21, 20, 19], [16, 15, 11, 10, 6, 5, 3, 2, 1, 0, 4, 9, 8, 7, 14, 13, 12, 22, 18, 17, 21, 20, 19], [23, 16, 15, 11, 10, 6, 5, 3, 2, 1, 0, 4, 9, 8, 7, 14, 13, 12, 22, 18, 17, 21, 20, 19]], [], [], []⟩] [] [] [] [] [(decide (a0.fState ≥ (1 : Int))) = false, SCall Try.prog 146 [.agg (T_api_End.c a0.fEnd)] (.one (.lit (.bool x3))), x3 = true] (by kernel_rfl) rfl ⟨h1, (g_endp_Right_ok a0.fEnd x3 q8), h9, trivial⟩
    · replace hf := Option.some.inj hf
      subst hf
      exact toEnd_good allOk 6 _ _ [⟨[], [], [], [], [], [], []⟩, ⟨[], [(3, false)], [], [], [], [], []⟩, ⟨[(2, .r (.one (.lit (.bool x3))) [])], [(3, false)], [], [[], [0], [1, 0], [2, 1, 0], [3, 2, 1, 0], [3, 2, 1, 0, 4], [5, 3, 2, 1, 0, 4], [6, 5, 3, 2, 1, 0, 4], [7, 6, 5, 3, 2, 1, 0, 4], [8, 7, 6, 5, 3, 2, 1, 0, 4], [6, 5, 3, 2, 1, 0, 4, 9, 8, 7], [10, 6, 5, 3, 2, 1, 0, 4, 9, 8, 7], [11, 10, 6, 5, 3, 2, 1, 0, 4, 9, 8, 7], [12, 11, 10, 6, 5, 3, 2, 1, 0, 4, 9, 8, 7], [13, 12, 11, 10, 6, 5, 3, 2, 1, 0, 4, 9, 8, 7], [11, 10, 6, 5, 3, 2, 1, 0, 4, 9, 8, 7, 14, 13, 12], [15, 11, 10, 6, 5, 3, 2, 1, 0, 4, 9, 8, 7, 14, 13, 12], [16, 15, 11, 10, 6, 5, 3, 2, 1, 0, 4, 9, 8, 7, 14, 13, 12], [17, 16, 15, 11, 10, 6, 5, 3, 2, 1, 0, 4, 9, 8, 7, 14, 13, 12], [16, 15, 11, 10, 6, 5, 3, 2, 1, 0, 4, 9, 8, 7, 14, 13, 12], [19, 16, 15, 11, 10, 6, 5, 3, 2, 1, 0, 4, 9, 8, 7, 14, 13, 12], [20, 19, 16, 15, 11, 10, 6, 5, 3, 2, 1, 0, 4, 9, 8, 7, 14, 13, 12], [18, 17, 16, 15, 11, 10, 6, 5, 3, 2, 1, 0, 4, 9, 8, 7, 14, 13, 12, 21, 20, 19], [16, 15, 11, 10, 6, 5, 3, 2, 1, 0, 4, 9, 8, 7, 14, 13, 12, 22, 18, 17, 21, 20, 19], [23, 16, 15, 11, 10, 6, 5, 3, 2, 1, 0, 4, 9, 8, 7, 14, 13, 12, 22, 18, 17, 21, 20, 19]], [], [], []⟩] [] [] [] [] [(decide (a0.fState ≥ (1 : Int))) = false, SCall Try.prog 146 [.agg (T_api_End.c a0.fEnd)] (.one (.lit (.bool x3))), x3 = false] (by kernel_rfl) rfl ⟨h1, (g_endp_Right_ok a0.fEnd x3 q8), h9, trivial⟩

/-- slices.Clone[[]doorman/heap.Item,doorman/heap.Item] -/
def g_slices_Clone_doorman_heap_Item_doorman_heap_Item_n (a0 : (List T_heap_Item)) : Option (List T_heap_Item) :=
  need (0 < a0.length) <|
  need ((([] : List T_heap_Item) ++ a0).length * 40 ≤ 140737488355328 ∧ (([] : List T_heap_Item) ++ a0).length ≤ maxLen) <|
  some (([] : List T_heap_Item) ++ a0)

theorem g_slices_Clone_doorman_heap_Item_doorman_heap_Item_n_own (a0 : (List T_heap_Item)) (r : (List T_heap_Item)) (hf : g_slices_Clone_doorman_heap_Item_doorman_heap_Item_n a0 = some r) : HCall Try.prog 141 [] [.one (cL 5 T_heap_Item.c T_heap_Item.d a0)] [(99999, .rows 186 5 r.length (rowsOf T_heap_Item.c T_heap_Item.d r))] (.one (.osl 99999 r.length)) := by
  refine HCall.of Try.func141 rfl rfl rfl rfl fun S0 w0 => ?_
  unfold g_slices_Clone_doorman_heap_Item_doorman_heap_Item_n at hf
  obtain ⟨o1, hf⟩ := need_some hf
  obtain ⟨o2, hf⟩ := need_some hf
  replace hf := Option.some.inj hf
  subst hf
  exact toEndH_good allOk 9 _ _ [⟨[], [], [], [], [], [], []⟩, ⟨[], [], [], [], [], [], []⟩, ⟨[(0, .c ([] : List T_heap_Item).length (rowsOf T_heap_Item.c T_heap_Item.d ([] : List T_heap_Item))), (2, .c ((([] : List T_heap_Item) ++ a0).length) (rowsOf T_heap_Item.c T_heap_Item.d (([] : List T_heap_Item) ++ a0)))], [], [], [], [], [], []⟩] [false] ⟨[], [], [], [], [], [2], [7], [(7, 99999)]⟩ [0 < a0.length, false = false, ([] : List T_heap_Item).length = 0, ∀ i j, i < 0 → j < 5 → rowsOf T_heap_Item.c T_heap_Item.d ([] : List T_heap_Item) i j = (([] : List T_heap_Item).flatMap T_heap_Item.c).getD (i * 5 + j) .junk, Ext 5 (([] : List T_heap_Item).length) a0.length (rowsOf T_heap_Item.c T_heap_Item.d ([] : List T_heap_Item)) (rowsOf T_heap_Item.c T_heap_Item.d a0) ((([] : List T_heap_Item) ++ a0).length) (rowsOf T_heap_Item.c T_heap_Item.d (([] : List T_heap_Item) ++ a0)), (([] : List T_heap_Item) ++ a0).length * 40 ≤ 140737488355328, (([] : List T_heap_Item) ++ a0).length ≤ maxLen] (by kernel_rfl) ⟨o1, rfl, rfl, (fun i j hi hj => rows_flat (sz := 5) (e := T_heap_Item.c) (d := T_heap_Item.d) (fun _ => rfl) ([] : List T_heap_Item) i j hi hj), (ext_app _ _), o2.1, o2.2, trivial⟩

theorem g_slices_Clone_doorman_heap_Item_doorman_heap_Item_n_ok (a0 : (List T_heap_Item)) (r : (List T_heap_Item)) (hf : g_slices_Clone_doorman_heap_Item_doorman_heap_Item_n a0 = some r) : SCall Try.prog 141 [.one (cL 5 T_heap_Item.c T_heap_Item.d a0)] (.one (cL 5 T_heap_Item.c T_heap_Item.d r)) := (g_slices_Clone_doorman_heap_Item_doorman_heap_Item_n_own a0 r hf).pure

theorem g_slices_Clone_doorman_heap_Item_doorman_heap_Item_lit (x : Addr) (cap : Nat) (c : Nat → Nat → C) : HCall Try.prog 141 [] [.one (.lit (.slice (some x) 0 cap))] [(99999, .rows 186 5 0 c)] (.one (.osl 99999 0)) := by
  refine HCall.of Try.func141 rfl rfl rfl rfl fun S0 w0 => ?_
  exact toEndH_good allOk 9 _ _ [⟨[], [], [], [], [], [], []⟩, ⟨[(1, .r (.one (.lit (.bool false))) [])], [], [], [], [], [], []⟩, ⟨[(0, .c 0 c), (2, .c 0 c)], [], [], [], [], [], []⟩] [false] ⟨[], [], [], [], [], [2], [7], [(7, 99999)]⟩
    [∀ w, (do eqGuard .eql 183 (.tmp 3) (.const (.slice none 0 0)) (.slice (some x) 0 cap) (.slice none 0 0); binOp .eql 183 (.slice (some x) 0 cap) (.slice none 0 0) : Sem Value).run Try.prog w = .ok (.bool false) w, false = false, 0 = 0, ∀ i j, i < 0 → j < 5 → c i j = ([] : List C).getD (i * 5 + j) .junk, Ext 5 0 0 c (fun _ _ => .junk) 0 c, 0 * 40 ≤ 140737488355328, 0 ≤ maxLen] (by kernel_rfl) ⟨fun w => by
      have hg : (eqGuard .eql 183 (.tmp 3) (.const (.slice none 0 0)) (.slice (some x) 0 cap) (.slice none 0 0)).run Try.prog w = .ok () w := by simp [eqGuard]
      rw [Sem.run_bind, hg, Result.andThen_ok]
      exact Go.run_eql_slice_nil w _ _ (some x) 0 cap Try.underlying183, rfl, rfl, fun i j h => absurd h (Nat.not_lt_zero i), ⟨rfl, fun _ _ h => absurd h (Nat.not_lt_zero _), fun _ _ h => absurd h (Nat.not_lt_zero _)⟩, by decide, by decide, trivial⟩

theorem g_slices_Clone_doorman_heap_Item_doorman_heap_Item_nil (cap : Nat) (c : Nat → Nat → C) : HCall Try.prog 141 [] [.one (.lit (.slice none 0 cap))] [(99999, .rows 186 5 0 c)] (.one (.osl 99999 0)) := by
  refine HCall.of Try.func141 rfl rfl rfl rfl fun S0 w0 => ?_
  exact toEndH_good allOk 8 _ _ [⟨[], [], [], [], [], [], []⟩, ⟨[(1, .r (.one (.lit (.bool true))) [])], [], [], [], [], [], []⟩, ⟨[], [], [], [], [], [], []⟩] [true] ⟨[], [], [], [], [(2, 99999, 186, 5, c)], [2], [99999], []⟩
    [∀ w, (do eqGuard .eql 183 (.tmp 3) (.const (.slice none 0 0)) (.slice none 0 cap) (.slice none 0 0); binOp .eql 183 (.slice none 0 cap) (.slice none 0 0) : Sem Value).run Try.prog w = .ok (.bool true) w, true = true] (by kernel_rfl) ⟨fun w => by
      have hg : (eqGuard .eql 183 (.tmp 3) (.const (.slice none 0 0)) (.slice none 0 cap) (.slice none 0 0)).run Try.prog w = .ok () w := by simp [eqGuard]
      rw [Sem.run_bind, hg, Result.andThen_ok]
      exact Go.run_eql_slice_nil w _ _ none 0 cap Try.underlying183, rfl, trivial⟩

/-- slices.Clone[[]doorman/heap.Item,doorman/heap.Item] -/
def g_slices_Clone_doorman_heap_Item_doorman_heap_Item (a0 : List T_heap_Item) : Option (List T_heap_Item) :=
  need (a0.length * 40 ≤ 140737488355328 ∧ a0.length ≤ maxLen) <|
  some a0

theorem g_slices_Clone_doorman_heap_Item_doorman_heap_Item_own (a0 : List T_heap_Item) (r : List T_heap_Item) (hf : g_slices_Clone_doorman_heap_Item_doorman_heap_Item a0 = some r) : HCall Try.prog 141 [] [.one (cL 5 T_heap_Item.c T_heap_Item.d a0)] [(99999, .rows 186 5 r.length (rowsOf T_heap_Item.c T_heap_Item.d r))] (.one (.osl 99999 r.length)) := by
  obtain ⟨o1, hf⟩ := need_some hf
  cases hf
  refine clone_parts ⟨_, Try.func141, rfl, rfl⟩ (fun h cap => ?_) (fun h x cap => ?_) (fun h => ?_)
  · rw [h]; exact g_slices_Clone_doorman_heap_Item_doorman_heap_Item_nil cap _
  · rw [h]; exact g_slices_Clone_doorman_heap_Item_doorman_heap_Item_lit x cap _
  · refine g_slices_Clone_doorman_heap_Item_doorman_heap_Item_n_own a0 a0 ?_
    unfold g_slices_Clone_doorman_heap_Item_doorman_heap_Item_n
    rw [need_pos h, need_pos (by simpa using o1)]
    simp

theorem g_slices_Clone_doorman_heap_Item_doorman_heap_Item_ok (a0 : List T_heap_Item) (r : List T_heap_Item) (hf : g_slices_Clone_doorman_heap_Item_doorman_heap_Item a0 = some r) : SCall Try.prog 141 [.one (cL 5 T_heap_Item.c T_heap_Item.d a0)] (.one (cL 5 T_heap_Item.c T_heap_Item.d r)) := (g_slices_Clone_doorman_heap_Item_doorman_heap_Item_own a0 r hf).pure

/-- cmp.isNaN[int] -/
def g_cmp_isNaN_int (a0 : Int) : Option Bool :=
  some (a0 != a0)

theorem g_cmp_isNaN_int_ok (a0 : Int) (r : Bool) (hf : g_cmp_isNaN_int a0 = some r) : SCall Try.prog 179 [.one (.lit (.int .i64 a0))] (.one (.lit (.bool r))) := by
  refine SCall.of Try.func179 rfl rfl rfl rfl fun S0 w0 => ?_
  unfold g_cmp_isNaN_int at hf
  replace hf := Option.some.inj hf
  subst hf
  exact toEnd_good allOk 4 _ _ [⟨[], [], [], [], [], [], []⟩, ⟨[], [], [], [], [], [], []⟩] [] [] [] [] [] (by kernel_rfl) rfl trivial

/-- cmp.Compare[int] -/
def g_cmp_Compare_int (a0 : Int) (a1 : Int) : Option Int :=
  (g_cmp_isNaN_int a0).bind fun x1 =>
  (g_cmp_isNaN_int a1).bind fun x2 =>
  bif x1 then
    bif x2 then
      some (0 : Int)
    else
      some (-1 : Int)
  else
    bif x2 then
      some (1 : Int)
    else
      bif (decide (a0 < a1)) then
        some (-1 : Int)
      else
        bif (decide (a0 > a1)) then
          some (1 : Int)
        else
          some (0 : Int)

theorem g_cmp_Compare_int_ok (a0 : Int) (a1 : Int) (r : Int) (hf : g_cmp_Compare_int a0 a1 = some r) : SCall Try.prog 174 [.one (.lit (.int .i64 a0)), .one (.lit (.int .i64 a1))] (.one (.lit (.int .i64 r))) := by
  refine SCall.of Try.func174 rfl rfl rfl rfl fun S0 w0 => ?_
  unfold g_cmp_Compare_int at hf
  obtain ⟨x1, q1, hf⟩ := bind_some' hf
  obtain ⟨x2, q2, hf⟩ := bind_some' hf
  rcases br_some hf with ⟨h3, hf⟩ | ⟨h3, hf⟩
  · rcases br_some hf with ⟨h4, hf⟩ | ⟨h4, hf⟩
    · replace hf := Option.some.inj hf
      subst hf
      exact toEnd_good allOk 16 _ _ [⟨[], [], [], [], [], [], []⟩, ⟨[(1, .r (.one (.lit (.bool x1))) [])], [], [], [], [], [], []⟩, ⟨[(1, .r (.one (.lit (.bool x2))) [])], [], [], [], [], [], []⟩, ⟨[], [], [], [], [], [], []⟩, ⟨[], [], [], [], [], [], []⟩, ⟨[], [], [], [], [], [], []⟩] [true, true] [] [] [] [SCall Try.prog 179 [.one (.lit (.int .i64 a0))] (.one (.lit (.bool x1))), SCall Try.prog 179 [.one (.lit (.int .i64 a1))] (.one (.lit (.bool x2))), x1 = true, x2 = true] (by kernel_rfl) rfl ⟨(g_cmp_isNaN_int_ok a0 x1 q1), (g_cmp_isNaN_int_ok a1 x2 q2), h3, h4, trivial⟩
    · replace hf := Option.some.inj hf
      subst hf
      exact toEnd_good allOk 17 _ _ [⟨[], [], [], [], [], [], []⟩, ⟨[(1, .r (.one (.lit (.bool x1))) [])], [], [], [], [], [], []⟩, ⟨[(1, .r (.one (.lit (.bool x2))) [])], [], [], [], [], [], []⟩, ⟨[], [], [], [], [], [], []⟩, ⟨[], [], [], [], [], [], []⟩, ⟨[], [], [], [], [], [], []⟩] [true, false] [] [] [] [SCall Try.prog 179 [.one (.lit (.int .i64 a0))] (.one (.lit (.bool x1))), SCall Try.prog 179 [.one (.lit (.int .i64 a1))] (.one (.lit (.bool x2))), x1 = true, x2 = false] (by kernel_rfl) rfl ⟨(g_cmp_isNaN_int_ok a0 x1 q1), (g_cmp_isNaN_int_ok a1 x2 q2), h3, h4, trivial⟩
  · rcases br_some hf with ⟨h5, hf⟩ | ⟨h5, hf⟩
    · replace hf := Option.some.inj hf
      subst hf
      exact toEnd_good allOk 17 _ _ [⟨[], [], [], [], [], [], []⟩, ⟨[(1, .r (.one (.lit (.bool x1))) [])], [], [], [], [], [], []⟩, ⟨[(1, .r (.one (.lit (.bool x2))) [])], [], [], [], [], [], []⟩, ⟨[], [], [], [], [], [], []⟩, ⟨[], [], [], [], [], [], []⟩, ⟨[], [], [], [], [], [], []⟩] [false, true] [] [] [] [SCall Try.prog 179 [.one (.lit (.int .i64 a0))] (.one (.lit (.bool x1))), SCall Try.prog 179 [.one (.lit (.int .i64 a1))] (.one (.lit (.bool x2))), x1 = false, x2 = true] (by kernel_rfl) rfl ⟨(g_cmp_isNaN_int_ok a0 x1 q1), (g_cmp_isNaN_int_ok a1 x2 q2), h3, h5, trivial⟩
    · rcases br_some hf with ⟨h6, hf⟩ | ⟨h6, hf⟩
      · replace hf := Option.some.inj hf
        subst hf
        exact toEnd_good allOk 22 _ _ [⟨[], [], [], [], [], [], []⟩, ⟨[(1, .r (.one (.lit (.bool x1))) [])], [], [], [], [], [], []⟩, ⟨[(1, .r (.one (.lit (.bool x2))) [])], [], [], [], [], [], []⟩, ⟨[], [], [], [], [], [], []⟩, ⟨[], [], [], [], [], [], []⟩, ⟨[], [], [], [], [], [], []⟩, ⟨[], [], [], [], [], [], []⟩] [false, false, true] [] [] [] [SCall Try.prog 179 [.one (.lit (.int .i64 a0))] (.one (.lit (.bool x1))), SCall Try.prog 179 [.one (.lit (.int .i64 a1))] (.one (.lit (.bool x2))), x1 = false, x2 = false, (decide (a0 < a1)) = true] (by kernel_rfl) rfl ⟨(g_cmp_isNaN_int_ok a0 x1 q1), (g_cmp_isNaN_int_ok a1 x2 q2), h3, h5, h6, trivial⟩
      · rcases br_some hf with ⟨h7, hf⟩ | ⟨h7, hf⟩
        · replace hf := Option.some.inj hf
          subst hf
          exact toEnd_good allOk 27 _ _ [⟨[], [], [], [], [], [], []⟩, ⟨[(1, .r (.one (.lit (.bool x1))) [])], [], [], [], [], [], []⟩, ⟨[(1, .r (.one (.lit (.bool x2))) [])], [], [], [], [], [], []⟩, ⟨[], [], [], [], [], [], []⟩, ⟨[], [], [], [], [], [], []⟩, ⟨[], [], [], [], [], [], []⟩, ⟨[], [], [], [], [], [], []⟩, ⟨[], [], [], [], [], [], []⟩] [false, false, false, true] [] [] [] [SCall Try.prog 179 [.one (.lit (.int .i64 a0))] (.one (.lit (.bool x1))), SCall Try.prog 179 [.one (.lit (.int .i64 a1))] (.one (.lit (.bool x2))), x1 = false, x2 = false, (decide (a0 < a1)) = false, (decide (a0 > a1)) = true] (by kernel_rfl) rfl ⟨(g_cmp_isNaN_int_ok a0 x1 q1), (g_cmp_isNaN_int_ok a1 x2 q2), h3, h5, h6, h7, trivial⟩
        · replace hf := Option.some.inj hf
          subst hf
          exact toEnd_good allOk 28 _ _ [⟨[], [], [], [], [], [], []⟩, ⟨[(1, .r (.one (.lit (.bool x1))) [])], [], [], [], [], [], []⟩, ⟨[(1, .r (.one (.lit (.bool x2))) [])], [], [], [], [], [], []⟩, ⟨[], [], [], [], [], [], []⟩, ⟨[], [], [], [], [], [], []⟩, ⟨[], [], [], [], [], [], []⟩, ⟨[], [], [], [], [], [], []⟩, ⟨[], [], [], [], [], [], []⟩] [false, false, false, false] [] [] [] [SCall Try.prog 179 [.one (.lit (.int .i64 a0))] (.one (.lit (.bool x1))), SCall Try.prog 179 [.one (.lit (.int .i64 a1))] (.one (.lit (.bool x2))), x1 = false, x2 = false, (decide (a0 < a1)) = false, (decide (a0 > a1)) = false] (by kernel_rfl) rfl ⟨(g_cmp_isNaN_int_ok a0 x1 q1), (g_cmp_isNaN_int_ok a1 x2 q2), h3, h5, h6, h7, trivial⟩

/-- doorman/addr.family -/
def g_addr_family (a0 : T_api_Addr) : Option Int :=
  bif a0.fV6 then
    some (1 : Int)
  else
    some (0 : Int)

theorem g_addr_family_ok (a0 : T_api_Addr) (r : Int) (hf : g_addr_family a0 = some r) : SCall Try.prog 189 [.agg (T_api_Addr.c a0)] (.one (.lit (.int .i64 r))) := by
  refine SCall.of Try.func189 rfl rfl rfl rfl fun S0 w0 => ?_
  unfold g_addr_family at hf
  rcases br_some hf with ⟨h1, hf⟩ | ⟨h1, hf⟩
  · replace hf := Option.some.inj hf
    subst hf
    exact toEnd_good allOk 8 _ _ [⟨[], [], [], [], [], [], []⟩, ⟨[], [], [], [], [], [], []⟩, ⟨[], [], [], [], [], [], []⟩] [true] [] [] [] [a0.fV6 = true] (by kernel_rfl) rfl ⟨h1, trivial⟩
  · replace hf := Option.some.inj hf
    subst hf
    exact toEnd_good allOk 9 _ _ [⟨[], [], [], [], [], [], []⟩, ⟨[], [], [], [], [], [], []⟩, ⟨[], [], [], [], [], [], []⟩] [false] [] [] [] [a0.fV6 = false] (by kernel_rfl) rfl ⟨h1, trivial⟩

/-- cmp.isNaN[uint64] -/
def g_cmp_isNaN_uint64 (a0 : Int) : Option Bool :=
  some (a0 != a0)

theorem g_cmp_isNaN_uint64_ok (a0 : Int) (r : Bool) (hf : g_cmp_isNaN_uint64 a0 = some r) : SCall Try.prog 196 [.one (.lit (.int .u64 a0))] (.one (.lit (.bool r))) := by
  refine SCall.of Try.func196 rfl rfl rfl rfl fun S0 w0 => ?_
  unfold g_cmp_isNaN_uint64 at hf
  replace hf := Option.some.inj hf
  subst hf
  exact toEnd_good allOk 4 _ _ [⟨[], [], [], [], [], [], []⟩, ⟨[], [], [], [], [], [], []⟩] [] [] [] [] [] (by kernel_rfl) rfl trivial

/-- cmp.Compare[uint64] -/
def g_cmp_Compare_uint64 (a0 : Int) (a1 : Int) : Option Int :=
  (g_cmp_isNaN_uint64 a0).bind fun x1 =>
  (g_cmp_isNaN_uint64 a1).bind fun x2 =>
  bif x1 then
    bif x2 then
      some (0 : Int)
    else
      some (-1 : Int)
  else
    bif x2 then
      some (1 : Int)
    else
      bif (decide (a0 < a1)) then
        some (-1 : Int)
      else
        bif (decide (a0 > a1)) then
          some (1 : Int)
        else
          some (0 : Int)

theorem g_cmp_Compare_uint64_ok (a0 : Int) (a1 : Int) (r : Int) (hf : g_cmp_Compare_uint64 a0 a1 = some r) : SCall Try.prog 190 [.one (.lit (.int .u64 a0)), .one (.lit (.int .u64 a1))] (.one (.lit (.int .i64 r))) := by
  refine SCall.of Try.func190 rfl rfl rfl rfl fun S0 w0 => ?_
  unfold g_cmp_Compare_uint64 at hf
  obtain ⟨x1, q1, hf⟩ := bind_some' hf
  obtain ⟨x2, q2, hf⟩ := bind_some' hf
  rcases br_some hf with ⟨h3, hf⟩ | ⟨h3, hf⟩
  · rcases br_some hf with ⟨h4, hf⟩ | ⟨h4, hf⟩
    · replace hf := Option.some.inj hf
      subst hf
      exact toEnd_good allOk 16 _ _ [⟨[], [], [], [], [], [], []⟩, ⟨[(1, .r (.one (.lit (.bool x1))) [])], [], [], [], [], [], []⟩, ⟨[(1, .r (.one (.lit (.bool x2))) [])], [], [], [], [], [], []⟩, ⟨[], [], [], [], [], [], []⟩, ⟨[], [], [], [], [], [], []⟩, ⟨[], [], [], [], [], [], []⟩] [true, true] [] [] [] [SCall Try.prog 196 [.one (.lit (.int .u64 a0))] (.one (.lit (.bool x1))), SCall Try.prog 196 [.one (.lit (.int .u64 a1))] (.one (.lit (.bool x2))), x1 = true, x2 = true] (by kernel_rfl) rfl ⟨(g_cmp_isNaN_uint64_ok a0 x1 q1), (g_cmp_isNaN_uint64_ok a1 x2 q2), h3, h4, trivial⟩
    · replace hf := Option.some.inj hf
      subst hf
      exact toEnd_good allOk 17 _ _ [⟨[], [], [], [], [], [], []⟩, ⟨[(1, .r (.one (.lit (.bool x1))) [])], [], [], [], [], [], []⟩, ⟨[(1, .r (.one (.lit (.bool x2))) [])], [], [], [], [], [], []⟩, ⟨[], [], [], [], [], [], []⟩, ⟨[], [], [], [], [], [], []⟩, ⟨[], [], [], [], [], [], []⟩] [true, false] [] [] [] [SCall Try.prog 196 [.one (.lit (.int .u64 a0))] (.one (.lit (.bool x1))), SCall Try.prog 196 [.one (.lit (.int .u64 a1))] (.one (.lit (.bool x2))), x1 = true, x2 = false] (by kernel_rfl) rfl ⟨(g_cmp_isNaN_uint64_ok a0 x1 q1), (g_cmp_isNaN_uint64_ok a1 x2 q2), h3, h4, trivial⟩
  · rcases br_some hf with ⟨h5, hf⟩ | ⟨h5, hf⟩
    · replace hf := Option.some.inj hf
      subst hf
      exact toEnd_good allOk 17 _ _ [⟨[], [], [], [], [], [], []⟩, ⟨[(1, .r (.one (.lit (.bool x1))) [])], [], [], [], [], [], []⟩, ⟨[(1, .r (.one (.lit (.bool x2))) [])], [], [], [], [], [], []⟩, ⟨[], [], [], [], [], [], []⟩, ⟨[], [], [], [], [], [], []⟩, ⟨[], [], [], [], [], [], []⟩] [false, true] [] [] [] [SCall Try.prog 196 [.one (.lit (.int .u64 a0))] (.one (.lit (.bool x1))), SCall Try.prog 196 [.one (.lit (.int .u64 a1))] (.one (.lit (.bool x2))), x1 = false, x2 = true] (by kernel_rfl) rfl ⟨(g_cmp_isNaN_uint64_ok a0 x1 q1), (g_cmp_isNaN_uint64_ok a1 x2 q2), h3, h5, trivial⟩
    · rcases br_some hf with ⟨h6, hf⟩ | ⟨h6, hf⟩
      · replace hf := Option.some.inj hf
        subst hf
        exact toEnd_good allOk 22 _ _ [⟨[], [], [], [], [], [], []⟩, ⟨[(1, .r (.one (.lit (.bool x1))) [])], [], [], [], [], [], []⟩, ⟨[(1, .r (.one (.lit (.bool x2))) [])], [], [], [], [], [], []⟩, ⟨[], [], [], [], [], [], []⟩, ⟨[], [], [], [], [], [], []⟩, ⟨[], [], [], [], [], [], []⟩, ⟨[], [], [], [], [], [], []⟩] [false, false, true] [] [] [] [SCall Try.prog 196 [.one (.lit (.int .u64 a0))] (.one (.lit (.bool x1))), SCall Try.prog 196 [.one (.lit (.int .u64 a1))] (.one (.lit (.bool x2))), x1 = false, x2 = false, (decide (a0 < a1)) = true] (by kernel_rfl) rfl ⟨(g_cmp_isNaN_uint64_ok a0 x1 q1), (g_cmp_isNaN_uint64_ok a1 x2 q2), h3, h5, h6, trivial⟩
      · rcases br_some hf with ⟨h7, hf⟩ | ⟨h7, hf⟩
        · replace hf := Option.some.inj hf
          subst hf
          exact toEnd_good allOk 27 _ _ [⟨[], [], [], [], [], [], []⟩, ⟨[(1, .r (.one (.lit (.bool x1))) [])], [], [], [], [], [], []⟩, ⟨[(1, .r (.one (.lit (.bool x2))) [])], [], [], [], [], [], []⟩, ⟨[], [], [], [], [], [], []⟩, ⟨[], [], [], [], [], [], []⟩, ⟨[], [], [], [], [], [], []⟩, ⟨[], [], [], [], [], [], []⟩, ⟨[], [], [], [], [], [], []⟩] [false, false, false, true] [] [] [] [SCall Try.prog 196 [.one (.lit (.int .u64 a0))] (.one (.lit (.bool x1))), SCall Try.prog 196 [.one (.lit (.int .u64 a1))] (.one (.lit (.bool x2))), x1 = false, x2 = false, (decide (a0 < a1)) = false, (decide (a0 > a1)) = true] (by kernel_rfl) rfl ⟨(g_cmp_isNaN_uint64_ok a0 x1 q1), (g_cmp_isNaN_uint64_ok a1 x2 q2), h3, h5, h6, h7, trivial⟩
        · replace hf := Option.some.inj hf
          subst hf
          exact toEnd_good allOk 28 _ _ [⟨[], [], [], [], [], [], []⟩, ⟨[(1, .r (.one (.lit (.bool x1))) [])], [], [], [], [], [], []⟩, ⟨[(1, .r (.one (.lit (.bool x2))) [])], [], [], [], [], [], []⟩, ⟨[], [], [], [], [], [], []⟩, ⟨[], [], [], [], [], [], []⟩, ⟨[], [], [], [], [], [], []⟩, ⟨[], [], [], [], [], [], []⟩, ⟨[], [], [], [], [], [], []⟩] [false, false, false, false] [] [] [] [SCall Try.prog 196 [.one (.lit (.int .u64 a0))] (.one (.lit (.bool x1))), SCall Try.prog 196 [.one (.lit (.int .u64 a1))] (.one (.lit (.bool x2))), x1 = false, x2 = false, (decide (a0 < a1)) = false, (decide (a0 > a1)) = false] (by kernel_rfl) rfl ⟨(g_cmp_isNaN_uint64_ok a0 x1 q1), (g_cmp_isNaN_uint64_ok a1 x2 q2), h3, h5, h6, h7, trivial⟩

def g_cmp_Or_int_c0   : Nat → Int → (List Int) → Int → Int → Option Int
  | 0, _, _, _, _ => none
  | fu + 1, v3, v6, v7, v8 =>
    bif (decide (v8 < v7)) then
      need (0 ≤ v8 ∧ v8 < ((v6.length : Nat) : Int)) <|
      bif ((v6.getD v8.toNat (0 : Int)) != v3) then
        some (v6.getD v8.toNat (0 : Int))
      else
        g_cmp_Or_int_c0   fu v3 v6 v7 (add64 v8 (1 : Int))
    else
      some v3

theorem g_cmp_Or_int_c0_ok (S0 : Nat → Prop) (w0 : Start)   : ∀ (fu : Nat) (v3 : Int) (v6 : (List Int)) (v7 : Int) (v8 : Int) (r : Int), g_cmp_Or_int_c0   fu v3 v6 v7 v8 = some r → Good Try.prog 18 S0 w0 (bodyPost Try.prog Try.f173 (Post S0 w0 (.one (.lit (.int .i64 r))))) (at_ [1, 1, 0, 1, 0] (bodyOf Try.f173)) ⟨[(3, .one (.lit (.int .i64 v3))), (6, .one (cL 1 (cI .i64) (0 : Int) v6)), (7, .one (.lit (.int .i64 v7))), (8, .one (.lit (.int .i64 v8)))], []⟩ := by
  intro fu
  induction fu with
  | zero =>
    intro v3 v6 v7 v8 r hf
    simp [g_cmp_Or_int_c0] at hf
  | succ fu ih =>
    intro v3 v6 v7 v8 r hf
    unfold g_cmp_Or_int_c0 at hf
    rcases br_some hf with ⟨h1, hf⟩ | ⟨h1, hf⟩
    · obtain ⟨o2, hf⟩ := need_some hf
      rcases br_some hf with ⟨h3, hf⟩ | ⟨h3, hf⟩
      · replace hf := Option.some.inj hf
        subst hf
        exact toEnd_good allOk 15 _ _ [⟨[], [], [], [], [], [], []⟩, ⟨[], [], [], [], [], [], []⟩, ⟨[], [], [], [], [], [], []⟩, ⟨[], [], [], [], [], [], []⟩] [true, true] [] [] [] [(decide (v8 < v7)) = true, 0 ≤ v8 ∧ v8 < ((v6.length : Nat) : Int), ((v6.getD v8.toNat (0 : Int)) != v3) = true] (by kernel_rfl) rfl ⟨h1, o2, h3, trivial⟩
      · exact toK_good allOk Post.ends 17 _ _ _ _ [⟨[], [], [], [], [], [], []⟩, ⟨[], [], [], [], [], [], []⟩, ⟨[], [], [], [], [], [], []⟩, ⟨[], [], [], [], [], [], []⟩] [true, false] ⟨[], [], [], [], [], [3, 6, 7, 8], [], []⟩ [(decide (v8 < v7)) = true, 0 ≤ v8 ∧ v8 < ((v6.length : Nat) : Int), ((v6.getD v8.toNat (0 : Int)) != v3) = false] (by kernel_rfl) ⟨h1, o2, h3, trivial⟩ (ih v3 v6 v7 (add64 v8 (1 : Int)) r hf)
    · replace hf := Option.some.inj hf
      subst hf
      exact toEnd_good allOk 8 _ _ [⟨[], [], [], [], [], [], []⟩, ⟨[], [], [], [], [], [], []⟩] [false] [] [] [] [(decide (v8 < v7)) = false] (by kernel_rfl) rfl ⟨h1, trivial⟩

/-- cmp.Or[int] -/
def g_cmp_Or_int (a0 : (List Int)) : Option Int :=
  g_cmp_Or_int_c0   ((((a0.length : Nat) : Int) - (0 : Int)).toNat + 2) (0 : Int) a0 ((a0.length : Nat) : Int) (0 : Int)

theorem g_cmp_Or_int_ok (a0 : (List Int)) (r : Int) (hf : g_cmp_Or_int a0 = some r) : SCall Try.prog 173 [.one (cL 1 (cI .i64) (0 : Int) a0)] (.one (.lit (.int .i64 r))) := by
  refine SCall.of Try.func173 rfl rfl rfl rfl fun S0 w0 => ?_
  unfold g_cmp_Or_int at hf
  exact toK_good allOk Post.ends 8 _ _ _ _ [⟨[], [], [], [], [], [], []⟩, ⟨[], [], [], [], [], [], []⟩, ⟨[], [], [], [], [], [], []⟩] [] ⟨[], [], [], [], [], [3, 6, 7, 8], [], []⟩ [] (by kernel_rfl) trivial (g_cmp_Or_int_c0_ok S0 w0    ((((a0.length : Nat) : Int) - (0 : Int)).toNat + 2) (0 : Int) a0 ((a0.length : Nat) : Int) (0 : Int) r hf)

/-- doorman/addr.Compare -/
def g_addr_Compare (a0 : T_api_Addr) (a1 : T_api_Addr) : Option Int :=
  (g_addr_family a0).bind fun x1 =>
  (g_addr_family a1).bind fun x2 =>
  (g_cmp_Compare_int x1 x2).bind fun x3 =>
  (g_cmp_Compare_uint64 a0.fHi a1.fHi).bind fun x4 =>
  (g_cmp_Compare_uint64 a0.fLo a1.fLo).bind fun x5 =>
  (g_cmp_Or_int ([x3, x4, x5] : List Int)).bind fun x6 =>
  some x6

theorem g_addr_Compare_ok (a0 : T_api_Addr) (a1 : T_api_Addr) (r : Int) (hf : g_addr_Compare a0 a1 = some r) : SCall Try.prog 178 [.agg (T_api_Addr.c a0), .agg (T_api_Addr.c a1)] (.one (.lit (.int .i64 r))) := by
  refine SCall.of Try.func178 rfl rfl rfl rfl fun S0 w0 => ?_
  unfold g_addr_Compare at hf
  obtain ⟨x1, q1, hf⟩ := bind_some' hf
  obtain ⟨x2, q2, hf⟩ := bind_some' hf
  obtain ⟨x3, q3, hf⟩ := bind_some' hf
  obtain ⟨x4, q4, hf⟩ := bind_some' hf
  obtain ⟨x5, q5, hf⟩ := bind_some' hf
  obtain ⟨x6, q6, hf⟩ := bind_some' hf
  replace hf := Option.some.inj hf
  subst hf
  exact toEnd_good allOk 4 _ _ [⟨[], [], [], [], [], [], []⟩, ⟨[(1, .r (.one (.lit (.int .i64 x1))) []), (3, .r (.one (.lit (.int .i64 x2))) []), (4, .r (.one (.lit (.int .i64 x3))) []), (9, .r (.one (.lit (.int .i64 x4))) []), (14, .r (.one (.lit (.int .i64 x5))) []), (16, .r (.one (.lit (.int .i64 x6))) [])], [], [], [[], [0], [], [2, 1, 0], [1, 0, 3, 2], [], [5], [], [7], [6, 5, 8, 7, 4, 1, 0, 3, 2], [], [10], [], [12], [11, 10, 13, 12, 9, 6, 5, 8, 7, 4, 1, 0, 3, 2], [4, 1, 0, 3, 2, 9, 6, 5, 8, 7, 14, 11, 10, 13, 12], [15, 4, 1, 0, 3, 2, 9, 6, 5, 8, 7, 14, 11, 10, 13, 12], [16, 15, 4, 1, 0, 3, 2, 9, 6, 5, 8, 7, 14, 11, 10, 13, 12]], [], [(15, (([x3, x4, x5] : List Int).length, rowsOf (cI .i64) (0 : Int) ([x3, x4, x5] : List Int)))], []⟩] [] [] [] [] [SCall Try.prog 189 [.agg (T_api_Addr.c a0)] (.one (.lit (.int .i64 x1))), SCall Try.prog 189 [.agg (T_api_Addr.c a1)] (.one (.lit (.int .i64 x2))), SCall Try.prog 174 [.one (.lit (.int .i64 x1)), .one (.lit (.int .i64 x2))] (.one (.lit (.int .i64 x3))), SCall Try.prog 190 [.one (.lit (.int .u64 a0.fHi)), .one (.lit (.int .u64 a1.fHi))] (.one (.lit (.int .i64 x4))), SCall Try.prog 190 [.one (.lit (.int .u64 a0.fLo)), .one (.lit (.int .u64 a1.fLo))] (.one (.lit (.int .i64 x5))), ([x3, x4, x5] : List Int).length = 3 ∧ ∀ i j, i < 3 → j < 1 → rowsOf (cI .i64) (0 : Int) ([x3, x4, x5] : List Int) i j = (([x3, x4, x5] : List Int).flatMap (cI .i64)).getD (i * 1 + j) .junk, SCall Try.prog 173 [.one (cL 1 (cI .i64) (0 : Int) ([x3, x4, x5] : List Int))] (.one (.lit (.int .i64 x6)))] (by kernel_rfl) rfl ⟨(g_addr_family_ok a0 x1 q1), (g_addr_family_ok a1 x2 q2), (g_cmp_Compare_int_ok x1 x2 x3 q3), (g_cmp_Compare_uint64_ok a0.fHi a1.fHi x4 q4), (g_cmp_Compare_uint64_ok a0.fLo a1.fLo x5 q5), ⟨rfl, fun i j hi hj => rows_flat (sz := 1) (e := (cI .i64)) (d := (0 : Int)) (fun _ => rfl) ([x3, x4, x5] : List Int) i j hi hj⟩, (g_cmp_Or_int_ok ([x3, x4, x5] : List Int) x6 q6), trivial⟩

/-! inline -/
def famA (a : T_api_Addr) : Int := if a.fV6 then 1 else 0
def cmpA (a b : T_api_Addr) : Int := orI (cmpI (famA a) (famA b)) (orI (cmpI a.fHi b.fHi) (cmpI a.fLo b.fLo))

theorem cmp_int (a b : Int) : g_cmp_Compare_int a b = some (cmpI a b) := by
  simp only [g_cmp_Compare_int, g_cmp_isNaN_int, cmpI, bne_self_eq_false, Option.bind_some, cond_false]
  by_cases h1 : a < b <;> by_cases h2 : a > b <;> simp [h1, h2] <;> omega

theorem cmp_u64 (a b : Int) : g_cmp_Compare_uint64 a b = some (cmpI a b) := by
  simp only [g_cmp_Compare_uint64, g_cmp_isNaN_uint64, cmpI, bne_self_eq_false, Option.bind_some, cond_false]
  by_cases h1 : a < b <;> by_cases h2 : a > b <;> simp [h1, h2] <;> omega

theorem or2 (a b : Int) : g_cmp_Or_int [a, b] = some (orI a b) := by
  unfold g_cmp_Or_int orI
  simp only [List.length_cons, List.length_nil]
  rw [show (((0 + 1 + 1 : Nat) : Int) - 0).toNat + 2 = 4 from rfl]
  simp only [g_cmp_Or_int_c0, show add64 0 1 = 1 from rfl, show add64 1 1 = 2 from rfl]
  simp only [Bool.cond_eq_ite, bne_iff_ne, ne_eq, ite_not, need]
  by_cases h1 : a = 0 <;> by_cases h2 : b = 0 <;> simp [h1, h2]

theorem or3 (a b c : Int) : g_cmp_Or_int [a, b, c] = some (orI a (orI b c)) := by
  unfold g_cmp_Or_int orI
  simp only [List.length_cons, List.length_nil]
  rw [show (((0 + 1 + 1 + 1 : Nat) : Int) - 0).toNat + 2 = 5 from rfl]
  simp only [g_cmp_Or_int_c0, show add64 0 1 = 1 from rfl, show add64 1 1 = 2 from rfl, show add64 2 1 = 3 from rfl]
  simp only [Bool.cond_eq_ite, bne_iff_ne, ne_eq, ite_not, need]
  by_cases h1 : a = 0 <;> by_cases h2 : b = 0 <;> by_cases h3 : c = 0 <;> simp [h1, h2, h3]

theorem addr_cmp (a b : T_api_Addr) : g_addr_Compare a b = some (cmpA a b) := by
  have hf : ∀ c, g_addr_family c = some (famA c) := fun c => by unfold g_addr_family famA; cases c.fV6 <;> rfl
  simp only [g_addr_Compare, hf, cmp_int, cmp_u64, or3, Option.bind_some, cmpA]


theorem orI_lt {a b : Int} : orI a b < 0 ↔ a < 0 ∨ (a = 0 ∧ b < 0) := by unfold orI; constructor <;> intro h <;> (repeat' split at *) <;> omega
theorem orI_gt {a b : Int} : 0 < orI a b ↔ 0 < a ∨ (a = 0 ∧ 0 < b) := by unfold orI; constructor <;> intro h <;> (repeat' split at *) <;> omega
theorem orI_zero {a b : Int} : orI a b = 0 ↔ a = 0 ∧ b = 0 := by unfold orI; constructor <;> intro h <;> (repeat' split at *) <;> omega

theorem famA_eq {a b : T_api_Addr} : famA a = famA b ↔ a.fV6 = b.fV6 := by unfold famA; cases a.fV6 <;> cases b.fV6 <;> simp

theorem cmpA_lt {a b : T_api_Addr} : cmpA a b < 0 ↔ famA a < famA b ∨ (famA a = famA b ∧ (a.fHi < b.fHi ∨ (a.fHi = b.fHi ∧ a.fLo < b.fLo))) := by simp only [cmpA, orI_lt, cmpI_lt, cmpI_zero]
theorem cmpA_gt {a b : T_api_Addr} : 0 < cmpA a b ↔ famA b < famA a ∨ (famA a = famA b ∧ (b.fHi < a.fHi ∨ (a.fHi = b.fHi ∧ b.fLo < a.fLo))) := by simp only [cmpA, orI_gt, cmpI_gt, cmpI_zero]
theorem cmpA_zero {a b : T_api_Addr} : cmpA a b = 0 ↔ a = b := by
  simp only [cmpA, orI_zero, cmpI_zero, famA_eq]
  obtain ⟨v, hi, lo⟩ := a
  obtain ⟨v', hi', lo'⟩ := b
  simp

theorem cmpA_trans {a b c : T_api_Addr} (h1 : cmpA a b < 0) (h2 : cmpA b c < 0) : cmpA a c < 0 := by
  rw [cmpA_lt] at *
  omega


theorem cmpA_swap {a b : T_api_Addr} : 0 < cmpA a b ↔ cmpA b a < 0 := by
  rw [cmpA_gt, cmpA_lt]
  constructor <;> intro h <;> omega


/-- doorman/endp.Compare -/
def g_endp_Compare (a0 : T_api_End) (a1 : T_api_End) : Option Int :=
  (g_addr_Compare a0.fAddr a1.fAddr).bind fun x1 =>
  (g_cmp_Compare_int a0.fPort a1.fPort).bind fun x2 =>
  (g_cmp_Or_int ([x1, x2] : List Int)).bind fun x3 =>
  some x3

theorem g_endp_Compare_ok (a0 : T_api_End) (a1 : T_api_End) (r : Int) (hf : g_endp_Compare a0 a1 = some r) : SCall Try.prog 175 [.agg (T_api_End.c a0), .agg (T_api_End.c a1)] (.one (.lit (.int .i64 r))) := by
  refine SCall.of Try.func175 rfl rfl rfl rfl fun S0 w0 => ?_
  unfold g_endp_Compare at hf
  obtain ⟨x1, q1, hf⟩ := bind_some' hf
  obtain ⟨x2, q2, hf⟩ := bind_some' hf
  obtain ⟨x3, q3, hf⟩ := bind_some' hf
  replace hf := Option.some.inj hf
  subst hf
  exact toEnd_good allOk 4 _ _ [⟨[], [], [], [], [], [], []⟩, ⟨[(4, .r (.one (.lit (.int .i64 x1))) []), (9, .r (.one (.lit (.int .i64 x2))) []), (11, .r (.one (.lit (.int .i64 x3))) [])], [], [], [[], [0], [], [2], [1, 0, 3, 2], [], [5], [], [7], [6, 5, 8, 7, 4, 1, 0, 3, 2], [4, 1, 0, 3, 2, 9, 6, 5, 8, 7], [10, 4, 1, 0, 3, 2, 9, 6, 5, 8, 7], [11, 10, 4, 1, 0, 3, 2, 9, 6, 5, 8, 7]], [], [(10, (([x1, x2] : List Int).length, rowsOf (cI .i64) (0 : Int) ([x1, x2] : List Int)))], []⟩] [] [] [] [] [SCall Try.prog 178 [.agg (T_api_Addr.c a0.fAddr), .agg (T_api_Addr.c a1.fAddr)] (.one (.lit (.int .i64 x1))), SCall Try.prog 174 [.one (.lit (.int .i64 a0.fPort)), .one (.lit (.int .i64 a1.fPort))] (.one (.lit (.int .i64 x2))), ([x1, x2] : List Int).length = 2 ∧ ∀ i j, i < 2 → j < 1 → rowsOf (cI .i64) (0 : Int) ([x1, x2] : List Int) i j = (([x1, x2] : List Int).flatMap (cI .i64)).getD (i * 1 + j) .junk, SCall Try.prog 173 [.one (cL 1 (cI .i64) (0 : Int) ([x1, x2] : List Int))] (.one (.lit (.int .i64 x3)))] (by kernel_rfl) rfl ⟨(g_addr_Compare_ok a0.fAddr a1.fAddr x1 q1), (g_cmp_Compare_int_ok a0.fPort a1.fPort x2 q2), ⟨rfl, fun i j hi hj => rows_flat (sz := 1) (e := (cI .i64)) (d := (0 : Int)) (fun _ => rfl) ([x1, x2] : List Int) i j hi hj⟩, (g_cmp_Or_int_ok ([x1, x2] : List Int) x3 q3), trivial⟩

/-- doorman/heap.order -/
def g_heap_order (a0 : T_heap_Item) (a1 : T_heap_Item) : Option Int :=
  (g_cmp_Compare_int a0.fKey a1.fKey).bind fun x1 =>
  (g_endp_Compare a0.fEnd a1.fEnd).bind fun x2 =>
  (g_cmp_Or_int ([x1, x2] : List Int)).bind fun x3 =>
  some x3

theorem g_heap_order_ok (a0 : T_heap_Item) (a1 : T_heap_Item) (r : Int) (hf : g_heap_order a0 a1 = some r) : SCall Try.prog 165 [.agg (T_heap_Item.c a0), .agg (T_heap_Item.c a1)] (.one (.lit (.int .i64 r))) := by
  refine SCall.of Try.func165 rfl rfl rfl rfl fun S0 w0 => ?_
  unfold g_heap_order at hf
  obtain ⟨x1, q1, hf⟩ := bind_some' hf
  obtain ⟨x2, q2, hf⟩ := bind_some' hf
  obtain ⟨x3, q3, hf⟩ := bind_some' hf
  replace hf := Option.some.inj hf
  subst hf
  exact toEnd_good allOk 4 _ _ [⟨[], [], [], [], [], [], []⟩, ⟨[(4, .r (.one (.lit (.int .i64 x1))) []), (9, .r (.one (.lit (.int .i64 x2))) []), (11, .r (.one (.lit (.int .i64 x3))) [])], [], [], [[], [0], [], [2], [1, 0, 3, 2], [], [5], [], [7], [6, 5, 8, 7, 4, 1, 0, 3, 2], [4, 1, 0, 3, 2, 9, 6, 5, 8, 7], [10, 4, 1, 0, 3, 2, 9, 6, 5, 8, 7], [11, 10, 4, 1, 0, 3, 2, 9, 6, 5, 8, 7]], [], [(10, (([x1, x2] : List Int).length, rowsOf (cI .i64) (0 : Int) ([x1, x2] : List Int)))], []⟩] [] [] [] [] [SCall Try.prog 174 [.one (.lit (.int .i64 a0.fKey)), .one (.lit (.int .i64 a1.fKey))] (.one (.lit (.int .i64 x1))), SCall Try.prog 175 [.agg (T_api_End.c a0.fEnd), .agg (T_api_End.c a1.fEnd)] (.one (.lit (.int .i64 x2))), ([x1, x2] : List Int).length = 2 ∧ ∀ i j, i < 2 → j < 1 → rowsOf (cI .i64) (0 : Int) ([x1, x2] : List Int) i j = (([x1, x2] : List Int).flatMap (cI .i64)).getD (i * 1 + j) .junk, SCall Try.prog 173 [.one (cL 1 (cI .i64) (0 : Int) ([x1, x2] : List Int))] (.one (.lit (.int .i64 x3)))] (by kernel_rfl) rfl ⟨(g_cmp_Compare_int_ok a0.fKey a1.fKey x1 q1), (g_endp_Compare_ok a0.fEnd a1.fEnd x2 q2), ⟨rfl, fun i j hi hj => rows_flat (sz := 1) (e := (cI .i64)) (d := (0 : Int)) (fun _ => rfl) ([x1, x2] : List Int) i j hi hj⟩, (g_cmp_Or_int_ok ([x1, x2] : List Int) x3 q3), trivial⟩

/-- doorman/heap.Ahead -/
def g_heap_Ahead (a0 : T_heap_Item) (a1 : T_heap_Item) : Option Bool :=
  (g_heap_order a0 a1).bind fun x1 =>
  some (decide (x1 < (0 : Int)))

theorem g_heap_Ahead_ok (a0 : T_heap_Item) (a1 : T_heap_Item) (r : Bool) (hf : g_heap_Ahead a0 a1 = some r) : SCall Try.prog 156 [.agg (T_heap_Item.c a0), .agg (T_heap_Item.c a1)] (.one (.lit (.bool r))) := by
  refine SCall.of Try.func156 rfl rfl rfl rfl fun S0 w0 => ?_
  unfold g_heap_Ahead at hf
  obtain ⟨x1, q1, hf⟩ := bind_some' hf
  replace hf := Option.some.inj hf
  subst hf
  exact toEnd_good allOk 4 _ _ [⟨[], [], [], [], [], [], []⟩, ⟨[(2, .r (.one (.lit (.int .i64 x1))) [])], [], [], [], [], [], []⟩] [] [] [] [] [SCall Try.prog 165 [.agg (T_heap_Item.c a0), .agg (T_heap_Item.c a1)] (.one (.lit (.int .i64 x1)))] (by kernel_rfl) rfl ⟨(g_heap_order_ok a0 a1 x1 q1), trivial⟩

def g_heap_down_c1 (v1 : Int) (kg_heap_down_c0 : Int → (List T_heap_Item) → Option (List T_heap_Item)) : Nat → Int → Int → (List T_heap_Item) → Option (List T_heap_Item)
  | 0, _, _, _ => none
  | fu + 1, v4, v5, w100000 =>
    bif (decide (v5 ≤ (add64 (mul64 (2 : Int) v1) (2 : Int)))) then
      bif (decide (v5 < ((w100000.length : Nat) : Int))) then
        need (0 ≤ v5 ∧ v5 < ((w100000.length : Nat) : Int)) <|
        need (0 ≤ v4 ∧ v4 < ((w100000.length : Nat) : Int)) <|
        (g_heap_Ahead (w100000.getD v5.toNat T_heap_Item.d) (w100000.getD v4.toNat T_heap_Item.d)).bind fun x1 =>
        bif x1 then
          g_heap_down_c1 v1 kg_heap_down_c0 fu v5 (add64 v5 (1 : Int)) w100000
        else
          g_heap_down_c1 v1 kg_heap_down_c0 fu v4 (add64 v5 (1 : Int)) w100000
      else
        bif (v4 == v1) then
          some w100000
        else
          need (0 ≤ v4 ∧ v4 < ((w100000.length : Nat) : Int)) <|
          need (0 ≤ v1 ∧ v1 < ((w100000.length : Nat) : Int)) <|
          kg_heap_down_c0 v4 ((w100000.set v1.toNat (w100000.getD v4.toNat T_heap_Item.d)).set v4.toNat (w100000.getD v1.toNat T_heap_Item.d))
    else
      bif (v4 == v1) then
        some w100000
      else
        need (0 ≤ v4 ∧ v4 < ((w100000.length : Nat) : Int)) <|
        need (0 ≤ v1 ∧ v1 < ((w100000.length : Nat) : Int)) <|
        kg_heap_down_c0 v4 ((w100000.set v1.toNat (w100000.getD v4.toNat T_heap_Item.d)).set v4.toNat (w100000.getD v1.toNat T_heap_Item.d))

theorem g_heap_down_c1_ok (S0 : Nat → Prop) (w0 : Start) (v1 : Int) (kg_heap_down_c0 : Int → (List T_heap_Item) → Option (List T_heap_Item)) (hg_heap_down_c0 : ∀ (v1_ : Int) (w100000_ : (List T_heap_Item)) (r : (List T_heap_Item)), kg_heap_down_c0 v1_ w100000_ = some r → Good Try.prog 51 S0 w0 (bodyPost Try.prog Try.f142 (HPost S0 w0 [(100000, .rows 186 5 r.length (rowsOf T_heap_Item.c T_heap_Item.d r))] (.tup []))) (at_ [0] (bodyOf Try.f142)) ⟨[(0, .one (.osl 100000 w100000_.length)), (1, .one (.lit (.int .i64 v1_)))], [(100000, .rows 186 5 w100000_.length (rowsOf T_heap_Item.c T_heap_Item.d w100000_))]⟩) : ∀ (fu : Nat) (v4 : Int) (v5 : Int) (w100000 : (List T_heap_Item)) (r : (List T_heap_Item)), g_heap_down_c1 v1 kg_heap_down_c0 fu v4 v5 w100000 = some r → Good Try.prog 51 S0 w0 (bodyPost Try.prog Try.f142 (HPost S0 w0 [(100000, .rows 186 5 r.length (rowsOf T_heap_Item.c T_heap_Item.d r))] (.tup []))) (at_ [0, 0, 0, 1, 0, 1, 0] (bodyOf Try.f142)) ⟨[(0, .one (.osl 100000 w100000.length)), (1, .one (.lit (.int .i64 v1))), (4, .one (.lit (.int .i64 v4))), (5, .one (.lit (.int .i64 v5)))], [(100000, .rows 186 5 w100000.length (rowsOf T_heap_Item.c T_heap_Item.d w100000))]⟩ := by
  intro fu
  induction fu with
  | zero =>
    intro v4 v5 w100000 r hf
    simp [g_heap_down_c1] at hf
  | succ fu ih =>
    intro v4 v5 w100000 r hf
    unfold g_heap_down_c1 at hf
    rcases br_some hf with ⟨h1, hf⟩ | ⟨h1, hf⟩
    · rcases br_some hf with ⟨h2, hf⟩ | ⟨h2, hf⟩
      · obtain ⟨o3, hf⟩ := need_some hf
        obtain ⟨o4, hf⟩ := need_some hf
        obtain ⟨x1, q5, hf⟩ := bind_some' hf
        rcases br_some hf with ⟨h6, hf⟩ | ⟨h6, hf⟩
        · exact toK_good allOk HPost.ends 15 _ _ _ _ [⟨[], [(5, true)], [], [], [], [], []⟩, ⟨[(8, .r (.one (.lit (.bool x1))) [])], [], [], [[], [], [0, 1], [2, 0, 1], [], [], [4, 5], [6, 4, 5], [3, 2, 0, 1, 7, 6, 4, 5]], [], [], []⟩, ⟨[], [], [], [], [], [], []⟩, ⟨[], [], [], [], [], [], []⟩] [true, true] ⟨[], [], [], [], [], [0, 1, 4, 5], [100000], []⟩ [(decide (v5 ≤ (add64 (mul64 (2 : Int) v1) (2 : Int)))) = true, (decide (v5 < ((w100000.length : Nat) : Int))) = true, 0 ≤ v5 ∧ v5 < ((w100000.length : Nat) : Int), v5.toNat < w100000.length, 0 ≤ v4 ∧ v4 < ((w100000.length : Nat) : Int), v4.toNat < w100000.length, SCall Try.prog 156 [.agg (T_heap_Item.c (w100000.getD v5.toNat T_heap_Item.d)), .agg (T_heap_Item.c (w100000.getD v4.toNat T_heap_Item.d))] (.one (.lit (.bool x1))), x1 = true] (by kernel_rfl) ⟨h1, h2, o3, (ltOf o3), o4, (ltOf o4), (g_heap_Ahead_ok (w100000.getD v5.toNat T_heap_Item.d) (w100000.getD v4.toNat T_heap_Item.d) x1 q5), h6, trivial⟩ (ih v5 (add64 v5 (1 : Int)) w100000 r hf)
        · exact toK_good allOk HPost.ends 15 _ _ _ _ [⟨[], [(5, true)], [], [], [], [], []⟩, ⟨[(8, .r (.one (.lit (.bool x1))) [])], [], [], [[], [], [0, 1], [2, 0, 1], [], [], [4, 5], [6, 4, 5], [3, 2, 0, 1, 7, 6, 4, 5]], [], [], []⟩, ⟨[], [], [], [], [], [], []⟩] [true, false] ⟨[], [], [], [], [], [0, 1, 4, 5], [100000], []⟩ [(decide (v5 ≤ (add64 (mul64 (2 : Int) v1) (2 : Int)))) = true, (decide (v5 < ((w100000.length : Nat) : Int))) = true, 0 ≤ v5 ∧ v5 < ((w100000.length : Nat) : Int), v5.toNat < w100000.length, 0 ≤ v4 ∧ v4 < ((w100000.length : Nat) : Int), v4.toNat < w100000.length, SCall Try.prog 156 [.agg (T_heap_Item.c (w100000.getD v5.toNat T_heap_Item.d)), .agg (T_heap_Item.c (w100000.getD v4.toNat T_heap_Item.d))] (.one (.lit (.bool x1))), x1 = false] (by kernel_rfl) ⟨h1, h2, o3, (ltOf o3), o4, (ltOf o4), (g_heap_Ahead_ok (w100000.getD v5.toNat T_heap_Item.d) (w100000.getD v4.toNat T_heap_Item.d) x1 q5), h6, trivial⟩ (ih v4 (add64 v5 (1 : Int)) w100000 r hf)
      · rcases br_some hf with ⟨h7, hf⟩ | ⟨h7, hf⟩
        · replace hf := Option.some.inj hf
          subst hf
          exact toEndH_good allOk 10 _ _ [⟨[], [(5, true)], [], [], [], [], []⟩, ⟨[], [], [], [], [], [], []⟩] [false, true] ⟨[], [], [], [], [], [], [100000], []⟩ [(decide (v5 ≤ (add64 (mul64 (2 : Int) v1) (2 : Int)))) = true, (decide (v5 < ((w100000.length : Nat) : Int))) = false, (v4 == v1) = true] (by kernel_rfl) ⟨h1, h2, h7, trivial⟩
        · obtain ⟨o8, hf⟩ := need_some hf
          obtain ⟨o9, hf⟩ := need_some hf
          exact toK_good allOk HPost.ends 16 _ _ _ _ [⟨[], [(5, true)], [], [], [], [], []⟩, ⟨[], [], [], [], [], [], []⟩, ⟨[(13, .c (w100000.set v1.toNat (w100000.getD v4.toNat T_heap_Item.d)).length (rowsOf T_heap_Item.c T_heap_Item.d (w100000.set v1.toNat (w100000.getD v4.toNat T_heap_Item.d)))), (15, .c ((w100000.set v1.toNat (w100000.getD v4.toNat T_heap_Item.d)).set v4.toNat (w100000.getD v1.toNat T_heap_Item.d)).length (rowsOf T_heap_Item.c T_heap_Item.d ((w100000.set v1.toNat (w100000.getD v4.toNat T_heap_Item.d)).set v4.toNat (w100000.getD v1.toNat T_heap_Item.d))))], [], [], [[], [], [], [], [], [], [4, 5], [6, 4, 5], [], [], [8, 9], [10, 8, 9], [0, 1, 4, 5, 6, 7, 11, 10, 8, 9], [12, 0, 1, 4, 5, 6, 7, 11, 10, 8, 9], [2, 3, 0, 1, 4, 5, 6, 7, 8, 9, 10, 11, 12, 13], [14, 2, 3, 0, 1, 4, 5, 6, 7, 8, 9, 10, 11, 12, 13]], [], [], []⟩, ⟨[], [], [], [], [], [], []⟩] [false, false] ⟨[], [], [], [(100000, (((w100000.set v1.toNat (w100000.getD v4.toNat T_heap_Item.d)).set v4.toNat (w100000.getD v1.toNat T_heap_Item.d)).length))], [], [0, 1], [100000], []⟩ [(decide (v5 ≤ (add64 (mul64 (2 : Int) v1) (2 : Int)))) = true, (decide (v5 < ((w100000.length : Nat) : Int))) = false, (v4 == v1) = false, 0 ≤ v4 ∧ v4 < ((w100000.length : Nat) : Int), v4.toNat < w100000.length, 0 ≤ v1 ∧ v1 < ((w100000.length : Nat) : Int), v1.toNat < w100000.length, 0 ≤ v1 ∧ v1 < ((w100000.length : Nat) : Int), (w100000.set v1.toNat (w100000.getD v4.toNat T_heap_Item.d)).length = w100000.length, v1.toNat < w100000.length, ExtU 5 w100000.length (rowsOf T_heap_Item.c T_heap_Item.d w100000) v1.toNat 0 (T_heap_Item.c (w100000.getD v4.toNat T_heap_Item.d)) (rowsOf T_heap_Item.c T_heap_Item.d (w100000.set v1.toNat (w100000.getD v4.toNat T_heap_Item.d))), 0 ≤ v4 ∧ v4 < ((w100000.length : Nat) : Int), ((w100000.set v1.toNat (w100000.getD v4.toNat T_heap_Item.d)).set v4.toNat (w100000.getD v1.toNat T_heap_Item.d)).length = (w100000.set v1.toNat (w100000.getD v4.toNat T_heap_Item.d)).length, v4.toNat < (w100000.set v1.toNat (w100000.getD v4.toNat T_heap_Item.d)).length, ExtU 5 ((w100000.set v1.toNat (w100000.getD v4.toNat T_heap_Item.d)).length) (rowsOf T_heap_Item.c T_heap_Item.d (w100000.set v1.toNat (w100000.getD v4.toNat T_heap_Item.d))) v4.toNat 0 (T_heap_Item.c (w100000.getD v1.toNat T_heap_Item.d)) (rowsOf T_heap_Item.c T_heap_Item.d ((w100000.set v1.toNat (w100000.getD v4.toNat T_heap_Item.d)).set v4.toNat (w100000.getD v1.toNat T_heap_Item.d))), ((w100000.set v1.toNat (w100000.getD v4.toNat T_heap_Item.d)).set v4.toNat (w100000.getD v1.toNat T_heap_Item.d)).length = ((w100000.set v1.toNat (w100000.getD v4.toNat T_heap_Item.d)).set v4.toNat (w100000.getD v1.toNat T_heap_Item.d)).length] (by kernel_rfl) ⟨h1, h2, h7, o8, (ltOf o8), o9, (ltOf o9), o9, List.length_set, (ltOf o9), (ext_set _ _ _ rfl), o8, List.length_set, (by have := ltOf o8; simp at this ⊢; omega), (ext_set _ _ _ rfl), rfl, trivial⟩ (hg_heap_down_c0 v4 ((w100000.set v1.toNat (w100000.getD v4.toNat T_heap_Item.d)).set v4.toNat (w100000.getD v1.toNat T_heap_Item.d)) r hf)
    · rcases br_some hf with ⟨h10, hf⟩ | ⟨h10, hf⟩
      · replace hf := Option.some.inj hf
        subst hf
        exact toEndH_good allOk 10 _ _ [⟨[], [(5, false)], [], [], [], [], []⟩, ⟨[], [], [], [], [], [], []⟩] [false, true] ⟨[], [], [], [], [], [], [100000], []⟩ [(decide (v5 ≤ (add64 (mul64 (2 : Int) v1) (2 : Int)))) = false, false = false, (v4 == v1) = true] (by kernel_rfl) ⟨h1, rfl, h10, trivial⟩
      · obtain ⟨o11, hf⟩ := need_some hf
        obtain ⟨o12, hf⟩ := need_some hf
        exact toK_good allOk HPost.ends 16 _ _ _ _ [⟨[], [(5, false)], [], [], [], [], []⟩, ⟨[], [], [], [], [], [], []⟩, ⟨[(13, .c (w100000.set v1.toNat (w100000.getD v4.toNat T_heap_Item.d)).length (rowsOf T_heap_Item.c T_heap_Item.d (w100000.set v1.toNat (w100000.getD v4.toNat T_heap_Item.d)))), (15, .c ((w100000.set v1.toNat (w100000.getD v4.toNat T_heap_Item.d)).set v4.toNat (w100000.getD v1.toNat T_heap_Item.d)).length (rowsOf T_heap_Item.c T_heap_Item.d ((w100000.set v1.toNat (w100000.getD v4.toNat T_heap_Item.d)).set v4.toNat (w100000.getD v1.toNat T_heap_Item.d))))], [], [], [[], [], [], [], [], [], [4, 5], [6, 4, 5], [], [], [8, 9], [10, 8, 9], [0, 1, 4, 5, 6, 7, 11, 10, 8, 9], [12, 0, 1, 4, 5, 6, 7, 11, 10, 8, 9], [2, 3, 0, 1, 4, 5, 6, 7, 8, 9, 10, 11, 12, 13], [14, 2, 3, 0, 1, 4, 5, 6, 7, 8, 9, 10, 11, 12, 13]], [], [], []⟩, ⟨[], [], [], [], [], [], []⟩] [false, false] ⟨[], [], [], [(100000, (((w100000.set v1.toNat (w100000.getD v4.toNat T_heap_Item.d)).set v4.toNat (w100000.getD v1.toNat T_heap_Item.d)).length))], [], [0, 1], [100000], []⟩ [(decide (v5 ≤ (add64 (mul64 (2 : Int) v1) (2 : Int)))) = false, false = false, (v4 == v1) = false, 0 ≤ v4 ∧ v4 < ((w100000.length : Nat) : Int), v4.toNat < w100000.length, 0 ≤ v1 ∧ v1 < ((w100000.length : Nat) : Int), v1.toNat < w100000.length, 0 ≤ v1 ∧ v1 < ((w100000.length : Nat) : Int), (w100000.set v1.toNat (w100000.getD v4.toNat T_heap_Item.d)).length = w100000.length, v1.toNat < w100000.length, ExtU 5 w100000.length (rowsOf T_heap_Item.c T_heap_Item.d w100000) v1.toNat 0 (T_heap_Item.c (w100000.getD v4.toNat T_heap_Item.d)) (rowsOf T_heap_Item.c T_heap_Item.d (w100000.set v1.toNat (w100000.getD v4.toNat T_heap_Item.d))), 0 ≤ v4 ∧ v4 < ((w100000.length : Nat) : Int), ((w100000.set v1.toNat (w100000.getD v4.toNat T_heap_Item.d)).set v4.toNat (w100000.getD v1.toNat T_heap_Item.d)).length = (w100000.set v1.toNat (w100000.getD v4.toNat T_heap_Item.d)).length, v4.toNat < (w100000.set v1.toNat (w100000.getD v4.toNat T_heap_Item.d)).length, ExtU 5 ((w100000.set v1.toNat (w100000.getD v4.toNat T_heap_Item.d)).length) (rowsOf T_heap_Item.c T_heap_Item.d (w100000.set v1.toNat (w100000.getD v4.toNat T_heap_Item.d))) v4.toNat 0 (T_heap_Item.c (w100000.getD v1.toNat T_heap_Item.d)) (rowsOf T_heap_Item.c T_heap_Item.d ((w100000.set v1.toNat (w100000.getD v4.toNat T_heap_Item.d)).set v4.toNat (w100000.getD v1.toNat T_heap_Item.d))), ((w100000.set v1.toNat (w100000.getD v4.toNat T_heap_Item.d)).set v4.toNat (w100000.getD v1.toNat T_heap_Item.d)).length = ((w100000.set v1.toNat (w100000.getD v4.toNat T_heap_Item.d)).set v4.toNat (w100000.getD v1.toNat T_heap_Item.d)).length] (by kernel_rfl) ⟨h1, rfl, h10, o11, (ltOf o11), o12, (ltOf o12), o12, List.length_set, (ltOf o12), (ext_set _ _ _ rfl), o11, List.length_set, (by have := ltOf o11; simp at this ⊢; omega), (ext_set _ _ _ rfl), rfl, trivial⟩ (hg_heap_down_c0 v4 ((w100000.set v1.toNat (w100000.getD v4.toNat T_heap_Item.d)).set v4.toNat (w100000.getD v1.toNat T_heap_Item.d)) r hf)

def g_heap_down_c0   : Nat → Int → (List T_heap_Item) → Option (List T_heap_Item)
  | 0, _, _ => none
  | fu + 1, v1, w100000 =>
    g_heap_down_c1 v1 (g_heap_down_c0   fu) ((((w100000.length : Nat) : Int) - (add64 (mul64 (2 : Int) v1) (1 : Int))).toNat + 2) v1 (add64 (mul64 (2 : Int) v1) (1 : Int)) w100000

theorem g_heap_down_c0_ok (S0 : Nat → Prop) (w0 : Start)   : ∀ (fu : Nat) (v1 : Int) (w100000 : (List T_heap_Item)) (r : (List T_heap_Item)), g_heap_down_c0   fu v1 w100000 = some r → Good Try.prog 51 S0 w0 (bodyPost Try.prog Try.f142 (HPost S0 w0 [(100000, .rows 186 5 r.length (rowsOf T_heap_Item.c T_heap_Item.d r))] (.tup []))) (at_ [0] (bodyOf Try.f142)) ⟨[(0, .one (.osl 100000 w100000.length)), (1, .one (.lit (.int .i64 v1)))], [(100000, .rows 186 5 w100000.length (rowsOf T_heap_Item.c T_heap_Item.d w100000))]⟩ := by
  intro fu
  induction fu with
  | zero =>
    intro v1 w100000 r hf
    simp [g_heap_down_c0] at hf
  | succ fu ih =>
    intro v1 w100000 r hf
    unfold g_heap_down_c0 at hf
    exact toK_good allOk HPost.ends 8 _ _ _ _ [⟨[], [], [], [], [], [], []⟩, ⟨[], [], [], [], [], [], []⟩] [] ⟨[], [], [], [], [], [0, 1, 4, 5], [100000], []⟩ [] (by kernel_rfl) trivial (g_heap_down_c1_ok S0 w0 v1 (g_heap_down_c0   fu) ih ((((w100000.length : Nat) : Int) - (add64 (mul64 (2 : Int) v1) (1 : Int))).toNat + 2) v1 (add64 (mul64 (2 : Int) v1) (1 : Int)) w100000 r hf)

/-- doorman/heap.down -/
def g_heap_down (a0 : (List T_heap_Item)) (a1 : Int) : Option (List T_heap_Item) :=
  g_heap_down_c0   1000000 a1 a0

theorem g_heap_down_own (a0 : (List T_heap_Item)) (a1 : Int) (r : (List T_heap_Item)) (hf : g_heap_down a0 a1 = some r) : HCall Try.prog 142 [(100000, .rows 186 5 a0.length (rowsOf T_heap_Item.c T_heap_Item.d a0))] [.one (.osl 100000 a0.length), .one (.lit (.int .i64 a1))] [(100000, .rows 186 5 r.length (rowsOf T_heap_Item.c T_heap_Item.d r))] (.tup []) := by
  refine HCall.of Try.func142 rfl rfl rfl rfl fun S0 w0 => ?_
  unfold g_heap_down at hf
  exact toK_good allOk HPost.ends 1 _ _ _ _ [] [] ⟨[], [], [], [], [], [0, 1], [100000], []⟩ [] (by kernel_rfl) trivial (g_heap_down_c0_ok S0 w0    1000000 a1 a0 r hf)

def g_heap_Make_c0   : Nat → Int → (List T_heap_Item) → Option (List T_heap_Item)
  | 0, _, _ => none
  | fu + 1, v4, w6 =>
    bif (decide (v4 ≥ (0 : Int))) then
      (g_heap_down w6 v4).bind fun x2 =>
      g_heap_Make_c0   fu (sub64 v4 (1 : Int)) x2
    else
      some w6

theorem g_heap_Make_c0_ok (S0 : Nat → Prop) (w0 : Start)   : ∀ (fu : Nat) (v4 : Int) (w6 : (List T_heap_Item)) (r : (List T_heap_Item)), g_heap_Make_c0   fu v4 w6 = some r → Good Try.prog 19 S0 w0 (bodyPost Try.prog Try.f140 (HPost S0 w0 [(99999, .rows 186 5 r.length (rowsOf T_heap_Item.c T_heap_Item.d r))] (.one (.osl 99999 r.length)))) (at_ [1, 1, 0, 1, 0] (bodyOf Try.f140)) ⟨[(3, .one (.osl 6 w6.length)), (4, .one (.lit (.int .i64 v4)))], [(6, .rows 186 5 w6.length (rowsOf T_heap_Item.c T_heap_Item.d w6))]⟩ := by
  intro fu
  induction fu with
  | zero =>
    intro v4 w6 r hf
    simp [g_heap_Make_c0] at hf
  | succ fu ih =>
    intro v4 w6 r hf
    unfold g_heap_Make_c0 at hf
    rcases br_some hf with ⟨h2, hf⟩ | ⟨h2, hf⟩
    · obtain ⟨x2, q3, hf⟩ := bind_some' hf
      exact toK_good allOk HPost.ends 12 _ _ _ _ [⟨[], [], [], [], [], [], []⟩, ⟨[], [], [], [], [], [], [(2, ⟨[(100000, 6)], [], [(100000, .rows 186 5 x2.length (rowsOf T_heap_Item.c T_heap_Item.d x2))], .tup []⟩)]⟩, ⟨[], [], [], [], [], [], []⟩] [true] ⟨[], [], [], [(6, x2.length)], [], [3, 4], [6], []⟩ [(decide (v4 ≥ (0 : Int))) = true, HCall Try.prog 142 [(100000, .rows 186 5 w6.length (rowsOf T_heap_Item.c T_heap_Item.d w6))] [.one (.osl 100000 w6.length), .one (.lit (.int .i64 v4))] [(100000, .rows 186 5 x2.length (rowsOf T_heap_Item.c T_heap_Item.d x2))] (.tup []), x2.length = x2.length] (by kernel_rfl) ⟨h2, (g_heap_down_own w6 v4 x2 q3), rfl, trivial⟩ (ih (sub64 v4 (1 : Int)) x2 r hf)
    · replace hf := Option.some.inj hf
      subst hf
      exact toEndH_good allOk 8 _ _ [⟨[], [], [], [], [], [], []⟩, ⟨[], [], [], [], [], [], []⟩] [false] ⟨[], [], [], [], [], [2], [6], [(6, 99999)]⟩ [(decide (v4 ≥ (0 : Int))) = false] (by kernel_rfl) ⟨h2, trivial⟩

/-- doorman/heap.Make -/
def g_heap_Make (a0 : (List T_heap_Item)) : Option (List T_heap_Item) :=
  (g_slices_Clone_doorman_heap_Item_doorman_heap_Item a0).bind fun x1 =>
  g_heap_Make_c0   (((sub64 (IntKind.wrap .i64 (Int.tdiv ((x1.length : Nat) : Int) (2 : Int))) (1 : Int)) - (0 : Int)).toNat + 2) (sub64 (IntKind.wrap .i64 (Int.tdiv ((x1.length : Nat) : Int) (2 : Int))) (1 : Int)) x1

theorem g_heap_Make_own (a0 : (List T_heap_Item)) (r : (List T_heap_Item)) (hf : g_heap_Make a0 = some r) : HCall Try.prog 140 [] [.one (cL 5 T_heap_Item.c T_heap_Item.d a0)] [(99999, .rows 186 5 r.length (rowsOf T_heap_Item.c T_heap_Item.d r))] (.one (.osl 99999 r.length)) := by
  refine HCall.of Try.func140 rfl rfl rfl rfl fun S0 w0 => ?_
  unfold g_heap_Make at hf
  obtain ⟨x1, q1, hf⟩ := bind_some' hf
  exact toK_good allOk HPost.ends 8 _ _ _ _ [⟨[], [], [], [], [], [], []⟩, ⟨[], [], [], [], [], [], [(1, ⟨[], [(99999, 6)], [(99999, .rows 186 5 x1.length (rowsOf T_heap_Item.c T_heap_Item.d x1))], .one (.osl 99999 x1.length)⟩)]⟩, ⟨[], [], [], [], [], [], []⟩] [] ⟨[], [], [], [], [], [3, 4], [6], []⟩ [HCall Try.prog 141 [] [.one (cL 5 T_heap_Item.c T_heap_Item.d a0)] [(99999, .rows 186 5 x1.length (rowsOf T_heap_Item.c T_heap_Item.d x1))] (.one (.osl 99999 x1.length)), (2 : Int) ≠ 0] (by kernel_rfl) ⟨(g_slices_Clone_doorman_heap_Item_doorman_heap_Item_own a0 x1 q1), (by decide), trivial⟩ (g_heap_Make_c0_ok S0 w0    (((sub64 (IntKind.wrap .i64 (Int.tdiv ((x1.length : Nat) : Int) (2 : Int))) (1 : Int)) - (0 : Int)).toNat + 2) (sub64 (IntKind.wrap .i64 (Int.tdiv ((x1.length : Nat) : Int) (2 : Int))) (1 : Int)) x1 r hf)

theorem g_heap_Make_ok (a0 : (List T_heap_Item)) (r : (List T_heap_Item)) (hf : g_heap_Make a0 = some r) : SCall Try.prog 140 [.one (cL 5 T_heap_Item.c T_heap_Item.d a0)] (.one (cL 5 T_heap_Item.c T_heap_Item.d r)) := (g_heap_Make_own a0 r hf).pure

/-- doorman/heap.Pop -/
def g_heap_Pop (a0 : (List T_heap_Item)) : Option (T_heap_Item × (List T_heap_Item) × Bool) :=
  bif (((a0.length : Nat) : Int) == (0 : Int)) then
    some ((T_heap_Item.mk (0 : Int) (T_api_End.mk (T_api_Addr.mk false (0 : Int) (0 : Int)) (0 : Int))), ([] : (List T_heap_Item)), false)
  else
    (g_slices_Clone_doorman_heap_Item_doorman_heap_Item a0).bind fun x1 =>
    need (0 ≤ (sub64 ((x1.length : Nat) : Int) (1 : Int)) ∧ (sub64 ((x1.length : Nat) : Int) (1 : Int)) < ((x1.length : Nat) : Int)) <|
    need (0 ≤ (0 : Int) ∧ (0 : Int) < ((x1.length : Nat) : Int)) <|
    need (0 ≤ (0 : Int) ∧ (0 : Int) ≤ (sub64 ((x1.length : Nat) : Int) (1 : Int)) ∧ (sub64 ((x1.length : Nat) : Int) (1 : Int)) ≤ ((x1.length : Nat) : Int)) <|
    need ((sub64 ((x1.length : Nat) : Int) (1 : Int)).toNat ≤ (x1.set ((0 : Int).toNat) (x1.getD ((sub64 ((x1.length : Nat) : Int) (1 : Int)).toNat) T_heap_Item.d)).length) <|
    (g_heap_down ((x1.set ((0 : Int).toNat) (x1.getD ((sub64 ((x1.length : Nat) : Int) (1 : Int)).toNat) T_heap_Item.d)).take ((sub64 ((x1.length : Nat) : Int) (1 : Int)).toNat)) (0 : Int)).bind fun x2 =>
    need (0 ≤ (0 : Int) ∧ (0 : Int) < ((a0.length : Nat) : Int)) <|
    some ((a0.getD (0 : Int).toNat T_heap_Item.d), x2, true)

theorem g_heap_Pop_ok (a0 : (List T_heap_Item)) (r : (T_heap_Item × (List T_heap_Item) × Bool)) (hf : g_heap_Pop a0 = some r) : SCall Try.prog 110 [.one (cL 5 T_heap_Item.c T_heap_Item.d a0)] (.tup [(true, T_heap_Item.c r.1), (false, (cLs 5 T_heap_Item.c T_heap_Item.d) r.2.1), (false, cB r.2.2)]) := by
  refine SCall.of Try.func110 rfl rfl rfl rfl fun S0 w0 => ?_
  unfold g_heap_Pop at hf
  rcases br_some hf with ⟨h1, hf⟩ | ⟨h1, hf⟩
  · replace hf := Option.some.inj hf
    subst hf
    exact toEnd_good allOk 8 _ _ [⟨[], [], [], [], [], [], []⟩, ⟨[], [], [], [], [], [], []⟩, ⟨[], [], [], [], [], [], []⟩] [true] [] [] [(3, [(0, cL 5 T_heap_Item.c T_heap_Item.d [])])] [(((a0.length : Nat) : Int) == (0 : Int)) = true] (by kernel_rfl) rfl ⟨h1, trivial⟩
  · obtain ⟨x1, q2, hf⟩ := bind_some' hf
    obtain ⟨o3, hf⟩ := need_some hf
    obtain ⟨o4, hf⟩ := need_some hf
    obtain ⟨o5, hf⟩ := need_some hf
    obtain ⟨o6, hf⟩ := need_some hf
    obtain ⟨x2, q7, hf⟩ := bind_some' hf
    obtain ⟨o8, hf⟩ := need_some hf
    replace hf := Option.some.inj hf
    subst hf
    exact toEnd_good allOk 19 _ _ [⟨[], [], [], [], [], [], []⟩, ⟨[], [], [], [], [], [], []⟩, ⟨[], [], [], [], [], [], [(1, ⟨[], [(99999, 12)], [(99999, .rows 186 5 x1.length (rowsOf T_heap_Item.c T_heap_Item.d x1))], .one (.osl 99999 x1.length)⟩)]⟩, ⟨[], [], [], [], [], [], []⟩, ⟨[(6, .c (x1.set ((0 : Int).toNat) (x1.getD ((sub64 ((x1.length : Nat) : Int) (1 : Int)).toNat) T_heap_Item.d)).length (rowsOf T_heap_Item.c T_heap_Item.d (x1.set ((0 : Int).toNat) (x1.getD ((sub64 ((x1.length : Nat) : Int) (1 : Int)).toNat) T_heap_Item.d))))], [], [], [], [], [], []⟩, ⟨[(3, .c ((x1.set ((0 : Int).toNat) (x1.getD ((sub64 ((x1.length : Nat) : Int) (1 : Int)).toNat) T_heap_Item.d)).take ((sub64 ((x1.length : Nat) : Int) (1 : Int)).toNat)).length (rowsOf T_heap_Item.c T_heap_Item.d ((x1.set ((0 : Int).toNat) (x1.getD ((sub64 ((x1.length : Nat) : Int) (1 : Int)).toNat) T_heap_Item.d)).take ((sub64 ((x1.length : Nat) : Int) (1 : Int)).toNat))))], [], [], [], [], [], []⟩, ⟨[], [], [], [], [], [], [(1, ⟨[(100000, 5)], [], [(100000, .rows 186 5 x2.length (rowsOf T_heap_Item.c T_heap_Item.d x2))], .tup []⟩)]⟩, ⟨[], [], [], [], [], [], []⟩] [false] [5] [] [] [(((a0.length : Nat) : Int) == (0 : Int)) = false, HCall Try.prog 141 [] [.one (cL 5 T_heap_Item.c T_heap_Item.d a0)] [(99999, .rows 186 5 x1.length (rowsOf T_heap_Item.c T_heap_Item.d x1))] (.one (.osl 99999 x1.length)), 0 ≤ (sub64 ((x1.length : Nat) : Int) (1 : Int)) ∧ (sub64 ((x1.length : Nat) : Int) (1 : Int)) < ((x1.length : Nat) : Int), (sub64 ((x1.length : Nat) : Int) (1 : Int)).toNat < x1.length, 0 ≤ (0 : Int) ∧ (0 : Int) < ((x1.length : Nat) : Int), (x1.set ((0 : Int).toNat) (x1.getD ((sub64 ((x1.length : Nat) : Int) (1 : Int)).toNat) T_heap_Item.d)).length = x1.length, (0 : Int).toNat < x1.length, ExtU 5 x1.length (rowsOf T_heap_Item.c T_heap_Item.d x1) ((0 : Int).toNat) 0 (T_heap_Item.c (x1.getD ((sub64 ((x1.length : Nat) : Int) (1 : Int)).toNat) T_heap_Item.d)) (rowsOf T_heap_Item.c T_heap_Item.d (x1.set ((0 : Int).toNat) (x1.getD ((sub64 ((x1.length : Nat) : Int) (1 : Int)).toNat) T_heap_Item.d))), 0 ≤ (0 : Int) ∧ (0 : Int) ≤ (sub64 ((x1.length : Nat) : Int) (1 : Int)) ∧ (sub64 ((x1.length : Nat) : Int) (1 : Int)) ≤ ((x1.length : Nat) : Int), 0 = 0, ((x1.set ((0 : Int).toNat) (x1.getD ((sub64 ((x1.length : Nat) : Int) (1 : Int)).toNat) T_heap_Item.d)).take ((sub64 ((x1.length : Nat) : Int) (1 : Int)).toNat)).length = (sub64 ((x1.length : Nat) : Int) (1 : Int)).toNat, ∀ i j, i < (sub64 ((x1.length : Nat) : Int) (1 : Int)).toNat → j < 5 → rowsOf T_heap_Item.c T_heap_Item.d ((x1.set ((0 : Int).toNat) (x1.getD ((sub64 ((x1.length : Nat) : Int) (1 : Int)).toNat) T_heap_Item.d)).take ((sub64 ((x1.length : Nat) : Int) (1 : Int)).toNat)) i j = rowsOf T_heap_Item.c T_heap_Item.d (x1.set ((0 : Int).toNat) (x1.getD ((sub64 ((x1.length : Nat) : Int) (1 : Int)).toNat) T_heap_Item.d)) i j, HCall Try.prog 142 [(100000, .rows 186 5 (((x1.set ((0 : Int).toNat) (x1.getD ((sub64 ((x1.length : Nat) : Int) (1 : Int)).toNat) T_heap_Item.d)).take ((sub64 ((x1.length : Nat) : Int) (1 : Int)).toNat)).length) (rowsOf T_heap_Item.c T_heap_Item.d ((x1.set ((0 : Int).toNat) (x1.getD ((sub64 ((x1.length : Nat) : Int) (1 : Int)).toNat) T_heap_Item.d)).take ((sub64 ((x1.length : Nat) : Int) (1 : Int)).toNat))))] [.one (.osl 100000 (((x1.set ((0 : Int).toNat) (x1.getD ((sub64 ((x1.length : Nat) : Int) (1 : Int)).toNat) T_heap_Item.d)).take ((sub64 ((x1.length : Nat) : Int) (1 : Int)).toNat)).length)), .one (.lit (.int .i64 (0 : Int)))] [(100000, .rows 186 5 x2.length (rowsOf T_heap_Item.c T_heap_Item.d x2))] (.tup []), 0 ≤ (0 : Int) ∧ (0 : Int) < ((a0.length : Nat) : Int)] (by kernel_rfl) rfl ⟨h1, (g_slices_Clone_doorman_heap_Item_doorman_heap_Item_own a0 x1 q2), o3, (ltOf o3), o4, List.length_set, (ltOf o4), (ext_set _ _ _ rfl), o5, rfl, (shr_len _ _ o6), (shr_rows _ _), (g_heap_down_own ((x1.set ((0 : Int).toNat) (x1.getD ((sub64 ((x1.length : Nat) : Int) (1 : Int)).toNat) T_heap_Item.d)).take ((sub64 ((x1.length : Nat) : Int) (1 : Int)).toNat)) (0 : Int) x2 q7), o8, trivial⟩

def g_dial_View_connected_c0   : Nat → (List T_api_Peer) → Int → Int → T_api_End → Option Bool
  | 0, _, _, _, _ => none
  | fu + 1, v8, v9, v10, b3 =>
    bif (decide (v10 < v9)) then
      need (0 ≤ v10 ∧ v10 < ((v8.length : Nat) : Int)) <|
      bif (decide ((v8.getD v10.toNat T_api_Peer.d).fEnd = b3)) then
        some true
      else
        g_dial_View_connected_c0   fu v8 v9 (add64 v10 (1 : Int)) b3
    else
      some false

theorem g_dial_View_connected_c0_ok (S0 : Nat → Prop) (w0 : Start)   : ∀ (fu : Nat) (v8 : (List T_api_Peer)) (v9 : Int) (v10 : Int) (b3 : T_api_End) (r : Bool), g_dial_View_connected_c0   fu v8 v9 v10 b3 = some r → Good Try.prog 19 S0 w0 (bodyPost Try.prog Try.f143 (Post S0 w0 (.one (.lit (.bool r))))) (at_ [1, 0, 1, 0] (bodyOf Try.f143)) ⟨[(3, .one (.ptr 3 0)), (8, .one (cL 10 T_api_Peer.c T_api_Peer.d v8)), (9, .one (.lit (.int .i64 v9))), (10, .one (.lit (.int .i64 v10)))], [(3, .box [.lit (.bool b3.fAddr.fV6), .lit (.int .u64 b3.fAddr.fHi), .lit (.int .u64 b3.fAddr.fLo), .lit (.int .i64 b3.fPort)])]⟩ := by
  intro fu
  induction fu with
  | zero =>
    intro v8 v9 v10 b3 r hf
    simp [g_dial_View_connected_c0] at hf
  | succ fu ih =>
    intro v8 v9 v10 b3 r hf
    unfold g_dial_View_connected_c0 at hf
    rcases br_some hf with ⟨h1, hf⟩ | ⟨h1, hf⟩
    · obtain ⟨o2, hf⟩ := need_some hf
      rcases br_some hf with ⟨h3, hf⟩ | ⟨h3, hf⟩
      · replace hf := Option.some.inj hf
        subst hf
        exact toEnd_good allOk 15 _ _ [⟨[], [], [], [], [], [], []⟩, ⟨[], [], [], [], [], [], []⟩, ⟨[(3, .r (.one (.lit (.bool (decide ((v8.getD v10.toNat T_api_Peer.d).fEnd = b3))))) [])], [], [], [], [], [], []⟩, ⟨[], [], [], [], [], [], []⟩] [true, true] [] [] [] [(decide (v10 < v9)) = true, 0 ≤ v10 ∧ v10 < ((v8.length : Nat) : Int), ∀ w, (do eqGuard .eql 35 (.tmp 15) (.tmp 16) (.agg #[.bool ((((v8.getD v10.toNat T_api_Peer.d).fEnd).fAddr).fV6), .int .u64 ((((v8.getD v10.toNat T_api_Peer.d).fEnd).fAddr).fHi), .int .u64 ((((v8.getD v10.toNat T_api_Peer.d).fEnd).fAddr).fLo), .int .i64 (((v8.getD v10.toNat T_api_Peer.d).fEnd).fPort)]) (.agg #[.bool b3.fAddr.fV6, .int .u64 b3.fAddr.fHi, .int .u64 b3.fAddr.fLo, .int .i64 b3.fPort]); binOp .eql 35 (.agg #[.bool ((((v8.getD v10.toNat T_api_Peer.d).fEnd).fAddr).fV6), .int .u64 ((((v8.getD v10.toNat T_api_Peer.d).fEnd).fAddr).fHi), .int .u64 ((((v8.getD v10.toNat T_api_Peer.d).fEnd).fAddr).fLo), .int .i64 (((v8.getD v10.toNat T_api_Peer.d).fEnd).fPort)]) (.agg #[.bool b3.fAddr.fV6, .int .u64 b3.fAddr.fHi, .int .u64 b3.fAddr.fLo, .int .i64 b3.fPort]) : Sem Value).run Try.prog w = .ok (.bool (decide ((v8.getD v10.toNat T_api_Peer.d).fEnd = b3))) w, (decide ((v8.getD v10.toNat T_api_Peer.d).fEnd = b3)) = true] (by kernel_rfl) rfl ⟨h1, o2, (eql_T_api_End ((v8.getD v10.toNat T_api_Peer.d).fEnd) b3 _ _), h3, trivial⟩
      · exact toK_good allOk Post.ends 17 _ _ _ _ [⟨[], [], [], [], [], [], []⟩, ⟨[], [], [], [], [], [], []⟩, ⟨[(3, .r (.one (.lit (.bool (decide ((v8.getD v10.toNat T_api_Peer.d).fEnd = b3))))) [])], [], [], [], [], [], []⟩, ⟨[], [], [], [], [], [], []⟩] [true, false] ⟨[], [], [], [], [], [3, 8, 9, 10], [3], []⟩ [(decide (v10 < v9)) = true, 0 ≤ v10 ∧ v10 < ((v8.length : Nat) : Int), ∀ w, (do eqGuard .eql 35 (.tmp 15) (.tmp 16) (.agg #[.bool ((((v8.getD v10.toNat T_api_Peer.d).fEnd).fAddr).fV6), .int .u64 ((((v8.getD v10.toNat T_api_Peer.d).fEnd).fAddr).fHi), .int .u64 ((((v8.getD v10.toNat T_api_Peer.d).fEnd).fAddr).fLo), .int .i64 (((v8.getD v10.toNat T_api_Peer.d).fEnd).fPort)]) (.agg #[.bool b3.fAddr.fV6, .int .u64 b3.fAddr.fHi, .int .u64 b3.fAddr.fLo, .int .i64 b3.fPort]); binOp .eql 35 (.agg #[.bool ((((v8.getD v10.toNat T_api_Peer.d).fEnd).fAddr).fV6), .int .u64 ((((v8.getD v10.toNat T_api_Peer.d).fEnd).fAddr).fHi), .int .u64 ((((v8.getD v10.toNat T_api_Peer.d).fEnd).fAddr).fLo), .int .i64 (((v8.getD v10.toNat T_api_Peer.d).fEnd).fPort)]) (.agg #[.bool b3.fAddr.fV6, .int .u64 b3.fAddr.fHi, .int .u64 b3.fAddr.fLo, .int .i64 b3.fPort]) : Sem Value).run Try.prog w = .ok (.bool (decide ((v8.getD v10.toNat T_api_Peer.d).fEnd = b3))) w, (decide ((v8.getD v10.toNat T_api_Peer.d).fEnd = b3)) = false] (by kernel_rfl) ⟨h1, o2, (eql_T_api_End ((v8.getD v10.toNat T_api_Peer.d).fEnd) b3 _ _), h3, trivial⟩ (ih v8 v9 (add64 v10 (1 : Int)) b3 r hf)
    · replace hf := Option.some.inj hf
      subst hf
      exact toEnd_good allOk 8 _ _ [⟨[], [], [], [], [], [], []⟩, ⟨[], [], [], [], [], [], []⟩] [false] [] [] [] [(decide (v10 < v9)) = false] (by kernel_rfl) rfl ⟨h1, trivial⟩

/-- (doorman/dial.View).connected -/
def g_dial_View_connected (a0 : T_dial_View) (a1 : T_api_End) : Option Bool :=
  g_dial_View_connected_c0   ((((a0.fPeers.length : Nat) : Int) - (0 : Int)).toNat + 2) a0.fPeers ((a0.fPeers.length : Nat) : Int) (0 : Int) a1

theorem g_dial_View_connected_ok (a0 : T_dial_View) (a1 : T_api_End) (r : Bool) (hf : g_dial_View_connected a0 a1 = some r) : SCall Try.prog 143 [.agg (T_dial_View.c a0), .agg (T_api_End.c a1)] (.one (.lit (.bool r))) := by
  refine SCall.of Try.func143 rfl rfl rfl rfl fun S0 w0 => ?_
  unfold g_dial_View_connected at hf
  exact toK_good allOk Post.ends 6 _ _ _ _ [⟨[], [], [], [], [], [], []⟩, ⟨[], [], [], [], [], [], []⟩] [] ⟨[], [], [], [], [], [3, 8, 9, 10], [3], []⟩ [] (by kernel_rfl) trivial (g_dial_View_connected_c0_ok S0 w0    ((((a0.fPeers.length : Nat) : Int) - (0 : Int)).toNat + 2) a0.fPeers ((a0.fPeers.length : Nat) : Int) (0 : Int) a1 r hf)

/-- doorman/trie.New -/
def g_trie_New  : Option N_trie_Trie :=
  some (N_trie_Trie.mk N_trie_node.nil N_trie_node.nil (0 : Int))

theorem g_trie_New_ok  (r : N_trie_Trie) (hf : g_trie_New  = some r) : SCall Try.prog 39 [] (.one (N_trie_Trie.c r)) := by
  refine SCall.of Try.func39 rfl rfl rfl rfl fun S0 w0 => ?_
  unfold g_trie_New at hf
  replace hf := Option.some.inj hf
  subst hf
  exact toEnd_good allOk 4 _ _ [⟨[], [], [], [], [], [], []⟩, ⟨[], [], [], [], [(0, [(0, N_trie_node.c N_trie_node.nil), (1, N_trie_node.c N_trie_node.nil)])], [], []⟩] [] [2] [] [] [] (by kernel_rfl) rfl trivial

/-- doorman/addr.Bits -/
def g_addr_Bits (a0 : T_api_Addr) : Option Int :=
  bif a0.fV6 then
    some (128 : Int)
  else
    some (32 : Int)

theorem g_addr_Bits_ok (a0 : T_api_Addr) (r : Int) (hf : g_addr_Bits a0 = some r) : SCall Try.prog 135 [.agg (T_api_Addr.c a0)] (.one (.lit (.int .i64 r))) := by
  refine SCall.of Try.func135 rfl rfl rfl rfl fun S0 w0 => ?_
  unfold g_addr_Bits at hf
  rcases br_some hf with ⟨h1, hf⟩ | ⟨h1, hf⟩
  · replace hf := Option.some.inj hf
    subst hf
    exact toEnd_good allOk 8 _ _ [⟨[], [], [], [], [], [], []⟩, ⟨[], [], [], [], [], [], []⟩, ⟨[], [], [], [], [], [], []⟩] [true] [] [] [] [a0.fV6 = true] (by kernel_rfl) rfl ⟨h1, trivial⟩
  · replace hf := Option.some.inj hf
    subst hf
    exact toEnd_good allOk 9 _ _ [⟨[], [], [], [], [], [], []⟩, ⟨[], [], [], [], [], [], []⟩, ⟨[], [], [], [], [], [], []⟩] [false] [] [] [] [a0.fV6 = false] (by kernel_rfl) rfl ⟨h1, trivial⟩

/-- math/bits.ReverseBytes64 -/
def g_math_bits_ReverseBytes64 (a0 : Int) : Option Int :=
  some (IntKind.wrap .u64 (((BitVec.ofInt (IntKind.bits .u64) (Int.fdiv (IntKind.wrap .u64 (((BitVec.ofInt (IntKind.bits .u64) (IntKind.wrap .u64 (((BitVec.ofInt (IntKind.bits .u64) (Int.fdiv (IntKind.wrap .u64 (((BitVec.ofInt (IntKind.bits .u64) (IntKind.wrap .u64 (((BitVec.ofInt (IntKind.bits .u64) (Int.fdiv a0 (2 ^ (min (8 : Int).toNat (IntKind.bits .u64))))) &&& (BitVec.ofInt (IntKind.bits .u64) (71777214294589695 : Int))).toNat : Int))) ||| (BitVec.ofInt (IntKind.bits .u64) (IntKind.wrap .u64 ((IntKind.wrap .u64 (((BitVec.ofInt (IntKind.bits .u64) a0) &&& (BitVec.ofInt (IntKind.bits .u64) (71777214294589695 : Int))).toNat : Int)) * 2 ^ (min (8 : Int).toNat (IntKind.bits .u64)))))).toNat : Int)) (2 ^ (min (16 : Int).toNat (IntKind.bits .u64))))) &&& (BitVec.ofInt (IntKind.bits .u64) (281470681808895 : Int))).toNat : Int))) ||| (BitVec.ofInt (IntKind.bits .u64) (IntKind.wrap .u64 ((IntKind.wrap .u64 (((BitVec.ofInt (IntKind.bits .u64) (IntKind.wrap .u64 (((BitVec.ofInt (IntKind.bits .u64) (IntKind.wrap .u64 (((BitVec.ofInt (IntKind.bits .u64) (Int.fdiv a0 (2 ^ (min (8 : Int).toNat (IntKind.bits .u64))))) &&& (BitVec.ofInt (IntKind.bits .u64) (71777214294589695 : Int))).toNat : Int))) ||| (BitVec.ofInt (IntKind.bits .u64) (IntKind.wrap .u64 ((IntKind.wrap .u64 (((BitVec.ofInt (IntKind.bits .u64) a0) &&& (BitVec.ofInt (IntKind.bits .u64) (71777214294589695 : Int))).toNat : Int)) * 2 ^ (min (8 : Int).toNat (IntKind.bits .u64)))))).toNat : Int))) &&& (BitVec.ofInt (IntKind.bits .u64) (281470681808895 : Int))).toNat : Int)) * 2 ^ (min (16 : Int).toNat (IntKind.bits .u64)))))).toNat : Int)) (2 ^ (min (32 : Int).toNat (IntKind.bits .u64))))) ||| (BitVec.ofInt (IntKind.bits .u64) (IntKind.wrap .u64 ((IntKind.wrap .u64 (((BitVec.ofInt (IntKind.bits .u64) (IntKind.wrap .u64 (((BitVec.ofInt (IntKind.bits .u64) (Int.fdiv (IntKind.wrap .u64 (((BitVec.ofInt (IntKind.bits .u64) (IntKind.wrap .u64 (((BitVec.ofInt (IntKind.bits .u64) (Int.fdiv a0 (2 ^ (min (8 : Int).toNat (IntKind.bits .u64))))) &&& (BitVec.ofInt (IntKind.bits .u64) (71777214294589695 : Int))).toNat : Int))) ||| (BitVec.ofInt (IntKind.bits .u64) (IntKind.wrap .u64 ((IntKind.wrap .u64 (((BitVec.ofInt (IntKind.bits .u64) a0) &&& (BitVec.ofInt (IntKind.bits .u64) (71777214294589695 : Int))).toNat : Int)) * 2 ^ (min (8 : Int).toNat (IntKind.bits .u64)))))).toNat : Int)) (2 ^ (min (16 : Int).toNat (IntKind.bits .u64))))) &&& (BitVec.ofInt (IntKind.bits .u64) (281470681808895 : Int))).toNat : Int))) ||| (BitVec.ofInt (IntKind.bits .u64) (IntKind.wrap .u64 ((IntKind.wrap .u64 (((BitVec.ofInt (IntKind.bits .u64) (IntKind.wrap .u64 (((BitVec.ofInt (IntKind.bits .u64) (IntKind.wrap .u64 (((BitVec.ofInt (IntKind.bits .u64) (Int.fdiv a0 (2 ^ (min (8 : Int).toNat (IntKind.bits .u64))))) &&& (BitVec.ofInt (IntKind.bits .u64) (71777214294589695 : Int))).toNat : Int))) ||| (BitVec.ofInt (IntKind.bits .u64) (IntKind.wrap .u64 ((IntKind.wrap .u64 (((BitVec.ofInt (IntKind.bits .u64) a0) &&& (BitVec.ofInt (IntKind.bits .u64) (71777214294589695 : Int))).toNat : Int)) * 2 ^ (min (8 : Int).toNat (IntKind.bits .u64)))))).toNat : Int))) &&& (BitVec.ofInt (IntKind.bits .u64) (281470681808895 : Int))).toNat : Int)) * 2 ^ (min (16 : Int).toNat (IntKind.bits .u64)))))).toNat : Int)) * 2 ^ (min (32 : Int).toNat (IntKind.bits .u64)))))).toNat : Int))

theorem g_math_bits_ReverseBytes64_ok (a0 : Int) (r : Int) (hf : g_math_bits_ReverseBytes64 a0 = some r) : SCall Try.prog 172 [.one (.lit (.int .u64 a0))] (.one (.lit (.int .u64 r))) := by
  refine SCall.of Try.func172 rfl rfl rfl rfl fun S0 w0 => ?_
  unfold g_math_bits_ReverseBytes64 at hf
  replace hf := Option.some.inj hf
  subst hf
  exact toEnd_good allOk 8 _ _ [⟨[], [], [], [], [], [], []⟩, ⟨[], [], [], [], [], [], []⟩, ⟨[], [], [], [], [], [], []⟩, ⟨[], [], [], [], [], [], []⟩] [] [] [] [] [0 ≤ (8 : Int), 0 ≤ (8 : Int), 0 ≤ (16 : Int), 0 ≤ (16 : Int), 0 ≤ (32 : Int), 0 ≤ (32 : Int)] (by kernel_rfl) rfl ⟨(by decide), (by decide), (by decide), (by decide), (by decide), (by decide), trivial⟩

/-- math/bits.Reverse64 -/
def g_math_bits_Reverse64 (a0 : Int) : Option Int :=
  (g_math_bits_ReverseBytes64 (IntKind.wrap .u64 (((BitVec.ofInt (IntKind.bits .u64) (IntKind.wrap .u64 (((BitVec.ofInt (IntKind.bits .u64) (Int.fdiv (IntKind.wrap .u64 (((BitVec.ofInt (IntKind.bits .u64) (IntKind.wrap .u64 (((BitVec.ofInt (IntKind.bits .u64) (Int.fdiv (IntKind.wrap .u64 (((BitVec.ofInt (IntKind.bits .u64) (IntKind.wrap .u64 (((BitVec.ofInt (IntKind.bits .u64) (Int.fdiv a0 (2 ^ (min (1 : Int).toNat (IntKind.bits .u64))))) &&& (BitVec.ofInt (IntKind.bits .u64) (6148914691236517205 : Int))).toNat : Int))) ||| (BitVec.ofInt (IntKind.bits .u64) (IntKind.wrap .u64 ((IntKind.wrap .u64 (((BitVec.ofInt (IntKind.bits .u64) a0) &&& (BitVec.ofInt (IntKind.bits .u64) (6148914691236517205 : Int))).toNat : Int)) * 2 ^ (min (1 : Int).toNat (IntKind.bits .u64)))))).toNat : Int)) (2 ^ (min (2 : Int).toNat (IntKind.bits .u64))))) &&& (BitVec.ofInt (IntKind.bits .u64) (3689348814741910323 : Int))).toNat : Int))) ||| (BitVec.ofInt (IntKind.bits .u64) (IntKind.wrap .u64 ((IntKind.wrap .u64 (((BitVec.ofInt (IntKind.bits .u64) (IntKind.wrap .u64 (((BitVec.ofInt (IntKind.bits .u64) (IntKind.wrap .u64 (((BitVec.ofInt (IntKind.bits .u64) (Int.fdiv a0 (2 ^ (min (1 : Int).toNat (IntKind.bits .u64))))) &&& (BitVec.ofInt (IntKind.bits .u64) (6148914691236517205 : Int))).toNat : Int))) ||| (BitVec.ofInt (IntKind.bits .u64) (IntKind.wrap .u64 ((IntKind.wrap .u64 (((BitVec.ofInt (IntKind.bits .u64) a0) &&& (BitVec.ofInt (IntKind.bits .u64) (6148914691236517205 : Int))).toNat : Int)) * 2 ^ (min (1 : Int).toNat (IntKind.bits .u64)))))).toNat : Int))) &&& (BitVec.ofInt (IntKind.bits .u64) (3689348814741910323 : Int))).toNat : Int)) * 2 ^ (min (2 : Int).toNat (IntKind.bits .u64)))))).toNat : Int)) (2 ^ (min (4 : Int).toNat (IntKind.bits .u64))))) &&& (BitVec.ofInt (IntKind.bits .u64) (1085102592571150095 : Int))).toNat : Int))) ||| (BitVec.ofInt (IntKind.bits .u64) (IntKind.wrap .u64 ((IntKind.wrap .u64 (((BitVec.ofInt (IntKind.bits .u64) (IntKind.wrap .u64 (((BitVec.ofInt (IntKind.bits .u64) (IntKind.wrap .u64 (((BitVec.ofInt (IntKind.bits .u64) (Int.fdiv (IntKind.wrap .u64 (((BitVec.ofInt (IntKind.bits .u64) (IntKind.wrap .u64 (((BitVec.ofInt (IntKind.bits .u64) (Int.fdiv a0 (2 ^ (min (1 : Int).toNat (IntKind.bits .u64))))) &&& (BitVec.ofInt (IntKind.bits .u64) (6148914691236517205 : Int))).toNat : Int))) ||| (BitVec.ofInt (IntKind.bits .u64) (IntKind.wrap .u64 ((IntKind.wrap .u64 (((BitVec.ofInt (IntKind.bits .u64) a0) &&& (BitVec.ofInt (IntKind.bits .u64) (6148914691236517205 : Int))).toNat : Int)) * 2 ^ (min (1 : Int).toNat (IntKind.bits .u64)))))).toNat : Int)) (2 ^ (min (2 : Int).toNat (IntKind.bits .u64))))) &&& (BitVec.ofInt (IntKind.bits .u64) (3689348814741910323 : Int))).toNat : Int))) ||| (BitVec.ofInt (IntKind.bits .u64) (IntKind.wrap .u64 ((IntKind.wrap .u64 (((BitVec.ofInt (IntKind.bits .u64) (IntKind.wrap .u64 (((BitVec.ofInt (IntKind.bits .u64) (IntKind.wrap .u64 (((BitVec.ofInt (IntKind.bits .u64) (Int.fdiv a0 (2 ^ (min (1 : Int).toNat (IntKind.bits .u64))))) &&& (BitVec.ofInt (IntKind.bits .u64) (6148914691236517205 : Int))).toNat : Int))) ||| (BitVec.ofInt (IntKind.bits .u64) (IntKind.wrap .u64 ((IntKind.wrap .u64 (((BitVec.ofInt (IntKind.bits .u64) a0) &&& (BitVec.ofInt (IntKind.bits .u64) (6148914691236517205 : Int))).toNat : Int)) * 2 ^ (min (1 : Int).toNat (IntKind.bits .u64)))))).toNat : Int))) &&& (BitVec.ofInt (IntKind.bits .u64) (3689348814741910323 : Int))).toNat : Int)) * 2 ^ (min (2 : Int).toNat (IntKind.bits .u64)))))).toNat : Int))) &&& (BitVec.ofInt (IntKind.bits .u64) (1085102592571150095 : Int))).toNat : Int)) * 2 ^ (min (4 : Int).toNat (IntKind.bits .u64)))))).toNat : Int))).bind fun x1 =>
  some x1

theorem g_math_bits_Reverse64_ok (a0 : Int) (r : Int) (hf : g_math_bits_Reverse64 a0 = some r) : SCall Try.prog 162 [.one (.lit (.int .u64 a0))] (.one (.lit (.int .u64 r))) := by
  refine SCall.of Try.func162 rfl rfl rfl rfl fun S0 w0 => ?_
  unfold g_math_bits_Reverse64 at hf
  obtain ⟨x1, q1, hf⟩ := bind_some' hf
  replace hf := Option.some.inj hf
  subst hf
  exact toEnd_good allOk 10 _ _ [⟨[], [], [], [], [], [], []⟩, ⟨[], [], [], [], [], [], []⟩, ⟨[], [], [], [], [], [], []⟩, ⟨[], [], [], [], [], [], []⟩, ⟨[(1, .r (.one (.lit (.int .u64 x1))) [])], [], [], [], [], [], []⟩] [] [] [] [] [0 ≤ (1 : Int), 0 ≤ (1 : Int), 0 ≤ (2 : Int), 0 ≤ (2 : Int), 0 ≤ (4 : Int), 0 ≤ (4 : Int), SCall Try.prog 172 [.one (.lit (.int .u64 (IntKind.wrap .u64 (((BitVec.ofInt (IntKind.bits .u64) (IntKind.wrap .u64 (((BitVec.ofInt (IntKind.bits .u64) (Int.fdiv (IntKind.wrap .u64 (((BitVec.ofInt (IntKind.bits .u64) (IntKind.wrap .u64 (((BitVec.ofInt (IntKind.bits .u64) (Int.fdiv (IntKind.wrap .u64 (((BitVec.ofInt (IntKind.bits .u64) (IntKind.wrap .u64 (((BitVec.ofInt (IntKind.bits .u64) (Int.fdiv a0 (2 ^ (min (1 : Int).toNat (IntKind.bits .u64))))) &&& (BitVec.ofInt (IntKind.bits .u64) (6148914691236517205 : Int))).toNat : Int))) ||| (BitVec.ofInt (IntKind.bits .u64) (IntKind.wrap .u64 ((IntKind.wrap .u64 (((BitVec.ofInt (IntKind.bits .u64) a0) &&& (BitVec.ofInt (IntKind.bits .u64) (6148914691236517205 : Int))).toNat : Int)) * 2 ^ (min (1 : Int).toNat (IntKind.bits .u64)))))).toNat : Int)) (2 ^ (min (2 : Int).toNat (IntKind.bits .u64))))) &&& (BitVec.ofInt (IntKind.bits .u64) (3689348814741910323 : Int))).toNat : Int))) ||| (BitVec.ofInt (IntKind.bits .u64) (IntKind.wrap .u64 ((IntKind.wrap .u64 (((BitVec.ofInt (IntKind.bits .u64) (IntKind.wrap .u64 (((BitVec.ofInt (IntKind.bits .u64) (IntKind.wrap .u64 (((BitVec.ofInt (IntKind.bits .u64) (Int.fdiv a0 (2 ^ (min (1 : Int).toNat (IntKind.bits .u64))))) &&& (BitVec.ofInt (IntKind.bits .u64) (6148914691236517205 : Int))).toNat : Int))) ||| (BitVec.ofInt (IntKind.bits .u64) (IntKind.wrap .u64 ((IntKind.wrap .u64 (((BitVec.ofInt (IntKind.bits .u64) a0) &&& (BitVec.ofInt (IntKind.bits .u64) (6148914691236517205 : Int))).toNat : Int)) * 2 ^ (min (1 : Int).toNat (IntKind.bits .u64)))))).toNat : Int))) &&& (BitVec.ofInt (IntKind.bits .u64) (3689348814741910323 : Int))).toNat : Int)) * 2 ^ (min (2 : Int).toNat (IntKind.bits .u64)))))).toNat : Int)) (2 ^ (min (4 : Int).toNat (IntKind.bits .u64))))) &&& (BitVec.ofInt (IntKind.bits .u64) (1085102592571150095 : Int))).toNat : Int))) ||| (BitVec.ofInt (IntKind.bits .u64) (IntKind.wrap .u64 ((IntKind.wrap .u64 (((BitVec.ofInt (IntKind.bits .u64) (IntKind.wrap .u64 (((BitVec.ofInt (IntKind.bits .u64) (IntKind.wrap .u64 (((BitVec.ofInt (IntKind.bits .u64) (Int.fdiv (IntKind.wrap .u64 (((BitVec.ofInt (IntKind.bits .u64) (IntKind.wrap .u64 (((BitVec.ofInt (IntKind.bits .u64) (Int.fdiv a0 (2 ^ (min (1 : Int).toNat (IntKind.bits .u64))))) &&& (BitVec.ofInt (IntKind.bits .u64) (6148914691236517205 : Int))).toNat : Int))) ||| (BitVec.ofInt (IntKind.bits .u64) (IntKind.wrap .u64 ((IntKind.wrap .u64 (((BitVec.ofInt (IntKind.bits .u64) a0) &&& (BitVec.ofInt (IntKind.bits .u64) (6148914691236517205 : Int))).toNat : Int)) * 2 ^ (min (1 : Int).toNat (IntKind.bits .u64)))))).toNat : Int)) (2 ^ (min (2 : Int).toNat (IntKind.bits .u64))))) &&& (BitVec.ofInt (IntKind.bits .u64) (3689348814741910323 : Int))).toNat : Int))) ||| (BitVec.ofInt (IntKind.bits .u64) (IntKind.wrap .u64 ((IntKind.wrap .u64 (((BitVec.ofInt (IntKind.bits .u64) (IntKind.wrap .u64 (((BitVec.ofInt (IntKind.bits .u64) (IntKind.wrap .u64 (((BitVec.ofInt (IntKind.bits .u64) (Int.fdiv a0 (2 ^ (min (1 : Int).toNat (IntKind.bits .u64))))) &&& (BitVec.ofInt (IntKind.bits .u64) (6148914691236517205 : Int))).toNat : Int))) ||| (BitVec.ofInt (IntKind.bits .u64) (IntKind.wrap .u64 ((IntKind.wrap .u64 (((BitVec.ofInt (IntKind.bits .u64) a0) &&& (BitVec.ofInt (IntKind.bits .u64) (6148914691236517205 : Int))).toNat : Int)) * 2 ^ (min (1 : Int).toNat (IntKind.bits .u64)))))).toNat : Int))) &&& (BitVec.ofInt (IntKind.bits .u64) (3689348814741910323 : Int))).toNat : Int)) * 2 ^ (min (2 : Int).toNat (IntKind.bits .u64)))))).toNat : Int))) &&& (BitVec.ofInt (IntKind.bits .u64) (1085102592571150095 : Int))).toNat : Int)) * 2 ^ (min (4 : Int).toNat (IntKind.bits .u64)))))).toNat : Int))))] (.one (.lit (.int .u64 x1)))] (by kernel_rfl) rfl ⟨(by decide), (by decide), (by decide), (by decide), (by decide), (by decide), (g_math_bits_ReverseBytes64_ok (IntKind.wrap .u64 (((BitVec.ofInt (IntKind.bits .u64) (IntKind.wrap .u64 (((BitVec.ofInt (IntKind.bits .u64) (Int.fdiv (IntKind.wrap .u64 (((BitVec.ofInt (IntKind.bits .u64) (IntKind.wrap .u64 (((BitVec.ofInt (IntKind.bits .u64) (Int.fdiv (IntKind.wrap .u64 (((BitVec.ofInt (IntKind.bits .u64) (IntKind.wrap .u64 (((BitVec.ofInt (IntKind.bits .u64) (Int.fdiv a0 (2 ^ (min (1 : Int).toNat (IntKind.bits .u64))))) &&& (BitVec.ofInt (IntKind.bits .u64) (6148914691236517205 : Int))).toNat : Int))) ||| (BitVec.ofInt (IntKind.bits .u64) (IntKind.wrap .u64 ((IntKind.wrap .u64 (((BitVec.ofInt (IntKind.bits .u64) a0) &&& (BitVec.ofInt (IntKind.bits .u64) (6148914691236517205 : Int))).toNat : Int)) * 2 ^ (min (1 : Int).toNat (IntKind.bits .u64)))))).toNat : Int)) (2 ^ (min (2 : Int).toNat (IntKind.bits .u64))))) &&& (BitVec.ofInt (IntKind.bits .u64) (3689348814741910323 : Int))).toNat : Int))) ||| (BitVec.ofInt (IntKind.bits .u64) (IntKind.wrap .u64 ((IntKind.wrap .u64 (((BitVec.ofInt (IntKind.bits .u64) (IntKind.wrap .u64 (((BitVec.ofInt (IntKind.bits .u64) (IntKind.wrap .u64 (((BitVec.ofInt (IntKind.bits .u64) (Int.fdiv a0 (2 ^ (min (1 : Int).toNat (IntKind.bits .u64))))) &&& (BitVec.ofInt (IntKind.bits .u64) (6148914691236517205 : Int))).toNat : Int))) ||| (BitVec.ofInt (IntKind.bits .u64) (IntKind.wrap .u64 ((IntKind.wrap .u64 (((BitVec.ofInt (IntKind.bits .u64) a0) &&& (BitVec.ofInt (IntKind.bits .u64) (6148914691236517205 : Int))).toNat : Int)) * 2 ^ (min (1 : Int).toNat (IntKind.bits .u64)))))).toNat : Int))) &&& (BitVec.ofInt (IntKind.bits .u64) (3689348814741910323 : Int))).toNat : Int)) * 2 ^ (min (2 : Int).toNat (IntKind.bits .u64)))))).toNat : Int)) (2 ^ (min (4 : Int).toNat (IntKind.bits .u64))))) &&& (BitVec.ofInt (IntKind.bits .u64) (1085102592571150095 : Int))).toNat : Int))) ||| (BitVec.ofInt (IntKind.bits .u64) (IntKind.wrap .u64 ((IntKind.wrap .u64 (((BitVec.ofInt (IntKind.bits .u64) (IntKind.wrap .u64 (((BitVec.ofInt (IntKind.bits .u64) (IntKind.wrap .u64 (((BitVec.ofInt (IntKind.bits .u64) (Int.fdiv (IntKind.wrap .u64 (((BitVec.ofInt (IntKind.bits .u64) (IntKind.wrap .u64 (((BitVec.ofInt (IntKind.bits .u64) (Int.fdiv a0 (2 ^ (min (1 : Int).toNat (IntKind.bits .u64))))) &&& (BitVec.ofInt (IntKind.bits .u64) (6148914691236517205 : Int))).toNat : Int))) ||| (BitVec.ofInt (IntKind.bits .u64) (IntKind.wrap .u64 ((IntKind.wrap .u64 (((BitVec.ofInt (IntKind.bits .u64) a0) &&& (BitVec.ofInt (IntKind.bits .u64) (6148914691236517205 : Int))).toNat : Int)) * 2 ^ (min (1 : Int).toNat (IntKind.bits .u64)))))).toNat : Int)) (2 ^ (min (2 : Int).toNat (IntKind.bits .u64))))) &&& (BitVec.ofInt (IntKind.bits .u64) (3689348814741910323 : Int))).toNat : Int))) ||| (BitVec.ofInt (IntKind.bits .u64) (IntKind.wrap .u64 ((IntKind.wrap .u64 (((BitVec.ofInt (IntKind.bits .u64) (IntKind.wrap .u64 (((BitVec.ofInt (IntKind.bits .u64) (IntKind.wrap .u64 (((BitVec.ofInt (IntKind.bits .u64) (Int.fdiv a0 (2 ^ (min (1 : Int).toNat (IntKind.bits .u64))))) &&& (BitVec.ofInt (IntKind.bits .u64) (6148914691236517205 : Int))).toNat : Int))) ||| (BitVec.ofInt (IntKind.bits .u64) (IntKind.wrap .u64 ((IntKind.wrap .u64 (((BitVec.ofInt (IntKind.bits .u64) a0) &&& (BitVec.ofInt (IntKind.bits .u64) (6148914691236517205 : Int))).toNat : Int)) * 2 ^ (min (1 : Int).toNat (IntKind.bits .u64)))))).toNat : Int))) &&& (BitVec.ofInt (IntKind.bits .u64) (3689348814741910323 : Int))).toNat : Int)) * 2 ^ (min (2 : Int).toNat (IntKind.bits .u64)))))).toNat : Int))) &&& (BitVec.ofInt (IntKind.bits .u64) (1085102592571150095 : Int))).toNat : Int)) * 2 ^ (min (4 : Int).toNat (IntKind.bits .u64)))))).toNat : Int)) x1 q1), trivial⟩

/-- doorman/cidr.top -/
def g_cidr_top (a0 : Int) : Option Int :=
  need (0 ≤ (if (64 : Int) < (if (0 : Int) > a0 then (0 : Int) else a0) then (64 : Int) else (if (0 : Int) > a0 then (0 : Int) else a0))) <|
  (g_math_bits_Reverse64 (IntKind.wrap .u64 ((IntKind.wrap .u64 ((1 : Int) * 2 ^ (min (if (64 : Int) < (if (0 : Int) > a0 then (0 : Int) else a0) then (64 : Int) else (if (0 : Int) > a0 then (0 : Int) else a0)).toNat (IntKind.bits .u64)))) - (1 : Int)))).bind fun x1 =>
  some x1

theorem g_cidr_top_ok (a0 : Int) (r : Int) (hf : g_cidr_top a0 = some r) : SCall Try.prog 152 [.one (.lit (.int .i64 a0))] (.one (.lit (.int .u64 r))) := by
  refine SCall.of Try.func152 rfl rfl rfl rfl fun S0 w0 => ?_
  unfold g_cidr_top at hf
  obtain ⟨o1, hf⟩ := need_some hf
  obtain ⟨x1, q2, hf⟩ := bind_some' hf
  replace hf := Option.some.inj hf
  subst hf
  exact toEnd_good allOk 6 _ _ [⟨[], [], [], [], [], [], []⟩, ⟨[], [], [], [], [], [], []⟩, ⟨[(3, .r (.one (.lit (.int .u64 x1))) [])], [], [], [], [], [], []⟩] [] [] [] [] [0 ≤ (if (64 : Int) < (if (0 : Int) > a0 then (0 : Int) else a0) then (64 : Int) else (if (0 : Int) > a0 then (0 : Int) else a0)), SCall Try.prog 162 [.one (.lit (.int .u64 (IntKind.wrap .u64 ((IntKind.wrap .u64 ((1 : Int) * 2 ^ (min (if (64 : Int) < (if (0 : Int) > a0 then (0 : Int) else a0) then (64 : Int) else (if (0 : Int) > a0 then (0 : Int) else a0)).toNat (IntKind.bits .u64)))) - (1 : Int)))))] (.one (.lit (.int .u64 x1)))] (by kernel_rfl) rfl ⟨o1, (g_math_bits_Reverse64_ok (IntKind.wrap .u64 ((IntKind.wrap .u64 ((1 : Int) * 2 ^ (min (if (64 : Int) < (if (0 : Int) > a0 then (0 : Int) else a0) then (64 : Int) else (if (0 : Int) > a0 then (0 : Int) else a0)).toNat (IntKind.bits .u64)))) - (1 : Int))) x1 q2), trivial⟩

/-- doorman/cidr.masked -/
def g_cidr_masked (a0 : Int) (a1 : Int) (a2 : Int) : Option (Int × Int) :=
  (g_cidr_top a2).bind fun x1 =>
  (g_cidr_top (sub64 a2 (64 : Int))).bind fun x2 =>
  some ((IntKind.wrap .u64 (((BitVec.ofInt (IntKind.bits .u64) a0) &&& (BitVec.ofInt (IntKind.bits .u64) x1)).toNat : Int)), (IntKind.wrap .u64 (((BitVec.ofInt (IntKind.bits .u64) a1) &&& (BitVec.ofInt (IntKind.bits .u64) x2)).toNat : Int)))

theorem g_cidr_masked_ok (a0 : Int) (a1 : Int) (a2 : Int) (r : (Int × Int)) (hf : g_cidr_masked a0 a1 a2 = some r) : SCall Try.prog 153 [.one (.lit (.int .u64 a0)), .one (.lit (.int .u64 a1)), .one (.lit (.int .i64 a2))] (.tup [(false, (cI .u64) r.1), (false, (cI .u64) r.2)]) := by
  refine SCall.of Try.func153 rfl rfl rfl rfl fun S0 w0 => ?_
  unfold g_cidr_masked at hf
  obtain ⟨x1, q1, hf⟩ := bind_some' hf
  obtain ⟨x2, q2, hf⟩ := bind_some' hf
  replace hf := Option.some.inj hf
  subst hf
  exact toEnd_good allOk 4 _ _ [⟨[], [], [], [], [], [], []⟩, ⟨[(2, .r (.one (.lit (.int .u64 x1))) []), (7, .r (.one (.lit (.int .u64 x2))) [])], [], [], [], [], [], []⟩] [] [] [] [] [SCall Try.prog 152 [.one (.lit (.int .i64 a2))] (.one (.lit (.int .u64 x1))), SCall Try.prog 152 [.one (.lit (.int .i64 (sub64 a2 (64 : Int))))] (.one (.lit (.int .u64 x2)))] (by kernel_rfl) rfl ⟨(g_cidr_top_ok a2 x1 q1), (g_cidr_top_ok (sub64 a2 (64 : Int)) x2 q2), trivial⟩

/-- doorman/cidr.Mask -/
def g_cidr_Mask (a0 : T_api_Addr) (a1 : Int) : Option T_api_Addr :=
  (g_addr_Right a0).bind fun x1 =>
  bif (!x1) then
    some (T_api_Addr.mk false (0 : Int) (0 : Int))
  else
    (g_addr_Bits a0).bind fun x2 =>
    bif (!a0.fV6) then
      (g_cidr_top (if x2 < (if (0 : Int) > a1 then (0 : Int) else a1) then x2 else (if (0 : Int) > a1 then (0 : Int) else a1))).bind fun x3 =>
      some (T_api_Addr.mk a0.fV6 a0.fHi (IntKind.wrap .u64 (((BitVec.ofInt (IntKind.bits .u64) a0.fLo) &&& (BitVec.ofInt (IntKind.bits .u64) (Int.fdiv x3 (2 ^ (min (32 : Int).toNat (IntKind.bits .u64)))))).toNat : Int)))
    else
      (g_cidr_masked a0.fHi a0.fLo (if x2 < (if (0 : Int) > a1 then (0 : Int) else a1) then x2 else (if (0 : Int) > a1 then (0 : Int) else a1))).bind fun x4 =>
      some (T_api_Addr.mk a0.fV6 x4.1 x4.2)

theorem g_cidr_Mask_ok (a0 : T_api_Addr) (a1 : Int) (r : T_api_Addr) (hf : g_cidr_Mask a0 a1 = some r) : SCall Try.prog 134 [.agg (T_api_Addr.c a0), .one (.lit (.int .i64 a1))] (.agg (T_api_Addr.c r)) := by
  refine SCall.of Try.func134 rfl rfl rfl rfl fun S0 w0 => ?_
  unfold g_cidr_Mask at hf
  obtain ⟨x1, q1, hf⟩ := bind_some' hf
  rcases br_some hf with ⟨h2, hf⟩ | ⟨h2, hf⟩
  · replace hf := Option.some.inj hf
    subst hf
    exact toEnd_good allOk 8 _ _ [⟨[], [], [], [], [], [], []⟩, ⟨[(1, .r (.one (.lit (.bool x1))) [])], [], [], [], [], [], []⟩, ⟨[], [], [], [], [], [], []⟩] [true] [] [] [] [SCall Try.prog 98 [.agg (T_api_Addr.c a0)] (.one (.lit (.bool x1))), (!x1) = true] (by kernel_rfl) rfl ⟨(g_addr_Right_ok a0 x1 q1), h2, trivial⟩
  · obtain ⟨x2, q3, hf⟩ := bind_some' hf
    rcases br_some hf with ⟨h4, hf⟩ | ⟨h4, hf⟩
    · obtain ⟨x3, q5, hf⟩ := bind_some' hf
      replace hf := Option.some.inj hf
      subst hf
      exact toEnd_good allOk 17 _ _ [⟨[], [], [], [], [], [], []⟩, ⟨[(1, .r (.one (.lit (.bool x1))) [])], [], [], [], [], [], []⟩, ⟨[(3, .r (.one (.lit (.int .i64 x2))) [])], [], [], [], [], [], []⟩, ⟨[], [], [], [], [], [], []⟩, ⟨[(3, .r (.one (.lit (.int .u64 x3))) [])], [], [], [[], [0], [], [2], [3, 2], [1, 0, 4, 3, 2], [0, 1, 2, 3, 4, 5], [6, 0, 1, 2, 3, 4, 5]], [], [], []⟩, ⟨[], [], [], [], [], [], []⟩] [false, true] [] [] [] [SCall Try.prog 98 [.agg (T_api_Addr.c a0)] (.one (.lit (.bool x1))), (!x1) = false, SCall Try.prog 135 [.agg (T_api_Addr.c a0)] (.one (.lit (.int .i64 x2))), (!a0.fV6) = true, SCall Try.prog 152 [.one (.lit (.int .i64 (if x2 < (if (0 : Int) > a1 then (0 : Int) else a1) then x2 else (if (0 : Int) > a1 then (0 : Int) else a1))))] (.one (.lit (.int .u64 x3))), 0 ≤ (32 : Int)] (by kernel_rfl) rfl ⟨(g_addr_Right_ok a0 x1 q1), h2, (g_addr_Bits_ok a0 x2 q3), h4, (g_cidr_top_ok (if x2 < (if (0 : Int) > a1 then (0 : Int) else a1) then x2 else (if (0 : Int) > a1 then (0 : Int) else a1)) x3 q5), (by decide), trivial⟩
    · obtain ⟨x4, q6, hf⟩ := bind_some' hf
      replace hf := Option.some.inj hf
      subst hf
      exact toEnd_good allOk 18 _ _ [⟨[], [], [], [], [], [], []⟩, ⟨[(1, .r (.one (.lit (.bool x1))) [])], [], [], [], [], [], []⟩, ⟨[(3, .r (.one (.lit (.int .i64 x2))) [])], [], [], [], [], [], []⟩, ⟨[], [], [], [], [], [], []⟩, ⟨[(5, .r (.tup [(false, (cI .u64) x4.1), (false, (cI .u64) x4.2)]) [])], [], [], [], [], [], []⟩, ⟨[], [], [], [], [], [], []⟩] [false, false] [] [] [] [SCall Try.prog 98 [.agg (T_api_Addr.c a0)] (.one (.lit (.bool x1))), (!x1) = false, SCall Try.prog 135 [.agg (T_api_Addr.c a0)] (.one (.lit (.int .i64 x2))), (!a0.fV6) = false, SCall Try.prog 153 [.one (.lit (.int .u64 a0.fHi)), .one (.lit (.int .u64 a0.fLo)), .one (.lit (.int .i64 (if x2 < (if (0 : Int) > a1 then (0 : Int) else a1) then x2 else (if (0 : Int) > a1 then (0 : Int) else a1))))] (.tup [(false, (cI .u64) x4.1), (false, (cI .u64) x4.2)])] (by kernel_rfl) rfl ⟨(g_addr_Right_ok a0 x1 q1), h2, (g_addr_Bits_ok a0 x2 q3), h4, (g_cidr_masked_ok a0.fHi a0.fLo (if x2 < (if (0 : Int) > a1 then (0 : Int) else a1) then x2 else (if (0 : Int) > a1 then (0 : Int) else a1)) x4 q6), trivial⟩

/-- doorman/cidr.Make -/
def g_cidr_Make (a0 : T_api_Addr) (a1 : Int) : Option (T_api_Net × Bool) :=
  (g_addr_Right a0).bind fun x1 =>
  bif (!x1) then
    some ((T_api_Net.mk (T_api_Addr.mk false (0 : Int) (0 : Int)) (0 : Int)), false)
  else
    bif (decide (a1 < (0 : Int))) then
      some ((T_api_Net.mk (T_api_Addr.mk false (0 : Int) (0 : Int)) (0 : Int)), false)
    else
      (g_addr_Bits a0).bind fun x2 =>
      bif (decide (a1 > x2)) then
        some ((T_api_Net.mk (T_api_Addr.mk false (0 : Int) (0 : Int)) (0 : Int)), false)
      else
        (g_cidr_Mask a0 a1).bind fun x3 =>
        some ((T_api_Net.mk x3 a1), true)

theorem g_cidr_Make_ok (a0 : T_api_Addr) (a1 : Int) (r : (T_api_Net × Bool)) (hf : g_cidr_Make a0 a1 = some r) : SCall Try.prog 131 [.agg (T_api_Addr.c a0), .one (.lit (.int .i64 a1))] (.tup [(true, T_api_Net.c r.1), (false, cB r.2)]) := by
  refine SCall.of Try.func131 rfl rfl rfl rfl fun S0 w0 => ?_
  unfold g_cidr_Make at hf
  obtain ⟨x1, q1, hf⟩ := bind_some' hf
  rcases br_some hf with ⟨h2, hf⟩ | ⟨h2, hf⟩
  · replace hf := Option.some.inj hf
    subst hf
    exact toEnd_good allOk 8 _ _ [⟨[], [], [], [], [], [], []⟩, ⟨[(1, .r (.one (.lit (.bool x1))) [])], [(3, true)], [], [], [], [], []⟩, ⟨[], [], [], [], [], [], []⟩] [true] [] [] [] [SCall Try.prog 98 [.agg (T_api_Addr.c a0)] (.one (.lit (.bool x1))), (!x1) = true, true = true] (by kernel_rfl) rfl ⟨(g_addr_Right_ok a0 x1 q1), h2, rfl, trivial⟩
  · rcases br_some hf with ⟨h3, hf⟩ | ⟨h3, hf⟩
    · replace hf := Option.some.inj hf
      subst hf
      exact toEnd_good allOk 8 _ _ [⟨[], [], [], [], [], [], []⟩, ⟨[(1, .r (.one (.lit (.bool x1))) [])], [(3, false), (7, true)], [], [], [], [], []⟩, ⟨[], [], [], [], [], [], []⟩] [true] [] [] [] [SCall Try.prog 98 [.agg (T_api_Addr.c a0)] (.one (.lit (.bool x1))), (!x1) = false, (decide (a1 < (0 : Int))) = true, true = true] (by kernel_rfl) rfl ⟨(g_addr_Right_ok a0 x1 q1), h2, h3, rfl, trivial⟩
    · obtain ⟨x2, q4, hf⟩ := bind_some' hf
      rcases br_some hf with ⟨h5, hf⟩ | ⟨h5, hf⟩
      · replace hf := Option.some.inj hf
        subst hf
        exact toEnd_good allOk 8 _ _ [⟨[], [], [], [], [], [], []⟩, ⟨[(1, .r (.one (.lit (.bool x1))) []), (10, .r (.one (.lit (.int .i64 x2))) [])], [(3, false), (7, false)], [], [], [], [], []⟩, ⟨[], [], [], [], [], [], []⟩] [true] [] [] [] [SCall Try.prog 98 [.agg (T_api_Addr.c a0)] (.one (.lit (.bool x1))), (!x1) = false, (decide (a1 < (0 : Int))) = false, SCall Try.prog 135 [.agg (T_api_Addr.c a0)] (.one (.lit (.int .i64 x2))), (decide (a1 > x2)) = true] (by kernel_rfl) rfl ⟨(g_addr_Right_ok a0 x1 q1), h2, h3, (g_addr_Bits_ok a0 x2 q4), h5, trivial⟩
      · obtain ⟨x3, q6, hf⟩ := bind_some' hf
        replace hf := Option.some.inj hf
        subst hf
        exact toEnd_good allOk 9 _ _ [⟨[], [], [], [], [], [], []⟩, ⟨[(1, .r (.one (.lit (.bool x1))) []), (10, .r (.one (.lit (.int .i64 x2))) [])], [(3, false), (7, false)], [], [], [], [], []⟩, ⟨[(2, .r (.agg (T_api_Addr.c x3)) [])], [], [], [], [], [], []⟩] [false] [] [] [] [SCall Try.prog 98 [.agg (T_api_Addr.c a0)] (.one (.lit (.bool x1))), (!x1) = false, (decide (a1 < (0 : Int))) = false, SCall Try.prog 135 [.agg (T_api_Addr.c a0)] (.one (.lit (.int .i64 x2))), (decide (a1 > x2)) = false, SCall Try.prog 134 [.agg (T_api_Addr.c a0), .one (.lit (.int .i64 a1))] (.agg (T_api_Addr.c x3))] (by kernel_rfl) rfl ⟨(g_addr_Right_ok a0 x1 q1), h2, h3, (g_addr_Bits_ok a0 x2 q4), h5, (g_cidr_Mask_ok a0 a1 x3 q6), trivial⟩

/-- doorman/cidr.Right -/
def g_cidr_Right (a0 : T_api_Net) : Option Bool :=
  (g_cidr_Make a0.fAddr a0.fBits).bind fun x1 =>
  bif x1.2 then
    some (decide (x1.1 = a0))
  else
    some false

theorem g_cidr_Right_ok (a0 : T_api_Net) (r : Bool) (hf : g_cidr_Right a0 = some r) : SCall Try.prog 93 [.agg (T_api_Net.c a0)] (.one (.lit (.bool r))) := by
  refine SCall.of Try.func93 rfl rfl rfl rfl fun S0 w0 => ?_
  unfold g_cidr_Right at hf
  obtain ⟨x1, q1, hf⟩ := bind_some' hf
  rcases br_some hf with ⟨h2, hf⟩ | ⟨h2, hf⟩
  · replace hf := Option.some.inj hf
    subst hf
    exact toEnd_good allOk 6 _ _ [⟨[], [], [], [], [], [], []⟩, ⟨[(4, .r (.tup [(true, T_api_Net.c x1.1), (false, cB x1.2)]) [])], [], [], [], [], [], []⟩, ⟨[(4, .r (.one (.lit (.bool (decide (x1.1 = a0))))) [])], [(1, true)], [], [], [], [], []⟩] [] [] [] [] [SCall Try.prog 131 [.agg (T_api_Addr.c a0.fAddr), .one (.lit (.int .i64 a0.fBits))] (.tup [(true, T_api_Net.c x1.1), (false, cB x1.2)]), x1.2 = true, ∀ w, (do eqGuard .eql 81 (.tmp 15) (.tmp 16) (.agg #[.bool x1.1.fAddr.fV6, .int .u64 x1.1.fAddr.fHi, .int .u64 x1.1.fAddr.fLo, .int .i64 x1.1.fBits]) (.agg #[.bool a0.fAddr.fV6, .int .u64 a0.fAddr.fHi, .int .u64 a0.fAddr.fLo, .int .i64 a0.fBits]); binOp .eql 81 (.agg #[.bool x1.1.fAddr.fV6, .int .u64 x1.1.fAddr.fHi, .int .u64 x1.1.fAddr.fLo, .int .i64 x1.1.fBits]) (.agg #[.bool a0.fAddr.fV6, .int .u64 a0.fAddr.fHi, .int .u64 a0.fAddr.fLo, .int .i64 a0.fBits]) : Sem Value).run Try.prog w = .ok (.bool (decide (x1.1 = a0))) w] (by kernel_rfl) rfl ⟨(g_cidr_Make_ok a0.fAddr a0.fBits x1 q1), h2, (eql_T_api_Net x1.1 a0 _ _), trivial⟩
  · replace hf := Option.some.inj hf
    subst hf
    exact toEnd_good allOk 6 _ _ [⟨[], [], [], [], [], [], []⟩, ⟨[(4, .r (.tup [(true, T_api_Net.c x1.1), (false, cB x1.2)]) [])], [], [], [], [], [], []⟩, ⟨[], [(1, false)], [], [], [], [], []⟩] [] [] [] [] [SCall Try.prog 131 [.agg (T_api_Addr.c a0.fAddr), .one (.lit (.int .i64 a0.fBits))] (.tup [(true, T_api_Net.c x1.1), (false, cB x1.2)]), x1.2 = false] (by kernel_rfl) rfl ⟨(g_cidr_Make_ok a0.fAddr a0.fBits x1 q1), h2, trivial⟩

/-- doorman/trie.family -/
def g_trie_family (a0 : T_api_Addr) : Option Int :=
  bif a0.fV6 then
    some (1 : Int)
  else
    some (0 : Int)

theorem g_trie_family_ok (a0 : T_api_Addr) (r : Int) (hf : g_trie_family a0 = some r) : SCall Try.prog 94 [.agg (T_api_Addr.c a0)] (.one (.lit (.int .i64 r))) := by
  refine SCall.of Try.func94 rfl rfl rfl rfl fun S0 w0 => ?_
  unfold g_trie_family at hf
  rcases br_some hf with ⟨h1, hf⟩ | ⟨h1, hf⟩
  · replace hf := Option.some.inj hf
    subst hf
    exact toEnd_good allOk 8 _ _ [⟨[], [], [], [], [], [], []⟩, ⟨[], [], [], [], [], [], []⟩, ⟨[], [], [], [], [], [], []⟩] [true] [] [] [] [a0.fV6 = true] (by kernel_rfl) rfl ⟨h1, trivial⟩
  · replace hf := Option.some.inj hf
    subst hf
    exact toEnd_good allOk 9 _ _ [⟨[], [], [], [], [], [], []⟩, ⟨[], [], [], [], [], [], []⟩, ⟨[], [], [], [], [], [], []⟩] [false] [] [] [] [a0.fV6 = false] (by kernel_rfl) rfl ⟨h1, trivial⟩

/-- doorman/addr.Bit -/
def g_addr_Bit (a0 : T_api_Addr) (a1 : Int) : Option Int :=
  (g_addr_Bits a0).bind fun x1 =>
  bif (decide (a1 < (0 : Int))) then
    some (0 : Int)
  else
    bif (decide (a1 ≥ x1)) then
      some (0 : Int)
    else
      bif (decide ((sub64 (sub64 x1 (1 : Int)) a1) ≥ (64 : Int))) then
        need (0 ≤ (sub64 (sub64 (sub64 x1 (1 : Int)) a1) (64 : Int))) <|
        some (IntKind.wrap .i64 (IntKind.wrap .u64 (((BitVec.ofInt (IntKind.bits .u64) (Int.fdiv a0.fHi (2 ^ (min (sub64 (sub64 (sub64 x1 (1 : Int)) a1) (64 : Int)).toNat (IntKind.bits .u64))))) &&& (BitVec.ofInt (IntKind.bits .u64) (1 : Int))).toNat : Int)))
      else
        need (0 ≤ (sub64 (sub64 x1 (1 : Int)) a1)) <|
        some (IntKind.wrap .i64 (IntKind.wrap .u64 (((BitVec.ofInt (IntKind.bits .u64) (Int.fdiv a0.fLo (2 ^ (min (sub64 (sub64 x1 (1 : Int)) a1).toNat (IntKind.bits .u64))))) &&& (BitVec.ofInt (IntKind.bits .u64) (1 : Int))).toNat : Int)))

theorem g_addr_Bit_ok (a0 : T_api_Addr) (a1 : Int) (r : Int) (hf : g_addr_Bit a0 a1 = some r) : SCall Try.prog 100 [.agg (T_api_Addr.c a0), .one (.lit (.int .i64 a1))] (.one (.lit (.int .i64 r))) := by
  refine SCall.of Try.func100 rfl rfl rfl rfl fun S0 w0 => ?_
  unfold g_addr_Bit at hf
  obtain ⟨x1, q1, hf⟩ := bind_some' hf
  rcases br_some hf with ⟨h2, hf⟩ | ⟨h2, hf⟩
  · replace hf := Option.some.inj hf
    subst hf
    exact toEnd_good allOk 10 _ _ [⟨[], [], [], [], [], [], []⟩, ⟨[(1, .r (.one (.lit (.int .i64 x1))) [])], [], [], [], [], [], []⟩, ⟨[], [(2, true)], [], [], [], [], []⟩, ⟨[], [], [], [], [], [], []⟩] [true] [] [] [] [SCall Try.prog 135 [.agg (T_api_Addr.c a0)] (.one (.lit (.int .i64 x1))), (decide (a1 < (0 : Int))) = true, true = true] (by kernel_rfl) rfl ⟨(g_addr_Bits_ok a0 x1 q1), h2, rfl, trivial⟩
  · rcases br_some hf with ⟨h3, hf⟩ | ⟨h3, hf⟩
    · replace hf := Option.some.inj hf
      subst hf
      exact toEnd_good allOk 10 _ _ [⟨[], [], [], [], [], [], []⟩, ⟨[(1, .r (.one (.lit (.int .i64 x1))) [])], [], [], [], [], [], []⟩, ⟨[], [(2, false)], [], [], [], [], []⟩, ⟨[], [], [], [], [], [], []⟩] [true] [] [] [] [SCall Try.prog 135 [.agg (T_api_Addr.c a0)] (.one (.lit (.int .i64 x1))), (decide (a1 < (0 : Int))) = false, (decide (a1 ≥ x1)) = true] (by kernel_rfl) rfl ⟨(g_addr_Bits_ok a0 x1 q1), h2, h3, trivial⟩
    · rcases br_some hf with ⟨h4, hf⟩ | ⟨h4, hf⟩
      · obtain ⟨o5, hf⟩ := need_some hf
        replace hf := Option.some.inj hf
        subst hf
        exact toEnd_good allOk 17 _ _ [⟨[], [], [], [], [], [], []⟩, ⟨[(1, .r (.one (.lit (.int .i64 x1))) [])], [], [], [], [], [], []⟩, ⟨[], [(2, false)], [], [], [], [], []⟩, ⟨[], [], [], [], [], [], []⟩, ⟨[], [], [], [], [], [], []⟩, ⟨[], [], [], [], [], [], []⟩] [false, true] [] [] [] [SCall Try.prog 135 [.agg (T_api_Addr.c a0)] (.one (.lit (.int .i64 x1))), (decide (a1 < (0 : Int))) = false, (decide (a1 ≥ x1)) = false, (decide ((sub64 (sub64 x1 (1 : Int)) a1) ≥ (64 : Int))) = true, 0 ≤ (sub64 (sub64 (sub64 x1 (1 : Int)) a1) (64 : Int))] (by kernel_rfl) rfl ⟨(g_addr_Bits_ok a0 x1 q1), h2, h3, h4, o5, trivial⟩
      · obtain ⟨o6, hf⟩ := need_some hf
        replace hf := Option.some.inj hf
        subst hf
        exact toEnd_good allOk 18 _ _ [⟨[], [], [], [], [], [], []⟩, ⟨[(1, .r (.one (.lit (.int .i64 x1))) [])], [], [], [], [], [], []⟩, ⟨[], [(2, false)], [], [], [], [], []⟩, ⟨[], [], [], [], [], [], []⟩, ⟨[], [], [], [], [], [], []⟩, ⟨[], [], [], [], [], [], []⟩] [false, false] [] [] [] [SCall Try.prog 135 [.agg (T_api_Addr.c a0)] (.one (.lit (.int .i64 x1))), (decide (a1 < (0 : Int))) = false, (decide (a1 ≥ x1)) = false, (decide ((sub64 (sub64 x1 (1 : Int)) a1) ≥ (64 : Int))) = false, 0 ≤ (sub64 (sub64 x1 (1 : Int)) a1)] (by kernel_rfl) rfl ⟨(g_addr_Bits_ok a0 x1 q1), h2, h3, h4, o6, trivial⟩

/-- doorman/trie.bit -/
def g_trie_bit (a0 : T_api_Net) (a1 : Int) : Option Int :=
  (g_addr_Bit a0.fAddr a1).bind fun x1 =>
  some x1

theorem g_trie_bit_ok (a0 : T_api_Net) (a1 : Int) (r : Int) (hf : g_trie_bit a0 a1 = some r) : SCall Try.prog 95 [.agg (T_api_Net.c a0), .one (.lit (.int .i64 a1))] (.one (.lit (.int .i64 r))) := by
  refine SCall.of Try.func95 rfl rfl rfl rfl fun S0 w0 => ?_
  unfold g_trie_bit at hf
  obtain ⟨x1, q1, hf⟩ := bind_some' hf
  replace hf := Option.some.inj hf
  subst hf
  exact toEnd_good allOk 4 _ _ [⟨[], [], [], [], [], [], []⟩, ⟨[(3, .r (.one (.lit (.int .i64 x1))) [])], [], [], [], [], [], []⟩] [] [] [] [] [SCall Try.prog 100 [.agg (T_api_Addr.c a0.fAddr), .one (.lit (.int .i64 a1))] (.one (.lit (.int .i64 x1)))] (by kernel_rfl) rfl ⟨(g_addr_Bit_ok a0.fAddr a1 x1 q1), trivial⟩

def g_trie_Trie_Get_c0   : Nat → N_trie_node → T_api_Net → Option (Int × Bool)
  | 0, _, _ => none
  | fu + 1, v6, b3 =>
    (match v6 with
    | .nil =>
      some ((0 : Int), false)
    | .mk p4_0 p4_1 p4_2 p4_3 =>
      bif (decide (p4_0.fNet.fBits < b3.fBits)) then
        (g_trie_bit b3 p4_0.fNet.fBits).bind fun x5 =>
        need (0 ≤ x5 ∧ x5 < ((2 : Nat) : Int)) <|
        ix2 x5 (
          g_trie_Trie_Get_c0   fu p4_2 b3) (
          g_trie_Trie_Get_c0   fu p4_3 b3)
      else
        bif (!p4_1) then
          some ((0 : Int), false)
        else
          bif (!(decide (p4_0.fNet = b3))) then
            some ((0 : Int), false)
          else
            some (p4_0.fV, true))

theorem g_trie_Trie_Get_c0_ok (S0 : Nat → Prop) (w0 : Start)   : ∀ (fu : Nat) (v6 : N_trie_node) (b3 : T_api_Net) (r : (Int × Bool)), g_trie_Trie_Get_c0   fu v6 b3 = some r → Good Try.prog 71 S0 w0 (bodyPost Try.prog Try.f43 (Post S0 w0 (.tup [(false, (cI .i64) r.1), (false, cB r.2)]))) (at_ [1, 1, 1, 0, 0] (bodyOf Try.f43)) ⟨[(3, .one (.ptr 3 0)), (6, .one (N_trie_node.c v6))], [(3, .box [.lit (.bool b3.fAddr.fV6), .lit (.int .u64 b3.fAddr.fHi), .lit (.int .u64 b3.fAddr.fLo), .lit (.int .i64 b3.fBits)])]⟩ := by
  intro fu
  induction fu with
  | zero =>
    intro v6 b3 r hf
    simp [g_trie_Trie_Get_c0] at hf
  | succ fu ih =>
    intro v6 b3 r hf
    unfold g_trie_Trie_Get_c0 at hf
    cases v6 with
    | nil =>
      dsimp only at hf
      replace hf := Option.some.inj hf
      subst hf
      exact toEnd_good allOk 12 _ _ [⟨[], [], [], [[], [0], [1, 0], [2, 1, 0], [3, 2, 1, 0], [4, 3, 2, 1, 0], [5, 4, 3, 2, 1, 0], [6, 5, 4, 3, 2, 1, 0], [7, 6, 5, 4, 3, 2, 1, 0], [2, 1, 0], [9, 2, 1, 0], [8, 7, 6, 5, 4, 3, 2, 1, 0, 10, 9], [2, 1, 0, 11, 8, 7, 6, 5, 4, 3, 10, 9]], [], [], []⟩, ⟨[], [], [], [[], [0], [1, 0], [2, 1, 0], [3, 2, 1, 0], [4, 3, 2, 1, 0], [5, 4, 3, 2, 1, 0], [6, 5, 4, 3, 2, 1, 0], [2, 1, 0, 7, 6, 5, 4, 3], [8, 2, 1, 0, 7, 6, 5, 4, 3], [9, 8, 2, 1, 0, 7, 6, 5, 4, 3], [10, 9, 8, 2, 1, 0, 7, 6, 5, 4, 3], [11, 10, 9, 8, 2, 1, 0, 7, 6, 5, 4, 3], [12, 11, 10, 9, 8, 2, 1, 0, 7, 6, 5, 4, 3], [13, 12, 11, 10, 9, 8, 2, 1, 0, 7, 6, 5, 4, 3], [9, 8, 2, 1, 0, 7, 6, 5, 4, 3], [14, 13, 12, 11, 10, 9, 8, 2, 1, 0, 7, 6, 5, 4, 3, 15], [9, 8, 2, 1, 0, 7, 6, 5, 4, 3, 16, 14, 13, 12, 11, 10, 15]], [], [], []⟩, ⟨[], [], [], [], [], [], []⟩] [false, true] [] [] [] [false = false, true = true] (by kernel_rfl) rfl ⟨rfl, rfl, trivial⟩
    | mk p4_0 p4_1 p4_2 p4_3 =>
      dsimp only at hf
      rcases br_some hf with ⟨h5, hf⟩ | ⟨h5, hf⟩
      · obtain ⟨x5, q6, hf⟩ := bind_some' hf
        obtain ⟨o7, hf⟩ := need_some hf
        rcases ix2_some o7 hf with ⟨e, hf⟩ | ⟨e, hf⟩
        · subst e
          exact toK_good allOk Post.ends 10 _ _ _ _ [⟨[], [], [], [[], [0], [1, 0], [2, 1, 0], [3, 2, 1, 0], [4, 3, 2, 1, 0], [5, 4, 3, 2, 1, 0], [6, 5, 4, 3, 2, 1, 0], [7, 6, 5, 4, 3, 2, 1, 0], [2, 1, 0], [9, 2, 1, 0], [8, 7, 6, 5, 4, 3, 2, 1, 0, 10, 9], [2, 1, 0, 11, 8, 7, 6, 5, 4, 3, 10, 9]], [], [], []⟩, ⟨[(8, .r (.one (.lit (.int .i64 (0 : Int)))) [])], [], [], [[], [], [], [2], [3, 2], [4, 3, 2], [5, 4, 3, 2], [6, 5, 4, 3, 2], [1, 7, 6, 5, 4, 3, 2], [0], [9, 0], [10, 9, 0, 8, 1, 7, 6, 5, 4, 3, 2], [11, 10, 9, 0, 8, 1, 7, 6, 5, 4, 3, 2], [12, 11, 10, 9, 0, 8, 1, 7, 6, 5, 4, 3, 2]], [], [], []⟩] [true] ⟨[], [], [], [], [], [3, 6], [3], []⟩ [(decide (p4_0.fNet.fBits < b3.fBits)) = true, SCall Try.prog 95 [.agg (T_api_Net.c b3), .one (.lit (.int .i64 p4_0.fNet.fBits))] (.one (.lit (.int .i64 (0 : Int)))), 0 ≤ (0 : Int) ∧ (0 : Int) < ((2 : Nat) : Int)] (by kernel_rfl) ⟨h5, (g_trie_bit_ok b3 p4_0.fNet.fBits (0 : Int) q6), (by decide), trivial⟩ (ih p4_2 b3 r hf)
        · subst e
          exact toK_good allOk Post.ends 10 _ _ _ _ [⟨[], [], [], [[], [0], [1, 0], [2, 1, 0], [3, 2, 1, 0], [4, 3, 2, 1, 0], [5, 4, 3, 2, 1, 0], [6, 5, 4, 3, 2, 1, 0], [7, 6, 5, 4, 3, 2, 1, 0], [2, 1, 0], [9, 2, 1, 0], [8, 7, 6, 5, 4, 3, 2, 1, 0, 10, 9], [2, 1, 0, 11, 8, 7, 6, 5, 4, 3, 10, 9]], [], [], []⟩, ⟨[(8, .r (.one (.lit (.int .i64 (1 : Int)))) [])], [], [], [[], [], [], [2], [3, 2], [4, 3, 2], [5, 4, 3, 2], [6, 5, 4, 3, 2], [1, 7, 6, 5, 4, 3, 2], [0], [9, 0], [10, 9, 0, 8, 1, 7, 6, 5, 4, 3, 2], [11, 10, 9, 0, 8, 1, 7, 6, 5, 4, 3, 2], [12, 11, 10, 9, 0, 8, 1, 7, 6, 5, 4, 3, 2]], [], [], []⟩] [true] ⟨[], [], [], [], [], [3, 6], [3], []⟩ [(decide (p4_0.fNet.fBits < b3.fBits)) = true, SCall Try.prog 95 [.agg (T_api_Net.c b3), .one (.lit (.int .i64 p4_0.fNet.fBits))] (.one (.lit (.int .i64 (1 : Int)))), 0 ≤ (1 : Int) ∧ (1 : Int) < ((2 : Nat) : Int)] (by kernel_rfl) ⟨h5, (g_trie_bit_ok b3 p4_0.fNet.fBits (1 : Int) q6), (by decide), trivial⟩ (ih p4_3 b3 r hf)
      · rcases br_some hf with ⟨h8, hf⟩ | ⟨h8, hf⟩
        · replace hf := Option.some.inj hf
          subst hf
          exact toEnd_good allOk 12 _ _ [⟨[], [], [], [[], [0], [1, 0], [2, 1, 0], [3, 2, 1, 0], [4, 3, 2, 1, 0], [5, 4, 3, 2, 1, 0], [6, 5, 4, 3, 2, 1, 0], [7, 6, 5, 4, 3, 2, 1, 0], [2, 1, 0], [9, 2, 1, 0], [8, 7, 6, 5, 4, 3, 2, 1, 0, 10, 9], [2, 1, 0, 11, 8, 7, 6, 5, 4, 3, 10, 9]], [], [], []⟩, ⟨[], [(9, true)], [], [[], [0], [1, 0], [2, 1, 0], [3, 2, 1, 0], [4, 3, 2, 1, 0], [5, 4, 3, 2, 1, 0], [6, 5, 4, 3, 2, 1, 0], [2, 1, 0, 7, 6, 5, 4, 3], [8, 2, 1, 0, 7, 6, 5, 4, 3], [9, 8, 2, 1, 0, 7, 6, 5, 4, 3], [10, 9, 8, 2, 1, 0, 7, 6, 5, 4, 3], [11, 10, 9, 8, 2, 1, 0, 7, 6, 5, 4, 3], [12, 11, 10, 9, 8, 2, 1, 0, 7, 6, 5, 4, 3], [13, 12, 11, 10, 9, 8, 2, 1, 0, 7, 6, 5, 4, 3], [9, 8, 2, 1, 0, 7, 6, 5, 4, 3], [14, 13, 12, 11, 10, 9, 8, 2, 1, 0, 7, 6, 5, 4, 3, 15], [9, 8, 2, 1, 0, 7, 6, 5, 4, 3, 16, 14, 13, 12, 11, 10, 15]], [], [], []⟩, ⟨[], [], [], [], [], [], []⟩] [false, true] [] [] [] [(decide (p4_0.fNet.fBits < b3.fBits)) = false, (!p4_1) = true, true = true] (by kernel_rfl) rfl ⟨h5, h8, rfl, trivial⟩
        · rcases br_some hf with ⟨h9, hf⟩ | ⟨h9, hf⟩
          · replace hf := Option.some.inj hf
            subst hf
            exact toEnd_good allOk 12 _ _ [⟨[], [], [], [[], [0], [1, 0], [2, 1, 0], [3, 2, 1, 0], [4, 3, 2, 1, 0], [5, 4, 3, 2, 1, 0], [6, 5, 4, 3, 2, 1, 0], [7, 6, 5, 4, 3, 2, 1, 0], [2, 1, 0], [9, 2, 1, 0], [8, 7, 6, 5, 4, 3, 2, 1, 0, 10, 9], [2, 1, 0, 11, 8, 7, 6, 5, 4, 3, 10, 9]], [], [], []⟩, ⟨[(16, .r (.one (.lit (.bool (!(decide (p4_0.fNet = b3)))))) [])], [(9, false)], [], [[], [0], [1, 0], [2, 1, 0], [3, 2, 1, 0], [4, 3, 2, 1, 0], [5, 4, 3, 2, 1, 0], [6, 5, 4, 3, 2, 1, 0], [2, 1, 0, 7, 6, 5, 4, 3], [8, 2, 1, 0, 7, 6, 5, 4, 3], [9, 8, 2, 1, 0, 7, 6, 5, 4, 3], [10, 9, 8, 2, 1, 0, 7, 6, 5, 4, 3], [11, 10, 9, 8, 2, 1, 0, 7, 6, 5, 4, 3], [12, 11, 10, 9, 8, 2, 1, 0, 7, 6, 5, 4, 3], [13, 12, 11, 10, 9, 8, 2, 1, 0, 7, 6, 5, 4, 3], [9, 8, 2, 1, 0, 7, 6, 5, 4, 3], [14, 13, 12, 11, 10, 9, 8, 2, 1, 0, 7, 6, 5, 4, 3, 15], [9, 8, 2, 1, 0, 7, 6, 5, 4, 3, 16, 14, 13, 12, 11, 10, 15]], [], [], []⟩, ⟨[], [], [], [], [], [], []⟩] [false, true] [] [] [] [(decide (p4_0.fNet.fBits < b3.fBits)) = false, (!p4_1) = false, ∀ w, (do eqGuard .neq 81 (.tmp 62) (.tmp 63) (.agg #[.bool p4_0.fNet.fAddr.fV6, .int .u64 p4_0.fNet.fAddr.fHi, .int .u64 p4_0.fNet.fAddr.fLo, .int .i64 p4_0.fNet.fBits]) (.agg #[.bool b3.fAddr.fV6, .int .u64 b3.fAddr.fHi, .int .u64 b3.fAddr.fLo, .int .i64 b3.fBits]); binOp .neq 81 (.agg #[.bool p4_0.fNet.fAddr.fV6, .int .u64 p4_0.fNet.fAddr.fHi, .int .u64 p4_0.fNet.fAddr.fLo, .int .i64 p4_0.fNet.fBits]) (.agg #[.bool b3.fAddr.fV6, .int .u64 b3.fAddr.fHi, .int .u64 b3.fAddr.fLo, .int .i64 b3.fBits]) : Sem Value).run Try.prog w = .ok (.bool (!(decide (p4_0.fNet = b3)))) w, (!(decide (p4_0.fNet = b3))) = true] (by kernel_rfl) rfl ⟨h5, h8, (neq_T_api_Net p4_0.fNet b3 _ _), h9, trivial⟩
          · replace hf := Option.some.inj hf
            subst hf
            exact toEnd_good allOk 13 _ _ [⟨[], [], [], [[], [0], [1, 0], [2, 1, 0], [3, 2, 1, 0], [4, 3, 2, 1, 0], [5, 4, 3, 2, 1, 0], [6, 5, 4, 3, 2, 1, 0], [7, 6, 5, 4, 3, 2, 1, 0], [2, 1, 0], [9, 2, 1, 0], [8, 7, 6, 5, 4, 3, 2, 1, 0, 10, 9], [2, 1, 0, 11, 8, 7, 6, 5, 4, 3, 10, 9]], [], [], []⟩, ⟨[(16, .r (.one (.lit (.bool (!(decide (p4_0.fNet = b3)))))) [])], [(9, false)], [], [[], [0], [1, 0], [2, 1, 0], [3, 2, 1, 0], [4, 3, 2, 1, 0], [5, 4, 3, 2, 1, 0], [6, 5, 4, 3, 2, 1, 0], [2, 1, 0, 7, 6, 5, 4, 3], [8, 2, 1, 0, 7, 6, 5, 4, 3], [9, 8, 2, 1, 0, 7, 6, 5, 4, 3], [10, 9, 8, 2, 1, 0, 7, 6, 5, 4, 3], [11, 10, 9, 8, 2, 1, 0, 7, 6, 5, 4, 3], [12, 11, 10, 9, 8, 2, 1, 0, 7, 6, 5, 4, 3], [13, 12, 11, 10, 9, 8, 2, 1, 0, 7, 6, 5, 4, 3], [9, 8, 2, 1, 0, 7, 6, 5, 4, 3], [14, 13, 12, 11, 10, 9, 8, 2, 1, 0, 7, 6, 5, 4, 3, 15], [9, 8, 2, 1, 0, 7, 6, 5, 4, 3, 16, 14, 13, 12, 11, 10, 15]], [], [], []⟩, ⟨[], [], [], [], [], [], []⟩] [false, false] [] [] [] [(decide (p4_0.fNet.fBits < b3.fBits)) = false, (!p4_1) = false, ∀ w, (do eqGuard .neq 81 (.tmp 62) (.tmp 63) (.agg #[.bool p4_0.fNet.fAddr.fV6, .int .u64 p4_0.fNet.fAddr.fHi, .int .u64 p4_0.fNet.fAddr.fLo, .int .i64 p4_0.fNet.fBits]) (.agg #[.bool b3.fAddr.fV6, .int .u64 b3.fAddr.fHi, .int .u64 b3.fAddr.fLo, .int .i64 b3.fBits]); binOp .neq 81 (.agg #[.bool p4_0.fNet.fAddr.fV6, .int .u64 p4_0.fNet.fAddr.fHi, .int .u64 p4_0.fNet.fAddr.fLo, .int .i64 p4_0.fNet.fBits]) (.agg #[.bool b3.fAddr.fV6, .int .u64 b3.fAddr.fHi, .int .u64 b3.fAddr.fLo, .int .i64 b3.fBits]) : Sem Value).run Try.prog w = .ok (.bool (!(decide (p4_0.fNet = b3)))) w, (!(decide (p4_0.fNet = b3))) = false] (by kernel_rfl) rfl ⟨h5, h8, (neq_T_api_Net p4_0.fNet b3 _ _), h9, trivial⟩

/-- (*doorman/trie.Trie).Get -/
def g_trie_Trie_Get (a0 : N_trie_Trie) (a1 : T_api_Net) : Option (Int × Bool) :=
  (match a0 with
  | .nil =>
    some ((0 : Int), false)
  | .mk p1_0 p1_1 p1_2 =>
    (g_cidr_Right a1).bind fun x2 =>
    bif (!x2) then
      some ((0 : Int), false)
    else
      (g_trie_family a1.fAddr).bind fun x3 =>
      need (0 ≤ x3 ∧ x3 < ((2 : Nat) : Int)) <|
      ix2 x3 (
        g_trie_Trie_Get_c0   1000000 p1_0 a1) (
        g_trie_Trie_Get_c0   1000000 p1_1 a1))

theorem g_trie_Trie_Get_ok (a0 : N_trie_Trie) (a1 : T_api_Net) (r : (Int × Bool)) (hf : g_trie_Trie_Get a0 a1 = some r) : SCall Try.prog 43 [.one (N_trie_Trie.c a0), .agg (T_api_Net.c a1)] (.tup [(false, (cI .i64) r.1), (false, cB r.2)]) := by
  refine SCall.of Try.func43 rfl rfl rfl rfl fun S0 w0 => ?_
  unfold g_trie_Trie_Get at hf
  cases a0 with
  | nil =>
    dsimp only at hf
    replace hf := Option.some.inj hf
    subst hf
    exact toEnd_good allOk 8 _ _ [⟨[], [], [], [], [], [], []⟩, ⟨[], [], [], [], [], [], []⟩, ⟨[], [], [], [], [], [], []⟩] [true] [] [] [] [true = true] (by kernel_rfl) rfl ⟨rfl, trivial⟩
  | mk p1_0 p1_1 p1_2 =>
    dsimp only at hf
    obtain ⟨x2, q1, hf⟩ := bind_some' hf
    rcases br_some hf with ⟨h2, hf⟩ | ⟨h2, hf⟩
    · replace hf := Option.some.inj hf
      subst hf
      exact toEnd_good allOk 8 _ _ [⟨[], [], [], [], [], [], []⟩, ⟨[(4, .r (.one (.lit (.bool x2))) [])], [], [], [], [], [], []⟩, ⟨[], [], [], [], [], [], []⟩] [true] [] [] [] [SCall Try.prog 93 [.agg (T_api_Net.c a1)] (.one (.lit (.bool x2))), (!x2) = true] (by kernel_rfl) rfl ⟨(g_cidr_Right_ok a1 x2 q1), h2, trivial⟩
    · obtain ⟨x3, q3, hf⟩ := bind_some' hf
      obtain ⟨o4, hf⟩ := need_some hf
      rcases ix2_some o4 hf with ⟨e, hf⟩ | ⟨e, hf⟩
      · subst e
        exact toK_good allOk Post.ends 11 _ _ _ _ [⟨[], [], [], [], [], [], []⟩, ⟨[(4, .r (.one (.lit (.bool x2))) [])], [], [], [], [], [], []⟩, ⟨[(3, .r (.one (.lit (.int .i64 (0 : Int)))) [])], [], [], [[], [], [1], [2, 1], [0], [4, 0], [5, 4, 0, 3, 2, 1], [6, 5, 4, 0, 3, 2, 1], [7, 6, 5, 4, 0, 3, 2, 1]], [], [], []⟩] [false] ⟨[], [], [], [], [], [3, 6], [3], []⟩ [SCall Try.prog 93 [.agg (T_api_Net.c a1)] (.one (.lit (.bool x2))), (!x2) = false, SCall Try.prog 94 [.agg (T_api_Addr.c a1.fAddr)] (.one (.lit (.int .i64 (0 : Int)))), 0 ≤ (0 : Int) ∧ (0 : Int) < ((2 : Nat) : Int)] (by kernel_rfl) ⟨(g_cidr_Right_ok a1 x2 q1), h2, (g_trie_family_ok a1.fAddr (0 : Int) q3), (by decide), trivial⟩ (g_trie_Trie_Get_c0_ok S0 w0    1000000 p1_0 a1 r hf)
      · subst e
        exact toK_good allOk Post.ends 11 _ _ _ _ [⟨[], [], [], [], [], [], []⟩, ⟨[(4, .r (.one (.lit (.bool x2))) [])], [], [], [], [], [], []⟩, ⟨[(3, .r (.one (.lit (.int .i64 (1 : Int)))) [])], [], [], [[], [], [1], [2, 1], [0], [4, 0], [5, 4, 0, 3, 2, 1], [6, 5, 4, 0, 3, 2, 1], [7, 6, 5, 4, 0, 3, 2, 1]], [], [], []⟩] [false] ⟨[], [], [], [], [], [3, 6], [3], []⟩ [SCall Try.prog 93 [.agg (T_api_Net.c a1)] (.one (.lit (.bool x2))), (!x2) = false, SCall Try.prog 94 [.agg (T_api_Addr.c a1.fAddr)] (.one (.lit (.int .i64 (1 : Int)))), 0 ≤ (1 : Int) ∧ (1 : Int) < ((2 : Nat) : Int)] (by kernel_rfl) ⟨(g_cidr_Right_ok a1 x2 q1), h2, (g_trie_family_ok a1.fAddr (1 : Int) q3), (by decide), trivial⟩ (g_trie_Trie_Get_c0_ok S0 w0    1000000 p1_1 a1 r hf)

/-- doorman/ban.Lives -/
def g_ban_Lives (a0 : T_api_Ban) (a1 : Int) : Option Bool :=
  some (decide (a1 < a0.fUntil))

theorem g_ban_Lives_ok (a0 : T_api_Ban) (a1 : Int) (r : Bool) (hf : g_ban_Lives a0 a1 = some r) : SCall Try.prog 166 [.agg (T_api_Ban.c a0), .one (.lit (.int .i64 a1))] (.one (.lit (.bool r))) := by
  refine SCall.of Try.func166 rfl rfl rfl rfl fun S0 w0 => ?_
  unfold g_ban_Lives at hf
  replace hf := Option.some.inj hf
  subst hf
  exact toEnd_good allOk 4 _ _ [⟨[], [], [], [], [], [], []⟩, ⟨[], [], [], [], [], [], []⟩] [] [] [] [] [] (by kernel_rfl) rfl trivial

def g_math_bits_Len64_c1   (v0 : Int) (v2 : Int) : Option Int :=
  bif (decide (v0 ≥ (256 : Int))) then
    need (0 ≤ (IntKind.wrap .u8 (Int.fdiv v0 (2 ^ (min (8 : Int).toNat (IntKind.bits .u64))))) ∧ (IntKind.wrap .u8 (Int.fdiv v0 (2 ^ (min (8 : Int).toNat (IntKind.bits .u64))))) < (((⟨#[0, 1, 2, 2, 3, 3, 3, 3, 4, 4, 4, 4, 4, 4, 4, 4, 5, 5, 5, 5, 5, 5, 5, 5, 5, 5, 5, 5, 5, 5, 5, 5, 6, 6, 6, 6, 6, 6, 6, 6, 6, 6, 6, 6, 6, 6, 6, 6, 6, 6, 6, 6, 6, 6, 6, 6, 6, 6, 6, 6, 6, 6, 6, 6, 7, 7, 7, 7, 7, 7, 7, 7, 7, 7, 7, 7, 7, 7, 7, 7, 7, 7, 7, 7, 7, 7, 7, 7, 7, 7, 7, 7, 7, 7, 7, 7, 7, 7, 7, 7, 7, 7, 7, 7, 7, 7, 7, 7, 7, 7, 7, 7, 7, 7, 7, 7, 7, 7, 7, 7, 7, 7, 7, 7, 7, 7, 7, 7, 8, 8, 8, 8, 8, 8, 8, 8, 8, 8, 8, 8, 8, 8, 8, 8, 8, 8, 8, 8, 8, 8, 8, 8, 8, 8, 8, 8, 8, 8, 8, 8, 8, 8, 8, 8, 8, 8, 8, 8, 8, 8, 8, 8, 8, 8, 8, 8, 8, 8, 8, 8, 8, 8, 8, 8, 8, 8, 8, 8, 8, 8, 8, 8, 8, 8, 8, 8, 8, 8, 8, 8, 8, 8, 8, 8, 8, 8, 8, 8, 8, 8, 8, 8, 8, 8, 8, 8, 8, 8, 8, 8, 8, 8, 8, 8, 8, 8, 8, 8, 8, 8, 8, 8, 8, 8, 8, 8, 8, 8, 8, 8, 8, 8, 8, 8, 8, 8, 8, 8, 8, 8, 8, 8, 8, 8, 8, 8]⟩ : ByteArray).size : Nat) : Int)) <|
    some (add64 (add64 v2 (8 : Int)) (IntKind.wrap .i64 ((byteAt (⟨#[0, 1, 2, 2, 3, 3, 3, 3, 4, 4, 4, 4, 4, 4, 4, 4, 5, 5, 5, 5, 5, 5, 5, 5, 5, 5, 5, 5, 5, 5, 5, 5, 6, 6, 6, 6, 6, 6, 6, 6, 6, 6, 6, 6, 6, 6, 6, 6, 6, 6, 6, 6, 6, 6, 6, 6, 6, 6, 6, 6, 6, 6, 6, 6, 7, 7, 7, 7, 7, 7, 7, 7, 7, 7, 7, 7, 7, 7, 7, 7, 7, 7, 7, 7, 7, 7, 7, 7, 7, 7, 7, 7, 7, 7, 7, 7, 7, 7, 7, 7, 7, 7, 7, 7, 7, 7, 7, 7, 7, 7, 7, 7, 7, 7, 7, 7, 7, 7, 7, 7, 7, 7, 7, 7, 7, 7, 7, 7, 8, 8, 8, 8, 8, 8, 8, 8, 8, 8, 8, 8, 8, 8, 8, 8, 8, 8, 8, 8, 8, 8, 8, 8, 8, 8, 8, 8, 8, 8, 8, 8, 8, 8, 8, 8, 8, 8, 8, 8, 8, 8, 8, 8, 8, 8, 8, 8, 8, 8, 8, 8, 8, 8, 8, 8, 8, 8, 8, 8, 8, 8, 8, 8, 8, 8, 8, 8, 8, 8, 8, 8, 8, 8, 8, 8, 8, 8, 8, 8, 8, 8, 8, 8, 8, 8, 8, 8, 8, 8, 8, 8, 8, 8, 8, 8, 8, 8, 8, 8, 8, 8, 8, 8, 8, 8, 8, 8, 8, 8, 8, 8, 8, 8, 8, 8, 8, 8, 8, 8, 8, 8, 8, 8, 8, 8, 8, 8]⟩ : ByteArray) (IntKind.wrap .u8 (Int.fdiv v0 (2 ^ (min (8 : Int).toNat (IntKind.bits .u64))))).toNat : Nat) : Int)))
  else
    need (0 ≤ (IntKind.wrap .u8 v0) ∧ (IntKind.wrap .u8 v0) < (((⟨#[0, 1, 2, 2, 3, 3, 3, 3, 4, 4, 4, 4, 4, 4, 4, 4, 5, 5, 5, 5, 5, 5, 5, 5, 5, 5, 5, 5, 5, 5, 5, 5, 6, 6, 6, 6, 6, 6, 6, 6, 6, 6, 6, 6, 6, 6, 6, 6, 6, 6, 6, 6, 6, 6, 6, 6, 6, 6, 6, 6, 6, 6, 6, 6, 7, 7, 7, 7, 7, 7, 7, 7, 7, 7, 7, 7, 7, 7, 7, 7, 7, 7, 7, 7, 7, 7, 7, 7, 7, 7, 7, 7, 7, 7, 7, 7, 7, 7, 7, 7, 7, 7, 7, 7, 7, 7, 7, 7, 7, 7, 7, 7, 7, 7, 7, 7, 7, 7, 7, 7, 7, 7, 7, 7, 7, 7, 7, 7, 8, 8, 8, 8, 8, 8, 8, 8, 8, 8, 8, 8, 8, 8, 8, 8, 8, 8, 8, 8, 8, 8, 8, 8, 8, 8, 8, 8, 8, 8, 8, 8, 8, 8, 8, 8, 8, 8, 8, 8, 8, 8, 8, 8, 8, 8, 8, 8, 8, 8, 8, 8, 8, 8, 8, 8, 8, 8, 8, 8, 8, 8, 8, 8, 8, 8, 8, 8, 8, 8, 8, 8, 8, 8, 8, 8, 8, 8, 8, 8, 8, 8, 8, 8, 8, 8, 8, 8, 8, 8, 8, 8, 8, 8, 8, 8, 8, 8, 8, 8, 8, 8, 8, 8, 8, 8, 8, 8, 8, 8, 8, 8, 8, 8, 8, 8, 8, 8, 8, 8, 8, 8, 8, 8, 8, 8, 8, 8]⟩ : ByteArray).size : Nat) : Int)) <|
    some (add64 v2 (IntKind.wrap .i64 ((byteAt (⟨#[0, 1, 2, 2, 3, 3, 3, 3, 4, 4, 4, 4, 4, 4, 4, 4, 5, 5, 5, 5, 5, 5, 5, 5, 5, 5, 5, 5, 5, 5, 5, 5, 6, 6, 6, 6, 6, 6, 6, 6, 6, 6, 6, 6, 6, 6, 6, 6, 6, 6, 6, 6, 6, 6, 6, 6, 6, 6, 6, 6, 6, 6, 6, 6, 7, 7, 7, 7, 7, 7, 7, 7, 7, 7, 7, 7, 7, 7, 7, 7, 7, 7, 7, 7, 7, 7, 7, 7, 7, 7, 7, 7, 7, 7, 7, 7, 7, 7, 7, 7, 7, 7, 7, 7, 7, 7, 7, 7, 7, 7, 7, 7, 7, 7, 7, 7, 7, 7, 7, 7, 7, 7, 7, 7, 7, 7, 7, 7, 8, 8, 8, 8, 8, 8, 8, 8, 8, 8, 8, 8, 8, 8, 8, 8, 8, 8, 8, 8, 8, 8, 8, 8, 8, 8, 8, 8, 8, 8, 8, 8, 8, 8, 8, 8, 8, 8, 8, 8, 8, 8, 8, 8, 8, 8, 8, 8, 8, 8, 8, 8, 8, 8, 8, 8, 8, 8, 8, 8, 8, 8, 8, 8, 8, 8, 8, 8, 8, 8, 8, 8, 8, 8, 8, 8, 8, 8, 8, 8, 8, 8, 8, 8, 8, 8, 8, 8, 8, 8, 8, 8, 8, 8, 8, 8, 8, 8, 8, 8, 8, 8, 8, 8, 8, 8, 8, 8, 8, 8, 8, 8, 8, 8, 8, 8, 8, 8, 8, 8, 8, 8, 8, 8, 8, 8, 8, 8]⟩ : ByteArray) (IntKind.wrap .u8 v0).toNat : Nat) : Int)))

theorem g_math_bits_Len64_c1_ok (S0 : Nat → Prop) (w0 : Start)   (v0 : Int) (v2 : Int) (r : Int) (hf : g_math_bits_Len64_c1   v0 v2 = some r) : Good Try.prog 25 S0 w0 (bodyPost Try.prog Try.f163 (Post S0 w0 (.one (.lit (.int .i64 r))))) (at_ [1, 1, 1] (bodyOf Try.f163)) ⟨[(0, .one (.lit (.int .u64 v0))), (2, .one (.lit (.int .i64 v2)))], []⟩ := by
  unfold g_math_bits_Len64_c1 at hf
  rcases br_some hf with ⟨h3, hf⟩ | ⟨h3, hf⟩
  · obtain ⟨o4, hf⟩ := need_some hf
    replace hf := Option.some.inj hf
    subst hf
    exact toEnd_good allOk 9 _ _ [⟨[], [], [], [], [], [], []⟩, ⟨[], [], [], [], [], [], []⟩, ⟨[], [], [], [], [], [], []⟩, ⟨[], [], [], [], [], [], []⟩] [true] [] [] [] [(decide (v0 ≥ (256 : Int))) = true, 0 ≤ (8 : Int), 0 ≤ (IntKind.wrap .u8 (Int.fdiv v0 (2 ^ (min (8 : Int).toNat (IntKind.bits .u64))))) ∧ (IntKind.wrap .u8 (Int.fdiv v0 (2 ^ (min (8 : Int).toNat (IntKind.bits .u64))))) < (((⟨#[0, 1, 2, 2, 3, 3, 3, 3, 4, 4, 4, 4, 4, 4, 4, 4, 5, 5, 5, 5, 5, 5, 5, 5, 5, 5, 5, 5, 5, 5, 5, 5, 6, 6, 6, 6, 6, 6, 6, 6, 6, 6, 6, 6, 6, 6, 6, 6, 6, 6, 6, 6, 6, 6, 6, 6, 6, 6, 6, 6, 6, 6, 6, 6, 7, 7, 7, 7, 7, 7, 7, 7, 7, 7, 7, 7, 7, 7, 7, 7, 7, 7, 7, 7, 7, 7, 7, 7, 7, 7, 7, 7, 7, 7, 7, 7, 7, 7, 7, 7, 7, 7, 7, 7, 7, 7, 7, 7, 7, 7, 7, 7, 7, 7, 7, 7, 7, 7, 7, 7, 7, 7, 7, 7, 7, 7, 7, 7, 8, 8, 8, 8, 8, 8, 8, 8, 8, 8, 8, 8, 8, 8, 8, 8, 8, 8, 8, 8, 8, 8, 8, 8, 8, 8, 8, 8, 8, 8, 8, 8, 8, 8, 8, 8, 8, 8, 8, 8, 8, 8, 8, 8, 8, 8, 8, 8, 8, 8, 8, 8, 8, 8, 8, 8, 8, 8, 8, 8, 8, 8, 8, 8, 8, 8, 8, 8, 8, 8, 8, 8, 8, 8, 8, 8, 8, 8, 8, 8, 8, 8, 8, 8, 8, 8, 8, 8, 8, 8, 8, 8, 8, 8, 8, 8, 8, 8, 8, 8, 8, 8, 8, 8, 8, 8, 8, 8, 8, 8, 8, 8, 8, 8, 8, 8, 8, 8, 8, 8, 8, 8, 8, 8, 8, 8, 8, 8]⟩ : ByteArray).size : Nat) : Int)] (by kernel_rfl) rfl ⟨h3, (by decide), o4, trivial⟩
  · obtain ⟨o5, hf⟩ := need_some hf
    replace hf := Option.some.inj hf
    subst hf
    exact toEnd_good allOk 7 _ _ [⟨[], [], [], [], [], [], []⟩, ⟨[], [], [], [], [], [], []⟩] [false] [] [] [] [(decide (v0 ≥ (256 : Int))) = false, 0 ≤ (IntKind.wrap .u8 v0) ∧ (IntKind.wrap .u8 v0) < (((⟨#[0, 1, 2, 2, 3, 3, 3, 3, 4, 4, 4, 4, 4, 4, 4, 4, 5, 5, 5, 5, 5, 5, 5, 5, 5, 5, 5, 5, 5, 5, 5, 5, 6, 6, 6, 6, 6, 6, 6, 6, 6, 6, 6, 6, 6, 6, 6, 6, 6, 6, 6, 6, 6, 6, 6, 6, 6, 6, 6, 6, 6, 6, 6, 6, 7, 7, 7, 7, 7, 7, 7, 7, 7, 7, 7, 7, 7, 7, 7, 7, 7, 7, 7, 7, 7, 7, 7, 7, 7, 7, 7, 7, 7, 7, 7, 7, 7, 7, 7, 7, 7, 7, 7, 7, 7, 7, 7, 7, 7, 7, 7, 7, 7, 7, 7, 7, 7, 7, 7, 7, 7, 7, 7, 7, 7, 7, 7, 7, 8, 8, 8, 8, 8, 8, 8, 8, 8, 8, 8, 8, 8, 8, 8, 8, 8, 8, 8, 8, 8, 8, 8, 8, 8, 8, 8, 8, 8, 8, 8, 8, 8, 8, 8, 8, 8, 8, 8, 8, 8, 8, 8, 8, 8, 8, 8, 8, 8, 8, 8, 8, 8, 8, 8, 8, 8, 8, 8, 8, 8, 8, 8, 8, 8, 8, 8, 8, 8, 8, 8, 8, 8, 8, 8, 8, 8, 8, 8, 8, 8, 8, 8, 8, 8, 8, 8, 8, 8, 8, 8, 8, 8, 8, 8, 8, 8, 8, 8, 8, 8, 8, 8, 8, 8, 8, 8, 8, 8, 8, 8, 8, 8, 8, 8, 8, 8, 8, 8, 8, 8, 8, 8, 8, 8, 8, 8, 8]⟩ : ByteArray).size : Nat) : Int)] (by kernel_rfl) rfl ⟨h3, o5, trivial⟩

def g_math_bits_Len64_c0   (v0 : Int) (v2 : Int) : Option Int :=
  bif (decide (v0 ≥ (65536 : Int))) then
    g_math_bits_Len64_c1   (Int.fdiv v0 (2 ^ (min (16 : Int).toNat (IntKind.bits .u64)))) (add64 v2 (16 : Int))
  else
    g_math_bits_Len64_c1   v0 v2

theorem g_math_bits_Len64_c0_ok (S0 : Nat → Prop) (w0 : Start)   (v0 : Int) (v2 : Int) (r : Int) (hf : g_math_bits_Len64_c0   v0 v2 = some r) : Good Try.prog 25 S0 w0 (bodyPost Try.prog Try.f163 (Post S0 w0 (.one (.lit (.int .i64 r))))) (at_ [1, 1] (bodyOf Try.f163)) ⟨[(0, .one (.lit (.int .u64 v0))), (2, .one (.lit (.int .i64 v2)))], []⟩ := by
  unfold g_math_bits_Len64_c0 at hf
  rcases br_some hf with ⟨h2, hf⟩ | ⟨h2, hf⟩
  · exact toK_good allOk Post.ends 7 _ _ _ _ [⟨[], [], [], [], [], [], []⟩, ⟨[], [], [], [], [], [], []⟩, ⟨[], [], [], [], [], [], []⟩] [true] ⟨[], [], [], [], [], [0, 2], [], []⟩ [(decide (v0 ≥ (65536 : Int))) = true, 0 ≤ (16 : Int)] (by kernel_rfl) ⟨h2, (by decide), trivial⟩ (g_math_bits_Len64_c1_ok S0 w0    (Int.fdiv v0 (2 ^ (min (16 : Int).toNat (IntKind.bits .u64)))) (add64 v2 (16 : Int)) r hf)
  · exact toK_good allOk Post.ends 5 _ _ _ _ [⟨[], [], [], [], [], [], []⟩] [false] ⟨[], [], [], [], [], [0, 2], [], []⟩ [(decide (v0 ≥ (65536 : Int))) = false] (by kernel_rfl) ⟨h2, trivial⟩ (g_math_bits_Len64_c1_ok S0 w0    v0 v2 r hf)

/-- math/bits.Len64 -/
def g_math_bits_Len64 (a0 : Int) : Option Int :=
  bif (decide (a0 ≥ (4294967296 : Int))) then
    g_math_bits_Len64_c0   (Int.fdiv a0 (2 ^ (min (32 : Int).toNat (IntKind.bits .u64)))) (32 : Int)
  else
    g_math_bits_Len64_c0   a0 (0 : Int)

theorem g_math_bits_Len64_ok (a0 : Int) (r : Int) (hf : g_math_bits_Len64 a0 = some r) : SCall Try.prog 163 [.one (.lit (.int .u64 a0))] (.one (.lit (.int .i64 r))) := by
  refine SCall.of Try.func163 rfl rfl rfl rfl fun S0 w0 => ?_
  unfold g_math_bits_Len64 at hf
  rcases br_some hf with ⟨h1, hf⟩ | ⟨h1, hf⟩
  · exact toK_good allOk Post.ends 9 _ _ _ _ [⟨[], [], [], [], [], [], []⟩, ⟨[], [], [], [], [], [], []⟩, ⟨[], [], [], [], [], [], []⟩, ⟨[], [], [], [], [], [], []⟩] [true] ⟨[], [], [], [], [], [0, 2], [], []⟩ [(decide (a0 ≥ (4294967296 : Int))) = true, 0 ≤ (32 : Int)] (by kernel_rfl) ⟨h1, (by decide), trivial⟩ (g_math_bits_Len64_c0_ok S0 w0    (Int.fdiv a0 (2 ^ (min (32 : Int).toNat (IntKind.bits .u64)))) (32 : Int) r hf)
  · exact toK_good allOk Post.ends 7 _ _ _ _ [⟨[], [], [], [], [], [], []⟩, ⟨[], [], [], [], [], [], []⟩] [false] ⟨[], [], [], [], [], [0, 2], [], []⟩ [(decide (a0 ≥ (4294967296 : Int))) = false] (by kernel_rfl) ⟨h1, trivial⟩ (g_math_bits_Len64_c0_ok S0 w0    a0 (0 : Int) r hf)

/-- math/bits.LeadingZeros64 -/
def g_math_bits_LeadingZeros64 (a0 : Int) : Option Int :=
  (g_math_bits_Len64 a0).bind fun x1 =>
  some (sub64 (64 : Int) x1)

theorem g_math_bits_LeadingZeros64_ok (a0 : Int) (r : Int) (hf : g_math_bits_LeadingZeros64 a0 = some r) : SCall Try.prog 154 [.one (.lit (.int .u64 a0))] (.one (.lit (.int .i64 r))) := by
  refine SCall.of Try.func154 rfl rfl rfl rfl fun S0 w0 => ?_
  unfold g_math_bits_LeadingZeros64 at hf
  obtain ⟨x1, q1, hf⟩ := bind_some' hf
  replace hf := Option.some.inj hf
  subst hf
  exact toEnd_good allOk 4 _ _ [⟨[], [], [], [], [], [], []⟩, ⟨[(1, .r (.one (.lit (.int .i64 x1))) [])], [], [], [], [], [], []⟩] [] [] [] [] [SCall Try.prog 163 [.one (.lit (.int .u64 a0))] (.one (.lit (.int .i64 x1)))] (by kernel_rfl) rfl ⟨(g_math_bits_Len64_ok a0 x1 q1), trivial⟩

def g_trie_common_c0   (v5 : Int) (v8 : Int) (b2 : T_api_Net) : Option Int :=
  bif (!b2.fAddr.fV6) then
    (g_addr_Bits b2.fAddr).bind fun x3 =>
    some (if v5 < (sub64 v8 (sub64 (128 : Int) x3)) then v5 else (sub64 v8 (sub64 (128 : Int) x3)))
  else
    some (if v5 < v8 then v5 else v8)

theorem g_trie_common_c0_ok (S0 : Nat → Prop) (w0 : Start)   (v5 : Int) (v8 : Int) (b2 : T_api_Net) (r : Int) (hf : g_trie_common_c0   v5 v8 b2 = some r) : Good Try.prog 48 S0 w0 (bodyPost Try.prog Try.f136 (Post S0 w0 (.one (.lit (.int .i64 r))))) (at_ [1, 1, 1, 1, 1] (bodyOf Try.f136)) ⟨[(2, .one (.ptr 2 0)), (5, .one (.lit (.int .i64 v5))), (8, .one (.lit (.int .i64 v8)))], [(2, .box [.lit (.bool b2.fAddr.fV6), .lit (.int .u64 b2.fAddr.fHi), .lit (.int .u64 b2.fAddr.fLo), .lit (.int .i64 b2.fBits)])]⟩ := by
  unfold g_trie_common_c0 at hf
  rcases br_some hf with ⟨h4, hf⟩ | ⟨h4, hf⟩
  · obtain ⟨x3, q5, hf⟩ := bind_some' hf
    replace hf := Option.some.inj hf
    subst hf
    exact toEnd_good allOk 7 _ _ [⟨[], [], [], [], [], [], []⟩, ⟨[(3, .r (.one (.lit (.int .i64 x3))) [])], [], [], [], [], [], []⟩, ⟨[], [], [], [], [], [], []⟩] [true] [] [] [] [(!b2.fAddr.fV6) = true, SCall Try.prog 135 [.agg (T_api_Addr.c b2.fAddr)] (.one (.lit (.int .i64 x3)))] (by kernel_rfl) rfl ⟨h4, (g_addr_Bits_ok b2.fAddr x3 q5), trivial⟩
  · replace hf := Option.some.inj hf
    subst hf
    exact toEnd_good allOk 7 _ _ [⟨[], [], [], [], [], [], []⟩, ⟨[], [], [], [], [], [], []⟩] [false] [] [] [] [(!b2.fAddr.fV6) = false] (by kernel_rfl) rfl ⟨h4, trivial⟩

/-- doorman/trie.common -/
def g_trie_common (a0 : T_api_Net) (a1 : T_api_Net) : Option Int :=
  (g_math_bits_LeadingZeros64 (IntKind.wrap .u64 (((BitVec.ofInt (IntKind.bits .u64) a0.fAddr.fHi) ^^^ (BitVec.ofInt (IntKind.bits .u64) a1.fAddr.fHi)).toNat : Int))).bind fun x1 =>
  bif ((IntKind.wrap .u64 (((BitVec.ofInt (IntKind.bits .u64) a0.fAddr.fHi) ^^^ (BitVec.ofInt (IntKind.bits .u64) a1.fAddr.fHi)).toNat : Int)) == (0 : Int)) then
    (g_math_bits_LeadingZeros64 (IntKind.wrap .u64 (((BitVec.ofInt (IntKind.bits .u64) a0.fAddr.fLo) ^^^ (BitVec.ofInt (IntKind.bits .u64) a1.fAddr.fLo)).toNat : Int))).bind fun x2 =>
    g_trie_common_c0   (if a1.fBits < a0.fBits then a1.fBits else a0.fBits) (add64 (64 : Int) x2) a0
  else
    g_trie_common_c0   (if a1.fBits < a0.fBits then a1.fBits else a0.fBits) x1 a0

theorem g_trie_common_ok (a0 : T_api_Net) (a1 : T_api_Net) (r : Int) (hf : g_trie_common a0 a1 = some r) : SCall Try.prog 136 [.agg (T_api_Net.c a0), .agg (T_api_Net.c a1)] (.one (.lit (.int .i64 r))) := by
  refine SCall.of Try.func136 rfl rfl rfl rfl fun S0 w0 => ?_
  unfold g_trie_common at hf
  obtain ⟨x1, q1, hf⟩ := bind_some' hf
  rcases br_some hf with ⟨h2, hf⟩ | ⟨h2, hf⟩
  · obtain ⟨x2, q3, hf⟩ := bind_some' hf
    exact toK_good allOk Post.ends 13 _ _ _ _ [⟨[], [], [], [], [], [], []⟩, ⟨[], [], [], [], [], [], []⟩, ⟨[], [], [], [[], [0], [1, 0], [], [3], [4, 3], [2, 1, 0, 5, 4, 3], [], [7], [8, 7], [], [10], [11, 10], [9, 8, 7, 12, 11, 10], [6, 2, 1, 0, 5, 4, 3], [13, 9, 8, 7, 12, 11, 10, 14, 6, 2, 1, 0, 5, 4, 3]], [], [], []⟩, ⟨[(1, .r (.one (.lit (.int .i64 x1))) [])], [], [], [], [], [], []⟩, ⟨[], [], [], [], [], [], []⟩, ⟨[(1, .r (.one (.lit (.int .i64 x2))) [])], [], [], [], [], [], []⟩] [true] ⟨[], [], [], [], [], [2, 5, 8], [2], []⟩ [SCall Try.prog 154 [.one (.lit (.int .u64 (IntKind.wrap .u64 (((BitVec.ofInt (IntKind.bits .u64) a0.fAddr.fHi) ^^^ (BitVec.ofInt (IntKind.bits .u64) a1.fAddr.fHi)).toNat : Int))))] (.one (.lit (.int .i64 x1))), ((IntKind.wrap .u64 (((BitVec.ofInt (IntKind.bits .u64) a0.fAddr.fHi) ^^^ (BitVec.ofInt (IntKind.bits .u64) a1.fAddr.fHi)).toNat : Int)) == (0 : Int)) = true, SCall Try.prog 154 [.one (.lit (.int .u64 (IntKind.wrap .u64 (((BitVec.ofInt (IntKind.bits .u64) a0.fAddr.fLo) ^^^ (BitVec.ofInt (IntKind.bits .u64) a1.fAddr.fLo)).toNat : Int))))] (.one (.lit (.int .i64 x2)))] (by kernel_rfl) ⟨(g_math_bits_LeadingZeros64_ok (IntKind.wrap .u64 (((BitVec.ofInt (IntKind.bits .u64) a0.fAddr.fHi) ^^^ (BitVec.ofInt (IntKind.bits .u64) a1.fAddr.fHi)).toNat : Int)) x1 q1), h2, (g_math_bits_LeadingZeros64_ok (IntKind.wrap .u64 (((BitVec.ofInt (IntKind.bits .u64) a0.fAddr.fLo) ^^^ (BitVec.ofInt (IntKind.bits .u64) a1.fAddr.fLo)).toNat : Int)) x2 q3), trivial⟩ (g_trie_common_c0_ok S0 w0    (if a1.fBits < a0.fBits then a1.fBits else a0.fBits) (add64 (64 : Int) x2) a0 r hf)
  · exact toK_good allOk Post.ends 13 _ _ _ _ [⟨[], [], [], [], [], [], []⟩, ⟨[], [], [], [], [], [], []⟩, ⟨[], [], [], [[], [0], [1, 0], [], [3], [4, 3], [2, 1, 0, 5, 4, 3], [], [7], [8, 7], [], [10], [11, 10], [9, 8, 7, 12, 11, 10], [6, 2, 1, 0, 5, 4, 3], [13, 9, 8, 7, 12, 11, 10, 14, 6, 2, 1, 0, 5, 4, 3]], [], [], []⟩, ⟨[(1, .r (.one (.lit (.int .i64 x1))) [])], [], [], [], [], [], []⟩, ⟨[], [], [], [], [], [], []⟩] [false] ⟨[], [], [], [], [], [2, 5, 8], [2], []⟩ [SCall Try.prog 154 [.one (.lit (.int .u64 (IntKind.wrap .u64 (((BitVec.ofInt (IntKind.bits .u64) a0.fAddr.fHi) ^^^ (BitVec.ofInt (IntKind.bits .u64) a1.fAddr.fHi)).toNat : Int))))] (.one (.lit (.int .i64 x1))), ((IntKind.wrap .u64 (((BitVec.ofInt (IntKind.bits .u64) a0.fAddr.fHi) ^^^ (BitVec.ofInt (IntKind.bits .u64) a1.fAddr.fHi)).toNat : Int)) == (0 : Int)) = false] (by kernel_rfl) ⟨(g_math_bits_LeadingZeros64_ok (IntKind.wrap .u64 (((BitVec.ofInt (IntKind.bits .u64) a0.fAddr.fHi) ^^^ (BitVec.ofInt (IntKind.bits .u64) a1.fAddr.fHi)).toNat : Int)) x1 q1), h2, trivial⟩ (g_trie_common_c0_ok S0 w0    (if a1.fBits < a0.fBits then a1.fBits else a0.fBits) x1 a0 r hf)

/-- doorman/trie.branch -/
def g_trie_branch (a0 : N_trie_node) (a1 : T_trie_node) (a2 : Int) : Option N_trie_node :=
  bif (a2 == a1.fhit.fNet.fBits) then
    (match a0 with
    | .nil =>
      none
    | .mk p1_0 p1_1 p1_2 p1_3 =>
      (g_trie_bit p1_0.fNet a2).bind fun x2 =>
      need (0 ≤ x2 ∧ x2 < ((2 : Nat) : Int)) <|
      ix2 x2 (
        some (N_trie_node.mk a1.fhit a1.fhas (N_trie_node.mk p1_0 p1_1 p1_2 p1_3) a1.fkids.2)) (
        some (N_trie_node.mk a1.fhit a1.fhas a1.fkids.1 (N_trie_node.mk p1_0 p1_1 p1_2 p1_3))))
  else
    (g_cidr_Make a1.fhit.fNet.fAddr a2).bind fun x3 =>
    (match a0 with
    | .nil =>
      none
    | .mk p4_0 p4_1 p4_2 p4_3 =>
      (g_trie_bit p4_0.fNet a2).bind fun x5 =>
      need (0 ≤ x5 ∧ x5 < ((2 : Nat) : Int)) <|
      ix2 x5 (
        (g_trie_bit a1.fhit.fNet a2).bind fun x6 =>
        need (0 ≤ x6 ∧ x6 < ((2 : Nat) : Int)) <|
        ix2 x6 (
          some (N_trie_node.mk (T_trie_Hit.mk x3.1 (0 : Int)) false (N_trie_node.mk a1.fhit a1.fhas a1.fkids.1 a1.fkids.2) N_trie_node.nil)) (
          some (N_trie_node.mk (T_trie_Hit.mk x3.1 (0 : Int)) false (N_trie_node.mk p4_0 p4_1 p4_2 p4_3) (N_trie_node.mk a1.fhit a1.fhas a1.fkids.1 a1.fkids.2)))) (
        (g_trie_bit a1.fhit.fNet a2).bind fun x7 =>
        need (0 ≤ x7 ∧ x7 < ((2 : Nat) : Int)) <|
        ix2 x7 (
          some (N_trie_node.mk (T_trie_Hit.mk x3.1 (0 : Int)) false (N_trie_node.mk a1.fhit a1.fhas a1.fkids.1 a1.fkids.2) (N_trie_node.mk p4_0 p4_1 p4_2 p4_3))) (
          some (N_trie_node.mk (T_trie_Hit.mk x3.1 (0 : Int)) false N_trie_node.nil (N_trie_node.mk a1.fhit a1.fhas a1.fkids.1 a1.fkids.2)))))

theorem g_trie_branch_own (a0 : N_trie_node) (a1 : T_trie_node) (a2 : Int) (r : N_trie_node) (hf : g_trie_branch a0 a1 a2 = some r) : HCall Try.prog 137 [(100000, .box (T_trie_node.c a1))] [.one (N_trie_node.c a0), .one (.ptr 100000 0), .one (.lit (.int .i64 a2))] [] (.one (N_trie_node.c r)) := by
  refine HCall.of Try.func137 rfl rfl rfl rfl fun S0 w0 => ?_
  unfold g_trie_branch at hf
  rcases br_some hf with ⟨h1, hf⟩ | ⟨h1, hf⟩
  · cases a0 with
    | nil =>
      dsimp only at hf
      cases hf
    | mk p1_0 p1_1 p1_2 p1_3 =>
      dsimp only at hf
      obtain ⟨x2, q2, hf⟩ := bind_some' hf
      obtain ⟨o3, hf⟩ := need_some hf
      rcases ix2_some o3 hf with ⟨e, hf⟩ | ⟨e, hf⟩
      · subst e
        replace hf := Option.some.inj hf
        subst hf
        exact toEndH_good allOk 10 _ _ [⟨[], [], [], [], [], [], []⟩, ⟨[], [], [], [], [], [], []⟩, ⟨[(7, .r (.one (.lit (.int .i64 (0 : Int)))) [])], [], [], [[], [], [1], [2, 1], [3, 2, 1], [4, 3, 2, 1], [], [5, 4, 3, 2, 1, 6], [], [0], [9, 0], [10, 9, 0, 7, 5, 4, 3, 2, 1, 6, 8], [11, 10, 9, 0, 7, 5, 4, 3, 2, 1, 6, 8]], [], [], []⟩, ⟨[], [], [], [], [], [], []⟩] [true] ⟨[100000], [], [], [], [], [6], [], []⟩ [(a2 == a1.fhit.fNet.fBits) = true, SCall Try.prog 95 [.agg (T_api_Net.c p1_0.fNet), .one (.lit (.int .i64 a2))] (.one (.lit (.int .i64 (0 : Int)))), 0 ≤ (0 : Int) ∧ (0 : Int) < ((2 : Nat) : Int)] (by kernel_rfl) ⟨h1, (g_trie_bit_ok p1_0.fNet a2 (0 : Int) q2), (by decide), trivial⟩
      · subst e
        replace hf := Option.some.inj hf
        subst hf
        exact toEndH_good allOk 10 _ _ [⟨[], [], [], [], [], [], []⟩, ⟨[], [], [], [], [], [], []⟩, ⟨[(7, .r (.one (.lit (.int .i64 (1 : Int)))) [])], [], [], [[], [], [1], [2, 1], [3, 2, 1], [4, 3, 2, 1], [], [5, 4, 3, 2, 1, 6], [], [0], [9, 0], [10, 9, 0, 7, 5, 4, 3, 2, 1, 6, 8], [11, 10, 9, 0, 7, 5, 4, 3, 2, 1, 6, 8]], [], [], []⟩, ⟨[], [], [], [], [], [], []⟩] [true] ⟨[100000], [], [], [], [], [6], [], []⟩ [(a2 == a1.fhit.fNet.fBits) = true, SCall Try.prog 95 [.agg (T_api_Net.c p1_0.fNet), .one (.lit (.int .i64 a2))] (.one (.lit (.int .i64 (1 : Int)))), 0 ≤ (1 : Int) ∧ (1 : Int) < ((2 : Nat) : Int)] (by kernel_rfl) ⟨h1, (g_trie_bit_ok p1_0.fNet a2 (1 : Int) q2), (by decide), trivial⟩
  · obtain ⟨x3, q4, hf⟩ := bind_some' hf
    cases a0 with
    | nil =>
      dsimp only at hf
      cases hf
    | mk p4_0 p4_1 p4_2 p4_3 =>
      dsimp only at hf
      obtain ⟨x5, q5, hf⟩ := bind_some' hf
      obtain ⟨o6, hf⟩ := need_some hf
      rcases ix2_some o6 hf with ⟨e, hf⟩ | ⟨e, hf⟩
      · subst e
        obtain ⟨x6, q7, hf⟩ := bind_some' hf
        obtain ⟨o8, hf⟩ := need_some hf
        rcases ix2_some o8 hf with ⟨e, hf⟩ | ⟨e, hf⟩
        · subst e
          replace hf := Option.some.inj hf
          subst hf
          exact toEndH_good allOk 17 _ _ [⟨[], [], [], [], [], [], []⟩, ⟨[], [], [], [], [], [], []⟩, ⟨[(7, .r (.tup [(true, T_api_Net.c x3.1), (false, cB x3.2)]) [])], [], [], [], [], [], []⟩, ⟨[], [], [], [], [(2, [(6, N_trie_node.c N_trie_node.nil), (7, N_trie_node.c N_trie_node.nil)])], [], []⟩, ⟨[(7, .r (.one (.lit (.int .i64 (0 : Int)))) [])], [], [], [[], [], [1], [2, 1], [3, 2, 1], [4, 3, 2, 1], [], [5, 4, 3, 2, 1, 6], [], [0], [9, 0], [10, 9, 0, 7, 5, 4, 3, 2, 1, 6, 8], [11, 10, 9, 0, 7, 5, 4, 3, 2, 1, 6, 8]], [], [], []⟩, ⟨[(7, .r (.one (.lit (.int .i64 (0 : Int)))) [])], [], [], [[], [], [1], [2, 1], [3, 2, 1], [4, 3, 2, 1], [], [5, 4, 3, 2, 1, 6], [], [0], [9, 0], [10, 9, 0, 7, 5, 4, 3, 2, 1, 6, 8], [11, 10, 9, 0, 7, 5, 4, 3, 2, 1, 6, 8]], [], [], []⟩, ⟨[], [], [], [], [], [], []⟩] [false] ⟨[100000, 45], [], [], [], [], [6], [], []⟩ [(a2 == a1.fhit.fNet.fBits) = false, SCall Try.prog 131 [.agg (T_api_Addr.c a1.fhit.fNet.fAddr), .one (.lit (.int .i64 a2))] (.tup [(true, T_api_Net.c x3.1), (false, cB x3.2)]), SCall Try.prog 95 [.agg (T_api_Net.c p4_0.fNet), .one (.lit (.int .i64 a2))] (.one (.lit (.int .i64 (0 : Int)))), 0 ≤ (0 : Int) ∧ (0 : Int) < ((2 : Nat) : Int), SCall Try.prog 95 [.agg (T_api_Net.c a1.fhit.fNet), .one (.lit (.int .i64 a2))] (.one (.lit (.int .i64 (0 : Int)))), 0 ≤ (0 : Int) ∧ (0 : Int) < ((2 : Nat) : Int)] (by kernel_rfl) ⟨h1, (g_cidr_Make_ok a1.fhit.fNet.fAddr a2 x3 q4), (g_trie_bit_ok p4_0.fNet a2 (0 : Int) q5), (by decide), (g_trie_bit_ok a1.fhit.fNet a2 (0 : Int) q7), (by decide), trivial⟩
        · subst e
          replace hf := Option.some.inj hf
          subst hf
          exact toEndH_good allOk 17 _ _ [⟨[], [], [], [], [], [], []⟩, ⟨[], [], [], [], [], [], []⟩, ⟨[(7, .r (.tup [(true, T_api_Net.c x3.1), (false, cB x3.2)]) [])], [], [], [], [], [], []⟩, ⟨[], [], [], [], [(2, [(6, N_trie_node.c N_trie_node.nil), (7, N_trie_node.c N_trie_node.nil)])], [], []⟩, ⟨[(7, .r (.one (.lit (.int .i64 (0 : Int)))) [])], [], [], [[], [], [1], [2, 1], [3, 2, 1], [4, 3, 2, 1], [], [5, 4, 3, 2, 1, 6], [], [0], [9, 0], [10, 9, 0, 7, 5, 4, 3, 2, 1, 6, 8], [11, 10, 9, 0, 7, 5, 4, 3, 2, 1, 6, 8]], [], [], []⟩, ⟨[(7, .r (.one (.lit (.int .i64 (1 : Int)))) [])], [], [], [[], [], [1], [2, 1], [3, 2, 1], [4, 3, 2, 1], [], [5, 4, 3, 2, 1, 6], [], [0], [9, 0], [10, 9, 0, 7, 5, 4, 3, 2, 1, 6, 8], [11, 10, 9, 0, 7, 5, 4, 3, 2, 1, 6, 8]], [], [], []⟩, ⟨[], [], [], [], [], [], []⟩] [false] ⟨[100000, 45], [], [], [], [], [6], [], []⟩ [(a2 == a1.fhit.fNet.fBits) = false, SCall Try.prog 131 [.agg (T_api_Addr.c a1.fhit.fNet.fAddr), .one (.lit (.int .i64 a2))] (.tup [(true, T_api_Net.c x3.1), (false, cB x3.2)]), SCall Try.prog 95 [.agg (T_api_Net.c p4_0.fNet), .one (.lit (.int .i64 a2))] (.one (.lit (.int .i64 (0 : Int)))), 0 ≤ (0 : Int) ∧ (0 : Int) < ((2 : Nat) : Int), SCall Try.prog 95 [.agg (T_api_Net.c a1.fhit.fNet), .one (.lit (.int .i64 a2))] (.one (.lit (.int .i64 (1 : Int)))), 0 ≤ (1 : Int) ∧ (1 : Int) < ((2 : Nat) : Int)] (by kernel_rfl) ⟨h1, (g_cidr_Make_ok a1.fhit.fNet.fAddr a2 x3 q4), (g_trie_bit_ok p4_0.fNet a2 (0 : Int) q5), (by decide), (g_trie_bit_ok a1.fhit.fNet a2 (1 : Int) q7), (by decide), trivial⟩
      · subst e
        obtain ⟨x7, q9, hf⟩ := bind_some' hf
        obtain ⟨o10, hf⟩ := need_some hf
        rcases ix2_some o10 hf with ⟨e, hf⟩ | ⟨e, hf⟩
        · subst e
          replace hf := Option.some.inj hf
          subst hf
          exact toEndH_good allOk 17 _ _ [⟨[], [], [], [], [], [], []⟩, ⟨[], [], [], [], [], [], []⟩, ⟨[(7, .r (.tup [(true, T_api_Net.c x3.1), (false, cB x3.2)]) [])], [], [], [], [], [], []⟩, ⟨[], [], [], [], [(2, [(6, N_trie_node.c N_trie_node.nil), (7, N_trie_node.c N_trie_node.nil)])], [], []⟩, ⟨[(7, .r (.one (.lit (.int .i64 (1 : Int)))) [])], [], [], [[], [], [1], [2, 1], [3, 2, 1], [4, 3, 2, 1], [], [5, 4, 3, 2, 1, 6], [], [0], [9, 0], [10, 9, 0, 7, 5, 4, 3, 2, 1, 6, 8], [11, 10, 9, 0, 7, 5, 4, 3, 2, 1, 6, 8]], [], [], []⟩, ⟨[(7, .r (.one (.lit (.int .i64 (0 : Int)))) [])], [], [], [[], [], [1], [2, 1], [3, 2, 1], [4, 3, 2, 1], [], [5, 4, 3, 2, 1, 6], [], [0], [9, 0], [10, 9, 0, 7, 5, 4, 3, 2, 1, 6, 8], [11, 10, 9, 0, 7, 5, 4, 3, 2, 1, 6, 8]], [], [], []⟩, ⟨[], [], [], [], [], [], []⟩] [false] ⟨[100000, 45], [], [], [], [], [6], [], []⟩ [(a2 == a1.fhit.fNet.fBits) = false, SCall Try.prog 131 [.agg (T_api_Addr.c a1.fhit.fNet.fAddr), .one (.lit (.int .i64 a2))] (.tup [(true, T_api_Net.c x3.1), (false, cB x3.2)]), SCall Try.prog 95 [.agg (T_api_Net.c p4_0.fNet), .one (.lit (.int .i64 a2))] (.one (.lit (.int .i64 (1 : Int)))), 0 ≤ (1 : Int) ∧ (1 : Int) < ((2 : Nat) : Int), SCall Try.prog 95 [.agg (T_api_Net.c a1.fhit.fNet), .one (.lit (.int .i64 a2))] (.one (.lit (.int .i64 (0 : Int)))), 0 ≤ (0 : Int) ∧ (0 : Int) < ((2 : Nat) : Int)] (by kernel_rfl) ⟨h1, (g_cidr_Make_ok a1.fhit.fNet.fAddr a2 x3 q4), (g_trie_bit_ok p4_0.fNet a2 (1 : Int) q5), (by decide), (g_trie_bit_ok a1.fhit.fNet a2 (0 : Int) q9), (by decide), trivial⟩
        · subst e
          replace hf := Option.some.inj hf
          subst hf
          exact toEndH_good allOk 17 _ _ [⟨[], [], [], [], [], [], []⟩, ⟨[], [], [], [], [], [], []⟩, ⟨[(7, .r (.tup [(true, T_api_Net.c x3.1), (false, cB x3.2)]) [])], [], [], [], [], [], []⟩, ⟨[], [], [], [], [(2, [(6, N_trie_node.c N_trie_node.nil), (7, N_trie_node.c N_trie_node.nil)])], [], []⟩, ⟨[(7, .r (.one (.lit (.int .i64 (1 : Int)))) [])], [], [], [[], [], [1], [2, 1], [3, 2, 1], [4, 3, 2, 1], [], [5, 4, 3, 2, 1, 6], [], [0], [9, 0], [10, 9, 0, 7, 5, 4, 3, 2, 1, 6, 8], [11, 10, 9, 0, 7, 5, 4, 3, 2, 1, 6, 8]], [], [], []⟩, ⟨[(7, .r (.one (.lit (.int .i64 (1 : Int)))) [])], [], [], [[], [], [1], [2, 1], [3, 2, 1], [4, 3, 2, 1], [], [5, 4, 3, 2, 1, 6], [], [0], [9, 0], [10, 9, 0, 7, 5, 4, 3, 2, 1, 6, 8], [11, 10, 9, 0, 7, 5, 4, 3, 2, 1, 6, 8]], [], [], []⟩, ⟨[], [], [], [], [], [], []⟩] [false] ⟨[100000, 45], [], [], [], [], [6], [], []⟩ [(a2 == a1.fhit.fNet.fBits) = false, SCall Try.prog 131 [.agg (T_api_Addr.c a1.fhit.fNet.fAddr), .one (.lit (.int .i64 a2))] (.tup [(true, T_api_Net.c x3.1), (false, cB x3.2)]), SCall Try.prog 95 [.agg (T_api_Net.c p4_0.fNet), .one (.lit (.int .i64 a2))] (.one (.lit (.int .i64 (1 : Int)))), 0 ≤ (1 : Int) ∧ (1 : Int) < ((2 : Nat) : Int), SCall Try.prog 95 [.agg (T_api_Net.c a1.fhit.fNet), .one (.lit (.int .i64 a2))] (.one (.lit (.int .i64 (1 : Int)))), 0 ≤ (1 : Int) ∧ (1 : Int) < ((2 : Nat) : Int)] (by kernel_rfl) ⟨h1, (g_cidr_Make_ok a1.fhit.fNet.fAddr a2 x3 q4), (g_trie_bit_ok p4_0.fNet a2 (1 : Int) q5), (by decide), (g_trie_bit_ok a1.fhit.fNet a2 (1 : Int) q9), (by decide), trivial⟩

/-- doorman/trie.with -/
def g_trie_with : Nat → N_trie_node → T_trie_Hit → Option N_trie_node
  | 0, _, _ => none
  | fu + 1, a0, a1 =>
    (match a0 with
    | .nil =>
      some (N_trie_node.mk a1 true N_trie_node.nil N_trie_node.nil)
    | .mk p1_0 p1_1 p1_2 p1_3 =>
      (g_trie_common p1_0.fNet a1.fNet).bind fun x2 =>
      bif (decide (x2 < p1_0.fNet.fBits)) then
        (g_trie_branch (N_trie_node.mk p1_0 p1_1 p1_2 p1_3) (T_trie_node.mk a1 true (N_trie_node.nil, N_trie_node.nil)) x2).bind fun x3 =>
        some x3
      else
        bif (x2 == a1.fNet.fBits) then
          some (N_trie_node.mk a1 true p1_2 p1_3)
        else
          (g_trie_bit a1.fNet x2).bind fun x4 =>
          need (0 ≤ x4 ∧ x4 < ((2 : Nat) : Int)) <|
          ix2 x4 (
            (g_trie_with fu p1_2 a1).bind fun x5 =>
            some (N_trie_node.mk p1_0 p1_1 x5 p1_3)) (
            (g_trie_with fu p1_3 a1).bind fun x6 =>
            some (N_trie_node.mk p1_0 p1_1 p1_2 x6)))

theorem g_trie_with_ok : ∀ (fu : Nat) (a0 : N_trie_node) (a1 : T_trie_Hit) (r : N_trie_node) (hf : g_trie_with fu a0 a1 = some r), SCall Try.prog 103 [.one (N_trie_node.c a0), .agg (T_trie_Hit.c a1)] (.one (N_trie_node.c r)) := by
  intro fu
  induction fu with
  | zero =>
    intro a0 a1 r hf
    simp [g_trie_with] at hf
  | succ fu ih =>
    intro a0 a1 r hf
    refine SCall.of Try.func103 rfl rfl rfl rfl fun S0 w0 => ?_
    unfold g_trie_with at hf
    cases a0 with
    | nil =>
      dsimp only at hf
      replace hf := Option.some.inj hf
      subst hf
      exact toEnd_good allOk 8 _ _ [⟨[], [], [], [], [], [], []⟩, ⟨[], [], [], [], [], [], []⟩, ⟨[], [], [], [], [(1, [(6, N_trie_node.c N_trie_node.nil), (7, N_trie_node.c N_trie_node.nil)])], [], []⟩] [true] [12] [] [] [true = true] (by kernel_rfl) rfl ⟨rfl, trivial⟩
    | mk p1_0 p1_1 p1_2 p1_3 =>
      dsimp only at hf
      obtain ⟨x2, q1, hf⟩ := bind_some' hf
      rcases br_some hf with ⟨h2, hf⟩ | ⟨h2, hf⟩
      · obtain ⟨x3, q3, hf⟩ := bind_some' hf
        replace hf := Option.some.inj hf
        subst hf
        exact toEnd_good allOk 15 _ _ [⟨[], [], [], [], [], [], []⟩, ⟨[], [], [], [], [], [], []⟩, ⟨[(7, .r (.one (.lit (.int .i64 x2))) [])], [], [], [[], [0], [1, 0], [2, 1, 0], [3, 2, 1, 0], [], [5], [4, 3, 2, 1, 0, 6, 5], [7, 4, 3, 2, 1, 0, 6, 5]], [], [], []⟩, ⟨[], [], [], [], [], [], []⟩, ⟨[], [], [], [], [(2, [(6, N_trie_node.c N_trie_node.nil), (7, N_trie_node.c N_trie_node.nil)])], [], [(5, ⟨[(100000, 32)], [], [], .one (N_trie_node.c x3)⟩)]⟩] [false, true] [] [] [] [false = false, SCall Try.prog 136 [.agg (T_api_Net.c p1_0.fNet), .agg (T_api_Net.c a1.fNet)] (.one (.lit (.int .i64 x2))), (decide (x2 < p1_0.fNet.fBits)) = true, HCall Try.prog 137 [(100000, .box (T_trie_node.c (T_trie_node.mk a1 true (N_trie_node.nil, N_trie_node.nil))))] [.one (N_trie_node.c (N_trie_node.mk p1_0 p1_1 p1_2 p1_3)), .one (.ptr 100000 0), .one (.lit (.int .i64 x2))] [] (.one (N_trie_node.c x3))] (by kernel_rfl) rfl ⟨rfl, (g_trie_common_ok p1_0.fNet a1.fNet x2 q1), h2, (g_trie_branch_own (N_trie_node.mk p1_0 p1_1 p1_2 p1_3) (T_trie_node.mk a1 true (N_trie_node.nil, N_trie_node.nil)) x2 x3 q3), trivial⟩
      · rcases br_some hf with ⟨h4, hf⟩ | ⟨h4, hf⟩
        · replace hf := Option.some.inj hf
          subst hf
          exact toEnd_good allOk 24 _ _ [⟨[], [], [], [], [], [], []⟩, ⟨[], [], [], [], [], [], []⟩, ⟨[(7, .r (.one (.lit (.int .i64 x2))) [])], [], [], [[], [0], [1, 0], [2, 1, 0], [3, 2, 1, 0], [], [5], [4, 3, 2, 1, 0, 6, 5], [7, 4, 3, 2, 1, 0, 6, 5]], [], [], []⟩, ⟨[], [], [], [], [], [], []⟩, ⟨[], [], [], [], [], [], []⟩, ⟨[], [], [], [], [], [], []⟩, ⟨[], [], [], [], [], [], []⟩, ⟨[], [], [], [], [], [], []⟩] [false, false, true] [6] [] [] [false = false, SCall Try.prog 136 [.agg (T_api_Net.c p1_0.fNet), .agg (T_api_Net.c a1.fNet)] (.one (.lit (.int .i64 x2))), (decide (x2 < p1_0.fNet.fBits)) = false, (x2 == a1.fNet.fBits) = true] (by kernel_rfl) rfl ⟨rfl, (g_trie_common_ok p1_0.fNet a1.fNet x2 q1), h2, h4, trivial⟩
        · obtain ⟨x4, q5, hf⟩ := bind_some' hf
          obtain ⟨o6, hf⟩ := need_some hf
          rcases ix2_some o6 hf with ⟨e, hf⟩ | ⟨e, hf⟩
          · subst e
            obtain ⟨x5, q7, hf⟩ := bind_some' hf
            replace hf := Option.some.inj hf
            subst hf
            exact toEnd_good allOk 27 _ _ [⟨[], [], [], [], [], [], []⟩, ⟨[], [], [], [], [], [], []⟩, ⟨[(7, .r (.one (.lit (.int .i64 x2))) [])], [], [], [[], [0], [1, 0], [2, 1, 0], [3, 2, 1, 0], [], [5], [4, 3, 2, 1, 0, 6, 5], [7, 4, 3, 2, 1, 0, 6, 5]], [], [], []⟩, ⟨[], [], [], [], [], [], []⟩, ⟨[], [], [], [], [], [], []⟩, ⟨[], [], [], [], [], [], []⟩, ⟨[(3, .r (.one (.lit (.int .i64 (0 : Int)))) [])], [], [], [], [], [], []⟩, ⟨[(8, .r (.one (N_trie_node.c x5)) [])], [], [], [[], [], [], [1], [3, 1], [4, 3, 1, 2], [5, 4, 3, 1, 2], [], [6, 5, 4, 3, 1, 2, 7], [], [9, 0, 1, 2, 3, 4, 5, 6, 7, 8], [10, 9, 0, 1, 2, 3, 4, 5, 6, 7, 8]], [], [], []⟩, ⟨[], [], [], [], [], [], []⟩] [false, false, false] [6] [] [] [false = false, SCall Try.prog 136 [.agg (T_api_Net.c p1_0.fNet), .agg (T_api_Net.c a1.fNet)] (.one (.lit (.int .i64 x2))), (decide (x2 < p1_0.fNet.fBits)) = false, (x2 == a1.fNet.fBits) = false, SCall Try.prog 95 [.agg (T_api_Net.c a1.fNet), .one (.lit (.int .i64 x2))] (.one (.lit (.int .i64 (0 : Int)))), 0 ≤ (0 : Int) ∧ (0 : Int) < ((2 : Nat) : Int), SCall Try.prog 103 [.one (N_trie_node.c p1_2), .agg (T_trie_Hit.c a1)] (.one (N_trie_node.c x5)), 0 ≤ (0 : Int) ∧ (0 : Int) < ((2 : Nat) : Int)] (by kernel_rfl) rfl ⟨rfl, (g_trie_common_ok p1_0.fNet a1.fNet x2 q1), h2, h4, (g_trie_bit_ok a1.fNet x2 (0 : Int) q5), (by decide), (ih p1_2 a1 x5 q7), (by decide), trivial⟩
          · subst e
            obtain ⟨x6, q8, hf⟩ := bind_some' hf
            replace hf := Option.some.inj hf
            subst hf
            exact toEnd_good allOk 27 _ _ [⟨[], [], [], [], [], [], []⟩, ⟨[], [], [], [], [], [], []⟩, ⟨[(7, .r (.one (.lit (.int .i64 x2))) [])], [], [], [[], [0], [1, 0], [2, 1, 0], [3, 2, 1, 0], [], [5], [4, 3, 2, 1, 0, 6, 5], [7, 4, 3, 2, 1, 0, 6, 5]], [], [], []⟩, ⟨[], [], [], [], [], [], []⟩, ⟨[], [], [], [], [], [], []⟩, ⟨[], [], [], [], [], [], []⟩, ⟨[(3, .r (.one (.lit (.int .i64 (1 : Int)))) [])], [], [], [], [], [], []⟩, ⟨[(8, .r (.one (N_trie_node.c x6)) [])], [], [], [[], [], [], [1], [3, 1], [4, 3, 1, 2], [5, 4, 3, 1, 2], [], [6, 5, 4, 3, 1, 2, 7], [], [9, 0, 1, 2, 3, 4, 5, 6, 7, 8], [10, 9, 0, 1, 2, 3, 4, 5, 6, 7, 8]], [], [], []⟩, ⟨[], [], [], [], [], [], []⟩] [false, false, false] [6] [] [] [false = false, SCall Try.prog 136 [.agg (T_api_Net.c p1_0.fNet), .agg (T_api_Net.c a1.fNet)] (.one (.lit (.int .i64 x2))), (decide (x2 < p1_0.fNet.fBits)) = false, (x2 == a1.fNet.fBits) = false, SCall Try.prog 95 [.agg (T_api_Net.c a1.fNet), .one (.lit (.int .i64 x2))] (.one (.lit (.int .i64 (1 : Int)))), 0 ≤ (1 : Int) ∧ (1 : Int) < ((2 : Nat) : Int), SCall Try.prog 103 [.one (N_trie_node.c p1_3), .agg (T_trie_Hit.c a1)] (.one (N_trie_node.c x6)), 0 ≤ (1 : Int) ∧ (1 : Int) < ((2 : Nat) : Int)] (by kernel_rfl) rfl ⟨rfl, (g_trie_common_ok p1_0.fNet a1.fNet x2 q1), h2, h4, (g_trie_bit_ok a1.fNet x2 (1 : Int) q5), (by decide), (ih p1_3 a1 x6 q8), (by decide), trivial⟩

def g_trie_Trie_With_c0 (a2 : Int)  (v0 : N_trie_Trie) (b4 : T_api_Net) : Option N_trie_Trie :=
  (match v0 with
  | .nil =>
    none
  | .mk p3_0 p3_1 p3_2 =>
    (g_cidr_Right b4).bind fun x4 =>
    bif (!x4) then
      some (N_trie_Trie.mk p3_0 p3_1 p3_2)
    else
      (g_trie_Trie_Get (N_trie_Trie.mk p3_0 p3_1 p3_2) b4).bind fun x5 =>
      bif (!x5.2) then
        (g_trie_family b4.fAddr).bind fun x6 =>
        need (0 ≤ x6 ∧ x6 < ((2 : Nat) : Int)) <|
        ix2 x6 (
          (g_trie_with 1000 p3_0 (T_trie_Hit.mk b4 a2)).bind fun x7 =>
          some (N_trie_Trie.mk x7 p3_1 (add64 p3_2 (1 : Int)))) (
          (g_trie_with 1000 p3_1 (T_trie_Hit.mk b4 a2)).bind fun x8 =>
          some (N_trie_Trie.mk p3_0 x8 (add64 p3_2 (1 : Int))))
      else
        (g_trie_family b4.fAddr).bind fun x9 =>
        need (0 ≤ x9 ∧ x9 < ((2 : Nat) : Int)) <|
        ix2 x9 (
          (g_trie_with 1000 p3_0 (T_trie_Hit.mk b4 a2)).bind fun x10 =>
          some (N_trie_Trie.mk x10 p3_1 p3_2)) (
          (g_trie_with 1000 p3_1 (T_trie_Hit.mk b4 a2)).bind fun x11 =>
          some (N_trie_Trie.mk p3_0 x11 p3_2)))

theorem g_trie_Trie_With_c0_ok (S0 : Nat → Prop) (w0 : Start) (a2 : Int)  (v0 : N_trie_Trie) (b4 : T_api_Net) (r : N_trie_Trie) (hf : g_trie_Trie_With_c0 a2  v0 b4 = some r) : Good Try.prog 48 S0 w0 (bodyPost Try.prog Try.f50 (Post S0 w0 (.one (N_trie_Trie.c r)))) (at_ [1, 1] (bodyOf Try.f50)) ⟨[(0, .one (N_trie_Trie.c v0)), (2, .one (.lit (.int .i64 a2))), (4, .one (.ptr 4 0))], [(4, .box [.lit (.bool b4.fAddr.fV6), .lit (.int .u64 b4.fAddr.fHi), .lit (.int .u64 b4.fAddr.fLo), .lit (.int .i64 b4.fBits)])]⟩ := by
  unfold g_trie_Trie_With_c0 at hf
  cases v0 with
  | nil =>
    dsimp only at hf
    cases hf
  | mk p3_0 p3_1 p3_2 =>
    dsimp only at hf
    obtain ⟨x4, q2, hf⟩ := bind_some' hf
    rcases br_some hf with ⟨h3, hf⟩ | ⟨h3, hf⟩
    · replace hf := Option.some.inj hf
      subst hf
      exact toEnd_good allOk 8 _ _ [⟨[], [], [], [], [], [], []⟩, ⟨[(1, .r (.one (.lit (.bool x4))) [])], [], [], [], [], [], []⟩, ⟨[], [], [], [], [], [], []⟩] [true] [7] [] [] [SCall Try.prog 93 [.agg (T_api_Net.c b4)] (.one (.lit (.bool x4))), (!x4) = true] (by kernel_rfl) rfl ⟨(g_cidr_Right_ok b4 x4 q2), h3, trivial⟩
    · obtain ⟨x5, q4, hf⟩ := bind_some' hf
      rcases br_some hf with ⟨h5, hf⟩ | ⟨h5, hf⟩
      · obtain ⟨x6, q6, hf⟩ := bind_some' hf
        obtain ⟨o7, hf⟩ := need_some hf
        rcases ix2_some o7 hf with ⟨e, hf⟩ | ⟨e, hf⟩
        · subst e
          obtain ⟨x7, q8, hf⟩ := bind_some' hf
          replace hf := Option.some.inj hf
          subst hf
          exact toEnd_good allOk 20 _ _ [⟨[], [], [], [], [], [], []⟩, ⟨[(1, .r (.one (.lit (.bool x4))) [])], [], [], [], [], [], []⟩, ⟨[(2, .r (.tup [(false, (cI .i64) x5.1), (false, cB x5.2)]) [])], [], [], [], [], [], []⟩, ⟨[], [], [], [], [], [], []⟩, ⟨[], [], [], [], [], [], []⟩, ⟨[(2, .r (.one (.lit (.int .i64 (0 : Int)))) [])], [], [], [], [], [], []⟩, ⟨[(10, .r (.one (N_trie_node.c x7)) [])], [], [], [[], [], [], [1], [3, 1], [4, 3, 1, 2], [5, 4, 3, 1, 2], [], [], [7, 8], [6, 5, 4, 3, 1, 2, 9, 7, 8], [], [11, 0, 1, 2, 3, 4, 5, 6, 7, 8, 9, 10], [12, 11, 0, 1, 2, 3, 4, 5, 6, 7, 8, 9, 10]], [], [], []⟩, ⟨[], [], [], [], [], [], []⟩] [false, true] [7] [] [] [SCall Try.prog 93 [.agg (T_api_Net.c b4)] (.one (.lit (.bool x4))), (!x4) = false, SCall Try.prog 43 [.one (N_trie_Trie.c (N_trie_Trie.mk p3_0 p3_1 p3_2)), .agg (T_api_Net.c b4)] (.tup [(false, (cI .i64) x5.1), (false, cB x5.2)]), (!x5.2) = true, SCall Try.prog 94 [.agg (T_api_Addr.c b4.fAddr)] (.one (.lit (.int .i64 (0 : Int)))), 0 ≤ (0 : Int) ∧ (0 : Int) < ((2 : Nat) : Int), SCall Try.prog 103 [.one (N_trie_node.c p3_0), .agg (T_trie_Hit.c (T_trie_Hit.mk b4 a2))] (.one (N_trie_node.c x7)), 0 ≤ (0 : Int) ∧ (0 : Int) < ((2 : Nat) : Int)] (by kernel_rfl) rfl ⟨(g_cidr_Right_ok b4 x4 q2), h3, (g_trie_Trie_Get_ok (N_trie_Trie.mk p3_0 p3_1 p3_2) b4 x5 q4), h5, (g_trie_family_ok b4.fAddr (0 : Int) q6), (by decide), (g_trie_with_ok 1000 p3_0 (T_trie_Hit.mk b4 a2) x7 q8), (by decide), trivial⟩
        · subst e
          obtain ⟨x8, q9, hf⟩ := bind_some' hf
          replace hf := Option.some.inj hf
          subst hf
          exact toEnd_good allOk 20 _ _ [⟨[], [], [], [], [], [], []⟩, ⟨[(1, .r (.one (.lit (.bool x4))) [])], [], [], [], [], [], []⟩, ⟨[(2, .r (.tup [(false, (cI .i64) x5.1), (false, cB x5.2)]) [])], [], [], [], [], [], []⟩, ⟨[], [], [], [], [], [], []⟩, ⟨[], [], [], [], [], [], []⟩, ⟨[(2, .r (.one (.lit (.int .i64 (1 : Int)))) [])], [], [], [], [], [], []⟩, ⟨[(10, .r (.one (N_trie_node.c x8)) [])], [], [], [[], [], [], [1], [3, 1], [4, 3, 1, 2], [5, 4, 3, 1, 2], [], [], [7, 8], [6, 5, 4, 3, 1, 2, 9, 7, 8], [], [11, 0, 1, 2, 3, 4, 5, 6, 7, 8, 9, 10], [12, 11, 0, 1, 2, 3, 4, 5, 6, 7, 8, 9, 10]], [], [], []⟩, ⟨[], [], [], [], [], [], []⟩] [false, true] [7] [] [] [SCall Try.prog 93 [.agg (T_api_Net.c b4)] (.one (.lit (.bool x4))), (!x4) = false, SCall Try.prog 43 [.one (N_trie_Trie.c (N_trie_Trie.mk p3_0 p3_1 p3_2)), .agg (T_api_Net.c b4)] (.tup [(false, (cI .i64) x5.1), (false, cB x5.2)]), (!x5.2) = true, SCall Try.prog 94 [.agg (T_api_Addr.c b4.fAddr)] (.one (.lit (.int .i64 (1 : Int)))), 0 ≤ (1 : Int) ∧ (1 : Int) < ((2 : Nat) : Int), SCall Try.prog 103 [.one (N_trie_node.c p3_1), .agg (T_trie_Hit.c (T_trie_Hit.mk b4 a2))] (.one (N_trie_node.c x8)), 0 ≤ (1 : Int) ∧ (1 : Int) < ((2 : Nat) : Int)] (by kernel_rfl) rfl ⟨(g_cidr_Right_ok b4 x4 q2), h3, (g_trie_Trie_Get_ok (N_trie_Trie.mk p3_0 p3_1 p3_2) b4 x5 q4), h5, (g_trie_family_ok b4.fAddr (1 : Int) q6), (by decide), (g_trie_with_ok 1000 p3_1 (T_trie_Hit.mk b4 a2) x8 q9), (by decide), trivial⟩
      · obtain ⟨x9, q10, hf⟩ := bind_some' hf
        obtain ⟨o11, hf⟩ := need_some hf
        rcases ix2_some o11 hf with ⟨e, hf⟩ | ⟨e, hf⟩
        · subst e
          obtain ⟨x10, q12, hf⟩ := bind_some' hf
          replace hf := Option.some.inj hf
          subst hf
          exact toEnd_good allOk 20 _ _ [⟨[], [], [], [], [], [], []⟩, ⟨[(1, .r (.one (.lit (.bool x4))) [])], [], [], [], [], [], []⟩, ⟨[(2, .r (.tup [(false, (cI .i64) x5.1), (false, cB x5.2)]) [])], [], [], [], [], [], []⟩, ⟨[], [], [], [], [], [], []⟩, ⟨[(2, .r (.one (.lit (.int .i64 (0 : Int)))) [])], [], [], [], [], [], []⟩, ⟨[(10, .r (.one (N_trie_node.c x10)) [])], [], [], [[], [], [], [1], [3, 1], [4, 3, 1, 2], [5, 4, 3, 1, 2], [], [], [7, 8], [6, 5, 4, 3, 1, 2, 9, 7, 8], [], [11, 0, 1, 2, 3, 4, 5, 6, 7, 8, 9, 10], [12, 11, 0, 1, 2, 3, 4, 5, 6, 7, 8, 9, 10]], [], [], []⟩, ⟨[], [], [], [], [], [], []⟩] [false, false] [7] [] [] [SCall Try.prog 93 [.agg (T_api_Net.c b4)] (.one (.lit (.bool x4))), (!x4) = false, SCall Try.prog 43 [.one (N_trie_Trie.c (N_trie_Trie.mk p3_0 p3_1 p3_2)), .agg (T_api_Net.c b4)] (.tup [(false, (cI .i64) x5.1), (false, cB x5.2)]), (!x5.2) = false, SCall Try.prog 94 [.agg (T_api_Addr.c b4.fAddr)] (.one (.lit (.int .i64 (0 : Int)))), 0 ≤ (0 : Int) ∧ (0 : Int) < ((2 : Nat) : Int), SCall Try.prog 103 [.one (N_trie_node.c p3_0), .agg (T_trie_Hit.c (T_trie_Hit.mk b4 a2))] (.one (N_trie_node.c x10)), 0 ≤ (0 : Int) ∧ (0 : Int) < ((2 : Nat) : Int)] (by kernel_rfl) rfl ⟨(g_cidr_Right_ok b4 x4 q2), h3, (g_trie_Trie_Get_ok (N_trie_Trie.mk p3_0 p3_1 p3_2) b4 x5 q4), h5, (g_trie_family_ok b4.fAddr (0 : Int) q10), (by decide), (g_trie_with_ok 1000 p3_0 (T_trie_Hit.mk b4 a2) x10 q12), (by decide), trivial⟩
        · subst e
          obtain ⟨x11, q13, hf⟩ := bind_some' hf
          replace hf := Option.some.inj hf
          subst hf
          exact toEnd_good allOk 20 _ _ [⟨[], [], [], [], [], [], []⟩, ⟨[(1, .r (.one (.lit (.bool x4))) [])], [], [], [], [], [], []⟩, ⟨[(2, .r (.tup [(false, (cI .i64) x5.1), (false, cB x5.2)]) [])], [], [], [], [], [], []⟩, ⟨[], [], [], [], [], [], []⟩, ⟨[(2, .r (.one (.lit (.int .i64 (1 : Int)))) [])], [], [], [], [], [], []⟩, ⟨[(10, .r (.one (N_trie_node.c x11)) [])], [], [], [[], [], [], [1], [3, 1], [4, 3, 1, 2], [5, 4, 3, 1, 2], [], [], [7, 8], [6, 5, 4, 3, 1, 2, 9, 7, 8], [], [11, 0, 1, 2, 3, 4, 5, 6, 7, 8, 9, 10], [12, 11, 0, 1, 2, 3, 4, 5, 6, 7, 8, 9, 10]], [], [], []⟩, ⟨[], [], [], [], [], [], []⟩] [false, false] [7] [] [] [SCall Try.prog 93 [.agg (T_api_Net.c b4)] (.one (.lit (.bool x4))), (!x4) = false, SCall Try.prog 43 [.one (N_trie_Trie.c (N_trie_Trie.mk p3_0 p3_1 p3_2)), .agg (T_api_Net.c b4)] (.tup [(false, (cI .i64) x5.1), (false, cB x5.2)]), (!x5.2) = false, SCall Try.prog 94 [.agg (T_api_Addr.c b4.fAddr)] (.one (.lit (.int .i64 (1 : Int)))), 0 ≤ (1 : Int) ∧ (1 : Int) < ((2 : Nat) : Int), SCall Try.prog 103 [.one (N_trie_node.c p3_1), .agg (T_trie_Hit.c (T_trie_Hit.mk b4 a2))] (.one (N_trie_node.c x11)), 0 ≤ (1 : Int) ∧ (1 : Int) < ((2 : Nat) : Int)] (by kernel_rfl) rfl ⟨(g_cidr_Right_ok b4 x4 q2), h3, (g_trie_Trie_Get_ok (N_trie_Trie.mk p3_0 p3_1 p3_2) b4 x5 q4), h5, (g_trie_family_ok b4.fAddr (1 : Int) q10), (by decide), (g_trie_with_ok 1000 p3_1 (T_trie_Hit.mk b4 a2) x11 q13), (by decide), trivial⟩

/-- (*doorman/trie.Trie).With -/
def g_trie_Trie_With (a0 : N_trie_Trie) (a1 : T_api_Net) (a2 : Int) : Option N_trie_Trie :=
  (match a0 with
  | .nil =>
    (g_trie_New).bind fun x2 =>
    g_trie_Trie_With_c0 a2  x2 a1
  | .mk p1_0 p1_1 p1_2 =>
    g_trie_Trie_With_c0 a2  (N_trie_Trie.mk p1_0 p1_1 p1_2) a1)

theorem g_trie_Trie_With_ok (a0 : N_trie_Trie) (a1 : T_api_Net) (a2 : Int) (r : N_trie_Trie) (hf : g_trie_Trie_With a0 a1 a2 = some r) : SCall Try.prog 50 [.one (N_trie_Trie.c a0), .agg (T_api_Net.c a1), .one (.lit (.int .i64 a2))] (.one (N_trie_Trie.c r)) := by
  refine SCall.of Try.func50 rfl rfl rfl rfl fun S0 w0 => ?_
  unfold g_trie_Trie_With at hf
  cases a0 with
  | nil =>
    dsimp only at hf
    obtain ⟨x2, q1, hf⟩ := bind_some' hf
    exact toK_good allOk Post.ends 7 _ _ _ _ [⟨[], [], [], [], [], [], []⟩, ⟨[], [], [], [], [], [], []⟩, ⟨[(0, .r (.one (N_trie_Trie.c x2)) [])], [], [], [], [], [], []⟩] [true] ⟨[], [], [], [], [], [0, 2, 4], [4], []⟩ [true = true, SCall Try.prog 39 [] (.one (N_trie_Trie.c x2))] (by kernel_rfl) ⟨rfl, (g_trie_New_ok  x2 q1), trivial⟩ (g_trie_Trie_With_c0_ok S0 w0 a2   x2 a1 r hf)
  | mk p1_0 p1_1 p1_2 =>
    dsimp only at hf
    exact toK_good allOk Post.ends 7 _ _ _ _ [⟨[], [], [], [], [], [], []⟩, ⟨[], [], [], [], [], [], []⟩] [false] ⟨[], [], [], [], [], [0, 2, 4], [4], []⟩ [false = false] (by kernel_rfl) ⟨rfl, trivial⟩ (g_trie_Trie_With_c0_ok S0 w0 a2   (N_trie_Trie.mk p1_0 p1_1 p1_2) a1 r hf)

def g_bans_index_c0 (a1 : Int)  : Nat → N_trie_Trie → (List T_api_Ban) → Int → Int → Option N_trie_Trie
  | 0, _, _, _, _ => none
  | fu + 1, v5, v11, v12, v13 =>
    bif (decide (v13 < v12)) then
      need (0 ≤ v13 ∧ v13 < ((v11.length : Nat) : Int)) <|
      (g_trie_Trie_Get v5 ((v11.getD v13.toNat T_api_Ban.d).fNet)).bind fun x2 =>
      (g_ban_Lives (v11.getD v13.toNat T_api_Ban.d) a1).bind fun x3 =>
      bif x3 then
        bif (!x2.2) then
          (g_trie_Trie_With v5 ((v11.getD v13.toNat T_api_Ban.d).fNet) ((v11.getD v13.toNat T_api_Ban.d).fUntil)).bind fun x4 =>
          g_bans_index_c0 a1  fu x4 v11 v12 (add64 v13 (1 : Int))
        else
          bif (decide (x2.1 < (v11.getD v13.toNat T_api_Ban.d).fUntil)) then
            (g_trie_Trie_With v5 ((v11.getD v13.toNat T_api_Ban.d).fNet) ((v11.getD v13.toNat T_api_Ban.d).fUntil)).bind fun x5 =>
            g_bans_index_c0 a1  fu x5 v11 v12 (add64 v13 (1 : Int))
          else
            g_bans_index_c0 a1  fu v5 v11 v12 (add64 v13 (1 : Int))
      else
        g_bans_index_c0 a1  fu v5 v11 v12 (add64 v13 (1 : Int))
    else
      some v5

theorem g_bans_index_c0_ok (S0 : Nat → Prop) (w0 : Start) (a1 : Int)  : ∀ (fu : Nat) (v5 : N_trie_Trie) (v11 : (List T_api_Ban)) (v12 : Int) (v13 : Int) (r : N_trie_Trie), g_bans_index_c0 a1  fu v5 v11 v12 v13 = some r → Good Try.prog 45 S0 w0 (bodyPost Try.prog Try.f157 (Post S0 w0 (.one (N_trie_Trie.c r)))) (at_ [1, 1, 0, 1, 0] (bodyOf Try.f157)) ⟨[(1, .one (.lit (.int .i64 a1))), (5, .one (N_trie_Trie.c v5)), (11, .one (cL 5 T_api_Ban.c T_api_Ban.d v11)), (12, .one (.lit (.int .i64 v12))), (13, .one (.lit (.int .i64 v13)))], []⟩ := by
  intro fu
  induction fu with
  | zero =>
    intro v5 v11 v12 v13 r hf
    simp [g_bans_index_c0] at hf
  | succ fu ih =>
    intro v5 v11 v12 v13 r hf
    unfold g_bans_index_c0 at hf
    rcases br_some hf with ⟨h2, hf⟩ | ⟨h2, hf⟩
    · obtain ⟨o3, hf⟩ := need_some hf
      obtain ⟨x2, q4, hf⟩ := bind_some' hf
      obtain ⟨x3, q5, hf⟩ := bind_some' hf
      rcases br_some hf with ⟨h6, hf⟩ | ⟨h6, hf⟩
      · rcases br_some hf with ⟨h7, hf⟩ | ⟨h7, hf⟩
        · obtain ⟨x4, q8, hf⟩ := bind_some' hf
          exact toK_good allOk Post.ends 19 _ _ _ _ [⟨[], [], [], [], [], [], []⟩, ⟨[], [], [], [], [], [], []⟩, ⟨[(3, .r (.tup [(false, (cI .i64) x2.1), (false, cB x2.2)]) [])], [], [], [], [], [], []⟩, ⟨[(2, .r (.one (.lit (.bool x3))) [])], [(3, true), (6, true)], [], [], [], [], []⟩, ⟨[(5, .r (.one (N_trie_Trie.c x4)) [])], [], [], [], [], [], []⟩, ⟨[], [], [], [], [], [], []⟩] [true, true] ⟨[], [], [], [], [], [1, 5, 11, 12, 13], [], []⟩ [(decide (v13 < v12)) = true, 0 ≤ v13 ∧ v13 < ((v11.length : Nat) : Int), SCall Try.prog 43 [.one (N_trie_Trie.c v5), .agg (T_api_Net.c ((v11.getD v13.toNat T_api_Ban.d).fNet))] (.tup [(false, (cI .i64) x2.1), (false, cB x2.2)]), SCall Try.prog 166 [.agg (T_api_Ban.c (v11.getD v13.toNat T_api_Ban.d)), .one (.lit (.int .i64 a1))] (.one (.lit (.bool x3))), x3 = true, (!x2.2) = true, true = true, SCall Try.prog 50 [.one (N_trie_Trie.c v5), .agg (T_api_Net.c ((v11.getD v13.toNat T_api_Ban.d).fNet)), .one (.lit (.int .i64 ((v11.getD v13.toNat T_api_Ban.d).fUntil)))] (.one (N_trie_Trie.c x4))] (by kernel_rfl) ⟨h2, o3, (g_trie_Trie_Get_ok v5 ((v11.getD v13.toNat T_api_Ban.d).fNet) x2 q4), (g_ban_Lives_ok (v11.getD v13.toNat T_api_Ban.d) a1 x3 q5), h6, h7, rfl, (g_trie_Trie_With_ok v5 ((v11.getD v13.toNat T_api_Ban.d).fNet) ((v11.getD v13.toNat T_api_Ban.d).fUntil) x4 q8), trivial⟩ (ih x4 v11 v12 (add64 v13 (1 : Int)) r hf)
        · rcases br_some hf with ⟨h9, hf⟩ | ⟨h9, hf⟩
          · obtain ⟨x5, q10, hf⟩ := bind_some' hf
            exact toK_good allOk Post.ends 19 _ _ _ _ [⟨[], [], [], [], [], [], []⟩, ⟨[], [], [], [], [], [], []⟩, ⟨[(3, .r (.tup [(false, (cI .i64) x2.1), (false, cB x2.2)]) [])], [], [], [], [], [], []⟩, ⟨[(2, .r (.one (.lit (.bool x3))) [])], [(3, true), (6, false)], [], [], [], [], []⟩, ⟨[(5, .r (.one (N_trie_Trie.c x5)) [])], [], [], [], [], [], []⟩, ⟨[], [], [], [], [], [], []⟩] [true, true] ⟨[], [], [], [], [], [1, 5, 11, 12, 13], [], []⟩ [(decide (v13 < v12)) = true, 0 ≤ v13 ∧ v13 < ((v11.length : Nat) : Int), SCall Try.prog 43 [.one (N_trie_Trie.c v5), .agg (T_api_Net.c ((v11.getD v13.toNat T_api_Ban.d).fNet))] (.tup [(false, (cI .i64) x2.1), (false, cB x2.2)]), SCall Try.prog 166 [.agg (T_api_Ban.c (v11.getD v13.toNat T_api_Ban.d)), .one (.lit (.int .i64 a1))] (.one (.lit (.bool x3))), x3 = true, (!x2.2) = false, (decide (x2.1 < (v11.getD v13.toNat T_api_Ban.d).fUntil)) = true, SCall Try.prog 50 [.one (N_trie_Trie.c v5), .agg (T_api_Net.c ((v11.getD v13.toNat T_api_Ban.d).fNet)), .one (.lit (.int .i64 ((v11.getD v13.toNat T_api_Ban.d).fUntil)))] (.one (N_trie_Trie.c x5))] (by kernel_rfl) ⟨h2, o3, (g_trie_Trie_Get_ok v5 ((v11.getD v13.toNat T_api_Ban.d).fNet) x2 q4), (g_ban_Lives_ok (v11.getD v13.toNat T_api_Ban.d) a1 x3 q5), h6, h7, h9, (g_trie_Trie_With_ok v5 ((v11.getD v13.toNat T_api_Ban.d).fNet) ((v11.getD v13.toNat T_api_Ban.d).fUntil) x5 q10), trivial⟩ (ih x5 v11 v12 (add64 v13 (1 : Int)) r hf)
          · exact toK_good allOk Post.ends 19 _ _ _ _ [⟨[], [], [], [], [], [], []⟩, ⟨[], [], [], [], [], [], []⟩, ⟨[(3, .r (.tup [(false, (cI .i64) x2.1), (false, cB x2.2)]) [])], [], [], [], [], [], []⟩, ⟨[(2, .r (.one (.lit (.bool x3))) [])], [(3, true), (6, false)], [], [], [], [], []⟩, ⟨[], [], [], [], [], [], []⟩] [true, false] ⟨[], [], [], [], [], [1, 5, 11, 12, 13], [], []⟩ [(decide (v13 < v12)) = true, 0 ≤ v13 ∧ v13 < ((v11.length : Nat) : Int), SCall Try.prog 43 [.one (N_trie_Trie.c v5), .agg (T_api_Net.c ((v11.getD v13.toNat T_api_Ban.d).fNet))] (.tup [(false, (cI .i64) x2.1), (false, cB x2.2)]), SCall Try.prog 166 [.agg (T_api_Ban.c (v11.getD v13.toNat T_api_Ban.d)), .one (.lit (.int .i64 a1))] (.one (.lit (.bool x3))), x3 = true, (!x2.2) = false, (decide (x2.1 < (v11.getD v13.toNat T_api_Ban.d).fUntil)) = false] (by kernel_rfl) ⟨h2, o3, (g_trie_Trie_Get_ok v5 ((v11.getD v13.toNat T_api_Ban.d).fNet) x2 q4), (g_ban_Lives_ok (v11.getD v13.toNat T_api_Ban.d) a1 x3 q5), h6, h7, h9, trivial⟩ (ih v5 v11 v12 (add64 v13 (1 : Int)) r hf)
      · exact toK_good allOk Post.ends 19 _ _ _ _ [⟨[], [], [], [], [], [], []⟩, ⟨[], [], [], [], [], [], []⟩, ⟨[(3, .r (.tup [(false, (cI .i64) x2.1), (false, cB x2.2)]) [])], [], [], [], [], [], []⟩, ⟨[(2, .r (.one (.lit (.bool x3))) [])], [(3, false)], [], [], [], [], []⟩, ⟨[], [], [], [], [], [], []⟩] [true, false] ⟨[], [], [], [], [], [1, 5, 11, 12, 13], [], []⟩ [(decide (v13 < v12)) = true, 0 ≤ v13 ∧ v13 < ((v11.length : Nat) : Int), SCall Try.prog 43 [.one (N_trie_Trie.c v5), .agg (T_api_Net.c ((v11.getD v13.toNat T_api_Ban.d).fNet))] (.tup [(false, (cI .i64) x2.1), (false, cB x2.2)]), SCall Try.prog 166 [.agg (T_api_Ban.c (v11.getD v13.toNat T_api_Ban.d)), .one (.lit (.int .i64 a1))] (.one (.lit (.bool x3))), x3 = false, false = false] (by kernel_rfl) ⟨h2, o3, (g_trie_Trie_Get_ok v5 ((v11.getD v13.toNat T_api_Ban.d).fNet) x2 q4), (g_ban_Lives_ok (v11.getD v13.toNat T_api_Ban.d) a1 x3 q5), h6, rfl, trivial⟩ (ih v5 v11 v12 (add64 v13 (1 : Int)) r hf)
    · replace hf := Option.some.inj hf
      subst hf
      exact toEnd_good allOk 8 _ _ [⟨[], [], [], [], [], [], []⟩, ⟨[], [], [], [], [], [], []⟩] [false] [] [] [] [(decide (v13 < v12)) = false] (by kernel_rfl) rfl ⟨h2, trivial⟩

/-- doorman/bans.index -/
def g_bans_index (a0 : (List T_api_Ban)) (a1 : Int) : Option N_trie_Trie :=
  (g_trie_New).bind fun x1 =>
  g_bans_index_c0 a1  ((((a0.length : Nat) : Int) - (0 : Int)).toNat + 2) x1 a0 ((a0.length : Nat) : Int) (0 : Int)

theorem g_bans_index_ok (a0 : (List T_api_Ban)) (a1 : Int) (r : N_trie_Trie) (hf : g_bans_index a0 a1 = some r) : SCall Try.prog 157 [.one (cL 5 T_api_Ban.c T_api_Ban.d a0), .one (.lit (.int .i64 a1))] (.one (N_trie_Trie.c r)) := by
  refine SCall.of Try.func157 rfl rfl rfl rfl fun S0 w0 => ?_
  unfold g_bans_index at hf
  obtain ⟨x1, q1, hf⟩ := bind_some' hf
  exact toK_good allOk Post.ends 8 _ _ _ _ [⟨[], [], [], [], [], [], []⟩, ⟨[(0, .r (.one (N_trie_Trie.c x1)) [])], [], [], [], [], [], []⟩, ⟨[], [], [], [], [], [], []⟩] [] ⟨[], [], [], [], [], [1, 5, 11, 12, 13], [], []⟩ [SCall Try.prog 39 [] (.one (N_trie_Trie.c x1))] (by kernel_rfl) ⟨(g_trie_New_ok  x1 q1), trivial⟩ (g_bans_index_c0_ok S0 w0 a1   ((((a0.length : Nat) : Int) - (0 : Int)).toNat + 2) x1 a0 ((a0.length : Nat) : Int) (0 : Int) r hf)

/-- doorman/cidr.Has -/
def g_cidr_Has (a0 : T_api_Net) (a1 : T_api_Addr) : Option Bool :=
  (g_cidr_Right a0).bind fun x1 =>
  bif x1 then
    (g_addr_Right a1).bind fun x2 =>
    bif x2 then
      bif (a0.fAddr.fV6 == a1.fV6) then
        (g_cidr_Mask a1 a0.fBits).bind fun x3 =>
        some (decide (x3 = a0.fAddr))
      else
        some false
    else
      some false
  else
    some false

theorem g_cidr_Has_ok (a0 : T_api_Net) (a1 : T_api_Addr) (r : Bool) (hf : g_cidr_Has a0 a1 = some r) : SCall Try.prog 99 [.agg (T_api_Net.c a0), .agg (T_api_Addr.c a1)] (.one (.lit (.bool r))) := by
  refine SCall.of Try.func99 rfl rfl rfl rfl fun S0 w0 => ?_
  unfold g_cidr_Has at hf
  obtain ⟨x1, q1, hf⟩ := bind_some' hf
  rcases br_some hf with ⟨h2, hf⟩ | ⟨h2, hf⟩
  · obtain ⟨x2, q3, hf⟩ := bind_some' hf
    rcases br_some hf with ⟨h4, hf⟩ | ⟨h4, hf⟩
    · rcases br_some hf with ⟨h5, hf⟩ | ⟨h5, hf⟩
      · obtain ⟨x3, q6, hf⟩ := bind_some' hf
        replace hf := Option.some.inj hf
        subst hf
        exact toEnd_good allOk 4 _ _ [⟨[], [], [], [], [], [], []⟩, ⟨[(1, .r (.one (.lit (.bool x1))) []), (4, .r (.one (.lit (.bool x2))) []), (18, .r (.agg (T_api_Addr.c x3)) []), (21, .r (.one (.lit (.bool (decide (x3 = a0.fAddr))))) [])], [(2, true), (6, true), (14, true)], [], [[], [0], [1, 0], [2, 1, 0], [3, 2, 1, 0], [2, 1, 0, 4, 3], [5, 2, 1, 0, 4, 3], [6, 5, 2, 1, 0, 4, 3], [7, 6, 5, 2, 1, 0, 4, 3], [8, 7, 6, 5, 2, 1, 0, 4, 3], [6, 5, 2, 1, 0, 4, 3], [10, 6, 5, 2, 1, 0, 4, 3], [9, 8, 7, 6, 5, 2, 1, 0, 4, 3, 11, 10], [6, 5, 2, 1, 0, 4, 3, 12, 9, 8, 7, 11, 10], [13, 6, 5, 2, 1, 0, 4, 3, 12, 9, 8, 7, 11, 10], [14, 13, 6, 5, 2, 1, 0, 4, 3, 12, 9, 8, 7, 11, 10], [14, 13, 6, 5, 2, 1, 0, 4, 3, 12, 9, 8, 7, 11, 10], [16, 14, 13, 6, 5, 2, 1, 0, 4, 3, 12, 9, 8, 7, 11, 10], [15, 14, 13, 6, 5, 2, 1, 0, 4, 3, 12, 9, 8, 7, 11, 10, 17, 16], [14, 13, 6, 5, 2, 1, 0, 4, 3, 12, 9, 8, 7, 11, 10], [19, 14, 13, 6, 5, 2, 1, 0, 4, 3, 12, 9, 8, 7, 11, 10], [18, 15, 14, 13, 6, 5, 2, 1, 0, 4, 3, 12, 9, 8, 7, 11, 10, 17, 16, 20, 19], [14, 13, 6, 5, 2, 1, 0, 4, 3, 12, 9, 8, 7, 11, 10, 21, 18, 15, 17, 16, 20, 19], [22, 14, 13, 6, 5, 2, 1, 0, 4, 3, 12, 9, 8, 7, 11, 10, 21, 18, 15, 17, 16, 20, 19]], [], [], []⟩] [] [] [] [] [SCall Try.prog 93 [.agg (T_api_Net.c a0)] (.one (.lit (.bool x1))), x1 = true, SCall Try.prog 98 [.agg (T_api_Addr.c a1)] (.one (.lit (.bool x2))), x2 = true, (a0.fAddr.fV6 == a1.fV6) = true, SCall Try.prog 134 [.agg (T_api_Addr.c a1), .one (.lit (.int .i64 a0.fBits))] (.agg (T_api_Addr.c x3)), ∀ w, (do eqGuard .eql 33 (.tmp 23) (.tmp 25) (.agg #[.bool x3.fV6, .int .u64 x3.fHi, .int .u64 x3.fLo]) (.agg #[.bool a0.fAddr.fV6, .int .u64 a0.fAddr.fHi, .int .u64 a0.fAddr.fLo]); binOp .eql 33 (.agg #[.bool x3.fV6, .int .u64 x3.fHi, .int .u64 x3.fLo]) (.agg #[.bool a0.fAddr.fV6, .int .u64 a0.fAddr.fHi, .int .u64 a0.fAddr.fLo]) : Sem Value).run Try.prog w = .ok (.bool (decide (x3 = a0.fAddr))) w] (by kernel_rfl) rfl ⟨(g_cidr_Right_ok a0 x1 q1), h2, (g_addr_Right_ok a1 x2 q3), h4, h5, (g_cidr_Mask_ok a1 a0.fBits x3 q6), (eql_T_api_Addr x3 a0.fAddr _ _), trivial⟩
      · replace hf := Option.some.inj hf
        subst hf
        exact toEnd_good allOk 4 _ _ [⟨[], [], [], [], [], [], []⟩, ⟨[(1, .r (.one (.lit (.bool x1))) []), (4, .r (.one (.lit (.bool x2))) [])], [(2, true), (6, true), (14, false)], [], [[], [0], [1, 0], [2, 1, 0], [3, 2, 1, 0], [2, 1, 0, 4, 3], [5, 2, 1, 0, 4, 3], [6, 5, 2, 1, 0, 4, 3], [7, 6, 5, 2, 1, 0, 4, 3], [8, 7, 6, 5, 2, 1, 0, 4, 3], [6, 5, 2, 1, 0, 4, 3], [10, 6, 5, 2, 1, 0, 4, 3], [9, 8, 7, 6, 5, 2, 1, 0, 4, 3, 11, 10], [6, 5, 2, 1, 0, 4, 3, 12, 9, 8, 7, 11, 10], [13, 6, 5, 2, 1, 0, 4, 3, 12, 9, 8, 7, 11, 10], [14, 13, 6, 5, 2, 1, 0, 4, 3, 12, 9, 8, 7, 11, 10], [14, 13, 6, 5, 2, 1, 0, 4, 3, 12, 9, 8, 7, 11, 10], [16, 14, 13, 6, 5, 2, 1, 0, 4, 3, 12, 9, 8, 7, 11, 10], [15, 14, 13, 6, 5, 2, 1, 0, 4, 3, 12, 9, 8, 7, 11, 10, 17, 16], [14, 13, 6, 5, 2, 1, 0, 4, 3, 12, 9, 8, 7, 11, 10], [19, 14, 13, 6, 5, 2, 1, 0, 4, 3, 12, 9, 8, 7, 11, 10], [18, 15, 14, 13, 6, 5, 2, 1, 0, 4, 3, 12, 9, 8, 7, 11, 10, 17, 16, 20, 19], [14, 13, 6, 5, 2, 1, 0, 4, 3, 12, 9, 8, 7, 11, 10, 21, 18, 15, 17, 16, 20, 19], [22, 14, 13, 6, 5, 2, 1, 0, 4, 3, 12, 9, 8, 7, 11, 10, 21, 18, 15, 17, 16, 20, 19]], [], [], []⟩] [] [] [] [] [SCall Try.prog 93 [.agg (T_api_Net.c a0)] (.one (.lit (.bool x1))), x1 = true, SCall Try.prog 98 [.agg (T_api_Addr.c a1)] (.one (.lit (.bool x2))), x2 = true, (a0.fAddr.fV6 == a1.fV6) = false] (by kernel_rfl) rfl ⟨(g_cidr_Right_ok a0 x1 q1), h2, (g_addr_Right_ok a1 x2 q3), h4, h5, trivial⟩
    · replace hf := Option.some.inj hf
      subst hf
      exact toEnd_good allOk 4 _ _ [⟨[], [], [], [], [], [], []⟩, ⟨[(1, .r (.one (.lit (.bool x1))) []), (4, .r (.one (.lit (.bool x2))) [])], [(2, true), (6, false)], [], [[], [0], [1, 0], [2, 1, 0], [3, 2, 1, 0], [2, 1, 0, 4, 3], [5, 2, 1, 0, 4, 3], [6, 5, 2, 1, 0, 4, 3], [7, 6, 5, 2, 1, 0, 4, 3], [8, 7, 6, 5, 2, 1, 0, 4, 3], [6, 5, 2, 1, 0, 4, 3], [10, 6, 5, 2, 1, 0, 4, 3], [9, 8, 7, 6, 5, 2, 1, 0, 4, 3, 11, 10], [6, 5, 2, 1, 0, 4, 3, 12, 9, 8, 7, 11, 10], [13, 6, 5, 2, 1, 0, 4, 3, 12, 9, 8, 7, 11, 10], [14, 13, 6, 5, 2, 1, 0, 4, 3, 12, 9, 8, 7, 11, 10], [14, 13, 6, 5, 2, 1, 0, 4, 3, 12, 9, 8, 7, 11, 10], [16, 14, 13, 6, 5, 2, 1, 0, 4, 3, 12, 9, 8, 7, 11, 10], [15, 14, 13, 6, 5, 2, 1, 0, 4, 3, 12, 9, 8, 7, 11, 10, 17, 16], [14, 13, 6, 5, 2, 1, 0, 4, 3, 12, 9, 8, 7, 11, 10], [19, 14, 13, 6, 5, 2, 1, 0, 4, 3, 12, 9, 8, 7, 11, 10], [18, 15, 14, 13, 6, 5, 2, 1, 0, 4, 3, 12, 9, 8, 7, 11, 10, 17, 16, 20, 19], [14, 13, 6, 5, 2, 1, 0, 4, 3, 12, 9, 8, 7, 11, 10, 21, 18, 15, 17, 16, 20, 19], [22, 14, 13, 6, 5, 2, 1, 0, 4, 3, 12, 9, 8, 7, 11, 10, 21, 18, 15, 17, 16, 20, 19]], [], [], []⟩] [] [] [] [] [SCall Try.prog 93 [.agg (T_api_Net.c a0)] (.one (.lit (.bool x1))), x1 = true, SCall Try.prog 98 [.agg (T_api_Addr.c a1)] (.one (.lit (.bool x2))), x2 = false] (by kernel_rfl) rfl ⟨(g_cidr_Right_ok a0 x1 q1), h2, (g_addr_Right_ok a1 x2 q3), h4, trivial⟩
  · replace hf := Option.some.inj hf
    subst hf
    exact toEnd_good allOk 4 _ _ [⟨[], [], [], [], [], [], []⟩, ⟨[(1, .r (.one (.lit (.bool x1))) [])], [(2, false)], [], [[], [0], [1, 0], [2, 1, 0], [3, 2, 1, 0], [2, 1, 0, 4, 3], [5, 2, 1, 0, 4, 3], [6, 5, 2, 1, 0, 4, 3], [7, 6, 5, 2, 1, 0, 4, 3], [8, 7, 6, 5, 2, 1, 0, 4, 3], [6, 5, 2, 1, 0, 4, 3], [10, 6, 5, 2, 1, 0, 4, 3], [9, 8, 7, 6, 5, 2, 1, 0, 4, 3, 11, 10], [6, 5, 2, 1, 0, 4, 3, 12, 9, 8, 7, 11, 10], [13, 6, 5, 2, 1, 0, 4, 3, 12, 9, 8, 7, 11, 10], [14, 13, 6, 5, 2, 1, 0, 4, 3, 12, 9, 8, 7, 11, 10], [14, 13, 6, 5, 2, 1, 0, 4, 3, 12, 9, 8, 7, 11, 10], [16, 14, 13, 6, 5, 2, 1, 0, 4, 3, 12, 9, 8, 7, 11, 10], [15, 14, 13, 6, 5, 2, 1, 0, 4, 3, 12, 9, 8, 7, 11, 10, 17, 16], [14, 13, 6, 5, 2, 1, 0, 4, 3, 12, 9, 8, 7, 11, 10], [19, 14, 13, 6, 5, 2, 1, 0, 4, 3, 12, 9, 8, 7, 11, 10], [18, 15, 14, 13, 6, 5, 2, 1, 0, 4, 3, 12, 9, 8, 7, 11, 10, 17, 16, 20, 19], [14, 13, 6, 5, 2, 1, 0, 4, 3, 12, 9, 8, 7, 11, 10, 21, 18, 15, 17, 16, 20, 19], [22, 14, 13, 6, 5, 2, 1, 0, 4, 3, 12, 9, 8, 7, 11, 10, 21, 18, 15, 17, 16, 20, 19]], [], [], []⟩] [] [] [] [] [SCall Try.prog 93 [.agg (T_api_Net.c a0)] (.one (.lit (.bool x1))), x1 = false] (by kernel_rfl) rfl ⟨(g_cidr_Right_ok a0 x1 q1), h2, trivial⟩

def g_trie_Trie_Cover_c0   : Nat → N_trie_node → (List T_trie_Hit) → T_api_Addr → Option (List T_trie_Hit)
  | 0, _, _, _ => none
  | fu + 1, v6, w5, b3 =>
    (match v6 with
    | .nil =>
      some w5
    | .mk p4_0 p4_1 p4_2 p4_3 =>
      (g_cidr_Has p4_0.fNet b3).bind fun x5 =>
      bif x5 then
        bif p4_1 then
          need ((w5 ++ ([p4_0] : List T_trie_Hit)).length * 40 ≤ 140737488355328 ∧ (w5 ++ ([p4_0] : List T_trie_Hit)).length ≤ maxLen) <|
          (g_addr_Bit b3 p4_0.fNet.fBits).bind fun x6 =>
          need (0 ≤ x6 ∧ x6 < ((2 : Nat) : Int)) <|
          ix2 x6 (
            g_trie_Trie_Cover_c0   fu p4_2 (w5 ++ ([p4_0] : List T_trie_Hit)) b3) (
            g_trie_Trie_Cover_c0   fu p4_3 (w5 ++ ([p4_0] : List T_trie_Hit)) b3)
        else
          (g_addr_Bit b3 p4_0.fNet.fBits).bind fun x7 =>
          need (0 ≤ x7 ∧ x7 < ((2 : Nat) : Int)) <|
          ix2 x7 (
            g_trie_Trie_Cover_c0   fu p4_2 w5 b3) (
            g_trie_Trie_Cover_c0   fu p4_3 w5 b3)
      else
        some w5)

theorem g_trie_Trie_Cover_c0_ok (S0 : Nat → Prop) (w0 : Start)   : ∀ (fu : Nat) (v6 : N_trie_node) (w5 : (List T_trie_Hit)) (b3 : T_api_Addr) (r : (List T_trie_Hit)), g_trie_Trie_Cover_c0   fu v6 w5 b3 = some r → Good Try.prog 57 S0 w0 (bodyPost Try.prog Try.f48 (HPost S0 w0 [(99999, .rows 101 5 r.length (rowsOf T_trie_Hit.c T_trie_Hit.d r))] (.one (.osl 99999 r.length)))) (at_ [1, 1, 1, 1, 0, 0] (bodyOf Try.f48)) ⟨[(3, .one (.ptr 3 0)), (5, .one (.osl 5 w5.length)), (6, .one (N_trie_node.c v6))], [(5, .rows 101 5 w5.length (rowsOf T_trie_Hit.c T_trie_Hit.d w5)), (3, .box [.lit (.bool b3.fV6), .lit (.int .u64 b3.fHi), .lit (.int .u64 b3.fLo)])]⟩ := by
  intro fu
  induction fu with
  | zero =>
    intro v6 w5 b3 r hf
    simp [g_trie_Trie_Cover_c0] at hf
  | succ fu ih =>
    intro v6 w5 b3 r hf
    unfold g_trie_Trie_Cover_c0 at hf
    cases v6 with
    | nil =>
      dsimp only at hf
      replace hf := Option.some.inj hf
      subst hf
      exact toEndH_good allOk 8 _ _ [⟨[], [], [], [[], [0], [1, 0], [2, 1, 0], [3, 2, 1, 0], [4, 3, 2, 1, 0], [5, 4, 3, 2, 1, 0], [6, 5, 4, 3, 2, 1, 0], [2, 1, 0], [7, 6, 5, 4, 3, 2, 1, 0, 8], [2, 1, 0, 9, 7, 6, 5, 4, 3, 8]], [], [], []⟩, ⟨[], [], [], [], [], [], []⟩] [false] ⟨[], [], [], [], [], [4], [5], [(5, 99999)]⟩ [false = false] (by kernel_rfl) ⟨rfl, trivial⟩
    | mk p4_0 p4_1 p4_2 p4_3 =>
      dsimp only at hf
      obtain ⟨x5, q5, hf⟩ := bind_some' hf
      rcases br_some hf with ⟨h6, hf⟩ | ⟨h6, hf⟩
      · rcases br_some hf with ⟨h7, hf⟩ | ⟨h7, hf⟩
        · obtain ⟨o8, hf⟩ := need_some hf
          obtain ⟨x6, q9, hf⟩ := bind_some' hf
          obtain ⟨o10, hf⟩ := need_some hf
          rcases ix2_some o10 hf with ⟨e, hf⟩ | ⟨e, hf⟩
          · subst e
            exact toK_good allOk HPost.ends 15 _ _ _ _ [⟨[(9, .r (.one (.lit (.bool x5))) [])], [], [], [[], [0], [1, 0], [2, 1, 0], [3, 2, 1, 0], [4, 3, 2, 1, 0], [5, 4, 3, 2, 1, 0], [6, 5, 4, 3, 2, 1, 0], [2, 1, 0], [7, 6, 5, 4, 3, 2, 1, 0, 8], [2, 1, 0, 9, 7, 6, 5, 4, 3, 8]], [], [], []⟩, ⟨[], [], [], [], [], [], []⟩, ⟨[(6, .c ((w5 ++ ([p4_0] : List T_trie_Hit)).length) (rowsOf T_trie_Hit.c T_trie_Hit.d (w5 ++ ([p4_0] : List T_trie_Hit))))], [], [], [], [], [(5, (([p4_0] : List T_trie_Hit).length, rowsOf T_trie_Hit.c T_trie_Hit.d ([p4_0] : List T_trie_Hit)))], []⟩, ⟨[(8, .r (.one (.lit (.int .i64 (0 : Int)))) [])], [], [], [[], [], [], [2], [3, 2], [4, 3, 2], [5, 4, 3, 2], [6, 5, 4, 3, 2], [1, 7, 6, 5, 4, 3, 2], [0], [9, 0], [10, 9, 0, 8, 1, 7, 6, 5, 4, 3, 2], [11, 10, 9, 0, 8, 1, 7, 6, 5, 4, 3, 2], [12, 11, 10, 9, 0, 8, 1, 7, 6, 5, 4, 3, 2]], [], [], []⟩] [true, true] ⟨[], [], [], [], [], [3, 5, 6], [42, 3], [(42, 5)]⟩ [SCall Try.prog 99 [.agg (T_api_Net.c p4_0.fNet), .agg (T_api_Addr.c b3)] (.one (.lit (.bool x5))), x5 = true, p4_1 = true, ([p4_0] : List T_trie_Hit).length = 1 ∧ ∀ i j, i < 1 → j < 5 → rowsOf T_trie_Hit.c T_trie_Hit.d ([p4_0] : List T_trie_Hit) i j = (([p4_0] : List T_trie_Hit).flatMap T_trie_Hit.c).getD (i * 5 + j) .junk, Ext 5 w5.length (([p4_0] : List T_trie_Hit).length) (rowsOf T_trie_Hit.c T_trie_Hit.d w5) (rowsOf T_trie_Hit.c T_trie_Hit.d ([p4_0] : List T_trie_Hit)) ((w5 ++ ([p4_0] : List T_trie_Hit)).length) (rowsOf T_trie_Hit.c T_trie_Hit.d (w5 ++ ([p4_0] : List T_trie_Hit))), (w5 ++ ([p4_0] : List T_trie_Hit)).length * 40 ≤ 140737488355328, (w5 ++ ([p4_0] : List T_trie_Hit)).length ≤ maxLen, SCall Try.prog 100 [.agg (T_api_Addr.c b3), .one (.lit (.int .i64 p4_0.fNet.fBits))] (.one (.lit (.int .i64 (0 : Int)))), 0 ≤ (0 : Int) ∧ (0 : Int) < ((2 : Nat) : Int)] (by kernel_rfl) ⟨(g_cidr_Has_ok p4_0.fNet b3 x5 q5), h6, h7, ⟨rfl, fun i j hi hj => rows_flat (sz := 5) (e := T_trie_Hit.c) (d := T_trie_Hit.d) (fun _ => rfl) ([p4_0] : List T_trie_Hit) i j hi hj⟩, (ext_app _ _), o8.1, o8.2, (g_addr_Bit_ok b3 p4_0.fNet.fBits (0 : Int) q9), (by decide), trivial⟩ (ih p4_2 (w5 ++ ([p4_0] : List T_trie_Hit)) b3 r hf)
          · subst e
            exact toK_good allOk HPost.ends 15 _ _ _ _ [⟨[(9, .r (.one (.lit (.bool x5))) [])], [], [], [[], [0], [1, 0], [2, 1, 0], [3, 2, 1, 0], [4, 3, 2, 1, 0], [5, 4, 3, 2, 1, 0], [6, 5, 4, 3, 2, 1, 0], [2, 1, 0], [7, 6, 5, 4, 3, 2, 1, 0, 8], [2, 1, 0, 9, 7, 6, 5, 4, 3, 8]], [], [], []⟩, ⟨[], [], [], [], [], [], []⟩, ⟨[(6, .c ((w5 ++ ([p4_0] : List T_trie_Hit)).length) (rowsOf T_trie_Hit.c T_trie_Hit.d (w5 ++ ([p4_0] : List T_trie_Hit))))], [], [], [], [], [(5, (([p4_0] : List T_trie_Hit).length, rowsOf T_trie_Hit.c T_trie_Hit.d ([p4_0] : List T_trie_Hit)))], []⟩, ⟨[(8, .r (.one (.lit (.int .i64 (1 : Int)))) [])], [], [], [[], [], [], [2], [3, 2], [4, 3, 2], [5, 4, 3, 2], [6, 5, 4, 3, 2], [1, 7, 6, 5, 4, 3, 2], [0], [9, 0], [10, 9, 0, 8, 1, 7, 6, 5, 4, 3, 2], [11, 10, 9, 0, 8, 1, 7, 6, 5, 4, 3, 2], [12, 11, 10, 9, 0, 8, 1, 7, 6, 5, 4, 3, 2]], [], [], []⟩] [true, true] ⟨[], [], [], [], [], [3, 5, 6], [42, 3], [(42, 5)]⟩ [SCall Try.prog 99 [.agg (T_api_Net.c p4_0.fNet), .agg (T_api_Addr.c b3)] (.one (.lit (.bool x5))), x5 = true, p4_1 = true, ([p4_0] : List T_trie_Hit).length = 1 ∧ ∀ i j, i < 1 → j < 5 → rowsOf T_trie_Hit.c T_trie_Hit.d ([p4_0] : List T_trie_Hit) i j = (([p4_0] : List T_trie_Hit).flatMap T_trie_Hit.c).getD (i * 5 + j) .junk, Ext 5 w5.length (([p4_0] : List T_trie_Hit).length) (rowsOf T_trie_Hit.c T_trie_Hit.d w5) (rowsOf T_trie_Hit.c T_trie_Hit.d ([p4_0] : List T_trie_Hit)) ((w5 ++ ([p4_0] : List T_trie_Hit)).length) (rowsOf T_trie_Hit.c T_trie_Hit.d (w5 ++ ([p4_0] : List T_trie_Hit))), (w5 ++ ([p4_0] : List T_trie_Hit)).length * 40 ≤ 140737488355328, (w5 ++ ([p4_0] : List T_trie_Hit)).length ≤ maxLen, SCall Try.prog 100 [.agg (T_api_Addr.c b3), .one (.lit (.int .i64 p4_0.fNet.fBits))] (.one (.lit (.int .i64 (1 : Int)))), 0 ≤ (1 : Int) ∧ (1 : Int) < ((2 : Nat) : Int)] (by kernel_rfl) ⟨(g_cidr_Has_ok p4_0.fNet b3 x5 q5), h6, h7, ⟨rfl, fun i j hi hj => rows_flat (sz := 5) (e := T_trie_Hit.c) (d := T_trie_Hit.d) (fun _ => rfl) ([p4_0] : List T_trie_Hit) i j hi hj⟩, (ext_app _ _), o8.1, o8.2, (g_addr_Bit_ok b3 p4_0.fNet.fBits (1 : Int) q9), (by decide), trivial⟩ (ih p4_3 (w5 ++ ([p4_0] : List T_trie_Hit)) b3 r hf)
        · obtain ⟨x7, q11, hf⟩ := bind_some' hf
          obtain ⟨o12, hf⟩ := need_some hf
          rcases ix2_some o12 hf with ⟨e, hf⟩ | ⟨e, hf⟩
          · subst e
            exact toK_good allOk HPost.ends 15 _ _ _ _ [⟨[(9, .r (.one (.lit (.bool x5))) [])], [], [], [[], [0], [1, 0], [2, 1, 0], [3, 2, 1, 0], [4, 3, 2, 1, 0], [5, 4, 3, 2, 1, 0], [6, 5, 4, 3, 2, 1, 0], [2, 1, 0], [7, 6, 5, 4, 3, 2, 1, 0, 8], [2, 1, 0, 9, 7, 6, 5, 4, 3, 8]], [], [], []⟩, ⟨[], [], [], [], [], [], []⟩, ⟨[(8, .r (.one (.lit (.int .i64 (0 : Int)))) [])], [], [], [[], [], [], [2], [3, 2], [4, 3, 2], [5, 4, 3, 2], [6, 5, 4, 3, 2], [1, 7, 6, 5, 4, 3, 2], [0], [9, 0], [10, 9, 0, 8, 1, 7, 6, 5, 4, 3, 2], [11, 10, 9, 0, 8, 1, 7, 6, 5, 4, 3, 2], [12, 11, 10, 9, 0, 8, 1, 7, 6, 5, 4, 3, 2]], [], [], []⟩] [true, false] ⟨[], [], [], [], [], [3, 5, 6], [5, 3], []⟩ [SCall Try.prog 99 [.agg (T_api_Net.c p4_0.fNet), .agg (T_api_Addr.c b3)] (.one (.lit (.bool x5))), x5 = true, p4_1 = false, SCall Try.prog 100 [.agg (T_api_Addr.c b3), .one (.lit (.int .i64 p4_0.fNet.fBits))] (.one (.lit (.int .i64 (0 : Int)))), 0 ≤ (0 : Int) ∧ (0 : Int) < ((2 : Nat) : Int)] (by kernel_rfl) ⟨(g_cidr_Has_ok p4_0.fNet b3 x5 q5), h6, h7, (g_addr_Bit_ok b3 p4_0.fNet.fBits (0 : Int) q11), (by decide), trivial⟩ (ih p4_2 w5 b3 r hf)
          · subst e
            exact toK_good allOk HPost.ends 15 _ _ _ _ [⟨[(9, .r (.one (.lit (.bool x5))) [])], [], [], [[], [0], [1, 0], [2, 1, 0], [3, 2, 1, 0], [4, 3, 2, 1, 0], [5, 4, 3, 2, 1, 0], [6, 5, 4, 3, 2, 1, 0], [2, 1, 0], [7, 6, 5, 4, 3, 2, 1, 0, 8], [2, 1, 0, 9, 7, 6, 5, 4, 3, 8]], [], [], []⟩, ⟨[], [], [], [], [], [], []⟩, ⟨[(8, .r (.one (.lit (.int .i64 (1 : Int)))) [])], [], [], [[], [], [], [2], [3, 2], [4, 3, 2], [5, 4, 3, 2], [6, 5, 4, 3, 2], [1, 7, 6, 5, 4, 3, 2], [0], [9, 0], [10, 9, 0, 8, 1, 7, 6, 5, 4, 3, 2], [11, 10, 9, 0, 8, 1, 7, 6, 5, 4, 3, 2], [12, 11, 10, 9, 0, 8, 1, 7, 6, 5, 4, 3, 2]], [], [], []⟩] [true, false] ⟨[], [], [], [], [], [3, 5, 6], [5, 3], []⟩ [SCall Try.prog 99 [.agg (T_api_Net.c p4_0.fNet), .agg (T_api_Addr.c b3)] (.one (.lit (.bool x5))), x5 = true, p4_1 = false, SCall Try.prog 100 [.agg (T_api_Addr.c b3), .one (.lit (.int .i64 p4_0.fNet.fBits))] (.one (.lit (.int .i64 (1 : Int)))), 0 ≤ (1 : Int) ∧ (1 : Int) < ((2 : Nat) : Int)] (by kernel_rfl) ⟨(g_cidr_Has_ok p4_0.fNet b3 x5 q5), h6, h7, (g_addr_Bit_ok b3 p4_0.fNet.fBits (1 : Int) q11), (by decide), trivial⟩ (ih p4_3 w5 b3 r hf)
      · replace hf := Option.some.inj hf
        subst hf
        exact toEndH_good allOk 8 _ _ [⟨[(9, .r (.one (.lit (.bool x5))) [])], [], [], [[], [0], [1, 0], [2, 1, 0], [3, 2, 1, 0], [4, 3, 2, 1, 0], [5, 4, 3, 2, 1, 0], [6, 5, 4, 3, 2, 1, 0], [2, 1, 0], [7, 6, 5, 4, 3, 2, 1, 0, 8], [2, 1, 0, 9, 7, 6, 5, 4, 3, 8]], [], [], []⟩, ⟨[], [], [], [], [], [], []⟩] [false] ⟨[], [], [], [], [], [4], [5], [(5, 99999)]⟩ [SCall Try.prog 99 [.agg (T_api_Net.c p4_0.fNet), .agg (T_api_Addr.c b3)] (.one (.lit (.bool x5))), x5 = false] (by kernel_rfl) ⟨(g_cidr_Has_ok p4_0.fNet b3 x5 q5), h6, trivial⟩

/-- (*doorman/trie.Trie).Cover -/
def g_trie_Trie_Cover (a0 : N_trie_Trie) (a1 : T_api_Addr) : Option (List T_trie_Hit) :=
  (match a0 with
  | .nil =>
    some ([] : List T_trie_Hit)
  | .mk p1_0 p1_1 p1_2 =>
    (g_addr_Right a1).bind fun x2 =>
    bif (!x2) then
      some ([] : List T_trie_Hit)
    else
      (g_trie_family a1).bind fun x3 =>
      need (0 ≤ x3 ∧ x3 < ((2 : Nat) : Int)) <|
      ix2 x3 (
        g_trie_Trie_Cover_c0   1000000 p1_0 ([]) a1) (
        g_trie_Trie_Cover_c0   1000000 p1_1 ([]) a1))

theorem g_trie_Trie_Cover_own (a0 : N_trie_Trie) (a1 : T_api_Addr) (r : (List T_trie_Hit)) (hf : g_trie_Trie_Cover a0 a1 = some r) : HCall Try.prog 48 [] [.one (N_trie_Trie.c a0), .agg (T_api_Addr.c a1)] [(99999, .rows 101 5 r.length (rowsOf T_trie_Hit.c T_trie_Hit.d r))] (.one (.osl 99999 r.length)) := by
  refine HCall.of Try.func48 rfl rfl rfl rfl fun S0 w0 => ?_
  unfold g_trie_Trie_Cover at hf
  cases a0 with
  | nil =>
    dsimp only at hf
    replace hf := Option.some.inj hf
    subst hf
    exact toEndH_good allOk 8 _ _ [⟨[], [], [], [], [], [], []⟩, ⟨[], [], [], [], [], [], []⟩, ⟨[], [], [], [], [], [], []⟩] [true] ⟨[], [], [], [], [(4, 99999, 101, 5, rowsOf T_trie_Hit.c T_trie_Hit.d [])], [4], [99999], []⟩ [true = true] (by kernel_rfl) ⟨rfl, trivial⟩
  | mk p1_0 p1_1 p1_2 =>
    dsimp only at hf
    obtain ⟨x2, q1, hf⟩ := bind_some' hf
    rcases br_some hf with ⟨h2, hf⟩ | ⟨h2, hf⟩
    · replace hf := Option.some.inj hf
      subst hf
      exact toEndH_good allOk 8 _ _ [⟨[], [], [], [], [], [], []⟩, ⟨[(4, .r (.one (.lit (.bool x2))) [])], [], [], [], [], [], []⟩, ⟨[], [], [], [], [], [], []⟩] [true] ⟨[], [], [], [], [(4, 99999, 101, 5, rowsOf T_trie_Hit.c T_trie_Hit.d [])], [4], [99999], []⟩ [SCall Try.prog 98 [.agg (T_api_Addr.c a1)] (.one (.lit (.bool x2))), (!x2) = true] (by kernel_rfl) ⟨(g_addr_Right_ok a1 x2 q1), h2, trivial⟩
    · obtain ⟨x3, q3, hf⟩ := bind_some' hf
      obtain ⟨o4, hf⟩ := need_some hf
      rcases ix2_some o4 hf with ⟨e, hf⟩ | ⟨e, hf⟩
      · subst e
        exact toK_good allOk HPost.ends 13 _ _ _ _ [⟨[], [], [], [], [], [], []⟩, ⟨[(4, .r (.one (.lit (.bool x2))) [])], [], [], [], [], [], []⟩, ⟨[], [], [], [], [], [], []⟩, ⟨[(2, .r (.one (.lit (.int .i64 (0 : Int)))) [])], [], [], [[], [], [1], [0], [3, 0], [4, 3, 0, 2, 1], [5, 4, 3, 0, 2, 1], [6, 5, 4, 3, 0, 2, 1]], [], [], []⟩] [false] ⟨[], [], [], [], [(5, 5, 101, 5, rowsOf T_trie_Hit.c T_trie_Hit.d [])], [3, 5, 6], [5, 3], []⟩ [SCall Try.prog 98 [.agg (T_api_Addr.c a1)] (.one (.lit (.bool x2))), (!x2) = false, SCall Try.prog 94 [.agg (T_api_Addr.c a1)] (.one (.lit (.int .i64 (0 : Int)))), 0 ≤ (0 : Int) ∧ (0 : Int) < ((2 : Nat) : Int)] (by kernel_rfl) ⟨(g_addr_Right_ok a1 x2 q1), h2, (g_trie_family_ok a1 (0 : Int) q3), (by decide), trivial⟩ (g_trie_Trie_Cover_c0_ok S0 w0    1000000 p1_0 ([]) a1 r hf)
      · subst e
        exact toK_good allOk HPost.ends 13 _ _ _ _ [⟨[], [], [], [], [], [], []⟩, ⟨[(4, .r (.one (.lit (.bool x2))) [])], [], [], [], [], [], []⟩, ⟨[], [], [], [], [], [], []⟩, ⟨[(2, .r (.one (.lit (.int .i64 (1 : Int)))) [])], [], [], [[], [], [1], [0], [3, 0], [4, 3, 0, 2, 1], [5, 4, 3, 0, 2, 1], [6, 5, 4, 3, 0, 2, 1]], [], [], []⟩] [false] ⟨[], [], [], [], [(5, 5, 101, 5, rowsOf T_trie_Hit.c T_trie_Hit.d [])], [3, 5, 6], [5, 3], []⟩ [SCall Try.prog 98 [.agg (T_api_Addr.c a1)] (.one (.lit (.bool x2))), (!x2) = false, SCall Try.prog 94 [.agg (T_api_Addr.c a1)] (.one (.lit (.int .i64 (1 : Int)))), 0 ≤ (1 : Int) ∧ (1 : Int) < ((2 : Nat) : Int)] (by kernel_rfl) ⟨(g_addr_Right_ok a1 x2 q1), h2, (g_trie_family_ok a1 (1 : Int) q3), (by decide), trivial⟩ (g_trie_Trie_Cover_c0_ok S0 w0    1000000 p1_1 ([]) a1 r hf)

theorem g_trie_Trie_Cover_ok (a0 : N_trie_Trie) (a1 : T_api_Addr) (r : (List T_trie_Hit)) (hf : g_trie_Trie_Cover a0 a1 = some r) : SCall Try.prog 48 [.one (N_trie_Trie.c a0), .agg (T_api_Addr.c a1)] (.one (cL 5 T_trie_Hit.c T_trie_Hit.d r)) := (g_trie_Trie_Cover_own a0 a1 r hf).pure

def g_bans_Until_c0   : Nat → Int → (List T_trie_Hit) → Int → Int → Option Int
  | 0, _, _, _, _ => none
  | fu + 1, v8, v23, v24, v25 =>
    bif (decide (v25 < v24)) then
      need (0 ≤ v25 ∧ v25 < ((v23.length : Nat) : Int)) <|
      g_bans_Until_c0   fu (if (v23.getD v25.toNat T_trie_Hit.d).fV > v8 then (v23.getD v25.toNat T_trie_Hit.d).fV else v8) v23 v24 (add64 v25 (1 : Int))
    else
      some v8

theorem g_bans_Until_c0_ok (S0 : Nat → Prop) (w0 : Start)   : ∀ (fu : Nat) (v8 : Int) (v23 : (List T_trie_Hit)) (v24 : Int) (v25 : Int) (r : Int), g_bans_Until_c0   fu v8 v23 v24 v25 = some r → Good Try.prog 35 S0 w0 (bodyPost Try.prog Try.f144 (Post S0 w0 (.one (.lit (.int .i64 r))))) (at_ [1, 1, 1, 1, 0, 1, 0] (bodyOf Try.f144)) ⟨[(8, .one (.lit (.int .i64 v8))), (23, .one (cL 5 T_trie_Hit.c T_trie_Hit.d v23)), (24, .one (.lit (.int .i64 v24))), (25, .one (.lit (.int .i64 v25)))], []⟩ := by
  intro fu
  induction fu with
  | zero =>
    intro v8 v23 v24 v25 r hf
    simp [g_bans_Until_c0] at hf
  | succ fu ih =>
    intro v8 v23 v24 v25 r hf
    unfold g_bans_Until_c0 at hf
    rcases br_some hf with ⟨h5, hf⟩ | ⟨h5, hf⟩
    · obtain ⟨o6, hf⟩ := need_some hf
      exact toK_good allOk Post.ends 14 _ _ _ _ [⟨[], [], [], [], [], [], []⟩, ⟨[], [], [], [], [], [], []⟩, ⟨[], [], [], [], [], [], []⟩, ⟨[], [], [], [], [], [], []⟩] [true] ⟨[], [], [], [], [], [8, 23, 24, 25], [], []⟩ [(decide (v25 < v24)) = true, 0 ≤ v25 ∧ v25 < ((v23.length : Nat) : Int)] (by kernel_rfl) ⟨h5, o6, trivial⟩ (ih (if (v23.getD v25.toNat T_trie_Hit.d).fV > v8 then (v23.getD v25.toNat T_trie_Hit.d).fV else v8) v23 v24 (add64 v25 (1 : Int)) r hf)
    · replace hf := Option.some.inj hf
      subst hf
      exact toEnd_good allOk 8 _ _ [⟨[], [], [], [], [], [], []⟩, ⟨[], [], [], [], [], [], []⟩] [false] [] [] [] [(decide (v25 < v24)) = false] (by kernel_rfl) rfl ⟨h5, trivial⟩

/-- doorman/bans.Until -/
def g_bans_Until (a0 : (List T_api_Ban)) (a1 : T_api_Addr) (a2 : Int) : Option Int :=
  (g_bans_index a0 a2).bind fun x1 =>
  (g_trie_Trie_Cover x1 a1).bind fun x2 =>
  bif (((x2.length : Nat) : Int) == (0 : Int)) then
    some (0 : Int)
  else
    need (0 ≤ (0 : Int) ∧ (0 : Int) < ((x2.length : Nat) : Int)) <|
    g_bans_Until_c0   ((((x2.length : Nat) : Int) - (0 : Int)).toNat + 2) ((x2.getD (0 : Int).toNat T_trie_Hit.d).fV) x2 ((x2.length : Nat) : Int) (0 : Int)

theorem g_bans_Until_ok (a0 : (List T_api_Ban)) (a1 : T_api_Addr) (a2 : Int) (r : Int) (hf : g_bans_Until a0 a1 a2 = some r) : SCall Try.prog 144 [.one (cL 5 T_api_Ban.c T_api_Ban.d a0), .agg (T_api_Addr.c a1), .one (.lit (.int .i64 a2))] (.one (.lit (.int .i64 r))) := by
  refine SCall.of Try.func144 rfl rfl rfl rfl fun S0 w0 => ?_
  unfold g_bans_Until at hf
  obtain ⟨x1, q1, hf⟩ := bind_some' hf
  obtain ⟨x2, q2, hf⟩ := bind_some' hf
  rcases br_some hf with ⟨h3, hf⟩ | ⟨h3, hf⟩
  · replace hf := Option.some.inj hf
    subst hf
    exact toEnd_good allOk 10 _ _ [⟨[], [], [], [], [], [], []⟩, ⟨[(2, .r (.one (N_trie_Trie.c x1)) []), (4, .r (.one (cL 5 T_trie_Hit.c T_trie_Hit.d x2)) [])], [], [], [[], [], [0, 1], [], [2, 0, 1, 3], [4, 2, 0, 1, 3]], [], [], []⟩, ⟨[], [], [], [], [], [], []⟩, ⟨[], [], [], [], [], [], []⟩] [true] [] [] [] [SCall Try.prog 157 [.one (cL 5 T_api_Ban.c T_api_Ban.d a0), .one (.lit (.int .i64 a2))] (.one (N_trie_Trie.c x1)), SCall Try.prog 48 [.one (N_trie_Trie.c x1), .agg (T_api_Addr.c a1)] (.one (cL 5 T_trie_Hit.c T_trie_Hit.d x2)), (((x2.length : Nat) : Int) == (0 : Int)) = true] (by kernel_rfl) rfl ⟨(g_bans_index_ok a0 a2 x1 q1), (g_trie_Trie_Cover_ok x1 a1 x2 q2), h3, trivial⟩
  · obtain ⟨o4, hf⟩ := need_some hf
    exact toK_good allOk Post.ends 15 _ _ _ _ [⟨[], [], [], [], [], [], []⟩, ⟨[(2, .r (.one (N_trie_Trie.c x1)) []), (4, .r (.one (cL 5 T_trie_Hit.c T_trie_Hit.d x2)) [])], [], [], [[], [], [0, 1], [], [2, 0, 1, 3], [4, 2, 0, 1, 3]], [], [], []⟩, ⟨[], [], [], [], [], [], []⟩, ⟨[], [], [], [], [], [], []⟩, ⟨[], [], [], [], [], [], []⟩] [false] ⟨[], [], [], [], [], [8, 23, 24, 25], [], []⟩ [SCall Try.prog 157 [.one (cL 5 T_api_Ban.c T_api_Ban.d a0), .one (.lit (.int .i64 a2))] (.one (N_trie_Trie.c x1)), SCall Try.prog 48 [.one (N_trie_Trie.c x1), .agg (T_api_Addr.c a1)] (.one (cL 5 T_trie_Hit.c T_trie_Hit.d x2)), (((x2.length : Nat) : Int) == (0 : Int)) = false, 0 ≤ (0 : Int) ∧ (0 : Int) < ((x2.length : Nat) : Int)] (by kernel_rfl) ⟨(g_bans_index_ok a0 a2 x1 q1), (g_trie_Trie_Cover_ok x1 a1 x2 q2), h3, o4, trivial⟩ (g_bans_Until_c0_ok S0 w0    ((((x2.length : Nat) : Int) - (0 : Int)).toNat + 2) ((x2.getD (0 : Int).toNat T_trie_Hit.d).fV) x2 ((x2.length : Nat) : Int) (0 : Int) r hf)

/-- doorman/group.bits -/
def g_group_bits (a0 : T_api_Addr) : Option Int :=
  bif a0.fV6 then
    some (32 : Int)
  else
    some (16 : Int)

theorem g_group_bits_ok (a0 : T_api_Addr) (r : Int) (hf : g_group_bits a0 = some r) : SCall Try.prog 171 [.agg (T_api_Addr.c a0)] (.one (.lit (.int .i64 r))) := by
  refine SCall.of Try.func171 rfl rfl rfl rfl fun S0 w0 => ?_
  unfold g_group_bits at hf
  rcases br_some hf with ⟨h1, hf⟩ | ⟨h1, hf⟩
  · replace hf := Option.some.inj hf
    subst hf
    exact toEnd_good allOk 8 _ _ [⟨[], [], [], [], [], [], []⟩, ⟨[], [], [], [], [], [], []⟩, ⟨[], [], [], [], [], [], []⟩] [true] [] [] [] [a0.fV6 = true] (by kernel_rfl) rfl ⟨h1, trivial⟩
  · replace hf := Option.some.inj hf
    subst hf
    exact toEnd_good allOk 9 _ _ [⟨[], [], [], [], [], [], []⟩, ⟨[], [], [], [], [], [], []⟩, ⟨[], [], [], [], [], [], []⟩] [false] [] [] [] [a0.fV6 = false] (by kernel_rfl) rfl ⟨h1, trivial⟩

/-- doorman/group.Of -/
def g_group_Of (a0 : T_api_Addr) : Option T_api_Net :=
  (g_group_bits a0).bind fun x1 =>
  (g_cidr_Make a0 x1).bind fun x2 =>
  some x2.1

theorem g_group_Of_ok (a0 : T_api_Addr) (r : T_api_Net) (hf : g_group_Of a0 = some r) : SCall Try.prog 160 [.agg (T_api_Addr.c a0)] (.agg (T_api_Net.c r)) := by
  refine SCall.of Try.func160 rfl rfl rfl rfl fun S0 w0 => ?_
  unfold g_group_Of at hf
  obtain ⟨x1, q1, hf⟩ := bind_some' hf
  obtain ⟨x2, q2, hf⟩ := bind_some' hf
  replace hf := Option.some.inj hf
  subst hf
  exact toEnd_good allOk 6 _ _ [⟨[], [], [], [], [], [], []⟩, ⟨[(2, .r (.one (.lit (.int .i64 x1))) []), (3, .r (.tup [(true, T_api_Net.c x2.1), (false, cB x2.2)]) [])], [], [], [[], [], [1], [0, 2, 1], [3, 0, 2, 1], [4, 3, 0, 2, 1], [4, 3, 0, 2, 1], [], [7, 5, 4, 3, 0, 2, 1], [6, 4, 3, 0, 2, 1, 8, 7, 5]], [], [], []⟩, ⟨[], [], [], [], [], [], []⟩] [] [] [] [] [SCall Try.prog 171 [.agg (T_api_Addr.c a0)] (.one (.lit (.int .i64 x1))), SCall Try.prog 131 [.agg (T_api_Addr.c a0), .one (.lit (.int .i64 x1))] (.tup [(true, T_api_Net.c x2.1), (false, cB x2.2)])] (by kernel_rfl) rfl ⟨(g_group_bits_ok a0 x1 q1), (g_cidr_Make_ok a0 x1 x2 q2), trivial⟩

/-- doorman/cidr.Compare -/
def g_cidr_Compare (a0 : T_api_Net) (a1 : T_api_Net) : Option Int :=
  (g_addr_Compare a0.fAddr a1.fAddr).bind fun x1 =>
  (g_cmp_Compare_int a0.fBits a1.fBits).bind fun x2 =>
  (g_cmp_Or_int ([x1, x2] : List Int)).bind fun x3 =>
  some x3

theorem g_cidr_Compare_ok (a0 : T_api_Net) (a1 : T_api_Net) (r : Int) (hf : g_cidr_Compare a0 a1 = some r) : SCall Try.prog 169 [.agg (T_api_Net.c a0), .agg (T_api_Net.c a1)] (.one (.lit (.int .i64 r))) := by
  refine SCall.of Try.func169 rfl rfl rfl rfl fun S0 w0 => ?_
  unfold g_cidr_Compare at hf
  obtain ⟨x1, q1, hf⟩ := bind_some' hf
  obtain ⟨x2, q2, hf⟩ := bind_some' hf
  obtain ⟨x3, q3, hf⟩ := bind_some' hf
  replace hf := Option.some.inj hf
  subst hf
  exact toEnd_good allOk 4 _ _ [⟨[], [], [], [], [], [], []⟩, ⟨[(4, .r (.one (.lit (.int .i64 x1))) []), (9, .r (.one (.lit (.int .i64 x2))) []), (11, .r (.one (.lit (.int .i64 x3))) [])], [], [], [[], [0], [], [2], [1, 0, 3, 2], [], [5], [], [7], [6, 5, 8, 7, 4, 1, 0, 3, 2], [4, 1, 0, 3, 2, 9, 6, 5, 8, 7], [10, 4, 1, 0, 3, 2, 9, 6, 5, 8, 7], [11, 10, 4, 1, 0, 3, 2, 9, 6, 5, 8, 7]], [], [(10, (([x1, x2] : List Int).length, rowsOf (cI .i64) (0 : Int) ([x1, x2] : List Int)))], []⟩] [] [] [] [] [SCall Try.prog 178 [.agg (T_api_Addr.c a0.fAddr), .agg (T_api_Addr.c a1.fAddr)] (.one (.lit (.int .i64 x1))), SCall Try.prog 174 [.one (.lit (.int .i64 a0.fBits)), .one (.lit (.int .i64 a1.fBits))] (.one (.lit (.int .i64 x2))), ([x1, x2] : List Int).length = 2 ∧ ∀ i j, i < 2 → j < 1 → rowsOf (cI .i64) (0 : Int) ([x1, x2] : List Int) i j = (([x1, x2] : List Int).flatMap (cI .i64)).getD (i * 1 + j) .junk, SCall Try.prog 173 [.one (cL 1 (cI .i64) (0 : Int) ([x1, x2] : List Int))] (.one (.lit (.int .i64 x3)))] (by kernel_rfl) rfl ⟨(g_addr_Compare_ok a0.fAddr a1.fAddr x1 q1), (g_cmp_Compare_int_ok a0.fBits a1.fBits x2 q2), ⟨rfl, fun i j hi hj => rows_flat (sz := 1) (e := (cI .i64)) (d := (0 : Int)) (fun _ => rfl) ([x1, x2] : List Int) i j hi hj⟩, (g_cmp_Or_int_ok ([x1, x2] : List Int) x3 q3), trivial⟩

/-! inline -/
def cmpN (a b : T_api_Net) : Int := orI (cmpA a.fAddr b.fAddr) (cmpI a.fBits b.fBits)

theorem cidr_cmp (a b : T_api_Net) : g_cidr_Compare a b = some (cmpN a b) := by
  simp only [g_cidr_Compare, addr_cmp, cmp_int, or2, Option.bind_some, cmpN]

theorem cmpN_lt {a b : T_api_Net} : cmpN a b < 0 ↔ cmpA a.fAddr b.fAddr < 0 ∨ (a.fAddr = b.fAddr ∧ a.fBits < b.fBits) := by simp only [cmpN, orI_lt, cmpI_lt, cmpA_zero]
theorem cmpN_gt {a b : T_api_Net} : 0 < cmpN a b ↔ 0 < cmpA a.fAddr b.fAddr ∨ (a.fAddr = b.fAddr ∧ b.fBits < a.fBits) := by simp only [cmpN, orI_gt, cmpI_gt, cmpA_zero]
theorem cmpN_zero {a b : T_api_Net} : cmpN a b = 0 ↔ a = b := by
  simp only [cmpN, orI_zero, cmpI_zero, cmpA_zero]
  obtain ⟨x, p⟩ := a
  obtain ⟨y, q⟩ := b
  simp
theorem cmpN_swap {a b : T_api_Net} : 0 < cmpN a b ↔ cmpN b a < 0 := by
  rw [cmpN_gt, cmpN_lt, cmpA_swap]
  constructor <;> rintro (h | ⟨h1, h2⟩) <;> first | exact .inl h | exact .inr ⟨h1.symm, h2⟩
theorem cmpN_trans {a b c : T_api_Net} (h1 : cmpN a b < 0) (h2 : cmpN b c < 0) : cmpN a c < 0 := by
  rw [cmpN_lt] at *
  rcases h1 with h1 | ⟨h1, h3⟩ <;> rcases h2 with h2 | ⟨h2, h4⟩
  · exact .inl (cmpA_trans h1 h2)
  · exact .inl (h2 ▸ h1)
  · exact .inl (h1 ▸ h2)
  · exact .inr ⟨h1.trans h2, by omega⟩



/-! inline -/
theorem ltN (a b : T_api_Net) : Go.Proofs.ltOf cmpN a b = decide (cmpN a b < 0) := by
  unfold Go.Proofs.ltOf
  rfl

theorem cmpN_swo : Go.Sort.SWO (Go.Proofs.ltOf cmpN) where
  irrefl x := by rw [ltN]; simp [(cmpN_zero (a := x) (b := x)).2 rfl]
  trans x y z h1 h2 := by
    rw [ltN, decide_eq_true_eq] at *
    exact cmpN_trans h1 h2
  ntrans x y z h1 h2 := by
    rw [ltN, decide_eq_false_iff_not] at *
    intro h
    have e1 : cmpN x y = 0 ∨ 0 < cmpN x y := by omega
    have e2 : cmpN y z = 0 ∨ 0 < cmpN y z := by omega
    rcases e1 with e1 | e1
    · rw [cmpN_zero] at e1; subst e1; omega
    · rcases e2 with e2 | e2
      · rw [cmpN_zero] at e2; subst e2; omega
      · have h3 := cmpN_trans (cmpN_swap.1 e2) (cmpN_swap.1 e1)
        have h4 := cmpN_swap.2 h3
        omega

theorem cmpN_parts (x y : T_api_Net) (h1 : Go.Proofs.ltOf cmpN x y = false) (h2 : Go.Proofs.ltOf cmpN y x = false) : x = y := by
  rw [ltN, decide_eq_false_iff_not] at *
  rw [← cmpN_zero]
  have : ¬ 0 < cmpN x y := fun h => h2 (cmpN_swap.1 h)
  omega

end Go.Proofs.Ytaakonlnlfbfkaa
