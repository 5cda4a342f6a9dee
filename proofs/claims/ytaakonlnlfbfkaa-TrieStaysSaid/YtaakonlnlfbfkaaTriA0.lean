/-
  Functions and their contracts.
  WRITTEN BY A PROGRAM OF MY OWN (wip/gen/am.py).
-/
import Derived.Test.YtaakonlnlfbfkaaTriT
namespace Go.Proofs.Ytaakonlnlfbfkaa
open Go.RowKit Go.Lib Go.Shelf
set_option linter.unusedVariables false
set_option maxRecDepth 100000
theorem eqFields_T_api_Addr : (Try.prog.fieldsOf 33).toList = [{ name := "V6", type := 4, offset := 0, embedded := false, tag := "", pkgPath := "", byteOffset := 0 }, { name := "Hi", type := 31, offset := 1, embedded := false, tag := "", pkgPath := "", byteOffset := 8 }, { name := "Lo", type := 31, offset := 2, embedded := false, tag := "", pkgPath := "", byteOffset := 16 }] := by kernel_rfl

theorem eqIn_T_api_Addr (d : Nat) (x y : T_api_Addr) (w : World) : (Op.equalIn (d + 2) 33 (.agg #[.bool x.fV6, .int .u64 x.fHi, .int .u64 x.fLo]) (.agg #[.bool y.fV6, .int .u64 y.fHi, .int .u64 y.fLo])).run Try.prog w = .ok (decide (x = y)) w := by rw [run_equalIn_struct w (d + 1) _ _ _ (by kernel_rfl) (by kernel_rfl)]; simp only [eqFields_T_api_Addr, Op.eqFields]; simp [go_sem]; cases x; cases y; simp only [T_api_Addr.mk.injEq]; (repeat' split) <;> simp_all

theorem eql_T_api_Addr (x y : T_api_Addr) (xo yo : Operand) : ∀ w, (do eqGuard .eql 33 xo yo (.agg #[.bool x.fV6, .int .u64 x.fHi, .int .u64 x.fLo]) (.agg #[.bool y.fV6, .int .u64 y.fHi, .int .u64 y.fLo]); binOp .eql 33 (.agg #[.bool x.fV6, .int .u64 x.fHi, .int .u64 x.fLo]) (.agg #[.bool y.fV6, .int .u64 y.fHi, .int .u64 y.fLo]) : Sem Value).run Try.prog w = .ok (.bool (decide (x = y))) w := by
  intro w
  have hg : (eqGuard .eql 33 xo yo (.agg #[.bool x.fV6, .int .u64 x.fHi, .int .u64 x.fLo]) (.agg #[.bool y.fV6, .int .u64 y.fHi, .int .u64 y.fLo])).run Try.prog w = .ok () w := by simp [eqGuard, Sem.run_bind, Try.eqGuardType33]
  rw [Sem.run_bind, hg, Result.andThen_ok, run_eql_struct]
  exact congrArg (fun r : Result Bool => r.andThen fun b w' => Result.ok (Value.bool b) w') (eqIn_T_api_Addr 9998 x y w)

theorem neq_T_api_Addr (x y : T_api_Addr) (xo yo : Operand) : ∀ w, (do eqGuard .neq 33 xo yo (.agg #[.bool x.fV6, .int .u64 x.fHi, .int .u64 x.fLo]) (.agg #[.bool y.fV6, .int .u64 y.fHi, .int .u64 y.fLo]); binOp .neq 33 (.agg #[.bool x.fV6, .int .u64 x.fHi, .int .u64 x.fLo]) (.agg #[.bool y.fV6, .int .u64 y.fHi, .int .u64 y.fLo]) : Sem Value).run Try.prog w = .ok (.bool (!decide (x = y))) w := by
  intro w
  have hg : (eqGuard .neq 33 xo yo (.agg #[.bool x.fV6, .int .u64 x.fHi, .int .u64 x.fLo]) (.agg #[.bool y.fV6, .int .u64 y.fHi, .int .u64 y.fLo])).run Try.prog w = .ok () w := by simp [eqGuard, Sem.run_bind, Try.eqGuardType33]
  rw [Sem.run_bind, hg, Result.andThen_ok, run_neq_struct]
  exact congrArg (fun r : Result Bool => r.andThen fun b w' => Result.ok (Value.bool (!b)) w') (eqIn_T_api_Addr 9998 x y w)

theorem eqFields_T_api_Net : (Try.prog.fieldsOf 81).toList = [{ name := "Addr", type := 33, offset := 0, embedded := false, tag := "", pkgPath := "", byteOffset := 0 }, { name := "Bits", type := 3, offset := 3, embedded := false, tag := "", pkgPath := "", byteOffset := 24 }] := by kernel_rfl

theorem eqIn_T_api_Net (d : Nat) (x y : T_api_Net) (w : World) : (Op.equalIn (d + 4) 81 (.agg #[.bool x.fAddr.fV6, .int .u64 x.fAddr.fHi, .int .u64 x.fAddr.fLo, .int .i64 x.fBits]) (.agg #[.bool y.fAddr.fV6, .int .u64 y.fAddr.fHi, .int .u64 y.fAddr.fLo, .int .i64 y.fBits])).run Try.prog w = .ok (decide (x = y)) w := by rw [run_equalIn_struct w (d + 3) _ _ _ (by kernel_rfl) (by kernel_rfl)]; simp only [eqFields_T_api_Net, Op.eqFields]; simp [go_sem, eqIn_T_api_Addr]; cases x; cases y; simp only [T_api_Net.mk.injEq]; (repeat' split) <;> simp_all

theorem eql_T_api_Net (x y : T_api_Net) (xo yo : Operand) : ∀ w, (do eqGuard .eql 81 xo yo (.agg #[.bool x.fAddr.fV6, .int .u64 x.fAddr.fHi, .int .u64 x.fAddr.fLo, .int .i64 x.fBits]) (.agg #[.bool y.fAddr.fV6, .int .u64 y.fAddr.fHi, .int .u64 y.fAddr.fLo, .int .i64 y.fBits]); binOp .eql 81 (.agg #[.bool x.fAddr.fV6, .int .u64 x.fAddr.fHi, .int .u64 x.fAddr.fLo, .int .i64 x.fBits]) (.agg #[.bool y.fAddr.fV6, .int .u64 y.fAddr.fHi, .int .u64 y.fAddr.fLo, .int .i64 y.fBits]) : Sem Value).run Try.prog w = .ok (.bool (decide (x = y))) w := by
  intro w
  have hg : (eqGuard .eql 81 xo yo (.agg #[.bool x.fAddr.fV6, .int .u64 x.fAddr.fHi, .int .u64 x.fAddr.fLo, .int .i64 x.fBits]) (.agg #[.bool y.fAddr.fV6, .int .u64 y.fAddr.fHi, .int .u64 y.fAddr.fLo, .int .i64 y.fBits])).run Try.prog w = .ok () w := by simp [eqGuard, Sem.run_bind, Try.eqGuardType81]
  rw [Sem.run_bind, hg, Result.andThen_ok, run_eql_struct]
  exact congrArg (fun r : Result Bool => r.andThen fun b w' => Result.ok (Value.bool b) w') (eqIn_T_api_Net 9996 x y w)

theorem neq_T_api_Net (x y : T_api_Net) (xo yo : Operand) : ∀ w, (do eqGuard .neq 81 xo yo (.agg #[.bool x.fAddr.fV6, .int .u64 x.fAddr.fHi, .int .u64 x.fAddr.fLo, .int .i64 x.fBits]) (.agg #[.bool y.fAddr.fV6, .int .u64 y.fAddr.fHi, .int .u64 y.fAddr.fLo, .int .i64 y.fBits]); binOp .neq 81 (.agg #[.bool x.fAddr.fV6, .int .u64 x.fAddr.fHi, .int .u64 x.fAddr.fLo, .int .i64 x.fBits]) (.agg #[.bool y.fAddr.fV6, .int .u64 y.fAddr.fHi, .int .u64 y.fAddr.fLo, .int .i64 y.fBits]) : Sem Value).run Try.prog w = .ok (.bool (!decide (x = y))) w := by
  intro w
  have hg : (eqGuard .neq 81 xo yo (.agg #[.bool x.fAddr.fV6, .int .u64 x.fAddr.fHi, .int .u64 x.fAddr.fLo, .int .i64 x.fBits]) (.agg #[.bool y.fAddr.fV6, .int .u64 y.fAddr.fHi, .int .u64 y.fAddr.fLo, .int .i64 y.fBits])).run Try.prog w = .ok () w := by simp [eqGuard, Sem.run_bind, Try.eqGuardType81]
  rw [Sem.run_bind, hg, Result.andThen_ok, run_neq_struct]
  exact congrArg (fun r : Result Bool => r.andThen fun b w' => Result.ok (Value.bool (!b)) w') (eqIn_T_api_Net 9996 x y w)

theorem eqFields_T_trie_Hit : (Try.prog.fieldsOf 101).toList = [{ name := "Net", type := 81, offset := 0, embedded := false, tag := "", pkgPath := "", byteOffset := 0 }, { name := "V", type := 3, offset := 4, embedded := false, tag := "", pkgPath := "", byteOffset := 32 }] := by kernel_rfl

theorem eqIn_T_trie_Hit (d : Nat) (x y : T_trie_Hit) (w : World) : (Op.equalIn (d + 6) 101 (.agg #[.bool x.fNet.fAddr.fV6, .int .u64 x.fNet.fAddr.fHi, .int .u64 x.fNet.fAddr.fLo, .int .i64 x.fNet.fBits, .int .i64 x.fV]) (.agg #[.bool y.fNet.fAddr.fV6, .int .u64 y.fNet.fAddr.fHi, .int .u64 y.fNet.fAddr.fLo, .int .i64 y.fNet.fBits, .int .i64 y.fV])).run Try.prog w = .ok (decide (x = y)) w := by rw [run_equalIn_struct w (d + 5) _ _ _ (by kernel_rfl) (by kernel_rfl)]; simp only [eqFields_T_trie_Hit, Op.eqFields]; simp [go_sem, eqIn_T_api_Net]; cases x; cases y; simp only [T_trie_Hit.mk.injEq]; (repeat' split) <;> simp_all

theorem eql_T_trie_Hit (x y : T_trie_Hit) (xo yo : Operand) : ∀ w, (do eqGuard .eql 101 xo yo (.agg #[.bool x.fNet.fAddr.fV6, .int .u64 x.fNet.fAddr.fHi, .int .u64 x.fNet.fAddr.fLo, .int .i64 x.fNet.fBits, .int .i64 x.fV]) (.agg #[.bool y.fNet.fAddr.fV6, .int .u64 y.fNet.fAddr.fHi, .int .u64 y.fNet.fAddr.fLo, .int .i64 y.fNet.fBits, .int .i64 y.fV]); binOp .eql 101 (.agg #[.bool x.fNet.fAddr.fV6, .int .u64 x.fNet.fAddr.fHi, .int .u64 x.fNet.fAddr.fLo, .int .i64 x.fNet.fBits, .int .i64 x.fV]) (.agg #[.bool y.fNet.fAddr.fV6, .int .u64 y.fNet.fAddr.fHi, .int .u64 y.fNet.fAddr.fLo, .int .i64 y.fNet.fBits, .int .i64 y.fV]) : Sem Value).run Try.prog w = .ok (.bool (decide (x = y))) w := by
  intro w
  have hg : (eqGuard .eql 101 xo yo (.agg #[.bool x.fNet.fAddr.fV6, .int .u64 x.fNet.fAddr.fHi, .int .u64 x.fNet.fAddr.fLo, .int .i64 x.fNet.fBits, .int .i64 x.fV]) (.agg #[.bool y.fNet.fAddr.fV6, .int .u64 y.fNet.fAddr.fHi, .int .u64 y.fNet.fAddr.fLo, .int .i64 y.fNet.fBits, .int .i64 y.fV])).run Try.prog w = .ok () w := by simp [eqGuard, Sem.run_bind, Try.eqGuardType101]
  rw [Sem.run_bind, hg, Result.andThen_ok, run_eql_struct]
  exact congrArg (fun r : Result Bool => r.andThen fun b w' => Result.ok (Value.bool b) w') (eqIn_T_trie_Hit 9994 x y w)

theorem neq_T_trie_Hit (x y : T_trie_Hit) (xo yo : Operand) : ∀ w, (do eqGuard .neq 101 xo yo (.agg #[.bool x.fNet.fAddr.fV6, .int .u64 x.fNet.fAddr.fHi, .int .u64 x.fNet.fAddr.fLo, .int .i64 x.fNet.fBits, .int .i64 x.fV]) (.agg #[.bool y.fNet.fAddr.fV6, .int .u64 y.fNet.fAddr.fHi, .int .u64 y.fNet.fAddr.fLo, .int .i64 y.fNet.fBits, .int .i64 y.fV]); binOp .neq 101 (.agg #[.bool x.fNet.fAddr.fV6, .int .u64 x.fNet.fAddr.fHi, .int .u64 x.fNet.fAddr.fLo, .int .i64 x.fNet.fBits, .int .i64 x.fV]) (.agg #[.bool y.fNet.fAddr.fV6, .int .u64 y.fNet.fAddr.fHi, .int .u64 y.fNet.fAddr.fLo, .int .i64 y.fNet.fBits, .int .i64 y.fV]) : Sem Value).run Try.prog w = .ok (.bool (!decide (x = y))) w := by
  intro w
  have hg : (eqGuard .neq 101 xo yo (.agg #[.bool x.fNet.fAddr.fV6, .int .u64 x.fNet.fAddr.fHi, .int .u64 x.fNet.fAddr.fLo, .int .i64 x.fNet.fBits, .int .i64 x.fV]) (.agg #[.bool y.fNet.fAddr.fV6, .int .u64 y.fNet.fAddr.fHi, .int .u64 y.fNet.fAddr.fLo, .int .i64 y.fNet.fBits, .int .i64 y.fV])).run Try.prog w = .ok () w := by simp [eqGuard, Sem.run_bind, Try.eqGuardType101]
  rw [Sem.run_bind, hg, Result.andThen_ok, run_neq_struct]
  exact congrArg (fun r : Result Bool => r.andThen fun b w' => Result.ok (Value.bool (!b)) w') (eqIn_T_trie_Hit 9994 x y w)

/-- doorman/trie.New -/
def g_trie_New  : Option N_trie_Trie :=
  some (N_trie_Trie.mk N_trie_node.nil N_trie_node.nil (0 : Int))

theorem g_trie_New_ok  (r : N_trie_Trie) (hf : g_trie_New  = some r) : SCall Try.prog 39 [] (.one (N_trie_Trie.c r)) := by
  refine SCall.of Try.func39 rfl rfl rfl rfl fun S0 w0 => ?_
  unfold g_trie_New at hf
  replace hf := Option.some.inj hf
  subst hf
  exact toEnd_good allOk 4 _ _ [⟨[], [], [], [], [], [], []⟩, ⟨[], [], [], [], [(0, [(0, N_trie_node.c N_trie_node.nil), (1, N_trie_node.c N_trie_node.nil)])], [], []⟩] [] [2] [] [] [] (by kernel_rfl) rfl trivial

/-- doorman/doormanlaw11.ten -/
def g_doormanlaw11_ten (a0 : Int) : Option T_api_Net :=
  some (T_api_Net.mk (T_api_Addr.mk false (0 : Int) (167772160 : Int)) a0)

theorem g_doormanlaw11_ten_ok (a0 : Int) (r : T_api_Net) (hf : g_doormanlaw11_ten a0 = some r) : SCall Try.prog 89 [.one (.lit (.int .i64 a0))] (.agg (T_api_Net.c r)) := by
  refine SCall.of Try.func89 rfl rfl rfl rfl fun S0 w0 => ?_
  unfold g_doormanlaw11_ten at hf
  replace hf := Option.some.inj hf
  subst hf
  exact toEnd_good allOk 4 _ _ [⟨[], [], [], [], [], [], []⟩, ⟨[], [], [], [], [], [], []⟩] [] [] [] [] [] (by kernel_rfl) rfl trivial

/-- doorman/addr.V4 -/
def g_addr_V4 (a0 : Int) : Option T_api_Addr :=
  some (T_api_Addr.mk false (0 : Int) (IntKind.wrap .u64 a0))

theorem g_addr_V4_ok (a0 : Int) (r : T_api_Addr) (hf : g_addr_V4 a0 = some r) : SCall Try.prog 133 [.one (.lit (.int .u32 a0))] (.agg (T_api_Addr.c r)) := by
  refine SCall.of Try.func133 rfl rfl rfl rfl fun S0 w0 => ?_
  unfold g_addr_V4 at hf
  replace hf := Option.some.inj hf
  subst hf
  exact toEnd_good allOk 4 _ _ [⟨[], [], [], [], [], [], []⟩, ⟨[], [], [], [], [], [], []⟩] [] [] [] [] [] (by kernel_rfl) rfl trivial

/-- doorman/addr.V6 -/
def g_addr_V6 (a0 : Int) (a1 : Int) : Option T_api_Addr :=
  bif (a0 == (0 : Int)) then
    bif ((Int.fdiv a1 (2 ^ (min (32 : Int).toNat (IntKind.bits .u64)))) == (65535 : Int)) then
      (g_addr_V4 (IntKind.wrap .u32 (IntKind.wrap .u64 (((BitVec.ofInt (IntKind.bits .u64) a1) &&& (BitVec.ofInt (IntKind.bits .u64) (4294967295 : Int))).toNat : Int)))).bind fun x1 =>
      some x1
    else
      some (T_api_Addr.mk true a0 a1)
  else
    some (T_api_Addr.mk true a0 a1)

theorem g_addr_V6_ok (a0 : Int) (a1 : Int) (r : T_api_Addr) (hf : g_addr_V6 a0 a1 = some r) : SCall Try.prog 132 [.one (.lit (.int .u64 a0)), .one (.lit (.int .u64 a1))] (.agg (T_api_Addr.c r)) := by
  refine SCall.of Try.func132 rfl rfl rfl rfl fun S0 w0 => ?_
  unfold g_addr_V6 at hf
  rcases br_some hf with ⟨h1, hf⟩ | ⟨h1, hf⟩
  · rcases br_some hf with ⟨h2, hf⟩ | ⟨h2, hf⟩
    · obtain ⟨x1, q3, hf⟩ := bind_some' hf
      replace hf := Option.some.inj hf
      subst hf
      exact toEnd_good allOk 8 _ _ [⟨[], [], [], [], [], [], []⟩, ⟨[], [(2, true)], [], [], [], [], []⟩, ⟨[(3, .r (.agg (T_api_Addr.c x1)) [])], [], [], [], [], [], []⟩] [true] [] [] [] [(a0 == (0 : Int)) = true, 0 ≤ (32 : Int), ((Int.fdiv a1 (2 ^ (min (32 : Int).toNat (IntKind.bits .u64)))) == (65535 : Int)) = true, SCall Try.prog 133 [.one (.lit (.int .u32 (IntKind.wrap .u32 (IntKind.wrap .u64 (((BitVec.ofInt (IntKind.bits .u64) a1) &&& (BitVec.ofInt (IntKind.bits .u64) (4294967295 : Int))).toNat : Int)))))] (.agg (T_api_Addr.c x1))] (by kernel_rfl) rfl ⟨h1, (by decide), h2, (g_addr_V4_ok (IntKind.wrap .u32 (IntKind.wrap .u64 (((BitVec.ofInt (IntKind.bits .u64) a1) &&& (BitVec.ofInt (IntKind.bits .u64) (4294967295 : Int))).toNat : Int))) x1 q3), trivial⟩
    · replace hf := Option.some.inj hf
      subst hf
      exact toEnd_good allOk 9 _ _ [⟨[], [], [], [], [], [], []⟩, ⟨[], [(2, true)], [], [], [], [], []⟩, ⟨[], [], [], [], [], [], []⟩] [false] [] [] [] [(a0 == (0 : Int)) = true, 0 ≤ (32 : Int), ((Int.fdiv a1 (2 ^ (min (32 : Int).toNat (IntKind.bits .u64)))) == (65535 : Int)) = false] (by kernel_rfl) rfl ⟨h1, (by decide), h2, trivial⟩
  · replace hf := Option.some.inj hf
    subst hf
    exact toEnd_good allOk 9 _ _ [⟨[], [], [], [], [], [], []⟩, ⟨[], [(2, false)], [], [], [], [], []⟩, ⟨[], [], [], [], [], [], []⟩] [false] [] [] [] [(a0 == (0 : Int)) = false, false = false] (by kernel_rfl) rfl ⟨h1, rfl, trivial⟩

/-- doorman/addr.Right -/
def g_addr_Right (a0 : T_api_Addr) : Option Bool :=
  bif a0.fV6 then
    (g_addr_V6 a0.fHi a0.fLo).bind fun x1 =>
    some (decide (x1 = a0))
  else
    (g_addr_V4 (IntKind.wrap .u32 (IntKind.wrap .u64 (((BitVec.ofInt (IntKind.bits .u64) a0.fLo) &&& (BitVec.ofInt (IntKind.bits .u64) (4294967295 : Int))).toNat : Int)))).bind fun x2 =>
    some (decide (x2 = a0))

theorem g_addr_Right_ok (a0 : T_api_Addr) (r : Bool) (hf : g_addr_Right a0 = some r) : SCall Try.prog 98 [.agg (T_api_Addr.c a0)] (.one (.lit (.bool r))) := by
  refine SCall.of Try.func98 rfl rfl rfl rfl fun S0 w0 => ?_
  unfold g_addr_Right at hf
  rcases br_some hf with ⟨h1, hf⟩ | ⟨h1, hf⟩
  · obtain ⟨x1, q2, hf⟩ := bind_some' hf
    replace hf := Option.some.inj hf
    subst hf
    exact toEnd_good allOk 8 _ _ [⟨[], [], [], [], [], [], []⟩, ⟨[], [], [], [], [], [], []⟩, ⟨[(4, .r (.agg (T_api_Addr.c x1)) []), (6, .r (.one (.lit (.bool (decide (x1 = a0))))) [])], [], [], [[], [0], [], [2], [1, 0, 3, 2], [], [4, 1, 0, 3, 2, 5], [6, 4, 1, 0, 3, 2, 5]], [], [], []⟩] [true] [] [] [] [a0.fV6 = true, SCall Try.prog 132 [.one (.lit (.int .u64 a0.fHi)), .one (.lit (.int .u64 a0.fLo))] (.agg (T_api_Addr.c x1)), ∀ w, (do eqGuard .eql 33 (.tmp 9) (.tmp 10) (.agg #[.bool x1.fV6, .int .u64 x1.fHi, .int .u64 x1.fLo]) (.agg #[.bool a0.fV6, .int .u64 a0.fHi, .int .u64 a0.fLo]); binOp .eql 33 (.agg #[.bool x1.fV6, .int .u64 x1.fHi, .int .u64 x1.fLo]) (.agg #[.bool a0.fV6, .int .u64 a0.fHi, .int .u64 a0.fLo]) : Sem Value).run Try.prog w = .ok (.bool (decide (x1 = a0))) w] (by kernel_rfl) rfl ⟨h1, (g_addr_V6_ok a0.fHi a0.fLo x1 q2), (eql_T_api_Addr x1 a0 _ _), trivial⟩
  · obtain ⟨x2, q3, hf⟩ := bind_some' hf
    replace hf := Option.some.inj hf
    subst hf
    exact toEnd_good allOk 9 _ _ [⟨[], [], [], [], [], [], []⟩, ⟨[], [], [], [], [], [], []⟩, ⟨[(4, .r (.agg (T_api_Addr.c x2)) []), (6, .r (.one (.lit (.bool (decide (x2 = a0))))) [])], [], [], [[], [0], [1, 0], [2, 1, 0], [3, 2, 1, 0], [], [4, 3, 2, 1, 0, 5], [6, 4, 3, 2, 1, 0, 5]], [], [], []⟩] [false] [] [] [] [a0.fV6 = false, SCall Try.prog 133 [.one (.lit (.int .u32 (IntKind.wrap .u32 (IntKind.wrap .u64 (((BitVec.ofInt (IntKind.bits .u64) a0.fLo) &&& (BitVec.ofInt (IntKind.bits .u64) (4294967295 : Int))).toNat : Int)))))] (.agg (T_api_Addr.c x2)), ∀ w, (do eqGuard .eql 33 (.tmp 16) (.tmp 17) (.agg #[.bool x2.fV6, .int .u64 x2.fHi, .int .u64 x2.fLo]) (.agg #[.bool a0.fV6, .int .u64 a0.fHi, .int .u64 a0.fLo]); binOp .eql 33 (.agg #[.bool x2.fV6, .int .u64 x2.fHi, .int .u64 x2.fLo]) (.agg #[.bool a0.fV6, .int .u64 a0.fHi, .int .u64 a0.fLo]) : Sem Value).run Try.prog w = .ok (.bool (decide (x2 = a0))) w] (by kernel_rfl) rfl ⟨h1, (g_addr_V4_ok (IntKind.wrap .u32 (IntKind.wrap .u64 (((BitVec.ofInt (IntKind.bits .u64) a0.fLo) &&& (BitVec.ofInt (IntKind.bits .u64) (4294967295 : Int))).toNat : Int))) x2 q3), (eql_T_api_Addr x2 a0 _ _), trivial⟩

/-- doorman/addr.Bits -/
def g_addr_Bits (a0 : T_api_Addr) : Option Int :=
  bif a0.fV6 then
    some (128 : Int)
  else
    some (32 : Int)

theorem g_addr_Bits_ok (a0 : T_api_Addr) (r : Int) (hf : g_addr_Bits a0 = some r) : SCall Try.prog 135 [.agg (T_api_Addr.c a0)] (.one (.lit (.int .i64 r))) := by
  refine SCall.of Try.func135 rfl rfl rfl rfl fun S0 w0 => ?_
  unfold g_addr_Bits at hf
  rcases br_some hf with ⟨h1, hf⟩ | ⟨h1, hf⟩
  · replace hf := Option.some.inj hf
    subst hf
    exact toEnd_good allOk 8 _ _ [⟨[], [], [], [], [], [], []⟩, ⟨[], [], [], [], [], [], []⟩, ⟨[], [], [], [], [], [], []⟩] [true] [] [] [] [a0.fV6 = true] (by kernel_rfl) rfl ⟨h1, trivial⟩
  · replace hf := Option.some.inj hf
    subst hf
    exact toEnd_good allOk 9 _ _ [⟨[], [], [], [], [], [], []⟩, ⟨[], [], [], [], [], [], []⟩, ⟨[], [], [], [], [], [], []⟩] [false] [] [] [] [a0.fV6 = false] (by kernel_rfl) rfl ⟨h1, trivial⟩

/-- math/bits.ReverseBytes64 -/
def g_math_bits_ReverseBytes64 (a0 : Int) : Option Int :=
  some (IntKind.wrap .u64 (((BitVec.ofInt (IntKind.bits .u64) (Int.fdiv (IntKind.wrap .u64 (((BitVec.ofInt (IntKind.bits .u64) (IntKind.wrap .u64 (((BitVec.ofInt (IntKind.bits .u64) (Int.fdiv (IntKind.wrap .u64 (((BitVec.ofInt (IntKind.bits .u64) (IntKind.wrap .u64 (((BitVec.ofInt (IntKind.bits .u64) (Int.fdiv a0 (2 ^ (min (8 : Int).toNat (IntKind.bits .u64))))) &&& (BitVec.ofInt (IntKind.bits .u64) (71777214294589695 : Int))).toNat : Int))) ||| (BitVec.ofInt (IntKind.bits .u64) (IntKind.wrap .u64 ((IntKind.wrap .u64 (((BitVec.ofInt (IntKind.bits .u64) a0) &&& (BitVec.ofInt (IntKind.bits .u64) (71777214294589695 : Int))).toNat : Int)) * 2 ^ (min (8 : Int).toNat (IntKind.bits .u64)))))).toNat : Int)) (2 ^ (min (16 : Int).toNat (IntKind.bits .u64))))) &&& (BitVec.ofInt (IntKind.bits .u64) (281470681808895 : Int))).toNat : Int))) ||| (BitVec.ofInt (IntKind.bits .u64) (IntKind.wrap .u64 ((IntKind.wrap .u64 (((BitVec.ofInt (IntKind.bits .u64) (IntKind.wrap .u64 (((BitVec.ofInt (IntKind.bits .u64) (IntKind.wrap .u64 (((BitVec.ofInt (IntKind.bits .u64) (Int.fdiv a0 (2 ^ (min (8 : Int).toNat (IntKind.bits .u64))))) &&& (BitVec.ofInt (IntKind.bits .u64) (71777214294589695 : Int))).toNat : Int))) ||| (BitVec.ofInt (IntKind.bits .u64) (IntKind.wrap .u64 ((IntKind.wrap .u64 (((BitVec.ofInt (IntKind.bits .u64) a0) &&& (BitVec.ofInt (IntKind.bits .u64) (71777214294589695 : Int))).toNat : Int)) * 2 ^ (min (8 : Int).toNat (IntKind.bits .u64)))))).toNat : Int))) &&& (BitVec.ofInt (IntKind.bits .u64) (281470681808895 : Int))).toNat : Int)) * 2 ^ (min (16 : Int).toNat (IntKind.bits .u64)))))).toNat : Int)) (2 ^ (min (32 : Int).toNat (IntKind.bits .u64))))) ||| (BitVec.ofInt (IntKind.bits .u64) (IntKind.wrap .u64 ((IntKind.wrap .u64 (((BitVec.ofInt (IntKind.bits .u64) (IntKind.wrap .u64 (((BitVec.ofInt (IntKind.bits .u64) (Int.fdiv (IntKind.wrap .u64 (((BitVec.ofInt (IntKind.bits .u64) (IntKind.wrap .u64 (((BitVec.ofInt (IntKind.bits .u64) (Int.fdiv a0 (2 ^ (min (8 : Int).toNat (IntKind.bits .u64))))) &&& (BitVec.ofInt (IntKind.bits .u64) (71777214294589695 : Int))).toNat : Int))) ||| (BitVec.ofInt (IntKind.bits .u64) (IntKind.wrap .u64 ((IntKind.wrap .u64 (((BitVec.ofInt (IntKind.bits .u64) a0) &&& (BitVec.ofInt (IntKind.bits .u64) (71777214294589695 : Int))).toNat : Int)) * 2 ^ (min (8 : Int).toNat (IntKind.bits .u64)))))).toNat : Int)) (2 ^ (min (16 : Int).toNat (IntKind.bits .u64))))) &&& (BitVec.ofInt (IntKind.bits .u64) (281470681808895 : Int))).toNat : Int))) ||| (BitVec.ofInt (IntKind.bits .u64) (IntKind.wrap .u64 ((IntKind.wrap .u64 (((BitVec.ofInt (IntKind.bits .u64) (IntKind.wrap .u64 (((BitVec.ofInt (IntKind.bits .u64) (IntKind.wrap .u64 (((BitVec.ofInt (IntKind.bits .u64) (Int.fdiv a0 (2 ^ (min (8 : Int).toNat (IntKind.bits .u64))))) &&& (BitVec.ofInt (IntKind.bits .u64) (71777214294589695 : Int))).toNat : Int))) ||| (BitVec.ofInt (IntKind.bits .u64) (IntKind.wrap .u64 ((IntKind.wrap .u64 (((BitVec.ofInt (IntKind.bits .u64) a0) &&& (BitVec.ofInt (IntKind.bits .u64) (71777214294589695 : Int))).toNat : Int)) * 2 ^ (min (8 : Int).toNat (IntKind.bits .u64)))))).toNat : Int))) &&& (BitVec.ofInt (IntKind.bits .u64) (281470681808895 : Int))).toNat : Int)) * 2 ^ (min (16 : Int).toNat (IntKind.bits .u64)))))).toNat : Int)) * 2 ^ (min (32 : Int).toNat (IntKind.bits .u64)))))).toNat : Int))

theorem g_math_bits_ReverseBytes64_ok (a0 : Int) (r : Int) (hf : g_math_bits_ReverseBytes64 a0 = some r) : SCall Try.prog 172 [.one (.lit (.int .u64 a0))] (.one (.lit (.int .u64 r))) := by
  refine SCall.of Try.func172 rfl rfl rfl rfl fun S0 w0 => ?_
  unfold g_math_bits_ReverseBytes64 at hf
  replace hf := Option.some.inj hf
  subst hf
  exact toEnd_good allOk 8 _ _ [⟨[], [], [], [], [], [], []⟩, ⟨[], [], [], [], [], [], []⟩, ⟨[], [], [], [], [], [], []⟩, ⟨[], [], [], [], [], [], []⟩] [] [] [] [] [0 ≤ (8 : Int), 0 ≤ (8 : Int), 0 ≤ (16 : Int), 0 ≤ (16 : Int), 0 ≤ (32 : Int), 0 ≤ (32 : Int)] (by kernel_rfl) rfl ⟨(by decide), (by decide), (by decide), (by decide), (by decide), (by decide), trivial⟩

/-- math/bits.Reverse64 -/
def g_math_bits_Reverse64 (a0 : Int) : Option Int :=
  (g_math_bits_ReverseBytes64 (IntKind.wrap .u64 (((BitVec.ofInt (IntKind.bits .u64) (IntKind.wrap .u64 (((BitVec.ofInt (IntKind.bits .u64) (Int.fdiv (IntKind.wrap .u64 (((BitVec.ofInt (IntKind.bits .u64) (IntKind.wrap .u64 (((BitVec.ofInt (IntKind.bits .u64) (Int.fdiv (IntKind.wrap .u64 (((BitVec.ofInt (IntKind.bits .u64) (IntKind.wrap .u64 (((BitVec.ofInt (IntKind.bits .u64) (Int.fdiv a0 (2 ^ (min (1 : Int).toNat (IntKind.bits .u64))))) &&& (BitVec.ofInt (IntKind.bits .u64) (6148914691236517205 : Int))).toNat : Int))) ||| (BitVec.ofInt (IntKind.bits .u64) (IntKind.wrap .u64 ((IntKind.wrap .u64 (((BitVec.ofInt (IntKind.bits .u64) a0) &&& (BitVec.ofInt (IntKind.bits .u64) (6148914691236517205 : Int))).toNat : Int)) * 2 ^ (min (1 : Int).toNat (IntKind.bits .u64)))))).toNat : Int)) (2 ^ (min (2 : Int).toNat (IntKind.bits .u64))))) &&& (BitVec.ofInt (IntKind.bits .u64) (3689348814741910323 : Int))).toNat : Int))) ||| (BitVec.ofInt (IntKind.bits .u64) (IntKind.wrap .u64 ((IntKind.wrap .u64 (((BitVec.ofInt (IntKind.bits .u64) (IntKind.wrap .u64 (((BitVec.ofInt (IntKind.bits .u64) (IntKind.wrap .u64 (((BitVec.ofInt (IntKind.bits .u64) (Int.fdiv a0 (2 ^ (min (1 : Int).toNat (IntKind.bits .u64))))) &&& (BitVec.ofInt (IntKind.bits .u64) (6148914691236517205 : Int))).toNat : Int))) ||| (BitVec.ofInt (IntKind.bits .u64) (IntKind.wrap .u64 ((IntKind.wrap .u64 (((BitVec.ofInt (IntKind.bits .u64) a0) &&& (BitVec.ofInt (IntKind.bits .u64) (6148914691236517205 : Int))).toNat : Int)) * 2 ^ (min (1 : Int).toNat (IntKind.bits .u64)))))).toNat : Int))) &&& (BitVec.ofInt (IntKind.bits .u64) (3689348814741910323 : Int))).toNat : Int)) * 2 ^ (min (2 : Int).toNat (IntKind.bits .u64)))))).toNat : Int)) (2 ^ (min (4 : Int).toNat (IntKind.bits .u64))))) &&& (BitVec.ofInt (IntKind.bits .u64) (1085102592571150095 : Int))).toNat : Int))) ||| (BitVec.ofInt (IntKind.bits .u64) (IntKind.wrap .u64 ((IntKind.wrap .u64 (((BitVec.ofInt (IntKind.bits .u64) (IntKind.wrap .u64 (((BitVec.ofInt (IntKind.bits .u64) (IntKind.wrap .u64 (((BitVec.ofInt (IntKind.bits .u64) (Int.fdiv (IntKind.wrap .u64 (((BitVec.ofInt (IntKind.bits .u64) (IntKind.wrap .u64 (((BitVec.ofInt (IntKind.bits .u64) (Int.fdiv a0 (2 ^ (min (1 : Int).toNat (IntKind.bits .u64))))) &&& (BitVec.ofInt (IntKind.bits .u64) (6148914691236517205 : Int))).toNat : Int))) ||| (BitVec.ofInt (IntKind.bits .u64) (IntKind.wrap .u64 ((IntKind.wrap .u64 (((BitVec.ofInt (IntKind.bits .u64) a0) &&& (BitVec.ofInt (IntKind.bits .u64) (6148914691236517205 : Int))).toNat : Int)) * 2 ^ (min (1 : Int).toNat (IntKind.bits .u64)))))).toNat : Int)) (2 ^ (min (2 : Int).toNat (IntKind.bits .u64))))) &&& (BitVec.ofInt (IntKind.bits .u64) (3689348814741910323 : Int))).toNat : Int))) ||| (BitVec.ofInt (IntKind.bits .u64) (IntKind.wrap .u64 ((IntKind.wrap .u64 (((BitVec.ofInt (IntKind.bits .u64) (IntKind.wrap .u64 (((BitVec.ofInt (IntKind.bits .u64) (IntKind.wrap .u64 (((BitVec.ofInt (IntKind.bits .u64) (Int.fdiv a0 (2 ^ (min (1 : Int).toNat (IntKind.bits .u64))))) &&& (BitVec.ofInt (IntKind.bits .u64) (6148914691236517205 : Int))).toNat : Int))) ||| (BitVec.ofInt (IntKind.bits .u64) (IntKind.wrap .u64 ((IntKind.wrap .u64 (((BitVec.ofInt (IntKind.bits .u64) a0) &&& (BitVec.ofInt (IntKind.bits .u64) (6148914691236517205 : Int))).toNat : Int)) * 2 ^ (min (1 : Int).toNat (IntKind.bits .u64)))))).toNat : Int))) &&& (BitVec.ofInt (IntKind.bits .u64) (3689348814741910323 : Int))).toNat : Int)) * 2 ^ (min (2 : Int).toNat (IntKind.bits .u64)))))).toNat : Int))) &&& (BitVec.ofInt (IntKind.bits .u64) (1085102592571150095 : Int))).toNat : Int)) * 2 ^ (min (4 : Int).toNat (IntKind.bits .u64)))))).toNat : Int))).bind fun x1 =>
  some x1

theorem g_math_bits_Reverse64_ok (a0 : Int) (r : Int) (hf : g_math_bits_Reverse64 a0 = some r) : SCall Try.prog 162 [.one (.lit (.int .u64 a0))] (.one (.lit (.int .u64 r))) := by
  refine SCall.of Try.func162 rfl rfl rfl rfl fun S0 w0 => ?_
  unfold g_math_bits_Reverse64 at hf
  obtain ⟨x1, q1, hf⟩ := bind_some' hf
  replace hf := Option.some.inj hf
  subst hf
  exact toEnd_good allOk 10 _ _ [⟨[], [], [], [], [], [], []⟩, ⟨[], [], [], [], [], [], []⟩, ⟨[], [], [], [], [], [], []⟩, ⟨[], [], [], [], [], [], []⟩, ⟨[(1, .r (.one (.lit (.int .u64 x1))) [])], [], [], [], [], [], []⟩] [] [] [] [] [0 ≤ (1 : Int), 0 ≤ (1 : Int), 0 ≤ (2 : Int), 0 ≤ (2 : Int), 0 ≤ (4 : Int), 0 ≤ (4 : Int), SCall Try.prog 172 [.one (.lit (.int .u64 (IntKind.wrap .u64 (((BitVec.ofInt (IntKind.bits .u64) (IntKind.wrap .u64 (((BitVec.ofInt (IntKind.bits .u64) (Int.fdiv (IntKind.wrap .u64 (((BitVec.ofInt (IntKind.bits .u64) (IntKind.wrap .u64 (((BitVec.ofInt (IntKind.bits .u64) (Int.fdiv (IntKind.wrap .u64 (((BitVec.ofInt (IntKind.bits .u64) (IntKind.wrap .u64 (((BitVec.ofInt (IntKind.bits .u64) (Int.fdiv a0 (2 ^ (min (1 : Int).toNat (IntKind.bits .u64))))) &&& (BitVec.ofInt (IntKind.bits .u64) (6148914691236517205 : Int))).toNat : Int))) ||| (BitVec.ofInt (IntKind.bits .u64) (IntKind.wrap .u64 ((IntKind.wrap .u64 (((BitVec.ofInt (IntKind.bits .u64) a0) &&& (BitVec.ofInt (IntKind.bits .u64) (6148914691236517205 : Int))).toNat : Int)) * 2 ^ (min (1 : Int).toNat (IntKind.bits .u64)))))).toNat : Int)) (2 ^ (min (2 : Int).toNat (IntKind.bits .u64))))) &&& (BitVec.ofInt (IntKind.bits .u64) (3689348814741910323 : Int))).toNat : Int))) ||| (BitVec.ofInt (IntKind.bits .u64) (IntKind.wrap .u64 ((IntKind.wrap .u64 (((BitVec.ofInt (IntKind.bits .u64) (IntKind.wrap .u64 (((BitVec.ofInt (IntKind.bits .u64) (IntKind.wrap .u64 (((BitVec.ofInt (IntKind.bits .u64) (Int.fdiv a0 (2 ^ (min (1 : Int).toNat (IntKind.bits .u64))))) &&& (BitVec.ofInt (IntKind.bits .u64) (6148914691236517205 : Int))).toNat : Int))) ||| (BitVec.ofInt (IntKind.bits .u64) (IntKind.wrap .u64 ((IntKind.wrap .u64 (((BitVec.ofInt (IntKind.bits .u64) a0) &&& (BitVec.ofInt (IntKind.bits .u64) (6148914691236517205 : Int))).toNat : Int)) * 2 ^ (min (1 : Int).toNat (IntKind.bits .u64)))))).toNat : Int))) &&& (BitVec.ofInt (IntKind.bits .u64) (3689348814741910323 : Int))).toNat : Int)) * 2 ^ (min (2 : Int).toNat (IntKind.bits .u64)))))).toNat : Int)) (2 ^ (min (4 : Int).toNat (IntKind.bits .u64))))) &&& (BitVec.ofInt (IntKind.bits .u64) (1085102592571150095 : Int))).toNat : Int))) ||| (BitVec.ofInt (IntKind.bits .u64) (IntKind.wrap .u64 ((IntKind.wrap .u64 (((BitVec.ofInt (IntKind.bits .u64) (IntKind.wrap .u64 (((BitVec.ofInt (IntKind.bits .u64) (IntKind.wrap .u64 (((BitVec.ofInt (IntKind.bits .u64) (Int.fdiv (IntKind.wrap .u64 (((BitVec.ofInt (IntKind.bits .u64) (IntKind.wrap .u64 (((BitVec.ofInt (IntKind.bits .u64) (Int.fdiv a0 (2 ^ (min (1 : Int).toNat (IntKind.bits .u64))))) &&& (BitVec.ofInt (IntKind.bits .u64) (6148914691236517205 : Int))).toNat : Int))) ||| (BitVec.ofInt (IntKind.bits .u64) (IntKind.wrap .u64 ((IntKind.wrap .u64 (((BitVec.ofInt (IntKind.bits .u64) a0) &&& (BitVec.ofInt (IntKind.bits .u64) (6148914691236517205 : Int))).toNat : Int)) * 2 ^ (min (1 : Int).toNat (IntKind.bits .u64)))))).toNat : Int)) (2 ^ (min (2 : Int).toNat (IntKind.bits .u64))))) &&& (BitVec.ofInt (IntKind.bits .u64) (3689348814741910323 : Int))).toNat : Int))) ||| (BitVec.ofInt (IntKind.bits .u64) (IntKind.wrap .u64 ((IntKind.wrap .u64 (((BitVec.ofInt (IntKind.bits .u64) (IntKind.wrap .u64 (((BitVec.ofInt (IntKind.bits .u64) (IntKind.wrap .u64 (((BitVec.ofInt (IntKind.bits .u64) (Int.fdiv a0 (2 ^ (min (1 : Int).toNat (IntKind.bits .u64))))) &&& (BitVec.ofInt (IntKind.bits .u64) (6148914691236517205 : Int))).toNat : Int))) ||| (BitVec.ofInt (IntKind.bits .u64) (IntKind.wrap .u64 ((IntKind.wrap .u64 (((BitVec.ofInt (IntKind.bits .u64) a0) &&& (BitVec.ofInt (IntKind.bits .u64) (6148914691236517205 : Int))).toNat : Int)) * 2 ^ (min (1 : Int).toNat (IntKind.bits .u64)))))).toNat : Int))) &&& (BitVec.ofInt (IntKind.bits .u64) (3689348814741910323 : Int))).toNat : Int)) * 2 ^ (min (2 : Int).toNat (IntKind.bits .u64)))))).toNat : Int))) &&& (BitVec.ofInt (IntKind.bits .u64) (1085102592571150095 : Int))).toNat : Int)) * 2 ^ (min (4 : Int).toNat (IntKind.bits .u64)))))).toNat : Int))))] (.one (.lit (.int .u64 x1)))] (by kernel_rfl) rfl ⟨(by decide), (by decide), (by decide), (by decide), (by decide), (by decide), (g_math_bits_ReverseBytes64_ok (IntKind.wrap .u64 (((BitVec.ofInt (IntKind.bits .u64) (IntKind.wrap .u64 (((BitVec.ofInt (IntKind.bits .u64) (Int.fdiv (IntKind.wrap .u64 (((BitVec.ofInt (IntKind.bits .u64) (IntKind.wrap .u64 (((BitVec.ofInt (IntKind.bits .u64) (Int.fdiv (IntKind.wrap .u64 (((BitVec.ofInt (IntKind.bits .u64) (IntKind.wrap .u64 (((BitVec.ofInt (IntKind.bits .u64) (Int.fdiv a0 (2 ^ (min (1 : Int).toNat (IntKind.bits .u64))))) &&& (BitVec.ofInt (IntKind.bits .u64) (6148914691236517205 : Int))).toNat : Int))) ||| (BitVec.ofInt (IntKind.bits .u64) (IntKind.wrap .u64 ((IntKind.wrap .u64 (((BitVec.ofInt (IntKind.bits .u64) a0) &&& (BitVec.ofInt (IntKind.bits .u64) (6148914691236517205 : Int))).toNat : Int)) * 2 ^ (min (1 : Int).toNat (IntKind.bits .u64)))))).toNat : Int)) (2 ^ (min (2 : Int).toNat (IntKind.bits .u64))))) &&& (BitVec.ofInt (IntKind.bits .u64) (3689348814741910323 : Int))).toNat : Int))) ||| (BitVec.ofInt (IntKind.bits .u64) (IntKind.wrap .u64 ((IntKind.wrap .u64 (((BitVec.ofInt (IntKind.bits .u64) (IntKind.wrap .u64 (((BitVec.ofInt (IntKind.bits .u64) (IntKind.wrap .u64 (((BitVec.ofInt (IntKind.bits .u64) (Int.fdiv a0 (2 ^ (min (1 : Int).toNat (IntKind.bits .u64))))) &&& (BitVec.ofInt (IntKind.bits .u64) (6148914691236517205 : Int))).toNat : Int))) ||| (BitVec.ofInt (IntKind.bits .u64) (IntKind.wrap .u64 ((IntKind.wrap .u64 (((BitVec.ofInt (IntKind.bits .u64) a0) &&& (BitVec.ofInt (IntKind.bits .u64) (6148914691236517205 : Int))).toNat : Int)) * 2 ^ (min (1 : Int).toNat (IntKind.bits .u64)))))).toNat : Int))) &&& (BitVec.ofInt (IntKind.bits .u64) (3689348814741910323 : Int))).toNat : Int)) * 2 ^ (min (2 : Int).toNat (IntKind.bits .u64)))))).toNat : Int)) (2 ^ (min (4 : Int).toNat (IntKind.bits .u64))))) &&& (BitVec.ofInt (IntKind.bits .u64) (1085102592571150095 : Int))).toNat : Int))) ||| (BitVec.ofInt (IntKind.bits .u64) (IntKind.wrap .u64 ((IntKind.wrap .u64 (((BitVec.ofInt (IntKind.bits .u64) (IntKind.wrap .u64 (((BitVec.ofInt (IntKind.bits .u64) (IntKind.wrap .u64 (((BitVec.ofInt (IntKind.bits .u64) (Int.fdiv (IntKind.wrap .u64 (((BitVec.ofInt (IntKind.bits .u64) (IntKind.wrap .u64 (((BitVec.ofInt (IntKind.bits .u64) (Int.fdiv a0 (2 ^ (min (1 : Int).toNat (IntKind.bits .u64))))) &&& (BitVec.ofInt (IntKind.bits .u64) (6148914691236517205 : Int))).toNat : Int))) ||| (BitVec.ofInt (IntKind.bits .u64) (IntKind.wrap .u64 ((IntKind.wrap .u64 (((BitVec.ofInt (IntKind.bits .u64) a0) &&& (BitVec.ofInt (IntKind.bits .u64) (6148914691236517205 : Int))).toNat : Int)) * 2 ^ (min (1 : Int).toNat (IntKind.bits .u64)))))).toNat : Int)) (2 ^ (min (2 : Int).toNat (IntKind.bits .u64))))) &&& (BitVec.ofInt (IntKind.bits .u64) (3689348814741910323 : Int))).toNat : Int))) ||| (BitVec.ofInt (IntKind.bits .u64) (IntKind.wrap .u64 ((IntKind.wrap .u64 (((BitVec.ofInt (IntKind.bits .u64) (IntKind.wrap .u64 (((BitVec.ofInt (IntKind.bits .u64) (IntKind.wrap .u64 (((BitVec.ofInt (IntKind.bits .u64) (Int.fdiv a0 (2 ^ (min (1 : Int).toNat (IntKind.bits .u64))))) &&& (BitVec.ofInt (IntKind.bits .u64) (6148914691236517205 : Int))).toNat : Int))) ||| (BitVec.ofInt (IntKind.bits .u64) (IntKind.wrap .u64 ((IntKind.wrap .u64 (((BitVec.ofInt (IntKind.bits .u64) a0) &&& (BitVec.ofInt (IntKind.bits .u64) (6148914691236517205 : Int))).toNat : Int)) * 2 ^ (min (1 : Int).toNat (IntKind.bits .u64)))))).toNat : Int))) &&& (BitVec.ofInt (IntKind.bits .u64) (3689348814741910323 : Int))).toNat : Int)) * 2 ^ (min (2 : Int).toNat (IntKind.bits .u64)))))).toNat : Int))) &&& (BitVec.ofInt (IntKind.bits .u64) (1085102592571150095 : Int))).toNat : Int)) * 2 ^ (min (4 : Int).toNat (IntKind.bits .u64)))))).toNat : Int)) x1 q1), trivial⟩

/-- doorman/cidr.top -/
def g_cidr_top (a0 : Int) : Option Int :=
  need (0 ≤ (if (64 : Int) < (if (0 : Int) > a0 then (0 : Int) else a0) then (64 : Int) else (if (0 : Int) > a0 then (0 : Int) else a0))) <|
  (g_math_bits_Reverse64 (IntKind.wrap .u64 ((IntKind.wrap .u64 ((1 : Int) * 2 ^ (min (if (64 : Int) < (if (0 : Int) > a0 then (0 : Int) else a0) then (64 : Int) else (if (0 : Int) > a0 then (0 : Int) else a0)).toNat (IntKind.bits .u64)))) - (1 : Int)))).bind fun x1 =>
  some x1

theorem g_cidr_top_ok (a0 : Int) (r : Int) (hf : g_cidr_top a0 = some r) : SCall Try.prog 152 [.one (.lit (.int .i64 a0))] (.one (.lit (.int .u64 r))) := by
  refine SCall.of Try.func152 rfl rfl rfl rfl fun S0 w0 => ?_
  unfold g_cidr_top at hf
  obtain ⟨o1, hf⟩ := need_some hf
  obtain ⟨x1, q2, hf⟩ := bind_some' hf
  replace hf := Option.some.inj hf
  subst hf
  exact toEnd_good allOk 6 _ _ [⟨[], [], [], [], [], [], []⟩, ⟨[], [], [], [], [], [], []⟩, ⟨[(3, .r (.one (.lit (.int .u64 x1))) [])], [], [], [], [], [], []⟩] [] [] [] [] [0 ≤ (if (64 : Int) < (if (0 : Int) > a0 then (0 : Int) else a0) then (64 : Int) else (if (0 : Int) > a0 then (0 : Int) else a0)), SCall Try.prog 162 [.one (.lit (.int .u64 (IntKind.wrap .u64 ((IntKind.wrap .u64 ((1 : Int) * 2 ^ (min (if (64 : Int) < (if (0 : Int) > a0 then (0 : Int) else a0) then (64 : Int) else (if (0 : Int) > a0 then (0 : Int) else a0)).toNat (IntKind.bits .u64)))) - (1 : Int)))))] (.one (.lit (.int .u64 x1)))] (by kernel_rfl) rfl ⟨o1, (g_math_bits_Reverse64_ok (IntKind.wrap .u64 ((IntKind.wrap .u64 ((1 : Int) * 2 ^ (min (if (64 : Int) < (if (0 : Int) > a0 then (0 : Int) else a0) then (64 : Int) else (if (0 : Int) > a0 then (0 : Int) else a0)).toNat (IntKind.bits .u64)))) - (1 : Int))) x1 q2), trivial⟩

/-- doorman/cidr.masked -/
def g_cidr_masked (a0 : Int) (a1 : Int) (a2 : Int) : Option (Int × Int) :=
  (g_cidr_top a2).bind fun x1 =>
  (g_cidr_top (sub64 a2 (64 : Int))).bind fun x2 =>
  some ((IntKind.wrap .u64 (((BitVec.ofInt (IntKind.bits .u64) a0) &&& (BitVec.ofInt (IntKind.bits .u64) x1)).toNat : Int)), (IntKind.wrap .u64 (((BitVec.ofInt (IntKind.bits .u64) a1) &&& (BitVec.ofInt (IntKind.bits .u64) x2)).toNat : Int)))

theorem g_cidr_masked_ok (a0 : Int) (a1 : Int) (a2 : Int) (r : (Int × Int)) (hf : g_cidr_masked a0 a1 a2 = some r) : SCall Try.prog 153 [.one (.lit (.int .u64 a0)), .one (.lit (.int .u64 a1)), .one (.lit (.int .i64 a2))] (.tup [(false, (cI .u64) r.1), (false, (cI .u64) r.2)]) := by
  refine SCall.of Try.func153 rfl rfl rfl rfl fun S0 w0 => ?_
  unfold g_cidr_masked at hf
  obtain ⟨x1, q1, hf⟩ := bind_some' hf
  obtain ⟨x2, q2, hf⟩ := bind_some' hf
  replace hf := Option.some.inj hf
  subst hf
  exact toEnd_good allOk 4 _ _ [⟨[], [], [], [], [], [], []⟩, ⟨[(2, .r (.one (.lit (.int .u64 x1))) []), (7, .r (.one (.lit (.int .u64 x2))) [])], [], [], [], [], [], []⟩] [] [] [] [] [SCall Try.prog 152 [.one (.lit (.int .i64 a2))] (.one (.lit (.int .u64 x1))), SCall Try.prog 152 [.one (.lit (.int .i64 (sub64 a2 (64 : Int))))] (.one (.lit (.int .u64 x2)))] (by kernel_rfl) rfl ⟨(g_cidr_top_ok a2 x1 q1), (g_cidr_top_ok (sub64 a2 (64 : Int)) x2 q2), trivial⟩

/-- doorman/cidr.Mask -/
def g_cidr_Mask (a0 : T_api_Addr) (a1 : Int) : Option T_api_Addr :=
  (g_addr_Right a0).bind fun x1 =>
  bif (!x1) then
    some (T_api_Addr.mk false (0 : Int) (0 : Int))
  else
    (g_addr_Bits a0).bind fun x2 =>
    bif (!a0.fV6) then
      (g_cidr_top (if x2 < (if (0 : Int) > a1 then (0 : Int) else a1) then x2 else (if (0 : Int) > a1 then (0 : Int) else a1))).bind fun x3 =>
      some (T_api_Addr.mk a0.fV6 a0.fHi (IntKind.wrap .u64 (((BitVec.ofInt (IntKind.bits .u64) a0.fLo) &&& (BitVec.ofInt (IntKind.bits .u64) (Int.fdiv x3 (2 ^ (min (32 : Int).toNat (IntKind.bits .u64)))))).toNat : Int)))
    else
      (g_cidr_masked a0.fHi a0.fLo (if x2 < (if (0 : Int) > a1 then (0 : Int) else a1) then x2 else (if (0 : Int) > a1 then (0 : Int) else a1))).bind fun x4 =>
      some (T_api_Addr.mk a0.fV6 x4.1 x4.2)

theorem g_cidr_Mask_ok (a0 : T_api_Addr) (a1 : Int) (r : T_api_Addr) (hf : g_cidr_Mask a0 a1 = some r) : SCall Try.prog 134 [.agg (T_api_Addr.c a0), .one (.lit (.int .i64 a1))] (.agg (T_api_Addr.c r)) := by
  refine SCall.of Try.func134 rfl rfl rfl rfl fun S0 w0 => ?_
  unfold g_cidr_Mask at hf
  obtain ⟨x1, q1, hf⟩ := bind_some' hf
  rcases br_some hf with ⟨h2, hf⟩ | ⟨h2, hf⟩
  · replace hf := Option.some.inj hf
    subst hf
    exact toEnd_good allOk 8 _ _ [⟨[], [], [], [], [], [], []⟩, ⟨[(1, .r (.one (.lit (.bool x1))) [])], [], [], [], [], [], []⟩, ⟨[], [], [], [], [], [], []⟩] [true] [] [] [] [SCall Try.prog 98 [.agg (T_api_Addr.c a0)] (.one (.lit (.bool x1))), (!x1) = true] (by kernel_rfl) rfl ⟨(g_addr_Right_ok a0 x1 q1), h2, trivial⟩
  · obtain ⟨x2, q3, hf⟩ := bind_some' hf
    rcases br_some hf with ⟨h4, hf⟩ | ⟨h4, hf⟩
    · obtain ⟨x3, q5, hf⟩ := bind_some' hf
      replace hf := Option.some.inj hf
      subst hf
      exact toEnd_good allOk 17 _ _ [⟨[], [], [], [], [], [], []⟩, ⟨[(1, .r (.one (.lit (.bool x1))) [])], [], [], [], [], [], []⟩, ⟨[(3, .r (.one (.lit (.int .i64 x2))) [])], [], [], [], [], [], []⟩, ⟨[], [], [], [], [], [], []⟩, ⟨[(3, .r (.one (.lit (.int .u64 x3))) [])], [], [], [[], [0], [], [2], [3, 2], [1, 0, 4, 3, 2], [0, 1, 2, 3, 4, 5], [6, 0, 1, 2, 3, 4, 5]], [], [], []⟩, ⟨[], [], [], [], [], [], []⟩] [false, true] [] [] [] [SCall Try.prog 98 [.agg (T_api_Addr.c a0)] (.one (.lit (.bool x1))), (!x1) = false, SCall Try.prog 135 [.agg (T_api_Addr.c a0)] (.one (.lit (.int .i64 x2))), (!a0.fV6) = true, SCall Try.prog 152 [.one (.lit (.int .i64 (if x2 < (if (0 : Int) > a1 then (0 : Int) else a1) then x2 else (if (0 : Int) > a1 then (0 : Int) else a1))))] (.one (.lit (.int .u64 x3))), 0 ≤ (32 : Int)] (by kernel_rfl) rfl ⟨(g_addr_Right_ok a0 x1 q1), h2, (g_addr_Bits_ok a0 x2 q3), h4, (g_cidr_top_ok (if x2 < (if (0 : Int) > a1 then (0 : Int) else a1) then x2 else (if (0 : Int) > a1 then (0 : Int) else a1)) x3 q5), (by decide), trivial⟩
    · obtain ⟨x4, q6, hf⟩ := bind_some' hf
      replace hf := Option.some.inj hf
      subst hf
      exact toEnd_good allOk 18 _ _ [⟨[], [], [], [], [], [], []⟩, ⟨[(1, .r (.one (.lit (.bool x1))) [])], [], [], [], [], [], []⟩, ⟨[(3, .r (.one (.lit (.int .i64 x2))) [])], [], [], [], [], [], []⟩, ⟨[], [], [], [], [], [], []⟩, ⟨[(5, .r (.tup [(false, (cI .u64) x4.1), (false, (cI .u64) x4.2)]) [])], [], [], [], [], [], []⟩, ⟨[], [], [], [], [], [], []⟩] [false, false] [] [] [] [SCall Try.prog 98 [.agg (T_api_Addr.c a0)] (.one (.lit (.bool x1))), (!x1) = false, SCall Try.prog 135 [.agg (T_api_Addr.c a0)] (.one (.lit (.int .i64 x2))), (!a0.fV6) = false, SCall Try.prog 153 [.one (.lit (.int .u64 a0.fHi)), .one (.lit (.int .u64 a0.fLo)), .one (.lit (.int .i64 (if x2 < (if (0 : Int) > a1 then (0 : Int) else a1) then x2 else (if (0 : Int) > a1 then (0 : Int) else a1))))] (.tup [(false, (cI .u64) x4.1), (false, (cI .u64) x4.2)])] (by kernel_rfl) rfl ⟨(g_addr_Right_ok a0 x1 q1), h2, (g_addr_Bits_ok a0 x2 q3), h4, (g_cidr_masked_ok a0.fHi a0.fLo (if x2 < (if (0 : Int) > a1 then (0 : Int) else a1) then x2 else (if (0 : Int) > a1 then (0 : Int) else a1)) x4 q6), trivial⟩

/-- doorman/cidr.Make -/
def g_cidr_Make (a0 : T_api_Addr) (a1 : Int) : Option (T_api_Net × Bool) :=
  (g_addr_Right a0).bind fun x1 =>
  bif (!x1) then
    some ((T_api_Net.mk (T_api_Addr.mk false (0 : Int) (0 : Int)) (0 : Int)), false)
  else
    bif (decide (a1 < (0 : Int))) then
      some ((T_api_Net.mk (T_api_Addr.mk false (0 : Int) (0 : Int)) (0 : Int)), false)
    else
      (g_addr_Bits a0).bind fun x2 =>
      bif (decide (a1 > x2)) then
        some ((T_api_Net.mk (T_api_Addr.mk false (0 : Int) (0 : Int)) (0 : Int)), false)
      else
        (g_cidr_Mask a0 a1).bind fun x3 =>
        some ((T_api_Net.mk x3 a1), true)

theorem g_cidr_Make_ok (a0 : T_api_Addr) (a1 : Int) (r : (T_api_Net × Bool)) (hf : g_cidr_Make a0 a1 = some r) : SCall Try.prog 131 [.agg (T_api_Addr.c a0), .one (.lit (.int .i64 a1))] (.tup [(true, T_api_Net.c r.1), (false, cB r.2)]) := by
  refine SCall.of Try.func131 rfl rfl rfl rfl fun S0 w0 => ?_
  unfold g_cidr_Make at hf
  obtain ⟨x1, q1, hf⟩ := bind_some' hf
  rcases br_some hf with ⟨h2, hf⟩ | ⟨h2, hf⟩
  · replace hf := Option.some.inj hf
    subst hf
    exact toEnd_good allOk 8 _ _ [⟨[], [], [], [], [], [], []⟩, ⟨[(1, .r (.one (.lit (.bool x1))) [])], [(3, true)], [], [], [], [], []⟩, ⟨[], [], [], [], [], [], []⟩] [true] [] [] [] [SCall Try.prog 98 [.agg (T_api_Addr.c a0)] (.one (.lit (.bool x1))), (!x1) = true, true = true] (by kernel_rfl) rfl ⟨(g_addr_Right_ok a0 x1 q1), h2, rfl, trivial⟩
  · rcases br_some hf with ⟨h3, hf⟩ | ⟨h3, hf⟩
    · replace hf := Option.some.inj hf
      subst hf
      exact toEnd_good allOk 8 _ _ [⟨[], [], [], [], [], [], []⟩, ⟨[(1, .r (.one (.lit (.bool x1))) [])], [(3, false), (7, true)], [], [], [], [], []⟩, ⟨[], [], [], [], [], [], []⟩] [true] [] [] [] [SCall Try.prog 98 [.agg (T_api_Addr.c a0)] (.one (.lit (.bool x1))), (!x1) = false, (decide (a1 < (0 : Int))) = true, true = true] (by kernel_rfl) rfl ⟨(g_addr_Right_ok a0 x1 q1), h2, h3, rfl, trivial⟩
    · obtain ⟨x2, q4, hf⟩ := bind_some' hf
      rcases br_some hf with ⟨h5, hf⟩ | ⟨h5, hf⟩
      · replace hf := Option.some.inj hf
        subst hf
        exact toEnd_good allOk 8 _ _ [⟨[], [], [], [], [], [], []⟩, ⟨[(1, .r (.one (.lit (.bool x1))) []), (10, .r (.one (.lit (.int .i64 x2))) [])], [(3, false), (7, false)], [], [], [], [], []⟩, ⟨[], [], [], [], [], [], []⟩] [true] [] [] [] [SCall Try.prog 98 [.agg (T_api_Addr.c a0)] (.one (.lit (.bool x1))), (!x1) = false, (decide (a1 < (0 : Int))) = false, SCall Try.prog 135 [.agg (T_api_Addr.c a0)] (.one (.lit (.int .i64 x2))), (decide (a1 > x2)) = true] (by kernel_rfl) rfl ⟨(g_addr_Right_ok a0 x1 q1), h2, h3, (g_addr_Bits_ok a0 x2 q4), h5, trivial⟩
      · obtain ⟨x3, q6, hf⟩ := bind_some' hf
        replace hf := Option.some.inj hf
        subst hf
        exact toEnd_good allOk 9 _ _ [⟨[], [], [], [], [], [], []⟩, ⟨[(1, .r (.one (.lit (.bool x1))) []), (10, .r (.one (.lit (.int .i64 x2))) [])], [(3, false), (7, false)], [], [], [], [], []⟩, ⟨[(2, .r (.agg (T_api_Addr.c x3)) [])], [], [], [], [], [], []⟩] [false] [] [] [] [SCall Try.prog 98 [.agg (T_api_Addr.c a0)] (.one (.lit (.bool x1))), (!x1) = false, (decide (a1 < (0 : Int))) = false, SCall Try.prog 135 [.agg (T_api_Addr.c a0)] (.one (.lit (.int .i64 x2))), (decide (a1 > x2)) = false, SCall Try.prog 134 [.agg (T_api_Addr.c a0), .one (.lit (.int .i64 a1))] (.agg (T_api_Addr.c x3))] (by kernel_rfl) rfl ⟨(g_addr_Right_ok a0 x1 q1), h2, h3, (g_addr_Bits_ok a0 x2 q4), h5, (g_cidr_Mask_ok a0 a1 x3 q6), trivial⟩

/-- doorman/cidr.Right -/
def g_cidr_Right (a0 : T_api_Net) : Option Bool :=
  (g_cidr_Make a0.fAddr a0.fBits).bind fun x1 =>
  bif x1.2 then
    some (decide (x1.1 = a0))
  else
    some false

theorem g_cidr_Right_ok (a0 : T_api_Net) (r : Bool) (hf : g_cidr_Right a0 = some r) : SCall Try.prog 93 [.agg (T_api_Net.c a0)] (.one (.lit (.bool r))) := by
  refine SCall.of Try.func93 rfl rfl rfl rfl fun S0 w0 => ?_
  unfold g_cidr_Right at hf
  obtain ⟨x1, q1, hf⟩ := bind_some' hf
  rcases br_some hf with ⟨h2, hf⟩ | ⟨h2, hf⟩
  · replace hf := Option.some.inj hf
    subst hf
    exact toEnd_good allOk 6 _ _ [⟨[], [], [], [], [], [], []⟩, ⟨[(4, .r (.tup [(true, T_api_Net.c x1.1), (false, cB x1.2)]) [])], [], [], [], [], [], []⟩, ⟨[(4, .r (.one (.lit (.bool (decide (x1.1 = a0))))) [])], [(1, true)], [], [], [], [], []⟩] [] [] [] [] [SCall Try.prog 131 [.agg (T_api_Addr.c a0.fAddr), .one (.lit (.int .i64 a0.fBits))] (.tup [(true, T_api_Net.c x1.1), (false, cB x1.2)]), x1.2 = true, ∀ w, (do eqGuard .eql 81 (.tmp 15) (.tmp 16) (.agg #[.bool x1.1.fAddr.fV6, .int .u64 x1.1.fAddr.fHi, .int .u64 x1.1.fAddr.fLo, .int .i64 x1.1.fBits]) (.agg #[.bool a0.fAddr.fV6, .int .u64 a0.fAddr.fHi, .int .u64 a0.fAddr.fLo, .int .i64 a0.fBits]); binOp .eql 81 (.agg #[.bool x1.1.fAddr.fV6, .int .u64 x1.1.fAddr.fHi, .int .u64 x1.1.fAddr.fLo, .int .i64 x1.1.fBits]) (.agg #[.bool a0.fAddr.fV6, .int .u64 a0.fAddr.fHi, .int .u64 a0.fAddr.fLo, .int .i64 a0.fBits]) : Sem Value).run Try.prog w = .ok (.bool (decide (x1.1 = a0))) w] (by kernel_rfl) rfl ⟨(g_cidr_Make_ok a0.fAddr a0.fBits x1 q1), h2, (eql_T_api_Net x1.1 a0 _ _), trivial⟩
  · replace hf := Option.some.inj hf
    subst hf
    exact toEnd_good allOk 6 _ _ [⟨[], [], [], [], [], [], []⟩, ⟨[(4, .r (.tup [(true, T_api_Net.c x1.1), (false, cB x1.2)]) [])], [], [], [], [], [], []⟩, ⟨[], [(1, false)], [], [], [], [], []⟩] [] [] [] [] [SCall Try.prog 131 [.agg (T_api_Addr.c a0.fAddr), .one (.lit (.int .i64 a0.fBits))] (.tup [(true, T_api_Net.c x1.1), (false, cB x1.2)]), x1.2 = false] (by kernel_rfl) rfl ⟨(g_cidr_Make_ok a0.fAddr a0.fBits x1 q1), h2, trivial⟩

/-- doorman/trie.family -/
def g_trie_family (a0 : T_api_Addr) : Option Int :=
  bif a0.fV6 then
    some (1 : Int)
  else
    some (0 : Int)

theorem g_trie_family_ok (a0 : T_api_Addr) (r : Int) (hf : g_trie_family a0 = some r) : SCall Try.prog 94 [.agg (T_api_Addr.c a0)] (.one (.lit (.int .i64 r))) := by
  refine SCall.of Try.func94 rfl rfl rfl rfl fun S0 w0 => ?_
  unfold g_trie_family at hf
  rcases br_some hf with ⟨h1, hf⟩ | ⟨h1, hf⟩
  · replace hf := Option.some.inj hf
    subst hf
    exact toEnd_good allOk 8 _ _ [⟨[], [], [], [], [], [], []⟩, ⟨[], [], [], [], [], [], []⟩, ⟨[], [], [], [], [], [], []⟩] [true] [] [] [] [a0.fV6 = true] (by kernel_rfl) rfl ⟨h1, trivial⟩
  · replace hf := Option.some.inj hf
    subst hf
    exact toEnd_good allOk 9 _ _ [⟨[], [], [], [], [], [], []⟩, ⟨[], [], [], [], [], [], []⟩, ⟨[], [], [], [], [], [], []⟩] [false] [] [] [] [a0.fV6 = false] (by kernel_rfl) rfl ⟨h1, trivial⟩

/-- doorman/addr.Bit -/
def g_addr_Bit (a0 : T_api_Addr) (a1 : Int) : Option Int :=
  (g_addr_Bits a0).bind fun x1 =>
  bif (decide (a1 < (0 : Int))) then
    some (0 : Int)
  else
    bif (decide (a1 ≥ x1)) then
      some (0 : Int)
    else
      bif (decide ((sub64 (sub64 x1 (1 : Int)) a1) ≥ (64 : Int))) then
        need (0 ≤ (sub64 (sub64 (sub64 x1 (1 : Int)) a1) (64 : Int))) <|
        some (IntKind.wrap .i64 (IntKind.wrap .u64 (((BitVec.ofInt (IntKind.bits .u64) (Int.fdiv a0.fHi (2 ^ (min (sub64 (sub64 (sub64 x1 (1 : Int)) a1) (64 : Int)).toNat (IntKind.bits .u64))))) &&& (BitVec.ofInt (IntKind.bits .u64) (1 : Int))).toNat : Int)))
      else
        need (0 ≤ (sub64 (sub64 x1 (1 : Int)) a1)) <|
        some (IntKind.wrap .i64 (IntKind.wrap .u64 (((BitVec.ofInt (IntKind.bits .u64) (Int.fdiv a0.fLo (2 ^ (min (sub64 (sub64 x1 (1 : Int)) a1).toNat (IntKind.bits .u64))))) &&& (BitVec.ofInt (IntKind.bits .u64) (1 : Int))).toNat : Int)))

theorem g_addr_Bit_ok (a0 : T_api_Addr) (a1 : Int) (r : Int) (hf : g_addr_Bit a0 a1 = some r) : SCall Try.prog 100 [.agg (T_api_Addr.c a0), .one (.lit (.int .i64 a1))] (.one (.lit (.int .i64 r))) := by
  refine SCall.of Try.func100 rfl rfl rfl rfl fun S0 w0 => ?_
  unfold g_addr_Bit at hf
  obtain ⟨x1, q1, hf⟩ := bind_some' hf
  rcases br_some hf with ⟨h2, hf⟩ | ⟨h2, hf⟩
  · replace hf := Option.some.inj hf
    subst hf
    exact toEnd_good allOk 10 _ _ [⟨[], [], [], [], [], [], []⟩, ⟨[(1, .r (.one (.lit (.int .i64 x1))) [])], [], [], [], [], [], []⟩, ⟨[], [(2, true)], [], [], [], [], []⟩, ⟨[], [], [], [], [], [], []⟩] [true] [] [] [] [SCall Try.prog 135 [.agg (T_api_Addr.c a0)] (.one (.lit (.int .i64 x1))), (decide (a1 < (0 : Int))) = true, true = true] (by kernel_rfl) rfl ⟨(g_addr_Bits_ok a0 x1 q1), h2, rfl, trivial⟩
  · rcases br_some hf with ⟨h3, hf⟩ | ⟨h3, hf⟩
    · replace hf := Option.some.inj hf
      subst hf
      exact toEnd_good allOk 10 _ _ [⟨[], [], [], [], [], [], []⟩, ⟨[(1, .r (.one (.lit (.int .i64 x1))) [])], [], [], [], [], [], []⟩, ⟨[], [(2, false)], [], [], [], [], []⟩, ⟨[], [], [], [], [], [], []⟩] [true] [] [] [] [SCall Try.prog 135 [.agg (T_api_Addr.c a0)] (.one (.lit (.int .i64 x1))), (decide (a1 < (0 : Int))) = false, (decide (a1 ≥ x1)) = true] (by kernel_rfl) rfl ⟨(g_addr_Bits_ok a0 x1 q1), h2, h3, trivial⟩
    · rcases br_some hf with ⟨h4, hf⟩ | ⟨h4, hf⟩
      · obtain ⟨o5, hf⟩ := need_some hf
        replace hf := Option.some.inj hf
        subst hf
        exact toEnd_good allOk 17 _ _ [⟨[], [], [], [], [], [], []⟩, ⟨[(1, .r (.one (.lit (.int .i64 x1))) [])], [], [], [], [], [], []⟩, ⟨[], [(2, false)], [], [], [], [], []⟩, ⟨[], [], [], [], [], [], []⟩, ⟨[], [], [], [], [], [], []⟩, ⟨[], [], [], [], [], [], []⟩] [false, true] [] [] [] [SCall Try.prog 135 [.agg (T_api_Addr.c a0)] (.one (.lit (.int .i64 x1))), (decide (a1 < (0 : Int))) = false, (decide (a1 ≥ x1)) = false, (decide ((sub64 (sub64 x1 (1 : Int)) a1) ≥ (64 : Int))) = true, 0 ≤ (sub64 (sub64 (sub64 x1 (1 : Int)) a1) (64 : Int))] (by kernel_rfl) rfl ⟨(g_addr_Bits_ok a0 x1 q1), h2, h3, h4, o5, trivial⟩
      · obtain ⟨o6, hf⟩ := need_some hf
        replace hf := Option.some.inj hf
        subst hf
        exact toEnd_good allOk 18 _ _ [⟨[], [], [], [], [], [], []⟩, ⟨[(1, .r (.one (.lit (.int .i64 x1))) [])], [], [], [], [], [], []⟩, ⟨[], [(2, false)], [], [], [], [], []⟩, ⟨[], [], [], [], [], [], []⟩, ⟨[], [], [], [], [], [], []⟩, ⟨[], [], [], [], [], [], []⟩] [false, false] [] [] [] [SCall Try.prog 135 [.agg (T_api_Addr.c a0)] (.one (.lit (.int .i64 x1))), (decide (a1 < (0 : Int))) = false, (decide (a1 ≥ x1)) = false, (decide ((sub64 (sub64 x1 (1 : Int)) a1) ≥ (64 : Int))) = false, 0 ≤ (sub64 (sub64 x1 (1 : Int)) a1)] (by kernel_rfl) rfl ⟨(g_addr_Bits_ok a0 x1 q1), h2, h3, h4, o6, trivial⟩

/-- doorman/trie.bit -/
def g_trie_bit (a0 : T_api_Net) (a1 : Int) : Option Int :=
  (g_addr_Bit a0.fAddr a1).bind fun x1 =>
  some x1

theorem g_trie_bit_ok (a0 : T_api_Net) (a1 : Int) (r : Int) (hf : g_trie_bit a0 a1 = some r) : SCall Try.prog 95 [.agg (T_api_Net.c a0), .one (.lit (.int .i64 a1))] (.one (.lit (.int .i64 r))) := by
  refine SCall.of Try.func95 rfl rfl rfl rfl fun S0 w0 => ?_
  unfold g_trie_bit at hf
  obtain ⟨x1, q1, hf⟩ := bind_some' hf
  replace hf := Option.some.inj hf
  subst hf
  exact toEnd_good allOk 4 _ _ [⟨[], [], [], [], [], [], []⟩, ⟨[(3, .r (.one (.lit (.int .i64 x1))) [])], [], [], [], [], [], []⟩] [] [] [] [] [SCall Try.prog 100 [.agg (T_api_Addr.c a0.fAddr), .one (.lit (.int .i64 a1))] (.one (.lit (.int .i64 x1)))] (by kernel_rfl) rfl ⟨(g_addr_Bit_ok a0.fAddr a1 x1 q1), trivial⟩

def g_trie_Trie_Get_c0   : Nat → N_trie_node → T_api_Net → Option (Int × Bool)
  | 0, _, _ => none
  | fu + 1, v6, b3 =>
    (match v6 with
    | .nil =>
      some ((0 : Int), false)
    | .mk p4_0 p4_1 p4_2 p4_3 =>
      bif (decide (p4_0.fNet.fBits < b3.fBits)) then
        (g_trie_bit b3 p4_0.fNet.fBits).bind fun x5 =>
        need (0 ≤ x5 ∧ x5 < ((2 : Nat) : Int)) <|
        ix2 x5 (
          g_trie_Trie_Get_c0   fu p4_2 b3) (
          g_trie_Trie_Get_c0   fu p4_3 b3)
      else
        bif (!p4_1) then
          some ((0 : Int), false)
        else
          bif (!(decide (p4_0.fNet = b3))) then
            some ((0 : Int), false)
          else
            some (p4_0.fV, true))

theorem g_trie_Trie_Get_c0_ok (S0 : Nat → Prop) (w0 : Start)   : ∀ (fu : Nat) (v6 : N_trie_node) (b3 : T_api_Net) (r : (Int × Bool)), g_trie_Trie_Get_c0   fu v6 b3 = some r → Good Try.prog 71 S0 w0 (bodyPost Try.prog Try.f43 (Post S0 w0 (.tup [(false, (cI .i64) r.1), (false, cB r.2)]))) (at_ [1, 1, 1, 0, 0] (bodyOf Try.f43)) ⟨[(3, .one (.ptr 3 0)), (6, .one (N_trie_node.c v6))], [(3, .box [.lit (.bool b3.fAddr.fV6), .lit (.int .u64 b3.fAddr.fHi), .lit (.int .u64 b3.fAddr.fLo), .lit (.int .i64 b3.fBits)])]⟩ := by
  intro fu
  induction fu with
  | zero =>
    intro v6 b3 r hf
    simp [g_trie_Trie_Get_c0] at hf
  | succ fu ih =>
    intro v6 b3 r hf
    unfold g_trie_Trie_Get_c0 at hf
    cases v6 with
    | nil =>
      dsimp only at hf
      replace hf := Option.some.inj hf
      subst hf
      exact toEnd_good allOk 12 _ _ [⟨[], [], [], [[], [0], [1, 0], [2, 1, 0], [3, 2, 1, 0], [4, 3, 2, 1, 0], [5, 4, 3, 2, 1, 0], [6, 5, 4, 3, 2, 1, 0], [7, 6, 5, 4, 3, 2, 1, 0], [2, 1, 0], [9, 2, 1, 0], [8, 7, 6, 5, 4, 3, 2, 1, 0, 10, 9], [2, 1, 0, 11, 8, 7, 6, 5, 4, 3, 10, 9]], [], [], []⟩, ⟨[], [], [], [[], [0], [1, 0], [2, 1, 0], [3, 2, 1, 0], [4, 3, 2, 1, 0], [5, 4, 3, 2, 1, 0], [6, 5, 4, 3, 2, 1, 0], [2, 1, 0, 7, 6, 5, 4, 3], [8, 2, 1, 0, 7, 6, 5, 4, 3], [9, 8, 2, 1, 0, 7, 6, 5, 4, 3], [10, 9, 8, 2, 1, 0, 7, 6, 5, 4, 3], [11, 10, 9, 8, 2, 1, 0, 7, 6, 5, 4, 3], [12, 11, 10, 9, 8, 2, 1, 0, 7, 6, 5, 4, 3], [13, 12, 11, 10, 9, 8, 2, 1, 0, 7, 6, 5, 4, 3], [9, 8, 2, 1, 0, 7, 6, 5, 4, 3], [14, 13, 12, 11, 10, 9, 8, 2, 1, 0, 7, 6, 5, 4, 3, 15], [9, 8, 2, 1, 0, 7, 6, 5, 4, 3, 16, 14, 13, 12, 11, 10, 15]], [], [], []⟩, ⟨[], [], [], [], [], [], []⟩] [false, true] [] [] [] [false = false, true = true] (by kernel_rfl) rfl ⟨rfl, rfl, trivial⟩
    | mk p4_0 p4_1 p4_2 p4_3 =>
      dsimp only at hf
      rcases br_some hf with ⟨h5, hf⟩ | ⟨h5, hf⟩
      · obtain ⟨x5, q6, hf⟩ := bind_some' hf
        obtain ⟨o7, hf⟩ := need_some hf
        rcases ix2_some o7 hf with ⟨e, hf⟩ | ⟨e, hf⟩
        · subst e
          exact toK_good allOk Post.ends 10 _ _ _ _ [⟨[], [], [], [[], [0], [1, 0], [2, 1, 0], [3, 2, 1, 0], [4, 3, 2, 1, 0], [5, 4, 3, 2, 1, 0], [6, 5, 4, 3, 2, 1, 0], [7, 6, 5, 4, 3, 2, 1, 0], [2, 1, 0], [9, 2, 1, 0], [8, 7, 6, 5, 4, 3, 2, 1, 0, 10, 9], [2, 1, 0, 11, 8, 7, 6, 5, 4, 3, 10, 9]], [], [], []⟩, ⟨[(8, .r (.one (.lit (.int .i64 (0 : Int)))) [])], [], [], [[], [], [], [2], [3, 2], [4, 3, 2], [5, 4, 3, 2], [6, 5, 4, 3, 2], [1, 7, 6, 5, 4, 3, 2], [0], [9, 0], [10, 9, 0, 8, 1, 7, 6, 5, 4, 3, 2], [11, 10, 9, 0, 8, 1, 7, 6, 5, 4, 3, 2], [12, 11, 10, 9, 0, 8, 1, 7, 6, 5, 4, 3, 2]], [], [], []⟩] [true] ⟨[], [], [], [], [], [3, 6], [3], []⟩ [(decide (p4_0.fNet.fBits < b3.fBits)) = true, SCall Try.prog 95 [.agg (T_api_Net.c b3), .one (.lit (.int .i64 p4_0.fNet.fBits))] (.one (.lit (.int .i64 (0 : Int)))), 0 ≤ (0 : Int) ∧ (0 : Int) < ((2 : Nat) : Int)] (by kernel_rfl) ⟨h5, (g_trie_bit_ok b3 p4_0.fNet.fBits (0 : Int) q6), (by decide), trivial⟩ (ih p4_2 b3 r hf)
        · subst e
          exact toK_good allOk Post.ends 10 _ _ _ _ [⟨[], [], [], [[], [0], [1, 0], [2, 1, 0], [3, 2, 1, 0], [4, 3, 2, 1, 0], [5, 4, 3, 2, 1, 0], [6, 5, 4, 3, 2, 1, 0], [7, 6, 5, 4, 3, 2, 1, 0], [2, 1, 0], [9, 2, 1, 0], [8, 7, 6, 5, 4, 3, 2, 1, 0, 10, 9], [2, 1, 0, 11, 8, 7, 6, 5, 4, 3, 10, 9]], [], [], []⟩, ⟨[(8, .r (.one (.lit (.int .i64 (1 : Int)))) [])], [], [], [[], [], [], [2], [3, 2], [4, 3, 2], [5, 4, 3, 2], [6, 5, 4, 3, 2], [1, 7, 6, 5, 4, 3, 2], [0], [9, 0], [10, 9, 0, 8, 1, 7, 6, 5, 4, 3, 2], [11, 10, 9, 0, 8, 1, 7, 6, 5, 4, 3, 2], [12, 11, 10, 9, 0, 8, 1, 7, 6, 5, 4, 3, 2]], [], [], []⟩] [true] ⟨[], [], [], [], [], [3, 6], [3], []⟩ [(decide (p4_0.fNet.fBits < b3.fBits)) = true, SCall Try.prog 95 [.agg (T_api_Net.c b3), .one (.lit (.int .i64 p4_0.fNet.fBits))] (.one (.lit (.int .i64 (1 : Int)))), 0 ≤ (1 : Int) ∧ (1 : Int) < ((2 : Nat) : Int)] (by kernel_rfl) ⟨h5, (g_trie_bit_ok b3 p4_0.fNet.fBits (1 : Int) q6), (by decide), trivial⟩ (ih p4_3 b3 r hf)
      · rcases br_some hf with ⟨h8, hf⟩ | ⟨h8, hf⟩
        · replace hf := Option.some.inj hf
          subst hf
          exact toEnd_good allOk 12 _ _ [⟨[], [], [], [[], [0], [1, 0], [2, 1, 0], [3, 2, 1, 0], [4, 3, 2, 1, 0], [5, 4, 3, 2, 1, 0], [6, 5, 4, 3, 2, 1, 0], [7, 6, 5, 4, 3, 2, 1, 0], [2, 1, 0], [9, 2, 1, 0], [8, 7, 6, 5, 4, 3, 2, 1, 0, 10, 9], [2, 1, 0, 11, 8, 7, 6, 5, 4, 3, 10, 9]], [], [], []⟩, ⟨[], [(9, true)], [], [[], [0], [1, 0], [2, 1, 0], [3, 2, 1, 0], [4, 3, 2, 1, 0], [5, 4, 3, 2, 1, 0], [6, 5, 4, 3, 2, 1, 0], [2, 1, 0, 7, 6, 5, 4, 3], [8, 2, 1, 0, 7, 6, 5, 4, 3], [9, 8, 2, 1, 0, 7, 6, 5, 4, 3], [10, 9, 8, 2, 1, 0, 7, 6, 5, 4, 3], [11, 10, 9, 8, 2, 1, 0, 7, 6, 5, 4, 3], [12, 11, 10, 9, 8, 2, 1, 0, 7, 6, 5, 4, 3], [13, 12, 11, 10, 9, 8, 2, 1, 0, 7, 6, 5, 4, 3], [9, 8, 2, 1, 0, 7, 6, 5, 4, 3], [14, 13, 12, 11, 10, 9, 8, 2, 1, 0, 7, 6, 5, 4, 3, 15], [9, 8, 2, 1, 0, 7, 6, 5, 4, 3, 16, 14, 13, 12, 11, 10, 15]], [], [], []⟩, ⟨[], [], [], [], [], [], []⟩] [false, true] [] [] [] [(decide (p4_0.fNet.fBits < b3.fBits)) = false, (!p4_1) = true, true = true] (by kernel_rfl) rfl ⟨h5, h8, rfl, trivial⟩
        · rcases br_some hf with ⟨h9, hf⟩ | ⟨h9, hf⟩
          · replace hf := Option.some.inj hf
            subst hf
            exact toEnd_good allOk 12 _ _ [⟨[], [], [], [[], [0], [1, 0], [2, 1, 0], [3, 2, 1, 0], [4, 3, 2, 1, 0], [5, 4, 3, 2, 1, 0], [6, 5, 4, 3, 2, 1, 0], [7, 6, 5, 4, 3, 2, 1, 0], [2, 1, 0], [9, 2, 1, 0], [8, 7, 6, 5, 4, 3, 2, 1, 0, 10, 9], [2, 1, 0, 11, 8, 7, 6, 5, 4, 3, 10, 9]], [], [], []⟩, ⟨[(16, .r (.one (.lit (.bool (!(decide (p4_0.fNet = b3)))))) [])], [(9, false)], [], [[], [0], [1, 0], [2, 1, 0], [3, 2, 1, 0], [4, 3, 2, 1, 0], [5, 4, 3, 2, 1, 0], [6, 5, 4, 3, 2, 1, 0], [2, 1, 0, 7, 6, 5, 4, 3], [8, 2, 1, 0, 7, 6, 5, 4, 3], [9, 8, 2, 1, 0, 7, 6, 5, 4, 3], [10, 9, 8, 2, 1, 0, 7, 6, 5, 4, 3], [11, 10, 9, 8, 2, 1, 0, 7, 6, 5, 4, 3], [12, 11, 10, 9, 8, 2, 1, 0, 7, 6, 5, 4, 3], [13, 12, 11, 10, 9, 8, 2, 1, 0, 7, 6, 5, 4, 3], [9, 8, 2, 1, 0, 7, 6, 5, 4, 3], [14, 13, 12, 11, 10, 9, 8, 2, 1, 0, 7, 6, 5, 4, 3, 15], [9, 8, 2, 1, 0, 7, 6, 5, 4, 3, 16, 14, 13, 12, 11, 10, 15]], [], [], []⟩, ⟨[], [], [], [], [], [], []⟩] [false, true] [] [] [] [(decide (p4_0.fNet.fBits < b3.fBits)) = false, (!p4_1) = false, ∀ w, (do eqGuard .neq 81 (.tmp 62) (.tmp 63) (.agg #[.bool p4_0.fNet.fAddr.fV6, .int .u64 p4_0.fNet.fAddr.fHi, .int .u64 p4_0.fNet.fAddr.fLo, .int .i64 p4_0.fNet.fBits]) (.agg #[.bool b3.fAddr.fV6, .int .u64 b3.fAddr.fHi, .int .u64 b3.fAddr.fLo, .int .i64 b3.fBits]); binOp .neq 81 (.agg #[.bool p4_0.fNet.fAddr.fV6, .int .u64 p4_0.fNet.fAddr.fHi, .int .u64 p4_0.fNet.fAddr.fLo, .int .i64 p4_0.fNet.fBits]) (.agg #[.bool b3.fAddr.fV6, .int .u64 b3.fAddr.fHi, .int .u64 b3.fAddr.fLo, .int .i64 b3.fBits]) : Sem Value).run Try.prog w = .ok (.bool (!(decide (p4_0.fNet = b3)))) w, (!(decide (p4_0.fNet = b3))) = true] (by kernel_rfl) rfl ⟨h5, h8, (neq_T_api_Net p4_0.fNet b3 _ _), h9, trivial⟩
          · replace hf := Option.some.inj hf
            subst hf
            exact toEnd_good allOk 13 _ _ [⟨[], [], [], [[], [0], [1, 0], [2, 1, 0], [3, 2, 1, 0], [4, 3, 2, 1, 0], [5, 4, 3, 2, 1, 0], [6, 5, 4, 3, 2, 1, 0], [7, 6, 5, 4, 3, 2, 1, 0], [2, 1, 0], [9, 2, 1, 0], [8, 7, 6, 5, 4, 3, 2, 1, 0, 10, 9], [2, 1, 0, 11, 8, 7, 6, 5, 4, 3, 10, 9]], [], [], []⟩, ⟨[(16, .r (.one (.lit (.bool (!(decide (p4_0.fNet = b3)))))) [])], [(9, false)], [], [[], [0], [1, 0], [2, 1, 0], [3, 2, 1, 0], [4, 3, 2, 1, 0], [5, 4, 3, 2, 1, 0], [6, 5, 4, 3, 2, 1, 0], [2, 1, 0, 7, 6, 5, 4, 3], [8, 2, 1, 0, 7, 6, 5, 4, 3], [9, 8, 2, 1, 0, 7, 6, 5, 4, 3], [10, 9, 8, 2, 1, 0, 7, 6, 5, 4, 3], [11, 10, 9, 8, 2, 1, 0, 7, 6, 5, 4, 3], [12, 11, 10, 9, 8, 2, 1, 0, 7, 6, 5, 4, 3], [13, 12, 11, 10, 9, 8, 2, 1, 0, 7, 6, 5, 4, 3], [9, 8, 2, 1, 0, 7, 6, 5, 4, 3], [14, 13, 12, 11, 10, 9, 8, 2, 1, 0, 7, 6, 5, 4, 3, 15], [9, 8, 2, 1, 0, 7, 6, 5, 4, 3, 16, 14, 13, 12, 11, 10, 15]], [], [], []⟩, ⟨[], [], [], [], [], [], []⟩] [false, false] [] [] [] [(decide (p4_0.fNet.fBits < b3.fBits)) = false, (!p4_1) = false, ∀ w, (do eqGuard .neq 81 (.tmp 62) (.tmp 63) (.agg #[.bool p4_0.fNet.fAddr.fV6, .int .u64 p4_0.fNet.fAddr.fHi, .int .u64 p4_0.fNet.fAddr.fLo, .int .i64 p4_0.fNet.fBits]) (.agg #[.bool b3.fAddr.fV6, .int .u64 b3.fAddr.fHi, .int .u64 b3.fAddr.fLo, .int .i64 b3.fBits]); binOp .neq 81 (.agg #[.bool p4_0.fNet.fAddr.fV6, .int .u64 p4_0.fNet.fAddr.fHi, .int .u64 p4_0.fNet.fAddr.fLo, .int .i64 p4_0.fNet.fBits]) (.agg #[.bool b3.fAddr.fV6, .int .u64 b3.fAddr.fHi, .int .u64 b3.fAddr.fLo, .int .i64 b3.fBits]) : Sem Value).run Try.prog w = .ok (.bool (!(decide (p4_0.fNet = b3)))) w, (!(decide (p4_0.fNet = b3))) = false] (by kernel_rfl) rfl ⟨h5, h8, (neq_T_api_Net p4_0.fNet b3 _ _), h9, trivial⟩

/-- (*doorman/trie.Trie).Get -/
def g_trie_Trie_Get (a0 : N_trie_Trie) (a1 : T_api_Net) : Option (Int × Bool) :=
  (match a0 with
  | .nil =>
    some ((0 : Int), false)
  | .mk p1_0 p1_1 p1_2 =>
    (g_cidr_Right a1).bind fun x2 =>
    bif (!x2) then
      some ((0 : Int), false)
    else
      (g_trie_family a1.fAddr).bind fun x3 =>
      need (0 ≤ x3 ∧ x3 < ((2 : Nat) : Int)) <|
      ix2 x3 (
        g_trie_Trie_Get_c0   1000000 p1_0 a1) (
        g_trie_Trie_Get_c0   1000000 p1_1 a1))

theorem g_trie_Trie_Get_ok (a0 : N_trie_Trie) (a1 : T_api_Net) (r : (Int × Bool)) (hf : g_trie_Trie_Get a0 a1 = some r) : SCall Try.prog 43 [.one (N_trie_Trie.c a0), .agg (T_api_Net.c a1)] (.tup [(false, (cI .i64) r.1), (false, cB r.2)]) := by
  refine SCall.of Try.func43 rfl rfl rfl rfl fun S0 w0 => ?_
  unfold g_trie_Trie_Get at hf
  cases a0 with
  | nil =>
    dsimp only at hf
    replace hf := Option.some.inj hf
    subst hf
    exact toEnd_good allOk 8 _ _ [⟨[], [], [], [], [], [], []⟩, ⟨[], [], [], [], [], [], []⟩, ⟨[], [], [], [], [], [], []⟩] [true] [] [] [] [true = true] (by kernel_rfl) rfl ⟨rfl, trivial⟩
  | mk p1_0 p1_1 p1_2 =>
    dsimp only at hf
    obtain ⟨x2, q1, hf⟩ := bind_some' hf
    rcases br_some hf with ⟨h2, hf⟩ | ⟨h2, hf⟩
    · replace hf := Option.some.inj hf
      subst hf
      exact toEnd_good allOk 8 _ _ [⟨[], [], [], [], [], [], []⟩, ⟨[(4, .r (.one (.lit (.bool x2))) [])], [], [], [], [], [], []⟩, ⟨[], [], [], [], [], [], []⟩] [true] [] [] [] [SCall Try.prog 93 [.agg (T_api_Net.c a1)] (.one (.lit (.bool x2))), (!x2) = true] (by kernel_rfl) rfl ⟨(g_cidr_Right_ok a1 x2 q1), h2, trivial⟩
    · obtain ⟨x3, q3, hf⟩ := bind_some' hf
      obtain ⟨o4, hf⟩ := need_some hf
      rcases ix2_some o4 hf with ⟨e, hf⟩ | ⟨e, hf⟩
      · subst e
        exact toK_good allOk Post.ends 11 _ _ _ _ [⟨[], [], [], [], [], [], []⟩, ⟨[(4, .r (.one (.lit (.bool x2))) [])], [], [], [], [], [], []⟩, ⟨[(3, .r (.one (.lit (.int .i64 (0 : Int)))) [])], [], [], [[], [], [1], [2, 1], [0], [4, 0], [5, 4, 0, 3, 2, 1], [6, 5, 4, 0, 3, 2, 1], [7, 6, 5, 4, 0, 3, 2, 1]], [], [], []⟩] [false] ⟨[], [], [], [], [], [3, 6], [3], []⟩ [SCall Try.prog 93 [.agg (T_api_Net.c a1)] (.one (.lit (.bool x2))), (!x2) = false, SCall Try.prog 94 [.agg (T_api_Addr.c a1.fAddr)] (.one (.lit (.int .i64 (0 : Int)))), 0 ≤ (0 : Int) ∧ (0 : Int) < ((2 : Nat) : Int)] (by kernel_rfl) ⟨(g_cidr_Right_ok a1 x2 q1), h2, (g_trie_family_ok a1.fAddr (0 : Int) q3), (by decide), trivial⟩ (g_trie_Trie_Get_c0_ok S0 w0    1000000 p1_0 a1 r hf)
      · subst e
        exact toK_good allOk Post.ends 11 _ _ _ _ [⟨[], [], [], [], [], [], []⟩, ⟨[(4, .r (.one (.lit (.bool x2))) [])], [], [], [], [], [], []⟩, ⟨[(3, .r (.one (.lit (.int .i64 (1 : Int)))) [])], [], [], [[], [], [1], [2, 1], [0], [4, 0], [5, 4, 0, 3, 2, 1], [6, 5, 4, 0, 3, 2, 1], [7, 6, 5, 4, 0, 3, 2, 1]], [], [], []⟩] [false] ⟨[], [], [], [], [], [3, 6], [3], []⟩ [SCall Try.prog 93 [.agg (T_api_Net.c a1)] (.one (.lit (.bool x2))), (!x2) = false, SCall Try.prog 94 [.agg (T_api_Addr.c a1.fAddr)] (.one (.lit (.int .i64 (1 : Int)))), 0 ≤ (1 : Int) ∧ (1 : Int) < ((2 : Nat) : Int)] (by kernel_rfl) ⟨(g_cidr_Right_ok a1 x2 q1), h2, (g_trie_family_ok a1.fAddr (1 : Int) q3), (by decide), trivial⟩ (g_trie_Trie_Get_c0_ok S0 w0    1000000 p1_1 a1 r hf)

def g_math_bits_Len64_c1   (v0 : Int) (v2 : Int) : Option Int :=
  bif (decide (v0 ≥ (256 : Int))) then
    need (0 ≤ (IntKind.wrap .u8 (Int.fdiv v0 (2 ^ (min (8 : Int).toNat (IntKind.bits .u64))))) ∧ (IntKind.wrap .u8 (Int.fdiv v0 (2 ^ (min (8 : Int).toNat (IntKind.bits .u64))))) < (((⟨#[0, 1, 2, 2, 3, 3, 3, 3, 4, 4, 4, 4, 4, 4, 4, 4, 5, 5, 5, 5, 5, 5, 5, 5, 5, 5, 5, 5, 5, 5, 5, 5, 6, 6, 6, 6, 6, 6, 6, 6, 6, 6, 6, 6, 6, 6, 6, 6, 6, 6, 6, 6, 6, 6, 6, 6, 6, 6, 6, 6, 6, 6, 6, 6, 7, 7, 7, 7, 7, 7, 7, 7, 7, 7, 7, 7, 7, 7, 7, 7, 7, 7, 7, 7, 7, 7, 7, 7, 7, 7, 7, 7, 7, 7, 7, 7, 7, 7, 7, 7, 7, 7, 7, 7, 7, 7, 7, 7, 7, 7, 7, 7, 7, 7, 7, 7, 7, 7, 7, 7, 7, 7, 7, 7, 7, 7, 7, 7, 8, 8, 8, 8, 8, 8, 8, 8, 8, 8, 8, 8, 8, 8, 8, 8, 8, 8, 8, 8, 8, 8, 8, 8, 8, 8, 8, 8, 8, 8, 8, 8, 8, 8, 8, 8, 8, 8, 8, 8, 8, 8, 8, 8, 8, 8, 8, 8, 8, 8, 8, 8, 8, 8, 8, 8, 8, 8, 8, 8, 8, 8, 8, 8, 8, 8, 8, 8, 8, 8, 8, 8, 8, 8, 8, 8, 8, 8, 8, 8, 8, 8, 8, 8, 8, 8, 8, 8, 8, 8, 8, 8, 8, 8, 8, 8, 8, 8, 8, 8, 8, 8, 8, 8, 8, 8, 8, 8, 8, 8, 8, 8, 8, 8, 8, 8, 8, 8, 8, 8, 8, 8, 8, 8, 8, 8, 8, 8]⟩ : ByteArray).size : Nat) : Int)) <|
    some (add64 (add64 v2 (8 : Int)) (IntKind.wrap .i64 ((byteAt (⟨#[0, 1, 2, 2, 3, 3, 3, 3, 4, 4, 4, 4, 4, 4, 4, 4, 5, 5, 5, 5, 5, 5, 5, 5, 5, 5, 5, 5, 5, 5, 5, 5, 6, 6, 6, 6, 6, 6, 6, 6, 6, 6, 6, 6, 6, 6, 6, 6, 6, 6, 6, 6, 6, 6, 6, 6, 6, 6, 6, 6, 6, 6, 6, 6, 7, 7, 7, 7, 7, 7, 7, 7, 7, 7, 7, 7, 7, 7, 7, 7, 7, 7, 7, 7, 7, 7, 7, 7, 7, 7, 7, 7, 7, 7, 7, 7, 7, 7, 7, 7, 7, 7, 7, 7, 7, 7, 7, 7, 7, 7, 7, 7, 7, 7, 7, 7, 7, 7, 7, 7, 7, 7, 7, 7, 7, 7, 7, 7, 8, 8, 8, 8, 8, 8, 8, 8, 8, 8, 8, 8, 8, 8, 8, 8, 8, 8, 8, 8, 8, 8, 8, 8, 8, 8, 8, 8, 8, 8, 8, 8, 8, 8, 8, 8, 8, 8, 8, 8, 8, 8, 8, 8, 8, 8, 8, 8, 8, 8, 8, 8, 8, 8, 8, 8, 8, 8, 8, 8, 8, 8, 8, 8, 8, 8, 8, 8, 8, 8, 8, 8, 8, 8, 8, 8, 8, 8, 8, 8, 8, 8, 8, 8, 8, 8, 8, 8, 8, 8, 8, 8, 8, 8, 8, 8, 8, 8, 8, 8, 8, 8, 8, 8, 8, 8, 8, 8, 8, 8, 8, 8, 8, 8, 8, 8, 8, 8, 8, 8, 8, 8, 8, 8, 8, 8, 8, 8]⟩ : ByteArray) (IntKind.wrap .u8 (Int.fdiv v0 (2 ^ (min (8 : Int).toNat (IntKind.bits .u64))))).toNat : Nat) : Int)))
  else
    need (0 ≤ (IntKind.wrap .u8 v0) ∧ (IntKind.wrap .u8 v0) < (((⟨#[0, 1, 2, 2, 3, 3, 3, 3, 4, 4, 4, 4, 4, 4, 4, 4, 5, 5, 5, 5, 5, 5, 5, 5, 5, 5, 5, 5, 5, 5, 5, 5, 6, 6, 6, 6, 6, 6, 6, 6, 6, 6, 6, 6, 6, 6, 6, 6, 6, 6, 6, 6, 6, 6, 6, 6, 6, 6, 6, 6, 6, 6, 6, 6, 7, 7, 7, 7, 7, 7, 7, 7, 7, 7, 7, 7, 7, 7, 7, 7, 7, 7, 7, 7, 7, 7, 7, 7, 7, 7, 7, 7, 7, 7, 7, 7, 7, 7, 7, 7, 7, 7, 7, 7, 7, 7, 7, 7, 7, 7, 7, 7, 7, 7, 7, 7, 7, 7, 7, 7, 7, 7, 7, 7, 7, 7, 7, 7, 8, 8, 8, 8, 8, 8, 8, 8, 8, 8, 8, 8, 8, 8, 8, 8, 8, 8, 8, 8, 8, 8, 8, 8, 8, 8, 8, 8, 8, 8, 8, 8, 8, 8, 8, 8, 8, 8, 8, 8, 8, 8, 8, 8, 8, 8, 8, 8, 8, 8, 8, 8, 8, 8, 8, 8, 8, 8, 8, 8, 8, 8, 8, 8, 8, 8, 8, 8, 8, 8, 8, 8, 8, 8, 8, 8, 8, 8, 8, 8, 8, 8, 8, 8, 8, 8, 8, 8, 8, 8, 8, 8, 8, 8, 8, 8, 8, 8, 8, 8, 8, 8, 8, 8, 8, 8, 8, 8, 8, 8, 8, 8, 8, 8, 8, 8, 8, 8, 8, 8, 8, 8, 8, 8, 8, 8, 8, 8]⟩ : ByteArray).size : Nat) : Int)) <|
    some (add64 v2 (IntKind.wrap .i64 ((byteAt (⟨#[0, 1, 2, 2, 3, 3, 3, 3, 4, 4, 4, 4, 4, 4, 4, 4, 5, 5, 5, 5, 5, 5, 5, 5, 5, 5, 5, 5, 5, 5, 5, 5, 6, 6, 6, 6, 6, 6, 6, 6, 6, 6, 6, 6, 6, 6, 6, 6, 6, 6, 6, 6, 6, 6, 6, 6, 6, 6, 6, 6, 6, 6, 6, 6, 7, 7, 7, 7, 7, 7, 7, 7, 7, 7, 7, 7, 7, 7, 7, 7, 7, 7, 7, 7, 7, 7, 7, 7, 7, 7, 7, 7, 7, 7, 7, 7, 7, 7, 7, 7, 7, 7, 7, 7, 7, 7, 7, 7, 7, 7, 7, 7, 7, 7, 7, 7, 7, 7, 7, 7, 7, 7, 7, 7, 7, 7, 7, 7, 8, 8, 8, 8, 8, 8, 8, 8, 8, 8, 8, 8, 8, 8, 8, 8, 8, 8, 8, 8, 8, 8, 8, 8, 8, 8, 8, 8, 8, 8, 8, 8, 8, 8, 8, 8, 8, 8, 8, 8, 8, 8, 8, 8, 8, 8, 8, 8, 8, 8, 8, 8, 8, 8, 8, 8, 8, 8, 8, 8, 8, 8, 8, 8, 8, 8, 8, 8, 8, 8, 8, 8, 8, 8, 8, 8, 8, 8, 8, 8, 8, 8, 8, 8, 8, 8, 8, 8, 8, 8, 8, 8, 8, 8, 8, 8, 8, 8, 8, 8, 8, 8, 8, 8, 8, 8, 8, 8, 8, 8, 8, 8, 8, 8, 8, 8, 8, 8, 8, 8, 8, 8, 8, 8, 8, 8, 8, 8]⟩ : ByteArray) (IntKind.wrap .u8 v0).toNat : Nat) : Int)))

theorem g_math_bits_Len64_c1_ok (S0 : Nat → Prop) (w0 : Start)   (v0 : Int) (v2 : Int) (r : Int) (hf : g_math_bits_Len64_c1   v0 v2 = some r) : Good Try.prog 25 S0 w0 (bodyPost Try.prog Try.f163 (Post S0 w0 (.one (.lit (.int .i64 r))))) (at_ [1, 1, 1] (bodyOf Try.f163)) ⟨[(0, .one (.lit (.int .u64 v0))), (2, .one (.lit (.int .i64 v2)))], []⟩ := by
  unfold g_math_bits_Len64_c1 at hf
  rcases br_some hf with ⟨h3, hf⟩ | ⟨h3, hf⟩
  · obtain ⟨o4, hf⟩ := need_some hf
    replace hf := Option.some.inj hf
    subst hf
    exact toEnd_good allOk 9 _ _ [⟨[], [], [], [], [], [], []⟩, ⟨[], [], [], [], [], [], []⟩, ⟨[], [], [], [], [], [], []⟩, ⟨[], [], [], [], [], [], []⟩] [true] [] [] [] [(decide (v0 ≥ (256 : Int))) = true, 0 ≤ (8 : Int), 0 ≤ (IntKind.wrap .u8 (Int.fdiv v0 (2 ^ (min (8 : Int).toNat (IntKind.bits .u64))))) ∧ (IntKind.wrap .u8 (Int.fdiv v0 (2 ^ (min (8 : Int).toNat (IntKind.bits .u64))))) < (((⟨#[0, 1, 2, 2, 3, 3, 3, 3, 4, 4, 4, 4, 4, 4, 4, 4, 5, 5, 5, 5, 5, 5, 5, 5, 5, 5, 5, 5, 5, 5, 5, 5, 6, 6, 6, 6, 6, 6, 6, 6, 6, 6, 6, 6, 6, 6, 6, 6, 6, 6, 6, 6, 6, 6, 6, 6, 6, 6, 6, 6, 6, 6, 6, 6, 7, 7, 7, 7, 7, 7, 7, 7, 7, 7, 7, 7, 7, 7, 7, 7, 7, 7, 7, 7, 7, 7, 7, 7, 7, 7, 7, 7, 7, 7, 7, 7, 7, 7, 7, 7, 7, 7, 7, 7, 7, 7, 7, 7, 7, 7, 7, 7, 7, 7, 7, 7, 7, 7, 7, 7, 7, 7, 7, 7, 7, 7, 7, 7, 8, 8, 8, 8, 8, 8, 8, 8, 8, 8, 8, 8, 8, 8, 8, 8, 8, 8, 8, 8, 8, 8, 8, 8, 8, 8, 8, 8, 8, 8, 8, 8, 8, 8, 8, 8, 8, 8, 8, 8, 8, 8, 8, 8, 8, 8, 8, 8, 8, 8, 8, 8, 8, 8, 8, 8, 8, 8, 8, 8, 8, 8, 8, 8, 8, 8, 8, 8, 8, 8, 8, 8, 8, 8, 8, 8, 8, 8, 8, 8, 8, 8, 8, 8, 8, 8, 8, 8, 8, 8, 8, 8, 8, 8, 8, 8, 8, 8, 8, 8, 8, 8, 8, 8, 8, 8, 8, 8, 8, 8, 8, 8, 8, 8, 8, 8, 8, 8, 8, 8, 8, 8, 8, 8, 8, 8, 8, 8]⟩ : ByteArray).size : Nat) : Int)] (by kernel_rfl) rfl ⟨h3, (by decide), o4, trivial⟩
  · obtain ⟨o5, hf⟩ := need_some hf
    replace hf := Option.some.inj hf
    subst hf
    exact toEnd_good allOk 7 _ _ [⟨[], [], [], [], [], [], []⟩, ⟨[], [], [], [], [], [], []⟩] [false] [] [] [] [(decide (v0 ≥ (256 : Int))) = false, 0 ≤ (IntKind.wrap .u8 v0) ∧ (IntKind.wrap .u8 v0) < (((⟨#[0, 1, 2, 2, 3, 3, 3, 3, 4, 4, 4, 4, 4, 4, 4, 4, 5, 5, 5, 5, 5, 5, 5, 5, 5, 5, 5, 5, 5, 5, 5, 5, 6, 6, 6, 6, 6, 6, 6, 6, 6, 6, 6, 6, 6, 6, 6, 6, 6, 6, 6, 6, 6, 6, 6, 6, 6, 6, 6, 6, 6, 6, 6, 6, 7, 7, 7, 7, 7, 7, 7, 7, 7, 7, 7, 7, 7, 7, 7, 7, 7, 7, 7, 7, 7, 7, 7, 7, 7, 7, 7, 7, 7, 7, 7, 7, 7, 7, 7, 7, 7, 7, 7, 7, 7, 7, 7, 7, 7, 7, 7, 7, 7, 7, 7, 7, 7, 7, 7, 7, 7, 7, 7, 7, 7, 7, 7, 7, 8, 8, 8, 8, 8, 8, 8, 8, 8, 8, 8, 8, 8, 8, 8, 8, 8, 8, 8, 8, 8, 8, 8, 8, 8, 8, 8, 8, 8, 8, 8, 8, 8, 8, 8, 8, 8, 8, 8, 8, 8, 8, 8, 8, 8, 8, 8, 8, 8, 8, 8, 8, 8, 8, 8, 8, 8, 8, 8, 8, 8, 8, 8, 8, 8, 8, 8, 8, 8, 8, 8, 8, 8, 8, 8, 8, 8, 8, 8, 8, 8, 8, 8, 8, 8, 8, 8, 8, 8, 8, 8, 8, 8, 8, 8, 8, 8, 8, 8, 8, 8, 8, 8, 8, 8, 8, 8, 8, 8, 8, 8, 8, 8, 8, 8, 8, 8, 8, 8, 8, 8, 8, 8, 8, 8, 8, 8, 8]⟩ : ByteArray).size : Nat) : Int)] (by kernel_rfl) rfl ⟨h3, o5, trivial⟩

def g_math_bits_Len64_c0   (v0 : Int) (v2 : Int) : Option Int :=
  bif (decide (v0 ≥ (65536 : Int))) then
    g_math_bits_Len64_c1   (Int.fdiv v0 (2 ^ (min (16 : Int).toNat (IntKind.bits .u64)))) (add64 v2 (16 : Int))
  else
    g_math_bits_Len64_c1   v0 v2

theorem g_math_bits_Len64_c0_ok (S0 : Nat → Prop) (w0 : Start)   (v0 : Int) (v2 : Int) (r : Int) (hf : g_math_bits_Len64_c0   v0 v2 = some r) : Good Try.prog 25 S0 w0 (bodyPost Try.prog Try.f163 (Post S0 w0 (.one (.lit (.int .i64 r))))) (at_ [1, 1] (bodyOf Try.f163)) ⟨[(0, .one (.lit (.int .u64 v0))), (2, .one (.lit (.int .i64 v2)))], []⟩ := by
  unfold g_math_bits_Len64_c0 at hf
  rcases br_some hf with ⟨h2, hf⟩ | ⟨h2, hf⟩
  · exact toK_good allOk Post.ends 7 _ _ _ _ [⟨[], [], [], [], [], [], []⟩, ⟨[], [], [], [], [], [], []⟩, ⟨[], [], [], [], [], [], []⟩] [true] ⟨[], [], [], [], [], [0, 2], [], []⟩ [(decide (v0 ≥ (65536 : Int))) = true, 0 ≤ (16 : Int)] (by kernel_rfl) ⟨h2, (by decide), trivial⟩ (g_math_bits_Len64_c1_ok S0 w0    (Int.fdiv v0 (2 ^ (min (16 : Int).toNat (IntKind.bits .u64)))) (add64 v2 (16 : Int)) r hf)
  · exact toK_good allOk Post.ends 5 _ _ _ _ [⟨[], [], [], [], [], [], []⟩] [false] ⟨[], [], [], [], [], [0, 2], [], []⟩ [(decide (v0 ≥ (65536 : Int))) = false] (by kernel_rfl) ⟨h2, trivial⟩ (g_math_bits_Len64_c1_ok S0 w0    v0 v2 r hf)

/-- math/bits.Len64 -/
def g_math_bits_Len64 (a0 : Int) : Option Int :=
  bif (decide (a0 ≥ (4294967296 : Int))) then
    g_math_bits_Len64_c0   (Int.fdiv a0 (2 ^ (min (32 : Int).toNat (IntKind.bits .u64)))) (32 : Int)
  else
    g_math_bits_Len64_c0   a0 (0 : Int)

theorem g_math_bits_Len64_ok (a0 : Int) (r : Int) (hf : g_math_bits_Len64 a0 = some r) : SCall Try.prog 163 [.one (.lit (.int .u64 a0))] (.one (.lit (.int .i64 r))) := by
  refine SCall.of Try.func163 rfl rfl rfl rfl fun S0 w0 => ?_
  unfold g_math_bits_Len64 at hf
  rcases br_some hf with ⟨h1, hf⟩ | ⟨h1, hf⟩
  · exact toK_good allOk Post.ends 9 _ _ _ _ [⟨[], [], [], [], [], [], []⟩, ⟨[], [], [], [], [], [], []⟩, ⟨[], [], [], [], [], [], []⟩, ⟨[], [], [], [], [], [], []⟩] [true] ⟨[], [], [], [], [], [0, 2], [], []⟩ [(decide (a0 ≥ (4294967296 : Int))) = true, 0 ≤ (32 : Int)] (by kernel_rfl) ⟨h1, (by decide), trivial⟩ (g_math_bits_Len64_c0_ok S0 w0    (Int.fdiv a0 (2 ^ (min (32 : Int).toNat (IntKind.bits .u64)))) (32 : Int) r hf)
  · exact toK_good allOk Post.ends 7 _ _ _ _ [⟨[], [], [], [], [], [], []⟩, ⟨[], [], [], [], [], [], []⟩] [false] ⟨[], [], [], [], [], [0, 2], [], []⟩ [(decide (a0 ≥ (4294967296 : Int))) = false] (by kernel_rfl) ⟨h1, trivial⟩ (g_math_bits_Len64_c0_ok S0 w0    a0 (0 : Int) r hf)

/-- math/bits.LeadingZeros64 -/
def g_math_bits_LeadingZeros64 (a0 : Int) : Option Int :=
  (g_math_bits_Len64 a0).bind fun x1 =>
  some (sub64 (64 : Int) x1)

theorem g_math_bits_LeadingZeros64_ok (a0 : Int) (r : Int) (hf : g_math_bits_LeadingZeros64 a0 = some r) : SCall Try.prog 154 [.one (.lit (.int .u64 a0))] (.one (.lit (.int .i64 r))) := by
  refine SCall.of Try.func154 rfl rfl rfl rfl fun S0 w0 => ?_
  unfold g_math_bits_LeadingZeros64 at hf
  obtain ⟨x1, q1, hf⟩ := bind_some' hf
  replace hf := Option.some.inj hf
  subst hf
  exact toEnd_good allOk 4 _ _ [⟨[], [], [], [], [], [], []⟩, ⟨[(1, .r (.one (.lit (.int .i64 x1))) [])], [], [], [], [], [], []⟩] [] [] [] [] [SCall Try.prog 163 [.one (.lit (.int .u64 a0))] (.one (.lit (.int .i64 x1)))] (by kernel_rfl) rfl ⟨(g_math_bits_Len64_ok a0 x1 q1), trivial⟩

def g_trie_common_c0   (v5 : Int) (v8 : Int) (b2 : T_api_Net) : Option Int :=
  bif (!b2.fAddr.fV6) then
    (g_addr_Bits b2.fAddr).bind fun x3 =>
    some (if v5 < (sub64 v8 (sub64 (128 : Int) x3)) then v5 else (sub64 v8 (sub64 (128 : Int) x3)))
  else
    some (if v5 < v8 then v5 else v8)

theorem g_trie_common_c0_ok (S0 : Nat → Prop) (w0 : Start)   (v5 : Int) (v8 : Int) (b2 : T_api_Net) (r : Int) (hf : g_trie_common_c0   v5 v8 b2 = some r) : Good Try.prog 48 S0 w0 (bodyPost Try.prog Try.f136 (Post S0 w0 (.one (.lit (.int .i64 r))))) (at_ [1, 1, 1, 1, 1] (bodyOf Try.f136)) ⟨[(2, .one (.ptr 2 0)), (5, .one (.lit (.int .i64 v5))), (8, .one (.lit (.int .i64 v8)))], [(2, .box [.lit (.bool b2.fAddr.fV6), .lit (.int .u64 b2.fAddr.fHi), .lit (.int .u64 b2.fAddr.fLo), .lit (.int .i64 b2.fBits)])]⟩ := by
  unfold g_trie_common_c0 at hf
  rcases br_some hf with ⟨h4, hf⟩ | ⟨h4, hf⟩
  · obtain ⟨x3, q5, hf⟩ := bind_some' hf
    replace hf := Option.some.inj hf
    subst hf
    exact toEnd_good allOk 7 _ _ [⟨[], [], [], [], [], [], []⟩, ⟨[(3, .r (.one (.lit (.int .i64 x3))) [])], [], [], [], [], [], []⟩, ⟨[], [], [], [], [], [], []⟩] [true] [] [] [] [(!b2.fAddr.fV6) = true, SCall Try.prog 135 [.agg (T_api_Addr.c b2.fAddr)] (.one (.lit (.int .i64 x3)))] (by kernel_rfl) rfl ⟨h4, (g_addr_Bits_ok b2.fAddr x3 q5), trivial⟩
  · replace hf := Option.some.inj hf
    subst hf
    exact toEnd_good allOk 7 _ _ [⟨[], [], [], [], [], [], []⟩, ⟨[], [], [], [], [], [], []⟩] [false] [] [] [] [(!b2.fAddr.fV6) = false] (by kernel_rfl) rfl ⟨h4, trivial⟩

/-- doorman/trie.common -/
def g_trie_common (a0 : T_api_Net) (a1 : T_api_Net) : Option Int :=
  (g_math_bits_LeadingZeros64 (IntKind.wrap .u64 (((BitVec.ofInt (IntKind.bits .u64) a0.fAddr.fHi) ^^^ (BitVec.ofInt (IntKind.bits .u64) a1.fAddr.fHi)).toNat : Int))).bind fun x1 =>
  bif ((IntKind.wrap .u64 (((BitVec.ofInt (IntKind.bits .u64) a0.fAddr.fHi) ^^^ (BitVec.ofInt (IntKind.bits .u64) a1.fAddr.fHi)).toNat : Int)) == (0 : Int)) then
    (g_math_bits_LeadingZeros64 (IntKind.wrap .u64 (((BitVec.ofInt (IntKind.bits .u64) a0.fAddr.fLo) ^^^ (BitVec.ofInt (IntKind.bits .u64) a1.fAddr.fLo)).toNat : Int))).bind fun x2 =>
    g_trie_common_c0   (if a1.fBits < a0.fBits then a1.fBits else a0.fBits) (add64 (64 : Int) x2) a0
  else
    g_trie_common_c0   (if a1.fBits < a0.fBits then a1.fBits else a0.fBits) x1 a0

theorem g_trie_common_ok (a0 : T_api_Net) (a1 : T_api_Net) (r : Int) (hf : g_trie_common a0 a1 = some r) : SCall Try.prog 136 [.agg (T_api_Net.c a0), .agg (T_api_Net.c a1)] (.one (.lit (.int .i64 r))) := by
  refine SCall.of Try.func136 rfl rfl rfl rfl fun S0 w0 => ?_
  unfold g_trie_common at hf
  obtain ⟨x1, q1, hf⟩ := bind_some' hf
  rcases br_some hf with ⟨h2, hf⟩ | ⟨h2, hf⟩
  · obtain ⟨x2, q3, hf⟩ := bind_some' hf
    exact toK_good allOk Post.ends 13 _ _ _ _ [⟨[], [], [], [], [], [], []⟩, ⟨[], [], [], [], [], [], []⟩, ⟨[], [], [], [[], [0], [1, 0], [], [3], [4, 3], [2, 1, 0, 5, 4, 3], [], [7], [8, 7], [], [10], [11, 10], [9, 8, 7, 12, 11, 10], [6, 2, 1, 0, 5, 4, 3], [13, 9, 8, 7, 12, 11, 10, 14, 6, 2, 1, 0, 5, 4, 3]], [], [], []⟩, ⟨[(1, .r (.one (.lit (.int .i64 x1))) [])], [], [], [], [], [], []⟩, ⟨[], [], [], [], [], [], []⟩, ⟨[(1, .r (.one (.lit (.int .i64 x2))) [])], [], [], [], [], [], []⟩] [true] ⟨[], [], [], [], [], [2, 5, 8], [2], []⟩ [SCall Try.prog 154 [.one (.lit (.int .u64 (IntKind.wrap .u64 (((BitVec.ofInt (IntKind.bits .u64) a0.fAddr.fHi) ^^^ (BitVec.ofInt (IntKind.bits .u64) a1.fAddr.fHi)).toNat : Int))))] (.one (.lit (.int .i64 x1))), ((IntKind.wrap .u64 (((BitVec.ofInt (IntKind.bits .u64) a0.fAddr.fHi) ^^^ (BitVec.ofInt (IntKind.bits .u64) a1.fAddr.fHi)).toNat : Int)) == (0 : Int)) = true, SCall Try.prog 154 [.one (.lit (.int .u64 (IntKind.wrap .u64 (((BitVec.ofInt (IntKind.bits .u64) a0.fAddr.fLo) ^^^ (BitVec.ofInt (IntKind.bits .u64) a1.fAddr.fLo)).toNat : Int))))] (.one (.lit (.int .i64 x2)))] (by kernel_rfl) ⟨(g_math_bits_LeadingZeros64_ok (IntKind.wrap .u64 (((BitVec.ofInt (IntKind.bits .u64) a0.fAddr.fHi) ^^^ (BitVec.ofInt (IntKind.bits .u64) a1.fAddr.fHi)).toNat : Int)) x1 q1), h2, (g_math_bits_LeadingZeros64_ok (IntKind.wrap .u64 (((BitVec.ofInt (IntKind.bits .u64) a0.fAddr.fLo) ^^^ (BitVec.ofInt (IntKind.bits .u64) a1.fAddr.fLo)).toNat : Int)) x2 q3), trivial⟩ (g_trie_common_c0_ok S0 w0    (if a1.fBits < a0.fBits then a1.fBits else a0.fBits) (add64 (64 : Int) x2) a0 r hf)
  · exact toK_good allOk Post.ends 13 _ _ _ _ [⟨[], [], [], [], [], [], []⟩, ⟨[], [], [], [], [], [], []⟩, ⟨[], [], [], [[], [0], [1, 0], [], [3], [4, 3], [2, 1, 0, 5, 4, 3], [], [7], [8, 7], [], [10], [11, 10], [9, 8, 7, 12, 11, 10], [6, 2, 1, 0, 5, 4, 3], [13, 9, 8, 7, 12, 11, 10, 14, 6, 2, 1, 0, 5, 4, 3]], [], [], []⟩, ⟨[(1, .r (.one (.lit (.int .i64 x1))) [])], [], [], [], [], [], []⟩, ⟨[], [], [], [], [], [], []⟩] [false] ⟨[], [], [], [], [], [2, 5, 8], [2], []⟩ [SCall Try.prog 154 [.one (.lit (.int .u64 (IntKind.wrap .u64 (((BitVec.ofInt (IntKind.bits .u64) a0.fAddr.fHi) ^^^ (BitVec.ofInt (IntKind.bits .u64) a1.fAddr.fHi)).toNat : Int))))] (.one (.lit (.int .i64 x1))), ((IntKind.wrap .u64 (((BitVec.ofInt (IntKind.bits .u64) a0.fAddr.fHi) ^^^ (BitVec.ofInt (IntKind.bits .u64) a1.fAddr.fHi)).toNat : Int)) == (0 : Int)) = false] (by kernel_rfl) ⟨(g_math_bits_LeadingZeros64_ok (IntKind.wrap .u64 (((BitVec.ofInt (IntKind.bits .u64) a0.fAddr.fHi) ^^^ (BitVec.ofInt (IntKind.bits .u64) a1.fAddr.fHi)).toNat : Int)) x1 q1), h2, trivial⟩ (g_trie_common_c0_ok S0 w0    (if a1.fBits < a0.fBits then a1.fBits else a0.fBits) x1 a0 r hf)

/-- doorman/trie.branch -/
def g_trie_branch (a0 : N_trie_node) (a1 : T_trie_node) (a2 : Int) : Option N_trie_node :=
  bif (a2 == a1.fhit.fNet.fBits) then
    (match a0 with
    | .nil =>
      none
    | .mk p1_0 p1_1 p1_2 p1_3 =>
      (g_trie_bit p1_0.fNet a2).bind fun x2 =>
      need (0 ≤ x2 ∧ x2 < ((2 : Nat) : Int)) <|
      ix2 x2 (
        some (N_trie_node.mk a1.fhit a1.fhas (N_trie_node.mk p1_0 p1_1 p1_2 p1_3) a1.fkids.2)) (
        some (N_trie_node.mk a1.fhit a1.fhas a1.fkids.1 (N_trie_node.mk p1_0 p1_1 p1_2 p1_3))))
  else
    (g_cidr_Make a1.fhit.fNet.fAddr a2).bind fun x3 =>
    (match a0 with
    | .nil =>
      none
    | .mk p4_0 p4_1 p4_2 p4_3 =>
      (g_trie_bit p4_0.fNet a2).bind fun x5 =>
      need (0 ≤ x5 ∧ x5 < ((2 : Nat) : Int)) <|
      ix2 x5 (
        (g_trie_bit a1.fhit.fNet a2).bind fun x6 =>
        need (0 ≤ x6 ∧ x6 < ((2 : Nat) : Int)) <|
        ix2 x6 (
          some (N_trie_node.mk (T_trie_Hit.mk x3.1 (0 : Int)) false (N_trie_node.mk a1.fhit a1.fhas a1.fkids.1 a1.fkids.2) N_trie_node.nil)) (
          some (N_trie_node.mk (T_trie_Hit.mk x3.1 (0 : Int)) false (N_trie_node.mk p4_0 p4_1 p4_2 p4_3) (N_trie_node.mk a1.fhit a1.fhas a1.fkids.1 a1.fkids.2)))) (
        (g_trie_bit a1.fhit.fNet a2).bind fun x7 =>
        need (0 ≤ x7 ∧ x7 < ((2 : Nat) : Int)) <|
        ix2 x7 (
          some (N_trie_node.mk (T_trie_Hit.mk x3.1 (0 : Int)) false (N_trie_node.mk a1.fhit a1.fhas a1.fkids.1 a1.fkids.2) (N_trie_node.mk p4_0 p4_1 p4_2 p4_3))) (
          some (N_trie_node.mk (T_trie_Hit.mk x3.1 (0 : Int)) false N_trie_node.nil (N_trie_node.mk a1.fhit a1.fhas a1.fkids.1 a1.fkids.2)))))

theorem g_trie_branch_own (a0 : N_trie_node) (a1 : T_trie_node) (a2 : Int) (r : N_trie_node) (hf : g_trie_branch a0 a1 a2 = some r) : HCall Try.prog 137 [(100000, .box (T_trie_node.c a1))] [.one (N_trie_node.c a0), .one (.ptr 100000 0), .one (.lit (.int .i64 a2))] [] (.one (N_trie_node.c r)) := by
  refine HCall.of Try.func137 rfl rfl rfl rfl fun S0 w0 => ?_
  unfold g_trie_branch at hf
  rcases br_some hf with ⟨h1, hf⟩ | ⟨h1, hf⟩
  · cases a0 with
    | nil =>
      dsimp only at hf
      cases hf
    | mk p1_0 p1_1 p1_2 p1_3 =>
      dsimp only at hf
      obtain ⟨x2, q2, hf⟩ := bind_some' hf
      obtain ⟨o3, hf⟩ := need_some hf
      rcases ix2_some o3 hf with ⟨e, hf⟩ | ⟨e, hf⟩
      · subst e
        replace hf := Option.some.inj hf
        subst hf
        exact toEndH_good allOk 10 _ _ [⟨[], [], [], [], [], [], []⟩, ⟨[], [], [], [], [], [], []⟩, ⟨[(7, .r (.one (.lit (.int .i64 (0 : Int)))) [])], [], [], [[], [], [1], [2, 1], [3, 2, 1], [4, 3, 2, 1], [], [5, 4, 3, 2, 1, 6], [], [0], [9, 0], [10, 9, 0, 7, 5, 4, 3, 2, 1, 6, 8], [11, 10, 9, 0, 7, 5, 4, 3, 2, 1, 6, 8]], [], [], []⟩, ⟨[], [], [], [], [], [], []⟩] [true] ⟨[100000], [], [], [], [], [6], [], []⟩ [(a2 == a1.fhit.fNet.fBits) = true, SCall Try.prog 95 [.agg (T_api_Net.c p1_0.fNet), .one (.lit (.int .i64 a2))] (.one (.lit (.int .i64 (0 : Int)))), 0 ≤ (0 : Int) ∧ (0 : Int) < ((2 : Nat) : Int)] (by kernel_rfl) ⟨h1, (g_trie_bit_ok p1_0.fNet a2 (0 : Int) q2), (by decide), trivial⟩
      · subst e
        replace hf := Option.some.inj hf
        subst hf
        exact toEndH_good allOk 10 _ _ [⟨[], [], [], [], [], [], []⟩, ⟨[], [], [], [], [], [], []⟩, ⟨[(7, .r (.one (.lit (.int .i64 (1 : Int)))) [])], [], [], [[], [], [1], [2, 1], [3, 2, 1], [4, 3, 2, 1], [], [5, 4, 3, 2, 1, 6], [], [0], [9, 0], [10, 9, 0, 7, 5, 4, 3, 2, 1, 6, 8], [11, 10, 9, 0, 7, 5, 4, 3, 2, 1, 6, 8]], [], [], []⟩, ⟨[], [], [], [], [], [], []⟩] [true] ⟨[100000], [], [], [], [], [6], [], []⟩ [(a2 == a1.fhit.fNet.fBits) = true, SCall Try.prog 95 [.agg (T_api_Net.c p1_0.fNet), .one (.lit (.int .i64 a2))] (.one (.lit (.int .i64 (1 : Int)))), 0 ≤ (1 : Int) ∧ (1 : Int) < ((2 : Nat) : Int)] (by kernel_rfl) ⟨h1, (g_trie_bit_ok p1_0.fNet a2 (1 : Int) q2), (by decide), trivial⟩
  · obtain ⟨x3, q4, hf⟩ := bind_some' hf
    cases a0 with
    | nil =>
      dsimp only at hf
      cases hf
    | mk p4_0 p4_1 p4_2 p4_3 =>
      dsimp only at hf
      obtain ⟨x5, q5, hf⟩ := bind_some' hf
      obtain ⟨o6, hf⟩ := need_some hf
      rcases ix2_some o6 hf with ⟨e, hf⟩ | ⟨e, hf⟩
      · subst e
        obtain ⟨x6, q7, hf⟩ := bind_some' hf
        obtain ⟨o8, hf⟩ := need_some hf
        rcases ix2_some o8 hf with ⟨e, hf⟩ | ⟨e, hf⟩
        · subst e
          replace hf := Option.some.inj hf
          subst hf
          exact toEndH_good allOk 17 _ _ [⟨[], [], [], [], [], [], []⟩, ⟨[], [], [], [], [], [], []⟩, ⟨[(7, .r (.tup [(true, T_api_Net.c x3.1), (false, cB x3.2)]) [])], [], [], [], [], [], []⟩, ⟨[], [], [], [], [(2, [(6, N_trie_node.c N_trie_node.nil), (7, N_trie_node.c N_trie_node.nil)])], [], []⟩, ⟨[(7, .r (.one (.lit (.int .i64 (0 : Int)))) [])], [], [], [[], [], [1], [2, 1], [3, 2, 1], [4, 3, 2, 1], [], [5, 4, 3, 2, 1, 6], [], [0], [9, 0], [10, 9, 0, 7, 5, 4, 3, 2, 1, 6, 8], [11, 10, 9, 0, 7, 5, 4, 3, 2, 1, 6, 8]], [], [], []⟩, ⟨[(7, .r (.one (.lit (.int .i64 (0 : Int)))) [])], [], [], [[], [], [1], [2, 1], [3, 2, 1], [4, 3, 2, 1], [], [5, 4, 3, 2, 1, 6], [], [0], [9, 0], [10, 9, 0, 7, 5, 4, 3, 2, 1, 6, 8], [11, 10, 9, 0, 7, 5, 4, 3, 2, 1, 6, 8]], [], [], []⟩, ⟨[], [], [], [], [], [], []⟩] [false] ⟨[100000, 45], [], [], [], [], [6], [], []⟩ [(a2 == a1.fhit.fNet.fBits) = false, SCall Try.prog 131 [.agg (T_api_Addr.c a1.fhit.fNet.fAddr), .one (.lit (.int .i64 a2))] (.tup [(true, T_api_Net.c x3.1), (false, cB x3.2)]), SCall Try.prog 95 [.agg (T_api_Net.c p4_0.fNet), .one (.lit (.int .i64 a2))] (.one (.lit (.int .i64 (0 : Int)))), 0 ≤ (0 : Int) ∧ (0 : Int) < ((2 : Nat) : Int), SCall Try.prog 95 [.agg (T_api_Net.c a1.fhit.fNet), .one (.lit (.int .i64 a2))] (.one (.lit (.int .i64 (0 : Int)))), 0 ≤ (0 : Int) ∧ (0 : Int) < ((2 : Nat) : Int)] (by kernel_rfl) ⟨h1, (g_cidr_Make_ok a1.fhit.fNet.fAddr a2 x3 q4), (g_trie_bit_ok p4_0.fNet a2 (0 : Int) q5), (by decide), (g_trie_bit_ok a1.fhit.fNet a2 (0 : Int) q7), (by decide), trivial⟩
        · subst e
          replace hf := Option.some.inj hf
          subst hf
          exact toEndH_good allOk 17 _ _ [⟨[], [], [], [], [], [], []⟩, ⟨[], [], [], [], [], [], []⟩, ⟨[(7, .r (.tup [(true, T_api_Net.c x3.1), (false, cB x3.2)]) [])], [], [], [], [], [], []⟩, ⟨[], [], [], [], [(2, [(6, N_trie_node.c N_trie_node.nil), (7, N_trie_node.c N_trie_node.nil)])], [], []⟩, ⟨[(7, .r (.one (.lit (.int .i64 (0 : Int)))) [])], [], [], [[], [], [1], [2, 1], [3, 2, 1], [4, 3, 2, 1], [], [5, 4, 3, 2, 1, 6], [], [0], [9, 0], [10, 9, 0, 7, 5, 4, 3, 2, 1, 6, 8], [11, 10, 9, 0, 7, 5, 4, 3, 2, 1, 6, 8]], [], [], []⟩, ⟨[(7, .r (.one (.lit (.int .i64 (1 : Int)))) [])], [], [], [[], [], [1], [2, 1], [3, 2, 1], [4, 3, 2, 1], [], [5, 4, 3, 2, 1, 6], [], [0], [9, 0], [10, 9, 0, 7, 5, 4, 3, 2, 1, 6, 8], [11, 10, 9, 0, 7, 5, 4, 3, 2, 1, 6, 8]], [], [], []⟩, ⟨[], [], [], [], [], [], []⟩] [false] ⟨[100000, 45], [], [], [], [], [6], [], []⟩ [(a2 == a1.fhit.fNet.fBits) = false, SCall Try.prog 131 [.agg (T_api_Addr.c a1.fhit.fNet.fAddr), .one (.lit (.int .i64 a2))] (.tup [(true, T_api_Net.c x3.1), (false, cB x3.2)]), SCall Try.prog 95 [.agg (T_api_Net.c p4_0.fNet), .one (.lit (.int .i64 a2))] (.one (.lit (.int .i64 (0 : Int)))), 0 ≤ (0 : Int) ∧ (0 : Int) < ((2 : Nat) : Int), SCall Try.prog 95 [.agg (T_api_Net.c a1.fhit.fNet), .one (.lit (.int .i64 a2))] (.one (.lit (.int .i64 (1 : Int)))), 0 ≤ (1 : Int) ∧ (1 : Int) < ((2 : Nat) : Int)] (by kernel_rfl) ⟨h1, (g_cidr_Make_ok a1.fhit.fNet.fAddr a2 x3 q4), (g_trie_bit_ok p4_0.fNet a2 (0 : Int) q5), (by decide), (g_trie_bit_ok a1.fhit.fNet a2 (1 : Int) q7), (by decide), trivial⟩
      · subst e
        obtain ⟨x7, q9, hf⟩ := bind_some' hf
        obtain ⟨o10, hf⟩ := need_some hf
        rcases ix2_some o10 hf with ⟨e, hf⟩ | ⟨e, hf⟩
        · subst e
          replace hf := Option.some.inj hf
          subst hf
          exact toEndH_good allOk 17 _ _ [⟨[], [], [], [], [], [], []⟩, ⟨[], [], [], [], [], [], []⟩, ⟨[(7, .r (.tup [(true, T_api_Net.c x3.1), (false, cB x3.2)]) [])], [], [], [], [], [], []⟩, ⟨[], [], [], [], [(2, [(6, N_trie_node.c N_trie_node.nil), (7, N_trie_node.c N_trie_node.nil)])], [], []⟩, ⟨[(7, .r (.one (.lit (.int .i64 (1 : Int)))) [])], [], [], [[], [], [1], [2, 1], [3, 2, 1], [4, 3, 2, 1], [], [5, 4, 3, 2, 1, 6], [], [0], [9, 0], [10, 9, 0, 7, 5, 4, 3, 2, 1, 6, 8], [11, 10, 9, 0, 7, 5, 4, 3, 2, 1, 6, 8]], [], [], []⟩, ⟨[(7, .r (.one (.lit (.int .i64 (0 : Int)))) [])], [], [], [[], [], [1], [2, 1], [3, 2, 1], [4, 3, 2, 1], [], [5, 4, 3, 2, 1, 6], [], [0], [9, 0], [10, 9, 0, 7, 5, 4, 3, 2, 1, 6, 8], [11, 10, 9, 0, 7, 5, 4, 3, 2, 1, 6, 8]], [], [], []⟩, ⟨[], [], [], [], [], [], []⟩] [false] ⟨[100000, 45], [], [], [], [], [6], [], []⟩ [(a2 == a1.fhit.fNet.fBits) = false, SCall Try.prog 131 [.agg (T_api_Addr.c a1.fhit.fNet.fAddr), .one (.lit (.int .i64 a2))] (.tup [(true, T_api_Net.c x3.1), (false, cB x3.2)]), SCall Try.prog 95 [.agg (T_api_Net.c p4_0.fNet), .one (.lit (.int .i64 a2))] (.one (.lit (.int .i64 (1 : Int)))), 0 ≤ (1 : Int) ∧ (1 : Int) < ((2 : Nat) : Int), SCall Try.prog 95 [.agg (T_api_Net.c a1.fhit.fNet), .one (.lit (.int .i64 a2))] (.one (.lit (.int .i64 (0 : Int)))), 0 ≤ (0 : Int) ∧ (0 : Int) < ((2 : Nat) : Int)] (by kernel_rfl) ⟨h1, (g_cidr_Make_ok a1.fhit.fNet.fAddr a2 x3 q4), (g_trie_bit_ok p4_0.fNet a2 (1 : Int) q5), (by decide), (g_trie_bit_ok a1.fhit.fNet a2 (0 : Int) q9), (by decide), trivial⟩
        · subst e
          replace hf := Option.some.inj hf
          subst hf
          exact toEndH_good allOk 17 _ _ [⟨[], [], [], [], [], [], []⟩, ⟨[], [], [], [], [], [], []⟩, ⟨[(7, .r (.tup [(true, T_api_Net.c x3.1), (false, cB x3.2)]) [])], [], [], [], [], [], []⟩, ⟨[], [], [], [], [(2, [(6, N_trie_node.c N_trie_node.nil), (7, N_trie_node.c N_trie_node.nil)])], [], []⟩, ⟨[(7, .r (.one (.lit (.int .i64 (1 : Int)))) [])], [], [], [[], [], [1], [2, 1], [3, 2, 1], [4, 3, 2, 1], [], [5, 4, 3, 2, 1, 6], [], [0], [9, 0], [10, 9, 0, 7, 5, 4, 3, 2, 1, 6, 8], [11, 10, 9, 0, 7, 5, 4, 3, 2, 1, 6, 8]], [], [], []⟩, ⟨[(7, .r (.one (.lit (.int .i64 (1 : Int)))) [])], [], [], [[], [], [1], [2, 1], [3, 2, 1], [4, 3, 2, 1], [], [5, 4, 3, 2, 1, 6], [], [0], [9, 0], [10, 9, 0, 7, 5, 4, 3, 2, 1, 6, 8], [11, 10, 9, 0, 7, 5, 4, 3, 2, 1, 6, 8]], [], [], []⟩, ⟨[], [], [], [], [], [], []⟩] [false] ⟨[100000, 45], [], [], [], [], [6], [], []⟩ [(a2 == a1.fhit.fNet.fBits) = false, SCall Try.prog 131 [.agg (T_api_Addr.c a1.fhit.fNet.fAddr), .one (.lit (.int .i64 a2))] (.tup [(true, T_api_Net.c x3.1), (false, cB x3.2)]), SCall Try.prog 95 [.agg (T_api_Net.c p4_0.fNet), .one (.lit (.int .i64 a2))] (.one (.lit (.int .i64 (1 : Int)))), 0 ≤ (1 : Int) ∧ (1 : Int) < ((2 : Nat) : Int), SCall Try.prog 95 [.agg (T_api_Net.c a1.fhit.fNet), .one (.lit (.int .i64 a2))] (.one (.lit (.int .i64 (1 : Int)))), 0 ≤ (1 : Int) ∧ (1 : Int) < ((2 : Nat) : Int)] (by kernel_rfl) ⟨h1, (g_cidr_Make_ok a1.fhit.fNet.fAddr a2 x3 q4), (g_trie_bit_ok p4_0.fNet a2 (1 : Int) q5), (by decide), (g_trie_bit_ok a1.fhit.fNet a2 (1 : Int) q9), (by decide), trivial⟩

/-- doorman/trie.with -/
def g_trie_with : Nat → N_trie_node → T_trie_Hit → Option N_trie_node
  | 0, _, _ => none
  | fu + 1, a0, a1 =>
    (match a0 with
    | .nil =>
      some (N_trie_node.mk a1 true N_trie_node.nil N_trie_node.nil)
    | .mk p1_0 p1_1 p1_2 p1_3 =>
      (g_trie_common p1_0.fNet a1.fNet).bind fun x2 =>
      bif (decide (x2 < p1_0.fNet.fBits)) then
        (g_trie_branch (N_trie_node.mk p1_0 p1_1 p1_2 p1_3) (T_trie_node.mk a1 true (N_trie_node.nil, N_trie_node.nil)) x2).bind fun x3 =>
        some x3
      else
        bif (x2 == a1.fNet.fBits) then
          some (N_trie_node.mk a1 true p1_2 p1_3)
        else
          (g_trie_bit a1.fNet x2).bind fun x4 =>
          need (0 ≤ x4 ∧ x4 < ((2 : Nat) : Int)) <|
          ix2 x4 (
            (g_trie_with fu p1_2 a1).bind fun x5 =>
            some (N_trie_node.mk p1_0 p1_1 x5 p1_3)) (
            (g_trie_with fu p1_3 a1).bind fun x6 =>
            some (N_trie_node.mk p1_0 p1_1 p1_2 x6)))

theorem g_trie_with_ok : ∀ (fu : Nat) (a0 : N_trie_node) (a1 : T_trie_Hit) (r : N_trie_node) (hf : g_trie_with fu a0 a1 = some r), SCall Try.prog 103 [.one (N_trie_node.c a0), .agg (T_trie_Hit.c a1)] (.one (N_trie_node.c r)) := by
  intro fu
  induction fu with
  | zero =>
    intro a0 a1 r hf
    simp [g_trie_with] at hf
  | succ fu ih =>
    intro a0 a1 r hf
    refine SCall.of Try.func103 rfl rfl rfl rfl fun S0 w0 => ?_
    unfold g_trie_with at hf
    cases a0 with
    | nil =>
      dsimp only at hf
      replace hf := Option.some.inj hf
      subst hf
      exact toEnd_good allOk 8 _ _ [⟨[], [], [], [], [], [], []⟩, ⟨[], [], [], [], [], [], []⟩, ⟨[], [], [], [], [(1, [(6, N_trie_node.c N_trie_node.nil), (7, N_trie_node.c N_trie_node.nil)])], [], []⟩] [true] [12] [] [] [true = true] (by kernel_rfl) rfl ⟨rfl, trivial⟩
    | mk p1_0 p1_1 p1_2 p1_3 =>
      dsimp only at hf
      obtain ⟨x2, q1, hf⟩ := bind_some' hf
      rcases br_some hf with ⟨h2, hf⟩ | ⟨h2, hf⟩
      · obtain ⟨x3, q3, hf⟩ := bind_some' hf
        replace hf := Option.some.inj hf
        subst hf
        exact toEnd_good allOk 15 _ _ [⟨[], [], [], [], [], [], []⟩, ⟨[], [], [], [], [], [], []⟩, ⟨[(7, .r (.one (.lit (.int .i64 x2))) [])], [], [], [[], [0], [1, 0], [2, 1, 0], [3, 2, 1, 0], [], [5], [4, 3, 2, 1, 0, 6, 5], [7, 4, 3, 2, 1, 0, 6, 5]], [], [], []⟩, ⟨[], [], [], [], [], [], []⟩, ⟨[], [], [], [], [(2, [(6, N_trie_node.c N_trie_node.nil), (7, N_trie_node.c N_trie_node.nil)])], [], [(5, ⟨[(100000, 32)], [], [], .one (N_trie_node.c x3)⟩)]⟩] [false, true] [] [] [] [false = false, SCall Try.prog 136 [.agg (T_api_Net.c p1_0.fNet), .agg (T_api_Net.c a1.fNet)] (.one (.lit (.int .i64 x2))), (decide (x2 < p1_0.fNet.fBits)) = true, HCall Try.prog 137 [(100000, .box (T_trie_node.c (T_trie_node.mk a1 true (N_trie_node.nil, N_trie_node.nil))))] [.one (N_trie_node.c (N_trie_node.mk p1_0 p1_1 p1_2 p1_3)), .one (.ptr 100000 0), .one (.lit (.int .i64 x2))] [] (.one (N_trie_node.c x3))] (by kernel_rfl) rfl ⟨rfl, (g_trie_common_ok p1_0.fNet a1.fNet x2 q1), h2, (g_trie_branch_own (N_trie_node.mk p1_0 p1_1 p1_2 p1_3) (T_trie_node.mk a1 true (N_trie_node.nil, N_trie_node.nil)) x2 x3 q3), trivial⟩
      · rcases br_some hf with ⟨h4, hf⟩ | ⟨h4, hf⟩
        · replace hf := Option.some.inj hf
          subst hf
          exact toEnd_good allOk 24 _ _ [⟨[], [], [], [], [], [], []⟩, ⟨[], [], [], [], [], [], []⟩, ⟨[(7, .r (.one (.lit (.int .i64 x2))) [])], [], [], [[], [0], [1, 0], [2, 1, 0], [3, 2, 1, 0], [], [5], [4, 3, 2, 1, 0, 6, 5], [7, 4, 3, 2, 1, 0, 6, 5]], [], [], []⟩, ⟨[], [], [], [], [], [], []⟩, ⟨[], [], [], [], [], [], []⟩, ⟨[], [], [], [], [], [], []⟩, ⟨[], [], [], [], [], [], []⟩, ⟨[], [], [], [], [], [], []⟩] [false, false, true] [6] [] [] [false = false, SCall Try.prog 136 [.agg (T_api_Net.c p1_0.fNet), .agg (T_api_Net.c a1.fNet)] (.one (.lit (.int .i64 x2))), (decide (x2 < p1_0.fNet.fBits)) = false, (x2 == a1.fNet.fBits) = true] (by kernel_rfl) rfl ⟨rfl, (g_trie_common_ok p1_0.fNet a1.fNet x2 q1), h2, h4, trivial⟩
        · obtain ⟨x4, q5, hf⟩ := bind_some' hf
          obtain ⟨o6, hf⟩ := need_some hf
          rcases ix2_some o6 hf with ⟨e, hf⟩ | ⟨e, hf⟩
          · subst e
            obtain ⟨x5, q7, hf⟩ := bind_some' hf
            replace hf := Option.some.inj hf
            subst hf
            exact toEnd_good allOk 27 _ _ [⟨[], [], [], [], [], [], []⟩, ⟨[], [], [], [], [], [], []⟩, ⟨[(7, .r (.one (.lit (.int .i64 x2))) [])], [], [], [[], [0], [1, 0], [2, 1, 0], [3, 2, 1, 0], [], [5], [4, 3, 2, 1, 0, 6, 5], [7, 4, 3, 2, 1, 0, 6, 5]], [], [], []⟩, ⟨[], [], [], [], [], [], []⟩, ⟨[], [], [], [], [], [], []⟩, ⟨[], [], [], [], [], [], []⟩, ⟨[(3, .r (.one (.lit (.int .i64 (0 : Int)))) [])], [], [], [], [], [], []⟩, ⟨[(8, .r (.one (N_trie_node.c x5)) [])], [], [], [[], [], [], [1], [3, 1], [4, 3, 1, 2], [5, 4, 3, 1, 2], [], [6, 5, 4, 3, 1, 2, 7], [], [9, 0, 1, 2, 3, 4, 5, 6, 7, 8], [10, 9, 0, 1, 2, 3, 4, 5, 6, 7, 8]], [], [], []⟩, ⟨[], [], [], [], [], [], []⟩] [false, false, false] [6] [] [] [false = false, SCall Try.prog 136 [.agg (T_api_Net.c p1_0.fNet), .agg (T_api_Net.c a1.fNet)] (.one (.lit (.int .i64 x2))), (decide (x2 < p1_0.fNet.fBits)) = false, (x2 == a1.fNet.fBits) = false, SCall Try.prog 95 [.agg (T_api_Net.c a1.fNet), .one (.lit (.int .i64 x2))] (.one (.lit (.int .i64 (0 : Int)))), 0 ≤ (0 : Int) ∧ (0 : Int) < ((2 : Nat) : Int), SCall Try.prog 103 [.one (N_trie_node.c p1_2), .agg (T_trie_Hit.c a1)] (.one (N_trie_node.c x5)), 0 ≤ (0 : Int) ∧ (0 : Int) < ((2 : Nat) : Int)] (by kernel_rfl) rfl ⟨rfl, (g_trie_common_ok p1_0.fNet a1.fNet x2 q1), h2, h4, (g_trie_bit_ok a1.fNet x2 (0 : Int) q5), (by decide), (ih p1_2 a1 x5 q7), (by decide), trivial⟩
          · subst e
            obtain ⟨x6, q8, hf⟩ := bind_some' hf
            replace hf := Option.some.inj hf
            subst hf
            exact toEnd_good allOk 27 _ _ [⟨[], [], [], [], [], [], []⟩, ⟨[], [], [], [], [], [], []⟩, ⟨[(7, .r (.one (.lit (.int .i64 x2))) [])], [], [], [[], [0], [1, 0], [2, 1, 0], [3, 2, 1, 0], [], [5], [4, 3, 2, 1, 0, 6, 5], [7, 4, 3, 2, 1, 0, 6, 5]], [], [], []⟩, ⟨[], [], [], [], [], [], []⟩, ⟨[], [], [], [], [], [], []⟩, ⟨[], [], [], [], [], [], []⟩, ⟨[(3, .r (.one (.lit (.int .i64 (1 : Int)))) [])], [], [], [], [], [], []⟩, ⟨[(8, .r (.one (N_trie_node.c x6)) [])], [], [], [[], [], [], [1], [3, 1], [4, 3, 1, 2], [5, 4, 3, 1, 2], [], [6, 5, 4, 3, 1, 2, 7], [], [9, 0, 1, 2, 3, 4, 5, 6, 7, 8], [10, 9, 0, 1, 2, 3, 4, 5, 6, 7, 8]], [], [], []⟩, ⟨[], [], [], [], [], [], []⟩] [false, false, false] [6] [] [] [false = false, SCall Try.prog 136 [.agg (T_api_Net.c p1_0.fNet), .agg (T_api_Net.c a1.fNet)] (.one (.lit (.int .i64 x2))), (decide (x2 < p1_0.fNet.fBits)) = false, (x2 == a1.fNet.fBits) = false, SCall Try.prog 95 [.agg (T_api_Net.c a1.fNet), .one (.lit (.int .i64 x2))] (.one (.lit (.int .i64 (1 : Int)))), 0 ≤ (1 : Int) ∧ (1 : Int) < ((2 : Nat) : Int), SCall Try.prog 103 [.one (N_trie_node.c p1_3), .agg (T_trie_Hit.c a1)] (.one (N_trie_node.c x6)), 0 ≤ (1 : Int) ∧ (1 : Int) < ((2 : Nat) : Int)] (by kernel_rfl) rfl ⟨rfl, (g_trie_common_ok p1_0.fNet a1.fNet x2 q1), h2, h4, (g_trie_bit_ok a1.fNet x2 (1 : Int) q5), (by decide), (ih p1_3 a1 x6 q8), (by decide), trivial⟩

def g_trie_Trie_With_c0 (a2 : Int)  (v0 : N_trie_Trie) (b4 : T_api_Net) : Option N_trie_Trie :=
  (match v0 with
  | .nil =>
    none
  | .mk p3_0 p3_1 p3_2 =>
    (g_cidr_Right b4).bind fun x4 =>
    bif (!x4) then
      some (N_trie_Trie.mk p3_0 p3_1 p3_2)
    else
      (g_trie_Trie_Get (N_trie_Trie.mk p3_0 p3_1 p3_2) b4).bind fun x5 =>
      bif (!x5.2) then
        (g_trie_family b4.fAddr).bind fun x6 =>
        need (0 ≤ x6 ∧ x6 < ((2 : Nat) : Int)) <|
        ix2 x6 (
          (g_trie_with 1000 p3_0 (T_trie_Hit.mk b4 a2)).bind fun x7 =>
          some (N_trie_Trie.mk x7 p3_1 (add64 p3_2 (1 : Int)))) (
          (g_trie_with 1000 p3_1 (T_trie_Hit.mk b4 a2)).bind fun x8 =>
          some (N_trie_Trie.mk p3_0 x8 (add64 p3_2 (1 : Int))))
      else
        (g_trie_family b4.fAddr).bind fun x9 =>
        need (0 ≤ x9 ∧ x9 < ((2 : Nat) : Int)) <|
        ix2 x9 (
          (g_trie_with 1000 p3_0 (T_trie_Hit.mk b4 a2)).bind fun x10 =>
          some (N_trie_Trie.mk x10 p3_1 p3_2)) (
          (g_trie_with 1000 p3_1 (T_trie_Hit.mk b4 a2)).bind fun x11 =>
          some (N_trie_Trie.mk p3_0 x11 p3_2)))

theorem g_trie_Trie_With_c0_ok (S0 : Nat → Prop) (w0 : Start) (a2 : Int)  (v0 : N_trie_Trie) (b4 : T_api_Net) (r : N_trie_Trie) (hf : g_trie_Trie_With_c0 a2  v0 b4 = some r) : Good Try.prog 48 S0 w0 (bodyPost Try.prog Try.f50 (Post S0 w0 (.one (N_trie_Trie.c r)))) (at_ [1, 1] (bodyOf Try.f50)) ⟨[(0, .one (N_trie_Trie.c v0)), (2, .one (.lit (.int .i64 a2))), (4, .one (.ptr 4 0))], [(4, .box [.lit (.bool b4.fAddr.fV6), .lit (.int .u64 b4.fAddr.fHi), .lit (.int .u64 b4.fAddr.fLo), .lit (.int .i64 b4.fBits)])]⟩ := by
  unfold g_trie_Trie_With_c0 at hf
  cases v0 with
  | nil =>
    dsimp only at hf
    cases hf
  | mk p3_0 p3_1 p3_2 =>
    dsimp only at hf
    obtain ⟨x4, q2, hf⟩ := bind_some' hf
    rcases br_some hf with ⟨h3, hf⟩ | ⟨h3, hf⟩
    · replace hf := Option.some.inj hf
      subst hf
      exact toEnd_good allOk 8 _ _ [⟨[], [], [], [], [], [], []⟩, ⟨[(1, .r (.one (.lit (.bool x4))) [])], [], [], [], [], [], []⟩, ⟨[], [], [], [], [], [], []⟩] [true] [7] [] [] [SCall Try.prog 93 [.agg (T_api_Net.c b4)] (.one (.lit (.bool x4))), (!x4) = true] (by kernel_rfl) rfl ⟨(g_cidr_Right_ok b4 x4 q2), h3, trivial⟩
    · obtain ⟨x5, q4, hf⟩ := bind_some' hf
      rcases br_some hf with ⟨h5, hf⟩ | ⟨h5, hf⟩
      · obtain ⟨x6, q6, hf⟩ := bind_some' hf
        obtain ⟨o7, hf⟩ := need_some hf
        rcases ix2_some o7 hf with ⟨e, hf⟩ | ⟨e, hf⟩
        · subst e
          obtain ⟨x7, q8, hf⟩ := bind_some' hf
          replace hf := Option.some.inj hf
          subst hf
          exact toEnd_good allOk 20 _ _ [⟨[], [], [], [], [], [], []⟩, ⟨[(1, .r (.one (.lit (.bool x4))) [])], [], [], [], [], [], []⟩, ⟨[(2, .r (.tup [(false, (cI .i64) x5.1), (false, cB x5.2)]) [])], [], [], [], [], [], []⟩, ⟨[], [], [], [], [], [], []⟩, ⟨[], [], [], [], [], [], []⟩, ⟨[(2, .r (.one (.lit (.int .i64 (0 : Int)))) [])], [], [], [], [], [], []⟩, ⟨[(10, .r (.one (N_trie_node.c x7)) [])], [], [], [[], [], [], [1], [3, 1], [4, 3, 1, 2], [5, 4, 3, 1, 2], [], [], [7, 8], [6, 5, 4, 3, 1, 2, 9, 7, 8], [], [11, 0, 1, 2, 3, 4, 5, 6, 7, 8, 9, 10], [12, 11, 0, 1, 2, 3, 4, 5, 6, 7, 8, 9, 10]], [], [], []⟩, ⟨[], [], [], [], [], [], []⟩] [false, true] [7] [] [] [SCall Try.prog 93 [.agg (T_api_Net.c b4)] (.one (.lit (.bool x4))), (!x4) = false, SCall Try.prog 43 [.one (N_trie_Trie.c (N_trie_Trie.mk p3_0 p3_1 p3_2)), .agg (T_api_Net.c b4)] (.tup [(false, (cI .i64) x5.1), (false, cB x5.2)]), (!x5.2) = true, SCall Try.prog 94 [.agg (T_api_Addr.c b4.fAddr)] (.one (.lit (.int .i64 (0 : Int)))), 0 ≤ (0 : Int) ∧ (0 : Int) < ((2 : Nat) : Int), SCall Try.prog 103 [.one (N_trie_node.c p3_0), .agg (T_trie_Hit.c (T_trie_Hit.mk b4 a2))] (.one (N_trie_node.c x7)), 0 ≤ (0 : Int) ∧ (0 : Int) < ((2 : Nat) : Int)] (by kernel_rfl) rfl ⟨(g_cidr_Right_ok b4 x4 q2), h3, (g_trie_Trie_Get_ok (N_trie_Trie.mk p3_0 p3_1 p3_2) b4 x5 q4), h5, (g_trie_family_ok b4.fAddr (0 : Int) q6), (by decide), (g_trie_with_ok 1000 p3_0 (T_trie_Hit.mk b4 a2) x7 q8), (by decide), trivial⟩
        · subst e
          obtain ⟨x8, q9, hf⟩ := bind_some' hf
          replace hf := Option.some.inj hf
          subst hf
          exact toEnd_good allOk 20 _ _ [⟨[], [], [], [], [], [], []⟩, ⟨[(1, .r (.one (.lit (.bool x4))) [])], [], [], [], [], [], []⟩, ⟨[(2, .r (.tup [(false, (cI .i64) x5.1), (false, cB x5.2)]) [])], [], [], [], [], [], []⟩, ⟨[], [], [], [], [], [], []⟩, ⟨[], [], [], [], [], [], []⟩, ⟨[(2, .r (.one (.lit (.int .i64 (1 : Int)))) [])], [], [], [], [], [], []⟩, ⟨[(10, .r (.one (N_trie_node.c x8)) [])], [], [], [[], [], [], [1], [3, 1], [4, 3, 1, 2], [5, 4, 3, 1, 2], [], [], [7, 8], [6, 5, 4, 3, 1, 2, 9, 7, 8], [], [11, 0, 1, 2, 3, 4, 5, 6, 7, 8, 9, 10], [12, 11, 0, 1, 2, 3, 4, 5, 6, 7, 8, 9, 10]], [], [], []⟩, ⟨[], [], [], [], [], [], []⟩] [false, true] [7] [] [] [SCall Try.prog 93 [.agg (T_api_Net.c b4)] (.one (.lit (.bool x4))), (!x4) = false, SCall Try.prog 43 [.one (N_trie_Trie.c (N_trie_Trie.mk p3_0 p3_1 p3_2)), .agg (T_api_Net.c b4)] (.tup [(false, (cI .i64) x5.1), (false, cB x5.2)]), (!x5.2) = true, SCall Try.prog 94 [.agg (T_api_Addr.c b4.fAddr)] (.one (.lit (.int .i64 (1 : Int)))), 0 ≤ (1 : Int) ∧ (1 : Int) < ((2 : Nat) : Int), SCall Try.prog 103 [.one (N_trie_node.c p3_1), .agg (T_trie_Hit.c (T_trie_Hit.mk b4 a2))] (.one (N_trie_node.c x8)), 0 ≤ (1 : Int) ∧ (1 : Int) < ((2 : Nat) : Int)] (by kernel_rfl) rfl ⟨(g_cidr_Right_ok b4 x4 q2), h3, (g_trie_Trie_Get_ok (N_trie_Trie.mk p3_0 p3_1 p3_2) b4 x5 q4), h5, (g_trie_family_ok b4.fAddr (1 : Int) q6), (by decide), (g_trie_with_ok 1000 p3_1 (T_trie_Hit.mk b4 a2) x8 q9), (by decide), trivial⟩
      · obtain ⟨x9, q10, hf⟩ := bind_some' hf
        obtain ⟨o11, hf⟩ := need_some hf
        rcases ix2_some o11 hf with ⟨e, hf⟩ | ⟨e, hf⟩
        · subst e
          obtain ⟨x10, q12, hf⟩ := bind_some' hf
          replace hf := Option.some.inj hf
          subst hf
          exact toEnd_good allOk 20 _ _ [⟨[], [], [], [], [], [], []⟩, ⟨[(1, .r (.one (.lit (.bool x4))) [])], [], [], [], [], [], []⟩, ⟨[(2, .r (.tup [(false, (cI .i64) x5.1), (false, cB x5.2)]) [])], [], [], [], [], [], []⟩, ⟨[], [], [], [], [], [], []⟩, ⟨[(2, .r (.one (.lit (.int .i64 (0 : Int)))) [])], [], [], [], [], [], []⟩, ⟨[(10, .r (.one (N_trie_node.c x10)) [])], [], [], [[], [], [], [1], [3, 1], [4, 3, 1, 2], [5, 4, 3, 1, 2], [], [], [7, 8], [6, 5, 4, 3, 1, 2, 9, 7, 8], [], [11, 0, 1, 2, 3, 4, 5, 6, 7, 8, 9, 10], [12, 11, 0, 1, 2, 3, 4, 5, 6, 7, 8, 9, 10]], [], [], []⟩, ⟨[], [], [], [], [], [], []⟩] [false, false] [7] [] [] [SCall Try.prog 93 [.agg (T_api_Net.c b4)] (.one (.lit (.bool x4))), (!x4) = false, SCall Try.prog 43 [.one (N_trie_Trie.c (N_trie_Trie.mk p3_0 p3_1 p3_2)), .agg (T_api_Net.c b4)] (.tup [(false, (cI .i64) x5.1), (false, cB x5.2)]), (!x5.2) = false, SCall Try.prog 94 [.agg (T_api_Addr.c b4.fAddr)] (.one (.lit (.int .i64 (0 : Int)))), 0 ≤ (0 : Int) ∧ (0 : Int) < ((2 : Nat) : Int), SCall Try.prog 103 [.one (N_trie_node.c p3_0), .agg (T_trie_Hit.c (T_trie_Hit.mk b4 a2))] (.one (N_trie_node.c x10)), 0 ≤ (0 : Int) ∧ (0 : Int) < ((2 : Nat) : Int)] (by kernel_rfl) rfl ⟨(g_cidr_Right_ok b4 x4 q2), h3, (g_trie_Trie_Get_ok (N_trie_Trie.mk p3_0 p3_1 p3_2) b4 x5 q4), h5, (g_trie_family_ok b4.fAddr (0 : Int) q10), (by decide), (g_trie_with_ok 1000 p3_0 (T_trie_Hit.mk b4 a2) x10 q12), (by decide), trivial⟩
        · subst e
          obtain ⟨x11, q13, hf⟩ := bind_some' hf
          replace hf := Option.some.inj hf
          subst hf
          exact toEnd_good allOk 20 _ _ [⟨[], [], [], [], [], [], []⟩, ⟨[(1, .r (.one (.lit (.bool x4))) [])], [], [], [], [], [], []⟩, ⟨[(2, .r (.tup [(false, (cI .i64) x5.1), (false, cB x5.2)]) [])], [], [], [], [], [], []⟩, ⟨[], [], [], [], [], [], []⟩, ⟨[(2, .r (.one (.lit (.int .i64 (1 : Int)))) [])], [], [], [], [], [], []⟩, ⟨[(10, .r (.one (N_trie_node.c x11)) [])], [], [], [[], [], [], [1], [3, 1], [4, 3, 1, 2], [5, 4, 3, 1, 2], [], [], [7, 8], [6, 5, 4, 3, 1, 2, 9, 7, 8], [], [11, 0, 1, 2, 3, 4, 5, 6, 7, 8, 9, 10], [12, 11, 0, 1, 2, 3, 4, 5, 6, 7, 8, 9, 10]], [], [], []⟩, ⟨[], [], [], [], [], [], []⟩] [false, false] [7] [] [] [SCall Try.prog 93 [.agg (T_api_Net.c b4)] (.one (.lit (.bool x4))), (!x4) = false, SCall Try.prog 43 [.one (N_trie_Trie.c (N_trie_Trie.mk p3_0 p3_1 p3_2)), .agg (T_api_Net.c b4)] (.tup [(false, (cI .i64) x5.1), (false, cB x5.2)]), (!x5.2) = false, SCall Try.prog 94 [.agg (T_api_Addr.c b4.fAddr)] (.one (.lit (.int .i64 (1 : Int)))), 0 ≤ (1 : Int) ∧ (1 : Int) < ((2 : Nat) : Int), SCall Try.prog 103 [.one (N_trie_node.c p3_1), .agg (T_trie_Hit.c (T_trie_Hit.mk b4 a2))] (.one (N_trie_node.c x11)), 0 ≤ (1 : Int) ∧ (1 : Int) < ((2 : Nat) : Int)] (by kernel_rfl) rfl ⟨(g_cidr_Right_ok b4 x4 q2), h3, (g_trie_Trie_Get_ok (N_trie_Trie.mk p3_0 p3_1 p3_2) b4 x5 q4), h5, (g_trie_family_ok b4.fAddr (1 : Int) q10), (by decide), (g_trie_with_ok 1000 p3_1 (T_trie_Hit.mk b4 a2) x11 q13), (by decide), trivial⟩

/-- (*doorman/trie.Trie).With -/
def g_trie_Trie_With (a0 : N_trie_Trie) (a1 : T_api_Net) (a2 : Int) : Option N_trie_Trie :=
  (match a0 with
  | .nil =>
    (g_trie_New).bind fun x2 =>
    g_trie_Trie_With_c0 a2  x2 a1
  | .mk p1_0 p1_1 p1_2 =>
    g_trie_Trie_With_c0 a2  (N_trie_Trie.mk p1_0 p1_1 p1_2) a1)

theorem g_trie_Trie_With_ok (a0 : N_trie_Trie) (a1 : T_api_Net) (a2 : Int) (r : N_trie_Trie) (hf : g_trie_Trie_With a0 a1 a2 = some r) : SCall Try.prog 50 [.one (N_trie_Trie.c a0), .agg (T_api_Net.c a1), .one (.lit (.int .i64 a2))] (.one (N_trie_Trie.c r)) := by
  refine SCall.of Try.func50 rfl rfl rfl rfl fun S0 w0 => ?_
  unfold g_trie_Trie_With at hf
  cases a0 with
  | nil =>
    dsimp only at hf
    obtain ⟨x2, q1, hf⟩ := bind_some' hf
    exact toK_good allOk Post.ends 7 _ _ _ _ [⟨[], [], [], [], [], [], []⟩, ⟨[], [], [], [], [], [], []⟩, ⟨[(0, .r (.one (N_trie_Trie.c x2)) [])], [], [], [], [], [], []⟩] [true] ⟨[], [], [], [], [], [0, 2, 4], [4], []⟩ [true = true, SCall Try.prog 39 [] (.one (N_trie_Trie.c x2))] (by kernel_rfl) ⟨rfl, (g_trie_New_ok  x2 q1), trivial⟩ (g_trie_Trie_With_c0_ok S0 w0 a2   x2 a1 r hf)
  | mk p1_0 p1_1 p1_2 =>
    dsimp only at hf
    exact toK_good allOk Post.ends 7 _ _ _ _ [⟨[], [], [], [], [], [], []⟩, ⟨[], [], [], [], [], [], []⟩] [false] ⟨[], [], [], [], [], [0, 2, 4], [4], []⟩ [false = false] (by kernel_rfl) ⟨rfl, trivial⟩ (g_trie_Trie_With_c0_ok S0 w0 a2   (N_trie_Trie.mk p1_0 p1_1 p1_2) a1 r hf)

/-- doorman/cidr.Has -/
def g_cidr_Has (a0 : T_api_Net) (a1 : T_api_Addr) : Option Bool :=
  (g_cidr_Right a0).bind fun x1 =>
  bif x1 then
    (g_addr_Right a1).bind fun x2 =>
    bif x2 then
      bif (a0.fAddr.fV6 == a1.fV6) then
        (g_cidr_Mask a1 a0.fBits).bind fun x3 =>
        some (decide (x3 = a0.fAddr))
      else
        some false
    else
      some false
  else
    some false

theorem g_cidr_Has_ok (a0 : T_api_Net) (a1 : T_api_Addr) (r : Bool) (hf : g_cidr_Has a0 a1 = some r) : SCall Try.prog 99 [.agg (T_api_Net.c a0), .agg (T_api_Addr.c a1)] (.one (.lit (.bool r))) := by
  refine SCall.of Try.func99 rfl rfl rfl rfl fun S0 w0 => ?_
  unfold g_cidr_Has at hf
  obtain ⟨x1, q1, hf⟩ := bind_some' hf
  rcases br_some hf with ⟨h2, hf⟩ | ⟨h2, hf⟩
  · obtain ⟨x2, q3, hf⟩ := bind_some' hf
    rcases br_some hf with ⟨h4, hf⟩ | ⟨h4, hf⟩
    · rcases br_some hf with ⟨h5, hf⟩ | ⟨h5, hf⟩
      · obtain ⟨x3, q6, hf⟩ := bind_some' hf
        replace hf := Option.some.inj hf
        subst hf
        exact toEnd_good allOk 4 _ _ [⟨[], [], [], [], [], [], []⟩, ⟨[(1, .r (.one (.lit (.bool x1))) []), (4, .r (.one (.lit (.bool x2))) []), (18, .r (.agg (T_api_Addr.c x3)) []), (21, .r (.one (.lit (.bool (decide (x3 = a0.fAddr))))) [])], [(2, true), (6, true), (14, true)], [], [[], [0], [1, 0], [2, 1, 0], [3, 2, 1, 0], [2, 1, 0, 4, 3], [5, 2, 1, 0, 4, 3], [6, 5, 2, 1, 0, 4, 3], [7, 6, 5, 2, 1, 0, 4, 3], [8, 7, 6, 5, 2, 1, 0, 4, 3], [6, 5, 2, 1, 0, 4, 3], [10, 6, 5, 2, 1, 0, 4, 3], [9, 8, 7, 6, 5, 2, 1, 0, 4, 3, 11, 10], [6, 5, 2, 1, 0, 4, 3, 12, 9, 8, 7, 11, 10], [13, 6, 5, 2, 1, 0, 4, 3, 12, 9, 8, 7, 11, 10], [14, 13, 6, 5, 2, 1, 0, 4, 3, 12, 9, 8, 7, 11, 10], [14, 13, 6, 5, 2, 1, 0, 4, 3, 12, 9, 8, 7, 11, 10], [16, 14, 13, 6, 5, 2, 1, 0, 4, 3, 12, 9, 8, 7, 11, 10], [15, 14, 13, 6, 5, 2, 1, 0, 4, 3, 12, 9, 8, 7, 11, 10, 17, 16], [14, 13, 6, 5, 2, 1, 0, 4, 3, 12, 9, 8, 7, 11, 10], [19, 14, 13, 6, 5, 2, 1, 0, 4, 3, 12, 9, 8, 7, 11, 10], [18, 15, 14, 13, 6, 5, 2, 1, 0, 4, 3, 12, 9, 8, 7, 11, 10, 17, 16, 20, 19], [14, 13, 6, 5, 2, 1, 0, 4, 3, 12, 9, 8, 7, 11, 10, 21, 18, 15, 17, 16, 20, 19], [22, 14, 13, 6, 5, 2, 1, 0, 4, 3, 12, 9, 8, 7, 11, 10, 21, 18, 15, 17, 16, 20, 19]], [], [], []⟩] [] [] [] [] [SCall Try.prog 93 [.agg (T_api_Net.c a0)] (.one (.lit (.bool x1))), x1 = true, SCall Try.prog 98 [.agg (T_api_Addr.c a1)] (.one (.lit (.bool x2))), x2 = true, (a0.fAddr.fV6 == a1.fV6) = true, SCall Try.prog 134 [.agg (T_api_Addr.c a1), .one (.lit (.int .i64 a0.fBits))] (.agg (T_api_Addr.c x3)), ∀ w, (do eqGuard .eql 33 (.tmp 23) (.tmp 25) (.agg #[.bool x3.fV6, .int .u64 x3.fHi, .int .u64 x3.fLo]) (.agg #[.bool a0.fAddr.fV6, .int .u64 a0.fAddr.fHi, .int .u64 a0.fAddr.fLo]); binOp .eql 33 (.agg #[.bool x3.fV6, .int .u64 x3.fHi, .int .u64 x3.fLo]) (.agg #[.bool a0.fAddr.fV6, .int .u64 a0.fAddr.fHi, .int .u64 a0.fAddr.fLo]) : Sem Value).run Try.prog w = .ok (.bool (decide (x3 = a0.fAddr))) w] (by kernel_rfl) rfl ⟨(g_cidr_Right_ok a0 x1 q1), h2, (g_addr_Right_ok a1 x2 q3), h4, h5, (g_cidr_Mask_ok a1 a0.fBits x3 q6), (eql_T_api_Addr x3 a0.fAddr _ _), trivial⟩
      · replace hf := Option.some.inj hf
        subst hf
        exact toEnd_good allOk 4 _ _ [⟨[], [], [], [], [], [], []⟩, ⟨[(1, .r (.one (.lit (.bool x1))) []), (4, .r (.one (.lit (.bool x2))) [])], [(2, true), (6, true), (14, false)], [], [[], [0], [1, 0], [2, 1, 0], [3, 2, 1, 0], [2, 1, 0, 4, 3], [5, 2, 1, 0, 4, 3], [6, 5, 2, 1, 0, 4, 3], [7, 6, 5, 2, 1, 0, 4, 3], [8, 7, 6, 5, 2, 1, 0, 4, 3], [6, 5, 2, 1, 0, 4, 3], [10, 6, 5, 2, 1, 0, 4, 3], [9, 8, 7, 6, 5, 2, 1, 0, 4, 3, 11, 10], [6, 5, 2, 1, 0, 4, 3, 12, 9, 8, 7, 11, 10], [13, 6, 5, 2, 1, 0, 4, 3, 12, 9, 8, 7, 11, 10], [14, 13, 6, 5, 2, 1, 0, 4, 3, 12, 9, 8, 7, 11, 10], [14, 13, 6, 5, 2, 1, 0, 4, 3, 12, 9, 8, 7, 11, 10], [16, 14, 13, 6, 5, 2, 1, 0, 4, 3, 12, 9, 8, 7, 11, 10], [15, 14, 13, 6, 5, 2, 1, 0, 4, 3, 12, 9, 8, 7, 11, 10, 17, 16], [14, 13, 6, 5, 2, 1, 0, 4, 3, 12, 9, 8, 7, 11, 10], [19, 14, 13, 6, 5, 2, 1, 0, 4, 3, 12, 9, 8, 7, 11, 10], [18, 15, 14, 13, 6, 5, 2, 1, 0, 4, 3, 12, 9, 8, 7, 11, 10, 17, 16, 20, 19], [14, 13, 6, 5, 2, 1, 0, 4, 3, 12, 9, 8, 7, 11, 10, 21, 18, 15, 17, 16, 20, 19], [22, 14, 13, 6, 5, 2, 1, 0, 4, 3, 12, 9, 8, 7, 11, 10, 21, 18, 15, 17, 16, 20, 19]], [], [], []⟩] [] [] [] [] [SCall Try.prog 93 [.agg (T_api_Net.c a0)] (.one (.lit (.bool x1))), x1 = true, SCall Try.prog 98 [.agg (T_api_Addr.c a1)] (.one (.lit (.bool x2))), x2 = true, (a0.fAddr.fV6 == a1.fV6) = false] (by kernel_rfl) rfl ⟨(g_cidr_Right_ok a0 x1 q1), h2, (g_addr_Right_ok a1 x2 q3), h4, h5, trivial⟩
    · replace hf := Option.some.inj hf
      subst hf
      exact toEnd_good allOk 4 _ _ [⟨[], [], [], [], [], [], []⟩, ⟨[(1, .r (.one (.lit (.bool x1))) []), (4, .r (.one (.lit (.bool x2))) [])], [(2, true), (6, false)], [], [[], [0], [1, 0], [2, 1, 0], [3, 2, 1, 0], [2, 1, 0, 4, 3], [5, 2, 1, 0, 4, 3], [6, 5, 2, 1, 0, 4, 3], [7, 6, 5, 2, 1, 0, 4, 3], [8, 7, 6, 5, 2, 1, 0, 4, 3], [6, 5, 2, 1, 0, 4, 3], [10, 6, 5, 2, 1, 0, 4, 3], [9, 8, 7, 6, 5, 2, 1, 0, 4, 3, 11, 10], [6, 5, 2, 1, 0, 4, 3, 12, 9, 8, 7, 11, 10], [13, 6, 5, 2, 1, 0, 4, 3, 12, 9, 8, 7, 11, 10], [14, 13, 6, 5, 2, 1, 0, 4, 3, 12, 9, 8, 7, 11, 10], [14, 13, 6, 5, 2, 1, 0, 4, 3, 12, 9, 8, 7, 11, 10], [16, 14, 13, 6, 5, 2, 1, 0, 4, 3, 12, 9, 8, 7, 11, 10], [15, 14, 13, 6, 5, 2, 1, 0, 4, 3, 12, 9, 8, 7, 11, 10, 17, 16], [14, 13, 6, 5, 2, 1, 0, 4, 3, 12, 9, 8, 7, 11, 10], [19, 14, 13, 6, 5, 2, 1, 0, 4, 3, 12, 9, 8, 7, 11, 10], [18, 15, 14, 13, 6, 5, 2, 1, 0, 4, 3, 12, 9, 8, 7, 11, 10, 17, 16, 20, 19], [14, 13, 6, 5, 2, 1, 0, 4, 3, 12, 9, 8, 7, 11, 10, 21, 18, 15, 17, 16, 20, 19], [22, 14, 13, 6, 5, 2, 1, 0, 4, 3, 12, 9, 8, 7, 11, 10, 21, 18, 15, 17, 16, 20, 19]], [], [], []⟩] [] [] [] [] [SCall Try.prog 93 [.agg (T_api_Net.c a0)] (.one (.lit (.bool x1))), x1 = true, SCall Try.prog 98 [.agg (T_api_Addr.c a1)] (.one (.lit (.bool x2))), x2 = false] (by kernel_rfl) rfl ⟨(g_cidr_Right_ok a0 x1 q1), h2, (g_addr_Right_ok a1 x2 q3), h4, trivial⟩
  · replace hf := Option.some.inj hf
    subst hf
    exact toEnd_good allOk 4 _ _ [⟨[], [], [], [], [], [], []⟩, ⟨[(1, .r (.one (.lit (.bool x1))) [])], [(2, false)], [], [[], [0], [1, 0], [2, 1, 0], [3, 2, 1, 0], [2, 1, 0, 4, 3], [5, 2, 1, 0, 4, 3], [6, 5, 2, 1, 0, 4, 3], [7, 6, 5, 2, 1, 0, 4, 3], [8, 7, 6, 5, 2, 1, 0, 4, 3], [6, 5, 2, 1, 0, 4, 3], [10, 6, 5, 2, 1, 0, 4, 3], [9, 8, 7, 6, 5, 2, 1, 0, 4, 3, 11, 10], [6, 5, 2, 1, 0, 4, 3, 12, 9, 8, 7, 11, 10], [13, 6, 5, 2, 1, 0, 4, 3, 12, 9, 8, 7, 11, 10], [14, 13, 6, 5, 2, 1, 0, 4, 3, 12, 9, 8, 7, 11, 10], [14, 13, 6, 5, 2, 1, 0, 4, 3, 12, 9, 8, 7, 11, 10], [16, 14, 13, 6, 5, 2, 1, 0, 4, 3, 12, 9, 8, 7, 11, 10], [15, 14, 13, 6, 5, 2, 1, 0, 4, 3, 12, 9, 8, 7, 11, 10, 17, 16], [14, 13, 6, 5, 2, 1, 0, 4, 3, 12, 9, 8, 7, 11, 10], [19, 14, 13, 6, 5, 2, 1, 0, 4, 3, 12, 9, 8, 7, 11, 10], [18, 15, 14, 13, 6, 5, 2, 1, 0, 4, 3, 12, 9, 8, 7, 11, 10, 17, 16, 20, 19], [14, 13, 6, 5, 2, 1, 0, 4, 3, 12, 9, 8, 7, 11, 10, 21, 18, 15, 17, 16, 20, 19], [22, 14, 13, 6, 5, 2, 1, 0, 4, 3, 12, 9, 8, 7, 11, 10, 21, 18, 15, 17, 16, 20, 19]], [], [], []⟩] [] [] [] [] [SCall Try.prog 93 [.agg (T_api_Net.c a0)] (.one (.lit (.bool x1))), x1 = false] (by kernel_rfl) rfl ⟨(g_cidr_Right_ok a0 x1 q1), h2, trivial⟩

def g_trie_Trie_Cover_c0   : Nat → N_trie_node → (List T_trie_Hit) → T_api_Addr → Option (List T_trie_Hit)
  | 0, _, _, _ => none
  | fu + 1, v6, w5, b3 =>
    (match v6 with
    | .nil =>
      some w5
    | .mk p4_0 p4_1 p4_2 p4_3 =>
      (g_cidr_Has p4_0.fNet b3).bind fun x5 =>
      bif x5 then
        bif p4_1 then
          need ((w5 ++ ([p4_0] : List T_trie_Hit)).length * 40 ≤ 140737488355328 ∧ (w5 ++ ([p4_0] : List T_trie_Hit)).length ≤ maxLen) <|
          (g_addr_Bit b3 p4_0.fNet.fBits).bind fun x6 =>
          need (0 ≤ x6 ∧ x6 < ((2 : Nat) : Int)) <|
          ix2 x6 (
            g_trie_Trie_Cover_c0   fu p4_2 (w5 ++ ([p4_0] : List T_trie_Hit)) b3) (
            g_trie_Trie_Cover_c0   fu p4_3 (w5 ++ ([p4_0] : List T_trie_Hit)) b3)
        else
          (g_addr_Bit b3 p4_0.fNet.fBits).bind fun x7 =>
          need (0 ≤ x7 ∧ x7 < ((2 : Nat) : Int)) <|
          ix2 x7 (
            g_trie_Trie_Cover_c0   fu p4_2 w5 b3) (
            g_trie_Trie_Cover_c0   fu p4_3 w5 b3)
      else
        some w5)

theorem g_trie_Trie_Cover_c0_ok (S0 : Nat → Prop) (w0 : Start)   : ∀ (fu : Nat) (v6 : N_trie_node) (w5 : (List T_trie_Hit)) (b3 : T_api_Addr) (r : (List T_trie_Hit)), g_trie_Trie_Cover_c0   fu v6 w5 b3 = some r → Good Try.prog 57 S0 w0 (bodyPost Try.prog Try.f48 (HPost S0 w0 [(99999, .rows 101 5 r.length (rowsOf T_trie_Hit.c T_trie_Hit.d r))] (.one (.osl 99999 r.length)))) (at_ [1, 1, 1, 1, 0, 0] (bodyOf Try.f48)) ⟨[(3, .one (.ptr 3 0)), (5, .one (.osl 5 w5.length)), (6, .one (N_trie_node.c v6))], [(5, .rows 101 5 w5.length (rowsOf T_trie_Hit.c T_trie_Hit.d w5)), (3, .box [.lit (.bool b3.fV6), .lit (.int .u64 b3.fHi), .lit (.int .u64 b3.fLo)])]⟩ := by
  intro fu
  induction fu with
  | zero =>
    intro v6 w5 b3 r hf
    simp [g_trie_Trie_Cover_c0] at hf
  | succ fu ih =>
    intro v6 w5 b3 r hf
    unfold g_trie_Trie_Cover_c0 at hf
    cases v6 with
    | nil =>
      dsimp only at hf
      replace hf := Option.some.inj hf
      subst hf
      exact toEndH_good allOk 8 _ _ [⟨[], [], [], [[], [0], [1, 0], [2, 1, 0], [3, 2, 1, 0], [4, 3, 2, 1, 0], [5, 4, 3, 2, 1, 0], [6, 5, 4, 3, 2, 1, 0], [2, 1, 0], [7, 6, 5, 4, 3, 2, 1, 0, 8], [2, 1, 0, 9, 7, 6, 5, 4, 3, 8]], [], [], []⟩, ⟨[], [], [], [], [], [], []⟩] [false] ⟨[], [], [], [], [], [4], [5], [(5, 99999)]⟩ [false = false] (by kernel_rfl) ⟨rfl, trivial⟩
    | mk p4_0 p4_1 p4_2 p4_3 =>
      dsimp only at hf
      obtain ⟨x5, q5, hf⟩ := bind_some' hf
      rcases br_some hf with ⟨h6, hf⟩ | ⟨h6, hf⟩
      · rcases br_some hf with ⟨h7, hf⟩ | ⟨h7, hf⟩
        · obtain ⟨o8, hf⟩ := need_some hf
          obtain ⟨x6, q9, hf⟩ := bind_some' hf
          obtain ⟨o10, hf⟩ := need_some hf
          rcases ix2_some o10 hf with ⟨e, hf⟩ | ⟨e, hf⟩
          · subst e
            exact toK_good allOk HPost.ends 15 _ _ _ _ [⟨[(9, .r (.one (.lit (.bool x5))) [])], [], [], [[], [0], [1, 0], [2, 1, 0], [3, 2, 1, 0], [4, 3, 2, 1, 0], [5, 4, 3, 2, 1, 0], [6, 5, 4, 3, 2, 1, 0], [2, 1, 0], [7, 6, 5, 4, 3, 2, 1, 0, 8], [2, 1, 0, 9, 7, 6, 5, 4, 3, 8]], [], [], []⟩, ⟨[], [], [], [], [], [], []⟩, ⟨[(6, .c ((w5 ++ ([p4_0] : List T_trie_Hit)).length) (rowsOf T_trie_Hit.c T_trie_Hit.d (w5 ++ ([p4_0] : List T_trie_Hit))))], [], [], [], [], [(5, (([p4_0] : List T_trie_Hit).length, rowsOf T_trie_Hit.c T_trie_Hit.d ([p4_0] : List T_trie_Hit)))], []⟩, ⟨[(8, .r (.one (.lit (.int .i64 (0 : Int)))) [])], [], [], [[], [], [], [2], [3, 2], [4, 3, 2], [5, 4, 3, 2], [6, 5, 4, 3, 2], [1, 7, 6, 5, 4, 3, 2], [0], [9, 0], [10, 9, 0, 8, 1, 7, 6, 5, 4, 3, 2], [11, 10, 9, 0, 8, 1, 7, 6, 5, 4, 3, 2], [12, 11, 10, 9, 0, 8, 1, 7, 6, 5, 4, 3, 2]], [], [], []⟩] [true, true] ⟨[], [], [], [], [], [3, 5, 6], [42, 3], [(42, 5)]⟩ [SCall Try.prog 99 [.agg (T_api_Net.c p4_0.fNet), .agg (T_api_Addr.c b3)] (.one (.lit (.bool x5))), x5 = true, p4_1 = true, ([p4_0] : List T_trie_Hit).length = 1 ∧ ∀ i j, i < 1 → j < 5 → rowsOf T_trie_Hit.c T_trie_Hit.d ([p4_0] : List T_trie_Hit) i j = (([p4_0] : List T_trie_Hit).flatMap T_trie_Hit.c).getD (i * 5 + j) .junk, Ext 5 w5.length (([p4_0] : List T_trie_Hit).length) (rowsOf T_trie_Hit.c T_trie_Hit.d w5) (rowsOf T_trie_Hit.c T_trie_Hit.d ([p4_0] : List T_trie_Hit)) ((w5 ++ ([p4_0] : List T_trie_Hit)).length) (rowsOf T_trie_Hit.c T_trie_Hit.d (w5 ++ ([p4_0] : List T_trie_Hit))), (w5 ++ ([p4_0] : List T_trie_Hit)).length * 40 ≤ 140737488355328, (w5 ++ ([p4_0] : List T_trie_Hit)).length ≤ maxLen, SCall Try.prog 100 [.agg (T_api_Addr.c b3), .one (.lit (.int .i64 p4_0.fNet.fBits))] (.one (.lit (.int .i64 (0 : Int)))), 0 ≤ (0 : Int) ∧ (0 : Int) < ((2 : Nat) : Int)] (by kernel_rfl) ⟨(g_cidr_Has_ok p4_0.fNet b3 x5 q5), h6, h7, ⟨rfl, fun i j hi hj => rows_flat (sz := 5) (e := T_trie_Hit.c) (d := T_trie_Hit.d) (fun _ => rfl) ([p4_0] : List T_trie_Hit) i j hi hj⟩, (ext_app _ _), o8.1, o8.2, (g_addr_Bit_ok b3 p4_0.fNet.fBits (0 : Int) q9), (by decide), trivial⟩ (ih p4_2 (w5 ++ ([p4_0] : List T_trie_Hit)) b3 r hf)
          · subst e
            exact toK_good allOk HPost.ends 15 _ _ _ _ [⟨[(9, .r (.one (.lit (.bool x5))) [])], [], [], [[], [0], [1, 0], [2, 1, 0], [3, 2, 1, 0], [4, 3, 2, 1, 0], [5, 4, 3, 2, 1, 0], [6, 5, 4, 3, 2, 1, 0], [2, 1, 0], [7, 6, 5, 4, 3, 2, 1, 0, 8], [2, 1, 0, 9, 7, 6, 5, 4, 3, 8]], [], [], []⟩, ⟨[], [], [], [], [], [], []⟩, ⟨[(6, .c ((w5 ++ ([p4_0] : List T_trie_Hit)).length) (rowsOf T_trie_Hit.c T_trie_Hit.d (w5 ++ ([p4_0] : List T_trie_Hit))))], [], [], [], [], [(5, (([p4_0] : List T_trie_Hit).length, rowsOf T_trie_Hit.c T_trie_Hit.d ([p4_0] : List T_trie_Hit)))], []⟩, ⟨[(8, .r (.one (.lit (.int .i64 (1 : Int)))) [])], [], [], [[], [], [], [2], [3, 2], [4, 3, 2], [5, 4, 3, 2], [6, 5, 4, 3, 2], [1, 7, 6, 5, 4, 3, 2], [0], [9, 0], [10, 9, 0, 8, 1, 7, 6, 5, 4, 3, 2], [11, 10, 9, 0, 8, 1, 7, 6, 5, 4, 3, 2], [12, 11, 10, 9, 0, 8, 1, 7, 6, 5, 4, 3, 2]], [], [], []⟩] [true, true] ⟨[], [], [], [], [], [3, 5, 6], [42, 3], [(42, 5)]⟩ [SCall Try.prog 99 [.agg (T_api_Net.c p4_0.fNet), .agg (T_api_Addr.c b3)] (.one (.lit (.bool x5))), x5 = true, p4_1 = true, ([p4_0] : List T_trie_Hit).length = 1 ∧ ∀ i j, i < 1 → j < 5 → rowsOf T_trie_Hit.c T_trie_Hit.d ([p4_0] : List T_trie_Hit) i j = (([p4_0] : List T_trie_Hit).flatMap T_trie_Hit.c).getD (i * 5 + j) .junk, Ext 5 w5.length (([p4_0] : List T_trie_Hit).length) (rowsOf T_trie_Hit.c T_trie_Hit.d w5) (rowsOf T_trie_Hit.c T_trie_Hit.d ([p4_0] : List T_trie_Hit)) ((w5 ++ ([p4_0] : List T_trie_Hit)).length) (rowsOf T_trie_Hit.c T_trie_Hit.d (w5 ++ ([p4_0] : List T_trie_Hit))), (w5 ++ ([p4_0] : List T_trie_Hit)).length * 40 ≤ 140737488355328, (w5 ++ ([p4_0] : List T_trie_Hit)).length ≤ maxLen, SCall Try.prog 100 [.agg (T_api_Addr.c b3), .one (.lit (.int .i64 p4_0.fNet.fBits))] (.one (.lit (.int .i64 (1 : Int)))), 0 ≤ (1 : Int) ∧ (1 : Int) < ((2 : Nat) : Int)] (by kernel_rfl) ⟨(g_cidr_Has_ok p4_0.fNet b3 x5 q5), h6, h7, ⟨rfl, fun i j hi hj => rows_flat (sz := 5) (e := T_trie_Hit.c) (d := T_trie_Hit.d) (fun _ => rfl) ([p4_0] : List T_trie_Hit) i j hi hj⟩, (ext_app _ _), o8.1, o8.2, (g_addr_Bit_ok b3 p4_0.fNet.fBits (1 : Int) q9), (by decide), trivial⟩ (ih p4_3 (w5 ++ ([p4_0] : List T_trie_Hit)) b3 r hf)
        · obtain ⟨x7, q11, hf⟩ := bind_some' hf
          obtain ⟨o12, hf⟩ := need_some hf
          rcases ix2_some o12 hf with ⟨e, hf⟩ | ⟨e, hf⟩
          · subst e
            exact toK_good allOk HPost.ends 15 _ _ _ _ [⟨[(9, .r (.one (.lit (.bool x5))) [])], [], [], [[], [0], [1, 0], [2, 1, 0], [3, 2, 1, 0], [4, 3, 2, 1, 0], [5, 4, 3, 2, 1, 0], [6, 5, 4, 3, 2, 1, 0], [2, 1, 0], [7, 6, 5, 4, 3, 2, 1, 0, 8], [2, 1, 0, 9, 7, 6, 5, 4, 3, 8]], [], [], []⟩, ⟨[], [], [], [], [], [], []⟩, ⟨[(8, .r (.one (.lit (.int .i64 (0 : Int)))) [])], [], [], [[], [], [], [2], [3, 2], [4, 3, 2], [5, 4, 3, 2], [6, 5, 4, 3, 2], [1, 7, 6, 5, 4, 3, 2], [0], [9, 0], [10, 9, 0, 8, 1, 7, 6, 5, 4, 3, 2], [11, 10, 9, 0, 8, 1, 7, 6, 5, 4, 3, 2], [12, 11, 10, 9, 0, 8, 1, 7, 6, 5, 4, 3, 2]], [], [], []⟩] [true, false] ⟨[], [], [], [], [], [3, 5, 6], [5, 3], []⟩ [SCall Try.prog 99 [.agg (T_api_Net.c p4_0.fNet), .agg (T_api_Addr.c b3)] (.one (.lit (.bool x5))), x5 = true, p4_1 = false, SCall Try.prog 100 [.agg (T_api_Addr.c b3), .one (.lit (.int .i64 p4_0.fNet.fBits))] (.one (.lit (.int .i64 (0 : Int)))), 0 ≤ (0 : Int) ∧ (0 : Int) < ((2 : Nat) : Int)] (by kernel_rfl) ⟨(g_cidr_Has_ok p4_0.fNet b3 x5 q5), h6, h7, (g_addr_Bit_ok b3 p4_0.fNet.fBits (0 : Int) q11), (by decide), trivial⟩ (ih p4_2 w5 b3 r hf)
          · subst e
            exact toK_good allOk HPost.ends 15 _ _ _ _ [⟨[(9, .r (.one (.lit (.bool x5))) [])], [], [], [[], [0], [1, 0], [2, 1, 0], [3, 2, 1, 0], [4, 3, 2, 1, 0], [5, 4, 3, 2, 1, 0], [6, 5, 4, 3, 2, 1, 0], [2, 1, 0], [7, 6, 5, 4, 3, 2, 1, 0, 8], [2, 1, 0, 9, 7, 6, 5, 4, 3, 8]], [], [], []⟩, ⟨[], [], [], [], [], [], []⟩, ⟨[(8, .r (.one (.lit (.int .i64 (1 : Int)))) [])], [], [], [[], [], [], [2], [3, 2], [4, 3, 2], [5, 4, 3, 2], [6, 5, 4, 3, 2], [1, 7, 6, 5, 4, 3, 2], [0], [9, 0], [10, 9, 0, 8, 1, 7, 6, 5, 4, 3, 2], [11, 10, 9, 0, 8, 1, 7, 6, 5, 4, 3, 2], [12, 11, 10, 9, 0, 8, 1, 7, 6, 5, 4, 3, 2]], [], [], []⟩] [true, false] ⟨[], [], [], [], [], [3, 5, 6], [5, 3], []⟩ [SCall Try.prog 99 [.agg (T_api_Net.c p4_0.fNet), .agg (T_api_Addr.c b3)] (.one (.lit (.bool x5))), x5 = true, p4_1 = false, SCall Try.prog 100 [.agg (T_api_Addr.c b3), .one (.lit (.int .i64 p4_0.fNet.fBits))] (.one (.lit (.int .i64 (1 : Int)))), 0 ≤ (1 : Int) ∧ (1 : Int) < ((2 : Nat) : Int)] (by kernel_rfl) ⟨(g_cidr_Has_ok p4_0.fNet b3 x5 q5), h6, h7, (g_addr_Bit_ok b3 p4_0.fNet.fBits (1 : Int) q11), (by decide), trivial⟩ (ih p4_3 w5 b3 r hf)
      · replace hf := Option.some.inj hf
        subst hf
        exact toEndH_good allOk 8 _ _ [⟨[(9, .r (.one (.lit (.bool x5))) [])], [], [], [[], [0], [1, 0], [2, 1, 0], [3, 2, 1, 0], [4, 3, 2, 1, 0], [5, 4, 3, 2, 1, 0], [6, 5, 4, 3, 2, 1, 0], [2, 1, 0], [7, 6, 5, 4, 3, 2, 1, 0, 8], [2, 1, 0, 9, 7, 6, 5, 4, 3, 8]], [], [], []⟩, ⟨[], [], [], [], [], [], []⟩] [false] ⟨[], [], [], [], [], [4], [5], [(5, 99999)]⟩ [SCall Try.prog 99 [.agg (T_api_Net.c p4_0.fNet), .agg (T_api_Addr.c b3)] (.one (.lit (.bool x5))), x5 = false] (by kernel_rfl) ⟨(g_cidr_Has_ok p4_0.fNet b3 x5 q5), h6, trivial⟩

/-- (*doorman/trie.Trie).Cover -/
def g_trie_Trie_Cover (a0 : N_trie_Trie) (a1 : T_api_Addr) : Option (List T_trie_Hit) :=
  (match a0 with
  | .nil =>
    some ([] : List T_trie_Hit)
  | .mk p1_0 p1_1 p1_2 =>
    (g_addr_Right a1).bind fun x2 =>
    bif (!x2) then
      some ([] : List T_trie_Hit)
    else
      (g_trie_family a1).bind fun x3 =>
      need (0 ≤ x3 ∧ x3 < ((2 : Nat) : Int)) <|
      ix2 x3 (
        g_trie_Trie_Cover_c0   1000000 p1_0 ([]) a1) (
        g_trie_Trie_Cover_c0   1000000 p1_1 ([]) a1))

theorem g_trie_Trie_Cover_own (a0 : N_trie_Trie) (a1 : T_api_Addr) (r : (List T_trie_Hit)) (hf : g_trie_Trie_Cover a0 a1 = some r) : HCall Try.prog 48 [] [.one (N_trie_Trie.c a0), .agg (T_api_Addr.c a1)] [(99999, .rows 101 5 r.length (rowsOf T_trie_Hit.c T_trie_Hit.d r))] (.one (.osl 99999 r.length)) := by
  refine HCall.of Try.func48 rfl rfl rfl rfl fun S0 w0 => ?_
  unfold g_trie_Trie_Cover at hf
  cases a0 with
  | nil =>
    dsimp only at hf
    replace hf := Option.some.inj hf
    subst hf
    exact toEndH_good allOk 8 _ _ [⟨[], [], [], [], [], [], []⟩, ⟨[], [], [], [], [], [], []⟩, ⟨[], [], [], [], [], [], []⟩] [true] ⟨[], [], [], [], [(4, 99999, 101, 5, rowsOf T_trie_Hit.c T_trie_Hit.d [])], [4], [99999], []⟩ [true = true] (by kernel_rfl) ⟨rfl, trivial⟩
  | mk p1_0 p1_1 p1_2 =>
    dsimp only at hf
    obtain ⟨x2, q1, hf⟩ := bind_some' hf
    rcases br_some hf with ⟨h2, hf⟩ | ⟨h2, hf⟩
    · replace hf := Option.some.inj hf
      subst hf
      exact toEndH_good allOk 8 _ _ [⟨[], [], [], [], [], [], []⟩, ⟨[(4, .r (.one (.lit (.bool x2))) [])], [], [], [], [], [], []⟩, ⟨[], [], [], [], [], [], []⟩] [true] ⟨[], [], [], [], [(4, 99999, 101, 5, rowsOf T_trie_Hit.c T_trie_Hit.d [])], [4], [99999], []⟩ [SCall Try.prog 98 [.agg (T_api_Addr.c a1)] (.one (.lit (.bool x2))), (!x2) = true] (by kernel_rfl) ⟨(g_addr_Right_ok a1 x2 q1), h2, trivial⟩
    · obtain ⟨x3, q3, hf⟩ := bind_some' hf
      obtain ⟨o4, hf⟩ := need_some hf
      rcases ix2_some o4 hf with ⟨e, hf⟩ | ⟨e, hf⟩
      · subst e
        exact toK_good allOk HPost.ends 13 _ _ _ _ [⟨[], [], [], [], [], [], []⟩, ⟨[(4, .r (.one (.lit (.bool x2))) [])], [], [], [], [], [], []⟩, ⟨[], [], [], [], [], [], []⟩, ⟨[(2, .r (.one (.lit (.int .i64 (0 : Int)))) [])], [], [], [[], [], [1], [0], [3, 0], [4, 3, 0, 2, 1], [5, 4, 3, 0, 2, 1], [6, 5, 4, 3, 0, 2, 1]], [], [], []⟩] [false] ⟨[], [], [], [], [(5, 5, 101, 5, rowsOf T_trie_Hit.c T_trie_Hit.d [])], [3, 5, 6], [5, 3], []⟩ [SCall Try.prog 98 [.agg (T_api_Addr.c a1)] (.one (.lit (.bool x2))), (!x2) = false, SCall Try.prog 94 [.agg (T_api_Addr.c a1)] (.one (.lit (.int .i64 (0 : Int)))), 0 ≤ (0 : Int) ∧ (0 : Int) < ((2 : Nat) : Int)] (by kernel_rfl) ⟨(g_addr_Right_ok a1 x2 q1), h2, (g_trie_family_ok a1 (0 : Int) q3), (by decide), trivial⟩ (g_trie_Trie_Cover_c0_ok S0 w0    1000000 p1_0 ([]) a1 r hf)
      · subst e
        exact toK_good allOk HPost.ends 13 _ _ _ _ [⟨[], [], [], [], [], [], []⟩, ⟨[(4, .r (.one (.lit (.bool x2))) [])], [], [], [], [], [], []⟩, ⟨[], [], [], [], [], [], []⟩, ⟨[(2, .r (.one (.lit (.int .i64 (1 : Int)))) [])], [], [], [[], [], [1], [0], [3, 0], [4, 3, 0, 2, 1], [5, 4, 3, 0, 2, 1], [6, 5, 4, 3, 0, 2, 1]], [], [], []⟩] [false] ⟨[], [], [], [], [(5, 5, 101, 5, rowsOf T_trie_Hit.c T_trie_Hit.d [])], [3, 5, 6], [5, 3], []⟩ [SCall Try.prog 98 [.agg (T_api_Addr.c a1)] (.one (.lit (.bool x2))), (!x2) = false, SCall Try.prog 94 [.agg (T_api_Addr.c a1)] (.one (.lit (.int .i64 (1 : Int)))), 0 ≤ (1 : Int) ∧ (1 : Int) < ((2 : Nat) : Int)] (by kernel_rfl) ⟨(g_addr_Right_ok a1 x2 q1), h2, (g_trie_family_ok a1 (1 : Int) q3), (by decide), trivial⟩ (g_trie_Trie_Cover_c0_ok S0 w0    1000000 p1_1 ([]) a1 r hf)

theorem g_trie_Trie_Cover_ok (a0 : N_trie_Trie) (a1 : T_api_Addr) (r : (List T_trie_Hit)) (hf : g_trie_Trie_Cover a0 a1 = some r) : SCall Try.prog 48 [.one (N_trie_Trie.c a0), .agg (T_api_Addr.c a1)] (.one (cL 5 T_trie_Hit.c T_trie_Hit.d r)) := (g_trie_Trie_Cover_own a0 a1 r hf).pure

/-- (*doorman/trie.Trie).Len -/
def g_trie_Trie_Len (a0 : N_trie_Trie) : Option Int :=
  (match a0 with
  | .nil =>
    some (0 : Int)
  | .mk p1_0 p1_1 p1_2 =>
    some p1_2)

theorem g_trie_Trie_Len_ok (a0 : N_trie_Trie) (r : Int) (hf : g_trie_Trie_Len a0 = some r) : SCall Try.prog 45 [.one (N_trie_Trie.c a0)] (.one (.lit (.int .i64 r))) := by
  refine SCall.of Try.func45 rfl rfl rfl rfl fun S0 w0 => ?_
  unfold g_trie_Trie_Len at hf
  cases a0 with
  | nil =>
    dsimp only at hf
    replace hf := Option.some.inj hf
    subst hf
    exact toEnd_good allOk 8 _ _ [⟨[], [], [], [], [], [], []⟩, ⟨[], [], [], [], [], [], []⟩, ⟨[], [], [], [], [], [], []⟩] [true] [] [] [] [true = true] (by kernel_rfl) rfl ⟨rfl, trivial⟩
  | mk p1_0 p1_1 p1_2 =>
    dsimp only at hf
    replace hf := Option.some.inj hf
    subst hf
    exact toEnd_good allOk 9 _ _ [⟨[], [], [], [], [], [], []⟩, ⟨[], [], [], [], [], [], []⟩, ⟨[], [], [], [], [], [], []⟩] [false] [] [] [] [false = false] (by kernel_rfl) rfl ⟨rfl, trivial⟩

/-- doorman/trie.short -/
def g_trie_short_n (a0_0 : T_trie_Hit) (a0_1 : Bool) (a0_2 : N_trie_node) (a0_3 : N_trie_node) : Option N_trie_node :=
  bif a0_1 then
    some (N_trie_node.mk a0_0 a0_1 a0_2 a0_3)
  else
    (match a0_2 with
    | .nil =>
      some a0_3
    | .mk p1_0 p1_1 p1_2 p1_3 =>
      (match a0_3 with
      | .nil =>
        some (N_trie_node.mk p1_0 p1_1 p1_2 p1_3)
      | .mk p2_0 p2_1 p2_2 p2_3 =>
        some (N_trie_node.mk a0_0 a0_1 (N_trie_node.mk p1_0 p1_1 p1_2 p1_3) (N_trie_node.mk p2_0 p2_1 p2_2 p2_3))))

theorem g_trie_short_n_ok (a0_0 : T_trie_Hit) (a0_1 : Bool) (a0_2 : N_trie_node) (a0_3 : N_trie_node) (r : N_trie_node) (hf : g_trie_short_n a0_0 a0_1 a0_2 a0_3 = some r) : SCall Try.prog 151 [.agg (T_trie_node.c (T_trie_node.mk a0_0 a0_1 (a0_2, a0_3)))] (.one (N_trie_node.c r)) := by
  refine SCall.of Try.func151 rfl rfl rfl rfl fun S0 w0 => ?_
  unfold g_trie_short_n at hf
  rcases br_some hf with ⟨h1, hf⟩ | ⟨h1, hf⟩
  · replace hf := Option.some.inj hf
    subst hf
    exact toEnd_good allOk 9 _ _ [⟨[], [], [], [], [], [], []⟩, ⟨[], [(2, true)], [], [], [], [], []⟩, ⟨[], [], [], [], [], [], []⟩] [true] [1] [] [] [a0_1 = true, true = true] (by kernel_rfl) rfl ⟨h1, rfl, trivial⟩
  · cases a0_2 with
    | nil =>
      dsimp only at hf
      replace hf := Option.some.inj hf
      subst hf
      exact toEnd_good allOk 14 _ _ [⟨[], [], [], [], [], [], []⟩, ⟨[], [(2, false)], [], [], [], [], []⟩, ⟨[], [], [], [], [], [], []⟩, ⟨[], [], [], [], [], [], []⟩] [false, false] [] [] [] [a0_1 = false, 0 ≤ (0 : Int) ∧ (0 : Int) < ((2 : Nat) : Int), false = false, 0 ≤ (0 : Int) ∧ (0 : Int) < ((2 : Nat) : Int), false = false, 0 ≤ (1 : Int) ∧ (1 : Int) < ((2 : Nat) : Int)] (by kernel_rfl) rfl ⟨h1, (by decide), rfl, (by decide), rfl, (by decide), trivial⟩
    | mk p1_0 p1_1 p1_2 p1_3 =>
      dsimp only at hf
      cases a0_3 with
      | nil =>
        dsimp only at hf
        replace hf := Option.some.inj hf
        subst hf
        exact toEnd_good allOk 12 _ _ [⟨[], [], [], [], [], [], []⟩, ⟨[], [(2, false)], [], [], [], [], []⟩, ⟨[], [], [], [], [], [], []⟩, ⟨[], [], [], [], [], [], []⟩] [false, true] [] [] [] [a0_1 = false, 0 ≤ (0 : Int) ∧ (0 : Int) < ((2 : Nat) : Int), 0 ≤ (1 : Int) ∧ (1 : Int) < ((2 : Nat) : Int), false = false, 0 ≤ (0 : Int) ∧ (0 : Int) < ((2 : Nat) : Int), true = true, 0 ≤ (0 : Int) ∧ (0 : Int) < ((2 : Nat) : Int)] (by kernel_rfl) rfl ⟨h1, (by decide), (by decide), rfl, (by decide), rfl, (by decide), trivial⟩
      | mk p2_0 p2_1 p2_2 p2_3 =>
        dsimp only at hf
        replace hf := Option.some.inj hf
        subst hf
        exact toEnd_good allOk 9 _ _ [⟨[], [], [], [], [], [], []⟩, ⟨[], [(2, false)], [], [], [], [], []⟩, ⟨[], [], [], [], [], [], []⟩] [true] [1] [] [] [a0_1 = false, 0 ≤ (0 : Int) ∧ (0 : Int) < ((2 : Nat) : Int), 0 ≤ (1 : Int) ∧ (1 : Int) < ((2 : Nat) : Int), true = true] (by kernel_rfl) rfl ⟨h1, (by decide), (by decide), rfl, trivial⟩

def g_trie_short (a0 : T_trie_node) : Option N_trie_node := g_trie_short_n a0.fhit a0.fhas a0.fkids.1 a0.fkids.2

theorem g_trie_short_ok (a0 : T_trie_node) (r : N_trie_node) (hf : g_trie_short a0 = some r) : SCall Try.prog 151 [.agg (T_trie_node.c a0)] (.one (N_trie_node.c r)) := g_trie_short_n_ok a0.fhit a0.fhas a0.fkids.1 a0.fkids.2 r hf

/-- doorman/trie.without -/
def g_trie_without : Nat → N_trie_node → T_api_Net → Option N_trie_node
  | 0, _, _ => none
  | fu + 1, a0, a1 =>
    (match a0 with
    | .nil =>
      none
    | .mk p1_0 p1_1 p1_2 p1_3 =>
      bif (decide (p1_0.fNet = a1)) then
        (g_trie_short (T_trie_node.mk p1_0 false (p1_2, p1_3))).bind fun x2 =>
        some x2
      else
        (g_trie_bit a1 p1_0.fNet.fBits).bind fun x3 =>
        need (0 ≤ x3 ∧ x3 < ((2 : Nat) : Int)) <|
        ix2 x3 (
          (g_trie_without fu p1_2 a1).bind fun x4 =>
          (g_trie_short (T_trie_node.mk p1_0 p1_1 (x4, p1_3))).bind fun x5 =>
          some x5) (
          (g_trie_without fu p1_3 a1).bind fun x6 =>
          (g_trie_short (T_trie_node.mk p1_0 p1_1 (p1_2, x6))).bind fun x7 =>
          some x7))

theorem g_trie_without_ok : ∀ (fu : Nat) (a0 : N_trie_node) (a1 : T_api_Net) (r : N_trie_node) (hf : g_trie_without fu a0 a1 = some r), SCall Try.prog 129 [.one (N_trie_node.c a0), .agg (T_api_Net.c a1)] (.one (N_trie_node.c r)) := by
  intro fu
  induction fu with
  | zero =>
    intro a0 a1 r hf
    simp [g_trie_without] at hf
  | succ fu ih =>
    intro a0 a1 r hf
    refine SCall.of Try.func129 rfl rfl rfl rfl fun S0 w0 => ?_
    unfold g_trie_without at hf
    cases a0 with
    | nil =>
      dsimp only at hf
      cases hf
    | mk p1_0 p1_1 p1_2 p1_3 =>
      dsimp only at hf
      rcases br_some hf with ⟨h1, hf⟩ | ⟨h1, hf⟩
      · obtain ⟨x2, q2, hf⟩ := bind_some' hf
        replace hf := Option.some.inj hf
        subst hf
        exact toEnd_good allOk 12 _ _ [⟨[], [], [], [], [], [], []⟩, ⟨[], [], [], [], [], [], []⟩, ⟨[(6, .r (.one (.lit (.bool (decide (p1_0.fNet = a1))))) [])], [], [], [[], [0], [1, 0], [2, 1, 0], [3, 2, 1, 0], [], [4, 3, 2, 1, 0, 5]], [], [], []⟩, ⟨[], [], [], [], [], [], []⟩, ⟨[(1, .r (.one (N_trie_node.c x2)) [])], [], [], [], [], [], []⟩] [true] [] [] [] [∀ w, (do eqGuard .eql 81 (.tmp 14) (.tmp 15) (.agg #[.bool p1_0.fNet.fAddr.fV6, .int .u64 p1_0.fNet.fAddr.fHi, .int .u64 p1_0.fNet.fAddr.fLo, .int .i64 p1_0.fNet.fBits]) (.agg #[.bool a1.fAddr.fV6, .int .u64 a1.fAddr.fHi, .int .u64 a1.fAddr.fLo, .int .i64 a1.fBits]); binOp .eql 81 (.agg #[.bool p1_0.fNet.fAddr.fV6, .int .u64 p1_0.fNet.fAddr.fHi, .int .u64 p1_0.fNet.fAddr.fLo, .int .i64 p1_0.fNet.fBits]) (.agg #[.bool a1.fAddr.fV6, .int .u64 a1.fAddr.fHi, .int .u64 a1.fAddr.fLo, .int .i64 a1.fBits]) : Sem Value).run Try.prog w = .ok (.bool (decide (p1_0.fNet = a1))) w, (decide (p1_0.fNet = a1)) = true, SCall Try.prog 151 [.agg (T_trie_node.c (T_trie_node.mk p1_0 false (p1_2, p1_3)))] (.one (N_trie_node.c x2))] (by kernel_rfl) rfl ⟨(eql_T_api_Net p1_0.fNet a1 _ _), h1, (g_trie_short_ok (T_trie_node.mk p1_0 false (p1_2, p1_3)) x2 q2), trivial⟩
      · obtain ⟨x3, q3, hf⟩ := bind_some' hf
        obtain ⟨o4, hf⟩ := need_some hf
        rcases ix2_some o4 hf with ⟨e, hf⟩ | ⟨e, hf⟩
        · subst e
          obtain ⟨x4, q5, hf⟩ := bind_some' hf
          obtain ⟨x5, q6, hf⟩ := bind_some' hf
          replace hf := Option.some.inj hf
          subst hf
          exact toEnd_good allOk 15 _ _ [⟨[], [], [], [], [], [], []⟩, ⟨[], [], [], [], [], [], []⟩, ⟨[(6, .r (.one (.lit (.bool (decide (p1_0.fNet = a1))))) [])], [], [], [[], [0], [1, 0], [2, 1, 0], [3, 2, 1, 0], [], [4, 3, 2, 1, 0, 5]], [], [], []⟩, ⟨[(7, .r (.one (.lit (.int .i64 (0 : Int)))) [])], [], [], [[], [], [1], [2, 1], [3, 2, 1], [4, 3, 2, 1], [5, 4, 3, 2, 1], [0, 6, 5, 4, 3, 2, 1], [7, 0, 6, 5, 4, 3, 2, 1]], [], [], []⟩, ⟨[(8, .r (.one (N_trie_node.c x4)) [])], [], [], [[], [], [], [1], [3, 1], [4, 3, 1, 2], [5, 4, 3, 1, 2], [], [6, 5, 4, 3, 1, 2, 7], [], [9, 0, 1, 2, 3, 4, 5, 6, 7, 8], [10, 9, 0, 1, 2, 3, 4, 5, 6, 7, 8]], [], [], []⟩, ⟨[(1, .r (.one (N_trie_node.c x5)) [])], [], [], [], [], [], []⟩] [false] [] [] [] [∀ w, (do eqGuard .eql 81 (.tmp 14) (.tmp 15) (.agg #[.bool p1_0.fNet.fAddr.fV6, .int .u64 p1_0.fNet.fAddr.fHi, .int .u64 p1_0.fNet.fAddr.fLo, .int .i64 p1_0.fNet.fBits]) (.agg #[.bool a1.fAddr.fV6, .int .u64 a1.fAddr.fHi, .int .u64 a1.fAddr.fLo, .int .i64 a1.fBits]); binOp .eql 81 (.agg #[.bool p1_0.fNet.fAddr.fV6, .int .u64 p1_0.fNet.fAddr.fHi, .int .u64 p1_0.fNet.fAddr.fLo, .int .i64 p1_0.fNet.fBits]) (.agg #[.bool a1.fAddr.fV6, .int .u64 a1.fAddr.fHi, .int .u64 a1.fAddr.fLo, .int .i64 a1.fBits]) : Sem Value).run Try.prog w = .ok (.bool (decide (p1_0.fNet = a1))) w, (decide (p1_0.fNet = a1)) = false, SCall Try.prog 95 [.agg (T_api_Net.c a1), .one (.lit (.int .i64 p1_0.fNet.fBits))] (.one (.lit (.int .i64 (0 : Int)))), 0 ≤ (0 : Int) ∧ (0 : Int) < ((2 : Nat) : Int), SCall Try.prog 129 [.one (N_trie_node.c p1_2), .agg (T_api_Net.c a1)] (.one (N_trie_node.c x4)), 0 ≤ (0 : Int) ∧ (0 : Int) < ((2 : Nat) : Int), SCall Try.prog 151 [.agg (T_trie_node.c (T_trie_node.mk p1_0 p1_1 (x4, p1_3)))] (.one (N_trie_node.c x5))] (by kernel_rfl) rfl ⟨(eql_T_api_Net p1_0.fNet a1 _ _), h1, (g_trie_bit_ok a1 p1_0.fNet.fBits (0 : Int) q3), (by decide), (ih p1_2 a1 x4 q5), (by decide), (g_trie_short_ok (T_trie_node.mk p1_0 p1_1 (x4, p1_3)) x5 q6), trivial⟩
        · subst e
          obtain ⟨x6, q7, hf⟩ := bind_some' hf
          obtain ⟨x7, q8, hf⟩ := bind_some' hf
          replace hf := Option.some.inj hf
          subst hf
          exact toEnd_good allOk 15 _ _ [⟨[], [], [], [], [], [], []⟩, ⟨[], [], [], [], [], [], []⟩, ⟨[(6, .r (.one (.lit (.bool (decide (p1_0.fNet = a1))))) [])], [], [], [[], [0], [1, 0], [2, 1, 0], [3, 2, 1, 0], [], [4, 3, 2, 1, 0, 5]], [], [], []⟩, ⟨[(7, .r (.one (.lit (.int .i64 (1 : Int)))) [])], [], [], [[], [], [1], [2, 1], [3, 2, 1], [4, 3, 2, 1], [5, 4, 3, 2, 1], [0, 6, 5, 4, 3, 2, 1], [7, 0, 6, 5, 4, 3, 2, 1]], [], [], []⟩, ⟨[(8, .r (.one (N_trie_node.c x6)) [])], [], [], [[], [], [], [1], [3, 1], [4, 3, 1, 2], [5, 4, 3, 1, 2], [], [6, 5, 4, 3, 1, 2, 7], [], [9, 0, 1, 2, 3, 4, 5, 6, 7, 8], [10, 9, 0, 1, 2, 3, 4, 5, 6, 7, 8]], [], [], []⟩, ⟨[(1, .r (.one (N_trie_node.c x7)) [])], [], [], [], [], [], []⟩] [false] [] [] [] [∀ w, (do eqGuard .eql 81 (.tmp 14) (.tmp 15) (.agg #[.bool p1_0.fNet.fAddr.fV6, .int .u64 p1_0.fNet.fAddr.fHi, .int .u64 p1_0.fNet.fAddr.fLo, .int .i64 p1_0.fNet.fBits]) (.agg #[.bool a1.fAddr.fV6, .int .u64 a1.fAddr.fHi, .int .u64 a1.fAddr.fLo, .int .i64 a1.fBits]); binOp .eql 81 (.agg #[.bool p1_0.fNet.fAddr.fV6, .int .u64 p1_0.fNet.fAddr.fHi, .int .u64 p1_0.fNet.fAddr.fLo, .int .i64 p1_0.fNet.fBits]) (.agg #[.bool a1.fAddr.fV6, .int .u64 a1.fAddr.fHi, .int .u64 a1.fAddr.fLo, .int .i64 a1.fBits]) : Sem Value).run Try.prog w = .ok (.bool (decide (p1_0.fNet = a1))) w, (decide (p1_0.fNet = a1)) = false, SCall Try.prog 95 [.agg (T_api_Net.c a1), .one (.lit (.int .i64 p1_0.fNet.fBits))] (.one (.lit (.int .i64 (1 : Int)))), 0 ≤ (1 : Int) ∧ (1 : Int) < ((2 : Nat) : Int), SCall Try.prog 129 [.one (N_trie_node.c p1_3), .agg (T_api_Net.c a1)] (.one (N_trie_node.c x6)), 0 ≤ (1 : Int) ∧ (1 : Int) < ((2 : Nat) : Int), SCall Try.prog 151 [.agg (T_trie_node.c (T_trie_node.mk p1_0 p1_1 (p1_2, x6)))] (.one (N_trie_node.c x7))] (by kernel_rfl) rfl ⟨(eql_T_api_Net p1_0.fNet a1 _ _), h1, (g_trie_bit_ok a1 p1_0.fNet.fBits (1 : Int) q3), (by decide), (ih p1_3 a1 x6 q7), (by decide), (g_trie_short_ok (T_trie_node.mk p1_0 p1_1 (p1_2, x6)) x7 q8), trivial⟩

/-- (*doorman/trie.Trie).Without -/
def g_trie_Trie_Without (a0 : N_trie_Trie) (a1 : T_api_Net) : Option N_trie_Trie :=
  (match a0 with
  | .nil =>
    (g_trie_New).bind fun x2 =>
    some x2
  | .mk p1_0 p1_1 p1_2 =>
    (g_trie_Trie_Get (N_trie_Trie.mk p1_0 p1_1 p1_2) a1).bind fun x3 =>
    bif (!x3.2) then
      some (N_trie_Trie.mk p1_0 p1_1 p1_2)
    else
      (g_trie_family a1.fAddr).bind fun x4 =>
      need (0 ≤ x4 ∧ x4 < ((2 : Nat) : Int)) <|
      ix2 x4 (
        (g_trie_without 1000 p1_0 a1).bind fun x5 =>
        some (N_trie_Trie.mk x5 p1_1 (sub64 p1_2 (1 : Int)))) (
        (g_trie_without 1000 p1_1 a1).bind fun x6 =>
        some (N_trie_Trie.mk p1_0 x6 (sub64 p1_2 (1 : Int)))))

theorem g_trie_Trie_Without_ok (a0 : N_trie_Trie) (a1 : T_api_Net) (r : N_trie_Trie) (hf : g_trie_Trie_Without a0 a1 = some r) : SCall Try.prog 90 [.one (N_trie_Trie.c a0), .agg (T_api_Net.c a1)] (.one (N_trie_Trie.c r)) := by
  refine SCall.of Try.func90 rfl rfl rfl rfl fun S0 w0 => ?_
  unfold g_trie_Trie_Without at hf
  cases a0 with
  | nil =>
    dsimp only at hf
    obtain ⟨x2, q1, hf⟩ := bind_some' hf
    replace hf := Option.some.inj hf
    subst hf
    exact toEnd_good allOk 8 _ _ [⟨[], [], [], [], [], [], []⟩, ⟨[], [], [], [], [], [], []⟩, ⟨[(0, .r (.one (N_trie_Trie.c x2)) [])], [], [], [], [], [], []⟩] [true] [] [] [] [true = true, SCall Try.prog 39 [] (.one (N_trie_Trie.c x2))] (by kernel_rfl) rfl ⟨rfl, (g_trie_New_ok  x2 q1), trivial⟩
  | mk p1_0 p1_1 p1_2 =>
    dsimp only at hf
    obtain ⟨x3, q2, hf⟩ := bind_some' hf
    rcases br_some hf with ⟨h3, hf⟩ | ⟨h3, hf⟩
    · replace hf := Option.some.inj hf
      subst hf
      exact toEnd_good allOk 17 _ _ [⟨[], [], [], [], [], [], []⟩, ⟨[], [], [], [], [], [], []⟩, ⟨[], [], [], [], [], [], []⟩, ⟨[(2, .r (.tup [(false, (cI .i64) x3.1), (false, cB x3.2)]) [])], [], [], [], [], [], []⟩, ⟨[], [], [], [], [], [], []⟩, ⟨[], [], [], [], [], [], []⟩] [false, true] [5] [] [] [false = false, SCall Try.prog 43 [.one (N_trie_Trie.c (N_trie_Trie.mk p1_0 p1_1 p1_2)), .agg (T_api_Net.c a1)] (.tup [(false, (cI .i64) x3.1), (false, cB x3.2)]), (!x3.2) = true] (by kernel_rfl) rfl ⟨rfl, (g_trie_Trie_Get_ok (N_trie_Trie.mk p1_0 p1_1 p1_2) a1 x3 q2), h3, trivial⟩
    · obtain ⟨x4, q4, hf⟩ := bind_some' hf
      obtain ⟨o5, hf⟩ := need_some hf
      rcases ix2_some o5 hf with ⟨e, hf⟩ | ⟨e, hf⟩
      · subst e
        obtain ⟨x5, q6, hf⟩ := bind_some' hf
        replace hf := Option.some.inj hf
        subst hf
        exact toEnd_good allOk 24 _ _ [⟨[], [], [], [], [], [], []⟩, ⟨[], [], [], [], [], [], []⟩, ⟨[], [], [], [], [], [], []⟩, ⟨[(2, .r (.tup [(false, (cI .i64) x3.1), (false, cB x3.2)]) [])], [], [], [], [], [], []⟩, ⟨[], [], [], [], [], [], []⟩, ⟨[(2, .r (.one (.lit (.int .i64 (0 : Int)))) [])], [], [], [], [], [], []⟩, ⟨[(8, .r (.one (N_trie_node.c x5)) [])], [], [], [[], [], [], [1], [3, 1], [4, 3, 1, 2], [5, 4, 3, 1, 2], [], [6, 5, 4, 3, 1, 2, 7], [], [9, 0, 1, 2, 3, 4, 5, 6, 7, 8], [10, 9, 0, 1, 2, 3, 4, 5, 6, 7, 8]], [], [], []⟩, ⟨[], [], [], [], [], [], []⟩, ⟨[], [], [], [], [], [], []⟩] [false, false] [5] [] [] [false = false, SCall Try.prog 43 [.one (N_trie_Trie.c (N_trie_Trie.mk p1_0 p1_1 p1_2)), .agg (T_api_Net.c a1)] (.tup [(false, (cI .i64) x3.1), (false, cB x3.2)]), (!x3.2) = false, SCall Try.prog 94 [.agg (T_api_Addr.c a1.fAddr)] (.one (.lit (.int .i64 (0 : Int)))), 0 ≤ (0 : Int) ∧ (0 : Int) < ((2 : Nat) : Int), SCall Try.prog 129 [.one (N_trie_node.c p1_0), .agg (T_api_Net.c a1)] (.one (N_trie_node.c x5)), 0 ≤ (0 : Int) ∧ (0 : Int) < ((2 : Nat) : Int)] (by kernel_rfl) rfl ⟨rfl, (g_trie_Trie_Get_ok (N_trie_Trie.mk p1_0 p1_1 p1_2) a1 x3 q2), h3, (g_trie_family_ok a1.fAddr (0 : Int) q4), (by decide), (g_trie_without_ok 1000 p1_0 a1 x5 q6), (by decide), trivial⟩
      · subst e
        obtain ⟨x6, q7, hf⟩ := bind_some' hf
        replace hf := Option.some.inj hf
        subst hf
        exact toEnd_good allOk 24 _ _ [⟨[], [], [], [], [], [], []⟩, ⟨[], [], [], [], [], [], []⟩, ⟨[], [], [], [], [], [], []⟩, ⟨[(2, .r (.tup [(false, (cI .i64) x3.1), (false, cB x3.2)]) [])], [], [], [], [], [], []⟩, ⟨[], [], [], [], [], [], []⟩, ⟨[(2, .r (.one (.lit (.int .i64 (1 : Int)))) [])], [], [], [], [], [], []⟩, ⟨[(8, .r (.one (N_trie_node.c x6)) [])], [], [], [[], [], [], [1], [3, 1], [4, 3, 1, 2], [5, 4, 3, 1, 2], [], [6, 5, 4, 3, 1, 2, 7], [], [9, 0, 1, 2, 3, 4, 5, 6, 7, 8], [10, 9, 0, 1, 2, 3, 4, 5, 6, 7, 8]], [], [], []⟩, ⟨[], [], [], [], [], [], []⟩, ⟨[], [], [], [], [], [], []⟩] [false, false] [5] [] [] [false = false, SCall Try.prog 43 [.one (N_trie_Trie.c (N_trie_Trie.mk p1_0 p1_1 p1_2)), .agg (T_api_Net.c a1)] (.tup [(false, (cI .i64) x3.1), (false, cB x3.2)]), (!x3.2) = false, SCall Try.prog 94 [.agg (T_api_Addr.c a1.fAddr)] (.one (.lit (.int .i64 (1 : Int)))), 0 ≤ (1 : Int) ∧ (1 : Int) < ((2 : Nat) : Int), SCall Try.prog 129 [.one (N_trie_node.c p1_1), .agg (T_api_Net.c a1)] (.one (N_trie_node.c x6)), 0 ≤ (1 : Int) ∧ (1 : Int) < ((2 : Nat) : Int)] (by kernel_rfl) rfl ⟨rfl, (g_trie_Trie_Get_ok (N_trie_Trie.mk p1_0 p1_1 p1_2) a1 x3 q2), h3, (g_trie_family_ok a1.fAddr (1 : Int) q4), (by decide), (g_trie_without_ok 1000 p1_1 a1 x6 q7), (by decide), trivial⟩

/-- doorman/doormanlaw11.awake -/
def g_doormanlaw11_awake  : Option Bool :=
  (g_trie_New).bind fun x1 =>
  (g_doormanlaw11_ten (8 : Int)).bind fun x2 =>
  (g_trie_Trie_With x1 x2 (5 : Int)).bind fun x3 =>
  (g_doormanlaw11_ten (16 : Int)).bind fun x4 =>
  (g_trie_Trie_With x3 x4 (6 : Int)).bind fun x5 =>
  (g_trie_Trie_Cover x5 (T_api_Addr.mk false (0 : Int) (167772675 : Int))).bind fun x6 =>
  (g_trie_Trie_Get x5 x2).bind fun x7 =>
  (g_trie_Trie_Len x5).bind fun x8 =>
  bif (x8 == (2 : Int)) then
    bif (((x6.length : Nat) : Int) == (2 : Int)) then
      need (0 ≤ (0 : Int) ∧ (0 : Int) < ((x6.length : Nat) : Int)) <|
      bif (decide ((x6.getD (0 : Int).toNat T_trie_Hit.d) = (T_trie_Hit.mk x2 (5 : Int)))) then
        bif (x7.1 == (5 : Int)) then
          bif x7.2 then
            (g_trie_Trie_Without x5 x2).bind fun x9 =>
            (g_trie_Trie_Len x9).bind fun x10 =>
            some (x10 == (1 : Int))
          else
            some false
        else
          some false
      else
        some false
    else
      some false
  else
    some false

theorem g_doormanlaw11_awake_ok  (r : Bool) (hf : g_doormanlaw11_awake  = some r) : SCall Try.prog 38 [] (.one (.lit (.bool r))) := by
  refine SCall.of Try.func38 rfl rfl rfl rfl fun S0 w0 => ?_
  unfold g_doormanlaw11_awake at hf
  obtain ⟨x1, q1, hf⟩ := bind_some' hf
  obtain ⟨x2, q2, hf⟩ := bind_some' hf
  obtain ⟨x3, q3, hf⟩ := bind_some' hf
  obtain ⟨x4, q4, hf⟩ := bind_some' hf
  obtain ⟨x5, q5, hf⟩ := bind_some' hf
  obtain ⟨x6, q6, hf⟩ := bind_some' hf
  obtain ⟨x7, q7, hf⟩ := bind_some' hf
  obtain ⟨x8, q8, hf⟩ := bind_some' hf
  rcases br_some hf with ⟨h9, hf⟩ | ⟨h9, hf⟩
  · rcases br_some hf with ⟨h10, hf⟩ | ⟨h10, hf⟩
    · obtain ⟨o11, hf⟩ := need_some hf
      rcases br_some hf with ⟨h12, hf⟩ | ⟨h12, hf⟩
      · rcases br_some hf with ⟨h13, hf⟩ | ⟨h13, hf⟩
        · rcases br_some hf with ⟨h14, hf⟩ | ⟨h14, hf⟩
          · obtain ⟨x9, q15, hf⟩ := bind_some' hf
            obtain ⟨x10, q16, hf⟩ := bind_some' hf
            replace hf := Option.some.inj hf
            subst hf
            exact toEnd_good allOk 10 _ _ [⟨[], [], [], [], [], [], []⟩, ⟨[(0, .r (.one (N_trie_Trie.c x1)) []), (1, .r (.agg (T_api_Net.c x2)) []), (2, .r (.one (N_trie_Trie.c x3)) []), (3, .r (.agg (T_api_Net.c x4)) []), (4, .r (.one (N_trie_Trie.c x5)) [])], [], [], [], [], [], []⟩, ⟨[(2, .r (.one (cL 5 T_trie_Hit.c T_trie_Hit.d x6)) [])], [], [], [], [], [], []⟩, ⟨[(1, .r (.agg (T_api_Net.c x2)) []), (2, .r (.tup [(false, (cI .i64) x7.1), (false, cB x7.2)]) [])], [], [], [], [], [], []⟩, ⟨[(1, .r (.one (.lit (.int .i64 x8))) []), (12, .r (.agg (T_api_Net.c x2)) []), (14, .r (.one (.lit (.bool (decide ((x6.getD (0 : Int).toNat T_trie_Hit.d) = (T_trie_Hit.mk x2 (5 : Int))))))) []), (25, .r (.agg (T_api_Net.c x2)) []), (26, .r (.one (N_trie_Trie.c x9)) []), (27, .r (.one (.lit (.int .i64 x10))) [])], [(3, true), (8, true), (16, true), (20, true), (23, true)], [], [[], [0], [1, 0], [2, 1, 0], [3, 2, 1, 0], [4, 3, 2, 1, 0], [5, 4, 3, 2, 1, 0], [3, 2, 1, 0, 6, 5, 4], [7, 3, 2, 1, 0, 6, 5, 4], [8, 7, 3, 2, 1, 0, 6, 5, 4], [9, 8, 7, 3, 2, 1, 0, 6, 5, 4], [10, 9, 8, 7, 3, 2, 1, 0, 6, 5, 4], [8, 7, 3, 2, 1, 0, 6, 5, 4], [12, 8, 7, 3, 2, 1, 0, 6, 5, 4], [11, 10, 9, 8, 7, 3, 2, 1, 0, 6, 5, 4, 13, 12], [8, 7, 3, 2, 1, 0, 6, 5, 4, 14, 11, 10, 9, 13, 12], [15, 8, 7, 3, 2, 1, 0, 6, 5, 4, 14, 11, 10, 9, 13, 12], [16, 15, 8, 7, 3, 2, 1, 0, 6, 5, 4, 14, 11, 10, 9, 13, 12], [17, 16, 15, 8, 7, 3, 2, 1, 0, 6, 5, 4, 14, 11, 10, 9, 13, 12], [16, 15, 8, 7, 3, 2, 1, 0, 6, 5, 4, 14, 11, 10, 9, 13, 12, 18, 17], [19, 16, 15, 8, 7, 3, 2, 1, 0, 6, 5, 4, 14, 11, 10, 9, 13, 12, 18, 17], [20, 19, 16, 15, 8, 7, 3, 2, 1, 0, 6, 5, 4, 14, 11, 10, 9, 13, 12, 18, 17], [20, 19, 16, 15, 8, 7, 3, 2, 1, 0, 6, 5, 4, 14, 11, 10, 9, 13, 12, 18, 17, 21], [22, 20, 19, 16, 15, 8, 7, 3, 2, 1, 0, 6, 5, 4, 14, 11, 10, 9, 13, 12, 18, 17, 21], [23, 22, 20, 19, 16, 15, 8, 7, 3, 2, 1, 0, 6, 5, 4, 14, 11, 10, 9, 13, 12, 18, 17, 21], [23, 22, 20, 19, 16, 15, 8, 7, 3, 2, 1, 0, 6, 5, 4, 14, 11, 10, 9, 13, 12, 18, 17, 21], [24, 23, 22, 20, 19, 16, 15, 8, 7, 3, 2, 1, 0, 6, 5, 4, 14, 11, 10, 9, 13, 12, 18, 17, 21, 25], [26, 24, 23, 22, 20, 19, 16, 15, 8, 7, 3, 2, 1, 0, 6, 5, 4, 14, 11, 10, 9, 13, 12, 18, 17, 21, 25], [27, 26, 24, 23, 22, 20, 19, 16, 15, 8, 7, 3, 2, 1, 0, 6, 5, 4, 14, 11, 10, 9, 13, 12, 18, 17, 21, 25], [23, 22, 20, 19, 16, 15, 8, 7, 3, 2, 1, 0, 6, 5, 4, 14, 11, 10, 9, 13, 12, 18, 17, 21, 28, 27, 26, 24, 25], [29, 23, 22, 20, 19, 16, 15, 8, 7, 3, 2, 1, 0, 6, 5, 4, 14, 11, 10, 9, 13, 12, 18, 17, 21, 28, 27, 26, 24, 25]], [], [], []⟩] [] [] [] [] [SCall Try.prog 39 [] (.one (N_trie_Trie.c x1)), SCall Try.prog 89 [.one (.lit (.int .i64 (8 : Int)))] (.agg (T_api_Net.c x2)), SCall Try.prog 50 [.one (N_trie_Trie.c x1), .agg (T_api_Net.c x2), .one (.lit (.int .i64 (5 : Int)))] (.one (N_trie_Trie.c x3)), SCall Try.prog 89 [.one (.lit (.int .i64 (16 : Int)))] (.agg (T_api_Net.c x4)), SCall Try.prog 50 [.one (N_trie_Trie.c x3), .agg (T_api_Net.c x4), .one (.lit (.int .i64 (6 : Int)))] (.one (N_trie_Trie.c x5)), SCall Try.prog 48 [.one (N_trie_Trie.c x5), .agg (T_api_Addr.c (T_api_Addr.mk false (0 : Int) (167772675 : Int)))] (.one (cL 5 T_trie_Hit.c T_trie_Hit.d x6)), SCall Try.prog 89 [.one (.lit (.int .i64 (8 : Int)))] (.agg (T_api_Net.c x2)), SCall Try.prog 43 [.one (N_trie_Trie.c x5), .agg (T_api_Net.c x2)] (.tup [(false, (cI .i64) x7.1), (false, cB x7.2)]), SCall Try.prog 45 [.one (N_trie_Trie.c x5)] (.one (.lit (.int .i64 x8))), (x8 == (2 : Int)) = true, (((x6.length : Nat) : Int) == (2 : Int)) = true, 0 ≤ (0 : Int) ∧ (0 : Int) < ((x6.length : Nat) : Int), SCall Try.prog 89 [.one (.lit (.int .i64 (8 : Int)))] (.agg (T_api_Net.c x2)), ∀ w, (do eqGuard .eql 101 (.tmp 30) (.tmp 32) (.agg #[.bool ((((x6.getD (0 : Int).toNat T_trie_Hit.d).fNet).fAddr).fV6), .int .u64 ((((x6.getD (0 : Int).toNat T_trie_Hit.d).fNet).fAddr).fHi), .int .u64 ((((x6.getD (0 : Int).toNat T_trie_Hit.d).fNet).fAddr).fLo), .int .i64 (((x6.getD (0 : Int).toNat T_trie_Hit.d).fNet).fBits), .int .i64 ((x6.getD (0 : Int).toNat T_trie_Hit.d).fV)]) (.agg #[.bool ((((T_trie_Hit.mk x2 (5 : Int)).fNet).fAddr).fV6), .int .u64 ((((T_trie_Hit.mk x2 (5 : Int)).fNet).fAddr).fHi), .int .u64 ((((T_trie_Hit.mk x2 (5 : Int)).fNet).fAddr).fLo), .int .i64 (((T_trie_Hit.mk x2 (5 : Int)).fNet).fBits), .int .i64 ((T_trie_Hit.mk x2 (5 : Int)).fV)]); binOp .eql 101 (.agg #[.bool ((((x6.getD (0 : Int).toNat T_trie_Hit.d).fNet).fAddr).fV6), .int .u64 ((((x6.getD (0 : Int).toNat T_trie_Hit.d).fNet).fAddr).fHi), .int .u64 ((((x6.getD (0 : Int).toNat T_trie_Hit.d).fNet).fAddr).fLo), .int .i64 (((x6.getD (0 : Int).toNat T_trie_Hit.d).fNet).fBits), .int .i64 ((x6.getD (0 : Int).toNat T_trie_Hit.d).fV)]) (.agg #[.bool ((((T_trie_Hit.mk x2 (5 : Int)).fNet).fAddr).fV6), .int .u64 ((((T_trie_Hit.mk x2 (5 : Int)).fNet).fAddr).fHi), .int .u64 ((((T_trie_Hit.mk x2 (5 : Int)).fNet).fAddr).fLo), .int .i64 (((T_trie_Hit.mk x2 (5 : Int)).fNet).fBits), .int .i64 ((T_trie_Hit.mk x2 (5 : Int)).fV)]) : Sem Value).run Try.prog w = .ok (.bool (decide ((x6.getD (0 : Int).toNat T_trie_Hit.d) = (T_trie_Hit.mk x2 (5 : Int))))) w, (decide ((x6.getD (0 : Int).toNat T_trie_Hit.d) = (T_trie_Hit.mk x2 (5 : Int)))) = true, (x7.1 == (5 : Int)) = true, x7.2 = true, SCall Try.prog 89 [.one (.lit (.int .i64 (8 : Int)))] (.agg (T_api_Net.c x2)), SCall Try.prog 90 [.one (N_trie_Trie.c x5), .agg (T_api_Net.c x2)] (.one (N_trie_Trie.c x9)), SCall Try.prog 45 [.one (N_trie_Trie.c x9)] (.one (.lit (.int .i64 x10)))] (by kernel_rfl) rfl ⟨(g_trie_New_ok  x1 q1), (g_doormanlaw11_ten_ok (8 : Int) x2 q2), (g_trie_Trie_With_ok x1 x2 (5 : Int) x3 q3), (g_doormanlaw11_ten_ok (16 : Int) x4 q4), (g_trie_Trie_With_ok x3 x4 (6 : Int) x5 q5), (g_trie_Trie_Cover_ok x5 (T_api_Addr.mk false (0 : Int) (167772675 : Int)) x6 q6), (g_doormanlaw11_ten_ok (8 : Int) x2 q2), (g_trie_Trie_Get_ok x5 x2 x7 q7), (g_trie_Trie_Len_ok x5 x8 q8), h9, h10, o11, (g_doormanlaw11_ten_ok (8 : Int) x2 q2), (eql_T_trie_Hit (x6.getD (0 : Int).toNat T_trie_Hit.d) (T_trie_Hit.mk x2 (5 : Int)) _ _), h12, h13, h14, (g_doormanlaw11_ten_ok (8 : Int) x2 q2), (g_trie_Trie_Without_ok x5 x2 x9 q15), (g_trie_Trie_Len_ok x9 x10 q16), trivial⟩
          · replace hf := Option.some.inj hf
            subst hf
            exact toEnd_good allOk 10 _ _ [⟨[], [], [], [], [], [], []⟩, ⟨[(0, .r (.one (N_trie_Trie.c x1)) []), (1, .r (.agg (T_api_Net.c x2)) []), (2, .r (.one (N_trie_Trie.c x3)) []), (3, .r (.agg (T_api_Net.c x4)) []), (4, .r (.one (N_trie_Trie.c x5)) [])], [], [], [], [], [], []⟩, ⟨[(2, .r (.one (cL 5 T_trie_Hit.c T_trie_Hit.d x6)) [])], [], [], [], [], [], []⟩, ⟨[(1, .r (.agg (T_api_Net.c x2)) []), (2, .r (.tup [(false, (cI .i64) x7.1), (false, cB x7.2)]) [])], [], [], [], [], [], []⟩, ⟨[(1, .r (.one (.lit (.int .i64 x8))) []), (12, .r (.agg (T_api_Net.c x2)) []), (14, .r (.one (.lit (.bool (decide ((x6.getD (0 : Int).toNat T_trie_Hit.d) = (T_trie_Hit.mk x2 (5 : Int))))))) [])], [(3, true), (8, true), (16, true), (20, true), (23, false)], [], [[], [0], [1, 0], [2, 1, 0], [3, 2, 1, 0], [4, 3, 2, 1, 0], [5, 4, 3, 2, 1, 0], [3, 2, 1, 0, 6, 5, 4], [7, 3, 2, 1, 0, 6, 5, 4], [8, 7, 3, 2, 1, 0, 6, 5, 4], [9, 8, 7, 3, 2, 1, 0, 6, 5, 4], [10, 9, 8, 7, 3, 2, 1, 0, 6, 5, 4], [8, 7, 3, 2, 1, 0, 6, 5, 4], [12, 8, 7, 3, 2, 1, 0, 6, 5, 4], [11, 10, 9, 8, 7, 3, 2, 1, 0, 6, 5, 4, 13, 12], [8, 7, 3, 2, 1, 0, 6, 5, 4, 14, 11, 10, 9, 13, 12], [15, 8, 7, 3, 2, 1, 0, 6, 5, 4, 14, 11, 10, 9, 13, 12], [16, 15, 8, 7, 3, 2, 1, 0, 6, 5, 4, 14, 11, 10, 9, 13, 12], [17, 16, 15, 8, 7, 3, 2, 1, 0, 6, 5, 4, 14, 11, 10, 9, 13, 12], [16, 15, 8, 7, 3, 2, 1, 0, 6, 5, 4, 14, 11, 10, 9, 13, 12, 18, 17], [19, 16, 15, 8, 7, 3, 2, 1, 0, 6, 5, 4, 14, 11, 10, 9, 13, 12, 18, 17], [20, 19, 16, 15, 8, 7, 3, 2, 1, 0, 6, 5, 4, 14, 11, 10, 9, 13, 12, 18, 17], [20, 19, 16, 15, 8, 7, 3, 2, 1, 0, 6, 5, 4, 14, 11, 10, 9, 13, 12, 18, 17, 21], [22, 20, 19, 16, 15, 8, 7, 3, 2, 1, 0, 6, 5, 4, 14, 11, 10, 9, 13, 12, 18, 17, 21], [23, 22, 20, 19, 16, 15, 8, 7, 3, 2, 1, 0, 6, 5, 4, 14, 11, 10, 9, 13, 12, 18, 17, 21], [23, 22, 20, 19, 16, 15, 8, 7, 3, 2, 1, 0, 6, 5, 4, 14, 11, 10, 9, 13, 12, 18, 17, 21], [24, 23, 22, 20, 19, 16, 15, 8, 7, 3, 2, 1, 0, 6, 5, 4, 14, 11, 10, 9, 13, 12, 18, 17, 21, 25], [26, 24, 23, 22, 20, 19, 16, 15, 8, 7, 3, 2, 1, 0, 6, 5, 4, 14, 11, 10, 9, 13, 12, 18, 17, 21, 25], [27, 26, 24, 23, 22, 20, 19, 16, 15, 8, 7, 3, 2, 1, 0, 6, 5, 4, 14, 11, 10, 9, 13, 12, 18, 17, 21, 25], [23, 22, 20, 19, 16, 15, 8, 7, 3, 2, 1, 0, 6, 5, 4, 14, 11, 10, 9, 13, 12, 18, 17, 21, 28, 27, 26, 24, 25], [29, 23, 22, 20, 19, 16, 15, 8, 7, 3, 2, 1, 0, 6, 5, 4, 14, 11, 10, 9, 13, 12, 18, 17, 21, 28, 27, 26, 24, 25]], [], [], []⟩] [] [] [] [] [SCall Try.prog 39 [] (.one (N_trie_Trie.c x1)), SCall Try.prog 89 [.one (.lit (.int .i64 (8 : Int)))] (.agg (T_api_Net.c x2)), SCall Try.prog 50 [.one (N_trie_Trie.c x1), .agg (T_api_Net.c x2), .one (.lit (.int .i64 (5 : Int)))] (.one (N_trie_Trie.c x3)), SCall Try.prog 89 [.one (.lit (.int .i64 (16 : Int)))] (.agg (T_api_Net.c x4)), SCall Try.prog 50 [.one (N_trie_Trie.c x3), .agg (T_api_Net.c x4), .one (.lit (.int .i64 (6 : Int)))] (.one (N_trie_Trie.c x5)), SCall Try.prog 48 [.one (N_trie_Trie.c x5), .agg (T_api_Addr.c (T_api_Addr.mk false (0 : Int) (167772675 : Int)))] (.one (cL 5 T_trie_Hit.c T_trie_Hit.d x6)), SCall Try.prog 89 [.one (.lit (.int .i64 (8 : Int)))] (.agg (T_api_Net.c x2)), SCall Try.prog 43 [.one (N_trie_Trie.c x5), .agg (T_api_Net.c x2)] (.tup [(false, (cI .i64) x7.1), (false, cB x7.2)]), SCall Try.prog 45 [.one (N_trie_Trie.c x5)] (.one (.lit (.int .i64 x8))), (x8 == (2 : Int)) = true, (((x6.length : Nat) : Int) == (2 : Int)) = true, 0 ≤ (0 : Int) ∧ (0 : Int) < ((x6.length : Nat) : Int), SCall Try.prog 89 [.one (.lit (.int .i64 (8 : Int)))] (.agg (T_api_Net.c x2)), ∀ w, (do eqGuard .eql 101 (.tmp 30) (.tmp 32) (.agg #[.bool ((((x6.getD (0 : Int).toNat T_trie_Hit.d).fNet).fAddr).fV6), .int .u64 ((((x6.getD (0 : Int).toNat T_trie_Hit.d).fNet).fAddr).fHi), .int .u64 ((((x6.getD (0 : Int).toNat T_trie_Hit.d).fNet).fAddr).fLo), .int .i64 (((x6.getD (0 : Int).toNat T_trie_Hit.d).fNet).fBits), .int .i64 ((x6.getD (0 : Int).toNat T_trie_Hit.d).fV)]) (.agg #[.bool ((((T_trie_Hit.mk x2 (5 : Int)).fNet).fAddr).fV6), .int .u64 ((((T_trie_Hit.mk x2 (5 : Int)).fNet).fAddr).fHi), .int .u64 ((((T_trie_Hit.mk x2 (5 : Int)).fNet).fAddr).fLo), .int .i64 (((T_trie_Hit.mk x2 (5 : Int)).fNet).fBits), .int .i64 ((T_trie_Hit.mk x2 (5 : Int)).fV)]); binOp .eql 101 (.agg #[.bool ((((x6.getD (0 : Int).toNat T_trie_Hit.d).fNet).fAddr).fV6), .int .u64 ((((x6.getD (0 : Int).toNat T_trie_Hit.d).fNet).fAddr).fHi), .int .u64 ((((x6.getD (0 : Int).toNat T_trie_Hit.d).fNet).fAddr).fLo), .int .i64 (((x6.getD (0 : Int).toNat T_trie_Hit.d).fNet).fBits), .int .i64 ((x6.getD (0 : Int).toNat T_trie_Hit.d).fV)]) (.agg #[.bool ((((T_trie_Hit.mk x2 (5 : Int)).fNet).fAddr).fV6), .int .u64 ((((T_trie_Hit.mk x2 (5 : Int)).fNet).fAddr).fHi), .int .u64 ((((T_trie_Hit.mk x2 (5 : Int)).fNet).fAddr).fLo), .int .i64 (((T_trie_Hit.mk x2 (5 : Int)).fNet).fBits), .int .i64 ((T_trie_Hit.mk x2 (5 : Int)).fV)]) : Sem Value).run Try.prog w = .ok (.bool (decide ((x6.getD (0 : Int).toNat T_trie_Hit.d) = (T_trie_Hit.mk x2 (5 : Int))))) w, (decide ((x6.getD (0 : Int).toNat T_trie_Hit.d) = (T_trie_Hit.mk x2 (5 : Int)))) = true, (x7.1 == (5 : Int)) = true, x7.2 = false] (by kernel_rfl) rfl ⟨(g_trie_New_ok  x1 q1), (g_doormanlaw11_ten_ok (8 : Int) x2 q2), (g_trie_Trie_With_ok x1 x2 (5 : Int) x3 q3), (g_doormanlaw11_ten_ok (16 : Int) x4 q4), (g_trie_Trie_With_ok x3 x4 (6 : Int) x5 q5), (g_trie_Trie_Cover_ok x5 (T_api_Addr.mk false (0 : Int) (167772675 : Int)) x6 q6), (g_doormanlaw11_ten_ok (8 : Int) x2 q2), (g_trie_Trie_Get_ok x5 x2 x7 q7), (g_trie_Trie_Len_ok x5 x8 q8), h9, h10, o11, (g_doormanlaw11_ten_ok (8 : Int) x2 q2), (eql_T_trie_Hit (x6.getD (0 : Int).toNat T_trie_Hit.d) (T_trie_Hit.mk x2 (5 : Int)) _ _), h12, h13, h14, trivial⟩
        · replace hf := Option.some.inj hf
          subst hf
          exact toEnd_good allOk 10 _ _ [⟨[], [], [], [], [], [], []⟩, ⟨[(0, .r (.one (N_trie_Trie.c x1)) []), (1, .r (.agg (T_api_Net.c x2)) []), (2, .r (.one (N_trie_Trie.c x3)) []), (3, .r (.agg (T_api_Net.c x4)) []), (4, .r (.one (N_trie_Trie.c x5)) [])], [], [], [], [], [], []⟩, ⟨[(2, .r (.one (cL 5 T_trie_Hit.c T_trie_Hit.d x6)) [])], [], [], [], [], [], []⟩, ⟨[(1, .r (.agg (T_api_Net.c x2)) []), (2, .r (.tup [(false, (cI .i64) x7.1), (false, cB x7.2)]) [])], [], [], [], [], [], []⟩, ⟨[(1, .r (.one (.lit (.int .i64 x8))) []), (12, .r (.agg (T_api_Net.c x2)) []), (14, .r (.one (.lit (.bool (decide ((x6.getD (0 : Int).toNat T_trie_Hit.d) = (T_trie_Hit.mk x2 (5 : Int))))))) [])], [(3, true), (8, true), (16, true), (20, false)], [], [[], [0], [1, 0], [2, 1, 0], [3, 2, 1, 0], [4, 3, 2, 1, 0], [5, 4, 3, 2, 1, 0], [3, 2, 1, 0, 6, 5, 4], [7, 3, 2, 1, 0, 6, 5, 4], [8, 7, 3, 2, 1, 0, 6, 5, 4], [9, 8, 7, 3, 2, 1, 0, 6, 5, 4], [10, 9, 8, 7, 3, 2, 1, 0, 6, 5, 4], [8, 7, 3, 2, 1, 0, 6, 5, 4], [12, 8, 7, 3, 2, 1, 0, 6, 5, 4], [11, 10, 9, 8, 7, 3, 2, 1, 0, 6, 5, 4, 13, 12], [8, 7, 3, 2, 1, 0, 6, 5, 4, 14, 11, 10, 9, 13, 12], [15, 8, 7, 3, 2, 1, 0, 6, 5, 4, 14, 11, 10, 9, 13, 12], [16, 15, 8, 7, 3, 2, 1, 0, 6, 5, 4, 14, 11, 10, 9, 13, 12], [17, 16, 15, 8, 7, 3, 2, 1, 0, 6, 5, 4, 14, 11, 10, 9, 13, 12], [16, 15, 8, 7, 3, 2, 1, 0, 6, 5, 4, 14, 11, 10, 9, 13, 12, 18, 17], [19, 16, 15, 8, 7, 3, 2, 1, 0, 6, 5, 4, 14, 11, 10, 9, 13, 12, 18, 17], [20, 19, 16, 15, 8, 7, 3, 2, 1, 0, 6, 5, 4, 14, 11, 10, 9, 13, 12, 18, 17], [20, 19, 16, 15, 8, 7, 3, 2, 1, 0, 6, 5, 4, 14, 11, 10, 9, 13, 12, 18, 17, 21], [22, 20, 19, 16, 15, 8, 7, 3, 2, 1, 0, 6, 5, 4, 14, 11, 10, 9, 13, 12, 18, 17, 21], [23, 22, 20, 19, 16, 15, 8, 7, 3, 2, 1, 0, 6, 5, 4, 14, 11, 10, 9, 13, 12, 18, 17, 21], [23, 22, 20, 19, 16, 15, 8, 7, 3, 2, 1, 0, 6, 5, 4, 14, 11, 10, 9, 13, 12, 18, 17, 21], [24, 23, 22, 20, 19, 16, 15, 8, 7, 3, 2, 1, 0, 6, 5, 4, 14, 11, 10, 9, 13, 12, 18, 17, 21, 25], [26, 24, 23, 22, 20, 19, 16, 15, 8, 7, 3, 2, 1, 0, 6, 5, 4, 14, 11, 10, 9, 13, 12, 18, 17, 21, 25], [27, 26, 24, 23, 22, 20, 19, 16, 15, 8, 7, 3, 2, 1, 0, 6, 5, 4, 14, 11, 10, 9, 13, 12, 18, 17, 21, 25], [23, 22, 20, 19, 16, 15, 8, 7, 3, 2, 1, 0, 6, 5, 4, 14, 11, 10, 9, 13, 12, 18, 17, 21, 28, 27, 26, 24, 25], [29, 23, 22, 20, 19, 16, 15, 8, 7, 3, 2, 1, 0, 6, 5, 4, 14, 11, 10, 9, 13, 12, 18, 17, 21, 28, 27, 26, 24, 25]], [], [], []⟩] [] [] [] [] [SCall Try.prog 39 [] (.one (N_trie_Trie.c x1)), SCall Try.prog 89 [.one (.lit (.int .i64 (8 : Int)))] (.agg (T_api_Net.c x2)), SCall Try.prog 50 [.one (N_trie_Trie.c x1), .agg (T_api_Net.c x2), .one (.lit (.int .i64 (5 : Int)))] (.one (N_trie_Trie.c x3)), SCall Try.prog 89 [.one (.lit (.int .i64 (16 : Int)))] (.agg (T_api_Net.c x4)), SCall Try.prog 50 [.one (N_trie_Trie.c x3), .agg (T_api_Net.c x4), .one (.lit (.int .i64 (6 : Int)))] (.one (N_trie_Trie.c x5)), SCall Try.prog 48 [.one (N_trie_Trie.c x5), .agg (T_api_Addr.c (T_api_Addr.mk false (0 : Int) (167772675 : Int)))] (.one (cL 5 T_trie_Hit.c T_trie_Hit.d x6)), SCall Try.prog 89 [.one (.lit (.int .i64 (8 : Int)))] (.agg (T_api_Net.c x2)), SCall Try.prog 43 [.one (N_trie_Trie.c x5), .agg (T_api_Net.c x2)] (.tup [(false, (cI .i64) x7.1), (false, cB x7.2)]), SCall Try.prog 45 [.one (N_trie_Trie.c x5)] (.one (.lit (.int .i64 x8))), (x8 == (2 : Int)) = true, (((x6.length : Nat) : Int) == (2 : Int)) = true, 0 ≤ (0 : Int) ∧ (0 : Int) < ((x6.length : Nat) : Int), SCall Try.prog 89 [.one (.lit (.int .i64 (8 : Int)))] (.agg (T_api_Net.c x2)), ∀ w, (do eqGuard .eql 101 (.tmp 30) (.tmp 32) (.agg #[.bool ((((x6.getD (0 : Int).toNat T_trie_Hit.d).fNet).fAddr).fV6), .int .u64 ((((x6.getD (0 : Int).toNat T_trie_Hit.d).fNet).fAddr).fHi), .int .u64 ((((x6.getD (0 : Int).toNat T_trie_Hit.d).fNet).fAddr).fLo), .int .i64 (((x6.getD (0 : Int).toNat T_trie_Hit.d).fNet).fBits), .int .i64 ((x6.getD (0 : Int).toNat T_trie_Hit.d).fV)]) (.agg #[.bool ((((T_trie_Hit.mk x2 (5 : Int)).fNet).fAddr).fV6), .int .u64 ((((T_trie_Hit.mk x2 (5 : Int)).fNet).fAddr).fHi), .int .u64 ((((T_trie_Hit.mk x2 (5 : Int)).fNet).fAddr).fLo), .int .i64 (((T_trie_Hit.mk x2 (5 : Int)).fNet).fBits), .int .i64 ((T_trie_Hit.mk x2 (5 : Int)).fV)]); binOp .eql 101 (.agg #[.bool ((((x6.getD (0 : Int).toNat T_trie_Hit.d).fNet).fAddr).fV6), .int .u64 ((((x6.getD (0 : Int).toNat T_trie_Hit.d).fNet).fAddr).fHi), .int .u64 ((((x6.getD (0 : Int).toNat T_trie_Hit.d).fNet).fAddr).fLo), .int .i64 (((x6.getD (0 : Int).toNat T_trie_Hit.d).fNet).fBits), .int .i64 ((x6.getD (0 : Int).toNat T_trie_Hit.d).fV)]) (.agg #[.bool ((((T_trie_Hit.mk x2 (5 : Int)).fNet).fAddr).fV6), .int .u64 ((((T_trie_Hit.mk x2 (5 : Int)).fNet).fAddr).fHi), .int .u64 ((((T_trie_Hit.mk x2 (5 : Int)).fNet).fAddr).fLo), .int .i64 (((T_trie_Hit.mk x2 (5 : Int)).fNet).fBits), .int .i64 ((T_trie_Hit.mk x2 (5 : Int)).fV)]) : Sem Value).run Try.prog w = .ok (.bool (decide ((x6.getD (0 : Int).toNat T_trie_Hit.d) = (T_trie_Hit.mk x2 (5 : Int))))) w, (decide ((x6.getD (0 : Int).toNat T_trie_Hit.d) = (T_trie_Hit.mk x2 (5 : Int)))) = true, (x7.1 == (5 : Int)) = false] (by kernel_rfl) rfl ⟨(g_trie_New_ok  x1 q1), (g_doormanlaw11_ten_ok (8 : Int) x2 q2), (g_trie_Trie_With_ok x1 x2 (5 : Int) x3 q3), (g_doormanlaw11_ten_ok (16 : Int) x4 q4), (g_trie_Trie_With_ok x3 x4 (6 : Int) x5 q5), (g_trie_Trie_Cover_ok x5 (T_api_Addr.mk false (0 : Int) (167772675 : Int)) x6 q6), (g_doormanlaw11_ten_ok (8 : Int) x2 q2), (g_trie_Trie_Get_ok x5 x2 x7 q7), (g_trie_Trie_Len_ok x5 x8 q8), h9, h10, o11, (g_doormanlaw11_ten_ok (8 : Int) x2 q2), (eql_T_trie_Hit (x6.getD (0 : Int).toNat T_trie_Hit.d) (T_trie_Hit.mk x2 (5 : Int)) _ _), h12, h13, trivial⟩
      · replace hf := Option.some.inj hf
        subst hf
        exact toEnd_good allOk 10 _ _ [⟨[], [], [], [], [], [], []⟩, ⟨[(0, .r (.one (N_trie_Trie.c x1)) []), (1, .r (.agg (T_api_Net.c x2)) []), (2, .r (.one (N_trie_Trie.c x3)) []), (3, .r (.agg (T_api_Net.c x4)) []), (4, .r (.one (N_trie_Trie.c x5)) [])], [], [], [], [], [], []⟩, ⟨[(2, .r (.one (cL 5 T_trie_Hit.c T_trie_Hit.d x6)) [])], [], [], [], [], [], []⟩, ⟨[(1, .r (.agg (T_api_Net.c x2)) []), (2, .r (.tup [(false, (cI .i64) x7.1), (false, cB x7.2)]) [])], [], [], [], [], [], []⟩, ⟨[(1, .r (.one (.lit (.int .i64 x8))) []), (12, .r (.agg (T_api_Net.c x2)) []), (14, .r (.one (.lit (.bool (decide ((x6.getD (0 : Int).toNat T_trie_Hit.d) = (T_trie_Hit.mk x2 (5 : Int))))))) [])], [(3, true), (8, true), (16, false)], [], [[], [0], [1, 0], [2, 1, 0], [3, 2, 1, 0], [4, 3, 2, 1, 0], [5, 4, 3, 2, 1, 0], [3, 2, 1, 0, 6, 5, 4], [7, 3, 2, 1, 0, 6, 5, 4], [8, 7, 3, 2, 1, 0, 6, 5, 4], [9, 8, 7, 3, 2, 1, 0, 6, 5, 4], [10, 9, 8, 7, 3, 2, 1, 0, 6, 5, 4], [8, 7, 3, 2, 1, 0, 6, 5, 4], [12, 8, 7, 3, 2, 1, 0, 6, 5, 4], [11, 10, 9, 8, 7, 3, 2, 1, 0, 6, 5, 4, 13, 12], [8, 7, 3, 2, 1, 0, 6, 5, 4, 14, 11, 10, 9, 13, 12], [15, 8, 7, 3, 2, 1, 0, 6, 5, 4, 14, 11, 10, 9, 13, 12], [16, 15, 8, 7, 3, 2, 1, 0, 6, 5, 4, 14, 11, 10, 9, 13, 12], [17, 16, 15, 8, 7, 3, 2, 1, 0, 6, 5, 4, 14, 11, 10, 9, 13, 12], [16, 15, 8, 7, 3, 2, 1, 0, 6, 5, 4, 14, 11, 10, 9, 13, 12, 18, 17], [19, 16, 15, 8, 7, 3, 2, 1, 0, 6, 5, 4, 14, 11, 10, 9, 13, 12, 18, 17], [20, 19, 16, 15, 8, 7, 3, 2, 1, 0, 6, 5, 4, 14, 11, 10, 9, 13, 12, 18, 17], [20, 19, 16, 15, 8, 7, 3, 2, 1, 0, 6, 5, 4, 14, 11, 10, 9, 13, 12, 18, 17, 21], [22, 20, 19, 16, 15, 8, 7, 3, 2, 1, 0, 6, 5, 4, 14, 11, 10, 9, 13, 12, 18, 17, 21], [23, 22, 20, 19, 16, 15, 8, 7, 3, 2, 1, 0, 6, 5, 4, 14, 11, 10, 9, 13, 12, 18, 17, 21], [23, 22, 20, 19, 16, 15, 8, 7, 3, 2, 1, 0, 6, 5, 4, 14, 11, 10, 9, 13, 12, 18, 17, 21], [24, 23, 22, 20, 19, 16, 15, 8, 7, 3, 2, 1, 0, 6, 5, 4, 14, 11, 10, 9, 13, 12, 18, 17, 21, 25], [26, 24, 23, 22, 20, 19, 16, 15, 8, 7, 3, 2, 1, 0, 6, 5, 4, 14, 11, 10, 9, 13, 12, 18, 17, 21, 25], [27, 26, 24, 23, 22, 20, 19, 16, 15, 8, 7, 3, 2, 1, 0, 6, 5, 4, 14, 11, 10, 9, 13, 12, 18, 17, 21, 25], [23, 22, 20, 19, 16, 15, 8, 7, 3, 2, 1, 0, 6, 5, 4, 14, 11, 10, 9, 13, 12, 18, 17, 21, 28, 27, 26, 24, 25], [29, 23, 22, 20, 19, 16, 15, 8, 7, 3, 2, 1, 0, 6, 5, 4, 14, 11, 10, 9, 13, 12, 18, 17, 21, 28, 27, 26, 24, 25]], [], [], []⟩] [] [] [] [] [SCall Try.prog 39 [] (.one (N_trie_Trie.c x1)), SCall Try.prog 89 [.one (.lit (.int .i64 (8 : Int)))] (.agg (T_api_Net.c x2)), SCall Try.prog 50 [.one (N_trie_Trie.c x1), .agg (T_api_Net.c x2), .one (.lit (.int .i64 (5 : Int)))] (.one (N_trie_Trie.c x3)), SCall Try.prog 89 [.one (.lit (.int .i64 (16 : Int)))] (.agg (T_api_Net.c x4)), SCall Try.prog 50 [.one (N_trie_Trie.c x3), .agg (T_api_Net.c x4), .one (.lit (.int .i64 (6 : Int)))] (.one (N_trie_Trie.c x5)), SCall Try.prog 48 [.one (N_trie_Trie.c x5), .agg (T_api_Addr.c (T_api_Addr.mk false (0 : Int) (167772675 : Int)))] (.one (cL 5 T_trie_Hit.c T_trie_Hit.d x6)), SCall Try.prog 89 [.one (.lit (.int .i64 (8 : Int)))] (.agg (T_api_Net.c x2)), SCall Try.prog 43 [.one (N_trie_Trie.c x5), .agg (T_api_Net.c x2)] (.tup [(false, (cI .i64) x7.1), (false, cB x7.2)]), SCall Try.prog 45 [.one (N_trie_Trie.c x5)] (.one (.lit (.int .i64 x8))), (x8 == (2 : Int)) = true, (((x6.length : Nat) : Int) == (2 : Int)) = true, 0 ≤ (0 : Int) ∧ (0 : Int) < ((x6.length : Nat) : Int), SCall Try.prog 89 [.one (.lit (.int .i64 (8 : Int)))] (.agg (T_api_Net.c x2)), ∀ w, (do eqGuard .eql 101 (.tmp 30) (.tmp 32) (.agg #[.bool ((((x6.getD (0 : Int).toNat T_trie_Hit.d).fNet).fAddr).fV6), .int .u64 ((((x6.getD (0 : Int).toNat T_trie_Hit.d).fNet).fAddr).fHi), .int .u64 ((((x6.getD (0 : Int).toNat T_trie_Hit.d).fNet).fAddr).fLo), .int .i64 (((x6.getD (0 : Int).toNat T_trie_Hit.d).fNet).fBits), .int .i64 ((x6.getD (0 : Int).toNat T_trie_Hit.d).fV)]) (.agg #[.bool ((((T_trie_Hit.mk x2 (5 : Int)).fNet).fAddr).fV6), .int .u64 ((((T_trie_Hit.mk x2 (5 : Int)).fNet).fAddr).fHi), .int .u64 ((((T_trie_Hit.mk x2 (5 : Int)).fNet).fAddr).fLo), .int .i64 (((T_trie_Hit.mk x2 (5 : Int)).fNet).fBits), .int .i64 ((T_trie_Hit.mk x2 (5 : Int)).fV)]); binOp .eql 101 (.agg #[.bool ((((x6.getD (0 : Int).toNat T_trie_Hit.d).fNet).fAddr).fV6), .int .u64 ((((x6.getD (0 : Int).toNat T_trie_Hit.d).fNet).fAddr).fHi), .int .u64 ((((x6.getD (0 : Int).toNat T_trie_Hit.d).fNet).fAddr).fLo), .int .i64 (((x6.getD (0 : Int).toNat T_trie_Hit.d).fNet).fBits), .int .i64 ((x6.getD (0 : Int).toNat T_trie_Hit.d).fV)]) (.agg #[.bool ((((T_trie_Hit.mk x2 (5 : Int)).fNet).fAddr).fV6), .int .u64 ((((T_trie_Hit.mk x2 (5 : Int)).fNet).fAddr).fHi), .int .u64 ((((T_trie_Hit.mk x2 (5 : Int)).fNet).fAddr).fLo), .int .i64 (((T_trie_Hit.mk x2 (5 : Int)).fNet).fBits), .int .i64 ((T_trie_Hit.mk x2 (5 : Int)).fV)]) : Sem Value).run Try.prog w = .ok (.bool (decide ((x6.getD (0 : Int).toNat T_trie_Hit.d) = (T_trie_Hit.mk x2 (5 : Int))))) w, (decide ((x6.getD (0 : Int).toNat T_trie_Hit.d) = (T_trie_Hit.mk x2 (5 : Int)))) = false] (by kernel_rfl) rfl ⟨(g_trie_New_ok  x1 q1), (g_doormanlaw11_ten_ok (8 : Int) x2 q2), (g_trie_Trie_With_ok x1 x2 (5 : Int) x3 q3), (g_doormanlaw11_ten_ok (16 : Int) x4 q4), (g_trie_Trie_With_ok x3 x4 (6 : Int) x5 q5), (g_trie_Trie_Cover_ok x5 (T_api_Addr.mk false (0 : Int) (167772675 : Int)) x6 q6), (g_doormanlaw11_ten_ok (8 : Int) x2 q2), (g_trie_Trie_Get_ok x5 x2 x7 q7), (g_trie_Trie_Len_ok x5 x8 q8), h9, h10, o11, (g_doormanlaw11_ten_ok (8 : Int) x2 q2), (eql_T_trie_Hit (x6.getD (0 : Int).toNat T_trie_Hit.d) (T_trie_Hit.mk x2 (5 : Int)) _ _), h12, trivial⟩
    · replace hf := Option.some.inj hf
      subst hf
      exact toEnd_good allOk 10 _ _ [⟨[], [], [], [], [], [], []⟩, ⟨[(0, .r (.one (N_trie_Trie.c x1)) []), (1, .r (.agg (T_api_Net.c x2)) []), (2, .r (.one (N_trie_Trie.c x3)) []), (3, .r (.agg (T_api_Net.c x4)) []), (4, .r (.one (N_trie_Trie.c x5)) [])], [], [], [], [], [], []⟩, ⟨[(2, .r (.one (cL 5 T_trie_Hit.c T_trie_Hit.d x6)) [])], [], [], [], [], [], []⟩, ⟨[(1, .r (.agg (T_api_Net.c x2)) []), (2, .r (.tup [(false, (cI .i64) x7.1), (false, cB x7.2)]) [])], [], [], [], [], [], []⟩, ⟨[(1, .r (.one (.lit (.int .i64 x8))) [])], [(3, true), (8, false)], [], [[], [0], [1, 0], [2, 1, 0], [3, 2, 1, 0], [4, 3, 2, 1, 0], [5, 4, 3, 2, 1, 0], [3, 2, 1, 0, 6, 5, 4], [7, 3, 2, 1, 0, 6, 5, 4], [8, 7, 3, 2, 1, 0, 6, 5, 4], [9, 8, 7, 3, 2, 1, 0, 6, 5, 4], [10, 9, 8, 7, 3, 2, 1, 0, 6, 5, 4], [8, 7, 3, 2, 1, 0, 6, 5, 4], [12, 8, 7, 3, 2, 1, 0, 6, 5, 4], [11, 10, 9, 8, 7, 3, 2, 1, 0, 6, 5, 4, 13, 12], [8, 7, 3, 2, 1, 0, 6, 5, 4, 14, 11, 10, 9, 13, 12], [15, 8, 7, 3, 2, 1, 0, 6, 5, 4, 14, 11, 10, 9, 13, 12], [16, 15, 8, 7, 3, 2, 1, 0, 6, 5, 4, 14, 11, 10, 9, 13, 12], [17, 16, 15, 8, 7, 3, 2, 1, 0, 6, 5, 4, 14, 11, 10, 9, 13, 12], [16, 15, 8, 7, 3, 2, 1, 0, 6, 5, 4, 14, 11, 10, 9, 13, 12, 18, 17], [19, 16, 15, 8, 7, 3, 2, 1, 0, 6, 5, 4, 14, 11, 10, 9, 13, 12, 18, 17], [20, 19, 16, 15, 8, 7, 3, 2, 1, 0, 6, 5, 4, 14, 11, 10, 9, 13, 12, 18, 17], [20, 19, 16, 15, 8, 7, 3, 2, 1, 0, 6, 5, 4, 14, 11, 10, 9, 13, 12, 18, 17, 21], [22, 20, 19, 16, 15, 8, 7, 3, 2, 1, 0, 6, 5, 4, 14, 11, 10, 9, 13, 12, 18, 17, 21], [23, 22, 20, 19, 16, 15, 8, 7, 3, 2, 1, 0, 6, 5, 4, 14, 11, 10, 9, 13, 12, 18, 17, 21], [23, 22, 20, 19, 16, 15, 8, 7, 3, 2, 1, 0, 6, 5, 4, 14, 11, 10, 9, 13, 12, 18, 17, 21], [24, 23, 22, 20, 19, 16, 15, 8, 7, 3, 2, 1, 0, 6, 5, 4, 14, 11, 10, 9, 13, 12, 18, 17, 21, 25], [26, 24, 23, 22, 20, 19, 16, 15, 8, 7, 3, 2, 1, 0, 6, 5, 4, 14, 11, 10, 9, 13, 12, 18, 17, 21, 25], [27, 26, 24, 23, 22, 20, 19, 16, 15, 8, 7, 3, 2, 1, 0, 6, 5, 4, 14, 11, 10, 9, 13, 12, 18, 17, 21, 25], [23, 22, 20, 19, 16, 15, 8, 7, 3, 2, 1, 0, 6, 5, 4, 14, 11, 10, 9, 13, 12, 18, 17, 21, 28, 27, 26, 24, 25], [29, 23, 22, 20, 19, 16, 15, 8, 7, 3, 2, 1, 0, 6, 5, 4, 14, 11, 10, 9, 13, 12, 18, 17, 21, 28, 27, 26, 24, 25]], [], [], []⟩] [] [] [] [] [SCall Try.prog 39 [] (.one (N_trie_Trie.c x1)), SCall Try.prog 89 [.one (.lit (.int .i64 (8 : Int)))] (.agg (T_api_Net.c x2)), SCall Try.prog 50 [.one (N_trie_Trie.c x1), .agg (T_api_Net.c x2), .one (.lit (.int .i64 (5 : Int)))] (.one (N_trie_Trie.c x3)), SCall Try.prog 89 [.one (.lit (.int .i64 (16 : Int)))] (.agg (T_api_Net.c x4)), SCall Try.prog 50 [.one (N_trie_Trie.c x3), .agg (T_api_Net.c x4), .one (.lit (.int .i64 (6 : Int)))] (.one (N_trie_Trie.c x5)), SCall Try.prog 48 [.one (N_trie_Trie.c x5), .agg (T_api_Addr.c (T_api_Addr.mk false (0 : Int) (167772675 : Int)))] (.one (cL 5 T_trie_Hit.c T_trie_Hit.d x6)), SCall Try.prog 89 [.one (.lit (.int .i64 (8 : Int)))] (.agg (T_api_Net.c x2)), SCall Try.prog 43 [.one (N_trie_Trie.c x5), .agg (T_api_Net.c x2)] (.tup [(false, (cI .i64) x7.1), (false, cB x7.2)]), SCall Try.prog 45 [.one (N_trie_Trie.c x5)] (.one (.lit (.int .i64 x8))), (x8 == (2 : Int)) = true, (((x6.length : Nat) : Int) == (2 : Int)) = false] (by kernel_rfl) rfl ⟨(g_trie_New_ok  x1 q1), (g_doormanlaw11_ten_ok (8 : Int) x2 q2), (g_trie_Trie_With_ok x1 x2 (5 : Int) x3 q3), (g_doormanlaw11_ten_ok (16 : Int) x4 q4), (g_trie_Trie_With_ok x3 x4 (6 : Int) x5 q5), (g_trie_Trie_Cover_ok x5 (T_api_Addr.mk false (0 : Int) (167772675 : Int)) x6 q6), (g_doormanlaw11_ten_ok (8 : Int) x2 q2), (g_trie_Trie_Get_ok x5 x2 x7 q7), (g_trie_Trie_Len_ok x5 x8 q8), h9, h10, trivial⟩
  · replace hf := Option.some.inj hf
    subst hf
    exact toEnd_good allOk 10 _ _ [⟨[], [], [], [], [], [], []⟩, ⟨[(0, .r (.one (N_trie_Trie.c x1)) []), (1, .r (.agg (T_api_Net.c x2)) []), (2, .r (.one (N_trie_Trie.c x3)) []), (3, .r (.agg (T_api_Net.c x4)) []), (4, .r (.one (N_trie_Trie.c x5)) [])], [], [], [], [], [], []⟩, ⟨[(2, .r (.one (cL 5 T_trie_Hit.c T_trie_Hit.d x6)) [])], [], [], [], [], [], []⟩, ⟨[(1, .r (.agg (T_api_Net.c x2)) []), (2, .r (.tup [(false, (cI .i64) x7.1), (false, cB x7.2)]) [])], [], [], [], [], [], []⟩, ⟨[(1, .r (.one (.lit (.int .i64 x8))) [])], [(3, false)], [], [[], [0], [1, 0], [2, 1, 0], [3, 2, 1, 0], [4, 3, 2, 1, 0], [5, 4, 3, 2, 1, 0], [3, 2, 1, 0, 6, 5, 4], [7, 3, 2, 1, 0, 6, 5, 4], [8, 7, 3, 2, 1, 0, 6, 5, 4], [9, 8, 7, 3, 2, 1, 0, 6, 5, 4], [10, 9, 8, 7, 3, 2, 1, 0, 6, 5, 4], [8, 7, 3, 2, 1, 0, 6, 5, 4], [12, 8, 7, 3, 2, 1, 0, 6, 5, 4], [11, 10, 9, 8, 7, 3, 2, 1, 0, 6, 5, 4, 13, 12], [8, 7, 3, 2, 1, 0, 6, 5, 4, 14, 11, 10, 9, 13, 12], [15, 8, 7, 3, 2, 1, 0, 6, 5, 4, 14, 11, 10, 9, 13, 12], [16, 15, 8, 7, 3, 2, 1, 0, 6, 5, 4, 14, 11, 10, 9, 13, 12], [17, 16, 15, 8, 7, 3, 2, 1, 0, 6, 5, 4, 14, 11, 10, 9, 13, 12], [16, 15, 8, 7, 3, 2, 1, 0, 6, 5, 4, 14, 11, 10, 9, 13, 12, 18, 17], [19, 16, 15, 8, 7, 3, 2, 1, 0, 6, 5, 4, 14, 11, 10, 9, 13, 12, 18, 17], [20, 19, 16, 15, 8, 7, 3, 2, 1, 0, 6, 5, 4, 14, 11, 10, 9, 13, 12, 18, 17], [20, 19, 16, 15, 8, 7, 3, 2, 1, 0, 6, 5, 4, 14, 11, 10, 9, 13, 12, 18, 17, 21], [22, 20, 19, 16, 15, 8, 7, 3, 2, 1, 0, 6, 5, 4, 14, 11, 10, 9, 13, 12, 18, 17, 21], [23, 22, 20, 19, 16, 15, 8, 7, 3, 2, 1, 0, 6, 5, 4, 14, 11, 10, 9, 13, 12, 18, 17, 21], [23, 22, 20, 19, 16, 15, 8, 7, 3, 2, 1, 0, 6, 5, 4, 14, 11, 10, 9, 13, 12, 18, 17, 21], [24, 23, 22, 20, 19, 16, 15, 8, 7, 3, 2, 1, 0, 6, 5, 4, 14, 11, 10, 9, 13, 12, 18, 17, 21, 25], [26, 24, 23, 22, 20, 19, 16, 15, 8, 7, 3, 2, 1, 0, 6, 5, 4, 14, 11, 10, 9, 13, 12, 18, 17, 21, 25], [27, 26, 24, 23, 22, 20, 19, 16, 15, 8, 7, 3, 2, 1, 0, 6, 5, 4, 14, 11, 10, 9, 13, 12, 18, 17, 21, 25], [23, 22, 20, 19, 16, 15, 8, 7, 3, 2, 1, 0, 6, 5, 4, 14, 11, 10, 9, 13, 12, 18, 17, 21, 28, 27, 26, 24, 25], [29, 23, 22, 20, 19, 16, 15, 8, 7, 3, 2, 1, 0, 6, 5, 4, 14, 11, 10, 9, 13, 12, 18, 17, 21, 28, 27, 26, 24, 25]], [], [], []⟩] [] [] [] [] [SCall Try.prog 39 [] (.one (N_trie_Trie.c x1)), SCall Try.prog 89 [.one (.lit (.int .i64 (8 : Int)))] (.agg (T_api_Net.c x2)), SCall Try.prog 50 [.one (N_trie_Trie.c x1), .agg (T_api_Net.c x2), .one (.lit (.int .i64 (5 : Int)))] (.one (N_trie_Trie.c x3)), SCall Try.prog 89 [.one (.lit (.int .i64 (16 : Int)))] (.agg (T_api_Net.c x4)), SCall Try.prog 50 [.one (N_trie_Trie.c x3), .agg (T_api_Net.c x4), .one (.lit (.int .i64 (6 : Int)))] (.one (N_trie_Trie.c x5)), SCall Try.prog 48 [.one (N_trie_Trie.c x5), .agg (T_api_Addr.c (T_api_Addr.mk false (0 : Int) (167772675 : Int)))] (.one (cL 5 T_trie_Hit.c T_trie_Hit.d x6)), SCall Try.prog 89 [.one (.lit (.int .i64 (8 : Int)))] (.agg (T_api_Net.c x2)), SCall Try.prog 43 [.one (N_trie_Trie.c x5), .agg (T_api_Net.c x2)] (.tup [(false, (cI .i64) x7.1), (false, cB x7.2)]), SCall Try.prog 45 [.one (N_trie_Trie.c x5)] (.one (.lit (.int .i64 x8))), (x8 == (2 : Int)) = false] (by kernel_rfl) rfl ⟨(g_trie_New_ok  x1 q1), (g_doormanlaw11_ten_ok (8 : Int) x2 q2), (g_trie_Trie_With_ok x1 x2 (5 : Int) x3 q3), (g_doormanlaw11_ten_ok (16 : Int) x4 q4), (g_trie_Trie_With_ok x3 x4 (6 : Int) x5 q5), (g_trie_Trie_Cover_ok x5 (T_api_Addr.mk false (0 : Int) (167772675 : Int)) x6 q6), (g_doormanlaw11_ten_ok (8 : Int) x2 q2), (g_trie_Trie_Get_ok x5 x2 x7 q7), (g_trie_Trie_Len_ok x5 x8 q8), h9, trivial⟩

/-- doorman/doormanlaw11.does -/
def g_doormanlaw11_does (a0 : N_trie_Trie) (a1 : T_doormanlaw11_Act) : Option N_trie_Trie :=
  bif (a1.fKind == (0 : Int)) then
    (g_trie_Trie_With a0 a1.fNet a1.fV).bind fun x1 =>
    some x1
  else
    (g_trie_Trie_Without a0 a1.fNet).bind fun x2 =>
    some x2

theorem g_doormanlaw11_does_ok (a0 : N_trie_Trie) (a1 : T_doormanlaw11_Act) (r : N_trie_Trie) (hf : g_doormanlaw11_does a0 a1 = some r) : SCall Try.prog 40 [.one (N_trie_Trie.c a0), .agg (T_doormanlaw11_Act.c a1)] (.one (N_trie_Trie.c r)) := by
  refine SCall.of Try.func40 rfl rfl rfl rfl fun S0 w0 => ?_
  unfold g_doormanlaw11_does at hf
  rcases br_some hf with ⟨h1, hf⟩ | ⟨h1, hf⟩
  · obtain ⟨x1, q2, hf⟩ := bind_some' hf
    replace hf := Option.some.inj hf
    subst hf
    exact toEnd_good allOk 8 _ _ [⟨[], [], [], [], [], [], []⟩, ⟨[], [], [], [], [], [], []⟩, ⟨[(5, .r (.one (N_trie_Trie.c x1)) [])], [], [], [], [], [], []⟩] [true] [] [] [] [(a1.fKind == (0 : Int)) = true, SCall Try.prog 50 [.one (N_trie_Trie.c a0), .agg (T_api_Net.c a1.fNet), .one (.lit (.int .i64 a1.fV))] (.one (N_trie_Trie.c x1))] (by kernel_rfl) rfl ⟨h1, (g_trie_Trie_With_ok a0 a1.fNet a1.fV x1 q2), trivial⟩
  · obtain ⟨x2, q3, hf⟩ := bind_some' hf
    replace hf := Option.some.inj hf
    subst hf
    exact toEnd_good allOk 9 _ _ [⟨[], [], [], [], [], [], []⟩, ⟨[], [], [], [], [], [], []⟩, ⟨[(3, .r (.one (N_trie_Trie.c x2)) [])], [], [], [], [], [], []⟩] [false] [] [] [] [(a1.fKind == (0 : Int)) = false, SCall Try.prog 90 [.one (N_trie_Trie.c a0), .agg (T_api_Net.c a1.fNet)] (.one (N_trie_Trie.c x2))] (by kernel_rfl) rfl ⟨h1, (g_trie_Trie_Without_ok a0 a1.fNet x2 q3), trivial⟩

/-- doorman/doormanref06.Right -/
def g_doormanref06_Right (a0 : T_api_Addr) : Option Bool :=
  bif (!a0.fV6) then
    bif (a0.fHi == (0 : Int)) then
      some (decide (a0.fLo < (4294967296 : Int)))
    else
      some false
  else
    bif (a0.fHi != (0 : Int)) then
      some true
    else
      some ((IntKind.wrap .u64 (Int.tdiv a0.fLo (4294967296 : Int))) != (65535 : Int))

theorem g_doormanref06_Right_ok (a0 : T_api_Addr) (r : Bool) (hf : g_doormanref06_Right a0 = some r) : SCall Try.prog 114 [.agg (T_api_Addr.c a0)] (.one (.lit (.bool r))) := by
  refine SCall.of Try.func114 rfl rfl rfl rfl fun S0 w0 => ?_
  unfold g_doormanref06_Right at hf
  rcases br_some hf with ⟨h1, hf⟩ | ⟨h1, hf⟩
  · rcases br_some hf with ⟨h2, hf⟩ | ⟨h2, hf⟩
    · replace hf := Option.some.inj hf
      subst hf
      exact toEnd_good allOk 8 _ _ [⟨[], [], [], [], [], [], []⟩, ⟨[], [], [], [], [], [], []⟩, ⟨[], [(3, true)], [], [], [], [], []⟩] [true] [] [] [] [(!a0.fV6) = true, (a0.fHi == (0 : Int)) = true] (by kernel_rfl) rfl ⟨h1, h2, trivial⟩
    · replace hf := Option.some.inj hf
      subst hf
      exact toEnd_good allOk 8 _ _ [⟨[], [], [], [], [], [], []⟩, ⟨[], [], [], [], [], [], []⟩, ⟨[], [(3, false)], [], [], [], [], []⟩] [true] [] [] [] [(!a0.fV6) = true, (a0.fHi == (0 : Int)) = false] (by kernel_rfl) rfl ⟨h1, h2, trivial⟩
  · rcases br_some hf with ⟨h3, hf⟩ | ⟨h3, hf⟩
    · replace hf := Option.some.inj hf
      subst hf
      exact toEnd_good allOk 9 _ _ [⟨[], [], [], [], [], [], []⟩, ⟨[], [], [], [], [], [], []⟩, ⟨[], [(3, true)], [], [], [], [], []⟩] [false] [] [] [] [(!a0.fV6) = false, (a0.fHi != (0 : Int)) = true] (by kernel_rfl) rfl ⟨h1, h3, trivial⟩
    · replace hf := Option.some.inj hf
      subst hf
      exact toEnd_good allOk 9 _ _ [⟨[], [], [], [], [], [], []⟩, ⟨[], [], [], [], [], [], []⟩, ⟨[], [(3, false)], [], [], [], [], []⟩] [false] [] [] [] [(!a0.fV6) = false, (a0.fHi != (0 : Int)) = false, (4294967296 : Int) ≠ 0] (by kernel_rfl) rfl ⟨h1, h3, (by decide), trivial⟩

/-- doorman/doormanref06.Bits -/
def g_doormanref06_Bits (a0 : T_api_Addr) : Option Int :=
  bif a0.fV6 then
    some (128 : Int)
  else
    some (32 : Int)

theorem g_doormanref06_Bits_ok (a0 : T_api_Addr) (r : Int) (hf : g_doormanref06_Bits a0 = some r) : SCall Try.prog 101 [.agg (T_api_Addr.c a0)] (.one (.lit (.int .i64 r))) := by
  refine SCall.of Try.func101 rfl rfl rfl rfl fun S0 w0 => ?_
  unfold g_doormanref06_Bits at hf
  rcases br_some hf with ⟨h1, hf⟩ | ⟨h1, hf⟩
  · replace hf := Option.some.inj hf
    subst hf
    exact toEnd_good allOk 8 _ _ [⟨[], [], [], [], [], [], []⟩, ⟨[], [], [], [], [], [], []⟩, ⟨[], [], [], [], [], [], []⟩] [true] [] [] [] [a0.fV6 = true] (by kernel_rfl) rfl ⟨h1, trivial⟩
  · replace hf := Option.some.inj hf
    subst hf
    exact toEnd_good allOk 9 _ _ [⟨[], [], [], [], [], [], []⟩, ⟨[], [], [], [], [], [], []⟩, ⟨[], [], [], [], [], [], []⟩] [false] [] [] [] [a0.fV6 = false] (by kernel_rfl) rfl ⟨h1, trivial⟩

def g_doormanref06_Bit_c0 (a1 : Int)  (v5 : Int) (b2 : T_api_Addr) : Option Int :=
  bif (!b2.fV6) then
    need (0 ≤ (IntKind.wrap .u64 (sub64 (31 : Int) a1))) <|
    some (IntKind.wrap .i64 (IntKind.wrap .u64 (((BitVec.ofInt (IntKind.bits .u64) (Int.fdiv v5 (2 ^ (min (IntKind.wrap .u64 (sub64 (31 : Int) a1)).toNat (IntKind.bits .u64))))) &&& (BitVec.ofInt (IntKind.bits .u64) (1 : Int))).toNat : Int)))
  else
    need (0 ≤ (IntKind.wrap .u64 (sub64 (63 : Int) (Int.tmod a1 (64 : Int))))) <|
    some (IntKind.wrap .i64 (IntKind.wrap .u64 (((BitVec.ofInt (IntKind.bits .u64) (Int.fdiv v5 (2 ^ (min (IntKind.wrap .u64 (sub64 (63 : Int) (Int.tmod a1 (64 : Int)))).toNat (IntKind.bits .u64))))) &&& (BitVec.ofInt (IntKind.bits .u64) (1 : Int))).toNat : Int)))

theorem g_doormanref06_Bit_c0_ok (S0 : Nat → Prop) (w0 : Start) (a1 : Int)  (v5 : Int) (b2 : T_api_Addr) (r : Int) (hf : g_doormanref06_Bit_c0 a1  v5 b2 = some r) : Good Try.prog 39 S0 w0 (bodyPost Try.prog Try.f115 (Post S0 w0 (.one (.lit (.int .i64 r))))) (at_ [1, 1, 1, 1] (bodyOf Try.f115)) ⟨[(1, .one (.lit (.int .i64 a1))), (2, .one (.ptr 2 0)), (5, .one (.lit (.int .u64 v5)))], [(2, .box [.lit (.bool b2.fV6), .lit (.int .u64 b2.fHi), .lit (.int .u64 b2.fLo)])]⟩ := by
  unfold g_doormanref06_Bit_c0 at hf
  rcases br_some hf with ⟨h6, hf⟩ | ⟨h6, hf⟩
  · obtain ⟨o7, hf⟩ := need_some hf
    replace hf := Option.some.inj hf
    subst hf
    exact toEnd_good allOk 9 _ _ [⟨[], [], [], [], [], [], []⟩, ⟨[], [], [], [], [], [], []⟩, ⟨[], [], [], [], [], [], []⟩, ⟨[], [], [], [], [], [], []⟩] [true] [] [] [] [(64 : Int) ≠ 0, (!b2.fV6) = true, 0 ≤ (IntKind.wrap .u64 (sub64 (31 : Int) a1))] (by kernel_rfl) rfl ⟨(by decide), h6, o7, trivial⟩
  · obtain ⟨o8, hf⟩ := need_some hf
    replace hf := Option.some.inj hf
    subst hf
    exact toEnd_good allOk 9 _ _ [⟨[], [], [], [], [], [], []⟩, ⟨[], [], [], [], [], [], []⟩, ⟨[], [], [], [], [], [], []⟩] [false] [] [] [] [(64 : Int) ≠ 0, (!b2.fV6) = false, 0 ≤ (IntKind.wrap .u64 (sub64 (63 : Int) (Int.tmod a1 (64 : Int))))] (by kernel_rfl) rfl ⟨(by decide), h6, o8, trivial⟩

/-- doorman/doormanref06.Bit -/
def g_doormanref06_Bit (a0 : T_api_Addr) (a1 : Int) : Option Int :=
  bif (decide (a1 < (0 : Int))) then
    some (0 : Int)
  else
    (g_doormanref06_Bits a0).bind fun x1 =>
    bif (decide (a1 ≥ x1)) then
      some (0 : Int)
    else
      bif a0.fV6 then
        bif (decide (a1 < (64 : Int))) then
          g_doormanref06_Bit_c0 a1  a0.fHi a0
        else
          g_doormanref06_Bit_c0 a1  a0.fLo a0
      else
        g_doormanref06_Bit_c0 a1  a0.fLo a0

theorem g_doormanref06_Bit_ok (a0 : T_api_Addr) (a1 : Int) (r : Int) (hf : g_doormanref06_Bit a0 a1 = some r) : SCall Try.prog 115 [.agg (T_api_Addr.c a0), .one (.lit (.int .i64 a1))] (.one (.lit (.int .i64 r))) := by
  refine SCall.of Try.func115 rfl rfl rfl rfl fun S0 w0 => ?_
  unfold g_doormanref06_Bit at hf
  rcases br_some hf with ⟨h1, hf⟩ | ⟨h1, hf⟩
  · replace hf := Option.some.inj hf
    subst hf
    exact toEnd_good allOk 8 _ _ [⟨[], [], [], [], [], [], []⟩, ⟨[], [(2, true)], [], [], [], [], []⟩, ⟨[], [], [], [], [], [], []⟩] [true] [] [] [] [(decide (a1 < (0 : Int))) = true, true = true] (by kernel_rfl) rfl ⟨h1, rfl, trivial⟩
  · obtain ⟨x1, q2, hf⟩ := bind_some' hf
    rcases br_some hf with ⟨h3, hf⟩ | ⟨h3, hf⟩
    · replace hf := Option.some.inj hf
      subst hf
      exact toEnd_good allOk 8 _ _ [⟨[], [], [], [], [], [], []⟩, ⟨[(5, .r (.one (.lit (.int .i64 x1))) [])], [(2, false)], [], [], [], [], []⟩, ⟨[], [], [], [], [], [], []⟩] [true] [] [] [] [(decide (a1 < (0 : Int))) = false, SCall Try.prog 101 [.agg (T_api_Addr.c a0)] (.one (.lit (.int .i64 x1))), (decide (a1 ≥ x1)) = true] (by kernel_rfl) rfl ⟨h1, (g_doormanref06_Bits_ok a0 x1 q2), h3, trivial⟩
    · rcases br_some hf with ⟨h4, hf⟩ | ⟨h4, hf⟩
      · rcases br_some hf with ⟨h5, hf⟩ | ⟨h5, hf⟩
        · exact toK_good allOk Post.ends 14 _ _ _ _ [⟨[], [], [], [], [], [], []⟩, ⟨[(5, .r (.one (.lit (.int .i64 x1))) [])], [(2, false)], [], [], [], [], []⟩, ⟨[], [], [], [], [], [], []⟩, ⟨[], [(2, true)], [], [], [], [], []⟩, ⟨[], [], [], [], [], [], []⟩] [false, true] ⟨[], [], [], [], [], [1, 2, 5], [2], []⟩ [(decide (a1 < (0 : Int))) = false, SCall Try.prog 101 [.agg (T_api_Addr.c a0)] (.one (.lit (.int .i64 x1))), (decide (a1 ≥ x1)) = false, a0.fV6 = true, (decide (a1 < (64 : Int))) = true] (by kernel_rfl) ⟨h1, (g_doormanref06_Bits_ok a0 x1 q2), h3, h4, h5, trivial⟩ (g_doormanref06_Bit_c0_ok S0 w0 a1   a0.fHi a0 r hf)
        · exact toK_good allOk Post.ends 14 _ _ _ _ [⟨[], [], [], [], [], [], []⟩, ⟨[(5, .r (.one (.lit (.int .i64 x1))) [])], [(2, false)], [], [], [], [], []⟩, ⟨[], [], [], [], [], [], []⟩, ⟨[], [(2, true)], [], [], [], [], []⟩] [false, false] ⟨[], [], [], [], [], [1, 2, 5], [2], []⟩ [(decide (a1 < (0 : Int))) = false, SCall Try.prog 101 [.agg (T_api_Addr.c a0)] (.one (.lit (.int .i64 x1))), (decide (a1 ≥ x1)) = false, a0.fV6 = true, (decide (a1 < (64 : Int))) = false] (by kernel_rfl) ⟨h1, (g_doormanref06_Bits_ok a0 x1 q2), h3, h4, h5, trivial⟩ (g_doormanref06_Bit_c0_ok S0 w0 a1   a0.fLo a0 r hf)
      · exact toK_good allOk Post.ends 14 _ _ _ _ [⟨[], [], [], [], [], [], []⟩, ⟨[(5, .r (.one (.lit (.int .i64 x1))) [])], [(2, false)], [], [], [], [], []⟩, ⟨[], [], [], [], [], [], []⟩, ⟨[], [(2, false)], [], [], [], [], []⟩] [false, false] ⟨[], [], [], [], [], [1, 2, 5], [2], []⟩ [(decide (a1 < (0 : Int))) = false, SCall Try.prog 101 [.agg (T_api_Addr.c a0)] (.one (.lit (.int .i64 x1))), (decide (a1 ≥ x1)) = false, a0.fV6 = false, false = false] (by kernel_rfl) ⟨h1, (g_doormanref06_Bits_ok a0 x1 q2), h3, h4, rfl, trivial⟩ (g_doormanref06_Bit_c0_ok S0 w0 a1   a0.fLo a0 r hf)

def g_doormanref07_Right_c0   : Nat → Int → T_api_Net → Option Bool
  | 0, _, _ => none
  | fu + 1, v3, b1 =>
    (g_doormanref06_Bits b1.fAddr).bind fun x3 =>
    bif (decide (v3 < x3)) then
      (g_doormanref06_Bit b1.fAddr v3).bind fun x4 =>
      bif (x4 == (1 : Int)) then
        some false
      else
        g_doormanref07_Right_c0   fu (add64 v3 (1 : Int)) b1
    else
      some true

theorem g_doormanref07_Right_c0_ok (S0 : Nat → Prop) (w0 : Start)   : ∀ (fu : Nat) (v3 : Int) (b1 : T_api_Net) (r : Bool), g_doormanref07_Right_c0   fu v3 b1 = some r → Good Try.prog 35 S0 w0 (bodyPost Try.prog Try.f91 (Post S0 w0 (.one (.lit (.bool r))))) (at_ [1, 1, 0, 1, 0] (bodyOf Try.f91)) ⟨[(1, .one (.ptr 1 0)), (3, .one (.lit (.int .i64 v3)))], [(1, .box [.lit (.bool b1.fAddr.fV6), .lit (.int .u64 b1.fAddr.fHi), .lit (.int .u64 b1.fAddr.fLo), .lit (.int .i64 b1.fBits)])]⟩ := by
  intro fu
  induction fu with
  | zero =>
    intro v3 b1 r hf
    simp [g_doormanref07_Right_c0] at hf
  | succ fu ih =>
    intro v3 b1 r hf
    unfold g_doormanref07_Right_c0 at hf
    obtain ⟨x3, q6, hf⟩ := bind_some' hf
    rcases br_some hf with ⟨h7, hf⟩ | ⟨h7, hf⟩
    · obtain ⟨x4, q8, hf⟩ := bind_some' hf
      rcases br_some hf with ⟨h9, hf⟩ | ⟨h9, hf⟩
      · replace hf := Option.some.inj hf
        subst hf
        exact toEnd_good allOk 13 _ _ [⟨[(3, .r (.one (.lit (.int .i64 x3))) [])], [], [], [], [], [], []⟩, ⟨[(3, .r (.one (.lit (.int .i64 x4))) [])], [], [], [], [], [], []⟩, ⟨[], [], [], [], [], [], []⟩] [true, true] [] [] [] [SCall Try.prog 101 [.agg (T_api_Addr.c b1.fAddr)] (.one (.lit (.int .i64 x3))), (decide (v3 < x3)) = true, SCall Try.prog 115 [.agg (T_api_Addr.c b1.fAddr), .one (.lit (.int .i64 v3))] (.one (.lit (.int .i64 x4))), (x4 == (1 : Int)) = true] (by kernel_rfl) rfl ⟨(g_doormanref06_Bits_ok b1.fAddr x3 q6), h7, (g_doormanref06_Bit_ok b1.fAddr v3 x4 q8), h9, trivial⟩
      · exact toK_good allOk Post.ends 15 _ _ _ _ [⟨[(3, .r (.one (.lit (.int .i64 x3))) [])], [], [], [], [], [], []⟩, ⟨[(3, .r (.one (.lit (.int .i64 x4))) [])], [], [], [], [], [], []⟩, ⟨[], [], [], [], [], [], []⟩] [true, false] ⟨[], [], [], [], [], [1, 3], [1], []⟩ [SCall Try.prog 101 [.agg (T_api_Addr.c b1.fAddr)] (.one (.lit (.int .i64 x3))), (decide (v3 < x3)) = true, SCall Try.prog 115 [.agg (T_api_Addr.c b1.fAddr), .one (.lit (.int .i64 v3))] (.one (.lit (.int .i64 x4))), (x4 == (1 : Int)) = false] (by kernel_rfl) ⟨(g_doormanref06_Bits_ok b1.fAddr x3 q6), h7, (g_doormanref06_Bit_ok b1.fAddr v3 x4 q8), h9, trivial⟩ (ih (add64 v3 (1 : Int)) b1 r hf)
    · replace hf := Option.some.inj hf
      subst hf
      exact toEnd_good allOk 8 _ _ [⟨[(3, .r (.one (.lit (.int .i64 x3))) [])], [], [], [], [], [], []⟩, ⟨[], [], [], [], [], [], []⟩] [false] [] [] [] [SCall Try.prog 101 [.agg (T_api_Addr.c b1.fAddr)] (.one (.lit (.int .i64 x3))), (decide (v3 < x3)) = false] (by kernel_rfl) rfl ⟨(g_doormanref06_Bits_ok b1.fAddr x3 q6), h7, trivial⟩

/-- doorman/doormanref07.Right -/
def g_doormanref07_Right (a0 : T_api_Net) : Option Bool :=
  (g_doormanref06_Right a0.fAddr).bind fun x1 =>
  bif (!x1) then
    some false
  else
    bif (decide (a0.fBits < (0 : Int))) then
      some false
    else
      (g_doormanref06_Bits a0.fAddr).bind fun x2 =>
      bif (decide (a0.fBits > x2)) then
        some false
      else
        g_doormanref07_Right_c0   1000000 a0.fBits a0

theorem g_doormanref07_Right_ok (a0 : T_api_Net) (r : Bool) (hf : g_doormanref07_Right a0 = some r) : SCall Try.prog 91 [.agg (T_api_Net.c a0)] (.one (.lit (.bool r))) := by
  refine SCall.of Try.func91 rfl rfl rfl rfl fun S0 w0 => ?_
  unfold g_doormanref07_Right at hf
  obtain ⟨x1, q1, hf⟩ := bind_some' hf
  rcases br_some hf with ⟨h2, hf⟩ | ⟨h2, hf⟩
  · replace hf := Option.some.inj hf
    subst hf
    exact toEnd_good allOk 8 _ _ [⟨[], [], [], [], [], [], []⟩, ⟨[(2, .r (.one (.lit (.bool x1))) [])], [(4, true)], [], [[], [0], [1, 0], [2, 1, 0], [3, 2, 1, 0], [4, 3, 2, 1, 0], [5, 4, 3, 2, 1, 0], [6, 5, 4, 3, 2, 1, 0], [4, 3, 2, 1, 0, 7, 6, 5], [8, 4, 3, 2, 1, 0, 7, 6, 5], [9, 8, 4, 3, 2, 1, 0, 7, 6, 5], [10, 9, 8, 4, 3, 2, 1, 0, 7, 6, 5], [9, 8, 4, 3, 2, 1, 0, 7, 6, 5], [12, 9, 8, 4, 3, 2, 1, 0, 7, 6, 5], [13, 12, 9, 8, 4, 3, 2, 1, 0, 7, 6, 5], [11, 10, 9, 8, 4, 3, 2, 1, 0, 7, 6, 5, 14, 13, 12], [9, 8, 4, 3, 2, 1, 0, 7, 6, 5, 15, 11, 10, 14, 13, 12]], [], [], []⟩, ⟨[], [], [], [], [], [], []⟩] [true] [] [] [] [SCall Try.prog 114 [.agg (T_api_Addr.c a0.fAddr)] (.one (.lit (.bool x1))), (!x1) = true, true = true] (by kernel_rfl) rfl ⟨(g_doormanref06_Right_ok a0.fAddr x1 q1), h2, rfl, trivial⟩
  · rcases br_some hf with ⟨h3, hf⟩ | ⟨h3, hf⟩
    · replace hf := Option.some.inj hf
      subst hf
      exact toEnd_good allOk 8 _ _ [⟨[], [], [], [], [], [], []⟩, ⟨[(2, .r (.one (.lit (.bool x1))) [])], [(4, false), (9, true)], [], [[], [0], [1, 0], [2, 1, 0], [3, 2, 1, 0], [4, 3, 2, 1, 0], [5, 4, 3, 2, 1, 0], [6, 5, 4, 3, 2, 1, 0], [4, 3, 2, 1, 0, 7, 6, 5], [8, 4, 3, 2, 1, 0, 7, 6, 5], [9, 8, 4, 3, 2, 1, 0, 7, 6, 5], [10, 9, 8, 4, 3, 2, 1, 0, 7, 6, 5], [9, 8, 4, 3, 2, 1, 0, 7, 6, 5], [12, 9, 8, 4, 3, 2, 1, 0, 7, 6, 5], [13, 12, 9, 8, 4, 3, 2, 1, 0, 7, 6, 5], [11, 10, 9, 8, 4, 3, 2, 1, 0, 7, 6, 5, 14, 13, 12], [9, 8, 4, 3, 2, 1, 0, 7, 6, 5, 15, 11, 10, 14, 13, 12]], [], [], []⟩, ⟨[], [], [], [], [], [], []⟩] [true] [] [] [] [SCall Try.prog 114 [.agg (T_api_Addr.c a0.fAddr)] (.one (.lit (.bool x1))), (!x1) = false, (decide (a0.fBits < (0 : Int))) = true, true = true] (by kernel_rfl) rfl ⟨(g_doormanref06_Right_ok a0.fAddr x1 q1), h2, h3, rfl, trivial⟩
    · obtain ⟨x2, q4, hf⟩ := bind_some' hf
      rcases br_some hf with ⟨h5, hf⟩ | ⟨h5, hf⟩
      · replace hf := Option.some.inj hf
        subst hf
        exact toEnd_good allOk 8 _ _ [⟨[], [], [], [], [], [], []⟩, ⟨[(2, .r (.one (.lit (.bool x1))) []), (14, .r (.one (.lit (.int .i64 x2))) [])], [(4, false), (9, false)], [], [[], [0], [1, 0], [2, 1, 0], [3, 2, 1, 0], [4, 3, 2, 1, 0], [5, 4, 3, 2, 1, 0], [6, 5, 4, 3, 2, 1, 0], [4, 3, 2, 1, 0, 7, 6, 5], [8, 4, 3, 2, 1, 0, 7, 6, 5], [9, 8, 4, 3, 2, 1, 0, 7, 6, 5], [10, 9, 8, 4, 3, 2, 1, 0, 7, 6, 5], [9, 8, 4, 3, 2, 1, 0, 7, 6, 5], [12, 9, 8, 4, 3, 2, 1, 0, 7, 6, 5], [13, 12, 9, 8, 4, 3, 2, 1, 0, 7, 6, 5], [11, 10, 9, 8, 4, 3, 2, 1, 0, 7, 6, 5, 14, 13, 12], [9, 8, 4, 3, 2, 1, 0, 7, 6, 5, 15, 11, 10, 14, 13, 12]], [], [], []⟩, ⟨[], [], [], [], [], [], []⟩] [true] [] [] [] [SCall Try.prog 114 [.agg (T_api_Addr.c a0.fAddr)] (.one (.lit (.bool x1))), (!x1) = false, (decide (a0.fBits < (0 : Int))) = false, SCall Try.prog 101 [.agg (T_api_Addr.c a0.fAddr)] (.one (.lit (.int .i64 x2))), (decide (a0.fBits > x2)) = true] (by kernel_rfl) rfl ⟨(g_doormanref06_Right_ok a0.fAddr x1 q1), h2, h3, (g_doormanref06_Bits_ok a0.fAddr x2 q4), h5, trivial⟩
      · exact toK_good allOk Post.ends 11 _ _ _ _ [⟨[], [], [], [], [], [], []⟩, ⟨[(2, .r (.one (.lit (.bool x1))) []), (14, .r (.one (.lit (.int .i64 x2))) [])], [(4, false), (9, false)], [], [[], [0], [1, 0], [2, 1, 0], [3, 2, 1, 0], [4, 3, 2, 1, 0], [5, 4, 3, 2, 1, 0], [6, 5, 4, 3, 2, 1, 0], [4, 3, 2, 1, 0, 7, 6, 5], [8, 4, 3, 2, 1, 0, 7, 6, 5], [9, 8, 4, 3, 2, 1, 0, 7, 6, 5], [10, 9, 8, 4, 3, 2, 1, 0, 7, 6, 5], [9, 8, 4, 3, 2, 1, 0, 7, 6, 5], [12, 9, 8, 4, 3, 2, 1, 0, 7, 6, 5], [13, 12, 9, 8, 4, 3, 2, 1, 0, 7, 6, 5], [11, 10, 9, 8, 4, 3, 2, 1, 0, 7, 6, 5, 14, 13, 12], [9, 8, 4, 3, 2, 1, 0, 7, 6, 5, 15, 11, 10, 14, 13, 12]], [], [], []⟩, ⟨[], [], [], [], [], [], []⟩] [false] ⟨[], [], [], [], [], [1, 3], [1], []⟩ [SCall Try.prog 114 [.agg (T_api_Addr.c a0.fAddr)] (.one (.lit (.bool x1))), (!x1) = false, (decide (a0.fBits < (0 : Int))) = false, SCall Try.prog 101 [.agg (T_api_Addr.c a0.fAddr)] (.one (.lit (.int .i64 x2))), (decide (a0.fBits > x2)) = false] (by kernel_rfl) ⟨(g_doormanref06_Right_ok a0.fAddr x1 q1), h2, h3, (g_doormanref06_Bits_ok a0.fAddr x2 q4), h5, trivial⟩ (g_doormanref07_Right_c0_ok S0 w0    1000000 a0.fBits a0 r hf)

def g_doormanref11_Without_c0 (a0 : (List T_doormanref11_Hit))  : Nat → Int → (List T_doormanref11_Hit) → T_api_Net → Option (List T_doormanref11_Hit)
  | 0, _, _, _ => none
  | fu + 1, v6, w5, b3 =>
    bif (decide (v6 < ((a0.length : Nat) : Int))) then
      need (0 ≤ v6 ∧ v6 < ((a0.length : Nat) : Int)) <|
      bif (!(decide ((a0.getD v6.toNat T_doormanref11_Hit.d).fNet = b3))) then
        need ((w5 ++ ([(a0.getD v6.toNat T_doormanref11_Hit.d)] : List T_doormanref11_Hit)).length * 40 ≤ 140737488355328 ∧ (w5 ++ ([(a0.getD v6.toNat T_doormanref11_Hit.d)] : List T_doormanref11_Hit)).length ≤ maxLen) <|
        g_doormanref11_Without_c0 a0  fu (add64 v6 (1 : Int)) (w5 ++ ([(a0.getD v6.toNat T_doormanref11_Hit.d)] : List T_doormanref11_Hit)) b3
      else
        g_doormanref11_Without_c0 a0  fu (add64 v6 (1 : Int)) w5 b3
    else
      some w5

theorem g_doormanref11_Without_c0_ok (S0 : Nat → Prop) (w0 : Start) (a0 : (List T_doormanref11_Hit))  : ∀ (fu : Nat) (v6 : Int) (w5 : (List T_doormanref11_Hit)) (b3 : T_api_Net) (r : (List T_doormanref11_Hit)), g_doormanref11_Without_c0 a0  fu v6 w5 b3 = some r → Good Try.prog 29 S0 w0 (bodyPost Try.prog Try.f42 (HPost S0 w0 [(99999, .rows 169 5 r.length (rowsOf T_doormanref11_Hit.c T_doormanref11_Hit.d r))] (.one (.osl 99999 r.length)))) (at_ [1, 1, 0, 1, 0] (bodyOf Try.f42)) ⟨[(0, .one (cL 5 T_doormanref11_Hit.c T_doormanref11_Hit.d a0)), (3, .one (.ptr 3 0)), (5, .one (.osl 5 w5.length)), (6, .one (.lit (.int .i64 v6)))], [(5, .rows 169 5 w5.length (rowsOf T_doormanref11_Hit.c T_doormanref11_Hit.d w5)), (3, .box [.lit (.bool b3.fAddr.fV6), .lit (.int .u64 b3.fAddr.fHi), .lit (.int .u64 b3.fAddr.fLo), .lit (.int .i64 b3.fBits)])]⟩ := by
  intro fu
  induction fu with
  | zero =>
    intro v6 w5 b3 r hf
    simp [g_doormanref11_Without_c0] at hf
  | succ fu ih =>
    intro v6 w5 b3 r hf
    unfold g_doormanref11_Without_c0 at hf
    rcases br_some hf with ⟨h1, hf⟩ | ⟨h1, hf⟩
    · obtain ⟨o2, hf⟩ := need_some hf
      rcases br_some hf with ⟨h3, hf⟩ | ⟨h3, hf⟩
      · obtain ⟨o4, hf⟩ := need_some hf
        exact toK_good allOk HPost.ends 15 _ _ _ _ [⟨[], [], [], [], [], [], []⟩, ⟨[(6, .r (.one (.lit (.bool (!(decide ((a0.getD v6.toNat T_doormanref11_Hit.d).fNet = b3)))))) [])], [], [], [[], [], [0, 1], [2, 0, 1], [3, 2, 0, 1], [], [4, 3, 2, 0, 1, 5]], [], [], []⟩, ⟨[(6, .c ((w5 ++ ([(a0.getD v6.toNat T_doormanref11_Hit.d)] : List T_doormanref11_Hit)).length) (rowsOf T_doormanref11_Hit.c T_doormanref11_Hit.d (w5 ++ ([(a0.getD v6.toNat T_doormanref11_Hit.d)] : List T_doormanref11_Hit))))], [], [], [], [], [(5, (([(a0.getD v6.toNat T_doormanref11_Hit.d)] : List T_doormanref11_Hit).length, rowsOf T_doormanref11_Hit.c T_doormanref11_Hit.d ([(a0.getD v6.toNat T_doormanref11_Hit.d)] : List T_doormanref11_Hit)))], []⟩, ⟨[], [], [], [], [], [], []⟩] [true, true] ⟨[], [], [], [], [], [0, 3, 5, 6], [27, 3], [(27, 5)]⟩ [(decide (v6 < ((a0.length : Nat) : Int))) = true, 0 ≤ v6 ∧ v6 < ((a0.length : Nat) : Int), ∀ w, (do eqGuard .neq 81 (.tmp 18) (.tmp 19) (.agg #[.bool ((((a0.getD v6.toNat T_doormanref11_Hit.d).fNet).fAddr).fV6), .int .u64 ((((a0.getD v6.toNat T_doormanref11_Hit.d).fNet).fAddr).fHi), .int .u64 ((((a0.getD v6.toNat T_doormanref11_Hit.d).fNet).fAddr).fLo), .int .i64 (((a0.getD v6.toNat T_doormanref11_Hit.d).fNet).fBits)]) (.agg #[.bool b3.fAddr.fV6, .int .u64 b3.fAddr.fHi, .int .u64 b3.fAddr.fLo, .int .i64 b3.fBits]); binOp .neq 81 (.agg #[.bool ((((a0.getD v6.toNat T_doormanref11_Hit.d).fNet).fAddr).fV6), .int .u64 ((((a0.getD v6.toNat T_doormanref11_Hit.d).fNet).fAddr).fHi), .int .u64 ((((a0.getD v6.toNat T_doormanref11_Hit.d).fNet).fAddr).fLo), .int .i64 (((a0.getD v6.toNat T_doormanref11_Hit.d).fNet).fBits)]) (.agg #[.bool b3.fAddr.fV6, .int .u64 b3.fAddr.fHi, .int .u64 b3.fAddr.fLo, .int .i64 b3.fBits]) : Sem Value).run Try.prog w = .ok (.bool (!(decide ((a0.getD v6.toNat T_doormanref11_Hit.d).fNet = b3)))) w, (!(decide ((a0.getD v6.toNat T_doormanref11_Hit.d).fNet = b3))) = true, 0 ≤ v6 ∧ v6 < ((a0.length : Nat) : Int), ([(a0.getD v6.toNat T_doormanref11_Hit.d)] : List T_doormanref11_Hit).length = 1 ∧ ∀ i j, i < 1 → j < 5 → rowsOf T_doormanref11_Hit.c T_doormanref11_Hit.d ([(a0.getD v6.toNat T_doormanref11_Hit.d)] : List T_doormanref11_Hit) i j = (([(a0.getD v6.toNat T_doormanref11_Hit.d)] : List T_doormanref11_Hit).flatMap T_doormanref11_Hit.c).getD (i * 5 + j) .junk, Ext 5 w5.length (([(a0.getD v6.toNat T_doormanref11_Hit.d)] : List T_doormanref11_Hit).length) (rowsOf T_doormanref11_Hit.c T_doormanref11_Hit.d w5) (rowsOf T_doormanref11_Hit.c T_doormanref11_Hit.d ([(a0.getD v6.toNat T_doormanref11_Hit.d)] : List T_doormanref11_Hit)) ((w5 ++ ([(a0.getD v6.toNat T_doormanref11_Hit.d)] : List T_doormanref11_Hit)).length) (rowsOf T_doormanref11_Hit.c T_doormanref11_Hit.d (w5 ++ ([(a0.getD v6.toNat T_doormanref11_Hit.d)] : List T_doormanref11_Hit))), (w5 ++ ([(a0.getD v6.toNat T_doormanref11_Hit.d)] : List T_doormanref11_Hit)).length * 40 ≤ 140737488355328, (w5 ++ ([(a0.getD v6.toNat T_doormanref11_Hit.d)] : List T_doormanref11_Hit)).length ≤ maxLen] (by kernel_rfl) ⟨h1, o2, (neq_T_api_Net ((a0.getD v6.toNat T_doormanref11_Hit.d).fNet) b3 _ _), h3, o2, ⟨rfl, fun i j hi hj => rows_flat (sz := 5) (e := T_doormanref11_Hit.c) (d := T_doormanref11_Hit.d) (fun _ => rfl) ([(a0.getD v6.toNat T_doormanref11_Hit.d)] : List T_doormanref11_Hit) i j hi hj⟩, (ext_app _ _), o4.1, o4.2, trivial⟩ (ih (add64 v6 (1 : Int)) (w5 ++ ([(a0.getD v6.toNat T_doormanref11_Hit.d)] : List T_doormanref11_Hit)) b3 r hf)
      · exact toK_good allOk HPost.ends 15 _ _ _ _ [⟨[], [], [], [], [], [], []⟩, ⟨[(6, .r (.one (.lit (.bool (!(decide ((a0.getD v6.toNat T_doormanref11_Hit.d).fNet = b3)))))) [])], [], [], [[], [], [0, 1], [2, 0, 1], [3, 2, 0, 1], [], [4, 3, 2, 0, 1, 5]], [], [], []⟩, ⟨[], [], [], [], [], [], []⟩] [true, false] ⟨[], [], [], [], [], [0, 3, 5, 6], [5, 3], []⟩ [(decide (v6 < ((a0.length : Nat) : Int))) = true, 0 ≤ v6 ∧ v6 < ((a0.length : Nat) : Int), ∀ w, (do eqGuard .neq 81 (.tmp 18) (.tmp 19) (.agg #[.bool ((((a0.getD v6.toNat T_doormanref11_Hit.d).fNet).fAddr).fV6), .int .u64 ((((a0.getD v6.toNat T_doormanref11_Hit.d).fNet).fAddr).fHi), .int .u64 ((((a0.getD v6.toNat T_doormanref11_Hit.d).fNet).fAddr).fLo), .int .i64 (((a0.getD v6.toNat T_doormanref11_Hit.d).fNet).fBits)]) (.agg #[.bool b3.fAddr.fV6, .int .u64 b3.fAddr.fHi, .int .u64 b3.fAddr.fLo, .int .i64 b3.fBits]); binOp .neq 81 (.agg #[.bool ((((a0.getD v6.toNat T_doormanref11_Hit.d).fNet).fAddr).fV6), .int .u64 ((((a0.getD v6.toNat T_doormanref11_Hit.d).fNet).fAddr).fHi), .int .u64 ((((a0.getD v6.toNat T_doormanref11_Hit.d).fNet).fAddr).fLo), .int .i64 (((a0.getD v6.toNat T_doormanref11_Hit.d).fNet).fBits)]) (.agg #[.bool b3.fAddr.fV6, .int .u64 b3.fAddr.fHi, .int .u64 b3.fAddr.fLo, .int .i64 b3.fBits]) : Sem Value).run Try.prog w = .ok (.bool (!(decide ((a0.getD v6.toNat T_doormanref11_Hit.d).fNet = b3)))) w, (!(decide ((a0.getD v6.toNat T_doormanref11_Hit.d).fNet = b3))) = false] (by kernel_rfl) ⟨h1, o2, (neq_T_api_Net ((a0.getD v6.toNat T_doormanref11_Hit.d).fNet) b3 _ _), h3, trivial⟩ (ih (add64 v6 (1 : Int)) w5 b3 r hf)
    · replace hf := Option.some.inj hf
      subst hf
      exact toEndH_good allOk 8 _ _ [⟨[], [], [], [], [], [], []⟩, ⟨[], [], [], [], [], [], []⟩] [false] ⟨[], [], [], [], [], [4], [5], [(5, 99999)]⟩ [(decide (v6 < ((a0.length : Nat) : Int))) = false] (by kernel_rfl) ⟨h1, trivial⟩

/-- doorman/doormanref11.Without -/
def g_doormanref11_Without (a0 : (List T_doormanref11_Hit)) (a1 : T_api_Net) : Option (List T_doormanref11_Hit) :=
  g_doormanref11_Without_c0 a0  ((((a0.length : Nat) : Int) - (0 : Int)).toNat + 2) (0 : Int) ([] : List T_doormanref11_Hit) a1

theorem g_doormanref11_Without_own (a0 : (List T_doormanref11_Hit)) (a1 : T_api_Net) (r : (List T_doormanref11_Hit)) (hf : g_doormanref11_Without a0 a1 = some r) : HCall Try.prog 42 [] [.one (cL 5 T_doormanref11_Hit.c T_doormanref11_Hit.d a0), .agg (T_api_Net.c a1)] [(99999, .rows 169 5 r.length (rowsOf T_doormanref11_Hit.c T_doormanref11_Hit.d r))] (.one (.osl 99999 r.length)) := by
  refine HCall.of Try.func42 rfl rfl rfl rfl fun S0 w0 => ?_
  unfold g_doormanref11_Without at hf
  exact toK_good allOk HPost.ends 8 _ _ _ _ [⟨[], [], [], [], [], [], []⟩, ⟨[(0, .c ([] : List T_doormanref11_Hit).length (rowsOf T_doormanref11_Hit.c T_doormanref11_Hit.d ([] : List T_doormanref11_Hit)))], [], [], [], [], [], []⟩, ⟨[], [], [], [], [], [], []⟩] [] ⟨[], [], [], [], [], [0, 3, 5, 6], [7, 3], [(7, 5)]⟩ [([] : List T_doormanref11_Hit).length = 0, ∀ i j, i < 0 → j < 5 → rowsOf T_doormanref11_Hit.c T_doormanref11_Hit.d ([] : List T_doormanref11_Hit) i j = (([] : List T_doormanref11_Hit).flatMap T_doormanref11_Hit.c).getD (i * 5 + j) .junk] (by kernel_rfl) ⟨rfl, (fun i j hi hj => rows_flat (sz := 5) (e := T_doormanref11_Hit.c) (d := T_doormanref11_Hit.d) (fun _ => rfl) ([] : List T_doormanref11_Hit) i j hi hj), trivial⟩ (g_doormanref11_Without_c0_ok S0 w0 a0   ((((a0.length : Nat) : Int) - (0 : Int)).toNat + 2) (0 : Int) ([] : List T_doormanref11_Hit) a1 r hf)

theorem g_doormanref11_Without_ok (a0 : (List T_doormanref11_Hit)) (a1 : T_api_Net) (r : (List T_doormanref11_Hit)) (hf : g_doormanref11_Without a0 a1 = some r) : SCall Try.prog 42 [.one (cL 5 T_doormanref11_Hit.c T_doormanref11_Hit.d a0), .agg (T_api_Net.c a1)] (.one (cL 5 T_doormanref11_Hit.c T_doormanref11_Hit.d r)) := (g_doormanref11_Without_own a0 a1 r hf).pure

def g_doormanref06_Compare_c1   (v5 : Bool) : Option Int :=
  bif v5 then
    some (-1 : Int)
  else
    some (1 : Int)

theorem g_doormanref06_Compare_c1_ok (S0 : Nat → Prop) (w0 : Start)   (v5 : Bool) (r : Int) (hf : g_doormanref06_Compare_c1   v5 = some r) : Good Try.prog 33 S0 w0 (bodyPost Try.prog Try.f130 (Post S0 w0 (.one (.lit (.int .i64 r))))) (at_ [1, 1, 1, 1, 1] (bodyOf Try.f130)) ⟨[(5, .one (.lit (.bool v5)))], []⟩ := by
  unfold g_doormanref06_Compare_c1 at hf
  rcases br_some hf with ⟨h4, hf⟩ | ⟨h4, hf⟩
  · replace hf := Option.some.inj hf
    subst hf
    exact toEnd_good allOk 6 _ _ [⟨[], [], [], [], [], [], []⟩, ⟨[], [], [], [], [], [], []⟩] [true] [] [] [] [v5 = true] (by kernel_rfl) rfl ⟨h4, trivial⟩
  · replace hf := Option.some.inj hf
    subst hf
    exact toEnd_good allOk 7 _ _ [⟨[], [], [], [], [], [], []⟩, ⟨[], [], [], [], [], [], []⟩] [false] [] [] [] [v5 = false] (by kernel_rfl) rfl ⟨h4, trivial⟩

def g_doormanref06_Compare_c0   (v5 : Bool) (b2 : T_api_Addr) (b3 : T_api_Addr) : Option Int :=
  bif (!(b2.fV6 == b3.fV6)) then
    g_doormanref06_Compare_c1   (!b2.fV6)
  else
    g_doormanref06_Compare_c1   v5

theorem g_doormanref06_Compare_c0_ok (S0 : Nat → Prop) (w0 : Start)   (v5 : Bool) (b2 : T_api_Addr) (b3 : T_api_Addr) (r : Int) (hf : g_doormanref06_Compare_c0   v5 b2 b3 = some r) : Good Try.prog 33 S0 w0 (bodyPost Try.prog Try.f130 (Post S0 w0 (.one (.lit (.int .i64 r))))) (at_ [1, 1, 1, 1] (bodyOf Try.f130)) ⟨[(2, .one (.ptr 2 0)), (3, .one (.ptr 3 0)), (5, .one (.lit (.bool v5)))], [(2, .box [.lit (.bool b2.fV6), .lit (.int .u64 b2.fHi), .lit (.int .u64 b2.fLo)]), (3, .box [.lit (.bool b3.fV6), .lit (.int .u64 b3.fHi), .lit (.int .u64 b3.fLo)])]⟩ := by
  unfold g_doormanref06_Compare_c0 at hf
  rcases br_some hf with ⟨h3, hf⟩ | ⟨h3, hf⟩
  · exact toK_good allOk Post.ends 5 _ _ _ _ [⟨[], [], [], [], [], [], []⟩, ⟨[], [], [], [], [], [], []⟩] [true] ⟨[], [], [], [], [], [5], [], []⟩ [(!(b2.fV6 == b3.fV6)) = true] (by kernel_rfl) ⟨h3, trivial⟩ (g_doormanref06_Compare_c1_ok S0 w0    (!b2.fV6) r hf)
  · exact toK_good allOk Post.ends 5 _ _ _ _ [⟨[], [], [], [], [], [], []⟩] [false] ⟨[], [], [], [], [], [5], [], []⟩ [(!(b2.fV6 == b3.fV6)) = false] (by kernel_rfl) ⟨h3, trivial⟩ (g_doormanref06_Compare_c1_ok S0 w0    v5 r hf)

/-- doorman/doormanref06.Compare -/
def g_doormanref06_Compare (a0 : T_api_Addr) (a1 : T_api_Addr) : Option Int :=
  bif (decide (a0 = a1)) then
    some (0 : Int)
  else
    bif (a0.fHi != a1.fHi) then
      g_doormanref06_Compare_c0   (decide (a0.fHi < a1.fHi)) a0 a1
    else
      g_doormanref06_Compare_c0   (decide (a0.fLo < a1.fLo)) a0 a1

theorem g_doormanref06_Compare_ok (a0 : T_api_Addr) (a1 : T_api_Addr) (r : Int) (hf : g_doormanref06_Compare a0 a1 = some r) : SCall Try.prog 130 [.agg (T_api_Addr.c a0), .agg (T_api_Addr.c a1)] (.one (.lit (.int .i64 r))) := by
  refine SCall.of Try.func130 rfl rfl rfl rfl fun S0 w0 => ?_
  unfold g_doormanref06_Compare at hf
  rcases br_some hf with ⟨h1, hf⟩ | ⟨h1, hf⟩
  · replace hf := Option.some.inj hf
    subst hf
    exact toEnd_good allOk 8 _ _ [⟨[], [], [], [], [], [], []⟩, ⟨[(2, .r (.one (.lit (.bool (decide (a0 = a1))))) [])], [], [], [], [], [], []⟩, ⟨[], [], [], [], [], [], []⟩] [true] [] [] [] [∀ w, (do eqGuard .eql 33 (.tmp 6) (.tmp 7) (.agg #[.bool a0.fV6, .int .u64 a0.fHi, .int .u64 a0.fLo]) (.agg #[.bool a1.fV6, .int .u64 a1.fHi, .int .u64 a1.fLo]); binOp .eql 33 (.agg #[.bool a0.fV6, .int .u64 a0.fHi, .int .u64 a0.fLo]) (.agg #[.bool a1.fV6, .int .u64 a1.fHi, .int .u64 a1.fLo]) : Sem Value).run Try.prog w = .ok (.bool (decide (a0 = a1))) w, (decide (a0 = a1)) = true] (by kernel_rfl) rfl ⟨(eql_T_api_Addr a0 a1 _ _), h1, trivial⟩
  · rcases br_some hf with ⟨h2, hf⟩ | ⟨h2, hf⟩
    · exact toK_good allOk Post.ends 14 _ _ _ _ [⟨[], [], [], [], [], [], []⟩, ⟨[(2, .r (.one (.lit (.bool (decide (a0 = a1))))) [])], [], [], [], [], [], []⟩, ⟨[], [], [], [], [], [], []⟩, ⟨[], [], [], [], [], [], []⟩, ⟨[], [], [], [], [], [], []⟩] [false, true] ⟨[], [], [], [], [], [2, 3, 5], [2, 3], []⟩ [∀ w, (do eqGuard .eql 33 (.tmp 6) (.tmp 7) (.agg #[.bool a0.fV6, .int .u64 a0.fHi, .int .u64 a0.fLo]) (.agg #[.bool a1.fV6, .int .u64 a1.fHi, .int .u64 a1.fLo]); binOp .eql 33 (.agg #[.bool a0.fV6, .int .u64 a0.fHi, .int .u64 a0.fLo]) (.agg #[.bool a1.fV6, .int .u64 a1.fHi, .int .u64 a1.fLo]) : Sem Value).run Try.prog w = .ok (.bool (decide (a0 = a1))) w, (decide (a0 = a1)) = false, (a0.fHi != a1.fHi) = true] (by kernel_rfl) ⟨(eql_T_api_Addr a0 a1 _ _), h1, h2, trivial⟩ (g_doormanref06_Compare_c0_ok S0 w0    (decide (a0.fHi < a1.fHi)) a0 a1 r hf)
    · exact toK_good allOk Post.ends 14 _ _ _ _ [⟨[], [], [], [], [], [], []⟩, ⟨[(2, .r (.one (.lit (.bool (decide (a0 = a1))))) [])], [], [], [], [], [], []⟩, ⟨[], [], [], [], [], [], []⟩, ⟨[], [], [], [], [], [], []⟩] [false, false] ⟨[], [], [], [], [], [2, 3, 5], [2, 3], []⟩ [∀ w, (do eqGuard .eql 33 (.tmp 6) (.tmp 7) (.agg #[.bool a0.fV6, .int .u64 a0.fHi, .int .u64 a0.fLo]) (.agg #[.bool a1.fV6, .int .u64 a1.fHi, .int .u64 a1.fLo]); binOp .eql 33 (.agg #[.bool a0.fV6, .int .u64 a0.fHi, .int .u64 a0.fLo]) (.agg #[.bool a1.fV6, .int .u64 a1.fHi, .int .u64 a1.fLo]) : Sem Value).run Try.prog w = .ok (.bool (decide (a0 = a1))) w, (decide (a0 = a1)) = false, (a0.fHi != a1.fHi) = false] (by kernel_rfl) ⟨(eql_T_api_Addr a0 a1 _ _), h1, h2, trivial⟩ (g_doormanref06_Compare_c0_ok S0 w0    (decide (a0.fLo < a1.fLo)) a0 a1 r hf)

/-- doorman/doormanref07.Compare -/
def g_doormanref07_Compare (a0 : T_api_Net) (a1 : T_api_Net) : Option Int :=
  (g_doormanref06_Compare a0.fAddr a1.fAddr).bind fun x1 =>
  bif (x1 != (0 : Int)) then
    some x1
  else
    bif (a0.fBits == a1.fBits) then
      some x1
    else
      bif (decide (a0.fBits < a1.fBits)) then
        some (-1 : Int)
      else
        some (1 : Int)

theorem g_doormanref07_Compare_ok (a0 : T_api_Net) (a1 : T_api_Net) (r : Int) (hf : g_doormanref07_Compare a0 a1 = some r) : SCall Try.prog 92 [.agg (T_api_Net.c a0), .agg (T_api_Net.c a1)] (.one (.lit (.int .i64 r))) := by
  refine SCall.of Try.func92 rfl rfl rfl rfl fun S0 w0 => ?_
  unfold g_doormanref07_Compare at hf
  obtain ⟨x1, q1, hf⟩ := bind_some' hf
  rcases br_some hf with ⟨h2, hf⟩ | ⟨h2, hf⟩
  · replace hf := Option.some.inj hf
    subst hf
    exact toEnd_good allOk 10 _ _ [⟨[], [], [], [], [], [], []⟩, ⟨[(4, .r (.one (.lit (.int .i64 x1))) [])], [], [], [], [], [], []⟩, ⟨[], [(2, true)], [], [], [], [], []⟩, ⟨[], [], [], [], [], [], []⟩] [true] [] [] [] [SCall Try.prog 130 [.agg (T_api_Addr.c a0.fAddr), .agg (T_api_Addr.c a1.fAddr)] (.one (.lit (.int .i64 x1))), (x1 != (0 : Int)) = true, true = true] (by kernel_rfl) rfl ⟨(g_doormanref06_Compare_ok a0.fAddr a1.fAddr x1 q1), h2, rfl, trivial⟩
  · rcases br_some hf with ⟨h3, hf⟩ | ⟨h3, hf⟩
    · replace hf := Option.some.inj hf
      subst hf
      exact toEnd_good allOk 10 _ _ [⟨[], [], [], [], [], [], []⟩, ⟨[(4, .r (.one (.lit (.int .i64 x1))) [])], [], [], [], [], [], []⟩, ⟨[], [(2, false)], [], [], [], [], []⟩, ⟨[], [], [], [], [], [], []⟩] [true] [] [] [] [SCall Try.prog 130 [.agg (T_api_Addr.c a0.fAddr), .agg (T_api_Addr.c a1.fAddr)] (.one (.lit (.int .i64 x1))), (x1 != (0 : Int)) = false, (a0.fBits == a1.fBits) = true] (by kernel_rfl) rfl ⟨(g_doormanref06_Compare_ok a0.fAddr a1.fAddr x1 q1), h2, h3, trivial⟩
    · rcases br_some hf with ⟨h4, hf⟩ | ⟨h4, hf⟩
      · replace hf := Option.some.inj hf
        subst hf
        exact toEnd_good allOk 15 _ _ [⟨[], [], [], [], [], [], []⟩, ⟨[(4, .r (.one (.lit (.int .i64 x1))) [])], [], [], [], [], [], []⟩, ⟨[], [(2, false)], [], [], [], [], []⟩, ⟨[], [], [], [], [], [], []⟩, ⟨[], [], [], [], [], [], []⟩] [false, true] [] [] [] [SCall Try.prog 130 [.agg (T_api_Addr.c a0.fAddr), .agg (T_api_Addr.c a1.fAddr)] (.one (.lit (.int .i64 x1))), (x1 != (0 : Int)) = false, (a0.fBits == a1.fBits) = false, (decide (a0.fBits < a1.fBits)) = true] (by kernel_rfl) rfl ⟨(g_doormanref06_Compare_ok a0.fAddr a1.fAddr x1 q1), h2, h3, h4, trivial⟩
      · replace hf := Option.some.inj hf
        subst hf
        exact toEnd_good allOk 16 _ _ [⟨[], [], [], [], [], [], []⟩, ⟨[(4, .r (.one (.lit (.int .i64 x1))) [])], [], [], [], [], [], []⟩, ⟨[], [(2, false)], [], [], [], [], []⟩, ⟨[], [], [], [], [], [], []⟩, ⟨[], [], [], [], [], [], []⟩] [false, false] [] [] [] [SCall Try.prog 130 [.agg (T_api_Addr.c a0.fAddr), .agg (T_api_Addr.c a1.fAddr)] (.one (.lit (.int .i64 x1))), (x1 != (0 : Int)) = false, (a0.fBits == a1.fBits) = false, (decide (a0.fBits < a1.fBits)) = false] (by kernel_rfl) rfl ⟨(g_doormanref06_Compare_ok a0.fAddr a1.fAddr x1 q1), h2, h3, h4, trivial⟩

def g_doormanref11_With_c0 (a2 : Int)  : Nat → (List T_doormanref11_Hit) → Bool → Int → (List T_doormanref11_Hit) → T_api_Net → Option (List T_doormanref11_Hit)
  | 0, _, _, _, _, _ => none
  | fu + 1, v0, v8, v9, w7, b4 =>
    bif (decide (v9 < ((v0.length : Nat) : Int))) then
      bif (!v8) then
        need (0 ≤ v9 ∧ v9 < ((v0.length : Nat) : Int)) <|
        (g_doormanref07_Compare b4 ((v0.getD v9.toNat T_doormanref11_Hit.d).fNet)).bind fun x3 =>
        bif (decide (x3 < (0 : Int))) then
          need ((w7 ++ ([(T_doormanref11_Hit.mk b4 a2)] : List T_doormanref11_Hit)).length * 40 ≤ 140737488355328 ∧ (w7 ++ ([(T_doormanref11_Hit.mk b4 a2)] : List T_doormanref11_Hit)).length ≤ maxLen) <|
          need (((w7 ++ ([(T_doormanref11_Hit.mk b4 a2)] : List T_doormanref11_Hit)) ++ ([(v0.getD v9.toNat T_doormanref11_Hit.d)] : List T_doormanref11_Hit)).length * 40 ≤ 140737488355328 ∧ ((w7 ++ ([(T_doormanref11_Hit.mk b4 a2)] : List T_doormanref11_Hit)) ++ ([(v0.getD v9.toNat T_doormanref11_Hit.d)] : List T_doormanref11_Hit)).length ≤ maxLen) <|
          g_doormanref11_With_c0 a2  fu v0 true (add64 v9 (1 : Int)) ((w7 ++ ([(T_doormanref11_Hit.mk b4 a2)] : List T_doormanref11_Hit)) ++ ([(v0.getD v9.toNat T_doormanref11_Hit.d)] : List T_doormanref11_Hit)) b4
        else
          need ((w7 ++ ([(v0.getD v9.toNat T_doormanref11_Hit.d)] : List T_doormanref11_Hit)).length * 40 ≤ 140737488355328 ∧ (w7 ++ ([(v0.getD v9.toNat T_doormanref11_Hit.d)] : List T_doormanref11_Hit)).length ≤ maxLen) <|
          g_doormanref11_With_c0 a2  fu v0 v8 (add64 v9 (1 : Int)) (w7 ++ ([(v0.getD v9.toNat T_doormanref11_Hit.d)] : List T_doormanref11_Hit)) b4
      else
        need (0 ≤ v9 ∧ v9 < ((v0.length : Nat) : Int)) <|
        need ((w7 ++ ([(v0.getD v9.toNat T_doormanref11_Hit.d)] : List T_doormanref11_Hit)).length * 40 ≤ 140737488355328 ∧ (w7 ++ ([(v0.getD v9.toNat T_doormanref11_Hit.d)] : List T_doormanref11_Hit)).length ≤ maxLen) <|
        g_doormanref11_With_c0 a2  fu v0 v8 (add64 v9 (1 : Int)) (w7 ++ ([(v0.getD v9.toNat T_doormanref11_Hit.d)] : List T_doormanref11_Hit)) b4
    else
      bif (!v8) then
        need ((w7 ++ ([(T_doormanref11_Hit.mk b4 a2)] : List T_doormanref11_Hit)).length * 40 ≤ 140737488355328 ∧ (w7 ++ ([(T_doormanref11_Hit.mk b4 a2)] : List T_doormanref11_Hit)).length ≤ maxLen) <|
        some (w7 ++ ([(T_doormanref11_Hit.mk b4 a2)] : List T_doormanref11_Hit))
      else
        some w7

theorem g_doormanref11_With_c0_ok (S0 : Nat → Prop) (w0 : Start) (a2 : Int)  : ∀ (fu : Nat) (v0 : (List T_doormanref11_Hit)) (v8 : Bool) (v9 : Int) (w7 : (List T_doormanref11_Hit)) (b4 : T_api_Net) (r : (List T_doormanref11_Hit)), g_doormanref11_With_c0 a2  fu v0 v8 v9 w7 b4 = some r → Good Try.prog 58 S0 w0 (bodyPost Try.prog Try.f41 (Post S0 w0 (.one (cL 5 T_doormanref11_Hit.c T_doormanref11_Hit.d r)))) (at_ [1, 1, 1, 1, 1, 0, 1, 0] (bodyOf Try.f41)) ⟨[(0, .one (cL 5 T_doormanref11_Hit.c T_doormanref11_Hit.d v0)), (2, .one (.lit (.int .i64 a2))), (4, .one (.ptr 4 0)), (7, .one (.osl 7 w7.length)), (8, .one (.lit (.bool v8))), (9, .one (.lit (.int .i64 v9)))], [(7, .rows 169 5 w7.length (rowsOf T_doormanref11_Hit.c T_doormanref11_Hit.d w7)), (4, .box [.lit (.bool b4.fAddr.fV6), .lit (.int .u64 b4.fAddr.fHi), .lit (.int .u64 b4.fAddr.fLo), .lit (.int .i64 b4.fBits)])]⟩ := by
  intro fu
  induction fu with
  | zero =>
    intro v0 v8 v9 w7 b4 r hf
    simp [g_doormanref11_With_c0] at hf
  | succ fu ih =>
    intro v0 v8 v9 w7 b4 r hf
    unfold g_doormanref11_With_c0 at hf
    rcases br_some hf with ⟨h4, hf⟩ | ⟨h4, hf⟩
    · rcases br_some hf with ⟨h5, hf⟩ | ⟨h5, hf⟩
      · obtain ⟨o6, hf⟩ := need_some hf
        obtain ⟨x3, q7, hf⟩ := bind_some' hf
        rcases br_some hf with ⟨h8, hf⟩ | ⟨h8, hf⟩
        · obtain ⟨o9, hf⟩ := need_some hf
          obtain ⟨o10, hf⟩ := need_some hf
          exact toK_good allOk Post.ends 19 _ _ _ _ [⟨[], [], [], [], [], [], []⟩, ⟨[(9, .r (.one (.lit (.int .i64 x3))) [])], [(2, true)], [], [[], [0], [1, 0], [2, 1, 0], [2, 1, 0], [2, 1, 0], [4, 2, 1, 0, 5], [6, 4, 2, 1, 0, 5], [7, 6, 4, 2, 1, 0, 5], [3, 2, 1, 0, 8, 7, 6, 4, 5], [9, 3, 2, 1, 0, 8, 7, 6, 4, 5], [2, 1, 0, 10, 9, 3, 8, 7, 6, 4, 5]], [], [], []⟩, ⟨[(5, .c ((w7 ++ ([(T_doormanref11_Hit.mk b4 a2)] : List T_doormanref11_Hit)).length) (rowsOf T_doormanref11_Hit.c T_doormanref11_Hit.d (w7 ++ ([(T_doormanref11_Hit.mk b4 a2)] : List T_doormanref11_Hit))))], [], [], [], [], [(4, (([(T_doormanref11_Hit.mk b4 a2)] : List T_doormanref11_Hit).length, rowsOf T_doormanref11_Hit.c T_doormanref11_Hit.d ([(T_doormanref11_Hit.mk b4 a2)] : List T_doormanref11_Hit)))], []⟩, ⟨[], [], [], [], [], [], []⟩, ⟨[(6, .c (((w7 ++ ([(T_doormanref11_Hit.mk b4 a2)] : List T_doormanref11_Hit)) ++ ([(v0.getD v9.toNat T_doormanref11_Hit.d)] : List T_doormanref11_Hit)).length) (rowsOf T_doormanref11_Hit.c T_doormanref11_Hit.d ((w7 ++ ([(T_doormanref11_Hit.mk b4 a2)] : List T_doormanref11_Hit)) ++ ([(v0.getD v9.toNat T_doormanref11_Hit.d)] : List T_doormanref11_Hit))))], [], [], [], [], [(5, (([(v0.getD v9.toNat T_doormanref11_Hit.d)] : List T_doormanref11_Hit).length, rowsOf T_doormanref11_Hit.c T_doormanref11_Hit.d ([(v0.getD v9.toNat T_doormanref11_Hit.d)] : List T_doormanref11_Hit)))], []⟩, ⟨[], [], [], [], [], [], []⟩] [true, true] ⟨[], [], [], [], [], [0, 2, 4, 7, 8, 9], [48, 4], [(48, 7)]⟩ [(decide (v9 < ((v0.length : Nat) : Int))) = true, (!v8) = true, 0 ≤ v9 ∧ v9 < ((v0.length : Nat) : Int), SCall Try.prog 92 [.agg (T_api_Net.c b4), .agg (T_api_Net.c ((v0.getD v9.toNat T_doormanref11_Hit.d).fNet))] (.one (.lit (.int .i64 x3))), (decide (x3 < (0 : Int))) = true, ([(T_doormanref11_Hit.mk b4 a2)] : List T_doormanref11_Hit).length = 1 ∧ ∀ i j, i < 1 → j < 5 → rowsOf T_doormanref11_Hit.c T_doormanref11_Hit.d ([(T_doormanref11_Hit.mk b4 a2)] : List T_doormanref11_Hit) i j = (([(T_doormanref11_Hit.mk b4 a2)] : List T_doormanref11_Hit).flatMap T_doormanref11_Hit.c).getD (i * 5 + j) .junk, Ext 5 w7.length (([(T_doormanref11_Hit.mk b4 a2)] : List T_doormanref11_Hit).length) (rowsOf T_doormanref11_Hit.c T_doormanref11_Hit.d w7) (rowsOf T_doormanref11_Hit.c T_doormanref11_Hit.d ([(T_doormanref11_Hit.mk b4 a2)] : List T_doormanref11_Hit)) ((w7 ++ ([(T_doormanref11_Hit.mk b4 a2)] : List T_doormanref11_Hit)).length) (rowsOf T_doormanref11_Hit.c T_doormanref11_Hit.d (w7 ++ ([(T_doormanref11_Hit.mk b4 a2)] : List T_doormanref11_Hit))), (w7 ++ ([(T_doormanref11_Hit.mk b4 a2)] : List T_doormanref11_Hit)).length * 40 ≤ 140737488355328, (w7 ++ ([(T_doormanref11_Hit.mk b4 a2)] : List T_doormanref11_Hit)).length ≤ maxLen, 0 ≤ v9 ∧ v9 < ((v0.length : Nat) : Int), ([(v0.getD v9.toNat T_doormanref11_Hit.d)] : List T_doormanref11_Hit).length = 1 ∧ ∀ i j, i < 1 → j < 5 → rowsOf T_doormanref11_Hit.c T_doormanref11_Hit.d ([(v0.getD v9.toNat T_doormanref11_Hit.d)] : List T_doormanref11_Hit) i j = (([(v0.getD v9.toNat T_doormanref11_Hit.d)] : List T_doormanref11_Hit).flatMap T_doormanref11_Hit.c).getD (i * 5 + j) .junk, Ext 5 ((w7 ++ ([(T_doormanref11_Hit.mk b4 a2)] : List T_doormanref11_Hit)).length) (([(v0.getD v9.toNat T_doormanref11_Hit.d)] : List T_doormanref11_Hit).length) (rowsOf T_doormanref11_Hit.c T_doormanref11_Hit.d (w7 ++ ([(T_doormanref11_Hit.mk b4 a2)] : List T_doormanref11_Hit))) (rowsOf T_doormanref11_Hit.c T_doormanref11_Hit.d ([(v0.getD v9.toNat T_doormanref11_Hit.d)] : List T_doormanref11_Hit)) (((w7 ++ ([(T_doormanref11_Hit.mk b4 a2)] : List T_doormanref11_Hit)) ++ ([(v0.getD v9.toNat T_doormanref11_Hit.d)] : List T_doormanref11_Hit)).length) (rowsOf T_doormanref11_Hit.c T_doormanref11_Hit.d ((w7 ++ ([(T_doormanref11_Hit.mk b4 a2)] : List T_doormanref11_Hit)) ++ ([(v0.getD v9.toNat T_doormanref11_Hit.d)] : List T_doormanref11_Hit))), ((w7 ++ ([(T_doormanref11_Hit.mk b4 a2)] : List T_doormanref11_Hit)) ++ ([(v0.getD v9.toNat T_doormanref11_Hit.d)] : List T_doormanref11_Hit)).length * 40 ≤ 140737488355328, ((w7 ++ ([(T_doormanref11_Hit.mk b4 a2)] : List T_doormanref11_Hit)) ++ ([(v0.getD v9.toNat T_doormanref11_Hit.d)] : List T_doormanref11_Hit)).length ≤ maxLen] (by kernel_rfl) ⟨h4, h5, o6, (g_doormanref07_Compare_ok b4 ((v0.getD v9.toNat T_doormanref11_Hit.d).fNet) x3 q7), h8, ⟨rfl, fun i j hi hj => rows_flat (sz := 5) (e := T_doormanref11_Hit.c) (d := T_doormanref11_Hit.d) (fun _ => rfl) ([(T_doormanref11_Hit.mk b4 a2)] : List T_doormanref11_Hit) i j hi hj⟩, (ext_app _ _), o9.1, o9.2, o6, ⟨rfl, fun i j hi hj => rows_flat (sz := 5) (e := T_doormanref11_Hit.c) (d := T_doormanref11_Hit.d) (fun _ => rfl) ([(v0.getD v9.toNat T_doormanref11_Hit.d)] : List T_doormanref11_Hit) i j hi hj⟩, (ext_app _ _), o10.1, o10.2, trivial⟩ (ih v0 true (add64 v9 (1 : Int)) ((w7 ++ ([(T_doormanref11_Hit.mk b4 a2)] : List T_doormanref11_Hit)) ++ ([(v0.getD v9.toNat T_doormanref11_Hit.d)] : List T_doormanref11_Hit)) b4 r hf)
        · obtain ⟨o11, hf⟩ := need_some hf
          exact toK_good allOk Post.ends 17 _ _ _ _ [⟨[], [], [], [], [], [], []⟩, ⟨[(9, .r (.one (.lit (.int .i64 x3))) [])], [(2, true)], [], [[], [0], [1, 0], [2, 1, 0], [2, 1, 0], [2, 1, 0], [4, 2, 1, 0, 5], [6, 4, 2, 1, 0, 5], [7, 6, 4, 2, 1, 0, 5], [3, 2, 1, 0, 8, 7, 6, 4, 5], [9, 3, 2, 1, 0, 8, 7, 6, 4, 5], [2, 1, 0, 10, 9, 3, 8, 7, 6, 4, 5]], [], [], []⟩, ⟨[(6, .c ((w7 ++ ([(v0.getD v9.toNat T_doormanref11_Hit.d)] : List T_doormanref11_Hit)).length) (rowsOf T_doormanref11_Hit.c T_doormanref11_Hit.d (w7 ++ ([(v0.getD v9.toNat T_doormanref11_Hit.d)] : List T_doormanref11_Hit))))], [], [], [], [], [(5, (([(v0.getD v9.toNat T_doormanref11_Hit.d)] : List T_doormanref11_Hit).length, rowsOf T_doormanref11_Hit.c T_doormanref11_Hit.d ([(v0.getD v9.toNat T_doormanref11_Hit.d)] : List T_doormanref11_Hit)))], []⟩, ⟨[], [], [], [], [], [], []⟩] [true, false] ⟨[], [], [], [], [], [0, 2, 4, 7, 8, 9], [48, 4], [(48, 7)]⟩ [(decide (v9 < ((v0.length : Nat) : Int))) = true, (!v8) = true, 0 ≤ v9 ∧ v9 < ((v0.length : Nat) : Int), SCall Try.prog 92 [.agg (T_api_Net.c b4), .agg (T_api_Net.c ((v0.getD v9.toNat T_doormanref11_Hit.d).fNet))] (.one (.lit (.int .i64 x3))), (decide (x3 < (0 : Int))) = false, 0 ≤ v9 ∧ v9 < ((v0.length : Nat) : Int), ([(v0.getD v9.toNat T_doormanref11_Hit.d)] : List T_doormanref11_Hit).length = 1 ∧ ∀ i j, i < 1 → j < 5 → rowsOf T_doormanref11_Hit.c T_doormanref11_Hit.d ([(v0.getD v9.toNat T_doormanref11_Hit.d)] : List T_doormanref11_Hit) i j = (([(v0.getD v9.toNat T_doormanref11_Hit.d)] : List T_doormanref11_Hit).flatMap T_doormanref11_Hit.c).getD (i * 5 + j) .junk, Ext 5 w7.length (([(v0.getD v9.toNat T_doormanref11_Hit.d)] : List T_doormanref11_Hit).length) (rowsOf T_doormanref11_Hit.c T_doormanref11_Hit.d w7) (rowsOf T_doormanref11_Hit.c T_doormanref11_Hit.d ([(v0.getD v9.toNat T_doormanref11_Hit.d)] : List T_doormanref11_Hit)) ((w7 ++ ([(v0.getD v9.toNat T_doormanref11_Hit.d)] : List T_doormanref11_Hit)).length) (rowsOf T_doormanref11_Hit.c T_doormanref11_Hit.d (w7 ++ ([(v0.getD v9.toNat T_doormanref11_Hit.d)] : List T_doormanref11_Hit))), (w7 ++ ([(v0.getD v9.toNat T_doormanref11_Hit.d)] : List T_doormanref11_Hit)).length * 40 ≤ 140737488355328, (w7 ++ ([(v0.getD v9.toNat T_doormanref11_Hit.d)] : List T_doormanref11_Hit)).length ≤ maxLen] (by kernel_rfl) ⟨h4, h5, o6, (g_doormanref07_Compare_ok b4 ((v0.getD v9.toNat T_doormanref11_Hit.d).fNet) x3 q7), h8, o6, ⟨rfl, fun i j hi hj => rows_flat (sz := 5) (e := T_doormanref11_Hit.c) (d := T_doormanref11_Hit.d) (fun _ => rfl) ([(v0.getD v9.toNat T_doormanref11_Hit.d)] : List T_doormanref11_Hit) i j hi hj⟩, (ext_app _ _), o11.1, o11.2, trivial⟩ (ih v0 v8 (add64 v9 (1 : Int)) (w7 ++ ([(v0.getD v9.toNat T_doormanref11_Hit.d)] : List T_doormanref11_Hit)) b4 r hf)
      · obtain ⟨o12, hf⟩ := need_some hf
        obtain ⟨o13, hf⟩ := need_some hf
        exact toK_good allOk Post.ends 17 _ _ _ _ [⟨[], [], [], [], [], [], []⟩, ⟨[], [(2, false)], [], [[], [0], [1, 0], [2, 1, 0], [2, 1, 0], [2, 1, 0], [4, 2, 1, 0, 5], [6, 4, 2, 1, 0, 5], [7, 6, 4, 2, 1, 0, 5], [3, 2, 1, 0, 8, 7, 6, 4, 5], [9, 3, 2, 1, 0, 8, 7, 6, 4, 5], [2, 1, 0, 10, 9, 3, 8, 7, 6, 4, 5]], [], [], []⟩, ⟨[(6, .c ((w7 ++ ([(v0.getD v9.toNat T_doormanref11_Hit.d)] : List T_doormanref11_Hit)).length) (rowsOf T_doormanref11_Hit.c T_doormanref11_Hit.d (w7 ++ ([(v0.getD v9.toNat T_doormanref11_Hit.d)] : List T_doormanref11_Hit))))], [], [], [], [], [(5, (([(v0.getD v9.toNat T_doormanref11_Hit.d)] : List T_doormanref11_Hit).length, rowsOf T_doormanref11_Hit.c T_doormanref11_Hit.d ([(v0.getD v9.toNat T_doormanref11_Hit.d)] : List T_doormanref11_Hit)))], []⟩, ⟨[], [], [], [], [], [], []⟩] [true, false] ⟨[], [], [], [], [], [0, 2, 4, 7, 8, 9], [48, 4], [(48, 7)]⟩ [(decide (v9 < ((v0.length : Nat) : Int))) = true, (!v8) = false, false = false, 0 ≤ v9 ∧ v9 < ((v0.length : Nat) : Int), ([(v0.getD v9.toNat T_doormanref11_Hit.d)] : List T_doormanref11_Hit).length = 1 ∧ ∀ i j, i < 1 → j < 5 → rowsOf T_doormanref11_Hit.c T_doormanref11_Hit.d ([(v0.getD v9.toNat T_doormanref11_Hit.d)] : List T_doormanref11_Hit) i j = (([(v0.getD v9.toNat T_doormanref11_Hit.d)] : List T_doormanref11_Hit).flatMap T_doormanref11_Hit.c).getD (i * 5 + j) .junk, Ext 5 w7.length (([(v0.getD v9.toNat T_doormanref11_Hit.d)] : List T_doormanref11_Hit).length) (rowsOf T_doormanref11_Hit.c T_doormanref11_Hit.d w7) (rowsOf T_doormanref11_Hit.c T_doormanref11_Hit.d ([(v0.getD v9.toNat T_doormanref11_Hit.d)] : List T_doormanref11_Hit)) ((w7 ++ ([(v0.getD v9.toNat T_doormanref11_Hit.d)] : List T_doormanref11_Hit)).length) (rowsOf T_doormanref11_Hit.c T_doormanref11_Hit.d (w7 ++ ([(v0.getD v9.toNat T_doormanref11_Hit.d)] : List T_doormanref11_Hit))), (w7 ++ ([(v0.getD v9.toNat T_doormanref11_Hit.d)] : List T_doormanref11_Hit)).length * 40 ≤ 140737488355328, (w7 ++ ([(v0.getD v9.toNat T_doormanref11_Hit.d)] : List T_doormanref11_Hit)).length ≤ maxLen] (by kernel_rfl) ⟨h4, h5, rfl, o12, ⟨rfl, fun i j hi hj => rows_flat (sz := 5) (e := T_doormanref11_Hit.c) (d := T_doormanref11_Hit.d) (fun _ => rfl) ([(v0.getD v9.toNat T_doormanref11_Hit.d)] : List T_doormanref11_Hit) i j hi hj⟩, (ext_app _ _), o13.1, o13.2, trivial⟩ (ih v0 v8 (add64 v9 (1 : Int)) (w7 ++ ([(v0.getD v9.toNat T_doormanref11_Hit.d)] : List T_doormanref11_Hit)) b4 r hf)
    · rcases br_some hf with ⟨h14, hf⟩ | ⟨h14, hf⟩
      · obtain ⟨o15, hf⟩ := need_some hf
        replace hf := Option.some.inj hf
        subst hf
        exact toEnd_good allOk 13 _ _ [⟨[], [], [], [], [], [], []⟩, ⟨[], [], [], [], [], [], []⟩, ⟨[(5, .c ((w7 ++ ([(T_doormanref11_Hit.mk b4 a2)] : List T_doormanref11_Hit)).length) (rowsOf T_doormanref11_Hit.c T_doormanref11_Hit.d (w7 ++ ([(T_doormanref11_Hit.mk b4 a2)] : List T_doormanref11_Hit))))], [], [], [], [], [(4, (([(T_doormanref11_Hit.mk b4 a2)] : List T_doormanref11_Hit).length, rowsOf T_doormanref11_Hit.c T_doormanref11_Hit.d ([(T_doormanref11_Hit.mk b4 a2)] : List T_doormanref11_Hit)))], []⟩, ⟨[], [], [], [], [], [], []⟩] [false, true] [56] [] [] [(decide (v9 < ((v0.length : Nat) : Int))) = false, (!v8) = true, ([(T_doormanref11_Hit.mk b4 a2)] : List T_doormanref11_Hit).length = 1 ∧ ∀ i j, i < 1 → j < 5 → rowsOf T_doormanref11_Hit.c T_doormanref11_Hit.d ([(T_doormanref11_Hit.mk b4 a2)] : List T_doormanref11_Hit) i j = (([(T_doormanref11_Hit.mk b4 a2)] : List T_doormanref11_Hit).flatMap T_doormanref11_Hit.c).getD (i * 5 + j) .junk, Ext 5 w7.length (([(T_doormanref11_Hit.mk b4 a2)] : List T_doormanref11_Hit).length) (rowsOf T_doormanref11_Hit.c T_doormanref11_Hit.d w7) (rowsOf T_doormanref11_Hit.c T_doormanref11_Hit.d ([(T_doormanref11_Hit.mk b4 a2)] : List T_doormanref11_Hit)) ((w7 ++ ([(T_doormanref11_Hit.mk b4 a2)] : List T_doormanref11_Hit)).length) (rowsOf T_doormanref11_Hit.c T_doormanref11_Hit.d (w7 ++ ([(T_doormanref11_Hit.mk b4 a2)] : List T_doormanref11_Hit))), (w7 ++ ([(T_doormanref11_Hit.mk b4 a2)] : List T_doormanref11_Hit)).length * 40 ≤ 140737488355328, (w7 ++ ([(T_doormanref11_Hit.mk b4 a2)] : List T_doormanref11_Hit)).length ≤ maxLen] (by kernel_rfl) rfl ⟨h4, h14, ⟨rfl, fun i j hi hj => rows_flat (sz := 5) (e := T_doormanref11_Hit.c) (d := T_doormanref11_Hit.d) (fun _ => rfl) ([(T_doormanref11_Hit.mk b4 a2)] : List T_doormanref11_Hit) i j hi hj⟩, (ext_app _ _), o15.1, o15.2, trivial⟩
      · replace hf := Option.some.inj hf
        subst hf
        exact toEnd_good allOk 13 _ _ [⟨[], [], [], [], [], [], []⟩, ⟨[], [], [], [], [], [], []⟩, ⟨[], [], [], [], [], [], []⟩] [false, false] [7] [] [] [(decide (v9 < ((v0.length : Nat) : Int))) = false, (!v8) = false] (by kernel_rfl) rfl ⟨h4, h14, trivial⟩

/-- doorman/doormanref11.With -/
def g_doormanref11_With (a0 : (List T_doormanref11_Hit)) (a1 : T_api_Net) (a2 : Int) : Option (List T_doormanref11_Hit) :=
  (g_doormanref07_Right a1).bind fun x1 =>
  bif (!x1) then
    some a0
  else
    (g_doormanref11_Without a0 a1).bind fun x2 =>
    g_doormanref11_With_c0 a2  ((((x2.length : Nat) : Int) - (0 : Int)).toNat + 2) x2 false (0 : Int) ([] : List T_doormanref11_Hit) a1

theorem g_doormanref11_With_ok (a0 : (List T_doormanref11_Hit)) (a1 : T_api_Net) (a2 : Int) (r : (List T_doormanref11_Hit)) (hf : g_doormanref11_With a0 a1 a2 = some r) : SCall Try.prog 41 [.one (cL 5 T_doormanref11_Hit.c T_doormanref11_Hit.d a0), .agg (T_api_Net.c a1), .one (.lit (.int .i64 a2))] (.one (cL 5 T_doormanref11_Hit.c T_doormanref11_Hit.d r)) := by
  refine SCall.of Try.func41 rfl rfl rfl rfl fun S0 w0 => ?_
  unfold g_doormanref11_With at hf
  obtain ⟨x1, q1, hf⟩ := bind_some' hf
  rcases br_some hf with ⟨h2, hf⟩ | ⟨h2, hf⟩
  · replace hf := Option.some.inj hf
    subst hf
    exact toEnd_good allOk 8 _ _ [⟨[], [], [], [], [], [], []⟩, ⟨[(1, .r (.one (.lit (.bool x1))) [])], [], [], [], [], [], []⟩, ⟨[], [], [], [], [], [], []⟩] [true] [] [] [] [SCall Try.prog 91 [.agg (T_api_Net.c a1)] (.one (.lit (.bool x1))), (!x1) = true] (by kernel_rfl) rfl ⟨(g_doormanref07_Right_ok a1 x1 q1), h2, trivial⟩
  · obtain ⟨x2, q3, hf⟩ := bind_some' hf
    exact toK_good allOk Post.ends 17 _ _ _ _ [⟨[], [], [], [], [], [], []⟩, ⟨[(1, .r (.one (.lit (.bool x1))) [])], [], [], [], [], [], []⟩, ⟨[(2, .r (.one (cL 5 T_doormanref11_Hit.c T_doormanref11_Hit.d x2)) [])], [], [], [], [], [], []⟩, ⟨[(0, .c ([] : List T_doormanref11_Hit).length (rowsOf T_doormanref11_Hit.c T_doormanref11_Hit.d ([] : List T_doormanref11_Hit)))], [], [], [], [], [], []⟩, ⟨[], [], [], [], [], [], []⟩, ⟨[], [], [], [], [], [], []⟩] [false] ⟨[], [], [], [], [], [0, 2, 4, 7, 8, 9], [17, 4], [(17, 7)]⟩ [SCall Try.prog 91 [.agg (T_api_Net.c a1)] (.one (.lit (.bool x1))), (!x1) = false, SCall Try.prog 42 [.one (cL 5 T_doormanref11_Hit.c T_doormanref11_Hit.d a0), .agg (T_api_Net.c a1)] (.one (cL 5 T_doormanref11_Hit.c T_doormanref11_Hit.d x2)), ([] : List T_doormanref11_Hit).length = 0, ∀ i j, i < 0 → j < 5 → rowsOf T_doormanref11_Hit.c T_doormanref11_Hit.d ([] : List T_doormanref11_Hit) i j = (([] : List T_doormanref11_Hit).flatMap T_doormanref11_Hit.c).getD (i * 5 + j) .junk] (by kernel_rfl) ⟨(g_doormanref07_Right_ok a1 x1 q1), h2, (g_doormanref11_Without_ok a0 a1 x2 q3), rfl, (fun i j hi hj => rows_flat (sz := 5) (e := T_doormanref11_Hit.c) (d := T_doormanref11_Hit.d) (fun _ => rfl) ([] : List T_doormanref11_Hit) i j hi hj), trivial⟩ (g_doormanref11_With_c0_ok S0 w0 a2   ((((x2.length : Nat) : Int) - (0 : Int)).toNat + 2) x2 false (0 : Int) ([] : List T_doormanref11_Hit) a1 r hf)
end Go.Proofs.Ytaakonlnlfbfkaa
