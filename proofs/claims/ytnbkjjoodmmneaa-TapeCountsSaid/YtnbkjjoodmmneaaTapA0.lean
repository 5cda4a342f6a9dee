/-
  Functions and their contracts.
  WRITTEN BY A PROGRAM OF MY OWN (wip/gen/am.py).
-/
import Derived.Test.YtnbkjjoodmmneaaTapT
namespace Go.Proofs.Ytnbkjjoodmmneaa
open Go.RowKit Go.Lib Go.Shelf
set_option linter.unusedVariables false
set_option maxRecDepth 100000
theorem eqFields_T_api_Loc : (Try.prog.fieldsOf 30).toList = [{ name := "Kind", type := 3, offset := 0, embedded := false, tag := "", pkgPath := "", byteOffset := 0 }, { name := "Shard", type := 3, offset := 1, embedded := false, tag := "", pkgPath := "", byteOffset := 8 }, { name := "Slot", type := 3, offset := 2, embedded := false, tag := "", pkgPath := "", byteOffset := 16 }] := by kernel_rfl

theorem eqIn_T_api_Loc (d : Nat) (x y : T_api_Loc) (w : World) : (Op.equalIn (d + 2) 30 (.agg #[.int .i64 x.fKind, .int .i64 x.fShard, .int .i64 x.fSlot]) (.agg #[.int .i64 y.fKind, .int .i64 y.fShard, .int .i64 y.fSlot])).run Try.prog w = .ok (decide (x = y)) w := by rw [run_equalIn_struct w (d + 1) _ _ _ (by kernel_rfl) (by kernel_rfl)]; simp only [eqFields_T_api_Loc, Op.eqFields]; simp [go_sem]; cases x; cases y; simp only [T_api_Loc.mk.injEq]; (repeat' split) <;> simp_all

theorem eql_T_api_Loc (x y : T_api_Loc) (xo yo : Operand) : ∀ w, (do eqGuard .eql 30 xo yo (.agg #[.int .i64 x.fKind, .int .i64 x.fShard, .int .i64 x.fSlot]) (.agg #[.int .i64 y.fKind, .int .i64 y.fShard, .int .i64 y.fSlot]); binOp .eql 30 (.agg #[.int .i64 x.fKind, .int .i64 x.fShard, .int .i64 x.fSlot]) (.agg #[.int .i64 y.fKind, .int .i64 y.fShard, .int .i64 y.fSlot]) : Sem Value).run Try.prog w = .ok (.bool (decide (x = y))) w := by
  intro w
  have hg : (eqGuard .eql 30 xo yo (.agg #[.int .i64 x.fKind, .int .i64 x.fShard, .int .i64 x.fSlot]) (.agg #[.int .i64 y.fKind, .int .i64 y.fShard, .int .i64 y.fSlot])).run Try.prog w = .ok () w := by simp [eqGuard, Sem.run_bind, Try.eqGuardType30]
  rw [Sem.run_bind, hg, Result.andThen_ok, run_eql_struct]
  exact congrArg (fun r : Result Bool => r.andThen fun b w' => Result.ok (Value.bool b) w') (eqIn_T_api_Loc 9998 x y w)

theorem neq_T_api_Loc (x y : T_api_Loc) (xo yo : Operand) : ∀ w, (do eqGuard .neq 30 xo yo (.agg #[.int .i64 x.fKind, .int .i64 x.fShard, .int .i64 x.fSlot]) (.agg #[.int .i64 y.fKind, .int .i64 y.fShard, .int .i64 y.fSlot]); binOp .neq 30 (.agg #[.int .i64 x.fKind, .int .i64 x.fShard, .int .i64 x.fSlot]) (.agg #[.int .i64 y.fKind, .int .i64 y.fShard, .int .i64 y.fSlot]) : Sem Value).run Try.prog w = .ok (.bool (!decide (x = y))) w := by
  intro w
  have hg : (eqGuard .neq 30 xo yo (.agg #[.int .i64 x.fKind, .int .i64 x.fShard, .int .i64 x.fSlot]) (.agg #[.int .i64 y.fKind, .int .i64 y.fShard, .int .i64 y.fSlot])).run Try.prog w = .ok () w := by simp [eqGuard, Sem.run_bind, Try.eqGuardType30]
  rw [Sem.run_bind, hg, Result.andThen_ok, run_neq_struct]
  exact congrArg (fun r : Result Bool => r.andThen fun b w' => Result.ok (Value.bool (!b)) w') (eqIn_T_api_Loc 9998 x y w)

theorem eqFields_T_api_Addr : (Try.prog.fieldsOf 33).toList = [{ name := "V6", type := 4, offset := 0, embedded := false, tag := "", pkgPath := "", byteOffset := 0 }, { name := "Hi", type := 31, offset := 1, embedded := false, tag := "", pkgPath := "", byteOffset := 8 }, { name := "Lo", type := 31, offset := 2, embedded := false, tag := "", pkgPath := "", byteOffset := 16 }] := by kernel_rfl

theorem eqIn_T_api_Addr (d : Nat) (x y : T_api_Addr) (w : World) : (Op.equalIn (d + 2) 33 (.agg #[.bool x.fV6, .int .u64 x.fHi, .int .u64 x.fLo]) (.agg #[.bool y.fV6, .int .u64 y.fHi, .int .u64 y.fLo])).run Try.prog w = .ok (decide (x = y)) w := by rw [run_equalIn_struct w (d + 1) _ _ _ (by kernel_rfl) (by kernel_rfl)]; simp only [eqFields_T_api_Addr, Op.eqFields]; simp [go_sem]; cases x; cases y; simp only [T_api_Addr.mk.injEq]; (repeat' split) <;> simp_all

theorem eql_T_api_Addr (x y : T_api_Addr) (xo yo : Operand) : ∀ w, (do eqGuard .eql 33 xo yo (.agg #[.bool x.fV6, .int .u64 x.fHi, .int .u64 x.fLo]) (.agg #[.bool y.fV6, .int .u64 y.fHi, .int .u64 y.fLo]); binOp .eql 33 (.agg #[.bool x.fV6, .int .u64 x.fHi, .int .u64 x.fLo]) (.agg #[.bool y.fV6, .int .u64 y.fHi, .int .u64 y.fLo]) : Sem Value).run Try.prog w = .ok (.bool (decide (x = y))) w := by
  intro w
  have hg : (eqGuard .eql 33 xo yo (.agg #[.bool x.fV6, .int .u64 x.fHi, .int .u64 x.fLo]) (.agg #[.bool y.fV6, .int .u64 y.fHi, .int .u64 y.fLo])).run Try.prog w = .ok () w := by simp [eqGuard, Sem.run_bind, Try.eqGuardType33]
  rw [Sem.run_bind, hg, Result.andThen_ok, run_eql_struct]
  exact congrArg (fun r : Result Bool => r.andThen fun b w' => Result.ok (Value.bool b) w') (eqIn_T_api_Addr 9998 x y w)

theorem neq_T_api_Addr (x y : T_api_Addr) (xo yo : Operand) : ∀ w, (do eqGuard .neq 33 xo yo (.agg #[.bool x.fV6, .int .u64 x.fHi, .int .u64 x.fLo]) (.agg #[.bool y.fV6, .int .u64 y.fHi, .int .u64 y.fLo]); binOp .neq 33 (.agg #[.bool x.fV6, .int .u64 x.fHi, .int .u64 x.fLo]) (.agg #[.bool y.fV6, .int .u64 y.fHi, .int .u64 y.fLo]) : Sem Value).run Try.prog w = .ok (.bool (!decide (x = y))) w := by
  intro w
  have hg : (eqGuard .neq 33 xo yo (.agg #[.bool x.fV6, .int .u64 x.fHi, .int .u64 x.fLo]) (.agg #[.bool y.fV6, .int .u64 y.fHi, .int .u64 y.fLo])).run Try.prog w = .ok () w := by simp [eqGuard, Sem.run_bind, Try.eqGuardType33]
  rw [Sem.run_bind, hg, Result.andThen_ok, run_neq_struct]
  exact congrArg (fun r : Result Bool => r.andThen fun b w' => Result.ok (Value.bool (!b)) w') (eqIn_T_api_Addr 9998 x y w)

theorem eqFields_T_api_End : (Try.prog.fieldsOf 35).toList = [{ name := "Addr", type := 33, offset := 0, embedded := false, tag := "", pkgPath := "", byteOffset := 0 }, { name := "Port", type := 3, offset := 3, embedded := false, tag := "", pkgPath := "", byteOffset := 24 }] := by kernel_rfl

theorem eqIn_T_api_End (d : Nat) (x y : T_api_End) (w : World) : (Op.equalIn (d + 4) 35 (.agg #[.bool x.fAddr.fV6, .int .u64 x.fAddr.fHi, .int .u64 x.fAddr.fLo, .int .i64 x.fPort]) (.agg #[.bool y.fAddr.fV6, .int .u64 y.fAddr.fHi, .int .u64 y.fAddr.fLo, .int .i64 y.fPort])).run Try.prog w = .ok (decide (x = y)) w := by rw [run_equalIn_struct w (d + 3) _ _ _ (by kernel_rfl) (by kernel_rfl)]; simp only [eqFields_T_api_End, Op.eqFields]; simp [go_sem, eqIn_T_api_Addr]; cases x; cases y; simp only [T_api_End.mk.injEq]; (repeat' split) <;> simp_all

theorem eql_T_api_End (x y : T_api_End) (xo yo : Operand) : ∀ w, (do eqGuard .eql 35 xo yo (.agg #[.bool x.fAddr.fV6, .int .u64 x.fAddr.fHi, .int .u64 x.fAddr.fLo, .int .i64 x.fPort]) (.agg #[.bool y.fAddr.fV6, .int .u64 y.fAddr.fHi, .int .u64 y.fAddr.fLo, .int .i64 y.fPort]); binOp .eql 35 (.agg #[.bool x.fAddr.fV6, .int .u64 x.fAddr.fHi, .int .u64 x.fAddr.fLo, .int .i64 x.fPort]) (.agg #[.bool y.fAddr.fV6, .int .u64 y.fAddr.fHi, .int .u64 y.fAddr.fLo, .int .i64 y.fPort]) : Sem Value).run Try.prog w = .ok (.bool (decide (x = y))) w := by
  intro w
  have hg : (eqGuard .eql 35 xo yo (.agg #[.bool x.fAddr.fV6, .int .u64 x.fAddr.fHi, .int .u64 x.fAddr.fLo, .int .i64 x.fPort]) (.agg #[.bool y.fAddr.fV6, .int .u64 y.fAddr.fHi, .int .u64 y.fAddr.fLo, .int .i64 y.fPort])).run Try.prog w = .ok () w := by simp [eqGuard, Sem.run_bind, Try.eqGuardType35]
  rw [Sem.run_bind, hg, Result.andThen_ok, run_eql_struct]
  exact congrArg (fun r : Result Bool => r.andThen fun b w' => Result.ok (Value.bool b) w') (eqIn_T_api_End 9996 x y w)

theorem neq_T_api_End (x y : T_api_End) (xo yo : Operand) : ∀ w, (do eqGuard .neq 35 xo yo (.agg #[.bool x.fAddr.fV6, .int .u64 x.fAddr.fHi, .int .u64 x.fAddr.fLo, .int .i64 x.fPort]) (.agg #[.bool y.fAddr.fV6, .int .u64 y.fAddr.fHi, .int .u64 y.fAddr.fLo, .int .i64 y.fPort]); binOp .neq 35 (.agg #[.bool x.fAddr.fV6, .int .u64 x.fAddr.fHi, .int .u64 x.fAddr.fLo, .int .i64 x.fPort]) (.agg #[.bool y.fAddr.fV6, .int .u64 y.fAddr.fHi, .int .u64 y.fAddr.fLo, .int .i64 y.fPort]) : Sem Value).run Try.prog w = .ok (.bool (!decide (x = y))) w := by
  intro w
  have hg : (eqGuard .neq 35 xo yo (.agg #[.bool x.fAddr.fV6, .int .u64 x.fAddr.fHi, .int .u64 x.fAddr.fLo, .int .i64 x.fPort]) (.agg #[.bool y.fAddr.fV6, .int .u64 y.fAddr.fHi, .int .u64 y.fAddr.fLo, .int .i64 y.fPort])).run Try.prog w = .ok () w := by simp [eqGuard, Sem.run_bind, Try.eqGuardType35]
  rw [Sem.run_bind, hg, Result.andThen_ok, run_neq_struct]
  exact congrArg (fun r : Result Bool => r.andThen fun b w' => Result.ok (Value.bool (!b)) w') (eqIn_T_api_End 9996 x y w)

theorem eqFields_T_api_Score : (Try.prog.fieldsOf 37).toList = [{ name := "Points", type := 3, offset := 0, embedded := false, tag := "", pkgPath := "", byteOffset := 0 }, { name := "At", type := 3, offset := 1, embedded := false, tag := "", pkgPath := "", byteOffset := 8 }] := by kernel_rfl

theorem eqIn_T_api_Score (d : Nat) (x y : T_api_Score) (w : World) : (Op.equalIn (d + 2) 37 (.agg #[.int .i64 x.fPoints, .int .i64 x.fAt]) (.agg #[.int .i64 y.fPoints, .int .i64 y.fAt])).run Try.prog w = .ok (decide (x = y)) w := by rw [run_equalIn_struct w (d + 1) _ _ _ (by kernel_rfl) (by kernel_rfl)]; simp only [eqFields_T_api_Score, Op.eqFields]; simp [go_sem]; cases x; cases y; simp only [T_api_Score.mk.injEq]; (repeat' split) <;> simp_all

theorem eql_T_api_Score (x y : T_api_Score) (xo yo : Operand) : ∀ w, (do eqGuard .eql 37 xo yo (.agg #[.int .i64 x.fPoints, .int .i64 x.fAt]) (.agg #[.int .i64 y.fPoints, .int .i64 y.fAt]); binOp .eql 37 (.agg #[.int .i64 x.fPoints, .int .i64 x.fAt]) (.agg #[.int .i64 y.fPoints, .int .i64 y.fAt]) : Sem Value).run Try.prog w = .ok (.bool (decide (x = y))) w := by
  intro w
  have hg : (eqGuard .eql 37 xo yo (.agg #[.int .i64 x.fPoints, .int .i64 x.fAt]) (.agg #[.int .i64 y.fPoints, .int .i64 y.fAt])).run Try.prog w = .ok () w := by simp [eqGuard, Sem.run_bind, Try.eqGuardType37]
  rw [Sem.run_bind, hg, Result.andThen_ok, run_eql_struct]
  exact congrArg (fun r : Result Bool => r.andThen fun b w' => Result.ok (Value.bool b) w') (eqIn_T_api_Score 9998 x y w)

theorem neq_T_api_Score (x y : T_api_Score) (xo yo : Operand) : ∀ w, (do eqGuard .neq 37 xo yo (.agg #[.int .i64 x.fPoints, .int .i64 x.fAt]) (.agg #[.int .i64 y.fPoints, .int .i64 y.fAt]); binOp .neq 37 (.agg #[.int .i64 x.fPoints, .int .i64 x.fAt]) (.agg #[.int .i64 y.fPoints, .int .i64 y.fAt]) : Sem Value).run Try.prog w = .ok (.bool (!decide (x = y))) w := by
  intro w
  have hg : (eqGuard .neq 37 xo yo (.agg #[.int .i64 x.fPoints, .int .i64 x.fAt]) (.agg #[.int .i64 y.fPoints, .int .i64 y.fAt])).run Try.prog w = .ok () w := by simp [eqGuard, Sem.run_bind, Try.eqGuardType37]
  rw [Sem.run_bind, hg, Result.andThen_ok, run_neq_struct]
  exact congrArg (fun r : Result Bool => r.andThen fun b w' => Result.ok (Value.bool (!b)) w') (eqIn_T_api_Score 9998 x y w)

theorem eqFields_T_api_Peer : (Try.prog.fieldsOf 39).toList = [{ name := "End", type := 35, offset := 0, embedded := false, tag := "", pkgPath := "", byteOffset := 0 }, { name := "In", type := 4, offset := 4, embedded := false, tag := "", pkgPath := "", byteOffset := 32 }, { name := "Since", type := 3, offset := 5, embedded := false, tag := "", pkgPath := "", byteOffset := 40 }, { name := "Score", type := 37, offset := 6, embedded := false, tag := "", pkgPath := "", byteOffset := 48 }, { name := "Ping", type := 3, offset := 8, embedded := false, tag := "", pkgPath := "", byteOffset := 64 }, { name := "Work", type := 3, offset := 9, embedded := false, tag := "", pkgPath := "", byteOffset := 72 }] := by kernel_rfl

theorem eqIn_T_api_Peer (d : Nat) (x y : T_api_Peer) (w : World) : (Op.equalIn (d + 6) 39 (.agg #[.bool x.fEnd.fAddr.fV6, .int .u64 x.fEnd.fAddr.fHi, .int .u64 x.fEnd.fAddr.fLo, .int .i64 x.fEnd.fPort, .bool x.fIn, .int .i64 x.fSince, .int .i64 x.fScore.fPoints, .int .i64 x.fScore.fAt, .int .i64 x.fPing, .int .i64 x.fWork]) (.agg #[.bool y.fEnd.fAddr.fV6, .int .u64 y.fEnd.fAddr.fHi, .int .u64 y.fEnd.fAddr.fLo, .int .i64 y.fEnd.fPort, .bool y.fIn, .int .i64 y.fSince, .int .i64 y.fScore.fPoints, .int .i64 y.fScore.fAt, .int .i64 y.fPing, .int .i64 y.fWork])).run Try.prog w = .ok (decide (x = y)) w := by rw [run_equalIn_struct w (d + 5) _ _ _ (by kernel_rfl) (by kernel_rfl)]; simp only [eqFields_T_api_Peer, Op.eqFields]; simp [go_sem, eqIn_T_api_End, eqIn_T_api_Score]; cases x; cases y; simp only [T_api_Peer.mk.injEq]; (repeat' split) <;> simp_all

theorem eql_T_api_Peer (x y : T_api_Peer) (xo yo : Operand) : ∀ w, (do eqGuard .eql 39 xo yo (.agg #[.bool x.fEnd.fAddr.fV6, .int .u64 x.fEnd.fAddr.fHi, .int .u64 x.fEnd.fAddr.fLo, .int .i64 x.fEnd.fPort, .bool x.fIn, .int .i64 x.fSince, .int .i64 x.fScore.fPoints, .int .i64 x.fScore.fAt, .int .i64 x.fPing, .int .i64 x.fWork]) (.agg #[.bool y.fEnd.fAddr.fV6, .int .u64 y.fEnd.fAddr.fHi, .int .u64 y.fEnd.fAddr.fLo, .int .i64 y.fEnd.fPort, .bool y.fIn, .int .i64 y.fSince, .int .i64 y.fScore.fPoints, .int .i64 y.fScore.fAt, .int .i64 y.fPing, .int .i64 y.fWork]); binOp .eql 39 (.agg #[.bool x.fEnd.fAddr.fV6, .int .u64 x.fEnd.fAddr.fHi, .int .u64 x.fEnd.fAddr.fLo, .int .i64 x.fEnd.fPort, .bool x.fIn, .int .i64 x.fSince, .int .i64 x.fScore.fPoints, .int .i64 x.fScore.fAt, .int .i64 x.fPing, .int .i64 x.fWork]) (.agg #[.bool y.fEnd.fAddr.fV6, .int .u64 y.fEnd.fAddr.fHi, .int .u64 y.fEnd.fAddr.fLo, .int .i64 y.fEnd.fPort, .bool y.fIn, .int .i64 y.fSince, .int .i64 y.fScore.fPoints, .int .i64 y.fScore.fAt, .int .i64 y.fPing, .int .i64 y.fWork]) : Sem Value).run Try.prog w = .ok (.bool (decide (x = y))) w := by
  intro w
  have hg : (eqGuard .eql 39 xo yo (.agg #[.bool x.fEnd.fAddr.fV6, .int .u64 x.fEnd.fAddr.fHi, .int .u64 x.fEnd.fAddr.fLo, .int .i64 x.fEnd.fPort, .bool x.fIn, .int .i64 x.fSince, .int .i64 x.fScore.fPoints, .int .i64 x.fScore.fAt, .int .i64 x.fPing, .int .i64 x.fWork]) (.agg #[.bool y.fEnd.fAddr.fV6, .int .u64 y.fEnd.fAddr.fHi, .int .u64 y.fEnd.fAddr.fLo, .int .i64 y.fEnd.fPort, .bool y.fIn, .int .i64 y.fSince, .int .i64 y.fScore.fPoints, .int .i64 y.fScore.fAt, .int .i64 y.fPing, .int .i64 y.fWork])).run Try.prog w = .ok () w := by simp [eqGuard, Sem.run_bind, Try.eqGuardType39]
  rw [Sem.run_bind, hg, Result.andThen_ok, run_eql_struct]
  exact congrArg (fun r : Result Bool => r.andThen fun b w' => Result.ok (Value.bool b) w') (eqIn_T_api_Peer 9994 x y w)

theorem neq_T_api_Peer (x y : T_api_Peer) (xo yo : Operand) : ∀ w, (do eqGuard .neq 39 xo yo (.agg #[.bool x.fEnd.fAddr.fV6, .int .u64 x.fEnd.fAddr.fHi, .int .u64 x.fEnd.fAddr.fLo, .int .i64 x.fEnd.fPort, .bool x.fIn, .int .i64 x.fSince, .int .i64 x.fScore.fPoints, .int .i64 x.fScore.fAt, .int .i64 x.fPing, .int .i64 x.fWork]) (.agg #[.bool y.fEnd.fAddr.fV6, .int .u64 y.fEnd.fAddr.fHi, .int .u64 y.fEnd.fAddr.fLo, .int .i64 y.fEnd.fPort, .bool y.fIn, .int .i64 y.fSince, .int .i64 y.fScore.fPoints, .int .i64 y.fScore.fAt, .int .i64 y.fPing, .int .i64 y.fWork]); binOp .neq 39 (.agg #[.bool x.fEnd.fAddr.fV6, .int .u64 x.fEnd.fAddr.fHi, .int .u64 x.fEnd.fAddr.fLo, .int .i64 x.fEnd.fPort, .bool x.fIn, .int .i64 x.fSince, .int .i64 x.fScore.fPoints, .int .i64 x.fScore.fAt, .int .i64 x.fPing, .int .i64 x.fWork]) (.agg #[.bool y.fEnd.fAddr.fV6, .int .u64 y.fEnd.fAddr.fHi, .int .u64 y.fEnd.fAddr.fLo, .int .i64 y.fEnd.fPort, .bool y.fIn, .int .i64 y.fSince, .int .i64 y.fScore.fPoints, .int .i64 y.fScore.fAt, .int .i64 y.fPing, .int .i64 y.fWork]) : Sem Value).run Try.prog w = .ok (.bool (!decide (x = y))) w := by
  intro w
  have hg : (eqGuard .neq 39 xo yo (.agg #[.bool x.fEnd.fAddr.fV6, .int .u64 x.fEnd.fAddr.fHi, .int .u64 x.fEnd.fAddr.fLo, .int .i64 x.fEnd.fPort, .bool x.fIn, .int .i64 x.fSince, .int .i64 x.fScore.fPoints, .int .i64 x.fScore.fAt, .int .i64 x.fPing, .int .i64 x.fWork]) (.agg #[.bool y.fEnd.fAddr.fV6, .int .u64 y.fEnd.fAddr.fHi, .int .u64 y.fEnd.fAddr.fLo, .int .i64 y.fEnd.fPort, .bool y.fIn, .int .i64 y.fSince, .int .i64 y.fScore.fPoints, .int .i64 y.fScore.fAt, .int .i64 y.fPing, .int .i64 y.fWork])).run Try.prog w = .ok () w := by simp [eqGuard, Sem.run_bind, Try.eqGuardType39]
  rw [Sem.run_bind, hg, Result.andThen_ok, run_neq_struct]
  exact congrArg (fun r : Result Bool => r.andThen fun b w' => Result.ok (Value.bool (!b)) w') (eqIn_T_api_Peer 9994 x y w)

theorem eqFields_T_api_Net : (Try.prog.fieldsOf 140).toList = [{ name := "Addr", type := 33, offset := 0, embedded := false, tag := "", pkgPath := "", byteOffset := 0 }, { name := "Bits", type := 3, offset := 3, embedded := false, tag := "", pkgPath := "", byteOffset := 24 }] := by kernel_rfl

theorem eqIn_T_api_Net (d : Nat) (x y : T_api_Net) (w : World) : (Op.equalIn (d + 4) 140 (.agg #[.bool x.fAddr.fV6, .int .u64 x.fAddr.fHi, .int .u64 x.fAddr.fLo, .int .i64 x.fBits]) (.agg #[.bool y.fAddr.fV6, .int .u64 y.fAddr.fHi, .int .u64 y.fAddr.fLo, .int .i64 y.fBits])).run Try.prog w = .ok (decide (x = y)) w := by rw [run_equalIn_struct w (d + 3) _ _ _ (by kernel_rfl) (by kernel_rfl)]; simp only [eqFields_T_api_Net, Op.eqFields]; simp [go_sem, eqIn_T_api_Addr]; cases x; cases y; simp only [T_api_Net.mk.injEq]; (repeat' split) <;> simp_all

theorem eql_T_api_Net (x y : T_api_Net) (xo yo : Operand) : ∀ w, (do eqGuard .eql 140 xo yo (.agg #[.bool x.fAddr.fV6, .int .u64 x.fAddr.fHi, .int .u64 x.fAddr.fLo, .int .i64 x.fBits]) (.agg #[.bool y.fAddr.fV6, .int .u64 y.fAddr.fHi, .int .u64 y.fAddr.fLo, .int .i64 y.fBits]); binOp .eql 140 (.agg #[.bool x.fAddr.fV6, .int .u64 x.fAddr.fHi, .int .u64 x.fAddr.fLo, .int .i64 x.fBits]) (.agg #[.bool y.fAddr.fV6, .int .u64 y.fAddr.fHi, .int .u64 y.fAddr.fLo, .int .i64 y.fBits]) : Sem Value).run Try.prog w = .ok (.bool (decide (x = y))) w := by
  intro w
  have hg : (eqGuard .eql 140 xo yo (.agg #[.bool x.fAddr.fV6, .int .u64 x.fAddr.fHi, .int .u64 x.fAddr.fLo, .int .i64 x.fBits]) (.agg #[.bool y.fAddr.fV6, .int .u64 y.fAddr.fHi, .int .u64 y.fAddr.fLo, .int .i64 y.fBits])).run Try.prog w = .ok () w := by simp [eqGuard, Sem.run_bind, Try.eqGuardType140]
  rw [Sem.run_bind, hg, Result.andThen_ok, run_eql_struct]
  exact congrArg (fun r : Result Bool => r.andThen fun b w' => Result.ok (Value.bool b) w') (eqIn_T_api_Net 9996 x y w)

theorem neq_T_api_Net (x y : T_api_Net) (xo yo : Operand) : ∀ w, (do eqGuard .neq 140 xo yo (.agg #[.bool x.fAddr.fV6, .int .u64 x.fAddr.fHi, .int .u64 x.fAddr.fLo, .int .i64 x.fBits]) (.agg #[.bool y.fAddr.fV6, .int .u64 y.fAddr.fHi, .int .u64 y.fAddr.fLo, .int .i64 y.fBits]); binOp .neq 140 (.agg #[.bool x.fAddr.fV6, .int .u64 x.fAddr.fHi, .int .u64 x.fAddr.fLo, .int .i64 x.fBits]) (.agg #[.bool y.fAddr.fV6, .int .u64 y.fAddr.fHi, .int .u64 y.fAddr.fLo, .int .i64 y.fBits]) : Sem Value).run Try.prog w = .ok (.bool (!decide (x = y))) w := by
  intro w
  have hg : (eqGuard .neq 140 xo yo (.agg #[.bool x.fAddr.fV6, .int .u64 x.fAddr.fHi, .int .u64 x.fAddr.fLo, .int .i64 x.fBits]) (.agg #[.bool y.fAddr.fV6, .int .u64 y.fAddr.fHi, .int .u64 y.fAddr.fLo, .int .i64 y.fBits])).run Try.prog w = .ok () w := by simp [eqGuard, Sem.run_bind, Try.eqGuardType140]
  rw [Sem.run_bind, hg, Result.andThen_ok, run_neq_struct]
  exact congrArg (fun r : Result Bool => r.andThen fun b w' => Result.ok (Value.bool (!b)) w') (eqIn_T_api_Net 9996 x y w)

theorem eqFields_T_api_Ban : (Try.prog.fieldsOf 142).toList = [{ name := "Net", type := 140, offset := 0, embedded := false, tag := "", pkgPath := "", byteOffset := 0 }, { name := "Until", type := 3, offset := 4, embedded := false, tag := "", pkgPath := "", byteOffset := 32 }] := by kernel_rfl

theorem eqIn_T_api_Ban (d : Nat) (x y : T_api_Ban) (w : World) : (Op.equalIn (d + 6) 142 (.agg #[.bool x.fNet.fAddr.fV6, .int .u64 x.fNet.fAddr.fHi, .int .u64 x.fNet.fAddr.fLo, .int .i64 x.fNet.fBits, .int .i64 x.fUntil]) (.agg #[.bool y.fNet.fAddr.fV6, .int .u64 y.fNet.fAddr.fHi, .int .u64 y.fNet.fAddr.fLo, .int .i64 y.fNet.fBits, .int .i64 y.fUntil])).run Try.prog w = .ok (decide (x = y)) w := by rw [run_equalIn_struct w (d + 5) _ _ _ (by kernel_rfl) (by kernel_rfl)]; simp only [eqFields_T_api_Ban, Op.eqFields]; simp [go_sem, eqIn_T_api_Net]; cases x; cases y; simp only [T_api_Ban.mk.injEq]; (repeat' split) <;> simp_all

theorem eql_T_api_Ban (x y : T_api_Ban) (xo yo : Operand) : ∀ w, (do eqGuard .eql 142 xo yo (.agg #[.bool x.fNet.fAddr.fV6, .int .u64 x.fNet.fAddr.fHi, .int .u64 x.fNet.fAddr.fLo, .int .i64 x.fNet.fBits, .int .i64 x.fUntil]) (.agg #[.bool y.fNet.fAddr.fV6, .int .u64 y.fNet.fAddr.fHi, .int .u64 y.fNet.fAddr.fLo, .int .i64 y.fNet.fBits, .int .i64 y.fUntil]); binOp .eql 142 (.agg #[.bool x.fNet.fAddr.fV6, .int .u64 x.fNet.fAddr.fHi, .int .u64 x.fNet.fAddr.fLo, .int .i64 x.fNet.fBits, .int .i64 x.fUntil]) (.agg #[.bool y.fNet.fAddr.fV6, .int .u64 y.fNet.fAddr.fHi, .int .u64 y.fNet.fAddr.fLo, .int .i64 y.fNet.fBits, .int .i64 y.fUntil]) : Sem Value).run Try.prog w = .ok (.bool (decide (x = y))) w := by
  intro w
  have hg : (eqGuard .eql 142 xo yo (.agg #[.bool x.fNet.fAddr.fV6, .int .u64 x.fNet.fAddr.fHi, .int .u64 x.fNet.fAddr.fLo, .int .i64 x.fNet.fBits, .int .i64 x.fUntil]) (.agg #[.bool y.fNet.fAddr.fV6, .int .u64 y.fNet.fAddr.fHi, .int .u64 y.fNet.fAddr.fLo, .int .i64 y.fNet.fBits, .int .i64 y.fUntil])).run Try.prog w = .ok () w := by simp [eqGuard, Sem.run_bind, Try.eqGuardType142]
  rw [Sem.run_bind, hg, Result.andThen_ok, run_eql_struct]
  exact congrArg (fun r : Result Bool => r.andThen fun b w' => Result.ok (Value.bool b) w') (eqIn_T_api_Ban 9994 x y w)

theorem neq_T_api_Ban (x y : T_api_Ban) (xo yo : Operand) : ∀ w, (do eqGuard .neq 142 xo yo (.agg #[.bool x.fNet.fAddr.fV6, .int .u64 x.fNet.fAddr.fHi, .int .u64 x.fNet.fAddr.fLo, .int .i64 x.fNet.fBits, .int .i64 x.fUntil]) (.agg #[.bool y.fNet.fAddr.fV6, .int .u64 y.fNet.fAddr.fHi, .int .u64 y.fNet.fAddr.fLo, .int .i64 y.fNet.fBits, .int .i64 y.fUntil]); binOp .neq 142 (.agg #[.bool x.fNet.fAddr.fV6, .int .u64 x.fNet.fAddr.fHi, .int .u64 x.fNet.fAddr.fLo, .int .i64 x.fNet.fBits, .int .i64 x.fUntil]) (.agg #[.bool y.fNet.fAddr.fV6, .int .u64 y.fNet.fAddr.fHi, .int .u64 y.fNet.fAddr.fLo, .int .i64 y.fNet.fBits, .int .i64 y.fUntil]) : Sem Value).run Try.prog w = .ok (.bool (!decide (x = y))) w := by
  intro w
  have hg : (eqGuard .neq 142 xo yo (.agg #[.bool x.fNet.fAddr.fV6, .int .u64 x.fNet.fAddr.fHi, .int .u64 x.fNet.fAddr.fLo, .int .i64 x.fNet.fBits, .int .i64 x.fUntil]) (.agg #[.bool y.fNet.fAddr.fV6, .int .u64 y.fNet.fAddr.fHi, .int .u64 y.fNet.fAddr.fLo, .int .i64 y.fNet.fBits, .int .i64 y.fUntil])).run Try.prog w = .ok () w := by simp [eqGuard, Sem.run_bind, Try.eqGuardType142]
  rw [Sem.run_bind, hg, Result.andThen_ok, run_neq_struct]
  exact congrArg (fun r : Result Bool => r.andThen fun b w' => Result.ok (Value.bool (!b)) w') (eqIn_T_api_Ban 9994 x y w)

theorem eqFields_T_api_Entry : (Try.prog.fieldsOf 144).toList = [{ name := "End", type := 35, offset := 0, embedded := false, tag := "", pkgPath := "", byteOffset := 0 }, { name := "State", type := 3, offset := 4, embedded := false, tag := "", pkgPath := "", byteOffset := 32 }, { name := "Fails", type := 3, offset := 5, embedded := false, tag := "", pkgPath := "", byteOffset := 40 }, { name := "Next", type := 3, offset := 6, embedded := false, tag := "", pkgPath := "", byteOffset := 48 }] := by kernel_rfl

theorem eqIn_T_api_Entry (d : Nat) (x y : T_api_Entry) (w : World) : (Op.equalIn (d + 6) 144 (.agg #[.bool x.fEnd.fAddr.fV6, .int .u64 x.fEnd.fAddr.fHi, .int .u64 x.fEnd.fAddr.fLo, .int .i64 x.fEnd.fPort, .int .i64 x.fState, .int .i64 x.fFails, .int .i64 x.fNext]) (.agg #[.bool y.fEnd.fAddr.fV6, .int .u64 y.fEnd.fAddr.fHi, .int .u64 y.fEnd.fAddr.fLo, .int .i64 y.fEnd.fPort, .int .i64 y.fState, .int .i64 y.fFails, .int .i64 y.fNext])).run Try.prog w = .ok (decide (x = y)) w := by rw [run_equalIn_struct w (d + 5) _ _ _ (by kernel_rfl) (by kernel_rfl)]; simp only [eqFields_T_api_Entry, Op.eqFields]; simp [go_sem, eqIn_T_api_End]; cases x; cases y; simp only [T_api_Entry.mk.injEq]; (repeat' split) <;> simp_all

theorem eql_T_api_Entry (x y : T_api_Entry) (xo yo : Operand) : ∀ w, (do eqGuard .eql 144 xo yo (.agg #[.bool x.fEnd.fAddr.fV6, .int .u64 x.fEnd.fAddr.fHi, .int .u64 x.fEnd.fAddr.fLo, .int .i64 x.fEnd.fPort, .int .i64 x.fState, .int .i64 x.fFails, .int .i64 x.fNext]) (.agg #[.bool y.fEnd.fAddr.fV6, .int .u64 y.fEnd.fAddr.fHi, .int .u64 y.fEnd.fAddr.fLo, .int .i64 y.fEnd.fPort, .int .i64 y.fState, .int .i64 y.fFails, .int .i64 y.fNext]); binOp .eql 144 (.agg #[.bool x.fEnd.fAddr.fV6, .int .u64 x.fEnd.fAddr.fHi, .int .u64 x.fEnd.fAddr.fLo, .int .i64 x.fEnd.fPort, .int .i64 x.fState, .int .i64 x.fFails, .int .i64 x.fNext]) (.agg #[.bool y.fEnd.fAddr.fV6, .int .u64 y.fEnd.fAddr.fHi, .int .u64 y.fEnd.fAddr.fLo, .int .i64 y.fEnd.fPort, .int .i64 y.fState, .int .i64 y.fFails, .int .i64 y.fNext]) : Sem Value).run Try.prog w = .ok (.bool (decide (x = y))) w := by
  intro w
  have hg : (eqGuard .eql 144 xo yo (.agg #[.bool x.fEnd.fAddr.fV6, .int .u64 x.fEnd.fAddr.fHi, .int .u64 x.fEnd.fAddr.fLo, .int .i64 x.fEnd.fPort, .int .i64 x.fState, .int .i64 x.fFails, .int .i64 x.fNext]) (.agg #[.bool y.fEnd.fAddr.fV6, .int .u64 y.fEnd.fAddr.fHi, .int .u64 y.fEnd.fAddr.fLo, .int .i64 y.fEnd.fPort, .int .i64 y.fState, .int .i64 y.fFails, .int .i64 y.fNext])).run Try.prog w = .ok () w := by simp [eqGuard, Sem.run_bind, Try.eqGuardType144]
  rw [Sem.run_bind, hg, Result.andThen_ok, run_eql_struct]
  exact congrArg (fun r : Result Bool => r.andThen fun b w' => Result.ok (Value.bool b) w') (eqIn_T_api_Entry 9994 x y w)

theorem neq_T_api_Entry (x y : T_api_Entry) (xo yo : Operand) : ∀ w, (do eqGuard .neq 144 xo yo (.agg #[.bool x.fEnd.fAddr.fV6, .int .u64 x.fEnd.fAddr.fHi, .int .u64 x.fEnd.fAddr.fLo, .int .i64 x.fEnd.fPort, .int .i64 x.fState, .int .i64 x.fFails, .int .i64 x.fNext]) (.agg #[.bool y.fEnd.fAddr.fV6, .int .u64 y.fEnd.fAddr.fHi, .int .u64 y.fEnd.fAddr.fLo, .int .i64 y.fEnd.fPort, .int .i64 y.fState, .int .i64 y.fFails, .int .i64 y.fNext]); binOp .neq 144 (.agg #[.bool x.fEnd.fAddr.fV6, .int .u64 x.fEnd.fAddr.fHi, .int .u64 x.fEnd.fAddr.fLo, .int .i64 x.fEnd.fPort, .int .i64 x.fState, .int .i64 x.fFails, .int .i64 x.fNext]) (.agg #[.bool y.fEnd.fAddr.fV6, .int .u64 y.fEnd.fAddr.fHi, .int .u64 y.fEnd.fAddr.fLo, .int .i64 y.fEnd.fPort, .int .i64 y.fState, .int .i64 y.fFails, .int .i64 y.fNext]) : Sem Value).run Try.prog w = .ok (.bool (!decide (x = y))) w := by
  intro w
  have hg : (eqGuard .neq 144 xo yo (.agg #[.bool x.fEnd.fAddr.fV6, .int .u64 x.fEnd.fAddr.fHi, .int .u64 x.fEnd.fAddr.fLo, .int .i64 x.fEnd.fPort, .int .i64 x.fState, .int .i64 x.fFails, .int .i64 x.fNext]) (.agg #[.bool y.fEnd.fAddr.fV6, .int .u64 y.fEnd.fAddr.fHi, .int .u64 y.fEnd.fAddr.fLo, .int .i64 y.fEnd.fPort, .int .i64 y.fState, .int .i64 y.fFails, .int .i64 y.fNext])).run Try.prog w = .ok () w := by simp [eqGuard, Sem.run_bind, Try.eqGuardType144]
  rw [Sem.run_bind, hg, Result.andThen_ok, run_neq_struct]
  exact congrArg (fun r : Result Bool => r.andThen fun b w' => Result.ok (Value.bool (!b)) w') (eqIn_T_api_Entry 9994 x y w)

def g_doormanlaw38_light_c0 (a0 : (List T_api_Op)) (a1 : (List T_api_Value))  : Nat → Int → Option Bool
  | 0, _ => none
  | fu + 1, v5 =>
    bif (decide (v5 < ((a0.length : Nat) : Int))) then
      bif (decide (v5 < (60 : Int))) then
        need (0 ≤ v5 ∧ v5 < ((a0.length : Nat) : Int)) <|
        bif (decide ((((((a0.getD v5.toNat T_api_Op.d).fVal).fBans).length : Nat) : Int) > (20 : Int))) then
          some false
        else
          bif (decide ((((((a0.getD v5.toNat T_api_Op.d).fVal).fBook).length : Nat) : Int) > (20 : Int))) then
            some false
          else
            g_doormanlaw38_light_c0 a0 a1  fu (add64 v5 (1 : Int))
      else
        bif (decide (((a0.length : Nat) : Int) ≤ (60 : Int))) then
          some (decide (((a1.length : Nat) : Int) ≤ (60 : Int)))
        else
          some false
    else
      bif (decide (((a0.length : Nat) : Int) ≤ (60 : Int))) then
        some (decide (((a1.length : Nat) : Int) ≤ (60 : Int)))
      else
        some false

theorem g_doormanlaw38_light_c0_ok (S0 : Nat → Prop) (w0 : Start) (a0 : (List T_api_Op)) (a1 : (List T_api_Value))  : ∀ (fu : Nat) (v5 : Int) (r : Bool), g_doormanlaw38_light_c0 a0 a1  fu v5 = some r → Good Try.prog 42 S0 w0 (bodyPost Try.prog Try.f19 (Post S0 w0 (.one (.lit (.bool r))))) (at_ [1, 0, 1, 0] (bodyOf Try.f19)) ⟨[(0, .one (cL 21 T_api_Op.c T_api_Op.d a0)), (1, .one (cL 13 T_api_Value.c T_api_Value.d a1)), (5, .one (.lit (.int .i64 v5)))], []⟩ := by
  intro fu
  induction fu with
  | zero =>
    intro v5 r hf
    simp [g_doormanlaw38_light_c0] at hf
  | succ fu ih =>
    intro v5 r hf
    unfold g_doormanlaw38_light_c0 at hf
    rcases br_some hf with ⟨h1, hf⟩ | ⟨h1, hf⟩
    · rcases br_some hf with ⟨h2, hf⟩ | ⟨h2, hf⟩
      · obtain ⟨o3, hf⟩ := need_some hf
        rcases br_some hf with ⟨h4, hf⟩ | ⟨h4, hf⟩
        · replace hf := Option.some.inj hf
          subst hf
          exact toEnd_g allOk 13 [rB [(4, true)], rB [(8, true)], rz] [true, true] [] [] [] (.c h1 (.c h2 (.c o3 (.c h4 (.c (show true = true from rfl) .n))))) (by kernel_rfl) rfl
        · rcases br_some hf with ⟨h5, hf⟩ | ⟨h5, hf⟩
          · replace hf := Option.some.inj hf
            subst hf
            exact toEnd_g allOk 13 [rB [(4, true)], rB [(8, false)], rz] [true, true] [] [] [] (.c h1 (.c h2 (.c o3 (.c h4 (.c o3 (.c h5 .n)))))) (by kernel_rfl) rfl
          · exact toK_g allOk Post.ends 15 [rB [(4, true)], rB [(8, false)], rz] [true, false] ⟨[], [], [], [], [], [0, 1, 5], [], []⟩ (.c h1 (.c h2 (.c o3 (.c h4 (.c o3 (.c h5 .n)))))) (by kernel_rfl) (ih (add64 v5 (1 : Int)) r hf)
      · rcases br_some hf with ⟨h6, hf⟩ | ⟨h6, hf⟩
        · replace hf := Option.some.inj hf
          subst hf
          exact toEnd_g allOk 8 [rB [(4, true)], rB [(3, true)]] [false] [] [] [] (.c h1 (.c h2 (.c h6 .n))) (by kernel_rfl) rfl
        · replace hf := Option.some.inj hf
          subst hf
          exact toEnd_g allOk 8 [rB [(4, true)], rB [(3, false)]] [false] [] [] [] (.c h1 (.c h2 (.c h6 .n))) (by kernel_rfl) rfl
    · rcases br_some hf with ⟨h7, hf⟩ | ⟨h7, hf⟩
      · replace hf := Option.some.inj hf
        subst hf
        exact toEnd_g allOk 8 [rB [(4, false)], rB [(3, true)]] [false] [] [] [] (.c h1 (.c (show false = false from rfl) (.c h7 .n))) (by kernel_rfl) rfl
      · replace hf := Option.some.inj hf
        subst hf
        exact toEnd_g allOk 8 [rB [(4, false)], rB [(3, false)]] [false] [] [] [] (.c h1 (.c (show false = false from rfl) (.c h7 .n))) (by kernel_rfl) rfl

/-- doorman/doormanlaw38.light -/
def g_doormanlaw38_light (a0 : (List T_api_Op)) (a1 : (List T_api_Value)) : Option Bool :=
  g_doormanlaw38_light_c0 a0 a1  (((60 : Int) - (0 : Int)).toNat + 2) (0 : Int)

theorem g_doormanlaw38_light_ok (a0 : (List T_api_Op)) (a1 : (List T_api_Value)) (r : Bool) (hf : g_doormanlaw38_light a0 a1 = some r) : SCall Try.prog 19 [.one (cL 21 T_api_Op.c T_api_Op.d a0), .one (cL 13 T_api_Value.c T_api_Value.d a1)] (.one (.lit (.bool r))) := by
  refine SCall.of Try.func19 rfl rfl rfl rfl fun S0 w0 => ?_
  unfold g_doormanlaw38_light at hf
  exact toK_g allOk Post.ends 6 [rz, rz] [] ⟨[], [], [], [], [], [0, 1, 5], [], []⟩ .n (by kernel_rfl) (g_doormanlaw38_light_c0_ok S0 w0 a0 a1   (((60 : Int) - (0 : Int)).toNat + 2) (0 : Int) r hf)

def g_op_place_c0   (v4 : Int) (v5 : Bool) (b1 : T_api_Loc) (b2 : T_api_Loc) : Option T_api_Loc :=
  bif v5 then
    some (T_api_Loc.mk b1.fKind (0 : Int) (0 : Int))
  else
    bif (v4 == (5 : Int)) then
      some (T_api_Loc.mk b1.fKind b1.fShard (0 : Int))
    else
      bif (v4 == (6 : Int)) then
        some b1
      else
        some (T_api_Loc.mk (0 : Int) (0 : Int) (0 : Int))

theorem g_op_place_c0_ok (S0 : Nat → Prop) (w0 : Start)   (v4 : Int) (v5 : Bool) (b1 : T_api_Loc) (b2 : T_api_Loc) (r : T_api_Loc) (hf : g_op_place_c0   v4 v5 b1 b2 = some r) : Good Try.prog 24 S0 w0 (bodyPost Try.prog Try.f106 (Post S0 w0 (.agg (T_api_Loc.c r)))) (at_ [1, 0, 1, 0, 1] (bodyOf Try.f106)) ⟨[(1, .one (.ptr 1 0)), (2, .one (.ptr 2 0)), (4, .one (.lit (.int .i64 v4))), (5, .one (.lit (.bool v5)))], [(1, .box [.lit (.int .i64 b1.fKind), .lit (.int .i64 b1.fShard), .lit (.int .i64 b1.fSlot)]), (2, .box [.lit (.int .i64 b2.fKind), .lit (.int .i64 b2.fShard), .lit (.int .i64 b2.fSlot)])]⟩ := by
  unfold g_op_place_c0 at hf
  rcases br_some hf with ⟨h2, hf⟩ | ⟨h2, hf⟩
  · replace hf := Option.some.inj hf
    subst hf
    exact toEnd_g allOk 3 [rz] [true] [] [] [] (.c h2 .n) (by kernel_rfl) rfl
  · rcases br_some hf with ⟨h3, hf⟩ | ⟨h3, hf⟩
    · replace hf := Option.some.inj hf
      subst hf
      exact toEnd_g allOk 6 [rz, rz] [false, true] [] [] [] (.c h2 (.c h3 .n)) (by kernel_rfl) rfl
    · rcases br_some hf with ⟨h4, hf⟩ | ⟨h4, hf⟩
      · replace hf := Option.some.inj hf
        subst hf
        exact toEnd_g allOk 9 [rz, rz, rz] [false, false, true] [] [] [] (.c h2 (.c h3 (.c h4 .n))) (by kernel_rfl) rfl
      · replace hf := Option.some.inj hf
        subst hf
        exact toEnd_g allOk 11 [rz, rz, rz] [false, false, false] [] [] [] (.c h2 (.c h3 (.c h4 .n))) (by kernel_rfl) rfl

/-- doorman/op.place -/
def g_op_place (a0 : T_api_Loc) : Option T_api_Loc :=
  bif (a0.fKind == (1 : Int)) then
    g_op_place_c0   a0.fKind (a0.fKind == (1 : Int)) a0 (T_api_Loc.mk (0 : Int) (0 : Int) (0 : Int))
  else
    bif (a0.fKind == (2 : Int)) then
      g_op_place_c0   a0.fKind (a0.fKind == (2 : Int)) a0 (T_api_Loc.mk (0 : Int) (0 : Int) (0 : Int))
    else
      bif (a0.fKind == (3 : Int)) then
        g_op_place_c0   a0.fKind (a0.fKind == (3 : Int)) a0 (T_api_Loc.mk (0 : Int) (0 : Int) (0 : Int))
      else
        g_op_place_c0   a0.fKind (a0.fKind == (4 : Int)) a0 (T_api_Loc.mk (0 : Int) (0 : Int) (0 : Int))

theorem g_op_place_ok (a0 : T_api_Loc) (r : T_api_Loc) (hf : g_op_place a0 = some r) : SCall Try.prog 106 [.agg (T_api_Loc.c a0)] (.agg (T_api_Loc.c r)) := by
  refine SCall.of Try.func106 rfl rfl rfl rfl fun S0 w0 => ?_
  unfold g_op_place at hf
  rcases br_some hf with ⟨h1, hf⟩ | ⟨h1, hf⟩
  · exact toK_g allOk Post.ends 11 [rz, rz, rz] [true] ⟨[], [], [], [], [], [1, 2, 4, 5], [1, 2], []⟩ (.c h1 .n) (by kernel_rfl) (g_op_place_c0_ok S0 w0    a0.fKind (a0.fKind == (1 : Int)) a0 (T_api_Loc.mk (0 : Int) (0 : Int) (0 : Int)) r hf)
  · rcases br_some hf with ⟨h2, hf⟩ | ⟨h2, hf⟩
    · exact toK_g allOk Post.ends 14 [rz, rz, rz, rz] [false, true] ⟨[], [], [], [], [], [1, 2, 4, 5], [1, 2], []⟩ (.c h1 (.c h2 .n)) (by kernel_rfl) (g_op_place_c0_ok S0 w0    a0.fKind (a0.fKind == (2 : Int)) a0 (T_api_Loc.mk (0 : Int) (0 : Int) (0 : Int)) r hf)
    · rcases br_some hf with ⟨h3, hf⟩ | ⟨h3, hf⟩
      · exact toK_g allOk Post.ends 17 [rz, rz, rz, rz, rz] [false, false, true] ⟨[], [], [], [], [], [1, 2, 4, 5], [1, 2], []⟩ (.c h1 (.c h2 (.c h3 .n))) (by kernel_rfl) (g_op_place_c0_ok S0 w0    a0.fKind (a0.fKind == (3 : Int)) a0 (T_api_Loc.mk (0 : Int) (0 : Int) (0 : Int)) r hf)
      · exact toK_g allOk Post.ends 17 [rz, rz, rz, rz, rz, rz] [false, false, false] ⟨[], [], [], [], [], [1, 2, 4, 5], [1, 2], []⟩ (.c h1 (.c h2 (.c h3 .n))) (by kernel_rfl) (g_op_place_c0_ok S0 w0    a0.fKind (a0.fKind == (4 : Int)) a0 (T_api_Loc.mk (0 : Int) (0 : Int) (0 : Int)) r hf)

def g_op_value_c0   (v5 : Int) (v6 : Bool) (b3 : T_api_Value) (b4 : T_api_Value) : Option T_api_Value :=
  bif v6 then
    some (T_api_Value.mk b3.fN (T_api_Peer.mk (T_api_End.mk (T_api_Addr.mk false (0 : Int) (0 : Int)) (0 : Int)) false (0 : Int) (T_api_Score.mk (0 : Int) (0 : Int)) (0 : Int) (0 : Int)) ([] : (List T_api_Ban)) ([] : (List T_api_Entry)))
  else
    bif (v5 == (3 : Int)) then
      some (T_api_Value.mk (0 : Int) (T_api_Peer.mk (T_api_End.mk (T_api_Addr.mk false (0 : Int) (0 : Int)) (0 : Int)) false (0 : Int) (T_api_Score.mk (0 : Int) (0 : Int)) (0 : Int) (0 : Int)) b3.fBans ([] : (List T_api_Entry)))
    else
      bif (v5 == (4 : Int)) then
        some (T_api_Value.mk (0 : Int) (T_api_Peer.mk (T_api_End.mk (T_api_Addr.mk false (0 : Int) (0 : Int)) (0 : Int)) false (0 : Int) (T_api_Score.mk (0 : Int) (0 : Int)) (0 : Int) (0 : Int)) ([] : (List T_api_Ban)) b3.fBook)
      else
        bif (v5 == (6 : Int)) then
          some (T_api_Value.mk (0 : Int) b3.fPeer ([] : (List T_api_Ban)) ([] : (List T_api_Entry)))
        else
          some (T_api_Value.mk (0 : Int) (T_api_Peer.mk (T_api_End.mk (T_api_Addr.mk false (0 : Int) (0 : Int)) (0 : Int)) false (0 : Int) (T_api_Score.mk (0 : Int) (0 : Int)) (0 : Int) (0 : Int)) ([] : (List T_api_Ban)) ([] : (List T_api_Entry)))

theorem g_op_value_c0_ok (S0 : Nat → Prop) (w0 : Start)   (v5 : Int) (v6 : Bool) (b3 : T_api_Value) (b4 : T_api_Value) (r : T_api_Value) (hf : g_op_value_c0   v5 v6 b3 b4 = some r) : Good Try.prog 29 S0 w0 (bodyPost Try.prog Try.f107 (Post S0 w0 (.agg (T_api_Value.c r)))) (at_ [1, 0, 1, 0, 1] (bodyOf Try.f107)) ⟨[(3, .one (.ptr 3 0)), (4, .one (.ptr 4 0)), (5, .one (.lit (.int .i64 v5))), (6, .one (.lit (.bool v6)))], [(3, .box [.lit (.int .i64 b3.fN), .lit (.bool b3.fPeer.fEnd.fAddr.fV6), .lit (.int .u64 b3.fPeer.fEnd.fAddr.fHi), .lit (.int .u64 b3.fPeer.fEnd.fAddr.fLo), .lit (.int .i64 b3.fPeer.fEnd.fPort), .lit (.bool b3.fPeer.fIn), .lit (.int .i64 b3.fPeer.fSince), .lit (.int .i64 b3.fPeer.fScore.fPoints), .lit (.int .i64 b3.fPeer.fScore.fAt), .lit (.int .i64 b3.fPeer.fPing), .lit (.int .i64 b3.fPeer.fWork), cL 5 T_api_Ban.c T_api_Ban.d b3.fBans, cL 7 T_api_Entry.c T_api_Entry.d b3.fBook]), (4, .box [.lit (.int .i64 b4.fN), .lit (.bool b4.fPeer.fEnd.fAddr.fV6), .lit (.int .u64 b4.fPeer.fEnd.fAddr.fHi), .lit (.int .u64 b4.fPeer.fEnd.fAddr.fLo), .lit (.int .i64 b4.fPeer.fEnd.fPort), .lit (.bool b4.fPeer.fIn), .lit (.int .i64 b4.fPeer.fSince), .lit (.int .i64 b4.fPeer.fScore.fPoints), .lit (.int .i64 b4.fPeer.fScore.fAt), .lit (.int .i64 b4.fPeer.fPing), .lit (.int .i64 b4.fPeer.fWork), cL 5 T_api_Ban.c T_api_Ban.d b4.fBans, cL 7 T_api_Entry.c T_api_Entry.d b4.fBook])]⟩ := by
  unfold g_op_value_c0 at hf
  rcases br_some hf with ⟨h2, hf⟩ | ⟨h2, hf⟩
  · replace hf := Option.some.inj hf
    subst hf
    exact toEnd_g allOk 3 [rz] [true] [] [(4, [(11, cL 5 T_api_Ban.c T_api_Ban.d []), (12, cL 7 T_api_Entry.c T_api_Entry.d [])])] [] (.c h2 .n) (by kernel_rfl) rfl
  · rcases br_some hf with ⟨h3, hf⟩ | ⟨h3, hf⟩
    · replace hf := Option.some.inj hf
      subst hf
      exact toEnd_g allOk 6 [rz, rz] [false, true] [] [(4, [(12, cL 7 T_api_Entry.c T_api_Entry.d [])])] [] (.c h2 (.c h3 .n)) (by kernel_rfl) rfl
    · rcases br_some hf with ⟨h4, hf⟩ | ⟨h4, hf⟩
      · replace hf := Option.some.inj hf
        subst hf
        exact toEnd_g allOk 9 [rz, rz, rz] [false, false, true] [] [(4, [(11, cL 5 T_api_Ban.c T_api_Ban.d [])])] [] (.c h2 (.c h3 (.c h4 .n))) (by kernel_rfl) rfl
      · rcases br_some hf with ⟨h5, hf⟩ | ⟨h5, hf⟩
        · replace hf := Option.some.inj hf
          subst hf
          exact toEnd_g allOk 12 [rz, rz, rz, rz] [false, false, false, true] [] [(4, [(11, cL 5 T_api_Ban.c T_api_Ban.d []), (12, cL 7 T_api_Entry.c T_api_Entry.d [])])] [] (.c h2 (.c h3 (.c h4 (.c h5 .n)))) (by kernel_rfl) rfl
        · replace hf := Option.some.inj hf
          subst hf
          exact toEnd_g allOk 14 [rz, rz, rz, rz] [false, false, false, false] [] [(4, [(11, cL 5 T_api_Ban.c T_api_Ban.d []), (12, cL 7 T_api_Entry.c T_api_Entry.d [])])] [] (.c h2 (.c h3 (.c h4 (.c h5 .n)))) (by kernel_rfl) rfl

/-- doorman/op.value -/
def g_op_value (a0 : Int) (a1 : T_api_Value) : Option T_api_Value :=
  bif (a0 == (1 : Int)) then
    g_op_value_c0   a0 (a0 == (1 : Int)) a1 (T_api_Value.mk (0 : Int) (T_api_Peer.mk (T_api_End.mk (T_api_Addr.mk false (0 : Int) (0 : Int)) (0 : Int)) false (0 : Int) (T_api_Score.mk (0 : Int) (0 : Int)) (0 : Int) (0 : Int)) ([] : (List T_api_Ban)) ([] : (List T_api_Entry)))
  else
    bif (a0 == (2 : Int)) then
      g_op_value_c0   a0 (a0 == (2 : Int)) a1 (T_api_Value.mk (0 : Int) (T_api_Peer.mk (T_api_End.mk (T_api_Addr.mk false (0 : Int) (0 : Int)) (0 : Int)) false (0 : Int) (T_api_Score.mk (0 : Int) (0 : Int)) (0 : Int) (0 : Int)) ([] : (List T_api_Ban)) ([] : (List T_api_Entry)))
    else
      g_op_value_c0   a0 (a0 == (5 : Int)) a1 (T_api_Value.mk (0 : Int) (T_api_Peer.mk (T_api_End.mk (T_api_Addr.mk false (0 : Int) (0 : Int)) (0 : Int)) false (0 : Int) (T_api_Score.mk (0 : Int) (0 : Int)) (0 : Int) (0 : Int)) ([] : (List T_api_Ban)) ([] : (List T_api_Entry)))

theorem g_op_value_ok (a0 : Int) (a1 : T_api_Value) (r : T_api_Value) (hf : g_op_value a0 a1 = some r) : SCall Try.prog 107 [.one (.lit (.int .i64 a0)), .agg (T_api_Value.c a1)] (.agg (T_api_Value.c r)) := by
  refine SCall.of Try.func107 rfl rfl rfl rfl fun S0 w0 => ?_
  unfold g_op_value at hf
  rcases br_some hf with ⟨h1, hf⟩ | ⟨h1, hf⟩
  · exact toK_g allOk Post.ends 11 [rz, rz, rz] [true] ⟨[], [(4, [(11, cL 5 T_api_Ban.c T_api_Ban.d []), (12, cL 7 T_api_Entry.c T_api_Entry.d [])])], [], [], [], [3, 4, 5, 6], [3, 4], []⟩ (.c h1 .n) (by kernel_rfl) (g_op_value_c0_ok S0 w0    a0 (a0 == (1 : Int)) a1 (T_api_Value.mk (0 : Int) (T_api_Peer.mk (T_api_End.mk (T_api_Addr.mk false (0 : Int) (0 : Int)) (0 : Int)) false (0 : Int) (T_api_Score.mk (0 : Int) (0 : Int)) (0 : Int) (0 : Int)) ([] : (List T_api_Ban)) ([] : (List T_api_Entry))) r hf)
  · rcases br_some hf with ⟨h2, hf⟩ | ⟨h2, hf⟩
    · exact toK_g allOk Post.ends 14 [rz, rz, rz, rz] [false, true] ⟨[], [(4, [(11, cL 5 T_api_Ban.c T_api_Ban.d []), (12, cL 7 T_api_Entry.c T_api_Entry.d [])])], [], [], [], [3, 4, 5, 6], [3, 4], []⟩ (.c h1 (.c h2 .n)) (by kernel_rfl) (g_op_value_c0_ok S0 w0    a0 (a0 == (2 : Int)) a1 (T_api_Value.mk (0 : Int) (T_api_Peer.mk (T_api_End.mk (T_api_Addr.mk false (0 : Int) (0 : Int)) (0 : Int)) false (0 : Int) (T_api_Score.mk (0 : Int) (0 : Int)) (0 : Int) (0 : Int)) ([] : (List T_api_Ban)) ([] : (List T_api_Entry))) r hf)
    · exact toK_g allOk Post.ends 14 [rz, rz, rz, rz, rz] [false, false] ⟨[], [(4, [(11, cL 5 T_api_Ban.c T_api_Ban.d []), (12, cL 7 T_api_Entry.c T_api_Entry.d [])])], [], [], [], [3, 4, 5, 6], [3, 4], []⟩ (.c h1 (.c h2 .n)) (by kernel_rfl) (g_op_value_c0_ok S0 w0    a0 (a0 == (5 : Int)) a1 (T_api_Value.mk (0 : Int) (T_api_Peer.mk (T_api_End.mk (T_api_Addr.mk false (0 : Int) (0 : Int)) (0 : Int)) false (0 : Int) (T_api_Score.mk (0 : Int) (0 : Int)) (0 : Int) (0 : Int)) ([] : (List T_api_Ban)) ([] : (List T_api_Entry))) r hf)

def g_op_Clean_c0   (v10 : Int) (v12 : Bool) (b1 : T_api_Op) (b2 : T_api_Op) (b3 : T_api_Op) : Option T_api_Op :=
  bif v12 then
    some (T_api_Op.mk b3.fKind b1.fLock b3.fLoc b3.fOld b3.fNew b3.fVal b3.fMark)
  else
    bif (v10 == (5 : Int)) then
      (g_op_place b1.fLoc).bind fun x1 =>
      some (T_api_Op.mk b3.fKind b3.fLock x1 b3.fOld b3.fNew b3.fVal b3.fMark)
    else
      bif (v10 == (6 : Int)) then
        (g_op_place b1.fLoc).bind fun x2 =>
        (g_op_value b1.fLoc.fKind b1.fVal).bind fun x3 =>
        some (T_api_Op.mk b3.fKind b3.fLock x2 b3.fOld b3.fNew x3 b3.fMark)
      else
        bif (v10 == (7 : Int)) then
          (g_op_place b1.fLoc).bind fun x4 =>
          some (T_api_Op.mk b3.fKind b3.fLock x4 b1.fOld b1.fNew b3.fVal b3.fMark)
        else
          bif (v10 == (8 : Int)) then
            some b3
          else
            some (T_api_Op.mk (0 : Int) (0 : Int) (T_api_Loc.mk (0 : Int) (0 : Int) (0 : Int)) (0 : Int) (0 : Int) (T_api_Value.mk (0 : Int) (T_api_Peer.mk (T_api_End.mk (T_api_Addr.mk false (0 : Int) (0 : Int)) (0 : Int)) false (0 : Int) (T_api_Score.mk (0 : Int) (0 : Int)) (0 : Int) (0 : Int)) ([] : (List T_api_Ban)) ([] : (List T_api_Entry))) false)

theorem g_op_Clean_c0_ok (S0 : Nat → Prop) (w0 : Start)   (v10 : Int) (v12 : Bool) (b1 : T_api_Op) (b2 : T_api_Op) (b3 : T_api_Op) (r : T_api_Op) (hf : g_op_Clean_c0   v10 v12 b1 b2 b3 = some r) : Good Try.prog 54 S0 w0 (bodyPost Try.prog Try.f105 (Post S0 w0 (.agg (T_api_Op.c r)))) (at_ [1, 1, 0, 1, 0, 1] (bodyOf Try.f105)) ⟨[(1, .one (.ptr 1 0)), (2, .one (.ptr 2 0)), (3, .one (.ptr 3 0)), (10, .one (.lit (.int .i64 v10))), (12, .one (.lit (.bool v12)))], [(1, .box [.lit (.int .i64 b1.fKind), .lit (.int .i64 b1.fLock), .lit (.int .i64 b1.fLoc.fKind), .lit (.int .i64 b1.fLoc.fShard), .lit (.int .i64 b1.fLoc.fSlot), .lit (.int .i64 b1.fOld), .lit (.int .i64 b1.fNew), .lit (.int .i64 b1.fVal.fN), .lit (.bool b1.fVal.fPeer.fEnd.fAddr.fV6), .lit (.int .u64 b1.fVal.fPeer.fEnd.fAddr.fHi), .lit (.int .u64 b1.fVal.fPeer.fEnd.fAddr.fLo), .lit (.int .i64 b1.fVal.fPeer.fEnd.fPort), .lit (.bool b1.fVal.fPeer.fIn), .lit (.int .i64 b1.fVal.fPeer.fSince), .lit (.int .i64 b1.fVal.fPeer.fScore.fPoints), .lit (.int .i64 b1.fVal.fPeer.fScore.fAt), .lit (.int .i64 b1.fVal.fPeer.fPing), .lit (.int .i64 b1.fVal.fPeer.fWork), cL 5 T_api_Ban.c T_api_Ban.d b1.fVal.fBans, cL 7 T_api_Entry.c T_api_Entry.d b1.fVal.fBook, .lit (.bool b1.fMark)]), (2, .box [.lit (.int .i64 b2.fKind), .lit (.int .i64 b2.fLock), .lit (.int .i64 b2.fLoc.fKind), .lit (.int .i64 b2.fLoc.fShard), .lit (.int .i64 b2.fLoc.fSlot), .lit (.int .i64 b2.fOld), .lit (.int .i64 b2.fNew), .lit (.int .i64 b2.fVal.fN), .lit (.bool b2.fVal.fPeer.fEnd.fAddr.fV6), .lit (.int .u64 b2.fVal.fPeer.fEnd.fAddr.fHi), .lit (.int .u64 b2.fVal.fPeer.fEnd.fAddr.fLo), .lit (.int .i64 b2.fVal.fPeer.fEnd.fPort), .lit (.bool b2.fVal.fPeer.fIn), .lit (.int .i64 b2.fVal.fPeer.fSince), .lit (.int .i64 b2.fVal.fPeer.fScore.fPoints), .lit (.int .i64 b2.fVal.fPeer.fScore.fAt), .lit (.int .i64 b2.fVal.fPeer.fPing), .lit (.int .i64 b2.fVal.fPeer.fWork), cL 5 T_api_Ban.c T_api_Ban.d b2.fVal.fBans, cL 7 T_api_Entry.c T_api_Entry.d b2.fVal.fBook, .lit (.bool b2.fMark)]), (3, .box [.lit (.int .i64 b3.fKind), .lit (.int .i64 b3.fLock), .lit (.int .i64 b3.fLoc.fKind), .lit (.int .i64 b3.fLoc.fShard), .lit (.int .i64 b3.fLoc.fSlot), .lit (.int .i64 b3.fOld), .lit (.int .i64 b3.fNew), .lit (.int .i64 b3.fVal.fN), .lit (.bool b3.fVal.fPeer.fEnd.fAddr.fV6), .lit (.int .u64 b3.fVal.fPeer.fEnd.fAddr.fHi), .lit (.int .u64 b3.fVal.fPeer.fEnd.fAddr.fLo), .lit (.int .i64 b3.fVal.fPeer.fEnd.fPort), .lit (.bool b3.fVal.fPeer.fIn), .lit (.int .i64 b3.fVal.fPeer.fSince), .lit (.int .i64 b3.fVal.fPeer.fScore.fPoints), .lit (.int .i64 b3.fVal.fPeer.fScore.fAt), .lit (.int .i64 b3.fVal.fPeer.fPing), .lit (.int .i64 b3.fVal.fPeer.fWork), cL 5 T_api_Ban.c T_api_Ban.d b3.fVal.fBans, cL 7 T_api_Entry.c T_api_Entry.d b3.fVal.fBook, .lit (.bool b3.fMark)])]⟩ := by
  unfold g_op_Clean_c0 at hf
  rcases br_some hf with ⟨h2, hf⟩ | ⟨h2, hf⟩
  · replace hf := Option.some.inj hf
    subst hf
    exact toEnd_g allOk 5 [rz, rz] [true] [] [] [] (.c h2 .n) (by kernel_rfl) rfl
  · rcases br_some hf with ⟨h3, hf⟩ | ⟨h3, hf⟩
    · obtain ⟨x1, q4, hf⟩ := bind_some' hf
      replace hf := Option.some.inj hf
      subst hf
      exact toEnd_g allOk 8 [rz, rA [(2, aG (T_api_Loc.c x1))], rz] [false, true] [] [] [] (.c h2 (.c h3 (.c (g_op_place_ok b1.fLoc x1 q4) .n))) (by kernel_rfl) rfl
    · rcases br_some hf with ⟨h5, hf⟩ | ⟨h5, hf⟩
      · obtain ⟨x2, q6, hf⟩ := bind_some' hf
        obtain ⟨x3, q7, hf⟩ := bind_some' hf
        replace hf := Option.some.inj hf
        subst hf
        exact toEnd_g allOk 11 [rz, rz, rA [(2, aG (T_api_Loc.c x2)), (8, aG (T_api_Value.c x3))], rz] [false, false, true] [] [] [] (.c h2 (.c h3 (.c h5 (.c (g_op_place_ok b1.fLoc x2 q6) (.c (g_op_value_ok b1.fLoc.fKind b1.fVal x3 q7) .n))))) (by kernel_rfl) rfl
      · rcases br_some hf with ⟨h8, hf⟩ | ⟨h8, hf⟩
        · obtain ⟨x4, q9, hf⟩ := bind_some' hf
          replace hf := Option.some.inj hf
          subst hf
          exact toEnd_g allOk 14 [rz, rz, rz, rA [(2, aG (T_api_Loc.c x4))], rz] [false, false, false, true] [] [] [] (.c h2 (.c h3 (.c h5 (.c h8 (.c (g_op_place_ok b1.fLoc x4 q9) .n))))) (by kernel_rfl) rfl
        · rcases br_some hf with ⟨h10, hf⟩ | ⟨h10, hf⟩
          · replace hf := Option.some.inj hf
            subst hf
            exact toEnd_g allOk 17 [rz, rz, rz, rz, rz] [false, false, false, false, true] [] [] [] (.c h2 (.c h3 (.c h5 (.c h8 (.c h10 .n))))) (by kernel_rfl) rfl
          · replace hf := Option.some.inj hf
            subst hf
            exact toEnd_g allOk 15 [rz, rz, rz, rz, rz] [false, false, false, false, false] [] [(2, [(18, cL 5 T_api_Ban.c T_api_Ban.d []), (19, cL 7 T_api_Entry.c T_api_Entry.d [])])] [] (.c h2 (.c h3 (.c h5 (.c h8 (.c h10 .n))))) (by kernel_rfl) rfl

/-- doorman/op.Clean -/
def g_op_Clean (a0 : T_api_Op) : Option T_api_Op :=
  bif (a0.fKind == (1 : Int)) then
    g_op_Clean_c0   a0.fKind (a0.fKind == (1 : Int)) a0 (T_api_Op.mk (0 : Int) (0 : Int) (T_api_Loc.mk (0 : Int) (0 : Int) (0 : Int)) (0 : Int) (0 : Int) (T_api_Value.mk (0 : Int) (T_api_Peer.mk (T_api_End.mk (T_api_Addr.mk false (0 : Int) (0 : Int)) (0 : Int)) false (0 : Int) (T_api_Score.mk (0 : Int) (0 : Int)) (0 : Int) (0 : Int)) ([] : (List T_api_Ban)) ([] : (List T_api_Entry))) false) (T_api_Op.mk a0.fKind (0 : Int) (T_api_Loc.mk (0 : Int) (0 : Int) (0 : Int)) (0 : Int) (0 : Int) (T_api_Value.mk (0 : Int) (T_api_Peer.mk (T_api_End.mk (T_api_Addr.mk false (0 : Int) (0 : Int)) (0 : Int)) false (0 : Int) (T_api_Score.mk (0 : Int) (0 : Int)) (0 : Int) (0 : Int)) ([] : (List T_api_Ban)) ([] : (List T_api_Entry))) a0.fMark)
  else
    bif (a0.fKind == (2 : Int)) then
      g_op_Clean_c0   a0.fKind (a0.fKind == (2 : Int)) a0 (T_api_Op.mk (0 : Int) (0 : Int) (T_api_Loc.mk (0 : Int) (0 : Int) (0 : Int)) (0 : Int) (0 : Int) (T_api_Value.mk (0 : Int) (T_api_Peer.mk (T_api_End.mk (T_api_Addr.mk false (0 : Int) (0 : Int)) (0 : Int)) false (0 : Int) (T_api_Score.mk (0 : Int) (0 : Int)) (0 : Int) (0 : Int)) ([] : (List T_api_Ban)) ([] : (List T_api_Entry))) false) (T_api_Op.mk a0.fKind (0 : Int) (T_api_Loc.mk (0 : Int) (0 : Int) (0 : Int)) (0 : Int) (0 : Int) (T_api_Value.mk (0 : Int) (T_api_Peer.mk (T_api_End.mk (T_api_Addr.mk false (0 : Int) (0 : Int)) (0 : Int)) false (0 : Int) (T_api_Score.mk (0 : Int) (0 : Int)) (0 : Int) (0 : Int)) ([] : (List T_api_Ban)) ([] : (List T_api_Entry))) a0.fMark)
    else
      bif (a0.fKind == (3 : Int)) then
        g_op_Clean_c0   a0.fKind (a0.fKind == (3 : Int)) a0 (T_api_Op.mk (0 : Int) (0 : Int) (T_api_Loc.mk (0 : Int) (0 : Int) (0 : Int)) (0 : Int) (0 : Int) (T_api_Value.mk (0 : Int) (T_api_Peer.mk (T_api_End.mk (T_api_Addr.mk false (0 : Int) (0 : Int)) (0 : Int)) false (0 : Int) (T_api_Score.mk (0 : Int) (0 : Int)) (0 : Int) (0 : Int)) ([] : (List T_api_Ban)) ([] : (List T_api_Entry))) false) (T_api_Op.mk a0.fKind (0 : Int) (T_api_Loc.mk (0 : Int) (0 : Int) (0 : Int)) (0 : Int) (0 : Int) (T_api_Value.mk (0 : Int) (T_api_Peer.mk (T_api_End.mk (T_api_Addr.mk false (0 : Int) (0 : Int)) (0 : Int)) false (0 : Int) (T_api_Score.mk (0 : Int) (0 : Int)) (0 : Int) (0 : Int)) ([] : (List T_api_Ban)) ([] : (List T_api_Entry))) a0.fMark)
      else
        g_op_Clean_c0   a0.fKind (a0.fKind == (4 : Int)) a0 (T_api_Op.mk (0 : Int) (0 : Int) (T_api_Loc.mk (0 : Int) (0 : Int) (0 : Int)) (0 : Int) (0 : Int) (T_api_Value.mk (0 : Int) (T_api_Peer.mk (T_api_End.mk (T_api_Addr.mk false (0 : Int) (0 : Int)) (0 : Int)) false (0 : Int) (T_api_Score.mk (0 : Int) (0 : Int)) (0 : Int) (0 : Int)) ([] : (List T_api_Ban)) ([] : (List T_api_Entry))) false) (T_api_Op.mk a0.fKind (0 : Int) (T_api_Loc.mk (0 : Int) (0 : Int) (0 : Int)) (0 : Int) (0 : Int) (T_api_Value.mk (0 : Int) (T_api_Peer.mk (T_api_End.mk (T_api_Addr.mk false (0 : Int) (0 : Int)) (0 : Int)) false (0 : Int) (T_api_Score.mk (0 : Int) (0 : Int)) (0 : Int) (0 : Int)) ([] : (List T_api_Ban)) ([] : (List T_api_Entry))) a0.fMark)

theorem g_op_Clean_ok (a0 : T_api_Op) (r : T_api_Op) (hf : g_op_Clean a0 = some r) : SCall Try.prog 105 [.agg (T_api_Op.c a0)] (.agg (T_api_Op.c r)) := by
  refine SCall.of Try.func105 rfl rfl rfl rfl fun S0 w0 => ?_
  unfold g_op_Clean at hf
  rcases br_some hf with ⟨h1, hf⟩ | ⟨h1, hf⟩
  · exact toK_g allOk Post.ends 13 [rz, rz, rz, rz] [true] ⟨[], [(2, [(18, cL 5 T_api_Ban.c T_api_Ban.d []), (19, cL 7 T_api_Entry.c T_api_Entry.d [])]), (3, [(18, cL 5 T_api_Ban.c T_api_Ban.d []), (19, cL 7 T_api_Entry.c T_api_Entry.d [])])], [], [], [], [1, 2, 3, 10, 12], [1, 2, 3], []⟩ (.c h1 .n) (by kernel_rfl) (g_op_Clean_c0_ok S0 w0    a0.fKind (a0.fKind == (1 : Int)) a0 (T_api_Op.mk (0 : Int) (0 : Int) (T_api_Loc.mk (0 : Int) (0 : Int) (0 : Int)) (0 : Int) (0 : Int) (T_api_Value.mk (0 : Int) (T_api_Peer.mk (T_api_End.mk (T_api_Addr.mk false (0 : Int) (0 : Int)) (0 : Int)) false (0 : Int) (T_api_Score.mk (0 : Int) (0 : Int)) (0 : Int) (0 : Int)) ([] : (List T_api_Ban)) ([] : (List T_api_Entry))) false) (T_api_Op.mk a0.fKind (0 : Int) (T_api_Loc.mk (0 : Int) (0 : Int) (0 : Int)) (0 : Int) (0 : Int) (T_api_Value.mk (0 : Int) (T_api_Peer.mk (T_api_End.mk (T_api_Addr.mk false (0 : Int) (0 : Int)) (0 : Int)) false (0 : Int) (T_api_Score.mk (0 : Int) (0 : Int)) (0 : Int) (0 : Int)) ([] : (List T_api_Ban)) ([] : (List T_api_Entry))) a0.fMark) r hf)
  · rcases br_some hf with ⟨h2, hf⟩ | ⟨h2, hf⟩
    · exact toK_g allOk Post.ends 16 [rz, rz, rz, rz, rz] [false, true] ⟨[], [(2, [(18, cL 5 T_api_Ban.c T_api_Ban.d []), (19, cL 7 T_api_Entry.c T_api_Entry.d [])]), (3, [(18, cL 5 T_api_Ban.c T_api_Ban.d []), (19, cL 7 T_api_Entry.c T_api_Entry.d [])])], [], [], [], [1, 2, 3, 10, 12], [1, 2, 3], []⟩ (.c h1 (.c h2 .n)) (by kernel_rfl) (g_op_Clean_c0_ok S0 w0    a0.fKind (a0.fKind == (2 : Int)) a0 (T_api_Op.mk (0 : Int) (0 : Int) (T_api_Loc.mk (0 : Int) (0 : Int) (0 : Int)) (0 : Int) (0 : Int) (T_api_Value.mk (0 : Int) (T_api_Peer.mk (T_api_End.mk (T_api_Addr.mk false (0 : Int) (0 : Int)) (0 : Int)) false (0 : Int) (T_api_Score.mk (0 : Int) (0 : Int)) (0 : Int) (0 : Int)) ([] : (List T_api_Ban)) ([] : (List T_api_Entry))) false) (T_api_Op.mk a0.fKind (0 : Int) (T_api_Loc.mk (0 : Int) (0 : Int) (0 : Int)) (0 : Int) (0 : Int) (T_api_Value.mk (0 : Int) (T_api_Peer.mk (T_api_End.mk (T_api_Addr.mk false (0 : Int) (0 : Int)) (0 : Int)) false (0 : Int) (T_api_Score.mk (0 : Int) (0 : Int)) (0 : Int) (0 : Int)) ([] : (List T_api_Ban)) ([] : (List T_api_Entry))) a0.fMark) r hf)
    · rcases br_some hf with ⟨h3, hf⟩ | ⟨h3, hf⟩
      · exact toK_g allOk Post.ends 19 [rz, rz, rz, rz, rz, rz] [false, false, true] ⟨[], [(2, [(18, cL 5 T_api_Ban.c T_api_Ban.d []), (19, cL 7 T_api_Entry.c T_api_Entry.d [])]), (3, [(18, cL 5 T_api_Ban.c T_api_Ban.d []), (19, cL 7 T_api_Entry.c T_api_Entry.d [])])], [], [], [], [1, 2, 3, 10, 12], [1, 2, 3], []⟩ (.c h1 (.c h2 (.c h3 .n))) (by kernel_rfl) (g_op_Clean_c0_ok S0 w0    a0.fKind (a0.fKind == (3 : Int)) a0 (T_api_Op.mk (0 : Int) (0 : Int) (T_api_Loc.mk (0 : Int) (0 : Int) (0 : Int)) (0 : Int) (0 : Int) (T_api_Value.mk (0 : Int) (T_api_Peer.mk (T_api_End.mk (T_api_Addr.mk false (0 : Int) (0 : Int)) (0 : Int)) false (0 : Int) (T_api_Score.mk (0 : Int) (0 : Int)) (0 : Int) (0 : Int)) ([] : (List T_api_Ban)) ([] : (List T_api_Entry))) false) (T_api_Op.mk a0.fKind (0 : Int) (T_api_Loc.mk (0 : Int) (0 : Int) (0 : Int)) (0 : Int) (0 : Int) (T_api_Value.mk (0 : Int) (T_api_Peer.mk (T_api_End.mk (T_api_Addr.mk false (0 : Int) (0 : Int)) (0 : Int)) false (0 : Int) (T_api_Score.mk (0 : Int) (0 : Int)) (0 : Int) (0 : Int)) ([] : (List T_api_Ban)) ([] : (List T_api_Entry))) a0.fMark) r hf)
      · exact toK_g allOk Post.ends 19 [rz, rz, rz, rz, rz, rz, rz] [false, false, false] ⟨[], [(2, [(18, cL 5 T_api_Ban.c T_api_Ban.d []), (19, cL 7 T_api_Entry.c T_api_Entry.d [])]), (3, [(18, cL 5 T_api_Ban.c T_api_Ban.d []), (19, cL 7 T_api_Entry.c T_api_Entry.d [])])], [], [], [], [1, 2, 3, 10, 12], [1, 2, 3], []⟩ (.c h1 (.c h2 (.c h3 .n))) (by kernel_rfl) (g_op_Clean_c0_ok S0 w0    a0.fKind (a0.fKind == (4 : Int)) a0 (T_api_Op.mk (0 : Int) (0 : Int) (T_api_Loc.mk (0 : Int) (0 : Int) (0 : Int)) (0 : Int) (0 : Int) (T_api_Value.mk (0 : Int) (T_api_Peer.mk (T_api_End.mk (T_api_Addr.mk false (0 : Int) (0 : Int)) (0 : Int)) false (0 : Int) (T_api_Score.mk (0 : Int) (0 : Int)) (0 : Int) (0 : Int)) ([] : (List T_api_Ban)) ([] : (List T_api_Entry))) false) (T_api_Op.mk a0.fKind (0 : Int) (T_api_Loc.mk (0 : Int) (0 : Int) (0 : Int)) (0 : Int) (0 : Int) (T_api_Value.mk (0 : Int) (T_api_Peer.mk (T_api_End.mk (T_api_Addr.mk false (0 : Int) (0 : Int)) (0 : Int)) false (0 : Int) (T_api_Score.mk (0 : Int) (0 : Int)) (0 : Int) (0 : Int)) ([] : (List T_api_Ban)) ([] : (List T_api_Entry))) a0.fMark) r hf)

/-- (*doorman/tape.tape).ask -/
def g_tape_tape_ask (a0 : T_tape_tape) (a1 : T_api_Op) : Option (Tout T_api_Value) :=
  bif (((a0.fgot.length : Nat) : Int) == (0 : Int)) then
    (g_op_Clean a1).bind fun x1 =>
    some (Tout.pan x1)
  else
    need (0 ≤ (0 : Int) ∧ (0 : Int) < ((a0.fgot.length : Nat) : Int)) <|
    need (0 ≤ (1 : Int) ∧ (1 : Int) ≤ ((a0.fgot.length : Nat) : Int)) <|
    some (Tout.ret (a0.fgot.getD (0 : Int).toNat T_api_Value.d) (T_tape_tape.mk (a0.fgot.drop (1 : Int).toNat)))

theorem g_tape_tape_ask_own (a0 : T_tape_tape) (a1 : T_api_Op) (r : (Tout T_api_Value)) (hf : g_tape_tape_ask a0 a1 = some r) : OCall Try.prog 104 [(100000, .box (T_tape_tape.c a0))] [.one (.ptr 100000 0), .agg (T_api_Op.c a1)] (oc (fun x => .agg (T_api_Value.c x)) r) := by
  refine OCall.of Try.func104 rfl rfl rfl rfl fun S0 w0 => ?_
  unfold g_tape_tape_ask at hf
  rcases br_some hf with ⟨h1, hf⟩ | ⟨h1, hf⟩
  · obtain ⟨x1, q2, hf⟩ := bind_some' hf
    replace hf := Option.some.inj hf
    subst hf
    exact toPan_good allOk 6 _ _ [rz, rz] [true] (rA [(1, aG (T_api_Op.c x1))]) 4 ⟨[], .one .junk⟩ (.c h1 (.c (g_op_Clean_ok a1 x1 q2) (.c (show Try.prog.concrete 104 = true from (by kernel_rfl)) .n))) (by kernel_rfl)
  · obtain ⟨o3, hf⟩ := need_some hf
    obtain ⟨o4, hf⟩ := need_some hf
    replace hf := Option.some.inj hf
    subst hf
    exact toEndO_g allOk 13 [rz, rz, rz, ⟨[], [], [], [], [], [(5, ((a0.fgot.drop (1 : Int).toNat).length, rowsOf T_api_Value.c T_api_Value.d (a0.fgot.drop (1 : Int).toNat)))], []⟩, rz] [false] ⟨[], [], [], [], [], [4], [4, 100000], []⟩ [100000] (.c h1 (.c o3 (.c (show (a0.fgot.drop (1 : Int).toNat).length = a0.fgot.length - (1 : Int).toNat ∧ ∀ i j, i < a0.fgot.length - (1 : Int).toNat → j < 13 → rowsOf T_api_Value.c T_api_Value.d (a0.fgot.drop (1 : Int).toNat) i j = rowsOf T_api_Value.c T_api_Value.d a0.fgot ((1 : Int).toNat + i) j from (piece_drop _ _)) (.c o4 .n)))) (by kernel_rfl)

/-- (*doorman/tape.tape).Lock -/
def g_tape_tape_Lock (a0 : T_tape_tape) (a1 : Int) (a2 : Bool) : Option (Tout Unit) :=
  (g_tape_tape_ask a0 (T_api_Op.mk (1 : Int) a1 (T_api_Loc.mk (0 : Int) (0 : Int) (0 : Int)) (0 : Int) (0 : Int) (T_api_Value.mk (0 : Int) (T_api_Peer.mk (T_api_End.mk (T_api_Addr.mk false (0 : Int) (0 : Int)) (0 : Int)) false (0 : Int) (T_api_Score.mk (0 : Int) (0 : Int)) (0 : Int) (0 : Int)) ([] : (List T_api_Ban)) ([] : (List T_api_Entry))) a2)).bind fun x1 =>
  (match x1 with
  | .ret x1v x1g =>
    some (Tout.ret () x1g)
  | .pan x1o =>
    some (Tout.pan x1o)
  | .bad x1s =>
    some (Tout.bad x1s))

theorem g_tape_tape_Lock_own (a0 : T_tape_tape) (a1 : Int) (a2 : Bool) (r : (Tout Unit)) (hf : g_tape_tape_Lock a0 a1 a2 = some r) : OCall Try.prog 99 [(100000, .box (T_tape_tape.c a0))] [.one (.ptr 100000 0), .one (.lit (.int .i64 a1)), .one (.lit (.bool a2))] (oc (fun x => .tup []) r) := by
  refine OCall.of Try.func99 rfl rfl rfl rfl fun S0 w0 => ?_
  unfold g_tape_tape_Lock at hf
  obtain ⟨x1, q1, hf⟩ := bind_some' hf
  cases x1 with
  | ret x1v x1g =>
    dsimp only at hf
    replace hf := Option.some.inj hf
    subst hf
    exact toEndO_g allOk 1 [⟨[], [], [], [], [(3, [(18, cL 5 T_api_Ban.c T_api_Ban.d []), (19, cL 7 T_api_Entry.c T_api_Entry.d [])])], [], [(4, ⟨[(100000, 100000)], [], [(100000, .box (T_tape_tape.c x1g))], .agg (T_api_Value.c x1v)⟩)]⟩] [] ⟨[], [], [], [], [], [], [100000], []⟩ [100000] (.c (g_tape_tape_ask_own a0 (T_api_Op.mk (1 : Int) a1 (T_api_Loc.mk (0 : Int) (0 : Int) (0 : Int)) (0 : Int) (0 : Int) (T_api_Value.mk (0 : Int) (T_api_Peer.mk (T_api_End.mk (T_api_Addr.mk false (0 : Int) (0 : Int)) (0 : Int)) false (0 : Int) (T_api_Score.mk (0 : Int) (0 : Int)) (0 : Int) (0 : Int)) ([] : (List T_api_Ban)) ([] : (List T_api_Entry))) a2) (.ret x1v x1g) q1) .n) (by kernel_rfl)
  | pan x1o =>
    dsimp only at hf
    replace hf := Option.some.inj hf
    subst hf
    exact toPan_good allOk 0 _ _ [] [] (⟨[], [], [], [], [(3, [(18, cL 5 T_api_Ban.c T_api_Ban.d []), (19, cL 7 T_api_Entry.c T_api_Entry.d [])])], [], []⟩) 4 ⟨[(100000, 100000)], .one (.ifa 104 21 (fun i => (T_api_Op.c x1o).getD i .junk))⟩ (.c (g_tape_tape_ask_own a0 (T_api_Op.mk (1 : Int) a1 (T_api_Loc.mk (0 : Int) (0 : Int) (0 : Int)) (0 : Int) (0 : Int) (T_api_Value.mk (0 : Int) (T_api_Peer.mk (T_api_End.mk (T_api_Addr.mk false (0 : Int) (0 : Int)) (0 : Int)) false (0 : Int) (T_api_Score.mk (0 : Int) (0 : Int)) (0 : Int) (0 : Int)) ([] : (List T_api_Ban)) ([] : (List T_api_Entry))) a2) (.pan x1o) q1) .n) (by kernel_rfl)
  | bad x1s =>
    dsimp only at hf
    replace hf := Option.some.inj hf
    subst hf
    exact toPan_good allOk 0 _ _ [] [] (⟨[], [], [], [], [(3, [(18, cL 5 T_api_Ban.c T_api_Ban.d []), (19, cL 7 T_api_Entry.c T_api_Entry.d [])])], [], []⟩) 4 ⟨[(100000, 100000)], .one (.ifc 9 (.lit (.string x1s)))⟩ (.c (g_tape_tape_ask_own a0 (T_api_Op.mk (1 : Int) a1 (T_api_Loc.mk (0 : Int) (0 : Int) (0 : Int)) (0 : Int) (0 : Int) (T_api_Value.mk (0 : Int) (T_api_Peer.mk (T_api_End.mk (T_api_Addr.mk false (0 : Int) (0 : Int)) (0 : Int)) false (0 : Int) (T_api_Score.mk (0 : Int) (0 : Int)) (0 : Int) (0 : Int)) ([] : (List T_api_Ban)) ([] : (List T_api_Entry))) a2) (.bad x1s) q1) .n) (by kernel_rfl)

/-- (*doorman/tape.tape).Share -/
def g_tape_tape_Share (a0 : T_tape_tape) (a1 : Int) (a2 : Bool) : Option (Tout Unit) :=
  (g_tape_tape_ask a0 (T_api_Op.mk (2 : Int) a1 (T_api_Loc.mk (0 : Int) (0 : Int) (0 : Int)) (0 : Int) (0 : Int) (T_api_Value.mk (0 : Int) (T_api_Peer.mk (T_api_End.mk (T_api_Addr.mk false (0 : Int) (0 : Int)) (0 : Int)) false (0 : Int) (T_api_Score.mk (0 : Int) (0 : Int)) (0 : Int) (0 : Int)) ([] : (List T_api_Ban)) ([] : (List T_api_Entry))) a2)).bind fun x1 =>
  (match x1 with
  | .ret x1v x1g =>
    some (Tout.ret () x1g)
  | .pan x1o =>
    some (Tout.pan x1o)
  | .bad x1s =>
    some (Tout.bad x1s))

theorem g_tape_tape_Share_own (a0 : T_tape_tape) (a1 : Int) (a2 : Bool) (r : (Tout Unit)) (hf : g_tape_tape_Share a0 a1 a2 = some r) : OCall Try.prog 101 [(100000, .box (T_tape_tape.c a0))] [.one (.ptr 100000 0), .one (.lit (.int .i64 a1)), .one (.lit (.bool a2))] (oc (fun x => .tup []) r) := by
  refine OCall.of Try.func101 rfl rfl rfl rfl fun S0 w0 => ?_
  unfold g_tape_tape_Share at hf
  obtain ⟨x1, q1, hf⟩ := bind_some' hf
  cases x1 with
  | ret x1v x1g =>
    dsimp only at hf
    replace hf := Option.some.inj hf
    subst hf
    exact toEndO_g allOk 1 [⟨[], [], [], [], [(3, [(18, cL 5 T_api_Ban.c T_api_Ban.d []), (19, cL 7 T_api_Entry.c T_api_Entry.d [])])], [], [(4, ⟨[(100000, 100000)], [], [(100000, .box (T_tape_tape.c x1g))], .agg (T_api_Value.c x1v)⟩)]⟩] [] ⟨[], [], [], [], [], [], [100000], []⟩ [100000] (.c (g_tape_tape_ask_own a0 (T_api_Op.mk (2 : Int) a1 (T_api_Loc.mk (0 : Int) (0 : Int) (0 : Int)) (0 : Int) (0 : Int) (T_api_Value.mk (0 : Int) (T_api_Peer.mk (T_api_End.mk (T_api_Addr.mk false (0 : Int) (0 : Int)) (0 : Int)) false (0 : Int) (T_api_Score.mk (0 : Int) (0 : Int)) (0 : Int) (0 : Int)) ([] : (List T_api_Ban)) ([] : (List T_api_Entry))) a2) (.ret x1v x1g) q1) .n) (by kernel_rfl)
  | pan x1o =>
    dsimp only at hf
    replace hf := Option.some.inj hf
    subst hf
    exact toPan_good allOk 0 _ _ [] [] (⟨[], [], [], [], [(3, [(18, cL 5 T_api_Ban.c T_api_Ban.d []), (19, cL 7 T_api_Entry.c T_api_Entry.d [])])], [], []⟩) 4 ⟨[(100000, 100000)], .one (.ifa 104 21 (fun i => (T_api_Op.c x1o).getD i .junk))⟩ (.c (g_tape_tape_ask_own a0 (T_api_Op.mk (2 : Int) a1 (T_api_Loc.mk (0 : Int) (0 : Int) (0 : Int)) (0 : Int) (0 : Int) (T_api_Value.mk (0 : Int) (T_api_Peer.mk (T_api_End.mk (T_api_Addr.mk false (0 : Int) (0 : Int)) (0 : Int)) false (0 : Int) (T_api_Score.mk (0 : Int) (0 : Int)) (0 : Int) (0 : Int)) ([] : (List T_api_Ban)) ([] : (List T_api_Entry))) a2) (.pan x1o) q1) .n) (by kernel_rfl)
  | bad x1s =>
    dsimp only at hf
    replace hf := Option.some.inj hf
    subst hf
    exact toPan_good allOk 0 _ _ [] [] (⟨[], [], [], [], [(3, [(18, cL 5 T_api_Ban.c T_api_Ban.d []), (19, cL 7 T_api_Entry.c T_api_Entry.d [])])], [], []⟩) 4 ⟨[(100000, 100000)], .one (.ifc 9 (.lit (.string x1s)))⟩ (.c (g_tape_tape_ask_own a0 (T_api_Op.mk (2 : Int) a1 (T_api_Loc.mk (0 : Int) (0 : Int) (0 : Int)) (0 : Int) (0 : Int) (T_api_Value.mk (0 : Int) (T_api_Peer.mk (T_api_End.mk (T_api_Addr.mk false (0 : Int) (0 : Int)) (0 : Int)) false (0 : Int) (T_api_Score.mk (0 : Int) (0 : Int)) (0 : Int) (0 : Int)) ([] : (List T_api_Ban)) ([] : (List T_api_Entry))) a2) (.bad x1s) q1) .n) (by kernel_rfl)

/-- (*doorman/tape.tape).Free -/
def g_tape_tape_Free (a0 : T_tape_tape) (a1 : Int) (a2 : Bool) : Option (Tout Unit) :=
  (g_tape_tape_ask a0 (T_api_Op.mk (3 : Int) a1 (T_api_Loc.mk (0 : Int) (0 : Int) (0 : Int)) (0 : Int) (0 : Int) (T_api_Value.mk (0 : Int) (T_api_Peer.mk (T_api_End.mk (T_api_Addr.mk false (0 : Int) (0 : Int)) (0 : Int)) false (0 : Int) (T_api_Score.mk (0 : Int) (0 : Int)) (0 : Int) (0 : Int)) ([] : (List T_api_Ban)) ([] : (List T_api_Entry))) a2)).bind fun x1 =>
  (match x1 with
  | .ret x1v x1g =>
    some (Tout.ret () x1g)
  | .pan x1o =>
    some (Tout.pan x1o)
  | .bad x1s =>
    some (Tout.bad x1s))

theorem g_tape_tape_Free_own (a0 : T_tape_tape) (a1 : Int) (a2 : Bool) (r : (Tout Unit)) (hf : g_tape_tape_Free a0 a1 a2 = some r) : OCall Try.prog 97 [(100000, .box (T_tape_tape.c a0))] [.one (.ptr 100000 0), .one (.lit (.int .i64 a1)), .one (.lit (.bool a2))] (oc (fun x => .tup []) r) := by
  refine OCall.of Try.func97 rfl rfl rfl rfl fun S0 w0 => ?_
  unfold g_tape_tape_Free at hf
  obtain ⟨x1, q1, hf⟩ := bind_some' hf
  cases x1 with
  | ret x1v x1g =>
    dsimp only at hf
    replace hf := Option.some.inj hf
    subst hf
    exact toEndO_g allOk 1 [⟨[], [], [], [], [(3, [(18, cL 5 T_api_Ban.c T_api_Ban.d []), (19, cL 7 T_api_Entry.c T_api_Entry.d [])])], [], [(4, ⟨[(100000, 100000)], [], [(100000, .box (T_tape_tape.c x1g))], .agg (T_api_Value.c x1v)⟩)]⟩] [] ⟨[], [], [], [], [], [], [100000], []⟩ [100000] (.c (g_tape_tape_ask_own a0 (T_api_Op.mk (3 : Int) a1 (T_api_Loc.mk (0 : Int) (0 : Int) (0 : Int)) (0 : Int) (0 : Int) (T_api_Value.mk (0 : Int) (T_api_Peer.mk (T_api_End.mk (T_api_Addr.mk false (0 : Int) (0 : Int)) (0 : Int)) false (0 : Int) (T_api_Score.mk (0 : Int) (0 : Int)) (0 : Int) (0 : Int)) ([] : (List T_api_Ban)) ([] : (List T_api_Entry))) a2) (.ret x1v x1g) q1) .n) (by kernel_rfl)
  | pan x1o =>
    dsimp only at hf
    replace hf := Option.some.inj hf
    subst hf
    exact toPan_good allOk 0 _ _ [] [] (⟨[], [], [], [], [(3, [(18, cL 5 T_api_Ban.c T_api_Ban.d []), (19, cL 7 T_api_Entry.c T_api_Entry.d [])])], [], []⟩) 4 ⟨[(100000, 100000)], .one (.ifa 104 21 (fun i => (T_api_Op.c x1o).getD i .junk))⟩ (.c (g_tape_tape_ask_own a0 (T_api_Op.mk (3 : Int) a1 (T_api_Loc.mk (0 : Int) (0 : Int) (0 : Int)) (0 : Int) (0 : Int) (T_api_Value.mk (0 : Int) (T_api_Peer.mk (T_api_End.mk (T_api_Addr.mk false (0 : Int) (0 : Int)) (0 : Int)) false (0 : Int) (T_api_Score.mk (0 : Int) (0 : Int)) (0 : Int) (0 : Int)) ([] : (List T_api_Ban)) ([] : (List T_api_Entry))) a2) (.pan x1o) q1) .n) (by kernel_rfl)
  | bad x1s =>
    dsimp only at hf
    replace hf := Option.some.inj hf
    subst hf
    exact toPan_good allOk 0 _ _ [] [] (⟨[], [], [], [], [(3, [(18, cL 5 T_api_Ban.c T_api_Ban.d []), (19, cL 7 T_api_Entry.c T_api_Entry.d [])])], [], []⟩) 4 ⟨[(100000, 100000)], .one (.ifc 9 (.lit (.string x1s)))⟩ (.c (g_tape_tape_ask_own a0 (T_api_Op.mk (3 : Int) a1 (T_api_Loc.mk (0 : Int) (0 : Int) (0 : Int)) (0 : Int) (0 : Int) (T_api_Value.mk (0 : Int) (T_api_Peer.mk (T_api_End.mk (T_api_Addr.mk false (0 : Int) (0 : Int)) (0 : Int)) false (0 : Int) (T_api_Score.mk (0 : Int) (0 : Int)) (0 : Int) (0 : Int)) ([] : (List T_api_Ban)) ([] : (List T_api_Entry))) a2) (.bad x1s) q1) .n) (by kernel_rfl)

/-- (*doorman/tape.tape).Drop -/
def g_tape_tape_Drop (a0 : T_tape_tape) (a1 : Int) (a2 : Bool) : Option (Tout Unit) :=
  (g_tape_tape_ask a0 (T_api_Op.mk (4 : Int) a1 (T_api_Loc.mk (0 : Int) (0 : Int) (0 : Int)) (0 : Int) (0 : Int) (T_api_Value.mk (0 : Int) (T_api_Peer.mk (T_api_End.mk (T_api_Addr.mk false (0 : Int) (0 : Int)) (0 : Int)) false (0 : Int) (T_api_Score.mk (0 : Int) (0 : Int)) (0 : Int) (0 : Int)) ([] : (List T_api_Ban)) ([] : (List T_api_Entry))) a2)).bind fun x1 =>
  (match x1 with
  | .ret x1v x1g =>
    some (Tout.ret () x1g)
  | .pan x1o =>
    some (Tout.pan x1o)
  | .bad x1s =>
    some (Tout.bad x1s))

theorem g_tape_tape_Drop_own (a0 : T_tape_tape) (a1 : Int) (a2 : Bool) (r : (Tout Unit)) (hf : g_tape_tape_Drop a0 a1 a2 = some r) : OCall Try.prog 96 [(100000, .box (T_tape_tape.c a0))] [.one (.ptr 100000 0), .one (.lit (.int .i64 a1)), .one (.lit (.bool a2))] (oc (fun x => .tup []) r) := by
  refine OCall.of Try.func96 rfl rfl rfl rfl fun S0 w0 => ?_
  unfold g_tape_tape_Drop at hf
  obtain ⟨x1, q1, hf⟩ := bind_some' hf
  cases x1 with
  | ret x1v x1g =>
    dsimp only at hf
    replace hf := Option.some.inj hf
    subst hf
    exact toEndO_g allOk 1 [⟨[], [], [], [], [(3, [(18, cL 5 T_api_Ban.c T_api_Ban.d []), (19, cL 7 T_api_Entry.c T_api_Entry.d [])])], [], [(4, ⟨[(100000, 100000)], [], [(100000, .box (T_tape_tape.c x1g))], .agg (T_api_Value.c x1v)⟩)]⟩] [] ⟨[], [], [], [], [], [], [100000], []⟩ [100000] (.c (g_tape_tape_ask_own a0 (T_api_Op.mk (4 : Int) a1 (T_api_Loc.mk (0 : Int) (0 : Int) (0 : Int)) (0 : Int) (0 : Int) (T_api_Value.mk (0 : Int) (T_api_Peer.mk (T_api_End.mk (T_api_Addr.mk false (0 : Int) (0 : Int)) (0 : Int)) false (0 : Int) (T_api_Score.mk (0 : Int) (0 : Int)) (0 : Int) (0 : Int)) ([] : (List T_api_Ban)) ([] : (List T_api_Entry))) a2) (.ret x1v x1g) q1) .n) (by kernel_rfl)
  | pan x1o =>
    dsimp only at hf
    replace hf := Option.some.inj hf
    subst hf
    exact toPan_good allOk 0 _ _ [] [] (⟨[], [], [], [], [(3, [(18, cL 5 T_api_Ban.c T_api_Ban.d []), (19, cL 7 T_api_Entry.c T_api_Entry.d [])])], [], []⟩) 4 ⟨[(100000, 100000)], .one (.ifa 104 21 (fun i => (T_api_Op.c x1o).getD i .junk))⟩ (.c (g_tape_tape_ask_own a0 (T_api_Op.mk (4 : Int) a1 (T_api_Loc.mk (0 : Int) (0 : Int) (0 : Int)) (0 : Int) (0 : Int) (T_api_Value.mk (0 : Int) (T_api_Peer.mk (T_api_End.mk (T_api_Addr.mk false (0 : Int) (0 : Int)) (0 : Int)) false (0 : Int) (T_api_Score.mk (0 : Int) (0 : Int)) (0 : Int) (0 : Int)) ([] : (List T_api_Ban)) ([] : (List T_api_Entry))) a2) (.pan x1o) q1) .n) (by kernel_rfl)
  | bad x1s =>
    dsimp only at hf
    replace hf := Option.some.inj hf
    subst hf
    exact toPan_good allOk 0 _ _ [] [] (⟨[], [], [], [], [(3, [(18, cL 5 T_api_Ban.c T_api_Ban.d []), (19, cL 7 T_api_Entry.c T_api_Entry.d [])])], [], []⟩) 4 ⟨[(100000, 100000)], .one (.ifc 9 (.lit (.string x1s)))⟩ (.c (g_tape_tape_ask_own a0 (T_api_Op.mk (4 : Int) a1 (T_api_Loc.mk (0 : Int) (0 : Int) (0 : Int)) (0 : Int) (0 : Int) (T_api_Value.mk (0 : Int) (T_api_Peer.mk (T_api_End.mk (T_api_Addr.mk false (0 : Int) (0 : Int)) (0 : Int)) false (0 : Int) (T_api_Score.mk (0 : Int) (0 : Int)) (0 : Int) (0 : Int)) ([] : (List T_api_Ban)) ([] : (List T_api_Entry))) a2) (.bad x1s) q1) .n) (by kernel_rfl)

/-- (*doorman/tape.tape).Load -/
def g_tape_tape_Load (a0 : T_tape_tape) (a1 : T_api_Loc) (a2 : Bool) : Option (Tout T_api_Value) :=
  (g_tape_tape_ask a0 (T_api_Op.mk (5 : Int) (0 : Int) a1 (0 : Int) (0 : Int) (T_api_Value.mk (0 : Int) (T_api_Peer.mk (T_api_End.mk (T_api_Addr.mk false (0 : Int) (0 : Int)) (0 : Int)) false (0 : Int) (T_api_Score.mk (0 : Int) (0 : Int)) (0 : Int) (0 : Int)) ([] : (List T_api_Ban)) ([] : (List T_api_Entry))) a2)).bind fun x1 =>
  (match x1 with
  | .ret x1v x1g =>
    some (Tout.ret x1v x1g)
  | .pan x1o =>
    some (Tout.pan x1o)
  | .bad x1s =>
    some (Tout.bad x1s))

theorem g_tape_tape_Load_own (a0 : T_tape_tape) (a1 : T_api_Loc) (a2 : Bool) (r : (Tout T_api_Value)) (hf : g_tape_tape_Load a0 a1 a2 = some r) : OCall Try.prog 98 [(100000, .box (T_tape_tape.c a0))] [.one (.ptr 100000 0), .agg (T_api_Loc.c a1), .one (.lit (.bool a2))] (oc (fun x => .agg (T_api_Value.c x)) r) := by
  refine OCall.of Try.func98 rfl rfl rfl rfl fun S0 w0 => ?_
  unfold g_tape_tape_Load at hf
  obtain ⟨x1, q1, hf⟩ := bind_some' hf
  cases x1 with
  | ret x1v x1g =>
    dsimp only at hf
    replace hf := Option.some.inj hf
    subst hf
    exact toEndO_g allOk 4 [rz, ⟨[], [], [], [], [(3, [(18, cL 5 T_api_Ban.c T_api_Ban.d []), (19, cL 7 T_api_Entry.c T_api_Entry.d [])])], [], [(4, ⟨[(100000, 100000)], [], [(100000, .box (T_tape_tape.c x1g))], .agg (T_api_Value.c x1v)⟩)]⟩] [] ⟨[], [], [], [], [], [6], [6, 100000], []⟩ [100000] (.c (g_tape_tape_ask_own a0 (T_api_Op.mk (5 : Int) (0 : Int) a1 (0 : Int) (0 : Int) (T_api_Value.mk (0 : Int) (T_api_Peer.mk (T_api_End.mk (T_api_Addr.mk false (0 : Int) (0 : Int)) (0 : Int)) false (0 : Int) (T_api_Score.mk (0 : Int) (0 : Int)) (0 : Int) (0 : Int)) ([] : (List T_api_Ban)) ([] : (List T_api_Entry))) a2) (.ret x1v x1g) q1) .n) (by kernel_rfl)
  | pan x1o =>
    dsimp only at hf
    replace hf := Option.some.inj hf
    subst hf
    exact toPan_good allOk 3 _ _ [rz] [] (⟨[], [], [], [], [(3, [(18, cL 5 T_api_Ban.c T_api_Ban.d []), (19, cL 7 T_api_Entry.c T_api_Entry.d [])])], [], []⟩) 4 ⟨[(100000, 100000)], .one (.ifa 104 21 (fun i => (T_api_Op.c x1o).getD i .junk))⟩ (.c (g_tape_tape_ask_own a0 (T_api_Op.mk (5 : Int) (0 : Int) a1 (0 : Int) (0 : Int) (T_api_Value.mk (0 : Int) (T_api_Peer.mk (T_api_End.mk (T_api_Addr.mk false (0 : Int) (0 : Int)) (0 : Int)) false (0 : Int) (T_api_Score.mk (0 : Int) (0 : Int)) (0 : Int) (0 : Int)) ([] : (List T_api_Ban)) ([] : (List T_api_Entry))) a2) (.pan x1o) q1) .n) (by kernel_rfl)
  | bad x1s =>
    dsimp only at hf
    replace hf := Option.some.inj hf
    subst hf
    exact toPan_good allOk 3 _ _ [rz] [] (⟨[], [], [], [], [(3, [(18, cL 5 T_api_Ban.c T_api_Ban.d []), (19, cL 7 T_api_Entry.c T_api_Entry.d [])])], [], []⟩) 4 ⟨[(100000, 100000)], .one (.ifc 9 (.lit (.string x1s)))⟩ (.c (g_tape_tape_ask_own a0 (T_api_Op.mk (5 : Int) (0 : Int) a1 (0 : Int) (0 : Int) (T_api_Value.mk (0 : Int) (T_api_Peer.mk (T_api_End.mk (T_api_Addr.mk false (0 : Int) (0 : Int)) (0 : Int)) false (0 : Int) (T_api_Score.mk (0 : Int) (0 : Int)) (0 : Int) (0 : Int)) ([] : (List T_api_Ban)) ([] : (List T_api_Entry))) a2) (.bad x1s) q1) .n) (by kernel_rfl)

/-- (*doorman/tape.tape).Store -/
def g_tape_tape_Store (a0 : T_tape_tape) (a1 : T_api_Loc) (a2 : T_api_Value) (a3 : Bool) : Option (Tout Unit) :=
  (g_tape_tape_ask a0 (T_api_Op.mk (6 : Int) (0 : Int) a1 (0 : Int) (0 : Int) a2 a3)).bind fun x1 =>
  (match x1 with
  | .ret x1v x1g =>
    some (Tout.ret () x1g)
  | .pan x1o =>
    some (Tout.pan x1o)
  | .bad x1s =>
    some (Tout.bad x1s))

theorem g_tape_tape_Store_own (a0 : T_tape_tape) (a1 : T_api_Loc) (a2 : T_api_Value) (a3 : Bool) (r : (Tout Unit)) (hf : g_tape_tape_Store a0 a1 a2 a3 = some r) : OCall Try.prog 102 [(100000, .box (T_tape_tape.c a0))] [.one (.ptr 100000 0), .agg (T_api_Loc.c a1), .agg (T_api_Value.c a2), .one (.lit (.bool a3))] (oc (fun x => .tup []) r) := by
  refine OCall.of Try.func102 rfl rfl rfl rfl fun S0 w0 => ?_
  unfold g_tape_tape_Store at hf
  obtain ⟨x1, q1, hf⟩ := bind_some' hf
  cases x1 with
  | ret x1v x1g =>
    dsimp only at hf
    replace hf := Option.some.inj hf
    subst hf
    exact toEndO_g allOk 3 [rz, rH [] [(5, ⟨[(100000, 100000)], [], [(100000, .box (T_tape_tape.c x1g))], .agg (T_api_Value.c x1v)⟩)]] [] ⟨[], [], [], [], [], [], [100000], []⟩ [100000] (.c (g_tape_tape_ask_own a0 (T_api_Op.mk (6 : Int) (0 : Int) a1 (0 : Int) (0 : Int) a2 a3) (.ret x1v x1g) q1) .n) (by kernel_rfl)
  | pan x1o =>
    dsimp only at hf
    replace hf := Option.some.inj hf
    subst hf
    exact toPan_good allOk 2 _ _ [rz] [] (rz) 5 ⟨[(100000, 100000)], .one (.ifa 104 21 (fun i => (T_api_Op.c x1o).getD i .junk))⟩ (.c (g_tape_tape_ask_own a0 (T_api_Op.mk (6 : Int) (0 : Int) a1 (0 : Int) (0 : Int) a2 a3) (.pan x1o) q1) .n) (by kernel_rfl)
  | bad x1s =>
    dsimp only at hf
    replace hf := Option.some.inj hf
    subst hf
    exact toPan_good allOk 2 _ _ [rz] [] (rz) 5 ⟨[(100000, 100000)], .one (.ifc 9 (.lit (.string x1s)))⟩ (.c (g_tape_tape_ask_own a0 (T_api_Op.mk (6 : Int) (0 : Int) a1 (0 : Int) (0 : Int) a2 a3) (.bad x1s) q1) .n) (by kernel_rfl)

/-- (*doorman/tape.tape).Swap -/
def g_tape_tape_Swap (a0 : T_tape_tape) (a1 : T_api_Loc) (a2 : Int) (a3 : Int) (a4 : Bool) : Option (Tout Bool) :=
  (g_tape_tape_ask a0 (T_api_Op.mk (7 : Int) (0 : Int) a1 a2 a3 (T_api_Value.mk (0 : Int) (T_api_Peer.mk (T_api_End.mk (T_api_Addr.mk false (0 : Int) (0 : Int)) (0 : Int)) false (0 : Int) (T_api_Score.mk (0 : Int) (0 : Int)) (0 : Int) (0 : Int)) ([] : (List T_api_Ban)) ([] : (List T_api_Entry))) a4)).bind fun x1 =>
  (match x1 with
  | .ret x1v x1g =>
    some (Tout.ret (x1v.fN == (1 : Int)) x1g)
  | .pan x1o =>
    some (Tout.pan x1o)
  | .bad x1s =>
    some (Tout.bad x1s))

theorem g_tape_tape_Swap_own (a0 : T_tape_tape) (a1 : T_api_Loc) (a2 : Int) (a3 : Int) (a4 : Bool) (r : (Tout Bool)) (hf : g_tape_tape_Swap a0 a1 a2 a3 a4 = some r) : OCall Try.prog 103 [(100000, .box (T_tape_tape.c a0))] [.one (.ptr 100000 0), .agg (T_api_Loc.c a1), .one (.lit (.int .i64 a2)), .one (.lit (.int .i64 a3)), .one (.lit (.bool a4))] (oc (fun x => .one (.lit (.bool x))) r) := by
  refine OCall.of Try.func103 rfl rfl rfl rfl fun S0 w0 => ?_
  unfold g_tape_tape_Swap at hf
  obtain ⟨x1, q1, hf⟩ := bind_some' hf
  cases x1 with
  | ret x1v x1g =>
    dsimp only at hf
    replace hf := Option.some.inj hf
    subst hf
    exact toEndO_g allOk 4 [rz, ⟨[], [], [], [], [(5, [(18, cL 5 T_api_Ban.c T_api_Ban.d []), (19, cL 7 T_api_Entry.c T_api_Entry.d [])])], [], [(6, ⟨[(100000, 100000)], [], [(100000, .box (T_tape_tape.c x1g))], .agg (T_api_Value.c x1v)⟩)]⟩] [] ⟨[], [], [], [], [], [10], [100000], []⟩ [100000] (.c (g_tape_tape_ask_own a0 (T_api_Op.mk (7 : Int) (0 : Int) a1 a2 a3 (T_api_Value.mk (0 : Int) (T_api_Peer.mk (T_api_End.mk (T_api_Addr.mk false (0 : Int) (0 : Int)) (0 : Int)) false (0 : Int) (T_api_Score.mk (0 : Int) (0 : Int)) (0 : Int) (0 : Int)) ([] : (List T_api_Ban)) ([] : (List T_api_Entry))) a4) (.ret x1v x1g) q1) .n) (by kernel_rfl)
  | pan x1o =>
    dsimp only at hf
    replace hf := Option.some.inj hf
    subst hf
    exact toPan_good allOk 3 _ _ [rz] [] (⟨[], [], [], [], [(5, [(18, cL 5 T_api_Ban.c T_api_Ban.d []), (19, cL 7 T_api_Entry.c T_api_Entry.d [])])], [], []⟩) 6 ⟨[(100000, 100000)], .one (.ifa 104 21 (fun i => (T_api_Op.c x1o).getD i .junk))⟩ (.c (g_tape_tape_ask_own a0 (T_api_Op.mk (7 : Int) (0 : Int) a1 a2 a3 (T_api_Value.mk (0 : Int) (T_api_Peer.mk (T_api_End.mk (T_api_Addr.mk false (0 : Int) (0 : Int)) (0 : Int)) false (0 : Int) (T_api_Score.mk (0 : Int) (0 : Int)) (0 : Int) (0 : Int)) ([] : (List T_api_Ban)) ([] : (List T_api_Entry))) a4) (.pan x1o) q1) .n) (by kernel_rfl)
  | bad x1s =>
    dsimp only at hf
    replace hf := Option.some.inj hf
    subst hf
    exact toPan_good allOk 3 _ _ [rz] [] (⟨[], [], [], [], [(5, [(18, cL 5 T_api_Ban.c T_api_Ban.d []), (19, cL 7 T_api_Entry.c T_api_Entry.d [])])], [], []⟩) 6 ⟨[(100000, 100000)], .one (.ifc 9 (.lit (.string x1s)))⟩ (.c (g_tape_tape_ask_own a0 (T_api_Op.mk (7 : Int) (0 : Int) a1 a2 a3 (T_api_Value.mk (0 : Int) (T_api_Peer.mk (T_api_End.mk (T_api_Addr.mk false (0 : Int) (0 : Int)) (0 : Int)) false (0 : Int) (T_api_Score.mk (0 : Int) (0 : Int)) (0 : Int) (0 : Int)) ([] : (List T_api_Ban)) ([] : (List T_api_Entry))) a4) (.bad x1s) q1) .n) (by kernel_rfl)

/-- (*doorman/tape.tape).Pass -/
def g_tape_tape_Pass (a0 : T_tape_tape) (a1 : Bool) : Option (Tout Unit) :=
  (g_tape_tape_ask a0 (T_api_Op.mk (8 : Int) (0 : Int) (T_api_Loc.mk (0 : Int) (0 : Int) (0 : Int)) (0 : Int) (0 : Int) (T_api_Value.mk (0 : Int) (T_api_Peer.mk (T_api_End.mk (T_api_Addr.mk false (0 : Int) (0 : Int)) (0 : Int)) false (0 : Int) (T_api_Score.mk (0 : Int) (0 : Int)) (0 : Int) (0 : Int)) ([] : (List T_api_Ban)) ([] : (List T_api_Entry))) a1)).bind fun x1 =>
  (match x1 with
  | .ret x1v x1g =>
    some (Tout.ret () x1g)
  | .pan x1o =>
    some (Tout.pan x1o)
  | .bad x1s =>
    some (Tout.bad x1s))

theorem g_tape_tape_Pass_own (a0 : T_tape_tape) (a1 : Bool) (r : (Tout Unit)) (hf : g_tape_tape_Pass a0 a1 = some r) : OCall Try.prog 100 [(100000, .box (T_tape_tape.c a0))] [.one (.ptr 100000 0), .one (.lit (.bool a1))] (oc (fun x => .tup []) r) := by
  refine OCall.of Try.func100 rfl rfl rfl rfl fun S0 w0 => ?_
  unfold g_tape_tape_Pass at hf
  obtain ⟨x1, q1, hf⟩ := bind_some' hf
  cases x1 with
  | ret x1v x1g =>
    dsimp only at hf
    replace hf := Option.some.inj hf
    subst hf
    exact toEndO_g allOk 1 [⟨[], [], [], [], [(2, [(18, cL 5 T_api_Ban.c T_api_Ban.d []), (19, cL 7 T_api_Entry.c T_api_Entry.d [])])], [], [(3, ⟨[(100000, 100000)], [], [(100000, .box (T_tape_tape.c x1g))], .agg (T_api_Value.c x1v)⟩)]⟩] [] ⟨[], [], [], [], [], [], [100000], []⟩ [100000] (.c (g_tape_tape_ask_own a0 (T_api_Op.mk (8 : Int) (0 : Int) (T_api_Loc.mk (0 : Int) (0 : Int) (0 : Int)) (0 : Int) (0 : Int) (T_api_Value.mk (0 : Int) (T_api_Peer.mk (T_api_End.mk (T_api_Addr.mk false (0 : Int) (0 : Int)) (0 : Int)) false (0 : Int) (T_api_Score.mk (0 : Int) (0 : Int)) (0 : Int) (0 : Int)) ([] : (List T_api_Ban)) ([] : (List T_api_Entry))) a1) (.ret x1v x1g) q1) .n) (by kernel_rfl)
  | pan x1o =>
    dsimp only at hf
    replace hf := Option.some.inj hf
    subst hf
    exact toPan_good allOk 0 _ _ [] [] (⟨[], [], [], [], [(2, [(18, cL 5 T_api_Ban.c T_api_Ban.d []), (19, cL 7 T_api_Entry.c T_api_Entry.d [])])], [], []⟩) 3 ⟨[(100000, 100000)], .one (.ifa 104 21 (fun i => (T_api_Op.c x1o).getD i .junk))⟩ (.c (g_tape_tape_ask_own a0 (T_api_Op.mk (8 : Int) (0 : Int) (T_api_Loc.mk (0 : Int) (0 : Int) (0 : Int)) (0 : Int) (0 : Int) (T_api_Value.mk (0 : Int) (T_api_Peer.mk (T_api_End.mk (T_api_Addr.mk false (0 : Int) (0 : Int)) (0 : Int)) false (0 : Int) (T_api_Score.mk (0 : Int) (0 : Int)) (0 : Int) (0 : Int)) ([] : (List T_api_Ban)) ([] : (List T_api_Entry))) a1) (.pan x1o) q1) .n) (by kernel_rfl)
  | bad x1s =>
    dsimp only at hf
    replace hf := Option.some.inj hf
    subst hf
    exact toPan_good allOk 0 _ _ [] [] (⟨[], [], [], [], [(2, [(18, cL 5 T_api_Ban.c T_api_Ban.d []), (19, cL 7 T_api_Entry.c T_api_Entry.d [])])], [], []⟩) 3 ⟨[(100000, 100000)], .one (.ifc 9 (.lit (.string x1s)))⟩ (.c (g_tape_tape_ask_own a0 (T_api_Op.mk (8 : Int) (0 : Int) (T_api_Loc.mk (0 : Int) (0 : Int) (0 : Int)) (0 : Int) (0 : Int) (T_api_Value.mk (0 : Int) (T_api_Peer.mk (T_api_End.mk (T_api_Addr.mk false (0 : Int) (0 : Int)) (0 : Int)) false (0 : Int) (T_api_Score.mk (0 : Int) (0 : Int)) (0 : Int) (0 : Int)) ([] : (List T_api_Ban)) ([] : (List T_api_Entry))) a1) (.bad x1s) q1) .n) (by kernel_rfl)

/-- doorman/tape.do -/
def g_tape_do (a0 : T_tape_tape) (a1 : T_api_Op) : Option (Tout Unit) :=
  bif (a1.fKind == (1 : Int)) then
    (g_tape_tape_Lock a0 a1.fLock a1.fMark).bind fun x1 =>
    (match x1 with
    | .ret x1v x1g =>
      some (Tout.ret () x1g)
    | .pan x1o =>
      some (Tout.pan x1o)
    | .bad x1s =>
      some (Tout.bad x1s))
  else
    bif (a1.fKind == (2 : Int)) then
      (g_tape_tape_Share a0 a1.fLock a1.fMark).bind fun x2 =>
      (match x2 with
      | .ret x2v x2g =>
        some (Tout.ret () x2g)
      | .pan x2o =>
        some (Tout.pan x2o)
      | .bad x2s =>
        some (Tout.bad x2s))
    else
      bif (a1.fKind == (3 : Int)) then
        (g_tape_tape_Free a0 a1.fLock a1.fMark).bind fun x3 =>
        (match x3 with
        | .ret x3v x3g =>
          some (Tout.ret () x3g)
        | .pan x3o =>
          some (Tout.pan x3o)
        | .bad x3s =>
          some (Tout.bad x3s))
      else
        bif (a1.fKind == (4 : Int)) then
          (g_tape_tape_Drop a0 a1.fLock a1.fMark).bind fun x4 =>
          (match x4 with
          | .ret x4v x4g =>
            some (Tout.ret () x4g)
          | .pan x4o =>
            some (Tout.pan x4o)
          | .bad x4s =>
            some (Tout.bad x4s))
        else
          bif (a1.fKind == (5 : Int)) then
            (g_tape_tape_Load a0 a1.fLoc a1.fMark).bind fun x5 =>
            (match x5 with
            | .ret x5v x5g =>
              some (Tout.ret () x5g)
            | .pan x5o =>
              some (Tout.pan x5o)
            | .bad x5s =>
              some (Tout.bad x5s))
          else
            bif (a1.fKind == (6 : Int)) then
              (g_tape_tape_Store a0 a1.fLoc a1.fVal a1.fMark).bind fun x6 =>
              (match x6 with
              | .ret x6v x6g =>
                some (Tout.ret () x6g)
              | .pan x6o =>
                some (Tout.pan x6o)
              | .bad x6s =>
                some (Tout.bad x6s))
            else
              bif (a1.fKind == (7 : Int)) then
                (g_tape_tape_Swap a0 a1.fLoc a1.fOld a1.fNew a1.fMark).bind fun x7 =>
                (match x7 with
                | .ret x7v x7g =>
                  some (Tout.ret () x7g)
                | .pan x7o =>
                  some (Tout.pan x7o)
                | .bad x7s =>
                  some (Tout.bad x7s))
              else
                bif (a1.fKind == (8 : Int)) then
                  (g_tape_tape_Pass a0 a1.fMark).bind fun x8 =>
                  (match x8 with
                  | .ret x8v x8g =>
                    some (Tout.ret () x8g)
                  | .pan x8o =>
                    some (Tout.pan x8o)
                  | .bad x8s =>
                    some (Tout.bad x8s))
                else
                  some (Tout.bad (⟨#[97, 110, 32, 111, 112, 101, 114, 97, 116, 105, 111, 110, 32, 111, 102, 32, 110, 111, 32, 107, 105, 110, 100]⟩ : ByteArray))

theorem g_tape_do_own (a0 : T_tape_tape) (a1 : T_api_Op) (r : (Tout Unit)) (hf : g_tape_do a0 a1 = some r) : OCall Try.prog 47 [(100000, .box (T_tape_tape.c a0))] [.one (.ifc 105 (.ptr 100000 0)), .agg (T_api_Op.c a1)] (oc (fun x => .tup []) r) := by
  refine OCall.of Try.func47 rfl rfl rfl rfl fun S0 w0 => ?_
  unfold g_tape_do at hf
  rcases br_some hf with ⟨h1, hf⟩ | ⟨h1, hf⟩
  · obtain ⟨x1, q2, hf⟩ := bind_some' hf
    cases x1 with
    | ret x1v x1g =>
      dsimp only at hf
      replace hf := Option.some.inj hf
      subst hf
      exact toEndO_g allOk 10 [rz, rz, rz, rH [(5, .id 99)] [(5, ⟨[(100000, 100000)], [], [(100000, .box (T_tape_tape.c x1g))], .tup []⟩)]] [true] ⟨[], [], [], [], [], [], [100000], []⟩ [100000] (.c h1 (.c (g_tape_tape_Lock_own a0 a1.fLock a1.fMark (.ret x1v x1g) q2) (.c meth_Lock .n))) (by kernel_rfl)
    | pan x1o =>
      dsimp only at hf
      replace hf := Option.some.inj hf
      subst hf
      exact toPan_good allOk 8 _ _ [rz, rz, rz] [true] (rA [(5, .id 99)]) 5 ⟨[(100000, 100000)], .one (.ifa 104 21 (fun i => (T_api_Op.c x1o).getD i .junk))⟩ (.c h1 (.c (g_tape_tape_Lock_own a0 a1.fLock a1.fMark (.pan x1o) q2) (.c meth_Lock .n))) (by kernel_rfl)
    | bad x1s =>
      dsimp only at hf
      replace hf := Option.some.inj hf
      subst hf
      exact toPan_good allOk 8 _ _ [rz, rz, rz] [true] (rA [(5, .id 99)]) 5 ⟨[(100000, 100000)], .one (.ifc 9 (.lit (.string x1s)))⟩ (.c h1 (.c (g_tape_tape_Lock_own a0 a1.fLock a1.fMark (.bad x1s) q2) (.c meth_Lock .n))) (by kernel_rfl)
  · rcases br_some hf with ⟨h3, hf⟩ | ⟨h3, hf⟩
    · obtain ⟨x2, q4, hf⟩ := bind_some' hf
      cases x2 with
      | ret x2v x2g =>
        dsimp only at hf
        replace hf := Option.some.inj hf
        subst hf
        exact toEndO_g allOk 13 [rz, rz, rz, rz, rH [(5, .id 101)] [(5, ⟨[(100000, 100000)], [], [(100000, .box (T_tape_tape.c x2g))], .tup []⟩)]] [false, true] ⟨[], [], [], [], [], [], [100000], []⟩ [100000] (.c h1 (.c h3 (.c (g_tape_tape_Share_own a0 a1.fLock a1.fMark (.ret x2v x2g) q4) (.c meth_Share .n)))) (by kernel_rfl)
      | pan x2o =>
        dsimp only at hf
        replace hf := Option.some.inj hf
        subst hf
        exact toPan_good allOk 11 _ _ [rz, rz, rz, rz] [false, true] (rA [(5, .id 101)]) 5 ⟨[(100000, 100000)], .one (.ifa 104 21 (fun i => (T_api_Op.c x2o).getD i .junk))⟩ (.c h1 (.c h3 (.c (g_tape_tape_Share_own a0 a1.fLock a1.fMark (.pan x2o) q4) (.c meth_Share .n)))) (by kernel_rfl)
      | bad x2s =>
        dsimp only at hf
        replace hf := Option.some.inj hf
        subst hf
        exact toPan_good allOk 11 _ _ [rz, rz, rz, rz] [false, true] (rA [(5, .id 101)]) 5 ⟨[(100000, 100000)], .one (.ifc 9 (.lit (.string x2s)))⟩ (.c h1 (.c h3 (.c (g_tape_tape_Share_own a0 a1.fLock a1.fMark (.bad x2s) q4) (.c meth_Share .n)))) (by kernel_rfl)
    · rcases br_some hf with ⟨h5, hf⟩ | ⟨h5, hf⟩
      · obtain ⟨x3, q6, hf⟩ := bind_some' hf
        cases x3 with
        | ret x3v x3g =>
          dsimp only at hf
          replace hf := Option.some.inj hf
          subst hf
          exact toEndO_g allOk 16 [rz, rz, rz, rz, rz, rH [(5, .id 97)] [(5, ⟨[(100000, 100000)], [], [(100000, .box (T_tape_tape.c x3g))], .tup []⟩)]] [false, false, true] ⟨[], [], [], [], [], [], [100000], []⟩ [100000] (.c h1 (.c h3 (.c h5 (.c (g_tape_tape_Free_own a0 a1.fLock a1.fMark (.ret x3v x3g) q6) (.c meth_Free .n))))) (by kernel_rfl)
        | pan x3o =>
          dsimp only at hf
          replace hf := Option.some.inj hf
          subst hf
          exact toPan_good allOk 14 _ _ [rz, rz, rz, rz, rz] [false, false, true] (rA [(5, .id 97)]) 5 ⟨[(100000, 100000)], .one (.ifa 104 21 (fun i => (T_api_Op.c x3o).getD i .junk))⟩ (.c h1 (.c h3 (.c h5 (.c (g_tape_tape_Free_own a0 a1.fLock a1.fMark (.pan x3o) q6) (.c meth_Free .n))))) (by kernel_rfl)
        | bad x3s =>
          dsimp only at hf
          replace hf := Option.some.inj hf
          subst hf
          exact toPan_good allOk 14 _ _ [rz, rz, rz, rz, rz] [false, false, true] (rA [(5, .id 97)]) 5 ⟨[(100000, 100000)], .one (.ifc 9 (.lit (.string x3s)))⟩ (.c h1 (.c h3 (.c h5 (.c (g_tape_tape_Free_own a0 a1.fLock a1.fMark (.bad x3s) q6) (.c meth_Free .n))))) (by kernel_rfl)
      · rcases br_some hf with ⟨h7, hf⟩ | ⟨h7, hf⟩
        · obtain ⟨x4, q8, hf⟩ := bind_some' hf
          cases x4 with
          | ret x4v x4g =>
            dsimp only at hf
            replace hf := Option.some.inj hf
            subst hf
            exact toEndO_g allOk 19 [rz, rz, rz, rz, rz, rz, rH [(5, .id 96)] [(5, ⟨[(100000, 100000)], [], [(100000, .box (T_tape_tape.c x4g))], .tup []⟩)]] [false, false, false, true] ⟨[], [], [], [], [], [], [100000], []⟩ [100000] (.c h1 (.c h3 (.c h5 (.c h7 (.c (g_tape_tape_Drop_own a0 a1.fLock a1.fMark (.ret x4v x4g) q8) (.c meth_Drop .n)))))) (by kernel_rfl)
          | pan x4o =>
            dsimp only at hf
            replace hf := Option.some.inj hf
            subst hf
            exact toPan_good allOk 17 _ _ [rz, rz, rz, rz, rz, rz] [false, false, false, true] (rA [(5, .id 96)]) 5 ⟨[(100000, 100000)], .one (.ifa 104 21 (fun i => (T_api_Op.c x4o).getD i .junk))⟩ (.c h1 (.c h3 (.c h5 (.c h7 (.c (g_tape_tape_Drop_own a0 a1.fLock a1.fMark (.pan x4o) q8) (.c meth_Drop .n)))))) (by kernel_rfl)
          | bad x4s =>
            dsimp only at hf
            replace hf := Option.some.inj hf
            subst hf
            exact toPan_good allOk 17 _ _ [rz, rz, rz, rz, rz, rz] [false, false, false, true] (rA [(5, .id 96)]) 5 ⟨[(100000, 100000)], .one (.ifc 9 (.lit (.string x4s)))⟩ (.c h1 (.c h3 (.c h5 (.c h7 (.c (g_tape_tape_Drop_own a0 a1.fLock a1.fMark (.bad x4s) q8) (.c meth_Drop .n)))))) (by kernel_rfl)
        · rcases br_some hf with ⟨h9, hf⟩ | ⟨h9, hf⟩
          · obtain ⟨x5, q10, hf⟩ := bind_some' hf
            cases x5 with
            | ret x5v x5g =>
              dsimp only at hf
              replace hf := Option.some.inj hf
              subst hf
              exact toEndO_g allOk 22 [rz, rz, rz, rz, rz, rz, rz, rH [(5, .id 98)] [(5, ⟨[(100000, 100000)], [], [(100000, .box (T_tape_tape.c x5g))], .agg (T_api_Value.c x5v)⟩)]] [false, false, false, false, true] ⟨[], [], [], [], [], [], [100000], []⟩ [100000] (.c h1 (.c h3 (.c h5 (.c h7 (.c h9 (.c (g_tape_tape_Load_own a0 a1.fLoc a1.fMark (.ret x5v x5g) q10) (.c meth_Load .n))))))) (by kernel_rfl)
            | pan x5o =>
              dsimp only at hf
              replace hf := Option.some.inj hf
              subst hf
              exact toPan_good allOk 20 _ _ [rz, rz, rz, rz, rz, rz, rz] [false, false, false, false, true] (rA [(5, .id 98)]) 5 ⟨[(100000, 100000)], .one (.ifa 104 21 (fun i => (T_api_Op.c x5o).getD i .junk))⟩ (.c h1 (.c h3 (.c h5 (.c h7 (.c h9 (.c (g_tape_tape_Load_own a0 a1.fLoc a1.fMark (.pan x5o) q10) (.c meth_Load .n))))))) (by kernel_rfl)
            | bad x5s =>
              dsimp only at hf
              replace hf := Option.some.inj hf
              subst hf
              exact toPan_good allOk 20 _ _ [rz, rz, rz, rz, rz, rz, rz] [false, false, false, false, true] (rA [(5, .id 98)]) 5 ⟨[(100000, 100000)], .one (.ifc 9 (.lit (.string x5s)))⟩ (.c h1 (.c h3 (.c h5 (.c h7 (.c h9 (.c (g_tape_tape_Load_own a0 a1.fLoc a1.fMark (.bad x5s) q10) (.c meth_Load .n))))))) (by kernel_rfl)
          · rcases br_some hf with ⟨h11, hf⟩ | ⟨h11, hf⟩
            · obtain ⟨x6, q12, hf⟩ := bind_some' hf
              cases x6 with
              | ret x6v x6g =>
                dsimp only at hf
                replace hf := Option.some.inj hf
                subst hf
                exact toEndO_g allOk 25 [rz, rz, rz, rz, rz, rz, rz, rz, rH [(7, .id 102)] [(7, ⟨[(100000, 100000)], [], [(100000, .box (T_tape_tape.c x6g))], .tup []⟩)]] [false, false, false, false, false, true] ⟨[], [], [], [], [], [], [100000], []⟩ [100000] (.c h1 (.c h3 (.c h5 (.c h7 (.c h9 (.c h11 (.c (g_tape_tape_Store_own a0 a1.fLoc a1.fVal a1.fMark (.ret x6v x6g) q12) (.c meth_Store .n)))))))) (by kernel_rfl)
              | pan x6o =>
                dsimp only at hf
                replace hf := Option.some.inj hf
                subst hf
                exact toPan_good allOk 23 _ _ [rz, rz, rz, rz, rz, rz, rz, rz] [false, false, false, false, false, true] (rA [(7, .id 102)]) 7 ⟨[(100000, 100000)], .one (.ifa 104 21 (fun i => (T_api_Op.c x6o).getD i .junk))⟩ (.c h1 (.c h3 (.c h5 (.c h7 (.c h9 (.c h11 (.c (g_tape_tape_Store_own a0 a1.fLoc a1.fVal a1.fMark (.pan x6o) q12) (.c meth_Store .n)))))))) (by kernel_rfl)
              | bad x6s =>
                dsimp only at hf
                replace hf := Option.some.inj hf
                subst hf
                exact toPan_good allOk 23 _ _ [rz, rz, rz, rz, rz, rz, rz, rz] [false, false, false, false, false, true] (rA [(7, .id 102)]) 7 ⟨[(100000, 100000)], .one (.ifc 9 (.lit (.string x6s)))⟩ (.c h1 (.c h3 (.c h5 (.c h7 (.c h9 (.c h11 (.c (g_tape_tape_Store_own a0 a1.fLoc a1.fVal a1.fMark (.bad x6s) q12) (.c meth_Store .n)))))))) (by kernel_rfl)
            · rcases br_some hf with ⟨h13, hf⟩ | ⟨h13, hf⟩
              · obtain ⟨x7, q14, hf⟩ := bind_some' hf
                cases x7 with
                | ret x7v x7g =>
                  dsimp only at hf
                  replace hf := Option.some.inj hf
                  subst hf
                  exact toEndO_g allOk 28 [rz, rz, rz, rz, rz, rz, rz, rz, rz, rH [(9, .id 103)] [(9, ⟨[(100000, 100000)], [], [(100000, .box (T_tape_tape.c x7g))], .one (.lit (.bool x7v))⟩)]] [false, false, false, false, false, false, true] ⟨[], [], [], [], [], [], [100000], []⟩ [100000] (.c h1 (.c h3 (.c h5 (.c h7 (.c h9 (.c h11 (.c h13 (.c (g_tape_tape_Swap_own a0 a1.fLoc a1.fOld a1.fNew a1.fMark (.ret x7v x7g) q14) (.c meth_Swap .n))))))))) (by kernel_rfl)
                | pan x7o =>
                  dsimp only at hf
                  replace hf := Option.some.inj hf
                  subst hf
                  exact toPan_good allOk 26 _ _ [rz, rz, rz, rz, rz, rz, rz, rz, rz] [false, false, false, false, false, false, true] (rA [(9, .id 103)]) 9 ⟨[(100000, 100000)], .one (.ifa 104 21 (fun i => (T_api_Op.c x7o).getD i .junk))⟩ (.c h1 (.c h3 (.c h5 (.c h7 (.c h9 (.c h11 (.c h13 (.c (g_tape_tape_Swap_own a0 a1.fLoc a1.fOld a1.fNew a1.fMark (.pan x7o) q14) (.c meth_Swap .n))))))))) (by kernel_rfl)
                | bad x7s =>
                  dsimp only at hf
                  replace hf := Option.some.inj hf
                  subst hf
                  exact toPan_good allOk 26 _ _ [rz, rz, rz, rz, rz, rz, rz, rz, rz] [false, false, false, false, false, false, true] (rA [(9, .id 103)]) 9 ⟨[(100000, 100000)], .one (.ifc 9 (.lit (.string x7s)))⟩ (.c h1 (.c h3 (.c h5 (.c h7 (.c h9 (.c h11 (.c h13 (.c (g_tape_tape_Swap_own a0 a1.fLoc a1.fOld a1.fNew a1.fMark (.bad x7s) q14) (.c meth_Swap .n))))))))) (by kernel_rfl)
              · rcases br_some hf with ⟨h15, hf⟩ | ⟨h15, hf⟩
                · obtain ⟨x8, q16, hf⟩ := bind_some' hf
                  cases x8 with
                  | ret x8v x8g =>
                    dsimp only at hf
                    replace hf := Option.some.inj hf
                    subst hf
                    exact toEndO_g allOk 31 [rz, rz, rz, rz, rz, rz, rz, rz, rz, rz, rH [(3, .id 100)] [(3, ⟨[(100000, 100000)], [], [(100000, .box (T_tape_tape.c x8g))], .tup []⟩)]] [false, false, false, false, false, false, false, true] ⟨[], [], [], [], [], [], [100000], []⟩ [100000] (.c h1 (.c h3 (.c h5 (.c h7 (.c h9 (.c h11 (.c h13 (.c h15 (.c (g_tape_tape_Pass_own a0 a1.fMark (.ret x8v x8g) q16) (.c meth_Pass .n)))))))))) (by kernel_rfl)
                  | pan x8o =>
                    dsimp only at hf
                    replace hf := Option.some.inj hf
                    subst hf
                    exact toPan_good allOk 29 _ _ [rz, rz, rz, rz, rz, rz, rz, rz, rz, rz] [false, false, false, false, false, false, false, true] (rA [(3, .id 100)]) 3 ⟨[(100000, 100000)], .one (.ifa 104 21 (fun i => (T_api_Op.c x8o).getD i .junk))⟩ (.c h1 (.c h3 (.c h5 (.c h7 (.c h9 (.c h11 (.c h13 (.c h15 (.c (g_tape_tape_Pass_own a0 a1.fMark (.pan x8o) q16) (.c meth_Pass .n)))))))))) (by kernel_rfl)
                  | bad x8s =>
                    dsimp only at hf
                    replace hf := Option.some.inj hf
                    subst hf
                    exact toPan_good allOk 29 _ _ [rz, rz, rz, rz, rz, rz, rz, rz, rz, rz] [false, false, false, false, false, false, false, true] (rA [(3, .id 100)]) 3 ⟨[(100000, 100000)], .one (.ifc 9 (.lit (.string x8s)))⟩ (.c h1 (.c h3 (.c h5 (.c h7 (.c h9 (.c h11 (.c h13 (.c h15 (.c (g_tape_tape_Pass_own a0 a1.fMark (.bad x8s) q16) (.c meth_Pass .n)))))))))) (by kernel_rfl)
                · replace hf := Option.some.inj hf
                  subst hf
                  exact toPan_good allOk 29 _ _ [rz, rz, rz, rz, rz, rz, rz, rz, rz, rz] [false, false, false, false, false, false, false, false] (rz) 1 ⟨[], .one .junk⟩ (.c h1 (.c h3 (.c h5 (.c h7 (.c h9 (.c h11 (.c h13 (.c h15 (.c (show Try.prog.concrete 9 = true from (by kernel_rfl)) .n))))))))) (by kernel_rfl)

/-- What a code's step shows. -/
def playT : Tout T_api_Reply → T_tape_Turn
  | .ret x _ => ⟨T_api_Op.d, x, true, false⟩
  | .pan op => ⟨op, T_api_Reply.d, false, false⟩
  | .bad _ => ⟨T_api_Op.d, T_api_Reply.d, false, true⟩

def zTurn : List C := [.lit (.int .i64 (0)), .lit (.int .i64 (0)), .lit (.int .i64 (0)), .lit (.int .i64 (0)), .lit (.int .i64 (0)), .lit (.int .i64 (0)), .lit (.int .i64 (0)), .lit (.int .i64 (0)), .lit (.bool false), .lit (.int .u64 (0)), .lit (.int .u64 (0)), .lit (.int .i64 (0)), .lit (.bool false), .lit (.int .i64 (0)), .lit (.int .i64 (0)), .lit (.int .i64 (0)), .lit (.int .i64 (0)), .lit (.int .i64 (0)), .lit (.slice none 0 0), .lit (.slice none 0 0), .lit (.bool false), .lit (.int .i64 (0)), .lit (.bool false), .lit (.int .u64 (0)), .lit (.int .u64 (0)), .lit (.int .i64 (0)), .lit (.int .i64 (0)), .lit (.int .i64 (0)), .lit (.slice none 0 0), .lit (.bool false), .lit (.bool false)]

def nilTa : List (Nat × C) := [(18, cL 5 T_api_Ban.c T_api_Ban.d []), (19, cL 7 T_api_Entry.c T_api_Entry.d [])]
def nilTb : List (Nat × C) := [(28, cL 10 T_api_Peer.c T_api_Peer.d [])]

theorem nil_nil : ∀ w, (do eqGuard .eql 20 (.tmp 4) (.const .nilIface) .nilIface .nilIface; binOp .eql 20 .nilIface .nilIface : Sem Value).run Try.prog w = .ok (.bool true) w := by
  intro w
  have hg : (eqGuard .eql 20 (.tmp 4) (.const .nilIface) .nilIface .nilIface).run Try.prog w = .ok () w := by simp [eqGuard]
  rw [Sem.run_bind, hg, Result.andThen_ok]
  have h : ∀ d : Nat, (Op.equalIn (d + 1) 20 .nilIface .nilIface).run Try.prog w = .ok true w := fun d => by simp [Op.equalIn, run_underlying Try.underlying20]
  simp only [binOp]
  simp [Op.equal, Op.maxDepth, h 9999]

theorem play_idle (x : T_api_Reply) (g : T_tape_tape) : DCall Try.prog 51 (zTurn.take 21 ++ T_api_Reply.c x ++ [.lit (.bool true), .lit (.bool false)]) none (T_tape_Turn.c (playT (.ret x g))) := by
  intro no S m w hS hno hrep
  refine callsD_go (i := 0) (d := 4) (xv := .one (.lit .nilIface)) (x := .nilIface) (u' := .returning) Try.func51 rfl (fun ρ w => by simp [go_sem]) rfl rfl rfl (by kernel_rfl) (by kernel_rfl) hS hno hrep (fun c₀ cs hu => by cases c₀; cases hu; simp [recoverD]) RepC.lit rfl ?_
  exact toEndH_g allOk 6 [rA [(0, .r (.one (.lit (.bool true))) [])], rz] [true] ⟨[], [(100000, nilTa)], [], [], [], [], [100000], []⟩ (.c nil_nil (.c (show true = true from rfl) .n)) (by kernel_rfl)

theorem play_pan (op : T_api_Op) : DCall Try.prog 51 zTurn (some (.one (.ifa 104 21 (fun i => (T_api_Op.c op).getD i .junk)))) (T_tape_Turn.c (playT (.pan op))) := by
  intro no S m w hS hno hrep x hx
  refine callsD_go (i := 0) (d := 4) (xv := _) (x := x) (u' := .panicking [{ v := x, recovered := true }]) Try.func51 rfl (fun ρ w => by simp [go_sem]) rfl rfl rfl (by kernel_rfl) (by kernel_rfl) hS hno hrep (fun c₀ cs hu => by cases c₀; cases hu; simp [recoverD]) hx (by kernel_rfl) ?_
  exact toEndH_g allOk 11 [rz, rz, rz, rz] [false, true] ⟨[], [(100000, nilTb)], [], [], [], [], [100000], []⟩ (.c (show false = false from rfl) (.c (show true = true from rfl) .n)) (by kernel_rfl)

theorem play_bad (s : ByteArray) : DCall Try.prog 51 zTurn (some (.one (.ifc 9 (.lit (.string s))))) (T_tape_Turn.c (playT (.bad s))) := by
  intro no S m w hS hno hrep x hx
  refine callsD_go (i := 0) (d := 4) (xv := _) (x := x) (u' := .panicking [{ v := x, recovered := true }]) Try.func51 rfl (fun ρ w => by simp [go_sem]) rfl rfl rfl (by kernel_rfl) (by kernel_rfl) hS hno hrep (fun c₀ cs hu => by cases c₀; cases hu; simp [recoverD]) hx (by kernel_rfl) ?_
  exact toEndH_g allOk 11 [rz, rz, rz, rz] [false, false] ⟨[], [(100000, nilTa ++ nilTb)], [], [], [], [], [100000], []⟩ (.c (show false = false from rfl) (.c (show false = false from rfl) .n)) (by kernel_rfl)



def g_tape_Drill_1_c0 (c0 : (List T_api_Op))  : Nat → (List T_api_Op) → Int → Int → T_tape_tape → T_api_Reply → Option (Tout T_api_Reply)
  | 0, _, _, _, _, _ => none
  | fu + 1, v6, v7, v8, b100000, b3 =>
    bif (decide (v8 < v7)) then
      need (0 ≤ v8 ∧ v8 < ((v6.length : Nat) : Int)) <|
      (g_tape_do b100000 (v6.getD v8.toNat T_api_Op.d)).bind fun x1 =>
      (match x1 with
      | .ret x1v x1g =>
        g_tape_Drill_1_c0 c0  fu v6 v7 (add64 v8 (1 : Int)) x1g b3
      | .pan x1o =>
        some (Tout.pan x1o)
      | .bad x1s =>
        some (Tout.bad x1s))
    else
      some (Tout.ret (T_api_Reply.mk (0 : Int) (T_api_End.mk (T_api_Addr.mk false (0 : Int) (0 : Int)) (0 : Int)) ((c0.length : Nat) : Int) (0 : Int) ([] : (List T_api_Peer))) b100000)

theorem g_tape_Drill_1_c0_ok (S0 : Nat → Prop) (w0 : Start) (c0 : (List T_api_Op))  : ∀ (fu : Nat) (v6 : (List T_api_Op)) (v7 : Int) (v8 : Int) (b100000 : T_tape_tape) (b3 : T_api_Reply) (r : (Tout T_api_Reply)), g_tape_Drill_1_c0 c0  fu v6 v7 v8 b100000 b3 = some r → Good Try.prog 19 S0 w0 (bodyPost Try.prog Try.f46 (OPost S0 w0 (oc (fun x => .agg (T_api_Reply.c x)) r))) (at_ [1, 0, 1, 0] (bodyOf Try.f46)) ⟨[(0, .one (.ifc 105 (.ptr 100000 0))), (1, .one (.rp false 1 (fun j => ([cL 21 T_api_Op.c T_api_Op.d c0] : List C).getD (0 + j) .junk))), (3, .one (.ptr 3 0)), (6, .one (cL 21 T_api_Op.c T_api_Op.d v6)), (7, .one (.lit (.int .i64 v7))), (8, .one (.lit (.int .i64 v8)))], [(100000, .box [cL 13 T_api_Value.c T_api_Value.d b100000.fgot]), (3, .box [.lit (.int .i64 b3.fCode), .lit (.bool b3.fEnd.fAddr.fV6), .lit (.int .u64 b3.fEnd.fAddr.fHi), .lit (.int .u64 b3.fEnd.fAddr.fLo), .lit (.int .i64 b3.fEnd.fPort), .lit (.int .i64 b3.fN), .lit (.int .i64 b3.fUntil), cL 10 T_api_Peer.c T_api_Peer.d b3.fPeers])]⟩ := by
  intro fu
  induction fu with
  | zero =>
    intro v6 v7 v8 b100000 b3 r hf
    simp [g_tape_Drill_1_c0] at hf
  | succ fu ih =>
    intro v6 v7 v8 b100000 b3 r hf
    unfold g_tape_Drill_1_c0 at hf
    rcases br_some hf with ⟨h1, hf⟩ | ⟨h1, hf⟩
    · obtain ⟨o2, hf⟩ := need_some hf
      obtain ⟨x1, q3, hf⟩ := bind_some' hf
      cases x1 with
      | ret x1v x1g =>
        dsimp only at hf
        exact toK_g allOk OPost.ends 14 [rz, rz, rH [] [(2, ⟨[(100000, 100000)], [], [(100000, .box (T_tape_tape.c x1g))], .tup []⟩)], rz] [true] ⟨[], [], [], [], [], [0, 1, 3, 6, 7, 8], [100000, 3], []⟩ (.c h1 (.c o2 (.c (g_tape_do_own b100000 (v6.getD v8.toNat T_api_Op.d) (.ret x1v x1g) q3) .n))) (by kernel_rfl) (ih v6 v7 (add64 v8 (1 : Int)) x1g b3 r hf)
      | pan x1o =>
        dsimp only at hf
        replace hf := Option.some.inj hf
        subst hf
        exact toPan_good allOk 10 _ _ [rz, rz] [true] (rz) 2 ⟨[(100000, 100000)], .one (.ifa 104 21 (fun i => (T_api_Op.c x1o).getD i .junk))⟩ (.c h1 (.c o2 (.c (g_tape_do_own b100000 (v6.getD v8.toNat T_api_Op.d) (.pan x1o) q3) .n))) (by kernel_rfl)
      | bad x1s =>
        dsimp only at hf
        replace hf := Option.some.inj hf
        subst hf
        exact toPan_good allOk 10 _ _ [rz, rz] [true] (rz) 2 ⟨[(100000, 100000)], .one (.ifc 9 (.lit (.string x1s)))⟩ (.c h1 (.c o2 (.c (g_tape_do_own b100000 (v6.getD v8.toNat T_api_Op.d) (.bad x1s) q3) .n))) (by kernel_rfl)
    · replace hf := Option.some.inj hf
      subst hf
      exact toEndO_g allOk 8 [rz, rz] [false] ⟨[], [(3, [(7, cL 10 T_api_Peer.c T_api_Peer.d [])])], [], [], [], [3], [3, 100000], []⟩ [100000] (.c h1 .n) (by kernel_rfl)

/-- doorman/tape.Drill$1 -/
def g_tape_Drill_1 (a0 : T_tape_tape) (c0 : (List T_api_Op)) : Option (Tout T_api_Reply) :=
  g_tape_Drill_1_c0 c0  ((((c0.length : Nat) : Int) - (0 : Int)).toNat + 2) c0 ((c0.length : Nat) : Int) (0 : Int) a0 (T_api_Reply.mk (0 : Int) (T_api_End.mk (T_api_Addr.mk false (0 : Int) (0 : Int)) (0 : Int)) (0 : Int) (0 : Int) ([] : (List T_api_Peer)))

theorem g_tape_Drill_1_own (a0 : T_tape_tape) (c0 : (List T_api_Op)) (r : (Tout T_api_Reply)) (hf : g_tape_Drill_1 a0 c0 = some r) : OCall Try.prog 46 [(100000, .box (T_tape_tape.c a0))] [.one (.ifc 105 (.ptr 100000 0)), .one (.rp false 1 (fun j => ([cL 21 T_api_Op.c T_api_Op.d c0] : List C).getD (0 + j) .junk))] (oc (fun x => .agg (T_api_Reply.c x)) r) := by
  refine OCall.of Try.func46 rfl rfl rfl rfl fun S0 w0 => ?_
  unfold g_tape_Drill_1 at hf
  exact toK_g allOk OPost.ends 6 [rz, rz] [] ⟨[], [(3, [(7, cL 10 T_api_Peer.c T_api_Peer.d [])])], [], [], [], [0, 1, 3, 6, 7, 8], [100000, 3], []⟩ .n (by kernel_rfl) (g_tape_Drill_1_c0_ok S0 w0 c0   ((((c0.length : Nat) : Int) - (0 : Int)).toNat + 2) c0 ((c0.length : Nat) : Int) (0 : Int) a0 (T_api_Reply.mk (0 : Int) (T_api_End.mk (T_api_Addr.mk false (0 : Int) (0 : Int)) (0 : Int)) (0 : Int) (0 : Int) ([] : (List T_api_Peer))) r hf)

/-- doorman/tape.Play of doorman/tape.Drill$1 -/
def g_tape_Play_46 (c0 : (List T_api_Op)) (a1 : List T_api_Value) : Option T_tape_Turn := (g_tape_Drill_1 ⟨a1⟩ c0).map playT

theorem g_tape_Play_46_ok (c0 : (List T_api_Op)) (a1 : List T_api_Value) (r : T_tape_Turn) (hf : g_tape_Play_46 c0 a1 = some r) : SCall Try.prog 25 [.one (.clo (.func 46) 0 1 (fun i => ([] : List C).getD i .junk) (fun i => ([.rp false 1 (fun j => ([cL 21 T_api_Op.c T_api_Op.d c0] : List C).getD (0 + j) .junk)] : List C).getD i .junk)), .one (cL 13 T_api_Value.c T_api_Value.d a1)] (.agg (T_tape_Turn.c r)) := by
  obtain ⟨o, ho, rfl⟩ := Option.map_eq_some_iff.1 hf
  have hinv : ∀ p w, (invoke (.fn (.func 51) #[p]) #[]).run Try.prog w = .ok (.enter 51 #[p]) w := fun p w => by simp [go_sem]
  cases o with
  | ret x g =>
    exact SCall.defR rz rz (rH [] [(5, ⟨[(100000, 9)], [], [(100000, .box (T_tape_tape.c g))], .agg (T_api_Reply.c x)⟩)]) 5 4 51 allOk Try.func25 rfl rfl rfl rfl rfl rfl (fun ρ w p h => by simp [go_sem, h]) (by kernel_rfl) hinv rfl rfl
      (.c (show Try.prog.concrete 105 = true from by kernel_rfl) (.c (g_tape_Drill_1_own ⟨a1⟩ c0 (.ret x g) ho) .n)) (by kernel_rfl) (play_idle x g) (by kernel_rfl) (by kernel_rfl) (by kernel_rfl)
  | pan op =>
    exact SCall.defP rz rz rz 5 4 51 5 ⟨[(100000, 9)], .one (.ifa 104 21 (fun i => (T_api_Op.c op).getD i .junk))⟩ allOk Try.func25 rfl rfl rfl rfl rfl rfl (fun ρ w p h => by simp [go_sem, h]) (by kernel_rfl) hinv rfl rfl
      (.c (show Try.prog.concrete 105 = true from by kernel_rfl) (.c (g_tape_Drill_1_own ⟨a1⟩ c0 (.pan op) ho) .n)) (by kernel_rfl) (play_pan op) (by kernel_rfl) (by kernel_rfl) (by kernel_rfl)
  | bad s =>
    exact SCall.defP rz rz rz 5 4 51 5 ⟨[(100000, 9)], .one (.ifc 9 (.lit (.string s)))⟩ allOk Try.func25 rfl rfl rfl rfl rfl rfl (fun ρ w p h => by simp [go_sem, h]) (by kernel_rfl) hinv rfl rfl
      (.c (show Try.prog.concrete 105 = true from by kernel_rfl) (.c (g_tape_Drill_1_own ⟨a1⟩ c0 (.bad s) ho) .n)) (by kernel_rfl) (play_bad s) (by kernel_rfl) (by kernel_rfl) (by kernel_rfl)

/-- doorman/tape.Drill -/
def g_tape_Drill (a0 : (List T_api_Op)) (a1 : (List T_api_Value)) : Option T_tape_Turn :=
  (g_tape_Play_46 a0 a1).bind fun x1 =>
  some x1

theorem g_tape_Drill_ok (a0 : (List T_api_Op)) (a1 : (List T_api_Value)) (r : T_tape_Turn) (hf : g_tape_Drill a0 a1 = some r) : SCall Try.prog 21 [.one (cL 21 T_api_Op.c T_api_Op.d a0), .one (cL 13 T_api_Value.c T_api_Value.d a1)] (.agg (T_tape_Turn.c r)) := by
  refine SCall.of Try.func21 rfl rfl rfl rfl fun S0 w0 => ?_
  unfold g_tape_Drill at hf
  obtain ⟨x1, q1, hf⟩ := bind_some' hf
  replace hf := Option.some.inj hf
  subst hf
  exact toEnd_g allOk 4 [rz, ⟨[(2, aG (T_tape_Turn.c x1))], [], [(0, [2])], [], [], [], []⟩] [] [] [] [] (.c (g_tape_Play_46_ok a0 a1 x1 q1) .n) (by kernel_rfl) rfl

/-- doorman/doormanlaw38.awake -/
def g_doormanlaw38_awake  : Option Bool :=
  need (0 ≤ (1 : Int) ∧ (1 : Int) ≤ (1 : Int) ∧ (1 : Int) ≤ 140737488355328 ∧ (1 : Int) * 136 ≤ 140737488355328) <|
  (g_tape_Drill ([(T_api_Op.mk (1 : Int) (1 : Int) (T_api_Loc.mk (0 : Int) (0 : Int) (0 : Int)) (0 : Int) (0 : Int) (T_api_Value.mk (0 : Int) (T_api_Peer.mk (T_api_End.mk (T_api_Addr.mk false (0 : Int) (0 : Int)) (0 : Int)) false (0 : Int) (T_api_Score.mk (0 : Int) (0 : Int)) (0 : Int) (0 : Int)) ([] : (List T_api_Ban)) ([] : (List T_api_Entry))) false), (T_api_Op.mk (8 : Int) (0 : Int) (T_api_Loc.mk (0 : Int) (0 : Int) (0 : Int)) (0 : Int) (0 : Int) (T_api_Value.mk (0 : Int) (T_api_Peer.mk (T_api_End.mk (T_api_Addr.mk false (0 : Int) (0 : Int)) (0 : Int)) false (0 : Int) (T_api_Score.mk (0 : Int) (0 : Int)) (0 : Int) (0 : Int)) ([] : (List T_api_Ban)) ([] : (List T_api_Entry))) false)] : List T_api_Op) (List.replicate (1 : Int).toNat T_api_Value.d)).bind fun x1 =>
  need (0 ≤ (2 : Int) ∧ (2 : Int) ≤ (2 : Int) ∧ (2 : Int) ≤ 140737488355328 ∧ (2 : Int) * 136 ≤ 140737488355328) <|
  (g_tape_Drill ([(T_api_Op.mk (1 : Int) (1 : Int) (T_api_Loc.mk (0 : Int) (0 : Int) (0 : Int)) (0 : Int) (0 : Int) (T_api_Value.mk (0 : Int) (T_api_Peer.mk (T_api_End.mk (T_api_Addr.mk false (0 : Int) (0 : Int)) (0 : Int)) false (0 : Int) (T_api_Score.mk (0 : Int) (0 : Int)) (0 : Int) (0 : Int)) ([] : (List T_api_Ban)) ([] : (List T_api_Entry))) false), (T_api_Op.mk (8 : Int) (0 : Int) (T_api_Loc.mk (0 : Int) (0 : Int) (0 : Int)) (0 : Int) (0 : Int) (T_api_Value.mk (0 : Int) (T_api_Peer.mk (T_api_End.mk (T_api_Addr.mk false (0 : Int) (0 : Int)) (0 : Int)) false (0 : Int) (T_api_Score.mk (0 : Int) (0 : Int)) (0 : Int) (0 : Int)) ([] : (List T_api_Ban)) ([] : (List T_api_Entry))) false)] : List T_api_Op) (List.replicate (2 : Int).toNat T_api_Value.d)).bind fun x2 =>
  (g_tape_Drill ([(T_api_Op.mk (0 : Int) (0 : Int) (T_api_Loc.mk (0 : Int) (0 : Int) (0 : Int)) (0 : Int) (0 : Int) (T_api_Value.mk (0 : Int) (T_api_Peer.mk (T_api_End.mk (T_api_Addr.mk false (0 : Int) (0 : Int)) (0 : Int)) false (0 : Int) (T_api_Score.mk (0 : Int) (0 : Int)) (0 : Int) (0 : Int)) ([] : (List T_api_Ban)) ([] : (List T_api_Entry))) false)] : List T_api_Op) ([] : (List T_api_Value))).bind fun x3 =>
  bif (x1.fOp.fKind == (8 : Int)) then
    bif (!x1.fDone) then
      bif x2.fDone then
        bif (x2.fReply.fN == (2 : Int)) then
          bif x3.fBroken then
            some (!x3.fDone)
          else
            some false
        else
          some false
      else
        some false
    else
      some false
  else
    some false

theorem g_doormanlaw38_awake_ok  (r : Bool) (hf : g_doormanlaw38_awake  = some r) : SCall Try.prog 20 [] (.one (.lit (.bool r))) := by
  refine SCall.of Try.func20 rfl rfl rfl rfl fun S0 w0 => ?_
  unfold g_doormanlaw38_awake at hf
  obtain ⟨o1, hf⟩ := need_some hf
  obtain ⟨x1, q2, hf⟩ := bind_some' hf
  obtain ⟨o3, hf⟩ := need_some hf
  obtain ⟨x2, q4, hf⟩ := bind_some' hf
  obtain ⟨x3, q5, hf⟩ := bind_some' hf
  rcases br_some hf with ⟨h6, hf⟩ | ⟨h6, hf⟩
  · rcases br_some hf with ⟨h7, hf⟩ | ⟨h7, hf⟩
    · rcases br_some hf with ⟨h8, hf⟩ | ⟨h8, hf⟩
      · rcases br_some hf with ⟨h9, hf⟩ | ⟨h9, hf⟩
        · rcases br_some hf with ⟨h10, hf⟩ | ⟨h10, hf⟩
          · replace hf := Option.some.inj hf
            subst hf
            exact toEnd_g allOk 10 [rz, ⟨[], [], [], [], [(0, [(18, cL 5 T_api_Ban.c T_api_Ban.d []), (19, cL 7 T_api_Entry.c T_api_Entry.d [])]), (1, [(18, cL 5 T_api_Ban.c T_api_Ban.d []), (19, cL 7 T_api_Entry.c T_api_Entry.d [])])], [(2, (([(T_api_Op.mk (1 : Int) (1 : Int) (T_api_Loc.mk (0 : Int) (0 : Int) (0 : Int)) (0 : Int) (0 : Int) (T_api_Value.mk (0 : Int) (T_api_Peer.mk (T_api_End.mk (T_api_Addr.mk false (0 : Int) (0 : Int)) (0 : Int)) false (0 : Int) (T_api_Score.mk (0 : Int) (0 : Int)) (0 : Int) (0 : Int)) ([] : (List T_api_Ban)) ([] : (List T_api_Entry))) false), (T_api_Op.mk (8 : Int) (0 : Int) (T_api_Loc.mk (0 : Int) (0 : Int) (0 : Int)) (0 : Int) (0 : Int) (T_api_Value.mk (0 : Int) (T_api_Peer.mk (T_api_End.mk (T_api_Addr.mk false (0 : Int) (0 : Int)) (0 : Int)) false (0 : Int) (T_api_Score.mk (0 : Int) (0 : Int)) (0 : Int) (0 : Int)) ([] : (List T_api_Ban)) ([] : (List T_api_Entry))) false)] : List T_api_Op).length, rowsOf T_api_Op.c T_api_Op.d ([(T_api_Op.mk (1 : Int) (1 : Int) (T_api_Loc.mk (0 : Int) (0 : Int) (0 : Int)) (0 : Int) (0 : Int) (T_api_Value.mk (0 : Int) (T_api_Peer.mk (T_api_End.mk (T_api_Addr.mk false (0 : Int) (0 : Int)) (0 : Int)) false (0 : Int) (T_api_Score.mk (0 : Int) (0 : Int)) (0 : Int) (0 : Int)) ([] : (List T_api_Ban)) ([] : (List T_api_Entry))) false), (T_api_Op.mk (8 : Int) (0 : Int) (T_api_Loc.mk (0 : Int) (0 : Int) (0 : Int)) (0 : Int) (0 : Int) (T_api_Value.mk (0 : Int) (T_api_Peer.mk (T_api_End.mk (T_api_Addr.mk false (0 : Int) (0 : Int)) (0 : Int)) false (0 : Int) (T_api_Score.mk (0 : Int) (0 : Int)) (0 : Int) (0 : Int)) ([] : (List T_api_Ban)) ([] : (List T_api_Entry))) false)] : List T_api_Op)))], []⟩, rA [(1, .r (.one (.sl 13 (List.replicate (1 : Int).toNat T_api_Value.d).length (rowsOf T_api_Value.c T_api_Value.d (List.replicate (1 : Int).toNat T_api_Value.d)))) []), (2, aG (T_tape_Turn.c x1)), (4, .r (.one (.sl 13 (List.replicate (2 : Int).toNat T_api_Value.d).length (rowsOf T_api_Value.c T_api_Value.d (List.replicate (2 : Int).toNat T_api_Value.d)))) []), (5, aG (T_tape_Turn.c x2))], ⟨[(2, aG (T_tape_Turn.c x3))], [], [], [], [(0, [(18, cL 5 T_api_Ban.c T_api_Ban.d []), (19, cL 7 T_api_Entry.c T_api_Entry.d [])])], [(1, (([(T_api_Op.mk (0 : Int) (0 : Int) (T_api_Loc.mk (0 : Int) (0 : Int) (0 : Int)) (0 : Int) (0 : Int) (T_api_Value.mk (0 : Int) (T_api_Peer.mk (T_api_End.mk (T_api_Addr.mk false (0 : Int) (0 : Int)) (0 : Int)) false (0 : Int) (T_api_Score.mk (0 : Int) (0 : Int)) (0 : Int) (0 : Int)) ([] : (List T_api_Ban)) ([] : (List T_api_Entry))) false)] : List T_api_Op).length, rowsOf T_api_Op.c T_api_Op.d ([(T_api_Op.mk (0 : Int) (0 : Int) (T_api_Loc.mk (0 : Int) (0 : Int) (0 : Int)) (0 : Int) (0 : Int) (T_api_Value.mk (0 : Int) (T_api_Peer.mk (T_api_End.mk (T_api_Addr.mk false (0 : Int) (0 : Int)) (0 : Int)) false (0 : Int) (T_api_Score.mk (0 : Int) (0 : Int)) (0 : Int) (0 : Int)) ([] : (List T_api_Ban)) ([] : (List T_api_Entry))) false)] : List T_api_Op)))], []⟩, rB [(4, true), (9, true), (13, true), (19, true), (23, true)]] [] [] [] [] (.c (show ([(T_api_Op.mk (1 : Int) (1 : Int) (T_api_Loc.mk (0 : Int) (0 : Int) (0 : Int)) (0 : Int) (0 : Int) (T_api_Value.mk (0 : Int) (T_api_Peer.mk (T_api_End.mk (T_api_Addr.mk false (0 : Int) (0 : Int)) (0 : Int)) false (0 : Int) (T_api_Score.mk (0 : Int) (0 : Int)) (0 : Int) (0 : Int)) ([] : (List T_api_Ban)) ([] : (List T_api_Entry))) false), (T_api_Op.mk (8 : Int) (0 : Int) (T_api_Loc.mk (0 : Int) (0 : Int) (0 : Int)) (0 : Int) (0 : Int) (T_api_Value.mk (0 : Int) (T_api_Peer.mk (T_api_End.mk (T_api_Addr.mk false (0 : Int) (0 : Int)) (0 : Int)) false (0 : Int) (T_api_Score.mk (0 : Int) (0 : Int)) (0 : Int) (0 : Int)) ([] : (List T_api_Ban)) ([] : (List T_api_Entry))) false)] : List T_api_Op).length = 2 ∧ ∀ i j, i < 2 → j < 21 → rowsOf T_api_Op.c T_api_Op.d ([(T_api_Op.mk (1 : Int) (1 : Int) (T_api_Loc.mk (0 : Int) (0 : Int) (0 : Int)) (0 : Int) (0 : Int) (T_api_Value.mk (0 : Int) (T_api_Peer.mk (T_api_End.mk (T_api_Addr.mk false (0 : Int) (0 : Int)) (0 : Int)) false (0 : Int) (T_api_Score.mk (0 : Int) (0 : Int)) (0 : Int) (0 : Int)) ([] : (List T_api_Ban)) ([] : (List T_api_Entry))) false), (T_api_Op.mk (8 : Int) (0 : Int) (T_api_Loc.mk (0 : Int) (0 : Int) (0 : Int)) (0 : Int) (0 : Int) (T_api_Value.mk (0 : Int) (T_api_Peer.mk (T_api_End.mk (T_api_Addr.mk false (0 : Int) (0 : Int)) (0 : Int)) false (0 : Int) (T_api_Score.mk (0 : Int) (0 : Int)) (0 : Int) (0 : Int)) ([] : (List T_api_Ban)) ([] : (List T_api_Entry))) false)] : List T_api_Op) i j = (([(T_api_Op.mk (1 : Int) (1 : Int) (T_api_Loc.mk (0 : Int) (0 : Int) (0 : Int)) (0 : Int) (0 : Int) (T_api_Value.mk (0 : Int) (T_api_Peer.mk (T_api_End.mk (T_api_Addr.mk false (0 : Int) (0 : Int)) (0 : Int)) false (0 : Int) (T_api_Score.mk (0 : Int) (0 : Int)) (0 : Int) (0 : Int)) ([] : (List T_api_Ban)) ([] : (List T_api_Entry))) false), (T_api_Op.mk (8 : Int) (0 : Int) (T_api_Loc.mk (0 : Int) (0 : Int) (0 : Int)) (0 : Int) (0 : Int) (T_api_Value.mk (0 : Int) (T_api_Peer.mk (T_api_End.mk (T_api_Addr.mk false (0 : Int) (0 : Int)) (0 : Int)) false (0 : Int) (T_api_Score.mk (0 : Int) (0 : Int)) (0 : Int) (0 : Int)) ([] : (List T_api_Ban)) ([] : (List T_api_Entry))) false)] : List T_api_Op).flatMap T_api_Op.c).getD (i * 21 + j) .junk from ⟨rfl, fun i j hi hj => rows_flat (sz := 21) (e := T_api_Op.c) (d := T_api_Op.d) (fun _ => rfl) ([(T_api_Op.mk (1 : Int) (1 : Int) (T_api_Loc.mk (0 : Int) (0 : Int) (0 : Int)) (0 : Int) (0 : Int) (T_api_Value.mk (0 : Int) (T_api_Peer.mk (T_api_End.mk (T_api_Addr.mk false (0 : Int) (0 : Int)) (0 : Int)) false (0 : Int) (T_api_Score.mk (0 : Int) (0 : Int)) (0 : Int) (0 : Int)) ([] : (List T_api_Ban)) ([] : (List T_api_Entry))) false), (T_api_Op.mk (8 : Int) (0 : Int) (T_api_Loc.mk (0 : Int) (0 : Int) (0 : Int)) (0 : Int) (0 : Int) (T_api_Value.mk (0 : Int) (T_api_Peer.mk (T_api_End.mk (T_api_Addr.mk false (0 : Int) (0 : Int)) (0 : Int)) false (0 : Int) (T_api_Score.mk (0 : Int) (0 : Int)) (0 : Int) (0 : Int)) ([] : (List T_api_Ban)) ([] : (List T_api_Entry))) false)] : List T_api_Op) i j hi hj⟩) (.c (show (1 : Int) = (((List.replicate (1 : Int).toNat T_api_Value.d).length : Nat) : Int) from (by rw [List.length_replicate]; exact (Int.toNat_of_nonneg o1.1).symm)) (.c (show (((List.replicate (1 : Int).toNat T_api_Value.d).length : Nat) : Int) ≤ (1 : Int) from (by rw [List.length_replicate]; exact ((Int.toNat_of_nonneg o1.1).symm ▸ o1.2.1))) (.c o1.2.2.1 (.c o1.2.2.2 (.c (show ∀ i j, i < (List.replicate (1 : Int).toNat T_api_Value.d).length → j < 13 → orNil (([.lit (.int .i64 (0)), .lit (.bool false), .lit (.int .u64 (0)), .lit (.int .u64 (0)), .lit (.int .i64 (0)), .lit (.bool false), .lit (.int .i64 (0)), .lit (.int .i64 (0)), .lit (.int .i64 (0)), .lit (.int .i64 (0)), .lit (.int .i64 (0)), .lit (.slice none 0 0), .lit (.slice none 0 0)] : List C).getD j .junk) (rowsOf T_api_Value.c T_api_Value.d (List.replicate (1 : Int).toNat T_api_Value.d) i j) from (by rw [List.length_replicate]; exact (make_orNil (fun j hj => match j, hj with | 0, _ => .inl rfl | 1, _ => .inl rfl | 2, _ => .inl rfl | 3, _ => .inl rfl | 4, _ => .inl rfl | 5, _ => .inl rfl | 6, _ => .inl rfl | 7, _ => .inl rfl | 8, _ => .inl rfl | 9, _ => .inl rfl | 10, _ => .inl rfl | 11, _ => .inr ⟨rfl, _, _, rfl⟩ | 12, _ => .inr ⟨rfl, _, _, rfl⟩ | j + 13, h => absurd h (by omega)) _))) (.c (g_tape_Drill_ok ([(T_api_Op.mk (1 : Int) (1 : Int) (T_api_Loc.mk (0 : Int) (0 : Int) (0 : Int)) (0 : Int) (0 : Int) (T_api_Value.mk (0 : Int) (T_api_Peer.mk (T_api_End.mk (T_api_Addr.mk false (0 : Int) (0 : Int)) (0 : Int)) false (0 : Int) (T_api_Score.mk (0 : Int) (0 : Int)) (0 : Int) (0 : Int)) ([] : (List T_api_Ban)) ([] : (List T_api_Entry))) false), (T_api_Op.mk (8 : Int) (0 : Int) (T_api_Loc.mk (0 : Int) (0 : Int) (0 : Int)) (0 : Int) (0 : Int) (T_api_Value.mk (0 : Int) (T_api_Peer.mk (T_api_End.mk (T_api_Addr.mk false (0 : Int) (0 : Int)) (0 : Int)) false (0 : Int) (T_api_Score.mk (0 : Int) (0 : Int)) (0 : Int) (0 : Int)) ([] : (List T_api_Ban)) ([] : (List T_api_Entry))) false)] : List T_api_Op) (List.replicate (1 : Int).toNat T_api_Value.d) x1 q2) (.c (show (2 : Int) = (((List.replicate (2 : Int).toNat T_api_Value.d).length : Nat) : Int) from (by rw [List.length_replicate]; exact (Int.toNat_of_nonneg o3.1).symm)) (.c (show (((List.replicate (2 : Int).toNat T_api_Value.d).length : Nat) : Int) ≤ (2 : Int) from (by rw [List.length_replicate]; exact ((Int.toNat_of_nonneg o3.1).symm ▸ o3.2.1))) (.c o3.2.2.1 (.c o3.2.2.2 (.c (show ∀ i j, i < (List.replicate (2 : Int).toNat T_api_Value.d).length → j < 13 → orNil (([.lit (.int .i64 (0)), .lit (.bool false), .lit (.int .u64 (0)), .lit (.int .u64 (0)), .lit (.int .i64 (0)), .lit (.bool false), .lit (.int .i64 (0)), .lit (.int .i64 (0)), .lit (.int .i64 (0)), .lit (.int .i64 (0)), .lit (.int .i64 (0)), .lit (.slice none 0 0), .lit (.slice none 0 0)] : List C).getD j .junk) (rowsOf T_api_Value.c T_api_Value.d (List.replicate (2 : Int).toNat T_api_Value.d) i j) from (by rw [List.length_replicate]; exact (make_orNil (fun j hj => match j, hj with | 0, _ => .inl rfl | 1, _ => .inl rfl | 2, _ => .inl rfl | 3, _ => .inl rfl | 4, _ => .inl rfl | 5, _ => .inl rfl | 6, _ => .inl rfl | 7, _ => .inl rfl | 8, _ => .inl rfl | 9, _ => .inl rfl | 10, _ => .inl rfl | 11, _ => .inr ⟨rfl, _, _, rfl⟩ | 12, _ => .inr ⟨rfl, _, _, rfl⟩ | j + 13, h => absurd h (by omega)) _))) (.c (g_tape_Drill_ok ([(T_api_Op.mk (1 : Int) (1 : Int) (T_api_Loc.mk (0 : Int) (0 : Int) (0 : Int)) (0 : Int) (0 : Int) (T_api_Value.mk (0 : Int) (T_api_Peer.mk (T_api_End.mk (T_api_Addr.mk false (0 : Int) (0 : Int)) (0 : Int)) false (0 : Int) (T_api_Score.mk (0 : Int) (0 : Int)) (0 : Int) (0 : Int)) ([] : (List T_api_Ban)) ([] : (List T_api_Entry))) false), (T_api_Op.mk (8 : Int) (0 : Int) (T_api_Loc.mk (0 : Int) (0 : Int) (0 : Int)) (0 : Int) (0 : Int) (T_api_Value.mk (0 : Int) (T_api_Peer.mk (T_api_End.mk (T_api_Addr.mk false (0 : Int) (0 : Int)) (0 : Int)) false (0 : Int) (T_api_Score.mk (0 : Int) (0 : Int)) (0 : Int) (0 : Int)) ([] : (List T_api_Ban)) ([] : (List T_api_Entry))) false)] : List T_api_Op) (List.replicate (2 : Int).toNat T_api_Value.d) x2 q4) (.c (show ([(T_api_Op.mk (0 : Int) (0 : Int) (T_api_Loc.mk (0 : Int) (0 : Int) (0 : Int)) (0 : Int) (0 : Int) (T_api_Value.mk (0 : Int) (T_api_Peer.mk (T_api_End.mk (T_api_Addr.mk false (0 : Int) (0 : Int)) (0 : Int)) false (0 : Int) (T_api_Score.mk (0 : Int) (0 : Int)) (0 : Int) (0 : Int)) ([] : (List T_api_Ban)) ([] : (List T_api_Entry))) false)] : List T_api_Op).length = 1 ∧ ∀ i j, i < 1 → j < 21 → rowsOf T_api_Op.c T_api_Op.d ([(T_api_Op.mk (0 : Int) (0 : Int) (T_api_Loc.mk (0 : Int) (0 : Int) (0 : Int)) (0 : Int) (0 : Int) (T_api_Value.mk (0 : Int) (T_api_Peer.mk (T_api_End.mk (T_api_Addr.mk false (0 : Int) (0 : Int)) (0 : Int)) false (0 : Int) (T_api_Score.mk (0 : Int) (0 : Int)) (0 : Int) (0 : Int)) ([] : (List T_api_Ban)) ([] : (List T_api_Entry))) false)] : List T_api_Op) i j = (([(T_api_Op.mk (0 : Int) (0 : Int) (T_api_Loc.mk (0 : Int) (0 : Int) (0 : Int)) (0 : Int) (0 : Int) (T_api_Value.mk (0 : Int) (T_api_Peer.mk (T_api_End.mk (T_api_Addr.mk false (0 : Int) (0 : Int)) (0 : Int)) false (0 : Int) (T_api_Score.mk (0 : Int) (0 : Int)) (0 : Int) (0 : Int)) ([] : (List T_api_Ban)) ([] : (List T_api_Entry))) false)] : List T_api_Op).flatMap T_api_Op.c).getD (i * 21 + j) .junk from ⟨rfl, fun i j hi hj => rows_flat (sz := 21) (e := T_api_Op.c) (d := T_api_Op.d) (fun _ => rfl) ([(T_api_Op.mk (0 : Int) (0 : Int) (T_api_Loc.mk (0 : Int) (0 : Int) (0 : Int)) (0 : Int) (0 : Int) (T_api_Value.mk (0 : Int) (T_api_Peer.mk (T_api_End.mk (T_api_Addr.mk false (0 : Int) (0 : Int)) (0 : Int)) false (0 : Int) (T_api_Score.mk (0 : Int) (0 : Int)) (0 : Int) (0 : Int)) ([] : (List T_api_Ban)) ([] : (List T_api_Entry))) false)] : List T_api_Op) i j hi hj⟩) (.c (show SCall Try.prog 21 [.one (cL 21 T_api_Op.c T_api_Op.d ([(T_api_Op.mk (0 : Int) (0 : Int) (T_api_Loc.mk (0 : Int) (0 : Int) (0 : Int)) (0 : Int) (0 : Int) (T_api_Value.mk (0 : Int) (T_api_Peer.mk (T_api_End.mk (T_api_Addr.mk false (0 : Int) (0 : Int)) (0 : Int)) false (0 : Int) (T_api_Score.mk (0 : Int) (0 : Int)) (0 : Int) (0 : Int)) ([] : (List T_api_Ban)) ([] : (List T_api_Entry))) false)] : List T_api_Op)), .one (.lit (.slice none 0 0))] (.agg (T_tape_Turn.c x3)) from ((g_tape_Drill_ok ([(T_api_Op.mk (0 : Int) (0 : Int) (T_api_Loc.mk (0 : Int) (0 : Int) (0 : Int)) (0 : Int) (0 : Int) (T_api_Value.mk (0 : Int) (T_api_Peer.mk (T_api_End.mk (T_api_Addr.mk false (0 : Int) (0 : Int)) (0 : Int)) false (0 : Int) (T_api_Score.mk (0 : Int) (0 : Int)) (0 : Int) (0 : Int)) ([] : (List T_api_Ban)) ([] : (List T_api_Entry))) false)] : List T_api_Op) ([] : (List T_api_Value)) x3 q5).weak (.cons (.refl _) (.cons (.one (.nul _ _)) .nil)))) (.c h6 (.c h7 (.c h8 (.c h9 (.c h10 .n)))))))))))))))))))) (by kernel_rfl) rfl
          · replace hf := Option.some.inj hf
            subst hf
            exact toEnd_g allOk 10 [rz, ⟨[], [], [], [], [(0, [(18, cL 5 T_api_Ban.c T_api_Ban.d []), (19, cL 7 T_api_Entry.c T_api_Entry.d [])]), (1, [(18, cL 5 T_api_Ban.c T_api_Ban.d []), (19, cL 7 T_api_Entry.c T_api_Entry.d [])])], [(2, (([(T_api_Op.mk (1 : Int) (1 : Int) (T_api_Loc.mk (0 : Int) (0 : Int) (0 : Int)) (0 : Int) (0 : Int) (T_api_Value.mk (0 : Int) (T_api_Peer.mk (T_api_End.mk (T_api_Addr.mk false (0 : Int) (0 : Int)) (0 : Int)) false (0 : Int) (T_api_Score.mk (0 : Int) (0 : Int)) (0 : Int) (0 : Int)) ([] : (List T_api_Ban)) ([] : (List T_api_Entry))) false), (T_api_Op.mk (8 : Int) (0 : Int) (T_api_Loc.mk (0 : Int) (0 : Int) (0 : Int)) (0 : Int) (0 : Int) (T_api_Value.mk (0 : Int) (T_api_Peer.mk (T_api_End.mk (T_api_Addr.mk false (0 : Int) (0 : Int)) (0 : Int)) false (0 : Int) (T_api_Score.mk (0 : Int) (0 : Int)) (0 : Int) (0 : Int)) ([] : (List T_api_Ban)) ([] : (List T_api_Entry))) false)] : List T_api_Op).length, rowsOf T_api_Op.c T_api_Op.d ([(T_api_Op.mk (1 : Int) (1 : Int) (T_api_Loc.mk (0 : Int) (0 : Int) (0 : Int)) (0 : Int) (0 : Int) (T_api_Value.mk (0 : Int) (T_api_Peer.mk (T_api_End.mk (T_api_Addr.mk false (0 : Int) (0 : Int)) (0 : Int)) false (0 : Int) (T_api_Score.mk (0 : Int) (0 : Int)) (0 : Int) (0 : Int)) ([] : (List T_api_Ban)) ([] : (List T_api_Entry))) false), (T_api_Op.mk (8 : Int) (0 : Int) (T_api_Loc.mk (0 : Int) (0 : Int) (0 : Int)) (0 : Int) (0 : Int) (T_api_Value.mk (0 : Int) (T_api_Peer.mk (T_api_End.mk (T_api_Addr.mk false (0 : Int) (0 : Int)) (0 : Int)) false (0 : Int) (T_api_Score.mk (0 : Int) (0 : Int)) (0 : Int) (0 : Int)) ([] : (List T_api_Ban)) ([] : (List T_api_Entry))) false)] : List T_api_Op)))], []⟩, rA [(1, .r (.one (.sl 13 (List.replicate (1 : Int).toNat T_api_Value.d).length (rowsOf T_api_Value.c T_api_Value.d (List.replicate (1 : Int).toNat T_api_Value.d)))) []), (2, aG (T_tape_Turn.c x1)), (4, .r (.one (.sl 13 (List.replicate (2 : Int).toNat T_api_Value.d).length (rowsOf T_api_Value.c T_api_Value.d (List.replicate (2 : Int).toNat T_api_Value.d)))) []), (5, aG (T_tape_Turn.c x2))], ⟨[(2, aG (T_tape_Turn.c x3))], [], [], [], [(0, [(18, cL 5 T_api_Ban.c T_api_Ban.d []), (19, cL 7 T_api_Entry.c T_api_Entry.d [])])], [(1, (([(T_api_Op.mk (0 : Int) (0 : Int) (T_api_Loc.mk (0 : Int) (0 : Int) (0 : Int)) (0 : Int) (0 : Int) (T_api_Value.mk (0 : Int) (T_api_Peer.mk (T_api_End.mk (T_api_Addr.mk false (0 : Int) (0 : Int)) (0 : Int)) false (0 : Int) (T_api_Score.mk (0 : Int) (0 : Int)) (0 : Int) (0 : Int)) ([] : (List T_api_Ban)) ([] : (List T_api_Entry))) false)] : List T_api_Op).length, rowsOf T_api_Op.c T_api_Op.d ([(T_api_Op.mk (0 : Int) (0 : Int) (T_api_Loc.mk (0 : Int) (0 : Int) (0 : Int)) (0 : Int) (0 : Int) (T_api_Value.mk (0 : Int) (T_api_Peer.mk (T_api_End.mk (T_api_Addr.mk false (0 : Int) (0 : Int)) (0 : Int)) false (0 : Int) (T_api_Score.mk (0 : Int) (0 : Int)) (0 : Int) (0 : Int)) ([] : (List T_api_Ban)) ([] : (List T_api_Entry))) false)] : List T_api_Op)))], []⟩, rB [(4, true), (9, true), (13, true), (19, true), (23, false)]] [] [] [] [] (.c (show ([(T_api_Op.mk (1 : Int) (1 : Int) (T_api_Loc.mk (0 : Int) (0 : Int) (0 : Int)) (0 : Int) (0 : Int) (T_api_Value.mk (0 : Int) (T_api_Peer.mk (T_api_End.mk (T_api_Addr.mk false (0 : Int) (0 : Int)) (0 : Int)) false (0 : Int) (T_api_Score.mk (0 : Int) (0 : Int)) (0 : Int) (0 : Int)) ([] : (List T_api_Ban)) ([] : (List T_api_Entry))) false), (T_api_Op.mk (8 : Int) (0 : Int) (T_api_Loc.mk (0 : Int) (0 : Int) (0 : Int)) (0 : Int) (0 : Int) (T_api_Value.mk (0 : Int) (T_api_Peer.mk (T_api_End.mk (T_api_Addr.mk false (0 : Int) (0 : Int)) (0 : Int)) false (0 : Int) (T_api_Score.mk (0 : Int) (0 : Int)) (0 : Int) (0 : Int)) ([] : (List T_api_Ban)) ([] : (List T_api_Entry))) false)] : List T_api_Op).length = 2 ∧ ∀ i j, i < 2 → j < 21 → rowsOf T_api_Op.c T_api_Op.d ([(T_api_Op.mk (1 : Int) (1 : Int) (T_api_Loc.mk (0 : Int) (0 : Int) (0 : Int)) (0 : Int) (0 : Int) (T_api_Value.mk (0 : Int) (T_api_Peer.mk (T_api_End.mk (T_api_Addr.mk false (0 : Int) (0 : Int)) (0 : Int)) false (0 : Int) (T_api_Score.mk (0 : Int) (0 : Int)) (0 : Int) (0 : Int)) ([] : (List T_api_Ban)) ([] : (List T_api_Entry))) false), (T_api_Op.mk (8 : Int) (0 : Int) (T_api_Loc.mk (0 : Int) (0 : Int) (0 : Int)) (0 : Int) (0 : Int) (T_api_Value.mk (0 : Int) (T_api_Peer.mk (T_api_End.mk (T_api_Addr.mk false (0 : Int) (0 : Int)) (0 : Int)) false (0 : Int) (T_api_Score.mk (0 : Int) (0 : Int)) (0 : Int) (0 : Int)) ([] : (List T_api_Ban)) ([] : (List T_api_Entry))) false)] : List T_api_Op) i j = (([(T_api_Op.mk (1 : Int) (1 : Int) (T_api_Loc.mk (0 : Int) (0 : Int) (0 : Int)) (0 : Int) (0 : Int) (T_api_Value.mk (0 : Int) (T_api_Peer.mk (T_api_End.mk (T_api_Addr.mk false (0 : Int) (0 : Int)) (0 : Int)) false (0 : Int) (T_api_Score.mk (0 : Int) (0 : Int)) (0 : Int) (0 : Int)) ([] : (List T_api_Ban)) ([] : (List T_api_Entry))) false), (T_api_Op.mk (8 : Int) (0 : Int) (T_api_Loc.mk (0 : Int) (0 : Int) (0 : Int)) (0 : Int) (0 : Int) (T_api_Value.mk (0 : Int) (T_api_Peer.mk (T_api_End.mk (T_api_Addr.mk false (0 : Int) (0 : Int)) (0 : Int)) false (0 : Int) (T_api_Score.mk (0 : Int) (0 : Int)) (0 : Int) (0 : Int)) ([] : (List T_api_Ban)) ([] : (List T_api_Entry))) false)] : List T_api_Op).flatMap T_api_Op.c).getD (i * 21 + j) .junk from ⟨rfl, fun i j hi hj => rows_flat (sz := 21) (e := T_api_Op.c) (d := T_api_Op.d) (fun _ => rfl) ([(T_api_Op.mk (1 : Int) (1 : Int) (T_api_Loc.mk (0 : Int) (0 : Int) (0 : Int)) (0 : Int) (0 : Int) (T_api_Value.mk (0 : Int) (T_api_Peer.mk (T_api_End.mk (T_api_Addr.mk false (0 : Int) (0 : Int)) (0 : Int)) false (0 : Int) (T_api_Score.mk (0 : Int) (0 : Int)) (0 : Int) (0 : Int)) ([] : (List T_api_Ban)) ([] : (List T_api_Entry))) false), (T_api_Op.mk (8 : Int) (0 : Int) (T_api_Loc.mk (0 : Int) (0 : Int) (0 : Int)) (0 : Int) (0 : Int) (T_api_Value.mk (0 : Int) (T_api_Peer.mk (T_api_End.mk (T_api_Addr.mk false (0 : Int) (0 : Int)) (0 : Int)) false (0 : Int) (T_api_Score.mk (0 : Int) (0 : Int)) (0 : Int) (0 : Int)) ([] : (List T_api_Ban)) ([] : (List T_api_Entry))) false)] : List T_api_Op) i j hi hj⟩) (.c (show (1 : Int) = (((List.replicate (1 : Int).toNat T_api_Value.d).length : Nat) : Int) from (by rw [List.length_replicate]; exact (Int.toNat_of_nonneg o1.1).symm)) (.c (show (((List.replicate (1 : Int).toNat T_api_Value.d).length : Nat) : Int) ≤ (1 : Int) from (by rw [List.length_replicate]; exact ((Int.toNat_of_nonneg o1.1).symm ▸ o1.2.1))) (.c o1.2.2.1 (.c o1.2.2.2 (.c (show ∀ i j, i < (List.replicate (1 : Int).toNat T_api_Value.d).length → j < 13 → orNil (([.lit (.int .i64 (0)), .lit (.bool false), .lit (.int .u64 (0)), .lit (.int .u64 (0)), .lit (.int .i64 (0)), .lit (.bool false), .lit (.int .i64 (0)), .lit (.int .i64 (0)), .lit (.int .i64 (0)), .lit (.int .i64 (0)), .lit (.int .i64 (0)), .lit (.slice none 0 0), .lit (.slice none 0 0)] : List C).getD j .junk) (rowsOf T_api_Value.c T_api_Value.d (List.replicate (1 : Int).toNat T_api_Value.d) i j) from (by rw [List.length_replicate]; exact (make_orNil (fun j hj => match j, hj with | 0, _ => .inl rfl | 1, _ => .inl rfl | 2, _ => .inl rfl | 3, _ => .inl rfl | 4, _ => .inl rfl | 5, _ => .inl rfl | 6, _ => .inl rfl | 7, _ => .inl rfl | 8, _ => .inl rfl | 9, _ => .inl rfl | 10, _ => .inl rfl | 11, _ => .inr ⟨rfl, _, _, rfl⟩ | 12, _ => .inr ⟨rfl, _, _, rfl⟩ | j + 13, h => absurd h (by omega)) _))) (.c (g_tape_Drill_ok ([(T_api_Op.mk (1 : Int) (1 : Int) (T_api_Loc.mk (0 : Int) (0 : Int) (0 : Int)) (0 : Int) (0 : Int) (T_api_Value.mk (0 : Int) (T_api_Peer.mk (T_api_End.mk (T_api_Addr.mk false (0 : Int) (0 : Int)) (0 : Int)) false (0 : Int) (T_api_Score.mk (0 : Int) (0 : Int)) (0 : Int) (0 : Int)) ([] : (List T_api_Ban)) ([] : (List T_api_Entry))) false), (T_api_Op.mk (8 : Int) (0 : Int) (T_api_Loc.mk (0 : Int) (0 : Int) (0 : Int)) (0 : Int) (0 : Int) (T_api_Value.mk (0 : Int) (T_api_Peer.mk (T_api_End.mk (T_api_Addr.mk false (0 : Int) (0 : Int)) (0 : Int)) false (0 : Int) (T_api_Score.mk (0 : Int) (0 : Int)) (0 : Int) (0 : Int)) ([] : (List T_api_Ban)) ([] : (List T_api_Entry))) false)] : List T_api_Op) (List.replicate (1 : Int).toNat T_api_Value.d) x1 q2) (.c (show (2 : Int) = (((List.replicate (2 : Int).toNat T_api_Value.d).length : Nat) : Int) from (by rw [List.length_replicate]; exact (Int.toNat_of_nonneg o3.1).symm)) (.c (show (((List.replicate (2 : Int).toNat T_api_Value.d).length : Nat) : Int) ≤ (2 : Int) from (by rw [List.length_replicate]; exact ((Int.toNat_of_nonneg o3.1).symm ▸ o3.2.1))) (.c o3.2.2.1 (.c o3.2.2.2 (.c (show ∀ i j, i < (List.replicate (2 : Int).toNat T_api_Value.d).length → j < 13 → orNil (([.lit (.int .i64 (0)), .lit (.bool false), .lit (.int .u64 (0)), .lit (.int .u64 (0)), .lit (.int .i64 (0)), .lit (.bool false), .lit (.int .i64 (0)), .lit (.int .i64 (0)), .lit (.int .i64 (0)), .lit (.int .i64 (0)), .lit (.int .i64 (0)), .lit (.slice none 0 0), .lit (.slice none 0 0)] : List C).getD j .junk) (rowsOf T_api_Value.c T_api_Value.d (List.replicate (2 : Int).toNat T_api_Value.d) i j) from (by rw [List.length_replicate]; exact (make_orNil (fun j hj => match j, hj with | 0, _ => .inl rfl | 1, _ => .inl rfl | 2, _ => .inl rfl | 3, _ => .inl rfl | 4, _ => .inl rfl | 5, _ => .inl rfl | 6, _ => .inl rfl | 7, _ => .inl rfl | 8, _ => .inl rfl | 9, _ => .inl rfl | 10, _ => .inl rfl | 11, _ => .inr ⟨rfl, _, _, rfl⟩ | 12, _ => .inr ⟨rfl, _, _, rfl⟩ | j + 13, h => absurd h (by omega)) _))) (.c (g_tape_Drill_ok ([(T_api_Op.mk (1 : Int) (1 : Int) (T_api_Loc.mk (0 : Int) (0 : Int) (0 : Int)) (0 : Int) (0 : Int) (T_api_Value.mk (0 : Int) (T_api_Peer.mk (T_api_End.mk (T_api_Addr.mk false (0 : Int) (0 : Int)) (0 : Int)) false (0 : Int) (T_api_Score.mk (0 : Int) (0 : Int)) (0 : Int) (0 : Int)) ([] : (List T_api_Ban)) ([] : (List T_api_Entry))) false), (T_api_Op.mk (8 : Int) (0 : Int) (T_api_Loc.mk (0 : Int) (0 : Int) (0 : Int)) (0 : Int) (0 : Int) (T_api_Value.mk (0 : Int) (T_api_Peer.mk (T_api_End.mk (T_api_Addr.mk false (0 : Int) (0 : Int)) (0 : Int)) false (0 : Int) (T_api_Score.mk (0 : Int) (0 : Int)) (0 : Int) (0 : Int)) ([] : (List T_api_Ban)) ([] : (List T_api_Entry))) false)] : List T_api_Op) (List.replicate (2 : Int).toNat T_api_Value.d) x2 q4) (.c (show ([(T_api_Op.mk (0 : Int) (0 : Int) (T_api_Loc.mk (0 : Int) (0 : Int) (0 : Int)) (0 : Int) (0 : Int) (T_api_Value.mk (0 : Int) (T_api_Peer.mk (T_api_End.mk (T_api_Addr.mk false (0 : Int) (0 : Int)) (0 : Int)) false (0 : Int) (T_api_Score.mk (0 : Int) (0 : Int)) (0 : Int) (0 : Int)) ([] : (List T_api_Ban)) ([] : (List T_api_Entry))) false)] : List T_api_Op).length = 1 ∧ ∀ i j, i < 1 → j < 21 → rowsOf T_api_Op.c T_api_Op.d ([(T_api_Op.mk (0 : Int) (0 : Int) (T_api_Loc.mk (0 : Int) (0 : Int) (0 : Int)) (0 : Int) (0 : Int) (T_api_Value.mk (0 : Int) (T_api_Peer.mk (T_api_End.mk (T_api_Addr.mk false (0 : Int) (0 : Int)) (0 : Int)) false (0 : Int) (T_api_Score.mk (0 : Int) (0 : Int)) (0 : Int) (0 : Int)) ([] : (List T_api_Ban)) ([] : (List T_api_Entry))) false)] : List T_api_Op) i j = (([(T_api_Op.mk (0 : Int) (0 : Int) (T_api_Loc.mk (0 : Int) (0 : Int) (0 : Int)) (0 : Int) (0 : Int) (T_api_Value.mk (0 : Int) (T_api_Peer.mk (T_api_End.mk (T_api_Addr.mk false (0 : Int) (0 : Int)) (0 : Int)) false (0 : Int) (T_api_Score.mk (0 : Int) (0 : Int)) (0 : Int) (0 : Int)) ([] : (List T_api_Ban)) ([] : (List T_api_Entry))) false)] : List T_api_Op).flatMap T_api_Op.c).getD (i * 21 + j) .junk from ⟨rfl, fun i j hi hj => rows_flat (sz := 21) (e := T_api_Op.c) (d := T_api_Op.d) (fun _ => rfl) ([(T_api_Op.mk (0 : Int) (0 : Int) (T_api_Loc.mk (0 : Int) (0 : Int) (0 : Int)) (0 : Int) (0 : Int) (T_api_Value.mk (0 : Int) (T_api_Peer.mk (T_api_End.mk (T_api_Addr.mk false (0 : Int) (0 : Int)) (0 : Int)) false (0 : Int) (T_api_Score.mk (0 : Int) (0 : Int)) (0 : Int) (0 : Int)) ([] : (List T_api_Ban)) ([] : (List T_api_Entry))) false)] : List T_api_Op) i j hi hj⟩) (.c (show SCall Try.prog 21 [.one (cL 21 T_api_Op.c T_api_Op.d ([(T_api_Op.mk (0 : Int) (0 : Int) (T_api_Loc.mk (0 : Int) (0 : Int) (0 : Int)) (0 : Int) (0 : Int) (T_api_Value.mk (0 : Int) (T_api_Peer.mk (T_api_End.mk (T_api_Addr.mk false (0 : Int) (0 : Int)) (0 : Int)) false (0 : Int) (T_api_Score.mk (0 : Int) (0 : Int)) (0 : Int) (0 : Int)) ([] : (List T_api_Ban)) ([] : (List T_api_Entry))) false)] : List T_api_Op)), .one (.lit (.slice none 0 0))] (.agg (T_tape_Turn.c x3)) from ((g_tape_Drill_ok ([(T_api_Op.mk (0 : Int) (0 : Int) (T_api_Loc.mk (0 : Int) (0 : Int) (0 : Int)) (0 : Int) (0 : Int) (T_api_Value.mk (0 : Int) (T_api_Peer.mk (T_api_End.mk (T_api_Addr.mk false (0 : Int) (0 : Int)) (0 : Int)) false (0 : Int) (T_api_Score.mk (0 : Int) (0 : Int)) (0 : Int) (0 : Int)) ([] : (List T_api_Ban)) ([] : (List T_api_Entry))) false)] : List T_api_Op) ([] : (List T_api_Value)) x3 q5).weak (.cons (.refl _) (.cons (.one (.nul _ _)) .nil)))) (.c h6 (.c h7 (.c h8 (.c h9 (.c h10 .n)))))))))))))))))))) (by kernel_rfl) rfl
        · replace hf := Option.some.inj hf
          subst hf
          exact toEnd_g allOk 10 [rz, ⟨[], [], [], [], [(0, [(18, cL 5 T_api_Ban.c T_api_Ban.d []), (19, cL 7 T_api_Entry.c T_api_Entry.d [])]), (1, [(18, cL 5 T_api_Ban.c T_api_Ban.d []), (19, cL 7 T_api_Entry.c T_api_Entry.d [])])], [(2, (([(T_api_Op.mk (1 : Int) (1 : Int) (T_api_Loc.mk (0 : Int) (0 : Int) (0 : Int)) (0 : Int) (0 : Int) (T_api_Value.mk (0 : Int) (T_api_Peer.mk (T_api_End.mk (T_api_Addr.mk false (0 : Int) (0 : Int)) (0 : Int)) false (0 : Int) (T_api_Score.mk (0 : Int) (0 : Int)) (0 : Int) (0 : Int)) ([] : (List T_api_Ban)) ([] : (List T_api_Entry))) false), (T_api_Op.mk (8 : Int) (0 : Int) (T_api_Loc.mk (0 : Int) (0 : Int) (0 : Int)) (0 : Int) (0 : Int) (T_api_Value.mk (0 : Int) (T_api_Peer.mk (T_api_End.mk (T_api_Addr.mk false (0 : Int) (0 : Int)) (0 : Int)) false (0 : Int) (T_api_Score.mk (0 : Int) (0 : Int)) (0 : Int) (0 : Int)) ([] : (List T_api_Ban)) ([] : (List T_api_Entry))) false)] : List T_api_Op).length, rowsOf T_api_Op.c T_api_Op.d ([(T_api_Op.mk (1 : Int) (1 : Int) (T_api_Loc.mk (0 : Int) (0 : Int) (0 : Int)) (0 : Int) (0 : Int) (T_api_Value.mk (0 : Int) (T_api_Peer.mk (T_api_End.mk (T_api_Addr.mk false (0 : Int) (0 : Int)) (0 : Int)) false (0 : Int) (T_api_Score.mk (0 : Int) (0 : Int)) (0 : Int) (0 : Int)) ([] : (List T_api_Ban)) ([] : (List T_api_Entry))) false), (T_api_Op.mk (8 : Int) (0 : Int) (T_api_Loc.mk (0 : Int) (0 : Int) (0 : Int)) (0 : Int) (0 : Int) (T_api_Value.mk (0 : Int) (T_api_Peer.mk (T_api_End.mk (T_api_Addr.mk false (0 : Int) (0 : Int)) (0 : Int)) false (0 : Int) (T_api_Score.mk (0 : Int) (0 : Int)) (0 : Int) (0 : Int)) ([] : (List T_api_Ban)) ([] : (List T_api_Entry))) false)] : List T_api_Op)))], []⟩, rA [(1, .r (.one (.sl 13 (List.replicate (1 : Int).toNat T_api_Value.d).length (rowsOf T_api_Value.c T_api_Value.d (List.replicate (1 : Int).toNat T_api_Value.d)))) []), (2, aG (T_tape_Turn.c x1)), (4, .r (.one (.sl 13 (List.replicate (2 : Int).toNat T_api_Value.d).length (rowsOf T_api_Value.c T_api_Value.d (List.replicate (2 : Int).toNat T_api_Value.d)))) []), (5, aG (T_tape_Turn.c x2))], ⟨[(2, aG (T_tape_Turn.c x3))], [], [], [], [(0, [(18, cL 5 T_api_Ban.c T_api_Ban.d []), (19, cL 7 T_api_Entry.c T_api_Entry.d [])])], [(1, (([(T_api_Op.mk (0 : Int) (0 : Int) (T_api_Loc.mk (0 : Int) (0 : Int) (0 : Int)) (0 : Int) (0 : Int) (T_api_Value.mk (0 : Int) (T_api_Peer.mk (T_api_End.mk (T_api_Addr.mk false (0 : Int) (0 : Int)) (0 : Int)) false (0 : Int) (T_api_Score.mk (0 : Int) (0 : Int)) (0 : Int) (0 : Int)) ([] : (List T_api_Ban)) ([] : (List T_api_Entry))) false)] : List T_api_Op).length, rowsOf T_api_Op.c T_api_Op.d ([(T_api_Op.mk (0 : Int) (0 : Int) (T_api_Loc.mk (0 : Int) (0 : Int) (0 : Int)) (0 : Int) (0 : Int) (T_api_Value.mk (0 : Int) (T_api_Peer.mk (T_api_End.mk (T_api_Addr.mk false (0 : Int) (0 : Int)) (0 : Int)) false (0 : Int) (T_api_Score.mk (0 : Int) (0 : Int)) (0 : Int) (0 : Int)) ([] : (List T_api_Ban)) ([] : (List T_api_Entry))) false)] : List T_api_Op)))], []⟩, rB [(4, true), (9, true), (13, true), (19, false)]] [] [] [] [] (.c (show ([(T_api_Op.mk (1 : Int) (1 : Int) (T_api_Loc.mk (0 : Int) (0 : Int) (0 : Int)) (0 : Int) (0 : Int) (T_api_Value.mk (0 : Int) (T_api_Peer.mk (T_api_End.mk (T_api_Addr.mk false (0 : Int) (0 : Int)) (0 : Int)) false (0 : Int) (T_api_Score.mk (0 : Int) (0 : Int)) (0 : Int) (0 : Int)) ([] : (List T_api_Ban)) ([] : (List T_api_Entry))) false), (T_api_Op.mk (8 : Int) (0 : Int) (T_api_Loc.mk (0 : Int) (0 : Int) (0 : Int)) (0 : Int) (0 : Int) (T_api_Value.mk (0 : Int) (T_api_Peer.mk (T_api_End.mk (T_api_Addr.mk false (0 : Int) (0 : Int)) (0 : Int)) false (0 : Int) (T_api_Score.mk (0 : Int) (0 : Int)) (0 : Int) (0 : Int)) ([] : (List T_api_Ban)) ([] : (List T_api_Entry))) false)] : List T_api_Op).length = 2 ∧ ∀ i j, i < 2 → j < 21 → rowsOf T_api_Op.c T_api_Op.d ([(T_api_Op.mk (1 : Int) (1 : Int) (T_api_Loc.mk (0 : Int) (0 : Int) (0 : Int)) (0 : Int) (0 : Int) (T_api_Value.mk (0 : Int) (T_api_Peer.mk (T_api_End.mk (T_api_Addr.mk false (0 : Int) (0 : Int)) (0 : Int)) false (0 : Int) (T_api_Score.mk (0 : Int) (0 : Int)) (0 : Int) (0 : Int)) ([] : (List T_api_Ban)) ([] : (List T_api_Entry))) false), (T_api_Op.mk (8 : Int) (0 : Int) (T_api_Loc.mk (0 : Int) (0 : Int) (0 : Int)) (0 : Int) (0 : Int) (T_api_Value.mk (0 : Int) (T_api_Peer.mk (T_api_End.mk (T_api_Addr.mk false (0 : Int) (0 : Int)) (0 : Int)) false (0 : Int) (T_api_Score.mk (0 : Int) (0 : Int)) (0 : Int) (0 : Int)) ([] : (List T_api_Ban)) ([] : (List T_api_Entry))) false)] : List T_api_Op) i j = (([(T_api_Op.mk (1 : Int) (1 : Int) (T_api_Loc.mk (0 : Int) (0 : Int) (0 : Int)) (0 : Int) (0 : Int) (T_api_Value.mk (0 : Int) (T_api_Peer.mk (T_api_End.mk (T_api_Addr.mk false (0 : Int) (0 : Int)) (0 : Int)) false (0 : Int) (T_api_Score.mk (0 : Int) (0 : Int)) (0 : Int) (0 : Int)) ([] : (List T_api_Ban)) ([] : (List T_api_Entry))) false), (T_api_Op.mk (8 : Int) (0 : Int) (T_api_Loc.mk (0 : Int) (0 : Int) (0 : Int)) (0 : Int) (0 : Int) (T_api_Value.mk (0 : Int) (T_api_Peer.mk (T_api_End.mk (T_api_Addr.mk false (0 : Int) (0 : Int)) (0 : Int)) false (0 : Int) (T_api_Score.mk (0 : Int) (0 : Int)) (0 : Int) (0 : Int)) ([] : (List T_api_Ban)) ([] : (List T_api_Entry))) false)] : List T_api_Op).flatMap T_api_Op.c).getD (i * 21 + j) .junk from ⟨rfl, fun i j hi hj => rows_flat (sz := 21) (e := T_api_Op.c) (d := T_api_Op.d) (fun _ => rfl) ([(T_api_Op.mk (1 : Int) (1 : Int) (T_api_Loc.mk (0 : Int) (0 : Int) (0 : Int)) (0 : Int) (0 : Int) (T_api_Value.mk (0 : Int) (T_api_Peer.mk (T_api_End.mk (T_api_Addr.mk false (0 : Int) (0 : Int)) (0 : Int)) false (0 : Int) (T_api_Score.mk (0 : Int) (0 : Int)) (0 : Int) (0 : Int)) ([] : (List T_api_Ban)) ([] : (List T_api_Entry))) false), (T_api_Op.mk (8 : Int) (0 : Int) (T_api_Loc.mk (0 : Int) (0 : Int) (0 : Int)) (0 : Int) (0 : Int) (T_api_Value.mk (0 : Int) (T_api_Peer.mk (T_api_End.mk (T_api_Addr.mk false (0 : Int) (0 : Int)) (0 : Int)) false (0 : Int) (T_api_Score.mk (0 : Int) (0 : Int)) (0 : Int) (0 : Int)) ([] : (List T_api_Ban)) ([] : (List T_api_Entry))) false)] : List T_api_Op) i j hi hj⟩) (.c (show (1 : Int) = (((List.replicate (1 : Int).toNat T_api_Value.d).length : Nat) : Int) from (by rw [List.length_replicate]; exact (Int.toNat_of_nonneg o1.1).symm)) (.c (show (((List.replicate (1 : Int).toNat T_api_Value.d).length : Nat) : Int) ≤ (1 : Int) from (by rw [List.length_replicate]; exact ((Int.toNat_of_nonneg o1.1).symm ▸ o1.2.1))) (.c o1.2.2.1 (.c o1.2.2.2 (.c (show ∀ i j, i < (List.replicate (1 : Int).toNat T_api_Value.d).length → j < 13 → orNil (([.lit (.int .i64 (0)), .lit (.bool false), .lit (.int .u64 (0)), .lit (.int .u64 (0)), .lit (.int .i64 (0)), .lit (.bool false), .lit (.int .i64 (0)), .lit (.int .i64 (0)), .lit (.int .i64 (0)), .lit (.int .i64 (0)), .lit (.int .i64 (0)), .lit (.slice none 0 0), .lit (.slice none 0 0)] : List C).getD j .junk) (rowsOf T_api_Value.c T_api_Value.d (List.replicate (1 : Int).toNat T_api_Value.d) i j) from (by rw [List.length_replicate]; exact (make_orNil (fun j hj => match j, hj with | 0, _ => .inl rfl | 1, _ => .inl rfl | 2, _ => .inl rfl | 3, _ => .inl rfl | 4, _ => .inl rfl | 5, _ => .inl rfl | 6, _ => .inl rfl | 7, _ => .inl rfl | 8, _ => .inl rfl | 9, _ => .inl rfl | 10, _ => .inl rfl | 11, _ => .inr ⟨rfl, _, _, rfl⟩ | 12, _ => .inr ⟨rfl, _, _, rfl⟩ | j + 13, h => absurd h (by omega)) _))) (.c (g_tape_Drill_ok ([(T_api_Op.mk (1 : Int) (1 : Int) (T_api_Loc.mk (0 : Int) (0 : Int) (0 : Int)) (0 : Int) (0 : Int) (T_api_Value.mk (0 : Int) (T_api_Peer.mk (T_api_End.mk (T_api_Addr.mk false (0 : Int) (0 : Int)) (0 : Int)) false (0 : Int) (T_api_Score.mk (0 : Int) (0 : Int)) (0 : Int) (0 : Int)) ([] : (List T_api_Ban)) ([] : (List T_api_Entry))) false), (T_api_Op.mk (8 : Int) (0 : Int) (T_api_Loc.mk (0 : Int) (0 : Int) (0 : Int)) (0 : Int) (0 : Int) (T_api_Value.mk (0 : Int) (T_api_Peer.mk (T_api_End.mk (T_api_Addr.mk false (0 : Int) (0 : Int)) (0 : Int)) false (0 : Int) (T_api_Score.mk (0 : Int) (0 : Int)) (0 : Int) (0 : Int)) ([] : (List T_api_Ban)) ([] : (List T_api_Entry))) false)] : List T_api_Op) (List.replicate (1 : Int).toNat T_api_Value.d) x1 q2) (.c (show (2 : Int) = (((List.replicate (2 : Int).toNat T_api_Value.d).length : Nat) : Int) from (by rw [List.length_replicate]; exact (Int.toNat_of_nonneg o3.1).symm)) (.c (show (((List.replicate (2 : Int).toNat T_api_Value.d).length : Nat) : Int) ≤ (2 : Int) from (by rw [List.length_replicate]; exact ((Int.toNat_of_nonneg o3.1).symm ▸ o3.2.1))) (.c o3.2.2.1 (.c o3.2.2.2 (.c (show ∀ i j, i < (List.replicate (2 : Int).toNat T_api_Value.d).length → j < 13 → orNil (([.lit (.int .i64 (0)), .lit (.bool false), .lit (.int .u64 (0)), .lit (.int .u64 (0)), .lit (.int .i64 (0)), .lit (.bool false), .lit (.int .i64 (0)), .lit (.int .i64 (0)), .lit (.int .i64 (0)), .lit (.int .i64 (0)), .lit (.int .i64 (0)), .lit (.slice none 0 0), .lit (.slice none 0 0)] : List C).getD j .junk) (rowsOf T_api_Value.c T_api_Value.d (List.replicate (2 : Int).toNat T_api_Value.d) i j) from (by rw [List.length_replicate]; exact (make_orNil (fun j hj => match j, hj with | 0, _ => .inl rfl | 1, _ => .inl rfl | 2, _ => .inl rfl | 3, _ => .inl rfl | 4, _ => .inl rfl | 5, _ => .inl rfl | 6, _ => .inl rfl | 7, _ => .inl rfl | 8, _ => .inl rfl | 9, _ => .inl rfl | 10, _ => .inl rfl | 11, _ => .inr ⟨rfl, _, _, rfl⟩ | 12, _ => .inr ⟨rfl, _, _, rfl⟩ | j + 13, h => absurd h (by omega)) _))) (.c (g_tape_Drill_ok ([(T_api_Op.mk (1 : Int) (1 : Int) (T_api_Loc.mk (0 : Int) (0 : Int) (0 : Int)) (0 : Int) (0 : Int) (T_api_Value.mk (0 : Int) (T_api_Peer.mk (T_api_End.mk (T_api_Addr.mk false (0 : Int) (0 : Int)) (0 : Int)) false (0 : Int) (T_api_Score.mk (0 : Int) (0 : Int)) (0 : Int) (0 : Int)) ([] : (List T_api_Ban)) ([] : (List T_api_Entry))) false), (T_api_Op.mk (8 : Int) (0 : Int) (T_api_Loc.mk (0 : Int) (0 : Int) (0 : Int)) (0 : Int) (0 : Int) (T_api_Value.mk (0 : Int) (T_api_Peer.mk (T_api_End.mk (T_api_Addr.mk false (0 : Int) (0 : Int)) (0 : Int)) false (0 : Int) (T_api_Score.mk (0 : Int) (0 : Int)) (0 : Int) (0 : Int)) ([] : (List T_api_Ban)) ([] : (List T_api_Entry))) false)] : List T_api_Op) (List.replicate (2 : Int).toNat T_api_Value.d) x2 q4) (.c (show ([(T_api_Op.mk (0 : Int) (0 : Int) (T_api_Loc.mk (0 : Int) (0 : Int) (0 : Int)) (0 : Int) (0 : Int) (T_api_Value.mk (0 : Int) (T_api_Peer.mk (T_api_End.mk (T_api_Addr.mk false (0 : Int) (0 : Int)) (0 : Int)) false (0 : Int) (T_api_Score.mk (0 : Int) (0 : Int)) (0 : Int) (0 : Int)) ([] : (List T_api_Ban)) ([] : (List T_api_Entry))) false)] : List T_api_Op).length = 1 ∧ ∀ i j, i < 1 → j < 21 → rowsOf T_api_Op.c T_api_Op.d ([(T_api_Op.mk (0 : Int) (0 : Int) (T_api_Loc.mk (0 : Int) (0 : Int) (0 : Int)) (0 : Int) (0 : Int) (T_api_Value.mk (0 : Int) (T_api_Peer.mk (T_api_End.mk (T_api_Addr.mk false (0 : Int) (0 : Int)) (0 : Int)) false (0 : Int) (T_api_Score.mk (0 : Int) (0 : Int)) (0 : Int) (0 : Int)) ([] : (List T_api_Ban)) ([] : (List T_api_Entry))) false)] : List T_api_Op) i j = (([(T_api_Op.mk (0 : Int) (0 : Int) (T_api_Loc.mk (0 : Int) (0 : Int) (0 : Int)) (0 : Int) (0 : Int) (T_api_Value.mk (0 : Int) (T_api_Peer.mk (T_api_End.mk (T_api_Addr.mk false (0 : Int) (0 : Int)) (0 : Int)) false (0 : Int) (T_api_Score.mk (0 : Int) (0 : Int)) (0 : Int) (0 : Int)) ([] : (List T_api_Ban)) ([] : (List T_api_Entry))) false)] : List T_api_Op).flatMap T_api_Op.c).getD (i * 21 + j) .junk from ⟨rfl, fun i j hi hj => rows_flat (sz := 21) (e := T_api_Op.c) (d := T_api_Op.d) (fun _ => rfl) ([(T_api_Op.mk (0 : Int) (0 : Int) (T_api_Loc.mk (0 : Int) (0 : Int) (0 : Int)) (0 : Int) (0 : Int) (T_api_Value.mk (0 : Int) (T_api_Peer.mk (T_api_End.mk (T_api_Addr.mk false (0 : Int) (0 : Int)) (0 : Int)) false (0 : Int) (T_api_Score.mk (0 : Int) (0 : Int)) (0 : Int) (0 : Int)) ([] : (List T_api_Ban)) ([] : (List T_api_Entry))) false)] : List T_api_Op) i j hi hj⟩) (.c (show SCall Try.prog 21 [.one (cL 21 T_api_Op.c T_api_Op.d ([(T_api_Op.mk (0 : Int) (0 : Int) (T_api_Loc.mk (0 : Int) (0 : Int) (0 : Int)) (0 : Int) (0 : Int) (T_api_Value.mk (0 : Int) (T_api_Peer.mk (T_api_End.mk (T_api_Addr.mk false (0 : Int) (0 : Int)) (0 : Int)) false (0 : Int) (T_api_Score.mk (0 : Int) (0 : Int)) (0 : Int) (0 : Int)) ([] : (List T_api_Ban)) ([] : (List T_api_Entry))) false)] : List T_api_Op)), .one (.lit (.slice none 0 0))] (.agg (T_tape_Turn.c x3)) from ((g_tape_Drill_ok ([(T_api_Op.mk (0 : Int) (0 : Int) (T_api_Loc.mk (0 : Int) (0 : Int) (0 : Int)) (0 : Int) (0 : Int) (T_api_Value.mk (0 : Int) (T_api_Peer.mk (T_api_End.mk (T_api_Addr.mk false (0 : Int) (0 : Int)) (0 : Int)) false (0 : Int) (T_api_Score.mk (0 : Int) (0 : Int)) (0 : Int) (0 : Int)) ([] : (List T_api_Ban)) ([] : (List T_api_Entry))) false)] : List T_api_Op) ([] : (List T_api_Value)) x3 q5).weak (.cons (.refl _) (.cons (.one (.nul _ _)) .nil)))) (.c h6 (.c h7 (.c h8 (.c h9 .n))))))))))))))))))) (by kernel_rfl) rfl
      · replace hf := Option.some.inj hf
        subst hf
        exact toEnd_g allOk 10 [rz, ⟨[], [], [], [], [(0, [(18, cL 5 T_api_Ban.c T_api_Ban.d []), (19, cL 7 T_api_Entry.c T_api_Entry.d [])]), (1, [(18, cL 5 T_api_Ban.c T_api_Ban.d []), (19, cL 7 T_api_Entry.c T_api_Entry.d [])])], [(2, (([(T_api_Op.mk (1 : Int) (1 : Int) (T_api_Loc.mk (0 : Int) (0 : Int) (0 : Int)) (0 : Int) (0 : Int) (T_api_Value.mk (0 : Int) (T_api_Peer.mk (T_api_End.mk (T_api_Addr.mk false (0 : Int) (0 : Int)) (0 : Int)) false (0 : Int) (T_api_Score.mk (0 : Int) (0 : Int)) (0 : Int) (0 : Int)) ([] : (List T_api_Ban)) ([] : (List T_api_Entry))) false), (T_api_Op.mk (8 : Int) (0 : Int) (T_api_Loc.mk (0 : Int) (0 : Int) (0 : Int)) (0 : Int) (0 : Int) (T_api_Value.mk (0 : Int) (T_api_Peer.mk (T_api_End.mk (T_api_Addr.mk false (0 : Int) (0 : Int)) (0 : Int)) false (0 : Int) (T_api_Score.mk (0 : Int) (0 : Int)) (0 : Int) (0 : Int)) ([] : (List T_api_Ban)) ([] : (List T_api_Entry))) false)] : List T_api_Op).length, rowsOf T_api_Op.c T_api_Op.d ([(T_api_Op.mk (1 : Int) (1 : Int) (T_api_Loc.mk (0 : Int) (0 : Int) (0 : Int)) (0 : Int) (0 : Int) (T_api_Value.mk (0 : Int) (T_api_Peer.mk (T_api_End.mk (T_api_Addr.mk false (0 : Int) (0 : Int)) (0 : Int)) false (0 : Int) (T_api_Score.mk (0 : Int) (0 : Int)) (0 : Int) (0 : Int)) ([] : (List T_api_Ban)) ([] : (List T_api_Entry))) false), (T_api_Op.mk (8 : Int) (0 : Int) (T_api_Loc.mk (0 : Int) (0 : Int) (0 : Int)) (0 : Int) (0 : Int) (T_api_Value.mk (0 : Int) (T_api_Peer.mk (T_api_End.mk (T_api_Addr.mk false (0 : Int) (0 : Int)) (0 : Int)) false (0 : Int) (T_api_Score.mk (0 : Int) (0 : Int)) (0 : Int) (0 : Int)) ([] : (List T_api_Ban)) ([] : (List T_api_Entry))) false)] : List T_api_Op)))], []⟩, rA [(1, .r (.one (.sl 13 (List.replicate (1 : Int).toNat T_api_Value.d).length (rowsOf T_api_Value.c T_api_Value.d (List.replicate (1 : Int).toNat T_api_Value.d)))) []), (2, aG (T_tape_Turn.c x1)), (4, .r (.one (.sl 13 (List.replicate (2 : Int).toNat T_api_Value.d).length (rowsOf T_api_Value.c T_api_Value.d (List.replicate (2 : Int).toNat T_api_Value.d)))) []), (5, aG (T_tape_Turn.c x2))], ⟨[(2, aG (T_tape_Turn.c x3))], [], [], [], [(0, [(18, cL 5 T_api_Ban.c T_api_Ban.d []), (19, cL 7 T_api_Entry.c T_api_Entry.d [])])], [(1, (([(T_api_Op.mk (0 : Int) (0 : Int) (T_api_Loc.mk (0 : Int) (0 : Int) (0 : Int)) (0 : Int) (0 : Int) (T_api_Value.mk (0 : Int) (T_api_Peer.mk (T_api_End.mk (T_api_Addr.mk false (0 : Int) (0 : Int)) (0 : Int)) false (0 : Int) (T_api_Score.mk (0 : Int) (0 : Int)) (0 : Int) (0 : Int)) ([] : (List T_api_Ban)) ([] : (List T_api_Entry))) false)] : List T_api_Op).length, rowsOf T_api_Op.c T_api_Op.d ([(T_api_Op.mk (0 : Int) (0 : Int) (T_api_Loc.mk (0 : Int) (0 : Int) (0 : Int)) (0 : Int) (0 : Int) (T_api_Value.mk (0 : Int) (T_api_Peer.mk (T_api_End.mk (T_api_Addr.mk false (0 : Int) (0 : Int)) (0 : Int)) false (0 : Int) (T_api_Score.mk (0 : Int) (0 : Int)) (0 : Int) (0 : Int)) ([] : (List T_api_Ban)) ([] : (List T_api_Entry))) false)] : List T_api_Op)))], []⟩, rB [(4, true), (9, true), (13, false)]] [] [] [] [] (.c (show ([(T_api_Op.mk (1 : Int) (1 : Int) (T_api_Loc.mk (0 : Int) (0 : Int) (0 : Int)) (0 : Int) (0 : Int) (T_api_Value.mk (0 : Int) (T_api_Peer.mk (T_api_End.mk (T_api_Addr.mk false (0 : Int) (0 : Int)) (0 : Int)) false (0 : Int) (T_api_Score.mk (0 : Int) (0 : Int)) (0 : Int) (0 : Int)) ([] : (List T_api_Ban)) ([] : (List T_api_Entry))) false), (T_api_Op.mk (8 : Int) (0 : Int) (T_api_Loc.mk (0 : Int) (0 : Int) (0 : Int)) (0 : Int) (0 : Int) (T_api_Value.mk (0 : Int) (T_api_Peer.mk (T_api_End.mk (T_api_Addr.mk false (0 : Int) (0 : Int)) (0 : Int)) false (0 : Int) (T_api_Score.mk (0 : Int) (0 : Int)) (0 : Int) (0 : Int)) ([] : (List T_api_Ban)) ([] : (List T_api_Entry))) false)] : List T_api_Op).length = 2 ∧ ∀ i j, i < 2 → j < 21 → rowsOf T_api_Op.c T_api_Op.d ([(T_api_Op.mk (1 : Int) (1 : Int) (T_api_Loc.mk (0 : Int) (0 : Int) (0 : Int)) (0 : Int) (0 : Int) (T_api_Value.mk (0 : Int) (T_api_Peer.mk (T_api_End.mk (T_api_Addr.mk false (0 : Int) (0 : Int)) (0 : Int)) false (0 : Int) (T_api_Score.mk (0 : Int) (0 : Int)) (0 : Int) (0 : Int)) ([] : (List T_api_Ban)) ([] : (List T_api_Entry))) false), (T_api_Op.mk (8 : Int) (0 : Int) (T_api_Loc.mk (0 : Int) (0 : Int) (0 : Int)) (0 : Int) (0 : Int) (T_api_Value.mk (0 : Int) (T_api_Peer.mk (T_api_End.mk (T_api_Addr.mk false (0 : Int) (0 : Int)) (0 : Int)) false (0 : Int) (T_api_Score.mk (0 : Int) (0 : Int)) (0 : Int) (0 : Int)) ([] : (List T_api_Ban)) ([] : (List T_api_Entry))) false)] : List T_api_Op) i j = (([(T_api_Op.mk (1 : Int) (1 : Int) (T_api_Loc.mk (0 : Int) (0 : Int) (0 : Int)) (0 : Int) (0 : Int) (T_api_Value.mk (0 : Int) (T_api_Peer.mk (T_api_End.mk (T_api_Addr.mk false (0 : Int) (0 : Int)) (0 : Int)) false (0 : Int) (T_api_Score.mk (0 : Int) (0 : Int)) (0 : Int) (0 : Int)) ([] : (List T_api_Ban)) ([] : (List T_api_Entry))) false), (T_api_Op.mk (8 : Int) (0 : Int) (T_api_Loc.mk (0 : Int) (0 : Int) (0 : Int)) (0 : Int) (0 : Int) (T_api_Value.mk (0 : Int) (T_api_Peer.mk (T_api_End.mk (T_api_Addr.mk false (0 : Int) (0 : Int)) (0 : Int)) false (0 : Int) (T_api_Score.mk (0 : Int) (0 : Int)) (0 : Int) (0 : Int)) ([] : (List T_api_Ban)) ([] : (List T_api_Entry))) false)] : List T_api_Op).flatMap T_api_Op.c).getD (i * 21 + j) .junk from ⟨rfl, fun i j hi hj => rows_flat (sz := 21) (e := T_api_Op.c) (d := T_api_Op.d) (fun _ => rfl) ([(T_api_Op.mk (1 : Int) (1 : Int) (T_api_Loc.mk (0 : Int) (0 : Int) (0 : Int)) (0 : Int) (0 : Int) (T_api_Value.mk (0 : Int) (T_api_Peer.mk (T_api_End.mk (T_api_Addr.mk false (0 : Int) (0 : Int)) (0 : Int)) false (0 : Int) (T_api_Score.mk (0 : Int) (0 : Int)) (0 : Int) (0 : Int)) ([] : (List T_api_Ban)) ([] : (List T_api_Entry))) false), (T_api_Op.mk (8 : Int) (0 : Int) (T_api_Loc.mk (0 : Int) (0 : Int) (0 : Int)) (0 : Int) (0 : Int) (T_api_Value.mk (0 : Int) (T_api_Peer.mk (T_api_End.mk (T_api_Addr.mk false (0 : Int) (0 : Int)) (0 : Int)) false (0 : Int) (T_api_Score.mk (0 : Int) (0 : Int)) (0 : Int) (0 : Int)) ([] : (List T_api_Ban)) ([] : (List T_api_Entry))) false)] : List T_api_Op) i j hi hj⟩) (.c (show (1 : Int) = (((List.replicate (1 : Int).toNat T_api_Value.d).length : Nat) : Int) from (by rw [List.length_replicate]; exact (Int.toNat_of_nonneg o1.1).symm)) (.c (show (((List.replicate (1 : Int).toNat T_api_Value.d).length : Nat) : Int) ≤ (1 : Int) from (by rw [List.length_replicate]; exact ((Int.toNat_of_nonneg o1.1).symm ▸ o1.2.1))) (.c o1.2.2.1 (.c o1.2.2.2 (.c (show ∀ i j, i < (List.replicate (1 : Int).toNat T_api_Value.d).length → j < 13 → orNil (([.lit (.int .i64 (0)), .lit (.bool false), .lit (.int .u64 (0)), .lit (.int .u64 (0)), .lit (.int .i64 (0)), .lit (.bool false), .lit (.int .i64 (0)), .lit (.int .i64 (0)), .lit (.int .i64 (0)), .lit (.int .i64 (0)), .lit (.int .i64 (0)), .lit (.slice none 0 0), .lit (.slice none 0 0)] : List C).getD j .junk) (rowsOf T_api_Value.c T_api_Value.d (List.replicate (1 : Int).toNat T_api_Value.d) i j) from (by rw [List.length_replicate]; exact (make_orNil (fun j hj => match j, hj with | 0, _ => .inl rfl | 1, _ => .inl rfl | 2, _ => .inl rfl | 3, _ => .inl rfl | 4, _ => .inl rfl | 5, _ => .inl rfl | 6, _ => .inl rfl | 7, _ => .inl rfl | 8, _ => .inl rfl | 9, _ => .inl rfl | 10, _ => .inl rfl | 11, _ => .inr ⟨rfl, _, _, rfl⟩ | 12, _ => .inr ⟨rfl, _, _, rfl⟩ | j + 13, h => absurd h (by omega)) _))) (.c (g_tape_Drill_ok ([(T_api_Op.mk (1 : Int) (1 : Int) (T_api_Loc.mk (0 : Int) (0 : Int) (0 : Int)) (0 : Int) (0 : Int) (T_api_Value.mk (0 : Int) (T_api_Peer.mk (T_api_End.mk (T_api_Addr.mk false (0 : Int) (0 : Int)) (0 : Int)) false (0 : Int) (T_api_Score.mk (0 : Int) (0 : Int)) (0 : Int) (0 : Int)) ([] : (List T_api_Ban)) ([] : (List T_api_Entry))) false), (T_api_Op.mk (8 : Int) (0 : Int) (T_api_Loc.mk (0 : Int) (0 : Int) (0 : Int)) (0 : Int) (0 : Int) (T_api_Value.mk (0 : Int) (T_api_Peer.mk (T_api_End.mk (T_api_Addr.mk false (0 : Int) (0 : Int)) (0 : Int)) false (0 : Int) (T_api_Score.mk (0 : Int) (0 : Int)) (0 : Int) (0 : Int)) ([] : (List T_api_Ban)) ([] : (List T_api_Entry))) false)] : List T_api_Op) (List.replicate (1 : Int).toNat T_api_Value.d) x1 q2) (.c (show (2 : Int) = (((List.replicate (2 : Int).toNat T_api_Value.d).length : Nat) : Int) from (by rw [List.length_replicate]; exact (Int.toNat_of_nonneg o3.1).symm)) (.c (show (((List.replicate (2 : Int).toNat T_api_Value.d).length : Nat) : Int) ≤ (2 : Int) from (by rw [List.length_replicate]; exact ((Int.toNat_of_nonneg o3.1).symm ▸ o3.2.1))) (.c o3.2.2.1 (.c o3.2.2.2 (.c (show ∀ i j, i < (List.replicate (2 : Int).toNat T_api_Value.d).length → j < 13 → orNil (([.lit (.int .i64 (0)), .lit (.bool false), .lit (.int .u64 (0)), .lit (.int .u64 (0)), .lit (.int .i64 (0)), .lit (.bool false), .lit (.int .i64 (0)), .lit (.int .i64 (0)), .lit (.int .i64 (0)), .lit (.int .i64 (0)), .lit (.int .i64 (0)), .lit (.slice none 0 0), .lit (.slice none 0 0)] : List C).getD j .junk) (rowsOf T_api_Value.c T_api_Value.d (List.replicate (2 : Int).toNat T_api_Value.d) i j) from (by rw [List.length_replicate]; exact (make_orNil (fun j hj => match j, hj with | 0, _ => .inl rfl | 1, _ => .inl rfl | 2, _ => .inl rfl | 3, _ => .inl rfl | 4, _ => .inl rfl | 5, _ => .inl rfl | 6, _ => .inl rfl | 7, _ => .inl rfl | 8, _ => .inl rfl | 9, _ => .inl rfl | 10, _ => .inl rfl | 11, _ => .inr ⟨rfl, _, _, rfl⟩ | 12, _ => .inr ⟨rfl, _, _, rfl⟩ | j + 13, h => absurd h (by omega)) _))) (.c (g_tape_Drill_ok ([(T_api_Op.mk (1 : Int) (1 : Int) (T_api_Loc.mk (0 : Int) (0 : Int) (0 : Int)) (0 : Int) (0 : Int) (T_api_Value.mk (0 : Int) (T_api_Peer.mk (T_api_End.mk (T_api_Addr.mk false (0 : Int) (0 : Int)) (0 : Int)) false (0 : Int) (T_api_Score.mk (0 : Int) (0 : Int)) (0 : Int) (0 : Int)) ([] : (List T_api_Ban)) ([] : (List T_api_Entry))) false), (T_api_Op.mk (8 : Int) (0 : Int) (T_api_Loc.mk (0 : Int) (0 : Int) (0 : Int)) (0 : Int) (0 : Int) (T_api_Value.mk (0 : Int) (T_api_Peer.mk (T_api_End.mk (T_api_Addr.mk false (0 : Int) (0 : Int)) (0 : Int)) false (0 : Int) (T_api_Score.mk (0 : Int) (0 : Int)) (0 : Int) (0 : Int)) ([] : (List T_api_Ban)) ([] : (List T_api_Entry))) false)] : List T_api_Op) (List.replicate (2 : Int).toNat T_api_Value.d) x2 q4) (.c (show ([(T_api_Op.mk (0 : Int) (0 : Int) (T_api_Loc.mk (0 : Int) (0 : Int) (0 : Int)) (0 : Int) (0 : Int) (T_api_Value.mk (0 : Int) (T_api_Peer.mk (T_api_End.mk (T_api_Addr.mk false (0 : Int) (0 : Int)) (0 : Int)) false (0 : Int) (T_api_Score.mk (0 : Int) (0 : Int)) (0 : Int) (0 : Int)) ([] : (List T_api_Ban)) ([] : (List T_api_Entry))) false)] : List T_api_Op).length = 1 ∧ ∀ i j, i < 1 → j < 21 → rowsOf T_api_Op.c T_api_Op.d ([(T_api_Op.mk (0 : Int) (0 : Int) (T_api_Loc.mk (0 : Int) (0 : Int) (0 : Int)) (0 : Int) (0 : Int) (T_api_Value.mk (0 : Int) (T_api_Peer.mk (T_api_End.mk (T_api_Addr.mk false (0 : Int) (0 : Int)) (0 : Int)) false (0 : Int) (T_api_Score.mk (0 : Int) (0 : Int)) (0 : Int) (0 : Int)) ([] : (List T_api_Ban)) ([] : (List T_api_Entry))) false)] : List T_api_Op) i j = (([(T_api_Op.mk (0 : Int) (0 : Int) (T_api_Loc.mk (0 : Int) (0 : Int) (0 : Int)) (0 : Int) (0 : Int) (T_api_Value.mk (0 : Int) (T_api_Peer.mk (T_api_End.mk (T_api_Addr.mk false (0 : Int) (0 : Int)) (0 : Int)) false (0 : Int) (T_api_Score.mk (0 : Int) (0 : Int)) (0 : Int) (0 : Int)) ([] : (List T_api_Ban)) ([] : (List T_api_Entry))) false)] : List T_api_Op).flatMap T_api_Op.c).getD (i * 21 + j) .junk from ⟨rfl, fun i j hi hj => rows_flat (sz := 21) (e := T_api_Op.c) (d := T_api_Op.d) (fun _ => rfl) ([(T_api_Op.mk (0 : Int) (0 : Int) (T_api_Loc.mk (0 : Int) (0 : Int) (0 : Int)) (0 : Int) (0 : Int) (T_api_Value.mk (0 : Int) (T_api_Peer.mk (T_api_End.mk (T_api_Addr.mk false (0 : Int) (0 : Int)) (0 : Int)) false (0 : Int) (T_api_Score.mk (0 : Int) (0 : Int)) (0 : Int) (0 : Int)) ([] : (List T_api_Ban)) ([] : (List T_api_Entry))) false)] : List T_api_Op) i j hi hj⟩) (.c (show SCall Try.prog 21 [.one (cL 21 T_api_Op.c T_api_Op.d ([(T_api_Op.mk (0 : Int) (0 : Int) (T_api_Loc.mk (0 : Int) (0 : Int) (0 : Int)) (0 : Int) (0 : Int) (T_api_Value.mk (0 : Int) (T_api_Peer.mk (T_api_End.mk (T_api_Addr.mk false (0 : Int) (0 : Int)) (0 : Int)) false (0 : Int) (T_api_Score.mk (0 : Int) (0 : Int)) (0 : Int) (0 : Int)) ([] : (List T_api_Ban)) ([] : (List T_api_Entry))) false)] : List T_api_Op)), .one (.lit (.slice none 0 0))] (.agg (T_tape_Turn.c x3)) from ((g_tape_Drill_ok ([(T_api_Op.mk (0 : Int) (0 : Int) (T_api_Loc.mk (0 : Int) (0 : Int) (0 : Int)) (0 : Int) (0 : Int) (T_api_Value.mk (0 : Int) (T_api_Peer.mk (T_api_End.mk (T_api_Addr.mk false (0 : Int) (0 : Int)) (0 : Int)) false (0 : Int) (T_api_Score.mk (0 : Int) (0 : Int)) (0 : Int) (0 : Int)) ([] : (List T_api_Ban)) ([] : (List T_api_Entry))) false)] : List T_api_Op) ([] : (List T_api_Value)) x3 q5).weak (.cons (.refl _) (.cons (.one (.nul _ _)) .nil)))) (.c h6 (.c h7 (.c h8 .n)))))))))))))))))) (by kernel_rfl) rfl
    · replace hf := Option.some.inj hf
      subst hf
      exact toEnd_g allOk 10 [rz, ⟨[], [], [], [], [(0, [(18, cL 5 T_api_Ban.c T_api_Ban.d []), (19, cL 7 T_api_Entry.c T_api_Entry.d [])]), (1, [(18, cL 5 T_api_Ban.c T_api_Ban.d []), (19, cL 7 T_api_Entry.c T_api_Entry.d [])])], [(2, (([(T_api_Op.mk (1 : Int) (1 : Int) (T_api_Loc.mk (0 : Int) (0 : Int) (0 : Int)) (0 : Int) (0 : Int) (T_api_Value.mk (0 : Int) (T_api_Peer.mk (T_api_End.mk (T_api_Addr.mk false (0 : Int) (0 : Int)) (0 : Int)) false (0 : Int) (T_api_Score.mk (0 : Int) (0 : Int)) (0 : Int) (0 : Int)) ([] : (List T_api_Ban)) ([] : (List T_api_Entry))) false), (T_api_Op.mk (8 : Int) (0 : Int) (T_api_Loc.mk (0 : Int) (0 : Int) (0 : Int)) (0 : Int) (0 : Int) (T_api_Value.mk (0 : Int) (T_api_Peer.mk (T_api_End.mk (T_api_Addr.mk false (0 : Int) (0 : Int)) (0 : Int)) false (0 : Int) (T_api_Score.mk (0 : Int) (0 : Int)) (0 : Int) (0 : Int)) ([] : (List T_api_Ban)) ([] : (List T_api_Entry))) false)] : List T_api_Op).length, rowsOf T_api_Op.c T_api_Op.d ([(T_api_Op.mk (1 : Int) (1 : Int) (T_api_Loc.mk (0 : Int) (0 : Int) (0 : Int)) (0 : Int) (0 : Int) (T_api_Value.mk (0 : Int) (T_api_Peer.mk (T_api_End.mk (T_api_Addr.mk false (0 : Int) (0 : Int)) (0 : Int)) false (0 : Int) (T_api_Score.mk (0 : Int) (0 : Int)) (0 : Int) (0 : Int)) ([] : (List T_api_Ban)) ([] : (List T_api_Entry))) false), (T_api_Op.mk (8 : Int) (0 : Int) (T_api_Loc.mk (0 : Int) (0 : Int) (0 : Int)) (0 : Int) (0 : Int) (T_api_Value.mk (0 : Int) (T_api_Peer.mk (T_api_End.mk (T_api_Addr.mk false (0 : Int) (0 : Int)) (0 : Int)) false (0 : Int) (T_api_Score.mk (0 : Int) (0 : Int)) (0 : Int) (0 : Int)) ([] : (List T_api_Ban)) ([] : (List T_api_Entry))) false)] : List T_api_Op)))], []⟩, rA [(1, .r (.one (.sl 13 (List.replicate (1 : Int).toNat T_api_Value.d).length (rowsOf T_api_Value.c T_api_Value.d (List.replicate (1 : Int).toNat T_api_Value.d)))) []), (2, aG (T_tape_Turn.c x1)), (4, .r (.one (.sl 13 (List.replicate (2 : Int).toNat T_api_Value.d).length (rowsOf T_api_Value.c T_api_Value.d (List.replicate (2 : Int).toNat T_api_Value.d)))) []), (5, aG (T_tape_Turn.c x2))], ⟨[(2, aG (T_tape_Turn.c x3))], [], [], [], [(0, [(18, cL 5 T_api_Ban.c T_api_Ban.d []), (19, cL 7 T_api_Entry.c T_api_Entry.d [])])], [(1, (([(T_api_Op.mk (0 : Int) (0 : Int) (T_api_Loc.mk (0 : Int) (0 : Int) (0 : Int)) (0 : Int) (0 : Int) (T_api_Value.mk (0 : Int) (T_api_Peer.mk (T_api_End.mk (T_api_Addr.mk false (0 : Int) (0 : Int)) (0 : Int)) false (0 : Int) (T_api_Score.mk (0 : Int) (0 : Int)) (0 : Int) (0 : Int)) ([] : (List T_api_Ban)) ([] : (List T_api_Entry))) false)] : List T_api_Op).length, rowsOf T_api_Op.c T_api_Op.d ([(T_api_Op.mk (0 : Int) (0 : Int) (T_api_Loc.mk (0 : Int) (0 : Int) (0 : Int)) (0 : Int) (0 : Int) (T_api_Value.mk (0 : Int) (T_api_Peer.mk (T_api_End.mk (T_api_Addr.mk false (0 : Int) (0 : Int)) (0 : Int)) false (0 : Int) (T_api_Score.mk (0 : Int) (0 : Int)) (0 : Int) (0 : Int)) ([] : (List T_api_Ban)) ([] : (List T_api_Entry))) false)] : List T_api_Op)))], []⟩, rB [(4, true), (9, false)]] [] [] [] [] (.c (show ([(T_api_Op.mk (1 : Int) (1 : Int) (T_api_Loc.mk (0 : Int) (0 : Int) (0 : Int)) (0 : Int) (0 : Int) (T_api_Value.mk (0 : Int) (T_api_Peer.mk (T_api_End.mk (T_api_Addr.mk false (0 : Int) (0 : Int)) (0 : Int)) false (0 : Int) (T_api_Score.mk (0 : Int) (0 : Int)) (0 : Int) (0 : Int)) ([] : (List T_api_Ban)) ([] : (List T_api_Entry))) false), (T_api_Op.mk (8 : Int) (0 : Int) (T_api_Loc.mk (0 : Int) (0 : Int) (0 : Int)) (0 : Int) (0 : Int) (T_api_Value.mk (0 : Int) (T_api_Peer.mk (T_api_End.mk (T_api_Addr.mk false (0 : Int) (0 : Int)) (0 : Int)) false (0 : Int) (T_api_Score.mk (0 : Int) (0 : Int)) (0 : Int) (0 : Int)) ([] : (List T_api_Ban)) ([] : (List T_api_Entry))) false)] : List T_api_Op).length = 2 ∧ ∀ i j, i < 2 → j < 21 → rowsOf T_api_Op.c T_api_Op.d ([(T_api_Op.mk (1 : Int) (1 : Int) (T_api_Loc.mk (0 : Int) (0 : Int) (0 : Int)) (0 : Int) (0 : Int) (T_api_Value.mk (0 : Int) (T_api_Peer.mk (T_api_End.mk (T_api_Addr.mk false (0 : Int) (0 : Int)) (0 : Int)) false (0 : Int) (T_api_Score.mk (0 : Int) (0 : Int)) (0 : Int) (0 : Int)) ([] : (List T_api_Ban)) ([] : (List T_api_Entry))) false), (T_api_Op.mk (8 : Int) (0 : Int) (T_api_Loc.mk (0 : Int) (0 : Int) (0 : Int)) (0 : Int) (0 : Int) (T_api_Value.mk (0 : Int) (T_api_Peer.mk (T_api_End.mk (T_api_Addr.mk false (0 : Int) (0 : Int)) (0 : Int)) false (0 : Int) (T_api_Score.mk (0 : Int) (0 : Int)) (0 : Int) (0 : Int)) ([] : (List T_api_Ban)) ([] : (List T_api_Entry))) false)] : List T_api_Op) i j = (([(T_api_Op.mk (1 : Int) (1 : Int) (T_api_Loc.mk (0 : Int) (0 : Int) (0 : Int)) (0 : Int) (0 : Int) (T_api_Value.mk (0 : Int) (T_api_Peer.mk (T_api_End.mk (T_api_Addr.mk false (0 : Int) (0 : Int)) (0 : Int)) false (0 : Int) (T_api_Score.mk (0 : Int) (0 : Int)) (0 : Int) (0 : Int)) ([] : (List T_api_Ban)) ([] : (List T_api_Entry))) false), (T_api_Op.mk (8 : Int) (0 : Int) (T_api_Loc.mk (0 : Int) (0 : Int) (0 : Int)) (0 : Int) (0 : Int) (T_api_Value.mk (0 : Int) (T_api_Peer.mk (T_api_End.mk (T_api_Addr.mk false (0 : Int) (0 : Int)) (0 : Int)) false (0 : Int) (T_api_Score.mk (0 : Int) (0 : Int)) (0 : Int) (0 : Int)) ([] : (List T_api_Ban)) ([] : (List T_api_Entry))) false)] : List T_api_Op).flatMap T_api_Op.c).getD (i * 21 + j) .junk from ⟨rfl, fun i j hi hj => rows_flat (sz := 21) (e := T_api_Op.c) (d := T_api_Op.d) (fun _ => rfl) ([(T_api_Op.mk (1 : Int) (1 : Int) (T_api_Loc.mk (0 : Int) (0 : Int) (0 : Int)) (0 : Int) (0 : Int) (T_api_Value.mk (0 : Int) (T_api_Peer.mk (T_api_End.mk (T_api_Addr.mk false (0 : Int) (0 : Int)) (0 : Int)) false (0 : Int) (T_api_Score.mk (0 : Int) (0 : Int)) (0 : Int) (0 : Int)) ([] : (List T_api_Ban)) ([] : (List T_api_Entry))) false), (T_api_Op.mk (8 : Int) (0 : Int) (T_api_Loc.mk (0 : Int) (0 : Int) (0 : Int)) (0 : Int) (0 : Int) (T_api_Value.mk (0 : Int) (T_api_Peer.mk (T_api_End.mk (T_api_Addr.mk false (0 : Int) (0 : Int)) (0 : Int)) false (0 : Int) (T_api_Score.mk (0 : Int) (0 : Int)) (0 : Int) (0 : Int)) ([] : (List T_api_Ban)) ([] : (List T_api_Entry))) false)] : List T_api_Op) i j hi hj⟩) (.c (show (1 : Int) = (((List.replicate (1 : Int).toNat T_api_Value.d).length : Nat) : Int) from (by rw [List.length_replicate]; exact (Int.toNat_of_nonneg o1.1).symm)) (.c (show (((List.replicate (1 : Int).toNat T_api_Value.d).length : Nat) : Int) ≤ (1 : Int) from (by rw [List.length_replicate]; exact ((Int.toNat_of_nonneg o1.1).symm ▸ o1.2.1))) (.c o1.2.2.1 (.c o1.2.2.2 (.c (show ∀ i j, i < (List.replicate (1 : Int).toNat T_api_Value.d).length → j < 13 → orNil (([.lit (.int .i64 (0)), .lit (.bool false), .lit (.int .u64 (0)), .lit (.int .u64 (0)), .lit (.int .i64 (0)), .lit (.bool false), .lit (.int .i64 (0)), .lit (.int .i64 (0)), .lit (.int .i64 (0)), .lit (.int .i64 (0)), .lit (.int .i64 (0)), .lit (.slice none 0 0), .lit (.slice none 0 0)] : List C).getD j .junk) (rowsOf T_api_Value.c T_api_Value.d (List.replicate (1 : Int).toNat T_api_Value.d) i j) from (by rw [List.length_replicate]; exact (make_orNil (fun j hj => match j, hj with | 0, _ => .inl rfl | 1, _ => .inl rfl | 2, _ => .inl rfl | 3, _ => .inl rfl | 4, _ => .inl rfl | 5, _ => .inl rfl | 6, _ => .inl rfl | 7, _ => .inl rfl | 8, _ => .inl rfl | 9, _ => .inl rfl | 10, _ => .inl rfl | 11, _ => .inr ⟨rfl, _, _, rfl⟩ | 12, _ => .inr ⟨rfl, _, _, rfl⟩ | j + 13, h => absurd h (by omega)) _))) (.c (g_tape_Drill_ok ([(T_api_Op.mk (1 : Int) (1 : Int) (T_api_Loc.mk (0 : Int) (0 : Int) (0 : Int)) (0 : Int) (0 : Int) (T_api_Value.mk (0 : Int) (T_api_Peer.mk (T_api_End.mk (T_api_Addr.mk false (0 : Int) (0 : Int)) (0 : Int)) false (0 : Int) (T_api_Score.mk (0 : Int) (0 : Int)) (0 : Int) (0 : Int)) ([] : (List T_api_Ban)) ([] : (List T_api_Entry))) false), (T_api_Op.mk (8 : Int) (0 : Int) (T_api_Loc.mk (0 : Int) (0 : Int) (0 : Int)) (0 : Int) (0 : Int) (T_api_Value.mk (0 : Int) (T_api_Peer.mk (T_api_End.mk (T_api_Addr.mk false (0 : Int) (0 : Int)) (0 : Int)) false (0 : Int) (T_api_Score.mk (0 : Int) (0 : Int)) (0 : Int) (0 : Int)) ([] : (List T_api_Ban)) ([] : (List T_api_Entry))) false)] : List T_api_Op) (List.replicate (1 : Int).toNat T_api_Value.d) x1 q2) (.c (show (2 : Int) = (((List.replicate (2 : Int).toNat T_api_Value.d).length : Nat) : Int) from (by rw [List.length_replicate]; exact (Int.toNat_of_nonneg o3.1).symm)) (.c (show (((List.replicate (2 : Int).toNat T_api_Value.d).length : Nat) : Int) ≤ (2 : Int) from (by rw [List.length_replicate]; exact ((Int.toNat_of_nonneg o3.1).symm ▸ o3.2.1))) (.c o3.2.2.1 (.c o3.2.2.2 (.c (show ∀ i j, i < (List.replicate (2 : Int).toNat T_api_Value.d).length → j < 13 → orNil (([.lit (.int .i64 (0)), .lit (.bool false), .lit (.int .u64 (0)), .lit (.int .u64 (0)), .lit (.int .i64 (0)), .lit (.bool false), .lit (.int .i64 (0)), .lit (.int .i64 (0)), .lit (.int .i64 (0)), .lit (.int .i64 (0)), .lit (.int .i64 (0)), .lit (.slice none 0 0), .lit (.slice none 0 0)] : List C).getD j .junk) (rowsOf T_api_Value.c T_api_Value.d (List.replicate (2 : Int).toNat T_api_Value.d) i j) from (by rw [List.length_replicate]; exact (make_orNil (fun j hj => match j, hj with | 0, _ => .inl rfl | 1, _ => .inl rfl | 2, _ => .inl rfl | 3, _ => .inl rfl | 4, _ => .inl rfl | 5, _ => .inl rfl | 6, _ => .inl rfl | 7, _ => .inl rfl | 8, _ => .inl rfl | 9, _ => .inl rfl | 10, _ => .inl rfl | 11, _ => .inr ⟨rfl, _, _, rfl⟩ | 12, _ => .inr ⟨rfl, _, _, rfl⟩ | j + 13, h => absurd h (by omega)) _))) (.c (g_tape_Drill_ok ([(T_api_Op.mk (1 : Int) (1 : Int) (T_api_Loc.mk (0 : Int) (0 : Int) (0 : Int)) (0 : Int) (0 : Int) (T_api_Value.mk (0 : Int) (T_api_Peer.mk (T_api_End.mk (T_api_Addr.mk false (0 : Int) (0 : Int)) (0 : Int)) false (0 : Int) (T_api_Score.mk (0 : Int) (0 : Int)) (0 : Int) (0 : Int)) ([] : (List T_api_Ban)) ([] : (List T_api_Entry))) false), (T_api_Op.mk (8 : Int) (0 : Int) (T_api_Loc.mk (0 : Int) (0 : Int) (0 : Int)) (0 : Int) (0 : Int) (T_api_Value.mk (0 : Int) (T_api_Peer.mk (T_api_End.mk (T_api_Addr.mk false (0 : Int) (0 : Int)) (0 : Int)) false (0 : Int) (T_api_Score.mk (0 : Int) (0 : Int)) (0 : Int) (0 : Int)) ([] : (List T_api_Ban)) ([] : (List T_api_Entry))) false)] : List T_api_Op) (List.replicate (2 : Int).toNat T_api_Value.d) x2 q4) (.c (show ([(T_api_Op.mk (0 : Int) (0 : Int) (T_api_Loc.mk (0 : Int) (0 : Int) (0 : Int)) (0 : Int) (0 : Int) (T_api_Value.mk (0 : Int) (T_api_Peer.mk (T_api_End.mk (T_api_Addr.mk false (0 : Int) (0 : Int)) (0 : Int)) false (0 : Int) (T_api_Score.mk (0 : Int) (0 : Int)) (0 : Int) (0 : Int)) ([] : (List T_api_Ban)) ([] : (List T_api_Entry))) false)] : List T_api_Op).length = 1 ∧ ∀ i j, i < 1 → j < 21 → rowsOf T_api_Op.c T_api_Op.d ([(T_api_Op.mk (0 : Int) (0 : Int) (T_api_Loc.mk (0 : Int) (0 : Int) (0 : Int)) (0 : Int) (0 : Int) (T_api_Value.mk (0 : Int) (T_api_Peer.mk (T_api_End.mk (T_api_Addr.mk false (0 : Int) (0 : Int)) (0 : Int)) false (0 : Int) (T_api_Score.mk (0 : Int) (0 : Int)) (0 : Int) (0 : Int)) ([] : (List T_api_Ban)) ([] : (List T_api_Entry))) false)] : List T_api_Op) i j = (([(T_api_Op.mk (0 : Int) (0 : Int) (T_api_Loc.mk (0 : Int) (0 : Int) (0 : Int)) (0 : Int) (0 : Int) (T_api_Value.mk (0 : Int) (T_api_Peer.mk (T_api_End.mk (T_api_Addr.mk false (0 : Int) (0 : Int)) (0 : Int)) false (0 : Int) (T_api_Score.mk (0 : Int) (0 : Int)) (0 : Int) (0 : Int)) ([] : (List T_api_Ban)) ([] : (List T_api_Entry))) false)] : List T_api_Op).flatMap T_api_Op.c).getD (i * 21 + j) .junk from ⟨rfl, fun i j hi hj => rows_flat (sz := 21) (e := T_api_Op.c) (d := T_api_Op.d) (fun _ => rfl) ([(T_api_Op.mk (0 : Int) (0 : Int) (T_api_Loc.mk (0 : Int) (0 : Int) (0 : Int)) (0 : Int) (0 : Int) (T_api_Value.mk (0 : Int) (T_api_Peer.mk (T_api_End.mk (T_api_Addr.mk false (0 : Int) (0 : Int)) (0 : Int)) false (0 : Int) (T_api_Score.mk (0 : Int) (0 : Int)) (0 : Int) (0 : Int)) ([] : (List T_api_Ban)) ([] : (List T_api_Entry))) false)] : List T_api_Op) i j hi hj⟩) (.c (show SCall Try.prog 21 [.one (cL 21 T_api_Op.c T_api_Op.d ([(T_api_Op.mk (0 : Int) (0 : Int) (T_api_Loc.mk (0 : Int) (0 : Int) (0 : Int)) (0 : Int) (0 : Int) (T_api_Value.mk (0 : Int) (T_api_Peer.mk (T_api_End.mk (T_api_Addr.mk false (0 : Int) (0 : Int)) (0 : Int)) false (0 : Int) (T_api_Score.mk (0 : Int) (0 : Int)) (0 : Int) (0 : Int)) ([] : (List T_api_Ban)) ([] : (List T_api_Entry))) false)] : List T_api_Op)), .one (.lit (.slice none 0 0))] (.agg (T_tape_Turn.c x3)) from ((g_tape_Drill_ok ([(T_api_Op.mk (0 : Int) (0 : Int) (T_api_Loc.mk (0 : Int) (0 : Int) (0 : Int)) (0 : Int) (0 : Int) (T_api_Value.mk (0 : Int) (T_api_Peer.mk (T_api_End.mk (T_api_Addr.mk false (0 : Int) (0 : Int)) (0 : Int)) false (0 : Int) (T_api_Score.mk (0 : Int) (0 : Int)) (0 : Int) (0 : Int)) ([] : (List T_api_Ban)) ([] : (List T_api_Entry))) false)] : List T_api_Op) ([] : (List T_api_Value)) x3 q5).weak (.cons (.refl _) (.cons (.one (.nul _ _)) .nil)))) (.c h6 (.c h7 .n))))))))))))))))) (by kernel_rfl) rfl
  · replace hf := Option.some.inj hf
    subst hf
    exact toEnd_g allOk 10 [rz, ⟨[], [], [], [], [(0, [(18, cL 5 T_api_Ban.c T_api_Ban.d []), (19, cL 7 T_api_Entry.c T_api_Entry.d [])]), (1, [(18, cL 5 T_api_Ban.c T_api_Ban.d []), (19, cL 7 T_api_Entry.c T_api_Entry.d [])])], [(2, (([(T_api_Op.mk (1 : Int) (1 : Int) (T_api_Loc.mk (0 : Int) (0 : Int) (0 : Int)) (0 : Int) (0 : Int) (T_api_Value.mk (0 : Int) (T_api_Peer.mk (T_api_End.mk (T_api_Addr.mk false (0 : Int) (0 : Int)) (0 : Int)) false (0 : Int) (T_api_Score.mk (0 : Int) (0 : Int)) (0 : Int) (0 : Int)) ([] : (List T_api_Ban)) ([] : (List T_api_Entry))) false), (T_api_Op.mk (8 : Int) (0 : Int) (T_api_Loc.mk (0 : Int) (0 : Int) (0 : Int)) (0 : Int) (0 : Int) (T_api_Value.mk (0 : Int) (T_api_Peer.mk (T_api_End.mk (T_api_Addr.mk false (0 : Int) (0 : Int)) (0 : Int)) false (0 : Int) (T_api_Score.mk (0 : Int) (0 : Int)) (0 : Int) (0 : Int)) ([] : (List T_api_Ban)) ([] : (List T_api_Entry))) false)] : List T_api_Op).length, rowsOf T_api_Op.c T_api_Op.d ([(T_api_Op.mk (1 : Int) (1 : Int) (T_api_Loc.mk (0 : Int) (0 : Int) (0 : Int)) (0 : Int) (0 : Int) (T_api_Value.mk (0 : Int) (T_api_Peer.mk (T_api_End.mk (T_api_Addr.mk false (0 : Int) (0 : Int)) (0 : Int)) false (0 : Int) (T_api_Score.mk (0 : Int) (0 : Int)) (0 : Int) (0 : Int)) ([] : (List T_api_Ban)) ([] : (List T_api_Entry))) false), (T_api_Op.mk (8 : Int) (0 : Int) (T_api_Loc.mk (0 : Int) (0 : Int) (0 : Int)) (0 : Int) (0 : Int) (T_api_Value.mk (0 : Int) (T_api_Peer.mk (T_api_End.mk (T_api_Addr.mk false (0 : Int) (0 : Int)) (0 : Int)) false (0 : Int) (T_api_Score.mk (0 : Int) (0 : Int)) (0 : Int) (0 : Int)) ([] : (List T_api_Ban)) ([] : (List T_api_Entry))) false)] : List T_api_Op)))], []⟩, rA [(1, .r (.one (.sl 13 (List.replicate (1 : Int).toNat T_api_Value.d).length (rowsOf T_api_Value.c T_api_Value.d (List.replicate (1 : Int).toNat T_api_Value.d)))) []), (2, aG (T_tape_Turn.c x1)), (4, .r (.one (.sl 13 (List.replicate (2 : Int).toNat T_api_Value.d).length (rowsOf T_api_Value.c T_api_Value.d (List.replicate (2 : Int).toNat T_api_Value.d)))) []), (5, aG (T_tape_Turn.c x2))], ⟨[(2, aG (T_tape_Turn.c x3))], [], [], [], [(0, [(18, cL 5 T_api_Ban.c T_api_Ban.d []), (19, cL 7 T_api_Entry.c T_api_Entry.d [])])], [(1, (([(T_api_Op.mk (0 : Int) (0 : Int) (T_api_Loc.mk (0 : Int) (0 : Int) (0 : Int)) (0 : Int) (0 : Int) (T_api_Value.mk (0 : Int) (T_api_Peer.mk (T_api_End.mk (T_api_Addr.mk false (0 : Int) (0 : Int)) (0 : Int)) false (0 : Int) (T_api_Score.mk (0 : Int) (0 : Int)) (0 : Int) (0 : Int)) ([] : (List T_api_Ban)) ([] : (List T_api_Entry))) false)] : List T_api_Op).length, rowsOf T_api_Op.c T_api_Op.d ([(T_api_Op.mk (0 : Int) (0 : Int) (T_api_Loc.mk (0 : Int) (0 : Int) (0 : Int)) (0 : Int) (0 : Int) (T_api_Value.mk (0 : Int) (T_api_Peer.mk (T_api_End.mk (T_api_Addr.mk false (0 : Int) (0 : Int)) (0 : Int)) false (0 : Int) (T_api_Score.mk (0 : Int) (0 : Int)) (0 : Int) (0 : Int)) ([] : (List T_api_Ban)) ([] : (List T_api_Entry))) false)] : List T_api_Op)))], []⟩, rB [(4, false)]] [] [] [] [] (.c (show ([(T_api_Op.mk (1 : Int) (1 : Int) (T_api_Loc.mk (0 : Int) (0 : Int) (0 : Int)) (0 : Int) (0 : Int) (T_api_Value.mk (0 : Int) (T_api_Peer.mk (T_api_End.mk (T_api_Addr.mk false (0 : Int) (0 : Int)) (0 : Int)) false (0 : Int) (T_api_Score.mk (0 : Int) (0 : Int)) (0 : Int) (0 : Int)) ([] : (List T_api_Ban)) ([] : (List T_api_Entry))) false), (T_api_Op.mk (8 : Int) (0 : Int) (T_api_Loc.mk (0 : Int) (0 : Int) (0 : Int)) (0 : Int) (0 : Int) (T_api_Value.mk (0 : Int) (T_api_Peer.mk (T_api_End.mk (T_api_Addr.mk false (0 : Int) (0 : Int)) (0 : Int)) false (0 : Int) (T_api_Score.mk (0 : Int) (0 : Int)) (0 : Int) (0 : Int)) ([] : (List T_api_Ban)) ([] : (List T_api_Entry))) false)] : List T_api_Op).length = 2 ∧ ∀ i j, i < 2 → j < 21 → rowsOf T_api_Op.c T_api_Op.d ([(T_api_Op.mk (1 : Int) (1 : Int) (T_api_Loc.mk (0 : Int) (0 : Int) (0 : Int)) (0 : Int) (0 : Int) (T_api_Value.mk (0 : Int) (T_api_Peer.mk (T_api_End.mk (T_api_Addr.mk false (0 : Int) (0 : Int)) (0 : Int)) false (0 : Int) (T_api_Score.mk (0 : Int) (0 : Int)) (0 : Int) (0 : Int)) ([] : (List T_api_Ban)) ([] : (List T_api_Entry))) false), (T_api_Op.mk (8 : Int) (0 : Int) (T_api_Loc.mk (0 : Int) (0 : Int) (0 : Int)) (0 : Int) (0 : Int) (T_api_Value.mk (0 : Int) (T_api_Peer.mk (T_api_End.mk (T_api_Addr.mk false (0 : Int) (0 : Int)) (0 : Int)) false (0 : Int) (T_api_Score.mk (0 : Int) (0 : Int)) (0 : Int) (0 : Int)) ([] : (List T_api_Ban)) ([] : (List T_api_Entry))) false)] : List T_api_Op) i j = (([(T_api_Op.mk (1 : Int) (1 : Int) (T_api_Loc.mk (0 : Int) (0 : Int) (0 : Int)) (0 : Int) (0 : Int) (T_api_Value.mk (0 : Int) (T_api_Peer.mk (T_api_End.mk (T_api_Addr.mk false (0 : Int) (0 : Int)) (0 : Int)) false (0 : Int) (T_api_Score.mk (0 : Int) (0 : Int)) (0 : Int) (0 : Int)) ([] : (List T_api_Ban)) ([] : (List T_api_Entry))) false), (T_api_Op.mk (8 : Int) (0 : Int) (T_api_Loc.mk (0 : Int) (0 : Int) (0 : Int)) (0 : Int) (0 : Int) (T_api_Value.mk (0 : Int) (T_api_Peer.mk (T_api_End.mk (T_api_Addr.mk false (0 : Int) (0 : Int)) (0 : Int)) false (0 : Int) (T_api_Score.mk (0 : Int) (0 : Int)) (0 : Int) (0 : Int)) ([] : (List T_api_Ban)) ([] : (List T_api_Entry))) false)] : List T_api_Op).flatMap T_api_Op.c).getD (i * 21 + j) .junk from ⟨rfl, fun i j hi hj => rows_flat (sz := 21) (e := T_api_Op.c) (d := T_api_Op.d) (fun _ => rfl) ([(T_api_Op.mk (1 : Int) (1 : Int) (T_api_Loc.mk (0 : Int) (0 : Int) (0 : Int)) (0 : Int) (0 : Int) (T_api_Value.mk (0 : Int) (T_api_Peer.mk (T_api_End.mk (T_api_Addr.mk false (0 : Int) (0 : Int)) (0 : Int)) false (0 : Int) (T_api_Score.mk (0 : Int) (0 : Int)) (0 : Int) (0 : Int)) ([] : (List T_api_Ban)) ([] : (List T_api_Entry))) false), (T_api_Op.mk (8 : Int) (0 : Int) (T_api_Loc.mk (0 : Int) (0 : Int) (0 : Int)) (0 : Int) (0 : Int) (T_api_Value.mk (0 : Int) (T_api_Peer.mk (T_api_End.mk (T_api_Addr.mk false (0 : Int) (0 : Int)) (0 : Int)) false (0 : Int) (T_api_Score.mk (0 : Int) (0 : Int)) (0 : Int) (0 : Int)) ([] : (List T_api_Ban)) ([] : (List T_api_Entry))) false)] : List T_api_Op) i j hi hj⟩) (.c (show (1 : Int) = (((List.replicate (1 : Int).toNat T_api_Value.d).length : Nat) : Int) from (by rw [List.length_replicate]; exact (Int.toNat_of_nonneg o1.1).symm)) (.c (show (((List.replicate (1 : Int).toNat T_api_Value.d).length : Nat) : Int) ≤ (1 : Int) from (by rw [List.length_replicate]; exact ((Int.toNat_of_nonneg o1.1).symm ▸ o1.2.1))) (.c o1.2.2.1 (.c o1.2.2.2 (.c (show ∀ i j, i < (List.replicate (1 : Int).toNat T_api_Value.d).length → j < 13 → orNil (([.lit (.int .i64 (0)), .lit (.bool false), .lit (.int .u64 (0)), .lit (.int .u64 (0)), .lit (.int .i64 (0)), .lit (.bool false), .lit (.int .i64 (0)), .lit (.int .i64 (0)), .lit (.int .i64 (0)), .lit (.int .i64 (0)), .lit (.int .i64 (0)), .lit (.slice none 0 0), .lit (.slice none 0 0)] : List C).getD j .junk) (rowsOf T_api_Value.c T_api_Value.d (List.replicate (1 : Int).toNat T_api_Value.d) i j) from (by rw [List.length_replicate]; exact (make_orNil (fun j hj => match j, hj with | 0, _ => .inl rfl | 1, _ => .inl rfl | 2, _ => .inl rfl | 3, _ => .inl rfl | 4, _ => .inl rfl | 5, _ => .inl rfl | 6, _ => .inl rfl | 7, _ => .inl rfl | 8, _ => .inl rfl | 9, _ => .inl rfl | 10, _ => .inl rfl | 11, _ => .inr ⟨rfl, _, _, rfl⟩ | 12, _ => .inr ⟨rfl, _, _, rfl⟩ | j + 13, h => absurd h (by omega)) _))) (.c (g_tape_Drill_ok ([(T_api_Op.mk (1 : Int) (1 : Int) (T_api_Loc.mk (0 : Int) (0 : Int) (0 : Int)) (0 : Int) (0 : Int) (T_api_Value.mk (0 : Int) (T_api_Peer.mk (T_api_End.mk (T_api_Addr.mk false (0 : Int) (0 : Int)) (0 : Int)) false (0 : Int) (T_api_Score.mk (0 : Int) (0 : Int)) (0 : Int) (0 : Int)) ([] : (List T_api_Ban)) ([] : (List T_api_Entry))) false), (T_api_Op.mk (8 : Int) (0 : Int) (T_api_Loc.mk (0 : Int) (0 : Int) (0 : Int)) (0 : Int) (0 : Int) (T_api_Value.mk (0 : Int) (T_api_Peer.mk (T_api_End.mk (T_api_Addr.mk false (0 : Int) (0 : Int)) (0 : Int)) false (0 : Int) (T_api_Score.mk (0 : Int) (0 : Int)) (0 : Int) (0 : Int)) ([] : (List T_api_Ban)) ([] : (List T_api_Entry))) false)] : List T_api_Op) (List.replicate (1 : Int).toNat T_api_Value.d) x1 q2) (.c (show (2 : Int) = (((List.replicate (2 : Int).toNat T_api_Value.d).length : Nat) : Int) from (by rw [List.length_replicate]; exact (Int.toNat_of_nonneg o3.1).symm)) (.c (show (((List.replicate (2 : Int).toNat T_api_Value.d).length : Nat) : Int) ≤ (2 : Int) from (by rw [List.length_replicate]; exact ((Int.toNat_of_nonneg o3.1).symm ▸ o3.2.1))) (.c o3.2.2.1 (.c o3.2.2.2 (.c (show ∀ i j, i < (List.replicate (2 : Int).toNat T_api_Value.d).length → j < 13 → orNil (([.lit (.int .i64 (0)), .lit (.bool false), .lit (.int .u64 (0)), .lit (.int .u64 (0)), .lit (.int .i64 (0)), .lit (.bool false), .lit (.int .i64 (0)), .lit (.int .i64 (0)), .lit (.int .i64 (0)), .lit (.int .i64 (0)), .lit (.int .i64 (0)), .lit (.slice none 0 0), .lit (.slice none 0 0)] : List C).getD j .junk) (rowsOf T_api_Value.c T_api_Value.d (List.replicate (2 : Int).toNat T_api_Value.d) i j) from (by rw [List.length_replicate]; exact (make_orNil (fun j hj => match j, hj with | 0, _ => .inl rfl | 1, _ => .inl rfl | 2, _ => .inl rfl | 3, _ => .inl rfl | 4, _ => .inl rfl | 5, _ => .inl rfl | 6, _ => .inl rfl | 7, _ => .inl rfl | 8, _ => .inl rfl | 9, _ => .inl rfl | 10, _ => .inl rfl | 11, _ => .inr ⟨rfl, _, _, rfl⟩ | 12, _ => .inr ⟨rfl, _, _, rfl⟩ | j + 13, h => absurd h (by omega)) _))) (.c (g_tape_Drill_ok ([(T_api_Op.mk (1 : Int) (1 : Int) (T_api_Loc.mk (0 : Int) (0 : Int) (0 : Int)) (0 : Int) (0 : Int) (T_api_Value.mk (0 : Int) (T_api_Peer.mk (T_api_End.mk (T_api_Addr.mk false (0 : Int) (0 : Int)) (0 : Int)) false (0 : Int) (T_api_Score.mk (0 : Int) (0 : Int)) (0 : Int) (0 : Int)) ([] : (List T_api_Ban)) ([] : (List T_api_Entry))) false), (T_api_Op.mk (8 : Int) (0 : Int) (T_api_Loc.mk (0 : Int) (0 : Int) (0 : Int)) (0 : Int) (0 : Int) (T_api_Value.mk (0 : Int) (T_api_Peer.mk (T_api_End.mk (T_api_Addr.mk false (0 : Int) (0 : Int)) (0 : Int)) false (0 : Int) (T_api_Score.mk (0 : Int) (0 : Int)) (0 : Int) (0 : Int)) ([] : (List T_api_Ban)) ([] : (List T_api_Entry))) false)] : List T_api_Op) (List.replicate (2 : Int).toNat T_api_Value.d) x2 q4) (.c (show ([(T_api_Op.mk (0 : Int) (0 : Int) (T_api_Loc.mk (0 : Int) (0 : Int) (0 : Int)) (0 : Int) (0 : Int) (T_api_Value.mk (0 : Int) (T_api_Peer.mk (T_api_End.mk (T_api_Addr.mk false (0 : Int) (0 : Int)) (0 : Int)) false (0 : Int) (T_api_Score.mk (0 : Int) (0 : Int)) (0 : Int) (0 : Int)) ([] : (List T_api_Ban)) ([] : (List T_api_Entry))) false)] : List T_api_Op).length = 1 ∧ ∀ i j, i < 1 → j < 21 → rowsOf T_api_Op.c T_api_Op.d ([(T_api_Op.mk (0 : Int) (0 : Int) (T_api_Loc.mk (0 : Int) (0 : Int) (0 : Int)) (0 : Int) (0 : Int) (T_api_Value.mk (0 : Int) (T_api_Peer.mk (T_api_End.mk (T_api_Addr.mk false (0 : Int) (0 : Int)) (0 : Int)) false (0 : Int) (T_api_Score.mk (0 : Int) (0 : Int)) (0 : Int) (0 : Int)) ([] : (List T_api_Ban)) ([] : (List T_api_Entry))) false)] : List T_api_Op) i j = (([(T_api_Op.mk (0 : Int) (0 : Int) (T_api_Loc.mk (0 : Int) (0 : Int) (0 : Int)) (0 : Int) (0 : Int) (T_api_Value.mk (0 : Int) (T_api_Peer.mk (T_api_End.mk (T_api_Addr.mk false (0 : Int) (0 : Int)) (0 : Int)) false (0 : Int) (T_api_Score.mk (0 : Int) (0 : Int)) (0 : Int) (0 : Int)) ([] : (List T_api_Ban)) ([] : (List T_api_Entry))) false)] : List T_api_Op).flatMap T_api_Op.c).getD (i * 21 + j) .junk from ⟨rfl, fun i j hi hj => rows_flat (sz := 21) (e := T_api_Op.c) (d := T_api_Op.d) (fun _ => rfl) ([(T_api_Op.mk (0 : Int) (0 : Int) (T_api_Loc.mk (0 : Int) (0 : Int) (0 : Int)) (0 : Int) (0 : Int) (T_api_Value.mk (0 : Int) (T_api_Peer.mk (T_api_End.mk (T_api_Addr.mk false (0 : Int) (0 : Int)) (0 : Int)) false (0 : Int) (T_api_Score.mk (0 : Int) (0 : Int)) (0 : Int) (0 : Int)) ([] : (List T_api_Ban)) ([] : (List T_api_Entry))) false)] : List T_api_Op) i j hi hj⟩) (.c (show SCall Try.prog 21 [.one (cL 21 T_api_Op.c T_api_Op.d ([(T_api_Op.mk (0 : Int) (0 : Int) (T_api_Loc.mk (0 : Int) (0 : Int) (0 : Int)) (0 : Int) (0 : Int) (T_api_Value.mk (0 : Int) (T_api_Peer.mk (T_api_End.mk (T_api_Addr.mk false (0 : Int) (0 : Int)) (0 : Int)) false (0 : Int) (T_api_Score.mk (0 : Int) (0 : Int)) (0 : Int) (0 : Int)) ([] : (List T_api_Ban)) ([] : (List T_api_Entry))) false)] : List T_api_Op)), .one (.lit (.slice none 0 0))] (.agg (T_tape_Turn.c x3)) from ((g_tape_Drill_ok ([(T_api_Op.mk (0 : Int) (0 : Int) (T_api_Loc.mk (0 : Int) (0 : Int) (0 : Int)) (0 : Int) (0 : Int) (T_api_Value.mk (0 : Int) (T_api_Peer.mk (T_api_End.mk (T_api_Addr.mk false (0 : Int) (0 : Int)) (0 : Int)) false (0 : Int) (T_api_Score.mk (0 : Int) (0 : Int)) (0 : Int) (0 : Int)) ([] : (List T_api_Ban)) ([] : (List T_api_Entry))) false)] : List T_api_Op) ([] : (List T_api_Value)) x3 q5).weak (.cons (.refl _) (.cons (.one (.nul _ _)) .nil)))) (.c h6 .n)))))))))))))))) (by kernel_rfl) rfl

def g_doormanref36_Loc_c0   (b1 : T_api_Loc) (b2 : T_api_Loc) : Option T_api_Loc :=
  bif (decide (b1.fKind < (6 : Int))) then
    some (T_api_Loc.mk b1.fKind b1.fShard (0 : Int))
  else
    some b1

theorem g_doormanref36_Loc_c0_ok (S0 : Nat → Prop) (w0 : Start)   (b1 : T_api_Loc) (b2 : T_api_Loc) (r : T_api_Loc) (hf : g_doormanref36_Loc_c0   b1 b2 = some r) : Good Try.prog 21 S0 w0 (bodyPost Try.prog Try.f68 (Post S0 w0 (.agg (T_api_Loc.c r)))) (at_ [1, 1, 1] (bodyOf Try.f68)) ⟨[(1, .one (.ptr 1 0)), (2, .one (.ptr 2 0))], [(1, .box [.lit (.int .i64 b1.fKind), .lit (.int .i64 b1.fShard), .lit (.int .i64 b1.fSlot)]), (2, .box [.lit (.int .i64 b2.fKind), .lit (.int .i64 b2.fShard), .lit (.int .i64 b2.fSlot)])]⟩ := by
  unfold g_doormanref36_Loc_c0 at hf
  rcases br_some hf with ⟨h4, hf⟩ | ⟨h4, hf⟩
  · replace hf := Option.some.inj hf
    subst hf
    exact toEnd_g allOk 7 [rz, rz, rz] [true] [] [] [] (.c h4 .n) (by kernel_rfl) rfl
  · replace hf := Option.some.inj hf
    subst hf
    exact toEnd_g allOk 7 [rz, rz] [false] [] [] [] (.c h4 .n) (by kernel_rfl) rfl

/-- doorman/doormanref36.Loc -/
def g_doormanref36_Loc (a0 : T_api_Loc) : Option T_api_Loc :=
  bif (decide (a0.fKind < (1 : Int))) then
    some (T_api_Loc.mk (0 : Int) (0 : Int) (0 : Int))
  else
    bif (decide (a0.fKind > (6 : Int))) then
      some (T_api_Loc.mk (0 : Int) (0 : Int) (0 : Int))
    else
      bif (decide (a0.fKind < (5 : Int))) then
        g_doormanref36_Loc_c0   (T_api_Loc.mk a0.fKind (0 : Int) a0.fSlot) (T_api_Loc.mk (0 : Int) (0 : Int) (0 : Int))
      else
        g_doormanref36_Loc_c0   a0 (T_api_Loc.mk (0 : Int) (0 : Int) (0 : Int))

theorem g_doormanref36_Loc_ok (a0 : T_api_Loc) (r : T_api_Loc) (hf : g_doormanref36_Loc a0 = some r) : SCall Try.prog 68 [.agg (T_api_Loc.c a0)] (.agg (T_api_Loc.c r)) := by
  refine SCall.of Try.func68 rfl rfl rfl rfl fun S0 w0 => ?_
  unfold g_doormanref36_Loc at hf
  rcases br_some hf with ⟨h1, hf⟩ | ⟨h1, hf⟩
  · replace hf := Option.some.inj hf
    subst hf
    exact toEnd_g allOk 8 [rz, rB [(3, true)], rz] [true] [] [] [] (.c h1 (.c (show true = true from rfl) .n)) (by kernel_rfl) rfl
  · rcases br_some hf with ⟨h2, hf⟩ | ⟨h2, hf⟩
    · replace hf := Option.some.inj hf
      subst hf
      exact toEnd_g allOk 8 [rz, rB [(3, false)], rz] [true] [] [] [] (.c h1 (.c h2 .n)) (by kernel_rfl) rfl
    · rcases br_some hf with ⟨h3, hf⟩ | ⟨h3, hf⟩
      · exact toK_g allOk Post.ends 12 [rz, rB [(3, false)], rz, rz] [false, true] ⟨[], [], [], [], [], [1, 2], [1, 2], []⟩ (.c h1 (.c h2 (.c h3 .n))) (by kernel_rfl) (g_doormanref36_Loc_c0_ok S0 w0    (T_api_Loc.mk a0.fKind (0 : Int) a0.fSlot) (T_api_Loc.mk (0 : Int) (0 : Int) (0 : Int)) r hf)
      · exact toK_g allOk Post.ends 12 [rz, rB [(3, false)], rz] [false, false] ⟨[], [], [], [], [], [1, 2], [1, 2], []⟩ (.c h1 (.c h2 (.c h3 .n))) (by kernel_rfl) (g_doormanref36_Loc_c0_ok S0 w0    a0 (T_api_Loc.mk (0 : Int) (0 : Int) (0 : Int)) r hf)

def g_doormanref36_Value_c2 (a0 : Int) (b3 : T_api_Value) (b4 : T_api_Value)  (b5 : T_api_Value) : Option T_api_Value :=
  bif (a0 == (6 : Int)) then
    some (T_api_Value.mk b5.fN b3.fPeer b5.fBans b5.fBook)
  else
    some b5

theorem g_doormanref36_Value_c2_ok (S0 : Nat → Prop) (w0 : Start) (a0 : Int) (b3 : T_api_Value) (b4 : T_api_Value)  (b5 : T_api_Value) (r : T_api_Value) (hf : g_doormanref36_Value_c2 a0 b3 b4  b5 = some r) : Good Try.prog 36 S0 w0 (bodyPost Try.prog Try.f69 (Post S0 w0 (.agg (T_api_Value.c r)))) (at_ [1, 1, 1, 1, 1] (bodyOf Try.f69)) ⟨[(0, .one (.lit (.int .i64 a0))), (3, .one (.ptr 3 0)), (4, .one (.ptr 4 0)), (5, .one (.ptr 5 0))], [(3, .box [.lit (.int .i64 b3.fN), .lit (.bool b3.fPeer.fEnd.fAddr.fV6), .lit (.int .u64 b3.fPeer.fEnd.fAddr.fHi), .lit (.int .u64 b3.fPeer.fEnd.fAddr.fLo), .lit (.int .i64 b3.fPeer.fEnd.fPort), .lit (.bool b3.fPeer.fIn), .lit (.int .i64 b3.fPeer.fSince), .lit (.int .i64 b3.fPeer.fScore.fPoints), .lit (.int .i64 b3.fPeer.fScore.fAt), .lit (.int .i64 b3.fPeer.fPing), .lit (.int .i64 b3.fPeer.fWork), cL 5 T_api_Ban.c T_api_Ban.d b3.fBans, cL 7 T_api_Entry.c T_api_Entry.d b3.fBook]), (4, .box [.lit (.int .i64 b4.fN), .lit (.bool b4.fPeer.fEnd.fAddr.fV6), .lit (.int .u64 b4.fPeer.fEnd.fAddr.fHi), .lit (.int .u64 b4.fPeer.fEnd.fAddr.fLo), .lit (.int .i64 b4.fPeer.fEnd.fPort), .lit (.bool b4.fPeer.fIn), .lit (.int .i64 b4.fPeer.fSince), .lit (.int .i64 b4.fPeer.fScore.fPoints), .lit (.int .i64 b4.fPeer.fScore.fAt), .lit (.int .i64 b4.fPeer.fPing), .lit (.int .i64 b4.fPeer.fWork), cL 5 T_api_Ban.c T_api_Ban.d b4.fBans, cL 7 T_api_Entry.c T_api_Entry.d b4.fBook]), (5, .box [.lit (.int .i64 b5.fN), .lit (.bool b5.fPeer.fEnd.fAddr.fV6), .lit (.int .u64 b5.fPeer.fEnd.fAddr.fHi), .lit (.int .u64 b5.fPeer.fEnd.fAddr.fLo), .lit (.int .i64 b5.fPeer.fEnd.fPort), .lit (.bool b5.fPeer.fIn), .lit (.int .i64 b5.fPeer.fSince), .lit (.int .i64 b5.fPeer.fScore.fPoints), .lit (.int .i64 b5.fPeer.fScore.fAt), .lit (.int .i64 b5.fPeer.fPing), .lit (.int .i64 b5.fPeer.fWork), cL 5 T_api_Ban.c T_api_Ban.d b5.fBans, cL 7 T_api_Entry.c T_api_Entry.d b5.fBook])]⟩ := by
  unfold g_doormanref36_Value_c2 at hf
  rcases br_some hf with ⟨h4, hf⟩ | ⟨h4, hf⟩
  · replace hf := Option.some.inj hf
    subst hf
    exact toEnd_g allOk 7 [rz, rz, rz] [true] [] [] [] (.c h4 .n) (by kernel_rfl) rfl
  · replace hf := Option.some.inj hf
    subst hf
    exact toEnd_g allOk 7 [rz, rz] [false] [] [] [] (.c h4 .n) (by kernel_rfl) rfl

def g_doormanref36_Value_c1 (a0 : Int) (b3 : T_api_Value) (b4 : T_api_Value)  (b5 : T_api_Value) : Option T_api_Value :=
  bif (a0 == (4 : Int)) then
    g_doormanref36_Value_c2 a0 b3 b4  (T_api_Value.mk b5.fN b5.fPeer b5.fBans b3.fBook)
  else
    g_doormanref36_Value_c2 a0 b3 b4  b5

theorem g_doormanref36_Value_c1_ok (S0 : Nat → Prop) (w0 : Start) (a0 : Int) (b3 : T_api_Value) (b4 : T_api_Value)  (b5 : T_api_Value) (r : T_api_Value) (hf : g_doormanref36_Value_c1 a0 b3 b4  b5 = some r) : Good Try.prog 36 S0 w0 (bodyPost Try.prog Try.f69 (Post S0 w0 (.agg (T_api_Value.c r)))) (at_ [1, 1, 1, 1] (bodyOf Try.f69)) ⟨[(0, .one (.lit (.int .i64 a0))), (3, .one (.ptr 3 0)), (4, .one (.ptr 4 0)), (5, .one (.ptr 5 0))], [(3, .box [.lit (.int .i64 b3.fN), .lit (.bool b3.fPeer.fEnd.fAddr.fV6), .lit (.int .u64 b3.fPeer.fEnd.fAddr.fHi), .lit (.int .u64 b3.fPeer.fEnd.fAddr.fLo), .lit (.int .i64 b3.fPeer.fEnd.fPort), .lit (.bool b3.fPeer.fIn), .lit (.int .i64 b3.fPeer.fSince), .lit (.int .i64 b3.fPeer.fScore.fPoints), .lit (.int .i64 b3.fPeer.fScore.fAt), .lit (.int .i64 b3.fPeer.fPing), .lit (.int .i64 b3.fPeer.fWork), cL 5 T_api_Ban.c T_api_Ban.d b3.fBans, cL 7 T_api_Entry.c T_api_Entry.d b3.fBook]), (4, .box [.lit (.int .i64 b4.fN), .lit (.bool b4.fPeer.fEnd.fAddr.fV6), .lit (.int .u64 b4.fPeer.fEnd.fAddr.fHi), .lit (.int .u64 b4.fPeer.fEnd.fAddr.fLo), .lit (.int .i64 b4.fPeer.fEnd.fPort), .lit (.bool b4.fPeer.fIn), .lit (.int .i64 b4.fPeer.fSince), .lit (.int .i64 b4.fPeer.fScore.fPoints), .lit (.int .i64 b4.fPeer.fScore.fAt), .lit (.int .i64 b4.fPeer.fPing), .lit (.int .i64 b4.fPeer.fWork), cL 5 T_api_Ban.c T_api_Ban.d b4.fBans, cL 7 T_api_Entry.c T_api_Entry.d b4.fBook]), (5, .box [.lit (.int .i64 b5.fN), .lit (.bool b5.fPeer.fEnd.fAddr.fV6), .lit (.int .u64 b5.fPeer.fEnd.fAddr.fHi), .lit (.int .u64 b5.fPeer.fEnd.fAddr.fLo), .lit (.int .i64 b5.fPeer.fEnd.fPort), .lit (.bool b5.fPeer.fIn), .lit (.int .i64 b5.fPeer.fSince), .lit (.int .i64 b5.fPeer.fScore.fPoints), .lit (.int .i64 b5.fPeer.fScore.fAt), .lit (.int .i64 b5.fPeer.fPing), .lit (.int .i64 b5.fPeer.fWork), cL 5 T_api_Ban.c T_api_Ban.d b5.fBans, cL 7 T_api_Entry.c T_api_Entry.d b5.fBook])]⟩ := by
  unfold g_doormanref36_Value_c1 at hf
  rcases br_some hf with ⟨h3, hf⟩ | ⟨h3, hf⟩
  · exact toK_g allOk Post.ends 5 [rz, rz] [true] ⟨[], [], [], [], [], [0, 3, 4, 5], [3, 4, 5], []⟩ (.c h3 .n) (by kernel_rfl) (g_doormanref36_Value_c2_ok S0 w0 a0 b3 b4   (T_api_Value.mk b5.fN b5.fPeer b5.fBans b3.fBook) r hf)
  · exact toK_g allOk Post.ends 5 [rz] [false] ⟨[], [], [], [], [], [0, 3, 4, 5], [3, 4, 5], []⟩ (.c h3 .n) (by kernel_rfl) (g_doormanref36_Value_c2_ok S0 w0 a0 b3 b4   b5 r hf)

def g_doormanref36_Value_c0 (a0 : Int)  (b3 : T_api_Value) (b4 : T_api_Value) (b5 : T_api_Value) : Option T_api_Value :=
  bif (a0 == (3 : Int)) then
    g_doormanref36_Value_c1 a0 b3 b4  (T_api_Value.mk b5.fN b5.fPeer b3.fBans b5.fBook)
  else
    g_doormanref36_Value_c1 a0 b3 b4  b5

theorem g_doormanref36_Value_c0_ok (S0 : Nat → Prop) (w0 : Start) (a0 : Int)  (b3 : T_api_Value) (b4 : T_api_Value) (b5 : T_api_Value) (r : T_api_Value) (hf : g_doormanref36_Value_c0 a0  b3 b4 b5 = some r) : Good Try.prog 36 S0 w0 (bodyPost Try.prog Try.f69 (Post S0 w0 (.agg (T_api_Value.c r)))) (at_ [1, 1, 1] (bodyOf Try.f69)) ⟨[(0, .one (.lit (.int .i64 a0))), (3, .one (.ptr 3 0)), (4, .one (.ptr 4 0)), (5, .one (.ptr 5 0))], [(3, .box [.lit (.int .i64 b3.fN), .lit (.bool b3.fPeer.fEnd.fAddr.fV6), .lit (.int .u64 b3.fPeer.fEnd.fAddr.fHi), .lit (.int .u64 b3.fPeer.fEnd.fAddr.fLo), .lit (.int .i64 b3.fPeer.fEnd.fPort), .lit (.bool b3.fPeer.fIn), .lit (.int .i64 b3.fPeer.fSince), .lit (.int .i64 b3.fPeer.fScore.fPoints), .lit (.int .i64 b3.fPeer.fScore.fAt), .lit (.int .i64 b3.fPeer.fPing), .lit (.int .i64 b3.fPeer.fWork), cL 5 T_api_Ban.c T_api_Ban.d b3.fBans, cL 7 T_api_Entry.c T_api_Entry.d b3.fBook]), (4, .box [.lit (.int .i64 b4.fN), .lit (.bool b4.fPeer.fEnd.fAddr.fV6), .lit (.int .u64 b4.fPeer.fEnd.fAddr.fHi), .lit (.int .u64 b4.fPeer.fEnd.fAddr.fLo), .lit (.int .i64 b4.fPeer.fEnd.fPort), .lit (.bool b4.fPeer.fIn), .lit (.int .i64 b4.fPeer.fSince), .lit (.int .i64 b4.fPeer.fScore.fPoints), .lit (.int .i64 b4.fPeer.fScore.fAt), .lit (.int .i64 b4.fPeer.fPing), .lit (.int .i64 b4.fPeer.fWork), cL 5 T_api_Ban.c T_api_Ban.d b4.fBans, cL 7 T_api_Entry.c T_api_Entry.d b4.fBook]), (5, .box [.lit (.int .i64 b5.fN), .lit (.bool b5.fPeer.fEnd.fAddr.fV6), .lit (.int .u64 b5.fPeer.fEnd.fAddr.fHi), .lit (.int .u64 b5.fPeer.fEnd.fAddr.fLo), .lit (.int .i64 b5.fPeer.fEnd.fPort), .lit (.bool b5.fPeer.fIn), .lit (.int .i64 b5.fPeer.fSince), .lit (.int .i64 b5.fPeer.fScore.fPoints), .lit (.int .i64 b5.fPeer.fScore.fAt), .lit (.int .i64 b5.fPeer.fPing), .lit (.int .i64 b5.fPeer.fWork), cL 5 T_api_Ban.c T_api_Ban.d b5.fBans, cL 7 T_api_Entry.c T_api_Entry.d b5.fBook])]⟩ := by
  unfold g_doormanref36_Value_c0 at hf
  rcases br_some hf with ⟨h2, hf⟩ | ⟨h2, hf⟩
  · exact toK_g allOk Post.ends 5 [rz, rz] [true] ⟨[], [], [], [], [], [0, 3, 4, 5], [3, 4, 5], []⟩ (.c h2 .n) (by kernel_rfl) (g_doormanref36_Value_c1_ok S0 w0 a0 b3 b4   (T_api_Value.mk b5.fN b5.fPeer b3.fBans b5.fBook) r hf)
  · exact toK_g allOk Post.ends 5 [rz] [false] ⟨[], [], [], [], [], [0, 3, 4, 5], [3, 4, 5], []⟩ (.c h2 .n) (by kernel_rfl) (g_doormanref36_Value_c1_ok S0 w0 a0 b3 b4   b5 r hf)

/-- doorman/doormanref36.Value -/
def g_doormanref36_Value (a0 : Int) (a1 : T_api_Value) : Option T_api_Value :=
  bif (a0 == (1 : Int)) then
    g_doormanref36_Value_c0 a0  a1 (T_api_Value.mk (0 : Int) (T_api_Peer.mk (T_api_End.mk (T_api_Addr.mk false (0 : Int) (0 : Int)) (0 : Int)) false (0 : Int) (T_api_Score.mk (0 : Int) (0 : Int)) (0 : Int) (0 : Int)) ([] : (List T_api_Ban)) ([] : (List T_api_Entry))) (T_api_Value.mk a1.fN (T_api_Peer.mk (T_api_End.mk (T_api_Addr.mk false (0 : Int) (0 : Int)) (0 : Int)) false (0 : Int) (T_api_Score.mk (0 : Int) (0 : Int)) (0 : Int) (0 : Int)) ([] : (List T_api_Ban)) ([] : (List T_api_Entry)))
  else
    bif (a0 == (2 : Int)) then
      g_doormanref36_Value_c0 a0  a1 (T_api_Value.mk (0 : Int) (T_api_Peer.mk (T_api_End.mk (T_api_Addr.mk false (0 : Int) (0 : Int)) (0 : Int)) false (0 : Int) (T_api_Score.mk (0 : Int) (0 : Int)) (0 : Int) (0 : Int)) ([] : (List T_api_Ban)) ([] : (List T_api_Entry))) (T_api_Value.mk a1.fN (T_api_Peer.mk (T_api_End.mk (T_api_Addr.mk false (0 : Int) (0 : Int)) (0 : Int)) false (0 : Int) (T_api_Score.mk (0 : Int) (0 : Int)) (0 : Int) (0 : Int)) ([] : (List T_api_Ban)) ([] : (List T_api_Entry)))
    else
      bif (a0 == (5 : Int)) then
        g_doormanref36_Value_c0 a0  a1 (T_api_Value.mk (0 : Int) (T_api_Peer.mk (T_api_End.mk (T_api_Addr.mk false (0 : Int) (0 : Int)) (0 : Int)) false (0 : Int) (T_api_Score.mk (0 : Int) (0 : Int)) (0 : Int) (0 : Int)) ([] : (List T_api_Ban)) ([] : (List T_api_Entry))) (T_api_Value.mk a1.fN (T_api_Peer.mk (T_api_End.mk (T_api_Addr.mk false (0 : Int) (0 : Int)) (0 : Int)) false (0 : Int) (T_api_Score.mk (0 : Int) (0 : Int)) (0 : Int) (0 : Int)) ([] : (List T_api_Ban)) ([] : (List T_api_Entry)))
      else
        g_doormanref36_Value_c0 a0  a1 (T_api_Value.mk (0 : Int) (T_api_Peer.mk (T_api_End.mk (T_api_Addr.mk false (0 : Int) (0 : Int)) (0 : Int)) false (0 : Int) (T_api_Score.mk (0 : Int) (0 : Int)) (0 : Int) (0 : Int)) ([] : (List T_api_Ban)) ([] : (List T_api_Entry))) (T_api_Value.mk (0 : Int) (T_api_Peer.mk (T_api_End.mk (T_api_Addr.mk false (0 : Int) (0 : Int)) (0 : Int)) false (0 : Int) (T_api_Score.mk (0 : Int) (0 : Int)) (0 : Int) (0 : Int)) ([] : (List T_api_Ban)) ([] : (List T_api_Entry)))

theorem g_doormanref36_Value_ok (a0 : Int) (a1 : T_api_Value) (r : T_api_Value) (hf : g_doormanref36_Value a0 a1 = some r) : SCall Try.prog 69 [.one (.lit (.int .i64 a0)), .agg (T_api_Value.c a1)] (.agg (T_api_Value.c r)) := by
  refine SCall.of Try.func69 rfl rfl rfl rfl fun S0 w0 => ?_
  unfold g_doormanref36_Value at hf
  rcases br_some hf with ⟨h1, hf⟩ | ⟨h1, hf⟩
  · exact toK_g allOk Post.ends 9 [rz, rz, rB [(2, true)], rz] [true] ⟨[], [(4, [(11, cL 5 T_api_Ban.c T_api_Ban.d []), (12, cL 7 T_api_Entry.c T_api_Entry.d [])]), (5, [(11, cL 5 T_api_Ban.c T_api_Ban.d []), (12, cL 7 T_api_Entry.c T_api_Entry.d [])])], [], [], [], [0, 3, 4, 5], [3, 4, 5], []⟩ (.c h1 (.c (show true = true from rfl) .n)) (by kernel_rfl) (g_doormanref36_Value_c0_ok S0 w0 a0   a1 (T_api_Value.mk (0 : Int) (T_api_Peer.mk (T_api_End.mk (T_api_Addr.mk false (0 : Int) (0 : Int)) (0 : Int)) false (0 : Int) (T_api_Score.mk (0 : Int) (0 : Int)) (0 : Int) (0 : Int)) ([] : (List T_api_Ban)) ([] : (List T_api_Entry))) (T_api_Value.mk a1.fN (T_api_Peer.mk (T_api_End.mk (T_api_Addr.mk false (0 : Int) (0 : Int)) (0 : Int)) false (0 : Int) (T_api_Score.mk (0 : Int) (0 : Int)) (0 : Int) (0 : Int)) ([] : (List T_api_Ban)) ([] : (List T_api_Entry))) r hf)
  · rcases br_some hf with ⟨h2, hf⟩ | ⟨h2, hf⟩
    · exact toK_g allOk Post.ends 9 [rz, rz, rB [(2, false), (6, true)], rz] [true] ⟨[], [(4, [(11, cL 5 T_api_Ban.c T_api_Ban.d []), (12, cL 7 T_api_Entry.c T_api_Entry.d [])]), (5, [(11, cL 5 T_api_Ban.c T_api_Ban.d []), (12, cL 7 T_api_Entry.c T_api_Entry.d [])])], [], [], [], [0, 3, 4, 5], [3, 4, 5], []⟩ (.c h1 (.c h2 (.c (show true = true from rfl) .n))) (by kernel_rfl) (g_doormanref36_Value_c0_ok S0 w0 a0   a1 (T_api_Value.mk (0 : Int) (T_api_Peer.mk (T_api_End.mk (T_api_Addr.mk false (0 : Int) (0 : Int)) (0 : Int)) false (0 : Int) (T_api_Score.mk (0 : Int) (0 : Int)) (0 : Int) (0 : Int)) ([] : (List T_api_Ban)) ([] : (List T_api_Entry))) (T_api_Value.mk a1.fN (T_api_Peer.mk (T_api_End.mk (T_api_Addr.mk false (0 : Int) (0 : Int)) (0 : Int)) false (0 : Int) (T_api_Score.mk (0 : Int) (0 : Int)) (0 : Int) (0 : Int)) ([] : (List T_api_Ban)) ([] : (List T_api_Entry))) r hf)
    · rcases br_some hf with ⟨h3, hf⟩ | ⟨h3, hf⟩
      · exact toK_g allOk Post.ends 9 [rz, rz, rB [(2, false), (6, false)], rz] [true] ⟨[], [(4, [(11, cL 5 T_api_Ban.c T_api_Ban.d []), (12, cL 7 T_api_Entry.c T_api_Entry.d [])]), (5, [(11, cL 5 T_api_Ban.c T_api_Ban.d []), (12, cL 7 T_api_Entry.c T_api_Entry.d [])])], [], [], [], [0, 3, 4, 5], [3, 4, 5], []⟩ (.c h1 (.c h2 (.c h3 .n))) (by kernel_rfl) (g_doormanref36_Value_c0_ok S0 w0 a0   a1 (T_api_Value.mk (0 : Int) (T_api_Peer.mk (T_api_End.mk (T_api_Addr.mk false (0 : Int) (0 : Int)) (0 : Int)) false (0 : Int) (T_api_Score.mk (0 : Int) (0 : Int)) (0 : Int) (0 : Int)) ([] : (List T_api_Ban)) ([] : (List T_api_Entry))) (T_api_Value.mk a1.fN (T_api_Peer.mk (T_api_End.mk (T_api_Addr.mk false (0 : Int) (0 : Int)) (0 : Int)) false (0 : Int) (T_api_Score.mk (0 : Int) (0 : Int)) (0 : Int) (0 : Int)) ([] : (List T_api_Ban)) ([] : (List T_api_Entry))) r hf)
      · exact toK_g allOk Post.ends 9 [rz, rz, rB [(2, false), (6, false)]] [false] ⟨[], [(4, [(11, cL 5 T_api_Ban.c T_api_Ban.d []), (12, cL 7 T_api_Entry.c T_api_Entry.d [])]), (5, [(11, cL 5 T_api_Ban.c T_api_Ban.d []), (12, cL 7 T_api_Entry.c T_api_Entry.d [])])], [], [], [], [0, 3, 4, 5], [3, 4, 5], []⟩ (.c h1 (.c h2 (.c h3 .n))) (by kernel_rfl) (g_doormanref36_Value_c0_ok S0 w0 a0   a1 (T_api_Value.mk (0 : Int) (T_api_Peer.mk (T_api_End.mk (T_api_Addr.mk false (0 : Int) (0 : Int)) (0 : Int)) false (0 : Int) (T_api_Score.mk (0 : Int) (0 : Int)) (0 : Int) (0 : Int)) ([] : (List T_api_Ban)) ([] : (List T_api_Entry))) (T_api_Value.mk (0 : Int) (T_api_Peer.mk (T_api_End.mk (T_api_Addr.mk false (0 : Int) (0 : Int)) (0 : Int)) false (0 : Int) (T_api_Score.mk (0 : Int) (0 : Int)) (0 : Int) (0 : Int)) ([] : (List T_api_Ban)) ([] : (List T_api_Entry))) r hf)

def g_doormanref36_Clean_c2 (b1 : T_api_Op) (b2 : T_api_Op)  (b3 : T_api_Op) : Option T_api_Op :=
  bif (b1.fKind == (7 : Int)) then
    some (T_api_Op.mk b3.fKind b3.fLock b3.fLoc b1.fOld b1.fNew b3.fVal b3.fMark)
  else
    some b3

theorem g_doormanref36_Clean_c2_ok (S0 : Nat → Prop) (w0 : Start) (b1 : T_api_Op) (b2 : T_api_Op)  (b3 : T_api_Op) (r : T_api_Op) (hf : g_doormanref36_Clean_c2 b1 b2  b3 = some r) : Good Try.prog 56 S0 w0 (bodyPost Try.prog Try.f48 (Post S0 w0 (.agg (T_api_Op.c r)))) (at_ [1, 1, 1, 1, 1, 1] (bodyOf Try.f48)) ⟨[(1, .one (.ptr 1 0)), (2, .one (.ptr 2 0)), (3, .one (.ptr 3 0))], [(1, .box [.lit (.int .i64 b1.fKind), .lit (.int .i64 b1.fLock), .lit (.int .i64 b1.fLoc.fKind), .lit (.int .i64 b1.fLoc.fShard), .lit (.int .i64 b1.fLoc.fSlot), .lit (.int .i64 b1.fOld), .lit (.int .i64 b1.fNew), .lit (.int .i64 b1.fVal.fN), .lit (.bool b1.fVal.fPeer.fEnd.fAddr.fV6), .lit (.int .u64 b1.fVal.fPeer.fEnd.fAddr.fHi), .lit (.int .u64 b1.fVal.fPeer.fEnd.fAddr.fLo), .lit (.int .i64 b1.fVal.fPeer.fEnd.fPort), .lit (.bool b1.fVal.fPeer.fIn), .lit (.int .i64 b1.fVal.fPeer.fSince), .lit (.int .i64 b1.fVal.fPeer.fScore.fPoints), .lit (.int .i64 b1.fVal.fPeer.fScore.fAt), .lit (.int .i64 b1.fVal.fPeer.fPing), .lit (.int .i64 b1.fVal.fPeer.fWork), cL 5 T_api_Ban.c T_api_Ban.d b1.fVal.fBans, cL 7 T_api_Entry.c T_api_Entry.d b1.fVal.fBook, .lit (.bool b1.fMark)]), (2, .box [.lit (.int .i64 b2.fKind), .lit (.int .i64 b2.fLock), .lit (.int .i64 b2.fLoc.fKind), .lit (.int .i64 b2.fLoc.fShard), .lit (.int .i64 b2.fLoc.fSlot), .lit (.int .i64 b2.fOld), .lit (.int .i64 b2.fNew), .lit (.int .i64 b2.fVal.fN), .lit (.bool b2.fVal.fPeer.fEnd.fAddr.fV6), .lit (.int .u64 b2.fVal.fPeer.fEnd.fAddr.fHi), .lit (.int .u64 b2.fVal.fPeer.fEnd.fAddr.fLo), .lit (.int .i64 b2.fVal.fPeer.fEnd.fPort), .lit (.bool b2.fVal.fPeer.fIn), .lit (.int .i64 b2.fVal.fPeer.fSince), .lit (.int .i64 b2.fVal.fPeer.fScore.fPoints), .lit (.int .i64 b2.fVal.fPeer.fScore.fAt), .lit (.int .i64 b2.fVal.fPeer.fPing), .lit (.int .i64 b2.fVal.fPeer.fWork), cL 5 T_api_Ban.c T_api_Ban.d b2.fVal.fBans, cL 7 T_api_Entry.c T_api_Entry.d b2.fVal.fBook, .lit (.bool b2.fMark)]), (3, .box [.lit (.int .i64 b3.fKind), .lit (.int .i64 b3.fLock), .lit (.int .i64 b3.fLoc.fKind), .lit (.int .i64 b3.fLoc.fShard), .lit (.int .i64 b3.fLoc.fSlot), .lit (.int .i64 b3.fOld), .lit (.int .i64 b3.fNew), .lit (.int .i64 b3.fVal.fN), .lit (.bool b3.fVal.fPeer.fEnd.fAddr.fV6), .lit (.int .u64 b3.fVal.fPeer.fEnd.fAddr.fHi), .lit (.int .u64 b3.fVal.fPeer.fEnd.fAddr.fLo), .lit (.int .i64 b3.fVal.fPeer.fEnd.fPort), .lit (.bool b3.fVal.fPeer.fIn), .lit (.int .i64 b3.fVal.fPeer.fSince), .lit (.int .i64 b3.fVal.fPeer.fScore.fPoints), .lit (.int .i64 b3.fVal.fPeer.fScore.fAt), .lit (.int .i64 b3.fVal.fPeer.fPing), .lit (.int .i64 b3.fVal.fPeer.fWork), cL 5 T_api_Ban.c T_api_Ban.d b3.fVal.fBans, cL 7 T_api_Entry.c T_api_Entry.d b3.fVal.fBook, .lit (.bool b3.fMark)])]⟩ := by
  unfold g_doormanref36_Clean_c2 at hf
  rcases br_some hf with ⟨h9, hf⟩ | ⟨h9, hf⟩
  · replace hf := Option.some.inj hf
    subst hf
    exact toEnd_g allOk 9 [rz, rz, rz, rz] [true] [] [] [] (.c h9 .n) (by kernel_rfl) rfl
  · replace hf := Option.some.inj hf
    subst hf
    exact toEnd_g allOk 7 [rz, rz] [false] [] [] [] (.c h9 .n) (by kernel_rfl) rfl

def g_doormanref36_Clean_c1 (b1 : T_api_Op) (b2 : T_api_Op)  (b3 : T_api_Op) : Option T_api_Op :=
  bif (b1.fKind == (6 : Int)) then
    (g_doormanref36_Value b1.fLoc.fKind b1.fVal).bind fun x2 =>
    g_doormanref36_Clean_c2 b1 b2  (T_api_Op.mk b3.fKind b3.fLock b3.fLoc b3.fOld b3.fNew x2 b3.fMark)
  else
    g_doormanref36_Clean_c2 b1 b2  b3

theorem g_doormanref36_Clean_c1_ok (S0 : Nat → Prop) (w0 : Start) (b1 : T_api_Op) (b2 : T_api_Op)  (b3 : T_api_Op) (r : T_api_Op) (hf : g_doormanref36_Clean_c1 b1 b2  b3 = some r) : Good Try.prog 56 S0 w0 (bodyPost Try.prog Try.f48 (Post S0 w0 (.agg (T_api_Op.c r)))) (at_ [1, 1, 1, 1, 1] (bodyOf Try.f48)) ⟨[(1, .one (.ptr 1 0)), (2, .one (.ptr 2 0)), (3, .one (.ptr 3 0))], [(1, .box [.lit (.int .i64 b1.fKind), .lit (.int .i64 b1.fLock), .lit (.int .i64 b1.fLoc.fKind), .lit (.int .i64 b1.fLoc.fShard), .lit (.int .i64 b1.fLoc.fSlot), .lit (.int .i64 b1.fOld), .lit (.int .i64 b1.fNew), .lit (.int .i64 b1.fVal.fN), .lit (.bool b1.fVal.fPeer.fEnd.fAddr.fV6), .lit (.int .u64 b1.fVal.fPeer.fEnd.fAddr.fHi), .lit (.int .u64 b1.fVal.fPeer.fEnd.fAddr.fLo), .lit (.int .i64 b1.fVal.fPeer.fEnd.fPort), .lit (.bool b1.fVal.fPeer.fIn), .lit (.int .i64 b1.fVal.fPeer.fSince), .lit (.int .i64 b1.fVal.fPeer.fScore.fPoints), .lit (.int .i64 b1.fVal.fPeer.fScore.fAt), .lit (.int .i64 b1.fVal.fPeer.fPing), .lit (.int .i64 b1.fVal.fPeer.fWork), cL 5 T_api_Ban.c T_api_Ban.d b1.fVal.fBans, cL 7 T_api_Entry.c T_api_Entry.d b1.fVal.fBook, .lit (.bool b1.fMark)]), (2, .box [.lit (.int .i64 b2.fKind), .lit (.int .i64 b2.fLock), .lit (.int .i64 b2.fLoc.fKind), .lit (.int .i64 b2.fLoc.fShard), .lit (.int .i64 b2.fLoc.fSlot), .lit (.int .i64 b2.fOld), .lit (.int .i64 b2.fNew), .lit (.int .i64 b2.fVal.fN), .lit (.bool b2.fVal.fPeer.fEnd.fAddr.fV6), .lit (.int .u64 b2.fVal.fPeer.fEnd.fAddr.fHi), .lit (.int .u64 b2.fVal.fPeer.fEnd.fAddr.fLo), .lit (.int .i64 b2.fVal.fPeer.fEnd.fPort), .lit (.bool b2.fVal.fPeer.fIn), .lit (.int .i64 b2.fVal.fPeer.fSince), .lit (.int .i64 b2.fVal.fPeer.fScore.fPoints), .lit (.int .i64 b2.fVal.fPeer.fScore.fAt), .lit (.int .i64 b2.fVal.fPeer.fPing), .lit (.int .i64 b2.fVal.fPeer.fWork), cL 5 T_api_Ban.c T_api_Ban.d b2.fVal.fBans, cL 7 T_api_Entry.c T_api_Entry.d b2.fVal.fBook, .lit (.bool b2.fMark)]), (3, .box [.lit (.int .i64 b3.fKind), .lit (.int .i64 b3.fLock), .lit (.int .i64 b3.fLoc.fKind), .lit (.int .i64 b3.fLoc.fShard), .lit (.int .i64 b3.fLoc.fSlot), .lit (.int .i64 b3.fOld), .lit (.int .i64 b3.fNew), .lit (.int .i64 b3.fVal.fN), .lit (.bool b3.fVal.fPeer.fEnd.fAddr.fV6), .lit (.int .u64 b3.fVal.fPeer.fEnd.fAddr.fHi), .lit (.int .u64 b3.fVal.fPeer.fEnd.fAddr.fLo), .lit (.int .i64 b3.fVal.fPeer.fEnd.fPort), .lit (.bool b3.fVal.fPeer.fIn), .lit (.int .i64 b3.fVal.fPeer.fSince), .lit (.int .i64 b3.fVal.fPeer.fScore.fPoints), .lit (.int .i64 b3.fVal.fPeer.fScore.fAt), .lit (.int .i64 b3.fVal.fPeer.fPing), .lit (.int .i64 b3.fVal.fPeer.fWork), cL 5 T_api_Ban.c T_api_Ban.d b3.fVal.fBans, cL 7 T_api_Entry.c T_api_Entry.d b3.fVal.fBook, .lit (.bool b3.fMark)])]⟩ := by
  unfold g_doormanref36_Clean_c1 at hf
  rcases br_some hf with ⟨h7, hf⟩ | ⟨h7, hf⟩
  · obtain ⟨x2, q8, hf⟩ := bind_some' hf
    exact toK_g allOk Post.ends 5 [rz, rA [(5, aG (T_api_Value.c x2))]] [true] ⟨[], [], [], [], [], [1, 2, 3], [1, 2, 3], []⟩ (.c h7 (.c (g_doormanref36_Value_ok b1.fLoc.fKind b1.fVal x2 q8) .n)) (by kernel_rfl) (g_doormanref36_Clean_c2_ok S0 w0 b1 b2   (T_api_Op.mk b3.fKind b3.fLock b3.fLoc b3.fOld b3.fNew x2 b3.fMark) r hf)
  · exact toK_g allOk Post.ends 5 [rz] [false] ⟨[], [], [], [], [], [1, 2, 3], [1, 2, 3], []⟩ (.c h7 .n) (by kernel_rfl) (g_doormanref36_Clean_c2_ok S0 w0 b1 b2   b3 r hf)

def g_doormanref36_Clean_c0   (b1 : T_api_Op) (b2 : T_api_Op) (b3 : T_api_Op) : Option T_api_Op :=
  bif (decide (b1.fKind > (4 : Int))) then
    bif (decide (b1.fKind < (8 : Int))) then
      (g_doormanref36_Loc b1.fLoc).bind fun x1 =>
      g_doormanref36_Clean_c1 b1 b2  (T_api_Op.mk b3.fKind b3.fLock x1 b3.fOld b3.fNew b3.fVal b3.fMark)
    else
      g_doormanref36_Clean_c1 b1 b2  b3
  else
    g_doormanref36_Clean_c1 b1 b2  b3

theorem g_doormanref36_Clean_c0_ok (S0 : Nat → Prop) (w0 : Start)   (b1 : T_api_Op) (b2 : T_api_Op) (b3 : T_api_Op) (r : T_api_Op) (hf : g_doormanref36_Clean_c0   b1 b2 b3 = some r) : Good Try.prog 56 S0 w0 (bodyPost Try.prog Try.f48 (Post S0 w0 (.agg (T_api_Op.c r)))) (at_ [1, 1, 1, 1] (bodyOf Try.f48)) ⟨[(1, .one (.ptr 1 0)), (2, .one (.ptr 2 0)), (3, .one (.ptr 3 0))], [(1, .box [.lit (.int .i64 b1.fKind), .lit (.int .i64 b1.fLock), .lit (.int .i64 b1.fLoc.fKind), .lit (.int .i64 b1.fLoc.fShard), .lit (.int .i64 b1.fLoc.fSlot), .lit (.int .i64 b1.fOld), .lit (.int .i64 b1.fNew), .lit (.int .i64 b1.fVal.fN), .lit (.bool b1.fVal.fPeer.fEnd.fAddr.fV6), .lit (.int .u64 b1.fVal.fPeer.fEnd.fAddr.fHi), .lit (.int .u64 b1.fVal.fPeer.fEnd.fAddr.fLo), .lit (.int .i64 b1.fVal.fPeer.fEnd.fPort), .lit (.bool b1.fVal.fPeer.fIn), .lit (.int .i64 b1.fVal.fPeer.fSince), .lit (.int .i64 b1.fVal.fPeer.fScore.fPoints), .lit (.int .i64 b1.fVal.fPeer.fScore.fAt), .lit (.int .i64 b1.fVal.fPeer.fPing), .lit (.int .i64 b1.fVal.fPeer.fWork), cL 5 T_api_Ban.c T_api_Ban.d b1.fVal.fBans, cL 7 T_api_Entry.c T_api_Entry.d b1.fVal.fBook, .lit (.bool b1.fMark)]), (2, .box [.lit (.int .i64 b2.fKind), .lit (.int .i64 b2.fLock), .lit (.int .i64 b2.fLoc.fKind), .lit (.int .i64 b2.fLoc.fShard), .lit (.int .i64 b2.fLoc.fSlot), .lit (.int .i64 b2.fOld), .lit (.int .i64 b2.fNew), .lit (.int .i64 b2.fVal.fN), .lit (.bool b2.fVal.fPeer.fEnd.fAddr.fV6), .lit (.int .u64 b2.fVal.fPeer.fEnd.fAddr.fHi), .lit (.int .u64 b2.fVal.fPeer.fEnd.fAddr.fLo), .lit (.int .i64 b2.fVal.fPeer.fEnd.fPort), .lit (.bool b2.fVal.fPeer.fIn), .lit (.int .i64 b2.fVal.fPeer.fSince), .lit (.int .i64 b2.fVal.fPeer.fScore.fPoints), .lit (.int .i64 b2.fVal.fPeer.fScore.fAt), .lit (.int .i64 b2.fVal.fPeer.fPing), .lit (.int .i64 b2.fVal.fPeer.fWork), cL 5 T_api_Ban.c T_api_Ban.d b2.fVal.fBans, cL 7 T_api_Entry.c T_api_Entry.d b2.fVal.fBook, .lit (.bool b2.fMark)]), (3, .box [.lit (.int .i64 b3.fKind), .lit (.int .i64 b3.fLock), .lit (.int .i64 b3.fLoc.fKind), .lit (.int .i64 b3.fLoc.fShard), .lit (.int .i64 b3.fLoc.fSlot), .lit (.int .i64 b3.fOld), .lit (.int .i64 b3.fNew), .lit (.int .i64 b3.fVal.fN), .lit (.bool b3.fVal.fPeer.fEnd.fAddr.fV6), .lit (.int .u64 b3.fVal.fPeer.fEnd.fAddr.fHi), .lit (.int .u64 b3.fVal.fPeer.fEnd.fAddr.fLo), .lit (.int .i64 b3.fVal.fPeer.fEnd.fPort), .lit (.bool b3.fVal.fPeer.fIn), .lit (.int .i64 b3.fVal.fPeer.fSince), .lit (.int .i64 b3.fVal.fPeer.fScore.fPoints), .lit (.int .i64 b3.fVal.fPeer.fScore.fAt), .lit (.int .i64 b3.fVal.fPeer.fPing), .lit (.int .i64 b3.fVal.fPeer.fWork), cL 5 T_api_Ban.c T_api_Ban.d b3.fVal.fBans, cL 7 T_api_Entry.c T_api_Entry.d b3.fVal.fBook, .lit (.bool b3.fMark)])]⟩ := by
  unfold g_doormanref36_Clean_c0 at hf
  rcases br_some hf with ⟨h4, hf⟩ | ⟨h4, hf⟩
  · rcases br_some hf with ⟨h5, hf⟩ | ⟨h5, hf⟩
    · obtain ⟨x1, q6, hf⟩ := bind_some' hf
      exact toK_g allOk Post.ends 5 [rB [(3, true)], rA [(2, aG (T_api_Loc.c x1))]] [true] ⟨[], [], [], [], [], [1, 2, 3], [1, 2, 3], []⟩ (.c h4 (.c h5 (.c (g_doormanref36_Loc_ok b1.fLoc x1 q6) .n))) (by kernel_rfl) (g_doormanref36_Clean_c1_ok S0 w0 b1 b2   (T_api_Op.mk b3.fKind b3.fLock x1 b3.fOld b3.fNew b3.fVal b3.fMark) r hf)
    · exact toK_g allOk Post.ends 5 [rB [(3, true)]] [false] ⟨[], [], [], [], [], [1, 2, 3], [1, 2, 3], []⟩ (.c h4 (.c h5 .n)) (by kernel_rfl) (g_doormanref36_Clean_c1_ok S0 w0 b1 b2   b3 r hf)
  · exact toK_g allOk Post.ends 5 [rB [(3, false)]] [false] ⟨[], [], [], [], [], [1, 2, 3], [1, 2, 3], []⟩ (.c h4 (.c (show false = false from rfl) .n)) (by kernel_rfl) (g_doormanref36_Clean_c1_ok S0 w0 b1 b2   b3 r hf)

/-- doorman/doormanref36.Clean -/
def g_doormanref36_Clean (a0 : T_api_Op) : Option T_api_Op :=
  bif (decide (a0.fKind < (1 : Int))) then
    some (T_api_Op.mk (0 : Int) (0 : Int) (T_api_Loc.mk (0 : Int) (0 : Int) (0 : Int)) (0 : Int) (0 : Int) (T_api_Value.mk (0 : Int) (T_api_Peer.mk (T_api_End.mk (T_api_Addr.mk false (0 : Int) (0 : Int)) (0 : Int)) false (0 : Int) (T_api_Score.mk (0 : Int) (0 : Int)) (0 : Int) (0 : Int)) ([] : (List T_api_Ban)) ([] : (List T_api_Entry))) false)
  else
    bif (decide (a0.fKind > (8 : Int))) then
      some (T_api_Op.mk (0 : Int) (0 : Int) (T_api_Loc.mk (0 : Int) (0 : Int) (0 : Int)) (0 : Int) (0 : Int) (T_api_Value.mk (0 : Int) (T_api_Peer.mk (T_api_End.mk (T_api_Addr.mk false (0 : Int) (0 : Int)) (0 : Int)) false (0 : Int) (T_api_Score.mk (0 : Int) (0 : Int)) (0 : Int) (0 : Int)) ([] : (List T_api_Ban)) ([] : (List T_api_Entry))) false)
    else
      bif (decide (a0.fKind < (5 : Int))) then
        g_doormanref36_Clean_c0   a0 (T_api_Op.mk (0 : Int) (0 : Int) (T_api_Loc.mk (0 : Int) (0 : Int) (0 : Int)) (0 : Int) (0 : Int) (T_api_Value.mk (0 : Int) (T_api_Peer.mk (T_api_End.mk (T_api_Addr.mk false (0 : Int) (0 : Int)) (0 : Int)) false (0 : Int) (T_api_Score.mk (0 : Int) (0 : Int)) (0 : Int) (0 : Int)) ([] : (List T_api_Ban)) ([] : (List T_api_Entry))) false) (T_api_Op.mk a0.fKind a0.fLock (T_api_Loc.mk (0 : Int) (0 : Int) (0 : Int)) (0 : Int) (0 : Int) (T_api_Value.mk (0 : Int) (T_api_Peer.mk (T_api_End.mk (T_api_Addr.mk false (0 : Int) (0 : Int)) (0 : Int)) false (0 : Int) (T_api_Score.mk (0 : Int) (0 : Int)) (0 : Int) (0 : Int)) ([] : (List T_api_Ban)) ([] : (List T_api_Entry))) a0.fMark)
      else
        g_doormanref36_Clean_c0   a0 (T_api_Op.mk (0 : Int) (0 : Int) (T_api_Loc.mk (0 : Int) (0 : Int) (0 : Int)) (0 : Int) (0 : Int) (T_api_Value.mk (0 : Int) (T_api_Peer.mk (T_api_End.mk (T_api_Addr.mk false (0 : Int) (0 : Int)) (0 : Int)) false (0 : Int) (T_api_Score.mk (0 : Int) (0 : Int)) (0 : Int) (0 : Int)) ([] : (List T_api_Ban)) ([] : (List T_api_Entry))) false) (T_api_Op.mk a0.fKind (0 : Int) (T_api_Loc.mk (0 : Int) (0 : Int) (0 : Int)) (0 : Int) (0 : Int) (T_api_Value.mk (0 : Int) (T_api_Peer.mk (T_api_End.mk (T_api_Addr.mk false (0 : Int) (0 : Int)) (0 : Int)) false (0 : Int) (T_api_Score.mk (0 : Int) (0 : Int)) (0 : Int) (0 : Int)) ([] : (List T_api_Ban)) ([] : (List T_api_Entry))) a0.fMark)

theorem g_doormanref36_Clean_ok (a0 : T_api_Op) (r : T_api_Op) (hf : g_doormanref36_Clean a0 = some r) : SCall Try.prog 48 [.agg (T_api_Op.c a0)] (.agg (T_api_Op.c r)) := by
  refine SCall.of Try.func48 rfl rfl rfl rfl fun S0 w0 => ?_
  unfold g_doormanref36_Clean at hf
  rcases br_some hf with ⟨h1, hf⟩ | ⟨h1, hf⟩
  · replace hf := Option.some.inj hf
    subst hf
    exact toEnd_g allOk 8 [rz, rB [(3, true)], rz] [true] [] [(2, [(18, cL 5 T_api_Ban.c T_api_Ban.d []), (19, cL 7 T_api_Entry.c T_api_Entry.d [])])] [] (.c h1 (.c (show true = true from rfl) .n)) (by kernel_rfl) rfl
  · rcases br_some hf with ⟨h2, hf⟩ | ⟨h2, hf⟩
    · replace hf := Option.some.inj hf
      subst hf
      exact toEnd_g allOk 8 [rz, rB [(3, false)], rz] [true] [] [(2, [(18, cL 5 T_api_Ban.c T_api_Ban.d []), (19, cL 7 T_api_Entry.c T_api_Entry.d [])])] [] (.c h1 (.c h2 .n)) (by kernel_rfl) rfl
    · rcases br_some hf with ⟨h3, hf⟩ | ⟨h3, hf⟩
      · exact toK_g allOk Post.ends 14 [rz, rB [(3, false)], rz, rz, rz] [false, true] ⟨[], [(2, [(18, cL 5 T_api_Ban.c T_api_Ban.d []), (19, cL 7 T_api_Entry.c T_api_Entry.d [])]), (3, [(18, cL 5 T_api_Ban.c T_api_Ban.d []), (19, cL 7 T_api_Entry.c T_api_Entry.d [])])], [], [], [], [1, 2, 3], [1, 2, 3], []⟩ (.c h1 (.c h2 (.c h3 .n))) (by kernel_rfl) (g_doormanref36_Clean_c0_ok S0 w0    a0 (T_api_Op.mk (0 : Int) (0 : Int) (T_api_Loc.mk (0 : Int) (0 : Int) (0 : Int)) (0 : Int) (0 : Int) (T_api_Value.mk (0 : Int) (T_api_Peer.mk (T_api_End.mk (T_api_Addr.mk false (0 : Int) (0 : Int)) (0 : Int)) false (0 : Int) (T_api_Score.mk (0 : Int) (0 : Int)) (0 : Int) (0 : Int)) ([] : (List T_api_Ban)) ([] : (List T_api_Entry))) false) (T_api_Op.mk a0.fKind a0.fLock (T_api_Loc.mk (0 : Int) (0 : Int) (0 : Int)) (0 : Int) (0 : Int) (T_api_Value.mk (0 : Int) (T_api_Peer.mk (T_api_End.mk (T_api_Addr.mk false (0 : Int) (0 : Int)) (0 : Int)) false (0 : Int) (T_api_Score.mk (0 : Int) (0 : Int)) (0 : Int) (0 : Int)) ([] : (List T_api_Ban)) ([] : (List T_api_Entry))) a0.fMark) r hf)
      · exact toK_g allOk Post.ends 14 [rz, rB [(3, false)], rz, rz] [false, false] ⟨[], [(2, [(18, cL 5 T_api_Ban.c T_api_Ban.d []), (19, cL 7 T_api_Entry.c T_api_Entry.d [])]), (3, [(18, cL 5 T_api_Ban.c T_api_Ban.d []), (19, cL 7 T_api_Entry.c T_api_Entry.d [])])], [], [], [], [1, 2, 3], [1, 2, 3], []⟩ (.c h1 (.c h2 (.c h3 .n))) (by kernel_rfl) (g_doormanref36_Clean_c0_ok S0 w0    a0 (T_api_Op.mk (0 : Int) (0 : Int) (T_api_Loc.mk (0 : Int) (0 : Int) (0 : Int)) (0 : Int) (0 : Int) (T_api_Value.mk (0 : Int) (T_api_Peer.mk (T_api_End.mk (T_api_Addr.mk false (0 : Int) (0 : Int)) (0 : Int)) false (0 : Int) (T_api_Score.mk (0 : Int) (0 : Int)) (0 : Int) (0 : Int)) ([] : (List T_api_Ban)) ([] : (List T_api_Entry))) false) (T_api_Op.mk a0.fKind (0 : Int) (T_api_Loc.mk (0 : Int) (0 : Int) (0 : Int)) (0 : Int) (0 : Int) (T_api_Value.mk (0 : Int) (T_api_Peer.mk (T_api_End.mk (T_api_Addr.mk false (0 : Int) (0 : Int)) (0 : Int)) false (0 : Int) (T_api_Score.mk (0 : Int) (0 : Int)) (0 : Int) (0 : Int)) ([] : (List T_api_Ban)) ([] : (List T_api_Entry))) a0.fMark) r hf)

def g_doormanref38_Drill_c0 (a0 : (List T_api_Op)) (a1 : (List T_api_Value))  : Nat → Int → T_api_Op → Option (T_api_Op × Bool × Bool)
  | 0, _, _ => none
  | fu + 1, v7, b4 =>
    bif (decide (v7 < ((a0.length : Nat) : Int))) then
      need (0 ≤ v7 ∧ v7 < ((a0.length : Nat) : Int)) <|
      bif (decide ((a0.getD v7.toNat T_api_Op.d).fKind < (1 : Int))) then
        some ((T_api_Op.mk (0 : Int) (0 : Int) (T_api_Loc.mk (0 : Int) (0 : Int) (0 : Int)) (0 : Int) (0 : Int) (T_api_Value.mk (0 : Int) (T_api_Peer.mk (T_api_End.mk (T_api_Addr.mk false (0 : Int) (0 : Int)) (0 : Int)) false (0 : Int) (T_api_Score.mk (0 : Int) (0 : Int)) (0 : Int) (0 : Int)) ([] : (List T_api_Ban)) ([] : (List T_api_Entry))) false), false, true)
      else
        bif (decide ((a0.getD v7.toNat T_api_Op.d).fKind > (8 : Int))) then
          some ((T_api_Op.mk (0 : Int) (0 : Int) (T_api_Loc.mk (0 : Int) (0 : Int) (0 : Int)) (0 : Int) (0 : Int) (T_api_Value.mk (0 : Int) (T_api_Peer.mk (T_api_End.mk (T_api_Addr.mk false (0 : Int) (0 : Int)) (0 : Int)) false (0 : Int) (T_api_Score.mk (0 : Int) (0 : Int)) (0 : Int) (0 : Int)) ([] : (List T_api_Ban)) ([] : (List T_api_Entry))) false), false, true)
        else
          bif (decide (v7 ≥ ((a1.length : Nat) : Int))) then
            (g_doormanref36_Clean (a0.getD v7.toNat T_api_Op.d)).bind fun x1 =>
            some (x1, false, false)
          else
            g_doormanref38_Drill_c0 a0 a1  fu (add64 v7 (1 : Int)) b4
    else
      some ((T_api_Op.mk (0 : Int) (0 : Int) (T_api_Loc.mk (0 : Int) (0 : Int) (0 : Int)) (0 : Int) (0 : Int) (T_api_Value.mk (0 : Int) (T_api_Peer.mk (T_api_End.mk (T_api_Addr.mk false (0 : Int) (0 : Int)) (0 : Int)) false (0 : Int) (T_api_Score.mk (0 : Int) (0 : Int)) (0 : Int) (0 : Int)) ([] : (List T_api_Ban)) ([] : (List T_api_Entry))) false), true, false)

theorem g_doormanref38_Drill_c0_ok (S0 : Nat → Prop) (w0 : Start) (a0 : (List T_api_Op)) (a1 : (List T_api_Value))  : ∀ (fu : Nat) (v7 : Int) (b4 : T_api_Op) (r : (T_api_Op × Bool × Bool)), g_doormanref38_Drill_c0 a0 a1  fu v7 b4 = some r → Good Try.prog 39 S0 w0 (bodyPost Try.prog Try.f22 (Post S0 w0 (.tup [(true, T_api_Op.c r.1), (false, cB r.2.1), (false, cB r.2.2)]))) (at_ [1, 0, 1, 0] (bodyOf Try.f22)) ⟨[(0, .one (cL 21 T_api_Op.c T_api_Op.d a0)), (1, .one (cL 13 T_api_Value.c T_api_Value.d a1)), (4, .one (.ptr 4 0)), (7, .one (.lit (.int .i64 v7)))], [(4, .box [.lit (.int .i64 b4.fKind), .lit (.int .i64 b4.fLock), .lit (.int .i64 b4.fLoc.fKind), .lit (.int .i64 b4.fLoc.fShard), .lit (.int .i64 b4.fLoc.fSlot), .lit (.int .i64 b4.fOld), .lit (.int .i64 b4.fNew), .lit (.int .i64 b4.fVal.fN), .lit (.bool b4.fVal.fPeer.fEnd.fAddr.fV6), .lit (.int .u64 b4.fVal.fPeer.fEnd.fAddr.fHi), .lit (.int .u64 b4.fVal.fPeer.fEnd.fAddr.fLo), .lit (.int .i64 b4.fVal.fPeer.fEnd.fPort), .lit (.bool b4.fVal.fPeer.fIn), .lit (.int .i64 b4.fVal.fPeer.fSince), .lit (.int .i64 b4.fVal.fPeer.fScore.fPoints), .lit (.int .i64 b4.fVal.fPeer.fScore.fAt), .lit (.int .i64 b4.fVal.fPeer.fPing), .lit (.int .i64 b4.fVal.fPeer.fWork), cL 5 T_api_Ban.c T_api_Ban.d b4.fVal.fBans, cL 7 T_api_Entry.c T_api_Entry.d b4.fVal.fBook, .lit (.bool b4.fMark)])]⟩ := by
  intro fu
  induction fu with
  | zero =>
    intro v7 b4 r hf
    simp [g_doormanref38_Drill_c0] at hf
  | succ fu ih =>
    intro v7 b4 r hf
    unfold g_doormanref38_Drill_c0 at hf
    rcases br_some hf with ⟨h1, hf⟩ | ⟨h1, hf⟩
    · obtain ⟨o2, hf⟩ := need_some hf
      rcases br_some hf with ⟨h3, hf⟩ | ⟨h3, hf⟩
      · replace hf := Option.some.inj hf
        subst hf
        exact toEnd_g allOk 14 [rz, rB [(6, true)], rz] [true, true] [] [(4, [(18, cL 5 T_api_Ban.c T_api_Ban.d []), (19, cL 7 T_api_Entry.c T_api_Entry.d [])])] [] (.c h1 (.c o2 (.c h3 (.c (show true = true from rfl) .n)))) (by kernel_rfl) rfl
      · rcases br_some hf with ⟨h4, hf⟩ | ⟨h4, hf⟩
        · replace hf := Option.some.inj hf
          subst hf
          exact toEnd_g allOk 14 [rz, rB [(6, false)], rz] [true, true] [] [(4, [(18, cL 5 T_api_Ban.c T_api_Ban.d []), (19, cL 7 T_api_Entry.c T_api_Entry.d [])])] [] (.c h1 (.c o2 (.c h3 (.c o2 (.c h4 .n))))) (by kernel_rfl) rfl
        · rcases br_some hf with ⟨h5, hf⟩ | ⟨h5, hf⟩
          · obtain ⟨x1, q6, hf⟩ := bind_some' hf
            replace hf := Option.some.inj hf
            subst hf
            exact toEnd_g allOk 18 [rz, rB [(6, false)], rz, rA [(4, aG (T_api_Op.c x1))]] [true, false, true] [] [] [] (.c h1 (.c o2 (.c h3 (.c o2 (.c h4 (.c h5 (.c o2 (.c (g_doormanref36_Clean_ok (a0.getD v7.toNat T_api_Op.d) x1 q6) .n)))))))) (by kernel_rfl) rfl
          · exact toK_g allOk Post.ends 20 [rz, rB [(6, false)], rz, rz] [true, false, false] ⟨[], [], [], [], [], [0, 1, 4, 7], [4], []⟩ (.c h1 (.c o2 (.c h3 (.c o2 (.c h4 (.c h5 .n)))))) (by kernel_rfl) (ih (add64 v7 (1 : Int)) b4 r hf)
    · replace hf := Option.some.inj hf
      subst hf
      exact toEnd_g allOk 8 [rz, rz] [false] [] [(4, [(18, cL 5 T_api_Ban.c T_api_Ban.d []), (19, cL 7 T_api_Entry.c T_api_Entry.d [])])] [] (.c h1 .n) (by kernel_rfl) rfl

/-- doorman/doormanref38.Drill -/
def g_doormanref38_Drill (a0 : (List T_api_Op)) (a1 : (List T_api_Value)) : Option (T_api_Op × Bool × Bool) :=
  g_doormanref38_Drill_c0 a0 a1  ((((a0.length : Nat) : Int) - (0 : Int)).toNat + 2) (0 : Int) (T_api_Op.mk (0 : Int) (0 : Int) (T_api_Loc.mk (0 : Int) (0 : Int) (0 : Int)) (0 : Int) (0 : Int) (T_api_Value.mk (0 : Int) (T_api_Peer.mk (T_api_End.mk (T_api_Addr.mk false (0 : Int) (0 : Int)) (0 : Int)) false (0 : Int) (T_api_Score.mk (0 : Int) (0 : Int)) (0 : Int) (0 : Int)) ([] : (List T_api_Ban)) ([] : (List T_api_Entry))) false)

theorem g_doormanref38_Drill_ok (a0 : (List T_api_Op)) (a1 : (List T_api_Value)) (r : (T_api_Op × Bool × Bool)) (hf : g_doormanref38_Drill a0 a1 = some r) : SCall Try.prog 22 [.one (cL 21 T_api_Op.c T_api_Op.d a0), .one (cL 13 T_api_Value.c T_api_Value.d a1)] (.tup [(true, T_api_Op.c r.1), (false, cB r.2.1), (false, cB r.2.2)]) := by
  refine SCall.of Try.func22 rfl rfl rfl rfl fun S0 w0 => ?_
  unfold g_doormanref38_Drill at hf
  exact toK_g allOk Post.ends 6 [rz, rz] [] ⟨[], [(4, [(18, cL 5 T_api_Ban.c T_api_Ban.d []), (19, cL 7 T_api_Entry.c T_api_Entry.d [])])], [], [], [], [0, 1, 4, 7], [4], []⟩ .n (by kernel_rfl) (g_doormanref38_Drill_c0_ok S0 w0 a0 a1   ((((a0.length : Nat) : Int) - (0 : Int)).toNat + 2) (0 : Int) (T_api_Op.mk (0 : Int) (0 : Int) (T_api_Loc.mk (0 : Int) (0 : Int) (0 : Int)) (0 : Int) (0 : Int) (T_api_Value.mk (0 : Int) (T_api_Peer.mk (T_api_End.mk (T_api_Addr.mk false (0 : Int) (0 : Int)) (0 : Int)) false (0 : Int) (T_api_Score.mk (0 : Int) (0 : Int)) (0 : Int) (0 : Int)) ([] : (List T_api_Ban)) ([] : (List T_api_Entry))) false) r hf)

def g_doormansame_Bans_c0 (a0 : (List T_api_Ban)) (a1 : (List T_api_Ban))  : Nat → Int → Option Bool
  | 0, _ => none
  | fu + 1, v5 =>
    bif (decide (v5 < ((a0.length : Nat) : Int))) then
      bif (decide (v5 < ((a1.length : Nat) : Int))) then
        need (0 ≤ v5 ∧ v5 < ((a0.length : Nat) : Int)) <|
        need (0 ≤ v5 ∧ v5 < ((a1.length : Nat) : Int)) <|
        bif (!(decide ((a0.getD v5.toNat T_api_Ban.d) = (a1.getD v5.toNat T_api_Ban.d)))) then
          some false
        else
          g_doormansame_Bans_c0 a0 a1  fu (add64 v5 (1 : Int))
      else
        some true
    else
      some true

theorem g_doormansame_Bans_c0_ok (S0 : Nat → Prop) (w0 : Start) (a0 : (List T_api_Ban)) (a1 : (List T_api_Ban))  : ∀ (fu : Nat) (v5 : Int) (r : Bool), g_doormansame_Bans_c0 a0 a1  fu v5 = some r → Good Try.prog 32 S0 w0 (bodyPost Try.prog Try.f70 (Post S0 w0 (.one (.lit (.bool r))))) (at_ [1, 1, 0, 1, 0] (bodyOf Try.f70)) ⟨[(0, .one (cL 5 T_api_Ban.c T_api_Ban.d a0)), (1, .one (cL 5 T_api_Ban.c T_api_Ban.d a1)), (5, .one (.lit (.int .i64 v5)))], []⟩ := by
  intro fu
  induction fu with
  | zero =>
    intro v5 r hf
    simp [g_doormansame_Bans_c0] at hf
  | succ fu ih =>
    intro v5 r hf
    unfold g_doormansame_Bans_c0 at hf
    rcases br_some hf with ⟨h2, hf⟩ | ⟨h2, hf⟩
    · rcases br_some hf with ⟨h3, hf⟩ | ⟨h3, hf⟩
      · obtain ⟨o4, hf⟩ := need_some hf
        obtain ⟨o5, hf⟩ := need_some hf
        rcases br_some hf with ⟨h6, hf⟩ | ⟨h6, hf⟩
        · replace hf := Option.some.inj hf
          subst hf
          exact toEnd_g allOk 13 [rB [(4, true)], rA [(8, aB (!(decide ((a0.getD v5.toNat T_api_Ban.d) = (a1.getD v5.toNat T_api_Ban.d)))))], rz] [true, true] [] [] [] (.c h2 (.c h3 (.c o4 (.c o5 (.c (neq_T_api_Ban (a0.getD v5.toNat T_api_Ban.d) (a1.getD v5.toNat T_api_Ban.d) (.tmp 26) (.tmp 30)) (.c h6 .n)))))) (by kernel_rfl) rfl
        · exact toK_g allOk Post.ends 15 [rB [(4, true)], rA [(8, aB (!(decide ((a0.getD v5.toNat T_api_Ban.d) = (a1.getD v5.toNat T_api_Ban.d)))))], rz] [true, false] ⟨[], [], [], [], [], [0, 1, 5], [], []⟩ (.c h2 (.c h3 (.c o4 (.c o5 (.c (neq_T_api_Ban (a0.getD v5.toNat T_api_Ban.d) (a1.getD v5.toNat T_api_Ban.d) (.tmp 26) (.tmp 30)) (.c h6 .n)))))) (by kernel_rfl) (ih (add64 v5 (1 : Int)) r hf)
      · replace hf := Option.some.inj hf
        subst hf
        exact toEnd_g allOk 8 [rB [(4, true)], rz] [false] [] [] [] (.c h2 (.c h3 .n)) (by kernel_rfl) rfl
    · replace hf := Option.some.inj hf
      subst hf
      exact toEnd_g allOk 8 [rB [(4, false)], rz] [false] [] [] [] (.c h2 (.c (show false = false from rfl) .n)) (by kernel_rfl) rfl

/-- doorman/doormansame.Bans -/
def g_doormansame_Bans (a0 : (List T_api_Ban)) (a1 : (List T_api_Ban)) : Option Bool :=
  bif (((a0.length : Nat) : Int) != ((a1.length : Nat) : Int)) then
    some false
  else
    g_doormansame_Bans_c0 a0 a1  ((((a1.length : Nat) : Int) - (0 : Int)).toNat + 2) (0 : Int)

theorem g_doormansame_Bans_ok (a0 : (List T_api_Ban)) (a1 : (List T_api_Ban)) (r : Bool) (hf : g_doormansame_Bans a0 a1 = some r) : SCall Try.prog 70 [.one (cL 5 T_api_Ban.c T_api_Ban.d a0), .one (cL 5 T_api_Ban.c T_api_Ban.d a1)] (.one (.lit (.bool r))) := by
  refine SCall.of Try.func70 rfl rfl rfl rfl fun S0 w0 => ?_
  unfold g_doormansame_Bans at hf
  rcases br_some hf with ⟨h1, hf⟩ | ⟨h1, hf⟩
  · replace hf := Option.some.inj hf
    subst hf
    exact toEnd_g allOk 8 [rz, rz, rz] [true] [] [] [] (.c h1 .n) (by kernel_rfl) rfl
  · exact toK_g allOk Post.ends 11 [rz, rz, rz] [false] ⟨[], [], [], [], [], [0, 1, 5], [], []⟩ (.c h1 .n) (by kernel_rfl) (g_doormansame_Bans_c0_ok S0 w0 a0 a1   ((((a1.length : Nat) : Int) - (0 : Int)).toNat + 2) (0 : Int) r hf)

def g_doormansame_Book_c0 (a0 : (List T_api_Entry)) (a1 : (List T_api_Entry))  : Nat → Int → Option Bool
  | 0, _ => none
  | fu + 1, v5 =>
    bif (decide (v5 < ((a0.length : Nat) : Int))) then
      bif (decide (v5 < ((a1.length : Nat) : Int))) then
        need (0 ≤ v5 ∧ v5 < ((a0.length : Nat) : Int)) <|
        need (0 ≤ v5 ∧ v5 < ((a1.length : Nat) : Int)) <|
        bif (!(decide ((a0.getD v5.toNat T_api_Entry.d) = (a1.getD v5.toNat T_api_Entry.d)))) then
          some false
        else
          g_doormansame_Book_c0 a0 a1  fu (add64 v5 (1 : Int))
      else
        some true
    else
      some true

theorem g_doormansame_Book_c0_ok (S0 : Nat → Prop) (w0 : Start) (a0 : (List T_api_Entry)) (a1 : (List T_api_Entry))  : ∀ (fu : Nat) (v5 : Int) (r : Bool), g_doormansame_Book_c0 a0 a1  fu v5 = some r → Good Try.prog 32 S0 w0 (bodyPost Try.prog Try.f71 (Post S0 w0 (.one (.lit (.bool r))))) (at_ [1, 1, 0, 1, 0] (bodyOf Try.f71)) ⟨[(0, .one (cL 7 T_api_Entry.c T_api_Entry.d a0)), (1, .one (cL 7 T_api_Entry.c T_api_Entry.d a1)), (5, .one (.lit (.int .i64 v5)))], []⟩ := by
  intro fu
  induction fu with
  | zero =>
    intro v5 r hf
    simp [g_doormansame_Book_c0] at hf
  | succ fu ih =>
    intro v5 r hf
    unfold g_doormansame_Book_c0 at hf
    rcases br_some hf with ⟨h2, hf⟩ | ⟨h2, hf⟩
    · rcases br_some hf with ⟨h3, hf⟩ | ⟨h3, hf⟩
      · obtain ⟨o4, hf⟩ := need_some hf
        obtain ⟨o5, hf⟩ := need_some hf
        rcases br_some hf with ⟨h6, hf⟩ | ⟨h6, hf⟩
        · replace hf := Option.some.inj hf
          subst hf
          exact toEnd_g allOk 13 [rB [(4, true)], rA [(8, aB (!(decide ((a0.getD v5.toNat T_api_Entry.d) = (a1.getD v5.toNat T_api_Entry.d)))))], rz] [true, true] [] [] [] (.c h2 (.c h3 (.c o4 (.c o5 (.c (neq_T_api_Entry (a0.getD v5.toNat T_api_Entry.d) (a1.getD v5.toNat T_api_Entry.d) (.tmp 26) (.tmp 30)) (.c h6 .n)))))) (by kernel_rfl) rfl
        · exact toK_g allOk Post.ends 15 [rB [(4, true)], rA [(8, aB (!(decide ((a0.getD v5.toNat T_api_Entry.d) = (a1.getD v5.toNat T_api_Entry.d)))))], rz] [true, false] ⟨[], [], [], [], [], [0, 1, 5], [], []⟩ (.c h2 (.c h3 (.c o4 (.c o5 (.c (neq_T_api_Entry (a0.getD v5.toNat T_api_Entry.d) (a1.getD v5.toNat T_api_Entry.d) (.tmp 26) (.tmp 30)) (.c h6 .n)))))) (by kernel_rfl) (ih (add64 v5 (1 : Int)) r hf)
      · replace hf := Option.some.inj hf
        subst hf
        exact toEnd_g allOk 8 [rB [(4, true)], rz] [false] [] [] [] (.c h2 (.c h3 .n)) (by kernel_rfl) rfl
    · replace hf := Option.some.inj hf
      subst hf
      exact toEnd_g allOk 8 [rB [(4, false)], rz] [false] [] [] [] (.c h2 (.c (show false = false from rfl) .n)) (by kernel_rfl) rfl

/-- doorman/doormansame.Book -/
def g_doormansame_Book (a0 : (List T_api_Entry)) (a1 : (List T_api_Entry)) : Option Bool :=
  bif (((a0.length : Nat) : Int) != ((a1.length : Nat) : Int)) then
    some false
  else
    g_doormansame_Book_c0 a0 a1  ((((a1.length : Nat) : Int) - (0 : Int)).toNat + 2) (0 : Int)

theorem g_doormansame_Book_ok (a0 : (List T_api_Entry)) (a1 : (List T_api_Entry)) (r : Bool) (hf : g_doormansame_Book a0 a1 = some r) : SCall Try.prog 71 [.one (cL 7 T_api_Entry.c T_api_Entry.d a0), .one (cL 7 T_api_Entry.c T_api_Entry.d a1)] (.one (.lit (.bool r))) := by
  refine SCall.of Try.func71 rfl rfl rfl rfl fun S0 w0 => ?_
  unfold g_doormansame_Book at hf
  rcases br_some hf with ⟨h1, hf⟩ | ⟨h1, hf⟩
  · replace hf := Option.some.inj hf
    subst hf
    exact toEnd_g allOk 8 [rz, rz, rz] [true] [] [] [] (.c h1 .n) (by kernel_rfl) rfl
  · exact toK_g allOk Post.ends 11 [rz, rz, rz] [false] ⟨[], [], [], [], [], [0, 1, 5], [], []⟩ (.c h1 .n) (by kernel_rfl) (g_doormansame_Book_c0_ok S0 w0 a0 a1   ((((a1.length : Nat) : Int) - (0 : Int)).toNat + 2) (0 : Int) r hf)
end Go.Proofs.Ytnbkjjoodmmneaa
