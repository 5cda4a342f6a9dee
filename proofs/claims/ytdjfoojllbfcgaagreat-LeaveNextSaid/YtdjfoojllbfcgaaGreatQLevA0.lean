import Derived.Test.YtdjfoojllbfcgaaGreatQLevT
namespace Go.Proofs.YtdjfoojllbfcgaaGreat
open Go.RowKit Go.Lib Go.Shelf
set_option linter.unusedVariables false
set_option maxRecDepth 100000
theorem Zox : (Tryz.prog.fieldsOf 28).toList = [{ name := "V6", type := 4, offset := 0, embedded := false, tag := "", pkgPath := "", byteOffset := 0 }, { name := "Hi", type := 22, offset := 1, embedded := false, tag := "", pkgPath := "", byteOffset := 8 }, { name := "Lo", type := 22, offset := 2, embedded := false, tag := "", pkgPath := "", byteOffset := 16 }] := by kernel_rfl
theorem ZkA (d:Nat) (x y:Zag) (w:World):(Op.equalIn (d + 2) 28 (.agg #[.bool x.fV6,.int .u64 x.fHi,.int .u64 x.fLo]) (.agg #[.bool y.fV6,.int .u64 y.fHi,.int .u64 y.fLo])).run Tryz.prog w = .ok (decide (x = y)) w:=by rw [run_equalIn_struct w (d + 1) _ _ _ (by kernel_rfl) (by kernel_rfl)]; simp only [Zox,Op.eqFields]; simp [go_sem]; cases x; cases y; simp only [Zag.mk.injEq]; (repeat' split) <;> simp_all
theorem Zjp (x y:Zag) (xo yo:Operand) : ∀ w,(do eqGuard .eql 28 xo yo (.agg #[.bool x.fV6,.int .u64 x.fHi,.int .u64 x.fLo]) (.agg #[.bool y.fV6,.int .u64 y.fHi,.int .u64 y.fLo]); binOp .eql 28 (.agg #[.bool x.fV6,.int .u64 x.fHi,.int .u64 x.fLo]) (.agg #[.bool y.fV6,.int .u64 y.fHi,.int .u64 y.fLo]):Sem Value).run Tryz.prog w = .ok (.bool (decide (x = y))) w:=by
  intro w
  have hg:(eqGuard .eql 28 xo yo (.agg #[.bool x.fV6,.int .u64 x.fHi,.int .u64 x.fLo]) (.agg #[.bool y.fV6,.int .u64 y.fHi,.int .u64 y.fLo])).run Tryz.prog w = .ok () w:=by simp [eqGuard,Sem.run_bind,Tryz.eqGuardType28]
  rw [Sem.run_bind,hg,Result.andThen_ok,run_eql_struct]
  exact congrArg (fun r:Result Bool =>r.andThen fun b w' =>Result.ok (Value.bool b) w') (ZkA 9998 x y w)
theorem Zpo : (Tryz.prog.fieldsOf 30).toList = [{ name := "Addr", type := 28, offset := 0, embedded := false, tag := "", pkgPath := "", byteOffset := 0 }, { name := "Port", type := 3, offset := 3, embedded := false, tag := "", pkgPath := "", byteOffset := 24 }] := by kernel_rfl
theorem Zln (d:Nat) (x y:Zaf) (w:World):(Op.equalIn (d + 4) 30 (.agg #[.bool x.fAddr.fV6,.int .u64 x.fAddr.fHi,.int .u64 x.fAddr.fLo,.int .i64 x.fPort]) (.agg #[.bool y.fAddr.fV6,.int .u64 y.fAddr.fHi,.int .u64 y.fAddr.fLo,.int .i64 y.fPort])).run Tryz.prog w = .ok (decide (x = y)) w:=by rw [run_equalIn_struct w (d + 3) _ _ _ (by kernel_rfl) (by kernel_rfl)]; simp only [Zpo,Op.eqFields]; simp [go_sem,ZkA]; cases x; cases y; simp only [Zaf.mk.injEq]; (repeat' split) <;> simp_all
theorem ZhF (x y:Zaf) (xo yo:Operand) : ∀ w,(do eqGuard .eql 30 xo yo (.agg #[.bool x.fAddr.fV6,.int .u64 x.fAddr.fHi,.int .u64 x.fAddr.fLo,.int .i64 x.fPort]) (.agg #[.bool y.fAddr.fV6,.int .u64 y.fAddr.fHi,.int .u64 y.fAddr.fLo,.int .i64 y.fPort]); binOp .eql 30 (.agg #[.bool x.fAddr.fV6,.int .u64 x.fAddr.fHi,.int .u64 x.fAddr.fLo,.int .i64 x.fPort]) (.agg #[.bool y.fAddr.fV6,.int .u64 y.fAddr.fHi,.int .u64 y.fAddr.fLo,.int .i64 y.fPort]):Sem Value).run Tryz.prog w = .ok (.bool (decide (x = y))) w:=by
  intro w
  have hg:(eqGuard .eql 30 xo yo (.agg #[.bool x.fAddr.fV6,.int .u64 x.fAddr.fHi,.int .u64 x.fAddr.fLo,.int .i64 x.fPort]) (.agg #[.bool y.fAddr.fV6,.int .u64 y.fAddr.fHi,.int .u64 y.fAddr.fLo,.int .i64 y.fPort])).run Tryz.prog w = .ok () w:=by simp [eqGuard,Sem.run_bind,Tryz.eqGuardType30]
  rw [Sem.run_bind,hg,Result.andThen_ok,run_eql_struct]
  exact congrArg (fun r:Result Bool =>r.andThen fun b w' =>Result.ok (Value.bool b) w') (Zln 9996 x y w)
theorem Zpm : (Tryz.prog.fieldsOf 32).toList = [{ name := "Addr", type := 28, offset := 0, embedded := false, tag := "", pkgPath := "", byteOffset := 0 }, { name := "Bits", type := 3, offset := 3, embedded := false, tag := "", pkgPath := "", byteOffset := 24 }] := by kernel_rfl
theorem Zoh (d:Nat) (x y:Zap) (w:World):(Op.equalIn (d + 4) 32 (.agg #[.bool x.fAddr.fV6,.int .u64 x.fAddr.fHi,.int .u64 x.fAddr.fLo,.int .i64 x.fBits]) (.agg #[.bool y.fAddr.fV6,.int .u64 y.fAddr.fHi,.int .u64 y.fAddr.fLo,.int .i64 y.fBits])).run Tryz.prog w = .ok (decide (x = y)) w:=by rw [run_equalIn_struct w (d + 3) _ _ _ (by kernel_rfl) (by kernel_rfl)]; simp only [Zpm,Op.eqFields]; simp [go_sem,ZkA]; cases x; cases y; simp only [Zap.mk.injEq]; (repeat' split) <;> simp_all
theorem ZjX (x y:Zap) (xo yo:Operand) : ∀ w,(do eqGuard .eql 32 xo yo (.agg #[.bool x.fAddr.fV6,.int .u64 x.fAddr.fHi,.int .u64 x.fAddr.fLo,.int .i64 x.fBits]) (.agg #[.bool y.fAddr.fV6,.int .u64 y.fAddr.fHi,.int .u64 y.fAddr.fLo,.int .i64 y.fBits]); binOp .eql 32 (.agg #[.bool x.fAddr.fV6,.int .u64 x.fAddr.fHi,.int .u64 x.fAddr.fLo,.int .i64 x.fBits]) (.agg #[.bool y.fAddr.fV6,.int .u64 y.fAddr.fHi,.int .u64 y.fAddr.fLo,.int .i64 y.fBits]):Sem Value).run Tryz.prog w = .ok (.bool (decide (x = y))) w:=by
  intro w
  have hg:(eqGuard .eql 32 xo yo (.agg #[.bool x.fAddr.fV6,.int .u64 x.fAddr.fHi,.int .u64 x.fAddr.fLo,.int .i64 x.fBits]) (.agg #[.bool y.fAddr.fV6,.int .u64 y.fAddr.fHi,.int .u64 y.fAddr.fLo,.int .i64 y.fBits])).run Tryz.prog w = .ok () w:=by simp [eqGuard,Sem.run_bind,Tryz.eqGuardType32]
  rw [Sem.run_bind,hg,Result.andThen_ok,run_eql_struct]
  exact congrArg (fun r:Result Bool =>r.andThen fun b w' =>Result.ok (Value.bool b) w') (Zoh 9996 x y w)
theorem Zpn : (Tryz.prog.fieldsOf 40).toList = [{ name := "Kind", type := 3, offset := 0, embedded := false, tag := "", pkgPath := "", byteOffset := 0 }, { name := "Shard", type := 3, offset := 1, embedded := false, tag := "", pkgPath := "", byteOffset := 8 }, { name := "Slot", type := 3, offset := 2, embedded := false, tag := "", pkgPath := "", byteOffset := 16 }] := by kernel_rfl
theorem Zsv (d:Nat) (x y:Zan) (w:World):(Op.equalIn (d + 2) 40 (.agg #[.int .i64 x.fKind,.int .i64 x.fShard,.int .i64 x.fSlot]) (.agg #[.int .i64 y.fKind,.int .i64 y.fShard,.int .i64 y.fSlot])).run Tryz.prog w = .ok (decide (x = y)) w:=by rw [run_equalIn_struct w (d + 1) _ _ _ (by kernel_rfl) (by kernel_rfl)]; simp only [Zpn,Op.eqFields]; simp [go_sem]; cases x; cases y; simp only [Zan.mk.injEq]; (repeat' split) <;> simp_all
theorem ZtZ (x y:Zan) (xo yo:Operand) : ∀ w,(do eqGuard .eql 40 xo yo (.agg #[.int .i64 x.fKind,.int .i64 x.fShard,.int .i64 x.fSlot]) (.agg #[.int .i64 y.fKind,.int .i64 y.fShard,.int .i64 y.fSlot]); binOp .eql 40 (.agg #[.int .i64 x.fKind,.int .i64 x.fShard,.int .i64 x.fSlot]) (.agg #[.int .i64 y.fKind,.int .i64 y.fShard,.int .i64 y.fSlot]):Sem Value).run Tryz.prog w = .ok (.bool (decide (x = y))) w:=by
  intro w
  have hg:(eqGuard .eql 40 xo yo (.agg #[.int .i64 x.fKind,.int .i64 x.fShard,.int .i64 x.fSlot]) (.agg #[.int .i64 y.fKind,.int .i64 y.fShard,.int .i64 y.fSlot])).run Tryz.prog w = .ok () w:=by simp [eqGuard,Sem.run_bind,Tryz.eqGuardType40]
  rw [Sem.run_bind,hg,Result.andThen_ok,run_eql_struct]
  exact congrArg (fun r:Result Bool =>r.andThen fun b w' =>Result.ok (Value.bool b) w') (Zsv 9998 x y w)
theorem ZnU : (Tryz.prog.fieldsOf 42).toList = [{ name := "Points", type := 3, offset := 0, embedded := false, tag := "", pkgPath := "", byteOffset := 0 }, { name := "At", type := 3, offset := 1, embedded := false, tag := "", pkgPath := "", byteOffset := 8 }] := by kernel_rfl
theorem Zqo (d:Nat) (x y:Zah) (w:World):(Op.equalIn (d + 2) 42 (.agg #[.int .i64 x.fPoints,.int .i64 x.fAt]) (.agg #[.int .i64 y.fPoints,.int .i64 y.fAt])).run Tryz.prog w = .ok (decide (x = y)) w:=by rw [run_equalIn_struct w (d + 1) _ _ _ (by kernel_rfl) (by kernel_rfl)]; simp only [ZnU,Op.eqFields]; simp [go_sem]; cases x; cases y; simp only [Zah.mk.injEq]; (repeat' split) <;> simp_all
theorem Zow : (Tryz.prog.fieldsOf 44).toList = [{ name := "End", type := 30, offset := 0, embedded := false, tag := "", pkgPath := "", byteOffset := 0 }, { name := "In", type := 4, offset := 4, embedded := false, tag := "", pkgPath := "", byteOffset := 32 }, { name := "Since", type := 3, offset := 5, embedded := false, tag := "", pkgPath := "", byteOffset := 40 }, { name := "Score", type := 42, offset := 6, embedded := false, tag := "", pkgPath := "", byteOffset := 48 }, { name := "Ping", type := 3, offset := 8, embedded := false, tag := "", pkgPath := "", byteOffset := 64 }, { name := "Work", type := 3, offset := 9, embedded := false, tag := "", pkgPath := "", byteOffset := 72 }] := by kernel_rfl
theorem Znq (d:Nat) (x y:Zaa) (w:World):(Op.equalIn (d + 6) 44 (.agg #[.bool x.fEnd.fAddr.fV6,.int .u64 x.fEnd.fAddr.fHi,.int .u64 x.fEnd.fAddr.fLo,.int .i64 x.fEnd.fPort,.bool x.fIn,.int .i64 x.fSince,.int .i64 x.fScore.fPoints,.int .i64 x.fScore.fAt,.int .i64 x.fPing,.int .i64 x.fWork]) (.agg #[.bool y.fEnd.fAddr.fV6,.int .u64 y.fEnd.fAddr.fHi,.int .u64 y.fEnd.fAddr.fLo,.int .i64 y.fEnd.fPort,.bool y.fIn,.int .i64 y.fSince,.int .i64 y.fScore.fPoints,.int .i64 y.fScore.fAt,.int .i64 y.fPing,.int .i64 y.fWork])).run Tryz.prog w = .ok (decide (x = y)) w:=by rw [run_equalIn_struct w (d + 5) _ _ _ (by kernel_rfl) (by kernel_rfl)]; simp only [Zow,Op.eqFields]; simp [go_sem,Zln,Zqo]; cases x; cases y; simp only [Zaa.mk.injEq]; (repeat' split) <;> simp_all
theorem Zsu (x y:Zaa) (xo yo:Operand) : ∀ w,(do eqGuard .eql 44 xo yo (.agg #[.bool x.fEnd.fAddr.fV6,.int .u64 x.fEnd.fAddr.fHi,.int .u64 x.fEnd.fAddr.fLo,.int .i64 x.fEnd.fPort,.bool x.fIn,.int .i64 x.fSince,.int .i64 x.fScore.fPoints,.int .i64 x.fScore.fAt,.int .i64 x.fPing,.int .i64 x.fWork]) (.agg #[.bool y.fEnd.fAddr.fV6,.int .u64 y.fEnd.fAddr.fHi,.int .u64 y.fEnd.fAddr.fLo,.int .i64 y.fEnd.fPort,.bool y.fIn,.int .i64 y.fSince,.int .i64 y.fScore.fPoints,.int .i64 y.fScore.fAt,.int .i64 y.fPing,.int .i64 y.fWork]); binOp .eql 44 (.agg #[.bool x.fEnd.fAddr.fV6,.int .u64 x.fEnd.fAddr.fHi,.int .u64 x.fEnd.fAddr.fLo,.int .i64 x.fEnd.fPort,.bool x.fIn,.int .i64 x.fSince,.int .i64 x.fScore.fPoints,.int .i64 x.fScore.fAt,.int .i64 x.fPing,.int .i64 x.fWork]) (.agg #[.bool y.fEnd.fAddr.fV6,.int .u64 y.fEnd.fAddr.fHi,.int .u64 y.fEnd.fAddr.fLo,.int .i64 y.fEnd.fPort,.bool y.fIn,.int .i64 y.fSince,.int .i64 y.fScore.fPoints,.int .i64 y.fScore.fAt,.int .i64 y.fPing,.int .i64 y.fWork]):Sem Value).run Tryz.prog w = .ok (.bool (decide (x = y))) w:=by
  intro w
  have hg:(eqGuard .eql 44 xo yo (.agg #[.bool x.fEnd.fAddr.fV6,.int .u64 x.fEnd.fAddr.fHi,.int .u64 x.fEnd.fAddr.fLo,.int .i64 x.fEnd.fPort,.bool x.fIn,.int .i64 x.fSince,.int .i64 x.fScore.fPoints,.int .i64 x.fScore.fAt,.int .i64 x.fPing,.int .i64 x.fWork]) (.agg #[.bool y.fEnd.fAddr.fV6,.int .u64 y.fEnd.fAddr.fHi,.int .u64 y.fEnd.fAddr.fLo,.int .i64 y.fEnd.fPort,.bool y.fIn,.int .i64 y.fSince,.int .i64 y.fScore.fPoints,.int .i64 y.fScore.fAt,.int .i64 y.fPing,.int .i64 y.fWork])).run Tryz.prog w = .ok () w:=by simp [eqGuard,Sem.run_bind,Tryz.eqGuardType44]
  rw [Sem.run_bind,hg,Result.andThen_ok,run_eql_struct]
  exact congrArg (fun r:Result Bool =>r.andThen fun b w' =>Result.ok (Value.bool b) w') (Znq 9994 x y w)
theorem ZkW (x y:Zaa) (xo yo:Operand) : ∀ w,(do eqGuard .neq 44 xo yo (.agg #[.bool x.fEnd.fAddr.fV6,.int .u64 x.fEnd.fAddr.fHi,.int .u64 x.fEnd.fAddr.fLo,.int .i64 x.fEnd.fPort,.bool x.fIn,.int .i64 x.fSince,.int .i64 x.fScore.fPoints,.int .i64 x.fScore.fAt,.int .i64 x.fPing,.int .i64 x.fWork]) (.agg #[.bool y.fEnd.fAddr.fV6,.int .u64 y.fEnd.fAddr.fHi,.int .u64 y.fEnd.fAddr.fLo,.int .i64 y.fEnd.fPort,.bool y.fIn,.int .i64 y.fSince,.int .i64 y.fScore.fPoints,.int .i64 y.fScore.fAt,.int .i64 y.fPing,.int .i64 y.fWork]); binOp .neq 44 (.agg #[.bool x.fEnd.fAddr.fV6,.int .u64 x.fEnd.fAddr.fHi,.int .u64 x.fEnd.fAddr.fLo,.int .i64 x.fEnd.fPort,.bool x.fIn,.int .i64 x.fSince,.int .i64 x.fScore.fPoints,.int .i64 x.fScore.fAt,.int .i64 x.fPing,.int .i64 x.fWork]) (.agg #[.bool y.fEnd.fAddr.fV6,.int .u64 y.fEnd.fAddr.fHi,.int .u64 y.fEnd.fAddr.fLo,.int .i64 y.fEnd.fPort,.bool y.fIn,.int .i64 y.fSince,.int .i64 y.fScore.fPoints,.int .i64 y.fScore.fAt,.int .i64 y.fPing,.int .i64 y.fWork]):Sem Value).run Tryz.prog w = .ok (.bool (!decide (x = y))) w:=by
  intro w
  have hg:(eqGuard .neq 44 xo yo (.agg #[.bool x.fEnd.fAddr.fV6,.int .u64 x.fEnd.fAddr.fHi,.int .u64 x.fEnd.fAddr.fLo,.int .i64 x.fEnd.fPort,.bool x.fIn,.int .i64 x.fSince,.int .i64 x.fScore.fPoints,.int .i64 x.fScore.fAt,.int .i64 x.fPing,.int .i64 x.fWork]) (.agg #[.bool y.fEnd.fAddr.fV6,.int .u64 y.fEnd.fAddr.fHi,.int .u64 y.fEnd.fAddr.fLo,.int .i64 y.fEnd.fPort,.bool y.fIn,.int .i64 y.fSince,.int .i64 y.fScore.fPoints,.int .i64 y.fScore.fAt,.int .i64 y.fPing,.int .i64 y.fWork])).run Tryz.prog w = .ok () w:=by simp [eqGuard,Sem.run_bind,Tryz.eqGuardType44]
  rw [Sem.run_bind,hg,Result.andThen_ok,run_neq_struct]
  exact congrArg (fun r:Result Bool =>r.andThen fun b w' =>Result.ok (Value.bool (!b)) w') (Znq 9994 x y w)
theorem ZnV : (Tryz.prog.fieldsOf 106).toList = [{ name := "End", type := 30, offset := 0, embedded := false, tag := "", pkgPath := "", byteOffset := 0 }, { name := "State", type := 3, offset := 4, embedded := false, tag := "", pkgPath := "", byteOffset := 32 }, { name := "Fails", type := 3, offset := 5, embedded := false, tag := "", pkgPath := "", byteOffset := 40 }, { name := "Next", type := 3, offset := 6, embedded := false, tag := "", pkgPath := "", byteOffset := 48 }] := by kernel_rfl
theorem Zqp (d:Nat) (x y:Zac) (w:World):(Op.equalIn (d + 6) 106 (.agg #[.bool x.fEnd.fAddr.fV6,.int .u64 x.fEnd.fAddr.fHi,.int .u64 x.fEnd.fAddr.fLo,.int .i64 x.fEnd.fPort,.int .i64 x.fState,.int .i64 x.fFails,.int .i64 x.fNext]) (.agg #[.bool y.fEnd.fAddr.fV6,.int .u64 y.fEnd.fAddr.fHi,.int .u64 y.fEnd.fAddr.fLo,.int .i64 y.fEnd.fPort,.int .i64 y.fState,.int .i64 y.fFails,.int .i64 y.fNext])).run Tryz.prog w = .ok (decide (x = y)) w:=by rw [run_equalIn_struct w (d + 5) _ _ _ (by kernel_rfl) (by kernel_rfl)]; simp only [ZnV,Op.eqFields]; simp [go_sem,Zln]; cases x; cases y; simp only [Zac.mk.injEq]; (repeat' split) <;> simp_all
theorem Zro (x y:Zac) (xo yo:Operand) : ∀ w,(do eqGuard .neq 106 xo yo (.agg #[.bool x.fEnd.fAddr.fV6,.int .u64 x.fEnd.fAddr.fHi,.int .u64 x.fEnd.fAddr.fLo,.int .i64 x.fEnd.fPort,.int .i64 x.fState,.int .i64 x.fFails,.int .i64 x.fNext]) (.agg #[.bool y.fEnd.fAddr.fV6,.int .u64 y.fEnd.fAddr.fHi,.int .u64 y.fEnd.fAddr.fLo,.int .i64 y.fEnd.fPort,.int .i64 y.fState,.int .i64 y.fFails,.int .i64 y.fNext]); binOp .neq 106 (.agg #[.bool x.fEnd.fAddr.fV6,.int .u64 x.fEnd.fAddr.fHi,.int .u64 x.fEnd.fAddr.fLo,.int .i64 x.fEnd.fPort,.int .i64 x.fState,.int .i64 x.fFails,.int .i64 x.fNext]) (.agg #[.bool y.fEnd.fAddr.fV6,.int .u64 y.fEnd.fAddr.fHi,.int .u64 y.fEnd.fAddr.fLo,.int .i64 y.fEnd.fPort,.int .i64 y.fState,.int .i64 y.fFails,.int .i64 y.fNext]):Sem Value).run Tryz.prog w = .ok (.bool (!decide (x = y))) w:=by
  intro w
  have hg:(eqGuard .neq 106 xo yo (.agg #[.bool x.fEnd.fAddr.fV6,.int .u64 x.fEnd.fAddr.fHi,.int .u64 x.fEnd.fAddr.fLo,.int .i64 x.fEnd.fPort,.int .i64 x.fState,.int .i64 x.fFails,.int .i64 x.fNext]) (.agg #[.bool y.fEnd.fAddr.fV6,.int .u64 y.fEnd.fAddr.fHi,.int .u64 y.fEnd.fAddr.fLo,.int .i64 y.fEnd.fPort,.int .i64 y.fState,.int .i64 y.fFails,.int .i64 y.fNext])).run Tryz.prog w = .ok () w:=by simp [eqGuard,Sem.run_bind,Tryz.eqGuardType106]
  rw [Sem.run_bind,hg,Result.andThen_ok,run_neq_struct]
  exact congrArg (fun r:Result Bool =>r.andThen fun b w' =>Result.ok (Value.bool (!b)) w') (Zqp 9994 x y w)
theorem Zpp : (Tryz.prog.fieldsOf 146).toList = [{ name := "Net", type := 32, offset := 0, embedded := false, tag := "", pkgPath := "", byteOffset := 0 }, { name := "Until", type := 3, offset := 4, embedded := false, tag := "", pkgPath := "", byteOffset := 32 }] := by kernel_rfl
theorem Zsw (d:Nat) (x y:Zab) (w:World):(Op.equalIn (d + 6) 146 (.agg #[.bool x.fNet.fAddr.fV6,.int .u64 x.fNet.fAddr.fHi,.int .u64 x.fNet.fAddr.fLo,.int .i64 x.fNet.fBits,.int .i64 x.fUntil]) (.agg #[.bool y.fNet.fAddr.fV6,.int .u64 y.fNet.fAddr.fHi,.int .u64 y.fNet.fAddr.fLo,.int .i64 y.fNet.fBits,.int .i64 y.fUntil])).run Tryz.prog w = .ok (decide (x = y)) w:=by rw [run_equalIn_struct w (d + 5) _ _ _ (by kernel_rfl) (by kernel_rfl)]; simp only [Zpp,Op.eqFields]; simp [go_sem,Zoh]; cases x; cases y; simp only [Zab.mk.injEq]; (repeat' split) <;> simp_all
theorem ZtE (x y:Zab) (xo yo:Operand) : ∀ w,(do eqGuard .neq 146 xo yo (.agg #[.bool x.fNet.fAddr.fV6,.int .u64 x.fNet.fAddr.fHi,.int .u64 x.fNet.fAddr.fLo,.int .i64 x.fNet.fBits,.int .i64 x.fUntil]) (.agg #[.bool y.fNet.fAddr.fV6,.int .u64 y.fNet.fAddr.fHi,.int .u64 y.fNet.fAddr.fLo,.int .i64 y.fNet.fBits,.int .i64 y.fUntil]); binOp .neq 146 (.agg #[.bool x.fNet.fAddr.fV6,.int .u64 x.fNet.fAddr.fHi,.int .u64 x.fNet.fAddr.fLo,.int .i64 x.fNet.fBits,.int .i64 x.fUntil]) (.agg #[.bool y.fNet.fAddr.fV6,.int .u64 y.fNet.fAddr.fHi,.int .u64 y.fNet.fAddr.fLo,.int .i64 y.fNet.fBits,.int .i64 y.fUntil]):Sem Value).run Tryz.prog w = .ok (.bool (!decide (x = y))) w:=by
  intro w
  have hg:(eqGuard .neq 146 xo yo (.agg #[.bool x.fNet.fAddr.fV6,.int .u64 x.fNet.fAddr.fHi,.int .u64 x.fNet.fAddr.fLo,.int .i64 x.fNet.fBits,.int .i64 x.fUntil]) (.agg #[.bool y.fNet.fAddr.fV6,.int .u64 y.fNet.fAddr.fHi,.int .u64 y.fNet.fAddr.fLo,.int .i64 y.fNet.fBits,.int .i64 y.fUntil])).run Tryz.prog w = .ok () w:=by simp [eqGuard,Sem.run_bind,Tryz.eqGuardType146]
  rw [Sem.run_bind,hg,Result.andThen_ok,run_neq_struct]
  exact congrArg (fun r:Result Bool =>r.andThen fun b w' =>Result.ok (Value.bool (!b)) w') (Zsw 9994 x y w)
def Zbe (a0:Int) (a1:Int) (a2:Int):Option Bool :=
  bif (decide (a0 ≥ a1)) then
    some (decide (a0≤a2))
  else
    some false
theorem ZaL (a0:Int) (a1:Int) (a2:Int) (r:Bool) (hf:Zbe a0 a1 a2 = some r):Zat Tryz.prog 45 [.one (.lit (.int .i64 a0)),.one (.lit (.int .i64 a1)),.one (.lit (.int .i64 a2))] (.one (.lit (.bool r))):=by
  refine Zat.of Tryz.func45 rfl rfl rfl rfl fun S0 w0 =>?_
  unfold Zbe at hf
  rcases Zaj hf with ⟨h1,hf⟩ | ⟨h1,hf⟩
  · obtain rfl:=oi hf
    exact Zai Zak 4 [rz,rB [(3,true)]] [] [] [] [] (.c h1 .n) (by kernel_rfl) rfl
  · obtain rfl:=oi hf
    exact Zai Zak 4 [rz,rB [(3,false)]] [] [] [] [] (.c h1 .n) (by kernel_rfl) rfl
def ZcJ (v3:Bool) (b1:Zaz)  (v4:Bool):Option Bool :=
  (Zbe b1.fHalf (1:Int) (1073741824:Int)).bind fun x10 =>
  bif x10 then
    (Zbe b1.fLimit (1:Int) (10000:Int)).bind fun x11 =>
    bif x11 then
      (Zbe b1.fBanFor (1:Int) (1073741824:Int)).bind fun x12 =>
      bif x12 then
        (Zbe b1.fBase (1:Int) (1073741824:Int)).bind fun x13 =>
        bif x13 then
          (Zbe b1.fCap b1.fBase (1073741824:Int)).bind fun x14 =>
          bif x14 then
            (Zbe b1.fJitter (0:Int) (1073741824:Int)).bind fun x15 =>
            bif v3 then
              bif v4 then
                bif x15 then
                  some (decide (b1.fSecret≤(9223372036854775807:Int)))
                else
                  some false
              else
                some false
            else
              some false
          else
            bif v3 then
              bif v4 then
                some false
              else
                some false
            else
              some false
        else
          bif v3 then
            bif v4 then
              some false
            else
              some false
          else
            some false
      else
        bif v3 then
          bif v4 then
            some false
          else
            some false
        else
          some false
    else
      bif v3 then
        bif v4 then
          some false
        else
          some false
      else
        some false
  else
    bif v3 then
      bif v4 then
        some false
      else
        some false
    else
      some false
theorem Zek (S0:Nat→Prop) (w0:Zbh) (v3:Bool) (b1:Zaz)  (v4:Bool) (r:Bool) (hf:ZcJ v3 b1  v4 = some r):Good Tryz.prog 93 S0 w0 (bodyPost Tryz.prog Tryz.f11 (Post S0 w0 (.one (.lit (.bool r))))) (at_ [1,1,1] (ZbM Tryz.f11)) ⟨[(1,.one (.ptr 1 0)),(3,.one (.lit (.bool v3))),(4,.one (.lit (.bool v4)))],[(1,.box [.lit (.int .i64 b1.fMaxIn),.lit (.int .i64 b1.fMaxOut),.lit (.int .i64 b1.fShards),.lit (.int .i64 b1.fMaxBans),.lit (.int .i64 b1.fMaxBook),.lit (.int .u64 b1.fSecret),.lit (.int .i64 b1.fQuota.fGroup),.lit (.int .i64 b1.fQuota.fPing),.lit (.int .i64 b1.fQuota.fWork),.lit (.int .i64 b1.fQuota.fTime),.lit (.int .i64 b1.fHalf),.lit (.int .i64 b1.fLimit),.lit (.int .i64 b1.fBanFor),.lit (.int .i64 b1.fBase),.lit (.int .i64 b1.fCap),.lit (.int .i64 b1.fJitter)])]⟩:=by
  unfold ZcJ at hf
  obtain ⟨x10,q17,hf⟩:=bind_some' hf
  rcases Zaj hf with ⟨h18,hf⟩ | ⟨h18,hf⟩
  · obtain ⟨x11,q19,hf⟩:=bind_some' hf
    have O1:Obl _:=(.c (ZaL _ _ _ _ q17) (.c h18 (.c (ZaL _ _ _ _ q19) .n)))
    rcases Zaj hf with ⟨h20,hf⟩ | ⟨h20,hf⟩
    · obtain ⟨x12,q21,hf⟩:=bind_some' hf
      have O2:Obl _:=(O1.app (.c h20 (.c (ZaL _ _ _ _ q21) .n)))
      rcases Zaj hf with ⟨h22,hf⟩ | ⟨h22,hf⟩
      · obtain ⟨x13,q23,hf⟩:=bind_some' hf
        have O3:Obl _:=(O2.app (.c h22 (.c (ZaL _ _ _ _ q23) .n)))
        rcases Zaj hf with ⟨h24,hf⟩ | ⟨h24,hf⟩
        · obtain ⟨x14,q25,hf⟩:=bind_some' hf
          have O4:Obl _:=(O3.app (.c h24 (.c (ZaL _ _ _ _ q25) .n)))
          rcases Zaj hf with ⟨h26,hf⟩ | ⟨h26,hf⟩
          · obtain ⟨x15,q27,hf⟩:=bind_some' hf
            let R5:List RA:=[⟨[(2,aB x10),(6,aB x11),(11,aB x12),(16,aB x13),(23,aB x14),(28,aB x15)],[(3,true),(8,true),(13,true),(18,true),(25,true)],[],[],[],[],[]⟩]
            have O6:Obl _:=(O4.app (.c h26 (.c (ZaL _ _ _ _ q27) .n)))
            rcases Zaj hf with ⟨h28,hf⟩ | ⟨h28,hf⟩
            · rcases Zaj hf with ⟨h29,hf⟩ | ⟨h29,hf⟩
              · rcases Zaj hf with ⟨h30,hf⟩ | ⟨h30,hf⟩
                · obtain rfl:=oi hf
                  exact Zai Zak 4 (R5 ++ [rB [(1,true),(4,true),(7,true)]]) [] [] [] [] (O6.app (.c h28 (.c h29 (.c h30 .n)))) (by kernel_rfl) rfl
                · obtain rfl:=oi hf
                  exact Zai Zak 4 (R5 ++ [rB [(1,true),(4,true),(7,false)]]) [] [] [] [] (O6.app (.c h28 (.c h29 (.c h30 .n)))) (by kernel_rfl) rfl
              · obtain rfl:=oi hf
                exact Zai Zak 4 (R5 ++ [rB [(1,true),(4,false)]]) [] [] [] [] (O6.app (.c h28 (.c h29 .n))) (by kernel_rfl) rfl
            · obtain rfl:=oi hf
              exact Zai Zak 4 (R5 ++ [rB [(1,false)]]) [] [] [] [] (O6.app (.c h28 .n)) (by kernel_rfl) rfl
          · let R7:List RA:=[⟨[(2,aB x10),(6,aB x11),(11,aB x12),(16,aB x13),(23,aB x14)],[(3,true),(8,true),(13,true),(18,true),(25,false)],[],[],[],[],[]⟩]
            rcases Zaj hf with ⟨h31,hf⟩ | ⟨h31,hf⟩
            · rcases Zaj hf with ⟨h32,hf⟩ | ⟨h32,hf⟩
              · obtain rfl:=oi hf
                exact Zai Zak 4 (R7 ++ [rB [(1,true),(4,true)]]) [] [] [] [] (O4.app (.c h26 (.c h31 (.c h32 .n)))) (by kernel_rfl) rfl
              · obtain rfl:=oi hf
                exact Zai Zak 4 (R7 ++ [rB [(1,true),(4,false)]]) [] [] [] [] (O4.app (.c h26 (.c h31 (.c h32 .n)))) (by kernel_rfl) rfl
            · obtain rfl:=oi hf
              exact Zai Zak 4 (R7 ++ [rB [(1,false)]]) [] [] [] [] (O4.app (.c h26 (.c h31 .n))) (by kernel_rfl) rfl
        · let R8:List RA:=[⟨[(2,aB x10),(6,aB x11),(11,aB x12),(16,aB x13)],[(3,true),(8,true),(13,true),(18,false)],[],[],[],[],[]⟩]
          rcases Zaj hf with ⟨h33,hf⟩ | ⟨h33,hf⟩
          · rcases Zaj hf with ⟨h34,hf⟩ | ⟨h34,hf⟩
            · obtain rfl:=oi hf
              exact Zai Zak 4 (R8 ++ [rB [(1,true),(4,true)]]) [] [] [] [] (O3.app (.c h24 (.c h33 (.c h34 .n)))) (by kernel_rfl) rfl
            · obtain rfl:=oi hf
              exact Zai Zak 4 (R8 ++ [rB [(1,true),(4,false)]]) [] [] [] [] (O3.app (.c h24 (.c h33 (.c h34 .n)))) (by kernel_rfl) rfl
          · obtain rfl:=oi hf
            exact Zai Zak 4 (R8 ++ [rB [(1,false)]]) [] [] [] [] (O3.app (.c h24 (.c h33 .n))) (by kernel_rfl) rfl
      · let R9:List RA:=[⟨[(2,aB x10),(6,aB x11),(11,aB x12)],[(3,true),(8,true),(13,false)],[],[],[],[],[]⟩]
        rcases Zaj hf with ⟨h35,hf⟩ | ⟨h35,hf⟩
        · rcases Zaj hf with ⟨h36,hf⟩ | ⟨h36,hf⟩
          · obtain rfl:=oi hf
            exact Zai Zak 4 (R9 ++ [rB [(1,true),(4,true)]]) [] [] [] [] (O2.app (.c h22 (.c h35 (.c h36 .n)))) (by kernel_rfl) rfl
          · obtain rfl:=oi hf
            exact Zai Zak 4 (R9 ++ [rB [(1,true),(4,false)]]) [] [] [] [] (O2.app (.c h22 (.c h35 (.c h36 .n)))) (by kernel_rfl) rfl
        · obtain rfl:=oi hf
          exact Zai Zak 4 (R9 ++ [rB [(1,false)]]) [] [] [] [] (O2.app (.c h22 (.c h35 .n))) (by kernel_rfl) rfl
    · let R10:List RA:=[⟨[(2,aB x10),(6,aB x11)],[(3,true),(8,false)],[],[],[],[],[]⟩]
      rcases Zaj hf with ⟨h37,hf⟩ | ⟨h37,hf⟩
      · rcases Zaj hf with ⟨h38,hf⟩ | ⟨h38,hf⟩
        · obtain rfl:=oi hf
          exact Zai Zak 4 (R10 ++ [rB [(1,true),(4,true)]]) [] [] [] [] (O1.app (.c h20 (.c h37 (.c h38 .n)))) (by kernel_rfl) rfl
        · obtain rfl:=oi hf
          exact Zai Zak 4 (R10 ++ [rB [(1,true),(4,false)]]) [] [] [] [] (O1.app (.c h20 (.c h37 (.c h38 .n)))) (by kernel_rfl) rfl
      · obtain rfl:=oi hf
        exact Zai Zak 4 (R10 ++ [rB [(1,false)]]) [] [] [] [] (O1.app (.c h20 (.c h37 .n))) (by kernel_rfl) rfl
  · let R11:List RA:=[⟨[(2,aB x10)],[(3,false)],[],[],[],[],[]⟩]
    have O12:Obl _:=(.c (ZaL _ _ _ _ q17) (.c h18 .n))
    rcases Zaj hf with ⟨h39,hf⟩ | ⟨h39,hf⟩
    · rcases Zaj hf with ⟨h40,hf⟩ | ⟨h40,hf⟩
      · obtain rfl:=oi hf
        exact Zai Zak 4 (R11 ++ [rB [(1,true),(4,true)]]) [] [] [] [] (O12.app (.c h39 (.c h40 .n))) (by kernel_rfl) rfl
      · obtain rfl:=oi hf
        exact Zai Zak 4 (R11 ++ [rB [(1,true),(4,false)]]) [] [] [] [] (O12.app (.c h39 (.c h40 .n))) (by kernel_rfl) rfl
    · obtain rfl:=oi hf
      exact Zai Zak 4 (R11 ++ [rB [(1,false)]]) [] [] [] [] (O12.app (.c h39 .n)) (by kernel_rfl) rfl
def Zcl   (v3:Bool) (b1:Zaz):Option Bool :=
  (Zbe b1.fQuota.fGroup (0:Int) (64:Int)).bind fun x6 =>
  bif x6 then
    (Zbe b1.fQuota.fPing (0:Int) (64:Int)).bind fun x7 =>
    bif x7 then
      (Zbe b1.fQuota.fWork (0:Int) (64:Int)).bind fun x8 =>
      bif x8 then
        (Zbe b1.fQuota.fTime (0:Int) (64:Int)).bind fun x9 =>
        ZcJ v3 b1  x9
      else
        ZcJ v3 b1  false
    else
      ZcJ v3 b1  false
  else
    ZcJ v3 b1  false
theorem Zdl (S0:Nat→Prop) (w0:Zbh)   (v3:Bool) (b1:Zaz) (r:Bool) (hf:Zcl   v3 b1 = some r):Good Tryz.prog 93 S0 w0 (bodyPost Tryz.prog Tryz.f11 (Post S0 w0 (.one (.lit (.bool r))))) (at_ [1,1] (ZbM Tryz.f11)) ⟨[(1,.one (.ptr 1 0)),(3,.one (.lit (.bool v3)))],[(1,.box [.lit (.int .i64 b1.fMaxIn),.lit (.int .i64 b1.fMaxOut),.lit (.int .i64 b1.fShards),.lit (.int .i64 b1.fMaxBans),.lit (.int .i64 b1.fMaxBook),.lit (.int .u64 b1.fSecret),.lit (.int .i64 b1.fQuota.fGroup),.lit (.int .i64 b1.fQuota.fPing),.lit (.int .i64 b1.fQuota.fWork),.lit (.int .i64 b1.fQuota.fTime),.lit (.int .i64 b1.fHalf),.lit (.int .i64 b1.fLimit),.lit (.int .i64 b1.fBanFor),.lit (.int .i64 b1.fBase),.lit (.int .i64 b1.fCap),.lit (.int .i64 b1.fJitter)])]⟩:=by
  unfold Zcl at hf
  obtain ⟨x6,q10,hf⟩:=bind_some' hf
  rcases Zaj hf with ⟨h11,hf⟩ | ⟨h11,hf⟩
  · obtain ⟨x7,q12,hf⟩:=bind_some' hf
    have O13:Obl _:=(.c (ZaL _ _ _ _ q10) (.c h11 (.c (ZaL _ _ _ _ q12) .n)))
    rcases Zaj hf with ⟨h13,hf⟩ | ⟨h13,hf⟩
    · obtain ⟨x8,q14,hf⟩:=bind_some' hf
      have O14:Obl _:=(O13.app (.c h13 (.c (ZaL _ _ _ _ q14) .n)))
      rcases Zaj hf with ⟨h15,hf⟩ | ⟨h15,hf⟩
      · obtain ⟨x9,q16,hf⟩:=bind_some' hf
        exact ZaI Zak Post.ends 2 [⟨[(3,aB x6),(8,aB x7),(14,aB x8),(20,aB x9)],[(4,true),(10,true),(16,true)],[],[],[],[],[]⟩] [] ⟨[],[],[],[],[],[1,3,4],[1],[]⟩ (O14.app (.c h15 (.c (ZaL _ _ _ _ q16) .n))) (by kernel_rfl) (Zek S0 w0 v3 b1   x9 r hf)
      · exact ZaI Zak Post.ends 2 [⟨[(3,aB x6),(8,aB x7),(14,aB x8)],[(4,true),(10,true),(16,false)],[],[],[],[],[]⟩] [] ⟨[],[],[],[],[],[1,3,4],[1],[]⟩ (O14.app (.c h15 .n)) (by kernel_rfl) (Zek S0 w0 v3 b1   false r hf)
    · exact ZaI Zak Post.ends 2 [⟨[(3,aB x6),(8,aB x7)],[(4,true),(10,false)],[],[],[],[],[]⟩] [] ⟨[],[],[],[],[],[1,3,4],[1],[]⟩ (O13.app (.c h13 .n)) (by kernel_rfl) (Zek S0 w0 v3 b1   false r hf)
  · exact ZaI Zak Post.ends 2 [⟨[(3,aB x6)],[(4,false)],[],[],[],[],[]⟩] [] ⟨[],[],[],[],[],[1,3,4],[1],[]⟩ (.c (ZaL _ _ _ _ q10) (.c h11 .n)) (by kernel_rfl) (Zek S0 w0 v3 b1   false r hf)
def ZeX (a0:Zaz):Option Bool :=
  (Zbe a0.fMaxIn (0:Int) (65535:Int)).bind fun x1 =>
  bif x1 then
    (Zbe a0.fMaxOut (0:Int) (65535:Int)).bind fun x2 =>
    bif x2 then
      (Zbe a0.fShards (1:Int) (8:Int)).bind fun x3 =>
      bif x3 then
        (Zbe a0.fMaxBans (0:Int) (1024:Int)).bind fun x4 =>
        bif x4 then
          (Zbe a0.fMaxBook (0:Int) (1024:Int)).bind fun x5 =>
          Zcl   x5 a0
        else
          Zcl   false a0
      else
        Zcl   false a0
    else
      Zcl   false a0
  else
    Zcl   false a0
theorem ZiJ (a0:Zaz) (r:Bool) (hf:ZeX a0 = some r):Zat Tryz.prog 11 [.agg (Zaz.c a0)] (.one (.lit (.bool r))):=by
  refine Zat.of Tryz.func11 rfl rfl rfl rfl fun S0 w0 =>?_
  unfold ZeX at hf
  obtain ⟨x1,q1,hf⟩:=bind_some' hf
  rcases Zaj hf with ⟨h2,hf⟩ | ⟨h2,hf⟩
  · obtain ⟨x2,q3,hf⟩:=bind_some' hf
    have O15:Obl _:=(.c (ZaL _ _ _ _ q1) (.c h2 (.c (ZaL _ _ _ _ q3) .n)))
    rcases Zaj hf with ⟨h4,hf⟩ | ⟨h4,hf⟩
    · obtain ⟨x3,q5,hf⟩:=bind_some' hf
      have O16:Obl _:=(O15.app (.c h4 (.c (ZaL _ _ _ _ q5) .n)))
      rcases Zaj hf with ⟨h6,hf⟩ | ⟨h6,hf⟩
      · obtain ⟨x4,q7,hf⟩:=bind_some' hf
        have O17:Obl _:=(O16.app (.c h6 (.c (ZaL _ _ _ _ q7) .n)))
        rcases Zaj hf with ⟨h8,hf⟩ | ⟨h8,hf⟩
        · obtain ⟨x5,q9,hf⟩:=bind_some' hf
          exact ZaI Zak Post.ends 4 [rz,⟨[(2,aB x1),(6,aB x2),(11,aB x3),(16,aB x4),(21,aB x5)],[(3,true),(8,true),(13,true),(18,true)],[],[],[],[],[]⟩] [] ⟨[],[],[],[],[],[1,3],[1],[]⟩ (O17.app (.c h8 (.c (ZaL _ _ _ _ q9) .n))) (by kernel_rfl) (Zdl S0 w0    x5 a0 r hf)
        · exact ZaI Zak Post.ends 4 [rz,⟨[(2,aB x1),(6,aB x2),(11,aB x3),(16,aB x4)],[(3,true),(8,true),(13,true),(18,false)],[],[],[],[],[]⟩] [] ⟨[],[],[],[],[],[1,3],[1],[]⟩ (O17.app (.c h8 .n)) (by kernel_rfl) (Zdl S0 w0    false a0 r hf)
      · exact ZaI Zak Post.ends 4 [rz,⟨[(2,aB x1),(6,aB x2),(11,aB x3)],[(3,true),(8,true),(13,false)],[],[],[],[],[]⟩] [] ⟨[],[],[],[],[],[1,3],[1],[]⟩ (O16.app (.c h6 .n)) (by kernel_rfl) (Zdl S0 w0    false a0 r hf)
    · exact ZaI Zak Post.ends 4 [rz,⟨[(2,aB x1),(6,aB x2)],[(3,true),(8,false)],[],[],[],[],[]⟩] [] ⟨[],[],[],[],[],[1,3],[1],[]⟩ (O15.app (.c h4 .n)) (by kernel_rfl) (Zdl S0 w0    false a0 r hf)
  · exact ZaI Zak Post.ends 4 [rz,⟨[(2,aB x1)],[(3,false)],[],[],[],[],[]⟩] [] ⟨[],[],[],[],[],[1,3],[1],[]⟩ (.c (ZaL _ _ _ _ q1) (.c h2 .n)) (by kernel_rfl) (Zdl S0 w0    false a0 r hf)
def Zda (a0:(List Zae))  : Nat→Int→Option Bool
  | 0,_ =>none
  | fu + 1,v3 =>
    bif (decide (v3 < ((a0.length:Nat):Int))) then
      bif (decide (v3 < (80:Int))) then
        need (0≤v3∧v3 < ((a0.length:Nat):Int)) <|
        bif (decide (((((a0.getD v3.toNat Zae.d).fBans).length:Nat):Int) > (20:Int))) then
          some false
        else
          bif (decide (((((a0.getD v3.toNat Zae.d).fBook).length:Nat):Int) > (20:Int))) then
            some false
          else
            Zda a0  fu (ZaD v3 (1:Int))
      else
        some (decide (((a0.length:Nat):Int)≤(80:Int)))
    else
      some (decide (((a0.length:Nat):Int)≤(80:Int)))
theorem ZlI (S0:Nat→Prop) (w0:Zbh) (a0:(List Zae))  : ∀ (fu:Nat) (v3:Int) (r:Bool),Zda a0  fu v3 = some r→Good Tryz.prog 33 S0 w0 (bodyPost Tryz.prog Tryz.f12 (Post S0 w0 (.one (.lit (.bool r))))) (at_ [1,0,1,0] (ZbM Tryz.f12)) ⟨[(0,.one (cL 13 Zae.c Zae.d a0)),(3,.one (.lit (.int .i64 v3)))],[]⟩:=by
  intro fu
  induction fu with
  | zero =>
    intro v3 r hf
    simp [Zda] at hf
  | succ fu ih =>
    intro v3 r hf
    unfold Zda at hf
    rcases Zaj hf with ⟨h1,hf⟩ | ⟨h1,hf⟩
    · rcases Zaj hf with ⟨h2,hf⟩ | ⟨h2,hf⟩
      · obtain ⟨o3,hf⟩:=Zas hf
        rcases Zaj hf with ⟨h4,hf⟩ | ⟨h4,hf⟩
        · obtain rfl:=oi hf
          exact Zai Zak 13 [rB [(4,true)],rB [(7,true)],rz] [true,true] [] [] [] (.c h1 (.c h2 (.c o3 (.c h4 (.c (show true = true from rfl) .n))))) (by kernel_rfl) rfl
        · rcases Zaj hf with ⟨h5,hf⟩ | ⟨h5,hf⟩
          · obtain rfl:=oi hf
            exact Zai Zak 13 [rB [(4,true)],rB [(7,false)],rz] [true,true] [] [] [] (.c h1 (.c h2 (.c o3 (.c h4 (.c o3 (.c h5 .n)))))) (by kernel_rfl) rfl
          · exact ZaI Zak Post.ends 15 [rB [(4,true)],rB [(7,false)],rz] [true,false] ⟨[],[],[],[],[],[0,3],[],[]⟩ (.c h1 (.c h2 (.c o3 (.c h4 (.c o3 (.c h5 .n)))))) (by kernel_rfl) (ih (ZaD v3 (1:Int)) r hf)
      · obtain rfl:=oi hf
        exact Zai Zak 8 [rB [(4,true)],rz] [false] [] [] [] (.c h1 (.c h2 .n)) (by kernel_rfl) rfl
    · obtain rfl:=oi hf
      exact Zai Zak 8 [rB [(4,false)],rz] [false] [] [] [] (.c h1 (.c (show false = false from rfl) .n)) (by kernel_rfl) rfl
def Zhm (a0:(List Zae)):Option Bool :=
  Zda a0  (((80:Int) - (0:Int)).toNat + 2) (0:Int)
theorem Znn (a0:(List Zae)) (r:Bool) (hf:Zhm a0 = some r):Zat Tryz.prog 12 [.one (cL 13 Zae.c Zae.d a0)] (.one (.lit (.bool r))):=by
  refine Zat.of Tryz.func12 rfl rfl rfl rfl fun S0 w0 =>?_
  unfold Zhm at hf
  exact ZaI Zak Post.ends 6 [rz,rz] [] ⟨[],[],[],[],[],[0,3],[],[]⟩ .n (by kernel_rfl) (ZlI S0 w0 a0   (((80:Int) - (0:Int)).toNat + 2) (0:Int) r hf)
def ZhP  : Option Zaz :=
  some (Zaz.mk (8:Int) (4:Int) (4:Int) (64:Int) (64:Int) (1:Int) (ZcL.mk (1:Int) (1:Int) (1:Int) (1:Int)) (100:Int) (100:Int) (1000:Int) (2:Int) (64:Int) (4:Int))
theorem ZiK  (r:Zaz) (hf:ZhP  = some r):Zat Tryz.prog 46 [] (.agg (Zaz.c r)):=by
  refine Zat.of Tryz.func46 rfl rfl rfl rfl fun S0 w0 =>?_
  unfold ZhP at hf
  obtain rfl:=oi hf
  exact Zai Zak 4 [rz,rz] [] [] [] [] .n (by kernel_rfl) rfl
def ZkR  : Option (ByteArray × ByteArray × ByteArray × ByteArray × ByteArray × ByteArray × ByteArray × ByteArray × ByteArray × ByteArray × ByteArray × ByteArray × ByteArray × ByteArray) :=
  some ((⟨#[]⟩ : ByteArray),(⟨#[97,99,99,101,112,116]⟩ : ByteArray),(⟨#[108,101,97,118,101]⟩ : ByteArray),(⟨#[100,105,97,108]⟩ : ByteArray),(⟨#[114,101,115,117,108,116]⟩ : ByteArray),(⟨#[98,108,97,109,101]⟩ : ByteArray),(⟨#[98,97,110]⟩ : ByteArray),(⟨#[117,110,98,97,110]⟩ : ByteArray),(⟨#[98,97,110,110,101,100]⟩ : ByteArray),(⟨#[116,105,99,107]⟩ : ByteArray),(⟨#[108,105,115,116]⟩ : ByteArray),(⟨#[112,111,110,103]⟩ : ByteArray),(⟨#[119,111,114,107]⟩ : ByteArray),(⟨#[108,101,97,114,110]⟩ : ByteArray))
theorem ZrD  (r:(ByteArray × ByteArray × ByteArray × ByteArray × ByteArray × ByteArray × ByteArray × ByteArray × ByteArray × ByteArray × ByteArray × ByteArray × ByteArray × ByteArray)) (hf:ZkR  = some r):Zat Tryz.prog 211 [] (.agg ((cP cS (cP cS (cP cS (cP cS (cP cS (cP cS (cP cS (cP cS (cP cS (cP cS (cP cS (cP cS (cP cS cS))))))))))))) r)):=by
  refine Zat.of Tryz.func211 rfl rfl rfl rfl fun S0 w0 =>?_
  unfold ZkR at hf
  obtain rfl:=oi hf
  exact Zai Zak 4 [rz,rz] [] [] [] [] .n (by kernel_rfl) rfl
def Zpe (a0:(List ByteArray)) (a1:Int):Option ByteArray :=
  bif (decide (a1 < (0:Int))) then
    some (⟨#[]⟩ : ByteArray)
  else
    bif (decide (a1 ≥ ((a0.length:Nat):Int))) then
      some (⟨#[]⟩ : ByteArray)
    else
      need (0≤a1∧a1 < ((a0.length:Nat):Int)) <|
      some (a0.getD a1.toNat ByteArray.empty)
theorem ZuX (a0:(List ByteArray)) (a1:Int) (r:ByteArray) (hf:Zpe a0 a1 = some r):Zat Tryz.prog 212 [.one (cL 1 cS ByteArray.empty a0),.one (.lit (.int .i64 a1))] (.one (.lit (.string r))):=by
  refine Zat.of Tryz.func212 rfl rfl rfl rfl fun S0 w0 =>?_
  unfold Zpe at hf
  rcases Zaj hf with ⟨h1,hf⟩ | ⟨h1,hf⟩
  · obtain rfl:=oi hf
    exact Zai Zak 8 [rz,rB [(2,true)],rz] [true] [] [] [] (.c h1 (.c (show true = true from rfl) .n)) (by kernel_rfl) rfl
  · rcases Zaj hf with ⟨h2,hf⟩ | ⟨h2,hf⟩
    · obtain rfl:=oi hf
      exact Zai Zak 8 [rz,rB [(2,false)],rz] [true] [] [] [] (.c h1 (.c h2 .n)) (by kernel_rfl) rfl
    · obtain ⟨o3,hf⟩:=Zas hf
      obtain rfl:=oi hf
      exact Zai Zak 9 [rz,rB [(2,false)],rz] [false] [] [] [] (.c h1 (.c h2 (.c o3 .n))) (by kernel_rfl) rfl
def Zku (a0:Int):Option ByteArray :=
  (ZkR).bind fun x1 =>
  (Zpe ([x1.1,x1.2.1,x1.2.2.1,x1.2.2.2.1,x1.2.2.2.2.1,x1.2.2.2.2.2.1,x1.2.2.2.2.2.2.1,x1.2.2.2.2.2.2.2.1,x1.2.2.2.2.2.2.2.2.1,x1.2.2.2.2.2.2.2.2.2.1,x1.2.2.2.2.2.2.2.2.2.2.1,x1.2.2.2.2.2.2.2.2.2.2.2.1,x1.2.2.2.2.2.2.2.2.2.2.2.2.1,x1.2.2.2.2.2.2.2.2.2.2.2.2.2]:List ByteArray) a0).bind fun x2 =>
  some x2
theorem Zod (a0:Int) (r:ByteArray) (hf:Zku a0 = some r):Zat Tryz.prog 133 [.one (.lit (.int .i64 a0))] (.one (.lit (.string r))):=by
  refine Zat.of Tryz.func133 rfl rfl rfl rfl fun S0 w0 =>?_
  unfold Zku at hf
  obtain ⟨x1,q1,hf⟩:=bind_some' hf
  obtain ⟨x2,q2,hf⟩:=bind_some' hf
  obtain rfl:=oi hf
  exact Zai Zak 6 [rz,rA [(0,aG ((cP cS (cP cS (cP cS (cP cS (cP cS (cP cS (cP cS (cP cS (cP cS (cP cS (cP cS (cP cS (cP cS cS))))))))))))) x1))],⟨[(2,.r (.one (.lit (.string x2))) [])],[],[(0,[3])],[],[],[(0,(([x1.1,x1.2.1,x1.2.2.1,x1.2.2.2.1,x1.2.2.2.2.1,x1.2.2.2.2.2.1,x1.2.2.2.2.2.2.1,x1.2.2.2.2.2.2.2.1,x1.2.2.2.2.2.2.2.2.1,x1.2.2.2.2.2.2.2.2.2.1,x1.2.2.2.2.2.2.2.2.2.2.1,x1.2.2.2.2.2.2.2.2.2.2.2.1,x1.2.2.2.2.2.2.2.2.2.2.2.2.1,x1.2.2.2.2.2.2.2.2.2.2.2.2.2]:List ByteArray).length,Zaq cS ByteArray.empty ([x1.1,x1.2.1,x1.2.2.1,x1.2.2.2.1,x1.2.2.2.2.1,x1.2.2.2.2.2.1,x1.2.2.2.2.2.2.1,x1.2.2.2.2.2.2.2.1,x1.2.2.2.2.2.2.2.2.1,x1.2.2.2.2.2.2.2.2.2.1,x1.2.2.2.2.2.2.2.2.2.2.1,x1.2.2.2.2.2.2.2.2.2.2.2.1,x1.2.2.2.2.2.2.2.2.2.2.2.2.1,x1.2.2.2.2.2.2.2.2.2.2.2.2.2]:List ByteArray)))],[]⟩] [] [] [] [] (.c (ZrD  _ q1) (.c (show ([x1.1,x1.2.1,x1.2.2.1,x1.2.2.2.1,x1.2.2.2.2.1,x1.2.2.2.2.2.1,x1.2.2.2.2.2.2.1,x1.2.2.2.2.2.2.2.1,x1.2.2.2.2.2.2.2.2.1,x1.2.2.2.2.2.2.2.2.2.1,x1.2.2.2.2.2.2.2.2.2.2.1,x1.2.2.2.2.2.2.2.2.2.2.2.1,x1.2.2.2.2.2.2.2.2.2.2.2.2.1,x1.2.2.2.2.2.2.2.2.2.2.2.2.2]:List ByteArray).length = 14∧∀ i j,i < 14→j < 1→Zaq cS ByteArray.empty ([x1.1,x1.2.1,x1.2.2.1,x1.2.2.2.1,x1.2.2.2.2.1,x1.2.2.2.2.2.1,x1.2.2.2.2.2.2.1,x1.2.2.2.2.2.2.2.1,x1.2.2.2.2.2.2.2.2.1,x1.2.2.2.2.2.2.2.2.2.1,x1.2.2.2.2.2.2.2.2.2.2.1,x1.2.2.2.2.2.2.2.2.2.2.2.1,x1.2.2.2.2.2.2.2.2.2.2.2.2.1,x1.2.2.2.2.2.2.2.2.2.2.2.2.2]:List ByteArray) i j = ([.lit (.string x1.1),.lit (.string x1.2.1),.lit (.string x1.2.2.1),.lit (.string x1.2.2.2.1),.lit (.string x1.2.2.2.2.1),.lit (.string x1.2.2.2.2.2.1),.lit (.string x1.2.2.2.2.2.2.1),.lit (.string x1.2.2.2.2.2.2.2.1),.lit (.string x1.2.2.2.2.2.2.2.2.1),.lit (.string x1.2.2.2.2.2.2.2.2.2.1),.lit (.string x1.2.2.2.2.2.2.2.2.2.2.1),.lit (.string x1.2.2.2.2.2.2.2.2.2.2.2.1),.lit (.string x1.2.2.2.2.2.2.2.2.2.2.2.2.1),.lit (.string x1.2.2.2.2.2.2.2.2.2.2.2.2.2)]:List C).getD (0 + (i * 1 + j)) .junk from ⟨rfl,ZBr (sz:=1) cS ByteArray.empty ([x1.1,x1.2.1,x1.2.2.1,x1.2.2.2.1,x1.2.2.2.2.1,x1.2.2.2.2.2.1,x1.2.2.2.2.2.2.1,x1.2.2.2.2.2.2.2.1,x1.2.2.2.2.2.2.2.2.1,x1.2.2.2.2.2.2.2.2.2.1,x1.2.2.2.2.2.2.2.2.2.2.1,x1.2.2.2.2.2.2.2.2.2.2.2.1,x1.2.2.2.2.2.2.2.2.2.2.2.2.1,x1.2.2.2.2.2.2.2.2.2.2.2.2.2]:List ByteArray) [.lit (.string x1.1),.lit (.string x1.2.1),.lit (.string x1.2.2.1),.lit (.string x1.2.2.2.1),.lit (.string x1.2.2.2.2.1),.lit (.string x1.2.2.2.2.2.1),.lit (.string x1.2.2.2.2.2.2.1),.lit (.string x1.2.2.2.2.2.2.2.1),.lit (.string x1.2.2.2.2.2.2.2.2.1),.lit (.string x1.2.2.2.2.2.2.2.2.2.1),.lit (.string x1.2.2.2.2.2.2.2.2.2.2.1),.lit (.string x1.2.2.2.2.2.2.2.2.2.2.2.1),.lit (.string x1.2.2.2.2.2.2.2.2.2.2.2.2.1),.lit (.string x1.2.2.2.2.2.2.2.2.2.2.2.2.2)] (fun _ =>rfl) rfl⟩) (.c (ZuX _ _ _ q2) .n))) (by kernel_rfl) rfl
def ZiN (v3:Int)  (v12:Bool):Option (List Int) :=
  bif v12 then
    some ([(3:Int)]:List Int)
  else
    bif (v3 == (4:Int)) then
      some ([(0:Int),(5:Int),(3:Int),(4:Int)]:List Int)
    else
      bif (v3 == (5:Int)) then
        some ([(0:Int),(4:Int),(3:Int)]:List Int)
      else
        bif (v3 == (6:Int)) then
          some ([(1:Int),(4:Int),(3:Int)]:List Int)
        else
          bif (v3 == (7:Int)) then
            some ([(1:Int)]:List Int)
          else
            bif (v3 == (8:Int)) then
              some ([(2:Int),(3:Int)]:List Int)
            else
              bif (v3 == (11:Int)) then
                some ([(0:Int),(4:Int)]:List Int)
              else
                some ([]:List Int)
theorem ZkT (S0:Nat→Prop) (w0:Zbh) (v3:Int)  (v12:Bool) (r:(List Int)) (hf:ZiN v3  v12 = some r):Good Tryz.prog 34 S0 w0 (bodyPost Tryz.prog Tryz.f134 (Zdj S0 w0 [(99999,.rows 181 1 r.length (Zaq (cI .i64) (0:Int) r))] (.one (.osl 99999 r.length)))) (at_ [1,0,1,0,1,1,1,1,1] (ZbM Tryz.f134)) ⟨[(3,.one (.lit (.int .i64 v3))),(12,.one (.lit (.bool v12)))],[]⟩:=by
  unfold ZiN at hf
  rcases Zaj hf with ⟨h5,hf⟩ | ⟨h5,hf⟩
  · obtain rfl:=oi hf
    exact Zdc Zak 3 [rA [(0,.c ([(3:Int)]:List Int).length (Zaq (cI .i64) (0:Int) ([(3:Int)]:List Int)))]] [true] ⟨[],[],[],[],[],[2],[15],[(15,99999)]⟩ (.c h5 (.c (show ([(3:Int)]:List Int).length = 1 from rfl) (.c (show ∀ i j,i < 1→j < 1→Zaq (cI .i64) (0:Int) ([(3:Int)]:List Int) i j = (([(3:Int)]:List Int).flatMap (cI .i64)).getD (i * 1 + j) .junk from (fun i j hi hj =>ZaS (sz:=1) (e:=(cI .i64)) (d:=(0:Int)) (fun _ =>rfl) ([(3:Int)]:List Int) i j hi hj)) .n))) (by kernel_rfl)
  · rcases Zaj hf with ⟨h6,hf⟩ | ⟨h6,hf⟩
    · obtain rfl:=oi hf
      exact Zdc Zak 6 [rz,rA [(0,.c ([(0:Int),(5:Int),(3:Int),(4:Int)]:List Int).length (Zaq (cI .i64) (0:Int) ([(0:Int),(5:Int),(3:Int),(4:Int)]:List Int)))]] [false,true] ⟨[],[],[],[],[],[2],[18],[(18,99999)]⟩ (.c h5 (.c h6 (.c (show ([(0:Int),(5:Int),(3:Int),(4:Int)]:List Int).length = 4 from rfl) (.c (show ∀ i j,i < 4→j < 1→Zaq (cI .i64) (0:Int) ([(0:Int),(5:Int),(3:Int),(4:Int)]:List Int) i j = (([(0:Int),(5:Int),(3:Int),(4:Int)]:List Int).flatMap (cI .i64)).getD (i * 1 + j) .junk from (fun i j hi hj =>ZaS (sz:=1) (e:=(cI .i64)) (d:=(0:Int)) (fun _ =>rfl) ([(0:Int),(5:Int),(3:Int),(4:Int)]:List Int) i j hi hj)) .n)))) (by kernel_rfl)
    · rcases Zaj hf with ⟨h7,hf⟩ | ⟨h7,hf⟩
      · obtain rfl:=oi hf
        exact Zdc Zak 9 [rz,rz,rA [(0,.c ([(0:Int),(4:Int),(3:Int)]:List Int).length (Zaq (cI .i64) (0:Int) ([(0:Int),(4:Int),(3:Int)]:List Int)))]] [false,false,true] ⟨[],[],[],[],[],[2],[21],[(21,99999)]⟩ (.c h5 (.c h6 (.c h7 (.c (show ([(0:Int),(4:Int),(3:Int)]:List Int).length = 3 from rfl) (.c (show ∀ i j,i < 3→j < 1→Zaq (cI .i64) (0:Int) ([(0:Int),(4:Int),(3:Int)]:List Int) i j = (([(0:Int),(4:Int),(3:Int)]:List Int).flatMap (cI .i64)).getD (i * 1 + j) .junk from (fun i j hi hj =>ZaS (sz:=1) (e:=(cI .i64)) (d:=(0:Int)) (fun _ =>rfl) ([(0:Int),(4:Int),(3:Int)]:List Int) i j hi hj)) .n))))) (by kernel_rfl)
      · rcases Zaj hf with ⟨h8,hf⟩ | ⟨h8,hf⟩
        · obtain rfl:=oi hf
          exact Zdc Zak 12 [rz,rz,rz,rA [(0,.c ([(1:Int),(4:Int),(3:Int)]:List Int).length (Zaq (cI .i64) (0:Int) ([(1:Int),(4:Int),(3:Int)]:List Int)))]] [false,false,false,true] ⟨[],[],[],[],[],[2],[24],[(24,99999)]⟩ (.c h5 (.c h6 (.c h7 (.c h8 (.c (show ([(1:Int),(4:Int),(3:Int)]:List Int).length = 3 from rfl) (.c (show ∀ i j,i < 3→j < 1→Zaq (cI .i64) (0:Int) ([(1:Int),(4:Int),(3:Int)]:List Int) i j = (([(1:Int),(4:Int),(3:Int)]:List Int).flatMap (cI .i64)).getD (i * 1 + j) .junk from (fun i j hi hj =>ZaS (sz:=1) (e:=(cI .i64)) (d:=(0:Int)) (fun _ =>rfl) ([(1:Int),(4:Int),(3:Int)]:List Int) i j hi hj)) .n)))))) (by kernel_rfl)
        · rcases Zaj hf with ⟨h9,hf⟩ | ⟨h9,hf⟩
          · obtain rfl:=oi hf
            exact Zdc Zak 15 [rz,rz,rz,rz,rA [(0,.c ([(1:Int)]:List Int).length (Zaq (cI .i64) (0:Int) ([(1:Int)]:List Int)))]] [false,false,false,false,true] ⟨[],[],[],[],[],[2],[27],[(27,99999)]⟩ (.c h5 (.c h6 (.c h7 (.c h8 (.c h9 (.c (show ([(1:Int)]:List Int).length = 1 from rfl) (.c (show ∀ i j,i < 1→j < 1→Zaq (cI .i64) (0:Int) ([(1:Int)]:List Int) i j = (([(1:Int)]:List Int).flatMap (cI .i64)).getD (i * 1 + j) .junk from (fun i j hi hj =>ZaS (sz:=1) (e:=(cI .i64)) (d:=(0:Int)) (fun _ =>rfl) ([(1:Int)]:List Int) i j hi hj)) .n))))))) (by kernel_rfl)
          · rcases Zaj hf with ⟨h10,hf⟩ | ⟨h10,hf⟩
            · obtain rfl:=oi hf
              exact Zdc Zak 18 [rz,rz,rz,rz,rz,rA [(0,.c ([(2:Int),(3:Int)]:List Int).length (Zaq (cI .i64) (0:Int) ([(2:Int),(3:Int)]:List Int)))]] [false,false,false,false,false,true] ⟨[],[],[],[],[],[2],[30],[(30,99999)]⟩ (.c h5 (.c h6 (.c h7 (.c h8 (.c h9 (.c h10 (.c (show ([(2:Int),(3:Int)]:List Int).length = 2 from rfl) (.c (show ∀ i j,i < 2→j < 1→Zaq (cI .i64) (0:Int) ([(2:Int),(3:Int)]:List Int) i j = (([(2:Int),(3:Int)]:List Int).flatMap (cI .i64)).getD (i * 1 + j) .junk from (fun i j hi hj =>ZaS (sz:=1) (e:=(cI .i64)) (d:=(0:Int)) (fun _ =>rfl) ([(2:Int),(3:Int)]:List Int) i j hi hj)) .n)))))))) (by kernel_rfl)
            · have O1:Obl _:=(.c h5 (.c h6 (.c h7 (.c h8 (.c h9 (.c h10 .n))))))
              rcases Zaj hf with ⟨h11,hf⟩ | ⟨h11,hf⟩
              · obtain rfl:=oi hf
                exact Zdc Zak 21 [rz,rz,rz,rz,rz,rz,rA [(0,.c ([(0:Int),(4:Int)]:List Int).length (Zaq (cI .i64) (0:Int) ([(0:Int),(4:Int)]:List Int)))]] [false,false,false,false,false,false,true] ⟨[],[],[],[],[],[2],[33],[(33,99999)]⟩ (O1.app (.c h11 (.c (show ([(0:Int),(4:Int)]:List Int).length = 2 from rfl) (.c (show ∀ i j,i < 2→j < 1→Zaq (cI .i64) (0:Int) ([(0:Int),(4:Int)]:List Int) i j = (([(0:Int),(4:Int)]:List Int).flatMap (cI .i64)).getD (i * 1 + j) .junk from (fun i j hi hj =>ZaS (sz:=1) (e:=(cI .i64)) (d:=(0:Int)) (fun _ =>rfl) ([(0:Int),(4:Int)]:List Int) i j hi hj)) .n)))) (by kernel_rfl)
              · obtain rfl:=oi hf
                exact Zdc Zak 23 [rz,rz,rz,rz,rz,rz,rz] [false,false,false,false,false,false,false] ⟨[],[],[],[],[(2,99999,181,1,Zaq (cI .i64) (0:Int) [])],[2],[99999],[]⟩ (O1.app (.c h11 .n)) (by kernel_rfl)
def Zhy   (v3:Int) (v4:Bool):Option (List Int) :=
  bif v4 then
    some ([(0:Int),(3:Int)]:List Int)
  else
    bif (v3 == (2:Int)) then
      some ([(0:Int)]:List Int)
    else
      bif (v3 == (3:Int)) then
        ZiN v3  (v3 == (3:Int))
      else
        ZiN v3  (v3 == (9:Int))
theorem ZiO (S0:Nat→Prop) (w0:Zbh)   (v3:Int) (v4:Bool) (r:(List Int)) (hf:Zhy   v3 v4 = some r):Good Tryz.prog 34 S0 w0 (bodyPost Tryz.prog Tryz.f134 (Zdj S0 w0 [(99999,.rows 181 1 r.length (Zaq (cI .i64) (0:Int) r))] (.one (.osl 99999 r.length)))) (at_ [1,0,1,0,1] (ZbM Tryz.f134)) ⟨[(3,.one (.lit (.int .i64 v3))),(4,.one (.lit (.bool v4)))],[]⟩:=by
  unfold Zhy at hf
  rcases Zaj hf with ⟨h2,hf⟩ | ⟨h2,hf⟩
  · obtain rfl:=oi hf
    exact Zdc Zak 3 [rA [(0,.c ([(0:Int),(3:Int)]:List Int).length (Zaq (cI .i64) (0:Int) ([(0:Int),(3:Int)]:List Int)))]] [true] ⟨[],[],[],[],[],[2],[8],[(8,99999)]⟩ (.c h2 (.c (show ([(0:Int),(3:Int)]:List Int).length = 2 from rfl) (.c (show ∀ i j,i < 2→j < 1→Zaq (cI .i64) (0:Int) ([(0:Int),(3:Int)]:List Int) i j = (([(0:Int),(3:Int)]:List Int).flatMap (cI .i64)).getD (i * 1 + j) .junk from (fun i j hi hj =>ZaS (sz:=1) (e:=(cI .i64)) (d:=(0:Int)) (fun _ =>rfl) ([(0:Int),(3:Int)]:List Int) i j hi hj)) .n))) (by kernel_rfl)
  · rcases Zaj hf with ⟨h3,hf⟩ | ⟨h3,hf⟩
    · obtain rfl:=oi hf
      exact Zdc Zak 6 [rz,rA [(0,.c ([(0:Int)]:List Int).length (Zaq (cI .i64) (0:Int) ([(0:Int)]:List Int)))]] [false,true] ⟨[],[],[],[],[],[2],[11],[(11,99999)]⟩ (.c h2 (.c h3 (.c (show ([(0:Int)]:List Int).length = 1 from rfl) (.c (show ∀ i j,i < 1→j < 1→Zaq (cI .i64) (0:Int) ([(0:Int)]:List Int) i j = (([(0:Int)]:List Int).flatMap (cI .i64)).getD (i * 1 + j) .junk from (fun i j hi hj =>ZaS (sz:=1) (e:=(cI .i64)) (d:=(0:Int)) (fun _ =>rfl) ([(0:Int)]:List Int) i j hi hj)) .n)))) (by kernel_rfl)
    · rcases Zaj hf with ⟨h4,hf⟩ | ⟨h4,hf⟩
      · exact ZaI Zak Zdj.ends 9 [rz,rz] [false,false,true] ⟨[],[],[],[],[],[3,12],[],[]⟩ (.c h2 (.c h3 (.c h4 .n))) (by kernel_rfl) (ZkT S0 w0 v3   (v3 == (3:Int)) r hf)
      · exact ZaI Zak Zdj.ends 9 [rz,rz,rz] [false,false,false] ⟨[],[],[],[],[],[3,12],[],[]⟩ (.c h2 (.c h3 (.c h4 .n))) (by kernel_rfl) (ZkT S0 w0 v3   (v3 == (9:Int)) r hf)
def Zit (a0:Int):Option (List Int) :=
  bif (a0 == (1:Int)) then
    Zhy   a0 (a0 == (1:Int))
  else
    bif (a0 == (12:Int)) then
      Zhy   a0 (a0 == (12:Int))
    else
      Zhy   a0 (a0 == (13:Int))
theorem Zqm (a0:Int) (r:(List Int)) (hf:Zit a0 = some r):ZdL Tryz.prog 134 [] [.one (.lit (.int .i64 a0))] [(99999,.rows 181 1 r.length (Zaq (cI .i64) (0:Int) r))] (.one (.osl 99999 r.length)):=by
  refine ZdL.of Tryz.func134 rfl rfl rfl rfl fun S0 w0 =>?_
  unfold Zit at hf
  rcases Zaj hf with ⟨h1,hf⟩ | ⟨h1,hf⟩
  · exact ZaI Zak Zdj.ends 11 [rz,rz,rz] [true] ⟨[],[],[],[],[],[3,4],[],[]⟩ (.c h1 .n) (by kernel_rfl) (ZiO S0 w0    a0 (a0 == (1:Int)) r hf)
  · rcases Zaj hf with ⟨h2,hf⟩ | ⟨h2,hf⟩
    · exact ZaI Zak Zdj.ends 14 [rz,rz,rz,rz] [false,true] ⟨[],[],[],[],[],[3,4],[],[]⟩ (.c h1 (.c h2 .n)) (by kernel_rfl) (ZiO S0 w0    a0 (a0 == (12:Int)) r hf)
    · exact ZaI Zak Zdj.ends 14 [rz,rz,rz,rz,rz] [false,false] ⟨[],[],[],[],[],[3,4],[],[]⟩ (.c h1 (.c h2 .n)) (by kernel_rfl) (ZiO S0 w0    a0 (a0 == (13:Int)) r hf)
theorem ZrF (a0:Int) (r:(List Int)) (hf:Zit a0 = some r):Zat Tryz.prog 134 [.one (.lit (.int .i64 a0))] (.one (cL 1 (cI .i64) (0:Int) r)):=(Zqm a0 r hf).pure
def ZlK (a0:Int):Option Zag :=
  some (Zag.mk false (0:Int) (IntKind.wrap .u64 a0))
theorem Zqa (a0:Int) (r:Zag) (hf:ZlK a0 = some r):Zat Tryz.prog 282 [.one (.lit (.int .u32 a0))] (.agg (Zag.c r)):=by
  refine Zat.of Tryz.func282 rfl rfl rfl rfl fun S0 w0 =>?_
  unfold ZlK at hf
  obtain rfl:=oi hf
  exact Zai Zak 4 [rz,rz] [] [] [] [] .n (by kernel_rfl) rfl
def Zph (a0:Int) (a1:Int):Option Zag :=
  bif (a0 == (0:Int)) then
    bif ((Int.fdiv a1 (2 ^ (min (32:Int).toNat (IntKind.bits .u64)))) == (65535:Int)) then
      (ZlK (IntKind.wrap .u32 (IntKind.wrap .u64 (((BitVec.ofInt (IntKind.bits .u64) a1) &&& (BitVec.ofInt (IntKind.bits .u64) (4294967295:Int))).toNat:Int)))).bind fun x1 =>
      some x1
    else
      some (Zag.mk true a0 a1)
  else
    some (Zag.mk true a0 a1)
theorem ZuY (a0:Int) (a1:Int) (r:Zag) (hf:Zph a0 a1 = some r):Zat Tryz.prog 281 [.one (.lit (.int .u64 a0)),.one (.lit (.int .u64 a1))] (.agg (Zag.c r)):=by
  refine Zat.of Tryz.func281 rfl rfl rfl rfl fun S0 w0 =>?_
  unfold Zph at hf
  rcases Zaj hf with ⟨h1,hf⟩ | ⟨h1,hf⟩
  · have O1:Obl _:=(.c h1 (.c (show 0≤(32:Int) from (by decide)) .n))
    rcases Zaj hf with ⟨h2,hf⟩ | ⟨h2,hf⟩
    · obtain ⟨x1,q3,hf⟩:=bind_some' hf
      obtain rfl:=oi hf
      exact Zai Zak 8 [rz,rB [(2,true)],rA [(3,aG (Zag.c x1))]] [true] [] [] [] (O1.app (.c h2 (.c (Zqa _ _ q3) .n))) (by kernel_rfl) rfl
    · obtain rfl:=oi hf
      exact Zai Zak 9 [rz,rB [(2,true)],rz] [false] [] [] [] (O1.app (.c h2 .n)) (by kernel_rfl) rfl
  · obtain rfl:=oi hf
    exact Zai Zak 9 [rz,rB [(2,false)],rz] [false] [] [] [] (.c h1 (.c (show false = false from rfl) .n)) (by kernel_rfl) rfl
def Zfl (a0:Zag):Option Bool :=
  bif a0.fV6 then
    (Zph a0.fHi a0.fLo).bind fun x1 =>
    some (decide (x1 = a0))
  else
    (ZlK (IntKind.wrap .u32 (IntKind.wrap .u64 (((BitVec.ofInt (IntKind.bits .u64) a0.fLo) &&& (BitVec.ofInt (IntKind.bits .u64) (4294967295:Int))).toNat:Int)))).bind fun x2 =>
    some (decide (x2 = a0))
theorem ZdA (a0:Zag) (r:Bool) (hf:Zfl a0 = some r):Zat Tryz.prog 215 [.agg (Zag.c a0)] (.one (.lit (.bool r))):=by
  refine Zat.of Tryz.func215 rfl rfl rfl rfl fun S0 w0 =>?_
  unfold Zfl at hf
  rcases Zaj hf with ⟨h1,hf⟩ | ⟨h1,hf⟩
  · obtain ⟨x1,q2,hf⟩:=bind_some' hf
    obtain rfl:=oi hf
    exact Zai Zak 8 [rz,rz,rA [(4,aG (Zag.c x1)),(6,aB (decide (x1 = a0)))]] [true] [] [] [] (.c h1 (.c (ZuY _ _ _ q2) (.c (Zjp x1 a0 (.tmp 9) (.tmp 10)) .n))) (by kernel_rfl) rfl
  · obtain ⟨x2,q3,hf⟩:=bind_some' hf
    obtain rfl:=oi hf
    exact Zai Zak 9 [rz,rz,rA [(4,aG (Zag.c x2)),(6,aB (decide (x2 = a0)))]] [false] [] [] [] (.c h1 (.c (Zqa _ _ q3) (.c (Zjp x2 a0 (.tmp 16) (.tmp 17)) .n))) (by kernel_rfl) rfl
def Zjy (a0:Zaf):Option Bool :=
  (Zfl a0.fAddr).bind fun x1 =>
  bif x1 then
    bif (decide (a0.fPort ≥ (1:Int))) then
      some (decide (a0.fPort≤(65535:Int)))
    else
      some false
  else
    some false
theorem ZrC (a0:Zaf) (r:Bool) (hf:Zjy a0 = some r):Zat Tryz.prog 213 [.agg (Zaf.c a0)] (.one (.lit (.bool r))):=by
  refine Zat.of Tryz.func213 rfl rfl rfl rfl fun S0 w0 =>?_
  unfold Zjy at hf
  obtain ⟨x1,q1,hf⟩:=bind_some' hf
  rcases Zaj hf with ⟨h2,hf⟩ | ⟨h2,hf⟩
  · rcases Zaj hf with ⟨h3,hf⟩ | ⟨h3,hf⟩
    · obtain rfl:=oi hf
      exact Zai Zak 4 [rz,⟨[(2,aB x1)],[(3,true),(8,true)],[],[],[],[],[]⟩] [] [] [] [] (.c (ZdA _ _ q1) (.c h2 (.c h3 .n))) (by kernel_rfl) rfl
    · obtain rfl:=oi hf
      exact Zai Zak 4 [rz,⟨[(2,aB x1)],[(3,true),(8,false)],[],[],[],[],[]⟩] [] [] [] [] (.c (ZdA _ _ q1) (.c h2 (.c h3 .n))) (by kernel_rfl) rfl
  · obtain rfl:=oi hf
    exact Zai Zak 4 [rz,⟨[(2,aB x1)],[(3,false)],[],[],[],[],[]⟩] [] [] [] [] (.c (ZdA _ _ q1) (.c h2 .n)) (by kernel_rfl) rfl
def ZgT (a0:Zag):Option Int :=
  bif a0.fV6 then
    some (128:Int)
  else
    some (32:Int)
theorem Zll (a0:Zag) (r:Int) (hf:ZgT a0 = some r):Zat Tryz.prog 293 [.agg (Zag.c a0)] (.one (.lit (.int .i64 r))):=by
  refine Zat.of Tryz.func293 rfl rfl rfl rfl fun S0 w0 =>?_
  unfold ZgT at hf
  rcases Zaj hf with ⟨h1,hf⟩ | ⟨h1,hf⟩
  · obtain rfl:=oi hf
    exact Zai Zak 8 [rz,rz,rz] [true] [] [] [] (.c h1 .n) (by kernel_rfl) rfl
  · obtain rfl:=oi hf
    exact Zai Zak 9 [rz,rz,rz] [false] [] [] [] (.c h1 .n) (by kernel_rfl) rfl
def ZfO (a0:Int):Option Int :=
  some (IntKind.wrap .u64 (((BitVec.ofInt (IntKind.bits .u64) (Int.fdiv (IntKind.wrap .u64 (((BitVec.ofInt (IntKind.bits .u64) (IntKind.wrap .u64 (((BitVec.ofInt (IntKind.bits .u64) (Int.fdiv (IntKind.wrap .u64 (((BitVec.ofInt (IntKind.bits .u64) (IntKind.wrap .u64 (((BitVec.ofInt (IntKind.bits .u64) (Int.fdiv a0 (2 ^ (min (8:Int).toNat (IntKind.bits .u64))))) &&& (BitVec.ofInt (IntKind.bits .u64) (71777214294589695:Int))).toNat:Int))) ||| (BitVec.ofInt (IntKind.bits .u64) (IntKind.wrap .u64 ((IntKind.wrap .u64 (((BitVec.ofInt (IntKind.bits .u64) a0) &&& (BitVec.ofInt (IntKind.bits .u64) (71777214294589695:Int))).toNat:Int)) * 2 ^ (min (8:Int).toNat (IntKind.bits .u64)))))).toNat:Int)) (2 ^ (min (16:Int).toNat (IntKind.bits .u64))))) &&& (BitVec.ofInt (IntKind.bits .u64) (281470681808895:Int))).toNat:Int))) ||| (BitVec.ofInt (IntKind.bits .u64) (IntKind.wrap .u64 ((IntKind.wrap .u64 (((BitVec.ofInt (IntKind.bits .u64) (IntKind.wrap .u64 (((BitVec.ofInt (IntKind.bits .u64) (IntKind.wrap .u64 (((BitVec.ofInt (IntKind.bits .u64) (Int.fdiv a0 (2 ^ (min (8:Int).toNat (IntKind.bits .u64))))) &&& (BitVec.ofInt (IntKind.bits .u64) (71777214294589695:Int))).toNat:Int))) ||| (BitVec.ofInt (IntKind.bits .u64) (IntKind.wrap .u64 ((IntKind.wrap .u64 (((BitVec.ofInt (IntKind.bits .u64) a0) &&& (BitVec.ofInt (IntKind.bits .u64) (71777214294589695:Int))).toNat:Int)) * 2 ^ (min (8:Int).toNat (IntKind.bits .u64)))))).toNat:Int))) &&& (BitVec.ofInt (IntKind.bits .u64) (281470681808895:Int))).toNat:Int)) * 2 ^ (min (16:Int).toNat (IntKind.bits .u64)))))).toNat:Int)) (2 ^ (min (32:Int).toNat (IntKind.bits .u64))))) ||| (BitVec.ofInt (IntKind.bits .u64) (IntKind.wrap .u64 ((IntKind.wrap .u64 (((BitVec.ofInt (IntKind.bits .u64) (IntKind.wrap .u64 (((BitVec.ofInt (IntKind.bits .u64) (Int.fdiv (IntKind.wrap .u64 (((BitVec.ofInt (IntKind.bits .u64) (IntKind.wrap .u64 (((BitVec.ofInt (IntKind.bits .u64) (Int.fdiv a0 (2 ^ (min (8:Int).toNat (IntKind.bits .u64))))) &&& (BitVec.ofInt (IntKind.bits .u64) (71777214294589695:Int))).toNat:Int))) ||| (BitVec.ofInt (IntKind.bits .u64) (IntKind.wrap .u64 ((IntKind.wrap .u64 (((BitVec.ofInt (IntKind.bits .u64) a0) &&& (BitVec.ofInt (IntKind.bits .u64) (71777214294589695:Int))).toNat:Int)) * 2 ^ (min (8:Int).toNat (IntKind.bits .u64)))))).toNat:Int)) (2 ^ (min (16:Int).toNat (IntKind.bits .u64))))) &&& (BitVec.ofInt (IntKind.bits .u64) (281470681808895:Int))).toNat:Int))) ||| (BitVec.ofInt (IntKind.bits .u64) (IntKind.wrap .u64 ((IntKind.wrap .u64 (((BitVec.ofInt (IntKind.bits .u64) (IntKind.wrap .u64 (((BitVec.ofInt (IntKind.bits .u64) (IntKind.wrap .u64 (((BitVec.ofInt (IntKind.bits .u64) (Int.fdiv a0 (2 ^ (min (8:Int).toNat (IntKind.bits .u64))))) &&& (BitVec.ofInt (IntKind.bits .u64) (71777214294589695:Int))).toNat:Int))) ||| (BitVec.ofInt (IntKind.bits .u64) (IntKind.wrap .u64 ((IntKind.wrap .u64 (((BitVec.ofInt (IntKind.bits .u64) a0) &&& (BitVec.ofInt (IntKind.bits .u64) (71777214294589695:Int))).toNat:Int)) * 2 ^ (min (8:Int).toNat (IntKind.bits .u64)))))).toNat:Int))) &&& (BitVec.ofInt (IntKind.bits .u64) (281470681808895:Int))).toNat:Int)) * 2 ^ (min (16:Int).toNat (IntKind.bits .u64)))))).toNat:Int)) * 2 ^ (min (32:Int).toNat (IntKind.bits .u64)))))).toNat:Int))
theorem ZjK (a0:Int) (r:Int) (hf:ZfO a0 = some r):Zat Tryz.prog 414 [.one (.lit (.int .u64 a0))] (.one (.lit (.int .u64 r))):=by
  refine Zat.of Tryz.func414 rfl rfl rfl rfl fun S0 w0 =>?_
  unfold ZfO at hf
  obtain rfl:=oi hf
  exact Zai Zak 8 [rz,rz,rz,rz] [] [] [] [] (.c (show 0≤(8:Int) from (by decide)) (.c (show 0≤(8:Int) from (by decide)) (.c (show 0≤(16:Int) from (by decide)) (.c (show 0≤(16:Int) from (by decide)) (.c (show 0≤(32:Int) from (by decide)) (.c (show 0≤(32:Int) from (by decide)) .n)))))) (by kernel_rfl) rfl
def Zhr (a0:Int):Option Int :=
  (ZfO (IntKind.wrap .u64 (((BitVec.ofInt (IntKind.bits .u64) (IntKind.wrap .u64 (((BitVec.ofInt (IntKind.bits .u64) (Int.fdiv (IntKind.wrap .u64 (((BitVec.ofInt (IntKind.bits .u64) (IntKind.wrap .u64 (((BitVec.ofInt (IntKind.bits .u64) (Int.fdiv (IntKind.wrap .u64 (((BitVec.ofInt (IntKind.bits .u64) (IntKind.wrap .u64 (((BitVec.ofInt (IntKind.bits .u64) (Int.fdiv a0 (2 ^ (min (1:Int).toNat (IntKind.bits .u64))))) &&& (BitVec.ofInt (IntKind.bits .u64) (6148914691236517205:Int))).toNat:Int))) ||| (BitVec.ofInt (IntKind.bits .u64) (IntKind.wrap .u64 ((IntKind.wrap .u64 (((BitVec.ofInt (IntKind.bits .u64) a0) &&& (BitVec.ofInt (IntKind.bits .u64) (6148914691236517205:Int))).toNat:Int)) * 2 ^ (min (1:Int).toNat (IntKind.bits .u64)))))).toNat:Int)) (2 ^ (min (2:Int).toNat (IntKind.bits .u64))))) &&& (BitVec.ofInt (IntKind.bits .u64) (3689348814741910323:Int))).toNat:Int))) ||| (BitVec.ofInt (IntKind.bits .u64) (IntKind.wrap .u64 ((IntKind.wrap .u64 (((BitVec.ofInt (IntKind.bits .u64) (IntKind.wrap .u64 (((BitVec.ofInt (IntKind.bits .u64) (IntKind.wrap .u64 (((BitVec.ofInt (IntKind.bits .u64) (Int.fdiv a0 (2 ^ (min (1:Int).toNat (IntKind.bits .u64))))) &&& (BitVec.ofInt (IntKind.bits .u64) (6148914691236517205:Int))).toNat:Int))) ||| (BitVec.ofInt (IntKind.bits .u64) (IntKind.wrap .u64 ((IntKind.wrap .u64 (((BitVec.ofInt (IntKind.bits .u64) a0) &&& (BitVec.ofInt (IntKind.bits .u64) (6148914691236517205:Int))).toNat:Int)) * 2 ^ (min (1:Int).toNat (IntKind.bits .u64)))))).toNat:Int))) &&& (BitVec.ofInt (IntKind.bits .u64) (3689348814741910323:Int))).toNat:Int)) * 2 ^ (min (2:Int).toNat (IntKind.bits .u64)))))).toNat:Int)) (2 ^ (min (4:Int).toNat (IntKind.bits .u64))))) &&& (BitVec.ofInt (IntKind.bits .u64) (1085102592571150095:Int))).toNat:Int))) ||| (BitVec.ofInt (IntKind.bits .u64) (IntKind.wrap .u64 ((IntKind.wrap .u64 (((BitVec.ofInt (IntKind.bits .u64) (IntKind.wrap .u64 (((BitVec.ofInt (IntKind.bits .u64) (IntKind.wrap .u64 (((BitVec.ofInt (IntKind.bits .u64) (Int.fdiv (IntKind.wrap .u64 (((BitVec.ofInt (IntKind.bits .u64) (IntKind.wrap .u64 (((BitVec.ofInt (IntKind.bits .u64) (Int.fdiv a0 (2 ^ (min (1:Int).toNat (IntKind.bits .u64))))) &&& (BitVec.ofInt (IntKind.bits .u64) (6148914691236517205:Int))).toNat:Int))) ||| (BitVec.ofInt (IntKind.bits .u64) (IntKind.wrap .u64 ((IntKind.wrap .u64 (((BitVec.ofInt (IntKind.bits .u64) a0) &&& (BitVec.ofInt (IntKind.bits .u64) (6148914691236517205:Int))).toNat:Int)) * 2 ^ (min (1:Int).toNat (IntKind.bits .u64)))))).toNat:Int)) (2 ^ (min (2:Int).toNat (IntKind.bits .u64))))) &&& (BitVec.ofInt (IntKind.bits .u64) (3689348814741910323:Int))).toNat:Int))) ||| (BitVec.ofInt (IntKind.bits .u64) (IntKind.wrap .u64 ((IntKind.wrap .u64 (((BitVec.ofInt (IntKind.bits .u64) (IntKind.wrap .u64 (((BitVec.ofInt (IntKind.bits .u64) (IntKind.wrap .u64 (((BitVec.ofInt (IntKind.bits .u64) (Int.fdiv a0 (2 ^ (min (1:Int).toNat (IntKind.bits .u64))))) &&& (BitVec.ofInt (IntKind.bits .u64) (6148914691236517205:Int))).toNat:Int))) ||| (BitVec.ofInt (IntKind.bits .u64) (IntKind.wrap .u64 ((IntKind.wrap .u64 (((BitVec.ofInt (IntKind.bits .u64) a0) &&& (BitVec.ofInt (IntKind.bits .u64) (6148914691236517205:Int))).toNat:Int)) * 2 ^ (min (1:Int).toNat (IntKind.bits .u64)))))).toNat:Int))) &&& (BitVec.ofInt (IntKind.bits .u64) (3689348814741910323:Int))).toNat:Int)) * 2 ^ (min (2:Int).toNat (IntKind.bits .u64)))))).toNat:Int))) &&& (BitVec.ofInt (IntKind.bits .u64) (1085102592571150095:Int))).toNat:Int)) * 2 ^ (min (4:Int).toNat (IntKind.bits .u64)))))).toNat:Int))).bind fun x1 =>
  some x1
theorem Zlx (a0:Int) (r:Int) (hf:Zhr a0 = some r):Zat Tryz.prog 400 [.one (.lit (.int .u64 a0))] (.one (.lit (.int .u64 r))):=by
  refine Zat.of Tryz.func400 rfl rfl rfl rfl fun S0 w0 =>?_
  unfold Zhr at hf
  obtain ⟨x1,q1,hf⟩:=bind_some' hf
  obtain rfl:=oi hf
  exact Zai Zak 10 [rz,rz,rz,rz,rA [(1,.r (.one (.lit (.int .u64 x1))) [])]] [] [] [] [] (.c (show 0≤(1:Int) from (by decide)) (.c (show 0≤(1:Int) from (by decide)) (.c (show 0≤(2:Int) from (by decide)) (.c (show 0≤(2:Int) from (by decide)) (.c (show 0≤(4:Int) from (by decide)) (.c (show 0≤(4:Int) from (by decide)) (.c (ZjK _ _ q1) .n))))))) (by kernel_rfl) rfl
def ZfU (a0:Int):Option Int :=
  need (0≤(if (64:Int) < (if (0:Int) > a0 then (0:Int) else a0) then (64:Int) else (if (0:Int) > a0 then (0:Int) else a0))) <|
  (Zhr (IntKind.wrap .u64 ((IntKind.wrap .u64 ((1:Int) * 2 ^ (min (if (64:Int) < (if (0:Int) > a0 then (0:Int) else a0) then (64:Int) else (if (0:Int) > a0 then (0:Int) else a0)).toNat (IntKind.bits .u64)))) - (1:Int)))).bind fun x1 =>
  some x1
theorem Zmo (a0:Int) (r:Int) (hf:ZfU a0 = some r):Zat Tryz.prog 378 [.one (.lit (.int .i64 a0))] (.one (.lit (.int .u64 r))):=by
  refine Zat.of Tryz.func378 rfl rfl rfl rfl fun S0 w0 =>?_
  unfold ZfU at hf
  obtain ⟨o1,hf⟩:=Zas hf
  obtain ⟨x1,q2,hf⟩:=bind_some' hf
  obtain rfl:=oi hf
  exact Zai Zak 6 [rz,rz,rA [(3,.r (.one (.lit (.int .u64 x1))) [])]] [] [] [] [] (.c o1 (.c (Zlx _ _ q2) .n)) (by kernel_rfl) rfl
def ZjU (a0:Int) (a1:Int) (a2:Int):Option (Int × Int) :=
  (ZfU a2).bind fun x1 =>
  (ZfU (Zja a2 (64:Int))).bind fun x2 =>
  some ((IntKind.wrap .u64 (((BitVec.ofInt (IntKind.bits .u64) a0) &&& (BitVec.ofInt (IntKind.bits .u64) x1)).toNat:Int)),(IntKind.wrap .u64 (((BitVec.ofInt (IntKind.bits .u64) a1) &&& (BitVec.ofInt (IntKind.bits .u64) x2)).toNat:Int)))
theorem Zql (a0:Int) (a1:Int) (a2:Int) (r:(Int × Int)) (hf:ZjU a0 a1 a2 = some r):Zat Tryz.prog 379 [.one (.lit (.int .u64 a0)),.one (.lit (.int .u64 a1)),.one (.lit (.int .i64 a2))] (.tup [(false,(cI .u64) r.1),(false,(cI .u64) r.2)]):=by
  refine Zat.of Tryz.func379 rfl rfl rfl rfl fun S0 w0 =>?_
  unfold ZjU at hf
  obtain ⟨x1,q1,hf⟩:=bind_some' hf
  obtain ⟨x2,q2,hf⟩:=bind_some' hf
  obtain rfl:=oi hf
  exact Zai Zak 4 [rz,rA [(2,.r (.one (.lit (.int .u64 x1))) []),(7,.r (.one (.lit (.int .u64 x2))) [])]] [] [] [] [] (.c (Zmo _ _ q1) (.c (Zmo _ _ q2) .n)) (by kernel_rfl) rfl
def Zil (a0:Zag) (a1:Int):Option Zag :=
  (Zfl a0).bind fun x1 =>
  bif (!x1) then
    some (Zag.mk false (0:Int) (0:Int))
  else
    (ZgT a0).bind fun x2 =>
    bif (!a0.fV6) then
      (ZfU (if x2 < (if (0:Int) > a1 then (0:Int) else a1) then x2 else (if (0:Int) > a1 then (0:Int) else a1))).bind fun x3 =>
      some (Zag.mk a0.fV6 a0.fHi (IntKind.wrap .u64 (((BitVec.ofInt (IntKind.bits .u64) a0.fLo) &&& (BitVec.ofInt (IntKind.bits .u64) (Int.fdiv x3 (2 ^ (min (32:Int).toNat (IntKind.bits .u64)))))).toNat:Int)))
    else
      (ZjU a0.fHi a0.fLo (if x2 < (if (0:Int) > a1 then (0:Int) else a1) then x2 else (if (0:Int) > a1 then (0:Int) else a1))).bind fun x4 =>
      some (Zag.mk a0.fV6 x4.1 x4.2)
theorem Zoe (a0:Zag) (a1:Int) (r:Zag) (hf:Zil a0 a1 = some r):Zat Tryz.prog 341 [.agg (Zag.c a0),.one (.lit (.int .i64 a1))] (.agg (Zag.c r)):=by
  refine Zat.of Tryz.func341 rfl rfl rfl rfl fun S0 w0 =>?_
  unfold Zil at hf
  obtain ⟨x1,q1,hf⟩:=bind_some' hf
  rcases Zaj hf with ⟨h2,hf⟩ | ⟨h2,hf⟩
  · obtain rfl:=oi hf
    exact Zai Zak 8 [rz,rA [(1,aB x1)],rz] [true] [] [] [] (.c (ZdA _ _ q1) (.c h2 .n)) (by kernel_rfl) rfl
  · obtain ⟨x2,q3,hf⟩:=bind_some' hf
    have O1:Obl _:=(.c (ZdA _ _ q1) (.c h2 (.c (Zll _ _ q3) .n)))
    rcases Zaj hf with ⟨h4,hf⟩ | ⟨h4,hf⟩
    · obtain ⟨x3,q5,hf⟩:=bind_some' hf
      obtain rfl:=oi hf
      exact Zai Zak 17 [rz,rA [(1,aB x1)],rA [(3,aI x2)],rz,rA [(3,.r (.one (.lit (.int .u64 x3))) [])],rz] [false,true] [] [] [] (O1.app (.c h4 (.c (Zmo _ _ q5) (.c (show 0≤(32:Int) from (by decide)) .n)))) (by kernel_rfl) rfl
    · obtain ⟨x4,q6,hf⟩:=bind_some' hf
      obtain rfl:=oi hf
      exact Zai Zak 18 [rz,rA [(1,aB x1)],rA [(3,aI x2)],rz,rA [(5,.r (.tup [(false,(cI .u64) x4.1),(false,(cI .u64) x4.2)]) [])],rz] [false,false] [] [] [] (O1.app (.c h4 (.c (Zql _ _ _ _ q6) .n))) (by kernel_rfl) rfl
def Zje (a0:Zag) (a1:Int):Option (Zap × Bool) :=
  (Zfl a0).bind fun x1 =>
  bif (!x1) then
    some ((Zap.mk (Zag.mk false (0:Int) (0:Int)) (0:Int)),false)
  else
    bif (decide (a1 < (0:Int))) then
      some ((Zap.mk (Zag.mk false (0:Int) (0:Int)) (0:Int)),false)
    else
      (ZgT a0).bind fun x2 =>
      bif (decide (a1 > x2)) then
        some ((Zap.mk (Zag.mk false (0:Int) (0:Int)) (0:Int)),false)
      else
        (Zil a0 a1).bind fun x3 =>
        some ((Zap.mk x3 a1),true)
theorem Zlj (a0:Zag) (a1:Int) (r:(Zap × Bool)) (hf:Zje a0 a1 = some r):Zat Tryz.prog 280 [.agg (Zag.c a0),.one (.lit (.int .i64 a1))] (.tup [(true,Zap.c r.1),(false,cB r.2)]):=by
  refine Zat.of Tryz.func280 rfl rfl rfl rfl fun S0 w0 =>?_
  unfold Zje at hf
  obtain ⟨x1,q1,hf⟩:=bind_some' hf
  rcases Zaj hf with ⟨h2,hf⟩ | ⟨h2,hf⟩
  · obtain rfl:=oi hf
    exact Zai Zak 8 [rz,⟨[(1,aB x1)],[(3,true)],[],[],[],[],[]⟩,rz] [true] [] [] [] (.c (ZdA _ _ q1) (.c h2 (.c (show true = true from rfl) .n))) (by kernel_rfl) rfl
  · rcases Zaj hf with ⟨h3,hf⟩ | ⟨h3,hf⟩
    · obtain rfl:=oi hf
      exact Zai Zak 8 [rz,⟨[(1,aB x1)],[(3,false),(7,true)],[],[],[],[],[]⟩,rz] [true] [] [] [] (.c (ZdA _ _ q1) (.c h2 (.c h3 (.c (show true = true from rfl) .n)))) (by kernel_rfl) rfl
    · obtain ⟨x2,q4,hf⟩:=bind_some' hf
      let R1:List RA:=[rz,⟨[(1,aB x1),(10,aI x2)],[(3,false),(7,false)],[],[],[],[],[]⟩]
      have O2:Obl _:=(.c (ZdA _ _ q1) (.c h2 (.c h3 (.c (Zll _ _ q4) .n))))
      rcases Zaj hf with ⟨h5,hf⟩ | ⟨h5,hf⟩
      · obtain rfl:=oi hf
        exact Zai Zak 8 (R1 ++ [rz]) [true] [] [] [] (O2.app (.c h5 .n)) (by kernel_rfl) rfl
      · obtain ⟨x3,q6,hf⟩:=bind_some' hf
        obtain rfl:=oi hf
        exact Zai Zak 9 (R1 ++ [rA [(2,aG (Zag.c x3))]]) [false] [] [] [] (O2.app (.c h5 (.c (Zoe _ _ _ q6) .n))) (by kernel_rfl) rfl
def Zhx (a0:Zap):Option Bool :=
  (Zje a0.fAddr a0.fBits).bind fun x1 =>
  bif x1.2 then
    some (decide (x1.1 = a0))
  else
    some false
theorem ZgG (a0:Zap) (r:Bool) (hf:Zhx a0 = some r):Zat Tryz.prog 214 [.agg (Zap.c a0)] (.one (.lit (.bool r))):=by
  refine Zat.of Tryz.func214 rfl rfl rfl rfl fun S0 w0 =>?_
  unfold Zhx at hf
  obtain ⟨x1,q1,hf⟩:=bind_some' hf
  let R1:List RA:=[rz,rA [(4,.r (.tup [(true,Zap.c x1.1),(false,cB x1.2)]) [])]]
  rcases Zaj hf with ⟨h2,hf⟩ | ⟨h2,hf⟩
  · obtain rfl:=oi hf
    exact Zai Zak 6 (R1 ++ [⟨[(4,aB (decide (x1.1 = a0)))],[(1,true)],[],[],[],[],[]⟩]) [] [] [] [] (.c (Zlj _ _ _ q1) (.c h2 (.c (ZjX x1.1 a0 (.tmp 15) (.tmp 16)) .n))) (by kernel_rfl) rfl
  · obtain rfl:=oi hf
    exact Zai Zak 6 (R1 ++ [rB [(1,false)]]) [] [] [] [] (.c (Zlj _ _ _ q1) (.c h2 .n)) (by kernel_rfl) rfl
def Zjg (a0:Int):Option (Int × Int) :=
  bif (a0 == (4:Int)) then
    some ((0:Int),(1073741824:Int))
  else
    bif (a0 == (5:Int)) then
      some ((1:Int),(5:Int))
    else
      bif (a0 == (6:Int)) then
        some ((1:Int),(1099511627776:Int))
      else
        some ((1:Int),(1048576:Int))
theorem Zsq (a0:Int) (r:(Int × Int)) (hf:Zjg a0 = some r):Zat Tryz.prog 216 [.one (.lit (.int .i64 a0))] (.tup [(false,(cI .i64) r.1),(false,(cI .i64) r.2)]):=by
  refine Zat.of Tryz.func216 rfl rfl rfl rfl fun S0 w0 =>?_
  unfold Zjg at hf
  rcases Zaj hf with ⟨h1,hf⟩ | ⟨h1,hf⟩
  · obtain rfl:=oi hf
    exact Zai Zak 11 [rz,rz,rz,rz] [true] [] [] [] (.c h1 .n) (by kernel_rfl) rfl
  · rcases Zaj hf with ⟨h2,hf⟩ | ⟨h2,hf⟩
    · obtain rfl:=oi hf
      exact Zai Zak 14 [rz,rz,rz,rz,rz] [false,true] [] [] [] (.c h1 (.c h2 .n)) (by kernel_rfl) rfl
    · rcases Zaj hf with ⟨h3,hf⟩ | ⟨h3,hf⟩
      · obtain rfl:=oi hf
        exact Zai Zak 17 [rz,rz,rz,rz,rz,rz] [false,false,true] [] [] [] (.c h1 (.c h2 (.c h3 .n))) (by kernel_rfl) rfl
      · obtain rfl:=oi hf
        exact Zai Zak 19 [rz,rz,rz,rz,rz,rz] [false,false,false] [] [] [] (.c h1 (.c h2 (.c h3 .n))) (by kernel_rfl) rfl
def ZjB (a0:Zaw) (a1:Int):Option Bool :=
  bif (a1 == (0:Int)) then
    (Zjy a0.fEnd).bind fun x1 =>
    some x1
  else
    bif (a1 == (1:Int)) then
      (Zhx a0.fNet).bind fun x2 =>
      some x2
    else
      bif (a1 == (2:Int)) then
        (Zfl a0.fEnd.fAddr).bind fun x3 =>
        some x3
      else
        bif (a1 == (3:Int)) then
          bif (decide (a0.fNow ≥ (0:Int))) then
            some (decide (a0.fNow≤(1099511627776:Int)))
          else
            some false
        else
          bif (a1 == (4:Int)) then
            (Zjg a0.fKind).bind fun x4 =>
            bif (decide (a0.fNum ≥ x4.1)) then
              some (decide (a0.fNum≤x4.2))
            else
              some false
          else
            some true
theorem ZrE (a0:Zaw) (a1:Int) (r:Bool) (hf:ZjB a0 a1 = some r):Zat Tryz.prog 135 [.agg (Zaw.c a0),.one (.lit (.int .i64 a1))] (.one (.lit (.bool r))):=by
  refine Zat.of Tryz.func135 rfl rfl rfl rfl fun S0 w0 =>?_
  unfold ZjB at hf
  rcases Zaj hf with ⟨h1,hf⟩ | ⟨h1,hf⟩
  · obtain ⟨x1,q2,hf⟩:=bind_some' hf
    obtain rfl:=oi hf
    exact Zai Zak 11 [rz,rz,rz,rA [(2,aB x1)]] [true] [] [] [] (.c h1 (.c (ZrC _ _ q2) .n)) (by kernel_rfl) rfl
  · rcases Zaj hf with ⟨h3,hf⟩ | ⟨h3,hf⟩
    · obtain ⟨x2,q4,hf⟩:=bind_some' hf
      obtain rfl:=oi hf
      exact Zai Zak 14 [rz,rz,rz,rz,rA [(2,aB x2)]] [false,true] [] [] [] (.c h1 (.c h3 (.c (ZgG _ _ q4) .n))) (by kernel_rfl) rfl
    · rcases Zaj hf with ⟨h5,hf⟩ | ⟨h5,hf⟩
      · obtain ⟨x3,q6,hf⟩:=bind_some' hf
        obtain rfl:=oi hf
        exact Zai Zak 17 [rz,rz,rz,rz,rz,rA [(3,aB x3)]] [false,false,true] [] [] [] (.c h1 (.c h3 (.c h5 (.c (ZdA _ _ q6) .n)))) (by kernel_rfl) rfl
      · rcases Zaj hf with ⟨h7,hf⟩ | ⟨h7,hf⟩
        · rcases Zaj hf with ⟨h8,hf⟩ | ⟨h8,hf⟩
          · obtain rfl:=oi hf
            exact Zai Zak 20 [rz,rz,rz,rz,rz,rz,rB [(3,true)]] [false,false,false,true] [] [] [] (.c h1 (.c h3 (.c h5 (.c h7 (.c h8 .n))))) (by kernel_rfl) rfl
          · obtain rfl:=oi hf
            exact Zai Zak 20 [rz,rz,rz,rz,rz,rz,rB [(3,false)]] [false,false,false,true] [] [] [] (.c h1 (.c h3 (.c h5 (.c h7 (.c h8 .n))))) (by kernel_rfl) rfl
        · rcases Zaj hf with ⟨h9,hf⟩ | ⟨h9,hf⟩
          · obtain ⟨x4,q10,hf⟩:=bind_some' hf
            let R1:List RA:=[rz,rz,rz,rz,rz,rz,rz,rA [(2,.r (.tup [(false,(cI .i64) x4.1),(false,(cI .i64) x4.2)]) [])]]
            have O2:Obl _:=(.c h1 (.c h3 (.c h5 (.c h7 (.c h9 (.c (Zsq _ _ q10) .n))))))
            rcases Zaj hf with ⟨h11,hf⟩ | ⟨h11,hf⟩
            · obtain rfl:=oi hf
              exact Zai Zak 25 (R1 ++ [rB [(4,true)]]) [false,false,false,false,true] [] [] [] (O2.app (.c h11 .n)) (by kernel_rfl) rfl
            · obtain rfl:=oi hf
              exact Zai Zak 25 (R1 ++ [rB [(4,false)]]) [false,false,false,false,true] [] [] [] (O2.app (.c h11 .n)) (by kernel_rfl) rfl
          · obtain rfl:=oi hf
            exact Zai Zak 25 [rz,rz,rz,rz,rz,rz,rz,rz] [false,false,false,false,false] [] [] [] (.c h1 (.c h3 (.c h5 (.c h7 (.c h9 .n))))) (by kernel_rfl) rfl
def Zea   : Nat→(List Int)→Int→Int→Zaw→Option Bool
  | 0,_,_,_,_ =>none
  | fu + 1,v11,v12,v13,b1 =>
    bif (decide (v13 < v12)) then
      need (0≤v13∧v13 < ((v11.length:Nat):Int)) <|
      (ZjB b1 (v11.getD v13.toNat (0:Int))).bind fun x3 =>
      bif (!x3) then
        some false
      else
        Zea   fu v11 v12 (ZaD v13 (1:Int)) b1
    else
      some true
theorem Zpg (S0:Nat→Prop) (w0:Zbh)   : ∀ (fu:Nat) (v11:(List Int)) (v12:Int) (v13:Int) (b1:Zaw) (r:Bool),Zea   fu v11 v12 v13 b1 = some r→Good Tryz.prog 22 S0 w0 (bodyPost Tryz.prog Tryz.f66 (Post S0 w0 (.one (.lit (.bool r))))) (at_ [1,1,0,1,0] (ZbM Tryz.f66)) ⟨[(1,.one (.ptr 1 0)),(11,.one (cL 1 (cI .i64) (0:Int) v11)),(12,.one (.lit (.int .i64 v12))),(13,.one (.lit (.int .i64 v13)))],[(1,.box [.lit (.int .i64 b1.fKind),.lit (.bool b1.fEnd.fAddr.fV6),.lit (.int .u64 b1.fEnd.fAddr.fHi),.lit (.int .u64 b1.fEnd.fAddr.fLo),.lit (.int .i64 b1.fEnd.fPort),.lit (.bool b1.fNet.fAddr.fV6),.lit (.int .u64 b1.fNet.fAddr.fHi),.lit (.int .u64 b1.fNet.fAddr.fLo),.lit (.int .i64 b1.fNet.fBits),.lit (.int .i64 b1.fNow),.lit (.int .i64 b1.fNum),.lit (.bool b1.fGood)])]⟩:=by
  intro fu
  induction fu with
  | zero =>
    intro v11 v12 v13 b1 r hf
    simp [Zea] at hf
  | succ fu ih =>
    intro v11 v12 v13 b1 r hf
    unfold Zea at hf
    rcases Zaj hf with ⟨h4,hf⟩ | ⟨h4,hf⟩
    · obtain ⟨o5,hf⟩:=Zas hf
      obtain ⟨x3,q6,hf⟩:=bind_some' hf
      have O1:Obl _:=(.c h4 (.c o5 (.c (ZrE _ _ _ q6) .n)))
      rcases Zaj hf with ⟨h7,hf⟩ | ⟨h7,hf⟩
      · obtain rfl:=oi hf
        exact Zai Zak 15 [rz,rz,rA [(2,aB x3)],rz] [true,true] [] [] [] (O1.app (.c h7 .n)) (by kernel_rfl) rfl
      · exact ZaI Zak Post.ends 17 [rz,rz,rA [(2,aB x3)],rz] [true,false] ⟨[],[],[],[],[],[1,11,12,13],[1],[]⟩ (O1.app (.c h7 .n)) (by kernel_rfl) (ih v11 v12 (ZaD v13 (1:Int)) b1 r hf)
    · obtain rfl:=oi hf
      exact Zai Zak 8 [rz,rz] [false] [] [] [] (.c h4 .n) (by kernel_rfl) rfl
def ZjC (a0:Zaw):Option Bool :=
  (Zku a0.fKind).bind fun x1 =>
  bif (x1.toList == (⟨#[]⟩ : ByteArray).toList) then
    some false
  else
    (Zit a0.fKind).bind fun x2 =>
    Zea   ((((x2.length:Nat):Int) - (0:Int)).toNat + 2) x2 ((x2.length:Nat):Int) (0:Int) a0
theorem Zkv (a0:Zaw) (r:Bool) (hf:ZjC a0 = some r):Zat Tryz.prog 66 [.agg (Zaw.c a0)] (.one (.lit (.bool r))):=by
  refine Zat.of Tryz.func66 rfl rfl rfl rfl fun S0 w0 =>?_
  unfold ZjC at hf
  obtain ⟨x1,q1,hf⟩:=bind_some' hf
  let R2:List RA:=[rz,rA [(2,.r (.one (.lit (.string x1))) [])]]
  rcases Zaj hf with ⟨h2,hf⟩ | ⟨h2,hf⟩
  · obtain rfl:=oi hf
    exact Zai Zak 8 (R2 ++ [rz]) [true] [] [] [] (.c (Zod _ _ q1) (.c h2 .n)) (by kernel_rfl) rfl
  · obtain ⟨x2,q3,hf⟩:=bind_some' hf
    exact ZaI Zak Post.ends 11 (R2 ++ [rA [(2,.r (.one (cL 1 (cI .i64) (0:Int) x2)) [])]]) [false] ⟨[],[],[],[],[],[1,11,12,13],[1],[]⟩ (.c (Zod _ _ q1) (.c h2 (.c (ZrF _ _ q3) .n))) (by kernel_rfl) (Zpg S0 w0    ((((x2.length:Nat):Int) - (0:Int)).toNat + 2) x2 ((x2.length:Nat):Int) (0:Int) a0 r hf)
def ZgO   (v4:Int) (v5:Bool) (b1:Zan) (b2:Zan):Option Zan :=
  bif v5 then
    some (Zan.mk b1.fKind (0:Int) (0:Int))
  else
    bif (v4 == (5:Int)) then
      some (Zan.mk b1.fKind b1.fShard (0:Int))
    else
      bif (v4 == (6:Int)) then
        some b1
      else
        some (Zan.mk (0:Int) (0:Int) (0:Int))
theorem Zic (S0:Nat→Prop) (w0:Zbh)   (v4:Int) (v5:Bool) (b1:Zan) (b2:Zan) (r:Zan) (hf:ZgO   v4 v5 b1 b2 = some r):Good Tryz.prog 24 S0 w0 (bodyPost Tryz.prog Tryz.f471 (Post S0 w0 (.agg (Zan.c r)))) (at_ [1,0,1,0,1] (ZbM Tryz.f471)) ⟨[(1,.one (.ptr 1 0)),(2,.one (.ptr 2 0)),(4,.one (.lit (.int .i64 v4))),(5,.one (.lit (.bool v5)))],[(1,.box [.lit (.int .i64 b1.fKind),.lit (.int .i64 b1.fShard),.lit (.int .i64 b1.fSlot)]),(2,.box [.lit (.int .i64 b2.fKind),.lit (.int .i64 b2.fShard),.lit (.int .i64 b2.fSlot)])]⟩:=by
  unfold ZgO at hf
  rcases Zaj hf with ⟨h2,hf⟩ | ⟨h2,hf⟩
  · obtain rfl:=oi hf
    exact Zai Zak 3 [rz] [true] [] [] [] (.c h2 .n) (by kernel_rfl) rfl
  · rcases Zaj hf with ⟨h3,hf⟩ | ⟨h3,hf⟩
    · obtain rfl:=oi hf
      exact Zai Zak 6 [rz,rz] [false,true] [] [] [] (.c h2 (.c h3 .n)) (by kernel_rfl) rfl
    · rcases Zaj hf with ⟨h4,hf⟩ | ⟨h4,hf⟩
      · obtain rfl:=oi hf
        exact Zai Zak 9 [rz,rz,rz] [false,false,true] [] [] [] (.c h2 (.c h3 (.c h4 .n))) (by kernel_rfl) rfl
      · obtain rfl:=oi hf
        exact Zai Zak 11 [rz,rz,rz] [false,false,false] [] [] [] (.c h2 (.c h3 (.c h4 .n))) (by kernel_rfl) rfl
def Zjd (a0:Zan):Option Zan :=
  bif (a0.fKind == (1:Int)) then
    ZgO   a0.fKind (a0.fKind == (1:Int)) a0 (Zan.mk (0:Int) (0:Int) (0:Int))
  else
    bif (a0.fKind == (2:Int)) then
      ZgO   a0.fKind (a0.fKind == (2:Int)) a0 (Zan.mk (0:Int) (0:Int) (0:Int))
    else
      bif (a0.fKind == (3:Int)) then
        ZgO   a0.fKind (a0.fKind == (3:Int)) a0 (Zan.mk (0:Int) (0:Int) (0:Int))
      else
        ZgO   a0.fKind (a0.fKind == (4:Int)) a0 (Zan.mk (0:Int) (0:Int) (0:Int))
theorem Zma (a0:Zan) (r:Zan) (hf:Zjd a0 = some r):Zat Tryz.prog 471 [.agg (Zan.c a0)] (.agg (Zan.c r)):=by
  refine Zat.of Tryz.func471 rfl rfl rfl rfl fun S0 w0 =>?_
  unfold Zjd at hf
  rcases Zaj hf with ⟨h1,hf⟩ | ⟨h1,hf⟩
  · exact ZaI Zak Post.ends 11 [rz,rz,rz] [true] ⟨[],[],[],[],[],[1,2,4,5],[1,2],[]⟩ (.c h1 .n) (by kernel_rfl) (Zic S0 w0    a0.fKind (a0.fKind == (1:Int)) a0 (Zan.mk (0:Int) (0:Int) (0:Int)) r hf)
  · rcases Zaj hf with ⟨h2,hf⟩ | ⟨h2,hf⟩
    · exact ZaI Zak Post.ends 14 [rz,rz,rz,rz] [false,true] ⟨[],[],[],[],[],[1,2,4,5],[1,2],[]⟩ (.c h1 (.c h2 .n)) (by kernel_rfl) (Zic S0 w0    a0.fKind (a0.fKind == (2:Int)) a0 (Zan.mk (0:Int) (0:Int) (0:Int)) r hf)
    · rcases Zaj hf with ⟨h3,hf⟩ | ⟨h3,hf⟩
      · exact ZaI Zak Post.ends 17 [rz,rz,rz,rz,rz] [false,false,true] ⟨[],[],[],[],[],[1,2,4,5],[1,2],[]⟩ (.c h1 (.c h2 (.c h3 .n))) (by kernel_rfl) (Zic S0 w0    a0.fKind (a0.fKind == (3:Int)) a0 (Zan.mk (0:Int) (0:Int) (0:Int)) r hf)
      · exact ZaI Zak Post.ends 17 [rz,rz,rz,rz,rz,rz] [false,false,false] ⟨[],[],[],[],[],[1,2,4,5],[1,2],[]⟩ (.c h1 (.c h2 (.c h3 .n))) (by kernel_rfl) (Zic S0 w0    a0.fKind (a0.fKind == (4:Int)) a0 (Zan.mk (0:Int) (0:Int) (0:Int)) r hf)
def ZhC   (v5:Int) (v6:Bool) (b3:Zae) (b4:Zae):Option Zae :=
  bif v6 then
    some (Zae.mk b3.fN (Zaa.mk (Zaf.mk (Zag.mk false (0:Int) (0:Int)) (0:Int)) false (0:Int) (Zah.mk (0:Int) (0:Int)) (0:Int) (0:Int)) ([]:(List Zab)) ([]:(List Zac)))
  else
    bif (v5 == (3:Int)) then
      some (Zae.mk (0:Int) (Zaa.mk (Zaf.mk (Zag.mk false (0:Int) (0:Int)) (0:Int)) false (0:Int) (Zah.mk (0:Int) (0:Int)) (0:Int) (0:Int)) b3.fBans ([]:(List Zac)))
    else
      bif (v5 == (4:Int)) then
        some (Zae.mk (0:Int) (Zaa.mk (Zaf.mk (Zag.mk false (0:Int) (0:Int)) (0:Int)) false (0:Int) (Zah.mk (0:Int) (0:Int)) (0:Int) (0:Int)) ([]:(List Zab)) b3.fBook)
      else
        bif (v5 == (6:Int)) then
          some (Zae.mk (0:Int) b3.fPeer ([]:(List Zab)) ([]:(List Zac)))
        else
          some (Zae.mk (0:Int) (Zaa.mk (Zaf.mk (Zag.mk false (0:Int) (0:Int)) (0:Int)) false (0:Int) (Zah.mk (0:Int) (0:Int)) (0:Int) (0:Int)) ([]:(List Zab)) ([]:(List Zac)))
theorem ZjJ (S0:Nat→Prop) (w0:Zbh)   (v5:Int) (v6:Bool) (b3:Zae) (b4:Zae) (r:Zae) (hf:ZhC   v5 v6 b3 b4 = some r):Good Tryz.prog 29 S0 w0 (bodyPost Tryz.prog Tryz.f472 (Post S0 w0 (.agg (Zae.c r)))) (at_ [1,0,1,0,1] (ZbM Tryz.f472)) ⟨[(3,.one (.ptr 3 0)),(4,.one (.ptr 4 0)),(5,.one (.lit (.int .i64 v5))),(6,.one (.lit (.bool v6)))],[(3,.box [.lit (.int .i64 b3.fN),.lit (.bool b3.fPeer.fEnd.fAddr.fV6),.lit (.int .u64 b3.fPeer.fEnd.fAddr.fHi),.lit (.int .u64 b3.fPeer.fEnd.fAddr.fLo),.lit (.int .i64 b3.fPeer.fEnd.fPort),.lit (.bool b3.fPeer.fIn),.lit (.int .i64 b3.fPeer.fSince),.lit (.int .i64 b3.fPeer.fScore.fPoints),.lit (.int .i64 b3.fPeer.fScore.fAt),.lit (.int .i64 b3.fPeer.fPing),.lit (.int .i64 b3.fPeer.fWork),cL 5 Zab.c Zab.d b3.fBans,cL 7 Zac.c Zac.d b3.fBook]),(4,.box [.lit (.int .i64 b4.fN),.lit (.bool b4.fPeer.fEnd.fAddr.fV6),.lit (.int .u64 b4.fPeer.fEnd.fAddr.fHi),.lit (.int .u64 b4.fPeer.fEnd.fAddr.fLo),.lit (.int .i64 b4.fPeer.fEnd.fPort),.lit (.bool b4.fPeer.fIn),.lit (.int .i64 b4.fPeer.fSince),.lit (.int .i64 b4.fPeer.fScore.fPoints),.lit (.int .i64 b4.fPeer.fScore.fAt),.lit (.int .i64 b4.fPeer.fPing),.lit (.int .i64 b4.fPeer.fWork),cL 5 Zab.c Zab.d b4.fBans,cL 7 Zac.c Zac.d b4.fBook])]⟩:=by
  unfold ZhC at hf
  rcases Zaj hf with ⟨h2,hf⟩ | ⟨h2,hf⟩
  · obtain rfl:=oi hf
    exact Zai Zak 3 [rz] [true] [] [(4,[(11,cL 5 Zab.c Zab.d []),(12,cL 7 Zac.c Zac.d [])])] [] (.c h2 .n) (by kernel_rfl) rfl
  · rcases Zaj hf with ⟨h3,hf⟩ | ⟨h3,hf⟩
    · obtain rfl:=oi hf
      exact Zai Zak 6 [rz,rz] [false,true] [] [(4,[(12,cL 7 Zac.c Zac.d [])])] [] (.c h2 (.c h3 .n)) (by kernel_rfl) rfl
    · rcases Zaj hf with ⟨h4,hf⟩ | ⟨h4,hf⟩
      · obtain rfl:=oi hf
        exact Zai Zak 9 [rz,rz,rz] [false,false,true] [] [(4,[(11,cL 5 Zab.c Zab.d [])])] [] (.c h2 (.c h3 (.c h4 .n))) (by kernel_rfl) rfl
      · rcases Zaj hf with ⟨h5,hf⟩ | ⟨h5,hf⟩
        · obtain rfl:=oi hf
          exact Zai Zak 12 [rz,rz,rz,rz] [false,false,false,true] [] [(4,[(11,cL 5 Zab.c Zab.d []),(12,cL 7 Zac.c Zac.d [])])] [] (.c h2 (.c h3 (.c h4 (.c h5 .n)))) (by kernel_rfl) rfl
        · obtain rfl:=oi hf
          exact Zai Zak 14 [rz,rz,rz,rz] [false,false,false,false] [] [(4,[(11,cL 5 Zab.c Zab.d []),(12,cL 7 Zac.c Zac.d [])])] [] (.c h2 (.c h3 (.c h4 (.c h5 .n)))) (by kernel_rfl) rfl
def Zlv (a0:Int) (a1:Zae):Option Zae :=
  bif (a0 == (1:Int)) then
    ZhC   a0 (a0 == (1:Int)) a1 (Zae.mk (0:Int) (Zaa.mk (Zaf.mk (Zag.mk false (0:Int) (0:Int)) (0:Int)) false (0:Int) (Zah.mk (0:Int) (0:Int)) (0:Int) (0:Int)) ([]:(List Zab)) ([]:(List Zac)))
  else
    bif (a0 == (2:Int)) then
      ZhC   a0 (a0 == (2:Int)) a1 (Zae.mk (0:Int) (Zaa.mk (Zaf.mk (Zag.mk false (0:Int) (0:Int)) (0:Int)) false (0:Int) (Zah.mk (0:Int) (0:Int)) (0:Int) (0:Int)) ([]:(List Zab)) ([]:(List Zac)))
    else
      ZhC   a0 (a0 == (5:Int)) a1 (Zae.mk (0:Int) (Zaa.mk (Zaf.mk (Zag.mk false (0:Int) (0:Int)) (0:Int)) false (0:Int) (Zah.mk (0:Int) (0:Int)) (0:Int) (0:Int)) ([]:(List Zab)) ([]:(List Zac)))
theorem ZtL (a0:Int) (a1:Zae) (r:Zae) (hf:Zlv a0 a1 = some r):Zat Tryz.prog 472 [.one (.lit (.int .i64 a0)),.agg (Zae.c a1)] (.agg (Zae.c r)):=by
  refine Zat.of Tryz.func472 rfl rfl rfl rfl fun S0 w0 =>?_
  unfold Zlv at hf
  rcases Zaj hf with ⟨h1,hf⟩ | ⟨h1,hf⟩
  · exact ZaI Zak Post.ends 11 [rz,rz,rz] [true] ⟨[],[(4,[(11,cL 5 Zab.c Zab.d []),(12,cL 7 Zac.c Zac.d [])])],[],[],[],[3,4,5,6],[3,4],[]⟩ (.c h1 .n) (by kernel_rfl) (ZjJ S0 w0    a0 (a0 == (1:Int)) a1 (Zae.mk (0:Int) (Zaa.mk (Zaf.mk (Zag.mk false (0:Int) (0:Int)) (0:Int)) false (0:Int) (Zah.mk (0:Int) (0:Int)) (0:Int) (0:Int)) ([]:(List Zab)) ([]:(List Zac))) r hf)
  · rcases Zaj hf with ⟨h2,hf⟩ | ⟨h2,hf⟩
    · exact ZaI Zak Post.ends 14 [rz,rz,rz,rz] [false,true] ⟨[],[(4,[(11,cL 5 Zab.c Zab.d []),(12,cL 7 Zac.c Zac.d [])])],[],[],[],[3,4,5,6],[3,4],[]⟩ (.c h1 (.c h2 .n)) (by kernel_rfl) (ZjJ S0 w0    a0 (a0 == (2:Int)) a1 (Zae.mk (0:Int) (Zaa.mk (Zaf.mk (Zag.mk false (0:Int) (0:Int)) (0:Int)) false (0:Int) (Zah.mk (0:Int) (0:Int)) (0:Int) (0:Int)) ([]:(List Zab)) ([]:(List Zac))) r hf)
    · exact ZaI Zak Post.ends 14 [rz,rz,rz,rz,rz] [false,false] ⟨[],[(4,[(11,cL 5 Zab.c Zab.d []),(12,cL 7 Zac.c Zac.d [])])],[],[],[],[3,4,5,6],[3,4],[]⟩ (.c h1 (.c h2 .n)) (by kernel_rfl) (ZjJ S0 w0    a0 (a0 == (5:Int)) a1 (Zae.mk (0:Int) (Zaa.mk (Zaf.mk (Zag.mk false (0:Int) (0:Int)) (0:Int)) false (0:Int) (Zah.mk (0:Int) (0:Int)) (0:Int) (0:Int)) ([]:(List Zab)) ([]:(List Zac))) r hf)
def ZgP   (v10:Int) (v12:Bool) (b1:Zao) (b2:Zao) (b3:Zao):Option Zao :=
  bif v12 then
    some (Zao.mk b3.fKind b1.fLock b3.fLoc b3.fOld b3.fNew b3.fVal b3.fMark)
  else
    bif (v10 == (5:Int)) then
      (Zjd b1.fLoc).bind fun x1 =>
      some (Zao.mk b3.fKind b3.fLock x1 b3.fOld b3.fNew b3.fVal b3.fMark)
    else
      bif (v10 == (6:Int)) then
        (Zjd b1.fLoc).bind fun x2 =>
        (Zlv b1.fLoc.fKind b1.fVal).bind fun x3 =>
        some (Zao.mk b3.fKind b3.fLock x2 b3.fOld b3.fNew x3 b3.fMark)
      else
        bif (v10 == (7:Int)) then
          (Zjd b1.fLoc).bind fun x4 =>
          some (Zao.mk b3.fKind b3.fLock x4 b1.fOld b1.fNew b3.fVal b3.fMark)
        else
          bif (v10 == (8:Int)) then
            some b3
          else
            some (Zao.mk (0:Int) (0:Int) (Zan.mk (0:Int) (0:Int) (0:Int)) (0:Int) (0:Int) (Zae.mk (0:Int) (Zaa.mk (Zaf.mk (Zag.mk false (0:Int) (0:Int)) (0:Int)) false (0:Int) (Zah.mk (0:Int) (0:Int)) (0:Int) (0:Int)) ([]:(List Zab)) ([]:(List Zac))) false)
theorem Zid (S0:Nat→Prop) (w0:Zbh)   (v10:Int) (v12:Bool) (b1:Zao) (b2:Zao) (b3:Zao) (r:Zao) (hf:ZgP   v10 v12 b1 b2 b3 = some r):Good Tryz.prog 54 S0 w0 (bodyPost Tryz.prog Tryz.f470 (Post S0 w0 (.agg (Zao.c r)))) (at_ [1,1,0,1,0,1] (ZbM Tryz.f470)) ⟨[(1,.one (.ptr 1 0)),(2,.one (.ptr 2 0)),(3,.one (.ptr 3 0)),(10,.one (.lit (.int .i64 v10))),(12,.one (.lit (.bool v12)))],[(1,.box [.lit (.int .i64 b1.fKind),.lit (.int .i64 b1.fLock),.lit (.int .i64 b1.fLoc.fKind),.lit (.int .i64 b1.fLoc.fShard),.lit (.int .i64 b1.fLoc.fSlot),.lit (.int .i64 b1.fOld),.lit (.int .i64 b1.fNew),.lit (.int .i64 b1.fVal.fN),.lit (.bool b1.fVal.fPeer.fEnd.fAddr.fV6),.lit (.int .u64 b1.fVal.fPeer.fEnd.fAddr.fHi),.lit (.int .u64 b1.fVal.fPeer.fEnd.fAddr.fLo),.lit (.int .i64 b1.fVal.fPeer.fEnd.fPort),.lit (.bool b1.fVal.fPeer.fIn),.lit (.int .i64 b1.fVal.fPeer.fSince),.lit (.int .i64 b1.fVal.fPeer.fScore.fPoints),.lit (.int .i64 b1.fVal.fPeer.fScore.fAt),.lit (.int .i64 b1.fVal.fPeer.fPing),.lit (.int .i64 b1.fVal.fPeer.fWork),cL 5 Zab.c Zab.d b1.fVal.fBans,cL 7 Zac.c Zac.d b1.fVal.fBook,.lit (.bool b1.fMark)]),(2,.box [.lit (.int .i64 b2.fKind),.lit (.int .i64 b2.fLock),.lit (.int .i64 b2.fLoc.fKind),.lit (.int .i64 b2.fLoc.fShard),.lit (.int .i64 b2.fLoc.fSlot),.lit (.int .i64 b2.fOld),.lit (.int .i64 b2.fNew),.lit (.int .i64 b2.fVal.fN),.lit (.bool b2.fVal.fPeer.fEnd.fAddr.fV6),.lit (.int .u64 b2.fVal.fPeer.fEnd.fAddr.fHi),.lit (.int .u64 b2.fVal.fPeer.fEnd.fAddr.fLo),.lit (.int .i64 b2.fVal.fPeer.fEnd.fPort),.lit (.bool b2.fVal.fPeer.fIn),.lit (.int .i64 b2.fVal.fPeer.fSince),.lit (.int .i64 b2.fVal.fPeer.fScore.fPoints),.lit (.int .i64 b2.fVal.fPeer.fScore.fAt),.lit (.int .i64 b2.fVal.fPeer.fPing),.lit (.int .i64 b2.fVal.fPeer.fWork),cL 5 Zab.c Zab.d b2.fVal.fBans,cL 7 Zac.c Zac.d b2.fVal.fBook,.lit (.bool b2.fMark)]),(3,.box [.lit (.int .i64 b3.fKind),.lit (.int .i64 b3.fLock),.lit (.int .i64 b3.fLoc.fKind),.lit (.int .i64 b3.fLoc.fShard),.lit (.int .i64 b3.fLoc.fSlot),.lit (.int .i64 b3.fOld),.lit (.int .i64 b3.fNew),.lit (.int .i64 b3.fVal.fN),.lit (.bool b3.fVal.fPeer.fEnd.fAddr.fV6),.lit (.int .u64 b3.fVal.fPeer.fEnd.fAddr.fHi),.lit (.int .u64 b3.fVal.fPeer.fEnd.fAddr.fLo),.lit (.int .i64 b3.fVal.fPeer.fEnd.fPort),.lit (.bool b3.fVal.fPeer.fIn),.lit (.int .i64 b3.fVal.fPeer.fSince),.lit (.int .i64 b3.fVal.fPeer.fScore.fPoints),.lit (.int .i64 b3.fVal.fPeer.fScore.fAt),.lit (.int .i64 b3.fVal.fPeer.fPing),.lit (.int .i64 b3.fVal.fPeer.fWork),cL 5 Zab.c Zab.d b3.fVal.fBans,cL 7 Zac.c Zac.d b3.fVal.fBook,.lit (.bool b3.fMark)])]⟩:=by
  unfold ZgP at hf
  rcases Zaj hf with ⟨h2,hf⟩ | ⟨h2,hf⟩
  · obtain rfl:=oi hf
    exact Zai Zak 5 [rz,rz] [true] [] [] [] (.c h2 .n) (by kernel_rfl) rfl
  · rcases Zaj hf with ⟨h3,hf⟩ | ⟨h3,hf⟩
    · obtain ⟨x1,q4,hf⟩:=bind_some' hf
      obtain rfl:=oi hf
      exact Zai Zak 8 [rz,rA [(2,aG (Zan.c x1))],rz] [false,true] [] [] [] (.c h2 (.c h3 (.c (Zma _ _ q4) .n))) (by kernel_rfl) rfl
    · rcases Zaj hf with ⟨h5,hf⟩ | ⟨h5,hf⟩
      · obtain ⟨x2,q6,hf⟩:=bind_some' hf
        obtain ⟨x3,q7,hf⟩:=bind_some' hf
        obtain rfl:=oi hf
        exact Zai Zak 11 [rz,rz,rA [(2,aG (Zan.c x2)),(8,aG (Zae.c x3))],rz] [false,false,true] [] [] [] (.c h2 (.c h3 (.c h5 (.c (Zma _ _ q6) (.c (ZtL _ _ _ q7) .n))))) (by kernel_rfl) rfl
      · rcases Zaj hf with ⟨h8,hf⟩ | ⟨h8,hf⟩
        · obtain ⟨x4,q9,hf⟩:=bind_some' hf
          obtain rfl:=oi hf
          exact Zai Zak 14 [rz,rz,rz,rA [(2,aG (Zan.c x4))],rz] [false,false,false,true] [] [] [] (.c h2 (.c h3 (.c h5 (.c h8 (.c (Zma _ _ q9) .n))))) (by kernel_rfl) rfl
        · rcases Zaj hf with ⟨h10,hf⟩ | ⟨h10,hf⟩
          · obtain rfl:=oi hf
            exact Zai Zak 17 [rz,rz,rz,rz,rz] [false,false,false,false,true] [] [] [] (.c h2 (.c h3 (.c h5 (.c h8 (.c h10 .n))))) (by kernel_rfl) rfl
          · obtain rfl:=oi hf
            exact Zai Zak 15 [rz,rz,rz,rz,rz] [false,false,false,false,false] [] [(2,[(18,cL 5 Zab.c Zab.d []),(19,cL 7 Zac.c Zac.d [])])] [] (.c h2 (.c h3 (.c h5 (.c h8 (.c h10 .n))))) (by kernel_rfl) rfl
def Zlw (a0:Zao):Option Zao :=
  bif (a0.fKind == (1:Int)) then
    ZgP   a0.fKind (a0.fKind == (1:Int)) a0 (Zao.mk (0:Int) (0:Int) (Zan.mk (0:Int) (0:Int) (0:Int)) (0:Int) (0:Int) (Zae.mk (0:Int) (Zaa.mk (Zaf.mk (Zag.mk false (0:Int) (0:Int)) (0:Int)) false (0:Int) (Zah.mk (0:Int) (0:Int)) (0:Int) (0:Int)) ([]:(List Zab)) ([]:(List Zac))) false) (Zao.mk a0.fKind (0:Int) (Zan.mk (0:Int) (0:Int) (0:Int)) (0:Int) (0:Int) (Zae.mk (0:Int) (Zaa.mk (Zaf.mk (Zag.mk false (0:Int) (0:Int)) (0:Int)) false (0:Int) (Zah.mk (0:Int) (0:Int)) (0:Int) (0:Int)) ([]:(List Zab)) ([]:(List Zac))) a0.fMark)
  else
    bif (a0.fKind == (2:Int)) then
      ZgP   a0.fKind (a0.fKind == (2:Int)) a0 (Zao.mk (0:Int) (0:Int) (Zan.mk (0:Int) (0:Int) (0:Int)) (0:Int) (0:Int) (Zae.mk (0:Int) (Zaa.mk (Zaf.mk (Zag.mk false (0:Int) (0:Int)) (0:Int)) false (0:Int) (Zah.mk (0:Int) (0:Int)) (0:Int) (0:Int)) ([]:(List Zab)) ([]:(List Zac))) false) (Zao.mk a0.fKind (0:Int) (Zan.mk (0:Int) (0:Int) (0:Int)) (0:Int) (0:Int) (Zae.mk (0:Int) (Zaa.mk (Zaf.mk (Zag.mk false (0:Int) (0:Int)) (0:Int)) false (0:Int) (Zah.mk (0:Int) (0:Int)) (0:Int) (0:Int)) ([]:(List Zab)) ([]:(List Zac))) a0.fMark)
    else
      bif (a0.fKind == (3:Int)) then
        ZgP   a0.fKind (a0.fKind == (3:Int)) a0 (Zao.mk (0:Int) (0:Int) (Zan.mk (0:Int) (0:Int) (0:Int)) (0:Int) (0:Int) (Zae.mk (0:Int) (Zaa.mk (Zaf.mk (Zag.mk false (0:Int) (0:Int)) (0:Int)) false (0:Int) (Zah.mk (0:Int) (0:Int)) (0:Int) (0:Int)) ([]:(List Zab)) ([]:(List Zac))) false) (Zao.mk a0.fKind (0:Int) (Zan.mk (0:Int) (0:Int) (0:Int)) (0:Int) (0:Int) (Zae.mk (0:Int) (Zaa.mk (Zaf.mk (Zag.mk false (0:Int) (0:Int)) (0:Int)) false (0:Int) (Zah.mk (0:Int) (0:Int)) (0:Int) (0:Int)) ([]:(List Zab)) ([]:(List Zac))) a0.fMark)
      else
        ZgP   a0.fKind (a0.fKind == (4:Int)) a0 (Zao.mk (0:Int) (0:Int) (Zan.mk (0:Int) (0:Int) (0:Int)) (0:Int) (0:Int) (Zae.mk (0:Int) (Zaa.mk (Zaf.mk (Zag.mk false (0:Int) (0:Int)) (0:Int)) false (0:Int) (Zah.mk (0:Int) (0:Int)) (0:Int) (0:Int)) ([]:(List Zab)) ([]:(List Zac))) false) (Zao.mk a0.fKind (0:Int) (Zan.mk (0:Int) (0:Int) (0:Int)) (0:Int) (0:Int) (Zae.mk (0:Int) (Zaa.mk (Zaf.mk (Zag.mk false (0:Int) (0:Int)) (0:Int)) false (0:Int) (Zah.mk (0:Int) (0:Int)) (0:Int) (0:Int)) ([]:(List Zab)) ([]:(List Zac))) a0.fMark)
theorem ZtM (a0:Zao) (r:Zao) (hf:Zlw a0 = some r):Zat Tryz.prog 470 [.agg (Zao.c a0)] (.agg (Zao.c r)):=by
  refine Zat.of Tryz.func470 rfl rfl rfl rfl fun S0 w0 =>?_
  unfold Zlw at hf
  rcases Zaj hf with ⟨h1,hf⟩ | ⟨h1,hf⟩
  · exact ZaI Zak Post.ends 13 [rz,rz,rz,rz] [true] ⟨[],[(2,[(18,cL 5 Zab.c Zab.d []),(19,cL 7 Zac.c Zac.d [])]),(3,[(18,cL 5 Zab.c Zab.d []),(19,cL 7 Zac.c Zac.d [])])],[],[],[],[1,2,3,10,12],[1,2,3],[]⟩ (.c h1 .n) (by kernel_rfl) (Zid S0 w0    a0.fKind (a0.fKind == (1:Int)) a0 (Zao.mk (0:Int) (0:Int) (Zan.mk (0:Int) (0:Int) (0:Int)) (0:Int) (0:Int) (Zae.mk (0:Int) (Zaa.mk (Zaf.mk (Zag.mk false (0:Int) (0:Int)) (0:Int)) false (0:Int) (Zah.mk (0:Int) (0:Int)) (0:Int) (0:Int)) ([]:(List Zab)) ([]:(List Zac))) false) (Zao.mk a0.fKind (0:Int) (Zan.mk (0:Int) (0:Int) (0:Int)) (0:Int) (0:Int) (Zae.mk (0:Int) (Zaa.mk (Zaf.mk (Zag.mk false (0:Int) (0:Int)) (0:Int)) false (0:Int) (Zah.mk (0:Int) (0:Int)) (0:Int) (0:Int)) ([]:(List Zab)) ([]:(List Zac))) a0.fMark) r hf)
  · rcases Zaj hf with ⟨h2,hf⟩ | ⟨h2,hf⟩
    · exact ZaI Zak Post.ends 16 [rz,rz,rz,rz,rz] [false,true] ⟨[],[(2,[(18,cL 5 Zab.c Zab.d []),(19,cL 7 Zac.c Zac.d [])]),(3,[(18,cL 5 Zab.c Zab.d []),(19,cL 7 Zac.c Zac.d [])])],[],[],[],[1,2,3,10,12],[1,2,3],[]⟩ (.c h1 (.c h2 .n)) (by kernel_rfl) (Zid S0 w0    a0.fKind (a0.fKind == (2:Int)) a0 (Zao.mk (0:Int) (0:Int) (Zan.mk (0:Int) (0:Int) (0:Int)) (0:Int) (0:Int) (Zae.mk (0:Int) (Zaa.mk (Zaf.mk (Zag.mk false (0:Int) (0:Int)) (0:Int)) false (0:Int) (Zah.mk (0:Int) (0:Int)) (0:Int) (0:Int)) ([]:(List Zab)) ([]:(List Zac))) false) (Zao.mk a0.fKind (0:Int) (Zan.mk (0:Int) (0:Int) (0:Int)) (0:Int) (0:Int) (Zae.mk (0:Int) (Zaa.mk (Zaf.mk (Zag.mk false (0:Int) (0:Int)) (0:Int)) false (0:Int) (Zah.mk (0:Int) (0:Int)) (0:Int) (0:Int)) ([]:(List Zab)) ([]:(List Zac))) a0.fMark) r hf)
    · rcases Zaj hf with ⟨h3,hf⟩ | ⟨h3,hf⟩
      · exact ZaI Zak Post.ends 19 [rz,rz,rz,rz,rz,rz] [false,false,true] ⟨[],[(2,[(18,cL 5 Zab.c Zab.d []),(19,cL 7 Zac.c Zac.d [])]),(3,[(18,cL 5 Zab.c Zab.d []),(19,cL 7 Zac.c Zac.d [])])],[],[],[],[1,2,3,10,12],[1,2,3],[]⟩ (.c h1 (.c h2 (.c h3 .n))) (by kernel_rfl) (Zid S0 w0    a0.fKind (a0.fKind == (3:Int)) a0 (Zao.mk (0:Int) (0:Int) (Zan.mk (0:Int) (0:Int) (0:Int)) (0:Int) (0:Int) (Zae.mk (0:Int) (Zaa.mk (Zaf.mk (Zag.mk false (0:Int) (0:Int)) (0:Int)) false (0:Int) (Zah.mk (0:Int) (0:Int)) (0:Int) (0:Int)) ([]:(List Zab)) ([]:(List Zac))) false) (Zao.mk a0.fKind (0:Int) (Zan.mk (0:Int) (0:Int) (0:Int)) (0:Int) (0:Int) (Zae.mk (0:Int) (Zaa.mk (Zaf.mk (Zag.mk false (0:Int) (0:Int)) (0:Int)) false (0:Int) (Zah.mk (0:Int) (0:Int)) (0:Int) (0:Int)) ([]:(List Zab)) ([]:(List Zac))) a0.fMark) r hf)
      · exact ZaI Zak Post.ends 19 [rz,rz,rz,rz,rz,rz,rz] [false,false,false] ⟨[],[(2,[(18,cL 5 Zab.c Zab.d []),(19,cL 7 Zac.c Zac.d [])]),(3,[(18,cL 5 Zab.c Zab.d []),(19,cL 7 Zac.c Zac.d [])])],[],[],[],[1,2,3,10,12],[1,2,3],[]⟩ (.c h1 (.c h2 (.c h3 .n))) (by kernel_rfl) (Zid S0 w0    a0.fKind (a0.fKind == (4:Int)) a0 (Zao.mk (0:Int) (0:Int) (Zan.mk (0:Int) (0:Int) (0:Int)) (0:Int) (0:Int) (Zae.mk (0:Int) (Zaa.mk (Zaf.mk (Zag.mk false (0:Int) (0:Int)) (0:Int)) false (0:Int) (Zah.mk (0:Int) (0:Int)) (0:Int) (0:Int)) ([]:(List Zab)) ([]:(List Zac))) false) (Zao.mk a0.fKind (0:Int) (Zan.mk (0:Int) (0:Int) (0:Int)) (0:Int) (0:Int) (Zae.mk (0:Int) (Zaa.mk (Zaf.mk (Zag.mk false (0:Int) (0:Int)) (0:Int)) false (0:Int) (Zah.mk (0:Int) (0:Int)) (0:Int) (0:Int)) ([]:(List Zab)) ([]:(List Zac))) a0.fMark) r hf)
def Zch (a0:Zal) (a1:Zao):Option (Tout Zae) :=
  bif (((a0.fgot.length:Nat):Int) == (0:Int)) then
    (Zlw a1).bind fun x1 =>
    some (Tout.pan x1)
  else
    need (0≤(0:Int)∧(0:Int) < ((a0.fgot.length:Nat):Int)) <|
    need (0≤(1:Int)∧(1:Int)≤((a0.fgot.length:Nat):Int)) <|
    some (Tout.ret (a0.fgot.getD (0:Int).toNat Zae.d) (Zal.mk (a0.fgot.drop (1:Int).toNat)))
theorem ZbJ (a0:Zal) (a1:Zao) (r:(Tout Zae)) (hf:Zch a0 a1 = some r):ZfM Tryz.prog 469 [(100000,.box (Zal.c a0))] [.one (.ptr 100000 0),.agg (Zao.c a1)] (oc (fun x =>.agg (Zae.c x)) r):=by
  refine ZfM.of Tryz.func469 rfl rfl rfl rfl fun S0 w0 =>?_
  unfold Zch at hf
  rcases Zaj hf with ⟨h1,hf⟩ | ⟨h1,hf⟩
  · obtain ⟨x1,q2,hf⟩:=bind_some' hf
    obtain rfl:=oi hf
    exact ZaC Zak 6 _ _ [rz,rz] [true] (rA [(1,aG (Zao.c x1))]) 4 ⟨[],.one .junk⟩ (.c h1 (.c (ZtM _ _ q2) (.c (show Tryz.prog.concrete 111 = true from (by kernel_rfl)) .n))) (by kernel_rfl)
  · obtain ⟨o3,hf⟩:=Zas hf
    obtain ⟨o4,hf⟩:=Zas hf
    obtain rfl:=oi hf
    exact Zcg Zak 13 [rz,rz,rz,⟨[],[],[],[],[],[(5,((a0.fgot.drop (1:Int).toNat).length,Zaq Zae.c Zae.d (a0.fgot.drop (1:Int).toNat)))],[]⟩,rz] [false] ⟨[],[],[],[],[],[4],[4,100000],[]⟩ [100000] (.c h1 (.c o3 (.c (show (a0.fgot.drop (1:Int).toNat).length = a0.fgot.length - (1:Int).toNat∧∀ i j,i < a0.fgot.length - (1:Int).toNat→j < 13→Zaq Zae.c Zae.d (a0.fgot.drop (1:Int).toNat) i j = Zaq Zae.c Zae.d a0.fgot ((1:Int).toNat + i) j from (ZpB _ _)) (.c o4 .n)))) (by kernel_rfl)
def Zib (a0:Zal) (a1:Bool):Option (Tout Unit) :=
  (Zch a0 (Zao.mk (8:Int) (0:Int) (Zan.mk (0:Int) (0:Int) (0:Int)) (0:Int) (0:Int) (Zae.mk (0:Int) (Zaa.mk (Zaf.mk (Zag.mk false (0:Int) (0:Int)) (0:Int)) false (0:Int) (Zah.mk (0:Int) (0:Int)) (0:Int) (0:Int)) ([]:(List Zab)) ([]:(List Zac))) a1)).bind fun x1 =>
  (match x1 with
  | .ret x1v x1g =>
    some (Tout.ret () x1g)
  | .pan x1o =>
    some (Tout.pan x1o)
  | .bad x1s =>
    some (Tout.bad x1s))
theorem ZjO (a0:Zal) (a1:Bool) (r:(Tout Unit)) (hf:Zib a0 a1 = some r):ZfM Tryz.prog 465 [(100000,.box (Zal.c a0))] [.one (.ptr 100000 0),.one (.lit (.bool a1))] (oc (fun x =>.tup []) r):=by
  refine ZfM.of Tryz.func465 rfl rfl rfl rfl fun S0 w0 =>?_
  unfold Zib at hf
  obtain ⟨x1,q1,hf⟩:=bind_some' hf
  cases x1 with
  | ret x1v x1g =>
    dsimp only at hf
    obtain rfl:=oi hf
    exact Zcg Zak 1 [⟨[],[],[],[],[(2,[(18,cL 5 Zab.c Zab.d []),(19,cL 7 Zac.c Zac.d [])])],[],[(3,⟨[(100000,100000)],[],[(100000,.box (Zal.c x1g))],.agg (Zae.c x1v)⟩)]⟩] [] ⟨[],[],[],[],[],[],[100000],[]⟩ [100000] (.c (ZbJ _ _ _ q1) .n) (by kernel_rfl)
  | _ =>
    dsimp only at hf
    obtain rfl:=oi hf
    exact ZaC Zak 0 _ _ [] [] (⟨[],[],[],[],[(2,[(18,cL 5 Zab.c Zab.d []),(19,cL 7 Zac.c Zac.d [])])],[],[]⟩) 3 ⟨[(100000,100000)],pvOf q1⟩ (.c (ZbJ _ _ _ q1) .n) (by kernel_rfl)
def ZdR (a0:Int):Option Zam :=
  some (Zam.mk a0 (Zaf.mk (Zag.mk false (0:Int) (0:Int)) (0:Int)) (0:Int) (0:Int) ([]:(List Zaa)))
theorem ZeJ (a0:Int) (r:Zam) (hf:ZdR a0 = some r):Zat Tryz.prog 136 [.one (.lit (.int .i64 a0))] (.agg (Zam.c r)):=by
  refine Zat.of Tryz.func136 rfl rfl rfl rfl fun S0 w0 =>?_
  unfold ZdR at hf
  obtain rfl:=oi hf
  exact Zai Zak 4 [rz,rz] [] [] [(2,[(7,cL 10 Zaa.c Zaa.d [])])] [] .n (by kernel_rfl) rfl
def ZfZ (a0:Zav) (a1:Zal):Option (Tout Zam) :=
  (Zib a1 true).bind fun x1 =>
  (match x1 with
  | .ret x1v x1g =>
    (ZdR (1:Int)).bind fun x2 =>
    some (Tout.ret x2 x1g)
  | .pan x1o =>
    some (Tout.pan x1o)
  | .bad x1s =>
    some (Tout.bad x1s))
theorem Zhe (a0:Zav) (a1:Zal) (r:(Tout Zam)) (hf:ZfZ a0 a1 = some r):ZfM Tryz.prog 67 [(100000,.box (Zal.c a1))] [.agg (Zav.c a0),.one (.ifc 112 (.ptr 100000 0))] (oc (fun x =>.agg (Zam.c x)) r):=by
  refine ZfM.of Tryz.func67 rfl rfl rfl rfl fun S0 w0 =>?_
  unfold ZfZ at hf
  obtain ⟨x1,q1,hf⟩:=bind_some' hf
  cases x1 with
  | ret x1v x1g =>
    dsimp only at hf
    obtain ⟨x2,q2,hf⟩:=bind_some' hf
    obtain rfl:=oi hf
    exact Zcg Zak 6 [rz,rH [(1,.id 465)] [(1,⟨[(100000,100000)],[],[(100000,.box (Zal.c x1g))],.tup []⟩)],rA [(0,aG (Zam.c x2))]] [] ⟨[],[],[],[],[],[4],[4,100000],[]⟩ [100000] (.c (ZjO _ _ _ q1) (.c ZuO (.c (ZeJ _ _ q2) .n))) (by kernel_rfl)
  | _ =>
    dsimp only at hf
    obtain rfl:=oi hf
    exact ZaC Zak 3 _ _ [rz] [] (rA [(1,.id 465)]) 1 ⟨[(100000,100000)],pvOf q1⟩ (.c (ZjO _ _ _ q1) (.c ZuO .n)) (by kernel_rfl)
def Zim (a0:Zag):Option Zap :=
  (ZgT a0).bind fun x1 =>
  (Zje a0 x1).bind fun x2 =>
  some x2.1
theorem Zlk (a0:Zag) (r:Zap) (hf:Zim a0 = some r):Zat Tryz.prog 226 [.agg (Zag.c a0)] (.agg (Zap.c r)):=by
  refine Zat.of Tryz.func226 rfl rfl rfl rfl fun S0 w0 =>?_
  unfold Zim at hf
  obtain ⟨x1,q1,hf⟩:=bind_some' hf
  obtain ⟨x2,q2,hf⟩:=bind_some' hf
  obtain rfl:=oi hf
  exact Zai Zak 6 [rz,rA [(2,aI x1),(3,.r (.tup [(true,Zap.c x2.1),(false,cB x2.2)]) [])],rz] [] [] [] [] (.c (Zll _ _ q1) (.c (Zlj _ _ _ q2) .n)) (by kernel_rfl) rfl
def Zkm (a0:Int):Option Int :=
  some (IntKind.wrap .u64 (((BitVec.ofInt (IntKind.bits .u64) (IntKind.wrap .u64 ((IntKind.wrap .u64 (((BitVec.ofInt (IntKind.bits .u64) (IntKind.wrap .u64 ((IntKind.wrap .u64 (((BitVec.ofInt (IntKind.bits .u64) a0) ^^^ (BitVec.ofInt (IntKind.bits .u64) (Int.fdiv a0 (2 ^ (min (30:Int).toNat (IntKind.bits .u64)))))).toNat:Int)) * (13787848793156543929:Int)))) ^^^ (BitVec.ofInt (IntKind.bits .u64) (Int.fdiv (IntKind.wrap .u64 ((IntKind.wrap .u64 (((BitVec.ofInt (IntKind.bits .u64) a0) ^^^ (BitVec.ofInt (IntKind.bits .u64) (Int.fdiv a0 (2 ^ (min (30:Int).toNat (IntKind.bits .u64)))))).toNat:Int)) * (13787848793156543929:Int))) (2 ^ (min (27:Int).toNat (IntKind.bits .u64)))))).toNat:Int)) * (10723151780598845931:Int)))) ^^^ (BitVec.ofInt (IntKind.bits .u64) (Int.fdiv (IntKind.wrap .u64 ((IntKind.wrap .u64 (((BitVec.ofInt (IntKind.bits .u64) (IntKind.wrap .u64 ((IntKind.wrap .u64 (((BitVec.ofInt (IntKind.bits .u64) a0) ^^^ (BitVec.ofInt (IntKind.bits .u64) (Int.fdiv a0 (2 ^ (min (30:Int).toNat (IntKind.bits .u64)))))).toNat:Int)) * (13787848793156543929:Int)))) ^^^ (BitVec.ofInt (IntKind.bits .u64) (Int.fdiv (IntKind.wrap .u64 ((IntKind.wrap .u64 (((BitVec.ofInt (IntKind.bits .u64) a0) ^^^ (BitVec.ofInt (IntKind.bits .u64) (Int.fdiv a0 (2 ^ (min (30:Int).toNat (IntKind.bits .u64)))))).toNat:Int)) * (13787848793156543929:Int))) (2 ^ (min (27:Int).toNat (IntKind.bits .u64)))))).toNat:Int)) * (10723151780598845931:Int))) (2 ^ (min (31:Int).toNat (IntKind.bits .u64)))))).toNat:Int))
theorem Zna (a0:Int) (r:Int) (hf:Zkm a0 = some r):Zat Tryz.prog 371 [.one (.lit (.int .u64 a0))] (.one (.lit (.int .u64 r))):=by
  refine Zat.of Tryz.func371 rfl rfl rfl rfl fun S0 w0 =>?_
  unfold Zkm at hf
  obtain rfl:=oi hf
  exact Zai Zak 8 [rz,rz,rz,rz] [] [] [] [] (.c (show 0≤(30:Int) from (by decide)) (.c (show 0≤(27:Int) from (by decide)) (.c (show 0≤(31:Int) from (by decide)) .n))) (by kernel_rfl) rfl
def ZdH (a0:Int) (a1:Int):Option Int :=
  need (0≤(IntKind.wrap .u64 (((BitVec.ofInt (IntKind.bits .u64) (IntKind.wrap .u64 a1)) &&& (BitVec.ofInt (IntKind.bits .u64) (63:Int))).toNat:Int))) <|
  need (0≤(IntKind.wrap .u64 ((64:Int) - (IntKind.wrap .u64 (((BitVec.ofInt (IntKind.bits .u64) (IntKind.wrap .u64 a1)) &&& (BitVec.ofInt (IntKind.bits .u64) (63:Int))).toNat:Int))))) <|
  some (IntKind.wrap .u64 (((BitVec.ofInt (IntKind.bits .u64) (IntKind.wrap .u64 (a0 * 2 ^ (min (IntKind.wrap .u64 (((BitVec.ofInt (IntKind.bits .u64) (IntKind.wrap .u64 a1)) &&& (BitVec.ofInt (IntKind.bits .u64) (63:Int))).toNat:Int)).toNat (IntKind.bits .u64))))) ||| (BitVec.ofInt (IntKind.bits .u64) (Int.fdiv a0 (2 ^ (min (IntKind.wrap .u64 ((64:Int) - (IntKind.wrap .u64 (((BitVec.ofInt (IntKind.bits .u64) (IntKind.wrap .u64 a1)) &&& (BitVec.ofInt (IntKind.bits .u64) (63:Int))).toNat:Int)))).toNat (IntKind.bits .u64)))))).toNat:Int))
theorem Zko (a0:Int) (a1:Int) (r:Int) (hf:ZdH a0 a1 = some r):Zat Tryz.prog 372 [.one (.lit (.int .u64 a0)),.one (.lit (.int .i64 a1))] (.one (.lit (.int .u64 r))):=by
  refine Zat.of Tryz.func372 rfl rfl rfl rfl fun S0 w0 =>?_
  unfold ZdH at hf
  obtain ⟨o1,hf⟩:=Zas hf
  obtain ⟨o2,hf⟩:=Zas hf
  obtain rfl:=oi hf
  exact Zai Zak 6 [rz,rz,rz] [] [] [] [] (.c o1 (.c o2 .n)) (by kernel_rfl) rfl
def Zik   : Nat→Int→(List Int)→Int→Int→Option Int
  | 0,_,_,_,_ =>none
  | fu + 1,v5,v11,v12,v13 =>
    bif (decide (v13 < v12)) then
      need (0≤v13∧v13 < ((v11.length:Nat):Int)) <|
      (ZdH v5 (7:Int)).bind fun x2 =>
      (Zkm (IntKind.wrap .u64 ((v11.getD v13.toNat (0:Int)) + (11400714819323198485:Int)))).bind fun x3 =>
      (Zkm (IntKind.wrap .u64 (((BitVec.ofInt (IntKind.bits .u64) x2) ^^^ (BitVec.ofInt (IntKind.bits .u64) x3)).toNat:Int))).bind fun x4 =>
      Zik   fu x4 v11 v12 (ZaD v13 (1:Int))
    else
      some v5
theorem Zso (S0:Nat→Prop) (w0:Zbh)   : ∀ (fu:Nat) (v5:Int) (v11:(List Int)) (v12:Int) (v13:Int) (r:Int),Zik   fu v5 v11 v12 v13 = some r→Good Tryz.prog 26 S0 w0 (bodyPost Tryz.prog Tryz.f334 (Post S0 w0 (.one (.lit (.int .u64 r))))) (at_ [1,1,0,1,0] (ZbM Tryz.f334)) ⟨[(5,.one (.lit (.int .u64 v5))),(11,.one (cL 1 (cI .u64) (0:Int) v11)),(12,.one (.lit (.int .i64 v12))),(13,.one (.lit (.int .i64 v13)))],[]⟩:=by
  intro fu
  induction fu with
  | zero =>
    intro v5 v11 v12 v13 r hf
    simp [Zik] at hf
  | succ fu ih =>
    intro v5 v11 v12 v13 r hf
    unfold Zik at hf
    rcases Zaj hf with ⟨h2,hf⟩ | ⟨h2,hf⟩
    · obtain ⟨o3,hf⟩:=Zas hf
      obtain ⟨x2,q4,hf⟩:=bind_some' hf
      obtain ⟨x3,q5,hf⟩:=bind_some' hf
      obtain ⟨x4,q6,hf⟩:=bind_some' hf
      exact ZaI Zak Post.ends 14 [rz,rz,rA [(1,.r (.one (.lit (.int .u64 x2))) []),(4,.r (.one (.lit (.int .u64 x3))) []),(6,.r (.one (.lit (.int .u64 x4))) [])],rz] [true] ⟨[],[],[],[],[],[5,11,12,13],[],[]⟩ (.c h2 (.c o3 (.c (Zko _ _ _ q4) (.c (Zna _ _ q5) (.c (Zna _ _ q6) .n))))) (by kernel_rfl) (ih x4 v11 v12 (ZaD v13 (1:Int)) r hf)
    · obtain rfl:=oi hf
      exact Zai Zak 8 [rz,rz] [false] [] [] [] (.c h2 .n) (by kernel_rfl) rfl
def ZnG (a0:Int) (a1:(List Int)):Option Int :=
  (Zkm (IntKind.wrap .u64 (a0 + (11400714819323198485:Int)))).bind fun x1 =>
  Zik   ((((a1.length:Nat):Int) - (0:Int)).toNat + 2) x1 a1 ((a1.length:Nat):Int) (0:Int)
theorem Zrz (a0:Int) (a1:(List Int)) (r:Int) (hf:ZnG a0 a1 = some r):Zat Tryz.prog 334 [.one (.lit (.int .u64 a0)),.one (cL 1 (cI .u64) (0:Int) a1)] (.one (.lit (.int .u64 r))):=by
  refine Zat.of Tryz.func334 rfl rfl rfl rfl fun S0 w0 =>?_
  unfold ZnG at hf
  obtain ⟨x1,q1,hf⟩:=bind_some' hf
  exact ZaI Zak Post.ends 8 [rz,rA [(2,.r (.one (.lit (.int .u64 x1))) [])],rz] [] ⟨[],[],[],[],[],[5,11,12,13],[],[]⟩ (.c (Zna _ _ q1) .n) (by kernel_rfl) (Zso S0 w0    ((((a1.length:Nat):Int) - (0:Int)).toNat + 2) x1 a1 ((a1.length:Nat):Int) (0:Int) r hf)
def Znb (a0:Int) (a1:Zap):Option Int :=
  bif a1.fAddr.fV6 then
    (ZnG a0 ([(6:Int),a1.fAddr.fHi,a1.fAddr.fLo,(IntKind.wrap .u64 a1.fBits)]:List Int)).bind fun x1 =>
    some x1
  else
    (ZnG a0 ([(4:Int),a1.fAddr.fHi,a1.fAddr.fLo,(IntKind.wrap .u64 a1.fBits)]:List Int)).bind fun x2 =>
    some x2
theorem ZuW (a0:Int) (a1:Zap) (r:Int) (hf:Znb a0 a1 = some r):Zat Tryz.prog 264 [.one (.lit (.int .u64 a0)),.agg (Zap.c a1)] (.one (.lit (.int .u64 r))):=by
  refine Zat.of Tryz.func264 rfl rfl rfl rfl fun S0 w0 =>?_
  unfold Znb at hf
  rcases Zaj hf with ⟨h1,hf⟩ | ⟨h1,hf⟩
  · obtain ⟨x1,q2,hf⟩:=bind_some' hf
    obtain rfl:=oi hf
    exact Zai Zak 11 [rz,rz,rz,rz,⟨[(12,.r (.one (.lit (.int .u64 x1))) [])],[],[],[],[],[(11,(([(6:Int),a1.fAddr.fHi,a1.fAddr.fLo,(IntKind.wrap .u64 a1.fBits)]:List Int).length,Zaq (cI .u64) (0:Int) ([(6:Int),a1.fAddr.fHi,a1.fAddr.fLo,(IntKind.wrap .u64 a1.fBits)]:List Int)))],[]⟩] [true] [] [] [] (.c h1 (.c (show ([(6:Int),a1.fAddr.fHi,a1.fAddr.fLo,(IntKind.wrap .u64 a1.fBits)]:List Int).length = 4∧∀ i j,i < 4→j < 1→Zaq (cI .u64) (0:Int) ([(6:Int),a1.fAddr.fHi,a1.fAddr.fLo,(IntKind.wrap .u64 a1.fBits)]:List Int) i j = (([(6:Int),a1.fAddr.fHi,a1.fAddr.fLo,(IntKind.wrap .u64 a1.fBits)]:List Int).flatMap (cI .u64)).getD (i * 1 + j) .junk from ⟨rfl,fun i j hi hj =>ZaS (sz:=1) (e:=(cI .u64)) (d:=(0:Int)) (fun _ =>rfl) ([(6:Int),a1.fAddr.fHi,a1.fAddr.fLo,(IntKind.wrap .u64 a1.fBits)]:List Int) i j hi hj⟩) (.c (Zrz _ _ _ q2) .n))) (by kernel_rfl) rfl
  · obtain ⟨x2,q3,hf⟩:=bind_some' hf
    obtain rfl:=oi hf
    exact Zai Zak 11 [rz,rz,rz,⟨[(12,.r (.one (.lit (.int .u64 x2))) [])],[],[],[],[],[(11,(([(4:Int),a1.fAddr.fHi,a1.fAddr.fLo,(IntKind.wrap .u64 a1.fBits)]:List Int).length,Zaq (cI .u64) (0:Int) ([(4:Int),a1.fAddr.fHi,a1.fAddr.fLo,(IntKind.wrap .u64 a1.fBits)]:List Int)))],[]⟩] [false] [] [] [] (.c h1 (.c (show ([(4:Int),a1.fAddr.fHi,a1.fAddr.fLo,(IntKind.wrap .u64 a1.fBits)]:List Int).length = 4∧∀ i j,i < 4→j < 1→Zaq (cI .u64) (0:Int) ([(4:Int),a1.fAddr.fHi,a1.fAddr.fLo,(IntKind.wrap .u64 a1.fBits)]:List Int) i j = (([(4:Int),a1.fAddr.fHi,a1.fAddr.fLo,(IntKind.wrap .u64 a1.fBits)]:List Int).flatMap (cI .u64)).getD (i * 1 + j) .junk from ⟨rfl,fun i j hi hj =>ZaS (sz:=1) (e:=(cI .u64)) (d:=(0:Int)) (fun _ =>rfl) ([(4:Int),a1.fAddr.fHi,a1.fAddr.fLo,(IntKind.wrap .u64 a1.fBits)]:List Int) i j hi hj⟩) (.c (Zrz _ _ _ q3) .n))) (by kernel_rfl) rfl
def ZiB (a0:Int):Option Int :=
  some (if (8:Int) < (if (1:Int) > a0 then (1:Int) else a0) then (8:Int) else (if (1:Int) > a0 then (1:Int) else a0))
theorem Zqg (a0:Int) (r:Int) (hf:ZiB a0 = some r):Zat Tryz.prog 265 [.one (.lit (.int .i64 a0))] (.one (.lit (.int .i64 r))):=by
  refine Zat.of Tryz.func265 rfl rfl rfl rfl fun S0 w0 =>?_
  unfold ZiB at hf
  obtain rfl:=oi hf
  exact Zai Zak 4 [rz,rz] [] [] [] [] .n (by kernel_rfl) rfl
def Zkn (a0:Int) (a1:Int):Option Int :=
  bif (decide (a1 < (1:Int))) then
    some (0:Int)
  else
    bif (decide (a1 > (2147483648:Int))) then
      some (0:Int)
    else
      some (IntKind.wrap .i64 (Int.fdiv (IntKind.wrap .u64 ((Int.fdiv a0 (2 ^ (min (32:Int).toNat (IntKind.bits .u64)))) * (IntKind.wrap .u64 a1))) (2 ^ (min (32:Int).toNat (IntKind.bits .u64)))))
theorem Zsp (a0:Int) (a1:Int) (r:Int) (hf:Zkn a0 a1 = some r):Zat Tryz.prog 263 [.one (.lit (.int .u64 a0)),.one (.lit (.int .i64 a1))] (.one (.lit (.int .i64 r))):=by
  refine Zat.of Tryz.func263 rfl rfl rfl rfl fun S0 w0 =>?_
  unfold Zkn at hf
  rcases Zaj hf with ⟨h1,hf⟩ | ⟨h1,hf⟩
  · obtain rfl:=oi hf
    exact Zai Zak 8 [rz,rB [(2,true)],rz] [true] [] [] [] (.c h1 (.c (show true = true from rfl) .n)) (by kernel_rfl) rfl
  · rcases Zaj hf with ⟨h2,hf⟩ | ⟨h2,hf⟩
    · obtain rfl:=oi hf
      exact Zai Zak 8 [rz,rB [(2,false)],rz] [true] [] [] [] (.c h1 (.c h2 .n)) (by kernel_rfl) rfl
    · obtain rfl:=oi hf
      exact Zai Zak 9 [rz,rB [(2,false)],rz] [false] [] [] [] (.c h1 (.c h2 (.c (show 0≤(32:Int) from (by decide)) (.c (show 0≤(32:Int) from (by decide)) .n)))) (by kernel_rfl) rfl
def Zjc (a0:Zag) (a1:Int) (a2:Int):Option Int :=
  (Zim a0).bind fun x1 =>
  (Znb a1 x1).bind fun x2 =>
  (ZiB a2).bind fun x3 =>
  (Zkn x2 x3).bind fun x4 =>
  some x4
theorem ZtK (a0:Zag) (a1:Int) (a2:Int) (r:Int) (hf:Zjc a0 a1 a2 = some r):Zat Tryz.prog 200 [.agg (Zag.c a0),.one (.lit (.int .u64 a1)),.one (.lit (.int .i64 a2))] (.one (.lit (.int .i64 r))):=by
  refine Zat.of Tryz.func200 rfl rfl rfl rfl fun S0 w0 =>?_
  unfold Zjc at hf
  obtain ⟨x1,q1,hf⟩:=bind_some' hf
  obtain ⟨x2,q2,hf⟩:=bind_some' hf
  obtain ⟨x3,q3,hf⟩:=bind_some' hf
  obtain ⟨x4,q4,hf⟩:=bind_some' hf
  obtain rfl:=oi hf
  exact Zai Zak 4 [rz,rA [(2,aG (Zap.c x1)),(3,.r (.one (.lit (.int .u64 x2))) []),(5,aI x3),(6,aI x4)]] [] [] [] [] (.c (Zlk _ _ q1) (.c (ZuW _ _ _ q2) (.c (Zqg _ _ q3) (.c (Zsp _ _ _ q4) .n)))) (by kernel_rfl) rfl
def ZdI (a0:Zav):Option Int :=
  (Zjc a0.fx.fEnd.fAddr a0.fc.fSecret a0.fc.fShards).bind fun x1 =>
  some x1
theorem Zgu (a0:Zav) (r:Int) (hf:ZdI a0 = some r):Zat Tryz.prog 218 [.agg (Zav.c a0)] (.one (.lit (.int .i64 r))):=by
  refine Zat.of Tryz.func218 rfl rfl rfl rfl fun S0 w0 =>?_
  unfold ZdI at hf
  obtain ⟨x1,q1,hf⟩:=bind_some' hf
  obtain rfl:=oi hf
  exact Zai Zak 4 [rz,rA [(10,aI x1)]] [] [] [] [] (.c (ZtK _ _ _ _ q1) .n) (by kernel_rfl) rfl
def Zbi (a0:Zav):Option Int :=
  (ZdI a0).bind fun x1 =>
  some (ZaD (2:Int) x1)
theorem Zbn (a0:Zav) (r:Int) (hf:Zbi a0 = some r):Zat Tryz.prog 138 [.agg (Zav.c a0)] (.one (.lit (.int .i64 r))):=by
  refine Zat.of Tryz.func138 rfl rfl rfl rfl fun S0 w0 =>?_
  unfold Zbi at hf
  obtain ⟨x1,q1,hf⟩:=bind_some' hf
  obtain rfl:=oi hf
  exact Zai Zak 4 [rz,rA [(1,aI x1)]] [] [] [] [] (.c (Zgu _ _ q1) .n) (by kernel_rfl) rfl
def ZeN (a0:Zal) (a1:Int) (a2:Bool):Option (Tout Unit) :=
  (Zch a0 (Zao.mk (1:Int) a1 (Zan.mk (0:Int) (0:Int) (0:Int)) (0:Int) (0:Int) (Zae.mk (0:Int) (Zaa.mk (Zaf.mk (Zag.mk false (0:Int) (0:Int)) (0:Int)) false (0:Int) (Zah.mk (0:Int) (0:Int)) (0:Int) (0:Int)) ([]:(List Zab)) ([]:(List Zac))) a2)).bind fun x1 =>
  (match x1 with
  | .ret x1v x1g =>
    some (Tout.ret () x1g)
  | .pan x1o =>
    some (Tout.pan x1o)
  | .bad x1s =>
    some (Tout.bad x1s))
theorem ZcN (a0:Zal) (a1:Int) (a2:Bool) (r:(Tout Unit)) (hf:ZeN a0 a1 a2 = some r):ZfM Tryz.prog 464 [(100000,.box (Zal.c a0))] [.one (.ptr 100000 0),.one (.lit (.int .i64 a1)),.one (.lit (.bool a2))] (oc (fun x =>.tup []) r):=by
  refine ZfM.of Tryz.func464 rfl rfl rfl rfl fun S0 w0 =>?_
  unfold ZeN at hf
  obtain ⟨x1,q1,hf⟩:=bind_some' hf
  cases x1 with
  | ret x1v x1g =>
    dsimp only at hf
    obtain rfl:=oi hf
    exact Zcg Zak 1 [⟨[],[],[],[],[(3,[(18,cL 5 Zab.c Zab.d []),(19,cL 7 Zac.c Zac.d [])])],[],[(4,⟨[(100000,100000)],[],[(100000,.box (Zal.c x1g))],.agg (Zae.c x1v)⟩)]⟩] [] ⟨[],[],[],[],[],[],[100000],[]⟩ [100000] (.c (ZbJ _ _ _ q1) .n) (by kernel_rfl)
  | _ =>
    dsimp only at hf
    obtain rfl:=oi hf
    exact ZaC Zak 0 _ _ [] [] (⟨[],[],[],[],[(3,[(18,cL 5 Zab.c Zab.d []),(19,cL 7 Zac.c Zac.d [])])],[],[]⟩) 4 ⟨[(100000,100000)],pvOf q1⟩ (.c (ZbJ _ _ _ q1) .n) (by kernel_rfl)
def Zho (a0:Int):Option Zan :=
  some (Zan.mk (5:Int) a0 (0:Int))
theorem Zoc (a0:Int) (r:Zan) (hf:Zho a0 = some r):Zat Tryz.prog 283 [.one (.lit (.int .i64 a0))] (.agg (Zan.c r)):=by
  refine Zat.of Tryz.func283 rfl rfl rfl rfl fun S0 w0 =>?_
  unfold Zho at hf
  obtain rfl:=oi hf
  exact Zai Zak 4 [rz,rz] [] [] [] [] .n (by kernel_rfl) rfl
def Zdb (a0:Zal) (a1:Zan) (a2:Bool):Option (Tout Zae) :=
  (Zch a0 (Zao.mk (5:Int) (0:Int) a1 (0:Int) (0:Int) (Zae.mk (0:Int) (Zaa.mk (Zaf.mk (Zag.mk false (0:Int) (0:Int)) (0:Int)) false (0:Int) (Zah.mk (0:Int) (0:Int)) (0:Int) (0:Int)) ([]:(List Zab)) ([]:(List Zac))) a2)).bind fun x1 =>
  (match x1 with
  | .ret x1v x1g =>
    some (Tout.ret x1v x1g)
  | .pan x1o =>
    some (Tout.pan x1o)
  | .bad x1s =>
    some (Tout.bad x1s))
theorem Zcd (a0:Zal) (a1:Zan) (a2:Bool) (r:(Tout Zae)) (hf:Zdb a0 a1 a2 = some r):ZfM Tryz.prog 463 [(100000,.box (Zal.c a0))] [.one (.ptr 100000 0),.agg (Zan.c a1),.one (.lit (.bool a2))] (oc (fun x =>.agg (Zae.c x)) r):=by
  refine ZfM.of Tryz.func463 rfl rfl rfl rfl fun S0 w0 =>?_
  unfold Zdb at hf
  obtain ⟨x1,q1,hf⟩:=bind_some' hf
  cases x1 with
  | ret x1v x1g =>
    dsimp only at hf
    obtain rfl:=oi hf
    exact Zcg Zak 4 [rz,⟨[],[],[],[],[(3,[(18,cL 5 Zab.c Zab.d []),(19,cL 7 Zac.c Zac.d [])])],[],[(4,⟨[(100000,100000)],[],[(100000,.box (Zal.c x1g))],.agg (Zae.c x1v)⟩)]⟩] [] ⟨[],[],[],[],[],[6],[6,100000],[]⟩ [100000] (.c (ZbJ _ _ _ q1) .n) (by kernel_rfl)
  | _ =>
    dsimp only at hf
    obtain rfl:=oi hf
    exact ZaC Zak 3 _ _ [rz] [] (⟨[],[],[],[],[(3,[(18,cL 5 Zab.c Zab.d []),(19,cL 7 Zac.c Zac.d [])])],[],[]⟩) 4 ⟨[(100000,100000)],pvOf q1⟩ (.c (ZbJ _ _ _ q1) .n) (by kernel_rfl)
def Zhn (a0:Int) (a1:Int):Option Zan :=
  some (Zan.mk (6:Int) a0 a1)
theorem Zob (a0:Int) (a1:Int) (r:Zan) (hf:Zhn a0 a1 = some r):Zat Tryz.prog 284 [.one (.lit (.int .i64 a0)),.one (.lit (.int .i64 a1))] (.agg (Zan.c r)):=by
  refine Zat.of Tryz.func284 rfl rfl rfl rfl fun S0 w0 =>?_
  unfold Zhn at hf
  obtain rfl:=oi hf
  exact Zai Zak 4 [rz,rz] [] [] [] [] .n (by kernel_rfl) rfl
def ZdM (a1:Int)  : Nat→Int→Int→(List Zaa)→Zal→Option (Tout (List Zaa))
  | 0,_,_,_,_ =>none
  | fu + 1,v15,v16,w5,b100000 =>
    bif (decide (v16 < v15)) then
      (Zhn a1 v16).bind fun x3 =>
      (Zdb b100000 x3 false).bind fun x4 =>
      (match x4 with
      | .ret x4v x4g =>
        need ((w5 ++ ([x4v.fPeer]:List Zaa)).length * 80≤140737488355328∧(w5 ++ ([x4v.fPeer]:List Zaa)).length≤maxLen) <|
        ZdM a1  fu v15 (ZaD v16 (1:Int)) (w5 ++ ([x4v.fPeer]:List Zaa)) x4g
      | .pan x4o =>
        some (Tout.pan x4o)
      | .bad x4s =>
        some (Tout.bad x4s))
    else
      some (Tout.ret w5 b100000)
theorem ZpG (S0:Nat→Prop) (w0:Zbh) (a1:Int)  : ∀ (fu:Nat) (v15:Int) (v16:Int) (w5:(List Zaa)) (b100000:Zal) (r:(Tout (List Zaa))),ZdM a1  fu v15 v16 w5 b100000 = some r→Good Tryz.prog 33 S0 w0 (bodyPost Tryz.prog Tryz.f217 (ZoC S0 w0 (oc (fun x =>.one (cL 10 Zaa.c Zaa.d x)) r))) (at_ [1,1,0,1,0] (ZbM Tryz.f217)) ⟨[(0,.one (.ifc 112 (.ptr 100000 0))),(1,.one (.lit (.int .i64 a1))),(5,.one (.osl 5 w5.length)),(15,.one (.lit (.int .i64 v15))),(16,.one (.lit (.int .i64 v16)))],[(5,.rows 44 10 w5.length (Zaq Zaa.c Zaa.d w5)),(100000,.box [cL 13 Zae.c Zae.d b100000.fgot])]⟩:=by
  intro fu
  induction fu with
  | zero =>
    intro v15 v16 w5 b100000 r hf
    simp [ZdM] at hf
  | succ fu ih =>
    intro v15 v16 w5 b100000 r hf
    unfold ZdM at hf
    rcases Zaj hf with ⟨h3,hf⟩ | ⟨h3,hf⟩
    · obtain ⟨x3,q4,hf⟩:=bind_some' hf
      have O1:Obl _:=(.c h3 (.c (Zob _ _ _ q4) (.c ZsP .n)))
      obtain ⟨x4,q5,hf⟩:=bind_some' hf
      cases x4 with
      | ret x4v x4g =>
        dsimp only at hf
        obtain ⟨o6,hf⟩:=Zas hf
        exact ZaI Zak ZoC.ends 14 [rz,rz,⟨[(4,aG (Zan.c x3)),(8,.id 463),(11,.c ((w5 ++ ([x4v.fPeer]:List Zaa)).length) (Zaq Zaa.c Zaa.d (w5 ++ ([x4v.fPeer]:List Zaa))))],[],[],[],[],[(10,(([x4v.fPeer]:List Zaa).length,Zaq Zaa.c Zaa.d ([x4v.fPeer]:List Zaa)))],[(8,⟨[(100000,100000)],[],[(100000,.box (Zal.c x4g))],.agg (Zae.c x4v)⟩)]⟩,rz] [true] ⟨[],[],[],[],[],[0,1,5,15,16],[30,100000],[(30,5)]⟩ (O1.app (.c (Zcd _ _ _ _ q5) (.c ZhR (.c (show ([x4v.fPeer]:List Zaa).length = 1∧∀ i j,i < 1→j < 10→Zaq Zaa.c Zaa.d ([x4v.fPeer]:List Zaa) i j = (([x4v.fPeer]:List Zaa).flatMap Zaa.c).getD (i * 10 + j) .junk from ⟨rfl,fun i j hi hj =>ZaS (sz:=10) (e:=Zaa.c) (d:=Zaa.d) (fun _ =>rfl) ([x4v.fPeer]:List Zaa) i j hi hj⟩) (.c (ZfF (sz:=10) (e:=Zaa.c) (d:=Zaa.d) w5 ([x4v.fPeer]:List Zaa)) (.c o6.1 (.c o6.2 .n))))))) (by kernel_rfl) (ih v15 (ZaD v16 (1:Int)) (w5 ++ ([x4v.fPeer]:List Zaa)) x4g r hf)
      | _ =>
        dsimp only at hf
        obtain rfl:=oi hf
        exact ZaC Zak 10 _ _ [rz,rz] [true] (rA [(4,aG (Zan.c x3)),(8,.id 463)]) 8 ⟨[(100000,100000)],pvOf q5⟩ (O1.app (.c (Zcd _ _ _ _ q5) (.c ZhR .n))) (by kernel_rfl)
    · obtain rfl:=oi hf
      exact Zcg Zak 8 [rz,rz] [false] ⟨[5],[],[],[],[],[4],[100000],[]⟩ [100000] (.c h3 .n) (by kernel_rfl)
def Zih (a0:Zal) (a1:Int):Option (Tout (List Zaa)) :=
  (Zho a1).bind fun x1 =>
  (Zdb a0 x1 false).bind fun x2 =>
  (match x2 with
  | .ret x2v x2g =>
    ZdM a1  (((if (0:Int) > x2v.fN then (0:Int) else x2v.fN) - (0:Int)).toNat + 2) (if (0:Int) > x2v.fN then (0:Int) else x2v.fN) (0:Int) ([]) x2g
  | .pan x2o =>
    some (Tout.pan x2o)
  | .bad x2s =>
    some (Tout.bad x2s))
theorem ZmY (a0:Zal) (a1:Int) (r:(Tout (List Zaa))) (hf:Zih a0 a1 = some r):ZfM Tryz.prog 217 [(100000,.box (Zal.c a0))] [.one (.ifc 112 (.ptr 100000 0)),.one (.lit (.int .i64 a1))] (oc (fun x =>.one (cL 10 Zaa.c Zaa.d x)) r):=by
  refine ZfM.of Tryz.func217 rfl rfl rfl rfl fun S0 w0 =>?_
  unfold Zih at hf
  obtain ⟨x1,q1,hf⟩:=bind_some' hf
  have O2:Obl _:=(.c (Zoc _ _ q1) (.c ZsP .n))
  obtain ⟨x2,q2,hf⟩:=bind_some' hf
  cases x2 with
  | ret x2v x2g =>
    dsimp only at hf
    exact ZaI Zak ZoC.ends 8 [rz,rz,rH [(2,aG (Zan.c x1)),(6,.id 463)] [(6,⟨[(100000,100000)],[],[(100000,.box (Zal.c x2g))],.agg (Zae.c x2v)⟩)]] [] ⟨[],[],[],[],[(5,5,44,10,Zaq Zaa.c Zaa.d [])],[0,1,5,15,16],[5,100000],[]⟩ (O2.app (.c (Zcd _ _ _ _ q2) (.c ZhR .n))) (by kernel_rfl) (ZpG S0 w0 a1   (((if (0:Int) > x2v.fN then (0:Int) else x2v.fN) - (0:Int)).toNat + 2) (if (0:Int) > x2v.fN then (0:Int) else x2v.fN) (0:Int) ([]) x2g r hf)
  | _ =>
    dsimp only at hf
    obtain rfl:=oi hf
    exact ZaC Zak 6 _ _ [rz,rz] [] (rA [(2,aG (Zan.c x1)),(6,.id 463)]) 6 ⟨[(100000,100000)],pvOf q2⟩ (O2.app (.c (Zcd _ _ _ _ q2) (.c ZhR .n))) (by kernel_rfl)
def Zjn (a0:Zaa) (c0:Zaf):Option Bool :=
  some (decide (a0.fEnd = c0))
theorem ZpM (a0:Zaa) (c0:Zaf) (r:Bool) (hf:Zjn a0 c0 = some r):Zat Tryz.prog 286 [.agg (Zaa.c a0),.one (.rp false 4 (fun j =>(Zaf.c c0:List C).getD (0 + j) .junk))] (.one (.lit (.bool r))):=by
  refine Zat.of Tryz.func286 rfl rfl rfl rfl fun S0 w0 =>?_
  unfold Zjn at hf
  obtain rfl:=oi hf
  exact Zai Zak 4 [rz,rA [(3,aB (decide (a0.fEnd = c0)))]] [] [] [] [] (.c (ZhF a0.fEnd c0 (.tmp 5) (.tmp 6)) .n) (by kernel_rfl) rfl
def ZaH (a0:(List Zaa)) (a1_0:Zaf)  : Nat→Int→Int→Option Int
  | 0,_,_ =>none
  | fu + 1,v7,v8 =>
    bif (decide (v8 < v7)) then
      need (0≤v8∧v8 < ((a0.length:Nat):Int)) <|
      (Zjn (a0.getD v8.toNat Zaa.d) a1_0).bind fun x1 =>
      bif x1 then
        some v8
      else
        ZaH a0 a1_0  fu v7 (ZaD v8 (1:Int))
    else
      some (-1:Int)
theorem Zgt (S0:Nat→Prop) (w0:Zbh) (a0:(List Zaa)) (a1_0:Zaf)  : ∀ (fu:Nat) (v7:Int) (v8:Int) (r:Int),ZaH a0 a1_0  fu v7 v8 = some r→Good Tryz.prog 19 S0 w0 (bodyPost Tryz.prog Tryz.f285 (Post S0 w0 (.one (.lit (.int .i64 r))))) (at_ [1,0,1,0] (ZbM Tryz.f285)) ⟨[(0,.one (cL 10 Zaa.c Zaa.d a0)),(1,.one (.clo (.func 286) 0 1 (fun i =>([]:List C).getD i .junk) (fun i =>([.rp false 4 (fun j =>(Zaf.c a1_0:List C).getD (0 + j) .junk)]:List C).getD i .junk))),(7,.one (.lit (.int .i64 v7))),(8,.one (.lit (.int .i64 v8)))],[]⟩:=by
  intro fu
  induction fu with
  | zero =>
    intro v7 v8 r hf
    simp [ZaH] at hf
  | succ fu ih =>
    intro v7 v8 r hf
    unfold ZaH at hf
    rcases Zaj hf with ⟨h1,hf⟩ | ⟨h1,hf⟩
    · obtain ⟨o2,hf⟩:=Zas hf
      obtain ⟨x1,q3,hf⟩:=bind_some' hf
      have O1:Obl _:=(.c h1 (.c o2 (.c (ZpM _ _ _ q3) .n)))
      rcases Zaj hf with ⟨h4,hf⟩ | ⟨h4,hf⟩
      · obtain rfl:=oi hf
        exact Zai Zak 15 [rz,rz,rA [(5,aB x1)],rz] [true,true] [] [] [] (O1.app (.c h4 .n)) (by kernel_rfl) rfl
      · exact ZaI Zak Post.ends 17 [rz,rz,rA [(5,aB x1)],rz] [true,false] ⟨[],[],[],[],[],[0,1,7,8],[],[]⟩ (O1.app (.c h4 .n)) (by kernel_rfl) (ih v7 (ZaD v8 (1:Int)) r hf)
    · obtain rfl:=oi hf
      exact Zai Zak 8 [rz,rz] [false] [] [] [] (.c h1 .n) (by kernel_rfl) rfl
def Zce (a0:(List Zaa)) (a1_0:Zaf):Option Int :=
  ZaH a0 a1_0  ((((a0.length:Nat):Int) - (0:Int)).toNat + 2) ((a0.length:Nat):Int) (0:Int)
theorem ZgM (a0:(List Zaa)) (a1_0:Zaf) (r:Int) (hf:Zce a0 a1_0 = some r):Zat Tryz.prog 285 [.one (cL 10 Zaa.c Zaa.d a0),.one (.clo (.func 286) 0 1 (fun i =>([]:List C).getD i .junk) (fun i =>([.rp false 4 (fun j =>(Zaf.c a1_0:List C).getD (0 + j) .junk)]:List C).getD i .junk))] (.one (.lit (.int .i64 r))):=by
  refine Zat.of Tryz.func285 rfl rfl rfl rfl fun S0 w0 =>?_
  unfold Zce at hf
  exact ZaI Zak Post.ends 6 [rz,rz] [] ⟨[],[],[],[],[],[0,1,7,8],[],[]⟩ .n (by kernel_rfl) (Zgt S0 w0 a0 a1_0   ((((a0.length:Nat):Int) - (0:Int)).toNat + 2) ((a0.length:Nat):Int) (0:Int) r hf)
def Zju (a0:(List Zaa)) (a1:Zaf):Option Int :=
  (Zce a0 a1).bind fun x1 =>
  some x1
theorem Zrx (a0:(List Zaa)) (a1:Zaf) (r:Int) (hf:Zju a0 a1 = some r):Zat Tryz.prog 219 [.one (cL 10 Zaa.c Zaa.d a0),.agg (Zaf.c a1)] (.one (.lit (.int .i64 r))):=by
  refine Zat.of Tryz.func219 rfl rfl rfl rfl fun S0 w0 =>?_
  unfold Zju at hf
  obtain ⟨x1,q1,hf⟩:=bind_some' hf
  obtain rfl:=oi hf
  exact Zai Zak 4 [rz,⟨[(2,aI x1)],[],[(1,[3])],[],[],[],[]⟩] [] [] [] [] (.c (ZgM _ _ _ q1) .n) (by kernel_rfl) rfl
def Zde (a0:Zav) (a1:Zal):Option (Tout ((List Zaa) × Int)) :=
  (Zbi a0).bind fun x1 =>
  (ZeN a1 x1 false).bind fun x2 =>
  (match x2 with
  | .ret x2v x2g =>
    (ZdI a0).bind fun x3 =>
    (Zih x2g x3).bind fun x4 =>
    (match x4 with
    | .ret x4v x4g =>
      (Zju x4v a0.fx.fEnd).bind fun x5 =>
      some (Tout.ret (x4v,x5) x4g)
    | .pan x4o =>
      some (Tout.pan x4o)
    | .bad x4s =>
      some (Tout.bad x4s))
  | .pan x2o =>
    some (Tout.pan x2o)
  | .bad x2s =>
    some (Tout.bad x2s))
theorem Zbd (a0:Zav) (a1:Zal) (r:(Tout ((List Zaa) × Int))) (hf:Zde a0 a1 = some r):ZfM Tryz.prog 137 [(100000,.box (Zal.c a1))] [.agg (Zav.c a0),.one (.ifc 112 (.ptr 100000 0))] (oc (fun x =>.tup [(false,(cLs 10 Zaa.c Zaa.d) x.1),(false,(cI .i64) x.2)]) r):=by
  refine ZfM.of Tryz.func137 rfl rfl rfl rfl fun S0 w0 =>?_
  unfold Zde at hf
  obtain ⟨x1,q1,hf⟩:=bind_some' hf
  have O1:Obl _:=(.c (Zbn _ _ q1) (.c Zym .n))
  obtain ⟨x2,q2,hf⟩:=bind_some' hf
  cases x2 with
  | ret x2v x2g =>
    dsimp only at hf
    obtain ⟨x3,q3,hf⟩:=bind_some' hf
    let R2:List RA:=[rz,rH [(2,aI x1),(6,.id 464)] [(6,⟨[(100000,100000)],[],[(100000,.box (Zal.c x2g))],.tup []⟩)]]
    have O3:Obl _:=(O1.app (.c (ZcN _ _ _ _ q2) (.c Zjs (.c (Zgu _ _ q3) .n))))
    obtain ⟨x4,q4,hf⟩:=bind_some' hf
    cases x4 with
    | ret x4v x4g =>
      dsimp only at hf
      obtain ⟨x5,q5,hf⟩:=bind_some' hf
      obtain rfl:=oi hf
      exact Zcg Zak 8 (R2 ++ [rH [(2,aI x3)] [(3,⟨[(100000,100000)],[],[(100000,.box (Zal.c x4g))],.one (cL 10 Zaa.c Zaa.d x4v)⟩)],rA [(5,aI x5)]]) [] ⟨[],[],[],[],[],[4,5],[100000],[]⟩ [100000] (O3.app (.c (ZmY _ _ _ q4) (.c (Zrx _ _ _ q5) .n))) (by kernel_rfl)
    | _ =>
      dsimp only at hf
      obtain rfl:=oi hf
      exact ZaC Zak 5 _ _ R2 [] (rA [(2,aI x3)]) 3 ⟨[(100000,100000)],pvOf q4⟩ (O3.app (.c (ZmY _ _ _ q4) .n)) (by kernel_rfl)
  | _ =>
    dsimp only at hf
    obtain rfl:=oi hf
    exact ZaC Zak 3 _ _ [rz] [] (rA [(2,aI x1),(6,.id 464)]) 6 ⟨[(100000,100000)],pvOf q2⟩ (O1.app (.c (ZcN _ _ _ _ q2) (.c Zjs .n))) (by kernel_rfl)
def Zbf (a0:Zal) (a1:Int) (a2:Bool):Option (Tout Unit) :=
  (Zch a0 (Zao.mk (3:Int) a1 (Zan.mk (0:Int) (0:Int) (0:Int)) (0:Int) (0:Int) (Zae.mk (0:Int) (Zaa.mk (Zaf.mk (Zag.mk false (0:Int) (0:Int)) (0:Int)) false (0:Int) (Zah.mk (0:Int) (0:Int)) (0:Int) (0:Int)) ([]:(List Zab)) ([]:(List Zac))) a2)).bind fun x1 =>
  (match x1 with
  | .ret x1v x1g =>
    some (Tout.ret () x1g)
  | .pan x1o =>
    some (Tout.pan x1o)
  | .bad x1s =>
    some (Tout.bad x1s))
theorem Zax (a0:Zal) (a1:Int) (a2:Bool) (r:(Tout Unit)) (hf:Zbf a0 a1 a2 = some r):ZfM Tryz.prog 462 [(100000,.box (Zal.c a0))] [.one (.ptr 100000 0),.one (.lit (.int .i64 a1)),.one (.lit (.bool a2))] (oc (fun x =>.tup []) r):=by
  refine ZfM.of Tryz.func462 rfl rfl rfl rfl fun S0 w0 =>?_
  unfold Zbf at hf
  obtain ⟨x1,q1,hf⟩:=bind_some' hf
  cases x1 with
  | ret x1v x1g =>
    dsimp only at hf
    obtain rfl:=oi hf
    exact Zcg Zak 1 [⟨[],[],[],[],[(3,[(18,cL 5 Zab.c Zab.d []),(19,cL 7 Zac.c Zac.d [])])],[],[(4,⟨[(100000,100000)],[],[(100000,.box (Zal.c x1g))],.agg (Zae.c x1v)⟩)]⟩] [] ⟨[],[],[],[],[],[],[100000],[]⟩ [100000] (.c (ZbJ _ _ _ q1) .n) (by kernel_rfl)
  | _ =>
    dsimp only at hf
    obtain rfl:=oi hf
    exact ZaC Zak 0 _ _ [] [] (⟨[],[],[],[],[(3,[(18,cL 5 Zab.c Zab.d []),(19,cL 7 Zac.c Zac.d [])])],[],[]⟩) 4 ⟨[(100000,100000)],pvOf q1⟩ (.c (ZbJ _ _ _ q1) .n) (by kernel_rfl)
def Zcc (a0:(List Zaa)):Option (List Zaa) :=
  need (0 < a0.length) <|
  need ((([]:List Zaa) ++ a0).length * 80≤140737488355328∧(([]:List Zaa) ++ a0).length≤maxLen) <|
  some (([]:List Zaa) ++ a0)
theorem ZeO (a0:(List Zaa)) (r:(List Zaa)) (hf:Zcc a0 = some r):ZdL Tryz.prog 270 [] [.one (cL 10 Zaa.c Zaa.d a0)] [(99999,.rows 44 10 r.length (Zaq Zaa.c Zaa.d r))] (.one (.osl 99999 r.length)):=by
  refine ZdL.of Tryz.func270 rfl rfl rfl rfl fun S0 w0 =>?_
  unfold Zcc at hf
  obtain ⟨o1,hf⟩:=Zas hf
  obtain ⟨o2,hf⟩:=Zas hf
  obtain rfl:=oi hf
  exact Zdc Zak 9 [rz,rz,rA [(0,.c ([]:List Zaa).length (Zaq Zaa.c Zaa.d ([]:List Zaa))),(2,.c ((([]:List Zaa) ++ a0).length) (Zaq Zaa.c Zaa.d (([]:List Zaa) ++ a0)))]] [false] ⟨[],[],[],[],[],[2],[7],[(7,99999)]⟩ (.c o1 (.c (show false = false from rfl) (.c (show ([]:List Zaa).length = 0 from rfl) (.c (show ∀ i j,i < 0→j < 10→Zaq Zaa.c Zaa.d ([]:List Zaa) i j = (([]:List Zaa).flatMap Zaa.c).getD (i * 10 + j) .junk from (fun i j hi hj =>ZaS (sz:=10) (e:=Zaa.c) (d:=Zaa.d) (fun _ =>rfl) ([]:List Zaa) i j hi hj)) (.c (ZfF (sz:=10) (e:=Zaa.c) (d:=Zaa.d) ([]:List Zaa) a0) (.c o2.1 (.c o2.2 .n))))))) (by kernel_rfl)
theorem Zfp (x:Addr) (cap:Nat) (c:Nat→Nat→C):ZdL Tryz.prog 270 [] [.one (.lit (.slice (some x) 0 cap))] [(99999,.rows 44 10 0 c)] (.one (.osl 99999 0)):=by
  refine ZdL.of Tryz.func270 rfl rfl rfl rfl fun S0 w0 =>?_
  exact Zif Zak 9 _ _ [⟨[],[],[],[],[],[],[]⟩,⟨[(1,.r (.one (.lit (.bool false))) [])],[],[],[],[],[],[]⟩,⟨[(0,.c 0 c),(2,.c 0 c)],[],[],[],[],[],[]⟩] [false] ⟨[],[],[],[],[],[2],[7],[(7,99999)]⟩
    [∀ w,(do eqGuard .eql 54 (.tmp 3) (.const (.slice none 0 0)) (.slice (some x) 0 cap) (.slice none 0 0); binOp .eql 54 (.slice (some x) 0 cap) (.slice none 0 0):Sem Value).run Tryz.prog w = .ok (.bool false) w,false = false,0 = 0,∀ i j,i < 0→j < 10→c i j = ([]:List C).getD (i * 10 + j) .junk,Ext 10 0 0 c (fun _ _ =>.junk) 0 c,0 * 80≤140737488355328,0≤maxLen] (by kernel_rfl) ⟨fun w =>by
      have hg:(eqGuard .eql 54 (.tmp 3) (.const (.slice none 0 0)) (.slice (some x) 0 cap) (.slice none 0 0)).run Tryz.prog w = .ok () w:=by simp [eqGuard]
      rw [Sem.run_bind,hg,Result.andThen_ok]
      exact Go.run_eql_slice_nil w _ _ (some x) 0 cap Tryz.underlying54,rfl,rfl,fun i j h =>absurd h (Nat.not_lt_zero i),⟨rfl,fun _ _ h =>absurd h (Nat.not_lt_zero _),fun _ _ h =>absurd h (Nat.not_lt_zero _)⟩,by decide,by decide,trivial⟩
theorem Zfo (cap:Nat) (c:Nat→Nat→C):ZdL Tryz.prog 270 [] [.one (.lit (.slice none 0 cap))] [(99999,.rows 44 10 0 c)] (.one (.osl 99999 0)):=by
  refine ZdL.of Tryz.func270 rfl rfl rfl rfl fun S0 w0 =>?_
  exact Zif Zak 8 _ _ [⟨[],[],[],[],[],[],[]⟩,⟨[(1,.r (.one (.lit (.bool true))) [])],[],[],[],[],[],[]⟩,⟨[],[],[],[],[],[],[]⟩] [true] ⟨[],[],[],[],[(2,99999,44,10,c)],[2],[99999],[]⟩
    [∀ w,(do eqGuard .eql 54 (.tmp 3) (.const (.slice none 0 0)) (.slice none 0 cap) (.slice none 0 0); binOp .eql 54 (.slice none 0 cap) (.slice none 0 0):Sem Value).run Tryz.prog w = .ok (.bool true) w,true = true] (by kernel_rfl) ⟨fun w =>by
      have hg:(eqGuard .eql 54 (.tmp 3) (.const (.slice none 0 0)) (.slice none 0 cap) (.slice none 0 0)).run Tryz.prog w = .ok () w:=by simp [eqGuard]
      rw [Sem.run_bind,hg,Result.andThen_ok]
      exact Go.run_eql_slice_nil w _ _ none 0 cap Tryz.underlying54,rfl,trivial⟩
def Zci (a0:List Zaa):Option (List Zaa) :=
  need (a0.length * 80≤140737488355328∧a0.length≤maxLen) <|
  some a0
theorem Zfn (a0:List Zaa) (r:List Zaa) (hf:Zci a0 = some r):ZdL Tryz.prog 270 [] [.one (cL 10 Zaa.c Zaa.d a0)] [(99999,.rows 44 10 r.length (Zaq Zaa.c Zaa.d r))] (.one (.osl 99999 r.length)):=by
  obtain ⟨o1,hf⟩:=Zas hf
  cases hf
  refine ZoA ⟨_,Tryz.func270,rfl,rfl⟩ (fun h cap =>?_) (fun h x cap =>?_) (fun h =>?_)
  · rw [h]; exact Zfo cap _
  · rw [h]; exact Zfp x cap _
  · refine ZeO a0 a0 ?_
    unfold Zcc
    rw [ZnD h,ZnD (by simpa using o1)]
    simp
def Zbg (a0:(List Zaf))  : Nat→Int→Int→Zaf→Option Int
  | 0,_,_,_ =>none
  | fu + 1,v7,v8,b3 =>
    bif (decide (v8 < v7)) then
      need (0≤v8∧v8 < ((a0.length:Nat):Int)) <|
      bif (decide (b3 = (a0.getD v8.toNat Zaf.d))) then
        some v8
      else
        Zbg a0  fu v7 (ZaD v8 (1:Int)) b3
    else
      some (-1:Int)
theorem ZhT (S0:Nat→Prop) (w0:Zbh) (a0:(List Zaf))  : ∀ (fu:Nat) (v7:Int) (v8:Int) (b3:Zaf) (r:Int),Zbg a0  fu v7 v8 b3 = some r→Good Tryz.prog 19 S0 w0 (bodyPost Tryz.prog Tryz.f342 (Post S0 w0 (.one (.lit (.int .i64 r))))) (at_ [1,0,1,0] (ZbM Tryz.f342)) ⟨[(0,.one (cL 4 Zaf.c Zaf.d a0)),(3,.one (.ptr 3 0)),(7,.one (.lit (.int .i64 v7))),(8,.one (.lit (.int .i64 v8)))],[(3,.box [.lit (.bool b3.fAddr.fV6),.lit (.int .u64 b3.fAddr.fHi),.lit (.int .u64 b3.fAddr.fLo),.lit (.int .i64 b3.fPort)])]⟩:=by
  intro fu
  induction fu with
  | zero =>
    intro v7 v8 b3 r hf
    simp [Zbg] at hf
  | succ fu ih =>
    intro v7 v8 b3 r hf
    unfold Zbg at hf
    rcases Zaj hf with ⟨h1,hf⟩ | ⟨h1,hf⟩
    · obtain ⟨o2,hf⟩:=Zas hf
      let R1:List RA:=[rz,rz,rA [(5,aB (decide (b3 = (a0.getD v8.toNat Zaf.d))))],rz]
      have O2:Obl _:=(.c h1 (.c o2 (.c (ZhF b3 (a0.getD v8.toNat Zaf.d) (.tmp 11) (.tmp 15)) .n)))
      rcases Zaj hf with ⟨h3,hf⟩ | ⟨h3,hf⟩
      · obtain rfl:=oi hf
        exact Zai Zak 15 R1 [true,true] [] [] [] (O2.app (.c h3 .n)) (by kernel_rfl) rfl
      · exact ZaI Zak Post.ends 17 R1 [true,false] ⟨[],[],[],[],[],[0,3,7,8],[3],[]⟩ (O2.app (.c h3 .n)) (by kernel_rfl) (ih v7 (ZaD v8 (1:Int)) b3 r hf)
    · obtain rfl:=oi hf
      exact Zai Zak 8 [rz,rz] [false] [] [] [] (.c h1 .n) (by kernel_rfl) rfl
def Zdp (a0:(List Zaf)) (a1:Zaf):Option Int :=
  Zbg a0  ((((a0.length:Nat):Int) - (0:Int)).toNat + 2) ((a0.length:Nat):Int) (0:Int) a1
theorem ZiA (a0:(List Zaf)) (a1:Zaf) (r:Int) (hf:Zdp a0 a1 = some r):Zat Tryz.prog 342 [.one (cL 4 Zaf.c Zaf.d a0),.agg (Zaf.c a1)] (.one (.lit (.int .i64 r))):=by
  refine Zat.of Tryz.func342 rfl rfl rfl rfl fun S0 w0 =>?_
  unfold Zdp at hf
  exact ZaI Zak Post.ends 6 [rz,rz] [] ⟨[],[],[],[],[],[0,3,7,8],[3],[]⟩ .n (by kernel_rfl) (ZhT S0 w0 a0   ((((a0.length:Nat):Int) - (0:Int)).toNat + 2) ((a0.length:Nat):Int) (0:Int) a1 r hf)
def ZbG (a0:(List Zaf)) (a1:Zaf):Option Bool :=
  (Zdp a0 a1).bind fun x1 =>
  some (decide (x1 ≥ (0:Int)))
theorem Zfj (a0:(List Zaf)) (a1:Zaf) (r:Bool) (hf:ZbG a0 a1 = some r):Zat Tryz.prog 290 [.one (cL 4 Zaf.c Zaf.d a0),.agg (Zaf.c a1)] (.one (.lit (.bool r))):=by
  refine Zat.of Tryz.func290 rfl rfl rfl rfl fun S0 w0 =>?_
  unfold ZbG at hf
  obtain ⟨x1,q1,hf⟩:=bind_some' hf
  obtain rfl:=oi hf
  exact Zai Zak 4 [rz,rA [(2,aI x1)]] [] [] [] [] (.c (ZiA _ _ _ q1) .n) (by kernel_rfl) rfl
def Zha (a0:Zaa) (c0:(List Zaf)):Option Bool :=
  (ZbG c0 a0.fEnd).bind fun x1 =>
  some x1
theorem Zlu (a0:Zaa) (c0:(List Zaf)) (r:Bool) (hf:Zha a0 c0 = some r):Zat Tryz.prog 289 [.agg (Zaa.c a0),.one (.rp false 1 (fun j =>([cL 4 Zaf.c Zaf.d c0]:List C).getD (0 + j) .junk))] (.one (.lit (.bool r))):=by
  refine Zat.of Tryz.func289 rfl rfl rfl rfl fun S0 w0 =>?_
  unfold Zha at hf
  obtain ⟨x1,q1,hf⟩:=bind_some' hf
  obtain rfl:=oi hf
  exact Zai Zak 4 [rz,rA [(3,aB x1)]] [] [] [] [] (.c (Zfj _ _ _ q1) .n) (by kernel_rfl) rfl
def ZaG (a0:(List Zaa)) (a1_0:(List Zaf))  : Nat→Int→Int→Option Int
  | 0,_,_ =>none
  | fu + 1,v7,v8 =>
    bif (decide (v8 < v7)) then
      need (0≤v8∧v8 < ((a0.length:Nat):Int)) <|
      (Zha (a0.getD v8.toNat Zaa.d) a1_0).bind fun x1 =>
      bif x1 then
        some v8
      else
        ZaG a0 a1_0  fu v7 (ZaD v8 (1:Int))
    else
      some (-1:Int)
theorem Zgs (S0:Nat→Prop) (w0:Zbh) (a0:(List Zaa)) (a1_0:(List Zaf))  : ∀ (fu:Nat) (v7:Int) (v8:Int) (r:Int),ZaG a0 a1_0  fu v7 v8 = some r→Good Tryz.prog 19 S0 w0 (bodyPost Tryz.prog Tryz.f285 (Post S0 w0 (.one (.lit (.int .i64 r))))) (at_ [1,0,1,0] (ZbM Tryz.f285)) ⟨[(0,.one (cL 10 Zaa.c Zaa.d a0)),(1,.one (.clo (.func 289) 0 1 (fun i =>([]:List C).getD i .junk) (fun i =>([.rp false 1 (fun j =>([cL 4 Zaf.c Zaf.d a1_0]:List C).getD (0 + j) .junk)]:List C).getD i .junk))),(7,.one (.lit (.int .i64 v7))),(8,.one (.lit (.int .i64 v8)))],[]⟩:=by
  intro fu
  induction fu with
  | zero =>
    intro v7 v8 r hf
    simp [ZaG] at hf
  | succ fu ih =>
    intro v7 v8 r hf
    unfold ZaG at hf
    rcases Zaj hf with ⟨h1,hf⟩ | ⟨h1,hf⟩
    · obtain ⟨o2,hf⟩:=Zas hf
      obtain ⟨x1,q3,hf⟩:=bind_some' hf
      have O1:Obl _:=(.c h1 (.c o2 (.c (Zlu _ _ _ q3) .n)))
      rcases Zaj hf with ⟨h4,hf⟩ | ⟨h4,hf⟩
      · obtain rfl:=oi hf
        exact Zai Zak 15 [rz,rz,rA [(5,aB x1)],rz] [true,true] [] [] [] (O1.app (.c h4 .n)) (by kernel_rfl) rfl
      · exact ZaI Zak Post.ends 17 [rz,rz,rA [(5,aB x1)],rz] [true,false] ⟨[],[],[],[],[],[0,1,7,8],[],[]⟩ (O1.app (.c h4 .n)) (by kernel_rfl) (ih v7 (ZaD v8 (1:Int)) r hf)
    · obtain rfl:=oi hf
      exact Zai Zak 8 [rz,rz] [false] [] [] [] (.c h1 .n) (by kernel_rfl) rfl
def ZbB (a0:(List Zaa)) (a1_0:(List Zaf)):Option Int :=
  ZaG a0 a1_0  ((((a0.length:Nat):Int) - (0:Int)).toNat + 2) ((a0.length:Nat):Int) (0:Int)
theorem ZgL (a0:(List Zaa)) (a1_0:(List Zaf)) (r:Int) (hf:ZbB a0 a1_0 = some r):Zat Tryz.prog 285 [.one (cL 10 Zaa.c Zaa.d a0),.one (.clo (.func 289) 0 1 (fun i =>([]:List C).getD i .junk) (fun i =>([.rp false 1 (fun j =>([cL 4 Zaf.c Zaf.d a1_0]:List C).getD (0 + j) .junk)]:List C).getD i .junk))] (.one (.lit (.int .i64 r))):=by
  refine Zat.of Tryz.func285 rfl rfl rfl rfl fun S0 w0 =>?_
  unfold ZbB at hf
  exact ZaI Zak Post.ends 6 [rz,rz] [] ⟨[],[],[],[],[],[0,1,7,8],[],[]⟩ .n (by kernel_rfl) (Zgs S0 w0 a0 a1_0   ((((a0.length:Nat):Int) - (0:Int)).toNat + 2) ((a0.length:Nat):Int) (0:Int) r hf)
def ZaE (a1_0:(List Zaf))  : Nat→Int→Int→(List Zaa)→Option (List Zaa)
  | 0,_,_,_ =>none
  | fu + 1,v5,v6,w100000 =>
    bif (decide (v6 < ((w100000.length:Nat):Int))) then
      need (0≤v6∧v6 < ((w100000.length:Nat):Int)) <|
      (Zha (w100000.getD v6.toNat Zaa.d) a1_0).bind fun x2 =>
      bif (!x2) then
        need (0≤v5∧v5 < ((w100000.length:Nat):Int)) <|
        ZaE a1_0  fu (ZaD v5 (1:Int)) (ZaD v6 (1:Int)) (w100000.set v5.toNat (w100000.getD v6.toNat Zaa.d))
      else
        ZaE a1_0  fu v5 (ZaD v6 (1:Int)) w100000
    else
      need (0≤v5∧v5≤((w100000.length:Nat):Int)∧((w100000.length:Nat):Int)≤((w100000.length:Nat):Int)) <|
      need (v5.toNat + (w100000.length - v5.toNat)≤w100000.length) <|
      need (0≤(0:Int)∧(0:Int)≤v5∧v5≤((w100000.length:Nat):Int)) <|
      need (v5.toNat≤(ZiS w100000 v5.toNat (w100000.length - v5.toNat) Zaa.d).length) <|
      some ((ZiS w100000 v5.toNat (w100000.length - v5.toNat) Zaa.d).take v5.toNat)
theorem Zgp (S0:Nat→Prop) (w0:Zbh) (a1_0:(List Zaf))  : ∀ (fu:Nat) (v5:Int) (v6:Int) (w100000:(List Zaa)) (r:(List Zaa)),ZaE a1_0  fu v5 v6 w100000 = some r→Good Tryz.prog 42 S0 w0 (bodyPost Tryz.prog Tryz.f288 (Zdj S0 w0 [(99999,.rows 44 10 r.length (Zaq Zaa.c Zaa.d r))] (.one (.osl 99999 r.length)))) (at_ [1,1,1,0,1,0] (ZbM Tryz.f288)) ⟨[(0,.one (.osl 100000 w100000.length)),(1,.one (.clo (.func 289) 0 1 (fun i =>([]:List C).getD i .junk) (fun i =>([.rp false 1 (fun j =>([cL 4 Zaf.c Zaf.d a1_0]:List C).getD (0 + j) .junk)]:List C).getD i .junk))),(5,.one (.lit (.int .i64 v5))),(6,.one (.lit (.int .i64 v6)))],[(100000,.rows 44 10 w100000.length (Zaq Zaa.c Zaa.d w100000))]⟩:=by
  intro fu
  induction fu with
  | zero =>
    intro v5 v6 w100000 r hf
    simp [ZaE] at hf
  | succ fu ih =>
    intro v5 v6 w100000 r hf
    unfold ZaE at hf
    rcases Zaj hf with ⟨h3,hf⟩ | ⟨h3,hf⟩
    · obtain ⟨o4,hf⟩:=Zas hf
      obtain ⟨x2,q5,hf⟩:=bind_some' hf
      have O1:Obl _:=(.c h3 (.c o4 (.c (show v6.toNat < w100000.length from (ltOf o4)) (.c (Zlu _ _ _ q5) .n))))
      rcases Zaj hf with ⟨h6,hf⟩ | ⟨h6,hf⟩
      · obtain ⟨o7,hf⟩:=Zas hf
        exact ZaI Zak Zdj.ends 19 [rz,rz,rA [(2,aB x2)],rA [(4,.c (w100000.set v5.toNat (w100000.getD v6.toNat Zaa.d)).length (Zaq Zaa.c Zaa.d (w100000.set v5.toNat (w100000.getD v6.toNat Zaa.d))))],rz,rz] [true,true] ⟨[],[],[],[(100000,((w100000.set v5.toNat (w100000.getD v6.toNat Zaa.d)).length))],[],[0,1,5,6],[100000],[]⟩ (O1.app (.c h6 (.c o7 (.c (show (w100000.set v5.toNat (w100000.getD v6.toNat Zaa.d)).length = w100000.length from List.length_set) (.c (show v5.toNat < w100000.length from (ltOf o7)) (.c (show ExtU 10 w100000.length (Zaq Zaa.c Zaa.d w100000) v5.toNat 0 (Zaa.c (w100000.getD v6.toNat Zaa.d)) (Zaq Zaa.c Zaa.d (w100000.set v5.toNat (w100000.getD v6.toNat Zaa.d))) from (Zwn _ _ _ rfl)) (.c (show (w100000.set v5.toNat (w100000.getD v6.toNat Zaa.d)).length = (w100000.set v5.toNat (w100000.getD v6.toNat Zaa.d)).length from rfl) .n))))))) (by kernel_rfl) (ih (ZaD v5 (1:Int)) (ZaD v6 (1:Int)) (w100000.set v5.toNat (w100000.getD v6.toNat Zaa.d)) r hf)
      · exact ZaI Zak Zdj.ends 17 [rz,rz,rA [(2,aB x2)],rz] [true,false] ⟨[],[],[],[],[],[0,1,5,6],[100000],[]⟩ (O1.app (.c h6 .n)) (by kernel_rfl) (ih v5 (ZaD v6 (1:Int)) w100000 r hf)
    · obtain ⟨o8,hf⟩:=Zas hf
      obtain ⟨o9,hf⟩:=Zas hf
      obtain ⟨o10,hf⟩:=Zas hf
      obtain ⟨o11,hf⟩:=Zas hf
      obtain rfl:=oi hf
      exact Zdc Zak 10 [rz,rA [(3,.c (ZiS w100000 v5.toNat (w100000.length - v5.toNat) Zaa.d).length (Zaq Zaa.c Zaa.d (ZiS w100000 v5.toNat (w100000.length - v5.toNat) Zaa.d)))],rA [(3,.c ((ZiS w100000 v5.toNat (w100000.length - v5.toNat) Zaa.d).take v5.toNat).length (Zaq Zaa.c Zaa.d ((ZiS w100000 v5.toNat (w100000.length - v5.toNat) Zaa.d).take v5.toNat)))]] [false] ⟨[],[],[],[],[],[4],[4],[(4,99999)]⟩ (.c h3 (.c o8 (.c (show (ZiS w100000 v5.toNat (w100000.length - v5.toNat) Zaa.d).length = w100000.length from (Zvo _ _ _ _ o9)) (.c (show ∀ i j,i < w100000.length→j < 10→(i < v5.toNat ∨ v5.toNat + (w100000.length - v5.toNat)≤i)→Zaq Zaa.c Zaa.d (ZiS w100000 v5.toNat (w100000.length - v5.toNat) Zaa.d) i j = Zaq Zaa.c Zaa.d w100000 i j from (ZAf _ _ _ o9)) (.c (show ∀ i j,i < (w100000.length - v5.toNat)→j < 10→Zqc (([.lit (.bool false),.lit (.int .u64 (0)),.lit (.int .u64 (0)),.lit (.int .i64 (0)),.lit (.bool false),.lit (.int .i64 (0)),.lit (.int .i64 (0)),.lit (.int .i64 (0)),.lit (.int .i64 (0)),.lit (.int .i64 (0))]:List C).getD j .junk) (Zaq Zaa.c Zaa.d (ZiS w100000 v5.toNat (w100000.length - v5.toNat) Zaa.d) (v5.toNat + i) j) from (ZAg _ _ _ o9 (fun j hj =>.inl rfl))) (.c o10 (.c (show 0 = 0 from rfl) (.c (show ((ZiS w100000 v5.toNat (w100000.length - v5.toNat) Zaa.d).take v5.toNat).length = v5.toNat from (ZBZ _ _ o11)) (.c (show ∀ i j,i < v5.toNat→j < 10→Zaq Zaa.c Zaa.d ((ZiS w100000 v5.toNat (w100000.length - v5.toNat) Zaa.d).take v5.toNat) i j = Zaq Zaa.c Zaa.d (ZiS w100000 v5.toNat (w100000.length - v5.toNat) Zaa.d) i j from (ZAH _ _)) .n))))))))) (by kernel_rfl)
def Zbu (a0:(List Zaa)) (a1_0:(List Zaf)):Option (List Zaa) :=
  (ZbB a0 a1_0).bind fun x1 =>
  bif (x1 == (-1:Int)) then
    some a0
  else
    ZaE a1_0  ((((a0.length:Nat):Int) - (ZaD x1 (1:Int))).toNat + 2) x1 (ZaD x1 (1:Int)) a0
theorem ZgA (a0:(List Zaa)) (a1_0:(List Zaf)) (r:(List Zaa)) (hf:Zbu a0 a1_0 = some r):ZdL Tryz.prog 288 [(100000,.rows 44 10 a0.length (Zaq Zaa.c Zaa.d a0))] [.one (.osl 100000 a0.length),.one (.clo (.func 289) 0 1 (fun i =>([]:List C).getD i .junk) (fun i =>([.rp false 1 (fun j =>([cL 4 Zaf.c Zaf.d a1_0]:List C).getD (0 + j) .junk)]:List C).getD i .junk))] [(99999,.rows 44 10 r.length (Zaq Zaa.c Zaa.d r))] (.one (.osl 99999 r.length)):=by
  refine ZdL.of Tryz.func288 rfl rfl rfl rfl fun S0 w0 =>?_
  unfold Zbu at hf
  obtain ⟨x1,q1,hf⟩:=bind_some' hf
  have O2:Obl _:=(.c (ZgL _ _ _ q1) .n)
  rcases Zaj hf with ⟨h2,hf⟩ | ⟨h2,hf⟩
  · obtain rfl:=oi hf
    exact Zdc Zak 10 [rz,rA [(2,aI x1)],rz,rz] [true] ⟨[],[],[],[],[],[4],[100000],[(100000,99999)]⟩ (O2.app (.c h2 .n)) (by kernel_rfl)
  · exact ZaI Zak Zdj.ends 13 [rz,rA [(2,aI x1)],rz,rz] [false] ⟨[],[],[],[],[],[0,1,5,6],[100000],[]⟩ (O2.app (.c h2 .n)) (by kernel_rfl) (Zgp S0 w0 a1_0   ((((a0.length:Nat):Int) - (ZaD x1 (1:Int))).toNat + 2) x1 (ZaD x1 (1:Int)) a0 r hf)
def Ziq (a0:(List Zaa)) (a1:(List Zaf)):Option (List Zaa) :=
  (Zci a0).bind fun x1 =>
  (Zbu x1 a1).bind fun x2 =>
  some x2
theorem Zqh (a0:(List Zaa)) (a1:(List Zaf)) (r:(List Zaa)) (hf:Ziq a0 a1 = some r):ZdL Tryz.prog 221 [] [.one (cL 10 Zaa.c Zaa.d a0),.one (cL 4 Zaf.c Zaf.d a1)] [(99999,.rows 44 10 r.length (Zaq Zaa.c Zaa.d r))] (.one (.osl 99999 r.length)):=by
  refine ZdL.of Tryz.func221 rfl rfl rfl rfl fun S0 w0 =>?_
  unfold Ziq at hf
  obtain ⟨x1,q1,hf⟩:=bind_some' hf
  obtain ⟨x2,q2,hf⟩:=bind_some' hf
  obtain rfl:=oi hf
  exact Zdc Zak 4 [rz,⟨[],[],[(2,[3])],[],[],[],[(1,⟨[],[(99999,6)],[(99999,.rows 44 10 x1.length (Zaq Zaa.c Zaa.d x1))],.one (.osl 99999 x1.length)⟩),(3,⟨[(100000,6)],[(99999,8)],[(99999,.rows 44 10 x2.length (Zaq Zaa.c Zaa.d x2))],.one (.osl 99999 x2.length)⟩)]⟩] [] ⟨[],[],[],[],[],[4],[8],[(8,99999)]⟩ (.c (Zfn _ _ q1) (.c (ZgA _ _ _ q2) .n)) (by kernel_rfl)
theorem Zry (a0:(List Zaa)) (a1:(List Zaf)) (r:(List Zaa)) (hf:Ziq a0 a1 = some r):Zat Tryz.prog 221 [.one (cL 10 Zaa.c Zaa.d a0),.one (cL 4 Zaf.c Zaf.d a1)] (.one (cL 10 Zaa.c Zaa.d r)):=(Zqh a0 a1 r hf).pure
def ZbV (a0:(List Zaa))  : Nat→(List Zaa)→Int→Int→(List Int)→Option (List Int)
  | 0,_,_,_,_ =>none
  | fu + 1,v8,v9,v10,w5 =>
    bif (decide (v10 < v9)) then
      need (0≤v10∧v10 < ((v8.length:Nat):Int)) <|
      bif (decide (v10 ≥ ((a0.length:Nat):Int))) then
        need ((w5 ++ ([v10]:List Int)).length * 8≤140737488355328∧(w5 ++ ([v10]:List Int)).length≤maxLen) <|
        ZbV a0  fu v8 v9 (ZaD v10 (1:Int)) (w5 ++ ([v10]:List Int))
      else
        need (0≤v10∧v10 < ((a0.length:Nat):Int)) <|
        bif (!(decide ((a0.getD v10.toNat Zaa.d) = (v8.getD v10.toNat Zaa.d)))) then
          need ((w5 ++ ([v10]:List Int)).length * 8≤140737488355328∧(w5 ++ ([v10]:List Int)).length≤maxLen) <|
          ZbV a0  fu v8 v9 (ZaD v10 (1:Int)) (w5 ++ ([v10]:List Int))
        else
          ZbV a0  fu v8 v9 (ZaD v10 (1:Int)) w5
    else
      some w5
theorem ZnP (S0:Nat→Prop) (w0:Zbh) (a0:(List Zaa))  : ∀ (fu:Nat) (v8:(List Zaa)) (v9:Int) (v10:Int) (w5:(List Int)) (r:(List Int)),ZbV a0  fu v8 v9 v10 w5 = some r→Good Tryz.prog 33 S0 w0 (bodyPost Tryz.prog Tryz.f287 (Zdj S0 w0 [(99999,.rows 3 1 r.length (Zaq (cI .i64) (0:Int) r))] (.one (.osl 99999 r.length)))) (at_ [1,1,0,1,0] (ZbM Tryz.f287)) ⟨[(0,.one (cL 10 Zaa.c Zaa.d a0)),(5,.one (.osl 5 w5.length)),(8,.one (cL 10 Zaa.c Zaa.d v8)),(9,.one (.lit (.int .i64 v9))),(10,.one (.lit (.int .i64 v10)))],[(5,.rows 3 1 w5.length (Zaq (cI .i64) (0:Int) w5))]⟩:=by
  intro fu
  induction fu with
  | zero =>
    intro v8 v9 v10 w5 r hf
    simp [ZbV] at hf
  | succ fu ih =>
    intro v8 v9 v10 w5 r hf
    unfold ZbV at hf
    rcases Zaj hf with ⟨h1,hf⟩ | ⟨h1,hf⟩
    · obtain ⟨o2,hf⟩:=Zas hf
      rcases Zaj hf with ⟨h3,hf⟩ | ⟨h3,hf⟩
      · obtain ⟨o4,hf⟩:=Zas hf
        exact ZaI Zak Zdj.ends 17 [rz,rz,rB [(4,true)],⟨[(3,.c ((w5 ++ ([v10]:List Int)).length) (Zaq (cI .i64) (0:Int) (w5 ++ ([v10]:List Int))))],[],[],[],[],[(2,(([v10]:List Int).length,Zaq (cI .i64) (0:Int) ([v10]:List Int)))],[]⟩,rz] [true,true] ⟨[],[],[],[],[],[0,5,8,9,10],[30],[(30,5)]⟩ (.c h1 (.c o2 (.c h3 (.c (show true = true from rfl) (.c (show ([v10]:List Int).length = 1∧∀ i j,i < 1→j < 1→Zaq (cI .i64) (0:Int) ([v10]:List Int) i j = (([v10]:List Int).flatMap (cI .i64)).getD (i * 1 + j) .junk from ⟨rfl,fun i j hi hj =>ZaS (sz:=1) (e:=(cI .i64)) (d:=(0:Int)) (fun _ =>rfl) ([v10]:List Int) i j hi hj⟩) (.c (ZfF (sz:=1) (e:=(cI .i64)) (d:=(0:Int)) w5 ([v10]:List Int)) (.c o4.1 (.c o4.2 .n)))))))) (by kernel_rfl) (ih v8 v9 (ZaD v10 (1:Int)) (w5 ++ ([v10]:List Int)) r hf)
      · obtain ⟨o5,hf⟩:=Zas hf
        let R1:List RA:=[rz,rz,⟨[(10,aB (!(decide ((a0.getD v10.toNat Zaa.d) = (v8.getD v10.toNat Zaa.d)))))],[(4,false)],[],[],[],[],[]⟩]
        have O2:Obl _:=(.c h1 (.c o2 (.c h3 (.c o5 (.c (ZkW (a0.getD v10.toNat Zaa.d) (v8.getD v10.toNat Zaa.d) (.tmp 23) (.tmp 24)) .n)))))
        rcases Zaj hf with ⟨h6,hf⟩ | ⟨h6,hf⟩
        · obtain ⟨o7,hf⟩:=Zas hf
          exact ZaI Zak Zdj.ends 17 (R1 ++ [⟨[(3,.c ((w5 ++ ([v10]:List Int)).length) (Zaq (cI .i64) (0:Int) (w5 ++ ([v10]:List Int))))],[],[],[],[],[(2,(([v10]:List Int).length,Zaq (cI .i64) (0:Int) ([v10]:List Int)))],[]⟩,rz]) [true,true] ⟨[],[],[],[],[],[0,5,8,9,10],[30],[(30,5)]⟩ (O2.app (.c h6 (.c (show ([v10]:List Int).length = 1∧∀ i j,i < 1→j < 1→Zaq (cI .i64) (0:Int) ([v10]:List Int) i j = (([v10]:List Int).flatMap (cI .i64)).getD (i * 1 + j) .junk from ⟨rfl,fun i j hi hj =>ZaS (sz:=1) (e:=(cI .i64)) (d:=(0:Int)) (fun _ =>rfl) ([v10]:List Int) i j hi hj⟩) (.c (ZfF (sz:=1) (e:=(cI .i64)) (d:=(0:Int)) w5 ([v10]:List Int)) (.c o7.1 (.c o7.2 .n)))))) (by kernel_rfl) (ih v8 v9 (ZaD v10 (1:Int)) (w5 ++ ([v10]:List Int)) r hf)
        · exact ZaI Zak Zdj.ends 17 (R1 ++ [rz]) [true,false] ⟨[],[],[],[],[],[0,5,8,9,10],[5],[]⟩ (O2.app (.c h6 .n)) (by kernel_rfl) (ih v8 v9 (ZaD v10 (1:Int)) w5 r hf)
    · obtain rfl:=oi hf
      exact Zdc Zak 8 [rz,rz] [false] ⟨[],[],[],[],[],[4],[5],[(5,99999)]⟩ (.c h1 .n) (by kernel_rfl)
def ZgZ (a0:(List Zaa)) (a1:(List Zaa)):Option (List Int) :=
  ZbV a0  ((((a1.length:Nat):Int) - (0:Int)).toNat + 2) a1 ((a1.length:Nat):Int) (0:Int) ([])
theorem ZoY (a0:(List Zaa)) (a1:(List Zaa)) (r:(List Int)) (hf:ZgZ a0 a1 = some r):ZdL Tryz.prog 287 [] [.one (cL 10 Zaa.c Zaa.d a0),.one (cL 10 Zaa.c Zaa.d a1)] [(99999,.rows 3 1 r.length (Zaq (cI .i64) (0:Int) r))] (.one (.osl 99999 r.length)):=by
  refine ZdL.of Tryz.func287 rfl rfl rfl rfl fun S0 w0 =>?_
  unfold ZgZ at hf
  exact ZaI Zak Zdj.ends 8 [rz,rz,rz] [] ⟨[],[],[],[],[(5,5,3,1,Zaq (cI .i64) (0:Int) [])],[0,5,8,9,10],[5],[]⟩ .n (by kernel_rfl) (ZnP S0 w0 a0   ((((a1.length:Nat):Int) - (0:Int)).toNat + 2) a1 ((a1.length:Nat):Int) (0:Int) ([]) r hf)
theorem ZpN (a0:(List Zaa)) (a1:(List Zaa)) (r:(List Int)) (hf:ZgZ a0 a1 = some r):Zat Tryz.prog 287 [.one (cL 10 Zaa.c Zaa.d a0),.one (cL 10 Zaa.c Zaa.d a1)] (.one (cL 1 (cI .i64) (0:Int) r)):=(ZoY a0 a1 r hf).pure
def Zcf (a0:Zal) (a1:Zan) (a2:Zae) (a3:Bool):Option (Tout Unit) :=
  (Zch a0 (Zao.mk (6:Int) (0:Int) a1 (0:Int) (0:Int) a2 a3)).bind fun x1 =>
  (match x1 with
  | .ret x1v x1g =>
    some (Tout.ret () x1g)
  | .pan x1o =>
    some (Tout.pan x1o)
  | .bad x1s =>
    some (Tout.bad x1s))
theorem ZbS (a0:Zal) (a1:Zan) (a2:Zae) (a3:Bool) (r:(Tout Unit)) (hf:Zcf a0 a1 a2 a3 = some r):ZfM Tryz.prog 467 [(100000,.box (Zal.c a0))] [.one (.ptr 100000 0),.agg (Zan.c a1),.agg (Zae.c a2),.one (.lit (.bool a3))] (oc (fun x =>.tup []) r):=by
  refine ZfM.of Tryz.func467 rfl rfl rfl rfl fun S0 w0 =>?_
  unfold Zcf at hf
  obtain ⟨x1,q1,hf⟩:=bind_some' hf
  cases x1 with
  | ret x1v x1g =>
    dsimp only at hf
    obtain rfl:=oi hf
    exact Zcg Zak 3 [rz,rH [] [(5,⟨[(100000,100000)],[],[(100000,.box (Zal.c x1g))],.agg (Zae.c x1v)⟩)]] [] ⟨[],[],[],[],[],[],[100000],[]⟩ [100000] (.c (ZbJ _ _ _ q1) .n) (by kernel_rfl)
  | _ =>
    dsimp only at hf
    obtain rfl:=oi hf
    exact ZaC Zak 2 _ _ [rz] [] (rz) 5 ⟨[(100000,100000)],pvOf q1⟩ (.c (ZbJ _ _ _ q1) .n) (by kernel_rfl)
def ZcT (a1:Int) (a2:(List Zaa)) (a3:(List Zaa))  : Nat→(List Int)→Int→Int→Zal→Option (Tout Unit)
  | 0,_,_,_,_ =>none
  | fu + 1,v12,v13,v14,b100000 =>
    bif (decide (v14 < v13)) then
      need (0≤v14∧v14 < ((v12.length:Nat):Int)) <|
      (Zhn a1 (v12.getD v14.toNat (0:Int))).bind fun x2 =>
      need (0≤(v12.getD v14.toNat (0:Int))∧(v12.getD v14.toNat (0:Int)) < ((a3.length:Nat):Int)) <|
      (Zcf b100000 x2 (Zae.mk (0:Int) (a3.getD (v12.getD v14.toNat (0:Int)).toNat Zaa.d) ([]:(List Zab)) ([]:(List Zac))) false).bind fun x3 =>
      (match x3 with
      | .ret x3v x3g =>
        ZcT a1 a2 a3  fu v12 v13 (ZaD v14 (1:Int)) x3g
      | .pan x3o =>
        some (Tout.pan x3o)
      | .bad x3s =>
        some (Tout.bad x3s))
    else
      bif (((a2.length:Nat):Int) != ((a3.length:Nat):Int)) then
        (Zho a1).bind fun x4 =>
        (Zcf b100000 x4 (Zae.mk ((a3.length:Nat):Int) (Zaa.mk (Zaf.mk (Zag.mk false (0:Int) (0:Int)) (0:Int)) false (0:Int) (Zah.mk (0:Int) (0:Int)) (0:Int) (0:Int)) ([]:(List Zab)) ([]:(List Zac))) false).bind fun x5 =>
        (match x5 with
        | .ret x5v x5g =>
          some (Tout.ret () x5g)
        | .pan x5o =>
          some (Tout.pan x5o)
        | .bad x5s =>
          some (Tout.bad x5s))
      else
        some (Tout.ret () b100000)
theorem ZoX (S0:Nat→Prop) (w0:Zbh) (a1:Int) (a2:(List Zaa)) (a3:(List Zaa))  : ∀ (fu:Nat) (v12:(List Int)) (v13:Int) (v14:Int) (b100000:Zal) (r:(Tout Unit)),ZcT a1 a2 a3  fu v12 v13 v14 b100000 = some r→Good Tryz.prog 47 S0 w0 (bodyPost Tryz.prog Tryz.f220 (ZoC S0 w0 (oc (fun x =>.tup []) r))) (at_ [0,1,0] (ZbM Tryz.f220)) ⟨[(0,.one (.ifc 112 (.ptr 100000 0))),(1,.one (.lit (.int .i64 a1))),(2,.one (cL 10 Zaa.c Zaa.d a2)),(3,.one (cL 10 Zaa.c Zaa.d a3)),(12,.one (cL 1 (cI .i64) (0:Int) v12)),(13,.one (.lit (.int .i64 v13))),(14,.one (.lit (.int .i64 v14)))],[(100000,.box [cL 13 Zae.c Zae.d b100000.fgot])]⟩:=by
  intro fu
  induction fu with
  | zero =>
    intro v12 v13 v14 b100000 r hf
    simp [ZcT] at hf
  | succ fu ih =>
    intro v12 v13 v14 b100000 r hf
    unfold ZcT at hf
    rcases Zaj hf with ⟨h2,hf⟩ | ⟨h2,hf⟩
    · obtain ⟨o3,hf⟩:=Zas hf
      obtain ⟨x2,q4,hf⟩:=bind_some' hf
      obtain ⟨o5,hf⟩:=Zas hf
      have O1:Obl _:=(.c h2 (.c o3 (.c (Zob _ _ _ q4) (.c o5 (.c ZlV .n)))))
      obtain ⟨x3,q6,hf⟩:=bind_some' hf
      cases x3 with
      | ret x3v x3g =>
        dsimp only at hf
        exact ZaI Zak ZoC.ends 14 [rz,rz,⟨[(3,aG (Zan.c x2)),(12,.id 467)],[],[],[],[(8,[(11,cL 5 Zab.c Zab.d []),(12,cL 7 Zac.c Zac.d [])])],[],[(12,⟨[(100000,100000)],[],[(100000,.box (Zal.c x3g))],.tup []⟩)]⟩,rz] [true] ⟨[],[],[],[],[],[0,1,2,3,12,13,14],[100000],[]⟩ (O1.app (.c (ZbS _ _ _ _ _ q6) (.c ZgY .n))) (by kernel_rfl) (ih v12 v13 (ZaD v14 (1:Int)) x3g r hf)
      | _ =>
        dsimp only at hf
        obtain rfl:=oi hf
        exact ZaC Zak 10 _ _ [rz,rz] [true] (⟨[(3,aG (Zan.c x2)),(12,.id 467)],[],[],[],[(8,[(11,cL 5 Zab.c Zab.d []),(12,cL 7 Zac.c Zac.d [])])],[],[]⟩) 12 ⟨[(100000,100000)],pvOf q6⟩ (O1.app (.c (ZbS _ _ _ _ _ q6) (.c ZgY .n))) (by kernel_rfl)
    · rcases Zaj hf with ⟨h7,hf⟩ | ⟨h7,hf⟩
      · obtain ⟨x4,q8,hf⟩:=bind_some' hf
        have O2:Obl _:=(.c h2 (.c h7 (.c (Zoc _ _ q8) (.c ZlV .n))))
        obtain ⟨x5,q9,hf⟩:=bind_some' hf
        cases x5 with
        | ret x5v x5g =>
          dsimp only at hf
          obtain rfl:=oi hf
          exact Zcg Zak 10 [rz,rz,⟨[(2,aG (Zan.c x4)),(9,.id 467)],[],[],[],[(5,[(11,cL 5 Zab.c Zab.d []),(12,cL 7 Zac.c Zac.d [])])],[],[(9,⟨[(100000,100000)],[],[(100000,.box (Zal.c x5g))],.tup []⟩)]⟩] [false,true] ⟨[],[],[],[],[],[],[100000],[]⟩ [100000] (O2.app (.c (ZbS _ _ _ _ _ q9) (.c ZgY .n))) (by kernel_rfl)
        | _ =>
          dsimp only at hf
          obtain rfl:=oi hf
          exact ZaC Zak 9 _ _ [rz,rz] [false,true] (⟨[(2,aG (Zan.c x4)),(9,.id 467)],[],[],[],[(5,[(11,cL 5 Zab.c Zab.d []),(12,cL 7 Zac.c Zac.d [])])],[],[]⟩) 9 ⟨[(100000,100000)],pvOf q9⟩ (O2.app (.c (ZbS _ _ _ _ _ q9) (.c ZgY .n))) (by kernel_rfl)
      · obtain rfl:=oi hf
        exact Zcg Zak 10 [rz,rz] [false,false] ⟨[],[],[],[],[],[],[100000],[]⟩ [100000] (.c h2 (.c h7 .n)) (by kernel_rfl)
def Zhp (a0:Zal) (a1:Int) (a2:(List Zaa)) (a3:(List Zaa)):Option (Tout Unit) :=
  (ZgZ a2 a3).bind fun x1 =>
  ZcT a1 a2 a3  ((((x1.length:Nat):Int) - (0:Int)).toNat + 2) x1 ((x1.length:Nat):Int) (0:Int) a0
theorem Zmu (a0:Zal) (a1:Int) (a2:(List Zaa)) (a3:(List Zaa)) (r:(Tout Unit)) (hf:Zhp a0 a1 a2 a3 = some r):ZfM Tryz.prog 220 [(100000,.box (Zal.c a0))] [.one (.ifc 112 (.ptr 100000 0)),.one (.lit (.int .i64 a1)),.one (cL 10 Zaa.c Zaa.d a2),.one (cL 10 Zaa.c Zaa.d a3)] (oc (fun x =>.tup []) r):=by
  refine ZfM.of Tryz.func220 rfl rfl rfl rfl fun S0 w0 =>?_
  unfold Zhp at hf
  obtain ⟨x1,q1,hf⟩:=bind_some' hf
  exact ZaI Zak ZoC.ends 4 [rA [(2,.r (.one (cL 1 (cI .i64) (0:Int) x1)) [])]] [] ⟨[],[],[],[],[],[0,1,2,3,12,13,14],[100000],[]⟩ (.c (ZpN _ _ _ q1) .n) (by kernel_rfl) (ZoX S0 w0 a1 a2 a3   ((((x1.length:Nat):Int) - (0:Int)).toNat + 2) x1 ((x1.length:Nat):Int) (0:Int) a0 r hf)
def ZdS (a0:Zav) (a1:Zal) (a2:(List Zaa)) (a3:(List Zaf)):Option (Tout Unit) :=
  (ZdI a0).bind fun x1 =>
  (Ziq a2 a3).bind fun x2 =>
  (Zhp a1 x1 a2 x2).bind fun x3 =>
  (match x3 with
  | .ret x3v x3g =>
    some (Tout.ret () x3g)
  | .pan x3o =>
    some (Tout.pan x3o)
  | .bad x3s =>
    some (Tout.bad x3s))
theorem ZcP (a0:Zav) (a1:Zal) (a2:(List Zaa)) (a3:(List Zaf)) (r:(Tout Unit)) (hf:ZdS a0 a1 a2 a3 = some r):ZfM Tryz.prog 139 [(100000,.box (Zal.c a1))] [.agg (Zav.c a0),.one (.ifc 112 (.ptr 100000 0)),.one (cL 10 Zaa.c Zaa.d a2),.one (cL 4 Zaf.c Zaf.d a3)] (oc (fun x =>.tup []) r):=by
  refine ZfM.of Tryz.func139 rfl rfl rfl rfl fun S0 w0 =>?_
  unfold ZdS at hf
  obtain ⟨x1,q1,hf⟩:=bind_some' hf
  obtain ⟨x2,q2,hf⟩:=bind_some' hf
  have O1:Obl _:=(.c (Zgu _ _ q1) (.c (Zry _ _ _ q2) .n))
  obtain ⟨x3,q3,hf⟩:=bind_some' hf
  cases x3 with
  | ret x3v x3g =>
    dsimp only at hf
    obtain rfl:=oi hf
    exact Zcg Zak 3 [rz,rH [(2,aI x1),(6,.r (.one (cL 10 Zaa.c Zaa.d x2)) [])] [(7,⟨[(100000,100000)],[],[(100000,.box (Zal.c x3g))],.tup []⟩)]] [] ⟨[],[],[],[],[],[],[100000],[]⟩ [100000] (O1.app (.c (Zmu _ _ _ _ _ q3) .n)) (by kernel_rfl)
  | _ =>
    dsimp only at hf
    obtain rfl:=oi hf
    exact ZaC Zak 2 _ _ [rz] [] (rA [(2,aI x1),(6,.r (.one (cL 10 Zaa.c Zaa.d x2)) [])]) 7 ⟨[(100000,100000)],pvOf q3⟩ (O1.app (.c (Zmu _ _ _ _ _ q3) .n)) (by kernel_rfl)
def ZfT (a0:Zal) (a1:Zan) (a2:Int) (a3:Int) (a4:Bool):Option (Tout Bool) :=
  (Zch a0 (Zao.mk (7:Int) (0:Int) a1 a2 a3 (Zae.mk (0:Int) (Zaa.mk (Zaf.mk (Zag.mk false (0:Int) (0:Int)) (0:Int)) false (0:Int) (Zah.mk (0:Int) (0:Int)) (0:Int) (0:Int)) ([]:(List Zab)) ([]:(List Zac))) a4)).bind fun x1 =>
  (match x1 with
  | .ret x1v x1g =>
    some (Tout.ret (x1v.fN == (1:Int)) x1g)
  | .pan x1o =>
    some (Tout.pan x1o)
  | .bad x1s =>
    some (Tout.bad x1s))
theorem ZjN (a0:Zal) (a1:Zan) (a2:Int) (a3:Int) (a4:Bool) (r:(Tout Bool)) (hf:ZfT a0 a1 a2 a3 a4 = some r):ZfM Tryz.prog 468 [(100000,.box (Zal.c a0))] [.one (.ptr 100000 0),.agg (Zan.c a1),.one (.lit (.int .i64 a2)),.one (.lit (.int .i64 a3)),.one (.lit (.bool a4))] (oc (fun x =>.one (.lit (.bool x))) r):=by
  refine ZfM.of Tryz.func468 rfl rfl rfl rfl fun S0 w0 =>?_
  unfold ZfT at hf
  obtain ⟨x1,q1,hf⟩:=bind_some' hf
  cases x1 with
  | ret x1v x1g =>
    dsimp only at hf
    obtain rfl:=oi hf
    exact Zcg Zak 4 [rz,⟨[],[],[],[],[(5,[(18,cL 5 Zab.c Zab.d []),(19,cL 7 Zac.c Zac.d [])])],[],[(6,⟨[(100000,100000)],[],[(100000,.box (Zal.c x1g))],.agg (Zae.c x1v)⟩)]⟩] [] ⟨[],[],[],[],[],[10],[100000],[]⟩ [100000] (.c (ZbJ _ _ _ q1) .n) (by kernel_rfl)
  | _ =>
    dsimp only at hf
    obtain rfl:=oi hf
    exact ZaC Zak 3 _ _ [rz] [] (⟨[],[],[],[],[(5,[(18,cL 5 Zab.c Zab.d []),(19,cL 7 Zac.c Zac.d [])])],[],[]⟩) 6 ⟨[(100000,100000)],pvOf q1⟩ (.c (ZbJ _ _ _ q1) .n) (by kernel_rfl)
def Zew (a2:Int) (a3:Bool)  : Nat→Zal→Zan→Option (Tout Unit)
  | 0,_,_ =>none
  | fu + 1,b100000,b8 =>
    (Zdb b100000 b8 false).bind fun x1 =>
    (match x1 with
    | .ret x1v x1g =>
      (ZfT x1g b8 x1v.fN (ZaD x1v.fN a2) a3).bind fun x2 =>
      (match x2 with
      | .ret x2v x2g =>
        bif x2v then
          some (Tout.ret () x2g)
        else
          Zew a2 a3  fu x2g b8
      | .pan x2o =>
        some (Tout.pan x2o)
      | .bad x2s =>
        some (Tout.bad x2s))
    | .pan x1o =>
      some (Tout.pan x1o)
    | .bad x1s =>
      some (Tout.bad x1s))
theorem ZpL (S0:Nat→Prop) (w0:Zbh) (a2:Int) (a3:Bool)  : ∀ (fu:Nat) (b100000:Zal) (b8:Zan) (r:(Tout Unit)),Zew a2 a3  fu b100000 b8 = some r→Good Tryz.prog 24 S0 w0 (bodyPost Tryz.prog Tryz.f140 (ZoC S0 w0 (oc (fun x =>.tup []) r))) (at_ [1,0] (ZbM Tryz.f140)) ⟨[(0,.one (.ifc 112 (.ptr 100000 0))),(2,.one (.lit (.int .i64 a2))),(3,.one (.lit (.bool a3))),(8,.one (.ptr 8 0))],[(100000,.box [cL 13 Zae.c Zae.d b100000.fgot]),(8,.box [.lit (.int .i64 b8.fKind),.lit (.int .i64 b8.fShard),.lit (.int .i64 b8.fSlot)])]⟩:=by
  intro fu
  induction fu with
  | zero =>
    intro b100000 b8 r hf
    simp [Zew] at hf
  | succ fu ih =>
    intro b100000 b8 r hf
    unfold Zew at hf
    obtain ⟨x1,q1,hf⟩:=bind_some' hf
    cases x1 with
    | ret x1v x1g =>
      dsimp only at hf
      let R1:List RA:=[rH [(2,.id 463)] [(2,⟨[(100000,100000)],[],[(100000,.box (Zal.c x1g))],.agg (Zae.c x1v)⟩)]]
      have O2:Obl _:=(.c (Zcd _ _ _ _ q1) (.c ZhR .n))
      obtain ⟨x2,q2,hf⟩:=bind_some' hf
      cases x2 with
      | ret x2v x2g =>
        dsimp only at hf
        let R3:List RA:=(R1 ++ [rH [(7,.id 468)] [(7,⟨[(100000,100000)],[],[(100000,.box (Zal.c x2g))],.one (.lit (.bool x2v))⟩)]])
        have O4:Obl _:=(O2.app (.c (ZjN _ _ _ _ _ _ q2) (.c ZuN .n)))
        rcases Zaj hf with ⟨h3,hf⟩ | ⟨h3,hf⟩
        · obtain rfl:=oi hf
          exact Zcg Zak 7 R3 [true] ⟨[],[],[],[],[],[],[100000],[]⟩ [100000] (O4.app (.c h3 .n)) (by kernel_rfl)
        · exact ZaI Zak ZoC.ends 10 R3 [false] ⟨[],[],[],[],[],[0,2,3,8],[100000,8],[]⟩ (O4.app (.c h3 .n)) (by kernel_rfl) (ih x2g b8 r hf)
      | _ =>
        dsimp only at hf
        obtain rfl:=oi hf
        exact ZaC Zak 5 _ _ R1 [] (rA [(7,.id 468)]) 7 ⟨[(100000,100000)],pvOf q2⟩ (O2.app (.c (ZjN _ _ _ _ _ _ q2) (.c ZuN .n))) (by kernel_rfl)
    | _ =>
      dsimp only at hf
      obtain rfl:=oi hf
      exact ZaC Zak 3 _ _ [] [] (rA [(2,.id 463)]) 2 ⟨[(100000,100000)],pvOf q1⟩ (.c (Zcd _ _ _ _ q1) (.c ZhR .n)) (by kernel_rfl)
def Zfx (a0:Zal) (a1:Int) (a2:Int) (a3:Bool):Option (Tout Unit) :=
  Zew a2 a3  1000000 a0 (Zan.mk a1 (0:Int) (0:Int))
theorem Zdw (a0:Zal) (a1:Int) (a2:Int) (a3:Bool) (r:(Tout Unit)) (hf:Zfx a0 a1 a2 a3 = some r):ZfM Tryz.prog 140 [(100000,.box (Zal.c a0))] [.one (.ifc 112 (.ptr 100000 0)),.one (.lit (.int .i64 a1)),.one (.lit (.int .i64 a2)),.one (.lit (.bool a3))] (oc (fun x =>.tup []) r):=by
  refine ZfM.of Tryz.func140 rfl rfl rfl rfl fun S0 w0 =>?_
  unfold Zfx at hf
  exact ZaI Zak ZoC.ends 3 [rz] [] ⟨[],[],[],[],[],[0,2,3,8],[100000,8],[]⟩ .n (by kernel_rfl) (ZpL S0 w0 a2 a3   1000000 a0 (Zan.mk a1 (0:Int) (0:Int)) r hf)
def ZbU (a0:(List Zac)):Option (List Zac) :=
  need (0 < a0.length) <|
  need ((([]:List Zac) ++ a0).length * 56≤140737488355328∧(([]:List Zac) ++ a0).length≤maxLen) <|
  some (([]:List Zac) ++ a0)
theorem ZeH (a0:(List Zac)) (r:(List Zac)) (hf:ZbU a0 = some r):ZdL Tryz.prog 277 [] [.one (cL 7 Zac.c Zac.d a0)] [(99999,.rows 106 7 r.length (Zaq Zac.c Zac.d r))] (.one (.osl 99999 r.length)):=by
  refine ZdL.of Tryz.func277 rfl rfl rfl rfl fun S0 w0 =>?_
  unfold ZbU at hf
  obtain ⟨o1,hf⟩:=Zas hf
  obtain ⟨o2,hf⟩:=Zas hf
  obtain rfl:=oi hf
  exact Zdc Zak 9 [rz,rz,rA [(0,.c ([]:List Zac).length (Zaq Zac.c Zac.d ([]:List Zac))),(2,.c ((([]:List Zac) ++ a0).length) (Zaq Zac.c Zac.d (([]:List Zac) ++ a0)))]] [false] ⟨[],[],[],[],[],[2],[7],[(7,99999)]⟩ (.c o1 (.c (show false = false from rfl) (.c (show ([]:List Zac).length = 0 from rfl) (.c (show ∀ i j,i < 0→j < 7→Zaq Zac.c Zac.d ([]:List Zac) i j = (([]:List Zac).flatMap Zac.c).getD (i * 7 + j) .junk from (fun i j hi hj =>ZaS (sz:=7) (e:=Zac.c) (d:=Zac.d) (fun _ =>rfl) ([]:List Zac) i j hi hj)) (.c (ZfF (sz:=7) (e:=Zac.c) (d:=Zac.d) ([]:List Zac) a0) (.c o2.1 (.c o2.2 .n))))))) (by kernel_rfl)
theorem ZeR (x:Addr) (cap:Nat) (c:Nat→Nat→C):ZdL Tryz.prog 277 [] [.one (.lit (.slice (some x) 0 cap))] [(99999,.rows 106 7 0 c)] (.one (.osl 99999 0)):=by
  refine ZdL.of Tryz.func277 rfl rfl rfl rfl fun S0 w0 =>?_
  exact Zif Zak 9 _ _ [⟨[],[],[],[],[],[],[]⟩,⟨[(1,.r (.one (.lit (.bool false))) [])],[],[],[],[],[],[]⟩,⟨[(0,.c 0 c),(2,.c 0 c)],[],[],[],[],[],[]⟩] [false] ⟨[],[],[],[],[],[2],[7],[(7,99999)]⟩
    [∀ w,(do eqGuard .eql 46 (.tmp 3) (.const (.slice none 0 0)) (.slice (some x) 0 cap) (.slice none 0 0); binOp .eql 46 (.slice (some x) 0 cap) (.slice none 0 0):Sem Value).run Tryz.prog w = .ok (.bool false) w,false = false,0 = 0,∀ i j,i < 0→j < 7→c i j = ([]:List C).getD (i * 7 + j) .junk,Ext 7 0 0 c (fun _ _ =>.junk) 0 c,0 * 56≤140737488355328,0≤maxLen] (by kernel_rfl) ⟨fun w =>by
      have hg:(eqGuard .eql 46 (.tmp 3) (.const (.slice none 0 0)) (.slice (some x) 0 cap) (.slice none 0 0)).run Tryz.prog w = .ok () w:=by simp [eqGuard]
      rw [Sem.run_bind,hg,Result.andThen_ok]
      exact Go.run_eql_slice_nil w _ _ (some x) 0 cap Tryz.underlying46,rfl,rfl,fun i j h =>absurd h (Nat.not_lt_zero i),⟨rfl,fun _ _ h =>absurd h (Nat.not_lt_zero _),fun _ _ h =>absurd h (Nat.not_lt_zero _)⟩,by decide,by decide,trivial⟩
theorem ZeQ (cap:Nat) (c:Nat→Nat→C):ZdL Tryz.prog 277 [] [.one (.lit (.slice none 0 cap))] [(99999,.rows 106 7 0 c)] (.one (.osl 99999 0)):=by
  refine ZdL.of Tryz.func277 rfl rfl rfl rfl fun S0 w0 =>?_
  exact Zif Zak 8 _ _ [⟨[],[],[],[],[],[],[]⟩,⟨[(1,.r (.one (.lit (.bool true))) [])],[],[],[],[],[],[]⟩,⟨[],[],[],[],[],[],[]⟩] [true] ⟨[],[],[],[],[(2,99999,106,7,c)],[2],[99999],[]⟩
    [∀ w,(do eqGuard .eql 46 (.tmp 3) (.const (.slice none 0 0)) (.slice none 0 cap) (.slice none 0 0); binOp .eql 46 (.slice none 0 cap) (.slice none 0 0):Sem Value).run Tryz.prog w = .ok (.bool true) w,true = true] (by kernel_rfl) ⟨fun w =>by
      have hg:(eqGuard .eql 46 (.tmp 3) (.const (.slice none 0 0)) (.slice none 0 cap) (.slice none 0 0)).run Tryz.prog w = .ok () w:=by simp [eqGuard]
      rw [Sem.run_bind,hg,Result.andThen_ok]
      exact Go.run_eql_slice_nil w _ _ none 0 cap Tryz.underlying46,rfl,trivial⟩
def Zbs (a0:List Zac):Option (List Zac) :=
  need (a0.length * 56≤140737488355328∧a0.length≤maxLen) <|
  some a0
theorem ZeP (a0:List Zac) (r:List Zac) (hf:Zbs a0 = some r):ZdL Tryz.prog 277 [] [.one (cL 7 Zac.c Zac.d a0)] [(99999,.rows 106 7 r.length (Zaq Zac.c Zac.d r))] (.one (.osl 99999 r.length)):=by
  obtain ⟨o1,hf⟩:=Zas hf
  cases hf
  refine ZoA ⟨_,Tryz.func277,rfl,rfl⟩ (fun h cap =>?_) (fun h x cap =>?_) (fun h =>?_)
  · rw [h]; exact ZeQ cap _
  · rw [h]; exact ZeR x cap _
  · refine ZeH a0 a0 ?_
    unfold ZbU
    rw [ZnD h,ZnD (by simpa using o1)]
    simp
def ZkQ (a0:Zac):Option Zac :=
  some (Zac.mk a0.fEnd (1:Int) a0.fFails a0.fNext)
theorem ZrB (a0:Zac) (r:Zac) (hf:ZkQ a0 = some r):Zat Tryz.prog 268 [.agg (Zac.c a0)] (.agg (Zac.c r)):=by
  refine Zat.of Tryz.func268 rfl rfl rfl rfl fun S0 w0 =>?_
  unfold ZkQ at hf
  obtain rfl:=oi hf
  exact Zai Zak 6 [rz,rz,rz] [] [] [] [] .n (by kernel_rfl) rfl
def ZdN (a1:(List Zaf))  : Nat→Int→Int→(List Zac)→Option (List Zac)
  | 0,_,_,_ =>none
  | fu + 1,v11,v12,w9 =>
    bif (decide (v12 < v11)) then
      need (0≤v12∧v12 < ((w9.length:Nat):Int)) <|
      bif ((w9.getD v12.toNat Zac.d).fState == (3:Int)) then
        (ZbG a1 ((w9.getD v12.toNat Zac.d).fEnd)).bind fun x2 =>
        bif x2 then
          (ZkQ (w9.getD v12.toNat Zac.d)).bind fun x3 =>
          ZdN a1  fu v11 (ZaD v12 (1:Int)) (w9.set v12.toNat x3)
        else
          ZdN a1  fu v11 (ZaD v12 (1:Int)) w9
      else
        ZdN a1  fu v11 (ZaD v12 (1:Int)) w9
    else
      some w9
theorem ZpP (S0:Nat→Prop) (w0:Zbh) (a1:(List Zaf))  : ∀ (fu:Nat) (v11:Int) (v12:Int) (w9:(List Zac)) (r:(List Zac)),ZdN a1  fu v11 v12 w9 = some r→Good Tryz.prog 33 S0 w0 (bodyPost Tryz.prog Tryz.f291 (Zdj S0 w0 [(99999,.rows 106 7 r.length (Zaq Zac.c Zac.d r))] (.one (.osl 99999 r.length)))) (at_ [1,1,0,1,0] (ZbM Tryz.f291)) ⟨[(1,.one (cL 4 Zaf.c Zaf.d a1)),(5,.one (.osl 9 w9.length)),(10,.one (.osl 9 w9.length)),(11,.one (.lit (.int .i64 v11))),(12,.one (.lit (.int .i64 v12)))],[(9,.rows 106 7 w9.length (Zaq Zac.c Zac.d w9))]⟩:=by
  intro fu
  induction fu with
  | zero =>
    intro v11 v12 w9 r hf
    simp [ZdN] at hf
  | succ fu ih =>
    intro v11 v12 w9 r hf
    unfold ZdN at hf
    rcases Zaj hf with ⟨h2,hf⟩ | ⟨h2,hf⟩
    · obtain ⟨o3,hf⟩:=Zas hf
      have O1:Obl _:=(.c h2 (.c o3 (.c (show v12.toNat < w9.length from (ltOf o3)) .n)))
      rcases Zaj hf with ⟨h4,hf⟩ | ⟨h4,hf⟩
      · obtain ⟨x2,q5,hf⟩:=bind_some' hf
        let R2:List RA:=[rz,rz,⟨[(7,aB x2)],[(3,true)],[],[],[],[],[]⟩]
        have O3:Obl _:=(O1.app (.c h4 (.c (Zfj _ _ _ q5) .n)))
        rcases Zaj hf with ⟨h6,hf⟩ | ⟨h6,hf⟩
        · obtain ⟨x3,q7,hf⟩:=bind_some' hf
          exact ZaI Zak Zdj.ends 17 (R2 ++ [rA [(3,aG (Zac.c x3)),(5,.c (w9.set v12.toNat x3).length (Zaq Zac.c Zac.d (w9.set v12.toNat x3)))],rz]) [true,true] ⟨[],[],[],[(9,((w9.set v12.toNat x3).length))],[],[1,5,10,11,12],[9],[]⟩ (O3.app (.c h6 (.c (ZrB _ _ q7) (.c o3 (.c (show (w9.set v12.toNat x3).length = w9.length from List.length_set) (.c (show v12.toNat < w9.length from (ltOf o3)) (.c (show ExtU 7 w9.length (Zaq Zac.c Zac.d w9) v12.toNat 0 (Zac.c x3) (Zaq Zac.c Zac.d (w9.set v12.toNat x3)) from (Zwn _ _ _ rfl)) (.c (show (w9.set v12.toNat x3).length = (w9.set v12.toNat x3).length from rfl) .n)))))))) (by kernel_rfl) (ih v11 (ZaD v12 (1:Int)) (w9.set v12.toNat x3) r hf)
        · exact ZaI Zak Zdj.ends 17 (R2 ++ [rz]) [true,false] ⟨[],[],[],[],[],[1,5,10,11,12],[9],[]⟩ (O3.app (.c h6 .n)) (by kernel_rfl) (ih v11 (ZaD v12 (1:Int)) w9 r hf)
      · exact ZaI Zak Zdj.ends 17 [rz,rz,rB [(3,false)],rz] [true,false] ⟨[],[],[],[],[],[1,5,10,11,12],[9],[]⟩ (O1.app (.c h4 (.c (show false = false from rfl) .n))) (by kernel_rfl) (ih v11 (ZaD v12 (1:Int)) w9 r hf)
    · obtain rfl:=oi hf
      exact Zdc Zak 8 [rz,rz] [false] ⟨[],[],[],[],[],[4],[9],[(9,99999)]⟩ (.c h2 .n) (by kernel_rfl)
def Zjh (a0:(List Zac)) (a1:(List Zaf)):Option (List Zac) :=
  (Zbs a0).bind fun x1 =>
  ZdN a1  ((((x1.length:Nat):Int) - (0:Int)).toNat + 2) ((x1.length:Nat):Int) (0:Int) x1
theorem ZrG (a0:(List Zac)) (a1:(List Zaf)) (r:(List Zac)) (hf:Zjh a0 a1 = some r):ZdL Tryz.prog 291 [] [.one (cL 7 Zac.c Zac.d a0),.one (cL 4 Zaf.c Zaf.d a1)] [(99999,.rows 106 7 r.length (Zaq Zac.c Zac.d r))] (.one (.osl 99999 r.length)):=by
  refine ZdL.of Tryz.func291 rfl rfl rfl rfl fun S0 w0 =>?_
  unfold Zjh at hf
  obtain ⟨x1,q1,hf⟩:=bind_some' hf
  exact ZaI Zak Zdj.ends 8 [rz,rH [] [(1,⟨[],[(99999,9)],[(99999,.rows 106 7 x1.length (Zaq Zac.c Zac.d x1))],.one (.osl 99999 x1.length)⟩)],rz] [] ⟨[],[],[],[],[],[1,5,10,11,12],[9],[]⟩ (.c (ZeP _ _ q1) .n) (by kernel_rfl) (ZpP S0 w0 a1   ((((x1.length:Nat):Int) - (0:Int)).toNat + 2) ((x1.length:Nat):Int) (0:Int) x1 r hf)
theorem Zsr (a0:(List Zac)) (a1:(List Zaf)) (r:(List Zac)) (hf:Zjh a0 a1 = some r):Zat Tryz.prog 291 [.one (cL 7 Zac.c Zac.d a0),.one (cL 4 Zaf.c Zaf.d a1)] (.one (cL 7 Zac.c Zac.d r)):=(ZrG a0 a1 r hf).pure
def ZhD (a0:Zal) (a1:(List Zaf)):Option (Tout Unit) :=
  (Zdb a0 (Zan.mk (4:Int) (0:Int) (0:Int)) false).bind fun x1 =>
  (match x1 with
  | .ret x1v x1g =>
    (Zjh x1v.fBook a1).bind fun x2 =>
    (Zcf x1g (Zan.mk (4:Int) (0:Int) (0:Int)) (Zae.mk (0:Int) (Zaa.mk (Zaf.mk (Zag.mk false (0:Int) (0:Int)) (0:Int)) false (0:Int) (Zah.mk (0:Int) (0:Int)) (0:Int) (0:Int)) ([]:(List Zab)) x2) false).bind fun x3 =>
    (match x3 with
    | .ret x3v x3g =>
      some (Tout.ret () x3g)
    | .pan x3o =>
      some (Tout.pan x3o)
    | .bad x3s =>
      some (Tout.bad x3s))
  | .pan x1o =>
    some (Tout.pan x1o)
  | .bad x1s =>
    some (Tout.bad x1s))
theorem Zfr (a0:Zal) (a1:(List Zaf)) (r:(Tout Unit)) (hf:ZhD a0 a1 = some r):ZfM Tryz.prog 222 [(100000,.box (Zal.c a0))] [.one (.ifc 112 (.ptr 100000 0)),.one (cL 4 Zaf.c Zaf.d a1)] (oc (fun x =>.tup []) r):=by
  refine ZfM.of Tryz.func222 rfl rfl rfl rfl fun S0 w0 =>?_
  unfold ZhD at hf
  obtain ⟨x1,q1,hf⟩:=bind_some' hf
  cases x1 with
  | ret x1v x1g =>
    dsimp only at hf
    obtain ⟨x2,q2,hf⟩:=bind_some' hf
    let R1:List RA:=[rz,rH [(2,.id 463)] [(2,⟨[(100000,100000)],[],[(100000,.box (Zal.c x1g))],.agg (Zae.c x1v)⟩)]]
    have O2:Obl _:=(.c (Zcd _ _ _ _ q1) (.c ZhR (.c (Zsr _ _ _ q2) (.c ZlV .n))))
    obtain ⟨x3,q3,hf⟩:=bind_some' hf
    cases x3 with
    | ret x3v x3g =>
      dsimp only at hf
      obtain rfl:=oi hf
      exact Zcg Zak 5 (R1 ++ [⟨[(4,.r (.one (cL 7 Zac.c Zac.d x2)) []),(9,.id 467)],[],[],[],[(5,[(11,cL 5 Zab.c Zab.d [])])],[],[(9,⟨[(100000,100000)],[],[(100000,.box (Zal.c x3g))],.tup []⟩)]⟩]) [] ⟨[],[],[],[],[],[],[100000],[]⟩ [100000] (O2.app (.c (ZbS _ _ _ _ _ q3) (.c ZgY .n))) (by kernel_rfl)
    | _ =>
      dsimp only at hf
      obtain rfl:=oi hf
      exact ZaC Zak 4 _ _ R1 [] (⟨[(4,.r (.one (cL 7 Zac.c Zac.d x2)) []),(9,.id 467)],[],[],[],[(5,[(11,cL 5 Zab.c Zab.d [])])],[],[]⟩) 9 ⟨[(100000,100000)],pvOf q3⟩ (O2.app (.c (ZbS _ _ _ _ _ q3) (.c ZgY .n))) (by kernel_rfl)
  | _ =>
    dsimp only at hf
    obtain rfl:=oi hf
    exact ZaC Zak 3 _ _ [rz] [] (rA [(2,.id 463)]) 2 ⟨[(100000,100000)],pvOf q1⟩ (.c (Zcd _ _ _ _ q1) (.c ZhR .n)) (by kernel_rfl)
def Zga (a0:Zav) (a1:Zal):Option (Tout Zam) :=
  (Zde a0 a1).bind fun x1 =>
  (match x1 with
  | .ret x1v x1g =>
    bif (decide (x1v.2 < (0:Int))) then
      (Zbi a0).bind fun x2 =>
      (Zbf x1g x2 true).bind fun x3 =>
      (match x3 with
      | .ret x3v x3g =>
        (ZdR (6:Int)).bind fun x4 =>
        some (Tout.ret x4 x3g)
      | .pan x3o =>
        some (Tout.pan x3o)
      | .bad x3s =>
        some (Tout.bad x3s))
    else
      (ZdS a0 x1g x1v.1 ([a0.fx.fEnd]:List Zaf)).bind fun x5 =>
      (match x5 with
      | .ret x5v x5g =>
        need (0≤x1v.2∧x1v.2 < ((x1v.1.length:Nat):Int)) <|
        bif (x1v.1.getD x1v.2.toNat Zaa.d).fIn then
          (Zfx x5g (1:Int) (-1:Int) true).bind fun x6 =>
          (match x6 with
          | .ret x6v x6g =>
            (Zbi a0).bind fun x7 =>
            (Zbf x6g x7 false).bind fun x8 =>
            (match x8 with
            | .ret x8v x8g =>
              some (Tout.ret (Zam.mk (0:Int) (Zaf.mk (Zag.mk false (0:Int) (0:Int)) (0:Int)) (0:Int) (0:Int) ([]:(List Zaa))) x8g)
            | .pan x8o =>
              some (Tout.pan x8o)
            | .bad x8s =>
              some (Tout.bad x8s))
          | .pan x6o =>
            some (Tout.pan x6o)
          | .bad x6s =>
            some (Tout.bad x6s))
        else
          (ZhD x5g ([a0.fx.fEnd]:List Zaf)).bind fun x9 =>
          (match x9 with
          | .ret x9v x9g =>
            (Zfx x9g (2:Int) (-1:Int) true).bind fun x10 =>
            (match x10 with
            | .ret x10v x10g =>
              (Zbi a0).bind fun x11 =>
              (Zbf x10g x11 false).bind fun x12 =>
              (match x12 with
              | .ret x12v x12g =>
                some (Tout.ret (Zam.mk (0:Int) (Zaf.mk (Zag.mk false (0:Int) (0:Int)) (0:Int)) (0:Int) (0:Int) ([]:(List Zaa))) x12g)
              | .pan x12o =>
                some (Tout.pan x12o)
              | .bad x12s =>
                some (Tout.bad x12s))
            | .pan x10o =>
              some (Tout.pan x10o)
            | .bad x10s =>
              some (Tout.bad x10s))
          | .pan x9o =>
            some (Tout.pan x9o)
          | .bad x9s =>
            some (Tout.bad x9s))
      | .pan x5o =>
        some (Tout.pan x5o)
      | .bad x5s =>
        some (Tout.bad x5s))
  | .pan x1o =>
    some (Tout.pan x1o)
  | .bad x1s =>
    some (Tout.bad x1s))
theorem Zhf (a0:Zav) (a1:Zal) (r:(Tout Zam)) (hf:Zga a0 a1 = some r):ZfM Tryz.prog 141 [(100000,.box (Zal.c a1))] [.agg (Zav.c a0),.one (.ifc 112 (.ptr 100000 0))] (oc (fun x =>.agg (Zam.c x)) r):=by
  refine ZfM.of Tryz.func141 rfl rfl rfl rfl fun S0 w0 =>?_
  unfold Zga at hf
  obtain ⟨x1,q1,hf⟩:=bind_some' hf
  cases x1 with
  | ret x1v x1g =>
    dsimp only at hf
    let R1:List RA:=[rz,rH [] [(2,⟨[(100000,100000)],[],[(100000,.box (Zal.c x1g))],.tup [(false,(cLs 10 Zaa.c Zaa.d) x1v.1),(false,(cI .i64) x1v.2)]⟩)],rz]
    rcases Zaj hf with ⟨h2,hf⟩ | ⟨h2,hf⟩
    · obtain ⟨x2,q3,hf⟩:=bind_some' hf
      have O2:Obl _:=(.c (Zbd _ _ _ q1) (.c h2 (.c (Zbn _ _ q3) (.c Zfm .n))))
      obtain ⟨x3,q4,hf⟩:=bind_some' hf
      cases x3 with
      | ret x3v x3g =>
        dsimp only at hf
        obtain ⟨x4,q5,hf⟩:=bind_some' hf
        obtain rfl:=oi hf
        exact Zcg Zak 12 (R1 ++ [rH [(2,aI x2),(6,.id 462)] [(6,⟨[(100000,100000)],[],[(100000,.box (Zal.c x3g))],.tup []⟩)],rA [(0,aG (Zam.c x4))]]) [true] ⟨[],[],[],[],[],[4],[4,100000],[]⟩ [100000] (O2.app (.c (Zax _ _ _ _ q4) (.c ZbR (.c (ZeJ _ _ q5) .n)))) (by kernel_rfl)
      | _ =>
        dsimp only at hf
        obtain rfl:=oi hf
        exact ZaC Zak 9 _ _ R1 [true] (rA [(2,aI x2),(6,.id 462)]) 6 ⟨[(100000,100000)],pvOf q4⟩ (O2.app (.c (Zax _ _ _ _ q4) (.c ZbR .n))) (by kernel_rfl)
    · let R3:List RA:=(R1 ++ [⟨[],[],[],[],[],[(3,(([a0.fx.fEnd]:List Zaf).length,Zaq Zaf.c Zaf.d ([a0.fx.fEnd]:List Zaf)))],[]⟩])
      have O4:Obl _:=(.c (Zbd _ _ _ q1) (.c h2 (.c (show ([a0.fx.fEnd]:List Zaf).length = 1∧∀ i j,i < 1→j < 4→Zaq Zaf.c Zaf.d ([a0.fx.fEnd]:List Zaf) i j = (([a0.fx.fEnd]:List Zaf).flatMap Zaf.c).getD (i * 4 + j) .junk from ⟨rfl,fun i j hi hj =>ZaS (sz:=4) (e:=Zaf.c) (d:=Zaf.d) (fun _ =>rfl) ([a0.fx.fEnd]:List Zaf) i j hi hj⟩) .n)))
      obtain ⟨x5,q6,hf⟩:=bind_some' hf
      cases x5 with
      | ret x5v x5g =>
        dsimp only at hf
        obtain ⟨o7,hf⟩:=Zas hf
        let R5:List RA:=(R3 ++ [rH [] [(4,⟨[(100000,100000)],[],[(100000,.box (Zal.c x5g))],.tup []⟩)],rz])
        have O6:Obl _:=(O4.app (.c (ZcP _ _ _ _ _ q6) (.c o7 .n)))
        rcases Zaj hf with ⟨h8,hf⟩ | ⟨h8,hf⟩
        · obtain ⟨x6,q9,hf⟩:=bind_some' hf
          cases x6 with
          | ret x6v x6g =>
            dsimp only at hf
            obtain ⟨x7,q10,hf⟩:=bind_some' hf
            let R7:List RA:=(R5 ++ [rH [] [(1,⟨[(100000,100000)],[],[(100000,.box (Zal.c x6g))],.tup []⟩)]])
            have O8:Obl _:=(O6.app (.c h8 (.c (Zdw _ _ _ _ _ q9) (.c (Zbn _ _ q10) (.c Zfm .n)))))
            obtain ⟨x8,q11,hf⟩:=bind_some' hf
            cases x8 with
            | ret x8v x8g =>
              dsimp only at hf
              obtain rfl:=oi hf
              exact Zcg Zak 22 (R7 ++ [rH [(2,aI x7),(6,.id 462)] [(6,⟨[(100000,100000)],[],[(100000,.box (Zal.c x8g))],.tup []⟩)],rz]) [false,true] ⟨[],[(4,[(7,cL 10 Zaa.c Zaa.d [])])],[],[],[],[4],[4,100000],[]⟩ [100000] (O8.app (.c (Zax _ _ _ _ q11) (.c ZbR .n))) (by kernel_rfl)
            | _ =>
              dsimp only at hf
              obtain rfl:=oi hf
              exact ZaC Zak 19 _ _ R7 [false,true] (rA [(2,aI x7),(6,.id 462)]) 6 ⟨[(100000,100000)],pvOf q11⟩ (O8.app (.c (Zax _ _ _ _ q11) (.c ZbR .n))) (by kernel_rfl)
          | _ =>
            dsimp only at hf
            obtain rfl:=oi hf
            exact ZaC Zak 17 _ _ R5 [false,true] (rz) 1 ⟨[(100000,100000)],pvOf q9⟩ (O6.app (.c h8 (.c (Zdw _ _ _ _ _ q9) .n))) (by kernel_rfl)
        · obtain ⟨x9,q12,hf⟩:=bind_some' hf
          cases x9 with
          | ret x9v x9g =>
            dsimp only at hf
            let R9:List RA:=(R5 ++ [rH [] [(2,⟨[(100000,100000)],[],[(100000,.box (Zal.c x9g))],.tup []⟩)]])
            obtain ⟨x10,q13,hf⟩:=bind_some' hf
            cases x10 with
            | ret x10v x10g =>
              dsimp only at hf
              obtain ⟨x11,q14,hf⟩:=bind_some' hf
              let R10:List RA:=(R9 ++ [rH [] [(1,⟨[(100000,100000)],[],[(100000,.box (Zal.c x10g))],.tup []⟩)]])
              have O11:Obl _:=(O6.app (.c h8 (.c (Zfr _ _ _ q12) (.c (Zdw _ _ _ _ _ q13) (.c (Zbn _ _ q14) (.c Zfm .n))))))
              obtain ⟨x12,q15,hf⟩:=bind_some' hf
              cases x12 with
              | ret x12v x12g =>
                dsimp only at hf
                obtain rfl:=oi hf
                exact Zcg Zak 24 (R10 ++ [rH [(2,aI x11),(6,.id 462)] [(6,⟨[(100000,100000)],[],[(100000,.box (Zal.c x12g))],.tup []⟩)],rz]) [false,false] ⟨[],[(4,[(7,cL 10 Zaa.c Zaa.d [])])],[],[],[],[4],[4,100000],[]⟩ [100000] (O11.app (.c (Zax _ _ _ _ q15) (.c ZbR .n))) (by kernel_rfl)
              | _ =>
                dsimp only at hf
                obtain rfl:=oi hf
                exact ZaC Zak 21 _ _ R10 [false,false] (rA [(2,aI x11),(6,.id 462)]) 6 ⟨[(100000,100000)],pvOf q15⟩ (O11.app (.c (Zax _ _ _ _ q15) (.c ZbR .n))) (by kernel_rfl)
            | _ =>
              dsimp only at hf
              obtain rfl:=oi hf
              exact ZaC Zak 19 _ _ R9 [false,false] (rz) 1 ⟨[(100000,100000)],pvOf q13⟩ (O6.app (.c h8 (.c (Zfr _ _ _ q12) (.c (Zdw _ _ _ _ _ q13) .n)))) (by kernel_rfl)
          | _ =>
            dsimp only at hf
            obtain rfl:=oi hf
            exact ZaC Zak 18 _ _ R5 [false,false] (rz) 2 ⟨[(100000,100000)],pvOf q12⟩ (O6.app (.c h8 (.c (Zfr _ _ _ q12) .n))) (by kernel_rfl)
      | _ =>
        dsimp only at hf
        obtain rfl:=oi hf
        exact ZaC Zak 12 _ _ R3 [false] (rz) 4 ⟨[(100000,100000)],pvOf q6⟩ (O4.app (.c (ZcP _ _ _ _ _ q6) .n)) (by kernel_rfl)
  | _ =>
    dsimp only at hf
    obtain rfl:=oi hf
    exact ZaC Zak 3 _ _ [rz] [] (rz) 2 ⟨[(100000,100000)],pvOf q1⟩ (.c (Zbd _ _ _ q1) .n) (by kernel_rfl)
def Zgb (a0:Zav) (a1:Zal):Option (Tout Zam) :=
  (Zde a0 a1).bind fun x1 =>
  (match x1 with
  | .ret x1v x1g =>
    bif (decide (x1v.2 < (0:Int))) then
      (Zbi a0).bind fun x2 =>
      (Zbf x1g x2 true).bind fun x3 =>
      (match x3 with
      | .ret x3v x3g =>
        (ZdR (6:Int)).bind fun x4 =>
        some (Tout.ret x4 x3g)
      | .pan x3o =>
        some (Tout.pan x3o)
      | .bad x3s =>
        some (Tout.bad x3s))
    else
      need (0≤x1v.2∧x1v.2 < ((x1v.1.length:Nat):Int)) <|
      bif (x1v.1.getD x1v.2.toNat Zaa.d).fIn then
        (ZdS a0 x1g x1v.1 ([a0.fx.fEnd]:List Zaf)).bind fun x5 =>
        (match x5 with
        | .ret x5v x5g =>
          (Zfx x5g (1:Int) (-1:Int) true).bind fun x6 =>
          (match x6 with
          | .ret x6v x6g =>
            (Zbi a0).bind fun x7 =>
            (Zbf x6g x7 false).bind fun x8 =>
            (match x8 with
            | .ret x8v x8g =>
              some (Tout.ret (Zam.mk (0:Int) (Zaf.mk (Zag.mk false (0:Int) (0:Int)) (0:Int)) (0:Int) (0:Int) ([]:(List Zaa))) x8g)
            | .pan x8o =>
              some (Tout.pan x8o)
            | .bad x8s =>
              some (Tout.bad x8s))
          | .pan x6o =>
            some (Tout.pan x6o)
          | .bad x6s =>
            some (Tout.bad x6s))
        | .pan x5o =>
          some (Tout.pan x5o)
        | .bad x5s =>
          some (Tout.bad x5s))
      else
        (Zbi a0).bind fun x9 =>
        (Zbf x1g x9 false).bind fun x10 =>
        (match x10 with
        | .ret x10v x10g =>
          (ZeN x10g (1:Int) false).bind fun x11 =>
          (match x11 with
          | .ret x11v x11g =>
            (Zga a0 x11g).bind fun x12 =>
            (match x12 with
            | .ret x12v x12g =>
              (Zbf x12g (1:Int) false).bind fun x13 =>
              (match x13 with
              | .ret x13v x13g =>
                some (Tout.ret x12v x13g)
              | .pan x13o =>
                some (Tout.pan x13o)
              | .bad x13s =>
                some (Tout.bad x13s))
            | .pan x12o =>
              some (Tout.pan x12o)
            | .bad x12s =>
              some (Tout.bad x12s))
          | .pan x11o =>
            some (Tout.pan x11o)
          | .bad x11s =>
            some (Tout.bad x11s))
        | .pan x10o =>
          some (Tout.pan x10o)
        | .bad x10s =>
          some (Tout.bad x10s))
  | .pan x1o =>
    some (Tout.pan x1o)
  | .bad x1s =>
    some (Tout.bad x1s))
theorem Zhg (a0:Zav) (a1:Zal) (r:(Tout Zam)) (hf:Zgb a0 a1 = some r):ZfM Tryz.prog 68 [(100000,.box (Zal.c a1))] [.agg (Zav.c a0),.one (.ifc 112 (.ptr 100000 0))] (oc (fun x =>.agg (Zam.c x)) r):=by
  refine ZfM.of Tryz.func68 rfl rfl rfl rfl fun S0 w0 =>?_
  unfold Zgb at hf
  obtain ⟨x1,q1,hf⟩:=bind_some' hf
  cases x1 with
  | ret x1v x1g =>
    dsimp only at hf
    let R1:List RA:=[rz,rH [] [(2,⟨[(100000,100000)],[],[(100000,.box (Zal.c x1g))],.tup [(false,(cLs 10 Zaa.c Zaa.d) x1v.1),(false,(cI .i64) x1v.2)]⟩)],rz]
    rcases Zaj hf with ⟨h2,hf⟩ | ⟨h2,hf⟩
    · obtain ⟨x2,q3,hf⟩:=bind_some' hf
      have O2:Obl _:=(.c (Zbd _ _ _ q1) (.c h2 (.c (Zbn _ _ q3) (.c Zfm .n))))
      obtain ⟨x3,q4,hf⟩:=bind_some' hf
      cases x3 with
      | ret x3v x3g =>
        dsimp only at hf
        obtain ⟨x4,q5,hf⟩:=bind_some' hf
        obtain rfl:=oi hf
        exact Zcg Zak 13 (R1 ++ [rH [(2,aI x2),(6,.id 462)] [(6,⟨[(100000,100000)],[],[(100000,.box (Zal.c x3g))],.tup []⟩)],rA [(0,aG (Zam.c x4))]]) [true] ⟨[],[],[],[],[],[4],[4,100000],[]⟩ [100000] (O2.app (.c (Zax _ _ _ _ q4) (.c ZbR (.c (ZeJ _ _ q5) .n)))) (by kernel_rfl)
      | _ =>
        dsimp only at hf
        obtain rfl:=oi hf
        exact ZaC Zak 10 _ _ R1 [true] (rA [(2,aI x2),(6,.id 462)]) 6 ⟨[(100000,100000)],pvOf q4⟩ (O2.app (.c (Zax _ _ _ _ q4) (.c ZbR .n))) (by kernel_rfl)
    · obtain ⟨o6,hf⟩:=Zas hf
      have O3:Obl _:=(.c (Zbd _ _ _ q1) (.c h2 (.c o6 .n)))
      rcases Zaj hf with ⟨h7,hf⟩ | ⟨h7,hf⟩
      · have O4:Obl _:=(O3.app (.c h7 (.c (show ([a0.fx.fEnd]:List Zaf).length = 1∧∀ i j,i < 1→j < 4→Zaq Zaf.c Zaf.d ([a0.fx.fEnd]:List Zaf) i j = (([a0.fx.fEnd]:List Zaf).flatMap Zaf.c).getD (i * 4 + j) .junk from ⟨rfl,fun i j hi hj =>ZaS (sz:=4) (e:=Zaf.c) (d:=Zaf.d) (fun _ =>rfl) ([a0.fx.fEnd]:List Zaf) i j hi hj⟩) .n)))
        obtain ⟨x5,q8,hf⟩:=bind_some' hf
        cases x5 with
        | ret x5v x5g =>
          dsimp only at hf
          let R5:List RA:=(R1 ++ [rz,⟨[],[],[],[],[],[(6,(([a0.fx.fEnd]:List Zaf).length,Zaq Zaf.c Zaf.d ([a0.fx.fEnd]:List Zaf)))],[(7,⟨[(100000,100000)],[],[(100000,.box (Zal.c x5g))],.tup []⟩)]⟩])
          obtain ⟨x6,q9,hf⟩:=bind_some' hf
          cases x6 with
          | ret x6v x6g =>
            dsimp only at hf
            obtain ⟨x7,q10,hf⟩:=bind_some' hf
            let R6:List RA:=(R5 ++ [rH [] [(1,⟨[(100000,100000)],[],[(100000,.box (Zal.c x6g))],.tup []⟩)]])
            have O7:Obl _:=(O4.app (.c (ZcP _ _ _ _ _ q8) (.c (Zdw _ _ _ _ _ q9) (.c (Zbn _ _ q10) (.c Zfm .n)))))
            obtain ⟨x8,q11,hf⟩:=bind_some' hf
            cases x8 with
            | ret x8v x8g =>
              dsimp only at hf
              obtain rfl:=oi hf
              exact Zcg Zak 20 (R6 ++ [rH [(2,aI x7),(6,.id 462)] [(6,⟨[(100000,100000)],[],[(100000,.box (Zal.c x8g))],.tup []⟩)],rz]) [false,true] ⟨[],[(4,[(7,cL 10 Zaa.c Zaa.d [])])],[],[],[],[4],[4,100000],[]⟩ [100000] (O7.app (.c (Zax _ _ _ _ q11) (.c ZbR .n))) (by kernel_rfl)
            | _ =>
              dsimp only at hf
              obtain rfl:=oi hf
              exact ZaC Zak 17 _ _ R6 [false,true] (rA [(2,aI x7),(6,.id 462)]) 6 ⟨[(100000,100000)],pvOf q11⟩ (O7.app (.c (Zax _ _ _ _ q11) (.c ZbR .n))) (by kernel_rfl)
          | _ =>
            dsimp only at hf
            obtain rfl:=oi hf
            exact ZaC Zak 15 _ _ R5 [false,true] (rz) 1 ⟨[(100000,100000)],pvOf q9⟩ (O4.app (.c (ZcP _ _ _ _ _ q8) (.c (Zdw _ _ _ _ _ q9) .n))) (by kernel_rfl)
        | _ =>
          dsimp only at hf
          obtain rfl:=oi hf
          exact ZaC Zak 13 _ _ (R1 ++ [rz]) [false,true] (⟨[],[],[],[],[],[(6,(([a0.fx.fEnd]:List Zaf).length,Zaq Zaf.c Zaf.d ([a0.fx.fEnd]:List Zaf)))],[]⟩) 7 ⟨[(100000,100000)],pvOf q8⟩ (O4.app (.c (ZcP _ _ _ _ _ q8) .n)) (by kernel_rfl)
      · obtain ⟨x9,q12,hf⟩:=bind_some' hf
        have O8:Obl _:=(O3.app (.c h7 (.c (Zbn _ _ q12) (.c Zfm .n))))
        obtain ⟨x10,q13,hf⟩:=bind_some' hf
        cases x10 with
        | ret x10v x10g =>
          dsimp only at hf
          let R9:List RA:=(R1 ++ [rz,rH [(2,aI x9),(6,.id 462)] [(6,⟨[(100000,100000)],[],[(100000,.box (Zal.c x10g))],.tup []⟩)]])
          have O10:Obl _:=(O8.app (.c (Zax _ _ _ _ q13) (.c ZbR .n)))
          obtain ⟨x11,q14,hf⟩:=bind_some' hf
          cases x11 with
          | ret x11v x11g =>
            dsimp only at hf
            let R11:List RA:=(R9 ++ [rH [(1,.id 464)] [(1,⟨[(100000,100000)],[],[(100000,.box (Zal.c x11g))],.tup []⟩)]])
            have O12:Obl _:=(O10.app (.c (ZcN _ _ _ _ q14) (.c Zjs .n)))
            obtain ⟨x12,q15,hf⟩:=bind_some' hf
            cases x12 with
            | ret x12v x12g =>
              dsimp only at hf
              let R13:List RA:=(R11 ++ [rH [] [(2,⟨[(100000,100000)],[],[(100000,.box (Zal.c x12g))],.agg (Zam.c x12v)⟩)]])
              obtain ⟨x13,q16,hf⟩:=bind_some' hf
              cases x13 with
              | ret x13v x13g =>
                dsimp only at hf
                obtain rfl:=oi hf
                exact Zcg Zak 24 (R13 ++ [rH [(1,.id 462)] [(1,⟨[(100000,100000)],[],[(100000,.box (Zal.c x13g))],.tup []⟩)],rz]) [false,false] ⟨[],[],[],[],[],[4],[4,100000],[]⟩ [100000] (O12.app (.c (Zhf _ _ _ q15) (.c (Zax _ _ _ _ q16) (.c ZbR .n)))) (by kernel_rfl)
              | _ =>
                dsimp only at hf
                obtain rfl:=oi hf
                exact ZaC Zak 21 _ _ R13 [false,false] (rA [(1,.id 462)]) 1 ⟨[(100000,100000)],pvOf q16⟩ (O12.app (.c (Zhf _ _ _ q15) (.c (Zax _ _ _ _ q16) (.c ZbR .n)))) (by kernel_rfl)
            | _ =>
              dsimp only at hf
              obtain rfl:=oi hf
              exact ZaC Zak 19 _ _ R11 [false,false] (rz) 2 ⟨[(100000,100000)],pvOf q15⟩ (O12.app (.c (Zhf _ _ _ q15) .n)) (by kernel_rfl)
          | _ =>
            dsimp only at hf
            obtain rfl:=oi hf
            exact ZaC Zak 17 _ _ R9 [false,false] (rA [(1,.id 464)]) 1 ⟨[(100000,100000)],pvOf q14⟩ (O10.app (.c (ZcN _ _ _ _ q14) (.c Zjs .n))) (by kernel_rfl)
        | _ =>
          dsimp only at hf
          obtain rfl:=oi hf
          exact ZaC Zak 15 _ _ (R1 ++ [rz]) [false,false] (rA [(2,aI x9),(6,.id 462)]) 6 ⟨[(100000,100000)],pvOf q13⟩ (O8.app (.c (Zax _ _ _ _ q13) (.c ZbR .n))) (by kernel_rfl)
  | _ =>
    dsimp only at hf
    obtain rfl:=oi hf
    exact ZaC Zak 3 _ _ [rz] [] (rz) 2 ⟨[(100000,100000)],pvOf q1⟩ (.c (Zbd _ _ _ q1) .n) (by kernel_rfl)
end Go.Proofs.YtdjfoojllbfcgaaGreat
