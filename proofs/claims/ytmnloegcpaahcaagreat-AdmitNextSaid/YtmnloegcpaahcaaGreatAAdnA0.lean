import Derived.Test.YtmnloegcpaahcaaGreatAAdnT
namespace Go.Proofs.YtmnloegcpaahcaaGreat
open Go.RowKit Go.Lib Go.Shelf
set_option linter.unusedVariables false
set_option maxRecDepth 100000
theorem ZqL : (Tryz.prog.fieldsOf 28).toList = [{ name := "V6", type := 4, offset := 0, embedded := false, tag := "", pkgPath := "", byteOffset := 0 }, { name := "Hi", type := 22, offset := 1, embedded := false, tag := "", pkgPath := "", byteOffset := 8 }, { name := "Lo", type := 22, offset := 2, embedded := false, tag := "", pkgPath := "", byteOffset := 16 }] := by kernel_rfl
theorem Zmq(d:Nat)(x y:Zaf)(w:World):(Op.equalIn (d+2) 28 (.agg #[.bool x.fV6,.int .u64 x.fHi,.int .u64 x.fLo]) (.agg #[.bool y.fV6,.int .u64 y.fHi,.int .u64 y.fLo])).run Tryz.prog w=.ok (decide (x=y)) w:=by rw[run_equalIn_struct w (d+1) _ _ _ (by kernel_rfl) (by kernel_rfl)];simp only[ZqL,Op.eqFields];simp[go_sem];cases x;cases y;simp only[Zaf.mk.injEq];(repeat' split)<;>simp_all
theorem ZkX(x y:Zaf)(xo yo:Operand):∀w,(do eqGuard .eql 28 xo yo (.agg #[.bool x.fV6,.int .u64 x.fHi,.int .u64 x.fLo]) (.agg #[.bool y.fV6,.int .u64 y.fHi,.int .u64 y.fLo]);binOp .eql 28 (.agg #[.bool x.fV6,.int .u64 x.fHi,.int .u64 x.fLo]) (.agg #[.bool y.fV6,.int .u64 y.fHi,.int .u64 y.fLo]):Sem Value).run Tryz.prog w=.ok (.bool (decide (x=y))) w:=by
 intro w;have hg:(eqGuard .eql 28 xo yo (.agg #[.bool x.fV6,.int .u64 x.fHi,.int .u64 x.fLo]) (.agg #[.bool y.fV6,.int .u64 y.fHi,.int .u64 y.fLo])).run Tryz.prog w=.ok () w:=by simp[eqGuard,Sem.run_bind,Tryz.eqGuardType28]
 rw[Sem.run_bind,hg,Result.andThen_ok,run_eql_struct];exact congrArg (fun r:Result Bool=>r.andThen fun b w'=>Result.ok (Value.bool b) w') (Zmq 9998 x y w)
theorem ZrE : (Tryz.prog.fieldsOf 30).toList = [{ name := "Addr", type := 28, offset := 0, embedded := false, tag := "", pkgPath := "", byteOffset := 0 }, { name := "Port", type := 3, offset := 3, embedded := false, tag := "", pkgPath := "", byteOffset := 24 }] := by kernel_rfl
theorem Znm(d:Nat)(x y:Zah)(w:World):(Op.equalIn (d+4) 30 (.agg #[.bool x.fAddr.fV6,.int .u64 x.fAddr.fHi,.int .u64 x.fAddr.fLo,.int .i64 x.fPort]) (.agg #[.bool y.fAddr.fV6,.int .u64 y.fAddr.fHi,.int .u64 y.fAddr.fLo,.int .i64 y.fPort])).run Tryz.prog w=.ok (decide (x=y)) w:=by rw[run_equalIn_struct w (d+3) _ _ _ (by kernel_rfl) (by kernel_rfl)];simp only[ZrE,Op.eqFields];simp[go_sem,Zmq];cases x;cases y;simp only[Zah.mk.injEq];(repeat' split)<;>simp_all
theorem Zkz(x y:Zah)(xo yo:Operand):∀w,(do eqGuard .eql 30 xo yo (.agg #[.bool x.fAddr.fV6,.int .u64 x.fAddr.fHi,.int .u64 x.fAddr.fLo,.int .i64 x.fPort]) (.agg #[.bool y.fAddr.fV6,.int .u64 y.fAddr.fHi,.int .u64 y.fAddr.fLo,.int .i64 y.fPort]);binOp .eql 30 (.agg #[.bool x.fAddr.fV6,.int .u64 x.fAddr.fHi,.int .u64 x.fAddr.fLo,.int .i64 x.fPort]) (.agg #[.bool y.fAddr.fV6,.int .u64 y.fAddr.fHi,.int .u64 y.fAddr.fLo,.int .i64 y.fPort]):Sem Value).run Tryz.prog w=.ok (.bool (decide (x=y))) w:=by
 intro w;have hg:(eqGuard .eql 30 xo yo (.agg #[.bool x.fAddr.fV6,.int .u64 x.fAddr.fHi,.int .u64 x.fAddr.fLo,.int .i64 x.fPort]) (.agg #[.bool y.fAddr.fV6,.int .u64 y.fAddr.fHi,.int .u64 y.fAddr.fLo,.int .i64 y.fPort])).run Tryz.prog w=.ok () w:=by simp[eqGuard,Sem.run_bind,Tryz.eqGuardType30]
 rw[Sem.run_bind,hg,Result.andThen_ok,run_eql_struct];exact congrArg (fun r:Result Bool=>r.andThen fun b w'=>Result.ok (Value.bool b) w') (Znm 9996 x y w)
theorem ZrC : (Tryz.prog.fieldsOf 32).toList = [{ name := "Addr", type := 28, offset := 0, embedded := false, tag := "", pkgPath := "", byteOffset := 0 }, { name := "Bits", type := 3, offset := 3, embedded := false, tag := "", pkgPath := "", byteOffset := 24 }] := by kernel_rfl
theorem ZkY(d:Nat)(x y:Zap)(w:World):(Op.equalIn (d+4) 32 (.agg #[.bool x.fAddr.fV6,.int .u64 x.fAddr.fHi,.int .u64 x.fAddr.fLo,.int .i64 x.fBits]) (.agg #[.bool y.fAddr.fV6,.int .u64 y.fAddr.fHi,.int .u64 y.fAddr.fLo,.int .i64 y.fBits])).run Tryz.prog w=.ok (decide (x=y)) w:=by rw[run_equalIn_struct w (d+3) _ _ _ (by kernel_rfl) (by kernel_rfl)];simp only[ZrC,Op.eqFields];simp[go_sem,Zmq];cases x;cases y;simp only[Zap.mk.injEq];(repeat' split)<;>simp_all
theorem ZrB(x y:Zap)(xo yo:Operand):∀w,(do eqGuard .eql 32 xo yo (.agg #[.bool x.fAddr.fV6,.int .u64 x.fAddr.fHi,.int .u64 x.fAddr.fLo,.int .i64 x.fBits]) (.agg #[.bool y.fAddr.fV6,.int .u64 y.fAddr.fHi,.int .u64 y.fAddr.fLo,.int .i64 y.fBits]);binOp .eql 32 (.agg #[.bool x.fAddr.fV6,.int .u64 x.fAddr.fHi,.int .u64 x.fAddr.fLo,.int .i64 x.fBits]) (.agg #[.bool y.fAddr.fV6,.int .u64 y.fAddr.fHi,.int .u64 y.fAddr.fLo,.int .i64 y.fBits]):Sem Value).run Tryz.prog w=.ok (.bool (decide (x=y))) w:=by
 intro w;have hg:(eqGuard .eql 32 xo yo (.agg #[.bool x.fAddr.fV6,.int .u64 x.fAddr.fHi,.int .u64 x.fAddr.fLo,.int .i64 x.fBits]) (.agg #[.bool y.fAddr.fV6,.int .u64 y.fAddr.fHi,.int .u64 y.fAddr.fLo,.int .i64 y.fBits])).run Tryz.prog w=.ok () w:=by simp[eqGuard,Sem.run_bind,Tryz.eqGuardType32]
 rw[Sem.run_bind,hg,Result.andThen_ok,run_eql_struct];exact congrArg (fun r:Result Bool=>r.andThen fun b w'=>Result.ok (Value.bool b) w') (ZkY 9996 x y w)
theorem ZwD(x y:Zap)(xo yo:Operand):∀w,(do eqGuard .neq 32 xo yo (.agg #[.bool x.fAddr.fV6,.int .u64 x.fAddr.fHi,.int .u64 x.fAddr.fLo,.int .i64 x.fBits]) (.agg #[.bool y.fAddr.fV6,.int .u64 y.fAddr.fHi,.int .u64 y.fAddr.fLo,.int .i64 y.fBits]);binOp .neq 32 (.agg #[.bool x.fAddr.fV6,.int .u64 x.fAddr.fHi,.int .u64 x.fAddr.fLo,.int .i64 x.fBits]) (.agg #[.bool y.fAddr.fV6,.int .u64 y.fAddr.fHi,.int .u64 y.fAddr.fLo,.int .i64 y.fBits]):Sem Value).run Tryz.prog w=.ok (.bool (!decide (x=y))) w:=by
 intro w;have hg:(eqGuard .neq 32 xo yo (.agg #[.bool x.fAddr.fV6,.int .u64 x.fAddr.fHi,.int .u64 x.fAddr.fLo,.int .i64 x.fBits]) (.agg #[.bool y.fAddr.fV6,.int .u64 y.fAddr.fHi,.int .u64 y.fAddr.fLo,.int .i64 y.fBits])).run Tryz.prog w=.ok () w:=by simp[eqGuard,Sem.run_bind,Tryz.eqGuardType32]
 rw[Sem.run_bind,hg,Result.andThen_ok,run_neq_struct];exact congrArg (fun r:Result Bool=>r.andThen fun b w'=>Result.ok (Value.bool (!b)) w') (ZkY 9996 x y w)
theorem ZrD : (Tryz.prog.fieldsOf 40).toList = [{ name := "Kind", type := 3, offset := 0, embedded := false, tag := "", pkgPath := "", byteOffset := 0 }, { name := "Shard", type := 3, offset := 1, embedded := false, tag := "", pkgPath := "", byteOffset := 8 }, { name := "Slot", type := 3, offset := 2, embedded := false, tag := "", pkgPath := "", byteOffset := 16 }] := by kernel_rfl
theorem Zvl(d:Nat)(x y:Zan)(w:World):(Op.equalIn (d+2) 40 (.agg #[.int .i64 x.fKind,.int .i64 x.fShard,.int .i64 x.fSlot]) (.agg #[.int .i64 y.fKind,.int .i64 y.fShard,.int .i64 y.fSlot])).run Tryz.prog w=.ok (decide (x=y)) w:=by rw[run_equalIn_struct w (d+1) _ _ _ (by kernel_rfl) (by kernel_rfl)];simp only[ZrD,Op.eqFields];simp[go_sem];cases x;cases y;simp only[Zan.mk.injEq];(repeat' split)<;>simp_all
theorem Zxf(x y:Zan)(xo yo:Operand):∀w,(do eqGuard .eql 40 xo yo (.agg #[.int .i64 x.fKind,.int .i64 x.fShard,.int .i64 x.fSlot]) (.agg #[.int .i64 y.fKind,.int .i64 y.fShard,.int .i64 y.fSlot]);binOp .eql 40 (.agg #[.int .i64 x.fKind,.int .i64 x.fShard,.int .i64 x.fSlot]) (.agg #[.int .i64 y.fKind,.int .i64 y.fShard,.int .i64 y.fSlot]):Sem Value).run Tryz.prog w=.ok (.bool (decide (x=y))) w:=by
 intro w;have hg:(eqGuard .eql 40 xo yo (.agg #[.int .i64 x.fKind,.int .i64 x.fShard,.int .i64 x.fSlot]) (.agg #[.int .i64 y.fKind,.int .i64 y.fShard,.int .i64 y.fSlot])).run Tryz.prog w=.ok () w:=by simp[eqGuard,Sem.run_bind,Tryz.eqGuardType40]
 rw[Sem.run_bind,hg,Result.andThen_ok,run_eql_struct];exact congrArg (fun r:Result Bool=>r.andThen fun b w'=>Result.ok (Value.bool b) w') (Zvl 9998 x y w)
theorem Zqf : (Tryz.prog.fieldsOf 42).toList = [{ name := "Points", type := 3, offset := 0, embedded := false, tag := "", pkgPath := "", byteOffset := 0 }, { name := "At", type := 3, offset := 1, embedded := false, tag := "", pkgPath := "", byteOffset := 8 }] := by kernel_rfl
theorem ZsN(d:Nat)(x y:Zau)(w:World):(Op.equalIn (d+2) 42 (.agg #[.int .i64 x.fPoints,.int .i64 x.fAt]) (.agg #[.int .i64 y.fPoints,.int .i64 y.fAt])).run Tryz.prog w=.ok (decide (x=y)) w:=by rw[run_equalIn_struct w (d+1) _ _ _ (by kernel_rfl) (by kernel_rfl)];simp only[Zqf,Op.eqFields];simp[go_sem];cases x;cases y;simp only[Zau.mk.injEq];(repeat' split)<;>simp_all
theorem ZqK : (Tryz.prog.fieldsOf 44).toList = [{ name := "End", type := 30, offset := 0, embedded := false, tag := "", pkgPath := "", byteOffset := 0 }, { name := "In", type := 4, offset := 4, embedded := false, tag := "", pkgPath := "", byteOffset := 32 }, { name := "Since", type := 3, offset := 5, embedded := false, tag := "", pkgPath := "", byteOffset := 40 }, { name := "Score", type := 42, offset := 6, embedded := false, tag := "", pkgPath := "", byteOffset := 48 }, { name := "Ping", type := 3, offset := 8, embedded := false, tag := "", pkgPath := "", byteOffset := 64 }, { name := "Work", type := 3, offset := 9, embedded := false, tag := "", pkgPath := "", byteOffset := 72 }] := by kernel_rfl
theorem Zpw(d:Nat)(x y:Zaa)(w:World):(Op.equalIn (d+6) 44 (.agg #[.bool x.fEnd.fAddr.fV6,.int .u64 x.fEnd.fAddr.fHi,.int .u64 x.fEnd.fAddr.fLo,.int .i64 x.fEnd.fPort,.bool x.fIn,.int .i64 x.fSince,.int .i64 x.fScore.fPoints,.int .i64 x.fScore.fAt,.int .i64 x.fPing,.int .i64 x.fWork]) (.agg #[.bool y.fEnd.fAddr.fV6,.int .u64 y.fEnd.fAddr.fHi,.int .u64 y.fEnd.fAddr.fLo,.int .i64 y.fEnd.fPort,.bool y.fIn,.int .i64 y.fSince,.int .i64 y.fScore.fPoints,.int .i64 y.fScore.fAt,.int .i64 y.fPing,.int .i64 y.fWork])).run Tryz.prog w=.ok (decide (x=y)) w:=by rw[run_equalIn_struct w (d+5) _ _ _ (by kernel_rfl) (by kernel_rfl)];simp only[ZqK,Op.eqFields];simp[go_sem,Znm,ZsN];cases x;cases y;simp only[Zaa.mk.injEq];(repeat' split)<;>simp_all
theorem Zvk(x y:Zaa)(xo yo:Operand):∀w,(do eqGuard .eql 44 xo yo (.agg #[.bool x.fEnd.fAddr.fV6,.int .u64 x.fEnd.fAddr.fHi,.int .u64 x.fEnd.fAddr.fLo,.int .i64 x.fEnd.fPort,.bool x.fIn,.int .i64 x.fSince,.int .i64 x.fScore.fPoints,.int .i64 x.fScore.fAt,.int .i64 x.fPing,.int .i64 x.fWork]) (.agg #[.bool y.fEnd.fAddr.fV6,.int .u64 y.fEnd.fAddr.fHi,.int .u64 y.fEnd.fAddr.fLo,.int .i64 y.fEnd.fPort,.bool y.fIn,.int .i64 y.fSince,.int .i64 y.fScore.fPoints,.int .i64 y.fScore.fAt,.int .i64 y.fPing,.int .i64 y.fWork]);binOp .eql 44 (.agg #[.bool x.fEnd.fAddr.fV6,.int .u64 x.fEnd.fAddr.fHi,.int .u64 x.fEnd.fAddr.fLo,.int .i64 x.fEnd.fPort,.bool x.fIn,.int .i64 x.fSince,.int .i64 x.fScore.fPoints,.int .i64 x.fScore.fAt,.int .i64 x.fPing,.int .i64 x.fWork]) (.agg #[.bool y.fEnd.fAddr.fV6,.int .u64 y.fEnd.fAddr.fHi,.int .u64 y.fEnd.fAddr.fLo,.int .i64 y.fEnd.fPort,.bool y.fIn,.int .i64 y.fSince,.int .i64 y.fScore.fPoints,.int .i64 y.fScore.fAt,.int .i64 y.fPing,.int .i64 y.fWork]):Sem Value).run Tryz.prog w=.ok (.bool (decide (x=y))) w:=by
 intro w;have hg:(eqGuard .eql 44 xo yo (.agg #[.bool x.fEnd.fAddr.fV6,.int .u64 x.fEnd.fAddr.fHi,.int .u64 x.fEnd.fAddr.fLo,.int .i64 x.fEnd.fPort,.bool x.fIn,.int .i64 x.fSince,.int .i64 x.fScore.fPoints,.int .i64 x.fScore.fAt,.int .i64 x.fPing,.int .i64 x.fWork]) (.agg #[.bool y.fEnd.fAddr.fV6,.int .u64 y.fEnd.fAddr.fHi,.int .u64 y.fEnd.fAddr.fLo,.int .i64 y.fEnd.fPort,.bool y.fIn,.int .i64 y.fSince,.int .i64 y.fScore.fPoints,.int .i64 y.fScore.fAt,.int .i64 y.fPing,.int .i64 y.fWork])).run Tryz.prog w=.ok () w:=by simp[eqGuard,Sem.run_bind,Tryz.eqGuardType44]
 rw[Sem.run_bind,hg,Result.andThen_ok,run_eql_struct];exact congrArg (fun r:Result Bool=>r.andThen fun b w'=>Result.ok (Value.bool b) w') (Zpw 9994 x y w)
theorem ZmW(x y:Zaa)(xo yo:Operand):∀w,(do eqGuard .neq 44 xo yo (.agg #[.bool x.fEnd.fAddr.fV6,.int .u64 x.fEnd.fAddr.fHi,.int .u64 x.fEnd.fAddr.fLo,.int .i64 x.fEnd.fPort,.bool x.fIn,.int .i64 x.fSince,.int .i64 x.fScore.fPoints,.int .i64 x.fScore.fAt,.int .i64 x.fPing,.int .i64 x.fWork]) (.agg #[.bool y.fEnd.fAddr.fV6,.int .u64 y.fEnd.fAddr.fHi,.int .u64 y.fEnd.fAddr.fLo,.int .i64 y.fEnd.fPort,.bool y.fIn,.int .i64 y.fSince,.int .i64 y.fScore.fPoints,.int .i64 y.fScore.fAt,.int .i64 y.fPing,.int .i64 y.fWork]);binOp .neq 44 (.agg #[.bool x.fEnd.fAddr.fV6,.int .u64 x.fEnd.fAddr.fHi,.int .u64 x.fEnd.fAddr.fLo,.int .i64 x.fEnd.fPort,.bool x.fIn,.int .i64 x.fSince,.int .i64 x.fScore.fPoints,.int .i64 x.fScore.fAt,.int .i64 x.fPing,.int .i64 x.fWork]) (.agg #[.bool y.fEnd.fAddr.fV6,.int .u64 y.fEnd.fAddr.fHi,.int .u64 y.fEnd.fAddr.fLo,.int .i64 y.fEnd.fPort,.bool y.fIn,.int .i64 y.fSince,.int .i64 y.fScore.fPoints,.int .i64 y.fScore.fAt,.int .i64 y.fPing,.int .i64 y.fWork]):Sem Value).run Tryz.prog w=.ok (.bool (!decide (x=y))) w:=by
 intro w;have hg:(eqGuard .neq 44 xo yo (.agg #[.bool x.fEnd.fAddr.fV6,.int .u64 x.fEnd.fAddr.fHi,.int .u64 x.fEnd.fAddr.fLo,.int .i64 x.fEnd.fPort,.bool x.fIn,.int .i64 x.fSince,.int .i64 x.fScore.fPoints,.int .i64 x.fScore.fAt,.int .i64 x.fPing,.int .i64 x.fWork]) (.agg #[.bool y.fEnd.fAddr.fV6,.int .u64 y.fEnd.fAddr.fHi,.int .u64 y.fEnd.fAddr.fLo,.int .i64 y.fEnd.fPort,.bool y.fIn,.int .i64 y.fSince,.int .i64 y.fScore.fPoints,.int .i64 y.fScore.fAt,.int .i64 y.fPing,.int .i64 y.fWork])).run Tryz.prog w=.ok () w:=by simp[eqGuard,Sem.run_bind,Tryz.eqGuardType44]
 rw[Sem.run_bind,hg,Result.andThen_ok,run_neq_struct];exact congrArg (fun r:Result Bool=>r.andThen fun b w'=>Result.ok (Value.bool (!b)) w') (Zpw 9994 x y w)
theorem ZrF : (Tryz.prog.fieldsOf 94).toList = [{ name := "Net", type := 32, offset := 0, embedded := false, tag := "", pkgPath := "", byteOffset := 0 }, { name := "Until", type := 3, offset := 4, embedded := false, tag := "", pkgPath := "", byteOffset := 32 }] := by kernel_rfl
theorem Zvm(d:Nat)(x y:Zag)(w:World):(Op.equalIn (d+6) 94 (.agg #[.bool x.fNet.fAddr.fV6,.int .u64 x.fNet.fAddr.fHi,.int .u64 x.fNet.fAddr.fLo,.int .i64 x.fNet.fBits,.int .i64 x.fUntil]) (.agg #[.bool y.fNet.fAddr.fV6,.int .u64 y.fNet.fAddr.fHi,.int .u64 y.fNet.fAddr.fLo,.int .i64 y.fNet.fBits,.int .i64 y.fUntil])).run Tryz.prog w=.ok (decide (x=y)) w:=by rw[run_equalIn_struct w (d+5) _ _ _ (by kernel_rfl) (by kernel_rfl)];simp only[ZrF,Op.eqFields];simp[go_sem,ZkY];cases x;cases y;simp only[Zag.mk.injEq];(repeat' split)<;>simp_all
theorem ZwE(x y:Zag)(xo yo:Operand):∀w,(do eqGuard .neq 94 xo yo (.agg #[.bool x.fNet.fAddr.fV6,.int .u64 x.fNet.fAddr.fHi,.int .u64 x.fNet.fAddr.fLo,.int .i64 x.fNet.fBits,.int .i64 x.fUntil]) (.agg #[.bool y.fNet.fAddr.fV6,.int .u64 y.fNet.fAddr.fHi,.int .u64 y.fNet.fAddr.fLo,.int .i64 y.fNet.fBits,.int .i64 y.fUntil]);binOp .neq 94 (.agg #[.bool x.fNet.fAddr.fV6,.int .u64 x.fNet.fAddr.fHi,.int .u64 x.fNet.fAddr.fLo,.int .i64 x.fNet.fBits,.int .i64 x.fUntil]) (.agg #[.bool y.fNet.fAddr.fV6,.int .u64 y.fNet.fAddr.fHi,.int .u64 y.fNet.fAddr.fLo,.int .i64 y.fNet.fBits,.int .i64 y.fUntil]):Sem Value).run Tryz.prog w=.ok (.bool (!decide (x=y))) w:=by
 intro w;have hg:(eqGuard .neq 94 xo yo (.agg #[.bool x.fNet.fAddr.fV6,.int .u64 x.fNet.fAddr.fHi,.int .u64 x.fNet.fAddr.fLo,.int .i64 x.fNet.fBits,.int .i64 x.fUntil]) (.agg #[.bool y.fNet.fAddr.fV6,.int .u64 y.fNet.fAddr.fHi,.int .u64 y.fNet.fAddr.fLo,.int .i64 y.fNet.fBits,.int .i64 y.fUntil])).run Tryz.prog w=.ok () w:=by simp[eqGuard,Sem.run_bind,Tryz.eqGuardType94]
 rw[Sem.run_bind,hg,Result.andThen_ok,run_neq_struct];exact congrArg (fun r:Result Bool=>r.andThen fun b w'=>Result.ok (Value.bool (!b)) w') (Zvm 9994 x y w)
theorem Zqg : (Tryz.prog.fieldsOf 113).toList = [{ name := "End", type := 30, offset := 0, embedded := false, tag := "", pkgPath := "", byteOffset := 0 }, { name := "State", type := 3, offset := 4, embedded := false, tag := "", pkgPath := "", byteOffset := 32 }, { name := "Fails", type := 3, offset := 5, embedded := false, tag := "", pkgPath := "", byteOffset := 40 }, { name := "Next", type := 3, offset := 6, embedded := false, tag := "", pkgPath := "", byteOffset := 48 }] := by kernel_rfl
theorem ZsO(d:Nat)(x y:Zad)(w:World):(Op.equalIn (d+6) 113 (.agg #[.bool x.fEnd.fAddr.fV6,.int .u64 x.fEnd.fAddr.fHi,.int .u64 x.fEnd.fAddr.fLo,.int .i64 x.fEnd.fPort,.int .i64 x.fState,.int .i64 x.fFails,.int .i64 x.fNext]) (.agg #[.bool y.fEnd.fAddr.fV6,.int .u64 y.fEnd.fAddr.fHi,.int .u64 y.fEnd.fAddr.fLo,.int .i64 y.fEnd.fPort,.int .i64 y.fState,.int .i64 y.fFails,.int .i64 y.fNext])).run Tryz.prog w=.ok (decide (x=y)) w:=by rw[run_equalIn_struct w (d+5) _ _ _ (by kernel_rfl) (by kernel_rfl)];simp only[Zqg,Op.eqFields];simp[go_sem,Znm];cases x;cases y;simp only[Zad.mk.injEq];(repeat' split)<;>simp_all
theorem ZtO(x y:Zad)(xo yo:Operand):∀w,(do eqGuard .neq 113 xo yo (.agg #[.bool x.fEnd.fAddr.fV6,.int .u64 x.fEnd.fAddr.fHi,.int .u64 x.fEnd.fAddr.fLo,.int .i64 x.fEnd.fPort,.int .i64 x.fState,.int .i64 x.fFails,.int .i64 x.fNext]) (.agg #[.bool y.fEnd.fAddr.fV6,.int .u64 y.fEnd.fAddr.fHi,.int .u64 y.fEnd.fAddr.fLo,.int .i64 y.fEnd.fPort,.int .i64 y.fState,.int .i64 y.fFails,.int .i64 y.fNext]);binOp .neq 113 (.agg #[.bool x.fEnd.fAddr.fV6,.int .u64 x.fEnd.fAddr.fHi,.int .u64 x.fEnd.fAddr.fLo,.int .i64 x.fEnd.fPort,.int .i64 x.fState,.int .i64 x.fFails,.int .i64 x.fNext]) (.agg #[.bool y.fEnd.fAddr.fV6,.int .u64 y.fEnd.fAddr.fHi,.int .u64 y.fEnd.fAddr.fLo,.int .i64 y.fEnd.fPort,.int .i64 y.fState,.int .i64 y.fFails,.int .i64 y.fNext]):Sem Value).run Tryz.prog w=.ok (.bool (!decide (x=y))) w:=by
 intro w;have hg:(eqGuard .neq 113 xo yo (.agg #[.bool x.fEnd.fAddr.fV6,.int .u64 x.fEnd.fAddr.fHi,.int .u64 x.fEnd.fAddr.fLo,.int .i64 x.fEnd.fPort,.int .i64 x.fState,.int .i64 x.fFails,.int .i64 x.fNext]) (.agg #[.bool y.fEnd.fAddr.fV6,.int .u64 y.fEnd.fAddr.fHi,.int .u64 y.fEnd.fAddr.fLo,.int .i64 y.fEnd.fPort,.int .i64 y.fState,.int .i64 y.fFails,.int .i64 y.fNext])).run Tryz.prog w=.ok () w:=by simp[eqGuard,Sem.run_bind,Tryz.eqGuardType113]
 rw[Sem.run_bind,hg,Result.andThen_ok,run_neq_struct];exact congrArg (fun r:Result Bool=>r.andThen fun b w'=>Result.ok (Value.bool (!b)) w') (ZsO 9994 x y w)
theorem ZhL(a b:Zap)(h:(fun k:Zap=>(.agg #[.bool k.fAddr.fV6,.int .u64 k.fAddr.fHi,.int .u64 k.fAddr.fLo,.int .i64 k.fBits]:Value)) a=(fun k:Zap=>(.agg #[.bool k.fAddr.fV6,.int .u64 k.fAddr.fHi,.int .u64 k.fAddr.fLo,.int .i64 k.fBits]:Value)) b):a=b:=by
 obtain⟨⟨d,e,g⟩,i⟩:=a;obtain⟨⟨y5,y6,y7⟩,y8⟩:=b;simp only[Value.agg.injEq]at h;have:=congrArg Array.toList h;simp at this;simp_all
theorem ZsC(e:Bool)(n:Nat)(k:Zap)(w:World):(Instr.checkKey e (n+5) 32 (.agg #[.bool k.fAddr.fV6,.int .u64 k.fAddr.fHi,.int .u64 k.fAddr.fLo,.int .i64 k.fBits])).run Tryz.prog w=.ok () w:=by kernel_rfl
theorem ZjZ{ν:Type}{vv:ν->V}(k:Zap)(l:List (Zap×ν)):Zmu Tryz.prog 32 (.agg #[.bool k.fAddr.fV6,.int .u64 k.fAddr.fHi,.int .u64 k.fAddr.fLo,.int .i64 k.fBits]) ((encM (fun k=>.agg #[.bool k.fAddr.fV6,.int .u64 k.fAddr.fHi,.int .u64 k.fAddr.fLo,.int .i64 k.fBits]) vv l).map (·.1)):=
 Zyk (kv:=fun k:Zap=>.agg #[.bool k.fAddr.fV6,.int .u64 k.fAddr.fHi,.int .u64 k.fAddr.fLo,.int .i64 k.fBits]) Tryz.underlying32 (fun a=>⟨_,rfl⟩) 5 (by decide) ZsC (fun n a b w=>by have:=ZkY (n+1) a b w;simpa[Nat.add_assoc]using this) ZhL (fun k=>by simp[Instr.sameBits]) k l
def Zby(b d e:Int):Option Bool:=bif(decide (b>=d))then some (decide (b<=e))else some false
theorem Zbd(e g h:Int)(r:Bool)(b:Zby e g h=some r):Yo 43 [Yj e,Yj g,Yj h] (Yk r):=by
 refine Yv Tryz.func43 fun S0 w0=>?_;unfold Zby at b;obtain⟨d,b⟩|⟨d,b⟩:=Zaj b
 .apply Ya b 4 [rz,rB [(3,true)]] [] (.c d .n)
 .apply Ya b 4 [rz,rB [(3,false)]] [] (.c d .n)
def ZcE(d:Bool)(b:ZaF)(e:Bool):Option Bool:=(Zby b.fHalf (1:Int) (1073741824:Int)).bind fun g=>bif g then(Zby b.fLimit (1:Int) (10000:Int)).bind fun h=>bif h then(Zby b.fBanFor (1:Int) (1073741824:Int)).bind fun i=>bif i then(Zby b.fBase (1:Int) (1073741824:Int)).bind fun j=>bif j then(Zby b.fCap b.fBase (1073741824:Int)).bind fun n=>bif n then(Zby b.fJitter (0:Int) (1073741824:Int)).bind fun o=>bif d then bif e then bif o then some (decide (b.fSecret<=(9223372036854775807:Int)))else some false else some false else some false else bif d then bif e then some false else some false else some false else bif d then bif e then some false else some false else some false else bif d then bif e then some false else some false else some false else bif d then bif e then some false else some false else some false else bif d then bif e then some false else some false else some false
theorem ZeZ(S0:Nat->Prop)(w0:Zba)(v3:Bool)(d:ZaF)(v4 r:Bool)(b:ZcE v3 d v4=some r):Yr 93 S0 w0 Tryz.f9 (Yk r) [1,1,1] ⟨[(1,.one (.ptr 1 0)),(3,(Yk v3)),(4,(Yk v4))],[(1,.box [.lit (.int .i64 d.fMaxIn),.lit (.int .i64 d.fMaxOut),.lit (.int .i64 d.fShards),.lit (.int .i64 d.fMaxBans),.lit (.int .i64 d.fMaxBook),.lit (.int .u64 d.fSecret),.lit (.int .i64 d.fQuota.fGroup),.lit (.int .i64 d.fQuota.fPing),.lit (.int .i64 d.fQuota.fWork),.lit (.int .i64 d.fQuota.fTime),.lit (.int .i64 d.fHalf),.lit (.int .i64 d.fLimit),.lit (.int .i64 d.fBanFor),.lit (.int .i64 d.fBase),.lit (.int .i64 d.fCap),.lit (.int .i64 d.fJitter)])]⟩:=by
 unfold ZcE at b;obtain⟨e,M,b⟩:=Zae b;obtain⟨D,b⟩|⟨D,b⟩:=Zaj b
 .obtain⟨g,R,b⟩:=Zae b;have O1:Obl _:=(.c (Zbd _ _ _ _ M) (.c D (.c (Zbd _ _ _ _ R) .n)));obtain⟨h,b⟩|⟨h,b⟩:=Zaj b
  .obtain⟨t,U,b⟩:=Zae b;have O2:Obl _:=(O1.app (.c h (.c (Zbd _ _ _ _ U) .n)));obtain⟨i,b⟩|⟨i,b⟩:=Zaj b
   .obtain⟨E,W,b⟩:=Zae b;have O3:Obl _:=(O2.app (.c i (.c (Zbd _ _ _ _ W) .n)));obtain⟨j,b⟩|⟨j,b⟩:=Zaj b
    .obtain⟨O,Z,b⟩:=Zae b;have O4:Obl _:=(O3.app (.c j (.c (Zbd _ _ _ _ Z) .n)));obtain⟨o,b⟩|⟨o,b⟩:=Zaj b
     .obtain⟨fG,jQ,b⟩:=Zae b
      let R5:List RA:=[⟨[(2,aB e),(6,aB g),(11,aB t),(16,aB E),(23,aB O),(28,aB fG)],[(3,true),(8,true),(13,true),(18,true),(25,true)],[],[],[],[],[]⟩]
      have O6:Obl _:=(O4.app (.c o (.c (Zbd _ _ _ _ jQ) .n)));obtain⟨p,b⟩|⟨p,b⟩:=Zaj b
      .obtain⟨u,b⟩|⟨u,b⟩:=Zaj b
       .obtain⟨F,b⟩|⟨F,b⟩:=Zaj b
        .apply Ya b 4 (R5++[rB [(1,true),(4,true),(7,true)]]) [] (O6.app (.c p (.c u (.c F .n))))
        .apply Ya b 4 (R5++[rB [(1,true),(4,true),(7,false)]]) [] (O6.app (.c p (.c u (.c F .n))))
       .apply Ya b 4 (R5++[rB [(1,true),(4,false)]]) [] (O6.app (.c p (.c u .n)))
      .apply Ya b 4 (R5++[rB [(1,false)]]) [] (O6.app (.c p .n))
     .let R7:List RA:=[⟨[(2,aB e),(6,aB g),(11,aB t),(16,aB E),(23,aB O)],[(3,true),(8,true),(13,true),(18,true),(25,false)],[],[],[],[],[]⟩]
      obtain⟨v,b⟩|⟨v,b⟩:=Zaj b
      .obtain⟨G,b⟩|⟨G,b⟩:=Zaj b
       .apply Ya b 4 (R7++[rB [(1,true),(4,true)]]) [] (O4.app (.c o (.c v (.c G .n))))
       .apply Ya b 4 (R7++[rB [(1,true),(4,false)]]) [] (O4.app (.c o (.c v (.c G .n))))
      .apply Ya b 4 (R7++[rB [(1,false)]]) [] (O4.app (.c o (.c v .n)))
    .let R8:List RA:=[⟨[(2,aB e),(6,aB g),(11,aB t),(16,aB E)],[(3,true),(8,true),(13,true),(18,false)],[],[],[],[],[]⟩]
     obtain⟨y,b⟩|⟨y,b⟩:=Zaj b
     .obtain⟨H,b⟩|⟨H,b⟩:=Zaj b
      .apply Ya b 4 (R8++[rB [(1,true),(4,true)]]) [] (O3.app (.c j (.c y (.c H .n))))
      .apply Ya b 4 (R8++[rB [(1,true),(4,false)]]) [] (O3.app (.c j (.c y (.c H .n))))
     .apply Ya b 4 (R8++[rB [(1,false)]]) [] (O3.app (.c j (.c y .n)))
   .let R9:List RA:=[⟨[(2,aB e),(6,aB g),(11,aB t)],[(3,true),(8,true),(13,false)],[],[],[],[],[]⟩]
    obtain⟨z,b⟩|⟨z,b⟩:=Zaj b
    .obtain⟨I,b⟩|⟨I,b⟩:=Zaj b
     .apply Ya b 4 (R9++[rB [(1,true),(4,true)]]) [] (O2.app (.c i (.c z (.c I .n))))
     .apply Ya b 4 (R9++[rB [(1,true),(4,false)]]) [] (O2.app (.c i (.c z (.c I .n))))
    .apply Ya b 4 (R9++[rB [(1,false)]]) [] (O2.app (.c i (.c z .n)))
  .let gw:List RA:=[⟨[(2,aB e),(6,aB g)],[(3,true),(8,false)],[],[],[],[],[]⟩]
   obtain⟨A,b⟩|⟨A,b⟩:=Zaj b
   .obtain⟨J,b⟩|⟨J,b⟩:=Zaj b
    .apply Ya b 4 (gw++[rB [(1,true),(4,true)]]) [] (O1.app (.c h (.c A (.c J .n))))
    .apply Ya b 4 (gw++[rB [(1,true),(4,false)]]) [] (O1.app (.c h (.c A (.c J .n))))
   .apply Ya b 4 (gw++[rB [(1,false)]]) [] (O1.app (.c h (.c A .n)))
 .let jR:List RA:=[⟨[(2,aB e)],[(3,false)],[],[],[],[],[]⟩]
  have jS:Obl _:=(.c (Zbd _ _ _ _ M) (.c D .n));obtain⟨B,b⟩|⟨B,b⟩:=Zaj b
  .obtain⟨L,b⟩|⟨L,b⟩:=Zaj b
   .apply Ya b 4 (jR++[rB [(1,true),(4,true)]]) [] (jS.app (.c B (.c L .n)))
   .apply Ya b 4 (jR++[rB [(1,true),(4,false)]]) [] (jS.app (.c B (.c L .n)))
  .apply Ya b 4 (jR++[rB [(1,false)]]) [] (jS.app (.c B .n))
def Zcc(d:Bool)(b:ZaF):Option Bool:=(Zby b.fQuota.fGroup (0:Int) (64:Int)).bind fun e=>bif e then(Zby b.fQuota.fPing (0:Int) (64:Int)).bind fun g=>bif g then(Zby b.fQuota.fWork (0:Int) (64:Int)).bind fun h=>bif h then(Zby b.fQuota.fTime (0:Int) (64:Int)).bind fun i=>ZcE d b i else ZcE d b false else ZcE d b false else ZcE d b false
theorem ZdK(S0:Nat->Prop)(w0:Zba)(i:Bool)(d:ZaF)(r:Bool)(b:Zcc i d=some r):Yr 93 S0 w0 Tryz.f9 (Yk r) [1,1] ⟨[(1,.one (.ptr 1 0)),(3,(Yk i))],[(1,.box [.lit (.int .i64 d.fMaxIn),.lit (.int .i64 d.fMaxOut),.lit (.int .i64 d.fShards),.lit (.int .i64 d.fMaxBans),.lit (.int .i64 d.fMaxBook),.lit (.int .u64 d.fSecret),.lit (.int .i64 d.fQuota.fGroup),.lit (.int .i64 d.fQuota.fPing),.lit (.int .i64 d.fQuota.fWork),.lit (.int .i64 d.fQuota.fTime),.lit (.int .i64 d.fHalf),.lit (.int .i64 d.fLimit),.lit (.int .i64 d.fBanFor),.lit (.int .i64 d.fBase),.lit (.int .i64 d.fCap),.lit (.int .i64 d.fJitter)])]⟩:=by
 unfold Zcc at b;obtain⟨o,j,b⟩:=Zae b;obtain⟨e,b⟩|⟨e,b⟩:=Zaj b
 .obtain⟨p,t,b⟩:=Zae b;have O13:Obl _:=(.c (Zbd _ _ _ _ j) (.c e (.c (Zbd _ _ _ _ t) .n)));obtain⟨g,b⟩|⟨g,b⟩:=Zaj b
  .obtain⟨y,u,b⟩:=Zae b;have O14:Obl _:=(O13.app (.c g (.c (Zbd _ _ _ _ u) .n)));obtain⟨h,b⟩|⟨h,b⟩:=Zaj b
   .obtain⟨z,v,b⟩:=Zae b;exact Ye 2 [⟨[(3,aB o),(8,aB p),(14,aB y),(20,aB z)],[(4,true),(10,true),(16,true)],[],[],[],[],[]⟩] [] ⟨[],[],[],[],[],[1,3,4],[1],[]⟩ (O14.app (.c h (.c (Zbd _ _ _ _ v) .n))) (ZeZ S0 w0 i d z r b)
   .exact Ye 2 [⟨[(3,aB o),(8,aB p),(14,aB y)],[(4,true),(10,true),(16,false)],[],[],[],[],[]⟩] [] ⟨[],[],[],[],[],[1,3,4],[1],[]⟩ (O14.app (.c h .n)) (ZeZ S0 w0 i d false r b)
  .exact Ye 2 [⟨[(3,aB o),(8,aB p)],[(4,true),(10,false)],[],[],[],[],[]⟩] [] ⟨[],[],[],[],[],[1,3,4],[1],[]⟩ (O13.app (.c g .n)) (ZeZ S0 w0 i d false r b)
 .exact Ye 2 [⟨[(3,aB o)],[(4,false)],[],[],[],[],[]⟩] [] ⟨[],[],[],[],[],[1,3,4],[1],[]⟩ (.c (Zbd _ _ _ _ j) (.c e .n)) (ZeZ S0 w0 i d false r b)
def ZdO(b:ZaF):Option Bool:=(Zby b.fMaxIn (0:Int) (65535:Int)).bind fun d=>bif d then(Zby b.fMaxOut (0:Int) (65535:Int)).bind fun e=>bif e then(Zby b.fShards (1:Int) (8:Int)).bind fun g=>bif g then(Zby b.fMaxBans (0:Int) (1024:Int)).bind fun h=>bif h then(Zby b.fMaxBook (0:Int) (1024:Int)).bind fun i=>Zcc i b else Zcc false b else Zcc false b else Zcc false b else Zcc false b
theorem Zkm(d:ZaF)(r:Bool)(b:ZdO d=some r):Yo 9 [.agg (ZaF.c d)] (Yk r):=by
 refine Yv Tryz.func9 fun S0 w0=>?_;unfold ZdO at b;obtain⟨e,t,b⟩:=Zae b;obtain⟨h,b⟩|⟨h,b⟩:=Zaj b
 .obtain⟨g,y,b⟩:=Zae b;have O15:Obl _:=(.c (Zbd _ _ _ _ t) (.c h (.c (Zbd _ _ _ _ y) .n)));obtain⟨i,b⟩|⟨i,b⟩:=Zaj b
  .obtain⟨j,z,b⟩:=Zae b;have O16:Obl _:=(O15.app (.c i (.c (Zbd _ _ _ _ z) .n)));obtain⟨o,b⟩|⟨o,b⟩:=Zaj b
   .obtain⟨u,A,b⟩:=Zae b;have O17:Obl _:=(O16.app (.c o (.c (Zbd _ _ _ _ A) .n)));obtain⟨p,b⟩|⟨p,b⟩:=Zaj b
    .obtain⟨v,B,b⟩:=Zae b;exact Ye 4 [rz,⟨[(2,aB e),(6,aB g),(11,aB j),(16,aB u),(21,aB v)],[(3,true),(8,true),(13,true),(18,true)],[],[],[],[],[]⟩] [] ⟨[],[],[],[],[],[1,3],[1],[]⟩ (O17.app (.c p (.c (Zbd _ _ _ _ B) .n))) (ZdK S0 w0 v d r b)
    .exact Ye 4 [rz,⟨[(2,aB e),(6,aB g),(11,aB j),(16,aB u)],[(3,true),(8,true),(13,true),(18,false)],[],[],[],[],[]⟩] [] ⟨[],[],[],[],[],[1,3],[1],[]⟩ (O17.app (.c p .n)) (ZdK S0 w0 false d r b)
   .exact Ye 4 [rz,⟨[(2,aB e),(6,aB g),(11,aB j)],[(3,true),(8,true),(13,false)],[],[],[],[],[]⟩] [] ⟨[],[],[],[],[],[1,3],[1],[]⟩ (O16.app (.c o .n)) (ZdK S0 w0 false d r b)
  .exact Ye 4 [rz,⟨[(2,aB e),(6,aB g)],[(3,true),(8,false)],[],[],[],[],[]⟩] [] ⟨[],[],[],[],[],[1,3],[1],[]⟩ (O15.app (.c i .n)) (ZdK S0 w0 false d r b)
 .exact Ye 4 [rz,⟨[(2,aB e)],[(3,false)],[],[],[],[],[]⟩] [] ⟨[],[],[],[],[],[1,3],[1],[]⟩ (.c (Zbd _ _ _ _ t) (.c h .n)) (ZdK S0 w0 false d r b)
def Zdy(b:List Zac):Nat->Int->Option Bool|0,_=>none|fu+1,e=>bif(decide (e<(b.length:Int)))then bif(decide (e<(80:Int)))then need (0<=e/\e<(b.length:Int))<|bif(decide (((((b.getD e.toNat Zac.d).fBans).length:Nat):Int)>(20:Int)))then some false else bif(decide (((((b.getD e.toNat Zac.d).fBook).length:Nat):Int)>(20:Int)))then some false else Zdy b fu (Zar e 1)else some (decide ((b.length:Int)<=(80:Int)))else some (decide ((b.length:Int)<=(80:Int)))
theorem ZnS(S0:Nat->Prop)(w0:Zba)(t:List Zac):∀(j:Nat)(g:Int)(r:Bool),Zdy t j g=some r->Yr 33 S0 w0 Tryz.f10 (Yk r) [1,0,1,0] ⟨[(0,.one (cL 13 Zac.c Zac.d t)),(3,(Yj g))],[]⟩:=by
 intro j;induction j with
 |zero=>
  intro g r b;simp[Zdy]at b
 |succ j u=>
  intro g r b;unfold Zdy at b;obtain⟨e,b⟩|⟨e,b⟩:=Zaj b
  .obtain⟨h,b⟩|⟨h,b⟩:=Zaj b
   .obtain⟨i,b⟩:=Zat b;obtain⟨o,b⟩|⟨o,b⟩:=Zaj b
    .apply Ya b 13 [rB [(4,true)],rB [(7,true)],rz] [true,true] (.c e (.c h (.c i (.c o (.c (show true=true from rfl) .n)))))
    .obtain⟨p,b⟩|⟨p,b⟩:=Zaj b
     .apply Ya b 13 [rB [(4,true)],rB [(7,false)],rz] [true,true] (.c e (.c h (.c i (.c o (.c i (.c p .n))))))
     .exact Ye 15 [rB [(4,true)],rB [(7,false)],rz] [true,false] (Yi [0,3]) (.c e (.c h (.c i (.c o (.c i (.c p .n)))))) (u (Zar g 1) r b)
   .apply Ya b 8 [rB [(4,true)],rz] [false] (.c e (.c h .n))
  .apply Ya b 8 [rB [(4,false)],rz] [false] (.c e (.c (show false=false from rfl) .n))
def ZhZ(b:List Zac):Option Bool:=Zdy b (((80:Int)-(0:Int)).toNat+2) (0:Int)
theorem Zps(b:List Zac)(r:Bool)(e:ZhZ b=some r):Yo 10 [.one (cL 13 Zac.c Zac.d b)] (Yk r):=by
 refine Yv Tryz.func10 fun S0 w0=>?_;unfold ZhZ at e;exact Ye 6 [rz,rz] [] (Yi [0,3]) .n (ZnS S0 w0 b (((80:Int)-(0:Int)).toNat+2) (0:Int) r e)
def ZiY:Option ZaF:=some (ZaF.mk 8 4 4 64 64 1 (Zay.mk 1 1 1 1) 100 100 1000 2 64 4)
theorem Zkn(r:ZaF)(b:ZiY=some r):Yo 44 [] (.agg (ZaF.c r)):=by
 refine Yv Tryz.func44 fun S0 w0=>?_;unfold ZiY at b;apply Ya b 4 [rz,rz] [] .n
def ZmP:Option (ByteArray×ByteArray×ByteArray×ByteArray×ByteArray×ByteArray×ByteArray×ByteArray×ByteArray×ByteArray×ByteArray×ByteArray×ByteArray×ByteArray):=some ((⟨#[]⟩ : ByteArray),(⟨#[97,99,99,101,112,116]⟩ : ByteArray),(⟨#[108,101,97,118,101]⟩ : ByteArray),(⟨#[100,105,97,108]⟩ : ByteArray),(⟨#[114,101,115,117,108,116]⟩ : ByteArray),(⟨#[98,108,97,109,101]⟩ : ByteArray),(⟨#[98,97,110]⟩ : ByteArray),(⟨#[117,110,98,97,110]⟩ : ByteArray),(⟨#[98,97,110,110,101,100]⟩ : ByteArray),(⟨#[116,105,99,107]⟩ : ByteArray),(⟨#[108,105,115,116]⟩ : ByteArray),(⟨#[112,111,110,103]⟩ : ByteArray),(⟨#[119,111,114,107]⟩ : ByteArray),(⟨#[108,101,97,114,110]⟩ : ByteArray))
theorem Zuf(r:(ByteArray×ByteArray×ByteArray×ByteArray×ByteArray×ByteArray×ByteArray×ByteArray×ByteArray×ByteArray×ByteArray×ByteArray×ByteArray×ByteArray))(b:ZmP=some r):Yo 218 [] (.agg ((cP cS (cP cS (cP cS (cP cS (cP cS (cP cS (cP cS (cP cS (cP cS (cP cS (cP cS (cP cS (cP cS cS))))))))))))) r)):=by
 refine Yv Tryz.func218 fun S0 w0=>?_;unfold ZmP at b;apply Ya b 4 [rz,rz] [] .n
def Zrr(d:List ByteArray)(b:Int):Option ByteArray:=bif(decide (b<(0:Int)))then some (⟨#[]⟩ : ByteArray)else bif(decide (b>=(d.length:Int)))then some (⟨#[]⟩ : ByteArray)else need (0<=b/\b<(d.length:Int))<|some (d.getD b.toNat ByteArray.empty)
theorem Zyt(g:List ByteArray)(h:Int)(r:ByteArray)(b:Zrr g h=some r):Yo 219 [.one (cL 1 cS ByteArray.empty g),Yj h] (.one (.lit (.string r))):=by
 refine Yv Tryz.func219 fun S0 w0=>?_;unfold Zrr at b;obtain⟨d,b⟩|⟨d,b⟩:=Zaj b
 .apply Ya b 8 [rz,rB [(2,true)],rz] [true] (.c d (.c (show true=true from rfl) .n))
 .obtain⟨e,b⟩|⟨e,b⟩:=Zaj b
  .apply Ya b 8 [rz,rB [(2,false)],rz] [true] (.c d (.c e .n))
  .obtain⟨i,b⟩:=Zat b;apply Ya b 9 [rz,rB [(2,false)],rz] [false] (.c d (.c e (.c i .n)))
def Zml(d:Int):Option ByteArray:=(ZmP).bind fun b=>(Zrr ([b.1,b.2.1,b.2.2.1,b.2.2.2.1,b.2.2.2.2.1,b.2.2.2.2.2.1,b.2.2.2.2.2.2.1,b.2.2.2.2.2.2.2.1,b.2.2.2.2.2.2.2.2.1,b.2.2.2.2.2.2.2.2.2.1,b.2.2.2.2.2.2.2.2.2.2.1,b.2.2.2.2.2.2.2.2.2.2.2.1,b.2.2.2.2.2.2.2.2.2.2.2.2.1,b.2.2.2.2.2.2.2.2.2.2.2.2.2]:List ByteArray) d).bind fun e=>some e
theorem Zqo(e:Int)(r:ByteArray)(d:Zml e=some r):Yo 156 [Yj e] (.one (.lit (.string r))):=by
 refine Yv Tryz.func156 fun S0 w0=>?_;unfold Zml at d;obtain⟨b,g,h,o,d⟩:=Yu d;apply Ya d 6 [rz,rA [(0,aG ((cP cS (cP cS (cP cS (cP cS (cP cS (cP cS (cP cS (cP cS (cP cS (cP cS (cP cS (cP cS (cP cS cS))))))))))))) b))],⟨[(2,.r (.one (.lit (.string g))) [])],[],[(0,[3])],[],[],[(0,(([b.1,b.2.1,b.2.2.1,b.2.2.2.1,b.2.2.2.2.1,b.2.2.2.2.2.1,b.2.2.2.2.2.2.1,b.2.2.2.2.2.2.2.1,b.2.2.2.2.2.2.2.2.1,b.2.2.2.2.2.2.2.2.2.1,b.2.2.2.2.2.2.2.2.2.2.1,b.2.2.2.2.2.2.2.2.2.2.2.1,b.2.2.2.2.2.2.2.2.2.2.2.2.1,b.2.2.2.2.2.2.2.2.2.2.2.2.2]:List ByteArray).length,Zam cS ByteArray.empty ([b.1,b.2.1,b.2.2.1,b.2.2.2.1,b.2.2.2.2.1,b.2.2.2.2.2.1,b.2.2.2.2.2.2.1,b.2.2.2.2.2.2.2.1,b.2.2.2.2.2.2.2.2.1,b.2.2.2.2.2.2.2.2.2.1,b.2.2.2.2.2.2.2.2.2.2.1,b.2.2.2.2.2.2.2.2.2.2.2.1,b.2.2.2.2.2.2.2.2.2.2.2.2.1,b.2.2.2.2.2.2.2.2.2.2.2.2.2]:List ByteArray)))],[]⟩] [] (.c (Zuf _ h) (.c (show ([b.1,b.2.1,b.2.2.1,b.2.2.2.1,b.2.2.2.2.1,b.2.2.2.2.2.1,b.2.2.2.2.2.2.1,b.2.2.2.2.2.2.2.1,b.2.2.2.2.2.2.2.2.1,b.2.2.2.2.2.2.2.2.2.1,b.2.2.2.2.2.2.2.2.2.2.1,b.2.2.2.2.2.2.2.2.2.2.2.1,b.2.2.2.2.2.2.2.2.2.2.2.2.1,b.2.2.2.2.2.2.2.2.2.2.2.2.2]:List ByteArray).length=14/\∀i j,i<14->j<1->Zam cS ByteArray.empty ([b.1,b.2.1,b.2.2.1,b.2.2.2.1,b.2.2.2.2.1,b.2.2.2.2.2.1,b.2.2.2.2.2.2.1,b.2.2.2.2.2.2.2.1,b.2.2.2.2.2.2.2.2.1,b.2.2.2.2.2.2.2.2.2.1,b.2.2.2.2.2.2.2.2.2.2.1,b.2.2.2.2.2.2.2.2.2.2.2.1,b.2.2.2.2.2.2.2.2.2.2.2.2.1,b.2.2.2.2.2.2.2.2.2.2.2.2.2]:List ByteArray) i j=([.lit (.string b.1),.lit (.string b.2.1),.lit (.string b.2.2.1),.lit (.string b.2.2.2.1),.lit (.string b.2.2.2.2.1),.lit (.string b.2.2.2.2.2.1),.lit (.string b.2.2.2.2.2.2.1),.lit (.string b.2.2.2.2.2.2.2.1),.lit (.string b.2.2.2.2.2.2.2.2.1),.lit (.string b.2.2.2.2.2.2.2.2.2.1),.lit (.string b.2.2.2.2.2.2.2.2.2.2.1),.lit (.string b.2.2.2.2.2.2.2.2.2.2.2.1),.lit (.string b.2.2.2.2.2.2.2.2.2.2.2.2.1),.lit (.string b.2.2.2.2.2.2.2.2.2.2.2.2.2)]:List C).getD (0+(i * 1+j)) .junk from⟨rfl,ZGh (sz:=1) cS ByteArray.empty ([b.1,b.2.1,b.2.2.1,b.2.2.2.1,b.2.2.2.2.1,b.2.2.2.2.2.1,b.2.2.2.2.2.2.1,b.2.2.2.2.2.2.2.1,b.2.2.2.2.2.2.2.2.1,b.2.2.2.2.2.2.2.2.2.1,b.2.2.2.2.2.2.2.2.2.2.1,b.2.2.2.2.2.2.2.2.2.2.2.1,b.2.2.2.2.2.2.2.2.2.2.2.2.1,b.2.2.2.2.2.2.2.2.2.2.2.2.2]:List ByteArray) [.lit (.string b.1),.lit (.string b.2.1),.lit (.string b.2.2.1),.lit (.string b.2.2.2.1),.lit (.string b.2.2.2.2.1),.lit (.string b.2.2.2.2.2.1),.lit (.string b.2.2.2.2.2.2.1),.lit (.string b.2.2.2.2.2.2.2.1),.lit (.string b.2.2.2.2.2.2.2.2.1),.lit (.string b.2.2.2.2.2.2.2.2.2.1),.lit (.string b.2.2.2.2.2.2.2.2.2.2.1),.lit (.string b.2.2.2.2.2.2.2.2.2.2.2.1),.lit (.string b.2.2.2.2.2.2.2.2.2.2.2.2.1),.lit (.string b.2.2.2.2.2.2.2.2.2.2.2.2.2)] (fun _=>rfl) rfl⟩) (.c (Zyt _ _ _ o) .n)))
def Zku(b:Int)(d:Bool):Option (List Int):=bif d then some ([(3:Int)]:List Int)else bif(b==(4:Int))then some ([(0:Int),(5:Int),(3:Int),(4:Int)]:List Int)else bif(b==(5:Int))then some ([(0:Int),(4:Int),(3:Int)]:List Int)else bif(b==(6:Int))then some ([(1:Int),(4:Int),(3:Int)]:List Int)else bif(b==(7:Int))then some ([(1:Int)]:List Int)else bif(b==(8:Int))then some ([(2:Int),(3:Int)]:List Int)else bif(b==(11:Int))then some ([(0:Int),(4:Int)]:List Int)else some ([]:List Int)
theorem ZmR(S0:Nat->Prop)(w0:Zba)(z:Int)(u:Bool)(r:List Int)(b:Zku z u=some r):Ys 34 S0 w0 Tryz.f157 [(99999,.rows 234 1 r.length (Zam (cI .i64) (0:Int) r))] (.one (.osl 99999 r.length)) [1,0,1,0,1,1,1,1,1] ⟨[(3,(Yj z)),(12,(Yk u))],[]⟩:=by
 unfold Zku at b;obtain⟨g,b⟩|⟨g,b⟩:=Zaj b
 .apply Yc b 3 [rA [(0,.c ([(3:Int)]:List Int).length (Zam (cI .i64) (0:Int) ([(3:Int)]:List Int)))]] [true] ⟨[],[],[],[],[],[2],[15],[(15,99999)]⟩ (.c g (.c (show ([(3:Int)]:List Int).length=1 from rfl) (.c (show ∀i j,i<1->j<1->Zam (cI .i64) (0:Int) ([(3:Int)]:List Int) i j=(([(3:Int)]:List Int).flatMap (cI .i64)).getD (i * 1+j) .junk from(fun i j hi hj=>Zbh (sz:=1) (e:=(cI .i64)) (d:=(0:Int)) (fun _=>rfl) ([(3:Int)]:List Int) i j hi hj)) .n)))
 .obtain⟨h,b⟩|⟨h,b⟩:=Zaj b
  .apply Yc b 6 [rz,rA [(0,.c ([(0:Int),(5:Int),(3:Int),(4:Int)]:List Int).length (Zam (cI .i64) (0:Int) ([(0:Int),(5:Int),(3:Int),(4:Int)]:List Int)))]] [false,true] ⟨[],[],[],[],[],[2],[18],[(18,99999)]⟩ (.c g (.c h (.c (show ([(0:Int),(5:Int),(3:Int),(4:Int)]:List Int).length=4 from rfl) (.c (show ∀i j,i<4->j<1->Zam (cI .i64) (0:Int) ([(0:Int),(5:Int),(3:Int),(4:Int)]:List Int) i j=(([(0:Int),(5:Int),(3:Int),(4:Int)]:List Int).flatMap (cI .i64)).getD (i * 1+j) .junk from(fun i j hi hj=>Zbh (sz:=1) (e:=(cI .i64)) (d:=(0:Int)) (fun _=>rfl) ([(0:Int),(5:Int),(3:Int),(4:Int)]:List Int) i j hi hj)) .n))))
  .obtain⟨t,b⟩|⟨t,b⟩:=Zaj b
   .apply Yc b 9 [rz,rz,rA [(0,.c ([(0:Int),(4:Int),(3:Int)]:List Int).length (Zam (cI .i64) (0:Int) ([(0:Int),(4:Int),(3:Int)]:List Int)))]] [false,false,true] ⟨[],[],[],[],[],[2],[21],[(21,99999)]⟩ (.c g (.c h (.c t (.c (show ([(0:Int),(4:Int),(3:Int)]:List Int).length=3 from rfl) (.c (show ∀i j,i<3->j<1->Zam (cI .i64) (0:Int) ([(0:Int),(4:Int),(3:Int)]:List Int) i j=(([(0:Int),(4:Int),(3:Int)]:List Int).flatMap (cI .i64)).getD (i * 1+j) .junk from(fun i j hi hj=>Zbh (sz:=1) (e:=(cI .i64)) (d:=(0:Int)) (fun _=>rfl) ([(0:Int),(4:Int),(3:Int)]:List Int) i j hi hj)) .n)))))
   .obtain⟨v,b⟩|⟨v,b⟩:=Zaj b
    .apply Yc b 12 [rz,rz,rz,rA [(0,.c ([(1:Int),(4:Int),(3:Int)]:List Int).length (Zam (cI .i64) (0:Int) ([(1:Int),(4:Int),(3:Int)]:List Int)))]] [false,false,false,true] ⟨[],[],[],[],[],[2],[24],[(24,99999)]⟩ (.c g (.c h (.c t (.c v (.c (show ([(1:Int),(4:Int),(3:Int)]:List Int).length=3 from rfl) (.c (show ∀i j,i<3->j<1->Zam (cI .i64) (0:Int) ([(1:Int),(4:Int),(3:Int)]:List Int) i j=(([(1:Int),(4:Int),(3:Int)]:List Int).flatMap (cI .i64)).getD (i * 1+j) .junk from(fun i j hi hj=>Zbh (sz:=1) (e:=(cI .i64)) (d:=(0:Int)) (fun _=>rfl) ([(1:Int),(4:Int),(3:Int)]:List Int) i j hi hj)) .n))))))
    .obtain⟨y,b⟩|⟨y,b⟩:=Zaj b
     .apply Yc b 15 [rz,rz,rz,rz,rA [(0,.c ([(1:Int)]:List Int).length (Zam (cI .i64) (0:Int) ([(1:Int)]:List Int)))]] [false,false,false,false,true] ⟨[],[],[],[],[],[2],[27],[(27,99999)]⟩ (.c g (.c h (.c t (.c v (.c y (.c (show ([(1:Int)]:List Int).length=1 from rfl) (.c (show ∀i j,i<1->j<1->Zam (cI .i64) (0:Int) ([(1:Int)]:List Int) i j=(([(1:Int)]:List Int).flatMap (cI .i64)).getD (i * 1+j) .junk from(fun i j hi hj=>Zbh (sz:=1) (e:=(cI .i64)) (d:=(0:Int)) (fun _=>rfl) ([(1:Int)]:List Int) i j hi hj)) .n)))))))
     .obtain⟨o,b⟩|⟨o,b⟩:=Zaj b
      .apply Yc b 18 [rz,rz,rz,rz,rz,rA [(0,.c ([(2:Int),(3:Int)]:List Int).length (Zam (cI .i64) (0:Int) ([(2:Int),(3:Int)]:List Int)))]] [false,false,false,false,false,true] ⟨[],[],[],[],[],[2],[30],[(30,99999)]⟩ (.c g (.c h (.c t (.c v (.c y (.c o (.c (show ([(2:Int),(3:Int)]:List Int).length=2 from rfl) (.c (show ∀i j,i<2->j<1->Zam (cI .i64) (0:Int) ([(2:Int),(3:Int)]:List Int) i j=(([(2:Int),(3:Int)]:List Int).flatMap (cI .i64)).getD (i * 1+j) .junk from(fun i j hi hj=>Zbh (sz:=1) (e:=(cI .i64)) (d:=(0:Int)) (fun _=>rfl) ([(2:Int),(3:Int)]:List Int) i j hi hj)) .n))))))))
      .have O1:Obl _:=(.c g (.c h (.c t (.c v (.c y (.c o .n))))));obtain⟨p,b⟩|⟨p,b⟩:=Zaj b
       .apply Yc b 21 [rz,rz,rz,rz,rz,rz,rA [(0,.c ([(0:Int),(4:Int)]:List Int).length (Zam (cI .i64) (0:Int) ([(0:Int),(4:Int)]:List Int)))]] [false,false,false,false,false,false,true] ⟨[],[],[],[],[],[2],[33],[(33,99999)]⟩ (O1.app (.c p (.c (show ([(0:Int),(4:Int)]:List Int).length=2 from rfl) (.c (show ∀i j,i<2->j<1->Zam (cI .i64) (0:Int) ([(0:Int),(4:Int)]:List Int) i j=(([(0:Int),(4:Int)]:List Int).flatMap (cI .i64)).getD (i * 1+j) .junk from(fun i j hi hj=>Zbh (sz:=1) (e:=(cI .i64)) (d:=(0:Int)) (fun _=>rfl) ([(0:Int),(4:Int)]:List Int) i j hi hj)) .n))))
       .apply Yc b 23 [rz,rz,rz,rz,rz,rz,rz] [false,false,false,false,false,false,false] ⟨[],[],[],[],[(2,99999,234,1,Zam (cI .i64) (0:Int) [])],[2],[99999],[]⟩ (O1.app (.c p .n))
def Ziu(b:Int)(d:Bool):Option (List Int):=bif d then some ([(0:Int),(3:Int)]:List Int)else bif(b==(2:Int))then some ([(0:Int)]:List Int)else bif(b==(3:Int))then Zku b (b==(3:Int))else Zku b (b==(9:Int))
theorem Zkv(S0:Nat->Prop)(w0:Zba)(g:Int)(t:Bool)(r:List Int)(b:Ziu g t=some r):Ys 34 S0 w0 Tryz.f157 [(99999,.rows 234 1 r.length (Zam (cI .i64) (0:Int) r))] (.one (.osl 99999 r.length)) [1,0,1,0,1] ⟨[(3,(Yj g)),(4,(Yk t))],[]⟩:=by
 unfold Ziu at b;obtain⟨h,b⟩|⟨h,b⟩:=Zaj b
 .apply Yc b 3 [rA [(0,.c ([(0:Int),(3:Int)]:List Int).length (Zam (cI .i64) (0:Int) ([(0:Int),(3:Int)]:List Int)))]] [true] ⟨[],[],[],[],[],[2],[8],[(8,99999)]⟩ (.c h (.c (show ([(0:Int),(3:Int)]:List Int).length=2 from rfl) (.c (show ∀i j,i<2->j<1->Zam (cI .i64) (0:Int) ([(0:Int),(3:Int)]:List Int) i j=(([(0:Int),(3:Int)]:List Int).flatMap (cI .i64)).getD (i * 1+j) .junk from(fun i j hi hj=>Zbh (sz:=1) (e:=(cI .i64)) (d:=(0:Int)) (fun _=>rfl) ([(0:Int),(3:Int)]:List Int) i j hi hj)) .n)))
 .obtain⟨o,b⟩|⟨o,b⟩:=Zaj b
  .apply Yc b 6 [rz,rA [(0,.c ([(0:Int)]:List Int).length (Zam (cI .i64) (0:Int) ([(0:Int)]:List Int)))]] [false,true] ⟨[],[],[],[],[],[2],[11],[(11,99999)]⟩ (.c h (.c o (.c (show ([(0:Int)]:List Int).length=1 from rfl) (.c (show ∀i j,i<1->j<1->Zam (cI .i64) (0:Int) ([(0:Int)]:List Int) i j=(([(0:Int)]:List Int).flatMap (cI .i64)).getD (i * 1+j) .junk from(fun i j hi hj=>Zbh (sz:=1) (e:=(cI .i64)) (d:=(0:Int)) (fun _=>rfl) ([(0:Int)]:List Int) i j hi hj)) .n))))
  .obtain⟨p,b⟩|⟨p,b⟩:=Zaj b
   .exact Ye 9 [rz,rz] [false,false,true] (Yi [3,12]) (.c h (.c o (.c p .n))) (ZmR S0 w0 g (g==(3:Int)) r b)
   .exact Ye 9 [rz,rz,rz] [false,false,false] (Yi [3,12]) (.c h (.c o (.c p .n))) (ZmR S0 w0 g (g==(9:Int)) r b)
def ZjQ(b:Int):Option (List Int):=bif(b==(1:Int))then Ziu b (b==(1:Int))else bif(b==(12:Int))then Ziu b (b==(12:Int))else Ziu b (b==(13:Int))
theorem ZsL(d:Int)(r:List Int)(b:ZjQ d=some r):Yp 157 [] [Yj d] [(99999,.rows 234 1 r.length (Zam (cI .i64) (0:Int) r))] (.one (.osl 99999 r.length)):=by
 refine Yw Tryz.func157 fun S0 w0=>?_;unfold ZjQ at b;obtain⟨e,b⟩|⟨e,b⟩:=Zaj b
 .exact Ye 11 [rz,rz,rz] [true] (Yi [3,4]) (.c e .n) (Zkv S0 w0 d (d==(1:Int)) r b)
 .obtain⟨g,b⟩|⟨g,b⟩:=Zaj b
  .exact Ye 14 [rz,rz,rz,rz] [false,true] (Yi [3,4]) (.c e (.c g .n)) (Zkv S0 w0 d (d==(12:Int)) r b)
  .exact Ye 14 [rz,rz,rz,rz,rz] [false,false] (Yi [3,4]) (.c e (.c g .n)) (Zkv S0 w0 d (d==(13:Int)) r b)
theorem Zuh(b:Int)(r:List Int)(d:ZjQ b=some r):Yo 157 [Yj b] (.one (cL 1 (cI .i64) (0:Int) r)):=(ZsL b r d).pure
def ZnU(b:Int):Option Zaf:=some (Zaf.mk false 0 (IntKind.wrap .u64 b))
theorem Zst(b:Int)(r:Zaf)(d:ZnU b=some r):Yo 295 [.one (.lit (.int .u32 b))] (.agg (Zaf.c r)):=by
 refine Yv Tryz.func295 fun S0 w0=>?_;unfold ZnU at d;apply Ya d 4 [rz,rz] [] .n
def Zrw(d b:Int):Option Zaf:=bif(d==(0:Int))then bif((Int.fdiv b (2 ^ (min (32:Int).toNat (IntKind.bits .u64))))==(65535:Int))then(ZnU (IntKind.wrap .u32 (IntKind.wrap .u64 (((BitVec.ofInt (IntKind.bits .u64) b) &&& (BitVec.ofInt (IntKind.bits .u64) (4294967295:Int))).toNat:Int)))).bind fun e=>some e else some (Zaf.mk true d b)else some (Zaf.mk true d b)
theorem Zyu(g h:Int)(r:Zaf)(b:Zrw g h=some r):Yo 294 [.one (.lit (.int .u64 g)),.one (.lit (.int .u64 h))] (.agg (Zaf.c r)):=by
 refine Yv Tryz.func294 fun S0 w0=>?_;unfold Zrw at b;obtain⟨d,b⟩|⟨d,b⟩:=Zaj b
 .have O1:Obl _:=(.c d (.c (show 0<=(32:Int)from(by decide)) .n));obtain⟨e,b⟩|⟨e,b⟩:=Zaj b
  .obtain⟨i,j,b⟩:=Zae b;apply Ya b 8 [rz,rB [(2,true)],rA [(3,aG (Zaf.c i))]] [true] (O1.app (.c e (.c (Zst _ _ j) .n)))
  .apply Ya b 9 [rz,rB [(2,true)],rz] [false] (O1.app (.c e .n))
 .apply Ya b 9 [rz,rB [(2,false)],rz] [false] (.c d (.c (show false=false from rfl) .n))
def Zfw(b:Zaf):Option Bool:=bif b.fV6 then(Zrw b.fHi b.fLo).bind fun d=>some (decide (d=b))else(ZnU (IntKind.wrap .u32 (IntKind.wrap .u64 (((BitVec.ofInt (IntKind.bits .u64) b.fLo) &&& (BitVec.ofInt (IntKind.bits .u64) (4294967295:Int))).toNat:Int)))).bind fun e=>some (decide (e=b))
theorem ZcS(d:Zaf)(r:Bool)(b:Zfw d=some r):Yo 221 [.agg (Zaf.c d)] (Yk r):=by
 refine Yv Tryz.func221 fun S0 w0=>?_;unfold Zfw at b;obtain⟨e,b⟩|⟨e,b⟩:=Zaj b
 .obtain⟨g,i,b⟩:=Zae b;apply Ya b 8 [rz,rz,rA [(4,aG (Zaf.c g)),(6,aB (decide (g=d)))]] [true] (.c e (.c (Zyu _ _ _ i) (.c (ZkX g d (.tmp 9) (.tmp 10)) .n)))
 .obtain⟨h,j,b⟩:=Zae b;apply Ya b 9 [rz,rz,rA [(4,aG (Zaf.c h)),(6,aB (decide (h=d)))]] [false] (.c e (.c (Zst _ _ j) (.c (ZkX h d (.tmp 16) (.tmp 17)) .n)))
def Zlh(b:Zah):Option Bool:=(Zfw b.fAddr).bind fun d=>bif d then bif(decide (b.fPort>=(1:Int)))then some (decide (b.fPort<=(65535:Int)))else some false else some false
theorem Zud(i:Zah)(r:Bool)(b:Zlh i=some r):Yo 189 [.agg (Zah.c i)] (Yk r):=by
 refine Yv Tryz.func189 fun S0 w0=>?_;unfold Zlh at b;obtain⟨e,g,b⟩:=Zae b;obtain⟨d,b⟩|⟨d,b⟩:=Zaj b
 .obtain⟨h,b⟩|⟨h,b⟩:=Zaj b
  .apply Ya b 4 [rz,⟨[(2,aB e)],[(3,true),(8,true)],[],[],[],[],[]⟩] [] (.c (ZcS _ _ g) (.c d (.c h .n)))
  .apply Ya b 4 [rz,⟨[(2,aB e)],[(3,true),(8,false)],[],[],[],[],[]⟩] [] (.c (ZcS _ _ g) (.c d (.c h .n)))
 .apply Ya b 4 [rz,⟨[(2,aB e)],[(3,false)],[],[],[],[],[]⟩] [] (.c (ZcS _ _ g) (.c d .n))
def ZdT(b:Zaf):Option Int:=bif b.fV6 then some (128:Int)else some (32:Int)
theorem ZgU(e:Zaf)(r:Int)(b:ZdT e=some r):Yo 306 [.agg (Zaf.c e)] (Yj r):=by
 refine Yv Tryz.func306 fun S0 w0=>?_;unfold ZdT at b;obtain⟨d,b⟩|⟨d,b⟩:=Zaj b
 .apply Ya b 8 [rz,rz,rz] [true] (.c d .n)
 .apply Ya b 9 [rz,rz,rz] [false] (.c d .n)
def Zgs(b:Int):Option Int:=some (IntKind.wrap .u64 (((BitVec.ofInt (IntKind.bits .u64) (Int.fdiv (IntKind.wrap .u64 (((BitVec.ofInt (IntKind.bits .u64) (IntKind.wrap .u64 (((BitVec.ofInt (IntKind.bits .u64) (Int.fdiv (IntKind.wrap .u64 (((BitVec.ofInt (IntKind.bits .u64) (IntKind.wrap .u64 (((BitVec.ofInt (IntKind.bits .u64) (Int.fdiv b (2 ^ (min (8:Int).toNat (IntKind.bits .u64))))) &&& (BitVec.ofInt (IntKind.bits .u64) (71777214294589695:Int))).toNat:Int))) ||| (BitVec.ofInt (IntKind.bits .u64) (IntKind.wrap .u64 ((IntKind.wrap .u64 (((BitVec.ofInt (IntKind.bits .u64) b) &&& (BitVec.ofInt (IntKind.bits .u64) (71777214294589695:Int))).toNat:Int)) * 2 ^ (min (8:Int).toNat (IntKind.bits .u64)))))).toNat:Int)) (2 ^ (min (16:Int).toNat (IntKind.bits .u64))))) &&& (BitVec.ofInt (IntKind.bits .u64) (281470681808895:Int))).toNat:Int))) ||| (BitVec.ofInt (IntKind.bits .u64) (IntKind.wrap .u64 ((IntKind.wrap .u64 (((BitVec.ofInt (IntKind.bits .u64) (IntKind.wrap .u64 (((BitVec.ofInt (IntKind.bits .u64) (IntKind.wrap .u64 (((BitVec.ofInt (IntKind.bits .u64) (Int.fdiv b (2 ^ (min (8:Int).toNat (IntKind.bits .u64))))) &&& (BitVec.ofInt (IntKind.bits .u64) (71777214294589695:Int))).toNat:Int))) ||| (BitVec.ofInt (IntKind.bits .u64) (IntKind.wrap .u64 ((IntKind.wrap .u64 (((BitVec.ofInt (IntKind.bits .u64) b) &&& (BitVec.ofInt (IntKind.bits .u64) (71777214294589695:Int))).toNat:Int)) * 2 ^ (min (8:Int).toNat (IntKind.bits .u64)))))).toNat:Int))) &&& (BitVec.ofInt (IntKind.bits .u64) (281470681808895:Int))).toNat:Int)) * 2 ^ (min (16:Int).toNat (IntKind.bits .u64)))))).toNat:Int)) (2 ^ (min (32:Int).toNat (IntKind.bits .u64))))) ||| (BitVec.ofInt (IntKind.bits .u64) (IntKind.wrap .u64 ((IntKind.wrap .u64 (((BitVec.ofInt (IntKind.bits .u64) (IntKind.wrap .u64 (((BitVec.ofInt (IntKind.bits .u64) (Int.fdiv (IntKind.wrap .u64 (((BitVec.ofInt (IntKind.bits .u64) (IntKind.wrap .u64 (((BitVec.ofInt (IntKind.bits .u64) (Int.fdiv b (2 ^ (min (8:Int).toNat (IntKind.bits .u64))))) &&& (BitVec.ofInt (IntKind.bits .u64) (71777214294589695:Int))).toNat:Int))) ||| (BitVec.ofInt (IntKind.bits .u64) (IntKind.wrap .u64 ((IntKind.wrap .u64 (((BitVec.ofInt (IntKind.bits .u64) b) &&& (BitVec.ofInt (IntKind.bits .u64) (71777214294589695:Int))).toNat:Int)) * 2 ^ (min (8:Int).toNat (IntKind.bits .u64)))))).toNat:Int)) (2 ^ (min (16:Int).toNat (IntKind.bits .u64))))) &&& (BitVec.ofInt (IntKind.bits .u64) (281470681808895:Int))).toNat:Int))) ||| (BitVec.ofInt (IntKind.bits .u64) (IntKind.wrap .u64 ((IntKind.wrap .u64 (((BitVec.ofInt (IntKind.bits .u64) (IntKind.wrap .u64 (((BitVec.ofInt (IntKind.bits .u64) (IntKind.wrap .u64 (((BitVec.ofInt (IntKind.bits .u64) (Int.fdiv b (2 ^ (min (8:Int).toNat (IntKind.bits .u64))))) &&& (BitVec.ofInt (IntKind.bits .u64) (71777214294589695:Int))).toNat:Int))) ||| (BitVec.ofInt (IntKind.bits .u64) (IntKind.wrap .u64 ((IntKind.wrap .u64 (((BitVec.ofInt (IntKind.bits .u64) b) &&& (BitVec.ofInt (IntKind.bits .u64) (71777214294589695:Int))).toNat:Int)) * 2 ^ (min (8:Int).toNat (IntKind.bits .u64)))))).toNat:Int))) &&& (BitVec.ofInt (IntKind.bits .u64) (281470681808895:Int))).toNat:Int)) * 2 ^ (min (16:Int).toNat (IntKind.bits .u64)))))).toNat:Int)) * 2 ^ (min (32:Int).toNat (IntKind.bits .u64)))))).toNat:Int))
theorem Zlt(b r:Int)(d:Zgs b=some r):Yo 399 [.one (.lit (.int .u64 b))] (.one (.lit (.int .u64 r))):=by
 refine Yv Tryz.func399 fun S0 w0=>?_;unfold Zgs at d;apply Ya d 8 [rz,rz,rz,rz] [] (.c (show 0<=(8:Int)from(by decide)) (.c (show 0<=(8:Int)from(by decide)) (.c (show 0<=(16:Int)from(by decide)) (.c (show 0<=(16:Int)from(by decide)) (.c (show 0<=(32:Int)from(by decide)) (.c (show 0<=(32:Int)from(by decide)) .n))))))
def Zio(b:Int):Option Int:=(Zgs (IntKind.wrap .u64 (((BitVec.ofInt (IntKind.bits .u64) (IntKind.wrap .u64 (((BitVec.ofInt (IntKind.bits .u64) (Int.fdiv (IntKind.wrap .u64 (((BitVec.ofInt (IntKind.bits .u64) (IntKind.wrap .u64 (((BitVec.ofInt (IntKind.bits .u64) (Int.fdiv (IntKind.wrap .u64 (((BitVec.ofInt (IntKind.bits .u64) (IntKind.wrap .u64 (((BitVec.ofInt (IntKind.bits .u64) (Int.fdiv b (2 ^ (min (1:Int).toNat (IntKind.bits .u64))))) &&& (BitVec.ofInt (IntKind.bits .u64) (6148914691236517205:Int))).toNat:Int))) ||| (BitVec.ofInt (IntKind.bits .u64) (IntKind.wrap .u64 ((IntKind.wrap .u64 (((BitVec.ofInt (IntKind.bits .u64) b) &&& (BitVec.ofInt (IntKind.bits .u64) (6148914691236517205:Int))).toNat:Int)) * 2 ^ (min (1:Int).toNat (IntKind.bits .u64)))))).toNat:Int)) (2 ^ (min (2:Int).toNat (IntKind.bits .u64))))) &&& (BitVec.ofInt (IntKind.bits .u64) (3689348814741910323:Int))).toNat:Int))) ||| (BitVec.ofInt (IntKind.bits .u64) (IntKind.wrap .u64 ((IntKind.wrap .u64 (((BitVec.ofInt (IntKind.bits .u64) (IntKind.wrap .u64 (((BitVec.ofInt (IntKind.bits .u64) (IntKind.wrap .u64 (((BitVec.ofInt (IntKind.bits .u64) (Int.fdiv b (2 ^ (min (1:Int).toNat (IntKind.bits .u64))))) &&& (BitVec.ofInt (IntKind.bits .u64) (6148914691236517205:Int))).toNat:Int))) ||| (BitVec.ofInt (IntKind.bits .u64) (IntKind.wrap .u64 ((IntKind.wrap .u64 (((BitVec.ofInt (IntKind.bits .u64) b) &&& (BitVec.ofInt (IntKind.bits .u64) (6148914691236517205:Int))).toNat:Int)) * 2 ^ (min (1:Int).toNat (IntKind.bits .u64)))))).toNat:Int))) &&& (BitVec.ofInt (IntKind.bits .u64) (3689348814741910323:Int))).toNat:Int)) * 2 ^ (min (2:Int).toNat (IntKind.bits .u64)))))).toNat:Int)) (2 ^ (min (4:Int).toNat (IntKind.bits .u64))))) &&& (BitVec.ofInt (IntKind.bits .u64) (1085102592571150095:Int))).toNat:Int))) ||| (BitVec.ofInt (IntKind.bits .u64) (IntKind.wrap .u64 ((IntKind.wrap .u64 (((BitVec.ofInt (IntKind.bits .u64) (IntKind.wrap .u64 (((BitVec.ofInt (IntKind.bits .u64) (IntKind.wrap .u64 (((BitVec.ofInt (IntKind.bits .u64) (Int.fdiv (IntKind.wrap .u64 (((BitVec.ofInt (IntKind.bits .u64) (IntKind.wrap .u64 (((BitVec.ofInt (IntKind.bits .u64) (Int.fdiv b (2 ^ (min (1:Int).toNat (IntKind.bits .u64))))) &&& (BitVec.ofInt (IntKind.bits .u64) (6148914691236517205:Int))).toNat:Int))) ||| (BitVec.ofInt (IntKind.bits .u64) (IntKind.wrap .u64 ((IntKind.wrap .u64 (((BitVec.ofInt (IntKind.bits .u64) b) &&& (BitVec.ofInt (IntKind.bits .u64) (6148914691236517205:Int))).toNat:Int)) * 2 ^ (min (1:Int).toNat (IntKind.bits .u64)))))).toNat:Int)) (2 ^ (min (2:Int).toNat (IntKind.bits .u64))))) &&& (BitVec.ofInt (IntKind.bits .u64) (3689348814741910323:Int))).toNat:Int))) ||| (BitVec.ofInt (IntKind.bits .u64) (IntKind.wrap .u64 ((IntKind.wrap .u64 (((BitVec.ofInt (IntKind.bits .u64) (IntKind.wrap .u64 (((BitVec.ofInt (IntKind.bits .u64) (IntKind.wrap .u64 (((BitVec.ofInt (IntKind.bits .u64) (Int.fdiv b (2 ^ (min (1:Int).toNat (IntKind.bits .u64))))) &&& (BitVec.ofInt (IntKind.bits .u64) (6148914691236517205:Int))).toNat:Int))) ||| (BitVec.ofInt (IntKind.bits .u64) (IntKind.wrap .u64 ((IntKind.wrap .u64 (((BitVec.ofInt (IntKind.bits .u64) b) &&& (BitVec.ofInt (IntKind.bits .u64) (6148914691236517205:Int))).toNat:Int)) * 2 ^ (min (1:Int).toNat (IntKind.bits .u64)))))).toNat:Int))) &&& (BitVec.ofInt (IntKind.bits .u64) (3689348814741910323:Int))).toNat:Int)) * 2 ^ (min (2:Int).toNat (IntKind.bits .u64)))))).toNat:Int))) &&& (BitVec.ofInt (IntKind.bits .u64) (1085102592571150095:Int))).toNat:Int)) * 2 ^ (min (4:Int).toNat (IntKind.bits .u64)))))).toNat:Int))).bind fun d=>some d
theorem ZnE(d r:Int)(b:Zio d=some r):Yo 378 [.one (.lit (.int .u64 d))] (.one (.lit (.int .u64 r))):=by
 refine Yv Tryz.func378 fun S0 w0=>?_;unfold Zio at b;obtain⟨e,g,b⟩:=Zae b;apply Ya b 10 [rz,rz,rz,rz,rA [(1,.r (.one (.lit (.int .u64 e))) [])]] [] (.c (show 0<=(1:Int)from(by decide)) (.c (show 0<=(1:Int)from(by decide)) (.c (show 0<=(2:Int)from(by decide)) (.c (show 0<=(2:Int)from(by decide)) (.c (show 0<=(4:Int)from(by decide)) (.c (show 0<=(4:Int)from(by decide)) (.c (Zlt _ _ g) .n)))))))
def Zfl(b:Int):Option Int:=need (0<=(if(64:Int)<(if(0:Int)>b then(0:Int)else b)then(64:Int)else(if(0:Int)>b then(0:Int)else b)))<|(Zio (IntKind.wrap .u64 ((IntKind.wrap .u64 ((1:Int) * 2 ^ (min (if(64:Int)<(if(0:Int)>b then(0:Int)else b)then(64:Int)else(if(0:Int)>b then(0:Int)else b)).toNat (IntKind.bits .u64))))-(1:Int)))).bind fun d=>some d
theorem Zow(d r:Int)(b:Zfl d=some r):Yo 358 [Yj d] (.one (.lit (.int .u64 r))):=by
 refine Yv Tryz.func358 fun S0 w0=>?_;unfold Zfl at b;obtain⟨o1,b⟩:=Zat b;obtain⟨e,g,b⟩:=Zae b;apply Ya b 6 [rz,rz,rA [(3,.r (.one (.lit (.int .u64 e))) [])]] [] (.c o1 (.c (ZnE _ _ g) .n))
def Zks(d e b:Int):Option (Int×Int):=(Zfl b).bind fun g=>(Zfl (ZaQ b (64:Int))).bind fun h=>some ((IntKind.wrap .u64 (((BitVec.ofInt (IntKind.bits .u64) d) &&& (BitVec.ofInt (IntKind.bits .u64) g)).toNat:Int)),(IntKind.wrap .u64 (((BitVec.ofInt (IntKind.bits .u64) e) &&& (BitVec.ofInt (IntKind.bits .u64) h)).toNat:Int)))
theorem ZsK(d e g:Int)(r:(Int×Int))(b:Zks d e g=some r):Yo 359 [.one (.lit (.int .u64 d)),.one (.lit (.int .u64 e)),Yj g] (.tup [(false,(cI .u64) r.1),(false,(cI .u64) r.2)]):=by
 refine Yv Tryz.func359 fun S0 w0=>?_;unfold Zks at b;obtain⟨h,i,j,o,b⟩:=Yu b;apply Ya b 4 [rz,rA [(2,.r (.one (.lit (.int .u64 h))) []),(7,.r (.one (.lit (.int .u64 i))) [])]] [] (.c (Zow _ _ j) (.c (Zow _ _ o) .n))
def ZhI(b:Zaf)(d:Int):Option Zaf:=(Zfw b).bind fun h=>bif(!h)then some (Zaf.mk false 0 0)else(ZdT b).bind fun e=>bif(!b.fV6)then(Zfl (if e<(if(0:Int)>d then(0:Int)else d)then e else(if(0:Int)>d then(0:Int)else d))).bind fun i=>some (Zaf.mk b.fV6 b.fHi (IntKind.wrap .u64 (((BitVec.ofInt (IntKind.bits .u64) b.fLo) &&& (BitVec.ofInt (IntKind.bits .u64) (Int.fdiv i (2 ^ (min (32:Int).toNat (IntKind.bits .u64)))))).toNat:Int)))else(Zks b.fHi b.fLo (if e<(if(0:Int)>d then(0:Int)else d)then e else(if(0:Int)>d then(0:Int)else d))).bind fun g=>some (Zaf.mk b.fV6 g.1 g.2)
theorem Zqp(h:Zaf)(i:Int)(r:Zaf)(b:ZhI h i=some r):Yo 324 [.agg (Zaf.c h),Yj i] (.agg (Zaf.c r)):=by
 refine Yv Tryz.func324 fun S0 w0=>?_;unfold ZhI at b;obtain⟨d,j,b⟩:=Zae b;obtain⟨e,b⟩|⟨e,b⟩:=Zaj b
 .apply Ya b 8 [rz,rA [(1,aB d)],rz] [true] (.c (ZcS _ _ j) (.c e .n))
 .obtain⟨o,t,b⟩:=Zae b;have O1:Obl _:=(.c (ZcS _ _ j) (.c e (.c (ZgU _ _ t) .n)));obtain⟨g,b⟩|⟨g,b⟩:=Zaj b
  .obtain⟨u,v,b⟩:=Zae b;apply Ya b 17 [rz,rA [(1,aB d)],rA [(3,aI o)],rz,rA [(3,.r (.one (.lit (.int .u64 u))) [])],rz] [false,true] (O1.app (.c g (.c (Zow _ _ v) (.c (show 0<=(32:Int)from(by decide)) .n))))
  .obtain⟨p,y,b⟩:=Zae b;apply Ya b 18 [rz,rA [(1,aB d)],rA [(3,aI o)],rz,rA [(5,.r (.tup [(false,(cI .u64) p.1),(false,(cI .u64) p.2)]) [])],rz] [false,false] (O1.app (.c g (.c (ZsK _ _ _ _ y) .n)))
def ZfD(d:Zaf)(b:Int):Option (Zap×Bool):=(Zfw d).bind fun e=>bif(!e)then some ((Zap.mk (Zaf.mk false 0 0) 0),false)else bif(decide (b<(0:Int)))then some ((Zap.mk (Zaf.mk false 0 0) 0),false)else(ZdT d).bind fun g=>bif(decide (b>g))then some ((Zap.mk (Zaf.mk false 0 0) 0),false)else(ZhI d b).bind fun h=>some ((Zap.mk h b),true)
theorem ZfW(j:Zaf)(o:Int)(r:(Zap×Bool))(b:ZfD j o=some r):Yo 259 [.agg (Zaf.c j),Yj o] (.tup [(true,Zap.c r.1),(false,cB r.2)]):=by
 refine Yv Tryz.func259 fun S0 w0=>?_;unfold ZfD at b;obtain⟨e,g,b⟩:=Zae b;obtain⟨d,b⟩|⟨d,b⟩:=Zaj b
 .apply Ya b 8 [rz,⟨[(1,aB e)],[(3,true)],[],[],[],[],[]⟩,rz] [true] (.c (ZcS _ _ g) (.c d (.c (show true=true from rfl) .n)))
 .obtain⟨h,b⟩|⟨h,b⟩:=Zaj b
  .apply Ya b 8 [rz,⟨[(1,aB e)],[(3,false),(7,true)],[],[],[],[],[]⟩,rz] [true] (.c (ZcS _ _ g) (.c d (.c h (.c (show true=true from rfl) .n))))
  .obtain⟨p,t,b⟩:=Zae b
   let R1:List RA:=[rz,⟨[(1,aB e),(10,aI p)],[(3,false),(7,false)],[],[],[],[],[]⟩]
   have O2:Obl _:=(.c (ZcS _ _ g) (.c d (.c h (.c (ZgU _ _ t) .n))));obtain⟨i,b⟩|⟨i,b⟩:=Zaj b
   .apply Ya b 8 (R1++[rz]) [true] (O2.app (.c i .n))
   .obtain⟨u,v,b⟩:=Zae b;apply Ya b 9 (R1++[rA [(2,aG (Zaf.c u))]]) [false] (O2.app (.c i (.c (Zqp _ _ _ v) .n)))
def Zhr(b:Zap):Option Bool:=(ZfD b.fAddr b.fBits).bind fun d=>bif d.2 then some (decide (d.1=b))else some false
theorem Zdz(d:Zap)(r:Bool)(b:Zhr d=some r):Yo 220 [.agg (Zap.c d)] (Yk r):=by
 refine Yv Tryz.func220 fun S0 w0=>?_;unfold Zhr at b;obtain⟨e,h,b⟩:=Zae b
 let R1:List RA:=[rz,rA [(4,.r (.tup [(true,Zap.c e.1),(false,cB e.2)]) [])]]
 obtain⟨g,b⟩|⟨g,b⟩:=Zaj b
 .apply Ya b 6 (R1++[⟨[(4,aB (decide (e.1=d)))],[(1,true)],[],[],[],[],[]⟩]) [] (.c (ZfW _ _ _ h) (.c g (.c (ZrB e.1 d (.tmp 15) (.tmp 16)) .n)))
 .apply Ya b 6 (R1++[rB [(1,false)]]) [] (.c (ZfW _ _ _ h) (.c g .n))
def ZkO(b:Int):Option (Int×Int):=bif(b==(4:Int))then some ((0:Int),(1073741824:Int))else bif(b==(5:Int))then some ((1:Int),(5:Int))else bif(b==(6:Int))then some ((1:Int),(1099511627776:Int))else some ((1:Int),(1048576:Int))
theorem Zve(h:Int)(r:(Int×Int))(b:ZkO h=some r):Yo 222 [Yj h] (.tup [(false,(cI .i64) r.1),(false,(cI .i64) r.2)]):=by
 refine Yv Tryz.func222 fun S0 w0=>?_;unfold ZkO at b;obtain⟨d,b⟩|⟨d,b⟩:=Zaj b
 .apply Ya b 11 [rz,rz,rz,rz] [true] (.c d .n)
 .obtain⟨e,b⟩|⟨e,b⟩:=Zaj b
  .apply Ya b 14 [rz,rz,rz,rz,rz] [false,true] (.c d (.c e .n))
  .obtain⟨g,b⟩|⟨g,b⟩:=Zaj b
   .apply Ya b 17 [rz,rz,rz,rz,rz,rz] [false,false,true] (.c d (.c e (.c g .n)))
   .apply Ya b 19 [rz,rz,rz,rz,rz,rz] [false,false,false] (.c d (.c e (.c g .n)))
def Zlk(b:Zaz)(d:Int):Option Bool:=bif(d==(0:Int))then(Zlh b.fEnd).bind fun g=>some g else bif(d==(1:Int))then(Zhr b.fNet).bind fun h=>some h else bif(d==(2:Int))then(Zfw b.fEnd.fAddr).bind fun i=>some i else bif(d==(3:Int))then bif(decide (b.fNow>=(0:Int)))then some (decide (b.fNow<=(1099511627776:Int)))else some false else bif(d==(4:Int))then(ZkO b.fKind).bind fun e=>bif(decide (b.fNum>=e.1))then some (decide (b.fNum<=e.2))else some false else some true
theorem Zug(t:Zaz)(u:Int)(r:Bool)(b:Zlk t u=some r):Yo 158 [.agg (Zaz.c t),Yj u] (Yk r):=by
 refine Yv Tryz.func158 fun S0 w0=>?_;unfold Zlk at b;obtain⟨d,b⟩|⟨d,b⟩:=Zaj b
 .obtain⟨y,z,b⟩:=Zae b;apply Ya b 11 [rz,rz,rz,rA [(2,aB y)]] [true] (.c d (.c (Zud _ _ z) .n))
 .obtain⟨e,b⟩|⟨e,b⟩:=Zaj b
  .obtain⟨A,B,b⟩:=Zae b;apply Ya b 14 [rz,rz,rz,rz,rA [(2,aB A)]] [false,true] (.c d (.c e (.c (Zdz _ _ B) .n)))
  .obtain⟨h,b⟩|⟨h,b⟩:=Zaj b
   .obtain⟨D,E,b⟩:=Zae b;apply Ya b 17 [rz,rz,rz,rz,rz,rA [(3,aB D)]] [false,false,true] (.c d (.c e (.c h (.c (ZcS _ _ E) .n))))
   .obtain⟨i,b⟩|⟨i,b⟩:=Zaj b
    .obtain⟨j,b⟩|⟨j,b⟩:=Zaj b
     .apply Ya b 20 [rz,rz,rz,rz,rz,rz,rB [(3,true)]] [false,false,false,true] (.c d (.c e (.c h (.c i (.c j .n)))))
     .apply Ya b 20 [rz,rz,rz,rz,rz,rz,rB [(3,false)]] [false,false,false,true] (.c d (.c e (.c h (.c i (.c j .n)))))
    .obtain⟨o,b⟩|⟨o,b⟩:=Zaj b
     .obtain⟨v,p,b⟩:=Zae b
      let R1:List RA:=[rz,rz,rz,rz,rz,rz,rz,rA [(2,.r (.tup [(false,(cI .i64) v.1),(false,(cI .i64) v.2)]) [])]]
      have O2:Obl _:=(.c d (.c e (.c h (.c i (.c o (.c (Zve _ _ p) .n))))));obtain⟨g,b⟩|⟨g,b⟩:=Zaj b
      .apply Ya b 25 (R1++[rB [(4,true)]]) [false,false,false,false,true] (O2.app (.c g .n))
      .apply Ya b 25 (R1++[rB [(4,false)]]) [false,false,false,false,true] (O2.app (.c g .n))
     .apply Ya b 25 [rz,rz,rz,rz,rz,rz,rz,rz] [false,false,false,false,false] (.c d (.c e (.c h (.c i (.c o .n)))))
def ZeJ:Nat->(List Int)->Int->Int->Zaz->Option Bool|0,_,_,_,_=>none|fu+1,d,e,b,g=>bif(decide (b<e))then need (0<=b/\b<(d.length:Int))<|(Zlk g (d.getD b.toNat (0:Int))).bind fun h=>bif(!h)then some false else ZeJ fu d e (Zar b 1) g else some true
theorem Zrt(S0:Nat->Prop)(w0:Zba):∀(i:Nat)(e:List Int)(g h:Int)(b:Zaz)(r:Bool),ZeJ i e g h b=some r->Yr 22 S0 w0 Tryz.f84 (Yk r) [1,1,0,1,0] ⟨[(1,.one (.ptr 1 0)),(11,.one (cL 1 (cI .i64) (0:Int) e)),(12,(Yj g)),(13,(Yj h))],[(1,.box [.lit (.int .i64 b.fKind),.lit (.bool b.fEnd.fAddr.fV6),.lit (.int .u64 b.fEnd.fAddr.fHi),.lit (.int .u64 b.fEnd.fAddr.fLo),.lit (.int .i64 b.fEnd.fPort),.lit (.bool b.fNet.fAddr.fV6),.lit (.int .u64 b.fNet.fAddr.fHi),.lit (.int .u64 b.fNet.fAddr.fLo),.lit (.int .i64 b.fNet.fBits),.lit (.int .i64 b.fNow),.lit (.int .i64 b.fNum),.lit (.bool b.fGood)])]⟩:=by
 intro i;induction i with
 |zero=>
  intro e g h b r d;simp[ZeJ]at d
 |succ i t=>
  intro e g h b r d;unfold ZeJ at d;obtain⟨j,d⟩|⟨j,d⟩:=Zaj d
  .obtain⟨u,d⟩:=Zat d;obtain⟨p,v,d⟩:=Zae d;have O1:Obl _:=(.c j (.c u (.c (Zug _ _ _ v) .n)));obtain⟨o,d⟩|⟨o,d⟩:=Zaj d
   .apply Ya d 15 [rz,rz,rA [(2,aB p)],rz] [true,true] (O1.app (.c o .n))
   .exact Ye 17 [rz,rz,rA [(2,aB p)],rz] [true,false] ⟨[],[],[],[],[],[1,11,12,13],[1],[]⟩ (O1.app (.c o .n)) (t e g (Zar h 1) b r d)
  .apply Ya d 8 [rz,rz] [false] (.c j .n)
def Zll(b:Zaz):Option Bool:=(Zml b.fKind).bind fun e=>bif(e.toList==(⟨#[]⟩ : ByteArray).toList)then some false else(ZjQ b.fKind).bind fun d=>ZeJ (((d.length:Int)-(0:Int)).toNat+2) d (d.length:Int) (0:Int) b
theorem Zkw(e:Zaz)(r:Bool)(b:Zll e=some r):Yo 84 [.agg (Zaz.c e)] (Yk r):=by
 refine Yv Tryz.func84 fun S0 w0=>?_;unfold Zll at b;obtain⟨i,h,b⟩:=Zae b
 let R2:List RA:=[rz,rA [(2,.r (.one (.lit (.string i))) [])]]
 obtain⟨g,b⟩|⟨g,b⟩:=Zaj b
 .apply Ya b 8 (R2++[rz]) [true] (.c (Zqo _ _ h) (.c g .n))
 .obtain⟨d,j,b⟩:=Zae b;exact Ye 11 (R2++[rA [(2,.r (.one (cL 1 (cI .i64) (0:Int) d)) [])]]) [false] ⟨[],[],[],[],[],[1,11,12,13],[1],[]⟩ (.c (Zqo _ _ h) (.c g (.c (Zuh _ _ j) .n))) (Zrt S0 w0 (((d.length:Int)-(0:Int)).toNat+2) d (d.length:Int) (0:Int) e r b)
def ZhA(d:Int)(e:Bool)(b g:Zan):Option Zan:=bif e then some (Zan.mk b.fKind 0 0)else bif(d==(5:Int))then some (Zan.mk b.fKind b.fShard 0)else bif(d==(6:Int))then some b else some (Zan.mk 0 0 0)
theorem Zjz(S0:Nat->Prop)(w0:Zba)(j:Int)(o:Bool)(e g r:Zan)(b:ZhA j o e g=some r):Yr 24 S0 w0 Tryz.f433 (.agg (Zan.c r)) [1,0,1,0,1] ⟨[(1,.one (.ptr 1 0)),(2,.one (.ptr 2 0)),(4,(Yj j)),(5,(Yk o))],[(1,.box [.lit (.int .i64 e.fKind),.lit (.int .i64 e.fShard),.lit (.int .i64 e.fSlot)]),(2,.box [.lit (.int .i64 g.fKind),.lit (.int .i64 g.fShard),.lit (.int .i64 g.fSlot)])]⟩:=by
 unfold ZhA at b;obtain⟨d,b⟩|⟨d,b⟩:=Zaj b
 .apply Ya b 3 [rz] [true] (.c d .n)
 .obtain⟨h,b⟩|⟨h,b⟩:=Zaj b
  .apply Ya b 6 [rz,rz] [false,true] (.c d (.c h .n))
  .obtain⟨i,b⟩|⟨i,b⟩:=Zaj b
   .apply Ya b 9 [rz,rz,rz] [false,false,true] (.c d (.c h (.c i .n)))
   .apply Ya b 11 [rz,rz,rz] [false,false,false] (.c d (.c h (.c i .n)))
def ZkM(b:Zan):Option Zan:=bif(b.fKind==(1:Int))then ZhA b.fKind (b.fKind==(1:Int)) b (Zan.mk 0 0 0)else bif(b.fKind==(2:Int))then ZhA b.fKind (b.fKind==(2:Int)) b (Zan.mk 0 0 0)else bif(b.fKind==(3:Int))then ZhA b.fKind (b.fKind==(3:Int)) b (Zan.mk 0 0 0)else ZhA b.fKind (b.fKind==(4:Int)) b (Zan.mk 0 0 0)
theorem Zoi(b r:Zan)(d:ZkM b=some r):Yo 433 [.agg (Zan.c b)] (.agg (Zan.c r)):=by
 refine Yv Tryz.func433 fun S0 w0=>?_;unfold ZkM at d;obtain⟨e,d⟩|⟨e,d⟩:=Zaj d
 .exact Ye 11 [rz,rz,rz] [true] ⟨[],[],[],[],[],[1,2,4,5],[1,2],[]⟩ (.c e .n) (Zjz S0 w0 b.fKind (b.fKind==(1:Int)) b (Zan.mk 0 0 0) r d)
 .obtain⟨g,d⟩|⟨g,d⟩:=Zaj d
  .exact Ye 14 [rz,rz,rz,rz] [false,true] ⟨[],[],[],[],[],[1,2,4,5],[1,2],[]⟩ (.c e (.c g .n)) (Zjz S0 w0 b.fKind (b.fKind==(2:Int)) b (Zan.mk 0 0 0) r d)
  .obtain⟨h,d⟩|⟨h,d⟩:=Zaj d
   .exact Ye 17 [rz,rz,rz,rz,rz] [false,false,true] ⟨[],[],[],[],[],[1,2,4,5],[1,2],[]⟩ (.c e (.c g (.c h .n))) (Zjz S0 w0 b.fKind (b.fKind==(3:Int)) b (Zan.mk 0 0 0) r d)
   .exact Ye 17 [rz,rz,rz,rz,rz,rz] [false,false,false] ⟨[],[],[],[],[],[1,2,4,5],[1,2],[]⟩ (.c e (.c g (.c h .n))) (Zjz S0 w0 b.fKind (b.fKind==(4:Int)) b (Zan.mk 0 0 0) r d)
def ZiL(d:Int)(e:Bool)(b g:Zac):Option Zac:=bif e then some (Zac.mk b.fN (Zaa.mk (Zah.mk (Zaf.mk false 0 0) 0) false 0 (Zau.mk 0 0) 0 0) ([]:(List Zag)) ([]:(List Zad)))else bif(d==(3:Int))then some (Zac.mk 0 (Zaa.mk (Zah.mk (Zaf.mk false 0 0) 0) false 0 (Zau.mk 0 0) 0 0) b.fBans ([]:(List Zad)))else bif(d==(4:Int))then some (Zac.mk 0 (Zaa.mk (Zah.mk (Zaf.mk false 0 0) 0) false 0 (Zau.mk 0 0) 0 0) ([]:(List Zag)) b.fBook)else bif(d==(6:Int))then some (Zac.mk 0 b.fPeer ([]:(List Zag)) ([]:(List Zad)))else some (Zac.mk 0 (Zaa.mk (Zah.mk (Zaf.mk false 0 0) 0) false 0 (Zau.mk 0 0) 0 0) ([]:(List Zag)) ([]:(List Zad)))
theorem Zls(S0:Nat->Prop)(w0:Zba)(p:Int)(t:Bool)(e g r:Zac)(b:ZiL p t e g=some r):Yr 29 S0 w0 Tryz.f434 (.agg (Zac.c r)) [1,0,1,0,1] ⟨[(3,.one (.ptr 3 0)),(4,.one (.ptr 4 0)),(5,(Yj p)),(6,(Yk t))],[(3,.box [.lit (.int .i64 e.fN),.lit (.bool e.fPeer.fEnd.fAddr.fV6),.lit (.int .u64 e.fPeer.fEnd.fAddr.fHi),.lit (.int .u64 e.fPeer.fEnd.fAddr.fLo),.lit (.int .i64 e.fPeer.fEnd.fPort),.lit (.bool e.fPeer.fIn),.lit (.int .i64 e.fPeer.fSince),.lit (.int .i64 e.fPeer.fScore.fPoints),.lit (.int .i64 e.fPeer.fScore.fAt),.lit (.int .i64 e.fPeer.fPing),.lit (.int .i64 e.fPeer.fWork),cL 5 Zag.c Zag.d e.fBans,cL 7 Zad.c Zad.d e.fBook]),(4,.box [.lit (.int .i64 g.fN),.lit (.bool g.fPeer.fEnd.fAddr.fV6),.lit (.int .u64 g.fPeer.fEnd.fAddr.fHi),.lit (.int .u64 g.fPeer.fEnd.fAddr.fLo),.lit (.int .i64 g.fPeer.fEnd.fPort),.lit (.bool g.fPeer.fIn),.lit (.int .i64 g.fPeer.fSince),.lit (.int .i64 g.fPeer.fScore.fPoints),.lit (.int .i64 g.fPeer.fScore.fAt),.lit (.int .i64 g.fPeer.fPing),.lit (.int .i64 g.fPeer.fWork),cL 5 Zag.c Zag.d g.fBans,cL 7 Zad.c Zad.d g.fBook])]⟩:=by
 unfold ZiL at b;obtain⟨h,b⟩|⟨h,b⟩:=Zaj b
 .apply Yb b 3 [rz] [true] [] [(4,[(11,cL 5 Zag.c Zag.d []),(12,cL 7 Zad.c Zad.d [])])] [] (.c h .n)
 .obtain⟨i,b⟩|⟨i,b⟩:=Zaj b
  .apply Yb b 6 [rz,rz] [false,true] [] [(4,[(12,cL 7 Zad.c Zad.d [])])] [] (.c h (.c i .n))
  .obtain⟨j,b⟩|⟨j,b⟩:=Zaj b
   .apply Yb b 9 [rz,rz,rz] [false,false,true] [] [(4,[(11,cL 5 Zag.c Zag.d [])])] [] (.c h (.c i (.c j .n)))
   .obtain⟨o,b⟩|⟨o,b⟩:=Zaj b
    .apply Yb b 12 [rz,rz,rz,rz] [false,false,false,true] [] [(4,[(11,cL 5 Zag.c Zag.d []),(12,cL 7 Zad.c Zad.d [])])] [] (.c h (.c i (.c j (.c o .n))))
    .apply Yb b 14 [rz,rz,rz,rz] [false,false,false,false] [] [(4,[(11,cL 5 Zag.c Zag.d []),(12,cL 7 Zad.c Zad.d [])])] [] (.c h (.c i (.c j (.c o .n))))
def ZnC(b:Int)(d:Zac):Option Zac:=bif(b==(1:Int))then ZiL b (b==(1:Int)) d (Zac.mk 0 (Zaa.mk (Zah.mk (Zaf.mk false 0 0) 0) false 0 (Zau.mk 0 0) 0 0) ([]:(List Zag)) ([]:(List Zad)))else bif(b==(2:Int))then ZiL b (b==(2:Int)) d (Zac.mk 0 (Zaa.mk (Zah.mk (Zaf.mk false 0 0) 0) false 0 (Zau.mk 0 0) 0 0) ([]:(List Zag)) ([]:(List Zad)))else ZiL b (b==(5:Int)) d (Zac.mk 0 (Zaa.mk (Zah.mk (Zaf.mk false 0 0) 0) false 0 (Zau.mk 0 0) 0 0) ([]:(List Zag)) ([]:(List Zad)))
theorem ZwU(e:Int)(g r:Zac)(b:ZnC e g=some r):Yo 434 [Yj e,.agg (Zac.c g)] (.agg (Zac.c r)):=by
 refine Yv Tryz.func434 fun S0 w0=>?_;unfold ZnC at b;obtain⟨h,b⟩|⟨h,b⟩:=Zaj b
 .exact Ye 11 [rz,rz,rz] [true] ⟨[],[(4,[(11,cL 5 Zag.c Zag.d []),(12,cL 7 Zad.c Zad.d [])])],[],[],[],[3,4,5,6],[3,4],[]⟩ (.c h .n) (Zls S0 w0 e (e==(1:Int)) g (Zac.mk 0 (Zaa.mk (Zah.mk (Zaf.mk false 0 0) 0) false 0 (Zau.mk 0 0) 0 0) ([]:(List Zag)) ([]:(List Zad))) r b)
 .obtain⟨i,b⟩|⟨i,b⟩:=Zaj b
  .exact Ye 14 [rz,rz,rz,rz] [false,true] ⟨[],[(4,[(11,cL 5 Zag.c Zag.d []),(12,cL 7 Zad.c Zad.d [])])],[],[],[],[3,4,5,6],[3,4],[]⟩ (.c h (.c i .n)) (Zls S0 w0 e (e==(2:Int)) g (Zac.mk 0 (Zaa.mk (Zah.mk (Zaf.mk false 0 0) 0) false 0 (Zau.mk 0 0) 0 0) ([]:(List Zag)) ([]:(List Zad))) r b)
  .exact Ye 14 [rz,rz,rz,rz,rz] [false,false] ⟨[],[(4,[(11,cL 5 Zag.c Zag.d []),(12,cL 7 Zad.c Zad.d [])])],[],[],[],[3,4,5,6],[3,4],[]⟩ (.c h (.c i .n)) (Zls S0 w0 e (e==(5:Int)) g (Zac.mk 0 (Zaa.mk (Zah.mk (Zaf.mk false 0 0) 0) false 0 (Zau.mk 0 0) 0 0) ([]:(List Zag)) ([]:(List Zad))) r b)
def ZhB(d:Int)(g:Bool)(e o b:Zas):Option Zas:=bif g then some (Zas.mk b.fKind e.fLock b.fLoc b.fOld b.fNew b.fVal b.fMark)else bif(d==(5:Int))then(ZkM e.fLoc).bind fun h=>some (Zas.mk b.fKind b.fLock h b.fOld b.fNew b.fVal b.fMark)else bif(d==(6:Int))then(ZkM e.fLoc).bind fun i=>(ZnC e.fLoc.fKind e.fVal).bind fun j=>some (Zas.mk b.fKind b.fLock i b.fOld b.fNew j b.fMark)else bif(d==(7:Int))then(ZkM e.fLoc).bind fun n=>some (Zas.mk b.fKind b.fLock n e.fOld e.fNew b.fVal b.fMark)else bif(d==(8:Int))then some b else some (Zas.mk 0 0 (Zan.mk 0 0 0) 0 0 (Zac.mk 0 (Zaa.mk (Zah.mk (Zaf.mk false 0 0) 0) false 0 (Zau.mk 0 0) 0 0) ([]:(List Zag)) ([]:(List Zad))) false)
theorem ZjA(S0:Nat->Prop)(w0:Zba)(p:Int)(t:Bool)(e g h r:Zas)(b:ZhB p t e g h=some r):Yr 54 S0 w0 Tryz.f432 (.agg (Zas.c r)) [1,1,0,1,0,1] ⟨[(1,.one (.ptr 1 0)),(2,.one (.ptr 2 0)),(3,.one (.ptr 3 0)),(10,(Yj p)),(12,(Yk t))],[(1,.box [.lit (.int .i64 e.fKind),.lit (.int .i64 e.fLock),.lit (.int .i64 e.fLoc.fKind),.lit (.int .i64 e.fLoc.fShard),.lit (.int .i64 e.fLoc.fSlot),.lit (.int .i64 e.fOld),.lit (.int .i64 e.fNew),.lit (.int .i64 e.fVal.fN),.lit (.bool e.fVal.fPeer.fEnd.fAddr.fV6),.lit (.int .u64 e.fVal.fPeer.fEnd.fAddr.fHi),.lit (.int .u64 e.fVal.fPeer.fEnd.fAddr.fLo),.lit (.int .i64 e.fVal.fPeer.fEnd.fPort),.lit (.bool e.fVal.fPeer.fIn),.lit (.int .i64 e.fVal.fPeer.fSince),.lit (.int .i64 e.fVal.fPeer.fScore.fPoints),.lit (.int .i64 e.fVal.fPeer.fScore.fAt),.lit (.int .i64 e.fVal.fPeer.fPing),.lit (.int .i64 e.fVal.fPeer.fWork),cL 5 Zag.c Zag.d e.fVal.fBans,cL 7 Zad.c Zad.d e.fVal.fBook,.lit (.bool e.fMark)]),(2,.box [.lit (.int .i64 g.fKind),.lit (.int .i64 g.fLock),.lit (.int .i64 g.fLoc.fKind),.lit (.int .i64 g.fLoc.fShard),.lit (.int .i64 g.fLoc.fSlot),.lit (.int .i64 g.fOld),.lit (.int .i64 g.fNew),.lit (.int .i64 g.fVal.fN),.lit (.bool g.fVal.fPeer.fEnd.fAddr.fV6),.lit (.int .u64 g.fVal.fPeer.fEnd.fAddr.fHi),.lit (.int .u64 g.fVal.fPeer.fEnd.fAddr.fLo),.lit (.int .i64 g.fVal.fPeer.fEnd.fPort),.lit (.bool g.fVal.fPeer.fIn),.lit (.int .i64 g.fVal.fPeer.fSince),.lit (.int .i64 g.fVal.fPeer.fScore.fPoints),.lit (.int .i64 g.fVal.fPeer.fScore.fAt),.lit (.int .i64 g.fVal.fPeer.fPing),.lit (.int .i64 g.fVal.fPeer.fWork),cL 5 Zag.c Zag.d g.fVal.fBans,cL 7 Zad.c Zad.d g.fVal.fBook,.lit (.bool g.fMark)]),(3,.box [.lit (.int .i64 h.fKind),.lit (.int .i64 h.fLock),.lit (.int .i64 h.fLoc.fKind),.lit (.int .i64 h.fLoc.fShard),.lit (.int .i64 h.fLoc.fSlot),.lit (.int .i64 h.fOld),.lit (.int .i64 h.fNew),.lit (.int .i64 h.fVal.fN),.lit (.bool h.fVal.fPeer.fEnd.fAddr.fV6),.lit (.int .u64 h.fVal.fPeer.fEnd.fAddr.fHi),.lit (.int .u64 h.fVal.fPeer.fEnd.fAddr.fLo),.lit (.int .i64 h.fVal.fPeer.fEnd.fPort),.lit (.bool h.fVal.fPeer.fIn),.lit (.int .i64 h.fVal.fPeer.fSince),.lit (.int .i64 h.fVal.fPeer.fScore.fPoints),.lit (.int .i64 h.fVal.fPeer.fScore.fAt),.lit (.int .i64 h.fVal.fPeer.fPing),.lit (.int .i64 h.fVal.fPeer.fWork),cL 5 Zag.c Zag.d h.fVal.fBans,cL 7 Zad.c Zad.d h.fVal.fBook,.lit (.bool h.fMark)])]⟩:=by
 unfold ZhB at b;obtain⟨i,b⟩|⟨i,b⟩:=Zaj b
 .apply Ya b 5 [rz,rz] [true] (.c i .n)
 .obtain⟨o,b⟩|⟨o,b⟩:=Zaj b
  .obtain⟨y,z,b⟩:=Zae b;apply Ya b 8 [rz,rA [(2,aG (Zan.c y))],rz] [false,true] (.c i (.c o (.c (Zoi _ _ z) .n)))
  .obtain⟨u,b⟩|⟨u,b⟩:=Zaj b
   .obtain⟨A,B,D,E,b⟩:=Yu b;apply Ya b 11 [rz,rz,rA [(2,aG (Zan.c A)),(8,aG (Zac.c B))],rz] [false,false,true] (.c i (.c o (.c u (.c (Zoi _ _ D) (.c (ZwU _ _ _ E) .n)))))
   .obtain⟨v,b⟩|⟨v,b⟩:=Zaj b
    .obtain⟨F,G,b⟩:=Zae b;apply Ya b 14 [rz,rz,rz,rA [(2,aG (Zan.c F))],rz] [false,false,false,true] (.c i (.c o (.c u (.c v (.c (Zoi _ _ G) .n)))))
    .obtain⟨j,b⟩|⟨j,b⟩:=Zaj b
     .apply Ya b 17 [rz,rz,rz,rz,rz] [false,false,false,false,true] (.c i (.c o (.c u (.c v (.c j .n)))))
     .apply Yb b 15 [rz,rz,rz,rz,rz] [false,false,false,false,false] [] [(2,[(18,cL 5 Zag.c Zag.d []),(19,cL 7 Zad.c Zad.d [])])] [] (.c i (.c o (.c u (.c v (.c j .n)))))
def ZnD(b:Zas):Option Zas:=bif(b.fKind==(1:Int))then ZhB b.fKind (b.fKind==(1:Int)) b (Zas.mk 0 0 (Zan.mk 0 0 0) 0 0 (Zac.mk 0 (Zaa.mk (Zah.mk (Zaf.mk false 0 0) 0) false 0 (Zau.mk 0 0) 0 0) ([]:(List Zag)) ([]:(List Zad))) false) (Zas.mk b.fKind 0 (Zan.mk 0 0 0) 0 0 (Zac.mk 0 (Zaa.mk (Zah.mk (Zaf.mk false 0 0) 0) false 0 (Zau.mk 0 0) 0 0) ([]:(List Zag)) ([]:(List Zad))) b.fMark)else bif(b.fKind==(2:Int))then ZhB b.fKind (b.fKind==(2:Int)) b (Zas.mk 0 0 (Zan.mk 0 0 0) 0 0 (Zac.mk 0 (Zaa.mk (Zah.mk (Zaf.mk false 0 0) 0) false 0 (Zau.mk 0 0) 0 0) ([]:(List Zag)) ([]:(List Zad))) false) (Zas.mk b.fKind 0 (Zan.mk 0 0 0) 0 0 (Zac.mk 0 (Zaa.mk (Zah.mk (Zaf.mk false 0 0) 0) false 0 (Zau.mk 0 0) 0 0) ([]:(List Zag)) ([]:(List Zad))) b.fMark)else bif(b.fKind==(3:Int))then ZhB b.fKind (b.fKind==(3:Int)) b (Zas.mk 0 0 (Zan.mk 0 0 0) 0 0 (Zac.mk 0 (Zaa.mk (Zah.mk (Zaf.mk false 0 0) 0) false 0 (Zau.mk 0 0) 0 0) ([]:(List Zag)) ([]:(List Zad))) false) (Zas.mk b.fKind 0 (Zan.mk 0 0 0) 0 0 (Zac.mk 0 (Zaa.mk (Zah.mk (Zaf.mk false 0 0) 0) false 0 (Zau.mk 0 0) 0 0) ([]:(List Zag)) ([]:(List Zad))) b.fMark)else ZhB b.fKind (b.fKind==(4:Int)) b (Zas.mk 0 0 (Zan.mk 0 0 0) 0 0 (Zac.mk 0 (Zaa.mk (Zah.mk (Zaf.mk false 0 0) 0) false 0 (Zau.mk 0 0) 0 0) ([]:(List Zag)) ([]:(List Zad))) false) (Zas.mk b.fKind 0 (Zan.mk 0 0 0) 0 0 (Zac.mk 0 (Zaa.mk (Zah.mk (Zaf.mk false 0 0) 0) false 0 (Zau.mk 0 0) 0 0) ([]:(List Zag)) ([]:(List Zad))) b.fMark)
theorem ZwV(b r:Zas)(e:ZnD b=some r):Yo 432 [.agg (Zas.c b)] (.agg (Zas.c r)):=by
 refine Yv Tryz.func432 fun S0 w0=>?_;unfold ZnD at e;obtain⟨g,e⟩|⟨g,e⟩:=Zaj e
 .exact Ye 13 [rz,rz,rz,rz] [true] ⟨[],[(2,[(18,cL 5 Zag.c Zag.d []),(19,cL 7 Zad.c Zad.d [])]),(3,[(18,cL 5 Zag.c Zag.d []),(19,cL 7 Zad.c Zad.d [])])],[],[],[],[1,2,3,10,12],[1,2,3],[]⟩ (.c g .n) (ZjA S0 w0 b.fKind (b.fKind==(1:Int)) b (Zas.mk 0 0 (Zan.mk 0 0 0) 0 0 (Zac.mk 0 (Zaa.mk (Zah.mk (Zaf.mk false 0 0) 0) false 0 (Zau.mk 0 0) 0 0) ([]:(List Zag)) ([]:(List Zad))) false) (Zas.mk b.fKind 0 (Zan.mk 0 0 0) 0 0 (Zac.mk 0 (Zaa.mk (Zah.mk (Zaf.mk false 0 0) 0) false 0 (Zau.mk 0 0) 0 0) ([]:(List Zag)) ([]:(List Zad))) b.fMark) r e)
 .obtain⟨h,e⟩|⟨h,e⟩:=Zaj e
  .exact Ye 16 [rz,rz,rz,rz,rz] [false,true] ⟨[],[(2,[(18,cL 5 Zag.c Zag.d []),(19,cL 7 Zad.c Zad.d [])]),(3,[(18,cL 5 Zag.c Zag.d []),(19,cL 7 Zad.c Zad.d [])])],[],[],[],[1,2,3,10,12],[1,2,3],[]⟩ (.c g (.c h .n)) (ZjA S0 w0 b.fKind (b.fKind==(2:Int)) b (Zas.mk 0 0 (Zan.mk 0 0 0) 0 0 (Zac.mk 0 (Zaa.mk (Zah.mk (Zaf.mk false 0 0) 0) false 0 (Zau.mk 0 0) 0 0) ([]:(List Zag)) ([]:(List Zad))) false) (Zas.mk b.fKind 0 (Zan.mk 0 0 0) 0 0 (Zac.mk 0 (Zaa.mk (Zah.mk (Zaf.mk false 0 0) 0) false 0 (Zau.mk 0 0) 0 0) ([]:(List Zag)) ([]:(List Zad))) b.fMark) r e)
  .obtain⟨i,e⟩|⟨i,e⟩:=Zaj e
   .exact Ye 19 [rz,rz,rz,rz,rz,rz] [false,false,true] ⟨[],[(2,[(18,cL 5 Zag.c Zag.d []),(19,cL 7 Zad.c Zad.d [])]),(3,[(18,cL 5 Zag.c Zag.d []),(19,cL 7 Zad.c Zad.d [])])],[],[],[],[1,2,3,10,12],[1,2,3],[]⟩ (.c g (.c h (.c i .n))) (ZjA S0 w0 b.fKind (b.fKind==(3:Int)) b (Zas.mk 0 0 (Zan.mk 0 0 0) 0 0 (Zac.mk 0 (Zaa.mk (Zah.mk (Zaf.mk false 0 0) 0) false 0 (Zau.mk 0 0) 0 0) ([]:(List Zag)) ([]:(List Zad))) false) (Zas.mk b.fKind 0 (Zan.mk 0 0 0) 0 0 (Zac.mk 0 (Zaa.mk (Zah.mk (Zaf.mk false 0 0) 0) false 0 (Zau.mk 0 0) 0 0) ([]:(List Zag)) ([]:(List Zad))) b.fMark) r e)
   .exact Ye 19 [rz,rz,rz,rz,rz,rz,rz] [false,false,false] ⟨[],[(2,[(18,cL 5 Zag.c Zag.d []),(19,cL 7 Zad.c Zad.d [])]),(3,[(18,cL 5 Zag.c Zag.d []),(19,cL 7 Zad.c Zad.d [])])],[],[],[],[1,2,3,10,12],[1,2,3],[]⟩ (.c g (.c h (.c i .n))) (ZjA S0 w0 b.fKind (b.fKind==(4:Int)) b (Zas.mk 0 0 (Zan.mk 0 0 0) 0 0 (Zac.mk 0 (Zaa.mk (Zah.mk (Zaf.mk false 0 0) 0) false 0 (Zau.mk 0 0) 0 0) ([]:(List Zag)) ([]:(List Zad))) false) (Zas.mk b.fKind 0 (Zan.mk 0 0 0) 0 0 (Zac.mk 0 (Zaa.mk (Zah.mk (Zaf.mk false 0 0) 0) false 0 (Zau.mk 0 0) 0 0) ([]:(List Zag)) ([]:(List Zad))) b.fMark) r e)
def Zcj(b:Zaq)(e:Zas):Option (Tout Zac):=bif((b.fgot.length:Int)==(0:Int))then(ZnD e).bind fun g=>some (Tout.pan g)else need (0<=(0:Int)/\(0:Int)<(b.fgot.length:Int))<|need (0<=(1:Int)/\(1:Int)<=(b.fgot.length:Int))<|some (Tout.ret (b.fgot.getD (0:Int).toNat Zac.d) (Zaq.mk (b.fgot.drop (1:Int).toNat)))
theorem ZbB(e:Zaq)(h:Zas)(r:(Tout Zac))(b:Zcj e h=some r):Yq 431 [(100000,.box (Zaq.c e))] [.one (.ptr 100000 0),.agg (Zas.c h)] (oc (fun x=>.agg (Zac.c x)) r):=by
 refine ZhO.of Tryz.func431 rfl rfl rfl rfl fun S0 w0=>?_;unfold Zcj at b;obtain⟨g,b⟩|⟨g,b⟩:=Zaj b
 .obtain⟨o,p,b⟩:=Zae b;obtain rfl:=oi b;exact Yh 6 [rz,rz] [true] (rA [(1,aG (Zas.c o))]) 4 ⟨[],.one .junk⟩ (.c g (.c (ZwV _ _ p) (.c (show Tryz.prog.concrete 139=true from(by kernel_rfl)) .n)))
 .obtain⟨t,u,b⟩:=Yt b;obtain rfl:=oi b;exact Yd 13 [rz,rz,rz,⟨[],[],[],[],[],[(5,((e.fgot.drop (1:Int).toNat).length,Zam Zac.c Zac.d (e.fgot.drop (1:Int).toNat)))],[]⟩,rz] [false] ⟨[],[],[],[],[],[4],[4,100000],[]⟩ (.c g (.c t (.c (show (e.fgot.drop (1:Int).toNat).length=e.fgot.length-(1:Int).toNat/\∀i j,i<e.fgot.length-(1:Int).toNat->j<13->Zam Zac.c Zac.d (e.fgot.drop (1:Int).toNat) i j=Zam Zac.c Zac.d e.fgot ((1:Int).toNat+i) j from(ZCk _ _)) (.c u .n))))
def Zjx(g:Zaq)(h:Bool):Option (Tout Unit):=(Zcj g (Zas.mk 8 0 (Zan.mk 0 0 0) 0 0 (Zac.mk 0 (Zaa.mk (Zah.mk (Zaf.mk false 0 0) 0) false 0 (Zau.mk 0 0) 0 0) ([]:(List Zag)) ([]:(List Zad))) h)).bind fun i=>(match i with | .ret j b=>some (Tout.ret () b) | .pan d=>some (Tout.pan d) | .bad e=>some (Tout.bad e))
theorem Zlz(i:Zaq)(j:Bool)(r:(Tout Unit))(b:Zjx i j=some r):Yq 427 [(100000,.box (Zaq.c i))] [.one (.ptr 100000 0),Yk j] (oc (fun x=>.tup []) r):=by
 refine ZhO.of Tryz.func427 rfl rfl rfl rfl fun S0 w0=>?_;unfold Zjx at b;obtain⟨o,e,b⟩:=Zae b;cases o with
 |ret g h=>
  dsimp only at b;obtain rfl:=oi b;exact Yd 1 [⟨[],[],[],[],[(2,[(18,cL 5 Zag.c Zag.d []),(19,cL 7 Zad.c Zad.d [])])],[],[(3,⟨[(100000,100000)],[],[(100000,.box (Zaq.c h))],.agg (Zac.c g)⟩)]⟩] [] ⟨[],[],[],[],[],[],[100000],[]⟩ (.c (ZbB _ _ _ e) .n)
 |_=>
  dsimp only at b;obtain rfl:=oi b;exact Yh 0 [] [] (⟨[],[],[],[],[(2,[(18,cL 5 Zag.c Zag.d []),(19,cL 7 Zad.c Zad.d [])])],[],[]⟩) 3 ⟨[(100000,100000)],pvOf e⟩ (.c (ZbB _ _ _ e) .n)
def Zhn(b:Int):Option Zao:=some (Zao.mk b (Zah.mk (Zaf.mk false 0 0) 0) 0 0 ([]:(List Zaa)))
theorem Zia(b:Int)(r:Zao)(e:Zhn b=some r):Yo 127 [Yj b] (.agg (Zao.c r)):=by
 refine Yv Tryz.func127 fun S0 w0=>?_;unfold Zhn at e;apply Yb e 4 [rz,rz] [] [] [(2,[(7,cL 10 Zaa.c Zaa.d [])])] [] .n
def ZiC(g:Zaq)(h:Int)(i:Bool):Option (Tout Unit):=(Zcj g (Zas.mk 2 h (Zan.mk 0 0 0) 0 0 (Zac.mk 0 (Zaa.mk (Zah.mk (Zaf.mk false 0 0) 0) false 0 (Zau.mk 0 0) 0 0) ([]:(List Zag)) ([]:(List Zad))) i)).bind fun j=>(match j with | .ret n b=>some (Tout.ret () b) | .pan d=>some (Tout.pan d) | .bad e=>some (Tout.bad e))
theorem Zlg(i:Zaq)(j:Int)(o:Bool)(r:(Tout Unit))(b:ZiC i j o=some r):Yq 428 [(100000,.box (Zaq.c i))] [.one (.ptr 100000 0),Yj j,Yk o] (oc (fun x=>.tup []) r):=by
 refine ZhO.of Tryz.func428 rfl rfl rfl rfl fun S0 w0=>?_;unfold ZiC at b;obtain⟨p,e,b⟩:=Zae b;cases p with
 |ret g h=>
  dsimp only at b;obtain rfl:=oi b;exact Yd 1 [⟨[],[],[],[],[(3,[(18,cL 5 Zag.c Zag.d []),(19,cL 7 Zad.c Zad.d [])])],[],[(4,⟨[(100000,100000)],[],[(100000,.box (Zaq.c h))],.agg (Zac.c g)⟩)]⟩] [] ⟨[],[],[],[],[],[],[100000],[]⟩ (.c (ZbB _ _ _ e) .n)
 |_=>
  dsimp only at b;obtain rfl:=oi b;exact Yh 0 [] [] (⟨[],[],[],[],[(3,[(18,cL 5 Zag.c Zag.d []),(19,cL 7 Zad.c Zad.d [])])],[],[]⟩) 4 ⟨[(100000,100000)],pvOf e⟩ (.c (ZbB _ _ _ e) .n)
def Zeg(h:Zaq)(i:Zan)(j:Bool):Option (Tout Zac):=(Zcj h (Zas.mk 5 0 i 0 0 (Zac.mk 0 (Zaa.mk (Zah.mk (Zaf.mk false 0 0) 0) false 0 (Zau.mk 0 0) 0 0) ([]:(List Zag)) ([]:(List Zad))) j)).bind fun n=>(match n with | .ret b d=>some (Tout.ret b d) | .pan e=>some (Tout.pan e) | .bad g=>some (Tout.bad g))
theorem Zdk(i:Zaq)(j:Zan)(o:Bool)(r:(Tout Zac))(b:Zeg i j o=some r):Yq 425 [(100000,.box (Zaq.c i))] [.one (.ptr 100000 0),.agg (Zan.c j),Yk o] (oc (fun x=>.agg (Zac.c x)) r):=by
 refine ZhO.of Tryz.func425 rfl rfl rfl rfl fun S0 w0=>?_;unfold Zeg at b;obtain⟨p,e,b⟩:=Zae b;cases p with
 |ret g h=>
  dsimp only at b;obtain rfl:=oi b;exact Yd 4 [rz,⟨[],[],[],[],[(3,[(18,cL 5 Zag.c Zag.d []),(19,cL 7 Zad.c Zad.d [])])],[],[(4,⟨[(100000,100000)],[],[(100000,.box (Zaq.c h))],.agg (Zac.c g)⟩)]⟩] [] ⟨[],[],[],[],[],[6],[6,100000],[]⟩ (.c (ZbB _ _ _ e) .n)
 |_=>
  dsimp only at b;obtain rfl:=oi b;exact Yh 3 [rz] [] (⟨[],[],[],[],[(3,[(18,cL 5 Zag.c Zag.d []),(19,cL 7 Zad.c Zad.d [])])],[],[]⟩) 4 ⟨[(100000,100000)],pvOf e⟩ (.c (ZbB _ _ _ e) .n)
def Znz:Option ZaE:=some (ZaE.mk Zav.nil Zav.nil 0)
theorem Zrk(r:ZaE)(b:Znz=some r):Yo 271 [] (.one (ZaE.c r)):=by
 refine Yv Tryz.func271 fun S0 w0=>?_;unfold Znz at b;apply Yb b 4 [rz,⟨[],[],[],[],[(0,[(0,Zav.c Zav.nil),(1,Zav.c Zav.nil)])],[],[]⟩] [] [2] [] [] .n
def ZgA(b:Zaf):Option Int:=bif b.fV6 then some (1:Int)else some (0:Int)
theorem ZeS(e:Zaf)(r:Int)(b:ZgA e=some r):Yo 274 [.agg (Zaf.c e)] (Yj r):=by
 refine Yv Tryz.func274 fun S0 w0=>?_;unfold ZgA at b;obtain⟨d,b⟩|⟨d,b⟩:=Zaj b
 .apply Ya b 8 [rz,rz,rz] [true] (.c d .n)
 .apply Ya b 9 [rz,rz,rz] [false] (.c d .n)
def Zhp(e:Zaf)(b:Int):Option Int:=(ZdT e).bind fun d=>bif(decide (b<(0:Int)))then some (0:Int)else bif(decide (b>=d))then some (0:Int)else bif(decide ((ZaQ (ZaQ d (1:Int)) b)>=(64:Int)))then need (0<=(ZaQ (ZaQ (ZaQ d (1:Int)) b) (64:Int)))<|some (IntKind.wrap .i64 (IntKind.wrap .u64 (((BitVec.ofInt (IntKind.bits .u64) (Int.fdiv e.fHi (2 ^ (min (ZaQ (ZaQ (ZaQ d (1:Int)) b) (64:Int)).toNat (IntKind.bits .u64))))) &&& (BitVec.ofInt (IntKind.bits .u64) (1:Int))).toNat:Int)))else need (0<=(ZaQ (ZaQ d (1:Int)) b))<|some (IntKind.wrap .i64 (IntKind.wrap .u64 (((BitVec.ofInt (IntKind.bits .u64) (Int.fdiv e.fLo (2 ^ (min (ZaQ (ZaQ d (1:Int)) b).toNat (IntKind.bits .u64))))) &&& (BitVec.ofInt (IntKind.bits .u64) (1:Int))).toNat:Int)))
theorem Zkx(j:Zaf)(o r:Int)(b:Zhp j o=some r):Yo 276 [.agg (Zaf.c j),Yj o] (Yj r):=by
 refine Yv Tryz.func276 fun S0 w0=>?_;unfold Zhp at b;obtain⟨e,g,b⟩:=Zae b;obtain⟨d,b⟩|⟨d,b⟩:=Zaj b
 .apply Ya b 10 [rz,rA [(1,aI e)],rB [(2,true)],rz] [true] (.c (ZgU _ _ g) (.c d (.c (show true=true from rfl) .n)))
 .obtain⟨h,b⟩|⟨h,b⟩:=Zaj b
  .apply Ya b 10 [rz,rA [(1,aI e)],rB [(2,false)],rz] [true] (.c (ZgU _ _ g) (.c d (.c h .n)))
  .let R1:List RA:=[rz,rA [(1,aI e)],rB [(2,false)],rz,rz,rz]
   have O2:Obl _:=(.c (ZgU _ _ g) (.c d (.c h .n)));obtain⟨i,b⟩|⟨i,b⟩:=Zaj b
   .obtain⟨p,b⟩:=Zat b;apply Ya b 17 R1 [false,true] (O2.app (.c i (.c p .n)))
   .obtain⟨t,b⟩:=Zat b;apply Ya b 18 R1 [false,false] (O2.app (.c i (.c t .n)))
def ZhP(b:Zap)(d:Int):Option Int:=(Zhp b.fAddr d).bind fun e=>some e
theorem Zdo(d:Zap)(e r:Int)(b:ZhP d e=some r):Yo 329 [.agg (Zap.c d),Yj e] (Yj r):=by
 refine Yv Tryz.func329 fun S0 w0=>?_;unfold ZhP at b;obtain⟨g,h,b⟩:=Zae b;apply Ya b 4 [rz,rA [(3,aI g)]] [] (.c (Zkx _ _ _ h) .n)
def Zdp:Nat->Zav->Zap->Option (Int×Bool)|0,_,_=>none|fu+1,j,d=>(match j with | .nil=>some ((0:Int),false) | .mk b e g h=>bif(decide (b.fNet.fBits<d.fBits))then(ZhP d b.fNet.fBits).bind fun i=>need (0<=i/\i<((2:Nat):Int))<|ix2 i ( Zdp fu g d) ( Zdp fu h d)else bif(!e)then some ((0:Int),false)else bif(!(decide (b.fNet=d)))then some ((0:Int),false)else some (b.fV,true))
theorem Zlf(S0:Nat->Prop)(w0:Zba):∀(p:Nat)(h:Zav)(d:Zap)(r:(Int×Bool)),Zdp p h d=some r->Yr 71 S0 w0 Tryz.f272 (.tup [(false,(cI .i64) r.1),(false,cB r.2)]) [1,1,1,0,0] ⟨[(3,.one (.ptr 3 0)),(6,.one (Zav.c h))],[(3,.box [.lit (.bool d.fAddr.fV6),.lit (.int .u64 d.fAddr.fHi),.lit (.int .u64 d.fAddr.fLo),.lit (.int .i64 d.fBits)])]⟩:=by
 intro p;induction p with
 |zero=>
  intro h d r b;simp[Zdp]at b
 |succ p v=>
  intro h d r b;unfold Zdp at b;cases h with
  |nil=>
   dsimp only at b;apply Ya b 12 [rz,rz,rz] [false,true] (.c (show false=false from rfl) (.c (show true=true from rfl) .n))
  |mk g y i j=>
   dsimp only at b;obtain⟨o,b⟩|⟨o,b⟩:=Zaj b
   .obtain⟨B,z,b⟩:=Zae b;obtain⟨A,b⟩:=Zat b;rcases Zju A b with⟨e,b⟩|⟨e,b⟩
    .subst e;exact Ye 10 [rz,rA [(8,aI (0:Int))]] [true] ⟨[],[],[],[],[],[3,6],[3],[]⟩ (.c o (.c (Zdo _ _ _ z) (.c (show 0<=(0:Int)/\(0:Int)<((2:Nat):Int)from(by decide)) .n))) (v i d r b)
    .subst e;exact Ye 10 [rz,rA [(8,aI (1:Int))]] [true] ⟨[],[],[],[],[],[3,6],[3],[]⟩ (.c o (.c (Zdo _ _ _ z) (.c (show 0<=(1:Int)/\(1:Int)<((2:Nat):Int)from(by decide)) .n))) (v j d r b)
   .obtain⟨t,b⟩|⟨t,b⟩:=Zaj b
    .apply Ya b 12 [rz,rB [(9,true)],rz] [false,true] (.c o (.c t (.c (show true=true from rfl) .n)))
    .let R1:List RA:=[rz,⟨[(16,aB (!(decide (g.fNet=d))))],[(9,false)],[],[],[],[],[]⟩,rz]
     have O2:Obl _:=(.c o (.c t (.c (ZwD g.fNet d (.tmp 62) (.tmp 63)) .n)));obtain⟨u,b⟩|⟨u,b⟩:=Zaj b
     .apply Ya b 12 R1 [false,true] (O2.app (.c u .n))
     .apply Ya b 13 R1 [false,false] (O2.app (.c u .n))
def Zhi(i:ZaE)(e:Zap):Option (Int×Bool):=(match i with | .nil=>some ((0:Int),false) | .mk b d h=>(Zhr e).bind fun j=>bif(!j)then some ((0:Int),false)else(ZgA e.fAddr).bind fun g=>need (0<=g/\g<((2:Nat):Int))<|ix2 g ( Zdp 1000000 b e) ( Zdp 1000000 d e))
theorem ZgB(j:ZaE)(h:Zap)(r:(Int×Bool))(b:Zhi j h=some r):Yo 272 [.one (ZaE.c j),.agg (Zap.c h)] (.tup [(false,(cI .i64) r.1),(false,cB r.2)]):=by
 refine Yv Tryz.func272 fun S0 w0=>?_;unfold Zhi at b;cases j with
 |nil=>
  dsimp only at b;apply Ya b 8 [rz,rz,rz] [true] (.c (show true=true from rfl) .n)
 |mk d g t=>
  dsimp only at b;obtain⟨o,p,b⟩:=Zae b;obtain⟨i,b⟩|⟨i,b⟩:=Zaj b
  .apply Ya b 8 [rz,rA [(4,aB o)],rz] [true] (.c (Zdz _ _ p) (.c i .n))
  .obtain⟨y,u,b⟩:=Zae b;obtain⟨v,b⟩:=Zat b;rcases Zju v b with⟨e,b⟩|⟨e,b⟩
   .subst e;exact Ye 11 [rz,rA [(4,aB o)],rA [(3,aI (0:Int))]] [false] ⟨[],[],[],[],[],[3,6],[3],[]⟩ (.c (Zdz _ _ p) (.c i (.c (ZeS _ _ u) (.c (show 0<=(0:Int)/\(0:Int)<((2:Nat):Int)from(by decide)) .n)))) (Zlf S0 w0 1000000 d h r b)
   .subst e;exact Ye 11 [rz,rA [(4,aB o)],rA [(3,aI (1:Int))]] [false] ⟨[],[],[],[],[],[3,6],[3],[]⟩ (.c (Zdz _ _ p) (.c i (.c (ZeS _ _ u) (.c (show 0<=(1:Int)/\(1:Int)<((2:Nat):Int)from(by decide)) .n)))) (Zlf S0 w0 1000000 g h r b)
def Zox(b:Zag)(d:Int):Option Bool:=some (decide (d<b.fUntil))
theorem Zvf(b:Zag)(d:Int)(r:Bool)(e:Zox b d=some r):Yo 243 [.agg (Zag.c b),Yj d] (Yk r):=by
 refine Yv Tryz.func243 fun S0 w0=>?_;unfold Zox at e;apply Ya e 4 [rz,rz] [] .n
def ZeM(b d:Int):Option Int:=bif(decide (b>=(256:Int)))then need (0<=(IntKind.wrap .u8 (Int.fdiv b (2 ^ (min (8:Int).toNat (IntKind.bits .u64)))))/\(IntKind.wrap .u8 (Int.fdiv b (2 ^ (min (8:Int).toNat (IntKind.bits .u64)))))<(((Yx : ByteArray).size:Nat):Int))<|some (Zar (Zar d 8) (IntKind.wrap .i64 ((ZkH (Yx : ByteArray) (IntKind.wrap .u8 (Int.fdiv b (2 ^ (min (8:Int).toNat (IntKind.bits .u64))))).toNat:Nat):Int)))else need (0<=(IntKind.wrap .u8 b)/\(IntKind.wrap .u8 b)<(((Yx : ByteArray).size:Nat):Int))<|some (Zar d (IntKind.wrap .i64 ((ZkH (Yx : ByteArray) (IntKind.wrap .u8 b).toNat:Nat):Int)))
theorem Zki(S0:Nat->Prop)(w0:Zba)(e g r:Int)(b:ZeM e g=some r):Yr 25 S0 w0 Tryz.f388 (Yj r) [1,1,1] ⟨[(0,.one (.lit (.int .u64 e))),(2,(Yj g))],[]⟩:=by
 unfold ZeM at b;obtain⟨d,b⟩|⟨d,b⟩:=Zaj b
 .obtain⟨h,b⟩:=Zat b;apply Ya b 9 [rz,rz,rz,rz] [true] (.c d (.c (show 0<=(8:Int)from(by decide)) (.c h .n)))
 .obtain⟨i,b⟩:=Zat b;apply Ya b 7 [rz,rz] [false] (.c d (.c i .n))
def ZeN(b d:Int):Option Int:=bif(decide (b>=(65536:Int)))then ZeM (Int.fdiv b (2 ^ (min (16:Int).toNat (IntKind.bits .u64)))) (Zar d 16)else ZeM b d
theorem Zkj(S0:Nat->Prop)(w0:Zba)(d e r:Int)(b:ZeN d e=some r):Yr 25 S0 w0 Tryz.f388 (Yj r) [1,1] ⟨[(0,.one (.lit (.int .u64 d))),(2,(Yj e))],[]⟩:=by
 unfold ZeN at b;obtain⟨g,b⟩|⟨g,b⟩:=Zaj b
 .exact Ye 7 [rz,rz,rz] [true] (Yi [0,2]) (.c g (.c (show 0<=(16:Int)from(by decide)) .n)) (Zki S0 w0 (Int.fdiv d (2 ^ (min (16:Int).toNat (IntKind.bits .u64)))) (Zar e 16) r b)
 .exact Ye 5 [rz] [false] (Yi [0,2]) (.c g .n) (Zki S0 w0 d e r b)
def Zhk(b:Int):Option Int:=bif(decide (b>=(4294967296:Int)))then ZeN (Int.fdiv b (2 ^ (min (32:Int).toNat (IntKind.bits .u64)))) (32:Int)else ZeN b (0:Int)
theorem Zqc(d r:Int)(b:Zhk d=some r):Yo 388 [.one (.lit (.int .u64 d))] (Yj r):=by
 refine Yv Tryz.func388 fun S0 w0=>?_;unfold Zhk at b;obtain⟨e,b⟩|⟨e,b⟩:=Zaj b
 .exact Ye 9 [rz,rz,rz,rz] [true] (Yi [0,2]) (.c e (.c (show 0<=(32:Int)from(by decide)) .n)) (Zkj S0 w0 (Int.fdiv d (2 ^ (min (32:Int).toNat (IntKind.bits .u64)))) (32:Int) r b)
 .exact Ye 7 [rz,rz] [false] (Yi [0,2]) (.c e .n) (Zkj S0 w0 d (0:Int) r b)
def ZcZ(b:Int):Option Int:=(Zhk b).bind fun d=>some (ZaQ (64:Int) d)
theorem ZhN(d r:Int)(b:ZcZ d=some r):Yo 389 [.one (.lit (.int .u64 d))] (Yj r):=by
 refine Yv Tryz.func389 fun S0 w0=>?_;unfold ZcZ at b;obtain⟨e,g,b⟩:=Zae b;apply Ya b 4 [rz,rA [(1,aI e)]] [] (.c (Zqc _ _ g) .n)
def ZfB(b d:Int)(e:Zap):Option Int:=bif(!e.fAddr.fV6)then(ZdT e.fAddr).bind fun g=>some (if b<(ZaQ d (ZaQ (128:Int) g))then b else(ZaQ d (ZaQ (128:Int) g)))else some (if b<d then b else d)
theorem ZlY(S0:Nat->Prop)(w0:Zba)(g h:Int)(d:Zap)(r:Int)(b:ZfB g h d=some r):Yr 48 S0 w0 Tryz.f362 (Yj r) [1,1,1,1,1] ⟨[(2,.one (.ptr 2 0)),(5,(Yj g)),(8,(Yj h))],[(2,.box [.lit (.bool d.fAddr.fV6),.lit (.int .u64 d.fAddr.fHi),.lit (.int .u64 d.fAddr.fLo),.lit (.int .i64 d.fBits)])]⟩:=by
 unfold ZfB at b;obtain⟨e,b⟩|⟨e,b⟩:=Zaj b
 .obtain⟨i,j,b⟩:=Zae b;apply Ya b 7 [rz,rA [(3,aI i)],rz] [true] (.c e (.c (ZgU _ _ j) .n))
 .apply Ya b 7 [rz,rz] [false] (.c e .n)
def Zka(b d:Zap):Option Int:=(ZcZ (IntKind.wrap .u64 (((BitVec.ofInt (IntKind.bits .u64) b.fAddr.fHi) ^^^ (BitVec.ofInt (IntKind.bits .u64) d.fAddr.fHi)).toNat:Int))).bind fun e=>bif((IntKind.wrap .u64 (((BitVec.ofInt (IntKind.bits .u64) b.fAddr.fHi) ^^^ (BitVec.ofInt (IntKind.bits .u64) d.fAddr.fHi)).toNat:Int))==(0:Int))then(ZcZ (IntKind.wrap .u64 (((BitVec.ofInt (IntKind.bits .u64) b.fAddr.fLo) ^^^ (BitVec.ofInt (IntKind.bits .u64) d.fAddr.fLo)).toNat:Int))).bind fun g=>ZfB (if d.fBits<b.fBits then d.fBits else b.fBits) (Zar (64:Int) g) b else ZfB (if d.fBits<b.fBits then d.fBits else b.fBits) e b
theorem Zjw(d e:Zap)(r:Int)(b:Zka d e=some r):Yo 362 [.agg (Zap.c d),.agg (Zap.c e)] (Yj r):=by
 refine Yv Tryz.func362 fun S0 w0=>?_;unfold Zka at b;obtain⟨g,j,b⟩:=Zae b;have O1:Obl _:=(.c (ZhN _ _ j) .n);obtain⟨h,b⟩|⟨h,b⟩:=Zaj b
 .obtain⟨i,o,b⟩:=Zae b;exact Ye 13 [rz,rz,rz,rA [(1,aI g)],rz,rA [(1,aI i)]] [true] ⟨[],[],[],[],[],[2,5,8],[2],[]⟩ (O1.app (.c h (.c (ZhN _ _ o) .n))) (ZlY S0 w0 (if e.fBits<d.fBits then e.fBits else d.fBits) (Zar (64:Int) i) d r b)
 .exact Ye 13 [rz,rz,rz,rA [(1,aI g)],rz] [false] ⟨[],[],[],[],[],[2,5,8],[2],[]⟩ (O1.app (.c h .n)) (ZlY S0 w0 (if e.fBits<d.fBits then e.fBits else d.fBits) g d r b)
def Zkb(A:Zav)(b:Ziy)(p:Int):Option Zav:=bif(p==b.fhit.fNet.fBits)then(match A with | .nil=>none | .mk d g h i=>(ZhP d.fNet p).bind fun u=>need (0<=u/\u<((2:Nat):Int))<|ix2 u ( some (Zav.mk b.fhit b.fhas (Zav.mk d g h i) b.fkids.2)) ( some (Zav.mk b.fhit b.fhas b.fkids.1 (Zav.mk d g h i))))else(ZfD b.fhit.fNet.fAddr p).bind fun t=>(match A with | .nil=>none | .mk e j n o=>(ZhP e.fNet p).bind fun v=>need (0<=v/\v<((2:Nat):Int))<|ix2 v ( (ZhP b.fhit.fNet p).bind fun y=>need (0<=y/\y<((2:Nat):Int))<|ix2 y ( some (Zav.mk (Zaw.mk t.1 0) false (Zav.mk b.fhit b.fhas b.fkids.1 b.fkids.2) Zav.nil)) ( some (Zav.mk (Zaw.mk t.1 0) false (Zav.mk e j n o) (Zav.mk b.fhit b.fhas b.fkids.1 b.fkids.2)))) ( (ZhP b.fhit.fNet p).bind fun z=>need (0<=z/\z<((2:Nat):Int))<|ix2 z ( some (Zav.mk (Zaw.mk t.1 0) false (Zav.mk b.fhit b.fhas b.fkids.1 b.fkids.2) (Zav.mk e j n o))) ( some (Zav.mk (Zaw.mk t.1 0) false Zav.nil (Zav.mk b.fhit b.fhas b.fkids.1 b.fkids.2)))))
theorem ZrX(h:Zav)(p:Ziy)(t:Int)(r:Zav)(b:Zkb h p t=some r):Yp 363 [(100000,.box (Ziy.c p))] [.one (Zav.c h),.one (.ptr 100000 0),Yj t] [] (.one (Zav.c r)):=by
 refine Yw Tryz.func363 fun S0 w0=>?_;unfold Zkb at b;obtain⟨g,b⟩|⟨g,b⟩:=Zaj b
 .cases h with
  |nil=>
   dsimp only at b;cases b
  |mk u v y z=>
   dsimp only at b;obtain⟨M,A,b⟩:=Zae b;obtain⟨I,b⟩:=Zat b;rcases Zju I b with⟨e,b⟩|⟨e,b⟩
   .subst e;apply Yc b 10 [rz,rz,rA [(7,aI (0:Int))],rz] [true] ⟨[100000],[],[],[],[],[6],[],[]⟩ (.c g (.c (Zdo _ _ _ A) (.c (show 0<=(0:Int)/\(0:Int)<((2:Nat):Int)from(by decide)) .n)))
   .subst e;apply Yc b 10 [rz,rz,rA [(7,aI (1:Int))],rz] [true] ⟨[100000],[],[],[],[],[6],[],[]⟩ (.c g (.c (Zdo _ _ _ A) (.c (show 0<=(1:Int)/\(1:Int)<((2:Nat):Int)from(by decide)) .n)))
 .obtain⟨d,i,b⟩:=Zae b;cases h with
  |nil=>
   dsimp only at b;cases b
  |mk B D E F=>
   dsimp only at b;obtain⟨O,j,b⟩:=Zae b;obtain⟨J,b⟩:=Zat b;rcases Zju J b with⟨e,b⟩|⟨e,b⟩
   .subst e;obtain⟨R,G,b⟩:=Zae b;obtain⟨L,b⟩:=Zat b;rcases Zju L b with⟨e,b⟩|⟨e,b⟩
    .subst e;apply Yc b 17 [rz,rz,rA [(7,.r (.tup [(true,Zap.c d.1),(false,cB d.2)]) [])],⟨[],[],[],[],[(2,[(6,Zav.c Zav.nil),(7,Zav.c Zav.nil)])],[],[]⟩,rA [(7,aI (0:Int))],rA [(7,aI (0:Int))],rz] [false] ⟨[100000,45],[],[],[],[],[6],[],[]⟩ (.c g (.c (ZfW _ _ _ i) (.c (Zdo _ _ _ j) (.c (show 0<=(0:Int)/\(0:Int)<((2:Nat):Int)from(by decide)) (.c (Zdo _ _ _ G) (.c (show 0<=(0:Int)/\(0:Int)<((2:Nat):Int)from(by decide)) .n))))))
    .subst e;apply Yc b 17 [rz,rz,rA [(7,.r (.tup [(true,Zap.c d.1),(false,cB d.2)]) [])],⟨[],[],[],[],[(2,[(6,Zav.c Zav.nil),(7,Zav.c Zav.nil)])],[],[]⟩,rA [(7,aI (0:Int))],rA [(7,aI (1:Int))],rz] [false] ⟨[100000,45],[],[],[],[],[6],[],[]⟩ (.c g (.c (ZfW _ _ _ i) (.c (Zdo _ _ _ j) (.c (show 0<=(0:Int)/\(0:Int)<((2:Nat):Int)from(by decide)) (.c (Zdo _ _ _ G) (.c (show 0<=(1:Int)/\(1:Int)<((2:Nat):Int)from(by decide)) .n))))))
   .subst e;obtain⟨U,H,b⟩:=Zae b;obtain⟨o,b⟩:=Zat b;rcases Zju o b with⟨e,b⟩|⟨e,b⟩
    .subst e;apply Yc b 17 [rz,rz,rA [(7,.r (.tup [(true,Zap.c d.1),(false,cB d.2)]) [])],⟨[],[],[],[],[(2,[(6,Zav.c Zav.nil),(7,Zav.c Zav.nil)])],[],[]⟩,rA [(7,aI (1:Int))],rA [(7,aI (0:Int))],rz] [false] ⟨[100000,45],[],[],[],[],[6],[],[]⟩ (.c g (.c (ZfW _ _ _ i) (.c (Zdo _ _ _ j) (.c (show 0<=(1:Int)/\(1:Int)<((2:Nat):Int)from(by decide)) (.c (Zdo _ _ _ H) (.c (show 0<=(0:Int)/\(0:Int)<((2:Nat):Int)from(by decide)) .n))))))
    .subst e;apply Yc b 17 [rz,rz,rA [(7,.r (.tup [(true,Zap.c d.1),(false,cB d.2)]) [])],⟨[],[],[],[],[(2,[(6,Zav.c Zav.nil),(7,Zav.c Zav.nil)])],[],[]⟩,rA [(7,aI (1:Int))],rA [(7,aI (1:Int))],rz] [false] ⟨[100000,45],[],[],[],[],[6],[],[]⟩ (.c g (.c (ZfW _ _ _ i) (.c (Zdo _ _ _ j) (.c (show 0<=(1:Int)/\(1:Int)<((2:Nat):Int)from(by decide)) (.c (Zdo _ _ _ H) (.c (show 0<=(1:Int)/\(1:Int)<((2:Nat):Int)from(by decide)) .n))))))
def Zfi:Nat->Zav->Zaw->Option Zav|0,_,_=>none|fu+1,n,h=>(match n with | .nil=>some (Zav.mk h true Zav.nil Zav.nil) | .mk b g d e=>(Zka b.fNet h.fNet).bind fun i=>bif(decide (i<b.fNet.fBits))then(Zkb (Zav.mk b g d e) (Ziy.mk h true (Zav.nil,Zav.nil)) i).bind fun o=>some o else bif(i==h.fNet.fBits)then some (Zav.mk h true d e)else(ZhP h.fNet i).bind fun j=>need (0<=j/\j<((2:Nat):Int))<|ix2 j ( (Zfi fu d h).bind fun p=>some (Zav.mk b g p e)) ( (Zfi fu e h).bind fun t=>some (Zav.mk b g d t)))
theorem ZkS:∀(h:Nat)(d:Zav)(i:Zaw)(r:Zav)(b:Zfi h d i=some r),Yo 330 [.one (Zav.c d),.agg (Zaw.c i)] (.one (Zav.c r)):=by
 intro h;induction h with
 |zero=>
  intro d i r b;simp[Zfi]at b
 |succ h t=>
  intro d i r b;refine Yv Tryz.func330 fun S0 w0=>?_;unfold Zfi at b;cases d with
  |nil=>
   dsimp only at b;apply Yb b 8 [rz,rz,⟨[],[],[],[],[(1,[(6,Zav.c Zav.nil),(7,Zav.c Zav.nil)])],[],[]⟩] [true] [12] [] [] (.c (show true=true from rfl) .n)
  |mk u v y z=>
   dsimp only at b;obtain⟨j,o,b⟩:=Zae b;obtain⟨g,b⟩|⟨g,b⟩:=Zaj b
   .obtain⟨B,D,b⟩:=Zae b;apply Ya b 15 [rz,rz,rA [(7,aI j)],rz,⟨[],[],[],[],[(2,[(6,Zav.c Zav.nil),(7,Zav.c Zav.nil)])],[],[(5,⟨[(100000,32)],[],[],.one (Zav.c B)⟩)]⟩] [false,true] (.c (show false=false from rfl) (.c (Zjw _ _ _ o) (.c g (.c (ZrX _ _ _ _ D) .n))))
   .obtain⟨p,b⟩|⟨p,b⟩:=Zaj b
    .apply Yb b 24 [rz,rz,rA [(7,aI j)],rz,rz,rz,rz,rz] [false,false,true] [6] [] [] (.c (show false=false from rfl) (.c (Zjw _ _ _ o) (.c g (.c p .n))))
    .obtain⟨J,A,b⟩:=Zae b;obtain⟨E,b⟩:=Zat b;rcases Zju E b with⟨e,b⟩|⟨e,b⟩
     .subst e;obtain⟨F,G,b⟩:=Zae b;apply Yb b 27 [rz,rz,rA [(7,aI j)],rz,rz,rz,rA [(3,aI (0:Int))],rA [(8,.r (.one (Zav.c F)) [])],rz] [false,false,false] [6] [] [] (.c (show false=false from rfl) (.c (Zjw _ _ _ o) (.c g (.c p (.c (Zdo _ _ _ A) (.c (show 0<=(0:Int)/\(0:Int)<((2:Nat):Int)from(by decide)) (.c (t _ _ _ G) (.c (show 0<=(0:Int)/\(0:Int)<((2:Nat):Int)from(by decide)) .n))))))))
     .subst e;obtain⟨H,I,b⟩:=Zae b;apply Yb b 27 [rz,rz,rA [(7,aI j)],rz,rz,rz,rA [(3,aI (1:Int))],rA [(8,.r (.one (Zav.c H)) [])],rz] [false,false,false] [6] [] [] (.c (show false=false from rfl) (.c (Zjw _ _ _ o) (.c g (.c p (.c (Zdo _ _ _ A) (.c (show 0<=(1:Int)/\(1:Int)<((2:Nat):Int)from(by decide)) (.c (t _ _ _ I) (.c (show 0<=(1:Int)/\(1:Int)<((2:Nat):Int)from(by decide)) .n))))))))
def Zfj(h:Int)(p:ZaE)(g:Zap):Option ZaE:=(match p with | .nil=>none | .mk b d e=>(Zhr g).bind fun t=>bif(!t)then some (ZaE.mk b d e)else(Zhi (ZaE.mk b d e) g).bind fun u=>bif(!u.2)then(ZgA g.fAddr).bind fun i=>need (0<=i/\i<((2:Nat):Int))<|ix2 i ( (Zfi 1000 b (Zaw.mk g h)).bind fun v=>some (ZaE.mk v d (Zar e 1))) ( (Zfi 1000 d (Zaw.mk g h)).bind fun y=>some (ZaE.mk b y (Zar e 1)))else(ZgA g.fAddr).bind fun j=>need (0<=j/\j<((2:Nat):Int))<|ix2 j ( (Zfi 1000 b (Zaw.mk g h)).bind fun n=>some (ZaE.mk n d e)) ( (Zfi 1000 d (Zaw.mk g h)).bind fun o=>some (ZaE.mk b o e)))
theorem ZkC(S0:Nat->Prop)(w0:Zba)(D:Int)(u:ZaE)(h:Zap)(r:ZaE)(b:Zfj D u h=some r):Yr 48 S0 w0 Tryz.f273 (.one (ZaE.c r)) [1,1] ⟨[(0,.one (ZaE.c u)),(2,(Yj D)),(4,.one (.ptr 4 0))],[(4,.box [.lit (.bool h.fAddr.fV6),.lit (.int .u64 h.fAddr.fHi),.lit (.int .u64 h.fAddr.fLo),.lit (.int .i64 h.fBits)])]⟩:=by
 unfold Zfj at b;cases u with
 |nil=>
  dsimp only at b;cases b
 |mk E F G=>
  dsimp only at b;obtain⟨i,j,b⟩:=Zae b;obtain⟨g,b⟩|⟨g,b⟩:=Zaj b
  .apply Yb b 8 [rz,rA [(1,aB i)],rz] [true] [7] [] [] (.c (Zdz _ _ j) (.c g .n))
  .obtain⟨d,t,b⟩:=Zae b;obtain⟨o,b⟩|⟨o,b⟩:=Zaj b
   .obtain⟨R,H,b⟩:=Zae b;obtain⟨I,b⟩:=Zat b;rcases Zju I b with⟨e,b⟩|⟨e,b⟩
    .subst e;obtain⟨J,L,b⟩:=Zae b;apply Yb b 20 [rz,rA [(1,aB i)],rA [(2,.r (.tup [(false,(cI .i64) d.1),(false,cB d.2)]) [])],rz,rz,rA [(2,aI (0:Int))],rA [(10,.r (.one (Zav.c J)) [])],rz] [false,true] [7] [] [] (.c (Zdz _ _ j) (.c g (.c (ZgB _ _ _ t) (.c o (.c (ZeS _ _ H) (.c (show 0<=(0:Int)/\(0:Int)<((2:Nat):Int)from(by decide)) (.c (ZkS 1000 _ _ _ L) (.c (show 0<=(0:Int)/\(0:Int)<((2:Nat):Int)from(by decide)) .n))))))))
    .subst e;obtain⟨M,O,b⟩:=Zae b;apply Yb b 20 [rz,rA [(1,aB i)],rA [(2,.r (.tup [(false,(cI .i64) d.1),(false,cB d.2)]) [])],rz,rz,rA [(2,aI (1:Int))],rA [(10,.r (.one (Zav.c M)) [])],rz] [false,true] [7] [] [] (.c (Zdz _ _ j) (.c g (.c (ZgB _ _ _ t) (.c o (.c (ZeS _ _ H) (.c (show 0<=(1:Int)/\(1:Int)<((2:Nat):Int)from(by decide)) (.c (ZkS 1000 _ _ _ O) (.c (show 0<=(1:Int)/\(1:Int)<((2:Nat):Int)from(by decide)) .n))))))))
   .obtain⟨U,p,b⟩:=Zae b;obtain⟨v,b⟩:=Zat b;rcases Zju v b with⟨e,b⟩|⟨e,b⟩
    .subst e;obtain⟨y,z,b⟩:=Zae b;apply Yb b 20 [rz,rA [(1,aB i)],rA [(2,.r (.tup [(false,(cI .i64) d.1),(false,cB d.2)]) [])],rz,rA [(2,aI (0:Int))],rA [(10,.r (.one (Zav.c y)) [])],rz] [false,false] [7] [] [] (.c (Zdz _ _ j) (.c g (.c (ZgB _ _ _ t) (.c o (.c (ZeS _ _ p) (.c (show 0<=(0:Int)/\(0:Int)<((2:Nat):Int)from(by decide)) (.c (ZkS 1000 _ _ _ z) (.c (show 0<=(0:Int)/\(0:Int)<((2:Nat):Int)from(by decide)) .n))))))))
    .subst e;obtain⟨A,B,b⟩:=Zae b;apply Yb b 20 [rz,rA [(1,aB i)],rA [(2,.r (.tup [(false,(cI .i64) d.1),(false,cB d.2)]) [])],rz,rA [(2,aI (1:Int))],rA [(10,.r (.one (Zav.c A)) [])],rz] [false,false] [7] [] [] (.c (Zdz _ _ j) (.c g (.c (ZgB _ _ _ t) (.c o (.c (ZeS _ _ p) (.c (show 0<=(1:Int)/\(1:Int)<((2:Nat):Int)from(by decide)) (.c (ZkS 1000 _ _ _ B) (.c (show 0<=(1:Int)/\(1:Int)<((2:Nat):Int)from(by decide)) .n))))))))
def ZeT(i:ZaE)(g:Zap)(h:Int):Option ZaE:=(match i with | .nil=>(Znz).bind fun j=>Zfj h j g | .mk b d e=>Zfj h (ZaE.mk b d e) g)
theorem ZlZ(j:ZaE)(h:Zap)(i:Int)(r:ZaE)(b:ZeT j h i=some r):Yo 273 [.one (ZaE.c j),.agg (Zap.c h),Yj i] (.one (ZaE.c r)):=by
 refine Yv Tryz.func273 fun S0 w0=>?_;unfold ZeT at b;cases j with
 |nil=>
  dsimp only at b;obtain⟨o,p,b⟩:=Zae b;exact Ye 7 [rz,rz,rA [(0,.r (.one (ZaE.c o)) [])]] [true] ⟨[],[],[],[],[],[0,2,4],[4],[]⟩ (.c (show true=true from rfl) (.c (Zrk _ p) .n)) (ZkC S0 w0 i o h r b)
 |mk d e g=>
  dsimp only at b;exact Ye 7 [rz,rz] [false] ⟨[],[],[],[],[],[0,2,4],[4],[]⟩ (.c (show false=false from rfl) .n) (ZkC S0 w0 i (ZaE.mk d e g) h r b)
def ZdA(i:Int):Nat->ZaE->(List Zag)->Int->Int->Option ZaE|0,_,_,_,_=>none|fu+1,h,e,g,b=>bif(decide (b<g))then need (0<=b/\b<(e.length:Int))<|(Zhi h ((e.getD b.toNat Zag.d).fNet)).bind fun j=>(Zox (e.getD b.toNat Zag.d) i).bind fun n=>bif n then bif(!j.2)then(ZeT h ((e.getD b.toNat Zag.d).fNet) ((e.getD b.toNat Zag.d).fUntil)).bind fun o=>ZdA i fu o e g (Zar b 1)else bif(decide (j.1<(e.getD b.toNat Zag.d).fUntil))then(ZeT h ((e.getD b.toNat Zag.d).fNet) ((e.getD b.toNat Zag.d).fUntil)).bind fun p=>ZdA i fu p e g (Zar b 1)else ZdA i fu h e g (Zar b 1)else ZdA i fu h e g (Zar b 1)else some h
theorem Zru(S0:Nat->Prop)(w0:Zba)(z:Int):∀(j:Nat)(h:ZaE)(d:List Zag)(e g:Int)(r:ZaE),ZdA z j h d e g=some r->Yr 45 S0 w0 Tryz.f200 (.one (ZaE.c r)) [1,1,0,1,0] ⟨[(1,(Yj z)),(5,.one (ZaE.c h)),(11,(Yl d)),(12,(Yj e)),(13,(Yj g))],[]⟩:=by
 intro j;induction j with
 |zero=>
  intro h d e g r b;simp[ZdA]at b
 |succ j o=>
  intro h d e g r b;unfold ZdA at b;obtain⟨t,b⟩|⟨t,b⟩:=Zaj b
  .obtain⟨E,b⟩:=Zat b;obtain⟨A,F,b⟩:=Zae b;obtain⟨u,G,b⟩:=Zae b
   let R1:List RA:=[rz,rz,rA [(3,.r (.tup [(false,(cI .i64) A.1),(false,cB A.2)]) [])]]
   have O2:Obl _:=(.c t (.c E (.c (ZgB _ _ _ F) (.c (Zvf _ _ _ G) .n))));obtain⟨i,b⟩|⟨i,b⟩:=Zaj b
   .obtain⟨p,b⟩|⟨p,b⟩:=Zaj b
    .obtain⟨B,H,b⟩:=Zae b;exact Ye 19 (R1++[⟨[(2,aB u)],[(3,true),(6,true)],[],[],[],[],[]⟩,rA [(5,.r (.one (ZaE.c B)) [])],rz]) [true,true] (Yi [1,5,11,12,13]) (O2.app (.c i (.c p (.c (show true=true from rfl) (.c (ZlZ _ _ _ _ H) .n))))) (o B d e (Zar g 1) r b)
    .let R3:List RA:=(R1++[⟨[(2,aB u)],[(3,true),(6,false)],[],[],[],[],[]⟩])
     obtain⟨v,b⟩|⟨v,b⟩:=Zaj b
     .obtain⟨D,y,b⟩:=Zae b;exact Ye 19 (R3++[rA [(5,.r (.one (ZaE.c D)) [])],rz]) [true,true] (Yi [1,5,11,12,13]) (O2.app (.c i (.c p (.c v (.c (ZlZ _ _ _ _ y) .n))))) (o D d e (Zar g 1) r b)
     .exact Ye 19 (R3++[rz]) [true,false] (Yi [1,5,11,12,13]) (O2.app (.c i (.c p (.c v .n)))) (o h d e (Zar g 1) r b)
   .exact Ye 19 (R1++[⟨[(2,aB u)],[(3,false)],[],[],[],[],[]⟩,rz]) [true,false] (Yi [1,5,11,12,13]) (O2.app (.c i (.c (show false=false from rfl) .n))) (o h d e (Zar g 1) r b)
  .apply Ya b 8 [rz,rz] [false] (.c t .n)
def Zlm(b:List Zag)(d:Int):Option ZaE:=(Znz).bind fun e=>ZdA d (((b.length:Int)-(0:Int)).toNat+2) e b (b.length:Int) (0:Int)
theorem Zui(b:List Zag)(e:Int)(r:ZaE)(d:Zlm b e=some r):Yo 200 [Yl b,Yj e] (.one (ZaE.c r)):=by
 refine Yv Tryz.func200 fun S0 w0=>?_;unfold Zlm at d;obtain⟨g,h,d⟩:=Zae d;exact Ye 8 [rz,rA [(0,.r (.one (ZaE.c g)) [])],rz] [] (Yi [1,5,11,12,13]) (.c (Zrk _ h) .n) (Zru S0 w0 e (((b.length:Int)-(0:Int)).toNat+2) g b (b.length:Int) (0:Int) r d)
def ZnT(b:Zap)(d:Zaf):Option Bool:=(Zhr b).bind fun e=>bif e then(Zfw d).bind fun g=>bif g then bif(b.fAddr.fV6==d.fV6)then(ZhI d b.fBits).bind fun h=>some (decide (h=b.fAddr))else some false else some false else some false
theorem Zkt(d:Zap)(p:Zaf)(r:Bool)(b:ZnT d p=some r):Yo 275 [.agg (Zap.c d),.agg (Zaf.c p)] (Yk r):=by
 refine Yv Tryz.func275 fun S0 w0=>?_;unfold ZnT at b;obtain⟨e,t,b⟩:=Zae b;obtain⟨h,b⟩|⟨h,b⟩:=Zaj b
 .obtain⟨i,u,b⟩:=Zae b;have O1:Obl _:=(.c (Zdz _ _ t) (.c h (.c (ZcS _ _ u) .n)));obtain⟨g,b⟩|⟨g,b⟩:=Zaj b
  .obtain⟨j,b⟩|⟨j,b⟩:=Zaj b
   .obtain⟨o,v,b⟩:=Zae b;apply Ya b 4 [rz,⟨[(1,aB e),(4,aB i),(18,aG (Zaf.c o)),(21,aB (decide (o=d.fAddr)))],[(2,true),(6,true),(14,true)],[],[],[],[],[]⟩] [] (O1.app (.c g (.c j (.c (Zqp _ _ _ v) (.c (ZkX o d.fAddr (.tmp 23) (.tmp 25)) .n)))))
   .apply Ya b 4 [rz,⟨[(1,aB e),(4,aB i)],[(2,true),(6,true),(14,false)],[],[],[],[],[]⟩] [] (O1.app (.c g (.c j .n)))
  .apply Ya b 4 [rz,⟨[(1,aB e),(4,aB i)],[(2,true),(6,false)],[],[],[],[],[]⟩] [] (O1.app (.c g .n))
 .apply Ya b 4 [rz,⟨[(1,aB e)],[(2,false)],[],[],[],[],[]⟩] [] (.c (Zdz _ _ t) (.c h .n))
def ZbK:Nat->Zav->(List Zaw)->Zaf->Option (List Zaw)|0,_,_,_=>none|fu+1,o,d,h=>(match o with | .nil=>some d | .mk b i e g=>(ZnT b.fNet h).bind fun p=>bif p then bif i then need ((d++([b]:List Zaw)).length * 40<=140737488355328/\(d++([b]:List Zaw)).length<=maxLen)<|(Zhp h b.fNet.fBits).bind fun j=>need (0<=j/\j<((2:Nat):Int))<|ix2 j ( ZbK fu e (d++([b]:List Zaw)) h) ( ZbK fu g (d++([b]:List Zaw)) h)else(Zhp h b.fNet.fBits).bind fun n=>need (0<=n/\n<((2:Nat):Int))<|ix2 n ( ZbK fu e d h) ( ZbK fu g d h)else some d)
theorem Zkc(S0:Nat->Prop)(w0:Zba):∀(D:Nat)(v:Zav)(h:List Zaw)(o:Zaf)(r:List Zaw),ZbK D v h o=some r->Ys 57 S0 w0 Tryz.f201 [(99999,.rows 263 5 r.length (Zam Zaw.c Zaw.d r))] (.one (.osl 99999 r.length)) [1,1,1,1,0,0] ⟨[(3,.one (.ptr 3 0)),(5,.one (.osl 5 h.length)),(6,.one (Zav.c v))],[(5,.rows 263 5 h.length (Zam Zaw.c Zaw.d h)),(3,.box [.lit (.bool o.fV6),.lit (.int .u64 o.fHi),.lit (.int .u64 o.fLo)])]⟩:=by
 intro D;induction D with
 |zero=>
  intro v h o r g;simp[ZbK]at g
 |succ D E=>
  intro v h o r g;unfold ZbK at g;cases v with
  |nil=>
   dsimp only at g;apply Yc g 8 [rz,rz] [false] ⟨[],[],[],[],[],[4],[5],[(5,99999)]⟩ (.c (show false=false from rfl) .n)
  |mk b I p t=>
   dsimp only at g;obtain⟨y,z,g⟩:=Zae g;obtain⟨u,g⟩|⟨u,g⟩:=Zaj g
   .obtain⟨A,g⟩|⟨A,g⟩:=Zaj g
    .obtain⟨F,g⟩:=Zat g;obtain⟨L,J,g⟩:=Zae g;obtain⟨G,g⟩:=Zat g;rcases Zju G g with⟨e,g⟩|⟨e,g⟩
     .subst e;exact Ye 15 [rA [(9,aB y)],rz,⟨[(6,.c ((h++([b]:List Zaw)).length) (Zam Zaw.c Zaw.d (h++([b]:List Zaw))))],[],[],[],[],[(5,(([b]:List Zaw).length,Zam Zaw.c Zaw.d ([b]:List Zaw)))],[]⟩,rA [(8,aI (0:Int))]] [true,true] ⟨[],[],[],[],[],[3,5,6],[42,3],[(42,5)]⟩ (.c (Zkt _ _ _ z) (.c u (.c A (.c (show ([b]:List Zaw).length=1/\∀i j,i<1->j<5->Zam Zaw.c Zaw.d ([b]:List Zaw) i j=(([b]:List Zaw).flatMap Zaw.c).getD (i * 5+j) .junk from⟨rfl,fun i j hi hj=>Zbh (sz:=5) (e:=Zaw.c) (d:=Zaw.d) (fun _=>rfl) ([b]:List Zaw) i j hi hj⟩) (.c (Zgn (sz:=5) (e:=Zaw.c) (d:=Zaw.d) h ([b]:List Zaw)) (.c F.1 (.c F.2 (.c (Zkx _ _ _ J) (.c (show 0<=(0:Int)/\(0:Int)<((2:Nat):Int)from(by decide)) .n))))))))) (E p (h++([b]:List Zaw)) o r g)
     .subst e;exact Ye 15 [rA [(9,aB y)],rz,⟨[(6,.c ((h++([b]:List Zaw)).length) (Zam Zaw.c Zaw.d (h++([b]:List Zaw))))],[],[],[],[],[(5,(([b]:List Zaw).length,Zam Zaw.c Zaw.d ([b]:List Zaw)))],[]⟩,rA [(8,aI (1:Int))]] [true,true] ⟨[],[],[],[],[],[3,5,6],[42,3],[(42,5)]⟩ (.c (Zkt _ _ _ z) (.c u (.c A (.c (show ([b]:List Zaw).length=1/\∀i j,i<1->j<5->Zam Zaw.c Zaw.d ([b]:List Zaw) i j=(([b]:List Zaw).flatMap Zaw.c).getD (i * 5+j) .junk from⟨rfl,fun i j hi hj=>Zbh (sz:=5) (e:=Zaw.c) (d:=Zaw.d) (fun _=>rfl) ([b]:List Zaw) i j hi hj⟩) (.c (Zgn (sz:=5) (e:=Zaw.c) (d:=Zaw.d) h ([b]:List Zaw)) (.c F.1 (.c F.2 (.c (Zkx _ _ _ J) (.c (show 0<=(1:Int)/\(1:Int)<((2:Nat):Int)from(by decide)) .n))))))))) (E t (h++([b]:List Zaw)) o r g)
    .obtain⟨M,B,g⟩:=Zae g;obtain⟨H,g⟩:=Zat g;rcases Zju H g with⟨e,g⟩|⟨e,g⟩
     .subst e;exact Ye 15 [rA [(9,aB y)],rz,rA [(8,aI (0:Int))]] [true,false] ⟨[],[],[],[],[],[3,5,6],[5,3],[]⟩ (.c (Zkt _ _ _ z) (.c u (.c A (.c (Zkx _ _ _ B) (.c (show 0<=(0:Int)/\(0:Int)<((2:Nat):Int)from(by decide)) .n))))) (E p h o r g)
     .subst e;exact Ye 15 [rA [(9,aB y)],rz,rA [(8,aI (1:Int))]] [true,false] ⟨[],[],[],[],[],[3,5,6],[5,3],[]⟩ (.c (Zkt _ _ _ z) (.c u (.c A (.c (Zkx _ _ _ B) (.c (show 0<=(1:Int)/\(1:Int)<((2:Nat):Int)from(by decide)) .n))))) (E t h o r g)
   .apply Yc g 8 [rA [(9,aB y)],rz] [false] ⟨[],[],[],[],[],[4],[5],[(5,99999)]⟩ (.c (Zkt _ _ _ z) (.c u .n))
def ZfX(i:ZaE)(e:Zaf):Option (List Zaw):=(match i with | .nil=>some ([]:List Zaw) | .mk b d h=>(Zfw e).bind fun j=>bif(!j)then some ([]:List Zaw)else(ZgA e).bind fun g=>need (0<=g/\g<((2:Nat):Int))<|ix2 g ( ZbK 1000000 b ([]) e) ( ZbK 1000000 d ([]) e))
theorem Zph(o:ZaE)(i:Zaf)(r:List Zaw)(b:ZfX o i=some r):Yp 201 [] [.one (ZaE.c o),.agg (Zaf.c i)] [(99999,.rows 263 5 r.length (Zam Zaw.c Zaw.d r))] (.one (.osl 99999 r.length)):=by
 refine Yw Tryz.func201 fun S0 w0=>?_;unfold ZfX at b;cases o with
 |nil=>
  dsimp only at b;apply Yc b 8 [rz,rz,rz] [true] ⟨[],[],[],[],[(4,99999,263,5,Zam Zaw.c Zaw.d [])],[4],[99999],[]⟩ (.c (show true=true from rfl) .n)
 |mk g h u=>
  dsimp only at b;obtain⟨p,t,b⟩:=Zae b;obtain⟨j,b⟩|⟨j,b⟩:=Zaj b
  .apply Yc b 8 [rz,rA [(4,aB p)],rz] [true] ⟨[],[],[],[],[(4,99999,263,5,Zam Zaw.c Zaw.d [])],[4],[99999],[]⟩ (.c (ZcS _ _ t) (.c j .n))
  .obtain⟨z,v,b⟩:=Zae b;obtain⟨y,b⟩:=Zat b;rcases Zju y b with⟨e,b⟩|⟨e,b⟩
   .subst e;exact Ye 13 [rz,rA [(4,aB p)],rz,rA [(2,aI (0:Int))]] [false] ⟨[],[],[],[],[(5,5,263,5,Zam Zaw.c Zaw.d [])],[3,5,6],[5,3],[]⟩ (.c (ZcS _ _ t) (.c j (.c (ZeS _ _ v) (.c (show 0<=(0:Int)/\(0:Int)<((2:Nat):Int)from(by decide)) .n)))) (Zkc S0 w0 1000000 g ([]) i r b)
   .subst e;exact Ye 13 [rz,rA [(4,aB p)],rz,rA [(2,aI (1:Int))]] [false] ⟨[],[],[],[],[(5,5,263,5,Zam Zaw.c Zaw.d [])],[3,5,6],[5,3],[]⟩ (.c (ZcS _ _ t) (.c j (.c (ZeS _ _ v) (.c (show 0<=(1:Int)/\(1:Int)<((2:Nat):Int)from(by decide)) .n)))) (Zkc S0 w0 1000000 h ([]) i r b)
theorem ZpX(b:ZaE)(e:Zaf)(r:List Zaw)(g:ZfX b e=some r):Yo 201 [.one (ZaE.c b),.agg (Zaf.c e)] (.one (cL 5 Zaw.c Zaw.d r)):=(Zph b e r g).pure
def Zgl:Nat->Int->(List Zaw)->Int->Int->Option Int|0,_,_,_,_=>none|fu+1,h,e,g,b=>bif(decide (b<g))then need (0<=b/\b<(e.length:Int))<|Zgl fu (if(e.getD b.toNat Zaw.d).fV>h then(e.getD b.toNat Zaw.d).fV else h) e g (Zar b 1)else some h
theorem Zrv(S0:Nat->Prop)(w0:Zba):∀(j:Nat)(i:Int)(b:List Zaw)(g e r:Int),Zgl j i b g e=some r->Yr 35 S0 w0 Tryz.f128 (Yj r) [1,1,1,1,0,1,0] ⟨[(8,(Yj i)),(23,.one (cL 5 Zaw.c Zaw.d b)),(24,(Yj g)),(25,(Yj e))],[]⟩:=by
 intro j;induction j with
 |zero=>
  intro i b g e r h;simp[Zgl]at h
 |succ j p=>
  intro i b g e r h;unfold Zgl at h;obtain⟨o,h⟩|⟨o,h⟩:=Zaj h
  .obtain⟨t,h⟩:=Zat h;exact Ye 14 [rz,rz,rz,rz] [true] (Yi [8,23,24,25]) (.c o (.c t .n)) (p (if(b.getD e.toNat Zaw.d).fV>i then(b.getD e.toNat Zaw.d).fV else i) b g (Zar e 1) r h)
  .apply Ya h 8 [rz,rz] [false] (.c o .n)
def Ziv(e:List Zag)(g:Zaf)(h:Int):Option Int:=(Zlm e h).bind fun i=>(ZfX i g).bind fun b=>bif((b.length:Int)==(0:Int))then some (0:Int)else need (0<=(0:Int)/\(0:Int)<(b.length:Int))<|Zgl (((b.length:Int)-(0:Int)).toNat+2) ((b.getD (0:Int).toNat Zaw.d).fV) b (b.length:Int) (0:Int)
theorem Zuj(h:List Zag)(i:Zaf)(j r:Int)(b:Ziv h i j=some r):Yo 128 [Yl h,.agg (Zaf.c i),Yj j] (Yj r):=by
 refine Yv Tryz.func128 fun S0 w0=>?_;unfold Ziv at b;obtain⟨o,p,b⟩:=Zae b;obtain⟨e,t,b⟩:=Zae b
 let R1:List RA:=[rz,rA [(2,.r (.one (ZaE.c o)) []),(4,.r (.one (cL 5 Zaw.c Zaw.d e)) [])],rz,rz]
 have O2:Obl _:=(.c (Zui _ _ _ p) (.c (ZpX _ _ _ t) .n));obtain⟨g,b⟩|⟨g,b⟩:=Zaj b
 .apply Ya b 10 R1 [true] (O2.app (.c g .n))
 .obtain⟨u,b⟩:=Zat b;exact Ye 15 (R1++[rz]) [false] (Yi [8,23,24,25]) (O2.app (.c g (.c u .n))) (Zrv S0 w0 (((e.length:Int)-(0:Int)).toNat+2) ((e.getD (0:Int).toNat Zaw.d).fV) e (e.length:Int) (0:Int) r b)
def Zgy(g:Zaq)(h:Int)(i:Bool):Option (Tout Unit):=(Zcj g (Zas.mk 4 h (Zan.mk 0 0 0) 0 0 (Zac.mk 0 (Zaa.mk (Zah.mk (Zaf.mk false 0 0) 0) false 0 (Zau.mk 0 0) 0 0) ([]:(List Zag)) ([]:(List Zad))) i)).bind fun j=>(match j with | .ret n b=>some (Tout.ret () b) | .pan d=>some (Tout.pan d) | .bad e=>some (Tout.bad e))
theorem ZeL(i:Zaq)(j:Int)(o:Bool)(r:(Tout Unit))(b:Zgy i j o=some r):Yq 423 [(100000,.box (Zaq.c i))] [.one (.ptr 100000 0),Yj j,Yk o] (oc (fun x=>.tup []) r):=by
 refine ZhO.of Tryz.func423 rfl rfl rfl rfl fun S0 w0=>?_;unfold Zgy at b;obtain⟨p,e,b⟩:=Zae b;cases p with
 |ret g h=>
  dsimp only at b;obtain rfl:=oi b;exact Yd 1 [⟨[],[],[],[],[(3,[(18,cL 5 Zag.c Zag.d []),(19,cL 7 Zad.c Zad.d [])])],[],[(4,⟨[(100000,100000)],[],[(100000,.box (Zaq.c h))],.agg (Zac.c g)⟩)]⟩] [] ⟨[],[],[],[],[],[],[100000],[]⟩ (.c (ZbB _ _ _ e) .n)
 |_=>
  dsimp only at b;obtain rfl:=oi b;exact Yh 0 [] [] (⟨[],[],[],[],[(3,[(18,cL 5 Zag.c Zag.d []),(19,cL 7 Zad.c Zad.d [])])],[],[]⟩) 4 ⟨[(100000,100000)],pvOf e⟩ (.c (ZbB _ _ _ e) .n)
def Zmm(b:Zaf):Option Zap:=(ZdT b).bind fun d=>(ZfD b d).bind fun e=>some e.1
theorem Zvd(d:Zaf)(r:Zap)(b:Zmm d=some r):Yo 238 [.agg (Zaf.c d)] (.agg (Zap.c r)):=by
 refine Yv Tryz.func238 fun S0 w0=>?_;unfold Zmm at b;obtain⟨g,e,h,i,b⟩:=Yu b;apply Ya b 6 [rz,rA [(2,aI g),(3,.r (.tup [(true,Zap.c e.1),(false,cB e.2)]) [])],rz] [] (.c (ZgU _ _ h) (.c (ZfW _ _ _ i) .n))
def Zme(b:Int):Option Int:=some (IntKind.wrap .u64 (((BitVec.ofInt (IntKind.bits .u64) (IntKind.wrap .u64 ((IntKind.wrap .u64 (((BitVec.ofInt (IntKind.bits .u64) (IntKind.wrap .u64 ((IntKind.wrap .u64 (((BitVec.ofInt (IntKind.bits .u64) b) ^^^ (BitVec.ofInt (IntKind.bits .u64) (Int.fdiv b (2 ^ (min (30:Int).toNat (IntKind.bits .u64)))))).toNat:Int))*(13787848793156543929:Int)))) ^^^ (BitVec.ofInt (IntKind.bits .u64) (Int.fdiv (IntKind.wrap .u64 ((IntKind.wrap .u64 (((BitVec.ofInt (IntKind.bits .u64) b) ^^^ (BitVec.ofInt (IntKind.bits .u64) (Int.fdiv b (2 ^ (min (30:Int).toNat (IntKind.bits .u64)))))).toNat:Int))*(13787848793156543929:Int))) (2 ^ (min (27:Int).toNat (IntKind.bits .u64)))))).toNat:Int))*(10723151780598845931:Int)))) ^^^ (BitVec.ofInt (IntKind.bits .u64) (Int.fdiv (IntKind.wrap .u64 ((IntKind.wrap .u64 (((BitVec.ofInt (IntKind.bits .u64) (IntKind.wrap .u64 ((IntKind.wrap .u64 (((BitVec.ofInt (IntKind.bits .u64) b) ^^^ (BitVec.ofInt (IntKind.bits .u64) (Int.fdiv b (2 ^ (min (30:Int).toNat (IntKind.bits .u64)))))).toNat:Int))*(13787848793156543929:Int)))) ^^^ (BitVec.ofInt (IntKind.bits .u64) (Int.fdiv (IntKind.wrap .u64 ((IntKind.wrap .u64 (((BitVec.ofInt (IntKind.bits .u64) b) ^^^ (BitVec.ofInt (IntKind.bits .u64) (Int.fdiv b (2 ^ (min (30:Int).toNat (IntKind.bits .u64)))))).toNat:Int))*(13787848793156543929:Int))) (2 ^ (min (27:Int).toNat (IntKind.bits .u64)))))).toNat:Int))*(10723151780598845931:Int))) (2 ^ (min (31:Int).toNat (IntKind.bits .u64)))))).toNat:Int))
theorem Zpj(b r:Int)(d:Zme b=some r):Yo 390 [.one (.lit (.int .u64 b))] (.one (.lit (.int .u64 r))):=by
 refine Yv Tryz.func390 fun S0 w0=>?_;unfold Zme at d;apply Ya d 8 [rz,rz,rz,rz] [] (.c (show 0<=(30:Int)from(by decide)) (.c (show 0<=(27:Int)from(by decide)) (.c (show 0<=(31:Int)from(by decide)) .n)))
def Zep(d b:Int):Option Int:=need (0<=(IntKind.wrap .u64 (((BitVec.ofInt (IntKind.bits .u64) (IntKind.wrap .u64 b)) &&& (BitVec.ofInt (IntKind.bits .u64) (63:Int))).toNat:Int)))<|need (0<=(IntKind.wrap .u64 ((64:Int)-(IntKind.wrap .u64 (((BitVec.ofInt (IntKind.bits .u64) (IntKind.wrap .u64 b)) &&& (BitVec.ofInt (IntKind.bits .u64) (63:Int))).toNat:Int)))))<|some (IntKind.wrap .u64 (((BitVec.ofInt (IntKind.bits .u64) (IntKind.wrap .u64 (d * 2 ^ (min (IntKind.wrap .u64 (((BitVec.ofInt (IntKind.bits .u64) (IntKind.wrap .u64 b)) &&& (BitVec.ofInt (IntKind.bits .u64) (63:Int))).toNat:Int)).toNat (IntKind.bits .u64))))) ||| (BitVec.ofInt (IntKind.bits .u64) (Int.fdiv d (2 ^ (min (IntKind.wrap .u64 ((64:Int)-(IntKind.wrap .u64 (((BitVec.ofInt (IntKind.bits .u64) (IntKind.wrap .u64 b)) &&& (BitVec.ofInt (IntKind.bits .u64) (63:Int))).toNat:Int)))).toNat (IntKind.bits .u64)))))).toNat:Int))
theorem Zmh(d e r:Int)(b:Zep d e=some r):Yo 391 [.one (.lit (.int .u64 d)),Yj e] (.one (.lit (.int .u64 r))):=by
 refine Yv Tryz.func391 fun S0 w0=>?_;unfold Zep at b;obtain⟨o1,o2,b⟩:=Yt b;apply Ya b 6 [rz,rz,rz] [] (.c o1 (.c o2 .n))
def ZjE:Nat->Int->(List Int)->Int->Int->Option Int|0,_,_,_,_=>none|fu+1,g,d,e,b=>bif(decide (b<e))then need (0<=b/\b<(d.length:Int))<|(Zep g (7:Int)).bind fun h=>(Zme (IntKind.wrap .u64 ((d.getD b.toNat (0:Int))+(11400714819323198485:Int)))).bind fun i=>(Zme (IntKind.wrap .u64 (((BitVec.ofInt (IntKind.bits .u64) h) ^^^ (BitVec.ofInt (IntKind.bits .u64) i)).toNat:Int))).bind fun j=>ZjE fu j d e (Zar b 1)else some g
theorem Zvb(S0:Nat->Prop)(w0:Zba):∀(h:Nat)(i:Int)(d:List Int)(e g r:Int),ZjE h i d e g=some r->Yr 26 S0 w0 Tryz.f364 (.one (.lit (.int .u64 r))) [1,1,0,1,0] ⟨[(5,.one (.lit (.int .u64 i))),(11,.one (cL 1 (cI .u64) (0:Int) d)),(12,(Yj e)),(13,(Yj g))],[]⟩:=by
 intro h;induction h with
 |zero=>
  intro i d e g r b;simp[ZjE]at b
 |succ h p=>
  intro i d e g r b;unfold ZjE at b;obtain⟨j,b⟩|⟨j,b⟩:=Zaj b
  .obtain⟨t,b⟩:=Zat b;obtain⟨u,v,y,z,b⟩:=Yu b;obtain⟨o,A,b⟩:=Zae b;exact Ye 14 [rz,rz,rA [(1,.r (.one (.lit (.int .u64 u))) []),(4,.r (.one (.lit (.int .u64 v))) []),(6,.r (.one (.lit (.int .u64 o))) [])],rz] [true] (Yi [5,11,12,13]) (.c j (.c t (.c (Zmh _ _ _ y) (.c (Zpj _ _ z) (.c (Zpj _ _ A) .n))))) (p o d e (Zar g 1) r b)
  .apply Ya b 8 [rz,rz] [false] (.c j .n)
def ZpQ(d:Int)(b:List Int):Option Int:=(Zme (IntKind.wrap .u64 (d+(11400714819323198485:Int)))).bind fun e=>ZjE (((b.length:Int)-(0:Int)).toNat+2) e b (b.length:Int) (0:Int)
theorem Zua(e:Int)(b:List Int)(r:Int)(d:ZpQ e b=some r):Yo 364 [.one (.lit (.int .u64 e)),.one (cL 1 (cI .u64) (0:Int) b)] (.one (.lit (.int .u64 r))):=by
 refine Yv Tryz.func364 fun S0 w0=>?_;unfold ZpQ at d;obtain⟨g,h,d⟩:=Zae d;exact Ye 8 [rz,rA [(2,.r (.one (.lit (.int .u64 g))) [])],rz] [] (Yi [5,11,12,13]) (.c (Zpj _ _ h) .n) (Zvb S0 w0 (((b.length:Int)-(0:Int)).toNat+2) g b (b.length:Int) (0:Int) r d)
def Zmf(d:Int)(b:Zap):Option Int:=bif b.fAddr.fV6 then(ZpQ d ([(6:Int),b.fAddr.fHi,b.fAddr.fLo,(IntKind.wrap .u64 b.fBits)]:List Int)).bind fun e=>some e else(ZpQ d ([(4:Int),b.fAddr.fHi,b.fAddr.fLo,(IntKind.wrap .u64 b.fBits)]:List Int)).bind fun g=>some g
theorem Zss(o:Int)(b:Zap)(r:Int)(g:Zmf o b=some r):Yo 332 [.one (.lit (.int .u64 o)),.agg (Zap.c b)] (.one (.lit (.int .u64 r))):=by
 refine Yv Tryz.func332 fun S0 w0=>?_;unfold Zmf at g;obtain⟨h,g⟩|⟨h,g⟩:=Zaj g
 .obtain⟨p,t,g⟩:=Zae g;apply Ya g 11 [rz,rz,rz,rz,⟨[(12,.r (.one (.lit (.int .u64 p))) [])],[],[],[],[],[(11,(([(6:Int),b.fAddr.fHi,b.fAddr.fLo,(IntKind.wrap .u64 b.fBits)]:List Int).length,Zam (cI .u64) (0:Int) ([(6:Int),b.fAddr.fHi,b.fAddr.fLo,(IntKind.wrap .u64 b.fBits)]:List Int)))],[]⟩] [true] (.c h (.c (show ([(6:Int),b.fAddr.fHi,b.fAddr.fLo,(IntKind.wrap .u64 b.fBits)]:List Int).length=4/\∀i j,i<4->j<1->Zam (cI .u64) (0:Int) ([(6:Int),b.fAddr.fHi,b.fAddr.fLo,(IntKind.wrap .u64 b.fBits)]:List Int) i j=(([(6:Int),b.fAddr.fHi,b.fAddr.fLo,(IntKind.wrap .u64 b.fBits)]:List Int).flatMap (cI .u64)).getD (i * 1+j) .junk from⟨rfl,fun i j hi hj=>Zbh (sz:=1) (e:=(cI .u64)) (d:=(0:Int)) (fun _=>rfl) ([(6:Int),b.fAddr.fHi,b.fAddr.fLo,(IntKind.wrap .u64 b.fBits)]:List Int) i j hi hj⟩) (.c (Zua _ _ _ t) .n)))
 .obtain⟨u,v,g⟩:=Zae g;apply Ya g 11 [rz,rz,rz,⟨[(12,.r (.one (.lit (.int .u64 u))) [])],[],[],[],[],[(11,(([(4:Int),b.fAddr.fHi,b.fAddr.fLo,(IntKind.wrap .u64 b.fBits)]:List Int).length,Zam (cI .u64) (0:Int) ([(4:Int),b.fAddr.fHi,b.fAddr.fLo,(IntKind.wrap .u64 b.fBits)]:List Int)))],[]⟩] [false] (.c h (.c (show ([(4:Int),b.fAddr.fHi,b.fAddr.fLo,(IntKind.wrap .u64 b.fBits)]:List Int).length=4/\∀i j,i<4->j<1->Zam (cI .u64) (0:Int) ([(4:Int),b.fAddr.fHi,b.fAddr.fLo,(IntKind.wrap .u64 b.fBits)]:List Int) i j=(([(4:Int),b.fAddr.fHi,b.fAddr.fLo,(IntKind.wrap .u64 b.fBits)]:List Int).flatMap (cI .u64)).getD (i * 1+j) .junk from⟨rfl,fun i j hi hj=>Zbh (sz:=1) (e:=(cI .u64)) (d:=(0:Int)) (fun _=>rfl) ([(4:Int),b.fAddr.fHi,b.fAddr.fLo,(IntKind.wrap .u64 b.fBits)]:List Int) i j hi hj⟩) (.c (Zua _ _ _ v) .n)))
def Zkf(b:Int):Option Int:=some (if(8:Int)<(if(1:Int)>b then(1:Int)else b)then(8:Int)else(if(1:Int)>b then(1:Int)else b))
theorem ZsE(b r:Int)(d:Zkf b=some r):Yo 333 [Yj b] (Yj r):=by
 refine Yv Tryz.func333 fun S0 w0=>?_;unfold Zkf at d;apply Ya d 4 [rz,rz] [] .n
def Zmg(d b:Int):Option Int:=bif(decide (b<(1:Int)))then some (0:Int)else bif(decide (b>(2147483648:Int)))then some (0:Int)else some (IntKind.wrap .i64 (Int.fdiv (IntKind.wrap .u64 ((Int.fdiv d (2 ^ (min (32:Int).toNat (IntKind.bits .u64))))*(IntKind.wrap .u64 b))) (2 ^ (min (32:Int).toNat (IntKind.bits .u64)))))
theorem Zvc(g h r:Int)(b:Zmg g h=some r):Yo 331 [.one (.lit (.int .u64 g)),Yj h] (Yj r):=by
 refine Yv Tryz.func331 fun S0 w0=>?_;unfold Zmg at b;obtain⟨d,b⟩|⟨d,b⟩:=Zaj b
 .apply Ya b 8 [rz,rB [(2,true)],rz] [true] (.c d (.c (show true=true from rfl) .n))
 .obtain⟨e,b⟩|⟨e,b⟩:=Zaj b
  .apply Ya b 8 [rz,rB [(2,false)],rz] [true] (.c d (.c e .n))
  .apply Ya b 9 [rz,rB [(2,false)],rz] [false] (.c d (.c e (.c (show 0<=(32:Int)from(by decide)) (.c (show 0<=(32:Int)from(by decide)) .n))))
def ZkL(b:Zaf)(d e:Int):Option Int:=(Zmm b).bind fun g=>(Zmf d g).bind fun h=>(Zkf e).bind fun i=>(Zmg h i).bind fun j=>some j
theorem ZwS(d:Zaf)(e g r:Int)(b:ZkL d e g=some r):Yo 277 [.agg (Zaf.c d),.one (.lit (.int .u64 e)),Yj g] (Yj r):=by
 refine Yv Tryz.func277 fun S0 w0=>?_;unfold ZkL at b;obtain⟨h,i,j,o,b⟩:=Yu b;obtain⟨p,t,u,v,b⟩:=Yu b;apply Ya b 4 [rz,rA [(2,aG (Zap.c h)),(3,.r (.one (.lit (.int .u64 i))) []),(5,aI p),(6,aI t)]] [] (.c (Zvd _ _ j) (.c (Zss _ _ _ o) (.c (ZsE _ _ u) (.c (Zvc _ _ _ v) .n))))
def Zgc(b:Zbg):Option Int:=(ZkL b.fx.fEnd.fAddr b.fc.fSecret b.fc.fShards).bind fun d=>some d
theorem Zja(d:Zbg)(r:Int)(b:Zgc d=some r):Yo 202 [.agg (Zbg.c d)] (Yj r):=by
 refine Yv Tryz.func202 fun S0 w0=>?_;unfold Zgc at b;obtain⟨e,g,b⟩:=Zae b;apply Ya b 4 [rz,rA [(10,aI e)]] [] (.c (ZwS _ _ _ _ g) .n)
def ZfC(g:Zaq)(h:Int)(i:Bool):Option (Tout Unit):=(Zcj g (Zas.mk 1 h (Zan.mk 0 0 0) 0 0 (Zac.mk 0 (Zaa.mk (Zah.mk (Zaf.mk false 0 0) 0) false 0 (Zau.mk 0 0) 0 0) ([]:(List Zag)) ([]:(List Zad))) i)).bind fun j=>(match j with | .ret n b=>some (Tout.ret () b) | .pan d=>some (Tout.pan d) | .bad e=>some (Tout.bad e))
theorem Zhb(i:Zaq)(j:Int)(o:Bool)(r:(Tout Unit))(b:ZfC i j o=some r):Yq 426 [(100000,.box (Zaq.c i))] [.one (.ptr 100000 0),Yj j,Yk o] (oc (fun x=>.tup []) r):=by
 refine ZhO.of Tryz.func426 rfl rfl rfl rfl fun S0 w0=>?_;unfold ZfC at b;obtain⟨p,e,b⟩:=Zae b;cases p with
 |ret g h=>
  dsimp only at b;obtain rfl:=oi b;exact Yd 1 [⟨[],[],[],[],[(3,[(18,cL 5 Zag.c Zag.d []),(19,cL 7 Zad.c Zad.d [])])],[],[(4,⟨[(100000,100000)],[],[(100000,.box (Zaq.c h))],.agg (Zac.c g)⟩)]⟩] [] ⟨[],[],[],[],[],[],[100000],[]⟩ (.c (ZbB _ _ _ e) .n)
 |_=>
  dsimp only at b;obtain rfl:=oi b;exact Yh 0 [] [] (⟨[],[],[],[],[(3,[(18,cL 5 Zag.c Zag.d []),(19,cL 7 Zad.c Zad.d [])])],[],[]⟩) 4 ⟨[(100000,100000)],pvOf e⟩ (.c (ZbB _ _ _ e) .n)
def Zig(b:Int):Option Zan:=some (Zan.mk 5 b 0)
theorem Zqn(b:Int)(r:Zan)(d:Zig b=some r):Yo 278 [Yj b] (.agg (Zan.c r)):=by
 refine Yv Tryz.func278 fun S0 w0=>?_;unfold Zig at d;apply Ya d 4 [rz,rz] [] .n
def Zif(b d:Int):Option Zan:=some (Zan.mk 6 b d)
theorem Zqm(b d:Int)(r:Zan)(e:Zif b d=some r):Yo 279 [Yj b,Yj d] (.agg (Zan.c r)):=by
 refine Yv Tryz.func279 fun S0 w0=>?_;unfold Zif at e;apply Ya e 4 [rz,rz] [] .n
def Zeu(o:Int):Nat->Int->Int->(List Zaa)->Zaq->Option (Tout (List Zaa))|0,_,_,_,_=>none|fu+1,g,d,h,b=>bif(decide (d<g))then(Zif o d).bind fun p=>(Zeg b p false).bind fun t=>(match t with | .ret e i=>need ((h++([e.fPeer]:List Zaa)).length * 80<=140737488355328/\(h++([e.fPeer]:List Zaa)).length<=maxLen)<|Zeu o fu g (Zar d 1) (h++([e.fPeer]:List Zaa)) i | .pan j=>some (Tout.pan j) | .bad n=>some (Tout.bad n))else some (Tout.ret h b)
theorem ZrY(S0:Nat->Prop)(w0:Zba)(A:Int):∀(v:Nat)(o p:Int)(t:List Zaa)(b:Zaq)(r:(Tout (List Zaa))),Zeu A v o p t b=some r->Good Tryz.prog 33 S0 w0 (bodyPost Tryz.prog Tryz.f203 (ZmG S0 w0 (oc (fun x=>(Ym x)) r))) (at_ [1,1,0,1,0] (ZaS Tryz.f203)) ⟨[(0,.one (.ifc 140 (.ptr 100000 0))),(1,(Yj A)),(5,.one (.osl 5 t.length)),(15,(Yj o)),(16,(Yj p))],[(5,.rows 44 10 t.length (Zam Zaa.c Zaa.d t)),(100000,.box [cLn 13 Zac.c Zac.d b.fgot])]⟩:=by
 intro v;induction v with
 |zero=>
  intro o p t b r h;simp[Zeu]at h
 |succ v E=>
  intro o p t b r h;unfold Zeu at h;obtain⟨y,h⟩|⟨y,h⟩:=Zaj h
  .obtain⟨B,F,h⟩:=Zae h;have O1:Obl _:=(.c y (.c (Zqm _ _ _ F) (.c ZvI .n)));obtain⟨G,z,h⟩:=Zae h;cases G with
   |ret g u=>
    dsimp only at h;obtain⟨D,h⟩:=Zat h;exact Ye 14 [rz,rz,⟨[(4,aG (Zan.c B)),(8,.id 425),(11,.c ((t++([g.fPeer]:List Zaa)).length) (Zam Zaa.c Zaa.d (t++([g.fPeer]:List Zaa))))],[],[],[],[],[(10,(([g.fPeer]:List Zaa).length,Zam Zaa.c Zaa.d ([g.fPeer]:List Zaa)))],[(8,⟨[(100000,100000)],[],[(100000,.box (Zaq.c u))],.agg (Zac.c g)⟩)]⟩,rz] [true] ⟨[],[],[],[],[],[0,1,5,15,16],[30,100000],[(30,5)]⟩ (O1.app (.c (Zdk _ _ _ _ z) (.c Zlc (.c (show ([g.fPeer]:List Zaa).length=1/\∀i j,i<1->j<10->Zam Zaa.c Zaa.d ([g.fPeer]:List Zaa) i j=(([g.fPeer]:List Zaa).flatMap Zaa.c).getD (i * 10+j) .junk from⟨rfl,fun i j hi hj=>Zbh (sz:=10) (e:=Zaa.c) (d:=Zaa.d) (fun _=>rfl) ([g.fPeer]:List Zaa) i j hi hj⟩) (.c (Zgn (sz:=10) (e:=Zaa.c) (d:=Zaa.d) t ([g.fPeer]:List Zaa)) (.c D.1 (.c D.2 .n))))))) (E o (Zar p 1) (t++([g.fPeer]:List Zaa)) u r h)
   |_=>
    dsimp only at h;obtain rfl:=oi h;exact Yh 10 [rz,rz] [true] (rA [(4,aG (Zan.c B)),(8,.id 425)]) 8 ⟨[(100000,100000)],pvOf z⟩ (O1.app (.c (Zdk _ _ _ _ z) (.c Zlc .n)))
  .obtain rfl:=oi h;exact Yd 8 [rz,rz] [false] ⟨[5],[],[],[],[],[4],[100000],[]⟩ (.c y .n)
def Zii(i:Zaq)(h:Int):Option (Tout (List Zaa)):=(Zig h).bind fun j=>(Zeg i j false).bind fun n=>(match n with | .ret b d=>Zeu h (((if(0:Int)>b.fN then(0:Int)else b.fN)-(0:Int)).toNat+2) (if(0:Int)>b.fN then(0:Int)else b.fN) (0:Int) ([]) d | .pan e=>some (Tout.pan e) | .bad g=>some (Tout.bad g))
theorem Zkd(j:Zaq)(h:Int)(r:(Tout (List Zaa)))(e:Zii j h=some r):Yq 203 [(100000,.box (Zaq.c j))] [.one (.ifc 140 (.ptr 100000 0)),Yj h] (oc (fun x=>(Ym x)) r):=by
 refine ZhO.of Tryz.func203 rfl rfl rfl rfl fun S0 w0=>?_;unfold Zii at e;obtain⟨o,p,e⟩:=Zae e;have O2:Obl _:=(.c (Zqn _ _ p) (.c ZvI .n));obtain⟨t,i,e⟩:=Zae e;cases t with
 |ret b g=>
  dsimp only at e;exact Ye 8 [rz,rz,rH [(2,aG (Zan.c o)),(6,.id 425)] [(6,⟨[(100000,100000)],[],[(100000,.box (Zaq.c g))],.agg (Zac.c b)⟩)]] [] ⟨[],[],[],[],[(5,5,44,10,Zam Zaa.c Zaa.d [])],[0,1,5,15,16],[5,100000],[]⟩ (O2.app (.c (Zdk _ _ _ _ i) (.c Zlc .n))) (ZrY S0 w0 h (((if(0:Int)>b.fN then(0:Int)else b.fN)-(0:Int)).toNat+2) (if(0:Int)>b.fN then(0:Int)else b.fN) (0:Int) ([]) g r e)
 |_=>
  dsimp only at e;obtain rfl:=oi e;exact Yh 6 [rz,rz] [] (rA [(2,aG (Zan.c o)),(6,.id 425)]) 6 ⟨[(100000,100000)],pvOf i⟩ (O2.app (.c (Zdk _ _ _ _ i) (.c Zlc .n)))
def ZkT(b:Zaa)(c0:Zah):Option Bool:=some (decide (b.fEnd=c0))
theorem Zsa(b:Zaa)(c0:Zah)(r:Bool)(d:ZkT b c0=some r):Yo 281 [.agg (Zaa.c b),.one (.rp false 4 (fun j=>(Zah.c c0:List C).getD (0+j) .junk))] (Yk r):=by
 refine Yv Tryz.func281 fun S0 w0=>?_;unfold ZkT at d;apply Ya d 4 [rz,rA [(3,aB (decide (b.fEnd=c0)))]] [] (.c (Zkz b.fEnd c0 (.tmp 5) (.tmp 6)) .n)
def ZaW(g:List Zaa)(b:Zah):Nat->Int->Int->Option Int|0,_,_=>none|fu+1,h,e=>bif(decide (e<h))then need (0<=e/\e<(g.length:Int))<|(ZkT (g.getD e.toNat Zaa.d) b).bind fun i=>bif i then some e else ZaW g b fu h (Zar e 1)else some (-1:Int)
theorem ZgZ(S0:Nat->Prop)(w0:Zba)(t:List Zaa)(d:Zah):∀(h:Nat)(e g r:Int),ZaW t d h e g=some r->Yr 19 S0 w0 Tryz.f280 (Yj r) [1,0,1,0] ⟨[(0,(Ym t)),(1,.one (.clo (.func 281) 0 1 (fun i=>([]:List C).getD i .junk) (fun i=>([.rp false 4 (fun j=>(Zah.c d:List C).getD (0+j) .junk)]:List C).getD i .junk))),(7,(Yj e)),(8,(Yj g))],[]⟩:=by
 intro h;induction h with
 |zero=>
  intro e g r b;simp[ZaW]at b
 |succ h v=>
  intro e g r b;unfold ZaW at b;obtain⟨o,b⟩|⟨o,b⟩:=Zaj b
  .obtain⟨o2,b⟩:=Zat b;obtain⟨u,y,b⟩:=Zae b;have O1:Obl _:=(.c o (.c o2 (.c (Zsa _ _ _ y) .n)));obtain⟨p,b⟩|⟨p,b⟩:=Zaj b
   .apply Ya b 15 [rz,rz,rA [(5,aB u)],rz] [true,true] (O1.app (.c p .n))
   .exact Ye 17 [rz,rz,rA [(5,aB u)],rz] [true,false] (Yi [0,1,7,8]) (O1.app (.c p .n)) (v e (Zar g 1) r b)
  .apply Ya b 8 [rz,rz] [false] (.c o .n)
def Zcz(d:List Zaa)(b:Zah):Option Int:=ZaW d b (((d.length:Int)-(0:Int)).toNat+2) (d.length:Int) (0:Int)
theorem Zhz(d:List Zaa)(b:Zah)(r:Int)(e:Zcz d b=some r):Yo 280 [Ym d,.one (.clo (.func 281) 0 1 (fun i=>([]:List C).getD i .junk) (fun i=>([.rp false 4 (fun j=>(Zah.c b:List C).getD (0+j) .junk)]:List C).getD i .junk))] (Yj r):=by
 refine Yv Tryz.func280 fun S0 w0=>?_;unfold Zcz at e;exact Ye 6 [rz,rz] [] (Yi [0,1,7,8]) .n (ZgZ S0 w0 d b (((d.length:Int)-(0:Int)).toNat+2) (d.length:Int) (0:Int) r e)
def Zij(b:List Zaa)(d:Zah):Option Int:=(Zcz b d).bind fun e=>some e
theorem Zmb(d:List Zaa)(e:Zah)(r:Int)(b:Zij d e=some r):Yo 204 [Ym d,.agg (Zah.c e)] (Yj r):=by
 refine Yv Tryz.func204 fun S0 w0=>?_;unfold Zij at b;obtain⟨g,h,b⟩:=Zae b;apply Ya b 4 [rz,⟨[(2,aI g)],[],[(1,[3])],[],[],[],[]⟩] [] (.c (Zhz _ _ _ h) .n)
def ZcP(g:Zaq)(h:Int)(i:Bool):Option (Tout Unit):=(Zcj g (Zas.mk 3 h (Zan.mk 0 0 0) 0 0 (Zac.mk 0 (Zaa.mk (Zah.mk (Zaf.mk false 0 0) 0) false 0 (Zau.mk 0 0) 0 0) ([]:(List Zag)) ([]:(List Zad))) i)).bind fun j=>(match j with | .ret n b=>some (Tout.ret () b) | .pan d=>some (Tout.pan d) | .bad e=>some (Tout.bad e))
theorem Zcv(i:Zaq)(j:Int)(o:Bool)(r:(Tout Unit))(b:ZcP i j o=some r):Yq 424 [(100000,.box (Zaq.c i))] [.one (.ptr 100000 0),Yj j,Yk o] (oc (fun x=>.tup []) r):=by
 refine ZhO.of Tryz.func424 rfl rfl rfl rfl fun S0 w0=>?_;unfold ZcP at b;obtain⟨p,e,b⟩:=Zae b;cases p with
 |ret g h=>
  dsimp only at b;obtain rfl:=oi b;exact Yd 1 [⟨[],[],[],[],[(3,[(18,cL 5 Zag.c Zag.d []),(19,cL 7 Zad.c Zad.d [])])],[],[(4,⟨[(100000,100000)],[],[(100000,.box (Zaq.c h))],.agg (Zac.c g)⟩)]⟩] [] ⟨[],[],[],[],[],[],[100000],[]⟩ (.c (ZbB _ _ _ e) .n)
 |_=>
  dsimp only at b;obtain rfl:=oi b;exact Yh 0 [] [] (⟨[],[],[],[],[(3,[(18,cL 5 Zag.c Zag.d []),(19,cL 7 Zad.c Zad.d [])])],[],[]⟩) 4 ⟨[(100000,100000)],pvOf e⟩ (.c (ZbB _ _ _ e) .n)
def Zgx(h:Zaq)(i:Zan)(j n:Int)(o:Bool):Option (Tout Bool):=(Zcj h (Zas.mk 7 0 i j n (Zac.mk 0 (Zaa.mk (Zah.mk (Zaf.mk false 0 0) 0) false 0 (Zau.mk 0 0) 0 0) ([]:(List Zag)) ([]:(List Zad))) o)).bind fun p=>(match p with | .ret b d=>some (Tout.ret (b.fN==(1:Int)) d) | .pan e=>some (Tout.pan e) | .bad g=>some (Tout.bad g))
theorem Zly(i:Zaq)(j:Zan)(o p:Int)(t:Bool)(r:(Tout Bool))(b:Zgx i j o p t=some r):Yq 430 [(100000,.box (Zaq.c i))] [.one (.ptr 100000 0),.agg (Zan.c j),Yj o,Yj p,Yk t] (oc (fun x=>(Yk x)) r):=by
 refine ZhO.of Tryz.func430 rfl rfl rfl rfl fun S0 w0=>?_;unfold Zgx at b;obtain⟨u,e,b⟩:=Zae b;cases u with
 |ret g h=>
  dsimp only at b;obtain rfl:=oi b;exact Yd 4 [rz,⟨[],[],[],[],[(5,[(18,cL 5 Zag.c Zag.d []),(19,cL 7 Zad.c Zad.d [])])],[],[(6,⟨[(100000,100000)],[],[(100000,.box (Zaq.c h))],.agg (Zac.c g)⟩)]⟩] [] ⟨[],[],[],[],[],[10],[100000],[]⟩ (.c (ZbB _ _ _ e) .n)
 |_=>
  dsimp only at b;obtain rfl:=oi b;exact Yh 3 [rz] [] (⟨[],[],[],[],[(5,[(18,cL 5 Zag.c Zag.d []),(19,cL 7 Zad.c Zad.d [])])],[],[]⟩) 6 ⟨[(100000,100000)],pvOf e⟩ (.c (ZbB _ _ _ e) .n)
def ZdE(t:Int)(u:Bool):Nat->Zaq->Zan->Option (Tout Bool)|0,_,_=>none|fu+1,b,h=>(Zeg b h false).bind fun v=>(match v with | .ret d e=>bif(decide (d.fN>=t))then some (Tout.ret false e)else(Zgx e h d.fN (Zar d.fN (1:Int)) u).bind fun y=>(match y with | .ret i g=>bif i then some (Tout.ret true g)else ZdE t u fu g h | .pan j=>some (Tout.pan j) | .bad n=>some (Tout.bad n)) | .pan o=>some (Tout.pan o) | .bad p=>some (Tout.bad p))
theorem ZpY(S0:Nat->Prop)(w0:Zba)(z:Int)(A:Bool):∀(i:Nat)(b:Zaq)(g:Zan)(r:(Tout Bool)),ZdE z A i b g=some r->Good Tryz.prog 24 S0 w0 (bodyPost Tryz.prog Tryz.f205 (ZmG S0 w0 (oc (fun x=>(Yk x)) r))) (at_ [1,1,0] (ZaS Tryz.f205)) ⟨[(0,.one (.ifc 140 (.ptr 100000 0))),(1,(Yj z)),(2,(Yk A)),(7,.one (.ptr 7 0))],[(100000,.box [cLn 13 Zac.c Zac.d b.fgot]),(7,.box [.lit (.int .i64 g.fKind),.lit (.int .i64 g.fShard),.lit (.int .i64 g.fSlot)])]⟩:=by
 intro i;induction i with
 |zero=>
  intro b g r e;simp[ZdE]at e
 |succ i B=>
  intro b g r e;unfold ZdE at e;obtain⟨D,o,e⟩:=Zae e;cases D with
  |ret p t=>
   dsimp only at e
   let R1:List RA:=[rH [(2,.id 425)] [(2,⟨[(100000,100000)],[],[(100000,.box (Zaq.c t))],.agg (Zac.c p)⟩)],rz]
   have O2:Obl _:=(.c (Zdk _ _ _ _ o) (.c Zlc .n));obtain⟨j,e⟩|⟨j,e⟩:=Zaj e
   .obtain rfl:=oi e;exact Yd 10 (R1++[rz]) [true] ⟨[],[],[],[],[],[6],[100000],[]⟩ (O2.app (.c j .n))
   .obtain⟨E,u,e⟩:=Zae e;cases E with
    |ret v h=>
     dsimp only at e
     let R3:List RA:=(R1++[rH [(6,.id 430)] [(6,⟨[(100000,100000)],[],[(100000,.box (Zaq.c h))],(Yk v)⟩)]])
     have O4:Obl _:=(O2.app (.c j (.c (Zly _ _ _ _ _ _ u) (.c Zyh .n))));obtain⟨y,e⟩|⟨y,e⟩:=Zaj e
     .obtain rfl:=oi e;exact Yd 14 (R3++[rz]) [false,true] ⟨[],[],[],[],[],[6],[100000],[]⟩ (O4.app (.c y .n))
     .exact Ye 15 R3 [false,false] ⟨[],[],[],[],[],[0,1,2,7],[100000,7],[]⟩ (O4.app (.c y .n)) (B h g r e)
    |_=>
     dsimp only at e;obtain rfl:=oi e;exact Yh 10 R1 [false] (rA [(6,.id 430)]) 6 ⟨[(100000,100000)],pvOf u⟩ (O2.app (.c j (.c (Zly _ _ _ _ _ _ u) (.c Zyh .n))))
  |_=>
   dsimp only at e;obtain rfl:=oi e;exact Yh 3 [] [] (rA [(2,.id 425)]) 2 ⟨[(100000,100000)],pvOf o⟩ (.c (Zdk _ _ _ _ o) (.c Zlc .n))
def ZfT(b:Zaq)(d:Int)(e:Bool):Option (Tout Bool):=ZdE d e 1000000 b (Zan.mk 1 0 0)
theorem ZhW(b:Zaq)(d:Int)(e:Bool)(r:(Tout Bool))(g:ZfT b d e=some r):Yq 205 [(100000,.box (Zaq.c b))] [.one (.ifc 140 (.ptr 100000 0)),Yj d,Yk e] (oc (fun x=>(Yk x)) r):=by
 refine ZhO.of Tryz.func205 rfl rfl rfl rfl fun S0 w0=>?_;unfold ZfT at g;exact Ye 5 [rz,rz] [] ⟨[],[],[],[],[],[0,1,2,7],[100000,7],[]⟩ .n (ZpY S0 w0 d e 1000000 b (Zan.mk 1 0 0) r g)
def Zcu(b:List Zaa):Option (List Zaa):=need (0<b.length)<|need ((([]:List Zaa)++b).length * 80<=140737488355328/\(([]:List Zaa)++b).length<=maxLen)<|some (([]:List Zaa)++b)
theorem ZfF(b r:List Zaa)(g:Zcu b=some r):Yp 244 [] [Ym b] [(99999,.rows 44 10 r.length (Zam Zaa.c Zaa.d r))] (.one (.osl 99999 r.length)):=by
 refine Yw Tryz.func244 fun S0 w0=>?_;unfold Zcu at g;obtain⟨o1,o2,g⟩:=Yt g;apply Yc g 9 [rz,rz,rA [(0,.c ([]:List Zaa).length (Zam Zaa.c Zaa.d ([]:List Zaa))),(2,.c ((([]:List Zaa)++b).length) (Zam Zaa.c Zaa.d (([]:List Zaa)++b)))]] [false] ⟨[],[],[],[],[],[2],[7],[(7,99999)]⟩ (.c o1 (.c (show false=false from rfl) (.c (show ([]:List Zaa).length=0 from rfl) (.c (show ∀i j,i<0->j<10->Zam Zaa.c Zaa.d ([]:List Zaa) i j=(([]:List Zaa).flatMap Zaa.c).getD (i * 10+j) .junk from(fun i j hi hj=>Zbh (sz:=10) (e:=Zaa.c) (d:=Zaa.d) (fun _=>rfl) ([]:List Zaa) i j hi hj)) (.c (Zgn (sz:=10) (e:=Zaa.c) (d:=Zaa.d) ([]:List Zaa) b) (.c o2.1 (.c o2.2 .n)))))))
theorem ZfZ(x:Addr)(cap:Nat)(c:Nat->Nat->C):Yp 244 [] [.one (.lit (.slice (some x) 0 cap))] [(99999,.rows 44 10 0 c)] (.one (.osl 99999 0)):=by
 refine Yw Tryz.func244 fun S0 w0=>?_;exact Zqv Zak 9 _ _ [⟨[],[],[],[],[],[],[]⟩,⟨[(1,.r (Yk false) [])],[],[],[],[],[],[]⟩,⟨[(0,.c 0 c),(2,.c 0 c)],[],[],[],[],[],[]⟩] [false] ⟨[],[],[],[],[],[2],[7],[(7,99999)]⟩
  [∀w,(do eqGuard .eql 54 (.tmp 3) (.const (.slice none 0 0)) (.slice (some x) 0 cap) (.slice none 0 0);binOp .eql 54 (.slice (some x) 0 cap) (.slice none 0 0):Sem Value).run Tryz.prog w=.ok (.bool false) w,false=false,0=0,∀i j,i<0->j<10->c i j=([]:List C).getD (i * 10+j) .junk,Ext 10 0 0 c (fun _ _=>.junk) 0 c,0 * 80<=140737488355328,0<=maxLen] (by kernel_rfl) ⟨fun w=>by
   have hg:(eqGuard .eql 54 (.tmp 3) (.const (.slice none 0 0)) (.slice (some x) 0 cap) (.slice none 0 0)).run Tryz.prog w=.ok () w:=by simp[eqGuard]
   rw[Sem.run_bind,hg,Result.andThen_ok];exact Go.run_eql_slice_nil w _ _ (some x) 0 cap Tryz.underlying54,rfl,rfl,fun i j h=>absurd h (Nat.not_lt_zero i),⟨rfl,fun _ _ h=>absurd h (Nat.not_lt_zero _),fun _ _ h=>absurd h (Nat.not_lt_zero _)⟩,by decide,by decide,trivial⟩
theorem ZfY(cap:Nat)(c:Nat->Nat->C):Yp 244 [] [.one (.lit (.slice none 0 cap))] [(99999,.rows 44 10 0 c)] (.one (.osl 99999 0)):=by
 refine Yw Tryz.func244 fun S0 w0=>?_;exact Zqv Zak 8 _ _ [⟨[],[],[],[],[],[],[]⟩,⟨[(1,.r (Yk true) [])],[],[],[],[],[],[]⟩,⟨[],[],[],[],[],[],[]⟩] [true] ⟨[],[],[],[],[(2,99999,44,10,c)],[2],[99999],[]⟩
  [∀w,(do eqGuard .eql 54 (.tmp 3) (.const (.slice none 0 0)) (.slice none 0 cap) (.slice none 0 0);binOp .eql 54 (.slice none 0 cap) (.slice none 0 0):Sem Value).run Tryz.prog w=.ok (.bool true) w,true=true] (by kernel_rfl) ⟨fun w=>by
   have hg:(eqGuard .eql 54 (.tmp 3) (.const (.slice none 0 0)) (.slice none 0 cap) (.slice none 0 0)).run Tryz.prog w=.ok () w:=by simp[eqGuard]
   rw[Sem.run_bind,hg,Result.andThen_ok];exact Go.run_eql_slice_nil w _ _ none 0 cap Tryz.underlying54,rfl,trivial⟩
def Zbf(b:List Zaa):Option (List Zaa):=need (b.length * 80<=140737488355328/\b.length<=maxLen)<|some b
theorem Zdr(b r:List Zaa)(e:Zbf b=some r):Yp 244 [] [Ym b] [(99999,.rows 44 10 r.length (Zam Zaa.c Zaa.d r))] (.one (.osl 99999 r.length)):=by
 obtain⟨o1,e⟩:=Zat e;cases e;refine ZAA ⟨_,Tryz.func244,rfl,rfl⟩ (fun h cap=>?_) (fun h x cap=>?_) (fun h=>?_)
 .rw[h];exact ZfY cap _
 .rw[h];exact ZfZ x cap _
 .refine ZfF b b ?_;unfold Zcu;rw[ZBj h,ZBj (by simpa using o1)];simp
def Zpi(b:Int):Option Int:=some (if(1099511627776:Int)<(if(0:Int)>b then(0:Int)else b)then(1099511627776:Int)else(if(0:Int)>b then(0:Int)else b))
theorem Zys(b r:Int)(d:Zpi b=some r):Yo 190 [Yj b] (Yj r):=by
 refine Yv Tryz.func190 fun S0 w0=>?_;unfold Zpi at d;apply Ya d 4 [rz,rz] [] .n
def ZnB(d:Zah)(e:Bool)(g:Int):Option Zaa:=(Zpi g).bind fun b=>some (Zaa.mk d e b (Zau.mk 0 b) 0 0)
theorem ZwT(d:Zah)(e:Bool)(g:Int)(r:Zaa)(b:ZnB d e g=some r):Yo 283 [.agg (Zah.c d),Yk e,Yj g] (.agg (Zaa.c r)):=by
 refine Yv Tryz.func283 fun S0 w0=>?_;unfold ZnB at b;obtain⟨h,i,b⟩:=Zae b;apply Ya b 6 [rz,rA [(1,aI h)],rz] [] (.c (Zys _ _ i) .n)
def Zer(e:Zbg)(g:List Zaa):Option (List Zaa):=(Zbf g).bind fun b=>(ZnB e.fx.fEnd true e.fx.fNow).bind fun d=>need ((b++([d]:List Zaa)).length * 80<=140737488355328/\(b++([d]:List Zaa)).length<=maxLen)<|some (b++([d]:List Zaa))
theorem Zpt(o:Zbg)(p r:List Zaa)(g:Zer o p=some r):Yp 207 [] [.agg (Zbg.c o),Ym p] [(99999,.rows 44 10 r.length (Zam Zaa.c Zaa.d r))] (.one (.osl 99999 r.length)):=by
 refine Yw Tryz.func207 fun S0 w0=>?_;unfold Zer at g;obtain⟨h,b,u,v,g⟩:=Yu g;obtain⟨t,g⟩:=Zat g;apply Yc g 4 [rz,⟨[(8,aG (Zaa.c b)),(10,.c ((h++([b]:List Zaa)).length) (Zam Zaa.c Zaa.d (h++([b]:List Zaa))))],[],[],[],[],[(9,(([b]:List Zaa).length,Zam Zaa.c Zaa.d ([b]:List Zaa)))],[(1,⟨[],[(99999,6)],[(99999,.rows 44 10 h.length (Zam Zaa.c Zaa.d h))],.one (.osl 99999 h.length)⟩)]⟩] [] ⟨[],[],[],[],[],[4],[15],[(15,99999)]⟩ (.c (Zdr _ _ u) (.c (ZwT _ _ _ _ v) (.c (show ([b]:List Zaa).length=1/\∀i j,i<1->j<10->Zam Zaa.c Zaa.d ([b]:List Zaa) i j=(([b]:List Zaa).flatMap Zaa.c).getD (i * 10+j) .junk from⟨rfl,fun i j hi hj=>Zbh (sz:=10) (e:=Zaa.c) (d:=Zaa.d) (fun _=>rfl) ([b]:List Zaa) i j hi hj⟩) (.c (Zgn (sz:=10) (e:=Zaa.c) (d:=Zaa.d) h ([b]:List Zaa)) (.c t.1 (.c t.2 .n))))))
theorem ZiZ(b:Zbg)(d r:List Zaa)(e:Zer b d=some r):Yo 207 [.agg (Zbg.c b),Ym d] (Ym r):=(Zpt b d r e).pure
def Zcm(g:List Zaa):Nat->(List Zaa)->Int->Int->(List Int)->Option (List Int)|0,_,_,_,_=>none|fu+1,h,i,b,e=>bif(decide (b<i))then need (0<=b/\b<(h.length:Int))<|bif(decide (b>=(g.length:Int)))then need ((e++([b]:List Int)).length * 8<=140737488355328/\(e++([b]:List Int)).length<=maxLen)<|Zcm g fu h i (Zar b 1) (e++([b]:List Int))else need (0<=b/\b<(g.length:Int))<|bif(!(decide ((g.getD b.toNat Zaa.d)=(h.getD b.toNat Zaa.d))))then need ((e++([b]:List Int)).length * 8<=140737488355328/\(e++([b]:List Int)).length<=maxLen)<|Zcm g fu h i (Zar b 1) (e++([b]:List Int))else Zcm g fu h i (Zar b 1) e else some e
theorem Zqb(S0:Nat->Prop)(w0:Zba)(t:List Zaa):∀(u:Nat)(o:List Zaa)(p b:Int)(h r:List Int),Zcm t u o p b h=some r->Ys 33 S0 w0 Tryz.f282 [(99999,.rows 3 1 r.length (Zam (cI .i64) (0:Int) r))] (.one (.osl 99999 r.length)) [1,1,0,1,0] ⟨[(0,(Ym t)),(5,.one (.osl 5 h.length)),(8,(Ym o)),(9,(Yj p)),(10,(Yj b))],[(5,.rows 3 1 h.length (Zam (cI .i64) (0:Int) h))]⟩:=by
 intro u;induction u with
 |zero=>
  intro o p b h r g;simp[Zcm]at g
 |succ u y=>
  intro o p b h r g;unfold Zcm at g;obtain⟨v,g⟩|⟨v,g⟩:=Zaj g
  .obtain⟨o2,g⟩:=Zat g;obtain⟨z,g⟩|⟨z,g⟩:=Zaj g
   .obtain⟨B,g⟩:=Zat g;exact Ye 17 [rz,rz,rB [(4,true)],⟨[(3,.c ((h++([b]:List Int)).length) (Zam (cI .i64) (0:Int) (h++([b]:List Int))))],[],[],[],[],[(2,(([b]:List Int).length,Zam (cI .i64) (0:Int) ([b]:List Int)))],[]⟩,rz] [true,true] ⟨[],[],[],[],[],[0,5,8,9,10],[30],[(30,5)]⟩ (.c v (.c o2 (.c z (.c (show true=true from rfl) (.c (show ([b]:List Int).length=1/\∀i j,i<1->j<1->Zam (cI .i64) (0:Int) ([b]:List Int) i j=(([b]:List Int).flatMap (cI .i64)).getD (i * 1+j) .junk from⟨rfl,fun i j hi hj=>Zbh (sz:=1) (e:=(cI .i64)) (d:=(0:Int)) (fun _=>rfl) ([b]:List Int) i j hi hj⟩) (.c (Zgn (sz:=1) (e:=(cI .i64)) (d:=(0:Int)) h ([b]:List Int)) (.c B.1 (.c B.2 .n)))))))) (y o p (Zar b 1) (h++([b]:List Int)) r g)
   .obtain⟨E,g⟩:=Zat g
    let R1:List RA:=[rz,rz,⟨[(10,aB (!(decide ((t.getD b.toNat Zaa.d)=(o.getD b.toNat Zaa.d)))))],[(4,false)],[],[],[],[],[]⟩]
    have O2:Obl _:=(.c v (.c o2 (.c z (.c E (.c (ZmW (t.getD b.toNat Zaa.d) (o.getD b.toNat Zaa.d) (.tmp 23) (.tmp 24)) .n)))));obtain⟨A,g⟩|⟨A,g⟩:=Zaj g
    .obtain⟨D,g⟩:=Zat g;exact Ye 17 (R1++[⟨[(3,.c ((h++([b]:List Int)).length) (Zam (cI .i64) (0:Int) (h++([b]:List Int))))],[],[],[],[],[(2,(([b]:List Int).length,Zam (cI .i64) (0:Int) ([b]:List Int)))],[]⟩,rz]) [true,true] ⟨[],[],[],[],[],[0,5,8,9,10],[30],[(30,5)]⟩ (O2.app (.c A (.c (show ([b]:List Int).length=1/\∀i j,i<1->j<1->Zam (cI .i64) (0:Int) ([b]:List Int) i j=(([b]:List Int).flatMap (cI .i64)).getD (i * 1+j) .junk from⟨rfl,fun i j hi hj=>Zbh (sz:=1) (e:=(cI .i64)) (d:=(0:Int)) (fun _=>rfl) ([b]:List Int) i j hi hj⟩) (.c (Zgn (sz:=1) (e:=(cI .i64)) (d:=(0:Int)) h ([b]:List Int)) (.c D.1 (.c D.2 .n)))))) (y o p (Zar b 1) (h++([b]:List Int)) r g)
    .exact Ye 17 (R1++[rz]) [true,false] ⟨[],[],[],[],[],[0,5,8,9,10],[5],[]⟩ (O2.app (.c A .n)) (y o p (Zar b 1) h r g)
  .apply Yc g 8 [rz,rz] [false] ⟨[],[],[],[],[],[4],[5],[(5,99999)]⟩ (.c v .n)
def ZhQ(d b:List Zaa):Option (List Int):=Zcm d (((b.length:Int)-(0:Int)).toNat+2) b (b.length:Int) (0:Int) ([])
theorem Zrm(d b:List Zaa)(r:List Int)(e:ZhQ d b=some r):Yp 282 [] [Ym d,Ym b] [(99999,.rows 3 1 r.length (Zam (cI .i64) (0:Int) r))] (.one (.osl 99999 r.length)):=by
 refine Yw Tryz.func282 fun S0 w0=>?_;unfold ZhQ at e;exact Ye 8 [rz,rz,rz] [] ⟨[],[],[],[],[(5,5,3,1,Zam (cI .i64) (0:Int) [])],[0,5,8,9,10],[5],[]⟩ .n (Zqb S0 w0 d (((b.length:Int)-(0:Int)).toNat+2) b (b.length:Int) (0:Int) ([]) r e)
theorem Zse(b d:List Zaa)(r:List Int)(e:ZhQ b d=some r):Yo 282 [Ym b,Ym d] (.one (cL 1 (cI .i64) (0:Int) r)):=(Zrm b d r e).pure
def ZdD(g:Zaq)(h:Zan)(i:Zac)(j:Bool):Option (Tout Unit):=(Zcj g (Zas.mk 6 0 h 0 0 i j)).bind fun n=>(match n with | .ret o b=>some (Tout.ret () b) | .pan d=>some (Tout.pan d) | .bad e=>some (Tout.bad e))
theorem ZgC(h:Zaq)(i:Zan)(j:Zac)(o:Bool)(r:(Tout Unit))(b:ZdD h i j o=some r):Yq 429 [(100000,.box (Zaq.c h))] [.one (.ptr 100000 0),.agg (Zan.c i),.agg (Zac.c j),Yk o] (oc (fun x=>.tup []) r):=by
 refine ZhO.of Tryz.func429 rfl rfl rfl rfl fun S0 w0=>?_;unfold ZdD at b;obtain⟨p,d,b⟩:=Zae b;cases p with
 |ret e g=>
  dsimp only at b;obtain rfl:=oi b;exact Yd 3 [rz,rH [] [(5,⟨[(100000,100000)],[],[(100000,.box (Zaq.c g))],.agg (Zac.c e)⟩)]] [] ⟨[],[],[],[],[],[],[100000],[]⟩ (.c (ZbB _ _ _ d) .n)
 |_=>
  dsimp only at b;obtain rfl:=oi b;exact Yh 2 [rz] [] (rz) 5 ⟨[(100000,100000)],pvOf d⟩ (.c (ZbB _ _ _ d) .n)
end Go.Proofs.YtmnloegcpaahcaaGreat
