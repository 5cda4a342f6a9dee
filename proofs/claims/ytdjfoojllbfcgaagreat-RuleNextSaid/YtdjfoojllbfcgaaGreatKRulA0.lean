import Derived.Test.YtdjfoojllbfcgaaGreatKRulT
namespace Go.Proofs.YtdjfoojllbfcgaaGreat
open Go.RowKit Go.Lib Go.Shelf
set_option linter.unusedVariables false
set_option maxRecDepth 100000
theorem Zpz : (Tryz.prog.fieldsOf 28).toList = [{ name := "V6", type := 4, offset := 0, embedded := false, tag := "", pkgPath := "", byteOffset := 0 }, { name := "Hi", type := 22, offset := 1, embedded := false, tag := "", pkgPath := "", byteOffset := 8 }, { name := "Lo", type := 22, offset := 2, embedded := false, tag := "", pkgPath := "", byteOffset := 16 }] := by kernel_rfl
theorem Zls(d:Nat)(x y:Zag)(w:World):(Op.equalIn (d+2) 28 (.agg #[.bool x.fV6,.int .u64 x.fHi,.int .u64 x.fLo]) (.agg #[.bool y.fV6,.int .u64 y.fHi,.int .u64 y.fLo])).run Tryz.prog w=.ok (decide (x=y)) w:=by rw[run_equalIn_struct w (d+1) _ _ _ (by kernel_rfl) (by kernel_rfl)];simp only[Zpz,Op.eqFields];simp[go_sem];cases x;cases y;simp only[Zag.mk.injEq];(repeat' split)<;>simp_all
theorem ZjV(x y:Zag)(xo yo:Operand):∀w,(do eqGuard .eql 28 xo yo (.agg #[.bool x.fV6,.int .u64 x.fHi,.int .u64 x.fLo]) (.agg #[.bool y.fV6,.int .u64 y.fHi,.int .u64 y.fLo]);binOp .eql 28 (.agg #[.bool x.fV6,.int .u64 x.fHi,.int .u64 x.fLo]) (.agg #[.bool y.fV6,.int .u64 y.fHi,.int .u64 y.fLo]):Sem Value).run Tryz.prog w=.ok (.bool (decide (x=y))) w:=by
 intro w;have hg:(eqGuard .eql 28 xo yo (.agg #[.bool x.fV6,.int .u64 x.fHi,.int .u64 x.fLo]) (.agg #[.bool y.fV6,.int .u64 y.fHi,.int .u64 y.fLo])).run Tryz.prog w=.ok () w:=by simp[eqGuard,Sem.run_bind,Tryz.eqGuardType28]
 rw[Sem.run_bind,hg,Result.andThen_ok,run_eql_struct];exact congrArg (fun r:Result Bool=>r.andThen fun b w'=>Result.ok (Value.bool b) w') (Zls 9998 x y w)
theorem Zqn : (Tryz.prog.fieldsOf 30).toList = [{ name := "Addr", type := 28, offset := 0, embedded := false, tag := "", pkgPath := "", byteOffset := 0 }, { name := "Port", type := 3, offset := 3, embedded := false, tag := "", pkgPath := "", byteOffset := 24 }] := by kernel_rfl
theorem Zmm(d:Nat)(x y:Zah)(w:World):(Op.equalIn (d+4) 30 (.agg #[.bool x.fAddr.fV6,.int .u64 x.fAddr.fHi,.int .u64 x.fAddr.fLo,.int .i64 x.fPort]) (.agg #[.bool y.fAddr.fV6,.int .u64 y.fAddr.fHi,.int .u64 y.fAddr.fLo,.int .i64 y.fPort])).run Tryz.prog w=.ok (decide (x=y)) w:=by rw[run_equalIn_struct w (d+3) _ _ _ (by kernel_rfl) (by kernel_rfl)];simp only[Zqn,Op.eqFields];simp[go_sem,Zls];cases x;cases y;simp only[Zah.mk.injEq];(repeat' split)<;>simp_all
theorem Znu(x y:Zah)(xo yo:Operand):∀w,(do eqGuard .eql 30 xo yo (.agg #[.bool x.fAddr.fV6,.int .u64 x.fAddr.fHi,.int .u64 x.fAddr.fLo,.int .i64 x.fPort]) (.agg #[.bool y.fAddr.fV6,.int .u64 y.fAddr.fHi,.int .u64 y.fAddr.fLo,.int .i64 y.fPort]);binOp .eql 30 (.agg #[.bool x.fAddr.fV6,.int .u64 x.fAddr.fHi,.int .u64 x.fAddr.fLo,.int .i64 x.fPort]) (.agg #[.bool y.fAddr.fV6,.int .u64 y.fAddr.fHi,.int .u64 y.fAddr.fLo,.int .i64 y.fPort]):Sem Value).run Tryz.prog w=.ok (.bool (decide (x=y))) w:=by
 intro w;have hg:(eqGuard .eql 30 xo yo (.agg #[.bool x.fAddr.fV6,.int .u64 x.fAddr.fHi,.int .u64 x.fAddr.fLo,.int .i64 x.fPort]) (.agg #[.bool y.fAddr.fV6,.int .u64 y.fAddr.fHi,.int .u64 y.fAddr.fLo,.int .i64 y.fPort])).run Tryz.prog w=.ok () w:=by simp[eqGuard,Sem.run_bind,Tryz.eqGuardType30]
 rw[Sem.run_bind,hg,Result.andThen_ok,run_eql_struct];exact congrArg (fun r:Result Bool=>r.andThen fun b w'=>Result.ok (Value.bool b) w') (Zmm 9996 x y w)
theorem Zql : (Tryz.prog.fieldsOf 32).toList = [{ name := "Addr", type := 28, offset := 0, embedded := false, tag := "", pkgPath := "", byteOffset := 0 }, { name := "Bits", type := 3, offset := 3, embedded := false, tag := "", pkgPath := "", byteOffset := 24 }] := by kernel_rfl
theorem Zml(d:Nat)(x y:Zaq)(w:World):(Op.equalIn (d+4) 32 (.agg #[.bool x.fAddr.fV6,.int .u64 x.fAddr.fHi,.int .u64 x.fAddr.fLo,.int .i64 x.fBits]) (.agg #[.bool y.fAddr.fV6,.int .u64 y.fAddr.fHi,.int .u64 y.fAddr.fLo,.int .i64 y.fBits])).run Tryz.prog w=.ok (decide (x=y)) w:=by rw[run_equalIn_struct w (d+3) _ _ _ (by kernel_rfl) (by kernel_rfl)];simp only[Zql,Op.eqFields];simp[go_sem,Zls];cases x;cases y;simp only[Zaq.mk.injEq];(repeat' split)<;>simp_all
theorem ZkH(x y:Zaq)(xo yo:Operand):∀w,(do eqGuard .eql 32 xo yo (.agg #[.bool x.fAddr.fV6,.int .u64 x.fAddr.fHi,.int .u64 x.fAddr.fLo,.int .i64 x.fBits]) (.agg #[.bool y.fAddr.fV6,.int .u64 y.fAddr.fHi,.int .u64 y.fAddr.fLo,.int .i64 y.fBits]);binOp .eql 32 (.agg #[.bool x.fAddr.fV6,.int .u64 x.fAddr.fHi,.int .u64 x.fAddr.fLo,.int .i64 x.fBits]) (.agg #[.bool y.fAddr.fV6,.int .u64 y.fAddr.fHi,.int .u64 y.fAddr.fLo,.int .i64 y.fBits]):Sem Value).run Tryz.prog w=.ok (.bool (decide (x=y))) w:=by
 intro w;have hg:(eqGuard .eql 32 xo yo (.agg #[.bool x.fAddr.fV6,.int .u64 x.fAddr.fHi,.int .u64 x.fAddr.fLo,.int .i64 x.fBits]) (.agg #[.bool y.fAddr.fV6,.int .u64 y.fAddr.fHi,.int .u64 y.fAddr.fLo,.int .i64 y.fBits])).run Tryz.prog w=.ok () w:=by simp[eqGuard,Sem.run_bind,Tryz.eqGuardType32]
 rw[Sem.run_bind,hg,Result.andThen_ok,run_eql_struct];exact congrArg (fun r:Result Bool=>r.andThen fun b w'=>Result.ok (Value.bool b) w') (Zml 9996 x y w)
theorem ZuI(x y:Zaq)(xo yo:Operand):∀w,(do eqGuard .neq 32 xo yo (.agg #[.bool x.fAddr.fV6,.int .u64 x.fAddr.fHi,.int .u64 x.fAddr.fLo,.int .i64 x.fBits]) (.agg #[.bool y.fAddr.fV6,.int .u64 y.fAddr.fHi,.int .u64 y.fAddr.fLo,.int .i64 y.fBits]);binOp .neq 32 (.agg #[.bool x.fAddr.fV6,.int .u64 x.fAddr.fHi,.int .u64 x.fAddr.fLo,.int .i64 x.fBits]) (.agg #[.bool y.fAddr.fV6,.int .u64 y.fAddr.fHi,.int .u64 y.fAddr.fLo,.int .i64 y.fBits]):Sem Value).run Tryz.prog w=.ok (.bool (!decide (x=y))) w:=by
 intro w;have hg:(eqGuard .neq 32 xo yo (.agg #[.bool x.fAddr.fV6,.int .u64 x.fAddr.fHi,.int .u64 x.fAddr.fLo,.int .i64 x.fBits]) (.agg #[.bool y.fAddr.fV6,.int .u64 y.fAddr.fHi,.int .u64 y.fAddr.fLo,.int .i64 y.fBits])).run Tryz.prog w=.ok () w:=by simp[eqGuard,Sem.run_bind,Tryz.eqGuardType32]
 rw[Sem.run_bind,hg,Result.andThen_ok,run_neq_struct];exact congrArg (fun r:Result Bool=>r.andThen fun b w'=>Result.ok (Value.bool (!b)) w') (Zml 9996 x y w)
theorem Zqm : (Tryz.prog.fieldsOf 40).toList = [{ name := "Kind", type := 3, offset := 0, embedded := false, tag := "", pkgPath := "", byteOffset := 0 }, { name := "Shard", type := 3, offset := 1, embedded := false, tag := "", pkgPath := "", byteOffset := 8 }, { name := "Slot", type := 3, offset := 2, embedded := false, tag := "", pkgPath := "", byteOffset := 16 }] := by kernel_rfl
theorem Zts(d:Nat)(x y:Zap)(w:World):(Op.equalIn (d+2) 40 (.agg #[.int .i64 x.fKind,.int .i64 x.fShard,.int .i64 x.fSlot]) (.agg #[.int .i64 y.fKind,.int .i64 y.fShard,.int .i64 y.fSlot])).run Tryz.prog w=.ok (decide (x=y)) w:=by rw[run_equalIn_struct w (d+1) _ _ _ (by kernel_rfl) (by kernel_rfl)];simp only[Zqm,Op.eqFields];simp[go_sem];cases x;cases y;simp only[Zap.mk.injEq];(repeat' split)<;>simp_all
theorem Zvj(x y:Zap)(xo yo:Operand):∀w,(do eqGuard .eql 40 xo yo (.agg #[.int .i64 x.fKind,.int .i64 x.fShard,.int .i64 x.fSlot]) (.agg #[.int .i64 y.fKind,.int .i64 y.fShard,.int .i64 y.fSlot]);binOp .eql 40 (.agg #[.int .i64 x.fKind,.int .i64 x.fShard,.int .i64 x.fSlot]) (.agg #[.int .i64 y.fKind,.int .i64 y.fShard,.int .i64 y.fSlot]):Sem Value).run Tryz.prog w=.ok (.bool (decide (x=y))) w:=by
 intro w;have hg:(eqGuard .eql 40 xo yo (.agg #[.int .i64 x.fKind,.int .i64 x.fShard,.int .i64 x.fSlot]) (.agg #[.int .i64 y.fKind,.int .i64 y.fShard,.int .i64 y.fSlot])).run Tryz.prog w=.ok () w:=by simp[eqGuard,Sem.run_bind,Tryz.eqGuardType40]
 rw[Sem.run_bind,hg,Result.andThen_ok,run_eql_struct];exact congrArg (fun r:Result Bool=>r.andThen fun b w'=>Result.ok (Value.bool b) w') (Zts 9998 x y w)
theorem ZoV : (Tryz.prog.fieldsOf 42).toList = [{ name := "Points", type := 3, offset := 0, embedded := false, tag := "", pkgPath := "", byteOffset := 0 }, { name := "At", type := 3, offset := 1, embedded := false, tag := "", pkgPath := "", byteOffset := 8 }] := by kernel_rfl
theorem Zrl(d:Nat)(x y:Zar)(w:World):(Op.equalIn (d+2) 42 (.agg #[.int .i64 x.fPoints,.int .i64 x.fAt]) (.agg #[.int .i64 y.fPoints,.int .i64 y.fAt])).run Tryz.prog w=.ok (decide (x=y)) w:=by rw[run_equalIn_struct w (d+1) _ _ _ (by kernel_rfl) (by kernel_rfl)];simp only[ZoV,Op.eqFields];simp[go_sem];cases x;cases y;simp only[Zar.mk.injEq];(repeat' split)<;>simp_all
theorem Zpy : (Tryz.prog.fieldsOf 44).toList = [{ name := "End", type := 30, offset := 0, embedded := false, tag := "", pkgPath := "", byteOffset := 0 }, { name := "In", type := 4, offset := 4, embedded := false, tag := "", pkgPath := "", byteOffset := 32 }, { name := "Since", type := 3, offset := 5, embedded := false, tag := "", pkgPath := "", byteOffset := 40 }, { name := "Score", type := 42, offset := 6, embedded := false, tag := "", pkgPath := "", byteOffset := 48 }, { name := "Ping", type := 3, offset := 8, embedded := false, tag := "", pkgPath := "", byteOffset := 64 }, { name := "Work", type := 3, offset := 9, embedded := false, tag := "", pkgPath := "", byteOffset := 72 }] := by kernel_rfl
theorem Zoq(d:Nat)(x y:Zaa)(w:World):(Op.equalIn (d+6) 44 (.agg #[.bool x.fEnd.fAddr.fV6,.int .u64 x.fEnd.fAddr.fHi,.int .u64 x.fEnd.fAddr.fLo,.int .i64 x.fEnd.fPort,.bool x.fIn,.int .i64 x.fSince,.int .i64 x.fScore.fPoints,.int .i64 x.fScore.fAt,.int .i64 x.fPing,.int .i64 x.fWork]) (.agg #[.bool y.fEnd.fAddr.fV6,.int .u64 y.fEnd.fAddr.fHi,.int .u64 y.fEnd.fAddr.fLo,.int .i64 y.fEnd.fPort,.bool y.fIn,.int .i64 y.fSince,.int .i64 y.fScore.fPoints,.int .i64 y.fScore.fAt,.int .i64 y.fPing,.int .i64 y.fWork])).run Tryz.prog w=.ok (decide (x=y)) w:=by rw[run_equalIn_struct w (d+5) _ _ _ (by kernel_rfl) (by kernel_rfl)];simp only[Zpy,Op.eqFields];simp[go_sem,Zmm,Zrl];cases x;cases y;simp only[Zaa.mk.injEq];(repeat' split)<;>simp_all
theorem Ztr(x y:Zaa)(xo yo:Operand):∀w,(do eqGuard .eql 44 xo yo (.agg #[.bool x.fEnd.fAddr.fV6,.int .u64 x.fEnd.fAddr.fHi,.int .u64 x.fEnd.fAddr.fLo,.int .i64 x.fEnd.fPort,.bool x.fIn,.int .i64 x.fSince,.int .i64 x.fScore.fPoints,.int .i64 x.fScore.fAt,.int .i64 x.fPing,.int .i64 x.fWork]) (.agg #[.bool y.fEnd.fAddr.fV6,.int .u64 y.fEnd.fAddr.fHi,.int .u64 y.fEnd.fAddr.fLo,.int .i64 y.fEnd.fPort,.bool y.fIn,.int .i64 y.fSince,.int .i64 y.fScore.fPoints,.int .i64 y.fScore.fAt,.int .i64 y.fPing,.int .i64 y.fWork]);binOp .eql 44 (.agg #[.bool x.fEnd.fAddr.fV6,.int .u64 x.fEnd.fAddr.fHi,.int .u64 x.fEnd.fAddr.fLo,.int .i64 x.fEnd.fPort,.bool x.fIn,.int .i64 x.fSince,.int .i64 x.fScore.fPoints,.int .i64 x.fScore.fAt,.int .i64 x.fPing,.int .i64 x.fWork]) (.agg #[.bool y.fEnd.fAddr.fV6,.int .u64 y.fEnd.fAddr.fHi,.int .u64 y.fEnd.fAddr.fLo,.int .i64 y.fEnd.fPort,.bool y.fIn,.int .i64 y.fSince,.int .i64 y.fScore.fPoints,.int .i64 y.fScore.fAt,.int .i64 y.fPing,.int .i64 y.fWork]):Sem Value).run Tryz.prog w=.ok (.bool (decide (x=y))) w:=by
 intro w;have hg:(eqGuard .eql 44 xo yo (.agg #[.bool x.fEnd.fAddr.fV6,.int .u64 x.fEnd.fAddr.fHi,.int .u64 x.fEnd.fAddr.fLo,.int .i64 x.fEnd.fPort,.bool x.fIn,.int .i64 x.fSince,.int .i64 x.fScore.fPoints,.int .i64 x.fScore.fAt,.int .i64 x.fPing,.int .i64 x.fWork]) (.agg #[.bool y.fEnd.fAddr.fV6,.int .u64 y.fEnd.fAddr.fHi,.int .u64 y.fEnd.fAddr.fLo,.int .i64 y.fEnd.fPort,.bool y.fIn,.int .i64 y.fSince,.int .i64 y.fScore.fPoints,.int .i64 y.fScore.fAt,.int .i64 y.fPing,.int .i64 y.fWork])).run Tryz.prog w=.ok () w:=by simp[eqGuard,Sem.run_bind,Tryz.eqGuardType44]
 rw[Sem.run_bind,hg,Result.andThen_ok,run_eql_struct];exact congrArg (fun r:Result Bool=>r.andThen fun b w'=>Result.ok (Value.bool b) w') (Zoq 9994 x y w)
theorem ZlX(x y:Zaa)(xo yo:Operand):∀w,(do eqGuard .neq 44 xo yo (.agg #[.bool x.fEnd.fAddr.fV6,.int .u64 x.fEnd.fAddr.fHi,.int .u64 x.fEnd.fAddr.fLo,.int .i64 x.fEnd.fPort,.bool x.fIn,.int .i64 x.fSince,.int .i64 x.fScore.fPoints,.int .i64 x.fScore.fAt,.int .i64 x.fPing,.int .i64 x.fWork]) (.agg #[.bool y.fEnd.fAddr.fV6,.int .u64 y.fEnd.fAddr.fHi,.int .u64 y.fEnd.fAddr.fLo,.int .i64 y.fEnd.fPort,.bool y.fIn,.int .i64 y.fSince,.int .i64 y.fScore.fPoints,.int .i64 y.fScore.fAt,.int .i64 y.fPing,.int .i64 y.fWork]);binOp .neq 44 (.agg #[.bool x.fEnd.fAddr.fV6,.int .u64 x.fEnd.fAddr.fHi,.int .u64 x.fEnd.fAddr.fLo,.int .i64 x.fEnd.fPort,.bool x.fIn,.int .i64 x.fSince,.int .i64 x.fScore.fPoints,.int .i64 x.fScore.fAt,.int .i64 x.fPing,.int .i64 x.fWork]) (.agg #[.bool y.fEnd.fAddr.fV6,.int .u64 y.fEnd.fAddr.fHi,.int .u64 y.fEnd.fAddr.fLo,.int .i64 y.fEnd.fPort,.bool y.fIn,.int .i64 y.fSince,.int .i64 y.fScore.fPoints,.int .i64 y.fScore.fAt,.int .i64 y.fPing,.int .i64 y.fWork]):Sem Value).run Tryz.prog w=.ok (.bool (!decide (x=y))) w:=by
 intro w;have hg:(eqGuard .neq 44 xo yo (.agg #[.bool x.fEnd.fAddr.fV6,.int .u64 x.fEnd.fAddr.fHi,.int .u64 x.fEnd.fAddr.fLo,.int .i64 x.fEnd.fPort,.bool x.fIn,.int .i64 x.fSince,.int .i64 x.fScore.fPoints,.int .i64 x.fScore.fAt,.int .i64 x.fPing,.int .i64 x.fWork]) (.agg #[.bool y.fEnd.fAddr.fV6,.int .u64 y.fEnd.fAddr.fHi,.int .u64 y.fEnd.fAddr.fLo,.int .i64 y.fEnd.fPort,.bool y.fIn,.int .i64 y.fSince,.int .i64 y.fScore.fPoints,.int .i64 y.fScore.fAt,.int .i64 y.fPing,.int .i64 y.fWork])).run Tryz.prog w=.ok () w:=by simp[eqGuard,Sem.run_bind,Tryz.eqGuardType44]
 rw[Sem.run_bind,hg,Result.andThen_ok,run_neq_struct];exact congrArg (fun r:Result Bool=>r.andThen fun b w'=>Result.ok (Value.bool (!b)) w') (Zoq 9994 x y w)
theorem ZoW : (Tryz.prog.fieldsOf 106).toList = [{ name := "End", type := 30, offset := 0, embedded := false, tag := "", pkgPath := "", byteOffset := 0 }, { name := "State", type := 3, offset := 4, embedded := false, tag := "", pkgPath := "", byteOffset := 32 }, { name := "Fails", type := 3, offset := 5, embedded := false, tag := "", pkgPath := "", byteOffset := 40 }, { name := "Next", type := 3, offset := 6, embedded := false, tag := "", pkgPath := "", byteOffset := 48 }] := by kernel_rfl
theorem Zrm(d:Nat)(x y:Zad)(w:World):(Op.equalIn (d+6) 106 (.agg #[.bool x.fEnd.fAddr.fV6,.int .u64 x.fEnd.fAddr.fHi,.int .u64 x.fEnd.fAddr.fLo,.int .i64 x.fEnd.fPort,.int .i64 x.fState,.int .i64 x.fFails,.int .i64 x.fNext]) (.agg #[.bool y.fEnd.fAddr.fV6,.int .u64 y.fEnd.fAddr.fHi,.int .u64 y.fEnd.fAddr.fLo,.int .i64 y.fEnd.fPort,.int .i64 y.fState,.int .i64 y.fFails,.int .i64 y.fNext])).run Tryz.prog w=.ok (decide (x=y)) w:=by rw[run_equalIn_struct w (d+5) _ _ _ (by kernel_rfl) (by kernel_rfl)];simp only[ZoW,Op.eqFields];simp[go_sem,Zmm];cases x;cases y;simp only[Zad.mk.injEq];(repeat' split)<;>simp_all
theorem Zsm(x y:Zad)(xo yo:Operand):∀w,(do eqGuard .neq 106 xo yo (.agg #[.bool x.fEnd.fAddr.fV6,.int .u64 x.fEnd.fAddr.fHi,.int .u64 x.fEnd.fAddr.fLo,.int .i64 x.fEnd.fPort,.int .i64 x.fState,.int .i64 x.fFails,.int .i64 x.fNext]) (.agg #[.bool y.fEnd.fAddr.fV6,.int .u64 y.fEnd.fAddr.fHi,.int .u64 y.fEnd.fAddr.fLo,.int .i64 y.fEnd.fPort,.int .i64 y.fState,.int .i64 y.fFails,.int .i64 y.fNext]);binOp .neq 106 (.agg #[.bool x.fEnd.fAddr.fV6,.int .u64 x.fEnd.fAddr.fHi,.int .u64 x.fEnd.fAddr.fLo,.int .i64 x.fEnd.fPort,.int .i64 x.fState,.int .i64 x.fFails,.int .i64 x.fNext]) (.agg #[.bool y.fEnd.fAddr.fV6,.int .u64 y.fEnd.fAddr.fHi,.int .u64 y.fEnd.fAddr.fLo,.int .i64 y.fEnd.fPort,.int .i64 y.fState,.int .i64 y.fFails,.int .i64 y.fNext]):Sem Value).run Tryz.prog w=.ok (.bool (!decide (x=y))) w:=by
 intro w;have hg:(eqGuard .neq 106 xo yo (.agg #[.bool x.fEnd.fAddr.fV6,.int .u64 x.fEnd.fAddr.fHi,.int .u64 x.fEnd.fAddr.fLo,.int .i64 x.fEnd.fPort,.int .i64 x.fState,.int .i64 x.fFails,.int .i64 x.fNext]) (.agg #[.bool y.fEnd.fAddr.fV6,.int .u64 y.fEnd.fAddr.fHi,.int .u64 y.fEnd.fAddr.fLo,.int .i64 y.fEnd.fPort,.int .i64 y.fState,.int .i64 y.fFails,.int .i64 y.fNext])).run Tryz.prog w=.ok () w:=by simp[eqGuard,Sem.run_bind,Tryz.eqGuardType106]
 rw[Sem.run_bind,hg,Result.andThen_ok,run_neq_struct];exact congrArg (fun r:Result Bool=>r.andThen fun b w'=>Result.ok (Value.bool (!b)) w') (Zrm 9994 x y w)
theorem Zqo : (Tryz.prog.fieldsOf 146).toList = [{ name := "Net", type := 32, offset := 0, embedded := false, tag := "", pkgPath := "", byteOffset := 0 }, { name := "Until", type := 3, offset := 4, embedded := false, tag := "", pkgPath := "", byteOffset := 32 }] := by kernel_rfl
theorem Ztt(d:Nat)(x y:Zab)(w:World):(Op.equalIn (d+6) 146 (.agg #[.bool x.fNet.fAddr.fV6,.int .u64 x.fNet.fAddr.fHi,.int .u64 x.fNet.fAddr.fLo,.int .i64 x.fNet.fBits,.int .i64 x.fUntil]) (.agg #[.bool y.fNet.fAddr.fV6,.int .u64 y.fNet.fAddr.fHi,.int .u64 y.fNet.fAddr.fLo,.int .i64 y.fNet.fBits,.int .i64 y.fUntil])).run Tryz.prog w=.ok (decide (x=y)) w:=by rw[run_equalIn_struct w (d+5) _ _ _ (by kernel_rfl) (by kernel_rfl)];simp only[Zqo,Op.eqFields];simp[go_sem,Zml];cases x;cases y;simp only[Zab.mk.injEq];(repeat' split)<;>simp_all
theorem ZuJ(x y:Zab)(xo yo:Operand):∀w,(do eqGuard .neq 146 xo yo (.agg #[.bool x.fNet.fAddr.fV6,.int .u64 x.fNet.fAddr.fHi,.int .u64 x.fNet.fAddr.fLo,.int .i64 x.fNet.fBits,.int .i64 x.fUntil]) (.agg #[.bool y.fNet.fAddr.fV6,.int .u64 y.fNet.fAddr.fHi,.int .u64 y.fNet.fAddr.fLo,.int .i64 y.fNet.fBits,.int .i64 y.fUntil]);binOp .neq 146 (.agg #[.bool x.fNet.fAddr.fV6,.int .u64 x.fNet.fAddr.fHi,.int .u64 x.fNet.fAddr.fLo,.int .i64 x.fNet.fBits,.int .i64 x.fUntil]) (.agg #[.bool y.fNet.fAddr.fV6,.int .u64 y.fNet.fAddr.fHi,.int .u64 y.fNet.fAddr.fLo,.int .i64 y.fNet.fBits,.int .i64 y.fUntil]):Sem Value).run Tryz.prog w=.ok (.bool (!decide (x=y))) w:=by
 intro w;have hg:(eqGuard .neq 146 xo yo (.agg #[.bool x.fNet.fAddr.fV6,.int .u64 x.fNet.fAddr.fHi,.int .u64 x.fNet.fAddr.fLo,.int .i64 x.fNet.fBits,.int .i64 x.fUntil]) (.agg #[.bool y.fNet.fAddr.fV6,.int .u64 y.fNet.fAddr.fHi,.int .u64 y.fNet.fAddr.fLo,.int .i64 y.fNet.fBits,.int .i64 y.fUntil])).run Tryz.prog w=.ok () w:=by simp[eqGuard,Sem.run_bind,Tryz.eqGuardType146]
 rw[Sem.run_bind,hg,Result.andThen_ok,run_neq_struct];exact congrArg (fun r:Result Bool=>r.andThen fun b w'=>Result.ok (Value.bool (!b)) w') (Ztt 9994 x y w)
def Zbr(a0 a1 a2:Int):Option Bool:=bif(decide (a0≥a1))then some (decide (a0≤a2))else some false
theorem Zbf(a0 a1 a2:Int)(r:Bool)(hf:Zbr a0 a1 a2=some r):ZaC Tryz.prog 45 [.one (.lit (.int .i64 a0)),.one (.lit (.int .i64 a1)),.one (.lit (.int .i64 a2))] (.one (.lit (.bool r))):=by
 refine ZaC.of Tryz.func45 rfl rfl rfl rfl fun S0 w0=>?_;unfold Zbr at hf;rcases Zai hf with⟨h1,hf⟩|⟨h1,hf⟩
 ·obtain rfl:=oi hf;exact Zan Zaj 4 [rz,rB [(3,true)]] [] [] [] [] (.c h1 .n) (by kernel_rfl) rfl
 ·obtain rfl:=oi hf;exact Zan Zaj 4 [rz,rB [(3,false)]] [] [] [] [] (.c h1 .n) (by kernel_rfl) rfl
def Zcp(v3:Bool)(b1:ZaB)(v4:Bool):Option Bool:=(Zbr b1.fHalf (1:Int) (1073741824:Int)).bind fun x10=>bif x10 then(Zbr b1.fLimit (1:Int) (10000:Int)).bind fun x11=>bif x11 then(Zbr b1.fBanFor (1:Int) (1073741824:Int)).bind fun x12=>bif x12 then(Zbr b1.fBase (1:Int) (1073741824:Int)).bind fun x13=>bif x13 then(Zbr b1.fCap b1.fBase (1073741824:Int)).bind fun x14=>bif x14 then(Zbr b1.fJitter (0:Int) (1073741824:Int)).bind fun x15=>bif v3 then bif v4 then bif x15 then some (decide (b1.fSecret≤(9223372036854775807:Int)))else some false else some false else some false else bif v3 then bif v4 then some false else some false else some false else bif v3 then bif v4 then some false else some false else some false else bif v3 then bif v4 then some false else some false else some false else bif v3 then bif v4 then some false else some false else some false else bif v3 then bif v4 then some false else some false else some false
theorem Zew(S0:Nat→Prop)(w0:Zbg)(v3:Bool)(b1:ZaB)(v4 r:Bool)(hf:Zcp v3 b1 v4=some r):Good Tryz.prog 93 S0 w0 (bodyPost Tryz.prog Tryz.f11 (Post S0 w0 (.one (.lit (.bool r))))) (at_ [1,1,1] (Zbn Tryz.f11)) ⟨[(1,.one (.ptr 1 0)),(3,.one (.lit (.bool v3))),(4,.one (.lit (.bool v4)))],[(1,.box [.lit (.int .i64 b1.fMaxIn),.lit (.int .i64 b1.fMaxOut),.lit (.int .i64 b1.fShards),.lit (.int .i64 b1.fMaxBans),.lit (.int .i64 b1.fMaxBook),.lit (.int .u64 b1.fSecret),.lit (.int .i64 b1.fQuota.fGroup),.lit (.int .i64 b1.fQuota.fPing),.lit (.int .i64 b1.fQuota.fWork),.lit (.int .i64 b1.fQuota.fTime),.lit (.int .i64 b1.fHalf),.lit (.int .i64 b1.fLimit),.lit (.int .i64 b1.fBanFor),.lit (.int .i64 b1.fBase),.lit (.int .i64 b1.fCap),.lit (.int .i64 b1.fJitter)])]⟩:=by
 unfold Zcp at hf;obtain⟨x10,q17,hf⟩:=Zaf hf;rcases Zai hf with⟨h18,hf⟩|⟨h18,hf⟩
 ·obtain⟨x11,q19,hf⟩:=Zaf hf;have O1:Obl _:=(.c (Zbf _ _ _ _ q17) (.c h18 (.c (Zbf _ _ _ _ q19) .n)));rcases Zai hf with⟨h20,hf⟩|⟨h20,hf⟩
  ·obtain⟨x12,q21,hf⟩:=Zaf hf;have O2:Obl _:=(O1.app (.c h20 (.c (Zbf _ _ _ _ q21) .n)));rcases Zai hf with⟨h22,hf⟩|⟨h22,hf⟩
   ·obtain⟨x13,q23,hf⟩:=Zaf hf;have O3:Obl _:=(O2.app (.c h22 (.c (Zbf _ _ _ _ q23) .n)));rcases Zai hf with⟨h24,hf⟩|⟨h24,hf⟩
    ·obtain⟨x14,q25,hf⟩:=Zaf hf;have O4:Obl _:=(O3.app (.c h24 (.c (Zbf _ _ _ _ q25) .n)));rcases Zai hf with⟨h26,hf⟩|⟨h26,hf⟩
     ·obtain⟨x15,q27,hf⟩:=Zaf hf
      let R5:List RA:=[⟨[(2,aB x10),(6,aB x11),(11,aB x12),(16,aB x13),(23,aB x14),(28,aB x15)],[(3,true),(8,true),(13,true),(18,true),(25,true)],[],[],[],[],[]⟩]
      have O6:Obl _:=(O4.app (.c h26 (.c (Zbf _ _ _ _ q27) .n)));rcases Zai hf with⟨h28,hf⟩|⟨h28,hf⟩
      ·rcases Zai hf with⟨h29,hf⟩|⟨h29,hf⟩
       ·rcases Zai hf with⟨h30,hf⟩|⟨h30,hf⟩
        ·obtain rfl:=oi hf;exact Zan Zaj 4 (R5++[rB [(1,true),(4,true),(7,true)]]) [] [] [] [] (O6.app (.c h28 (.c h29 (.c h30 .n)))) (by kernel_rfl) rfl
        ·obtain rfl:=oi hf;exact Zan Zaj 4 (R5++[rB [(1,true),(4,true),(7,false)]]) [] [] [] [] (O6.app (.c h28 (.c h29 (.c h30 .n)))) (by kernel_rfl) rfl
       ·obtain rfl:=oi hf;exact Zan Zaj 4 (R5++[rB [(1,true),(4,false)]]) [] [] [] [] (O6.app (.c h28 (.c h29 .n))) (by kernel_rfl) rfl
      ·obtain rfl:=oi hf;exact Zan Zaj 4 (R5++[rB [(1,false)]]) [] [] [] [] (O6.app (.c h28 .n)) (by kernel_rfl) rfl
     ·let R7:List RA:=[⟨[(2,aB x10),(6,aB x11),(11,aB x12),(16,aB x13),(23,aB x14)],[(3,true),(8,true),(13,true),(18,true),(25,false)],[],[],[],[],[]⟩]
      rcases Zai hf with⟨h31,hf⟩|⟨h31,hf⟩
      ·rcases Zai hf with⟨h32,hf⟩|⟨h32,hf⟩
       ·obtain rfl:=oi hf;exact Zan Zaj 4 (R7++[rB [(1,true),(4,true)]]) [] [] [] [] (O4.app (.c h26 (.c h31 (.c h32 .n)))) (by kernel_rfl) rfl
       ·obtain rfl:=oi hf;exact Zan Zaj 4 (R7++[rB [(1,true),(4,false)]]) [] [] [] [] (O4.app (.c h26 (.c h31 (.c h32 .n)))) (by kernel_rfl) rfl
      ·obtain rfl:=oi hf;exact Zan Zaj 4 (R7++[rB [(1,false)]]) [] [] [] [] (O4.app (.c h26 (.c h31 .n))) (by kernel_rfl) rfl
    ·let R8:List RA:=[⟨[(2,aB x10),(6,aB x11),(11,aB x12),(16,aB x13)],[(3,true),(8,true),(13,true),(18,false)],[],[],[],[],[]⟩]
     rcases Zai hf with⟨h33,hf⟩|⟨h33,hf⟩
     ·rcases Zai hf with⟨h34,hf⟩|⟨h34,hf⟩
      ·obtain rfl:=oi hf;exact Zan Zaj 4 (R8++[rB [(1,true),(4,true)]]) [] [] [] [] (O3.app (.c h24 (.c h33 (.c h34 .n)))) (by kernel_rfl) rfl
      ·obtain rfl:=oi hf;exact Zan Zaj 4 (R8++[rB [(1,true),(4,false)]]) [] [] [] [] (O3.app (.c h24 (.c h33 (.c h34 .n)))) (by kernel_rfl) rfl
     ·obtain rfl:=oi hf;exact Zan Zaj 4 (R8++[rB [(1,false)]]) [] [] [] [] (O3.app (.c h24 (.c h33 .n))) (by kernel_rfl) rfl
   ·let R9:List RA:=[⟨[(2,aB x10),(6,aB x11),(11,aB x12)],[(3,true),(8,true),(13,false)],[],[],[],[],[]⟩]
    rcases Zai hf with⟨h35,hf⟩|⟨h35,hf⟩
    ·rcases Zai hf with⟨h36,hf⟩|⟨h36,hf⟩
     ·obtain rfl:=oi hf;exact Zan Zaj 4 (R9++[rB [(1,true),(4,true)]]) [] [] [] [] (O2.app (.c h22 (.c h35 (.c h36 .n)))) (by kernel_rfl) rfl
     ·obtain rfl:=oi hf;exact Zan Zaj 4 (R9++[rB [(1,true),(4,false)]]) [] [] [] [] (O2.app (.c h22 (.c h35 (.c h36 .n)))) (by kernel_rfl) rfl
    ·obtain rfl:=oi hf;exact Zan Zaj 4 (R9++[rB [(1,false)]]) [] [] [] [] (O2.app (.c h22 (.c h35 .n))) (by kernel_rfl) rfl
  ·let R10:List RA:=[⟨[(2,aB x10),(6,aB x11)],[(3,true),(8,false)],[],[],[],[],[]⟩]
   rcases Zai hf with⟨h37,hf⟩|⟨h37,hf⟩
   ·rcases Zai hf with⟨h38,hf⟩|⟨h38,hf⟩
    ·obtain rfl:=oi hf;exact Zan Zaj 4 (R10++[rB [(1,true),(4,true)]]) [] [] [] [] (O1.app (.c h20 (.c h37 (.c h38 .n)))) (by kernel_rfl) rfl
    ·obtain rfl:=oi hf;exact Zan Zaj 4 (R10++[rB [(1,true),(4,false)]]) [] [] [] [] (O1.app (.c h20 (.c h37 (.c h38 .n)))) (by kernel_rfl) rfl
   ·obtain rfl:=oi hf;exact Zan Zaj 4 (R10++[rB [(1,false)]]) [] [] [] [] (O1.app (.c h20 (.c h37 .n))) (by kernel_rfl) rfl
 ·let R11:List RA:=[⟨[(2,aB x10)],[(3,false)],[],[],[],[],[]⟩]
  have O12:Obl _:=(.c (Zbf _ _ _ _ q17) (.c h18 .n));rcases Zai hf with⟨h39,hf⟩|⟨h39,hf⟩
  ·rcases Zai hf with⟨h40,hf⟩|⟨h40,hf⟩
   ·obtain rfl:=oi hf;exact Zan Zaj 4 (R11++[rB [(1,true),(4,true)]]) [] [] [] [] (O12.app (.c h39 (.c h40 .n))) (by kernel_rfl) rfl
   ·obtain rfl:=oi hf;exact Zan Zaj 4 (R11++[rB [(1,true),(4,false)]]) [] [] [] [] (O12.app (.c h39 (.c h40 .n))) (by kernel_rfl) rfl
  ·obtain rfl:=oi hf;exact Zan Zaj 4 (R11++[rB [(1,false)]]) [] [] [] [] (O12.app (.c h39 .n)) (by kernel_rfl) rfl
def ZbQ(v3:Bool)(b1:ZaB):Option Bool:=(Zbr b1.fQuota.fGroup (0:Int) (64:Int)).bind fun x6=>bif x6 then(Zbr b1.fQuota.fPing (0:Int) (64:Int)).bind fun x7=>bif x7 then(Zbr b1.fQuota.fWork (0:Int) (64:Int)).bind fun x8=>bif x8 then(Zbr b1.fQuota.fTime (0:Int) (64:Int)).bind fun x9=>Zcp v3 b1 x9 else Zcp v3 b1 false else Zcp v3 b1 false else Zcp v3 b1 false
theorem Zdy(S0:Nat→Prop)(w0:Zbg)(v3:Bool)(b1:ZaB)(r:Bool)(hf:ZbQ v3 b1=some r):Good Tryz.prog 93 S0 w0 (bodyPost Tryz.prog Tryz.f11 (Post S0 w0 (.one (.lit (.bool r))))) (at_ [1,1] (Zbn Tryz.f11)) ⟨[(1,.one (.ptr 1 0)),(3,.one (.lit (.bool v3)))],[(1,.box [.lit (.int .i64 b1.fMaxIn),.lit (.int .i64 b1.fMaxOut),.lit (.int .i64 b1.fShards),.lit (.int .i64 b1.fMaxBans),.lit (.int .i64 b1.fMaxBook),.lit (.int .u64 b1.fSecret),.lit (.int .i64 b1.fQuota.fGroup),.lit (.int .i64 b1.fQuota.fPing),.lit (.int .i64 b1.fQuota.fWork),.lit (.int .i64 b1.fQuota.fTime),.lit (.int .i64 b1.fHalf),.lit (.int .i64 b1.fLimit),.lit (.int .i64 b1.fBanFor),.lit (.int .i64 b1.fBase),.lit (.int .i64 b1.fCap),.lit (.int .i64 b1.fJitter)])]⟩:=by
 unfold ZbQ at hf;obtain⟨x6,q10,hf⟩:=Zaf hf;rcases Zai hf with⟨h11,hf⟩|⟨h11,hf⟩
 ·obtain⟨x7,q12,hf⟩:=Zaf hf;have O13:Obl _:=(.c (Zbf _ _ _ _ q10) (.c h11 (.c (Zbf _ _ _ _ q12) .n)));rcases Zai hf with⟨h13,hf⟩|⟨h13,hf⟩
  ·obtain⟨x8,q14,hf⟩:=Zaf hf;have O14:Obl _:=(O13.app (.c h13 (.c (Zbf _ _ _ _ q14) .n)));rcases Zai hf with⟨h15,hf⟩|⟨h15,hf⟩
   ·obtain⟨x9,q16,hf⟩:=Zaf hf;exact ZaH Zaj Post.ends 2 [⟨[(3,aB x6),(8,aB x7),(14,aB x8),(20,aB x9)],[(4,true),(10,true),(16,true)],[],[],[],[],[]⟩] [] ⟨[],[],[],[],[],[1,3,4],[1],[]⟩ (O14.app (.c h15 (.c (Zbf _ _ _ _ q16) .n))) (by kernel_rfl) (Zew S0 w0 v3 b1 x9 r hf)
   ·exact ZaH Zaj Post.ends 2 [⟨[(3,aB x6),(8,aB x7),(14,aB x8)],[(4,true),(10,true),(16,false)],[],[],[],[],[]⟩] [] ⟨[],[],[],[],[],[1,3,4],[1],[]⟩ (O14.app (.c h15 .n)) (by kernel_rfl) (Zew S0 w0 v3 b1 false r hf)
  ·exact ZaH Zaj Post.ends 2 [⟨[(3,aB x6),(8,aB x7)],[(4,true),(10,false)],[],[],[],[],[]⟩] [] ⟨[],[],[],[],[],[1,3,4],[1],[]⟩ (O13.app (.c h13 .n)) (by kernel_rfl) (Zew S0 w0 v3 b1 false r hf)
 ·exact ZaH Zaj Post.ends 2 [⟨[(3,aB x6)],[(4,false)],[],[],[],[],[]⟩] [] ⟨[],[],[],[],[],[1,3,4],[1],[]⟩ (.c (Zbf _ _ _ _ q10) (.c h11 .n)) (by kernel_rfl) (Zew S0 w0 v3 b1 false r hf)
def ZdA(a0:ZaB):Option Bool:=(Zbr a0.fMaxIn (0:Int) (65535:Int)).bind fun x1=>bif x1 then(Zbr a0.fMaxOut (0:Int) (65535:Int)).bind fun x2=>bif x2 then(Zbr a0.fShards (1:Int) (8:Int)).bind fun x3=>bif x3 then(Zbr a0.fMaxBans (0:Int) (1024:Int)).bind fun x4=>bif x4 then(Zbr a0.fMaxBook (0:Int) (1024:Int)).bind fun x5=>ZbQ x5 a0 else ZbQ false a0 else ZbQ false a0 else ZbQ false a0 else ZbQ false a0
theorem Zjo(a0:ZaB)(r:Bool)(hf:ZdA a0=some r):ZaC Tryz.prog 11 [.agg (ZaB.c a0)] (.one (.lit (.bool r))):=by
 refine ZaC.of Tryz.func11 rfl rfl rfl rfl fun S0 w0=>?_;unfold ZdA at hf;obtain⟨x1,q1,hf⟩:=Zaf hf;rcases Zai hf with⟨h2,hf⟩|⟨h2,hf⟩
 ·obtain⟨x2,q3,hf⟩:=Zaf hf;have O15:Obl _:=(.c (Zbf _ _ _ _ q1) (.c h2 (.c (Zbf _ _ _ _ q3) .n)));rcases Zai hf with⟨h4,hf⟩|⟨h4,hf⟩
  ·obtain⟨x3,q5,hf⟩:=Zaf hf;have O16:Obl _:=(O15.app (.c h4 (.c (Zbf _ _ _ _ q5) .n)));rcases Zai hf with⟨h6,hf⟩|⟨h6,hf⟩
   ·obtain⟨x4,q7,hf⟩:=Zaf hf;have O17:Obl _:=(O16.app (.c h6 (.c (Zbf _ _ _ _ q7) .n)));rcases Zai hf with⟨h8,hf⟩|⟨h8,hf⟩
    ·obtain⟨x5,q9,hf⟩:=Zaf hf;exact ZaH Zaj Post.ends 4 [rz,⟨[(2,aB x1),(6,aB x2),(11,aB x3),(16,aB x4),(21,aB x5)],[(3,true),(8,true),(13,true),(18,true)],[],[],[],[],[]⟩] [] ⟨[],[],[],[],[],[1,3],[1],[]⟩ (O17.app (.c h8 (.c (Zbf _ _ _ _ q9) .n))) (by kernel_rfl) (Zdy S0 w0 x5 a0 r hf)
    ·exact ZaH Zaj Post.ends 4 [rz,⟨[(2,aB x1),(6,aB x2),(11,aB x3),(16,aB x4)],[(3,true),(8,true),(13,true),(18,false)],[],[],[],[],[]⟩] [] ⟨[],[],[],[],[],[1,3],[1],[]⟩ (O17.app (.c h8 .n)) (by kernel_rfl) (Zdy S0 w0 false a0 r hf)
   ·exact ZaH Zaj Post.ends 4 [rz,⟨[(2,aB x1),(6,aB x2),(11,aB x3)],[(3,true),(8,true),(13,false)],[],[],[],[],[]⟩] [] ⟨[],[],[],[],[],[1,3],[1],[]⟩ (O16.app (.c h6 .n)) (by kernel_rfl) (Zdy S0 w0 false a0 r hf)
  ·exact ZaH Zaj Post.ends 4 [rz,⟨[(2,aB x1),(6,aB x2)],[(3,true),(8,false)],[],[],[],[],[]⟩] [] ⟨[],[],[],[],[],[1,3],[1],[]⟩ (O15.app (.c h4 .n)) (by kernel_rfl) (Zdy S0 w0 false a0 r hf)
 ·exact ZaH Zaj Post.ends 4 [rz,⟨[(2,aB x1)],[(3,false)],[],[],[],[],[]⟩] [] ⟨[],[],[],[],[],[1,3],[1],[]⟩ (.c (Zbf _ _ _ _ q1) (.c h2 .n)) (by kernel_rfl) (Zdy S0 w0 false a0 r hf)
def Zdo(a0:List Zae):Nat→Int→Option Bool|0,_=>none|fu+1,v3=>bif(decide (v3<((a0.length:Nat):Int)))then bif(decide (v3<(80:Int)))then need (0≤v3∧v3<((a0.length:Nat):Int))<|bif(decide (((((a0.getD v3.toNat Zae.d).fBans).length:Nat):Int)>(20:Int)))then some false else bif(decide (((((a0.getD v3.toNat Zae.d).fBook).length:Nat):Int)>(20:Int)))then some false else Zdo a0 fu (Zaw v3 (1:Int))else some (decide (((a0.length:Nat):Int)≤(80:Int)))else some (decide (((a0.length:Nat):Int)≤(80:Int)))
theorem ZmK(S0:Nat→Prop)(w0:Zbg)(a0:List Zae):∀(fu:Nat)(v3:Int)(r:Bool),Zdo a0 fu v3=some r→Good Tryz.prog 33 S0 w0 (bodyPost Tryz.prog Tryz.f12 (Post S0 w0 (.one (.lit (.bool r))))) (at_ [1,0,1,0] (Zbn Tryz.f12)) ⟨[(0,.one (cL 13 Zae.c Zae.d a0)),(3,.one (.lit (.int .i64 v3)))],[]⟩:=by
 intro fu;induction fu with
 |zero=>
  intro v3 r hf;simp[Zdo]at hf
 |succ fu ih=>
  intro v3 r hf;unfold Zdo at hf;rcases Zai hf with⟨h1,hf⟩|⟨h1,hf⟩
  ·rcases Zai hf with⟨h2,hf⟩|⟨h2,hf⟩
   ·obtain⟨o3,hf⟩:=Zav hf;rcases Zai hf with⟨h4,hf⟩|⟨h4,hf⟩
    ·obtain rfl:=oi hf;exact Zan Zaj 13 [rB [(4,true)],rB [(7,true)],rz] [true,true] [] [] [] (.c h1 (.c h2 (.c o3 (.c h4 (.c (show true=true from rfl) .n))))) (by kernel_rfl) rfl
    ·rcases Zai hf with⟨h5,hf⟩|⟨h5,hf⟩
     ·obtain rfl:=oi hf;exact Zan Zaj 13 [rB [(4,true)],rB [(7,false)],rz] [true,true] [] [] [] (.c h1 (.c h2 (.c o3 (.c h4 (.c o3 (.c h5 .n)))))) (by kernel_rfl) rfl
     ·exact ZaH Zaj Post.ends 15 [rB [(4,true)],rB [(7,false)],rz] [true,false] ⟨[],[],[],[],[],[0,3],[],[]⟩ (.c h1 (.c h2 (.c o3 (.c h4 (.c o3 (.c h5 .n)))))) (by kernel_rfl) (ih (Zaw v3 (1:Int)) r hf)
   ·obtain rfl:=oi hf;exact Zan Zaj 8 [rB [(4,true)],rz] [false] [] [] [] (.c h1 (.c h2 .n)) (by kernel_rfl) rfl
  ·obtain rfl:=oi hf;exact Zan Zaj 8 [rB [(4,false)],rz] [false] [] [] [] (.c h1 (.c (show false=false from rfl) .n)) (by kernel_rfl) rfl
def ZhM(a0:List Zae):Option Bool:=Zdo a0 (((80:Int)-(0:Int)).toNat+2) (0:Int)
theorem Zoo(a0:List Zae)(r:Bool)(hf:ZhM a0=some r):ZaC Tryz.prog 12 [.one (cL 13 Zae.c Zae.d a0)] (.one (.lit (.bool r))):=by
 refine ZaC.of Tryz.func12 rfl rfl rfl rfl fun S0 w0=>?_;unfold ZhM at hf;exact ZaH Zaj Post.ends 6 [rz,rz] [] ⟨[],[],[],[],[],[0,3],[],[]⟩ .n (by kernel_rfl) (ZmK S0 w0 a0 (((80:Int)-(0:Int)).toNat+2) (0:Int) r hf)
def Zip:Option ZaB:=some (ZaB.mk (8:Int) (4:Int) (4:Int) (64:Int) (64:Int) (1:Int) (ZdD.mk (1:Int) (1:Int) (1:Int) (1:Int)) (100:Int) (100:Int) (1000:Int) (2:Int) (64:Int) (4:Int))
theorem Zjp(r:ZaB)(hf:Zip=some r):ZaC Tryz.prog 46 [] (.agg (ZaB.c r)):=by
 refine ZaC.of Tryz.func46 rfl rfl rfl rfl fun S0 w0=>?_;unfold Zip at hf;obtain rfl:=oi hf;exact Zan Zaj 4 [rz,rz] [] [] [] [] .n (by kernel_rfl) rfl
def ZlO:Option (ByteArray×ByteArray×ByteArray×ByteArray×ByteArray×ByteArray×ByteArray×ByteArray×ByteArray×ByteArray×ByteArray×ByteArray×ByteArray×ByteArray):=some ((⟨#[]⟩ : ByteArray),(⟨#[97,99,99,101,112,116]⟩ : ByteArray),(⟨#[108,101,97,118,101]⟩ : ByteArray),(⟨#[100,105,97,108]⟩ : ByteArray),(⟨#[114,101,115,117,108,116]⟩ : ByteArray),(⟨#[98,108,97,109,101]⟩ : ByteArray),(⟨#[98,97,110]⟩ : ByteArray),(⟨#[117,110,98,97,110]⟩ : ByteArray),(⟨#[98,97,110,110,101,100]⟩ : ByteArray),(⟨#[116,105,99,107]⟩ : ByteArray),(⟨#[108,105,115,116]⟩ : ByteArray),(⟨#[112,111,110,103]⟩ : ByteArray),(⟨#[119,111,114,107]⟩ : ByteArray),(⟨#[108,101,97,114,110]⟩ : ByteArray))
theorem Zsz(r:(ByteArray×ByteArray×ByteArray×ByteArray×ByteArray×ByteArray×ByteArray×ByteArray×ByteArray×ByteArray×ByteArray×ByteArray×ByteArray×ByteArray))(hf:ZlO=some r):ZaC Tryz.prog 211 [] (.agg ((cP cS (cP cS (cP cS (cP cS (cP cS (cP cS (cP cS (cP cS (cP cS (cP cS (cP cS (cP cS (cP cS cS))))))))))))) r)):=by
 refine ZaC.of Tryz.func211 rfl rfl rfl rfl fun S0 w0=>?_;unfold ZlO at hf;obtain rfl:=oi hf;exact Zan Zaj 4 [rz,rz] [] [] [] [] .n (by kernel_rfl) rfl
def Zqb(a0:List ByteArray)(a1:Int):Option ByteArray:=bif(decide (a1<(0:Int)))then some (⟨#[]⟩ : ByteArray)else bif(decide (a1≥((a0.length:Nat):Int)))then some (⟨#[]⟩ : ByteArray)else need (0≤a1∧a1<((a0.length:Nat):Int))<|some (a0.getD a1.toNat ByteArray.empty)
theorem Zwj(a0:List ByteArray)(a1:Int)(r:ByteArray)(hf:Zqb a0 a1=some r):ZaC Tryz.prog 212 [.one (cL 1 cS ByteArray.empty a0),.one (.lit (.int .i64 a1))] (.one (.lit (.string r))):=by
 refine ZaC.of Tryz.func212 rfl rfl rfl rfl fun S0 w0=>?_;unfold Zqb at hf;rcases Zai hf with⟨h1,hf⟩|⟨h1,hf⟩
 ·obtain rfl:=oi hf;exact Zan Zaj 8 [rz,rB [(2,true)],rz] [true] [] [] [] (.c h1 (.c (show true=true from rfl) .n)) (by kernel_rfl) rfl
 ·rcases Zai hf with⟨h2,hf⟩|⟨h2,hf⟩
  ·obtain rfl:=oi hf;exact Zan Zaj 8 [rz,rB [(2,false)],rz] [true] [] [] [] (.c h1 (.c h2 .n)) (by kernel_rfl) rfl
  ·obtain⟨o3,hf⟩:=Zav hf;obtain rfl:=oi hf;exact Zan Zaj 9 [rz,rB [(2,false)],rz] [false] [] [] [] (.c h1 (.c h2 (.c o3 .n))) (by kernel_rfl) rfl
def Zlj(a0:Int):Option ByteArray:=(ZlO).bind fun x1=>(Zqb ([x1.1,x1.2.1,x1.2.2.1,x1.2.2.2.1,x1.2.2.2.2.1,x1.2.2.2.2.2.1,x1.2.2.2.2.2.2.1,x1.2.2.2.2.2.2.2.1,x1.2.2.2.2.2.2.2.2.1,x1.2.2.2.2.2.2.2.2.2.1,x1.2.2.2.2.2.2.2.2.2.2.1,x1.2.2.2.2.2.2.2.2.2.2.2.1,x1.2.2.2.2.2.2.2.2.2.2.2.2.1,x1.2.2.2.2.2.2.2.2.2.2.2.2.2]:List ByteArray) a0).bind fun x2=>some x2
theorem Zpf(a0:Int)(r:ByteArray)(hf:Zlj a0=some r):ZaC Tryz.prog 133 [.one (.lit (.int .i64 a0))] (.one (.lit (.string r))):=by
 refine ZaC.of Tryz.func133 rfl rfl rfl rfl fun S0 w0=>?_;unfold Zlj at hf;obtain⟨x1,q1,hf⟩:=Zaf hf;obtain⟨x2,q2,hf⟩:=Zaf hf;obtain rfl:=oi hf;exact Zan Zaj 6 [rz,rA [(0,aG ((cP cS (cP cS (cP cS (cP cS (cP cS (cP cS (cP cS (cP cS (cP cS (cP cS (cP cS (cP cS (cP cS cS))))))))))))) x1))],⟨[(2,.r (.one (.lit (.string x2))) [])],[],[(0,[3])],[],[],[(0,(([x1.1,x1.2.1,x1.2.2.1,x1.2.2.2.1,x1.2.2.2.2.1,x1.2.2.2.2.2.1,x1.2.2.2.2.2.2.1,x1.2.2.2.2.2.2.2.1,x1.2.2.2.2.2.2.2.2.1,x1.2.2.2.2.2.2.2.2.2.1,x1.2.2.2.2.2.2.2.2.2.2.1,x1.2.2.2.2.2.2.2.2.2.2.2.1,x1.2.2.2.2.2.2.2.2.2.2.2.2.1,x1.2.2.2.2.2.2.2.2.2.2.2.2.2]:List ByteArray).length,Zam cS ByteArray.empty ([x1.1,x1.2.1,x1.2.2.1,x1.2.2.2.1,x1.2.2.2.2.1,x1.2.2.2.2.2.1,x1.2.2.2.2.2.2.1,x1.2.2.2.2.2.2.2.1,x1.2.2.2.2.2.2.2.2.1,x1.2.2.2.2.2.2.2.2.2.1,x1.2.2.2.2.2.2.2.2.2.2.1,x1.2.2.2.2.2.2.2.2.2.2.2.1,x1.2.2.2.2.2.2.2.2.2.2.2.2.1,x1.2.2.2.2.2.2.2.2.2.2.2.2.2]:List ByteArray)))],[]⟩] [] [] [] [] (.c (Zsz _ q1) (.c (show ([x1.1,x1.2.1,x1.2.2.1,x1.2.2.2.1,x1.2.2.2.2.1,x1.2.2.2.2.2.1,x1.2.2.2.2.2.2.1,x1.2.2.2.2.2.2.2.1,x1.2.2.2.2.2.2.2.2.1,x1.2.2.2.2.2.2.2.2.2.1,x1.2.2.2.2.2.2.2.2.2.2.1,x1.2.2.2.2.2.2.2.2.2.2.2.1,x1.2.2.2.2.2.2.2.2.2.2.2.2.1,x1.2.2.2.2.2.2.2.2.2.2.2.2.2]:List ByteArray).length=14∧∀i j,i<14→j<1→Zam cS ByteArray.empty ([x1.1,x1.2.1,x1.2.2.1,x1.2.2.2.1,x1.2.2.2.2.1,x1.2.2.2.2.2.1,x1.2.2.2.2.2.2.1,x1.2.2.2.2.2.2.2.1,x1.2.2.2.2.2.2.2.2.1,x1.2.2.2.2.2.2.2.2.2.1,x1.2.2.2.2.2.2.2.2.2.2.1,x1.2.2.2.2.2.2.2.2.2.2.2.1,x1.2.2.2.2.2.2.2.2.2.2.2.2.1,x1.2.2.2.2.2.2.2.2.2.2.2.2.2]:List ByteArray) i j=([.lit (.string x1.1),.lit (.string x1.2.1),.lit (.string x1.2.2.1),.lit (.string x1.2.2.2.1),.lit (.string x1.2.2.2.2.1),.lit (.string x1.2.2.2.2.2.1),.lit (.string x1.2.2.2.2.2.2.1),.lit (.string x1.2.2.2.2.2.2.2.1),.lit (.string x1.2.2.2.2.2.2.2.2.1),.lit (.string x1.2.2.2.2.2.2.2.2.2.1),.lit (.string x1.2.2.2.2.2.2.2.2.2.2.1),.lit (.string x1.2.2.2.2.2.2.2.2.2.2.2.1),.lit (.string x1.2.2.2.2.2.2.2.2.2.2.2.2.1),.lit (.string x1.2.2.2.2.2.2.2.2.2.2.2.2.2)]:List C).getD (0+(i * 1+j)) .junk from⟨rfl,ZDu (sz:=1) cS ByteArray.empty ([x1.1,x1.2.1,x1.2.2.1,x1.2.2.2.1,x1.2.2.2.2.1,x1.2.2.2.2.2.1,x1.2.2.2.2.2.2.1,x1.2.2.2.2.2.2.2.1,x1.2.2.2.2.2.2.2.2.1,x1.2.2.2.2.2.2.2.2.2.1,x1.2.2.2.2.2.2.2.2.2.2.1,x1.2.2.2.2.2.2.2.2.2.2.2.1,x1.2.2.2.2.2.2.2.2.2.2.2.2.1,x1.2.2.2.2.2.2.2.2.2.2.2.2.2]:List ByteArray) [.lit (.string x1.1),.lit (.string x1.2.1),.lit (.string x1.2.2.1),.lit (.string x1.2.2.2.1),.lit (.string x1.2.2.2.2.1),.lit (.string x1.2.2.2.2.2.1),.lit (.string x1.2.2.2.2.2.2.1),.lit (.string x1.2.2.2.2.2.2.2.1),.lit (.string x1.2.2.2.2.2.2.2.2.1),.lit (.string x1.2.2.2.2.2.2.2.2.2.1),.lit (.string x1.2.2.2.2.2.2.2.2.2.2.1),.lit (.string x1.2.2.2.2.2.2.2.2.2.2.2.1),.lit (.string x1.2.2.2.2.2.2.2.2.2.2.2.2.1),.lit (.string x1.2.2.2.2.2.2.2.2.2.2.2.2.2)] (fun _=>rfl) rfl⟩) (.c (Zwj _ _ _ q2) .n))) (by kernel_rfl) rfl
def Zjs(v3:Int)(v12:Bool):Option (List Int):=bif v12 then some ([(3:Int)]:List Int)else bif(v3==(4:Int))then some ([(0:Int),(5:Int),(3:Int),(4:Int)]:List Int)else bif(v3==(5:Int))then some ([(0:Int),(4:Int),(3:Int)]:List Int)else bif(v3==(6:Int))then some ([(1:Int),(4:Int),(3:Int)]:List Int)else bif(v3==(7:Int))then some ([(1:Int)]:List Int)else bif(v3==(8:Int))then some ([(2:Int),(3:Int)]:List Int)else bif(v3==(11:Int))then some ([(0:Int),(4:Int)]:List Int)else some ([]:List Int)
theorem ZlQ(S0:Nat→Prop)(w0:Zbg)(v3:Int)(v12:Bool)(r:List Int)(hf:Zjs v3 v12=some r):Good Tryz.prog 34 S0 w0 (bodyPost Tryz.prog Tryz.f134 (Zbp S0 w0 [(99999,.rows 181 1 r.length (Zam (cI .i64) (0:Int) r))] (.one (.osl 99999 r.length)))) (at_ [1,0,1,0,1,1,1,1,1] (Zbn Tryz.f134)) ⟨[(3,.one (.lit (.int .i64 v3))),(12,.one (.lit (.bool v12)))],[]⟩:=by
 unfold Zjs at hf;rcases Zai hf with⟨h5,hf⟩|⟨h5,hf⟩
 ·obtain rfl:=oi hf;exact ZbA Zaj 3 [rA [(0,.c ([(3:Int)]:List Int).length (Zam (cI .i64) (0:Int) ([(3:Int)]:List Int)))]] [true] ⟨[],[],[],[],[],[2],[15],[(15,99999)]⟩ (.c h5 (.c (show ([(3:Int)]:List Int).length=1 from rfl) (.c (show ∀i j,i<1→j<1→Zam (cI .i64) (0:Int) ([(3:Int)]:List Int) i j=(([(3:Int)]:List Int).flatMap (cI .i64)).getD (i * 1+j) .junk from(fun i j hi hj=>ZaT (sz:=1) (e:=(cI .i64)) (d:=(0:Int)) (fun _=>rfl) ([(3:Int)]:List Int) i j hi hj)) .n))) (by kernel_rfl)
 ·rcases Zai hf with⟨h6,hf⟩|⟨h6,hf⟩
  ·obtain rfl:=oi hf;exact ZbA Zaj 6 [rz,rA [(0,.c ([(0:Int),(5:Int),(3:Int),(4:Int)]:List Int).length (Zam (cI .i64) (0:Int) ([(0:Int),(5:Int),(3:Int),(4:Int)]:List Int)))]] [false,true] ⟨[],[],[],[],[],[2],[18],[(18,99999)]⟩ (.c h5 (.c h6 (.c (show ([(0:Int),(5:Int),(3:Int),(4:Int)]:List Int).length=4 from rfl) (.c (show ∀i j,i<4→j<1→Zam (cI .i64) (0:Int) ([(0:Int),(5:Int),(3:Int),(4:Int)]:List Int) i j=(([(0:Int),(5:Int),(3:Int),(4:Int)]:List Int).flatMap (cI .i64)).getD (i * 1+j) .junk from(fun i j hi hj=>ZaT (sz:=1) (e:=(cI .i64)) (d:=(0:Int)) (fun _=>rfl) ([(0:Int),(5:Int),(3:Int),(4:Int)]:List Int) i j hi hj)) .n)))) (by kernel_rfl)
  ·rcases Zai hf with⟨h7,hf⟩|⟨h7,hf⟩
   ·obtain rfl:=oi hf;exact ZbA Zaj 9 [rz,rz,rA [(0,.c ([(0:Int),(4:Int),(3:Int)]:List Int).length (Zam (cI .i64) (0:Int) ([(0:Int),(4:Int),(3:Int)]:List Int)))]] [false,false,true] ⟨[],[],[],[],[],[2],[21],[(21,99999)]⟩ (.c h5 (.c h6 (.c h7 (.c (show ([(0:Int),(4:Int),(3:Int)]:List Int).length=3 from rfl) (.c (show ∀i j,i<3→j<1→Zam (cI .i64) (0:Int) ([(0:Int),(4:Int),(3:Int)]:List Int) i j=(([(0:Int),(4:Int),(3:Int)]:List Int).flatMap (cI .i64)).getD (i * 1+j) .junk from(fun i j hi hj=>ZaT (sz:=1) (e:=(cI .i64)) (d:=(0:Int)) (fun _=>rfl) ([(0:Int),(4:Int),(3:Int)]:List Int) i j hi hj)) .n))))) (by kernel_rfl)
   ·rcases Zai hf with⟨h8,hf⟩|⟨h8,hf⟩
    ·obtain rfl:=oi hf;exact ZbA Zaj 12 [rz,rz,rz,rA [(0,.c ([(1:Int),(4:Int),(3:Int)]:List Int).length (Zam (cI .i64) (0:Int) ([(1:Int),(4:Int),(3:Int)]:List Int)))]] [false,false,false,true] ⟨[],[],[],[],[],[2],[24],[(24,99999)]⟩ (.c h5 (.c h6 (.c h7 (.c h8 (.c (show ([(1:Int),(4:Int),(3:Int)]:List Int).length=3 from rfl) (.c (show ∀i j,i<3→j<1→Zam (cI .i64) (0:Int) ([(1:Int),(4:Int),(3:Int)]:List Int) i j=(([(1:Int),(4:Int),(3:Int)]:List Int).flatMap (cI .i64)).getD (i * 1+j) .junk from(fun i j hi hj=>ZaT (sz:=1) (e:=(cI .i64)) (d:=(0:Int)) (fun _=>rfl) ([(1:Int),(4:Int),(3:Int)]:List Int) i j hi hj)) .n)))))) (by kernel_rfl)
    ·rcases Zai hf with⟨h9,hf⟩|⟨h9,hf⟩
     ·obtain rfl:=oi hf;exact ZbA Zaj 15 [rz,rz,rz,rz,rA [(0,.c ([(1:Int)]:List Int).length (Zam (cI .i64) (0:Int) ([(1:Int)]:List Int)))]] [false,false,false,false,true] ⟨[],[],[],[],[],[2],[27],[(27,99999)]⟩ (.c h5 (.c h6 (.c h7 (.c h8 (.c h9 (.c (show ([(1:Int)]:List Int).length=1 from rfl) (.c (show ∀i j,i<1→j<1→Zam (cI .i64) (0:Int) ([(1:Int)]:List Int) i j=(([(1:Int)]:List Int).flatMap (cI .i64)).getD (i * 1+j) .junk from(fun i j hi hj=>ZaT (sz:=1) (e:=(cI .i64)) (d:=(0:Int)) (fun _=>rfl) ([(1:Int)]:List Int) i j hi hj)) .n))))))) (by kernel_rfl)
     ·rcases Zai hf with⟨h10,hf⟩|⟨h10,hf⟩
      ·obtain rfl:=oi hf;exact ZbA Zaj 18 [rz,rz,rz,rz,rz,rA [(0,.c ([(2:Int),(3:Int)]:List Int).length (Zam (cI .i64) (0:Int) ([(2:Int),(3:Int)]:List Int)))]] [false,false,false,false,false,true] ⟨[],[],[],[],[],[2],[30],[(30,99999)]⟩ (.c h5 (.c h6 (.c h7 (.c h8 (.c h9 (.c h10 (.c (show ([(2:Int),(3:Int)]:List Int).length=2 from rfl) (.c (show ∀i j,i<2→j<1→Zam (cI .i64) (0:Int) ([(2:Int),(3:Int)]:List Int) i j=(([(2:Int),(3:Int)]:List Int).flatMap (cI .i64)).getD (i * 1+j) .junk from(fun i j hi hj=>ZaT (sz:=1) (e:=(cI .i64)) (d:=(0:Int)) (fun _=>rfl) ([(2:Int),(3:Int)]:List Int) i j hi hj)) .n)))))))) (by kernel_rfl)
      ·have O1:Obl _:=(.c h5 (.c h6 (.c h7 (.c h8 (.c h9 (.c h10 .n))))));rcases Zai hf with⟨h11,hf⟩|⟨h11,hf⟩
       ·obtain rfl:=oi hf;exact ZbA Zaj 21 [rz,rz,rz,rz,rz,rz,rA [(0,.c ([(0:Int),(4:Int)]:List Int).length (Zam (cI .i64) (0:Int) ([(0:Int),(4:Int)]:List Int)))]] [false,false,false,false,false,false,true] ⟨[],[],[],[],[],[2],[33],[(33,99999)]⟩ (O1.app (.c h11 (.c (show ([(0:Int),(4:Int)]:List Int).length=2 from rfl) (.c (show ∀i j,i<2→j<1→Zam (cI .i64) (0:Int) ([(0:Int),(4:Int)]:List Int) i j=(([(0:Int),(4:Int)]:List Int).flatMap (cI .i64)).getD (i * 1+j) .junk from(fun i j hi hj=>ZaT (sz:=1) (e:=(cI .i64)) (d:=(0:Int)) (fun _=>rfl) ([(0:Int),(4:Int)]:List Int) i j hi hj)) .n)))) (by kernel_rfl)
       ·obtain rfl:=oi hf;exact ZbA Zaj 23 [rz,rz,rz,rz,rz,rz,rz] [false,false,false,false,false,false,false] ⟨[],[],[],[],[(2,99999,181,1,Zam (cI .i64) (0:Int) [])],[2],[99999],[]⟩ (O1.app (.c h11 .n)) (by kernel_rfl)
def Zia(v3:Int)(v4:Bool):Option (List Int):=bif v4 then some ([(0:Int),(3:Int)]:List Int)else bif(v3==(2:Int))then some ([(0:Int)]:List Int)else bif(v3==(3:Int))then Zjs v3 (v3==(3:Int))else Zjs v3 (v3==(9:Int))
theorem Zjt(S0:Nat→Prop)(w0:Zbg)(v3:Int)(v4:Bool)(r:List Int)(hf:Zia v3 v4=some r):Good Tryz.prog 34 S0 w0 (bodyPost Tryz.prog Tryz.f134 (Zbp S0 w0 [(99999,.rows 181 1 r.length (Zam (cI .i64) (0:Int) r))] (.one (.osl 99999 r.length)))) (at_ [1,0,1,0,1] (Zbn Tryz.f134)) ⟨[(3,.one (.lit (.int .i64 v3))),(4,.one (.lit (.bool v4)))],[]⟩:=by
 unfold Zia at hf;rcases Zai hf with⟨h2,hf⟩|⟨h2,hf⟩
 ·obtain rfl:=oi hf;exact ZbA Zaj 3 [rA [(0,.c ([(0:Int),(3:Int)]:List Int).length (Zam (cI .i64) (0:Int) ([(0:Int),(3:Int)]:List Int)))]] [true] ⟨[],[],[],[],[],[2],[8],[(8,99999)]⟩ (.c h2 (.c (show ([(0:Int),(3:Int)]:List Int).length=2 from rfl) (.c (show ∀i j,i<2→j<1→Zam (cI .i64) (0:Int) ([(0:Int),(3:Int)]:List Int) i j=(([(0:Int),(3:Int)]:List Int).flatMap (cI .i64)).getD (i * 1+j) .junk from(fun i j hi hj=>ZaT (sz:=1) (e:=(cI .i64)) (d:=(0:Int)) (fun _=>rfl) ([(0:Int),(3:Int)]:List Int) i j hi hj)) .n))) (by kernel_rfl)
 ·rcases Zai hf with⟨h3,hf⟩|⟨h3,hf⟩
  ·obtain rfl:=oi hf;exact ZbA Zaj 6 [rz,rA [(0,.c ([(0:Int)]:List Int).length (Zam (cI .i64) (0:Int) ([(0:Int)]:List Int)))]] [false,true] ⟨[],[],[],[],[],[2],[11],[(11,99999)]⟩ (.c h2 (.c h3 (.c (show ([(0:Int)]:List Int).length=1 from rfl) (.c (show ∀i j,i<1→j<1→Zam (cI .i64) (0:Int) ([(0:Int)]:List Int) i j=(([(0:Int)]:List Int).flatMap (cI .i64)).getD (i * 1+j) .junk from(fun i j hi hj=>ZaT (sz:=1) (e:=(cI .i64)) (d:=(0:Int)) (fun _=>rfl) ([(0:Int)]:List Int) i j hi hj)) .n)))) (by kernel_rfl)
  ·rcases Zai hf with⟨h4,hf⟩|⟨h4,hf⟩
   ·exact ZaH Zaj Zbp.ends 9 [rz,rz] [false,false,true] ⟨[],[],[],[],[],[3,12],[],[]⟩ (.c h2 (.c h3 (.c h4 .n))) (by kernel_rfl) (ZlQ S0 w0 v3 (v3==(3:Int)) r hf)
   ·exact ZaH Zaj Zbp.ends 9 [rz,rz,rz] [false,false,false] ⟨[],[],[],[],[],[3,12],[],[]⟩ (.c h2 (.c h3 (.c h4 .n))) (by kernel_rfl) (ZlQ S0 w0 v3 (v3==(9:Int)) r hf)
def ZiW(a0:Int):Option (List Int):=bif(a0==(1:Int))then Zia a0 (a0==(1:Int))else bif(a0==(12:Int))then Zia a0 (a0==(12:Int))else Zia a0 (a0==(13:Int))
theorem Zrj(a0:Int)(r:List Int)(hf:ZiW a0=some r):Zcl Tryz.prog 134 [] [.one (.lit (.int .i64 a0))] [(99999,.rows 181 1 r.length (Zam (cI .i64) (0:Int) r))] (.one (.osl 99999 r.length)):=by
 refine Zcl.of Tryz.func134 rfl rfl rfl rfl fun S0 w0=>?_;unfold ZiW at hf;rcases Zai hf with⟨h1,hf⟩|⟨h1,hf⟩
 ·exact ZaH Zaj Zbp.ends 11 [rz,rz,rz] [true] ⟨[],[],[],[],[],[3,4],[],[]⟩ (.c h1 .n) (by kernel_rfl) (Zjt S0 w0 a0 (a0==(1:Int)) r hf)
 ·rcases Zai hf with⟨h2,hf⟩|⟨h2,hf⟩
  ·exact ZaH Zaj Zbp.ends 14 [rz,rz,rz,rz] [false,true] ⟨[],[],[],[],[],[3,4],[],[]⟩ (.c h1 (.c h2 .n)) (by kernel_rfl) (Zjt S0 w0 a0 (a0==(12:Int)) r hf)
  ·exact ZaH Zaj Zbp.ends 14 [rz,rz,rz,rz,rz] [false,false] ⟨[],[],[],[],[],[3,4],[],[]⟩ (.c h1 (.c h2 .n)) (by kernel_rfl) (Zjt S0 w0 a0 (a0==(13:Int)) r hf)
theorem ZsB(a0:Int)(r:List Int)(hf:ZiW a0=some r):ZaC Tryz.prog 134 [.one (.lit (.int .i64 a0))] (.one (cL 1 (cI .i64) (0:Int) r)):=(Zrj a0 r hf).pure
def ZmM(a0:Int):Option Zag:=some (Zag.mk false (0:Int) (IntKind.wrap .u64 a0))
theorem ZqY(a0:Int)(r:Zag)(hf:ZmM a0=some r):ZaC Tryz.prog 282 [.one (.lit (.int .u32 a0))] (.agg (Zag.c r)):=by
 refine ZaC.of Tryz.func282 rfl rfl rfl rfl fun S0 w0=>?_;unfold ZmM at hf;obtain rfl:=oi hf;exact Zan Zaj 4 [rz,rz] [] [] [] [] .n (by kernel_rfl) rfl
def Zqh(a0 a1:Int):Option Zag:=bif(a0==(0:Int))then bif((Int.fdiv a1 (2 ^ (min (32:Int).toNat (IntKind.bits .u64))))==(65535:Int))then(ZmM (IntKind.wrap .u32 (IntKind.wrap .u64 (((BitVec.ofInt (IntKind.bits .u64) a1) &&& (BitVec.ofInt (IntKind.bits .u64) (4294967295:Int))).toNat:Int)))).bind fun x1=>some x1 else some (Zag.mk true a0 a1)else some (Zag.mk true a0 a1)
theorem Zwk(a0 a1:Int)(r:Zag)(hf:Zqh a0 a1=some r):ZaC Tryz.prog 281 [.one (.lit (.int .u64 a0)),.one (.lit (.int .u64 a1))] (.agg (Zag.c r)):=by
 refine ZaC.of Tryz.func281 rfl rfl rfl rfl fun S0 w0=>?_;unfold Zqh at hf;rcases Zai hf with⟨h1,hf⟩|⟨h1,hf⟩
 ·have O1:Obl _:=(.c h1 (.c (show 0≤(32:Int)from(by decide)) .n));rcases Zai hf with⟨h2,hf⟩|⟨h2,hf⟩
  ·obtain⟨x1,q3,hf⟩:=Zaf hf;obtain rfl:=oi hf;exact Zan Zaj 8 [rz,rB [(2,true)],rA [(3,aG (Zag.c x1))]] [true] [] [] [] (O1.app (.c h2 (.c (ZqY _ _ q3) .n))) (by kernel_rfl) rfl
  ·obtain rfl:=oi hf;exact Zan Zaj 9 [rz,rB [(2,true)],rz] [false] [] [] [] (O1.app (.c h2 .n)) (by kernel_rfl) rfl
 ·obtain rfl:=oi hf;exact Zan Zaj 9 [rz,rB [(2,false)],rz] [false] [] [] [] (.c h1 (.c (show false=false from rfl) .n)) (by kernel_rfl) rfl
def ZeY(a0:Zag):Option Bool:=bif a0.fV6 then(Zqh a0.fHi a0.fLo).bind fun x1=>some (decide (x1=a0))else(ZmM (IntKind.wrap .u32 (IntKind.wrap .u64 (((BitVec.ofInt (IntKind.bits .u64) a0.fLo) &&& (BitVec.ofInt (IntKind.bits .u64) (4294967295:Int))).toNat:Int)))).bind fun x2=>some (decide (x2=a0))
theorem ZcB(a0:Zag)(r:Bool)(hf:ZeY a0=some r):ZaC Tryz.prog 215 [.agg (Zag.c a0)] (.one (.lit (.bool r))):=by
 refine ZaC.of Tryz.func215 rfl rfl rfl rfl fun S0 w0=>?_;unfold ZeY at hf;rcases Zai hf with⟨h1,hf⟩|⟨h1,hf⟩
 ·obtain⟨x1,q2,hf⟩:=Zaf hf;obtain rfl:=oi hf;exact Zan Zaj 8 [rz,rz,rA [(4,aG (Zag.c x1)),(6,aB (decide (x1=a0)))]] [true] [] [] [] (.c h1 (.c (Zwk _ _ _ q2) (.c (ZjV x1 a0 (.tmp 9) (.tmp 10)) .n))) (by kernel_rfl) rfl
 ·obtain⟨x2,q3,hf⟩:=Zaf hf;obtain rfl:=oi hf;exact Zan Zaj 9 [rz,rz,rA [(4,aG (Zag.c x2)),(6,aB (decide (x2=a0)))]] [false] [] [] [] (.c h1 (.c (ZqY _ _ q3) (.c (ZjV x2 a0 (.tmp 16) (.tmp 17)) .n))) (by kernel_rfl) rfl
def Zke(a0:Zah):Option Bool:=(ZeY a0.fAddr).bind fun x1=>bif x1 then bif(decide (a0.fPort≥(1:Int)))then some (decide (a0.fPort≤(65535:Int)))else some false else some false
theorem Zsy(a0:Zah)(r:Bool)(hf:Zke a0=some r):ZaC Tryz.prog 213 [.agg (Zah.c a0)] (.one (.lit (.bool r))):=by
 refine ZaC.of Tryz.func213 rfl rfl rfl rfl fun S0 w0=>?_;unfold Zke at hf;obtain⟨x1,q1,hf⟩:=Zaf hf;rcases Zai hf with⟨h2,hf⟩|⟨h2,hf⟩
 ·rcases Zai hf with⟨h3,hf⟩|⟨h3,hf⟩
  ·obtain rfl:=oi hf;exact Zan Zaj 4 [rz,⟨[(2,aB x1)],[(3,true),(8,true)],[],[],[],[],[]⟩] [] [] [] [] (.c (ZcB _ _ q1) (.c h2 (.c h3 .n))) (by kernel_rfl) rfl
  ·obtain rfl:=oi hf;exact Zan Zaj 4 [rz,⟨[(2,aB x1)],[(3,true),(8,false)],[],[],[],[],[]⟩] [] [] [] [] (.c (ZcB _ _ q1) (.c h2 (.c h3 .n))) (by kernel_rfl) rfl
 ·obtain rfl:=oi hf;exact Zan Zaj 4 [rz,⟨[(2,aB x1)],[(3,false)],[],[],[],[],[]⟩] [] [] [] [] (.c (ZcB _ _ q1) (.c h2 .n)) (by kernel_rfl) rfl
def ZeJ(a0:Zag):Option Int:=bif a0.fV6 then some (128:Int)else some (32:Int)
theorem ZhC(a0:Zag)(r:Int)(hf:ZeJ a0=some r):ZaC Tryz.prog 293 [.agg (Zag.c a0)] (.one (.lit (.int .i64 r))):=by
 refine ZaC.of Tryz.func293 rfl rfl rfl rfl fun S0 w0=>?_;unfold ZeJ at hf;rcases Zai hf with⟨h1,hf⟩|⟨h1,hf⟩
 ·obtain rfl:=oi hf;exact Zan Zaj 8 [rz,rz,rz] [true] [] [] [] (.c h1 .n) (by kernel_rfl) rfl
 ·obtain rfl:=oi hf;exact Zan Zaj 9 [rz,rz,rz] [false] [] [] [] (.c h1 .n) (by kernel_rfl) rfl
def ZfR(a0:Int):Option Int:=some (IntKind.wrap .u64 (((BitVec.ofInt (IntKind.bits .u64) (Int.fdiv (IntKind.wrap .u64 (((BitVec.ofInt (IntKind.bits .u64) (IntKind.wrap .u64 (((BitVec.ofInt (IntKind.bits .u64) (Int.fdiv (IntKind.wrap .u64 (((BitVec.ofInt (IntKind.bits .u64) (IntKind.wrap .u64 (((BitVec.ofInt (IntKind.bits .u64) (Int.fdiv a0 (2 ^ (min (8:Int).toNat (IntKind.bits .u64))))) &&& (BitVec.ofInt (IntKind.bits .u64) (71777214294589695:Int))).toNat:Int))) ||| (BitVec.ofInt (IntKind.bits .u64) (IntKind.wrap .u64 ((IntKind.wrap .u64 (((BitVec.ofInt (IntKind.bits .u64) a0) &&& (BitVec.ofInt (IntKind.bits .u64) (71777214294589695:Int))).toNat:Int)) * 2 ^ (min (8:Int).toNat (IntKind.bits .u64)))))).toNat:Int)) (2 ^ (min (16:Int).toNat (IntKind.bits .u64))))) &&& (BitVec.ofInt (IntKind.bits .u64) (281470681808895:Int))).toNat:Int))) ||| (BitVec.ofInt (IntKind.bits .u64) (IntKind.wrap .u64 ((IntKind.wrap .u64 (((BitVec.ofInt (IntKind.bits .u64) (IntKind.wrap .u64 (((BitVec.ofInt (IntKind.bits .u64) (IntKind.wrap .u64 (((BitVec.ofInt (IntKind.bits .u64) (Int.fdiv a0 (2 ^ (min (8:Int).toNat (IntKind.bits .u64))))) &&& (BitVec.ofInt (IntKind.bits .u64) (71777214294589695:Int))).toNat:Int))) ||| (BitVec.ofInt (IntKind.bits .u64) (IntKind.wrap .u64 ((IntKind.wrap .u64 (((BitVec.ofInt (IntKind.bits .u64) a0) &&& (BitVec.ofInt (IntKind.bits .u64) (71777214294589695:Int))).toNat:Int)) * 2 ^ (min (8:Int).toNat (IntKind.bits .u64)))))).toNat:Int))) &&& (BitVec.ofInt (IntKind.bits .u64) (281470681808895:Int))).toNat:Int)) * 2 ^ (min (16:Int).toNat (IntKind.bits .u64)))))).toNat:Int)) (2 ^ (min (32:Int).toNat (IntKind.bits .u64))))) ||| (BitVec.ofInt (IntKind.bits .u64) (IntKind.wrap .u64 ((IntKind.wrap .u64 (((BitVec.ofInt (IntKind.bits .u64) (IntKind.wrap .u64 (((BitVec.ofInt (IntKind.bits .u64) (Int.fdiv (IntKind.wrap .u64 (((BitVec.ofInt (IntKind.bits .u64) (IntKind.wrap .u64 (((BitVec.ofInt (IntKind.bits .u64) (Int.fdiv a0 (2 ^ (min (8:Int).toNat (IntKind.bits .u64))))) &&& (BitVec.ofInt (IntKind.bits .u64) (71777214294589695:Int))).toNat:Int))) ||| (BitVec.ofInt (IntKind.bits .u64) (IntKind.wrap .u64 ((IntKind.wrap .u64 (((BitVec.ofInt (IntKind.bits .u64) a0) &&& (BitVec.ofInt (IntKind.bits .u64) (71777214294589695:Int))).toNat:Int)) * 2 ^ (min (8:Int).toNat (IntKind.bits .u64)))))).toNat:Int)) (2 ^ (min (16:Int).toNat (IntKind.bits .u64))))) &&& (BitVec.ofInt (IntKind.bits .u64) (281470681808895:Int))).toNat:Int))) ||| (BitVec.ofInt (IntKind.bits .u64) (IntKind.wrap .u64 ((IntKind.wrap .u64 (((BitVec.ofInt (IntKind.bits .u64) (IntKind.wrap .u64 (((BitVec.ofInt (IntKind.bits .u64) (IntKind.wrap .u64 (((BitVec.ofInt (IntKind.bits .u64) (Int.fdiv a0 (2 ^ (min (8:Int).toNat (IntKind.bits .u64))))) &&& (BitVec.ofInt (IntKind.bits .u64) (71777214294589695:Int))).toNat:Int))) ||| (BitVec.ofInt (IntKind.bits .u64) (IntKind.wrap .u64 ((IntKind.wrap .u64 (((BitVec.ofInt (IntKind.bits .u64) a0) &&& (BitVec.ofInt (IntKind.bits .u64) (71777214294589695:Int))).toNat:Int)) * 2 ^ (min (8:Int).toNat (IntKind.bits .u64)))))).toNat:Int))) &&& (BitVec.ofInt (IntKind.bits .u64) (281470681808895:Int))).toNat:Int)) * 2 ^ (min (16:Int).toNat (IntKind.bits .u64)))))).toNat:Int)) * 2 ^ (min (32:Int).toNat (IntKind.bits .u64)))))).toNat:Int))
theorem Zkr(a0 r:Int)(hf:ZfR a0=some r):ZaC Tryz.prog 414 [.one (.lit (.int .u64 a0))] (.one (.lit (.int .u64 r))):=by
 refine ZaC.of Tryz.func414 rfl rfl rfl rfl fun S0 w0=>?_;unfold ZfR at hf;obtain rfl:=oi hf;exact Zan Zaj 8 [rz,rz,rz,rz] [] [] [] [] (.c (show 0≤(8:Int)from(by decide)) (.c (show 0≤(8:Int)from(by decide)) (.c (show 0≤(16:Int)from(by decide)) (.c (show 0≤(16:Int)from(by decide)) (.c (show 0≤(32:Int)from(by decide)) (.c (show 0≤(32:Int)from(by decide)) .n)))))) (by kernel_rfl) rfl
def ZhX(a0:Int):Option Int:=(ZfR (IntKind.wrap .u64 (((BitVec.ofInt (IntKind.bits .u64) (IntKind.wrap .u64 (((BitVec.ofInt (IntKind.bits .u64) (Int.fdiv (IntKind.wrap .u64 (((BitVec.ofInt (IntKind.bits .u64) (IntKind.wrap .u64 (((BitVec.ofInt (IntKind.bits .u64) (Int.fdiv (IntKind.wrap .u64 (((BitVec.ofInt (IntKind.bits .u64) (IntKind.wrap .u64 (((BitVec.ofInt (IntKind.bits .u64) (Int.fdiv a0 (2 ^ (min (1:Int).toNat (IntKind.bits .u64))))) &&& (BitVec.ofInt (IntKind.bits .u64) (6148914691236517205:Int))).toNat:Int))) ||| (BitVec.ofInt (IntKind.bits .u64) (IntKind.wrap .u64 ((IntKind.wrap .u64 (((BitVec.ofInt (IntKind.bits .u64) a0) &&& (BitVec.ofInt (IntKind.bits .u64) (6148914691236517205:Int))).toNat:Int)) * 2 ^ (min (1:Int).toNat (IntKind.bits .u64)))))).toNat:Int)) (2 ^ (min (2:Int).toNat (IntKind.bits .u64))))) &&& (BitVec.ofInt (IntKind.bits .u64) (3689348814741910323:Int))).toNat:Int))) ||| (BitVec.ofInt (IntKind.bits .u64) (IntKind.wrap .u64 ((IntKind.wrap .u64 (((BitVec.ofInt (IntKind.bits .u64) (IntKind.wrap .u64 (((BitVec.ofInt (IntKind.bits .u64) (IntKind.wrap .u64 (((BitVec.ofInt (IntKind.bits .u64) (Int.fdiv a0 (2 ^ (min (1:Int).toNat (IntKind.bits .u64))))) &&& (BitVec.ofInt (IntKind.bits .u64) (6148914691236517205:Int))).toNat:Int))) ||| (BitVec.ofInt (IntKind.bits .u64) (IntKind.wrap .u64 ((IntKind.wrap .u64 (((BitVec.ofInt (IntKind.bits .u64) a0) &&& (BitVec.ofInt (IntKind.bits .u64) (6148914691236517205:Int))).toNat:Int)) * 2 ^ (min (1:Int).toNat (IntKind.bits .u64)))))).toNat:Int))) &&& (BitVec.ofInt (IntKind.bits .u64) (3689348814741910323:Int))).toNat:Int)) * 2 ^ (min (2:Int).toNat (IntKind.bits .u64)))))).toNat:Int)) (2 ^ (min (4:Int).toNat (IntKind.bits .u64))))) &&& (BitVec.ofInt (IntKind.bits .u64) (1085102592571150095:Int))).toNat:Int))) ||| (BitVec.ofInt (IntKind.bits .u64) (IntKind.wrap .u64 ((IntKind.wrap .u64 (((BitVec.ofInt (IntKind.bits .u64) (IntKind.wrap .u64 (((BitVec.ofInt (IntKind.bits .u64) (IntKind.wrap .u64 (((BitVec.ofInt (IntKind.bits .u64) (Int.fdiv (IntKind.wrap .u64 (((BitVec.ofInt (IntKind.bits .u64) (IntKind.wrap .u64 (((BitVec.ofInt (IntKind.bits .u64) (Int.fdiv a0 (2 ^ (min (1:Int).toNat (IntKind.bits .u64))))) &&& (BitVec.ofInt (IntKind.bits .u64) (6148914691236517205:Int))).toNat:Int))) ||| (BitVec.ofInt (IntKind.bits .u64) (IntKind.wrap .u64 ((IntKind.wrap .u64 (((BitVec.ofInt (IntKind.bits .u64) a0) &&& (BitVec.ofInt (IntKind.bits .u64) (6148914691236517205:Int))).toNat:Int)) * 2 ^ (min (1:Int).toNat (IntKind.bits .u64)))))).toNat:Int)) (2 ^ (min (2:Int).toNat (IntKind.bits .u64))))) &&& (BitVec.ofInt (IntKind.bits .u64) (3689348814741910323:Int))).toNat:Int))) ||| (BitVec.ofInt (IntKind.bits .u64) (IntKind.wrap .u64 ((IntKind.wrap .u64 (((BitVec.ofInt (IntKind.bits .u64) (IntKind.wrap .u64 (((BitVec.ofInt (IntKind.bits .u64) (IntKind.wrap .u64 (((BitVec.ofInt (IntKind.bits .u64) (Int.fdiv a0 (2 ^ (min (1:Int).toNat (IntKind.bits .u64))))) &&& (BitVec.ofInt (IntKind.bits .u64) (6148914691236517205:Int))).toNat:Int))) ||| (BitVec.ofInt (IntKind.bits .u64) (IntKind.wrap .u64 ((IntKind.wrap .u64 (((BitVec.ofInt (IntKind.bits .u64) a0) &&& (BitVec.ofInt (IntKind.bits .u64) (6148914691236517205:Int))).toNat:Int)) * 2 ^ (min (1:Int).toNat (IntKind.bits .u64)))))).toNat:Int))) &&& (BitVec.ofInt (IntKind.bits .u64) (3689348814741910323:Int))).toNat:Int)) * 2 ^ (min (2:Int).toNat (IntKind.bits .u64)))))).toNat:Int))) &&& (BitVec.ofInt (IntKind.bits .u64) (1085102592571150095:Int))).toNat:Int)) * 2 ^ (min (4:Int).toNat (IntKind.bits .u64)))))).toNat:Int))).bind fun x1=>some x1
theorem Zmz(a0 r:Int)(hf:ZhX a0=some r):ZaC Tryz.prog 400 [.one (.lit (.int .u64 a0))] (.one (.lit (.int .u64 r))):=by
 refine ZaC.of Tryz.func400 rfl rfl rfl rfl fun S0 w0=>?_;unfold ZhX at hf;obtain⟨x1,q1,hf⟩:=Zaf hf;obtain rfl:=oi hf;exact Zan Zaj 10 [rz,rz,rz,rz,rA [(1,.r (.one (.lit (.int .u64 x1))) [])]] [] [] [] [] (.c (show 0≤(1:Int)from(by decide)) (.c (show 0≤(1:Int)from(by decide)) (.c (show 0≤(2:Int)from(by decide)) (.c (show 0≤(2:Int)from(by decide)) (.c (show 0≤(4:Int)from(by decide)) (.c (show 0≤(4:Int)from(by decide)) (.c (Zkr _ _ q1) .n))))))) (by kernel_rfl) rfl
def ZfX(a0:Int):Option Int:=need (0≤(if(64:Int)<(if(0:Int)>a0 then(0:Int)else a0)then(64:Int)else(if(0:Int)>a0 then(0:Int)else a0)))<|(ZhX (IntKind.wrap .u64 ((IntKind.wrap .u64 ((1:Int) * 2 ^ (min (if(64:Int)<(if(0:Int)>a0 then(0:Int)else a0)then(64:Int)else(if(0:Int)>a0 then(0:Int)else a0)).toNat (IntKind.bits .u64))))-(1:Int)))).bind fun x1=>some x1
theorem Zns(a0 r:Int)(hf:ZfX a0=some r):ZaC Tryz.prog 378 [.one (.lit (.int .i64 a0))] (.one (.lit (.int .u64 r))):=by
 refine ZaC.of Tryz.func378 rfl rfl rfl rfl fun S0 w0=>?_;unfold ZfX at hf;obtain⟨o1,hf⟩:=Zav hf;obtain⟨x1,q2,hf⟩:=Zaf hf;obtain rfl:=oi hf;exact Zan Zaj 6 [rz,rz,rA [(3,.r (.one (.lit (.int .u64 x1))) [])]] [] [] [] [] (.c o1 (.c (Zmz _ _ q2) .n)) (by kernel_rfl) rfl
def ZkE(a0 a1 a2:Int):Option (Int×Int):=(ZfX a2).bind fun x1=>(ZfX (ZaR a2 (64:Int))).bind fun x2=>some ((IntKind.wrap .u64 (((BitVec.ofInt (IntKind.bits .u64) a0) &&& (BitVec.ofInt (IntKind.bits .u64) x1)).toNat:Int)),(IntKind.wrap .u64 (((BitVec.ofInt (IntKind.bits .u64) a1) &&& (BitVec.ofInt (IntKind.bits .u64) x2)).toNat:Int)))
theorem Zri(a0 a1 a2:Int)(r:(Int×Int))(hf:ZkE a0 a1 a2=some r):ZaC Tryz.prog 379 [.one (.lit (.int .u64 a0)),.one (.lit (.int .u64 a1)),.one (.lit (.int .i64 a2))] (.tup [(false,(cI .u64) r.1),(false,(cI .u64) r.2)]):=by
 refine ZaC.of Tryz.func379 rfl rfl rfl rfl fun S0 w0=>?_;unfold ZkE at hf;obtain⟨x1,q1,hf⟩:=Zaf hf;obtain⟨x2,q2,hf⟩:=Zaf hf;obtain rfl:=oi hf;exact Zan Zaj 4 [rz,rA [(2,.r (.one (.lit (.int .u64 x1))) []),(7,.r (.one (.lit (.int .u64 x2))) [])]] [] [] [] [] (.c (Zns _ _ q1) (.c (Zns _ _ q2) .n)) (by kernel_rfl) rfl
def ZiP(a0:Zag)(a1:Int):Option Zag:=(ZeY a0).bind fun x1=>bif(!x1)then some (Zag.mk false (0:Int) (0:Int))else(ZeJ a0).bind fun x2=>bif(!a0.fV6)then(ZfX (if x2<(if(0:Int)>a1 then(0:Int)else a1)then x2 else(if(0:Int)>a1 then(0:Int)else a1))).bind fun x3=>some (Zag.mk a0.fV6 a0.fHi (IntKind.wrap .u64 (((BitVec.ofInt (IntKind.bits .u64) a0.fLo) &&& (BitVec.ofInt (IntKind.bits .u64) (Int.fdiv x3 (2 ^ (min (32:Int).toNat (IntKind.bits .u64)))))).toNat:Int)))else(ZkE a0.fHi a0.fLo (if x2<(if(0:Int)>a1 then(0:Int)else a1)then x2 else(if(0:Int)>a1 then(0:Int)else a1))).bind fun x4=>some (Zag.mk a0.fV6 x4.1 x4.2)
theorem Zpg(a0:Zag)(a1:Int)(r:Zag)(hf:ZiP a0 a1=some r):ZaC Tryz.prog 341 [.agg (Zag.c a0),.one (.lit (.int .i64 a1))] (.agg (Zag.c r)):=by
 refine ZaC.of Tryz.func341 rfl rfl rfl rfl fun S0 w0=>?_;unfold ZiP at hf;obtain⟨x1,q1,hf⟩:=Zaf hf;rcases Zai hf with⟨h2,hf⟩|⟨h2,hf⟩
 ·obtain rfl:=oi hf;exact Zan Zaj 8 [rz,rA [(1,aB x1)],rz] [true] [] [] [] (.c (ZcB _ _ q1) (.c h2 .n)) (by kernel_rfl) rfl
 ·obtain⟨x2,q3,hf⟩:=Zaf hf;have O1:Obl _:=(.c (ZcB _ _ q1) (.c h2 (.c (ZhC _ _ q3) .n)));rcases Zai hf with⟨h4,hf⟩|⟨h4,hf⟩
  ·obtain⟨x3,q5,hf⟩:=Zaf hf;obtain rfl:=oi hf;exact Zan Zaj 17 [rz,rA [(1,aB x1)],rA [(3,aI x2)],rz,rA [(3,.r (.one (.lit (.int .u64 x3))) [])],rz] [false,true] [] [] [] (O1.app (.c h4 (.c (Zns _ _ q5) (.c (show 0≤(32:Int)from(by decide)) .n)))) (by kernel_rfl) rfl
  ·obtain⟨x4,q6,hf⟩:=Zaf hf;obtain rfl:=oi hf;exact Zan Zaj 18 [rz,rA [(1,aB x1)],rA [(3,aI x2)],rz,rA [(5,.r (.tup [(false,(cI .u64) x4.1),(false,(cI .u64) x4.2)]) [])],rz] [false,false] [] [] [] (O1.app (.c h4 (.c (Zri _ _ _ _ q6) .n))) (by kernel_rfl) rfl
def ZiQ(a0:Zag)(a1:Int):Option (Zaq×Bool):=(ZeY a0).bind fun x1=>bif(!x1)then some ((Zaq.mk (Zag.mk false (0:Int) (0:Int)) (0:Int)),false)else bif(decide (a1<(0:Int)))then some ((Zaq.mk (Zag.mk false (0:Int) (0:Int)) (0:Int)),false)else(ZeJ a0).bind fun x2=>bif(decide (a1>x2))then some ((Zaq.mk (Zag.mk false (0:Int) (0:Int)) (0:Int)),false)else(ZiP a0 a1).bind fun x3=>some ((Zaq.mk x3 a1),true)
theorem ZhA(a0:Zag)(a1:Int)(r:(Zaq×Bool))(hf:ZiQ a0 a1=some r):ZaC Tryz.prog 280 [.agg (Zag.c a0),.one (.lit (.int .i64 a1))] (.tup [(true,Zaq.c r.1),(false,cB r.2)]):=by
 refine ZaC.of Tryz.func280 rfl rfl rfl rfl fun S0 w0=>?_;unfold ZiQ at hf;obtain⟨x1,q1,hf⟩:=Zaf hf;rcases Zai hf with⟨h2,hf⟩|⟨h2,hf⟩
 ·obtain rfl:=oi hf;exact Zan Zaj 8 [rz,⟨[(1,aB x1)],[(3,true)],[],[],[],[],[]⟩,rz] [true] [] [] [] (.c (ZcB _ _ q1) (.c h2 (.c (show true=true from rfl) .n))) (by kernel_rfl) rfl
 ·rcases Zai hf with⟨h3,hf⟩|⟨h3,hf⟩
  ·obtain rfl:=oi hf;exact Zan Zaj 8 [rz,⟨[(1,aB x1)],[(3,false),(7,true)],[],[],[],[],[]⟩,rz] [true] [] [] [] (.c (ZcB _ _ q1) (.c h2 (.c h3 (.c (show true=true from rfl) .n)))) (by kernel_rfl) rfl
  ·obtain⟨x2,q4,hf⟩:=Zaf hf
   let R1:List RA:=[rz,⟨[(1,aB x1),(10,aI x2)],[(3,false),(7,false)],[],[],[],[],[]⟩]
   have O2:Obl _:=(.c (ZcB _ _ q1) (.c h2 (.c h3 (.c (ZhC _ _ q4) .n))));rcases Zai hf with⟨h5,hf⟩|⟨h5,hf⟩
   ·obtain rfl:=oi hf;exact Zan Zaj 8 (R1++[rz]) [true] [] [] [] (O2.app (.c h5 .n)) (by kernel_rfl) rfl
   ·obtain⟨x3,q6,hf⟩:=Zaf hf;obtain rfl:=oi hf;exact Zan Zaj 9 (R1++[rA [(2,aG (Zag.c x3))]]) [false] [] [] [] (O2.app (.c h5 (.c (Zpg _ _ _ q6) .n))) (by kernel_rfl) rfl
def Zgt(a0:Zaq):Option Bool:=(ZiQ a0.fAddr a0.fBits).bind fun x1=>bif x1.2 then some (decide (x1.1=a0))else some false
theorem Zcs(a0:Zaq)(r:Bool)(hf:Zgt a0=some r):ZaC Tryz.prog 214 [.agg (Zaq.c a0)] (.one (.lit (.bool r))):=by
 refine ZaC.of Tryz.func214 rfl rfl rfl rfl fun S0 w0=>?_;unfold Zgt at hf;obtain⟨x1,q1,hf⟩:=Zaf hf
 let R1:List RA:=[rz,rA [(4,.r (.tup [(true,Zaq.c x1.1),(false,cB x1.2)]) [])]]
 rcases Zai hf with⟨h2,hf⟩|⟨h2,hf⟩
 ·obtain rfl:=oi hf;exact Zan Zaj 6 (R1++[⟨[(4,aB (decide (x1.1=a0)))],[(1,true)],[],[],[],[],[]⟩]) [] [] [] [] (.c (ZhA _ _ _ q1) (.c h2 (.c (ZkH x1.1 a0 (.tmp 15) (.tmp 16)) .n))) (by kernel_rfl) rfl
 ·obtain rfl:=oi hf;exact Zan Zaj 6 (R1++[rB [(1,false)]]) [] [] [] [] (.c (ZhA _ _ _ q1) (.c h2 .n)) (by kernel_rfl) rfl
def ZjN(a0:Int):Option (Int×Int):=bif(a0==(4:Int))then some ((0:Int),(1073741824:Int))else bif(a0==(5:Int))then some ((1:Int),(5:Int))else bif(a0==(6:Int))then some ((1:Int),(1099511627776:Int))else some ((1:Int),(1048576:Int))
theorem Ztm(a0:Int)(r:(Int×Int))(hf:ZjN a0=some r):ZaC Tryz.prog 216 [.one (.lit (.int .i64 a0))] (.tup [(false,(cI .i64) r.1),(false,(cI .i64) r.2)]):=by
 refine ZaC.of Tryz.func216 rfl rfl rfl rfl fun S0 w0=>?_;unfold ZjN at hf;rcases Zai hf with⟨h1,hf⟩|⟨h1,hf⟩
 ·obtain rfl:=oi hf;exact Zan Zaj 11 [rz,rz,rz,rz] [true] [] [] [] (.c h1 .n) (by kernel_rfl) rfl
 ·rcases Zai hf with⟨h2,hf⟩|⟨h2,hf⟩
  ·obtain rfl:=oi hf;exact Zan Zaj 14 [rz,rz,rz,rz,rz] [false,true] [] [] [] (.c h1 (.c h2 .n)) (by kernel_rfl) rfl
  ·rcases Zai hf with⟨h3,hf⟩|⟨h3,hf⟩
   ·obtain rfl:=oi hf;exact Zan Zaj 17 [rz,rz,rz,rz,rz,rz] [false,false,true] [] [] [] (.c h1 (.c h2 (.c h3 .n))) (by kernel_rfl) rfl
   ·obtain rfl:=oi hf;exact Zan Zaj 19 [rz,rz,rz,rz,rz,rz] [false,false,false] [] [] [] (.c h1 (.c h2 (.c h3 .n))) (by kernel_rfl) rfl
def Zkh(a0:Zay)(a1:Int):Option Bool:=bif(a1==(0:Int))then(Zke a0.fEnd).bind fun x1=>some x1 else bif(a1==(1:Int))then(Zgt a0.fNet).bind fun x2=>some x2 else bif(a1==(2:Int))then(ZeY a0.fEnd.fAddr).bind fun x3=>some x3 else bif(a1==(3:Int))then bif(decide (a0.fNow≥(0:Int)))then some (decide (a0.fNow≤(1099511627776:Int)))else some false else bif(a1==(4:Int))then(ZjN a0.fKind).bind fun x4=>bif(decide (a0.fNum≥x4.1))then some (decide (a0.fNum≤x4.2))else some false else some true
theorem ZsA(a0:Zay)(a1:Int)(r:Bool)(hf:Zkh a0 a1=some r):ZaC Tryz.prog 135 [.agg (Zay.c a0),.one (.lit (.int .i64 a1))] (.one (.lit (.bool r))):=by
 refine ZaC.of Tryz.func135 rfl rfl rfl rfl fun S0 w0=>?_;unfold Zkh at hf;rcases Zai hf with⟨h1,hf⟩|⟨h1,hf⟩
 ·obtain⟨x1,q2,hf⟩:=Zaf hf;obtain rfl:=oi hf;exact Zan Zaj 11 [rz,rz,rz,rA [(2,aB x1)]] [true] [] [] [] (.c h1 (.c (Zsy _ _ q2) .n)) (by kernel_rfl) rfl
 ·rcases Zai hf with⟨h3,hf⟩|⟨h3,hf⟩
  ·obtain⟨x2,q4,hf⟩:=Zaf hf;obtain rfl:=oi hf;exact Zan Zaj 14 [rz,rz,rz,rz,rA [(2,aB x2)]] [false,true] [] [] [] (.c h1 (.c h3 (.c (Zcs _ _ q4) .n))) (by kernel_rfl) rfl
  ·rcases Zai hf with⟨h5,hf⟩|⟨h5,hf⟩
   ·obtain⟨x3,q6,hf⟩:=Zaf hf;obtain rfl:=oi hf;exact Zan Zaj 17 [rz,rz,rz,rz,rz,rA [(3,aB x3)]] [false,false,true] [] [] [] (.c h1 (.c h3 (.c h5 (.c (ZcB _ _ q6) .n)))) (by kernel_rfl) rfl
   ·rcases Zai hf with⟨h7,hf⟩|⟨h7,hf⟩
    ·rcases Zai hf with⟨h8,hf⟩|⟨h8,hf⟩
     ·obtain rfl:=oi hf;exact Zan Zaj 20 [rz,rz,rz,rz,rz,rz,rB [(3,true)]] [false,false,false,true] [] [] [] (.c h1 (.c h3 (.c h5 (.c h7 (.c h8 .n))))) (by kernel_rfl) rfl
     ·obtain rfl:=oi hf;exact Zan Zaj 20 [rz,rz,rz,rz,rz,rz,rB [(3,false)]] [false,false,false,true] [] [] [] (.c h1 (.c h3 (.c h5 (.c h7 (.c h8 .n))))) (by kernel_rfl) rfl
    ·rcases Zai hf with⟨h9,hf⟩|⟨h9,hf⟩
     ·obtain⟨x4,q10,hf⟩:=Zaf hf
      let R1:List RA:=[rz,rz,rz,rz,rz,rz,rz,rA [(2,.r (.tup [(false,(cI .i64) x4.1),(false,(cI .i64) x4.2)]) [])]]
      have O2:Obl _:=(.c h1 (.c h3 (.c h5 (.c h7 (.c h9 (.c (Ztm _ _ q10) .n))))));rcases Zai hf with⟨h11,hf⟩|⟨h11,hf⟩
      ·obtain rfl:=oi hf;exact Zan Zaj 25 (R1++[rB [(4,true)]]) [false,false,false,false,true] [] [] [] (O2.app (.c h11 .n)) (by kernel_rfl) rfl
      ·obtain rfl:=oi hf;exact Zan Zaj 25 (R1++[rB [(4,false)]]) [false,false,false,false,true] [] [] [] (O2.app (.c h11 .n)) (by kernel_rfl) rfl
     ·obtain rfl:=oi hf;exact Zan Zaj 25 [rz,rz,rz,rz,rz,rz,rz,rz] [false,false,false,false,false] [] [] [] (.c h1 (.c h3 (.c h5 (.c h7 (.c h9 .n))))) (by kernel_rfl) rfl
def Zeh:Nat→(List Int)→Int→Int→Zay→Option Bool|0,_,_,_,_=>none|fu+1,v11,v12,v13,b1=>bif(decide (v13<v12))then need (0≤v13∧v13<((v11.length:Nat):Int))<|(Zkh b1 (v11.getD v13.toNat (0:Int))).bind fun x3=>bif(!x3)then some false else Zeh fu v11 v12 (Zaw v13 (1:Int)) b1 else some true
theorem Zqd(S0:Nat→Prop)(w0:Zbg):∀(fu:Nat)(v11:List Int)(v12 v13:Int)(b1:Zay)(r:Bool),Zeh fu v11 v12 v13 b1=some r→Good Tryz.prog 22 S0 w0 (bodyPost Tryz.prog Tryz.f66 (Post S0 w0 (.one (.lit (.bool r))))) (at_ [1,1,0,1,0] (Zbn Tryz.f66)) ⟨[(1,.one (.ptr 1 0)),(11,.one (cL 1 (cI .i64) (0:Int) v11)),(12,.one (.lit (.int .i64 v12))),(13,.one (.lit (.int .i64 v13)))],[(1,.box [.lit (.int .i64 b1.fKind),.lit (.bool b1.fEnd.fAddr.fV6),.lit (.int .u64 b1.fEnd.fAddr.fHi),.lit (.int .u64 b1.fEnd.fAddr.fLo),.lit (.int .i64 b1.fEnd.fPort),.lit (.bool b1.fNet.fAddr.fV6),.lit (.int .u64 b1.fNet.fAddr.fHi),.lit (.int .u64 b1.fNet.fAddr.fLo),.lit (.int .i64 b1.fNet.fBits),.lit (.int .i64 b1.fNow),.lit (.int .i64 b1.fNum),.lit (.bool b1.fGood)])]⟩:=by
 intro fu;induction fu with
 |zero=>
  intro v11 v12 v13 b1 r hf;simp[Zeh]at hf
 |succ fu ih=>
  intro v11 v12 v13 b1 r hf;unfold Zeh at hf;rcases Zai hf with⟨h4,hf⟩|⟨h4,hf⟩
  ·obtain⟨o5,hf⟩:=Zav hf;obtain⟨x3,q6,hf⟩:=Zaf hf;have O1:Obl _:=(.c h4 (.c o5 (.c (ZsA _ _ _ q6) .n)));rcases Zai hf with⟨h7,hf⟩|⟨h7,hf⟩
   ·obtain rfl:=oi hf;exact Zan Zaj 15 [rz,rz,rA [(2,aB x3)],rz] [true,true] [] [] [] (O1.app (.c h7 .n)) (by kernel_rfl) rfl
   ·exact ZaH Zaj Post.ends 17 [rz,rz,rA [(2,aB x3)],rz] [true,false] ⟨[],[],[],[],[],[1,11,12,13],[1],[]⟩ (O1.app (.c h7 .n)) (by kernel_rfl) (ih v11 v12 (Zaw v13 (1:Int)) b1 r hf)
  ·obtain rfl:=oi hf;exact Zan Zaj 8 [rz,rz] [false] [] [] [] (.c h4 .n) (by kernel_rfl) rfl
def Zki(a0:Zay):Option Bool:=(Zlj a0.fKind).bind fun x1=>bif(x1.toList==(⟨#[]⟩ : ByteArray).toList)then some false else(ZiW a0.fKind).bind fun x2=>Zeh ((((x2.length:Nat):Int)-(0:Int)).toNat+2) x2 ((x2.length:Nat):Int) (0:Int) a0
theorem Zll(a0:Zay)(r:Bool)(hf:Zki a0=some r):ZaC Tryz.prog 66 [.agg (Zay.c a0)] (.one (.lit (.bool r))):=by
 refine ZaC.of Tryz.func66 rfl rfl rfl rfl fun S0 w0=>?_;unfold Zki at hf;obtain⟨x1,q1,hf⟩:=Zaf hf
 let R2:List RA:=[rz,rA [(2,.r (.one (.lit (.string x1))) [])]]
 rcases Zai hf with⟨h2,hf⟩|⟨h2,hf⟩
 ·obtain rfl:=oi hf;exact Zan Zaj 8 (R2++[rz]) [true] [] [] [] (.c (Zpf _ _ q1) (.c h2 .n)) (by kernel_rfl) rfl
 ·obtain⟨x2,q3,hf⟩:=Zaf hf;exact ZaH Zaj Post.ends 11 (R2++[rA [(2,.r (.one (cL 1 (cI .i64) (0:Int) x2)) [])]]) [false] ⟨[],[],[],[],[],[1,11,12,13],[1],[]⟩ (.c (Zpf _ _ q1) (.c h2 (.c (ZsB _ _ q3) .n))) (by kernel_rfl) (Zqd S0 w0 ((((x2.length:Nat):Int)-(0:Int)).toNat+2) x2 ((x2.length:Nat):Int) (0:Int) a0 r hf)
def Zhc(v4:Int)(v5:Bool)(b1 b2:Zap):Option Zap:=bif v5 then some (Zap.mk b1.fKind (0:Int) (0:Int))else bif(v4==(5:Int))then some (Zap.mk b1.fKind b1.fShard (0:Int))else bif(v4==(6:Int))then some b1 else some (Zap.mk (0:Int) (0:Int) (0:Int))
theorem ZiH(S0:Nat→Prop)(w0:Zbg)(v4:Int)(v5:Bool)(b1 b2 r:Zap)(hf:Zhc v4 v5 b1 b2=some r):Good Tryz.prog 24 S0 w0 (bodyPost Tryz.prog Tryz.f471 (Post S0 w0 (.agg (Zap.c r)))) (at_ [1,0,1,0,1] (Zbn Tryz.f471)) ⟨[(1,.one (.ptr 1 0)),(2,.one (.ptr 2 0)),(4,.one (.lit (.int .i64 v4))),(5,.one (.lit (.bool v5)))],[(1,.box [.lit (.int .i64 b1.fKind),.lit (.int .i64 b1.fShard),.lit (.int .i64 b1.fSlot)]),(2,.box [.lit (.int .i64 b2.fKind),.lit (.int .i64 b2.fShard),.lit (.int .i64 b2.fSlot)])]⟩:=by
 unfold Zhc at hf;rcases Zai hf with⟨h2,hf⟩|⟨h2,hf⟩
 ·obtain rfl:=oi hf;exact Zan Zaj 3 [rz] [true] [] [] [] (.c h2 .n) (by kernel_rfl) rfl
 ·rcases Zai hf with⟨h3,hf⟩|⟨h3,hf⟩
  ·obtain rfl:=oi hf;exact Zan Zaj 6 [rz,rz] [false,true] [] [] [] (.c h2 (.c h3 .n)) (by kernel_rfl) rfl
  ·rcases Zai hf with⟨h4,hf⟩|⟨h4,hf⟩
   ·obtain rfl:=oi hf;exact Zan Zaj 9 [rz,rz,rz] [false,false,true] [] [] [] (.c h2 (.c h3 (.c h4 .n))) (by kernel_rfl) rfl
   ·obtain rfl:=oi hf;exact Zan Zaj 11 [rz,rz,rz] [false,false,false] [] [] [] (.c h2 (.c h3 (.c h4 .n))) (by kernel_rfl) rfl
def ZjM(a0:Zap):Option Zap:=bif(a0.fKind==(1:Int))then Zhc a0.fKind (a0.fKind==(1:Int)) a0 (Zap.mk (0:Int) (0:Int) (0:Int))else bif(a0.fKind==(2:Int))then Zhc a0.fKind (a0.fKind==(2:Int)) a0 (Zap.mk (0:Int) (0:Int) (0:Int))else bif(a0.fKind==(3:Int))then Zhc a0.fKind (a0.fKind==(3:Int)) a0 (Zap.mk (0:Int) (0:Int) (0:Int))else Zhc a0.fKind (a0.fKind==(4:Int)) a0 (Zap.mk (0:Int) (0:Int) (0:Int))
theorem Znf(a0 r:Zap)(hf:ZjM a0=some r):ZaC Tryz.prog 471 [.agg (Zap.c a0)] (.agg (Zap.c r)):=by
 refine ZaC.of Tryz.func471 rfl rfl rfl rfl fun S0 w0=>?_;unfold ZjM at hf;rcases Zai hf with⟨h1,hf⟩|⟨h1,hf⟩
 ·exact ZaH Zaj Post.ends 11 [rz,rz,rz] [true] ⟨[],[],[],[],[],[1,2,4,5],[1,2],[]⟩ (.c h1 .n) (by kernel_rfl) (ZiH S0 w0 a0.fKind (a0.fKind==(1:Int)) a0 (Zap.mk (0:Int) (0:Int) (0:Int)) r hf)
 ·rcases Zai hf with⟨h2,hf⟩|⟨h2,hf⟩
  ·exact ZaH Zaj Post.ends 14 [rz,rz,rz,rz] [false,true] ⟨[],[],[],[],[],[1,2,4,5],[1,2],[]⟩ (.c h1 (.c h2 .n)) (by kernel_rfl) (ZiH S0 w0 a0.fKind (a0.fKind==(2:Int)) a0 (Zap.mk (0:Int) (0:Int) (0:Int)) r hf)
  ·rcases Zai hf with⟨h3,hf⟩|⟨h3,hf⟩
   ·exact ZaH Zaj Post.ends 17 [rz,rz,rz,rz,rz] [false,false,true] ⟨[],[],[],[],[],[1,2,4,5],[1,2],[]⟩ (.c h1 (.c h2 (.c h3 .n))) (by kernel_rfl) (ZiH S0 w0 a0.fKind (a0.fKind==(3:Int)) a0 (Zap.mk (0:Int) (0:Int) (0:Int)) r hf)
   ·exact ZaH Zaj Post.ends 17 [rz,rz,rz,rz,rz,rz] [false,false,false] ⟨[],[],[],[],[],[1,2,4,5],[1,2],[]⟩ (.c h1 (.c h2 (.c h3 .n))) (by kernel_rfl) (ZiH S0 w0 a0.fKind (a0.fKind==(4:Int)) a0 (Zap.mk (0:Int) (0:Int) (0:Int)) r hf)
def Zig(v5:Int)(v6:Bool)(b3 b4:Zae):Option Zae:=bif v6 then some (Zae.mk b3.fN (Zaa.mk (Zah.mk (Zag.mk false (0:Int) (0:Int)) (0:Int)) false (0:Int) (Zar.mk (0:Int) (0:Int)) (0:Int) (0:Int)) ([]:(List Zab)) ([]:(List Zad)))else bif(v5==(3:Int))then some (Zae.mk (0:Int) (Zaa.mk (Zah.mk (Zag.mk false (0:Int) (0:Int)) (0:Int)) false (0:Int) (Zar.mk (0:Int) (0:Int)) (0:Int) (0:Int)) b3.fBans ([]:(List Zad)))else bif(v5==(4:Int))then some (Zae.mk (0:Int) (Zaa.mk (Zah.mk (Zag.mk false (0:Int) (0:Int)) (0:Int)) false (0:Int) (Zar.mk (0:Int) (0:Int)) (0:Int) (0:Int)) ([]:(List Zab)) b3.fBook)else bif(v5==(6:Int))then some (Zae.mk (0:Int) b3.fPeer ([]:(List Zab)) ([]:(List Zad)))else some (Zae.mk (0:Int) (Zaa.mk (Zah.mk (Zag.mk false (0:Int) (0:Int)) (0:Int)) false (0:Int) (Zar.mk (0:Int) (0:Int)) (0:Int) (0:Int)) ([]:(List Zab)) ([]:(List Zad)))
theorem Zkq(S0:Nat→Prop)(w0:Zbg)(v5:Int)(v6:Bool)(b3 b4 r:Zae)(hf:Zig v5 v6 b3 b4=some r):Good Tryz.prog 29 S0 w0 (bodyPost Tryz.prog Tryz.f472 (Post S0 w0 (.agg (Zae.c r)))) (at_ [1,0,1,0,1] (Zbn Tryz.f472)) ⟨[(3,.one (.ptr 3 0)),(4,.one (.ptr 4 0)),(5,.one (.lit (.int .i64 v5))),(6,.one (.lit (.bool v6)))],[(3,.box [.lit (.int .i64 b3.fN),.lit (.bool b3.fPeer.fEnd.fAddr.fV6),.lit (.int .u64 b3.fPeer.fEnd.fAddr.fHi),.lit (.int .u64 b3.fPeer.fEnd.fAddr.fLo),.lit (.int .i64 b3.fPeer.fEnd.fPort),.lit (.bool b3.fPeer.fIn),.lit (.int .i64 b3.fPeer.fSince),.lit (.int .i64 b3.fPeer.fScore.fPoints),.lit (.int .i64 b3.fPeer.fScore.fAt),.lit (.int .i64 b3.fPeer.fPing),.lit (.int .i64 b3.fPeer.fWork),cL 5 Zab.c Zab.d b3.fBans,cL 7 Zad.c Zad.d b3.fBook]),(4,.box [.lit (.int .i64 b4.fN),.lit (.bool b4.fPeer.fEnd.fAddr.fV6),.lit (.int .u64 b4.fPeer.fEnd.fAddr.fHi),.lit (.int .u64 b4.fPeer.fEnd.fAddr.fLo),.lit (.int .i64 b4.fPeer.fEnd.fPort),.lit (.bool b4.fPeer.fIn),.lit (.int .i64 b4.fPeer.fSince),.lit (.int .i64 b4.fPeer.fScore.fPoints),.lit (.int .i64 b4.fPeer.fScore.fAt),.lit (.int .i64 b4.fPeer.fPing),.lit (.int .i64 b4.fPeer.fWork),cL 5 Zab.c Zab.d b4.fBans,cL 7 Zad.c Zad.d b4.fBook])]⟩:=by
 unfold Zig at hf;rcases Zai hf with⟨h2,hf⟩|⟨h2,hf⟩
 ·obtain rfl:=oi hf;exact Zan Zaj 3 [rz] [true] [] [(4,[(11,cL 5 Zab.c Zab.d []),(12,cL 7 Zad.c Zad.d [])])] [] (.c h2 .n) (by kernel_rfl) rfl
 ·rcases Zai hf with⟨h3,hf⟩|⟨h3,hf⟩
  ·obtain rfl:=oi hf;exact Zan Zaj 6 [rz,rz] [false,true] [] [(4,[(12,cL 7 Zad.c Zad.d [])])] [] (.c h2 (.c h3 .n)) (by kernel_rfl) rfl
  ·rcases Zai hf with⟨h4,hf⟩|⟨h4,hf⟩
   ·obtain rfl:=oi hf;exact Zan Zaj 9 [rz,rz,rz] [false,false,true] [] [(4,[(11,cL 5 Zab.c Zab.d [])])] [] (.c h2 (.c h3 (.c h4 .n))) (by kernel_rfl) rfl
   ·rcases Zai hf with⟨h5,hf⟩|⟨h5,hf⟩
    ·obtain rfl:=oi hf;exact Zan Zaj 12 [rz,rz,rz,rz] [false,false,false,true] [] [(4,[(11,cL 5 Zab.c Zab.d []),(12,cL 7 Zad.c Zad.d [])])] [] (.c h2 (.c h3 (.c h4 (.c h5 .n)))) (by kernel_rfl) rfl
    ·obtain rfl:=oi hf;exact Zan Zaj 14 [rz,rz,rz,rz] [false,false,false,false] [] [(4,[(11,cL 5 Zab.c Zab.d []),(12,cL 7 Zad.c Zad.d [])])] [] (.c h2 (.c h3 (.c h4 (.c h5 .n)))) (by kernel_rfl) rfl
def Zmx(a0:Int)(a1:Zae):Option Zae:=bif(a0==(1:Int))then Zig a0 (a0==(1:Int)) a1 (Zae.mk (0:Int) (Zaa.mk (Zah.mk (Zag.mk false (0:Int) (0:Int)) (0:Int)) false (0:Int) (Zar.mk (0:Int) (0:Int)) (0:Int) (0:Int)) ([]:(List Zab)) ([]:(List Zad)))else bif(a0==(2:Int))then Zig a0 (a0==(2:Int)) a1 (Zae.mk (0:Int) (Zaa.mk (Zah.mk (Zag.mk false (0:Int) (0:Int)) (0:Int)) false (0:Int) (Zar.mk (0:Int) (0:Int)) (0:Int) (0:Int)) ([]:(List Zab)) ([]:(List Zad)))else Zig a0 (a0==(5:Int)) a1 (Zae.mk (0:Int) (Zaa.mk (Zah.mk (Zag.mk false (0:Int) (0:Int)) (0:Int)) false (0:Int) (Zar.mk (0:Int) (0:Int)) (0:Int) (0:Int)) ([]:(List Zab)) ([]:(List Zad)))
theorem ZuW(a0:Int)(a1 r:Zae)(hf:Zmx a0 a1=some r):ZaC Tryz.prog 472 [.one (.lit (.int .i64 a0)),.agg (Zae.c a1)] (.agg (Zae.c r)):=by
 refine ZaC.of Tryz.func472 rfl rfl rfl rfl fun S0 w0=>?_;unfold Zmx at hf;rcases Zai hf with⟨h1,hf⟩|⟨h1,hf⟩
 ·exact ZaH Zaj Post.ends 11 [rz,rz,rz] [true] ⟨[],[(4,[(11,cL 5 Zab.c Zab.d []),(12,cL 7 Zad.c Zad.d [])])],[],[],[],[3,4,5,6],[3,4],[]⟩ (.c h1 .n) (by kernel_rfl) (Zkq S0 w0 a0 (a0==(1:Int)) a1 (Zae.mk (0:Int) (Zaa.mk (Zah.mk (Zag.mk false (0:Int) (0:Int)) (0:Int)) false (0:Int) (Zar.mk (0:Int) (0:Int)) (0:Int) (0:Int)) ([]:(List Zab)) ([]:(List Zad))) r hf)
 ·rcases Zai hf with⟨h2,hf⟩|⟨h2,hf⟩
  ·exact ZaH Zaj Post.ends 14 [rz,rz,rz,rz] [false,true] ⟨[],[(4,[(11,cL 5 Zab.c Zab.d []),(12,cL 7 Zad.c Zad.d [])])],[],[],[],[3,4,5,6],[3,4],[]⟩ (.c h1 (.c h2 .n)) (by kernel_rfl) (Zkq S0 w0 a0 (a0==(2:Int)) a1 (Zae.mk (0:Int) (Zaa.mk (Zah.mk (Zag.mk false (0:Int) (0:Int)) (0:Int)) false (0:Int) (Zar.mk (0:Int) (0:Int)) (0:Int) (0:Int)) ([]:(List Zab)) ([]:(List Zad))) r hf)
  ·exact ZaH Zaj Post.ends 14 [rz,rz,rz,rz,rz] [false,false] ⟨[],[(4,[(11,cL 5 Zab.c Zab.d []),(12,cL 7 Zad.c Zad.d [])])],[],[],[],[3,4,5,6],[3,4],[]⟩ (.c h1 (.c h2 .n)) (by kernel_rfl) (Zkq S0 w0 a0 (a0==(5:Int)) a1 (Zae.mk (0:Int) (Zaa.mk (Zah.mk (Zag.mk false (0:Int) (0:Int)) (0:Int)) false (0:Int) (Zar.mk (0:Int) (0:Int)) (0:Int) (0:Int)) ([]:(List Zab)) ([]:(List Zad))) r hf)
def Zhd(v10:Int)(v12:Bool)(b1 b2 b3:Zas):Option Zas:=bif v12 then some (Zas.mk b3.fKind b1.fLock b3.fLoc b3.fOld b3.fNew b3.fVal b3.fMark)else bif(v10==(5:Int))then(ZjM b1.fLoc).bind fun x1=>some (Zas.mk b3.fKind b3.fLock x1 b3.fOld b3.fNew b3.fVal b3.fMark)else bif(v10==(6:Int))then(ZjM b1.fLoc).bind fun x2=>(Zmx b1.fLoc.fKind b1.fVal).bind fun x3=>some (Zas.mk b3.fKind b3.fLock x2 b3.fOld b3.fNew x3 b3.fMark)else bif(v10==(7:Int))then(ZjM b1.fLoc).bind fun x4=>some (Zas.mk b3.fKind b3.fLock x4 b1.fOld b1.fNew b3.fVal b3.fMark)else bif(v10==(8:Int))then some b3 else some (Zas.mk (0:Int) (0:Int) (Zap.mk (0:Int) (0:Int) (0:Int)) (0:Int) (0:Int) (Zae.mk (0:Int) (Zaa.mk (Zah.mk (Zag.mk false (0:Int) (0:Int)) (0:Int)) false (0:Int) (Zar.mk (0:Int) (0:Int)) (0:Int) (0:Int)) ([]:(List Zab)) ([]:(List Zad))) false)
theorem ZiI(S0:Nat→Prop)(w0:Zbg)(v10:Int)(v12:Bool)(b1 b2 b3 r:Zas)(hf:Zhd v10 v12 b1 b2 b3=some r):Good Tryz.prog 54 S0 w0 (bodyPost Tryz.prog Tryz.f470 (Post S0 w0 (.agg (Zas.c r)))) (at_ [1,1,0,1,0,1] (Zbn Tryz.f470)) ⟨[(1,.one (.ptr 1 0)),(2,.one (.ptr 2 0)),(3,.one (.ptr 3 0)),(10,.one (.lit (.int .i64 v10))),(12,.one (.lit (.bool v12)))],[(1,.box [.lit (.int .i64 b1.fKind),.lit (.int .i64 b1.fLock),.lit (.int .i64 b1.fLoc.fKind),.lit (.int .i64 b1.fLoc.fShard),.lit (.int .i64 b1.fLoc.fSlot),.lit (.int .i64 b1.fOld),.lit (.int .i64 b1.fNew),.lit (.int .i64 b1.fVal.fN),.lit (.bool b1.fVal.fPeer.fEnd.fAddr.fV6),.lit (.int .u64 b1.fVal.fPeer.fEnd.fAddr.fHi),.lit (.int .u64 b1.fVal.fPeer.fEnd.fAddr.fLo),.lit (.int .i64 b1.fVal.fPeer.fEnd.fPort),.lit (.bool b1.fVal.fPeer.fIn),.lit (.int .i64 b1.fVal.fPeer.fSince),.lit (.int .i64 b1.fVal.fPeer.fScore.fPoints),.lit (.int .i64 b1.fVal.fPeer.fScore.fAt),.lit (.int .i64 b1.fVal.fPeer.fPing),.lit (.int .i64 b1.fVal.fPeer.fWork),cL 5 Zab.c Zab.d b1.fVal.fBans,cL 7 Zad.c Zad.d b1.fVal.fBook,.lit (.bool b1.fMark)]),(2,.box [.lit (.int .i64 b2.fKind),.lit (.int .i64 b2.fLock),.lit (.int .i64 b2.fLoc.fKind),.lit (.int .i64 b2.fLoc.fShard),.lit (.int .i64 b2.fLoc.fSlot),.lit (.int .i64 b2.fOld),.lit (.int .i64 b2.fNew),.lit (.int .i64 b2.fVal.fN),.lit (.bool b2.fVal.fPeer.fEnd.fAddr.fV6),.lit (.int .u64 b2.fVal.fPeer.fEnd.fAddr.fHi),.lit (.int .u64 b2.fVal.fPeer.fEnd.fAddr.fLo),.lit (.int .i64 b2.fVal.fPeer.fEnd.fPort),.lit (.bool b2.fVal.fPeer.fIn),.lit (.int .i64 b2.fVal.fPeer.fSince),.lit (.int .i64 b2.fVal.fPeer.fScore.fPoints),.lit (.int .i64 b2.fVal.fPeer.fScore.fAt),.lit (.int .i64 b2.fVal.fPeer.fPing),.lit (.int .i64 b2.fVal.fPeer.fWork),cL 5 Zab.c Zab.d b2.fVal.fBans,cL 7 Zad.c Zad.d b2.fVal.fBook,.lit (.bool b2.fMark)]),(3,.box [.lit (.int .i64 b3.fKind),.lit (.int .i64 b3.fLock),.lit (.int .i64 b3.fLoc.fKind),.lit (.int .i64 b3.fLoc.fShard),.lit (.int .i64 b3.fLoc.fSlot),.lit (.int .i64 b3.fOld),.lit (.int .i64 b3.fNew),.lit (.int .i64 b3.fVal.fN),.lit (.bool b3.fVal.fPeer.fEnd.fAddr.fV6),.lit (.int .u64 b3.fVal.fPeer.fEnd.fAddr.fHi),.lit (.int .u64 b3.fVal.fPeer.fEnd.fAddr.fLo),.lit (.int .i64 b3.fVal.fPeer.fEnd.fPort),.lit (.bool b3.fVal.fPeer.fIn),.lit (.int .i64 b3.fVal.fPeer.fSince),.lit (.int .i64 b3.fVal.fPeer.fScore.fPoints),.lit (.int .i64 b3.fVal.fPeer.fScore.fAt),.lit (.int .i64 b3.fVal.fPeer.fPing),.lit (.int .i64 b3.fVal.fPeer.fWork),cL 5 Zab.c Zab.d b3.fVal.fBans,cL 7 Zad.c Zad.d b3.fVal.fBook,.lit (.bool b3.fMark)])]⟩:=by
 unfold Zhd at hf;rcases Zai hf with⟨h2,hf⟩|⟨h2,hf⟩
 ·obtain rfl:=oi hf;exact Zan Zaj 5 [rz,rz] [true] [] [] [] (.c h2 .n) (by kernel_rfl) rfl
 ·rcases Zai hf with⟨h3,hf⟩|⟨h3,hf⟩
  ·obtain⟨x1,q4,hf⟩:=Zaf hf;obtain rfl:=oi hf;exact Zan Zaj 8 [rz,rA [(2,aG (Zap.c x1))],rz] [false,true] [] [] [] (.c h2 (.c h3 (.c (Znf _ _ q4) .n))) (by kernel_rfl) rfl
  ·rcases Zai hf with⟨h5,hf⟩|⟨h5,hf⟩
   ·obtain⟨x2,q6,hf⟩:=Zaf hf;obtain⟨x3,q7,hf⟩:=Zaf hf;obtain rfl:=oi hf;exact Zan Zaj 11 [rz,rz,rA [(2,aG (Zap.c x2)),(8,aG (Zae.c x3))],rz] [false,false,true] [] [] [] (.c h2 (.c h3 (.c h5 (.c (Znf _ _ q6) (.c (ZuW _ _ _ q7) .n))))) (by kernel_rfl) rfl
   ·rcases Zai hf with⟨h8,hf⟩|⟨h8,hf⟩
    ·obtain⟨x4,q9,hf⟩:=Zaf hf;obtain rfl:=oi hf;exact Zan Zaj 14 [rz,rz,rz,rA [(2,aG (Zap.c x4))],rz] [false,false,false,true] [] [] [] (.c h2 (.c h3 (.c h5 (.c h8 (.c (Znf _ _ q9) .n))))) (by kernel_rfl) rfl
    ·rcases Zai hf with⟨h10,hf⟩|⟨h10,hf⟩
     ·obtain rfl:=oi hf;exact Zan Zaj 17 [rz,rz,rz,rz,rz] [false,false,false,false,true] [] [] [] (.c h2 (.c h3 (.c h5 (.c h8 (.c h10 .n))))) (by kernel_rfl) rfl
     ·obtain rfl:=oi hf;exact Zan Zaj 15 [rz,rz,rz,rz,rz] [false,false,false,false,false] [] [(2,[(18,cL 5 Zab.c Zab.d []),(19,cL 7 Zad.c Zad.d [])])] [] (.c h2 (.c h3 (.c h5 (.c h8 (.c h10 .n))))) (by kernel_rfl) rfl
def Zmy(a0:Zas):Option Zas:=bif(a0.fKind==(1:Int))then Zhd a0.fKind (a0.fKind==(1:Int)) a0 (Zas.mk (0:Int) (0:Int) (Zap.mk (0:Int) (0:Int) (0:Int)) (0:Int) (0:Int) (Zae.mk (0:Int) (Zaa.mk (Zah.mk (Zag.mk false (0:Int) (0:Int)) (0:Int)) false (0:Int) (Zar.mk (0:Int) (0:Int)) (0:Int) (0:Int)) ([]:(List Zab)) ([]:(List Zad))) false) (Zas.mk a0.fKind (0:Int) (Zap.mk (0:Int) (0:Int) (0:Int)) (0:Int) (0:Int) (Zae.mk (0:Int) (Zaa.mk (Zah.mk (Zag.mk false (0:Int) (0:Int)) (0:Int)) false (0:Int) (Zar.mk (0:Int) (0:Int)) (0:Int) (0:Int)) ([]:(List Zab)) ([]:(List Zad))) a0.fMark)else bif(a0.fKind==(2:Int))then Zhd a0.fKind (a0.fKind==(2:Int)) a0 (Zas.mk (0:Int) (0:Int) (Zap.mk (0:Int) (0:Int) (0:Int)) (0:Int) (0:Int) (Zae.mk (0:Int) (Zaa.mk (Zah.mk (Zag.mk false (0:Int) (0:Int)) (0:Int)) false (0:Int) (Zar.mk (0:Int) (0:Int)) (0:Int) (0:Int)) ([]:(List Zab)) ([]:(List Zad))) false) (Zas.mk a0.fKind (0:Int) (Zap.mk (0:Int) (0:Int) (0:Int)) (0:Int) (0:Int) (Zae.mk (0:Int) (Zaa.mk (Zah.mk (Zag.mk false (0:Int) (0:Int)) (0:Int)) false (0:Int) (Zar.mk (0:Int) (0:Int)) (0:Int) (0:Int)) ([]:(List Zab)) ([]:(List Zad))) a0.fMark)else bif(a0.fKind==(3:Int))then Zhd a0.fKind (a0.fKind==(3:Int)) a0 (Zas.mk (0:Int) (0:Int) (Zap.mk (0:Int) (0:Int) (0:Int)) (0:Int) (0:Int) (Zae.mk (0:Int) (Zaa.mk (Zah.mk (Zag.mk false (0:Int) (0:Int)) (0:Int)) false (0:Int) (Zar.mk (0:Int) (0:Int)) (0:Int) (0:Int)) ([]:(List Zab)) ([]:(List Zad))) false) (Zas.mk a0.fKind (0:Int) (Zap.mk (0:Int) (0:Int) (0:Int)) (0:Int) (0:Int) (Zae.mk (0:Int) (Zaa.mk (Zah.mk (Zag.mk false (0:Int) (0:Int)) (0:Int)) false (0:Int) (Zar.mk (0:Int) (0:Int)) (0:Int) (0:Int)) ([]:(List Zab)) ([]:(List Zad))) a0.fMark)else Zhd a0.fKind (a0.fKind==(4:Int)) a0 (Zas.mk (0:Int) (0:Int) (Zap.mk (0:Int) (0:Int) (0:Int)) (0:Int) (0:Int) (Zae.mk (0:Int) (Zaa.mk (Zah.mk (Zag.mk false (0:Int) (0:Int)) (0:Int)) false (0:Int) (Zar.mk (0:Int) (0:Int)) (0:Int) (0:Int)) ([]:(List Zab)) ([]:(List Zad))) false) (Zas.mk a0.fKind (0:Int) (Zap.mk (0:Int) (0:Int) (0:Int)) (0:Int) (0:Int) (Zae.mk (0:Int) (Zaa.mk (Zah.mk (Zag.mk false (0:Int) (0:Int)) (0:Int)) false (0:Int) (Zar.mk (0:Int) (0:Int)) (0:Int) (0:Int)) ([]:(List Zab)) ([]:(List Zad))) a0.fMark)
theorem ZuX(a0 r:Zas)(hf:Zmy a0=some r):ZaC Tryz.prog 470 [.agg (Zas.c a0)] (.agg (Zas.c r)):=by
 refine ZaC.of Tryz.func470 rfl rfl rfl rfl fun S0 w0=>?_;unfold Zmy at hf;rcases Zai hf with⟨h1,hf⟩|⟨h1,hf⟩
 ·exact ZaH Zaj Post.ends 13 [rz,rz,rz,rz] [true] ⟨[],[(2,[(18,cL 5 Zab.c Zab.d []),(19,cL 7 Zad.c Zad.d [])]),(3,[(18,cL 5 Zab.c Zab.d []),(19,cL 7 Zad.c Zad.d [])])],[],[],[],[1,2,3,10,12],[1,2,3],[]⟩ (.c h1 .n) (by kernel_rfl) (ZiI S0 w0 a0.fKind (a0.fKind==(1:Int)) a0 (Zas.mk (0:Int) (0:Int) (Zap.mk (0:Int) (0:Int) (0:Int)) (0:Int) (0:Int) (Zae.mk (0:Int) (Zaa.mk (Zah.mk (Zag.mk false (0:Int) (0:Int)) (0:Int)) false (0:Int) (Zar.mk (0:Int) (0:Int)) (0:Int) (0:Int)) ([]:(List Zab)) ([]:(List Zad))) false) (Zas.mk a0.fKind (0:Int) (Zap.mk (0:Int) (0:Int) (0:Int)) (0:Int) (0:Int) (Zae.mk (0:Int) (Zaa.mk (Zah.mk (Zag.mk false (0:Int) (0:Int)) (0:Int)) false (0:Int) (Zar.mk (0:Int) (0:Int)) (0:Int) (0:Int)) ([]:(List Zab)) ([]:(List Zad))) a0.fMark) r hf)
 ·rcases Zai hf with⟨h2,hf⟩|⟨h2,hf⟩
  ·exact ZaH Zaj Post.ends 16 [rz,rz,rz,rz,rz] [false,true] ⟨[],[(2,[(18,cL 5 Zab.c Zab.d []),(19,cL 7 Zad.c Zad.d [])]),(3,[(18,cL 5 Zab.c Zab.d []),(19,cL 7 Zad.c Zad.d [])])],[],[],[],[1,2,3,10,12],[1,2,3],[]⟩ (.c h1 (.c h2 .n)) (by kernel_rfl) (ZiI S0 w0 a0.fKind (a0.fKind==(2:Int)) a0 (Zas.mk (0:Int) (0:Int) (Zap.mk (0:Int) (0:Int) (0:Int)) (0:Int) (0:Int) (Zae.mk (0:Int) (Zaa.mk (Zah.mk (Zag.mk false (0:Int) (0:Int)) (0:Int)) false (0:Int) (Zar.mk (0:Int) (0:Int)) (0:Int) (0:Int)) ([]:(List Zab)) ([]:(List Zad))) false) (Zas.mk a0.fKind (0:Int) (Zap.mk (0:Int) (0:Int) (0:Int)) (0:Int) (0:Int) (Zae.mk (0:Int) (Zaa.mk (Zah.mk (Zag.mk false (0:Int) (0:Int)) (0:Int)) false (0:Int) (Zar.mk (0:Int) (0:Int)) (0:Int) (0:Int)) ([]:(List Zab)) ([]:(List Zad))) a0.fMark) r hf)
  ·rcases Zai hf with⟨h3,hf⟩|⟨h3,hf⟩
   ·exact ZaH Zaj Post.ends 19 [rz,rz,rz,rz,rz,rz] [false,false,true] ⟨[],[(2,[(18,cL 5 Zab.c Zab.d []),(19,cL 7 Zad.c Zad.d [])]),(3,[(18,cL 5 Zab.c Zab.d []),(19,cL 7 Zad.c Zad.d [])])],[],[],[],[1,2,3,10,12],[1,2,3],[]⟩ (.c h1 (.c h2 (.c h3 .n))) (by kernel_rfl) (ZiI S0 w0 a0.fKind (a0.fKind==(3:Int)) a0 (Zas.mk (0:Int) (0:Int) (Zap.mk (0:Int) (0:Int) (0:Int)) (0:Int) (0:Int) (Zae.mk (0:Int) (Zaa.mk (Zah.mk (Zag.mk false (0:Int) (0:Int)) (0:Int)) false (0:Int) (Zar.mk (0:Int) (0:Int)) (0:Int) (0:Int)) ([]:(List Zab)) ([]:(List Zad))) false) (Zas.mk a0.fKind (0:Int) (Zap.mk (0:Int) (0:Int) (0:Int)) (0:Int) (0:Int) (Zae.mk (0:Int) (Zaa.mk (Zah.mk (Zag.mk false (0:Int) (0:Int)) (0:Int)) false (0:Int) (Zar.mk (0:Int) (0:Int)) (0:Int) (0:Int)) ([]:(List Zab)) ([]:(List Zad))) a0.fMark) r hf)
   ·exact ZaH Zaj Post.ends 19 [rz,rz,rz,rz,rz,rz,rz] [false,false,false] ⟨[],[(2,[(18,cL 5 Zab.c Zab.d []),(19,cL 7 Zad.c Zad.d [])]),(3,[(18,cL 5 Zab.c Zab.d []),(19,cL 7 Zad.c Zad.d [])])],[],[],[],[1,2,3,10,12],[1,2,3],[]⟩ (.c h1 (.c h2 (.c h3 .n))) (by kernel_rfl) (ZiI S0 w0 a0.fKind (a0.fKind==(4:Int)) a0 (Zas.mk (0:Int) (0:Int) (Zap.mk (0:Int) (0:Int) (0:Int)) (0:Int) (0:Int) (Zae.mk (0:Int) (Zaa.mk (Zah.mk (Zag.mk false (0:Int) (0:Int)) (0:Int)) false (0:Int) (Zar.mk (0:Int) (0:Int)) (0:Int) (0:Int)) ([]:(List Zab)) ([]:(List Zad))) false) (Zas.mk a0.fKind (0:Int) (Zap.mk (0:Int) (0:Int) (0:Int)) (0:Int) (0:Int) (Zae.mk (0:Int) (Zaa.mk (Zah.mk (Zag.mk false (0:Int) (0:Int)) (0:Int)) false (0:Int) (Zar.mk (0:Int) (0:Int)) (0:Int) (0:Int)) ([]:(List Zab)) ([]:(List Zad))) a0.fMark) r hf)
def Zca(a0:Zak)(a1:Zas):Option (Tout Zae):=bif(((a0.fgot.length:Nat):Int)==(0:Int))then(Zmy a1).bind fun x1=>some (Tout.pan x1)else need (0≤(0:Int)∧(0:Int)<((a0.fgot.length:Nat):Int))<|need (0≤(1:Int)∧(1:Int)≤((a0.fgot.length:Nat):Int))<|some (Tout.ret (a0.fgot.getD (0:Int).toNat Zae.d) (Zak.mk (a0.fgot.drop (1:Int).toNat)))
theorem Zbt(a0:Zak)(a1:Zas)(r:(Tout Zae))(hf:Zca a0 a1=some r):Zfc Tryz.prog 469 [(100000,.box (Zak.c a0))] [.one (.ptr 100000 0),.agg (Zas.c a1)] (oc (fun x=>.agg (Zae.c x)) r):=by
 refine Zfc.of Tryz.func469 rfl rfl rfl rfl fun S0 w0=>?_;unfold Zca at hf;rcases Zai hf with⟨h1,hf⟩|⟨h1,hf⟩
 ·obtain⟨x1,q2,hf⟩:=Zaf hf;obtain rfl:=oi hf;exact ZaI Zaj 6 _ _ [rz,rz] [true] (rA [(1,aG (Zas.c x1))]) 4 ⟨[],.one .junk⟩ (.c h1 (.c (ZuX _ _ q2) (.c (show Tryz.prog.concrete 111=true from(by kernel_rfl)) .n))) (by kernel_rfl)
 ·obtain⟨o3,hf⟩:=Zav hf;obtain⟨o4,hf⟩:=Zav hf;obtain rfl:=oi hf;exact Zch Zaj 13 [rz,rz,rz,⟨[],[],[],[],[],[(5,((a0.fgot.drop (1:Int).toNat).length,Zam Zae.c Zae.d (a0.fgot.drop (1:Int).toNat)))],[]⟩,rz] [false] ⟨[],[],[],[],[],[4],[4,100000],[]⟩ [100000] (.c h1 (.c o3 (.c (show (a0.fgot.drop (1:Int).toNat).length=a0.fgot.length-(1:Int).toNat∧∀i j,i<a0.fgot.length-(1:Int).toNat→j<13→Zam Zae.c Zae.d (a0.fgot.drop (1:Int).toNat) i j=Zam Zae.c Zae.d a0.fgot ((1:Int).toNat+i) j from(ZkN _ _)) (.c o4 .n)))) (by kernel_rfl)
def Zho(a0:Zak)(a1:Bool):Option (Tout Unit):=(Zca a0 (Zas.mk (8:Int) (0:Int) (Zap.mk (0:Int) (0:Int) (0:Int)) (0:Int) (0:Int) (Zae.mk (0:Int) (Zaa.mk (Zah.mk (Zag.mk false (0:Int) (0:Int)) (0:Int)) false (0:Int) (Zar.mk (0:Int) (0:Int)) (0:Int) (0:Int)) ([]:(List Zab)) ([]:(List Zad))) a1)).bind fun x1=>(match x1 with | .ret x1v x1g=>some (Tout.ret () x1g) | .pan x1o=>some (Tout.pan x1o) | .bad x1s=>some (Tout.bad x1s))
theorem ZgA(a0:Zak)(a1:Bool)(r:(Tout Unit))(hf:Zho a0 a1=some r):Zfc Tryz.prog 465 [(100000,.box (Zak.c a0))] [.one (.ptr 100000 0),.one (.lit (.bool a1))] (oc (fun x=>.tup []) r):=by
 refine Zfc.of Tryz.func465 rfl rfl rfl rfl fun S0 w0=>?_;unfold Zho at hf;obtain⟨x1,q1,hf⟩:=Zaf hf;cases x1 with
 |ret x1v x1g=>
  dsimp only at hf;obtain rfl:=oi hf;exact Zch Zaj 1 [⟨[],[],[],[],[(2,[(18,cL 5 Zab.c Zab.d []),(19,cL 7 Zad.c Zad.d [])])],[],[(3,⟨[(100000,100000)],[],[(100000,.box (Zak.c x1g))],.agg (Zae.c x1v)⟩)]⟩] [] ⟨[],[],[],[],[],[],[100000],[]⟩ [100000] (.c (Zbt _ _ _ q1) .n) (by kernel_rfl)
 |_=>
  dsimp only at hf;obtain rfl:=oi hf;exact ZaI Zaj 0 _ _ [] [] (⟨[],[],[],[],[(2,[(18,cL 5 Zab.c Zab.d []),(19,cL 7 Zad.c Zad.d [])])],[],[]⟩) 3 ⟨[(100000,100000)],pvOf q1⟩ (.c (Zbt _ _ _ q1) .n) (by kernel_rfl)
def Zgw(a0:Int):Option Zao:=some (Zao.mk a0 (Zah.mk (Zag.mk false (0:Int) (0:Int)) (0:Int)) (0:Int) (0:Int) ([]:(List Zaa)))
theorem ZgO(a0:Int)(r:Zao)(hf:Zgw a0=some r):ZaC Tryz.prog 248 [.one (.lit (.int .i64 a0))] (.agg (Zao.c r)):=by
 refine ZaC.of Tryz.func248 rfl rfl rfl rfl fun S0 w0=>?_;unfold Zgw at hf;obtain rfl:=oi hf;exact Zan Zaj 4 [rz,rz] [] [] [(2,[(7,cL 10 Zaa.c Zaa.d [])])] [] .n (by kernel_rfl) rfl
def ZgM(a0:Zbc)(a1:Zak):Option (Tout Zao):=(Zho a1 true).bind fun x1=>(match x1 with | .ret x1v x1g=>(Zgw (1:Int)).bind fun x2=>some (Tout.ret x2 x1g) | .pan x1o=>some (Tout.pan x1o) | .bad x1s=>some (Tout.bad x1s))
theorem Zkb(a0:Zbc)(a1:Zak)(r:(Tout Zao))(hf:ZgM a0 a1=some r):Zfc Tryz.prog 187 [(100000,.box (Zak.c a1))] [.agg (Zbc.c a0),.one (.ifc 112 (.ptr 100000 0))] (oc (fun x=>.agg (Zao.c x)) r):=by
 refine Zfc.of Tryz.func187 rfl rfl rfl rfl fun S0 w0=>?_;unfold ZgM at hf;obtain⟨x1,q1,hf⟩:=Zaf hf;cases x1 with
 |ret x1v x1g=>
  dsimp only at hf;obtain⟨x2,q2,hf⟩:=Zaf hf;obtain rfl:=oi hf;exact Zch Zaj 6 [rz,rH [(1,.id 465)] [(1,⟨[(100000,100000)],[],[(100000,.box (Zak.c x1g))],.tup []⟩)],rA [(0,aG (Zao.c x2))]] [] ⟨[],[],[],[],[],[4],[4,100000],[]⟩ [100000] (.c (ZgA _ _ _ q1) (.c ZpR (.c (ZgO _ _ q2) .n))) (by kernel_rfl)
 |_=>
  dsimp only at hf;obtain rfl:=oi hf;exact ZaI Zaj 3 _ _ [rz] [] (rA [(1,.id 465)]) 1 ⟨[(100000,100000)],pvOf q1⟩ (.c (ZgA _ _ _ q1) (.c ZpR .n)) (by kernel_rfl)
def ZcS(a0:Zak)(a1:Int)(a2:Bool):Option (Tout Unit):=(Zca a0 (Zas.mk (1:Int) a1 (Zap.mk (0:Int) (0:Int) (0:Int)) (0:Int) (0:Int) (Zae.mk (0:Int) (Zaa.mk (Zah.mk (Zag.mk false (0:Int) (0:Int)) (0:Int)) false (0:Int) (Zar.mk (0:Int) (0:Int)) (0:Int) (0:Int)) ([]:(List Zab)) ([]:(List Zad))) a2)).bind fun x1=>(match x1 with | .ret x1v x1g=>some (Tout.ret () x1g) | .pan x1o=>some (Tout.pan x1o) | .bad x1s=>some (Tout.bad x1s))
theorem ZbN(a0:Zak)(a1:Int)(a2:Bool)(r:(Tout Unit))(hf:ZcS a0 a1 a2=some r):Zfc Tryz.prog 464 [(100000,.box (Zak.c a0))] [.one (.ptr 100000 0),.one (.lit (.int .i64 a1)),.one (.lit (.bool a2))] (oc (fun x=>.tup []) r):=by
 refine Zfc.of Tryz.func464 rfl rfl rfl rfl fun S0 w0=>?_;unfold ZcS at hf;obtain⟨x1,q1,hf⟩:=Zaf hf;cases x1 with
 |ret x1v x1g=>
  dsimp only at hf;obtain rfl:=oi hf;exact Zch Zaj 1 [⟨[],[],[],[],[(3,[(18,cL 5 Zab.c Zab.d []),(19,cL 7 Zad.c Zad.d [])])],[],[(4,⟨[(100000,100000)],[],[(100000,.box (Zak.c x1g))],.agg (Zae.c x1v)⟩)]⟩] [] ⟨[],[],[],[],[],[],[100000],[]⟩ [100000] (.c (Zbt _ _ _ q1) .n) (by kernel_rfl)
 |_=>
  dsimp only at hf;obtain rfl:=oi hf;exact ZaI Zaj 0 _ _ [] [] (⟨[],[],[],[],[(3,[(18,cL 5 Zab.c Zab.d []),(19,cL 7 Zad.c Zad.d [])])],[],[]⟩) 4 ⟨[(100000,100000)],pvOf q1⟩ (.c (Zbt _ _ _ q1) .n) (by kernel_rfl)
def ZhR(a0:Int):Option Int:=some (if(8:Int)<(if(1:Int)>a0 then(1:Int)else a0)then(8:Int)else(if(1:Int)>a0 then(1:Int)else a0))
theorem Zlc(a0 r:Int)(hf:ZhR a0=some r):ZaC Tryz.prog 256 [.one (.lit (.int .i64 a0))] (.one (.lit (.int .i64 r))):=by
 refine ZaC.of Tryz.func256 rfl rfl rfl rfl fun S0 w0=>?_;unfold ZhR at hf;obtain rfl:=oi hf;exact Zan Zaj 4 [rz,rz] [] [] [] [] .n (by kernel_rfl) rfl
def Zcy:Nat→Int→Int→Zak→Option (Tout Unit)|0,_,_,_=>none|fu+1,v6,v7,b100000=>bif(decide (v7<v6))then(ZcS b100000 (Zaw (2:Int) v7) false).bind fun x2=>(match x2 with | .ret x2v x2g=>Zcy fu v6 (Zaw v7 (1:Int)) x2g | .pan x2o=>some (Tout.pan x2o) | .bad x2s=>some (Tout.bad x2s))else some (Tout.ret () b100000)
theorem ZoP(S0:Nat→Prop)(w0:Zbg):∀(fu:Nat)(v6 v7:Int)(b100000:Zak)(r:(Tout Unit)),Zcy fu v6 v7 b100000=some r→Good Tryz.prog 15 S0 w0 (bodyPost Tryz.prog Tryz.f197 (ZiC S0 w0 (oc (fun x=>.tup []) r))) (at_ [1,0] (Zbn Tryz.f197)) ⟨[(0,.one (.ifc 112 (.ptr 100000 0))),(6,.one (.lit (.int .i64 v6))),(7,.one (.lit (.int .i64 v7)))],[(100000,.box [cL 13 Zae.c Zae.d b100000.fgot])]⟩:=by
 intro fu;induction fu with
 |zero=>
  intro v6 v7 b100000 r hf;simp[Zcy]at hf
 |succ fu ih=>
  intro v6 v7 b100000 r hf;unfold Zcy at hf;rcases Zai hf with⟨h2,hf⟩|⟨h2,hf⟩
  ·obtain⟨x2,q3,hf⟩:=Zaf hf;cases x2 with
   |ret x2v x2g=>
    dsimp only at hf;exact ZaH Zaj ZiC.ends 14 [rz,rz,rH [(3,.id 464)] [(3,⟨[(100000,100000)],[],[(100000,.box (Zak.c x2g))],.tup []⟩)],rz] [true] ⟨[],[],[],[],[],[0,6,7],[100000],[]⟩ (.c h2 (.c (ZbN _ _ _ _ q3) (.c Zhm .n))) (by kernel_rfl) (ih v6 (Zaw v7 (1:Int)) x2g r hf)
   |_=>
    dsimp only at hf;obtain rfl:=oi hf;exact ZaI Zaj 10 _ _ [rz,rz] [true] (rA [(3,.id 464)]) 3 ⟨[(100000,100000)],pvOf q3⟩ (.c h2 (.c (ZbN _ _ _ _ q3) (.c Zhm .n))) (by kernel_rfl)
  ·obtain rfl:=oi hf;exact Zch Zaj 6 [rz] [false] ⟨[],[],[],[],[],[],[100000],[]⟩ [100000] (.c h2 .n) (by kernel_rfl)
def Zfu(a0:Zak)(a1:Int):Option (Tout Unit):=(ZhR a1).bind fun x1=>Zcy ((x1-(0:Int)).toNat+2) x1 (0:Int) a0
theorem Zfe(a0:Zak)(a1:Int)(r:(Tout Unit))(hf:Zfu a0 a1=some r):Zfc Tryz.prog 197 [(100000,.box (Zak.c a0))] [.one (.ifc 112 (.ptr 100000 0)),.one (.lit (.int .i64 a1))] (oc (fun x=>.tup []) r):=by
 refine Zfc.of Tryz.func197 rfl rfl rfl rfl fun S0 w0=>?_;unfold Zfu at hf;obtain⟨x1,q1,hf⟩:=Zaf hf;exact ZaH Zaj ZiC.ends 3 [rA [(1,aI x1)]] [] ⟨[],[],[],[],[],[0,6,7],[100000],[]⟩ (.c (Zlc _ _ q1) .n) (by kernel_rfl) (ZoP S0 w0 ((x1-(0:Int)).toNat+2) x1 (0:Int) a0 r hf)
def Ziw:Option Zap:=some (Zap.mk (3:Int) (0:Int) (0:Int))
theorem Zkd(r:Zap)(hf:Ziw=some r):ZaC Tryz.prog 252 [] (.agg (Zap.c r)):=by
 refine ZaC.of Tryz.func252 rfl rfl rfl rfl fun S0 w0=>?_;unfold Ziw at hf;obtain rfl:=oi hf;exact Zan Zaj 4 [rz,rz] [] [] [] [] .n (by kernel_rfl) rfl
def ZcT(a0:Zak)(a1:Zap)(a2:Bool):Option (Tout Zae):=(Zca a0 (Zas.mk (5:Int) (0:Int) a1 (0:Int) (0:Int) (Zae.mk (0:Int) (Zaa.mk (Zah.mk (Zag.mk false (0:Int) (0:Int)) (0:Int)) false (0:Int) (Zar.mk (0:Int) (0:Int)) (0:Int) (0:Int)) ([]:(List Zab)) ([]:(List Zad))) a2)).bind fun x1=>(match x1 with | .ret x1v x1g=>some (Tout.ret x1v x1g) | .pan x1o=>some (Tout.pan x1o) | .bad x1s=>some (Tout.bad x1s))
theorem ZbO(a0:Zak)(a1:Zap)(a2:Bool)(r:(Tout Zae))(hf:ZcT a0 a1 a2=some r):Zfc Tryz.prog 463 [(100000,.box (Zak.c a0))] [.one (.ptr 100000 0),.agg (Zap.c a1),.one (.lit (.bool a2))] (oc (fun x=>.agg (Zae.c x)) r):=by
 refine Zfc.of Tryz.func463 rfl rfl rfl rfl fun S0 w0=>?_;unfold ZcT at hf;obtain⟨x1,q1,hf⟩:=Zaf hf;cases x1 with
 |ret x1v x1g=>
  dsimp only at hf;obtain rfl:=oi hf;exact Zch Zaj 4 [rz,⟨[],[],[],[],[(3,[(18,cL 5 Zab.c Zab.d []),(19,cL 7 Zad.c Zad.d [])])],[],[(4,⟨[(100000,100000)],[],[(100000,.box (Zak.c x1g))],.agg (Zae.c x1v)⟩)]⟩] [] ⟨[],[],[],[],[],[6],[6,100000],[]⟩ [100000] (.c (Zbt _ _ _ q1) .n) (by kernel_rfl)
 |_=>
  dsimp only at hf;obtain rfl:=oi hf;exact ZaI Zaj 3 _ _ [rz] [] (⟨[],[],[],[],[(3,[(18,cL 5 Zab.c Zab.d []),(19,cL 7 Zad.c Zad.d [])])],[],[]⟩) 4 ⟨[(100000,100000)],pvOf q1⟩ (.c (Zbt _ _ _ q1) .n) (by kernel_rfl)
def Zhb(a0:Zak):Option (Tout (List Zab)):=(Ziw).bind fun x1=>(ZcT a0 x1 false).bind fun x2=>(match x2 with | .ret x2v x2g=>some (Tout.ret x2v.fBans x2g) | .pan x2o=>some (Tout.pan x2o) | .bad x2s=>some (Tout.bad x2s))
theorem ZdJ(a0:Zak)(r:(Tout (List Zab)))(hf:Zhb a0=some r):Zfc Tryz.prog 251 [(100000,.box (Zak.c a0))] [.one (.ifc 112 (.ptr 100000 0))] (oc (fun x=>.one (cL 5 Zab.c Zab.d x)) r):=by
 refine Zfc.of Tryz.func251 rfl rfl rfl rfl fun S0 w0=>?_;unfold Zhb at hf;obtain⟨x1,q1,hf⟩:=Zaf hf;obtain⟨x2,q2,hf⟩:=Zaf hf;cases x2 with
 |ret x2v x2g=>
  dsimp only at hf;obtain rfl:=oi hf;exact Zch Zaj 4 [rz,rH [(1,aG (Zap.c x1)),(5,.id 463)] [(5,⟨[(100000,100000)],[],[(100000,.box (Zak.c x2g))],.agg (Zae.c x2v)⟩)]] [] ⟨[],[],[],[],[],[2],[100000],[]⟩ [100000] (.c (Zkd _ q1) (.c ZoD (.c (ZbO _ _ _ _ q2) (.c Zhn .n)))) (by kernel_rfl)
 |_=>
  dsimp only at hf;obtain rfl:=oi hf;exact ZaI Zaj 3 _ _ [rz] [] (rA [(1,aG (Zap.c x1)),(5,.id 463)]) 5 ⟨[(100000,100000)],pvOf q2⟩ (.c (Zkd _ q1) (.c ZoD (.c (ZbO _ _ _ _ q2) (.c Zhn .n)))) (by kernel_rfl)
def Zln(a0:Zab):Option Bool:=(Zgt a0.fNet).bind fun x1=>bif x1 then bif(decide (a0.fUntil≥(1:Int)))then some (decide (a0.fUntil≤(1099511627776:Int)))else some false else some false
theorem Zph(a0:Zab)(r:Bool)(hf:Zln a0=some r):ZaC Tryz.prog 345 [.agg (Zab.c a0)] (.one (.lit (.bool r))):=by
 refine ZaC.of Tryz.func345 rfl rfl rfl rfl fun S0 w0=>?_;unfold Zln at hf;obtain⟨x1,q1,hf⟩:=Zaf hf;rcases Zai hf with⟨h2,hf⟩|⟨h2,hf⟩
 ·rcases Zai hf with⟨h3,hf⟩|⟨h3,hf⟩
  ·obtain rfl:=oi hf;exact Zan Zaj 4 [rz,⟨[(2,aB x1)],[(3,true),(8,true)],[],[],[],[],[]⟩] [] [] [] [] (.c (Zcs _ _ q1) (.c h2 (.c h3 .n))) (by kernel_rfl) rfl
  ·obtain rfl:=oi hf;exact Zan Zaj 4 [rz,⟨[(2,aB x1)],[(3,true),(8,false)],[],[],[],[],[]⟩] [] [] [] [] (.c (Zcs _ _ q1) (.c h2 (.c h3 .n))) (by kernel_rfl) rfl
 ·obtain rfl:=oi hf;exact Zan Zaj 4 [rz,⟨[(2,aB x1)],[(3,false)],[],[],[],[],[]⟩] [] [] [] [] (.c (Zcs _ _ q1) (.c h2 .n)) (by kernel_rfl) rfl
def Zcn(a0:List Zab):Option (List Zab):=need (0<a0.length)<|need ((([]:List Zab)++a0).length * 40≤140737488355328∧(([]:List Zab)++a0).length≤maxLen)<|some (([]:List Zab)++a0)
theorem ZfA(a0 r:List Zab)(hf:Zcn a0=some r):Zcl Tryz.prog 323 [] [.one (cL 5 Zab.c Zab.d a0)] [(99999,.rows 146 5 r.length (Zam Zab.c Zab.d r))] (.one (.osl 99999 r.length)):=by
 refine Zcl.of Tryz.func323 rfl rfl rfl rfl fun S0 w0=>?_;unfold Zcn at hf;obtain⟨o1,hf⟩:=Zav hf;obtain⟨o2,hf⟩:=Zav hf;obtain rfl:=oi hf;exact ZbA Zaj 9 [rz,rz,rA [(0,.c ([]:List Zab).length (Zam Zab.c Zab.d ([]:List Zab))),(2,.c ((([]:List Zab)++a0).length) (Zam Zab.c Zab.d (([]:List Zab)++a0)))]] [false] ⟨[],[],[],[],[],[2],[7],[(7,99999)]⟩ (.c o1 (.c (show false=false from rfl) (.c (show ([]:List Zab).length=0 from rfl) (.c (show ∀i j,i<0→j<5→Zam Zab.c Zab.d ([]:List Zab) i j=(([]:List Zab).flatMap Zab.c).getD (i * 5+j) .junk from(fun i j hi hj=>ZaT (sz:=5) (e:=Zab.c) (d:=Zab.d) (fun _=>rfl) ([]:List Zab) i j hi hj)) (.c (ZcV (sz:=5) (e:=Zab.c) (d:=Zab.d) ([]:List Zab) a0) (.c o2.1 (.c o2.2 .n))))))) (by kernel_rfl)
theorem ZfP(x:Addr)(cap:Nat)(c:Nat→Nat→C):Zcl Tryz.prog 323 [] [.one (.lit (.slice (some x) 0 cap))] [(99999,.rows 146 5 0 c)] (.one (.osl 99999 0)):=by
 refine Zcl.of Tryz.func323 rfl rfl rfl rfl fun S0 w0=>?_;exact ZiK Zaj 9 _ _ [⟨[],[],[],[],[],[],[]⟩,⟨[(1,.r (.one (.lit (.bool false))) [])],[],[],[],[],[],[]⟩,⟨[(0,.c 0 c),(2,.c 0 c)],[],[],[],[],[],[]⟩] [false] ⟨[],[],[],[],[],[2],[7],[(7,99999)]⟩
  [∀w,(do eqGuard .eql 45 (.tmp 3) (.const (.slice none 0 0)) (.slice (some x) 0 cap) (.slice none 0 0);binOp .eql 45 (.slice (some x) 0 cap) (.slice none 0 0):Sem Value).run Tryz.prog w=.ok (.bool false) w,false=false,0=0,∀i j,i<0→j<5→c i j=([]:List C).getD (i * 5+j) .junk,Ext 5 0 0 c (fun _ _=>.junk) 0 c,0 * 40≤140737488355328,0≤maxLen] (by kernel_rfl) ⟨fun w=>by
   have hg:(eqGuard .eql 45 (.tmp 3) (.const (.slice none 0 0)) (.slice (some x) 0 cap) (.slice none 0 0)).run Tryz.prog w=.ok () w:=by simp[eqGuard]
   rw[Sem.run_bind,hg,Result.andThen_ok];exact Go.run_eql_slice_nil w _ _ (some x) 0 cap Tryz.underlying45,rfl,rfl,fun i j h=>absurd h (Nat.not_lt_zero i),⟨rfl,fun _ _ h=>absurd h (Nat.not_lt_zero _),fun _ _ h=>absurd h (Nat.not_lt_zero _)⟩,by decide,by decide,trivial⟩
theorem ZfO(cap:Nat)(c:Nat→Nat→C):Zcl Tryz.prog 323 [] [.one (.lit (.slice none 0 cap))] [(99999,.rows 146 5 0 c)] (.one (.osl 99999 0)):=by
 refine Zcl.of Tryz.func323 rfl rfl rfl rfl fun S0 w0=>?_;exact ZiK Zaj 8 _ _ [⟨[],[],[],[],[],[],[]⟩,⟨[(1,.r (.one (.lit (.bool true))) [])],[],[],[],[],[],[]⟩,⟨[],[],[],[],[],[],[]⟩] [true] ⟨[],[],[],[],[(2,99999,146,5,c)],[2],[99999],[]⟩
  [∀w,(do eqGuard .eql 45 (.tmp 3) (.const (.slice none 0 0)) (.slice none 0 cap) (.slice none 0 0);binOp .eql 45 (.slice none 0 cap) (.slice none 0 0):Sem Value).run Tryz.prog w=.ok (.bool true) w,true=true] (by kernel_rfl) ⟨fun w=>by
   have hg:(eqGuard .eql 45 (.tmp 3) (.const (.slice none 0 0)) (.slice none 0 cap) (.slice none 0 0)).run Tryz.prog w=.ok () w:=by simp[eqGuard]
   rw[Sem.run_bind,hg,Result.andThen_ok];exact Go.run_eql_slice_nil w _ _ none 0 cap Tryz.underlying45,rfl,trivial⟩
def Zbz(a0:List Zab):Option (List Zab):=need (a0.length * 40≤140737488355328∧a0.length≤maxLen)<|some a0
theorem Zdr(a0 r:List Zab)(hf:Zbz a0=some r):Zcl Tryz.prog 323 [] [.one (cL 5 Zab.c Zab.d a0)] [(99999,.rows 146 5 r.length (Zam Zab.c Zab.d r))] (.one (.osl 99999 r.length)):=by
 obtain⟨o1,hf⟩:=Zav hf;cases hf;refine ZpA ⟨_,Tryz.func323,rfl,rfl⟩ (fun h cap=>?_) (fun h x cap=>?_) (fun h=>?_)
 ·rw[h];exact ZfO cap _
 ·rw[h];exact ZfP x cap _
 ·refine ZfA a0 a0 ?_;unfold Zcn;rw[ZoE h,ZoE (by simpa using o1)];simp
def ZkF(a0:Zab)(c0:Zaq):Option Bool:=some (decide (a0.fNet=c0))
theorem Zrk(a0:Zab)(c0:Zaq)(r:Bool)(hf:ZkF a0 c0=some r):ZaC Tryz.prog 364 [.agg (Zab.c a0),.one (.rp false 4 (fun j=>(Zaq.c c0:List C).getD (0+j) .junk))] (.one (.lit (.bool r))):=by
 refine ZaC.of Tryz.func364 rfl rfl rfl rfl fun S0 w0=>?_;unfold ZkF at hf;obtain rfl:=oi hf;exact Zan Zaj 4 [rz,rA [(3,aB (decide (a0.fNet=c0)))]] [] [] [] [] (.c (ZkH a0.fNet c0 (.tmp 5) (.tmp 6)) .n) (by kernel_rfl) rfl
def ZaV(a0:List Zab)(a1_0:Zaq):Nat→Int→Int→Option Int|0,_,_=>none|fu+1,v7,v8=>bif(decide (v8<v7))then need (0≤v8∧v8<((a0.length:Nat):Int))<|(ZkF (a0.getD v8.toNat Zab.d) a1_0).bind fun x1=>bif x1 then some v8 else ZaV a0 a1_0 fu v7 (Zaw v8 (1:Int))else some (-1:Int)
theorem ZgT(S0:Nat→Prop)(w0:Zbg)(a0:List Zab)(a1_0:Zaq):∀(fu:Nat)(v7 v8 r:Int),ZaV a0 a1_0 fu v7 v8=some r→Good Tryz.prog 19 S0 w0 (bodyPost Tryz.prog Tryz.f347 (Post S0 w0 (.one (.lit (.int .i64 r))))) (at_ [1,0,1,0] (Zbn Tryz.f347)) ⟨[(0,.one (cL 5 Zab.c Zab.d a0)),(1,.one (.clo (.func 364) 0 1 (fun i=>([]:List C).getD i .junk) (fun i=>([.rp false 4 (fun j=>(Zaq.c a1_0:List C).getD (0+j) .junk)]:List C).getD i .junk))),(7,.one (.lit (.int .i64 v7))),(8,.one (.lit (.int .i64 v8)))],[]⟩:=by
 intro fu;induction fu with
 |zero=>
  intro v7 v8 r hf;simp[ZaV]at hf
 |succ fu ih=>
  intro v7 v8 r hf;unfold ZaV at hf;rcases Zai hf with⟨h1,hf⟩|⟨h1,hf⟩
  ·obtain⟨o2,hf⟩:=Zav hf;obtain⟨x1,q3,hf⟩:=Zaf hf;have O1:Obl _:=(.c h1 (.c o2 (.c (Zrk _ _ _ q3) .n)));rcases Zai hf with⟨h4,hf⟩|⟨h4,hf⟩
   ·obtain rfl:=oi hf;exact Zan Zaj 15 [rz,rz,rA [(5,aB x1)],rz] [true,true] [] [] [] (O1.app (.c h4 .n)) (by kernel_rfl) rfl
   ·exact ZaH Zaj Post.ends 17 [rz,rz,rA [(5,aB x1)],rz] [true,false] ⟨[],[],[],[],[],[0,1,7,8],[],[]⟩ (O1.app (.c h4 .n)) (by kernel_rfl) (ih v7 (Zaw v8 (1:Int)) r hf)
  ·obtain rfl:=oi hf;exact Zan Zaj 8 [rz,rz] [false] [] [] [] (.c h1 .n) (by kernel_rfl) rfl
def Zct(a0:List Zab)(a1_0:Zaq):Option Int:=ZaV a0 a1_0 ((((a0.length:Nat):Int)-(0:Int)).toNat+2) ((a0.length:Nat):Int) (0:Int)
theorem ZhI(a0:List Zab)(a1_0:Zaq)(r:Int)(hf:Zct a0 a1_0=some r):ZaC Tryz.prog 347 [.one (cL 5 Zab.c Zab.d a0),.one (.clo (.func 364) 0 1 (fun i=>([]:List C).getD i .junk) (fun i=>([.rp false 4 (fun j=>(Zaq.c a1_0:List C).getD (0+j) .junk)]:List C).getD i .junk))] (.one (.lit (.int .i64 r))):=by
 refine ZaC.of Tryz.func347 rfl rfl rfl rfl fun S0 w0=>?_;unfold Zct at hf;exact ZaH Zaj Post.ends 6 [rz,rz] [] ⟨[],[],[],[],[],[0,1,7,8],[],[]⟩ .n (by kernel_rfl) (ZgT S0 w0 a0 a1_0 ((((a0.length:Nat):Int)-(0:Int)).toNat+2) ((a0.length:Nat):Int) (0:Int) r hf)
def ZjP(a0:List Zab)(a1:Zaq):Option Int:=(Zct a0 a1).bind fun x1=>some x1
theorem Zmj(a0:List Zab)(a1:Zaq)(r:Int)(hf:ZjP a0 a1=some r):ZaC Tryz.prog 321 [.one (cL 5 Zab.c Zab.d a0),.agg (Zaq.c a1)] (.one (.lit (.int .i64 r))):=by
 refine ZaC.of Tryz.func321 rfl rfl rfl rfl fun S0 w0=>?_;unfold ZjP at hf;obtain⟨x1,q1,hf⟩:=Zaf hf;obtain rfl:=oi hf;exact Zan Zaj 4 [rz,⟨[(2,aI x1)],[],[(1,[3])],[],[],[],[]⟩] [] [] [] [] (.c (ZhI _ _ _ q1) .n) (by kernel_rfl) rfl
def ZoH(a0 a1:Zab):Option Zab:=bif(decide (a0.fNet=a1.fNet))then some (Zab.mk a0.fNet (if a1.fUntil>a0.fUntil then a1.fUntil else a0.fUntil))else some a0
theorem ZuZ(a0 a1 r:Zab)(hf:ZoH a0 a1=some r):ZaC Tryz.prog 346 [.agg (Zab.c a0),.agg (Zab.c a1)] (.agg (Zab.c r)):=by
 refine ZaC.of Tryz.func346 rfl rfl rfl rfl fun S0 w0=>?_;unfold ZoH at hf
 let R1:List RA:=[rz,rA [(4,aB (decide (a0.fNet=a1.fNet)))],rz]
 have O2:Obl _:=(.c (ZkH a0.fNet a1.fNet (.tmp 6) (.tmp 8)) .n);rcases Zai hf with⟨h1,hf⟩|⟨h1,hf⟩
 ·obtain rfl:=oi hf;exact Zan Zaj 9 (R1++[rz]) [true] [] [] [] (O2.app (.c h1 .n)) (by kernel_rfl) rfl
 ·obtain rfl:=oi hf;exact Zan Zaj 9 R1 [false] [] [] [] (O2.app (.c h1 .n)) (by kernel_rfl) rfl
def Zii(a0:Zag):Option Int:=bif a0.fV6 then some (1:Int)else some (0:Int)
theorem Znz(a0:Zag)(r:Int)(hf:Zii a0=some r):ZaC Tryz.prog 374 [.agg (Zag.c a0)] (.one (.lit (.int .i64 r))):=by
 refine ZaC.of Tryz.func374 rfl rfl rfl rfl fun S0 w0=>?_;unfold Zii at hf;rcases Zai hf with⟨h1,hf⟩|⟨h1,hf⟩
 ·obtain rfl:=oi hf;exact Zan Zaj 8 [rz,rz,rz] [true] [] [] [] (.c h1 .n) (by kernel_rfl) rfl
 ·obtain rfl:=oi hf;exact Zan Zaj 9 [rz,rz,rz] [false] [] [] [] (.c h1 .n) (by kernel_rfl) rfl
def ZhZ(a0:Int):Option Bool:=some (a0 != a0)
theorem ZlP(a0:Int)(r:Bool)(hf:ZhZ a0=some r):ZaC Tryz.prog 376 [.one (.lit (.int .i64 a0))] (.one (.lit (.bool r))):=by
 refine ZaC.of Tryz.func376 rfl rfl rfl rfl fun S0 w0=>?_;unfold ZhZ at hf;obtain rfl:=oi hf;exact Zan Zaj 4 [rz,rz] [] [] [] [] .n (by kernel_rfl) rfl
def ZeI(a0 a1:Int):Option Int:=(ZhZ a0).bind fun x1=>(ZhZ a1).bind fun x2=>bif x1 then bif x2 then some (0:Int)else some (-1:Int)else bif x2 then some (1:Int)else bif(decide (a0<a1))then some (-1:Int)else bif(decide (a0>a1))then some (1:Int)else some (0:Int)
theorem Ziq(a0 a1 r:Int)(hf:ZeI a0 a1=some r):ZaC Tryz.prog 338 [.one (.lit (.int .i64 a0)),.one (.lit (.int .i64 a1))] (.one (.lit (.int .i64 r))):=by
 refine ZaC.of Tryz.func338 rfl rfl rfl rfl fun S0 w0=>?_;unfold ZeI at hf;obtain⟨x1,q1,hf⟩:=Zaf hf;obtain⟨x2,q2,hf⟩:=Zaf hf
 let R1:List RA:=[rz,rA [(1,aB x1)],rA [(1,aB x2)],rz,rz,rz]
 have O2:Obl _:=(.c (ZlP _ _ q1) (.c (ZlP _ _ q2) .n));rcases Zai hf with⟨h3,hf⟩|⟨h3,hf⟩
 ·rcases Zai hf with⟨h4,hf⟩|⟨h4,hf⟩
  ·obtain rfl:=oi hf;exact Zan Zaj 16 R1 [true,true] [] [] [] (O2.app (.c h3 (.c h4 .n))) (by kernel_rfl) rfl
  ·obtain rfl:=oi hf;exact Zan Zaj 17 R1 [true,false] [] [] [] (O2.app (.c h3 (.c h4 .n))) (by kernel_rfl) rfl
 ·rcases Zai hf with⟨h5,hf⟩|⟨h5,hf⟩
  ·obtain rfl:=oi hf;exact Zan Zaj 17 R1 [false,true] [] [] [] (O2.app (.c h3 (.c h5 .n))) (by kernel_rfl) rfl
  ·rcases Zai hf with⟨h6,hf⟩|⟨h6,hf⟩
   ·obtain rfl:=oi hf;exact Zan Zaj 22 (R1++[rz]) [false,false,true] [] [] [] (O2.app (.c h3 (.c h5 (.c h6 .n)))) (by kernel_rfl) rfl
   ·rcases Zai hf with⟨h7,hf⟩|⟨h7,hf⟩
    ·obtain rfl:=oi hf;exact Zan Zaj 27 (R1++[rz,rz]) [false,false,false,true] [] [] [] (O2.app (.c h3 (.c h5 (.c h6 (.c h7 .n))))) (by kernel_rfl) rfl
    ·obtain rfl:=oi hf;exact Zan Zaj 28 (R1++[rz,rz]) [false,false,false,false] [] [] [] (O2.app (.c h3 (.c h5 (.c h6 (.c h7 .n))))) (by kernel_rfl) rfl
def Zgr(a0:Int):Option Bool:=some (a0 != a0)
theorem Zkg(a0:Int)(r:Bool)(hf:Zgr a0=some r):ZaC Tryz.prog 398 [.one (.lit (.int .u64 a0))] (.one (.lit (.bool r))):=by
 refine ZaC.of Tryz.func398 rfl rfl rfl rfl fun S0 w0=>?_;unfold Zgr at hf;obtain rfl:=oi hf;exact Zan Zaj 4 [rz,rz] [] [] [] [] .n (by kernel_rfl) rfl
def Zep(a0 a1:Int):Option Int:=(Zgr a0).bind fun x1=>(Zgr a1).bind fun x2=>bif x1 then bif x2 then some (0:Int)else some (-1:Int)else bif x2 then some (1:Int)else bif(decide (a0<a1))then some (-1:Int)else bif(decide (a0>a1))then some (1:Int)else some (0:Int)
theorem Zjr(a0 a1 r:Int)(hf:Zep a0 a1=some r):ZaC Tryz.prog 375 [.one (.lit (.int .u64 a0)),.one (.lit (.int .u64 a1))] (.one (.lit (.int .i64 r))):=by
 refine ZaC.of Tryz.func375 rfl rfl rfl rfl fun S0 w0=>?_;unfold Zep at hf;obtain⟨x1,q1,hf⟩:=Zaf hf;obtain⟨x2,q2,hf⟩:=Zaf hf
 let R1:List RA:=[rz,rA [(1,aB x1)],rA [(1,aB x2)],rz,rz,rz]
 have O2:Obl _:=(.c (Zkg _ _ q1) (.c (Zkg _ _ q2) .n));rcases Zai hf with⟨h3,hf⟩|⟨h3,hf⟩
 ·rcases Zai hf with⟨h4,hf⟩|⟨h4,hf⟩
  ·obtain rfl:=oi hf;exact Zan Zaj 16 R1 [true,true] [] [] [] (O2.app (.c h3 (.c h4 .n))) (by kernel_rfl) rfl
  ·obtain rfl:=oi hf;exact Zan Zaj 17 R1 [true,false] [] [] [] (O2.app (.c h3 (.c h4 .n))) (by kernel_rfl) rfl
 ·rcases Zai hf with⟨h5,hf⟩|⟨h5,hf⟩
  ·obtain rfl:=oi hf;exact Zan Zaj 17 R1 [false,true] [] [] [] (O2.app (.c h3 (.c h5 .n))) (by kernel_rfl) rfl
  ·rcases Zai hf with⟨h6,hf⟩|⟨h6,hf⟩
   ·obtain rfl:=oi hf;exact Zan Zaj 22 (R1++[rz]) [false,false,true] [] [] [] (O2.app (.c h3 (.c h5 (.c h6 .n)))) (by kernel_rfl) rfl
   ·rcases Zai hf with⟨h7,hf⟩|⟨h7,hf⟩
    ·obtain rfl:=oi hf;exact Zan Zaj 27 (R1++[rz,rz]) [false,false,false,true] [] [] [] (O2.app (.c h3 (.c h5 (.c h6 (.c h7 .n))))) (by kernel_rfl) rfl
    ·obtain rfl:=oi hf;exact Zan Zaj 28 (R1++[rz,rz]) [false,false,false,false] [] [] [] (O2.app (.c h3 (.c h5 (.c h6 (.c h7 .n))))) (by kernel_rfl) rfl
def ZfL:Nat→Int→(List Int)→Int→Int→Option Int|0,_,_,_,_=>none|fu+1,v3,v6,v7,v8=>bif(decide (v8<v7))then need (0≤v8∧v8<((v6.length:Nat):Int))<|bif((v6.getD v8.toNat (0:Int)) != v3)then some (v6.getD v8.toNat (0:Int))else ZfL fu v3 v6 v7 (Zaw v8 (1:Int))else some v3
theorem Zqc(S0:Nat→Prop)(w0:Zbg):∀(fu:Nat)(v3:Int)(v6:List Int)(v7 v8 r:Int),ZfL fu v3 v6 v7 v8=some r→Good Tryz.prog 18 S0 w0 (bodyPost Tryz.prog Tryz.f336 (Post S0 w0 (.one (.lit (.int .i64 r))))) (at_ [1,1,0,1,0] (Zbn Tryz.f336)) ⟨[(3,.one (.lit (.int .i64 v3))),(6,.one (cL 1 (cI .i64) (0:Int) v6)),(7,.one (.lit (.int .i64 v7))),(8,.one (.lit (.int .i64 v8)))],[]⟩:=by
 intro fu;induction fu with
 |zero=>
  intro v3 v6 v7 v8 r hf;simp[ZfL]at hf
 |succ fu ih=>
  intro v3 v6 v7 v8 r hf;unfold ZfL at hf;rcases Zai hf with⟨h1,hf⟩|⟨h1,hf⟩
  ·obtain⟨o2,hf⟩:=Zav hf;rcases Zai hf with⟨h3,hf⟩|⟨h3,hf⟩
   ·obtain rfl:=oi hf;exact Zan Zaj 15 [rz,rz,rz,rz] [true,true] [] [] [] (.c h1 (.c o2 (.c h3 .n))) (by kernel_rfl) rfl
   ·exact ZaH Zaj Post.ends 17 [rz,rz,rz,rz] [true,false] ⟨[],[],[],[],[],[3,6,7,8],[],[]⟩ (.c h1 (.c o2 (.c h3 .n))) (by kernel_rfl) (ih v3 v6 v7 (Zaw v8 (1:Int)) r hf)
  ·obtain rfl:=oi hf;exact Zan Zaj 8 [rz,rz] [false] [] [] [] (.c h1 .n) (by kernel_rfl) rfl
def Zgs(a0:List Int):Option Int:=ZfL ((((a0.length:Nat):Int)-(0:Int)).toNat+2) (0:Int) a0 ((a0.length:Nat):Int) (0:Int)
theorem Zlk(a0:List Int)(r:Int)(hf:Zgs a0=some r):ZaC Tryz.prog 336 [.one (cL 1 (cI .i64) (0:Int) a0)] (.one (.lit (.int .i64 r))):=by
 refine ZaC.of Tryz.func336 rfl rfl rfl rfl fun S0 w0=>?_;unfold Zgs at hf;exact ZaH Zaj Post.ends 8 [rz,rz,rz] [] ⟨[],[],[],[],[],[3,6,7,8],[],[]⟩ .n (by kernel_rfl) (Zqc S0 w0 ((((a0.length:Nat):Int)-(0:Int)).toNat+2) (0:Int) a0 ((a0.length:Nat):Int) (0:Int) r hf)
def ZhB(a0 a1:Zag):Option Int:=(Zii a0).bind fun x1=>(Zii a1).bind fun x2=>(ZeI x1 x2).bind fun x3=>(Zep a0.fHi a1.fHi).bind fun x4=>(Zep a0.fLo a1.fLo).bind fun x5=>(Zgs ([x3,x4,x5]:List Int)).bind fun x6=>some x6
theorem ZmN(a0 a1:Zag)(r:Int)(hf:ZhB a0 a1=some r):ZaC Tryz.prog 337 [.agg (Zag.c a0),.agg (Zag.c a1)] (.one (.lit (.int .i64 r))):=by
 refine ZaC.of Tryz.func337 rfl rfl rfl rfl fun S0 w0=>?_;unfold ZhB at hf;obtain⟨x1,q1,hf⟩:=Zaf hf;obtain⟨x2,q2,hf⟩:=Zaf hf;obtain⟨x3,q3,hf⟩:=Zaf hf;obtain⟨x4,q4,hf⟩:=Zaf hf;obtain⟨x5,q5,hf⟩:=Zaf hf;obtain⟨x6,q6,hf⟩:=Zaf hf;obtain rfl:=oi hf;exact Zan Zaj 4 [rz,⟨[(1,aI x1),(3,aI x2),(4,aI x3),(9,aI x4),(14,aI x5),(16,aI x6)],[],[],[],[],[(15,(([x3,x4,x5]:List Int).length,Zam (cI .i64) (0:Int) ([x3,x4,x5]:List Int)))],[]⟩] [] [] [] [] (.c (Znz _ _ q1) (.c (Znz _ _ q2) (.c (Ziq _ _ _ q3) (.c (Zjr _ _ _ q4) (.c (Zjr _ _ _ q5) (.c (show ([x3,x4,x5]:List Int).length=3∧∀i j,i<3→j<1→Zam (cI .i64) (0:Int) ([x3,x4,x5]:List Int) i j=(([x3,x4,x5]:List Int).flatMap (cI .i64)).getD (i * 1+j) .junk from⟨rfl,fun i j hi hj=>ZaT (sz:=1) (e:=(cI .i64)) (d:=(0:Int)) (fun _=>rfl) ([x3,x4,x5]:List Int) i j hi hj⟩) (.c (Zlk _ _ q6) .n))))))) (by kernel_rfl) rfl
def famA(a:Zag):Int:=if a.fV6 then 1 else 0
def cmpA(a b:Zag):Int:=orI (cmpI (famA a) (famA b)) (orI (cmpI a.fHi b.fHi) (cmpI a.fLo b.fLo))
theorem ZxX(a b:Int):ZeI a b=some (cmpI a b):=by
 simp only[ZeI,ZhZ,cmpI,bne_self_eq_false,Option.bind_some,cond_false];by_cases h1:a<b<;>by_cases h2:a>b<;>simp[h1,h2]<;>omega
theorem ZEG(a b:Int):Zep a b=some (cmpI a b):=by
 simp only[Zep,Zgr,cmpI,bne_self_eq_false,Option.bind_some,cond_false];by_cases h1:a<b<;>by_cases h2:a>b<;>simp[h1,h2]<;>omega
theorem or2(a b:Int):Zgs [a,b]=some (orI a b):=by
 unfold Zgs orI;simp only[List.length_cons,List.length_nil];rw[show (((0+1+1:Nat):Int)-0).toNat+2=4 from rfl];simp only[ZfL,show Zaw 0 1=1 from rfl,show Zaw 1 1=2 from rfl];simp only[Bool.cond_eq_ite,bne_iff_ne,ne_eq,ite_not,need];by_cases h1:a=0<;>by_cases h2:b=0<;>simp[h1,h2]
theorem or3(a b c:Int):Zgs [a,b,c]=some (orI a (orI b c)):=by
 unfold Zgs orI;simp only[List.length_cons,List.length_nil];rw[show (((0+1+1+1:Nat):Int)-0).toNat+2=5 from rfl];simp only[ZfL,show Zaw 0 1=1 from rfl,show Zaw 1 1=2 from rfl,show Zaw 2 1=3 from rfl];simp only[Bool.cond_eq_ite,bne_iff_ne,ne_eq,ite_not,need];by_cases h1:a=0<;>by_cases h2:b=0<;>by_cases h3:c=0<;>simp[h1,h2,h3]
theorem Zzf(a b:Zag):ZhB a b=some (cmpA a b):=by
 have hf:∀c,Zii c=some (famA c):=fun c=>by unfold Zii famA;cases c.fV6<;>rfl
 simp only[ZhB,hf,ZxX,ZEG,or3,Option.bind_some,cmpA]
theorem ZDJ{a b:Int}:orI a b<0↔a<0∨(a=0∧b<0):=by unfold orI;constructor<;>intro h<;>(repeat' split at *)<;>omega
theorem ZDK{a b:Int}:0<orI a b↔0<a∨(a=0∧0<b):=by unfold orI;constructor<;>intro h<;>(repeat' split at *)<;>omega
theorem ZyB{a b:Int}:orI a b=0↔a=0∧b=0:=by unfold orI;constructor<;>intro h<;>(repeat' split at *)<;>omega
theorem ZEB{a b:Zag}:famA a=famA b↔a.fV6=b.fV6:=by unfold famA;cases a.fV6<;>cases b.fV6<;>simp
theorem ZBU{a b:Zag}:cmpA a b<0↔famA a<famA b∨(famA a=famA b∧(a.fHi<b.fHi∨(a.fHi=b.fHi∧a.fLo<b.fLo))):=by simp only[cmpA,ZDJ,ZBQ,Zqs]
theorem ZEI{a b:Zag}:0<cmpA a b↔famA b<famA a∨(famA a=famA b∧(b.fHi<a.fHi∨(a.fHi=b.fHi∧b.fLo<a.fLo))):=by simp only[cmpA,ZDK,ZBR,Zqs]
theorem ZsT{a b:Zag}:cmpA a b=0↔a=b:=by
 simp only[cmpA,ZyB,Zqs,ZEB];obtain⟨v,hi,lo⟩:=a;obtain⟨v',hi',lo'⟩:=b;simp
theorem ZAb{a b c:Zag}(h1:cmpA a b<0)(h2:cmpA b c<0):cmpA a c<0:=by
 rw[ZBU]at *
 omega
theorem ZBT{a b:Zag}:0<cmpA a b↔cmpA b a<0:=by
 rw[ZEI,ZBU];constructor<;>intro h<;>omega
def ZiB(a0 a1:Zaq):Option Int:=(ZhB a0.fAddr a1.fAddr).bind fun x1=>(ZeI a0.fBits a1.fBits).bind fun x2=>(Zgs ([x1,x2]:List Int)).bind fun x3=>some x3
theorem ZqL(a0 a1:Zaq)(r:Int)(hf:ZiB a0 a1=some r):ZaC Tryz.prog 349 [.agg (Zaq.c a0),.agg (Zaq.c a1)] (.one (.lit (.int .i64 r))):=by
 refine ZaC.of Tryz.func349 rfl rfl rfl rfl fun S0 w0=>?_;unfold ZiB at hf;obtain⟨x1,q1,hf⟩:=Zaf hf;obtain⟨x2,q2,hf⟩:=Zaf hf;obtain⟨x3,q3,hf⟩:=Zaf hf;obtain rfl:=oi hf;exact Zan Zaj 4 [rz,⟨[(4,aI x1),(9,aI x2),(11,aI x3)],[],[],[],[],[(10,(([x1,x2]:List Int).length,Zam (cI .i64) (0:Int) ([x1,x2]:List Int)))],[]⟩] [] [] [] [] (.c (ZmN _ _ _ q1) (.c (Ziq _ _ _ q2) (.c (show ([x1,x2]:List Int).length=2∧∀i j,i<2→j<1→Zam (cI .i64) (0:Int) ([x1,x2]:List Int) i j=(([x1,x2]:List Int).flatMap (cI .i64)).getD (i * 1+j) .junk from⟨rfl,fun i j hi hj=>ZaT (sz:=1) (e:=(cI .i64)) (d:=(0:Int)) (fun _=>rfl) ([x1,x2]:List Int) i j hi hj⟩) (.c (Zlk _ _ q3) .n)))) (by kernel_rfl) rfl
def cmpN(a b:Zaq):Int:=orI (cmpA a.fAddr b.fAddr) (cmpI a.fBits b.fBits)
theorem ZDo(a b:Zaq):ZiB a b=some (cmpN a b):=by
 simp only[ZiB,Zzf,ZxX,or2,Option.bind_some,cmpN]
set_option maxHeartbeats 4000000 in
set_option maxRecDepth 100000 in
theorem Zwf (b n c i vb m vc : Nat) (cur vcur : Array Value) (w : World) (hi : i < n) (hm : 0 < m) (hroom : n + m ≤ c) (hc63 : c ≤ maxLen) (hvb : vb ≠ b)
    (hcur:w.heap[b]? = some (.cells cur 146 (0,0))) (hcs:cur.size = c * 5) (hvcur:w.heap[vb]? = some (.cells vcur 146 (0,0))) (hvm:m≤vc) (hvs:vcur.size = vc * 5)
    (h1c : ∀ v ∈ cur.toList.take (n * 5),v.oneCell' = true) (h1v : ∀ v ∈ vcur.toList.take (m * 5),v.oneCell' = true) :
    Calls Tryz.prog 350 #[.slice (some ⟨b,0,none⟩) n c,.int .i64 i,.slice (some ⟨vb,0,none⟩) m vc] w fun e w' =>
      ∃ R:Array Value,e = .returned (.slice (some ⟨b,0,none⟩) (n + m) c)∧w.drawn≤w'.drawn∧w.grownBy w' (some b)∧w'.heap[b]? = some (.cells R 146 (0,0))∧R.size = c * 5 ∧
        R.toList.take ((n + m) * 5) = cur.toList.take (i * 5) ++ vcur.toList.take (m * 5) ++ (cur.toList.drop (i * 5)).take ((n - i) * 5):=by
  have hc63':=hc63
  unfold maxLen at hc63
  have hz1 : ¬ ((m:Int) = 0):=by omega
  have hz2 : ¬ ((i:Int) = (n:Int)):=by omega
  have hw1:IntKind.i64.wrap ((i:Int) + (m:Int)) = (i:Int) + (m:Int):=by rw [IntKind.wrap_i64]; omega
  have hw2:IntKind.i64.wrap ((n:Int) + (m:Int)) = (n:Int) + (m:Int):=by rw [IntKind.wrap_i64]; omega
  have hb1:(0:Int)≤(i:Int) + (m:Int):=by omega
  have hin:i≤n:=by omega
  have htn:((i:Int) + (m:Int)).toNat = i + m:=by omega
  have hb2 : ¬ (c = i + m):=by omega
  have hb3:(i:Int)≤(n:Int) + (m:Int):=by omega
  have hb4 : ¬ (c = i):=by omega
  have hov : ∀ o lb cb,(callFunc 382 #[.slice (some ⟨vb,0,none⟩) m vc,.slice (some ⟨b,o,none⟩) lb cb]).run Tryz.prog w = .ok (.value (.bool false)) w:=fun o lb cb =>by
    rw [run_callFunc_extern Tryz.func382 (by kernel_rfl) (by kernel_rfl) (by kernel_rfl) (e:=Extern.SlicesOverlaps.overlaps #[45,45] #[4]) (by kernel_rfl),
      Lib.run_overlaps_apart w 45 4 146 Tryz.underlying45 5 Tryz.sizeOf146 ⟨vb,0,none⟩ ⟨b,o,none⟩ m vc lb cb hvb 146 146 vcur.size cur.size (by simp [World.shape?,hvcur]) (by simp [World.shape?,hcur]) (by omega) (by simp [World.frozen?,hvcur]) (by simp [World.frozen?,hvcur])]
    rfl
  have hsz:(Tryz.prog.info? 146).map (·.size) = some 5:=by kernel_rfl
  obtain ⟨M1,hM1⟩ : ∃ M1,M1 = Zgy cur.toList ((i + m) * 5) ((cur.toList.drop (i * 5)).take ((n - i) * 5)):=⟨_,rfl⟩
  have hM1l:M1.toArray.size = c * 5:=by
    rw [hM1]; simp [Zgy]; omega
  have hcp1 : ∀ ty dc sc,(Builtin.copy_ #[45,45] ty #[.slice (some ⟨b,(i + m) * 5,none⟩) (n + m - (i + m)) dc,.slice (some ⟨b,i * 5,none⟩) (n + m - i) sc]).run Tryz.prog w.drew = .ok (goInt ((n - i:Nat):Int)) (w.drew.setRow b M1.toArray):=fun ty dc sc =>by
    have h:=Zkz (P:=Tryz.prog) w.drew 45 45 ty 146 5 b ((i + m) * 5) (n + m - (i + m)) dc ⟨b,i * 5,none⟩ (n + m - i) sc cur 146 ((cur.toList.drop (i * 5)).take ((n - i) * 5)) Tryz.underlying45 hsz
      (by have : Nat.min (n + m - i) (n + m - (i + m)) = n - i := by simp only [Nat.min_def]; split <;> omega
          rw [this]; simp; omega)
      (fun j v hj =>by
        rw [Zft]
        rw [List.getElem?_take] at hj
        split at hj
        · rw [List.getElem?_drop] at hj
          rw [show w.drew.cell? ⟨b,i * 5 + j,none⟩ = w.cell? ⟨b,i * 5 + j,none⟩ from rfl,cell_of_row w b _ cur 146 (0,0) hcur]
          simpa using hj
        · cases hj)
      hcur (by simp; omega) (fun v hv =>h1c v (by
        obtain ⟨j,hj⟩:=List.getElem?_of_mem hv
        rw [List.getElem?_take] at hj
        split at hj
        · rw [List.getElem?_drop] at hj
          exact List.mem_of_getElem? (i:=i * 5 + j) (by rw [List.getElem?_take,if_pos (by omega)]; exact hj)
        · cases hj))
    rw [show Nat.min (n + m - i) (n + m - (i + m)) = n - i by simp only [Nat.min_def]; split <;> omega,← hM1] at h
    exact h
  obtain ⟨W1,hW1⟩ : ∃ W1,W1 = w.drew.setRow b M1.toArray:=⟨_,rfl⟩
  have hW1b:W1.heap[b]? = some (.cells M1.toArray 146 (0,0)):=by
    rw [hW1]; exact setRow_heap _ _ _ _ _ _ hcur
  have hW1v:W1.heap[vb]? = some (.cells vcur 146 (0,0)):=by
    rw [hW1,setRow_other _ _ _ _ hvb]; exact hvcur
  have hcp2 : ∀ (W:World),W.heap = W1.heap→∀ ty dc,(Builtin.copy_ #[45,45] ty #[.slice (some ⟨b,i * 5,none⟩) (n + m - i) dc,.slice (some ⟨vb,0,none⟩) m vc]).run Tryz.prog W = .ok (goInt (m:Int)) (W.setRow b (Zgy M1 (i * 5) (vcur.toList.take (m * 5))).toArray):=fun W hWh ty dc =>by
    have h:=Zkz (P:=Tryz.prog) W 45 45 ty 146 5 b (i * 5) (n + m - i) dc ⟨vb,0,none⟩ m vc M1.toArray 146 (vcur.toList.take (m * 5)) Tryz.underlying45 hsz
      (by have : Nat.min m (n + m - i) = m := by simp only [Nat.min_def]; split <;> omega
          rw [this]; simp; omega)
      (fun j v hj =>by
        rw [Zft,Nat.zero_add]
        rw [List.getElem?_take] at hj
        split at hj
        · rw [cell_of_row W vb _ vcur 146 (0,0) (by rw [hWh]; exact hW1v)]
          simpa using hj
        · cases hj)
      (by rw [hWh]; exact hW1b) (by simp at hM1l ⊢; omega) h1v
    rw [show Nat.min m (n + m - i) = m by simp only [Nat.min_def]; split <;> omega] at h
    exact h
  rw [← hW1] at hcp1
  obtain ⟨R3,hR3⟩ : ∃ R3,R3 = Zgy M1 (i * 5) (vcur.toList.take (m * 5)):=⟨_,rfl⟩
  rw [← hR3] at hcp2
  have hR3l:R3.length = c * 5:=by
    rw [hR3]; simp at hM1l; simp [Zgy]; omega
  have hfin:R3.take ((n + m) * 5) = cur.toList.take (i * 5) ++ vcur.toList.take (m * 5) ++ (cur.toList.drop (i * 5)).take ((n - i) * 5):=by
    have hM1l' : M1.length = c * 5:=by simpa using hM1l
    have hvl:(vcur.toList.take (m * 5)).length = m * 5:=by simp; omega
    have hdl:((cur.toList.drop (i * 5)).take ((n - i) * 5)).length = (n - i) * 5:=by simp; omega
    apply List.ext_getElem?
    intro k
    rw [List.getElem?_take]
    split
    · rename_i hk
      rw [hR3,ZjI _ _ _ (by rw [hvl]; omega),hM1,ZjI _ _ _ (by rw [hdl]; simp; omega)]
      by_cases h1:k < i * 5
      · rw [if_neg (by omega),if_neg (by omega),List.append_assoc,List.getElem?_append_left (by simp; omega),List.getElem?_take,if_pos h1]
      · by_cases h2:k < (i + m) * 5
        · rw [if_pos ⟨by omega,by rw [hvl]; omega⟩,List.append_assoc,List.getElem?_append_right (by simp; omega),List.getElem?_append_left (by simp; omega)]
          congr 1; simp; omega
        · rw [if_neg (by rw [hvl]; omega),if_pos ⟨by omega,by rw [hdl]; omega⟩,List.getElem?_append_right (by rw [List.length_append,hvl]; simp; omega)]
          congr 1; rw [List.length_append,hvl]; simp; omega
    · rename_i hk
      rw [List.getElem?_eq_none (by rw [List.length_append,List.length_append,hvl,hdl]; simp; omega)]
  have hgb:w.grownBy (W1.setRow b R3.toArray) (some b):=by
    rw [hW1]
    exact ⟨rfl,rfl,rfl,by simp,fun k _ hk =>by
      have hne:k ≠ b:=fun h =>hk (by rw [h])
      rw [setRow_other _ _ _ _ hne,setRow_other _ _ _ _ hne]
      rfl⟩
  have hat:=setRow_heap W1 b _ R3.toArray _ _ hW1b
  have HF:=Lib.hid hfin; clear hfin
  have HL:=Lib.hid hR3l; clear hR3l
  have hdr:w.drawn≤(W1.setRow b R3.toArray).drawn:=by rw [hW1]; exact Nat.le_succ _
  have HG:=Lib.hid hgb; clear hgb
  have HD:=Lib.hid hdr; clear hdr
  have HA:=Lib.hid hat; clear hat
  clear hM1l hW1b hW1v h1c h1v hsz hR3
  clear hW1
  clear hM1
  have mixed:Tryz.prog.follows .mixedOrders = true:=by kernel_rfl
  go_enter Tryz.func350,Tryz.ntmps350
  go_wp2_with (simp only [hov])
  go_region_law_o (refine step_copy_runI rfl _ _ 45 45 rfl _ _ (by simp [Act.eval,Act.put]) (by simp [Act.eval,Act.put]) (hcp1 _ _ _) ?_)
  go_wp2_with (at_builtin; refine wpList_copy_runI _ rfl _ _ 45 45 rfl _ _ rfl rfl (hcp2 _ rfl _ _) ?_)
  go_ret
  exact ⟨R3.toArray,rfl,HD.out,HG.out,HA.out,HL.out,HF.out⟩
set_option maxHeartbeats 4000000 in
set_option maxRecDepth 100000 in
theorem Zxv (b n c i vb m vc : Nat) (cur vcur : Array Value) (w : World) (hi : i < n) (hm : 0 < m) (hnc : n ≤ c) (hroom : c < n + m) (hbig : (n + m) * 40 ≤ 140737488355328)
    (hcur:w.heap[b]? = some (.cells cur 146 (0,0))) (hcs:cur.size = c * 5) (hvcur:w.heap[vb]? = some (.cells vcur 146 (0,0))) (hvm:m≤vc) (hvs:vcur.size = vc * 5)
    (h1c : ∀ v ∈ cur.toList.take (n * 5),v.oneCell' = true) (h1v : ∀ v ∈ vcur.toList.take (m * 5),v.oneCell' = true) :
    Calls Tryz.prog 350 #[.slice (some ⟨b,0,none⟩) n c,.int .i64 i,.slice (some ⟨vb,0,none⟩) m vc] w fun e w' =>
      ∃ (G:Nat) (R:Array Value),e = .returned (.slice (some ⟨w.heap.size,0,none⟩) (n + m) G)∧w.drawn≤w'.drawn∧Below w.heap.size w w'∧w'.heap[w.heap.size]? = some (.cells R 146 (0,0))∧n + m≤G∧G≤maxLen∧R.size = G * 5 ∧
        R.toList.take ((n + m) * 5) = cur.toList.take (i * 5) ++ vcur.toList.take (m * 5) ++ (cur.toList.drop (i * 5)).take ((n - i) * 5):=by
  have hz1 : ¬ ((m:Int) = 0):=by omega
  have hz2 : ¬ ((i:Int) = (n:Int)):=by omega
  have hz3:(c:Int) < (n:Int) + (m:Int):=by omega
  have hkk:(n:Int) + (m:Int) - (i:Int) = ((n + m - i:Nat):Int):=by omega
  have hik:i + (n + m - i) = n + m:=by omega
  have hbw:b < w.heap.size:=(Array.getElem?_eq_some_iff.1 hcur).1
  have hvw:vb < w.heap.size:=(Array.getElem?_eq_some_iff.1 hvcur).1
  have hbN:b ≠ w.heap.size:=by omega
  have hvN:vb ≠ w.heap.size:=by omega
  obtain ⟨i0,hi0,hzs,hzb,hz0⟩:=ZEg.info (t:=146) (show Zet tab 146 = some _ from rfl)
  replace hzs:i0.size = 5:=hzs
  replace hzb:i0.bytes = 40:=hzb
  replace hz0:i0.zero = some (.agg #[.bool false,.int .u64 (0),.int .u64 (0),.int .i64 (0),.int .i64 (0)]):=hz0
  have hsz:(Tryz.prog.info? 146).map (·.size) = some 5:=by kernel_rfl
  have hold:(Builtin.firstCells i0.size i (.slice (some ⟨b,0,none⟩) i c)).run Tryz.prog w.drew = .ok (cur.toList.take (i * 5)).toArray w.drew:=by
    rw [hzs]
    exact run_firstCells_some w.drew 5 i ⟨b,0,none⟩ i c (cur.toList.take (i * 5)) (by simp; omega) (fun j v hj =>by
      rw [Zft,Nat.zero_add]
      rw [List.getElem?_take] at hj
      split at hj
      · rw [show w.drew.cell? ⟨b,j,none⟩ = w.cell? ⟨b,j,none⟩ from rfl,cell_of_row w b _ cur 146 (0,0) hcur]
        simpa using hj
      · cases hj)
  obtain ⟨G,hG⟩ : ∃ G,G = grownCap w (n + m) c 146:=⟨_,rfl⟩
  obtain ⟨ROW,hROW⟩ : ∃ ROW:Array Value,ROW = (cur.toList.take (i * 5)).toArray ++ Builtin.zeroCells (Value.cells (.agg #[.bool false,.int .u64 (0),.int .u64 (0),.int .i64 (0),.int .i64 (0)])) (n + m - i) ++ Builtin.zeroCells (Value.cells (.agg #[.bool false,.int .u64 (0),.int .u64 (0),.int .i64 (0),.int .i64 (0)])) (G - (n + m)):=⟨_,rfl⟩
  have hrz : ∀ ty, (Builtin.append_ #[45, 3] ty #[.slice (some ⟨b, 0, none⟩) i c, .int .i64 ((n : Int) + (m : Int) - (i : Int))]).run Tryz.prog w =
      .ok (.slice (some ⟨w.heap.size,0,none⟩) (n + m) G) (w.drew.alloc (.cells ROW 146)):=fun ty =>by
    have h:=Lib.run_append_grow_zeros w 45 3 ty 146 i0 _ .i64 .i64 Tryz.underlying45 Tryz.underlying3 hi0 hz0 (some ⟨b,0,none⟩) i c (cur.toList.take (i * 5)) hold (n + m - i) (by omega) (by omega) (by omega) (by omega) (by rw [hzb]; omega) (by rw [hzb,hik]; exact growslice_fits hroom hbig)
    rw [hik,← hG,← hROW] at h
    rw [hkk]
    exact h
  have hGn:n + m≤G:=by rw [hG]; exact grownCap_ge w _ _ _
  have hGm:G≤maxLen:=by rw [hG]; exact grownCap_le_maxLen w (n + m) c 146 (by unfold maxLen; omega)
  have hRs:ROW.size = G * 5:=by
    rw [hROW]
    simp [Builtin.zeroCells,Value.cells]
    omega
  have hRt:ROW.toList.take (i * 5) = cur.toList.take (i * 5):=by
    rw [hROW]
    simp only [Array.toList_append,List.append_assoc]
    rw [List.take_append_of_le_length (by simp; omega)]
    simp [List.take_take]
  clear hROW hG hold
  obtain ⟨W1,hW1⟩ : ∃ W1,W1 = w.drew.alloc (.cells ROW 146):=⟨_,rfl⟩
  have hWN:W1.heap[w.heap.size]? = some (.cells ROW 146 (0,0)):=by rw [hW1]; exact heap_alloc_new w.drew _
  have hWb:W1.heap[b]? = some (.cells cur 146 (0,0)):=by rw [hW1,heap_alloc_old w.drew _ hbw]; exact hcur
  have hWv:W1.heap[vb]? = some (.cells vcur 146 (0,0)):=by rw [hW1,heap_alloc_old w.drew _ hvw]; exact hvcur
  obtain ⟨V,hV⟩ : ∃ V,V = vcur.toList.take (m * 5):=⟨_,rfl⟩
  have hVl:V.length = m * 5:=by rw [hV]; simp; omega
  obtain ⟨D,hD⟩ : ∃ D,D = (cur.toList.drop (i * 5)).take ((n - i) * 5):=⟨_,rfl⟩
  have hDl:D.length = (n - i) * 5:=by rw [hD]; simp; omega
  obtain ⟨R2,hR2⟩ : ∃ R2,R2 = Zgy ROW.toList (i * 5) V:=⟨_,rfl⟩
  have hR2l:R2.length = G * 5:=by rw [hR2]; simp [Zgy,hVl]; omega
  obtain ⟨R3,hR3⟩ : ∃ R3,R3 = Zgy R2 ((i + m) * 5) D:=⟨_,rfl⟩
  have hR3l:R3.length = G * 5:=by rw [hR3]; simp [Zgy,hDl]; omega
  have hfin:R3.take ((n + m) * 5) = cur.toList.take (i * 5) ++ V ++ D:=by
    apply List.ext_getElem?
    intro k
    rw [List.getElem?_take]
    split
    · rename_i hk
      rw [hR3,ZjI _ _ _ (by rw [hDl]; omega),hR2,ZjI _ _ _ (by rw [hVl]; simp; omega)]
      by_cases h1:k < i * 5
      · rw [if_neg (by omega),if_neg (by omega),List.append_assoc,List.getElem?_append_left (by simp; omega),← hRt,List.getElem?_take,if_pos h1]
      · by_cases h2:k < (i + m) * 5
        · rw [if_neg (by omega),if_pos ⟨by omega,by rw [hVl]; omega⟩,List.append_assoc,List.getElem?_append_right (by simp; omega),List.getElem?_append_left (by simp; omega)]
          congr 1; simp; omega
        · rw [if_pos ⟨by omega,by rw [hDl]; omega⟩,List.getElem?_append_right (by simp [hVl]; omega)]
          congr 1; simp [hVl]; omega
    · rename_i hk
      rw [List.getElem?_eq_none (by simp [hVl,hDl]; omega)]
  have hcpA : ∀ (W:World),W.heap = W1.heap→∀ ty dc,(Builtin.copy_ #[45,45] ty #[.slice (some ⟨w.heap.size,i * 5,none⟩) (n + m - i) dc,.slice (some ⟨vb,0,none⟩) m vc]).run Tryz.prog W = .ok (goInt (m:Int)) (W.setRow w.heap.size R2.toArray):=fun W hWh ty dc =>by
    have h:=Zkz (P:=Tryz.prog) W 45 45 ty 146 5 w.heap.size (i * 5) (n + m - i) dc ⟨vb,0,none⟩ m vc ROW 146 V Tryz.underlying45 hsz
      (by have : Nat.min m (n + m - i) = m := by simp only [Nat.min_def]; split <;> omega
          rw [this,hVl])
      (fun j v hj =>by
        rw [hV] at hj
        rw [Zft,Nat.zero_add]
        rw [List.getElem?_take] at hj
        split at hj
        · rw [cell_of_row W vb _ vcur 146 (0,0) (by rw [hWh]; exact hWv)]
          simpa using hj
        · cases hj)
      (by rw [hWh]; exact hWN) (by rw [hVl,hRs]; omega) (by rw [hV]; exact h1v)
    rw [show Nat.min m (n + m - i) = m by simp only [Nat.min_def]; split <;> omega,← hR2] at h
    exact h
  have hcpB : ∀ (W:World),W.heap[w.heap.size]? = some (.cells R2.toArray 146 (0,0))→W.heap[b]? = some (.cells cur 146 (0,0))→∀ ty dc sc,(Builtin.copy_ #[45,45] ty #[.slice (some ⟨w.heap.size,(i + m) * 5,none⟩) (n + m - (i + m)) dc,.slice (some ⟨b,i * 5,none⟩) (n - i) sc]).run Tryz.prog W = .ok (goInt ((n - i:Nat):Int)) (W.setRow w.heap.size R3.toArray):=fun W hN hB ty dc sc =>by
    have h:=Zkz (P:=Tryz.prog) W 45 45 ty 146 5 w.heap.size ((i + m) * 5) (n + m - (i + m)) dc ⟨b,i * 5,none⟩ (n - i) sc R2.toArray 146 D Tryz.underlying45 hsz
      (by have : Nat.min (n - i) (n + m - (i + m)) = n - i := by simp only [Nat.min_def]; split <;> omega
          rw [this,hDl])
      (fun j v hj =>by
        rw [hD] at hj
        rw [Zft]
        rw [List.getElem?_take] at hj
        split at hj
        · rw [List.getElem?_drop] at hj
          rw [cell_of_row W b _ cur 146 (0,0) hB]
          simpa using hj
        · cases hj)
      hN (by simp [hDl,hR2l]; omega) (fun v hv =>h1c v (by
        rw [hD] at hv
        obtain ⟨j,hj⟩:=List.getElem?_of_mem hv
        rw [List.getElem?_take] at hj
        split at hj
        · rw [List.getElem?_drop] at hj
          exact List.mem_of_getElem? (i:=i * 5 + j) (by rw [List.getElem?_take,if_pos (by omega)]; exact hj)
        · cases hj))
    rw [show Nat.min (n - i) (n + m - (i + m)) = n - i by simp only [Nat.min_def]; split <;> omega] at h
    rw [show R2.toArray.toList = R2 from rfl,← hR3] at h
    exact h
  have hW2N:(W1.setRow w.heap.size R2.toArray).heap[w.heap.size]? = some (.cells R2.toArray 146 (0,0)):=setRow_heap _ _ _ _ _ _ hWN
  have hW2b:(W1.setRow w.heap.size R2.toArray).heap[b]? = some (.cells cur 146 (0,0)):=by rw [setRow_other _ _ _ _ hbN]; exact hWb
  have hbel:Below w.heap.size w W1:=by
    rw [hW1]
    exact ⟨rfl,rfl,rfl,by simp,fun k hk =>heap_alloc_old w.drew _ hk⟩
  have mixed:Tryz.prog.follows .mixedOrders = true:=by kernel_rfl
  have hdr:w.drawn≤W1.drawn:=by rw [hW1]; exact Nat.le_succ _
  have HW:=Lib.hid hdr; clear hdr
  have HF:=Lib.hid hfin; clear hfin
  have hGi : ¬ (G = i):=by omega
  have hGim : ¬ (G = i + m):=by omega
  have hci : ¬ (c = i):=by omega
  have hGM:=hGm
  unfold maxLen at hGM
  have hin:i≤n:=by omega
  have htn:((i:Int) + (m:Int)).toNat = i + m:=by omega
  have hw1:IntKind.i64.wrap ((i:Int) + (m:Int)) = (i:Int) + (m:Int):=by rw [IntKind.wrap_i64]; omega
  have hb1:(0:Int)≤(i:Int) + (m:Int):=by omega
  have hb3:(i:Int)≤(n:Int):=by omega
  rw [← hV,← hD]
  rw [← hW1] at hrz
  clear hV hD hVl hDl hR2 hR2l hR3 hRt hi0 hzb hzs hz0 hsz hRs hkk hik hWN hWb hWv hcs hvs h1c h1v hcur hvcur hW1
  have HR3:=Lib.hid hR3l; clear hR3l
  go_enter Tryz.func350,Tryz.ntmps350
  go_wp2_with (first
    | (at_builtin; refine Lib.wpList_append_run _ rfl _ _ _ _ rfl _ _ rfl rfl _ _ (hrz _) ?_)
    | (at_builtin; refine wpList_copy_runI _ rfl _ _ 45 45 rfl _ _ rfl rfl (hcpA _ rfl _ _) ?_)
    | (at_builtin; refine wpList_copy_runI _ rfl _ _ 45 45 rfl _ _ rfl rfl (hcpB _ (by first | exact hW2N | assumption) (by first | exact hW2b | assumption) _ _ _) ?_))
  go_region_law_o (refine step_copy_runI rfl _ _ 45 45 rfl (.slice (some ⟨w.heap.size,(i + m) * 5,none⟩) (n + m - (i + m)) (G - (i + m))) (.slice (some ⟨b,i * 5,none⟩) (n - i) (c - i)) (by simp [Act.eval,Act.put]) (by simp [Act.eval,Act.put]) (hcpB (W1.setRow w.heap.size R2.toArray).drew hW2N hW2b 3 (G - (i + m)) (c - i)) ?_)
  go_wp2
  go_ret
  exact ⟨G,R3.toArray,rfl,Nat.le_trans HW.out (by simp [World.setRow]),⟨hbel.os,hbel.tape,hbel.output,by simpa using hbel.size,fun k hk =>by rw [setRow_other _ _ _ _ (by omega)]; exact (setRow_other _ _ _ _ (by omega)).trans (hbel.block k hk)⟩,setRow_heap _ _ _ _ _ _ hW2N,hGn,hGm,HR3.out,HF.out⟩
set_option maxHeartbeats 4000000 in
set_option maxRecDepth 100000 in
theorem ZzN(base:Option Addr)(n c vb m vc:Nat)(w w':World)(v':Value)(hnc:n≤c)(hc63:c≤maxLen)(hm:0<m)(hnil:base=none→n=0)(hm63:m≤maxLen)
  (hrun:∀ty,(Builtin.append_ #[45,45] ty #[.slice base n c,.slice (some ⟨vb,0,none⟩) m vc]).run Tryz.prog w=.ok v' w') :
  Calls Tryz.prog 350 #[.slice base n c,.int .i64 n,.slice (some ⟨vb,0,none⟩) m vc] w fun e w1=>e=.returned v'∧w'=w1:=by
 have hz1:¬((m:Int)=0):=by omega
 unfold maxLen at hc63 hm63;cases base with
 |none=>
  have h0:=hnil rfl;subst h0
  go_enter Tryz.func350,Tryz.ntmps350
  go_wp2_with (at_builtin;refine Lib.wpList_append_run _ rfl _ _ _ _ rfl _ _ rfl rfl _ _ (hrun _) ?_)
  go_ret
  exact⟨rfl,rfl⟩
 |some a=>
  obtain⟨ab,ao,asp⟩:=a
  go_enter Tryz.func350,Tryz.ntmps350
  go_wp2_with (at_builtin;refine Lib.wpList_append_run _ rfl _ _ _ _ rfl _ _ rfl rfl _ _ (hrun _) ?_)
  all_goals (go_ret;exact⟨rfl,rfl⟩)
def Zbw(a0:List Zab)(a1:Int)(a2:List Zab):Option (List Zab):=need (0≤a1∧a1.toNat≤a0.length∧0<a2.length∧(a0.length+a2.length) * 40≤140737488355328∧a0.length+a2.length≤maxLen)<|some (a0.take a1.toNat++a2++a0.drop a1.toNat)
theorem Zdg(a0:List Zab)(a1:Int)(a2 r:List Zab)(hf:Zbw a0 a1 a2=some r) :
  Zcl Tryz.prog 350 [(100000,.rows 146 5 a0.length (Zam Zab.c Zab.d a0)),(100001,.rows 146 5 a2.length (Zam Zab.c Zab.d a2))] [.one (.osl 100000 a0.length),.one (.lit (.int .i64 a1)),.one (.osl 100001 a2.length)]
   [(99999,.rows 146 5 r.length (Zam Zab.c Zab.d r))] (.one (.osl 99999 r.length)):=by
 obtain⟨⟨o1,o2,o3,o4,o5⟩,hf⟩:=Zav hf;cases hf;obtain⟨i0,hi0,hzs,hzb,hz0⟩:=ZEg.info (t:=146) (show Zet tab 146=some _ from rfl);have h:=Zxu (enc:=Zab.c) (d:=Zab.d) (F:=350) (BY:=40) (K:=5) ⟨_,Tryz.func350,rfl,rfl⟩ Tryz.underlying45 hi0 hz0 hzs hzb rfl (by decide) (fun b n c i vb m vc cur vcur w h1 h2 h3 h4 h5 h6 h7 h8 h9 h10 h11 h12=>Zwf b n c i vb m vc cur vcur w h1 h2 h3 h4 h5 h6 h7 h8 h9 h10 h11 h12)
  (fun b n c i vb m vc cur vcur w h1 h2 h3 h4 h5 h6 h7 h8 h9 h10 h11 h12=>Zxv b n c i vb m vc cur vcur w h1 h2 h3 h4 h5 h6 h7 h8 h9 h10 h11 h12)
  (fun base n c vb m vc w w' v' h1 h2 h3 h4 h5 h6=>ZzN base n c vb m vc w w' v' h1 h2 h3 h4 h5 h6) a0 a2 a1.toNat o2 o3 o4 o5
 rw[Int.toNat_of_nonneg o1]at h;exact h
def ZlR(a0 c0:Zab):Option Bool:=(ZiB a0.fNet c0.fNet).bind fun x1=>some (decide (x1>(0:Int)))
theorem ZsG(a0 c0:Zab)(r:Bool)(hf:ZlR a0 c0=some r):ZaC Tryz.prog 348 [.agg (Zab.c a0),.one (.rp false 5 (fun j=>(Zab.c c0:List C).getD (0+j) .junk))] (.one (.lit (.bool r))):=by
 refine ZaC.of Tryz.func348 rfl rfl rfl rfl fun S0 w0=>?_;unfold ZlR at hf;obtain⟨x1,q1,hf⟩:=Zaf hf;obtain rfl:=oi hf;exact Zan Zaj 4 [rz,rA [(4,aI x1)]] [] [] [] [] (.c (ZqL _ _ _ q1) .n) (by kernel_rfl) rfl
def ZaW(a0:List Zab)(a1_0:Zab):Nat→Int→Int→Option Int|0,_,_=>none|fu+1,v7,v8=>bif(decide (v8<v7))then need (0≤v8∧v8<((a0.length:Nat):Int))<|(ZlR (a0.getD v8.toNat Zab.d) a1_0).bind fun x1=>bif x1 then some v8 else ZaW a0 a1_0 fu v7 (Zaw v8 (1:Int))else some (-1:Int)
theorem ZgU(S0:Nat→Prop)(w0:Zbg)(a0:List Zab)(a1_0:Zab):∀(fu:Nat)(v7 v8 r:Int),ZaW a0 a1_0 fu v7 v8=some r→Good Tryz.prog 19 S0 w0 (bodyPost Tryz.prog Tryz.f347 (Post S0 w0 (.one (.lit (.int .i64 r))))) (at_ [1,0,1,0] (Zbn Tryz.f347)) ⟨[(0,.one (cL 5 Zab.c Zab.d a0)),(1,.one (.clo (.func 348) 0 1 (fun i=>([]:List C).getD i .junk) (fun i=>([.rp false 5 (fun j=>(Zab.c a1_0:List C).getD (0+j) .junk)]:List C).getD i .junk))),(7,.one (.lit (.int .i64 v7))),(8,.one (.lit (.int .i64 v8)))],[]⟩:=by
 intro fu;induction fu with
 |zero=>
  intro v7 v8 r hf;simp[ZaW]at hf
 |succ fu ih=>
  intro v7 v8 r hf;unfold ZaW at hf;rcases Zai hf with⟨h1,hf⟩|⟨h1,hf⟩
  ·obtain⟨o2,hf⟩:=Zav hf;obtain⟨x1,q3,hf⟩:=Zaf hf;have O1:Obl _:=(.c h1 (.c o2 (.c (ZsG _ _ _ q3) .n)));rcases Zai hf with⟨h4,hf⟩|⟨h4,hf⟩
   ·obtain rfl:=oi hf;exact Zan Zaj 15 [rz,rz,rA [(5,aB x1)],rz] [true,true] [] [] [] (O1.app (.c h4 .n)) (by kernel_rfl) rfl
   ·exact ZaH Zaj Post.ends 17 [rz,rz,rA [(5,aB x1)],rz] [true,false] ⟨[],[],[],[],[],[0,1,7,8],[],[]⟩ (O1.app (.c h4 .n)) (by kernel_rfl) (ih v7 (Zaw v8 (1:Int)) r hf)
  ·obtain rfl:=oi hf;exact Zan Zaj 8 [rz,rz] [false] [] [] [] (.c h1 .n) (by kernel_rfl) rfl
def ZbV(a0:List Zab)(a1_0:Zab):Option Int:=ZaW a0 a1_0 ((((a0.length:Nat):Int)-(0:Int)).toNat+2) ((a0.length:Nat):Int) (0:Int)
theorem ZhJ(a0:List Zab)(a1_0:Zab)(r:Int)(hf:ZbV a0 a1_0=some r):ZaC Tryz.prog 347 [.one (cL 5 Zab.c Zab.d a0),.one (.clo (.func 348) 0 1 (fun i=>([]:List C).getD i .junk) (fun i=>([.rp false 5 (fun j=>(Zab.c a1_0:List C).getD (0+j) .junk)]:List C).getD i .junk))] (.one (.lit (.int .i64 r))):=by
 refine ZaC.of Tryz.func347 rfl rfl rfl rfl fun S0 w0=>?_;unfold ZbV at hf;exact ZaH Zaj Post.ends 6 [rz,rz] [] ⟨[],[],[],[],[],[0,1,7,8],[],[]⟩ .n (by kernel_rfl) (ZgU S0 w0 a0 a1_0 ((((a0.length:Nat):Int)-(0:Int)).toNat+2) ((a0.length:Nat):Int) (0:Int) r hf)
def ZmL(a0:List Zab)(a1:Zab)(a2:Int):Option ((List Zab)×Int):=(Zln a1).bind fun x1=>bif(!x1)then some (([]:(List Zab)),(1:Int))else(Zbz a0).bind fun x2=>(ZjP a0 a1.fNet).bind fun x3=>bif(decide (x3≥(0:Int)))then need (0≤x3∧x3<((a0.length:Nat):Int))<|(ZoH (a0.getD x3.toNat Zab.d) a1).bind fun x4=>need (0≤x3∧x3<((x2.length:Nat):Int))<|some ((x2.set x3.toNat x4),(0:Int))else bif(decide (((a0.length:Nat):Int)≥a2))then some (([]:(List Zab)),(5:Int))else(ZbV a0 a1).bind fun x5=>bif(decide (x5<(0:Int)))then(Zbw x2 ((a0.length:Nat):Int) ([a1]:List Zab)).bind fun x6=>some (x6,(0:Int))else(Zbw x2 x5 ([a1]:List Zab)).bind fun x7=>some (x7,(0:Int))
theorem ZuY(a0:List Zab)(a1:Zab)(a2:Int)(r:((List Zab)×Int))(hf:ZmL a0 a1 a2=some r):ZaC Tryz.prog 295 [.one (cL 5 Zab.c Zab.d a0),.agg (Zab.c a1),.one (.lit (.int .i64 a2))] (.tup [(false,(cLs 5 Zab.c Zab.d) r.1),(false,(cI .i64) r.2)]):=by
 refine ZaC.of Tryz.func295 rfl rfl rfl rfl fun S0 w0=>?_;unfold ZmL at hf;obtain⟨x1,q1,hf⟩:=Zaf hf;rcases Zai hf with⟨h2,hf⟩|⟨h2,hf⟩
 ·obtain rfl:=oi hf;exact Zan Zaj 8 [rz,rA [(1,aB x1)],rz] [true] [] [] [(6,[(0,cL 5 Zab.c Zab.d [])])] (.c (Zph _ _ q1) (.c h2 .n)) (by kernel_rfl) rfl
 ·obtain⟨x2,q3,hf⟩:=Zaf hf;obtain⟨x3,q4,hf⟩:=Zaf hf
  let R1:List RA:=[rz,rA [(1,aB x1)],rH [] [(1,⟨[],[(99999,15)],[(99999,.rows 146 5 x2.length (Zam Zab.c Zab.d x2))],.one (.osl 99999 x2.length)⟩)],rA [(3,aI x3)],rz]
  have O2:Obl _:=(.c (Zph _ _ q1) (.c h2 (.c (Zdr _ _ q3) (.c (Zmj _ _ _ q4) .n))));rcases Zai hf with⟨h5,hf⟩|⟨h5,hf⟩
  ·obtain⟨o6,hf⟩:=Zav hf;obtain⟨x4,q7,hf⟩:=Zaf hf;obtain⟨o8,hf⟩:=Zav hf;obtain rfl:=oi hf;exact Zan Zaj 19 (R1++[rA [(7,aG (Zab.c x4)),(9,.c (x2.set x3.toNat x4).length (Zam Zab.c Zab.d (x2.set x3.toNat x4)))],rz]) [false,true] [15] [] [] (O2.app (.c h5 (.c o6 (.c (ZuZ _ _ _ q7) (.c o8 (.c (show (x2.set x3.toNat x4).length=x2.length from List.length_set) (.c (show x3.toNat<x2.length from(ltOf o8)) (.c (show ExtU 5 x2.length (Zam Zab.c Zab.d x2) x3.toNat 0 (Zab.c x4) (Zam Zab.c Zab.d (x2.set x3.toNat x4))from(Zlq _ _ _ rfl)) .n)))))))) (by kernel_rfl) rfl
  ·rcases Zai hf with⟨h9,hf⟩|⟨h9,hf⟩
   ·obtain rfl:=oi hf;exact Zan Zaj 22 (R1++[rz,rz]) [false,false,true] [] [] [(6,[(0,cL 5 Zab.c Zab.d [])])] (O2.app (.c h5 (.c h9 .n))) (by kernel_rfl) rfl
   ·obtain⟨x5,q10,hf⟩:=Zaf hf
    let R3:List RA:=(R1++[rz,⟨[(2,aI x5)],[],[(1,[4])],[],[],[],[]⟩,rz])
    have O4:Obl _:=(O2.app (.c h5 (.c h9 (.c (ZhJ _ _ _ q10) .n))));rcases Zai hf with⟨h11,hf⟩|⟨h11,hf⟩
    ·obtain⟨x6,q12,hf⟩:=Zaf hf;obtain rfl:=oi hf;exact Zan Zaj 30 (R3++[rz,rH [(3,.c ([a1]:List Zab).length (Zam Zab.c Zab.d ([a1]:List Zab)))] [(4,⟨[(100000,15),(100001,46)],[(99999,47)],[(99999,.rows 146 5 x6.length (Zam Zab.c Zab.d x6))],.one (.osl 99999 x6.length)⟩)]]) [false,false,false,true] [47] [] [] (O4.app (.c h11 (.c (show ([a1]:List Zab).length=1 from rfl) (.c (show ∀i j,i<1→j<5→Zam Zab.c Zab.d ([a1]:List Zab) i j=(([a1]:List Zab).flatMap Zab.c).getD (i * 5+j) .junk from(fun i j hi hj=>ZaT (sz:=5) (e:=Zab.c) (d:=Zab.d) (fun _=>rfl) ([a1]:List Zab) i j hi hj)) (.c (Zdg _ _ _ _ q12) .n))))) (by kernel_rfl) rfl
    ·obtain⟨x7,q13,hf⟩:=Zaf hf;obtain rfl:=oi hf;exact Zan Zaj 30 (R3++[rH [(3,.c ([a1]:List Zab).length (Zam Zab.c Zab.d ([a1]:List Zab)))] [(4,⟨[(100000,15),(100001,46)],[(99999,47)],[(99999,.rows 146 5 x7.length (Zam Zab.c Zab.d x7))],.one (.osl 99999 x7.length)⟩)]]) [false,false,false,false] [47] [] [] (O4.app (.c h11 (.c (show ([a1]:List Zab).length=1 from rfl) (.c (show ∀i j,i<1→j<5→Zam Zab.c Zab.d ([a1]:List Zab) i j=(([a1]:List Zab).flatMap Zab.c).getD (i * 5+j) .junk from(fun i j hi hj=>ZaT (sz:=5) (e:=Zab.c) (d:=Zab.d) (fun _=>rfl) ([a1]:List Zab) i j hi hj)) (.c (Zdg _ _ _ _ q13) .n))))) (by kernel_rfl) rfl
def ZhQ(a0:Int):Option Zap:=some (Zap.mk (5:Int) a0 (0:Int))
theorem Zpe(a0:Int)(r:Zap)(hf:ZhQ a0=some r):ZaC Tryz.prog 283 [.one (.lit (.int .i64 a0))] (.agg (Zap.c r)):=by
 refine ZaC.of Tryz.func283 rfl rfl rfl rfl fun S0 w0=>?_;unfold ZhQ at hf;obtain rfl:=oi hf;exact Zan Zaj 4 [rz,rz] [] [] [] [] .n (by kernel_rfl) rfl
def ZhP(a0 a1:Int):Option Zap:=some (Zap.mk (6:Int) a0 a1)
theorem Zpd(a0 a1:Int)(r:Zap)(hf:ZhP a0 a1=some r):ZaC Tryz.prog 284 [.one (.lit (.int .i64 a0)),.one (.lit (.int .i64 a1))] (.agg (Zap.c r)):=by
 refine ZaC.of Tryz.func284 rfl rfl rfl rfl fun S0 w0=>?_;unfold ZhP at hf;obtain rfl:=oi hf;exact Zan Zaj 4 [rz,rz] [] [] [] [] .n (by kernel_rfl) rfl
def ZdV(a1:Int):Nat→Int→Int→(List Zaa)→Zak→Option (Tout (List Zaa))|0,_,_,_,_=>none|fu+1,v15,v16,w5,b100000=>bif(decide (v16<v15))then(ZhP a1 v16).bind fun x3=>(ZcT b100000 x3 false).bind fun x4=>(match x4 with | .ret x4v x4g=>need ((w5++([x4v.fPeer]:List Zaa)).length * 80≤140737488355328∧(w5++([x4v.fPeer]:List Zaa)).length≤maxLen)<|ZdV a1 fu v15 (Zaw v16 (1:Int)) (w5++([x4v.fPeer]:List Zaa)) x4g | .pan x4o=>some (Tout.pan x4o) | .bad x4s=>some (Tout.bad x4s))else some (Tout.ret w5 b100000)
theorem ZqG(S0:Nat→Prop)(w0:Zbg)(a1:Int):∀(fu:Nat)(v15 v16:Int)(w5:List Zaa)(b100000:Zak)(r:(Tout (List Zaa))),ZdV a1 fu v15 v16 w5 b100000=some r→Good Tryz.prog 33 S0 w0 (bodyPost Tryz.prog Tryz.f217 (ZiC S0 w0 (oc (fun x=>.one (cL 10 Zaa.c Zaa.d x)) r))) (at_ [1,1,0,1,0] (Zbn Tryz.f217)) ⟨[(0,.one (.ifc 112 (.ptr 100000 0))),(1,.one (.lit (.int .i64 a1))),(5,.one (.osl 5 w5.length)),(15,.one (.lit (.int .i64 v15))),(16,.one (.lit (.int .i64 v16)))],[(5,.rows 44 10 w5.length (Zam Zaa.c Zaa.d w5)),(100000,.box [cL 13 Zae.c Zae.d b100000.fgot])]⟩:=by
 intro fu;induction fu with
 |zero=>
  intro v15 v16 w5 b100000 r hf;simp[ZdV]at hf
 |succ fu ih=>
  intro v15 v16 w5 b100000 r hf;unfold ZdV at hf;rcases Zai hf with⟨h3,hf⟩|⟨h3,hf⟩
  ·obtain⟨x3,q4,hf⟩:=Zaf hf;have O1:Obl _:=(.c h3 (.c (Zpd _ _ _ q4) (.c ZoD .n)));obtain⟨x4,q5,hf⟩:=Zaf hf;cases x4 with
   |ret x4v x4g=>
    dsimp only at hf;obtain⟨o6,hf⟩:=Zav hf;exact ZaH Zaj ZiC.ends 14 [rz,rz,⟨[(4,aG (Zap.c x3)),(8,.id 463),(11,.c ((w5++([x4v.fPeer]:List Zaa)).length) (Zam Zaa.c Zaa.d (w5++([x4v.fPeer]:List Zaa))))],[],[],[],[],[(10,(([x4v.fPeer]:List Zaa).length,Zam Zaa.c Zaa.d ([x4v.fPeer]:List Zaa)))],[(8,⟨[(100000,100000)],[],[(100000,.box (Zak.c x4g))],.agg (Zae.c x4v)⟩)]⟩,rz] [true] ⟨[],[],[],[],[],[0,1,5,15,16],[30,100000],[(30,5)]⟩ (O1.app (.c (ZbO _ _ _ _ q5) (.c Zhn (.c (show ([x4v.fPeer]:List Zaa).length=1∧∀i j,i<1→j<10→Zam Zaa.c Zaa.d ([x4v.fPeer]:List Zaa) i j=(([x4v.fPeer]:List Zaa).flatMap Zaa.c).getD (i * 10+j) .junk from⟨rfl,fun i j hi hj=>ZaT (sz:=10) (e:=Zaa.c) (d:=Zaa.d) (fun _=>rfl) ([x4v.fPeer]:List Zaa) i j hi hj⟩) (.c (ZcV (sz:=10) (e:=Zaa.c) (d:=Zaa.d) w5 ([x4v.fPeer]:List Zaa)) (.c o6.1 (.c o6.2 .n))))))) (by kernel_rfl) (ih v15 (Zaw v16 (1:Int)) (w5++([x4v.fPeer]:List Zaa)) x4g r hf)
   |_=>
    dsimp only at hf;obtain rfl:=oi hf;exact ZaI Zaj 10 _ _ [rz,rz] [true] (rA [(4,aG (Zap.c x3)),(8,.id 463)]) 8 ⟨[(100000,100000)],pvOf q5⟩ (O1.app (.c (ZbO _ _ _ _ q5) (.c Zhn .n))) (by kernel_rfl)
  ·obtain rfl:=oi hf;exact Zch Zaj 8 [rz,rz] [false] ⟨[5],[],[],[],[],[4],[100000],[]⟩ [100000] (.c h3 .n) (by kernel_rfl)
def ZiM(a0:Zak)(a1:Int):Option (Tout (List Zaa)):=(ZhQ a1).bind fun x1=>(ZcT a0 x1 false).bind fun x2=>(match x2 with | .ret x2v x2g=>ZdV a1 (((if(0:Int)>x2v.fN then(0:Int)else x2v.fN)-(0:Int)).toNat+2) (if(0:Int)>x2v.fN then(0:Int)else x2v.fN) (0:Int) ([]) x2g | .pan x2o=>some (Tout.pan x2o) | .bad x2s=>some (Tout.bad x2s))
theorem Zof(a0:Zak)(a1:Int)(r:(Tout (List Zaa)))(hf:ZiM a0 a1=some r):Zfc Tryz.prog 217 [(100000,.box (Zak.c a0))] [.one (.ifc 112 (.ptr 100000 0)),.one (.lit (.int .i64 a1))] (oc (fun x=>.one (cL 10 Zaa.c Zaa.d x)) r):=by
 refine Zfc.of Tryz.func217 rfl rfl rfl rfl fun S0 w0=>?_;unfold ZiM at hf;obtain⟨x1,q1,hf⟩:=Zaf hf;have O2:Obl _:=(.c (Zpe _ _ q1) (.c ZoD .n));obtain⟨x2,q2,hf⟩:=Zaf hf;cases x2 with
 |ret x2v x2g=>
  dsimp only at hf;exact ZaH Zaj ZiC.ends 8 [rz,rz,rH [(2,aG (Zap.c x1)),(6,.id 463)] [(6,⟨[(100000,100000)],[],[(100000,.box (Zak.c x2g))],.agg (Zae.c x2v)⟩)]] [] ⟨[],[],[],[],[(5,5,44,10,Zam Zaa.c Zaa.d [])],[0,1,5,15,16],[5,100000],[]⟩ (O2.app (.c (ZbO _ _ _ _ q2) (.c Zhn .n))) (by kernel_rfl) (ZqG S0 w0 a1 (((if(0:Int)>x2v.fN then(0:Int)else x2v.fN)-(0:Int)).toNat+2) (if(0:Int)>x2v.fN then(0:Int)else x2v.fN) (0:Int) ([]) x2g r hf)
 |_=>
  dsimp only at hf;obtain rfl:=oi hf;exact ZaI Zaj 6 _ _ [rz,rz] [] (rA [(2,aG (Zap.c x1)),(6,.id 463)]) 6 ⟨[(100000,100000)],pvOf q2⟩ (O2.app (.c (ZbO _ _ _ _ q2) (.c Zhn .n))) (by kernel_rfl)
def ZcW:Nat→Int→Int→(List (List Zaa))→Zak→Option (Tout (List (List Zaa)))|0,_,_,_,_=>none|fu+1,v12,v13,w10,b100000=>bif(decide (v13<v12))then(ZiM b100000 v13).bind fun x1=>(match x1 with | .ret x1v x1g=>need (0≤v13∧v13<((w10.length:Nat):Int))<|ZcW fu v12 (Zaw v13 (1:Int)) (w10.set v13.toNat x1v) x1g | .pan x1o=>some (Tout.pan x1o) | .bad x1s=>some (Tout.bad x1s))else some (Tout.ret w10 b100000)
theorem Znd(S0:Nat→Prop)(w0:Zbg):∀(fu:Nat)(v12 v13:Int)(w10:(List (List Zaa)))(b100000:Zak)(r:(Tout (List (List Zaa)))),ZcW fu v12 v13 w10 b100000=some r→Good Tryz.prog 24 S0 w0 (bodyPost Tryz.prog Tryz.f254 (ZiC S0 w0 (oc (fun x=>.one (cL 1 (cLs 10 Zaa.c Zaa.d) ([]:(List Zaa)) x)) r))) (at_ [1,1,0,1,0] (Zbn Tryz.f254)) ⟨[(1,.one (.ifc 112 (.ptr 100000 0))),(5,.one (.osl 10 w10.length)),(12,.one (.lit (.int .i64 v12))),(13,.one (.lit (.int .i64 v13)))],[(10,.rows 54 1 w10.length (Zam (cLs 10 Zaa.c Zaa.d) ([]:(List Zaa)) w10)),(100000,.box [cL 13 Zae.c Zae.d b100000.fgot])]⟩:=by
 intro fu;induction fu with
 |zero=>
  intro v12 v13 w10 b100000 r hf;simp[ZcW]at hf
 |succ fu ih=>
  intro v12 v13 w10 b100000 r hf;unfold ZcW at hf;rcases Zai hf with⟨h2,hf⟩|⟨h2,hf⟩
  ·obtain⟨x1,q3,hf⟩:=Zaf hf;cases x1 with
   |ret x1v x1g=>
    dsimp only at hf;obtain⟨o4,hf⟩:=Zav hf;exact ZaH Zaj ZiC.ends 14 [rz,rz,rH [(6,.c (w10.set v13.toNat x1v).length (Zam (cLs 10 Zaa.c Zaa.d) ([]:(List Zaa)) (w10.set v13.toNat x1v)))] [(4,⟨[(100000,100000)],[],[(100000,.box (Zak.c x1g))],.one (cL 10 Zaa.c Zaa.d x1v)⟩)],rz] [true] ⟨[],[],[],[(10,((w10.set v13.toNat x1v).length))],[],[1,5,12,13],[10,100000],[]⟩ (.c h2 (.c (Zof _ _ _ q3) (.c o4 (.c (show (w10.set v13.toNat x1v).length=w10.length from List.length_set) (.c (show v13.toNat<w10.length from(ltOf o4)) (.c (show ExtU 1 w10.length (Zam (cLs 10 Zaa.c Zaa.d) ([]:(List Zaa)) w10) v13.toNat 0 ((cLs 10 Zaa.c Zaa.d) x1v) (Zam (cLs 10 Zaa.c Zaa.d) ([]:(List Zaa)) (w10.set v13.toNat x1v))from(Zlq _ _ _ rfl)) (.c (show (w10.set v13.toNat x1v).length=(w10.set v13.toNat x1v).length from rfl) .n))))))) (by kernel_rfl) (ih v12 (Zaw v13 (1:Int)) (w10.set v13.toNat x1v) x1g r hf)
   |_=>
    dsimp only at hf;obtain rfl:=oi hf;exact ZaI Zaj 10 _ _ [rz,rz] [true] (rz) 4 ⟨[(100000,100000)],pvOf q3⟩ (.c h2 (.c (Zof _ _ _ q3) .n)) (by kernel_rfl)
  ·obtain rfl:=oi hf;exact Zch Zaj 8 [rz,rz] [false] ⟨[10],[],[],[],[],[4],[100000],[]⟩ [100000] (.c h2 .n) (by kernel_rfl)
def ZfB(a0:Zbc)(a1:Zak):Option (Tout (List (List Zaa))):=need (0≤a0.fc.fShards∧a0.fc.fShards≤a0.fc.fShards∧a0.fc.fShards≤140737488355328∧a0.fc.fShards * 24≤140737488355328)<|ZcW ((((a0.fc.fShards.toNat:Nat):Int)-(0:Int)).toNat+2) ((a0.fc.fShards.toNat:Nat):Int) (0:Int) (List.replicate a0.fc.fShards.toNat ([]:(List Zaa))) a1
theorem Zgh(a0:Zbc)(a1:Zak)(r:(Tout (List (List Zaa))))(hf:ZfB a0 a1=some r):Zfc Tryz.prog 254 [(100000,.box (Zak.c a1))] [.agg (Zbc.c a0),.one (.ifc 112 (.ptr 100000 0))] (oc (fun x=>.one (cL 1 (cLs 10 Zaa.c Zaa.d) ([]:(List Zaa)) x)) r):=by
 refine Zfc.of Tryz.func254 rfl rfl rfl rfl fun S0 w0=>?_;unfold ZfB at hf;obtain⟨o1,hf⟩:=Zav hf;exact ZaH Zaj ZiC.ends 8 [rz,rA [(3,.c a0.fc.fShards.toNat (Zam (cLs 10 Zaa.c Zaa.d) ([]:(List Zaa)) (List.replicate a0.fc.fShards.toNat ([]:(List Zaa)))))],rz] [] ⟨[],[],[],[(10,((List.replicate a0.fc.fShards.toNat ([]:(List Zaa))).length))],[],[1,5,12,13],[10,100000],[]⟩ (.c (show a0.fc.fShards=((a0.fc.fShards.toNat:Nat):Int)from(Int.toNat_of_nonneg o1.1).symm) (.c (show ((a0.fc.fShards.toNat:Nat):Int)≤a0.fc.fShards from((Int.toNat_of_nonneg o1.1).symm ▸ o1.2.1)) (.c o1.2.2.1 (.c o1.2.2.2 (.c (show ∀i j,i<a0.fc.fShards.toNat→j<1→Zsd (([.lit (.slice none 0 0)]:List C).getD j .junk) (Zam (cLs 10 Zaa.c Zaa.d) ([]:(List Zaa)) (List.replicate a0.fc.fShards.toNat ([]:(List Zaa))) i j)from(ZzL (fun j hj=>match j,hj with|0,_=>.inr ⟨rfl,_,_,rfl⟩|j+1,h=>absurd h (by omega)) _)) (.c (show (List.replicate a0.fc.fShards.toNat ([]:(List Zaa))).length=a0.fc.fShards.toNat from List.length_replicate) .n)))))) (by kernel_rfl) (Znd S0 w0 ((((a0.fc.fShards.toNat:Nat):Int)-(0:Int)).toNat+2) ((a0.fc.fShards.toNat:Nat):Int) (0:Int) (List.replicate a0.fc.fShards.toNat ([]:(List Zaa))) a1 r hf)
def Zcc(a0:Zak)(a1:Zap)(a2:Zae)(a3:Bool):Option (Tout Unit):=(Zca a0 (Zas.mk (6:Int) (0:Int) a1 (0:Int) (0:Int) a2 a3)).bind fun x1=>(match x1 with | .ret x1v x1g=>some (Tout.ret () x1g) | .pan x1o=>some (Tout.pan x1o) | .bad x1s=>some (Tout.bad x1s))
theorem ZbG(a0:Zak)(a1:Zap)(a2:Zae)(a3:Bool)(r:(Tout Unit))(hf:Zcc a0 a1 a2 a3=some r):Zfc Tryz.prog 467 [(100000,.box (Zak.c a0))] [.one (.ptr 100000 0),.agg (Zap.c a1),.agg (Zae.c a2),.one (.lit (.bool a3))] (oc (fun x=>.tup []) r):=by
 refine Zfc.of Tryz.func467 rfl rfl rfl rfl fun S0 w0=>?_;unfold Zcc at hf;obtain⟨x1,q1,hf⟩:=Zaf hf;cases x1 with
 |ret x1v x1g=>
  dsimp only at hf;obtain rfl:=oi hf;exact Zch Zaj 3 [rz,rH [] [(5,⟨[(100000,100000)],[],[(100000,.box (Zak.c x1g))],.agg (Zae.c x1v)⟩)]] [] ⟨[],[],[],[],[],[],[100000],[]⟩ [100000] (.c (Zbt _ _ _ q1) .n) (by kernel_rfl)
 |_=>
  dsimp only at hf;obtain rfl:=oi hf;exact ZaI Zaj 2 _ _ [rz] [] (rz) 5 ⟨[(100000,100000)],pvOf q1⟩ (.c (Zbt _ _ _ q1) .n) (by kernel_rfl)
def ZiV(a0:Zaq)(a1:Zag):Option Bool:=(Zgt a0).bind fun x1=>bif x1 then(ZeY a1).bind fun x2=>bif x2 then bif(a0.fAddr.fV6==a1.fV6)then(ZiP a1 a0.fBits).bind fun x3=>some (decide (x3=a0.fAddr))else some false else some false else some false
theorem Zih(a0:Zaq)(a1:Zag)(r:Bool)(hf:ZiV a0 a1=some r):ZaC Tryz.prog 296 [.agg (Zaq.c a0),.agg (Zag.c a1)] (.one (.lit (.bool r))):=by
 refine ZaC.of Tryz.func296 rfl rfl rfl rfl fun S0 w0=>?_;unfold ZiV at hf;obtain⟨x1,q1,hf⟩:=Zaf hf;rcases Zai hf with⟨h2,hf⟩|⟨h2,hf⟩
 ·obtain⟨x2,q3,hf⟩:=Zaf hf;have O1:Obl _:=(.c (Zcs _ _ q1) (.c h2 (.c (ZcB _ _ q3) .n)));rcases Zai hf with⟨h4,hf⟩|⟨h4,hf⟩
  ·rcases Zai hf with⟨h5,hf⟩|⟨h5,hf⟩
   ·obtain⟨x3,q6,hf⟩:=Zaf hf;obtain rfl:=oi hf;exact Zan Zaj 4 [rz,⟨[(1,aB x1),(4,aB x2),(18,aG (Zag.c x3)),(21,aB (decide (x3=a0.fAddr)))],[(2,true),(6,true),(14,true)],[],[],[],[],[]⟩] [] [] [] [] (O1.app (.c h4 (.c h5 (.c (Zpg _ _ _ q6) (.c (ZjV x3 a0.fAddr (.tmp 23) (.tmp 25)) .n))))) (by kernel_rfl) rfl
   ·obtain rfl:=oi hf;exact Zan Zaj 4 [rz,⟨[(1,aB x1),(4,aB x2)],[(2,true),(6,true),(14,false)],[],[],[],[],[]⟩] [] [] [] [] (O1.app (.c h4 (.c h5 .n))) (by kernel_rfl) rfl
  ·obtain rfl:=oi hf;exact Zan Zaj 4 [rz,⟨[(1,aB x1),(4,aB x2)],[(2,true),(6,false)],[],[],[],[],[]⟩] [] [] [] [] (O1.app (.c h4 .n)) (by kernel_rfl) rfl
 ·obtain rfl:=oi hf;exact Zan Zaj 4 [rz,⟨[(1,aB x1)],[(2,false)],[],[],[],[],[]⟩] [] [] [] [] (.c (Zcs _ _ q1) (.c h2 .n)) (by kernel_rfl) rfl
def Zes:Nat→(List Zaa)→Int→Int→(List Zaa)→(List Zaa)→Zaq→Option ((List Zaa)×(List Zaa))|0,_,_,_,_,_,_=>none|fu+1,v8,v9,v10,w4,w5,b3=>bif(decide (v10<v9))then need (0≤v10∧v10<((v8.length:Nat):Int))<|(ZiV b3 (((v8.getD v10.toNat Zaa.d).fEnd).fAddr)).bind fun x1=>bif x1 then need ((w4++([(v8.getD v10.toNat Zaa.d)]:List Zaa)).length * 80≤140737488355328∧(w4++([(v8.getD v10.toNat Zaa.d)]:List Zaa)).length≤maxLen)<|Zes fu v8 v9 (Zaw v10 (1:Int)) (w4++([(v8.getD v10.toNat Zaa.d)]:List Zaa)) w5 b3 else need ((w5++([(v8.getD v10.toNat Zaa.d)]:List Zaa)).length * 80≤140737488355328∧(w5++([(v8.getD v10.toNat Zaa.d)]:List Zaa)).length≤maxLen)<|Zes fu v8 v9 (Zaw v10 (1:Int)) w4 (w5++([(v8.getD v10.toNat Zaa.d)]:List Zaa)) b3 else some (w4,w5)
theorem Zpq(S0:Nat→Prop)(w0:Zbg):∀(fu:Nat)(v8:List Zaa)(v9 v10:Int)(w4 w5:List Zaa)(b3:Zaq)(r:((List Zaa)×(List Zaa))),Zes fu v8 v9 v10 w4 w5 b3=some r→Good Tryz.prog 30 S0 w0 (bodyPost Tryz.prog Tryz.f228 (Post S0 w0 (.tup [(false,(cLs 10 Zaa.c Zaa.d) r.1),(false,(cLs 10 Zaa.c Zaa.d) r.2)]))) (at_ [1,0,1,0] (Zbn Tryz.f228)) ⟨[(3,.one (.ptr 3 0)),(4,.one (.osl 4 w4.length)),(5,.one (.osl 5 w5.length)),(8,.one (cL 10 Zaa.c Zaa.d v8)),(9,.one (.lit (.int .i64 v9))),(10,.one (.lit (.int .i64 v10)))],[(4,.rows 44 10 w4.length (Zam Zaa.c Zaa.d w4)),(5,.rows 44 10 w5.length (Zam Zaa.c Zaa.d w5)),(3,.box [.lit (.bool b3.fAddr.fV6),.lit (.int .u64 b3.fAddr.fHi),.lit (.int .u64 b3.fAddr.fLo),.lit (.int .i64 b3.fBits)])]⟩:=by
 intro fu;induction fu with
 |zero=>
  intro v8 v9 v10 w4 w5 b3 r hf;simp[Zes]at hf
 |succ fu ih=>
  intro v8 v9 v10 w4 w5 b3 r hf;unfold Zes at hf;rcases Zai hf with⟨h1,hf⟩|⟨h1,hf⟩
  ·obtain⟨o2,hf⟩:=Zav hf;obtain⟨x1,q3,hf⟩:=Zaf hf;have O1:Obl _:=(.c h1 (.c o2 (.c (Zih _ _ _ q3) .n)));rcases Zai hf with⟨h4,hf⟩|⟨h4,hf⟩
   ·obtain⟨o5,hf⟩:=Zav hf;exact ZaH Zaj Post.ends 17 [rz,rz,rA [(4,aB x1)],⟨[(3,.c ((w4++([(v8.getD v10.toNat Zaa.d)]:List Zaa)).length) (Zam Zaa.c Zaa.d (w4++([(v8.getD v10.toNat Zaa.d)]:List Zaa))))],[],[],[],[],[(2,(([(v8.getD v10.toNat Zaa.d)]:List Zaa).length,Zam Zaa.c Zaa.d ([(v8.getD v10.toNat Zaa.d)]:List Zaa)))],[]⟩,rz] [true,true] ⟨[],[],[],[],[],[3,4,5,8,9,10],[22,5,3],[(22,4)]⟩ (O1.app (.c h4 (.c (show ([(v8.getD v10.toNat Zaa.d)]:List Zaa).length=1∧∀i j,i<1→j<10→Zam Zaa.c Zaa.d ([(v8.getD v10.toNat Zaa.d)]:List Zaa) i j=(([(v8.getD v10.toNat Zaa.d)]:List Zaa).flatMap Zaa.c).getD (i * 10+j) .junk from⟨rfl,fun i j hi hj=>ZaT (sz:=10) (e:=Zaa.c) (d:=Zaa.d) (fun _=>rfl) ([(v8.getD v10.toNat Zaa.d)]:List Zaa) i j hi hj⟩) (.c (ZcV (sz:=10) (e:=Zaa.c) (d:=Zaa.d) w4 ([(v8.getD v10.toNat Zaa.d)]:List Zaa)) (.c o5.1 (.c o5.2 .n)))))) (by kernel_rfl) (ih v8 v9 (Zaw v10 (1:Int)) (w4++([(v8.getD v10.toNat Zaa.d)]:List Zaa)) w5 b3 r hf)
   ·obtain⟨o6,hf⟩:=Zav hf;exact ZaH Zaj Post.ends 17 [rz,rz,rA [(4,aB x1)],⟨[(3,.c ((w5++([(v8.getD v10.toNat Zaa.d)]:List Zaa)).length) (Zam Zaa.c Zaa.d (w5++([(v8.getD v10.toNat Zaa.d)]:List Zaa))))],[],[],[],[],[(2,(([(v8.getD v10.toNat Zaa.d)]:List Zaa).length,Zam Zaa.c Zaa.d ([(v8.getD v10.toNat Zaa.d)]:List Zaa)))],[]⟩,rz] [true,false] ⟨[],[],[],[],[],[3,4,5,8,9,10],[4,26,3],[(26,5)]⟩ (O1.app (.c h4 (.c (show ([(v8.getD v10.toNat Zaa.d)]:List Zaa).length=1∧∀i j,i<1→j<10→Zam Zaa.c Zaa.d ([(v8.getD v10.toNat Zaa.d)]:List Zaa) i j=(([(v8.getD v10.toNat Zaa.d)]:List Zaa).flatMap Zaa.c).getD (i * 10+j) .junk from⟨rfl,fun i j hi hj=>ZaT (sz:=10) (e:=Zaa.c) (d:=Zaa.d) (fun _=>rfl) ([(v8.getD v10.toNat Zaa.d)]:List Zaa) i j hi hj⟩) (.c (ZcV (sz:=10) (e:=Zaa.c) (d:=Zaa.d) w5 ([(v8.getD v10.toNat Zaa.d)]:List Zaa)) (.c o6.1 (.c o6.2 .n)))))) (by kernel_rfl) (ih v8 v9 (Zaw v10 (1:Int)) w4 (w5++([(v8.getD v10.toNat Zaa.d)]:List Zaa)) b3 r hf)
  ·obtain rfl:=oi hf;exact Zan Zaj 8 [rz,rz] [false] [4,5] [] [] (.c h1 .n) (by kernel_rfl) rfl
def ZkB(a0:List Zaa)(a1:Zaq):Option ((List Zaa)×(List Zaa)):=Zes ((((a0.length:Nat):Int)-(0:Int)).toNat+2) a0 ((a0.length:Nat):Int) (0:Int) ([]) ([]) a1
theorem Zrh(a0:List Zaa)(a1:Zaq)(r:((List Zaa)×(List Zaa)))(hf:ZkB a0 a1=some r):ZaC Tryz.prog 228 [.one (cL 10 Zaa.c Zaa.d a0),.agg (Zaq.c a1)] (.tup [(false,(cLs 10 Zaa.c Zaa.d) r.1),(false,(cLs 10 Zaa.c Zaa.d) r.2)]):=by
 refine ZaC.of Tryz.func228 rfl rfl rfl rfl fun S0 w0=>?_;unfold ZkB at hf;exact ZaH Zaj Post.ends 6 [rz,rz] [] ⟨[],[],[],[],[(4,4,44,10,Zam Zaa.c Zaa.d []),(5,5,44,10,Zam Zaa.c Zaa.d [])],[3,4,5,8,9,10],[4,5,3],[]⟩ .n (by kernel_rfl) (Zpq S0 w0 ((((a0.length:Nat):Int)-(0:Int)).toNat+2) a0 ((a0.length:Nat):Int) (0:Int) ([]) ([]) a1 r hf)
def Zce(a0:List Zaa):Nat→(List Zaa)→Int→Int→(List Int)→Option (List Int)|0,_,_,_,_=>none|fu+1,v8,v9,v10,w5=>bif(decide (v10<v9))then need (0≤v10∧v10<((v8.length:Nat):Int))<|bif(decide (v10≥((a0.length:Nat):Int)))then need ((w5++([v10]:List Int)).length * 8≤140737488355328∧(w5++([v10]:List Int)).length≤maxLen)<|Zce a0 fu v8 v9 (Zaw v10 (1:Int)) (w5++([v10]:List Int))else need (0≤v10∧v10<((a0.length:Nat):Int))<|bif(!(decide ((a0.getD v10.toNat Zaa.d)=(v8.getD v10.toNat Zaa.d))))then need ((w5++([v10]:List Int)).length * 8≤140737488355328∧(w5++([v10]:List Int)).length≤maxLen)<|Zce a0 fu v8 v9 (Zaw v10 (1:Int)) (w5++([v10]:List Int))else Zce a0 fu v8 v9 (Zaw v10 (1:Int)) w5 else some w5
theorem ZoR(S0:Nat→Prop)(w0:Zbg)(a0:List Zaa):∀(fu:Nat)(v8:List Zaa)(v9 v10:Int)(w5 r:List Int),Zce a0 fu v8 v9 v10 w5=some r→Good Tryz.prog 33 S0 w0 (bodyPost Tryz.prog Tryz.f287 (Zbp S0 w0 [(99999,.rows 3 1 r.length (Zam (cI .i64) (0:Int) r))] (.one (.osl 99999 r.length)))) (at_ [1,1,0,1,0] (Zbn Tryz.f287)) ⟨[(0,.one (cL 10 Zaa.c Zaa.d a0)),(5,.one (.osl 5 w5.length)),(8,.one (cL 10 Zaa.c Zaa.d v8)),(9,.one (.lit (.int .i64 v9))),(10,.one (.lit (.int .i64 v10)))],[(5,.rows 3 1 w5.length (Zam (cI .i64) (0:Int) w5))]⟩:=by
 intro fu;induction fu with
 |zero=>
  intro v8 v9 v10 w5 r hf;simp[Zce]at hf
 |succ fu ih=>
  intro v8 v9 v10 w5 r hf;unfold Zce at hf;rcases Zai hf with⟨h1,hf⟩|⟨h1,hf⟩
  ·obtain⟨o2,hf⟩:=Zav hf;rcases Zai hf with⟨h3,hf⟩|⟨h3,hf⟩
   ·obtain⟨o4,hf⟩:=Zav hf;exact ZaH Zaj Zbp.ends 17 [rz,rz,rB [(4,true)],⟨[(3,.c ((w5++([v10]:List Int)).length) (Zam (cI .i64) (0:Int) (w5++([v10]:List Int))))],[],[],[],[],[(2,(([v10]:List Int).length,Zam (cI .i64) (0:Int) ([v10]:List Int)))],[]⟩,rz] [true,true] ⟨[],[],[],[],[],[0,5,8,9,10],[30],[(30,5)]⟩ (.c h1 (.c o2 (.c h3 (.c (show true=true from rfl) (.c (show ([v10]:List Int).length=1∧∀i j,i<1→j<1→Zam (cI .i64) (0:Int) ([v10]:List Int) i j=(([v10]:List Int).flatMap (cI .i64)).getD (i * 1+j) .junk from⟨rfl,fun i j hi hj=>ZaT (sz:=1) (e:=(cI .i64)) (d:=(0:Int)) (fun _=>rfl) ([v10]:List Int) i j hi hj⟩) (.c (ZcV (sz:=1) (e:=(cI .i64)) (d:=(0:Int)) w5 ([v10]:List Int)) (.c o4.1 (.c o4.2 .n)))))))) (by kernel_rfl) (ih v8 v9 (Zaw v10 (1:Int)) (w5++([v10]:List Int)) r hf)
   ·obtain⟨o5,hf⟩:=Zav hf
    let R1:List RA:=[rz,rz,⟨[(10,aB (!(decide ((a0.getD v10.toNat Zaa.d)=(v8.getD v10.toNat Zaa.d)))))],[(4,false)],[],[],[],[],[]⟩]
    have O2:Obl _:=(.c h1 (.c o2 (.c h3 (.c o5 (.c (ZlX (a0.getD v10.toNat Zaa.d) (v8.getD v10.toNat Zaa.d) (.tmp 23) (.tmp 24)) .n)))));rcases Zai hf with⟨h6,hf⟩|⟨h6,hf⟩
    ·obtain⟨o7,hf⟩:=Zav hf;exact ZaH Zaj Zbp.ends 17 (R1++[⟨[(3,.c ((w5++([v10]:List Int)).length) (Zam (cI .i64) (0:Int) (w5++([v10]:List Int))))],[],[],[],[],[(2,(([v10]:List Int).length,Zam (cI .i64) (0:Int) ([v10]:List Int)))],[]⟩,rz]) [true,true] ⟨[],[],[],[],[],[0,5,8,9,10],[30],[(30,5)]⟩ (O2.app (.c h6 (.c (show ([v10]:List Int).length=1∧∀i j,i<1→j<1→Zam (cI .i64) (0:Int) ([v10]:List Int) i j=(([v10]:List Int).flatMap (cI .i64)).getD (i * 1+j) .junk from⟨rfl,fun i j hi hj=>ZaT (sz:=1) (e:=(cI .i64)) (d:=(0:Int)) (fun _=>rfl) ([v10]:List Int) i j hi hj⟩) (.c (ZcV (sz:=1) (e:=(cI .i64)) (d:=(0:Int)) w5 ([v10]:List Int)) (.c o7.1 (.c o7.2 .n)))))) (by kernel_rfl) (ih v8 v9 (Zaw v10 (1:Int)) (w5++([v10]:List Int)) r hf)
    ·exact ZaH Zaj Zbp.ends 17 (R1++[rz]) [true,false] ⟨[],[],[],[],[],[0,5,8,9,10],[5],[]⟩ (O2.app (.c h6 .n)) (by kernel_rfl) (ih v8 v9 (Zaw v10 (1:Int)) w5 r hf)
  ·obtain rfl:=oi hf;exact ZbA Zaj 8 [rz,rz] [false] ⟨[],[],[],[],[],[4],[5],[(5,99999)]⟩ (.c h1 .n) (by kernel_rfl)
def Zhy(a0 a1:List Zaa):Option (List Int):=Zce a0 ((((a1.length:Nat):Int)-(0:Int)).toNat+2) a1 ((a1.length:Nat):Int) (0:Int) ([])
theorem Zqa(a0 a1:List Zaa)(r:List Int)(hf:Zhy a0 a1=some r):Zcl Tryz.prog 287 [] [.one (cL 10 Zaa.c Zaa.d a0),.one (cL 10 Zaa.c Zaa.d a1)] [(99999,.rows 3 1 r.length (Zam (cI .i64) (0:Int) r))] (.one (.osl 99999 r.length)):=by
 refine Zcl.of Tryz.func287 rfl rfl rfl rfl fun S0 w0=>?_;unfold Zhy at hf;exact ZaH Zaj Zbp.ends 8 [rz,rz,rz] [] ⟨[],[],[],[],[(5,5,3,1,Zam (cI .i64) (0:Int) [])],[0,5,8,9,10],[5],[]⟩ .n (by kernel_rfl) (ZoR S0 w0 a0 ((((a1.length:Nat):Int)-(0:Int)).toNat+2) a1 ((a1.length:Nat):Int) (0:Int) ([]) r hf)
theorem ZqI(a0 a1:List Zaa)(r:List Int)(hf:Zhy a0 a1=some r):ZaC Tryz.prog 287 [.one (cL 10 Zaa.c Zaa.d a0),.one (cL 10 Zaa.c Zaa.d a1)] (.one (cL 1 (cI .i64) (0:Int) r)):=(Zqa a0 a1 r hf).pure
def Zdf(a1:Int)(a2 a3:List Zaa):Nat→(List Int)→Int→Int→Zak→Option (Tout Unit)|0,_,_,_,_=>none|fu+1,v12,v13,v14,b100000=>bif(decide (v14<v13))then need (0≤v14∧v14<((v12.length:Nat):Int))<|(ZhP a1 (v12.getD v14.toNat (0:Int))).bind fun x2=>need (0≤(v12.getD v14.toNat (0:Int))∧(v12.getD v14.toNat (0:Int))<((a3.length:Nat):Int))<|(Zcc b100000 x2 (Zae.mk (0:Int) (a3.getD (v12.getD v14.toNat (0:Int)).toNat Zaa.d) ([]:(List Zab)) ([]:(List Zad))) false).bind fun x3=>(match x3 with | .ret x3v x3g=>Zdf a1 a2 a3 fu v12 v13 (Zaw v14 (1:Int)) x3g | .pan x3o=>some (Tout.pan x3o) | .bad x3s=>some (Tout.bad x3s))else bif(((a2.length:Nat):Int) != ((a3.length:Nat):Int))then(ZhQ a1).bind fun x4=>(Zcc b100000 x4 (Zae.mk ((a3.length:Nat):Int) (Zaa.mk (Zah.mk (Zag.mk false (0:Int) (0:Int)) (0:Int)) false (0:Int) (Zar.mk (0:Int) (0:Int)) (0:Int) (0:Int)) ([]:(List Zab)) ([]:(List Zad))) false).bind fun x5=>(match x5 with | .ret x5v x5g=>some (Tout.ret () x5g) | .pan x5o=>some (Tout.pan x5o) | .bad x5s=>some (Tout.bad x5s))else some (Tout.ret () b100000)
theorem ZpX(S0:Nat→Prop)(w0:Zbg)(a1:Int)(a2 a3:List Zaa):∀(fu:Nat)(v12:List Int)(v13 v14:Int)(b100000:Zak)(r:(Tout Unit)),Zdf a1 a2 a3 fu v12 v13 v14 b100000=some r→Good Tryz.prog 47 S0 w0 (bodyPost Tryz.prog Tryz.f220 (ZiC S0 w0 (oc (fun x=>.tup []) r))) (at_ [0,1,0] (Zbn Tryz.f220)) ⟨[(0,.one (.ifc 112 (.ptr 100000 0))),(1,.one (.lit (.int .i64 a1))),(2,.one (cL 10 Zaa.c Zaa.d a2)),(3,.one (cL 10 Zaa.c Zaa.d a3)),(12,.one (cL 1 (cI .i64) (0:Int) v12)),(13,.one (.lit (.int .i64 v13))),(14,.one (.lit (.int .i64 v14)))],[(100000,.box [cL 13 Zae.c Zae.d b100000.fgot])]⟩:=by
 intro fu;induction fu with
 |zero=>
  intro v12 v13 v14 b100000 r hf;simp[Zdf]at hf
 |succ fu ih=>
  intro v12 v13 v14 b100000 r hf;unfold Zdf at hf;rcases Zai hf with⟨h2,hf⟩|⟨h2,hf⟩
  ·obtain⟨o3,hf⟩:=Zav hf;obtain⟨x2,q4,hf⟩:=Zaf hf;obtain⟨o5,hf⟩:=Zav hf;have O1:Obl _:=(.c h2 (.c o3 (.c (Zpd _ _ _ q4) (.c o5 (.c ZjJ .n)))));obtain⟨x3,q6,hf⟩:=Zaf hf;cases x3 with
   |ret x3v x3g=>
    dsimp only at hf;exact ZaH Zaj ZiC.ends 14 [rz,rz,⟨[(3,aG (Zap.c x2)),(12,.id 467)],[],[],[],[(8,[(11,cL 5 Zab.c Zab.d []),(12,cL 7 Zad.c Zad.d [])])],[],[(12,⟨[(100000,100000)],[],[(100000,.box (Zak.c x3g))],.tup []⟩)]⟩,rz] [true] ⟨[],[],[],[],[],[0,1,2,3,12,13,14],[100000],[]⟩ (O1.app (.c (ZbG _ _ _ _ _ q6) (.c ZfU .n))) (by kernel_rfl) (ih v12 v13 (Zaw v14 (1:Int)) x3g r hf)
   |_=>
    dsimp only at hf;obtain rfl:=oi hf;exact ZaI Zaj 10 _ _ [rz,rz] [true] (⟨[(3,aG (Zap.c x2)),(12,.id 467)],[],[],[],[(8,[(11,cL 5 Zab.c Zab.d []),(12,cL 7 Zad.c Zad.d [])])],[],[]⟩) 12 ⟨[(100000,100000)],pvOf q6⟩ (O1.app (.c (ZbG _ _ _ _ _ q6) (.c ZfU .n))) (by kernel_rfl)
  ·rcases Zai hf with⟨h7,hf⟩|⟨h7,hf⟩
   ·obtain⟨x4,q8,hf⟩:=Zaf hf;have O2:Obl _:=(.c h2 (.c h7 (.c (Zpe _ _ q8) (.c ZjJ .n))));obtain⟨x5,q9,hf⟩:=Zaf hf;cases x5 with
    |ret x5v x5g=>
     dsimp only at hf;obtain rfl:=oi hf;exact Zch Zaj 10 [rz,rz,⟨[(2,aG (Zap.c x4)),(9,.id 467)],[],[],[],[(5,[(11,cL 5 Zab.c Zab.d []),(12,cL 7 Zad.c Zad.d [])])],[],[(9,⟨[(100000,100000)],[],[(100000,.box (Zak.c x5g))],.tup []⟩)]⟩] [false,true] ⟨[],[],[],[],[],[],[100000],[]⟩ [100000] (O2.app (.c (ZbG _ _ _ _ _ q9) (.c ZfU .n))) (by kernel_rfl)
    |_=>
     dsimp only at hf;obtain rfl:=oi hf;exact ZaI Zaj 9 _ _ [rz,rz] [false,true] (⟨[(2,aG (Zap.c x4)),(9,.id 467)],[],[],[],[(5,[(11,cL 5 Zab.c Zab.d []),(12,cL 7 Zad.c Zad.d [])])],[],[]⟩) 9 ⟨[(100000,100000)],pvOf q9⟩ (O2.app (.c (ZbG _ _ _ _ _ q9) (.c ZfU .n))) (by kernel_rfl)
   ·obtain rfl:=oi hf;exact Zch Zaj 10 [rz,rz] [false,false] ⟨[],[],[],[],[],[],[100000],[]⟩ [100000] (.c h2 (.c h7 .n)) (by kernel_rfl)
def ZhS(a0:Zak)(a1:Int)(a2 a3:List Zaa):Option (Tout Unit):=(Zhy a2 a3).bind fun x1=>Zdf a1 a2 a3 ((((x1.length:Nat):Int)-(0:Int)).toNat+2) x1 ((x1.length:Nat):Int) (0:Int) a0
theorem Zny(a0:Zak)(a1:Int)(a2 a3:List Zaa)(r:(Tout Unit))(hf:ZhS a0 a1 a2 a3=some r):Zfc Tryz.prog 220 [(100000,.box (Zak.c a0))] [.one (.ifc 112 (.ptr 100000 0)),.one (.lit (.int .i64 a1)),.one (cL 10 Zaa.c Zaa.d a2),.one (cL 10 Zaa.c Zaa.d a3)] (oc (fun x=>.tup []) r):=by
 refine Zfc.of Tryz.func220 rfl rfl rfl rfl fun S0 w0=>?_;unfold ZhS at hf;obtain⟨x1,q1,hf⟩:=Zaf hf;exact ZaH Zaj ZiC.ends 4 [rA [(2,.r (.one (cL 1 (cI .i64) (0:Int) x1)) [])]] [] ⟨[],[],[],[],[],[0,1,2,3,12,13,14],[100000],[]⟩ (.c (ZqI _ _ _ q1) .n) (by kernel_rfl) (ZpX S0 w0 a1 a2 a3 ((((x1.length:Nat):Int)-(0:Int)).toNat+2) x1 ((x1.length:Nat):Int) (0:Int) a0 r hf)
def ZdN(a1:Bool):Nat→Int→(List Zaa)→Int→Int→Option Int|0,_,_,_,_=>none|fu+1,v5,v8,v9,v10=>bif(decide (v10<v9))then need (0≤v10∧v10<((v8.length:Nat):Int))<|bif((v8.getD v10.toNat Zaa.d).fIn==a1)then ZdN a1 fu (Zaw v5 (1:Int)) v8 v9 (Zaw v10 (1:Int))else ZdN a1 fu v5 v8 v9 (Zaw v10 (1:Int))else some v5
theorem Zpr(S0:Nat→Prop)(w0:Zbg)(a1:Bool):∀(fu:Nat)(v5:Int)(v8:List Zaa)(v9 v10 r:Int),ZdN a1 fu v5 v8 v9 v10=some r→Good Tryz.prog 22 S0 w0 (bodyPost Tryz.prog Tryz.f298 (Post S0 w0 (.one (.lit (.int .i64 r))))) (at_ [1,1,0,1,0] (Zbn Tryz.f298)) ⟨[(1,.one (.lit (.bool a1))),(5,.one (.lit (.int .i64 v5))),(8,.one (cL 10 Zaa.c Zaa.d v8)),(9,.one (.lit (.int .i64 v9))),(10,.one (.lit (.int .i64 v10)))],[]⟩:=by
 intro fu;induction fu with
 |zero=>
  intro v5 v8 v9 v10 r hf;simp[ZdN]at hf
 |succ fu ih=>
  intro v5 v8 v9 v10 r hf;unfold ZdN at hf;rcases Zai hf with⟨h1,hf⟩|⟨h1,hf⟩
  ·obtain⟨o2,hf⟩:=Zav hf;rcases Zai hf with⟨h3,hf⟩|⟨h3,hf⟩
   ·exact ZaH Zaj Post.ends 17 [rz,rz,rz,rz,rz] [true,true] ⟨[],[],[],[],[],[1,5,8,9,10],[],[]⟩ (.c h1 (.c o2 (.c h3 .n))) (by kernel_rfl) (ih (Zaw v5 (1:Int)) v8 v9 (Zaw v10 (1:Int)) r hf)
   ·exact ZaH Zaj Post.ends 17 [rz,rz,rz,rz] [true,false] ⟨[],[],[],[],[],[1,5,8,9,10],[],[]⟩ (.c h1 (.c o2 (.c h3 .n))) (by kernel_rfl) (ih v5 v8 v9 (Zaw v10 (1:Int)) r hf)
  ·obtain rfl:=oi hf;exact Zan Zaj 8 [rz,rz] [false] [] [] [] (.c h1 .n) (by kernel_rfl) rfl
def Zif(a0:List Zaa)(a1:Bool):Option Int:=ZdN a1 ((((a0.length:Nat):Int)-(0:Int)).toNat+2) (0:Int) a0 ((a0.length:Nat):Int) (0:Int)
theorem ZfW(a0:List Zaa)(a1:Bool)(r:Int)(hf:Zif a0 a1=some r):ZaC Tryz.prog 298 [.one (cL 10 Zaa.c Zaa.d a0),.one (.lit (.bool a1))] (.one (.lit (.int .i64 r))):=by
 refine ZaC.of Tryz.func298 rfl rfl rfl rfl fun S0 w0=>?_;unfold Zif at hf;exact ZaH Zaj Post.ends 8 [rz,rz,rz] [] ⟨[],[],[],[],[],[1,5,8,9,10],[],[]⟩ .n (by kernel_rfl) (Zpr S0 w0 a1 ((((a0.length:Nat):Int)-(0:Int)).toNat+2) (0:Int) a0 ((a0.length:Nat):Int) (0:Int) r hf)
def ZfV(a0:Zak)(a1:Zap)(a2 a3:Int)(a4:Bool):Option (Tout Bool):=(Zca a0 (Zas.mk (7:Int) (0:Int) a1 a2 a3 (Zae.mk (0:Int) (Zaa.mk (Zah.mk (Zag.mk false (0:Int) (0:Int)) (0:Int)) false (0:Int) (Zar.mk (0:Int) (0:Int)) (0:Int) (0:Int)) ([]:(List Zab)) ([]:(List Zad))) a4)).bind fun x1=>(match x1 with | .ret x1v x1g=>some (Tout.ret (x1v.fN==(1:Int)) x1g) | .pan x1o=>some (Tout.pan x1o) | .bad x1s=>some (Tout.bad x1s))
theorem Zku(a0:Zak)(a1:Zap)(a2 a3:Int)(a4:Bool)(r:(Tout Bool))(hf:ZfV a0 a1 a2 a3 a4=some r):Zfc Tryz.prog 468 [(100000,.box (Zak.c a0))] [.one (.ptr 100000 0),.agg (Zap.c a1),.one (.lit (.int .i64 a2)),.one (.lit (.int .i64 a3)),.one (.lit (.bool a4))] (oc (fun x=>.one (.lit (.bool x))) r):=by
 refine Zfc.of Tryz.func468 rfl rfl rfl rfl fun S0 w0=>?_;unfold ZfV at hf;obtain⟨x1,q1,hf⟩:=Zaf hf;cases x1 with
 |ret x1v x1g=>
  dsimp only at hf;obtain rfl:=oi hf;exact Zch Zaj 4 [rz,⟨[],[],[],[],[(5,[(18,cL 5 Zab.c Zab.d []),(19,cL 7 Zad.c Zad.d [])])],[],[(6,⟨[(100000,100000)],[],[(100000,.box (Zak.c x1g))],.agg (Zae.c x1v)⟩)]⟩] [] ⟨[],[],[],[],[],[10],[100000],[]⟩ [100000] (.c (Zbt _ _ _ q1) .n) (by kernel_rfl)
 |_=>
  dsimp only at hf;obtain rfl:=oi hf;exact ZaI Zaj 3 _ _ [rz] [] (⟨[],[],[],[],[(5,[(18,cL 5 Zab.c Zab.d []),(19,cL 7 Zad.c Zad.d [])])],[],[]⟩) 6 ⟨[(100000,100000)],pvOf q1⟩ (.c (Zbt _ _ _ q1) .n) (by kernel_rfl)
end Go.Proofs.YtdjfoojllbfcgaaGreat
