import Derived.Test.YtmnloegcpaahcaaGreatCMoeT
namespace Go.Proofs.YtmnloegcpaahcaaGreat
open Go.RowKit Go.Lib Go.Shelf
set_option linter.unusedVariables false
set_option maxRecDepth 100000
variable (S0:Nat->Prop)(w0:ZaY)
theorem ZrZ : (Tryz.prog.fieldsOf 28).toList = [{ name := "V6", type := 4, offset := 0, embedded := false, tag := "", pkgPath := "", byteOffset := 0 }, { name := "Hi", type := 22, offset := 1, embedded := false, tag := "", pkgPath := "", byteOffset := 8 }, { name := "Lo", type := 22, offset := 2, embedded := false, tag := "", pkgPath := "", byteOffset := 16 }] := by kernel_rfl
theorem ZmV(d:Nat)(x y:Zaf)(w:World):(Op.equalIn (d+2) 28 (.agg #[.bool x.fV6,.int .u64 x.fHi,.int .u64 x.fLo]) (.agg #[.bool y.fV6,.int .u64 y.fHi,.int .u64 y.fLo])).run Tryz.prog w=.ok (decide (x=y)) w:=by rw[run_equalIn_struct w (d+1) _ _ _ (by kernel_rfl) (by kernel_rfl)];simp only[ZrZ,Op.eqFields];simp[go_sem];cases x;cases y;simp only[Zaf.mk.injEq];(repeat' split)<;>simp_all
theorem ZlB(x y:Zaf)(xo yo:Operand):∀w,(do eqGuard .eql 28 xo yo (.agg #[.bool x.fV6,.int .u64 x.fHi,.int .u64 x.fLo]) (.agg #[.bool y.fV6,.int .u64 y.fHi,.int .u64 y.fLo]);binOp .eql 28 (.agg #[.bool x.fV6,.int .u64 x.fHi,.int .u64 x.fLo]) (.agg #[.bool y.fV6,.int .u64 y.fHi,.int .u64 y.fLo]):Sem Value).run Tryz.prog w=.ok (.bool (decide (x=y))) w:=by
 intro w;have hg:(eqGuard .eql 28 xo yo (.agg #[.bool x.fV6,.int .u64 x.fHi,.int .u64 x.fLo]) (.agg #[.bool y.fV6,.int .u64 y.fHi,.int .u64 y.fLo])).run Tryz.prog w=.ok () w:=by simp[eqGuard,Sem.run_bind,Tryz.eqGuardType28]
 rw[Sem.run_bind,hg,Result.andThen_ok,run_eql_struct];exact congrArg (fun r:Result Bool=>r.andThen fun b w'=>Result.ok (Value.bool b) w') (ZmV 9998 x y w)
theorem ZsY : (Tryz.prog.fieldsOf 30).toList = [{ name := "Addr", type := 28, offset := 0, embedded := false, tag := "", pkgPath := "", byteOffset := 0 }, { name := "Port", type := 3, offset := 3, embedded := false, tag := "", pkgPath := "", byteOffset := 24 }] := by kernel_rfl
theorem ZlD(d:Nat)(x y:Zai)(w:World):(Op.equalIn (d+4) 30 (.agg #[.bool x.fAddr.fV6,.int .u64 x.fAddr.fHi,.int .u64 x.fAddr.fLo,.int .i64 x.fPort]) (.agg #[.bool y.fAddr.fV6,.int .u64 y.fAddr.fHi,.int .u64 y.fAddr.fLo,.int .i64 y.fPort])).run Tryz.prog w=.ok (decide (x=y)) w:=by rw[run_equalIn_struct w (d+3) _ _ _ (by kernel_rfl) (by kernel_rfl)];simp only[ZsY,Op.eqFields];simp[go_sem,ZmV];cases x;cases y;simp only[Zai.mk.injEq];(repeat' split)<;>simp_all
theorem ZkU(x y:Zai)(xo yo:Operand):∀w,(do eqGuard .eql 30 xo yo (.agg #[.bool x.fAddr.fV6,.int .u64 x.fAddr.fHi,.int .u64 x.fAddr.fLo,.int .i64 x.fPort]) (.agg #[.bool y.fAddr.fV6,.int .u64 y.fAddr.fHi,.int .u64 y.fAddr.fLo,.int .i64 y.fPort]);binOp .eql 30 (.agg #[.bool x.fAddr.fV6,.int .u64 x.fAddr.fHi,.int .u64 x.fAddr.fLo,.int .i64 x.fPort]) (.agg #[.bool y.fAddr.fV6,.int .u64 y.fAddr.fHi,.int .u64 y.fAddr.fLo,.int .i64 y.fPort]):Sem Value).run Tryz.prog w=.ok (.bool (decide (x=y))) w:=by
 intro w;have hg:(eqGuard .eql 30 xo yo (.agg #[.bool x.fAddr.fV6,.int .u64 x.fAddr.fHi,.int .u64 x.fAddr.fLo,.int .i64 x.fPort]) (.agg #[.bool y.fAddr.fV6,.int .u64 y.fAddr.fHi,.int .u64 y.fAddr.fLo,.int .i64 y.fPort])).run Tryz.prog w=.ok () w:=by simp[eqGuard,Sem.run_bind,Tryz.eqGuardType30]
 rw[Sem.run_bind,hg,Result.andThen_ok,run_eql_struct];exact congrArg (fun r:Result Bool=>r.andThen fun b w'=>Result.ok (Value.bool b) w') (ZlD 9996 x y w)
theorem Zmk(x y:Zai)(xo yo:Operand):∀w,(do eqGuard .neq 30 xo yo (.agg #[.bool x.fAddr.fV6,.int .u64 x.fAddr.fHi,.int .u64 x.fAddr.fLo,.int .i64 x.fPort]) (.agg #[.bool y.fAddr.fV6,.int .u64 y.fAddr.fHi,.int .u64 y.fAddr.fLo,.int .i64 y.fPort]);binOp .neq 30 (.agg #[.bool x.fAddr.fV6,.int .u64 x.fAddr.fHi,.int .u64 x.fAddr.fLo,.int .i64 x.fPort]) (.agg #[.bool y.fAddr.fV6,.int .u64 y.fAddr.fHi,.int .u64 y.fAddr.fLo,.int .i64 y.fPort]):Sem Value).run Tryz.prog w=.ok (.bool (!decide (x=y))) w:=by
 intro w;have hg:(eqGuard .neq 30 xo yo (.agg #[.bool x.fAddr.fV6,.int .u64 x.fAddr.fHi,.int .u64 x.fAddr.fLo,.int .i64 x.fPort]) (.agg #[.bool y.fAddr.fV6,.int .u64 y.fAddr.fHi,.int .u64 y.fAddr.fLo,.int .i64 y.fPort])).run Tryz.prog w=.ok () w:=by simp[eqGuard,Sem.run_bind,Tryz.eqGuardType30]
 rw[Sem.run_bind,hg,Result.andThen_ok,run_neq_struct];exact congrArg (fun r:Result Bool=>r.andThen fun b w'=>Result.ok (Value.bool (!b)) w') (ZlD 9996 x y w)
theorem ZsX : (Tryz.prog.fieldsOf 32).toList = [{ name := "Addr", type := 28, offset := 0, embedded := false, tag := "", pkgPath := "", byteOffset := 0 }, { name := "Bits", type := 3, offset := 3, embedded := false, tag := "", pkgPath := "", byteOffset := 24 }] := by kernel_rfl
theorem ZlC(d:Nat)(x y:Zaj)(w:World):(Op.equalIn (d+4) 32 (.agg #[.bool x.fAddr.fV6,.int .u64 x.fAddr.fHi,.int .u64 x.fAddr.fLo,.int .i64 x.fBits]) (.agg #[.bool y.fAddr.fV6,.int .u64 y.fAddr.fHi,.int .u64 y.fAddr.fLo,.int .i64 y.fBits])).run Tryz.prog w=.ok (decide (x=y)) w:=by rw[run_equalIn_struct w (d+3) _ _ _ (by kernel_rfl) (by kernel_rfl)];simp only[ZsX,Op.eqFields];simp[go_sem,ZmV];cases x;cases y;simp only[Zaj.mk.injEq];(repeat' split)<;>simp_all
theorem ZpB(x y:Zaj)(xo yo:Operand):∀w,(do eqGuard .eql 32 xo yo (.agg #[.bool x.fAddr.fV6,.int .u64 x.fAddr.fHi,.int .u64 x.fAddr.fLo,.int .i64 x.fBits]) (.agg #[.bool y.fAddr.fV6,.int .u64 y.fAddr.fHi,.int .u64 y.fAddr.fLo,.int .i64 y.fBits]);binOp .eql 32 (.agg #[.bool x.fAddr.fV6,.int .u64 x.fAddr.fHi,.int .u64 x.fAddr.fLo,.int .i64 x.fBits]) (.agg #[.bool y.fAddr.fV6,.int .u64 y.fAddr.fHi,.int .u64 y.fAddr.fLo,.int .i64 y.fBits]):Sem Value).run Tryz.prog w=.ok (.bool (decide (x=y))) w:=by
 intro w;have hg:(eqGuard .eql 32 xo yo (.agg #[.bool x.fAddr.fV6,.int .u64 x.fAddr.fHi,.int .u64 x.fAddr.fLo,.int .i64 x.fBits]) (.agg #[.bool y.fAddr.fV6,.int .u64 y.fAddr.fHi,.int .u64 y.fAddr.fLo,.int .i64 y.fBits])).run Tryz.prog w=.ok () w:=by simp[eqGuard,Sem.run_bind,Tryz.eqGuardType32]
 rw[Sem.run_bind,hg,Result.andThen_ok,run_eql_struct];exact congrArg (fun r:Result Bool=>r.andThen fun b w'=>Result.ok (Value.bool b) w') (ZlC 9996 x y w)
theorem Zym(x y:Zaj)(xo yo:Operand):∀w,(do eqGuard .neq 32 xo yo (.agg #[.bool x.fAddr.fV6,.int .u64 x.fAddr.fHi,.int .u64 x.fAddr.fLo,.int .i64 x.fBits]) (.agg #[.bool y.fAddr.fV6,.int .u64 y.fAddr.fHi,.int .u64 y.fAddr.fLo,.int .i64 y.fBits]);binOp .neq 32 (.agg #[.bool x.fAddr.fV6,.int .u64 x.fAddr.fHi,.int .u64 x.fAddr.fLo,.int .i64 x.fBits]) (.agg #[.bool y.fAddr.fV6,.int .u64 y.fAddr.fHi,.int .u64 y.fAddr.fLo,.int .i64 y.fBits]):Sem Value).run Tryz.prog w=.ok (.bool (!decide (x=y))) w:=by
 intro w;have hg:(eqGuard .neq 32 xo yo (.agg #[.bool x.fAddr.fV6,.int .u64 x.fAddr.fHi,.int .u64 x.fAddr.fLo,.int .i64 x.fBits]) (.agg #[.bool y.fAddr.fV6,.int .u64 y.fAddr.fHi,.int .u64 y.fAddr.fLo,.int .i64 y.fBits])).run Tryz.prog w=.ok () w:=by simp[eqGuard,Sem.run_bind,Tryz.eqGuardType32]
 rw[Sem.run_bind,hg,Result.andThen_ok,run_neq_struct];exact congrArg (fun r:Result Bool=>r.andThen fun b w'=>Result.ok (Value.bool (!b)) w') (ZlC 9996 x y w)
theorem Zro : (Tryz.prog.fieldsOf 42).toList = [{ name := "Points", type := 3, offset := 0, embedded := false, tag := "", pkgPath := "", byteOffset := 0 }, { name := "At", type := 3, offset := 1, embedded := false, tag := "", pkgPath := "", byteOffset := 8 }] := by kernel_rfl
theorem Zus(d:Nat)(x y:Zaw)(w:World):(Op.equalIn (d+2) 42 (.agg #[.int .i64 x.fPoints,.int .i64 x.fAt]) (.agg #[.int .i64 y.fPoints,.int .i64 y.fAt])).run Tryz.prog w=.ok (decide (x=y)) w:=by rw[run_equalIn_struct w (d+1) _ _ _ (by kernel_rfl) (by kernel_rfl)];simp only[Zro,Op.eqFields];simp[go_sem];cases x;cases y;simp only[Zaw.mk.injEq];(repeat' split)<;>simp_all
theorem ZrY : (Tryz.prog.fieldsOf 44).toList = [{ name := "End", type := 30, offset := 0, embedded := false, tag := "", pkgPath := "", byteOffset := 0 }, { name := "In", type := 4, offset := 4, embedded := false, tag := "", pkgPath := "", byteOffset := 32 }, { name := "Since", type := 3, offset := 5, embedded := false, tag := "", pkgPath := "", byteOffset := 40 }, { name := "Score", type := 42, offset := 6, embedded := false, tag := "", pkgPath := "", byteOffset := 48 }, { name := "Ping", type := 3, offset := 8, embedded := false, tag := "", pkgPath := "", byteOffset := 64 }, { name := "Work", type := 3, offset := 9, embedded := false, tag := "", pkgPath := "", byteOffset := 72 }] := by kernel_rfl
theorem Zwf(d:Nat)(x y:Zaa)(w:World):(Op.equalIn (d+6) 44 (.agg #[.bool x.fEnd.fAddr.fV6,.int .u64 x.fEnd.fAddr.fHi,.int .u64 x.fEnd.fAddr.fLo,.int .i64 x.fEnd.fPort,.bool x.fIn,.int .i64 x.fSince,.int .i64 x.fScore.fPoints,.int .i64 x.fScore.fAt,.int .i64 x.fPing,.int .i64 x.fWork]) (.agg #[.bool y.fEnd.fAddr.fV6,.int .u64 y.fEnd.fAddr.fHi,.int .u64 y.fEnd.fAddr.fLo,.int .i64 y.fEnd.fPort,.bool y.fIn,.int .i64 y.fSince,.int .i64 y.fScore.fPoints,.int .i64 y.fScore.fAt,.int .i64 y.fPing,.int .i64 y.fWork])).run Tryz.prog w=.ok (decide (x=y)) w:=by rw[run_equalIn_struct w (d+5) _ _ _ (by kernel_rfl) (by kernel_rfl)];simp only[ZrY,Op.eqFields];simp[go_sem,ZlD,Zus];cases x;cases y;simp only[Zaa.mk.injEq];(repeat' split)<;>simp_all
theorem ZwD(x y:Zaa)(xo yo:Operand):∀w,(do eqGuard .neq 44 xo yo (.agg #[.bool x.fEnd.fAddr.fV6,.int .u64 x.fEnd.fAddr.fHi,.int .u64 x.fEnd.fAddr.fLo,.int .i64 x.fEnd.fPort,.bool x.fIn,.int .i64 x.fSince,.int .i64 x.fScore.fPoints,.int .i64 x.fScore.fAt,.int .i64 x.fPing,.int .i64 x.fWork]) (.agg #[.bool y.fEnd.fAddr.fV6,.int .u64 y.fEnd.fAddr.fHi,.int .u64 y.fEnd.fAddr.fLo,.int .i64 y.fEnd.fPort,.bool y.fIn,.int .i64 y.fSince,.int .i64 y.fScore.fPoints,.int .i64 y.fScore.fAt,.int .i64 y.fPing,.int .i64 y.fWork]);binOp .neq 44 (.agg #[.bool x.fEnd.fAddr.fV6,.int .u64 x.fEnd.fAddr.fHi,.int .u64 x.fEnd.fAddr.fLo,.int .i64 x.fEnd.fPort,.bool x.fIn,.int .i64 x.fSince,.int .i64 x.fScore.fPoints,.int .i64 x.fScore.fAt,.int .i64 x.fPing,.int .i64 x.fWork]) (.agg #[.bool y.fEnd.fAddr.fV6,.int .u64 y.fEnd.fAddr.fHi,.int .u64 y.fEnd.fAddr.fLo,.int .i64 y.fEnd.fPort,.bool y.fIn,.int .i64 y.fSince,.int .i64 y.fScore.fPoints,.int .i64 y.fScore.fAt,.int .i64 y.fPing,.int .i64 y.fWork]):Sem Value).run Tryz.prog w=.ok (.bool (!decide (x=y))) w:=by
 intro w;have hg:(eqGuard .neq 44 xo yo (.agg #[.bool x.fEnd.fAddr.fV6,.int .u64 x.fEnd.fAddr.fHi,.int .u64 x.fEnd.fAddr.fLo,.int .i64 x.fEnd.fPort,.bool x.fIn,.int .i64 x.fSince,.int .i64 x.fScore.fPoints,.int .i64 x.fScore.fAt,.int .i64 x.fPing,.int .i64 x.fWork]) (.agg #[.bool y.fEnd.fAddr.fV6,.int .u64 y.fEnd.fAddr.fHi,.int .u64 y.fEnd.fAddr.fLo,.int .i64 y.fEnd.fPort,.bool y.fIn,.int .i64 y.fSince,.int .i64 y.fScore.fPoints,.int .i64 y.fScore.fAt,.int .i64 y.fPing,.int .i64 y.fWork])).run Tryz.prog w=.ok () w:=by simp[eqGuard,Sem.run_bind,Tryz.eqGuardType44]
 rw[Sem.run_bind,hg,Result.andThen_ok,run_neq_struct];exact congrArg (fun r:Result Bool=>r.andThen fun b w'=>Result.ok (Value.bool (!b)) w') (Zwf 9994 x y w)
theorem ZsZ : (Tryz.prog.fieldsOf 94).toList = [{ name := "Net", type := 32, offset := 0, embedded := false, tag := "", pkgPath := "", byteOffset := 0 }, { name := "Until", type := 3, offset := 4, embedded := false, tag := "", pkgPath := "", byteOffset := 32 }] := by kernel_rfl
theorem ZwT(d:Nat)(x y:Zac)(w:World):(Op.equalIn (d+6) 94 (.agg #[.bool x.fNet.fAddr.fV6,.int .u64 x.fNet.fAddr.fHi,.int .u64 x.fNet.fAddr.fLo,.int .i64 x.fNet.fBits,.int .i64 x.fUntil]) (.agg #[.bool y.fNet.fAddr.fV6,.int .u64 y.fNet.fAddr.fHi,.int .u64 y.fNet.fAddr.fLo,.int .i64 y.fNet.fBits,.int .i64 y.fUntil])).run Tryz.prog w=.ok (decide (x=y)) w:=by rw[run_equalIn_struct w (d+5) _ _ _ (by kernel_rfl) (by kernel_rfl)];simp only[ZsZ,Op.eqFields];simp[go_sem,ZlC];cases x;cases y;simp only[Zac.mk.injEq];(repeat' split)<;>simp_all
theorem Zyn(x y:Zac)(xo yo:Operand):∀w,(do eqGuard .neq 94 xo yo (.agg #[.bool x.fNet.fAddr.fV6,.int .u64 x.fNet.fAddr.fHi,.int .u64 x.fNet.fAddr.fLo,.int .i64 x.fNet.fBits,.int .i64 x.fUntil]) (.agg #[.bool y.fNet.fAddr.fV6,.int .u64 y.fNet.fAddr.fHi,.int .u64 y.fNet.fAddr.fLo,.int .i64 y.fNet.fBits,.int .i64 y.fUntil]);binOp .neq 94 (.agg #[.bool x.fNet.fAddr.fV6,.int .u64 x.fNet.fAddr.fHi,.int .u64 x.fNet.fAddr.fLo,.int .i64 x.fNet.fBits,.int .i64 x.fUntil]) (.agg #[.bool y.fNet.fAddr.fV6,.int .u64 y.fNet.fAddr.fHi,.int .u64 y.fNet.fAddr.fLo,.int .i64 y.fNet.fBits,.int .i64 y.fUntil]):Sem Value).run Tryz.prog w=.ok (.bool (!decide (x=y))) w:=by
 intro w;have hg:(eqGuard .neq 94 xo yo (.agg #[.bool x.fNet.fAddr.fV6,.int .u64 x.fNet.fAddr.fHi,.int .u64 x.fNet.fAddr.fLo,.int .i64 x.fNet.fBits,.int .i64 x.fUntil]) (.agg #[.bool y.fNet.fAddr.fV6,.int .u64 y.fNet.fAddr.fHi,.int .u64 y.fNet.fAddr.fLo,.int .i64 y.fNet.fBits,.int .i64 y.fUntil])).run Tryz.prog w=.ok () w:=by simp[eqGuard,Sem.run_bind,Tryz.eqGuardType94]
 rw[Sem.run_bind,hg,Result.andThen_ok,run_neq_struct];exact congrArg (fun r:Result Bool=>r.andThen fun b w'=>Result.ok (Value.bool (!b)) w') (ZwT 9994 x y w)
theorem Zrp : (Tryz.prog.fieldsOf 113).toList = [{ name := "End", type := 30, offset := 0, embedded := false, tag := "", pkgPath := "", byteOffset := 0 }, { name := "State", type := 3, offset := 4, embedded := false, tag := "", pkgPath := "", byteOffset := 32 }, { name := "Fails", type := 3, offset := 5, embedded := false, tag := "", pkgPath := "", byteOffset := 40 }, { name := "Next", type := 3, offset := 6, embedded := false, tag := "", pkgPath := "", byteOffset := 48 }] := by kernel_rfl
theorem Zut(d:Nat)(x y:Zab)(w:World):(Op.equalIn (d+6) 113 (.agg #[.bool x.fEnd.fAddr.fV6,.int .u64 x.fEnd.fAddr.fHi,.int .u64 x.fEnd.fAddr.fLo,.int .i64 x.fEnd.fPort,.int .i64 x.fState,.int .i64 x.fFails,.int .i64 x.fNext]) (.agg #[.bool y.fEnd.fAddr.fV6,.int .u64 y.fEnd.fAddr.fHi,.int .u64 y.fEnd.fAddr.fLo,.int .i64 y.fEnd.fPort,.int .i64 y.fState,.int .i64 y.fFails,.int .i64 y.fNext])).run Tryz.prog w=.ok (decide (x=y)) w:=by rw[run_equalIn_struct w (d+5) _ _ _ (by kernel_rfl) (by kernel_rfl)];simp only[Zrp,Op.eqFields];simp[go_sem,ZlD];cases x;cases y;simp only[Zab.mk.injEq];(repeat' split)<;>simp_all
theorem Zvr(x y:Zab)(xo yo:Operand):∀w,(do eqGuard .neq 113 xo yo (.agg #[.bool x.fEnd.fAddr.fV6,.int .u64 x.fEnd.fAddr.fHi,.int .u64 x.fEnd.fAddr.fLo,.int .i64 x.fEnd.fPort,.int .i64 x.fState,.int .i64 x.fFails,.int .i64 x.fNext]) (.agg #[.bool y.fEnd.fAddr.fV6,.int .u64 y.fEnd.fAddr.fHi,.int .u64 y.fEnd.fAddr.fLo,.int .i64 y.fEnd.fPort,.int .i64 y.fState,.int .i64 y.fFails,.int .i64 y.fNext]);binOp .neq 113 (.agg #[.bool x.fEnd.fAddr.fV6,.int .u64 x.fEnd.fAddr.fHi,.int .u64 x.fEnd.fAddr.fLo,.int .i64 x.fEnd.fPort,.int .i64 x.fState,.int .i64 x.fFails,.int .i64 x.fNext]) (.agg #[.bool y.fEnd.fAddr.fV6,.int .u64 y.fEnd.fAddr.fHi,.int .u64 y.fEnd.fAddr.fLo,.int .i64 y.fEnd.fPort,.int .i64 y.fState,.int .i64 y.fFails,.int .i64 y.fNext]):Sem Value).run Tryz.prog w=.ok (.bool (!decide (x=y))) w:=by
 intro w;have hg:(eqGuard .neq 113 xo yo (.agg #[.bool x.fEnd.fAddr.fV6,.int .u64 x.fEnd.fAddr.fHi,.int .u64 x.fEnd.fAddr.fLo,.int .i64 x.fEnd.fPort,.int .i64 x.fState,.int .i64 x.fFails,.int .i64 x.fNext]) (.agg #[.bool y.fEnd.fAddr.fV6,.int .u64 y.fEnd.fAddr.fHi,.int .u64 y.fEnd.fAddr.fLo,.int .i64 y.fEnd.fPort,.int .i64 y.fState,.int .i64 y.fFails,.int .i64 y.fNext])).run Tryz.prog w=.ok () w:=by simp[eqGuard,Sem.run_bind,Tryz.eqGuardType113]
 rw[Sem.run_bind,hg,Result.andThen_ok,run_neq_struct];exact congrArg (fun r:Result Bool=>r.andThen fun b w'=>Result.ok (Value.bool (!b)) w') (Zut 9994 x y w)
theorem Zix(a b:Zaj)(h:(fun k:Zaj=>(.agg #[.bool k.fAddr.fV6,.int .u64 k.fAddr.fHi,.int .u64 k.fAddr.fLo,.int .i64 k.fBits]:Value)) a=(fun k:Zaj=>(.agg #[.bool k.fAddr.fV6,.int .u64 k.fAddr.fHi,.int .u64 k.fAddr.fLo,.int .i64 k.fBits]:Value)) b):a=b:=by
 obtain⟨⟨d,e,f⟩,g⟩:=a;obtain⟨⟨y5,y6,y7⟩,y8⟩:=b;simp only[Value.agg.injEq]at h;have:=congrArg Array.toList h;simp at this;simp_all
theorem Zud(e:Bool)(n:Nat)(k:Zaj)(w:World):(Instr.checkKey e (n+5) 32 (.agg #[.bool k.fAddr.fV6,.int .u64 k.fAddr.fHi,.int .u64 k.fAddr.fLo,.int .i64 k.fBits])).run Tryz.prog w=.ok () w:=by kernel_rfl
theorem Zkr{ν:Type}{vv:ν->V}(k:Zaj)(l:List (Zaj×ν)):ZmY Tryz.prog 32 (.agg #[.bool k.fAddr.fV6,.int .u64 k.fAddr.fHi,.int .u64 k.fAddr.fLo,.int .i64 k.fBits]) ((encM (fun k=>.agg #[.bool k.fAddr.fV6,.int .u64 k.fAddr.fHi,.int .u64 k.fAddr.fLo,.int .i64 k.fBits]) vv l).map (·.1)):=
 ZzG (kv:=fun k:Zaj=>.agg #[.bool k.fAddr.fV6,.int .u64 k.fAddr.fHi,.int .u64 k.fAddr.fLo,.int .i64 k.fBits]) Tryz.underlying32 (fun a=>⟨_,rfl⟩) 5 (by decide) Zud (fun n a b w=>by have:=ZlC (n+1) a b w;simpa[Nat.add_assoc]using this) Zix (fun k=>by simp[Instr.sameBits]) k l
def Zbq(b d e:Int):Option Bool:=bif(decide (b>=d))then some (decide (b<=e))else some false
theorem Zba(e f g:Int)(r:Bool)(b:Zbq e f g=some r):Yo 43 [Yj e,Yj f,Yj g] (Yk r):=by
 refine Yu Tryz.func43 fun S0 w0=>?_;unfold Zbq at b;obtain⟨d,b⟩|⟨d,b⟩:=Zae b
 .apply Ya b 4 [rz,rB [(3,true)]] [] (lR d)
 .apply Ya b 4 [rz,rB [(3,false)]] [] (lR d)
def Zda(d:Bool)(b:Zav)(e:Bool):Option Bool:=(Zbq b.fHalf (1:Int) (1073741824:Int)).bind fun f=>bif f then(Zbq b.fLimit (1:Int) (10000:Int)).bind fun g=>bif g then(Zbq b.fBanFor (1:Int) (1073741824:Int)).bind fun h=>bif h then(Zbq b.fBase (1:Int) (1073741824:Int)).bind fun i=>bif i then(Zbq b.fCap b.fBase (1073741824:Int)).bind fun j=>bif j then(Zbq b.fJitter (0:Int) (1073741824:Int)).bind fun n=>bif d then bif e then bif n then some (decide (b.fSecret<=(9223372036854775807:Int)))else some false else some false else some false else bif d then bif e then some false else some false else some false else bif d then bif e then some false else some false else some false else bif d then bif e then some false else some false else some false else bif d then bif e then some false else some false else some false else bif d then bif e then some false else some false else some false
theorem Zfg(Z:Bool)(d:Zav)(v4 r:Bool)(b:Zda Z d v4=some r):Yq 93 S0 w0 Tryz.f9 (Yk r) [1,1,1] ⟨[(1,.one (.ptr 1 0)),(3,(Yk Z)),(4,(Yk v4))],[(1,.box (Zav.c d))]⟩:=by
 unfold Zda at b;obtain⟨e,J,b⟩:=Zad b;obtain⟨B,b⟩|⟨B,b⟩:=Zae b
 .obtain⟨f,M,b⟩:=Zad b;have O1:=(lT (Zba _ _ _ _ J) B (Zba _ _ _ _ M));obtain⟨g,b⟩|⟨g,b⟩:=Zae b
  .obtain⟨p,O,b⟩:=Zad b;have O2:=(l9 O1 g (Zba _ _ _ _ O));obtain⟨h,b⟩|⟨h,b⟩:=Zae b
   .obtain⟨C,R,b⟩:=Zad b;have O3:=(l9 O2 h (Zba _ _ _ _ R));obtain⟨i,b⟩|⟨i,b⟩:=Zae b
    .obtain⟨L,U,b⟩:=Zad b;have O4:=(l9 O3 i (Zba _ _ _ _ U));obtain⟨j,b⟩|⟨j,b⟩:=Zae b
     .obtain⟨V,W,b⟩:=Zad b
      let R5:List RA:=[⟨[(2,aB e),(6,aB f),(11,aB p),(16,aB C),(23,aB L),(28,aB V)],[(3,true),(8,true),(13,true),(18,true),(25,true)],[],[],[],[],[]⟩]
      have O6:=(l9 O4 j (Zba _ _ _ _ W));obtain⟨o,b⟩|⟨o,b⟩:=Zae b
      .obtain⟨t,b⟩|⟨t,b⟩:=Zae b
       .obtain⟨D,b⟩|⟨D,b⟩:=Zae b
        .apply Ya b 4 (R5++[rB [(1,true),(4,true),(7,true)]]) [] (ma O6 o t D)
        .apply Ya b 4 (R5++[rB [(1,true),(4,true),(7,false)]]) [] (ma O6 o t D)
       .apply Ya b 4 (R5++[rB [(1,true),(4,false)]]) [] (l9 O6 o t)
      .apply Ya b 4 (R5++[rB [(1,false)]]) [] (l8 O6 o)
     .let R7:List RA:=[⟨[(2,aB e),(6,aB f),(11,aB p),(16,aB C),(23,aB L)],[(3,true),(8,true),(13,true),(18,true),(25,false)],[],[],[],[],[]⟩]
      obtain⟨u,b⟩|⟨u,b⟩:=Zae b
      .obtain⟨E,b⟩|⟨E,b⟩:=Zae b
       .apply Ya b 4 (R7++[rB [(1,true),(4,true)]]) [] (ma O4 j u E)
       .apply Ya b 4 (R7++[rB [(1,true),(4,false)]]) [] (ma O4 j u E)
      .apply Ya b 4 (R7++[rB [(1,false)]]) [] (l9 O4 j u)
    .let R8:List RA:=[⟨[(2,aB e),(6,aB f),(11,aB p),(16,aB C)],[(3,true),(8,true),(13,true),(18,false)],[],[],[],[],[]⟩]
     obtain⟨v,b⟩|⟨v,b⟩:=Zae b
     .obtain⟨F,b⟩|⟨F,b⟩:=Zae b
      .apply Ya b 4 (R8++[rB [(1,true),(4,true)]]) [] (ma O3 i v F)
      .apply Ya b 4 (R8++[rB [(1,true),(4,false)]]) [] (ma O3 i v F)
     .apply Ya b 4 (R8++[rB [(1,false)]]) [] (l9 O3 i v)
   .let R9:List RA:=[⟨[(2,aB e),(6,aB f),(11,aB p)],[(3,true),(8,true),(13,false)],[],[],[],[],[]⟩]
    obtain⟨y,b⟩|⟨y,b⟩:=Zae b
    .obtain⟨G,b⟩|⟨G,b⟩:=Zae b
     .apply Ya b 4 (R9++[rB [(1,true),(4,true)]]) [] (ma O2 h y G)
     .apply Ya b 4 (R9++[rB [(1,true),(4,false)]]) [] (ma O2 h y G)
    .apply Ya b 4 (R9++[rB [(1,false)]]) [] (l9 O2 h y)
  .let lj:List RA:=[⟨[(2,aB e),(6,aB f)],[(3,true),(8,false)],[],[],[],[],[]⟩]
   obtain⟨z,b⟩|⟨z,b⟩:=Zae b
   .obtain⟨H,b⟩|⟨H,b⟩:=Zae b
    .apply Ya b 4 (lj++[rB [(1,true),(4,true)]]) [] (ma O1 g z H)
    .apply Ya b 4 (lj++[rB [(1,true),(4,false)]]) [] (ma O1 g z H)
   .apply Ya b 4 (lj++[rB [(1,false)]]) [] (l9 O1 g z)
 .let d8:List RA:=[⟨[(2,aB e)],[(3,false)],[],[],[],[],[]⟩]
  have d9:=(lS (Zba _ _ _ _ J) B);obtain⟨A,b⟩|⟨A,b⟩:=Zae b
  .obtain⟨I,b⟩|⟨I,b⟩:=Zae b
   .apply Ya b 4 (d8++[rB [(1,true),(4,true)]]) [] (l9 d9 A I)
   .apply Ya b 4 (d8++[rB [(1,true),(4,false)]]) [] (l9 d9 A I)
  .apply Ya b 4 (d8++[rB [(1,false)]]) [] (l8 d9 A)
def Zcz(d:Bool)(b:Zav):Option Bool:=(Zbq b.fQuota.fGroup (0:Int) (64:Int)).bind fun e=>bif e then(Zbq b.fQuota.fPing (0:Int) (64:Int)).bind fun f=>bif f then(Zbq b.fQuota.fWork (0:Int) (64:Int)).bind fun g=>bif g then(Zbq b.fQuota.fTime (0:Int) (64:Int)).bind fun h=>Zda d b h else Zda d b false else Zda d b false else Zda d b false
theorem ZdP(h:Bool)(d:Zav)(r:Bool)(b:Zcz h d=some r):Yq 93 S0 w0 Tryz.f9 (Yk r) [1,1] ⟨[(1,.one (.ptr 1 0)),(3,(Yk h))],[(1,.box (Zav.c d))]⟩:=by
 unfold Zcz at b;obtain⟨j,i,b⟩:=Zad b;obtain⟨e,b⟩|⟨e,b⟩:=Zae b
 .obtain⟨o,p,b⟩:=Zad b;have f4:=(lT (Zba _ _ _ _ i) e (Zba _ _ _ _ p));obtain⟨f,b⟩|⟨f,b⟩:=Zae b
  .obtain⟨v,t,b⟩:=Zad b;have f5:=(l9 f4 f (Zba _ _ _ _ t));obtain⟨g,b⟩|⟨g,b⟩:=Zae b
   .obtain⟨y,u,b⟩:=Zad b;exact Ye 2 [⟨[(3,aB j),(8,aB o),(14,aB v),(20,aB y)],[(4,true),(10,true),(16,true)],[],[],[],[],[]⟩] [] (lI [1,3,4] [1]) (l9 f5 g (Zba _ _ _ _ u)) (Zfg S0 w0 h d y r b)
   .exact Ye 2 [⟨[(3,aB j),(8,aB o),(14,aB v)],[(4,true),(10,true),(16,false)],[],[],[],[],[]⟩] [] (lI [1,3,4] [1]) (l8 f5 g) (Zfg S0 w0 h d false r b)
  .exact Ye 2 [⟨[(3,aB j),(8,aB o)],[(4,true),(10,false)],[],[],[],[],[]⟩] [] (lI [1,3,4] [1]) (l8 f4 f) (Zfg S0 w0 h d false r b)
 .exact Ye 2 [⟨[(3,aB j)],[(4,false)],[],[],[],[],[]⟩] [] (lI [1,3,4] [1]) (lS (Zba _ _ _ _ i) e) (Zfg S0 w0 h d false r b)
def Zgk(b:Zav):Option Bool:=(Zbq b.fMaxIn (0:Int) (65535:Int)).bind fun d=>bif d then(Zbq b.fMaxOut (0:Int) (65535:Int)).bind fun e=>bif e then(Zbq b.fShards (1:Int) (8:Int)).bind fun f=>bif f then(Zbq b.fMaxBans (0:Int) (1024:Int)).bind fun g=>bif g then(Zbq b.fMaxBook (0:Int) (1024:Int)).bind fun h=>Zcz h b else Zcz false b else Zcz false b else Zcz false b else Zcz false b
theorem Zpk(d:Zav)(r:Bool)(b:Zgk d=some r):Yo 9 [.agg (Zav.c d)] (Yk r):=by
 refine Yu Tryz.func9 fun S0 w0=>?_;unfold Zgk at b;obtain⟨e,p,b⟩:=Zad b;obtain⟨g,b⟩|⟨g,b⟩:=Zae b
 .obtain⟨f,v,b⟩:=Zad b;have fE:=(lT (Zba _ _ _ _ p) g (Zba _ _ _ _ v));obtain⟨h,b⟩|⟨h,b⟩:=Zae b
  .obtain⟨i,y,b⟩:=Zad b;have iD:=(l9 fE h (Zba _ _ _ _ y));obtain⟨j,b⟩|⟨j,b⟩:=Zae b
   .obtain⟨t,z,b⟩:=Zad b;have jk:=(l9 iD j (Zba _ _ _ _ z));obtain⟨o,b⟩|⟨o,b⟩:=Zae b
    .obtain⟨u,A,b⟩:=Zad b;exact Ye 4 [rz,⟨[(2,aB e),(6,aB f),(11,aB i),(16,aB t),(21,aB u)],[(3,true),(8,true),(13,true),(18,true)],[],[],[],[],[]⟩] [] (lI [1,3] [1]) (l9 jk o (Zba _ _ _ _ A)) (ZdP S0 w0 u d r b)
    .exact Ye 4 [rz,⟨[(2,aB e),(6,aB f),(11,aB i),(16,aB t)],[(3,true),(8,true),(13,true),(18,false)],[],[],[],[],[]⟩] [] (lI [1,3] [1]) (l8 jk o) (ZdP S0 w0 false d r b)
   .exact Ye 4 [rz,⟨[(2,aB e),(6,aB f),(11,aB i)],[(3,true),(8,true),(13,false)],[],[],[],[],[]⟩] [] (lI [1,3] [1]) (l8 iD j) (ZdP S0 w0 false d r b)
  .exact Ye 4 [rz,⟨[(2,aB e),(6,aB f)],[(3,true),(8,false)],[],[],[],[],[]⟩] [] (lI [1,3] [1]) (l8 fE h) (ZdP S0 w0 false d r b)
 .exact Ye 4 [rz,⟨[(2,aB e)],[(3,false)],[],[],[],[],[]⟩] [] (lI [1,3] [1]) (lS (Zba _ _ _ _ p) g) (ZdP S0 w0 false d r b)
def ZjE:Option Zav:=some (Zav.mk 8 4 4 64 64 1 (Zax.mk 1 1 1 1) 100 100 1000 2 64 4)
theorem Zpl(r:Zav)(b:ZjE=some r):Yo 44 [] (.agg (Zav.c r)):=by
 refine Yu Tryz.func44 fun S0 w0=>?_;unfold ZjE at b;apply Ya b 4 [rz,rz] [] .n
def Znw:Option (ByteArray×ByteArray×ByteArray×ByteArray×ByteArray×ByteArray×ByteArray×ByteArray×ByteArray×ByteArray×ByteArray×ByteArray×ByteArray×ByteArray):=some ((⟨#[]⟩ : ByteArray),(⟨#[97,99,99,101,112,116]⟩ : ByteArray),(⟨#[108,101,97,118,101]⟩ : ByteArray),(⟨#[100,105,97,108]⟩ : ByteArray),(⟨#[114,101,115,117,108,116]⟩ : ByteArray),(⟨#[98,108,97,109,101]⟩ : ByteArray),(⟨#[98,97,110]⟩ : ByteArray),(⟨#[117,110,98,97,110]⟩ : ByteArray),(⟨#[98,97,110,110,101,100]⟩ : ByteArray),(⟨#[116,105,99,107]⟩ : ByteArray),(⟨#[108,105,115,116]⟩ : ByteArray),(⟨#[112,111,110,103]⟩ : ByteArray),(⟨#[119,111,114,107]⟩ : ByteArray),(⟨#[108,101,97,114,110]⟩ : ByteArray))
theorem ZvL(r:(ByteArray×ByteArray×ByteArray×ByteArray×ByteArray×ByteArray×ByteArray×ByteArray×ByteArray×ByteArray×ByteArray×ByteArray×ByteArray×ByteArray))(b:Znw=some r):Yo 218 [] (.agg ((cP cS (cP cS (cP cS (cP cS (cP cS (cP cS (cP cS (cP cS (cP cS (cP cS (cP cS (cP cS (cP cS cS))))))))))))) r)):=by
 refine Yu Tryz.func218 fun S0 w0=>?_;unfold Znw at b;apply Ya b 4 [rz,rz] [] .n
def ZsI(d:List ByteArray)(b:Int):Option ByteArray:=bif(decide (b<(0:Int)))then some (⟨#[]⟩ : ByteArray)else bif(decide (b>=(d.length:Int)))then some (⟨#[]⟩ : ByteArray)else need (0<=b/\b<(d.length:Int))<|some (d.getD b.toNat ByteArray.empty)
theorem ZzU(f:List ByteArray)(g:Int)(r:ByteArray)(b:ZsI f g=some r):Yo 219 [.one (cL 1 cS ByteArray.empty f),Yj g] (.one (.lit (.string r))):=by
 refine Yu Tryz.func219 fun S0 w0=>?_;unfold ZsI at b;obtain⟨d,b⟩|⟨d,b⟩:=Zae b
 .apply Ya b 8 [rz,rB [(2,true)],rz] [true] (lS d (mo true))
 .obtain⟨e,b⟩|⟨e,b⟩:=Zae b
  .apply Ya b 8 [rz,rB [(2,false)],rz] [true] (lS d e)
  .obtain⟨h,b⟩:=Zap b;apply Ya b 9 [rz,rB [(2,false)],rz] [false] (lT d e h)
def ZmQ(d:Int):Option ByteArray:=(Znw).bind fun b=>(ZsI ([b.1,b.2.1,b.2.2.1,b.2.2.2.1,b.2.2.2.2.1,b.2.2.2.2.2.1,b.2.2.2.2.2.2.1,b.2.2.2.2.2.2.2.1,b.2.2.2.2.2.2.2.2.1,b.2.2.2.2.2.2.2.2.2.1,b.2.2.2.2.2.2.2.2.2.2.1,b.2.2.2.2.2.2.2.2.2.2.2.1,b.2.2.2.2.2.2.2.2.2.2.2.2.1,b.2.2.2.2.2.2.2.2.2.2.2.2.2]:List ByteArray) d).bind fun e=>some e
theorem Zrv(e:Int)(r:ByteArray)(d:ZmQ e=some r):Yo 156 [Yj e] (.one (.lit (.string r))):=by
 refine Yu Tryz.func156 fun S0 w0=>?_;unfold ZmQ at d;obtain⟨b,f,g,h,d⟩:=Yt d;apply Ya d 6 [rz,rA [(0,aG ((cP cS (cP cS (cP cS (cP cS (cP cS (cP cS (cP cS (cP cS (cP cS (cP cS (cP cS (cP cS (cP cS cS))))))))))))) b))],⟨[(2,.r (.one (.lit (.string f))) [])],[],[(0,[3])],[],[],[(0,(([b.1,b.2.1,b.2.2.1,b.2.2.2.1,b.2.2.2.2.1,b.2.2.2.2.2.1,b.2.2.2.2.2.2.1,b.2.2.2.2.2.2.2.1,b.2.2.2.2.2.2.2.2.1,b.2.2.2.2.2.2.2.2.2.1,b.2.2.2.2.2.2.2.2.2.2.1,b.2.2.2.2.2.2.2.2.2.2.2.1,b.2.2.2.2.2.2.2.2.2.2.2.2.1,b.2.2.2.2.2.2.2.2.2.2.2.2.2]:List ByteArray).length,Zal cS ByteArray.empty ([b.1,b.2.1,b.2.2.1,b.2.2.2.1,b.2.2.2.2.1,b.2.2.2.2.2.1,b.2.2.2.2.2.2.1,b.2.2.2.2.2.2.2.1,b.2.2.2.2.2.2.2.2.1,b.2.2.2.2.2.2.2.2.2.1,b.2.2.2.2.2.2.2.2.2.2.1,b.2.2.2.2.2.2.2.2.2.2.2.1,b.2.2.2.2.2.2.2.2.2.2.2.2.1,b.2.2.2.2.2.2.2.2.2.2.2.2.2]:List ByteArray)))],[]⟩] [] (lT (ZvL _ g) (show ([b.1,b.2.1,b.2.2.1,b.2.2.2.1,b.2.2.2.2.1,b.2.2.2.2.2.1,b.2.2.2.2.2.2.1,b.2.2.2.2.2.2.2.1,b.2.2.2.2.2.2.2.2.1,b.2.2.2.2.2.2.2.2.2.1,b.2.2.2.2.2.2.2.2.2.2.1,b.2.2.2.2.2.2.2.2.2.2.2.1,b.2.2.2.2.2.2.2.2.2.2.2.2.1,b.2.2.2.2.2.2.2.2.2.2.2.2.2]:List ByteArray).length=14/\∀i j,i<14->j<1->Zal cS ByteArray.empty ([b.1,b.2.1,b.2.2.1,b.2.2.2.1,b.2.2.2.2.1,b.2.2.2.2.2.1,b.2.2.2.2.2.2.1,b.2.2.2.2.2.2.2.1,b.2.2.2.2.2.2.2.2.1,b.2.2.2.2.2.2.2.2.2.1,b.2.2.2.2.2.2.2.2.2.2.1,b.2.2.2.2.2.2.2.2.2.2.2.1,b.2.2.2.2.2.2.2.2.2.2.2.2.1,b.2.2.2.2.2.2.2.2.2.2.2.2.2]:List ByteArray) i j=([.lit (.string b.1),.lit (.string b.2.1),.lit (.string b.2.2.1),.lit (.string b.2.2.2.1),.lit (.string b.2.2.2.2.1),.lit (.string b.2.2.2.2.2.1),.lit (.string b.2.2.2.2.2.2.1),.lit (.string b.2.2.2.2.2.2.2.1),.lit (.string b.2.2.2.2.2.2.2.2.1),.lit (.string b.2.2.2.2.2.2.2.2.2.1),.lit (.string b.2.2.2.2.2.2.2.2.2.2.1),.lit (.string b.2.2.2.2.2.2.2.2.2.2.2.1),.lit (.string b.2.2.2.2.2.2.2.2.2.2.2.2.1),.lit (.string b.2.2.2.2.2.2.2.2.2.2.2.2.2)]:List C).getD (0+(i * 1+j)) .junk from⟨rfl,ZJa (sz:=1) cS ByteArray.empty ([b.1,b.2.1,b.2.2.1,b.2.2.2.1,b.2.2.2.2.1,b.2.2.2.2.2.1,b.2.2.2.2.2.2.1,b.2.2.2.2.2.2.2.1,b.2.2.2.2.2.2.2.2.1,b.2.2.2.2.2.2.2.2.2.1,b.2.2.2.2.2.2.2.2.2.2.1,b.2.2.2.2.2.2.2.2.2.2.2.1,b.2.2.2.2.2.2.2.2.2.2.2.2.1,b.2.2.2.2.2.2.2.2.2.2.2.2.2]:List ByteArray) [.lit (.string b.1),.lit (.string b.2.1),.lit (.string b.2.2.1),.lit (.string b.2.2.2.1),.lit (.string b.2.2.2.2.1),.lit (.string b.2.2.2.2.2.1),.lit (.string b.2.2.2.2.2.2.1),.lit (.string b.2.2.2.2.2.2.2.1),.lit (.string b.2.2.2.2.2.2.2.2.1),.lit (.string b.2.2.2.2.2.2.2.2.2.1),.lit (.string b.2.2.2.2.2.2.2.2.2.2.1),.lit (.string b.2.2.2.2.2.2.2.2.2.2.2.1),.lit (.string b.2.2.2.2.2.2.2.2.2.2.2.2.1),.lit (.string b.2.2.2.2.2.2.2.2.2.2.2.2.2)] (fun _=>rfl) rfl⟩) (ZzU _ _ _ h))
def ZkQ(b:Int)(d:Bool):Option (List Int):=bif d then some ([(3:Int)]:List Int)else bif(b==(4:Int))then some ([(0:Int),(5:Int),(3:Int),(4:Int)]:List Int)else bif(b==(5:Int))then some ([(0:Int),(4:Int),(3:Int)]:List Int)else bif(b==(6:Int))then some ([(1:Int),(4:Int),(3:Int)]:List Int)else bif(b==(7:Int))then some ([(1:Int)]:List Int)else bif(b==(8:Int))then some ([(2:Int),(3:Int)]:List Int)else bif(b==(11:Int))then some ([(0:Int),(4:Int)]:List Int)else some ([]:List Int)
theorem Zny(y:Int)(t:Bool)(r:List Int)(b:ZkQ y t=some r):Yr 34 S0 w0 Tryz.f157 [(lL 99999 234 1 lP (0:Int) r)] (.one (.osl 99999 r.length)) [1,0,1,0,1,1,1,1,1] ⟨[(3,(Yj y)),(12,(Yk t))],[]⟩:=by
 unfold ZkQ at b;obtain⟨f,b⟩|⟨f,b⟩:=Zae b
 .apply Yc b 3 [rA [(0,.c ([(3:Int)]:List Int).length (Zal lP (0:Int) ([(3:Int)]:List Int)))]] [true] (lK [2] [15] [(15,99999)]) (lT f (show ([(3:Int)]:List Int).length=1 from rfl) (mq (e:=lP) (0:Int) 1 (fun _=>rfl) ([(3:Int)]:List Int)))
 .obtain⟨g,b⟩|⟨g,b⟩:=Zae b
  .apply Yc b 6 [rz,rA [(0,.c ([(0:Int),(5:Int),(3:Int),(4:Int)]:List Int).length (Zal lP (0:Int) ([(0:Int),(5:Int),(3:Int),(4:Int)]:List Int)))]] [false,true] (lK [2] [18] [(18,99999)]) (lU f g (show ([(0:Int),(5:Int),(3:Int),(4:Int)]:List Int).length=4 from rfl) (mq (e:=lP) (0:Int) 1 (fun _=>rfl) ([(0:Int),(5:Int),(3:Int),(4:Int)]:List Int)))
  .obtain⟨p,b⟩|⟨p,b⟩:=Zae b
   .apply Yc b 9 [rz,rz,rA [(0,.c ([(0:Int),(4:Int),(3:Int)]:List Int).length (Zal lP (0:Int) ([(0:Int),(4:Int),(3:Int)]:List Int)))]] [false,false,true] (lK [2] [21] [(21,99999)]) (lV f g p (show ([(0:Int),(4:Int),(3:Int)]:List Int).length=3 from rfl) (mq (e:=lP) (0:Int) 1 (fun _=>rfl) ([(0:Int),(4:Int),(3:Int)]:List Int)))
   .obtain⟨u,b⟩|⟨u,b⟩:=Zae b
    .apply Yc b 12 [rz,rz,rz,rA [(0,.c ([(1:Int),(4:Int),(3:Int)]:List Int).length (Zal lP (0:Int) ([(1:Int),(4:Int),(3:Int)]:List Int)))]] [false,false,false,true] (lK [2] [24] [(24,99999)]) (lW f g p u (show ([(1:Int),(4:Int),(3:Int)]:List Int).length=3 from rfl) (mq (e:=lP) (0:Int) 1 (fun _=>rfl) ([(1:Int),(4:Int),(3:Int)]:List Int)))
    .obtain⟨v,b⟩|⟨v,b⟩:=Zae b
     .apply Yc b 15 [rz,rz,rz,rz,rA [(0,.c ([(1:Int)]:List Int).length (Zal lP (0:Int) ([(1:Int)]:List Int)))]] [false,false,false,false,true] (lK [2] [27] [(27,99999)]) (lX f g p u v (show ([(1:Int)]:List Int).length=1 from rfl) (mq (e:=lP) (0:Int) 1 (fun _=>rfl) ([(1:Int)]:List Int)))
     .obtain⟨h,b⟩|⟨h,b⟩:=Zae b
      .apply Yc b 18 [rz,rz,rz,rz,rz,rA [(0,.c ([(2:Int),(3:Int)]:List Int).length (Zal lP (0:Int) ([(2:Int),(3:Int)]:List Int)))]] [false,false,false,false,false,true] (lK [2] [30] [(30,99999)]) (lY f g p u v h (show ([(2:Int),(3:Int)]:List Int).length=2 from rfl) (mq (e:=lP) (0:Int) 1 (fun _=>rfl) ([(2:Int),(3:Int)]:List Int)))
      .have O1:=(lW f g p u v h);obtain⟨o,b⟩|⟨o,b⟩:=Zae b
       .apply Yc b 21 [rz,rz,rz,rz,rz,rz,rA [(0,.c ([(0:Int),(4:Int)]:List Int).length (Zal lP (0:Int) ([(0:Int),(4:Int)]:List Int)))]] [false,false,false,false,false,false,true] (lK [2] [33] [(33,99999)]) (ma O1 o (show ([(0:Int),(4:Int)]:List Int).length=2 from rfl) (mq (e:=lP) (0:Int) 1 (fun _=>rfl) ([(0:Int),(4:Int)]:List Int)))
       .apply Yc b 23 [rz,rz,rz,rz,rz,rz,rz] [false,false,false,false,false,false,false] ⟨[],[],[],[],[(2,99999,234,1,Zal lP (0:Int) [])],[2],[99999],[]⟩ (l8 O1 o)
def Zji(b:Int)(d:Bool):Option (List Int):=bif d then some ([(0:Int),(3:Int)]:List Int)else bif(b==(2:Int))then some ([(0:Int)]:List Int)else bif(b==(3:Int))then ZkQ b (b==(3:Int))else ZkQ b (b==(9:Int))
theorem ZkR(f:Int)(p:Bool)(r:List Int)(b:Zji f p=some r):Yr 34 S0 w0 Tryz.f157 [(lL 99999 234 1 lP (0:Int) r)] (.one (.osl 99999 r.length)) [1,0,1,0,1] ⟨[(3,(Yj f)),(4,(Yk p))],[]⟩:=by
 unfold Zji at b;obtain⟨g,b⟩|⟨g,b⟩:=Zae b
 .apply Yc b 3 [rA [(0,.c ([(0:Int),(3:Int)]:List Int).length (Zal lP (0:Int) ([(0:Int),(3:Int)]:List Int)))]] [true] (lK [2] [8] [(8,99999)]) (lT g (show ([(0:Int),(3:Int)]:List Int).length=2 from rfl) (mq (e:=lP) (0:Int) 1 (fun _=>rfl) ([(0:Int),(3:Int)]:List Int)))
 .obtain⟨h,b⟩|⟨h,b⟩:=Zae b
  .apply Yc b 6 [rz,rA [(0,.c ([(0:Int)]:List Int).length (Zal lP (0:Int) ([(0:Int)]:List Int)))]] [false,true] (lK [2] [11] [(11,99999)]) (lU g h (show ([(0:Int)]:List Int).length=1 from rfl) (mq (e:=lP) (0:Int) 1 (fun _=>rfl) ([(0:Int)]:List Int)))
  .obtain⟨o,b⟩|⟨o,b⟩:=Zae b
   .exact Ye 9 [rz,rz] [false,false,true] (Yi [3,12]) (lT g h o) (Zny S0 w0 f (f==(3:Int)) r b)
   .exact Ye 9 [rz,rz,rz] [false,false,false] (Yi [3,12]) (lT g h o) (Zny S0 w0 f (f==(9:Int)) r b)
def Zkh(b:Int):Option (List Int):=bif(b==(1:Int))then Zji b (b==(1:Int))else bif(b==(12:Int))then Zji b (b==(12:Int))else Zji b (b==(13:Int))
theorem Zuo(d:Int)(r:List Int)(b:Zkh d=some r):Yp 157 [] [Yj d] [(lL 99999 234 1 lP (0:Int) r)] (.one (.osl 99999 r.length)):=by
 refine Yv Tryz.func157 fun S0 w0=>?_;unfold Zkh at b;obtain⟨e,b⟩|⟨e,b⟩:=Zae b
 .exact Ye 11 [rz,rz,rz] [true] (Yi [3,4]) (lR e) (ZkR S0 w0 d (d==(1:Int)) r b)
 .obtain⟨f,b⟩|⟨f,b⟩:=Zae b
  .exact Ye 14 [rz,rz,rz,rz] [false,true] (Yi [3,4]) (lS e f) (ZkR S0 w0 d (d==(12:Int)) r b)
  .exact Ye 14 [rz,rz,rz,rz,rz] [false,false] (Yi [3,4]) (lS e f) (ZkR S0 w0 d (d==(13:Int)) r b)
theorem ZvN(b:Int)(r:List Int)(d:Zkh b=some r):Yo 157 [Yj b] (.one (cL 1 lP (0:Int) r)):=(Zuo b r d).pure
def ZoJ(b:Int):Option Zaf:=some (Zaf.mk false 0 (IntKind.wrap .u64 b))
theorem ZtY(b:Int)(r:Zaf)(d:ZoJ b=some r):Yo 295 [.one (.lit (.int .u32 b))] (.agg (Zaf.c r)):=by
 refine Yu Tryz.func295 fun S0 w0=>?_;unfold ZoJ at d;apply Ya d 4 [rz,rz] [] .n
def ZsR(d b:Int):Option Zaf:=bif(d==(0:Int))then bif((Int.fdiv b (2 ^ (min (32:Int).toNat (IntKind.bits .u64))))==(65535:Int))then(ZoJ (IntKind.wrap .u32 (IntKind.wrap .u64 (((BitVec.ofInt (IntKind.bits .u64) b) &&& (BitVec.ofInt (IntKind.bits .u64) (4294967295:Int))).toNat:Int)))).bind fun e=>some e else some (Zaf.mk true d b)else some (Zaf.mk true d b)
theorem ZzV(f g:Int)(r:Zaf)(b:ZsR f g=some r):Yo 294 [.one (.lit (.int .u64 f)),.one (.lit (.int .u64 g))] (.agg (Zaf.c r)):=by
 refine Yu Tryz.func294 fun S0 w0=>?_;unfold ZsR at b;obtain⟨d,b⟩|⟨d,b⟩:=Zae b
 .have O1:=(lS d (mr (32:Int) rfl));obtain⟨e,b⟩|⟨e,b⟩:=Zae b
  .obtain⟨h,i,b⟩:=Zad b;apply Ya b 8 [rz,rB [(2,true)],rA [(3,aG (Zaf.c h))]] [true] (l9 O1 e (ZtY _ _ i))
  .apply Ya b 9 [rz,rB [(2,true)],rz] [false] (l8 O1 e)
 .apply Ya b 9 [rz,rB [(2,false)],rz] [false] (lS d (mo false))
def Zfe(b:Zaf):Option Bool:=bif b.fV6 then(ZsR b.fHi b.fLo).bind fun d=>some (decide (d=b))else(ZoJ (IntKind.wrap .u32 (IntKind.wrap .u64 (((BitVec.ofInt (IntKind.bits .u64) b.fLo) &&& (BitVec.ofInt (IntKind.bits .u64) (4294967295:Int))).toNat:Int)))).bind fun e=>some (decide (e=b))
theorem ZcN(d:Zaf)(r:Bool)(b:Zfe d=some r):Yo 221 [.agg (Zaf.c d)] (Yk r):=by
 refine Yu Tryz.func221 fun S0 w0=>?_;unfold Zfe at b;obtain⟨e,b⟩|⟨e,b⟩:=Zae b
 .obtain⟨f,h,b⟩:=Zad b;apply Ya b 8 [rz,rz,rA [(4,aG (Zaf.c f)),(6,aB (decide (f=d)))]] [true] (lT e (ZzV _ _ _ h) (ZlB f d (.tmp 9) (.tmp 10)))
 .obtain⟨g,i,b⟩:=Zad b;apply Ya b 9 [rz,rz,rA [(4,aG (Zaf.c g)),(6,aB (decide (g=d)))]] [false] (lT e (ZtY _ _ i) (ZlB g d (.tmp 16) (.tmp 17)))
def Zic(b:Zai):Option Bool:=(Zfe b.fAddr).bind fun d=>bif d then bif(decide (b.fPort>=(1:Int)))then some (decide (b.fPort<=(65535:Int)))else some false else some false
theorem ZgF(h:Zai)(r:Bool)(b:Zic h=some r):Yo 189 [.agg (Zai.c h)] (Yk r):=by
 refine Yu Tryz.func189 fun S0 w0=>?_;unfold Zic at b;obtain⟨e,f,b⟩:=Zad b;obtain⟨d,b⟩|⟨d,b⟩:=Zae b
 .obtain⟨g,b⟩|⟨g,b⟩:=Zae b
  .apply Ya b 4 [rz,⟨[(2,aB e)],[(3,true),(8,true)],[],[],[],[],[]⟩] [] (lT (ZcN _ _ f) d g)
  .apply Ya b 4 [rz,⟨[(2,aB e)],[(3,true),(8,false)],[],[],[],[],[]⟩] [] (lT (ZcN _ _ f) d g)
 .apply Ya b 4 [rz,⟨[(2,aB e)],[(3,false)],[],[],[],[],[]⟩] [] (lS (ZcN _ _ f) d)
def Zeq(b:Zaf):Option Int:=bif b.fV6 then some (128:Int)else some (32:Int)
theorem ZiI(e:Zaf)(r:Int)(b:Zeq e=some r):Yo 306 [.agg (Zaf.c e)] (Yj r):=by
 refine Yu Tryz.func306 fun S0 w0=>?_;unfold Zeq at b;obtain⟨d,b⟩|⟨d,b⟩:=Zae b
 .apply Ya b 8 [rz,rz,rz] [true] (lR d)
 .apply Ya b 9 [rz,rz,rz] [false] (lR d)
def ZgY(b:Int):Option Int:=some (IntKind.wrap .u64 (((BitVec.ofInt (IntKind.bits .u64) (Int.fdiv (IntKind.wrap .u64 (((BitVec.ofInt (IntKind.bits .u64) (IntKind.wrap .u64 (((BitVec.ofInt (IntKind.bits .u64) (Int.fdiv (IntKind.wrap .u64 (((BitVec.ofInt (IntKind.bits .u64) (IntKind.wrap .u64 (((BitVec.ofInt (IntKind.bits .u64) (Int.fdiv b (2 ^ (min (8:Int).toNat (IntKind.bits .u64))))) &&& (BitVec.ofInt (IntKind.bits .u64) (71777214294589695:Int))).toNat:Int))) ||| (BitVec.ofInt (IntKind.bits .u64) (IntKind.wrap .u64 ((IntKind.wrap .u64 (((BitVec.ofInt (IntKind.bits .u64) b) &&& (BitVec.ofInt (IntKind.bits .u64) (71777214294589695:Int))).toNat:Int)) * 2 ^ (min (8:Int).toNat (IntKind.bits .u64)))))).toNat:Int)) (2 ^ (min (16:Int).toNat (IntKind.bits .u64))))) &&& (BitVec.ofInt (IntKind.bits .u64) (281470681808895:Int))).toNat:Int))) ||| (BitVec.ofInt (IntKind.bits .u64) (IntKind.wrap .u64 ((IntKind.wrap .u64 (((BitVec.ofInt (IntKind.bits .u64) (IntKind.wrap .u64 (((BitVec.ofInt (IntKind.bits .u64) (IntKind.wrap .u64 (((BitVec.ofInt (IntKind.bits .u64) (Int.fdiv b (2 ^ (min (8:Int).toNat (IntKind.bits .u64))))) &&& (BitVec.ofInt (IntKind.bits .u64) (71777214294589695:Int))).toNat:Int))) ||| (BitVec.ofInt (IntKind.bits .u64) (IntKind.wrap .u64 ((IntKind.wrap .u64 (((BitVec.ofInt (IntKind.bits .u64) b) &&& (BitVec.ofInt (IntKind.bits .u64) (71777214294589695:Int))).toNat:Int)) * 2 ^ (min (8:Int).toNat (IntKind.bits .u64)))))).toNat:Int))) &&& (BitVec.ofInt (IntKind.bits .u64) (281470681808895:Int))).toNat:Int)) * 2 ^ (min (16:Int).toNat (IntKind.bits .u64)))))).toNat:Int)) (2 ^ (min (32:Int).toNat (IntKind.bits .u64))))) ||| (BitVec.ofInt (IntKind.bits .u64) (IntKind.wrap .u64 ((IntKind.wrap .u64 (((BitVec.ofInt (IntKind.bits .u64) (IntKind.wrap .u64 (((BitVec.ofInt (IntKind.bits .u64) (Int.fdiv (IntKind.wrap .u64 (((BitVec.ofInt (IntKind.bits .u64) (IntKind.wrap .u64 (((BitVec.ofInt (IntKind.bits .u64) (Int.fdiv b (2 ^ (min (8:Int).toNat (IntKind.bits .u64))))) &&& (BitVec.ofInt (IntKind.bits .u64) (71777214294589695:Int))).toNat:Int))) ||| (BitVec.ofInt (IntKind.bits .u64) (IntKind.wrap .u64 ((IntKind.wrap .u64 (((BitVec.ofInt (IntKind.bits .u64) b) &&& (BitVec.ofInt (IntKind.bits .u64) (71777214294589695:Int))).toNat:Int)) * 2 ^ (min (8:Int).toNat (IntKind.bits .u64)))))).toNat:Int)) (2 ^ (min (16:Int).toNat (IntKind.bits .u64))))) &&& (BitVec.ofInt (IntKind.bits .u64) (281470681808895:Int))).toNat:Int))) ||| (BitVec.ofInt (IntKind.bits .u64) (IntKind.wrap .u64 ((IntKind.wrap .u64 (((BitVec.ofInt (IntKind.bits .u64) (IntKind.wrap .u64 (((BitVec.ofInt (IntKind.bits .u64) (IntKind.wrap .u64 (((BitVec.ofInt (IntKind.bits .u64) (Int.fdiv b (2 ^ (min (8:Int).toNat (IntKind.bits .u64))))) &&& (BitVec.ofInt (IntKind.bits .u64) (71777214294589695:Int))).toNat:Int))) ||| (BitVec.ofInt (IntKind.bits .u64) (IntKind.wrap .u64 ((IntKind.wrap .u64 (((BitVec.ofInt (IntKind.bits .u64) b) &&& (BitVec.ofInt (IntKind.bits .u64) (71777214294589695:Int))).toNat:Int)) * 2 ^ (min (8:Int).toNat (IntKind.bits .u64)))))).toNat:Int))) &&& (BitVec.ofInt (IntKind.bits .u64) (281470681808895:Int))).toNat:Int)) * 2 ^ (min (16:Int).toNat (IntKind.bits .u64)))))).toNat:Int)) * 2 ^ (min (32:Int).toNat (IntKind.bits .u64)))))).toNat:Int))
theorem Zmb(b r:Int)(d:ZgY b=some r):Yo 399 [.one (.lit (.int .u64 b))] (.one (.lit (.int .u64 r))):=by
 refine Yu Tryz.func399 fun S0 w0=>?_;unfold ZgY at d;apply Ya d 8 [rz,rz,rz,rz] [] (lW (mr (8:Int) rfl) (mr (8:Int) rfl) (mr (16:Int) rfl) (mr (16:Int) rfl) (mr (32:Int) rfl) (mr (32:Int) rfl))
def Zjb(b:Int):Option Int:=(ZgY (IntKind.wrap .u64 (((BitVec.ofInt (IntKind.bits .u64) (IntKind.wrap .u64 (((BitVec.ofInt (IntKind.bits .u64) (Int.fdiv (IntKind.wrap .u64 (((BitVec.ofInt (IntKind.bits .u64) (IntKind.wrap .u64 (((BitVec.ofInt (IntKind.bits .u64) (Int.fdiv (IntKind.wrap .u64 (((BitVec.ofInt (IntKind.bits .u64) (IntKind.wrap .u64 (((BitVec.ofInt (IntKind.bits .u64) (Int.fdiv b (2 ^ (min (1:Int).toNat (IntKind.bits .u64))))) &&& (BitVec.ofInt (IntKind.bits .u64) (6148914691236517205:Int))).toNat:Int))) ||| (BitVec.ofInt (IntKind.bits .u64) (IntKind.wrap .u64 ((IntKind.wrap .u64 (((BitVec.ofInt (IntKind.bits .u64) b) &&& (BitVec.ofInt (IntKind.bits .u64) (6148914691236517205:Int))).toNat:Int)) * 2 ^ (min (1:Int).toNat (IntKind.bits .u64)))))).toNat:Int)) (2 ^ (min (2:Int).toNat (IntKind.bits .u64))))) &&& (BitVec.ofInt (IntKind.bits .u64) (3689348814741910323:Int))).toNat:Int))) ||| (BitVec.ofInt (IntKind.bits .u64) (IntKind.wrap .u64 ((IntKind.wrap .u64 (((BitVec.ofInt (IntKind.bits .u64) (IntKind.wrap .u64 (((BitVec.ofInt (IntKind.bits .u64) (IntKind.wrap .u64 (((BitVec.ofInt (IntKind.bits .u64) (Int.fdiv b (2 ^ (min (1:Int).toNat (IntKind.bits .u64))))) &&& (BitVec.ofInt (IntKind.bits .u64) (6148914691236517205:Int))).toNat:Int))) ||| (BitVec.ofInt (IntKind.bits .u64) (IntKind.wrap .u64 ((IntKind.wrap .u64 (((BitVec.ofInt (IntKind.bits .u64) b) &&& (BitVec.ofInt (IntKind.bits .u64) (6148914691236517205:Int))).toNat:Int)) * 2 ^ (min (1:Int).toNat (IntKind.bits .u64)))))).toNat:Int))) &&& (BitVec.ofInt (IntKind.bits .u64) (3689348814741910323:Int))).toNat:Int)) * 2 ^ (min (2:Int).toNat (IntKind.bits .u64)))))).toNat:Int)) (2 ^ (min (4:Int).toNat (IntKind.bits .u64))))) &&& (BitVec.ofInt (IntKind.bits .u64) (1085102592571150095:Int))).toNat:Int))) ||| (BitVec.ofInt (IntKind.bits .u64) (IntKind.wrap .u64 ((IntKind.wrap .u64 (((BitVec.ofInt (IntKind.bits .u64) (IntKind.wrap .u64 (((BitVec.ofInt (IntKind.bits .u64) (IntKind.wrap .u64 (((BitVec.ofInt (IntKind.bits .u64) (Int.fdiv (IntKind.wrap .u64 (((BitVec.ofInt (IntKind.bits .u64) (IntKind.wrap .u64 (((BitVec.ofInt (IntKind.bits .u64) (Int.fdiv b (2 ^ (min (1:Int).toNat (IntKind.bits .u64))))) &&& (BitVec.ofInt (IntKind.bits .u64) (6148914691236517205:Int))).toNat:Int))) ||| (BitVec.ofInt (IntKind.bits .u64) (IntKind.wrap .u64 ((IntKind.wrap .u64 (((BitVec.ofInt (IntKind.bits .u64) b) &&& (BitVec.ofInt (IntKind.bits .u64) (6148914691236517205:Int))).toNat:Int)) * 2 ^ (min (1:Int).toNat (IntKind.bits .u64)))))).toNat:Int)) (2 ^ (min (2:Int).toNat (IntKind.bits .u64))))) &&& (BitVec.ofInt (IntKind.bits .u64) (3689348814741910323:Int))).toNat:Int))) ||| (BitVec.ofInt (IntKind.bits .u64) (IntKind.wrap .u64 ((IntKind.wrap .u64 (((BitVec.ofInt (IntKind.bits .u64) (IntKind.wrap .u64 (((BitVec.ofInt (IntKind.bits .u64) (IntKind.wrap .u64 (((BitVec.ofInt (IntKind.bits .u64) (Int.fdiv b (2 ^ (min (1:Int).toNat (IntKind.bits .u64))))) &&& (BitVec.ofInt (IntKind.bits .u64) (6148914691236517205:Int))).toNat:Int))) ||| (BitVec.ofInt (IntKind.bits .u64) (IntKind.wrap .u64 ((IntKind.wrap .u64 (((BitVec.ofInt (IntKind.bits .u64) b) &&& (BitVec.ofInt (IntKind.bits .u64) (6148914691236517205:Int))).toNat:Int)) * 2 ^ (min (1:Int).toNat (IntKind.bits .u64)))))).toNat:Int))) &&& (BitVec.ofInt (IntKind.bits .u64) (3689348814741910323:Int))).toNat:Int)) * 2 ^ (min (2:Int).toNat (IntKind.bits .u64)))))).toNat:Int))) &&& (BitVec.ofInt (IntKind.bits .u64) (1085102592571150095:Int))).toNat:Int)) * 2 ^ (min (4:Int).toNat (IntKind.bits .u64)))))).toNat:Int))).bind fun d=>some d
theorem Zoo(d r:Int)(b:Zjb d=some r):Yo 378 [.one (.lit (.int .u64 d))] (.one (.lit (.int .u64 r))):=by
 refine Yu Tryz.func378 fun S0 w0=>?_;unfold Zjb at b;obtain⟨e,f,b⟩:=Zad b;apply Ya b 10 [rz,rz,rz,rz,rA [(1,.r (.one (.lit (.int .u64 e))) [])]] [] (lX (mr (1:Int) rfl) (mr (1:Int) rfl) (mr (2:Int) rfl) (mr (2:Int) rfl) (mr (4:Int) rfl) (mr (4:Int) rfl) (Zmb _ _ f))
def ZfB(b:Int):Option Int:=need (0<=(if(64:Int)<(if(0:Int)>b then(0:Int)else b)then(64:Int)else(if(0:Int)>b then(0:Int)else b)))<|(Zjb (IntKind.wrap .u64 ((IntKind.wrap .u64 ((1:Int) * 2 ^ (min (if(64:Int)<(if(0:Int)>b then(0:Int)else b)then(64:Int)else(if(0:Int)>b then(0:Int)else b)).toNat (IntKind.bits .u64))))-(1:Int)))).bind fun d=>some d
theorem Zpy(d r:Int)(b:ZfB d=some r):Yo 358 [Yj d] (.one (.lit (.int .u64 r))):=by
 refine Yu Tryz.func358 fun S0 w0=>?_;unfold ZfB at b;obtain⟨o1,b⟩:=Zap b;obtain⟨e,f,b⟩:=Zad b;apply Ya b 6 [rz,rz,rA [(3,.r (.one (.lit (.int .u64 e))) [])]] [] (lS o1 (Zoo _ _ f))
def ZkO(d e b:Int):Option (Int×Int):=(ZfB b).bind fun f=>(ZfB (ZaJ b (64:Int))).bind fun g=>some ((IntKind.wrap .u64 (((BitVec.ofInt (IntKind.bits .u64) d) &&& (BitVec.ofInt (IntKind.bits .u64) f)).toNat:Int)),(IntKind.wrap .u64 (((BitVec.ofInt (IntKind.bits .u64) e) &&& (BitVec.ofInt (IntKind.bits .u64) g)).toNat:Int)))
theorem Zun(d e f:Int)(r:(Int×Int))(b:ZkO d e f=some r):Yo 359 [.one (.lit (.int .u64 d)),.one (.lit (.int .u64 e)),Yj f] (.tup [(false,(cI .u64) r.1),(false,(cI .u64) r.2)]):=by
 refine Yu Tryz.func359 fun S0 w0=>?_;unfold ZkO at b;obtain⟨g,h,i,j,b⟩:=Yt b;apply Ya b 4 [rz,rA [(2,.r (.one (.lit (.int .u64 g))) []),(7,.r (.one (.lit (.int .u64 h))) [])]] [] (lS (Zpy _ _ i) (Zpy _ _ j))
def Ziv(b:Zaf)(d:Int):Option Zaf:=(Zfe b).bind fun g=>bif(!g)then some (Zaf.mk false 0 0)else(Zeq b).bind fun e=>bif(!b.fV6)then(ZfB (if e<(if(0:Int)>d then(0:Int)else d)then e else(if(0:Int)>d then(0:Int)else d))).bind fun h=>some (Zaf.mk b.fV6 b.fHi (IntKind.wrap .u64 (((BitVec.ofInt (IntKind.bits .u64) b.fLo) &&& (BitVec.ofInt (IntKind.bits .u64) (Int.fdiv h (2 ^ (min (32:Int).toNat (IntKind.bits .u64)))))).toNat:Int)))else(ZkO b.fHi b.fLo (if e<(if(0:Int)>d then(0:Int)else d)then e else(if(0:Int)>d then(0:Int)else d))).bind fun f=>some (Zaf.mk b.fV6 f.1 f.2)
theorem Zrw(g:Zaf)(h:Int)(r:Zaf)(b:Ziv g h=some r):Yo 324 [.agg (Zaf.c g),Yj h] (.agg (Zaf.c r)):=by
 refine Yu Tryz.func324 fun S0 w0=>?_;unfold Ziv at b;obtain⟨d,i,b⟩:=Zad b;obtain⟨e,b⟩|⟨e,b⟩:=Zae b
 .apply Ya b 8 [rz,rA [(1,aB d)],rz] [true] (lS (ZcN _ _ i) e)
 .obtain⟨j,p,b⟩:=Zad b;have O1:=(lT (ZcN _ _ i) e (ZiI _ _ p));obtain⟨f,b⟩|⟨f,b⟩:=Zae b
  .obtain⟨t,u,b⟩:=Zad b;apply Ya b 17 [rz,rA [(1,aB d)],rA [(3,aI j)],rz,rA [(3,.r (.one (.lit (.int .u64 t))) [])],rz] [false,true] (ma O1 f (Zpy _ _ u) (mr (32:Int) rfl))
  .obtain⟨o,v,b⟩:=Zad b;apply Ya b 18 [rz,rA [(1,aB d)],rA [(3,aI j)],rz,rA [(5,.r (.tup [(false,(cI .u64) o.1),(false,(cI .u64) o.2)]) [])],rz] [false,false] (l9 O1 f (Zun _ _ _ _ v))
def ZgR(d:Zaf)(b:Int):Option (Zaj×Bool):=(Zfe d).bind fun e=>bif(!e)then some ((Zaj.mk (Zaf.mk false 0 0) 0),false)else bif(decide (b<(0:Int)))then some ((Zaj.mk (Zaf.mk false 0 0) 0),false)else(Zeq d).bind fun f=>bif(decide (b>f))then some ((Zaj.mk (Zaf.mk false 0 0) 0),false)else(Ziv d b).bind fun g=>some ((Zaj.mk g b),true)
theorem Zhy(i:Zaf)(j:Int)(r:(Zaj×Bool))(b:ZgR i j=some r):Yo 259 [.agg (Zaf.c i),Yj j] (.tup [(true,Zaj.c r.1),(false,cB r.2)]):=by
 refine Yu Tryz.func259 fun S0 w0=>?_;unfold ZgR at b;obtain⟨e,f,b⟩:=Zad b;obtain⟨d,b⟩|⟨d,b⟩:=Zae b
 .apply Ya b 8 [rz,⟨[(1,aB e)],[(3,true)],[],[],[],[],[]⟩,rz] [true] (lT (ZcN _ _ f) d (mo true))
 .obtain⟨g,b⟩|⟨g,b⟩:=Zae b
  .apply Ya b 8 [rz,⟨[(1,aB e)],[(3,false),(7,true)],[],[],[],[],[]⟩,rz] [true] (lU (ZcN _ _ f) d g (mo true))
  .obtain⟨o,p,b⟩:=Zad b
   let R1:List RA:=[rz,⟨[(1,aB e),(10,aI o)],[(3,false),(7,false)],[],[],[],[],[]⟩]
   have O2:=(lU (ZcN _ _ f) d g (ZiI _ _ p));obtain⟨h,b⟩|⟨h,b⟩:=Zae b
   .apply Ya b 8 (R1++[rz]) [true] (l8 O2 h)
   .obtain⟨t,u,b⟩:=Zad b;apply Ya b 9 (R1++[rA [(2,aG (Zaf.c t))]]) [false] (l9 O2 h (Zrw _ _ _ u))
def Zhu(b:Zaj):Option Bool:=(ZgR b.fAddr b.fBits).bind fun d=>bif d.2 then some (decide (d.1=b))else some false
theorem ZcH(d:Zaj)(r:Bool)(b:Zhu d=some r):Yo 220 [.agg (Zaj.c d)] (Yk r):=by
 refine Yu Tryz.func220 fun S0 w0=>?_;unfold Zhu at b;obtain⟨e,g,b⟩:=Zad b
 let R1:List RA:=[rz,rA [(4,.r (.tup [(true,Zaj.c e.1),(false,cB e.2)]) [])]]
 obtain⟨f,b⟩|⟨f,b⟩:=Zae b
 .apply Ya b 6 (R1++[⟨[(4,aB (decide (e.1=d)))],[(1,true)],[],[],[],[],[]⟩]) [] (lT (Zhy _ _ _ g) f (ZpB e.1 d (.tmp 15) (.tmp 16)))
 .apply Ya b 6 (R1++[rB [(1,false)]]) [] (lS (Zhy _ _ _ g) f)
def Zlp(b:Int):Option (Int×Int):=bif(b==(4:Int))then some ((0:Int),(1073741824:Int))else bif(b==(5:Int))then some ((1:Int),(5:Int))else bif(b==(6:Int))then some ((1:Int),(1099511627776:Int))else some ((1:Int),(1048576:Int))
theorem ZwJ(g:Int)(r:(Int×Int))(b:Zlp g=some r):Yo 222 [Yj g] (.tup [(false,lP r.1),(false,lP r.2)]):=by
 refine Yu Tryz.func222 fun S0 w0=>?_;unfold Zlp at b;obtain⟨d,b⟩|⟨d,b⟩:=Zae b
 .apply Ya b 11 [rz,rz,rz,rz] [true] (lR d)
 .obtain⟨e,b⟩|⟨e,b⟩:=Zae b
  .apply Ya b 14 [rz,rz,rz,rz,rz] [false,true] (lS d e)
  .obtain⟨f,b⟩|⟨f,b⟩:=Zae b
   .apply Ya b 17 [rz,rz,rz,rz,rz,rz] [false,false,true] (lT d e f)
   .apply Ya b 19 [rz,rz,rz,rz,rz,rz] [false,false,false] (lT d e f)
def ZlT(b:Zar)(d:Int):Option Bool:=bif(d==(0:Int))then(Zic b.fEnd).bind fun f=>some f else bif(d==(1:Int))then(Zhu b.fNet).bind fun g=>some g else bif(d==(2:Int))then(Zfe b.fEnd.fAddr).bind fun h=>some h else bif(d==(3:Int))then bif(decide (b.fNow>=(0:Int)))then some (decide (b.fNow<=(1099511627776:Int)))else some false else bif(d==(4:Int))then(Zlp b.fKind).bind fun e=>bif(decide (b.fNum>=e.1))then some (decide (b.fNum<=e.2))else some false else some true
theorem ZvM(p:Zar)(t:Int)(r:Bool)(b:ZlT p t=some r):Yo 158 [.agg (Zar.c p),Yj t] (Yk r):=by
 refine Yu Tryz.func158 fun S0 w0=>?_;unfold ZlT at b;obtain⟨d,b⟩|⟨d,b⟩:=Zae b
 .obtain⟨v,y,b⟩:=Zad b;apply Ya b 11 [rz,rz,rz,rA [(2,aB v)]] [true] (lS d (ZgF _ _ y))
 .obtain⟨e,b⟩|⟨e,b⟩:=Zae b
  .obtain⟨z,A,b⟩:=Zad b;apply Ya b 14 [rz,rz,rz,rz,rA [(2,aB z)]] [false,true] (lT d e (ZcH _ _ A))
  .obtain⟨g,b⟩|⟨g,b⟩:=Zae b
   .obtain⟨B,C,b⟩:=Zad b;apply Ya b 17 [rz,rz,rz,rz,rz,rA [(3,aB B)]] [false,false,true] (lU d e g (ZcN _ _ C))
   .obtain⟨h,b⟩|⟨h,b⟩:=Zae b
    .obtain⟨i,b⟩|⟨i,b⟩:=Zae b
     .apply Ya b 20 [rz,rz,rz,rz,rz,rz,rB [(3,true)]] [false,false,false,true] (lV d e g h i)
     .apply Ya b 20 [rz,rz,rz,rz,rz,rz,rB [(3,false)]] [false,false,false,true] (lV d e g h i)
    .obtain⟨j,b⟩|⟨j,b⟩:=Zae b
     .obtain⟨u,o,b⟩:=Zad b
      let R1:List RA:=[rz,rz,rz,rz,rz,rz,rz,rA [(2,.r (.tup [(false,lP u.1),(false,lP u.2)]) [])]]
      have O2:=(lW d e g h j (ZwJ _ _ o));obtain⟨f,b⟩|⟨f,b⟩:=Zae b
      .apply Ya b 25 (R1++[rB [(4,true)]]) [false,false,false,false,true] (l8 O2 f)
      .apply Ya b 25 (R1++[rB [(4,false)]]) [false,false,false,false,true] (l8 O2 f)
     .apply Ya b 25 [rz,rz,rz,rz,rz,rz,rz,rz] [false,false,false,false,false] (lV d e g h j)
def ZeP:Nat->(List Int)->Int->Int->Zar->Option Bool|0,_,_,_,_=>none|fu+1,d,e,b,f=>bif(decide (b<e))then need (0<=b/\b<(d.length:Int))<|(ZlT f (d.getD b.toNat (0:Int))).bind fun g=>bif(!g)then some false else ZeP fu d e (Zan b 1) f else some true
theorem ZsK:∀(h:Nat)(e:List Int)(f g:Int)(b:Zar)(r:Bool),ZeP h e f g b=some r->Yq 22 S0 w0 Tryz.f84 (Yk r) [1,1,0,1,0] ⟨[(1,.one (.ptr 1 0)),(11,.one (cL 1 lP (0:Int) e)),(12,(Yj f)),(13,(Yj g))],[(1,.box (Zar.c b))]⟩:=by
 intro h;induction h with
 |zero=>
  intro e f g b r d;simp[ZeP]at d
 |succ h p=>
  intro e f g b r d;unfold ZeP at d;obtain⟨i,d⟩|⟨i,d⟩:=Zae d
  .obtain⟨t,d⟩:=Zap d;obtain⟨o,u,d⟩:=Zad d;have O1:=(lT i t (ZvM _ _ _ u));obtain⟨j,d⟩|⟨j,d⟩:=Zae d
   .apply Ya d 15 [rz,rz,rA [(2,aB o)],rz] [true,true] (l8 O1 j)
   .exact Ye 17 [rz,rz,rA [(2,aB o)],rz] [true,false] (lI [1,11,12,13] [1]) (l8 O1 j) (p e f (Zan g 1) b r d)
  .apply Ya d 8 [rz,rz] [false] (lR i)
def ZlU(b:Zar):Option Bool:=(ZmQ b.fKind).bind fun e=>bif(e.toList==(⟨#[]⟩ : ByteArray).toList)then some false else(Zkh b.fKind).bind fun d=>ZeP (((d.length:Int)-(0:Int)).toNat+2) d (d.length:Int) (0:Int) b
theorem ZqE(e:Zar)(r:Bool)(b:ZlU e=some r):Yo 84 [.agg (Zar.c e)] (Yk r):=by
 refine Yu Tryz.func84 fun S0 w0=>?_;unfold ZlU at b;obtain⟨h,g,b⟩:=Zad b
 let R2:List RA:=[rz,rA [(2,.r (.one (.lit (.string h))) [])]]
 obtain⟨f,b⟩|⟨f,b⟩:=Zae b
 .apply Ya b 8 (R2++[rz]) [true] (lS (Zrv _ _ g) f)
 .obtain⟨d,i,b⟩:=Zad b;exact Ye 11 (R2++[rA [(2,.r (.one (cL 1 lP (0:Int) d)) [])]]) [false] (lI [1,11,12,13] [1]) (lT (Zrv _ _ g) f (ZvN _ _ i)) (ZsK S0 w0 (((d.length:Int)-(0:Int)).toNat+2) d (d.length:Int) (0:Int) e r b)
def Zja(b:Int):Option Zao:=some (Zao.mk b (Zai.mk (Zaf.mk false 0 0) 0) 0 0 ([]:(List Zaa)))
theorem ZkB(b:Int)(r:Zao)(e:Zja b=some r):Yo 85 [Yj b] (.agg (Zao.c r)):=by
 refine Yu Tryz.func85 fun S0 w0=>?_;unfold Zja at e;apply Yb e 4 [rz,rz] [] [] [(2,[(7,cL 10 Zaa.c Zaa.d [])])] [] .n
def Zok:Option ZaD:=some (ZaD.mk Zas.nil Zas.nil 0)
theorem Zsz(r:ZaD)(b:Zok=some r):Yo 271 [] (.one (ZaD.c r)):=by
 refine Yu Tryz.func271 fun S0 w0=>?_;unfold Zok at b;apply Yb b 4 [rz,⟨[],[],[],[],[(0,[(0,Zas.c Zas.nil),(1,Zas.c Zas.nil)])],[],[]⟩] [] [2] [] [] .n
def Zhg(b:Zaf):Option Int:=bif b.fV6 then some (1:Int)else some (0:Int)
theorem Zfa(e:Zaf)(r:Int)(b:Zhg e=some r):Yo 274 [.agg (Zaf.c e)] (Yj r):=by
 refine Yu Tryz.func274 fun S0 w0=>?_;unfold Zhg at b;obtain⟨d,b⟩|⟨d,b⟩:=Zae b
 .apply Ya b 8 [rz,rz,rz] [true] (lR d)
 .apply Ya b 9 [rz,rz,rz] [false] (lR d)
def ZhY(e:Zaf)(b:Int):Option Int:=(Zeq e).bind fun d=>bif(decide (b<(0:Int)))then some (0:Int)else bif(decide (b>=d))then some (0:Int)else bif(decide ((ZaJ (ZaJ d (1:Int)) b)>=(64:Int)))then need (0<=(ZaJ (ZaJ (ZaJ d (1:Int)) b) (64:Int)))<|some (IntKind.wrap .i64 (IntKind.wrap .u64 (((BitVec.ofInt (IntKind.bits .u64) (Int.fdiv e.fHi (2 ^ (min (ZaJ (ZaJ (ZaJ d (1:Int)) b) (64:Int)).toNat (IntKind.bits .u64))))) &&& (BitVec.ofInt (IntKind.bits .u64) (1:Int))).toNat:Int)))else need (0<=(ZaJ (ZaJ d (1:Int)) b))<|some (IntKind.wrap .i64 (IntKind.wrap .u64 (((BitVec.ofInt (IntKind.bits .u64) (Int.fdiv e.fLo (2 ^ (min (ZaJ (ZaJ d (1:Int)) b).toNat (IntKind.bits .u64))))) &&& (BitVec.ofInt (IntKind.bits .u64) (1:Int))).toNat:Int)))
theorem ZkS(i:Zaf)(j r:Int)(b:ZhY i j=some r):Yo 276 [.agg (Zaf.c i),Yj j] (Yj r):=by
 refine Yu Tryz.func276 fun S0 w0=>?_;unfold ZhY at b;obtain⟨e,f,b⟩:=Zad b;obtain⟨d,b⟩|⟨d,b⟩:=Zae b
 .apply Ya b 10 [rz,rA [(1,aI e)],rB [(2,true)],rz] [true] (lT (ZiI _ _ f) d (mo true))
 .obtain⟨g,b⟩|⟨g,b⟩:=Zae b
  .apply Ya b 10 [rz,rA [(1,aI e)],rB [(2,false)],rz] [true] (lT (ZiI _ _ f) d g)
  .let R1:List RA:=[rz,rA [(1,aI e)],rB [(2,false)],rz,rz,rz]
   have O2:=(lT (ZiI _ _ f) d g);obtain⟨h,b⟩|⟨h,b⟩:=Zae b
   .obtain⟨o,b⟩:=Zap b;apply Ya b 17 R1 [false,true] (l9 O2 h o)
   .obtain⟨p,b⟩:=Zap b;apply Ya b 18 R1 [false,false] (l9 O2 h p)
def ZiF(b:Zaj)(d:Int):Option Int:=(ZhY b.fAddr d).bind fun e=>some e
theorem Zdm(d:Zaj)(e r:Int)(b:ZiF d e=some r):Yo 329 [.agg (Zaj.c d),Yj e] (Yj r):=by
 refine Yu Tryz.func329 fun S0 w0=>?_;unfold ZiF at b;obtain⟨f,g,b⟩:=Zad b;apply Ya b 4 [rz,rA [(3,aI f)]] [] (lR (ZkS _ _ _ g))
def Zdn:Nat->Zas->Zaj->Option (Int×Bool)|0,_,_=>none|fu+1,i,d=>(match i with | .nil=>some ((0:Int),false) | .mk b e f g=>bif(decide (b.fNet.fBits<d.fBits))then(ZiF d b.fNet.fBits).bind fun h=>need (0<=h/\h<((2:Nat):Int))<|ix2 h ( Zdn fu f d) ( Zdn fu g d)else bif(!e)then some ((0:Int),false)else bif(!(decide (b.fNet=d)))then some ((0:Int),false)else some (b.fV,true))
theorem ZlJ:∀(o:Nat)(g:Zas)(d:Zaj)(r:(Int×Bool)),Zdn o g d=some r->Yq 71 S0 w0 Tryz.f272 (.tup [(false,lP r.1),(false,cB r.2)]) [1,1,1,0,0] ⟨[(3,.one (.ptr 3 0)),(6,.one (Zas.c g))],[(3,.box (Zaj.c d))]⟩:=by
 intro o;induction o with
 |zero=>
  intro g d r b;simp[Zdn]at b
 |succ o u=>
  intro g d r b;unfold Zdn at b;cases g with
  |nil=>
   dsimp only at b;apply Ya b 12 [rz,rz,rz] [false,true] (lS (mo false) (mo true))
  |mk f v h i=>
   dsimp only at b;obtain⟨j,b⟩|⟨j,b⟩:=Zae b
   .obtain⟨A,y,b⟩:=Zad b;obtain⟨z,b⟩:=Zap b;rcases ZjT z b with⟨e,b⟩|⟨e,b⟩
    .subst e;exact Ye 10 [rz,rA [(8,aI (0:Int))]] [true] (lI [3,6] [3]) (lT j (Zdm _ _ _ y) (show 0<=(0:Int)/\(0:Int)<((2:Nat):Int)from(by decide))) (u h d r b)
    .subst e;exact Ye 10 [rz,rA [(8,aI (1:Int))]] [true] (lI [3,6] [3]) (lT j (Zdm _ _ _ y) (show 0<=(1:Int)/\(1:Int)<((2:Nat):Int)from(by decide))) (u i d r b)
   .obtain⟨p,b⟩|⟨p,b⟩:=Zae b
    .apply Ya b 12 [rz,rB [(9,true)],rz] [false,true] (lT j p (mo true))
    .let R1:List RA:=[rz,⟨[(16,aB (!(decide (f.fNet=d))))],[(9,false)],[],[],[],[],[]⟩,rz]
     have O2:=(lT j p (Zym f.fNet d (.tmp 62) (.tmp 63)));obtain⟨t,b⟩|⟨t,b⟩:=Zae b
     .apply Ya b 12 R1 [false,true] (l8 O2 t)
     .apply Ya b 13 R1 [false,false] (l8 O2 t)
def ZhL(h:ZaD)(e:Zaj):Option (Int×Bool):=(match h with | .nil=>some ((0:Int),false) | .mk b d g=>(Zhu e).bind fun i=>bif(!i)then some ((0:Int),false)else(Zhg e.fAddr).bind fun f=>need (0<=f/\f<((2:Nat):Int))<|ix2 f ( Zdn 1000000 b e) ( Zdn 1000000 d e))
theorem Zhh(i:ZaD)(g:Zaj)(r:(Int×Bool))(b:ZhL i g=some r):Yo 272 [.one (ZaD.c i),.agg (Zaj.c g)] (.tup [(false,lP r.1),(false,cB r.2)]):=by
 refine Yu Tryz.func272 fun S0 w0=>?_;unfold ZhL at b;cases i with
 |nil=>
  dsimp only at b;apply Ya b 8 [rz,rz,rz] [true] (lR (mo true))
 |mk d f p=>
  dsimp only at b;obtain⟨j,o,b⟩:=Zad b;obtain⟨h,b⟩|⟨h,b⟩:=Zae b
  .apply Ya b 8 [rz,rA [(4,aB j)],rz] [true] (lS (ZcH _ _ o) h)
  .obtain⟨v,t,b⟩:=Zad b;obtain⟨u,b⟩:=Zap b;rcases ZjT u b with⟨e,b⟩|⟨e,b⟩
   .subst e;exact Ye 11 [rz,rA [(4,aB j)],rA [(3,aI (0:Int))]] [false] (lI [3,6] [3]) (lU (ZcH _ _ o) h (Zfa _ _ t) (show 0<=(0:Int)/\(0:Int)<((2:Nat):Int)from(by decide))) (ZlJ S0 w0 1000000 d g r b)
   .subst e;exact Ye 11 [rz,rA [(4,aB j)],rA [(3,aI (1:Int))]] [false] (lI [3,6] [3]) (lU (ZcH _ _ o) h (Zfa _ _ t) (show 0<=(1:Int)/\(1:Int)<((2:Nat):Int)from(by decide))) (ZlJ S0 w0 1000000 f g r b)
def ZmR(b:Zac)(d:Int):Option Bool:=some (decide (d<b.fUntil))
theorem Zrx(b:Zac)(d:Int)(r:Bool)(e:ZmR b d=some r):Yo 243 [.agg (Zac.c b),Yj d] (Yk r):=by
 refine Yu Tryz.func243 fun S0 w0=>?_;unfold ZmR at e;apply Ya e 4 [rz,rz] [] .n
def ZeQ(b d:Int):Option Int:=bif(decide (b>=(256:Int)))then need (0<=(IntKind.wrap .u8 (Int.fdiv b (2 ^ (min (8:Int).toNat (IntKind.bits .u64)))))/\(IntKind.wrap .u8 (Int.fdiv b (2 ^ (min (8:Int).toNat (IntKind.bits .u64)))))<(((Yw : ByteArray).size:Nat):Int))<|some (Zan (Zan d 8) (IntKind.wrap .i64 ((Zlf (Yw : ByteArray) (IntKind.wrap .u8 (Int.fdiv b (2 ^ (min (8:Int).toNat (IntKind.bits .u64))))).toNat:Nat):Int)))else need (0<=(IntKind.wrap .u8 b)/\(IntKind.wrap .u8 b)<(((Yw : ByteArray).size:Nat):Int))<|some (Zan d (IntKind.wrap .i64 ((Zlf (Yw : ByteArray) (IntKind.wrap .u8 b).toNat:Nat):Int)))
theorem ZkE(e f r:Int)(b:ZeQ e f=some r):Yq 25 S0 w0 Tryz.f388 (Yj r) [1,1,1] ⟨[(0,.one (.lit (.int .u64 e))),(2,(Yj f))],[]⟩:=by
 unfold ZeQ at b;obtain⟨d,b⟩|⟨d,b⟩:=Zae b
 .obtain⟨g,b⟩:=Zap b;apply Ya b 9 [rz,rz,rz,rz] [true] (lT d (mr (8:Int) rfl) g)
 .obtain⟨h,b⟩:=Zap b;apply Ya b 7 [rz,rz] [false] (lS d h)
def ZeR(b d:Int):Option Int:=bif(decide (b>=(65536:Int)))then ZeQ (Int.fdiv b (2 ^ (min (16:Int).toNat (IntKind.bits .u64)))) (Zan d 16)else ZeQ b d
theorem ZkF(d e r:Int)(b:ZeR d e=some r):Yq 25 S0 w0 Tryz.f388 (Yj r) [1,1] ⟨[(0,.one (.lit (.int .u64 d))),(2,(Yj e))],[]⟩:=by
 unfold ZeR at b;obtain⟨f,b⟩|⟨f,b⟩:=Zae b
 .exact Ye 7 [rz,rz,rz] [true] (Yi [0,2]) (lS f (mr (16:Int) rfl)) (ZkE S0 w0 (Int.fdiv d (2 ^ (min (16:Int).toNat (IntKind.bits .u64)))) (Zan e 16) r b)
 .exact Ye 5 [rz] [false] (Yi [0,2]) (lR f) (ZkE S0 w0 d e r b)
def ZhO(b:Int):Option Int:=bif(decide (b>=(4294967296:Int)))then ZeR (Int.fdiv b (2 ^ (min (32:Int).toNat (IntKind.bits .u64)))) (32:Int)else ZeR b (0:Int)
theorem Zrm(d r:Int)(b:ZhO d=some r):Yo 388 [.one (.lit (.int .u64 d))] (Yj r):=by
 refine Yu Tryz.func388 fun S0 w0=>?_;unfold ZhO at b;obtain⟨e,b⟩|⟨e,b⟩:=Zae b
 .exact Ye 9 [rz,rz,rz,rz] [true] (Yi [0,2]) (lS e (mr (32:Int) rfl)) (ZkF S0 w0 (Int.fdiv d (2 ^ (min (32:Int).toNat (IntKind.bits .u64)))) (32:Int) r b)
 .exact Ye 7 [rz,rz] [false] (Yi [0,2]) (lR e) (ZkF S0 w0 d (0:Int) r b)
def ZcX(b:Int):Option Int:=(ZhO b).bind fun d=>some (ZaJ (64:Int) d)
theorem ZiB(d r:Int)(b:ZcX d=some r):Yo 389 [.one (.lit (.int .u64 d))] (Yj r):=by
 refine Yu Tryz.func389 fun S0 w0=>?_;unfold ZcX at b;obtain⟨e,f,b⟩:=Zad b;apply Ya b 4 [rz,rA [(1,aI e)]] [] (lR (Zrm _ _ f))
def Zgc(b d:Int)(e:Zaj):Option Int:=bif(!e.fAddr.fV6)then(Zeq e.fAddr).bind fun f=>some (if b<(ZaJ d (ZaJ (128:Int) f))then b else(ZaJ d (ZaJ (128:Int) f)))else some (if b<d then b else d)
theorem ZmC(f g:Int)(d:Zaj)(r:Int)(b:Zgc f g d=some r):Yq 48 S0 w0 Tryz.f362 (Yj r) [1,1,1,1,1] ⟨[(2,.one (.ptr 2 0)),(5,(Yj f)),(8,(Yj g))],[(2,.box (Zaj.c d))]⟩:=by
 unfold Zgc at b;obtain⟨e,b⟩|⟨e,b⟩:=Zae b
 .obtain⟨h,i,b⟩:=Zad b;apply Ya b 7 [rz,rA [(3,aI h)],rz] [true] (lS e (ZiI _ _ i))
 .apply Ya b 7 [rz,rz] [false] (lR e)
def Zks(b d:Zaj):Option Int:=(ZcX (IntKind.wrap .u64 (((BitVec.ofInt (IntKind.bits .u64) b.fAddr.fHi) ^^^ (BitVec.ofInt (IntKind.bits .u64) d.fAddr.fHi)).toNat:Int))).bind fun e=>bif((IntKind.wrap .u64 (((BitVec.ofInt (IntKind.bits .u64) b.fAddr.fHi) ^^^ (BitVec.ofInt (IntKind.bits .u64) d.fAddr.fHi)).toNat:Int))==(0:Int))then(ZcX (IntKind.wrap .u64 (((BitVec.ofInt (IntKind.bits .u64) b.fAddr.fLo) ^^^ (BitVec.ofInt (IntKind.bits .u64) d.fAddr.fLo)).toNat:Int))).bind fun f=>Zgc (if d.fBits<b.fBits then d.fBits else b.fBits) (Zan (64:Int) f) b else Zgc (if d.fBits<b.fBits then d.fBits else b.fBits) e b
theorem ZjU(d e:Zaj)(r:Int)(b:Zks d e=some r):Yo 362 [.agg (Zaj.c d),.agg (Zaj.c e)] (Yj r):=by
 refine Yu Tryz.func362 fun S0 w0=>?_;unfold Zks at b;obtain⟨f,i,b⟩:=Zad b;have O1:=(lR (ZiB _ _ i));obtain⟨g,b⟩|⟨g,b⟩:=Zae b
 .obtain⟨h,j,b⟩:=Zad b;exact Ye 13 [rz,rz,rz,rA [(1,aI f)],rz,rA [(1,aI h)]] [true] (lI [2,5,8] [2]) (l9 O1 g (ZiB _ _ j)) (ZmC S0 w0 (if e.fBits<d.fBits then e.fBits else d.fBits) (Zan (64:Int) h) d r b)
 .exact Ye 13 [rz,rz,rz,rA [(1,aI f)],rz] [false] (lI [2,5,8] [2]) (l8 O1 g) (ZmC S0 w0 (if e.fBits<d.fBits then e.fBits else d.fBits) f d r b)
def Zkt(y:Zas)(b:Zjk)(o:Int):Option Zas:=bif(o==b.fhit.fNet.fBits)then(match y with | .nil=>none | .mk d f g h=>(ZiF d.fNet o).bind fun r=>need (0<=r/\r<((2:Nat):Int))<|ix2 r ( some (Zas.mk b.fhit b.fhas (Zas.mk d f g h) b.fkids.2)) ( some (Zas.mk b.fhit b.fhas b.fkids.1 (Zas.mk d f g h))))else(ZgR b.fhit.fNet.fAddr o).bind fun p=>(match y with | .nil=>none | .mk e i j n=>(ZiF e.fNet o).bind fun t=>need (0<=t/\t<((2:Nat):Int))<|ix2 t ( (ZiF b.fhit.fNet o).bind fun u=>need (0<=u/\u<((2:Nat):Int))<|ix2 u ( some (Zas.mk (Zat.mk p.1 0) false (Zas.mk b.fhit b.fhas b.fkids.1 b.fkids.2) Zas.nil)) ( some (Zas.mk (Zat.mk p.1 0) false (Zas.mk e i j n) (Zas.mk b.fhit b.fhas b.fkids.1 b.fkids.2)))) ( (ZiF b.fhit.fNet o).bind fun v=>need (0<=v/\v<((2:Nat):Int))<|ix2 v ( some (Zas.mk (Zat.mk p.1 0) false (Zas.mk b.fhit b.fhas b.fkids.1 b.fkids.2) (Zas.mk e i j n))) ( some (Zas.mk (Zat.mk p.1 0) false Zas.nil (Zas.mk b.fhit b.fhas b.fkids.1 b.fkids.2)))))
theorem Ztv(g:Zas)(o:Zjk)(p:Int)(r:Zas)(b:Zkt g o p=some r):Yp 363 [(100000,.box (Zjk.c o))] [.one (Zas.c g),.one (.ptr 100000 0),Yj p] [] (.one (Zas.c r)):=by
 refine Yv Tryz.func363 fun S0 w0=>?_;unfold Zkt at b;obtain⟨f,b⟩|⟨f,b⟩:=Zae b
 .cases g with
  |nil=>
   dsimp only at b;cases b
  |mk t u v y=>
   dsimp only at b;obtain⟨J,z,b⟩:=Zad b;obtain⟨G,b⟩:=Zap b;rcases ZjT G b with⟨e,b⟩|⟨e,b⟩
   .subst e;apply Yc b 10 [rz,rz,rA [(7,aI (0:Int))],rz] [true] ⟨[100000],[],[],[],[],[6],[],[]⟩ (lT f (Zdm _ _ _ z) (show 0<=(0:Int)/\(0:Int)<((2:Nat):Int)from(by decide)))
   .subst e;apply Yc b 10 [rz,rz,rA [(7,aI (1:Int))],rz] [true] ⟨[100000],[],[],[],[],[6],[],[]⟩ (lT f (Zdm _ _ _ z) (show 0<=(1:Int)/\(1:Int)<((2:Nat):Int)from(by decide)))
 .obtain⟨d,h,b⟩:=Zad b;cases g with
  |nil=>
   dsimp only at b;cases b
  |mk A B C D=>
   dsimp only at b;obtain⟨L,i,b⟩:=Zad b;obtain⟨H,b⟩:=Zap b;rcases ZjT H b with⟨e,b⟩|⟨e,b⟩
   .subst e;obtain⟨M,E,b⟩:=Zad b;obtain⟨I,b⟩:=Zap b;rcases ZjT I b with⟨e,b⟩|⟨e,b⟩
    .subst e;apply Yc b 17 [rz,rz,rA [(7,.r (.tup [(true,Zaj.c d.1),(false,cB d.2)]) [])],⟨[],[],[],[],[(2,[(6,Zas.c Zas.nil),(7,Zas.c Zas.nil)])],[],[]⟩,rA [(7,aI (0:Int))],rA [(7,aI (0:Int))],rz] [false] ⟨[100000,45],[],[],[],[],[6],[],[]⟩ (lW f (Zhy _ _ _ h) (Zdm _ _ _ i) (show 0<=(0:Int)/\(0:Int)<((2:Nat):Int)from(by decide)) (Zdm _ _ _ E) (show 0<=(0:Int)/\(0:Int)<((2:Nat):Int)from(by decide)))
    .subst e;apply Yc b 17 [rz,rz,rA [(7,.r (.tup [(true,Zaj.c d.1),(false,cB d.2)]) [])],⟨[],[],[],[],[(2,[(6,Zas.c Zas.nil),(7,Zas.c Zas.nil)])],[],[]⟩,rA [(7,aI (0:Int))],rA [(7,aI (1:Int))],rz] [false] ⟨[100000,45],[],[],[],[],[6],[],[]⟩ (lW f (Zhy _ _ _ h) (Zdm _ _ _ i) (show 0<=(0:Int)/\(0:Int)<((2:Nat):Int)from(by decide)) (Zdm _ _ _ E) (show 0<=(1:Int)/\(1:Int)<((2:Nat):Int)from(by decide)))
   .subst e;obtain⟨O,F,b⟩:=Zad b;obtain⟨j,b⟩:=Zap b;rcases ZjT j b with⟨e,b⟩|⟨e,b⟩
    .subst e;apply Yc b 17 [rz,rz,rA [(7,.r (.tup [(true,Zaj.c d.1),(false,cB d.2)]) [])],⟨[],[],[],[],[(2,[(6,Zas.c Zas.nil),(7,Zas.c Zas.nil)])],[],[]⟩,rA [(7,aI (1:Int))],rA [(7,aI (0:Int))],rz] [false] ⟨[100000,45],[],[],[],[],[6],[],[]⟩ (lW f (Zhy _ _ _ h) (Zdm _ _ _ i) (show 0<=(1:Int)/\(1:Int)<((2:Nat):Int)from(by decide)) (Zdm _ _ _ F) (show 0<=(0:Int)/\(0:Int)<((2:Nat):Int)from(by decide)))
    .subst e;apply Yc b 17 [rz,rz,rA [(7,.r (.tup [(true,Zaj.c d.1),(false,cB d.2)]) [])],⟨[],[],[],[],[(2,[(6,Zas.c Zas.nil),(7,Zas.c Zas.nil)])],[],[]⟩,rA [(7,aI (1:Int))],rA [(7,aI (1:Int))],rz] [false] ⟨[100000,45],[],[],[],[],[6],[],[]⟩ (lW f (Zhy _ _ _ h) (Zdm _ _ _ i) (show 0<=(1:Int)/\(1:Int)<((2:Nat):Int)from(by decide)) (Zdm _ _ _ F) (show 0<=(1:Int)/\(1:Int)<((2:Nat):Int)from(by decide)))
def Zfs:Nat->Zas->Zat->Option Zas|0,_,_=>none|fu+1,j,g=>(match j with | .nil=>some (Zas.mk g true Zas.nil Zas.nil) | .mk b f d e=>(Zks b.fNet g.fNet).bind fun h=>bif(decide (h<b.fNet.fBits))then(Zkt (Zas.mk b f d e) (Zjk.mk g true (Zas.nil,Zas.nil)) h).bind fun n=>some n else bif(h==g.fNet.fBits)then some (Zas.mk g true d e)else(ZiF g.fNet h).bind fun i=>need (0<=i/\i<((2:Nat):Int))<|ix2 i ( (Zfs fu d g).bind fun o=>some (Zas.mk b f o e)) ( (Zfs fu e g).bind fun p=>some (Zas.mk b f d p)))
theorem Zlv:∀(g:Nat)(d:Zas)(h:Zat)(r:Zas)(b:Zfs g d h=some r),Yo 330 [.one (Zas.c d),.agg (Zat.c h)] (.one (Zas.c r)):=by
 intro g;induction g with
 |zero=>
  intro d h r b;simp[Zfs]at b
 |succ g p=>
  intro d h r b;refine Yu Tryz.func330 fun S0 w0=>?_;unfold Zfs at b;cases d with
  |nil=>
   dsimp only at b;apply Yb b 8 [rz,rz,⟨[],[],[],[],[(1,[(6,Zas.c Zas.nil),(7,Zas.c Zas.nil)])],[],[]⟩] [true] [12] [] [] (lR (mo true))
  |mk t u v y=>
   dsimp only at b;obtain⟨i,j,b⟩:=Zad b;obtain⟨f,b⟩|⟨f,b⟩:=Zae b
   .obtain⟨A,B,b⟩:=Zad b;apply Ya b 15 [rz,rz,rA [(7,aI i)],rz,⟨[],[],[],[],[(2,[(6,Zas.c Zas.nil),(7,Zas.c Zas.nil)])],[],[(5,⟨[(100000,32)],[],[],.one (Zas.c A)⟩)]⟩] [false,true] (lU (mo false) (ZjU _ _ _ j) f (Ztv _ _ _ _ B))
   .obtain⟨o,b⟩|⟨o,b⟩:=Zae b
    .apply Yb b 24 [rz,rz,rA [(7,aI i)],rz,rz,rz,rz,rz] [false,false,true] [6] [] [] (lU (mo false) (ZjU _ _ _ j) f o)
    .obtain⟨H,z,b⟩:=Zad b;obtain⟨C,b⟩:=Zap b;rcases ZjT C b with⟨e,b⟩|⟨e,b⟩
     .subst e;obtain⟨D,E,b⟩:=Zad b;apply Yb b 27 [rz,rz,rA [(7,aI i)],rz,rz,rz,rA [(3,aI (0:Int))],rA [(8,.r (.one (Zas.c D)) [])],rz] [false,false,false] [6] [] [] (lY (mo false) (ZjU _ _ _ j) f o (Zdm _ _ _ z) (show 0<=(0:Int)/\(0:Int)<((2:Nat):Int)from(by decide)) (p _ _ _ E) (show 0<=(0:Int)/\(0:Int)<((2:Nat):Int)from(by decide)))
     .subst e;obtain⟨F,G,b⟩:=Zad b;apply Yb b 27 [rz,rz,rA [(7,aI i)],rz,rz,rz,rA [(3,aI (1:Int))],rA [(8,.r (.one (Zas.c F)) [])],rz] [false,false,false] [6] [] [] (lY (mo false) (ZjU _ _ _ j) f o (Zdm _ _ _ z) (show 0<=(1:Int)/\(1:Int)<((2:Nat):Int)from(by decide)) (p _ _ _ G) (show 0<=(1:Int)/\(1:Int)<((2:Nat):Int)from(by decide)))
def Zft(g:Int)(o:ZaD)(f:Zaj):Option ZaD:=(match o with | .nil=>none | .mk b d e=>(Zhu f).bind fun p=>bif(!p)then some (ZaD.mk b d e)else(ZhL (ZaD.mk b d e) f).bind fun r=>bif(!r.2)then(Zhg f.fAddr).bind fun h=>need (0<=h/\h<((2:Nat):Int))<|ix2 h ( (Zfs 1000 b (Zat.mk f g)).bind fun t=>some (ZaD.mk t d (Zan e 1))) ( (Zfs 1000 d (Zat.mk f g)).bind fun u=>some (ZaD.mk b u (Zan e 1)))else(Zhg f.fAddr).bind fun i=>need (0<=i/\i<((2:Nat):Int))<|ix2 i ( (Zfs 1000 b (Zat.mk f g)).bind fun j=>some (ZaD.mk j d e)) ( (Zfs 1000 d (Zat.mk f g)).bind fun n=>some (ZaD.mk b n e)))
theorem ZkZ(B:Int)(t:ZaD)(g:Zaj)(r:ZaD)(b:Zft B t g=some r):Yq 48 S0 w0 Tryz.f273 (.one (ZaD.c r)) [1,1] ⟨[(0,.one (ZaD.c t)),(2,(Yj B)),(4,.one (.ptr 4 0))],[(4,.box (Zaj.c g))]⟩:=by
 unfold Zft at b;cases t with
 |nil=>
  dsimp only at b;cases b
 |mk C D E=>
  dsimp only at b;obtain⟨h,i,b⟩:=Zad b;obtain⟨f,b⟩|⟨f,b⟩:=Zae b
  .apply Yb b 8 [rz,rA [(1,aB h)],rz] [true] [7] [] [] (lS (ZcH _ _ i) f)
  .obtain⟨d,p,b⟩:=Zad b;obtain⟨j,b⟩|⟨j,b⟩:=Zae b
   .obtain⟨M,F,b⟩:=Zad b;obtain⟨G,b⟩:=Zap b;rcases ZjT G b with⟨e,b⟩|⟨e,b⟩
    .subst e;obtain⟨H,I,b⟩:=Zad b;apply Yb b 20 [rz,rA [(1,aB h)],rA [(2,.r (.tup [(false,lP d.1),(false,cB d.2)]) [])],rz,rz,rA [(2,aI (0:Int))],rA [(10,.r (.one (Zas.c H)) [])],rz] [false,true] [7] [] [] (lY (ZcH _ _ i) f (Zhh _ _ _ p) j (Zfa _ _ F) (show 0<=(0:Int)/\(0:Int)<((2:Nat):Int)from(by decide)) (Zlv 1000 _ _ _ I) (show 0<=(0:Int)/\(0:Int)<((2:Nat):Int)from(by decide)))
    .subst e;obtain⟨J,L,b⟩:=Zad b;apply Yb b 20 [rz,rA [(1,aB h)],rA [(2,.r (.tup [(false,lP d.1),(false,cB d.2)]) [])],rz,rz,rA [(2,aI (1:Int))],rA [(10,.r (.one (Zas.c J)) [])],rz] [false,true] [7] [] [] (lY (ZcH _ _ i) f (Zhh _ _ _ p) j (Zfa _ _ F) (show 0<=(1:Int)/\(1:Int)<((2:Nat):Int)from(by decide)) (Zlv 1000 _ _ _ L) (show 0<=(1:Int)/\(1:Int)<((2:Nat):Int)from(by decide)))
   .obtain⟨O,o,b⟩:=Zad b;obtain⟨u,b⟩:=Zap b;rcases ZjT u b with⟨e,b⟩|⟨e,b⟩
    .subst e;obtain⟨v,y,b⟩:=Zad b;apply Yb b 20 [rz,rA [(1,aB h)],rA [(2,.r (.tup [(false,lP d.1),(false,cB d.2)]) [])],rz,rA [(2,aI (0:Int))],rA [(10,.r (.one (Zas.c v)) [])],rz] [false,false] [7] [] [] (lY (ZcH _ _ i) f (Zhh _ _ _ p) j (Zfa _ _ o) (show 0<=(0:Int)/\(0:Int)<((2:Nat):Int)from(by decide)) (Zlv 1000 _ _ _ y) (show 0<=(0:Int)/\(0:Int)<((2:Nat):Int)from(by decide)))
    .subst e;obtain⟨z,A,b⟩:=Zad b;apply Yb b 20 [rz,rA [(1,aB h)],rA [(2,.r (.tup [(false,lP d.1),(false,cB d.2)]) [])],rz,rA [(2,aI (1:Int))],rA [(10,.r (.one (Zas.c z)) [])],rz] [false,false] [7] [] [] (lY (ZcH _ _ i) f (Zhh _ _ _ p) j (Zfa _ _ o) (show 0<=(1:Int)/\(1:Int)<((2:Nat):Int)from(by decide)) (Zlv 1000 _ _ _ A) (show 0<=(1:Int)/\(1:Int)<((2:Nat):Int)from(by decide)))
def Zfb(h:ZaD)(f:Zaj)(g:Int):Option ZaD:=(match h with | .nil=>(Zok).bind fun i=>Zft g i f | .mk b d e=>Zft g (ZaD.mk b d e) f)
theorem ZmD(i:ZaD)(g:Zaj)(h:Int)(r:ZaD)(b:Zfb i g h=some r):Yo 273 [.one (ZaD.c i),.agg (Zaj.c g),Yj h] (.one (ZaD.c r)):=by
 refine Yu Tryz.func273 fun S0 w0=>?_;unfold Zfb at b;cases i with
 |nil=>
  dsimp only at b;obtain⟨j,o,b⟩:=Zad b;exact Ye 7 [rz,rz,rA [(0,.r (.one (ZaD.c j)) [])]] [true] (lI [0,2,4] [4]) (lS (mo true) (Zsz _ o)) (ZkZ S0 w0 h j g r b)
 |mk d e f=>
  dsimp only at b;exact Ye 7 [rz,rz] [false] (lI [0,2,4] [4]) (lR (mo false)) (ZkZ S0 w0 h (ZaD.mk d e f) g r b)
def ZdF(h:Int):Nat->ZaD->(List Zac)->Int->Int->Option ZaD|0,_,_,_,_=>none|fu+1,g,e,f,b=>bif(decide (b<f))then need (0<=b/\b<(e.length:Int))<|(ZhL g ((e.getD b.toNat Zac.d).fNet)).bind fun i=>(ZmR (e.getD b.toNat Zac.d) h).bind fun j=>bif j then bif(!i.2)then(Zfb g ((e.getD b.toNat Zac.d).fNet) ((e.getD b.toNat Zac.d).fUntil)).bind fun n=>ZdF h fu n e f (Zan b 1)else bif(decide (i.1<(e.getD b.toNat Zac.d).fUntil))then(Zfb g ((e.getD b.toNat Zac.d).fNet) ((e.getD b.toNat Zac.d).fUntil)).bind fun o=>ZdF h fu o e f (Zan b 1)else ZdF h fu g e f (Zan b 1)else ZdF h fu g e f (Zan b 1)else some g
theorem ZsN(y:Int):∀(i:Nat)(g:ZaD)(d:List Zac)(e f:Int)(r:ZaD),ZdF y i g d e f=some r->Yq 45 S0 w0 Tryz.f200 (.one (ZaD.c r)) [1,1,0,1,0] ⟨[(1,(Yj y)),(5,.one (ZaD.c g)),(11,(Yl d)),(12,(Yj e)),(13,(Yj f))],[]⟩:=by
 intro i;induction i with
 |zero=>
  intro g d e f r b;simp[ZdF]at b
 |succ i j=>
  intro g d e f r b;unfold ZdF at b;obtain⟨p,b⟩|⟨p,b⟩:=Zae b
  .obtain⟨C,b⟩:=Zap b;obtain⟨z,D,b⟩:=Zad b;obtain⟨t,E,b⟩:=Zad b
   let R1:List RA:=[rz,rz,rA [(3,.r (.tup [(false,lP z.1),(false,cB z.2)]) [])]]
   have O2:=(lU p C (Zhh _ _ _ D) (Zrx _ _ _ E));obtain⟨h,b⟩|⟨h,b⟩:=Zae b
   .obtain⟨o,b⟩|⟨o,b⟩:=Zae b
    .obtain⟨A,F,b⟩:=Zad b;exact Ye 19 (R1++[⟨[(2,aB t)],[(3,true),(6,true)],[],[],[],[],[]⟩,rA [(5,.r (.one (ZaD.c A)) [])],rz]) [true,true] (Yi [1,5,11,12,13]) (mc O2 h o (mo true) (ZmD _ _ _ _ F)) (j A d e (Zan f 1) r b)
    .let R3:List RA:=(R1++[⟨[(2,aB t)],[(3,true),(6,false)],[],[],[],[],[]⟩])
     obtain⟨u,b⟩|⟨u,b⟩:=Zae b
     .obtain⟨B,v,b⟩:=Zad b;exact Ye 19 (R3++[rA [(5,.r (.one (ZaD.c B)) [])],rz]) [true,true] (Yi [1,5,11,12,13]) (mc O2 h o u (ZmD _ _ _ _ v)) (j B d e (Zan f 1) r b)
     .exact Ye 19 (R3++[rz]) [true,false] (Yi [1,5,11,12,13]) (ma O2 h o u) (j g d e (Zan f 1) r b)
   .exact Ye 19 (R1++[⟨[(2,aB t)],[(3,false)],[],[],[],[],[]⟩,rz]) [true,false] (Yi [1,5,11,12,13]) (l9 O2 h (mo false)) (j g d e (Zan f 1) r b)
  .apply Ya b 8 [rz,rz] [false] (lR p)
def ZlV(b:List Zac)(d:Int):Option ZaD:=(Zok).bind fun e=>ZdF d (((b.length:Int)-(0:Int)).toNat+2) e b (b.length:Int) (0:Int)
theorem ZvO(b:List Zac)(e:Int)(r:ZaD)(d:ZlV b e=some r):Yo 200 [Yl b,Yj e] (.one (ZaD.c r)):=by
 refine Yu Tryz.func200 fun S0 w0=>?_;unfold ZlV at d;obtain⟨f,g,d⟩:=Zad d;exact Ye 8 [rz,rA [(0,.r (.one (ZaD.c f)) [])],rz] [] (Yi [1,5,11,12,13]) (lR (Zsz _ g)) (ZsN S0 w0 e (((b.length:Int)-(0:Int)).toNat+2) f b (b.length:Int) (0:Int) r d)
def ZoI(b:Zaj)(d:Zaf):Option Bool:=(Zhu b).bind fun e=>bif e then(Zfe d).bind fun f=>bif f then bif(b.fAddr.fV6==d.fV6)then(Ziv d b.fBits).bind fun g=>some (decide (g=b.fAddr))else some false else some false else some false
theorem ZkP(d:Zaj)(o:Zaf)(r:Bool)(b:ZoI d o=some r):Yo 275 [.agg (Zaj.c d),.agg (Zaf.c o)] (Yk r):=by
 refine Yu Tryz.func275 fun S0 w0=>?_;unfold ZoI at b;obtain⟨e,p,b⟩:=Zad b;obtain⟨g,b⟩|⟨g,b⟩:=Zae b
 .obtain⟨h,t,b⟩:=Zad b;have O1:=(lT (ZcH _ _ p) g (ZcN _ _ t));obtain⟨f,b⟩|⟨f,b⟩:=Zae b
  .obtain⟨i,b⟩|⟨i,b⟩:=Zae b
   .obtain⟨j,u,b⟩:=Zad b;apply Ya b 4 [rz,⟨[(1,aB e),(4,aB h),(18,aG (Zaf.c j)),(21,aB (decide (j=d.fAddr)))],[(2,true),(6,true),(14,true)],[],[],[],[],[]⟩] [] (mc O1 f i (Zrw _ _ _ u) (ZlB j d.fAddr (.tmp 23) (.tmp 25)))
   .apply Ya b 4 [rz,⟨[(1,aB e),(4,aB h)],[(2,true),(6,true),(14,false)],[],[],[],[],[]⟩] [] (l9 O1 f i)
  .apply Ya b 4 [rz,⟨[(1,aB e),(4,aB h)],[(2,true),(6,false)],[],[],[],[],[]⟩] [] (l8 O1 f)
 .apply Ya b 4 [rz,⟨[(1,aB e)],[(2,false)],[],[],[],[],[]⟩] [] (lS (ZcH _ _ p) g)
def ZbD:Nat->Zas->(List Zat)->Zaf->Option (List Zat)|0,_,_,_=>none|fu+1,n,d,g=>(match n with | .nil=>some d | .mk b h e f=>(ZoI b.fNet g).bind fun o=>bif o then bif h then need ((d++([b]:List Zat)).length * 40<=140737488355328/\(d++([b]:List Zat)).length<=maxLen)<|(ZhY g b.fNet.fBits).bind fun i=>need (0<=i/\i<((2:Nat):Int))<|ix2 i ( ZbD fu e (d++([b]:List Zat)) g) ( ZbD fu f (d++([b]:List Zat)) g)else(ZhY g b.fNet.fBits).bind fun j=>need (0<=j/\j<((2:Nat):Int))<|ix2 j ( ZbD fu e d g) ( ZbD fu f d g)else some d)
theorem Zku:∀(B:Nat)(u:Zas)(g:List Zat)(h:Zaf)(r:List Zat),ZbD B u g h=some r->Yr 57 S0 w0 Tryz.f201 [(lL 99999 263 5 Zat.c Zat.d r)] (.one (.osl 99999 r.length)) [1,1,1,1,0,0] ⟨[(3,.one (.ptr 3 0)),(5,.one (.osl 5 g.length)),(6,.one (Zas.c u))],[(lL 5 263 5 Zat.c Zat.d g),(3,.box (Zaf.c h))]⟩:=by
 intro B;induction B with
 |zero=>
  intro u g h r f;simp[ZbD]at f
 |succ B C=>
  intro u g h r f;unfold ZbD at f;cases u with
  |nil=>
   dsimp only at f;apply Yc f 8 [rz,rz] [false] (lK [4] [5] [(5,99999)]) (lR (mo false))
  |mk b G o p=>
   dsimp only at f;obtain⟨v,y,f⟩:=Zad f;obtain⟨t,f⟩|⟨t,f⟩:=Zae f
   .obtain⟨z,f⟩|⟨z,f⟩:=Zae f
    .obtain⟨D,f⟩:=Zap f;obtain⟨I,H,f⟩:=Zad f;obtain⟨E,f⟩:=Zap f;rcases ZjT E f with⟨e,f⟩|⟨e,f⟩
     .subst e;exact Ye 15 [rA [(9,aB v)],rz,⟨[(6,.c ((g++([b]:List Zat)).length) (Zal Zat.c Zat.d (g++([b]:List Zat))))],[],[],[],[],[(5,(([b]:List Zat).length,Zal Zat.c Zat.d ([b]:List Zat)))],[]⟩,rA [(8,aI (0:Int))]] [true,true] (lK [3,5,6] [42,3] [(42,5)]) (lZ (ZkP _ _ _ y) t z (ml (e:=Zat.c) Zat.d 5 (fun _=>rfl) ([b]:List Zat)) (ZcO (sz:=5) (e:=Zat.c) (d:=Zat.d) g ([b]:List Zat)) D.1 D.2 (ZkS _ _ _ H) (show 0<=(0:Int)/\(0:Int)<((2:Nat):Int)from(by decide))) (C o (g++([b]:List Zat)) h r f)
     .subst e;exact Ye 15 [rA [(9,aB v)],rz,⟨[(6,.c ((g++([b]:List Zat)).length) (Zal Zat.c Zat.d (g++([b]:List Zat))))],[],[],[],[],[(5,(([b]:List Zat).length,Zal Zat.c Zat.d ([b]:List Zat)))],[]⟩,rA [(8,aI (1:Int))]] [true,true] (lK [3,5,6] [42,3] [(42,5)]) (lZ (ZkP _ _ _ y) t z (ml (e:=Zat.c) Zat.d 5 (fun _=>rfl) ([b]:List Zat)) (ZcO (sz:=5) (e:=Zat.c) (d:=Zat.d) g ([b]:List Zat)) D.1 D.2 (ZkS _ _ _ H) (show 0<=(1:Int)/\(1:Int)<((2:Nat):Int)from(by decide))) (C p (g++([b]:List Zat)) h r f)
    .obtain⟨J,A,f⟩:=Zad f;obtain⟨F,f⟩:=Zap f;rcases ZjT F f with⟨e,f⟩|⟨e,f⟩
     .subst e;exact Ye 15 [rA [(9,aB v)],rz,rA [(8,aI (0:Int))]] [true,false] (lI [3,5,6] [5,3]) (lV (ZkP _ _ _ y) t z (ZkS _ _ _ A) (show 0<=(0:Int)/\(0:Int)<((2:Nat):Int)from(by decide))) (C o g h r f)
     .subst e;exact Ye 15 [rA [(9,aB v)],rz,rA [(8,aI (1:Int))]] [true,false] (lI [3,5,6] [5,3]) (lV (ZkP _ _ _ y) t z (ZkS _ _ _ A) (show 0<=(1:Int)/\(1:Int)<((2:Nat):Int)from(by decide))) (C p g h r f)
   .apply Yc f 8 [rA [(9,aB v)],rz] [false] (lK [4] [5] [(5,99999)]) (lS (ZkP _ _ _ y) t)
def Zgv(h:ZaD)(e:Zaf):Option (List Zat):=(match h with | .nil=>some ([]:List Zat) | .mk b d g=>(Zfe e).bind fun i=>bif(!i)then some ([]:List Zat)else(Zhg e).bind fun f=>need (0<=f/\f<((2:Nat):Int))<|ix2 f ( ZbD 1000000 b ([]) e) ( ZbD 1000000 d ([]) e))
theorem Zqn(j:ZaD)(h:Zaf)(r:List Zat)(b:Zgv j h=some r):Yp 201 [] [.one (ZaD.c j),.agg (Zaf.c h)] [(lL 99999 263 5 Zat.c Zat.d r)] (.one (.osl 99999 r.length)):=by
 refine Yv Tryz.func201 fun S0 w0=>?_;unfold Zgv at b;cases j with
 |nil=>
  dsimp only at b;apply Yc b 8 [rz,rz,rz] [true] ⟨[],[],[],[],[(4,99999,263,5,Zal Zat.c Zat.d [])],[4],[99999],[]⟩ (lR (mo true))
 |mk f g t=>
  dsimp only at b;obtain⟨o,p,b⟩:=Zad b;obtain⟨i,b⟩|⟨i,b⟩:=Zae b
  .apply Yc b 8 [rz,rA [(4,aB o)],rz] [true] ⟨[],[],[],[],[(4,99999,263,5,Zal Zat.c Zat.d [])],[4],[99999],[]⟩ (lS (ZcN _ _ p) i)
  .obtain⟨y,u,b⟩:=Zad b;obtain⟨v,b⟩:=Zap b;rcases ZjT v b with⟨e,b⟩|⟨e,b⟩
   .subst e;exact Ye 13 [rz,rA [(4,aB o)],rz,rA [(2,aI (0:Int))]] [false] ⟨[],[],[],[],[(5,5,263,5,Zal Zat.c Zat.d [])],[3,5,6],[5,3],[]⟩ (lU (ZcN _ _ p) i (Zfa _ _ u) (show 0<=(0:Int)/\(0:Int)<((2:Nat):Int)from(by decide))) (Zku S0 w0 1000000 f ([]) h r b)
   .subst e;exact Ye 13 [rz,rA [(4,aB o)],rz,rA [(2,aI (1:Int))]] [false] ⟨[],[],[],[],[(5,5,263,5,Zal Zat.c Zat.d [])],[3,5,6],[5,3],[]⟩ (lU (ZcN _ _ p) i (Zfa _ _ u) (show 0<=(1:Int)/\(1:Int)<((2:Nat):Int)from(by decide))) (Zku S0 w0 1000000 g ([]) h r b)
theorem Zrk(b:ZaD)(e:Zaf)(r:List Zat)(f:Zgv b e=some r):Yo 201 [.one (ZaD.c b),.agg (Zaf.c e)] (.one (cL 5 Zat.c Zat.d r)):=(Zqn b e r f).pure
def ZgS:Nat->Int->(List Zat)->Int->Int->Option Int|0,_,_,_,_=>none|fu+1,g,e,f,b=>bif(decide (b<f))then need (0<=b/\b<(e.length:Int))<|ZgS fu (if(e.getD b.toNat Zat.d).fV>g then(e.getD b.toNat Zat.d).fV else g) e f (Zan b 1)else some g
theorem ZsO:∀(i:Nat)(h:Int)(b:List Zat)(f e r:Int),ZgS i h b f e=some r->Yq 35 S0 w0 Tryz.f128 (Yj r) [1,1,1,1,0,1,0] ⟨[(8,(Yj h)),(23,.one (cL 5 Zat.c Zat.d b)),(24,(Yj f)),(25,(Yj e))],[]⟩:=by
 intro i;induction i with
 |zero=>
  intro h b f e r g;simp[ZgS]at g
 |succ i o=>
  intro h b f e r g;unfold ZgS at g;obtain⟨j,g⟩|⟨j,g⟩:=Zae g
  .obtain⟨p,g⟩:=Zap g;exact Ye 14 [rz,rz,rz,rz] [true] (Yi [8,23,24,25]) (lS j p) (o (if(b.getD e.toNat Zat.d).fV>h then(b.getD e.toNat Zat.d).fV else h) b f (Zan e 1) r g)
  .apply Ya g 8 [rz,rz] [false] (lR j)
def Zid(e:List Zac)(f:Zaf)(g:Int):Option Int:=(ZlV e g).bind fun h=>(Zgv h f).bind fun b=>bif((b.length:Int)==(0:Int))then some (0:Int)else need (0<=(0:Int)/\(0:Int)<(b.length:Int))<|ZgS (((b.length:Int)-(0:Int)).toNat+2) ((b.getD (0:Int).toNat Zat.d).fV) b (b.length:Int) (0:Int)
theorem ZvP(g:List Zac)(h:Zaf)(i r:Int)(b:Zid g h i=some r):Yo 128 [Yl g,.agg (Zaf.c h),Yj i] (Yj r):=by
 refine Yu Tryz.func128 fun S0 w0=>?_;unfold Zid at b;obtain⟨j,o,b⟩:=Zad b;obtain⟨e,p,b⟩:=Zad b
 let R1:List RA:=[rz,rA [(2,.r (.one (ZaD.c j)) []),(4,.r (.one (cL 5 Zat.c Zat.d e)) [])],rz,rz]
 have O2:=(lS (ZvO _ _ _ o) (Zrk _ _ _ p));obtain⟨f,b⟩|⟨f,b⟩:=Zae b
 .apply Ya b 10 R1 [true] (l8 O2 f)
 .obtain⟨t,b⟩:=Zap b;exact Ye 15 (R1++[rz]) [false] (Yi [8,23,24,25]) (l9 O2 f t) (ZsO S0 w0 (((e.length:Int)-(0:Int)).toNat+2) ((e.getD (0:Int).toNat Zat.d).fV) e (e.length:Int) (0:Int) r b)
def ZfW(b:ZaP):Option (Int×ZaP):=(Zid b.fs.fBans b.fx.fEnd.fAddr b.fx.fNow).bind fun d=>some (d,b)
theorem ZiK(d:ZaP)(r:(Int×ZaP))(b:ZfW d=some r):Yp 166 [(100000,.box (ZaP.c d))] [.one (.ptr 100000 0)] [(100000,.box (ZaP.c r.2))] (Yj r.1):=by
 refine Yv Tryz.func166 fun S0 w0=>?_;unfold ZfW at b;obtain⟨e,f,b⟩:=Zad b;obtain rfl:=oi b;exact Yd 4 [rz,rA [(16,aI e)]] [] (lI [2] [100000]) (lR (ZvP _ _ _ _ f))
def Zlw(b:Zaa)(c0:Zai):Option Bool:=some (decide (b.fEnd=c0))
theorem Ztw(b:Zaa)(c0:Zai)(r:Bool)(d:Zlw b c0=some r):Yo 281 [.agg (Zaa.c b),.one (.rp false 4 (fun j=>(Zai.c c0:List C).getD (0+j) .junk))] (Yk r):=by
 refine Yu Tryz.func281 fun S0 w0=>?_;unfold Zlw at d;apply Ya d 4 [rz,rA [(3,aB (decide (b.fEnd=c0)))]] [] (lR (ZkU b.fEnd c0 (.tmp 5) (.tmp 6)))
def ZaS(f:List Zaa)(b:Zai):Nat->Int->Int->Option Int|0,_,_=>none|fu+1,g,e=>bif(decide (e<g))then need (0<=e/\e<(f.length:Int))<|(Zlw (f.getD e.toNat Zaa.d) b).bind fun h=>bif h then some e else ZaS f b fu g (Zan e 1)else some (-1:Int)
theorem ZhE(p:List Zaa)(d:Zai):∀(g:Nat)(e f r:Int),ZaS p d g e f=some r->Yq 19 S0 w0 Tryz.f280 (Yj r) [1,0,1,0] ⟨[(0,(Ym p)),(1,.one (lN 281 0 1 [] [.rp false 4 (fun j=>(Zai.c d:List C).getD (0+j) .junk)])),(7,(Yj e)),(8,(Yj f))],[]⟩:=by
 intro g;induction g with
 |zero=>
  intro e f r b;simp[ZaS]at b
 |succ g u=>
  intro e f r b;unfold ZaS at b;obtain⟨h,b⟩|⟨h,b⟩:=Zae b
  .obtain⟨v,b⟩:=Zap b;obtain⟨t,y,b⟩:=Zad b;have O1:=(lT h v (Ztw _ _ _ y));obtain⟨o,b⟩|⟨o,b⟩:=Zae b
   .apply Ya b 15 [rz,rz,rA [(5,aB t)],rz] [true,true] (l8 O1 o)
   .exact Ye 17 [rz,rz,rA [(5,aB t)],rz] [true,false] (Yi [0,1,7,8]) (l8 O1 o) (u e (Zan f 1) r b)
  .apply Ya b 8 [rz,rz] [false] (lR h)
def Zcv(d:List Zaa)(b:Zai):Option Int:=ZaS d b (((d.length:Int)-(0:Int)).toNat+2) (d.length:Int) (0:Int)
theorem Zil(d:List Zaa)(b:Zai)(r:Int)(e:Zcv d b=some r):Yo 280 [Ym d,.one (lN 281 0 1 [] [.rp false 4 (fun j=>(Zai.c b:List C).getD (0+j) .junk)])] (Yj r):=by
 refine Yu Tryz.func280 fun S0 w0=>?_;unfold Zcv at e;exact Ye 6 [rz,rz] [] (Yi [0,1,7,8]) .n (ZhE S0 w0 d b (((d.length:Int)-(0:Int)).toNat+2) (d.length:Int) (0:Int) r e)
def ZiW(b:List Zaa)(d:Zai):Option Int:=(Zcv b d).bind fun e=>some e
theorem Zkw(d:List Zaa)(e:Zai)(r:Int)(b:ZiW d e=some r):Yo 204 [Ym d,.agg (Zai.c e)] (Yj r):=by
 refine Yu Tryz.func204 fun S0 w0=>?_;unfold ZiW at b;obtain⟨f,g,b⟩:=Zad b;apply Ya b 4 [rz,⟨[(2,aI f)],[],[(1,[3])],[],[],[],[]⟩] [] (lR (Zil _ _ _ g))
def Zem(f:Bool):Nat->Int->(List Zaa)->Int->Int->Option Int|0,_,_,_,_=>none|fu+1,g,e,h,b=>bif(decide (b<h))then need (0<=b/\b<(e.length:Int))<|bif((e.getD b.toNat Zaa.d).fIn==f)then Zem f fu (Zan g 1) e h (Zan b 1)else Zem f fu g e h (Zan b 1)else some g
theorem ZrI(o:Bool):∀(h:Nat)(e:Int)(f:List Zaa)(g d r:Int),Zem o h e f g d=some r->Yq 22 S0 w0 Tryz.f91 (Yj r) [1,1,0,1,0] ⟨[(1,(Yk o)),(5,(Yj e)),(8,(Ym f)),(9,(Yj g)),(10,(Yj d))],[]⟩:=by
 intro h;induction h with
 |zero=>
  intro e f g d r b;simp[Zem]at b
 |succ h p=>
  intro e f g d r b;unfold Zem at b;obtain⟨i,b⟩|⟨i,b⟩:=Zae b
  .obtain⟨t,b⟩:=Zap b;obtain⟨j,b⟩|⟨j,b⟩:=Zae b
   .exact Ye 17 [rz,rz,rz,rz,rz] [true,true] (Yi [1,5,8,9,10]) (lT i t j) (p (Zan e 1) f g (Zan d 1) r b)
   .exact Ye 17 [rz,rz,rz,rz] [true,false] (Yi [1,5,8,9,10]) (lT i t j) (p e f g (Zan d 1) r b)
  .apply Ya b 8 [rz,rz] [false] (lR i)
def Zhi(b:List Zaa)(d:Bool):Option Int:=Zem d (((b.length:Int)-(0:Int)).toNat+2) (0:Int) b (b.length:Int) (0:Int)
theorem Ziz(b:List Zaa)(d:Bool)(r:Int)(e:Zhi b d=some r):Yo 91 [Ym b,Yk d] (Yj r):=by
 refine Yu Tryz.func91 fun S0 w0=>?_;unfold Zhi at e;exact Ye 8 [rz,rz,rz] [] (Yi [1,5,8,9,10]) .n (ZrI S0 w0 d (((b.length:Int)-(0:Int)).toNat+2) (0:Int) b (b.length:Int) (0:Int) r e)
def Zer(b:Int):Option Int:=some (if(1099511627776:Int)<(if(0:Int)>b then(0:Int)else b)then(1099511627776:Int)else(if(0:Int)>b then(0:Int)else b))
theorem ZtX(b r:Int)(d:Zer b=some r):Yo 190 [Yj b] (Yj r):=by
 refine Yu Tryz.func190 fun S0 w0=>?_;unfold Zer at d;apply Ya d 4 [rz,rz] [] .n
def Zom(d:Zai)(e:Bool)(f:Int):Option Zaa:=(Zer f).bind fun b=>some (Zaa.mk d e b (Zaw.mk 0 b) 0 0)
theorem ZyA(d:Zai)(e:Bool)(f:Int)(r:Zaa)(b:Zom d e f=some r):Yo 283 [.agg (Zai.c d),Yk e,Yj f] (.agg (Zaa.c r)):=by
 refine Yu Tryz.func283 fun S0 w0=>?_;unfold Zom at b;obtain⟨g,h,b⟩:=Zad b;apply Ya b 6 [rz,rA [(1,aI g)],rz] [] (lR (ZtX _ _ h))
def Zgr(b d:Int):Option Bool:=bif(decide (b>=(0:Int)))then some (decide (b<=d))else some false
theorem Zgd(e f:Int)(r:Bool)(b:Zgr e f=some r):Yo 251 [Yj e,Yj f] (Yk r):=by
 refine Yu Tryz.func251 fun S0 w0=>?_;unfold Zgr at b;obtain⟨d,b⟩|⟨d,b⟩:=Zae b
 .apply Ya b 4 [rz,rB [(2,true)]] [] (lR d)
 .apply Ya b 4 [rz,rB [(2,false)]] [] (lR d)
def ZiZ(b:Zaa):Option Bool:=(Zic b.fEnd).bind fun d=>bif d then(Zgr b.fSince (1099511627776:Int)).bind fun e=>bif e then(Zgr b.fScore.fAt (1099511627776:Int)).bind fun f=>bif f then(Zgr b.fWork (1099511627776:Int)).bind fun g=>bif g then(Zgr b.fScore.fPoints (1099511627776:Int)).bind fun h=>bif h then(Zgr b.fPing (1048576:Int)).bind fun i=>some i else some false else some false else some false else some false else some false
theorem ZmI(u:Zaa)(r:Bool)(b:ZiZ u=some r):Yo 176 [.agg (Zaa.c u)] (Yk r):=by
 refine Yu Tryz.func176 fun S0 w0=>?_;unfold ZiZ at b;obtain⟨e,v,b⟩:=Zad b;obtain⟨j,b⟩|⟨j,b⟩:=Zae b
 .obtain⟨f,B,b⟩:=Zad b;have O1:=(lT (ZgF _ _ v) j (Zgd _ _ _ B));obtain⟨g,b⟩|⟨g,b⟩:=Zae b
  .obtain⟨h,y,b⟩:=Zad b;obtain⟨o,b⟩|⟨o,b⟩:=Zae b
   .obtain⟨p,C,b⟩:=Zad b;have O2:=(mc O1 g (Zgd _ _ _ y) o (Zgd _ _ _ C));obtain⟨i,b⟩|⟨i,b⟩:=Zae b
    .obtain⟨z,A,b⟩:=Zad b;obtain⟨d,b⟩|⟨d,b⟩:=Zae b
     .obtain⟨D,t,b⟩:=Zad b;apply Ya b 4 [rz,⟨[(2,aB e),(6,aB f),(12,aB h),(17,aB p),(23,aB z),(28,aB D)],[(3,true),(8,true),(14,true),(19,true),(25,true)],[],[],[],[],[]⟩] [] (mc O2 i (Zgd _ _ _ A) d (Zgd _ _ _ t))
     .apply Ya b 4 [rz,⟨[(2,aB e),(6,aB f),(12,aB h),(17,aB p),(23,aB z)],[(3,true),(8,true),(14,true),(19,true),(25,false)],[],[],[],[],[]⟩] [] (ma O2 i (Zgd _ _ _ A) d)
    .apply Ya b 4 [rz,⟨[(2,aB e),(6,aB f),(12,aB h),(17,aB p)],[(3,true),(8,true),(14,true),(19,false)],[],[],[],[],[]⟩] [] (l8 O2 i)
   .apply Ya b 4 [rz,⟨[(2,aB e),(6,aB f),(12,aB h)],[(3,true),(8,true),(14,false)],[],[],[],[],[]⟩] [] (ma O1 g (Zgd _ _ _ y) o)
  .apply Ya b 4 [rz,⟨[(2,aB e),(6,aB f)],[(3,true),(8,false)],[],[],[],[],[]⟩] [] (l8 O1 g)
 .apply Ya b 4 [rz,⟨[(2,aB e)],[(3,false)],[],[],[],[],[]⟩] [] (lS (ZgF _ _ v) j)
def Zjw(b:Zaf):Option Int:=bif b.fV6 then some (1:Int)else some (0:Int)
theorem ZpG(e:Zaf)(r:Int)(b:Zjw e=some r):Yo 318 [.agg (Zaf.c e)] (Yj r):=by
 refine Yu Tryz.func318 fun S0 w0=>?_;unfold Zjw at b;obtain⟨d,b⟩|⟨d,b⟩:=Zae b
 .apply Ya b 8 [rz,rz,rz] [true] (lR d)
 .apply Ya b 9 [rz,rz,rz] [false] (lR d)
def Zjh(b:Int):Option Bool:=some (b != b)
theorem Znx(b:Int)(r:Bool)(d:Zjh b=some r):Yo 258 [Yj b] (Yk r):=by
 refine Yu Tryz.func258 fun S0 w0=>?_;unfold Zjh at d;apply Ya d 4 [rz,rz] [] .n
def Zcf(b d:Int):Option Int:=(Zjh b).bind fun f=>(Zjh d).bind fun e=>bif f then bif e then some (0:Int)else some (-1:Int)else bif e then some (1:Int)else bif(decide (b<d))then some (-1:Int)else bif(decide (b>d))then some (1:Int)else some (0:Int)
theorem Zdk(i j r:Int)(b:Zcf i j=some r):Yo 185 [Yj i,Yj j] (Yj r):=by
 refine Yu Tryz.func185 fun S0 w0=>?_;unfold Zcf at b;obtain⟨o,p,b⟩:=Zad b;obtain⟨t,u,b⟩:=Zad b
 let R1:List RA:=[rz,rA [(1,aB o)],rA [(1,aB t)],rz,rz,rz]
 have O2:=(lS (Znx _ _ p) (Znx _ _ u));obtain⟨d,b⟩|⟨d,b⟩:=Zae b
 .obtain⟨g,b⟩|⟨g,b⟩:=Zae b
  .apply Ya b 16 R1 [true,true] (l9 O2 d g)
  .apply Ya b 17 R1 [true,false] (l9 O2 d g)
 .obtain⟨e,b⟩|⟨e,b⟩:=Zae b
  .apply Ya b 17 R1 [false,true] (l9 O2 d e)
  .obtain⟨f,b⟩|⟨f,b⟩:=Zae b
   .apply Ya b 22 (R1++[rz]) [false,false,true] (ma O2 d e f)
   .obtain⟨h,b⟩|⟨h,b⟩:=Zae b
    .apply Ya b 27 (R1++[rz,rz]) [false,false,false,true] (mc O2 d e f h)
    .apply Ya b 28 (R1++[rz,rz]) [false,false,false,false] (mc O2 d e f h)
def Zht(b:Int):Option Bool:=some (b != b)
theorem ZlS(b:Int)(r:Bool)(d:Zht b=some r):Yo 355 [.one (.lit (.int .u64 b))] (Yk r):=by
 refine Yu Tryz.func355 fun S0 w0=>?_;unfold Zht at d;apply Ya d 4 [rz,rz] [] .n
def ZdU(b d:Int):Option Int:=(Zht b).bind fun f=>(Zht d).bind fun e=>bif f then bif e then some (0:Int)else some (-1:Int)else bif e then some (1:Int)else bif(decide (b<d))then some (-1:Int)else bif(decide (b>d))then some (1:Int)else some (0:Int)
theorem Ziu(i j r:Int)(b:ZdU i j=some r):Yo 319 [.one (.lit (.int .u64 i)),.one (.lit (.int .u64 j))] (Yj r):=by
 refine Yu Tryz.func319 fun S0 w0=>?_;unfold ZdU at b;obtain⟨o,p,b⟩:=Zad b;obtain⟨t,u,b⟩:=Zad b
 let R1:List RA:=[rz,rA [(1,aB o)],rA [(1,aB t)],rz,rz,rz]
 have O2:=(lS (ZlS _ _ p) (ZlS _ _ u));obtain⟨d,b⟩|⟨d,b⟩:=Zae b
 .obtain⟨g,b⟩|⟨g,b⟩:=Zae b
  .apply Ya b 16 R1 [true,true] (l9 O2 d g)
  .apply Ya b 17 R1 [true,false] (l9 O2 d g)
 .obtain⟨e,b⟩|⟨e,b⟩:=Zae b
  .apply Ya b 17 R1 [false,true] (l9 O2 d e)
  .obtain⟨f,b⟩|⟨f,b⟩:=Zae b
   .apply Ya b 22 (R1++[rz]) [false,false,true] (ma O2 d e f)
   .obtain⟨h,b⟩|⟨h,b⟩:=Zae b
    .apply Ya b 27 (R1++[rz,rz]) [false,false,false,true] (mc O2 d e f h)
    .apply Ya b 28 (R1++[rz,rz]) [false,false,false,false] (mc O2 d e f h)
def ZgQ:Nat->Int->(List Int)->Int->Int->Option Int|0,_,_,_,_=>none|fu+1,e,d,f,b=>bif(decide (b<f))then need (0<=b/\b<(d.length:Int))<|bif((d.getD b.toNat (0:Int)) != e)then some (d.getD b.toNat (0:Int))else ZgQ fu e d f (Zan b 1)else some e
theorem ZsJ:∀(h:Nat)(d:Int)(e:List Int)(f g r:Int),ZgQ h d e f g=some r->Yq 18 S0 w0 Tryz.f184 (Yj r) [1,1,0,1,0] ⟨[(3,(Yj d)),(6,.one (cL 1 lP (0:Int) e)),(7,(Yj f)),(8,(Yj g))],[]⟩:=by
 intro h;induction h with
 |zero=>
  intro d e f g r b;simp[ZgQ]at b
 |succ h p=>
  intro d e f g r b;unfold ZgQ at b;obtain⟨i,b⟩|⟨i,b⟩:=Zae b
  .obtain⟨o,b⟩:=Zap b;obtain⟨j,b⟩|⟨j,b⟩:=Zae b
   .apply Ya b 15 [rz,rz,rz,rz] [true,true] (lT i o j)
   .exact Ye 17 [rz,rz,rz,rz] [true,false] (Yi [3,6,7,8]) (lT i o j) (p d e f (Zan g 1) r b)
  .apply Ya b 8 [rz,rz] [false] (lR i)
def Zew(b:List Int):Option Int:=ZgQ (((b.length:Int)-(0:Int)).toNat+2) (0:Int) b (b.length:Int) (0:Int)
theorem ZhT(b:List Int)(r:Int)(d:Zew b=some r):Yo 184 [.one (cL 1 lP (0:Int) b)] (Yj r):=by
 refine Yu Tryz.func184 fun S0 w0=>?_;unfold Zew at d;exact Ye 8 [rz,rz,rz] [] (Yi [3,6,7,8]) .n (ZsJ S0 w0 (((b.length:Int)-(0:Int)).toNat+2) (0:Int) b (b.length:Int) (0:Int) r d)
def ZiH(b d:Zaf):Option Int:=(Zjw b).bind fun e=>(Zjw d).bind fun f=>(Zcf e f).bind fun g=>(ZdU b.fHi d.fHi).bind fun h=>(ZdU b.fLo d.fLo).bind fun i=>(Zew ([g,h,i]:List Int)).bind fun j=>some j
theorem ZoK(o p:Zaf)(r:Int)(b:ZiH o p=some r):Yo 250 [.agg (Zaf.c o),.agg (Zaf.c p)] (Yj r):=by
 refine Yu Tryz.func250 fun S0 w0=>?_;unfold ZiH at b;obtain⟨t,u,v,y,b⟩:=Yt b;obtain⟨f,g,z,A,b⟩:=Yt b;obtain⟨h,B,C,D,b⟩:=Yt b;apply Ya b 4 [rz,⟨[(1,aI t),(3,aI u),(4,aI f),(9,aI g),(14,aI h),(16,aI B)],[],[],[],[],[(15,(([f,g,h]:List Int).length,Zal lP (0:Int) ([f,g,h]:List Int)))],[]⟩] [] (lX (ZpG _ _ v) (ZpG _ _ y) (Zdk _ _ _ z) (Ziu _ _ _ A) (Ziu _ _ _ C) (ml (e:=lP) (0:Int) 1 (fun _=>rfl) ([f,g,h]:List Int)) (ZhT _ _ D))
def famA(a:Zaf):Int:=if a.fV6 then 1 else 0
def cmpA(a b:Zaf):Int:=orI (cmpI (famA a) (famA b)) (orI (cmpI a.fHi b.fHi) (cmpI a.fLo b.fLo))
theorem ZtL(a b:Int):Zcf a b=some (cmpI a b):=by
 simp only[Zcf,Zjh,cmpI,bne_self_eq_false,Option.bind_some,cond_false];by_cases d:a<b<;>by_cases e:a>b<;>simp[d,e]<;>omega
theorem ZHu(a b:Int):ZdU a b=some (cmpI a b):=by
 simp only[ZdU,Zht,cmpI,bne_self_eq_false,Option.bind_some,cond_false];by_cases d:a<b<;>by_cases e:a>b<;>simp[d,e]<;>omega
theorem or2(a b:Int):Zew [a,b]=some (orI a b):=by
 unfold Zew orI;simp only[List.length_cons,List.length_nil];rw[show (((0+1+1:Nat):Int)-0).toNat+2=4 from rfl];simp only[ZgQ,show Zan 0 1=1 from rfl,show Zan 1 1=2 from rfl];simp only[Bool.cond_eq_ite,bne_iff_ne,ne_eq,ite_not,need];by_cases d:a=0<;>by_cases e:b=0<;>simp[d,e]
theorem or3(a b c:Int):Zew [a,b,c]=some (orI a (orI b c)):=by
 unfold Zew orI;simp only[List.length_cons,List.length_nil];rw[show (((0+1+1+1:Nat):Int)-0).toNat+2=5 from rfl];simp only[ZgQ,show Zan 0 1=1 from rfl,show Zan 1 1=2 from rfl,show Zan 2 1=3 from rfl];simp only[Bool.cond_eq_ite,bne_iff_ne,ne_eq,ite_not,need];by_cases d:a=0<;>by_cases e:b=0<;>by_cases f:c=0<;>simp[d,e,f]
theorem ZJf(a b:Zaf):ZiH a b=some (cmpA a b):=by
 have d:∀c,Zjw c=some (famA c):=fun c=>by unfold Zjw famA;cases c.fV6<;>rfl
 simp only[ZiH,d,ZtL,ZHu,or3,Option.bind_some,cmpA]
theorem Zxi{a b:Int}:orI a b<0↔a<0\/(a=0/\b<0):=by unfold orI;constructor<;>intro h<;>(repeat' split at *)<;>omega
theorem Zxj{a b:Int}:0<orI a b↔0<a\/(a=0/\0<b):=by unfold orI;constructor<;>intro h<;>(repeat' split at *)<;>omega
theorem ZuB{a b:Int}:orI a b=0↔a=0/\b=0:=by unfold orI;constructor<;>intro h<;>(repeat' split at *)<;>omega
theorem ZKo{a b:Zaf}:famA a=famA b↔a.fV6=b.fV6:=by unfold famA;cases a.fV6<;>cases b.fV6<;>simp
theorem ZHy{a b:Zaf}:cmpA a b<0↔famA a<famA b\/(famA a=famA b/\(a.fHi<b.fHi\/(a.fHi=b.fHi/\a.fLo<b.fLo))):=by simp only[cmpA,Zxi,ZtM,Zjj]
theorem ZKA{a b:Zaf}:0<cmpA a b↔famA b<famA a\/(famA a=famA b/\(b.fHi<a.fHi\/(a.fHi=b.fHi/\b.fLo<a.fLo))):=by simp only[cmpA,Zxj,ZtN,Zjj]
theorem ZoN{a b:Zaf}:cmpA a b=0↔a=b:=by
 simp only[cmpA,ZuB,Zjj,ZKo];obtain⟨v,hi,lo⟩:=a;obtain⟨v',ce,j7⟩:=b;simp
theorem ZxI{a b c:Zaf}(d:cmpA a b<0)(e:cmpA b c<0):cmpA a c<0:=by
 rw[ZHy]at *
 omega
theorem ZAv{a b:Zaf}:0<cmpA a b↔cmpA b a<0:=by
 rw[ZKA,ZHy];constructor<;>intro h<;>omega
def ZfH(b d:Zai):Option Int:=(ZiH b.fAddr d.fAddr).bind fun e=>(Zcf b.fPort d.fPort).bind fun f=>(Zew ([e,f]:List Int)).bind fun g=>some g
theorem Zjv(h o:Zai)(r:Int)(g:ZfH h o=some r):Yo 175 [.agg (Zai.c h),.agg (Zai.c o)] (Yj r):=by
 refine Yu Tryz.func175 fun S0 w0=>?_;unfold ZfH at g;obtain⟨b,f,p,t,g⟩:=Yt g;obtain⟨u,v,g⟩:=Zad g;apply Ya g 4 [rz,⟨[(4,aI b),(9,aI f),(11,aI u)],[],[],[],[],[(10,(([b,f]:List Int).length,Zal lP (0:Int) ([b,f]:List Int)))],[]⟩] [] (lU (ZoK _ _ _ p) (Zdk _ _ _ t) (ml (e:=lP) (0:Int) 1 (fun _=>rfl) ([b,f]:List Int)) (ZhT _ _ v))
def Zkv(b d:Zaa):Option Int:=(ZfH b.fEnd d.fEnd).bind fun e=>some e
theorem ZpF(d e:Zaa)(r:Int)(b:Zkv d e=some r):Yo 177 [.agg (Zaa.c d),.agg (Zaa.c e)] (Yj r):=by
 refine Yu Tryz.func177 fun S0 w0=>?_;unfold Zkv at b;obtain⟨f,g,b⟩:=Zad b;apply Ya b 4 [rz,rA [(4,aI f)]] [] (lR (Zjv _ _ _ g))
def Zcr(b:List Zaa):Option (List Zaa):=need (0<b.length)<|need ((([]:List Zaa)++b).length * 80<=140737488355328/\(([]:List Zaa)++b).length<=maxLen)<|some (([]:List Zaa)++b)
theorem Zgf(b r:List Zaa)(f:Zcr b=some r):Yp 244 [] [Ym b] [(lL 99999 44 10 Zaa.c Zaa.d r)] (.one (.osl 99999 r.length)):=by
 refine Yv Tryz.func244 fun S0 w0=>?_;unfold Zcr at f;obtain⟨o1,g,f⟩:=Ys f;apply Yc f 9 [rz,rz,rA [(0,.c ([]:List Zaa).length (Zal Zaa.c Zaa.d ([]:List Zaa))),(2,.c ((([]:List Zaa)++b).length) (Zal Zaa.c Zaa.d (([]:List Zaa)++b)))]] [false] (lK [2] [7] [(7,99999)]) (lX o1 (mo false) (show ([]:List Zaa).length=0 from rfl) (mq (e:=Zaa.c) Zaa.d 10 (fun _=>rfl) ([]:List Zaa)) (ZcO (sz:=10) (e:=Zaa.c) (d:=Zaa.d) ([]:List Zaa) b) g.1 g.2)
theorem Zgx(x:Addr)(cap:Nat)(c:Nat->Nat->C):Yp 244 [] [.one (.lit (.slice (some x) 0 cap))] [(99999,.rows 44 10 0 c)] (.one (.osl 99999 0)):=by
 refine Yv Tryz.func244 fun S0 w0=>?_;exact Zrz Zak 9 _ _ [⟨[],[],[],[],[],[],[]⟩,⟨[(1,.r (Yk false) [])],[],[],[],[],[],[]⟩,⟨[(0,.c 0 c),(2,.c 0 c)],[],[],[],[],[],[]⟩] [false] (lK [2] [7] [(7,99999)])
  [∀w,(do eqGuard .eql 54 (.tmp 3) (.const (.slice none 0 0)) (.slice (some x) 0 cap) (.slice none 0 0);binOp .eql 54 (.slice (some x) 0 cap) (.slice none 0 0):Sem Value).run Tryz.prog w=.ok (.bool false) w,false=false,0=0,∀i j,i<0->j<10->c i j=([]:List C).getD (i * 10+j) .junk,Ext 10 0 0 c (fun _ _=>.junk) 0 c,0 * 80<=140737488355328,0<=maxLen] (by kernel_rfl) ⟨fun w=>by
   have hg:(eqGuard .eql 54 (.tmp 3) (.const (.slice none 0 0)) (.slice (some x) 0 cap) (.slice none 0 0)).run Tryz.prog w=.ok () w:=by simp[eqGuard]
   rw[Sem.run_bind,hg,Result.andThen_ok];exact Go.run_eql_slice_nil w _ _ (some x) 0 cap Tryz.underlying54,rfl,rfl,fun i j h=>absurd h (Nat.not_lt_zero i),⟨rfl,fun _ _ h=>absurd h (Nat.not_lt_zero _),fun _ _ h=>absurd h (Nat.not_lt_zero _)⟩,by decide,by decide,trivial⟩
theorem Zgw(cap:Nat)(c:Nat->Nat->C):Yp 244 [] [.one (.lit (.slice none 0 cap))] [(99999,.rows 44 10 0 c)] (.one (.osl 99999 0)):=by
 refine Yv Tryz.func244 fun S0 w0=>?_;exact Zrz Zak 8 _ _ [⟨[],[],[],[],[],[],[]⟩,⟨[(1,.r (Yk true) [])],[],[],[],[],[],[]⟩,⟨[],[],[],[],[],[],[]⟩] [true] ⟨[],[],[],[],[(2,99999,44,10,c)],[2],[99999],[]⟩
  [∀w,(do eqGuard .eql 54 (.tmp 3) (.const (.slice none 0 0)) (.slice none 0 cap) (.slice none 0 0);binOp .eql 54 (.slice none 0 cap) (.slice none 0 0):Sem Value).run Tryz.prog w=.ok (.bool true) w,true=true] (by kernel_rfl) ⟨fun w=>by
   have hg:(eqGuard .eql 54 (.tmp 3) (.const (.slice none 0 0)) (.slice none 0 cap) (.slice none 0 0)).run Tryz.prog w=.ok () w:=by simp[eqGuard]
   rw[Sem.run_bind,hg,Result.andThen_ok];exact Go.run_eql_slice_nil w _ _ none 0 cap Tryz.underlying54,rfl,trivial⟩
def Zbb(b:List Zaa):Option (List Zaa):=need (b.length * 80<=140737488355328/\b.length<=maxLen)<|some b
theorem Zce(b r:List Zaa)(e:Zbb b=some r):Yp 244 [] [Ym b] [(99999,.rows 44 10 r.length (Zal Zaa.c Zaa.d r))] (.one (.osl 99999 r.length)):=by
 obtain⟨o1,e⟩:=Zap e;cases e;refine ZCl ⟨_,Tryz.func244,rfl,rfl⟩ (fun h cap=>?_) (fun h x cap=>?_) (fun h=>?_)
 .rw[h];exact Zgw cap _
 .rw[h];exact Zgx x cap _
 .refine Zgf b b ?_;unfold Zcr;rw[ZCU h,ZCU (by simpa using o1)];simp
set_option maxHeartbeats 4000000 in
set_option maxRecDepth 100000 in
theorem ZzJ (b n c i vb m vc : Nat) (cur aO : Array Value) (w : World) (hi : i < n) (hm : 0 < m) (hroom : n + m <= c) (f6 : c <= maxLen) (hvb : vb ≠ b)
    (cV:w.heap[b]? = some (.cells cur 44 (0,0))) (ef:cur.size = c * 10) (bX:w.heap[vb]? = some (.cells aO 44 (0,0))) (la:m<=vc) (bQ:aO.size = vc * 10)
    (bU : ∀ v ∈ cur.toList.take (n * 10),v.oneCell' = true) (jl : ∀ v ∈ aO.toList.take (m * 10),v.oneCell' = true) :
    Calls Tryz.prog 340 #[.slice (some ⟨b,0,none⟩) n c,.int .i64 i,.slice (some ⟨vb,0,none⟩) m vc] w fun e w' =>
      ∃ R:Array Value,e = .returned (.slice (some ⟨b,0,none⟩) (n + m) c)/\w.drawn<=w'.drawn/\w.grownBy w' (some b)/\w'.heap[b]? = some (.cells R 44 (0,0))/\R.size = c * 10 /\
        R.toList.take ((n + m) * 10) = cur.toList.take (i * 10) ++ aO.toList.take (m * 10) ++ (cur.toList.drop (i * 10)).take ((n - i) * 10):=by
  have hc63':=f6
  unfold maxLen at f6
  have hz1 : ¬ ((m:Int) = 0):=by omega
  have b8 : ¬ ((i:Int) = (n:Int)):=by omega
  have ir:IntKind.i64.wrap ((i:Int) + (m:Int)) = (i:Int) + (m:Int):=by rw [IntKind.wrap_i64]; omega
  have hw2:IntKind.i64.wrap ((n:Int) + (m:Int)) = (n:Int) + (m:Int):=by rw [IntKind.wrap_i64]; omega
  have bB:(0:Int)<=(i:Int) + (m:Int):=by omega
  have hin:i<=n:=by omega
  have htn:((i:Int) + (m:Int)).toNat = i + m:=by omega
  have bu : ¬ (c = i + m):=by omega
  have gu:(i:Int)<=(n:Int) + (m:Int):=by omega
  have hb4 : ¬ (c = i):=by omega
  have hov : ∀ o lb cb,(callFunc 365 #[.slice (some ⟨vb,0,none⟩) m vc,.slice (some ⟨b,o,none⟩) lb cb]).run Tryz.prog w = .ok (.value (.bool false)) w:=fun o lb cb =>by
    rw [run_callFunc_extern Tryz.func365 (by kernel_rfl) (by kernel_rfl) (by kernel_rfl) (e:=Extern.SlicesOverlaps.overlaps #[54,54] #[4]) (by kernel_rfl),
      Lib.run_overlaps_apart w 54 4 44 Tryz.underlying54 10 Tryz.sizeOf44 ⟨vb,0,none⟩ ⟨b,o,none⟩ m vc lb cb hvb 44 44 aO.size cur.size (by simp [World.shape?,bX]) (by simp [World.shape?,cV]) (by omega) (by simp [World.frozen?,bX]) (by simp [World.frozen?,bX])]
    rfl
  have aQ:(Tryz.prog.info? 44).map (·.size) = some 10:=by kernel_rfl
  obtain ⟨M1,j8⟩ : ∃ M1,M1 = ZhC cur.toList ((i + m) * 10) ((cur.toList.drop (i * 10)).take ((n - i) * 10)):=⟨_,rfl⟩
  have f8:M1.toArray.size = c * 10:=by
    rw [j8]; simp [ZhC]; omega
  have jm : ∀ ty dc sc,(Builtin.copy_ #[54,54] ty #[.slice (some ⟨b,(i + m) * 10,none⟩) (n + m - (i + m)) dc,.slice (some ⟨b,i * 10,none⟩) (n + m - i) sc]).run Tryz.prog w.drew = .ok (goInt ((n - i:Nat):Int)) (w.drew.setRow b M1.toArray):=fun ty dc sc =>by
    have h:=Zmi (P:=Tryz.prog) w.drew 54 54 ty 44 10 b ((i + m) * 10) (n + m - (i + m)) dc ⟨b,i * 10,none⟩ (n + m - i) sc cur 44 ((cur.toList.drop (i * 10)).take ((n - i) * 10)) Tryz.underlying54 aQ
      (by have : Nat.min (n + m - i) (n + m - (i + m)) = n - i := by simp only [Nat.min_def]; split <;> omega
          rw [this]; simp; omega)
      (fun j v hj =>by
        rw [ZfJ]
        rw [List.getElem?_take] at hj
        split at hj
        . rw [List.getElem?_drop] at hj
          rw [show w.drew.cell? ⟨b,i * 10 + j,none⟩ = w.cell? ⟨b,i * 10 + j,none⟩ from rfl,cell_of_row w b _ cur 44 (0,0) cV]
          simpa using hj
        . cases hj)
      cV (by simp; omega) (fun v hv =>bU v (by
        obtain ⟨j,hj⟩:=List.getElem?_of_mem hv
        rw [List.getElem?_take] at hj
        split at hj
        . rw [List.getElem?_drop] at hj
          exact List.mem_of_getElem? (i:=i * 10 + j) (by rw [List.getElem?_take,if_pos (by omega)]; exact hj)
        . cases hj))
    rw [show Nat.min (n + m - i) (n + m - (i + m)) = n - i by simp only [Nat.min_def]; split <;> omega,<- j8] at h
    exact h
  obtain ⟨W1,dL⟩ : ∃ W1,W1 = w.drew.setRow b M1.toArray:=⟨_,rfl⟩
  have hU:W1.heap[b]? = some (.cells M1.toArray 44 (0,0)):=by
    rw [dL]; exact setRow_heap _ _ _ _ _ _ cV
  have jn:W1.heap[vb]? = some (.cells aO 44 (0,0)):=by
    rw [dL,setRow_other _ _ _ _ hvb]; exact bX
  have jo : ∀ (W:World),W.heap = W1.heap->∀ ty dc,(Builtin.copy_ #[54,54] ty #[.slice (some ⟨b,i * 10,none⟩) (n + m - i) dc,.slice (some ⟨vb,0,none⟩) m vc]).run Tryz.prog W = .ok (goInt (m:Int)) (W.setRow b (ZhC M1 (i * 10) (aO.toList.take (m * 10))).toArray):=fun W jp ty dc =>by
    have h:=Zmi (P:=Tryz.prog) W 54 54 ty 44 10 b (i * 10) (n + m - i) dc ⟨vb,0,none⟩ m vc M1.toArray 44 (aO.toList.take (m * 10)) Tryz.underlying54 aQ
      (by have : Nat.min m (n + m - i) = m := by simp only [Nat.min_def]; split <;> omega
          rw [this]; simp; omega)
      (fun j v hj =>by
        rw [ZfJ,Nat.zero_add]
        rw [List.getElem?_take] at hj
        split at hj
        . rw [cell_of_row W vb _ aO 44 (0,0) (by rw [jp]; exact jn)]
          simpa using hj
        . cases hj)
      (by rw [jp]; exact hU) (by simp at f8 ⊢; omega) jl
    rw [show Nat.min m (n + m - i) = m by simp only [Nat.min_def]; split <;> omega] at h
    exact h
  rw [<- dL] at jm
  obtain ⟨R3,hR3⟩ : ∃ R3,R3 = ZhC M1 (i * 10) (aO.toList.take (m * 10)):=⟨_,rfl⟩
  rw [<- hR3] at jo
  have eS:R3.length = c * 10:=by
    rw [hR3]; simp at f8; simp [ZhC]; omega
  have bn:R3.take ((n + m) * 10) = cur.toList.take (i * 10) ++ aO.toList.take (m * 10) ++ (cur.toList.drop (i * 10)).take ((n - i) * 10):=by
    have hM1l' : M1.length = c * 10:=by simpa using f8
    have fM:(aO.toList.take (m * 10)).length = m * 10:=by simp; omega
    have jq:((cur.toList.drop (i * 10)).take ((n - i) * 10)).length = (n - i) * 10:=by simp; omega
    apply List.ext_getElem?
    intro k
    rw [List.getElem?_take]
    split
    . rename_i hk
      rw [hR3,Zlg _ _ _ (by rw [fM]; omega),j8,Zlg _ _ _ (by rw [jq]; simp; omega)]
      by_cases d:k < i * 10
      . rw [if_neg (by omega),if_neg (by omega),List.append_assoc,List.getElem?_append_left (by simp; omega),List.getElem?_take,if_pos d]
      . by_cases f:k < (i + m) * 10
        . rw [if_pos ⟨by omega,by rw [fM]; omega⟩,List.append_assoc,List.getElem?_append_right (by simp; omega),List.getElem?_append_left (by simp; omega)]
          congr 1; simp; omega
        . rw [if_neg (by rw [fM]; omega),if_pos ⟨by omega,by rw [jq]; omega⟩,List.getElem?_append_right (by rw [List.length_append,fM]; simp; omega)]
          congr 1; rw [List.length_append,fM]; simp; omega
    . rename_i hk
      rw [List.getElem?_eq_none (by rw [List.length_append,List.length_append,fM,jq]; simp; omega)]
  have hgb:w.grownBy (W1.setRow b R3.toArray) (some b):=by
    rw [dL]
    exact ⟨rfl,rfl,rfl,by simp,fun k _ hk =>by
      have hne:k ≠ b:=fun h =>hk (by rw [h])
      rw [setRow_other _ _ _ _ hne,setRow_other _ _ _ _ hne]
      rfl⟩
  have hat:=setRow_heap W1 b _ R3.toArray _ _ hU
  have HF:=Lib.hid bn; clear bn
  have HL:=Lib.hid eS; clear eS
  have dQ:w.drawn<=(W1.setRow b R3.toArray).drawn:=by rw [dL]; exact Nat.le_succ _
  have HG:=Lib.hid hgb; clear hgb
  have HD:=Lib.hid dQ; clear dQ
  have HA:=Lib.hid hat; clear hat
  clear f8 hU jn bU jl aQ hR3
  clear dL
  clear j8
  have jr:Tryz.prog.follows .mixedOrders = true:=by kernel_rfl
  go_enter Tryz.func340,Tryz.ntmps340
  go_wp2_with (simp only [hov])
  go_region_law_o (refine step_copy_runI rfl _ _ 54 54 rfl _ _ (by simp [Act.eval,Act.put]) (by simp [Act.eval,Act.put]) (jm _ _ _) ?_)
  go_wp2_with (at_builtin; refine wpList_copy_runI _ rfl _ _ 54 54 rfl _ _ rfl rfl (jo _ rfl _ _) ?_)
  go_ret
  exact ⟨R3.toArray,rfl,HD.out,HG.out,HA.out,HL.out,HF.out⟩
set_option maxHeartbeats 4000000 in
set_option maxRecDepth 100000 in
theorem ZBB (b n c i vb m vc : Nat) (cur aO : Array Value) (w : World) (hi : i < n) (hm : 0 < m) (jY : n <= c) (hroom : c < n + m) (gK : (n + m) * 80 <= 140737488355328)
    (cV:w.heap[b]? = some (.cells cur 44 (0,0))) (ef:cur.size = c * 10) (bX:w.heap[vb]? = some (.cells aO 44 (0,0))) (la:m<=vc) (bQ:aO.size = vc * 10)
    (bU : ∀ v ∈ cur.toList.take (n * 10),v.oneCell' = true) (jl : ∀ v ∈ aO.toList.take (m * 10),v.oneCell' = true) :
    Calls Tryz.prog 340 #[.slice (some ⟨b,0,none⟩) n c,.int .i64 i,.slice (some ⟨vb,0,none⟩) m vc] w fun e w' =>
      ∃ (G:Nat) (R:Array Value),e = .returned (.slice (some ⟨w.heap.size,0,none⟩) (n + m) G)/\w.drawn<=w'.drawn/\Below w.heap.size w w'/\w'.heap[w.heap.size]? = some (.cells R 44 (0,0))/\n + m<=G/\G<=maxLen/\R.size = G * 10 /\
        R.toList.take ((n + m) * 10) = cur.toList.take (i * 10) ++ aO.toList.take (m * 10) ++ (cur.toList.drop (i * 10)).take ((n - i) * 10):=by
  have hz1 : ¬ ((m:Int) = 0):=by omega
  have b8 : ¬ ((i:Int) = (n:Int)):=by omega
  have hz3:(c:Int) < (n:Int) + (m:Int):=by omega
  have lk:(n:Int) + (m:Int) - (i:Int) = ((n + m - i:Nat):Int):=by omega
  have hik:i + (n + m - i) = n + m:=by omega
  have hbw:b < w.heap.size:=(Array.getElem?_eq_some_iff.1 cV).1
  have hvw:vb < w.heap.size:=(Array.getElem?_eq_some_iff.1 bX).1
  have kI:b ≠ w.heap.size:=by omega
  have hvN:vb ≠ w.heap.size:=by omega
  obtain ⟨i0,hi0,cf,hZ,iE⟩:=ZJH.info (t:=44) (show ZeZ tab 44 = some _ from rfl)
  replace cf:i0.size = 10:=cf
  replace hZ:i0.bytes = 80:=hZ
  replace iE:i0.zero = some (.agg #[.bool false,.int .u64 (0),.int .u64 (0),.int .i64 (0),.bool false,.int .i64 (0),.int .i64 (0),.int .i64 (0),.int .i64 (0),.int .i64 (0)]):=iE
  have aQ:(Tryz.prog.info? 44).map (·.size) = some 10:=by kernel_rfl
  have bY:(Builtin.firstCells i0.size i (.slice (some ⟨b,0,none⟩) i c)).run Tryz.prog w.drew = .ok (cur.toList.take (i * 10)).toArray w.drew:=by
    rw [cf]
    exact run_firstCells_some w.drew 10 i ⟨b,0,none⟩ i c (cur.toList.take (i * 10)) (by simp; omega) (fun j v hj =>by
      rw [ZfJ,Nat.zero_add]
      rw [List.getElem?_take] at hj
      split at hj
      . rw [show w.drew.cell? ⟨b,j,none⟩ = w.cell? ⟨b,j,none⟩ from rfl,cell_of_row w b _ cur 44 (0,0) cV]
        simpa using hj
      . cases hj)
  obtain ⟨G,hG⟩ : ∃ G,G = grownCap w (n + m) c 44:=⟨_,rfl⟩
  obtain ⟨gc,gd⟩ : ∃ gc:Array Value,gc = (cur.toList.take (i * 10)).toArray ++ Builtin.zeroCells (Value.cells (.agg #[.bool false,.int .u64 (0),.int .u64 (0),.int .i64 (0),.bool false,.int .i64 (0),.int .i64 (0),.int .i64 (0),.int .i64 (0),.int .i64 (0)])) (n + m - i) ++ Builtin.zeroCells (Value.cells (.agg #[.bool false,.int .u64 (0),.int .u64 (0),.int .i64 (0),.bool false,.int .i64 (0),.int .i64 (0),.int .i64 (0),.int .i64 (0),.int .i64 (0)])) (G - (n + m)):=⟨_,rfl⟩
  have hrz : ∀ ty, (Builtin.append_ #[54, 3] ty #[.slice (some ⟨b, 0, none⟩) i c, .int .i64 ((n : Int) + (m : Int) - (i : Int))]).run Tryz.prog w =
      .ok (.slice (some ⟨w.heap.size,0,none⟩) (n + m) G) (w.drew.alloc (.cells gc 44)):=fun ty =>by
    have h:=Lib.run_append_grow_zeros w 54 3 ty 44 i0 _ .i64 .i64 Tryz.underlying54 Tryz.underlying3 hi0 iE (some ⟨b,0,none⟩) i c (cur.toList.take (i * 10)) bY (n + m - i) (by omega) (by omega) (by omega) (by omega) (by rw [hZ]; omega) (by rw [hZ,hik]; exact growslice_fits hroom gK)
    rw [hik,<- hG,<- gd] at h
    rw [lk]
    exact h
  have hGn:n + m<=G:=by rw [hG]; exact grownCap_ge w _ _ _
  have hGm:G<=maxLen:=by rw [hG]; exact grownCap_le_maxLen w (n + m) c 44 (by unfold maxLen; omega)
  have hRs:gc.size = G * 10:=by
    rw [gd]
    simp [Builtin.zeroCells,Value.cells]
    omega
  have hRt:gc.toList.take (i * 10) = cur.toList.take (i * 10):=by
    rw [gd]
    simp only [Array.toList_append,List.append_assoc]
    rw [List.take_append_of_le_length (by simp; omega)]
    simp [List.take_take]
  clear gd hG bY
  obtain ⟨W1,dL⟩ : ∃ W1,W1 = w.drew.alloc (.cells gc 44):=⟨_,rfl⟩
  have ll:W1.heap[w.heap.size]? = some (.cells gc 44 (0,0)):=by rw [dL]; exact heap_alloc_new w.drew _
  have hWb:W1.heap[b]? = some (.cells cur 44 (0,0)):=by rw [dL,heap_alloc_old w.drew _ hbw]; exact cV
  have hWv:W1.heap[vb]? = some (.cells aO 44 (0,0)):=by rw [dL,heap_alloc_old w.drew _ hvw]; exact bX
  obtain ⟨V,hV⟩ : ∃ V,V = aO.toList.take (m * 10):=⟨_,rfl⟩
  have gf:V.length = m * 10:=by rw [hV]; simp; omega
  obtain ⟨D,hD⟩ : ∃ D,D = (cur.toList.drop (i * 10)).take ((n - i) * 10):=⟨_,rfl⟩
  have ia:D.length = (n - i) * 10:=by rw [hD]; simp; omega
  obtain ⟨R2,hR2⟩ : ∃ R2,R2 = ZhC gc.toList (i * 10) V:=⟨_,rfl⟩
  have js:R2.length = G * 10:=by rw [hR2]; simp [ZhC,gf]; omega
  obtain ⟨R3,hR3⟩ : ∃ R3,R3 = ZhC R2 ((i + m) * 10) D:=⟨_,rfl⟩
  have eS:R3.length = G * 10:=by rw [hR3]; simp [ZhC,ia]; omega
  have bn:R3.take ((n + m) * 10) = cur.toList.take (i * 10) ++ V ++ D:=by
    apply List.ext_getElem?
    intro k
    rw [List.getElem?_take]
    split
    . rename_i hk
      rw [hR3,Zlg _ _ _ (by rw [ia]; omega),hR2,Zlg _ _ _ (by rw [gf]; simp; omega)]
      by_cases d:k < i * 10
      . rw [if_neg (by omega),if_neg (by omega),List.append_assoc,List.getElem?_append_left (by simp; omega),<- hRt,List.getElem?_take,if_pos d]
      . by_cases f:k < (i + m) * 10
        . rw [if_neg (by omega),if_pos ⟨by omega,by rw [gf]; omega⟩,List.append_assoc,List.getElem?_append_right (by simp; omega),List.getElem?_append_left (by simp; omega)]
          congr 1; simp; omega
        . rw [if_pos ⟨by omega,by rw [ia]; omega⟩,List.getElem?_append_right (by simp [gf]; omega)]
          congr 1; simp [gf]; omega
    . rename_i hk
      rw [List.getElem?_eq_none (by simp [gf,ia]; omega)]
  have lm : ∀ (W:World),W.heap = W1.heap->∀ ty dc,(Builtin.copy_ #[54,54] ty #[.slice (some ⟨w.heap.size,i * 10,none⟩) (n + m - i) dc,.slice (some ⟨vb,0,none⟩) m vc]).run Tryz.prog W = .ok (goInt (m:Int)) (W.setRow w.heap.size R2.toArray):=fun W jp ty dc =>by
    have h:=Zmi (P:=Tryz.prog) W 54 54 ty 44 10 w.heap.size (i * 10) (n + m - i) dc ⟨vb,0,none⟩ m vc gc 44 V Tryz.underlying54 aQ
      (by have : Nat.min m (n + m - i) = m := by simp only [Nat.min_def]; split <;> omega
          rw [this,gf])
      (fun j v hj =>by
        rw [hV] at hj
        rw [ZfJ,Nat.zero_add]
        rw [List.getElem?_take] at hj
        split at hj
        . rw [cell_of_row W vb _ aO 44 (0,0) (by rw [jp]; exact hWv)]
          simpa using hj
        . cases hj)
      (by rw [jp]; exact ll) (by rw [gf,hRs]; omega) (by rw [hV]; exact jl)
    rw [show Nat.min m (n + m - i) = m by simp only [Nat.min_def]; split <;> omega,<- hR2] at h
    exact h
  have jt : ∀ (W:World),W.heap[w.heap.size]? = some (.cells R2.toArray 44 (0,0))->W.heap[b]? = some (.cells cur 44 (0,0))->∀ ty dc sc,(Builtin.copy_ #[54,54] ty #[.slice (some ⟨w.heap.size,(i + m) * 10,none⟩) (n + m - (i + m)) dc,.slice (some ⟨b,i * 10,none⟩) (n - i) sc]).run Tryz.prog W = .ok (goInt ((n - i:Nat):Int)) (W.setRow w.heap.size R3.toArray):=fun W hN hB ty dc sc =>by
    have h:=Zmi (P:=Tryz.prog) W 54 54 ty 44 10 w.heap.size ((i + m) * 10) (n + m - (i + m)) dc ⟨b,i * 10,none⟩ (n - i) sc R2.toArray 44 D Tryz.underlying54 aQ
      (by have : Nat.min (n - i) (n + m - (i + m)) = n - i := by simp only [Nat.min_def]; split <;> omega
          rw [this,ia])
      (fun j v hj =>by
        rw [hD] at hj
        rw [ZfJ]
        rw [List.getElem?_take] at hj
        split at hj
        . rw [List.getElem?_drop] at hj
          rw [cell_of_row W b _ cur 44 (0,0) hB]
          simpa using hj
        . cases hj)
      hN (by simp [ia,js]; omega) (fun v hv =>bU v (by
        rw [hD] at hv
        obtain ⟨j,hj⟩:=List.getElem?_of_mem hv
        rw [List.getElem?_take] at hj
        split at hj
        . rw [List.getElem?_drop] at hj
          exact List.mem_of_getElem? (i:=i * 10 + j) (by rw [List.getElem?_take,if_pos (by omega)]; exact hj)
        . cases hj))
    rw [show Nat.min (n - i) (n + m - (i + m)) = n - i by simp only [Nat.min_def]; split <;> omega] at h
    rw [show R2.toArray.toList = R2 from rfl,<- hR3] at h
    exact h
  have ib:(W1.setRow w.heap.size R2.toArray).heap[w.heap.size]? = some (.cells R2.toArray 44 (0,0)):=setRow_heap _ _ _ _ _ _ ll
  have ju:(W1.setRow w.heap.size R2.toArray).heap[b]? = some (.cells cur 44 (0,0)):=by rw [setRow_other _ _ _ _ kI]; exact hWb
  have b7:Below w.heap.size w W1:=by
    rw [dL]
    exact ⟨rfl,rfl,rfl,by simp,fun k hk =>heap_alloc_old w.drew _ hk⟩
  have jr:Tryz.prog.follows .mixedOrders = true:=by kernel_rfl
  have dQ:w.drawn<=W1.drawn:=by rw [dL]; exact Nat.le_succ _
  have HW:=Lib.hid dQ; clear dQ
  have HF:=Lib.hid bn; clear bn
  have hGi : ¬ (G = i):=by omega
  have hGim : ¬ (G = i + m):=by omega
  have hci : ¬ (c = i):=by omega
  have hGM:=hGm
  unfold maxLen at hGM
  have hin:i<=n:=by omega
  have htn:((i:Int) + (m:Int)).toNat = i + m:=by omega
  have ir:IntKind.i64.wrap ((i:Int) + (m:Int)) = (i:Int) + (m:Int):=by rw [IntKind.wrap_i64]; omega
  have bB:(0:Int)<=(i:Int) + (m:Int):=by omega
  have gu:(i:Int)<=(n:Int):=by omega
  rw [<- hV,<- hD]
  rw [<- dL] at hrz
  clear hV hD gf ia hR2 js hR3 hRt hi0 hZ cf iE aQ hRs lk hik ll hWb hWv ef bQ bU jl cV bX dL
  have HR3:=Lib.hid eS; clear eS
  go_enter Tryz.func340,Tryz.ntmps340
  go_wp2_with (first
    | (at_builtin; refine Lib.wpList_append_run _ rfl _ _ _ _ rfl _ _ rfl rfl _ _ (hrz _) ?_)
    | (at_builtin; refine wpList_copy_runI _ rfl _ _ 54 54 rfl _ _ rfl rfl (lm _ rfl _ _) ?_)
    | (at_builtin; refine wpList_copy_runI _ rfl _ _ 54 54 rfl _ _ rfl rfl (jt _ (by first | exact ib | assumption) (by first | exact ju | assumption) _ _ _) ?_))
  go_region_law_o (refine step_copy_runI rfl _ _ 54 54 rfl (.slice (some ⟨w.heap.size,(i + m) * 10,none⟩) (n + m - (i + m)) (G - (i + m))) (.slice (some ⟨b,i * 10,none⟩) (n - i) (c - i)) (by simp [Act.eval,Act.put]) (by simp [Act.eval,Act.put]) (jt (W1.setRow w.heap.size R2.toArray).drew ib ju 3 (G - (i + m)) (c - i)) ?_)
  go_wp2
  go_ret
  exact ⟨G,R3.toArray,rfl,Nat.le_trans HW.out (by simp [World.setRow]),⟨b7.os,b7.tape,b7.output,by simpa using b7.size,fun k hk =>by rw [setRow_other _ _ _ _ (by omega)]; exact (setRow_other _ _ _ _ (by omega)).trans (b7.block k hk)⟩,setRow_heap _ _ _ _ _ _ ib,hGn,hGm,HR3.out,HF.out⟩
set_option maxHeartbeats 4000000 in
set_option maxRecDepth 100000 in
theorem ZEy(bh:Option Addr)(n c vb m vc:Nat)(w w':World)(v':Value)(jY:n<=c)(f6:c<=maxLen)(hm:0<m)(g7:bh=none->n=0)(ln:m<=maxLen)
  (hrun:∀ty,(Builtin.append_ #[54,54] ty #[.slice bh n c,.slice (some ⟨vb,0,none⟩) m vc]).run Tryz.prog w=.ok v' w') :
  Calls Tryz.prog 340 #[.slice bh n c,.int .i64 n,.slice (some ⟨vb,0,none⟩) m vc] w fun e b=>e=.returned v'/\w'=b:=by
 have hz1:¬((m:Int)=0):=by omega
 unfold maxLen at f6 ln;cases bh with
 |none=>
  have h0:=g7 rfl;subst h0
  go_enter Tryz.func340,Tryz.ntmps340
  go_wp2_with (at_builtin;refine Lib.wpList_append_run _ rfl _ _ _ _ rfl _ _ rfl rfl _ _ (hrun _) ?_)
  go_ret
  exact⟨rfl,rfl⟩
 |some a=>
  obtain⟨ab,ao,asp⟩:=a
  go_enter Tryz.func340,Tryz.ntmps340
  go_wp2_with (at_builtin;refine Lib.wpList_append_run _ rfl _ _ _ _ rfl _ _ rfl rfl _ _ (hrun _) ?_)
  all_goals (go_ret;exact⟨rfl,rfl⟩)
def Zbt(b:List Zaa)(d:Int)(e:List Zaa):Option (List Zaa):=need (0<=d/\d.toNat<=b.length/\0<e.length/\(b.length+e.length) * 80<=140737488355328/\b.length+e.length<=maxLen)<|some (b.take d.toNat++e++b.drop d.toNat)
theorem Zdo(j:List Zaa)(B:Int)(o r:List Zaa)(C:Zbt j B o=some r) :
  Yp 340 [(lL 100000 44 10 Zaa.c Zaa.d j),(lL 100001 44 10 Zaa.c Zaa.d o)] [.one (.osl 100000 j.length),Yj B,.one (.osl 100001 o.length)]
   [(lL 99999 44 10 Zaa.c Zaa.d r)] (.one (.osl 99999 r.length)):=by
 obtain⟨⟨o1,H,I,J,L⟩,C⟩:=Zap C;cases C;obtain⟨i0,hi0,cf,hZ,iE⟩:=ZJH.info (t:=44) (show ZeZ tab 44=some _ from rfl);have h:=ZBA (enc:=Zaa.c) (d:=Zaa.d) (F:=340) (BY:=80) (K:=10) ⟨_,Tryz.func340,rfl,rfl⟩ Tryz.underlying54 hi0 iE cf hZ rfl (by decide) (fun b n c i vb m vc cur aO w p u v y z A D E G e f g=>ZzJ b n c i vb m vc cur aO w p u v y z A D E G e f g)
  (fun b n c i vb m vc cur aO w p u v y z A D E G e f g=>ZBB b n c i vb m vc cur aO w p u v y z A D E G e f g)
  (fun bh n c vb m vc w w' v' p u v y z A=>ZEy bh n c vb m vc w w' v' p u v y z A) j o B.toNat H I J L
 rw[Int.toNat_of_nonneg o1]at h;exact h
def Zmm(b c0:Zaa):Option Bool:=(Zkv b c0).bind fun d=>some (decide (d>(0:Int)))
theorem Zuf(d c0:Zaa)(r:Bool)(b:Zmm d c0=some r):Yo 339 [.agg (Zaa.c d),.one (.rp false 10 (fun j=>(Zaa.c c0:List C).getD (0+j) .junk))] (Yk r):=by
 refine Yu Tryz.func339 fun S0 w0=>?_;unfold Zmm at b;obtain⟨e,f,b⟩:=Zad b;apply Ya b 4 [rz,rA [(2,aI e)]] [] (lR (ZpF _ _ _ f))
def ZaR(f:List Zaa)(b:Zaa):Nat->Int->Int->Option Int|0,_,_=>none|fu+1,g,e=>bif(decide (e<g))then need (0<=e/\e<(f.length:Int))<|(Zmm (f.getD e.toNat Zaa.d) b).bind fun h=>bif h then some e else ZaR f b fu g (Zan e 1)else some (-1:Int)
theorem ZhD(p:List Zaa)(d:Zaa):∀(g:Nat)(e f r:Int),ZaR p d g e f=some r->Yq 19 S0 w0 Tryz.f280 (Yj r) [1,0,1,0] ⟨[(0,(Ym p)),(1,.one (lN 339 0 1 [] [.rp false 10 (fun j=>(Zaa.c d:List C).getD (0+j) .junk)])),(7,(Yj e)),(8,(Yj f))],[]⟩:=by
 intro g;induction g with
 |zero=>
  intro e f r b;simp[ZaR]at b
 |succ g u=>
  intro e f r b;unfold ZaR at b;obtain⟨h,b⟩|⟨h,b⟩:=Zae b
  .obtain⟨v,b⟩:=Zap b;obtain⟨t,y,b⟩:=Zad b;have O1:=(lT h v (Zuf _ _ _ y));obtain⟨o,b⟩|⟨o,b⟩:=Zae b
   .apply Ya b 15 [rz,rz,rA [(5,aB t)],rz] [true,true] (l8 O1 o)
   .exact Ye 17 [rz,rz,rA [(5,aB t)],rz] [true,false] (Yi [0,1,7,8]) (l8 O1 o) (u e (Zan f 1) r b)
  .apply Ya b 8 [rz,rz] [false] (lR h)
def ZbT(d:List Zaa)(b:Zaa):Option Int:=ZaR d b (((d.length:Int)-(0:Int)).toNat+2) (d.length:Int) (0:Int)
theorem Zik(d:List Zaa)(b:Zaa)(r:Int)(e:ZbT d b=some r):Yo 280 [Ym d,.one (lN 339 0 1 [] [.rp false 10 (fun j=>(Zaa.c b:List C).getD (0+j) .junk)])] (Yj r):=by
 refine Yu Tryz.func280 fun S0 w0=>?_;unfold ZbT at e;exact Ye 6 [rz,rz] [] (Yi [0,1,7,8]) .n (ZhD S0 w0 d b (((d.length:Int)-(0:Int)).toNat+2) (d.length:Int) (0:Int) r e)
def ZmE(b:List Zaa)(d:Zaa):Option ((List Zaa)×Int):=(ZiZ d).bind fun f=>bif(!f)then some (([]:(List Zaa)),(1:Int))else(ZiW b d.fEnd).bind fun g=>bif(decide (g>=(0:Int)))then some (([]:(List Zaa)),(7:Int))else(ZbT b d).bind fun e=>bif(decide (e<(0:Int)))then(Zbb b).bind fun h=>(Zbt h (b.length:Int) ([d]:List Zaa)).bind fun i=>some (i,(0:Int))else(Zbb b).bind fun j=>(Zbt j e ([d]:List Zaa)).bind fun n=>some (n,(0:Int))
theorem ZwF(A:List Zaa)(f:Zaa)(r:((List Zaa)×Int))(b:ZmE A f=some r):Yo 296 [Ym A,.agg (Zaa.c f)] (.tup [(false,(cLs 10 Zaa.c Zaa.d) r.1),(false,lP r.2)]):=by
 refine Yu Tryz.func296 fun S0 w0=>?_;unfold ZmE at b;obtain⟨g,B,b⟩:=Zad b;obtain⟨h,b⟩|⟨h,b⟩:=Zae b
 .apply Yb b 9 [rz,rA [(1,aB g)],rz] [true] [] [] [(4,[(0,cL 10 Zaa.c Zaa.d [])])] (lS (ZmI _ _ B) h)
 .obtain⟨C,D,b⟩:=Zad b;have O1:=(lT (ZmI _ _ B) h (Zkw _ _ _ D));obtain⟨o,b⟩|⟨o,b⟩:=Zae b
  .apply Yb b 12 [rz,rA [(1,aB g)],rA [(3,aI C)],rz] [false,true] [] [] [(4,[(0,cL 10 Zaa.c Zaa.d [])])] (l8 O1 o)
  .obtain⟨E,F,b⟩:=Zad b
   let R2:List RA:=[rz,rA [(1,aB g)],rA [(3,aI C)],⟨[(2,aI E)],[],[(1,[3])],[],[],[],[]⟩,rz]
   have O3:=(l9 O1 o (Zik _ _ _ F));obtain⟨p,b⟩|⟨p,b⟩:=Zae b
   .obtain⟨t,u,G,H,b⟩:=Yt b;apply Yb b 21 (R2++[rz,rH [(4,.c ([f]:List Zaa).length (Zal Zaa.c Zaa.d ([f]:List Zaa)))] [(1,⟨[],[(99999,25)],[(lL 99999 44 10 Zaa.c Zaa.d t)],.one (.osl 99999 t.length)⟩),(5,⟨[(100000,25),(100001,28)],[(99999,29)],[(lL 99999 44 10 Zaa.c Zaa.d u)],.one (.osl 99999 u.length)⟩)]]) [false,false,true] [29] [] [] (md O3 p (Zce _ _ G) (show ([f]:List Zaa).length=1 from rfl) (mq (e:=Zaa.c) Zaa.d 10 (fun _=>rfl) ([f]:List Zaa)) (Zdo _ _ _ _ H))
   .obtain⟨v,y,I,z,b⟩:=Yt b;apply Yb b 21 (R2++[rH [(4,.c ([f]:List Zaa).length (Zal Zaa.c Zaa.d ([f]:List Zaa)))] [(1,⟨[],[(99999,25)],[(lL 99999 44 10 Zaa.c Zaa.d v)],.one (.osl 99999 v.length)⟩),(5,⟨[(100000,25),(100001,28)],[(99999,29)],[(lL 99999 44 10 Zaa.c Zaa.d y)],.one (.osl 99999 y.length)⟩)]]) [false,false,false] [29] [] [] (md O3 p (Zce _ _ I) (show ([f]:List Zaa).length=1 from rfl) (mq (e:=Zaa.c) Zaa.d 10 (fun _=>rfl) ([f]:List Zaa)) (Zdo _ _ _ _ z))
def Zfv(b:ZaP)(e:Bool):Option ZaP:=(Zom b.fx.fEnd e b.fx.fNow).bind fun f=>(ZmE b.fs.fPeers f).bind fun d=>bif(d.2==(0:Int))then some (ZaP.mk b.fc (Zam.mk b.fs.fBans b.fs.fBook d.1) b.fx)else some b
theorem ZkC(f:ZaP)(g:Bool)(r:ZaP)(b:Zfv f g=some r):Yp 223 [(100000,.box (ZaP.c f))] [.one (.ptr 100000 0),Yk g] [(100000,.box (ZaP.c r))] (.tup []):=by
 refine Yv Tryz.func223 fun S0 w0=>?_;unfold Zfv at b;obtain⟨i,j,b⟩:=Zad b;obtain⟨h,o,b⟩:=Zad b
 let R1:List RA:=[rA [(16,aG (Zaa.c i)),(17,.r (.tup [(false,(cLs 10 Zaa.c Zaa.d) h.1),(false,lP h.2)]) [])],rz]
 have O2:=(lS (ZyA _ _ _ _ j) (ZwF _ _ _ o));obtain⟨e,b⟩|⟨e,b⟩:=Zae b
 .obtain rfl:=oi b;exact Yd 6 (R1++[rz]) [true] (lI [] [100000]) (l8 O2 e)
 .obtain rfl:=oi b;exact Yd 6 R1 [false] (lI [] [100000]) (l8 O2 e)
def ZeH:Nat->(List Zaa)->Int->Int->(List Zaa)->Option (List Zaa)|0,_,_,_,_=>none|fu+1,e,g,b,f=>bif(decide (b<g))then need (0<=b/\b<(e.length:Int))<|bif(e.getD b.toNat Zaa.d).fIn then need ((f++([(e.getD b.toNat Zaa.d)]:List Zaa)).length * 80<=140737488355328/\(f++([(e.getD b.toNat Zaa.d)]:List Zaa)).length<=maxLen)<|ZeH fu e g (Zan b 1) (f++([(e.getD b.toNat Zaa.d)]:List Zaa))else ZeH fu e g (Zan b 1) f else some f
theorem ZsE:∀(p:Nat)(b:List Zaa)(o f:Int)(h r:List Zaa),ZeH p b o f h=some r->Yr 20 S0 w0 Tryz.f181 [(lL 99999 44 10 Zaa.c Zaa.d r)] (.one (.osl 99999 r.length)) [1,1,0,1,0] ⟨[(3,.one (.osl 3 h.length)),(6,(Ym b)),(7,(Yj o)),(8,(Yj f))],[(lL 3 44 10 Zaa.c Zaa.d h)]⟩:=by
 intro p;induction p with
 |zero=>
  intro b o f h r g;simp[ZeH]at g
 |succ p v=>
  intro b o f h r g;unfold ZeH at g;obtain⟨t,g⟩|⟨t,g⟩:=Zae g
  .obtain⟨y,g⟩:=Zap g;obtain⟨u,g⟩|⟨u,g⟩:=Zae g
   .obtain⟨z,g⟩:=Zap g;exact Ye 17 [rz,rz,rz,⟨[(3,.c ((h++([(b.getD f.toNat Zaa.d)]:List Zaa)).length) (Zal Zaa.c Zaa.d (h++([(b.getD f.toNat Zaa.d)]:List Zaa))))],[],[],[],[],[(2,(([(b.getD f.toNat Zaa.d)]:List Zaa).length,Zal Zaa.c Zaa.d ([(b.getD f.toNat Zaa.d)]:List Zaa)))],[]⟩,rz] [true,true] (lK [3,6,7,8] [17] [(17,3)]) (lX t y u (ml (e:=Zaa.c) Zaa.d 10 (fun _=>rfl) ([(b.getD f.toNat Zaa.d)]:List Zaa)) (ZcO (sz:=10) (e:=Zaa.c) (d:=Zaa.d) h ([(b.getD f.toNat Zaa.d)]:List Zaa)) z.1 z.2) (v b o (Zan f 1) (h++([(b.getD f.toNat Zaa.d)]:List Zaa)) r g)
   .exact Ye 17 [rz,rz,rz,rz] [true,false] (lI [3,6,7,8] [3]) (lT t y u) (v b o (Zan f 1) h r g)
  .apply Yc g 8 [rz,rz] [false] (lK [2] [3] [(3,99999)]) (lR t)
def Zke(b:List Zaa):Option (List Zaa):=ZeH (((b.length:Int)-(0:Int)).toNat+2) b (b.length:Int) (0:Int) ([])
theorem Zuk(b r:List Zaa)(e:Zke b=some r):Yp 181 [] [Ym b] [(lL 99999 44 10 Zaa.c Zaa.d r)] (.one (.osl 99999 r.length)):=by
 refine Yv Tryz.func181 fun S0 w0=>?_;unfold Zke at e;exact Ye 8 [rz,rz,rz] [] ⟨[],[],[],[],[(3,3,44,10,Zal Zaa.c Zaa.d [])],[3,6,7,8],[3],[]⟩ .n (ZsE S0 w0 (((b.length:Int)-(0:Int)).toNat+2) b (b.length:Int) (0:Int) ([]) r e)
theorem ZvJ(b r:List Zaa)(d:Zke b=some r):Yo 181 [Ym b] (Ym r):=(Zuk b r d).pure
def Zlx(b:Zax):Option (ZaV×ZaV×ZaV×ZaV):=some ((ZaV.mk 1 b.fGroup),(ZaV.mk 2 b.fPing),(ZaV.mk 3 b.fWork),(ZaV.mk 4 b.fTime))
theorem Ztx(b:Zax)(r:(ZaV×ZaV×ZaV×ZaV))(d:Zlx b=some r):Yo 254 [.agg (Zax.c b)] (.agg ((cP ZaV.c (cP ZaV.c (cP ZaV.c ZaV.c))) r)):=by
 refine Yu Tryz.func254 fun S0 w0=>?_;unfold Zlx at d;apply Ya d 4 [rz,rz] [] .n
def Zfc(f:List Zaa):Nat->(List Int)->Int->Int->(List Zaa)->Option (List Zaa)|0,_,_,_,_=>none|fu+1,e,g,b,h=>bif(decide (b<g))then need (0<=b/\b<(e.length:Int))<|need (0<=(e.getD b.toNat (0:Int))/\(e.getD b.toNat (0:Int))<(f.length:Int))<|need ((h++([(f.getD (e.getD b.toNat (0:Int)).toNat Zaa.d)]:List Zaa)).length * 80<=140737488355328/\(h++([(f.getD (e.getD b.toNat (0:Int)).toNat Zaa.d)]:List Zaa)).length<=maxLen)<|Zfc f fu e g (Zan b 1) (h++([(f.getD (e.getD b.toNat (0:Int)).toNat Zaa.d)]:List Zaa))else some h
theorem ZrJ(g:List Zaa):∀(t:Nat)(b:List Int)(o f:Int)(p r:List Zaa),Zfc g t b o f p=some r->Yr 26 S0 w0 Tryz.f257 [(lL 99999 44 10 Zaa.c Zaa.d r)] (.one (.osl 99999 r.length)) [1,1,0,1,0] ⟨[(0,(Ym g)),(5,.one (.osl 5 p.length)),(11,.one (cL 1 lP (0:Int) b)),(12,(Yj o)),(13,(Yj f))],[(lL 5 44 10 Zaa.c Zaa.d p)]⟩:=by
 intro t;induction t with
 |zero=>
  intro b o f p r h;simp[Zfc]at h
 |succ t y=>
  intro b o f p r h;unfold Zfc at h;obtain⟨u,h⟩|⟨u,h⟩:=Zae h
  .obtain⟨z,A,h⟩:=Ys h;obtain⟨v,h⟩:=Zap h;exact Ye 14 [rz,rz,⟨[(6,.c ((p++([(g.getD (b.getD f.toNat (0:Int)).toNat Zaa.d)]:List Zaa)).length) (Zal Zaa.c Zaa.d (p++([(g.getD (b.getD f.toNat (0:Int)).toNat Zaa.d)]:List Zaa))))],[],[],[],[],[(5,(([(g.getD (b.getD f.toNat (0:Int)).toNat Zaa.d)]:List Zaa).length,Zal Zaa.c Zaa.d ([(g.getD (b.getD f.toNat (0:Int)).toNat Zaa.d)]:List Zaa)))],[]⟩,rz] [true] (lK [0,5,11,12,13] [23] [(23,5)]) (lX u z A (ml (e:=Zaa.c) Zaa.d 10 (fun _=>rfl) ([(g.getD (b.getD f.toNat (0:Int)).toNat Zaa.d)]:List Zaa)) (ZcO (sz:=10) (e:=Zaa.c) (d:=Zaa.d) p ([(g.getD (b.getD f.toNat (0:Int)).toNat Zaa.d)]:List Zaa)) v.1 v.2) (y b o (Zan f 1) (p++([(g.getD (b.getD f.toNat (0:Int)).toNat Zaa.d)]:List Zaa)) r h)
  .apply Yc h 8 [rz,rz] [false] (lK [4] [5] [(5,99999)]) (lR u)
def ZdM(d:List Zaa)(b:List Int):Option (List Zaa):=need (0<=(0:Int)/\(0:Int)<=(b.length:Int)/\(b.length:Int)<=140737488355328/\(b.length:Int) * 80<=140737488355328)<|Zfc d (((b.length:Int)-(0:Int)).toNat+2) b (b.length:Int) (0:Int) ([]:List Zaa)
theorem Zty(f:List Zaa)(b:List Int)(r:List Zaa)(e:ZdM f b=some r):Yp 257 [] [Ym f,.one (cL 1 lP (0:Int) b)] [(lL 99999 44 10 Zaa.c Zaa.d r)] (.one (.osl 99999 r.length)):=by
 refine Yv Tryz.func257 fun S0 w0=>?_;unfold ZdM at e;obtain⟨o1,e⟩:=Zap e;exact Ye 8 [rz,rA [(2,.c 0 (Zal Zaa.c Zaa.d ([]:List Zaa)))],rz] [] ⟨[],[],[],[(5,(([]:List Zaa).length))],[],[0,5,11,12,13],[10],[(10,5)]⟩ (lW (show (0:Int)=((0:Nat):Int)from rfl) o1.2.1 o1.2.2.1 o1.2.2.2 (show ∀i j,i<0->j<10->ZrD (([.lit (.bool false),.lit (.int .u64 (0)),.lit (.int .u64 (0)),.lit (.int .i64 (0)),.lit (.bool false),.lit (.int .i64 (0)),.lit (.int .i64 (0)),.lit (.int .i64 (0)),.lit (.int .i64 (0)),.lit (.int .i64 (0))]:List C).getD j .junk) (Zal Zaa.c Zaa.d ([]:List Zaa) i j)from(fun i j h=>absurd h (Nat.not_lt_zero i))) (show ([]:List Zaa).length=0 from rfl)) (ZrJ S0 w0 f (((b.length:Int)-(0:Int)).toNat+2) b (b.length:Int) (0:Int) ([]:List Zaa) r e)
theorem ZjV(b:List Zaa)(d:List Int)(r:List Zaa)(e:ZdM b d=some r):Yo 257 [Ym b,.one (cL 1 lP (0:Int) d)] (Ym r):=(Zty b d r e).pure
def ZiA(b:Int)(e:Bool)(d:Zaa):Option Bool:=bif e then some true else bif(b==(2:Int))then some (decide (d.fPing>(0:Int)))else bif(b==(3:Int))then some (decide (d.fWork>(0:Int)))else some false
theorem ZmH(h:Int)(i:Bool)(d:Zaa)(r:Bool)(b:ZiA h i d=some r):Yq 19 S0 w0 Tryz.f320 (Yk r) [1,0,1,0,1] ⟨[(2,.one (.ptr 2 0)),(5,(Yj h)),(6,(Yk i))],[(2,.box (Zaa.c d))]⟩:=by
 unfold ZiA at b;obtain⟨e,b⟩|⟨e,b⟩:=Zae b
 .apply Ya b 3 [rz] [true] (lR e)
 .obtain⟨f,b⟩|⟨f,b⟩:=Zae b
  .apply Ya b 6 [rz,rz] [false,true] (lS e f)
  .obtain⟨g,b⟩|⟨g,b⟩:=Zae b
   .apply Ya b 9 [rz,rz,rz] [false,false,true] (lT e f g)
   .apply Ya b 11 [rz,rz,rz] [false,false,false] (lT e f g)
def Zkz(d:Zaa)(b:Int):Option Bool:=bif(b==(1:Int))then ZiA b (b==(1:Int)) d else ZiA b (b==(4:Int)) d
theorem Zui(e:Zaa)(b:Int)(r:Bool)(d:Zkz e b=some r):Yo 320 [.agg (Zaa.c e),Yj b] (Yk r):=by
 refine Yu Tryz.func320 fun S0 w0=>?_;unfold Zkz at d;obtain⟨f,d⟩|⟨f,d⟩:=Zae d
 .exact Ye 11 [rz,rz,rz] [true] (lI [2,5,6] [2]) (lR f) (ZmH S0 w0 b (b==(1:Int)) e r d)
 .exact Ye 11 [rz,rz,rz,rz] [false] (lI [2,5,6] [2]) (lR f) (ZmH S0 w0 b (b==(4:Int)) e r d)
def Zkd(b:Zaf):Option Int:=bif b.fV6 then some (32:Int)else some (16:Int)
theorem ZvI(e:Zaf)(r:Int)(b:Zkd e=some r):Yo 260 [.agg (Zaf.c e)] (Yj r):=by
 refine Yu Tryz.func260 fun S0 w0=>?_;unfold Zkd at b;obtain⟨d,b⟩|⟨d,b⟩:=Zae b
 .apply Ya b 8 [rz,rz,rz] [true] (lR d)
 .apply Ya b 9 [rz,rz,rz] [false] (lR d)
def Zgz(b:Zaf):Option Zaj:=(Zkd b).bind fun d=>(ZgR b d).bind fun e=>some e.1
theorem Zmo(d:Zaf)(r:Zaj)(b:Zgz d=some r):Yo 186 [.agg (Zaf.c d)] (.agg (Zaj.c r)):=by
 refine Yu Tryz.func186 fun S0 w0=>?_;unfold Zgz at b;obtain⟨f,e,g,h,b⟩:=Yt b;apply Ya b 6 [rz,rA [(2,aI f),(3,.r (.tup [(true,Zaj.c e.1),(false,cB e.2)]) [])],rz] [] (lS (ZvI _ _ g) (Zhy _ _ _ h))
def ZmL(b:Int):Option Int:=some (IntKind.wrap .u64 (((BitVec.ofInt (IntKind.bits .u64) (IntKind.wrap .u64 ((IntKind.wrap .u64 (((BitVec.ofInt (IntKind.bits .u64) (IntKind.wrap .u64 ((IntKind.wrap .u64 (((BitVec.ofInt (IntKind.bits .u64) b) ^^^ (BitVec.ofInt (IntKind.bits .u64) (Int.fdiv b (2 ^ (min (30:Int).toNat (IntKind.bits .u64)))))).toNat:Int))*(13787848793156543929:Int)))) ^^^ (BitVec.ofInt (IntKind.bits .u64) (Int.fdiv (IntKind.wrap .u64 ((IntKind.wrap .u64 (((BitVec.ofInt (IntKind.bits .u64) b) ^^^ (BitVec.ofInt (IntKind.bits .u64) (Int.fdiv b (2 ^ (min (30:Int).toNat (IntKind.bits .u64)))))).toNat:Int))*(13787848793156543929:Int))) (2 ^ (min (27:Int).toNat (IntKind.bits .u64)))))).toNat:Int))*(10723151780598845931:Int)))) ^^^ (BitVec.ofInt (IntKind.bits .u64) (Int.fdiv (IntKind.wrap .u64 ((IntKind.wrap .u64 (((BitVec.ofInt (IntKind.bits .u64) (IntKind.wrap .u64 ((IntKind.wrap .u64 (((BitVec.ofInt (IntKind.bits .u64) b) ^^^ (BitVec.ofInt (IntKind.bits .u64) (Int.fdiv b (2 ^ (min (30:Int).toNat (IntKind.bits .u64)))))).toNat:Int))*(13787848793156543929:Int)))) ^^^ (BitVec.ofInt (IntKind.bits .u64) (Int.fdiv (IntKind.wrap .u64 ((IntKind.wrap .u64 (((BitVec.ofInt (IntKind.bits .u64) b) ^^^ (BitVec.ofInt (IntKind.bits .u64) (Int.fdiv b (2 ^ (min (30:Int).toNat (IntKind.bits .u64)))))).toNat:Int))*(13787848793156543929:Int))) (2 ^ (min (27:Int).toNat (IntKind.bits .u64)))))).toNat:Int))*(10723151780598845931:Int))) (2 ^ (min (31:Int).toNat (IntKind.bits .u64)))))).toNat:Int))
theorem Zqp(b r:Int)(d:ZmL b=some r):Yo 390 [.one (.lit (.int .u64 b))] (.one (.lit (.int .u64 r))):=by
 refine Yu Tryz.func390 fun S0 w0=>?_;unfold ZmL at d;apply Ya d 8 [rz,rz,rz,rz] [] (lT (mr (30:Int) rfl) (mr (27:Int) rfl) (mr (31:Int) rfl))
def Zet(d b:Int):Option Int:=need (0<=(IntKind.wrap .u64 (((BitVec.ofInt (IntKind.bits .u64) (IntKind.wrap .u64 b)) &&& (BitVec.ofInt (IntKind.bits .u64) (63:Int))).toNat:Int)))<|need (0<=(IntKind.wrap .u64 ((64:Int)-(IntKind.wrap .u64 (((BitVec.ofInt (IntKind.bits .u64) (IntKind.wrap .u64 b)) &&& (BitVec.ofInt (IntKind.bits .u64) (63:Int))).toNat:Int)))))<|some (IntKind.wrap .u64 (((BitVec.ofInt (IntKind.bits .u64) (IntKind.wrap .u64 (d * 2 ^ (min (IntKind.wrap .u64 (((BitVec.ofInt (IntKind.bits .u64) (IntKind.wrap .u64 b)) &&& (BitVec.ofInt (IntKind.bits .u64) (63:Int))).toNat:Int)).toNat (IntKind.bits .u64))))) ||| (BitVec.ofInt (IntKind.bits .u64) (Int.fdiv d (2 ^ (min (IntKind.wrap .u64 ((64:Int)-(IntKind.wrap .u64 (((BitVec.ofInt (IntKind.bits .u64) (IntKind.wrap .u64 b)) &&& (BitVec.ofInt (IntKind.bits .u64) (63:Int))).toNat:Int)))).toNat (IntKind.bits .u64)))))).toNat:Int))
theorem ZmM(d e r:Int)(b:Zet d e=some r):Yo 391 [.one (.lit (.int .u64 d)),Yj e] (.one (.lit (.int .u64 r))):=by
 refine Yu Tryz.func391 fun S0 w0=>?_;unfold Zet at b;obtain⟨o1,f,b⟩:=Ys b;apply Ya b 6 [rz,rz,rz] [] (lS o1 f)
end Go.Proofs.YtmnloegcpaahcaaGreat
