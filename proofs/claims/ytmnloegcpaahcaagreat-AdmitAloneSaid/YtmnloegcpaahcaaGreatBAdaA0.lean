import Derived.Test.YtmnloegcpaahcaaGreatBAdaT
namespace Go.Proofs.YtmnloegcpaahcaaGreat
open Go.RowKit Go.Lib Go.Shelf
set_option linter.unusedVariables false
set_option maxRecDepth 100000
variable (S0:Nat->Prop)(w0:ZaW)
theorem Zsa : (Tryz.prog.fieldsOf 28).toList = [{ name := "V6", type := 4, offset := 0, embedded := false, tag := "", pkgPath := "", byteOffset := 0 }, { name := "Hi", type := 22, offset := 1, embedded := false, tag := "", pkgPath := "", byteOffset := 8 }, { name := "Lo", type := 22, offset := 2, embedded := false, tag := "", pkgPath := "", byteOffset := 16 }] := by kernel_rfl
theorem ZmX(d:Nat)(x y:Zaf)(w:World):(Op.equalIn (d+2) 28 (.agg #[.bool x.fV6,.int .u64 x.fHi,.int .u64 x.fLo]) (.agg #[.bool y.fV6,.int .u64 y.fHi,.int .u64 y.fLo])).run Tryz.prog w=.ok (decide (x=y)) w:=by rw[run_equalIn_struct w (d+1) _ _ _ (by kernel_rfl) (by kernel_rfl)];simp only[Zsa,Op.eqFields];simp[go_sem];cases x;cases y;simp only[Zaf.mk.injEq];(repeat' split)<;>simp_all
theorem ZlD(x y:Zaf)(xo yo:Operand):∀w,(do eqGuard .eql 28 xo yo (.agg #[.bool x.fV6,.int .u64 x.fHi,.int .u64 x.fLo]) (.agg #[.bool y.fV6,.int .u64 y.fHi,.int .u64 y.fLo]);binOp .eql 28 (.agg #[.bool x.fV6,.int .u64 x.fHi,.int .u64 x.fLo]) (.agg #[.bool y.fV6,.int .u64 y.fHi,.int .u64 y.fLo]):Sem Value).run Tryz.prog w=.ok (.bool (decide (x=y))) w:=by
 intro w;have hg:(eqGuard .eql 28 xo yo (.agg #[.bool x.fV6,.int .u64 x.fHi,.int .u64 x.fLo]) (.agg #[.bool y.fV6,.int .u64 y.fHi,.int .u64 y.fLo])).run Tryz.prog w=.ok () w:=by simp[eqGuard,Sem.run_bind,Tryz.eqGuardType28]
 rw[Sem.run_bind,hg,Result.andThen_ok,run_eql_struct];exact congrArg (fun r:Result Bool=>r.andThen fun b w'=>Result.ok (Value.bool b) w') (ZmX 9998 x y w)
theorem ZsV : (Tryz.prog.fieldsOf 30).toList = [{ name := "Addr", type := 28, offset := 0, embedded := false, tag := "", pkgPath := "", byteOffset := 0 }, { name := "Port", type := 3, offset := 3, embedded := false, tag := "", pkgPath := "", byteOffset := 24 }] := by kernel_rfl
theorem Zok(d:Nat)(x y:Zal)(w:World):(Op.equalIn (d+4) 30 (.agg #[.bool x.fAddr.fV6,.int .u64 x.fAddr.fHi,.int .u64 x.fAddr.fLo,.int .i64 x.fPort]) (.agg #[.bool y.fAddr.fV6,.int .u64 y.fAddr.fHi,.int .u64 y.fAddr.fLo,.int .i64 y.fPort])).run Tryz.prog w=.ok (decide (x=y)) w:=by rw[run_equalIn_struct w (d+3) _ _ _ (by kernel_rfl) (by kernel_rfl)];simp only[ZsV,Op.eqFields];simp[go_sem,ZmX];cases x;cases y;simp only[Zal.mk.injEq];(repeat' split)<;>simp_all
theorem ZkY(x y:Zal)(xo yo:Operand):∀w,(do eqGuard .eql 30 xo yo (.agg #[.bool x.fAddr.fV6,.int .u64 x.fAddr.fHi,.int .u64 x.fAddr.fLo,.int .i64 x.fPort]) (.agg #[.bool y.fAddr.fV6,.int .u64 y.fAddr.fHi,.int .u64 y.fAddr.fLo,.int .i64 y.fPort]);binOp .eql 30 (.agg #[.bool x.fAddr.fV6,.int .u64 x.fAddr.fHi,.int .u64 x.fAddr.fLo,.int .i64 x.fPort]) (.agg #[.bool y.fAddr.fV6,.int .u64 y.fAddr.fHi,.int .u64 y.fAddr.fLo,.int .i64 y.fPort]):Sem Value).run Tryz.prog w=.ok (.bool (decide (x=y))) w:=by
 intro w;have hg:(eqGuard .eql 30 xo yo (.agg #[.bool x.fAddr.fV6,.int .u64 x.fAddr.fHi,.int .u64 x.fAddr.fLo,.int .i64 x.fPort]) (.agg #[.bool y.fAddr.fV6,.int .u64 y.fAddr.fHi,.int .u64 y.fAddr.fLo,.int .i64 y.fPort])).run Tryz.prog w=.ok () w:=by simp[eqGuard,Sem.run_bind,Tryz.eqGuardType30]
 rw[Sem.run_bind,hg,Result.andThen_ok,run_eql_struct];exact congrArg (fun r:Result Bool=>r.andThen fun b w'=>Result.ok (Value.bool b) w') (Zok 9996 x y w)
theorem ZsU : (Tryz.prog.fieldsOf 32).toList = [{ name := "Addr", type := 28, offset := 0, embedded := false, tag := "", pkgPath := "", byteOffset := 0 }, { name := "Bits", type := 3, offset := 3, embedded := false, tag := "", pkgPath := "", byteOffset := 24 }] := by kernel_rfl
theorem ZlE(d:Nat)(x y:Zap)(w:World):(Op.equalIn (d+4) 32 (.agg #[.bool x.fAddr.fV6,.int .u64 x.fAddr.fHi,.int .u64 x.fAddr.fLo,.int .i64 x.fBits]) (.agg #[.bool y.fAddr.fV6,.int .u64 y.fAddr.fHi,.int .u64 y.fAddr.fLo,.int .i64 y.fBits])).run Tryz.prog w=.ok (decide (x=y)) w:=by rw[run_equalIn_struct w (d+3) _ _ _ (by kernel_rfl) (by kernel_rfl)];simp only[ZsU,Op.eqFields];simp[go_sem,ZmX];cases x;cases y;simp only[Zap.mk.injEq];(repeat' split)<;>simp_all
theorem ZsT(x y:Zap)(xo yo:Operand):∀w,(do eqGuard .eql 32 xo yo (.agg #[.bool x.fAddr.fV6,.int .u64 x.fAddr.fHi,.int .u64 x.fAddr.fLo,.int .i64 x.fBits]) (.agg #[.bool y.fAddr.fV6,.int .u64 y.fAddr.fHi,.int .u64 y.fAddr.fLo,.int .i64 y.fBits]);binOp .eql 32 (.agg #[.bool x.fAddr.fV6,.int .u64 x.fAddr.fHi,.int .u64 x.fAddr.fLo,.int .i64 x.fBits]) (.agg #[.bool y.fAddr.fV6,.int .u64 y.fAddr.fHi,.int .u64 y.fAddr.fLo,.int .i64 y.fBits]):Sem Value).run Tryz.prog w=.ok (.bool (decide (x=y))) w:=by
 intro w;have hg:(eqGuard .eql 32 xo yo (.agg #[.bool x.fAddr.fV6,.int .u64 x.fAddr.fHi,.int .u64 x.fAddr.fLo,.int .i64 x.fBits]) (.agg #[.bool y.fAddr.fV6,.int .u64 y.fAddr.fHi,.int .u64 y.fAddr.fLo,.int .i64 y.fBits])).run Tryz.prog w=.ok () w:=by simp[eqGuard,Sem.run_bind,Tryz.eqGuardType32]
 rw[Sem.run_bind,hg,Result.andThen_ok,run_eql_struct];exact congrArg (fun r:Result Bool=>r.andThen fun b w'=>Result.ok (Value.bool b) w') (ZlE 9996 x y w)
theorem Zyl(x y:Zap)(xo yo:Operand):∀w,(do eqGuard .neq 32 xo yo (.agg #[.bool x.fAddr.fV6,.int .u64 x.fAddr.fHi,.int .u64 x.fAddr.fLo,.int .i64 x.fBits]) (.agg #[.bool y.fAddr.fV6,.int .u64 y.fAddr.fHi,.int .u64 y.fAddr.fLo,.int .i64 y.fBits]);binOp .neq 32 (.agg #[.bool x.fAddr.fV6,.int .u64 x.fAddr.fHi,.int .u64 x.fAddr.fLo,.int .i64 x.fBits]) (.agg #[.bool y.fAddr.fV6,.int .u64 y.fAddr.fHi,.int .u64 y.fAddr.fLo,.int .i64 y.fBits]):Sem Value).run Tryz.prog w=.ok (.bool (!decide (x=y))) w:=by
 intro w;have hg:(eqGuard .neq 32 xo yo (.agg #[.bool x.fAddr.fV6,.int .u64 x.fAddr.fHi,.int .u64 x.fAddr.fLo,.int .i64 x.fBits]) (.agg #[.bool y.fAddr.fV6,.int .u64 y.fAddr.fHi,.int .u64 y.fAddr.fLo,.int .i64 y.fBits])).run Tryz.prog w=.ok () w:=by simp[eqGuard,Sem.run_bind,Tryz.eqGuardType32]
 rw[Sem.run_bind,hg,Result.andThen_ok,run_neq_struct];exact congrArg (fun r:Result Bool=>r.andThen fun b w'=>Result.ok (Value.bool (!b)) w') (ZlE 9996 x y w)
theorem Zrp : (Tryz.prog.fieldsOf 42).toList = [{ name := "Points", type := 3, offset := 0, embedded := false, tag := "", pkgPath := "", byteOffset := 0 }, { name := "At", type := 3, offset := 1, embedded := false, tag := "", pkgPath := "", byteOffset := 8 }] := by kernel_rfl
theorem Zuf(d:Nat)(x y:ZaD)(w:World):(Op.equalIn (d+2) 42 (.agg #[.int .i64 x.fPoints,.int .i64 x.fAt]) (.agg #[.int .i64 y.fPoints,.int .i64 y.fAt])).run Tryz.prog w=.ok (decide (x=y)) w:=by rw[run_equalIn_struct w (d+1) _ _ _ (by kernel_rfl) (by kernel_rfl)];simp only[Zrp,Op.eqFields];simp[go_sem];cases x;cases y;simp only[ZaD.mk.injEq];(repeat' split)<;>simp_all
theorem ZrZ : (Tryz.prog.fieldsOf 44).toList = [{ name := "End", type := 30, offset := 0, embedded := false, tag := "", pkgPath := "", byteOffset := 0 }, { name := "In", type := 4, offset := 4, embedded := false, tag := "", pkgPath := "", byteOffset := 32 }, { name := "Since", type := 3, offset := 5, embedded := false, tag := "", pkgPath := "", byteOffset := 40 }, { name := "Score", type := 42, offset := 6, embedded := false, tag := "", pkgPath := "", byteOffset := 48 }, { name := "Ping", type := 3, offset := 8, embedded := false, tag := "", pkgPath := "", byteOffset := 64 }, { name := "Work", type := 3, offset := 9, embedded := false, tag := "", pkgPath := "", byteOffset := 72 }] := by kernel_rfl
theorem ZvX(d:Nat)(x y:Zaa)(w:World):(Op.equalIn (d+6) 44 (.agg #[.bool x.fEnd.fAddr.fV6,.int .u64 x.fEnd.fAddr.fHi,.int .u64 x.fEnd.fAddr.fLo,.int .i64 x.fEnd.fPort,.bool x.fIn,.int .i64 x.fSince,.int .i64 x.fScore.fPoints,.int .i64 x.fScore.fAt,.int .i64 x.fPing,.int .i64 x.fWork]) (.agg #[.bool y.fEnd.fAddr.fV6,.int .u64 y.fEnd.fAddr.fHi,.int .u64 y.fEnd.fAddr.fLo,.int .i64 y.fEnd.fPort,.bool y.fIn,.int .i64 y.fSince,.int .i64 y.fScore.fPoints,.int .i64 y.fScore.fAt,.int .i64 y.fPing,.int .i64 y.fWork])).run Tryz.prog w=.ok (decide (x=y)) w:=by rw[run_equalIn_struct w (d+5) _ _ _ (by kernel_rfl) (by kernel_rfl)];simp only[ZrZ,Op.eqFields];simp[go_sem,Zok,Zuf];cases x;cases y;simp only[Zaa.mk.injEq];(repeat' split)<;>simp_all
theorem Zrx(x y:Zaa)(xo yo:Operand):∀w,(do eqGuard .neq 44 xo yo (.agg #[.bool x.fEnd.fAddr.fV6,.int .u64 x.fEnd.fAddr.fHi,.int .u64 x.fEnd.fAddr.fLo,.int .i64 x.fEnd.fPort,.bool x.fIn,.int .i64 x.fSince,.int .i64 x.fScore.fPoints,.int .i64 x.fScore.fAt,.int .i64 x.fPing,.int .i64 x.fWork]) (.agg #[.bool y.fEnd.fAddr.fV6,.int .u64 y.fEnd.fAddr.fHi,.int .u64 y.fEnd.fAddr.fLo,.int .i64 y.fEnd.fPort,.bool y.fIn,.int .i64 y.fSince,.int .i64 y.fScore.fPoints,.int .i64 y.fScore.fAt,.int .i64 y.fPing,.int .i64 y.fWork]);binOp .neq 44 (.agg #[.bool x.fEnd.fAddr.fV6,.int .u64 x.fEnd.fAddr.fHi,.int .u64 x.fEnd.fAddr.fLo,.int .i64 x.fEnd.fPort,.bool x.fIn,.int .i64 x.fSince,.int .i64 x.fScore.fPoints,.int .i64 x.fScore.fAt,.int .i64 x.fPing,.int .i64 x.fWork]) (.agg #[.bool y.fEnd.fAddr.fV6,.int .u64 y.fEnd.fAddr.fHi,.int .u64 y.fEnd.fAddr.fLo,.int .i64 y.fEnd.fPort,.bool y.fIn,.int .i64 y.fSince,.int .i64 y.fScore.fPoints,.int .i64 y.fScore.fAt,.int .i64 y.fPing,.int .i64 y.fWork]):Sem Value).run Tryz.prog w=.ok (.bool (!decide (x=y))) w:=by
 intro w;have hg:(eqGuard .neq 44 xo yo (.agg #[.bool x.fEnd.fAddr.fV6,.int .u64 x.fEnd.fAddr.fHi,.int .u64 x.fEnd.fAddr.fLo,.int .i64 x.fEnd.fPort,.bool x.fIn,.int .i64 x.fSince,.int .i64 x.fScore.fPoints,.int .i64 x.fScore.fAt,.int .i64 x.fPing,.int .i64 x.fWork]) (.agg #[.bool y.fEnd.fAddr.fV6,.int .u64 y.fEnd.fAddr.fHi,.int .u64 y.fEnd.fAddr.fLo,.int .i64 y.fEnd.fPort,.bool y.fIn,.int .i64 y.fSince,.int .i64 y.fScore.fPoints,.int .i64 y.fScore.fAt,.int .i64 y.fPing,.int .i64 y.fWork])).run Tryz.prog w=.ok () w:=by simp[eqGuard,Sem.run_bind,Tryz.eqGuardType44]
 rw[Sem.run_bind,hg,Result.andThen_ok,run_neq_struct];exact congrArg (fun r:Result Bool=>r.andThen fun b w'=>Result.ok (Value.bool (!b)) w') (ZvX 9994 x y w)
theorem ZsW : (Tryz.prog.fieldsOf 94).toList = [{ name := "Net", type := 32, offset := 0, embedded := false, tag := "", pkgPath := "", byteOffset := 0 }, { name := "Until", type := 3, offset := 4, embedded := false, tag := "", pkgPath := "", byteOffset := 32 }] := by kernel_rfl
theorem ZwM(d:Nat)(x y:Zae)(w:World):(Op.equalIn (d+6) 94 (.agg #[.bool x.fNet.fAddr.fV6,.int .u64 x.fNet.fAddr.fHi,.int .u64 x.fNet.fAddr.fLo,.int .i64 x.fNet.fBits,.int .i64 x.fUntil]) (.agg #[.bool y.fNet.fAddr.fV6,.int .u64 y.fNet.fAddr.fHi,.int .u64 y.fNet.fAddr.fLo,.int .i64 y.fNet.fBits,.int .i64 y.fUntil])).run Tryz.prog w=.ok (decide (x=y)) w:=by rw[run_equalIn_struct w (d+5) _ _ _ (by kernel_rfl) (by kernel_rfl)];simp only[ZsW,Op.eqFields];simp[go_sem,ZlE];cases x;cases y;simp only[Zae.mk.injEq];(repeat' split)<;>simp_all
theorem Zym(x y:Zae)(xo yo:Operand):∀w,(do eqGuard .neq 94 xo yo (.agg #[.bool x.fNet.fAddr.fV6,.int .u64 x.fNet.fAddr.fHi,.int .u64 x.fNet.fAddr.fLo,.int .i64 x.fNet.fBits,.int .i64 x.fUntil]) (.agg #[.bool y.fNet.fAddr.fV6,.int .u64 y.fNet.fAddr.fHi,.int .u64 y.fNet.fAddr.fLo,.int .i64 y.fNet.fBits,.int .i64 y.fUntil]);binOp .neq 94 (.agg #[.bool x.fNet.fAddr.fV6,.int .u64 x.fNet.fAddr.fHi,.int .u64 x.fNet.fAddr.fLo,.int .i64 x.fNet.fBits,.int .i64 x.fUntil]) (.agg #[.bool y.fNet.fAddr.fV6,.int .u64 y.fNet.fAddr.fHi,.int .u64 y.fNet.fAddr.fLo,.int .i64 y.fNet.fBits,.int .i64 y.fUntil]):Sem Value).run Tryz.prog w=.ok (.bool (!decide (x=y))) w:=by
 intro w;have hg:(eqGuard .neq 94 xo yo (.agg #[.bool x.fNet.fAddr.fV6,.int .u64 x.fNet.fAddr.fHi,.int .u64 x.fNet.fAddr.fLo,.int .i64 x.fNet.fBits,.int .i64 x.fUntil]) (.agg #[.bool y.fNet.fAddr.fV6,.int .u64 y.fNet.fAddr.fHi,.int .u64 y.fNet.fAddr.fLo,.int .i64 y.fNet.fBits,.int .i64 y.fUntil])).run Tryz.prog w=.ok () w:=by simp[eqGuard,Sem.run_bind,Tryz.eqGuardType94]
 rw[Sem.run_bind,hg,Result.andThen_ok,run_neq_struct];exact congrArg (fun r:Result Bool=>r.andThen fun b w'=>Result.ok (Value.bool (!b)) w') (ZwM 9994 x y w)
theorem Zrq : (Tryz.prog.fieldsOf 113).toList = [{ name := "End", type := 30, offset := 0, embedded := false, tag := "", pkgPath := "", byteOffset := 0 }, { name := "State", type := 3, offset := 4, embedded := false, tag := "", pkgPath := "", byteOffset := 32 }, { name := "Fails", type := 3, offset := 5, embedded := false, tag := "", pkgPath := "", byteOffset := 40 }, { name := "Next", type := 3, offset := 6, embedded := false, tag := "", pkgPath := "", byteOffset := 48 }] := by kernel_rfl
theorem Zug(d:Nat)(x y:Zac)(w:World):(Op.equalIn (d+6) 113 (.agg #[.bool x.fEnd.fAddr.fV6,.int .u64 x.fEnd.fAddr.fHi,.int .u64 x.fEnd.fAddr.fLo,.int .i64 x.fEnd.fPort,.int .i64 x.fState,.int .i64 x.fFails,.int .i64 x.fNext]) (.agg #[.bool y.fEnd.fAddr.fV6,.int .u64 y.fEnd.fAddr.fHi,.int .u64 y.fEnd.fAddr.fLo,.int .i64 y.fEnd.fPort,.int .i64 y.fState,.int .i64 y.fFails,.int .i64 y.fNext])).run Tryz.prog w=.ok (decide (x=y)) w:=by rw[run_equalIn_struct w (d+5) _ _ _ (by kernel_rfl) (by kernel_rfl)];simp only[Zrq,Op.eqFields];simp[go_sem,Zok];cases x;cases y;simp only[Zac.mk.injEq];(repeat' split)<;>simp_all
theorem Zvk(x y:Zac)(xo yo:Operand):∀w,(do eqGuard .neq 113 xo yo (.agg #[.bool x.fEnd.fAddr.fV6,.int .u64 x.fEnd.fAddr.fHi,.int .u64 x.fEnd.fAddr.fLo,.int .i64 x.fEnd.fPort,.int .i64 x.fState,.int .i64 x.fFails,.int .i64 x.fNext]) (.agg #[.bool y.fEnd.fAddr.fV6,.int .u64 y.fEnd.fAddr.fHi,.int .u64 y.fEnd.fAddr.fLo,.int .i64 y.fEnd.fPort,.int .i64 y.fState,.int .i64 y.fFails,.int .i64 y.fNext]);binOp .neq 113 (.agg #[.bool x.fEnd.fAddr.fV6,.int .u64 x.fEnd.fAddr.fHi,.int .u64 x.fEnd.fAddr.fLo,.int .i64 x.fEnd.fPort,.int .i64 x.fState,.int .i64 x.fFails,.int .i64 x.fNext]) (.agg #[.bool y.fEnd.fAddr.fV6,.int .u64 y.fEnd.fAddr.fHi,.int .u64 y.fEnd.fAddr.fLo,.int .i64 y.fEnd.fPort,.int .i64 y.fState,.int .i64 y.fFails,.int .i64 y.fNext]):Sem Value).run Tryz.prog w=.ok (.bool (!decide (x=y))) w:=by
 intro w;have hg:(eqGuard .neq 113 xo yo (.agg #[.bool x.fEnd.fAddr.fV6,.int .u64 x.fEnd.fAddr.fHi,.int .u64 x.fEnd.fAddr.fLo,.int .i64 x.fEnd.fPort,.int .i64 x.fState,.int .i64 x.fFails,.int .i64 x.fNext]) (.agg #[.bool y.fEnd.fAddr.fV6,.int .u64 y.fEnd.fAddr.fHi,.int .u64 y.fEnd.fAddr.fLo,.int .i64 y.fEnd.fPort,.int .i64 y.fState,.int .i64 y.fFails,.int .i64 y.fNext])).run Tryz.prog w=.ok () w:=by simp[eqGuard,Sem.run_bind,Tryz.eqGuardType113]
 rw[Sem.run_bind,hg,Result.andThen_ok,run_neq_struct];exact congrArg (fun r:Result Bool=>r.andThen fun b w'=>Result.ok (Value.bool (!b)) w') (Zug 9994 x y w)
theorem Zik(a b:Zap)(h:(fun k:Zap=>(.agg #[.bool k.fAddr.fV6,.int .u64 k.fAddr.fHi,.int .u64 k.fAddr.fLo,.int .i64 k.fBits]:Value)) a=(fun k:Zap=>(.agg #[.bool k.fAddr.fV6,.int .u64 k.fAddr.fHi,.int .u64 k.fAddr.fLo,.int .i64 k.fBits]:Value)) b):a=b:=by
 obtain⟨⟨d,g,j⟩,o⟩:=a;obtain⟨⟨y5,y6,y7⟩,y8⟩:=b;simp only[Value.agg.injEq]at h;have:=congrArg Array.toList h;simp at this;simp_all
theorem ZtT(e:Bool)(n:Nat)(k:Zap)(w:World):(Instr.checkKey e (n+5) 32 (.agg #[.bool k.fAddr.fV6,.int .u64 k.fAddr.fHi,.int .u64 k.fAddr.fLo,.int .i64 k.fBits])).run Tryz.prog w=.ok () w:=by kernel_rfl
theorem Zku{ν:Type}{vv:ν->V}(k:Zap)(l:List (Zap×ν)):Znd Tryz.prog 32 (.agg #[.bool k.fAddr.fV6,.int .u64 k.fAddr.fHi,.int .u64 k.fAddr.fLo,.int .i64 k.fBits]) ((encM (fun k=>.agg #[.bool k.fAddr.fV6,.int .u64 k.fAddr.fHi,.int .u64 k.fAddr.fLo,.int .i64 k.fBits]) vv l).map (·.1)):=
 ZzW (kv:=fun k:Zap=>.agg #[.bool k.fAddr.fV6,.int .u64 k.fAddr.fHi,.int .u64 k.fAddr.fLo,.int .i64 k.fBits]) Tryz.underlying32 (fun a=>⟨_,rfl⟩) 5 (by decide) ZtT (fun n a b w=>by have:=ZlE (n+1) a b w;simpa[Nat.add_assoc]using this) Zik (fun k=>by simp[Instr.sameBits]) k l
def Zgj(b:Zas):Option Bool:=bif(decide ((b.fBans.length:Int)<=(20:Int)))then bif(decide ((b.fBook.length:Int)<=(20:Int)))then some (decide ((b.fPeers.length:Int)<=(20:Int)))else some false else some false
theorem ZkO(h:Zas)(r:Bool)(b:Zgj h=some r):Yo 15 [.agg (Zas.c h)] (Yk r):=by
 refine Yv Tryz.func15 fun S0 w0=>?_;unfold Zgj at b;obtain⟨d,b⟩|⟨d,b⟩:=Zah b
 .obtain⟨g,b⟩|⟨g,b⟩:=Zah b
  .apply Ya b 4 [rz,rB [(4,true),(10,true)]] [] (md d g)
  .apply Ya b 4 [rz,rB [(4,true),(10,false)]] [] (md d g)
 .apply Ya b 4 [rz,rB [(4,false)]] [] (mc d)
def Zbz(b d g:Int):Option Bool:=bif(decide (b>=d))then some (decide (b<=g))else some false
theorem Zbg(g h j:Int)(r:Bool)(b:Zbz g h j=some r):Yo 43 [Yj g,Yj h,Yj j] (Yk r):=by
 refine Yv Tryz.func43 fun S0 w0=>?_;unfold Zbz at b;obtain⟨d,b⟩|⟨d,b⟩:=Zah b
 .apply Ya b 4 [rz,rB [(3,true)]] [] (mc d)
 .apply Ya b 4 [rz,rB [(3,false)]] [] (mc d)
def ZcM(d:Bool)(b:ZaA)(g:Bool):Option Bool:=(Zbz b.fHalf (1:Int) (1073741824:Int)).bind fun h=>bif h then(Zbz b.fLimit (1:Int) (10000:Int)).bind fun j=>bif j then(Zbz b.fBanFor (1:Int) (1073741824:Int)).bind fun o=>bif o then(Zbz b.fBase (1:Int) (1073741824:Int)).bind fun p=>bif p then(Zbz b.fCap b.fBase (1073741824:Int)).bind fun t=>bif t then(Zbz b.fJitter (0:Int) (1073741824:Int)).bind fun u=>bif d then bif g then bif u then some (decide (b.fSecret<=(9223372036854775807:Int)))else some false else some false else some false else bif d then bif g then some false else some false else some false else bif d then bif g then some false else some false else some false else bif d then bif g then some false else some false else some false else bif d then bif g then some false else some false else some false else bif d then bif g then some false else some false else some false
theorem Zfh(v3:Bool)(d:ZaA)(v4 r:Bool)(b:ZcM v3 d v4=some r):Yr 93 S0 w0 Tryz.f9 (Yk r) [1,1,1] ⟨[(1,.one (.ptr 1 0)),(3,(Yk v3)),(4,(Yk v4))],[(1,.box (ZaA.c d))]⟩:=by
 unfold ZcM at b;obtain⟨g,O,b⟩:=Zad b;obtain⟨E,b⟩|⟨E,b⟩:=Zah b
 .obtain⟨h,U,b⟩:=Zad b;have O1:=(me (Zbg _ _ _ _ O) E (Zbg _ _ _ _ U));obtain⟨a8,b⟩|⟨a8,b⟩:=Zah b
  .obtain⟨u,W,b⟩:=Zad b;have O2:=(mt O1 a8 (Zbg _ _ _ _ W));obtain⟨j,b⟩|⟨j,b⟩:=Zah b
   .obtain⟨F,Z,b⟩:=Zad b;have O3:=(mt O2 j (Zbg _ _ _ _ Z));obtain⟨o,b⟩|⟨o,b⟩:=Zah b
    .obtain⟨R,q25,b⟩:=Zad b;have O4:=(mt O3 o (Zbg _ _ _ _ q25));obtain⟨p,b⟩|⟨p,b⟩:=Zah b
     .obtain⟨ko,q27,b⟩:=Zad b
      let R5:List RA:=[⟨[(2,aB g),(6,aB h),(11,aB u),(16,aB F),(23,aB R),(28,aB ko)],[(3,true),(8,true),(13,true),(18,true),(25,true)],[],[],[],[],[]⟩]
      have O6:=(mt O4 p (Zbg _ _ _ _ q27));obtain⟨t,b⟩|⟨t,b⟩:=Zah b
      .obtain⟨v,b⟩|⟨v,b⟩:=Zah b
       .obtain⟨G,b⟩|⟨G,b⟩:=Zah b
        .apply Ya b 4 (R5++[rB [(1,true),(4,true),(7,true)]]) [] (mu O6 t v G)
        .apply Ya b 4 (R5++[rB [(1,true),(4,true),(7,false)]]) [] (mu O6 t v G)
       .apply Ya b 4 (R5++[rB [(1,true),(4,false)]]) [] (mt O6 t v)
      .apply Ya b 4 (R5++[rB [(1,false)]]) [] (mr O6 t)
     .let R7:List RA:=[⟨[(2,aB g),(6,aB h),(11,aB u),(16,aB F),(23,aB R)],[(3,true),(8,true),(13,true),(18,true),(25,false)],[],[],[],[],[]⟩]
      obtain⟨y,b⟩|⟨y,b⟩:=Zah b
      .obtain⟨H,b⟩|⟨H,b⟩:=Zah b
       .apply Ya b 4 (R7++[rB [(1,true),(4,true)]]) [] (mu O4 p y H)
       .apply Ya b 4 (R7++[rB [(1,true),(4,false)]]) [] (mu O4 p y H)
      .apply Ya b 4 (R7++[rB [(1,false)]]) [] (mt O4 p y)
    .let R8:List RA:=[⟨[(2,aB g),(6,aB h),(11,aB u),(16,aB F)],[(3,true),(8,true),(13,true),(18,false)],[],[],[],[],[]⟩]
     obtain⟨z,b⟩|⟨z,b⟩:=Zah b
     .obtain⟨I,b⟩|⟨I,b⟩:=Zah b
      .apply Ya b 4 (R8++[rB [(1,true),(4,true)]]) [] (mu O3 o z I)
      .apply Ya b 4 (R8++[rB [(1,true),(4,false)]]) [] (mu O3 o z I)
     .apply Ya b 4 (R8++[rB [(1,false)]]) [] (mt O3 o z)
   .let R9:List RA:=[⟨[(2,aB g),(6,aB h),(11,aB u)],[(3,true),(8,true),(13,false)],[],[],[],[],[]⟩]
    obtain⟨A,b⟩|⟨A,b⟩:=Zah b
    .obtain⟨J,b⟩|⟨J,b⟩:=Zah b
     .apply Ya b 4 (R9++[rB [(1,true),(4,true)]]) [] (mu O2 j A J)
     .apply Ya b 4 (R9++[rB [(1,true),(4,false)]]) [] (mu O2 j A J)
    .apply Ya b 4 (R9++[rB [(1,false)]]) [] (mt O2 j A)
  .let gN:List RA:=[⟨[(2,aB g),(6,aB h)],[(3,true),(8,false)],[],[],[],[],[]⟩]
   obtain⟨B,b⟩|⟨B,b⟩:=Zah b
   .obtain⟨L,b⟩|⟨L,b⟩:=Zah b
    .apply Ya b 4 (gN++[rB [(1,true),(4,true)]]) [] (mu O1 a8 B L)
    .apply Ya b 4 (gN++[rB [(1,true),(4,false)]]) [] (mu O1 a8 B L)
   .apply Ya b 4 (gN++[rB [(1,false)]]) [] (mt O1 a8 B)
 .let kp:List RA:=[⟨[(2,aB g)],[(3,false)],[],[],[],[],[]⟩]
  have hC:=(md (Zbg _ _ _ _ O) E);obtain⟨D,b⟩|⟨D,b⟩:=Zah b
  .obtain⟨M,b⟩|⟨M,b⟩:=Zah b
   .apply Ya b 4 (kp++[rB [(1,true),(4,true)]]) [] (mt hC D M)
   .apply Ya b 4 (kp++[rB [(1,true),(4,false)]]) [] (mt hC D M)
  .apply Ya b 4 (kp++[rB [(1,false)]]) [] (mr hC D)
def Zch(d:Bool)(b:ZaA):Option Bool:=(Zbz b.fQuota.fGroup (0:Int) (64:Int)).bind fun g=>bif g then(Zbz b.fQuota.fPing (0:Int) (64:Int)).bind fun h=>bif h then(Zbz b.fQuota.fWork (0:Int) (64:Int)).bind fun j=>bif j then(Zbz b.fQuota.fTime (0:Int) (64:Int)).bind fun o=>ZcM d b o else ZcM d b false else ZcM d b false else ZcM d b false
theorem ZdT(o:Bool)(d:ZaA)(r:Bool)(b:Zch o d=some r):Yr 93 S0 w0 Tryz.f9 (Yk r) [1,1] ⟨[(1,.one (.ptr 1 0)),(3,(Yk o))],[(1,.box (ZaA.c d))]⟩:=by
 unfold Zch at b;obtain⟨t,p,b⟩:=Zad b;obtain⟨g,b⟩|⟨g,b⟩:=Zah b
 .obtain⟨u,v,b⟩:=Zad b;have O13:=(me (Zbg _ _ _ _ p) g (Zbg _ _ _ _ v));obtain⟨h,b⟩|⟨h,b⟩:=Zah b
  .obtain⟨A,y,b⟩:=Zad b;have O14:=(mt O13 h (Zbg _ _ _ _ y));obtain⟨j,b⟩|⟨j,b⟩:=Zah b
   .obtain⟨B,z,b⟩:=Zad b;exact Ye 2 [⟨[(3,aB t),(8,aB u),(14,aB A),(20,aB B)],[(4,true),(10,true),(16,true)],[],[],[],[],[]⟩] [] (lX [1,3,4] [1]) (mt O14 j (Zbg _ _ _ _ z)) (Zfh S0 w0 o d B r b)
   .exact Ye 2 [⟨[(3,aB t),(8,aB u),(14,aB A)],[(4,true),(10,true),(16,false)],[],[],[],[],[]⟩] [] (lX [1,3,4] [1]) (mr O14 j) (Zfh S0 w0 o d false r b)
  .exact Ye 2 [⟨[(3,aB t),(8,aB u)],[(4,true),(10,false)],[],[],[],[],[]⟩] [] (lX [1,3,4] [1]) (mr O13 h) (Zfh S0 w0 o d false r b)
 .exact Ye 2 [⟨[(3,aB t)],[(4,false)],[],[],[],[],[]⟩] [] (lX [1,3,4] [1]) (md (Zbg _ _ _ _ p) g) (Zfh S0 w0 o d false r b)
def Zdv(b:ZaA):Option Bool:=(Zbz b.fMaxIn (0:Int) (65535:Int)).bind fun d=>bif d then(Zbz b.fMaxOut (0:Int) (65535:Int)).bind fun g=>bif g then(Zbz b.fShards (1:Int) (8:Int)).bind fun h=>bif h then(Zbz b.fMaxBans (0:Int) (1024:Int)).bind fun j=>bif j then(Zbz b.fMaxBook (0:Int) (1024:Int)).bind fun o=>Zch o b else Zch false b else Zch false b else Zch false b else Zch false b
theorem ZkI(d:ZaA)(r:Bool)(b:Zdv d=some r):Yo 9 [.agg (ZaA.c d)] (Yk r):=by
 refine Yv Tryz.func9 fun S0 w0=>?_;unfold Zdv at b;obtain⟨g,v,b⟩:=Zad b;obtain⟨j,b⟩|⟨j,b⟩:=Zah b
 .obtain⟨h,A,b⟩:=Zad b;have O15:=(me (Zbg _ _ _ _ v) j (Zbg _ _ _ _ A));obtain⟨o,b⟩|⟨o,b⟩:=Zah b
  .obtain⟨p,B,b⟩:=Zad b;have O16:=(mt O15 o (Zbg _ _ _ _ B));obtain⟨t,b⟩|⟨t,b⟩:=Zah b
   .obtain⟨y,D,b⟩:=Zad b;have O17:=(mt O16 t (Zbg _ _ _ _ D));obtain⟨u,b⟩|⟨u,b⟩:=Zah b
    .obtain⟨z,E,b⟩:=Zad b;exact Ye 4 [rz,⟨[(2,aB g),(6,aB h),(11,aB p),(16,aB y),(21,aB z)],[(3,true),(8,true),(13,true),(18,true)],[],[],[],[],[]⟩] [] (lX [1,3] [1]) (mt O17 u (Zbg _ _ _ _ E)) (ZdT S0 w0 z d r b)
    .exact Ye 4 [rz,⟨[(2,aB g),(6,aB h),(11,aB p),(16,aB y)],[(3,true),(8,true),(13,true),(18,false)],[],[],[],[],[]⟩] [] (lX [1,3] [1]) (mr O17 u) (ZdT S0 w0 false d r b)
   .exact Ye 4 [rz,⟨[(2,aB g),(6,aB h),(11,aB p)],[(3,true),(8,true),(13,false)],[],[],[],[],[]⟩] [] (lX [1,3] [1]) (mr O16 t) (ZdT S0 w0 false d r b)
  .exact Ye 4 [rz,⟨[(2,aB g),(6,aB h)],[(3,true),(8,false)],[],[],[],[],[]⟩] [] (lX [1,3] [1]) (mr O15 o) (ZdT S0 w0 false d r b)
 .exact Ye 4 [rz,⟨[(2,aB g)],[(3,false)],[],[],[],[],[]⟩] [] (lX [1,3] [1]) (md (Zbg _ _ _ _ v) j) (ZdT S0 w0 false d r b)
def Zcc(b:Zaf):Option Bool:=bif(!b.fV6)then bif(b.fHi==(0:Int))then some (decide (b.fLo<(4294967296:Int)))else some false else bif(b.fHi != (0:Int))then some true else some ((IntKind.wrap .u64 (Int.tdiv b.fLo (4294967296:Int))) != (65535:Int))
theorem ZbJ(j:Zaf)(r:Bool)(b:Zcc j=some r):Yo 95 [.agg (Zaf.c j)] (Yk r):=by
 refine Yv Tryz.func95 fun S0 w0=>?_;unfold Zcc at b;obtain⟨d,b⟩|⟨d,b⟩:=Zah b
 .obtain⟨g,b⟩|⟨g,b⟩:=Zah b
  .apply Ya b 8 [rz,rz,rB [(3,true)]] [true] (md d g)
  .apply Ya b 8 [rz,rz,rB [(3,false)]] [true] (md d g)
 .obtain⟨h,b⟩|⟨h,b⟩:=Zah b
  .apply Ya b 9 [rz,rz,rB [(3,true)]] [false] (md d h)
  .apply Ya b 9 [rz,rz,rB [(3,false)]] [false] (me d h (show (4294967296:Int)≠0 from(by decide)))
def Zcj(b:Zaf):Option Int:=bif b.fV6 then some (128:Int)else some (32:Int)
theorem ZcB(g:Zaf)(r:Int)(b:Zcj g=some r):Yo 180 [.agg (Zaf.c g)] (Yj r):=by
 refine Yv Tryz.func180 fun S0 w0=>?_;unfold Zcj at b;obtain⟨d,b⟩|⟨d,b⟩:=Zah b
 .apply Ya b 8 [rz,rz,rz] [true] (mc d)
 .apply Ya b 9 [rz,rz,rz] [false] (mc d)
def ZdK(b d:Int)(g:Zaf):Option Int:=bif(!g.fV6)then need (0<=(IntKind.wrap .u64 (Zbd (31:Int) b)))<|some (IntKind.wrap .i64 (IntKind.wrap .u64 (((BitVec.ofInt (IntKind.bits .u64) (Int.fdiv d (2 ^ (min (IntKind.wrap .u64 (Zbd (31:Int) b)).toNat (IntKind.bits .u64))))) &&& (BitVec.ofInt (IntKind.bits .u64) (1:Int))).toNat:Int)))else need (0<=(IntKind.wrap .u64 (Zbd (63:Int) (Int.tmod b (64:Int)))))<|some (IntKind.wrap .i64 (IntKind.wrap .u64 (((BitVec.ofInt (IntKind.bits .u64) (Int.fdiv d (2 ^ (min (IntKind.wrap .u64 (Zbd (63:Int) (Int.tmod b (64:Int)))).toNat (IntKind.bits .u64))))) &&& (BitVec.ofInt (IntKind.bits .u64) (1:Int))).toNat:Int)))
theorem ZhH(h j:Int)(d:Zaf)(r:Int)(b:ZdK h j d=some r):Yr 39 S0 w0 Tryz.f96 (Yj r) [1,1,1,1] ⟨[(1,(Yj h)),(2,.one (.ptr 2 0)),(5,.one (.lit (.int .u64 j)))],[(2,.box (Zaf.c d))]⟩:=by
 unfold ZdK at b;have O1:=(mc (show (64:Int)≠0 from(by decide)));obtain⟨g,b⟩|⟨g,b⟩:=Zah b
 .obtain⟨o,b⟩:=Zao b;apply Ya b 9 [rz,rz,rz,rz] [true] (mt O1 g o)
 .obtain⟨p,b⟩:=Zao b;apply Ya b 9 [rz,rz,rz] [false] (mt O1 g p)
def Zei(b:Zaf)(d:Int):Option Int:=bif(decide (d<(0:Int)))then some (0:Int)else(Zcj b).bind fun g=>bif(decide (d>=g))then some (0:Int)else bif b.fV6 then bif(decide (d<(64:Int)))then ZdK d b.fHi b else ZdK d b.fLo b else ZdK d b.fLo b
theorem ZiO(d:Zaf)(g r:Int)(b:Zei d g=some r):Yo 96 [.agg (Zaf.c d),Yj g] (Yj r):=by
 refine Yv Tryz.func96 fun S0 w0=>?_;unfold Zei at b;obtain⟨o,b⟩|⟨o,b⟩:=Zah b
 .apply Ya b 8 [rz,rB [(2,true)],rz] [true] (md o (mH true))
 .obtain⟨t,u,b⟩:=Zad b
  let R2:List RA:=[rz,⟨[(5,aI t)],[(2,false)],[],[],[],[],[]⟩,rz]
  have O3:=(md o (ZcB _ _ u));obtain⟨h,b⟩|⟨h,b⟩:=Zah b
  .apply Ya b 8 R2 [true] (mr O3 h)
  .obtain⟨j,b⟩|⟨j,b⟩:=Zah b
   .obtain⟨p,b⟩|⟨p,b⟩:=Zah b
    .exact Ye 14 (R2++[rB [(2,true)],rz]) [false,true] (lX [1,2,5] [2]) (mu O3 h j p) (ZhH S0 w0 g d.fHi d r b)
    .exact Ye 14 (R2++[rB [(2,true)]]) [false,false] (lX [1,2,5] [2]) (mu O3 h j p) (ZhH S0 w0 g d.fLo d r b)
   .exact Ye 14 (R2++[rB [(2,false)]]) [false,false] (lX [1,2,5] [2]) (mu O3 h j (mH false)) (ZhH S0 w0 g d.fLo d r b)
def Zdj:Nat->Int->Zap->Option Bool|0,_,_=>none|fu+1,b,d=>(Zcj d.fAddr).bind fun g=>bif(decide (b<g))then(Zei d.fAddr b).bind fun h=>bif(h==(1:Int))then some false else Zdj fu (Zan b 1) d else some true
theorem ZnD:∀(h:Nat)(g:Int)(d:Zap)(r:Bool),Zdj h g d=some r->Yr 35 S0 w0 Tryz.f94 (Yk r) [1,1,0,1,0] ⟨[(1,.one (.ptr 1 0)),(3,(Yj g))],[(1,.box (Zap.c d))]⟩:=by
 intro h;induction h with
 |zero=>
  intro g d r b;simp[Zdj]at b
 |succ h v=>
  intro g d r b;unfold Zdj at b;obtain⟨j,t,b⟩:=Zad b;obtain⟨o,b⟩|⟨o,b⟩:=Zah b
  .obtain⟨u,y,b⟩:=Zad b;have O1:=(me (ZcB _ _ t) o (ZiO _ _ _ y));obtain⟨p,b⟩|⟨p,b⟩:=Zah b
   .apply Ya b 13 [rA [(3,aI j)],rA [(3,aI u)],rz] [true,true] (mr O1 p)
   .exact Ye 15 [rA [(3,aI j)],rA [(3,aI u)],rz] [true,false] (lX [1,3] [1]) (mr O1 p) (v (Zan g 1) d r b)
  .apply Ya b 8 [rA [(3,aI j)],rz] [false] (md (ZcB _ _ t) o)
def ZdY(b:Zap):Option Bool:=(Zcc b.fAddr).bind fun d=>bif(!d)then some false else bif(decide (b.fBits<(0:Int)))then some false else(Zcj b.fAddr).bind fun g=>bif(decide (b.fBits>g))then some false else Zdj 1000000 b.fBits b
theorem ZeO(d:Zap)(r:Bool)(b:ZdY d=some r):Yo 94 [.agg (Zap.c d)] (Yk r):=by
 refine Yv Tryz.func94 fun S0 w0=>?_;unfold ZdY at b;obtain⟨g,p,b⟩:=Zad b;obtain⟨h,b⟩|⟨h,b⟩:=Zah b
 .apply Ya b 8 [rz,⟨[(2,aB g)],[(4,true)],[],[],[],[],[]⟩,rz] [true] (me (ZbJ _ _ p) h (mH true))
 .have O2:=(md (ZbJ _ _ p) h);obtain⟨j,b⟩|⟨j,b⟩:=Zah b
  .apply Ya b 8 [rz,⟨[(2,aB g)],[(4,false),(9,true)],[],[],[],[],[]⟩,rz] [true] (mt O2 j (mH true))
  .obtain⟨t,u,b⟩:=Zad b
   let R3:List RA:=[rz,⟨[(2,aB g),(14,aI t)],[(4,false),(9,false)],[],[],[],[],[]⟩,rz]
   have O4:=(mt O2 j (ZcB _ _ u));obtain⟨o,b⟩|⟨o,b⟩:=Zah b
   .apply Ya b 8 R3 [true] (mr O4 o)
   .exact Ye 11 R3 [false] (lX [1,3] [1]) (mr O4 o) (ZnD S0 w0 1000000 d.fBits d r b)
def Zgh(b:Zae):Option Bool:=(ZdY b.fNet).bind fun d=>bif d then bif(decide (b.fUntil>(0:Int)))then some (decide (b.fUntil<=(1099511627776:Int)))else some false else some false
theorem Zpy(j:Zae)(r:Bool)(b:Zgh j=some r):Yo 32 [.agg (Zae.c j)] (Yk r):=by
 refine Yv Tryz.func32 fun S0 w0=>?_;unfold Zgh at b;obtain⟨d,o,b⟩:=Zad b;obtain⟨g,b⟩|⟨g,b⟩:=Zah b
 .have O1:=(md (ZeO _ _ o) g);obtain⟨h,b⟩|⟨h,b⟩:=Zah b
  .apply Ya b 4 [rz,⟨[(2,aB d)],[(3,true),(8,true)],[],[],[],[],[]⟩] [] (mr O1 h)
  .apply Ya b 4 [rz,⟨[(2,aB d)],[(3,true),(8,false)],[],[],[],[],[]⟩] [] (mr O1 h)
 .apply Ya b 4 [rz,⟨[(2,aB d)],[(3,false)],[],[],[],[],[]⟩] [] (md (ZeO _ _ o) g)
def Zen(b:Bool):Option Int:=bif b then some (-1:Int)else some (1:Int)
theorem Ziy(g:Bool)(r:Int)(b:Zen g=some r):Yr 33 S0 w0 Tryz.f199 (Yj r) [1,1,1,1,1] ⟨[(5,(Yk g))],[]⟩:=by
 unfold Zen at b;obtain⟨d,b⟩|⟨d,b⟩:=Zah b
 .apply Ya b 6 [rz,rz] [true] (mc d)
 .apply Ya b 7 [rz,rz] [false] (mc d)
def Zeo(d:Bool)(b g:Zaf):Option Int:=bif(!(b.fV6==g.fV6))then Zen (!b.fV6)else Zen d
theorem Ziz(h:Bool)(d g:Zaf)(r:Int)(b:Zeo h d g=some r):Yr 33 S0 w0 Tryz.f199 (Yj r) [1,1,1,1] ⟨[(2,.one (.ptr 2 0)),(3,.one (.ptr 3 0)),(5,(Yk h))],[(2,.box (Zaf.c d)),(3,.box (Zaf.c g))]⟩:=by
 unfold Zeo at b;obtain⟨j,b⟩|⟨j,b⟩:=Zah b
 .exact Ye 5 [rz,rz] [true] (Yi [5]) (mc j) (Ziy S0 w0 (!d.fV6) r b)
 .exact Ye 5 [rz] [false] (Yi [5]) (mc j) (Ziy S0 w0 h r b)
def Zej(b d:Zaf):Option Int:=bif(decide (b=d))then some (0:Int)else bif(b.fHi != d.fHi)then Zeo (decide (b.fHi<d.fHi)) b d else Zeo (decide (b.fLo<d.fLo)) b d
theorem ZfB(b d:Zaf)(r:Int)(g:Zej b d=some r):Yo 199 [.agg (Zaf.c b),.agg (Zaf.c d)] (Yj r):=by
 refine Yv Tryz.func199 fun S0 w0=>?_;unfold Zej at g;have O1:=(mc (ZlD b d (.tmp 6) (.tmp 7)));obtain⟨h,g⟩|⟨h,g⟩:=Zah g
 .apply Ya g 8 [rz,rA [(2,aB (decide (b=d)))],rz] [true] (mr O1 h)
 .obtain⟨j,g⟩|⟨j,g⟩:=Zah g
  .exact Ye 14 [rz,rA [(2,aB (decide (b=d)))],rz,rz,rz] [false,true] (lX [2,3,5] [2,3]) (mt O1 h j) (Ziz S0 w0 (decide (b.fHi<d.fHi)) b d r g)
  .exact Ye 14 [rz,rA [(2,aB (decide (b=d)))],rz,rz] [false,false] (lX [2,3,5] [2,3]) (mt O1 h j) (Ziz S0 w0 (decide (b.fLo<d.fLo)) b d r g)
def Zfp(b d:Zap):Option Int:=(Zej b.fAddr d.fAddr).bind fun g=>bif(g != (0:Int))then some g else bif(b.fBits==d.fBits)then some g else bif(decide (b.fBits<d.fBits))then some (-1:Int)else some (1:Int)
theorem Zoe(o p:Zap)(r:Int)(b:Zfp o p=some r):Yo 123 [.agg (Zap.c o),.agg (Zap.c p)] (Yj r):=by
 refine Yv Tryz.func123 fun S0 w0=>?_;unfold Zfp at b;obtain⟨g,t,b⟩:=Zad b;obtain⟨h,b⟩|⟨h,b⟩:=Zah b
 .apply Ya b 10 [rz,rA [(4,aI g)],rB [(2,true)],rz] [true] (me (ZfB _ _ _ t) h (mH true))
 .have O1:=(md (ZfB _ _ _ t) h);obtain⟨d,b⟩|⟨d,b⟩:=Zah b
  .apply Ya b 10 [rz,rA [(4,aI g)],rB [(2,false)],rz] [true] (mr O1 d)
  .let R2:List RA:=[rz,rA [(4,aI g)],rB [(2,false)],rz,rz]
   obtain⟨j,b⟩|⟨j,b⟩:=Zah b
   .apply Ya b 15 R2 [false,true] (mt O1 d j)
   .apply Ya b 16 R2 [false,false] (mt O1 d j)
def Zci(g:List Zae)(b:Int)(aE:Int->Option Bool):Nat->Int->Option Bool|0,_=>none|fu+1,h=>bif(decide (h<b))then need (0<=h/\h<(g.length:Int))<|need (0<=b/\b<(g.length:Int))<|(Zfp ((g.getD h.toNat Zae.d).fNet) ((g.getD b.toNat Zae.d).fNet)).bind fun j=>bif(decide (j>=(0:Int)))then some false else Zci g b aE fu (Zan h 1)else aE (Zan b 1)
theorem ZnB(h:List Zae)(j:Int)(aE:Int->Option Bool)(bC:∀(el:Int)(r:Bool),aE el=some r->Yr 34 S0 w0 Tryz.f55 (Yk r) [1,0,1,0] ⟨[(0,(Yl h)),(3,(Yj el))],[]⟩):∀(g:Nat)(d:Int)(r:Bool),Zci h j aE g d=some r->Yr 34 S0 w0 Tryz.f55 (Yk r) [1,0,1,0,0,1,0,0,1,1,0] ⟨[(0,(Yl h)),(3,(Yj j)),(4,(Yj d))],[]⟩:=by
 intro g;induction g with
 |zero=>
  intro d r b;simp[Zci]at b
 |succ g u=>
  intro d r b;unfold Zci at b;obtain⟨o,b⟩|⟨o,b⟩:=Zah b
  .obtain⟨v,y,b⟩:=Yt b;obtain⟨t,z,b⟩:=Zad b;have O1:=(mf o v y (Zoe _ _ _ z));obtain⟨p,b⟩|⟨p,b⟩:=Zah b
   .apply Ya b 13 [rz,rA [(10,aI t)],rz] [true,true] (mr O1 p)
   .exact Ye 15 [rz,rA [(10,aI t)],rz] [true,false] (Yi [0,3,4]) (mr O1 p) (u (Zan d 1) r b)
  .exact Ye 9 [rz,rz] [false] (Yi [0,3]) (mc o) (bC (Zan j 1) r b)
def ZbI(g:List Zae):Nat->Int->Option Bool|0,_=>none|fu+1,b=>bif(decide (b<(g.length:Int)))then need (0<=b/\b<(g.length:Int))<|(Zgh (g.getD b.toNat Zae.d)).bind fun h=>bif(!h)then some false else Zci g b (ZbI g fu) ((b-(0:Int)).toNat+2) (0:Int)else some true
theorem ZnC(h:List Zae):∀(g:Nat)(d:Int)(r:Bool),ZbI h g d=some r->Yr 34 S0 w0 Tryz.f55 (Yk r) [1,0,1,0] ⟨[(0,(Yl h)),(3,(Yj d))],[]⟩:=by
 intro g;induction g with
 |zero=>
  intro d r b;simp[ZbI]at b
 |succ g t=>
  intro d r b;unfold ZbI at b;obtain⟨j,b⟩|⟨j,b⟩:=Zah b
  .obtain⟨o2,b⟩:=Zao b;obtain⟨p,u,b⟩:=Zad b;have O2:=(me j o2 (Zpy _ _ u));obtain⟨o,b⟩|⟨o,b⟩:=Zah b
   .apply Ya b 14 [rz,rA [(4,aB p)],rz] [true,true] (mr O2 o)
   .exact Ye 16 [rz,rA [(4,aB p)],rz] [true,false] (Yi [0,3,4]) (mr O2 o) (ZnB S0 w0 h d (ZbI h g) t ((d-(0:Int)).toNat+2) (0:Int) r b)
  .apply Ya b 8 [rz,rz] [false] (mc j)
def Zhu(b:List Zae):Option Bool:=ZbI b (((b.length:Int)-(0:Int)).toNat+2) (0:Int)
theorem Zpx(b:List Zae)(r:Bool)(d:Zhu b=some r):Yo 55 [Yl b] (Yk r):=by
 refine Yv Tryz.func55 fun S0 w0=>?_;unfold Zhu at d;exact Ye 6 [rz,rz] [] (Yi [0,3]) .n (ZnC S0 w0 b (((b.length:Int)-(0:Int)).toNat+2) (0:Int) r d)
def ZdX(b:Zal):Option Bool:=(Zcc b.fAddr).bind fun d=>bif d then bif(decide (b.fPort>(0:Int)))then some (decide (b.fPort<(65536:Int)))else some false else some false
theorem ZeN(j:Zal)(r:Bool)(b:ZdX j=some r):Yo 106 [.agg (Zal.c j)] (Yk r):=by
 refine Yv Tryz.func106 fun S0 w0=>?_;unfold ZdX at b;obtain⟨d,o,b⟩:=Zad b;obtain⟨g,b⟩|⟨g,b⟩:=Zah b
 .have O1:=(md (ZbJ _ _ o) g);obtain⟨h,b⟩|⟨h,b⟩:=Zah b
  .apply Ya b 4 [rz,⟨[(2,aB d)],[(3,true),(8,true)],[],[],[],[],[]⟩] [] (mr O1 h)
  .apply Ya b 4 [rz,⟨[(2,aB d)],[(3,true),(8,false)],[],[],[],[],[]⟩] [] (mr O1 h)
 .apply Ya b 4 [rz,⟨[(2,aB d)],[(3,false)],[],[],[],[],[]⟩] [] (md (ZbJ _ _ o) g)
def Zgd(b:Zac):Option Bool:=(ZdX b.fEnd).bind fun d=>bif d then bif(decide (b.fState>=(1:Int)))then bif(decide (b.fState<=(3:Int)))then bif(decide (b.fFails>=(0:Int)))then bif(decide (b.fFails<=(1000:Int)))then bif(decide (b.fNext>=(0:Int)))then some (decide (b.fNext<=(1099511627776:Int)))else some false else some false else some false else some false else some false else some false
theorem Zps(u:Zac)(r:Bool)(b:Zgd u=some r):Yo 124 [.agg (Zac.c u)] (Yk r):=by
 refine Yv Tryz.func124 fun S0 w0=>?_;unfold Zgd at b;obtain⟨d,v,b⟩:=Zad b;obtain⟨p,b⟩|⟨p,b⟩:=Zah b
 .have O1:=(md (ZeN _ _ v) p);obtain⟨g,b⟩|⟨g,b⟩:=Zah b
  .obtain⟨h,b⟩|⟨h,b⟩:=Zah b
   .obtain⟨j,b⟩|⟨j,b⟩:=Zah b
    .obtain⟨o,b⟩|⟨o,b⟩:=Zah b
     .obtain⟨t,b⟩|⟨t,b⟩:=Zah b
      .apply Ya b 4 [rz,⟨[(2,aB d)],[(3,true),(8,true),(13,true),(18,true),(23,true),(28,true)],[],[],[],[],[]⟩] [] (my O1 g h j o t)
      .apply Ya b 4 [rz,⟨[(2,aB d)],[(3,true),(8,true),(13,true),(18,true),(23,true),(28,false)],[],[],[],[],[]⟩] [] (my O1 g h j o t)
     .apply Ya b 4 [rz,⟨[(2,aB d)],[(3,true),(8,true),(13,true),(18,true),(23,false)],[],[],[],[],[]⟩] [] (mw O1 g h j o)
    .apply Ya b 4 [rz,⟨[(2,aB d)],[(3,true),(8,true),(13,true),(18,false)],[],[],[],[],[]⟩] [] (mu O1 g h j)
   .apply Ya b 4 [rz,⟨[(2,aB d)],[(3,true),(8,true),(13,false)],[],[],[],[],[]⟩] [] (mt O1 g h)
  .apply Ya b 4 [rz,⟨[(2,aB d)],[(3,true),(8,false)],[],[],[],[],[]⟩] [] (mr O1 g)
 .apply Ya b 4 [rz,⟨[(2,aB d)],[(3,false)],[],[],[],[],[]⟩] [] (md (ZeN _ _ v) p)
def ZcA(b d:Zal):Option Int:=(Zej b.fAddr d.fAddr).bind fun g=>bif(g != (0:Int))then some g else bif(b.fPort==d.fPort)then some g else bif(decide (b.fPort<d.fPort))then some (-1:Int)else some (1:Int)
theorem Zem(o p:Zal)(r:Int)(b:ZcA o p=some r):Yo 125 [.agg (Zal.c o),.agg (Zal.c p)] (Yj r):=by
 refine Yv Tryz.func125 fun S0 w0=>?_;unfold ZcA at b;obtain⟨g,t,b⟩:=Zad b;obtain⟨h,b⟩|⟨h,b⟩:=Zah b
 .apply Ya b 10 [rz,rA [(4,aI g)],rB [(2,true)],rz] [true] (me (ZfB _ _ _ t) h (mH true))
 .have O1:=(md (ZfB _ _ _ t) h);obtain⟨d,b⟩|⟨d,b⟩:=Zah b
  .apply Ya b 10 [rz,rA [(4,aI g)],rB [(2,false)],rz] [true] (mr O1 d)
  .let R2:List RA:=[rz,rA [(4,aI g)],rB [(2,false)],rz,rz]
   obtain⟨j,b⟩|⟨j,b⟩:=Zah b
   .apply Ya b 15 R2 [false,true] (mt O1 d j)
   .apply Ya b 16 R2 [false,false] (mt O1 d j)
def Zdi(g:List Zac)(b:Int)(aF:Int->Option Bool):Nat->Int->Option Bool|0,_=>none|fu+1,h=>bif(decide (h<b))then need (0<=h/\h<(g.length:Int))<|need (0<=b/\b<(g.length:Int))<|(ZcA ((g.getD h.toNat Zac.d).fEnd) ((g.getD b.toNat Zac.d).fEnd)).bind fun j=>bif(decide (j>=(0:Int)))then some false else Zdi g b aF fu (Zan h 1)else aF (Zan b 1)
theorem Zns(h:List Zac)(j:Int)(aF:Int->Option Bool)(bD:∀(el:Int)(r:Bool),aF el=some r->Yr 34 S0 w0 Tryz.f56 (Yk r) [1,0,1,0] ⟨[(0,(Ym h)),(3,(Yj el))],[]⟩):∀(g:Nat)(d:Int)(r:Bool),Zdi h j aF g d=some r->Yr 34 S0 w0 Tryz.f56 (Yk r) [1,0,1,0,0,1,0,0,1,1,0] ⟨[(0,(Ym h)),(3,(Yj j)),(4,(Yj d))],[]⟩:=by
 intro g;induction g with
 |zero=>
  intro d r b;simp[Zdi]at b
 |succ g u=>
  intro d r b;unfold Zdi at b;obtain⟨o,b⟩|⟨o,b⟩:=Zah b
  .obtain⟨v,y,b⟩:=Yt b;obtain⟨t,z,b⟩:=Zad b;have O1:=(mf o v y (Zem _ _ _ z));obtain⟨p,b⟩|⟨p,b⟩:=Zah b
   .apply Ya b 13 [rz,rA [(10,aI t)],rz] [true,true] (mr O1 p)
   .exact Ye 15 [rz,rA [(10,aI t)],rz] [true,false] (Yi [0,3,4]) (mr O1 p) (u (Zan d 1) r b)
  .exact Ye 9 [rz,rz] [false] (Yi [0,3]) (mc o) (bD (Zan j 1) r b)
def Zco(g:List Zac):Nat->Int->Option Bool|0,_=>none|fu+1,b=>bif(decide (b<(g.length:Int)))then need (0<=b/\b<(g.length:Int))<|(Zgd (g.getD b.toNat Zac.d)).bind fun h=>bif(!h)then some false else Zdi g b (Zco g fu) ((b-(0:Int)).toNat+2) (0:Int)else some true
theorem Znt(h:List Zac):∀(g:Nat)(d:Int)(r:Bool),Zco h g d=some r->Yr 34 S0 w0 Tryz.f56 (Yk r) [1,0,1,0] ⟨[(0,(Ym h)),(3,(Yj d))],[]⟩:=by
 intro g;induction g with
 |zero=>
  intro d r b;simp[Zco]at b
 |succ g t=>
  intro d r b;unfold Zco at b;obtain⟨j,b⟩|⟨j,b⟩:=Zah b
  .obtain⟨o2,b⟩:=Zao b;obtain⟨p,u,b⟩:=Zad b;have O2:=(me j o2 (Zps _ _ u));obtain⟨o,b⟩|⟨o,b⟩:=Zah b
   .apply Ya b 14 [rz,rA [(4,aB p)],rz] [true,true] (mr O2 o)
   .exact Ye 16 [rz,rA [(4,aB p)],rz] [true,false] (Yi [0,3,4]) (mr O2 o) (Zns S0 w0 h d (Zco h g) t ((d-(0:Int)).toNat+2) (0:Int) r b)
  .apply Ya b 8 [rz,rz] [false] (mc j)
def Zgc(b:List Zac):Option Bool:=Zco b (((b.length:Int)-(0:Int)).toNat+2) (0:Int)
theorem Zpr(b:List Zac)(r:Bool)(d:Zgc b=some r):Yo 56 [Ym b] (Yk r):=by
 refine Yv Tryz.func56 fun S0 w0=>?_;unfold Zgc at d;exact Ye 6 [rz,rz] [] (Yi [0,3]) .n (Znt S0 w0 b (((b.length:Int)-(0:Int)).toNat+2) (0:Int) r d)
def Zgf(b:Zaa):Option Bool:=(ZdX b.fEnd).bind fun d=>bif(!d)then some false else bif(decide (b.fSince<(0:Int)))then some false else bif(decide (b.fSince>(1099511627776:Int)))then some false else bif(decide (b.fScore.fAt<(0:Int)))then some false else bif(decide (b.fScore.fAt>(1099511627776:Int)))then some false else bif(decide (b.fWork>=(0:Int)))then bif(decide (b.fWork<=(1099511627776:Int)))then bif(decide (b.fScore.fPoints>=(0:Int)))then bif(decide (b.fScore.fPoints<=(1099511627776:Int)))then bif(decide (b.fPing>=(0:Int)))then some (decide (b.fPing<=(1048576:Int)))else some false else some false else some false else some false else some false
theorem Zpw(A:Zaa)(r:Bool)(b:Zgf A=some r):Yo 126 [.agg (Zaa.c A)] (Yk r):=by
 refine Yv Tryz.func126 fun S0 w0=>?_;unfold Zgf at b;obtain⟨p,B,b⟩:=Zad b;obtain⟨y,b⟩|⟨y,b⟩:=Zah b
 .apply Ya b 8 [rz,⟨[(2,aB p)],[(4,true)],[],[],[],[],[]⟩,rz] [true] (me (ZeN _ _ B) y (mH true))
 .have O1:=(md (ZeN _ _ B) y);obtain⟨g,b⟩|⟨g,b⟩:=Zah b
  .apply Ya b 8 [rz,⟨[(2,aB p)],[(4,false),(9,true)],[],[],[],[],[]⟩,rz] [true] (mt O1 g (mH true))
  .obtain⟨h,b⟩|⟨h,b⟩:=Zah b
   .apply Ya b 8 [rz,⟨[(2,aB p)],[(4,false),(9,false),(14,true)],[],[],[],[],[]⟩,rz] [true] (mu O1 g h (mH true))
   .obtain⟨o,b⟩|⟨o,b⟩:=Zah b
    .apply Ya b 8 [rz,⟨[(2,aB p)],[(4,false),(9,false),(14,false),(20,true)],[],[],[],[],[]⟩,rz] [true] (mw O1 g h o (mH true))
    .let R2:List RA:=[rz,⟨[(2,aB p)],[(4,false),(9,false),(14,false),(20,false)],[],[],[],[],[]⟩]
     obtain⟨t,b⟩|⟨t,b⟩:=Zah b
     .apply Ya b 8 (R2++[rz]) [true] (mw O1 g h o t)
     .obtain⟨v,b⟩|⟨v,b⟩:=Zah b
      .obtain⟨z,b⟩|⟨z,b⟩:=Zah b
       .have O3:=(mz O1 g h o t v z);obtain⟨u,b⟩|⟨u,b⟩:=Zah b
        .obtain⟨d,b⟩|⟨d,b⟩:=Zah b
         .obtain⟨j,b⟩|⟨j,b⟩:=Zah b
          .apply Ya b 9 (R2++[rB [(3,true),(8,true),(14,true),(20,true),(25,true)]]) [false] (mu O3 u d j)
          .apply Ya b 9 (R2++[rB [(3,true),(8,true),(14,true),(20,true),(25,false)]]) [false] (mu O3 u d j)
         .apply Ya b 9 (R2++[rB [(3,true),(8,true),(14,true),(20,false)]]) [false] (mt O3 u d)
        .apply Ya b 9 (R2++[rB [(3,true),(8,true),(14,false)]]) [false] (mr O3 u)
       .apply Ya b 9 (R2++[rB [(3,true),(8,false)]]) [false] (mz O1 g h o t v z)
      .apply Ya b 9 (R2++[rB [(3,false)]]) [false] (my O1 g h o t v)
def ZcL(g:List Zaa)(b:Int)(aH:Int->Option Bool):Nat->Int->Option Bool|0,_=>none|fu+1,h=>bif(decide (h<b))then need (0<=h/\h<(g.length:Int))<|need (0<=b/\b<(g.length:Int))<|(ZcA ((g.getD h.toNat Zaa.d).fEnd) ((g.getD b.toNat Zaa.d).fEnd)).bind fun j=>bif(decide (j>=(0:Int)))then some false else ZcL g b aH fu (Zan h 1)else aH (Zan b 1)
theorem Znp(h:List Zaa)(j:Int)(aH:Int->Option Bool)(bE:∀(el:Int)(r:Bool),aH el=some r->Yr 34 S0 w0 Tryz.f57 (Yk r) [1,0,1,0] ⟨[(0,(Yn h)),(3,(Yj el))],[]⟩):∀(g:Nat)(d:Int)(r:Bool),ZcL h j aH g d=some r->Yr 34 S0 w0 Tryz.f57 (Yk r) [1,0,1,0,0,1,0,0,1,1,0] ⟨[(0,(Yn h)),(3,(Yj j)),(4,(Yj d))],[]⟩:=by
 intro g;induction g with
 |zero=>
  intro d r b;simp[ZcL]at b
 |succ g u=>
  intro d r b;unfold ZcL at b;obtain⟨o,b⟩|⟨o,b⟩:=Zah b
  .obtain⟨v,y,b⟩:=Yt b;obtain⟨t,z,b⟩:=Zad b;have O1:=(mf o v y (Zem _ _ _ z));obtain⟨p,b⟩|⟨p,b⟩:=Zah b
   .apply Ya b 13 [rz,rA [(10,aI t)],rz] [true,true] (mr O1 p)
   .exact Ye 15 [rz,rA [(10,aI t)],rz] [true,false] (Yi [0,3,4]) (mr O1 p) (u (Zan d 1) r b)
  .exact Ye 9 [rz,rz] [false] (Yi [0,3]) (mc o) (bE (Zan j 1) r b)
def Zcg(g:List Zaa):Nat->Int->Option Bool|0,_=>none|fu+1,b=>bif(decide (b<(g.length:Int)))then need (0<=b/\b<(g.length:Int))<|(Zgf (g.getD b.toNat Zaa.d)).bind fun h=>bif(!h)then some false else ZcL g b (Zcg g fu) ((b-(0:Int)).toNat+2) (0:Int)else some true
theorem Znq(h:List Zaa):∀(g:Nat)(d:Int)(r:Bool),Zcg h g d=some r->Yr 34 S0 w0 Tryz.f57 (Yk r) [1,0,1,0] ⟨[(0,(Yn h)),(3,(Yj d))],[]⟩:=by
 intro g;induction g with
 |zero=>
  intro d r b;simp[Zcg]at b
 |succ g t=>
  intro d r b;unfold Zcg at b;obtain⟨j,b⟩|⟨j,b⟩:=Zah b
  .obtain⟨o2,b⟩:=Zao b;obtain⟨p,u,b⟩:=Zad b;have O2:=(me j o2 (Zpw _ _ u));obtain⟨o,b⟩|⟨o,b⟩:=Zah b
   .apply Ya b 14 [rz,rA [(4,aB p)],rz] [true,true] (mr O2 o)
   .exact Ye 16 [rz,rA [(4,aB p)],rz] [true,false] (Yi [0,3,4]) (mr O2 o) (Znp S0 w0 h d (Zcg h g) t ((d-(0:Int)).toNat+2) (0:Int) r b)
  .apply Ya b 8 [rz,rz] [false] (mc j)
def Zht(b:List Zaa):Option Bool:=Zcg b (((b.length:Int)-(0:Int)).toNat+2) (0:Int)
theorem Zpq(b:List Zaa)(r:Bool)(d:Zht b=some r):Yo 57 [Yn b] (Yk r):=by
 refine Yv Tryz.func57 fun S0 w0=>?_;unfold Zht at d;exact Ye 6 [rz,rz] [] (Yi [0,3]) .n (Znq S0 w0 b (((b.length:Int)-(0:Int)).toNat+2) (0:Int) r d)
def Zcn(g:List Zaa)(h:Bool):Nat->Int->Int->Option Int|0,_,_=>none|fu+1,j,b=>bif(decide (b<(g.length:Int)))then need (0<=b/\b<(g.length:Int))<|bif((g.getD b.toNat Zaa.d).fIn==h)then Zcn g h fu (Zan j 1) (Zan b 1)else Zcn g h fu j (Zan b 1)else some j
theorem Znr(p:List Zaa)(t:Bool):∀(h:Nat)(d g r:Int),Zcn p t h d g=some r->Yr 23 S0 w0 Tryz.f58 (Yj r) [1,1,0,1,0] ⟨[(0,(Yn p)),(1,(Yk t)),(5,(Yj d)),(6,(Yj g))],[]⟩:=by
 intro h;induction h with
 |zero=>
  intro d g r b;simp[Zcn]at b
 |succ h u=>
  intro d g r b;unfold Zcn at b;obtain⟨j,b⟩|⟨j,b⟩:=Zah b
  .obtain⟨o2,b⟩:=Zao b;obtain⟨o,b⟩|⟨o,b⟩:=Zah b
   .exact Ye 15 [rz,rz,rz,rz] [true,true] (Yi [0,1,5,6]) (me j o2 o) (u (Zan d 1) (Zan g 1) r b)
   .exact Ye 15 [rz,rz,rz] [true,false] (Yi [0,1,5,6]) (me j o2 o) (u d (Zan g 1) r b)
  .apply Ya b 8 [rz,rz] [false] (mc j)
def ZcW(b:List Zaa)(d:Bool):Option Int:=Zcn b d (((b.length:Int)-(0:Int)).toNat+2) (0:Int) (0:Int)
theorem ZeL(b:List Zaa)(d:Bool)(r:Int)(g:ZcW b d=some r):Yo 58 [Yn b,Yk d] (Yj r):=by
 refine Yv Tryz.func58 fun S0 w0=>?_;unfold ZcW at g;exact Ye 8 [rz,rz,rz] [] (Yi [0,1,5,6]) .n (Znr S0 w0 b d (((b.length:Int)-(0:Int)).toNat+2) (0:Int) (0:Int) r g)
def Zcp(g:List Zac)(h:Int):Nat->Int->Int->Option Int|0,_,_=>none|fu+1,j,b=>bif(decide (b<(g.length:Int)))then need (0<=b/\b<(g.length:Int))<|bif((g.getD b.toNat Zac.d).fState==h)then Zcp g h fu (Zan j 1) (Zan b 1)else Zcp g h fu j (Zan b 1)else some j
theorem Znu(p:List Zac)(t:Int):∀(h:Nat)(d g r:Int),Zcp p t h d g=some r->Yr 23 S0 w0 Tryz.f60 (Yj r) [1,1,0,1,0] ⟨[(0,(Ym p)),(1,(Yj t)),(5,(Yj d)),(6,(Yj g))],[]⟩:=by
 intro h;induction h with
 |zero=>
  intro d g r b;simp[Zcp]at b
 |succ h u=>
  intro d g r b;unfold Zcp at b;obtain⟨j,b⟩|⟨j,b⟩:=Zah b
  .obtain⟨o2,b⟩:=Zao b;obtain⟨o,b⟩|⟨o,b⟩:=Zah b
   .exact Ye 15 [rz,rz,rz,rz] [true,true] (Yi [0,1,5,6]) (me j o2 o) (u (Zan d 1) (Zan g 1) r b)
   .exact Ye 15 [rz,rz,rz] [true,false] (Yi [0,1,5,6]) (me j o2 o) (u d (Zan g 1) r b)
  .apply Ya b 8 [rz,rz] [false] (mc j)
def ZeY(b:List Zac)(d:Int):Option Int:=Zcp b d (((b.length:Int)-(0:Int)).toNat+2) (0:Int) (0:Int)
theorem ZkK(b:List Zac)(d r:Int)(g:ZeY b d=some r):Yo 60 [Ym b,Yj d] (Yj r):=by
 refine Yv Tryz.func60 fun S0 w0=>?_;unfold ZeY at g;exact Ye 8 [rz,rz,rz] [] (Yi [0,1,5,6]) .n (Znu S0 w0 b d (((b.length:Int)-(0:Int)).toNat+2) (0:Int) (0:Int) r g)
def Zdy(b:Zas):Option Int:=(ZcW b.fPeers false).bind fun d=>(ZeY b.fBook (2:Int)).bind fun g=>some (Zan d g)
theorem ZjM(d:Zas)(r:Int)(b:Zdy d=some r):Yo 25 [.agg (Zas.c d)] (Yj r):=by
 refine Yv Tryz.func25 fun S0 w0=>?_;unfold Zdy at b;obtain⟨g,h,j,o,b⟩:=Yu b;apply Ya b 4 [rz,rA [(2,aI g),(5,aI h)]] [] (md (ZeL _ _ _ j) (ZkK _ _ _ o))
def ZcN(g:List Zaa):Nat->Int->Zal->Option Int|0,_,_=>none|fu+1,b,h=>bif(decide (b<(g.length:Int)))then need (0<=b/\b<(g.length:Int))<|bif(decide ((g.getD b.toNat Zaa.d).fEnd=h))then some b else ZcN g fu (Zan b 1) h else some (-1:Int)
theorem Znv(j:List Zaa):∀(o:Nat)(h:Int)(g:Zal)(r:Int),ZcN j o h g=some r->Yr 20 S0 w0 Tryz.f39 (Yj r) [1,0,1,0] ⟨[(0,(Yn j)),(3,.one (.ptr 3 0)),(5,(Yj h))],[(3,.box (Zal.c g))]⟩:=by
 intro o;induction o with
 |zero=>
  intro h g r b;simp[ZcN]at b
 |succ o u=>
  intro h g r b;unfold ZcN at b;obtain⟨p,b⟩|⟨p,b⟩:=Zah b
  .obtain⟨o2,b⟩:=Zao b
   let R1:List RA:=[rz,rA [(6,aB (decide ((j.getD h.toNat Zaa.d).fEnd=g)))],rz]
   have O2:=(me p o2 (ZkY ((j.getD h.toNat Zaa.d).fEnd) g (.tmp 16) (.tmp 17)));obtain⟨t,b⟩|⟨t,b⟩:=Zah b
   .apply Ya b 13 R1 [true,true] (mr O2 t)
   .exact Ye 15 R1 [true,false] (lX [0,3,5] [3]) (mr O2 t) (u (Zan h 1) g r b)
  .apply Ya b 8 [rz,rz] [false] (mc p)
def ZdV(b:List Zaa)(d:Zal):Option Int:=ZcN b (((b.length:Int)-(0:Int)).toNat+2) (0:Int) d
theorem Zgn(b:List Zaa)(d:Zal)(r:Int)(g:ZdV b d=some r):Yo 39 [Yn b,.agg (Zal.c d)] (Yj r):=by
 refine Yv Tryz.func39 fun S0 w0=>?_;unfold ZdV at g;exact Ye 6 [rz,rz] [] (lX [0,3,5] [3]) .n (Znv S0 w0 b (((b.length:Int)-(0:Int)).toNat+2) (0:Int) d r g)
def ZcT(g:List Zac):Nat->Int->Zal->Option Int|0,_,_=>none|fu+1,b,h=>bif(decide (b<(g.length:Int)))then need (0<=b/\b<(g.length:Int))<|bif(decide ((g.getD b.toNat Zac.d).fEnd=h))then some b else ZcT g fu (Zan b 1) h else some (-1:Int)
theorem ZnZ(j:List Zac):∀(o:Nat)(h:Int)(g:Zal)(r:Int),ZcT j o h g=some r->Yr 20 S0 w0 Tryz.f59 (Yj r) [1,0,1,0] ⟨[(0,(Ym j)),(3,.one (.ptr 3 0)),(5,(Yj h))],[(3,.box (Zal.c g))]⟩:=by
 intro o;induction o with
 |zero=>
  intro h g r b;simp[ZcT]at b
 |succ o u=>
  intro h g r b;unfold ZcT at b;obtain⟨p,b⟩|⟨p,b⟩:=Zah b
  .obtain⟨o2,b⟩:=Zao b
   let R1:List RA:=[rz,rA [(6,aB (decide ((j.getD h.toNat Zac.d).fEnd=g)))],rz]
   have O2:=(me p o2 (ZkY ((j.getD h.toNat Zac.d).fEnd) g (.tmp 16) (.tmp 17)));obtain⟨t,b⟩|⟨t,b⟩:=Zah b
   .apply Ya b 13 R1 [true,true] (mr O2 t)
   .exact Ye 15 R1 [true,false] (lX [0,3,5] [3]) (mr O2 t) (u (Zan h 1) g r b)
  .apply Ya b 8 [rz,rz] [false] (mc p)
def ZgD(b:List Zac)(d:Zal):Option Int:=ZcT b (((b.length:Int)-(0:Int)).toNat+2) (0:Int) d
theorem ZpV(b:List Zac)(d:Zal)(r:Int)(g:ZgD b d=some r):Yo 59 [Ym b,.agg (Zal.c d)] (Yj r):=by
 refine Yv Tryz.func59 fun S0 w0=>?_;unfold ZgD at g;exact Ye 6 [rz,rz] [] (lX [0,3,5] [3]) .n (ZnZ S0 w0 b (((b.length:Int)-(0:Int)).toNat+2) (0:Int) d r g)
def Zcl(h:Int)(b:Zas)(aJ:Int->Zas->Option Bool):Nat->Int->Option Bool|0,_=>none|fu+1,g=>bif(decide (g<(b.fPeers.length:Int)))then need (0<=g/\g<(b.fPeers.length:Int))<|bif(!(b.fPeers.getD g.toNat Zaa.d).fIn)then(ZgD b.fBook ((b.fPeers.getD g.toNat Zaa.d).fEnd)).bind fun j=>bif(decide (j<(0:Int)))then some false else Zcl h b aJ fu (Zan g 1)else Zcl h b aJ fu (Zan g 1)else some true
theorem Znj(z:Int)(t:Zas)(aJ:Int->Zas->Option Bool)(c4:∀(v5_:Int)(eP:Zas)(r:Bool),aJ v5_ eP=some r->Yr 119 S0 w0 Tryz.f16 (Yk r) [1,1,1,0,1,0] ⟨[(3,.one (.ptr 3 0)),(5,(Yj v5_))],[(3,.box (Zas.c eP))]⟩):∀(u:Nat)(p:Int)(r:Bool),Zcl z t aJ u p=some r->Yr 119 S0 w0 Tryz.f16 (Yk r) [1,1,1,1,0,1,0] ⟨[(3,.one (.ptr 3 0)),(7,(Yj p))],[(3,.box (Zas.c t))]⟩:=by
 intro u;induction u with
 |zero=>
  intro p r b;simp[Zcl]at b
 |succ u y=>
  intro p r b;unfold Zcl at b;obtain⟨g,b⟩|⟨g,b⟩:=Zah b
  .obtain⟨h,b⟩:=Zao b;obtain⟨j,b⟩|⟨j,b⟩:=Zah b
   .obtain⟨A,v,b⟩:=Zad b
    let R1:List RA:=[rz,⟨[(16,aI A)],[(7,true)],[],[],[],[],[]⟩,rz]
    have O2:=(mg g h j h (ZpV _ _ _ v));obtain⟨o,b⟩|⟨o,b⟩:=Zah b
    .apply Ya b 13 R1 [true,true] (mr O2 o)
    .exact Ye 15 R1 [true,false] (lX [3,7] [3]) (mr O2 o) (y (Zan p 1) r b)
   .exact Ye 15 [rz,rB [(7,false)],rz] [true,false] (lX [3,7] [3]) (mf g h j (mH false)) (y (Zan p 1) r b)
  .apply Ya b 8 [rz,rz] [false] (mc g)
def ZbG:Nat->Int->Zas->Option Bool|0,_,_=>none|fu+1,g,b=>bif(decide (g<(b.fBook.length:Int)))then need (0<=g/\g<(b.fBook.length:Int))<|(ZdV b.fPeers ((b.fBook.getD g.toNat Zac.d).fEnd)).bind fun h=>bif(decide (h>=(0:Int)))then need (0<=h/\h<(b.fPeers.length:Int))<|bif(!(((b.fBook.getD g.toNat Zac.d).fState==(3:Int))==(!(b.fPeers.getD h.toNat Zaa.d).fIn)))then some false else ZbG fu (Zan g 1) b else bif(!(((b.fBook.getD g.toNat Zac.d).fState==(3:Int))==false))then some false else ZbG fu (Zan g 1) b else Zcl g b (ZbG fu) 1000000 (0:Int)
theorem Znk:∀(t:Nat)(j:Int)(h:Zas)(r:Bool),ZbG t j h=some r->Yr 119 S0 w0 Tryz.f16 (Yk r) [1,1,1,0,1,0] ⟨[(3,.one (.ptr 3 0)),(5,(Yj j))],[(3,.box (Zas.c h))]⟩:=by
 intro t;induction t with
 |zero=>
  intro j h r b;simp[ZbG]at b
 |succ t z=>
  intro j h r b;unfold ZbG at b;obtain⟨o,b⟩|⟨o,b⟩:=Zah b
  .obtain⟨u,b⟩:=Zao b;obtain⟨y,A,b⟩:=Zad b;have O3:=(mf o u (Zgn _ _ _ A) u);obtain⟨g,b⟩|⟨g,b⟩:=Zah b
   .obtain⟨v,b⟩:=Zao b;obtain⟨a8,b⟩|⟨a8,b⟩:=Zah b
    .apply Ya b 15 [rz,rA [(8,aI y)],rB [(9,true)],rz] [true,true] (mu O3 g v a8)
    .exact Ye 17 [rz,rA [(8,aI y)],rB [(9,true)],rz] [true,false] (lX [3,5] [3]) (mu O3 g v a8) (z (Zan j 1) h r b)
   .obtain⟨p,b⟩|⟨p,b⟩:=Zah b
    .apply Ya b 15 [rz,rA [(8,aI y)],rB [(9,false)],rz] [true,true] (mt O3 g p)
    .exact Ye 17 [rz,rA [(8,aI y)],rB [(9,false)],rz] [true,false] (lX [3,5] [3]) (mt O3 g p) (z (Zan j 1) h r b)
  .exact Ye 10 [rz,rz] [false] (lX [3,7] [3]) (mc o) (Znj S0 w0 j h (ZbG t) z 1000000 (0:Int) r b)
def ZfX(d:ZaA)(b:Zas):Option Bool:=(Zdv d).bind fun g=>bif(!g)then some false else(Zhu b.fBans).bind fun h=>bif(!h)then some false else(Zgc b.fBook).bind fun j=>bif(!j)then some false else(Zht b.fPeers).bind fun o=>bif(!o)then some false else bif(decide ((b.fBans.length:Int)>d.fMaxBans))then some false else bif(decide ((b.fBook.length:Int)>d.fMaxBook))then some false else(ZcW b.fPeers true).bind fun p=>bif(decide (p>d.fMaxIn))then some false else(Zdy b).bind fun t=>bif(decide (t>d.fMaxOut))then some false else ZbG 1000000 (0:Int) b
theorem Zpl(D:ZaA)(t:Zas)(r:Bool)(b:ZfX D t=some r):Yo 16 [.agg (ZaA.c D),.agg (Zas.c t)] (Yk r):=by
 refine Yv Tryz.func16 fun S0 w0=>?_;unfold ZfX at b;obtain⟨o,E,b⟩:=Zad b;obtain⟨u,b⟩|⟨u,b⟩:=Zah b
 .apply Ya b 8 [rz,⟨[(1,aB o)],[(3,true)],[],[],[],[],[]⟩,rz] [true] (me (ZkI _ _ E) u (mH true))
 .obtain⟨v,H,b⟩:=Zad b;have O4:=(me (ZkI _ _ E) u (Zpx _ _ H));obtain⟨y,b⟩|⟨y,b⟩:=Zah b
  .apply Ya b 8 [rz,⟨[(1,aB o),(6,aB v)],[(3,false),(9,true)],[],[],[],[],[]⟩,rz] [true] (mt O4 y (mH true))
  .obtain⟨F,I,b⟩:=Zad b;have O5:=(mt O4 y (Zpr _ _ I));obtain⟨z,b⟩|⟨z,b⟩:=Zah b
   .apply Ya b 8 [rz,⟨[(1,aB o),(6,aB v),(12,aB F)],[(3,false),(9,false),(15,true)],[],[],[],[],[]⟩,rz] [true] (mt O5 z (mH true))
   .obtain⟨J,L,b⟩:=Zad b
    let R6:List RA:=[rz,⟨[(1,aB o),(6,aB v),(12,aB F),(18,aB J)],[(3,false),(9,false),(15,false)],[],[],[],[],[]⟩]
    have O7:=(mt O5 z (Zpq _ _ L));obtain⟨j,b⟩|⟨j,b⟩:=Zah b
    .apply Ya b 8 (R6++[rz]) [true] (mr O7 j)
    .obtain⟨p,b⟩|⟨p,b⟩:=Zah b
     .apply Ya b 13 (R6++[rB [(6,true)],rz]) [false,true] (mu O7 j p (mH true))
     .obtain⟨d,b⟩|⟨d,b⟩:=Zah b
      .apply Ya b 13 (R6++[rB [(6,false),(14,true)],rz]) [false,true] (mw O7 j p d (mH true))
      .obtain⟨G,A,b⟩:=Zad b;have O8:=(mw O7 j p d (ZeL _ _ _ A));obtain⟨g,b⟩|⟨g,b⟩:=Zah b
       .apply Ya b 13 (R6++[⟨[(17,aI G)],[(6,false),(14,false),(22,true)],[],[],[],[],[]⟩,rz]) [false,true] (mt O8 g (mH true))
       .obtain⟨M,B,b⟩:=Zad b
        let R9:List RA:=(R6++[⟨[(17,aI G),(24,aI M)],[(6,false),(14,false),(22,false)],[],[],[],[],[]⟩,rz])
        have i7:=(mt O8 g (ZjM _ _ B));obtain⟨h,b⟩|⟨h,b⟩:=Zah b
        .apply Ya b 13 R9 [false,true] (mr i7 h)
        .exact Ye 16 R9 [false,false] (lX [3,5] [3]) (mr i7 h) (Znk S0 w0 1000000 (0:Int) t r b)
def Zju:Option ZaA:=some (ZaA.mk 8 4 4 64 64 1 (Zax.mk 1 1 1 1) 100 100 1000 2 64 4)
theorem ZkJ(r:ZaA)(b:Zju=some r):Yo 44 [] (.agg (ZaA.c r)):=by
 refine Yv Tryz.func44 fun S0 w0=>?_;unfold Zju at b;apply Ya b 4 [rz,rz] [] .n
def ZnN:Option (ByteArray×ByteArray×ByteArray×ByteArray×ByteArray×ByteArray×ByteArray×ByteArray×ByteArray×ByteArray×ByteArray×ByteArray×ByteArray×ByteArray):=some ((⟨#[]⟩ : ByteArray),(⟨#[97,99,99,101,112,116]⟩ : ByteArray),(⟨#[108,101,97,118,101]⟩ : ByteArray),(⟨#[100,105,97,108]⟩ : ByteArray),(⟨#[114,101,115,117,108,116]⟩ : ByteArray),(⟨#[98,108,97,109,101]⟩ : ByteArray),(⟨#[98,97,110]⟩ : ByteArray),(⟨#[117,110,98,97,110]⟩ : ByteArray),(⟨#[98,97,110,110,101,100]⟩ : ByteArray),(⟨#[116,105,99,107]⟩ : ByteArray),(⟨#[108,105,115,116]⟩ : ByteArray),(⟨#[112,111,110,103]⟩ : ByteArray),(⟨#[119,111,114,107]⟩ : ByteArray),(⟨#[108,101,97,114,110]⟩ : ByteArray))
theorem ZvG(r:(ByteArray×ByteArray×ByteArray×ByteArray×ByteArray×ByteArray×ByteArray×ByteArray×ByteArray×ByteArray×ByteArray×ByteArray×ByteArray×ByteArray))(b:ZnN=some r):Yo 218 [] (.agg ((cP cS (cP cS (cP cS (cP cS (cP cS (cP cS (cP cS (cP cS (cP cS (cP cS (cP cS (cP cS (cP cS cS))))))))))))) r)):=by
 refine Yv Tryz.func218 fun S0 w0=>?_;unfold ZnN at b;apply Ya b 4 [rz,rz] [] .n
def ZsI(d:List ByteArray)(b:Int):Option ByteArray:=bif(decide (b<(0:Int)))then some (⟨#[]⟩ : ByteArray)else bif(decide (b>=(d.length:Int)))then some (⟨#[]⟩ : ByteArray)else need (0<=b/\b<(d.length:Int))<|some (d.getD b.toNat ByteArray.empty)
theorem ZAg(h:List ByteArray)(j:Int)(r:ByteArray)(b:ZsI h j=some r):Yo 219 [.one (cL 1 cS ByteArray.empty h),Yj j] (.one (.lit (.string r))):=by
 refine Yv Tryz.func219 fun S0 w0=>?_;unfold ZsI at b;obtain⟨d,b⟩|⟨d,b⟩:=Zah b
 .apply Ya b 8 [rz,rB [(2,true)],rz] [true] (md d (mH true))
 .obtain⟨g,b⟩|⟨g,b⟩:=Zah b
  .apply Ya b 8 [rz,rB [(2,false)],rz] [true] (md d g)
  .obtain⟨o,b⟩:=Zao b;apply Ya b 9 [rz,rB [(2,false)],rz] [false] (me d g o)
def ZmT(d:Int):Option ByteArray:=(ZnN).bind fun b=>(ZsI ([b.1,b.2.1,b.2.2.1,b.2.2.2.1,b.2.2.2.2.1,b.2.2.2.2.2.1,b.2.2.2.2.2.2.1,b.2.2.2.2.2.2.2.1,b.2.2.2.2.2.2.2.2.1,b.2.2.2.2.2.2.2.2.2.1,b.2.2.2.2.2.2.2.2.2.2.1,b.2.2.2.2.2.2.2.2.2.2.2.1,b.2.2.2.2.2.2.2.2.2.2.2.2.1,b.2.2.2.2.2.2.2.2.2.2.2.2.2]:List ByteArray) d).bind fun g=>some g
theorem ZrA(g:Int)(r:ByteArray)(d:ZmT g=some r):Yo 156 [Yj g] (.one (.lit (.string r))):=by
 refine Yv Tryz.func156 fun S0 w0=>?_;unfold ZmT at d;obtain⟨b,h,o,p,d⟩:=Yu d;apply Ya d 6 [rz,rA [(0,aG ((cP cS (cP cS (cP cS (cP cS (cP cS (cP cS (cP cS (cP cS (cP cS (cP cS (cP cS (cP cS (cP cS cS))))))))))))) b))],⟨[(2,.r (.one (.lit (.string h))) [])],[],[(0,[3])],[],[],[(0,(([b.1,b.2.1,b.2.2.1,b.2.2.2.1,b.2.2.2.2.1,b.2.2.2.2.2.1,b.2.2.2.2.2.2.1,b.2.2.2.2.2.2.2.1,b.2.2.2.2.2.2.2.2.1,b.2.2.2.2.2.2.2.2.2.1,b.2.2.2.2.2.2.2.2.2.2.1,b.2.2.2.2.2.2.2.2.2.2.2.1,b.2.2.2.2.2.2.2.2.2.2.2.2.1,b.2.2.2.2.2.2.2.2.2.2.2.2.2]:List ByteArray).length,Zam cS ByteArray.empty ([b.1,b.2.1,b.2.2.1,b.2.2.2.1,b.2.2.2.2.1,b.2.2.2.2.2.1,b.2.2.2.2.2.2.1,b.2.2.2.2.2.2.2.1,b.2.2.2.2.2.2.2.2.1,b.2.2.2.2.2.2.2.2.2.1,b.2.2.2.2.2.2.2.2.2.2.1,b.2.2.2.2.2.2.2.2.2.2.2.1,b.2.2.2.2.2.2.2.2.2.2.2.2.1,b.2.2.2.2.2.2.2.2.2.2.2.2.2]:List ByteArray)))],[]⟩] [] (me (ZvG _ o) (show ([b.1,b.2.1,b.2.2.1,b.2.2.2.1,b.2.2.2.2.1,b.2.2.2.2.2.1,b.2.2.2.2.2.2.1,b.2.2.2.2.2.2.2.1,b.2.2.2.2.2.2.2.2.1,b.2.2.2.2.2.2.2.2.2.1,b.2.2.2.2.2.2.2.2.2.2.1,b.2.2.2.2.2.2.2.2.2.2.2.1,b.2.2.2.2.2.2.2.2.2.2.2.2.1,b.2.2.2.2.2.2.2.2.2.2.2.2.2]:List ByteArray).length=14/\∀i j,i<14->j<1->Zam cS ByteArray.empty ([b.1,b.2.1,b.2.2.1,b.2.2.2.1,b.2.2.2.2.1,b.2.2.2.2.2.1,b.2.2.2.2.2.2.1,b.2.2.2.2.2.2.2.1,b.2.2.2.2.2.2.2.2.1,b.2.2.2.2.2.2.2.2.2.1,b.2.2.2.2.2.2.2.2.2.2.1,b.2.2.2.2.2.2.2.2.2.2.2.1,b.2.2.2.2.2.2.2.2.2.2.2.2.1,b.2.2.2.2.2.2.2.2.2.2.2.2.2]:List ByteArray) i j=([.lit (.string b.1),.lit (.string b.2.1),.lit (.string b.2.2.1),.lit (.string b.2.2.2.1),.lit (.string b.2.2.2.2.1),.lit (.string b.2.2.2.2.2.1),.lit (.string b.2.2.2.2.2.2.1),.lit (.string b.2.2.2.2.2.2.2.1),.lit (.string b.2.2.2.2.2.2.2.2.1),.lit (.string b.2.2.2.2.2.2.2.2.2.1),.lit (.string b.2.2.2.2.2.2.2.2.2.2.1),.lit (.string b.2.2.2.2.2.2.2.2.2.2.2.1),.lit (.string b.2.2.2.2.2.2.2.2.2.2.2.2.1),.lit (.string b.2.2.2.2.2.2.2.2.2.2.2.2.2)]:List C).getD (0+(i * 1+j)) .junk from⟨rfl,ZJc (sz:=1) cS ByteArray.empty ([b.1,b.2.1,b.2.2.1,b.2.2.2.1,b.2.2.2.2.1,b.2.2.2.2.2.1,b.2.2.2.2.2.2.1,b.2.2.2.2.2.2.2.1,b.2.2.2.2.2.2.2.2.1,b.2.2.2.2.2.2.2.2.2.1,b.2.2.2.2.2.2.2.2.2.2.1,b.2.2.2.2.2.2.2.2.2.2.2.1,b.2.2.2.2.2.2.2.2.2.2.2.2.1,b.2.2.2.2.2.2.2.2.2.2.2.2.2]:List ByteArray) [.lit (.string b.1),.lit (.string b.2.1),.lit (.string b.2.2.1),.lit (.string b.2.2.2.1),.lit (.string b.2.2.2.2.1),.lit (.string b.2.2.2.2.2.1),.lit (.string b.2.2.2.2.2.2.1),.lit (.string b.2.2.2.2.2.2.2.1),.lit (.string b.2.2.2.2.2.2.2.2.1),.lit (.string b.2.2.2.2.2.2.2.2.2.1),.lit (.string b.2.2.2.2.2.2.2.2.2.2.1),.lit (.string b.2.2.2.2.2.2.2.2.2.2.2.1),.lit (.string b.2.2.2.2.2.2.2.2.2.2.2.2.1),.lit (.string b.2.2.2.2.2.2.2.2.2.2.2.2.2)] (fun _=>rfl) rfl⟩) (ZAg _ _ _ p))
def ZkT(b:Int)(d:Bool):Option (List Int):=bif d then some ([(3:Int)]:List Int)else bif(b==(4:Int))then some ([(0:Int),(5:Int),(3:Int),(4:Int)]:List Int)else bif(b==(5:Int))then some ([(0:Int),(4:Int),(3:Int)]:List Int)else bif(b==(6:Int))then some ([(1:Int),(4:Int),(3:Int)]:List Int)else bif(b==(7:Int))then some ([(1:Int)]:List Int)else bif(b==(8:Int))then some ([(2:Int),(3:Int)]:List Int)else bif(b==(11:Int))then some ([(0:Int),(4:Int)]:List Int)else some ([]:List Int)
theorem ZnP(z:Int)(u:Bool)(r:List Int)(b:ZkT z u=some r):Ys 34 S0 w0 Tryz.f157 [(l5 99999 234 1 l9 (0:Int) r)] (.one (.osl 99999 r.length)) [1,0,1,0,1,1,1,1,1] ⟨[(3,(Yj z)),(12,(Yk u))],[]⟩:=by
 unfold ZkT at b;obtain⟨g,b⟩|⟨g,b⟩:=Zah b
 .apply Yc b 3 [rA [(0,.c ([(3:Int)]:List Int).length (Zam l9 (0:Int) ([(3:Int)]:List Int)))]] [true] (lZ [2] [15] [(15,99999)]) (me g (show ([(3:Int)]:List Int).length=1 from rfl) (mI (e:=l9) (0:Int) 1 (fun _=>rfl) ([(3:Int)]:List Int)))
 .obtain⟨h,b⟩|⟨h,b⟩:=Zah b
  .apply Yc b 6 [rz,rA [(0,.c ([(0:Int),(5:Int),(3:Int),(4:Int)]:List Int).length (Zam l9 (0:Int) ([(0:Int),(5:Int),(3:Int),(4:Int)]:List Int)))]] [false,true] (lZ [2] [18] [(18,99999)]) (mf g h (show ([(0:Int),(5:Int),(3:Int),(4:Int)]:List Int).length=4 from rfl) (mI (e:=l9) (0:Int) 1 (fun _=>rfl) ([(0:Int),(5:Int),(3:Int),(4:Int)]:List Int)))
  .obtain⟨t,b⟩|⟨t,b⟩:=Zah b
   .apply Yc b 9 [rz,rz,rA [(0,.c ([(0:Int),(4:Int),(3:Int)]:List Int).length (Zam l9 (0:Int) ([(0:Int),(4:Int),(3:Int)]:List Int)))]] [false,false,true] (lZ [2] [21] [(21,99999)]) (mg g h t (show ([(0:Int),(4:Int),(3:Int)]:List Int).length=3 from rfl) (mI (e:=l9) (0:Int) 1 (fun _=>rfl) ([(0:Int),(4:Int),(3:Int)]:List Int)))
   .obtain⟨v,b⟩|⟨v,b⟩:=Zah b
    .apply Yc b 12 [rz,rz,rz,rA [(0,.c ([(1:Int),(4:Int),(3:Int)]:List Int).length (Zam l9 (0:Int) ([(1:Int),(4:Int),(3:Int)]:List Int)))]] [false,false,false,true] (lZ [2] [24] [(24,99999)]) (mh g h t v (show ([(1:Int),(4:Int),(3:Int)]:List Int).length=3 from rfl) (mI (e:=l9) (0:Int) 1 (fun _=>rfl) ([(1:Int),(4:Int),(3:Int)]:List Int)))
    .obtain⟨y,b⟩|⟨y,b⟩:=Zah b
     .apply Yc b 15 [rz,rz,rz,rz,rA [(0,.c ([(1:Int)]:List Int).length (Zam l9 (0:Int) ([(1:Int)]:List Int)))]] [false,false,false,false,true] (lZ [2] [27] [(27,99999)]) (mi g h t v y (show ([(1:Int)]:List Int).length=1 from rfl) (mI (e:=l9) (0:Int) 1 (fun _=>rfl) ([(1:Int)]:List Int)))
     .obtain⟨o,b⟩|⟨o,b⟩:=Zah b
      .apply Yc b 18 [rz,rz,rz,rz,rz,rA [(0,.c ([(2:Int),(3:Int)]:List Int).length (Zam l9 (0:Int) ([(2:Int),(3:Int)]:List Int)))]] [false,false,false,false,false,true] (lZ [2] [30] [(30,99999)]) (mj g h t v y o (show ([(2:Int),(3:Int)]:List Int).length=2 from rfl) (mI (e:=l9) (0:Int) 1 (fun _=>rfl) ([(2:Int),(3:Int)]:List Int)))
      .have O1:=(mh g h t v y o);obtain⟨p,b⟩|⟨p,b⟩:=Zah b
       .apply Yc b 21 [rz,rz,rz,rz,rz,rz,rA [(0,.c ([(0:Int),(4:Int)]:List Int).length (Zam l9 (0:Int) ([(0:Int),(4:Int)]:List Int)))]] [false,false,false,false,false,false,true] (lZ [2] [33] [(33,99999)]) (mu O1 p (show ([(0:Int),(4:Int)]:List Int).length=2 from rfl) (mI (e:=l9) (0:Int) 1 (fun _=>rfl) ([(0:Int),(4:Int)]:List Int)))
       .apply Yc b 23 [rz,rz,rz,rz,rz,rz,rz] [false,false,false,false,false,false,false] ⟨[],[],[],[],[(2,99999,234,1,Zam l9 (0:Int) [])],[2],[99999],[]⟩ (mr O1 p)
def ZiR(b:Int)(d:Bool):Option (List Int):=bif d then some ([(0:Int),(3:Int)]:List Int)else bif(b==(2:Int))then some ([(0:Int)]:List Int)else bif(b==(3:Int))then ZkT b (b==(3:Int))else ZkT b (b==(9:Int))
theorem ZkU(g:Int)(t:Bool)(r:List Int)(b:ZiR g t=some r):Ys 34 S0 w0 Tryz.f157 [(l5 99999 234 1 l9 (0:Int) r)] (.one (.osl 99999 r.length)) [1,0,1,0,1] ⟨[(3,(Yj g)),(4,(Yk t))],[]⟩:=by
 unfold ZiR at b;obtain⟨h,b⟩|⟨h,b⟩:=Zah b
 .apply Yc b 3 [rA [(0,.c ([(0:Int),(3:Int)]:List Int).length (Zam l9 (0:Int) ([(0:Int),(3:Int)]:List Int)))]] [true] (lZ [2] [8] [(8,99999)]) (me h (show ([(0:Int),(3:Int)]:List Int).length=2 from rfl) (mI (e:=l9) (0:Int) 1 (fun _=>rfl) ([(0:Int),(3:Int)]:List Int)))
 .obtain⟨o,b⟩|⟨o,b⟩:=Zah b
  .apply Yc b 6 [rz,rA [(0,.c ([(0:Int)]:List Int).length (Zam l9 (0:Int) ([(0:Int)]:List Int)))]] [false,true] (lZ [2] [11] [(11,99999)]) (mf h o (show ([(0:Int)]:List Int).length=1 from rfl) (mI (e:=l9) (0:Int) 1 (fun _=>rfl) ([(0:Int)]:List Int)))
  .obtain⟨p,b⟩|⟨p,b⟩:=Zah b
   .exact Ye 9 [rz,rz] [false,false,true] (Yi [3,12]) (me h o p) (ZnP S0 w0 g (g==(3:Int)) r b)
   .exact Ye 9 [rz,rz,rz] [false,false,false] (Yi [3,12]) (me h o p) (ZnP S0 w0 g (g==(9:Int)) r b)
def Zkl(b:Int):Option (List Int):=bif(b==(1:Int))then ZiR b (b==(1:Int))else bif(b==(12:Int))then ZiR b (b==(12:Int))else ZiR b (b==(13:Int))
theorem Zud(d:Int)(r:List Int)(b:Zkl d=some r):Yp 157 [] [Yj d] [(l5 99999 234 1 l9 (0:Int) r)] (.one (.osl 99999 r.length)):=by
 refine Yw Tryz.func157 fun S0 w0=>?_;unfold Zkl at b;obtain⟨g,b⟩|⟨g,b⟩:=Zah b
 .exact Ye 11 [rz,rz,rz] [true] (Yi [3,4]) (mc g) (ZkU S0 w0 d (d==(1:Int)) r b)
 .obtain⟨h,b⟩|⟨h,b⟩:=Zah b
  .exact Ye 14 [rz,rz,rz,rz] [false,true] (Yi [3,4]) (md g h) (ZkU S0 w0 d (d==(12:Int)) r b)
  .exact Ye 14 [rz,rz,rz,rz,rz] [false,false] (Yi [3,4]) (md g h) (ZkU S0 w0 d (d==(13:Int)) r b)
theorem ZvI(b:Int)(r:List Int)(d:Zkl b=some r):Yo 157 [Yj b] (.one (cL 1 l9 (0:Int) r)):=(Zud b r d).pure
def ZoQ(b:Int):Option Zaf:=some (Zaf.mk false 0 (IntKind.wrap .u64 b))
theorem ZtN(b:Int)(r:Zaf)(d:ZoQ b=some r):Yo 295 [.one (.lit (.int .u32 b))] (.agg (Zaf.c r)):=by
 refine Yv Tryz.func295 fun S0 w0=>?_;unfold ZoQ at d;apply Ya d 4 [rz,rz] [] .n
def ZsN(d b:Int):Option Zaf:=bif(d==(0:Int))then bif((Int.fdiv b (2 ^ (min (32:Int).toNat (IntKind.bits .u64))))==(65535:Int))then(ZoQ (IntKind.wrap .u32 (IntKind.wrap .u64 (((BitVec.ofInt (IntKind.bits .u64) b) &&& (BitVec.ofInt (IntKind.bits .u64) (4294967295:Int))).toNat:Int)))).bind fun g=>some g else some (Zaf.mk true d b)else some (Zaf.mk true d b)
theorem ZAh(h j:Int)(r:Zaf)(b:ZsN h j=some r):Yo 294 [.one (.lit (.int .u64 h)),.one (.lit (.int .u64 j))] (.agg (Zaf.c r)):=by
 refine Yv Tryz.func294 fun S0 w0=>?_;unfold ZsN at b;obtain⟨d,b⟩|⟨d,b⟩:=Zah b
 .have O1:=(md d (mJ (32:Int) rfl));obtain⟨g,b⟩|⟨g,b⟩:=Zah b
  .obtain⟨o,p,b⟩:=Zad b;apply Ya b 8 [rz,rB [(2,true)],rA [(3,aG (Zaf.c o))]] [true] (mt O1 g (ZtN _ _ p))
  .apply Ya b 9 [rz,rB [(2,true)],rz] [false] (mr O1 g)
 .apply Ya b 9 [rz,rB [(2,false)],rz] [false] (md d (mH false))
def ZfM(b:Zaf):Option Bool:=bif b.fV6 then(ZsN b.fHi b.fLo).bind fun d=>some (decide (d=b))else(ZoQ (IntKind.wrap .u32 (IntKind.wrap .u64 (((BitVec.ofInt (IntKind.bits .u64) b.fLo) &&& (BitVec.ofInt (IntKind.bits .u64) (4294967295:Int))).toNat:Int)))).bind fun g=>some (decide (g=b))
theorem Zda(d:Zaf)(r:Bool)(b:ZfM d=some r):Yo 221 [.agg (Zaf.c d)] (Yk r):=by
 refine Yv Tryz.func221 fun S0 w0=>?_;unfold ZfM at b;obtain⟨g,b⟩|⟨g,b⟩:=Zah b
 .obtain⟨h,o,b⟩:=Zad b;apply Ya b 8 [rz,rz,rA [(4,aG (Zaf.c h)),(6,aB (decide (h=d)))]] [true] (me g (ZAh _ _ _ o) (ZlD h d (.tmp 9) (.tmp 10)))
 .obtain⟨j,p,b⟩:=Zad b;apply Ya b 9 [rz,rz,rA [(4,aG (Zaf.c j)),(6,aB (decide (j=d)))]] [false] (me g (ZtN _ _ p) (ZlD j d (.tmp 16) (.tmp 17)))
def ZlM(b:Zal):Option Bool:=(ZfM b.fAddr).bind fun d=>bif d then bif(decide (b.fPort>=(1:Int)))then some (decide (b.fPort<=(65535:Int)))else some false else some false
theorem ZvE(o:Zal)(r:Bool)(b:ZlM o=some r):Yo 189 [.agg (Zal.c o)] (Yk r):=by
 refine Yv Tryz.func189 fun S0 w0=>?_;unfold ZlM at b;obtain⟨g,h,b⟩:=Zad b;obtain⟨d,b⟩|⟨d,b⟩:=Zah b
 .obtain⟨j,b⟩|⟨j,b⟩:=Zah b
  .apply Ya b 4 [rz,⟨[(2,aB g)],[(3,true),(8,true)],[],[],[],[],[]⟩] [] (me (Zda _ _ h) d j)
  .apply Ya b 4 [rz,⟨[(2,aB g)],[(3,true),(8,false)],[],[],[],[],[]⟩] [] (me (Zda _ _ h) d j)
 .apply Ya b 4 [rz,⟨[(2,aB g)],[(3,false)],[],[],[],[],[]⟩] [] (md (Zda _ _ h) d)
def Zeb(b:Zaf):Option Int:=bif b.fV6 then some (128:Int)else some (32:Int)
theorem Zhi(g:Zaf)(r:Int)(b:Zeb g=some r):Yo 306 [.agg (Zaf.c g)] (Yj r):=by
 refine Yv Tryz.func306 fun S0 w0=>?_;unfold Zeb at b;obtain⟨d,b⟩|⟨d,b⟩:=Zah b
 .apply Ya b 8 [rz,rz,rz] [true] (mc d)
 .apply Ya b 9 [rz,rz,rz] [false] (mc d)
def ZgN(b:Int):Option Int:=some (IntKind.wrap .u64 (((BitVec.ofInt (IntKind.bits .u64) (Int.fdiv (IntKind.wrap .u64 (((BitVec.ofInt (IntKind.bits .u64) (IntKind.wrap .u64 (((BitVec.ofInt (IntKind.bits .u64) (Int.fdiv (IntKind.wrap .u64 (((BitVec.ofInt (IntKind.bits .u64) (IntKind.wrap .u64 (((BitVec.ofInt (IntKind.bits .u64) (Int.fdiv b (2 ^ (min (8:Int).toNat (IntKind.bits .u64))))) &&& (BitVec.ofInt (IntKind.bits .u64) (71777214294589695:Int))).toNat:Int))) ||| (BitVec.ofInt (IntKind.bits .u64) (IntKind.wrap .u64 ((IntKind.wrap .u64 (((BitVec.ofInt (IntKind.bits .u64) b) &&& (BitVec.ofInt (IntKind.bits .u64) (71777214294589695:Int))).toNat:Int)) * 2 ^ (min (8:Int).toNat (IntKind.bits .u64)))))).toNat:Int)) (2 ^ (min (16:Int).toNat (IntKind.bits .u64))))) &&& (BitVec.ofInt (IntKind.bits .u64) (281470681808895:Int))).toNat:Int))) ||| (BitVec.ofInt (IntKind.bits .u64) (IntKind.wrap .u64 ((IntKind.wrap .u64 (((BitVec.ofInt (IntKind.bits .u64) (IntKind.wrap .u64 (((BitVec.ofInt (IntKind.bits .u64) (IntKind.wrap .u64 (((BitVec.ofInt (IntKind.bits .u64) (Int.fdiv b (2 ^ (min (8:Int).toNat (IntKind.bits .u64))))) &&& (BitVec.ofInt (IntKind.bits .u64) (71777214294589695:Int))).toNat:Int))) ||| (BitVec.ofInt (IntKind.bits .u64) (IntKind.wrap .u64 ((IntKind.wrap .u64 (((BitVec.ofInt (IntKind.bits .u64) b) &&& (BitVec.ofInt (IntKind.bits .u64) (71777214294589695:Int))).toNat:Int)) * 2 ^ (min (8:Int).toNat (IntKind.bits .u64)))))).toNat:Int))) &&& (BitVec.ofInt (IntKind.bits .u64) (281470681808895:Int))).toNat:Int)) * 2 ^ (min (16:Int).toNat (IntKind.bits .u64)))))).toNat:Int)) (2 ^ (min (32:Int).toNat (IntKind.bits .u64))))) ||| (BitVec.ofInt (IntKind.bits .u64) (IntKind.wrap .u64 ((IntKind.wrap .u64 (((BitVec.ofInt (IntKind.bits .u64) (IntKind.wrap .u64 (((BitVec.ofInt (IntKind.bits .u64) (Int.fdiv (IntKind.wrap .u64 (((BitVec.ofInt (IntKind.bits .u64) (IntKind.wrap .u64 (((BitVec.ofInt (IntKind.bits .u64) (Int.fdiv b (2 ^ (min (8:Int).toNat (IntKind.bits .u64))))) &&& (BitVec.ofInt (IntKind.bits .u64) (71777214294589695:Int))).toNat:Int))) ||| (BitVec.ofInt (IntKind.bits .u64) (IntKind.wrap .u64 ((IntKind.wrap .u64 (((BitVec.ofInt (IntKind.bits .u64) b) &&& (BitVec.ofInt (IntKind.bits .u64) (71777214294589695:Int))).toNat:Int)) * 2 ^ (min (8:Int).toNat (IntKind.bits .u64)))))).toNat:Int)) (2 ^ (min (16:Int).toNat (IntKind.bits .u64))))) &&& (BitVec.ofInt (IntKind.bits .u64) (281470681808895:Int))).toNat:Int))) ||| (BitVec.ofInt (IntKind.bits .u64) (IntKind.wrap .u64 ((IntKind.wrap .u64 (((BitVec.ofInt (IntKind.bits .u64) (IntKind.wrap .u64 (((BitVec.ofInt (IntKind.bits .u64) (IntKind.wrap .u64 (((BitVec.ofInt (IntKind.bits .u64) (Int.fdiv b (2 ^ (min (8:Int).toNat (IntKind.bits .u64))))) &&& (BitVec.ofInt (IntKind.bits .u64) (71777214294589695:Int))).toNat:Int))) ||| (BitVec.ofInt (IntKind.bits .u64) (IntKind.wrap .u64 ((IntKind.wrap .u64 (((BitVec.ofInt (IntKind.bits .u64) b) &&& (BitVec.ofInt (IntKind.bits .u64) (71777214294589695:Int))).toNat:Int)) * 2 ^ (min (8:Int).toNat (IntKind.bits .u64)))))).toNat:Int))) &&& (BitVec.ofInt (IntKind.bits .u64) (281470681808895:Int))).toNat:Int)) * 2 ^ (min (16:Int).toNat (IntKind.bits .u64)))))).toNat:Int)) * 2 ^ (min (32:Int).toNat (IntKind.bits .u64)))))).toNat:Int))
theorem Zma(b r:Int)(d:ZgN b=some r):Yo 399 [.one (.lit (.int .u64 b))] (.one (.lit (.int .u64 r))):=by
 refine Yv Tryz.func399 fun S0 w0=>?_;unfold ZgN at d;apply Ya d 8 [rz,rz,rz,rz] [] (mh (mJ (8:Int) rfl) (mJ (8:Int) rfl) (mJ (16:Int) rfl) (mJ (16:Int) rfl) (mJ (32:Int) rfl) (mJ (32:Int) rfl))
def ZiK(b:Int):Option Int:=(ZgN (IntKind.wrap .u64 (((BitVec.ofInt (IntKind.bits .u64) (IntKind.wrap .u64 (((BitVec.ofInt (IntKind.bits .u64) (Int.fdiv (IntKind.wrap .u64 (((BitVec.ofInt (IntKind.bits .u64) (IntKind.wrap .u64 (((BitVec.ofInt (IntKind.bits .u64) (Int.fdiv (IntKind.wrap .u64 (((BitVec.ofInt (IntKind.bits .u64) (IntKind.wrap .u64 (((BitVec.ofInt (IntKind.bits .u64) (Int.fdiv b (2 ^ (min (1:Int).toNat (IntKind.bits .u64))))) &&& (BitVec.ofInt (IntKind.bits .u64) (6148914691236517205:Int))).toNat:Int))) ||| (BitVec.ofInt (IntKind.bits .u64) (IntKind.wrap .u64 ((IntKind.wrap .u64 (((BitVec.ofInt (IntKind.bits .u64) b) &&& (BitVec.ofInt (IntKind.bits .u64) (6148914691236517205:Int))).toNat:Int)) * 2 ^ (min (1:Int).toNat (IntKind.bits .u64)))))).toNat:Int)) (2 ^ (min (2:Int).toNat (IntKind.bits .u64))))) &&& (BitVec.ofInt (IntKind.bits .u64) (3689348814741910323:Int))).toNat:Int))) ||| (BitVec.ofInt (IntKind.bits .u64) (IntKind.wrap .u64 ((IntKind.wrap .u64 (((BitVec.ofInt (IntKind.bits .u64) (IntKind.wrap .u64 (((BitVec.ofInt (IntKind.bits .u64) (IntKind.wrap .u64 (((BitVec.ofInt (IntKind.bits .u64) (Int.fdiv b (2 ^ (min (1:Int).toNat (IntKind.bits .u64))))) &&& (BitVec.ofInt (IntKind.bits .u64) (6148914691236517205:Int))).toNat:Int))) ||| (BitVec.ofInt (IntKind.bits .u64) (IntKind.wrap .u64 ((IntKind.wrap .u64 (((BitVec.ofInt (IntKind.bits .u64) b) &&& (BitVec.ofInt (IntKind.bits .u64) (6148914691236517205:Int))).toNat:Int)) * 2 ^ (min (1:Int).toNat (IntKind.bits .u64)))))).toNat:Int))) &&& (BitVec.ofInt (IntKind.bits .u64) (3689348814741910323:Int))).toNat:Int)) * 2 ^ (min (2:Int).toNat (IntKind.bits .u64)))))).toNat:Int)) (2 ^ (min (4:Int).toNat (IntKind.bits .u64))))) &&& (BitVec.ofInt (IntKind.bits .u64) (1085102592571150095:Int))).toNat:Int))) ||| (BitVec.ofInt (IntKind.bits .u64) (IntKind.wrap .u64 ((IntKind.wrap .u64 (((BitVec.ofInt (IntKind.bits .u64) (IntKind.wrap .u64 (((BitVec.ofInt (IntKind.bits .u64) (IntKind.wrap .u64 (((BitVec.ofInt (IntKind.bits .u64) (Int.fdiv (IntKind.wrap .u64 (((BitVec.ofInt (IntKind.bits .u64) (IntKind.wrap .u64 (((BitVec.ofInt (IntKind.bits .u64) (Int.fdiv b (2 ^ (min (1:Int).toNat (IntKind.bits .u64))))) &&& (BitVec.ofInt (IntKind.bits .u64) (6148914691236517205:Int))).toNat:Int))) ||| (BitVec.ofInt (IntKind.bits .u64) (IntKind.wrap .u64 ((IntKind.wrap .u64 (((BitVec.ofInt (IntKind.bits .u64) b) &&& (BitVec.ofInt (IntKind.bits .u64) (6148914691236517205:Int))).toNat:Int)) * 2 ^ (min (1:Int).toNat (IntKind.bits .u64)))))).toNat:Int)) (2 ^ (min (2:Int).toNat (IntKind.bits .u64))))) &&& (BitVec.ofInt (IntKind.bits .u64) (3689348814741910323:Int))).toNat:Int))) ||| (BitVec.ofInt (IntKind.bits .u64) (IntKind.wrap .u64 ((IntKind.wrap .u64 (((BitVec.ofInt (IntKind.bits .u64) (IntKind.wrap .u64 (((BitVec.ofInt (IntKind.bits .u64) (IntKind.wrap .u64 (((BitVec.ofInt (IntKind.bits .u64) (Int.fdiv b (2 ^ (min (1:Int).toNat (IntKind.bits .u64))))) &&& (BitVec.ofInt (IntKind.bits .u64) (6148914691236517205:Int))).toNat:Int))) ||| (BitVec.ofInt (IntKind.bits .u64) (IntKind.wrap .u64 ((IntKind.wrap .u64 (((BitVec.ofInt (IntKind.bits .u64) b) &&& (BitVec.ofInt (IntKind.bits .u64) (6148914691236517205:Int))).toNat:Int)) * 2 ^ (min (1:Int).toNat (IntKind.bits .u64)))))).toNat:Int))) &&& (BitVec.ofInt (IntKind.bits .u64) (3689348814741910323:Int))).toNat:Int)) * 2 ^ (min (2:Int).toNat (IntKind.bits .u64)))))).toNat:Int))) &&& (BitVec.ofInt (IntKind.bits .u64) (1085102592571150095:Int))).toNat:Int)) * 2 ^ (min (4:Int).toNat (IntKind.bits .u64)))))).toNat:Int))).bind fun d=>some d
theorem ZoA(d r:Int)(b:ZiK d=some r):Yo 378 [.one (.lit (.int .u64 d))] (.one (.lit (.int .u64 r))):=by
 refine Yv Tryz.func378 fun S0 w0=>?_;unfold ZiK at b;obtain⟨g,h,b⟩:=Zad b;apply Ya b 10 [rz,rz,rz,rz,rA [(1,.r (.one (.lit (.int .u64 g))) [])]] [] (mi (mJ (1:Int) rfl) (mJ (1:Int) rfl) (mJ (2:Int) rfl) (mJ (2:Int) rfl) (mJ (4:Int) rfl) (mJ (4:Int) rfl) (Zma _ _ h))
def Zfy(b:Int):Option Int:=need (0<=(if(64:Int)<(if(0:Int)>b then(0:Int)else b)then(64:Int)else(if(0:Int)>b then(0:Int)else b)))<|(ZiK (IntKind.wrap .u64 ((IntKind.wrap .u64 ((1:Int) * 2 ^ (min (if(64:Int)<(if(0:Int)>b then(0:Int)else b)then(64:Int)else(if(0:Int)>b then(0:Int)else b)).toNat (IntKind.bits .u64))))-(1:Int)))).bind fun d=>some d
theorem ZpB(d r:Int)(b:Zfy d=some r):Yo 358 [Yj d] (.one (.lit (.int .u64 r))):=by
 refine Yv Tryz.func358 fun S0 w0=>?_;unfold Zfy at b;obtain⟨o1,b⟩:=Zao b;obtain⟨g,h,b⟩:=Zad b;apply Ya b 6 [rz,rz,rA [(3,.r (.one (.lit (.int .u64 g))) [])]] [] (md o1 (ZoA _ _ h))
def ZkR(d g b:Int):Option (Int×Int):=(Zfy b).bind fun h=>(Zfy (Zbd b (64:Int))).bind fun j=>some ((IntKind.wrap .u64 (((BitVec.ofInt (IntKind.bits .u64) d) &&& (BitVec.ofInt (IntKind.bits .u64) h)).toNat:Int)),(IntKind.wrap .u64 (((BitVec.ofInt (IntKind.bits .u64) g) &&& (BitVec.ofInt (IntKind.bits .u64) j)).toNat:Int)))
theorem Zuc(d g h:Int)(r:(Int×Int))(b:ZkR d g h=some r):Yo 359 [.one (.lit (.int .u64 d)),.one (.lit (.int .u64 g)),Yj h] (.tup [(false,(cI .u64) r.1),(false,(cI .u64) r.2)]):=by
 refine Yv Tryz.func359 fun S0 w0=>?_;unfold ZkR at b;obtain⟨j,o,p,t,b⟩:=Yu b;apply Ya b 4 [rz,rA [(2,.r (.one (.lit (.int .u64 j))) []),(7,.r (.one (.lit (.int .u64 o))) [])]] [] (md (ZpB _ _ p) (ZpB _ _ t))
def Zig(b:Zaf)(d:Int):Option Zaf:=(ZfM b).bind fun j=>bif(!j)then some (Zaf.mk false 0 0)else(Zeb b).bind fun g=>bif(!b.fV6)then(Zfy (if g<(if(0:Int)>d then(0:Int)else d)then g else(if(0:Int)>d then(0:Int)else d))).bind fun o=>some (Zaf.mk b.fV6 b.fHi (IntKind.wrap .u64 (((BitVec.ofInt (IntKind.bits .u64) b.fLo) &&& (BitVec.ofInt (IntKind.bits .u64) (Int.fdiv o (2 ^ (min (32:Int).toNat (IntKind.bits .u64)))))).toNat:Int)))else(ZkR b.fHi b.fLo (if g<(if(0:Int)>d then(0:Int)else d)then g else(if(0:Int)>d then(0:Int)else d))).bind fun h=>some (Zaf.mk b.fV6 h.1 h.2)
theorem ZrB(j:Zaf)(o:Int)(r:Zaf)(b:Zig j o=some r):Yo 324 [.agg (Zaf.c j),Yj o] (.agg (Zaf.c r)):=by
 refine Yv Tryz.func324 fun S0 w0=>?_;unfold Zig at b;obtain⟨d,p,b⟩:=Zad b;obtain⟨g,b⟩|⟨g,b⟩:=Zah b
 .apply Ya b 8 [rz,rA [(1,aB d)],rz] [true] (md (Zda _ _ p) g)
 .obtain⟨t,v,b⟩:=Zad b;have O1:=(me (Zda _ _ p) g (Zhi _ _ v));obtain⟨h,b⟩|⟨h,b⟩:=Zah b
  .obtain⟨y,z,b⟩:=Zad b;apply Ya b 17 [rz,rA [(1,aB d)],rA [(3,aI t)],rz,rA [(3,.r (.one (.lit (.int .u64 y))) [])],rz] [false,true] (mu O1 h (ZpB _ _ z) (mJ (32:Int) rfl))
  .obtain⟨u,A,b⟩:=Zad b;apply Ya b 18 [rz,rA [(1,aB d)],rA [(3,aI t)],rz,rA [(5,.r (.tup [(false,(cI .u64) u.1),(false,(cI .u64) u.2)]) [])],rz] [false,false] (mt O1 h (Zuc _ _ _ _ A))
def ZfT(d:Zaf)(b:Int):Option (Zap×Bool):=(ZfM d).bind fun g=>bif(!g)then some ((Zap.mk (Zaf.mk false 0 0) 0),false)else bif(decide (b<(0:Int)))then some ((Zap.mk (Zaf.mk false 0 0) 0),false)else(Zeb d).bind fun h=>bif(decide (b>h))then some ((Zap.mk (Zaf.mk false 0 0) 0),false)else(Zig d b).bind fun j=>some ((Zap.mk j b),true)
theorem Zgt(p:Zaf)(t:Int)(r:(Zap×Bool))(b:ZfT p t=some r):Yo 259 [.agg (Zaf.c p),Yj t] (.tup [(true,Zap.c r.1),(false,cB r.2)]):=by
 refine Yv Tryz.func259 fun S0 w0=>?_;unfold ZfT at b;obtain⟨g,h,b⟩:=Zad b;obtain⟨d,b⟩|⟨d,b⟩:=Zah b
 .apply Ya b 8 [rz,⟨[(1,aB g)],[(3,true)],[],[],[],[],[]⟩,rz] [true] (me (Zda _ _ h) d (mH true))
 .obtain⟨j,b⟩|⟨j,b⟩:=Zah b
  .apply Ya b 8 [rz,⟨[(1,aB g)],[(3,false),(7,true)],[],[],[],[],[]⟩,rz] [true] (mf (Zda _ _ h) d j (mH true))
  .obtain⟨u,v,b⟩:=Zad b
   let R1:List RA:=[rz,⟨[(1,aB g),(10,aI u)],[(3,false),(7,false)],[],[],[],[],[]⟩]
   have O2:=(mf (Zda _ _ h) d j (Zhi _ _ v));obtain⟨o,b⟩|⟨o,b⟩:=Zah b
   .apply Ya b 8 (R1++[rz]) [true] (mr O2 o)
   .obtain⟨y,z,b⟩:=Zad b;apply Ya b 9 (R1++[rA [(2,aG (Zaf.c y))]]) [false] (mt O2 o (ZrB _ _ _ z))
def ZhR(b:Zap):Option Bool:=(ZfT b.fAddr b.fBits).bind fun d=>bif d.2 then some (decide (d.1=b))else some false
theorem ZdL(d:Zap)(r:Bool)(b:ZhR d=some r):Yo 220 [.agg (Zap.c d)] (Yk r):=by
 refine Yv Tryz.func220 fun S0 w0=>?_;unfold ZhR at b;obtain⟨g,j,b⟩:=Zad b
 let R1:List RA:=[rz,rA [(4,.r (.tup [(true,Zap.c g.1),(false,cB g.2)]) [])]]
 obtain⟨h,b⟩|⟨h,b⟩:=Zah b
 .apply Ya b 6 (R1++[⟨[(4,aB (decide (g.1=d)))],[(1,true)],[],[],[],[],[]⟩]) [] (me (Zgt _ _ _ j) h (ZsT g.1 d (.tmp 15) (.tmp 16)))
 .apply Ya b 6 (R1++[rB [(1,false)]]) [] (md (Zgt _ _ _ j) h)
def Zls(b:Int):Option (Int×Int):=bif(b==(4:Int))then some ((0:Int),(1073741824:Int))else bif(b==(5:Int))then some ((1:Int),(5:Int))else bif(b==(6:Int))then some ((1:Int),(1099511627776:Int))else some ((1:Int),(1048576:Int))
theorem ZwG(j:Int)(r:(Int×Int))(b:Zls j=some r):Yo 222 [Yj j] (.tup [(false,l9 r.1),(false,l9 r.2)]):=by
 refine Yv Tryz.func222 fun S0 w0=>?_;unfold Zls at b;obtain⟨d,b⟩|⟨d,b⟩:=Zah b
 .apply Ya b 11 [rz,rz,rz,rz] [true] (mc d)
 .obtain⟨g,b⟩|⟨g,b⟩:=Zah b
  .apply Ya b 14 [rz,rz,rz,rz,rz] [false,true] (md d g)
  .obtain⟨h,b⟩|⟨h,b⟩:=Zah b
   .apply Ya b 17 [rz,rz,rz,rz,rz,rz] [false,false,true] (me d g h)
   .apply Ya b 19 [rz,rz,rz,rz,rz,rz] [false,false,false] (me d g h)
def ZlR(b:ZaB)(d:Int):Option Bool:=bif(d==(0:Int))then(ZlM b.fEnd).bind fun h=>some h else bif(d==(1:Int))then(ZhR b.fNet).bind fun j=>some j else bif(d==(2:Int))then(ZfM b.fEnd.fAddr).bind fun o=>some o else bif(d==(3:Int))then bif(decide (b.fNow>=(0:Int)))then some (decide (b.fNow<=(1099511627776:Int)))else some false else bif(d==(4:Int))then(Zls b.fKind).bind fun g=>bif(decide (b.fNum>=g.1))then some (decide (b.fNum<=g.2))else some false else some true
theorem ZvH(v:ZaB)(y:Int)(r:Bool)(b:ZlR v y=some r):Yo 158 [.agg (ZaB.c v),Yj y] (Yk r):=by
 refine Yv Tryz.func158 fun S0 w0=>?_;unfold ZlR at b;obtain⟨d,b⟩|⟨d,b⟩:=Zah b
 .obtain⟨A,B,b⟩:=Zad b;apply Ya b 11 [rz,rz,rz,rA [(2,aB A)]] [true] (md d (ZvE _ _ B))
 .obtain⟨g,b⟩|⟨g,b⟩:=Zah b
  .obtain⟨D,E,b⟩:=Zad b;apply Ya b 14 [rz,rz,rz,rz,rA [(2,aB D)]] [false,true] (me d g (ZdL _ _ E))
  .obtain⟨j,b⟩|⟨j,b⟩:=Zah b
   .obtain⟨F,G,b⟩:=Zad b;apply Ya b 17 [rz,rz,rz,rz,rz,rA [(3,aB F)]] [false,false,true] (mf d g j (Zda _ _ G))
   .obtain⟨o,b⟩|⟨o,b⟩:=Zah b
    .obtain⟨p,b⟩|⟨p,b⟩:=Zah b
     .apply Ya b 20 [rz,rz,rz,rz,rz,rz,rB [(3,true)]] [false,false,false,true] (mg d g j o p)
     .apply Ya b 20 [rz,rz,rz,rz,rz,rz,rB [(3,false)]] [false,false,false,true] (mg d g j o p)
    .obtain⟨t,b⟩|⟨t,b⟩:=Zah b
     .obtain⟨z,u,b⟩:=Zad b
      let R1:List RA:=[rz,rz,rz,rz,rz,rz,rz,rA [(2,.r (.tup [(false,l9 z.1),(false,l9 z.2)]) [])]]
      have O2:=(mh d g j o t (ZwG _ _ u));obtain⟨h,b⟩|⟨h,b⟩:=Zah b
      .apply Ya b 25 (R1++[rB [(4,true)]]) [false,false,false,false,true] (mr O2 h)
      .apply Ya b 25 (R1++[rB [(4,false)]]) [false,false,false,false,true] (mr O2 h)
     .apply Ya b 25 [rz,rz,rz,rz,rz,rz,rz,rz] [false,false,false,false,false] (mg d g j o t)
def ZeP:Nat->(List Int)->Int->Int->ZaB->Option Bool|0,_,_,_,_=>none|fu+1,d,g,b,h=>bif(decide (b<g))then need (0<=b/\b<(d.length:Int))<|(ZlR h (d.getD b.toNat (0:Int))).bind fun j=>bif(!j)then some false else ZeP fu d g (Zan b 1) h else some true
theorem ZsK:∀(o:Nat)(g:List Int)(h j:Int)(b:ZaB)(r:Bool),ZeP o g h j b=some r->Yr 22 S0 w0 Tryz.f84 (Yk r) [1,1,0,1,0] ⟨[(1,.one (.ptr 1 0)),(11,.one (cL 1 l9 (0:Int) g)),(12,(Yj h)),(13,(Yj j))],[(1,.box (ZaB.c b))]⟩:=by
 intro o;induction o with
 |zero=>
  intro g h j b r d;simp[ZeP]at d
 |succ o v=>
  intro g h j b r d;unfold ZeP at d;obtain⟨p,d⟩|⟨p,d⟩:=Zah d
  .obtain⟨y,d⟩:=Zao d;obtain⟨u,z,d⟩:=Zad d;have O1:=(me p y (ZvH _ _ _ z));obtain⟨t,d⟩|⟨t,d⟩:=Zah d
   .apply Ya d 15 [rz,rz,rA [(2,aB u)],rz] [true,true] (mr O1 t)
   .exact Ye 17 [rz,rz,rA [(2,aB u)],rz] [true,false] (lX [1,11,12,13] [1]) (mr O1 t) (v g h (Zan j 1) b r d)
  .apply Ya d 8 [rz,rz] [false] (mc p)
def ZlS(b:ZaB):Option Bool:=(ZmT b.fKind).bind fun g=>bif(g.toList==(⟨#[]⟩ : ByteArray).toList)then some false else(Zkl b.fKind).bind fun d=>ZeP (((d.length:Int)-(0:Int)).toNat+2) d (d.length:Int) (0:Int) b
theorem ZkV(g:ZaB)(r:Bool)(b:ZlS g=some r):Yo 84 [.agg (ZaB.c g)] (Yk r):=by
 refine Yv Tryz.func84 fun S0 w0=>?_;unfold ZlS at b;obtain⟨o,j,b⟩:=Zad b
 let R2:List RA:=[rz,rA [(2,.r (.one (.lit (.string o))) [])]]
 obtain⟨h,b⟩|⟨h,b⟩:=Zah b
 .apply Ya b 8 (R2++[rz]) [true] (md (ZrA _ _ j) h)
 .obtain⟨d,p,b⟩:=Zad b;exact Ye 11 (R2++[rA [(2,.r (.one (cL 1 l9 (0:Int) d)) [])]]) [false] (lX [1,11,12,13] [1]) (me (ZrA _ _ j) h (ZvI _ _ p)) (ZsK S0 w0 (((d.length:Int)-(0:Int)).toNat+2) d (d.length:Int) (0:Int) g r b)
def Zia(d:Int)(g:Bool)(b h:Zay):Option Zay:=bif g then some (Zay.mk b.fKind 0 0)else bif(d==(5:Int))then some (Zay.mk b.fKind b.fShard 0)else bif(d==(6:Int))then some b else some (Zay.mk 0 0 0)
theorem ZjW(p:Int)(t:Bool)(g h r:Zay)(b:Zia p t g h=some r):Yr 24 S0 w0 Tryz.f433 (.agg (Zay.c r)) [1,0,1,0,1] ⟨[(1,.one (.ptr 1 0)),(2,.one (.ptr 2 0)),(4,(Yj p)),(5,(Yk t))],[(1,.box (Zay.c g)),(2,.box (Zay.c h))]⟩:=by
 unfold Zia at b;obtain⟨d,b⟩|⟨d,b⟩:=Zah b
 .apply Ya b 3 [rz] [true] (mc d)
 .obtain⟨j,b⟩|⟨j,b⟩:=Zah b
  .apply Ya b 6 [rz,rz] [false,true] (md d j)
  .obtain⟨o,b⟩|⟨o,b⟩:=Zah b
   .apply Ya b 9 [rz,rz,rz] [false,false,true] (me d j o)
   .apply Ya b 11 [rz,rz,rz] [false,false,false] (me d j o)
def Zlp(b:Zay):Option Zay:=bif(b.fKind==(1:Int))then Zia b.fKind (b.fKind==(1:Int)) b (Zay.mk 0 0 0)else bif(b.fKind==(2:Int))then Zia b.fKind (b.fKind==(2:Int)) b (Zay.mk 0 0 0)else bif(b.fKind==(3:Int))then Zia b.fKind (b.fKind==(3:Int)) b (Zay.mk 0 0 0)else Zia b.fKind (b.fKind==(4:Int)) b (Zay.mk 0 0 0)
theorem Zpi(b r:Zay)(d:Zlp b=some r):Yo 433 [.agg (Zay.c b)] (.agg (Zay.c r)):=by
 refine Yv Tryz.func433 fun S0 w0=>?_;unfold Zlp at d;obtain⟨g,d⟩|⟨g,d⟩:=Zah d
 .exact Ye 11 [rz,rz,rz] [true] (lX [1,2,4,5] [1,2]) (mc g) (ZjW S0 w0 b.fKind (b.fKind==(1:Int)) b Zay.d r d)
 .obtain⟨h,d⟩|⟨h,d⟩:=Zah d
  .exact Ye 14 [rz,rz,rz,rz] [false,true] (lX [1,2,4,5] [1,2]) (md g h) (ZjW S0 w0 b.fKind (b.fKind==(2:Int)) b Zay.d r d)
  .obtain⟨j,d⟩|⟨j,d⟩:=Zah d
   .exact Ye 17 [rz,rz,rz,rz,rz] [false,false,true] (lX [1,2,4,5] [1,2]) (me g h j) (ZjW S0 w0 b.fKind (b.fKind==(3:Int)) b Zay.d r d)
   .exact Ye 17 [rz,rz,rz,rz,rz,rz] [false,false,false] (lX [1,2,4,5] [1,2]) (me g h j) (ZjW S0 w0 b.fKind (b.fKind==(4:Int)) b Zay.d r d)
def Zjj(d:Int)(g:Bool)(b h:Zag):Option Zag:=bif g then some (Zag.mk b.fN (Zaa.mk (Zal.mk (Zaf.mk false 0 0) 0) false 0 (ZaD.mk 0 0) 0 0) ([]:(List Zae)) ([]:(List Zac)))else bif(d==(3:Int))then some (Zag.mk 0 (Zaa.mk (Zal.mk (Zaf.mk false 0 0) 0) false 0 (ZaD.mk 0 0) 0 0) b.fBans ([]:(List Zac)))else bif(d==(4:Int))then some (Zag.mk 0 (Zaa.mk (Zal.mk (Zaf.mk false 0 0) 0) false 0 (ZaD.mk 0 0) 0 0) ([]:(List Zae)) b.fBook)else bif(d==(6:Int))then some (Zag.mk 0 b.fPeer ([]:(List Zae)) ([]:(List Zac)))else some (Zag.mk 0 (Zaa.mk (Zal.mk (Zaf.mk false 0 0) 0) false 0 (ZaD.mk 0 0) 0 0) ([]:(List Zae)) ([]:(List Zac)))
theorem ZlZ(u:Int)(v:Bool)(g h r:Zag)(b:Zjj u v g h=some r):Yr 29 S0 w0 Tryz.f434 (.agg (Zag.c r)) [1,0,1,0,1] ⟨[(3,.one (.ptr 3 0)),(4,.one (.ptr 4 0)),(5,(Yj u)),(6,(Yk v))],[(3,.box (Zag.c g)),(4,.box (Zag.c h))]⟩:=by
 unfold Zjj at b;obtain⟨j,b⟩|⟨j,b⟩:=Zah b
 .apply Yb b 3 [rz] [true] [] [(4,[(11,cL 5 Zae.c Zae.d []),(12,cL 7 Zac.c Zac.d [])])] [] (mc j)
 .obtain⟨o,b⟩|⟨o,b⟩:=Zah b
  .apply Yb b 6 [rz,rz] [false,true] [] [(4,[(12,cL 7 Zac.c Zac.d [])])] [] (md j o)
  .obtain⟨p,b⟩|⟨p,b⟩:=Zah b
   .apply Yb b 9 [rz,rz,rz] [false,false,true] [] [(4,[(11,cL 5 Zae.c Zae.d [])])] [] (me j o p)
   .obtain⟨t,b⟩|⟨t,b⟩:=Zah b
    .apply Yb b 12 [rz,rz,rz,rz] [false,false,false,true] [] [(4,[(11,cL 5 Zae.c Zae.d []),(12,cL 7 Zac.c Zac.d [])])] [] (mf j o p t)
    .apply Yb b 14 [rz,rz,rz,rz] [false,false,false,false] [] [(4,[(11,cL 5 Zae.c Zae.d []),(12,cL 7 Zac.c Zac.d [])])] [] (mf j o p t)
def Zoy(b:Int)(d:Zag):Option Zag:=bif(b==(1:Int))then Zjj b (b==(1:Int)) d (Zag.mk 0 (Zaa.mk (Zal.mk (Zaf.mk false 0 0) 0) false 0 (ZaD.mk 0 0) 0 0) ([]:(List Zae)) ([]:(List Zac)))else bif(b==(2:Int))then Zjj b (b==(2:Int)) d (Zag.mk 0 (Zaa.mk (Zal.mk (Zaf.mk false 0 0) 0) false 0 (ZaD.mk 0 0) 0 0) ([]:(List Zae)) ([]:(List Zac)))else Zjj b (b==(5:Int)) d (Zag.mk 0 (Zaa.mk (Zal.mk (Zaf.mk false 0 0) 0) false 0 (ZaD.mk 0 0) 0 0) ([]:(List Zae)) ([]:(List Zac)))
theorem ZyB(g:Int)(h r:Zag)(b:Zoy g h=some r):Yo 434 [Yj g,.agg (Zag.c h)] (.agg (Zag.c r)):=by
 refine Yv Tryz.func434 fun S0 w0=>?_;unfold Zoy at b;obtain⟨j,b⟩|⟨j,b⟩:=Zah b
 .exact Ye 11 [rz,rz,rz] [true] (lY [(4,[(11,cL 5 Zae.c Zae.d []),(12,cL 7 Zac.c Zac.d [])])] [3,4,5,6] [3,4]) (mc j) (ZlZ S0 w0 g (g==(1:Int)) h Zag.d r b)
 .obtain⟨o,b⟩|⟨o,b⟩:=Zah b
  .exact Ye 14 [rz,rz,rz,rz] [false,true] (lY [(4,[(11,cL 5 Zae.c Zae.d []),(12,cL 7 Zac.c Zac.d [])])] [3,4,5,6] [3,4]) (md j o) (ZlZ S0 w0 g (g==(2:Int)) h Zag.d r b)
  .exact Ye 14 [rz,rz,rz,rz,rz] [false,false] (lY [(4,[(11,cL 5 Zae.c Zae.d []),(12,cL 7 Zac.c Zac.d [])])] [3,4,5,6] [3,4]) (md j o) (ZlZ S0 w0 g (g==(5:Int)) h Zag.d r b)
def Zib(d:Int)(h:Bool)(g u b:ZaK):Option ZaK:=bif h then some (ZaK.mk b.fKind g.fLock b.fLoc b.fOld b.fNew b.fVal b.fMark)else bif(d==(5:Int))then(Zlp g.fLoc).bind fun j=>some (ZaK.mk b.fKind b.fLock j b.fOld b.fNew b.fVal b.fMark)else bif(d==(6:Int))then(Zlp g.fLoc).bind fun o=>(Zoy g.fLoc.fKind g.fVal).bind fun p=>some (ZaK.mk b.fKind b.fLock o b.fOld b.fNew p b.fMark)else bif(d==(7:Int))then(Zlp g.fLoc).bind fun t=>some (ZaK.mk b.fKind b.fLock t g.fOld g.fNew b.fVal b.fMark)else bif(d==(8:Int))then some b else some (ZaK.mk 0 0 (Zay.mk 0 0 0) 0 0 (Zag.mk 0 (Zaa.mk (Zal.mk (Zaf.mk false 0 0) 0) false 0 (ZaD.mk 0 0) 0 0) ([]:(List Zae)) ([]:(List Zac))) false)
theorem ZjX(u:Int)(v:Bool)(g h j r:ZaK)(b:Zib u v g h j=some r):Yr 54 S0 w0 Tryz.f432 (.agg (ZaK.c r)) [1,1,0,1,0,1] ⟨[(1,.one (.ptr 1 0)),(2,.one (.ptr 2 0)),(3,.one (.ptr 3 0)),(10,(Yj u)),(12,(Yk v))],[(1,.box (ZaK.c g)),(2,.box (ZaK.c h)),(3,.box (ZaK.c j))]⟩:=by
 unfold Zib at b;obtain⟨o,b⟩|⟨o,b⟩:=Zah b
 .apply Ya b 5 [rz,rz] [true] (mc o)
 .obtain⟨t,b⟩|⟨t,b⟩:=Zah b
  .obtain⟨A,B,b⟩:=Zad b;apply Ya b 8 [rz,rA [(2,aG (Zay.c A))],rz] [false,true] (me o t (Zpi _ _ B))
  .obtain⟨y,b⟩|⟨y,b⟩:=Zah b
   .obtain⟨D,E,F,G,b⟩:=Yu b;apply Ya b 11 [rz,rz,rA [(2,aG (Zay.c D)),(8,aG (Zag.c E))],rz] [false,false,true] (mg o t y (Zpi _ _ F) (ZyB _ _ _ G))
   .obtain⟨z,b⟩|⟨z,b⟩:=Zah b
    .obtain⟨H,I,b⟩:=Zad b;apply Ya b 14 [rz,rz,rz,rA [(2,aG (Zay.c H))],rz] [false,false,false,true] (mg o t y z (Zpi _ _ I))
    .obtain⟨p,b⟩|⟨p,b⟩:=Zah b
     .apply Ya b 17 [rz,rz,rz,rz,rz] [false,false,false,false,true] (mg o t y z p)
     .apply Yb b 15 [rz,rz,rz,rz,rz] [false,false,false,false,false] [] [(2,[(18,cL 5 Zae.c Zae.d []),(19,cL 7 Zac.c Zac.d [])])] [] (mg o t y z p)
def Zoz(b:ZaK):Option ZaK:=bif(b.fKind==(1:Int))then Zib b.fKind (b.fKind==(1:Int)) b (ZaK.mk 0 0 (Zay.mk 0 0 0) 0 0 (Zag.mk 0 (Zaa.mk (Zal.mk (Zaf.mk false 0 0) 0) false 0 (ZaD.mk 0 0) 0 0) ([]:(List Zae)) ([]:(List Zac))) false) (ZaK.mk b.fKind 0 (Zay.mk 0 0 0) 0 0 (Zag.mk 0 (Zaa.mk (Zal.mk (Zaf.mk false 0 0) 0) false 0 (ZaD.mk 0 0) 0 0) ([]:(List Zae)) ([]:(List Zac))) b.fMark)else bif(b.fKind==(2:Int))then Zib b.fKind (b.fKind==(2:Int)) b (ZaK.mk 0 0 (Zay.mk 0 0 0) 0 0 (Zag.mk 0 (Zaa.mk (Zal.mk (Zaf.mk false 0 0) 0) false 0 (ZaD.mk 0 0) 0 0) ([]:(List Zae)) ([]:(List Zac))) false) (ZaK.mk b.fKind 0 (Zay.mk 0 0 0) 0 0 (Zag.mk 0 (Zaa.mk (Zal.mk (Zaf.mk false 0 0) 0) false 0 (ZaD.mk 0 0) 0 0) ([]:(List Zae)) ([]:(List Zac))) b.fMark)else bif(b.fKind==(3:Int))then Zib b.fKind (b.fKind==(3:Int)) b (ZaK.mk 0 0 (Zay.mk 0 0 0) 0 0 (Zag.mk 0 (Zaa.mk (Zal.mk (Zaf.mk false 0 0) 0) false 0 (ZaD.mk 0 0) 0 0) ([]:(List Zae)) ([]:(List Zac))) false) (ZaK.mk b.fKind 0 (Zay.mk 0 0 0) 0 0 (Zag.mk 0 (Zaa.mk (Zal.mk (Zaf.mk false 0 0) 0) false 0 (ZaD.mk 0 0) 0 0) ([]:(List Zae)) ([]:(List Zac))) b.fMark)else Zib b.fKind (b.fKind==(4:Int)) b (ZaK.mk 0 0 (Zay.mk 0 0 0) 0 0 (Zag.mk 0 (Zaa.mk (Zal.mk (Zaf.mk false 0 0) 0) false 0 (ZaD.mk 0 0) 0 0) ([]:(List Zae)) ([]:(List Zac))) false) (ZaK.mk b.fKind 0 (Zay.mk 0 0 0) 0 0 (Zag.mk 0 (Zaa.mk (Zal.mk (Zaf.mk false 0 0) 0) false 0 (ZaD.mk 0 0) 0 0) ([]:(List Zae)) ([]:(List Zac))) b.fMark)
theorem ZyC(b r:ZaK)(g:Zoz b=some r):Yo 432 [.agg (ZaK.c b)] (.agg (ZaK.c r)):=by
 refine Yv Tryz.func432 fun S0 w0=>?_;unfold Zoz at g;obtain⟨h,g⟩|⟨h,g⟩:=Zah g
 .exact Ye 13 [rz,rz,rz,rz] [true] (lY [(2,[(18,cL 5 Zae.c Zae.d []),(19,cL 7 Zac.c Zac.d [])]),(3,[(18,cL 5 Zae.c Zae.d []),(19,cL 7 Zac.c Zac.d [])])] [1,2,3,10,12] [1,2,3]) (mc h) (ZjX S0 w0 b.fKind (b.fKind==(1:Int)) b ZaK.d (ZaK.mk b.fKind 0 Zay.d 0 0 Zag.d b.fMark) r g)
 .obtain⟨j,g⟩|⟨j,g⟩:=Zah g
  .exact Ye 16 [rz,rz,rz,rz,rz] [false,true] (lY [(2,[(18,cL 5 Zae.c Zae.d []),(19,cL 7 Zac.c Zac.d [])]),(3,[(18,cL 5 Zae.c Zae.d []),(19,cL 7 Zac.c Zac.d [])])] [1,2,3,10,12] [1,2,3]) (md h j) (ZjX S0 w0 b.fKind (b.fKind==(2:Int)) b ZaK.d (ZaK.mk b.fKind 0 Zay.d 0 0 Zag.d b.fMark) r g)
  .obtain⟨o,g⟩|⟨o,g⟩:=Zah g
   .exact Ye 19 [rz,rz,rz,rz,rz,rz] [false,false,true] (lY [(2,[(18,cL 5 Zae.c Zae.d []),(19,cL 7 Zac.c Zac.d [])]),(3,[(18,cL 5 Zae.c Zae.d []),(19,cL 7 Zac.c Zac.d [])])] [1,2,3,10,12] [1,2,3]) (me h j o) (ZjX S0 w0 b.fKind (b.fKind==(3:Int)) b ZaK.d (ZaK.mk b.fKind 0 Zay.d 0 0 Zag.d b.fMark) r g)
   .exact Ye 19 [rz,rz,rz,rz,rz,rz,rz] [false,false,false] (lY [(2,[(18,cL 5 Zae.c Zae.d []),(19,cL 7 Zac.c Zac.d [])]),(3,[(18,cL 5 Zae.c Zae.d []),(19,cL 7 Zac.c Zac.d [])])] [1,2,3,10,12] [1,2,3]) (me h j o) (ZjX S0 w0 b.fKind (b.fKind==(4:Int)) b ZaK.d (ZaK.mk b.fKind 0 Zay.d 0 0 Zag.d b.fMark) r g)
def Zcv(b:Zaq)(g:ZaK):Option (Tout Zag):=bif((b.fgot.length:Int)==(0:Int))then(Zoz g).bind fun h=>some (Tout.pan h)else need (0<=(0:Int)/\(0:Int)<(b.fgot.length:Int))<|need (0<=(1:Int)/\(1:Int)<=(b.fgot.length:Int))<|some (Tout.ret (b.fgot.getD (0:Int).toNat Zag.d) (Zaq.mk (b.fgot.drop (1:Int).toNat)))
theorem ZbB(g:Zaq)(o:ZaK)(r:(Tout Zag))(b:Zcv g o=some r):Yq 431 [(100000,.box (Zaq.c g))] [.one (.ptr 100000 0),.agg (ZaK.c o)] (oc (fun x=>.agg (Zag.c x)) r):=by
 refine Zio.of Tryz.func431 rfl rfl rfl rfl fun S0 w0=>?_;unfold Zcv at b;obtain⟨h,b⟩|⟨h,b⟩:=Zah b
 .obtain⟨p,t,b⟩:=Zad b;obtain rfl:=oi b;exact Yh 6 [rz,rz] [true] (rA [(1,aG (ZaK.c p))]) 4 ⟨[],.one .junk⟩ (me h (ZyC _ _ t) (show Tryz.prog.concrete 139=true from(by kernel_rfl)))
 .obtain⟨u,v,b⟩:=Yt b;obtain rfl:=oi b;exact Yd 13 [rz,rz,rz,⟨[],[],[],[],[],[(5,((g.fgot.drop (1:Int).toNat).length,Zam Zag.c Zag.d (g.fgot.drop (1:Int).toNat)))],[]⟩,rz] [false] (lX [4] [4,100000]) (mf h u (show (g.fgot.drop (1:Int).toNat).length=g.fgot.length-(1:Int).toNat/\∀i j,i<g.fgot.length-(1:Int).toNat->j<13->Zam Zag.c Zag.d (g.fgot.drop (1:Int).toNat) i j=Zam Zag.c Zag.d g.fgot ((1:Int).toNat+i) j from(ZqT _ _)) v)
def ZjU(h:Zaq)(j:Bool):Option (Tout Unit):=(Zcv h (ZaK.mk 8 0 (Zay.mk 0 0 0) 0 0 (Zag.mk 0 (Zaa.mk (Zal.mk (Zaf.mk false 0 0) 0) false 0 (ZaD.mk 0 0) 0 0) ([]:(List Zae)) ([]:(List Zac))) j)).bind fun o=>(match o with | .ret p b=>some (Tout.ret () b) | .pan d=>some (Tout.pan d) | .bad g=>some (Tout.bad g))
theorem Zmh(o:Zaq)(p:Bool)(r:(Tout Unit))(b:ZjU o p=some r):Yq 427 [(100000,.box (Zaq.c o))] [.one (.ptr 100000 0),Yk p] (oc (fun x=>.tup []) r):=by
 refine Zio.of Tryz.func427 rfl rfl rfl rfl fun S0 w0=>?_;unfold ZjU at b;obtain⟨t,g,b⟩:=Zad b;cases t with
 |ret h j=>
  dsimp only at b;obtain rfl:=oi b;exact Yd 1 [⟨[],[],[],[],[(2,[(18,cL 5 Zae.c Zae.d []),(19,cL 7 Zac.c Zac.d [])])],[],[(3,⟨[(100000,100000)],[],[(100000,.box (Zaq.c j))],.agg (Zag.c h)⟩)]⟩] [] (lX [] [100000]) (mc (ZbB _ _ _ g))
 |_=>
  dsimp only at b;obtain rfl:=oi b;exact Yh 0 [] [] (⟨[],[],[],[],[(2,[(18,cL 5 Zae.c Zae.d []),(19,cL 7 Zac.c Zac.d [])])],[],[]⟩) 3 ⟨[(100000,100000)],pvOf g⟩ (mc (ZbB _ _ _ g))
def ZhI(b:Int):Option Zau:=some (Zau.mk b (Zal.mk (Zaf.mk false 0 0) 0) 0 0 ([]:(List Zaa)))
theorem ZiA(b:Int)(r:Zau)(g:ZhI b=some r):Yo 127 [Yj b] (.agg (Zau.c r)):=by
 refine Yv Tryz.func127 fun S0 w0=>?_;unfold ZhI at g;apply Yb g 4 [rz,rz] [] [] [(2,[(7,cL 10 Zaa.c Zaa.d [])])] [] .n
def Zja(h:Zaq)(j:Int)(o:Bool):Option (Tout Unit):=(Zcv h (ZaK.mk 2 j (Zay.mk 0 0 0) 0 0 (Zag.mk 0 (Zaa.mk (Zal.mk (Zaf.mk false 0 0) 0) false 0 (ZaD.mk 0 0) 0 0) ([]:(List Zae)) ([]:(List Zac))) o)).bind fun p=>(match p with | .ret t b=>some (Tout.ret () b) | .pan d=>some (Tout.pan d) | .bad g=>some (Tout.bad g))
theorem ZlL(o:Zaq)(p:Int)(t:Bool)(r:(Tout Unit))(b:Zja o p t=some r):Yq 428 [(100000,.box (Zaq.c o))] [.one (.ptr 100000 0),Yj p,Yk t] (oc (fun x=>.tup []) r):=by
 refine Zio.of Tryz.func428 rfl rfl rfl rfl fun S0 w0=>?_;unfold Zja at b;obtain⟨u,g,b⟩:=Zad b;cases u with
 |ret h j=>
  dsimp only at b;obtain rfl:=oi b;exact Yd 1 [⟨[],[],[],[],[(3,[(18,cL 5 Zae.c Zae.d []),(19,cL 7 Zac.c Zac.d [])])],[],[(4,⟨[(100000,100000)],[],[(100000,.box (Zaq.c j))],.agg (Zag.c h)⟩)]⟩] [] (lX [] [100000]) (mc (ZbB _ _ _ g))
 |_=>
  dsimp only at b;obtain rfl:=oi b;exact Yh 0 [] [] (⟨[],[],[],[],[(3,[(18,cL 5 Zae.c Zae.d []),(19,cL 7 Zac.c Zac.d [])])],[],[]⟩) 4 ⟨[(100000,100000)],pvOf g⟩ (mc (ZbB _ _ _ g))
def ZfS(j:Zaq)(o:Zay)(p:Bool):Option (Tout Zag):=(Zcv j (ZaK.mk 5 0 o 0 0 (Zag.mk 0 (Zaa.mk (Zal.mk (Zaf.mk false 0 0) 0) false 0 (ZaD.mk 0 0) 0 0) ([]:(List Zae)) ([]:(List Zac))) p)).bind fun t=>(match t with | .ret b d=>some (Tout.ret b d) | .pan g=>some (Tout.pan g) | .bad h=>some (Tout.bad h))
theorem Zds(o:Zaq)(p:Zay)(t:Bool)(r:(Tout Zag))(b:ZfS o p t=some r):Yq 425 [(100000,.box (Zaq.c o))] [.one (.ptr 100000 0),.agg (Zay.c p),Yk t] (oc (fun x=>.agg (Zag.c x)) r):=by
 refine Zio.of Tryz.func425 rfl rfl rfl rfl fun S0 w0=>?_;unfold ZfS at b;obtain⟨u,g,b⟩:=Zad b;cases u with
 |ret h j=>
  dsimp only at b;obtain rfl:=oi b;exact Yd 4 [rz,⟨[],[],[],[],[(3,[(18,cL 5 Zae.c Zae.d []),(19,cL 7 Zac.c Zac.d [])])],[],[(4,⟨[(100000,100000)],[],[(100000,.box (Zaq.c j))],.agg (Zag.c h)⟩)]⟩] [] (lX [6] [6,100000]) (mc (ZbB _ _ _ g))
 |_=>
  dsimp only at b;obtain rfl:=oi b;exact Yh 3 [rz] [] (⟨[],[],[],[],[(3,[(18,cL 5 Zae.c Zae.d []),(19,cL 7 Zac.c Zac.d [])])],[],[]⟩) 4 ⟨[(100000,100000)],pvOf g⟩ (mc (ZbB _ _ _ g))
def Zou:Option ZaG:=some (ZaG.mk Zav.nil Zav.nil 0)
theorem ZsB(r:ZaG)(b:Zou=some r):Yo 271 [] (.one (ZaG.c r)):=by
 refine Yv Tryz.func271 fun S0 w0=>?_;unfold Zou at b;apply Yb b 4 [rz,⟨[],[],[],[],[(0,[(0,Zav.c Zav.nil),(1,Zav.c Zav.nil)])],[],[]⟩] [] [2] [] [] .n
def ZgT(b:Zaf):Option Int:=bif b.fV6 then some (1:Int)else some (0:Int)
theorem Zfb(g:Zaf)(r:Int)(b:ZgT g=some r):Yo 274 [.agg (Zaf.c g)] (Yj r):=by
 refine Yv Tryz.func274 fun S0 w0=>?_;unfold ZgT at b;obtain⟨d,b⟩|⟨d,b⟩:=Zah b
 .apply Ya b 8 [rz,rz,rz] [true] (mc d)
 .apply Ya b 9 [rz,rz,rz] [false] (mc d)
def ZhK(g:Zaf)(b:Int):Option Int:=(Zeb g).bind fun d=>bif(decide (b<(0:Int)))then some (0:Int)else bif(decide (b>=d))then some (0:Int)else bif(decide ((Zbd (Zbd d (1:Int)) b)>=(64:Int)))then need (0<=(Zbd (Zbd (Zbd d (1:Int)) b) (64:Int)))<|some (IntKind.wrap .i64 (IntKind.wrap .u64 (((BitVec.ofInt (IntKind.bits .u64) (Int.fdiv g.fHi (2 ^ (min (Zbd (Zbd (Zbd d (1:Int)) b) (64:Int)).toNat (IntKind.bits .u64))))) &&& (BitVec.ofInt (IntKind.bits .u64) (1:Int))).toNat:Int)))else need (0<=(Zbd (Zbd d (1:Int)) b))<|some (IntKind.wrap .i64 (IntKind.wrap .u64 (((BitVec.ofInt (IntKind.bits .u64) (Int.fdiv g.fLo (2 ^ (min (Zbd (Zbd d (1:Int)) b).toNat (IntKind.bits .u64))))) &&& (BitVec.ofInt (IntKind.bits .u64) (1:Int))).toNat:Int)))
theorem ZkW(p:Zaf)(t r:Int)(b:ZhK p t=some r):Yo 276 [.agg (Zaf.c p),Yj t] (Yj r):=by
 refine Yv Tryz.func276 fun S0 w0=>?_;unfold ZhK at b;obtain⟨g,h,b⟩:=Zad b;obtain⟨d,b⟩|⟨d,b⟩:=Zah b
 .apply Ya b 10 [rz,rA [(1,aI g)],rB [(2,true)],rz] [true] (me (Zhi _ _ h) d (mH true))
 .obtain⟨j,b⟩|⟨j,b⟩:=Zah b
  .apply Ya b 10 [rz,rA [(1,aI g)],rB [(2,false)],rz] [true] (me (Zhi _ _ h) d j)
  .let R1:List RA:=[rz,rA [(1,aI g)],rB [(2,false)],rz,rz,rz]
   have O2:=(me (Zhi _ _ h) d j);obtain⟨o,b⟩|⟨o,b⟩:=Zah b
   .obtain⟨u,b⟩:=Zao b;apply Ya b 17 R1 [false,true] (mt O2 o u)
   .obtain⟨v,b⟩:=Zao b;apply Ya b 18 R1 [false,false] (mt O2 o v)
def Zip(b:Zap)(d:Int):Option Int:=(ZhK b.fAddr d).bind fun g=>some g
theorem Zdz(d:Zap)(g r:Int)(b:Zip d g=some r):Yo 329 [.agg (Zap.c d),Yj g] (Yj r):=by
 refine Yv Tryz.func329 fun S0 w0=>?_;unfold Zip at b;obtain⟨h,j,b⟩:=Zad b;apply Ya b 4 [rz,rA [(3,aI h)]] [] (mc (ZkW _ _ _ j))
def ZdA:Nat->Zav->Zap->Option (Int×Bool)|0,_,_=>none|fu+1,p,d=>(match p with | .nil=>some ((0:Int),false) | .mk b g h j=>bif(decide (b.fNet.fBits<d.fBits))then(Zip d b.fNet.fBits).bind fun o=>need (0<=o/\o<((2:Nat):Int))<|ix2 o ( ZdA fu h d) ( ZdA fu j d)else bif(!g)then some ((0:Int),false)else bif(!(decide (b.fNet=d)))then some ((0:Int),false)else some (b.fV,true))
theorem ZlK:∀(t:Nat)(h:Zav)(d:Zap)(r:(Int×Bool)),ZdA t h d=some r->Yr 71 S0 w0 Tryz.f272 (.tup [(false,l9 r.1),(false,cB r.2)]) [1,1,1,0,0] ⟨[(3,.one (.ptr 3 0)),(6,.one (Zav.c h))],[(3,.box (Zap.c d))]⟩:=by
 intro t;induction t with
 |zero=>
  intro h d r b;simp[ZdA]at b
 |succ t y=>
  intro h d r b;unfold ZdA at b;cases h with
  |nil=>
   dsimp only at b;apply Ya b 12 [rz,rz,rz] [false,true] (md (mH false) (mH true))
  |mk g z j o=>
   dsimp only at b;obtain⟨p,b⟩|⟨p,b⟩:=Zah b
   .obtain⟨D,A,b⟩:=Zad b;obtain⟨B,b⟩:=Zao b;rcases ZjR B b with⟨e,b⟩|⟨e,b⟩
    .subst e;exact Ye 10 [rz,rA [(8,aI (0:Int))]] [true] (lX [3,6] [3]) (me p (Zdz _ _ _ A) (show 0<=(0:Int)/\(0:Int)<((2:Nat):Int)from(by decide))) (y j d r b)
    .subst e;exact Ye 10 [rz,rA [(8,aI (1:Int))]] [true] (lX [3,6] [3]) (me p (Zdz _ _ _ A) (show 0<=(1:Int)/\(1:Int)<((2:Nat):Int)from(by decide))) (y o d r b)
   .obtain⟨u,b⟩|⟨u,b⟩:=Zah b
    .apply Ya b 12 [rz,rB [(9,true)],rz] [false,true] (me p u (mH true))
    .let R1:List RA:=[rz,⟨[(16,aB (!(decide (g.fNet=d))))],[(9,false)],[],[],[],[],[]⟩,rz]
     have O2:=(me p u (Zyl g.fNet d (.tmp 62) (.tmp 63)));obtain⟨v,b⟩|⟨v,b⟩:=Zah b
     .apply Ya b 12 R1 [false,true] (mr O2 v)
     .apply Ya b 13 R1 [false,false] (mr O2 v)
def ZhC(o:ZaG)(g:Zap):Option (Int×Bool):=(match o with | .nil=>some ((0:Int),false) | .mk b d j=>(ZhR g).bind fun p=>bif(!p)then some ((0:Int),false)else(ZgT g.fAddr).bind fun h=>need (0<=h/\h<((2:Nat):Int))<|ix2 h ( ZdA 1000000 b g) ( ZdA 1000000 d g))
theorem ZgU(o:ZaG)(h:Zap)(r:(Int×Bool))(b:ZhC o h=some r):Yo 272 [.one (ZaG.c o),.agg (Zap.c h)] (.tup [(false,l9 r.1),(false,cB r.2)]):=by
 refine Yv Tryz.func272 fun S0 w0=>?_;unfold ZhC at b;cases o with
 |nil=>
  dsimp only at b;apply Ya b 8 [rz,rz,rz] [true] (mc (mH true))
 |mk d g u=>
  dsimp only at b;obtain⟨p,t,b⟩:=Zad b;obtain⟨j,b⟩|⟨j,b⟩:=Zah b
  .apply Ya b 8 [rz,rA [(4,aB p)],rz] [true] (md (ZdL _ _ t) j)
  .obtain⟨z,v,b⟩:=Zad b;obtain⟨y,b⟩:=Zao b;rcases ZjR y b with⟨e,b⟩|⟨e,b⟩
   .subst e;exact Ye 11 [rz,rA [(4,aB p)],rA [(3,aI (0:Int))]] [false] (lX [3,6] [3]) (mf (ZdL _ _ t) j (Zfb _ _ v) (show 0<=(0:Int)/\(0:Int)<((2:Nat):Int)from(by decide))) (ZlK S0 w0 1000000 d h r b)
   .subst e;exact Ye 11 [rz,rA [(4,aB p)],rA [(3,aI (1:Int))]] [false] (lX [3,6] [3]) (mf (ZdL _ _ t) j (Zfb _ _ v) (show 0<=(1:Int)/\(1:Int)<((2:Nat):Int)from(by decide))) (ZlK S0 w0 1000000 g h r b)
def ZpC(b:Zae)(d:Int):Option Bool:=some (decide (d<b.fUntil))
theorem ZwH(b:Zae)(d:Int)(r:Bool)(g:ZpC b d=some r):Yo 243 [.agg (Zae.c b),Yj d] (Yk r):=by
 refine Yv Tryz.func243 fun S0 w0=>?_;unfold ZpC at g;apply Ya g 4 [rz,rz] [] .n
def ZeU(b d:Int):Option Int:=bif(decide (b>=(256:Int)))then need (0<=(IntKind.wrap .u8 (Int.fdiv b (2 ^ (min (8:Int).toNat (IntKind.bits .u64)))))/\(IntKind.wrap .u8 (Int.fdiv b (2 ^ (min (8:Int).toNat (IntKind.bits .u64)))))<(((Yx : ByteArray).size:Nat):Int))<|some (Zan (Zan d 8) (IntKind.wrap .i64 ((Zli (Yx : ByteArray) (IntKind.wrap .u8 (Int.fdiv b (2 ^ (min (8:Int).toNat (IntKind.bits .u64))))).toNat:Nat):Int)))else need (0<=(IntKind.wrap .u8 b)/\(IntKind.wrap .u8 b)<(((Yx : ByteArray).size:Nat):Int))<|some (Zan d (IntKind.wrap .i64 ((Zli (Yx : ByteArray) (IntKind.wrap .u8 b).toNat:Nat):Int)))
theorem ZkD(g h r:Int)(b:ZeU g h=some r):Yr 25 S0 w0 Tryz.f388 (Yj r) [1,1,1] ⟨[(0,.one (.lit (.int .u64 g))),(2,(Yj h))],[]⟩:=by
 unfold ZeU at b;obtain⟨d,b⟩|⟨d,b⟩:=Zah b
 .obtain⟨j,b⟩:=Zao b;apply Ya b 9 [rz,rz,rz,rz] [true] (me d (mJ (8:Int) rfl) j)
 .obtain⟨o,b⟩:=Zao b;apply Ya b 7 [rz,rz] [false] (md d o)
def ZeV(b d:Int):Option Int:=bif(decide (b>=(65536:Int)))then ZeU (Int.fdiv b (2 ^ (min (16:Int).toNat (IntKind.bits .u64)))) (Zan d 16)else ZeU b d
theorem ZkE(d g r:Int)(b:ZeV d g=some r):Yr 25 S0 w0 Tryz.f388 (Yj r) [1,1] ⟨[(0,.one (.lit (.int .u64 d))),(2,(Yj g))],[]⟩:=by
 unfold ZeV at b;obtain⟨h,b⟩|⟨h,b⟩:=Zah b
 .exact Ye 7 [rz,rz,rz] [true] (Yi [0,2]) (md h (mJ (16:Int) rfl)) (ZkD S0 w0 (Int.fdiv d (2 ^ (min (16:Int).toNat (IntKind.bits .u64)))) (Zan g 16) r b)
 .exact Ye 5 [rz] [false] (Yi [0,2]) (mc h) (ZkD S0 w0 d g r b)
def ZhF(b:Int):Option Int:=bif(decide (b>=(4294967296:Int)))then ZeV (Int.fdiv b (2 ^ (min (32:Int).toNat (IntKind.bits .u64)))) (32:Int)else ZeV b (0:Int)
theorem Zrk(d r:Int)(b:ZhF d=some r):Yo 388 [.one (.lit (.int .u64 d))] (Yj r):=by
 refine Yv Tryz.func388 fun S0 w0=>?_;unfold ZhF at b;obtain⟨g,b⟩|⟨g,b⟩:=Zah b
 .exact Ye 9 [rz,rz,rz,rz] [true] (Yi [0,2]) (md g (mJ (32:Int) rfl)) (ZkE S0 w0 (Int.fdiv d (2 ^ (min (32:Int).toNat (IntKind.bits .u64)))) (32:Int) r b)
 .exact Ye 7 [rz,rz] [false] (Yi [0,2]) (mc g) (ZkE S0 w0 d (0:Int) r b)
def Zdg(b:Int):Option Int:=(ZhF b).bind fun d=>some (Zbd (64:Int) d)
theorem Zin(d r:Int)(b:Zdg d=some r):Yo 389 [.one (.lit (.int .u64 d))] (Yj r):=by
 refine Yv Tryz.func389 fun S0 w0=>?_;unfold Zdg at b;obtain⟨g,h,b⟩:=Zad b;apply Ya b 4 [rz,rA [(1,aI g)]] [] (mc (Zrk _ _ h))
def ZfR(b d:Int)(g:Zap):Option Int:=bif(!g.fAddr.fV6)then(Zeb g.fAddr).bind fun h=>some (if b<(Zbd d (Zbd (128:Int) h))then b else(Zbd d (Zbd (128:Int) h)))else some (if b<d then b else d)
theorem ZmH(h j:Int)(d:Zap)(r:Int)(b:ZfR h j d=some r):Yr 48 S0 w0 Tryz.f362 (Yj r) [1,1,1,1,1] ⟨[(2,.one (.ptr 2 0)),(5,(Yj h)),(8,(Yj j))],[(2,.box (Zap.c d))]⟩:=by
 unfold ZfR at b;obtain⟨g,b⟩|⟨g,b⟩:=Zah b
 .obtain⟨o,p,b⟩:=Zad b;apply Ya b 7 [rz,rA [(3,aI o)],rz] [true] (md g (Zhi _ _ p))
 .apply Ya b 7 [rz,rz] [false] (mc g)
def Zkv(b d:Zap):Option Int:=(Zdg (IntKind.wrap .u64 (((BitVec.ofInt (IntKind.bits .u64) b.fAddr.fHi) ^^^ (BitVec.ofInt (IntKind.bits .u64) d.fAddr.fHi)).toNat:Int))).bind fun g=>bif((IntKind.wrap .u64 (((BitVec.ofInt (IntKind.bits .u64) b.fAddr.fHi) ^^^ (BitVec.ofInt (IntKind.bits .u64) d.fAddr.fHi)).toNat:Int))==(0:Int))then(Zdg (IntKind.wrap .u64 (((BitVec.ofInt (IntKind.bits .u64) b.fAddr.fLo) ^^^ (BitVec.ofInt (IntKind.bits .u64) d.fAddr.fLo)).toNat:Int))).bind fun h=>ZfR (if d.fBits<b.fBits then d.fBits else b.fBits) (Zan (64:Int) h) b else ZfR (if d.fBits<b.fBits then d.fBits else b.fBits) g b
theorem ZjS(d g:Zap)(r:Int)(b:Zkv d g=some r):Yo 362 [.agg (Zap.c d),.agg (Zap.c g)] (Yj r):=by
 refine Yv Tryz.func362 fun S0 w0=>?_;unfold Zkv at b;obtain⟨h,p,b⟩:=Zad b;have O1:=(mc (Zin _ _ p));obtain⟨j,b⟩|⟨j,b⟩:=Zah b
 .obtain⟨o,t,b⟩:=Zad b;exact Ye 13 [rz,rz,rz,rA [(1,aI h)],rz,rA [(1,aI o)]] [true] (lX [2,5,8] [2]) (mt O1 j (Zin _ _ t)) (ZmH S0 w0 (if g.fBits<d.fBits then g.fBits else d.fBits) (Zan (64:Int) o) d r b)
 .exact Ye 13 [rz,rz,rz,rA [(1,aI h)],rz] [false] (lX [2,5,8] [2]) (mr O1 j) (ZmH S0 w0 (if g.fBits<d.fBits then g.fBits else d.fBits) h d r b)
def Zkw(E:Zav)(b:ZiV)(v:Int):Option Zav:=bif(v==b.fhit.fNet.fBits)then(match E with | .nil=>none | .mk d h j o=>(Zip d.fNet v).bind fun z=>need (0<=z/\z<((2:Nat):Int))<|ix2 z ( some (Zav.mk b.fhit b.fhas (Zav.mk d h j o) b.fkids.2)) ( some (Zav.mk b.fhit b.fhas b.fkids.1 (Zav.mk d h j o))))else(ZfT b.fhit.fNet.fAddr v).bind fun y=>(match E with | .nil=>none | .mk g p t u=>(Zip g.fNet v).bind fun A=>need (0<=A/\A<((2:Nat):Int))<|ix2 A ( (Zip b.fhit.fNet v).bind fun B=>need (0<=B/\B<((2:Nat):Int))<|ix2 B ( some (Zav.mk (Zaw.mk y.1 0) false (Zav.mk b.fhit b.fhas b.fkids.1 b.fkids.2) Zav.nil)) ( some (Zav.mk (Zaw.mk y.1 0) false (Zav.mk g p t u) (Zav.mk b.fhit b.fhas b.fkids.1 b.fkids.2)))) ( (Zip b.fhit.fNet v).bind fun D=>need (0<=D/\D<((2:Nat):Int))<|ix2 D ( some (Zav.mk (Zaw.mk y.1 0) false (Zav.mk b.fhit b.fhas b.fkids.1 b.fkids.2) (Zav.mk g p t u))) ( some (Zav.mk (Zaw.mk y.1 0) false Zav.nil (Zav.mk b.fhit b.fhas b.fkids.1 b.fkids.2)))))
theorem Ztq(h:Zav)(t:ZiV)(u:Int)(r:Zav)(b:Zkw h t u=some r):Yp 363 [(100000,.box (ZiV.c t))] [.one (Zav.c h),.one (.ptr 100000 0),Yj u] [] (.one (Zav.c r)):=by
 refine Yw Tryz.func363 fun S0 w0=>?_;unfold Zkw at b;obtain⟨g,b⟩|⟨g,b⟩:=Zah b
 .cases h with
  |nil=>
   dsimp only at b;cases b
  |mk v y z A=>
   dsimp only at b;obtain⟨O,B,b⟩:=Zad b;obtain⟨J,b⟩:=Zao b;rcases ZjR J b with⟨e,b⟩|⟨e,b⟩
   .subst e;apply Yc b 10 [rz,rz,rA [(7,aI (0:Int))],rz] [true] ⟨[100000],[],[],[],[],[6],[],[]⟩ (me g (Zdz _ _ _ B) (show 0<=(0:Int)/\(0:Int)<((2:Nat):Int)from(by decide)))
   .subst e;apply Yc b 10 [rz,rz,rA [(7,aI (1:Int))],rz] [true] ⟨[100000],[],[],[],[],[6],[],[]⟩ (me g (Zdz _ _ _ B) (show 0<=(1:Int)/\(1:Int)<((2:Nat):Int)from(by decide)))
 .obtain⟨d,j,b⟩:=Zad b;cases h with
  |nil=>
   dsimp only at b;cases b
  |mk D E F G=>
   dsimp only at b;obtain⟨R,o,b⟩:=Zad b;obtain⟨L,b⟩:=Zao b;rcases ZjR L b with⟨e,b⟩|⟨e,b⟩
   .subst e;obtain⟨U,H,b⟩:=Zad b;obtain⟨M,b⟩:=Zao b;rcases ZjR M b with⟨e,b⟩|⟨e,b⟩
    .subst e;apply Yc b 17 [rz,rz,rA [(7,.r (.tup [(true,Zap.c d.1),(false,cB d.2)]) [])],⟨[],[],[],[],[(2,[(6,Zav.c Zav.nil),(7,Zav.c Zav.nil)])],[],[]⟩,rA [(7,aI (0:Int))],rA [(7,aI (0:Int))],rz] [false] ⟨[100000,45],[],[],[],[],[6],[],[]⟩ (mh g (Zgt _ _ _ j) (Zdz _ _ _ o) (show 0<=(0:Int)/\(0:Int)<((2:Nat):Int)from(by decide)) (Zdz _ _ _ H) (show 0<=(0:Int)/\(0:Int)<((2:Nat):Int)from(by decide)))
    .subst e;apply Yc b 17 [rz,rz,rA [(7,.r (.tup [(true,Zap.c d.1),(false,cB d.2)]) [])],⟨[],[],[],[],[(2,[(6,Zav.c Zav.nil),(7,Zav.c Zav.nil)])],[],[]⟩,rA [(7,aI (0:Int))],rA [(7,aI (1:Int))],rz] [false] ⟨[100000,45],[],[],[],[],[6],[],[]⟩ (mh g (Zgt _ _ _ j) (Zdz _ _ _ o) (show 0<=(0:Int)/\(0:Int)<((2:Nat):Int)from(by decide)) (Zdz _ _ _ H) (show 0<=(1:Int)/\(1:Int)<((2:Nat):Int)from(by decide)))
   .subst e;obtain⟨W,I,b⟩:=Zad b;obtain⟨p,b⟩:=Zao b;rcases ZjR p b with⟨e,b⟩|⟨e,b⟩
    .subst e;apply Yc b 17 [rz,rz,rA [(7,.r (.tup [(true,Zap.c d.1),(false,cB d.2)]) [])],⟨[],[],[],[],[(2,[(6,Zav.c Zav.nil),(7,Zav.c Zav.nil)])],[],[]⟩,rA [(7,aI (1:Int))],rA [(7,aI (0:Int))],rz] [false] ⟨[100000,45],[],[],[],[],[6],[],[]⟩ (mh g (Zgt _ _ _ j) (Zdz _ _ _ o) (show 0<=(1:Int)/\(1:Int)<((2:Nat):Int)from(by decide)) (Zdz _ _ _ I) (show 0<=(0:Int)/\(0:Int)<((2:Nat):Int)from(by decide)))
    .subst e;apply Yc b 17 [rz,rz,rA [(7,.r (.tup [(true,Zap.c d.1),(false,cB d.2)]) [])],⟨[],[],[],[],[(2,[(6,Zav.c Zav.nil),(7,Zav.c Zav.nil)])],[],[]⟩,rA [(7,aI (1:Int))],rA [(7,aI (1:Int))],rz] [false] ⟨[100000,45],[],[],[],[],[6],[],[]⟩ (mh g (Zgt _ _ _ j) (Zdz _ _ _ o) (show 0<=(1:Int)/\(1:Int)<((2:Nat):Int)from(by decide)) (Zdz _ _ _ I) (show 0<=(1:Int)/\(1:Int)<((2:Nat):Int)from(by decide)))
def Zfr:Nat->Zav->Zaw->Option Zav|0,_,_=>none|fu+1,t,j=>(match t with | .nil=>some (Zav.mk j true Zav.nil Zav.nil) | .mk b h d g=>(Zkv b.fNet j.fNet).bind fun o=>bif(decide (o<b.fNet.fBits))then(Zkw (Zav.mk b h d g) (ZiV.mk j true (Zav.nil,Zav.nil)) o).bind fun u=>some u else bif(o==j.fNet.fBits)then some (Zav.mk j true d g)else(Zip j.fNet o).bind fun p=>need (0<=p/\p<((2:Nat):Int))<|ix2 p ( (Zfr fu d j).bind fun v=>some (Zav.mk b h v g)) ( (Zfr fu g j).bind fun y=>some (Zav.mk b h d y)))
theorem Zlw:∀(h:Nat)(d:Zav)(j:Zaw)(r:Zav)(b:Zfr h d j=some r),Yo 330 [.one (Zav.c d),.agg (Zaw.c j)] (.one (Zav.c r)):=by
 intro h;induction h with
 |zero=>
  intro d j r b;simp[Zfr]at b
 |succ h u=>
  intro d j r b;refine Yv Tryz.func330 fun S0 w0=>?_;unfold Zfr at b;cases d with
  |nil=>
   dsimp only at b;apply Yb b 8 [rz,rz,⟨[],[],[],[],[(1,[(6,Zav.c Zav.nil),(7,Zav.c Zav.nil)])],[],[]⟩] [true] [12] [] [] (mc (mH true))
  |mk v y z A=>
   dsimp only at b;obtain⟨o,p,b⟩:=Zad b;obtain⟨g,b⟩|⟨g,b⟩:=Zah b
   .obtain⟨D,E,b⟩:=Zad b;apply Ya b 15 [rz,rz,rA [(7,aI o)],rz,⟨[],[],[],[],[(2,[(6,Zav.c Zav.nil),(7,Zav.c Zav.nil)])],[],[(5,⟨[(100000,32)],[],[],.one (Zav.c D)⟩)]⟩] [false,true] (mf (mH false) (ZjS _ _ _ p) g (Ztq _ _ _ _ E))
   .obtain⟨t,b⟩|⟨t,b⟩:=Zah b
    .apply Yb b 24 [rz,rz,rA [(7,aI o)],rz,rz,rz,rz,rz] [false,false,true] [6] [] [] (mf (mH false) (ZjS _ _ _ p) g t)
    .obtain⟨L,B,b⟩:=Zad b;obtain⟨F,b⟩:=Zao b;rcases ZjR F b with⟨e,b⟩|⟨e,b⟩
     .subst e;obtain⟨G,H,b⟩:=Zad b;apply Yb b 27 [rz,rz,rA [(7,aI o)],rz,rz,rz,rA [(3,aI (0:Int))],rA [(8,.r (.one (Zav.c G)) [])],rz] [false,false,false] [6] [] [] (mj (mH false) (ZjS _ _ _ p) g t (Zdz _ _ _ B) (show 0<=(0:Int)/\(0:Int)<((2:Nat):Int)from(by decide)) (u _ _ _ H) (show 0<=(0:Int)/\(0:Int)<((2:Nat):Int)from(by decide)))
     .subst e;obtain⟨I,J,b⟩:=Zad b;apply Yb b 27 [rz,rz,rA [(7,aI o)],rz,rz,rz,rA [(3,aI (1:Int))],rA [(8,.r (.one (Zav.c I)) [])],rz] [false,false,false] [6] [] [] (mj (mH false) (ZjS _ _ _ p) g t (Zdz _ _ _ B) (show 0<=(1:Int)/\(1:Int)<((2:Nat):Int)from(by decide)) (u _ _ _ J) (show 0<=(1:Int)/\(1:Int)<((2:Nat):Int)from(by decide)))
def Zfs(j:Int)(v:ZaG)(h:Zap):Option ZaG:=(match v with | .nil=>none | .mk b d g=>(ZhR h).bind fun y=>bif(!y)then some (ZaG.mk b d g)else(ZhC (ZaG.mk b d g) h).bind fun z=>bif(!z.2)then(ZgT h.fAddr).bind fun o=>need (0<=o/\o<((2:Nat):Int))<|ix2 o ( (Zfr 1000 b (Zaw.mk h j)).bind fun A=>some (ZaG.mk A d (Zan g 1))) ( (Zfr 1000 d (Zaw.mk h j)).bind fun B=>some (ZaG.mk b B (Zan g 1)))else(ZgT h.fAddr).bind fun p=>need (0<=p/\p<((2:Nat):Int))<|ix2 p ( (Zfr 1000 b (Zaw.mk h j)).bind fun t=>some (ZaG.mk t d g)) ( (Zfr 1000 d (Zaw.mk h j)).bind fun u=>some (ZaG.mk b u g)))
theorem Zlc(E:Int)(v:ZaG)(h:Zap)(r:ZaG)(b:Zfs E v h=some r):Yr 48 S0 w0 Tryz.f273 (.one (ZaG.c r)) [1,1] ⟨[(0,.one (ZaG.c v)),(2,(Yj E)),(4,.one (.ptr 4 0))],[(4,.box (Zap.c h))]⟩:=by
 unfold Zfs at b;cases v with
 |nil=>
  dsimp only at b;cases b
 |mk F G H=>
  dsimp only at b;obtain⟨j,o,b⟩:=Zad b;obtain⟨g,b⟩|⟨g,b⟩:=Zah b
  .apply Yb b 8 [rz,rA [(1,aB j)],rz] [true] [7] [] [] (md (ZdL _ _ o) g)
  .obtain⟨d,u,b⟩:=Zad b;obtain⟨p,b⟩|⟨p,b⟩:=Zah b
   .obtain⟨U,I,b⟩:=Zad b;obtain⟨J,b⟩:=Zao b;rcases ZjR J b with⟨e,b⟩|⟨e,b⟩
    .subst e;obtain⟨L,M,b⟩:=Zad b;apply Yb b 20 [rz,rA [(1,aB j)],rA [(2,.r (.tup [(false,l9 d.1),(false,cB d.2)]) [])],rz,rz,rA [(2,aI (0:Int))],rA [(10,.r (.one (Zav.c L)) [])],rz] [false,true] [7] [] [] (mj (ZdL _ _ o) g (ZgU _ _ _ u) p (Zfb _ _ I) (show 0<=(0:Int)/\(0:Int)<((2:Nat):Int)from(by decide)) (Zlw 1000 _ _ _ M) (show 0<=(0:Int)/\(0:Int)<((2:Nat):Int)from(by decide)))
    .subst e;obtain⟨O,R,b⟩:=Zad b;apply Yb b 20 [rz,rA [(1,aB j)],rA [(2,.r (.tup [(false,l9 d.1),(false,cB d.2)]) [])],rz,rz,rA [(2,aI (1:Int))],rA [(10,.r (.one (Zav.c O)) [])],rz] [false,true] [7] [] [] (mj (ZdL _ _ o) g (ZgU _ _ _ u) p (Zfb _ _ I) (show 0<=(1:Int)/\(1:Int)<((2:Nat):Int)from(by decide)) (Zlw 1000 _ _ _ R) (show 0<=(1:Int)/\(1:Int)<((2:Nat):Int)from(by decide)))
   .obtain⟨W,t,b⟩:=Zad b;obtain⟨y,b⟩:=Zao b;rcases ZjR y b with⟨e,b⟩|⟨e,b⟩
    .subst e;obtain⟨z,A,b⟩:=Zad b;apply Yb b 20 [rz,rA [(1,aB j)],rA [(2,.r (.tup [(false,l9 d.1),(false,cB d.2)]) [])],rz,rA [(2,aI (0:Int))],rA [(10,.r (.one (Zav.c z)) [])],rz] [false,false] [7] [] [] (mj (ZdL _ _ o) g (ZgU _ _ _ u) p (Zfb _ _ t) (show 0<=(0:Int)/\(0:Int)<((2:Nat):Int)from(by decide)) (Zlw 1000 _ _ _ A) (show 0<=(0:Int)/\(0:Int)<((2:Nat):Int)from(by decide)))
    .subst e;obtain⟨B,D,b⟩:=Zad b;apply Yb b 20 [rz,rA [(1,aB j)],rA [(2,.r (.tup [(false,l9 d.1),(false,cB d.2)]) [])],rz,rA [(2,aI (1:Int))],rA [(10,.r (.one (Zav.c B)) [])],rz] [false,false] [7] [] [] (mj (ZdL _ _ o) g (ZgU _ _ _ u) p (Zfb _ _ t) (show 0<=(1:Int)/\(1:Int)<((2:Nat):Int)from(by decide)) (Zlw 1000 _ _ _ D) (show 0<=(1:Int)/\(1:Int)<((2:Nat):Int)from(by decide)))
def Zfc(o:ZaG)(h:Zap)(j:Int):Option ZaG:=(match o with | .nil=>(Zou).bind fun p=>Zfs j p h | .mk b d g=>Zfs j (ZaG.mk b d g) h)
theorem ZmI(p:ZaG)(j:Zap)(o:Int)(r:ZaG)(b:Zfc p j o=some r):Yo 273 [.one (ZaG.c p),.agg (Zap.c j),Yj o] (.one (ZaG.c r)):=by
 refine Yv Tryz.func273 fun S0 w0=>?_;unfold Zfc at b;cases p with
 |nil=>
  dsimp only at b;obtain⟨t,u,b⟩:=Zad b;exact Ye 7 [rz,rz,rA [(0,.r (.one (ZaG.c t)) [])]] [true] (lX [0,2,4] [4]) (md (mH true) (ZsB _ u)) (Zlc S0 w0 o t j r b)
 |mk d g h=>
  dsimp only at b;exact Ye 7 [rz,rz] [false] (lX [0,2,4] [4]) (mc (mH false)) (Zlc S0 w0 o (ZaG.mk d g h) j r b)
def ZdM(o:Int):Nat->ZaG->(List Zae)->Int->Int->Option ZaG|0,_,_,_,_=>none|fu+1,j,g,h,b=>bif(decide (b<h))then need (0<=b/\b<(g.length:Int))<|(ZhC j ((g.getD b.toNat Zae.d).fNet)).bind fun p=>(ZpC (g.getD b.toNat Zae.d) o).bind fun t=>bif t then bif(!p.2)then(Zfc j ((g.getD b.toNat Zae.d).fNet) ((g.getD b.toNat Zae.d).fUntil)).bind fun u=>ZdM o fu u g h (Zan b 1)else bif(decide (p.1<(g.getD b.toNat Zae.d).fUntil))then(Zfc j ((g.getD b.toNat Zae.d).fNet) ((g.getD b.toNat Zae.d).fUntil)).bind fun v=>ZdM o fu v g h (Zan b 1)else ZdM o fu j g h (Zan b 1)else ZdM o fu j g h (Zan b 1)else some j
theorem ZsL(B:Int):∀(p:Nat)(j:ZaG)(d:List Zae)(g h:Int)(r:ZaG),ZdM B p j d g h=some r->Yr 45 S0 w0 Tryz.f200 (.one (ZaG.c r)) [1,1,0,1,0] ⟨[(1,(Yj B)),(5,.one (ZaG.c j)),(11,(Yl d)),(12,(Yj g)),(13,(Yj h))],[]⟩:=by
 intro p;induction p with
 |zero=>
  intro j d g h r b;simp[ZdM]at b
 |succ p t=>
  intro j d g h r b;unfold ZdM at b;obtain⟨v,b⟩|⟨v,b⟩:=Zah b
  .obtain⟨G,b⟩:=Zao b;obtain⟨D,H,b⟩:=Zad b;obtain⟨y,I,b⟩:=Zad b
   let R1:List RA:=[rz,rz,rA [(3,.r (.tup [(false,l9 D.1),(false,cB D.2)]) [])]]
   have O2:=(mf v G (ZgU _ _ _ H) (ZwH _ _ _ I));obtain⟨o,b⟩|⟨o,b⟩:=Zah b
   .obtain⟨u,b⟩|⟨u,b⟩:=Zah b
    .obtain⟨E,J,b⟩:=Zad b;exact Ye 19 (R1++[⟨[(2,aB y)],[(3,true),(6,true)],[],[],[],[],[]⟩,rA [(5,.r (.one (ZaG.c E)) [])],rz]) [true,true] (Yi [1,5,11,12,13]) (mw O2 o u (mH true) (ZmI _ _ _ _ J)) (t E d g (Zan h 1) r b)
    .let R3:List RA:=(R1++[⟨[(2,aB y)],[(3,true),(6,false)],[],[],[],[],[]⟩])
     obtain⟨z,b⟩|⟨z,b⟩:=Zah b
     .obtain⟨F,A,b⟩:=Zad b;exact Ye 19 (R3++[rA [(5,.r (.one (ZaG.c F)) [])],rz]) [true,true] (Yi [1,5,11,12,13]) (mw O2 o u z (ZmI _ _ _ _ A)) (t F d g (Zan h 1) r b)
     .exact Ye 19 (R3++[rz]) [true,false] (Yi [1,5,11,12,13]) (mu O2 o u z) (t j d g (Zan h 1) r b)
   .exact Ye 19 (R1++[⟨[(2,aB y)],[(3,false)],[],[],[],[],[]⟩,rz]) [true,false] (Yi [1,5,11,12,13]) (mt O2 o (mH false)) (t j d g (Zan h 1) r b)
  .apply Ya b 8 [rz,rz] [false] (mc v)
def ZlT(b:List Zae)(d:Int):Option ZaG:=(Zou).bind fun g=>ZdM d (((b.length:Int)-(0:Int)).toNat+2) g b (b.length:Int) (0:Int)
theorem ZvJ(b:List Zae)(g:Int)(r:ZaG)(d:ZlT b g=some r):Yo 200 [Yl b,Yj g] (.one (ZaG.c r)):=by
 refine Yv Tryz.func200 fun S0 w0=>?_;unfold ZlT at d;obtain⟨h,j,d⟩:=Zad d;exact Ye 8 [rz,rA [(0,.r (.one (ZaG.c h)) [])],rz] [] (Yi [1,5,11,12,13]) (mc (ZsB _ j)) (ZsL S0 w0 g (((b.length:Int)-(0:Int)).toNat+2) h b (b.length:Int) (0:Int) r d)
def ZoP(b:Zap)(d:Zaf):Option Bool:=(ZhR b).bind fun g=>bif g then(ZfM d).bind fun h=>bif h then bif(b.fAddr.fV6==d.fV6)then(Zig d b.fBits).bind fun j=>some (decide (j=b.fAddr))else some false else some false else some false
theorem ZkS(d:Zap)(u:Zaf)(r:Bool)(b:ZoP d u=some r):Yo 275 [.agg (Zap.c d),.agg (Zaf.c u)] (Yk r):=by
 refine Yv Tryz.func275 fun S0 w0=>?_;unfold ZoP at b;obtain⟨g,v,b⟩:=Zad b;obtain⟨j,b⟩|⟨j,b⟩:=Zah b
 .obtain⟨o,y,b⟩:=Zad b;have O1:=(me (ZdL _ _ v) j (Zda _ _ y));obtain⟨h,b⟩|⟨h,b⟩:=Zah b
  .obtain⟨p,b⟩|⟨p,b⟩:=Zah b
   .obtain⟨t,z,b⟩:=Zad b;apply Ya b 4 [rz,⟨[(1,aB g),(4,aB o),(18,aG (Zaf.c t)),(21,aB (decide (t=d.fAddr)))],[(2,true),(6,true),(14,true)],[],[],[],[],[]⟩] [] (mw O1 h p (ZrB _ _ _ z) (ZlD t d.fAddr (.tmp 23) (.tmp 25)))
   .apply Ya b 4 [rz,⟨[(1,aB g),(4,aB o)],[(2,true),(6,true),(14,false)],[],[],[],[],[]⟩] [] (mt O1 h p)
  .apply Ya b 4 [rz,⟨[(1,aB g),(4,aB o)],[(2,true),(6,false)],[],[],[],[],[]⟩] [] (mr O1 h)
 .apply Ya b 4 [rz,⟨[(1,aB g)],[(2,false)],[],[],[],[],[]⟩] [] (md (ZdL _ _ v) j)
end Go.Proofs.YtmnloegcpaahcaaGreat
