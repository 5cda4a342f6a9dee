import Derived.Test.YtmnloegcpaahcaaGreatDMdiT
namespace Go.Proofs.YtmnloegcpaahcaaGreat
open Go.RowKit Go.Lib Go.Shelf
set_option linter.unusedVariables false
set_option maxRecDepth 100000
variable (S0:Nat->Prop)(w0:ZaU)
theorem ZsH : (Tryz.prog.fieldsOf 28).toList = [{ name := "V6", type := 4, offset := 0, embedded := false, tag := "", pkgPath := "", byteOffset := 0 }, { name := "Hi", type := 22, offset := 1, embedded := false, tag := "", pkgPath := "", byteOffset := 8 }, { name := "Lo", type := 22, offset := 2, embedded := false, tag := "", pkgPath := "", byteOffset := 16 }] := by kernel_rfl
theorem Znx(d:Nat)(x y:Zah)(w:World):(Op.equalIn (d+2) 28 (.agg #[.bool x.fV6,.int .u64 x.fHi,.int .u64 x.fLo]) (.agg #[.bool y.fV6,.int .u64 y.fHi,.int .u64 y.fLo])).run Tryz.prog w=.ok (decide (x=y)) w:=by rw[run_equalIn_struct w (d+1) _ _ _ (by kernel_rfl) (by kernel_rfl)];simp only[ZsH,Op.eqFields];simp[go_sem];cases x;cases y;simp only[Zah.mk.injEq];(repeat' split)<;>simp_all
theorem ZlY(x y:Zah)(xo yo:Operand):∀w,(do eqGuard .eql 28 xo yo (.agg #[.bool x.fV6,.int .u64 x.fHi,.int .u64 x.fLo]) (.agg #[.bool y.fV6,.int .u64 y.fHi,.int .u64 y.fLo]);binOp .eql 28 (.agg #[.bool x.fV6,.int .u64 x.fHi,.int .u64 x.fLo]) (.agg #[.bool y.fV6,.int .u64 y.fHi,.int .u64 y.fLo]):Sem Value).run Tryz.prog w=.ok (.bool (decide (x=y))) w:=by
 intro w;have hg:(eqGuard .eql 28 xo yo (.agg #[.bool x.fV6,.int .u64 x.fHi,.int .u64 x.fLo]) (.agg #[.bool y.fV6,.int .u64 y.fHi,.int .u64 y.fLo])).run Tryz.prog w=.ok () w:=by simp[eqGuard,Sem.run_bind,Tryz.eqGuardType28]
 rw[Sem.run_bind,hg,Result.andThen_ok,run_eql_struct];exact congrArg (fun r:Result Bool=>r.andThen fun b w'=>Result.ok (Value.bool b) w') (Znx 9998 x y w)
theorem ZtJ : (Tryz.prog.fieldsOf 30).toList = [{ name := "Addr", type := 28, offset := 0, embedded := false, tag := "", pkgPath := "", byteOffset := 0 }, { name := "Port", type := 3, offset := 3, embedded := false, tag := "", pkgPath := "", byteOffset := 24 }] := by kernel_rfl
theorem ZoB(d:Nat)(x y:Zaj)(w:World):(Op.equalIn (d+4) 30 (.agg #[.bool x.fAddr.fV6,.int .u64 x.fAddr.fHi,.int .u64 x.fAddr.fLo,.int .i64 x.fPort]) (.agg #[.bool y.fAddr.fV6,.int .u64 y.fAddr.fHi,.int .u64 y.fAddr.fLo,.int .i64 y.fPort])).run Tryz.prog w=.ok (decide (x=y)) w:=by rw[run_equalIn_struct w (d+3) _ _ _ (by kernel_rfl) (by kernel_rfl)];simp only[ZtJ,Op.eqFields];simp[go_sem,Znx];cases x;cases y;simp only[Zaj.mk.injEq];(repeat' split)<;>simp_all
theorem ZhG(x y:Zaj)(xo yo:Operand):∀w,(do eqGuard .eql 30 xo yo (.agg #[.bool x.fAddr.fV6,.int .u64 x.fAddr.fHi,.int .u64 x.fAddr.fLo,.int .i64 x.fPort]) (.agg #[.bool y.fAddr.fV6,.int .u64 y.fAddr.fHi,.int .u64 y.fAddr.fLo,.int .i64 y.fPort]);binOp .eql 30 (.agg #[.bool x.fAddr.fV6,.int .u64 x.fAddr.fHi,.int .u64 x.fAddr.fLo,.int .i64 x.fPort]) (.agg #[.bool y.fAddr.fV6,.int .u64 y.fAddr.fHi,.int .u64 y.fAddr.fLo,.int .i64 y.fPort]):Sem Value).run Tryz.prog w=.ok (.bool (decide (x=y))) w:=by
 intro w;have hg:(eqGuard .eql 30 xo yo (.agg #[.bool x.fAddr.fV6,.int .u64 x.fAddr.fHi,.int .u64 x.fAddr.fLo,.int .i64 x.fPort]) (.agg #[.bool y.fAddr.fV6,.int .u64 y.fAddr.fHi,.int .u64 y.fAddr.fLo,.int .i64 y.fPort])).run Tryz.prog w=.ok () w:=by simp[eqGuard,Sem.run_bind,Tryz.eqGuardType30]
 rw[Sem.run_bind,hg,Result.andThen_ok,run_eql_struct];exact congrArg (fun r:Result Bool=>r.andThen fun b w'=>Result.ok (Value.bool b) w') (ZoB 9996 x y w)
theorem ZtI : (Tryz.prog.fieldsOf 32).toList = [{ name := "Addr", type := 28, offset := 0, embedded := false, tag := "", pkgPath := "", byteOffset := 0 }, { name := "Bits", type := 3, offset := 3, embedded := false, tag := "", pkgPath := "", byteOffset := 24 }] := by kernel_rfl
theorem ZlZ(d:Nat)(x y:Zae)(w:World):(Op.equalIn (d+4) 32 (.agg #[.bool x.fAddr.fV6,.int .u64 x.fAddr.fHi,.int .u64 x.fAddr.fLo,.int .i64 x.fBits]) (.agg #[.bool y.fAddr.fV6,.int .u64 y.fAddr.fHi,.int .u64 y.fAddr.fLo,.int .i64 y.fBits])).run Tryz.prog w=.ok (decide (x=y)) w:=by rw[run_equalIn_struct w (d+3) _ _ _ (by kernel_rfl) (by kernel_rfl)];simp only[ZtI,Op.eqFields];simp[go_sem,Znx];cases x;cases y;simp only[Zae.mk.injEq];(repeat' split)<;>simp_all
theorem Zlv(x y:Zae)(xo yo:Operand):∀w,(do eqGuard .eql 32 xo yo (.agg #[.bool x.fAddr.fV6,.int .u64 x.fAddr.fHi,.int .u64 x.fAddr.fLo,.int .i64 x.fBits]) (.agg #[.bool y.fAddr.fV6,.int .u64 y.fAddr.fHi,.int .u64 y.fAddr.fLo,.int .i64 y.fBits]);binOp .eql 32 (.agg #[.bool x.fAddr.fV6,.int .u64 x.fAddr.fHi,.int .u64 x.fAddr.fLo,.int .i64 x.fBits]) (.agg #[.bool y.fAddr.fV6,.int .u64 y.fAddr.fHi,.int .u64 y.fAddr.fLo,.int .i64 y.fBits]):Sem Value).run Tryz.prog w=.ok (.bool (decide (x=y))) w:=by
 intro w;have hg:(eqGuard .eql 32 xo yo (.agg #[.bool x.fAddr.fV6,.int .u64 x.fAddr.fHi,.int .u64 x.fAddr.fLo,.int .i64 x.fBits]) (.agg #[.bool y.fAddr.fV6,.int .u64 y.fAddr.fHi,.int .u64 y.fAddr.fLo,.int .i64 y.fBits])).run Tryz.prog w=.ok () w:=by simp[eqGuard,Sem.run_bind,Tryz.eqGuardType32]
 rw[Sem.run_bind,hg,Result.andThen_ok,run_eql_struct];exact congrArg (fun r:Result Bool=>r.andThen fun b w'=>Result.ok (Value.bool b) w') (ZlZ 9996 x y w)
theorem Zta(x y:Zae)(xo yo:Operand):∀w,(do eqGuard .neq 32 xo yo (.agg #[.bool x.fAddr.fV6,.int .u64 x.fAddr.fHi,.int .u64 x.fAddr.fLo,.int .i64 x.fBits]) (.agg #[.bool y.fAddr.fV6,.int .u64 y.fAddr.fHi,.int .u64 y.fAddr.fLo,.int .i64 y.fBits]);binOp .neq 32 (.agg #[.bool x.fAddr.fV6,.int .u64 x.fAddr.fHi,.int .u64 x.fAddr.fLo,.int .i64 x.fBits]) (.agg #[.bool y.fAddr.fV6,.int .u64 y.fAddr.fHi,.int .u64 y.fAddr.fLo,.int .i64 y.fBits]):Sem Value).run Tryz.prog w=.ok (.bool (!decide (x=y))) w:=by
 intro w;have hg:(eqGuard .neq 32 xo yo (.agg #[.bool x.fAddr.fV6,.int .u64 x.fAddr.fHi,.int .u64 x.fAddr.fLo,.int .i64 x.fBits]) (.agg #[.bool y.fAddr.fV6,.int .u64 y.fAddr.fHi,.int .u64 y.fAddr.fLo,.int .i64 y.fBits])).run Tryz.prog w=.ok () w:=by simp[eqGuard,Sem.run_bind,Tryz.eqGuardType32]
 rw[Sem.run_bind,hg,Result.andThen_ok,run_neq_struct];exact congrArg (fun r:Result Bool=>r.andThen fun b w'=>Result.ok (Value.bool (!b)) w') (ZlZ 9996 x y w)
theorem ZrY : (Tryz.prog.fieldsOf 42).toList = [{ name := "Points", type := 3, offset := 0, embedded := false, tag := "", pkgPath := "", byteOffset := 0 }, { name := "At", type := 3, offset := 1, embedded := false, tag := "", pkgPath := "", byteOffset := 8 }] := by kernel_rfl
theorem Zvc(d:Nat)(x y:Zay)(w:World):(Op.equalIn (d+2) 42 (.agg #[.int .i64 x.fPoints,.int .i64 x.fAt]) (.agg #[.int .i64 y.fPoints,.int .i64 y.fAt])).run Tryz.prog w=.ok (decide (x=y)) w:=by rw[run_equalIn_struct w (d+1) _ _ _ (by kernel_rfl) (by kernel_rfl)];simp only[ZrY,Op.eqFields];simp[go_sem];cases x;cases y;simp only[Zay.mk.injEq];(repeat' split)<;>simp_all
theorem ZsG : (Tryz.prog.fieldsOf 44).toList = [{ name := "End", type := 30, offset := 0, embedded := false, tag := "", pkgPath := "", byteOffset := 0 }, { name := "In", type := 4, offset := 4, embedded := false, tag := "", pkgPath := "", byteOffset := 32 }, { name := "Since", type := 3, offset := 5, embedded := false, tag := "", pkgPath := "", byteOffset := 40 }, { name := "Score", type := 42, offset := 6, embedded := false, tag := "", pkgPath := "", byteOffset := 48 }, { name := "Ping", type := 3, offset := 8, embedded := false, tag := "", pkgPath := "", byteOffset := 64 }, { name := "Work", type := 3, offset := 9, embedded := false, tag := "", pkgPath := "", byteOffset := 72 }] := by kernel_rfl
theorem ZwO(d:Nat)(x y:Zaa)(w:World):(Op.equalIn (d+6) 44 (.agg #[.bool x.fEnd.fAddr.fV6,.int .u64 x.fEnd.fAddr.fHi,.int .u64 x.fEnd.fAddr.fLo,.int .i64 x.fEnd.fPort,.bool x.fIn,.int .i64 x.fSince,.int .i64 x.fScore.fPoints,.int .i64 x.fScore.fAt,.int .i64 x.fPing,.int .i64 x.fWork]) (.agg #[.bool y.fEnd.fAddr.fV6,.int .u64 y.fEnd.fAddr.fHi,.int .u64 y.fEnd.fAddr.fLo,.int .i64 y.fEnd.fPort,.bool y.fIn,.int .i64 y.fSince,.int .i64 y.fScore.fPoints,.int .i64 y.fScore.fAt,.int .i64 y.fPing,.int .i64 y.fWork])).run Tryz.prog w=.ok (decide (x=y)) w:=by rw[run_equalIn_struct w (d+5) _ _ _ (by kernel_rfl) (by kernel_rfl)];simp only[ZsG,Op.eqFields];simp[go_sem,ZoB,Zvc];cases x;cases y;simp only[Zaa.mk.injEq];(repeat' split)<;>simp_all
theorem Zxm(x y:Zaa)(xo yo:Operand):∀w,(do eqGuard .neq 44 xo yo (.agg #[.bool x.fEnd.fAddr.fV6,.int .u64 x.fEnd.fAddr.fHi,.int .u64 x.fEnd.fAddr.fLo,.int .i64 x.fEnd.fPort,.bool x.fIn,.int .i64 x.fSince,.int .i64 x.fScore.fPoints,.int .i64 x.fScore.fAt,.int .i64 x.fPing,.int .i64 x.fWork]) (.agg #[.bool y.fEnd.fAddr.fV6,.int .u64 y.fEnd.fAddr.fHi,.int .u64 y.fEnd.fAddr.fLo,.int .i64 y.fEnd.fPort,.bool y.fIn,.int .i64 y.fSince,.int .i64 y.fScore.fPoints,.int .i64 y.fScore.fAt,.int .i64 y.fPing,.int .i64 y.fWork]);binOp .neq 44 (.agg #[.bool x.fEnd.fAddr.fV6,.int .u64 x.fEnd.fAddr.fHi,.int .u64 x.fEnd.fAddr.fLo,.int .i64 x.fEnd.fPort,.bool x.fIn,.int .i64 x.fSince,.int .i64 x.fScore.fPoints,.int .i64 x.fScore.fAt,.int .i64 x.fPing,.int .i64 x.fWork]) (.agg #[.bool y.fEnd.fAddr.fV6,.int .u64 y.fEnd.fAddr.fHi,.int .u64 y.fEnd.fAddr.fLo,.int .i64 y.fEnd.fPort,.bool y.fIn,.int .i64 y.fSince,.int .i64 y.fScore.fPoints,.int .i64 y.fScore.fAt,.int .i64 y.fPing,.int .i64 y.fWork]):Sem Value).run Tryz.prog w=.ok (.bool (!decide (x=y))) w:=by
 intro w;have hg:(eqGuard .neq 44 xo yo (.agg #[.bool x.fEnd.fAddr.fV6,.int .u64 x.fEnd.fAddr.fHi,.int .u64 x.fEnd.fAddr.fLo,.int .i64 x.fEnd.fPort,.bool x.fIn,.int .i64 x.fSince,.int .i64 x.fScore.fPoints,.int .i64 x.fScore.fAt,.int .i64 x.fPing,.int .i64 x.fWork]) (.agg #[.bool y.fEnd.fAddr.fV6,.int .u64 y.fEnd.fAddr.fHi,.int .u64 y.fEnd.fAddr.fLo,.int .i64 y.fEnd.fPort,.bool y.fIn,.int .i64 y.fSince,.int .i64 y.fScore.fPoints,.int .i64 y.fScore.fAt,.int .i64 y.fPing,.int .i64 y.fWork])).run Tryz.prog w=.ok () w:=by simp[eqGuard,Sem.run_bind,Tryz.eqGuardType44]
 rw[Sem.run_bind,hg,Result.andThen_ok,run_neq_struct];exact congrArg (fun r:Result Bool=>r.andThen fun b w'=>Result.ok (Value.bool (!b)) w') (ZwO 9994 x y w)
theorem ZtK : (Tryz.prog.fieldsOf 94).toList = [{ name := "Net", type := 32, offset := 0, embedded := false, tag := "", pkgPath := "", byteOffset := 0 }, { name := "Until", type := 3, offset := 4, embedded := false, tag := "", pkgPath := "", byteOffset := 32 }] := by kernel_rfl
theorem ZxF(d:Nat)(x y:Zac)(w:World):(Op.equalIn (d+6) 94 (.agg #[.bool x.fNet.fAddr.fV6,.int .u64 x.fNet.fAddr.fHi,.int .u64 x.fNet.fAddr.fLo,.int .i64 x.fNet.fBits,.int .i64 x.fUntil]) (.agg #[.bool y.fNet.fAddr.fV6,.int .u64 y.fNet.fAddr.fHi,.int .u64 y.fNet.fAddr.fLo,.int .i64 y.fNet.fBits,.int .i64 y.fUntil])).run Tryz.prog w=.ok (decide (x=y)) w:=by rw[run_equalIn_struct w (d+5) _ _ _ (by kernel_rfl) (by kernel_rfl)];simp only[ZtK,Op.eqFields];simp[go_sem,ZlZ];cases x;cases y;simp only[Zac.mk.injEq];(repeat' split)<;>simp_all
theorem Zza(x y:Zac)(xo yo:Operand):∀w,(do eqGuard .neq 94 xo yo (.agg #[.bool x.fNet.fAddr.fV6,.int .u64 x.fNet.fAddr.fHi,.int .u64 x.fNet.fAddr.fLo,.int .i64 x.fNet.fBits,.int .i64 x.fUntil]) (.agg #[.bool y.fNet.fAddr.fV6,.int .u64 y.fNet.fAddr.fHi,.int .u64 y.fNet.fAddr.fLo,.int .i64 y.fNet.fBits,.int .i64 y.fUntil]);binOp .neq 94 (.agg #[.bool x.fNet.fAddr.fV6,.int .u64 x.fNet.fAddr.fHi,.int .u64 x.fNet.fAddr.fLo,.int .i64 x.fNet.fBits,.int .i64 x.fUntil]) (.agg #[.bool y.fNet.fAddr.fV6,.int .u64 y.fNet.fAddr.fHi,.int .u64 y.fNet.fAddr.fLo,.int .i64 y.fNet.fBits,.int .i64 y.fUntil]):Sem Value).run Tryz.prog w=.ok (.bool (!decide (x=y))) w:=by
 intro w;have hg:(eqGuard .neq 94 xo yo (.agg #[.bool x.fNet.fAddr.fV6,.int .u64 x.fNet.fAddr.fHi,.int .u64 x.fNet.fAddr.fLo,.int .i64 x.fNet.fBits,.int .i64 x.fUntil]) (.agg #[.bool y.fNet.fAddr.fV6,.int .u64 y.fNet.fAddr.fHi,.int .u64 y.fNet.fAddr.fLo,.int .i64 y.fNet.fBits,.int .i64 y.fUntil])).run Tryz.prog w=.ok () w:=by simp[eqGuard,Sem.run_bind,Tryz.eqGuardType94]
 rw[Sem.run_bind,hg,Result.andThen_ok,run_neq_struct];exact congrArg (fun r:Result Bool=>r.andThen fun b w'=>Result.ok (Value.bool (!b)) w') (ZxF 9994 x y w)
theorem ZrZ : (Tryz.prog.fieldsOf 113).toList = [{ name := "End", type := 30, offset := 0, embedded := false, tag := "", pkgPath := "", byteOffset := 0 }, { name := "State", type := 3, offset := 4, embedded := false, tag := "", pkgPath := "", byteOffset := 32 }, { name := "Fails", type := 3, offset := 5, embedded := false, tag := "", pkgPath := "", byteOffset := 40 }, { name := "Next", type := 3, offset := 6, embedded := false, tag := "", pkgPath := "", byteOffset := 48 }] := by kernel_rfl
theorem Zvd(d:Nat)(x y:Zab)(w:World):(Op.equalIn (d+6) 113 (.agg #[.bool x.fEnd.fAddr.fV6,.int .u64 x.fEnd.fAddr.fHi,.int .u64 x.fEnd.fAddr.fLo,.int .i64 x.fEnd.fPort,.int .i64 x.fState,.int .i64 x.fFails,.int .i64 x.fNext]) (.agg #[.bool y.fEnd.fAddr.fV6,.int .u64 y.fEnd.fAddr.fHi,.int .u64 y.fEnd.fAddr.fLo,.int .i64 y.fEnd.fPort,.int .i64 y.fState,.int .i64 y.fFails,.int .i64 y.fNext])).run Tryz.prog w=.ok (decide (x=y)) w:=by rw[run_equalIn_struct w (d+5) _ _ _ (by kernel_rfl) (by kernel_rfl)];simp only[ZrZ,Op.eqFields];simp[go_sem,ZoB];cases x;cases y;simp only[Zab.mk.injEq];(repeat' split)<;>simp_all
theorem Zwb(x y:Zab)(xo yo:Operand):∀w,(do eqGuard .neq 113 xo yo (.agg #[.bool x.fEnd.fAddr.fV6,.int .u64 x.fEnd.fAddr.fHi,.int .u64 x.fEnd.fAddr.fLo,.int .i64 x.fEnd.fPort,.int .i64 x.fState,.int .i64 x.fFails,.int .i64 x.fNext]) (.agg #[.bool y.fEnd.fAddr.fV6,.int .u64 y.fEnd.fAddr.fHi,.int .u64 y.fEnd.fAddr.fLo,.int .i64 y.fEnd.fPort,.int .i64 y.fState,.int .i64 y.fFails,.int .i64 y.fNext]);binOp .neq 113 (.agg #[.bool x.fEnd.fAddr.fV6,.int .u64 x.fEnd.fAddr.fHi,.int .u64 x.fEnd.fAddr.fLo,.int .i64 x.fEnd.fPort,.int .i64 x.fState,.int .i64 x.fFails,.int .i64 x.fNext]) (.agg #[.bool y.fEnd.fAddr.fV6,.int .u64 y.fEnd.fAddr.fHi,.int .u64 y.fEnd.fAddr.fLo,.int .i64 y.fEnd.fPort,.int .i64 y.fState,.int .i64 y.fFails,.int .i64 y.fNext]):Sem Value).run Tryz.prog w=.ok (.bool (!decide (x=y))) w:=by
 intro w;have hg:(eqGuard .neq 113 xo yo (.agg #[.bool x.fEnd.fAddr.fV6,.int .u64 x.fEnd.fAddr.fHi,.int .u64 x.fEnd.fAddr.fLo,.int .i64 x.fEnd.fPort,.int .i64 x.fState,.int .i64 x.fFails,.int .i64 x.fNext]) (.agg #[.bool y.fEnd.fAddr.fV6,.int .u64 y.fEnd.fAddr.fHi,.int .u64 y.fEnd.fAddr.fLo,.int .i64 y.fEnd.fPort,.int .i64 y.fState,.int .i64 y.fFails,.int .i64 y.fNext])).run Tryz.prog w=.ok () w:=by simp[eqGuard,Sem.run_bind,Tryz.eqGuardType113]
 rw[Sem.run_bind,hg,Result.andThen_ok,run_neq_struct];exact congrArg (fun r:Result Bool=>r.andThen fun b w'=>Result.ok (Value.bool (!b)) w') (Zvd 9994 x y w)
theorem ZiP(a b:Zae)(h:(fun k:Zae=>(.agg #[.bool k.fAddr.fV6,.int .u64 k.fAddr.fHi,.int .u64 k.fAddr.fLo,.int .i64 k.fBits]:Value)) a=(fun k:Zae=>(.agg #[.bool k.fAddr.fV6,.int .u64 k.fAddr.fHi,.int .u64 k.fAddr.fLo,.int .i64 k.fBits]:Value)) b):a=b:=by
 obtain⟨⟨d,e,f⟩,g⟩:=a;obtain⟨⟨y5,y6,y7⟩,y8⟩:=b;simp only[Value.agg.injEq]at h;have:=congrArg Array.toList h;simp at this;simp_all
theorem ZuN(e:Bool)(n:Nat)(k:Zae)(w:World):(Instr.checkKey e (n+5) 32 (.agg #[.bool k.fAddr.fV6,.int .u64 k.fAddr.fHi,.int .u64 k.fAddr.fLo,.int .i64 k.fBits])).run Tryz.prog w=.ok () w:=by kernel_rfl
theorem ZkR{ν:Type}{vv:ν->V}(k:Zae)(l:List (Zae×ν)):ZnA Tryz.prog 32 (.agg #[.bool k.fAddr.fV6,.int .u64 k.fAddr.fHi,.int .u64 k.fAddr.fLo,.int .i64 k.fBits]) ((encM (fun k=>.agg #[.bool k.fAddr.fV6,.int .u64 k.fAddr.fHi,.int .u64 k.fAddr.fLo,.int .i64 k.fBits]) vv l).map (·.1)):=
 ZAC (kv:=fun k:Zae=>.agg #[.bool k.fAddr.fV6,.int .u64 k.fAddr.fHi,.int .u64 k.fAddr.fLo,.int .i64 k.fBits]) Tryz.underlying32 (fun a=>⟨_,rfl⟩) 5 (by decide) ZuN (fun n a b w=>by have:=ZlZ (n+1) a b w;simpa[Nat.add_assoc]using this) ZiP (fun k=>by simp[Instr.sameBits]) k l
def Zbq(b d e:Int):Option Bool:=bif(decide (b>=d))then some (decide (b<=e))else some false
theorem ZaZ(e f g:Int)(r:Bool)(b:Zbq e f g=some r):Yp 43 [Yj e,Yj f,Yj g] (Yk r):=by
 refine Yv Tryz.func43 fun S0 w0=>?_;unfold Zbq at b;obtain⟨d,b⟩|⟨d,b⟩:=Zag b
 .apply Ya b 4 [rz,rB [(3,true)]] [] (ml d)
 .apply Ya b 4 [rz,rB [(3,false)]] [] (ml d)
def Zdg(d:Bool)(b:Zav)(e:Bool):Option Bool:=(Zbq b.fHalf (1:Int) (1073741824:Int)).bind fun f=>bif f then(Zbq b.fLimit (1:Int) (10000:Int)).bind fun g=>bif g then(Zbq b.fBanFor (1:Int) (1073741824:Int)).bind fun h=>bif h then(Zbq b.fBase (1:Int) (1073741824:Int)).bind fun i=>bif i then(Zbq b.fCap b.fBase (1073741824:Int)).bind fun j=>bif j then(Zbq b.fJitter (0:Int) (1073741824:Int)).bind fun n=>bif d then bif e then bif n then some (decide (b.fSecret<=(9223372036854775807:Int)))else some false else some false else some false else bif d then bif e then some false else some false else some false else bif d then bif e then some false else some false else some false else bif d then bif e then some false else some false else some false else bif d then bif e then some false else some false else some false else bif d then bif e then some false else some false else some false
theorem Zfm(Z:Bool)(d:Zav)(v4 r:Bool)(b:Zdg Z d v4=some r):Yr 93 S0 w0 Tryz.f9 (Yk r) [1,1,1] ⟨[(1,.one (.ptr 1 0)),(3,(Yk Z)),(4,(Yk v4))],[(1,.box (Zav.c d))]⟩:=by
 unfold Zdg at b;obtain⟨e,J,b⟩:=Zad b;obtain⟨B,b⟩|⟨B,b⟩:=Zag b
 .obtain⟨f,M,b⟩:=Zad b;have O1:=(mo (ZaZ _ _ _ _ J) B (ZaZ _ _ _ _ M));obtain⟨g,b⟩|⟨g,b⟩:=Zag b
  .obtain⟨p,O,b⟩:=Zad b;have O2:=(mD O1 g (ZaZ _ _ _ _ O));obtain⟨h,b⟩|⟨h,b⟩:=Zag b
   .obtain⟨C,R,b⟩:=Zad b;have O3:=(mD O2 h (ZaZ _ _ _ _ R));obtain⟨i,b⟩|⟨i,b⟩:=Zag b
    .obtain⟨L,U,b⟩:=Zad b;have O4:=(mD O3 i (ZaZ _ _ _ _ U));obtain⟨j,b⟩|⟨j,b⟩:=Zag b
     .obtain⟨V,W,b⟩:=Zad b
      let R5:List RA:=[⟨[(2,aB e),(6,aB f),(11,aB p),(16,aB C),(23,aB L),(28,aB V)],[(3,true),(8,true),(13,true),(18,true),(25,true)],[],[],[],[],[]⟩]
      have O6:=(mD O4 j (ZaZ _ _ _ _ W));obtain⟨o,b⟩|⟨o,b⟩:=Zag b
      .obtain⟨t,b⟩|⟨t,b⟩:=Zag b
       .obtain⟨D,b⟩|⟨D,b⟩:=Zag b
        .apply Ya b 4 (R5++[rB [(1,true),(4,true),(7,true)]]) [] (mE O6 o t D)
        .apply Ya b 4 (R5++[rB [(1,true),(4,true),(7,false)]]) [] (mE O6 o t D)
       .apply Ya b 4 (R5++[rB [(1,true),(4,false)]]) [] (mD O6 o t)
      .apply Ya b 4 (R5++[rB [(1,false)]]) [] (mC O6 o)
     .let R7:List RA:=[⟨[(2,aB e),(6,aB f),(11,aB p),(16,aB C),(23,aB L)],[(3,true),(8,true),(13,true),(18,true),(25,false)],[],[],[],[],[]⟩]
      obtain⟨u,b⟩|⟨u,b⟩:=Zag b
      .obtain⟨E,b⟩|⟨E,b⟩:=Zag b
       .apply Ya b 4 (R7++[rB [(1,true),(4,true)]]) [] (mE O4 j u E)
       .apply Ya b 4 (R7++[rB [(1,true),(4,false)]]) [] (mE O4 j u E)
      .apply Ya b 4 (R7++[rB [(1,false)]]) [] (mD O4 j u)
    .let R8:List RA:=[⟨[(2,aB e),(6,aB f),(11,aB p),(16,aB C)],[(3,true),(8,true),(13,true),(18,false)],[],[],[],[],[]⟩]
     obtain⟨v,b⟩|⟨v,b⟩:=Zag b
     .obtain⟨F,b⟩|⟨F,b⟩:=Zag b
      .apply Ya b 4 (R8++[rB [(1,true),(4,true)]]) [] (mE O3 i v F)
      .apply Ya b 4 (R8++[rB [(1,true),(4,false)]]) [] (mE O3 i v F)
     .apply Ya b 4 (R8++[rB [(1,false)]]) [] (mD O3 i v)
   .let R9:List RA:=[⟨[(2,aB e),(6,aB f),(11,aB p)],[(3,true),(8,true),(13,false)],[],[],[],[],[]⟩]
    obtain⟨y,b⟩|⟨y,b⟩:=Zag b
    .obtain⟨G,b⟩|⟨G,b⟩:=Zag b
     .apply Ya b 4 (R9++[rB [(1,true),(4,true)]]) [] (mE O2 h y G)
     .apply Ya b 4 (R9++[rB [(1,true),(4,false)]]) [] (mE O2 h y G)
    .apply Ya b 4 (R9++[rB [(1,false)]]) [] (mD O2 h y)
  .let lI:List RA:=[⟨[(2,aB e),(6,aB f)],[(3,true),(8,false)],[],[],[],[],[]⟩]
   obtain⟨z,b⟩|⟨z,b⟩:=Zag b
   .obtain⟨H,b⟩|⟨H,b⟩:=Zag b
    .apply Ya b 4 (lI++[rB [(1,true),(4,true)]]) [] (mE O1 g z H)
    .apply Ya b 4 (lI++[rB [(1,true),(4,false)]]) [] (mE O1 g z H)
   .apply Ya b 4 (lI++[rB [(1,false)]]) [] (mD O1 g z)
 .let lJ:List RA:=[⟨[(2,aB e)],[(3,false)],[],[],[],[],[]⟩]
  have eJ:=(mn (ZaZ _ _ _ _ J) B);obtain⟨A,b⟩|⟨A,b⟩:=Zag b
  .obtain⟨I,b⟩|⟨I,b⟩:=Zag b
   .apply Ya b 4 (lJ++[rB [(1,true),(4,true)]]) [] (mD eJ A I)
   .apply Ya b 4 (lJ++[rB [(1,true),(4,false)]]) [] (mD eJ A I)
  .apply Ya b 4 (lJ++[rB [(1,false)]]) [] (mC eJ A)
def ZcF(d:Bool)(b:Zav):Option Bool:=(Zbq b.fQuota.fGroup (0:Int) (64:Int)).bind fun e=>bif e then(Zbq b.fQuota.fPing (0:Int) (64:Int)).bind fun f=>bif f then(Zbq b.fQuota.fWork (0:Int) (64:Int)).bind fun g=>bif g then(Zbq b.fQuota.fTime (0:Int) (64:Int)).bind fun h=>Zdg d b h else Zdg d b false else Zdg d b false else Zdg d b false
theorem ZdU(h:Bool)(d:Zav)(r:Bool)(b:ZcF h d=some r):Yr 93 S0 w0 Tryz.f9 (Yk r) [1,1] ⟨[(1,.one (.ptr 1 0)),(3,(Yk h))],[(1,.box (Zav.c d))]⟩:=by
 unfold ZcF at b;obtain⟨j,i,b⟩:=Zad b;obtain⟨e,b⟩|⟨e,b⟩:=Zag b
 .obtain⟨o,p,b⟩:=Zad b;have iX:=(mo (ZaZ _ _ _ _ i) e (ZaZ _ _ _ _ p));obtain⟨f,b⟩|⟨f,b⟩:=Zag b
  .obtain⟨v,t,b⟩:=Zad b;have iY:=(mD iX f (ZaZ _ _ _ _ t));obtain⟨g,b⟩|⟨g,b⟩:=Zag b
   .obtain⟨y,u,b⟩:=Zad b;exact Ye 2 [⟨[(3,aB j),(8,aB o),(14,aB v),(20,aB y)],[(4,true),(10,true),(16,true)],[],[],[],[],[]⟩] [] (ma [1,3,4] [1]) (mD iY g (ZaZ _ _ _ _ u)) (Zfm S0 w0 h d y r b)
   .exact Ye 2 [⟨[(3,aB j),(8,aB o),(14,aB v)],[(4,true),(10,true),(16,false)],[],[],[],[],[]⟩] [] (ma [1,3,4] [1]) (mC iY g) (Zfm S0 w0 h d false r b)
  .exact Ye 2 [⟨[(3,aB j),(8,aB o)],[(4,true),(10,false)],[],[],[],[],[]⟩] [] (ma [1,3,4] [1]) (mC iX f) (Zfm S0 w0 h d false r b)
 .exact Ye 2 [⟨[(3,aB j)],[(4,false)],[],[],[],[],[]⟩] [] (ma [1,3,4] [1]) (mn (ZaZ _ _ _ _ i) e) (Zfm S0 w0 h d false r b)
def Zgv(b:Zav):Option Bool:=(Zbq b.fMaxIn (0:Int) (65535:Int)).bind fun d=>bif d then(Zbq b.fMaxOut (0:Int) (65535:Int)).bind fun e=>bif e then(Zbq b.fShards (1:Int) (8:Int)).bind fun f=>bif f then(Zbq b.fMaxBans (0:Int) (1024:Int)).bind fun g=>bif g then(Zbq b.fMaxBook (0:Int) (1024:Int)).bind fun h=>ZcF h b else ZcF false b else ZcF false b else ZcF false b else ZcF false b
theorem ZpN(d:Zav)(r:Bool)(b:Zgv d=some r):Yp 9 [.agg (Zav.c d)] (Yk r):=by
 refine Yv Tryz.func9 fun S0 w0=>?_;unfold Zgv at b;obtain⟨e,p,b⟩:=Zad b;obtain⟨g,b⟩|⟨g,b⟩:=Zag b
 .obtain⟨f,v,b⟩:=Zad b;have iZ:=(mo (ZaZ _ _ _ _ p) g (ZaZ _ _ _ _ v));obtain⟨h,b⟩|⟨h,b⟩:=Zag b
  .obtain⟨i,y,b⟩:=Zad b;have i3:=(mD iZ h (ZaZ _ _ _ _ y));obtain⟨j,b⟩|⟨j,b⟩:=Zag b
   .obtain⟨t,z,b⟩:=Zad b;have O17:=(mD i3 j (ZaZ _ _ _ _ z));obtain⟨o,b⟩|⟨o,b⟩:=Zag b
    .obtain⟨u,A,b⟩:=Zad b;exact Ye 4 [rz,⟨[(2,aB e),(6,aB f),(11,aB i),(16,aB t),(21,aB u)],[(3,true),(8,true),(13,true),(18,true)],[],[],[],[],[]⟩] [] (ma [1,3] [1]) (mD O17 o (ZaZ _ _ _ _ A)) (ZdU S0 w0 u d r b)
    .exact Ye 4 [rz,⟨[(2,aB e),(6,aB f),(11,aB i),(16,aB t)],[(3,true),(8,true),(13,true),(18,false)],[],[],[],[],[]⟩] [] (ma [1,3] [1]) (mC O17 o) (ZdU S0 w0 false d r b)
   .exact Ye 4 [rz,⟨[(2,aB e),(6,aB f),(11,aB i)],[(3,true),(8,true),(13,false)],[],[],[],[],[]⟩] [] (ma [1,3] [1]) (mC i3 j) (ZdU S0 w0 false d r b)
  .exact Ye 4 [rz,⟨[(2,aB e),(6,aB f)],[(3,true),(8,false)],[],[],[],[],[]⟩] [] (ma [1,3] [1]) (mC iZ h) (ZdU S0 w0 false d r b)
 .exact Ye 4 [rz,⟨[(2,aB e)],[(3,false)],[],[],[],[],[]⟩] [] (ma [1,3] [1]) (mn (ZaZ _ _ _ _ p) g) (ZdU S0 w0 false d r b)
def ZjV:Option Zav:=some (Zav.mk 8 4 4 64 64 1 (ZaA.mk 1 1 1 1) 100 100 1000 2 64 4)
theorem ZpO(r:Zav)(b:ZjV=some r):Yp 44 [] (.agg (Zav.c r)):=by
 refine Yv Tryz.func44 fun S0 w0=>?_;unfold ZjV at b;apply Ya b 4 [rz,rz] [] .n
def ZnX:Option (ByteArray×ByteArray×ByteArray×ByteArray×ByteArray×ByteArray×ByteArray×ByteArray×ByteArray×ByteArray×ByteArray×ByteArray×ByteArray×ByteArray):=some ((⟨#[]⟩ : ByteArray),(⟨#[97,99,99,101,112,116]⟩ : ByteArray),(⟨#[108,101,97,118,101]⟩ : ByteArray),(⟨#[100,105,97,108]⟩ : ByteArray),(⟨#[114,101,115,117,108,116]⟩ : ByteArray),(⟨#[98,108,97,109,101]⟩ : ByteArray),(⟨#[98,97,110]⟩ : ByteArray),(⟨#[117,110,98,97,110]⟩ : ByteArray),(⟨#[98,97,110,110,101,100]⟩ : ByteArray),(⟨#[116,105,99,107]⟩ : ByteArray),(⟨#[108,105,115,116]⟩ : ByteArray),(⟨#[112,111,110,103]⟩ : ByteArray),(⟨#[119,111,114,107]⟩ : ByteArray),(⟨#[108,101,97,114,110]⟩ : ByteArray))
theorem Zwv(r:(ByteArray×ByteArray×ByteArray×ByteArray×ByteArray×ByteArray×ByteArray×ByteArray×ByteArray×ByteArray×ByteArray×ByteArray×ByteArray×ByteArray))(b:ZnX=some r):Yp 218 [] (.agg ((cP cS (cP cS (cP cS (cP cS (cP cS (cP cS (cP cS (cP cS (cP cS (cP cS (cP cS (cP cS (cP cS cS))))))))))))) r)):=by
 refine Yv Tryz.func218 fun S0 w0=>?_;unfold ZnX at b;apply Ya b 4 [rz,rz] [] .n
def Ztt(d:List ByteArray)(b:Int):Option ByteArray:=bif(decide (b<(0:Int)))then some (⟨#[]⟩ : ByteArray)else bif(decide (b>=(d.length:Int)))then some (⟨#[]⟩ : ByteArray)else need (0<=b/\b<(d.length:Int))<|some (d.getD b.toNat ByteArray.empty)
theorem ZAR(f:List ByteArray)(g:Int)(r:ByteArray)(b:Ztt f g=some r):Yp 219 [.one (cL 1 cS ByteArray.empty f),Yj g] (.one (.lit (.string r))):=by
 refine Yv Tryz.func219 fun S0 w0=>?_;unfold Ztt at b;obtain⟨d,b⟩|⟨d,b⟩:=Zag b
 .apply Ya b 8 [rz,rB [(2,true)],rz] [true] (mn d (mP true))
 .obtain⟨e,b⟩|⟨e,b⟩:=Zag b
  .apply Ya b 8 [rz,rB [(2,false)],rz] [true] (mn d e)
  .obtain⟨h,b⟩:=Zao b;apply Ya b 9 [rz,rB [(2,false)],rz] [false] (mo d e h)
def Zns(d:Int):Option ByteArray:=(ZnX).bind fun b=>(Ztt ([b.1,b.2.1,b.2.2.1,b.2.2.2.1,b.2.2.2.2.1,b.2.2.2.2.2.1,b.2.2.2.2.2.2.1,b.2.2.2.2.2.2.2.1,b.2.2.2.2.2.2.2.2.1,b.2.2.2.2.2.2.2.2.2.1,b.2.2.2.2.2.2.2.2.2.2.1,b.2.2.2.2.2.2.2.2.2.2.2.1,b.2.2.2.2.2.2.2.2.2.2.2.2.1,b.2.2.2.2.2.2.2.2.2.2.2.2.2]:List ByteArray) d).bind fun e=>some e
theorem Zsf(e:Int)(r:ByteArray)(d:Zns e=some r):Yp 156 [Yj e] (.one (.lit (.string r))):=by
 refine Yv Tryz.func156 fun S0 w0=>?_;unfold Zns at d;obtain⟨b,f,g,h,d⟩:=Yu d;apply Ya d 6 [rz,rA [(0,aG ((cP cS (cP cS (cP cS (cP cS (cP cS (cP cS (cP cS (cP cS (cP cS (cP cS (cP cS (cP cS (cP cS cS))))))))))))) b))],⟨[(2,.r (.one (.lit (.string f))) [])],[],[(0,[3])],[],[],[(0,(([b.1,b.2.1,b.2.2.1,b.2.2.2.1,b.2.2.2.2.1,b.2.2.2.2.2.1,b.2.2.2.2.2.2.1,b.2.2.2.2.2.2.2.1,b.2.2.2.2.2.2.2.2.1,b.2.2.2.2.2.2.2.2.2.1,b.2.2.2.2.2.2.2.2.2.2.1,b.2.2.2.2.2.2.2.2.2.2.2.1,b.2.2.2.2.2.2.2.2.2.2.2.2.1,b.2.2.2.2.2.2.2.2.2.2.2.2.2]:List ByteArray).length,Zam cS ByteArray.empty ([b.1,b.2.1,b.2.2.1,b.2.2.2.1,b.2.2.2.2.1,b.2.2.2.2.2.1,b.2.2.2.2.2.2.1,b.2.2.2.2.2.2.2.1,b.2.2.2.2.2.2.2.2.1,b.2.2.2.2.2.2.2.2.2.1,b.2.2.2.2.2.2.2.2.2.2.1,b.2.2.2.2.2.2.2.2.2.2.2.1,b.2.2.2.2.2.2.2.2.2.2.2.2.1,b.2.2.2.2.2.2.2.2.2.2.2.2.2]:List ByteArray)))],[]⟩] [] (mo (Zwv _ g) (show ([b.1,b.2.1,b.2.2.1,b.2.2.2.1,b.2.2.2.2.1,b.2.2.2.2.2.1,b.2.2.2.2.2.2.1,b.2.2.2.2.2.2.2.1,b.2.2.2.2.2.2.2.2.1,b.2.2.2.2.2.2.2.2.2.1,b.2.2.2.2.2.2.2.2.2.2.1,b.2.2.2.2.2.2.2.2.2.2.2.1,b.2.2.2.2.2.2.2.2.2.2.2.2.1,b.2.2.2.2.2.2.2.2.2.2.2.2.2]:List ByteArray).length=14/\∀i j,i<14->j<1->Zam cS ByteArray.empty ([b.1,b.2.1,b.2.2.1,b.2.2.2.1,b.2.2.2.2.1,b.2.2.2.2.2.1,b.2.2.2.2.2.2.1,b.2.2.2.2.2.2.2.1,b.2.2.2.2.2.2.2.2.1,b.2.2.2.2.2.2.2.2.2.1,b.2.2.2.2.2.2.2.2.2.2.1,b.2.2.2.2.2.2.2.2.2.2.2.1,b.2.2.2.2.2.2.2.2.2.2.2.2.1,b.2.2.2.2.2.2.2.2.2.2.2.2.2]:List ByteArray) i j=([.lit (.string b.1),.lit (.string b.2.1),.lit (.string b.2.2.1),.lit (.string b.2.2.2.1),.lit (.string b.2.2.2.2.1),.lit (.string b.2.2.2.2.2.1),.lit (.string b.2.2.2.2.2.2.1),.lit (.string b.2.2.2.2.2.2.2.1),.lit (.string b.2.2.2.2.2.2.2.2.1),.lit (.string b.2.2.2.2.2.2.2.2.2.1),.lit (.string b.2.2.2.2.2.2.2.2.2.2.1),.lit (.string b.2.2.2.2.2.2.2.2.2.2.2.1),.lit (.string b.2.2.2.2.2.2.2.2.2.2.2.2.1),.lit (.string b.2.2.2.2.2.2.2.2.2.2.2.2.2)]:List C).getD (0+(i * 1+j)) .junk from⟨rfl,ZJS (sz:=1) cS ByteArray.empty ([b.1,b.2.1,b.2.2.1,b.2.2.2.1,b.2.2.2.2.1,b.2.2.2.2.2.1,b.2.2.2.2.2.2.1,b.2.2.2.2.2.2.2.1,b.2.2.2.2.2.2.2.2.1,b.2.2.2.2.2.2.2.2.2.1,b.2.2.2.2.2.2.2.2.2.2.1,b.2.2.2.2.2.2.2.2.2.2.2.1,b.2.2.2.2.2.2.2.2.2.2.2.2.1,b.2.2.2.2.2.2.2.2.2.2.2.2.2]:List ByteArray) [.lit (.string b.1),.lit (.string b.2.1),.lit (.string b.2.2.1),.lit (.string b.2.2.2.1),.lit (.string b.2.2.2.2.1),.lit (.string b.2.2.2.2.2.1),.lit (.string b.2.2.2.2.2.2.1),.lit (.string b.2.2.2.2.2.2.2.1),.lit (.string b.2.2.2.2.2.2.2.2.1),.lit (.string b.2.2.2.2.2.2.2.2.2.1),.lit (.string b.2.2.2.2.2.2.2.2.2.2.1),.lit (.string b.2.2.2.2.2.2.2.2.2.2.2.1),.lit (.string b.2.2.2.2.2.2.2.2.2.2.2.2.1),.lit (.string b.2.2.2.2.2.2.2.2.2.2.2.2.2)] (fun _=>rfl) rfl⟩) (ZAR _ _ _ h))
def Zlr(b:Int)(d:Bool):Option (List Int):=bif d then some ([(3:Int)]:List Int)else bif(b==(4:Int))then some ([(0:Int),(5:Int),(3:Int),(4:Int)]:List Int)else bif(b==(5:Int))then some ([(0:Int),(4:Int),(3:Int)]:List Int)else bif(b==(6:Int))then some ([(1:Int),(4:Int),(3:Int)]:List Int)else bif(b==(7:Int))then some ([(1:Int)]:List Int)else bif(b==(8:Int))then some ([(2:Int),(3:Int)]:List Int)else bif(b==(11:Int))then some ([(0:Int),(4:Int)]:List Int)else some ([]:List Int)
theorem ZnZ(y:Int)(t:Bool)(r:List Int)(b:Zlr y t=some r):Ys 34 S0 w0 Tryz.f157 [(me 99999 234 1 mi (0:Int) r)] (.one (.osl 99999 r.length)) [1,0,1,0,1,1,1,1,1] ⟨[(3,(Yj y)),(12,(Yk t))],[]⟩:=by
 unfold Zlr at b;obtain⟨f,b⟩|⟨f,b⟩:=Zag b
 .apply Yc b 3 [rA [(0,.c ([(3:Int)]:List Int).length (Zam mi (0:Int) ([(3:Int)]:List Int)))]] [true] (md [2] [15] [(15,99999)]) (mo f (show ([(3:Int)]:List Int).length=1 from rfl) (mQ (e:=mi) (0:Int) 1 (fun _=>rfl) ([(3:Int)]:List Int)))
 .obtain⟨g,b⟩|⟨g,b⟩:=Zag b
  .apply Yc b 6 [rz,rA [(0,.c ([(0:Int),(5:Int),(3:Int),(4:Int)]:List Int).length (Zam mi (0:Int) ([(0:Int),(5:Int),(3:Int),(4:Int)]:List Int)))]] [false,true] (md [2] [18] [(18,99999)]) (mq f g (show ([(0:Int),(5:Int),(3:Int),(4:Int)]:List Int).length=4 from rfl) (mQ (e:=mi) (0:Int) 1 (fun _=>rfl) ([(0:Int),(5:Int),(3:Int),(4:Int)]:List Int)))
  .obtain⟨p,b⟩|⟨p,b⟩:=Zag b
   .apply Yc b 9 [rz,rz,rA [(0,.c ([(0:Int),(4:Int),(3:Int)]:List Int).length (Zam mi (0:Int) ([(0:Int),(4:Int),(3:Int)]:List Int)))]] [false,false,true] (md [2] [21] [(21,99999)]) (mr f g p (show ([(0:Int),(4:Int),(3:Int)]:List Int).length=3 from rfl) (mQ (e:=mi) (0:Int) 1 (fun _=>rfl) ([(0:Int),(4:Int),(3:Int)]:List Int)))
   .obtain⟨u,b⟩|⟨u,b⟩:=Zag b
    .apply Yc b 12 [rz,rz,rz,rA [(0,.c ([(1:Int),(4:Int),(3:Int)]:List Int).length (Zam mi (0:Int) ([(1:Int),(4:Int),(3:Int)]:List Int)))]] [false,false,false,true] (md [2] [24] [(24,99999)]) (mt f g p u (show ([(1:Int),(4:Int),(3:Int)]:List Int).length=3 from rfl) (mQ (e:=mi) (0:Int) 1 (fun _=>rfl) ([(1:Int),(4:Int),(3:Int)]:List Int)))
    .obtain⟨v,b⟩|⟨v,b⟩:=Zag b
     .apply Yc b 15 [rz,rz,rz,rz,rA [(0,.c ([(1:Int)]:List Int).length (Zam mi (0:Int) ([(1:Int)]:List Int)))]] [false,false,false,false,true] (md [2] [27] [(27,99999)]) (mu f g p u v (show ([(1:Int)]:List Int).length=1 from rfl) (mQ (e:=mi) (0:Int) 1 (fun _=>rfl) ([(1:Int)]:List Int)))
     .obtain⟨h,b⟩|⟨h,b⟩:=Zag b
      .apply Yc b 18 [rz,rz,rz,rz,rz,rA [(0,.c ([(2:Int),(3:Int)]:List Int).length (Zam mi (0:Int) ([(2:Int),(3:Int)]:List Int)))]] [false,false,false,false,false,true] (md [2] [30] [(30,99999)]) (mw f g p u v h (show ([(2:Int),(3:Int)]:List Int).length=2 from rfl) (mQ (e:=mi) (0:Int) 1 (fun _=>rfl) ([(2:Int),(3:Int)]:List Int)))
      .have O1:=(mt f g p u v h);obtain⟨o,b⟩|⟨o,b⟩:=Zag b
       .apply Yc b 21 [rz,rz,rz,rz,rz,rz,rA [(0,.c ([(0:Int),(4:Int)]:List Int).length (Zam mi (0:Int) ([(0:Int),(4:Int)]:List Int)))]] [false,false,false,false,false,false,true] (md [2] [33] [(33,99999)]) (mE O1 o (show ([(0:Int),(4:Int)]:List Int).length=2 from rfl) (mQ (e:=mi) (0:Int) 1 (fun _=>rfl) ([(0:Int),(4:Int)]:List Int)))
       .apply Yc b 23 [rz,rz,rz,rz,rz,rz,rz] [false,false,false,false,false,false,false] ⟨[],[],[],[],[(2,99999,234,1,Zam mi (0:Int) [])],[2],[99999],[]⟩ (mC O1 o)
def Zjz(b:Int)(d:Bool):Option (List Int):=bif d then some ([(0:Int),(3:Int)]:List Int)else bif(b==(2:Int))then some ([(0:Int)]:List Int)else bif(b==(3:Int))then Zlr b (b==(3:Int))else Zlr b (b==(9:Int))
theorem Zls(f:Int)(p:Bool)(r:List Int)(b:Zjz f p=some r):Ys 34 S0 w0 Tryz.f157 [(me 99999 234 1 mi (0:Int) r)] (.one (.osl 99999 r.length)) [1,0,1,0,1] ⟨[(3,(Yj f)),(4,(Yk p))],[]⟩:=by
 unfold Zjz at b;obtain⟨g,b⟩|⟨g,b⟩:=Zag b
 .apply Yc b 3 [rA [(0,.c ([(0:Int),(3:Int)]:List Int).length (Zam mi (0:Int) ([(0:Int),(3:Int)]:List Int)))]] [true] (md [2] [8] [(8,99999)]) (mo g (show ([(0:Int),(3:Int)]:List Int).length=2 from rfl) (mQ (e:=mi) (0:Int) 1 (fun _=>rfl) ([(0:Int),(3:Int)]:List Int)))
 .obtain⟨h,b⟩|⟨h,b⟩:=Zag b
  .apply Yc b 6 [rz,rA [(0,.c ([(0:Int)]:List Int).length (Zam mi (0:Int) ([(0:Int)]:List Int)))]] [false,true] (md [2] [11] [(11,99999)]) (mq g h (show ([(0:Int)]:List Int).length=1 from rfl) (mQ (e:=mi) (0:Int) 1 (fun _=>rfl) ([(0:Int)]:List Int)))
  .obtain⟨o,b⟩|⟨o,b⟩:=Zag b
   .exact Ye 9 [rz,rz] [false,false,true] (Yi [3,12]) (mo g h o) (ZnZ S0 w0 f (f==(3:Int)) r b)
   .exact Ye 9 [rz,rz,rz] [false,false,false] (Yi [3,12]) (mo g h o) (ZnZ S0 w0 f (f==(9:Int)) r b)
def ZkI(b:Int):Option (List Int):=bif(b==(1:Int))then Zjz b (b==(1:Int))else bif(b==(12:Int))then Zjz b (b==(12:Int))else Zjz b (b==(13:Int))
theorem ZuY(d:Int)(r:List Int)(b:ZkI d=some r):Yq 157 [] [Yj d] [(me 99999 234 1 mi (0:Int) r)] (.one (.osl 99999 r.length)):=by
 refine Yw Tryz.func157 fun S0 w0=>?_;unfold ZkI at b;obtain⟨e,b⟩|⟨e,b⟩:=Zag b
 .exact Ye 11 [rz,rz,rz] [true] (Yi [3,4]) (ml e) (Zls S0 w0 d (d==(1:Int)) r b)
 .obtain⟨f,b⟩|⟨f,b⟩:=Zag b
  .exact Ye 14 [rz,rz,rz,rz] [false,true] (Yi [3,4]) (mn e f) (Zls S0 w0 d (d==(12:Int)) r b)
  .exact Ye 14 [rz,rz,rz,rz,rz] [false,false] (Yi [3,4]) (mn e f) (Zls S0 w0 d (d==(13:Int)) r b)
theorem Zwx(b:Int)(r:List Int)(d:ZkI b=some r):Yp 157 [Yj b] (.one (cL 1 mi (0:Int) r)):=(ZuY b r d).pure
def Zpm(b:Int):Option Zah:=some (Zah.mk false 0 (IntKind.wrap .u64 b))
theorem ZuI(b:Int)(r:Zah)(d:Zpm b=some r):Yp 295 [.one (.lit (.int .u32 b))] (.agg (Zah.c r)):=by
 refine Yv Tryz.func295 fun S0 w0=>?_;unfold Zpm at d;apply Ya d 4 [rz,rz] [] .n
def ZtC(d b:Int):Option Zah:=bif(d==(0:Int))then bif((Int.fdiv b (2 ^ (min (32:Int).toNat (IntKind.bits .u64))))==(65535:Int))then(Zpm (IntKind.wrap .u32 (IntKind.wrap .u64 (((BitVec.ofInt (IntKind.bits .u64) b) &&& (BitVec.ofInt (IntKind.bits .u64) (4294967295:Int))).toNat:Int)))).bind fun e=>some e else some (Zah.mk true d b)else some (Zah.mk true d b)
theorem ZAS(f g:Int)(r:Zah)(b:ZtC f g=some r):Yp 294 [.one (.lit (.int .u64 f)),.one (.lit (.int .u64 g))] (.agg (Zah.c r)):=by
 refine Yv Tryz.func294 fun S0 w0=>?_;unfold ZtC at b;obtain⟨d,b⟩|⟨d,b⟩:=Zag b
 .have O1:=(mn d (mR (32:Int) rfl));obtain⟨e,b⟩|⟨e,b⟩:=Zag b
  .obtain⟨h,i,b⟩:=Zad b;apply Ya b 8 [rz,rB [(2,true)],rA [(3,aG (Zah.c h))]] [true] (mD O1 e (ZuI _ _ i))
  .apply Ya b 9 [rz,rB [(2,true)],rz] [false] (mC O1 e)
 .apply Ya b 9 [rz,rB [(2,false)],rz] [false] (mn d (mP false))
def Zfk(b:Zah):Option Bool:=bif b.fV6 then(ZtC b.fHi b.fLo).bind fun d=>some (decide (d=b))else(Zpm (IntKind.wrap .u32 (IntKind.wrap .u64 (((BitVec.ofInt (IntKind.bits .u64) b.fLo) &&& (BitVec.ofInt (IntKind.bits .u64) (4294967295:Int))).toNat:Int)))).bind fun e=>some (decide (e=b))
theorem Zcp(d:Zah)(r:Bool)(b:Zfk d=some r):Yp 221 [.agg (Zah.c d)] (Yk r):=by
 refine Yv Tryz.func221 fun S0 w0=>?_;unfold Zfk at b;obtain⟨e,b⟩|⟨e,b⟩:=Zag b
 .obtain⟨f,h,b⟩:=Zad b;apply Ya b 8 [rz,rz,rA [(4,aG (Zah.c f)),(6,aB (decide (f=d)))]] [true] (mo e (ZAS _ _ _ h) (ZlY f d (.tmp 9) (.tmp 10)))
 .obtain⟨g,i,b⟩:=Zad b;apply Ya b 9 [rz,rz,rA [(4,aG (Zah.c g)),(6,aB (decide (g=d)))]] [false] (mo e (ZuI _ _ i) (ZlY g d (.tmp 16) (.tmp 17)))
def Zis(b:Zaj):Option Bool:=(Zfk b.fAddr).bind fun d=>bif d then bif(decide (b.fPort>=(1:Int)))then some (decide (b.fPort<=(65535:Int)))else some false else some false
theorem ZgP(h:Zaj)(r:Bool)(b:Zis h=some r):Yp 189 [.agg (Zaj.c h)] (Yk r):=by
 refine Yv Tryz.func189 fun S0 w0=>?_;unfold Zis at b;obtain⟨e,f,b⟩:=Zad b;obtain⟨d,b⟩|⟨d,b⟩:=Zag b
 .obtain⟨g,b⟩|⟨g,b⟩:=Zag b
  .apply Ya b 4 [rz,⟨[(2,aB e)],[(3,true),(8,true)],[],[],[],[],[]⟩] [] (mo (Zcp _ _ f) d g)
  .apply Ya b 4 [rz,⟨[(2,aB e)],[(3,true),(8,false)],[],[],[],[],[]⟩] [] (mo (Zcp _ _ f) d g)
 .apply Ya b 4 [rz,⟨[(2,aB e)],[(3,false)],[],[],[],[],[]⟩] [] (mn (Zcp _ _ f) d)
def Zex(b:Zah):Option Int:=bif b.fV6 then some (128:Int)else some (32:Int)
theorem Zja(e:Zah)(r:Int)(b:Zex e=some r):Yp 306 [.agg (Zah.c e)] (Yj r):=by
 refine Yv Tryz.func306 fun S0 w0=>?_;unfold Zex at b;obtain⟨d,b⟩|⟨d,b⟩:=Zag b
 .apply Ya b 8 [rz,rz,rz] [true] (ml d)
 .apply Ya b 9 [rz,rz,rz] [false] (ml d)
def Zhi(b:Int):Option Int:=some (IntKind.wrap .u64 (((BitVec.ofInt (IntKind.bits .u64) (Int.fdiv (IntKind.wrap .u64 (((BitVec.ofInt (IntKind.bits .u64) (IntKind.wrap .u64 (((BitVec.ofInt (IntKind.bits .u64) (Int.fdiv (IntKind.wrap .u64 (((BitVec.ofInt (IntKind.bits .u64) (IntKind.wrap .u64 (((BitVec.ofInt (IntKind.bits .u64) (Int.fdiv b (2 ^ (min (8:Int).toNat (IntKind.bits .u64))))) &&& (BitVec.ofInt (IntKind.bits .u64) (71777214294589695:Int))).toNat:Int))) ||| (BitVec.ofInt (IntKind.bits .u64) (IntKind.wrap .u64 ((IntKind.wrap .u64 (((BitVec.ofInt (IntKind.bits .u64) b) &&& (BitVec.ofInt (IntKind.bits .u64) (71777214294589695:Int))).toNat:Int)) * 2 ^ (min (8:Int).toNat (IntKind.bits .u64)))))).toNat:Int)) (2 ^ (min (16:Int).toNat (IntKind.bits .u64))))) &&& (BitVec.ofInt (IntKind.bits .u64) (281470681808895:Int))).toNat:Int))) ||| (BitVec.ofInt (IntKind.bits .u64) (IntKind.wrap .u64 ((IntKind.wrap .u64 (((BitVec.ofInt (IntKind.bits .u64) (IntKind.wrap .u64 (((BitVec.ofInt (IntKind.bits .u64) (IntKind.wrap .u64 (((BitVec.ofInt (IntKind.bits .u64) (Int.fdiv b (2 ^ (min (8:Int).toNat (IntKind.bits .u64))))) &&& (BitVec.ofInt (IntKind.bits .u64) (71777214294589695:Int))).toNat:Int))) ||| (BitVec.ofInt (IntKind.bits .u64) (IntKind.wrap .u64 ((IntKind.wrap .u64 (((BitVec.ofInt (IntKind.bits .u64) b) &&& (BitVec.ofInt (IntKind.bits .u64) (71777214294589695:Int))).toNat:Int)) * 2 ^ (min (8:Int).toNat (IntKind.bits .u64)))))).toNat:Int))) &&& (BitVec.ofInt (IntKind.bits .u64) (281470681808895:Int))).toNat:Int)) * 2 ^ (min (16:Int).toNat (IntKind.bits .u64)))))).toNat:Int)) (2 ^ (min (32:Int).toNat (IntKind.bits .u64))))) ||| (BitVec.ofInt (IntKind.bits .u64) (IntKind.wrap .u64 ((IntKind.wrap .u64 (((BitVec.ofInt (IntKind.bits .u64) (IntKind.wrap .u64 (((BitVec.ofInt (IntKind.bits .u64) (Int.fdiv (IntKind.wrap .u64 (((BitVec.ofInt (IntKind.bits .u64) (IntKind.wrap .u64 (((BitVec.ofInt (IntKind.bits .u64) (Int.fdiv b (2 ^ (min (8:Int).toNat (IntKind.bits .u64))))) &&& (BitVec.ofInt (IntKind.bits .u64) (71777214294589695:Int))).toNat:Int))) ||| (BitVec.ofInt (IntKind.bits .u64) (IntKind.wrap .u64 ((IntKind.wrap .u64 (((BitVec.ofInt (IntKind.bits .u64) b) &&& (BitVec.ofInt (IntKind.bits .u64) (71777214294589695:Int))).toNat:Int)) * 2 ^ (min (8:Int).toNat (IntKind.bits .u64)))))).toNat:Int)) (2 ^ (min (16:Int).toNat (IntKind.bits .u64))))) &&& (BitVec.ofInt (IntKind.bits .u64) (281470681808895:Int))).toNat:Int))) ||| (BitVec.ofInt (IntKind.bits .u64) (IntKind.wrap .u64 ((IntKind.wrap .u64 (((BitVec.ofInt (IntKind.bits .u64) (IntKind.wrap .u64 (((BitVec.ofInt (IntKind.bits .u64) (IntKind.wrap .u64 (((BitVec.ofInt (IntKind.bits .u64) (Int.fdiv b (2 ^ (min (8:Int).toNat (IntKind.bits .u64))))) &&& (BitVec.ofInt (IntKind.bits .u64) (71777214294589695:Int))).toNat:Int))) ||| (BitVec.ofInt (IntKind.bits .u64) (IntKind.wrap .u64 ((IntKind.wrap .u64 (((BitVec.ofInt (IntKind.bits .u64) b) &&& (BitVec.ofInt (IntKind.bits .u64) (71777214294589695:Int))).toNat:Int)) * 2 ^ (min (8:Int).toNat (IntKind.bits .u64)))))).toNat:Int))) &&& (BitVec.ofInt (IntKind.bits .u64) (281470681808895:Int))).toNat:Int)) * 2 ^ (min (16:Int).toNat (IntKind.bits .u64)))))).toNat:Int)) * 2 ^ (min (32:Int).toNat (IntKind.bits .u64)))))).toNat:Int))
theorem Zmz(b r:Int)(d:Zhi b=some r):Yp 399 [.one (.lit (.int .u64 b))] (.one (.lit (.int .u64 r))):=by
 refine Yv Tryz.func399 fun S0 w0=>?_;unfold Zhi at d;apply Ya d 8 [rz,rz,rz,rz] [] (mt (mR (8:Int) rfl) (mR (8:Int) rfl) (mR (16:Int) rfl) (mR (16:Int) rfl) (mR (32:Int) rfl) (mR (32:Int) rfl))
def Zjr(b:Int):Option Int:=(Zhi (IntKind.wrap .u64 (((BitVec.ofInt (IntKind.bits .u64) (IntKind.wrap .u64 (((BitVec.ofInt (IntKind.bits .u64) (Int.fdiv (IntKind.wrap .u64 (((BitVec.ofInt (IntKind.bits .u64) (IntKind.wrap .u64 (((BitVec.ofInt (IntKind.bits .u64) (Int.fdiv (IntKind.wrap .u64 (((BitVec.ofInt (IntKind.bits .u64) (IntKind.wrap .u64 (((BitVec.ofInt (IntKind.bits .u64) (Int.fdiv b (2 ^ (min (1:Int).toNat (IntKind.bits .u64))))) &&& (BitVec.ofInt (IntKind.bits .u64) (6148914691236517205:Int))).toNat:Int))) ||| (BitVec.ofInt (IntKind.bits .u64) (IntKind.wrap .u64 ((IntKind.wrap .u64 (((BitVec.ofInt (IntKind.bits .u64) b) &&& (BitVec.ofInt (IntKind.bits .u64) (6148914691236517205:Int))).toNat:Int)) * 2 ^ (min (1:Int).toNat (IntKind.bits .u64)))))).toNat:Int)) (2 ^ (min (2:Int).toNat (IntKind.bits .u64))))) &&& (BitVec.ofInt (IntKind.bits .u64) (3689348814741910323:Int))).toNat:Int))) ||| (BitVec.ofInt (IntKind.bits .u64) (IntKind.wrap .u64 ((IntKind.wrap .u64 (((BitVec.ofInt (IntKind.bits .u64) (IntKind.wrap .u64 (((BitVec.ofInt (IntKind.bits .u64) (IntKind.wrap .u64 (((BitVec.ofInt (IntKind.bits .u64) (Int.fdiv b (2 ^ (min (1:Int).toNat (IntKind.bits .u64))))) &&& (BitVec.ofInt (IntKind.bits .u64) (6148914691236517205:Int))).toNat:Int))) ||| (BitVec.ofInt (IntKind.bits .u64) (IntKind.wrap .u64 ((IntKind.wrap .u64 (((BitVec.ofInt (IntKind.bits .u64) b) &&& (BitVec.ofInt (IntKind.bits .u64) (6148914691236517205:Int))).toNat:Int)) * 2 ^ (min (1:Int).toNat (IntKind.bits .u64)))))).toNat:Int))) &&& (BitVec.ofInt (IntKind.bits .u64) (3689348814741910323:Int))).toNat:Int)) * 2 ^ (min (2:Int).toNat (IntKind.bits .u64)))))).toNat:Int)) (2 ^ (min (4:Int).toNat (IntKind.bits .u64))))) &&& (BitVec.ofInt (IntKind.bits .u64) (1085102592571150095:Int))).toNat:Int))) ||| (BitVec.ofInt (IntKind.bits .u64) (IntKind.wrap .u64 ((IntKind.wrap .u64 (((BitVec.ofInt (IntKind.bits .u64) (IntKind.wrap .u64 (((BitVec.ofInt (IntKind.bits .u64) (IntKind.wrap .u64 (((BitVec.ofInt (IntKind.bits .u64) (Int.fdiv (IntKind.wrap .u64 (((BitVec.ofInt (IntKind.bits .u64) (IntKind.wrap .u64 (((BitVec.ofInt (IntKind.bits .u64) (Int.fdiv b (2 ^ (min (1:Int).toNat (IntKind.bits .u64))))) &&& (BitVec.ofInt (IntKind.bits .u64) (6148914691236517205:Int))).toNat:Int))) ||| (BitVec.ofInt (IntKind.bits .u64) (IntKind.wrap .u64 ((IntKind.wrap .u64 (((BitVec.ofInt (IntKind.bits .u64) b) &&& (BitVec.ofInt (IntKind.bits .u64) (6148914691236517205:Int))).toNat:Int)) * 2 ^ (min (1:Int).toNat (IntKind.bits .u64)))))).toNat:Int)) (2 ^ (min (2:Int).toNat (IntKind.bits .u64))))) &&& (BitVec.ofInt (IntKind.bits .u64) (3689348814741910323:Int))).toNat:Int))) ||| (BitVec.ofInt (IntKind.bits .u64) (IntKind.wrap .u64 ((IntKind.wrap .u64 (((BitVec.ofInt (IntKind.bits .u64) (IntKind.wrap .u64 (((BitVec.ofInt (IntKind.bits .u64) (IntKind.wrap .u64 (((BitVec.ofInt (IntKind.bits .u64) (Int.fdiv b (2 ^ (min (1:Int).toNat (IntKind.bits .u64))))) &&& (BitVec.ofInt (IntKind.bits .u64) (6148914691236517205:Int))).toNat:Int))) ||| (BitVec.ofInt (IntKind.bits .u64) (IntKind.wrap .u64 ((IntKind.wrap .u64 (((BitVec.ofInt (IntKind.bits .u64) b) &&& (BitVec.ofInt (IntKind.bits .u64) (6148914691236517205:Int))).toNat:Int)) * 2 ^ (min (1:Int).toNat (IntKind.bits .u64)))))).toNat:Int))) &&& (BitVec.ofInt (IntKind.bits .u64) (3689348814741910323:Int))).toNat:Int)) * 2 ^ (min (2:Int).toNat (IntKind.bits .u64)))))).toNat:Int))) &&& (BitVec.ofInt (IntKind.bits .u64) (1085102592571150095:Int))).toNat:Int)) * 2 ^ (min (4:Int).toNat (IntKind.bits .u64)))))).toNat:Int))).bind fun d=>some d
theorem ZoP(d r:Int)(b:Zjr d=some r):Yp 378 [.one (.lit (.int .u64 d))] (.one (.lit (.int .u64 r))):=by
 refine Yv Tryz.func378 fun S0 w0=>?_;unfold Zjr at b;obtain⟨e,f,b⟩:=Zad b;apply Ya b 10 [rz,rz,rz,rz,rA [(1,.r (.one (.lit (.int .u64 e))) [])]] [] (mu (mR (1:Int) rfl) (mR (1:Int) rfl) (mR (2:Int) rfl) (mR (2:Int) rfl) (mR (4:Int) rfl) (mR (4:Int) rfl) (Zmz _ _ f))
def ZfG(b:Int):Option Int:=need (0<=(if(64:Int)<(if(0:Int)>b then(0:Int)else b)then(64:Int)else(if(0:Int)>b then(0:Int)else b)))<|(Zjr (IntKind.wrap .u64 ((IntKind.wrap .u64 ((1:Int) * 2 ^ (min (if(64:Int)<(if(0:Int)>b then(0:Int)else b)then(64:Int)else(if(0:Int)>b then(0:Int)else b)).toNat (IntKind.bits .u64))))-(1:Int)))).bind fun d=>some d
theorem ZpZ(d r:Int)(b:ZfG d=some r):Yp 358 [Yj d] (.one (.lit (.int .u64 r))):=by
 refine Yv Tryz.func358 fun S0 w0=>?_;unfold ZfG at b;obtain⟨o1,b⟩:=Zao b;obtain⟨e,f,b⟩:=Zad b;apply Ya b 6 [rz,rz,rA [(3,.r (.one (.lit (.int .u64 e))) [])]] [] (mn o1 (ZoP _ _ f))
def Zlp(d e b:Int):Option (Int×Int):=(ZfG b).bind fun f=>(ZfG (ZaG b (64:Int))).bind fun g=>some ((IntKind.wrap .u64 (((BitVec.ofInt (IntKind.bits .u64) d) &&& (BitVec.ofInt (IntKind.bits .u64) f)).toNat:Int)),(IntKind.wrap .u64 (((BitVec.ofInt (IntKind.bits .u64) e) &&& (BitVec.ofInt (IntKind.bits .u64) g)).toNat:Int)))
theorem ZuX(d e f:Int)(r:(Int×Int))(b:Zlp d e f=some r):Yp 359 [.one (.lit (.int .u64 d)),.one (.lit (.int .u64 e)),Yj f] (.tup [(false,(cI .u64) r.1),(false,(cI .u64) r.2)]):=by
 refine Yv Tryz.func359 fun S0 w0=>?_;unfold Zlp at b;obtain⟨g,h,i,j,b⟩:=Yu b;apply Ya b 4 [rz,rA [(2,.r (.one (.lit (.int .u64 g))) []),(7,.r (.one (.lit (.int .u64 h))) [])]] [] (mn (ZpZ _ _ i) (ZpZ _ _ j))
def ZiM(b:Zah)(d:Int):Option Zah:=(Zfk b).bind fun g=>bif(!g)then some (Zah.mk false 0 0)else(Zex b).bind fun e=>bif(!b.fV6)then(ZfG (if e<(if(0:Int)>d then(0:Int)else d)then e else(if(0:Int)>d then(0:Int)else d))).bind fun h=>some (Zah.mk b.fV6 b.fHi (IntKind.wrap .u64 (((BitVec.ofInt (IntKind.bits .u64) b.fLo) &&& (BitVec.ofInt (IntKind.bits .u64) (Int.fdiv h (2 ^ (min (32:Int).toNat (IntKind.bits .u64)))))).toNat:Int)))else(Zlp b.fHi b.fLo (if e<(if(0:Int)>d then(0:Int)else d)then e else(if(0:Int)>d then(0:Int)else d))).bind fun f=>some (Zah.mk b.fV6 f.1 f.2)
theorem Zsg(g:Zah)(h:Int)(r:Zah)(b:ZiM g h=some r):Yp 324 [.agg (Zah.c g),Yj h] (.agg (Zah.c r)):=by
 refine Yv Tryz.func324 fun S0 w0=>?_;unfold ZiM at b;obtain⟨d,i,b⟩:=Zad b;obtain⟨e,b⟩|⟨e,b⟩:=Zag b
 .apply Ya b 8 [rz,rA [(1,aB d)],rz] [true] (mn (Zcp _ _ i) e)
 .obtain⟨j,p,b⟩:=Zad b;have O1:=(mo (Zcp _ _ i) e (Zja _ _ p));obtain⟨f,b⟩|⟨f,b⟩:=Zag b
  .obtain⟨t,u,b⟩:=Zad b;apply Ya b 17 [rz,rA [(1,aB d)],rA [(3,aI j)],rz,rA [(3,.r (.one (.lit (.int .u64 t))) [])],rz] [false,true] (mE O1 f (ZpZ _ _ u) (mR (32:Int) rfl))
  .obtain⟨o,v,b⟩:=Zad b;apply Ya b 18 [rz,rA [(1,aB d)],rA [(3,aI j)],rz,rA [(5,.r (.tup [(false,(cI .u64) o.1),(false,(cI .u64) o.2)]) [])],rz] [false,false] (mD O1 f (ZuX _ _ _ _ v))
def Zhb(d:Zah)(b:Int):Option (Zae×Bool):=(Zfk d).bind fun e=>bif(!e)then some ((Zae.mk (Zah.mk false 0 0) 0),false)else bif(decide (b<(0:Int)))then some ((Zae.mk (Zah.mk false 0 0) 0),false)else(Zex d).bind fun f=>bif(decide (b>f))then some ((Zae.mk (Zah.mk false 0 0) 0),false)else(ZiM d b).bind fun g=>some ((Zae.mk g b),true)
theorem ZhO(i:Zah)(j:Int)(r:(Zae×Bool))(b:Zhb i j=some r):Yp 259 [.agg (Zah.c i),Yj j] (.tup [(true,Zae.c r.1),(false,cB r.2)]):=by
 refine Yv Tryz.func259 fun S0 w0=>?_;unfold Zhb at b;obtain⟨e,f,b⟩:=Zad b;obtain⟨d,b⟩|⟨d,b⟩:=Zag b
 .apply Ya b 8 [rz,⟨[(1,aB e)],[(3,true)],[],[],[],[],[]⟩,rz] [true] (mo (Zcp _ _ f) d (mP true))
 .obtain⟨g,b⟩|⟨g,b⟩:=Zag b
  .apply Ya b 8 [rz,⟨[(1,aB e)],[(3,false),(7,true)],[],[],[],[],[]⟩,rz] [true] (mq (Zcp _ _ f) d g (mP true))
  .obtain⟨o,p,b⟩:=Zad b
   let R1:List RA:=[rz,⟨[(1,aB e),(10,aI o)],[(3,false),(7,false)],[],[],[],[],[]⟩]
   have O2:=(mq (Zcp _ _ f) d g (Zja _ _ p));obtain⟨h,b⟩|⟨h,b⟩:=Zag b
   .apply Ya b 8 (R1++[rz]) [true] (mC O2 h)
   .obtain⟨t,u,b⟩:=Zad b;apply Ya b 9 (R1++[rA [(2,aG (Zah.c t))]]) [false] (mD O2 h (Zsg _ _ _ u))
def ZhE(b:Zae):Option Bool:=(Zhb b.fAddr b.fBits).bind fun d=>bif d.2 then some (decide (d.1=b))else some false
theorem ZcN(d:Zae)(r:Bool)(b:ZhE d=some r):Yp 220 [.agg (Zae.c d)] (Yk r):=by
 refine Yv Tryz.func220 fun S0 w0=>?_;unfold ZhE at b;obtain⟨e,g,b⟩:=Zad b
 let R1:List RA:=[rz,rA [(4,.r (.tup [(true,Zae.c e.1),(false,cB e.2)]) [])]]
 obtain⟨f,b⟩|⟨f,b⟩:=Zag b
 .apply Ya b 6 (R1++[⟨[(4,aB (decide (e.1=d)))],[(1,true)],[],[],[],[],[]⟩]) [] (mo (ZhO _ _ _ g) f (Zlv e.1 d (.tmp 15) (.tmp 16)))
 .apply Ya b 6 (R1++[rB [(1,false)]]) [] (mn (ZhO _ _ _ g) f)
def ZlQ(b:Int):Option (Int×Int):=bif(b==(4:Int))then some ((0:Int),(1073741824:Int))else bif(b==(5:Int))then some ((1:Int),(5:Int))else bif(b==(6:Int))then some ((1:Int),(1099511627776:Int))else some ((1:Int),(1048576:Int))
theorem Zxv(g:Int)(r:(Int×Int))(b:ZlQ g=some r):Yp 222 [Yj g] (.tup [(false,mi r.1),(false,mi r.2)]):=by
 refine Yv Tryz.func222 fun S0 w0=>?_;unfold ZlQ at b;obtain⟨d,b⟩|⟨d,b⟩:=Zag b
 .apply Ya b 11 [rz,rz,rz,rz] [true] (ml d)
 .obtain⟨e,b⟩|⟨e,b⟩:=Zag b
  .apply Ya b 14 [rz,rz,rz,rz,rz] [false,true] (mn d e)
  .obtain⟨f,b⟩|⟨f,b⟩:=Zag b
   .apply Ya b 17 [rz,rz,rz,rz,rz,rz] [false,false,true] (mo d e f)
   .apply Ya b 19 [rz,rz,rz,rz,rz,rz] [false,false,false] (mo d e f)
def Zmt(b:Zas)(d:Int):Option Bool:=bif(d==(0:Int))then(Zis b.fEnd).bind fun f=>some f else bif(d==(1:Int))then(ZhE b.fNet).bind fun g=>some g else bif(d==(2:Int))then(Zfk b.fEnd.fAddr).bind fun h=>some h else bif(d==(3:Int))then bif(decide (b.fNow>=(0:Int)))then some (decide (b.fNow<=(1099511627776:Int)))else some false else bif(d==(4:Int))then(ZlQ b.fKind).bind fun e=>bif(decide (b.fNum>=e.1))then some (decide (b.fNum<=e.2))else some false else some true
theorem Zww(p:Zas)(t:Int)(r:Bool)(b:Zmt p t=some r):Yp 158 [.agg (Zas.c p),Yj t] (Yk r):=by
 refine Yv Tryz.func158 fun S0 w0=>?_;unfold Zmt at b;obtain⟨d,b⟩|⟨d,b⟩:=Zag b
 .obtain⟨v,y,b⟩:=Zad b;apply Ya b 11 [rz,rz,rz,rA [(2,aB v)]] [true] (mn d (ZgP _ _ y))
 .obtain⟨e,b⟩|⟨e,b⟩:=Zag b
  .obtain⟨z,A,b⟩:=Zad b;apply Ya b 14 [rz,rz,rz,rz,rA [(2,aB z)]] [false,true] (mo d e (ZcN _ _ A))
  .obtain⟨g,b⟩|⟨g,b⟩:=Zag b
   .obtain⟨B,C,b⟩:=Zad b;apply Ya b 17 [rz,rz,rz,rz,rz,rA [(3,aB B)]] [false,false,true] (mq d e g (Zcp _ _ C))
   .obtain⟨h,b⟩|⟨h,b⟩:=Zag b
    .obtain⟨i,b⟩|⟨i,b⟩:=Zag b
     .apply Ya b 20 [rz,rz,rz,rz,rz,rz,rB [(3,true)]] [false,false,false,true] (mr d e g h i)
     .apply Ya b 20 [rz,rz,rz,rz,rz,rz,rB [(3,false)]] [false,false,false,true] (mr d e g h i)
    .obtain⟨j,b⟩|⟨j,b⟩:=Zag b
     .obtain⟨u,o,b⟩:=Zad b
      let R1:List RA:=[rz,rz,rz,rz,rz,rz,rz,rA [(2,.r (.tup [(false,mi u.1),(false,mi u.2)]) [])]]
      have O2:=(mt d e g h j (Zxv _ _ o));obtain⟨f,b⟩|⟨f,b⟩:=Zag b
      .apply Ya b 25 (R1++[rB [(4,true)]]) [false,false,false,false,true] (mC O2 f)
      .apply Ya b 25 (R1++[rB [(4,false)]]) [false,false,false,false,true] (mC O2 f)
     .apply Ya b 25 [rz,rz,rz,rz,rz,rz,rz,rz] [false,false,false,false,false] (mr d e g h j)
def ZeV:Nat->(List Int)->Int->Int->Zas->Option Bool|0,_,_,_,_=>none|fu+1,d,e,b,f=>bif(decide (b<e))then need (0<=b/\b<(d.length:Int))<|(Zmt f (d.getD b.toNat (0:Int))).bind fun g=>bif(!g)then some false else ZeV fu d e (Zaq b 1) f else some true
theorem Ztv:∀(h:Nat)(e:List Int)(f g:Int)(b:Zas)(r:Bool),ZeV h e f g b=some r->Yr 22 S0 w0 Tryz.f84 (Yk r) [1,1,0,1,0] ⟨[(1,.one (.ptr 1 0)),(11,.one (cL 1 mi (0:Int) e)),(12,(Yj f)),(13,(Yj g))],[(1,.box (Zas.c b))]⟩:=by
 intro h;induction h with
 |zero=>
  intro e f g b r d;simp[ZeV]at d
 |succ h p=>
  intro e f g b r d;unfold ZeV at d;obtain⟨i,d⟩|⟨i,d⟩:=Zag d
  .obtain⟨t,d⟩:=Zao d;obtain⟨o,u,d⟩:=Zad d;have O1:=(mo i t (Zww _ _ _ u));obtain⟨j,d⟩|⟨j,d⟩:=Zag d
   .apply Ya d 15 [rz,rz,rA [(2,aB o)],rz] [true,true] (mC O1 j)
   .exact Ye 17 [rz,rz,rA [(2,aB o)],rz] [true,false] (ma [1,11,12,13] [1]) (mC O1 j) (p e f (Zaq g 1) b r d)
  .apply Ya d 8 [rz,rz] [false] (ml i)
def Zmu(b:Zas):Option Bool:=(Zns b.fKind).bind fun e=>bif(e.toList==(⟨#[]⟩ : ByteArray).toList)then some false else(ZkI b.fKind).bind fun d=>ZeV (((d.length:Int)-(0:Int)).toNat+2) d (d.length:Int) (0:Int) b
theorem Zrc(e:Zas)(r:Bool)(b:Zmu e=some r):Yp 84 [.agg (Zas.c e)] (Yk r):=by
 refine Yv Tryz.func84 fun S0 w0=>?_;unfold Zmu at b;obtain⟨h,g,b⟩:=Zad b
 let R2:List RA:=[rz,rA [(2,.r (.one (.lit (.string h))) [])]]
 obtain⟨f,b⟩|⟨f,b⟩:=Zag b
 .apply Ya b 8 (R2++[rz]) [true] (mn (Zsf _ _ g) f)
 .obtain⟨d,i,b⟩:=Zad b;exact Ye 11 (R2++[rA [(2,.r (.one (cL 1 mi (0:Int) d)) [])]]) [false] (ma [1,11,12,13] [1]) (mo (Zsf _ _ g) f (Zwx _ _ i)) (Ztv S0 w0 (((d.length:Int)-(0:Int)).toNat+2) d (d.length:Int) (0:Int) e r b)
def Zic(b:Int):Option Zap:=some (Zap.mk b (Zaj.mk (Zah.mk false 0 0) 0) 0 0 ([]:(List Zaa)))
theorem Zje(b:Int)(r:Zap)(e:Zic b=some r):Yp 85 [Yj b] (.agg (Zap.c r)):=by
 refine Yv Tryz.func85 fun S0 w0=>?_;unfold Zic at e;apply Yb e 4 [rz,rz] [] [] [(2,[(7,cL 10 Zaa.c Zaa.d [])])] [] .n
def ZoM:Option ZaE:=some (ZaE.mk Zat.nil Zat.nil 0)
theorem Zth(r:ZaE)(b:ZoM=some r):Yp 271 [] (.one (ZaE.c r)):=by
 refine Yv Tryz.func271 fun S0 w0=>?_;unfold ZoM at b;apply Yb b 4 [rz,⟨[],[],[],[],[(0,[(0,Zat.c Zat.nil),(1,Zat.c Zat.nil)])],[],[]⟩] [] [2] [] [] .n
def Zhp(b:Zah):Option Int:=bif b.fV6 then some (1:Int)else some (0:Int)
theorem Zfg(e:Zah)(r:Int)(b:Zhp e=some r):Yp 274 [.agg (Zah.c e)] (Yj r):=by
 refine Yv Tryz.func274 fun S0 w0=>?_;unfold Zhp at b;obtain⟨d,b⟩|⟨d,b⟩:=Zag b
 .apply Ya b 8 [rz,rz,rz] [true] (ml d)
 .apply Ya b 9 [rz,rz,rz] [false] (ml d)
def Zin(e:Zah)(b:Int):Option Int:=(Zex e).bind fun d=>bif(decide (b<(0:Int)))then some (0:Int)else bif(decide (b>=d))then some (0:Int)else bif(decide ((ZaG (ZaG d (1:Int)) b)>=(64:Int)))then need (0<=(ZaG (ZaG (ZaG d (1:Int)) b) (64:Int)))<|some (IntKind.wrap .i64 (IntKind.wrap .u64 (((BitVec.ofInt (IntKind.bits .u64) (Int.fdiv e.fHi (2 ^ (min (ZaG (ZaG (ZaG d (1:Int)) b) (64:Int)).toNat (IntKind.bits .u64))))) &&& (BitVec.ofInt (IntKind.bits .u64) (1:Int))).toNat:Int)))else need (0<=(ZaG (ZaG d (1:Int)) b))<|some (IntKind.wrap .i64 (IntKind.wrap .u64 (((BitVec.ofInt (IntKind.bits .u64) (Int.fdiv e.fLo (2 ^ (min (ZaG (ZaG d (1:Int)) b).toNat (IntKind.bits .u64))))) &&& (BitVec.ofInt (IntKind.bits .u64) (1:Int))).toNat:Int)))
theorem Zlt(i:Zah)(j r:Int)(b:Zin i j=some r):Yp 276 [.agg (Zah.c i),Yj j] (Yj r):=by
 refine Yv Tryz.func276 fun S0 w0=>?_;unfold Zin at b;obtain⟨e,f,b⟩:=Zad b;obtain⟨d,b⟩|⟨d,b⟩:=Zag b
 .apply Ya b 10 [rz,rA [(1,aI e)],rB [(2,true)],rz] [true] (mo (Zja _ _ f) d (mP true))
 .obtain⟨g,b⟩|⟨g,b⟩:=Zag b
  .apply Ya b 10 [rz,rA [(1,aI e)],rB [(2,false)],rz] [true] (mo (Zja _ _ f) d g)
  .let R1:List RA:=[rz,rA [(1,aI e)],rB [(2,false)],rz,rz,rz]
   have O2:=(mo (Zja _ _ f) d g);obtain⟨h,b⟩|⟨h,b⟩:=Zag b
   .obtain⟨o,b⟩:=Zao b;apply Ya b 17 R1 [false,true] (mD O2 h o)
   .obtain⟨p,b⟩:=Zao b;apply Ya b 18 R1 [false,false] (mD O2 h p)
def ZiX(b:Zae)(d:Int):Option Int:=(Zin b.fAddr d).bind fun e=>some e
theorem Zdt(d:Zae)(e r:Int)(b:ZiX d e=some r):Yp 329 [.agg (Zae.c d),Yj e] (Yj r):=by
 refine Yv Tryz.func329 fun S0 w0=>?_;unfold ZiX at b;obtain⟨f,g,b⟩:=Zad b;apply Ya b 4 [rz,rA [(3,aI f)]] [] (ml (Zlt _ _ _ g))
def Zdu:Nat->Zat->Zae->Option (Int×Bool)|0,_,_=>none|fu+1,i,d=>(match i with | .nil=>some ((0:Int),false) | .mk b e f g=>bif(decide (b.fNet.fBits<d.fBits))then(ZiX d b.fNet.fBits).bind fun h=>need (0<=h/\h<((2:Nat):Int))<|ix2 h ( Zdu fu f d) ( Zdu fu g d)else bif(!e)then some ((0:Int),false)else bif(!(decide (b.fNet=d)))then some ((0:Int),false)else some (b.fV,true))
theorem Zmi:∀(o:Nat)(g:Zat)(d:Zae)(r:(Int×Bool)),Zdu o g d=some r->Yr 71 S0 w0 Tryz.f272 (.tup [(false,mi r.1),(false,cB r.2)]) [1,1,1,0,0] ⟨[(3,.one (.ptr 3 0)),(6,.one (Zat.c g))],[(3,.box (Zae.c d))]⟩:=by
 intro o;induction o with
 |zero=>
  intro g d r b;simp[Zdu]at b
 |succ o u=>
  intro g d r b;unfold Zdu at b;cases g with
  |nil=>
   dsimp only at b;apply Ya b 12 [rz,rz,rz] [false,true] (mn (mP false) (mP true))
  |mk f v h i=>
   dsimp only at b;obtain⟨j,b⟩|⟨j,b⟩:=Zag b
   .obtain⟨A,y,b⟩:=Zad b;obtain⟨z,b⟩:=Zao b;rcases Zko z b with⟨e,b⟩|⟨e,b⟩
    .subst e;exact Ye 10 [rz,rA [(8,aI (0:Int))]] [true] (ma [3,6] [3]) (mo j (Zdt _ _ _ y) (show 0<=(0:Int)/\(0:Int)<((2:Nat):Int)from(by decide))) (u h d r b)
    .subst e;exact Ye 10 [rz,rA [(8,aI (1:Int))]] [true] (ma [3,6] [3]) (mo j (Zdt _ _ _ y) (show 0<=(1:Int)/\(1:Int)<((2:Nat):Int)from(by decide))) (u i d r b)
   .obtain⟨p,b⟩|⟨p,b⟩:=Zag b
    .apply Ya b 12 [rz,rB [(9,true)],rz] [false,true] (mo j p (mP true))
    .let R1:List RA:=[rz,⟨[(16,aB (!(decide (f.fNet=d))))],[(9,false)],[],[],[],[],[]⟩,rz]
     have O2:=(mo j p (Zta f.fNet d (.tmp 62) (.tmp 63)));obtain⟨t,b⟩|⟨t,b⟩:=Zag b
     .apply Ya b 12 R1 [false,true] (mC O2 t)
     .apply Ya b 13 R1 [false,false] (mC O2 t)
def Zia(h:ZaE)(e:Zae):Option (Int×Bool):=(match h with | .nil=>some ((0:Int),false) | .mk b d g=>(ZhE e).bind fun i=>bif(!i)then some ((0:Int),false)else(Zhp e.fAddr).bind fun f=>need (0<=f/\f<((2:Nat):Int))<|ix2 f ( Zdu 1000000 b e) ( Zdu 1000000 d e))
theorem Zhq(i:ZaE)(g:Zae)(r:(Int×Bool))(b:Zia i g=some r):Yp 272 [.one (ZaE.c i),.agg (Zae.c g)] (.tup [(false,mi r.1),(false,cB r.2)]):=by
 refine Yv Tryz.func272 fun S0 w0=>?_;unfold Zia at b;cases i with
 |nil=>
  dsimp only at b;apply Ya b 8 [rz,rz,rz] [true] (ml (mP true))
 |mk d f p=>
  dsimp only at b;obtain⟨j,o,b⟩:=Zad b;obtain⟨h,b⟩|⟨h,b⟩:=Zag b
  .apply Ya b 8 [rz,rA [(4,aB j)],rz] [true] (mn (ZcN _ _ o) h)
  .obtain⟨v,t,b⟩:=Zad b;obtain⟨u,b⟩:=Zao b;rcases Zko u b with⟨e,b⟩|⟨e,b⟩
   .subst e;exact Ye 11 [rz,rA [(4,aB j)],rA [(3,aI (0:Int))]] [false] (ma [3,6] [3]) (mq (ZcN _ _ o) h (Zfg _ _ t) (show 0<=(0:Int)/\(0:Int)<((2:Nat):Int)from(by decide))) (Zmi S0 w0 1000000 d g r b)
   .subst e;exact Ye 11 [rz,rA [(4,aB j)],rA [(3,aI (1:Int))]] [false] (ma [3,6] [3]) (mq (ZcN _ _ o) h (Zfg _ _ t) (show 0<=(1:Int)/\(1:Int)<((2:Nat):Int)from(by decide))) (Zmi S0 w0 1000000 f g r b)
def Znt(b:Zac)(d:Int):Option Bool:=some (decide (d<b.fUntil))
theorem Zsh(b:Zac)(d:Int)(r:Bool)(e:Znt b d=some r):Yp 243 [.agg (Zac.c b),Yj d] (Yk r):=by
 refine Yv Tryz.func243 fun S0 w0=>?_;unfold Znt at e;apply Ya e 4 [rz,rz] [] .n
def ZeX(b d:Int):Option Int:=bif(decide (b>=(256:Int)))then need (0<=(IntKind.wrap .u8 (Int.fdiv b (2 ^ (min (8:Int).toNat (IntKind.bits .u64)))))/\(IntKind.wrap .u8 (Int.fdiv b (2 ^ (min (8:Int).toNat (IntKind.bits .u64)))))<(((Yx : ByteArray).size:Nat):Int))<|some (Zaq (Zaq d 8) (IntKind.wrap .i64 ((ZlD (Yx : ByteArray) (IntKind.wrap .u8 (Int.fdiv b (2 ^ (min (8:Int).toNat (IntKind.bits .u64))))).toNat:Nat):Int)))else need (0<=(IntKind.wrap .u8 b)/\(IntKind.wrap .u8 b)<(((Yx : ByteArray).size:Nat):Int))<|some (Zaq d (IntKind.wrap .i64 ((ZlD (Yx : ByteArray) (IntKind.wrap .u8 b).toNat:Nat):Int)))
theorem Zle(e f r:Int)(b:ZeX e f=some r):Yr 25 S0 w0 Tryz.f388 (Yj r) [1,1,1] ⟨[(0,.one (.lit (.int .u64 e))),(2,(Yj f))],[]⟩:=by
 unfold ZeX at b;obtain⟨d,b⟩|⟨d,b⟩:=Zag b
 .obtain⟨g,b⟩:=Zao b;apply Ya b 9 [rz,rz,rz,rz] [true] (mo d (mR (8:Int) rfl) g)
 .obtain⟨h,b⟩:=Zao b;apply Ya b 7 [rz,rz] [false] (mn d h)
def ZeY(b d:Int):Option Int:=bif(decide (b>=(65536:Int)))then ZeX (Int.fdiv b (2 ^ (min (16:Int).toNat (IntKind.bits .u64)))) (Zaq d 16)else ZeX b d
theorem Zlf(d e r:Int)(b:ZeY d e=some r):Yr 25 S0 w0 Tryz.f388 (Yj r) [1,1] ⟨[(0,.one (.lit (.int .u64 d))),(2,(Yj e))],[]⟩:=by
 unfold ZeY at b;obtain⟨f,b⟩|⟨f,b⟩:=Zag b
 .exact Ye 7 [rz,rz,rz] [true] (Yi [0,2]) (mn f (mR (16:Int) rfl)) (Zle S0 w0 (Int.fdiv d (2 ^ (min (16:Int).toNat (IntKind.bits .u64)))) (Zaq e 16) r b)
 .exact Ye 5 [rz] [false] (Yi [0,2]) (ml f) (Zle S0 w0 d e r b)
def Zif(b:Int):Option Int:=bif(decide (b>=(4294967296:Int)))then ZeY (Int.fdiv b (2 ^ (min (32:Int).toNat (IntKind.bits .u64)))) (32:Int)else ZeY b (0:Int)
theorem ZrW(d r:Int)(b:Zif d=some r):Yp 388 [.one (.lit (.int .u64 d))] (Yj r):=by
 refine Yv Tryz.func388 fun S0 w0=>?_;unfold Zif at b;obtain⟨e,b⟩|⟨e,b⟩:=Zag b
 .exact Ye 9 [rz,rz,rz,rz] [true] (Yi [0,2]) (mn e (mR (32:Int) rfl)) (Zlf S0 w0 (Int.fdiv d (2 ^ (min (32:Int).toNat (IntKind.bits .u64)))) (32:Int) r b)
 .exact Ye 7 [rz,rz] [false] (Yi [0,2]) (ml e) (Zlf S0 w0 d (0:Int) r b)
def Zdd(b:Int):Option Int:=(Zif b).bind fun d=>some (ZaG (64:Int) d)
theorem ZiT(d r:Int)(b:Zdd d=some r):Yp 389 [.one (.lit (.int .u64 d))] (Yj r):=by
 refine Yv Tryz.func389 fun S0 w0=>?_;unfold Zdd at b;obtain⟨e,f,b⟩:=Zad b;apply Ya b 4 [rz,rA [(1,aI e)]] [] (ml (ZrW _ _ f))
def Zgj(b d:Int)(e:Zae):Option Int:=bif(!e.fAddr.fV6)then(Zex e.fAddr).bind fun f=>some (if b<(ZaG d (ZaG (128:Int) f))then b else(ZaG d (ZaG (128:Int) f)))else some (if b<d then b else d)
theorem Zne(f g:Int)(d:Zae)(r:Int)(b:Zgj f g d=some r):Yr 48 S0 w0 Tryz.f362 (Yj r) [1,1,1,1,1] ⟨[(2,.one (.ptr 2 0)),(5,(Yj f)),(8,(Yj g))],[(2,.box (Zae.c d))]⟩:=by
 unfold Zgj at b;obtain⟨e,b⟩|⟨e,b⟩:=Zag b
 .obtain⟨h,i,b⟩:=Zad b;apply Ya b 7 [rz,rA [(3,aI h)],rz] [true] (mn e (Zja _ _ i))
 .apply Ya b 7 [rz,rz] [false] (ml e)
def ZkS(b d:Zae):Option Int:=(Zdd (IntKind.wrap .u64 (((BitVec.ofInt (IntKind.bits .u64) b.fAddr.fHi) ^^^ (BitVec.ofInt (IntKind.bits .u64) d.fAddr.fHi)).toNat:Int))).bind fun e=>bif((IntKind.wrap .u64 (((BitVec.ofInt (IntKind.bits .u64) b.fAddr.fHi) ^^^ (BitVec.ofInt (IntKind.bits .u64) d.fAddr.fHi)).toNat:Int))==(0:Int))then(Zdd (IntKind.wrap .u64 (((BitVec.ofInt (IntKind.bits .u64) b.fAddr.fLo) ^^^ (BitVec.ofInt (IntKind.bits .u64) d.fAddr.fLo)).toNat:Int))).bind fun f=>Zgj (if d.fBits<b.fBits then d.fBits else b.fBits) (Zaq (64:Int) f) b else Zgj (if d.fBits<b.fBits then d.fBits else b.fBits) e b
theorem Zkp(d e:Zae)(r:Int)(b:ZkS d e=some r):Yp 362 [.agg (Zae.c d),.agg (Zae.c e)] (Yj r):=by
 refine Yv Tryz.func362 fun S0 w0=>?_;unfold ZkS at b;obtain⟨f,i,b⟩:=Zad b;have O1:=(ml (ZiT _ _ i));obtain⟨g,b⟩|⟨g,b⟩:=Zag b
 .obtain⟨h,j,b⟩:=Zad b;exact Ye 13 [rz,rz,rz,rA [(1,aI f)],rz,rA [(1,aI h)]] [true] (ma [2,5,8] [2]) (mD O1 g (ZiT _ _ j)) (Zne S0 w0 (if e.fBits<d.fBits then e.fBits else d.fBits) (Zaq (64:Int) h) d r b)
 .exact Ye 13 [rz,rz,rz,rA [(1,aI f)],rz] [false] (ma [2,5,8] [2]) (mC O1 g) (Zne S0 w0 (if e.fBits<d.fBits then e.fBits else d.fBits) f d r b)
def ZkT(y:Zat)(b:ZjC)(o:Int):Option Zat:=bif(o==b.fhit.fNet.fBits)then(match y with | .nil=>none | .mk d f g h=>(ZiX d.fNet o).bind fun r=>need (0<=r/\r<((2:Nat):Int))<|ix2 r ( some (Zat.mk b.fhit b.fhas (Zat.mk d f g h) b.fkids.2)) ( some (Zat.mk b.fhit b.fhas b.fkids.1 (Zat.mk d f g h))))else(Zhb b.fhit.fNet.fAddr o).bind fun p=>(match y with | .nil=>none | .mk e i j n=>(ZiX e.fNet o).bind fun t=>need (0<=t/\t<((2:Nat):Int))<|ix2 t ( (ZiX b.fhit.fNet o).bind fun u=>need (0<=u/\u<((2:Nat):Int))<|ix2 u ( some (Zat.mk (Zau.mk p.1 0) false (Zat.mk b.fhit b.fhas b.fkids.1 b.fkids.2) Zat.nil)) ( some (Zat.mk (Zau.mk p.1 0) false (Zat.mk e i j n) (Zat.mk b.fhit b.fhas b.fkids.1 b.fkids.2)))) ( (ZiX b.fhit.fNet o).bind fun v=>need (0<=v/\v<((2:Nat):Int))<|ix2 v ( some (Zat.mk (Zau.mk p.1 0) false (Zat.mk b.fhit b.fhas b.fkids.1 b.fkids.2) (Zat.mk e i j n))) ( some (Zat.mk (Zau.mk p.1 0) false Zat.nil (Zat.mk b.fhit b.fhas b.fkids.1 b.fkids.2)))))
theorem Zue(g:Zat)(o:ZjC)(p:Int)(r:Zat)(b:ZkT g o p=some r):Yq 363 [(100000,.box (ZjC.c o))] [.one (Zat.c g),.one (.ptr 100000 0),Yj p] [] (.one (Zat.c r)):=by
 refine Yw Tryz.func363 fun S0 w0=>?_;unfold ZkT at b;obtain⟨f,b⟩|⟨f,b⟩:=Zag b
 .cases g with
  |nil=>
   dsimp only at b;cases b
  |mk t u v y=>
   dsimp only at b;obtain⟨J,z,b⟩:=Zad b;obtain⟨G,b⟩:=Zao b;rcases Zko G b with⟨e,b⟩|⟨e,b⟩
   .subst e;apply Yc b 10 [rz,rz,rA [(7,aI (0:Int))],rz] [true] ⟨[100000],[],[],[],[],[6],[],[]⟩ (mo f (Zdt _ _ _ z) (show 0<=(0:Int)/\(0:Int)<((2:Nat):Int)from(by decide)))
   .subst e;apply Yc b 10 [rz,rz,rA [(7,aI (1:Int))],rz] [true] ⟨[100000],[],[],[],[],[6],[],[]⟩ (mo f (Zdt _ _ _ z) (show 0<=(1:Int)/\(1:Int)<((2:Nat):Int)from(by decide)))
 .obtain⟨d,h,b⟩:=Zad b;cases g with
  |nil=>
   dsimp only at b;cases b
  |mk A B C D=>
   dsimp only at b;obtain⟨L,i,b⟩:=Zad b;obtain⟨H,b⟩:=Zao b;rcases Zko H b with⟨e,b⟩|⟨e,b⟩
   .subst e;obtain⟨M,E,b⟩:=Zad b;obtain⟨I,b⟩:=Zao b;rcases Zko I b with⟨e,b⟩|⟨e,b⟩
    .subst e;apply Yc b 17 [rz,rz,rA [(7,.r (.tup [(true,Zae.c d.1),(false,cB d.2)]) [])],⟨[],[],[],[],[(2,[(6,Zat.c Zat.nil),(7,Zat.c Zat.nil)])],[],[]⟩,rA [(7,aI (0:Int))],rA [(7,aI (0:Int))],rz] [false] ⟨[100000,45],[],[],[],[],[6],[],[]⟩ (mt f (ZhO _ _ _ h) (Zdt _ _ _ i) (show 0<=(0:Int)/\(0:Int)<((2:Nat):Int)from(by decide)) (Zdt _ _ _ E) (show 0<=(0:Int)/\(0:Int)<((2:Nat):Int)from(by decide)))
    .subst e;apply Yc b 17 [rz,rz,rA [(7,.r (.tup [(true,Zae.c d.1),(false,cB d.2)]) [])],⟨[],[],[],[],[(2,[(6,Zat.c Zat.nil),(7,Zat.c Zat.nil)])],[],[]⟩,rA [(7,aI (0:Int))],rA [(7,aI (1:Int))],rz] [false] ⟨[100000,45],[],[],[],[],[6],[],[]⟩ (mt f (ZhO _ _ _ h) (Zdt _ _ _ i) (show 0<=(0:Int)/\(0:Int)<((2:Nat):Int)from(by decide)) (Zdt _ _ _ E) (show 0<=(1:Int)/\(1:Int)<((2:Nat):Int)from(by decide)))
   .subst e;obtain⟨O,F,b⟩:=Zad b;obtain⟨j,b⟩:=Zao b;rcases Zko j b with⟨e,b⟩|⟨e,b⟩
    .subst e;apply Yc b 17 [rz,rz,rA [(7,.r (.tup [(true,Zae.c d.1),(false,cB d.2)]) [])],⟨[],[],[],[],[(2,[(6,Zat.c Zat.nil),(7,Zat.c Zat.nil)])],[],[]⟩,rA [(7,aI (1:Int))],rA [(7,aI (0:Int))],rz] [false] ⟨[100000,45],[],[],[],[],[6],[],[]⟩ (mt f (ZhO _ _ _ h) (Zdt _ _ _ i) (show 0<=(1:Int)/\(1:Int)<((2:Nat):Int)from(by decide)) (Zdt _ _ _ F) (show 0<=(0:Int)/\(0:Int)<((2:Nat):Int)from(by decide)))
    .subst e;apply Yc b 17 [rz,rz,rA [(7,.r (.tup [(true,Zae.c d.1),(false,cB d.2)]) [])],⟨[],[],[],[],[(2,[(6,Zat.c Zat.nil),(7,Zat.c Zat.nil)])],[],[]⟩,rA [(7,aI (1:Int))],rA [(7,aI (1:Int))],rz] [false] ⟨[100000,45],[],[],[],[],[6],[],[]⟩ (mt f (ZhO _ _ _ h) (Zdt _ _ _ i) (show 0<=(1:Int)/\(1:Int)<((2:Nat):Int)from(by decide)) (Zdt _ _ _ F) (show 0<=(1:Int)/\(1:Int)<((2:Nat):Int)from(by decide)))
def Zfx:Nat->Zat->Zau->Option Zat|0,_,_=>none|fu+1,j,g=>(match j with | .nil=>some (Zat.mk g true Zat.nil Zat.nil) | .mk b f d e=>(ZkS b.fNet g.fNet).bind fun h=>bif(decide (h<b.fNet.fBits))then(ZkT (Zat.mk b f d e) (ZjC.mk g true (Zat.nil,Zat.nil)) h).bind fun n=>some n else bif(h==g.fNet.fBits)then some (Zat.mk g true d e)else(ZiX g.fNet h).bind fun i=>need (0<=i/\i<((2:Nat):Int))<|ix2 i ( (Zfx fu d g).bind fun o=>some (Zat.mk b f o e)) ( (Zfx fu e g).bind fun p=>some (Zat.mk b f d p)))
theorem ZlV:∀(g:Nat)(d:Zat)(h:Zau)(r:Zat)(b:Zfx g d h=some r),Yp 330 [.one (Zat.c d),.agg (Zau.c h)] (.one (Zat.c r)):=by
 intro g;induction g with
 |zero=>
  intro d h r b;simp[Zfx]at b
 |succ g p=>
  intro d h r b;refine Yv Tryz.func330 fun S0 w0=>?_;unfold Zfx at b;cases d with
  |nil=>
   dsimp only at b;apply Yb b 8 [rz,rz,⟨[],[],[],[],[(1,[(6,Zat.c Zat.nil),(7,Zat.c Zat.nil)])],[],[]⟩] [true] [12] [] [] (ml (mP true))
  |mk t u v y=>
   dsimp only at b;obtain⟨i,j,b⟩:=Zad b;obtain⟨f,b⟩|⟨f,b⟩:=Zag b
   .obtain⟨A,B,b⟩:=Zad b;apply Ya b 15 [rz,rz,rA [(7,aI i)],rz,⟨[],[],[],[],[(2,[(6,Zat.c Zat.nil),(7,Zat.c Zat.nil)])],[],[(5,⟨[(100000,32)],[],[],.one (Zat.c A)⟩)]⟩] [false,true] (mq (mP false) (Zkp _ _ _ j) f (Zue _ _ _ _ B))
   .obtain⟨o,b⟩|⟨o,b⟩:=Zag b
    .apply Yb b 24 [rz,rz,rA [(7,aI i)],rz,rz,rz,rz,rz] [false,false,true] [6] [] [] (mq (mP false) (Zkp _ _ _ j) f o)
    .obtain⟨H,z,b⟩:=Zad b;obtain⟨C,b⟩:=Zao b;rcases Zko C b with⟨e,b⟩|⟨e,b⟩
     .subst e;obtain⟨D,E,b⟩:=Zad b;apply Yb b 27 [rz,rz,rA [(7,aI i)],rz,rz,rz,rA [(3,aI (0:Int))],rA [(8,.r (.one (Zat.c D)) [])],rz] [false,false,false] [6] [] [] (mw (mP false) (Zkp _ _ _ j) f o (Zdt _ _ _ z) (show 0<=(0:Int)/\(0:Int)<((2:Nat):Int)from(by decide)) (p _ _ _ E) (show 0<=(0:Int)/\(0:Int)<((2:Nat):Int)from(by decide)))
     .subst e;obtain⟨F,G,b⟩:=Zad b;apply Yb b 27 [rz,rz,rA [(7,aI i)],rz,rz,rz,rA [(3,aI (1:Int))],rA [(8,.r (.one (Zat.c F)) [])],rz] [false,false,false] [6] [] [] (mw (mP false) (Zkp _ _ _ j) f o (Zdt _ _ _ z) (show 0<=(1:Int)/\(1:Int)<((2:Nat):Int)from(by decide)) (p _ _ _ G) (show 0<=(1:Int)/\(1:Int)<((2:Nat):Int)from(by decide)))
def Zfy(g:Int)(o:ZaE)(f:Zae):Option ZaE:=(match o with | .nil=>none | .mk b d e=>(ZhE f).bind fun p=>bif(!p)then some (ZaE.mk b d e)else(Zia (ZaE.mk b d e) f).bind fun r=>bif(!r.2)then(Zhp f.fAddr).bind fun h=>need (0<=h/\h<((2:Nat):Int))<|ix2 h ( (Zfx 1000 b (Zau.mk f g)).bind fun t=>some (ZaE.mk t d (Zaq e 1))) ( (Zfx 1000 d (Zau.mk f g)).bind fun u=>some (ZaE.mk b u (Zaq e 1)))else(Zhp f.fAddr).bind fun i=>need (0<=i/\i<((2:Nat):Int))<|ix2 i ( (Zfx 1000 b (Zau.mk f g)).bind fun j=>some (ZaE.mk j d e)) ( (Zfx 1000 d (Zau.mk f g)).bind fun n=>some (ZaE.mk b n e)))
theorem Zlw(B:Int)(t:ZaE)(g:Zae)(r:ZaE)(b:Zfy B t g=some r):Yr 48 S0 w0 Tryz.f273 (.one (ZaE.c r)) [1,1] ⟨[(0,.one (ZaE.c t)),(2,(Yj B)),(4,.one (.ptr 4 0))],[(4,.box (Zae.c g))]⟩:=by
 unfold Zfy at b;cases t with
 |nil=>
  dsimp only at b;cases b
 |mk C D E=>
  dsimp only at b;obtain⟨h,i,b⟩:=Zad b;obtain⟨f,b⟩|⟨f,b⟩:=Zag b
  .apply Yb b 8 [rz,rA [(1,aB h)],rz] [true] [7] [] [] (mn (ZcN _ _ i) f)
  .obtain⟨d,p,b⟩:=Zad b;obtain⟨j,b⟩|⟨j,b⟩:=Zag b
   .obtain⟨M,F,b⟩:=Zad b;obtain⟨G,b⟩:=Zao b;rcases Zko G b with⟨e,b⟩|⟨e,b⟩
    .subst e;obtain⟨H,I,b⟩:=Zad b;apply Yb b 20 [rz,rA [(1,aB h)],rA [(2,.r (.tup [(false,mi d.1),(false,cB d.2)]) [])],rz,rz,rA [(2,aI (0:Int))],rA [(10,.r (.one (Zat.c H)) [])],rz] [false,true] [7] [] [] (mw (ZcN _ _ i) f (Zhq _ _ _ p) j (Zfg _ _ F) (show 0<=(0:Int)/\(0:Int)<((2:Nat):Int)from(by decide)) (ZlV 1000 _ _ _ I) (show 0<=(0:Int)/\(0:Int)<((2:Nat):Int)from(by decide)))
    .subst e;obtain⟨J,L,b⟩:=Zad b;apply Yb b 20 [rz,rA [(1,aB h)],rA [(2,.r (.tup [(false,mi d.1),(false,cB d.2)]) [])],rz,rz,rA [(2,aI (1:Int))],rA [(10,.r (.one (Zat.c J)) [])],rz] [false,true] [7] [] [] (mw (ZcN _ _ i) f (Zhq _ _ _ p) j (Zfg _ _ F) (show 0<=(1:Int)/\(1:Int)<((2:Nat):Int)from(by decide)) (ZlV 1000 _ _ _ L) (show 0<=(1:Int)/\(1:Int)<((2:Nat):Int)from(by decide)))
   .obtain⟨O,o,b⟩:=Zad b;obtain⟨u,b⟩:=Zao b;rcases Zko u b with⟨e,b⟩|⟨e,b⟩
    .subst e;obtain⟨v,y,b⟩:=Zad b;apply Yb b 20 [rz,rA [(1,aB h)],rA [(2,.r (.tup [(false,mi d.1),(false,cB d.2)]) [])],rz,rA [(2,aI (0:Int))],rA [(10,.r (.one (Zat.c v)) [])],rz] [false,false] [7] [] [] (mw (ZcN _ _ i) f (Zhq _ _ _ p) j (Zfg _ _ o) (show 0<=(0:Int)/\(0:Int)<((2:Nat):Int)from(by decide)) (ZlV 1000 _ _ _ y) (show 0<=(0:Int)/\(0:Int)<((2:Nat):Int)from(by decide)))
    .subst e;obtain⟨z,A,b⟩:=Zad b;apply Yb b 20 [rz,rA [(1,aB h)],rA [(2,.r (.tup [(false,mi d.1),(false,cB d.2)]) [])],rz,rA [(2,aI (1:Int))],rA [(10,.r (.one (Zat.c z)) [])],rz] [false,false] [7] [] [] (mw (ZcN _ _ i) f (Zhq _ _ _ p) j (Zfg _ _ o) (show 0<=(1:Int)/\(1:Int)<((2:Nat):Int)from(by decide)) (ZlV 1000 _ _ _ A) (show 0<=(1:Int)/\(1:Int)<((2:Nat):Int)from(by decide)))
def Zfh(h:ZaE)(f:Zae)(g:Int):Option ZaE:=(match h with | .nil=>(ZoM).bind fun i=>Zfy g i f | .mk b d e=>Zfy g (ZaE.mk b d e) f)
theorem Znf(i:ZaE)(g:Zae)(h:Int)(r:ZaE)(b:Zfh i g h=some r):Yp 273 [.one (ZaE.c i),.agg (Zae.c g),Yj h] (.one (ZaE.c r)):=by
 refine Yv Tryz.func273 fun S0 w0=>?_;unfold Zfh at b;cases i with
 |nil=>
  dsimp only at b;obtain⟨j,o,b⟩:=Zad b;exact Ye 7 [rz,rz,rA [(0,.r (.one (ZaE.c j)) [])]] [true] (ma [0,2,4] [4]) (mn (mP true) (Zth _ o)) (Zlw S0 w0 h j g r b)
 |mk d e f=>
  dsimp only at b;exact Ye 7 [rz,rz] [false] (ma [0,2,4] [4]) (ml (mP false)) (Zlw S0 w0 h (ZaE.mk d e f) g r b)
def ZdJ(h:Int):Nat->ZaE->(List Zac)->Int->Int->Option ZaE|0,_,_,_,_=>none|fu+1,g,e,f,b=>bif(decide (b<f))then need (0<=b/\b<(e.length:Int))<|(Zia g ((e.getD b.toNat Zac.d).fNet)).bind fun i=>(Znt (e.getD b.toNat Zac.d) h).bind fun j=>bif j then bif(!i.2)then(Zfh g ((e.getD b.toNat Zac.d).fNet) ((e.getD b.toNat Zac.d).fUntil)).bind fun n=>ZdJ h fu n e f (Zaq b 1)else bif(decide (i.1<(e.getD b.toNat Zac.d).fUntil))then(Zfh g ((e.getD b.toNat Zac.d).fNet) ((e.getD b.toNat Zac.d).fUntil)).bind fun o=>ZdJ h fu o e f (Zaq b 1)else ZdJ h fu g e f (Zaq b 1)else ZdJ h fu g e f (Zaq b 1)else some g
theorem Zty(y:Int):∀(i:Nat)(g:ZaE)(d:List Zac)(e f:Int)(r:ZaE),ZdJ y i g d e f=some r->Yr 45 S0 w0 Tryz.f200 (.one (ZaE.c r)) [1,1,0,1,0] ⟨[(1,(Yj y)),(5,.one (ZaE.c g)),(11,(Yl d)),(12,(Yj e)),(13,(Yj f))],[]⟩:=by
 intro i;induction i with
 |zero=>
  intro g d e f r b;simp[ZdJ]at b
 |succ i j=>
  intro g d e f r b;unfold ZdJ at b;obtain⟨p,b⟩|⟨p,b⟩:=Zag b
  .obtain⟨C,b⟩:=Zao b;obtain⟨z,D,b⟩:=Zad b;obtain⟨t,E,b⟩:=Zad b
   let R1:List RA:=[rz,rz,rA [(3,.r (.tup [(false,mi z.1),(false,cB z.2)]) [])]]
   have O2:=(mq p C (Zhq _ _ _ D) (Zsh _ _ _ E));obtain⟨h,b⟩|⟨h,b⟩:=Zag b
   .obtain⟨o,b⟩|⟨o,b⟩:=Zag b
    .obtain⟨A,F,b⟩:=Zad b;exact Ye 19 (R1++[⟨[(2,aB t)],[(3,true),(6,true)],[],[],[],[],[]⟩,rA [(5,.r (.one (ZaE.c A)) [])],rz]) [true,true] (Yi [1,5,11,12,13]) (mF O2 h o (mP true) (Znf _ _ _ _ F)) (j A d e (Zaq f 1) r b)
    .let R3:List RA:=(R1++[⟨[(2,aB t)],[(3,true),(6,false)],[],[],[],[],[]⟩])
     obtain⟨u,b⟩|⟨u,b⟩:=Zag b
     .obtain⟨B,v,b⟩:=Zad b;exact Ye 19 (R3++[rA [(5,.r (.one (ZaE.c B)) [])],rz]) [true,true] (Yi [1,5,11,12,13]) (mF O2 h o u (Znf _ _ _ _ v)) (j B d e (Zaq f 1) r b)
     .exact Ye 19 (R3++[rz]) [true,false] (Yi [1,5,11,12,13]) (mE O2 h o u) (j g d e (Zaq f 1) r b)
   .exact Ye 19 (R1++[⟨[(2,aB t)],[(3,false)],[],[],[],[],[]⟩,rz]) [true,false] (Yi [1,5,11,12,13]) (mD O2 h (mP false)) (j g d e (Zaq f 1) r b)
  .apply Ya b 8 [rz,rz] [false] (ml p)
def Zmv(b:List Zac)(d:Int):Option ZaE:=(ZoM).bind fun e=>ZdJ d (((b.length:Int)-(0:Int)).toNat+2) e b (b.length:Int) (0:Int)
theorem Zwy(b:List Zac)(e:Int)(r:ZaE)(d:Zmv b e=some r):Yp 200 [Yl b,Yj e] (.one (ZaE.c r)):=by
 refine Yv Tryz.func200 fun S0 w0=>?_;unfold Zmv at d;obtain⟨f,g,d⟩:=Zad d;exact Ye 8 [rz,rA [(0,.r (.one (ZaE.c f)) [])],rz] [] (Yi [1,5,11,12,13]) (ml (Zth _ g)) (Zty S0 w0 e (((b.length:Int)-(0:Int)).toNat+2) f b (b.length:Int) (0:Int) r d)
def Zpk(b:Zae)(d:Zah):Option Bool:=(ZhE b).bind fun e=>bif e then(Zfk d).bind fun f=>bif f then bif(b.fAddr.fV6==d.fV6)then(ZiM d b.fBits).bind fun g=>some (decide (g=b.fAddr))else some false else some false else some false
theorem Zlq(d:Zae)(o:Zah)(r:Bool)(b:Zpk d o=some r):Yp 275 [.agg (Zae.c d),.agg (Zah.c o)] (Yk r):=by
 refine Yv Tryz.func275 fun S0 w0=>?_;unfold Zpk at b;obtain⟨e,p,b⟩:=Zad b;obtain⟨g,b⟩|⟨g,b⟩:=Zag b
 .obtain⟨h,t,b⟩:=Zad b;have O1:=(mo (ZcN _ _ p) g (Zcp _ _ t));obtain⟨f,b⟩|⟨f,b⟩:=Zag b
  .obtain⟨i,b⟩|⟨i,b⟩:=Zag b
   .obtain⟨j,u,b⟩:=Zad b;apply Ya b 4 [rz,⟨[(1,aB e),(4,aB h),(18,aG (Zah.c j)),(21,aB (decide (j=d.fAddr)))],[(2,true),(6,true),(14,true)],[],[],[],[],[]⟩] [] (mF O1 f i (Zsg _ _ _ u) (ZlY j d.fAddr (.tmp 23) (.tmp 25)))
   .apply Ya b 4 [rz,⟨[(1,aB e),(4,aB h)],[(2,true),(6,true),(14,false)],[],[],[],[],[]⟩] [] (mD O1 f i)
  .apply Ya b 4 [rz,⟨[(1,aB e),(4,aB h)],[(2,true),(6,false)],[],[],[],[],[]⟩] [] (mC O1 f)
 .apply Ya b 4 [rz,⟨[(1,aB e)],[(2,false)],[],[],[],[],[]⟩] [] (mn (ZcN _ _ p) g)
def ZbC:Nat->Zat->(List Zau)->Zah->Option (List Zau)|0,_,_,_=>none|fu+1,n,d,g=>(match n with | .nil=>some d | .mk b h e f=>(Zpk b.fNet g).bind fun o=>bif o then bif h then need ((d++([b]:List Zau)).length * 40<=140737488355328/\(d++([b]:List Zau)).length<=maxLen)<|(Zin g b.fNet.fBits).bind fun i=>need (0<=i/\i<((2:Nat):Int))<|ix2 i ( ZbC fu e (d++([b]:List Zau)) g) ( ZbC fu f (d++([b]:List Zau)) g)else(Zin g b.fNet.fBits).bind fun j=>need (0<=j/\j<((2:Nat):Int))<|ix2 j ( ZbC fu e d g) ( ZbC fu f d g)else some d)
theorem ZkU:∀(B:Nat)(u:Zat)(g:List Zau)(h:Zah)(r:List Zau),ZbC B u g h=some r->Ys 57 S0 w0 Tryz.f201 [(me 99999 263 5 Zau.c Zau.d r)] (.one (.osl 99999 r.length)) [1,1,1,1,0,0] ⟨[(3,.one (.ptr 3 0)),(5,.one (.osl 5 g.length)),(6,.one (Zat.c u))],[(me 5 263 5 Zau.c Zau.d g),(3,.box (Zah.c h))]⟩:=by
 intro B;induction B with
 |zero=>
  intro u g h r f;simp[ZbC]at f
 |succ B C=>
  intro u g h r f;unfold ZbC at f;cases u with
  |nil=>
   dsimp only at f;apply Yc f 8 [rz,rz] [false] (md [4] [5] [(5,99999)]) (ml (mP false))
  |mk b G o p=>
   dsimp only at f;obtain⟨v,y,f⟩:=Zad f;obtain⟨t,f⟩|⟨t,f⟩:=Zag f
   .obtain⟨z,f⟩|⟨z,f⟩:=Zag f
    .obtain⟨D,f⟩:=Zao f;obtain⟨I,H,f⟩:=Zad f;obtain⟨E,f⟩:=Zao f;rcases Zko E f with⟨e,f⟩|⟨e,f⟩
     .subst e;exact Ye 15 [rA [(9,aB v)],rz,⟨[(6,.c ((g++([b]:List Zau)).length) (Zam Zau.c Zau.d (g++([b]:List Zau))))],[],[],[],[],[(5,(([b]:List Zau).length,Zam Zau.c Zau.d ([b]:List Zau)))],[]⟩,rA [(8,aI (0:Int))]] [true,true] (md [3,5,6] [42,3] [(42,5)]) (my (Zlq _ _ _ y) t z (mN (e:=Zau.c) Zau.d 5 (fun _=>rfl) ([b]:List Zau)) (Zcq (sz:=5) (e:=Zau.c) (d:=Zau.d) g ([b]:List Zau)) D.1 D.2 (Zlt _ _ _ H) (show 0<=(0:Int)/\(0:Int)<((2:Nat):Int)from(by decide))) (C o (g++([b]:List Zau)) h r f)
     .subst e;exact Ye 15 [rA [(9,aB v)],rz,⟨[(6,.c ((g++([b]:List Zau)).length) (Zam Zau.c Zau.d (g++([b]:List Zau))))],[],[],[],[],[(5,(([b]:List Zau).length,Zam Zau.c Zau.d ([b]:List Zau)))],[]⟩,rA [(8,aI (1:Int))]] [true,true] (md [3,5,6] [42,3] [(42,5)]) (my (Zlq _ _ _ y) t z (mN (e:=Zau.c) Zau.d 5 (fun _=>rfl) ([b]:List Zau)) (Zcq (sz:=5) (e:=Zau.c) (d:=Zau.d) g ([b]:List Zau)) D.1 D.2 (Zlt _ _ _ H) (show 0<=(1:Int)/\(1:Int)<((2:Nat):Int)from(by decide))) (C p (g++([b]:List Zau)) h r f)
    .obtain⟨J,A,f⟩:=Zad f;obtain⟨F,f⟩:=Zao f;rcases Zko F f with⟨e,f⟩|⟨e,f⟩
     .subst e;exact Ye 15 [rA [(9,aB v)],rz,rA [(8,aI (0:Int))]] [true,false] (ma [3,5,6] [5,3]) (mr (Zlq _ _ _ y) t z (Zlt _ _ _ A) (show 0<=(0:Int)/\(0:Int)<((2:Nat):Int)from(by decide))) (C o g h r f)
     .subst e;exact Ye 15 [rA [(9,aB v)],rz,rA [(8,aI (1:Int))]] [true,false] (ma [3,5,6] [5,3]) (mr (Zlq _ _ _ y) t z (Zlt _ _ _ A) (show 0<=(1:Int)/\(1:Int)<((2:Nat):Int)from(by decide))) (C p g h r f)
   .apply Yc f 8 [rA [(9,aB v)],rz] [false] (md [4] [5] [(5,99999)]) (mn (Zlq _ _ _ y) t)
def ZgG(h:ZaE)(e:Zah):Option (List Zau):=(match h with | .nil=>some ([]:List Zau) | .mk b d g=>(Zfk e).bind fun i=>bif(!i)then some ([]:List Zau)else(Zhp e).bind fun f=>need (0<=f/\f<((2:Nat):Int))<|ix2 f ( ZbC 1000000 b ([]) e) ( ZbC 1000000 d ([]) e))
theorem ZqJ(j:ZaE)(h:Zah)(r:List Zau)(b:ZgG j h=some r):Yq 201 [] [.one (ZaE.c j),.agg (Zah.c h)] [(me 99999 263 5 Zau.c Zau.d r)] (.one (.osl 99999 r.length)):=by
 refine Yw Tryz.func201 fun S0 w0=>?_;unfold ZgG at b;cases j with
 |nil=>
  dsimp only at b;apply Yc b 8 [rz,rz,rz] [true] ⟨[],[],[],[],[(4,99999,263,5,Zam Zau.c Zau.d [])],[4],[99999],[]⟩ (ml (mP true))
 |mk f g t=>
  dsimp only at b;obtain⟨o,p,b⟩:=Zad b;obtain⟨i,b⟩|⟨i,b⟩:=Zag b
  .apply Yc b 8 [rz,rA [(4,aB o)],rz] [true] ⟨[],[],[],[],[(4,99999,263,5,Zam Zau.c Zau.d [])],[4],[99999],[]⟩ (mn (Zcp _ _ p) i)
  .obtain⟨y,u,b⟩:=Zad b;obtain⟨v,b⟩:=Zao b;rcases Zko v b with⟨e,b⟩|⟨e,b⟩
   .subst e;exact Ye 13 [rz,rA [(4,aB o)],rz,rA [(2,aI (0:Int))]] [false] ⟨[],[],[],[],[(5,5,263,5,Zam Zau.c Zau.d [])],[3,5,6],[5,3],[]⟩ (mq (Zcp _ _ p) i (Zfg _ _ u) (show 0<=(0:Int)/\(0:Int)<((2:Nat):Int)from(by decide))) (ZkU S0 w0 1000000 f ([]) h r b)
   .subst e;exact Ye 13 [rz,rA [(4,aB o)],rz,rA [(2,aI (1:Int))]] [false] ⟨[],[],[],[],[(5,5,263,5,Zam Zau.c Zau.d [])],[3,5,6],[5,3],[]⟩ (mq (Zcp _ _ p) i (Zfg _ _ u) (show 0<=(1:Int)/\(1:Int)<((2:Nat):Int)from(by decide))) (ZkU S0 w0 1000000 g ([]) h r b)
theorem ZrS(b:ZaE)(e:Zah)(r:List Zau)(f:ZgG b e=some r):Yp 201 [.one (ZaE.c b),.agg (Zah.c e)] (.one (cL 5 Zau.c Zau.d r)):=(ZqJ b e r f).pure
def Zhc:Nat->Int->(List Zau)->Int->Int->Option Int|0,_,_,_,_=>none|fu+1,g,e,f,b=>bif(decide (b<f))then need (0<=b/\b<(e.length:Int))<|Zhc fu (if(e.getD b.toNat Zau.d).fV>g then(e.getD b.toNat Zau.d).fV else g) e f (Zaq b 1)else some g
theorem Ztz:∀(i:Nat)(h:Int)(b:List Zau)(f e r:Int),Zhc i h b f e=some r->Yr 35 S0 w0 Tryz.f128 (Yj r) [1,1,1,1,0,1,0] ⟨[(8,(Yj h)),(23,.one (cL 5 Zau.c Zau.d b)),(24,(Yj f)),(25,(Yj e))],[]⟩:=by
 intro i;induction i with
 |zero=>
  intro h b f e r g;simp[Zhc]at g
 |succ i o=>
  intro h b f e r g;unfold Zhc at g;obtain⟨j,g⟩|⟨j,g⟩:=Zag g
  .obtain⟨p,g⟩:=Zao g;exact Ye 14 [rz,rz,rz,rz] [true] (Yi [8,23,24,25]) (mn j p) (o (if(b.getD e.toNat Zau.d).fV>h then(b.getD e.toNat Zau.d).fV else h) b f (Zaq e 1) r g)
  .apply Ya g 8 [rz,rz] [false] (ml j)
def Zit(e:List Zac)(f:Zah)(g:Int):Option Int:=(Zmv e g).bind fun h=>(ZgG h f).bind fun b=>bif((b.length:Int)==(0:Int))then some (0:Int)else need (0<=(0:Int)/\(0:Int)<(b.length:Int))<|Zhc (((b.length:Int)-(0:Int)).toNat+2) ((b.getD (0:Int).toNat Zau.d).fV) b (b.length:Int) (0:Int)
theorem Zrg(g:List Zac)(h:Zah)(i r:Int)(b:Zit g h i=some r):Yp 128 [Yl g,.agg (Zah.c h),Yj i] (Yj r):=by
 refine Yv Tryz.func128 fun S0 w0=>?_;unfold Zit at b;obtain⟨j,o,b⟩:=Zad b;obtain⟨e,p,b⟩:=Zad b
 let R1:List RA:=[rz,rA [(2,.r (.one (ZaE.c j)) []),(4,.r (.one (cL 5 Zau.c Zau.d e)) [])],rz,rz]
 have O2:=(mn (Zwy _ _ _ o) (ZrS _ _ _ p));obtain⟨f,b⟩|⟨f,b⟩:=Zag b
 .apply Ya b 10 R1 [true] (mC O2 f)
 .obtain⟨t,b⟩:=Zao b;exact Ye 15 (R1++[rz]) [false] (Yi [8,23,24,25]) (mD O2 f t) (Ztz S0 w0 (((e.length:Int)-(0:Int)).toNat+2) ((e.getD (0:Int).toNat Zau.d).fV) e (e.length:Int) (0:Int) r b)
def Zjg(b:ZaK):Option (Int×ZaK):=(Zit b.fs.fBans b.fx.fEnd.fAddr b.fx.fNow).bind fun d=>some (d,b)
theorem Zjc(d:ZaK)(r:(Int×ZaK))(b:Zjg d=some r):Yq 166 [(100000,.box (ZaK.c d))] [.one (.ptr 100000 0)] [(100000,.box (ZaK.c r.2))] (Yj r.1):=by
 refine Yw Tryz.func166 fun S0 w0=>?_;unfold Zjg at b;obtain⟨e,f,b⟩:=Zad b;obtain rfl:=oi b;exact Yd 4 [rz,rA [(16,aI e)]] [] (ma [2] [100000]) (ml (Zrg _ _ _ _ f))
def Zoe(b:Zaa)(c0:Zaj):Option Bool:=some (decide (b.fEnd=c0))
theorem Zuf(b:Zaa)(c0:Zaj)(r:Bool)(d:Zoe b c0=some r):Yp 281 [.agg (Zaa.c b),.one (.rp false 4 (fun j=>(Zaj.c c0:List C).getD (0+j) .junk))] (Yk r):=by
 refine Yv Tryz.func281 fun S0 w0=>?_;unfold Zoe at d;apply Ya d 4 [rz,rA [(3,aB (decide (b.fEnd=c0)))]] [] (ml (ZhG b.fEnd c0 (.tmp 5) (.tmp 6)))
def ZbJ(f:List Zaa)(b:Zaj):Nat->Int->Int->Option Int|0,_,_=>none|fu+1,g,e=>bif(decide (e<g))then need (0<=e/\e<(f.length:Int))<|(Zoe (f.getD e.toNat Zaa.d) b).bind fun h=>bif h then some e else ZbJ f b fu g (Zaq e 1)else some (-1:Int)
theorem ZhT(p:List Zaa)(d:Zaj):∀(g:Nat)(e f r:Int),ZbJ p d g e f=some r->Yr 19 S0 w0 Tryz.f280 (Yj r) [1,0,1,0] ⟨[(0,(Ym p)),(1,.one (mg 281 0 1 [] [.rp false 4 (fun j=>(Zaj.c d:List C).getD (0+j) .junk)])),(7,(Yj e)),(8,(Yj f))],[]⟩:=by
 intro g;induction g with
 |zero=>
  intro e f r b;simp[ZbJ]at b
 |succ g u=>
  intro e f r b;unfold ZbJ at b;obtain⟨h,b⟩|⟨h,b⟩:=Zag b
  .obtain⟨v,b⟩:=Zao b;obtain⟨t,y,b⟩:=Zad b;have O1:=(mo h v (Zuf _ _ _ y));obtain⟨o,b⟩|⟨o,b⟩:=Zag b
   .apply Ya b 15 [rz,rz,rA [(5,aB t)],rz] [true,true] (mC O1 o)
   .exact Ye 17 [rz,rz,rA [(5,aB t)],rz] [true,false] (Yi [0,1,7,8]) (mC O1 o) (u e (Zaq f 1) r b)
  .apply Ya b 8 [rz,rz] [false] (ml h)
def Zdz(d:List Zaa)(b:Zaj):Option Int:=ZbJ d b (((d.length:Int)-(0:Int)).toNat+2) (d.length:Int) (0:Int)
theorem ZiB(d:List Zaa)(b:Zaj)(r:Int)(e:Zdz d b=some r):Yp 280 [Ym d,.one (mg 281 0 1 [] [.rp false 4 (fun j=>(Zaj.c b:List C).getD (0+j) .junk)])] (Yj r):=by
 refine Yv Tryz.func280 fun S0 w0=>?_;unfold Zdz at e;exact Ye 6 [rz,rz] [] (Yi [0,1,7,8]) .n (ZhT S0 w0 d b (((d.length:Int)-(0:Int)).toNat+2) (d.length:Int) (0:Int) r e)
def Zmj(b:List Zaa)(d:Zaj):Option Int:=(Zdz b d).bind fun e=>some e
theorem ZkV(d:List Zaa)(e:Zaj)(r:Int)(b:Zmj d e=some r):Yp 204 [Ym d,.agg (Zaj.c e)] (Yj r):=by
 refine Yv Tryz.func204 fun S0 w0=>?_;unfold Zmj at b;obtain⟨f,g,b⟩:=Zad b;apply Ya b 4 [rz,⟨[(2,aI f)],[],[(1,[3])],[],[],[],[]⟩] [] (ml (ZiB _ _ _ g))
def Zet(f:Bool):Nat->Int->(List Zaa)->Int->Int->Option Int|0,_,_,_,_=>none|fu+1,g,e,h,b=>bif(decide (b<h))then need (0<=b/\b<(e.length:Int))<|bif((e.getD b.toNat Zaa.d).fIn==f)then Zet f fu (Zaq g 1) e h (Zaq b 1)else Zet f fu g e h (Zaq b 1)else some g
theorem Zsq(o:Bool):∀(h:Nat)(e:Int)(f:List Zaa)(g d r:Int),Zet o h e f g d=some r->Yr 22 S0 w0 Tryz.f91 (Yj r) [1,1,0,1,0] ⟨[(1,(Yk o)),(5,(Yj e)),(8,(Ym f)),(9,(Yj g)),(10,(Yj d))],[]⟩:=by
 intro h;induction h with
 |zero=>
  intro e f g d r b;simp[Zet]at b
 |succ h p=>
  intro e f g d r b;unfold Zet at b;obtain⟨i,b⟩|⟨i,b⟩:=Zag b
  .obtain⟨t,b⟩:=Zao b;obtain⟨j,b⟩|⟨j,b⟩:=Zag b
   .exact Ye 17 [rz,rz,rz,rz,rz] [true,true] (Yi [1,5,8,9,10]) (mo i t j) (p (Zaq e 1) f g (Zaq d 1) r b)
   .exact Ye 17 [rz,rz,rz,rz] [true,false] (Yi [1,5,8,9,10]) (mo i t j) (p e f g (Zaq d 1) r b)
  .apply Ya b 8 [rz,rz] [false] (ml i)
def Zhr(b:List Zaa)(d:Bool):Option Int:=Zet d (((b.length:Int)-(0:Int)).toNat+2) (0:Int) b (b.length:Int) (0:Int)
theorem ZiR(b:List Zaa)(d:Bool)(r:Int)(e:Zhr b d=some r):Yp 91 [Ym b,Yk d] (Yj r):=by
 refine Yv Tryz.func91 fun S0 w0=>?_;unfold Zhr at e;exact Ye 8 [rz,rz,rz] [] (Yi [1,5,8,9,10]) .n (Zsq S0 w0 d (((b.length:Int)-(0:Int)).toNat+2) (0:Int) b (b.length:Int) (0:Int) r e)
def Zez(b:Int):Option Int:=some (if(1099511627776:Int)<(if(0:Int)>b then(0:Int)else b)then(1099511627776:Int)else(if(0:Int)>b then(0:Int)else b))
theorem ZuH(b r:Int)(d:Zez b=some r):Yp 190 [Yj b] (Yj r):=by
 refine Yv Tryz.func190 fun S0 w0=>?_;unfold Zez at d;apply Ya d 4 [rz,rz] [] .n
def Zul(d:Zaj)(e:Bool)(f:Int):Option Zaa:=(Zez f).bind fun b=>some (Zaa.mk d e b (Zay.mk 0 b) 0 0)
theorem Zzn(d:Zaj)(e:Bool)(f:Int)(r:Zaa)(b:Zul d e f=some r):Yp 283 [.agg (Zaj.c d),Yk e,Yj f] (.agg (Zaa.c r)):=by
 refine Yv Tryz.func283 fun S0 w0=>?_;unfold Zul at b;obtain⟨g,h,b⟩:=Zad b;apply Ya b 6 [rz,rA [(1,aI g)],rz] [] (ml (ZuH _ _ h))
def ZiC(b d:Int):Option Bool:=bif(decide (b>=(0:Int)))then some (decide (b<=d))else some false
theorem Zgk(e f:Int)(r:Bool)(b:ZiC e f=some r):Yp 251 [Yj e,Yj f] (Yk r):=by
 refine Yv Tryz.func251 fun S0 w0=>?_;unfold ZiC at b;obtain⟨d,b⟩|⟨d,b⟩:=Zag b
 .apply Ya b 4 [rz,rB [(2,true)]] [] (ml d)
 .apply Ya b 4 [rz,rB [(2,false)]] [] (ml d)
def ZnW(b:Zaa):Option Bool:=(Zis b.fEnd).bind fun d=>bif d then(ZiC b.fSince (1099511627776:Int)).bind fun e=>bif e then(ZiC b.fScore.fAt (1099511627776:Int)).bind fun f=>bif f then(ZiC b.fWork (1099511627776:Int)).bind fun g=>bif g then(ZiC b.fScore.fPoints (1099511627776:Int)).bind fun h=>bif h then(ZiC b.fPing (1048576:Int)).bind fun i=>some i else some false else some false else some false else some false else some false
theorem Znj(u:Zaa)(r:Bool)(b:ZnW u=some r):Yp 176 [.agg (Zaa.c u)] (Yk r):=by
 refine Yv Tryz.func176 fun S0 w0=>?_;unfold ZnW at b;obtain⟨e,v,b⟩:=Zad b;obtain⟨j,b⟩|⟨j,b⟩:=Zag b
 .obtain⟨f,B,b⟩:=Zad b;have O1:=(mo (ZgP _ _ v) j (Zgk _ _ _ B));obtain⟨g,b⟩|⟨g,b⟩:=Zag b
  .obtain⟨h,y,b⟩:=Zad b;obtain⟨o,b⟩|⟨o,b⟩:=Zag b
   .obtain⟨p,C,b⟩:=Zad b;have O2:=(mF O1 g (Zgk _ _ _ y) o (Zgk _ _ _ C));obtain⟨i,b⟩|⟨i,b⟩:=Zag b
    .obtain⟨z,A,b⟩:=Zad b;obtain⟨d,b⟩|⟨d,b⟩:=Zag b
     .obtain⟨D,t,b⟩:=Zad b;apply Ya b 4 [rz,⟨[(2,aB e),(6,aB f),(12,aB h),(17,aB p),(23,aB z),(28,aB D)],[(3,true),(8,true),(14,true),(19,true),(25,true)],[],[],[],[],[]⟩] [] (mF O2 i (Zgk _ _ _ A) d (Zgk _ _ _ t))
     .apply Ya b 4 [rz,⟨[(2,aB e),(6,aB f),(12,aB h),(17,aB p),(23,aB z)],[(3,true),(8,true),(14,true),(19,true),(25,false)],[],[],[],[],[]⟩] [] (mE O2 i (Zgk _ _ _ A) d)
    .apply Ya b 4 [rz,⟨[(2,aB e),(6,aB f),(12,aB h),(17,aB p)],[(3,true),(8,true),(14,true),(19,false)],[],[],[],[],[]⟩] [] (mC O2 i)
   .apply Ya b 4 [rz,⟨[(2,aB e),(6,aB f),(12,aB h)],[(3,true),(8,true),(14,false)],[],[],[],[],[]⟩] [] (mE O1 g (Zgk _ _ _ y) o)
  .apply Ya b 4 [rz,⟨[(2,aB e),(6,aB f)],[(3,true),(8,false)],[],[],[],[],[]⟩] [] (mC O1 g)
 .apply Ya b 4 [rz,⟨[(2,aB e)],[(3,false)],[],[],[],[],[]⟩] [] (mn (ZgP _ _ v) j)
def ZjO(b:Zah):Option Int:=bif b.fV6 then some (1:Int)else some (0:Int)
theorem Zqf(e:Zah)(r:Int)(b:ZjO e=some r):Yp 318 [.agg (Zah.c e)] (Yj r):=by
 refine Yv Tryz.func318 fun S0 w0=>?_;unfold ZjO at b;obtain⟨d,b⟩|⟨d,b⟩:=Zag b
 .apply Ya b 8 [rz,rz,rz] [true] (ml d)
 .apply Ya b 9 [rz,rz,rz] [false] (ml d)
def Zjy(b:Int):Option Bool:=some (b != b)
theorem ZnY(b:Int)(r:Bool)(d:Zjy b=some r):Yp 258 [Yj b] (Yk r):=by
 refine Yv Tryz.func258 fun S0 w0=>?_;unfold Zjy at d;apply Ya d 4 [rz,rz] [] .n
def Zci(b d:Int):Option Int:=(Zjy b).bind fun f=>(Zjy d).bind fun e=>bif f then bif e then some (0:Int)else some (-1:Int)else bif e then some (1:Int)else bif(decide (b<d))then some (-1:Int)else bif(decide (b>d))then some (1:Int)else some (0:Int)
theorem ZcT(i j r:Int)(b:Zci i j=some r):Yp 185 [Yj i,Yj j] (Yj r):=by
 refine Yv Tryz.func185 fun S0 w0=>?_;unfold Zci at b;obtain⟨o,p,b⟩:=Zad b;obtain⟨t,u,b⟩:=Zad b
 let R1:List RA:=[rz,rA [(1,aB o)],rA [(1,aB t)],rz,rz,rz]
 have O2:=(mn (ZnY _ _ p) (ZnY _ _ u));obtain⟨d,b⟩|⟨d,b⟩:=Zag b
 .obtain⟨g,b⟩|⟨g,b⟩:=Zag b
  .apply Ya b 16 R1 [true,true] (mD O2 d g)
  .apply Ya b 17 R1 [true,false] (mD O2 d g)
 .obtain⟨e,b⟩|⟨e,b⟩:=Zag b
  .apply Ya b 17 R1 [false,true] (mD O2 d e)
  .obtain⟨f,b⟩|⟨f,b⟩:=Zag b
   .apply Ya b 22 (R1++[rz]) [false,false,true] (mE O2 d e f)
   .obtain⟨h,b⟩|⟨h,b⟩:=Zag b
    .apply Ya b 27 (R1++[rz,rz]) [false,false,false,true] (mF O2 d e f h)
    .apply Ya b 28 (R1++[rz,rz]) [false,false,false,false] (mF O2 d e f h)
def ZhD(b:Int):Option Bool:=some (b != b)
theorem Zms(b:Int)(r:Bool)(d:ZhD b=some r):Yp 355 [.one (.lit (.int .u64 b))] (Yk r):=by
 refine Yv Tryz.func355 fun S0 w0=>?_;unfold ZhD at d;apply Ya d 4 [rz,rz] [] .n
def ZdZ(b d:Int):Option Int:=(ZhD b).bind fun f=>(ZhD d).bind fun e=>bif f then bif e then some (0:Int)else some (-1:Int)else bif e then some (1:Int)else bif(decide (b<d))then some (-1:Int)else bif(decide (b>d))then some (1:Int)else some (0:Int)
theorem ZiL(i j r:Int)(b:ZdZ i j=some r):Yp 319 [.one (.lit (.int .u64 i)),.one (.lit (.int .u64 j))] (Yj r):=by
 refine Yv Tryz.func319 fun S0 w0=>?_;unfold ZdZ at b;obtain⟨o,p,b⟩:=Zad b;obtain⟨t,u,b⟩:=Zad b
 let R1:List RA:=[rz,rA [(1,aB o)],rA [(1,aB t)],rz,rz,rz]
 have O2:=(mn (Zms _ _ p) (Zms _ _ u));obtain⟨d,b⟩|⟨d,b⟩:=Zag b
 .obtain⟨g,b⟩|⟨g,b⟩:=Zag b
  .apply Ya b 16 R1 [true,true] (mD O2 d g)
  .apply Ya b 17 R1 [true,false] (mD O2 d g)
 .obtain⟨e,b⟩|⟨e,b⟩:=Zag b
  .apply Ya b 17 R1 [false,true] (mD O2 d e)
  .obtain⟨f,b⟩|⟨f,b⟩:=Zag b
   .apply Ya b 22 (R1++[rz]) [false,false,true] (mE O2 d e f)
   .obtain⟨h,b⟩|⟨h,b⟩:=Zag b
    .apply Ya b 27 (R1++[rz,rz]) [false,false,false,true] (mF O2 d e f h)
    .apply Ya b 28 (R1++[rz,rz]) [false,false,false,false] (mF O2 d e f h)
def Zha:Nat->Int->(List Int)->Int->Int->Option Int|0,_,_,_,_=>none|fu+1,e,d,f,b=>bif(decide (b<f))then need (0<=b/\b<(d.length:Int))<|bif((d.getD b.toNat (0:Int)) != e)then some (d.getD b.toNat (0:Int))else Zha fu e d f (Zaq b 1)else some e
theorem Ztu:∀(h:Nat)(d:Int)(e:List Int)(f g r:Int),Zha h d e f g=some r->Yr 18 S0 w0 Tryz.f184 (Yj r) [1,1,0,1,0] ⟨[(3,(Yj d)),(6,.one (cL 1 mi (0:Int) e)),(7,(Yj f)),(8,(Yj g))],[]⟩:=by
 intro h;induction h with
 |zero=>
  intro d e f g r b;simp[Zha]at b
 |succ h p=>
  intro d e f g r b;unfold Zha at b;obtain⟨i,b⟩|⟨i,b⟩:=Zag b
  .obtain⟨o,b⟩:=Zao b;obtain⟨j,b⟩|⟨j,b⟩:=Zag b
   .apply Ya b 15 [rz,rz,rz,rz] [true,true] (mo i o j)
   .exact Ye 17 [rz,rz,rz,rz] [true,false] (Yi [3,6,7,8]) (mo i o j) (p d e f (Zaq g 1) r b)
  .apply Ya b 8 [rz,rz] [false] (ml i)
def ZeF(b:List Int):Option Int:=Zha (((b.length:Int)-(0:Int)).toNat+2) (0:Int) b (b.length:Int) (0:Int)
theorem ZgZ(b:List Int)(r:Int)(d:ZeF b=some r):Yp 184 [.one (cL 1 mi (0:Int) b)] (Yj r):=by
 refine Yv Tryz.func184 fun S0 w0=>?_;unfold ZeF at d;exact Ye 8 [rz,rz,rz] [] (Yi [3,6,7,8]) .n (Ztu S0 w0 (((b.length:Int)-(0:Int)).toNat+2) (0:Int) b (b.length:Int) (0:Int) r d)
def ZiZ(b d:Zah):Option Int:=(ZjO b).bind fun e=>(ZjO d).bind fun f=>(Zci e f).bind fun g=>(ZdZ b.fHi d.fHi).bind fun h=>(ZdZ b.fLo d.fLo).bind fun i=>(ZeF ([g,h,i]:List Int)).bind fun j=>some j
theorem Zpn(o p:Zah)(r:Int)(b:ZiZ o p=some r):Yp 250 [.agg (Zah.c o),.agg (Zah.c p)] (Yj r):=by
 refine Yv Tryz.func250 fun S0 w0=>?_;unfold ZiZ at b;obtain⟨t,u,v,y,b⟩:=Yu b;obtain⟨f,g,z,A,b⟩:=Yu b;obtain⟨h,B,C,D,b⟩:=Yu b;apply Ya b 4 [rz,⟨[(1,aI t),(3,aI u),(4,aI f),(9,aI g),(14,aI h),(16,aI B)],[],[],[],[],[(15,(([f,g,h]:List Int).length,Zam mi (0:Int) ([f,g,h]:List Int)))],[]⟩] [] (mu (Zqf _ _ v) (Zqf _ _ y) (ZcT _ _ _ z) (ZiL _ _ _ A) (ZiL _ _ _ C) (mN (e:=mi) (0:Int) 1 (fun _=>rfl) ([f,g,h]:List Int)) (ZgZ _ _ D))
def famA(a:Zah):Int:=if a.fV6 then 1 else 0
def cmpA(a b:Zah):Int:=orI (cmpI (famA a) (famA b)) (orI (cmpI a.fHi b.fHi) (cmpI a.fLo b.fLo))
theorem ZsK(a b:Int):Zci a b=some (cmpI a b):=by
 simp only[Zci,Zjy,cmpI,bne_self_eq_false,Option.bind_some,cond_false];by_cases d:a<b<;>by_cases e:a>b<;>simp[d,e]<;>omega
theorem ZIm(a b:Int):ZdZ a b=some (cmpI a b):=by
 simp only[ZdZ,ZhD,cmpI,bne_self_eq_false,Option.bind_some,cond_false];by_cases d:a<b<;>by_cases e:a>b<;>simp[d,e]<;>omega
theorem or2(a b:Int):ZeF [a,b]=some (orI a b):=by
 unfold ZeF orI;simp only[List.length_cons,List.length_nil];rw[show (((0+1+1:Nat):Int)-0).toNat+2=4 from rfl];simp only[Zha,show Zaq 0 1=1 from rfl,show Zaq 1 1=2 from rfl];simp only[Bool.cond_eq_ite,bne_iff_ne,ne_eq,ite_not,need];by_cases d:a=0<;>by_cases e:b=0<;>simp[d,e]
theorem or3(a b c:Int):ZeF [a,b,c]=some (orI a (orI b c)):=by
 unfold ZeF orI;simp only[List.length_cons,List.length_nil];rw[show (((0+1+1+1:Nat):Int)-0).toNat+2=5 from rfl];simp only[Zha,show Zaq 0 1=1 from rfl,show Zaq 1 1=2 from rfl,show Zaq 2 1=3 from rfl];simp only[Bool.cond_eq_ite,bne_iff_ne,ne_eq,ite_not,need];by_cases d:a=0<;>by_cases e:b=0<;>by_cases f:c=0<;>simp[d,e,f]
theorem ZEw(a b:Zah):ZiZ a b=some (cmpA a b):=by
 have d:∀c,ZjO c=some (famA c):=fun c=>by unfold ZjO famA;cases c.fV6<;>rfl
 simp only[ZiZ,d,ZsK,ZIm,or3,Option.bind_some,cmpA]
theorem ZxV{a b:Int}:orI a b<0↔a<0\/(a=0/\b<0):=by unfold orI;constructor<;>intro h<;>(repeat' split at *)<;>omega
theorem ZxW{a b:Int}:0<orI a b↔0<a\/(a=0/\0<b):=by unfold orI;constructor<;>intro h<;>(repeat' split at *)<;>omega
theorem Zvm{a b:Int}:orI a b=0↔a=0/\b=0:=by unfold orI;constructor<;>intro h<;>(repeat' split at *)<;>omega
theorem ZLf{a b:Zah}:famA a=famA b↔a.fV6=b.fV6:=by unfold famA;cases a.fV6<;>cases b.fV6<;>simp
theorem ZIq{a b:Zah}:cmpA a b<0↔famA a<famA b\/(famA a=famA b/\(a.fHi<b.fHi\/(a.fHi=b.fHi/\a.fLo<b.fLo))):=by simp only[cmpA,ZxV,Zuz,ZjB]
theorem ZLp{a b:Zah}:0<cmpA a b↔famA b<famA a\/(famA a=famA b/\(b.fHi<a.fHi\/(a.fHi=b.fHi/\b.fLo<a.fLo))):=by simp only[cmpA,ZxW,ZuA,ZjB]
theorem Zpq{a b:Zah}:cmpA a b=0↔a=b:=by
 simp only[cmpA,Zvm,ZjB,ZLf];obtain⟨v,hi,lo⟩:=a;obtain⟨v',cw,ku⟩:=b;simp
theorem Zyv{a b c:Zah}(d:cmpA a b<0)(e:cmpA b c<0):cmpA a c<0:=by
 rw[ZIq]at *
 omega
theorem ZBq{a b:Zah}:0<cmpA a b↔cmpA b a<0:=by
 rw[ZLp,ZIq];constructor<;>intro h<;>omega
def ZfM(b d:Zaj):Option Int:=(ZiZ b.fAddr d.fAddr).bind fun e=>(Zci b.fPort d.fPort).bind fun f=>(ZeF ([e,f]:List Int)).bind fun g=>some g
theorem Zig(h o:Zaj)(r:Int)(g:ZfM h o=some r):Yp 175 [.agg (Zaj.c h),.agg (Zaj.c o)] (Yj r):=by
 refine Yv Tryz.func175 fun S0 w0=>?_;unfold ZfM at g;obtain⟨b,f,p,t,g⟩:=Yu g;obtain⟨u,v,g⟩:=Zad g;apply Ya g 4 [rz,⟨[(4,aI b),(9,aI f),(11,aI u)],[],[],[],[],[(10,(([b,f]:List Int).length,Zam mi (0:Int) ([b,f]:List Int)))],[]⟩] [] (mq (Zpn _ _ _ p) (ZcT _ _ _ t) (mN (e:=mi) (0:Int) 1 (fun _=>rfl) ([b,f]:List Int)) (ZgZ _ _ v))
def ZmL(b d:Zaa):Option Int:=(ZfM b.fEnd d.fEnd).bind fun e=>some e
theorem Zqc(d e:Zaa)(r:Int)(b:ZmL d e=some r):Yp 177 [.agg (Zaa.c d),.agg (Zaa.c e)] (Yj r):=by
 refine Yv Tryz.func177 fun S0 w0=>?_;unfold ZmL at b;obtain⟨f,g,b⟩:=Zad b;apply Ya b 4 [rz,rA [(4,aI f)]] [] (ml (Zig _ _ _ g))
def Zcw(b:List Zaa):Option (List Zaa):=need (0<b.length)<|need ((([]:List Zaa)++b).length * 80<=140737488355328/\(([]:List Zaa)++b).length<=maxLen)<|some (([]:List Zaa)++b)
theorem Zgn(b r:List Zaa)(f:Zcw b=some r):Yq 244 [] [Ym b] [(me 99999 44 10 Zaa.c Zaa.d r)] (.one (.osl 99999 r.length)):=by
 refine Yw Tryz.func244 fun S0 w0=>?_;unfold Zcw at f;obtain⟨o1,g,f⟩:=Yt f;apply Yc f 9 [rz,rz,rA [(0,.c ([]:List Zaa).length (Zam Zaa.c Zaa.d ([]:List Zaa))),(2,.c ((([]:List Zaa)++b).length) (Zam Zaa.c Zaa.d (([]:List Zaa)++b)))]] [false] (md [2] [7] [(7,99999)]) (mu o1 (mP false) (show ([]:List Zaa).length=0 from rfl) (mQ (e:=Zaa.c) Zaa.d 10 (fun _=>rfl) ([]:List Zaa)) (Zcq (sz:=10) (e:=Zaa.c) (d:=Zaa.d) ([]:List Zaa) b) g.1 g.2)
theorem ZgI(x:Addr)(cap:Nat)(c:Nat->Nat->C):Yq 244 [] [.one (.lit (.slice (some x) 0 cap))] [(99999,.rows 44 10 0 c)] (.one (.osl 99999 0)):=by
 refine Yw Tryz.func244 fun S0 w0=>?_;exact Zkt Zal 9 _ _ [⟨[],[],[],[],[],[],[]⟩,⟨[(1,.r (Yk false) [])],[],[],[],[],[],[]⟩,⟨[(0,.c 0 c),(2,.c 0 c)],[],[],[],[],[],[]⟩] [false] (md [2] [7] [(7,99999)])
  [∀w,(do eqGuard .eql 54 (.tmp 3) (.const (.slice none 0 0)) (.slice (some x) 0 cap) (.slice none 0 0);binOp .eql 54 (.slice (some x) 0 cap) (.slice none 0 0):Sem Value).run Tryz.prog w=.ok (.bool false) w,false=false,0=0,∀i j,i<0->j<10->c i j=([]:List C).getD (i * 10+j) .junk,Ext 10 0 0 c (fun _ _=>.junk) 0 c,0 * 80<=140737488355328,0<=maxLen] (by kernel_rfl) ⟨fun w=>by
   have hg:(eqGuard .eql 54 (.tmp 3) (.const (.slice none 0 0)) (.slice (some x) 0 cap) (.slice none 0 0)).run Tryz.prog w=.ok () w:=by simp[eqGuard]
   rw[Sem.run_bind,hg,Result.andThen_ok];exact Go.run_eql_slice_nil w _ _ (some x) 0 cap Tryz.underlying54,rfl,rfl,fun i j h=>absurd h (Nat.not_lt_zero i),⟨rfl,fun _ _ h=>absurd h (Nat.not_lt_zero _),fun _ _ h=>absurd h (Nat.not_lt_zero _)⟩,by decide,by decide,trivial⟩
theorem ZgH(cap:Nat)(c:Nat->Nat->C):Yq 244 [] [.one (.lit (.slice none 0 cap))] [(99999,.rows 44 10 0 c)] (.one (.osl 99999 0)):=by
 refine Yw Tryz.func244 fun S0 w0=>?_;exact Zkt Zal 8 _ _ [⟨[],[],[],[],[],[],[]⟩,⟨[(1,.r (Yk true) [])],[],[],[],[],[],[]⟩,⟨[],[],[],[],[],[],[]⟩] [true] ⟨[],[],[],[],[(2,99999,44,10,c)],[2],[99999],[]⟩
  [∀w,(do eqGuard .eql 54 (.tmp 3) (.const (.slice none 0 0)) (.slice none 0 cap) (.slice none 0 0);binOp .eql 54 (.slice none 0 cap) (.slice none 0 0):Sem Value).run Tryz.prog w=.ok (.bool true) w,true=true] (by kernel_rfl) ⟨fun w=>by
   have hg:(eqGuard .eql 54 (.tmp 3) (.const (.slice none 0 0)) (.slice none 0 cap) (.slice none 0 0)).run Tryz.prog w=.ok () w:=by simp[eqGuard]
   rw[Sem.run_bind,hg,Result.andThen_ok];exact Go.run_eql_slice_nil w _ _ none 0 cap Tryz.underlying54,rfl,trivial⟩
def ZbV(b:List Zaa):Option (List Zaa):=need (b.length * 80<=140737488355328/\b.length<=maxLen)<|some b
theorem Zcg(b r:List Zaa)(e:ZbV b=some r):Yq 244 [] [Ym b] [(99999,.rows 44 10 r.length (Zam Zaa.c Zaa.d r))] (.one (.osl 99999 r.length)):=by
 obtain⟨o1,e⟩:=Zao e;cases e;refine ZsL ⟨_,Tryz.func244,rfl,rfl⟩ (fun h cap=>?_) (fun h x cap=>?_) (fun h=>?_)
 .rw[h];exact ZgH cap _
 .rw[h];exact ZgI x cap _
 .refine Zgn b b ?_;unfold Zcw;rw[ZrB h,ZrB (by simpa using o1)];simp
set_option maxHeartbeats 4000000 in
set_option maxRecDepth 100000 in
theorem ZAG (b n c i vb m vc : Nat) (cur aT : Array Value) (w : World) (hi : i < n) (hm : 0 < m) (hroom : n + m <= c) (gx : c <= maxLen) (hvb : vb ≠ b)
    (de:w.heap[b]? = some (.cells cur 44 (0,0))) (dX:cur.size = c * 10) (ce:w.heap[vb]? = some (.cells aT 44 (0,0))) (lE:m<=vc) (bS:aT.size = vc * 10)
    (b8 : ∀ v ∈ cur.toList.take (n * 10),v.oneCell' = true) (jH : ∀ v ∈ aT.toList.take (m * 10),v.oneCell' = true) :
    Calls Tryz.prog 340 #[.slice (some ⟨b,0,none⟩) n c,.int .i64 i,.slice (some ⟨vb,0,none⟩) m vc] w fun e w' =>
      ∃ R:Array Value,e = .returned (.slice (some ⟨b,0,none⟩) (n + m) c)/\w.drawn<=w'.drawn/\w.grownBy w' (some b)/\w'.heap[b]? = some (.cells R 44 (0,0))/\R.size = c * 10 /\
        R.toList.take ((n + m) * 10) = cur.toList.take (i * 10) ++ aT.toList.take (m * 10) ++ (cur.toList.drop (i * 10)).take ((n - i) * 10):=by
  have hc63':=gx
  unfold maxLen at gx
  have hz1 : ¬ ((m:Int) = 0):=by omega
  have cq : ¬ ((i:Int) = (n:Int)):=by omega
  have iN:IntKind.i64.wrap ((i:Int) + (m:Int)) = (i:Int) + (m:Int):=by rw [IntKind.wrap_i64]; omega
  have hw2:IntKind.i64.wrap ((n:Int) + (m:Int)) = (n:Int) + (m:Int):=by rw [IntKind.wrap_i64]; omega
  have bM:(0:Int)<=(i:Int) + (m:Int):=by omega
  have hin:i<=n:=by omega
  have htn:((i:Int) + (m:Int)).toNat = i + m:=by omega
  have bB : ¬ (c = i + m):=by omega
  have gJ:(i:Int)<=(n:Int) + (m:Int):=by omega
  have hb4 : ¬ (c = i):=by omega
  have hov : ∀ o lb cb,(callFunc 365 #[.slice (some ⟨vb,0,none⟩) m vc,.slice (some ⟨b,o,none⟩) lb cb]).run Tryz.prog w = .ok (.value (.bool false)) w:=fun o lb cb =>by
    rw [run_callFunc_extern Tryz.func365 (by kernel_rfl) (by kernel_rfl) (by kernel_rfl) (e:=Extern.SlicesOverlaps.overlaps #[54,54] #[4]) (by kernel_rfl),
      Lib.run_overlaps_apart w 54 4 44 Tryz.underlying54 10 Tryz.sizeOf44 ⟨vb,0,none⟩ ⟨b,o,none⟩ m vc lb cb hvb 44 44 aT.size cur.size (by simp [World.shape?,ce]) (by simp [World.shape?,de]) (by omega) (by simp [World.frozen?,ce]) (by simp [World.frozen?,ce])]
    rfl
  have aU:(Tryz.prog.info? 44).map (·.size) = some 10:=by kernel_rfl
  obtain ⟨M1,kw⟩ : ∃ M1,M1 = ZhR cur.toList ((i + m) * 10) ((cur.toList.drop (i * 10)).take ((n - i) * 10)):=⟨_,rfl⟩
  have gy:M1.toArray.size = c * 10:=by
    rw [kw]; simp [ZhR]; omega
  have jI : ∀ ty dc sc,(Builtin.copy_ #[54,54] ty #[.slice (some ⟨b,(i + m) * 10,none⟩) (n + m - (i + m)) dc,.slice (some ⟨b,i * 10,none⟩) (n + m - i) sc]).run Tryz.prog w.drew = .ok (goInt ((n - i:Nat):Int)) (w.drew.setRow b M1.toArray):=fun ty dc sc =>by
    have h:=ZmI (P:=Tryz.prog) w.drew 54 54 ty 44 10 b ((i + m) * 10) (n + m - (i + m)) dc ⟨b,i * 10,none⟩ (n + m - i) sc cur 44 ((cur.toList.drop (i * 10)).take ((n - i) * 10)) Tryz.underlying54 aU
      (by have : Nat.min (n + m - i) (n + m - (i + m)) = n - i := by simp only [Nat.min_def]; split <;> omega
          rw [this]; simp; omega)
      (fun j v hj =>by
        rw [ZfP]
        rw [List.getElem?_take] at hj
        split at hj
        . rw [List.getElem?_drop] at hj
          rw [show w.drew.cell? ⟨b,i * 10 + j,none⟩ = w.cell? ⟨b,i * 10 + j,none⟩ from rfl,cell_of_row w b _ cur 44 (0,0) de]
          simpa using hj
        . cases hj)
      de (by simp; omega) (fun v hv =>b8 v (by
        obtain ⟨j,hj⟩:=List.getElem?_of_mem hv
        rw [List.getElem?_take] at hj
        split at hj
        . rw [List.getElem?_drop] at hj
          exact List.mem_of_getElem? (i:=i * 10 + j) (by rw [List.getElem?_take,if_pos (by omega)]; exact hj)
        . cases hj))
    rw [show Nat.min (n + m - i) (n + m - (i + m)) = n - i by simp only [Nat.min_def]; split <;> omega,<- kw] at h
    exact h
  obtain ⟨W1,ec⟩ : ∃ W1,W1 = w.drew.setRow b M1.toArray:=⟨_,rfl⟩
  have iz:W1.heap[b]? = some (.cells M1.toArray 44 (0,0)):=by
    rw [ec]; exact setRow_heap _ _ _ _ _ _ de
  have jJ:W1.heap[vb]? = some (.cells aT 44 (0,0)):=by
    rw [ec,setRow_other _ _ _ _ hvb]; exact ce
  have jK : ∀ (W:World),W.heap = W1.heap->∀ ty dc,(Builtin.copy_ #[54,54] ty #[.slice (some ⟨b,i * 10,none⟩) (n + m - i) dc,.slice (some ⟨vb,0,none⟩) m vc]).run Tryz.prog W = .ok (goInt (m:Int)) (W.setRow b (ZhR M1 (i * 10) (aT.toList.take (m * 10))).toArray):=fun W jL ty dc =>by
    have h:=ZmI (P:=Tryz.prog) W 54 54 ty 44 10 b (i * 10) (n + m - i) dc ⟨vb,0,none⟩ m vc M1.toArray 44 (aT.toList.take (m * 10)) Tryz.underlying54 aU
      (by have : Nat.min m (n + m - i) = m := by simp only [Nat.min_def]; split <;> omega
          rw [this]; simp; omega)
      (fun j v hj =>by
        rw [ZfP,Nat.zero_add]
        rw [List.getElem?_take] at hj
        split at hj
        . rw [cell_of_row W vb _ aT 44 (0,0) (by rw [jL]; exact jJ)]
          simpa using hj
        . cases hj)
      (by rw [jL]; exact iz) (by simp at gy ⊢; omega) jH
    rw [show Nat.min m (n + m - i) = m by simp only [Nat.min_def]; split <;> omega] at h
    exact h
  rw [<- ec] at jI
  obtain ⟨R3,hR3⟩ : ∃ R3,R3 = ZhR M1 (i * 10) (aT.toList.take (m * 10)):=⟨_,rfl⟩
  rw [<- hR3] at jK
  have fv:R3.length = c * 10:=by
    rw [hR3]; simp at gy; simp [ZhR]; omega
  have bu:R3.take ((n + m) * 10) = cur.toList.take (i * 10) ++ aT.toList.take (m * 10) ++ (cur.toList.drop (i * 10)).take ((n - i) * 10):=by
    have hM1l' : M1.length = c * 10:=by simpa using gy
    have gg:(aT.toList.take (m * 10)).length = m * 10:=by simp; omega
    have lK:((cur.toList.drop (i * 10)).take ((n - i) * 10)).length = (n - i) * 10:=by simp; omega
    apply List.ext_getElem?
    intro k
    rw [List.getElem?_take]
    split
    . rename_i hk
      rw [hR3,ZlE _ _ _ (by rw [gg]; omega),kw,ZlE _ _ _ (by rw [lK]; simp; omega)]
      by_cases d:k < i * 10
      . rw [if_neg (by omega),if_neg (by omega),List.append_assoc,List.getElem?_append_left (by simp; omega),List.getElem?_take,if_pos d]
      . by_cases f:k < (i + m) * 10
        . rw [if_pos ⟨by omega,by rw [gg]; omega⟩,List.append_assoc,List.getElem?_append_right (by simp; omega),List.getElem?_append_left (by simp; omega)]
          congr 1; simp; omega
        . rw [if_neg (by rw [gg]; omega),if_pos ⟨by omega,by rw [lK]; omega⟩,List.getElem?_append_right (by rw [List.length_append,gg]; simp; omega)]
          congr 1; rw [List.length_append,gg]; simp; omega
    . rename_i hk
      rw [List.getElem?_eq_none (by rw [List.length_append,List.length_append,gg,lK]; simp; omega)]
  have hgb:w.grownBy (W1.setRow b R3.toArray) (some b):=by
    rw [ec]
    exact ⟨rfl,rfl,rfl,by simp,fun k _ hk =>by
      have hne:k ≠ b:=fun h =>hk (by rw [h])
      rw [setRow_other _ _ _ _ hne,setRow_other _ _ _ _ hne]
      rfl⟩
  have hat:=setRow_heap W1 b _ R3.toArray _ _ iz
  have HF:=Lib.hid bu; clear bu
  have HL:=Lib.hid fv; clear fv
  have eq:w.drawn<=(W1.setRow b R3.toArray).drawn:=by rw [ec]; exact Nat.le_succ _
  have HG:=Lib.hid hgb; clear hgb
  have HD:=Lib.hid eq; clear eq
  have HA:=Lib.hid hat; clear hat
  clear gy iz jJ b8 jH aU hR3
  clear ec
  clear kw
  have mixed:Tryz.prog.follows .mixedOrders = true:=by kernel_rfl
  go_enter Tryz.func340,Tryz.ntmps340
  go_wp2_with (simp only [hov])
  go_region_law_o (refine step_copy_runI rfl _ _ 54 54 rfl _ _ (by simp [Act.eval,Act.put]) (by simp [Act.eval,Act.put]) (jI _ _ _) ?_)
  go_wp2_with (at_builtin; refine wpList_copy_runI _ rfl _ _ 54 54 rfl _ _ rfl rfl (jK _ rfl _ _) ?_)
  go_ret
  exact ⟨R3.toArray,rfl,HD.out,HG.out,HA.out,HL.out,HF.out⟩
set_option maxHeartbeats 4000000 in
set_option maxRecDepth 100000 in
theorem ZCq (b n c i vb m vc : Nat) (cur aT : Array Value) (w : World) (hi : i < n) (hm : 0 < m) (gZ : n <= c) (hroom : c < n + m) (g5 : (n + m) * 80 <= 140737488355328)
    (de:w.heap[b]? = some (.cells cur 44 (0,0))) (dX:cur.size = c * 10) (ce:w.heap[vb]? = some (.cells aT 44 (0,0))) (lE:m<=vc) (bS:aT.size = vc * 10)
    (b8 : ∀ v ∈ cur.toList.take (n * 10),v.oneCell' = true) (jH : ∀ v ∈ aT.toList.take (m * 10),v.oneCell' = true) :
    Calls Tryz.prog 340 #[.slice (some ⟨b,0,none⟩) n c,.int .i64 i,.slice (some ⟨vb,0,none⟩) m vc] w fun e w' =>
      ∃ (G:Nat) (R:Array Value),e = .returned (.slice (some ⟨w.heap.size,0,none⟩) (n + m) G)/\w.drawn<=w'.drawn/\Below w.heap.size w w'/\w'.heap[w.heap.size]? = some (.cells R 44 (0,0))/\n + m<=G/\G<=maxLen/\R.size = G * 10 /\
        R.toList.take ((n + m) * 10) = cur.toList.take (i * 10) ++ aT.toList.take (m * 10) ++ (cur.toList.drop (i * 10)).take ((n - i) * 10):=by
  have hz1 : ¬ ((m:Int) = 0):=by omega
  have cq : ¬ ((i:Int) = (n:Int)):=by omega
  have hz3:(c:Int) < (n:Int) + (m:Int):=by omega
  have lL:(n:Int) + (m:Int) - (i:Int) = ((n + m - i:Nat):Int):=by omega
  have hik:i + (n + m - i) = n + m:=by omega
  have hbw:b < w.heap.size:=(Array.getElem?_eq_some_iff.1 de).1
  have hvw:vb < w.heap.size:=(Array.getElem?_eq_some_iff.1 ce).1
  have k7:b ≠ w.heap.size:=by omega
  have hvN:vb ≠ w.heap.size:=by omega
  obtain ⟨i0,hi0,cy,iA,i4⟩:=ZKw.info (t:=44) (show Zff tab 44 = some _ from rfl)
  replace cy:i0.size = 10:=cy
  replace iA:i0.bytes = 80:=iA
  replace i4:i0.zero = some (.agg #[.bool false,.int .u64 (0),.int .u64 (0),.int .i64 (0),.bool false,.int .i64 (0),.int .i64 (0),.int .i64 (0),.int .i64 (0),.int .i64 (0)]):=i4
  have aU:(Tryz.prog.info? 44).map (·.size) = some 10:=by kernel_rfl
  have cj:(Builtin.firstCells i0.size i (.slice (some ⟨b,0,none⟩) i c)).run Tryz.prog w.drew = .ok (cur.toList.take (i * 10)).toArray w.drew:=by
    rw [cy]
    exact run_firstCells_some w.drew 10 i ⟨b,0,none⟩ i c (cur.toList.take (i * 10)) (by simp; omega) (fun j v hj =>by
      rw [ZfP,Nat.zero_add]
      rw [List.getElem?_take] at hj
      split at hj
      . rw [show w.drew.cell? ⟨b,j,none⟩ = w.cell? ⟨b,j,none⟩ from rfl,cell_of_row w b _ cur 44 (0,0) de]
        simpa using hj
      . cases hj)
  obtain ⟨G,hG⟩ : ∃ G,G = grownCap w (n + m) c 44:=⟨_,rfl⟩
  obtain ⟨gz,gA⟩ : ∃ gz:Array Value,gz = (cur.toList.take (i * 10)).toArray ++ Builtin.zeroCells (Value.cells (.agg #[.bool false,.int .u64 (0),.int .u64 (0),.int .i64 (0),.bool false,.int .i64 (0),.int .i64 (0),.int .i64 (0),.int .i64 (0),.int .i64 (0)])) (n + m - i) ++ Builtin.zeroCells (Value.cells (.agg #[.bool false,.int .u64 (0),.int .u64 (0),.int .i64 (0),.bool false,.int .i64 (0),.int .i64 (0),.int .i64 (0),.int .i64 (0),.int .i64 (0)])) (G - (n + m)):=⟨_,rfl⟩
  have hrz : ∀ ty, (Builtin.append_ #[54, 3] ty #[.slice (some ⟨b, 0, none⟩) i c, .int .i64 ((n : Int) + (m : Int) - (i : Int))]).run Tryz.prog w =
      .ok (.slice (some ⟨w.heap.size,0,none⟩) (n + m) G) (w.drew.alloc (.cells gz 44)):=fun ty =>by
    have h:=Lib.run_append_grow_zeros w 54 3 ty 44 i0 _ .i64 .i64 Tryz.underlying54 Tryz.underlying3 hi0 i4 (some ⟨b,0,none⟩) i c (cur.toList.take (i * 10)) cj (n + m - i) (by omega) (by omega) (by omega) (by omega) (by rw [iA]; omega) (by rw [iA,hik]; exact growslice_fits hroom g5)
    rw [hik,<- hG,<- gA] at h
    rw [lL]
    exact h
  have hGn:n + m<=G:=by rw [hG]; exact grownCap_ge w _ _ _
  have hGm:G<=maxLen:=by rw [hG]; exact grownCap_le_maxLen w (n + m) c 44 (by unfold maxLen; omega)
  have hRs:gz.size = G * 10:=by
    rw [gA]
    simp [Builtin.zeroCells,Value.cells]
    omega
  have hRt:gz.toList.take (i * 10) = cur.toList.take (i * 10):=by
    rw [gA]
    simp only [Array.toList_append,List.append_assoc]
    rw [List.take_append_of_le_length (by simp; omega)]
    simp [List.take_take]
  clear gA hG cj
  obtain ⟨W1,ec⟩ : ∃ W1,W1 = w.drew.alloc (.cells gz 44):=⟨_,rfl⟩
  have lM:W1.heap[w.heap.size]? = some (.cells gz 44 (0,0)):=by rw [ec]; exact heap_alloc_new w.drew _
  have hWb:W1.heap[b]? = some (.cells cur 44 (0,0)):=by rw [ec,heap_alloc_old w.drew _ hbw]; exact de
  have hWv:W1.heap[vb]? = some (.cells aT 44 (0,0)):=by rw [ec,heap_alloc_old w.drew _ hvw]; exact ce
  obtain ⟨V,hV⟩ : ∃ V,V = aT.toList.take (m * 10):=⟨_,rfl⟩
  have gB:V.length = m * 10:=by rw [hV]; simp; omega
  obtain ⟨D,hD⟩ : ∃ D,D = (cur.toList.drop (i * 10)).take ((n - i) * 10):=⟨_,rfl⟩
  have iB:D.length = (n - i) * 10:=by rw [hD]; simp; omega
  obtain ⟨R2,hR2⟩ : ∃ R2,R2 = ZhR gz.toList (i * 10) V:=⟨_,rfl⟩
  have jM:R2.length = G * 10:=by rw [hR2]; simp [ZhR,gB]; omega
  obtain ⟨R3,hR3⟩ : ∃ R3,R3 = ZhR R2 ((i + m) * 10) D:=⟨_,rfl⟩
  have fv:R3.length = G * 10:=by rw [hR3]; simp [ZhR,iB]; omega
  have bu:R3.take ((n + m) * 10) = cur.toList.take (i * 10) ++ V ++ D:=by
    apply List.ext_getElem?
    intro k
    rw [List.getElem?_take]
    split
    . rename_i hk
      rw [hR3,ZlE _ _ _ (by rw [iB]; omega),hR2,ZlE _ _ _ (by rw [gB]; simp; omega)]
      by_cases d:k < i * 10
      . rw [if_neg (by omega),if_neg (by omega),List.append_assoc,List.getElem?_append_left (by simp; omega),<- hRt,List.getElem?_take,if_pos d]
      . by_cases f:k < (i + m) * 10
        . rw [if_neg (by omega),if_pos ⟨by omega,by rw [gB]; omega⟩,List.append_assoc,List.getElem?_append_right (by simp; omega),List.getElem?_append_left (by simp; omega)]
          congr 1; simp; omega
        . rw [if_pos ⟨by omega,by rw [iB]; omega⟩,List.getElem?_append_right (by simp [gB]; omega)]
          congr 1; simp [gB]; omega
    . rename_i hk
      rw [List.getElem?_eq_none (by simp [gB,iB]; omega)]
  have lN : ∀ (W:World),W.heap = W1.heap->∀ ty dc,(Builtin.copy_ #[54,54] ty #[.slice (some ⟨w.heap.size,i * 10,none⟩) (n + m - i) dc,.slice (some ⟨vb,0,none⟩) m vc]).run Tryz.prog W = .ok (goInt (m:Int)) (W.setRow w.heap.size R2.toArray):=fun W jL ty dc =>by
    have h:=ZmI (P:=Tryz.prog) W 54 54 ty 44 10 w.heap.size (i * 10) (n + m - i) dc ⟨vb,0,none⟩ m vc gz 44 V Tryz.underlying54 aU
      (by have : Nat.min m (n + m - i) = m := by simp only [Nat.min_def]; split <;> omega
          rw [this,gB])
      (fun j v hj =>by
        rw [hV] at hj
        rw [ZfP,Nat.zero_add]
        rw [List.getElem?_take] at hj
        split at hj
        . rw [cell_of_row W vb _ aT 44 (0,0) (by rw [jL]; exact hWv)]
          simpa using hj
        . cases hj)
      (by rw [jL]; exact lM) (by rw [gB,hRs]; omega) (by rw [hV]; exact jH)
    rw [show Nat.min m (n + m - i) = m by simp only [Nat.min_def]; split <;> omega,<- hR2] at h
    exact h
  have jN : ∀ (W:World),W.heap[w.heap.size]? = some (.cells R2.toArray 44 (0,0))->W.heap[b]? = some (.cells cur 44 (0,0))->∀ ty dc sc,(Builtin.copy_ #[54,54] ty #[.slice (some ⟨w.heap.size,(i + m) * 10,none⟩) (n + m - (i + m)) dc,.slice (some ⟨b,i * 10,none⟩) (n - i) sc]).run Tryz.prog W = .ok (goInt ((n - i:Nat):Int)) (W.setRow w.heap.size R3.toArray):=fun W hN hB ty dc sc =>by
    have h:=ZmI (P:=Tryz.prog) W 54 54 ty 44 10 w.heap.size ((i + m) * 10) (n + m - (i + m)) dc ⟨b,i * 10,none⟩ (n - i) sc R2.toArray 44 D Tryz.underlying54 aU
      (by have : Nat.min (n - i) (n + m - (i + m)) = n - i := by simp only [Nat.min_def]; split <;> omega
          rw [this,iB])
      (fun j v hj =>by
        rw [hD] at hj
        rw [ZfP]
        rw [List.getElem?_take] at hj
        split at hj
        . rw [List.getElem?_drop] at hj
          rw [cell_of_row W b _ cur 44 (0,0) hB]
          simpa using hj
        . cases hj)
      hN (by simp [iB,jM]; omega) (fun v hv =>b8 v (by
        rw [hD] at hv
        obtain ⟨j,hj⟩:=List.getElem?_of_mem hv
        rw [List.getElem?_take] at hj
        split at hj
        . rw [List.getElem?_drop] at hj
          exact List.mem_of_getElem? (i:=i * 10 + j) (by rw [List.getElem?_take,if_pos (by omega)]; exact hj)
        . cases hj))
    rw [show Nat.min (n - i) (n + m - (i + m)) = n - i by simp only [Nat.min_def]; split <;> omega] at h
    rw [show R2.toArray.toList = R2 from rfl,<- hR3] at h
    exact h
  have iC:(W1.setRow w.heap.size R2.toArray).heap[w.heap.size]? = some (.cells R2.toArray 44 (0,0)):=setRow_heap _ _ _ _ _ _ lM
  have jO:(W1.setRow w.heap.size R2.toArray).heap[b]? = some (.cells cur 44 (0,0)):=by rw [setRow_other _ _ _ _ k7]; exact hWb
  have co:Below w.heap.size w W1:=by
    rw [ec]
    exact ⟨rfl,rfl,rfl,by simp,fun k hk =>heap_alloc_old w.drew _ hk⟩
  have mixed:Tryz.prog.follows .mixedOrders = true:=by kernel_rfl
  have eq:w.drawn<=W1.drawn:=by rw [ec]; exact Nat.le_succ _
  have HW:=Lib.hid eq; clear eq
  have HF:=Lib.hid bu; clear bu
  have hGi : ¬ (G = i):=by omega
  have hGim : ¬ (G = i + m):=by omega
  have hci : ¬ (c = i):=by omega
  have hGM:=hGm
  unfold maxLen at hGM
  have hin:i<=n:=by omega
  have htn:((i:Int) + (m:Int)).toNat = i + m:=by omega
  have iN:IntKind.i64.wrap ((i:Int) + (m:Int)) = (i:Int) + (m:Int):=by rw [IntKind.wrap_i64]; omega
  have bM:(0:Int)<=(i:Int) + (m:Int):=by omega
  have gJ:(i:Int)<=(n:Int):=by omega
  rw [<- hV,<- hD]
  rw [<- ec] at hrz
  clear hV hD gB iB hR2 jM hR3 hRt hi0 iA cy i4 aU hRs lL hik lM hWb hWv dX bS b8 jH de ce ec
  have HR3:=Lib.hid fv; clear fv
  go_enter Tryz.func340,Tryz.ntmps340
  go_wp2_with (first
    | (at_builtin; refine Lib.wpList_append_run _ rfl _ _ _ _ rfl _ _ rfl rfl _ _ (hrz _) ?_)
    | (at_builtin; refine wpList_copy_runI _ rfl _ _ 54 54 rfl _ _ rfl rfl (lN _ rfl _ _) ?_)
    | (at_builtin; refine wpList_copy_runI _ rfl _ _ 54 54 rfl _ _ rfl rfl (jN _ (by first | exact iC | assumption) (by first | exact jO | assumption) _ _ _) ?_))
  go_region_law_o (refine step_copy_runI rfl _ _ 54 54 rfl (.slice (some ⟨w.heap.size,(i + m) * 10,none⟩) (n + m - (i + m)) (G - (i + m))) (.slice (some ⟨b,i * 10,none⟩) (n - i) (c - i)) (by simp [Act.eval,Act.put]) (by simp [Act.eval,Act.put]) (jN (W1.setRow w.heap.size R2.toArray).drew iC jO 3 (G - (i + m)) (c - i)) ?_)
  go_wp2
  go_ret
  exact ⟨G,R3.toArray,rfl,Nat.le_trans HW.out (by simp [World.setRow]),⟨co.os,co.tape,co.output,by simpa using co.size,fun k hk =>by rw [setRow_other _ _ _ _ (by omega)]; exact (setRow_other _ _ _ _ (by omega)).trans (co.block k hk)⟩,setRow_heap _ _ _ _ _ _ iC,hGn,hGm,HR3.out,HF.out⟩
set_option maxHeartbeats 4000000 in
set_option maxRecDepth 100000 in
theorem ZFm(bn:Option Addr)(n c vb m vc:Nat)(w w':World)(v':Value)(gZ:n<=c)(gx:c<=maxLen)(hm:0<m)(ip:bn=none->n=0)(lO:m<=maxLen)
  (hrun:∀ty,(Builtin.append_ #[54,54] ty #[.slice bn n c,.slice (some ⟨vb,0,none⟩) m vc]).run Tryz.prog w=.ok v' w') :
  Calls Tryz.prog 340 #[.slice bn n c,.int .i64 n,.slice (some ⟨vb,0,none⟩) m vc] w fun e b=>e=.returned v'/\w'=b:=by
 have hz1:¬((m:Int)=0):=by omega
 unfold maxLen at gx lO;cases bn with
 |none=>
  have h0:=ip rfl;subst h0
  go_enter Tryz.func340,Tryz.ntmps340
  go_wp2_with (at_builtin;refine Lib.wpList_append_run _ rfl _ _ _ _ rfl _ _ rfl rfl _ _ (hrun _) ?_)
  go_ret
  exact⟨rfl,rfl⟩
 |some a=>
  obtain⟨ab,ao,asp⟩:=a
  go_enter Tryz.func340,Tryz.ntmps340
  go_wp2_with (at_builtin;refine Lib.wpList_append_run _ rfl _ _ _ _ rfl _ _ rfl rfl _ _ (hrun _) ?_)
  all_goals (go_ret;exact⟨rfl,rfl⟩)
def ZcC(b:List Zaa)(d:Int)(e:List Zaa):Option (List Zaa):=need (0<=d/\d.toNat<=b.length/\0<e.length/\(b.length+e.length) * 80<=140737488355328/\b.length+e.length<=maxLen)<|some (b.take d.toNat++e++b.drop d.toNat)
theorem Zdv(j:List Zaa)(B:Int)(o r:List Zaa)(C:ZcC j B o=some r) :
  Yq 340 [(me 100000 44 10 Zaa.c Zaa.d j),(me 100001 44 10 Zaa.c Zaa.d o)] [.one (.osl 100000 j.length),Yj B,.one (.osl 100001 o.length)]
   [(me 99999 44 10 Zaa.c Zaa.d r)] (.one (.osl 99999 r.length)):=by
 obtain⟨⟨o1,H,I,J,L⟩,C⟩:=Zao C;cases C;obtain⟨i0,hi0,cy,iA,i4⟩:=ZKw.info (t:=44) (show Zff tab 44=some _ from rfl);have h:=ZCp (enc:=Zaa.c) (d:=Zaa.d) (F:=340) (BY:=80) (K:=10) ⟨_,Tryz.func340,rfl,rfl⟩ Tryz.underlying54 hi0 i4 cy iA rfl (by decide) (fun b n c i vb m vc cur aT w p u v y z A D E G e f g=>ZAG b n c i vb m vc cur aT w p u v y z A D E G e f g)
  (fun b n c i vb m vc cur aT w p u v y z A D E G e f g=>ZCq b n c i vb m vc cur aT w p u v y z A D E G e f g)
  (fun bn n c vb m vc w w' v' p u v y z A=>ZFm bn n c vb m vc w w' v' p u v y z A) j o B.toNat H I J L
 rw[Int.toNat_of_nonneg o1]at h;exact h
def ZpD(b c0:Zaa):Option Bool:=(ZmL b c0).bind fun d=>some (decide (d>(0:Int)))
theorem ZuP(d c0:Zaa)(r:Bool)(b:ZpD d c0=some r):Yp 339 [.agg (Zaa.c d),.one (.rp false 10 (fun j=>(Zaa.c c0:List C).getD (0+j) .junk))] (Yk r):=by
 refine Yv Tryz.func339 fun S0 w0=>?_;unfold ZpD at b;obtain⟨e,f,b⟩:=Zad b;apply Ya b 4 [rz,rA [(2,aI e)]] [] (ml (Zqc _ _ _ f))
def ZbI(f:List Zaa)(b:Zaa):Nat->Int->Int->Option Int|0,_,_=>none|fu+1,g,e=>bif(decide (e<g))then need (0<=e/\e<(f.length:Int))<|(ZpD (f.getD e.toNat Zaa.d) b).bind fun h=>bif h then some e else ZbI f b fu g (Zaq e 1)else some (-1:Int)
theorem ZhS(p:List Zaa)(d:Zaa):∀(g:Nat)(e f r:Int),ZbI p d g e f=some r->Yr 19 S0 w0 Tryz.f280 (Yj r) [1,0,1,0] ⟨[(0,(Ym p)),(1,.one (mg 339 0 1 [] [.rp false 10 (fun j=>(Zaa.c d:List C).getD (0+j) .junk)])),(7,(Yj e)),(8,(Yj f))],[]⟩:=by
 intro g;induction g with
 |zero=>
  intro e f r b;simp[ZbI]at b
 |succ g u=>
  intro e f r b;unfold ZbI at b;obtain⟨h,b⟩|⟨h,b⟩:=Zag b
  .obtain⟨v,b⟩:=Zao b;obtain⟨t,y,b⟩:=Zad b;have O1:=(mo h v (ZuP _ _ _ y));obtain⟨o,b⟩|⟨o,b⟩:=Zag b
   .apply Ya b 15 [rz,rz,rA [(5,aB t)],rz] [true,true] (mC O1 o)
   .exact Ye 17 [rz,rz,rA [(5,aB t)],rz] [true,false] (Yi [0,1,7,8]) (mC O1 o) (u e (Zaq f 1) r b)
  .apply Ya b 8 [rz,rz] [false] (ml h)
def Zdy(d:List Zaa)(b:Zaa):Option Int:=ZbI d b (((d.length:Int)-(0:Int)).toNat+2) (d.length:Int) (0:Int)
theorem ZiA(d:List Zaa)(b:Zaa)(r:Int)(e:Zdy d b=some r):Yp 280 [Ym d,.one (mg 339 0 1 [] [.rp false 10 (fun j=>(Zaa.c b:List C).getD (0+j) .junk)])] (Yj r):=by
 refine Yv Tryz.func280 fun S0 w0=>?_;unfold Zdy at e;exact Ye 6 [rz,rz] [] (Yi [0,1,7,8]) .n (ZhS S0 w0 d b (((d.length:Int)-(0:Int)).toNat+2) (d.length:Int) (0:Int) r e)
def Zsr(b:List Zaa)(d:Zaa):Option ((List Zaa)×Int):=(ZnW d).bind fun f=>bif(!f)then some (([]:(List Zaa)),(1:Int))else(Zmj b d.fEnd).bind fun g=>bif(decide (g>=(0:Int)))then some (([]:(List Zaa)),(7:Int))else(Zdy b d).bind fun e=>bif(decide (e<(0:Int)))then(ZbV b).bind fun h=>(ZcC h (b.length:Int) ([d]:List Zaa)).bind fun i=>some (i,(0:Int))else(ZbV b).bind fun j=>(ZcC j e ([d]:List Zaa)).bind fun n=>some (n,(0:Int))
theorem Zxo(A:List Zaa)(f:Zaa)(r:((List Zaa)×Int))(b:Zsr A f=some r):Yp 296 [Ym A,.agg (Zaa.c f)] (.tup [(false,(cLs 10 Zaa.c Zaa.d) r.1),(false,mi r.2)]):=by
 refine Yv Tryz.func296 fun S0 w0=>?_;unfold Zsr at b;obtain⟨g,B,b⟩:=Zad b;obtain⟨h,b⟩|⟨h,b⟩:=Zag b
 .apply Yb b 9 [rz,rA [(1,aB g)],rz] [true] [] [] [(4,[(0,cL 10 Zaa.c Zaa.d [])])] (mn (Znj _ _ B) h)
 .obtain⟨C,D,b⟩:=Zad b;have O1:=(mo (Znj _ _ B) h (ZkV _ _ _ D));obtain⟨o,b⟩|⟨o,b⟩:=Zag b
  .apply Yb b 12 [rz,rA [(1,aB g)],rA [(3,aI C)],rz] [false,true] [] [] [(4,[(0,cL 10 Zaa.c Zaa.d [])])] (mC O1 o)
  .obtain⟨E,F,b⟩:=Zad b
   let R2:List RA:=[rz,rA [(1,aB g)],rA [(3,aI C)],⟨[(2,aI E)],[],[(1,[3])],[],[],[],[]⟩,rz]
   have O3:=(mD O1 o (ZiA _ _ _ F));obtain⟨p,b⟩|⟨p,b⟩:=Zag b
   .obtain⟨t,u,G,H,b⟩:=Yu b;apply Yb b 21 (R2++[rz,rH [(4,.c ([f]:List Zaa).length (Zam Zaa.c Zaa.d ([f]:List Zaa)))] [(1,⟨[],[(99999,25)],[(me 99999 44 10 Zaa.c Zaa.d t)],.one (.osl 99999 t.length)⟩),(5,⟨[(100000,25),(100001,28)],[(99999,29)],[(me 99999 44 10 Zaa.c Zaa.d u)],.one (.osl 99999 u.length)⟩)]]) [false,false,true] [29] [] [] (mG O3 p (Zcg _ _ G) (show ([f]:List Zaa).length=1 from rfl) (mQ (e:=Zaa.c) Zaa.d 10 (fun _=>rfl) ([f]:List Zaa)) (Zdv _ _ _ _ H))
   .obtain⟨v,y,I,z,b⟩:=Yu b;apply Yb b 21 (R2++[rH [(4,.c ([f]:List Zaa).length (Zam Zaa.c Zaa.d ([f]:List Zaa)))] [(1,⟨[],[(99999,25)],[(me 99999 44 10 Zaa.c Zaa.d v)],.one (.osl 99999 v.length)⟩),(5,⟨[(100000,25),(100001,28)],[(99999,29)],[(me 99999 44 10 Zaa.c Zaa.d y)],.one (.osl 99999 y.length)⟩)]]) [false,false,false] [29] [] [] (mG O3 p (Zcg _ _ I) (show ([f]:List Zaa).length=1 from rfl) (mQ (e:=Zaa.c) Zaa.d 10 (fun _=>rfl) ([f]:List Zaa)) (Zdv _ _ _ _ z))
def ZiD(b:ZaK)(e:Bool):Option ZaK:=(Zul b.fx.fEnd e b.fx.fNow).bind fun f=>(Zsr b.fs.fPeers f).bind fun d=>bif(d.2==(0:Int))then some (ZaK.mk b.fc (Zan.mk b.fs.fBans b.fs.fBook d.1) b.fx)else some b
theorem Zlc(f:ZaK)(g:Bool)(r:ZaK)(b:ZiD f g=some r):Yq 223 [(100000,.box (ZaK.c f))] [.one (.ptr 100000 0),Yk g] [(100000,.box (ZaK.c r))] (.tup []):=by
 refine Yw Tryz.func223 fun S0 w0=>?_;unfold ZiD at b;obtain⟨i,j,b⟩:=Zad b;obtain⟨h,o,b⟩:=Zad b
 let R1:List RA:=[rA [(16,aG (Zaa.c i)),(17,.r (.tup [(false,(cLs 10 Zaa.c Zaa.d) h.1),(false,mi h.2)]) [])],rz]
 have O2:=(mn (Zzn _ _ _ _ j) (Zxo _ _ _ o));obtain⟨e,b⟩|⟨e,b⟩:=Zag b
 .obtain rfl:=oi b;exact Yd 6 (R1++[rz]) [true] (ma [] [100000]) (mC O2 e)
 .obtain rfl:=oi b;exact Yd 6 R1 [false] (ma [] [100000]) (mC O2 e)
def ZeO:Nat->(List Zaa)->Int->Int->(List Zaa)->Option (List Zaa)|0,_,_,_,_=>none|fu+1,e,g,b,f=>bif(decide (b<g))then need (0<=b/\b<(e.length:Int))<|bif(e.getD b.toNat Zaa.d).fIn then need ((f++([(e.getD b.toNat Zaa.d)]:List Zaa)).length * 80<=140737488355328/\(f++([(e.getD b.toNat Zaa.d)]:List Zaa)).length<=maxLen)<|ZeO fu e g (Zaq b 1) (f++([(e.getD b.toNat Zaa.d)]:List Zaa))else ZeO fu e g (Zaq b 1) f else some f
theorem Ztp:∀(p:Nat)(b:List Zaa)(o f:Int)(h r:List Zaa),ZeO p b o f h=some r->Ys 20 S0 w0 Tryz.f181 [(me 99999 44 10 Zaa.c Zaa.d r)] (.one (.osl 99999 r.length)) [1,1,0,1,0] ⟨[(3,.one (.osl 3 h.length)),(6,(Ym b)),(7,(Yj o)),(8,(Yj f))],[(me 3 44 10 Zaa.c Zaa.d h)]⟩:=by
 intro p;induction p with
 |zero=>
  intro b o f h r g;simp[ZeO]at g
 |succ p v=>
  intro b o f h r g;unfold ZeO at g;obtain⟨t,g⟩|⟨t,g⟩:=Zag g
  .obtain⟨y,g⟩:=Zao g;obtain⟨u,g⟩|⟨u,g⟩:=Zag g
   .obtain⟨z,g⟩:=Zao g;exact Ye 17 [rz,rz,rz,⟨[(3,.c ((h++([(b.getD f.toNat Zaa.d)]:List Zaa)).length) (Zam Zaa.c Zaa.d (h++([(b.getD f.toNat Zaa.d)]:List Zaa))))],[],[],[],[],[(2,(([(b.getD f.toNat Zaa.d)]:List Zaa).length,Zam Zaa.c Zaa.d ([(b.getD f.toNat Zaa.d)]:List Zaa)))],[]⟩,rz] [true,true] (md [3,6,7,8] [17] [(17,3)]) (mu t y u (mN (e:=Zaa.c) Zaa.d 10 (fun _=>rfl) ([(b.getD f.toNat Zaa.d)]:List Zaa)) (Zcq (sz:=10) (e:=Zaa.c) (d:=Zaa.d) h ([(b.getD f.toNat Zaa.d)]:List Zaa)) z.1 z.2) (v b o (Zaq f 1) (h++([(b.getD f.toNat Zaa.d)]:List Zaa)) r g)
   .exact Ye 17 [rz,rz,rz,rz] [true,false] (ma [3,6,7,8] [3]) (mo t y u) (v b o (Zaq f 1) h r g)
  .apply Yc g 8 [rz,rz] [false] (md [2] [3] [(3,99999)]) (ml t)
def ZkD(b:List Zaa):Option (List Zaa):=ZeO (((b.length:Int)-(0:Int)).toNat+2) b (b.length:Int) (0:Int) ([])
theorem ZuV(b r:List Zaa)(e:ZkD b=some r):Yq 181 [] [Ym b] [(me 99999 44 10 Zaa.c Zaa.d r)] (.one (.osl 99999 r.length)):=by
 refine Yw Tryz.func181 fun S0 w0=>?_;unfold ZkD at e;exact Ye 8 [rz,rz,rz] [] ⟨[],[],[],[],[(3,3,44,10,Zam Zaa.c Zaa.d [])],[3,6,7,8],[3],[]⟩ .n (Ztp S0 w0 (((b.length:Int)-(0:Int)).toNat+2) b (b.length:Int) (0:Int) ([]) r e)
theorem Zwt(b r:List Zaa)(d:ZkD b=some r):Yp 181 [Ym b] (Ym r):=(ZuV b r d).pure
def ZlW(b:ZaA):Option (ZaW×ZaW×ZaW×ZaW):=some ((ZaW.mk 1 b.fGroup),(ZaW.mk 2 b.fPing),(ZaW.mk 3 b.fWork),(ZaW.mk 4 b.fTime))
theorem Zuh(b:ZaA)(r:(ZaW×ZaW×ZaW×ZaW))(d:ZlW b=some r):Yp 254 [.agg (ZaA.c b)] (.agg ((cP ZaW.c (cP ZaW.c (cP ZaW.c ZaW.c))) r)):=by
 refine Yv Tryz.func254 fun S0 w0=>?_;unfold ZlW at d;apply Ya d 4 [rz,rz] [] .n
def Zfi(f:List Zaa):Nat->(List Int)->Int->Int->(List Zaa)->Option (List Zaa)|0,_,_,_,_=>none|fu+1,e,g,b,h=>bif(decide (b<g))then need (0<=b/\b<(e.length:Int))<|need (0<=(e.getD b.toNat (0:Int))/\(e.getD b.toNat (0:Int))<(f.length:Int))<|need ((h++([(f.getD (e.getD b.toNat (0:Int)).toNat Zaa.d)]:List Zaa)).length * 80<=140737488355328/\(h++([(f.getD (e.getD b.toNat (0:Int)).toNat Zaa.d)]:List Zaa)).length<=maxLen)<|Zfi f fu e g (Zaq b 1) (h++([(f.getD (e.getD b.toNat (0:Int)).toNat Zaa.d)]:List Zaa))else some h
theorem Zss(g:List Zaa):∀(t:Nat)(b:List Int)(o f:Int)(p r:List Zaa),Zfi g t b o f p=some r->Ys 26 S0 w0 Tryz.f257 [(me 99999 44 10 Zaa.c Zaa.d r)] (.one (.osl 99999 r.length)) [1,1,0,1,0] ⟨[(0,(Ym g)),(5,.one (.osl 5 p.length)),(11,.one (cL 1 mi (0:Int) b)),(12,(Yj o)),(13,(Yj f))],[(me 5 44 10 Zaa.c Zaa.d p)]⟩:=by
 intro t;induction t with
 |zero=>
  intro b o f p r h;simp[Zfi]at h
 |succ t y=>
  intro b o f p r h;unfold Zfi at h;obtain⟨u,h⟩|⟨u,h⟩:=Zag h
  .obtain⟨z,A,h⟩:=Yt h;obtain⟨v,h⟩:=Zao h;exact Ye 14 [rz,rz,⟨[(6,.c ((p++([(g.getD (b.getD f.toNat (0:Int)).toNat Zaa.d)]:List Zaa)).length) (Zam Zaa.c Zaa.d (p++([(g.getD (b.getD f.toNat (0:Int)).toNat Zaa.d)]:List Zaa))))],[],[],[],[],[(5,(([(g.getD (b.getD f.toNat (0:Int)).toNat Zaa.d)]:List Zaa).length,Zam Zaa.c Zaa.d ([(g.getD (b.getD f.toNat (0:Int)).toNat Zaa.d)]:List Zaa)))],[]⟩,rz] [true] (md [0,5,11,12,13] [23] [(23,5)]) (mu u z A (mN (e:=Zaa.c) Zaa.d 10 (fun _=>rfl) ([(g.getD (b.getD f.toNat (0:Int)).toNat Zaa.d)]:List Zaa)) (Zcq (sz:=10) (e:=Zaa.c) (d:=Zaa.d) p ([(g.getD (b.getD f.toNat (0:Int)).toNat Zaa.d)]:List Zaa)) v.1 v.2) (y b o (Zaq f 1) (p++([(g.getD (b.getD f.toNat (0:Int)).toNat Zaa.d)]:List Zaa)) r h)
  .apply Yc h 8 [rz,rz] [false] (md [4] [5] [(5,99999)]) (ml u)
def ZdR(d:List Zaa)(b:List Int):Option (List Zaa):=need (0<=(0:Int)/\(0:Int)<=(b.length:Int)/\(b.length:Int)<=140737488355328/\(b.length:Int) * 80<=140737488355328)<|Zfi d (((b.length:Int)-(0:Int)).toNat+2) b (b.length:Int) (0:Int) ([]:List Zaa)
theorem Zui(f:List Zaa)(b:List Int)(r:List Zaa)(e:ZdR f b=some r):Yq 257 [] [Ym f,.one (cL 1 mi (0:Int) b)] [(me 99999 44 10 Zaa.c Zaa.d r)] (.one (.osl 99999 r.length)):=by
 refine Yw Tryz.func257 fun S0 w0=>?_;unfold ZdR at e;obtain⟨o1,e⟩:=Zao e;exact Ye 8 [rz,rA [(2,.c 0 (Zam Zaa.c Zaa.d ([]:List Zaa)))],rz] [] ⟨[],[],[],[(5,(([]:List Zaa).length))],[],[0,5,11,12,13],[10],[(10,5)]⟩ (mt (show (0:Int)=((0:Nat):Int)from rfl) o1.2.1 o1.2.2.1 o1.2.2.2 (show ∀i j,i<0->j<10->ZrP (([.lit (.bool false),.lit (.int .u64 (0)),.lit (.int .u64 (0)),.lit (.int .i64 (0)),.lit (.bool false),.lit (.int .i64 (0)),.lit (.int .i64 (0)),.lit (.int .i64 (0)),.lit (.int .i64 (0)),.lit (.int .i64 (0))]:List C).getD j .junk) (Zam Zaa.c Zaa.d ([]:List Zaa) i j)from(fun i j h=>absurd h (Nat.not_lt_zero i))) (show ([]:List Zaa).length=0 from rfl)) (Zss S0 w0 f (((b.length:Int)-(0:Int)).toNat+2) b (b.length:Int) (0:Int) ([]:List Zaa) r e)
theorem Zkq(b:List Zaa)(d:List Int)(r:List Zaa)(e:ZdR b d=some r):Yp 257 [Ym b,.one (cL 1 mi (0:Int) d)] (Ym r):=(Zui b d r e).pure
def ZiS(b:Int)(e:Bool)(d:Zaa):Option Bool:=bif e then some true else bif(b==(2:Int))then some (decide (d.fPing>(0:Int)))else bif(b==(3:Int))then some (decide (d.fWork>(0:Int)))else some false
theorem Zni(h:Int)(i:Bool)(d:Zaa)(r:Bool)(b:ZiS h i d=some r):Yr 19 S0 w0 Tryz.f320 (Yk r) [1,0,1,0,1] ⟨[(2,.one (.ptr 2 0)),(5,(Yj h)),(6,(Yk i))],[(2,.box (Zaa.c d))]⟩:=by
 unfold ZiS at b;obtain⟨e,b⟩|⟨e,b⟩:=Zag b
 .apply Ya b 3 [rz] [true] (ml e)
 .obtain⟨f,b⟩|⟨f,b⟩:=Zag b
  .apply Ya b 6 [rz,rz] [false,true] (mn e f)
  .obtain⟨g,b⟩|⟨g,b⟩:=Zag b
   .apply Ya b 9 [rz,rz,rz] [false,false,true] (mo e f g)
   .apply Ya b 11 [rz,rz,rz] [false,false,false] (mo e f g)
def Zla(d:Zaa)(b:Int):Option Bool:=bif(b==(1:Int))then ZiS b (b==(1:Int)) d else ZiS b (b==(4:Int)) d
theorem ZuT(e:Zaa)(b:Int)(r:Bool)(d:Zla e b=some r):Yp 320 [.agg (Zaa.c e),Yj b] (Yk r):=by
 refine Yv Tryz.func320 fun S0 w0=>?_;unfold Zla at d;obtain⟨f,d⟩|⟨f,d⟩:=Zag d
 .exact Ye 11 [rz,rz,rz] [true] (ma [2,5,6] [2]) (ml f) (Zni S0 w0 b (b==(1:Int)) e r d)
 .exact Ye 11 [rz,rz,rz,rz] [false] (ma [2,5,6] [2]) (ml f) (Zni S0 w0 b (b==(4:Int)) e r d)
def ZkC(b:Zah):Option Int:=bif b.fV6 then some (32:Int)else some (16:Int)
theorem Zws(e:Zah)(r:Int)(b:ZkC e=some r):Yp 260 [.agg (Zah.c e)] (Yj r):=by
 refine Yv Tryz.func260 fun S0 w0=>?_;unfold ZkC at b;obtain⟨d,b⟩|⟨d,b⟩:=Zag b
 .apply Ya b 8 [rz,rz,rz] [true] (ml d)
 .apply Ya b 9 [rz,rz,rz] [false] (ml d)
def ZgK(b:Zah):Option Zae:=(ZkC b).bind fun d=>(Zhb b d).bind fun e=>some e.1
theorem ZiE(d:Zah)(r:Zae)(b:ZgK d=some r):Yp 186 [.agg (Zah.c d)] (.agg (Zae.c r)):=by
 refine Yv Tryz.func186 fun S0 w0=>?_;unfold ZgK at b;obtain⟨f,e,g,h,b⟩:=Yu b;apply Ya b 6 [rz,rA [(2,aI f),(3,.r (.tup [(true,Zae.c e.1),(false,cB e.2)]) [])],rz] [] (mn (Zws _ _ g) (ZhO _ _ _ h))
def Znl(b:Int):Option Int:=some (IntKind.wrap .u64 (((BitVec.ofInt (IntKind.bits .u64) (IntKind.wrap .u64 ((IntKind.wrap .u64 (((BitVec.ofInt (IntKind.bits .u64) (IntKind.wrap .u64 ((IntKind.wrap .u64 (((BitVec.ofInt (IntKind.bits .u64) b) ^^^ (BitVec.ofInt (IntKind.bits .u64) (Int.fdiv b (2 ^ (min (30:Int).toNat (IntKind.bits .u64)))))).toNat:Int))*(13787848793156543929:Int)))) ^^^ (BitVec.ofInt (IntKind.bits .u64) (Int.fdiv (IntKind.wrap .u64 ((IntKind.wrap .u64 (((BitVec.ofInt (IntKind.bits .u64) b) ^^^ (BitVec.ofInt (IntKind.bits .u64) (Int.fdiv b (2 ^ (min (30:Int).toNat (IntKind.bits .u64)))))).toNat:Int))*(13787848793156543929:Int))) (2 ^ (min (27:Int).toNat (IntKind.bits .u64)))))).toNat:Int))*(10723151780598845931:Int)))) ^^^ (BitVec.ofInt (IntKind.bits .u64) (Int.fdiv (IntKind.wrap .u64 ((IntKind.wrap .u64 (((BitVec.ofInt (IntKind.bits .u64) (IntKind.wrap .u64 ((IntKind.wrap .u64 (((BitVec.ofInt (IntKind.bits .u64) b) ^^^ (BitVec.ofInt (IntKind.bits .u64) (Int.fdiv b (2 ^ (min (30:Int).toNat (IntKind.bits .u64)))))).toNat:Int))*(13787848793156543929:Int)))) ^^^ (BitVec.ofInt (IntKind.bits .u64) (Int.fdiv (IntKind.wrap .u64 ((IntKind.wrap .u64 (((BitVec.ofInt (IntKind.bits .u64) b) ^^^ (BitVec.ofInt (IntKind.bits .u64) (Int.fdiv b (2 ^ (min (30:Int).toNat (IntKind.bits .u64)))))).toNat:Int))*(13787848793156543929:Int))) (2 ^ (min (27:Int).toNat (IntKind.bits .u64)))))).toNat:Int))*(10723151780598845931:Int))) (2 ^ (min (31:Int).toNat (IntKind.bits .u64)))))).toNat:Int))
theorem ZqN(b r:Int)(d:Znl b=some r):Yp 390 [.one (.lit (.int .u64 b))] (.one (.lit (.int .u64 r))):=by
 refine Yv Tryz.func390 fun S0 w0=>?_;unfold Znl at d;apply Ya d 8 [rz,rz,rz,rz] [] (mo (mR (30:Int) rfl) (mR (27:Int) rfl) (mR (31:Int) rfl))
def ZeB(d b:Int):Option Int:=need (0<=(IntKind.wrap .u64 (((BitVec.ofInt (IntKind.bits .u64) (IntKind.wrap .u64 b)) &&& (BitVec.ofInt (IntKind.bits .u64) (63:Int))).toNat:Int)))<|need (0<=(IntKind.wrap .u64 ((64:Int)-(IntKind.wrap .u64 (((BitVec.ofInt (IntKind.bits .u64) (IntKind.wrap .u64 b)) &&& (BitVec.ofInt (IntKind.bits .u64) (63:Int))).toNat:Int)))))<|some (IntKind.wrap .u64 (((BitVec.ofInt (IntKind.bits .u64) (IntKind.wrap .u64 (d * 2 ^ (min (IntKind.wrap .u64 (((BitVec.ofInt (IntKind.bits .u64) (IntKind.wrap .u64 b)) &&& (BitVec.ofInt (IntKind.bits .u64) (63:Int))).toNat:Int)).toNat (IntKind.bits .u64))))) ||| (BitVec.ofInt (IntKind.bits .u64) (Int.fdiv d (2 ^ (min (IntKind.wrap .u64 ((64:Int)-(IntKind.wrap .u64 (((BitVec.ofInt (IntKind.bits .u64) (IntKind.wrap .u64 b)) &&& (BitVec.ofInt (IntKind.bits .u64) (63:Int))).toNat:Int)))).toNat (IntKind.bits .u64)))))).toNat:Int))
theorem Znm(d e r:Int)(b:ZeB d e=some r):Yp 391 [.one (.lit (.int .u64 d)),Yj e] (.one (.lit (.int .u64 r))):=by
 refine Yv Tryz.func391 fun S0 w0=>?_;unfold ZeB at b;obtain⟨o1,f,b⟩:=Yt b;apply Ya b 6 [rz,rz,rz] [] (mn o1 f)
end Go.Proofs.YtmnloegcpaahcaaGreat
