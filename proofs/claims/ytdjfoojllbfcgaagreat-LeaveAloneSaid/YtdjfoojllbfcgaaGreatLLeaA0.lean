import Derived.Test.YtdjfoojllbfcgaaGreatLLeaT
namespace Go.Proofs.YtdjfoojllbfcgaaGreat
open Go.RowKit Go.Lib Go.Shelf
set_option linter.unusedVariables false
set_option maxRecDepth 100000
theorem ZpD : (Tryz.prog.fieldsOf 28).toList = [{ name := "V6", type := 4, offset := 0, embedded := false, tag := "", pkgPath := "", byteOffset := 0 }, { name := "Hi", type := 22, offset := 1, embedded := false, tag := "", pkgPath := "", byteOffset := 8 }, { name := "Lo", type := 22, offset := 2, embedded := false, tag := "", pkgPath := "", byteOffset := 16 }] := by kernel_rfl
theorem Zle(d:Nat)(x y:Zaj)(w:World):(Op.equalIn (d+2) 28 (.agg #[.bool x.fV6,.int .u64 x.fHi,.int .u64 x.fLo]) (.agg #[.bool y.fV6,.int .u64 y.fHi,.int .u64 y.fLo])).run Tryz.prog w=.ok (decide (x=y)) w:=by rw[run_equalIn_struct w (d+1) _ _ _ (by kernel_rfl) (by kernel_rfl)];simp only[ZpD,Op.eqFields];simp[go_sem];cases x;cases y;simp only[Zaj.mk.injEq];(repeat' split)<;>simp_all
theorem ZjO(x y:Zaj)(xo yo:Operand):∀w,(do eqGuard .eql 28 xo yo (.agg #[.bool x.fV6,.int .u64 x.fHi,.int .u64 x.fLo]) (.agg #[.bool y.fV6,.int .u64 y.fHi,.int .u64 y.fLo]);binOp .eql 28 (.agg #[.bool x.fV6,.int .u64 x.fHi,.int .u64 x.fLo]) (.agg #[.bool y.fV6,.int .u64 y.fHi,.int .u64 y.fLo]):Sem Value).run Tryz.prog w=.ok (.bool (decide (x=y))) w:=by
 intro w;have hg:(eqGuard .eql 28 xo yo (.agg #[.bool x.fV6,.int .u64 x.fHi,.int .u64 x.fLo]) (.agg #[.bool y.fV6,.int .u64 y.fHi,.int .u64 y.fLo])).run Tryz.prog w=.ok () w:=by simp[eqGuard,Sem.run_bind,Tryz.eqGuardType28]
 rw[Sem.run_bind,hg,Result.andThen_ok,run_eql_struct];exact congrArg (fun r:Result Bool=>r.andThen fun b w'=>Result.ok (Value.bool b) w') (Zle 9998 x y w)
theorem Zqt : (Tryz.prog.fieldsOf 30).toList = [{ name := "Addr", type := 28, offset := 0, embedded := false, tag := "", pkgPath := "", byteOffset := 0 }, { name := "Port", type := 3, offset := 3, embedded := false, tag := "", pkgPath := "", byteOffset := 24 }] := by kernel_rfl
theorem Zme(d:Nat)(x y:Zag)(w:World):(Op.equalIn (d+4) 30 (.agg #[.bool x.fAddr.fV6,.int .u64 x.fAddr.fHi,.int .u64 x.fAddr.fLo,.int .i64 x.fPort]) (.agg #[.bool y.fAddr.fV6,.int .u64 y.fAddr.fHi,.int .u64 y.fAddr.fLo,.int .i64 y.fPort])).run Tryz.prog w=.ok (decide (x=y)) w:=by rw[run_equalIn_struct w (d+3) _ _ _ (by kernel_rfl) (by kernel_rfl)];simp only[Zqt,Op.eqFields];simp[go_sem,Zle];cases x;cases y;simp only[Zag.mk.injEq];(repeat' split)<;>simp_all
theorem ZhW(x y:Zag)(xo yo:Operand):∀w,(do eqGuard .eql 30 xo yo (.agg #[.bool x.fAddr.fV6,.int .u64 x.fAddr.fHi,.int .u64 x.fAddr.fLo,.int .i64 x.fPort]) (.agg #[.bool y.fAddr.fV6,.int .u64 y.fAddr.fHi,.int .u64 y.fAddr.fLo,.int .i64 y.fPort]);binOp .eql 30 (.agg #[.bool x.fAddr.fV6,.int .u64 x.fAddr.fHi,.int .u64 x.fAddr.fLo,.int .i64 x.fPort]) (.agg #[.bool y.fAddr.fV6,.int .u64 y.fAddr.fHi,.int .u64 y.fAddr.fLo,.int .i64 y.fPort]):Sem Value).run Tryz.prog w=.ok (.bool (decide (x=y))) w:=by
 intro w;have hg:(eqGuard .eql 30 xo yo (.agg #[.bool x.fAddr.fV6,.int .u64 x.fAddr.fHi,.int .u64 x.fAddr.fLo,.int .i64 x.fPort]) (.agg #[.bool y.fAddr.fV6,.int .u64 y.fAddr.fHi,.int .u64 y.fAddr.fLo,.int .i64 y.fPort])).run Tryz.prog w=.ok () w:=by simp[eqGuard,Sem.run_bind,Tryz.eqGuardType30]
 rw[Sem.run_bind,hg,Result.andThen_ok,run_eql_struct];exact congrArg (fun r:Result Bool=>r.andThen fun b w'=>Result.ok (Value.bool b) w') (Zme 9996 x y w)
theorem Zqs : (Tryz.prog.fieldsOf 32).toList = [{ name := "Addr", type := 28, offset := 0, embedded := false, tag := "", pkgPath := "", byteOffset := 0 }, { name := "Bits", type := 3, offset := 3, embedded := false, tag := "", pkgPath := "", byteOffset := 24 }] := by kernel_rfl
theorem Zpn(d:Nat)(x y:Zas)(w:World):(Op.equalIn (d+4) 32 (.agg #[.bool x.fAddr.fV6,.int .u64 x.fAddr.fHi,.int .u64 x.fAddr.fLo,.int .i64 x.fBits]) (.agg #[.bool y.fAddr.fV6,.int .u64 y.fAddr.fHi,.int .u64 y.fAddr.fLo,.int .i64 y.fBits])).run Tryz.prog w=.ok (decide (x=y)) w:=by rw[run_equalIn_struct w (d+3) _ _ _ (by kernel_rfl) (by kernel_rfl)];simp only[Zqs,Op.eqFields];simp[go_sem,Zle];cases x;cases y;simp only[Zas.mk.injEq];(repeat' split)<;>simp_all
theorem ZkA(x y:Zas)(xo yo:Operand):∀w,(do eqGuard .eql 32 xo yo (.agg #[.bool x.fAddr.fV6,.int .u64 x.fAddr.fHi,.int .u64 x.fAddr.fLo,.int .i64 x.fBits]) (.agg #[.bool y.fAddr.fV6,.int .u64 y.fAddr.fHi,.int .u64 y.fAddr.fLo,.int .i64 y.fBits]);binOp .eql 32 (.agg #[.bool x.fAddr.fV6,.int .u64 x.fAddr.fHi,.int .u64 x.fAddr.fLo,.int .i64 x.fBits]) (.agg #[.bool y.fAddr.fV6,.int .u64 y.fAddr.fHi,.int .u64 y.fAddr.fLo,.int .i64 y.fBits]):Sem Value).run Tryz.prog w=.ok (.bool (decide (x=y))) w:=by
 intro w;have hg:(eqGuard .eql 32 xo yo (.agg #[.bool x.fAddr.fV6,.int .u64 x.fAddr.fHi,.int .u64 x.fAddr.fLo,.int .i64 x.fBits]) (.agg #[.bool y.fAddr.fV6,.int .u64 y.fAddr.fHi,.int .u64 y.fAddr.fLo,.int .i64 y.fBits])).run Tryz.prog w=.ok () w:=by simp[eqGuard,Sem.run_bind,Tryz.eqGuardType32]
 rw[Sem.run_bind,hg,Result.andThen_ok,run_eql_struct];exact congrArg (fun r:Result Bool=>r.andThen fun b w'=>Result.ok (Value.bool b) w') (Zpn 9996 x y w)
theorem ZoZ : (Tryz.prog.fieldsOf 42).toList = [{ name := "Points", type := 3, offset := 0, embedded := false, tag := "", pkgPath := "", byteOffset := 0 }, { name := "At", type := 3, offset := 1, embedded := false, tag := "", pkgPath := "", byteOffset := 8 }] := by kernel_rfl
theorem ZrA(d:Nat)(x y:Zam)(w:World):(Op.equalIn (d+2) 42 (.agg #[.int .i64 x.fPoints,.int .i64 x.fAt]) (.agg #[.int .i64 y.fPoints,.int .i64 y.fAt])).run Tryz.prog w=.ok (decide (x=y)) w:=by rw[run_equalIn_struct w (d+1) _ _ _ (by kernel_rfl) (by kernel_rfl)];simp only[ZoZ,Op.eqFields];simp[go_sem];cases x;cases y;simp only[Zam.mk.injEq];(repeat' split)<;>simp_all
theorem ZpC : (Tryz.prog.fieldsOf 44).toList = [{ name := "End", type := 30, offset := 0, embedded := false, tag := "", pkgPath := "", byteOffset := 0 }, { name := "In", type := 4, offset := 4, embedded := false, tag := "", pkgPath := "", byteOffset := 32 }, { name := "Since", type := 3, offset := 5, embedded := false, tag := "", pkgPath := "", byteOffset := 40 }, { name := "Score", type := 42, offset := 6, embedded := false, tag := "", pkgPath := "", byteOffset := 48 }, { name := "Ping", type := 3, offset := 8, embedded := false, tag := "", pkgPath := "", byteOffset := 64 }, { name := "Work", type := 3, offset := 9, embedded := false, tag := "", pkgPath := "", byteOffset := 72 }] := by kernel_rfl
theorem Ztl(d:Nat)(x y:Zaa)(w:World):(Op.equalIn (d+6) 44 (.agg #[.bool x.fEnd.fAddr.fV6,.int .u64 x.fEnd.fAddr.fHi,.int .u64 x.fEnd.fAddr.fLo,.int .i64 x.fEnd.fPort,.bool x.fIn,.int .i64 x.fSince,.int .i64 x.fScore.fPoints,.int .i64 x.fScore.fAt,.int .i64 x.fPing,.int .i64 x.fWork]) (.agg #[.bool y.fEnd.fAddr.fV6,.int .u64 y.fEnd.fAddr.fHi,.int .u64 y.fEnd.fAddr.fLo,.int .i64 y.fEnd.fPort,.bool y.fIn,.int .i64 y.fSince,.int .i64 y.fScore.fPoints,.int .i64 y.fScore.fAt,.int .i64 y.fPing,.int .i64 y.fWork])).run Tryz.prog w=.ok (decide (x=y)) w:=by rw[run_equalIn_struct w (d+5) _ _ _ (by kernel_rfl) (by kernel_rfl)];simp only[ZpC,Op.eqFields];simp[go_sem,Zme,ZrA];cases x;cases y;simp only[Zaa.mk.injEq];(repeat' split)<;>simp_all
theorem Zpg(x y:Zaa)(xo yo:Operand):∀w,(do eqGuard .neq 44 xo yo (.agg #[.bool x.fEnd.fAddr.fV6,.int .u64 x.fEnd.fAddr.fHi,.int .u64 x.fEnd.fAddr.fLo,.int .i64 x.fEnd.fPort,.bool x.fIn,.int .i64 x.fSince,.int .i64 x.fScore.fPoints,.int .i64 x.fScore.fAt,.int .i64 x.fPing,.int .i64 x.fWork]) (.agg #[.bool y.fEnd.fAddr.fV6,.int .u64 y.fEnd.fAddr.fHi,.int .u64 y.fEnd.fAddr.fLo,.int .i64 y.fEnd.fPort,.bool y.fIn,.int .i64 y.fSince,.int .i64 y.fScore.fPoints,.int .i64 y.fScore.fAt,.int .i64 y.fPing,.int .i64 y.fWork]);binOp .neq 44 (.agg #[.bool x.fEnd.fAddr.fV6,.int .u64 x.fEnd.fAddr.fHi,.int .u64 x.fEnd.fAddr.fLo,.int .i64 x.fEnd.fPort,.bool x.fIn,.int .i64 x.fSince,.int .i64 x.fScore.fPoints,.int .i64 x.fScore.fAt,.int .i64 x.fPing,.int .i64 x.fWork]) (.agg #[.bool y.fEnd.fAddr.fV6,.int .u64 y.fEnd.fAddr.fHi,.int .u64 y.fEnd.fAddr.fLo,.int .i64 y.fEnd.fPort,.bool y.fIn,.int .i64 y.fSince,.int .i64 y.fScore.fPoints,.int .i64 y.fScore.fAt,.int .i64 y.fPing,.int .i64 y.fWork]):Sem Value).run Tryz.prog w=.ok (.bool (!decide (x=y))) w:=by
 intro w;have hg:(eqGuard .neq 44 xo yo (.agg #[.bool x.fEnd.fAddr.fV6,.int .u64 x.fEnd.fAddr.fHi,.int .u64 x.fEnd.fAddr.fLo,.int .i64 x.fEnd.fPort,.bool x.fIn,.int .i64 x.fSince,.int .i64 x.fScore.fPoints,.int .i64 x.fScore.fAt,.int .i64 x.fPing,.int .i64 x.fWork]) (.agg #[.bool y.fEnd.fAddr.fV6,.int .u64 y.fEnd.fAddr.fHi,.int .u64 y.fEnd.fAddr.fLo,.int .i64 y.fEnd.fPort,.bool y.fIn,.int .i64 y.fSince,.int .i64 y.fScore.fPoints,.int .i64 y.fScore.fAt,.int .i64 y.fPing,.int .i64 y.fWork])).run Tryz.prog w=.ok () w:=by simp[eqGuard,Sem.run_bind,Tryz.eqGuardType44]
 rw[Sem.run_bind,hg,Result.andThen_ok,run_neq_struct];exact congrArg (fun r:Result Bool=>r.andThen fun b w'=>Result.ok (Value.bool (!b)) w') (Ztl 9994 x y w)
theorem Zpa : (Tryz.prog.fieldsOf 106).toList = [{ name := "End", type := 30, offset := 0, embedded := false, tag := "", pkgPath := "", byteOffset := 0 }, { name := "State", type := 3, offset := 4, embedded := false, tag := "", pkgPath := "", byteOffset := 32 }, { name := "Fails", type := 3, offset := 5, embedded := false, tag := "", pkgPath := "", byteOffset := 40 }, { name := "Next", type := 3, offset := 6, embedded := false, tag := "", pkgPath := "", byteOffset := 48 }] := by kernel_rfl
theorem ZrB(d:Nat)(x y:Zac)(w:World):(Op.equalIn (d+6) 106 (.agg #[.bool x.fEnd.fAddr.fV6,.int .u64 x.fEnd.fAddr.fHi,.int .u64 x.fEnd.fAddr.fLo,.int .i64 x.fEnd.fPort,.int .i64 x.fState,.int .i64 x.fFails,.int .i64 x.fNext]) (.agg #[.bool y.fEnd.fAddr.fV6,.int .u64 y.fEnd.fAddr.fHi,.int .u64 y.fEnd.fAddr.fLo,.int .i64 y.fEnd.fPort,.int .i64 y.fState,.int .i64 y.fFails,.int .i64 y.fNext])).run Tryz.prog w=.ok (decide (x=y)) w:=by rw[run_equalIn_struct w (d+5) _ _ _ (by kernel_rfl) (by kernel_rfl)];simp only[Zpa,Op.eqFields];simp[go_sem,Zme];cases x;cases y;simp only[Zac.mk.injEq];(repeat' split)<;>simp_all
theorem ZsA(x y:Zac)(xo yo:Operand):∀w,(do eqGuard .neq 106 xo yo (.agg #[.bool x.fEnd.fAddr.fV6,.int .u64 x.fEnd.fAddr.fHi,.int .u64 x.fEnd.fAddr.fLo,.int .i64 x.fEnd.fPort,.int .i64 x.fState,.int .i64 x.fFails,.int .i64 x.fNext]) (.agg #[.bool y.fEnd.fAddr.fV6,.int .u64 y.fEnd.fAddr.fHi,.int .u64 y.fEnd.fAddr.fLo,.int .i64 y.fEnd.fPort,.int .i64 y.fState,.int .i64 y.fFails,.int .i64 y.fNext]);binOp .neq 106 (.agg #[.bool x.fEnd.fAddr.fV6,.int .u64 x.fEnd.fAddr.fHi,.int .u64 x.fEnd.fAddr.fLo,.int .i64 x.fEnd.fPort,.int .i64 x.fState,.int .i64 x.fFails,.int .i64 x.fNext]) (.agg #[.bool y.fEnd.fAddr.fV6,.int .u64 y.fEnd.fAddr.fHi,.int .u64 y.fEnd.fAddr.fLo,.int .i64 y.fEnd.fPort,.int .i64 y.fState,.int .i64 y.fFails,.int .i64 y.fNext]):Sem Value).run Tryz.prog w=.ok (.bool (!decide (x=y))) w:=by
 intro w;have hg:(eqGuard .neq 106 xo yo (.agg #[.bool x.fEnd.fAddr.fV6,.int .u64 x.fEnd.fAddr.fHi,.int .u64 x.fEnd.fAddr.fLo,.int .i64 x.fEnd.fPort,.int .i64 x.fState,.int .i64 x.fFails,.int .i64 x.fNext]) (.agg #[.bool y.fEnd.fAddr.fV6,.int .u64 y.fEnd.fAddr.fHi,.int .u64 y.fEnd.fAddr.fLo,.int .i64 y.fEnd.fPort,.int .i64 y.fState,.int .i64 y.fFails,.int .i64 y.fNext])).run Tryz.prog w=.ok () w:=by simp[eqGuard,Sem.run_bind,Tryz.eqGuardType106]
 rw[Sem.run_bind,hg,Result.andThen_ok,run_neq_struct];exact congrArg (fun r:Result Bool=>r.andThen fun b w'=>Result.ok (Value.bool (!b)) w') (ZrB 9994 x y w)
theorem Zqu : (Tryz.prog.fieldsOf 146).toList = [{ name := "Net", type := 32, offset := 0, embedded := false, tag := "", pkgPath := "", byteOffset := 0 }, { name := "Until", type := 3, offset := 4, embedded := false, tag := "", pkgPath := "", byteOffset := 32 }] := by kernel_rfl
theorem ZtU(d:Nat)(x y:Zab)(w:World):(Op.equalIn (d+6) 146 (.agg #[.bool x.fNet.fAddr.fV6,.int .u64 x.fNet.fAddr.fHi,.int .u64 x.fNet.fAddr.fLo,.int .i64 x.fNet.fBits,.int .i64 x.fUntil]) (.agg #[.bool y.fNet.fAddr.fV6,.int .u64 y.fNet.fAddr.fHi,.int .u64 y.fNet.fAddr.fLo,.int .i64 y.fNet.fBits,.int .i64 y.fUntil])).run Tryz.prog w=.ok (decide (x=y)) w:=by rw[run_equalIn_struct w (d+5) _ _ _ (by kernel_rfl) (by kernel_rfl)];simp only[Zqu,Op.eqFields];simp[go_sem,Zpn];cases x;cases y;simp only[Zab.mk.injEq];(repeat' split)<;>simp_all
theorem Zvh(x y:Zab)(xo yo:Operand):∀w,(do eqGuard .neq 146 xo yo (.agg #[.bool x.fNet.fAddr.fV6,.int .u64 x.fNet.fAddr.fHi,.int .u64 x.fNet.fAddr.fLo,.int .i64 x.fNet.fBits,.int .i64 x.fUntil]) (.agg #[.bool y.fNet.fAddr.fV6,.int .u64 y.fNet.fAddr.fHi,.int .u64 y.fNet.fAddr.fLo,.int .i64 y.fNet.fBits,.int .i64 y.fUntil]);binOp .neq 146 (.agg #[.bool x.fNet.fAddr.fV6,.int .u64 x.fNet.fAddr.fHi,.int .u64 x.fNet.fAddr.fLo,.int .i64 x.fNet.fBits,.int .i64 x.fUntil]) (.agg #[.bool y.fNet.fAddr.fV6,.int .u64 y.fNet.fAddr.fHi,.int .u64 y.fNet.fAddr.fLo,.int .i64 y.fNet.fBits,.int .i64 y.fUntil]):Sem Value).run Tryz.prog w=.ok (.bool (!decide (x=y))) w:=by
 intro w;have hg:(eqGuard .neq 146 xo yo (.agg #[.bool x.fNet.fAddr.fV6,.int .u64 x.fNet.fAddr.fHi,.int .u64 x.fNet.fAddr.fLo,.int .i64 x.fNet.fBits,.int .i64 x.fUntil]) (.agg #[.bool y.fNet.fAddr.fV6,.int .u64 y.fNet.fAddr.fHi,.int .u64 y.fNet.fAddr.fLo,.int .i64 y.fNet.fBits,.int .i64 y.fUntil])).run Tryz.prog w=.ok () w:=by simp[eqGuard,Sem.run_bind,Tryz.eqGuardType146]
 rw[Sem.run_bind,hg,Result.andThen_ok,run_neq_struct];exact congrArg (fun r:Result Bool=>r.andThen fun b w'=>Result.ok (Value.bool (!b)) w') (ZtU 9994 x y w)
def Zfj(a0:Zap):Option Bool:=bif(decide (((a0.fBans.length:Nat):Int)≤(20:Int)))then bif(decide (((a0.fBook.length:Nat):Int)≤(20:Int)))then some (decide (((a0.fPeers.length:Nat):Int)≤(20:Int)))else some false else some false
theorem Zjf(a0:Zap)(r:Bool)(hf:Zfj a0=some r):Zaz Tryz.prog 17 [.agg (Zap.c a0)] (.one (.lit (.bool r))):=by
 refine Zaz.of Tryz.func17 rfl rfl rfl rfl fun S0 w0=>?_;unfold Zfj at hf;rcases Zah hf with⟨h1,hf⟩|⟨h1,hf⟩
 ·rcases Zah hf with⟨h2,hf⟩|⟨h2,hf⟩
  ·obtain rfl:=oi hf;exact Zai Zak 4 [rz,rB [(4,true),(10,true)]] [] [] [] [] (.c h1 (.c h2 .n)) (by kernel_rfl) rfl
  ·obtain rfl:=oi hf;exact Zai Zak 4 [rz,rB [(4,true),(10,false)]] [] [] [] [] (.c h1 (.c h2 .n)) (by kernel_rfl) rfl
 ·obtain rfl:=oi hf;exact Zai Zak 4 [rz,rB [(4,false)]] [] [] [] [] (.c h1 .n) (by kernel_rfl) rfl
def Zba(a0 a1 a2:Int):Option Bool:=bif(decide (a0≥a1))then some (decide (a0≤a2))else some false
theorem ZaQ(a0 a1 a2:Int)(r:Bool)(hf:Zba a0 a1 a2=some r):Zaz Tryz.prog 45 [.one (.lit (.int .i64 a0)),.one (.lit (.int .i64 a1)),.one (.lit (.int .i64 a2))] (.one (.lit (.bool r))):=by
 refine Zaz.of Tryz.func45 rfl rfl rfl rfl fun S0 w0=>?_;unfold Zba at hf;rcases Zah hf with⟨h1,hf⟩|⟨h1,hf⟩
 ·obtain rfl:=oi hf;exact Zai Zak 4 [rz,rB [(3,true)]] [] [] [] [] (.c h1 .n) (by kernel_rfl) rfl
 ·obtain rfl:=oi hf;exact Zai Zak 4 [rz,rB [(3,false)]] [] [] [] [] (.c h1 .n) (by kernel_rfl) rfl
def ZcK(v3:Bool)(b1:ZaB)(v4:Bool):Option Bool:=(Zba b1.fHalf (1:Int) (1073741824:Int)).bind fun x10=>bif x10 then(Zba b1.fLimit (1:Int) (10000:Int)).bind fun x11=>bif x11 then(Zba b1.fBanFor (1:Int) (1073741824:Int)).bind fun x12=>bif x12 then(Zba b1.fBase (1:Int) (1073741824:Int)).bind fun x13=>bif x13 then(Zba b1.fCap b1.fBase (1073741824:Int)).bind fun x14=>bif x14 then(Zba b1.fJitter (0:Int) (1073741824:Int)).bind fun x15=>bif v3 then bif v4 then bif x15 then some (decide (b1.fSecret≤(9223372036854775807:Int)))else some false else some false else some false else bif v3 then bif v4 then some false else some false else some false else bif v3 then bif v4 then some false else some false else some false else bif v3 then bif v4 then some false else some false else some false else bif v3 then bif v4 then some false else some false else some false else bif v3 then bif v4 then some false else some false else some false
theorem Zep(S0:Nat→Prop)(w0:ZaW)(v3:Bool)(b1:ZaB)(v4 r:Bool)(hf:ZcK v3 b1 v4=some r):Good Tryz.prog 93 S0 w0 (bodyPost Tryz.prog Tryz.f11 (Post S0 w0 (.one (.lit (.bool r))))) (at_ [1,1,1] (Zbl Tryz.f11)) ⟨[(1,.one (.ptr 1 0)),(3,.one (.lit (.bool v3))),(4,.one (.lit (.bool v4)))],[(1,.box [.lit (.int .i64 b1.fMaxIn),.lit (.int .i64 b1.fMaxOut),.lit (.int .i64 b1.fShards),.lit (.int .i64 b1.fMaxBans),.lit (.int .i64 b1.fMaxBook),.lit (.int .u64 b1.fSecret),.lit (.int .i64 b1.fQuota.fGroup),.lit (.int .i64 b1.fQuota.fPing),.lit (.int .i64 b1.fQuota.fWork),.lit (.int .i64 b1.fQuota.fTime),.lit (.int .i64 b1.fHalf),.lit (.int .i64 b1.fLimit),.lit (.int .i64 b1.fBanFor),.lit (.int .i64 b1.fBase),.lit (.int .i64 b1.fCap),.lit (.int .i64 b1.fJitter)])]⟩:=by
 unfold ZcK at hf;obtain⟨x10,q17,hf⟩:=Zaf hf;rcases Zah hf with⟨h18,hf⟩|⟨h18,hf⟩
 ·obtain⟨x11,q19,hf⟩:=Zaf hf;have O1:Obl _:=(.c (ZaQ _ _ _ _ q17) (.c h18 (.c (ZaQ _ _ _ _ q19) .n)));rcases Zah hf with⟨h20,hf⟩|⟨h20,hf⟩
  ·obtain⟨x12,q21,hf⟩:=Zaf hf;have O2:Obl _:=(O1.app (.c h20 (.c (ZaQ _ _ _ _ q21) .n)));rcases Zah hf with⟨h22,hf⟩|⟨h22,hf⟩
   ·obtain⟨x13,q23,hf⟩:=Zaf hf;have O3:Obl _:=(O2.app (.c h22 (.c (ZaQ _ _ _ _ q23) .n)));rcases Zah hf with⟨h24,hf⟩|⟨h24,hf⟩
    ·obtain⟨x14,q25,hf⟩:=Zaf hf;have O4:Obl _:=(O3.app (.c h24 (.c (ZaQ _ _ _ _ q25) .n)));rcases Zah hf with⟨h26,hf⟩|⟨h26,hf⟩
     ·obtain⟨x15,q27,hf⟩:=Zaf hf
      let R5:List RA:=[⟨[(2,aB x10),(6,aB x11),(11,aB x12),(16,aB x13),(23,aB x14),(28,aB x15)],[(3,true),(8,true),(13,true),(18,true),(25,true)],[],[],[],[],[]⟩]
      have O6:Obl _:=(O4.app (.c h26 (.c (ZaQ _ _ _ _ q27) .n)));rcases Zah hf with⟨h28,hf⟩|⟨h28,hf⟩
      ·rcases Zah hf with⟨h29,hf⟩|⟨h29,hf⟩
       ·rcases Zah hf with⟨h30,hf⟩|⟨h30,hf⟩
        ·obtain rfl:=oi hf;exact Zai Zak 4 (R5++[rB [(1,true),(4,true),(7,true)]]) [] [] [] [] (O6.app (.c h28 (.c h29 (.c h30 .n)))) (by kernel_rfl) rfl
        ·obtain rfl:=oi hf;exact Zai Zak 4 (R5++[rB [(1,true),(4,true),(7,false)]]) [] [] [] [] (O6.app (.c h28 (.c h29 (.c h30 .n)))) (by kernel_rfl) rfl
       ·obtain rfl:=oi hf;exact Zai Zak 4 (R5++[rB [(1,true),(4,false)]]) [] [] [] [] (O6.app (.c h28 (.c h29 .n))) (by kernel_rfl) rfl
      ·obtain rfl:=oi hf;exact Zai Zak 4 (R5++[rB [(1,false)]]) [] [] [] [] (O6.app (.c h28 .n)) (by kernel_rfl) rfl
     ·let R7:List RA:=[⟨[(2,aB x10),(6,aB x11),(11,aB x12),(16,aB x13),(23,aB x14)],[(3,true),(8,true),(13,true),(18,true),(25,false)],[],[],[],[],[]⟩]
      rcases Zah hf with⟨h31,hf⟩|⟨h31,hf⟩
      ·rcases Zah hf with⟨h32,hf⟩|⟨h32,hf⟩
       ·obtain rfl:=oi hf;exact Zai Zak 4 (R7++[rB [(1,true),(4,true)]]) [] [] [] [] (O4.app (.c h26 (.c h31 (.c h32 .n)))) (by kernel_rfl) rfl
       ·obtain rfl:=oi hf;exact Zai Zak 4 (R7++[rB [(1,true),(4,false)]]) [] [] [] [] (O4.app (.c h26 (.c h31 (.c h32 .n)))) (by kernel_rfl) rfl
      ·obtain rfl:=oi hf;exact Zai Zak 4 (R7++[rB [(1,false)]]) [] [] [] [] (O4.app (.c h26 (.c h31 .n))) (by kernel_rfl) rfl
    ·let R8:List RA:=[⟨[(2,aB x10),(6,aB x11),(11,aB x12),(16,aB x13)],[(3,true),(8,true),(13,true),(18,false)],[],[],[],[],[]⟩]
     rcases Zah hf with⟨h33,hf⟩|⟨h33,hf⟩
     ·rcases Zah hf with⟨h34,hf⟩|⟨h34,hf⟩
      ·obtain rfl:=oi hf;exact Zai Zak 4 (R8++[rB [(1,true),(4,true)]]) [] [] [] [] (O3.app (.c h24 (.c h33 (.c h34 .n)))) (by kernel_rfl) rfl
      ·obtain rfl:=oi hf;exact Zai Zak 4 (R8++[rB [(1,true),(4,false)]]) [] [] [] [] (O3.app (.c h24 (.c h33 (.c h34 .n)))) (by kernel_rfl) rfl
     ·obtain rfl:=oi hf;exact Zai Zak 4 (R8++[rB [(1,false)]]) [] [] [] [] (O3.app (.c h24 (.c h33 .n))) (by kernel_rfl) rfl
   ·let R9:List RA:=[⟨[(2,aB x10),(6,aB x11),(11,aB x12)],[(3,true),(8,true),(13,false)],[],[],[],[],[]⟩]
    rcases Zah hf with⟨h35,hf⟩|⟨h35,hf⟩
    ·rcases Zah hf with⟨h36,hf⟩|⟨h36,hf⟩
     ·obtain rfl:=oi hf;exact Zai Zak 4 (R9++[rB [(1,true),(4,true)]]) [] [] [] [] (O2.app (.c h22 (.c h35 (.c h36 .n)))) (by kernel_rfl) rfl
     ·obtain rfl:=oi hf;exact Zai Zak 4 (R9++[rB [(1,true),(4,false)]]) [] [] [] [] (O2.app (.c h22 (.c h35 (.c h36 .n)))) (by kernel_rfl) rfl
    ·obtain rfl:=oi hf;exact Zai Zak 4 (R9++[rB [(1,false)]]) [] [] [] [] (O2.app (.c h22 (.c h35 .n))) (by kernel_rfl) rfl
  ·let R10:List RA:=[⟨[(2,aB x10),(6,aB x11)],[(3,true),(8,false)],[],[],[],[],[]⟩]
   rcases Zah hf with⟨h37,hf⟩|⟨h37,hf⟩
   ·rcases Zah hf with⟨h38,hf⟩|⟨h38,hf⟩
    ·obtain rfl:=oi hf;exact Zai Zak 4 (R10++[rB [(1,true),(4,true)]]) [] [] [] [] (O1.app (.c h20 (.c h37 (.c h38 .n)))) (by kernel_rfl) rfl
    ·obtain rfl:=oi hf;exact Zai Zak 4 (R10++[rB [(1,true),(4,false)]]) [] [] [] [] (O1.app (.c h20 (.c h37 (.c h38 .n)))) (by kernel_rfl) rfl
   ·obtain rfl:=oi hf;exact Zai Zak 4 (R10++[rB [(1,false)]]) [] [] [] [] (O1.app (.c h20 (.c h37 .n))) (by kernel_rfl) rfl
 ·let R11:List RA:=[⟨[(2,aB x10)],[(3,false)],[],[],[],[],[]⟩]
  have O12:Obl _:=(.c (ZaQ _ _ _ _ q17) (.c h18 .n));rcases Zah hf with⟨h39,hf⟩|⟨h39,hf⟩
  ·rcases Zah hf with⟨h40,hf⟩|⟨h40,hf⟩
   ·obtain rfl:=oi hf;exact Zai Zak 4 (R11++[rB [(1,true),(4,true)]]) [] [] [] [] (O12.app (.c h39 (.c h40 .n))) (by kernel_rfl) rfl
   ·obtain rfl:=oi hf;exact Zai Zak 4 (R11++[rB [(1,true),(4,false)]]) [] [] [] [] (O12.app (.c h39 (.c h40 .n))) (by kernel_rfl) rfl
  ·obtain rfl:=oi hf;exact Zai Zak 4 (R11++[rB [(1,false)]]) [] [] [] [] (O12.app (.c h39 .n)) (by kernel_rfl) rfl
def Zcj(v3:Bool)(b1:ZaB):Option Bool:=(Zba b1.fQuota.fGroup (0:Int) (64:Int)).bind fun x6=>bif x6 then(Zba b1.fQuota.fPing (0:Int) (64:Int)).bind fun x7=>bif x7 then(Zba b1.fQuota.fWork (0:Int) (64:Int)).bind fun x8=>bif x8 then(Zba b1.fQuota.fTime (0:Int) (64:Int)).bind fun x9=>ZcK v3 b1 x9 else ZcK v3 b1 false else ZcK v3 b1 false else ZcK v3 b1 false
theorem Zdp(S0:Nat→Prop)(w0:ZaW)(v3:Bool)(b1:ZaB)(r:Bool)(hf:Zcj v3 b1=some r):Good Tryz.prog 93 S0 w0 (bodyPost Tryz.prog Tryz.f11 (Post S0 w0 (.one (.lit (.bool r))))) (at_ [1,1] (Zbl Tryz.f11)) ⟨[(1,.one (.ptr 1 0)),(3,.one (.lit (.bool v3)))],[(1,.box [.lit (.int .i64 b1.fMaxIn),.lit (.int .i64 b1.fMaxOut),.lit (.int .i64 b1.fShards),.lit (.int .i64 b1.fMaxBans),.lit (.int .i64 b1.fMaxBook),.lit (.int .u64 b1.fSecret),.lit (.int .i64 b1.fQuota.fGroup),.lit (.int .i64 b1.fQuota.fPing),.lit (.int .i64 b1.fQuota.fWork),.lit (.int .i64 b1.fQuota.fTime),.lit (.int .i64 b1.fHalf),.lit (.int .i64 b1.fLimit),.lit (.int .i64 b1.fBanFor),.lit (.int .i64 b1.fBase),.lit (.int .i64 b1.fCap),.lit (.int .i64 b1.fJitter)])]⟩:=by
 unfold Zcj at hf;obtain⟨x6,q10,hf⟩:=Zaf hf;rcases Zah hf with⟨h11,hf⟩|⟨h11,hf⟩
 ·obtain⟨x7,q12,hf⟩:=Zaf hf;have O13:Obl _:=(.c (ZaQ _ _ _ _ q10) (.c h11 (.c (ZaQ _ _ _ _ q12) .n)));rcases Zah hf with⟨h13,hf⟩|⟨h13,hf⟩
  ·obtain⟨x8,q14,hf⟩:=Zaf hf;have O14:Obl _:=(O13.app (.c h13 (.c (ZaQ _ _ _ _ q14) .n)));rcases Zah hf with⟨h15,hf⟩|⟨h15,hf⟩
   ·obtain⟨x9,q16,hf⟩:=Zaf hf;exact ZaJ Zak Post.ends 2 [⟨[(3,aB x6),(8,aB x7),(14,aB x8),(20,aB x9)],[(4,true),(10,true),(16,true)],[],[],[],[],[]⟩] [] ⟨[],[],[],[],[],[1,3,4],[1],[]⟩ (O14.app (.c h15 (.c (ZaQ _ _ _ _ q16) .n))) (by kernel_rfl) (Zep S0 w0 v3 b1 x9 r hf)
   ·exact ZaJ Zak Post.ends 2 [⟨[(3,aB x6),(8,aB x7),(14,aB x8)],[(4,true),(10,true),(16,false)],[],[],[],[],[]⟩] [] ⟨[],[],[],[],[],[1,3,4],[1],[]⟩ (O14.app (.c h15 .n)) (by kernel_rfl) (Zep S0 w0 v3 b1 false r hf)
  ·exact ZaJ Zak Post.ends 2 [⟨[(3,aB x6),(8,aB x7)],[(4,true),(10,false)],[],[],[],[],[]⟩] [] ⟨[],[],[],[],[],[1,3,4],[1],[]⟩ (O13.app (.c h13 .n)) (by kernel_rfl) (Zep S0 w0 v3 b1 false r hf)
 ·exact ZaJ Zak Post.ends 2 [⟨[(3,aB x6)],[(4,false)],[],[],[],[],[]⟩] [] ⟨[],[],[],[],[],[1,3,4],[1],[]⟩ (.c (ZaQ _ _ _ _ q10) (.c h11 .n)) (by kernel_rfl) (Zep S0 w0 v3 b1 false r hf)
def Zeg(a0:ZaB):Option Bool:=(Zba a0.fMaxIn (0:Int) (65535:Int)).bind fun x1=>bif x1 then(Zba a0.fMaxOut (0:Int) (65535:Int)).bind fun x2=>bif x2 then(Zba a0.fShards (1:Int) (8:Int)).bind fun x3=>bif x3 then(Zba a0.fMaxBans (0:Int) (1024:Int)).bind fun x4=>bif x4 then(Zba a0.fMaxBook (0:Int) (1024:Int)).bind fun x5=>Zcj x5 a0 else Zcj false a0 else Zcj false a0 else Zcj false a0 else Zcj false a0
theorem Zjc(a0:ZaB)(r:Bool)(hf:Zeg a0=some r):Zaz Tryz.prog 11 [.agg (ZaB.c a0)] (.one (.lit (.bool r))):=by
 refine Zaz.of Tryz.func11 rfl rfl rfl rfl fun S0 w0=>?_;unfold Zeg at hf;obtain⟨x1,q1,hf⟩:=Zaf hf;rcases Zah hf with⟨h2,hf⟩|⟨h2,hf⟩
 ·obtain⟨x2,q3,hf⟩:=Zaf hf;have O15:Obl _:=(.c (ZaQ _ _ _ _ q1) (.c h2 (.c (ZaQ _ _ _ _ q3) .n)));rcases Zah hf with⟨h4,hf⟩|⟨h4,hf⟩
  ·obtain⟨x3,q5,hf⟩:=Zaf hf;have O16:Obl _:=(O15.app (.c h4 (.c (ZaQ _ _ _ _ q5) .n)));rcases Zah hf with⟨h6,hf⟩|⟨h6,hf⟩
   ·obtain⟨x4,q7,hf⟩:=Zaf hf;have O17:Obl _:=(O16.app (.c h6 (.c (ZaQ _ _ _ _ q7) .n)));rcases Zah hf with⟨h8,hf⟩|⟨h8,hf⟩
    ·obtain⟨x5,q9,hf⟩:=Zaf hf;exact ZaJ Zak Post.ends 4 [rz,⟨[(2,aB x1),(6,aB x2),(11,aB x3),(16,aB x4),(21,aB x5)],[(3,true),(8,true),(13,true),(18,true)],[],[],[],[],[]⟩] [] ⟨[],[],[],[],[],[1,3],[1],[]⟩ (O17.app (.c h8 (.c (ZaQ _ _ _ _ q9) .n))) (by kernel_rfl) (Zdp S0 w0 x5 a0 r hf)
    ·exact ZaJ Zak Post.ends 4 [rz,⟨[(2,aB x1),(6,aB x2),(11,aB x3),(16,aB x4)],[(3,true),(8,true),(13,true),(18,false)],[],[],[],[],[]⟩] [] ⟨[],[],[],[],[],[1,3],[1],[]⟩ (O17.app (.c h8 .n)) (by kernel_rfl) (Zdp S0 w0 false a0 r hf)
   ·exact ZaJ Zak Post.ends 4 [rz,⟨[(2,aB x1),(6,aB x2),(11,aB x3)],[(3,true),(8,true),(13,false)],[],[],[],[],[]⟩] [] ⟨[],[],[],[],[],[1,3],[1],[]⟩ (O16.app (.c h6 .n)) (by kernel_rfl) (Zdp S0 w0 false a0 r hf)
  ·exact ZaJ Zak Post.ends 4 [rz,⟨[(2,aB x1),(6,aB x2)],[(3,true),(8,false)],[],[],[],[],[]⟩] [] ⟨[],[],[],[],[],[1,3],[1],[]⟩ (O15.app (.c h4 .n)) (by kernel_rfl) (Zdp S0 w0 false a0 r hf)
 ·exact ZaJ Zak Post.ends 4 [rz,⟨[(2,aB x1)],[(3,false)],[],[],[],[],[]⟩] [] ⟨[],[],[],[],[],[1,3],[1],[]⟩ (.c (ZaQ _ _ _ _ q1) (.c h2 .n)) (by kernel_rfl) (Zdp S0 w0 false a0 r hf)
def ZbG(a0:Zaj):Option Bool:=bif(!a0.fV6)then bif(a0.fHi==(0:Int))then some (decide (a0.fLo<(4294967296:Int)))else some false else bif(a0.fHi != (0:Int))then some true else some ((IntKind.wrap .u64 (Int.tdiv a0.fLo (4294967296:Int))) != (65535:Int))
theorem Zbx(a0:Zaj)(r:Bool)(hf:ZbG a0=some r):Zaz Tryz.prog 116 [.agg (Zaj.c a0)] (.one (.lit (.bool r))):=by
 refine Zaz.of Tryz.func116 rfl rfl rfl rfl fun S0 w0=>?_;unfold ZbG at hf;rcases Zah hf with⟨h1,hf⟩|⟨h1,hf⟩
 ·rcases Zah hf with⟨h2,hf⟩|⟨h2,hf⟩
  ·obtain rfl:=oi hf;exact Zai Zak 8 [rz,rz,rB [(3,true)]] [true] [] [] [] (.c h1 (.c h2 .n)) (by kernel_rfl) rfl
  ·obtain rfl:=oi hf;exact Zai Zak 8 [rz,rz,rB [(3,false)]] [true] [] [] [] (.c h1 (.c h2 .n)) (by kernel_rfl) rfl
 ·rcases Zah hf with⟨h3,hf⟩|⟨h3,hf⟩
  ·obtain rfl:=oi hf;exact Zai Zak 9 [rz,rz,rB [(3,true)]] [false] [] [] [] (.c h1 (.c h3 .n)) (by kernel_rfl) rfl
  ·obtain rfl:=oi hf;exact Zai Zak 9 [rz,rz,rB [(3,false)]] [false] [] [] [] (.c h1 (.c h3 (.c (show (4294967296:Int)≠0 from(by decide)) .n))) (by kernel_rfl) rfl
def ZbF(a0:Zaj):Option Int:=bif a0.fV6 then some (128:Int)else some (32:Int)
theorem ZbW(a0:Zaj)(r:Int)(hf:ZbF a0=some r):Zaz Tryz.prog 205 [.agg (Zaj.c a0)] (.one (.lit (.int .i64 r))):=by
 refine Zaz.of Tryz.func205 rfl rfl rfl rfl fun S0 w0=>?_;unfold ZbF at hf;rcases Zah hf with⟨h1,hf⟩|⟨h1,hf⟩
 ·obtain rfl:=oi hf;exact Zai Zak 8 [rz,rz,rz] [true] [] [] [] (.c h1 .n) (by kernel_rfl) rfl
 ·obtain rfl:=oi hf;exact Zai Zak 9 [rz,rz,rz] [false] [] [] [] (.c h1 .n) (by kernel_rfl) rfl
def Zdh(a1 v5:Int)(b2:Zaj):Option Int:=bif(!b2.fV6)then need (0≤(IntKind.wrap .u64 (Zli (31:Int) a1)))<|some (IntKind.wrap .i64 (IntKind.wrap .u64 (((BitVec.ofInt (IntKind.bits .u64) (Int.fdiv v5 (2 ^ (min (IntKind.wrap .u64 (Zli (31:Int) a1)).toNat (IntKind.bits .u64))))) &&& (BitVec.ofInt (IntKind.bits .u64) (1:Int))).toNat:Int)))else need (0≤(IntKind.wrap .u64 (Zli (63:Int) (Int.tmod a1 (64:Int)))))<|some (IntKind.wrap .i64 (IntKind.wrap .u64 (((BitVec.ofInt (IntKind.bits .u64) (Int.fdiv v5 (2 ^ (min (IntKind.wrap .u64 (Zli (63:Int) (Int.tmod a1 (64:Int)))).toNat (IntKind.bits .u64))))) &&& (BitVec.ofInt (IntKind.bits .u64) (1:Int))).toNat:Int)))
theorem ZgY(S0:Nat→Prop)(w0:ZaW)(a1 v5:Int)(b2:Zaj)(r:Int)(hf:Zdh a1 v5 b2=some r):Good Tryz.prog 39 S0 w0 (bodyPost Tryz.prog Tryz.f206 (Post S0 w0 (.one (.lit (.int .i64 r))))) (at_ [1,1,1,1] (Zbl Tryz.f206)) ⟨[(1,.one (.lit (.int .i64 a1))),(2,.one (.ptr 2 0)),(5,.one (.lit (.int .u64 v5)))],[(2,.box [.lit (.bool b2.fV6),.lit (.int .u64 b2.fHi),.lit (.int .u64 b2.fLo)])]⟩:=by
 unfold Zdh at hf;have O1:Obl _:=(.c (show (64:Int)≠0 from(by decide)) .n);rcases Zah hf with⟨h6,hf⟩|⟨h6,hf⟩
 ·obtain⟨o7,hf⟩:=Zar hf;obtain rfl:=oi hf;exact Zai Zak 9 [rz,rz,rz,rz] [true] [] [] [] (O1.app (.c h6 (.c o7 .n))) (by kernel_rfl) rfl
 ·obtain⟨o8,hf⟩:=Zar hf;obtain rfl:=oi hf;exact Zai Zak 9 [rz,rz,rz] [false] [] [] [] (O1.app (.c h6 (.c o8 .n))) (by kernel_rfl) rfl
def Zdy(a0:Zaj)(a1:Int):Option Int:=bif(decide (a1<(0:Int)))then some (0:Int)else(ZbF a0).bind fun x1=>bif(decide (a1≥x1))then some (0:Int)else bif a0.fV6 then bif(decide (a1<(64:Int)))then Zdh a1 a0.fHi a0 else Zdh a1 a0.fLo a0 else Zdh a1 a0.fLo a0
theorem ZhK(a0:Zaj)(a1 r:Int)(hf:Zdy a0 a1=some r):Zaz Tryz.prog 206 [.agg (Zaj.c a0),.one (.lit (.int .i64 a1))] (.one (.lit (.int .i64 r))):=by
 refine Zaz.of Tryz.func206 rfl rfl rfl rfl fun S0 w0=>?_;unfold Zdy at hf;rcases Zah hf with⟨h1,hf⟩|⟨h1,hf⟩
 ·obtain rfl:=oi hf;exact Zai Zak 8 [rz,rB [(2,true)],rz] [true] [] [] [] (.c h1 (.c (show true=true from rfl) .n)) (by kernel_rfl) rfl
 ·obtain⟨x1,q2,hf⟩:=Zaf hf
  let R2:List RA:=[rz,⟨[(5,aI x1)],[(2,false)],[],[],[],[],[]⟩,rz]
  have O3:Obl _:=(.c h1 (.c (ZbW _ _ q2) .n));rcases Zah hf with⟨h3,hf⟩|⟨h3,hf⟩
  ·obtain rfl:=oi hf;exact Zai Zak 8 R2 [true] [] [] [] (O3.app (.c h3 .n)) (by kernel_rfl) rfl
  ·rcases Zah hf with⟨h4,hf⟩|⟨h4,hf⟩
   ·rcases Zah hf with⟨h5,hf⟩|⟨h5,hf⟩
    ·exact ZaJ Zak Post.ends 14 (R2++[rB [(2,true)],rz]) [false,true] ⟨[],[],[],[],[],[1,2,5],[2],[]⟩ (O3.app (.c h3 (.c h4 (.c h5 .n)))) (by kernel_rfl) (ZgY S0 w0 a1 a0.fHi a0 r hf)
    ·exact ZaJ Zak Post.ends 14 (R2++[rB [(2,true)]]) [false,false] ⟨[],[],[],[],[],[1,2,5],[2],[]⟩ (O3.app (.c h3 (.c h4 (.c h5 .n)))) (by kernel_rfl) (ZgY S0 w0 a1 a0.fLo a0 r hf)
   ·exact ZaJ Zak Post.ends 14 (R2++[rB [(2,false)]]) [false,false] ⟨[],[],[],[],[],[1,2,5],[2],[]⟩ (O3.app (.c h3 (.c h4 (.c (show false=false from rfl) .n)))) (by kernel_rfl) (ZgY S0 w0 a1 a0.fLo a0 r hf)
def ZcM:Nat→Int→Zas→Option Bool|0,_,_=>none|fu+1,v3,b1=>(ZbF b1.fAddr).bind fun x3=>bif(decide (v3<x3))then(Zdy b1.fAddr v3).bind fun x4=>bif(x4==(1:Int))then some false else ZcM fu (Zaw v3 (1:Int)) b1 else some true
theorem ZlC(S0:Nat→Prop)(w0:ZaW):∀(fu:Nat)(v3:Int)(b1:Zas)(r:Bool),ZcM fu v3 b1=some r→Good Tryz.prog 35 S0 w0 (bodyPost Tryz.prog Tryz.f115 (Post S0 w0 (.one (.lit (.bool r))))) (at_ [1,1,0,1,0] (Zbl Tryz.f115)) ⟨[(1,.one (.ptr 1 0)),(3,.one (.lit (.int .i64 v3)))],[(1,.box [.lit (.bool b1.fAddr.fV6),.lit (.int .u64 b1.fAddr.fHi),.lit (.int .u64 b1.fAddr.fLo),.lit (.int .i64 b1.fBits)])]⟩:=by
 intro fu;induction fu with
 |zero=>
  intro v3 b1 r hf;simp[ZcM]at hf
 |succ fu ih=>
  intro v3 b1 r hf;unfold ZcM at hf;obtain⟨x3,q6,hf⟩:=Zaf hf;rcases Zah hf with⟨h7,hf⟩|⟨h7,hf⟩
  ·obtain⟨x4,q8,hf⟩:=Zaf hf;have O1:Obl _:=(.c (ZbW _ _ q6) (.c h7 (.c (ZhK _ _ _ q8) .n)));rcases Zah hf with⟨h9,hf⟩|⟨h9,hf⟩
   ·obtain rfl:=oi hf;exact Zai Zak 13 [rA [(3,aI x3)],rA [(3,aI x4)],rz] [true,true] [] [] [] (O1.app (.c h9 .n)) (by kernel_rfl) rfl
   ·exact ZaJ Zak Post.ends 15 [rA [(3,aI x3)],rA [(3,aI x4)],rz] [true,false] ⟨[],[],[],[],[],[1,3],[1],[]⟩ (O1.app (.c h9 .n)) (by kernel_rfl) (ih (Zaw v3 (1:Int)) b1 r hf)
  ·obtain rfl:=oi hf;exact Zai Zak 8 [rA [(3,aI x3)],rz] [false] [] [] [] (.c (ZbW _ _ q6) (.c h7 .n)) (by kernel_rfl) rfl
def Zdu(a0:Zas):Option Bool:=(ZbG a0.fAddr).bind fun x1=>bif(!x1)then some false else bif(decide (a0.fBits<(0:Int)))then some false else(ZbF a0.fAddr).bind fun x2=>bif(decide (a0.fBits>x2))then some false else ZcM 1000000 a0.fBits a0
theorem Zed(a0:Zas)(r:Bool)(hf:Zdu a0=some r):Zaz Tryz.prog 115 [.agg (Zas.c a0)] (.one (.lit (.bool r))):=by
 refine Zaz.of Tryz.func115 rfl rfl rfl rfl fun S0 w0=>?_;unfold Zdu at hf;obtain⟨x1,q1,hf⟩:=Zaf hf;rcases Zah hf with⟨h2,hf⟩|⟨h2,hf⟩
 ·obtain rfl:=oi hf;exact Zai Zak 8 [rz,⟨[(2,aB x1)],[(4,true)],[],[],[],[],[]⟩,rz] [true] [] [] [] (.c (Zbx _ _ q1) (.c h2 (.c (show true=true from rfl) .n))) (by kernel_rfl) rfl
 ·have O2:Obl _:=(.c (Zbx _ _ q1) (.c h2 .n));rcases Zah hf with⟨h3,hf⟩|⟨h3,hf⟩
  ·obtain rfl:=oi hf;exact Zai Zak 8 [rz,⟨[(2,aB x1)],[(4,false),(9,true)],[],[],[],[],[]⟩,rz] [true] [] [] [] (O2.app (.c h3 (.c (show true=true from rfl) .n))) (by kernel_rfl) rfl
  ·obtain⟨x2,q4,hf⟩:=Zaf hf
   let R3:List RA:=[rz,⟨[(2,aB x1),(14,aI x2)],[(4,false),(9,false)],[],[],[],[],[]⟩,rz]
   have O4:Obl _:=(O2.app (.c h3 (.c (ZbW _ _ q4) .n)));rcases Zah hf with⟨h5,hf⟩|⟨h5,hf⟩
   ·obtain rfl:=oi hf;exact Zai Zak 8 R3 [true] [] [] [] (O4.app (.c h5 .n)) (by kernel_rfl) rfl
   ·exact ZaJ Zak Post.ends 11 R3 [false] ⟨[],[],[],[],[],[1,3],[1],[]⟩ (O4.app (.c h5 .n)) (by kernel_rfl) (ZlC S0 w0 1000000 a0.fBits a0 r hf)
def Zei(a0:Zab):Option Bool:=(Zdu a0.fNet).bind fun x1=>bif x1 then bif(decide (a0.fUntil>(0:Int)))then some (decide (a0.fUntil≤(1099511627776:Int)))else some false else some false
theorem Zhl(a0:Zab)(r:Bool)(hf:Zei a0=some r):Zaz Tryz.prog 127 [.agg (Zab.c a0)] (.one (.lit (.bool r))):=by
 refine Zaz.of Tryz.func127 rfl rfl rfl rfl fun S0 w0=>?_;unfold Zei at hf;obtain⟨x1,q1,hf⟩:=Zaf hf;rcases Zah hf with⟨h2,hf⟩|⟨h2,hf⟩
 ·have O1:Obl _:=(.c (Zed _ _ q1) (.c h2 .n));rcases Zah hf with⟨h3,hf⟩|⟨h3,hf⟩
  ·obtain rfl:=oi hf;exact Zai Zak 4 [rz,⟨[(2,aB x1)],[(3,true),(8,true)],[],[],[],[],[]⟩] [] [] [] [] (O1.app (.c h3 .n)) (by kernel_rfl) rfl
  ·obtain rfl:=oi hf;exact Zai Zak 4 [rz,⟨[(2,aB x1)],[(3,true),(8,false)],[],[],[],[],[]⟩] [] [] [] [] (O1.app (.c h3 .n)) (by kernel_rfl) rfl
 ·obtain rfl:=oi hf;exact Zai Zak 4 [rz,⟨[(2,aB x1)],[(3,false)],[],[],[],[],[]⟩] [] [] [] [] (.c (Zed _ _ q1) (.c h2 .n)) (by kernel_rfl) rfl
def ZdH(v5:Bool):Option Int:=bif v5 then some (-1:Int)else some (1:Int)
theorem ZhA(S0:Nat→Prop)(w0:ZaW)(v5:Bool)(r:Int)(hf:ZdH v5=some r):Good Tryz.prog 33 S0 w0 (bodyPost Tryz.prog Tryz.f210 (Post S0 w0 (.one (.lit (.int .i64 r))))) (at_ [1,1,1,1,1] (Zbl Tryz.f210)) ⟨[(5,.one (.lit (.bool v5)))],[]⟩:=by
 unfold ZdH at hf;rcases Zah hf with⟨h4,hf⟩|⟨h4,hf⟩
 ·obtain rfl:=oi hf;exact Zai Zak 6 [rz,rz] [true] [] [] [] (.c h4 .n) (by kernel_rfl) rfl
 ·obtain rfl:=oi hf;exact Zai Zak 7 [rz,rz] [false] [] [] [] (.c h4 .n) (by kernel_rfl) rfl
def ZdI(v5:Bool)(b2 b3:Zaj):Option Int:=bif(!(b2.fV6==b3.fV6))then ZdH (!b2.fV6)else ZdH v5
theorem ZhB(S0:Nat→Prop)(w0:ZaW)(v5:Bool)(b2 b3:Zaj)(r:Int)(hf:ZdI v5 b2 b3=some r):Good Tryz.prog 33 S0 w0 (bodyPost Tryz.prog Tryz.f210 (Post S0 w0 (.one (.lit (.int .i64 r))))) (at_ [1,1,1,1] (Zbl Tryz.f210)) ⟨[(2,.one (.ptr 2 0)),(3,.one (.ptr 3 0)),(5,.one (.lit (.bool v5)))],[(2,.box [.lit (.bool b2.fV6),.lit (.int .u64 b2.fHi),.lit (.int .u64 b2.fLo)]),(3,.box [.lit (.bool b3.fV6),.lit (.int .u64 b3.fHi),.lit (.int .u64 b3.fLo)])]⟩:=by
 unfold ZdI at hf;rcases Zah hf with⟨h3,hf⟩|⟨h3,hf⟩
 ·exact ZaJ Zak Post.ends 5 [rz,rz] [true] ⟨[],[],[],[],[],[5],[],[]⟩ (.c h3 .n) (by kernel_rfl) (ZhA S0 w0 (!b2.fV6) r hf)
 ·exact ZaJ Zak Post.ends 5 [rz] [false] ⟨[],[],[],[],[],[5],[],[]⟩ (.c h3 .n) (by kernel_rfl) (ZhA S0 w0 v5 r hf)
def ZdB(a0 a1:Zaj):Option Int:=bif(decide (a0=a1))then some (0:Int)else bif(a0.fHi != a1.fHi)then ZdI (decide (a0.fHi<a1.fHi)) a0 a1 else ZdI (decide (a0.fLo<a1.fLo)) a0 a1
theorem ZeC(a0 a1:Zaj)(r:Int)(hf:ZdB a0 a1=some r):Zaz Tryz.prog 210 [.agg (Zaj.c a0),.agg (Zaj.c a1)] (.one (.lit (.int .i64 r))):=by
 refine Zaz.of Tryz.func210 rfl rfl rfl rfl fun S0 w0=>?_;unfold ZdB at hf;have O1:Obl _:=(.c (ZjO a0 a1 (.tmp 6) (.tmp 7)) .n);rcases Zah hf with⟨h1,hf⟩|⟨h1,hf⟩
 ·obtain rfl:=oi hf;exact Zai Zak 8 [rz,rA [(2,aB (decide (a0=a1)))],rz] [true] [] [] [] (O1.app (.c h1 .n)) (by kernel_rfl) rfl
 ·rcases Zah hf with⟨h2,hf⟩|⟨h2,hf⟩
  ·exact ZaJ Zak Post.ends 14 [rz,rA [(2,aB (decide (a0=a1)))],rz,rz,rz] [false,true] ⟨[],[],[],[],[],[2,3,5],[2,3],[]⟩ (O1.app (.c h1 (.c h2 .n))) (by kernel_rfl) (ZhB S0 w0 (decide (a0.fHi<a1.fHi)) a0 a1 r hf)
  ·exact ZaJ Zak Post.ends 14 [rz,rA [(2,aB (decide (a0=a1)))],rz,rz] [false,false] ⟨[],[],[],[],[],[2,3,5],[2,3],[]⟩ (O1.app (.c h1 (.c h2 .n))) (by kernel_rfl) (ZhB S0 w0 (decide (a0.fLo<a1.fLo)) a0 a1 r hf)
def ZdA(a0 a1:Zas):Option Int:=(ZdB a0.fAddr a1.fAddr).bind fun x1=>bif(x1 != (0:Int))then some x1 else bif(a0.fBits==a1.fBits)then some x1 else bif(decide (a0.fBits<a1.fBits))then some (-1:Int)else some (1:Int)
theorem Zis(a0 a1:Zas)(r:Int)(hf:ZdA a0 a1=some r):Zaz Tryz.prog 128 [.agg (Zas.c a0),.agg (Zas.c a1)] (.one (.lit (.int .i64 r))):=by
 refine Zaz.of Tryz.func128 rfl rfl rfl rfl fun S0 w0=>?_;unfold ZdA at hf;obtain⟨x1,q1,hf⟩:=Zaf hf;rcases Zah hf with⟨h2,hf⟩|⟨h2,hf⟩
 ·obtain rfl:=oi hf;exact Zai Zak 10 [rz,rA [(4,aI x1)],rB [(2,true)],rz] [true] [] [] [] (.c (ZeC _ _ _ q1) (.c h2 (.c (show true=true from rfl) .n))) (by kernel_rfl) rfl
 ·have O1:Obl _:=(.c (ZeC _ _ _ q1) (.c h2 .n));rcases Zah hf with⟨h3,hf⟩|⟨h3,hf⟩
  ·obtain rfl:=oi hf;exact Zai Zak 10 [rz,rA [(4,aI x1)],rB [(2,false)],rz] [true] [] [] [] (O1.app (.c h3 .n)) (by kernel_rfl) rfl
  ·let R2:List RA:=[rz,rA [(4,aI x1)],rB [(2,false)],rz,rz]
   rcases Zah hf with⟨h4,hf⟩|⟨h4,hf⟩
   ·obtain rfl:=oi hf;exact Zai Zak 15 R2 [false,true] [] [] [] (O1.app (.c h3 (.c h4 .n))) (by kernel_rfl) rfl
   ·obtain rfl:=oi hf;exact Zai Zak 16 R2 [false,false] [] [] [] (O1.app (.c h3 (.c h4 .n))) (by kernel_rfl) rfl
def Zbw(a0:List Zab)(v3:Int)(kg_doormanref13_Right_c0:Int→Option Bool):Nat→Int→Option Bool|0,_=>none|fu+1,v4=>bif(decide (v4<v3))then need (0≤v4∧v4<((a0.length:Nat):Int))<|need (0≤v3∧v3<((a0.length:Nat):Int))<|(ZdA ((a0.getD v4.toNat Zab.d).fNet) ((a0.getD v3.toNat Zab.d).fNet)).bind fun x2=>bif(decide (x2≥(0:Int)))then some false else Zbw a0 v3 kg_doormanref13_Right_c0 fu (Zaw v4 (1:Int))else kg_doormanref13_Right_c0 (Zaw v3 (1:Int))
theorem Zlz(S0:Nat→Prop)(w0:ZaW)(a0:List Zab)(v3:Int)(kg_doormanref13_Right_c0:Int→Option Bool)(hg_doormanref13_Right_c0:∀(v3_:Int)(r:Bool),kg_doormanref13_Right_c0 v3_=some r→Good Tryz.prog 34 S0 w0 (bodyPost Tryz.prog Tryz.f58 (Post S0 w0 (.one (.lit (.bool r))))) (at_ [1,0,1,0] (Zbl Tryz.f58)) ⟨[(0,.one (cL 5 Zab.c Zab.d a0)),(3,.one (.lit (.int .i64 v3_)))],[]⟩):∀(fu:Nat)(v4:Int)(r:Bool),Zbw a0 v3 kg_doormanref13_Right_c0 fu v4=some r→Good Tryz.prog 34 S0 w0 (bodyPost Tryz.prog Tryz.f58 (Post S0 w0 (.one (.lit (.bool r))))) (at_ [1,0,1,0,0,1,0,0,1,1,0] (Zbl Tryz.f58)) ⟨[(0,.one (cL 5 Zab.c Zab.d a0)),(3,.one (.lit (.int .i64 v3))),(4,.one (.lit (.int .i64 v4)))],[]⟩:=by
 intro fu;induction fu with
 |zero=>
  intro v4 r hf;simp[Zbw]at hf
 |succ fu ih=>
  intro v4 r hf;unfold Zbw at hf;rcases Zah hf with⟨h5,hf⟩|⟨h5,hf⟩
  ·obtain⟨o6,hf⟩:=Zar hf;obtain⟨o7,hf⟩:=Zar hf;obtain⟨x2,q8,hf⟩:=Zaf hf;have O1:Obl _:=(.c h5 (.c o6 (.c o7 (.c (Zis _ _ _ q8) .n))));rcases Zah hf with⟨h9,hf⟩|⟨h9,hf⟩
   ·obtain rfl:=oi hf;exact Zai Zak 13 [rz,rA [(10,aI x2)],rz] [true,true] [] [] [] (O1.app (.c h9 .n)) (by kernel_rfl) rfl
   ·exact ZaJ Zak Post.ends 15 [rz,rA [(10,aI x2)],rz] [true,false] ⟨[],[],[],[],[],[0,3,4],[],[]⟩ (O1.app (.c h9 .n)) (by kernel_rfl) (ih (Zaw v4 (1:Int)) r hf)
  ·exact ZaJ Zak Post.ends 9 [rz,rz] [false] ⟨[],[],[],[],[],[0,3],[],[]⟩ (.c h5 .n) (by kernel_rfl) (hg_doormanref13_Right_c0 (Zaw v3 (1:Int)) r hf)
def Zbg(a0:List Zab):Nat→Int→Option Bool|0,_=>none|fu+1,v3=>bif(decide (v3<((a0.length:Nat):Int)))then need (0≤v3∧v3<((a0.length:Nat):Int))<|(Zei (a0.getD v3.toNat Zab.d)).bind fun x1=>bif(!x1)then some false else Zbw a0 v3 (Zbg a0 fu) ((v3-(0:Int)).toNat+2) (0:Int)else some true
theorem ZlA(S0:Nat→Prop)(w0:ZaW)(a0:List Zab):∀(fu:Nat)(v3:Int)(r:Bool),Zbg a0 fu v3=some r→Good Tryz.prog 34 S0 w0 (bodyPost Tryz.prog Tryz.f58 (Post S0 w0 (.one (.lit (.bool r))))) (at_ [1,0,1,0] (Zbl Tryz.f58)) ⟨[(0,.one (cL 5 Zab.c Zab.d a0)),(3,.one (.lit (.int .i64 v3)))],[]⟩:=by
 intro fu;induction fu with
 |zero=>
  intro v3 r hf;simp[Zbg]at hf
 |succ fu ih=>
  intro v3 r hf;unfold Zbg at hf;rcases Zah hf with⟨h1,hf⟩|⟨h1,hf⟩
  ·obtain⟨o2,hf⟩:=Zar hf;obtain⟨x1,q3,hf⟩:=Zaf hf;have O2:Obl _:=(.c h1 (.c o2 (.c (Zhl _ _ q3) .n)));rcases Zah hf with⟨h4,hf⟩|⟨h4,hf⟩
   ·obtain rfl:=oi hf;exact Zai Zak 14 [rz,rA [(4,aB x1)],rz] [true,true] [] [] [] (O2.app (.c h4 .n)) (by kernel_rfl) rfl
   ·exact ZaJ Zak Post.ends 16 [rz,rA [(4,aB x1)],rz] [true,false] ⟨[],[],[],[],[],[0,3,4],[],[]⟩ (O2.app (.c h4 .n)) (by kernel_rfl) (Zlz S0 w0 a0 v3 (Zbg a0 fu) ih ((v3-(0:Int)).toNat+2) (0:Int) r hf)
  ·obtain rfl:=oi hf;exact Zai Zak 8 [rz,rz] [false] [] [] [] (.c h1 .n) (by kernel_rfl) rfl
def ZgL(a0:List Zab):Option Bool:=Zbg a0 ((((a0.length:Nat):Int)-(0:Int)).toNat+2) (0:Int)
theorem Znr(a0:List Zab)(r:Bool)(hf:ZgL a0=some r):Zaz Tryz.prog 58 [.one (cL 5 Zab.c Zab.d a0)] (.one (.lit (.bool r))):=by
 refine Zaz.of Tryz.func58 rfl rfl rfl rfl fun S0 w0=>?_;unfold ZgL at hf;exact ZaJ Zak Post.ends 6 [rz,rz] [] ⟨[],[],[],[],[],[0,3],[],[]⟩ .n (by kernel_rfl) (ZlA S0 w0 a0 ((((a0.length:Nat):Int)-(0:Int)).toNat+2) (0:Int) r hf)
def Zdt(a0:Zag):Option Bool:=(ZbG a0.fAddr).bind fun x1=>bif x1 then bif(decide (a0.fPort>(0:Int)))then some (decide (a0.fPort<(65536:Int)))else some false else some false
theorem Zec(a0:Zag)(r:Bool)(hf:Zdt a0=some r):Zaz Tryz.prog 114 [.agg (Zag.c a0)] (.one (.lit (.bool r))):=by
 refine Zaz.of Tryz.func114 rfl rfl rfl rfl fun S0 w0=>?_;unfold Zdt at hf;obtain⟨x1,q1,hf⟩:=Zaf hf;rcases Zah hf with⟨h2,hf⟩|⟨h2,hf⟩
 ·have O1:Obl _:=(.c (Zbx _ _ q1) (.c h2 .n));rcases Zah hf with⟨h3,hf⟩|⟨h3,hf⟩
  ·obtain rfl:=oi hf;exact Zai Zak 4 [rz,⟨[(2,aB x1)],[(3,true),(8,true)],[],[],[],[],[]⟩] [] [] [] [] (O1.app (.c h3 .n)) (by kernel_rfl) rfl
  ·obtain rfl:=oi hf;exact Zai Zak 4 [rz,⟨[(2,aB x1)],[(3,true),(8,false)],[],[],[],[],[]⟩] [] [] [] [] (O1.app (.c h3 .n)) (by kernel_rfl) rfl
 ·obtain rfl:=oi hf;exact Zai Zak 4 [rz,⟨[(2,aB x1)],[(3,false)],[],[],[],[],[]⟩] [] [] [] [] (.c (Zbx _ _ q1) (.c h2 .n)) (by kernel_rfl) rfl
def Zfe(a0:Zac):Option Bool:=(Zdt a0.fEnd).bind fun x1=>bif x1 then bif(decide (a0.fState≥(1:Int)))then bif(decide (a0.fState≤(3:Int)))then bif(decide (a0.fFails≥(0:Int)))then bif(decide (a0.fFails≤(1000:Int)))then bif(decide (a0.fNext≥(0:Int)))then some (decide (a0.fNext≤(1099511627776:Int)))else some false else some false else some false else some false else some false else some false
theorem Zno(a0:Zac)(r:Bool)(hf:Zfe a0=some r):Zaz Tryz.prog 129 [.agg (Zac.c a0)] (.one (.lit (.bool r))):=by
 refine Zaz.of Tryz.func129 rfl rfl rfl rfl fun S0 w0=>?_;unfold Zfe at hf;obtain⟨x1,q1,hf⟩:=Zaf hf;rcases Zah hf with⟨h2,hf⟩|⟨h2,hf⟩
 ·have O1:Obl _:=(.c (Zec _ _ q1) (.c h2 .n));rcases Zah hf with⟨h3,hf⟩|⟨h3,hf⟩
  ·rcases Zah hf with⟨h4,hf⟩|⟨h4,hf⟩
   ·rcases Zah hf with⟨h5,hf⟩|⟨h5,hf⟩
    ·rcases Zah hf with⟨h6,hf⟩|⟨h6,hf⟩
     ·rcases Zah hf with⟨h7,hf⟩|⟨h7,hf⟩
      ·obtain rfl:=oi hf;exact Zai Zak 4 [rz,⟨[(2,aB x1)],[(3,true),(8,true),(13,true),(18,true),(23,true),(28,true)],[],[],[],[],[]⟩] [] [] [] [] (O1.app (.c h3 (.c h4 (.c h5 (.c h6 (.c h7 .n)))))) (by kernel_rfl) rfl
      ·obtain rfl:=oi hf;exact Zai Zak 4 [rz,⟨[(2,aB x1)],[(3,true),(8,true),(13,true),(18,true),(23,true),(28,false)],[],[],[],[],[]⟩] [] [] [] [] (O1.app (.c h3 (.c h4 (.c h5 (.c h6 (.c h7 .n)))))) (by kernel_rfl) rfl
     ·obtain rfl:=oi hf;exact Zai Zak 4 [rz,⟨[(2,aB x1)],[(3,true),(8,true),(13,true),(18,true),(23,false)],[],[],[],[],[]⟩] [] [] [] [] (O1.app (.c h3 (.c h4 (.c h5 (.c h6 .n))))) (by kernel_rfl) rfl
    ·obtain rfl:=oi hf;exact Zai Zak 4 [rz,⟨[(2,aB x1)],[(3,true),(8,true),(13,true),(18,false)],[],[],[],[],[]⟩] [] [] [] [] (O1.app (.c h3 (.c h4 (.c h5 .n)))) (by kernel_rfl) rfl
   ·obtain rfl:=oi hf;exact Zai Zak 4 [rz,⟨[(2,aB x1)],[(3,true),(8,true),(13,false)],[],[],[],[],[]⟩] [] [] [] [] (O1.app (.c h3 (.c h4 .n))) (by kernel_rfl) rfl
  ·obtain rfl:=oi hf;exact Zai Zak 4 [rz,⟨[(2,aB x1)],[(3,true),(8,false)],[],[],[],[],[]⟩] [] [] [] [] (O1.app (.c h3 .n)) (by kernel_rfl) rfl
 ·obtain rfl:=oi hf;exact Zai Zak 4 [rz,⟨[(2,aB x1)],[(3,false)],[],[],[],[],[]⟩] [] [] [] [] (.c (Zec _ _ q1) (.c h2 .n)) (by kernel_rfl) rfl
def ZcX(a0 a1:Zag):Option Int:=(ZdB a0.fAddr a1.fAddr).bind fun x1=>bif(x1 != (0:Int))then some x1 else bif(a0.fPort==a1.fPort)then some x1 else bif(decide (a0.fPort<a1.fPort))then some (-1:Int)else some (1:Int)
theorem Zgz(a0 a1:Zag)(r:Int)(hf:ZcX a0 a1=some r):Zaz Tryz.prog 130 [.agg (Zag.c a0),.agg (Zag.c a1)] (.one (.lit (.int .i64 r))):=by
 refine Zaz.of Tryz.func130 rfl rfl rfl rfl fun S0 w0=>?_;unfold ZcX at hf;obtain⟨x1,q1,hf⟩:=Zaf hf;rcases Zah hf with⟨h2,hf⟩|⟨h2,hf⟩
 ·obtain rfl:=oi hf;exact Zai Zak 10 [rz,rA [(4,aI x1)],rB [(2,true)],rz] [true] [] [] [] (.c (ZeC _ _ _ q1) (.c h2 (.c (show true=true from rfl) .n))) (by kernel_rfl) rfl
 ·have O1:Obl _:=(.c (ZeC _ _ _ q1) (.c h2 .n));rcases Zah hf with⟨h3,hf⟩|⟨h3,hf⟩
  ·obtain rfl:=oi hf;exact Zai Zak 10 [rz,rA [(4,aI x1)],rB [(2,false)],rz] [true] [] [] [] (O1.app (.c h3 .n)) (by kernel_rfl) rfl
  ·let R2:List RA:=[rz,rA [(4,aI x1)],rB [(2,false)],rz,rz]
   rcases Zah hf with⟨h4,hf⟩|⟨h4,hf⟩
   ·obtain rfl:=oi hf;exact Zai Zak 15 R2 [false,true] [] [] [] (O1.app (.c h3 (.c h4 .n))) (by kernel_rfl) rfl
   ·obtain rfl:=oi hf;exact Zai Zak 16 R2 [false,false] [] [] [] (O1.app (.c h3 (.c h4 .n))) (by kernel_rfl) rfl
def ZcL(a0:List Zac)(v3:Int)(kg_doormanref26_Right_c0:Int→Option Bool):Nat→Int→Option Bool|0,_=>none|fu+1,v4=>bif(decide (v4<v3))then need (0≤v4∧v4<((a0.length:Nat):Int))<|need (0≤v3∧v3<((a0.length:Nat):Int))<|(ZcX ((a0.getD v4.toNat Zac.d).fEnd) ((a0.getD v3.toNat Zac.d).fEnd)).bind fun x2=>bif(decide (x2≥(0:Int)))then some false else ZcL a0 v3 kg_doormanref26_Right_c0 fu (Zaw v4 (1:Int))else kg_doormanref26_Right_c0 (Zaw v3 (1:Int))
theorem Zlu(S0:Nat→Prop)(w0:ZaW)(a0:List Zac)(v3:Int)(kg_doormanref26_Right_c0:Int→Option Bool)(hg_doormanref26_Right_c0:∀(v3_:Int)(r:Bool),kg_doormanref26_Right_c0 v3_=some r→Good Tryz.prog 34 S0 w0 (bodyPost Tryz.prog Tryz.f59 (Post S0 w0 (.one (.lit (.bool r))))) (at_ [1,0,1,0] (Zbl Tryz.f59)) ⟨[(0,.one (cL 7 Zac.c Zac.d a0)),(3,.one (.lit (.int .i64 v3_)))],[]⟩):∀(fu:Nat)(v4:Int)(r:Bool),ZcL a0 v3 kg_doormanref26_Right_c0 fu v4=some r→Good Tryz.prog 34 S0 w0 (bodyPost Tryz.prog Tryz.f59 (Post S0 w0 (.one (.lit (.bool r))))) (at_ [1,0,1,0,0,1,0,0,1,1,0] (Zbl Tryz.f59)) ⟨[(0,.one (cL 7 Zac.c Zac.d a0)),(3,.one (.lit (.int .i64 v3))),(4,.one (.lit (.int .i64 v4)))],[]⟩:=by
 intro fu;induction fu with
 |zero=>
  intro v4 r hf;simp[ZcL]at hf
 |succ fu ih=>
  intro v4 r hf;unfold ZcL at hf;rcases Zah hf with⟨h5,hf⟩|⟨h5,hf⟩
  ·obtain⟨o6,hf⟩:=Zar hf;obtain⟨o7,hf⟩:=Zar hf;obtain⟨x2,q8,hf⟩:=Zaf hf;have O1:Obl _:=(.c h5 (.c o6 (.c o7 (.c (Zgz _ _ _ q8) .n))));rcases Zah hf with⟨h9,hf⟩|⟨h9,hf⟩
   ·obtain rfl:=oi hf;exact Zai Zak 13 [rz,rA [(10,aI x2)],rz] [true,true] [] [] [] (O1.app (.c h9 .n)) (by kernel_rfl) rfl
   ·exact ZaJ Zak Post.ends 15 [rz,rA [(10,aI x2)],rz] [true,false] ⟨[],[],[],[],[],[0,3,4],[],[]⟩ (O1.app (.c h9 .n)) (by kernel_rfl) (ih (Zaw v4 (1:Int)) r hf)
  ·exact ZaJ Zak Post.ends 9 [rz,rz] [false] ⟨[],[],[],[],[],[0,3],[],[]⟩ (.c h5 .n) (by kernel_rfl) (hg_doormanref26_Right_c0 (Zaw v3 (1:Int)) r hf)
def ZbM(a0:List Zac):Nat→Int→Option Bool|0,_=>none|fu+1,v3=>bif(decide (v3<((a0.length:Nat):Int)))then need (0≤v3∧v3<((a0.length:Nat):Int))<|(Zfe (a0.getD v3.toNat Zac.d)).bind fun x1=>bif(!x1)then some false else ZcL a0 v3 (ZbM a0 fu) ((v3-(0:Int)).toNat+2) (0:Int)else some true
theorem Zlv(S0:Nat→Prop)(w0:ZaW)(a0:List Zac):∀(fu:Nat)(v3:Int)(r:Bool),ZbM a0 fu v3=some r→Good Tryz.prog 34 S0 w0 (bodyPost Tryz.prog Tryz.f59 (Post S0 w0 (.one (.lit (.bool r))))) (at_ [1,0,1,0] (Zbl Tryz.f59)) ⟨[(0,.one (cL 7 Zac.c Zac.d a0)),(3,.one (.lit (.int .i64 v3)))],[]⟩:=by
 intro fu;induction fu with
 |zero=>
  intro v3 r hf;simp[ZbM]at hf
 |succ fu ih=>
  intro v3 r hf;unfold ZbM at hf;rcases Zah hf with⟨h1,hf⟩|⟨h1,hf⟩
  ·obtain⟨o2,hf⟩:=Zar hf;obtain⟨x1,q3,hf⟩:=Zaf hf;have O2:Obl _:=(.c h1 (.c o2 (.c (Zno _ _ q3) .n)));rcases Zah hf with⟨h4,hf⟩|⟨h4,hf⟩
   ·obtain rfl:=oi hf;exact Zai Zak 14 [rz,rA [(4,aB x1)],rz] [true,true] [] [] [] (O2.app (.c h4 .n)) (by kernel_rfl) rfl
   ·exact ZaJ Zak Post.ends 16 [rz,rA [(4,aB x1)],rz] [true,false] ⟨[],[],[],[],[],[0,3,4],[],[]⟩ (O2.app (.c h4 .n)) (by kernel_rfl) (Zlu S0 w0 a0 v3 (ZbM a0 fu) ih ((v3-(0:Int)).toNat+2) (0:Int) r hf)
  ·obtain rfl:=oi hf;exact Zai Zak 8 [rz,rz] [false] [] [] [] (.c h1 .n) (by kernel_rfl) rfl
def Zfd(a0:List Zac):Option Bool:=ZbM a0 ((((a0.length:Nat):Int)-(0:Int)).toNat+2) (0:Int)
theorem Znm(a0:List Zac)(r:Bool)(hf:Zfd a0=some r):Zaz Tryz.prog 59 [.one (cL 7 Zac.c Zac.d a0)] (.one (.lit (.bool r))):=by
 refine Zaz.of Tryz.func59 rfl rfl rfl rfl fun S0 w0=>?_;unfold Zfd at hf;exact ZaJ Zak Post.ends 6 [rz,rz] [] ⟨[],[],[],[],[],[0,3],[],[]⟩ .n (by kernel_rfl) (Zlv S0 w0 a0 ((((a0.length:Nat):Int)-(0:Int)).toNat+2) (0:Int) r hf)
def Zff(a0:Zaa):Option Bool:=(Zdt a0.fEnd).bind fun x1=>bif(!x1)then some false else bif(decide (a0.fSince<(0:Int)))then some false else bif(decide (a0.fSince>(1099511627776:Int)))then some false else bif(decide (a0.fScore.fAt<(0:Int)))then some false else bif(decide (a0.fScore.fAt>(1099511627776:Int)))then some false else bif(decide (a0.fWork≥(0:Int)))then bif(decide (a0.fWork≤(1099511627776:Int)))then bif(decide (a0.fScore.fPoints≥(0:Int)))then bif(decide (a0.fScore.fPoints≤(1099511627776:Int)))then bif(decide (a0.fPing≥(0:Int)))then some (decide (a0.fPing≤(1048576:Int)))else some false else some false else some false else some false else some false
theorem Znp(a0:Zaa)(r:Bool)(hf:Zff a0=some r):Zaz Tryz.prog 131 [.agg (Zaa.c a0)] (.one (.lit (.bool r))):=by
 refine Zaz.of Tryz.func131 rfl rfl rfl rfl fun S0 w0=>?_;unfold Zff at hf;obtain⟨x1,q1,hf⟩:=Zaf hf;rcases Zah hf with⟨h2,hf⟩|⟨h2,hf⟩
 ·obtain rfl:=oi hf;exact Zai Zak 8 [rz,⟨[(2,aB x1)],[(4,true)],[],[],[],[],[]⟩,rz] [true] [] [] [] (.c (Zec _ _ q1) (.c h2 (.c (show true=true from rfl) .n))) (by kernel_rfl) rfl
 ·have O1:Obl _:=(.c (Zec _ _ q1) (.c h2 .n));rcases Zah hf with⟨h3,hf⟩|⟨h3,hf⟩
  ·obtain rfl:=oi hf;exact Zai Zak 8 [rz,⟨[(2,aB x1)],[(4,false),(9,true)],[],[],[],[],[]⟩,rz] [true] [] [] [] (O1.app (.c h3 (.c (show true=true from rfl) .n))) (by kernel_rfl) rfl
  ·rcases Zah hf with⟨h4,hf⟩|⟨h4,hf⟩
   ·obtain rfl:=oi hf;exact Zai Zak 8 [rz,⟨[(2,aB x1)],[(4,false),(9,false),(14,true)],[],[],[],[],[]⟩,rz] [true] [] [] [] (O1.app (.c h3 (.c h4 (.c (show true=true from rfl) .n)))) (by kernel_rfl) rfl
   ·rcases Zah hf with⟨h5,hf⟩|⟨h5,hf⟩
    ·obtain rfl:=oi hf;exact Zai Zak 8 [rz,⟨[(2,aB x1)],[(4,false),(9,false),(14,false),(20,true)],[],[],[],[],[]⟩,rz] [true] [] [] [] (O1.app (.c h3 (.c h4 (.c h5 (.c (show true=true from rfl) .n))))) (by kernel_rfl) rfl
    ·let R2:List RA:=[rz,⟨[(2,aB x1)],[(4,false),(9,false),(14,false),(20,false)],[],[],[],[],[]⟩]
     rcases Zah hf with⟨h6,hf⟩|⟨h6,hf⟩
     ·obtain rfl:=oi hf;exact Zai Zak 8 (R2++[rz]) [true] [] [] [] (O1.app (.c h3 (.c h4 (.c h5 (.c h6 .n))))) (by kernel_rfl) rfl
     ·rcases Zah hf with⟨h7,hf⟩|⟨h7,hf⟩
      ·rcases Zah hf with⟨h8,hf⟩|⟨h8,hf⟩
       ·have O3:Obl _:=(O1.app (.c h3 (.c h4 (.c h5 (.c h6 (.c h7 (.c h8 .n)))))));rcases Zah hf with⟨h9,hf⟩|⟨h9,hf⟩
        ·rcases Zah hf with⟨h10,hf⟩|⟨h10,hf⟩
         ·rcases Zah hf with⟨h11,hf⟩|⟨h11,hf⟩
          ·obtain rfl:=oi hf;exact Zai Zak 9 (R2++[rB [(3,true),(8,true),(14,true),(20,true),(25,true)]]) [false] [] [] [] (O3.app (.c h9 (.c h10 (.c h11 .n)))) (by kernel_rfl) rfl
          ·obtain rfl:=oi hf;exact Zai Zak 9 (R2++[rB [(3,true),(8,true),(14,true),(20,true),(25,false)]]) [false] [] [] [] (O3.app (.c h9 (.c h10 (.c h11 .n)))) (by kernel_rfl) rfl
         ·obtain rfl:=oi hf;exact Zai Zak 9 (R2++[rB [(3,true),(8,true),(14,true),(20,false)]]) [false] [] [] [] (O3.app (.c h9 (.c h10 .n))) (by kernel_rfl) rfl
        ·obtain rfl:=oi hf;exact Zai Zak 9 (R2++[rB [(3,true),(8,true),(14,false)]]) [false] [] [] [] (O3.app (.c h9 .n)) (by kernel_rfl) rfl
       ·obtain rfl:=oi hf;exact Zai Zak 9 (R2++[rB [(3,true),(8,false)]]) [false] [] [] [] (O1.app (.c h3 (.c h4 (.c h5 (.c h6 (.c h7 (.c h8 .n))))))) (by kernel_rfl) rfl
      ·obtain rfl:=oi hf;exact Zai Zak 9 (R2++[rB [(3,false)]]) [false] [] [] [] (O1.app (.c h3 (.c h4 (.c h5 (.c h6 (.c h7 .n)))))) (by kernel_rfl) rfl
def Zci(a0:List Zaa)(v3:Int)(kg_doormanref30_Right_c0:Int→Option Bool):Nat→Int→Option Bool|0,_=>none|fu+1,v4=>bif(decide (v4<v3))then need (0≤v4∧v4<((a0.length:Nat):Int))<|need (0≤v3∧v3<((a0.length:Nat):Int))<|(ZcX ((a0.getD v4.toNat Zaa.d).fEnd) ((a0.getD v3.toNat Zaa.d).fEnd)).bind fun x2=>bif(decide (x2≥(0:Int)))then some false else Zci a0 v3 kg_doormanref30_Right_c0 fu (Zaw v4 (1:Int))else kg_doormanref30_Right_c0 (Zaw v3 (1:Int))
theorem Zlr(S0:Nat→Prop)(w0:ZaW)(a0:List Zaa)(v3:Int)(kg_doormanref30_Right_c0:Int→Option Bool)(hg_doormanref30_Right_c0:∀(v3_:Int)(r:Bool),kg_doormanref30_Right_c0 v3_=some r→Good Tryz.prog 34 S0 w0 (bodyPost Tryz.prog Tryz.f60 (Post S0 w0 (.one (.lit (.bool r))))) (at_ [1,0,1,0] (Zbl Tryz.f60)) ⟨[(0,.one (cL 10 Zaa.c Zaa.d a0)),(3,.one (.lit (.int .i64 v3_)))],[]⟩):∀(fu:Nat)(v4:Int)(r:Bool),Zci a0 v3 kg_doormanref30_Right_c0 fu v4=some r→Good Tryz.prog 34 S0 w0 (bodyPost Tryz.prog Tryz.f60 (Post S0 w0 (.one (.lit (.bool r))))) (at_ [1,0,1,0,0,1,0,0,1,1,0] (Zbl Tryz.f60)) ⟨[(0,.one (cL 10 Zaa.c Zaa.d a0)),(3,.one (.lit (.int .i64 v3))),(4,.one (.lit (.int .i64 v4)))],[]⟩:=by
 intro fu;induction fu with
 |zero=>
  intro v4 r hf;simp[Zci]at hf
 |succ fu ih=>
  intro v4 r hf;unfold Zci at hf;rcases Zah hf with⟨h5,hf⟩|⟨h5,hf⟩
  ·obtain⟨o6,hf⟩:=Zar hf;obtain⟨o7,hf⟩:=Zar hf;obtain⟨x2,q8,hf⟩:=Zaf hf;have O1:Obl _:=(.c h5 (.c o6 (.c o7 (.c (Zgz _ _ _ q8) .n))));rcases Zah hf with⟨h9,hf⟩|⟨h9,hf⟩
   ·obtain rfl:=oi hf;exact Zai Zak 13 [rz,rA [(10,aI x2)],rz] [true,true] [] [] [] (O1.app (.c h9 .n)) (by kernel_rfl) rfl
   ·exact ZaJ Zak Post.ends 15 [rz,rA [(10,aI x2)],rz] [true,false] ⟨[],[],[],[],[],[0,3,4],[],[]⟩ (O1.app (.c h9 .n)) (by kernel_rfl) (ih (Zaw v4 (1:Int)) r hf)
  ·exact ZaJ Zak Post.ends 9 [rz,rz] [false] ⟨[],[],[],[],[],[0,3],[],[]⟩ (.c h5 .n) (by kernel_rfl) (hg_doormanref30_Right_c0 (Zaw v3 (1:Int)) r hf)
def Zbv(a0:List Zaa):Nat→Int→Option Bool|0,_=>none|fu+1,v3=>bif(decide (v3<((a0.length:Nat):Int)))then need (0≤v3∧v3<((a0.length:Nat):Int))<|(Zff (a0.getD v3.toNat Zaa.d)).bind fun x1=>bif(!x1)then some false else Zci a0 v3 (Zbv a0 fu) ((v3-(0:Int)).toNat+2) (0:Int)else some true
theorem Zls(S0:Nat→Prop)(w0:ZaW)(a0:List Zaa):∀(fu:Nat)(v3:Int)(r:Bool),Zbv a0 fu v3=some r→Good Tryz.prog 34 S0 w0 (bodyPost Tryz.prog Tryz.f60 (Post S0 w0 (.one (.lit (.bool r))))) (at_ [1,0,1,0] (Zbl Tryz.f60)) ⟨[(0,.one (cL 10 Zaa.c Zaa.d a0)),(3,.one (.lit (.int .i64 v3)))],[]⟩:=by
 intro fu;induction fu with
 |zero=>
  intro v3 r hf;simp[Zbv]at hf
 |succ fu ih=>
  intro v3 r hf;unfold Zbv at hf;rcases Zah hf with⟨h1,hf⟩|⟨h1,hf⟩
  ·obtain⟨o2,hf⟩:=Zar hf;obtain⟨x1,q3,hf⟩:=Zaf hf;have O2:Obl _:=(.c h1 (.c o2 (.c (Znp _ _ q3) .n)));rcases Zah hf with⟨h4,hf⟩|⟨h4,hf⟩
   ·obtain rfl:=oi hf;exact Zai Zak 14 [rz,rA [(4,aB x1)],rz] [true,true] [] [] [] (O2.app (.c h4 .n)) (by kernel_rfl) rfl
   ·exact ZaJ Zak Post.ends 16 [rz,rA [(4,aB x1)],rz] [true,false] ⟨[],[],[],[],[],[0,3,4],[],[]⟩ (O2.app (.c h4 .n)) (by kernel_rfl) (Zlr S0 w0 a0 v3 (Zbv a0 fu) ih ((v3-(0:Int)).toNat+2) (0:Int) r hf)
  ·obtain rfl:=oi hf;exact Zai Zak 8 [rz,rz] [false] [] [] [] (.c h1 .n) (by kernel_rfl) rfl
def ZgK(a0:List Zaa):Option Bool:=Zbv a0 ((((a0.length:Nat):Int)-(0:Int)).toNat+2) (0:Int)
theorem Znk(a0:List Zaa)(r:Bool)(hf:ZgK a0=some r):Zaz Tryz.prog 60 [.one (cL 10 Zaa.c Zaa.d a0)] (.one (.lit (.bool r))):=by
 refine Zaz.of Tryz.func60 rfl rfl rfl rfl fun S0 w0=>?_;unfold ZgK at hf;exact ZaJ Zak Post.ends 6 [rz,rz] [] ⟨[],[],[],[],[],[0,3],[],[]⟩ .n (by kernel_rfl) (Zls S0 w0 a0 ((((a0.length:Nat):Int)-(0:Int)).toNat+2) (0:Int) r hf)
def ZbL(a0:List Zaa)(a1:Bool):Nat→Int→Int→Option Int|0,_,_=>none|fu+1,v5,v6=>bif(decide (v6<((a0.length:Nat):Int)))then need (0≤v6∧v6<((a0.length:Nat):Int))<|bif((a0.getD v6.toNat Zaa.d).fIn==a1)then ZbL a0 a1 fu (Zaw v5 (1:Int)) (Zaw v6 (1:Int))else ZbL a0 a1 fu v5 (Zaw v6 (1:Int))else some v5
theorem Zlt(S0:Nat→Prop)(w0:ZaW)(a0:List Zaa)(a1:Bool):∀(fu:Nat)(v5 v6 r:Int),ZbL a0 a1 fu v5 v6=some r→Good Tryz.prog 23 S0 w0 (bodyPost Tryz.prog Tryz.f61 (Post S0 w0 (.one (.lit (.int .i64 r))))) (at_ [1,1,0,1,0] (Zbl Tryz.f61)) ⟨[(0,.one (cL 10 Zaa.c Zaa.d a0)),(1,.one (.lit (.bool a1))),(5,.one (.lit (.int .i64 v5))),(6,.one (.lit (.int .i64 v6)))],[]⟩:=by
 intro fu;induction fu with
 |zero=>
  intro v5 v6 r hf;simp[ZbL]at hf
 |succ fu ih=>
  intro v5 v6 r hf;unfold ZbL at hf;rcases Zah hf with⟨h1,hf⟩|⟨h1,hf⟩
  ·obtain⟨o2,hf⟩:=Zar hf;rcases Zah hf with⟨h3,hf⟩|⟨h3,hf⟩
   ·exact ZaJ Zak Post.ends 15 [rz,rz,rz,rz] [true,true] ⟨[],[],[],[],[],[0,1,5,6],[],[]⟩ (.c h1 (.c o2 (.c h3 .n))) (by kernel_rfl) (ih (Zaw v5 (1:Int)) (Zaw v6 (1:Int)) r hf)
   ·exact ZaJ Zak Post.ends 15 [rz,rz,rz] [true,false] ⟨[],[],[],[],[],[0,1,5,6],[],[]⟩ (.c h1 (.c o2 (.c h3 .n))) (by kernel_rfl) (ih v5 (Zaw v6 (1:Int)) r hf)
  ·obtain rfl:=oi hf;exact Zai Zak 8 [rz,rz] [false] [] [] [] (.c h1 .n) (by kernel_rfl) rfl
def ZcU(a0:List Zaa)(a1:Bool):Option Int:=ZbL a0 a1 ((((a0.length:Nat):Int)-(0:Int)).toNat+2) (0:Int) (0:Int)
theorem Zfm(a0:List Zaa)(a1:Bool)(r:Int)(hf:ZcU a0 a1=some r):Zaz Tryz.prog 61 [.one (cL 10 Zaa.c Zaa.d a0),.one (.lit (.bool a1))] (.one (.lit (.int .i64 r))):=by
 refine Zaz.of Tryz.func61 rfl rfl rfl rfl fun S0 w0=>?_;unfold ZcU at hf;exact ZaJ Zak Post.ends 8 [rz,rz,rz] [] ⟨[],[],[],[],[],[0,1,5,6],[],[]⟩ .n (by kernel_rfl) (Zlt S0 w0 a0 a1 ((((a0.length:Nat):Int)-(0:Int)).toNat+2) (0:Int) (0:Int) r hf)
def ZbN(a0:List Zac)(a1:Int):Nat→Int→Int→Option Int|0,_,_=>none|fu+1,v5,v6=>bif(decide (v6<((a0.length:Nat):Int)))then need (0≤v6∧v6<((a0.length:Nat):Int))<|bif((a0.getD v6.toNat Zac.d).fState==a1)then ZbN a0 a1 fu (Zaw v5 (1:Int)) (Zaw v6 (1:Int))else ZbN a0 a1 fu v5 (Zaw v6 (1:Int))else some v5
theorem Zlw(S0:Nat→Prop)(w0:ZaW)(a0:List Zac)(a1:Int):∀(fu:Nat)(v5 v6 r:Int),ZbN a0 a1 fu v5 v6=some r→Good Tryz.prog 23 S0 w0 (bodyPost Tryz.prog Tryz.f63 (Post S0 w0 (.one (.lit (.int .i64 r))))) (at_ [1,1,0,1,0] (Zbl Tryz.f63)) ⟨[(0,.one (cL 7 Zac.c Zac.d a0)),(1,.one (.lit (.int .i64 a1))),(5,.one (.lit (.int .i64 v5))),(6,.one (.lit (.int .i64 v6)))],[]⟩:=by
 intro fu;induction fu with
 |zero=>
  intro v5 v6 r hf;simp[ZbN]at hf
 |succ fu ih=>
  intro v5 v6 r hf;unfold ZbN at hf;rcases Zah hf with⟨h1,hf⟩|⟨h1,hf⟩
  ·obtain⟨o2,hf⟩:=Zar hf;rcases Zah hf with⟨h3,hf⟩|⟨h3,hf⟩
   ·exact ZaJ Zak Post.ends 15 [rz,rz,rz,rz] [true,true] ⟨[],[],[],[],[],[0,1,5,6],[],[]⟩ (.c h1 (.c o2 (.c h3 .n))) (by kernel_rfl) (ih (Zaw v5 (1:Int)) (Zaw v6 (1:Int)) r hf)
   ·exact ZaJ Zak Post.ends 15 [rz,rz,rz] [true,false] ⟨[],[],[],[],[],[0,1,5,6],[],[]⟩ (.c h1 (.c o2 (.c h3 .n))) (by kernel_rfl) (ih v5 (Zaw v6 (1:Int)) r hf)
  ·obtain rfl:=oi hf;exact Zai Zak 8 [rz,rz] [false] [] [] [] (.c h1 .n) (by kernel_rfl) rfl
def Zeh(a0:List Zac)(a1:Int):Option Int:=ZbN a0 a1 ((((a0.length:Nat):Int)-(0:Int)).toNat+2) (0:Int) (0:Int)
theorem Zje(a0:List Zac)(a1 r:Int)(hf:Zeh a0 a1=some r):Zaz Tryz.prog 63 [.one (cL 7 Zac.c Zac.d a0),.one (.lit (.int .i64 a1))] (.one (.lit (.int .i64 r))):=by
 refine Zaz.of Tryz.func63 rfl rfl rfl rfl fun S0 w0=>?_;unfold Zeh at hf;exact ZaJ Zak Post.ends 8 [rz,rz,rz] [] ⟨[],[],[],[],[],[0,1,5,6],[],[]⟩ .n (by kernel_rfl) (Zlw S0 w0 a0 a1 ((((a0.length:Nat):Int)-(0:Int)).toNat+2) (0:Int) (0:Int) r hf)
def ZbC(a0:Zap):Option Int:=(ZcU a0.fPeers false).bind fun x1=>(Zeh a0.fBook (2:Int)).bind fun x2=>some (Zaw x1 x2)
theorem ZdF(a0:Zap)(r:Int)(hf:ZbC a0=some r):Zaz Tryz.prog 28 [.agg (Zap.c a0)] (.one (.lit (.int .i64 r))):=by
 refine Zaz.of Tryz.func28 rfl rfl rfl rfl fun S0 w0=>?_;unfold ZbC at hf;obtain⟨x1,q1,hf⟩:=Zaf hf;obtain⟨x2,q2,hf⟩:=Zaf hf;obtain rfl:=oi hf;exact Zai Zak 4 [rz,rA [(2,aI x1),(5,aI x2)]] [] [] [] [] (.c (Zfm _ _ _ q1) (.c (Zje _ _ _ q2) .n)) (by kernel_rfl) rfl
def Zck(a0:List Zaa):Nat→Int→Zag→Option Int|0,_,_=>none|fu+1,v5,b3=>bif(decide (v5<((a0.length:Nat):Int)))then need (0≤v5∧v5<((a0.length:Nat):Int))<|bif(decide ((a0.getD v5.toNat Zaa.d).fEnd=b3))then some v5 else Zck a0 fu (Zaw v5 (1:Int)) b3 else some (-1:Int)
theorem Zlx(S0:Nat→Prop)(w0:ZaW)(a0:List Zaa):∀(fu:Nat)(v5:Int)(b3:Zag)(r:Int),Zck a0 fu v5 b3=some r→Good Tryz.prog 20 S0 w0 (bodyPost Tryz.prog Tryz.f51 (Post S0 w0 (.one (.lit (.int .i64 r))))) (at_ [1,0,1,0] (Zbl Tryz.f51)) ⟨[(0,.one (cL 10 Zaa.c Zaa.d a0)),(3,.one (.ptr 3 0)),(5,.one (.lit (.int .i64 v5)))],[(3,.box [.lit (.bool b3.fAddr.fV6),.lit (.int .u64 b3.fAddr.fHi),.lit (.int .u64 b3.fAddr.fLo),.lit (.int .i64 b3.fPort)])]⟩:=by
 intro fu;induction fu with
 |zero=>
  intro v5 b3 r hf;simp[Zck]at hf
 |succ fu ih=>
  intro v5 b3 r hf;unfold Zck at hf;rcases Zah hf with⟨h1,hf⟩|⟨h1,hf⟩
  ·obtain⟨o2,hf⟩:=Zar hf
   let R1:List RA:=[rz,rA [(6,aB (decide ((a0.getD v5.toNat Zaa.d).fEnd=b3)))],rz]
   have O2:Obl _:=(.c h1 (.c o2 (.c (ZhW ((a0.getD v5.toNat Zaa.d).fEnd) b3 (.tmp 16) (.tmp 17)) .n)));rcases Zah hf with⟨h3,hf⟩|⟨h3,hf⟩
   ·obtain rfl:=oi hf;exact Zai Zak 13 R1 [true,true] [] [] [] (O2.app (.c h3 .n)) (by kernel_rfl) rfl
   ·exact ZaJ Zak Post.ends 15 R1 [true,false] ⟨[],[],[],[],[],[0,3,5],[3],[]⟩ (O2.app (.c h3 .n)) (by kernel_rfl) (ih (Zaw v5 (1:Int)) b3 r hf)
  ·obtain rfl:=oi hf;exact Zai Zak 8 [rz,rz] [false] [] [] [] (.c h1 .n) (by kernel_rfl) rfl
def Zcv(a0:List Zaa)(a1:Zag):Option Int:=Zck a0 ((((a0.length:Nat):Int)-(0:Int)).toNat+2) (0:Int) a1
theorem ZbO(a0:List Zaa)(a1:Zag)(r:Int)(hf:Zcv a0 a1=some r):Zaz Tryz.prog 51 [.one (cL 10 Zaa.c Zaa.d a0),.agg (Zag.c a1)] (.one (.lit (.int .i64 r))):=by
 refine Zaz.of Tryz.func51 rfl rfl rfl rfl fun S0 w0=>?_;unfold Zcv at hf;exact ZaJ Zak Post.ends 6 [rz,rz] [] ⟨[],[],[],[],[],[0,3,5],[3],[]⟩ .n (by kernel_rfl) (Zlx S0 w0 a0 ((((a0.length:Nat):Int)-(0:Int)).toNat+2) (0:Int) a1 r hf)
def Zcr(a0:List Zac):Nat→Int→Zag→Option Int|0,_,_=>none|fu+1,v5,b3=>bif(decide (v5<((a0.length:Nat):Int)))then need (0≤v5∧v5<((a0.length:Nat):Int))<|bif(decide ((a0.getD v5.toNat Zac.d).fEnd=b3))then some v5 else Zcr a0 fu (Zaw v5 (1:Int)) b3 else some (-1:Int)
theorem ZlT(S0:Nat→Prop)(w0:ZaW)(a0:List Zac):∀(fu:Nat)(v5:Int)(b3:Zag)(r:Int),Zcr a0 fu v5 b3=some r→Good Tryz.prog 20 S0 w0 (bodyPost Tryz.prog Tryz.f62 (Post S0 w0 (.one (.lit (.int .i64 r))))) (at_ [1,0,1,0] (Zbl Tryz.f62)) ⟨[(0,.one (cL 7 Zac.c Zac.d a0)),(3,.one (.ptr 3 0)),(5,.one (.lit (.int .i64 v5)))],[(3,.box [.lit (.bool b3.fAddr.fV6),.lit (.int .u64 b3.fAddr.fHi),.lit (.int .u64 b3.fAddr.fLo),.lit (.int .i64 b3.fPort)])]⟩:=by
 intro fu;induction fu with
 |zero=>
  intro v5 b3 r hf;simp[Zcr]at hf
 |succ fu ih=>
  intro v5 b3 r hf;unfold Zcr at hf;rcases Zah hf with⟨h1,hf⟩|⟨h1,hf⟩
  ·obtain⟨o2,hf⟩:=Zar hf
   let R1:List RA:=[rz,rA [(6,aB (decide ((a0.getD v5.toNat Zac.d).fEnd=b3)))],rz]
   have O2:Obl _:=(.c h1 (.c o2 (.c (ZhW ((a0.getD v5.toNat Zac.d).fEnd) b3 (.tmp 16) (.tmp 17)) .n)));rcases Zah hf with⟨h3,hf⟩|⟨h3,hf⟩
   ·obtain rfl:=oi hf;exact Zai Zak 13 R1 [true,true] [] [] [] (O2.app (.c h3 .n)) (by kernel_rfl) rfl
   ·exact ZaJ Zak Post.ends 15 R1 [true,false] ⟨[],[],[],[],[],[0,3,5],[3],[]⟩ (O2.app (.c h3 .n)) (by kernel_rfl) (ih (Zaw v5 (1:Int)) b3 r hf)
  ·obtain rfl:=oi hf;exact Zai Zak 8 [rz,rz] [false] [] [] [] (.c h1 .n) (by kernel_rfl) rfl
def ZfH(a0:List Zac)(a1:Zag):Option Int:=Zcr a0 ((((a0.length:Nat):Int)-(0:Int)).toNat+2) (0:Int) a1
theorem ZnO(a0:List Zac)(a1:Zag)(r:Int)(hf:ZfH a0 a1=some r):Zaz Tryz.prog 62 [.one (cL 7 Zac.c Zac.d a0),.agg (Zag.c a1)] (.one (.lit (.int .i64 r))):=by
 refine Zaz.of Tryz.func62 rfl rfl rfl rfl fun S0 w0=>?_;unfold ZfH at hf;exact ZaJ Zak Post.ends 6 [rz,rz] [] ⟨[],[],[],[],[],[0,3,5],[3],[]⟩ .n (by kernel_rfl) (ZlT S0 w0 a0 ((((a0.length:Nat):Int)-(0:Int)).toNat+2) (0:Int) a1 r hf)
def ZbJ(v5:Int)(b3:Zap)(kg_doormanref35_Right_c0:Int→Zap→Option Bool):Nat→Int→Option Bool|0,_=>none|fu+1,v7=>bif(decide (v7<((b3.fPeers.length:Nat):Int)))then need (0≤v7∧v7<((b3.fPeers.length:Nat):Int))<|bif(!(b3.fPeers.getD v7.toNat Zaa.d).fIn)then(ZfH b3.fBook ((b3.fPeers.getD v7.toNat Zaa.d).fEnd)).bind fun x8=>bif(decide (x8<(0:Int)))then some false else ZbJ v5 b3 kg_doormanref35_Right_c0 fu (Zaw v7 (1:Int))else ZbJ v5 b3 kg_doormanref35_Right_c0 fu (Zaw v7 (1:Int))else some true
theorem Zll(S0:Nat→Prop)(w0:ZaW)(v5:Int)(b3:Zap)(kg_doormanref35_Right_c0:Int→Zap→Option Bool)(hg_doormanref35_Right_c0:∀(v5_:Int)(b3_:Zap)(r:Bool),kg_doormanref35_Right_c0 v5_ b3_=some r→Good Tryz.prog 119 S0 w0 (bodyPost Tryz.prog Tryz.f18 (Post S0 w0 (.one (.lit (.bool r))))) (at_ [1,1,1,0,1,0] (Zbl Tryz.f18)) ⟨[(3,.one (.ptr 3 0)),(5,.one (.lit (.int .i64 v5_)))],[(3,.box [cL 5 Zab.c Zab.d b3_.fBans,cL 7 Zac.c Zac.d b3_.fBook,cL 10 Zaa.c Zaa.d b3_.fPeers])]⟩):∀(fu:Nat)(v7:Int)(r:Bool),ZbJ v5 b3 kg_doormanref35_Right_c0 fu v7=some r→Good Tryz.prog 119 S0 w0 (bodyPost Tryz.prog Tryz.f18 (Post S0 w0 (.one (.lit (.bool r))))) (at_ [1,1,1,1,0,1,0] (Zbl Tryz.f18)) ⟨[(3,.one (.ptr 3 0)),(7,.one (.lit (.int .i64 v7)))],[(3,.box [cL 5 Zab.c Zab.d b3.fBans,cL 7 Zac.c Zac.d b3.fBook,cL 10 Zaa.c Zaa.d b3.fPeers])]⟩:=by
 intro fu;induction fu with
 |zero=>
  intro v7 r hf;simp[ZbJ]at hf
 |succ fu ih=>
  intro v7 r hf;unfold ZbJ at hf;rcases Zah hf with⟨h22,hf⟩|⟨h22,hf⟩
  ·obtain⟨o23,hf⟩:=Zar hf;rcases Zah hf with⟨h24,hf⟩|⟨h24,hf⟩
   ·obtain⟨x8,q25,hf⟩:=Zaf hf
    let R1:List RA:=[rz,⟨[(16,aI x8)],[(7,true)],[],[],[],[],[]⟩,rz]
    have O2:Obl _:=(.c h22 (.c o23 (.c h24 (.c o23 (.c (ZnO _ _ _ q25) .n)))));rcases Zah hf with⟨h26,hf⟩|⟨h26,hf⟩
    ·obtain rfl:=oi hf;exact Zai Zak 13 R1 [true,true] [] [] [] (O2.app (.c h26 .n)) (by kernel_rfl) rfl
    ·exact ZaJ Zak Post.ends 15 R1 [true,false] ⟨[],[],[],[],[],[3,7],[3],[]⟩ (O2.app (.c h26 .n)) (by kernel_rfl) (ih (Zaw v7 (1:Int)) r hf)
   ·exact ZaJ Zak Post.ends 15 [rz,rB [(7,false)],rz] [true,false] ⟨[],[],[],[],[],[3,7],[3],[]⟩ (.c h22 (.c o23 (.c h24 (.c (show false=false from rfl) .n)))) (by kernel_rfl) (ih (Zaw v7 (1:Int)) r hf)
  ·obtain rfl:=oi hf;exact Zai Zak 8 [rz,rz] [false] [] [] [] (.c h22 .n) (by kernel_rfl) rfl
def Zbf:Nat→Int→Zap→Option Bool|0,_,_=>none|fu+1,v5,b3=>bif(decide (v5<((b3.fBook.length:Nat):Int)))then need (0≤v5∧v5<((b3.fBook.length:Nat):Int))<|(Zcv b3.fPeers ((b3.fBook.getD v5.toNat Zac.d).fEnd)).bind fun x7=>bif(decide (x7≥(0:Int)))then need (0≤x7∧x7<((b3.fPeers.length:Nat):Int))<|bif(!(((b3.fBook.getD v5.toNat Zac.d).fState==(3:Int))==(!(b3.fPeers.getD x7.toNat Zaa.d).fIn)))then some false else Zbf fu (Zaw v5 (1:Int)) b3 else bif(!(((b3.fBook.getD v5.toNat Zac.d).fState==(3:Int))==false))then some false else Zbf fu (Zaw v5 (1:Int)) b3 else ZbJ v5 b3 (Zbf fu) 1000000 (0:Int)
theorem Zlm(S0:Nat→Prop)(w0:ZaW):∀(fu:Nat)(v5:Int)(b3:Zap)(r:Bool),Zbf fu v5 b3=some r→Good Tryz.prog 119 S0 w0 (bodyPost Tryz.prog Tryz.f18 (Post S0 w0 (.one (.lit (.bool r))))) (at_ [1,1,1,0,1,0] (Zbl Tryz.f18)) ⟨[(3,.one (.ptr 3 0)),(5,.one (.lit (.int .i64 v5)))],[(3,.box [cL 5 Zab.c Zab.d b3.fBans,cL 7 Zac.c Zac.d b3.fBook,cL 10 Zaa.c Zaa.d b3.fPeers])]⟩:=by
 intro fu;induction fu with
 |zero=>
  intro v5 b3 r hf;simp[Zbf]at hf
 |succ fu ih=>
  intro v5 b3 r hf;unfold Zbf at hf;rcases Zah hf with⟨h15,hf⟩|⟨h15,hf⟩
  ·obtain⟨o16,hf⟩:=Zar hf;obtain⟨x7,q17,hf⟩:=Zaf hf;have O3:Obl _:=(.c h15 (.c o16 (.c (ZbO _ _ _ q17) (.c o16 .n))));rcases Zah hf with⟨h18,hf⟩|⟨h18,hf⟩
   ·obtain⟨o19,hf⟩:=Zar hf;rcases Zah hf with⟨h20,hf⟩|⟨h20,hf⟩
    ·obtain rfl:=oi hf;exact Zai Zak 15 [rz,rA [(8,aI x7)],rB [(9,true)],rz] [true,true] [] [] [] (O3.app (.c h18 (.c o19 (.c h20 .n)))) (by kernel_rfl) rfl
    ·exact ZaJ Zak Post.ends 17 [rz,rA [(8,aI x7)],rB [(9,true)],rz] [true,false] ⟨[],[],[],[],[],[3,5],[3],[]⟩ (O3.app (.c h18 (.c o19 (.c h20 .n)))) (by kernel_rfl) (ih (Zaw v5 (1:Int)) b3 r hf)
   ·rcases Zah hf with⟨h21,hf⟩|⟨h21,hf⟩
    ·obtain rfl:=oi hf;exact Zai Zak 15 [rz,rA [(8,aI x7)],rB [(9,false)],rz] [true,true] [] [] [] (O3.app (.c h18 (.c h21 .n))) (by kernel_rfl) rfl
    ·exact ZaJ Zak Post.ends 17 [rz,rA [(8,aI x7)],rB [(9,false)],rz] [true,false] ⟨[],[],[],[],[],[3,5],[3],[]⟩ (O3.app (.c h18 (.c h21 .n))) (by kernel_rfl) (ih (Zaw v5 (1:Int)) b3 r hf)
  ·exact ZaJ Zak Post.ends 10 [rz,rz] [false] ⟨[],[],[],[],[],[3,7],[3],[]⟩ (.c h15 .n) (by kernel_rfl) (Zll S0 w0 v5 b3 (Zbf fu) ih 1000000 (0:Int) r hf)
def ZeY(a0:ZaB)(a1:Zap):Option Bool:=(Zeg a0).bind fun x1=>bif(!x1)then some false else(ZgL a1.fBans).bind fun x2=>bif(!x2)then some false else(Zfd a1.fBook).bind fun x3=>bif(!x3)then some false else(ZgK a1.fPeers).bind fun x4=>bif(!x4)then some false else bif(decide (((a1.fBans.length:Nat):Int)>a0.fMaxBans))then some false else bif(decide (((a1.fBook.length:Nat):Int)>a0.fMaxBook))then some false else(ZcU a1.fPeers true).bind fun x5=>bif(decide (x5>a0.fMaxIn))then some false else(ZbC a1).bind fun x6=>bif(decide (x6>a0.fMaxOut))then some false else Zbf 1000000 (0:Int) a1
theorem Znf(a0:ZaB)(a1:Zap)(r:Bool)(hf:ZeY a0 a1=some r):Zaz Tryz.prog 18 [.agg (ZaB.c a0),.agg (Zap.c a1)] (.one (.lit (.bool r))):=by
 refine Zaz.of Tryz.func18 rfl rfl rfl rfl fun S0 w0=>?_;unfold ZeY at hf;obtain⟨x1,q1,hf⟩:=Zaf hf;rcases Zah hf with⟨h2,hf⟩|⟨h2,hf⟩
 ·obtain rfl:=oi hf;exact Zai Zak 8 [rz,⟨[(1,aB x1)],[(3,true)],[],[],[],[],[]⟩,rz] [true] [] [] [] (.c (Zjc _ _ q1) (.c h2 (.c (show true=true from rfl) .n))) (by kernel_rfl) rfl
 ·obtain⟨x2,q3,hf⟩:=Zaf hf;have O4:Obl _:=(.c (Zjc _ _ q1) (.c h2 (.c (Znr _ _ q3) .n)));rcases Zah hf with⟨h4,hf⟩|⟨h4,hf⟩
  ·obtain rfl:=oi hf;exact Zai Zak 8 [rz,⟨[(1,aB x1),(6,aB x2)],[(3,false),(9,true)],[],[],[],[],[]⟩,rz] [true] [] [] [] (O4.app (.c h4 (.c (show true=true from rfl) .n))) (by kernel_rfl) rfl
  ·obtain⟨x3,q5,hf⟩:=Zaf hf;have O5:Obl _:=(O4.app (.c h4 (.c (Znm _ _ q5) .n)));rcases Zah hf with⟨h6,hf⟩|⟨h6,hf⟩
   ·obtain rfl:=oi hf;exact Zai Zak 8 [rz,⟨[(1,aB x1),(6,aB x2),(12,aB x3)],[(3,false),(9,false),(15,true)],[],[],[],[],[]⟩,rz] [true] [] [] [] (O5.app (.c h6 (.c (show true=true from rfl) .n))) (by kernel_rfl) rfl
   ·obtain⟨x4,q7,hf⟩:=Zaf hf
    let R6:List RA:=[rz,⟨[(1,aB x1),(6,aB x2),(12,aB x3),(18,aB x4)],[(3,false),(9,false),(15,false)],[],[],[],[],[]⟩]
    have O7:Obl _:=(O5.app (.c h6 (.c (Znk _ _ q7) .n)));rcases Zah hf with⟨h8,hf⟩|⟨h8,hf⟩
    ·obtain rfl:=oi hf;exact Zai Zak 8 (R6++[rz]) [true] [] [] [] (O7.app (.c h8 .n)) (by kernel_rfl) rfl
    ·rcases Zah hf with⟨h9,hf⟩|⟨h9,hf⟩
     ·obtain rfl:=oi hf;exact Zai Zak 13 (R6++[rB [(6,true)],rz]) [false,true] [] [] [] (O7.app (.c h8 (.c h9 (.c (show true=true from rfl) .n)))) (by kernel_rfl) rfl
     ·rcases Zah hf with⟨h10,hf⟩|⟨h10,hf⟩
      ·obtain rfl:=oi hf;exact Zai Zak 13 (R6++[rB [(6,false),(14,true)],rz]) [false,true] [] [] [] (O7.app (.c h8 (.c h9 (.c h10 (.c (show true=true from rfl) .n))))) (by kernel_rfl) rfl
      ·obtain⟨x5,q11,hf⟩:=Zaf hf;have O8:Obl _:=(O7.app (.c h8 (.c h9 (.c h10 (.c (Zfm _ _ _ q11) .n)))));rcases Zah hf with⟨h12,hf⟩|⟨h12,hf⟩
       ·obtain rfl:=oi hf;exact Zai Zak 13 (R6++[⟨[(17,aI x5)],[(6,false),(14,false),(22,true)],[],[],[],[],[]⟩,rz]) [false,true] [] [] [] (O8.app (.c h12 (.c (show true=true from rfl) .n))) (by kernel_rfl) rfl
       ·obtain⟨x6,q13,hf⟩:=Zaf hf
        let R9:List RA:=(R6++[⟨[(17,aI x5),(24,aI x6)],[(6,false),(14,false),(22,false)],[],[],[],[],[]⟩,rz])
        have O10:Obl _:=(O8.app (.c h12 (.c (ZdF _ _ q13) .n)));rcases Zah hf with⟨h14,hf⟩|⟨h14,hf⟩
        ·obtain rfl:=oi hf;exact Zai Zak 13 R9 [false,true] [] [] [] (O10.app (.c h14 .n)) (by kernel_rfl) rfl
        ·exact ZaJ Zak Post.ends 16 R9 [false,false] ⟨[],[],[],[],[],[3,5],[3],[]⟩ (O10.app (.c h14 .n)) (by kernel_rfl) (Zlm S0 w0 1000000 (0:Int) a1 r hf)
def ZfI(a0:ZaA):Option Bool:=bif(a0.fKind==(2:Int))then some true else bif(a0.fKind==(5:Int))then some true else bif(a0.fKind==(11:Int))then some true else some (a0.fKind==(12:Int))
theorem ZnS(a0:ZaA)(r:Bool)(hf:ZfI a0=some r):Zaz Tryz.prog 19 [.agg (ZaA.c a0)] (.one (.lit (.bool r))):=by
 refine Zaz.of Tryz.func19 rfl rfl rfl rfl fun S0 w0=>?_;unfold ZfI at hf;rcases Zah hf with⟨h1,hf⟩|⟨h1,hf⟩
 ·obtain rfl:=oi hf;exact Zai Zak 4 [rz,rB [(3,true)]] [] [] [] [] (.c h1 .n) (by kernel_rfl) rfl
 ·rcases Zah hf with⟨h2,hf⟩|⟨h2,hf⟩
  ·obtain rfl:=oi hf;exact Zai Zak 4 [rz,rB [(3,false),(8,true)]] [] [] [] [] (.c h1 (.c h2 .n)) (by kernel_rfl) rfl
  ·rcases Zah hf with⟨h3,hf⟩|⟨h3,hf⟩
   ·obtain rfl:=oi hf;exact Zai Zak 4 [rz,rB [(3,false),(8,false),(13,true)]] [] [] [] [] (.c h1 (.c h2 (.c h3 .n))) (by kernel_rfl) rfl
   ·obtain rfl:=oi hf;exact Zai Zak 4 [rz,rB [(3,false),(8,false),(13,false)]] [] [] [] [] (.c h1 (.c h2 (.c h3 .n))) (by kernel_rfl) rfl
def Zig:Option ZaB:=some (ZaB.mk (8:Int) (4:Int) (4:Int) (64:Int) (64:Int) (1:Int) (Zdv.mk (1:Int) (1:Int) (1:Int) (1:Int)) (100:Int) (100:Int) (1000:Int) (2:Int) (64:Int) (4:Int))
theorem Zjd(r:ZaB)(hf:Zig=some r):Zaz Tryz.prog 46 [] (.agg (ZaB.c r)):=by
 refine Zaz.of Tryz.func46 rfl rfl rfl rfl fun S0 w0=>?_;unfold Zig at hf;obtain rfl:=oi hf;exact Zai Zak 4 [rz,rz] [] [] [] [] .n (by kernel_rfl) rfl
def ZlH:Option (ByteArray×ByteArray×ByteArray×ByteArray×ByteArray×ByteArray×ByteArray×ByteArray×ByteArray×ByteArray×ByteArray×ByteArray×ByteArray×ByteArray):=some ((⟨#[]⟩ : ByteArray),(⟨#[97,99,99,101,112,116]⟩ : ByteArray),(⟨#[108,101,97,118,101]⟩ : ByteArray),(⟨#[100,105,97,108]⟩ : ByteArray),(⟨#[114,101,115,117,108,116]⟩ : ByteArray),(⟨#[98,108,97,109,101]⟩ : ByteArray),(⟨#[98,97,110]⟩ : ByteArray),(⟨#[117,110,98,97,110]⟩ : ByteArray),(⟨#[98,97,110,110,101,100]⟩ : ByteArray),(⟨#[116,105,99,107]⟩ : ByteArray),(⟨#[108,105,115,116]⟩ : ByteArray),(⟨#[112,111,110,103]⟩ : ByteArray),(⟨#[119,111,114,107]⟩ : ByteArray),(⟨#[108,101,97,114,110]⟩ : ByteArray))
theorem ZsU(r:(ByteArray×ByteArray×ByteArray×ByteArray×ByteArray×ByteArray×ByteArray×ByteArray×ByteArray×ByteArray×ByteArray×ByteArray×ByteArray×ByteArray))(hf:ZlH=some r):Zaz Tryz.prog 211 [] (.agg ((cP cS (cP cS (cP cS (cP cS (cP cS (cP cS (cP cS (cP cS (cP cS (cP cS (cP cS (cP cS (cP cS cS))))))))))))) r)):=by
 refine Zaz.of Tryz.func211 rfl rfl rfl rfl fun S0 w0=>?_;unfold ZlH at hf;obtain rfl:=oi hf;exact Zai Zak 4 [rz,rz] [] [] [] [] .n (by kernel_rfl) rfl
def Zqk(a0:List ByteArray)(a1:Int):Option ByteArray:=bif(decide (a1<(0:Int)))then some (⟨#[]⟩ : ByteArray)else bif(decide (a1≥((a0.length:Nat):Int)))then some (⟨#[]⟩ : ByteArray)else need (0≤a1∧a1<((a0.length:Nat):Int))<|some (a0.getD a1.toNat ByteArray.empty)
theorem ZwN(a0:List ByteArray)(a1:Int)(r:ByteArray)(hf:Zqk a0 a1=some r):Zaz Tryz.prog 212 [.one (cL 1 cS ByteArray.empty a0),.one (.lit (.int .i64 a1))] (.one (.lit (.string r))):=by
 refine Zaz.of Tryz.func212 rfl rfl rfl rfl fun S0 w0=>?_;unfold Zqk at hf;rcases Zah hf with⟨h1,hf⟩|⟨h1,hf⟩
 ·obtain rfl:=oi hf;exact Zai Zak 8 [rz,rB [(2,true)],rz] [true] [] [] [] (.c h1 (.c (show true=true from rfl) .n)) (by kernel_rfl) rfl
 ·rcases Zah hf with⟨h2,hf⟩|⟨h2,hf⟩
  ·obtain rfl:=oi hf;exact Zai Zak 8 [rz,rB [(2,false)],rz] [true] [] [] [] (.c h1 (.c h2 .n)) (by kernel_rfl) rfl
  ·obtain⟨o3,hf⟩:=Zar hf;obtain rfl:=oi hf;exact Zai Zak 9 [rz,rB [(2,false)],rz] [false] [] [] [] (.c h1 (.c h2 (.c o3 .n))) (by kernel_rfl) rfl
def ZkY(a0:Int):Option ByteArray:=(ZlH).bind fun x1=>(Zqk ([x1.1,x1.2.1,x1.2.2.1,x1.2.2.2.1,x1.2.2.2.2.1,x1.2.2.2.2.2.1,x1.2.2.2.2.2.2.1,x1.2.2.2.2.2.2.2.1,x1.2.2.2.2.2.2.2.2.1,x1.2.2.2.2.2.2.2.2.2.1,x1.2.2.2.2.2.2.2.2.2.2.1,x1.2.2.2.2.2.2.2.2.2.2.2.1,x1.2.2.2.2.2.2.2.2.2.2.2.2.1,x1.2.2.2.2.2.2.2.2.2.2.2.2.2]:List ByteArray) a0).bind fun x2=>some x2
theorem Zpj(a0:Int)(r:ByteArray)(hf:ZkY a0=some r):Zaz Tryz.prog 133 [.one (.lit (.int .i64 a0))] (.one (.lit (.string r))):=by
 refine Zaz.of Tryz.func133 rfl rfl rfl rfl fun S0 w0=>?_;unfold ZkY at hf;obtain⟨x1,q1,hf⟩:=Zaf hf;obtain⟨x2,q2,hf⟩:=Zaf hf;obtain rfl:=oi hf;exact Zai Zak 6 [rz,rA [(0,aG ((cP cS (cP cS (cP cS (cP cS (cP cS (cP cS (cP cS (cP cS (cP cS (cP cS (cP cS (cP cS (cP cS cS))))))))))))) x1))],⟨[(2,.r (.one (.lit (.string x2))) [])],[],[(0,[3])],[],[],[(0,(([x1.1,x1.2.1,x1.2.2.1,x1.2.2.2.1,x1.2.2.2.2.1,x1.2.2.2.2.2.1,x1.2.2.2.2.2.2.1,x1.2.2.2.2.2.2.2.1,x1.2.2.2.2.2.2.2.2.1,x1.2.2.2.2.2.2.2.2.2.1,x1.2.2.2.2.2.2.2.2.2.2.1,x1.2.2.2.2.2.2.2.2.2.2.2.1,x1.2.2.2.2.2.2.2.2.2.2.2.2.1,x1.2.2.2.2.2.2.2.2.2.2.2.2.2]:List ByteArray).length,Zao cS ByteArray.empty ([x1.1,x1.2.1,x1.2.2.1,x1.2.2.2.1,x1.2.2.2.2.1,x1.2.2.2.2.2.1,x1.2.2.2.2.2.2.1,x1.2.2.2.2.2.2.2.1,x1.2.2.2.2.2.2.2.2.1,x1.2.2.2.2.2.2.2.2.2.1,x1.2.2.2.2.2.2.2.2.2.2.1,x1.2.2.2.2.2.2.2.2.2.2.2.1,x1.2.2.2.2.2.2.2.2.2.2.2.2.1,x1.2.2.2.2.2.2.2.2.2.2.2.2.2]:List ByteArray)))],[]⟩] [] [] [] [] (.c (ZsU _ q1) (.c (show ([x1.1,x1.2.1,x1.2.2.1,x1.2.2.2.1,x1.2.2.2.2.1,x1.2.2.2.2.2.1,x1.2.2.2.2.2.2.1,x1.2.2.2.2.2.2.2.1,x1.2.2.2.2.2.2.2.2.1,x1.2.2.2.2.2.2.2.2.2.1,x1.2.2.2.2.2.2.2.2.2.2.1,x1.2.2.2.2.2.2.2.2.2.2.2.1,x1.2.2.2.2.2.2.2.2.2.2.2.2.1,x1.2.2.2.2.2.2.2.2.2.2.2.2.2]:List ByteArray).length=14∧∀i j,i<14→j<1→Zao cS ByteArray.empty ([x1.1,x1.2.1,x1.2.2.1,x1.2.2.2.1,x1.2.2.2.2.1,x1.2.2.2.2.2.1,x1.2.2.2.2.2.2.1,x1.2.2.2.2.2.2.2.1,x1.2.2.2.2.2.2.2.2.1,x1.2.2.2.2.2.2.2.2.2.1,x1.2.2.2.2.2.2.2.2.2.2.1,x1.2.2.2.2.2.2.2.2.2.2.2.1,x1.2.2.2.2.2.2.2.2.2.2.2.2.1,x1.2.2.2.2.2.2.2.2.2.2.2.2.2]:List ByteArray) i j=([.lit (.string x1.1),.lit (.string x1.2.1),.lit (.string x1.2.2.1),.lit (.string x1.2.2.2.1),.lit (.string x1.2.2.2.2.1),.lit (.string x1.2.2.2.2.2.1),.lit (.string x1.2.2.2.2.2.2.1),.lit (.string x1.2.2.2.2.2.2.2.1),.lit (.string x1.2.2.2.2.2.2.2.2.1),.lit (.string x1.2.2.2.2.2.2.2.2.2.1),.lit (.string x1.2.2.2.2.2.2.2.2.2.2.1),.lit (.string x1.2.2.2.2.2.2.2.2.2.2.2.1),.lit (.string x1.2.2.2.2.2.2.2.2.2.2.2.2.1),.lit (.string x1.2.2.2.2.2.2.2.2.2.2.2.2.2)]:List C).getD (0+(i * 1+j)) .junk from⟨rfl,ZEp (sz:=1) cS ByteArray.empty ([x1.1,x1.2.1,x1.2.2.1,x1.2.2.2.1,x1.2.2.2.2.1,x1.2.2.2.2.2.1,x1.2.2.2.2.2.2.1,x1.2.2.2.2.2.2.2.1,x1.2.2.2.2.2.2.2.2.1,x1.2.2.2.2.2.2.2.2.2.1,x1.2.2.2.2.2.2.2.2.2.2.1,x1.2.2.2.2.2.2.2.2.2.2.2.1,x1.2.2.2.2.2.2.2.2.2.2.2.2.1,x1.2.2.2.2.2.2.2.2.2.2.2.2.2]:List ByteArray) [.lit (.string x1.1),.lit (.string x1.2.1),.lit (.string x1.2.2.1),.lit (.string x1.2.2.2.1),.lit (.string x1.2.2.2.2.1),.lit (.string x1.2.2.2.2.2.1),.lit (.string x1.2.2.2.2.2.2.1),.lit (.string x1.2.2.2.2.2.2.2.1),.lit (.string x1.2.2.2.2.2.2.2.2.1),.lit (.string x1.2.2.2.2.2.2.2.2.2.1),.lit (.string x1.2.2.2.2.2.2.2.2.2.2.1),.lit (.string x1.2.2.2.2.2.2.2.2.2.2.2.1),.lit (.string x1.2.2.2.2.2.2.2.2.2.2.2.2.1),.lit (.string x1.2.2.2.2.2.2.2.2.2.2.2.2.2)] (fun _=>rfl) rfl⟩) (.c (ZwN _ _ _ q2) .n))) (by kernel_rfl) rfl
def Zjh(v3:Int)(v12:Bool):Option (List Int):=bif v12 then some ([(3:Int)]:List Int)else bif(v3==(4:Int))then some ([(0:Int),(5:Int),(3:Int),(4:Int)]:List Int)else bif(v3==(5:Int))then some ([(0:Int),(4:Int),(3:Int)]:List Int)else bif(v3==(6:Int))then some ([(1:Int),(4:Int),(3:Int)]:List Int)else bif(v3==(7:Int))then some ([(1:Int)]:List Int)else bif(v3==(8:Int))then some ([(2:Int),(3:Int)]:List Int)else bif(v3==(11:Int))then some ([(0:Int),(4:Int)]:List Int)else some ([]:List Int)
theorem ZlJ(S0:Nat→Prop)(w0:ZaW)(v3:Int)(v12:Bool)(r:List Int)(hf:Zjh v3 v12=some r):Good Tryz.prog 34 S0 w0 (bodyPost Tryz.prog Tryz.f134 (Zca S0 w0 [(99999,.rows 181 1 r.length (Zao (cI .i64) (0:Int) r))] (.one (.osl 99999 r.length)))) (at_ [1,0,1,0,1,1,1,1,1] (Zbl Tryz.f134)) ⟨[(3,.one (.lit (.int .i64 v3))),(12,.one (.lit (.bool v12)))],[]⟩:=by
 unfold Zjh at hf;rcases Zah hf with⟨h5,hf⟩|⟨h5,hf⟩
 ·obtain rfl:=oi hf;exact Zcd Zak 3 [rA [(0,.c ([(3:Int)]:List Int).length (Zao (cI .i64) (0:Int) ([(3:Int)]:List Int)))]] [true] ⟨[],[],[],[],[],[2],[15],[(15,99999)]⟩ (.c h5 (.c (show ([(3:Int)]:List Int).length=1 from rfl) (.c (show ∀i j,i<1→j<1→Zao (cI .i64) (0:Int) ([(3:Int)]:List Int) i j=(([(3:Int)]:List Int).flatMap (cI .i64)).getD (i * 1+j) .junk from(fun i j hi hj=>ZaI (sz:=1) (e:=(cI .i64)) (d:=(0:Int)) (fun _=>rfl) ([(3:Int)]:List Int) i j hi hj)) .n))) (by kernel_rfl)
 ·rcases Zah hf with⟨h6,hf⟩|⟨h6,hf⟩
  ·obtain rfl:=oi hf;exact Zcd Zak 6 [rz,rA [(0,.c ([(0:Int),(5:Int),(3:Int),(4:Int)]:List Int).length (Zao (cI .i64) (0:Int) ([(0:Int),(5:Int),(3:Int),(4:Int)]:List Int)))]] [false,true] ⟨[],[],[],[],[],[2],[18],[(18,99999)]⟩ (.c h5 (.c h6 (.c (show ([(0:Int),(5:Int),(3:Int),(4:Int)]:List Int).length=4 from rfl) (.c (show ∀i j,i<4→j<1→Zao (cI .i64) (0:Int) ([(0:Int),(5:Int),(3:Int),(4:Int)]:List Int) i j=(([(0:Int),(5:Int),(3:Int),(4:Int)]:List Int).flatMap (cI .i64)).getD (i * 1+j) .junk from(fun i j hi hj=>ZaI (sz:=1) (e:=(cI .i64)) (d:=(0:Int)) (fun _=>rfl) ([(0:Int),(5:Int),(3:Int),(4:Int)]:List Int) i j hi hj)) .n)))) (by kernel_rfl)
  ·rcases Zah hf with⟨h7,hf⟩|⟨h7,hf⟩
   ·obtain rfl:=oi hf;exact Zcd Zak 9 [rz,rz,rA [(0,.c ([(0:Int),(4:Int),(3:Int)]:List Int).length (Zao (cI .i64) (0:Int) ([(0:Int),(4:Int),(3:Int)]:List Int)))]] [false,false,true] ⟨[],[],[],[],[],[2],[21],[(21,99999)]⟩ (.c h5 (.c h6 (.c h7 (.c (show ([(0:Int),(4:Int),(3:Int)]:List Int).length=3 from rfl) (.c (show ∀i j,i<3→j<1→Zao (cI .i64) (0:Int) ([(0:Int),(4:Int),(3:Int)]:List Int) i j=(([(0:Int),(4:Int),(3:Int)]:List Int).flatMap (cI .i64)).getD (i * 1+j) .junk from(fun i j hi hj=>ZaI (sz:=1) (e:=(cI .i64)) (d:=(0:Int)) (fun _=>rfl) ([(0:Int),(4:Int),(3:Int)]:List Int) i j hi hj)) .n))))) (by kernel_rfl)
   ·rcases Zah hf with⟨h8,hf⟩|⟨h8,hf⟩
    ·obtain rfl:=oi hf;exact Zcd Zak 12 [rz,rz,rz,rA [(0,.c ([(1:Int),(4:Int),(3:Int)]:List Int).length (Zao (cI .i64) (0:Int) ([(1:Int),(4:Int),(3:Int)]:List Int)))]] [false,false,false,true] ⟨[],[],[],[],[],[2],[24],[(24,99999)]⟩ (.c h5 (.c h6 (.c h7 (.c h8 (.c (show ([(1:Int),(4:Int),(3:Int)]:List Int).length=3 from rfl) (.c (show ∀i j,i<3→j<1→Zao (cI .i64) (0:Int) ([(1:Int),(4:Int),(3:Int)]:List Int) i j=(([(1:Int),(4:Int),(3:Int)]:List Int).flatMap (cI .i64)).getD (i * 1+j) .junk from(fun i j hi hj=>ZaI (sz:=1) (e:=(cI .i64)) (d:=(0:Int)) (fun _=>rfl) ([(1:Int),(4:Int),(3:Int)]:List Int) i j hi hj)) .n)))))) (by kernel_rfl)
    ·rcases Zah hf with⟨h9,hf⟩|⟨h9,hf⟩
     ·obtain rfl:=oi hf;exact Zcd Zak 15 [rz,rz,rz,rz,rA [(0,.c ([(1:Int)]:List Int).length (Zao (cI .i64) (0:Int) ([(1:Int)]:List Int)))]] [false,false,false,false,true] ⟨[],[],[],[],[],[2],[27],[(27,99999)]⟩ (.c h5 (.c h6 (.c h7 (.c h8 (.c h9 (.c (show ([(1:Int)]:List Int).length=1 from rfl) (.c (show ∀i j,i<1→j<1→Zao (cI .i64) (0:Int) ([(1:Int)]:List Int) i j=(([(1:Int)]:List Int).flatMap (cI .i64)).getD (i * 1+j) .junk from(fun i j hi hj=>ZaI (sz:=1) (e:=(cI .i64)) (d:=(0:Int)) (fun _=>rfl) ([(1:Int)]:List Int) i j hi hj)) .n))))))) (by kernel_rfl)
     ·rcases Zah hf with⟨h10,hf⟩|⟨h10,hf⟩
      ·obtain rfl:=oi hf;exact Zcd Zak 18 [rz,rz,rz,rz,rz,rA [(0,.c ([(2:Int),(3:Int)]:List Int).length (Zao (cI .i64) (0:Int) ([(2:Int),(3:Int)]:List Int)))]] [false,false,false,false,false,true] ⟨[],[],[],[],[],[2],[30],[(30,99999)]⟩ (.c h5 (.c h6 (.c h7 (.c h8 (.c h9 (.c h10 (.c (show ([(2:Int),(3:Int)]:List Int).length=2 from rfl) (.c (show ∀i j,i<2→j<1→Zao (cI .i64) (0:Int) ([(2:Int),(3:Int)]:List Int) i j=(([(2:Int),(3:Int)]:List Int).flatMap (cI .i64)).getD (i * 1+j) .junk from(fun i j hi hj=>ZaI (sz:=1) (e:=(cI .i64)) (d:=(0:Int)) (fun _=>rfl) ([(2:Int),(3:Int)]:List Int) i j hi hj)) .n)))))))) (by kernel_rfl)
      ·have O1:Obl _:=(.c h5 (.c h6 (.c h7 (.c h8 (.c h9 (.c h10 .n))))));rcases Zah hf with⟨h11,hf⟩|⟨h11,hf⟩
       ·obtain rfl:=oi hf;exact Zcd Zak 21 [rz,rz,rz,rz,rz,rz,rA [(0,.c ([(0:Int),(4:Int)]:List Int).length (Zao (cI .i64) (0:Int) ([(0:Int),(4:Int)]:List Int)))]] [false,false,false,false,false,false,true] ⟨[],[],[],[],[],[2],[33],[(33,99999)]⟩ (O1.app (.c h11 (.c (show ([(0:Int),(4:Int)]:List Int).length=2 from rfl) (.c (show ∀i j,i<2→j<1→Zao (cI .i64) (0:Int) ([(0:Int),(4:Int)]:List Int) i j=(([(0:Int),(4:Int)]:List Int).flatMap (cI .i64)).getD (i * 1+j) .junk from(fun i j hi hj=>ZaI (sz:=1) (e:=(cI .i64)) (d:=(0:Int)) (fun _=>rfl) ([(0:Int),(4:Int)]:List Int) i j hi hj)) .n)))) (by kernel_rfl)
       ·obtain rfl:=oi hf;exact Zcd Zak 23 [rz,rz,rz,rz,rz,rz,rz] [false,false,false,false,false,false,false] ⟨[],[],[],[],[(2,99999,181,1,Zao (cI .i64) (0:Int) [])],[2],[99999],[]⟩ (O1.app (.c h11 .n)) (by kernel_rfl)
def ZhN(v3:Int)(v4:Bool):Option (List Int):=bif v4 then some ([(0:Int),(3:Int)]:List Int)else bif(v3==(2:Int))then some ([(0:Int)]:List Int)else bif(v3==(3:Int))then Zjh v3 (v3==(3:Int))else Zjh v3 (v3==(9:Int))
theorem Zji(S0:Nat→Prop)(w0:ZaW)(v3:Int)(v4:Bool)(r:List Int)(hf:ZhN v3 v4=some r):Good Tryz.prog 34 S0 w0 (bodyPost Tryz.prog Tryz.f134 (Zca S0 w0 [(99999,.rows 181 1 r.length (Zao (cI .i64) (0:Int) r))] (.one (.osl 99999 r.length)))) (at_ [1,0,1,0,1] (Zbl Tryz.f134)) ⟨[(3,.one (.lit (.int .i64 v3))),(4,.one (.lit (.bool v4)))],[]⟩:=by
 unfold ZhN at hf;rcases Zah hf with⟨h2,hf⟩|⟨h2,hf⟩
 ·obtain rfl:=oi hf;exact Zcd Zak 3 [rA [(0,.c ([(0:Int),(3:Int)]:List Int).length (Zao (cI .i64) (0:Int) ([(0:Int),(3:Int)]:List Int)))]] [true] ⟨[],[],[],[],[],[2],[8],[(8,99999)]⟩ (.c h2 (.c (show ([(0:Int),(3:Int)]:List Int).length=2 from rfl) (.c (show ∀i j,i<2→j<1→Zao (cI .i64) (0:Int) ([(0:Int),(3:Int)]:List Int) i j=(([(0:Int),(3:Int)]:List Int).flatMap (cI .i64)).getD (i * 1+j) .junk from(fun i j hi hj=>ZaI (sz:=1) (e:=(cI .i64)) (d:=(0:Int)) (fun _=>rfl) ([(0:Int),(3:Int)]:List Int) i j hi hj)) .n))) (by kernel_rfl)
 ·rcases Zah hf with⟨h3,hf⟩|⟨h3,hf⟩
  ·obtain rfl:=oi hf;exact Zcd Zak 6 [rz,rA [(0,.c ([(0:Int)]:List Int).length (Zao (cI .i64) (0:Int) ([(0:Int)]:List Int)))]] [false,true] ⟨[],[],[],[],[],[2],[11],[(11,99999)]⟩ (.c h2 (.c h3 (.c (show ([(0:Int)]:List Int).length=1 from rfl) (.c (show ∀i j,i<1→j<1→Zao (cI .i64) (0:Int) ([(0:Int)]:List Int) i j=(([(0:Int)]:List Int).flatMap (cI .i64)).getD (i * 1+j) .junk from(fun i j hi hj=>ZaI (sz:=1) (e:=(cI .i64)) (d:=(0:Int)) (fun _=>rfl) ([(0:Int)]:List Int) i j hi hj)) .n)))) (by kernel_rfl)
  ·rcases Zah hf with⟨h4,hf⟩|⟨h4,hf⟩
   ·exact ZaJ Zak Zca.ends 9 [rz,rz] [false,false,true] ⟨[],[],[],[],[],[3,12],[],[]⟩ (.c h2 (.c h3 (.c h4 .n))) (by kernel_rfl) (ZlJ S0 w0 v3 (v3==(3:Int)) r hf)
   ·exact ZaJ Zak Zca.ends 9 [rz,rz,rz] [false,false,false] ⟨[],[],[],[],[],[3,12],[],[]⟩ (.c h2 (.c h3 (.c h4 .n))) (by kernel_rfl) (ZlJ S0 w0 v3 (v3==(9:Int)) r hf)
def ZiO(a0:Int):Option (List Int):=bif(a0==(1:Int))then ZhN a0 (a0==(1:Int))else bif(a0==(12:Int))then ZhN a0 (a0==(12:Int))else ZhN a0 (a0==(13:Int))
theorem Zry(a0:Int)(r:List Int)(hf:ZiO a0=some r):Zdn Tryz.prog 134 [] [.one (.lit (.int .i64 a0))] [(99999,.rows 181 1 r.length (Zao (cI .i64) (0:Int) r))] (.one (.osl 99999 r.length)):=by
 refine Zdn.of Tryz.func134 rfl rfl rfl rfl fun S0 w0=>?_;unfold ZiO at hf;rcases Zah hf with⟨h1,hf⟩|⟨h1,hf⟩
 ·exact ZaJ Zak Zca.ends 11 [rz,rz,rz] [true] ⟨[],[],[],[],[],[3,4],[],[]⟩ (.c h1 .n) (by kernel_rfl) (Zji S0 w0 a0 (a0==(1:Int)) r hf)
 ·rcases Zah hf with⟨h2,hf⟩|⟨h2,hf⟩
  ·exact ZaJ Zak Zca.ends 14 [rz,rz,rz,rz] [false,true] ⟨[],[],[],[],[],[3,4],[],[]⟩ (.c h1 (.c h2 .n)) (by kernel_rfl) (Zji S0 w0 a0 (a0==(12:Int)) r hf)
  ·exact ZaJ Zak Zca.ends 14 [rz,rz,rz,rz,rz] [false,false] ⟨[],[],[],[],[],[3,4],[],[]⟩ (.c h1 (.c h2 .n)) (by kernel_rfl) (Zji S0 w0 a0 (a0==(13:Int)) r hf)
theorem ZsW(a0:Int)(r:List Int)(hf:ZiO a0=some r):Zaz Tryz.prog 134 [.one (.lit (.int .i64 a0))] (.one (cL 1 (cI .i64) (0:Int) r)):=(Zry a0 r hf).pure
def ZmK(a0:Int):Option Zaj:=some (Zaj.mk false (0:Int) (IntKind.wrap .u64 a0))
theorem Zrh(a0:Int)(r:Zaj)(hf:ZmK a0=some r):Zaz Tryz.prog 282 [.one (.lit (.int .u32 a0))] (.agg (Zaj.c r)):=by
 refine Zaz.of Tryz.func282 rfl rfl rfl rfl fun S0 w0=>?_;unfold ZmK at hf;obtain rfl:=oi hf;exact Zai Zak 4 [rz,rz] [] [] [] [] .n (by kernel_rfl) rfl
def Zqn(a0 a1:Int):Option Zaj:=bif(a0==(0:Int))then bif((Int.fdiv a1 (2 ^ (min (32:Int).toNat (IntKind.bits .u64))))==(65535:Int))then(ZmK (IntKind.wrap .u32 (IntKind.wrap .u64 (((BitVec.ofInt (IntKind.bits .u64) a1) &&& (BitVec.ofInt (IntKind.bits .u64) (4294967295:Int))).toNat:Int)))).bind fun x1=>some x1 else some (Zaj.mk true a0 a1)else some (Zaj.mk true a0 a1)
theorem ZwO(a0 a1:Int)(r:Zaj)(hf:Zqn a0 a1=some r):Zaz Tryz.prog 281 [.one (.lit (.int .u64 a0)),.one (.lit (.int .u64 a1))] (.agg (Zaj.c r)):=by
 refine Zaz.of Tryz.func281 rfl rfl rfl rfl fun S0 w0=>?_;unfold Zqn at hf;rcases Zah hf with⟨h1,hf⟩|⟨h1,hf⟩
 ·have O1:Obl _:=(.c h1 (.c (show 0≤(32:Int)from(by decide)) .n));rcases Zah hf with⟨h2,hf⟩|⟨h2,hf⟩
  ·obtain⟨x1,q3,hf⟩:=Zaf hf;obtain rfl:=oi hf;exact Zai Zak 8 [rz,rB [(2,true)],rA [(3,aG (Zaj.c x1))]] [true] [] [] [] (O1.app (.c h2 (.c (Zrh _ _ q3) .n))) (by kernel_rfl) rfl
  ·obtain rfl:=oi hf;exact Zai Zak 9 [rz,rB [(2,true)],rz] [false] [] [] [] (O1.app (.c h2 .n)) (by kernel_rfl) rfl
 ·obtain rfl:=oi hf;exact Zai Zak 9 [rz,rB [(2,false)],rz] [false] [] [] [] (.c h1 (.c (show false=false from rfl) .n)) (by kernel_rfl) rfl
def Zfq(a0:Zaj):Option Bool:=bif a0.fV6 then(Zqn a0.fHi a0.fLo).bind fun x1=>some (decide (x1=a0))else(ZmK (IntKind.wrap .u32 (IntKind.wrap .u64 (((BitVec.ofInt (IntKind.bits .u64) a0.fLo) &&& (BitVec.ofInt (IntKind.bits .u64) (4294967295:Int))).toNat:Int)))).bind fun x2=>some (decide (x2=a0))
theorem ZdJ(a0:Zaj)(r:Bool)(hf:Zfq a0=some r):Zaz Tryz.prog 215 [.agg (Zaj.c a0)] (.one (.lit (.bool r))):=by
 refine Zaz.of Tryz.func215 rfl rfl rfl rfl fun S0 w0=>?_;unfold Zfq at hf;rcases Zah hf with⟨h1,hf⟩|⟨h1,hf⟩
 ·obtain⟨x1,q2,hf⟩:=Zaf hf;obtain rfl:=oi hf;exact Zai Zak 8 [rz,rz,rA [(4,aG (Zaj.c x1)),(6,aB (decide (x1=a0)))]] [true] [] [] [] (.c h1 (.c (ZwO _ _ _ q2) (.c (ZjO x1 a0 (.tmp 9) (.tmp 10)) .n))) (by kernel_rfl) rfl
 ·obtain⟨x2,q3,hf⟩:=Zaf hf;obtain rfl:=oi hf;exact Zai Zak 9 [rz,rz,rA [(4,aG (Zaj.c x2)),(6,aB (decide (x2=a0)))]] [false] [] [] [] (.c h1 (.c (Zrh _ _ q3) (.c (ZjO x2 a0 (.tmp 16) (.tmp 17)) .n))) (by kernel_rfl) rfl
def ZjZ(a0:Zag):Option Bool:=(Zfq a0.fAddr).bind fun x1=>bif x1 then bif(decide (a0.fPort≥(1:Int)))then some (decide (a0.fPort≤(65535:Int)))else some false else some false
theorem ZsT(a0:Zag)(r:Bool)(hf:ZjZ a0=some r):Zaz Tryz.prog 213 [.agg (Zag.c a0)] (.one (.lit (.bool r))):=by
 refine Zaz.of Tryz.func213 rfl rfl rfl rfl fun S0 w0=>?_;unfold ZjZ at hf;obtain⟨x1,q1,hf⟩:=Zaf hf;rcases Zah hf with⟨h2,hf⟩|⟨h2,hf⟩
 ·rcases Zah hf with⟨h3,hf⟩|⟨h3,hf⟩
  ·obtain rfl:=oi hf;exact Zai Zak 4 [rz,⟨[(2,aB x1)],[(3,true),(8,true)],[],[],[],[],[]⟩] [] [] [] [] (.c (ZdJ _ _ q1) (.c h2 (.c h3 .n))) (by kernel_rfl) rfl
  ·obtain rfl:=oi hf;exact Zai Zak 4 [rz,⟨[(2,aB x1)],[(3,true),(8,false)],[],[],[],[],[]⟩] [] [] [] [] (.c (ZdJ _ _ q1) (.c h2 (.c h3 .n))) (by kernel_rfl) rfl
 ·obtain rfl:=oi hf;exact Zai Zak 4 [rz,⟨[(2,aB x1)],[(3,false)],[],[],[],[],[]⟩] [] [] [] [] (.c (ZdJ _ _ q1) (.c h2 .n)) (by kernel_rfl) rfl
def Zho(a0:Zaj):Option Int:=bif a0.fV6 then some (128:Int)else some (32:Int)
theorem Zmb(a0:Zaj)(r:Int)(hf:Zho a0=some r):Zaz Tryz.prog 293 [.agg (Zaj.c a0)] (.one (.lit (.int .i64 r))):=by
 refine Zaz.of Tryz.func293 rfl rfl rfl rfl fun S0 w0=>?_;unfold Zho at hf;rcases Zah hf with⟨h1,hf⟩|⟨h1,hf⟩
 ·obtain rfl:=oi hf;exact Zai Zak 8 [rz,rz,rz] [true] [] [] [] (.c h1 .n) (by kernel_rfl) rfl
 ·obtain rfl:=oi hf;exact Zai Zak 9 [rz,rz,rz] [false] [] [] [] (.c h1 .n) (by kernel_rfl) rfl
def ZfU(a0:Int):Option Int:=some (IntKind.wrap .u64 (((BitVec.ofInt (IntKind.bits .u64) (Int.fdiv (IntKind.wrap .u64 (((BitVec.ofInt (IntKind.bits .u64) (IntKind.wrap .u64 (((BitVec.ofInt (IntKind.bits .u64) (Int.fdiv (IntKind.wrap .u64 (((BitVec.ofInt (IntKind.bits .u64) (IntKind.wrap .u64 (((BitVec.ofInt (IntKind.bits .u64) (Int.fdiv a0 (2 ^ (min (8:Int).toNat (IntKind.bits .u64))))) &&& (BitVec.ofInt (IntKind.bits .u64) (71777214294589695:Int))).toNat:Int))) ||| (BitVec.ofInt (IntKind.bits .u64) (IntKind.wrap .u64 ((IntKind.wrap .u64 (((BitVec.ofInt (IntKind.bits .u64) a0) &&& (BitVec.ofInt (IntKind.bits .u64) (71777214294589695:Int))).toNat:Int)) * 2 ^ (min (8:Int).toNat (IntKind.bits .u64)))))).toNat:Int)) (2 ^ (min (16:Int).toNat (IntKind.bits .u64))))) &&& (BitVec.ofInt (IntKind.bits .u64) (281470681808895:Int))).toNat:Int))) ||| (BitVec.ofInt (IntKind.bits .u64) (IntKind.wrap .u64 ((IntKind.wrap .u64 (((BitVec.ofInt (IntKind.bits .u64) (IntKind.wrap .u64 (((BitVec.ofInt (IntKind.bits .u64) (IntKind.wrap .u64 (((BitVec.ofInt (IntKind.bits .u64) (Int.fdiv a0 (2 ^ (min (8:Int).toNat (IntKind.bits .u64))))) &&& (BitVec.ofInt (IntKind.bits .u64) (71777214294589695:Int))).toNat:Int))) ||| (BitVec.ofInt (IntKind.bits .u64) (IntKind.wrap .u64 ((IntKind.wrap .u64 (((BitVec.ofInt (IntKind.bits .u64) a0) &&& (BitVec.ofInt (IntKind.bits .u64) (71777214294589695:Int))).toNat:Int)) * 2 ^ (min (8:Int).toNat (IntKind.bits .u64)))))).toNat:Int))) &&& (BitVec.ofInt (IntKind.bits .u64) (281470681808895:Int))).toNat:Int)) * 2 ^ (min (16:Int).toNat (IntKind.bits .u64)))))).toNat:Int)) (2 ^ (min (32:Int).toNat (IntKind.bits .u64))))) ||| (BitVec.ofInt (IntKind.bits .u64) (IntKind.wrap .u64 ((IntKind.wrap .u64 (((BitVec.ofInt (IntKind.bits .u64) (IntKind.wrap .u64 (((BitVec.ofInt (IntKind.bits .u64) (Int.fdiv (IntKind.wrap .u64 (((BitVec.ofInt (IntKind.bits .u64) (IntKind.wrap .u64 (((BitVec.ofInt (IntKind.bits .u64) (Int.fdiv a0 (2 ^ (min (8:Int).toNat (IntKind.bits .u64))))) &&& (BitVec.ofInt (IntKind.bits .u64) (71777214294589695:Int))).toNat:Int))) ||| (BitVec.ofInt (IntKind.bits .u64) (IntKind.wrap .u64 ((IntKind.wrap .u64 (((BitVec.ofInt (IntKind.bits .u64) a0) &&& (BitVec.ofInt (IntKind.bits .u64) (71777214294589695:Int))).toNat:Int)) * 2 ^ (min (8:Int).toNat (IntKind.bits .u64)))))).toNat:Int)) (2 ^ (min (16:Int).toNat (IntKind.bits .u64))))) &&& (BitVec.ofInt (IntKind.bits .u64) (281470681808895:Int))).toNat:Int))) ||| (BitVec.ofInt (IntKind.bits .u64) (IntKind.wrap .u64 ((IntKind.wrap .u64 (((BitVec.ofInt (IntKind.bits .u64) (IntKind.wrap .u64 (((BitVec.ofInt (IntKind.bits .u64) (IntKind.wrap .u64 (((BitVec.ofInt (IntKind.bits .u64) (Int.fdiv a0 (2 ^ (min (8:Int).toNat (IntKind.bits .u64))))) &&& (BitVec.ofInt (IntKind.bits .u64) (71777214294589695:Int))).toNat:Int))) ||| (BitVec.ofInt (IntKind.bits .u64) (IntKind.wrap .u64 ((IntKind.wrap .u64 (((BitVec.ofInt (IntKind.bits .u64) a0) &&& (BitVec.ofInt (IntKind.bits .u64) (71777214294589695:Int))).toNat:Int)) * 2 ^ (min (8:Int).toNat (IntKind.bits .u64)))))).toNat:Int))) &&& (BitVec.ofInt (IntKind.bits .u64) (281470681808895:Int))).toNat:Int)) * 2 ^ (min (16:Int).toNat (IntKind.bits .u64)))))).toNat:Int)) * 2 ^ (min (32:Int).toNat (IntKind.bits .u64)))))).toNat:Int))
theorem Zkj(a0 r:Int)(hf:ZfU a0=some r):Zaz Tryz.prog 414 [.one (.lit (.int .u64 a0))] (.one (.lit (.int .u64 r))):=by
 refine Zaz.of Tryz.func414 rfl rfl rfl rfl fun S0 w0=>?_;unfold ZfU at hf;obtain rfl:=oi hf;exact Zai Zak 8 [rz,rz,rz,rz] [] [] [] [] (.c (show 0≤(8:Int)from(by decide)) (.c (show 0≤(8:Int)from(by decide)) (.c (show 0≤(16:Int)from(by decide)) (.c (show 0≤(16:Int)from(by decide)) (.c (show 0≤(32:Int)from(by decide)) (.c (show 0≤(32:Int)from(by decide)) .n)))))) (by kernel_rfl) rfl
def ZhG(a0:Int):Option Int:=(ZfU (IntKind.wrap .u64 (((BitVec.ofInt (IntKind.bits .u64) (IntKind.wrap .u64 (((BitVec.ofInt (IntKind.bits .u64) (Int.fdiv (IntKind.wrap .u64 (((BitVec.ofInt (IntKind.bits .u64) (IntKind.wrap .u64 (((BitVec.ofInt (IntKind.bits .u64) (Int.fdiv (IntKind.wrap .u64 (((BitVec.ofInt (IntKind.bits .u64) (IntKind.wrap .u64 (((BitVec.ofInt (IntKind.bits .u64) (Int.fdiv a0 (2 ^ (min (1:Int).toNat (IntKind.bits .u64))))) &&& (BitVec.ofInt (IntKind.bits .u64) (6148914691236517205:Int))).toNat:Int))) ||| (BitVec.ofInt (IntKind.bits .u64) (IntKind.wrap .u64 ((IntKind.wrap .u64 (((BitVec.ofInt (IntKind.bits .u64) a0) &&& (BitVec.ofInt (IntKind.bits .u64) (6148914691236517205:Int))).toNat:Int)) * 2 ^ (min (1:Int).toNat (IntKind.bits .u64)))))).toNat:Int)) (2 ^ (min (2:Int).toNat (IntKind.bits .u64))))) &&& (BitVec.ofInt (IntKind.bits .u64) (3689348814741910323:Int))).toNat:Int))) ||| (BitVec.ofInt (IntKind.bits .u64) (IntKind.wrap .u64 ((IntKind.wrap .u64 (((BitVec.ofInt (IntKind.bits .u64) (IntKind.wrap .u64 (((BitVec.ofInt (IntKind.bits .u64) (IntKind.wrap .u64 (((BitVec.ofInt (IntKind.bits .u64) (Int.fdiv a0 (2 ^ (min (1:Int).toNat (IntKind.bits .u64))))) &&& (BitVec.ofInt (IntKind.bits .u64) (6148914691236517205:Int))).toNat:Int))) ||| (BitVec.ofInt (IntKind.bits .u64) (IntKind.wrap .u64 ((IntKind.wrap .u64 (((BitVec.ofInt (IntKind.bits .u64) a0) &&& (BitVec.ofInt (IntKind.bits .u64) (6148914691236517205:Int))).toNat:Int)) * 2 ^ (min (1:Int).toNat (IntKind.bits .u64)))))).toNat:Int))) &&& (BitVec.ofInt (IntKind.bits .u64) (3689348814741910323:Int))).toNat:Int)) * 2 ^ (min (2:Int).toNat (IntKind.bits .u64)))))).toNat:Int)) (2 ^ (min (4:Int).toNat (IntKind.bits .u64))))) &&& (BitVec.ofInt (IntKind.bits .u64) (1085102592571150095:Int))).toNat:Int))) ||| (BitVec.ofInt (IntKind.bits .u64) (IntKind.wrap .u64 ((IntKind.wrap .u64 (((BitVec.ofInt (IntKind.bits .u64) (IntKind.wrap .u64 (((BitVec.ofInt (IntKind.bits .u64) (IntKind.wrap .u64 (((BitVec.ofInt (IntKind.bits .u64) (Int.fdiv (IntKind.wrap .u64 (((BitVec.ofInt (IntKind.bits .u64) (IntKind.wrap .u64 (((BitVec.ofInt (IntKind.bits .u64) (Int.fdiv a0 (2 ^ (min (1:Int).toNat (IntKind.bits .u64))))) &&& (BitVec.ofInt (IntKind.bits .u64) (6148914691236517205:Int))).toNat:Int))) ||| (BitVec.ofInt (IntKind.bits .u64) (IntKind.wrap .u64 ((IntKind.wrap .u64 (((BitVec.ofInt (IntKind.bits .u64) a0) &&& (BitVec.ofInt (IntKind.bits .u64) (6148914691236517205:Int))).toNat:Int)) * 2 ^ (min (1:Int).toNat (IntKind.bits .u64)))))).toNat:Int)) (2 ^ (min (2:Int).toNat (IntKind.bits .u64))))) &&& (BitVec.ofInt (IntKind.bits .u64) (3689348814741910323:Int))).toNat:Int))) ||| (BitVec.ofInt (IntKind.bits .u64) (IntKind.wrap .u64 ((IntKind.wrap .u64 (((BitVec.ofInt (IntKind.bits .u64) (IntKind.wrap .u64 (((BitVec.ofInt (IntKind.bits .u64) (IntKind.wrap .u64 (((BitVec.ofInt (IntKind.bits .u64) (Int.fdiv a0 (2 ^ (min (1:Int).toNat (IntKind.bits .u64))))) &&& (BitVec.ofInt (IntKind.bits .u64) (6148914691236517205:Int))).toNat:Int))) ||| (BitVec.ofInt (IntKind.bits .u64) (IntKind.wrap .u64 ((IntKind.wrap .u64 (((BitVec.ofInt (IntKind.bits .u64) a0) &&& (BitVec.ofInt (IntKind.bits .u64) (6148914691236517205:Int))).toNat:Int)) * 2 ^ (min (1:Int).toNat (IntKind.bits .u64)))))).toNat:Int))) &&& (BitVec.ofInt (IntKind.bits .u64) (3689348814741910323:Int))).toNat:Int)) * 2 ^ (min (2:Int).toNat (IntKind.bits .u64)))))).toNat:Int))) &&& (BitVec.ofInt (IntKind.bits .u64) (1085102592571150095:Int))).toNat:Int)) * 2 ^ (min (4:Int).toNat (IntKind.bits .u64)))))).toNat:Int))).bind fun x1=>some x1
theorem Zmw(a0 r:Int)(hf:ZhG a0=some r):Zaz Tryz.prog 400 [.one (.lit (.int .u64 a0))] (.one (.lit (.int .u64 r))):=by
 refine Zaz.of Tryz.func400 rfl rfl rfl rfl fun S0 w0=>?_;unfold ZhG at hf;obtain⟨x1,q1,hf⟩:=Zaf hf;obtain rfl:=oi hf;exact Zai Zak 10 [rz,rz,rz,rz,rA [(1,.r (.one (.lit (.int .u64 x1))) [])]] [] [] [] [] (.c (show 0≤(1:Int)from(by decide)) (.c (show 0≤(1:Int)from(by decide)) (.c (show 0≤(2:Int)from(by decide)) (.c (show 0≤(2:Int)from(by decide)) (.c (show 0≤(4:Int)from(by decide)) (.c (show 0≤(4:Int)from(by decide)) (.c (Zkj _ _ q1) .n))))))) (by kernel_rfl) rfl
def ZfX(a0:Int):Option Int:=need (0≤(if(64:Int)<(if(0:Int)>a0 then(0:Int)else a0)then(64:Int)else(if(0:Int)>a0 then(0:Int)else a0)))<|(ZhG (IntKind.wrap .u64 ((IntKind.wrap .u64 ((1:Int) * 2 ^ (min (if(64:Int)<(if(0:Int)>a0 then(0:Int)else a0)then(64:Int)else(if(0:Int)>a0 then(0:Int)else a0)).toNat (IntKind.bits .u64))))-(1:Int)))).bind fun x1=>some x1
theorem Znv(a0 r:Int)(hf:ZfX a0=some r):Zaz Tryz.prog 378 [.one (.lit (.int .i64 a0))] (.one (.lit (.int .u64 r))):=by
 refine Zaz.of Tryz.func378 rfl rfl rfl rfl fun S0 w0=>?_;unfold ZfX at hf;obtain⟨o1,hf⟩:=Zar hf;obtain⟨x1,q2,hf⟩:=Zaf hf;obtain rfl:=oi hf;exact Zai Zak 6 [rz,rz,rA [(3,.r (.one (.lit (.int .u64 x1))) [])]] [] [] [] [] (.c o1 (.c (Zmw _ _ q2) .n)) (by kernel_rfl) rfl
def Zkx(a0 a1 a2:Int):Option (Int×Int):=(ZfX a2).bind fun x1=>(ZfX (Zli a2 (64:Int))).bind fun x2=>some ((IntKind.wrap .u64 (((BitVec.ofInt (IntKind.bits .u64) a0) &&& (BitVec.ofInt (IntKind.bits .u64) x1)).toNat:Int)),(IntKind.wrap .u64 (((BitVec.ofInt (IntKind.bits .u64) a1) &&& (BitVec.ofInt (IntKind.bits .u64) x2)).toNat:Int)))
theorem Zrx(a0 a1 a2:Int)(r:(Int×Int))(hf:Zkx a0 a1 a2=some r):Zaz Tryz.prog 379 [.one (.lit (.int .u64 a0)),.one (.lit (.int .u64 a1)),.one (.lit (.int .i64 a2))] (.tup [(false,(cI .u64) r.1),(false,(cI .u64) r.2)]):=by
 refine Zaz.of Tryz.func379 rfl rfl rfl rfl fun S0 w0=>?_;unfold Zkx at hf;obtain⟨x1,q1,hf⟩:=Zaf hf;obtain⟨x2,q2,hf⟩:=Zaf hf;obtain rfl:=oi hf;exact Zai Zak 4 [rz,rA [(2,.r (.one (.lit (.int .u64 x1))) []),(7,.r (.one (.lit (.int .u64 x2))) [])]] [] [] [] [] (.c (Znv _ _ q1) (.c (Znv _ _ q2) .n)) (by kernel_rfl) rfl
def ZiG(a0:Zaj)(a1:Int):Option Zaj:=(Zfq a0).bind fun x1=>bif(!x1)then some (Zaj.mk false (0:Int) (0:Int))else(Zho a0).bind fun x2=>bif(!a0.fV6)then(ZfX (if x2<(if(0:Int)>a1 then(0:Int)else a1)then x2 else(if(0:Int)>a1 then(0:Int)else a1))).bind fun x3=>some (Zaj.mk a0.fV6 a0.fHi (IntKind.wrap .u64 (((BitVec.ofInt (IntKind.bits .u64) a0.fLo) &&& (BitVec.ofInt (IntKind.bits .u64) (Int.fdiv x3 (2 ^ (min (32:Int).toNat (IntKind.bits .u64)))))).toNat:Int)))else(Zkx a0.fHi a0.fLo (if x2<(if(0:Int)>a1 then(0:Int)else a1)then x2 else(if(0:Int)>a1 then(0:Int)else a1))).bind fun x4=>some (Zaj.mk a0.fV6 x4.1 x4.2)
theorem Zpk(a0:Zaj)(a1:Int)(r:Zaj)(hf:ZiG a0 a1=some r):Zaz Tryz.prog 341 [.agg (Zaj.c a0),.one (.lit (.int .i64 a1))] (.agg (Zaj.c r)):=by
 refine Zaz.of Tryz.func341 rfl rfl rfl rfl fun S0 w0=>?_;unfold ZiG at hf;obtain⟨x1,q1,hf⟩:=Zaf hf;rcases Zah hf with⟨h2,hf⟩|⟨h2,hf⟩
 ·obtain rfl:=oi hf;exact Zai Zak 8 [rz,rA [(1,aB x1)],rz] [true] [] [] [] (.c (ZdJ _ _ q1) (.c h2 .n)) (by kernel_rfl) rfl
 ·obtain⟨x2,q3,hf⟩:=Zaf hf;have O1:Obl _:=(.c (ZdJ _ _ q1) (.c h2 (.c (Zmb _ _ q3) .n)));rcases Zah hf with⟨h4,hf⟩|⟨h4,hf⟩
  ·obtain⟨x3,q5,hf⟩:=Zaf hf;obtain rfl:=oi hf;exact Zai Zak 17 [rz,rA [(1,aB x1)],rA [(3,aI x2)],rz,rA [(3,.r (.one (.lit (.int .u64 x3))) [])],rz] [false,true] [] [] [] (O1.app (.c h4 (.c (Znv _ _ q5) (.c (show 0≤(32:Int)from(by decide)) .n)))) (by kernel_rfl) rfl
  ·obtain⟨x4,q6,hf⟩:=Zaf hf;obtain rfl:=oi hf;exact Zai Zak 18 [rz,rA [(1,aB x1)],rA [(3,aI x2)],rz,rA [(5,.r (.tup [(false,(cI .u64) x4.1),(false,(cI .u64) x4.2)]) [])],rz] [false,false] [] [] [] (O1.app (.c h4 (.c (Zrx _ _ _ _ q6) .n))) (by kernel_rfl) rfl
def ZjD(a0:Zaj)(a1:Int):Option (Zas×Bool):=(Zfq a0).bind fun x1=>bif(!x1)then some ((Zas.mk (Zaj.mk false (0:Int) (0:Int)) (0:Int)),false)else bif(decide (a1<(0:Int)))then some ((Zas.mk (Zaj.mk false (0:Int) (0:Int)) (0:Int)),false)else(Zho a0).bind fun x2=>bif(decide (a1>x2))then some ((Zas.mk (Zaj.mk false (0:Int) (0:Int)) (0:Int)),false)else(ZiG a0 a1).bind fun x3=>some ((Zas.mk x3 a1),true)
theorem ZlZ(a0:Zaj)(a1:Int)(r:(Zas×Bool))(hf:ZjD a0 a1=some r):Zaz Tryz.prog 280 [.agg (Zaj.c a0),.one (.lit (.int .i64 a1))] (.tup [(true,Zas.c r.1),(false,cB r.2)]):=by
 refine Zaz.of Tryz.func280 rfl rfl rfl rfl fun S0 w0=>?_;unfold ZjD at hf;obtain⟨x1,q1,hf⟩:=Zaf hf;rcases Zah hf with⟨h2,hf⟩|⟨h2,hf⟩
 ·obtain rfl:=oi hf;exact Zai Zak 8 [rz,⟨[(1,aB x1)],[(3,true)],[],[],[],[],[]⟩,rz] [true] [] [] [] (.c (ZdJ _ _ q1) (.c h2 (.c (show true=true from rfl) .n))) (by kernel_rfl) rfl
 ·rcases Zah hf with⟨h3,hf⟩|⟨h3,hf⟩
  ·obtain rfl:=oi hf;exact Zai Zak 8 [rz,⟨[(1,aB x1)],[(3,false),(7,true)],[],[],[],[],[]⟩,rz] [true] [] [] [] (.c (ZdJ _ _ q1) (.c h2 (.c h3 (.c (show true=true from rfl) .n)))) (by kernel_rfl) rfl
  ·obtain⟨x2,q4,hf⟩:=Zaf hf
   let R1:List RA:=[rz,⟨[(1,aB x1),(10,aI x2)],[(3,false),(7,false)],[],[],[],[],[]⟩]
   have O2:Obl _:=(.c (ZdJ _ _ q1) (.c h2 (.c h3 (.c (Zmb _ _ q4) .n))));rcases Zah hf with⟨h5,hf⟩|⟨h5,hf⟩
   ·obtain rfl:=oi hf;exact Zai Zak 8 (R1++[rz]) [true] [] [] [] (O2.app (.c h5 .n)) (by kernel_rfl) rfl
   ·obtain⟨x3,q6,hf⟩:=Zaf hf;obtain rfl:=oi hf;exact Zai Zak 9 (R1++[rA [(2,aG (Zaj.c x3))]]) [false] [] [] [] (O2.app (.c h5 (.c (Zpk _ _ _ q6) .n))) (by kernel_rfl) rfl
def ZhM(a0:Zas):Option Bool:=(ZjD a0.fAddr a0.fBits).bind fun x1=>bif x1.2 then some (decide (x1.1=a0))else some false
theorem ZgZ(a0:Zas)(r:Bool)(hf:ZhM a0=some r):Zaz Tryz.prog 214 [.agg (Zas.c a0)] (.one (.lit (.bool r))):=by
 refine Zaz.of Tryz.func214 rfl rfl rfl rfl fun S0 w0=>?_;unfold ZhM at hf;obtain⟨x1,q1,hf⟩:=Zaf hf
 let R1:List RA:=[rz,rA [(4,.r (.tup [(true,Zas.c x1.1),(false,cB x1.2)]) [])]]
 rcases Zah hf with⟨h2,hf⟩|⟨h2,hf⟩
 ·obtain rfl:=oi hf;exact Zai Zak 6 (R1++[⟨[(4,aB (decide (x1.1=a0)))],[(1,true)],[],[],[],[],[]⟩]) [] [] [] [] (.c (ZlZ _ _ _ q1) (.c h2 (.c (ZkA x1.1 a0 (.tmp 15) (.tmp 16)) .n))) (by kernel_rfl) rfl
 ·obtain rfl:=oi hf;exact Zai Zak 6 (R1++[rB [(1,false)]]) [] [] [] [] (.c (ZlZ _ _ _ q1) (.c h2 .n)) (by kernel_rfl) rfl
def ZjF(a0:Int):Option (Int×Int):=bif(a0==(4:Int))then some ((0:Int),(1073741824:Int))else bif(a0==(5:Int))then some ((1:Int),(5:Int))else bif(a0==(6:Int))then some ((1:Int),(1099511627776:Int))else some ((1:Int),(1048576:Int))
theorem ZtP(a0:Int)(r:(Int×Int))(hf:ZjF a0=some r):Zaz Tryz.prog 216 [.one (.lit (.int .i64 a0))] (.tup [(false,(cI .i64) r.1),(false,(cI .i64) r.2)]):=by
 refine Zaz.of Tryz.func216 rfl rfl rfl rfl fun S0 w0=>?_;unfold ZjF at hf;rcases Zah hf with⟨h1,hf⟩|⟨h1,hf⟩
 ·obtain rfl:=oi hf;exact Zai Zak 11 [rz,rz,rz,rz] [true] [] [] [] (.c h1 .n) (by kernel_rfl) rfl
 ·rcases Zah hf with⟨h2,hf⟩|⟨h2,hf⟩
  ·obtain rfl:=oi hf;exact Zai Zak 14 [rz,rz,rz,rz,rz] [false,true] [] [] [] (.c h1 (.c h2 .n)) (by kernel_rfl) rfl
  ·rcases Zah hf with⟨h3,hf⟩|⟨h3,hf⟩
   ·obtain rfl:=oi hf;exact Zai Zak 17 [rz,rz,rz,rz,rz,rz] [false,false,true] [] [] [] (.c h1 (.c h2 (.c h3 .n))) (by kernel_rfl) rfl
   ·obtain rfl:=oi hf;exact Zai Zak 19 [rz,rz,rz,rz,rz,rz] [false,false,false] [] [] [] (.c h1 (.c h2 (.c h3 .n))) (by kernel_rfl) rfl
def Zkd(a0:ZaA)(a1:Int):Option Bool:=bif(a1==(0:Int))then(ZjZ a0.fEnd).bind fun x1=>some x1 else bif(a1==(1:Int))then(ZhM a0.fNet).bind fun x2=>some x2 else bif(a1==(2:Int))then(Zfq a0.fEnd.fAddr).bind fun x3=>some x3 else bif(a1==(3:Int))then bif(decide (a0.fNow≥(0:Int)))then some (decide (a0.fNow≤(1099511627776:Int)))else some false else bif(a1==(4:Int))then(ZjF a0.fKind).bind fun x4=>bif(decide (a0.fNum≥x4.1))then some (decide (a0.fNum≤x4.2))else some false else some true
theorem ZsV(a0:ZaA)(a1:Int)(r:Bool)(hf:Zkd a0 a1=some r):Zaz Tryz.prog 135 [.agg (ZaA.c a0),.one (.lit (.int .i64 a1))] (.one (.lit (.bool r))):=by
 refine Zaz.of Tryz.func135 rfl rfl rfl rfl fun S0 w0=>?_;unfold Zkd at hf;rcases Zah hf with⟨h1,hf⟩|⟨h1,hf⟩
 ·obtain⟨x1,q2,hf⟩:=Zaf hf;obtain rfl:=oi hf;exact Zai Zak 11 [rz,rz,rz,rA [(2,aB x1)]] [true] [] [] [] (.c h1 (.c (ZsT _ _ q2) .n)) (by kernel_rfl) rfl
 ·rcases Zah hf with⟨h3,hf⟩|⟨h3,hf⟩
  ·obtain⟨x2,q4,hf⟩:=Zaf hf;obtain rfl:=oi hf;exact Zai Zak 14 [rz,rz,rz,rz,rA [(2,aB x2)]] [false,true] [] [] [] (.c h1 (.c h3 (.c (ZgZ _ _ q4) .n))) (by kernel_rfl) rfl
  ·rcases Zah hf with⟨h5,hf⟩|⟨h5,hf⟩
   ·obtain⟨x3,q6,hf⟩:=Zaf hf;obtain rfl:=oi hf;exact Zai Zak 17 [rz,rz,rz,rz,rz,rA [(3,aB x3)]] [false,false,true] [] [] [] (.c h1 (.c h3 (.c h5 (.c (ZdJ _ _ q6) .n)))) (by kernel_rfl) rfl
   ·rcases Zah hf with⟨h7,hf⟩|⟨h7,hf⟩
    ·rcases Zah hf with⟨h8,hf⟩|⟨h8,hf⟩
     ·obtain rfl:=oi hf;exact Zai Zak 20 [rz,rz,rz,rz,rz,rz,rB [(3,true)]] [false,false,false,true] [] [] [] (.c h1 (.c h3 (.c h5 (.c h7 (.c h8 .n))))) (by kernel_rfl) rfl
     ·obtain rfl:=oi hf;exact Zai Zak 20 [rz,rz,rz,rz,rz,rz,rB [(3,false)]] [false,false,false,true] [] [] [] (.c h1 (.c h3 (.c h5 (.c h7 (.c h8 .n))))) (by kernel_rfl) rfl
    ·rcases Zah hf with⟨h9,hf⟩|⟨h9,hf⟩
     ·obtain⟨x4,q10,hf⟩:=Zaf hf
      let R1:List RA:=[rz,rz,rz,rz,rz,rz,rz,rA [(2,.r (.tup [(false,(cI .i64) x4.1),(false,(cI .i64) x4.2)]) [])]]
      have O2:Obl _:=(.c h1 (.c h3 (.c h5 (.c h7 (.c h9 (.c (ZtP _ _ q10) .n))))));rcases Zah hf with⟨h11,hf⟩|⟨h11,hf⟩
      ·obtain rfl:=oi hf;exact Zai Zak 25 (R1++[rB [(4,true)]]) [false,false,false,false,true] [] [] [] (O2.app (.c h11 .n)) (by kernel_rfl) rfl
      ·obtain rfl:=oi hf;exact Zai Zak 25 (R1++[rB [(4,false)]]) [false,false,false,false,true] [] [] [] (O2.app (.c h11 .n)) (by kernel_rfl) rfl
     ·obtain rfl:=oi hf;exact Zai Zak 25 [rz,rz,rz,rz,rz,rz,rz,rz] [false,false,false,false,false] [] [] [] (.c h1 (.c h3 (.c h5 (.c h7 (.c h9 .n))))) (by kernel_rfl) rfl
def Zee:Nat→(List Int)→Int→Int→ZaA→Option Bool|0,_,_,_,_=>none|fu+1,v11,v12,v13,b1=>bif(decide (v13<v12))then need (0≤v13∧v13<((v11.length:Nat):Int))<|(Zkd b1 (v11.getD v13.toNat (0:Int))).bind fun x3=>bif(!x3)then some false else Zee fu v11 v12 (Zaw v13 (1:Int)) b1 else some true
theorem Zqm(S0:Nat→Prop)(w0:ZaW):∀(fu:Nat)(v11:List Int)(v12 v13:Int)(b1:ZaA)(r:Bool),Zee fu v11 v12 v13 b1=some r→Good Tryz.prog 22 S0 w0 (bodyPost Tryz.prog Tryz.f66 (Post S0 w0 (.one (.lit (.bool r))))) (at_ [1,1,0,1,0] (Zbl Tryz.f66)) ⟨[(1,.one (.ptr 1 0)),(11,.one (cL 1 (cI .i64) (0:Int) v11)),(12,.one (.lit (.int .i64 v12))),(13,.one (.lit (.int .i64 v13)))],[(1,.box [.lit (.int .i64 b1.fKind),.lit (.bool b1.fEnd.fAddr.fV6),.lit (.int .u64 b1.fEnd.fAddr.fHi),.lit (.int .u64 b1.fEnd.fAddr.fLo),.lit (.int .i64 b1.fEnd.fPort),.lit (.bool b1.fNet.fAddr.fV6),.lit (.int .u64 b1.fNet.fAddr.fHi),.lit (.int .u64 b1.fNet.fAddr.fLo),.lit (.int .i64 b1.fNet.fBits),.lit (.int .i64 b1.fNow),.lit (.int .i64 b1.fNum),.lit (.bool b1.fGood)])]⟩:=by
 intro fu;induction fu with
 |zero=>
  intro v11 v12 v13 b1 r hf;simp[Zee]at hf
 |succ fu ih=>
  intro v11 v12 v13 b1 r hf;unfold Zee at hf;rcases Zah hf with⟨h4,hf⟩|⟨h4,hf⟩
  ·obtain⟨o5,hf⟩:=Zar hf;obtain⟨x3,q6,hf⟩:=Zaf hf;have O1:Obl _:=(.c h4 (.c o5 (.c (ZsV _ _ _ q6) .n)));rcases Zah hf with⟨h7,hf⟩|⟨h7,hf⟩
   ·obtain rfl:=oi hf;exact Zai Zak 15 [rz,rz,rA [(2,aB x3)],rz] [true,true] [] [] [] (O1.app (.c h7 .n)) (by kernel_rfl) rfl
   ·exact ZaJ Zak Post.ends 17 [rz,rz,rA [(2,aB x3)],rz] [true,false] ⟨[],[],[],[],[],[1,11,12,13],[1],[]⟩ (O1.app (.c h7 .n)) (by kernel_rfl) (ih v11 v12 (Zaw v13 (1:Int)) b1 r hf)
  ·obtain rfl:=oi hf;exact Zai Zak 8 [rz,rz] [false] [] [] [] (.c h4 .n) (by kernel_rfl) rfl
def Zke(a0:ZaA):Option Bool:=(ZkY a0.fKind).bind fun x1=>bif(x1.toList==(⟨#[]⟩ : ByteArray).toList)then some false else(ZiO a0.fKind).bind fun x2=>Zee ((((x2.length:Nat):Int)-(0:Int)).toNat+2) x2 ((x2.length:Nat):Int) (0:Int) a0
theorem ZkZ(a0:ZaA)(r:Bool)(hf:Zke a0=some r):Zaz Tryz.prog 66 [.agg (ZaA.c a0)] (.one (.lit (.bool r))):=by
 refine Zaz.of Tryz.func66 rfl rfl rfl rfl fun S0 w0=>?_;unfold Zke at hf;obtain⟨x1,q1,hf⟩:=Zaf hf
 let R2:List RA:=[rz,rA [(2,.r (.one (.lit (.string x1))) [])]]
 rcases Zah hf with⟨h2,hf⟩|⟨h2,hf⟩
 ·obtain rfl:=oi hf;exact Zai Zak 8 (R2++[rz]) [true] [] [] [] (.c (Zpj _ _ q1) (.c h2 .n)) (by kernel_rfl) rfl
 ·obtain⟨x2,q3,hf⟩:=Zaf hf;exact ZaJ Zak Post.ends 11 (R2++[rA [(2,.r (.one (cL 1 (cI .i64) (0:Int) x2)) [])]]) [false] ⟨[],[],[],[],[],[1,11,12,13],[1],[]⟩ (.c (Zpj _ _ q1) (.c h2 (.c (ZsW _ _ q3) .n))) (by kernel_rfl) (Zqm S0 w0 ((((x2.length:Nat):Int)-(0:Int)).toNat+2) x2 ((x2.length:Nat):Int) (0:Int) a0 r hf)
def Zhh(v4:Int)(v5:Bool)(b1 b2:Zav):Option Zav:=bif v5 then some (Zav.mk b1.fKind (0:Int) (0:Int))else bif(v4==(5:Int))then some (Zav.mk b1.fKind b1.fShard (0:Int))else bif(v4==(6:Int))then some b1 else some (Zav.mk (0:Int) (0:Int) (0:Int))
theorem Ziz(S0:Nat→Prop)(w0:ZaW)(v4:Int)(v5:Bool)(b1 b2 r:Zav)(hf:Zhh v4 v5 b1 b2=some r):Good Tryz.prog 24 S0 w0 (bodyPost Tryz.prog Tryz.f471 (Post S0 w0 (.agg (Zav.c r)))) (at_ [1,0,1,0,1] (Zbl Tryz.f471)) ⟨[(1,.one (.ptr 1 0)),(2,.one (.ptr 2 0)),(4,.one (.lit (.int .i64 v4))),(5,.one (.lit (.bool v5)))],[(1,.box [.lit (.int .i64 b1.fKind),.lit (.int .i64 b1.fShard),.lit (.int .i64 b1.fSlot)]),(2,.box [.lit (.int .i64 b2.fKind),.lit (.int .i64 b2.fShard),.lit (.int .i64 b2.fSlot)])]⟩:=by
 unfold Zhh at hf;rcases Zah hf with⟨h2,hf⟩|⟨h2,hf⟩
 ·obtain rfl:=oi hf;exact Zai Zak 3 [rz] [true] [] [] [] (.c h2 .n) (by kernel_rfl) rfl
 ·rcases Zah hf with⟨h3,hf⟩|⟨h3,hf⟩
  ·obtain rfl:=oi hf;exact Zai Zak 6 [rz,rz] [false,true] [] [] [] (.c h2 (.c h3 .n)) (by kernel_rfl) rfl
  ·rcases Zah hf with⟨h4,hf⟩|⟨h4,hf⟩
   ·obtain rfl:=oi hf;exact Zai Zak 9 [rz,rz,rz] [false,false,true] [] [] [] (.c h2 (.c h3 (.c h4 .n))) (by kernel_rfl) rfl
   ·obtain rfl:=oi hf;exact Zai Zak 11 [rz,rz,rz] [false,false,false] [] [] [] (.c h2 (.c h3 (.c h4 .n))) (by kernel_rfl) rfl
def ZjB(a0:Zav):Option Zav:=bif(a0.fKind==(1:Int))then Zhh a0.fKind (a0.fKind==(1:Int)) a0 (Zav.mk (0:Int) (0:Int) (0:Int))else bif(a0.fKind==(2:Int))then Zhh a0.fKind (a0.fKind==(2:Int)) a0 (Zav.mk (0:Int) (0:Int) (0:Int))else bif(a0.fKind==(3:Int))then Zhh a0.fKind (a0.fKind==(3:Int)) a0 (Zav.mk (0:Int) (0:Int) (0:Int))else Zhh a0.fKind (a0.fKind==(4:Int)) a0 (Zav.mk (0:Int) (0:Int) (0:Int))
theorem Zna(a0 r:Zav)(hf:ZjB a0=some r):Zaz Tryz.prog 471 [.agg (Zav.c a0)] (.agg (Zav.c r)):=by
 refine Zaz.of Tryz.func471 rfl rfl rfl rfl fun S0 w0=>?_;unfold ZjB at hf;rcases Zah hf with⟨h1,hf⟩|⟨h1,hf⟩
 ·exact ZaJ Zak Post.ends 11 [rz,rz,rz] [true] ⟨[],[],[],[],[],[1,2,4,5],[1,2],[]⟩ (.c h1 .n) (by kernel_rfl) (Ziz S0 w0 a0.fKind (a0.fKind==(1:Int)) a0 (Zav.mk (0:Int) (0:Int) (0:Int)) r hf)
 ·rcases Zah hf with⟨h2,hf⟩|⟨h2,hf⟩
  ·exact ZaJ Zak Post.ends 14 [rz,rz,rz,rz] [false,true] ⟨[],[],[],[],[],[1,2,4,5],[1,2],[]⟩ (.c h1 (.c h2 .n)) (by kernel_rfl) (Ziz S0 w0 a0.fKind (a0.fKind==(2:Int)) a0 (Zav.mk (0:Int) (0:Int) (0:Int)) r hf)
  ·rcases Zah hf with⟨h3,hf⟩|⟨h3,hf⟩
   ·exact ZaJ Zak Post.ends 17 [rz,rz,rz,rz,rz] [false,false,true] ⟨[],[],[],[],[],[1,2,4,5],[1,2],[]⟩ (.c h1 (.c h2 (.c h3 .n))) (by kernel_rfl) (Ziz S0 w0 a0.fKind (a0.fKind==(3:Int)) a0 (Zav.mk (0:Int) (0:Int) (0:Int)) r hf)
   ·exact ZaJ Zak Post.ends 17 [rz,rz,rz,rz,rz,rz] [false,false,false] ⟨[],[],[],[],[],[1,2,4,5],[1,2],[]⟩ (.c h1 (.c h2 (.c h3 .n))) (by kernel_rfl) (Ziz S0 w0 a0.fKind (a0.fKind==(4:Int)) a0 (Zav.mk (0:Int) (0:Int) (0:Int)) r hf)
def ZhT(v5:Int)(v6:Bool)(b3 b4:Zae):Option Zae:=bif v6 then some (Zae.mk b3.fN (Zaa.mk (Zag.mk (Zaj.mk false (0:Int) (0:Int)) (0:Int)) false (0:Int) (Zam.mk (0:Int) (0:Int)) (0:Int) (0:Int)) ([]:(List Zab)) ([]:(List Zac)))else bif(v5==(3:Int))then some (Zae.mk (0:Int) (Zaa.mk (Zag.mk (Zaj.mk false (0:Int) (0:Int)) (0:Int)) false (0:Int) (Zam.mk (0:Int) (0:Int)) (0:Int) (0:Int)) b3.fBans ([]:(List Zac)))else bif(v5==(4:Int))then some (Zae.mk (0:Int) (Zaa.mk (Zag.mk (Zaj.mk false (0:Int) (0:Int)) (0:Int)) false (0:Int) (Zam.mk (0:Int) (0:Int)) (0:Int) (0:Int)) ([]:(List Zab)) b3.fBook)else bif(v5==(6:Int))then some (Zae.mk (0:Int) b3.fPeer ([]:(List Zab)) ([]:(List Zac)))else some (Zae.mk (0:Int) (Zaa.mk (Zag.mk (Zaj.mk false (0:Int) (0:Int)) (0:Int)) false (0:Int) (Zam.mk (0:Int) (0:Int)) (0:Int) (0:Int)) ([]:(List Zab)) ([]:(List Zac)))
theorem Zki(S0:Nat→Prop)(w0:ZaW)(v5:Int)(v6:Bool)(b3 b4 r:Zae)(hf:ZhT v5 v6 b3 b4=some r):Good Tryz.prog 29 S0 w0 (bodyPost Tryz.prog Tryz.f472 (Post S0 w0 (.agg (Zae.c r)))) (at_ [1,0,1,0,1] (Zbl Tryz.f472)) ⟨[(3,.one (.ptr 3 0)),(4,.one (.ptr 4 0)),(5,.one (.lit (.int .i64 v5))),(6,.one (.lit (.bool v6)))],[(3,.box [.lit (.int .i64 b3.fN),.lit (.bool b3.fPeer.fEnd.fAddr.fV6),.lit (.int .u64 b3.fPeer.fEnd.fAddr.fHi),.lit (.int .u64 b3.fPeer.fEnd.fAddr.fLo),.lit (.int .i64 b3.fPeer.fEnd.fPort),.lit (.bool b3.fPeer.fIn),.lit (.int .i64 b3.fPeer.fSince),.lit (.int .i64 b3.fPeer.fScore.fPoints),.lit (.int .i64 b3.fPeer.fScore.fAt),.lit (.int .i64 b3.fPeer.fPing),.lit (.int .i64 b3.fPeer.fWork),cL 5 Zab.c Zab.d b3.fBans,cL 7 Zac.c Zac.d b3.fBook]),(4,.box [.lit (.int .i64 b4.fN),.lit (.bool b4.fPeer.fEnd.fAddr.fV6),.lit (.int .u64 b4.fPeer.fEnd.fAddr.fHi),.lit (.int .u64 b4.fPeer.fEnd.fAddr.fLo),.lit (.int .i64 b4.fPeer.fEnd.fPort),.lit (.bool b4.fPeer.fIn),.lit (.int .i64 b4.fPeer.fSince),.lit (.int .i64 b4.fPeer.fScore.fPoints),.lit (.int .i64 b4.fPeer.fScore.fAt),.lit (.int .i64 b4.fPeer.fPing),.lit (.int .i64 b4.fPeer.fWork),cL 5 Zab.c Zab.d b4.fBans,cL 7 Zac.c Zac.d b4.fBook])]⟩:=by
 unfold ZhT at hf;rcases Zah hf with⟨h2,hf⟩|⟨h2,hf⟩
 ·obtain rfl:=oi hf;exact Zai Zak 3 [rz] [true] [] [(4,[(11,cL 5 Zab.c Zab.d []),(12,cL 7 Zac.c Zac.d [])])] [] (.c h2 .n) (by kernel_rfl) rfl
 ·rcases Zah hf with⟨h3,hf⟩|⟨h3,hf⟩
  ·obtain rfl:=oi hf;exact Zai Zak 6 [rz,rz] [false,true] [] [(4,[(12,cL 7 Zac.c Zac.d [])])] [] (.c h2 (.c h3 .n)) (by kernel_rfl) rfl
  ·rcases Zah hf with⟨h4,hf⟩|⟨h4,hf⟩
   ·obtain rfl:=oi hf;exact Zai Zak 9 [rz,rz,rz] [false,false,true] [] [(4,[(11,cL 5 Zab.c Zab.d [])])] [] (.c h2 (.c h3 (.c h4 .n))) (by kernel_rfl) rfl
   ·rcases Zah hf with⟨h5,hf⟩|⟨h5,hf⟩
    ·obtain rfl:=oi hf;exact Zai Zak 12 [rz,rz,rz,rz] [false,false,false,true] [] [(4,[(11,cL 5 Zab.c Zab.d []),(12,cL 7 Zac.c Zac.d [])])] [] (.c h2 (.c h3 (.c h4 (.c h5 .n)))) (by kernel_rfl) rfl
    ·obtain rfl:=oi hf;exact Zai Zak 14 [rz,rz,rz,rz] [false,false,false,false] [] [(4,[(11,cL 5 Zab.c Zab.d []),(12,cL 7 Zac.c Zac.d [])])] [] (.c h2 (.c h3 (.c h4 (.c h5 .n)))) (by kernel_rfl) rfl
def Zmu(a0:Int)(a1:Zae):Option Zae:=bif(a0==(1:Int))then ZhT a0 (a0==(1:Int)) a1 (Zae.mk (0:Int) (Zaa.mk (Zag.mk (Zaj.mk false (0:Int) (0:Int)) (0:Int)) false (0:Int) (Zam.mk (0:Int) (0:Int)) (0:Int) (0:Int)) ([]:(List Zab)) ([]:(List Zac)))else bif(a0==(2:Int))then ZhT a0 (a0==(2:Int)) a1 (Zae.mk (0:Int) (Zaa.mk (Zag.mk (Zaj.mk false (0:Int) (0:Int)) (0:Int)) false (0:Int) (Zam.mk (0:Int) (0:Int)) (0:Int) (0:Int)) ([]:(List Zab)) ([]:(List Zac)))else ZhT a0 (a0==(5:Int)) a1 (Zae.mk (0:Int) (Zaa.mk (Zag.mk (Zaj.mk false (0:Int) (0:Int)) (0:Int)) false (0:Int) (Zam.mk (0:Int) (0:Int)) (0:Int) (0:Int)) ([]:(List Zab)) ([]:(List Zac)))
theorem Zvo(a0:Int)(a1 r:Zae)(hf:Zmu a0 a1=some r):Zaz Tryz.prog 472 [.one (.lit (.int .i64 a0)),.agg (Zae.c a1)] (.agg (Zae.c r)):=by
 refine Zaz.of Tryz.func472 rfl rfl rfl rfl fun S0 w0=>?_;unfold Zmu at hf;rcases Zah hf with⟨h1,hf⟩|⟨h1,hf⟩
 ·exact ZaJ Zak Post.ends 11 [rz,rz,rz] [true] ⟨[],[(4,[(11,cL 5 Zab.c Zab.d []),(12,cL 7 Zac.c Zac.d [])])],[],[],[],[3,4,5,6],[3,4],[]⟩ (.c h1 .n) (by kernel_rfl) (Zki S0 w0 a0 (a0==(1:Int)) a1 (Zae.mk (0:Int) (Zaa.mk (Zag.mk (Zaj.mk false (0:Int) (0:Int)) (0:Int)) false (0:Int) (Zam.mk (0:Int) (0:Int)) (0:Int) (0:Int)) ([]:(List Zab)) ([]:(List Zac))) r hf)
 ·rcases Zah hf with⟨h2,hf⟩|⟨h2,hf⟩
  ·exact ZaJ Zak Post.ends 14 [rz,rz,rz,rz] [false,true] ⟨[],[(4,[(11,cL 5 Zab.c Zab.d []),(12,cL 7 Zac.c Zac.d [])])],[],[],[],[3,4,5,6],[3,4],[]⟩ (.c h1 (.c h2 .n)) (by kernel_rfl) (Zki S0 w0 a0 (a0==(2:Int)) a1 (Zae.mk (0:Int) (Zaa.mk (Zag.mk (Zaj.mk false (0:Int) (0:Int)) (0:Int)) false (0:Int) (Zam.mk (0:Int) (0:Int)) (0:Int) (0:Int)) ([]:(List Zab)) ([]:(List Zac))) r hf)
  ·exact ZaJ Zak Post.ends 14 [rz,rz,rz,rz,rz] [false,false] ⟨[],[(4,[(11,cL 5 Zab.c Zab.d []),(12,cL 7 Zac.c Zac.d [])])],[],[],[],[3,4,5,6],[3,4],[]⟩ (.c h1 (.c h2 .n)) (by kernel_rfl) (Zki S0 w0 a0 (a0==(5:Int)) a1 (Zae.mk (0:Int) (Zaa.mk (Zag.mk (Zaj.mk false (0:Int) (0:Int)) (0:Int)) false (0:Int) (Zam.mk (0:Int) (0:Int)) (0:Int) (0:Int)) ([]:(List Zab)) ([]:(List Zac))) r hf)
def Zhi(v10:Int)(v12:Bool)(b1 b2 b3:ZaE):Option ZaE:=bif v12 then some (ZaE.mk b3.fKind b1.fLock b3.fLoc b3.fOld b3.fNew b3.fVal b3.fMark)else bif(v10==(5:Int))then(ZjB b1.fLoc).bind fun x1=>some (ZaE.mk b3.fKind b3.fLock x1 b3.fOld b3.fNew b3.fVal b3.fMark)else bif(v10==(6:Int))then(ZjB b1.fLoc).bind fun x2=>(Zmu b1.fLoc.fKind b1.fVal).bind fun x3=>some (ZaE.mk b3.fKind b3.fLock x2 b3.fOld b3.fNew x3 b3.fMark)else bif(v10==(7:Int))then(ZjB b1.fLoc).bind fun x4=>some (ZaE.mk b3.fKind b3.fLock x4 b1.fOld b1.fNew b3.fVal b3.fMark)else bif(v10==(8:Int))then some b3 else some (ZaE.mk (0:Int) (0:Int) (Zav.mk (0:Int) (0:Int) (0:Int)) (0:Int) (0:Int) (Zae.mk (0:Int) (Zaa.mk (Zag.mk (Zaj.mk false (0:Int) (0:Int)) (0:Int)) false (0:Int) (Zam.mk (0:Int) (0:Int)) (0:Int) (0:Int)) ([]:(List Zab)) ([]:(List Zac))) false)
theorem ZiA(S0:Nat→Prop)(w0:ZaW)(v10:Int)(v12:Bool)(b1 b2 b3 r:ZaE)(hf:Zhi v10 v12 b1 b2 b3=some r):Good Tryz.prog 54 S0 w0 (bodyPost Tryz.prog Tryz.f470 (Post S0 w0 (.agg (ZaE.c r)))) (at_ [1,1,0,1,0,1] (Zbl Tryz.f470)) ⟨[(1,.one (.ptr 1 0)),(2,.one (.ptr 2 0)),(3,.one (.ptr 3 0)),(10,.one (.lit (.int .i64 v10))),(12,.one (.lit (.bool v12)))],[(1,.box [.lit (.int .i64 b1.fKind),.lit (.int .i64 b1.fLock),.lit (.int .i64 b1.fLoc.fKind),.lit (.int .i64 b1.fLoc.fShard),.lit (.int .i64 b1.fLoc.fSlot),.lit (.int .i64 b1.fOld),.lit (.int .i64 b1.fNew),.lit (.int .i64 b1.fVal.fN),.lit (.bool b1.fVal.fPeer.fEnd.fAddr.fV6),.lit (.int .u64 b1.fVal.fPeer.fEnd.fAddr.fHi),.lit (.int .u64 b1.fVal.fPeer.fEnd.fAddr.fLo),.lit (.int .i64 b1.fVal.fPeer.fEnd.fPort),.lit (.bool b1.fVal.fPeer.fIn),.lit (.int .i64 b1.fVal.fPeer.fSince),.lit (.int .i64 b1.fVal.fPeer.fScore.fPoints),.lit (.int .i64 b1.fVal.fPeer.fScore.fAt),.lit (.int .i64 b1.fVal.fPeer.fPing),.lit (.int .i64 b1.fVal.fPeer.fWork),cL 5 Zab.c Zab.d b1.fVal.fBans,cL 7 Zac.c Zac.d b1.fVal.fBook,.lit (.bool b1.fMark)]),(2,.box [.lit (.int .i64 b2.fKind),.lit (.int .i64 b2.fLock),.lit (.int .i64 b2.fLoc.fKind),.lit (.int .i64 b2.fLoc.fShard),.lit (.int .i64 b2.fLoc.fSlot),.lit (.int .i64 b2.fOld),.lit (.int .i64 b2.fNew),.lit (.int .i64 b2.fVal.fN),.lit (.bool b2.fVal.fPeer.fEnd.fAddr.fV6),.lit (.int .u64 b2.fVal.fPeer.fEnd.fAddr.fHi),.lit (.int .u64 b2.fVal.fPeer.fEnd.fAddr.fLo),.lit (.int .i64 b2.fVal.fPeer.fEnd.fPort),.lit (.bool b2.fVal.fPeer.fIn),.lit (.int .i64 b2.fVal.fPeer.fSince),.lit (.int .i64 b2.fVal.fPeer.fScore.fPoints),.lit (.int .i64 b2.fVal.fPeer.fScore.fAt),.lit (.int .i64 b2.fVal.fPeer.fPing),.lit (.int .i64 b2.fVal.fPeer.fWork),cL 5 Zab.c Zab.d b2.fVal.fBans,cL 7 Zac.c Zac.d b2.fVal.fBook,.lit (.bool b2.fMark)]),(3,.box [.lit (.int .i64 b3.fKind),.lit (.int .i64 b3.fLock),.lit (.int .i64 b3.fLoc.fKind),.lit (.int .i64 b3.fLoc.fShard),.lit (.int .i64 b3.fLoc.fSlot),.lit (.int .i64 b3.fOld),.lit (.int .i64 b3.fNew),.lit (.int .i64 b3.fVal.fN),.lit (.bool b3.fVal.fPeer.fEnd.fAddr.fV6),.lit (.int .u64 b3.fVal.fPeer.fEnd.fAddr.fHi),.lit (.int .u64 b3.fVal.fPeer.fEnd.fAddr.fLo),.lit (.int .i64 b3.fVal.fPeer.fEnd.fPort),.lit (.bool b3.fVal.fPeer.fIn),.lit (.int .i64 b3.fVal.fPeer.fSince),.lit (.int .i64 b3.fVal.fPeer.fScore.fPoints),.lit (.int .i64 b3.fVal.fPeer.fScore.fAt),.lit (.int .i64 b3.fVal.fPeer.fPing),.lit (.int .i64 b3.fVal.fPeer.fWork),cL 5 Zab.c Zab.d b3.fVal.fBans,cL 7 Zac.c Zac.d b3.fVal.fBook,.lit (.bool b3.fMark)])]⟩:=by
 unfold Zhi at hf;rcases Zah hf with⟨h2,hf⟩|⟨h2,hf⟩
 ·obtain rfl:=oi hf;exact Zai Zak 5 [rz,rz] [true] [] [] [] (.c h2 .n) (by kernel_rfl) rfl
 ·rcases Zah hf with⟨h3,hf⟩|⟨h3,hf⟩
  ·obtain⟨x1,q4,hf⟩:=Zaf hf;obtain rfl:=oi hf;exact Zai Zak 8 [rz,rA [(2,aG (Zav.c x1))],rz] [false,true] [] [] [] (.c h2 (.c h3 (.c (Zna _ _ q4) .n))) (by kernel_rfl) rfl
  ·rcases Zah hf with⟨h5,hf⟩|⟨h5,hf⟩
   ·obtain⟨x2,q6,hf⟩:=Zaf hf;obtain⟨x3,q7,hf⟩:=Zaf hf;obtain rfl:=oi hf;exact Zai Zak 11 [rz,rz,rA [(2,aG (Zav.c x2)),(8,aG (Zae.c x3))],rz] [false,false,true] [] [] [] (.c h2 (.c h3 (.c h5 (.c (Zna _ _ q6) (.c (Zvo _ _ _ q7) .n))))) (by kernel_rfl) rfl
   ·rcases Zah hf with⟨h8,hf⟩|⟨h8,hf⟩
    ·obtain⟨x4,q9,hf⟩:=Zaf hf;obtain rfl:=oi hf;exact Zai Zak 14 [rz,rz,rz,rA [(2,aG (Zav.c x4))],rz] [false,false,false,true] [] [] [] (.c h2 (.c h3 (.c h5 (.c h8 (.c (Zna _ _ q9) .n))))) (by kernel_rfl) rfl
    ·rcases Zah hf with⟨h10,hf⟩|⟨h10,hf⟩
     ·obtain rfl:=oi hf;exact Zai Zak 17 [rz,rz,rz,rz,rz] [false,false,false,false,true] [] [] [] (.c h2 (.c h3 (.c h5 (.c h8 (.c h10 .n))))) (by kernel_rfl) rfl
     ·obtain rfl:=oi hf;exact Zai Zak 15 [rz,rz,rz,rz,rz] [false,false,false,false,false] [] [(2,[(18,cL 5 Zab.c Zab.d []),(19,cL 7 Zac.c Zac.d [])])] [] (.c h2 (.c h3 (.c h5 (.c h8 (.c h10 .n))))) (by kernel_rfl) rfl
def Zmv(a0:ZaE):Option ZaE:=bif(a0.fKind==(1:Int))then Zhi a0.fKind (a0.fKind==(1:Int)) a0 (ZaE.mk (0:Int) (0:Int) (Zav.mk (0:Int) (0:Int) (0:Int)) (0:Int) (0:Int) (Zae.mk (0:Int) (Zaa.mk (Zag.mk (Zaj.mk false (0:Int) (0:Int)) (0:Int)) false (0:Int) (Zam.mk (0:Int) (0:Int)) (0:Int) (0:Int)) ([]:(List Zab)) ([]:(List Zac))) false) (ZaE.mk a0.fKind (0:Int) (Zav.mk (0:Int) (0:Int) (0:Int)) (0:Int) (0:Int) (Zae.mk (0:Int) (Zaa.mk (Zag.mk (Zaj.mk false (0:Int) (0:Int)) (0:Int)) false (0:Int) (Zam.mk (0:Int) (0:Int)) (0:Int) (0:Int)) ([]:(List Zab)) ([]:(List Zac))) a0.fMark)else bif(a0.fKind==(2:Int))then Zhi a0.fKind (a0.fKind==(2:Int)) a0 (ZaE.mk (0:Int) (0:Int) (Zav.mk (0:Int) (0:Int) (0:Int)) (0:Int) (0:Int) (Zae.mk (0:Int) (Zaa.mk (Zag.mk (Zaj.mk false (0:Int) (0:Int)) (0:Int)) false (0:Int) (Zam.mk (0:Int) (0:Int)) (0:Int) (0:Int)) ([]:(List Zab)) ([]:(List Zac))) false) (ZaE.mk a0.fKind (0:Int) (Zav.mk (0:Int) (0:Int) (0:Int)) (0:Int) (0:Int) (Zae.mk (0:Int) (Zaa.mk (Zag.mk (Zaj.mk false (0:Int) (0:Int)) (0:Int)) false (0:Int) (Zam.mk (0:Int) (0:Int)) (0:Int) (0:Int)) ([]:(List Zab)) ([]:(List Zac))) a0.fMark)else bif(a0.fKind==(3:Int))then Zhi a0.fKind (a0.fKind==(3:Int)) a0 (ZaE.mk (0:Int) (0:Int) (Zav.mk (0:Int) (0:Int) (0:Int)) (0:Int) (0:Int) (Zae.mk (0:Int) (Zaa.mk (Zag.mk (Zaj.mk false (0:Int) (0:Int)) (0:Int)) false (0:Int) (Zam.mk (0:Int) (0:Int)) (0:Int) (0:Int)) ([]:(List Zab)) ([]:(List Zac))) false) (ZaE.mk a0.fKind (0:Int) (Zav.mk (0:Int) (0:Int) (0:Int)) (0:Int) (0:Int) (Zae.mk (0:Int) (Zaa.mk (Zag.mk (Zaj.mk false (0:Int) (0:Int)) (0:Int)) false (0:Int) (Zam.mk (0:Int) (0:Int)) (0:Int) (0:Int)) ([]:(List Zab)) ([]:(List Zac))) a0.fMark)else Zhi a0.fKind (a0.fKind==(4:Int)) a0 (ZaE.mk (0:Int) (0:Int) (Zav.mk (0:Int) (0:Int) (0:Int)) (0:Int) (0:Int) (Zae.mk (0:Int) (Zaa.mk (Zag.mk (Zaj.mk false (0:Int) (0:Int)) (0:Int)) false (0:Int) (Zam.mk (0:Int) (0:Int)) (0:Int) (0:Int)) ([]:(List Zab)) ([]:(List Zac))) false) (ZaE.mk a0.fKind (0:Int) (Zav.mk (0:Int) (0:Int) (0:Int)) (0:Int) (0:Int) (Zae.mk (0:Int) (Zaa.mk (Zag.mk (Zaj.mk false (0:Int) (0:Int)) (0:Int)) false (0:Int) (Zam.mk (0:Int) (0:Int)) (0:Int) (0:Int)) ([]:(List Zab)) ([]:(List Zac))) a0.fMark)
theorem Zvp(a0 r:ZaE)(hf:Zmv a0=some r):Zaz Tryz.prog 470 [.agg (ZaE.c a0)] (.agg (ZaE.c r)):=by
 refine Zaz.of Tryz.func470 rfl rfl rfl rfl fun S0 w0=>?_;unfold Zmv at hf;rcases Zah hf with⟨h1,hf⟩|⟨h1,hf⟩
 ·exact ZaJ Zak Post.ends 13 [rz,rz,rz,rz] [true] ⟨[],[(2,[(18,cL 5 Zab.c Zab.d []),(19,cL 7 Zac.c Zac.d [])]),(3,[(18,cL 5 Zab.c Zab.d []),(19,cL 7 Zac.c Zac.d [])])],[],[],[],[1,2,3,10,12],[1,2,3],[]⟩ (.c h1 .n) (by kernel_rfl) (ZiA S0 w0 a0.fKind (a0.fKind==(1:Int)) a0 (ZaE.mk (0:Int) (0:Int) (Zav.mk (0:Int) (0:Int) (0:Int)) (0:Int) (0:Int) (Zae.mk (0:Int) (Zaa.mk (Zag.mk (Zaj.mk false (0:Int) (0:Int)) (0:Int)) false (0:Int) (Zam.mk (0:Int) (0:Int)) (0:Int) (0:Int)) ([]:(List Zab)) ([]:(List Zac))) false) (ZaE.mk a0.fKind (0:Int) (Zav.mk (0:Int) (0:Int) (0:Int)) (0:Int) (0:Int) (Zae.mk (0:Int) (Zaa.mk (Zag.mk (Zaj.mk false (0:Int) (0:Int)) (0:Int)) false (0:Int) (Zam.mk (0:Int) (0:Int)) (0:Int) (0:Int)) ([]:(List Zab)) ([]:(List Zac))) a0.fMark) r hf)
 ·rcases Zah hf with⟨h2,hf⟩|⟨h2,hf⟩
  ·exact ZaJ Zak Post.ends 16 [rz,rz,rz,rz,rz] [false,true] ⟨[],[(2,[(18,cL 5 Zab.c Zab.d []),(19,cL 7 Zac.c Zac.d [])]),(3,[(18,cL 5 Zab.c Zab.d []),(19,cL 7 Zac.c Zac.d [])])],[],[],[],[1,2,3,10,12],[1,2,3],[]⟩ (.c h1 (.c h2 .n)) (by kernel_rfl) (ZiA S0 w0 a0.fKind (a0.fKind==(2:Int)) a0 (ZaE.mk (0:Int) (0:Int) (Zav.mk (0:Int) (0:Int) (0:Int)) (0:Int) (0:Int) (Zae.mk (0:Int) (Zaa.mk (Zag.mk (Zaj.mk false (0:Int) (0:Int)) (0:Int)) false (0:Int) (Zam.mk (0:Int) (0:Int)) (0:Int) (0:Int)) ([]:(List Zab)) ([]:(List Zac))) false) (ZaE.mk a0.fKind (0:Int) (Zav.mk (0:Int) (0:Int) (0:Int)) (0:Int) (0:Int) (Zae.mk (0:Int) (Zaa.mk (Zag.mk (Zaj.mk false (0:Int) (0:Int)) (0:Int)) false (0:Int) (Zam.mk (0:Int) (0:Int)) (0:Int) (0:Int)) ([]:(List Zab)) ([]:(List Zac))) a0.fMark) r hf)
  ·rcases Zah hf with⟨h3,hf⟩|⟨h3,hf⟩
   ·exact ZaJ Zak Post.ends 19 [rz,rz,rz,rz,rz,rz] [false,false,true] ⟨[],[(2,[(18,cL 5 Zab.c Zab.d []),(19,cL 7 Zac.c Zac.d [])]),(3,[(18,cL 5 Zab.c Zab.d []),(19,cL 7 Zac.c Zac.d [])])],[],[],[],[1,2,3,10,12],[1,2,3],[]⟩ (.c h1 (.c h2 (.c h3 .n))) (by kernel_rfl) (ZiA S0 w0 a0.fKind (a0.fKind==(3:Int)) a0 (ZaE.mk (0:Int) (0:Int) (Zav.mk (0:Int) (0:Int) (0:Int)) (0:Int) (0:Int) (Zae.mk (0:Int) (Zaa.mk (Zag.mk (Zaj.mk false (0:Int) (0:Int)) (0:Int)) false (0:Int) (Zam.mk (0:Int) (0:Int)) (0:Int) (0:Int)) ([]:(List Zab)) ([]:(List Zac))) false) (ZaE.mk a0.fKind (0:Int) (Zav.mk (0:Int) (0:Int) (0:Int)) (0:Int) (0:Int) (Zae.mk (0:Int) (Zaa.mk (Zag.mk (Zaj.mk false (0:Int) (0:Int)) (0:Int)) false (0:Int) (Zam.mk (0:Int) (0:Int)) (0:Int) (0:Int)) ([]:(List Zab)) ([]:(List Zac))) a0.fMark) r hf)
   ·exact ZaJ Zak Post.ends 19 [rz,rz,rz,rz,rz,rz,rz] [false,false,false] ⟨[],[(2,[(18,cL 5 Zab.c Zab.d []),(19,cL 7 Zac.c Zac.d [])]),(3,[(18,cL 5 Zab.c Zab.d []),(19,cL 7 Zac.c Zac.d [])])],[],[],[],[1,2,3,10,12],[1,2,3],[]⟩ (.c h1 (.c h2 (.c h3 .n))) (by kernel_rfl) (ZiA S0 w0 a0.fKind (a0.fKind==(4:Int)) a0 (ZaE.mk (0:Int) (0:Int) (Zav.mk (0:Int) (0:Int) (0:Int)) (0:Int) (0:Int) (Zae.mk (0:Int) (Zaa.mk (Zag.mk (Zaj.mk false (0:Int) (0:Int)) (0:Int)) false (0:Int) (Zam.mk (0:Int) (0:Int)) (0:Int) (0:Int)) ([]:(List Zab)) ([]:(List Zac))) false) (ZaE.mk a0.fKind (0:Int) (Zav.mk (0:Int) (0:Int) (0:Int)) (0:Int) (0:Int) (Zae.mk (0:Int) (Zaa.mk (Zag.mk (Zaj.mk false (0:Int) (0:Int)) (0:Int)) false (0:Int) (Zam.mk (0:Int) (0:Int)) (0:Int) (0:Int)) ([]:(List Zab)) ([]:(List Zac))) a0.fMark) r hf)
def Zcw(a0:Zan)(a1:ZaE):Option (Tout Zae):=bif(((a0.fgot.length:Nat):Int)==(0:Int))then(Zmv a1).bind fun x1=>some (Tout.pan x1)else need (0≤(0:Int)∧(0:Int)<((a0.fgot.length:Nat):Int))<|need (0≤(1:Int)∧(1:Int)≤((a0.fgot.length:Nat):Int))<|some (Tout.ret (a0.fgot.getD (0:Int).toNat Zae.d) (Zan.mk (a0.fgot.drop (1:Int).toNat)))
theorem ZbE(a0:Zan)(a1:ZaE)(r:(Tout Zae))(hf:Zcw a0 a1=some r):ZfT Tryz.prog 469 [(100000,.box (Zan.c a0))] [.one (.ptr 100000 0),.agg (ZaE.c a1)] (oc (fun x=>.agg (Zae.c x)) r):=by
 refine ZfT.of Tryz.func469 rfl rfl rfl rfl fun S0 w0=>?_;unfold Zcw at hf;rcases Zah hf with⟨h1,hf⟩|⟨h1,hf⟩
 ·obtain⟨x1,q2,hf⟩:=Zaf hf;obtain rfl:=oi hf;exact ZaG Zak 6 _ _ [rz,rz] [true] (rA [(1,aG (ZaE.c x1))]) 4 ⟨[],.one .junk⟩ (.c h1 (.c (Zvp _ _ q2) (.c (show Tryz.prog.concrete 111=true from(by kernel_rfl)) .n))) (by kernel_rfl)
 ·obtain⟨o3,hf⟩:=Zar hf;obtain⟨o4,hf⟩:=Zar hf;obtain rfl:=oi hf;exact Zcc Zak 13 [rz,rz,rz,⟨[],[],[],[],[],[(5,((a0.fgot.drop (1:Int).toNat).length,Zao Zae.c Zae.d (a0.fgot.drop (1:Int).toNat)))],[]⟩,rz] [false] ⟨[],[],[],[],[],[4],[4,100000],[]⟩ [100000] (.c h1 (.c o3 (.c (show (a0.fgot.drop (1:Int).toNat).length=a0.fgot.length-(1:Int).toNat∧∀i j,i<a0.fgot.length-(1:Int).toNat→j<13→Zao Zae.c Zae.d (a0.fgot.drop (1:Int).toNat) i j=Zao Zae.c Zae.d a0.fgot ((1:Int).toNat+i) j from(ZkF _ _)) (.c o4 .n)))) (by kernel_rfl)
def Ziy(a0:Zan)(a1:Bool):Option (Tout Unit):=(Zcw a0 (ZaE.mk (8:Int) (0:Int) (Zav.mk (0:Int) (0:Int) (0:Int)) (0:Int) (0:Int) (Zae.mk (0:Int) (Zaa.mk (Zag.mk (Zaj.mk false (0:Int) (0:Int)) (0:Int)) false (0:Int) (Zam.mk (0:Int) (0:Int)) (0:Int) (0:Int)) ([]:(List Zab)) ([]:(List Zac))) a1)).bind fun x1=>(match x1 with | .ret x1v x1g=>some (Tout.ret () x1g) | .pan x1o=>some (Tout.pan x1o) | .bad x1s=>some (Tout.bad x1s))
theorem Zkn(a0:Zan)(a1:Bool)(r:(Tout Unit))(hf:Ziy a0 a1=some r):ZfT Tryz.prog 465 [(100000,.box (Zan.c a0))] [.one (.ptr 100000 0),.one (.lit (.bool a1))] (oc (fun x=>.tup []) r):=by
 refine ZfT.of Tryz.func465 rfl rfl rfl rfl fun S0 w0=>?_;unfold Ziy at hf;obtain⟨x1,q1,hf⟩:=Zaf hf;cases x1 with
 |ret x1v x1g=>
  dsimp only at hf;obtain rfl:=oi hf;exact Zcc Zak 1 [⟨[],[],[],[],[(2,[(18,cL 5 Zab.c Zab.d []),(19,cL 7 Zac.c Zac.d [])])],[],[(3,⟨[(100000,100000)],[],[(100000,.box (Zan.c x1g))],.agg (Zae.c x1v)⟩)]⟩] [] ⟨[],[],[],[],[],[],[100000],[]⟩ [100000] (.c (ZbE _ _ _ q1) .n) (by kernel_rfl)
 |_=>
  dsimp only at hf;obtain rfl:=oi hf;exact ZaG Zak 0 _ _ [] [] (⟨[],[],[],[],[(2,[(18,cL 5 Zab.c Zab.d []),(19,cL 7 Zac.c Zac.d [])])],[],[]⟩) 3 ⟨[(100000,100000)],pvOf q1⟩ (.c (ZbE _ _ _ q1) .n) (by kernel_rfl)
def ZdY(a0:Int):Option Zaq:=some (Zaq.mk a0 (Zag.mk (Zaj.mk false (0:Int) (0:Int)) (0:Int)) (0:Int) (0:Int) ([]:(List Zaa)))
theorem ZeS(a0:Int)(r:Zaq)(hf:ZdY a0=some r):Zaz Tryz.prog 136 [.one (.lit (.int .i64 a0))] (.agg (Zaq.c r)):=by
 refine Zaz.of Tryz.func136 rfl rfl rfl rfl fun S0 w0=>?_;unfold ZdY at hf;obtain rfl:=oi hf;exact Zai Zak 4 [rz,rz] [] [] [(2,[(7,cL 10 Zaa.c Zaa.d [])])] [] .n (by kernel_rfl) rfl
def Zgd(a0:Zax)(a1:Zan):Option (Tout Zaq):=(Ziy a1 true).bind fun x1=>(match x1 with | .ret x1v x1g=>(ZdY (1:Int)).bind fun x2=>some (Tout.ret x2 x1g) | .pan x1o=>some (Tout.pan x1o) | .bad x1s=>some (Tout.bad x1s))
theorem Zhv(a0:Zax)(a1:Zan)(r:(Tout Zaq))(hf:Zgd a0 a1=some r):ZfT Tryz.prog 67 [(100000,.box (Zan.c a1))] [.agg (Zax.c a0),.one (.ifc 112 (.ptr 100000 0))] (oc (fun x=>.agg (Zaq.c x)) r):=by
 refine ZfT.of Tryz.func67 rfl rfl rfl rfl fun S0 w0=>?_;unfold Zgd at hf;obtain⟨x1,q1,hf⟩:=Zaf hf;cases x1 with
 |ret x1v x1g=>
  dsimp only at hf;obtain⟨x2,q2,hf⟩:=Zaf hf;obtain rfl:=oi hf;exact Zcc Zak 6 [rz,rH [(1,.id 465)] [(1,⟨[(100000,100000)],[],[(100000,.box (Zan.c x1g))],.tup []⟩)],rA [(0,aG (Zaq.c x2))]] [] ⟨[],[],[],[],[],[4],[4,100000],[]⟩ [100000] (.c (Zkn _ _ _ q1) (.c ZwB (.c (ZeS _ _ q2) .n))) (by kernel_rfl)
 |_=>
  dsimp only at hf;obtain rfl:=oi hf;exact ZaG Zak 3 _ _ [rz] [] (rA [(1,.id 465)]) 1 ⟨[(100000,100000)],pvOf q1⟩ (.c (Zkn _ _ _ q1) (.c ZwB .n)) (by kernel_rfl)
def ZiH(a0:Zaj):Option Zas:=(Zho a0).bind fun x1=>(ZjD a0 x1).bind fun x2=>some x2.1
theorem Zma(a0:Zaj)(r:Zas)(hf:ZiH a0=some r):Zaz Tryz.prog 226 [.agg (Zaj.c a0)] (.agg (Zas.c r)):=by
 refine Zaz.of Tryz.func226 rfl rfl rfl rfl fun S0 w0=>?_;unfold ZiH at hf;obtain⟨x1,q1,hf⟩:=Zaf hf;obtain⟨x2,q2,hf⟩:=Zaf hf;obtain rfl:=oi hf;exact Zai Zak 6 [rz,rA [(2,aI x1),(3,.r (.tup [(true,Zas.c x2.1),(false,cB x2.2)]) [])],rz] [] [] [] [] (.c (Zmb _ _ q1) (.c (ZlZ _ _ _ q2) .n)) (by kernel_rfl) rfl
def ZkS(a0:Int):Option Int:=some (IntKind.wrap .u64 (((BitVec.ofInt (IntKind.bits .u64) (IntKind.wrap .u64 ((IntKind.wrap .u64 (((BitVec.ofInt (IntKind.bits .u64) (IntKind.wrap .u64 ((IntKind.wrap .u64 (((BitVec.ofInt (IntKind.bits .u64) a0) ^^^ (BitVec.ofInt (IntKind.bits .u64) (Int.fdiv a0 (2 ^ (min (30:Int).toNat (IntKind.bits .u64)))))).toNat:Int))*(13787848793156543929:Int)))) ^^^ (BitVec.ofInt (IntKind.bits .u64) (Int.fdiv (IntKind.wrap .u64 ((IntKind.wrap .u64 (((BitVec.ofInt (IntKind.bits .u64) a0) ^^^ (BitVec.ofInt (IntKind.bits .u64) (Int.fdiv a0 (2 ^ (min (30:Int).toNat (IntKind.bits .u64)))))).toNat:Int))*(13787848793156543929:Int))) (2 ^ (min (27:Int).toNat (IntKind.bits .u64)))))).toNat:Int))*(10723151780598845931:Int)))) ^^^ (BitVec.ofInt (IntKind.bits .u64) (Int.fdiv (IntKind.wrap .u64 ((IntKind.wrap .u64 (((BitVec.ofInt (IntKind.bits .u64) (IntKind.wrap .u64 ((IntKind.wrap .u64 (((BitVec.ofInt (IntKind.bits .u64) a0) ^^^ (BitVec.ofInt (IntKind.bits .u64) (Int.fdiv a0 (2 ^ (min (30:Int).toNat (IntKind.bits .u64)))))).toNat:Int))*(13787848793156543929:Int)))) ^^^ (BitVec.ofInt (IntKind.bits .u64) (Int.fdiv (IntKind.wrap .u64 ((IntKind.wrap .u64 (((BitVec.ofInt (IntKind.bits .u64) a0) ^^^ (BitVec.ofInt (IntKind.bits .u64) (Int.fdiv a0 (2 ^ (min (30:Int).toNat (IntKind.bits .u64)))))).toNat:Int))*(13787848793156543929:Int))) (2 ^ (min (27:Int).toNat (IntKind.bits .u64)))))).toNat:Int))*(10723151780598845931:Int))) (2 ^ (min (31:Int).toNat (IntKind.bits .u64)))))).toNat:Int))
theorem Zom(a0 r:Int)(hf:ZkS a0=some r):Zaz Tryz.prog 371 [.one (.lit (.int .u64 a0))] (.one (.lit (.int .u64 r))):=by
 refine Zaz.of Tryz.func371 rfl rfl rfl rfl fun S0 w0=>?_;unfold ZkS at hf;obtain rfl:=oi hf;exact Zai Zak 8 [rz,rz,rz,rz] [] [] [] [] (.c (show 0≤(30:Int)from(by decide)) (.c (show 0≤(27:Int)from(by decide)) (.c (show 0≤(31:Int)from(by decide)) .n))) (by kernel_rfl) rfl
def ZdP(a0 a1:Int):Option Int:=need (0≤(IntKind.wrap .u64 (((BitVec.ofInt (IntKind.bits .u64) (IntKind.wrap .u64 a1)) &&& (BitVec.ofInt (IntKind.bits .u64) (63:Int))).toNat:Int)))<|need (0≤(IntKind.wrap .u64 ((64:Int)-(IntKind.wrap .u64 (((BitVec.ofInt (IntKind.bits .u64) (IntKind.wrap .u64 a1)) &&& (BitVec.ofInt (IntKind.bits .u64) (63:Int))).toNat:Int)))))<|some (IntKind.wrap .u64 (((BitVec.ofInt (IntKind.bits .u64) (IntKind.wrap .u64 (a0 * 2 ^ (min (IntKind.wrap .u64 (((BitVec.ofInt (IntKind.bits .u64) (IntKind.wrap .u64 a1)) &&& (BitVec.ofInt (IntKind.bits .u64) (63:Int))).toNat:Int)).toNat (IntKind.bits .u64))))) ||| (BitVec.ofInt (IntKind.bits .u64) (Int.fdiv a0 (2 ^ (min (IntKind.wrap .u64 ((64:Int)-(IntKind.wrap .u64 (((BitVec.ofInt (IntKind.bits .u64) (IntKind.wrap .u64 a1)) &&& (BitVec.ofInt (IntKind.bits .u64) (63:Int))).toNat:Int)))).toNat (IntKind.bits .u64)))))).toNat:Int))
theorem ZkU(a0 a1 r:Int)(hf:ZdP a0 a1=some r):Zaz Tryz.prog 372 [.one (.lit (.int .u64 a0)),.one (.lit (.int .i64 a1))] (.one (.lit (.int .u64 r))):=by
 refine Zaz.of Tryz.func372 rfl rfl rfl rfl fun S0 w0=>?_;unfold ZdP at hf;obtain⟨o1,hf⟩:=Zar hf;obtain⟨o2,hf⟩:=Zar hf;obtain rfl:=oi hf;exact Zai Zak 6 [rz,rz,rz] [] [] [] [] (.c o1 (.c o2 .n)) (by kernel_rfl) rfl
def ZiF:Nat→Int→(List Int)→Int→Int→Option Int|0,_,_,_,_=>none|fu+1,v5,v11,v12,v13=>bif(decide (v13<v12))then need (0≤v13∧v13<((v11.length:Nat):Int))<|(ZdP v5 (7:Int)).bind fun x2=>(ZkS (IntKind.wrap .u64 ((v11.getD v13.toNat (0:Int))+(11400714819323198485:Int)))).bind fun x3=>(ZkS (IntKind.wrap .u64 (((BitVec.ofInt (IntKind.bits .u64) x2) ^^^ (BitVec.ofInt (IntKind.bits .u64) x3)).toNat:Int))).bind fun x4=>ZiF fu x4 v11 v12 (Zaw v13 (1:Int))else some v5
theorem ZtN(S0:Nat→Prop)(w0:ZaW):∀(fu:Nat)(v5:Int)(v11:List Int)(v12 v13 r:Int),ZiF fu v5 v11 v12 v13=some r→Good Tryz.prog 26 S0 w0 (bodyPost Tryz.prog Tryz.f334 (Post S0 w0 (.one (.lit (.int .u64 r))))) (at_ [1,1,0,1,0] (Zbl Tryz.f334)) ⟨[(5,.one (.lit (.int .u64 v5))),(11,.one (cL 1 (cI .u64) (0:Int) v11)),(12,.one (.lit (.int .i64 v12))),(13,.one (.lit (.int .i64 v13)))],[]⟩:=by
 intro fu;induction fu with
 |zero=>
  intro v5 v11 v12 v13 r hf;simp[ZiF]at hf
 |succ fu ih=>
  intro v5 v11 v12 v13 r hf;unfold ZiF at hf;rcases Zah hf with⟨h2,hf⟩|⟨h2,hf⟩
  ·obtain⟨o3,hf⟩:=Zar hf;obtain⟨x2,q4,hf⟩:=Zaf hf;obtain⟨x3,q5,hf⟩:=Zaf hf;obtain⟨x4,q6,hf⟩:=Zaf hf;exact ZaJ Zak Post.ends 14 [rz,rz,rA [(1,.r (.one (.lit (.int .u64 x2))) []),(4,.r (.one (.lit (.int .u64 x3))) []),(6,.r (.one (.lit (.int .u64 x4))) [])],rz] [true] ⟨[],[],[],[],[],[5,11,12,13],[],[]⟩ (.c h2 (.c o3 (.c (ZkU _ _ _ q4) (.c (Zom _ _ q5) (.c (Zom _ _ q6) .n))))) (by kernel_rfl) (ih x4 v11 v12 (Zaw v13 (1:Int)) r hf)
  ·obtain rfl:=oi hf;exact Zai Zak 8 [rz,rz] [false] [] [] [] (.c h2 .n) (by kernel_rfl) rfl
def ZoL(a0:Int)(a1:List Int):Option Int:=(ZkS (IntKind.wrap .u64 (a0+(11400714819323198485:Int)))).bind fun x1=>ZiF ((((a1.length:Nat):Int)-(0:Int)).toNat+2) x1 a1 ((a1.length:Nat):Int) (0:Int)
theorem ZsQ(a0:Int)(a1:List Int)(r:Int)(hf:ZoL a0 a1=some r):Zaz Tryz.prog 334 [.one (.lit (.int .u64 a0)),.one (cL 1 (cI .u64) (0:Int) a1)] (.one (.lit (.int .u64 r))):=by
 refine Zaz.of Tryz.func334 rfl rfl rfl rfl fun S0 w0=>?_;unfold ZoL at hf;obtain⟨x1,q1,hf⟩:=Zaf hf;exact ZaJ Zak Post.ends 8 [rz,rA [(2,.r (.one (.lit (.int .u64 x1))) [])],rz] [] ⟨[],[],[],[],[],[5,11,12,13],[],[]⟩ (.c (Zom _ _ q1) .n) (by kernel_rfl) (ZtN S0 w0 ((((a1.length:Nat):Int)-(0:Int)).toNat+2) x1 a1 ((a1.length:Nat):Int) (0:Int) r hf)
def Zon(a0:Int)(a1:Zas):Option Int:=bif a1.fAddr.fV6 then(ZoL a0 ([(6:Int),a1.fAddr.fHi,a1.fAddr.fLo,(IntKind.wrap .u64 a1.fBits)]:List Int)).bind fun x1=>some x1 else(ZoL a0 ([(4:Int),a1.fAddr.fHi,a1.fAddr.fLo,(IntKind.wrap .u64 a1.fBits)]:List Int)).bind fun x2=>some x2
theorem ZwM(a0:Int)(a1:Zas)(r:Int)(hf:Zon a0 a1=some r):Zaz Tryz.prog 264 [.one (.lit (.int .u64 a0)),.agg (Zas.c a1)] (.one (.lit (.int .u64 r))):=by
 refine Zaz.of Tryz.func264 rfl rfl rfl rfl fun S0 w0=>?_;unfold Zon at hf;rcases Zah hf with⟨h1,hf⟩|⟨h1,hf⟩
 ·obtain⟨x1,q2,hf⟩:=Zaf hf;obtain rfl:=oi hf;exact Zai Zak 11 [rz,rz,rz,rz,⟨[(12,.r (.one (.lit (.int .u64 x1))) [])],[],[],[],[],[(11,(([(6:Int),a1.fAddr.fHi,a1.fAddr.fLo,(IntKind.wrap .u64 a1.fBits)]:List Int).length,Zao (cI .u64) (0:Int) ([(6:Int),a1.fAddr.fHi,a1.fAddr.fLo,(IntKind.wrap .u64 a1.fBits)]:List Int)))],[]⟩] [true] [] [] [] (.c h1 (.c (show ([(6:Int),a1.fAddr.fHi,a1.fAddr.fLo,(IntKind.wrap .u64 a1.fBits)]:List Int).length=4∧∀i j,i<4→j<1→Zao (cI .u64) (0:Int) ([(6:Int),a1.fAddr.fHi,a1.fAddr.fLo,(IntKind.wrap .u64 a1.fBits)]:List Int) i j=(([(6:Int),a1.fAddr.fHi,a1.fAddr.fLo,(IntKind.wrap .u64 a1.fBits)]:List Int).flatMap (cI .u64)).getD (i * 1+j) .junk from⟨rfl,fun i j hi hj=>ZaI (sz:=1) (e:=(cI .u64)) (d:=(0:Int)) (fun _=>rfl) ([(6:Int),a1.fAddr.fHi,a1.fAddr.fLo,(IntKind.wrap .u64 a1.fBits)]:List Int) i j hi hj⟩) (.c (ZsQ _ _ _ q2) .n))) (by kernel_rfl) rfl
 ·obtain⟨x2,q3,hf⟩:=Zaf hf;obtain rfl:=oi hf;exact Zai Zak 11 [rz,rz,rz,⟨[(12,.r (.one (.lit (.int .u64 x2))) [])],[],[],[],[],[(11,(([(4:Int),a1.fAddr.fHi,a1.fAddr.fLo,(IntKind.wrap .u64 a1.fBits)]:List Int).length,Zao (cI .u64) (0:Int) ([(4:Int),a1.fAddr.fHi,a1.fAddr.fLo,(IntKind.wrap .u64 a1.fBits)]:List Int)))],[]⟩] [false] [] [] [] (.c h1 (.c (show ([(4:Int),a1.fAddr.fHi,a1.fAddr.fLo,(IntKind.wrap .u64 a1.fBits)]:List Int).length=4∧∀i j,i<4→j<1→Zao (cI .u64) (0:Int) ([(4:Int),a1.fAddr.fHi,a1.fAddr.fLo,(IntKind.wrap .u64 a1.fBits)]:List Int) i j=(([(4:Int),a1.fAddr.fHi,a1.fAddr.fLo,(IntKind.wrap .u64 a1.fBits)]:List Int).flatMap (cI .u64)).getD (i * 1+j) .junk from⟨rfl,fun i j hi hj=>ZaI (sz:=1) (e:=(cI .u64)) (d:=(0:Int)) (fun _=>rfl) ([(4:Int),a1.fAddr.fHi,a1.fAddr.fLo,(IntKind.wrap .u64 a1.fBits)]:List Int) i j hi hj⟩) (.c (ZsQ _ _ _ q3) .n))) (by kernel_rfl) rfl
def ZiV(a0:Int):Option Int:=some (if(8:Int)<(if(1:Int)>a0 then(1:Int)else a0)then(8:Int)else(if(1:Int)>a0 then(1:Int)else a0))
theorem Zrs(a0 r:Int)(hf:ZiV a0=some r):Zaz Tryz.prog 265 [.one (.lit (.int .i64 a0))] (.one (.lit (.int .i64 r))):=by
 refine Zaz.of Tryz.func265 rfl rfl rfl rfl fun S0 w0=>?_;unfold ZiV at hf;obtain rfl:=oi hf;exact Zai Zak 4 [rz,rz] [] [] [] [] .n (by kernel_rfl) rfl
def ZkT(a0 a1:Int):Option Int:=bif(decide (a1<(1:Int)))then some (0:Int)else bif(decide (a1>(2147483648:Int)))then some (0:Int)else some (IntKind.wrap .i64 (Int.fdiv (IntKind.wrap .u64 ((Int.fdiv a0 (2 ^ (min (32:Int).toNat (IntKind.bits .u64))))*(IntKind.wrap .u64 a1))) (2 ^ (min (32:Int).toNat (IntKind.bits .u64)))))
theorem ZtO(a0 a1 r:Int)(hf:ZkT a0 a1=some r):Zaz Tryz.prog 263 [.one (.lit (.int .u64 a0)),.one (.lit (.int .i64 a1))] (.one (.lit (.int .i64 r))):=by
 refine Zaz.of Tryz.func263 rfl rfl rfl rfl fun S0 w0=>?_;unfold ZkT at hf;rcases Zah hf with⟨h1,hf⟩|⟨h1,hf⟩
 ·obtain rfl:=oi hf;exact Zai Zak 8 [rz,rB [(2,true)],rz] [true] [] [] [] (.c h1 (.c (show true=true from rfl) .n)) (by kernel_rfl) rfl
 ·rcases Zah hf with⟨h2,hf⟩|⟨h2,hf⟩
  ·obtain rfl:=oi hf;exact Zai Zak 8 [rz,rB [(2,false)],rz] [true] [] [] [] (.c h1 (.c h2 .n)) (by kernel_rfl) rfl
  ·obtain rfl:=oi hf;exact Zai Zak 9 [rz,rB [(2,false)],rz] [false] [] [] [] (.c h1 (.c h2 (.c (show 0≤(32:Int)from(by decide)) (.c (show 0≤(32:Int)from(by decide)) .n)))) (by kernel_rfl) rfl
def ZjA(a0:Zaj)(a1 a2:Int):Option Int:=(ZiH a0).bind fun x1=>(Zon a1 x1).bind fun x2=>(ZiV a2).bind fun x3=>(ZkT x2 x3).bind fun x4=>some x4
theorem Zvn(a0:Zaj)(a1 a2 r:Int)(hf:ZjA a0 a1 a2=some r):Zaz Tryz.prog 200 [.agg (Zaj.c a0),.one (.lit (.int .u64 a1)),.one (.lit (.int .i64 a2))] (.one (.lit (.int .i64 r))):=by
 refine Zaz.of Tryz.func200 rfl rfl rfl rfl fun S0 w0=>?_;unfold ZjA at hf;obtain⟨x1,q1,hf⟩:=Zaf hf;obtain⟨x2,q2,hf⟩:=Zaf hf;obtain⟨x3,q3,hf⟩:=Zaf hf;obtain⟨x4,q4,hf⟩:=Zaf hf;obtain rfl:=oi hf;exact Zai Zak 4 [rz,rA [(2,aG (Zas.c x1)),(3,.r (.one (.lit (.int .u64 x2))) []),(5,aI x3),(6,aI x4)]] [] [] [] [] (.c (Zma _ _ q1) (.c (ZwM _ _ _ q2) (.c (Zrs _ _ q3) (.c (ZtO _ _ _ q4) .n)))) (by kernel_rfl) rfl
def ZdQ(a0:Zax):Option Int:=(ZjA a0.fx.fEnd.fAddr a0.fc.fSecret a0.fc.fShards).bind fun x1=>some x1
theorem ZgH(a0:Zax)(r:Int)(hf:ZdQ a0=some r):Zaz Tryz.prog 218 [.agg (Zax.c a0)] (.one (.lit (.int .i64 r))):=by
 refine Zaz.of Tryz.func218 rfl rfl rfl rfl fun S0 w0=>?_;unfold ZdQ at hf;obtain⟨x1,q1,hf⟩:=Zaf hf;obtain rfl:=oi hf;exact Zai Zak 4 [rz,rA [(10,aI x1)]] [] [] [] [] (.c (Zvn _ _ _ _ q1) .n) (by kernel_rfl) rfl
def Zbd(a0:Zax):Option Int:=(ZdQ a0).bind fun x1=>some (Zaw (2:Int) x1)
theorem Zbi(a0:Zax)(r:Int)(hf:Zbd a0=some r):Zaz Tryz.prog 138 [.agg (Zax.c a0)] (.one (.lit (.int .i64 r))):=by
 refine Zaz.of Tryz.func138 rfl rfl rfl rfl fun S0 w0=>?_;unfold Zbd at hf;obtain⟨x1,q1,hf⟩:=Zaf hf;obtain rfl:=oi hf;exact Zai Zak 4 [rz,rA [(1,aI x1)]] [] [] [] [] (.c (ZgH _ _ q1) .n) (by kernel_rfl) rfl
def ZeT(a0:Zan)(a1:Int)(a2:Bool):Option (Tout Unit):=(Zcw a0 (ZaE.mk (1:Int) a1 (Zav.mk (0:Int) (0:Int) (0:Int)) (0:Int) (0:Int) (Zae.mk (0:Int) (Zaa.mk (Zag.mk (Zaj.mk false (0:Int) (0:Int)) (0:Int)) false (0:Int) (Zam.mk (0:Int) (0:Int)) (0:Int) (0:Int)) ([]:(List Zab)) ([]:(List Zac))) a2)).bind fun x1=>(match x1 with | .ret x1v x1g=>some (Tout.ret () x1g) | .pan x1o=>some (Tout.pan x1o) | .bad x1s=>some (Tout.bad x1s))
theorem ZcQ(a0:Zan)(a1:Int)(a2:Bool)(r:(Tout Unit))(hf:ZeT a0 a1 a2=some r):ZfT Tryz.prog 464 [(100000,.box (Zan.c a0))] [.one (.ptr 100000 0),.one (.lit (.int .i64 a1)),.one (.lit (.bool a2))] (oc (fun x=>.tup []) r):=by
 refine ZfT.of Tryz.func464 rfl rfl rfl rfl fun S0 w0=>?_;unfold ZeT at hf;obtain⟨x1,q1,hf⟩:=Zaf hf;cases x1 with
 |ret x1v x1g=>
  dsimp only at hf;obtain rfl:=oi hf;exact Zcc Zak 1 [⟨[],[],[],[],[(3,[(18,cL 5 Zab.c Zab.d []),(19,cL 7 Zac.c Zac.d [])])],[],[(4,⟨[(100000,100000)],[],[(100000,.box (Zan.c x1g))],.agg (Zae.c x1v)⟩)]⟩] [] ⟨[],[],[],[],[],[],[100000],[]⟩ [100000] (.c (ZbE _ _ _ q1) .n) (by kernel_rfl)
 |_=>
  dsimp only at hf;obtain rfl:=oi hf;exact ZaG Zak 0 _ _ [] [] (⟨[],[],[],[],[(3,[(18,cL 5 Zab.c Zab.d []),(19,cL 7 Zac.c Zac.d [])])],[],[]⟩) 4 ⟨[(100000,100000)],pvOf q1⟩ (.c (ZbE _ _ _ q1) .n) (by kernel_rfl)
def Zjz(a0:Int):Option Zav:=some (Zav.mk (5:Int) a0 (0:Int))
theorem Zpi(a0:Int)(r:Zav)(hf:Zjz a0=some r):Zaz Tryz.prog 283 [.one (.lit (.int .i64 a0))] (.agg (Zav.c r)):=by
 refine Zaz.of Tryz.func283 rfl rfl rfl rfl fun S0 w0=>?_;unfold Zjz at hf;obtain rfl:=oi hf;exact Zai Zak 4 [rz,rz] [] [] [] [] .n (by kernel_rfl) rfl
def Zel(a0:Zan)(a1:Zav)(a2:Bool):Option (Tout Zae):=(Zcw a0 (ZaE.mk (5:Int) (0:Int) a1 (0:Int) (0:Int) (Zae.mk (0:Int) (Zaa.mk (Zag.mk (Zaj.mk false (0:Int) (0:Int)) (0:Int)) false (0:Int) (Zam.mk (0:Int) (0:Int)) (0:Int) (0:Int)) ([]:(List Zab)) ([]:(List Zac))) a2)).bind fun x1=>(match x1 with | .ret x1v x1g=>some (Tout.ret x1v x1g) | .pan x1o=>some (Tout.pan x1o) | .bad x1s=>some (Tout.bad x1s))
theorem ZbY(a0:Zan)(a1:Zav)(a2:Bool)(r:(Tout Zae))(hf:Zel a0 a1 a2=some r):ZfT Tryz.prog 463 [(100000,.box (Zan.c a0))] [.one (.ptr 100000 0),.agg (Zav.c a1),.one (.lit (.bool a2))] (oc (fun x=>.agg (Zae.c x)) r):=by
 refine ZfT.of Tryz.func463 rfl rfl rfl rfl fun S0 w0=>?_;unfold Zel at hf;obtain⟨x1,q1,hf⟩:=Zaf hf;cases x1 with
 |ret x1v x1g=>
  dsimp only at hf;obtain rfl:=oi hf;exact Zcc Zak 4 [rz,⟨[],[],[],[],[(3,[(18,cL 5 Zab.c Zab.d []),(19,cL 7 Zac.c Zac.d [])])],[],[(4,⟨[(100000,100000)],[],[(100000,.box (Zan.c x1g))],.agg (Zae.c x1v)⟩)]⟩] [] ⟨[],[],[],[],[],[6],[6,100000],[]⟩ [100000] (.c (ZbE _ _ _ q1) .n) (by kernel_rfl)
 |_=>
  dsimp only at hf;obtain rfl:=oi hf;exact ZaG Zak 3 _ _ [rz] [] (⟨[],[],[],[],[(3,[(18,cL 5 Zab.c Zab.d []),(19,cL 7 Zac.c Zac.d [])])],[],[]⟩) 4 ⟨[(100000,100000)],pvOf q1⟩ (.c (ZbE _ _ _ q1) .n) (by kernel_rfl)
def Zjy(a0 a1:Int):Option Zav:=some (Zav.mk (6:Int) a0 a1)
theorem Zph(a0 a1:Int)(r:Zav)(hf:Zjy a0 a1=some r):Zaz Tryz.prog 284 [.one (.lit (.int .i64 a0)),.one (.lit (.int .i64 a1))] (.agg (Zav.c r)):=by
 refine Zaz.of Tryz.func284 rfl rfl rfl rfl fun S0 w0=>?_;unfold Zjy at hf;obtain rfl:=oi hf;exact Zai Zak 4 [rz,rz] [] [] [] [] .n (by kernel_rfl) rfl
def Zfn(a1:Int):Nat→Int→Int→(List Zaa)→Zan→Option (Tout (List Zaa))|0,_,_,_,_=>none|fu+1,v15,v16,w5,b100000=>bif(decide (v16<v15))then(Zjy a1 v16).bind fun x3=>(Zel b100000 x3 false).bind fun x4=>(match x4 with | .ret x4v x4g=>need ((w5++([x4v.fPeer]:List Zaa)).length * 80≤140737488355328∧(w5++([x4v.fPeer]:List Zaa)).length≤maxLen)<|Zfn a1 fu v15 (Zaw v16 (1:Int)) (w5++([x4v.fPeer]:List Zaa)) x4g | .pan x4o=>some (Tout.pan x4o) | .bad x4s=>some (Tout.bad x4s))else some (Tout.ret w5 b100000)
theorem ZqS(S0:Nat→Prop)(w0:ZaW)(a1:Int):∀(fu:Nat)(v15 v16:Int)(w5:List Zaa)(b100000:Zan)(r:(Tout (List Zaa))),Zfn a1 fu v15 v16 w5 b100000=some r→Good Tryz.prog 33 S0 w0 (bodyPost Tryz.prog Tryz.f217 (ZpG S0 w0 (oc (fun x=>.one (cL 10 Zaa.c Zaa.d x)) r))) (at_ [1,1,0,1,0] (Zbl Tryz.f217)) ⟨[(0,.one (.ifc 112 (.ptr 100000 0))),(1,.one (.lit (.int .i64 a1))),(5,.one (.osl 5 w5.length)),(15,.one (.lit (.int .i64 v15))),(16,.one (.lit (.int .i64 v16)))],[(5,.rows 44 10 w5.length (Zao Zaa.c Zaa.d w5)),(100000,.box [cLn 13 Zae.c Zae.d b100000.fgot])]⟩:=by
 intro fu;induction fu with
 |zero=>
  intro v15 v16 w5 b100000 r hf;simp[Zfn]at hf
 |succ fu ih=>
  intro v15 v16 w5 b100000 r hf;unfold Zfn at hf;rcases Zah hf with⟨h3,hf⟩|⟨h3,hf⟩
  ·obtain⟨x3,q4,hf⟩:=Zaf hf;have O1:Obl _:=(.c h3 (.c (Zph _ _ _ q4) (.c Zup .n)));obtain⟨x4,q5,hf⟩:=Zaf hf;cases x4 with
   |ret x4v x4g=>
    dsimp only at hf;obtain⟨o6,hf⟩:=Zar hf;exact ZaJ Zak ZpG.ends 14 [rz,rz,⟨[(4,aG (Zav.c x3)),(8,.id 463),(11,.c ((w5++([x4v.fPeer]:List Zaa)).length) (Zao Zaa.c Zaa.d (w5++([x4v.fPeer]:List Zaa))))],[],[],[],[],[(10,(([x4v.fPeer]:List Zaa).length,Zao Zaa.c Zaa.d ([x4v.fPeer]:List Zaa)))],[(8,⟨[(100000,100000)],[],[(100000,.box (Zan.c x4g))],.agg (Zae.c x4v)⟩)]⟩,rz] [true] ⟨[],[],[],[],[],[0,1,5,15,16],[30,100000],[(30,5)]⟩ (O1.app (.c (ZbY _ _ _ _ q5) (.c Zik (.c (show ([x4v.fPeer]:List Zaa).length=1∧∀i j,i<1→j<10→Zao Zaa.c Zaa.d ([x4v.fPeer]:List Zaa) i j=(([x4v.fPeer]:List Zaa).flatMap Zaa.c).getD (i * 10+j) .junk from⟨rfl,fun i j hi hj=>ZaI (sz:=10) (e:=Zaa.c) (d:=Zaa.d) (fun _=>rfl) ([x4v.fPeer]:List Zaa) i j hi hj⟩) (.c (ZbV (sz:=10) (e:=Zaa.c) (d:=Zaa.d) w5 ([x4v.fPeer]:List Zaa)) (.c o6.1 (.c o6.2 .n))))))) (by kernel_rfl) (ih v15 (Zaw v16 (1:Int)) (w5++([x4v.fPeer]:List Zaa)) x4g r hf)
   |_=>
    dsimp only at hf;obtain rfl:=oi hf;exact ZaG Zak 10 _ _ [rz,rz] [true] (rA [(4,aG (Zav.c x3)),(8,.id 463)]) 8 ⟨[(100000,100000)],pvOf q5⟩ (O1.app (.c (ZbY _ _ _ _ q5) (.c Zik .n))) (by kernel_rfl)
  ·obtain rfl:=oi hf;exact Zcc Zak 8 [rz,rz] [false] ⟨[5],[],[],[],[],[4],[100000],[]⟩ [100000] (.c h3 .n) (by kernel_rfl)
def ZkQ(a0:Zan)(a1:Int):Option (Tout (List Zaa)):=(Zjz a1).bind fun x1=>(Zel a0 x1 false).bind fun x2=>(match x2 with | .ret x2v x2g=>Zfn a1 (((if(0:Int)>x2v.fN then(0:Int)else x2v.fN)-(0:Int)).toNat+2) (if(0:Int)>x2v.fN then(0:Int)else x2v.fN) (0:Int) ([]) x2g | .pan x2o=>some (Tout.pan x2o) | .bad x2s=>some (Tout.bad x2s))
theorem Zok(a0:Zan)(a1:Int)(r:(Tout (List Zaa)))(hf:ZkQ a0 a1=some r):ZfT Tryz.prog 217 [(100000,.box (Zan.c a0))] [.one (.ifc 112 (.ptr 100000 0)),.one (.lit (.int .i64 a1))] (oc (fun x=>.one (cL 10 Zaa.c Zaa.d x)) r):=by
 refine ZfT.of Tryz.func217 rfl rfl rfl rfl fun S0 w0=>?_;unfold ZkQ at hf;obtain⟨x1,q1,hf⟩:=Zaf hf;have O2:Obl _:=(.c (Zpi _ _ q1) (.c Zup .n));obtain⟨x2,q2,hf⟩:=Zaf hf;cases x2 with
 |ret x2v x2g=>
  dsimp only at hf;exact ZaJ Zak ZpG.ends 8 [rz,rz,rH [(2,aG (Zav.c x1)),(6,.id 463)] [(6,⟨[(100000,100000)],[],[(100000,.box (Zan.c x2g))],.agg (Zae.c x2v)⟩)]] [] ⟨[],[],[],[],[(5,5,44,10,Zao Zaa.c Zaa.d [])],[0,1,5,15,16],[5,100000],[]⟩ (O2.app (.c (ZbY _ _ _ _ q2) (.c Zik .n))) (by kernel_rfl) (ZqS S0 w0 a1 (((if(0:Int)>x2v.fN then(0:Int)else x2v.fN)-(0:Int)).toNat+2) (if(0:Int)>x2v.fN then(0:Int)else x2v.fN) (0:Int) ([]) x2g r hf)
 |_=>
  dsimp only at hf;obtain rfl:=oi hf;exact ZaG Zak 6 _ _ [rz,rz] [] (rA [(2,aG (Zav.c x1)),(6,.id 463)]) 6 ⟨[(100000,100000)],pvOf q2⟩ (O2.app (.c (ZbY _ _ _ _ q2) (.c Zik .n))) (by kernel_rfl)
def ZjL(a0:Zaa)(c0:Zag):Option Bool:=some (decide (a0.fEnd=c0))
theorem ZqU(a0:Zaa)(c0:Zag)(r:Bool)(hf:ZjL a0 c0=some r):Zaz Tryz.prog 286 [.agg (Zaa.c a0),.one (.rp false 4 (fun j=>(Zag.c c0:List C).getD (0+j) .junk))] (.one (.lit (.bool r))):=by
 refine Zaz.of Tryz.func286 rfl rfl rfl rfl fun S0 w0=>?_;unfold ZjL at hf;obtain rfl:=oi hf;exact Zai Zak 4 [rz,rA [(3,aB (decide (a0.fEnd=c0)))]] [] [] [] [] (.c (ZhW a0.fEnd c0 (.tmp 5) (.tmp 6)) .n) (by kernel_rfl) rfl
def ZaN(a0:List Zaa)(a1_0:Zag):Nat→Int→Int→Option Int|0,_,_=>none|fu+1,v7,v8=>bif(decide (v8<v7))then need (0≤v8∧v8<((a0.length:Nat):Int))<|(ZjL (a0.getD v8.toNat Zaa.d) a1_0).bind fun x1=>bif x1 then some v8 else ZaN a0 a1_0 fu v7 (Zaw v8 (1:Int))else some (-1:Int)
theorem ZgG(S0:Nat→Prop)(w0:ZaW)(a0:List Zaa)(a1_0:Zag):∀(fu:Nat)(v7 v8 r:Int),ZaN a0 a1_0 fu v7 v8=some r→Good Tryz.prog 19 S0 w0 (bodyPost Tryz.prog Tryz.f285 (Post S0 w0 (.one (.lit (.int .i64 r))))) (at_ [1,0,1,0] (Zbl Tryz.f285)) ⟨[(0,.one (cL 10 Zaa.c Zaa.d a0)),(1,.one (.clo (.func 286) 0 1 (fun i=>([]:List C).getD i .junk) (fun i=>([.rp false 4 (fun j=>(Zag.c a1_0:List C).getD (0+j) .junk)]:List C).getD i .junk))),(7,.one (.lit (.int .i64 v7))),(8,.one (.lit (.int .i64 v8)))],[]⟩:=by
 intro fu;induction fu with
 |zero=>
  intro v7 v8 r hf;simp[ZaN]at hf
 |succ fu ih=>
  intro v7 v8 r hf;unfold ZaN at hf;rcases Zah hf with⟨h1,hf⟩|⟨h1,hf⟩
  ·obtain⟨o2,hf⟩:=Zar hf;obtain⟨x1,q3,hf⟩:=Zaf hf;have O1:Obl _:=(.c h1 (.c o2 (.c (ZqU _ _ _ q3) .n)));rcases Zah hf with⟨h4,hf⟩|⟨h4,hf⟩
   ·obtain rfl:=oi hf;exact Zai Zak 15 [rz,rz,rA [(5,aB x1)],rz] [true,true] [] [] [] (O1.app (.c h4 .n)) (by kernel_rfl) rfl
   ·exact ZaJ Zak Post.ends 17 [rz,rz,rA [(5,aB x1)],rz] [true,false] ⟨[],[],[],[],[],[0,1,7,8],[],[]⟩ (O1.app (.c h4 .n)) (by kernel_rfl) (ih v7 (Zaw v8 (1:Int)) r hf)
  ·obtain rfl:=oi hf;exact Zai Zak 8 [rz,rz] [false] [] [] [] (.c h1 .n) (by kernel_rfl) rfl
def Zcb(a0:List Zaa)(a1_0:Zag):Option Int:=ZaN a0 a1_0 ((((a0.length:Nat):Int)-(0:Int)).toNat+2) ((a0.length:Nat):Int) (0:Int)
theorem Zhg(a0:List Zaa)(a1_0:Zag)(r:Int)(hf:Zcb a0 a1_0=some r):Zaz Tryz.prog 285 [.one (cL 10 Zaa.c Zaa.d a0),.one (.clo (.func 286) 0 1 (fun i=>([]:List C).getD i .junk) (fun i=>([.rp false 4 (fun j=>(Zag.c a1_0:List C).getD (0+j) .junk)]:List C).getD i .junk))] (.one (.lit (.int .i64 r))):=by
 refine Zaz.of Tryz.func285 rfl rfl rfl rfl fun S0 w0=>?_;unfold Zcb at hf;exact ZaJ Zak Post.ends 6 [rz,rz] [] ⟨[],[],[],[],[],[0,1,7,8],[],[]⟩ .n (by kernel_rfl) (ZgG S0 w0 a0 a1_0 ((((a0.length:Nat):Int)-(0:Int)).toNat+2) ((a0.length:Nat):Int) (0:Int) r hf)
def ZjV(a0:List Zaa)(a1:Zag):Option Int:=(Zcb a0 a1).bind fun x1=>some x1
theorem ZsO(a0:List Zaa)(a1:Zag)(r:Int)(hf:ZjV a0 a1=some r):Zaz Tryz.prog 219 [.one (cL 10 Zaa.c Zaa.d a0),.agg (Zag.c a1)] (.one (.lit (.int .i64 r))):=by
 refine Zaz.of Tryz.func219 rfl rfl rfl rfl fun S0 w0=>?_;unfold ZjV at hf;obtain⟨x1,q1,hf⟩:=Zaf hf;obtain rfl:=oi hf;exact Zai Zak 4 [rz,⟨[(2,aI x1)],[],[(1,[3])],[],[],[],[]⟩] [] [] [] [] (.c (Zhg _ _ _ q1) .n) (by kernel_rfl) rfl
def Zdl(a0:Zax)(a1:Zan):Option (Tout ((List Zaa)×Int)):=(Zbd a0).bind fun x1=>(ZeT a1 x1 false).bind fun x2=>(match x2 with | .ret x2v x2g=>(ZdQ a0).bind fun x3=>(ZkQ x2g x3).bind fun x4=>(match x4 with | .ret x4v x4g=>(ZjV x4v a0.fx.fEnd).bind fun x5=>some (Tout.ret (x4v,x5) x4g) | .pan x4o=>some (Tout.pan x4o) | .bad x4s=>some (Tout.bad x4s)) | .pan x2o=>some (Tout.pan x2o) | .bad x2s=>some (Tout.bad x2s))
theorem ZaZ(a0:Zax)(a1:Zan)(r:(Tout ((List Zaa)×Int)))(hf:Zdl a0 a1=some r):ZfT Tryz.prog 137 [(100000,.box (Zan.c a1))] [.agg (Zax.c a0),.one (.ifc 112 (.ptr 100000 0))] (oc (fun x=>.tup [(false,(cLs 10 Zaa.c Zaa.d) x.1),(false,(cI .i64) x.2)]) r):=by
 refine ZfT.of Tryz.func137 rfl rfl rfl rfl fun S0 w0=>?_;unfold Zdl at hf;obtain⟨x1,q1,hf⟩:=Zaf hf;have O1:Obl _:=(.c (Zbi _ _ q1) (.c ZAC .n));obtain⟨x2,q2,hf⟩:=Zaf hf;cases x2 with
 |ret x2v x2g=>
  dsimp only at hf;obtain⟨x3,q3,hf⟩:=Zaf hf
  let R2:List RA:=[rz,rH [(2,aI x1),(6,.id 464)] [(6,⟨[(100000,100000)],[],[(100000,.box (Zan.c x2g))],.tup []⟩)]]
  have O3:Obl _:=(O1.app (.c (ZcQ _ _ _ _ q2) (.c ZjR (.c (ZgH _ _ q3) .n))));obtain⟨x4,q4,hf⟩:=Zaf hf;cases x4 with
  |ret x4v x4g=>
   dsimp only at hf;obtain⟨x5,q5,hf⟩:=Zaf hf;obtain rfl:=oi hf;exact Zcc Zak 8 (R2++[rH [(2,aI x3)] [(3,⟨[(100000,100000)],[],[(100000,.box (Zan.c x4g))],.one (cL 10 Zaa.c Zaa.d x4v)⟩)],rA [(5,aI x5)]]) [] ⟨[],[],[],[],[],[4,5],[100000],[]⟩ [100000] (O3.app (.c (Zok _ _ _ q4) (.c (ZsO _ _ _ q5) .n))) (by kernel_rfl)
  |_=>
   dsimp only at hf;obtain rfl:=oi hf;exact ZaG Zak 5 _ _ R2 [] (rA [(2,aI x3)]) 3 ⟨[(100000,100000)],pvOf q4⟩ (O3.app (.c (Zok _ _ _ q4) .n)) (by kernel_rfl)
 |_=>
  dsimp only at hf;obtain rfl:=oi hf;exact ZaG Zak 3 _ _ [rz] [] (rA [(2,aI x1),(6,.id 464)]) 6 ⟨[(100000,100000)],pvOf q2⟩ (O1.app (.c (ZcQ _ _ _ _ q2) (.c ZjR .n))) (by kernel_rfl)
def Zbb(a0:Zan)(a1:Int)(a2:Bool):Option (Tout Unit):=(Zcw a0 (ZaE.mk (3:Int) a1 (Zav.mk (0:Int) (0:Int) (0:Int)) (0:Int) (0:Int) (Zae.mk (0:Int) (Zaa.mk (Zag.mk (Zaj.mk false (0:Int) (0:Int)) (0:Int)) false (0:Int) (Zam.mk (0:Int) (0:Int)) (0:Int) (0:Int)) ([]:(List Zab)) ([]:(List Zac))) a2)).bind fun x1=>(match x1 with | .ret x1v x1g=>some (Tout.ret () x1g) | .pan x1o=>some (Tout.pan x1o) | .bad x1s=>some (Tout.bad x1s))
theorem ZaD(a0:Zan)(a1:Int)(a2:Bool)(r:(Tout Unit))(hf:Zbb a0 a1 a2=some r):ZfT Tryz.prog 462 [(100000,.box (Zan.c a0))] [.one (.ptr 100000 0),.one (.lit (.int .i64 a1)),.one (.lit (.bool a2))] (oc (fun x=>.tup []) r):=by
 refine ZfT.of Tryz.func462 rfl rfl rfl rfl fun S0 w0=>?_;unfold Zbb at hf;obtain⟨x1,q1,hf⟩:=Zaf hf;cases x1 with
 |ret x1v x1g=>
  dsimp only at hf;obtain rfl:=oi hf;exact Zcc Zak 1 [⟨[],[],[],[],[(3,[(18,cL 5 Zab.c Zab.d []),(19,cL 7 Zac.c Zac.d [])])],[],[(4,⟨[(100000,100000)],[],[(100000,.box (Zan.c x1g))],.agg (Zae.c x1v)⟩)]⟩] [] ⟨[],[],[],[],[],[],[100000],[]⟩ [100000] (.c (ZbE _ _ _ q1) .n) (by kernel_rfl)
 |_=>
  dsimp only at hf;obtain rfl:=oi hf;exact ZaG Zak 0 _ _ [] [] (⟨[],[],[],[],[(3,[(18,cL 5 Zab.c Zab.d []),(19,cL 7 Zac.c Zac.d [])])],[],[]⟩) 4 ⟨[(100000,100000)],pvOf q1⟩ (.c (ZbE _ _ _ q1) .n) (by kernel_rfl)
def ZbX(a0:List Zaa):Option (List Zaa):=need (0<a0.length)<|need ((([]:List Zaa)++a0).length * 80≤140737488355328∧(([]:List Zaa)++a0).length≤maxLen)<|some (([]:List Zaa)++a0)
theorem ZeU(a0 r:List Zaa)(hf:ZbX a0=some r):Zdn Tryz.prog 270 [] [.one (cL 10 Zaa.c Zaa.d a0)] [(99999,.rows 44 10 r.length (Zao Zaa.c Zaa.d r))] (.one (.osl 99999 r.length)):=by
 refine Zdn.of Tryz.func270 rfl rfl rfl rfl fun S0 w0=>?_;unfold ZbX at hf;obtain⟨o1,hf⟩:=Zar hf;obtain⟨o2,hf⟩:=Zar hf;obtain rfl:=oi hf;exact Zcd Zak 9 [rz,rz,rA [(0,.c ([]:List Zaa).length (Zao Zaa.c Zaa.d ([]:List Zaa))),(2,.c ((([]:List Zaa)++a0).length) (Zao Zaa.c Zaa.d (([]:List Zaa)++a0)))]] [false] ⟨[],[],[],[],[],[2],[7],[(7,99999)]⟩ (.c o1 (.c (show false=false from rfl) (.c (show ([]:List Zaa).length=0 from rfl) (.c (show ∀i j,i<0→j<10→Zao Zaa.c Zaa.d ([]:List Zaa) i j=(([]:List Zaa).flatMap Zaa.c).getD (i * 10+j) .junk from(fun i j hi hj=>ZaI (sz:=10) (e:=Zaa.c) (d:=Zaa.d) (fun _=>rfl) ([]:List Zaa) i j hi hj)) (.c (ZbV (sz:=10) (e:=Zaa.c) (d:=Zaa.d) ([]:List Zaa) a0) (.c o2.1 (.c o2.2 .n))))))) (by kernel_rfl)
theorem Zfu(x:Addr)(cap:Nat)(c:Nat→Nat→C):Zdn Tryz.prog 270 [] [.one (.lit (.slice (some x) 0 cap))] [(99999,.rows 44 10 0 c)] (.one (.osl 99999 0)):=by
 refine Zdn.of Tryz.func270 rfl rfl rfl rfl fun S0 w0=>?_;exact ZiC Zak 9 _ _ [⟨[],[],[],[],[],[],[]⟩,⟨[(1,.r (.one (.lit (.bool false))) [])],[],[],[],[],[],[]⟩,⟨[(0,.c 0 c),(2,.c 0 c)],[],[],[],[],[],[]⟩] [false] ⟨[],[],[],[],[],[2],[7],[(7,99999)]⟩
  [∀w,(do eqGuard .eql 54 (.tmp 3) (.const (.slice none 0 0)) (.slice (some x) 0 cap) (.slice none 0 0);binOp .eql 54 (.slice (some x) 0 cap) (.slice none 0 0):Sem Value).run Tryz.prog w=.ok (.bool false) w,false=false,0=0,∀i j,i<0→j<10→c i j=([]:List C).getD (i * 10+j) .junk,Ext 10 0 0 c (fun _ _=>.junk) 0 c,0 * 80≤140737488355328,0≤maxLen] (by kernel_rfl) ⟨fun w=>by
   have hg:(eqGuard .eql 54 (.tmp 3) (.const (.slice none 0 0)) (.slice (some x) 0 cap) (.slice none 0 0)).run Tryz.prog w=.ok () w:=by simp[eqGuard]
   rw[Sem.run_bind,hg,Result.andThen_ok];exact Go.run_eql_slice_nil w _ _ (some x) 0 cap Tryz.underlying54,rfl,rfl,fun i j h=>absurd h (Nat.not_lt_zero i),⟨rfl,fun _ _ h=>absurd h (Nat.not_lt_zero _),fun _ _ h=>absurd h (Nat.not_lt_zero _)⟩,by decide,by decide,trivial⟩
theorem Zft(cap:Nat)(c:Nat→Nat→C):Zdn Tryz.prog 270 [] [.one (.lit (.slice none 0 cap))] [(99999,.rows 44 10 0 c)] (.one (.osl 99999 0)):=by
 refine Zdn.of Tryz.func270 rfl rfl rfl rfl fun S0 w0=>?_;exact ZiC Zak 8 _ _ [⟨[],[],[],[],[],[],[]⟩,⟨[(1,.r (.one (.lit (.bool true))) [])],[],[],[],[],[],[]⟩,⟨[],[],[],[],[],[],[]⟩] [true] ⟨[],[],[],[],[(2,99999,44,10,c)],[2],[99999],[]⟩
  [∀w,(do eqGuard .eql 54 (.tmp 3) (.const (.slice none 0 0)) (.slice none 0 cap) (.slice none 0 0);binOp .eql 54 (.slice none 0 cap) (.slice none 0 0):Sem Value).run Tryz.prog w=.ok (.bool true) w,true=true] (by kernel_rfl) ⟨fun w=>by
   have hg:(eqGuard .eql 54 (.tmp 3) (.const (.slice none 0 0)) (.slice none 0 cap) (.slice none 0 0)).run Tryz.prog w=.ok () w:=by simp[eqGuard]
   rw[Sem.run_bind,hg,Result.andThen_ok];exact Go.run_eql_slice_nil w _ _ none 0 cap Tryz.underlying54,rfl,trivial⟩
def Zce(a0:List Zaa):Option (List Zaa):=need (a0.length * 80≤140737488355328∧a0.length≤maxLen)<|some a0
theorem Zfs(a0 r:List Zaa)(hf:Zce a0=some r):Zdn Tryz.prog 270 [] [.one (cL 10 Zaa.c Zaa.d a0)] [(99999,.rows 44 10 r.length (Zao Zaa.c Zaa.d r))] (.one (.osl 99999 r.length)):=by
 obtain⟨o1,hf⟩:=Zar hf;cases hf;refine ZpF ⟨_,Tryz.func270,rfl,rfl⟩ (fun h cap=>?_) (fun h x cap=>?_) (fun h=>?_)
 ·rw[h];exact Zft cap _
 ·rw[h];exact Zfu x cap _
 ·refine ZeU a0 a0 ?_;unfold ZbX;rw[ZoI h,ZoI (by simpa using o1)];simp
def Zbc(a0:List Zag):Nat→Int→Int→Zag→Option Int|0,_,_,_=>none|fu+1,v7,v8,b3=>bif(decide (v8<v7))then need (0≤v8∧v8<((a0.length:Nat):Int))<|bif(decide (b3=(a0.getD v8.toNat Zag.d)))then some v8 else Zbc a0 fu v7 (Zaw v8 (1:Int)) b3 else some (-1:Int)
theorem Zio(S0:Nat→Prop)(w0:ZaW)(a0:List Zag):∀(fu:Nat)(v7 v8:Int)(b3:Zag)(r:Int),Zbc a0 fu v7 v8 b3=some r→Good Tryz.prog 19 S0 w0 (bodyPost Tryz.prog Tryz.f342 (Post S0 w0 (.one (.lit (.int .i64 r))))) (at_ [1,0,1,0] (Zbl Tryz.f342)) ⟨[(0,.one (cL 4 Zag.c Zag.d a0)),(3,.one (.ptr 3 0)),(7,.one (.lit (.int .i64 v7))),(8,.one (.lit (.int .i64 v8)))],[(3,.box [.lit (.bool b3.fAddr.fV6),.lit (.int .u64 b3.fAddr.fHi),.lit (.int .u64 b3.fAddr.fLo),.lit (.int .i64 b3.fPort)])]⟩:=by
 intro fu;induction fu with
 |zero=>
  intro v7 v8 b3 r hf;simp[Zbc]at hf
 |succ fu ih=>
  intro v7 v8 b3 r hf;unfold Zbc at hf;rcases Zah hf with⟨h1,hf⟩|⟨h1,hf⟩
  ·obtain⟨o2,hf⟩:=Zar hf
   let R1:List RA:=[rz,rz,rA [(5,aB (decide (b3=(a0.getD v8.toNat Zag.d))))],rz]
   have O2:Obl _:=(.c h1 (.c o2 (.c (ZhW b3 (a0.getD v8.toNat Zag.d) (.tmp 11) (.tmp 15)) .n)));rcases Zah hf with⟨h3,hf⟩|⟨h3,hf⟩
   ·obtain rfl:=oi hf;exact Zai Zak 15 R1 [true,true] [] [] [] (O2.app (.c h3 .n)) (by kernel_rfl) rfl
   ·exact ZaJ Zak Post.ends 17 R1 [true,false] ⟨[],[],[],[],[],[0,3,7,8],[3],[]⟩ (O2.app (.c h3 .n)) (by kernel_rfl) (ih v7 (Zaw v8 (1:Int)) b3 r hf)
  ·obtain rfl:=oi hf;exact Zai Zak 8 [rz,rz] [false] [] [] [] (.c h1 .n) (by kernel_rfl) rfl
def Zdw(a0:List Zag)(a1:Zag):Option Int:=Zbc a0 ((((a0.length:Nat):Int)-(0:Int)).toNat+2) ((a0.length:Nat):Int) (0:Int) a1
theorem ZiU(a0:List Zag)(a1:Zag)(r:Int)(hf:Zdw a0 a1=some r):Zaz Tryz.prog 342 [.one (cL 4 Zag.c Zag.d a0),.agg (Zag.c a1)] (.one (.lit (.int .i64 r))):=by
 refine Zaz.of Tryz.func342 rfl rfl rfl rfl fun S0 w0=>?_;unfold Zdw at hf;exact ZaJ Zak Post.ends 6 [rz,rz] [] ⟨[],[],[],[],[],[0,3,7,8],[3],[]⟩ .n (by kernel_rfl) (Zio S0 w0 a0 ((((a0.length:Nat):Int)-(0:Int)).toNat+2) ((a0.length:Nat):Int) (0:Int) a1 r hf)
def ZbB(a0:List Zag)(a1:Zag):Option Bool:=(Zdw a0 a1).bind fun x1=>some (decide (x1≥(0:Int)))
theorem Zfo(a0:List Zag)(a1:Zag)(r:Bool)(hf:ZbB a0 a1=some r):Zaz Tryz.prog 290 [.one (cL 4 Zag.c Zag.d a0),.agg (Zag.c a1)] (.one (.lit (.bool r))):=by
 refine Zaz.of Tryz.func290 rfl rfl rfl rfl fun S0 w0=>?_;unfold ZbB at hf;obtain⟨x1,q1,hf⟩:=Zaf hf;obtain rfl:=oi hf;exact Zai Zak 4 [rz,rA [(2,aI x1)]] [] [] [] [] (.c (ZiU _ _ _ q1) .n) (by kernel_rfl) rfl
def Zhs(a0:Zaa)(c0:List Zag):Option Bool:=(ZbB c0 a0.fEnd).bind fun x1=>some x1
theorem Zmt(a0:Zaa)(c0:List Zag)(r:Bool)(hf:Zhs a0 c0=some r):Zaz Tryz.prog 289 [.agg (Zaa.c a0),.one (.rp false 1 (fun j=>([cL 4 Zag.c Zag.d c0]:List C).getD (0+j) .junk))] (.one (.lit (.bool r))):=by
 refine Zaz.of Tryz.func289 rfl rfl rfl rfl fun S0 w0=>?_;unfold Zhs at hf;obtain⟨x1,q1,hf⟩:=Zaf hf;obtain rfl:=oi hf;exact Zai Zak 4 [rz,rA [(3,aB x1)]] [] [] [] [] (.c (Zfo _ _ _ q1) .n) (by kernel_rfl) rfl
def ZaM(a0:List Zaa)(a1_0:List Zag):Nat→Int→Int→Option Int|0,_,_=>none|fu+1,v7,v8=>bif(decide (v8<v7))then need (0≤v8∧v8<((a0.length:Nat):Int))<|(Zhs (a0.getD v8.toNat Zaa.d) a1_0).bind fun x1=>bif x1 then some v8 else ZaM a0 a1_0 fu v7 (Zaw v8 (1:Int))else some (-1:Int)
theorem ZgF(S0:Nat→Prop)(w0:ZaW)(a0:List Zaa)(a1_0:List Zag):∀(fu:Nat)(v7 v8 r:Int),ZaM a0 a1_0 fu v7 v8=some r→Good Tryz.prog 19 S0 w0 (bodyPost Tryz.prog Tryz.f285 (Post S0 w0 (.one (.lit (.int .i64 r))))) (at_ [1,0,1,0] (Zbl Tryz.f285)) ⟨[(0,.one (cL 10 Zaa.c Zaa.d a0)),(1,.one (.clo (.func 289) 0 1 (fun i=>([]:List C).getD i .junk) (fun i=>([.rp false 1 (fun j=>([cL 4 Zag.c Zag.d a1_0]:List C).getD (0+j) .junk)]:List C).getD i .junk))),(7,.one (.lit (.int .i64 v7))),(8,.one (.lit (.int .i64 v8)))],[]⟩:=by
 intro fu;induction fu with
 |zero=>
  intro v7 v8 r hf;simp[ZaM]at hf
 |succ fu ih=>
  intro v7 v8 r hf;unfold ZaM at hf;rcases Zah hf with⟨h1,hf⟩|⟨h1,hf⟩
  ·obtain⟨o2,hf⟩:=Zar hf;obtain⟨x1,q3,hf⟩:=Zaf hf;have O1:Obl _:=(.c h1 (.c o2 (.c (Zmt _ _ _ q3) .n)));rcases Zah hf with⟨h4,hf⟩|⟨h4,hf⟩
   ·obtain rfl:=oi hf;exact Zai Zak 15 [rz,rz,rA [(5,aB x1)],rz] [true,true] [] [] [] (O1.app (.c h4 .n)) (by kernel_rfl) rfl
   ·exact ZaJ Zak Post.ends 17 [rz,rz,rA [(5,aB x1)],rz] [true,false] ⟨[],[],[],[],[],[0,1,7,8],[],[]⟩ (O1.app (.c h4 .n)) (by kernel_rfl) (ih v7 (Zaw v8 (1:Int)) r hf)
  ·obtain rfl:=oi hf;exact Zai Zak 8 [rz,rz] [false] [] [] [] (.c h1 .n) (by kernel_rfl) rfl
def Zbt(a0:List Zaa)(a1_0:List Zag):Option Int:=ZaM a0 a1_0 ((((a0.length:Nat):Int)-(0:Int)).toNat+2) ((a0.length:Nat):Int) (0:Int)
theorem Zhf(a0:List Zaa)(a1_0:List Zag)(r:Int)(hf:Zbt a0 a1_0=some r):Zaz Tryz.prog 285 [.one (cL 10 Zaa.c Zaa.d a0),.one (.clo (.func 289) 0 1 (fun i=>([]:List C).getD i .junk) (fun i=>([.rp false 1 (fun j=>([cL 4 Zag.c Zag.d a1_0]:List C).getD (0+j) .junk)]:List C).getD i .junk))] (.one (.lit (.int .i64 r))):=by
 refine Zaz.of Tryz.func285 rfl rfl rfl rfl fun S0 w0=>?_;unfold Zbt at hf;exact ZaJ Zak Post.ends 6 [rz,rz] [] ⟨[],[],[],[],[],[0,1,7,8],[],[]⟩ .n (by kernel_rfl) (ZgF S0 w0 a0 a1_0 ((((a0.length:Nat):Int)-(0:Int)).toNat+2) ((a0.length:Nat):Int) (0:Int) r hf)
end Go.Proofs.YtdjfoojllbfcgaaGreat
