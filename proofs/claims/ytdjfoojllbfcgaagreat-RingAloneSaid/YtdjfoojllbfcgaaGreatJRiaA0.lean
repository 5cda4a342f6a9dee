import Derived.Test.YtdjfoojllbfcgaaGreatJRiaT
namespace Go.Proofs.YtdjfoojllbfcgaaGreat
open Go.RowKit Go.Lib Go.Shelf
set_option linter.unusedVariables false
set_option maxRecDepth 100000
theorem ZrW : (Tryz.prog.fieldsOf 28).toList = [{ name := "V6", type := 4, offset := 0, embedded := false, tag := "", pkgPath := "", byteOffset := 0 }, { name := "Hi", type := 22, offset := 1, embedded := false, tag := "", pkgPath := "", byteOffset := 8 }, { name := "Lo", type := 22, offset := 2, embedded := false, tag := "", pkgPath := "", byteOffset := 16 }] := by kernel_rfl
theorem ZmN(d:Nat)(x y:Zai)(w:World):(Op.equalIn (d+2) 28 (.agg #[.bool x.fV6,.int .u64 x.fHi,.int .u64 x.fLo]) (.agg #[.bool y.fV6,.int .u64 y.fHi,.int .u64 y.fLo])).run Tryz.prog w=.ok (decide (x=y)) w:=by rw[run_equalIn_struct w (d+1) _ _ _ (by kernel_rfl) (by kernel_rfl)];simp only[ZrW,Op.eqFields];simp[go_sem];cases x;cases y;simp only[Zai.mk.injEq];(repeat' split)<;>simp_all
theorem Zlq(x y:Zai)(xo yo:Operand):∀w,(do eqGuard .eql 28 xo yo (.agg #[.bool x.fV6,.int .u64 x.fHi,.int .u64 x.fLo]) (.agg #[.bool y.fV6,.int .u64 y.fHi,.int .u64 y.fLo]);binOp .eql 28 (.agg #[.bool x.fV6,.int .u64 x.fHi,.int .u64 x.fLo]) (.agg #[.bool y.fV6,.int .u64 y.fHi,.int .u64 y.fLo]):Sem Value).run Tryz.prog w=.ok (.bool (decide (x=y))) w:=by
 intro w;have hg:(eqGuard .eql 28 xo yo (.agg #[.bool x.fV6,.int .u64 x.fHi,.int .u64 x.fLo]) (.agg #[.bool y.fV6,.int .u64 y.fHi,.int .u64 y.fLo])).run Tryz.prog w=.ok () w:=by simp[eqGuard,Sem.run_bind,Tryz.eqGuardType28]
 rw[Sem.run_bind,hg,Result.andThen_ok,run_eql_struct];exact congrArg (fun r:Result Bool=>r.andThen fun b w'=>Result.ok (Value.bool b) w') (ZmN 9998 x y w)
theorem ZsV : (Tryz.prog.fieldsOf 30).toList = [{ name := "Addr", type := 28, offset := 0, embedded := false, tag := "", pkgPath := "", byteOffset := 0 }, { name := "Port", type := 3, offset := 3, embedded := false, tag := "", pkgPath := "", byteOffset := 24 }] := by kernel_rfl
theorem ZnU(d:Nat)(x y:Zan)(w:World):(Op.equalIn (d+4) 30 (.agg #[.bool x.fAddr.fV6,.int .u64 x.fAddr.fHi,.int .u64 x.fAddr.fLo,.int .i64 x.fPort]) (.agg #[.bool y.fAddr.fV6,.int .u64 y.fAddr.fHi,.int .u64 y.fAddr.fLo,.int .i64 y.fPort])).run Tryz.prog w=.ok (decide (x=y)) w:=by rw[run_equalIn_struct w (d+3) _ _ _ (by kernel_rfl) (by kernel_rfl)];simp only[ZsV,Op.eqFields];simp[go_sem,ZmN];cases x;cases y;simp only[Zan.mk.injEq];(repeat' split)<;>simp_all
theorem ZiP(x y:Zan)(xo yo:Operand):∀w,(do eqGuard .eql 30 xo yo (.agg #[.bool x.fAddr.fV6,.int .u64 x.fAddr.fHi,.int .u64 x.fAddr.fLo,.int .i64 x.fPort]) (.agg #[.bool y.fAddr.fV6,.int .u64 y.fAddr.fHi,.int .u64 y.fAddr.fLo,.int .i64 y.fPort]);binOp .eql 30 (.agg #[.bool x.fAddr.fV6,.int .u64 x.fAddr.fHi,.int .u64 x.fAddr.fLo,.int .i64 x.fPort]) (.agg #[.bool y.fAddr.fV6,.int .u64 y.fAddr.fHi,.int .u64 y.fAddr.fLo,.int .i64 y.fPort]):Sem Value).run Tryz.prog w=.ok (.bool (decide (x=y))) w:=by
 intro w;have hg:(eqGuard .eql 30 xo yo (.agg #[.bool x.fAddr.fV6,.int .u64 x.fAddr.fHi,.int .u64 x.fAddr.fLo,.int .i64 x.fPort]) (.agg #[.bool y.fAddr.fV6,.int .u64 y.fAddr.fHi,.int .u64 y.fAddr.fLo,.int .i64 y.fPort])).run Tryz.prog w=.ok () w:=by simp[eqGuard,Sem.run_bind,Tryz.eqGuardType30]
 rw[Sem.run_bind,hg,Result.andThen_ok,run_eql_struct];exact congrArg (fun r:Result Bool=>r.andThen fun b w'=>Result.ok (Value.bool b) w') (ZnU 9996 x y w)
theorem ZsU : (Tryz.prog.fieldsOf 32).toList = [{ name := "Addr", type := 28, offset := 0, embedded := false, tag := "", pkgPath := "", byteOffset := 0 }, { name := "Bits", type := 3, offset := 3, embedded := false, tag := "", pkgPath := "", byteOffset := 24 }] := by kernel_rfl
theorem ZnT(d:Nat)(x y:Zag)(w:World):(Op.equalIn (d+4) 32 (.agg #[.bool x.fAddr.fV6,.int .u64 x.fAddr.fHi,.int .u64 x.fAddr.fLo,.int .i64 x.fBits]) (.agg #[.bool y.fAddr.fV6,.int .u64 y.fAddr.fHi,.int .u64 y.fAddr.fLo,.int .i64 y.fBits])).run Tryz.prog w=.ok (decide (x=y)) w:=by rw[run_equalIn_struct w (d+3) _ _ _ (by kernel_rfl) (by kernel_rfl)];simp only[ZsU,Op.eqFields];simp[go_sem,ZmN];cases x;cases y;simp only[Zag.mk.injEq];(repeat' split)<;>simp_all
theorem Zpq(x y:Zag)(xo yo:Operand):∀w,(do eqGuard .eql 32 xo yo (.agg #[.bool x.fAddr.fV6,.int .u64 x.fAddr.fHi,.int .u64 x.fAddr.fLo,.int .i64 x.fBits]) (.agg #[.bool y.fAddr.fV6,.int .u64 y.fAddr.fHi,.int .u64 y.fAddr.fLo,.int .i64 y.fBits]);binOp .eql 32 (.agg #[.bool x.fAddr.fV6,.int .u64 x.fAddr.fHi,.int .u64 x.fAddr.fLo,.int .i64 x.fBits]) (.agg #[.bool y.fAddr.fV6,.int .u64 y.fAddr.fHi,.int .u64 y.fAddr.fLo,.int .i64 y.fBits]):Sem Value).run Tryz.prog w=.ok (.bool (decide (x=y))) w:=by
 intro w;have hg:(eqGuard .eql 32 xo yo (.agg #[.bool x.fAddr.fV6,.int .u64 x.fAddr.fHi,.int .u64 x.fAddr.fLo,.int .i64 x.fBits]) (.agg #[.bool y.fAddr.fV6,.int .u64 y.fAddr.fHi,.int .u64 y.fAddr.fLo,.int .i64 y.fBits])).run Tryz.prog w=.ok () w:=by simp[eqGuard,Sem.run_bind,Tryz.eqGuardType32]
 rw[Sem.run_bind,hg,Result.andThen_ok,run_eql_struct];exact congrArg (fun r:Result Bool=>r.andThen fun b w'=>Result.ok (Value.bool b) w') (ZnT 9996 x y w)
theorem Zsn(x y:Zag)(xo yo:Operand):∀w,(do eqGuard .neq 32 xo yo (.agg #[.bool x.fAddr.fV6,.int .u64 x.fAddr.fHi,.int .u64 x.fAddr.fLo,.int .i64 x.fBits]) (.agg #[.bool y.fAddr.fV6,.int .u64 y.fAddr.fHi,.int .u64 y.fAddr.fLo,.int .i64 y.fBits]);binOp .neq 32 (.agg #[.bool x.fAddr.fV6,.int .u64 x.fAddr.fHi,.int .u64 x.fAddr.fLo,.int .i64 x.fBits]) (.agg #[.bool y.fAddr.fV6,.int .u64 y.fAddr.fHi,.int .u64 y.fAddr.fLo,.int .i64 y.fBits]):Sem Value).run Tryz.prog w=.ok (.bool (!decide (x=y))) w:=by
 intro w;have hg:(eqGuard .neq 32 xo yo (.agg #[.bool x.fAddr.fV6,.int .u64 x.fAddr.fHi,.int .u64 x.fAddr.fLo,.int .i64 x.fBits]) (.agg #[.bool y.fAddr.fV6,.int .u64 y.fAddr.fHi,.int .u64 y.fAddr.fLo,.int .i64 y.fBits])).run Tryz.prog w=.ok () w:=by simp[eqGuard,Sem.run_bind,Tryz.eqGuardType32]
 rw[Sem.run_bind,hg,Result.andThen_ok,run_neq_struct];exact congrArg (fun r:Result Bool=>r.andThen fun b w'=>Result.ok (Value.bool (!b)) w') (ZnT 9996 x y w)
theorem Zrq : (Tryz.prog.fieldsOf 42).toList = [{ name := "Points", type := 3, offset := 0, embedded := false, tag := "", pkgPath := "", byteOffset := 0 }, { name := "At", type := 3, offset := 1, embedded := false, tag := "", pkgPath := "", byteOffset := 8 }] := by kernel_rfl
theorem Zuh(d:Nat)(x y:ZaD)(w:World):(Op.equalIn (d+2) 42 (.agg #[.int .i64 x.fPoints,.int .i64 x.fAt]) (.agg #[.int .i64 y.fPoints,.int .i64 y.fAt])).run Tryz.prog w=.ok (decide (x=y)) w:=by rw[run_equalIn_struct w (d+1) _ _ _ (by kernel_rfl) (by kernel_rfl)];simp only[Zrq,Op.eqFields];simp[go_sem];cases x;cases y;simp only[ZaD.mk.injEq];(repeat' split)<;>simp_all
theorem ZrV : (Tryz.prog.fieldsOf 44).toList = [{ name := "End", type := 30, offset := 0, embedded := false, tag := "", pkgPath := "", byteOffset := 0 }, { name := "In", type := 4, offset := 4, embedded := false, tag := "", pkgPath := "", byteOffset := 32 }, { name := "Since", type := 3, offset := 5, embedded := false, tag := "", pkgPath := "", byteOffset := 40 }, { name := "Score", type := 42, offset := 6, embedded := false, tag := "", pkgPath := "", byteOffset := 48 }, { name := "Ping", type := 3, offset := 8, embedded := false, tag := "", pkgPath := "", byteOffset := 64 }, { name := "Work", type := 3, offset := 9, embedded := false, tag := "", pkgPath := "", byteOffset := 72 }] := by kernel_rfl
theorem ZvX(d:Nat)(x y:Zab)(w:World):(Op.equalIn (d+6) 44 (.agg #[.bool x.fEnd.fAddr.fV6,.int .u64 x.fEnd.fAddr.fHi,.int .u64 x.fEnd.fAddr.fLo,.int .i64 x.fEnd.fPort,.bool x.fIn,.int .i64 x.fSince,.int .i64 x.fScore.fPoints,.int .i64 x.fScore.fAt,.int .i64 x.fPing,.int .i64 x.fWork]) (.agg #[.bool y.fEnd.fAddr.fV6,.int .u64 y.fEnd.fAddr.fHi,.int .u64 y.fEnd.fAddr.fLo,.int .i64 y.fEnd.fPort,.bool y.fIn,.int .i64 y.fSince,.int .i64 y.fScore.fPoints,.int .i64 y.fScore.fAt,.int .i64 y.fPing,.int .i64 y.fWork])).run Tryz.prog w=.ok (decide (x=y)) w:=by rw[run_equalIn_struct w (d+5) _ _ _ (by kernel_rfl) (by kernel_rfl)];simp only[ZrV,Op.eqFields];simp[go_sem,ZnU,Zuh];cases x;cases y;simp only[Zab.mk.injEq];(repeat' split)<;>simp_all
theorem Zry(x y:Zab)(xo yo:Operand):∀w,(do eqGuard .neq 44 xo yo (.agg #[.bool x.fEnd.fAddr.fV6,.int .u64 x.fEnd.fAddr.fHi,.int .u64 x.fEnd.fAddr.fLo,.int .i64 x.fEnd.fPort,.bool x.fIn,.int .i64 x.fSince,.int .i64 x.fScore.fPoints,.int .i64 x.fScore.fAt,.int .i64 x.fPing,.int .i64 x.fWork]) (.agg #[.bool y.fEnd.fAddr.fV6,.int .u64 y.fEnd.fAddr.fHi,.int .u64 y.fEnd.fAddr.fLo,.int .i64 y.fEnd.fPort,.bool y.fIn,.int .i64 y.fSince,.int .i64 y.fScore.fPoints,.int .i64 y.fScore.fAt,.int .i64 y.fPing,.int .i64 y.fWork]);binOp .neq 44 (.agg #[.bool x.fEnd.fAddr.fV6,.int .u64 x.fEnd.fAddr.fHi,.int .u64 x.fEnd.fAddr.fLo,.int .i64 x.fEnd.fPort,.bool x.fIn,.int .i64 x.fSince,.int .i64 x.fScore.fPoints,.int .i64 x.fScore.fAt,.int .i64 x.fPing,.int .i64 x.fWork]) (.agg #[.bool y.fEnd.fAddr.fV6,.int .u64 y.fEnd.fAddr.fHi,.int .u64 y.fEnd.fAddr.fLo,.int .i64 y.fEnd.fPort,.bool y.fIn,.int .i64 y.fSince,.int .i64 y.fScore.fPoints,.int .i64 y.fScore.fAt,.int .i64 y.fPing,.int .i64 y.fWork]):Sem Value).run Tryz.prog w=.ok (.bool (!decide (x=y))) w:=by
 intro w;have hg:(eqGuard .neq 44 xo yo (.agg #[.bool x.fEnd.fAddr.fV6,.int .u64 x.fEnd.fAddr.fHi,.int .u64 x.fEnd.fAddr.fLo,.int .i64 x.fEnd.fPort,.bool x.fIn,.int .i64 x.fSince,.int .i64 x.fScore.fPoints,.int .i64 x.fScore.fAt,.int .i64 x.fPing,.int .i64 x.fWork]) (.agg #[.bool y.fEnd.fAddr.fV6,.int .u64 y.fEnd.fAddr.fHi,.int .u64 y.fEnd.fAddr.fLo,.int .i64 y.fEnd.fPort,.bool y.fIn,.int .i64 y.fSince,.int .i64 y.fScore.fPoints,.int .i64 y.fScore.fAt,.int .i64 y.fPing,.int .i64 y.fWork])).run Tryz.prog w=.ok () w:=by simp[eqGuard,Sem.run_bind,Tryz.eqGuardType44]
 rw[Sem.run_bind,hg,Result.andThen_ok,run_neq_struct];exact congrArg (fun r:Result Bool=>r.andThen fun b w'=>Result.ok (Value.bool (!b)) w') (ZvX 9994 x y w)
theorem Zrr : (Tryz.prog.fieldsOf 106).toList = [{ name := "End", type := 30, offset := 0, embedded := false, tag := "", pkgPath := "", byteOffset := 0 }, { name := "State", type := 3, offset := 4, embedded := false, tag := "", pkgPath := "", byteOffset := 32 }, { name := "Fails", type := 3, offset := 5, embedded := false, tag := "", pkgPath := "", byteOffset := 40 }, { name := "Next", type := 3, offset := 6, embedded := false, tag := "", pkgPath := "", byteOffset := 48 }] := by kernel_rfl
theorem Zui(d:Nat)(x y:Zaa)(w:World):(Op.equalIn (d+6) 106 (.agg #[.bool x.fEnd.fAddr.fV6,.int .u64 x.fEnd.fAddr.fHi,.int .u64 x.fEnd.fAddr.fLo,.int .i64 x.fEnd.fPort,.int .i64 x.fState,.int .i64 x.fFails,.int .i64 x.fNext]) (.agg #[.bool y.fEnd.fAddr.fV6,.int .u64 y.fEnd.fAddr.fHi,.int .u64 y.fEnd.fAddr.fLo,.int .i64 y.fEnd.fPort,.int .i64 y.fState,.int .i64 y.fFails,.int .i64 y.fNext])).run Tryz.prog w=.ok (decide (x=y)) w:=by rw[run_equalIn_struct w (d+5) _ _ _ (by kernel_rfl) (by kernel_rfl)];simp only[Zrr,Op.eqFields];simp[go_sem,ZnU];cases x;cases y;simp only[Zaa.mk.injEq];(repeat' split)<;>simp_all
theorem Zvi(x y:Zaa)(xo yo:Operand):∀w,(do eqGuard .neq 106 xo yo (.agg #[.bool x.fEnd.fAddr.fV6,.int .u64 x.fEnd.fAddr.fHi,.int .u64 x.fEnd.fAddr.fLo,.int .i64 x.fEnd.fPort,.int .i64 x.fState,.int .i64 x.fFails,.int .i64 x.fNext]) (.agg #[.bool y.fEnd.fAddr.fV6,.int .u64 y.fEnd.fAddr.fHi,.int .u64 y.fEnd.fAddr.fLo,.int .i64 y.fEnd.fPort,.int .i64 y.fState,.int .i64 y.fFails,.int .i64 y.fNext]);binOp .neq 106 (.agg #[.bool x.fEnd.fAddr.fV6,.int .u64 x.fEnd.fAddr.fHi,.int .u64 x.fEnd.fAddr.fLo,.int .i64 x.fEnd.fPort,.int .i64 x.fState,.int .i64 x.fFails,.int .i64 x.fNext]) (.agg #[.bool y.fEnd.fAddr.fV6,.int .u64 y.fEnd.fAddr.fHi,.int .u64 y.fEnd.fAddr.fLo,.int .i64 y.fEnd.fPort,.int .i64 y.fState,.int .i64 y.fFails,.int .i64 y.fNext]):Sem Value).run Tryz.prog w=.ok (.bool (!decide (x=y))) w:=by
 intro w;have hg:(eqGuard .neq 106 xo yo (.agg #[.bool x.fEnd.fAddr.fV6,.int .u64 x.fEnd.fAddr.fHi,.int .u64 x.fEnd.fAddr.fLo,.int .i64 x.fEnd.fPort,.int .i64 x.fState,.int .i64 x.fFails,.int .i64 x.fNext]) (.agg #[.bool y.fEnd.fAddr.fV6,.int .u64 y.fEnd.fAddr.fHi,.int .u64 y.fEnd.fAddr.fLo,.int .i64 y.fEnd.fPort,.int .i64 y.fState,.int .i64 y.fFails,.int .i64 y.fNext])).run Tryz.prog w=.ok () w:=by simp[eqGuard,Sem.run_bind,Tryz.eqGuardType106]
 rw[Sem.run_bind,hg,Result.andThen_ok,run_neq_struct];exact congrArg (fun r:Result Bool=>r.andThen fun b w'=>Result.ok (Value.bool (!b)) w') (Zui 9994 x y w)
theorem ZsW : (Tryz.prog.fieldsOf 146).toList = [{ name := "Net", type := 32, offset := 0, embedded := false, tag := "", pkgPath := "", byteOffset := 0 }, { name := "Until", type := 3, offset := 4, embedded := false, tag := "", pkgPath := "", byteOffset := 32 }] := by kernel_rfl
theorem ZwO(d:Nat)(x y:Zaf)(w:World):(Op.equalIn (d+6) 146 (.agg #[.bool x.fNet.fAddr.fV6,.int .u64 x.fNet.fAddr.fHi,.int .u64 x.fNet.fAddr.fLo,.int .i64 x.fNet.fBits,.int .i64 x.fUntil]) (.agg #[.bool y.fNet.fAddr.fV6,.int .u64 y.fNet.fAddr.fHi,.int .u64 y.fNet.fAddr.fLo,.int .i64 y.fNet.fBits,.int .i64 y.fUntil])).run Tryz.prog w=.ok (decide (x=y)) w:=by rw[run_equalIn_struct w (d+5) _ _ _ (by kernel_rfl) (by kernel_rfl)];simp only[ZsW,Op.eqFields];simp[go_sem,ZnT];cases x;cases y;simp only[Zaf.mk.injEq];(repeat' split)<;>simp_all
theorem Zyr(x y:Zaf)(xo yo:Operand):∀w,(do eqGuard .neq 146 xo yo (.agg #[.bool x.fNet.fAddr.fV6,.int .u64 x.fNet.fAddr.fHi,.int .u64 x.fNet.fAddr.fLo,.int .i64 x.fNet.fBits,.int .i64 x.fUntil]) (.agg #[.bool y.fNet.fAddr.fV6,.int .u64 y.fNet.fAddr.fHi,.int .u64 y.fNet.fAddr.fLo,.int .i64 y.fNet.fBits,.int .i64 y.fUntil]);binOp .neq 146 (.agg #[.bool x.fNet.fAddr.fV6,.int .u64 x.fNet.fAddr.fHi,.int .u64 x.fNet.fAddr.fLo,.int .i64 x.fNet.fBits,.int .i64 x.fUntil]) (.agg #[.bool y.fNet.fAddr.fV6,.int .u64 y.fNet.fAddr.fHi,.int .u64 y.fNet.fAddr.fLo,.int .i64 y.fNet.fBits,.int .i64 y.fUntil]):Sem Value).run Tryz.prog w=.ok (.bool (!decide (x=y))) w:=by
 intro w;have hg:(eqGuard .neq 146 xo yo (.agg #[.bool x.fNet.fAddr.fV6,.int .u64 x.fNet.fAddr.fHi,.int .u64 x.fNet.fAddr.fLo,.int .i64 x.fNet.fBits,.int .i64 x.fUntil]) (.agg #[.bool y.fNet.fAddr.fV6,.int .u64 y.fNet.fAddr.fHi,.int .u64 y.fNet.fAddr.fLo,.int .i64 y.fNet.fBits,.int .i64 y.fUntil])).run Tryz.prog w=.ok () w:=by simp[eqGuard,Sem.run_bind,Tryz.eqGuardType146]
 rw[Sem.run_bind,hg,Result.andThen_ok,run_neq_struct];exact congrArg (fun r:Result Bool=>r.andThen fun b w'=>Result.ok (Value.bool (!b)) w') (ZwO 9994 x y w)
def ZfY(a:Zas):Option Bool:=bif(decide ((a.fBans.length:Int)<=(20:Int)))then bif(decide ((a.fBook.length:Int)<=(20:Int)))then some (decide ((a.fPeers.length:Int)<=(20:Int)))else some false else some false
theorem ZkA(e:Zas)(r:Bool)(a:ZfY e=some r):Yp 17 [.agg (Zas.c e)] (Yk r):=by
 refine Yw Tryz.func17 fun S0 w0=>?_;unfold ZfY at a;obtain⟨b,a⟩|⟨b,a⟩:=Zaj a
 .obtain⟨d,a⟩|⟨d,a⟩:=Zaj a
  .apply Ya a 4 [rz,rB [(4,true),(10,true)]] [] (.c b (.c d .n))
  .apply Ya a 4 [rz,rB [(4,true),(10,false)]] [] (.c b (.c d .n))
 .apply Ya a 4 [rz,rB [(4,false)]] [] (.c b .n)
def Zbm(a b c:Int):Option Bool:=bif(decide (a>=b))then some (decide (a<=c))else some false
theorem ZaY(d e f:Int)(r:Bool)(a:Zbm d e f=some r):Yp 45 [Yj d,Yj e,Yj f] (Yk r):=by
 refine Yw Tryz.func45 fun S0 w0=>?_;unfold Zbm at a;obtain⟨b,a⟩|⟨b,a⟩:=Zaj a
 .apply Ya a 4 [rz,rB [(3,true)]] [] (.c b .n)
 .apply Ya a 4 [rz,rB [(3,false)]] [] (.c b .n)
def Zct(b:Bool)(a:Zau)(c:Bool):Option Bool:=(Zbm a.fHalf (1:Int) (1073741824:Int)).bind fun d=>bif d then(Zbm a.fLimit (1:Int) (10000:Int)).bind fun e=>bif e then(Zbm a.fBanFor (1:Int) (1073741824:Int)).bind fun f=>bif f then(Zbm a.fBase (1:Int) (1073741824:Int)).bind fun g=>bif g then(Zbm a.fCap a.fBase (1073741824:Int)).bind fun h=>bif h then(Zbm a.fJitter (0:Int) (1073741824:Int)).bind fun i=>bif b then bif c then bif i then some (decide (a.fSecret<=(9223372036854775807:Int)))else some false else some false else some false else bif b then bif c then some false else some false else some false else bif b then bif c then some false else some false else some false else bif b then bif c then some false else some false else some false else bif b then bif c then some false else some false else some false else bif b then bif c then some false else some false else some false
theorem ZeP(S0:Nat->Prop)(w0:ZaW)(I:Bool)(b:Zau)(J r:Bool)(a:Zct I b J=some r):Ys 93 S0 w0 Tryz.f11 (Yk r) [1,1,1] ⟨[(1,.one (.ptr 1 0)),(3,(Yk I)),(4,(Yk J))],[(1,.box [.lit (.int .i64 b.fMaxIn),.lit (.int .i64 b.fMaxOut),.lit (.int .i64 b.fShards),.lit (.int .i64 b.fMaxBans),.lit (.int .i64 b.fMaxBook),.lit (.int .u64 b.fSecret),.lit (.int .i64 b.fQuota.fGroup),.lit (.int .i64 b.fQuota.fPing),.lit (.int .i64 b.fQuota.fWork),.lit (.int .i64 b.fQuota.fTime),.lit (.int .i64 b.fHalf),.lit (.int .i64 b.fLimit),.lit (.int .i64 b.fBanFor),.lit (.int .i64 b.fBase),.lit (.int .i64 b.fCap),.lit (.int .i64 b.fJitter)])]⟩:=by
 unfold Zct at a;obtain⟨d,A,a⟩:=Zac a;obtain⟨s,a⟩|⟨s,a⟩:=Zaj a
 .obtain⟨e,C,a⟩:=Zac a;have O1:Obl _:=(.c (ZaY _ _ _ _ A) (.c s (.c (ZaY _ _ _ _ C) .n)));obtain⟨aQ,a⟩|⟨aQ,a⟩:=Zaj a
  .obtain⟨j,D,a⟩:=Zac a;have O2:Obl _:=(O1.app (.c aQ (.c (ZaY _ _ _ _ D) .n)));obtain⟨f,a⟩|⟨f,a⟩:=Zaj a
   .obtain⟨t,E,a⟩:=Zac a;have O3:Obl _:=(O2.app (.c f (.c (ZaY _ _ _ _ E) .n)));obtain⟨g,a⟩|⟨g,a⟩:=Zaj a
    .obtain⟨B,F,a⟩:=Zac a;have O4:Obl _:=(O3.app (.c g (.c (ZaY _ _ _ _ F) .n)));obtain⟨h,a⟩|⟨h,a⟩:=Zaj a
     .obtain⟨G,H,a⟩:=Zac a
      let R5:List RA:=[⟨[(2,aB d),(6,aB e),(11,aB j),(16,aB t),(23,aB B),(28,aB G)],[(3,true),(8,true),(13,true),(18,true),(25,true)],[],[],[],[],[]⟩]
      have O6:Obl _:=(O4.app (.c h (.c (ZaY _ _ _ _ H) .n)));obtain⟨i,a⟩|⟨i,a⟩:=Zaj a
      .obtain⟨k,a⟩|⟨k,a⟩:=Zaj a
       .obtain⟨u,a⟩|⟨u,a⟩:=Zaj a
        .apply Ya a 4 (R5++[rB [(1,true),(4,true),(7,true)]]) [] (O6.app (.c i (.c k (.c u .n))))
        .apply Ya a 4 (R5++[rB [(1,true),(4,true),(7,false)]]) [] (O6.app (.c i (.c k (.c u .n))))
       .apply Ya a 4 (R5++[rB [(1,true),(4,false)]]) [] (O6.app (.c i (.c k .n)))
      .apply Ya a 4 (R5++[rB [(1,false)]]) [] (O6.app (.c i .n))
     .let R7:List RA:=[⟨[(2,aB d),(6,aB e),(11,aB j),(16,aB t),(23,aB B)],[(3,true),(8,true),(13,true),(18,true),(25,false)],[],[],[],[],[]⟩]
      obtain⟨l,a⟩|⟨l,a⟩:=Zaj a
      .obtain⟨v,a⟩|⟨v,a⟩:=Zaj a
       .apply Ya a 4 (R7++[rB [(1,true),(4,true)]]) [] (O4.app (.c h (.c l (.c v .n))))
       .apply Ya a 4 (R7++[rB [(1,true),(4,false)]]) [] (O4.app (.c h (.c l (.c v .n))))
      .apply Ya a 4 (R7++[rB [(1,false)]]) [] (O4.app (.c h (.c l .n)))
    .let R8:List RA:=[⟨[(2,aB d),(6,aB e),(11,aB j),(16,aB t)],[(3,true),(8,true),(13,true),(18,false)],[],[],[],[],[]⟩]
     obtain⟨m,a⟩|⟨m,a⟩:=Zaj a
     .obtain⟨w,a⟩|⟨w,a⟩:=Zaj a
      .apply Ya a 4 (R8++[rB [(1,true),(4,true)]]) [] (O3.app (.c g (.c m (.c w .n))))
      .apply Ya a 4 (R8++[rB [(1,true),(4,false)]]) [] (O3.app (.c g (.c m (.c w .n))))
     .apply Ya a 4 (R8++[rB [(1,false)]]) [] (O3.app (.c g (.c m .n)))
   .let R9:List RA:=[⟨[(2,aB d),(6,aB e),(11,aB j)],[(3,true),(8,true),(13,false)],[],[],[],[],[]⟩]
    obtain⟨o,a⟩|⟨o,a⟩:=Zaj a
    .obtain⟨x,a⟩|⟨x,a⟩:=Zaj a
     .apply Ya a 4 (R9++[rB [(1,true),(4,true)]]) [] (O2.app (.c f (.c o (.c x .n))))
     .apply Ya a 4 (R9++[rB [(1,true),(4,false)]]) [] (O2.app (.c f (.c o (.c x .n))))
    .apply Ya a 4 (R9++[rB [(1,false)]]) [] (O2.app (.c f (.c o .n)))
  .let jl:List RA:=[⟨[(2,aB d),(6,aB e)],[(3,true),(8,false)],[],[],[],[],[]⟩]
   obtain⟨p,a⟩|⟨p,a⟩:=Zaj a
   .obtain⟨y,a⟩|⟨y,a⟩:=Zaj a
    .apply Ya a 4 (jl++[rB [(1,true),(4,true)]]) [] (O1.app (.c aQ (.c p (.c y .n))))
    .apply Ya a 4 (jl++[rB [(1,true),(4,false)]]) [] (O1.app (.c aQ (.c p (.c y .n))))
   .apply Ya a 4 (jl++[rB [(1,false)]]) [] (O1.app (.c aQ (.c p .n)))
 .let jm:List RA:=[⟨[(2,aB d)],[(3,false)],[],[],[],[],[]⟩]
  have jn:Obl _:=(.c (ZaY _ _ _ _ A) (.c s .n));obtain⟨q,a⟩|⟨q,a⟩:=Zaj a
  .obtain⟨z,a⟩|⟨z,a⟩:=Zaj a
   .apply Ya a 4 (jm++[rB [(1,true),(4,true)]]) [] (jn.app (.c q (.c z .n)))
   .apply Ya a 4 (jm++[rB [(1,true),(4,false)]]) [] (jn.app (.c q (.c z .n)))
  .apply Ya a 4 (jm++[rB [(1,false)]]) [] (jn.app (.c q .n))
def ZbQ(b:Bool)(a:Zau):Option Bool:=(Zbm a.fQuota.fGroup (0:Int) (64:Int)).bind fun c=>bif c then(Zbm a.fQuota.fPing (0:Int) (64:Int)).bind fun d=>bif d then(Zbm a.fQuota.fWork (0:Int) (64:Int)).bind fun e=>bif e then(Zbm a.fQuota.fTime (0:Int) (64:Int)).bind fun f=>Zct b a f else Zct b a false else Zct b a false else Zct b a false
theorem ZdJ(S0:Nat->Prop)(w0:ZaW)(g:Bool)(b:Zau)(r:Bool)(a:ZbQ g b=some r):Ys 93 S0 w0 Tryz.f11 (Yk r) [1,1] ⟨[(1,.one (.ptr 1 0)),(3,(Yk g))],[(1,.box [.lit (.int .i64 b.fMaxIn),.lit (.int .i64 b.fMaxOut),.lit (.int .i64 b.fShards),.lit (.int .i64 b.fMaxBans),.lit (.int .i64 b.fMaxBook),.lit (.int .u64 b.fSecret),.lit (.int .i64 b.fQuota.fGroup),.lit (.int .i64 b.fQuota.fPing),.lit (.int .i64 b.fQuota.fWork),.lit (.int .i64 b.fQuota.fTime),.lit (.int .i64 b.fHalf),.lit (.int .i64 b.fLimit),.lit (.int .i64 b.fBanFor),.lit (.int .i64 b.fBase),.lit (.int .i64 b.fCap),.lit (.int .i64 b.fJitter)])]⟩:=by
 unfold ZbQ at a;obtain⟨i,h,a⟩:=Zac a;obtain⟨d,a⟩|⟨d,a⟩:=Zaj a
 .obtain⟨j,k,a⟩:=Zac a;have O13:Obl _:=(.c (ZaY _ _ _ _ h) (.c d (.c (ZaY _ _ _ _ k) .n)));obtain⟨e,a⟩|⟨e,a⟩:=Zaj a
  .obtain⟨o,l,a⟩:=Zac a;have O14:Obl _:=(O13.app (.c e (.c (ZaY _ _ _ _ l) .n)));obtain⟨f,a⟩|⟨f,a⟩:=Zaj a
   .obtain⟨p,m,a⟩:=Zac a;exact Ye 2 [⟨[(3,aB i),(8,aB j),(14,aB o),(20,aB p)],[(4,true),(10,true),(16,true)],[],[],[],[],[]⟩] [] ⟨[],[],[],[],[],[1,3,4],[1],[]⟩ (O14.app (.c f (.c (ZaY _ _ _ _ m) .n))) (ZeP S0 w0 g b p r a)
   .exact Ye 2 [⟨[(3,aB i),(8,aB j),(14,aB o)],[(4,true),(10,true),(16,false)],[],[],[],[],[]⟩] [] ⟨[],[],[],[],[],[1,3,4],[1],[]⟩ (O14.app (.c f .n)) (ZeP S0 w0 g b false r a)
  .exact Ye 2 [⟨[(3,aB i),(8,aB j)],[(4,true),(10,false)],[],[],[],[],[]⟩] [] ⟨[],[],[],[],[],[1,3,4],[1],[]⟩ (O13.app (.c e .n)) (ZeP S0 w0 g b false r a)
 .exact Ye 2 [⟨[(3,aB i)],[(4,false)],[],[],[],[],[]⟩] [] ⟨[],[],[],[],[],[1,3,4],[1],[]⟩ (.c (ZaY _ _ _ _ h) (.c d .n)) (ZeP S0 w0 g b false r a)
def Zdn(a:Zau):Option Bool:=(Zbm a.fMaxIn (0:Int) (65535:Int)).bind fun b=>bif b then(Zbm a.fMaxOut (0:Int) (65535:Int)).bind fun c=>bif c then(Zbm a.fShards (1:Int) (8:Int)).bind fun d=>bif d then(Zbm a.fMaxBans (0:Int) (1024:Int)).bind fun e=>bif e then(Zbm a.fMaxBook (0:Int) (1024:Int)).bind fun f=>ZbQ f a else ZbQ false a else ZbQ false a else ZbQ false a else ZbQ false a
theorem Zkv(b:Zau)(r:Bool)(a:Zdn b=some r):Yp 11 [.agg (Zau.c b)] (Yk r):=by
 refine Yw Tryz.func11 fun S0 w0=>?_;unfold Zdn at a;obtain⟨d,k,a⟩:=Zac a;obtain⟨f,a⟩|⟨f,a⟩:=Zaj a
 .obtain⟨e,o,a⟩:=Zac a;have O15:Obl _:=(.c (ZaY _ _ _ _ k) (.c f (.c (ZaY _ _ _ _ o) .n)));obtain⟨g,a⟩|⟨g,a⟩:=Zaj a
  .obtain⟨h,p,a⟩:=Zac a;have O16:Obl _:=(O15.app (.c g (.c (ZaY _ _ _ _ p) .n)));obtain⟨i,a⟩|⟨i,a⟩:=Zaj a
   .obtain⟨l,q,a⟩:=Zac a;have O17:Obl _:=(O16.app (.c i (.c (ZaY _ _ _ _ q) .n)));obtain⟨j,a⟩|⟨j,a⟩:=Zaj a
    .obtain⟨m,s,a⟩:=Zac a;exact Ye 4 [rz,⟨[(2,aB d),(6,aB e),(11,aB h),(16,aB l),(21,aB m)],[(3,true),(8,true),(13,true),(18,true)],[],[],[],[],[]⟩] [] ⟨[],[],[],[],[],[1,3],[1],[]⟩ (O17.app (.c j (.c (ZaY _ _ _ _ s) .n))) (ZdJ S0 w0 m b r a)
    .exact Ye 4 [rz,⟨[(2,aB d),(6,aB e),(11,aB h),(16,aB l)],[(3,true),(8,true),(13,true),(18,false)],[],[],[],[],[]⟩] [] ⟨[],[],[],[],[],[1,3],[1],[]⟩ (O17.app (.c j .n)) (ZdJ S0 w0 false b r a)
   .exact Ye 4 [rz,⟨[(2,aB d),(6,aB e),(11,aB h)],[(3,true),(8,true),(13,false)],[],[],[],[],[]⟩] [] ⟨[],[],[],[],[],[1,3],[1],[]⟩ (O16.app (.c i .n)) (ZdJ S0 w0 false b r a)
  .exact Ye 4 [rz,⟨[(2,aB d),(6,aB e)],[(3,true),(8,false)],[],[],[],[],[]⟩] [] ⟨[],[],[],[],[],[1,3],[1],[]⟩ (O15.app (.c g .n)) (ZdJ S0 w0 false b r a)
 .exact Ye 4 [rz,⟨[(2,aB d)],[(3,false)],[],[],[],[],[]⟩] [] ⟨[],[],[],[],[],[1,3],[1],[]⟩ (.c (ZaY _ _ _ _ k) (.c f .n)) (ZdJ S0 w0 false b r a)
def Zbx(a:Zai):Option Bool:=bif(!a.fV6)then bif(a.fHi==(0:Int))then some (decide (a.fLo<(4294967296:Int)))else some false else bif(a.fHi != (0:Int))then some true else some ((IntKind.wrap .u64 (Int.tdiv a.fLo (4294967296:Int))) != (65535:Int))
theorem Zba(f:Zai)(r:Bool)(a:Zbx f=some r):Yp 116 [.agg (Zai.c f)] (Yk r):=by
 refine Yw Tryz.func116 fun S0 w0=>?_;unfold Zbx at a;obtain⟨b,a⟩|⟨b,a⟩:=Zaj a
 .obtain⟨d,a⟩|⟨d,a⟩:=Zaj a
  .apply Ya a 8 [rz,rz,rB [(3,true)]] [true] (.c b (.c d .n))
  .apply Ya a 8 [rz,rz,rB [(3,false)]] [true] (.c b (.c d .n))
 .obtain⟨e,a⟩|⟨e,a⟩:=Zaj a
  .apply Ya a 9 [rz,rz,rB [(3,true)]] [false] (.c b (.c e .n))
  .apply Ya a 9 [rz,rz,rB [(3,false)]] [false] (.c b (.c e (.c (show (4294967296:Int)≠0 from(by decide)) .n)))
def ZbC(a:Zai):Option Int:=bif a.fV6 then some (128:Int)else some (32:Int)
theorem Zcm(d:Zai)(r:Int)(a:ZbC d=some r):Yp 205 [.agg (Zai.c d)] (Yj r):=by
 refine Yw Tryz.func205 fun S0 w0=>?_;unfold ZbC at a;obtain⟨b,a⟩|⟨b,a⟩:=Zaj a
 .apply Ya a 8 [rz,rz,rz] [true] (.c b .n)
 .apply Ya a 9 [rz,rz,rz] [false] (.c b .n)
def Zcv(a b:Int)(c:Zai):Option Int:=bif(!c.fV6)then need (0<=(IntKind.wrap .u64 (ZbT (31:Int) a)))<|some (IntKind.wrap .i64 (IntKind.wrap .u64 (((BitVec.ofInt (IntKind.bits .u64) (Int.fdiv b (2 ^ (min (IntKind.wrap .u64 (ZbT (31:Int) a)).toNat (IntKind.bits .u64))))) &&& (BitVec.ofInt (IntKind.bits .u64) (1:Int))).toNat:Int)))else need (0<=(IntKind.wrap .u64 (ZbT (63:Int) (Int.tmod a (64:Int)))))<|some (IntKind.wrap .i64 (IntKind.wrap .u64 (((BitVec.ofInt (IntKind.bits .u64) (Int.fdiv b (2 ^ (min (IntKind.wrap .u64 (ZbT (63:Int) (Int.tmod a (64:Int)))).toNat (IntKind.bits .u64))))) &&& (BitVec.ofInt (IntKind.bits .u64) (1:Int))).toNat:Int)))
theorem ZhE(S0:Nat->Prop)(w0:ZaW)(e f:Int)(b:Zai)(r:Int)(a:Zcv e f b=some r):Ys 39 S0 w0 Tryz.f206 (Yj r) [1,1,1,1] ⟨[(1,(Yj e)),(2,.one (.ptr 2 0)),(5,.one (.lit (.int .u64 f)))],[(2,.box [.lit (.bool b.fV6),.lit (.int .u64 b.fHi),.lit (.int .u64 b.fLo)])]⟩:=by
 unfold Zcv at a;have O1:Obl _:=(.c (show (64:Int)≠0 from(by decide)) .n);obtain⟨d,a⟩|⟨d,a⟩:=Zaj a
 .obtain⟨g,a⟩:=Zar a;apply Ya a 9 [rz,rz,rz,rz] [true] (O1.app (.c d (.c g .n)))
 .obtain⟨h,a⟩:=Zar a;apply Ya a 9 [rz,rz,rz] [false] (O1.app (.c d (.c h .n)))
def Zbq(a:Zai)(b:Int):Option Int:=bif(decide (b<(0:Int)))then some (0:Int)else(ZbC a).bind fun c=>bif(decide (b>=c))then some (0:Int)else bif a.fV6 then bif(decide (b<(64:Int)))then Zcv b a.fHi a else Zcv b a.fLo a else Zcv b a.fLo a
theorem ZdD(b:Zai)(d r:Int)(a:Zbq b d=some r):Yp 206 [.agg (Zai.c b),Yj d] (Yj r):=by
 refine Yw Tryz.func206 fun S0 w0=>?_;unfold Zbq at a;obtain⟨g,a⟩|⟨g,a⟩:=Zaj a
 .apply Ya a 8 [rz,rB [(2,true)],rz] [true] (.c g (.c (show true=true from rfl) .n))
 .obtain⟨i,j,a⟩:=Zac a
  let R2:List RA:=[rz,⟨[(5,aI i)],[(2,false)],[],[],[],[],[]⟩,rz]
  have O3:Obl _:=(.c g (.c (Zcm _ _ j) .n));obtain⟨e,a⟩|⟨e,a⟩:=Zaj a
  .apply Ya a 8 R2 [true] (O3.app (.c e .n))
  .obtain⟨f,a⟩|⟨f,a⟩:=Zaj a
   .obtain⟨h,a⟩|⟨h,a⟩:=Zaj a
    .exact Ye 14 (R2++[rB [(2,true)],rz]) [false,true] ⟨[],[],[],[],[],[1,2,5],[2],[]⟩ (O3.app (.c e (.c f (.c h .n)))) (ZhE S0 w0 d b.fHi b r a)
    .exact Ye 14 (R2++[rB [(2,true)]]) [false,false] ⟨[],[],[],[],[],[1,2,5],[2],[]⟩ (O3.app (.c e (.c f (.c h .n)))) (ZhE S0 w0 d b.fLo b r a)
   .exact Ye 14 (R2++[rB [(2,false)]]) [false,false] ⟨[],[],[],[],[],[1,2,5],[2],[]⟩ (O3.app (.c e (.c f (.c (show false=false from rfl) .n)))) (ZhE S0 w0 d b.fLo b r a)
def ZcZ:Nat->Int->Zag->Option Bool|0,_,_=>none|fu+1,a,b=>(ZbC b.fAddr).bind fun c=>bif(decide (a<c))then(Zbq b.fAddr a).bind fun d=>bif(d==(1:Int))then some false else ZcZ fu (ZaA a 1) b else some true
theorem Znk(S0:Nat->Prop)(w0:ZaW):∀(e:Nat)(d:Int)(b:Zag)(r:Bool),ZcZ e d b=some r->Ys 35 S0 w0 Tryz.f115 (Yk r) [1,1,0,1,0] ⟨[(1,.one (.ptr 1 0)),(3,(Yj d))],[(1,.box [.lit (.bool b.fAddr.fV6),.lit (.int .u64 b.fAddr.fHi),.lit (.int .u64 b.fAddr.fLo),.lit (.int .i64 b.fBits)])]⟩:=by
 intro e;induction e with
 |zero=>
  intro d b r a;simp[ZcZ]at a
 |succ e k=>
  intro d b r a;unfold ZcZ at a;obtain⟨f,i,a⟩:=Zac a;obtain⟨g,a⟩|⟨g,a⟩:=Zaj a
  .obtain⟨j,l,a⟩:=Zac a;have O1:Obl _:=(.c (Zcm _ _ i) (.c g (.c (ZdD _ _ _ l) .n)));obtain⟨h,a⟩|⟨h,a⟩:=Zaj a
   .apply Ya a 13 [rA [(3,aI f)],rA [(3,aI j)],rz] [true,true] (O1.app (.c h .n))
   .exact Ye 15 [rA [(3,aI f)],rA [(3,aI j)],rz] [true,false] ⟨[],[],[],[],[],[1,3],[1],[]⟩ (O1.app (.c h .n)) (k (ZaA d 1) b r a)
  .apply Ya a 8 [rA [(3,aI f)],rz] [false] (.c (Zcm _ _ i) (.c g .n))
def ZdQ(a:Zag):Option Bool:=(Zbx a.fAddr).bind fun b=>bif(!b)then some false else bif(decide (a.fBits<(0:Int)))then some false else(ZbC a.fAddr).bind fun c=>bif(decide (a.fBits>c))then some false else ZcZ 1000000 a.fBits a
theorem Zey(b:Zag)(r:Bool)(a:ZdQ b=some r):Yp 115 [.agg (Zag.c b)] (Yk r):=by
 refine Yw Tryz.func115 fun S0 w0=>?_;unfold ZdQ at a;obtain⟨d,h,a⟩:=Zac a;obtain⟨e,a⟩|⟨e,a⟩:=Zaj a
 .apply Ya a 8 [rz,⟨[(2,aB d)],[(4,true)],[],[],[],[],[]⟩,rz] [true] (.c (Zba _ _ h) (.c e (.c (show true=true from rfl) .n)))
 .have O2:Obl _:=(.c (Zba _ _ h) (.c e .n));obtain⟨f,a⟩|⟨f,a⟩:=Zaj a
  .apply Ya a 8 [rz,⟨[(2,aB d)],[(4,false),(9,true)],[],[],[],[],[]⟩,rz] [true] (O2.app (.c f (.c (show true=true from rfl) .n)))
  .obtain⟨i,j,a⟩:=Zac a
   let R3:List RA:=[rz,⟨[(2,aB d),(14,aI i)],[(4,false),(9,false)],[],[],[],[],[]⟩,rz]
   have O4:Obl _:=(O2.app (.c f (.c (Zcm _ _ j) .n)));obtain⟨g,a⟩|⟨g,a⟩:=Zaj a
   .apply Ya a 8 R3 [true] (O4.app (.c g .n))
   .exact Ye 11 R3 [false] ⟨[],[],[],[],[],[1,3],[1],[]⟩ (O4.app (.c g .n)) (Znk S0 w0 1000000 b.fBits b r a)
def ZfV(a:Zaf):Option Bool:=(ZdQ a.fNet).bind fun b=>bif b then bif(decide (a.fUntil>(0:Int)))then some (decide (a.fUntil<=(1099511627776:Int)))else some false else some false
theorem Zpj(f:Zaf)(r:Bool)(a:ZfV f=some r):Yp 127 [.agg (Zaf.c f)] (Yk r):=by
 refine Yw Tryz.func127 fun S0 w0=>?_;unfold ZfV at a;obtain⟨b,g,a⟩:=Zac a;obtain⟨d,a⟩|⟨d,a⟩:=Zaj a
 .have O1:Obl _:=(.c (Zey _ _ g) (.c d .n));obtain⟨e,a⟩|⟨e,a⟩:=Zaj a
  .apply Ya a 4 [rz,⟨[(2,aB b)],[(3,true),(8,true)],[],[],[],[],[]⟩] [] (O1.app (.c e .n))
  .apply Ya a 4 [rz,⟨[(2,aB b)],[(3,true),(8,false)],[],[],[],[],[]⟩] [] (O1.app (.c e .n))
 .apply Ya a 4 [rz,⟨[(2,aB b)],[(3,false)],[],[],[],[],[]⟩] [] (.c (Zey _ _ g) (.c d .n))
def Zec(a:Bool):Option Int:=bif a then some (-1:Int)else some (1:Int)
theorem Zim(S0:Nat->Prop)(w0:ZaW)(d:Bool)(r:Int)(a:Zec d=some r):Ys 33 S0 w0 Tryz.f210 (Yj r) [1,1,1,1,1] ⟨[(5,(Yk d))],[]⟩:=by
 unfold Zec at a;obtain⟨b,a⟩|⟨b,a⟩:=Zaj a
 .apply Ya a 6 [rz,rz] [true] (.c b .n)
 .apply Ya a 7 [rz,rz] [false] (.c b .n)
def Zed(b:Bool)(a c:Zai):Option Int:=bif(!(a.fV6==c.fV6))then Zec (!a.fV6)else Zec b
theorem Zin(S0:Nat->Prop)(w0:ZaW)(e:Bool)(b d:Zai)(r:Int)(a:Zed e b d=some r):Ys 33 S0 w0 Tryz.f210 (Yj r) [1,1,1,1] ⟨[(2,.one (.ptr 2 0)),(3,.one (.ptr 3 0)),(5,(Yk e))],[(2,.box [.lit (.bool b.fV6),.lit (.int .u64 b.fHi),.lit (.int .u64 b.fLo)]),(3,.box [.lit (.bool d.fV6),.lit (.int .u64 d.fHi),.lit (.int .u64 d.fLo)])]⟩:=by
 unfold Zed at a;obtain⟨f,a⟩|⟨f,a⟩:=Zaj a
 .exact Ye 5 [rz,rz] [true] (Yi [5]) (.c f .n) (Zim S0 w0 (!b.fV6) r a)
 .exact Ye 5 [rz] [false] (Yi [5]) (.c f .n) (Zim S0 w0 e r a)
def ZdY(a b:Zai):Option Int:=bif(decide (a=b))then some (0:Int)else bif(a.fHi != b.fHi)then Zed (decide (a.fHi<b.fHi)) a b else Zed (decide (a.fLo<b.fLo)) a b
theorem Zfn(a b:Zai)(r:Int)(d:ZdY a b=some r):Yp 210 [.agg (Zai.c a),.agg (Zai.c b)] (Yj r):=by
 refine Yw Tryz.func210 fun S0 w0=>?_;unfold ZdY at d;have O1:Obl _:=(.c (Zlq a b (.tmp 6) (.tmp 7)) .n);obtain⟨e,d⟩|⟨e,d⟩:=Zaj d
 .apply Ya d 8 [rz,rA [(2,aB (decide (a=b)))],rz] [true] (O1.app (.c e .n))
 .obtain⟨f,d⟩|⟨f,d⟩:=Zaj d
  .exact Ye 14 [rz,rA [(2,aB (decide (a=b)))],rz,rz,rz] [false,true] ⟨[],[],[],[],[],[2,3,5],[2,3],[]⟩ (O1.app (.c e (.c f .n))) (Zin S0 w0 (decide (a.fHi<b.fHi)) a b r d)
  .exact Ye 14 [rz,rA [(2,aB (decide (a=b)))],rz,rz] [false,false] ⟨[],[],[],[],[],[2,3,5],[2,3],[]⟩ (O1.app (.c e (.c f .n))) (Zin S0 w0 (decide (a.fLo<b.fLo)) a b r d)
def ZeV(a b:Zag):Option Int:=(ZdY a.fAddr b.fAddr).bind fun c=>bif(c != (0:Int))then some c else bif(a.fBits==b.fBits)then some c else bif(decide (a.fBits<b.fBits))then some (-1:Int)else some (1:Int)
theorem ZnN(g h:Zag)(r:Int)(a:ZeV g h=some r):Yp 128 [.agg (Zag.c g),.agg (Zag.c h)] (Yj r):=by
 refine Yw Tryz.func128 fun S0 w0=>?_;unfold ZeV at a;obtain⟨d,i,a⟩:=Zac a;obtain⟨e,a⟩|⟨e,a⟩:=Zaj a
 .apply Ya a 10 [rz,rA [(4,aI d)],rB [(2,true)],rz] [true] (.c (Zfn _ _ _ i) (.c e (.c (show true=true from rfl) .n)))
 .have O1:Obl _:=(.c (Zfn _ _ _ i) (.c e .n));obtain⟨b,a⟩|⟨b,a⟩:=Zaj a
  .apply Ya a 10 [rz,rA [(4,aI d)],rB [(2,false)],rz] [true] (O1.app (.c b .n))
  .let R2:List RA:=[rz,rA [(4,aI d)],rB [(2,false)],rz,rz]
   obtain⟨f,a⟩|⟨f,a⟩:=Zaj a
   .apply Ya a 15 R2 [false,true] (O1.app (.c b (.c f .n)))
   .apply Ya a 16 R2 [false,false] (O1.app (.c b (.c f .n)))
def ZbR(b:List Zaf)(a:Int)(ap:Int->Option Bool):Nat->Int->Option Bool|0,_=>none|fu+1,c=>bif(decide (c<a))then need (0<=c/\c<(b.length:Int))<|need (0<=a/\a<(b.length:Int))<|(ZeV ((b.getD c.toNat Zaf.d).fNet) ((b.getD a.toNat Zaf.d).fNet)).bind fun e=>bif(decide (e>=(0:Int)))then some false else ZbR b a ap fu (ZaA c 1)else ap (ZaA a 1)
theorem Zni(S0:Nat->Prop)(w0:ZaW)(e:List Zaf)(f:Int)(ap:Int->Option Bool)(bp:∀(fG:Int)(r:Bool),ap fG=some r->Ys 34 S0 w0 Tryz.f58 (Yk r) [1,0,1,0] ⟨[(0,(Yl e)),(3,(Yj fG))],[]⟩):∀(d:Nat)(b:Int)(r:Bool),ZbR e f ap d b=some r->Ys 34 S0 w0 Tryz.f58 (Yk r) [1,0,1,0,0,1,0,0,1,1,0] ⟨[(0,(Yl e)),(3,(Yj f)),(4,(Yj b))],[]⟩:=by
 intro d;induction d with
 |zero=>
  intro b r a;simp[ZbR]at a
 |succ d j=>
  intro b r a;unfold ZbR at a;obtain⟨g,a⟩|⟨g,a⟩:=Zaj a
  .obtain⟨k,l,a⟩:=Yu a;obtain⟨i,m,a⟩:=Zac a;have O1:Obl _:=(.c g (.c k (.c l (.c (ZnN _ _ _ m) .n))));obtain⟨h,a⟩|⟨h,a⟩:=Zaj a
   .apply Ya a 13 [rz,rA [(10,aI i)],rz] [true,true] (O1.app (.c h .n))
   .exact Ye 15 [rz,rA [(10,aI i)],rz] [true,false] (Yi [0,3,4]) (O1.app (.c h .n)) (j (ZaA b 1) r a)
  .exact Ye 9 [rz,rz] [false] (Yi [0,3]) (.c g .n) (bp (ZaA f 1) r a)
def Zbu(b:List Zaf):Nat->Int->Option Bool|0,_=>none|fu+1,a=>bif(decide (a<(b.length:Int)))then need (0<=a/\a<(b.length:Int))<|(ZfV (b.getD a.toNat Zaf.d)).bind fun c=>bif(!c)then some false else ZbR b a (Zbu b fu) ((a-(0:Int)).toNat+2) (0:Int)else some true
theorem Znj(S0:Nat->Prop)(w0:ZaW)(e:List Zaf):∀(d:Nat)(b:Int)(r:Bool),Zbu e d b=some r->Ys 34 S0 w0 Tryz.f58 (Yk r) [1,0,1,0] ⟨[(0,(Yl e)),(3,(Yj b))],[]⟩:=by
 intro d;induction d with
 |zero=>
  intro b r a;simp[Zbu]at a
 |succ d i=>
  intro b r a;unfold Zbu at a;obtain⟨f,a⟩|⟨f,a⟩:=Zaj a
  .obtain⟨o2,a⟩:=Zar a;obtain⟨h,j,a⟩:=Zac a;have O2:Obl _:=(.c f (.c o2 (.c (Zpj _ _ j) .n)));obtain⟨g,a⟩|⟨g,a⟩:=Zaj a
   .apply Ya a 14 [rz,rA [(4,aB h)],rz] [true,true] (O2.app (.c g .n))
   .exact Ye 16 [rz,rA [(4,aB h)],rz] [true,false] (Yi [0,3,4]) (O2.app (.c g .n)) (Zni S0 w0 e b (Zbu e d) i ((b-(0:Int)).toNat+2) (0:Int) r a)
  .apply Ya a 8 [rz,rz] [false] (.c f .n)
def Zho(a:List Zaf):Option Bool:=Zbu a (((a.length:Int)-(0:Int)).toNat+2) (0:Int)
theorem Zpi(a:List Zaf)(r:Bool)(b:Zho a=some r):Yp 58 [Yl a] (Yk r):=by
 refine Yw Tryz.func58 fun S0 w0=>?_;unfold Zho at b;exact Ye 6 [rz,rz] [] (Yi [0,3]) .n (Znj S0 w0 a (((a.length:Int)-(0:Int)).toNat+2) (0:Int) r b)
def ZdP(a:Zan):Option Bool:=(Zbx a.fAddr).bind fun b=>bif b then bif(decide (a.fPort>(0:Int)))then some (decide (a.fPort<(65536:Int)))else some false else some false
theorem Zex(f:Zan)(r:Bool)(a:ZdP f=some r):Yp 114 [.agg (Zan.c f)] (Yk r):=by
 refine Yw Tryz.func114 fun S0 w0=>?_;unfold ZdP at a;obtain⟨b,g,a⟩:=Zac a;obtain⟨d,a⟩|⟨d,a⟩:=Zaj a
 .have O1:Obl _:=(.c (Zba _ _ g) (.c d .n));obtain⟨e,a⟩|⟨e,a⟩:=Zaj a
  .apply Ya a 4 [rz,⟨[(2,aB b)],[(3,true),(8,true)],[],[],[],[],[]⟩] [] (O1.app (.c e .n))
  .apply Ya a 4 [rz,⟨[(2,aB b)],[(3,true),(8,false)],[],[],[],[],[]⟩] [] (O1.app (.c e .n))
 .apply Ya a 4 [rz,⟨[(2,aB b)],[(3,false)],[],[],[],[],[]⟩] [] (.c (Zba _ _ g) (.c d .n))
def Zdo(a:Zaa):Option Bool:=(ZdP a.fEnd).bind fun b=>bif b then bif(decide (a.fState>=(1:Int)))then bif(decide (a.fState<=(3:Int)))then bif(decide (a.fFails>=(0:Int)))then bif(decide (a.fFails<=(1000:Int)))then bif(decide (a.fNext>=(0:Int)))then some (decide (a.fNext<=(1099511627776:Int)))else some false else some false else some false else some false else some false else some false
theorem ZdH(j:Zaa)(r:Bool)(a:Zdo j=some r):Yp 129 [.agg (Zaa.c j)] (Yk r):=by
 refine Yw Tryz.func129 fun S0 w0=>?_;unfold Zdo at a;obtain⟨b,k,a⟩:=Zac a;obtain⟨h,a⟩|⟨h,a⟩:=Zaj a
 .have O1:Obl _:=(.c (Zex _ _ k) (.c h .n));obtain⟨d,a⟩|⟨d,a⟩:=Zaj a
  .obtain⟨e,a⟩|⟨e,a⟩:=Zaj a
   .obtain⟨f,a⟩|⟨f,a⟩:=Zaj a
    .obtain⟨g,a⟩|⟨g,a⟩:=Zaj a
     .obtain⟨i,a⟩|⟨i,a⟩:=Zaj a
      .apply Ya a 4 [rz,⟨[(2,aB b)],[(3,true),(8,true),(13,true),(18,true),(23,true),(28,true)],[],[],[],[],[]⟩] [] (O1.app (.c d (.c e (.c f (.c g (.c i .n))))))
      .apply Ya a 4 [rz,⟨[(2,aB b)],[(3,true),(8,true),(13,true),(18,true),(23,true),(28,false)],[],[],[],[],[]⟩] [] (O1.app (.c d (.c e (.c f (.c g (.c i .n))))))
     .apply Ya a 4 [rz,⟨[(2,aB b)],[(3,true),(8,true),(13,true),(18,true),(23,false)],[],[],[],[],[]⟩] [] (O1.app (.c d (.c e (.c f (.c g .n)))))
    .apply Ya a 4 [rz,⟨[(2,aB b)],[(3,true),(8,true),(13,true),(18,false)],[],[],[],[],[]⟩] [] (O1.app (.c d (.c e (.c f .n))))
   .apply Ya a 4 [rz,⟨[(2,aB b)],[(3,true),(8,true),(13,false)],[],[],[],[],[]⟩] [] (O1.app (.c d (.c e .n)))
  .apply Ya a 4 [rz,⟨[(2,aB b)],[(3,true),(8,false)],[],[],[],[],[]⟩] [] (O1.app (.c d .n))
 .apply Ya a 4 [rz,⟨[(2,aB b)],[(3,false)],[],[],[],[],[]⟩] [] (.c (Zex _ _ k) (.c h .n))
def Zcl(a b:Zan):Option Int:=(ZdY a.fAddr b.fAddr).bind fun c=>bif(c != (0:Int))then some c else bif(a.fPort==b.fPort)then some c else bif(decide (a.fPort<b.fPort))then some (-1:Int)else some (1:Int)
theorem Zeb(g h:Zan)(r:Int)(a:Zcl g h=some r):Yp 130 [.agg (Zan.c g),.agg (Zan.c h)] (Yj r):=by
 refine Yw Tryz.func130 fun S0 w0=>?_;unfold Zcl at a;obtain⟨d,i,a⟩:=Zac a;obtain⟨e,a⟩|⟨e,a⟩:=Zaj a
 .apply Ya a 10 [rz,rA [(4,aI d)],rB [(2,true)],rz] [true] (.c (Zfn _ _ _ i) (.c e (.c (show true=true from rfl) .n)))
 .have O1:Obl _:=(.c (Zfn _ _ _ i) (.c e .n));obtain⟨b,a⟩|⟨b,a⟩:=Zaj a
  .apply Ya a 10 [rz,rA [(4,aI d)],rB [(2,false)],rz] [true] (O1.app (.c b .n))
  .let R2:List RA:=[rz,rA [(4,aI d)],rB [(2,false)],rz,rz]
   obtain⟨f,a⟩|⟨f,a⟩:=Zaj a
   .apply Ya a 15 R2 [false,true] (O1.app (.c b (.c f .n)))
   .apply Ya a 16 R2 [false,false] (O1.app (.c b (.c f .n)))
def ZcX(b:List Zaa)(a:Int)(aq:Int->Option Bool):Nat->Int->Option Bool|0,_=>none|fu+1,c=>bif(decide (c<a))then need (0<=c/\c<(b.length:Int))<|need (0<=a/\a<(b.length:Int))<|(Zcl ((b.getD c.toNat Zaa.d).fEnd) ((b.getD a.toNat Zaa.d).fEnd)).bind fun e=>bif(decide (e>=(0:Int)))then some false else ZcX b a aq fu (ZaA c 1)else aq (ZaA a 1)
theorem Znd(S0:Nat->Prop)(w0:ZaW)(e:List Zaa)(f:Int)(aq:Int->Option Bool)(bq:∀(fG:Int)(r:Bool),aq fG=some r->Ys 34 S0 w0 Tryz.f59 (Yk r) [1,0,1,0] ⟨[(0,(Ym e)),(3,(Yj fG))],[]⟩):∀(d:Nat)(b:Int)(r:Bool),ZcX e f aq d b=some r->Ys 34 S0 w0 Tryz.f59 (Yk r) [1,0,1,0,0,1,0,0,1,1,0] ⟨[(0,(Ym e)),(3,(Yj f)),(4,(Yj b))],[]⟩:=by
 intro d;induction d with
 |zero=>
  intro b r a;simp[ZcX]at a
 |succ d j=>
  intro b r a;unfold ZcX at a;obtain⟨g,a⟩|⟨g,a⟩:=Zaj a
  .obtain⟨k,l,a⟩:=Yu a;obtain⟨i,m,a⟩:=Zac a;have O1:Obl _:=(.c g (.c k (.c l (.c (Zeb _ _ _ m) .n))));obtain⟨h,a⟩|⟨h,a⟩:=Zaj a
   .apply Ya a 13 [rz,rA [(10,aI i)],rz] [true,true] (O1.app (.c h .n))
   .exact Ye 15 [rz,rA [(10,aI i)],rz] [true,false] (Yi [0,3,4]) (O1.app (.c h .n)) (j (ZaA b 1) r a)
  .exact Ye 9 [rz,rz] [false] (Yi [0,3]) (.c g .n) (bq (ZaA f 1) r a)
def Zcb(b:List Zaa):Nat->Int->Option Bool|0,_=>none|fu+1,a=>bif(decide (a<(b.length:Int)))then need (0<=a/\a<(b.length:Int))<|(Zdo (b.getD a.toNat Zaa.d)).bind fun c=>bif(!c)then some false else ZcX b a (Zcb b fu) ((a-(0:Int)).toNat+2) (0:Int)else some true
theorem Zne(S0:Nat->Prop)(w0:ZaW)(e:List Zaa):∀(d:Nat)(b:Int)(r:Bool),Zcb e d b=some r->Ys 34 S0 w0 Tryz.f59 (Yk r) [1,0,1,0] ⟨[(0,(Ym e)),(3,(Yj b))],[]⟩:=by
 intro d;induction d with
 |zero=>
  intro b r a;simp[Zcb]at a
 |succ d i=>
  intro b r a;unfold Zcb at a;obtain⟨f,a⟩|⟨f,a⟩:=Zaj a
  .obtain⟨o2,a⟩:=Zar a;obtain⟨h,j,a⟩:=Zac a;have O2:Obl _:=(.c f (.c o2 (.c (ZdH _ _ j) .n)));obtain⟨g,a⟩|⟨g,a⟩:=Zaj a
   .apply Ya a 14 [rz,rA [(4,aB h)],rz] [true,true] (O2.app (.c g .n))
   .exact Ye 16 [rz,rA [(4,aB h)],rz] [true,false] (Yi [0,3,4]) (O2.app (.c g .n)) (Znd S0 w0 e b (Zcb e d) i ((b-(0:Int)).toNat+2) (0:Int) r a)
  .apply Ya a 8 [rz,rz] [false] (.c f .n)
def ZfS(a:List Zaa):Option Bool:=Zcb a (((a.length:Int)-(0:Int)).toNat+2) (0:Int)
theorem Zpf(a:List Zaa)(r:Bool)(b:ZfS a=some r):Yp 59 [Ym a] (Yk r):=by
 refine Yw Tryz.func59 fun S0 w0=>?_;unfold ZfS at b;exact Ye 6 [rz,rz] [] (Yi [0,3]) .n (Zne S0 w0 a (((a.length:Int)-(0:Int)).toNat+2) (0:Int) r b)
def ZfU(a:Zab):Option Bool:=(ZdP a.fEnd).bind fun b=>bif(!b)then some false else bif(decide (a.fSince<(0:Int)))then some false else bif(decide (a.fSince>(1099511627776:Int)))then some false else bif(decide (a.fScore.fAt<(0:Int)))then some false else bif(decide (a.fScore.fAt>(1099511627776:Int)))then some false else bif(decide (a.fWork>=(0:Int)))then bif(decide (a.fWork<=(1099511627776:Int)))then bif(decide (a.fScore.fPoints>=(0:Int)))then bif(decide (a.fScore.fPoints<=(1099511627776:Int)))then bif(decide (a.fPing>=(0:Int)))then some (decide (a.fPing<=(1048576:Int)))else some false else some false else some false else some false else some false
theorem Zph(o:Zab)(r:Bool)(a:ZfU o=some r):Yp 131 [.agg (Zab.c o)] (Yk r):=by
 refine Yw Tryz.func131 fun S0 w0=>?_;unfold ZfU at a;obtain⟨h,p,a⟩:=Zac a;obtain⟨l,a⟩|⟨l,a⟩:=Zaj a
 .apply Ya a 8 [rz,⟨[(2,aB h)],[(4,true)],[],[],[],[],[]⟩,rz] [true] (.c (Zex _ _ p) (.c l (.c (show true=true from rfl) .n)))
 .have O1:Obl _:=(.c (Zex _ _ p) (.c l .n));obtain⟨d,a⟩|⟨d,a⟩:=Zaj a
  .apply Ya a 8 [rz,⟨[(2,aB h)],[(4,false),(9,true)],[],[],[],[],[]⟩,rz] [true] (O1.app (.c d (.c (show true=true from rfl) .n)))
  .obtain⟨e,a⟩|⟨e,a⟩:=Zaj a
   .apply Ya a 8 [rz,⟨[(2,aB h)],[(4,false),(9,false),(14,true)],[],[],[],[],[]⟩,rz] [true] (O1.app (.c d (.c e (.c (show true=true from rfl) .n))))
   .obtain⟨g,a⟩|⟨g,a⟩:=Zaj a
    .apply Ya a 8 [rz,⟨[(2,aB h)],[(4,false),(9,false),(14,false),(20,true)],[],[],[],[],[]⟩,rz] [true] (O1.app (.c d (.c e (.c g (.c (show true=true from rfl) .n)))))
    .let R2:List RA:=[rz,⟨[(2,aB h)],[(4,false),(9,false),(14,false),(20,false)],[],[],[],[],[]⟩]
     obtain⟨i,a⟩|⟨i,a⟩:=Zaj a
     .apply Ya a 8 (R2++[rz]) [true] (O1.app (.c d (.c e (.c g (.c i .n)))))
     .obtain⟨k,a⟩|⟨k,a⟩:=Zaj a
      .obtain⟨m,a⟩|⟨m,a⟩:=Zaj a
       .have O3:Obl _:=(O1.app (.c d (.c e (.c g (.c i (.c k (.c m .n)))))));obtain⟨j,a⟩|⟨j,a⟩:=Zaj a
        .obtain⟨b,a⟩|⟨b,a⟩:=Zaj a
         .obtain⟨f,a⟩|⟨f,a⟩:=Zaj a
          .apply Ya a 9 (R2++[rB [(3,true),(8,true),(14,true),(20,true),(25,true)]]) [false] (O3.app (.c j (.c b (.c f .n))))
          .apply Ya a 9 (R2++[rB [(3,true),(8,true),(14,true),(20,true),(25,false)]]) [false] (O3.app (.c j (.c b (.c f .n))))
         .apply Ya a 9 (R2++[rB [(3,true),(8,true),(14,true),(20,false)]]) [false] (O3.app (.c j (.c b .n)))
        .apply Ya a 9 (R2++[rB [(3,true),(8,true),(14,false)]]) [false] (O3.app (.c j .n))
       .apply Ya a 9 (R2++[rB [(3,true),(8,false)]]) [false] (O1.app (.c d (.c e (.c g (.c i (.c k (.c m .n)))))))
      .apply Ya a 9 (R2++[rB [(3,false)]]) [false] (O1.app (.c d (.c e (.c g (.c i (.c k .n))))))
def Zcs(b:List Zab)(a:Int)(ar:Int->Option Bool):Nat->Int->Option Bool|0,_=>none|fu+1,c=>bif(decide (c<a))then need (0<=c/\c<(b.length:Int))<|need (0<=a/\a<(b.length:Int))<|(Zcl ((b.getD c.toNat Zab.d).fEnd) ((b.getD a.toNat Zab.d).fEnd)).bind fun e=>bif(decide (e>=(0:Int)))then some false else Zcs b a ar fu (ZaA c 1)else ar (ZaA a 1)
theorem Zna(S0:Nat->Prop)(w0:ZaW)(e:List Zab)(f:Int)(ar:Int->Option Bool)(br:∀(fG:Int)(r:Bool),ar fG=some r->Ys 34 S0 w0 Tryz.f60 (Yk r) [1,0,1,0] ⟨[(0,(Yn e)),(3,(Yj fG))],[]⟩):∀(d:Nat)(b:Int)(r:Bool),Zcs e f ar d b=some r->Ys 34 S0 w0 Tryz.f60 (Yk r) [1,0,1,0,0,1,0,0,1,1,0] ⟨[(0,(Yn e)),(3,(Yj f)),(4,(Yj b))],[]⟩:=by
 intro d;induction d with
 |zero=>
  intro b r a;simp[Zcs]at a
 |succ d j=>
  intro b r a;unfold Zcs at a;obtain⟨g,a⟩|⟨g,a⟩:=Zaj a
  .obtain⟨k,l,a⟩:=Yu a;obtain⟨i,m,a⟩:=Zac a;have O1:Obl _:=(.c g (.c k (.c l (.c (Zeb _ _ _ m) .n))));obtain⟨h,a⟩|⟨h,a⟩:=Zaj a
   .apply Ya a 13 [rz,rA [(10,aI i)],rz] [true,true] (O1.app (.c h .n))
   .exact Ye 15 [rz,rA [(10,aI i)],rz] [true,false] (Yi [0,3,4]) (O1.app (.c h .n)) (j (ZaA b 1) r a)
  .exact Ye 9 [rz,rz] [false] (Yi [0,3]) (.c g .n) (br (ZaA f 1) r a)
def ZbP(b:List Zab):Nat->Int->Option Bool|0,_=>none|fu+1,a=>bif(decide (a<(b.length:Int)))then need (0<=a/\a<(b.length:Int))<|(ZfU (b.getD a.toNat Zab.d)).bind fun c=>bif(!c)then some false else Zcs b a (ZbP b fu) ((a-(0:Int)).toNat+2) (0:Int)else some true
theorem Znb(S0:Nat->Prop)(w0:ZaW)(e:List Zab):∀(d:Nat)(b:Int)(r:Bool),ZbP e d b=some r->Ys 34 S0 w0 Tryz.f60 (Yk r) [1,0,1,0] ⟨[(0,(Yn e)),(3,(Yj b))],[]⟩:=by
 intro d;induction d with
 |zero=>
  intro b r a;simp[ZbP]at a
 |succ d i=>
  intro b r a;unfold ZbP at a;obtain⟨f,a⟩|⟨f,a⟩:=Zaj a
  .obtain⟨o2,a⟩:=Zar a;obtain⟨h,j,a⟩:=Zac a;have O2:Obl _:=(.c f (.c o2 (.c (Zph _ _ j) .n)));obtain⟨g,a⟩|⟨g,a⟩:=Zaj a
   .apply Ya a 14 [rz,rA [(4,aB h)],rz] [true,true] (O2.app (.c g .n))
   .exact Ye 16 [rz,rA [(4,aB h)],rz] [true,false] (Yi [0,3,4]) (O2.app (.c g .n)) (Zna S0 w0 e b (ZbP e d) i ((b-(0:Int)).toNat+2) (0:Int) r a)
  .apply Ya a 8 [rz,rz] [false] (.c f .n)
def Zhn(a:List Zab):Option Bool:=ZbP a (((a.length:Int)-(0:Int)).toNat+2) (0:Int)
theorem Zpe(a:List Zab)(r:Bool)(b:Zhn a=some r):Yp 60 [Yn a] (Yk r):=by
 refine Yw Tryz.func60 fun S0 w0=>?_;unfold Zhn at b;exact Ye 6 [rz,rz] [] (Yi [0,3]) .n (Znb S0 w0 a (((a.length:Int)-(0:Int)).toNat+2) (0:Int) r b)
def Zca(b:List Zab)(c:Bool):Nat->Int->Int->Option Int|0,_,_=>none|fu+1,e,a=>bif(decide (a<(b.length:Int)))then need (0<=a/\a<(b.length:Int))<|bif((b.getD a.toNat Zab.d).fIn==c)then Zca b c fu (ZaA e 1) (ZaA a 1)else Zca b c fu e (ZaA a 1)else some e
theorem Znc(S0:Nat->Prop)(w0:ZaW)(h:List Zab)(i:Bool):∀(e:Nat)(b d r:Int),Zca h i e b d=some r->Ys 23 S0 w0 Tryz.f61 (Yj r) [1,1,0,1,0] ⟨[(0,(Yn h)),(1,(Yk i)),(5,(Yj b)),(6,(Yj d))],[]⟩:=by
 intro e;induction e with
 |zero=>
  intro b d r a;simp[Zca]at a
 |succ e j=>
  intro b d r a;unfold Zca at a;obtain⟨f,a⟩|⟨f,a⟩:=Zaj a
  .obtain⟨o2,a⟩:=Zar a;obtain⟨g,a⟩|⟨g,a⟩:=Zaj a
   .exact Ye 15 [rz,rz,rz,rz] [true,true] (Yi [0,1,5,6]) (.c f (.c o2 (.c g .n))) (j (ZaA b 1) (ZaA d 1) r a)
   .exact Ye 15 [rz,rz,rz] [true,false] (Yi [0,1,5,6]) (.c f (.c o2 (.c g .n))) (j b (ZaA d 1) r a)
  .apply Ya a 8 [rz,rz] [false] (.c f .n)
def Zdm(a:List Zab)(b:Bool):Option Int:=Zca a b (((a.length:Int)-(0:Int)).toNat+2) (0:Int) (0:Int)
theorem Zgb(a:List Zab)(b:Bool)(r:Int)(c:Zdm a b=some r):Yp 61 [Yn a,Yk b] (Yj r):=by
 refine Yw Tryz.func61 fun S0 w0=>?_;unfold Zdm at c;exact Ye 8 [rz,rz,rz] [] (Yi [0,1,5,6]) .n (Znc S0 w0 a b (((a.length:Int)-(0:Int)).toNat+2) (0:Int) (0:Int) r c)
def Zcc(b:List Zaa)(c:Int):Nat->Int->Int->Option Int|0,_,_=>none|fu+1,e,a=>bif(decide (a<(b.length:Int)))then need (0<=a/\a<(b.length:Int))<|bif((b.getD a.toNat Zaa.d).fState==c)then Zcc b c fu (ZaA e 1) (ZaA a 1)else Zcc b c fu e (ZaA a 1)else some e
theorem Znf(S0:Nat->Prop)(w0:ZaW)(h:List Zaa)(i:Int):∀(e:Nat)(b d r:Int),Zcc h i e b d=some r->Ys 23 S0 w0 Tryz.f63 (Yj r) [1,1,0,1,0] ⟨[(0,(Ym h)),(1,(Yj i)),(5,(Yj b)),(6,(Yj d))],[]⟩:=by
 intro e;induction e with
 |zero=>
  intro b d r a;simp[Zcc]at a
 |succ e j=>
  intro b d r a;unfold Zcc at a;obtain⟨f,a⟩|⟨f,a⟩:=Zaj a
  .obtain⟨o2,a⟩:=Zar a;obtain⟨g,a⟩|⟨g,a⟩:=Zaj a
   .exact Ye 15 [rz,rz,rz,rz] [true,true] (Yi [0,1,5,6]) (.c f (.c o2 (.c g .n))) (j (ZaA b 1) (ZaA d 1) r a)
   .exact Ye 15 [rz,rz,rz] [true,false] (Yi [0,1,5,6]) (.c f (.c o2 (.c g .n))) (j b (ZaA d 1) r a)
  .apply Ya a 8 [rz,rz] [false] (.c f .n)
def ZeE(a:List Zaa)(b:Int):Option Int:=Zcc a b (((a.length:Int)-(0:Int)).toNat+2) (0:Int) (0:Int)
theorem Zkx(a:List Zaa)(b r:Int)(c:ZeE a b=some r):Yp 63 [Ym a,Yj b] (Yj r):=by
 refine Yw Tryz.func63 fun S0 w0=>?_;unfold ZeE at c;exact Ye 8 [rz,rz,rz] [] (Yi [0,1,5,6]) .n (Znf S0 w0 a b (((a.length:Int)-(0:Int)).toNat+2) (0:Int) (0:Int) r c)
def ZcB(a:Zas):Option Int:=(Zdm a.fPeers false).bind fun b=>(ZeE a.fBook (2:Int)).bind fun c=>some (ZaA b c)
theorem Zfm(b:Zas)(r:Int)(a:ZcB b=some r):Yp 28 [.agg (Zas.c b)] (Yj r):=by
 refine Yw Tryz.func28 fun S0 w0=>?_;unfold ZcB at a;obtain⟨d,e,f,g,a⟩:=Yv a;apply Ya a 4 [rz,rA [(2,aI d),(5,aI e)]] [] (.c (Zgb _ _ _ f) (.c (Zkx _ _ _ g) .n))
def Zcu(b:List Zab):Nat->Int->Zan->Option Int|0,_,_=>none|fu+1,a,c=>bif(decide (a<(b.length:Int)))then need (0<=a/\a<(b.length:Int))<|bif(decide ((b.getD a.toNat Zab.d).fEnd=c))then some a else Zcu b fu (ZaA a 1) c else some (-1:Int)
theorem Zng(S0:Nat->Prop)(w0:ZaW)(f:List Zab):∀(g:Nat)(e:Int)(b:Zan)(r:Int),Zcu f g e b=some r->Ys 20 S0 w0 Tryz.f51 (Yj r) [1,0,1,0] ⟨[(0,(Yn f)),(3,.one (.ptr 3 0)),(5,(Yj e))],[(3,.box [.lit (.bool b.fAddr.fV6),.lit (.int .u64 b.fAddr.fHi),.lit (.int .u64 b.fAddr.fLo),.lit (.int .i64 b.fPort)])]⟩:=by
 intro g;induction g with
 |zero=>
  intro e b r a;simp[Zcu]at a
 |succ g j=>
  intro e b r a;unfold Zcu at a;obtain⟨h,a⟩|⟨h,a⟩:=Zaj a
  .obtain⟨o2,a⟩:=Zar a
   let R1:List RA:=[rz,rA [(6,aB (decide ((f.getD e.toNat Zab.d).fEnd=b)))],rz]
   have O2:Obl _:=(.c h (.c o2 (.c (ZiP ((f.getD e.toNat Zab.d).fEnd) b (.tmp 16) (.tmp 17)) .n)));obtain⟨i,a⟩|⟨i,a⟩:=Zaj a
   .apply Ya a 13 R1 [true,true] (O2.app (.c i .n))
   .exact Ye 15 R1 [true,false] ⟨[],[],[],[],[],[0,3,5],[3],[]⟩ (O2.app (.c i .n)) (j (ZaA e 1) b r a)
  .apply Ya a 8 [rz,rz] [false] (.c h .n)
def ZdN(a:List Zab)(b:Zan):Option Int:=Zcu a (((a.length:Int)-(0:Int)).toNat+2) (0:Int) b
theorem ZhS(a:List Zab)(b:Zan)(r:Int)(d:ZdN a b=some r):Yp 51 [Yn a,.agg (Zan.c b)] (Yj r):=by
 refine Yw Tryz.func51 fun S0 w0=>?_;unfold ZdN at d;exact Ye 6 [rz,rz] [] ⟨[],[],[],[],[],[0,3,5],[3],[]⟩ .n (Zng S0 w0 a (((a.length:Int)-(0:Int)).toNat+2) (0:Int) b r d)
def ZcE(b:List Zaa):Nat->Int->Zan->Option Int|0,_,_=>none|fu+1,a,c=>bif(decide (a<(b.length:Int)))then need (0<=a/\a<(b.length:Int))<|bif(decide ((b.getD a.toNat Zaa.d).fEnd=c))then some a else ZcE b fu (ZaA a 1) c else some (-1:Int)
theorem ZnL(S0:Nat->Prop)(w0:ZaW)(f:List Zaa):∀(g:Nat)(e:Int)(b:Zan)(r:Int),ZcE f g e b=some r->Ys 20 S0 w0 Tryz.f62 (Yj r) [1,0,1,0] ⟨[(0,(Ym f)),(3,.one (.ptr 3 0)),(5,(Yj e))],[(3,.box [.lit (.bool b.fAddr.fV6),.lit (.int .u64 b.fAddr.fHi),.lit (.int .u64 b.fAddr.fLo),.lit (.int .i64 b.fPort)])]⟩:=by
 intro g;induction g with
 |zero=>
  intro e b r a;simp[ZcE]at a
 |succ g j=>
  intro e b r a;unfold ZcE at a;obtain⟨h,a⟩|⟨h,a⟩:=Zaj a
  .obtain⟨o2,a⟩:=Zar a
   let R1:List RA:=[rz,rA [(6,aB (decide ((f.getD e.toNat Zaa.d).fEnd=b)))],rz]
   have O2:Obl _:=(.c h (.c o2 (.c (ZiP ((f.getD e.toNat Zaa.d).fEnd) b (.tmp 16) (.tmp 17)) .n)));obtain⟨i,a⟩|⟨i,a⟩:=Zaj a
   .apply Ya a 13 R1 [true,true] (O2.app (.c i .n))
   .exact Ye 15 R1 [true,false] ⟨[],[],[],[],[],[0,3,5],[3],[]⟩ (O2.app (.c i .n)) (j (ZaA e 1) b r a)
  .apply Ya a 8 [rz,rz] [false] (.c h .n)
def ZcY(a:List Zaa)(b:Zan):Option Int:=ZcE a (((a.length:Int)-(0:Int)).toNat+2) (0:Int) b
theorem Zdq(a:List Zaa)(b:Zan)(r:Int)(d:ZcY a b=some r):Yp 62 [Ym a,.agg (Zan.c b)] (Yj r):=by
 refine Yw Tryz.func62 fun S0 w0=>?_;unfold ZcY at d;exact Ye 6 [rz,rz] [] ⟨[],[],[],[],[],[0,3,5],[3],[]⟩ .n (ZnL S0 w0 a (((a.length:Int)-(0:Int)).toNat+2) (0:Int) b r d)
def ZbY(c:Int)(a:Zas)(au:Int->Zas->Option Bool):Nat->Int->Option Bool|0,_=>none|fu+1,b=>bif(decide (b<(a.fPeers.length:Int)))then need (0<=b/\b<(a.fPeers.length:Int))<|bif(!(a.fPeers.getD b.toNat Zab.d).fIn)then(ZcY a.fBook ((a.fPeers.getD b.toNat Zab.d).fEnd)).bind fun e=>bif(decide (e<(0:Int)))then some false else ZbY c a au fu (ZaA b 1)else ZbY c a au fu (ZaA b 1)else some true
theorem ZmU(S0:Nat->Prop)(w0:ZaW)(m:Int)(i:Zas)(au:Int->Zas->Option Bool)(cW:∀(v5_:Int)(bQ:Zas)(r:Bool),au v5_ bQ=some r->Ys 119 S0 w0 Tryz.f18 (Yk r) [1,1,1,0,1,0] ⟨[(3,.one (.ptr 3 0)),(5,(Yj v5_))],[(3,.box [cL 5 Zaf.c Zaf.d bQ.fBans,cL 7 Zaa.c Zaa.d bQ.fBook,cL 10 Zab.c Zab.d bQ.fPeers])]⟩):∀(j:Nat)(h:Int)(r:Bool),ZbY m i au j h=some r->Ys 119 S0 w0 Tryz.f18 (Yk r) [1,1,1,1,0,1,0] ⟨[(3,.one (.ptr 3 0)),(7,(Yj h))],[(3,.box [cL 5 Zaf.c Zaf.d i.fBans,cL 7 Zaa.c Zaa.d i.fBook,cL 10 Zab.c Zab.d i.fPeers])]⟩:=by
 intro j;induction j with
 |zero=>
  intro h r a;simp[ZbY]at a
 |succ j l=>
  intro h r a;unfold ZbY at a;obtain⟨b,a⟩|⟨b,a⟩:=Zaj a
  .obtain⟨e,a⟩:=Zar a;obtain⟨f,a⟩|⟨f,a⟩:=Zaj a
   .obtain⟨o,k,a⟩:=Zac a
    let R1:List RA:=[rz,⟨[(16,aI o)],[(7,true)],[],[],[],[],[]⟩,rz]
    have O2:Obl _:=(.c b (.c e (.c f (.c e (.c (Zdq _ _ _ k) .n)))));obtain⟨g,a⟩|⟨g,a⟩:=Zaj a
    .apply Ya a 13 R1 [true,true] (O2.app (.c g .n))
    .exact Ye 15 R1 [true,false] ⟨[],[],[],[],[],[3,7],[3],[]⟩ (O2.app (.c g .n)) (l (ZaA h 1) r a)
   .exact Ye 15 [rz,rB [(7,false)],rz] [true,false] ⟨[],[],[],[],[],[3,7],[3],[]⟩ (.c b (.c e (.c f (.c (show false=false from rfl) .n)))) (l (ZaA h 1) r a)
  .apply Ya a 8 [rz,rz] [false] (.c b .n)
def Zbt:Nat->Int->Zas->Option Bool|0,_,_=>none|fu+1,b,a=>bif(decide (b<(a.fBook.length:Int)))then need (0<=b/\b<(a.fBook.length:Int))<|(ZdN a.fPeers ((a.fBook.getD b.toNat Zaa.d).fEnd)).bind fun c=>bif(decide (c>=(0:Int)))then need (0<=c/\c<(a.fPeers.length:Int))<|bif(!(((a.fBook.getD b.toNat Zaa.d).fState==(3:Int))==(!(a.fPeers.getD c.toNat Zab.d).fIn)))then some false else Zbt fu (ZaA b 1) a else bif(!(((a.fBook.getD b.toNat Zaa.d).fState==(3:Int))==false))then some false else Zbt fu (ZaA b 1) a else ZbY b a (Zbt fu) 1000000 (0:Int)
theorem ZmV(S0:Nat->Prop)(w0:ZaW):∀(i:Nat)(f:Int)(e:Zas)(r:Bool),Zbt i f e=some r->Ys 119 S0 w0 Tryz.f18 (Yk r) [1,1,1,0,1,0] ⟨[(3,.one (.ptr 3 0)),(5,(Yj f))],[(3,.box [cL 5 Zaf.c Zaf.d e.fBans,cL 7 Zaa.c Zaa.d e.fBook,cL 10 Zab.c Zab.d e.fPeers])]⟩:=by
 intro i;induction i with
 |zero=>
  intro f e r a;simp[Zbt]at a
 |succ i m=>
  intro f e r a;unfold Zbt at a;obtain⟨g,a⟩|⟨g,a⟩:=Zaj a
  .obtain⟨j,a⟩:=Zar a;obtain⟨l,o,a⟩:=Zac a;have O3:Obl _:=(.c g (.c j (.c (ZhS _ _ _ o) (.c j .n))));obtain⟨b,a⟩|⟨b,a⟩:=Zaj a
   .obtain⟨k,a⟩:=Zar a;obtain⟨aQ,a⟩|⟨aQ,a⟩:=Zaj a
    .apply Ya a 15 [rz,rA [(8,aI l)],rB [(9,true)],rz] [true,true] (O3.app (.c b (.c k (.c aQ .n))))
    .exact Ye 17 [rz,rA [(8,aI l)],rB [(9,true)],rz] [true,false] ⟨[],[],[],[],[],[3,5],[3],[]⟩ (O3.app (.c b (.c k (.c aQ .n)))) (m (ZaA f 1) e r a)
   .obtain⟨h,a⟩|⟨h,a⟩:=Zaj a
    .apply Ya a 15 [rz,rA [(8,aI l)],rB [(9,false)],rz] [true,true] (O3.app (.c b (.c h .n)))
    .exact Ye 17 [rz,rA [(8,aI l)],rB [(9,false)],rz] [true,false] ⟨[],[],[],[],[],[3,5],[3],[]⟩ (O3.app (.c b (.c h .n))) (m (ZaA f 1) e r a)
  .exact Ye 10 [rz,rz] [false] ⟨[],[],[],[],[],[3,7],[3],[]⟩ (.c g .n) (ZmU S0 w0 f e (Zbt i) m 1000000 (0:Int) r a)
def ZfN(b:Zau)(a:Zas):Option Bool:=(Zdn b).bind fun c=>bif(!c)then some false else(Zho a.fBans).bind fun d=>bif(!d)then some false else(ZfS a.fBook).bind fun e=>bif(!e)then some false else(Zhn a.fPeers).bind fun f=>bif(!f)then some false else bif(decide ((a.fBans.length:Int)>b.fMaxBans))then some false else bif(decide ((a.fBook.length:Int)>b.fMaxBook))then some false else(Zdm a.fPeers true).bind fun g=>bif(decide (g>b.fMaxIn))then some false else(ZcB a).bind fun h=>bif(decide (h>b.fMaxOut))then some false else Zbt 1000000 (0:Int) a
theorem ZoZ(q:Zau)(i:Zas)(r:Bool)(a:ZfN q i=some r):Yp 18 [.agg (Zau.c q),.agg (Zas.c i)] (Yk r):=by
 refine Yw Tryz.func18 fun S0 w0=>?_;unfold ZfN at a;obtain⟨g,s,a⟩:=Zac a;obtain⟨j,a⟩|⟨j,a⟩:=Zaj a
 .apply Ya a 8 [rz,⟨[(1,aB g)],[(3,true)],[],[],[],[],[]⟩,rz] [true] (.c (Zkv _ _ s) (.c j (.c (show true=true from rfl) .n)))
 .obtain⟨k,v,a⟩:=Zac a;have O4:Obl _:=(.c (Zkv _ _ s) (.c j (.c (Zpi _ _ v) .n)));obtain⟨l,a⟩|⟨l,a⟩:=Zaj a
  .apply Ya a 8 [rz,⟨[(1,aB g),(6,aB k)],[(3,false),(9,true)],[],[],[],[],[]⟩,rz] [true] (O4.app (.c l (.c (show true=true from rfl) .n)))
  .obtain⟨t,w,a⟩:=Zac a;have O5:Obl _:=(O4.app (.c l (.c (Zpf _ _ w) .n)));obtain⟨m,a⟩|⟨m,a⟩:=Zaj a
   .apply Ya a 8 [rz,⟨[(1,aB g),(6,aB k),(12,aB t)],[(3,false),(9,false),(15,true)],[],[],[],[],[]⟩,rz] [true] (O5.app (.c m (.c (show true=true from rfl) .n)))
   .obtain⟨x,y,a⟩:=Zac a
    let R6:List RA:=[rz,⟨[(1,aB g),(6,aB k),(12,aB t),(18,aB x)],[(3,false),(9,false),(15,false)],[],[],[],[],[]⟩]
    have O7:Obl _:=(O5.app (.c m (.c (Zpe _ _ y) .n)));obtain⟨f,a⟩|⟨f,a⟩:=Zaj a
    .apply Ya a 8 (R6++[rz]) [true] (O7.app (.c f .n))
    .obtain⟨h,a⟩|⟨h,a⟩:=Zaj a
     .apply Ya a 13 (R6++[rB [(6,true)],rz]) [false,true] (O7.app (.c f (.c h (.c (show true=true from rfl) .n))))
     .obtain⟨b,a⟩|⟨b,a⟩:=Zaj a
      .apply Ya a 13 (R6++[rB [(6,false),(14,true)],rz]) [false,true] (O7.app (.c f (.c h (.c b (.c (show true=true from rfl) .n)))))
      .obtain⟨u,o,a⟩:=Zac a;have O8:Obl _:=(O7.app (.c f (.c h (.c b (.c (Zgb _ _ _ o) .n)))));obtain⟨d,a⟩|⟨d,a⟩:=Zaj a
       .apply Ya a 13 (R6++[⟨[(17,aI u)],[(6,false),(14,false),(22,true)],[],[],[],[],[]⟩,rz]) [false,true] (O8.app (.c d (.c (show true=true from rfl) .n)))
       .obtain⟨z,p,a⟩:=Zac a
        let R9:List RA:=(R6++[⟨[(17,aI u),(24,aI z)],[(6,false),(14,false),(22,false)],[],[],[],[],[]⟩,rz])
        have fH:Obl _:=(O8.app (.c d (.c (Zfm _ _ p) .n)));obtain⟨e,a⟩|⟨e,a⟩:=Zaj a
        .apply Ya a 13 R9 [false,true] (fH.app (.c e .n))
        .exact Ye 16 R9 [false,false] ⟨[],[],[],[],[],[3,5],[3],[]⟩ (fH.app (.c e .n)) (ZmV S0 w0 1000000 (0:Int) i r a)
def Zgu(a:ZaB):Option Bool:=bif(a.fKind==(3:Int))then some true else bif(a.fKind==(4:Int))then some true else some (a.fKind==(13:Int))
theorem ZpT(e:ZaB)(r:Bool)(a:Zgu e=some r):Yp 43 [.agg (ZaB.c e)] (Yk r):=by
 refine Yw Tryz.func43 fun S0 w0=>?_;unfold Zgu at a;obtain⟨b,a⟩|⟨b,a⟩:=Zaj a
 .apply Ya a 4 [rz,rB [(3,true)]] [] (.c b .n)
 .obtain⟨d,a⟩|⟨d,a⟩:=Zaj a
  .apply Ya a 4 [rz,rB [(3,false),(8,true)]] [] (.c b (.c d .n))
  .apply Ya a 4 [rz,rB [(3,false),(8,false)]] [] (.c b (.c d .n))
def Zja:Option Zau:=some (Zau.mk 8 4 4 64 64 1 (ZdS.mk 1 1 1 1) 100 100 1000 2 64 4)
theorem Zkw(r:Zau)(a:Zja=some r):Yp 46 [] (.agg (Zau.c r)):=by
 refine Yw Tryz.func46 fun S0 w0=>?_;unfold Zja at a;apply Ya a 4 [rz,rz] [] .n
def Znw:Option (ByteArray×ByteArray×ByteArray×ByteArray×ByteArray×ByteArray×ByteArray×ByteArray×ByteArray×ByteArray×ByteArray×ByteArray×ByteArray×ByteArray):=some ((⟨#[]⟩ : ByteArray),(⟨#[97,99,99,101,112,116]⟩ : ByteArray),(⟨#[108,101,97,118,101]⟩ : ByteArray),(⟨#[100,105,97,108]⟩ : ByteArray),(⟨#[114,101,115,117,108,116]⟩ : ByteArray),(⟨#[98,108,97,109,101]⟩ : ByteArray),(⟨#[98,97,110]⟩ : ByteArray),(⟨#[117,110,98,97,110]⟩ : ByteArray),(⟨#[98,97,110,110,101,100]⟩ : ByteArray),(⟨#[116,105,99,107]⟩ : ByteArray),(⟨#[108,105,115,116]⟩ : ByteArray),(⟨#[112,111,110,103]⟩ : ByteArray),(⟨#[119,111,114,107]⟩ : ByteArray),(⟨#[108,101,97,114,110]⟩ : ByteArray))
theorem ZvG(r:(ByteArray×ByteArray×ByteArray×ByteArray×ByteArray×ByteArray×ByteArray×ByteArray×ByteArray×ByteArray×ByteArray×ByteArray×ByteArray×ByteArray))(a:Znw=some r):Yp 211 [] (.agg ((cP cS (cP cS (cP cS (cP cS (cP cS (cP cS (cP cS (cP cS (cP cS (cP cS (cP cS (cP cS (cP cS cS))))))))))))) r)):=by
 refine Yw Tryz.func211 fun S0 w0=>?_;unfold Znw at a;apply Ya a 4 [rz,rz] [] .n
def ZsH(b:List ByteArray)(a:Int):Option ByteArray:=bif(decide (a<(0:Int)))then some (⟨#[]⟩ : ByteArray)else bif(decide (a>=(b.length:Int)))then some (⟨#[]⟩ : ByteArray)else need (0<=a/\a<(b.length:Int))<|some (b.getD a.toNat ByteArray.empty)
theorem ZAl(e:List ByteArray)(f:Int)(r:ByteArray)(a:ZsH e f=some r):Yp 212 [.one (cL 1 cS ByteArray.empty e),Yj f] (.one (.lit (.string r))):=by
 refine Yw Tryz.func212 fun S0 w0=>?_;unfold ZsH at a;obtain⟨b,a⟩|⟨b,a⟩:=Zaj a
 .apply Ya a 8 [rz,rB [(2,true)],rz] [true] (.c b (.c (show true=true from rfl) .n))
 .obtain⟨d,a⟩|⟨d,a⟩:=Zaj a
  .apply Ya a 8 [rz,rB [(2,false)],rz] [true] (.c b (.c d .n))
  .obtain⟨g,a⟩:=Zar a;apply Ya a 9 [rz,rB [(2,false)],rz] [false] (.c b (.c d (.c g .n)))
def ZmI(b:Int):Option ByteArray:=(Znw).bind fun a=>(ZsH ([a.1,a.2.1,a.2.2.1,a.2.2.2.1,a.2.2.2.2.1,a.2.2.2.2.2.1,a.2.2.2.2.2.2.1,a.2.2.2.2.2.2.2.1,a.2.2.2.2.2.2.2.2.1,a.2.2.2.2.2.2.2.2.2.1,a.2.2.2.2.2.2.2.2.2.2.1,a.2.2.2.2.2.2.2.2.2.2.2.1,a.2.2.2.2.2.2.2.2.2.2.2.2.1,a.2.2.2.2.2.2.2.2.2.2.2.2.2]:List ByteArray) b).bind fun c=>some c
theorem ZrE(d:Int)(r:ByteArray)(b:ZmI d=some r):Yp 133 [Yj d] (.one (.lit (.string r))):=by
 refine Yw Tryz.func133 fun S0 w0=>?_;unfold ZmI at b;obtain⟨a,e,f,g,b⟩:=Yv b;apply Ya b 6 [rz,rA [(0,aG ((cP cS (cP cS (cP cS (cP cS (cP cS (cP cS (cP cS (cP cS (cP cS (cP cS (cP cS (cP cS (cP cS cS))))))))))))) a))],⟨[(2,.r (.one (.lit (.string e))) [])],[],[(0,[3])],[],[],[(0,(([a.1,a.2.1,a.2.2.1,a.2.2.2.1,a.2.2.2.2.1,a.2.2.2.2.2.1,a.2.2.2.2.2.2.1,a.2.2.2.2.2.2.2.1,a.2.2.2.2.2.2.2.2.1,a.2.2.2.2.2.2.2.2.2.1,a.2.2.2.2.2.2.2.2.2.2.1,a.2.2.2.2.2.2.2.2.2.2.2.1,a.2.2.2.2.2.2.2.2.2.2.2.2.1,a.2.2.2.2.2.2.2.2.2.2.2.2.2]:List ByteArray).length,Zap cS ByteArray.empty ([a.1,a.2.1,a.2.2.1,a.2.2.2.1,a.2.2.2.2.1,a.2.2.2.2.2.1,a.2.2.2.2.2.2.1,a.2.2.2.2.2.2.2.1,a.2.2.2.2.2.2.2.2.1,a.2.2.2.2.2.2.2.2.2.1,a.2.2.2.2.2.2.2.2.2.2.1,a.2.2.2.2.2.2.2.2.2.2.2.1,a.2.2.2.2.2.2.2.2.2.2.2.2.1,a.2.2.2.2.2.2.2.2.2.2.2.2.2]:List ByteArray)))],[]⟩] [] (.c (ZvG _ f) (.c (show ([a.1,a.2.1,a.2.2.1,a.2.2.2.1,a.2.2.2.2.1,a.2.2.2.2.2.1,a.2.2.2.2.2.2.1,a.2.2.2.2.2.2.2.1,a.2.2.2.2.2.2.2.2.1,a.2.2.2.2.2.2.2.2.2.1,a.2.2.2.2.2.2.2.2.2.2.1,a.2.2.2.2.2.2.2.2.2.2.2.1,a.2.2.2.2.2.2.2.2.2.2.2.2.1,a.2.2.2.2.2.2.2.2.2.2.2.2.2]:List ByteArray).length=14/\∀i j,i<14->j<1->Zap cS ByteArray.empty ([a.1,a.2.1,a.2.2.1,a.2.2.2.1,a.2.2.2.2.1,a.2.2.2.2.2.1,a.2.2.2.2.2.2.1,a.2.2.2.2.2.2.2.1,a.2.2.2.2.2.2.2.2.1,a.2.2.2.2.2.2.2.2.2.1,a.2.2.2.2.2.2.2.2.2.2.1,a.2.2.2.2.2.2.2.2.2.2.2.1,a.2.2.2.2.2.2.2.2.2.2.2.2.1,a.2.2.2.2.2.2.2.2.2.2.2.2.2]:List ByteArray) i j=([.lit (.string a.1),.lit (.string a.2.1),.lit (.string a.2.2.1),.lit (.string a.2.2.2.1),.lit (.string a.2.2.2.2.1),.lit (.string a.2.2.2.2.2.1),.lit (.string a.2.2.2.2.2.2.1),.lit (.string a.2.2.2.2.2.2.2.1),.lit (.string a.2.2.2.2.2.2.2.2.1),.lit (.string a.2.2.2.2.2.2.2.2.2.1),.lit (.string a.2.2.2.2.2.2.2.2.2.2.1),.lit (.string a.2.2.2.2.2.2.2.2.2.2.2.1),.lit (.string a.2.2.2.2.2.2.2.2.2.2.2.2.1),.lit (.string a.2.2.2.2.2.2.2.2.2.2.2.2.2)]:List C).getD (0+(i * 1+j)) .junk from⟨rfl,ZIN (sz:=1) cS ByteArray.empty ([a.1,a.2.1,a.2.2.1,a.2.2.2.1,a.2.2.2.2.1,a.2.2.2.2.2.1,a.2.2.2.2.2.2.1,a.2.2.2.2.2.2.2.1,a.2.2.2.2.2.2.2.2.1,a.2.2.2.2.2.2.2.2.2.1,a.2.2.2.2.2.2.2.2.2.2.1,a.2.2.2.2.2.2.2.2.2.2.2.1,a.2.2.2.2.2.2.2.2.2.2.2.2.1,a.2.2.2.2.2.2.2.2.2.2.2.2.2]:List ByteArray) [.lit (.string a.1),.lit (.string a.2.1),.lit (.string a.2.2.1),.lit (.string a.2.2.2.1),.lit (.string a.2.2.2.2.1),.lit (.string a.2.2.2.2.2.1),.lit (.string a.2.2.2.2.2.2.1),.lit (.string a.2.2.2.2.2.2.2.1),.lit (.string a.2.2.2.2.2.2.2.2.1),.lit (.string a.2.2.2.2.2.2.2.2.2.1),.lit (.string a.2.2.2.2.2.2.2.2.2.2.1),.lit (.string a.2.2.2.2.2.2.2.2.2.2.2.1),.lit (.string a.2.2.2.2.2.2.2.2.2.2.2.2.1),.lit (.string a.2.2.2.2.2.2.2.2.2.2.2.2.2)] (fun _=>rfl) rfl⟩) (.c (ZAl _ _ _ g) .n)))
def ZkG(a:Int)(b:Bool):Option (List Int):=bif b then some ([(3:Int)]:List Int)else bif(a==(4:Int))then some ([(0:Int),(5:Int),(3:Int),(4:Int)]:List Int)else bif(a==(5:Int))then some ([(0:Int),(4:Int),(3:Int)]:List Int)else bif(a==(6:Int))then some ([(1:Int),(4:Int),(3:Int)]:List Int)else bif(a==(7:Int))then some ([(1:Int)]:List Int)else bif(a==(8:Int))then some ([(2:Int),(3:Int)]:List Int)else bif(a==(11:Int))then some ([(0:Int),(4:Int)]:List Int)else some ([]:List Int)
theorem Zny(S0:Nat->Prop)(w0:ZaW)(p:Int)(l:Bool)(r:List Int)(a:ZkG p l=some r):Yt 34 S0 w0 Tryz.f134 [(99999,.rows 181 1 r.length (Zap (cI .i64) (0:Int) r))] (.one (.osl 99999 r.length)) [1,0,1,0,1,1,1,1,1] ⟨[(3,(Yj p)),(12,(Yk l))],[]⟩:=by
 unfold ZkG at a;obtain⟨b,a⟩|⟨b,a⟩:=Zaj a
 .apply Yc a 3 [rA [(0,.c ([(3:Int)]:List Int).length (Zap (cI .i64) (0:Int) ([(3:Int)]:List Int)))]] [true] ⟨[],[],[],[],[],[2],[15],[(15,99999)]⟩ (.c b (.c (show ([(3:Int)]:List Int).length=1 from rfl) (.c (show ∀i j,i<1->j<1->Zap (cI .i64) (0:Int) ([(3:Int)]:List Int) i j=(([(3:Int)]:List Int).flatMap (cI .i64)).getD (i * 1+j) .junk from(fun i j hi hj=>ZaO (sz:=1) (e:=(cI .i64)) (d:=(0:Int)) (fun _=>rfl) ([(3:Int)]:List Int) i j hi hj)) .n)))
 .obtain⟨f,a⟩|⟨f,a⟩:=Zaj a
  .apply Yc a 6 [rz,rA [(0,.c ([(0:Int),(5:Int),(3:Int),(4:Int)]:List Int).length (Zap (cI .i64) (0:Int) ([(0:Int),(5:Int),(3:Int),(4:Int)]:List Int)))]] [false,true] ⟨[],[],[],[],[],[2],[18],[(18,99999)]⟩ (.c b (.c f (.c (show ([(0:Int),(5:Int),(3:Int),(4:Int)]:List Int).length=4 from rfl) (.c (show ∀i j,i<4->j<1->Zap (cI .i64) (0:Int) ([(0:Int),(5:Int),(3:Int),(4:Int)]:List Int) i j=(([(0:Int),(5:Int),(3:Int),(4:Int)]:List Int).flatMap (cI .i64)).getD (i * 1+j) .junk from(fun i j hi hj=>ZaO (sz:=1) (e:=(cI .i64)) (d:=(0:Int)) (fun _=>rfl) ([(0:Int),(5:Int),(3:Int),(4:Int)]:List Int) i j hi hj)) .n))))
  .obtain⟨k,a⟩|⟨k,a⟩:=Zaj a
   .apply Yc a 9 [rz,rz,rA [(0,.c ([(0:Int),(4:Int),(3:Int)]:List Int).length (Zap (cI .i64) (0:Int) ([(0:Int),(4:Int),(3:Int)]:List Int)))]] [false,false,true] ⟨[],[],[],[],[],[2],[21],[(21,99999)]⟩ (.c b (.c f (.c k (.c (show ([(0:Int),(4:Int),(3:Int)]:List Int).length=3 from rfl) (.c (show ∀i j,i<3->j<1->Zap (cI .i64) (0:Int) ([(0:Int),(4:Int),(3:Int)]:List Int) i j=(([(0:Int),(4:Int),(3:Int)]:List Int).flatMap (cI .i64)).getD (i * 1+j) .junk from(fun i j hi hj=>ZaO (sz:=1) (e:=(cI .i64)) (d:=(0:Int)) (fun _=>rfl) ([(0:Int),(4:Int),(3:Int)]:List Int) i j hi hj)) .n)))))
   .obtain⟨m,a⟩|⟨m,a⟩:=Zaj a
    .apply Yc a 12 [rz,rz,rz,rA [(0,.c ([(1:Int),(4:Int),(3:Int)]:List Int).length (Zap (cI .i64) (0:Int) ([(1:Int),(4:Int),(3:Int)]:List Int)))]] [false,false,false,true] ⟨[],[],[],[],[],[2],[24],[(24,99999)]⟩ (.c b (.c f (.c k (.c m (.c (show ([(1:Int),(4:Int),(3:Int)]:List Int).length=3 from rfl) (.c (show ∀i j,i<3->j<1->Zap (cI .i64) (0:Int) ([(1:Int),(4:Int),(3:Int)]:List Int) i j=(([(1:Int),(4:Int),(3:Int)]:List Int).flatMap (cI .i64)).getD (i * 1+j) .junk from(fun i j hi hj=>ZaO (sz:=1) (e:=(cI .i64)) (d:=(0:Int)) (fun _=>rfl) ([(1:Int),(4:Int),(3:Int)]:List Int) i j hi hj)) .n))))))
    .obtain⟨o,a⟩|⟨o,a⟩:=Zaj a
     .apply Yc a 15 [rz,rz,rz,rz,rA [(0,.c ([(1:Int)]:List Int).length (Zap (cI .i64) (0:Int) ([(1:Int)]:List Int)))]] [false,false,false,false,true] ⟨[],[],[],[],[],[2],[27],[(27,99999)]⟩ (.c b (.c f (.c k (.c m (.c o (.c (show ([(1:Int)]:List Int).length=1 from rfl) (.c (show ∀i j,i<1->j<1->Zap (cI .i64) (0:Int) ([(1:Int)]:List Int) i j=(([(1:Int)]:List Int).flatMap (cI .i64)).getD (i * 1+j) .junk from(fun i j hi hj=>ZaO (sz:=1) (e:=(cI .i64)) (d:=(0:Int)) (fun _=>rfl) ([(1:Int)]:List Int) i j hi hj)) .n)))))))
     .obtain⟨g,a⟩|⟨g,a⟩:=Zaj a
      .apply Yc a 18 [rz,rz,rz,rz,rz,rA [(0,.c ([(2:Int),(3:Int)]:List Int).length (Zap (cI .i64) (0:Int) ([(2:Int),(3:Int)]:List Int)))]] [false,false,false,false,false,true] ⟨[],[],[],[],[],[2],[30],[(30,99999)]⟩ (.c b (.c f (.c k (.c m (.c o (.c g (.c (show ([(2:Int),(3:Int)]:List Int).length=2 from rfl) (.c (show ∀i j,i<2->j<1->Zap (cI .i64) (0:Int) ([(2:Int),(3:Int)]:List Int) i j=(([(2:Int),(3:Int)]:List Int).flatMap (cI .i64)).getD (i * 1+j) .junk from(fun i j hi hj=>ZaO (sz:=1) (e:=(cI .i64)) (d:=(0:Int)) (fun _=>rfl) ([(2:Int),(3:Int)]:List Int) i j hi hj)) .n))))))))
      .have O1:Obl _:=(.c b (.c f (.c k (.c m (.c o (.c g .n))))));obtain⟨h,a⟩|⟨h,a⟩:=Zaj a
       .apply Yc a 21 [rz,rz,rz,rz,rz,rz,rA [(0,.c ([(0:Int),(4:Int)]:List Int).length (Zap (cI .i64) (0:Int) ([(0:Int),(4:Int)]:List Int)))]] [false,false,false,false,false,false,true] ⟨[],[],[],[],[],[2],[33],[(33,99999)]⟩ (O1.app (.c h (.c (show ([(0:Int),(4:Int)]:List Int).length=2 from rfl) (.c (show ∀i j,i<2->j<1->Zap (cI .i64) (0:Int) ([(0:Int),(4:Int)]:List Int) i j=(([(0:Int),(4:Int)]:List Int).flatMap (cI .i64)).getD (i * 1+j) .junk from(fun i j hi hj=>ZaO (sz:=1) (e:=(cI .i64)) (d:=(0:Int)) (fun _=>rfl) ([(0:Int),(4:Int)]:List Int) i j hi hj)) .n))))
       .apply Yc a 23 [rz,rz,rz,rz,rz,rz,rz] [false,false,false,false,false,false,false] ⟨[],[],[],[],[(2,99999,181,1,Zap (cI .i64) (0:Int) [])],[2],[99999],[]⟩ (O1.app (.c h .n))
def ZiB(a:Int)(b:Bool):Option (List Int):=bif b then some ([(0:Int),(3:Int)]:List Int)else bif(a==(2:Int))then some ([(0:Int)]:List Int)else bif(a==(3:Int))then ZkG a (a==(3:Int))else ZkG a (a==(9:Int))
theorem ZkH(S0:Nat->Prop)(w0:ZaW)(b:Int)(k:Bool)(r:List Int)(a:ZiB b k=some r):Yt 34 S0 w0 Tryz.f134 [(99999,.rows 181 1 r.length (Zap (cI .i64) (0:Int) r))] (.one (.osl 99999 r.length)) [1,0,1,0,1] ⟨[(3,(Yj b)),(4,(Yk k))],[]⟩:=by
 unfold ZiB at a;obtain⟨f,a⟩|⟨f,a⟩:=Zaj a
 .apply Yc a 3 [rA [(0,.c ([(0:Int),(3:Int)]:List Int).length (Zap (cI .i64) (0:Int) ([(0:Int),(3:Int)]:List Int)))]] [true] ⟨[],[],[],[],[],[2],[8],[(8,99999)]⟩ (.c f (.c (show ([(0:Int),(3:Int)]:List Int).length=2 from rfl) (.c (show ∀i j,i<2->j<1->Zap (cI .i64) (0:Int) ([(0:Int),(3:Int)]:List Int) i j=(([(0:Int),(3:Int)]:List Int).flatMap (cI .i64)).getD (i * 1+j) .junk from(fun i j hi hj=>ZaO (sz:=1) (e:=(cI .i64)) (d:=(0:Int)) (fun _=>rfl) ([(0:Int),(3:Int)]:List Int) i j hi hj)) .n)))
 .obtain⟨g,a⟩|⟨g,a⟩:=Zaj a
  .apply Yc a 6 [rz,rA [(0,.c ([(0:Int)]:List Int).length (Zap (cI .i64) (0:Int) ([(0:Int)]:List Int)))]] [false,true] ⟨[],[],[],[],[],[2],[11],[(11,99999)]⟩ (.c f (.c g (.c (show ([(0:Int)]:List Int).length=1 from rfl) (.c (show ∀i j,i<1->j<1->Zap (cI .i64) (0:Int) ([(0:Int)]:List Int) i j=(([(0:Int)]:List Int).flatMap (cI .i64)).getD (i * 1+j) .junk from(fun i j hi hj=>ZaO (sz:=1) (e:=(cI .i64)) (d:=(0:Int)) (fun _=>rfl) ([(0:Int)]:List Int) i j hi hj)) .n))))
  .obtain⟨h,a⟩|⟨h,a⟩:=Zaj a
   .exact Ye 9 [rz,rz] [false,false,true] (Yi [3,12]) (.c f (.c g (.c h .n))) (Zny S0 w0 b (b==(3:Int)) r a)
   .exact Ye 9 [rz,rz,rz] [false,false,false] (Yi [3,12]) (.c f (.c g (.c h .n))) (Zny S0 w0 b (b==(9:Int)) r a)
def ZjT(a:Int):Option (List Int):=bif(a==(1:Int))then ZiB a (a==(1:Int))else bif(a==(12:Int))then ZiB a (a==(12:Int))else ZiB a (a==(13:Int))
theorem Zuf(b:Int)(r:List Int)(a:ZjT b=some r):Yq 134 [] [Yj b] [(99999,.rows 181 1 r.length (Zap (cI .i64) (0:Int) r))] (.one (.osl 99999 r.length)):=by
 refine Yx Tryz.func134 fun S0 w0=>?_;unfold ZjT at a;obtain⟨d,a⟩|⟨d,a⟩:=Zaj a
 .exact Ye 11 [rz,rz,rz] [true] (Yi [3,4]) (.c d .n) (ZkH S0 w0 b (b==(1:Int)) r a)
 .obtain⟨e,a⟩|⟨e,a⟩:=Zaj a
  .exact Ye 14 [rz,rz,rz,rz] [false,true] (Yi [3,4]) (.c d (.c e .n)) (ZkH S0 w0 b (b==(12:Int)) r a)
  .exact Ye 14 [rz,rz,rz,rz,rz] [false,false] (Yi [3,4]) (.c d (.c e .n)) (ZkH S0 w0 b (b==(13:Int)) r a)
theorem ZvI(a:Int)(r:List Int)(b:ZjT a=some r):Yp 134 [Yj a] (.one (cL 1 (cI .i64) (0:Int) r)):=(Zuf a r b).pure
def ZoA(a:Int):Option Zai:=some (Zai.mk false 0 (IntKind.wrap .u64 a))
theorem ZtV(a:Int)(r:Zai)(b:ZoA a=some r):Yp 282 [.one (.lit (.int .u32 a))] (.agg (Zai.c r)):=by
 refine Yw Tryz.func282 fun S0 w0=>?_;unfold ZoA at b;apply Ya b 4 [rz,rz] [] .n
def ZsN(b a:Int):Option Zai:=bif(b==(0:Int))then bif((Int.fdiv a (2 ^ (min (32:Int).toNat (IntKind.bits .u64))))==(65535:Int))then(ZoA (IntKind.wrap .u32 (IntKind.wrap .u64 (((BitVec.ofInt (IntKind.bits .u64) a) &&& (BitVec.ofInt (IntKind.bits .u64) (4294967295:Int))).toNat:Int)))).bind fun c=>some c else some (Zai.mk true b a)else some (Zai.mk true b a)
theorem ZAm(e f:Int)(r:Zai)(a:ZsN e f=some r):Yp 281 [.one (.lit (.int .u64 e)),.one (.lit (.int .u64 f))] (.agg (Zai.c r)):=by
 refine Yw Tryz.func281 fun S0 w0=>?_;unfold ZsN at a;obtain⟨b,a⟩|⟨b,a⟩:=Zaj a
 .have O1:Obl _:=(.c b (.c (show 0<=(32:Int)from(by decide)) .n));obtain⟨d,a⟩|⟨d,a⟩:=Zaj a
  .obtain⟨g,h,a⟩:=Zac a;apply Ya a 8 [rz,rB [(2,true)],rA [(3,aG (Zai.c g))]] [true] (O1.app (.c d (.c (ZtV _ _ h) .n)))
  .apply Ya a 9 [rz,rB [(2,true)],rz] [false] (O1.app (.c d .n))
 .apply Ya a 9 [rz,rB [(2,false)],rz] [false] (.c b (.c (show false=false from rfl) .n))
def ZeN(a:Zai):Option Bool:=bif a.fV6 then(ZsN a.fHi a.fLo).bind fun b=>some (decide (b=a))else(ZoA (IntKind.wrap .u32 (IntKind.wrap .u64 (((BitVec.ofInt (IntKind.bits .u64) a.fLo) &&& (BitVec.ofInt (IntKind.bits .u64) (4294967295:Int))).toNat:Int)))).bind fun c=>some (decide (c=a))
theorem Zck(b:Zai)(r:Bool)(a:ZeN b=some r):Yp 215 [.agg (Zai.c b)] (Yk r):=by
 refine Yw Tryz.func215 fun S0 w0=>?_;unfold ZeN at a;obtain⟨d,a⟩|⟨d,a⟩:=Zaj a
 .obtain⟨e,g,a⟩:=Zac a;apply Ya a 8 [rz,rz,rA [(4,aG (Zai.c e)),(6,aB (decide (e=b)))]] [true] (.c d (.c (ZAm _ _ _ g) (.c (Zlq e b (.tmp 9) (.tmp 10)) .n)))
 .obtain⟨f,h,a⟩:=Zac a;apply Ya a 9 [rz,rz,rA [(4,aG (Zai.c f)),(6,aB (decide (f=b)))]] [false] (.c d (.c (ZtV _ _ h) (.c (Zlq f b (.tmp 16) (.tmp 17)) .n)))
def Ziw(a:Zan):Option Bool:=(ZeN a.fAddr).bind fun b=>bif b then bif(decide (a.fPort>=(1:Int)))then some (decide (a.fPort<=(65535:Int)))else some false else some false
theorem Ziv(g:Zan)(r:Bool)(a:Ziw g=some r):Yp 213 [.agg (Zan.c g)] (Yk r):=by
 refine Yw Tryz.func213 fun S0 w0=>?_;unfold Ziw at a;obtain⟨d,e,a⟩:=Zac a;obtain⟨b,a⟩|⟨b,a⟩:=Zaj a
 .obtain⟨f,a⟩|⟨f,a⟩:=Zaj a
  .apply Ya a 4 [rz,⟨[(2,aB d)],[(3,true),(8,true)],[],[],[],[],[]⟩] [] (.c (Zck _ _ e) (.c b (.c f .n)))
  .apply Ya a 4 [rz,⟨[(2,aB d)],[(3,true),(8,false)],[],[],[],[],[]⟩] [] (.c (Zck _ _ e) (.c b (.c f .n)))
 .apply Ya a 4 [rz,⟨[(2,aB d)],[(3,false)],[],[],[],[],[]⟩] [] (.c (Zck _ _ e) (.c b .n))
def ZdR(a:Zai):Option Int:=bif a.fV6 then some (128:Int)else some (32:Int)
theorem Zhh(d:Zai)(r:Int)(a:ZdR d=some r):Yp 293 [.agg (Zai.c d)] (Yj r):=by
 refine Yw Tryz.func293 fun S0 w0=>?_;unfold ZdR at a;obtain⟨b,a⟩|⟨b,a⟩:=Zaj a
 .apply Ya a 8 [rz,rz,rz] [true] (.c b .n)
 .apply Ya a 9 [rz,rz,rz] [false] (.c b .n)
def Zgy(a:Int):Option Int:=some (IntKind.wrap .u64 (((BitVec.ofInt (IntKind.bits .u64) (Int.fdiv (IntKind.wrap .u64 (((BitVec.ofInt (IntKind.bits .u64) (IntKind.wrap .u64 (((BitVec.ofInt (IntKind.bits .u64) (Int.fdiv (IntKind.wrap .u64 (((BitVec.ofInt (IntKind.bits .u64) (IntKind.wrap .u64 (((BitVec.ofInt (IntKind.bits .u64) (Int.fdiv a (2 ^ (min (8:Int).toNat (IntKind.bits .u64))))) &&& (BitVec.ofInt (IntKind.bits .u64) (71777214294589695:Int))).toNat:Int))) ||| (BitVec.ofInt (IntKind.bits .u64) (IntKind.wrap .u64 ((IntKind.wrap .u64 (((BitVec.ofInt (IntKind.bits .u64) a) &&& (BitVec.ofInt (IntKind.bits .u64) (71777214294589695:Int))).toNat:Int)) * 2 ^ (min (8:Int).toNat (IntKind.bits .u64)))))).toNat:Int)) (2 ^ (min (16:Int).toNat (IntKind.bits .u64))))) &&& (BitVec.ofInt (IntKind.bits .u64) (281470681808895:Int))).toNat:Int))) ||| (BitVec.ofInt (IntKind.bits .u64) (IntKind.wrap .u64 ((IntKind.wrap .u64 (((BitVec.ofInt (IntKind.bits .u64) (IntKind.wrap .u64 (((BitVec.ofInt (IntKind.bits .u64) (IntKind.wrap .u64 (((BitVec.ofInt (IntKind.bits .u64) (Int.fdiv a (2 ^ (min (8:Int).toNat (IntKind.bits .u64))))) &&& (BitVec.ofInt (IntKind.bits .u64) (71777214294589695:Int))).toNat:Int))) ||| (BitVec.ofInt (IntKind.bits .u64) (IntKind.wrap .u64 ((IntKind.wrap .u64 (((BitVec.ofInt (IntKind.bits .u64) a) &&& (BitVec.ofInt (IntKind.bits .u64) (71777214294589695:Int))).toNat:Int)) * 2 ^ (min (8:Int).toNat (IntKind.bits .u64)))))).toNat:Int))) &&& (BitVec.ofInt (IntKind.bits .u64) (281470681808895:Int))).toNat:Int)) * 2 ^ (min (16:Int).toNat (IntKind.bits .u64)))))).toNat:Int)) (2 ^ (min (32:Int).toNat (IntKind.bits .u64))))) ||| (BitVec.ofInt (IntKind.bits .u64) (IntKind.wrap .u64 ((IntKind.wrap .u64 (((BitVec.ofInt (IntKind.bits .u64) (IntKind.wrap .u64 (((BitVec.ofInt (IntKind.bits .u64) (Int.fdiv (IntKind.wrap .u64 (((BitVec.ofInt (IntKind.bits .u64) (IntKind.wrap .u64 (((BitVec.ofInt (IntKind.bits .u64) (Int.fdiv a (2 ^ (min (8:Int).toNat (IntKind.bits .u64))))) &&& (BitVec.ofInt (IntKind.bits .u64) (71777214294589695:Int))).toNat:Int))) ||| (BitVec.ofInt (IntKind.bits .u64) (IntKind.wrap .u64 ((IntKind.wrap .u64 (((BitVec.ofInt (IntKind.bits .u64) a) &&& (BitVec.ofInt (IntKind.bits .u64) (71777214294589695:Int))).toNat:Int)) * 2 ^ (min (8:Int).toNat (IntKind.bits .u64)))))).toNat:Int)) (2 ^ (min (16:Int).toNat (IntKind.bits .u64))))) &&& (BitVec.ofInt (IntKind.bits .u64) (281470681808895:Int))).toNat:Int))) ||| (BitVec.ofInt (IntKind.bits .u64) (IntKind.wrap .u64 ((IntKind.wrap .u64 (((BitVec.ofInt (IntKind.bits .u64) (IntKind.wrap .u64 (((BitVec.ofInt (IntKind.bits .u64) (IntKind.wrap .u64 (((BitVec.ofInt (IntKind.bits .u64) (Int.fdiv a (2 ^ (min (8:Int).toNat (IntKind.bits .u64))))) &&& (BitVec.ofInt (IntKind.bits .u64) (71777214294589695:Int))).toNat:Int))) ||| (BitVec.ofInt (IntKind.bits .u64) (IntKind.wrap .u64 ((IntKind.wrap .u64 (((BitVec.ofInt (IntKind.bits .u64) a) &&& (BitVec.ofInt (IntKind.bits .u64) (71777214294589695:Int))).toNat:Int)) * 2 ^ (min (8:Int).toNat (IntKind.bits .u64)))))).toNat:Int))) &&& (BitVec.ofInt (IntKind.bits .u64) (281470681808895:Int))).toNat:Int)) * 2 ^ (min (16:Int).toNat (IntKind.bits .u64)))))).toNat:Int)) * 2 ^ (min (32:Int).toNat (IntKind.bits .u64)))))).toNat:Int))
theorem ZlR(a r:Int)(b:Zgy a=some r):Yp 414 [.one (.lit (.int .u64 a))] (.one (.lit (.int .u64 r))):=by
 refine Yw Tryz.func414 fun S0 w0=>?_;unfold Zgy at b;apply Ya b 8 [rz,rz,rz,rz] [] (.c (show 0<=(8:Int)from(by decide)) (.c (show 0<=(8:Int)from(by decide)) (.c (show 0<=(16:Int)from(by decide)) (.c (show 0<=(16:Int)from(by decide)) (.c (show 0<=(32:Int)from(by decide)) (.c (show 0<=(32:Int)from(by decide)) .n))))))
def Zit(a:Int):Option Int:=(Zgy (IntKind.wrap .u64 (((BitVec.ofInt (IntKind.bits .u64) (IntKind.wrap .u64 (((BitVec.ofInt (IntKind.bits .u64) (Int.fdiv (IntKind.wrap .u64 (((BitVec.ofInt (IntKind.bits .u64) (IntKind.wrap .u64 (((BitVec.ofInt (IntKind.bits .u64) (Int.fdiv (IntKind.wrap .u64 (((BitVec.ofInt (IntKind.bits .u64) (IntKind.wrap .u64 (((BitVec.ofInt (IntKind.bits .u64) (Int.fdiv a (2 ^ (min (1:Int).toNat (IntKind.bits .u64))))) &&& (BitVec.ofInt (IntKind.bits .u64) (6148914691236517205:Int))).toNat:Int))) ||| (BitVec.ofInt (IntKind.bits .u64) (IntKind.wrap .u64 ((IntKind.wrap .u64 (((BitVec.ofInt (IntKind.bits .u64) a) &&& (BitVec.ofInt (IntKind.bits .u64) (6148914691236517205:Int))).toNat:Int)) * 2 ^ (min (1:Int).toNat (IntKind.bits .u64)))))).toNat:Int)) (2 ^ (min (2:Int).toNat (IntKind.bits .u64))))) &&& (BitVec.ofInt (IntKind.bits .u64) (3689348814741910323:Int))).toNat:Int))) ||| (BitVec.ofInt (IntKind.bits .u64) (IntKind.wrap .u64 ((IntKind.wrap .u64 (((BitVec.ofInt (IntKind.bits .u64) (IntKind.wrap .u64 (((BitVec.ofInt (IntKind.bits .u64) (IntKind.wrap .u64 (((BitVec.ofInt (IntKind.bits .u64) (Int.fdiv a (2 ^ (min (1:Int).toNat (IntKind.bits .u64))))) &&& (BitVec.ofInt (IntKind.bits .u64) (6148914691236517205:Int))).toNat:Int))) ||| (BitVec.ofInt (IntKind.bits .u64) (IntKind.wrap .u64 ((IntKind.wrap .u64 (((BitVec.ofInt (IntKind.bits .u64) a) &&& (BitVec.ofInt (IntKind.bits .u64) (6148914691236517205:Int))).toNat:Int)) * 2 ^ (min (1:Int).toNat (IntKind.bits .u64)))))).toNat:Int))) &&& (BitVec.ofInt (IntKind.bits .u64) (3689348814741910323:Int))).toNat:Int)) * 2 ^ (min (2:Int).toNat (IntKind.bits .u64)))))).toNat:Int)) (2 ^ (min (4:Int).toNat (IntKind.bits .u64))))) &&& (BitVec.ofInt (IntKind.bits .u64) (1085102592571150095:Int))).toNat:Int))) ||| (BitVec.ofInt (IntKind.bits .u64) (IntKind.wrap .u64 ((IntKind.wrap .u64 (((BitVec.ofInt (IntKind.bits .u64) (IntKind.wrap .u64 (((BitVec.ofInt (IntKind.bits .u64) (IntKind.wrap .u64 (((BitVec.ofInt (IntKind.bits .u64) (Int.fdiv (IntKind.wrap .u64 (((BitVec.ofInt (IntKind.bits .u64) (IntKind.wrap .u64 (((BitVec.ofInt (IntKind.bits .u64) (Int.fdiv a (2 ^ (min (1:Int).toNat (IntKind.bits .u64))))) &&& (BitVec.ofInt (IntKind.bits .u64) (6148914691236517205:Int))).toNat:Int))) ||| (BitVec.ofInt (IntKind.bits .u64) (IntKind.wrap .u64 ((IntKind.wrap .u64 (((BitVec.ofInt (IntKind.bits .u64) a) &&& (BitVec.ofInt (IntKind.bits .u64) (6148914691236517205:Int))).toNat:Int)) * 2 ^ (min (1:Int).toNat (IntKind.bits .u64)))))).toNat:Int)) (2 ^ (min (2:Int).toNat (IntKind.bits .u64))))) &&& (BitVec.ofInt (IntKind.bits .u64) (3689348814741910323:Int))).toNat:Int))) ||| (BitVec.ofInt (IntKind.bits .u64) (IntKind.wrap .u64 ((IntKind.wrap .u64 (((BitVec.ofInt (IntKind.bits .u64) (IntKind.wrap .u64 (((BitVec.ofInt (IntKind.bits .u64) (IntKind.wrap .u64 (((BitVec.ofInt (IntKind.bits .u64) (Int.fdiv a (2 ^ (min (1:Int).toNat (IntKind.bits .u64))))) &&& (BitVec.ofInt (IntKind.bits .u64) (6148914691236517205:Int))).toNat:Int))) ||| (BitVec.ofInt (IntKind.bits .u64) (IntKind.wrap .u64 ((IntKind.wrap .u64 (((BitVec.ofInt (IntKind.bits .u64) a) &&& (BitVec.ofInt (IntKind.bits .u64) (6148914691236517205:Int))).toNat:Int)) * 2 ^ (min (1:Int).toNat (IntKind.bits .u64)))))).toNat:Int))) &&& (BitVec.ofInt (IntKind.bits .u64) (3689348814741910323:Int))).toNat:Int)) * 2 ^ (min (2:Int).toNat (IntKind.bits .u64)))))).toNat:Int))) &&& (BitVec.ofInt (IntKind.bits .u64) (1085102592571150095:Int))).toNat:Int)) * 2 ^ (min (4:Int).toNat (IntKind.bits .u64)))))).toNat:Int))).bind fun b=>some b
theorem Zoj(b r:Int)(a:Zit b=some r):Yp 400 [.one (.lit (.int .u64 b))] (.one (.lit (.int .u64 r))):=by
 refine Yw Tryz.func400 fun S0 w0=>?_;unfold Zit at a;obtain⟨d,e,a⟩:=Zac a;apply Ya a 10 [rz,rz,rz,rz,rA [(1,.r (.one (.lit (.int .u64 d))) [])]] [] (.c (show 0<=(1:Int)from(by decide)) (.c (show 0<=(1:Int)from(by decide)) (.c (show 0<=(2:Int)from(by decide)) (.c (show 0<=(2:Int)from(by decide)) (.c (show 0<=(4:Int)from(by decide)) (.c (show 0<=(4:Int)from(by decide)) (.c (ZlR _ _ e) .n)))))))
def Zfi(a:Int):Option Int:=need (0<=(if(64:Int)<(if(0:Int)>a then(0:Int)else a)then(64:Int)else(if(0:Int)>a then(0:Int)else a)))<|(Zit (IntKind.wrap .u64 ((IntKind.wrap .u64 ((1:Int) * 2 ^ (min (if(64:Int)<(if(0:Int)>a then(0:Int)else a)then(64:Int)else(if(0:Int)>a then(0:Int)else a)).toNat (IntKind.bits .u64))))-(1:Int)))).bind fun b=>some b
theorem Zpn(b r:Int)(a:Zfi b=some r):Yp 378 [Yj b] (.one (.lit (.int .u64 r))):=by
 refine Yw Tryz.func378 fun S0 w0=>?_;unfold Zfi at a;obtain⟨o1,a⟩:=Zar a;obtain⟨d,e,a⟩:=Zac a;apply Ya a 6 [rz,rz,rA [(3,.r (.one (.lit (.int .u64 d))) [])]] [] (.c o1 (.c (Zoj _ _ e) .n))
def ZkE(b c a:Int):Option (Int×Int):=(Zfi a).bind fun d=>(Zfi (ZbT a (64:Int))).bind fun e=>some ((IntKind.wrap .u64 (((BitVec.ofInt (IntKind.bits .u64) b) &&& (BitVec.ofInt (IntKind.bits .u64) d)).toNat:Int)),(IntKind.wrap .u64 (((BitVec.ofInt (IntKind.bits .u64) c) &&& (BitVec.ofInt (IntKind.bits .u64) e)).toNat:Int)))
theorem Zue(b d e:Int)(r:(Int×Int))(a:ZkE b d e=some r):Yp 379 [.one (.lit (.int .u64 b)),.one (.lit (.int .u64 d)),Yj e] (.tup [(false,(cI .u64) r.1),(false,(cI .u64) r.2)]):=by
 refine Yw Tryz.func379 fun S0 w0=>?_;unfold ZkE at a;obtain⟨f,g,h,i,a⟩:=Yv a;apply Ya a 4 [rz,rA [(2,.r (.one (.lit (.int .u64 f))) []),(7,.r (.one (.lit (.int .u64 g))) [])]] [] (.c (Zpn _ _ h) (.c (Zpn _ _ i) .n))
def ZhV(a:Zai)(b:Int):Option Zai:=(ZeN a).bind fun e=>bif(!e)then some (Zai.mk false 0 0)else(ZdR a).bind fun c=>bif(!a.fV6)then(Zfi (if c<(if(0:Int)>b then(0:Int)else b)then c else(if(0:Int)>b then(0:Int)else b))).bind fun f=>some (Zai.mk a.fV6 a.fHi (IntKind.wrap .u64 (((BitVec.ofInt (IntKind.bits .u64) a.fLo) &&& (BitVec.ofInt (IntKind.bits .u64) (Int.fdiv f (2 ^ (min (32:Int).toNat (IntKind.bits .u64)))))).toNat:Int)))else(ZkE a.fHi a.fLo (if c<(if(0:Int)>b then(0:Int)else b)then c else(if(0:Int)>b then(0:Int)else b))).bind fun d=>some (Zai.mk a.fV6 d.1 d.2)
theorem ZrF(f:Zai)(g:Int)(r:Zai)(a:ZhV f g=some r):Yp 341 [.agg (Zai.c f),Yj g] (.agg (Zai.c r)):=by
 refine Yw Tryz.func341 fun S0 w0=>?_;unfold ZhV at a;obtain⟨b,h,a⟩:=Zac a;obtain⟨d,a⟩|⟨d,a⟩:=Zaj a
 .apply Ya a 8 [rz,rA [(1,aB b)],rz] [true] (.c (Zck _ _ h) (.c d .n))
 .obtain⟨i,k,a⟩:=Zac a;have O1:Obl _:=(.c (Zck _ _ h) (.c d (.c (Zhh _ _ k) .n)));obtain⟨e,a⟩|⟨e,a⟩:=Zaj a
  .obtain⟨l,m,a⟩:=Zac a;apply Ya a 17 [rz,rA [(1,aB b)],rA [(3,aI i)],rz,rA [(3,.r (.one (.lit (.int .u64 l))) [])],rz] [false,true] (O1.app (.c e (.c (Zpn _ _ m) (.c (show 0<=(32:Int)from(by decide)) .n))))
  .obtain⟨j,o,a⟩:=Zac a;apply Ya a 18 [rz,rA [(1,aB b)],rA [(3,aI i)],rz,rA [(5,.r (.tup [(false,(cI .u64) j.1),(false,(cI .u64) j.2)]) [])],rz] [false,false] (O1.app (.c e (.c (Zue _ _ _ _ o) .n)))
def ZfH(b:Zai)(a:Int):Option (Zag×Bool):=(ZeN b).bind fun c=>bif(!c)then some ((Zag.mk (Zai.mk false 0 0) 0),false)else bif(decide (a<(0:Int)))then some ((Zag.mk (Zai.mk false 0 0) 0),false)else(ZdR b).bind fun d=>bif(decide (a>d))then some ((Zag.mk (Zai.mk false 0 0) 0),false)else(ZhV b a).bind fun e=>some ((Zag.mk e a),true)
theorem Zgh(h:Zai)(i:Int)(r:(Zag×Bool))(a:ZfH h i=some r):Yp 280 [.agg (Zai.c h),Yj i] (.tup [(true,Zag.c r.1),(false,cB r.2)]):=by
 refine Yw Tryz.func280 fun S0 w0=>?_;unfold ZfH at a;obtain⟨d,e,a⟩:=Zac a;obtain⟨b,a⟩|⟨b,a⟩:=Zaj a
 .apply Ya a 8 [rz,⟨[(1,aB d)],[(3,true)],[],[],[],[],[]⟩,rz] [true] (.c (Zck _ _ e) (.c b (.c (show true=true from rfl) .n)))
 .obtain⟨f,a⟩|⟨f,a⟩:=Zaj a
  .apply Ya a 8 [rz,⟨[(1,aB d)],[(3,false),(7,true)],[],[],[],[],[]⟩,rz] [true] (.c (Zck _ _ e) (.c b (.c f (.c (show true=true from rfl) .n))))
  .obtain⟨j,k,a⟩:=Zac a
   let R1:List RA:=[rz,⟨[(1,aB d),(10,aI j)],[(3,false),(7,false)],[],[],[],[],[]⟩]
   have O2:Obl _:=(.c (Zck _ _ e) (.c b (.c f (.c (Zhh _ _ k) .n))));obtain⟨g,a⟩|⟨g,a⟩:=Zaj a
   .apply Ya a 8 (R1++[rz]) [true] (O2.app (.c g .n))
   .obtain⟨l,m,a⟩:=Zac a;apply Ya a 9 (R1++[rA [(2,aG (Zai.c l))]]) [false] (O2.app (.c g (.c (ZrF _ _ _ m) .n)))
def ZhG(a:Zag):Option Bool:=(ZfH a.fAddr a.fBits).bind fun b=>bif b.2 then some (decide (b.1=a))else some false
theorem ZdE(b:Zag)(r:Bool)(a:ZhG b=some r):Yp 214 [.agg (Zag.c b)] (Yk r):=by
 refine Yw Tryz.func214 fun S0 w0=>?_;unfold ZhG at a;obtain⟨d,f,a⟩:=Zac a
 let R1:List RA:=[rz,rA [(4,.r (.tup [(true,Zag.c d.1),(false,cB d.2)]) [])]]
 obtain⟨e,a⟩|⟨e,a⟩:=Zaj a
 .apply Ya a 6 (R1++[⟨[(4,aB (decide (d.1=b)))],[(1,true)],[],[],[],[],[]⟩]) [] (.c (Zgh _ _ _ f) (.c e (.c (Zpq d.1 b (.tmp 15) (.tmp 16)) .n)))
 .apply Ya a 6 (R1++[rB [(1,false)]]) [] (.c (Zgh _ _ _ f) (.c e .n))
def Zlh(a:Int):Option (Int×Int):=bif(a==(4:Int))then some ((0:Int),(1073741824:Int))else bif(a==(5:Int))then some ((1:Int),(5:Int))else bif(a==(6:Int))then some ((1:Int),(1099511627776:Int))else some ((1:Int),(1048576:Int))
theorem ZwJ(f:Int)(r:(Int×Int))(a:Zlh f=some r):Yp 216 [Yj f] (.tup [(false,(cI .i64) r.1),(false,(cI .i64) r.2)]):=by
 refine Yw Tryz.func216 fun S0 w0=>?_;unfold Zlh at a;obtain⟨b,a⟩|⟨b,a⟩:=Zaj a
 .apply Ya a 11 [rz,rz,rz,rz] [true] (.c b .n)
 .obtain⟨d,a⟩|⟨d,a⟩:=Zaj a
  .apply Ya a 14 [rz,rz,rz,rz,rz] [false,true] (.c b (.c d .n))
  .obtain⟨e,a⟩|⟨e,a⟩:=Zaj a
   .apply Ya a 17 [rz,rz,rz,rz,rz,rz] [false,false,true] (.c b (.c d (.c e .n)))
   .apply Ya a 19 [rz,rz,rz,rz,rz,rz] [false,false,false] (.c b (.c d (.c e .n)))
def ZlI(a:ZaB)(b:Int):Option Bool:=bif(b==(0:Int))then(Ziw a.fEnd).bind fun d=>some d else bif(b==(1:Int))then(ZhG a.fNet).bind fun e=>some e else bif(b==(2:Int))then(ZeN a.fEnd.fAddr).bind fun f=>some f else bif(b==(3:Int))then bif(decide (a.fNow>=(0:Int)))then some (decide (a.fNow<=(1099511627776:Int)))else some false else bif(b==(4:Int))then(Zlh a.fKind).bind fun c=>bif(decide (a.fNum>=c.1))then some (decide (a.fNum<=c.2))else some false else some true
theorem ZvH(k:ZaB)(l:Int)(r:Bool)(a:ZlI k l=some r):Yp 135 [.agg (ZaB.c k),Yj l] (Yk r):=by
 refine Yw Tryz.func135 fun S0 w0=>?_;unfold ZlI at a;obtain⟨b,a⟩|⟨b,a⟩:=Zaj a
 .obtain⟨o,p,a⟩:=Zac a;apply Ya a 11 [rz,rz,rz,rA [(2,aB o)]] [true] (.c b (.c (Ziv _ _ p) .n))
 .obtain⟨d,a⟩|⟨d,a⟩:=Zaj a
  .obtain⟨q,s,a⟩:=Zac a;apply Ya a 14 [rz,rz,rz,rz,rA [(2,aB q)]] [false,true] (.c b (.c d (.c (ZdE _ _ s) .n)))
  .obtain⟨f,a⟩|⟨f,a⟩:=Zaj a
   .obtain⟨t,u,a⟩:=Zac a;apply Ya a 17 [rz,rz,rz,rz,rz,rA [(3,aB t)]] [false,false,true] (.c b (.c d (.c f (.c (Zck _ _ u) .n))))
   .obtain⟨g,a⟩|⟨g,a⟩:=Zaj a
    .obtain⟨h,a⟩|⟨h,a⟩:=Zaj a
     .apply Ya a 20 [rz,rz,rz,rz,rz,rz,rB [(3,true)]] [false,false,false,true] (.c b (.c d (.c f (.c g (.c h .n)))))
     .apply Ya a 20 [rz,rz,rz,rz,rz,rz,rB [(3,false)]] [false,false,false,true] (.c b (.c d (.c f (.c g (.c h .n)))))
    .obtain⟨i,a⟩|⟨i,a⟩:=Zaj a
     .obtain⟨m,j,a⟩:=Zac a
      let R1:List RA:=[rz,rz,rz,rz,rz,rz,rz,rA [(2,.r (.tup [(false,(cI .i64) m.1),(false,(cI .i64) m.2)]) [])]]
      have O2:Obl _:=(.c b (.c d (.c f (.c g (.c i (.c (ZwJ _ _ j) .n))))));obtain⟨e,a⟩|⟨e,a⟩:=Zaj a
      .apply Ya a 25 (R1++[rB [(4,true)]]) [false,false,false,false,true] (O2.app (.c e .n))
      .apply Ya a 25 (R1++[rB [(4,false)]]) [false,false,false,false,true] (O2.app (.c e .n))
     .apply Ya a 25 [rz,rz,rz,rz,rz,rz,rz,rz] [false,false,false,false,false] (.c b (.c d (.c f (.c g (.c i .n)))))
def ZeA:Nat->(List Int)->Int->Int->ZaB->Option Bool|0,_,_,_,_=>none|fu+1,b,c,a,d=>bif(decide (a<c))then need (0<=a/\a<(b.length:Int))<|(ZlI d (b.getD a.toNat (0:Int))).bind fun e=>bif(!e)then some false else ZeA fu b c (ZaA a 1) d else some true
theorem ZsJ(S0:Nat->Prop)(w0:ZaW):∀(g:Nat)(d:List Int)(e f:Int)(a:ZaB)(r:Bool),ZeA g d e f a=some r->Ys 22 S0 w0 Tryz.f66 (Yk r) [1,1,0,1,0] ⟨[(1,.one (.ptr 1 0)),(11,.one (cL 1 (cI .i64) (0:Int) d)),(12,(Yj e)),(13,(Yj f))],[(1,.box [.lit (.int .i64 a.fKind),.lit (.bool a.fEnd.fAddr.fV6),.lit (.int .u64 a.fEnd.fAddr.fHi),.lit (.int .u64 a.fEnd.fAddr.fLo),.lit (.int .i64 a.fEnd.fPort),.lit (.bool a.fNet.fAddr.fV6),.lit (.int .u64 a.fNet.fAddr.fHi),.lit (.int .u64 a.fNet.fAddr.fLo),.lit (.int .i64 a.fNet.fBits),.lit (.int .i64 a.fNow),.lit (.int .i64 a.fNum),.lit (.bool a.fGood)])]⟩:=by
 intro g;induction g with
 |zero=>
  intro d e f a r b;simp[ZeA]at b
 |succ g k=>
  intro d e f a r b;unfold ZeA at b;obtain⟨h,b⟩|⟨h,b⟩:=Zaj b
  .obtain⟨l,b⟩:=Zar b;obtain⟨j,m,b⟩:=Zac b;have O1:Obl _:=(.c h (.c l (.c (ZvH _ _ _ m) .n)));obtain⟨i,b⟩|⟨i,b⟩:=Zaj b
   .apply Ya b 15 [rz,rz,rA [(2,aB j)],rz] [true,true] (O1.app (.c i .n))
   .exact Ye 17 [rz,rz,rA [(2,aB j)],rz] [true,false] ⟨[],[],[],[],[],[1,11,12,13],[1],[]⟩ (O1.app (.c i .n)) (k d e (ZaA f 1) a r b)
  .apply Ya b 8 [rz,rz] [false] (.c h .n)
def ZlJ(a:ZaB):Option Bool:=(ZmI a.fKind).bind fun c=>bif(c.toList==(⟨#[]⟩ : ByteArray).toList)then some false else(ZjT a.fKind).bind fun b=>ZeA (((b.length:Int)-(0:Int)).toNat+2) b (b.length:Int) (0:Int) a
theorem ZmK(d:ZaB)(r:Bool)(a:ZlJ d=some r):Yp 66 [.agg (ZaB.c d)] (Yk r):=by
 refine Yw Tryz.func66 fun S0 w0=>?_;unfold ZlJ at a;obtain⟨g,f,a⟩:=Zac a
 let R2:List RA:=[rz,rA [(2,.r (.one (.lit (.string g))) [])]]
 obtain⟨e,a⟩|⟨e,a⟩:=Zaj a
 .apply Ya a 8 (R2++[rz]) [true] (.c (ZrE _ _ f) (.c e .n))
 .obtain⟨b,h,a⟩:=Zac a;exact Ye 11 (R2++[rA [(2,.r (.one (cL 1 (cI .i64) (0:Int) b)) [])]]) [false] ⟨[],[],[],[],[],[1,11,12,13],[1],[]⟩ (.c (ZrE _ _ f) (.c e (.c (ZvI _ _ h) .n))) (ZsJ S0 w0 (((b.length:Int)-(0:Int)).toNat+2) b (b.length:Int) (0:Int) d r a)
def ZhN(b:Int)(c:Bool)(a d:Zay):Option Zay:=bif c then some (Zay.mk a.fKind 0 0)else bif(b==(5:Int))then some (Zay.mk a.fKind a.fShard 0)else bif(b==(6:Int))then some a else some (Zay.mk 0 0 0)
theorem Zjw(S0:Nat->Prop)(w0:ZaW)(h:Int)(i:Bool)(d e r:Zay)(a:ZhN h i d e=some r):Ys 24 S0 w0 Tryz.f471 (.agg (Zay.c r)) [1,0,1,0,1] ⟨[(1,.one (.ptr 1 0)),(2,.one (.ptr 2 0)),(4,(Yj h)),(5,(Yk i))],[(1,.box [.lit (.int .i64 d.fKind),.lit (.int .i64 d.fShard),.lit (.int .i64 d.fSlot)]),(2,.box [.lit (.int .i64 e.fKind),.lit (.int .i64 e.fShard),.lit (.int .i64 e.fSlot)])]⟩:=by
 unfold ZhN at a;obtain⟨b,a⟩|⟨b,a⟩:=Zaj a
 .apply Ya a 3 [rz] [true] (.c b .n)
 .obtain⟨f,a⟩|⟨f,a⟩:=Zaj a
  .apply Ya a 6 [rz,rz] [false,true] (.c b (.c f .n))
  .obtain⟨g,a⟩|⟨g,a⟩:=Zaj a
   .apply Ya a 9 [rz,rz,rz] [false,false,true] (.c b (.c f (.c g .n)))
   .apply Ya a 11 [rz,rz,rz] [false,false,false] (.c b (.c f (.c g .n)))
def Zlf(a:Zay):Option Zay:=bif(a.fKind==(1:Int))then ZhN a.fKind (a.fKind==(1:Int)) a (Zay.mk 0 0 0)else bif(a.fKind==(2:Int))then ZhN a.fKind (a.fKind==(2:Int)) a (Zay.mk 0 0 0)else bif(a.fKind==(3:Int))then ZhN a.fKind (a.fKind==(3:Int)) a (Zay.mk 0 0 0)else ZhN a.fKind (a.fKind==(4:Int)) a (Zay.mk 0 0 0)
theorem ZoT(a r:Zay)(b:Zlf a=some r):Yp 471 [.agg (Zay.c a)] (.agg (Zay.c r)):=by
 refine Yw Tryz.func471 fun S0 w0=>?_;unfold Zlf at b;obtain⟨d,b⟩|⟨d,b⟩:=Zaj b
 .exact Ye 11 [rz,rz,rz] [true] ⟨[],[],[],[],[],[1,2,4,5],[1,2],[]⟩ (.c d .n) (Zjw S0 w0 a.fKind (a.fKind==(1:Int)) a (Zay.mk 0 0 0) r b)
 .obtain⟨e,b⟩|⟨e,b⟩:=Zaj b
  .exact Ye 14 [rz,rz,rz,rz] [false,true] ⟨[],[],[],[],[],[1,2,4,5],[1,2],[]⟩ (.c d (.c e .n)) (Zjw S0 w0 a.fKind (a.fKind==(2:Int)) a (Zay.mk 0 0 0) r b)
  .obtain⟨f,b⟩|⟨f,b⟩:=Zaj b
   .exact Ye 17 [rz,rz,rz,rz,rz] [false,false,true] ⟨[],[],[],[],[],[1,2,4,5],[1,2],[]⟩ (.c d (.c e (.c f .n))) (Zjw S0 w0 a.fKind (a.fKind==(3:Int)) a (Zay.mk 0 0 0) r b)
   .exact Ye 17 [rz,rz,rz,rz,rz,rz] [false,false,false] ⟨[],[],[],[],[],[1,2,4,5],[1,2],[]⟩ (.c d (.c e (.c f .n))) (Zjw S0 w0 a.fKind (a.fKind==(4:Int)) a (Zay.mk 0 0 0) r b)
def ZiL(b:Int)(c:Bool)(a d:Zah):Option Zah:=bif c then some (Zah.mk a.fN (Zab.mk (Zan.mk (Zai.mk false 0 0) 0) false 0 (ZaD.mk 0 0) 0 0) ([]:(List Zaf)) ([]:(List Zaa)))else bif(b==(3:Int))then some (Zah.mk 0 (Zab.mk (Zan.mk (Zai.mk false 0 0) 0) false 0 (ZaD.mk 0 0) 0 0) a.fBans ([]:(List Zaa)))else bif(b==(4:Int))then some (Zah.mk 0 (Zab.mk (Zan.mk (Zai.mk false 0 0) 0) false 0 (ZaD.mk 0 0) 0 0) ([]:(List Zaf)) a.fBook)else bif(b==(6:Int))then some (Zah.mk 0 a.fPeer ([]:(List Zaf)) ([]:(List Zaa)))else some (Zah.mk 0 (Zab.mk (Zan.mk (Zai.mk false 0 0) 0) false 0 (ZaD.mk 0 0) 0 0) ([]:(List Zaf)) ([]:(List Zaa)))
theorem ZlQ(S0:Nat->Prop)(w0:ZaW)(j:Int)(k:Bool)(b e r:Zah)(a:ZiL j k b e=some r):Ys 29 S0 w0 Tryz.f472 (.agg (Zah.c r)) [1,0,1,0,1] ⟨[(3,.one (.ptr 3 0)),(4,.one (.ptr 4 0)),(5,(Yj j)),(6,(Yk k))],[(3,.box [.lit (.int .i64 b.fN),.lit (.bool b.fPeer.fEnd.fAddr.fV6),.lit (.int .u64 b.fPeer.fEnd.fAddr.fHi),.lit (.int .u64 b.fPeer.fEnd.fAddr.fLo),.lit (.int .i64 b.fPeer.fEnd.fPort),.lit (.bool b.fPeer.fIn),.lit (.int .i64 b.fPeer.fSince),.lit (.int .i64 b.fPeer.fScore.fPoints),.lit (.int .i64 b.fPeer.fScore.fAt),.lit (.int .i64 b.fPeer.fPing),.lit (.int .i64 b.fPeer.fWork),cL 5 Zaf.c Zaf.d b.fBans,cL 7 Zaa.c Zaa.d b.fBook]),(4,.box [.lit (.int .i64 e.fN),.lit (.bool e.fPeer.fEnd.fAddr.fV6),.lit (.int .u64 e.fPeer.fEnd.fAddr.fHi),.lit (.int .u64 e.fPeer.fEnd.fAddr.fLo),.lit (.int .i64 e.fPeer.fEnd.fPort),.lit (.bool e.fPeer.fIn),.lit (.int .i64 e.fPeer.fSince),.lit (.int .i64 e.fPeer.fScore.fPoints),.lit (.int .i64 e.fPeer.fScore.fAt),.lit (.int .i64 e.fPeer.fPing),.lit (.int .i64 e.fPeer.fWork),cL 5 Zaf.c Zaf.d e.fBans,cL 7 Zaa.c Zaa.d e.fBook])]⟩:=by
 unfold ZiL at a;obtain⟨f,a⟩|⟨f,a⟩:=Zaj a
 .apply Yb a 3 [rz] [true] [] [(4,[(11,cL 5 Zaf.c Zaf.d []),(12,cL 7 Zaa.c Zaa.d [])])] [] (.c f .n)
 .obtain⟨g,a⟩|⟨g,a⟩:=Zaj a
  .apply Yb a 6 [rz,rz] [false,true] [] [(4,[(12,cL 7 Zaa.c Zaa.d [])])] [] (.c f (.c g .n))
  .obtain⟨h,a⟩|⟨h,a⟩:=Zaj a
   .apply Yb a 9 [rz,rz,rz] [false,false,true] [] [(4,[(11,cL 5 Zaf.c Zaf.d [])])] [] (.c f (.c g (.c h .n)))
   .obtain⟨i,a⟩|⟨i,a⟩:=Zaj a
    .apply Yb a 12 [rz,rz,rz,rz] [false,false,false,true] [] [(4,[(11,cL 5 Zaf.c Zaf.d []),(12,cL 7 Zaa.c Zaa.d [])])] [] (.c f (.c g (.c h (.c i .n))))
    .apply Yb a 14 [rz,rz,rz,rz] [false,false,false,false] [] [(4,[(11,cL 5 Zaf.c Zaf.d []),(12,cL 7 Zaa.c Zaa.d [])])] [] (.c f (.c g (.c h (.c i .n))))
def Zoh(a:Int)(b:Zah):Option Zah:=bif(a==(1:Int))then ZiL a (a==(1:Int)) b (Zah.mk 0 (Zab.mk (Zan.mk (Zai.mk false 0 0) 0) false 0 (ZaD.mk 0 0) 0 0) ([]:(List Zaf)) ([]:(List Zaa)))else bif(a==(2:Int))then ZiL a (a==(2:Int)) b (Zah.mk 0 (Zab.mk (Zan.mk (Zai.mk false 0 0) 0) false 0 (ZaD.mk 0 0) 0 0) ([]:(List Zaf)) ([]:(List Zaa)))else ZiL a (a==(5:Int)) b (Zah.mk 0 (Zab.mk (Zan.mk (Zai.mk false 0 0) 0) false 0 (ZaD.mk 0 0) 0 0) ([]:(List Zaf)) ([]:(List Zaa)))
theorem ZyD(b:Int)(e r:Zah)(a:Zoh b e=some r):Yp 472 [Yj b,.agg (Zah.c e)] (.agg (Zah.c r)):=by
 refine Yw Tryz.func472 fun S0 w0=>?_;unfold Zoh at a;obtain⟨f,a⟩|⟨f,a⟩:=Zaj a
 .exact Ye 11 [rz,rz,rz] [true] ⟨[],[(4,[(11,cL 5 Zaf.c Zaf.d []),(12,cL 7 Zaa.c Zaa.d [])])],[],[],[],[3,4,5,6],[3,4],[]⟩ (.c f .n) (ZlQ S0 w0 b (b==(1:Int)) e (Zah.mk 0 (Zab.mk (Zan.mk (Zai.mk false 0 0) 0) false 0 (ZaD.mk 0 0) 0 0) ([]:(List Zaf)) ([]:(List Zaa))) r a)
 .obtain⟨g,a⟩|⟨g,a⟩:=Zaj a
  .exact Ye 14 [rz,rz,rz,rz] [false,true] ⟨[],[(4,[(11,cL 5 Zaf.c Zaf.d []),(12,cL 7 Zaa.c Zaa.d [])])],[],[],[],[3,4,5,6],[3,4],[]⟩ (.c f (.c g .n)) (ZlQ S0 w0 b (b==(2:Int)) e (Zah.mk 0 (Zab.mk (Zan.mk (Zai.mk false 0 0) 0) false 0 (ZaD.mk 0 0) 0 0) ([]:(List Zaf)) ([]:(List Zaa))) r a)
  .exact Ye 14 [rz,rz,rz,rz,rz] [false,false] ⟨[],[(4,[(11,cL 5 Zaf.c Zaf.d []),(12,cL 7 Zaa.c Zaa.d [])])],[],[],[],[3,4,5,6],[3,4],[]⟩ (.c f (.c g .n)) (ZlQ S0 w0 b (b==(5:Int)) e (Zah.mk 0 (Zab.mk (Zan.mk (Zai.mk false 0 0) 0) false 0 (ZaD.mk 0 0) 0 0) ([]:(List Zaf)) ([]:(List Zaa))) r a)
def ZhO(b:Int)(d:Bool)(c i a:ZaJ):Option ZaJ:=bif d then some (ZaJ.mk a.fKind c.fLock a.fLoc a.fOld a.fNew a.fVal a.fMark)else bif(b==(5:Int))then(Zlf c.fLoc).bind fun e=>some (ZaJ.mk a.fKind a.fLock e a.fOld a.fNew a.fVal a.fMark)else bif(b==(6:Int))then(Zlf c.fLoc).bind fun f=>(Zoh c.fLoc.fKind c.fVal).bind fun g=>some (ZaJ.mk a.fKind a.fLock f a.fOld a.fNew g a.fMark)else bif(b==(7:Int))then(Zlf c.fLoc).bind fun h=>some (ZaJ.mk a.fKind a.fLock h c.fOld c.fNew a.fVal a.fMark)else bif(b==(8:Int))then some a else some (ZaJ.mk 0 0 (Zay.mk 0 0 0) 0 0 (Zah.mk 0 (Zab.mk (Zan.mk (Zai.mk false 0 0) 0) false 0 (ZaD.mk 0 0) 0 0) ([]:(List Zaf)) ([]:(List Zaa))) false)
theorem Zjx(S0:Nat->Prop)(w0:ZaW)(j:Int)(k:Bool)(b e f r:ZaJ)(a:ZhO j k b e f=some r):Ys 54 S0 w0 Tryz.f470 (.agg (ZaJ.c r)) [1,1,0,1,0,1] ⟨[(1,.one (.ptr 1 0)),(2,.one (.ptr 2 0)),(3,.one (.ptr 3 0)),(10,(Yj j)),(12,(Yk k))],[(1,.box [.lit (.int .i64 b.fKind),.lit (.int .i64 b.fLock),.lit (.int .i64 b.fLoc.fKind),.lit (.int .i64 b.fLoc.fShard),.lit (.int .i64 b.fLoc.fSlot),.lit (.int .i64 b.fOld),.lit (.int .i64 b.fNew),.lit (.int .i64 b.fVal.fN),.lit (.bool b.fVal.fPeer.fEnd.fAddr.fV6),.lit (.int .u64 b.fVal.fPeer.fEnd.fAddr.fHi),.lit (.int .u64 b.fVal.fPeer.fEnd.fAddr.fLo),.lit (.int .i64 b.fVal.fPeer.fEnd.fPort),.lit (.bool b.fVal.fPeer.fIn),.lit (.int .i64 b.fVal.fPeer.fSince),.lit (.int .i64 b.fVal.fPeer.fScore.fPoints),.lit (.int .i64 b.fVal.fPeer.fScore.fAt),.lit (.int .i64 b.fVal.fPeer.fPing),.lit (.int .i64 b.fVal.fPeer.fWork),cL 5 Zaf.c Zaf.d b.fVal.fBans,cL 7 Zaa.c Zaa.d b.fVal.fBook,.lit (.bool b.fMark)]),(2,.box [.lit (.int .i64 e.fKind),.lit (.int .i64 e.fLock),.lit (.int .i64 e.fLoc.fKind),.lit (.int .i64 e.fLoc.fShard),.lit (.int .i64 e.fLoc.fSlot),.lit (.int .i64 e.fOld),.lit (.int .i64 e.fNew),.lit (.int .i64 e.fVal.fN),.lit (.bool e.fVal.fPeer.fEnd.fAddr.fV6),.lit (.int .u64 e.fVal.fPeer.fEnd.fAddr.fHi),.lit (.int .u64 e.fVal.fPeer.fEnd.fAddr.fLo),.lit (.int .i64 e.fVal.fPeer.fEnd.fPort),.lit (.bool e.fVal.fPeer.fIn),.lit (.int .i64 e.fVal.fPeer.fSince),.lit (.int .i64 e.fVal.fPeer.fScore.fPoints),.lit (.int .i64 e.fVal.fPeer.fScore.fAt),.lit (.int .i64 e.fVal.fPeer.fPing),.lit (.int .i64 e.fVal.fPeer.fWork),cL 5 Zaf.c Zaf.d e.fVal.fBans,cL 7 Zaa.c Zaa.d e.fVal.fBook,.lit (.bool e.fMark)]),(3,.box [.lit (.int .i64 f.fKind),.lit (.int .i64 f.fLock),.lit (.int .i64 f.fLoc.fKind),.lit (.int .i64 f.fLoc.fShard),.lit (.int .i64 f.fLoc.fSlot),.lit (.int .i64 f.fOld),.lit (.int .i64 f.fNew),.lit (.int .i64 f.fVal.fN),.lit (.bool f.fVal.fPeer.fEnd.fAddr.fV6),.lit (.int .u64 f.fVal.fPeer.fEnd.fAddr.fHi),.lit (.int .u64 f.fVal.fPeer.fEnd.fAddr.fLo),.lit (.int .i64 f.fVal.fPeer.fEnd.fPort),.lit (.bool f.fVal.fPeer.fIn),.lit (.int .i64 f.fVal.fPeer.fSince),.lit (.int .i64 f.fVal.fPeer.fScore.fPoints),.lit (.int .i64 f.fVal.fPeer.fScore.fAt),.lit (.int .i64 f.fVal.fPeer.fPing),.lit (.int .i64 f.fVal.fPeer.fWork),cL 5 Zaf.c Zaf.d f.fVal.fBans,cL 7 Zaa.c Zaa.d f.fVal.fBook,.lit (.bool f.fMark)])]⟩:=by
 unfold ZhO at a;obtain⟨g,a⟩|⟨g,a⟩:=Zaj a
 .apply Ya a 5 [rz,rz] [true] (.c g .n)
 .obtain⟨i,a⟩|⟨i,a⟩:=Zaj a
  .obtain⟨o,p,a⟩:=Zac a;apply Ya a 8 [rz,rA [(2,aG (Zay.c o))],rz] [false,true] (.c g (.c i (.c (ZoT _ _ p) .n)))
  .obtain⟨l,a⟩|⟨l,a⟩:=Zaj a
   .obtain⟨q,s,t,u,a⟩:=Yv a;apply Ya a 11 [rz,rz,rA [(2,aG (Zay.c q)),(8,aG (Zah.c s))],rz] [false,false,true] (.c g (.c i (.c l (.c (ZoT _ _ t) (.c (ZyD _ _ _ u) .n)))))
   .obtain⟨m,a⟩|⟨m,a⟩:=Zaj a
    .obtain⟨v,w,a⟩:=Zac a;apply Ya a 14 [rz,rz,rz,rA [(2,aG (Zay.c v))],rz] [false,false,false,true] (.c g (.c i (.c l (.c m (.c (ZoT _ _ w) .n)))))
    .obtain⟨h,a⟩|⟨h,a⟩:=Zaj a
     .apply Ya a 17 [rz,rz,rz,rz,rz] [false,false,false,false,true] (.c g (.c i (.c l (.c m (.c h .n)))))
     .apply Yb a 15 [rz,rz,rz,rz,rz] [false,false,false,false,false] [] [(2,[(18,cL 5 Zaf.c Zaf.d []),(19,cL 7 Zaa.c Zaa.d [])])] [] (.c g (.c i (.c l (.c m (.c h .n)))))
def Zoi(a:ZaJ):Option ZaJ:=bif(a.fKind==(1:Int))then ZhO a.fKind (a.fKind==(1:Int)) a (ZaJ.mk 0 0 (Zay.mk 0 0 0) 0 0 (Zah.mk 0 (Zab.mk (Zan.mk (Zai.mk false 0 0) 0) false 0 (ZaD.mk 0 0) 0 0) ([]:(List Zaf)) ([]:(List Zaa))) false) (ZaJ.mk a.fKind 0 (Zay.mk 0 0 0) 0 0 (Zah.mk 0 (Zab.mk (Zan.mk (Zai.mk false 0 0) 0) false 0 (ZaD.mk 0 0) 0 0) ([]:(List Zaf)) ([]:(List Zaa))) a.fMark)else bif(a.fKind==(2:Int))then ZhO a.fKind (a.fKind==(2:Int)) a (ZaJ.mk 0 0 (Zay.mk 0 0 0) 0 0 (Zah.mk 0 (Zab.mk (Zan.mk (Zai.mk false 0 0) 0) false 0 (ZaD.mk 0 0) 0 0) ([]:(List Zaf)) ([]:(List Zaa))) false) (ZaJ.mk a.fKind 0 (Zay.mk 0 0 0) 0 0 (Zah.mk 0 (Zab.mk (Zan.mk (Zai.mk false 0 0) 0) false 0 (ZaD.mk 0 0) 0 0) ([]:(List Zaf)) ([]:(List Zaa))) a.fMark)else bif(a.fKind==(3:Int))then ZhO a.fKind (a.fKind==(3:Int)) a (ZaJ.mk 0 0 (Zay.mk 0 0 0) 0 0 (Zah.mk 0 (Zab.mk (Zan.mk (Zai.mk false 0 0) 0) false 0 (ZaD.mk 0 0) 0 0) ([]:(List Zaf)) ([]:(List Zaa))) false) (ZaJ.mk a.fKind 0 (Zay.mk 0 0 0) 0 0 (Zah.mk 0 (Zab.mk (Zan.mk (Zai.mk false 0 0) 0) false 0 (ZaD.mk 0 0) 0 0) ([]:(List Zaf)) ([]:(List Zaa))) a.fMark)else ZhO a.fKind (a.fKind==(4:Int)) a (ZaJ.mk 0 0 (Zay.mk 0 0 0) 0 0 (Zah.mk 0 (Zab.mk (Zan.mk (Zai.mk false 0 0) 0) false 0 (ZaD.mk 0 0) 0 0) ([]:(List Zaf)) ([]:(List Zaa))) false) (ZaJ.mk a.fKind 0 (Zay.mk 0 0 0) 0 0 (Zah.mk 0 (Zab.mk (Zan.mk (Zai.mk false 0 0) 0) false 0 (ZaD.mk 0 0) 0 0) ([]:(List Zaf)) ([]:(List Zaa))) a.fMark)
theorem ZyE(a r:ZaJ)(b:Zoi a=some r):Yp 470 [.agg (ZaJ.c a)] (.agg (ZaJ.c r)):=by
 refine Yw Tryz.func470 fun S0 w0=>?_;unfold Zoi at b;obtain⟨e,b⟩|⟨e,b⟩:=Zaj b
 .exact Ye 13 [rz,rz,rz,rz] [true] ⟨[],[(2,[(18,cL 5 Zaf.c Zaf.d []),(19,cL 7 Zaa.c Zaa.d [])]),(3,[(18,cL 5 Zaf.c Zaf.d []),(19,cL 7 Zaa.c Zaa.d [])])],[],[],[],[1,2,3,10,12],[1,2,3],[]⟩ (.c e .n) (Zjx S0 w0 a.fKind (a.fKind==(1:Int)) a (ZaJ.mk 0 0 (Zay.mk 0 0 0) 0 0 (Zah.mk 0 (Zab.mk (Zan.mk (Zai.mk false 0 0) 0) false 0 (ZaD.mk 0 0) 0 0) ([]:(List Zaf)) ([]:(List Zaa))) false) (ZaJ.mk a.fKind 0 (Zay.mk 0 0 0) 0 0 (Zah.mk 0 (Zab.mk (Zan.mk (Zai.mk false 0 0) 0) false 0 (ZaD.mk 0 0) 0 0) ([]:(List Zaf)) ([]:(List Zaa))) a.fMark) r b)
 .obtain⟨f,b⟩|⟨f,b⟩:=Zaj b
  .exact Ye 16 [rz,rz,rz,rz,rz] [false,true] ⟨[],[(2,[(18,cL 5 Zaf.c Zaf.d []),(19,cL 7 Zaa.c Zaa.d [])]),(3,[(18,cL 5 Zaf.c Zaf.d []),(19,cL 7 Zaa.c Zaa.d [])])],[],[],[],[1,2,3,10,12],[1,2,3],[]⟩ (.c e (.c f .n)) (Zjx S0 w0 a.fKind (a.fKind==(2:Int)) a (ZaJ.mk 0 0 (Zay.mk 0 0 0) 0 0 (Zah.mk 0 (Zab.mk (Zan.mk (Zai.mk false 0 0) 0) false 0 (ZaD.mk 0 0) 0 0) ([]:(List Zaf)) ([]:(List Zaa))) false) (ZaJ.mk a.fKind 0 (Zay.mk 0 0 0) 0 0 (Zah.mk 0 (Zab.mk (Zan.mk (Zai.mk false 0 0) 0) false 0 (ZaD.mk 0 0) 0 0) ([]:(List Zaf)) ([]:(List Zaa))) a.fMark) r b)
  .obtain⟨g,b⟩|⟨g,b⟩:=Zaj b
   .exact Ye 19 [rz,rz,rz,rz,rz,rz] [false,false,true] ⟨[],[(2,[(18,cL 5 Zaf.c Zaf.d []),(19,cL 7 Zaa.c Zaa.d [])]),(3,[(18,cL 5 Zaf.c Zaf.d []),(19,cL 7 Zaa.c Zaa.d [])])],[],[],[],[1,2,3,10,12],[1,2,3],[]⟩ (.c e (.c f (.c g .n))) (Zjx S0 w0 a.fKind (a.fKind==(3:Int)) a (ZaJ.mk 0 0 (Zay.mk 0 0 0) 0 0 (Zah.mk 0 (Zab.mk (Zan.mk (Zai.mk false 0 0) 0) false 0 (ZaD.mk 0 0) 0 0) ([]:(List Zaf)) ([]:(List Zaa))) false) (ZaJ.mk a.fKind 0 (Zay.mk 0 0 0) 0 0 (Zah.mk 0 (Zab.mk (Zan.mk (Zai.mk false 0 0) 0) false 0 (ZaD.mk 0 0) 0 0) ([]:(List Zaf)) ([]:(List Zaa))) a.fMark) r b)
   .exact Ye 19 [rz,rz,rz,rz,rz,rz,rz] [false,false,false] ⟨[],[(2,[(18,cL 5 Zaf.c Zaf.d []),(19,cL 7 Zaa.c Zaa.d [])]),(3,[(18,cL 5 Zaf.c Zaf.d []),(19,cL 7 Zaa.c Zaa.d [])])],[],[],[],[1,2,3,10,12],[1,2,3],[]⟩ (.c e (.c f (.c g .n))) (Zjx S0 w0 a.fKind (a.fKind==(4:Int)) a (ZaJ.mk 0 0 (Zay.mk 0 0 0) 0 0 (Zah.mk 0 (Zab.mk (Zan.mk (Zai.mk false 0 0) 0) false 0 (ZaD.mk 0 0) 0 0) ([]:(List Zaf)) ([]:(List Zaa))) false) (ZaJ.mk a.fKind 0 (Zay.mk 0 0 0) 0 0 (Zah.mk 0 (Zab.mk (Zan.mk (Zai.mk false 0 0) 0) false 0 (ZaD.mk 0 0) 0 0) ([]:(List Zaf)) ([]:(List Zaa))) a.fMark) r b)
def Zci(a:Zao)(b:ZaJ):Option (Tout Zah):=bif((a.fgot.length:Int)==(0:Int))then(Zoi b).bind fun c=>some (Tout.pan c)else need (0<=(0:Int)/\(0:Int)<(a.fgot.length:Int))<|need (0<=(1:Int)/\(1:Int)<=(a.fgot.length:Int))<|some (Tout.ret (a.fgot.getD (0:Int).toNat Zah.d) (Zao.mk (a.fgot.drop (1:Int).toNat)))
theorem Zbn(b:Zao)(f:ZaJ)(r:(Tout Zah))(a:Zci b f=some r):Yr 469 [(100000,.box (Zao.c b))] [.one (.ptr 100000 0),.agg (ZaJ.c f)] (oc (fun x=>.agg (Zah.c x)) r):=by
 refine ZfZ.of Tryz.func469 rfl rfl rfl rfl fun S0 w0=>?_;unfold Zci at a;obtain⟨e,a⟩|⟨e,a⟩:=Zaj a
 .obtain⟨g,h,a⟩:=Zac a;obtain rfl:=oi a;exact Yh 6 [rz,rz] [true] (rA [(1,aG (ZaJ.c g))]) 4 ⟨[],.one .junk⟩ (.c e (.c (ZyE _ _ h) (.c (show Tryz.prog.concrete 111=true from(by kernel_rfl)) .n)))
 .obtain⟨k,l,a⟩:=Yu a;obtain rfl:=oi a;exact Yd 13 [rz,rz,rz,⟨[],[],[],[],[],[(5,((b.fgot.drop (1:Int).toNat).length,Zap Zah.c Zah.d (b.fgot.drop (1:Int).toNat)))],[]⟩,rz] [false] ⟨[],[],[],[],[],[4],[4,100000],[]⟩ (.c e (.c k (.c (show (b.fgot.drop (1:Int).toNat).length=b.fgot.length-(1:Int).toNat/\∀i j,i<b.fgot.length-(1:Int).toNat->j<13->Zap Zah.c Zah.d (b.fgot.drop (1:Int).toNat) i j=Zap Zah.c Zah.d b.fgot ((1:Int).toNat+i) j from(ZnY _ _)) (.c l .n))))
def Zjv(d:Zao)(e:Bool):Option (Tout Unit):=(Zci d (ZaJ.mk 8 0 (Zay.mk 0 0 0) 0 0 (Zah.mk 0 (Zab.mk (Zan.mk (Zai.mk false 0 0) 0) false 0 (ZaD.mk 0 0) 0 0) ([]:(List Zaf)) ([]:(List Zaa))) e)).bind fun f=>(match f with | .ret g a=>some (Tout.ret () a) | .pan b=>some (Tout.pan b) | .bad c=>some (Tout.bad c))
theorem ZlV(g:Zao)(h:Bool)(r:(Tout Unit))(a:Zjv g h=some r):Yr 465 [(100000,.box (Zao.c g))] [.one (.ptr 100000 0),Yk h] (oc (fun x=>.tup []) r):=by
 refine ZfZ.of Tryz.func465 rfl rfl rfl rfl fun S0 w0=>?_;unfold Zjv at a;obtain⟨i,b,a⟩:=Zac a;cases i with
 |ret e f=>
  dsimp only at a;obtain rfl:=oi a;exact Yd 1 [⟨[],[],[],[],[(2,[(18,cL 5 Zaf.c Zaf.d []),(19,cL 7 Zaa.c Zaa.d [])])],[],[(3,⟨[(100000,100000)],[],[(100000,.box (Zao.c f))],.agg (Zah.c e)⟩)]⟩] [] ⟨[],[],[],[],[],[],[100000],[]⟩ (.c (Zbn _ _ _ b) .n)
 |_=>
  dsimp only at a;obtain rfl:=oi a;exact Yh 0 [] [] (⟨[],[],[],[],[(2,[(18,cL 5 Zaf.c Zaf.d []),(19,cL 7 Zaa.c Zaa.d [])])],[],[]⟩) 3 ⟨[(100000,100000)],pvOf b⟩ (.c (Zbn _ _ _ b) .n)
def Zep(a:Int):Option Zaq:=some (Zaq.mk a (Zan.mk (Zai.mk false 0 0) 0) 0 0 ([]:(List Zab)))
theorem Zfa(a:Int)(r:Zaq)(b:Zep a=some r):Yp 196 [Yj a] (.agg (Zaq.c r)):=by
 refine Yw Tryz.func196 fun S0 w0=>?_;unfold Zep at b;apply Yb b 4 [rz,rz] [] [] [(2,[(7,cL 10 Zab.c Zab.d [])])] [] .n
def Zhz(h:ZaI)(d:Zao):Option (Tout Zaq):=(Zjv d true).bind fun e=>(match e with | .ret f a=>(Zep (1:Int)).bind fun g=>some (Tout.ret g a) | .pan b=>some (Tout.pan b) | .bad c=>some (Tout.bad c))
theorem Zir(e:ZaI)(f:Zao)(r:(Tout Zaq))(a:Zhz e f=some r):Yr 109 [(100000,.box (Zao.c f))] [.agg (ZaI.c e),.one (.ifc 112 (.ptr 100000 0))] (oc (fun x=>.agg (Zaq.c x)) r):=by
 refine ZfZ.of Tryz.func109 rfl rfl rfl rfl fun S0 w0=>?_;unfold Zhz at a;obtain⟨g,b,a⟩:=Zac a;cases g with
 |ret h d=>
  dsimp only at a;obtain⟨i,j,a⟩:=Zac a;obtain rfl:=oi a;exact Yd 6 [rz,rH [(1,.id 465)] [(1,⟨[(100000,100000)],[],[(100000,.box (Zao.c d))],.tup []⟩)],rA [(0,aG (Zaq.c i))]] [] ⟨[],[],[],[],[],[4],[4,100000],[]⟩ (.c (ZlV _ _ _ b) (.c ZzU (.c (Zfa _ _ j) .n)))
 |_=>
  dsimp only at a;obtain rfl:=oi a;exact Yh 3 [rz] [] (rA [(1,.id 465)]) 1 ⟨[(100000,100000)],pvOf b⟩ (.c (ZlV _ _ _ b) (.c ZzU .n))
def Zhw(d:Zao)(e:Int)(f:Bool):Option (Tout Unit):=(Zci d (ZaJ.mk 2 e (Zay.mk 0 0 0) 0 0 (Zah.mk 0 (Zab.mk (Zan.mk (Zai.mk false 0 0) 0) false 0 (ZaD.mk 0 0) 0 0) ([]:(List Zaf)) ([]:(List Zaa))) f)).bind fun g=>(match g with | .ret h a=>some (Tout.ret () a) | .pan b=>some (Tout.pan b) | .bad c=>some (Tout.bad c))
theorem ZgH(g:Zao)(h:Int)(i:Bool)(r:(Tout Unit))(a:Zhw g h i=some r):Yr 466 [(100000,.box (Zao.c g))] [.one (.ptr 100000 0),Yj h,Yk i] (oc (fun x=>.tup []) r):=by
 refine ZfZ.of Tryz.func466 rfl rfl rfl rfl fun S0 w0=>?_;unfold Zhw at a;obtain⟨j,b,a⟩:=Zac a;cases j with
 |ret e f=>
  dsimp only at a;obtain rfl:=oi a;exact Yd 1 [⟨[],[],[],[],[(3,[(18,cL 5 Zaf.c Zaf.d []),(19,cL 7 Zaa.c Zaa.d [])])],[],[(4,⟨[(100000,100000)],[],[(100000,.box (Zao.c f))],.agg (Zah.c e)⟩)]⟩] [] ⟨[],[],[],[],[],[],[100000],[]⟩ (.c (Zbn _ _ _ b) .n)
 |_=>
  dsimp only at a;obtain rfl:=oi a;exact Yh 0 [] [] (⟨[],[],[],[],[(3,[(18,cL 5 Zaf.c Zaf.d []),(19,cL 7 Zaa.c Zaa.d [])])],[],[]⟩) 4 ⟨[(100000,100000)],pvOf b⟩ (.c (Zbn _ _ _ b) .n)
def ZeL(d:Zao)(e:Int)(f:Bool):Option (Tout Unit):=(Zci d (ZaJ.mk 1 e (Zay.mk 0 0 0) 0 0 (Zah.mk 0 (Zab.mk (Zan.mk (Zai.mk false 0 0) 0) false 0 (ZaD.mk 0 0) 0 0) ([]:(List Zaf)) ([]:(List Zaa))) f)).bind fun g=>(match g with | .ret h a=>some (Tout.ret () a) | .pan b=>some (Tout.pan b) | .bad c=>some (Tout.bad c))
theorem Zco(g:Zao)(h:Int)(i:Bool)(r:(Tout Unit))(a:ZeL g h i=some r):Yr 464 [(100000,.box (Zao.c g))] [.one (.ptr 100000 0),Yj h,Yk i] (oc (fun x=>.tup []) r):=by
 refine ZfZ.of Tryz.func464 rfl rfl rfl rfl fun S0 w0=>?_;unfold ZeL at a;obtain⟨j,b,a⟩:=Zac a;cases j with
 |ret e f=>
  dsimp only at a;obtain rfl:=oi a;exact Yd 1 [⟨[],[],[],[],[(3,[(18,cL 5 Zaf.c Zaf.d []),(19,cL 7 Zaa.c Zaa.d [])])],[],[(4,⟨[(100000,100000)],[],[(100000,.box (Zao.c f))],.agg (Zah.c e)⟩)]⟩] [] ⟨[],[],[],[],[],[],[100000],[]⟩ (.c (Zbn _ _ _ b) .n)
 |_=>
  dsimp only at a;obtain rfl:=oi a;exact Yh 0 [] [] (⟨[],[],[],[],[(3,[(18,cL 5 Zaf.c Zaf.d []),(19,cL 7 Zaa.c Zaa.d [])])],[],[]⟩) 4 ⟨[(100000,100000)],pvOf b⟩ (.c (Zbn _ _ _ b) .n)
def Zip(a:Int):Option Int:=some (if(8:Int)<(if(1:Int)>a then(1:Int)else a)then(8:Int)else(if(1:Int)>a then(1:Int)else a))
theorem Zmv(a r:Int)(b:Zip a=some r):Yp 256 [Yj a] (Yj r):=by
 refine Yw Tryz.func256 fun S0 w0=>?_;unfold Zip at b;apply Ya b 4 [rz,rz] [] .n
def Zei:Nat->Int->Int->Zao->Option (Tout Unit)|0,_,_,_=>none|fu+1,f,b,a=>bif(decide (b<f))then(ZeL a (ZaA (2:Int) b) false).bind fun g=>(match g with | .ret h c=>Zei fu f (ZaA b 1) c | .pan d=>some (Tout.pan d) | .bad e=>some (Tout.bad e))else some (Tout.ret () a)
theorem Zrg(S0:Nat->Prop)(w0:ZaW):∀(h:Nat)(e f:Int)(a:Zao)(r:(Tout Unit)),Zei h e f a=some r->Good Tryz.prog 15 S0 w0 (bodyPost Tryz.prog Tryz.f197 (Znm S0 w0 (oc (fun x=>.tup []) r))) (at_ [1,0] (Zbb Tryz.f197)) ⟨[(0,.one (.ifc 112 (.ptr 100000 0))),(6,(Yj e)),(7,(Yj f))],[(100000,.box [cLn 13 Zah.c Zah.d a.fgot])]⟩:=by
 intro h;induction h with
 |zero=>
  intro e f a r b;simp[Zei]at b
 |succ h k=>
  intro e f a r b;unfold Zei at b;obtain⟨i,b⟩|⟨i,b⟩:=Zaj b
  .obtain⟨l,j,b⟩:=Zac b;cases l with
   |ret m g=>
    dsimp only at b;exact Ye 14 [rz,rz,rH [(3,.id 464)] [(3,⟨[(100000,100000)],[],[(100000,.box (Zao.c g))],.tup []⟩)],rz] [true] ⟨[],[],[],[],[],[0,6,7],[100000],[]⟩ (.c i (.c (Zco _ _ _ _ j) (.c Zjf .n))) (k e (ZaA f 1) g r b)
   |_=>
    dsimp only at b;obtain rfl:=oi b;exact Yh 10 [rz,rz] [true] (rA [(3,.id 464)]) 3 ⟨[(100000,100000)],pvOf j⟩ (.c i (.c (Zco _ _ _ _ j) (.c Zjf .n)))
  .obtain rfl:=oi b;exact Yd 6 [rz] [false] ⟨[],[],[],[],[],[],[100000],[]⟩ (.c i .n)
def Zjh(b:Zao)(c:Int):Option (Tout Unit):=(Zip c).bind fun a=>Zei ((a-(0:Int)).toNat+2) a (0:Int) b
theorem Zkl(b:Zao)(e:Int)(r:(Tout Unit))(a:Zjh b e=some r):Yr 197 [(100000,.box (Zao.c b))] [.one (.ifc 112 (.ptr 100000 0)),Yj e] (oc (fun x=>.tup []) r):=by
 refine ZfZ.of Tryz.func197 rfl rfl rfl rfl fun S0 w0=>?_;unfold Zjh at a;obtain⟨d,f,a⟩:=Zac a;exact Ye 3 [rA [(1,aI d)]] [] ⟨[],[],[],[],[],[0,6,7],[100000],[]⟩ (.c (Zmv _ _ f) .n) (Zrg S0 w0 ((d-(0:Int)).toNat+2) d (0:Int) b r a)
def ZcH(e:Zao)(f:Zay)(g:Bool):Option (Tout Zah):=(Zci e (ZaJ.mk 5 0 f 0 0 (Zah.mk 0 (Zab.mk (Zan.mk (Zai.mk false 0 0) 0) false 0 (ZaD.mk 0 0) 0 0) ([]:(List Zaf)) ([]:(List Zaa))) g)).bind fun h=>(match h with | .ret a b=>some (Tout.ret a b) | .pan c=>some (Tout.pan c) | .bad d=>some (Tout.bad d))
theorem ZaX(g:Zao)(h:Zay)(i:Bool)(r:(Tout Zah))(a:ZcH g h i=some r):Yr 463 [(100000,.box (Zao.c g))] [.one (.ptr 100000 0),.agg (Zay.c h),Yk i] (oc (fun x=>.agg (Zah.c x)) r):=by
 refine ZfZ.of Tryz.func463 rfl rfl rfl rfl fun S0 w0=>?_;unfold ZcH at a;obtain⟨j,b,a⟩:=Zac a;cases j with
 |ret e f=>
  dsimp only at a;obtain rfl:=oi a;exact Yd 4 [rz,⟨[],[],[],[],[(3,[(18,cL 5 Zaf.c Zaf.d []),(19,cL 7 Zaa.c Zaa.d [])])],[],[(4,⟨[(100000,100000)],[],[(100000,.box (Zao.c f))],.agg (Zah.c e)⟩)]⟩] [] ⟨[],[],[],[],[],[6],[6,100000],[]⟩ (.c (Zbn _ _ _ b) .n)
 |_=>
  dsimp only at a;obtain rfl:=oi a;exact Yh 3 [rz] [] (⟨[],[],[],[],[(3,[(18,cL 5 Zaf.c Zaf.d []),(19,cL 7 Zaa.c Zaa.d [])])],[],[]⟩) 4 ⟨[(100000,100000)],pvOf b⟩ (.c (Zbn _ _ _ b) .n)
def Zjn:Option Zay:=some (Zay.mk 4 0 0)
theorem ZjQ(r:Zay)(a:Zjn=some r):Yp 203 [] (.agg (Zay.c r)):=by
 refine Yw Tryz.func203 fun S0 w0=>?_;unfold Zjn at a;apply Ya a 4 [rz,rz] [] .n
def Zlc(a:Int):Option Zay:=some (Zay.mk 5 a 0)
theorem ZrB(a:Int)(r:Zay)(b:Zlc a=some r):Yp 283 [Yj a] (.agg (Zay.c r)):=by
 refine Yw Tryz.func283 fun S0 w0=>?_;unfold Zlc at b;apply Ya b 4 [rz,rz] [] .n
def Zlb(a b:Int):Option Zay:=some (Zay.mk 6 a b)
theorem ZrA(a b:Int)(r:Zay)(d:Zlb a b=some r):Yp 284 [Yj a,Yj b] (.agg (Zay.c r)):=by
 refine Yw Tryz.func284 fun S0 w0=>?_;unfold Zlb at d;apply Ya d 4 [rz,rz] [] .n
def Zgd(i:Int):Nat->Int->Int->(List Zab)->Zao->Option (Tout (List Zab))|0,_,_,_,_=>none|fu+1,d,b,e,a=>bif(decide (b<d))then(Zlb i b).bind fun j=>(ZcH a j false).bind fun k=>(match k with | .ret c f=>need ((e++([c.fPeer]:List Zab)).length * 80<=140737488355328/\(e++([c.fPeer]:List Zab)).length<=maxLen)<|Zgd i fu d (ZaA b 1) (e++([c.fPeer]:List Zab)) f | .pan g=>some (Tout.pan g) | .bad h=>some (Tout.bad h))else some (Tout.ret e a)
theorem Ztv(S0:Nat->Prop)(w0:ZaW)(q:Int):∀(m:Nat)(g h:Int)(k:List Zab)(a:Zao)(r:(Tout (List Zab))),Zgd q m g h k a=some r->Good Tryz.prog 33 S0 w0 (bodyPost Tryz.prog Tryz.f217 (Znm S0 w0 (oc (fun x=>(Yn x)) r))) (at_ [1,1,0,1,0] (Zbb Tryz.f217)) ⟨[(0,.one (.ifc 112 (.ptr 100000 0))),(1,(Yj q)),(5,.one (.osl 5 k.length)),(15,(Yj g)),(16,(Yj h))],[(5,.rows 44 10 k.length (Zap Zab.c Zab.d k)),(100000,.box [cLn 13 Zah.c Zah.d a.fgot])]⟩:=by
 intro m;induction m with
 |zero=>
  intro g h k a r f;simp[Zgd]at f
 |succ m u=>
  intro g h k a r f;unfold Zgd at f;obtain⟨o,f⟩|⟨o,f⟩:=Zaj f
  .obtain⟨s,v,f⟩:=Zac f;have O1:Obl _:=(.c o (.c (ZrA _ _ _ v) (.c Zla .n)));obtain⟨w,p,f⟩:=Zac f;cases w with
   |ret b l=>
    dsimp only at f;obtain⟨t,f⟩:=Zar f;exact Ye 14 [rz,rz,⟨[(4,aG (Zay.c s)),(8,.id 463),(11,.c ((k++([b.fPeer]:List Zab)).length) (Zap Zab.c Zab.d (k++([b.fPeer]:List Zab))))],[],[],[],[],[(10,(([b.fPeer]:List Zab).length,Zap Zab.c Zab.d ([b.fPeer]:List Zab)))],[(8,⟨[(100000,100000)],[],[(100000,.box (Zao.c l))],.agg (Zah.c b)⟩)]⟩,rz] [true] ⟨[],[],[],[],[],[0,1,5,15,16],[30,100000],[(30,5)]⟩ (O1.app (.c (ZaX _ _ _ _ p) (.c ZeQ (.c (show ([b.fPeer]:List Zab).length=1/\∀i j,i<1->j<10->Zap Zab.c Zab.d ([b.fPeer]:List Zab) i j=(([b.fPeer]:List Zab).flatMap Zab.c).getD (i * 10+j) .junk from⟨rfl,fun i j hi hj=>ZaO (sz:=10) (e:=Zab.c) (d:=Zab.d) (fun _=>rfl) ([b.fPeer]:List Zab) i j hi hj⟩) (.c (Zcy (sz:=10) (e:=Zab.c) (d:=Zab.d) k ([b.fPeer]:List Zab)) (.c t.1 (.c t.2 .n))))))) (u g (ZaA h 1) (k++([b.fPeer]:List Zab)) l r f)
   |_=>
    dsimp only at f;obtain rfl:=oi f;exact Yh 10 [rz,rz] [true] (rA [(4,aG (Zay.c s)),(8,.id 463)]) 8 ⟨[(100000,100000)],pvOf p⟩ (O1.app (.c (ZaX _ _ _ _ p) (.c ZeQ .n)))
  .obtain rfl:=oi f;exact Yd 8 [rz,rz] [false] ⟨[5],[],[],[],[],[4],[100000],[]⟩ (.c o .n)
def ZjD(f:Zao)(e:Int):Option (Tout (List Zab)):=(Zlc e).bind fun g=>(ZcH f g false).bind fun h=>(match h with | .ret a b=>Zgd e (((if(0:Int)>a.fN then(0:Int)else a.fN)-(0:Int)).toNat+2) (if(0:Int)>a.fN then(0:Int)else a.fN) (0:Int) ([]) b | .pan c=>some (Tout.pan c) | .bad d=>some (Tout.bad d))
theorem Zkg(h:Zao)(f:Int)(r:(Tout (List Zab)))(b:ZjD h f=some r):Yr 217 [(100000,.box (Zao.c h))] [.one (.ifc 112 (.ptr 100000 0)),Yj f] (oc (fun x=>(Yn x)) r):=by
 refine ZfZ.of Tryz.func217 rfl rfl rfl rfl fun S0 w0=>?_;unfold ZjD at b;obtain⟨i,j,b⟩:=Zac b;have O2:Obl _:=(.c (ZrB _ _ j) (.c Zla .n));obtain⟨k,g,b⟩:=Zac b;cases k with
 |ret a e=>
  dsimp only at b;exact Ye 8 [rz,rz,rH [(2,aG (Zay.c i)),(6,.id 463)] [(6,⟨[(100000,100000)],[],[(100000,.box (Zao.c e))],.agg (Zah.c a)⟩)]] [] ⟨[],[],[],[],[(5,5,44,10,Zap Zab.c Zab.d [])],[0,1,5,15,16],[5,100000],[]⟩ (O2.app (.c (ZaX _ _ _ _ g) (.c ZeQ .n))) (Ztv S0 w0 f (((if(0:Int)>a.fN then(0:Int)else a.fN)-(0:Int)).toNat+2) (if(0:Int)>a.fN then(0:Int)else a.fN) (0:Int) ([]) e r b)
 |_=>
  dsimp only at b;obtain rfl:=oi b;exact Yh 6 [rz,rz] [] (rA [(2,aG (Zay.c i)),(6,.id 463)]) 6 ⟨[(100000,100000)],pvOf g⟩ (O2.app (.c (ZaX _ _ _ _ g) (.c ZeQ .n)))
def ZcV:Nat->Int->Int->Zao->ZaF->(List Zaa)->(List Zab)->(List Zaf)->Option (Tout ZaF)|0,_,_,_,_,_,_,_=>none|fu+1,g,e,b,k,c,a,d=>bif(decide (e<g))then(ZjD b e).bind fun l=>(match l with | .ret f h=>need ((a++f).length * 80<=140737488355328/\(a++f).length<=maxLen)<|ZcV fu g (ZaA e 1) h k c (a++f) d | .pan i=>some (Tout.pan i) | .bad j=>some (Tout.bad j))else some (Tout.ret (ZaF.mk c a d) b)
theorem ZpF(S0:Nat->Prop)(w0:ZaW):∀(o:Nat)(i j:Int)(b:Zao)(l:ZaF)(f:List Zaa)(a:List Zab)(g:List Zaf)(r:(Tout ZaF)),ZcV o i j b l f a g=some r->Good Tryz.prog 34 S0 w0 (bodyPost Tryz.prog Tryz.f257 (Znm S0 w0 (oc (fun x=>.agg (ZaF.c x)) r))) (at_ [1,1,0,1,0] (Zbb Tryz.f257)) ⟨[(1,.one (.ifc 112 (.ptr 100000 0))),(4,.one (.ptr 4 0)),(5,.one (.ptr 5 0)),(21,(Yj i)),(22,(Yj j))],[(100000,.box [cLn 13 Zah.c Zah.d b.fgot]),(4,.box [cL 7 Zaa.c Zaa.d l.fBook,cL 10 Zab.c Zab.d l.fPeers,cL 5 Zaf.c Zaf.d l.fBans]),(80501,.rows 44 10 a.length (Zap Zab.c Zab.d a)),(5,.box [cL 7 Zaa.c Zaa.d f,.osl 80501 a.length,cL 5 Zaf.c Zaf.d g])]⟩:=by
 intro o;induction o with
 |zero=>
  intro i j b l f a g r h;simp[ZcV]at h
 |succ o t=>
  intro i j b l f a g r h;unfold ZcV at h;obtain⟨p,h⟩|⟨p,h⟩:=Zaj h
  .obtain⟨u,q,h⟩:=Zac h;cases u with
   |ret k m=>
    dsimp only at h;obtain⟨s,h⟩:=Zar h;exact Ye 14 [rz,rz,rH [(5,.c ((a++k).length) (Zap Zab.c Zab.d (a++k)))] [(4,⟨[(100000,100000)],[],[(100000,.box (Zao.c m))],(Yn k)⟩)],rz] [true] ⟨[],[],[],[],[],[1,4,5,21,22],[100000,4,30,5],[(30,80501)]⟩ (.c p (.c (Zkg _ _ _ q) (.c (Zcy (sz:=10) (e:=Zab.c) (d:=Zab.d) a k) (.c s.1 (.c s.2 .n))))) (t i (ZaA j 1) m l f (a++k) g r h)
   |_=>
    dsimp only at h;obtain rfl:=oi h;exact Yh 10 [rz,rz] [true] (rz) 4 ⟨[(100000,100000)],pvOf q⟩ (.c p (.c (Zkg _ _ _ q) .n))
  .obtain rfl:=oi h;exact Yd 8 [rz,rz] [false] ⟨[80501],[],[],[],[],[4],[4,100000],[]⟩ (.c p .n)
def Zia(i:ZaI)(j:Zao):Option (Tout ZaF):=(ZcH j (Zay.mk 3 0 0) false).bind fun k=>(match k with | .ret a b=>(Zjn).bind fun l=>(ZcH b l false).bind fun m=>(match m with | .ret c d=>ZcV ((i.fc.fShards-(0:Int)).toNat+2) i.fc.fShards (0:Int) d (ZaF.mk ([]:(List Zaa)) ([]:(List Zab)) ([]:(List Zaf))) c.fBook ([]) a.fBans | .pan e=>some (Tout.pan e) | .bad f=>some (Tout.bad f)) | .pan g=>some (Tout.pan g) | .bad h=>some (Tout.bad h))
theorem ZiX(h:ZaI)(k:Zao)(r:(Tout ZaF))(a:Zia h k=some r):Yr 257 [(100000,.box (Zao.c k))] [.agg (ZaI.c h),.one (.ifc 112 (.ptr 100000 0))] (oc (fun x=>.agg (ZaF.c x)) r):=by
 refine ZfZ.of Tryz.func257 rfl rfl rfl rfl fun S0 w0=>?_;unfold Zia at a;obtain⟨m,i,a⟩:=Zac a;cases m with
 |ret b e=>
  dsimp only at a;obtain⟨l,o,a⟩:=Zac a;have O1:Obl _:=(.c (ZaX _ _ _ _ i) (.c ZeQ (.c (ZjQ _ o) (.c Zla .n))));obtain⟨p,j,a⟩:=Zac a;cases p with
  |ret f g=>
   dsimp only at a;exact Ye 8 [rz,rH [(2,.id 463),(5,aG (Zay.c l)),(9,.id 463)] [(2,⟨[(100000,100000)],[],[(100000,.box (Zao.c e))],.agg (Zah.c b)⟩),(9,⟨[(100000,100000)],[],[(100000,.box (Zao.c g))],.agg (Zah.c f)⟩)],rz] [] ⟨[],[(4,[(0,cL 7 Zaa.c Zaa.d []),(1,cL 10 Zab.c Zab.d []),(2,cL 5 Zaf.c Zaf.d [])])],[],[],[(205001,80501,44,10,Zap Zab.c Zab.d [])],[1,4,5,21,22],[100000,4,80501,5],[]⟩ (O1.app (.c (ZaX _ _ _ _ j) (.c ZeQ .n))) (ZpF S0 w0 ((h.fc.fShards-(0:Int)).toNat+2) h.fc.fShards (0:Int) g (ZaF.mk ([]:(List Zaa)) ([]:(List Zab)) ([]:(List Zaf))) f.fBook ([]) b.fBans r a)
  |_=>
   dsimp only at a;obtain rfl:=oi a;exact Yh 3 [rz] [] (rH [(2,.id 463),(5,aG (Zay.c l)),(9,.id 463)] [(2,⟨[(100000,100000)],[],[(100000,.box (Zao.c e))],.agg (Zah.c b)⟩)]) 9 ⟨[(100000,100000)],pvOf j⟩ (O1.app (.c (ZaX _ _ _ _ j) (.c ZeQ .n)))
 |_=>
  dsimp only at a;obtain rfl:=oi a;exact Yh 3 [rz] [] (rA [(2,.id 463)]) 2 ⟨[(100000,100000)],pvOf i⟩ (.c Zla (.c (ZaX _ _ _ _ i) (.c ZeQ .n)))
def ZmB(a:Zaa)(b:Int):Option Bool:=bif(a.fState==(1:Int))then some (decide (a.fNext<=b))else some false
theorem ZwG(d:Zaa)(e:Int)(r:Bool)(a:ZmB d e=some r):Yp 328 [.agg (Zaa.c d),Yj e] (Yk r):=by
 refine Yw Tryz.func328 fun S0 w0=>?_;unfold ZmB at a;obtain⟨b,a⟩|⟨b,a⟩:=Zaj a
 .apply Ya a 4 [rz,rB [(3,true)]] [] (.c b .n)
 .apply Ya a 4 [rz,rB [(3,false)]] [] (.c b .n)
def ZgL(a:Int):Option Int:=some (if(1099511627776:Int)<(if(0:Int)>a then(0:Int)else a)then(1099511627776:Int)else(if(0:Int)>a then(0:Int)else a))
theorem ZgK(a r:Int)(b:ZgL a=some r):Yp 230 [Yj a] (Yj r):=by
 refine Yw Tryz.func230 fun S0 w0=>?_;unfold ZgL at b;apply Ya b 4 [rz,rz] [] .n
def ZhP(a:Zaa):Option Bool:=bif(decide (a.fState>=(1:Int)))then(Ziw a.fEnd).bind fun b=>bif b then bif(decide (a.fState<=(3:Int)))then bif(decide (a.fFails>=(0:Int)))then bif(decide (a.fFails<=(1000:Int)))then(ZgL a.fNext).bind fun c=>some (a.fNext==c)else some false else some false else some false else some false else(Ziw a.fEnd).bind fun d=>bif d then some false else some false
theorem Zjy(j:Zaa)(r:Bool)(a:ZhP j=some r):Yp 272 [.agg (Zaa.c j)] (Yk r):=by
 refine Yw Tryz.func272 fun S0 w0=>?_;unfold ZhP at a;obtain⟨b,a⟩|⟨b,a⟩:=Zaj a
 .obtain⟨d,k,a⟩:=Zac a;obtain⟨g,a⟩|⟨g,a⟩:=Zaj a
  .have O1:Obl _:=(.c b (.c (Ziv _ _ k) (.c g .n)));obtain⟨e,a⟩|⟨e,a⟩:=Zaj a
   .obtain⟨f,a⟩|⟨f,a⟩:=Zaj a
    .obtain⟨h,a⟩|⟨h,a⟩:=Zaj a
     .obtain⟨o,p,a⟩:=Zac a;apply Ya a 6 [rz,rB [(3,true)],⟨[(2,aB d),(21,aI o)],[(3,true),(6,true),(11,true),(16,true)],[],[],[],[],[]⟩] [] (O1.app (.c e (.c f (.c h (.c (ZgK _ _ p) .n)))))
     .apply Ya a 6 [rz,rB [(3,true)],⟨[(2,aB d)],[(3,true),(6,true),(11,true),(16,false)],[],[],[],[],[]⟩] [] (O1.app (.c e (.c f (.c h .n))))
    .apply Ya a 6 [rz,rB [(3,true)],⟨[(2,aB d)],[(3,true),(6,true),(11,false)],[],[],[],[],[]⟩] [] (O1.app (.c e (.c f .n)))
   .apply Ya a 6 [rz,rB [(3,true)],⟨[(2,aB d)],[(3,true),(6,false)],[],[],[],[],[]⟩] [] (O1.app (.c e .n))
  .apply Ya a 6 [rz,rB [(3,true)],⟨[(2,aB d)],[(3,false)],[],[],[],[],[]⟩] [] (.c b (.c (Ziv _ _ k) (.c g .n)))
 .obtain⟨l,m,a⟩:=Zac a;obtain⟨i,a⟩|⟨i,a⟩:=Zaj a
  .apply Ya a 6 [rz,rB [(3,false)],⟨[(2,aB l)],[(3,true)],[],[],[],[],[]⟩] [] (.c b (.c (Ziv _ _ m) (.c i .n)))
  .apply Ya a 6 [rz,rB [(3,false)],⟨[(2,aB l)],[(3,false)],[],[],[],[],[]⟩] [] (.c b (.c (Ziv _ _ m) (.c i .n)))
def Zce(a:List Zae):Option (List Zae):=need (0<a.length)<|need ((([]:List Zae)++a).length * 40<=140737488355328/\(([]:List Zae)++a).length<=maxLen)<|some (([]:List Zae)++a)
theorem ZfC(a r:List Zae)(b:Zce a=some r):Yq 367 [] [Yo a] [(99999,.rows 341 5 r.length (Zap Zae.c Zae.d r))] (.one (.osl 99999 r.length)):=by
 refine Yx Tryz.func367 fun S0 w0=>?_;unfold Zce at b;obtain⟨o1,o2,b⟩:=Yu b;apply Yc b 9 [rz,rz,rA [(0,.c ([]:List Zae).length (Zap Zae.c Zae.d ([]:List Zae))),(2,.c ((([]:List Zae)++a).length) (Zap Zae.c Zae.d (([]:List Zae)++a)))]] [false] ⟨[],[],[],[],[],[2],[7],[(7,99999)]⟩ (.c o1 (.c (show false=false from rfl) (.c (show ([]:List Zae).length=0 from rfl) (.c (show ∀i j,i<0->j<5->Zap Zae.c Zae.d ([]:List Zae) i j=(([]:List Zae).flatMap Zae.c).getD (i * 5+j) .junk from(fun i j hi hj=>ZaO (sz:=5) (e:=Zae.c) (d:=Zae.d) (fun _=>rfl) ([]:List Zae) i j hi hj)) (.c (Zcy (sz:=5) (e:=Zae.c) (d:=Zae.d) ([]:List Zae) a) (.c o2.1 (.c o2.2 .n)))))))
theorem ZfJ(x:Addr)(cap:Nat)(c:Nat->Nat->C):Yq 367 [] [.one (.lit (.slice (some x) 0 cap))] [(99999,.rows 341 5 0 c)] (.one (.osl 99999 0)):=by
 refine Yx Tryz.func367 fun S0 w0=>?_;exact ZjA Zal 9 _ _ [⟨[],[],[],[],[],[],[]⟩,⟨[(1,.r (Yk false) [])],[],[],[],[],[],[]⟩,⟨[(0,.c 0 c),(2,.c 0 c)],[],[],[],[],[],[]⟩] [false] ⟨[],[],[],[],[],[2],[7],[(7,99999)]⟩
  [∀w,(do eqGuard .eql 338 (.tmp 3) (.const (.slice none 0 0)) (.slice (some x) 0 cap) (.slice none 0 0);binOp .eql 338 (.slice (some x) 0 cap) (.slice none 0 0):Sem Value).run Tryz.prog w=.ok (.bool false) w,false=false,0=0,∀i j,i<0->j<5->c i j=([]:List C).getD (i * 5+j) .junk,Ext 5 0 0 c (fun _ _=>.junk) 0 c,0 * 40<=140737488355328,0<=maxLen] (by kernel_rfl) ⟨fun w=>by
   have hg:(eqGuard .eql 338 (.tmp 3) (.const (.slice none 0 0)) (.slice (some x) 0 cap) (.slice none 0 0)).run Tryz.prog w=.ok () w:=by simp[eqGuard]
   rw[Sem.run_bind,hg,Result.andThen_ok];exact Go.run_eql_slice_nil w _ _ (some x) 0 cap Tryz.underlying338,rfl,rfl,fun i j h=>absurd h (Nat.not_lt_zero i),⟨rfl,fun _ _ h=>absurd h (Nat.not_lt_zero _),fun _ _ h=>absurd h (Nat.not_lt_zero _)⟩,by decide,by decide,trivial⟩
theorem ZfI(cap:Nat)(c:Nat->Nat->C):Yq 367 [] [.one (.lit (.slice none 0 cap))] [(99999,.rows 341 5 0 c)] (.one (.osl 99999 0)):=by
 refine Yx Tryz.func367 fun S0 w0=>?_;exact ZjA Zal 8 _ _ [⟨[],[],[],[],[],[],[]⟩,⟨[(1,.r (Yk true) [])],[],[],[],[],[],[]⟩,⟨[],[],[],[],[],[],[]⟩] [true] ⟨[],[],[],[],[(2,99999,341,5,c)],[2],[99999],[]⟩
  [∀w,(do eqGuard .eql 338 (.tmp 3) (.const (.slice none 0 0)) (.slice none 0 cap) (.slice none 0 0);binOp .eql 338 (.slice none 0 cap) (.slice none 0 0):Sem Value).run Tryz.prog w=.ok (.bool true) w,true=true] (by kernel_rfl) ⟨fun w=>by
   have hg:(eqGuard .eql 338 (.tmp 3) (.const (.slice none 0 0)) (.slice none 0 cap) (.slice none 0 0)).run Tryz.prog w=.ok () w:=by simp[eqGuard]
   rw[Sem.run_bind,hg,Result.andThen_ok];exact Go.run_eql_slice_nil w _ _ none 0 cap Tryz.underlying338,rfl,trivial⟩
def Zbl(a:List Zae):Option (List Zae):=need (a.length * 40<=140737488355328/\a.length<=maxLen)<|some a
theorem Zdj(a r:List Zae)(b:Zbl a=some r):Yq 367 [] [Yo a] [(99999,.rows 341 5 r.length (Zap Zae.c Zae.d r))] (.one (.osl 99999 r.length)):=by
 obtain⟨o1,b⟩:=Zar b;cases b;refine ZrY ⟨_,Tryz.func367,rfl,rfl⟩ (fun h cap=>?_) (fun h x cap=>?_) (fun h=>?_)
 .rw[h];exact ZfI cap _
 .rw[h];exact ZfJ x cap _
 .refine ZfC a a ?_;unfold Zce;rw[ZqT h,ZqT (by simpa using o1)];simp
def ZiA(a:Int):Option Bool:=some (a != a)
theorem Znx(a:Int)(r:Bool)(b:ZiA a=some r):Yp 376 [Yj a] (Yk r):=by
 refine Yw Tryz.func376 fun S0 w0=>?_;unfold ZiA at b;apply Ya b 4 [rz,rz] [] .n
def Zen(a b:Int):Option Int:=(ZiA a).bind fun d=>(ZiA b).bind fun c=>bif d then bif c then some (0:Int)else some (-1:Int)else bif c then some (1:Int)else bif(decide (a<b))then some (-1:Int)else bif(decide (a>b))then some (1:Int)else some (0:Int)
theorem Zhp(h i r:Int)(a:Zen h i=some r):Yp 338 [Yj h,Yj i] (Yj r):=by
 refine Yw Tryz.func338 fun S0 w0=>?_;unfold Zen at a;obtain⟨j,k,a⟩:=Zac a;obtain⟨l,m,a⟩:=Zac a
 let R1:List RA:=[rz,rA [(1,aB j)],rA [(1,aB l)],rz,rz,rz]
 have O2:Obl _:=(.c (Znx _ _ k) (.c (Znx _ _ m) .n));obtain⟨b,a⟩|⟨b,a⟩:=Zaj a
 .obtain⟨f,a⟩|⟨f,a⟩:=Zaj a
  .apply Ya a 16 R1 [true,true] (O2.app (.c b (.c f .n)))
  .apply Ya a 17 R1 [true,false] (O2.app (.c b (.c f .n)))
 .obtain⟨d,a⟩|⟨d,a⟩:=Zaj a
  .apply Ya a 17 R1 [false,true] (O2.app (.c b (.c d .n)))
  .obtain⟨e,a⟩|⟨e,a⟩:=Zaj a
   .apply Ya a 22 (R1++[rz]) [false,false,true] (O2.app (.c b (.c d (.c e .n))))
   .obtain⟨g,a⟩|⟨g,a⟩:=Zaj a
    .apply Ya a 27 (R1++[rz,rz]) [false,false,false,true] (O2.app (.c b (.c d (.c e (.c g .n)))))
    .apply Ya a 28 (R1++[rz,rz]) [false,false,false,false] (O2.app (.c b (.c d (.c e (.c g .n)))))
def ZiN(a:Zai):Option Int:=bif a.fV6 then some (1:Int)else some (0:Int)
theorem ZpB(d:Zai)(r:Int)(a:ZiN d=some r):Yp 374 [.agg (Zai.c d)] (Yj r):=by
 refine Yw Tryz.func374 fun S0 w0=>?_;unfold ZiN at a;obtain⟨b,a⟩|⟨b,a⟩:=Zaj a
 .apply Ya a 8 [rz,rz,rz] [true] (.c b .n)
 .apply Ya a 9 [rz,rz,rz] [false] (.c b .n)
def ZgZ(a:Int):Option Bool:=some (a != a)
theorem ZlH(a:Int)(r:Bool)(b:ZgZ a=some r):Yp 398 [.one (.lit (.int .u64 a))] (Yk r):=by
 refine Yw Tryz.func398 fun S0 w0=>?_;unfold ZgZ at b;apply Ya b 4 [rz,rz] [] .n
def ZeH(a b:Int):Option Int:=(ZgZ a).bind fun d=>(ZgZ b).bind fun c=>bif d then bif c then some (0:Int)else some (-1:Int)else bif c then some (1:Int)else bif(decide (a<b))then some (-1:Int)else bif(decide (a>b))then some (1:Int)else some (0:Int)
theorem ZkD(h i r:Int)(a:ZeH h i=some r):Yp 375 [.one (.lit (.int .u64 h)),.one (.lit (.int .u64 i))] (Yj r):=by
 refine Yw Tryz.func375 fun S0 w0=>?_;unfold ZeH at a;obtain⟨j,k,a⟩:=Zac a;obtain⟨l,m,a⟩:=Zac a
 let R1:List RA:=[rz,rA [(1,aB j)],rA [(1,aB l)],rz,rz,rz]
 have O2:Obl _:=(.c (ZlH _ _ k) (.c (ZlH _ _ m) .n));obtain⟨b,a⟩|⟨b,a⟩:=Zaj a
 .obtain⟨f,a⟩|⟨f,a⟩:=Zaj a
  .apply Ya a 16 R1 [true,true] (O2.app (.c b (.c f .n)))
  .apply Ya a 17 R1 [true,false] (O2.app (.c b (.c f .n)))
 .obtain⟨d,a⟩|⟨d,a⟩:=Zaj a
  .apply Ya a 17 R1 [false,true] (O2.app (.c b (.c d .n)))
  .obtain⟨e,a⟩|⟨e,a⟩:=Zaj a
   .apply Ya a 22 (R1++[rz]) [false,false,true] (O2.app (.c b (.c d (.c e .n))))
   .obtain⟨g,a⟩|⟨g,a⟩:=Zaj a
    .apply Ya a 27 (R1++[rz,rz]) [false,false,false,true] (O2.app (.c b (.c d (.c e (.c g .n)))))
    .apply Ya a 28 (R1++[rz,rz]) [false,false,false,false] (O2.app (.c b (.c d (.c e (.c g .n)))))
def Zgw:Nat->Int->(List Int)->Int->Int->Option Int|0,_,_,_,_=>none|fu+1,c,b,d,a=>bif(decide (a<d))then need (0<=a/\a<(b.length:Int))<|bif((b.getD a.toNat (0:Int)) != c)then some (b.getD a.toNat (0:Int))else Zgw fu c b d (ZaA a 1)else some c
theorem ZsI(S0:Nat->Prop)(w0:ZaW):∀(g:Nat)(b:Int)(d:List Int)(e f r:Int),Zgw g b d e f=some r->Ys 18 S0 w0 Tryz.f336 (Yj r) [1,1,0,1,0] ⟨[(3,(Yj b)),(6,.one (cL 1 (cI .i64) (0:Int) d)),(7,(Yj e)),(8,(Yj f))],[]⟩:=by
 intro g;induction g with
 |zero=>
  intro b d e f r a;simp[Zgw]at a
 |succ g j=>
  intro b d e f r a;unfold Zgw at a;obtain⟨h,a⟩|⟨h,a⟩:=Zaj a
  .obtain⟨o2,a⟩:=Zar a;obtain⟨i,a⟩|⟨i,a⟩:=Zaj a
   .apply Ya a 15 [rz,rz,rz,rz] [true,true] (.c h (.c o2 (.c i .n)))
   .exact Ye 17 [rz,rz,rz,rz] [true,false] (Yi [3,6,7,8]) (.c h (.c o2 (.c i .n))) (j b d e (ZaA f 1) r a)
  .apply Ya a 8 [rz,rz] [false] (.c h .n)
def Zgg(a:List Int):Option Int:=Zgw (((a.length:Int)-(0:Int)).toNat+2) (0:Int) a (a.length:Int) (0:Int)
theorem ZkC(a:List Int)(r:Int)(b:Zgg a=some r):Yp 336 [.one (cL 1 (cI .i64) (0:Int) a)] (Yj r):=by
 refine Yw Tryz.func336 fun S0 w0=>?_;unfold Zgg at b;exact Ye 8 [rz,rz,rz] [] (Yi [3,6,7,8]) .n (ZsI S0 w0 (((a.length:Int)-(0:Int)).toNat+2) (0:Int) a (a.length:Int) (0:Int) r b)
def Zij(a b:Zai):Option Int:=(ZiN a).bind fun c=>(ZiN b).bind fun d=>(Zen c d).bind fun e=>(ZeH a.fHi b.fHi).bind fun f=>(ZeH a.fLo b.fLo).bind fun g=>(Zgg ([e,f,g]:List Int)).bind fun h=>some h
theorem ZoB(h k:Zai)(r:Int)(a:Zij h k=some r):Yp 337 [.agg (Zai.c h),.agg (Zai.c k)] (Yj r):=by
 refine Yw Tryz.func337 fun S0 w0=>?_;unfold Zij at a;obtain⟨l,m,o,p,a⟩:=Yv a;obtain⟨b,f,q,s,a⟩:=Yv a;obtain⟨g,t,u,v,a⟩:=Yv a;apply Ya a 4 [rz,⟨[(1,aI l),(3,aI m),(4,aI b),(9,aI f),(14,aI g),(16,aI t)],[],[],[],[],[(15,(([b,f,g]:List Int).length,Zap (cI .i64) (0:Int) ([b,f,g]:List Int)))],[]⟩] [] (.c (ZpB _ _ o) (.c (ZpB _ _ p) (.c (Zhp _ _ _ q) (.c (ZkD _ _ _ s) (.c (ZkD _ _ _ u) (.c (show ([b,f,g]:List Int).length=3/\∀i j,i<3->j<1->Zap (cI .i64) (0:Int) ([b,f,g]:List Int) i j=(([b,f,g]:List Int).flatMap (cI .i64)).getD (i * 1+j) .junk from⟨rfl,fun i j hi hj=>ZaO (sz:=1) (e:=(cI .i64)) (d:=(0:Int)) (fun _=>rfl) ([b,f,g]:List Int) i j hi hj⟩) (.c (ZkC _ _ v) .n)))))))
def famA(a:Zai):Int:=if a.fV6 then 1 else 0
def cmpA(a b:Zai):Int:=orI (cmpI (famA a) (famA b)) (orI (cmpI a.fHi b.fHi) (cmpI a.fLo b.fLo))
theorem ZyR(a b:Int):Zen a b=some (cmpI a b):=by
 simp only[Zen,ZiA,cmpI,bne_self_eq_false,Option.bind_some,cond_false];by_cases c:a<b<;>by_cases d:a>b<;>simp[c,d]<;>omega
theorem ZKx(a b:Int):ZeH a b=some (cmpI a b):=by
 simp only[ZeH,ZgZ,cmpI,bne_self_eq_false,Option.bind_some,cond_false];by_cases c:a<b<;>by_cases d:a>b<;>simp[c,d]<;>omega
theorem or2(a b:Int):Zgg [a,b]=some (orI a b):=by
 unfold Zgg orI;simp only[List.length_cons,List.length_nil];rw[show (((0+1+1:Nat):Int)-0).toNat+2=4 from rfl];simp only[Zgw,show ZaA 0 1=1 from rfl,show ZaA 1 1=2 from rfl];simp only[Bool.cond_eq_ite,bne_iff_ne,ne_eq,ite_not,need];by_cases c:a=0<;>by_cases d:b=0<;>simp[c,d]
theorem or3(a b c:Int):Zgg [a,b,c]=some (orI a (orI b c)):=by
 unfold Zgg orI;simp only[List.length_cons,List.length_nil];rw[show (((0+1+1+1:Nat):Int)-0).toNat+2=5 from rfl];simp only[Zgw,show ZaA 0 1=1 from rfl,show ZaA 1 1=2 from rfl,show ZaA 2 1=3 from rfl];simp only[Bool.cond_eq_ite,bne_iff_ne,ne_eq,ite_not,need];by_cases d:a=0<;>by_cases e:b=0<;>by_cases f:c=0<;>simp[d,e,f]
theorem ZDG(a b:Zai):Zij a b=some (cmpA a b):=by
 have d:∀c,ZiN c=some (famA c):=fun c=>by unfold ZiN famA;cases c.fV6<;>rfl
 simp only[Zij,d,ZyR,ZKx,or3,Option.bind_some,cmpA]
theorem ZzL{a b:Int}:orI a b<0↔a<0\/(a=0/\b<0):=by unfold orI;constructor<;>intro h<;>(repeat' split at *)<;>omega
theorem ZCQ{a b:Int}:0<orI a b↔0<a\/(a=0/\0<b):=by unfold orI;constructor<;>intro h<;>(repeat' split at *)<;>omega
theorem Zuq{a b:Int}:orI a b=0↔a=0/\b=0:=by unfold orI;constructor<;>intro h<;>(repeat' split at *)<;>omega
theorem ZKo{a b:Zai}:famA a=famA b↔a.fV6=b.fV6:=by unfold famA;cases a.fV6<;>cases b.fV6<;>simp
theorem ZHe{a b:Zai}:cmpA a b<0↔famA a<famA b\/(famA a=famA b/\(a.fHi<b.fHi\/(a.fHi=b.fHi/\a.fLo<b.fLo))):=by simp only[cmpA,ZzL,Zwb,ZlM]
theorem ZKA{a b:Zai}:0<cmpA a b↔famA b<famA a\/(famA a=famA b/\(b.fHi<a.fHi\/(a.fHi=b.fHi/\b.fLo<a.fLo))):=by simp only[cmpA,ZCQ,ZyS,ZlM]
theorem ZoE{a b:Zai}:cmpA a b=0↔a=b:=by
 simp only[cmpA,Zuq,ZlM,ZKo];obtain⟨v,hi,lo⟩:=a;obtain⟨v',cH,kO⟩:=b;simp
theorem ZxH{a b c:Zai}(d:cmpA a b<0)(e:cmpA b c<0):cmpA a c<0:=by
 rw[ZHe]at *
 omega
theorem ZAK{a b:Zai}:0<cmpA a b↔cmpA b a<0:=by
 rw[ZKA,ZHe];constructor<;>intro h<;>omega
def Zii(a b:Zan):Option Int:=(Zij a.fAddr b.fAddr).bind fun c=>(Zen a.fPort b.fPort).bind fun d=>(Zgg ([c,d]:List Int)).bind fun e=>some e
theorem Zok(g h:Zan)(r:Int)(f:Zii g h=some r):Yp 275 [.agg (Zan.c g),.agg (Zan.c h)] (Yj r):=by
 refine Yw Tryz.func275 fun S0 w0=>?_;unfold Zii at f;obtain⟨a,b,k,l,f⟩:=Yv f;obtain⟨m,o,f⟩:=Zac f;apply Ya f 4 [rz,⟨[(4,aI a),(9,aI b),(11,aI m)],[],[],[],[],[(10,(([a,b]:List Int).length,Zap (cI .i64) (0:Int) ([a,b]:List Int)))],[]⟩] [] (.c (ZoB _ _ _ k) (.c (Zhp _ _ _ l) (.c (show ([a,b]:List Int).length=2/\∀i j,i<2->j<1->Zap (cI .i64) (0:Int) ([a,b]:List Int) i j=(([a,b]:List Int).flatMap (cI .i64)).getD (i * 1+j) .junk from⟨rfl,fun i j hi hj=>ZaO (sz:=1) (e:=(cI .i64)) (d:=(0:Int)) (fun _=>rfl) ([a,b]:List Int) i j hi hj⟩) (.c (ZkC _ _ o) .n))))
def ZlA(a b:Zae):Option Int:=(Zen a.fKey b.fKey).bind fun c=>(Zii a.fEnd b.fEnd).bind fun d=>(Zgg ([c,d]:List Int)).bind fun e=>some e
theorem ZvB(g h:Zae)(r:Int)(f:ZlA g h=some r):Yp 409 [.agg (Zae.c g),.agg (Zae.c h)] (Yj r):=by
 refine Yw Tryz.func409 fun S0 w0=>?_;unfold ZlA at f;obtain⟨a,b,k,l,f⟩:=Yv f;obtain⟨m,o,f⟩:=Zac f;apply Ya f 4 [rz,⟨[(4,aI a),(9,aI b),(11,aI m)],[],[],[],[],[(10,(([a,b]:List Int).length,Zap (cI .i64) (0:Int) ([a,b]:List Int)))],[]⟩] [] (.c (Zhp _ _ _ k) (.c (Zok _ _ _ l) (.c (show ([a,b]:List Int).length=2/\∀i j,i<2->j<1->Zap (cI .i64) (0:Int) ([a,b]:List Int) i j=(([a,b]:List Int).flatMap (cI .i64)).getD (i * 1+j) .junk from⟨rfl,fun i j hi hj=>ZaO (sz:=1) (e:=(cI .i64)) (d:=(0:Int)) (fun _=>rfl) ([a,b]:List Int) i j hi hj⟩) (.c (ZkC _ _ o) .n))))
def ZlB(a b:Zae):Option Bool:=(ZlA a b).bind fun c=>some (decide (c<(0:Int)))
theorem ZvC(b d:Zae)(r:Bool)(a:ZlB b d=some r):Yp 393 [.agg (Zae.c b),.agg (Zae.c d)] (Yk r):=by
 refine Yw Tryz.func393 fun S0 w0=>?_;unfold ZlB at a;obtain⟨e,f,a⟩:=Zac a;apply Ya a 4 [rz,rA [(2,aI e)]] [] (.c (ZvB _ _ _ f) .n)
end Go.Proofs.YtdjfoojllbfcgaaGreat
