import Derived.Test.YtdjfoojllbfcgaaGreatURuaT
namespace Go.Proofs.YtdjfoojllbfcgaaGreat
open Go.RowKit Go.Lib Go.Shelf
set_option linter.unusedVariables false
set_option maxRecDepth 100000
theorem ZqZ : (Tryz.prog.fieldsOf 28).toList = [{ name := "V6", type := 4, offset := 0, embedded := false, tag := "", pkgPath := "", byteOffset := 0 }, { name := "Hi", type := 22, offset := 1, embedded := false, tag := "", pkgPath := "", byteOffset := 8 }, { name := "Lo", type := 22, offset := 2, embedded := false, tag := "", pkgPath := "", byteOffset := 16 }] := by kernel_rfl
theorem Zmk(d:Nat)(x y:Zag)(w:World):(Op.equalIn (d+2) 28 (.agg #[.bool x.fV6,.int .u64 x.fHi,.int .u64 x.fLo]) (.agg #[.bool y.fV6,.int .u64 y.fHi,.int .u64 y.fLo])).run Tryz.prog w=.ok (decide (x=y)) w:=by rw[run_equalIn_struct w (d+1) _ _ _ (by kernel_rfl) (by kernel_rfl)];simp only[ZqZ,Op.eqFields];simp[go_sem];cases x;cases y;simp only[Zag.mk.injEq];(repeat' split)<;>simp_all
theorem ZkJ(x y:Zag)(xo yo:Operand):∀w,(do eqGuard .eql 28 xo yo (.agg #[.bool x.fV6,.int .u64 x.fHi,.int .u64 x.fLo]) (.agg #[.bool y.fV6,.int .u64 y.fHi,.int .u64 y.fLo]);binOp .eql 28 (.agg #[.bool x.fV6,.int .u64 x.fHi,.int .u64 x.fLo]) (.agg #[.bool y.fV6,.int .u64 y.fHi,.int .u64 y.fLo]):Sem Value).run Tryz.prog w=.ok (.bool (decide (x=y))) w:=by
 intro w;have hg:(eqGuard .eql 28 xo yo (.agg #[.bool x.fV6,.int .u64 x.fHi,.int .u64 x.fLo]) (.agg #[.bool y.fV6,.int .u64 y.fHi,.int .u64 y.fLo])).run Tryz.prog w=.ok () w:=by simp[eqGuard,Sem.run_bind,Tryz.eqGuardType28]
 rw[Sem.run_bind,hg,Result.andThen_ok,run_eql_struct];exact congrArg (fun r:Result Bool=>r.andThen fun b w'=>Result.ok (Value.bool b) w') (Zmk 9998 x y w)
theorem ZrK : (Tryz.prog.fieldsOf 30).toList = [{ name := "Addr", type := 28, offset := 0, embedded := false, tag := "", pkgPath := "", byteOffset := 0 }, { name := "Port", type := 3, offset := 3, embedded := false, tag := "", pkgPath := "", byteOffset := 24 }] := by kernel_rfl
theorem Znr(d:Nat)(x y:Zah)(w:World):(Op.equalIn (d+4) 30 (.agg #[.bool x.fAddr.fV6,.int .u64 x.fAddr.fHi,.int .u64 x.fAddr.fLo,.int .i64 x.fPort]) (.agg #[.bool y.fAddr.fV6,.int .u64 y.fAddr.fHi,.int .u64 y.fAddr.fLo,.int .i64 y.fPort])).run Tryz.prog w=.ok (decide (x=y)) w:=by rw[run_equalIn_struct w (d+3) _ _ _ (by kernel_rfl) (by kernel_rfl)];simp only[ZrK,Op.eqFields];simp[go_sem,Zmk];cases x;cases y;simp only[Zah.mk.injEq];(repeat' split)<;>simp_all
theorem Zkg(x y:Zah)(xo yo:Operand):∀w,(do eqGuard .eql 30 xo yo (.agg #[.bool x.fAddr.fV6,.int .u64 x.fAddr.fHi,.int .u64 x.fAddr.fLo,.int .i64 x.fPort]) (.agg #[.bool y.fAddr.fV6,.int .u64 y.fAddr.fHi,.int .u64 y.fAddr.fLo,.int .i64 y.fPort]);binOp .eql 30 (.agg #[.bool x.fAddr.fV6,.int .u64 x.fAddr.fHi,.int .u64 x.fAddr.fLo,.int .i64 x.fPort]) (.agg #[.bool y.fAddr.fV6,.int .u64 y.fAddr.fHi,.int .u64 y.fAddr.fLo,.int .i64 y.fPort]):Sem Value).run Tryz.prog w=.ok (.bool (decide (x=y))) w:=by
 intro w;have hg:(eqGuard .eql 30 xo yo (.agg #[.bool x.fAddr.fV6,.int .u64 x.fAddr.fHi,.int .u64 x.fAddr.fLo,.int .i64 x.fPort]) (.agg #[.bool y.fAddr.fV6,.int .u64 y.fAddr.fHi,.int .u64 y.fAddr.fLo,.int .i64 y.fPort])).run Tryz.prog w=.ok () w:=by simp[eqGuard,Sem.run_bind,Tryz.eqGuardType30]
 rw[Sem.run_bind,hg,Result.andThen_ok,run_eql_struct];exact congrArg (fun r:Result Bool=>r.andThen fun b w'=>Result.ok (Value.bool b) w') (Znr 9996 x y w)
theorem ZrJ : (Tryz.prog.fieldsOf 32).toList = [{ name := "Addr", type := 28, offset := 0, embedded := false, tag := "", pkgPath := "", byteOffset := 0 }, { name := "Bits", type := 3, offset := 3, embedded := false, tag := "", pkgPath := "", byteOffset := 24 }] := by kernel_rfl
theorem Znq(d:Nat)(x y:Zao)(w:World):(Op.equalIn (d+4) 32 (.agg #[.bool x.fAddr.fV6,.int .u64 x.fAddr.fHi,.int .u64 x.fAddr.fLo,.int .i64 x.fBits]) (.agg #[.bool y.fAddr.fV6,.int .u64 y.fAddr.fHi,.int .u64 y.fAddr.fLo,.int .i64 y.fBits])).run Tryz.prog w=.ok (decide (x=y)) w:=by rw[run_equalIn_struct w (d+3) _ _ _ (by kernel_rfl) (by kernel_rfl)];simp only[ZrJ,Op.eqFields];simp[go_sem,Zmk];cases x;cases y;simp only[Zao.mk.injEq];(repeat' split)<;>simp_all
theorem ZlA(x y:Zao)(xo yo:Operand):∀w,(do eqGuard .eql 32 xo yo (.agg #[.bool x.fAddr.fV6,.int .u64 x.fAddr.fHi,.int .u64 x.fAddr.fLo,.int .i64 x.fBits]) (.agg #[.bool y.fAddr.fV6,.int .u64 y.fAddr.fHi,.int .u64 y.fAddr.fLo,.int .i64 y.fBits]);binOp .eql 32 (.agg #[.bool x.fAddr.fV6,.int .u64 x.fAddr.fHi,.int .u64 x.fAddr.fLo,.int .i64 x.fBits]) (.agg #[.bool y.fAddr.fV6,.int .u64 y.fAddr.fHi,.int .u64 y.fAddr.fLo,.int .i64 y.fBits]):Sem Value).run Tryz.prog w=.ok (.bool (decide (x=y))) w:=by
 intro w;have hg:(eqGuard .eql 32 xo yo (.agg #[.bool x.fAddr.fV6,.int .u64 x.fAddr.fHi,.int .u64 x.fAddr.fLo,.int .i64 x.fBits]) (.agg #[.bool y.fAddr.fV6,.int .u64 y.fAddr.fHi,.int .u64 y.fAddr.fLo,.int .i64 y.fBits])).run Tryz.prog w=.ok () w:=by simp[eqGuard,Sem.run_bind,Tryz.eqGuardType32]
 rw[Sem.run_bind,hg,Result.andThen_ok,run_eql_struct];exact congrArg (fun r:Result Bool=>r.andThen fun b w'=>Result.ok (Value.bool b) w') (Znq 9996 x y w)
theorem Zwt(x y:Zao)(xo yo:Operand):∀w,(do eqGuard .neq 32 xo yo (.agg #[.bool x.fAddr.fV6,.int .u64 x.fAddr.fHi,.int .u64 x.fAddr.fLo,.int .i64 x.fBits]) (.agg #[.bool y.fAddr.fV6,.int .u64 y.fAddr.fHi,.int .u64 y.fAddr.fLo,.int .i64 y.fBits]);binOp .neq 32 (.agg #[.bool x.fAddr.fV6,.int .u64 x.fAddr.fHi,.int .u64 x.fAddr.fLo,.int .i64 x.fBits]) (.agg #[.bool y.fAddr.fV6,.int .u64 y.fAddr.fHi,.int .u64 y.fAddr.fLo,.int .i64 y.fBits]):Sem Value).run Tryz.prog w=.ok (.bool (!decide (x=y))) w:=by
 intro w;have hg:(eqGuard .neq 32 xo yo (.agg #[.bool x.fAddr.fV6,.int .u64 x.fAddr.fHi,.int .u64 x.fAddr.fLo,.int .i64 x.fBits]) (.agg #[.bool y.fAddr.fV6,.int .u64 y.fAddr.fHi,.int .u64 y.fAddr.fLo,.int .i64 y.fBits])).run Tryz.prog w=.ok () w:=by simp[eqGuard,Sem.run_bind,Tryz.eqGuardType32]
 rw[Sem.run_bind,hg,Result.andThen_ok,run_neq_struct];exact congrArg (fun r:Result Bool=>r.andThen fun b w'=>Result.ok (Value.bool (!b)) w') (Znq 9996 x y w)
theorem Zqn : (Tryz.prog.fieldsOf 42).toList = [{ name := "Points", type := 3, offset := 0, embedded := false, tag := "", pkgPath := "", byteOffset := 0 }, { name := "At", type := 3, offset := 1, embedded := false, tag := "", pkgPath := "", byteOffset := 8 }] := by kernel_rfl
theorem ZsN(d:Nat)(x y:Zax)(w:World):(Op.equalIn (d+2) 42 (.agg #[.int .i64 x.fPoints,.int .i64 x.fAt]) (.agg #[.int .i64 y.fPoints,.int .i64 y.fAt])).run Tryz.prog w=.ok (decide (x=y)) w:=by rw[run_equalIn_struct w (d+1) _ _ _ (by kernel_rfl) (by kernel_rfl)];simp only[Zqn,Op.eqFields];simp[go_sem];cases x;cases y;simp only[Zax.mk.injEq];(repeat' split)<;>simp_all
theorem ZqY : (Tryz.prog.fieldsOf 44).toList = [{ name := "End", type := 30, offset := 0, embedded := false, tag := "", pkgPath := "", byteOffset := 0 }, { name := "In", type := 4, offset := 4, embedded := false, tag := "", pkgPath := "", byteOffset := 32 }, { name := "Since", type := 3, offset := 5, embedded := false, tag := "", pkgPath := "", byteOffset := 40 }, { name := "Score", type := 42, offset := 6, embedded := false, tag := "", pkgPath := "", byteOffset := 48 }, { name := "Ping", type := 3, offset := 8, embedded := false, tag := "", pkgPath := "", byteOffset := 64 }, { name := "Work", type := 3, offset := 9, embedded := false, tag := "", pkgPath := "", byteOffset := 72 }] := by kernel_rfl
theorem Zuv(d:Nat)(x y:Zaa)(w:World):(Op.equalIn (d+6) 44 (.agg #[.bool x.fEnd.fAddr.fV6,.int .u64 x.fEnd.fAddr.fHi,.int .u64 x.fEnd.fAddr.fLo,.int .i64 x.fEnd.fPort,.bool x.fIn,.int .i64 x.fSince,.int .i64 x.fScore.fPoints,.int .i64 x.fScore.fAt,.int .i64 x.fPing,.int .i64 x.fWork]) (.agg #[.bool y.fEnd.fAddr.fV6,.int .u64 y.fEnd.fAddr.fHi,.int .u64 y.fEnd.fAddr.fLo,.int .i64 y.fEnd.fPort,.bool y.fIn,.int .i64 y.fSince,.int .i64 y.fScore.fPoints,.int .i64 y.fScore.fAt,.int .i64 y.fPing,.int .i64 y.fWork])).run Tryz.prog w=.ok (decide (x=y)) w:=by rw[run_equalIn_struct w (d+5) _ _ _ (by kernel_rfl) (by kernel_rfl)];simp only[ZqY,Op.eqFields];simp[go_sem,Znr,ZsN];cases x;cases y;simp only[Zaa.mk.injEq];(repeat' split)<;>simp_all
theorem Zqv(x y:Zaa)(xo yo:Operand):∀w,(do eqGuard .neq 44 xo yo (.agg #[.bool x.fEnd.fAddr.fV6,.int .u64 x.fEnd.fAddr.fHi,.int .u64 x.fEnd.fAddr.fLo,.int .i64 x.fEnd.fPort,.bool x.fIn,.int .i64 x.fSince,.int .i64 x.fScore.fPoints,.int .i64 x.fScore.fAt,.int .i64 x.fPing,.int .i64 x.fWork]) (.agg #[.bool y.fEnd.fAddr.fV6,.int .u64 y.fEnd.fAddr.fHi,.int .u64 y.fEnd.fAddr.fLo,.int .i64 y.fEnd.fPort,.bool y.fIn,.int .i64 y.fSince,.int .i64 y.fScore.fPoints,.int .i64 y.fScore.fAt,.int .i64 y.fPing,.int .i64 y.fWork]);binOp .neq 44 (.agg #[.bool x.fEnd.fAddr.fV6,.int .u64 x.fEnd.fAddr.fHi,.int .u64 x.fEnd.fAddr.fLo,.int .i64 x.fEnd.fPort,.bool x.fIn,.int .i64 x.fSince,.int .i64 x.fScore.fPoints,.int .i64 x.fScore.fAt,.int .i64 x.fPing,.int .i64 x.fWork]) (.agg #[.bool y.fEnd.fAddr.fV6,.int .u64 y.fEnd.fAddr.fHi,.int .u64 y.fEnd.fAddr.fLo,.int .i64 y.fEnd.fPort,.bool y.fIn,.int .i64 y.fSince,.int .i64 y.fScore.fPoints,.int .i64 y.fScore.fAt,.int .i64 y.fPing,.int .i64 y.fWork]):Sem Value).run Tryz.prog w=.ok (.bool (!decide (x=y))) w:=by
 intro w;have hg:(eqGuard .neq 44 xo yo (.agg #[.bool x.fEnd.fAddr.fV6,.int .u64 x.fEnd.fAddr.fHi,.int .u64 x.fEnd.fAddr.fLo,.int .i64 x.fEnd.fPort,.bool x.fIn,.int .i64 x.fSince,.int .i64 x.fScore.fPoints,.int .i64 x.fScore.fAt,.int .i64 x.fPing,.int .i64 x.fWork]) (.agg #[.bool y.fEnd.fAddr.fV6,.int .u64 y.fEnd.fAddr.fHi,.int .u64 y.fEnd.fAddr.fLo,.int .i64 y.fEnd.fPort,.bool y.fIn,.int .i64 y.fSince,.int .i64 y.fScore.fPoints,.int .i64 y.fScore.fAt,.int .i64 y.fPing,.int .i64 y.fWork])).run Tryz.prog w=.ok () w:=by simp[eqGuard,Sem.run_bind,Tryz.eqGuardType44]
 rw[Sem.run_bind,hg,Result.andThen_ok,run_neq_struct];exact congrArg (fun r:Result Bool=>r.andThen fun b w'=>Result.ok (Value.bool (!b)) w') (Zuv 9994 x y w)
theorem Zqo : (Tryz.prog.fieldsOf 106).toList = [{ name := "End", type := 30, offset := 0, embedded := false, tag := "", pkgPath := "", byteOffset := 0 }, { name := "State", type := 3, offset := 4, embedded := false, tag := "", pkgPath := "", byteOffset := 32 }, { name := "Fails", type := 3, offset := 5, embedded := false, tag := "", pkgPath := "", byteOffset := 40 }, { name := "Next", type := 3, offset := 6, embedded := false, tag := "", pkgPath := "", byteOffset := 48 }] := by kernel_rfl
theorem ZsO(d:Nat)(x y:Zac)(w:World):(Op.equalIn (d+6) 106 (.agg #[.bool x.fEnd.fAddr.fV6,.int .u64 x.fEnd.fAddr.fHi,.int .u64 x.fEnd.fAddr.fLo,.int .i64 x.fEnd.fPort,.int .i64 x.fState,.int .i64 x.fFails,.int .i64 x.fNext]) (.agg #[.bool y.fEnd.fAddr.fV6,.int .u64 y.fEnd.fAddr.fHi,.int .u64 y.fEnd.fAddr.fLo,.int .i64 y.fEnd.fPort,.int .i64 y.fState,.int .i64 y.fFails,.int .i64 y.fNext])).run Tryz.prog w=.ok (decide (x=y)) w:=by rw[run_equalIn_struct w (d+5) _ _ _ (by kernel_rfl) (by kernel_rfl)];simp only[Zqo,Op.eqFields];simp[go_sem,Znr];cases x;cases y;simp only[Zac.mk.injEq];(repeat' split)<;>simp_all
theorem ZtK(x y:Zac)(xo yo:Operand):∀w,(do eqGuard .neq 106 xo yo (.agg #[.bool x.fEnd.fAddr.fV6,.int .u64 x.fEnd.fAddr.fHi,.int .u64 x.fEnd.fAddr.fLo,.int .i64 x.fEnd.fPort,.int .i64 x.fState,.int .i64 x.fFails,.int .i64 x.fNext]) (.agg #[.bool y.fEnd.fAddr.fV6,.int .u64 y.fEnd.fAddr.fHi,.int .u64 y.fEnd.fAddr.fLo,.int .i64 y.fEnd.fPort,.int .i64 y.fState,.int .i64 y.fFails,.int .i64 y.fNext]);binOp .neq 106 (.agg #[.bool x.fEnd.fAddr.fV6,.int .u64 x.fEnd.fAddr.fHi,.int .u64 x.fEnd.fAddr.fLo,.int .i64 x.fEnd.fPort,.int .i64 x.fState,.int .i64 x.fFails,.int .i64 x.fNext]) (.agg #[.bool y.fEnd.fAddr.fV6,.int .u64 y.fEnd.fAddr.fHi,.int .u64 y.fEnd.fAddr.fLo,.int .i64 y.fEnd.fPort,.int .i64 y.fState,.int .i64 y.fFails,.int .i64 y.fNext]):Sem Value).run Tryz.prog w=.ok (.bool (!decide (x=y))) w:=by
 intro w;have hg:(eqGuard .neq 106 xo yo (.agg #[.bool x.fEnd.fAddr.fV6,.int .u64 x.fEnd.fAddr.fHi,.int .u64 x.fEnd.fAddr.fLo,.int .i64 x.fEnd.fPort,.int .i64 x.fState,.int .i64 x.fFails,.int .i64 x.fNext]) (.agg #[.bool y.fEnd.fAddr.fV6,.int .u64 y.fEnd.fAddr.fHi,.int .u64 y.fEnd.fAddr.fLo,.int .i64 y.fEnd.fPort,.int .i64 y.fState,.int .i64 y.fFails,.int .i64 y.fNext])).run Tryz.prog w=.ok () w:=by simp[eqGuard,Sem.run_bind,Tryz.eqGuardType106]
 rw[Sem.run_bind,hg,Result.andThen_ok,run_neq_struct];exact congrArg (fun r:Result Bool=>r.andThen fun b w'=>Result.ok (Value.bool (!b)) w') (ZsO 9994 x y w)
theorem ZrL : (Tryz.prog.fieldsOf 146).toList = [{ name := "Net", type := 32, offset := 0, embedded := false, tag := "", pkgPath := "", byteOffset := 0 }, { name := "Until", type := 3, offset := 4, embedded := false, tag := "", pkgPath := "", byteOffset := 32 }] := by kernel_rfl
theorem Zva(d:Nat)(x y:Zab)(w:World):(Op.equalIn (d+6) 146 (.agg #[.bool x.fNet.fAddr.fV6,.int .u64 x.fNet.fAddr.fHi,.int .u64 x.fNet.fAddr.fLo,.int .i64 x.fNet.fBits,.int .i64 x.fUntil]) (.agg #[.bool y.fNet.fAddr.fV6,.int .u64 y.fNet.fAddr.fHi,.int .u64 y.fNet.fAddr.fLo,.int .i64 y.fNet.fBits,.int .i64 y.fUntil])).run Tryz.prog w=.ok (decide (x=y)) w:=by rw[run_equalIn_struct w (d+5) _ _ _ (by kernel_rfl) (by kernel_rfl)];simp only[ZrL,Op.eqFields];simp[go_sem,Znq];cases x;cases y;simp only[Zab.mk.injEq];(repeat' split)<;>simp_all
theorem Zwu(x y:Zab)(xo yo:Operand):∀w,(do eqGuard .neq 146 xo yo (.agg #[.bool x.fNet.fAddr.fV6,.int .u64 x.fNet.fAddr.fHi,.int .u64 x.fNet.fAddr.fLo,.int .i64 x.fNet.fBits,.int .i64 x.fUntil]) (.agg #[.bool y.fNet.fAddr.fV6,.int .u64 y.fNet.fAddr.fHi,.int .u64 y.fNet.fAddr.fLo,.int .i64 y.fNet.fBits,.int .i64 y.fUntil]);binOp .neq 146 (.agg #[.bool x.fNet.fAddr.fV6,.int .u64 x.fNet.fAddr.fHi,.int .u64 x.fNet.fAddr.fLo,.int .i64 x.fNet.fBits,.int .i64 x.fUntil]) (.agg #[.bool y.fNet.fAddr.fV6,.int .u64 y.fNet.fAddr.fHi,.int .u64 y.fNet.fAddr.fLo,.int .i64 y.fNet.fBits,.int .i64 y.fUntil]):Sem Value).run Tryz.prog w=.ok (.bool (!decide (x=y))) w:=by
 intro w;have hg:(eqGuard .neq 146 xo yo (.agg #[.bool x.fNet.fAddr.fV6,.int .u64 x.fNet.fAddr.fHi,.int .u64 x.fNet.fAddr.fLo,.int .i64 x.fNet.fBits,.int .i64 x.fUntil]) (.agg #[.bool y.fNet.fAddr.fV6,.int .u64 y.fNet.fAddr.fHi,.int .u64 y.fNet.fAddr.fLo,.int .i64 y.fNet.fBits,.int .i64 y.fUntil])).run Tryz.prog w=.ok () w:=by simp[eqGuard,Sem.run_bind,Tryz.eqGuardType146]
 rw[Sem.run_bind,hg,Result.andThen_ok,run_neq_struct];exact congrArg (fun r:Result Bool=>r.andThen fun b w'=>Result.ok (Value.bool (!b)) w') (Zva 9994 x y w)
def ZfP(a:Zas):Option Bool:=bif(decide (((a.fBans.length:Nat):Int)<=(20:Int)))then bif(decide (((a.fBook.length:Nat):Int)<=(20:Int)))then some (decide (((a.fPeers.length:Nat):Int)<=(20:Int)))else some false else some false
theorem Zka(e:Zas)(r:Bool)(a:ZfP e=some r):ZaC Tryz.prog 17 [.agg (Zas.c e)] ((Yk r)):=by
 refine ZaC.of Tryz.func17 rfl rfl rfl rfl fun S0 w0=>?_;unfold ZfP at a;rcases Zai a with⟨b,a⟩|⟨b,a⟩
 ·rcases Zai a with⟨d,a⟩|⟨d,a⟩
  ·apply Ya a 4 [rz,rB [(4,true),(10,true)]] [] (.c b (.c d .n))
  ·apply Ya a 4 [rz,rB [(4,true),(10,false)]] [] (.c b (.c d .n))
 ·apply Ya a 4 [rz,rB [(4,false)]] [] (.c b .n)
def Zbu(a b c:Int):Option Bool:=bif(decide (a>=b))then some (decide (a<=c))else some false
theorem Zbi(d e f:Int)(r:Bool)(a:Zbu d e f=some r):ZaC Tryz.prog 45 [(Yj d),(Yj e),(Yj f)] ((Yk r)):=by
 refine ZaC.of Tryz.func45 rfl rfl rfl rfl fun S0 w0=>?_;unfold Zbu at a;rcases Zai a with⟨b,a⟩|⟨b,a⟩
 ·apply Ya a 4 [rz,rB [(3,true)]] [] (.c b .n)
 ·apply Ya a 4 [rz,rB [(3,false)]] [] (.c b .n)
def ZcE(b:Bool)(a:ZaA)(c:Bool):Option Bool:=(Zbu a.fHalf (1:Int) (1073741824:Int)).bind fun d=>bif d then(Zbu a.fLimit (1:Int) (10000:Int)).bind fun e=>bif e then(Zbu a.fBanFor (1:Int) (1073741824:Int)).bind fun f=>bif f then(Zbu a.fBase (1:Int) (1073741824:Int)).bind fun g=>bif g then(Zbu a.fCap a.fBase (1073741824:Int)).bind fun h=>bif h then(Zbu a.fJitter (0:Int) (1073741824:Int)).bind fun i=>bif b then bif c then bif i then some (decide (a.fSecret<=(9223372036854775807:Int)))else some false else some false else some false else bif b then bif c then some false else some false else some false else bif b then bif c then some false else some false else some false else bif b then bif c then some false else some false else some false else bif b then bif c then some false else some false else some false else bif b then bif c then some false else some false else some false
theorem ZeL(S0:Nat->Prop)(w0:Zba)(I:Bool)(b:ZaA)(J r:Bool)(a:ZcE I b J=some r):Good Tryz.prog 93 S0 w0 (bodyPost Tryz.prog Tryz.f11 (Post S0 w0 ((Yk r)))) (at_ [1,1,1] (ZaW Tryz.f11)) ⟨[(1,.one (.ptr 1 0)),(3,(Yk I)),(4,(Yk J))],[(1,.box [.lit (.int .i64 b.fMaxIn),.lit (.int .i64 b.fMaxOut),.lit (.int .i64 b.fShards),.lit (.int .i64 b.fMaxBans),.lit (.int .i64 b.fMaxBook),.lit (.int .u64 b.fSecret),.lit (.int .i64 b.fQuota.fGroup),.lit (.int .i64 b.fQuota.fPing),.lit (.int .i64 b.fQuota.fWork),.lit (.int .i64 b.fQuota.fTime),.lit (.int .i64 b.fHalf),.lit (.int .i64 b.fLimit),.lit (.int .i64 b.fBanFor),.lit (.int .i64 b.fBase),.lit (.int .i64 b.fCap),.lit (.int .i64 b.fJitter)])]⟩:=by
 unfold ZcE at a;obtain⟨d,A,a⟩:=Zaf a;rcases Zai a with⟨s,a⟩|⟨s,a⟩
 ·obtain⟨e,C,a⟩:=Zaf a;have O1:Obl _:=(.c (Zbi _ _ _ _ A) (.c s (.c (Zbi _ _ _ _ C) .n)));rcases Zai a with⟨aW,a⟩|⟨aW,a⟩
  ·obtain⟨j,D,a⟩:=Zaf a;have O2:Obl _:=(O1.app (.c aW (.c (Zbi _ _ _ _ D) .n)));rcases Zai a with⟨f,a⟩|⟨f,a⟩
   ·obtain⟨t,E,a⟩:=Zaf a;have O3:Obl _:=(O2.app (.c f (.c (Zbi _ _ _ _ E) .n)));rcases Zai a with⟨g,a⟩|⟨g,a⟩
    ·obtain⟨B,F,a⟩:=Zaf a;have O4:Obl _:=(O3.app (.c g (.c (Zbi _ _ _ _ F) .n)));rcases Zai a with⟨h,a⟩|⟨h,a⟩
     ·obtain⟨G,H,a⟩:=Zaf a
      let R5:List RA:=[⟨[(2,aB d),(6,aB e),(11,aB j),(16,aB t),(23,aB B),(28,aB G)],[(3,true),(8,true),(13,true),(18,true),(25,true)],[],[],[],[],[]⟩]
      have O6:Obl _:=(O4.app (.c h (.c (Zbi _ _ _ _ H) .n)));rcases Zai a with⟨i,a⟩|⟨i,a⟩
      ·rcases Zai a with⟨k,a⟩|⟨k,a⟩
       ·rcases Zai a with⟨u,a⟩|⟨u,a⟩
        ·apply Ya a 4 (R5++[rB [(1,true),(4,true),(7,true)]]) [] (O6.app (.c i (.c k (.c u .n))))
        ·apply Ya a 4 (R5++[rB [(1,true),(4,true),(7,false)]]) [] (O6.app (.c i (.c k (.c u .n))))
       ·apply Ya a 4 (R5++[rB [(1,true),(4,false)]]) [] (O6.app (.c i (.c k .n)))
      ·apply Ya a 4 (R5++[rB [(1,false)]]) [] (O6.app (.c i .n))
     ·let R7:List RA:=[⟨[(2,aB d),(6,aB e),(11,aB j),(16,aB t),(23,aB B)],[(3,true),(8,true),(13,true),(18,true),(25,false)],[],[],[],[],[]⟩]
      rcases Zai a with⟨l,a⟩|⟨l,a⟩
      ·rcases Zai a with⟨v,a⟩|⟨v,a⟩
       ·apply Ya a 4 (R7++[rB [(1,true),(4,true)]]) [] (O4.app (.c h (.c l (.c v .n))))
       ·apply Ya a 4 (R7++[rB [(1,true),(4,false)]]) [] (O4.app (.c h (.c l (.c v .n))))
      ·apply Ya a 4 (R7++[rB [(1,false)]]) [] (O4.app (.c h (.c l .n)))
    ·let R8:List RA:=[⟨[(2,aB d),(6,aB e),(11,aB j),(16,aB t)],[(3,true),(8,true),(13,true),(18,false)],[],[],[],[],[]⟩]
     rcases Zai a with⟨m,a⟩|⟨m,a⟩
     ·rcases Zai a with⟨w,a⟩|⟨w,a⟩
      ·apply Ya a 4 (R8++[rB [(1,true),(4,true)]]) [] (O3.app (.c g (.c m (.c w .n))))
      ·apply Ya a 4 (R8++[rB [(1,true),(4,false)]]) [] (O3.app (.c g (.c m (.c w .n))))
     ·apply Ya a 4 (R8++[rB [(1,false)]]) [] (O3.app (.c g (.c m .n)))
   ·let R9:List RA:=[⟨[(2,aB d),(6,aB e),(11,aB j)],[(3,true),(8,true),(13,false)],[],[],[],[],[]⟩]
    rcases Zai a with⟨o,a⟩|⟨o,a⟩
    ·rcases Zai a with⟨x,a⟩|⟨x,a⟩
     ·apply Ya a 4 (R9++[rB [(1,true),(4,true)]]) [] (O2.app (.c f (.c o (.c x .n))))
     ·apply Ya a 4 (R9++[rB [(1,true),(4,false)]]) [] (O2.app (.c f (.c o (.c x .n))))
    ·apply Ya a 4 (R9++[rB [(1,false)]]) [] (O2.app (.c f (.c o .n)))
  ·let gS:List RA:=[⟨[(2,aB d),(6,aB e)],[(3,true),(8,false)],[],[],[],[],[]⟩]
   rcases Zai a with⟨p,a⟩|⟨p,a⟩
   ·rcases Zai a with⟨y,a⟩|⟨y,a⟩
    ·apply Ya a 4 (gS++[rB [(1,true),(4,true)]]) [] (O1.app (.c aW (.c p (.c y .n))))
    ·apply Ya a 4 (gS++[rB [(1,true),(4,false)]]) [] (O1.app (.c aW (.c p (.c y .n))))
   ·apply Ya a 4 (gS++[rB [(1,false)]]) [] (O1.app (.c aW (.c p .n)))
 ·let i4:List RA:=[⟨[(2,aB d)],[(3,false)],[],[],[],[],[]⟩]
  have gq:Obl _:=(.c (Zbi _ _ _ _ A) (.c s .n));rcases Zai a with⟨q,a⟩|⟨q,a⟩
  ·rcases Zai a with⟨z,a⟩|⟨z,a⟩
   ·apply Ya a 4 (i4++[rB [(1,true),(4,true)]]) [] (gq.app (.c q (.c z .n)))
   ·apply Ya a 4 (i4++[rB [(1,true),(4,false)]]) [] (gq.app (.c q (.c z .n)))
  ·apply Ya a 4 (i4++[rB [(1,false)]]) [] (gq.app (.c q .n))
def ZbY(b:Bool)(a:ZaA):Option Bool:=(Zbu a.fQuota.fGroup (0:Int) (64:Int)).bind fun c=>bif c then(Zbu a.fQuota.fPing (0:Int) (64:Int)).bind fun d=>bif d then(Zbu a.fQuota.fWork (0:Int) (64:Int)).bind fun e=>bif e then(Zbu a.fQuota.fTime (0:Int) (64:Int)).bind fun f=>ZcE b a f else ZcE b a false else ZcE b a false else ZcE b a false
theorem ZdO(S0:Nat->Prop)(w0:Zba)(g:Bool)(b:ZaA)(r:Bool)(a:ZbY g b=some r):Good Tryz.prog 93 S0 w0 (bodyPost Tryz.prog Tryz.f11 (Post S0 w0 ((Yk r)))) (at_ [1,1] (ZaW Tryz.f11)) ⟨[(1,.one (.ptr 1 0)),(3,(Yk g))],[(1,.box [.lit (.int .i64 b.fMaxIn),.lit (.int .i64 b.fMaxOut),.lit (.int .i64 b.fShards),.lit (.int .i64 b.fMaxBans),.lit (.int .i64 b.fMaxBook),.lit (.int .u64 b.fSecret),.lit (.int .i64 b.fQuota.fGroup),.lit (.int .i64 b.fQuota.fPing),.lit (.int .i64 b.fQuota.fWork),.lit (.int .i64 b.fQuota.fTime),.lit (.int .i64 b.fHalf),.lit (.int .i64 b.fLimit),.lit (.int .i64 b.fBanFor),.lit (.int .i64 b.fBase),.lit (.int .i64 b.fCap),.lit (.int .i64 b.fJitter)])]⟩:=by
 unfold ZbY at a;obtain⟨i,h,a⟩:=Zaf a;rcases Zai a with⟨d,a⟩|⟨d,a⟩
 ·obtain⟨j,k,a⟩:=Zaf a;have O13:Obl _:=(.c (Zbi _ _ _ _ h) (.c d (.c (Zbi _ _ _ _ k) .n)));rcases Zai a with⟨e,a⟩|⟨e,a⟩
  ·obtain⟨o,l,a⟩:=Zaf a;have jZ:Obl _:=(O13.app (.c e (.c (Zbi _ _ _ _ l) .n)));rcases Zai a with⟨f,a⟩|⟨f,a⟩
   ·obtain⟨p,m,a⟩:=Zaf a;exact Ye 2 [⟨[(3,aB i),(8,aB j),(14,aB o),(20,aB p)],[(4,true),(10,true),(16,true)],[],[],[],[],[]⟩] [] ⟨[],[],[],[],[],[1,3,4],[1],[]⟩ (jZ.app (.c f (.c (Zbi _ _ _ _ m) .n))) (ZeL S0 w0 g b p r a)
   ·exact Ye 2 [⟨[(3,aB i),(8,aB j),(14,aB o)],[(4,true),(10,true),(16,false)],[],[],[],[],[]⟩] [] ⟨[],[],[],[],[],[1,3,4],[1],[]⟩ (jZ.app (.c f .n)) (ZeL S0 w0 g b false r a)
  ·exact Ye 2 [⟨[(3,aB i),(8,aB j)],[(4,true),(10,false)],[],[],[],[],[]⟩] [] ⟨[],[],[],[],[],[1,3,4],[1],[]⟩ (O13.app (.c e .n)) (ZeL S0 w0 g b false r a)
 ·exact Ye 2 [⟨[(3,aB i)],[(4,false)],[],[],[],[],[]⟩] [] ⟨[],[],[],[],[],[1,3,4],[1],[]⟩ (.c (Zbi _ _ _ _ h) (.c d .n)) (ZeL S0 w0 g b false r a)
def Zdq(a:ZaA):Option Bool:=(Zbu a.fMaxIn (0:Int) (65535:Int)).bind fun b=>bif b then(Zbu a.fMaxOut (0:Int) (65535:Int)).bind fun c=>bif c then(Zbu a.fShards (1:Int) (8:Int)).bind fun d=>bif d then(Zbu a.fMaxBans (0:Int) (1024:Int)).bind fun e=>bif e then(Zbu a.fMaxBook (0:Int) (1024:Int)).bind fun f=>ZbY f a else ZbY false a else ZbY false a else ZbY false a else ZbY false a
theorem ZjX(b:ZaA)(r:Bool)(a:Zdq b=some r):ZaC Tryz.prog 11 [.agg (ZaA.c b)] ((Yk r)):=by
 refine ZaC.of Tryz.func11 rfl rfl rfl rfl fun S0 w0=>?_;unfold Zdq at a;obtain⟨d,k,a⟩:=Zaf a;rcases Zai a with⟨f,a⟩|⟨f,a⟩
 ·obtain⟨e,o,a⟩:=Zaf a;have O15:Obl _:=(.c (Zbi _ _ _ _ k) (.c f (.c (Zbi _ _ _ _ o) .n)));rcases Zai a with⟨g,a⟩|⟨g,a⟩
  ·obtain⟨h,p,a⟩:=Zaf a;have O16:Obl _:=(O15.app (.c g (.c (Zbi _ _ _ _ p) .n)));rcases Zai a with⟨i,a⟩|⟨i,a⟩
   ·obtain⟨l,q,a⟩:=Zaf a;have O17:Obl _:=(O16.app (.c i (.c (Zbi _ _ _ _ q) .n)));rcases Zai a with⟨j,a⟩|⟨j,a⟩
    ·obtain⟨m,s,a⟩:=Zaf a;exact Ye 4 [rz,⟨[(2,aB d),(6,aB e),(11,aB h),(16,aB l),(21,aB m)],[(3,true),(8,true),(13,true),(18,true)],[],[],[],[],[]⟩] [] ⟨[],[],[],[],[],[1,3],[1],[]⟩ (O17.app (.c j (.c (Zbi _ _ _ _ s) .n))) (ZdO S0 w0 m b r a)
    ·exact Ye 4 [rz,⟨[(2,aB d),(6,aB e),(11,aB h),(16,aB l)],[(3,true),(8,true),(13,true),(18,false)],[],[],[],[],[]⟩] [] ⟨[],[],[],[],[],[1,3],[1],[]⟩ (O17.app (.c j .n)) (ZdO S0 w0 false b r a)
   ·exact Ye 4 [rz,⟨[(2,aB d),(6,aB e),(11,aB h)],[(3,true),(8,true),(13,false)],[],[],[],[],[]⟩] [] ⟨[],[],[],[],[],[1,3],[1],[]⟩ (O16.app (.c i .n)) (ZdO S0 w0 false b r a)
  ·exact Ye 4 [rz,⟨[(2,aB d),(6,aB e)],[(3,true),(8,false)],[],[],[],[],[]⟩] [] ⟨[],[],[],[],[],[1,3],[1],[]⟩ (O15.app (.c g .n)) (ZdO S0 w0 false b r a)
 ·exact Ye 4 [rz,⟨[(2,aB d)],[(3,false)],[],[],[],[],[]⟩] [] ⟨[],[],[],[],[],[1,3],[1],[]⟩ (.c (Zbi _ _ _ _ k) (.c f .n)) (ZdO S0 w0 false b r a)
def Zcf(a:Zag):Option Bool:=bif(!a.fV6)then bif(a.fHi==(0:Int))then some (decide (a.fLo<(4294967296:Int)))else some false else bif(a.fHi != (0:Int))then some true else some ((IntKind.wrap .u64 (Int.tdiv a.fLo (4294967296:Int))) != (65535:Int))
theorem Zca(f:Zag)(r:Bool)(a:Zcf f=some r):ZaC Tryz.prog 116 [.agg (Zag.c f)] ((Yk r)):=by
 refine ZaC.of Tryz.func116 rfl rfl rfl rfl fun S0 w0=>?_;unfold Zcf at a;rcases Zai a with⟨b,a⟩|⟨b,a⟩
 ·rcases Zai a with⟨d,a⟩|⟨d,a⟩
  ·apply Ya a 8 [rz,rz,rB [(3,true)]] [true] (.c b (.c d .n))
  ·apply Ya a 8 [rz,rz,rB [(3,false)]] [true] (.c b (.c d .n))
 ·rcases Zai a with⟨e,a⟩|⟨e,a⟩
  ·apply Ya a 9 [rz,rz,rB [(3,true)]] [false] (.c b (.c e .n))
  ·apply Ya a 9 [rz,rz,rB [(3,false)]] [false] (.c b (.c e (.c (show (4294967296:Int)≠0 from(by decide)) .n)))
def Zce(a:Zag):Option Int:=bif a.fV6 then some (128:Int)else some (32:Int)
theorem Zct(d:Zag)(r:Int)(a:Zce d=some r):ZaC Tryz.prog 205 [.agg (Zag.c d)] ((Yj r)):=by
 refine ZaC.of Tryz.func205 rfl rfl rfl rfl fun S0 w0=>?_;unfold Zce at a;rcases Zai a with⟨b,a⟩|⟨b,a⟩
 ·apply Ya a 8 [rz,rz,rz] [true] (.c b .n)
 ·apply Ya a 9 [rz,rz,rz] [false] (.c b .n)
def ZdG(a b:Int)(c:Zag):Option Int:=bif(!c.fV6)then need (0<=(IntKind.wrap .u64 (ZaV (31:Int) a)))<|some (IntKind.wrap .i64 (IntKind.wrap .u64 (((BitVec.ofInt (IntKind.bits .u64) (Int.fdiv b (2 ^ (min (IntKind.wrap .u64 (ZaV (31:Int) a)).toNat (IntKind.bits .u64))))) &&& (BitVec.ofInt (IntKind.bits .u64) (1:Int))).toNat:Int)))else need (0<=(IntKind.wrap .u64 (ZaV (63:Int) (Int.tmod a (64:Int)))))<|some (IntKind.wrap .i64 (IntKind.wrap .u64 (((BitVec.ofInt (IntKind.bits .u64) (Int.fdiv b (2 ^ (min (IntKind.wrap .u64 (ZaV (63:Int) (Int.tmod a (64:Int)))).toNat (IntKind.bits .u64))))) &&& (BitVec.ofInt (IntKind.bits .u64) (1:Int))).toNat:Int)))
theorem Zhz(S0:Nat->Prop)(w0:Zba)(e f:Int)(b:Zag)(r:Int)(a:ZdG e f b=some r):Good Tryz.prog 39 S0 w0 (bodyPost Tryz.prog Tryz.f206 (Post S0 w0 ((Yj r)))) (at_ [1,1,1,1] (ZaW Tryz.f206)) ⟨[(1,(Yj e)),(2,.one (.ptr 2 0)),(5,.one (.lit (.int .u64 f)))],[(2,.box [.lit (.bool b.fV6),.lit (.int .u64 b.fHi),.lit (.int .u64 b.fLo)])]⟩:=by
 unfold ZdG at a;have O1:Obl _:=(.c (show (64:Int)≠0 from(by decide)) .n);rcases Zai a with⟨d,a⟩|⟨d,a⟩
 ·obtain⟨g,a⟩:=Zaq a;apply Ya a 9 [rz,rz,rz,rz] [true] (O1.app (.c d (.c g .n)))
 ·obtain⟨h,a⟩:=Zaq a;apply Ya a 9 [rz,rz,rz] [false] (O1.app (.c d (.c h .n)))
def ZdV(a:Zag)(b:Int):Option Int:=bif(decide (b<(0:Int)))then some (0:Int)else(Zce a).bind fun c=>bif(decide (b>=c))then some (0:Int)else bif a.fV6 then bif(decide (b<(64:Int)))then ZdG b a.fHi a else ZdG b a.fLo a else ZdG b a.fLo a
theorem ZiB(b:Zag)(d r:Int)(a:ZdV b d=some r):ZaC Tryz.prog 206 [.agg (Zag.c b),(Yj d)] ((Yj r)):=by
 refine ZaC.of Tryz.func206 rfl rfl rfl rfl fun S0 w0=>?_;unfold ZdV at a;rcases Zai a with⟨g,a⟩|⟨g,a⟩
 ·apply Ya a 8 [rz,rB [(2,true)],rz] [true] (.c g (.c (show true=true from rfl) .n))
 ·obtain⟨i,j,a⟩:=Zaf a
  let R2:List RA:=[rz,⟨[(5,aI i)],[(2,false)],[],[],[],[],[]⟩,rz]
  have O3:Obl _:=(.c g (.c (Zct _ _ j) .n));rcases Zai a with⟨e,a⟩|⟨e,a⟩
  ·apply Ya a 8 R2 [true] (O3.app (.c e .n))
  ·rcases Zai a with⟨f,a⟩|⟨f,a⟩
   ·rcases Zai a with⟨h,a⟩|⟨h,a⟩
    ·exact Ye 14 (R2++[rB [(2,true)],rz]) [false,true] ⟨[],[],[],[],[],[1,2,5],[2],[]⟩ (O3.app (.c e (.c f (.c h .n)))) (Zhz S0 w0 d b.fHi b r a)
    ·exact Ye 14 (R2++[rB [(2,true)]]) [false,false] ⟨[],[],[],[],[],[1,2,5],[2],[]⟩ (O3.app (.c e (.c f (.c h .n)))) (Zhz S0 w0 d b.fLo b r a)
   ·exact Ye 14 (R2++[rB [(2,false)]]) [false,false] ⟨[],[],[],[],[],[1,2,5],[2],[]⟩ (O3.app (.c e (.c f (.c (show false=false from rfl) .n)))) (Zhz S0 w0 d b.fLo b r a)
def Zde:Nat->Int->Zao->Option Bool|0,_,_=>none|fu+1,a,b=>(Zce b.fAddr).bind fun c=>bif(decide (a<c))then(ZdV b.fAddr a).bind fun d=>bif(d==(1:Int))then some false else Zde fu (Zar a 1) b else some true
theorem ZmN(S0:Nat->Prop)(w0:Zba):∀(e:Nat)(d:Int)(b:Zao)(r:Bool),Zde e d b=some r->Good Tryz.prog 35 S0 w0 (bodyPost Tryz.prog Tryz.f115 (Post S0 w0 ((Yk r)))) (at_ [1,1,0,1,0] (ZaW Tryz.f115)) ⟨[(1,.one (.ptr 1 0)),(3,(Yj d))],[(1,.box [.lit (.bool b.fAddr.fV6),.lit (.int .u64 b.fAddr.fHi),.lit (.int .u64 b.fAddr.fLo),.lit (.int .i64 b.fBits)])]⟩:=by
 intro e;induction e with
 |zero=>
  intro d b r a;simp[Zde]at a
 |succ e k=>
  intro d b r a;unfold Zde at a;obtain⟨f,i,a⟩:=Zaf a;rcases Zai a with⟨g,a⟩|⟨g,a⟩
  ·obtain⟨j,l,a⟩:=Zaf a;have O1:Obl _:=(.c (Zct _ _ i) (.c g (.c (ZiB _ _ _ l) .n)));rcases Zai a with⟨h,a⟩|⟨h,a⟩
   ·apply Ya a 13 [rA [(3,aI f)],rA [(3,aI j)],rz] [true,true] (O1.app (.c h .n))
   ·exact Ye 15 [rA [(3,aI f)],rA [(3,aI j)],rz] [true,false] ⟨[],[],[],[],[],[1,3],[1],[]⟩ (O1.app (.c h .n)) (k (Zar d 1) b r a)
  ·apply Ya a 8 [rA [(3,aI f)],rz] [false] (.c (Zct _ _ i) (.c g .n))
def ZdR(a:Zao):Option Bool:=(Zcf a.fAddr).bind fun b=>bif(!b)then some false else bif(decide (a.fBits<(0:Int)))then some false else(Zce a.fAddr).bind fun c=>bif(decide (a.fBits>c))then some false else Zde 1000000 a.fBits a
theorem Zev(b:Zao)(r:Bool)(a:ZdR b=some r):ZaC Tryz.prog 115 [.agg (Zao.c b)] ((Yk r)):=by
 refine ZaC.of Tryz.func115 rfl rfl rfl rfl fun S0 w0=>?_;unfold ZdR at a;obtain⟨d,h,a⟩:=Zaf a;rcases Zai a with⟨e,a⟩|⟨e,a⟩
 ·apply Ya a 8 [rz,⟨[(2,aB d)],[(4,true)],[],[],[],[],[]⟩,rz] [true] (.c (Zca _ _ h) (.c e (.c (show true=true from rfl) .n)))
 ·have O2:Obl _:=(.c (Zca _ _ h) (.c e .n));rcases Zai a with⟨f,a⟩|⟨f,a⟩
  ·apply Ya a 8 [rz,⟨[(2,aB d)],[(4,false),(9,true)],[],[],[],[],[]⟩,rz] [true] (O2.app (.c f (.c (show true=true from rfl) .n)))
  ·obtain⟨i,j,a⟩:=Zaf a
   let R3:List RA:=[rz,⟨[(2,aB d),(14,aI i)],[(4,false),(9,false)],[],[],[],[],[]⟩,rz]
   have O4:Obl _:=(O2.app (.c f (.c (Zct _ _ j) .n)));rcases Zai a with⟨g,a⟩|⟨g,a⟩
   ·apply Ya a 8 R3 [true] (O4.app (.c g .n))
   ·exact Ye 11 R3 [false] ⟨[],[],[],[],[],[1,3],[1],[]⟩ (O4.app (.c g .n)) (ZmN S0 w0 1000000 b.fBits b r a)
def ZeD(a:Zab):Option Bool:=(ZdR a.fNet).bind fun b=>bif b then bif(decide (a.fUntil>(0:Int)))then some (decide (a.fUntil<=(1099511627776:Int)))else some false else some false
theorem ZhQ(f:Zab)(r:Bool)(a:ZeD f=some r):ZaC Tryz.prog 127 [.agg (Zab.c f)] ((Yk r)):=by
 refine ZaC.of Tryz.func127 rfl rfl rfl rfl fun S0 w0=>?_;unfold ZeD at a;obtain⟨b,g,a⟩:=Zaf a;rcases Zai a with⟨d,a⟩|⟨d,a⟩
 ·have O1:Obl _:=(.c (Zev _ _ g) (.c d .n));rcases Zai a with⟨e,a⟩|⟨e,a⟩
  ·apply Ya a 4 [rz,⟨[(2,aB b)],[(3,true),(8,true)],[],[],[],[],[]⟩] [] (O1.app (.c e .n))
  ·apply Ya a 4 [rz,⟨[(2,aB b)],[(3,true),(8,false)],[],[],[],[],[]⟩] [] (O1.app (.c e .n))
 ·apply Ya a 4 [rz,⟨[(2,aB b)],[(3,false)],[],[],[],[],[]⟩] [] (.c (Zev _ _ g) (.c d .n))
def Zec(a:Bool):Option Int:=bif a then some (-1:Int)else some (1:Int)
theorem Zir(S0:Nat->Prop)(w0:Zba)(d:Bool)(r:Int)(a:Zec d=some r):Good Tryz.prog 33 S0 w0 (bodyPost Tryz.prog Tryz.f210 (Post S0 w0 ((Yj r)))) (at_ [1,1,1,1,1] (ZaW Tryz.f210)) ⟨[(5,(Yk d))],[]⟩:=by
 unfold Zec at a;rcases Zai a with⟨b,a⟩|⟨b,a⟩
 ·apply Ya a 6 [rz,rz] [true] (.c b .n)
 ·apply Ya a 7 [rz,rz] [false] (.c b .n)
def Zed(b:Bool)(a c:Zag):Option Int:=bif(!(a.fV6==c.fV6))then Zec (!a.fV6)else Zec b
theorem Zis(S0:Nat->Prop)(w0:Zba)(e:Bool)(b d:Zag)(r:Int)(a:Zed e b d=some r):Good Tryz.prog 33 S0 w0 (bodyPost Tryz.prog Tryz.f210 (Post S0 w0 ((Yj r)))) (at_ [1,1,1,1] (ZaW Tryz.f210)) ⟨[(2,.one (.ptr 2 0)),(3,.one (.ptr 3 0)),(5,(Yk e))],[(2,.box [.lit (.bool b.fV6),.lit (.int .u64 b.fHi),.lit (.int .u64 b.fLo)]),(3,.box [.lit (.bool d.fV6),.lit (.int .u64 d.fHi),.lit (.int .u64 d.fLo)])]⟩:=by
 unfold Zed at a;rcases Zai a with⟨f,a⟩|⟨f,a⟩
 ·exact Ye 5 [rz,rz] [true] (Yi [5]) (.c f .n) (Zir S0 w0 (!b.fV6) r a)
 ·exact Ye 5 [rz] [false] (Yi [5]) (.c f .n) (Zir S0 w0 e r a)
def ZdX(a b:Zag):Option Int:=bif(decide (a=b))then some (0:Int)else bif(a.fHi != b.fHi)then Zed (decide (a.fHi<b.fHi)) a b else Zed (decide (a.fLo<b.fLo)) a b
theorem Zff(a b:Zag)(r:Int)(d:ZdX a b=some r):ZaC Tryz.prog 210 [.agg (Zag.c a),.agg (Zag.c b)] ((Yj r)):=by
 refine ZaC.of Tryz.func210 rfl rfl rfl rfl fun S0 w0=>?_;unfold ZdX at d;have O1:Obl _:=(.c (ZkJ a b (.tmp 6) (.tmp 7)) .n);rcases Zai d with⟨e,d⟩|⟨e,d⟩
 ·apply Ya d 8 [rz,rA [(2,aB (decide (a=b)))],rz] [true] (O1.app (.c e .n))
 ·rcases Zai d with⟨f,d⟩|⟨f,d⟩
  ·exact Ye 14 [rz,rA [(2,aB (decide (a=b)))],rz,rz,rz] [false,true] ⟨[],[],[],[],[],[2,3,5],[2,3],[]⟩ (O1.app (.c e (.c f .n))) (Zis S0 w0 (decide (a.fHi<b.fHi)) a b r d)
  ·exact Ye 14 [rz,rA [(2,aB (decide (a=b)))],rz,rz] [false,false] ⟨[],[],[],[],[],[2,3,5],[2,3],[]⟩ (O1.app (.c e (.c f .n))) (Zis S0 w0 (decide (a.fLo<b.fLo)) a b r d)
def ZdW(a b:Zao):Option Int:=(ZdX a.fAddr b.fAddr).bind fun c=>bif(c != (0:Int))then some c else bif(a.fBits==b.fBits)then some c else bif(decide (a.fBits<b.fBits))then some (-1:Int)else some (1:Int)
theorem Zjl(g h:Zao)(r:Int)(a:ZdW g h=some r):ZaC Tryz.prog 128 [.agg (Zao.c g),.agg (Zao.c h)] ((Yj r)):=by
 refine ZaC.of Tryz.func128 rfl rfl rfl rfl fun S0 w0=>?_;unfold ZdW at a;obtain⟨d,i,a⟩:=Zaf a;rcases Zai a with⟨e,a⟩|⟨e,a⟩
 ·apply Ya a 10 [rz,rA [(4,aI d)],rB [(2,true)],rz] [true] (.c (Zff _ _ _ i) (.c e (.c (show true=true from rfl) .n)))
 ·have O1:Obl _:=(.c (Zff _ _ _ i) (.c e .n));rcases Zai a with⟨b,a⟩|⟨b,a⟩
  ·apply Ya a 10 [rz,rA [(4,aI d)],rB [(2,false)],rz] [true] (O1.app (.c b .n))
  ·let R2:List RA:=[rz,rA [(4,aI d)],rB [(2,false)],rz,rz]
   rcases Zai a with⟨f,a⟩|⟨f,a⟩
   ·apply Ya a 15 R2 [false,true] (O1.app (.c b (.c f .n)))
   ·apply Ya a 16 R2 [false,false] (O1.app (.c b (.c f .n)))
def ZbZ(b:List Zab)(a:Int)(az:Int->Option Bool):Nat->Int->Option Bool|0,_=>none|fu+1,c=>bif(decide (c<a))then need (0<=c/\c<((b.length:Nat):Int))<|need (0<=a/\a<((b.length:Nat):Int))<|(ZdW ((b.getD c.toNat Zab.d).fNet) ((b.getD a.toNat Zab.d).fNet)).bind fun e=>bif(decide (e>=(0:Int)))then some false else ZbZ b a az fu (Zar c 1)else az (Zar a 1)
theorem ZmK(S0:Nat->Prop)(w0:Zba)(e:List Zab)(f:Int)(az:Int->Option Bool)(bC:∀(gT:Int)(r:Bool),az gT=some r->Good Tryz.prog 34 S0 w0 (bodyPost Tryz.prog Tryz.f58 (Post S0 w0 ((Yk r)))) (at_ [1,0,1,0] (ZaW Tryz.f58)) ⟨[(0,(Yl e)),(3,(Yj gT))],[]⟩):∀(d:Nat)(b:Int)(r:Bool),ZbZ e f az d b=some r->Good Tryz.prog 34 S0 w0 (bodyPost Tryz.prog Tryz.f58 (Post S0 w0 ((Yk r)))) (at_ [1,0,1,0,0,1,0,0,1,1,0] (ZaW Tryz.f58)) ⟨[(0,(Yl e)),(3,(Yj f)),(4,(Yj b))],[]⟩:=by
 intro d;induction d with
 |zero=>
  intro b r a;simp[ZbZ]at a
 |succ d j=>
  intro b r a;unfold ZbZ at a;rcases Zai a with⟨g,a⟩|⟨g,a⟩
  ·obtain⟨k,a⟩:=Zaq a;obtain⟨l,a⟩:=Zaq a;obtain⟨i,m,a⟩:=Zaf a;have O1:Obl _:=(.c g (.c k (.c l (.c (Zjl _ _ _ m) .n))));rcases Zai a with⟨h,a⟩|⟨h,a⟩
   ·apply Ya a 13 [rz,rA [(10,aI i)],rz] [true,true] (O1.app (.c h .n))
   ·exact Ye 15 [rz,rA [(10,aI i)],rz] [true,false] (Yi [0,3,4]) (O1.app (.c h .n)) (j (Zar b 1) r a)
  ·exact Ye 9 [rz,rz] [false] (Yi [0,3]) (.c g .n) (bC (Zar f 1) r a)
def ZbB(b:List Zab):Nat->Int->Option Bool|0,_=>none|fu+1,a=>bif(decide (a<((b.length:Nat):Int)))then need (0<=a/\a<((b.length:Nat):Int))<|(ZeD (b.getD a.toNat Zab.d)).bind fun c=>bif(!c)then some false else ZbZ b a (ZbB b fu) ((a-(0:Int)).toNat+2) (0:Int)else some true
theorem ZmL(S0:Nat->Prop)(w0:Zba)(e:List Zab):∀(d:Nat)(b:Int)(r:Bool),ZbB e d b=some r->Good Tryz.prog 34 S0 w0 (bodyPost Tryz.prog Tryz.f58 (Post S0 w0 ((Yk r)))) (at_ [1,0,1,0] (ZaW Tryz.f58)) ⟨[(0,(Yl e)),(3,(Yj b))],[]⟩:=by
 intro d;induction d with
 |zero=>
  intro b r a;simp[ZbB]at a
 |succ d i=>
  intro b r a;unfold ZbB at a;rcases Zai a with⟨f,a⟩|⟨f,a⟩
  ·obtain⟨o2,a⟩:=Zaq a;obtain⟨h,j,a⟩:=Zaf a;have O2:Obl _:=(.c f (.c o2 (.c (ZhQ _ _ j) .n)));rcases Zai a with⟨g,a⟩|⟨g,a⟩
   ·apply Ya a 14 [rz,rA [(4,aB h)],rz] [true,true] (O2.app (.c g .n))
   ·exact Ye 16 [rz,rA [(4,aB h)],rz] [true,false] (Yi [0,3,4]) (O2.app (.c g .n)) (ZmK S0 w0 e b (ZbB e d) i ((b-(0:Int)).toNat+2) (0:Int) r a)
  ·apply Ya a 8 [rz,rz] [false] (.c f .n)
def Zhk(a:List Zab):Option Bool:=ZbB a ((((a.length:Nat):Int)-(0:Int)).toNat+2) (0:Int)
theorem ZoB(a:List Zab)(r:Bool)(b:Zhk a=some r):ZaC Tryz.prog 58 [(Yl a)] ((Yk r)):=by
 refine ZaC.of Tryz.func58 rfl rfl rfl rfl fun S0 w0=>?_;unfold Zhk at b;exact Ye 6 [rz,rz] [] (Yi [0,3]) .n (ZmL S0 w0 a ((((a.length:Nat):Int)-(0:Int)).toNat+2) (0:Int) r b)
def ZdQ(a:Zah):Option Bool:=(Zcf a.fAddr).bind fun b=>bif b then bif(decide (a.fPort>(0:Int)))then some (decide (a.fPort<(65536:Int)))else some false else some false
theorem Zeu(f:Zah)(r:Bool)(a:ZdQ f=some r):ZaC Tryz.prog 114 [.agg (Zah.c f)] ((Yk r)):=by
 refine ZaC.of Tryz.func114 rfl rfl rfl rfl fun S0 w0=>?_;unfold ZdQ at a;obtain⟨b,g,a⟩:=Zaf a;rcases Zai a with⟨d,a⟩|⟨d,a⟩
 ·have O1:Obl _:=(.c (Zca _ _ g) (.c d .n));rcases Zai a with⟨e,a⟩|⟨e,a⟩
  ·apply Ya a 4 [rz,⟨[(2,aB b)],[(3,true),(8,true)],[],[],[],[],[]⟩] [] (O1.app (.c e .n))
  ·apply Ya a 4 [rz,⟨[(2,aB b)],[(3,true),(8,false)],[],[],[],[],[]⟩] [] (O1.app (.c e .n))
 ·apply Ya a 4 [rz,⟨[(2,aB b)],[(3,false)],[],[],[],[],[]⟩] [] (.c (Zca _ _ g) (.c d .n))
def ZfJ(a:Zac):Option Bool:=(ZdQ a.fEnd).bind fun b=>bif b then bif(decide (a.fState>=(1:Int)))then bif(decide (a.fState<=(3:Int)))then bif(decide (a.fFails>=(0:Int)))then bif(decide (a.fFails<=(1000:Int)))then bif(decide (a.fNext>=(0:Int)))then some (decide (a.fNext<=(1099511627776:Int)))else some false else some false else some false else some false else some false else some false
theorem Zow(j:Zac)(r:Bool)(a:ZfJ j=some r):ZaC Tryz.prog 129 [.agg (Zac.c j)] ((Yk r)):=by
 refine ZaC.of Tryz.func129 rfl rfl rfl rfl fun S0 w0=>?_;unfold ZfJ at a;obtain⟨b,k,a⟩:=Zaf a;rcases Zai a with⟨h,a⟩|⟨h,a⟩
 ·have O1:Obl _:=(.c (Zeu _ _ k) (.c h .n));rcases Zai a with⟨d,a⟩|⟨d,a⟩
  ·rcases Zai a with⟨e,a⟩|⟨e,a⟩
   ·rcases Zai a with⟨f,a⟩|⟨f,a⟩
    ·rcases Zai a with⟨g,a⟩|⟨g,a⟩
     ·rcases Zai a with⟨i,a⟩|⟨i,a⟩
      ·apply Ya a 4 [rz,⟨[(2,aB b)],[(3,true),(8,true),(13,true),(18,true),(23,true),(28,true)],[],[],[],[],[]⟩] [] (O1.app (.c d (.c e (.c f (.c g (.c i .n))))))
      ·apply Ya a 4 [rz,⟨[(2,aB b)],[(3,true),(8,true),(13,true),(18,true),(23,true),(28,false)],[],[],[],[],[]⟩] [] (O1.app (.c d (.c e (.c f (.c g (.c i .n))))))
     ·apply Ya a 4 [rz,⟨[(2,aB b)],[(3,true),(8,true),(13,true),(18,true),(23,false)],[],[],[],[],[]⟩] [] (O1.app (.c d (.c e (.c f (.c g .n)))))
    ·apply Ya a 4 [rz,⟨[(2,aB b)],[(3,true),(8,true),(13,true),(18,false)],[],[],[],[],[]⟩] [] (O1.app (.c d (.c e (.c f .n))))
   ·apply Ya a 4 [rz,⟨[(2,aB b)],[(3,true),(8,true),(13,false)],[],[],[],[],[]⟩] [] (O1.app (.c d (.c e .n)))
  ·apply Ya a 4 [rz,⟨[(2,aB b)],[(3,true),(8,false)],[],[],[],[],[]⟩] [] (O1.app (.c d .n))
 ·apply Ya a 4 [rz,⟨[(2,aB b)],[(3,false)],[],[],[],[],[]⟩] [] (.c (Zeu _ _ k) (.c h .n))
def Zdu(a b:Zah):Option Int:=(ZdX a.fAddr b.fAddr).bind fun c=>bif(c != (0:Int))then some c else bif(a.fPort==b.fPort)then some c else bif(decide (a.fPort<b.fPort))then some (-1:Int)else some (1:Int)
theorem Zhc(g h:Zah)(r:Int)(a:Zdu g h=some r):ZaC Tryz.prog 130 [.agg (Zah.c g),.agg (Zah.c h)] ((Yj r)):=by
 refine ZaC.of Tryz.func130 rfl rfl rfl rfl fun S0 w0=>?_;unfold Zdu at a;obtain⟨d,i,a⟩:=Zaf a;rcases Zai a with⟨e,a⟩|⟨e,a⟩
 ·apply Ya a 10 [rz,rA [(4,aI d)],rB [(2,true)],rz] [true] (.c (Zff _ _ _ i) (.c e (.c (show true=true from rfl) .n)))
 ·have O1:Obl _:=(.c (Zff _ _ _ i) (.c e .n));rcases Zai a with⟨b,a⟩|⟨b,a⟩
  ·apply Ya a 10 [rz,rA [(4,aI d)],rB [(2,false)],rz] [true] (O1.app (.c b .n))
  ·let R2:List RA:=[rz,rA [(4,aI d)],rB [(2,false)],rz,rz]
   rcases Zai a with⟨f,a⟩|⟨f,a⟩
   ·apply Ya a 15 R2 [false,true] (O1.app (.c b (.c f .n)))
   ·apply Ya a 16 R2 [false,false] (O1.app (.c b (.c f .n)))
def Zdd(b:List Zac)(a:Int)(aA:Int->Option Bool):Nat->Int->Option Bool|0,_=>none|fu+1,c=>bif(decide (c<a))then need (0<=c/\c<((b.length:Nat):Int))<|need (0<=a/\a<((b.length:Nat):Int))<|(Zdu ((b.getD c.toNat Zac.d).fEnd) ((b.getD a.toNat Zac.d).fEnd)).bind fun e=>bif(decide (e>=(0:Int)))then some false else Zdd b a aA fu (Zar c 1)else aA (Zar a 1)
theorem ZmE(S0:Nat->Prop)(w0:Zba)(e:List Zac)(f:Int)(aA:Int->Option Bool)(bD:∀(gT:Int)(r:Bool),aA gT=some r->Good Tryz.prog 34 S0 w0 (bodyPost Tryz.prog Tryz.f59 (Post S0 w0 ((Yk r)))) (at_ [1,0,1,0] (ZaW Tryz.f59)) ⟨[(0,(Ym e)),(3,(Yj gT))],[]⟩):∀(d:Nat)(b:Int)(r:Bool),Zdd e f aA d b=some r->Good Tryz.prog 34 S0 w0 (bodyPost Tryz.prog Tryz.f59 (Post S0 w0 ((Yk r)))) (at_ [1,0,1,0,0,1,0,0,1,1,0] (ZaW Tryz.f59)) ⟨[(0,(Ym e)),(3,(Yj f)),(4,(Yj b))],[]⟩:=by
 intro d;induction d with
 |zero=>
  intro b r a;simp[Zdd]at a
 |succ d j=>
  intro b r a;unfold Zdd at a;rcases Zai a with⟨g,a⟩|⟨g,a⟩
  ·obtain⟨k,a⟩:=Zaq a;obtain⟨l,a⟩:=Zaq a;obtain⟨i,m,a⟩:=Zaf a;have O1:Obl _:=(.c g (.c k (.c l (.c (Zhc _ _ _ m) .n))));rcases Zai a with⟨h,a⟩|⟨h,a⟩
   ·apply Ya a 13 [rz,rA [(10,aI i)],rz] [true,true] (O1.app (.c h .n))
   ·exact Ye 15 [rz,rA [(10,aI i)],rz] [true,false] (Yi [0,3,4]) (O1.app (.c h .n)) (j (Zar b 1) r a)
  ·exact Ye 9 [rz,rz] [false] (Yi [0,3]) (.c g .n) (bD (Zar f 1) r a)
def Zck(b:List Zac):Nat->Int->Option Bool|0,_=>none|fu+1,a=>bif(decide (a<((b.length:Nat):Int)))then need (0<=a/\a<((b.length:Nat):Int))<|(ZfJ (b.getD a.toNat Zac.d)).bind fun c=>bif(!c)then some false else Zdd b a (Zck b fu) ((a-(0:Int)).toNat+2) (0:Int)else some true
theorem ZmF(S0:Nat->Prop)(w0:Zba)(e:List Zac):∀(d:Nat)(b:Int)(r:Bool),Zck e d b=some r->Good Tryz.prog 34 S0 w0 (bodyPost Tryz.prog Tryz.f59 (Post S0 w0 ((Yk r)))) (at_ [1,0,1,0] (ZaW Tryz.f59)) ⟨[(0,(Ym e)),(3,(Yj b))],[]⟩:=by
 intro d;induction d with
 |zero=>
  intro b r a;simp[Zck]at a
 |succ d i=>
  intro b r a;unfold Zck at a;rcases Zai a with⟨f,a⟩|⟨f,a⟩
  ·obtain⟨o2,a⟩:=Zaq a;obtain⟨h,j,a⟩:=Zaf a;have O2:Obl _:=(.c f (.c o2 (.c (Zow _ _ j) .n)));rcases Zai a with⟨g,a⟩|⟨g,a⟩
   ·apply Ya a 14 [rz,rA [(4,aB h)],rz] [true,true] (O2.app (.c g .n))
   ·exact Ye 16 [rz,rA [(4,aB h)],rz] [true,false] (Yi [0,3,4]) (O2.app (.c g .n)) (ZmE S0 w0 e b (Zck e d) i ((b-(0:Int)).toNat+2) (0:Int) r a)
  ·apply Ya a 8 [rz,rz] [false] (.c f .n)
def ZfI(a:List Zac):Option Bool:=Zck a ((((a.length:Nat):Int)-(0:Int)).toNat+2) (0:Int)
theorem Zou(a:List Zac)(r:Bool)(b:ZfI a=some r):ZaC Tryz.prog 59 [(Ym a)] ((Yk r)):=by
 refine ZaC.of Tryz.func59 rfl rfl rfl rfl fun S0 w0=>?_;unfold ZfI at b;exact Ye 6 [rz,rz] [] (Yi [0,3]) .n (ZmF S0 w0 a ((((a.length:Nat):Int)-(0:Int)).toNat+2) (0:Int) r b)
def ZfL(a:Zaa):Option Bool:=(ZdQ a.fEnd).bind fun b=>bif(!b)then some false else bif(decide (a.fSince<(0:Int)))then some false else bif(decide (a.fSince>(1099511627776:Int)))then some false else bif(decide (a.fScore.fAt<(0:Int)))then some false else bif(decide (a.fScore.fAt>(1099511627776:Int)))then some false else bif(decide (a.fWork>=(0:Int)))then bif(decide (a.fWork<=(1099511627776:Int)))then bif(decide (a.fScore.fPoints>=(0:Int)))then bif(decide (a.fScore.fPoints<=(1099511627776:Int)))then bif(decide (a.fPing>=(0:Int)))then some (decide (a.fPing<=(1048576:Int)))else some false else some false else some false else some false else some false
theorem Zoy(o:Zaa)(r:Bool)(a:ZfL o=some r):ZaC Tryz.prog 131 [.agg (Zaa.c o)] ((Yk r)):=by
 refine ZaC.of Tryz.func131 rfl rfl rfl rfl fun S0 w0=>?_;unfold ZfL at a;obtain⟨h,p,a⟩:=Zaf a;rcases Zai a with⟨l,a⟩|⟨l,a⟩
 ·apply Ya a 8 [rz,⟨[(2,aB h)],[(4,true)],[],[],[],[],[]⟩,rz] [true] (.c (Zeu _ _ p) (.c l (.c (show true=true from rfl) .n)))
 ·have O1:Obl _:=(.c (Zeu _ _ p) (.c l .n));rcases Zai a with⟨d,a⟩|⟨d,a⟩
  ·apply Ya a 8 [rz,⟨[(2,aB h)],[(4,false),(9,true)],[],[],[],[],[]⟩,rz] [true] (O1.app (.c d (.c (show true=true from rfl) .n)))
  ·rcases Zai a with⟨e,a⟩|⟨e,a⟩
   ·apply Ya a 8 [rz,⟨[(2,aB h)],[(4,false),(9,false),(14,true)],[],[],[],[],[]⟩,rz] [true] (O1.app (.c d (.c e (.c (show true=true from rfl) .n))))
   ·rcases Zai a with⟨g,a⟩|⟨g,a⟩
    ·apply Ya a 8 [rz,⟨[(2,aB h)],[(4,false),(9,false),(14,false),(20,true)],[],[],[],[],[]⟩,rz] [true] (O1.app (.c d (.c e (.c g (.c (show true=true from rfl) .n)))))
    ·let R2:List RA:=[rz,⟨[(2,aB h)],[(4,false),(9,false),(14,false),(20,false)],[],[],[],[],[]⟩]
     rcases Zai a with⟨i,a⟩|⟨i,a⟩
     ·apply Ya a 8 (R2++[rz]) [true] (O1.app (.c d (.c e (.c g (.c i .n)))))
     ·rcases Zai a with⟨k,a⟩|⟨k,a⟩
      ·rcases Zai a with⟨m,a⟩|⟨m,a⟩
       ·have O3:Obl _:=(O1.app (.c d (.c e (.c g (.c i (.c k (.c m .n)))))));rcases Zai a with⟨j,a⟩|⟨j,a⟩
        ·rcases Zai a with⟨b,a⟩|⟨b,a⟩
         ·rcases Zai a with⟨f,a⟩|⟨f,a⟩
          ·apply Ya a 9 (R2++[rB [(3,true),(8,true),(14,true),(20,true),(25,true)]]) [false] (O3.app (.c j (.c b (.c f .n))))
          ·apply Ya a 9 (R2++[rB [(3,true),(8,true),(14,true),(20,true),(25,false)]]) [false] (O3.app (.c j (.c b (.c f .n))))
         ·apply Ya a 9 (R2++[rB [(3,true),(8,true),(14,true),(20,false)]]) [false] (O3.app (.c j (.c b .n)))
        ·apply Ya a 9 (R2++[rB [(3,true),(8,true),(14,false)]]) [false] (O3.app (.c j .n))
       ·apply Ya a 9 (R2++[rB [(3,true),(8,false)]]) [false] (O1.app (.c d (.c e (.c g (.c i (.c k (.c m .n)))))))
      ·apply Ya a 9 (R2++[rB [(3,false)]]) [false] (O1.app (.c d (.c e (.c g (.c i (.c k .n))))))
def ZcD(b:List Zaa)(a:Int)(aC:Int->Option Bool):Nat->Int->Option Bool|0,_=>none|fu+1,c=>bif(decide (c<a))then need (0<=c/\c<((b.length:Nat):Int))<|need (0<=a/\a<((b.length:Nat):Int))<|(Zdu ((b.getD c.toNat Zaa.d).fEnd) ((b.getD a.toNat Zaa.d).fEnd)).bind fun e=>bif(decide (e>=(0:Int)))then some false else ZcD b a aC fu (Zar c 1)else aC (Zar a 1)
theorem ZmB(S0:Nat->Prop)(w0:Zba)(e:List Zaa)(f:Int)(aC:Int->Option Bool)(bE:∀(gT:Int)(r:Bool),aC gT=some r->Good Tryz.prog 34 S0 w0 (bodyPost Tryz.prog Tryz.f60 (Post S0 w0 ((Yk r)))) (at_ [1,0,1,0] (ZaW Tryz.f60)) ⟨[(0,(Yn e)),(3,(Yj gT))],[]⟩):∀(d:Nat)(b:Int)(r:Bool),ZcD e f aC d b=some r->Good Tryz.prog 34 S0 w0 (bodyPost Tryz.prog Tryz.f60 (Post S0 w0 ((Yk r)))) (at_ [1,0,1,0,0,1,0,0,1,1,0] (ZaW Tryz.f60)) ⟨[(0,(Yn e)),(3,(Yj f)),(4,(Yj b))],[]⟩:=by
 intro d;induction d with
 |zero=>
  intro b r a;simp[ZcD]at a
 |succ d j=>
  intro b r a;unfold ZcD at a;rcases Zai a with⟨g,a⟩|⟨g,a⟩
  ·obtain⟨k,a⟩:=Zaq a;obtain⟨l,a⟩:=Zaq a;obtain⟨i,m,a⟩:=Zaf a;have O1:Obl _:=(.c g (.c k (.c l (.c (Zhc _ _ _ m) .n))));rcases Zai a with⟨h,a⟩|⟨h,a⟩
   ·apply Ya a 13 [rz,rA [(10,aI i)],rz] [true,true] (O1.app (.c h .n))
   ·exact Ye 15 [rz,rA [(10,aI i)],rz] [true,false] (Yi [0,3,4]) (O1.app (.c h .n)) (j (Zar b 1) r a)
  ·exact Ye 9 [rz,rz] [false] (Yi [0,3]) (.c g .n) (bE (Zar f 1) r a)
def ZbX(b:List Zaa):Nat->Int->Option Bool|0,_=>none|fu+1,a=>bif(decide (a<((b.length:Nat):Int)))then need (0<=a/\a<((b.length:Nat):Int))<|(ZfL (b.getD a.toNat Zaa.d)).bind fun c=>bif(!c)then some false else ZcD b a (ZbX b fu) ((a-(0:Int)).toNat+2) (0:Int)else some true
theorem ZmC(S0:Nat->Prop)(w0:Zba)(e:List Zaa):∀(d:Nat)(b:Int)(r:Bool),ZbX e d b=some r->Good Tryz.prog 34 S0 w0 (bodyPost Tryz.prog Tryz.f60 (Post S0 w0 ((Yk r)))) (at_ [1,0,1,0] (ZaW Tryz.f60)) ⟨[(0,(Yn e)),(3,(Yj b))],[]⟩:=by
 intro d;induction d with
 |zero=>
  intro b r a;simp[ZbX]at a
 |succ d i=>
  intro b r a;unfold ZbX at a;rcases Zai a with⟨f,a⟩|⟨f,a⟩
  ·obtain⟨o2,a⟩:=Zaq a;obtain⟨h,j,a⟩:=Zaf a;have O2:Obl _:=(.c f (.c o2 (.c (Zoy _ _ j) .n)));rcases Zai a with⟨g,a⟩|⟨g,a⟩
   ·apply Ya a 14 [rz,rA [(4,aB h)],rz] [true,true] (O2.app (.c g .n))
   ·exact Ye 16 [rz,rA [(4,aB h)],rz] [true,false] (Yi [0,3,4]) (O2.app (.c g .n)) (ZmB S0 w0 e b (ZbX e d) i ((b-(0:Int)).toNat+2) (0:Int) r a)
  ·apply Ya a 8 [rz,rz] [false] (.c f .n)
def Zhj(a:List Zaa):Option Bool:=ZbX a ((((a.length:Nat):Int)-(0:Int)).toNat+2) (0:Int)
theorem Zos(a:List Zaa)(r:Bool)(b:Zhj a=some r):ZaC Tryz.prog 60 [(Yn a)] ((Yk r)):=by
 refine ZaC.of Tryz.func60 rfl rfl rfl rfl fun S0 w0=>?_;unfold Zhj at b;exact Ye 6 [rz,rz] [] (Yi [0,3]) .n (ZmC S0 w0 a ((((a.length:Nat):Int)-(0:Int)).toNat+2) (0:Int) r b)
def Zcj(b:List Zaa)(c:Bool):Nat->Int->Int->Option Int|0,_,_=>none|fu+1,e,a=>bif(decide (a<((b.length:Nat):Int)))then need (0<=a/\a<((b.length:Nat):Int))<|bif((b.getD a.toNat Zaa.d).fIn==c)then Zcj b c fu (Zar e 1) (Zar a 1)else Zcj b c fu e (Zar a 1)else some e
theorem ZmD(S0:Nat->Prop)(w0:Zba)(h:List Zaa)(i:Bool):∀(e:Nat)(b d r:Int),Zcj h i e b d=some r->Good Tryz.prog 23 S0 w0 (bodyPost Tryz.prog Tryz.f61 (Post S0 w0 ((Yj r)))) (at_ [1,1,0,1,0] (ZaW Tryz.f61)) ⟨[(0,(Yn h)),(1,(Yk i)),(5,(Yj b)),(6,(Yj d))],[]⟩:=by
 intro e;induction e with
 |zero=>
  intro b d r a;simp[Zcj]at a
 |succ e j=>
  intro b d r a;unfold Zcj at a;rcases Zai a with⟨f,a⟩|⟨f,a⟩
  ·obtain⟨o2,a⟩:=Zaq a;rcases Zai a with⟨g,a⟩|⟨g,a⟩
   ·exact Ye 15 [rz,rz,rz,rz] [true,true] (Yi [0,1,5,6]) (.c f (.c o2 (.c g .n))) (j (Zar b 1) (Zar d 1) r a)
   ·exact Ye 15 [rz,rz,rz] [true,false] (Yi [0,1,5,6]) (.c f (.c o2 (.c g .n))) (j b (Zar d 1) r a)
  ·apply Ya a 8 [rz,rz] [false] (.c f .n)
def Zdp(a:List Zaa)(b:Bool):Option Int:=Zcj a b ((((a.length:Nat):Int)-(0:Int)).toNat+2) (0:Int) (0:Int)
theorem ZfR(a:List Zaa)(b:Bool)(r:Int)(c:Zdp a b=some r):ZaC Tryz.prog 61 [(Yn a),(Yk b)] ((Yj r)):=by
 refine ZaC.of Tryz.func61 rfl rfl rfl rfl fun S0 w0=>?_;unfold Zdp at c;exact Ye 8 [rz,rz,rz] [] (Yi [0,1,5,6]) .n (ZmD S0 w0 a b ((((a.length:Nat):Int)-(0:Int)).toNat+2) (0:Int) (0:Int) r c)
def Zcl(b:List Zac)(c:Int):Nat->Int->Int->Option Int|0,_,_=>none|fu+1,e,a=>bif(decide (a<((b.length:Nat):Int)))then need (0<=a/\a<((b.length:Nat):Int))<|bif((b.getD a.toNat Zac.d).fState==c)then Zcl b c fu (Zar e 1) (Zar a 1)else Zcl b c fu e (Zar a 1)else some e
theorem ZmG(S0:Nat->Prop)(w0:Zba)(h:List Zac)(i:Int):∀(e:Nat)(b d r:Int),Zcl h i e b d=some r->Good Tryz.prog 23 S0 w0 (bodyPost Tryz.prog Tryz.f63 (Post S0 w0 ((Yj r)))) (at_ [1,1,0,1,0] (ZaW Tryz.f63)) ⟨[(0,(Ym h)),(1,(Yj i)),(5,(Yj b)),(6,(Yj d))],[]⟩:=by
 intro e;induction e with
 |zero=>
  intro b d r a;simp[Zcl]at a
 |succ e j=>
  intro b d r a;unfold Zcl at a;rcases Zai a with⟨f,a⟩|⟨f,a⟩
  ·obtain⟨o2,a⟩:=Zaq a;rcases Zai a with⟨g,a⟩|⟨g,a⟩
   ·exact Ye 15 [rz,rz,rz,rz] [true,true] (Yi [0,1,5,6]) (.c f (.c o2 (.c g .n))) (j (Zar b 1) (Zar d 1) r a)
   ·exact Ye 15 [rz,rz,rz] [true,false] (Yi [0,1,5,6]) (.c f (.c o2 (.c g .n))) (j b (Zar d 1) r a)
  ·apply Ya a 8 [rz,rz] [false] (.c f .n)
def ZeB(a:List Zac)(b:Int):Option Int:=Zcl a b ((((a.length:Nat):Int)-(0:Int)).toNat+2) (0:Int) (0:Int)
theorem ZjZ(a:List Zac)(b r:Int)(c:ZeB a b=some r):ZaC Tryz.prog 63 [(Ym a),(Yj b)] ((Yj r)):=by
 refine ZaC.of Tryz.func63 rfl rfl rfl rfl fun S0 w0=>?_;unfold ZeB at c;exact Ye 8 [rz,rz,rz] [] (Yi [0,1,5,6]) .n (ZmG S0 w0 a b ((((a.length:Nat):Int)-(0:Int)).toNat+2) (0:Int) (0:Int) r c)
def Zdt(a:Zas):Option Int:=(Zdp a.fPeers false).bind fun b=>(ZeB a.fBook (2:Int)).bind fun c=>some (Zar b c)
theorem Zji(b:Zas)(r:Int)(a:Zdt b=some r):ZaC Tryz.prog 28 [.agg (Zas.c b)] ((Yj r)):=by
 refine ZaC.of Tryz.func28 rfl rfl rfl rfl fun S0 w0=>?_;unfold Zdt at a;obtain⟨d,e,a⟩:=Zaf a;obtain⟨f,g,a⟩:=Zaf a;apply Ya a 4 [rz,rA [(2,aI d),(5,aI f)]] [] (.c (ZfR _ _ _ e) (.c (ZjZ _ _ _ g) .n))
def ZcF(b:List Zaa):Nat->Int->Zah->Option Int|0,_,_=>none|fu+1,a,c=>bif(decide (a<((b.length:Nat):Int)))then need (0<=a/\a<((b.length:Nat):Int))<|bif(decide ((b.getD a.toNat Zaa.d).fEnd=c))then some a else ZcF b fu (Zar a 1) c else some (-1:Int)
theorem ZmH(S0:Nat->Prop)(w0:Zba)(f:List Zaa):∀(g:Nat)(e:Int)(b:Zah)(r:Int),ZcF f g e b=some r->Good Tryz.prog 20 S0 w0 (bodyPost Tryz.prog Tryz.f51 (Post S0 w0 ((Yj r)))) (at_ [1,0,1,0] (ZaW Tryz.f51)) ⟨[(0,(Yn f)),(3,.one (.ptr 3 0)),(5,(Yj e))],[(3,.box [.lit (.bool b.fAddr.fV6),.lit (.int .u64 b.fAddr.fHi),.lit (.int .u64 b.fAddr.fLo),.lit (.int .i64 b.fPort)])]⟩:=by
 intro g;induction g with
 |zero=>
  intro e b r a;simp[ZcF]at a
 |succ g j=>
  intro e b r a;unfold ZcF at a;rcases Zai a with⟨h,a⟩|⟨h,a⟩
  ·obtain⟨o2,a⟩:=Zaq a
   let R1:List RA:=[rz,rA [(6,aB (decide ((f.getD e.toNat Zaa.d).fEnd=b)))],rz]
   have O2:Obl _:=(.c h (.c o2 (.c (Zkg ((f.getD e.toNat Zaa.d).fEnd) b (.tmp 16) (.tmp 17)) .n)));rcases Zai a with⟨i,a⟩|⟨i,a⟩
   ·apply Ya a 13 R1 [true,true] (O2.app (.c i .n))
   ·exact Ye 15 R1 [true,false] ⟨[],[],[],[],[],[0,3,5],[3],[]⟩ (O2.app (.c i .n)) (j (Zar e 1) b r a)
  ·apply Ya a 8 [rz,rz] [false] (.c h .n)
def ZfK(a:List Zaa)(b:Zah):Option Int:=ZcF a ((((a.length:Nat):Int)-(0:Int)).toNat+2) (0:Int) b
theorem Zox(a:List Zaa)(b:Zah)(r:Int)(d:ZfK a b=some r):ZaC Tryz.prog 51 [(Yn a),.agg (Zah.c b)] ((Yj r)):=by
 refine ZaC.of Tryz.func51 rfl rfl rfl rfl fun S0 w0=>?_;unfold ZfK at d;exact Ye 6 [rz,rz] [] ⟨[],[],[],[],[],[0,3,5],[3],[]⟩ .n (ZmH S0 w0 a ((((a.length:Nat):Int)-(0:Int)).toNat+2) (0:Int) b r d)
def ZcM(b:List Zac):Nat->Int->Zah->Option Int|0,_,_=>none|fu+1,a,c=>bif(decide (a<((b.length:Nat):Int)))then need (0<=a/\a<((b.length:Nat):Int))<|bif(decide ((b.getD a.toNat Zac.d).fEnd=c))then some a else ZcM b fu (Zar a 1) c else some (-1:Int)
theorem Znk(S0:Nat->Prop)(w0:Zba)(f:List Zac):∀(g:Nat)(e:Int)(b:Zah)(r:Int),ZcM f g e b=some r->Good Tryz.prog 20 S0 w0 (bodyPost Tryz.prog Tryz.f62 (Post S0 w0 ((Yj r)))) (at_ [1,0,1,0] (ZaW Tryz.f62)) ⟨[(0,(Ym f)),(3,.one (.ptr 3 0)),(5,(Yj e))],[(3,.box [.lit (.bool b.fAddr.fV6),.lit (.int .u64 b.fAddr.fHi),.lit (.int .u64 b.fAddr.fLo),.lit (.int .i64 b.fPort)])]⟩:=by
 intro g;induction g with
 |zero=>
  intro e b r a;simp[ZcM]at a
 |succ g j=>
  intro e b r a;unfold ZcM at a;rcases Zai a with⟨h,a⟩|⟨h,a⟩
  ·obtain⟨o2,a⟩:=Zaq a
   let R1:List RA:=[rz,rA [(6,aB (decide ((f.getD e.toNat Zac.d).fEnd=b)))],rz]
   have O2:Obl _:=(.c h (.c o2 (.c (Zkg ((f.getD e.toNat Zac.d).fEnd) b (.tmp 16) (.tmp 17)) .n)));rcases Zai a with⟨i,a⟩|⟨i,a⟩
   ·apply Ya a 13 R1 [true,true] (O2.app (.c i .n))
   ·exact Ye 15 R1 [true,false] ⟨[],[],[],[],[],[0,3,5],[3],[]⟩ (O2.app (.c i .n)) (j (Zar e 1) b r a)
  ·apply Ya a 8 [rz,rz] [false] (.c h .n)
def Zgi(a:List Zac)(b:Zah):Option Int:=ZcM a ((((a.length:Nat):Int)-(0:Int)).toNat+2) (0:Int) b
theorem Zpa(a:List Zac)(b:Zah)(r:Int)(d:Zgi a b=some r):ZaC Tryz.prog 62 [(Ym a),.agg (Zah.c b)] ((Yj r)):=by
 refine ZaC.of Tryz.func62 rfl rfl rfl rfl fun S0 w0=>?_;unfold Zgi at d;exact Ye 6 [rz,rz] [] ⟨[],[],[],[],[],[0,3,5],[3],[]⟩ .n (Znk S0 w0 a ((((a.length:Nat):Int)-(0:Int)).toNat+2) (0:Int) b r d)
def Zch(c:Int)(a:Zas)(aD:Int->Zas->Option Bool):Nat->Int->Option Bool|0,_=>none|fu+1,b=>bif(decide (b<((a.fPeers.length:Nat):Int)))then need (0<=b/\b<((a.fPeers.length:Nat):Int))<|bif(!(a.fPeers.getD b.toNat Zaa.d).fIn)then(Zgi a.fBook ((a.fPeers.getD b.toNat Zaa.d).fEnd)).bind fun e=>bif(decide (e<(0:Int)))then some false else Zch c a aD fu (Zar b 1)else Zch c a aD fu (Zar b 1)else some true
theorem Zmv(S0:Nat->Prop)(w0:Zba)(m:Int)(i:Zas)(aD:Int->Zas->Option Bool)(cW:∀(v5_:Int)(eD:Zas)(r:Bool),aD v5_ eD=some r->Good Tryz.prog 119 S0 w0 (bodyPost Tryz.prog Tryz.f18 (Post S0 w0 ((Yk r)))) (at_ [1,1,1,0,1,0] (ZaW Tryz.f18)) ⟨[(3,.one (.ptr 3 0)),(5,(Yj v5_))],[(3,.box [cL 5 Zab.c Zab.d eD.fBans,cL 7 Zac.c Zac.d eD.fBook,cL 10 Zaa.c Zaa.d eD.fPeers])]⟩):∀(j:Nat)(h:Int)(r:Bool),Zch m i aD j h=some r->Good Tryz.prog 119 S0 w0 (bodyPost Tryz.prog Tryz.f18 (Post S0 w0 ((Yk r)))) (at_ [1,1,1,1,0,1,0] (ZaW Tryz.f18)) ⟨[(3,.one (.ptr 3 0)),(7,(Yj h))],[(3,.box [cL 5 Zab.c Zab.d i.fBans,cL 7 Zac.c Zac.d i.fBook,cL 10 Zaa.c Zaa.d i.fPeers])]⟩:=by
 intro j;induction j with
 |zero=>
  intro h r a;simp[Zch]at a
 |succ j l=>
  intro h r a;unfold Zch at a;rcases Zai a with⟨b,a⟩|⟨b,a⟩
  ·obtain⟨e,a⟩:=Zaq a;rcases Zai a with⟨f,a⟩|⟨f,a⟩
   ·obtain⟨o,k,a⟩:=Zaf a
    let R1:List RA:=[rz,⟨[(16,aI o)],[(7,true)],[],[],[],[],[]⟩,rz]
    have O2:Obl _:=(.c b (.c e (.c f (.c e (.c (Zpa _ _ _ k) .n)))));rcases Zai a with⟨g,a⟩|⟨g,a⟩
    ·apply Ya a 13 R1 [true,true] (O2.app (.c g .n))
    ·exact Ye 15 R1 [true,false] ⟨[],[],[],[],[],[3,7],[3],[]⟩ (O2.app (.c g .n)) (l (Zar h 1) r a)
   ·exact Ye 15 [rz,rB [(7,false)],rz] [true,false] ⟨[],[],[],[],[],[3,7],[3],[]⟩ (.c b (.c e (.c f (.c (show false=false from rfl) .n)))) (l (Zar h 1) r a)
  ·apply Ya a 8 [rz,rz] [false] (.c b .n)
def ZbA:Nat->Int->Zas->Option Bool|0,_,_=>none|fu+1,b,a=>bif(decide (b<((a.fBook.length:Nat):Int)))then need (0<=b/\b<((a.fBook.length:Nat):Int))<|(ZfK a.fPeers ((a.fBook.getD b.toNat Zac.d).fEnd)).bind fun c=>bif(decide (c>=(0:Int)))then need (0<=c/\c<((a.fPeers.length:Nat):Int))<|bif(!(((a.fBook.getD b.toNat Zac.d).fState==(3:Int))==(!(a.fPeers.getD c.toNat Zaa.d).fIn)))then some false else ZbA fu (Zar b 1) a else bif(!(((a.fBook.getD b.toNat Zac.d).fState==(3:Int))==false))then some false else ZbA fu (Zar b 1) a else Zch b a (ZbA fu) 1000000 (0:Int)
theorem Zmw(S0:Nat->Prop)(w0:Zba):∀(i:Nat)(f:Int)(e:Zas)(r:Bool),ZbA i f e=some r->Good Tryz.prog 119 S0 w0 (bodyPost Tryz.prog Tryz.f18 (Post S0 w0 ((Yk r)))) (at_ [1,1,1,0,1,0] (ZaW Tryz.f18)) ⟨[(3,.one (.ptr 3 0)),(5,(Yj f))],[(3,.box [cL 5 Zab.c Zab.d e.fBans,cL 7 Zac.c Zac.d e.fBook,cL 10 Zaa.c Zaa.d e.fPeers])]⟩:=by
 intro i;induction i with
 |zero=>
  intro f e r a;simp[ZbA]at a
 |succ i m=>
  intro f e r a;unfold ZbA at a;rcases Zai a with⟨g,a⟩|⟨g,a⟩
  ·obtain⟨j,a⟩:=Zaq a;obtain⟨l,o,a⟩:=Zaf a;have O3:Obl _:=(.c g (.c j (.c (Zox _ _ _ o) (.c j .n))));rcases Zai a with⟨b,a⟩|⟨b,a⟩
   ·obtain⟨k,a⟩:=Zaq a;rcases Zai a with⟨aW,a⟩|⟨aW,a⟩
    ·apply Ya a 15 [rz,rA [(8,aI l)],rB [(9,true)],rz] [true,true] (O3.app (.c b (.c k (.c aW .n))))
    ·exact Ye 17 [rz,rA [(8,aI l)],rB [(9,true)],rz] [true,false] ⟨[],[],[],[],[],[3,5],[3],[]⟩ (O3.app (.c b (.c k (.c aW .n)))) (m (Zar f 1) e r a)
   ·rcases Zai a with⟨h,a⟩|⟨h,a⟩
    ·apply Ya a 15 [rz,rA [(8,aI l)],rB [(9,false)],rz] [true,true] (O3.app (.c b (.c h .n)))
    ·exact Ye 17 [rz,rA [(8,aI l)],rB [(9,false)],rz] [true,false] ⟨[],[],[],[],[],[3,5],[3],[]⟩ (O3.app (.c b (.c h .n))) (m (Zar f 1) e r a)
  ·exact Ye 10 [rz,rz] [false] ⟨[],[],[],[],[],[3,7],[3],[]⟩ (.c g .n) (Zmv S0 w0 f e (ZbA i) m 1000000 (0:Int) r a)
def ZfD(b:ZaA)(a:Zas):Option Bool:=(Zdq b).bind fun c=>bif(!c)then some false else(Zhk a.fBans).bind fun d=>bif(!d)then some false else(ZfI a.fBook).bind fun e=>bif(!e)then some false else(Zhj a.fPeers).bind fun f=>bif(!f)then some false else bif(decide (((a.fBans.length:Nat):Int)>b.fMaxBans))then some false else bif(decide (((a.fBook.length:Nat):Int)>b.fMaxBook))then some false else(Zdp a.fPeers true).bind fun g=>bif(decide (g>b.fMaxIn))then some false else(Zdt a).bind fun h=>bif(decide (h>b.fMaxOut))then some false else ZbA 1000000 (0:Int) a
theorem Zon(q:ZaA)(i:Zas)(r:Bool)(a:ZfD q i=some r):ZaC Tryz.prog 18 [.agg (ZaA.c q),.agg (Zas.c i)] ((Yk r)):=by
 refine ZaC.of Tryz.func18 rfl rfl rfl rfl fun S0 w0=>?_;unfold ZfD at a;obtain⟨g,s,a⟩:=Zaf a;rcases Zai a with⟨j,a⟩|⟨j,a⟩
 ·apply Ya a 8 [rz,⟨[(1,aB g)],[(3,true)],[],[],[],[],[]⟩,rz] [true] (.c (ZjX _ _ s) (.c j (.c (show true=true from rfl) .n)))
 ·obtain⟨k,v,a⟩:=Zaf a;have O4:Obl _:=(.c (ZjX _ _ s) (.c j (.c (ZoB _ _ v) .n)));rcases Zai a with⟨l,a⟩|⟨l,a⟩
  ·apply Ya a 8 [rz,⟨[(1,aB g),(6,aB k)],[(3,false),(9,true)],[],[],[],[],[]⟩,rz] [true] (O4.app (.c l (.c (show true=true from rfl) .n)))
  ·obtain⟨t,w,a⟩:=Zaf a;have O5:Obl _:=(O4.app (.c l (.c (Zou _ _ w) .n)));rcases Zai a with⟨m,a⟩|⟨m,a⟩
   ·apply Ya a 8 [rz,⟨[(1,aB g),(6,aB k),(12,aB t)],[(3,false),(9,false),(15,true)],[],[],[],[],[]⟩,rz] [true] (O5.app (.c m (.c (show true=true from rfl) .n)))
   ·obtain⟨x,y,a⟩:=Zaf a
    let R6:List RA:=[rz,⟨[(1,aB g),(6,aB k),(12,aB t),(18,aB x)],[(3,false),(9,false),(15,false)],[],[],[],[],[]⟩]
    have O7:Obl _:=(O5.app (.c m (.c (Zos _ _ y) .n)));rcases Zai a with⟨f,a⟩|⟨f,a⟩
    ·apply Ya a 8 (R6++[rz]) [true] (O7.app (.c f .n))
    ·rcases Zai a with⟨h,a⟩|⟨h,a⟩
     ·apply Ya a 13 (R6++[rB [(6,true)],rz]) [false,true] (O7.app (.c f (.c h (.c (show true=true from rfl) .n))))
     ·rcases Zai a with⟨b,a⟩|⟨b,a⟩
      ·apply Ya a 13 (R6++[rB [(6,false),(14,true)],rz]) [false,true] (O7.app (.c f (.c h (.c b (.c (show true=true from rfl) .n)))))
      ·obtain⟨u,o,a⟩:=Zaf a;have O8:Obl _:=(O7.app (.c f (.c h (.c b (.c (ZfR _ _ _ o) .n)))));rcases Zai a with⟨d,a⟩|⟨d,a⟩
       ·apply Ya a 13 (R6++[⟨[(17,aI u)],[(6,false),(14,false),(22,true)],[],[],[],[],[]⟩,rz]) [false,true] (O8.app (.c d (.c (show true=true from rfl) .n)))
       ·obtain⟨z,p,a⟩:=Zaf a
        let R9:List RA:=(R6++[⟨[(17,aI u),(24,aI z)],[(6,false),(14,false),(22,false)],[],[],[],[],[]⟩,rz])
        have gU:Obl _:=(O8.app (.c d (.c (Zji _ _ p) .n)));rcases Zai a with⟨e,a⟩|⟨e,a⟩
        ·apply Ya a 13 R9 [false,true] (gU.app (.c e .n))
        ·exact Ye 16 R9 [false,false] ⟨[],[],[],[],[],[3,5],[3],[]⟩ (gU.app (.c e .n)) (Zmw S0 w0 1000000 (0:Int) i r a)
def Zgm(a:Zaz):Option Bool:=bif(decide (a.fKind>=(6:Int)))then some (decide (a.fKind<=(10:Int)))else some false
theorem Zph(d:Zaz)(r:Bool)(a:Zgm d=some r):ZaC Tryz.prog 38 [.agg (Zaz.c d)] ((Yk r)):=by
 refine ZaC.of Tryz.func38 rfl rfl rfl rfl fun S0 w0=>?_;unfold Zgm at a;rcases Zai a with⟨b,a⟩|⟨b,a⟩
 ·apply Ya a 4 [rz,rB [(3,true)]] [] (.c b .n)
 ·apply Ya a 4 [rz,rB [(3,false)]] [] (.c b .n)
def ZiX:Option ZaA:=some (ZaA.mk 8 4 4 64 64 1 (ZdS.mk 1 1 1 1) 100 100 1000 2 64 4)
theorem ZjY(r:ZaA)(a:ZiX=some r):ZaC Tryz.prog 46 [] (.agg (ZaA.c r)):=by
 refine ZaC.of Tryz.func46 rfl rfl rfl rfl fun S0 w0=>?_;unfold ZiX at a;apply Ya a 4 [rz,rz] [] .n
def ZmV:Option (ByteArray×ByteArray×ByteArray×ByteArray×ByteArray×ByteArray×ByteArray×ByteArray×ByteArray×ByteArray×ByteArray×ByteArray×ByteArray×ByteArray):=some ((⟨#[]⟩ : ByteArray),(⟨#[97,99,99,101,112,116]⟩ : ByteArray),(⟨#[108,101,97,118,101]⟩ : ByteArray),(⟨#[100,105,97,108]⟩ : ByteArray),(⟨#[114,101,115,117,108,116]⟩ : ByteArray),(⟨#[98,108,97,109,101]⟩ : ByteArray),(⟨#[98,97,110]⟩ : ByteArray),(⟨#[117,110,98,97,110]⟩ : ByteArray),(⟨#[98,97,110,110,101,100]⟩ : ByteArray),(⟨#[116,105,99,107]⟩ : ByteArray),(⟨#[108,105,115,116]⟩ : ByteArray),(⟨#[112,111,110,103]⟩ : ByteArray),(⟨#[119,111,114,107]⟩ : ByteArray),(⟨#[108,101,97,114,110]⟩ : ByteArray))
theorem Zua(r:(ByteArray×ByteArray×ByteArray×ByteArray×ByteArray×ByteArray×ByteArray×ByteArray×ByteArray×ByteArray×ByteArray×ByteArray×ByteArray×ByteArray))(a:ZmV=some r):ZaC Tryz.prog 211 [] (.agg ((cP cS (cP cS (cP cS (cP cS (cP cS (cP cS (cP cS (cP cS (cP cS (cP cS (cP cS (cP cS (cP cS cS))))))))))))) r)):=by
 refine ZaC.of Tryz.func211 rfl rfl rfl rfl fun S0 w0=>?_;unfold ZmV at a;apply Ya a 4 [rz,rz] [] .n
def Zry(b:List ByteArray)(a:Int):Option ByteArray:=bif(decide (a<(0:Int)))then some (⟨#[]⟩ : ByteArray)else bif(decide (a>=((b.length:Nat):Int)))then some (⟨#[]⟩ : ByteArray)else need (0<=a/\a<((b.length:Nat):Int))<|some (b.getD a.toNat ByteArray.empty)
theorem Zye(e:List ByteArray)(f:Int)(r:ByteArray)(a:Zry e f=some r):ZaC Tryz.prog 212 [.one (cL 1 cS ByteArray.empty e),(Yj f)] (.one (.lit (.string r))):=by
 refine ZaC.of Tryz.func212 rfl rfl rfl rfl fun S0 w0=>?_;unfold Zry at a;rcases Zai a with⟨b,a⟩|⟨b,a⟩
 ·apply Ya a 8 [rz,rB [(2,true)],rz] [true] (.c b (.c (show true=true from rfl) .n))
 ·rcases Zai a with⟨d,a⟩|⟨d,a⟩
  ·apply Ya a 8 [rz,rB [(2,false)],rz] [true] (.c b (.c d .n))
  ·obtain⟨g,a⟩:=Zaq a;apply Ya a 9 [rz,rB [(2,false)],rz] [false] (.c b (.c d (.c g .n)))
def Zmc(b:Int):Option ByteArray:=(ZmV).bind fun a=>(Zry ([a.1,a.2.1,a.2.2.1,a.2.2.2.1,a.2.2.2.2.1,a.2.2.2.2.2.1,a.2.2.2.2.2.2.1,a.2.2.2.2.2.2.2.1,a.2.2.2.2.2.2.2.2.1,a.2.2.2.2.2.2.2.2.2.1,a.2.2.2.2.2.2.2.2.2.2.1,a.2.2.2.2.2.2.2.2.2.2.2.1,a.2.2.2.2.2.2.2.2.2.2.2.2.1,a.2.2.2.2.2.2.2.2.2.2.2.2.2]:List ByteArray) b).bind fun c=>some c
theorem ZqC(d:Int)(r:ByteArray)(b:Zmc d=some r):ZaC Tryz.prog 133 [(Yj d)] (.one (.lit (.string r))):=by
 refine ZaC.of Tryz.func133 rfl rfl rfl rfl fun S0 w0=>?_;unfold Zmc at b;obtain⟨a,e,b⟩:=Zaf b;obtain⟨f,g,b⟩:=Zaf b;apply Ya b 6 [rz,rA [(0,aG ((cP cS (cP cS (cP cS (cP cS (cP cS (cP cS (cP cS (cP cS (cP cS (cP cS (cP cS (cP cS (cP cS cS))))))))))))) a))],⟨[(2,.r (.one (.lit (.string f))) [])],[],[(0,[3])],[],[],[(0,(([a.1,a.2.1,a.2.2.1,a.2.2.2.1,a.2.2.2.2.1,a.2.2.2.2.2.1,a.2.2.2.2.2.2.1,a.2.2.2.2.2.2.2.1,a.2.2.2.2.2.2.2.2.1,a.2.2.2.2.2.2.2.2.2.1,a.2.2.2.2.2.2.2.2.2.2.1,a.2.2.2.2.2.2.2.2.2.2.2.1,a.2.2.2.2.2.2.2.2.2.2.2.2.1,a.2.2.2.2.2.2.2.2.2.2.2.2.2]:List ByteArray).length,Zam cS ByteArray.empty ([a.1,a.2.1,a.2.2.1,a.2.2.2.1,a.2.2.2.2.1,a.2.2.2.2.2.1,a.2.2.2.2.2.2.1,a.2.2.2.2.2.2.2.1,a.2.2.2.2.2.2.2.2.1,a.2.2.2.2.2.2.2.2.2.1,a.2.2.2.2.2.2.2.2.2.2.1,a.2.2.2.2.2.2.2.2.2.2.2.1,a.2.2.2.2.2.2.2.2.2.2.2.2.1,a.2.2.2.2.2.2.2.2.2.2.2.2.2]:List ByteArray)))],[]⟩] [] (.c (Zua _ e) (.c (show ([a.1,a.2.1,a.2.2.1,a.2.2.2.1,a.2.2.2.2.1,a.2.2.2.2.2.1,a.2.2.2.2.2.2.1,a.2.2.2.2.2.2.2.1,a.2.2.2.2.2.2.2.2.1,a.2.2.2.2.2.2.2.2.2.1,a.2.2.2.2.2.2.2.2.2.2.1,a.2.2.2.2.2.2.2.2.2.2.2.1,a.2.2.2.2.2.2.2.2.2.2.2.2.1,a.2.2.2.2.2.2.2.2.2.2.2.2.2]:List ByteArray).length=14/\∀i j,i<14->j<1->Zam cS ByteArray.empty ([a.1,a.2.1,a.2.2.1,a.2.2.2.1,a.2.2.2.2.1,a.2.2.2.2.2.1,a.2.2.2.2.2.2.1,a.2.2.2.2.2.2.2.1,a.2.2.2.2.2.2.2.2.1,a.2.2.2.2.2.2.2.2.2.1,a.2.2.2.2.2.2.2.2.2.2.1,a.2.2.2.2.2.2.2.2.2.2.2.1,a.2.2.2.2.2.2.2.2.2.2.2.2.1,a.2.2.2.2.2.2.2.2.2.2.2.2.2]:List ByteArray) i j=([.lit (.string a.1),.lit (.string a.2.1),.lit (.string a.2.2.1),.lit (.string a.2.2.2.1),.lit (.string a.2.2.2.2.1),.lit (.string a.2.2.2.2.2.1),.lit (.string a.2.2.2.2.2.2.1),.lit (.string a.2.2.2.2.2.2.2.1),.lit (.string a.2.2.2.2.2.2.2.2.1),.lit (.string a.2.2.2.2.2.2.2.2.2.1),.lit (.string a.2.2.2.2.2.2.2.2.2.2.1),.lit (.string a.2.2.2.2.2.2.2.2.2.2.2.1),.lit (.string a.2.2.2.2.2.2.2.2.2.2.2.2.1),.lit (.string a.2.2.2.2.2.2.2.2.2.2.2.2.2)]:List C).getD (0+(i * 1+j)) .junk from⟨rfl,ZGd (sz:=1) cS ByteArray.empty ([a.1,a.2.1,a.2.2.1,a.2.2.2.1,a.2.2.2.2.1,a.2.2.2.2.2.1,a.2.2.2.2.2.2.1,a.2.2.2.2.2.2.2.1,a.2.2.2.2.2.2.2.2.1,a.2.2.2.2.2.2.2.2.2.1,a.2.2.2.2.2.2.2.2.2.2.1,a.2.2.2.2.2.2.2.2.2.2.2.1,a.2.2.2.2.2.2.2.2.2.2.2.2.1,a.2.2.2.2.2.2.2.2.2.2.2.2.2]:List ByteArray) [.lit (.string a.1),.lit (.string a.2.1),.lit (.string a.2.2.1),.lit (.string a.2.2.2.1),.lit (.string a.2.2.2.2.1),.lit (.string a.2.2.2.2.2.1),.lit (.string a.2.2.2.2.2.2.1),.lit (.string a.2.2.2.2.2.2.2.1),.lit (.string a.2.2.2.2.2.2.2.2.1),.lit (.string a.2.2.2.2.2.2.2.2.2.1),.lit (.string a.2.2.2.2.2.2.2.2.2.2.1),.lit (.string a.2.2.2.2.2.2.2.2.2.2.2.1),.lit (.string a.2.2.2.2.2.2.2.2.2.2.2.2.1),.lit (.string a.2.2.2.2.2.2.2.2.2.2.2.2.2)] (fun _=>rfl) rfl⟩) (.c (Zye _ _ _ g) .n)))
def Zkc(a:Int)(b:Bool):Option (List Int):=bif b then some ([(3:Int)]:List Int)else bif(a==(4:Int))then some ([(0:Int),(5:Int),(3:Int),(4:Int)]:List Int)else bif(a==(5:Int))then some ([(0:Int),(4:Int),(3:Int)]:List Int)else bif(a==(6:Int))then some ([(1:Int),(4:Int),(3:Int)]:List Int)else bif(a==(7:Int))then some ([(1:Int)]:List Int)else bif(a==(8:Int))then some ([(2:Int),(3:Int)]:List Int)else bif(a==(11:Int))then some ([(0:Int),(4:Int)]:List Int)else some ([]:List Int)
theorem ZmX(S0:Nat->Prop)(w0:Zba)(p:Int)(l:Bool)(r:List Int)(a:Zkc p l=some r):Good Tryz.prog 34 S0 w0 (bodyPost Tryz.prog Tryz.f134 (Zbk S0 w0 [(99999,.rows 181 1 r.length (Zam (cI .i64) (0:Int) r))] (.one (.osl 99999 r.length)))) (at_ [1,0,1,0,1,1,1,1,1] (ZaW Tryz.f134)) ⟨[(3,(Yj p)),(12,(Yk l))],[]⟩:=by
 unfold Zkc at a;rcases Zai a with⟨b,a⟩|⟨b,a⟩
 ·apply Yc a 3 [rA [(0,.c ([(3:Int)]:List Int).length (Zam (cI .i64) (0:Int) ([(3:Int)]:List Int)))]] [true] ⟨[],[],[],[],[],[2],[15],[(15,99999)]⟩ (.c b (.c (show ([(3:Int)]:List Int).length=1 from rfl) (.c (show ∀i j,i<1->j<1->Zam (cI .i64) (0:Int) ([(3:Int)]:List Int) i j=(([(3:Int)]:List Int).flatMap (cI .i64)).getD (i * 1+j) .junk from(fun i j hi hj=>ZaP (sz:=1) (e:=(cI .i64)) (d:=(0:Int)) (fun _=>rfl) ([(3:Int)]:List Int) i j hi hj)) .n)))
 ·rcases Zai a with⟨f,a⟩|⟨f,a⟩
  ·apply Yc a 6 [rz,rA [(0,.c ([(0:Int),(5:Int),(3:Int),(4:Int)]:List Int).length (Zam (cI .i64) (0:Int) ([(0:Int),(5:Int),(3:Int),(4:Int)]:List Int)))]] [false,true] ⟨[],[],[],[],[],[2],[18],[(18,99999)]⟩ (.c b (.c f (.c (show ([(0:Int),(5:Int),(3:Int),(4:Int)]:List Int).length=4 from rfl) (.c (show ∀i j,i<4->j<1->Zam (cI .i64) (0:Int) ([(0:Int),(5:Int),(3:Int),(4:Int)]:List Int) i j=(([(0:Int),(5:Int),(3:Int),(4:Int)]:List Int).flatMap (cI .i64)).getD (i * 1+j) .junk from(fun i j hi hj=>ZaP (sz:=1) (e:=(cI .i64)) (d:=(0:Int)) (fun _=>rfl) ([(0:Int),(5:Int),(3:Int),(4:Int)]:List Int) i j hi hj)) .n))))
  ·rcases Zai a with⟨k,a⟩|⟨k,a⟩
   ·apply Yc a 9 [rz,rz,rA [(0,.c ([(0:Int),(4:Int),(3:Int)]:List Int).length (Zam (cI .i64) (0:Int) ([(0:Int),(4:Int),(3:Int)]:List Int)))]] [false,false,true] ⟨[],[],[],[],[],[2],[21],[(21,99999)]⟩ (.c b (.c f (.c k (.c (show ([(0:Int),(4:Int),(3:Int)]:List Int).length=3 from rfl) (.c (show ∀i j,i<3->j<1->Zam (cI .i64) (0:Int) ([(0:Int),(4:Int),(3:Int)]:List Int) i j=(([(0:Int),(4:Int),(3:Int)]:List Int).flatMap (cI .i64)).getD (i * 1+j) .junk from(fun i j hi hj=>ZaP (sz:=1) (e:=(cI .i64)) (d:=(0:Int)) (fun _=>rfl) ([(0:Int),(4:Int),(3:Int)]:List Int) i j hi hj)) .n)))))
   ·rcases Zai a with⟨m,a⟩|⟨m,a⟩
    ·apply Yc a 12 [rz,rz,rz,rA [(0,.c ([(1:Int),(4:Int),(3:Int)]:List Int).length (Zam (cI .i64) (0:Int) ([(1:Int),(4:Int),(3:Int)]:List Int)))]] [false,false,false,true] ⟨[],[],[],[],[],[2],[24],[(24,99999)]⟩ (.c b (.c f (.c k (.c m (.c (show ([(1:Int),(4:Int),(3:Int)]:List Int).length=3 from rfl) (.c (show ∀i j,i<3->j<1->Zam (cI .i64) (0:Int) ([(1:Int),(4:Int),(3:Int)]:List Int) i j=(([(1:Int),(4:Int),(3:Int)]:List Int).flatMap (cI .i64)).getD (i * 1+j) .junk from(fun i j hi hj=>ZaP (sz:=1) (e:=(cI .i64)) (d:=(0:Int)) (fun _=>rfl) ([(1:Int),(4:Int),(3:Int)]:List Int) i j hi hj)) .n))))))
    ·rcases Zai a with⟨o,a⟩|⟨o,a⟩
     ·apply Yc a 15 [rz,rz,rz,rz,rA [(0,.c ([(1:Int)]:List Int).length (Zam (cI .i64) (0:Int) ([(1:Int)]:List Int)))]] [false,false,false,false,true] ⟨[],[],[],[],[],[2],[27],[(27,99999)]⟩ (.c b (.c f (.c k (.c m (.c o (.c (show ([(1:Int)]:List Int).length=1 from rfl) (.c (show ∀i j,i<1->j<1->Zam (cI .i64) (0:Int) ([(1:Int)]:List Int) i j=(([(1:Int)]:List Int).flatMap (cI .i64)).getD (i * 1+j) .junk from(fun i j hi hj=>ZaP (sz:=1) (e:=(cI .i64)) (d:=(0:Int)) (fun _=>rfl) ([(1:Int)]:List Int) i j hi hj)) .n)))))))
     ·rcases Zai a with⟨g,a⟩|⟨g,a⟩
      ·apply Yc a 18 [rz,rz,rz,rz,rz,rA [(0,.c ([(2:Int),(3:Int)]:List Int).length (Zam (cI .i64) (0:Int) ([(2:Int),(3:Int)]:List Int)))]] [false,false,false,false,false,true] ⟨[],[],[],[],[],[2],[30],[(30,99999)]⟩ (.c b (.c f (.c k (.c m (.c o (.c g (.c (show ([(2:Int),(3:Int)]:List Int).length=2 from rfl) (.c (show ∀i j,i<2->j<1->Zam (cI .i64) (0:Int) ([(2:Int),(3:Int)]:List Int) i j=(([(2:Int),(3:Int)]:List Int).flatMap (cI .i64)).getD (i * 1+j) .junk from(fun i j hi hj=>ZaP (sz:=1) (e:=(cI .i64)) (d:=(0:Int)) (fun _=>rfl) ([(2:Int),(3:Int)]:List Int) i j hi hj)) .n))))))))
      ·have O1:Obl _:=(.c b (.c f (.c k (.c m (.c o (.c g .n))))));rcases Zai a with⟨h,a⟩|⟨h,a⟩
       ·apply Yc a 21 [rz,rz,rz,rz,rz,rz,rA [(0,.c ([(0:Int),(4:Int)]:List Int).length (Zam (cI .i64) (0:Int) ([(0:Int),(4:Int)]:List Int)))]] [false,false,false,false,false,false,true] ⟨[],[],[],[],[],[2],[33],[(33,99999)]⟩ (O1.app (.c h (.c (show ([(0:Int),(4:Int)]:List Int).length=2 from rfl) (.c (show ∀i j,i<2->j<1->Zam (cI .i64) (0:Int) ([(0:Int),(4:Int)]:List Int) i j=(([(0:Int),(4:Int)]:List Int).flatMap (cI .i64)).getD (i * 1+j) .junk from(fun i j hi hj=>ZaP (sz:=1) (e:=(cI .i64)) (d:=(0:Int)) (fun _=>rfl) ([(0:Int),(4:Int)]:List Int) i j hi hj)) .n))))
       ·apply Yc a 23 [rz,rz,rz,rz,rz,rz,rz] [false,false,false,false,false,false,false] ⟨[],[],[],[],[(2,99999,181,1,Zam (cI .i64) (0:Int) [])],[2],[99999],[]⟩ (O1.app (.c h .n))
def ZiE(a:Int)(b:Bool):Option (List Int):=bif b then some ([(0:Int),(3:Int)]:List Int)else bif(a==(2:Int))then some ([(0:Int)]:List Int)else bif(a==(3:Int))then Zkc a (a==(3:Int))else Zkc a (a==(9:Int))
theorem Zkd(S0:Nat->Prop)(w0:Zba)(b:Int)(k:Bool)(r:List Int)(a:ZiE b k=some r):Good Tryz.prog 34 S0 w0 (bodyPost Tryz.prog Tryz.f134 (Zbk S0 w0 [(99999,.rows 181 1 r.length (Zam (cI .i64) (0:Int) r))] (.one (.osl 99999 r.length)))) (at_ [1,0,1,0,1] (ZaW Tryz.f134)) ⟨[(3,(Yj b)),(4,(Yk k))],[]⟩:=by
 unfold ZiE at a;rcases Zai a with⟨f,a⟩|⟨f,a⟩
 ·apply Yc a 3 [rA [(0,.c ([(0:Int),(3:Int)]:List Int).length (Zam (cI .i64) (0:Int) ([(0:Int),(3:Int)]:List Int)))]] [true] ⟨[],[],[],[],[],[2],[8],[(8,99999)]⟩ (.c f (.c (show ([(0:Int),(3:Int)]:List Int).length=2 from rfl) (.c (show ∀i j,i<2->j<1->Zam (cI .i64) (0:Int) ([(0:Int),(3:Int)]:List Int) i j=(([(0:Int),(3:Int)]:List Int).flatMap (cI .i64)).getD (i * 1+j) .junk from(fun i j hi hj=>ZaP (sz:=1) (e:=(cI .i64)) (d:=(0:Int)) (fun _=>rfl) ([(0:Int),(3:Int)]:List Int) i j hi hj)) .n)))
 ·rcases Zai a with⟨g,a⟩|⟨g,a⟩
  ·apply Yc a 6 [rz,rA [(0,.c ([(0:Int)]:List Int).length (Zam (cI .i64) (0:Int) ([(0:Int)]:List Int)))]] [false,true] ⟨[],[],[],[],[],[2],[11],[(11,99999)]⟩ (.c f (.c g (.c (show ([(0:Int)]:List Int).length=1 from rfl) (.c (show ∀i j,i<1->j<1->Zam (cI .i64) (0:Int) ([(0:Int)]:List Int) i j=(([(0:Int)]:List Int).flatMap (cI .i64)).getD (i * 1+j) .junk from(fun i j hi hj=>ZaP (sz:=1) (e:=(cI .i64)) (d:=(0:Int)) (fun _=>rfl) ([(0:Int)]:List Int) i j hi hj)) .n))))
  ·rcases Zai a with⟨h,a⟩|⟨h,a⟩
   ·exact Ye 9 [rz,rz] [false,false,true] (Yi [3,12]) (.c f (.c g (.c h .n))) (ZmX S0 w0 b (b==(3:Int)) r a)
   ·exact Ye 9 [rz,rz,rz] [false,false,false] (Yi [3,12]) (.c f (.c g (.c h .n))) (ZmX S0 w0 b (b==(9:Int)) r a)
def ZjH(a:Int):Option (List Int):=bif(a==(1:Int))then ZiE a (a==(1:Int))else bif(a==(12:Int))then ZiE a (a==(12:Int))else ZiE a (a==(13:Int))
theorem ZsL(b:Int)(r:List Int)(a:ZjH b=some r):Zcu Tryz.prog 134 [] [(Yj b)] [(99999,.rows 181 1 r.length (Zam (cI .i64) (0:Int) r))] (.one (.osl 99999 r.length)):=by
 refine Zcu.of Tryz.func134 rfl rfl rfl rfl fun S0 w0=>?_;unfold ZjH at a;rcases Zai a with⟨d,a⟩|⟨d,a⟩
 ·exact Ye 11 [rz,rz,rz] [true] (Yi [3,4]) (.c d .n) (Zkd S0 w0 b (b==(1:Int)) r a)
 ·rcases Zai a with⟨e,a⟩|⟨e,a⟩
  ·exact Ye 14 [rz,rz,rz,rz] [false,true] (Yi [3,4]) (.c d (.c e .n)) (Zkd S0 w0 b (b==(12:Int)) r a)
  ·exact Ye 14 [rz,rz,rz,rz,rz] [false,false] (Yi [3,4]) (.c d (.c e .n)) (Zkd S0 w0 b (b==(13:Int)) r a)
theorem Zuc(a:Int)(r:List Int)(b:ZjH a=some r):ZaC Tryz.prog 134 [(Yj a)] (.one (cL 1 (cI .i64) (0:Int) r)):=(ZsL a r b).pure
def ZnR(a:Int):Option Zag:=some (Zag.mk false 0 (IntKind.wrap .u64 a))
theorem ZsE(a:Int)(r:Zag)(b:ZnR a=some r):ZaC Tryz.prog 282 [.one (.lit (.int .u32 a))] (.agg (Zag.c r)):=by
 refine ZaC.of Tryz.func282 rfl rfl rfl rfl fun S0 w0=>?_;unfold ZnR at b;apply Ya b 4 [rz,rz] [] .n
def ZrE(b a:Int):Option Zag:=bif(b==(0:Int))then bif((Int.fdiv a (2 ^ (min (32:Int).toNat (IntKind.bits .u64))))==(65535:Int))then(ZnR (IntKind.wrap .u32 (IntKind.wrap .u64 (((BitVec.ofInt (IntKind.bits .u64) a) &&& (BitVec.ofInt (IntKind.bits .u64) (4294967295:Int))).toNat:Int)))).bind fun c=>some c else some (Zag.mk true b a)else some (Zag.mk true b a)
theorem Zyf(e f:Int)(r:Zag)(a:ZrE e f=some r):ZaC Tryz.prog 281 [.one (.lit (.int .u64 e)),.one (.lit (.int .u64 f))] (.agg (Zag.c r)):=by
 refine ZaC.of Tryz.func281 rfl rfl rfl rfl fun S0 w0=>?_;unfold ZrE at a;rcases Zai a with⟨b,a⟩|⟨b,a⟩
 ·have O1:Obl _:=(.c b (.c (show 0<=(32:Int)from(by decide)) .n));rcases Zai a with⟨d,a⟩|⟨d,a⟩
  ·obtain⟨g,h,a⟩:=Zaf a;apply Ya a 8 [rz,rB [(2,true)],rA [(3,aG (Zag.c g))]] [true] (O1.app (.c d (.c (ZsE _ _ h) .n)))
  ·apply Ya a 9 [rz,rB [(2,true)],rz] [false] (O1.app (.c d .n))
 ·apply Ya a 9 [rz,rB [(2,false)],rz] [false] (.c b (.c (show false=false from rfl) .n))
def Zfp(a:Zag):Option Bool:=bif a.fV6 then(ZrE a.fHi a.fLo).bind fun b=>some (decide (b=a))else(ZnR (IntKind.wrap .u32 (IntKind.wrap .u64 (((BitVec.ofInt (IntKind.bits .u64) a.fLo) &&& (BitVec.ofInt (IntKind.bits .u64) (4294967295:Int))).toNat:Int)))).bind fun c=>some (decide (c=a))
theorem ZcQ(b:Zag)(r:Bool)(a:Zfp b=some r):ZaC Tryz.prog 215 [.agg (Zag.c b)] ((Yk r)):=by
 refine ZaC.of Tryz.func215 rfl rfl rfl rfl fun S0 w0=>?_;unfold Zfp at a;rcases Zai a with⟨d,a⟩|⟨d,a⟩
 ·obtain⟨e,g,a⟩:=Zaf a;apply Ya a 8 [rz,rz,rA [(4,aG (Zag.c e)),(6,aB (decide (e=b)))]] [true] (.c d (.c (Zyf _ _ _ g) (.c (ZkJ e b (.tmp 9) (.tmp 10)) .n)))
 ·obtain⟨f,h,a⟩:=Zaf a;apply Ya a 9 [rz,rz,rA [(4,aG (Zag.c f)),(6,aB (decide (f=b)))]] [false] (.c d (.c (ZsE _ _ h) (.c (ZkJ f b (.tmp 16) (.tmp 17)) .n)))
def ZkU(a:Zah):Option Bool:=(Zfp a.fAddr).bind fun b=>bif b then bif(decide (a.fPort>=(1:Int)))then some (decide (a.fPort<=(65535:Int)))else some false else some false
theorem ZtZ(g:Zah)(r:Bool)(a:ZkU g=some r):ZaC Tryz.prog 213 [.agg (Zah.c g)] ((Yk r)):=by
 refine ZaC.of Tryz.func213 rfl rfl rfl rfl fun S0 w0=>?_;unfold ZkU at a;obtain⟨d,e,a⟩:=Zaf a;rcases Zai a with⟨b,a⟩|⟨b,a⟩
 ·rcases Zai a with⟨f,a⟩|⟨f,a⟩
  ·apply Ya a 4 [rz,⟨[(2,aB d)],[(3,true),(8,true)],[],[],[],[],[]⟩] [] (.c (ZcQ _ _ e) (.c b (.c f .n)))
  ·apply Ya a 4 [rz,⟨[(2,aB d)],[(3,true),(8,false)],[],[],[],[],[]⟩] [] (.c (ZcQ _ _ e) (.c b (.c f .n)))
 ·apply Ya a 4 [rz,⟨[(2,aB d)],[(3,false)],[],[],[],[],[]⟩] [] (.c (ZcQ _ _ e) (.c b .n))
def Zex(a:Zag):Option Int:=bif a.fV6 then some (128:Int)else some (32:Int)
theorem Zik(d:Zag)(r:Int)(a:Zex d=some r):ZaC Tryz.prog 293 [.agg (Zag.c d)] ((Yj r)):=by
 refine ZaC.of Tryz.func293 rfl rfl rfl rfl fun S0 w0=>?_;unfold Zex at a;rcases Zai a with⟨b,a⟩|⟨b,a⟩
 ·apply Ya a 8 [rz,rz,rz] [true] (.c b .n)
 ·apply Ya a 9 [rz,rz,rz] [false] (.c b .n)
def Zgu(a:Int):Option Int:=some (IntKind.wrap .u64 (((BitVec.ofInt (IntKind.bits .u64) (Int.fdiv (IntKind.wrap .u64 (((BitVec.ofInt (IntKind.bits .u64) (IntKind.wrap .u64 (((BitVec.ofInt (IntKind.bits .u64) (Int.fdiv (IntKind.wrap .u64 (((BitVec.ofInt (IntKind.bits .u64) (IntKind.wrap .u64 (((BitVec.ofInt (IntKind.bits .u64) (Int.fdiv a (2 ^ (min (8:Int).toNat (IntKind.bits .u64))))) &&& (BitVec.ofInt (IntKind.bits .u64) (71777214294589695:Int))).toNat:Int))) ||| (BitVec.ofInt (IntKind.bits .u64) (IntKind.wrap .u64 ((IntKind.wrap .u64 (((BitVec.ofInt (IntKind.bits .u64) a) &&& (BitVec.ofInt (IntKind.bits .u64) (71777214294589695:Int))).toNat:Int)) * 2 ^ (min (8:Int).toNat (IntKind.bits .u64)))))).toNat:Int)) (2 ^ (min (16:Int).toNat (IntKind.bits .u64))))) &&& (BitVec.ofInt (IntKind.bits .u64) (281470681808895:Int))).toNat:Int))) ||| (BitVec.ofInt (IntKind.bits .u64) (IntKind.wrap .u64 ((IntKind.wrap .u64 (((BitVec.ofInt (IntKind.bits .u64) (IntKind.wrap .u64 (((BitVec.ofInt (IntKind.bits .u64) (IntKind.wrap .u64 (((BitVec.ofInt (IntKind.bits .u64) (Int.fdiv a (2 ^ (min (8:Int).toNat (IntKind.bits .u64))))) &&& (BitVec.ofInt (IntKind.bits .u64) (71777214294589695:Int))).toNat:Int))) ||| (BitVec.ofInt (IntKind.bits .u64) (IntKind.wrap .u64 ((IntKind.wrap .u64 (((BitVec.ofInt (IntKind.bits .u64) a) &&& (BitVec.ofInt (IntKind.bits .u64) (71777214294589695:Int))).toNat:Int)) * 2 ^ (min (8:Int).toNat (IntKind.bits .u64)))))).toNat:Int))) &&& (BitVec.ofInt (IntKind.bits .u64) (281470681808895:Int))).toNat:Int)) * 2 ^ (min (16:Int).toNat (IntKind.bits .u64)))))).toNat:Int)) (2 ^ (min (32:Int).toNat (IntKind.bits .u64))))) ||| (BitVec.ofInt (IntKind.bits .u64) (IntKind.wrap .u64 ((IntKind.wrap .u64 (((BitVec.ofInt (IntKind.bits .u64) (IntKind.wrap .u64 (((BitVec.ofInt (IntKind.bits .u64) (Int.fdiv (IntKind.wrap .u64 (((BitVec.ofInt (IntKind.bits .u64) (IntKind.wrap .u64 (((BitVec.ofInt (IntKind.bits .u64) (Int.fdiv a (2 ^ (min (8:Int).toNat (IntKind.bits .u64))))) &&& (BitVec.ofInt (IntKind.bits .u64) (71777214294589695:Int))).toNat:Int))) ||| (BitVec.ofInt (IntKind.bits .u64) (IntKind.wrap .u64 ((IntKind.wrap .u64 (((BitVec.ofInt (IntKind.bits .u64) a) &&& (BitVec.ofInt (IntKind.bits .u64) (71777214294589695:Int))).toNat:Int)) * 2 ^ (min (8:Int).toNat (IntKind.bits .u64)))))).toNat:Int)) (2 ^ (min (16:Int).toNat (IntKind.bits .u64))))) &&& (BitVec.ofInt (IntKind.bits .u64) (281470681808895:Int))).toNat:Int))) ||| (BitVec.ofInt (IntKind.bits .u64) (IntKind.wrap .u64 ((IntKind.wrap .u64 (((BitVec.ofInt (IntKind.bits .u64) (IntKind.wrap .u64 (((BitVec.ofInt (IntKind.bits .u64) (IntKind.wrap .u64 (((BitVec.ofInt (IntKind.bits .u64) (Int.fdiv a (2 ^ (min (8:Int).toNat (IntKind.bits .u64))))) &&& (BitVec.ofInt (IntKind.bits .u64) (71777214294589695:Int))).toNat:Int))) ||| (BitVec.ofInt (IntKind.bits .u64) (IntKind.wrap .u64 ((IntKind.wrap .u64 (((BitVec.ofInt (IntKind.bits .u64) a) &&& (BitVec.ofInt (IntKind.bits .u64) (71777214294589695:Int))).toNat:Int)) * 2 ^ (min (8:Int).toNat (IntKind.bits .u64)))))).toNat:Int))) &&& (BitVec.ofInt (IntKind.bits .u64) (281470681808895:Int))).toNat:Int)) * 2 ^ (min (16:Int).toNat (IntKind.bits .u64)))))).toNat:Int)) * 2 ^ (min (32:Int).toNat (IntKind.bits .u64)))))).toNat:Int))
theorem Zli(a r:Int)(b:Zgu a=some r):ZaC Tryz.prog 414 [.one (.lit (.int .u64 a))] (.one (.lit (.int .u64 r))):=by
 refine ZaC.of Tryz.func414 rfl rfl rfl rfl fun S0 w0=>?_;unfold Zgu at b;apply Ya b 8 [rz,rz,rz,rz] [] (.c (show 0<=(8:Int)from(by decide)) (.c (show 0<=(8:Int)from(by decide)) (.c (show 0<=(16:Int)from(by decide)) (.c (show 0<=(16:Int)from(by decide)) (.c (show 0<=(32:Int)from(by decide)) (.c (show 0<=(32:Int)from(by decide)) .n))))))
def Ziy(a:Int):Option Int:=(Zgu (IntKind.wrap .u64 (((BitVec.ofInt (IntKind.bits .u64) (IntKind.wrap .u64 (((BitVec.ofInt (IntKind.bits .u64) (Int.fdiv (IntKind.wrap .u64 (((BitVec.ofInt (IntKind.bits .u64) (IntKind.wrap .u64 (((BitVec.ofInt (IntKind.bits .u64) (Int.fdiv (IntKind.wrap .u64 (((BitVec.ofInt (IntKind.bits .u64) (IntKind.wrap .u64 (((BitVec.ofInt (IntKind.bits .u64) (Int.fdiv a (2 ^ (min (1:Int).toNat (IntKind.bits .u64))))) &&& (BitVec.ofInt (IntKind.bits .u64) (6148914691236517205:Int))).toNat:Int))) ||| (BitVec.ofInt (IntKind.bits .u64) (IntKind.wrap .u64 ((IntKind.wrap .u64 (((BitVec.ofInt (IntKind.bits .u64) a) &&& (BitVec.ofInt (IntKind.bits .u64) (6148914691236517205:Int))).toNat:Int)) * 2 ^ (min (1:Int).toNat (IntKind.bits .u64)))))).toNat:Int)) (2 ^ (min (2:Int).toNat (IntKind.bits .u64))))) &&& (BitVec.ofInt (IntKind.bits .u64) (3689348814741910323:Int))).toNat:Int))) ||| (BitVec.ofInt (IntKind.bits .u64) (IntKind.wrap .u64 ((IntKind.wrap .u64 (((BitVec.ofInt (IntKind.bits .u64) (IntKind.wrap .u64 (((BitVec.ofInt (IntKind.bits .u64) (IntKind.wrap .u64 (((BitVec.ofInt (IntKind.bits .u64) (Int.fdiv a (2 ^ (min (1:Int).toNat (IntKind.bits .u64))))) &&& (BitVec.ofInt (IntKind.bits .u64) (6148914691236517205:Int))).toNat:Int))) ||| (BitVec.ofInt (IntKind.bits .u64) (IntKind.wrap .u64 ((IntKind.wrap .u64 (((BitVec.ofInt (IntKind.bits .u64) a) &&& (BitVec.ofInt (IntKind.bits .u64) (6148914691236517205:Int))).toNat:Int)) * 2 ^ (min (1:Int).toNat (IntKind.bits .u64)))))).toNat:Int))) &&& (BitVec.ofInt (IntKind.bits .u64) (3689348814741910323:Int))).toNat:Int)) * 2 ^ (min (2:Int).toNat (IntKind.bits .u64)))))).toNat:Int)) (2 ^ (min (4:Int).toNat (IntKind.bits .u64))))) &&& (BitVec.ofInt (IntKind.bits .u64) (1085102592571150095:Int))).toNat:Int))) ||| (BitVec.ofInt (IntKind.bits .u64) (IntKind.wrap .u64 ((IntKind.wrap .u64 (((BitVec.ofInt (IntKind.bits .u64) (IntKind.wrap .u64 (((BitVec.ofInt (IntKind.bits .u64) (IntKind.wrap .u64 (((BitVec.ofInt (IntKind.bits .u64) (Int.fdiv (IntKind.wrap .u64 (((BitVec.ofInt (IntKind.bits .u64) (IntKind.wrap .u64 (((BitVec.ofInt (IntKind.bits .u64) (Int.fdiv a (2 ^ (min (1:Int).toNat (IntKind.bits .u64))))) &&& (BitVec.ofInt (IntKind.bits .u64) (6148914691236517205:Int))).toNat:Int))) ||| (BitVec.ofInt (IntKind.bits .u64) (IntKind.wrap .u64 ((IntKind.wrap .u64 (((BitVec.ofInt (IntKind.bits .u64) a) &&& (BitVec.ofInt (IntKind.bits .u64) (6148914691236517205:Int))).toNat:Int)) * 2 ^ (min (1:Int).toNat (IntKind.bits .u64)))))).toNat:Int)) (2 ^ (min (2:Int).toNat (IntKind.bits .u64))))) &&& (BitVec.ofInt (IntKind.bits .u64) (3689348814741910323:Int))).toNat:Int))) ||| (BitVec.ofInt (IntKind.bits .u64) (IntKind.wrap .u64 ((IntKind.wrap .u64 (((BitVec.ofInt (IntKind.bits .u64) (IntKind.wrap .u64 (((BitVec.ofInt (IntKind.bits .u64) (IntKind.wrap .u64 (((BitVec.ofInt (IntKind.bits .u64) (Int.fdiv a (2 ^ (min (1:Int).toNat (IntKind.bits .u64))))) &&& (BitVec.ofInt (IntKind.bits .u64) (6148914691236517205:Int))).toNat:Int))) ||| (BitVec.ofInt (IntKind.bits .u64) (IntKind.wrap .u64 ((IntKind.wrap .u64 (((BitVec.ofInt (IntKind.bits .u64) a) &&& (BitVec.ofInt (IntKind.bits .u64) (6148914691236517205:Int))).toNat:Int)) * 2 ^ (min (1:Int).toNat (IntKind.bits .u64)))))).toNat:Int))) &&& (BitVec.ofInt (IntKind.bits .u64) (3689348814741910323:Int))).toNat:Int)) * 2 ^ (min (2:Int).toNat (IntKind.bits .u64)))))).toNat:Int))) &&& (BitVec.ofInt (IntKind.bits .u64) (1085102592571150095:Int))).toNat:Int)) * 2 ^ (min (4:Int).toNat (IntKind.bits .u64)))))).toNat:Int))).bind fun b=>some b
theorem ZnF(b r:Int)(a:Ziy b=some r):ZaC Tryz.prog 400 [.one (.lit (.int .u64 b))] (.one (.lit (.int .u64 r))):=by
 refine ZaC.of Tryz.func400 rfl rfl rfl rfl fun S0 w0=>?_;unfold Ziy at a;obtain⟨d,e,a⟩:=Zaf a;apply Ya a 10 [rz,rz,rz,rz,rA [(1,.r (.one (.lit (.int .u64 d))) [])]] [] (.c (show 0<=(1:Int)from(by decide)) (.c (show 0<=(1:Int)from(by decide)) (.c (show 0<=(2:Int)from(by decide)) (.c (show 0<=(2:Int)from(by decide)) (.c (show 0<=(4:Int)from(by decide)) (.c (show 0<=(4:Int)from(by decide)) (.c (Zli _ _ e) .n)))))))
def Zgz(a:Int):Option Int:=need (0<=(if(64:Int)<(if(0:Int)>a then(0:Int)else a)then(64:Int)else(if(0:Int)>a then(0:Int)else a)))<|(Ziy (IntKind.wrap .u64 ((IntKind.wrap .u64 ((1:Int) * 2 ^ (min (if(64:Int)<(if(0:Int)>a then(0:Int)else a)then(64:Int)else(if(0:Int)>a then(0:Int)else a)).toNat (IntKind.bits .u64))))-(1:Int)))).bind fun b=>some b
theorem ZoE(b r:Int)(a:Zgz b=some r):ZaC Tryz.prog 378 [(Yj b)] (.one (.lit (.int .u64 r))):=by
 refine ZaC.of Tryz.func378 rfl rfl rfl rfl fun S0 w0=>?_;unfold Zgz at a;obtain⟨o1,a⟩:=Zaq a;obtain⟨d,e,a⟩:=Zaf a;apply Ya a 6 [rz,rz,rA [(3,.r (.one (.lit (.int .u64 d))) [])]] [] (.c o1 (.c (ZnF _ _ e) .n))
def Zlx(b c a:Int):Option (Int×Int):=(Zgz a).bind fun d=>(Zgz (ZaV a (64:Int))).bind fun e=>some ((IntKind.wrap .u64 (((BitVec.ofInt (IntKind.bits .u64) b) &&& (BitVec.ofInt (IntKind.bits .u64) d)).toNat:Int)),(IntKind.wrap .u64 (((BitVec.ofInt (IntKind.bits .u64) c) &&& (BitVec.ofInt (IntKind.bits .u64) e)).toNat:Int)))
theorem ZsK(b d e:Int)(r:(Int×Int))(a:Zlx b d e=some r):ZaC Tryz.prog 379 [.one (.lit (.int .u64 b)),.one (.lit (.int .u64 d)),(Yj e)] (.tup [(false,(cI .u64) r.1),(false,(cI .u64) r.2)]):=by
 refine ZaC.of Tryz.func379 rfl rfl rfl rfl fun S0 w0=>?_;unfold Zlx at a;obtain⟨f,g,a⟩:=Zaf a;obtain⟨h,i,a⟩:=Zaf a;apply Ya a 4 [rz,rA [(2,.r (.one (.lit (.int .u64 f))) []),(7,.r (.one (.lit (.int .u64 h))) [])]] [] (.c (ZoE _ _ g) (.c (ZoE _ _ i) .n))
def ZjA(a:Zag)(b:Int):Option Zag:=(Zfp a).bind fun e=>bif(!e)then some (Zag.mk false 0 0)else(Zex a).bind fun c=>bif(!a.fV6)then(Zgz (if c<(if(0:Int)>b then(0:Int)else b)then c else(if(0:Int)>b then(0:Int)else b))).bind fun f=>some (Zag.mk a.fV6 a.fHi (IntKind.wrap .u64 (((BitVec.ofInt (IntKind.bits .u64) a.fLo) &&& (BitVec.ofInt (IntKind.bits .u64) (Int.fdiv f (2 ^ (min (32:Int).toNat (IntKind.bits .u64)))))).toNat:Int)))else(Zlx a.fHi a.fLo (if c<(if(0:Int)>b then(0:Int)else b)then c else(if(0:Int)>b then(0:Int)else b))).bind fun d=>some (Zag.mk a.fV6 d.1 d.2)
theorem ZqD(f:Zag)(g:Int)(r:Zag)(a:ZjA f g=some r):ZaC Tryz.prog 341 [.agg (Zag.c f),(Yj g)] (.agg (Zag.c r)):=by
 refine ZaC.of Tryz.func341 rfl rfl rfl rfl fun S0 w0=>?_;unfold ZjA at a;obtain⟨b,h,a⟩:=Zaf a;rcases Zai a with⟨d,a⟩|⟨d,a⟩
 ·apply Ya a 8 [rz,rA [(1,aB b)],rz] [true] (.c (ZcQ _ _ h) (.c d .n))
 ·obtain⟨i,k,a⟩:=Zaf a;have O1:Obl _:=(.c (ZcQ _ _ h) (.c d (.c (Zik _ _ k) .n)));rcases Zai a with⟨e,a⟩|⟨e,a⟩
  ·obtain⟨l,m,a⟩:=Zaf a;apply Ya a 17 [rz,rA [(1,aB b)],rA [(3,aI i)],rz,rA [(3,.r (.one (.lit (.int .u64 l))) [])],rz] [false,true] (O1.app (.c e (.c (ZoE _ _ m) (.c (show 0<=(32:Int)from(by decide)) .n))))
  ·obtain⟨j,o,a⟩:=Zaf a;apply Ya a 18 [rz,rA [(1,aB b)],rA [(3,aI i)],rz,rA [(5,.r (.tup [(false,(cI .u64) j.1),(false,(cI .u64) j.2)]) [])],rz] [false,false] (O1.app (.c e (.c (ZsK _ _ _ _ o) .n)))
def ZiD(b:Zag)(a:Int):Option (Zao×Bool):=(Zfp b).bind fun c=>bif(!c)then some ((Zao.mk (Zag.mk false 0 0) 0),false)else bif(decide (a<(0:Int)))then some ((Zao.mk (Zag.mk false 0 0) 0),false)else(Zex b).bind fun d=>bif(decide (a>d))then some ((Zao.mk (Zag.mk false 0 0) 0),false)else(ZjA b a).bind fun e=>some ((Zao.mk e a),true)
theorem Zii(h:Zag)(i:Int)(r:(Zao×Bool))(a:ZiD h i=some r):ZaC Tryz.prog 280 [.agg (Zag.c h),(Yj i)] (.tup [(true,Zao.c r.1),(false,cB r.2)]):=by
 refine ZaC.of Tryz.func280 rfl rfl rfl rfl fun S0 w0=>?_;unfold ZiD at a;obtain⟨d,e,a⟩:=Zaf a;rcases Zai a with⟨b,a⟩|⟨b,a⟩
 ·apply Ya a 8 [rz,⟨[(1,aB d)],[(3,true)],[],[],[],[],[]⟩,rz] [true] (.c (ZcQ _ _ e) (.c b (.c (show true=true from rfl) .n)))
 ·rcases Zai a with⟨f,a⟩|⟨f,a⟩
  ·apply Ya a 8 [rz,⟨[(1,aB d)],[(3,false),(7,true)],[],[],[],[],[]⟩,rz] [true] (.c (ZcQ _ _ e) (.c b (.c f (.c (show true=true from rfl) .n))))
  ·obtain⟨j,k,a⟩:=Zaf a
   let R1:List RA:=[rz,⟨[(1,aB d),(10,aI j)],[(3,false),(7,false)],[],[],[],[],[]⟩]
   have O2:Obl _:=(.c (ZcQ _ _ e) (.c b (.c f (.c (Zik _ _ k) .n))));rcases Zai a with⟨g,a⟩|⟨g,a⟩
   ·apply Ya a 8 (R1++[rz]) [true] (O2.app (.c g .n))
   ·obtain⟨l,m,a⟩:=Zaf a;apply Ya a 9 (R1++[rA [(2,aG (Zag.c l))]]) [false] (O2.app (.c g (.c (ZqD _ _ _ m) .n)))
def ZgW(a:Zao):Option Bool:=(ZiD a.fAddr a.fBits).bind fun b=>bif b.2 then some (decide (b.1=a))else some false
theorem ZcI(b:Zao)(r:Bool)(a:ZgW b=some r):ZaC Tryz.prog 214 [.agg (Zao.c b)] ((Yk r)):=by
 refine ZaC.of Tryz.func214 rfl rfl rfl rfl fun S0 w0=>?_;unfold ZgW at a;obtain⟨d,f,a⟩:=Zaf a
 let R1:List RA:=[rz,rA [(4,.r (.tup [(true,Zao.c d.1),(false,cB d.2)]) [])]]
 rcases Zai a with⟨e,a⟩|⟨e,a⟩
 ·apply Ya a 6 (R1++[⟨[(4,aB (decide (d.1=b)))],[(1,true)],[],[],[],[],[]⟩]) [] (.c (Zii _ _ _ f) (.c e (.c (ZlA d.1 b (.tmp 15) (.tmp 16)) .n)))
 ·apply Ya a 6 (R1++[rB [(1,false)]]) [] (.c (Zii _ _ _ f) (.c e .n))
def ZkB(a:Int):Option (Int×Int):=bif(a==(4:Int))then some ((0:Int),(1073741824:Int))else bif(a==(5:Int))then some ((1:Int),(5:Int))else bif(a==(6:Int))then some ((1:Int),(1099511627776:Int))else some ((1:Int),(1048576:Int))
theorem ZuV(f:Int)(r:(Int×Int))(a:ZkB f=some r):ZaC Tryz.prog 216 [(Yj f)] (.tup [(false,(cI .i64) r.1),(false,(cI .i64) r.2)]):=by
 refine ZaC.of Tryz.func216 rfl rfl rfl rfl fun S0 w0=>?_;unfold ZkB at a;rcases Zai a with⟨b,a⟩|⟨b,a⟩
 ·apply Ya a 11 [rz,rz,rz,rz] [true] (.c b .n)
 ·rcases Zai a with⟨d,a⟩|⟨d,a⟩
  ·apply Ya a 14 [rz,rz,rz,rz,rz] [false,true] (.c b (.c d .n))
  ·rcases Zai a with⟨e,a⟩|⟨e,a⟩
   ·apply Ya a 17 [rz,rz,rz,rz,rz,rz] [false,false,true] (.c b (.c d (.c e .n)))
   ·apply Ya a 19 [rz,rz,rz,rz,rz,rz] [false,false,false] (.c b (.c d (.c e .n)))
def Zla(a:Zaz)(b:Int):Option Bool:=bif(b==(0:Int))then(ZkU a.fEnd).bind fun d=>some d else bif(b==(1:Int))then(ZgW a.fNet).bind fun e=>some e else bif(b==(2:Int))then(Zfp a.fEnd.fAddr).bind fun f=>some f else bif(b==(3:Int))then bif(decide (a.fNow>=(0:Int)))then some (decide (a.fNow<=(1099511627776:Int)))else some false else bif(b==(4:Int))then(ZkB a.fKind).bind fun c=>bif(decide (a.fNum>=c.1))then some (decide (a.fNum<=c.2))else some false else some true
theorem Zub(k:Zaz)(l:Int)(r:Bool)(a:Zla k l=some r):ZaC Tryz.prog 135 [.agg (Zaz.c k),(Yj l)] ((Yk r)):=by
 refine ZaC.of Tryz.func135 rfl rfl rfl rfl fun S0 w0=>?_;unfold Zla at a;rcases Zai a with⟨b,a⟩|⟨b,a⟩
 ·obtain⟨o,p,a⟩:=Zaf a;apply Ya a 11 [rz,rz,rz,rA [(2,aB o)]] [true] (.c b (.c (ZtZ _ _ p) .n))
 ·rcases Zai a with⟨d,a⟩|⟨d,a⟩
  ·obtain⟨q,s,a⟩:=Zaf a;apply Ya a 14 [rz,rz,rz,rz,rA [(2,aB q)]] [false,true] (.c b (.c d (.c (ZcI _ _ s) .n)))
  ·rcases Zai a with⟨f,a⟩|⟨f,a⟩
   ·obtain⟨t,u,a⟩:=Zaf a;apply Ya a 17 [rz,rz,rz,rz,rz,rA [(3,aB t)]] [false,false,true] (.c b (.c d (.c f (.c (ZcQ _ _ u) .n))))
   ·rcases Zai a with⟨g,a⟩|⟨g,a⟩
    ·rcases Zai a with⟨h,a⟩|⟨h,a⟩
     ·apply Ya a 20 [rz,rz,rz,rz,rz,rz,rB [(3,true)]] [false,false,false,true] (.c b (.c d (.c f (.c g (.c h .n)))))
     ·apply Ya a 20 [rz,rz,rz,rz,rz,rz,rB [(3,false)]] [false,false,false,true] (.c b (.c d (.c f (.c g (.c h .n)))))
    ·rcases Zai a with⟨i,a⟩|⟨i,a⟩
     ·obtain⟨m,j,a⟩:=Zaf a
      let R1:List RA:=[rz,rz,rz,rz,rz,rz,rz,rA [(2,.r (.tup [(false,(cI .i64) m.1),(false,(cI .i64) m.2)]) [])]]
      have O2:Obl _:=(.c b (.c d (.c f (.c g (.c i (.c (ZuV _ _ j) .n))))));rcases Zai a with⟨e,a⟩|⟨e,a⟩
      ·apply Ya a 25 (R1++[rB [(4,true)]]) [false,false,false,false,true] (O2.app (.c e .n))
      ·apply Ya a 25 (R1++[rB [(4,false)]]) [false,false,false,false,true] (O2.app (.c e .n))
     ·apply Ya a 25 [rz,rz,rz,rz,rz,rz,rz,rz] [false,false,false,false,false] (.c b (.c d (.c f (.c g (.c i .n)))))
def Zew:Nat->(List Int)->Int->Int->Zaz->Option Bool|0,_,_,_,_=>none|fu+1,b,c,a,d=>bif(decide (a<c))then need (0<=a/\a<((b.length:Nat):Int))<|(Zla d (b.getD a.toNat (0:Int))).bind fun e=>bif(!e)then some false else Zew fu b c (Zar a 1) d else some true
theorem ZrA(S0:Nat->Prop)(w0:Zba):∀(g:Nat)(d:List Int)(e f:Int)(a:Zaz)(r:Bool),Zew g d e f a=some r->Good Tryz.prog 22 S0 w0 (bodyPost Tryz.prog Tryz.f66 (Post S0 w0 ((Yk r)))) (at_ [1,1,0,1,0] (ZaW Tryz.f66)) ⟨[(1,.one (.ptr 1 0)),(11,.one (cL 1 (cI .i64) (0:Int) d)),(12,(Yj e)),(13,(Yj f))],[(1,.box [.lit (.int .i64 a.fKind),.lit (.bool a.fEnd.fAddr.fV6),.lit (.int .u64 a.fEnd.fAddr.fHi),.lit (.int .u64 a.fEnd.fAddr.fLo),.lit (.int .i64 a.fEnd.fPort),.lit (.bool a.fNet.fAddr.fV6),.lit (.int .u64 a.fNet.fAddr.fHi),.lit (.int .u64 a.fNet.fAddr.fLo),.lit (.int .i64 a.fNet.fBits),.lit (.int .i64 a.fNow),.lit (.int .i64 a.fNum),.lit (.bool a.fGood)])]⟩:=by
 intro g;induction g with
 |zero=>
  intro d e f a r b;simp[Zew]at b
 |succ g k=>
  intro d e f a r b;unfold Zew at b;rcases Zai b with⟨h,b⟩|⟨h,b⟩
  ·obtain⟨l,b⟩:=Zaq b;obtain⟨j,m,b⟩:=Zaf b;have O1:Obl _:=(.c h (.c l (.c (Zub _ _ _ m) .n)));rcases Zai b with⟨i,b⟩|⟨i,b⟩
   ·apply Ya b 15 [rz,rz,rA [(2,aB j)],rz] [true,true] (O1.app (.c i .n))
   ·exact Ye 17 [rz,rz,rA [(2,aB j)],rz] [true,false] ⟨[],[],[],[],[],[1,11,12,13],[1],[]⟩ (O1.app (.c i .n)) (k d e (Zar f 1) a r b)
  ·apply Ya b 8 [rz,rz] [false] (.c h .n)
def Zlb(a:Zaz):Option Bool:=(Zmc a.fKind).bind fun c=>bif(c.toList==(⟨#[]⟩ : ByteArray).toList)then some false else(ZjH a.fKind).bind fun b=>Zew ((((b.length:Nat):Int)-(0:Int)).toNat+2) b ((b.length:Nat):Int) (0:Int) a
theorem Zme(d:Zaz)(r:Bool)(a:Zlb d=some r):ZaC Tryz.prog 66 [.agg (Zaz.c d)] ((Yk r)):=by
 refine ZaC.of Tryz.func66 rfl rfl rfl rfl fun S0 w0=>?_;unfold Zlb at a;obtain⟨g,f,a⟩:=Zaf a
 let R2:List RA:=[rz,rA [(2,.r (.one (.lit (.string g))) [])]]
 rcases Zai a with⟨e,a⟩|⟨e,a⟩
 ·apply Ya a 8 (R2++[rz]) [true] (.c (ZqC _ _ f) (.c e .n))
 ·obtain⟨b,h,a⟩:=Zaf a;exact Ye 11 (R2++[rA [(2,.r (.one (cL 1 (cI .i64) (0:Int) b)) [])]]) [false] ⟨[],[],[],[],[],[1,11,12,13],[1],[]⟩ (.c (ZqC _ _ f) (.c e (.c (Zuc _ _ h) .n))) (ZrA S0 w0 ((((b.length:Nat):Int)-(0:Int)).toNat+2) b ((b.length:Nat):Int) (0:Int) d r a)
def ZhM(b:Int)(c:Bool)(a d:Zay):Option Zay:=bif c then some (Zay.mk a.fKind 0 0)else bif(b==(5:Int))then some (Zay.mk a.fKind a.fShard 0)else bif(b==(6:Int))then some a else some (Zay.mk 0 0 0)
theorem Zjs(S0:Nat->Prop)(w0:Zba)(h:Int)(i:Bool)(d e r:Zay)(a:ZhM h i d e=some r):Good Tryz.prog 24 S0 w0 (bodyPost Tryz.prog Tryz.f471 (Post S0 w0 (.agg (Zay.c r)))) (at_ [1,0,1,0,1] (ZaW Tryz.f471)) ⟨[(1,.one (.ptr 1 0)),(2,.one (.ptr 2 0)),(4,(Yj h)),(5,(Yk i))],[(1,.box [.lit (.int .i64 d.fKind),.lit (.int .i64 d.fShard),.lit (.int .i64 d.fSlot)]),(2,.box [.lit (.int .i64 e.fKind),.lit (.int .i64 e.fShard),.lit (.int .i64 e.fSlot)])]⟩:=by
 unfold ZhM at a;rcases Zai a with⟨b,a⟩|⟨b,a⟩
 ·apply Ya a 3 [rz] [true] (.c b .n)
 ·rcases Zai a with⟨f,a⟩|⟨f,a⟩
  ·apply Ya a 6 [rz,rz] [false,true] (.c b (.c f .n))
  ·rcases Zai a with⟨g,a⟩|⟨g,a⟩
   ·apply Ya a 9 [rz,rz,rz] [false,false,true] (.c b (.c f (.c g .n)))
   ·apply Ya a 11 [rz,rz,rz] [false,false,false] (.c b (.c f (.c g .n)))
def ZkA(a:Zay):Option Zay:=bif(a.fKind==(1:Int))then ZhM a.fKind (a.fKind==(1:Int)) a (Zay.mk 0 0 0)else bif(a.fKind==(2:Int))then ZhM a.fKind (a.fKind==(2:Int)) a (Zay.mk 0 0 0)else bif(a.fKind==(3:Int))then ZhM a.fKind (a.fKind==(3:Int)) a (Zay.mk 0 0 0)else ZhM a.fKind (a.fKind==(4:Int)) a (Zay.mk 0 0 0)
theorem Zoi(a r:Zay)(b:ZkA a=some r):ZaC Tryz.prog 471 [.agg (Zay.c a)] (.agg (Zay.c r)):=by
 refine ZaC.of Tryz.func471 rfl rfl rfl rfl fun S0 w0=>?_;unfold ZkA at b;rcases Zai b with⟨d,b⟩|⟨d,b⟩
 ·exact Ye 11 [rz,rz,rz] [true] ⟨[],[],[],[],[],[1,2,4,5],[1,2],[]⟩ (.c d .n) (Zjs S0 w0 a.fKind (a.fKind==(1:Int)) a (Zay.mk 0 0 0) r b)
 ·rcases Zai b with⟨e,b⟩|⟨e,b⟩
  ·exact Ye 14 [rz,rz,rz,rz] [false,true] ⟨[],[],[],[],[],[1,2,4,5],[1,2],[]⟩ (.c d (.c e .n)) (Zjs S0 w0 a.fKind (a.fKind==(2:Int)) a (Zay.mk 0 0 0) r b)
  ·rcases Zai b with⟨f,b⟩|⟨f,b⟩
   ·exact Ye 17 [rz,rz,rz,rz,rz] [false,false,true] ⟨[],[],[],[],[],[1,2,4,5],[1,2],[]⟩ (.c d (.c e (.c f .n))) (Zjs S0 w0 a.fKind (a.fKind==(3:Int)) a (Zay.mk 0 0 0) r b)
   ·exact Ye 17 [rz,rz,rz,rz,rz,rz] [false,false,false] ⟨[],[],[],[],[],[1,2,4,5],[1,2],[]⟩ (.c d (.c e (.c f .n))) (Zjs S0 w0 a.fKind (a.fKind==(4:Int)) a (Zay.mk 0 0 0) r b)
def ZiP(b:Int)(c:Bool)(a d:Zae):Option Zae:=bif c then some (Zae.mk a.fN (Zaa.mk (Zah.mk (Zag.mk false 0 0) 0) false 0 (Zax.mk 0 0) 0 0) ([]:(List Zab)) ([]:(List Zac)))else bif(b==(3:Int))then some (Zae.mk 0 (Zaa.mk (Zah.mk (Zag.mk false 0 0) 0) false 0 (Zax.mk 0 0) 0 0) a.fBans ([]:(List Zac)))else bif(b==(4:Int))then some (Zae.mk 0 (Zaa.mk (Zah.mk (Zag.mk false 0 0) 0) false 0 (Zax.mk 0 0) 0 0) ([]:(List Zab)) a.fBook)else bif(b==(6:Int))then some (Zae.mk 0 a.fPeer ([]:(List Zab)) ([]:(List Zac)))else some (Zae.mk 0 (Zaa.mk (Zah.mk (Zag.mk false 0 0) 0) false 0 (Zax.mk 0 0) 0 0) ([]:(List Zab)) ([]:(List Zac)))
theorem Zlh(S0:Nat->Prop)(w0:Zba)(j:Int)(k:Bool)(b e r:Zae)(a:ZiP j k b e=some r):Good Tryz.prog 29 S0 w0 (bodyPost Tryz.prog Tryz.f472 (Post S0 w0 (.agg (Zae.c r)))) (at_ [1,0,1,0,1] (ZaW Tryz.f472)) ⟨[(3,.one (.ptr 3 0)),(4,.one (.ptr 4 0)),(5,(Yj j)),(6,(Yk k))],[(3,.box [.lit (.int .i64 b.fN),.lit (.bool b.fPeer.fEnd.fAddr.fV6),.lit (.int .u64 b.fPeer.fEnd.fAddr.fHi),.lit (.int .u64 b.fPeer.fEnd.fAddr.fLo),.lit (.int .i64 b.fPeer.fEnd.fPort),.lit (.bool b.fPeer.fIn),.lit (.int .i64 b.fPeer.fSince),.lit (.int .i64 b.fPeer.fScore.fPoints),.lit (.int .i64 b.fPeer.fScore.fAt),.lit (.int .i64 b.fPeer.fPing),.lit (.int .i64 b.fPeer.fWork),cL 5 Zab.c Zab.d b.fBans,cL 7 Zac.c Zac.d b.fBook]),(4,.box [.lit (.int .i64 e.fN),.lit (.bool e.fPeer.fEnd.fAddr.fV6),.lit (.int .u64 e.fPeer.fEnd.fAddr.fHi),.lit (.int .u64 e.fPeer.fEnd.fAddr.fLo),.lit (.int .i64 e.fPeer.fEnd.fPort),.lit (.bool e.fPeer.fIn),.lit (.int .i64 e.fPeer.fSince),.lit (.int .i64 e.fPeer.fScore.fPoints),.lit (.int .i64 e.fPeer.fScore.fAt),.lit (.int .i64 e.fPeer.fPing),.lit (.int .i64 e.fPeer.fWork),cL 5 Zab.c Zab.d e.fBans,cL 7 Zac.c Zac.d e.fBook])]⟩:=by
 unfold ZiP at a;rcases Zai a with⟨f,a⟩|⟨f,a⟩
 ·apply Yb a 3 [rz] [true] [] [(4,[(11,cL 5 Zab.c Zab.d []),(12,cL 7 Zac.c Zac.d [])])] [] (.c f .n)
 ·rcases Zai a with⟨g,a⟩|⟨g,a⟩
  ·apply Yb a 6 [rz,rz] [false,true] [] [(4,[(12,cL 7 Zac.c Zac.d [])])] [] (.c f (.c g .n))
  ·rcases Zai a with⟨h,a⟩|⟨h,a⟩
   ·apply Yb a 9 [rz,rz,rz] [false,false,true] [] [(4,[(11,cL 5 Zab.c Zab.d [])])] [] (.c f (.c g (.c h .n)))
   ·rcases Zai a with⟨i,a⟩|⟨i,a⟩
    ·apply Yb a 12 [rz,rz,rz,rz] [false,false,false,true] [] [(4,[(11,cL 5 Zab.c Zab.d []),(12,cL 7 Zac.c Zac.d [])])] [] (.c f (.c g (.c h (.c i .n))))
    ·apply Yb a 14 [rz,rz,rz,rz] [false,false,false,false] [] [(4,[(11,cL 5 Zab.c Zab.d []),(12,cL 7 Zac.c Zac.d [])])] [] (.c f (.c g (.c h (.c i .n))))
def ZnD(a:Int)(b:Zae):Option Zae:=bif(a==(1:Int))then ZiP a (a==(1:Int)) b (Zae.mk 0 (Zaa.mk (Zah.mk (Zag.mk false 0 0) 0) false 0 (Zax.mk 0 0) 0 0) ([]:(List Zab)) ([]:(List Zac)))else bif(a==(2:Int))then ZiP a (a==(2:Int)) b (Zae.mk 0 (Zaa.mk (Zah.mk (Zag.mk false 0 0) 0) false 0 (Zax.mk 0 0) 0 0) ([]:(List Zab)) ([]:(List Zac)))else ZiP a (a==(5:Int)) b (Zae.mk 0 (Zaa.mk (Zah.mk (Zag.mk false 0 0) 0) false 0 (Zax.mk 0 0) 0 0) ([]:(List Zab)) ([]:(List Zac)))
theorem ZwJ(b:Int)(e r:Zae)(a:ZnD b e=some r):ZaC Tryz.prog 472 [(Yj b),.agg (Zae.c e)] (.agg (Zae.c r)):=by
 refine ZaC.of Tryz.func472 rfl rfl rfl rfl fun S0 w0=>?_;unfold ZnD at a;rcases Zai a with⟨f,a⟩|⟨f,a⟩
 ·exact Ye 11 [rz,rz,rz] [true] ⟨[],[(4,[(11,cL 5 Zab.c Zab.d []),(12,cL 7 Zac.c Zac.d [])])],[],[],[],[3,4,5,6],[3,4],[]⟩ (.c f .n) (Zlh S0 w0 b (b==(1:Int)) e (Zae.mk 0 (Zaa.mk (Zah.mk (Zag.mk false 0 0) 0) false 0 (Zax.mk 0 0) 0 0) ([]:(List Zab)) ([]:(List Zac))) r a)
 ·rcases Zai a with⟨g,a⟩|⟨g,a⟩
  ·exact Ye 14 [rz,rz,rz,rz] [false,true] ⟨[],[(4,[(11,cL 5 Zab.c Zab.d []),(12,cL 7 Zac.c Zac.d [])])],[],[],[],[3,4,5,6],[3,4],[]⟩ (.c f (.c g .n)) (Zlh S0 w0 b (b==(2:Int)) e (Zae.mk 0 (Zaa.mk (Zah.mk (Zag.mk false 0 0) 0) false 0 (Zax.mk 0 0) 0 0) ([]:(List Zab)) ([]:(List Zac))) r a)
  ·exact Ye 14 [rz,rz,rz,rz,rz] [false,false] ⟨[],[(4,[(11,cL 5 Zab.c Zab.d []),(12,cL 7 Zac.c Zac.d [])])],[],[],[],[3,4,5,6],[3,4],[]⟩ (.c f (.c g .n)) (Zlh S0 w0 b (b==(5:Int)) e (Zae.mk 0 (Zaa.mk (Zah.mk (Zag.mk false 0 0) 0) false 0 (Zax.mk 0 0) 0 0) ([]:(List Zab)) ([]:(List Zac))) r a)
def ZhN(b:Int)(d:Bool)(c i a:ZaK):Option ZaK:=bif d then some (ZaK.mk a.fKind c.fLock a.fLoc a.fOld a.fNew a.fVal a.fMark)else bif(b==(5:Int))then(ZkA c.fLoc).bind fun e=>some (ZaK.mk a.fKind a.fLock e a.fOld a.fNew a.fVal a.fMark)else bif(b==(6:Int))then(ZkA c.fLoc).bind fun f=>(ZnD c.fLoc.fKind c.fVal).bind fun g=>some (ZaK.mk a.fKind a.fLock f a.fOld a.fNew g a.fMark)else bif(b==(7:Int))then(ZkA c.fLoc).bind fun h=>some (ZaK.mk a.fKind a.fLock h c.fOld c.fNew a.fVal a.fMark)else bif(b==(8:Int))then some a else some (ZaK.mk 0 0 (Zay.mk 0 0 0) 0 0 (Zae.mk 0 (Zaa.mk (Zah.mk (Zag.mk false 0 0) 0) false 0 (Zax.mk 0 0) 0 0) ([]:(List Zab)) ([]:(List Zac))) false)
theorem Zjt(S0:Nat->Prop)(w0:Zba)(j:Int)(k:Bool)(b e f r:ZaK)(a:ZhN j k b e f=some r):Good Tryz.prog 54 S0 w0 (bodyPost Tryz.prog Tryz.f470 (Post S0 w0 (.agg (ZaK.c r)))) (at_ [1,1,0,1,0,1] (ZaW Tryz.f470)) ⟨[(1,.one (.ptr 1 0)),(2,.one (.ptr 2 0)),(3,.one (.ptr 3 0)),(10,(Yj j)),(12,(Yk k))],[(1,.box [.lit (.int .i64 b.fKind),.lit (.int .i64 b.fLock),.lit (.int .i64 b.fLoc.fKind),.lit (.int .i64 b.fLoc.fShard),.lit (.int .i64 b.fLoc.fSlot),.lit (.int .i64 b.fOld),.lit (.int .i64 b.fNew),.lit (.int .i64 b.fVal.fN),.lit (.bool b.fVal.fPeer.fEnd.fAddr.fV6),.lit (.int .u64 b.fVal.fPeer.fEnd.fAddr.fHi),.lit (.int .u64 b.fVal.fPeer.fEnd.fAddr.fLo),.lit (.int .i64 b.fVal.fPeer.fEnd.fPort),.lit (.bool b.fVal.fPeer.fIn),.lit (.int .i64 b.fVal.fPeer.fSince),.lit (.int .i64 b.fVal.fPeer.fScore.fPoints),.lit (.int .i64 b.fVal.fPeer.fScore.fAt),.lit (.int .i64 b.fVal.fPeer.fPing),.lit (.int .i64 b.fVal.fPeer.fWork),cL 5 Zab.c Zab.d b.fVal.fBans,cL 7 Zac.c Zac.d b.fVal.fBook,.lit (.bool b.fMark)]),(2,.box [.lit (.int .i64 e.fKind),.lit (.int .i64 e.fLock),.lit (.int .i64 e.fLoc.fKind),.lit (.int .i64 e.fLoc.fShard),.lit (.int .i64 e.fLoc.fSlot),.lit (.int .i64 e.fOld),.lit (.int .i64 e.fNew),.lit (.int .i64 e.fVal.fN),.lit (.bool e.fVal.fPeer.fEnd.fAddr.fV6),.lit (.int .u64 e.fVal.fPeer.fEnd.fAddr.fHi),.lit (.int .u64 e.fVal.fPeer.fEnd.fAddr.fLo),.lit (.int .i64 e.fVal.fPeer.fEnd.fPort),.lit (.bool e.fVal.fPeer.fIn),.lit (.int .i64 e.fVal.fPeer.fSince),.lit (.int .i64 e.fVal.fPeer.fScore.fPoints),.lit (.int .i64 e.fVal.fPeer.fScore.fAt),.lit (.int .i64 e.fVal.fPeer.fPing),.lit (.int .i64 e.fVal.fPeer.fWork),cL 5 Zab.c Zab.d e.fVal.fBans,cL 7 Zac.c Zac.d e.fVal.fBook,.lit (.bool e.fMark)]),(3,.box [.lit (.int .i64 f.fKind),.lit (.int .i64 f.fLock),.lit (.int .i64 f.fLoc.fKind),.lit (.int .i64 f.fLoc.fShard),.lit (.int .i64 f.fLoc.fSlot),.lit (.int .i64 f.fOld),.lit (.int .i64 f.fNew),.lit (.int .i64 f.fVal.fN),.lit (.bool f.fVal.fPeer.fEnd.fAddr.fV6),.lit (.int .u64 f.fVal.fPeer.fEnd.fAddr.fHi),.lit (.int .u64 f.fVal.fPeer.fEnd.fAddr.fLo),.lit (.int .i64 f.fVal.fPeer.fEnd.fPort),.lit (.bool f.fVal.fPeer.fIn),.lit (.int .i64 f.fVal.fPeer.fSince),.lit (.int .i64 f.fVal.fPeer.fScore.fPoints),.lit (.int .i64 f.fVal.fPeer.fScore.fAt),.lit (.int .i64 f.fVal.fPeer.fPing),.lit (.int .i64 f.fVal.fPeer.fWork),cL 5 Zab.c Zab.d f.fVal.fBans,cL 7 Zac.c Zac.d f.fVal.fBook,.lit (.bool f.fMark)])]⟩:=by
 unfold ZhN at a;rcases Zai a with⟨g,a⟩|⟨g,a⟩
 ·apply Ya a 5 [rz,rz] [true] (.c g .n)
 ·rcases Zai a with⟨i,a⟩|⟨i,a⟩
  ·obtain⟨o,p,a⟩:=Zaf a;apply Ya a 8 [rz,rA [(2,aG (Zay.c o))],rz] [false,true] (.c g (.c i (.c (Zoi _ _ p) .n)))
  ·rcases Zai a with⟨l,a⟩|⟨l,a⟩
   ·obtain⟨q,s,a⟩:=Zaf a;obtain⟨t,u,a⟩:=Zaf a;apply Ya a 11 [rz,rz,rA [(2,aG (Zay.c q)),(8,aG (Zae.c t))],rz] [false,false,true] (.c g (.c i (.c l (.c (Zoi _ _ s) (.c (ZwJ _ _ _ u) .n)))))
   ·rcases Zai a with⟨m,a⟩|⟨m,a⟩
    ·obtain⟨v,w,a⟩:=Zaf a;apply Ya a 14 [rz,rz,rz,rA [(2,aG (Zay.c v))],rz] [false,false,false,true] (.c g (.c i (.c l (.c m (.c (Zoi _ _ w) .n)))))
    ·rcases Zai a with⟨h,a⟩|⟨h,a⟩
     ·apply Ya a 17 [rz,rz,rz,rz,rz] [false,false,false,false,true] (.c g (.c i (.c l (.c m (.c h .n)))))
     ·apply Yb a 15 [rz,rz,rz,rz,rz] [false,false,false,false,false] [] [(2,[(18,cL 5 Zab.c Zab.d []),(19,cL 7 Zac.c Zac.d [])])] [] (.c g (.c i (.c l (.c m (.c h .n)))))
def ZnE(a:ZaK):Option ZaK:=bif(a.fKind==(1:Int))then ZhN a.fKind (a.fKind==(1:Int)) a (ZaK.mk 0 0 (Zay.mk 0 0 0) 0 0 (Zae.mk 0 (Zaa.mk (Zah.mk (Zag.mk false 0 0) 0) false 0 (Zax.mk 0 0) 0 0) ([]:(List Zab)) ([]:(List Zac))) false) (ZaK.mk a.fKind 0 (Zay.mk 0 0 0) 0 0 (Zae.mk 0 (Zaa.mk (Zah.mk (Zag.mk false 0 0) 0) false 0 (Zax.mk 0 0) 0 0) ([]:(List Zab)) ([]:(List Zac))) a.fMark)else bif(a.fKind==(2:Int))then ZhN a.fKind (a.fKind==(2:Int)) a (ZaK.mk 0 0 (Zay.mk 0 0 0) 0 0 (Zae.mk 0 (Zaa.mk (Zah.mk (Zag.mk false 0 0) 0) false 0 (Zax.mk 0 0) 0 0) ([]:(List Zab)) ([]:(List Zac))) false) (ZaK.mk a.fKind 0 (Zay.mk 0 0 0) 0 0 (Zae.mk 0 (Zaa.mk (Zah.mk (Zag.mk false 0 0) 0) false 0 (Zax.mk 0 0) 0 0) ([]:(List Zab)) ([]:(List Zac))) a.fMark)else bif(a.fKind==(3:Int))then ZhN a.fKind (a.fKind==(3:Int)) a (ZaK.mk 0 0 (Zay.mk 0 0 0) 0 0 (Zae.mk 0 (Zaa.mk (Zah.mk (Zag.mk false 0 0) 0) false 0 (Zax.mk 0 0) 0 0) ([]:(List Zab)) ([]:(List Zac))) false) (ZaK.mk a.fKind 0 (Zay.mk 0 0 0) 0 0 (Zae.mk 0 (Zaa.mk (Zah.mk (Zag.mk false 0 0) 0) false 0 (Zax.mk 0 0) 0 0) ([]:(List Zab)) ([]:(List Zac))) a.fMark)else ZhN a.fKind (a.fKind==(4:Int)) a (ZaK.mk 0 0 (Zay.mk 0 0 0) 0 0 (Zae.mk 0 (Zaa.mk (Zah.mk (Zag.mk false 0 0) 0) false 0 (Zax.mk 0 0) 0 0) ([]:(List Zab)) ([]:(List Zac))) false) (ZaK.mk a.fKind 0 (Zay.mk 0 0 0) 0 0 (Zae.mk 0 (Zaa.mk (Zah.mk (Zag.mk false 0 0) 0) false 0 (Zax.mk 0 0) 0 0) ([]:(List Zab)) ([]:(List Zac))) a.fMark)
theorem ZwK(a r:ZaK)(b:ZnE a=some r):ZaC Tryz.prog 470 [.agg (ZaK.c a)] (.agg (ZaK.c r)):=by
 refine ZaC.of Tryz.func470 rfl rfl rfl rfl fun S0 w0=>?_;unfold ZnE at b;rcases Zai b with⟨e,b⟩|⟨e,b⟩
 ·exact Ye 13 [rz,rz,rz,rz] [true] ⟨[],[(2,[(18,cL 5 Zab.c Zab.d []),(19,cL 7 Zac.c Zac.d [])]),(3,[(18,cL 5 Zab.c Zab.d []),(19,cL 7 Zac.c Zac.d [])])],[],[],[],[1,2,3,10,12],[1,2,3],[]⟩ (.c e .n) (Zjt S0 w0 a.fKind (a.fKind==(1:Int)) a (ZaK.mk 0 0 (Zay.mk 0 0 0) 0 0 (Zae.mk 0 (Zaa.mk (Zah.mk (Zag.mk false 0 0) 0) false 0 (Zax.mk 0 0) 0 0) ([]:(List Zab)) ([]:(List Zac))) false) (ZaK.mk a.fKind 0 (Zay.mk 0 0 0) 0 0 (Zae.mk 0 (Zaa.mk (Zah.mk (Zag.mk false 0 0) 0) false 0 (Zax.mk 0 0) 0 0) ([]:(List Zab)) ([]:(List Zac))) a.fMark) r b)
 ·rcases Zai b with⟨f,b⟩|⟨f,b⟩
  ·exact Ye 16 [rz,rz,rz,rz,rz] [false,true] ⟨[],[(2,[(18,cL 5 Zab.c Zab.d []),(19,cL 7 Zac.c Zac.d [])]),(3,[(18,cL 5 Zab.c Zab.d []),(19,cL 7 Zac.c Zac.d [])])],[],[],[],[1,2,3,10,12],[1,2,3],[]⟩ (.c e (.c f .n)) (Zjt S0 w0 a.fKind (a.fKind==(2:Int)) a (ZaK.mk 0 0 (Zay.mk 0 0 0) 0 0 (Zae.mk 0 (Zaa.mk (Zah.mk (Zag.mk false 0 0) 0) false 0 (Zax.mk 0 0) 0 0) ([]:(List Zab)) ([]:(List Zac))) false) (ZaK.mk a.fKind 0 (Zay.mk 0 0 0) 0 0 (Zae.mk 0 (Zaa.mk (Zah.mk (Zag.mk false 0 0) 0) false 0 (Zax.mk 0 0) 0 0) ([]:(List Zab)) ([]:(List Zac))) a.fMark) r b)
  ·rcases Zai b with⟨g,b⟩|⟨g,b⟩
   ·exact Ye 19 [rz,rz,rz,rz,rz,rz] [false,false,true] ⟨[],[(2,[(18,cL 5 Zab.c Zab.d []),(19,cL 7 Zac.c Zac.d [])]),(3,[(18,cL 5 Zab.c Zab.d []),(19,cL 7 Zac.c Zac.d [])])],[],[],[],[1,2,3,10,12],[1,2,3],[]⟩ (.c e (.c f (.c g .n))) (Zjt S0 w0 a.fKind (a.fKind==(3:Int)) a (ZaK.mk 0 0 (Zay.mk 0 0 0) 0 0 (Zae.mk 0 (Zaa.mk (Zah.mk (Zag.mk false 0 0) 0) false 0 (Zax.mk 0 0) 0 0) ([]:(List Zab)) ([]:(List Zac))) false) (ZaK.mk a.fKind 0 (Zay.mk 0 0 0) 0 0 (Zae.mk 0 (Zaa.mk (Zah.mk (Zag.mk false 0 0) 0) false 0 (Zax.mk 0 0) 0 0) ([]:(List Zab)) ([]:(List Zac))) a.fMark) r b)
   ·exact Ye 19 [rz,rz,rz,rz,rz,rz,rz] [false,false,false] ⟨[],[(2,[(18,cL 5 Zab.c Zab.d []),(19,cL 7 Zac.c Zac.d [])]),(3,[(18,cL 5 Zab.c Zab.d []),(19,cL 7 Zac.c Zac.d [])])],[],[],[],[1,2,3,10,12],[1,2,3],[]⟩ (.c e (.c f (.c g .n))) (Zjt S0 w0 a.fKind (a.fKind==(4:Int)) a (ZaK.mk 0 0 (Zay.mk 0 0 0) 0 0 (Zae.mk 0 (Zaa.mk (Zah.mk (Zag.mk false 0 0) 0) false 0 (Zax.mk 0 0) 0 0) ([]:(List Zab)) ([]:(List Zac))) false) (ZaK.mk a.fKind 0 (Zay.mk 0 0 0) 0 0 (Zae.mk 0 (Zaa.mk (Zah.mk (Zag.mk false 0 0) 0) false 0 (Zax.mk 0 0) 0 0) ([]:(List Zab)) ([]:(List Zac))) a.fMark) r b)
def Zcr(a:Zan)(b:ZaK):Option (Tout Zae):=bif(((a.fgot.length:Nat):Int)==(0:Int))then(ZnE b).bind fun c=>some (Tout.pan c)else need (0<=(0:Int)/\(0:Int)<((a.fgot.length:Nat):Int))<|need (0<=(1:Int)/\(1:Int)<=((a.fgot.length:Nat):Int))<|some (Tout.ret (a.fgot.getD (0:Int).toNat Zae.d) (Zan.mk (a.fgot.drop (1:Int).toNat)))
theorem Zbw(b:Zan)(f:ZaK)(r:(Tout Zae))(a:Zcr b f=some r):Zfs Tryz.prog 469 [(100000,.box (Zan.c b))] [.one (.ptr 100000 0),.agg (ZaK.c f)] (oc (fun x=>.agg (Zae.c x)) r):=by
 refine Zfs.of Tryz.func469 rfl rfl rfl rfl fun S0 w0=>?_;unfold Zcr at a;rcases Zai a with⟨e,a⟩|⟨e,a⟩
 ·obtain⟨g,h,a⟩:=Zaf a;obtain rfl:=oi a;exact Yh 6 [rz,rz] [true] (rA [(1,aG (ZaK.c g))]) 4 ⟨[],.one .junk⟩ (.c e (.c (ZwK _ _ h) (.c (show Tryz.prog.concrete 111=true from(by kernel_rfl)) .n)))
 ·obtain⟨k,a⟩:=Zaq a;obtain⟨l,a⟩:=Zaq a;obtain rfl:=oi a;exact Yd 13 [rz,rz,rz,⟨[],[],[],[],[],[(5,((b.fgot.drop (1:Int).toNat).length,Zam Zae.c Zae.d (b.fgot.drop (1:Int).toNat)))],[]⟩,rz] [false] ⟨[],[],[],[],[],[4],[4,100000],[]⟩ (.c e (.c k (.c (show (b.fgot.drop (1:Int).toNat).length=b.fgot.length-(1:Int).toNat/\∀i j,i<b.fgot.length-(1:Int).toNat->j<13->Zam Zae.c Zae.d (b.fgot.drop (1:Int).toNat) i j=Zam Zae.c Zae.d b.fgot ((1:Int).toNat+i) j from(ZlE _ _)) (.c l .n))))
def ZhW(d:Zan)(e:Bool):Option (Tout Unit):=(Zcr d (ZaK.mk 8 0 (Zay.mk 0 0 0) 0 0 (Zae.mk 0 (Zaa.mk (Zah.mk (Zag.mk false 0 0) 0) false 0 (Zax.mk 0 0) 0 0) ([]:(List Zab)) ([]:(List Zac))) e)).bind fun f=>(match f with | .ret g a=>some (Tout.ret () a) | .pan b=>some (Tout.pan b) | .bad c=>some (Tout.bad c))
theorem Zhh(g:Zan)(h:Bool)(r:(Tout Unit))(a:ZhW g h=some r):Zfs Tryz.prog 465 [(100000,.box (Zan.c g))] [.one (.ptr 100000 0),(Yk h)] (oc (fun x=>.tup []) r):=by
 refine Zfs.of Tryz.func465 rfl rfl rfl rfl fun S0 w0=>?_;unfold ZhW at a;obtain⟨i,b,a⟩:=Zaf a;cases i with
 |ret e f=>
  dsimp only at a;obtain rfl:=oi a;exact Yd 1 [⟨[],[],[],[],[(2,[(18,cL 5 Zab.c Zab.d []),(19,cL 7 Zac.c Zac.d [])])],[],[(3,⟨[(100000,100000)],[],[(100000,.box (Zan.c f))],.agg (Zae.c e)⟩)]⟩] [] ⟨[],[],[],[],[],[],[100000],[]⟩ (.c (Zbw _ _ _ b) .n)
 |_=>
  dsimp only at a;obtain rfl:=oi a;exact Yh 0 [] [] (⟨[],[],[],[],[(2,[(18,cL 5 Zab.c Zab.d []),(19,cL 7 Zac.c Zac.d [])])],[],[]⟩) 3 ⟨[(100000,100000)],pvOf b⟩ (.c (Zbw _ _ _ b) .n)
def Zha(a:Int):Option Zap:=some (Zap.mk a (Zah.mk (Zag.mk false 0 0) 0) 0 0 ([]:(List Zaa)))
theorem Zhv(a:Int)(r:Zap)(b:Zha a=some r):ZaC Tryz.prog 248 [(Yj a)] (.agg (Zap.c r)):=by
 refine ZaC.of Tryz.func248 rfl rfl rfl rfl fun S0 w0=>?_;unfold Zha at b;apply Yb b 4 [rz,rz] [] [] [(2,[(7,cL 10 Zaa.c Zaa.d [])])] [] .n
def Zht(h:Zbg)(d:Zan):Option (Tout Zap):=(ZhW d true).bind fun e=>(match e with | .ret f a=>(Zha (1:Int)).bind fun g=>some (Tout.ret g a) | .pan b=>some (Tout.pan b) | .bad c=>some (Tout.bad c))
theorem ZkR(e:Zbg)(f:Zan)(r:(Tout Zap))(a:Zht e f=some r):Zfs Tryz.prog 187 [(100000,.box (Zan.c f))] [.agg (Zbg.c e),.one (.ifc 112 (.ptr 100000 0))] (oc (fun x=>.agg (Zap.c x)) r):=by
 refine Zfs.of Tryz.func187 rfl rfl rfl rfl fun S0 w0=>?_;unfold Zht at a;obtain⟨g,b,a⟩:=Zaf a;cases g with
 |ret h d=>
  dsimp only at a;obtain⟨i,j,a⟩:=Zaf a;obtain rfl:=oi a;exact Yd 6 [rz,rH [(1,.id 465)] [(1,⟨[(100000,100000)],[],[(100000,.box (Zan.c d))],.tup []⟩)],rA [(0,aG (Zap.c i))]] [] ⟨[],[],[],[],[],[4],[4,100000],[]⟩ (.c (Zhh _ _ _ b) (.c Zrm (.c (Zhv _ _ j) .n)))
 |_=>
  dsimp only at a;obtain rfl:=oi a;exact Yh 3 [rz] [] (rA [(1,.id 465)]) 1 ⟨[(100000,100000)],pvOf b⟩ (.c (Zhh _ _ _ b) (.c Zrm .n))
def Zeg(d:Zan)(e:Int)(f:Bool):Option (Tout Unit):=(Zcr d (ZaK.mk 1 e (Zay.mk 0 0 0) 0 0 (Zae.mk 0 (Zaa.mk (Zah.mk (Zag.mk false 0 0) 0) false 0 (Zax.mk 0 0) 0 0) ([]:(List Zab)) ([]:(List Zac))) f)).bind fun g=>(match g with | .ret h a=>some (Tout.ret () a) | .pan b=>some (Tout.pan b) | .bad c=>some (Tout.bad c))
theorem ZbT(g:Zan)(h:Int)(i:Bool)(r:(Tout Unit))(a:Zeg g h i=some r):Zfs Tryz.prog 464 [(100000,.box (Zan.c g))] [.one (.ptr 100000 0),(Yj h),(Yk i)] (oc (fun x=>.tup []) r):=by
 refine Zfs.of Tryz.func464 rfl rfl rfl rfl fun S0 w0=>?_;unfold Zeg at a;obtain⟨j,b,a⟩:=Zaf a;cases j with
 |ret e f=>
  dsimp only at a;obtain rfl:=oi a;exact Yd 1 [⟨[],[],[],[],[(3,[(18,cL 5 Zab.c Zab.d []),(19,cL 7 Zac.c Zac.d [])])],[],[(4,⟨[(100000,100000)],[],[(100000,.box (Zan.c f))],.agg (Zae.c e)⟩)]⟩] [] ⟨[],[],[],[],[],[],[100000],[]⟩ (.c (Zbw _ _ _ b) .n)
 |_=>
  dsimp only at a;obtain rfl:=oi a;exact Yh 0 [] [] (⟨[],[],[],[],[(3,[(18,cL 5 Zab.c Zab.d []),(19,cL 7 Zac.c Zac.d [])])],[],[]⟩) 4 ⟨[(100000,100000)],pvOf b⟩ (.c (Zbw _ _ _ b) .n)
def Ziu(a:Int):Option Int:=some (if(8:Int)<(if(1:Int)>a then(1:Int)else a)then(8:Int)else(if(1:Int)>a then(1:Int)else a))
theorem ZlU(a r:Int)(b:Ziu a=some r):ZaC Tryz.prog 256 [(Yj a)] ((Yj r)):=by
 refine ZaC.of Tryz.func256 rfl rfl rfl rfl fun S0 w0=>?_;unfold Ziu at b;apply Ya b 4 [rz,rz] [] .n
def Zel:Nat->Int->Int->Zan->Option (Tout Unit)|0,_,_,_=>none|fu+1,f,b,a=>bif(decide (b<f))then(Zeg a (Zar (2:Int) b) false).bind fun g=>(match g with | .ret h c=>Zel fu f (Zar b 1) c | .pan d=>some (Tout.pan d) | .bad e=>some (Tout.bad e))else some (Tout.ret () a)
theorem Zqf(S0:Nat->Prop)(w0:Zba):∀(h:Nat)(e f:Int)(a:Zan)(r:(Tout Unit)),Zel h e f a=some r->Good Tryz.prog 15 S0 w0 (bodyPost Tryz.prog Tryz.f197 (Zjn S0 w0 (oc (fun x=>.tup []) r))) (at_ [1,0] (ZaW Tryz.f197)) ⟨[(0,.one (.ifc 112 (.ptr 100000 0))),(6,(Yj e)),(7,(Yj f))],[(100000,.box [cLn 13 Zae.c Zae.d a.fgot])]⟩:=by
 intro h;induction h with
 |zero=>
  intro e f a r b;simp[Zel]at b
 |succ h k=>
  intro e f a r b;unfold Zel at b;rcases Zai b with⟨i,b⟩|⟨i,b⟩
  ·obtain⟨l,j,b⟩:=Zaf b;cases l with
   |ret m g=>
    dsimp only at b;exact Ye 14 [rz,rz,rH [(3,.id 464)] [(3,⟨[(100000,100000)],[],[(100000,.box (Zan.c g))],.tup []⟩)],rz] [true] ⟨[],[],[],[],[],[0,6,7],[100000],[]⟩ (.c i (.c (ZbT _ _ _ _ j) (.c ZhU .n))) (k e (Zar f 1) g r b)
   |_=>
    dsimp only at b;obtain rfl:=oi b;exact Yh 10 [rz,rz] [true] (rA [(3,.id 464)]) 3 ⟨[(100000,100000)],pvOf j⟩ (.c i (.c (ZbT _ _ _ _ j) (.c ZhU .n)))
  ·obtain rfl:=oi b;exact Yd 6 [rz] [false] ⟨[],[],[],[],[],[],[100000],[]⟩ (.c i .n)
def Zif(b:Zan)(c:Int):Option (Tout Unit):=(Ziu c).bind fun a=>Zel ((a-(0:Int)).toNat+2) a (0:Int) b
theorem Zfu(b:Zan)(e:Int)(r:(Tout Unit))(a:Zif b e=some r):Zfs Tryz.prog 197 [(100000,.box (Zan.c b))] [.one (.ifc 112 (.ptr 100000 0)),(Yj e)] (oc (fun x=>.tup []) r):=by
 refine Zfs.of Tryz.func197 rfl rfl rfl rfl fun S0 w0=>?_;unfold Zif at a;obtain⟨d,f,a⟩:=Zaf a;exact Ye 3 [rA [(1,aI d)]] [] ⟨[],[],[],[],[],[0,6,7],[100000],[]⟩ (.c (ZlU _ _ f) .n) (Zqf S0 w0 ((d-(0:Int)).toNat+2) d (0:Int) b r a)
def Zjg:Option Zay:=some (Zay.mk 3 0 0)
theorem ZkT(r:Zay)(a:Zjg=some r):ZaC Tryz.prog 252 [] (.agg (Zay.c r)):=by
 refine ZaC.of Tryz.func252 rfl rfl rfl rfl fun S0 w0=>?_;unfold Zjg at a;apply Ya a 4 [rz,rz] [] .n
def Zeh(e:Zan)(f:Zay)(g:Bool):Option (Tout Zae):=(Zcr e (ZaK.mk 5 0 f 0 0 (Zae.mk 0 (Zaa.mk (Zah.mk (Zag.mk false 0 0) 0) false 0 (Zax.mk 0 0) 0 0) ([]:(List Zab)) ([]:(List Zac))) g)).bind fun h=>(match h with | .ret a b=>some (Tout.ret a b) | .pan c=>some (Tout.pan c) | .bad d=>some (Tout.bad d))
theorem ZbU(g:Zan)(h:Zay)(i:Bool)(r:(Tout Zae))(a:Zeh g h i=some r):Zfs Tryz.prog 463 [(100000,.box (Zan.c g))] [.one (.ptr 100000 0),.agg (Zay.c h),(Yk i)] (oc (fun x=>.agg (Zae.c x)) r):=by
 refine Zfs.of Tryz.func463 rfl rfl rfl rfl fun S0 w0=>?_;unfold Zeh at a;obtain⟨j,b,a⟩:=Zaf a;cases j with
 |ret e f=>
  dsimp only at a;obtain rfl:=oi a;exact Yd 4 [rz,⟨[],[],[],[],[(3,[(18,cL 5 Zab.c Zab.d []),(19,cL 7 Zac.c Zac.d [])])],[],[(4,⟨[(100000,100000)],[],[(100000,.box (Zan.c f))],.agg (Zae.c e)⟩)]⟩] [] ⟨[],[],[],[],[],[6],[6,100000],[]⟩ (.c (Zbw _ _ _ b) .n)
 |_=>
  dsimp only at a;obtain rfl:=oi a;exact Yh 3 [rz] [] (⟨[],[],[],[],[(3,[(18,cL 5 Zab.c Zab.d []),(19,cL 7 Zac.c Zac.d [])])],[],[]⟩) 4 ⟨[(100000,100000)],pvOf b⟩ (.c (Zbw _ _ _ b) .n)
def ZhK(e:Zan):Option (Tout (List Zab)):=(Zjg).bind fun f=>(Zeh e f false).bind fun g=>(match g with | .ret a b=>some (Tout.ret a.fBans b) | .pan c=>some (Tout.pan c) | .bad d=>some (Tout.bad d))
theorem Zeb(f:Zan)(r:(Tout (List Zab)))(a:ZhK f=some r):Zfs Tryz.prog 251 [(100000,.box (Zan.c f))] [.one (.ifc 112 (.ptr 100000 0))] (oc (fun x=>(Yl x)) r):=by
 refine Zfs.of Tryz.func251 rfl rfl rfl rfl fun S0 w0=>?_;unfold ZhK at a;obtain⟨g,h,a⟩:=Zaf a;obtain⟨i,b,a⟩:=Zaf a;cases i with
 |ret d e=>
  dsimp only at a;obtain rfl:=oi a;exact Yd 4 [rz,rH [(1,aG (Zay.c g)),(5,.id 463)] [(5,⟨[(100000,100000)],[],[(100000,.box (Zan.c e))],.agg (Zae.c d)⟩)]] [] ⟨[],[],[],[],[],[2],[100000],[]⟩ (.c (ZkT _ h) (.c ZpT (.c (ZbU _ _ _ _ b) (.c ZhV .n))))
 |_=>
  dsimp only at a;obtain rfl:=oi a;exact Yh 3 [rz] [] (rA [(1,aG (Zay.c g)),(5,.id 463)]) 5 ⟨[(100000,100000)],pvOf b⟩ (.c (ZkT _ h) (.c ZpT (.c (ZbU _ _ _ _ b) (.c ZhV .n))))
def Zmg(a:Zab):Option Bool:=(ZgW a.fNet).bind fun b=>bif b then bif(decide (a.fUntil>=(1:Int)))then some (decide (a.fUntil<=(1099511627776:Int)))else some false else some false
theorem ZqE(g:Zab)(r:Bool)(a:Zmg g=some r):ZaC Tryz.prog 345 [.agg (Zab.c g)] ((Yk r)):=by
 refine ZaC.of Tryz.func345 rfl rfl rfl rfl fun S0 w0=>?_;unfold Zmg at a;obtain⟨d,e,a⟩:=Zaf a;rcases Zai a with⟨b,a⟩|⟨b,a⟩
 ·rcases Zai a with⟨f,a⟩|⟨f,a⟩
  ·apply Ya a 4 [rz,⟨[(2,aB d)],[(3,true),(8,true)],[],[],[],[],[]⟩] [] (.c (ZcI _ _ e) (.c b (.c f .n)))
  ·apply Ya a 4 [rz,⟨[(2,aB d)],[(3,true),(8,false)],[],[],[],[],[]⟩] [] (.c (ZcI _ _ e) (.c b (.c f .n)))
 ·apply Ya a 4 [rz,⟨[(2,aB d)],[(3,false)],[],[],[],[],[]⟩] [] (.c (ZcI _ _ e) (.c b .n))
def ZcB(a:List Zab):Option (List Zab):=need (0<a.length)<|need ((([]:List Zab)++a).length * 40<=140737488355328/\(([]:List Zab)++a).length<=maxLen)<|some (([]:List Zab)++a)
theorem ZfZ(b r:List Zab)(a:ZcB b=some r):Zcu Tryz.prog 323 [] [(Yl b)] [(99999,.rows 146 5 r.length (Zam Zab.c Zab.d r))] (.one (.osl 99999 r.length)):=by
 refine Zcu.of Tryz.func323 rfl rfl rfl rfl fun S0 w0=>?_;unfold ZcB at a;obtain⟨o1,a⟩:=Zaq a;obtain⟨o2,a⟩:=Zaq a;apply Yc a 9 [rz,rz,rA [(0,.c ([]:List Zab).length (Zam Zab.c Zab.d ([]:List Zab))),(2,.c ((([]:List Zab)++b).length) (Zam Zab.c Zab.d (([]:List Zab)++b)))]] [false] ⟨[],[],[],[],[],[2],[7],[(7,99999)]⟩ (.c o1 (.c (show false=false from rfl) (.c (show ([]:List Zab).length=0 from rfl) (.c (show ∀i j,i<0->j<5->Zam Zab.c Zab.d ([]:List Zab) i j=(([]:List Zab).flatMap Zab.c).getD (i * 5+j) .junk from(fun i j hi hj=>ZaP (sz:=5) (e:=Zab.c) (d:=Zab.d) (fun _=>rfl) ([]:List Zab) i j hi hj)) (.c (Zcm (sz:=5) (e:=Zab.c) (d:=Zab.d) ([]:List Zab) b) (.c o2.1 (.c o2.2 .n)))))))
theorem Zgs(x:Addr)(cap:Nat)(c:Nat->Nat->C):Zcu Tryz.prog 323 [] [.one (.lit (.slice (some x) 0 cap))] [(99999,.rows 146 5 0 c)] (.one (.osl 99999 0)):=by
 refine Zcu.of Tryz.func323 rfl rfl rfl rfl fun S0 w0=>?_;exact Zjv Zak 9 _ _ [⟨[],[],[],[],[],[],[]⟩,⟨[(1,.r ((Yk false)) [])],[],[],[],[],[],[]⟩,⟨[(0,.c 0 c),(2,.c 0 c)],[],[],[],[],[],[]⟩] [false] ⟨[],[],[],[],[],[2],[7],[(7,99999)]⟩
  [∀w,(do eqGuard .eql 45 (.tmp 3) (.const (.slice none 0 0)) (.slice (some x) 0 cap) (.slice none 0 0);binOp .eql 45 (.slice (some x) 0 cap) (.slice none 0 0):Sem Value).run Tryz.prog w=.ok (.bool false) w,false=false,0=0,∀i j,i<0->j<5->c i j=([]:List C).getD (i * 5+j) .junk,Ext 5 0 0 c (fun _ _=>.junk) 0 c,0 * 40<=140737488355328,0<=maxLen] (by kernel_rfl) ⟨fun w=>by
   have hg:(eqGuard .eql 45 (.tmp 3) (.const (.slice none 0 0)) (.slice (some x) 0 cap) (.slice none 0 0)).run Tryz.prog w=.ok () w:=by simp[eqGuard]
   rw[Sem.run_bind,hg,Result.andThen_ok];exact Go.run_eql_slice_nil w _ _ (some x) 0 cap Tryz.underlying45,rfl,rfl,fun i j h=>absurd h (Nat.not_lt_zero i),⟨rfl,fun _ _ h=>absurd h (Nat.not_lt_zero _),fun _ _ h=>absurd h (Nat.not_lt_zero _)⟩,by decide,by decide,trivial⟩
theorem Zgr(cap:Nat)(c:Nat->Nat->C):Zcu Tryz.prog 323 [] [.one (.lit (.slice none 0 cap))] [(99999,.rows 146 5 0 c)] (.one (.osl 99999 0)):=by
 refine Zcu.of Tryz.func323 rfl rfl rfl rfl fun S0 w0=>?_;exact Zjv Zak 8 _ _ [⟨[],[],[],[],[],[],[]⟩,⟨[(1,.r ((Yk true)) [])],[],[],[],[],[],[]⟩,⟨[],[],[],[],[],[],[]⟩] [true] ⟨[],[],[],[],[(2,99999,146,5,c)],[2],[99999],[]⟩
  [∀w,(do eqGuard .eql 45 (.tmp 3) (.const (.slice none 0 0)) (.slice none 0 cap) (.slice none 0 0);binOp .eql 45 (.slice none 0 cap) (.slice none 0 0):Sem Value).run Tryz.prog w=.ok (.bool true) w,true=true] (by kernel_rfl) ⟨fun w=>by
   have hg:(eqGuard .eql 45 (.tmp 3) (.const (.slice none 0 0)) (.slice none 0 cap) (.slice none 0 0)).run Tryz.prog w=.ok () w:=by simp[eqGuard]
   rw[Sem.run_bind,hg,Result.andThen_ok];exact Go.run_eql_slice_nil w _ _ none 0 cap Tryz.underlying45,rfl,trivial⟩
def ZbD(a:List Zab):Option (List Zab):=need (a.length * 40<=140737488355328/\a.length<=maxLen)<|some a
theorem ZdJ(a r:List Zab)(b:ZbD a=some r):Zcu Tryz.prog 323 [] [(Yl a)] [(99999,.rows 146 5 r.length (Zam Zab.c Zab.d r))] (.one (.osl 99999 r.length)):=by
 obtain⟨o1,b⟩:=Zaq b;cases b;refine Zra ⟨_,Tryz.func323,rfl,rfl⟩ (fun h cap=>?_) (fun h x cap=>?_) (fun h=>?_)
 ·rw[h];exact Zgr cap _
 ·rw[h];exact Zgs x cap _
 ·refine ZfZ a a ?_;unfold ZcB;rw[ZpU h,ZpU (by simpa using o1)];simp
def Zly(a:Zab)(c0:Zao):Option Bool:=some (decide (a.fNet=c0))
theorem ZsM(a:Zab)(c0:Zao)(r:Bool)(b:Zly a c0=some r):ZaC Tryz.prog 364 [.agg (Zab.c a),.one (.rp false 4 (fun j=>(Zao.c c0:List C).getD (0+j) .junk))] ((Yk r)):=by
 refine ZaC.of Tryz.func364 rfl rfl rfl rfl fun S0 w0=>?_;unfold Zly at b;apply Ya b 4 [rz,rA [(3,aB (decide (a.fNet=c0)))]] [] (.c (ZlA a.fNet c0 (.tmp 5) (.tmp 6)) .n)
def ZaY(c:List Zab)(a:Zao):Nat->Int->Int->Option Int|0,_,_=>none|fu+1,e,b=>bif(decide (b<e))then need (0<=b/\b<((c.length:Nat):Int))<|(Zly (c.getD b.toNat Zab.d) a).bind fun f=>bif f then some b else ZaY c a fu e (Zar b 1)else some (-1:Int)
theorem ZhC(S0:Nat->Prop)(w0:Zba)(k:List Zab)(b:Zao):∀(f:Nat)(d e r:Int),ZaY k b f d e=some r->Good Tryz.prog 19 S0 w0 (bodyPost Tryz.prog Tryz.f347 (Post S0 w0 ((Yj r)))) (at_ [1,0,1,0] (ZaW Tryz.f347)) ⟨[(0,(Yl k)),(1,.one (.clo (.func 364) 0 1 (fun i=>([]:List C).getD i .junk) (fun i=>([.rp false 4 (fun j=>(Zao.c b:List C).getD (0+j) .junk)]:List C).getD i .junk))),(7,(Yj d)),(8,(Yj e))],[]⟩:=by
 intro f;induction f with
 |zero=>
  intro d e r a;simp[ZaY]at a
 |succ f m=>
  intro d e r a;unfold ZaY at a;rcases Zai a with⟨g,a⟩|⟨g,a⟩
  ·obtain⟨o2,a⟩:=Zaq a;obtain⟨l,o,a⟩:=Zaf a;have O1:Obl _:=(.c g (.c o2 (.c (ZsM _ _ _ o) .n)));rcases Zai a with⟨h,a⟩|⟨h,a⟩
   ·apply Ya a 15 [rz,rz,rA [(5,aB l)],rz] [true,true] (O1.app (.c h .n))
   ·exact Ye 17 [rz,rz,rA [(5,aB l)],rz] [true,false] (Yi [0,1,7,8]) (O1.app (.c h .n)) (m d (Zar e 1) r a)
  ·apply Ya a 8 [rz,rz] [false] (.c g .n)
def ZcJ(b:List Zab)(a:Zao):Option Int:=ZaY b a ((((b.length:Nat):Int)-(0:Int)).toNat+2) ((b.length:Nat):Int) (0:Int)
theorem Zip(b:List Zab)(a:Zao)(r:Int)(d:ZcJ b a=some r):ZaC Tryz.prog 347 [(Yl b),.one (.clo (.func 364) 0 1 (fun i=>([]:List C).getD i .junk) (fun i=>([.rp false 4 (fun j=>(Zao.c a:List C).getD (0+j) .junk)]:List C).getD i .junk))] ((Yj r)):=by
 refine ZaC.of Tryz.func347 rfl rfl rfl rfl fun S0 w0=>?_;unfold ZcJ at d;exact Ye 6 [rz,rz] [] (Yi [0,1,7,8]) .n (ZhC S0 w0 b a ((((b.length:Nat):Int)-(0:Int)).toNat+2) ((b.length:Nat):Int) (0:Int) r d)
def ZkD(a:List Zab)(b:Zao):Option Int:=(ZcJ a b).bind fun c=>some c
theorem Zno(b:List Zab)(d:Zao)(r:Int)(a:ZkD b d=some r):ZaC Tryz.prog 321 [(Yl b),.agg (Zao.c d)] ((Yj r)):=by
 refine ZaC.of Tryz.func321 rfl rfl rfl rfl fun S0 w0=>?_;unfold ZkD at a;obtain⟨e,f,a⟩:=Zaf a;apply Ya a 4 [rz,⟨[(2,aI e)],[],[(1,[3])],[],[],[],[]⟩] [] (.c (Zip _ _ _ f) .n)
def ZpY(a b:Zab):Option Zab:=bif(decide (a.fNet=b.fNet))then some (Zab.mk a.fNet (if b.fUntil>a.fUntil then b.fUntil else a.fUntil))else some a
theorem ZwM(b d r:Zab)(a:ZpY b d=some r):ZaC Tryz.prog 346 [.agg (Zab.c b),.agg (Zab.c d)] (.agg (Zab.c r)):=by
 refine ZaC.of Tryz.func346 rfl rfl rfl rfl fun S0 w0=>?_;unfold ZpY at a
 let R1:List RA:=[rz,rA [(4,aB (decide (b.fNet=d.fNet)))],rz]
 have O2:Obl _:=(.c (ZlA b.fNet d.fNet (.tmp 6) (.tmp 8)) .n);rcases Zai a with⟨e,a⟩|⟨e,a⟩
 ·apply Ya a 9 (R1++[rz]) [true] (O2.app (.c e .n))
 ·apply Ya a 9 R1 [false] (O2.app (.c e .n))
def ZiR(a:Zag):Option Int:=bif a.fV6 then some (1:Int)else some (0:Int)
theorem ZoN(d:Zag)(r:Int)(a:ZiR d=some r):ZaC Tryz.prog 374 [.agg (Zag.c d)] ((Yj r)):=by
 refine ZaC.of Tryz.func374 rfl rfl rfl rfl fun S0 w0=>?_;unfold ZiR at a;rcases Zai a with⟨b,a⟩|⟨b,a⟩
 ·apply Ya a 8 [rz,rz,rz] [true] (.c b .n)
 ·apply Ya a 9 [rz,rz,rz] [false] (.c b .n)
def ZiC(a:Int):Option Bool:=some (a != a)
theorem ZmW(a:Int)(r:Bool)(b:ZiC a=some r):ZaC Tryz.prog 376 [(Yj a)] ((Yk r)):=by
 refine ZaC.of Tryz.func376 rfl rfl rfl rfl fun S0 w0=>?_;unfold ZiC at b;apply Ya b 4 [rz,rz] [] .n
def ZeZ(a b:Int):Option Int:=(ZiC a).bind fun d=>(ZiC b).bind fun c=>bif d then bif c then some (0:Int)else some (-1:Int)else bif c then some (1:Int)else bif(decide (a<b))then some (-1:Int)else bif(decide (a>b))then some (1:Int)else some (0:Int)
theorem ZiY(h i r:Int)(a:ZeZ h i=some r):ZaC Tryz.prog 338 [(Yj h),(Yj i)] ((Yj r)):=by
 refine ZaC.of Tryz.func338 rfl rfl rfl rfl fun S0 w0=>?_;unfold ZeZ at a;obtain⟨j,k,a⟩:=Zaf a;obtain⟨l,m,a⟩:=Zaf a
 let R1:List RA:=[rz,rA [(1,aB j)],rA [(1,aB l)],rz,rz,rz]
 have O2:Obl _:=(.c (ZmW _ _ k) (.c (ZmW _ _ m) .n));rcases Zai a with⟨b,a⟩|⟨b,a⟩
 ·rcases Zai a with⟨f,a⟩|⟨f,a⟩
  ·apply Ya a 16 R1 [true,true] (O2.app (.c b (.c f .n)))
  ·apply Ya a 17 R1 [true,false] (O2.app (.c b (.c f .n)))
 ·rcases Zai a with⟨d,a⟩|⟨d,a⟩
  ·apply Ya a 17 R1 [false,true] (O2.app (.c b (.c d .n)))
  ·rcases Zai a with⟨e,a⟩|⟨e,a⟩
   ·apply Ya a 22 (R1++[rz]) [false,false,true] (O2.app (.c b (.c d (.c e .n))))
   ·rcases Zai a with⟨g,a⟩|⟨g,a⟩
    ·apply Ya a 27 (R1++[rz,rz]) [false,false,false,true] (O2.app (.c b (.c d (.c e (.c g .n)))))
    ·apply Ya a 28 (R1++[rz,rz]) [false,false,false,false] (O2.app (.c b (.c d (.c e (.c g .n)))))
def ZgU(a:Int):Option Bool:=some (a != a)
theorem ZkZ(a:Int)(r:Bool)(b:ZgU a=some r):ZaC Tryz.prog 398 [.one (.lit (.int .u64 a))] ((Yk r)):=by
 refine ZaC.of Tryz.func398 rfl rfl rfl rfl fun S0 w0=>?_;unfold ZgU at b;apply Ya b 4 [rz,rz] [] .n
def ZeE(a b:Int):Option Int:=(ZgU a).bind fun d=>(ZgU b).bind fun c=>bif d then bif c then some (0:Int)else some (-1:Int)else bif c then some (1:Int)else bif(decide (a<b))then some (-1:Int)else bif(decide (a>b))then some (1:Int)else some (0:Int)
theorem Zkb(h i r:Int)(a:ZeE h i=some r):ZaC Tryz.prog 375 [.one (.lit (.int .u64 h)),.one (.lit (.int .u64 i))] ((Yj r)):=by
 refine ZaC.of Tryz.func375 rfl rfl rfl rfl fun S0 w0=>?_;unfold ZeE at a;obtain⟨j,k,a⟩:=Zaf a;obtain⟨l,m,a⟩:=Zaf a
 let R1:List RA:=[rz,rA [(1,aB j)],rA [(1,aB l)],rz,rz,rz]
 have O2:Obl _:=(.c (ZkZ _ _ k) (.c (ZkZ _ _ m) .n));rcases Zai a with⟨b,a⟩|⟨b,a⟩
 ·rcases Zai a with⟨f,a⟩|⟨f,a⟩
  ·apply Ya a 16 R1 [true,true] (O2.app (.c b (.c f .n)))
  ·apply Ya a 17 R1 [true,false] (O2.app (.c b (.c f .n)))
 ·rcases Zai a with⟨d,a⟩|⟨d,a⟩
  ·apply Ya a 17 R1 [false,true] (O2.app (.c b (.c d .n)))
  ·rcases Zai a with⟨e,a⟩|⟨e,a⟩
   ·apply Ya a 22 (R1++[rz]) [false,false,true] (O2.app (.c b (.c d (.c e .n))))
   ·rcases Zai a with⟨g,a⟩|⟨g,a⟩
    ·apply Ya a 27 (R1++[rz,rz]) [false,false,false,true] (O2.app (.c b (.c d (.c e (.c g .n)))))
    ·apply Ya a 28 (R1++[rz,rz]) [false,false,false,false] (O2.app (.c b (.c d (.c e (.c g .n)))))
def Zgo:Nat->Int->(List Int)->Int->Int->Option Int|0,_,_,_,_=>none|fu+1,c,b,d,a=>bif(decide (a<d))then need (0<=a/\a<((b.length:Nat):Int))<|bif((b.getD a.toNat (0:Int)) != c)then some (b.getD a.toNat (0:Int))else Zgo fu c b d (Zar a 1)else some c
theorem Zrz(S0:Nat->Prop)(w0:Zba):∀(g:Nat)(b:Int)(d:List Int)(e f r:Int),Zgo g b d e f=some r->Good Tryz.prog 18 S0 w0 (bodyPost Tryz.prog Tryz.f336 (Post S0 w0 ((Yj r)))) (at_ [1,1,0,1,0] (ZaW Tryz.f336)) ⟨[(3,(Yj b)),(6,.one (cL 1 (cI .i64) (0:Int) d)),(7,(Yj e)),(8,(Yj f))],[]⟩:=by
 intro g;induction g with
 |zero=>
  intro b d e f r a;simp[Zgo]at a
 |succ g j=>
  intro b d e f r a;unfold Zgo at a;rcases Zai a with⟨h,a⟩|⟨h,a⟩
  ·obtain⟨o2,a⟩:=Zaq a;rcases Zai a with⟨i,a⟩|⟨i,a⟩
   ·apply Ya a 15 [rz,rz,rz,rz] [true,true] (.c h (.c o2 (.c i .n)))
   ·exact Ye 17 [rz,rz,rz,rz] [true,false] (Yi [3,6,7,8]) (.c h (.c o2 (.c i .n))) (j b d e (Zar f 1) r a)
  ·apply Ya a 8 [rz,rz] [false] (.c h .n)
def ZgV(a:List Int):Option Int:=Zgo ((((a.length:Nat):Int)-(0:Int)).toNat+2) (0:Int) a ((a.length:Nat):Int) (0:Int)
theorem Zmd(a:List Int)(r:Int)(b:ZgV a=some r):ZaC Tryz.prog 336 [.one (cL 1 (cI .i64) (0:Int) a)] ((Yj r)):=by
 refine ZaC.of Tryz.func336 rfl rfl rfl rfl fun S0 w0=>?_;unfold ZgV at b;exact Ye 8 [rz,rz,rz] [] (Yi [3,6,7,8]) .n (Zrz S0 w0 ((((a.length:Nat):Int)-(0:Int)).toNat+2) (0:Int) a ((a.length:Nat):Int) (0:Int) r b)
def Zij(a b:Zag):Option Int:=(ZiR a).bind fun c=>(ZiR b).bind fun d=>(ZeZ c d).bind fun e=>(ZeE a.fHi b.fHi).bind fun f=>(ZeE a.fLo b.fLo).bind fun g=>(ZgV ([e,f,g]:List Int)).bind fun h=>some h
theorem ZnS(h k:Zag)(r:Int)(a:Zij h k=some r):ZaC Tryz.prog 337 [.agg (Zag.c h),.agg (Zag.c k)] ((Yj r)):=by
 refine ZaC.of Tryz.func337 rfl rfl rfl rfl fun S0 w0=>?_;unfold Zij at a;obtain⟨l,m,a⟩:=Zaf a;obtain⟨o,p,a⟩:=Zaf a;obtain⟨b,q,a⟩:=Zaf a;obtain⟨f,s,a⟩:=Zaf a;obtain⟨g,t,a⟩:=Zaf a;obtain⟨u,v,a⟩:=Zaf a;apply Ya a 4 [rz,⟨[(1,aI l),(3,aI o),(4,aI b),(9,aI f),(14,aI g),(16,aI u)],[],[],[],[],[(15,(([b,f,g]:List Int).length,Zam (cI .i64) (0:Int) ([b,f,g]:List Int)))],[]⟩] [] (.c (ZoN _ _ m) (.c (ZoN _ _ p) (.c (ZiY _ _ _ q) (.c (Zkb _ _ _ s) (.c (Zkb _ _ _ t) (.c (show ([b,f,g]:List Int).length=3/\∀i j,i<3->j<1->Zam (cI .i64) (0:Int) ([b,f,g]:List Int) i j=(([b,f,g]:List Int).flatMap (cI .i64)).getD (i * 1+j) .junk from⟨rfl,fun i j hi hj=>ZaP (sz:=1) (e:=(cI .i64)) (d:=(0:Int)) (fun _=>rfl) ([b,f,g]:List Int) i j hi hj⟩) (.c (Zmd _ _ v) .n)))))))
def famA(a:Zag):Int:=if a.fV6 then 1 else 0
def cmpA(a b:Zag):Int:=orI (cmpI (famA a) (famA b)) (orI (cmpI a.fHi b.fHi) (cmpI a.fLo b.fLo))
theorem ZzU(a b:Int):ZeZ a b=some (cmpI a b):=by
 simp only[ZeZ,ZiC,cmpI,bne_self_eq_false,Option.bind_some,cond_false];by_cases c:a<b<;>by_cases d:a>b<;>simp[c,d]<;>omega
theorem ZHH(a b:Int):ZeE a b=some (cmpI a b):=by
 simp only[ZeE,ZgU,cmpI,bne_self_eq_false,Option.bind_some,cond_false];by_cases c:a<b<;>by_cases d:a>b<;>simp[c,d]<;>omega
theorem or2(a b:Int):ZgV [a,b]=some (orI a b):=by
 unfold ZgV orI;simp only[List.length_cons,List.length_nil];rw[show (((0+1+1:Nat):Int)-0).toNat+2=4 from rfl];simp only[Zgo,show Zar 0 1=1 from rfl,show Zar 1 1=2 from rfl];simp only[Bool.cond_eq_ite,bne_iff_ne,ne_eq,ite_not,need];by_cases c:a=0<;>by_cases d:b=0<;>simp[c,d]
theorem or3(a b c:Int):ZgV [a,b,c]=some (orI a (orI b c)):=by
 unfold ZgV orI;simp only[List.length_cons,List.length_nil];rw[show (((0+1+1+1:Nat):Int)-0).toNat+2=5 from rfl];simp only[Zgo,show Zar 0 1=1 from rfl,show Zar 1 1=2 from rfl,show Zar 2 1=3 from rfl];simp only[Bool.cond_eq_ite,bne_iff_ne,ne_eq,ite_not,need];by_cases d:a=0<;>by_cases e:b=0<;>by_cases f:c=0<;>simp[d,e,f]
theorem ZBf(a b:Zag):Zij a b=some (cmpA a b):=by
 have d:∀c,ZiR c=some (famA c):=fun c=>by unfold ZiR famA;cases c.fV6<;>rfl
 simp only[Zij,d,ZzU,ZHH,or3,Option.bind_some,cmpA]
theorem ZDj{a b:Int}:orI a b<0↔a<0\/(a=0/\b<0):=by unfold orI;constructor<;>intro h<;>(repeat' split at *)<;>omega
theorem ZGB{a b:Int}:0<orI a b↔0<a\/(a=0/\0<b):=by unfold orI;constructor<;>intro h<;>(repeat' split at *)<;>omega
theorem ZAx{a b:Int}:orI a b=0↔a=0/\b=0:=by unfold orI;constructor<;>intro h<;>(repeat' split at *)<;>omega
theorem ZHz{a b:Zag}:famA a=famA b↔a.fV6=b.fV6:=by unfold famA;cases a.fV6<;>cases b.fV6<;>simp
theorem ZEo{a b:Zag}:cmpA a b<0↔famA a<famA b\/(famA a=famA b/\(a.fHi<b.fHi\/(a.fHi=b.fHi/\a.fLo<b.fLo))):=by simp only[cmpA,ZDj,ZzV,ZrP]
theorem ZHK{a b:Zag}:0<cmpA a b↔famA b<famA a\/(famA a=famA b/\(b.fHi<a.fHi\/(a.fHi=b.fHi/\b.fLo<a.fLo))):=by simp only[cmpA,ZGB,ZEl,ZrP]
theorem ZrR{a b:Zag}:cmpA a b=0↔a=b:=by
 simp only[cmpA,ZAx,ZrP,ZHz];obtain⟨v,hi,lo⟩:=a;obtain⟨v',cQ,lW⟩:=b;simp
theorem ZvO{a b c:Zag}(d:cmpA a b<0)(e:cmpA b c<0):cmpA a c<0:=by
 rw[ZEo]at *
 omega
theorem ZEn{a b:Zag}:0<cmpA a b↔cmpA b a<0:=by
 rw[ZHK,ZEo];constructor<;>intro h<;>omega
def Zjm(a b:Zao):Option Int:=(Zij a.fAddr b.fAddr).bind fun c=>(ZeZ a.fBits b.fBits).bind fun d=>(ZgV ([c,d]:List Int)).bind fun e=>some e
theorem Zsm(g h:Zao)(r:Int)(a:Zjm g h=some r):ZaC Tryz.prog 349 [.agg (Zao.c g),.agg (Zao.c h)] ((Yj r)):=by
 refine ZaC.of Tryz.func349 rfl rfl rfl rfl fun S0 w0=>?_;unfold Zjm at a;obtain⟨b,k,a⟩:=Zaf a;obtain⟨f,l,a⟩:=Zaf a;obtain⟨m,o,a⟩:=Zaf a;apply Ya a 4 [rz,⟨[(4,aI b),(9,aI f),(11,aI m)],[],[],[],[],[(10,(([b,f]:List Int).length,Zam (cI .i64) (0:Int) ([b,f]:List Int)))],[]⟩] [] (.c (ZnS _ _ _ k) (.c (ZiY _ _ _ l) (.c (show ([b,f]:List Int).length=2/\∀i j,i<2->j<1->Zam (cI .i64) (0:Int) ([b,f]:List Int) i j=(([b,f]:List Int).flatMap (cI .i64)).getD (i * 1+j) .junk from⟨rfl,fun i j hi hj=>ZaP (sz:=1) (e:=(cI .i64)) (d:=(0:Int)) (fun _=>rfl) ([b,f]:List Int) i j hi hj⟩) (.c (Zmd _ _ o) .n))))
def cmpN(a b:Zao):Int:=orI (cmpA a.fAddr b.fAddr) (cmpI a.fBits b.fBits)
theorem ZFV(a b:Zao):Zjm a b=some (cmpN a b):=by
 simp only[Zjm,ZBf,ZzU,or2,Option.bind_some,cmpN]
theorem ZHI{a b:Zao}:cmpN a b<0↔cmpA a.fAddr b.fAddr<0\/(a.fAddr=b.fAddr/\a.fBits<b.fBits):=by simp only[cmpN,ZDj,ZzV,ZrR]
theorem ZCj{a b c:Zao}(d:cmpN a b<0)(e:cmpN b c<0):cmpN a c<0:=by
 rw[ZHI]at *
 rcases d with d|⟨d,f⟩<;>rcases e with e|⟨e,g⟩
 ·exact .inl (ZvO d e)
 ·exact .inl (e ▸ d)
 ·exact .inl (d ▸ e)
 ·exact .inr ⟨d.trans e,by omega⟩
end Go.Proofs.YtdjfoojllbfcgaaGreat
