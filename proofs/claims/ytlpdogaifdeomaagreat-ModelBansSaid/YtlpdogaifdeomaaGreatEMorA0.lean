import Derived.Test.YtlpdogaifdeomaaGreatEMorT
namespace Go.Proofs.YtlpdogaifdeomaaGreat
open Go.RowKit Go.Lib Go.Shelf
set_option linter.unusedVariables false
set_option maxRecDepth 100000
variable {z:Zw}
theorem ZqF : (Tryz.prog.fieldsOf 37).toList = [{ name := "V6", type := 4, offset := 0, embedded := false, tag := "", pkgPath := "", byteOffset := 0 }, { name := "Hi", type := 22, offset := 1, embedded := false, tag := "", pkgPath := "", byteOffset := 8 }, { name := "Lo", type := 22, offset := 2, embedded := false, tag := "", pkgPath := "", byteOffset := 16 }] := by kernel_rfl
theorem ZmR(d:Nat)(x y:Zaf)(w:World):(Op.equalIn (d+2) 37 (.agg #[.bool x.fV6,.int .u64 x.fHi,.int .u64 x.fLo]) (.agg #[.bool y.fV6,.int .u64 y.fHi,.int .u64 y.fLo])).run Tryz.prog w=.ok (decide (x=y)) w:=by rw[run_equalIn_struct w (d+1) _ _ _ (by kernel_rfl) (by kernel_rfl)];simp only[ZqF,Op.eqFields];simp[go_sem];cases x;cases y;simp only[Zaf.mk.injEq];(repeat' split)<;>simp_all
theorem Znw(x y:Zaf)(xo yo:Operand):∀w,(do eqGuard .eql 37 xo yo (.agg #[.bool x.fV6,.int .u64 x.fHi,.int .u64 x.fLo]) (.agg #[.bool y.fV6,.int .u64 y.fHi,.int .u64 y.fLo]);binOp .eql 37 (.agg #[.bool x.fV6,.int .u64 x.fHi,.int .u64 x.fLo]) (.agg #[.bool y.fV6,.int .u64 y.fHi,.int .u64 y.fLo]):Sem Value).run Tryz.prog w=.ok (.bool (decide (x=y))) w:=by
 intro w;have hg:(eqGuard .eql 37 xo yo (.agg #[.bool x.fV6,.int .u64 x.fHi,.int .u64 x.fLo]) (.agg #[.bool y.fV6,.int .u64 y.fHi,.int .u64 y.fLo])).run Tryz.prog w=.ok () w:=by simp[eqGuard,Sem.run_bind,Tryz.eqGuardType37]
 rw[Sem.run_bind,hg,Result.andThen_ok,run_eql_struct];exact congrArg (fun r:Result Bool=>r.andThen fun b w'=>Result.ok (Value.bool b) w') (ZmR 9998 x y w)
theorem ZrM : (Tryz.prog.fieldsOf 39).toList = [{ name := "Addr", type := 37, offset := 0, embedded := false, tag := "", pkgPath := "", byteOffset := 0 }, { name := "Port", type := 3, offset := 3, embedded := false, tag := "", pkgPath := "", byteOffset := 24 }] := by kernel_rfl
theorem Zvw(d:Nat)(x y:Zah)(w:World):(Op.equalIn (d+4) 39 (.agg #[.bool x.fAddr.fV6,.int .u64 x.fAddr.fHi,.int .u64 x.fAddr.fLo,.int .i64 x.fPort]) (.agg #[.bool y.fAddr.fV6,.int .u64 y.fAddr.fHi,.int .u64 y.fAddr.fLo,.int .i64 y.fPort])).run Tryz.prog w=.ok (decide (x=y)) w:=by rw[run_equalIn_struct w (d+3) _ _ _ (by kernel_rfl) (by kernel_rfl)];simp only[ZrM,Op.eqFields];simp[go_sem,ZmR];cases x;cases y;simp only[Zah.mk.injEq];(repeat' split)<;>simp_all
theorem Zmm(x y:Zah)(xo yo:Operand):∀w,(do eqGuard .eql 39 xo yo (.agg #[.bool x.fAddr.fV6,.int .u64 x.fAddr.fHi,.int .u64 x.fAddr.fLo,.int .i64 x.fPort]) (.agg #[.bool y.fAddr.fV6,.int .u64 y.fAddr.fHi,.int .u64 y.fAddr.fLo,.int .i64 y.fPort]);binOp .eql 39 (.agg #[.bool x.fAddr.fV6,.int .u64 x.fAddr.fHi,.int .u64 x.fAddr.fLo,.int .i64 x.fPort]) (.agg #[.bool y.fAddr.fV6,.int .u64 y.fAddr.fHi,.int .u64 y.fAddr.fLo,.int .i64 y.fPort]):Sem Value).run Tryz.prog w=.ok (.bool (decide (x=y))) w:=by
 intro w;have hg:(eqGuard .eql 39 xo yo (.agg #[.bool x.fAddr.fV6,.int .u64 x.fAddr.fHi,.int .u64 x.fAddr.fLo,.int .i64 x.fPort]) (.agg #[.bool y.fAddr.fV6,.int .u64 y.fAddr.fHi,.int .u64 y.fAddr.fLo,.int .i64 y.fPort])).run Tryz.prog w=.ok () w:=by simp[eqGuard,Sem.run_bind,Tryz.eqGuardType39]
 rw[Sem.run_bind,hg,Result.andThen_ok,run_eql_struct];exact congrArg (fun r:Result Bool=>r.andThen fun b w'=>Result.ok (Value.bool b) w') (Zvw 9996 x y w)
theorem ZrL : (Tryz.prog.fieldsOf 45).toList = [{ name := "Addr", type := 37, offset := 0, embedded := false, tag := "", pkgPath := "", byteOffset := 0 }, { name := "Bits", type := 3, offset := 3, embedded := false, tag := "", pkgPath := "", byteOffset := 24 }] := by kernel_rfl
theorem Znx(d:Nat)(x y:Zae)(w:World):(Op.equalIn (d+4) 45 (.agg #[.bool x.fAddr.fV6,.int .u64 x.fAddr.fHi,.int .u64 x.fAddr.fLo,.int .i64 x.fBits]) (.agg #[.bool y.fAddr.fV6,.int .u64 y.fAddr.fHi,.int .u64 y.fAddr.fLo,.int .i64 y.fBits])).run Tryz.prog w=.ok (decide (x=y)) w:=by rw[run_equalIn_struct w (d+3) _ _ _ (by kernel_rfl) (by kernel_rfl)];simp only[ZrL,Op.eqFields];simp[go_sem,ZmR];cases x;cases y;simp only[Zae.mk.injEq];(repeat' split)<;>simp_all
theorem Zjr(x y:Zae)(xo yo:Operand):∀w,(do eqGuard .eql 45 xo yo (.agg #[.bool x.fAddr.fV6,.int .u64 x.fAddr.fHi,.int .u64 x.fAddr.fLo,.int .i64 x.fBits]) (.agg #[.bool y.fAddr.fV6,.int .u64 y.fAddr.fHi,.int .u64 y.fAddr.fLo,.int .i64 y.fBits]);binOp .eql 45 (.agg #[.bool x.fAddr.fV6,.int .u64 x.fAddr.fHi,.int .u64 x.fAddr.fLo,.int .i64 x.fBits]) (.agg #[.bool y.fAddr.fV6,.int .u64 y.fAddr.fHi,.int .u64 y.fAddr.fLo,.int .i64 y.fBits]):Sem Value).run Tryz.prog w=.ok (.bool (decide (x=y))) w:=by
 intro w;have hg:(eqGuard .eql 45 xo yo (.agg #[.bool x.fAddr.fV6,.int .u64 x.fAddr.fHi,.int .u64 x.fAddr.fLo,.int .i64 x.fBits]) (.agg #[.bool y.fAddr.fV6,.int .u64 y.fAddr.fHi,.int .u64 y.fAddr.fLo,.int .i64 y.fBits])).run Tryz.prog w=.ok () w:=by simp[eqGuard,Sem.run_bind,Tryz.eqGuardType45]
 rw[Sem.run_bind,hg,Result.andThen_ok,run_eql_struct];exact congrArg (fun r:Result Bool=>r.andThen fun b w'=>Result.ok (Value.bool b) w') (Znx 9996 x y w)
theorem Zrh(x y:Zae)(xo yo:Operand):∀w,(do eqGuard .neq 45 xo yo (.agg #[.bool x.fAddr.fV6,.int .u64 x.fAddr.fHi,.int .u64 x.fAddr.fLo,.int .i64 x.fBits]) (.agg #[.bool y.fAddr.fV6,.int .u64 y.fAddr.fHi,.int .u64 y.fAddr.fLo,.int .i64 y.fBits]);binOp .neq 45 (.agg #[.bool x.fAddr.fV6,.int .u64 x.fAddr.fHi,.int .u64 x.fAddr.fLo,.int .i64 x.fBits]) (.agg #[.bool y.fAddr.fV6,.int .u64 y.fAddr.fHi,.int .u64 y.fAddr.fLo,.int .i64 y.fBits]):Sem Value).run Tryz.prog w=.ok (.bool (!decide (x=y))) w:=by
 intro w;have hg:(eqGuard .neq 45 xo yo (.agg #[.bool x.fAddr.fV6,.int .u64 x.fAddr.fHi,.int .u64 x.fAddr.fLo,.int .i64 x.fBits]) (.agg #[.bool y.fAddr.fV6,.int .u64 y.fAddr.fHi,.int .u64 y.fAddr.fLo,.int .i64 y.fBits])).run Tryz.prog w=.ok () w:=by simp[eqGuard,Sem.run_bind,Tryz.eqGuardType45]
 rw[Sem.run_bind,hg,Result.andThen_ok,run_neq_struct];exact congrArg (fun r:Result Bool=>r.andThen fun b w'=>Result.ok (Value.bool (!b)) w') (Znx 9996 x y w)
theorem Zif(a b:Zae)(h:(fun k:Zae=>(.agg #[.bool k.fAddr.fV6,.int .u64 k.fAddr.fHi,.int .u64 k.fAddr.fLo,.int .i64 k.fBits]:Value)) a=(fun k:Zae=>(.agg #[.bool k.fAddr.fV6,.int .u64 k.fAddr.fHi,.int .u64 k.fAddr.fLo,.int .i64 k.fBits]:Value)) b):a=b:=by
 obtain⟨⟨d,e,f⟩,g⟩:=a;obtain⟨⟨y5,y6,y7⟩,y8⟩:=b;simp only[Value.agg.injEq]at h;have:=congrArg Array.toList h;simp at this;simp_all
theorem ZsU(e:Bool)(n:Nat)(k:Zae)(w:World):(Instr.checkKey e (n+5) 45 (.agg #[.bool k.fAddr.fV6,.int .u64 k.fAddr.fHi,.int .u64 k.fAddr.fLo,.int .i64 k.fBits])).run Tryz.prog w=.ok () w:=by kernel_rfl
theorem ZkF{ν:Type}{vv:ν->V}(k:Zae)(l:List (Zae×ν)):ZmV Tryz.prog 45 (.agg #[.bool k.fAddr.fV6,.int .u64 k.fAddr.fHi,.int .u64 k.fAddr.fLo,.int .i64 k.fBits]) ((encM (fun k=>.agg #[.bool k.fAddr.fV6,.int .u64 k.fAddr.fHi,.int .u64 k.fAddr.fLo,.int .i64 k.fBits]) vv l).map (·.1)):=
 ZyR (kv:=fun k:Zae=>.agg #[.bool k.fAddr.fV6,.int .u64 k.fAddr.fHi,.int .u64 k.fAddr.fLo,.int .i64 k.fBits]) Tryz.underlying45 (fun a=>⟨_,rfl⟩) 5 (by decide) ZsU (fun n a b w=>by have:=Znx (n+1) a b w;simpa[Nat.add_assoc]using this) Zif (fun k=>by simp[Instr.sameBits]) k l
def Zbo(b d e:Int):Option Bool:=bif(decide (b>=d))then some (decide (b<=e))else some false
instance ZBi{b d e}:Con (Zbo b d e) (eS 17 [Yj b,Yj d,Yj e] Yk):=kS Tryz.func17 (kB kR0 kR0)
def Zdt(d:Bool)(b:Zar)(e:Bool):Option Bool:=(Zbo b.fHalf (1:Int) (1073741824:Int)).bind fun f=>bif f then(Zbo b.fLimit (1:Int) (10000:Int)).bind fun g=>bif g then(Zbo b.fBanFor (1:Int) (1073741824:Int)).bind fun h=>bif h then(Zbo b.fBase (1:Int) (1073741824:Int)).bind fun i=>bif i then(Zbo b.fCap b.fBase (1073741824:Int)).bind fun j=>bif j then(Zbo b.fJitter (0:Int) (1073741824:Int)).bind fun n=>bif d then bif e then bif n then some (decide (b.fSecret<=(9223372036854775807:Int)))else some false else some false else some false else bif d then bif e then some false else some false else some false else bif d then bif e then some false else some false else some false else bif d then bif e then some false else some false else some false else bif d then bif e then some false else some false else some false else bif d then bif e then some false else some false else some false
theorem Zew{d b}{e}:LS z Tryz.f5 [1,1,1] (Zdt d b e) Yk ⟨[(1,.one (.ptr 1 0)),(3,(Yk d)),(4,(Yk e))],[(1,.box (Zar.c b))]⟩:=kC fun _=>kB (kC fun _=>kB (kC fun _=>kB (kC fun _=>kB (kC fun _=>kB (kC fun _=>kB (kB (kB kR0 kR0) (kK false<|kR0)) (kK false<|kK false<|kR0)) (kB (kB (kK false<|kR0) (kK false<|kR0)) (kK false<|kK false<|kR0))) (kK false<|kB (kB (kK false<|kR0) (kK false<|kR0)) (kK false<|kK false<|kR0))) (kK false<|kK false<|kB (kB (kK false<|kR0) (kK false<|kR0)) (kK false<|kK false<|kR0))) (kK false<|kK false<|kK false<|kB (kB (kK false<|kR0) (kK false<|kR0)) (kK false<|kK false<|kR0))) (kK false<|kK false<|kK false<|kK false<|kB (kB (kK false<|kR0) (kK false<|kR0)) (kK false<|kK false<|kR0))
def ZcQ(d:Bool)(b:Zar):Option Bool:=(Zbo b.fQuota.fGroup (0:Int) (64:Int)).bind fun e=>bif e then(Zbo b.fQuota.fPing (0:Int) (64:Int)).bind fun f=>bif f then(Zbo b.fQuota.fWork (0:Int) (64:Int)).bind fun g=>bif g then(Zbo b.fQuota.fTime (0:Int) (64:Int)).bind fun h=>Zdt d b h else Zdt d b false else Zdt d b false else Zdt d b false
theorem Zdz{d b}:LS z Tryz.f5 [1,1] (ZcQ d b) Yk ⟨[(1,.one (.ptr 1 0)),(3,(Yk d))],[(1,.box (Zar.c b))]⟩:=kC fun _=>kB (kC fun _=>kB (kC fun _=>kB (kC fun _=>kL 2 Zew) (kL 2 Zew)) (kK false<|kL 2 Zew)) (kK false<|kK false<|kL 2 Zew)
def Zhf(b:Zar):Option Bool:=(Zbo b.fMaxIn (0:Int) (65535:Int)).bind fun d=>bif d then(Zbo b.fMaxOut (0:Int) (65535:Int)).bind fun e=>bif e then(Zbo b.fShards (1:Int) (8:Int)).bind fun f=>bif f then(Zbo b.fMaxBans (0:Int) (1024:Int)).bind fun g=>bif g then(Zbo b.fMaxBook (0:Int) (1024:Int)).bind fun h=>ZcQ h b else ZcQ false b else ZcQ false b else ZcQ false b else ZcQ false b
instance ZxL{b}:Con (Zhf b) (eS 5 [.agg (Zar.c b)] Yk):=kS Tryz.func5 (kC fun _=>kB (kC fun _=>kB (kC fun _=>kB (kC fun _=>kB (kC fun _=>kL 4 Zdz) (kL 4 Zdz)) (kK false<|kL 4 Zdz)) (kK false<|kK false<|kL 4 Zdz)) (kK false<|kK false<|kK false<|kL 4 Zdz))
def Zbw(b:Zaf):Option Bool:=bif(!b.fV6)then bif(b.fHi==(0:Int))then some (decide (b.fLo<(4294967296:Int)))else some false else bif(b.fHi != (0:Int))then some true else some ((IntKind.wrap .u64 (Int.tdiv b.fLo (4294967296:Int))) != (65535:Int))
instance ZxP{b}:Con (Zbw b) (eS 43 [.agg (Zaf.c b)] Yk):=kS Tryz.func43 (kB (kB kR0 kR0) (kB kR0 (kH (show (4294967296:Int)≠0 from(by decide))<|kR0)))
def ZbU(b:Zaf):Option Int:=bif b.fV6 then some (128:Int)else some (32:Int)
instance Zzb{b}:Con (ZbU b) (eS 104 [.agg (Zaf.c b)] Yj):=kS Tryz.func104 (kB kR0 kR0)
def ZcL(b d:Int)(e:Zaf):Option Int:=bif(!e.fV6)then need (0<=(IntKind.wrap .u64 (Zaz (31:Int) b)))<|some (IntKind.wrap .i64 (IntKind.wrap .u64 (((BitVec.ofInt (IntKind.bits .u64) (Int.fdiv d (2 ^ (min (IntKind.wrap .u64 (Zaz (31:Int) b)).toNat (IntKind.bits .u64))))) &&& (BitVec.ofInt (IntKind.bits .u64) (1:Int))).toNat:Int)))else need (0<=(IntKind.wrap .u64 (Zaz (63:Int) (Int.tmod b (64:Int)))))<|some (IntKind.wrap .i64 (IntKind.wrap .u64 (((BitVec.ofInt (IntKind.bits .u64) (Int.fdiv d (2 ^ (min (IntKind.wrap .u64 (Zaz (63:Int) (Int.tmod b (64:Int)))).toNat (IntKind.bits .u64))))) &&& (BitVec.ofInt (IntKind.bits .u64) (1:Int))).toNat:Int)))
theorem Zhr{d}{e b}:LS z Tryz.f44 [1,1,1,1] (ZcL d e b) Yj ⟨[(1,(Yj d)),(2,.one (.ptr 2 0)),(5,.one (.lit (.int .u64 e)))],[(2,.box (Zaf.c b))]⟩:=kH (show (64:Int)≠0 from(by decide))<|kB (kN<|kR0) (kN<|kR0)
def Zbx(b:Zaf)(d:Int):Option Int:=bif(decide (d<(0:Int)))then some (0:Int)else(ZbU b).bind fun e=>bif(decide (d>=e))then some (0:Int)else bif b.fV6 then bif(decide (d<(64:Int)))then ZcL d b.fHi b else ZcL d b.fLo b else ZcL d b.fLo b
instance ZAk{b d}:Con (Zbx b d) (eS 44 [.agg (Zaf.c b),Yj d] Yj):=kS Tryz.func44 (kB (kK true<|kR0) (kC fun _=>kB kR0 (kB (kB (kL 14 Zhr) (kL 14 Zhr)) (kK false<|kL 14 Zhr))))
def Zel:Nat->Int->Zae->Option Bool|0,_,_=>none|fu+1,b,d=>(ZbU d.fAddr).bind fun e=>bif(decide (b<e))then(Zbx d.fAddr b).bind fun f=>bif(f==(1:Int))then some false else Zel fu (Zan b 1) d else some true
theorem ZmY:∀{d e b},LS z Tryz.f42 [1,1,0,1,0] (Zel d e b) Yk ⟨[(1,.one (.ptr 1 0)),(3,(Yj e))],[(1,.box (Zae.c b))]⟩:=by
 intro d;induction d with
 |zero=>exact kZ
 |succ d f=>exact kC fun _=>kB (kC fun _=>kB kR0 (kL 15 f)) kR0
def Zer(b:Zae):Option Bool:=(Zbw b.fAddr).bind fun d=>bif(!d)then some false else bif(decide (b.fBits<(0:Int)))then some false else(ZbU b.fAddr).bind fun e=>bif(decide (b.fBits>e))then some false else Zel 1000000 b.fBits b
instance ZxO{b}:Con (Zer b) (eS 42 [.agg (Zae.c b)] Yk):=kS Tryz.func42 (kC fun _=>kB (kK true<|kK true<|kR0) (kB (kK true<|kR0) (kC fun _=>kB kR0 (kL 11 ZmY))))
def ZfC(b:Zac):Option Bool:=(Zer b.fNet).bind fun d=>bif d then bif(decide (b.fUntil>(0:Int)))then some (decide (b.fUntil<=(1099511627776:Int)))else some false else some false
instance ZxN{b}:Con (ZfC b) (eS 13 [.agg (Zac.c b)] Yk):=kS Tryz.func13 (kC fun _=>kB (kB kR0 kR0) (kK false<|kR0))
def ZlV:Option Zar:=some (Zar.mk 8 4 4 64 64 1 (Zay.mk 1 1 1 1) 100 100 1000 2 64 4)
instance ZxM:Con (ZlV) (eS 18 [] (mR Zar.c)):=kS Tryz.func18 (kR0)
def Zpb:Option (ByteArray×ByteArray×ByteArray×ByteArray×ByteArray×ByteArray×ByteArray×ByteArray×ByteArray×ByteArray×ByteArray×ByteArray×ByteArray×ByteArray):=some ((⟨#[]⟩ : ByteArray),(⟨#[97,99,99,101,112,116]⟩ : ByteArray),(⟨#[108,101,97,118,101]⟩ : ByteArray),(⟨#[100,105,97,108]⟩ : ByteArray),(⟨#[114,101,115,117,108,116]⟩ : ByteArray),(⟨#[98,108,97,109,101]⟩ : ByteArray),(⟨#[98,97,110]⟩ : ByteArray),(⟨#[117,110,98,97,110]⟩ : ByteArray),(⟨#[98,97,110,110,101,100]⟩ : ByteArray),(⟨#[116,105,99,107]⟩ : ByteArray),(⟨#[108,105,115,116]⟩ : ByteArray),(⟨#[112,111,110,103]⟩ : ByteArray),(⟨#[119,111,114,107]⟩ : ByteArray),(⟨#[108,101,97,114,110]⟩ : ByteArray))
instance ZJr:Con (Zpb) (eS 105 [] fun r=>.agg ((cP cS (cP cS (cP cS (cP cS (cP cS (cP cS (cP cS (cP cS (cP cS (cP cS (cP cS (cP cS (cP cS cS))))))))))))) r)):=kS Tryz.func105 (kR0)
def Zuw(d:List ByteArray)(b:Int):Option ByteArray:=bif(decide (b<(0:Int)))then some (⟨#[]⟩ : ByteArray)else bif(decide (b>=(d.length:Int)))then some (⟨#[]⟩ : ByteArray)else need (0<=b/\b<(d.length:Int))<|some (d.getD b.toNat ByteArray.empty)
instance ZMV{b d}:Con (Zuw b d) (eS 106 [.one (cL 1 cS ByteArray.empty b),Yj d] fun r=>.one (.lit (.string r))):=kS Tryz.func106 (kB (kK true<|kR0) (kB kR0 (kN<|kR0)))
def Zot(d:Int):Option ByteArray:=(Zpb).bind fun b=>(Zuw ([b.1,b.2.1,b.2.2.1,b.2.2.2.1,b.2.2.2.2.1,b.2.2.2.2.2.1,b.2.2.2.2.2.2.1,b.2.2.2.2.2.2.2.1,b.2.2.2.2.2.2.2.2.1,b.2.2.2.2.2.2.2.2.2.1,b.2.2.2.2.2.2.2.2.2.2.1,b.2.2.2.2.2.2.2.2.2.2.2.1,b.2.2.2.2.2.2.2.2.2.2.2.2.1,b.2.2.2.2.2.2.2.2.2.2.2.2.2]:List ByteArray) d).bind fun e=>some e
instance ZKJ{d}:Con (Zot d) (eS 45 [Yj d] fun r=>.one (.lit (.string r))):=kS Tryz.func45 (kC fun b=>kH (show ([b.1,b.2.1,b.2.2.1,b.2.2.2.1,b.2.2.2.2.1,b.2.2.2.2.2.1,b.2.2.2.2.2.2.1,b.2.2.2.2.2.2.2.1,b.2.2.2.2.2.2.2.2.1,b.2.2.2.2.2.2.2.2.2.1,b.2.2.2.2.2.2.2.2.2.2.1,b.2.2.2.2.2.2.2.2.2.2.2.1,b.2.2.2.2.2.2.2.2.2.2.2.2.1,b.2.2.2.2.2.2.2.2.2.2.2.2.2]:List ByteArray).length=14/\∀i j,i<14->j<1->Zaj cS ByteArray.empty ([b.1,b.2.1,b.2.2.1,b.2.2.2.1,b.2.2.2.2.1,b.2.2.2.2.2.1,b.2.2.2.2.2.2.1,b.2.2.2.2.2.2.2.1,b.2.2.2.2.2.2.2.2.1,b.2.2.2.2.2.2.2.2.2.1,b.2.2.2.2.2.2.2.2.2.2.1,b.2.2.2.2.2.2.2.2.2.2.2.1,b.2.2.2.2.2.2.2.2.2.2.2.2.1,b.2.2.2.2.2.2.2.2.2.2.2.2.2]:List ByteArray) i j=([.lit (.string b.1),.lit (.string b.2.1),.lit (.string b.2.2.1),.lit (.string b.2.2.2.1),.lit (.string b.2.2.2.2.1),.lit (.string b.2.2.2.2.2.1),.lit (.string b.2.2.2.2.2.2.1),.lit (.string b.2.2.2.2.2.2.2.1),.lit (.string b.2.2.2.2.2.2.2.2.1),.lit (.string b.2.2.2.2.2.2.2.2.2.1),.lit (.string b.2.2.2.2.2.2.2.2.2.2.1),.lit (.string b.2.2.2.2.2.2.2.2.2.2.2.1),.lit (.string b.2.2.2.2.2.2.2.2.2.2.2.2.1),.lit (.string b.2.2.2.2.2.2.2.2.2.2.2.2.2)]:List C).getD (0+(i * 1+j)) .junk from⟨rfl,ZLu (sz:=1) cS ByteArray.empty ([b.1,b.2.1,b.2.2.1,b.2.2.2.1,b.2.2.2.2.1,b.2.2.2.2.2.1,b.2.2.2.2.2.2.1,b.2.2.2.2.2.2.2.1,b.2.2.2.2.2.2.2.2.1,b.2.2.2.2.2.2.2.2.2.1,b.2.2.2.2.2.2.2.2.2.2.1,b.2.2.2.2.2.2.2.2.2.2.2.1,b.2.2.2.2.2.2.2.2.2.2.2.2.1,b.2.2.2.2.2.2.2.2.2.2.2.2.2]:List ByteArray) [.lit (.string b.1),.lit (.string b.2.1),.lit (.string b.2.2.1),.lit (.string b.2.2.2.1),.lit (.string b.2.2.2.2.1),.lit (.string b.2.2.2.2.2.1),.lit (.string b.2.2.2.2.2.2.1),.lit (.string b.2.2.2.2.2.2.2.1),.lit (.string b.2.2.2.2.2.2.2.2.1),.lit (.string b.2.2.2.2.2.2.2.2.2.1),.lit (.string b.2.2.2.2.2.2.2.2.2.2.1),.lit (.string b.2.2.2.2.2.2.2.2.2.2.2.1),.lit (.string b.2.2.2.2.2.2.2.2.2.2.2.2.1),.lit (.string b.2.2.2.2.2.2.2.2.2.2.2.2.2)] (fun _=>rfl) rfl⟩)<|kC fun _=>kX 2 ⟨[],[],[(0,[3])],[],[],[(0,(([b.1,b.2.1,b.2.2.1,b.2.2.2.1,b.2.2.2.2.1,b.2.2.2.2.2.1,b.2.2.2.2.2.2.1,b.2.2.2.2.2.2.2.1,b.2.2.2.2.2.2.2.2.1,b.2.2.2.2.2.2.2.2.2.1,b.2.2.2.2.2.2.2.2.2.2.1,b.2.2.2.2.2.2.2.2.2.2.2.1,b.2.2.2.2.2.2.2.2.2.2.2.2.1,b.2.2.2.2.2.2.2.2.2.2.2.2.2]:List ByteArray).length,Zaj cS ByteArray.empty ([b.1,b.2.1,b.2.2.1,b.2.2.2.1,b.2.2.2.2.1,b.2.2.2.2.2.1,b.2.2.2.2.2.2.1,b.2.2.2.2.2.2.2.1,b.2.2.2.2.2.2.2.2.1,b.2.2.2.2.2.2.2.2.2.1,b.2.2.2.2.2.2.2.2.2.2.1,b.2.2.2.2.2.2.2.2.2.2.2.1,b.2.2.2.2.2.2.2.2.2.2.2.2.1,b.2.2.2.2.2.2.2.2.2.2.2.2.2]:List ByteArray)))],[]⟩<|kR0)
def ZmM(b:Int)(d:Bool):Option (List Int):=bif d then some ([(3:Int)]:List Int)else bif(b==(4:Int))then some ([(0:Int),(5:Int),(3:Int),(4:Int)]:List Int)else bif(b==(5:Int))then some ([(0:Int),(4:Int),(3:Int)]:List Int)else bif(b==(6:Int))then some ([(1:Int),(4:Int),(3:Int)]:List Int)else bif(b==(7:Int))then some ([(1:Int)]:List Int)else bif(b==(8:Int))then some ([(2:Int),(3:Int)]:List Int)else bif(b==(11:Int))then some ([(0:Int),(4:Int)]:List Int)else some ([]:List Int)
theorem Znj{f}{b}:LH z Tryz.f46 [1,0,1,0,1,1,1,1,1] (ZmM f b) (mN 99999 97 1 mQ (0:Int)) m6 ⟨[(3,(Yj f)),(12,(Yk b))],[]⟩:=kB (kH (show ([(3:Int)]:List Int).length=1 from rfl)<|kH (nu (e:=mQ) (0:Int) 1 (fun _=>rfl) ([(3:Int)]:List Int))<|kX 0 (rA [(0,.c ([(3:Int)]:List Int).length (Zaj mQ (0:Int) ([(3:Int)]:List Int)))])<|kRH (mL [2] [15] [(15,99999)]) none) (kB (kH (show ([(0:Int),(5:Int),(3:Int),(4:Int)]:List Int).length=4 from rfl)<|kH (nu (e:=mQ) (0:Int) 1 (fun _=>rfl) ([(0:Int),(5:Int),(3:Int),(4:Int)]:List Int))<|kX 1 (rA [(0,.c ([(0:Int),(5:Int),(3:Int),(4:Int)]:List Int).length (Zaj mQ (0:Int) ([(0:Int),(5:Int),(3:Int),(4:Int)]:List Int)))])<|kRH (mL [2] [18] [(18,99999)]) none) (kB (kH (show ([(0:Int),(4:Int),(3:Int)]:List Int).length=3 from rfl)<|kH (nu (e:=mQ) (0:Int) 1 (fun _=>rfl) ([(0:Int),(4:Int),(3:Int)]:List Int))<|kX 2 (rA [(0,.c ([(0:Int),(4:Int),(3:Int)]:List Int).length (Zaj mQ (0:Int) ([(0:Int),(4:Int),(3:Int)]:List Int)))])<|kRH (mL [2] [21] [(21,99999)]) none) (kB (kH (show ([(1:Int),(4:Int),(3:Int)]:List Int).length=3 from rfl)<|kH (nu (e:=mQ) (0:Int) 1 (fun _=>rfl) ([(1:Int),(4:Int),(3:Int)]:List Int))<|kX 3 (rA [(0,.c ([(1:Int),(4:Int),(3:Int)]:List Int).length (Zaj mQ (0:Int) ([(1:Int),(4:Int),(3:Int)]:List Int)))])<|kRH (mL [2] [24] [(24,99999)]) none) (kB (kH (show ([(1:Int)]:List Int).length=1 from rfl)<|kH (nu (e:=mQ) (0:Int) 1 (fun _=>rfl) ([(1:Int)]:List Int))<|kX 4 (rA [(0,.c ([(1:Int)]:List Int).length (Zaj mQ (0:Int) ([(1:Int)]:List Int)))])<|kRH (mL [2] [27] [(27,99999)]) none) (kB (kH (show ([(2:Int),(3:Int)]:List Int).length=2 from rfl)<|kH (nu (e:=mQ) (0:Int) 1 (fun _=>rfl) ([(2:Int),(3:Int)]:List Int))<|kX 5 (rA [(0,.c ([(2:Int),(3:Int)]:List Int).length (Zaj mQ (0:Int) ([(2:Int),(3:Int)]:List Int)))])<|kRH (mL [2] [30] [(30,99999)]) none) (kB (kH (show ([(0:Int),(4:Int)]:List Int).length=2 from rfl)<|kH (nu (e:=mQ) (0:Int) 1 (fun _=>rfl) ([(0:Int),(4:Int)]:List Int))<|kX 6 (rA [(0,.c ([(0:Int),(4:Int)]:List Int).length (Zaj mQ (0:Int) ([(0:Int),(4:Int)]:List Int)))])<|kRH (mL [2] [33] [(33,99999)]) none) (kRH ⟨[],[],[],[],[(2,99999,97,1,Zaj mQ (0:Int) [])],[2],[99999],[]⟩ none)))))))
def ZkW(b:Int)(d:Bool):Option (List Int):=bif d then some ([(0:Int),(3:Int)]:List Int)else bif(b==(2:Int))then some ([(0:Int)]:List Int)else bif(b==(3:Int))then ZmM b (b==(3:Int))else ZmM b (b==(9:Int))
theorem ZkV{b f}:LH z Tryz.f46 [1,0,1,0,1] (ZkW b f) (mN 99999 97 1 mQ (0:Int)) m6 ⟨[(3,(Yj b)),(4,(Yk f))],[]⟩:=kB (kH (show ([(0:Int),(3:Int)]:List Int).length=2 from rfl)<|kH (nu (e:=mQ) (0:Int) 1 (fun _=>rfl) ([(0:Int),(3:Int)]:List Int))<|kX 0 (rA [(0,.c ([(0:Int),(3:Int)]:List Int).length (Zaj mQ (0:Int) ([(0:Int),(3:Int)]:List Int)))])<|kRH (mL [2] [8] [(8,99999)]) none) (kB (kH (show ([(0:Int)]:List Int).length=1 from rfl)<|kH (nu (e:=mQ) (0:Int) 1 (fun _=>rfl) ([(0:Int)]:List Int))<|kX 1 (rA [(0,.c ([(0:Int)]:List Int).length (Zaj mQ (0:Int) ([(0:Int)]:List Int)))])<|kRH (mL [2] [11] [(11,99999)]) none) (kB (kL 9 Znj) (kL 9 Znj)))
def ZlL(b:Int):Option (List Int):=bif(b==(1:Int))then ZkW b (b==(1:Int))else bif(b==(12:Int))then ZkW b (b==(12:Int))else ZkW b (b==(13:Int))
instance ZJI{b}:ConH (ZlL b) (eH 46 [] [Yj b] (fun r=>[(99999,.rows 97 1 r.length (Zaj (cI .i64) (0:Int) r))]) m6):=kHC Tryz.func46 (kB (kL 11 ZkV) (kB (kL 14 ZkV) (kL 14 ZkV)))
instance ZJv{b}:Con (ZlL b) (eS 46 [Yj b] fun r=>.one (cL 1 (cI .i64) (0:Int) r)):=Con.of fun r h=>(show ZdB _ _ _ _ _ _ from ConH.ok h).pure
def Zpe(b:Int):Option Zaf:=some (Zaf.mk false 0 (IntKind.wrap .u64 b))
instance ZMX{b}:Con (Zpe b) (eS 163 [.one (.lit (.int .u32 b))] (mR Zaf.c)):=kS Tryz.func163 (kR0)
def Zux(d b:Int):Option Zaf:=bif(d==(0:Int))then bif((Int.fdiv b (2 ^ (min (32:Int).toNat (IntKind.bits .u64))))==(65535:Int))then(Zpe (IntKind.wrap .u32 (IntKind.wrap .u64 (((BitVec.ofInt (IntKind.bits .u64) b) &&& (BitVec.ofInt (IntKind.bits .u64) (4294967295:Int))).toNat:Int)))).bind fun e=>some e else some (Zaf.mk true d b)else some (Zaf.mk true d b)
instance ZMW{b d}:Con (Zux b d) (eS 162 [.one (.lit (.int .u64 b)),.one (.lit (.int .u64 d))] (mR Zaf.c)):=kS Tryz.func162 (kB (kH (show 0<=(32:Int)from(by decide))<|kB (kC fun _=>kR0) kR0) (kK false<|kR0))
def ZeW(b:Zaf):Option Bool:=bif b.fV6 then(Zux b.fHi b.fLo).bind fun d=>some (decide (d=b))else(Zpe (IntKind.wrap .u32 (IntKind.wrap .u64 (((BitVec.ofInt (IntKind.bits .u64) b.fLo) &&& (BitVec.ofInt (IntKind.bits .u64) (4294967295:Int))).toNat:Int)))).bind fun e=>some (decide (e=b))
instance ZJF{b}:Con (ZeW b) (eS 109 [.agg (Zaf.c b)] Yk):=kS Tryz.func109 (kB (kC fun d=>kQ 2 6 (Znw d b (.tmp 9) (.tmp 10))<|kR0) (kC fun e=>kQ 2 6 (Znw e b (.tmp 16) (.tmp 17))<|kR0))
def ZiP(b:Zah):Option Bool:=(ZeW b.fAddr).bind fun d=>bif d then bif(decide (b.fPort>=(1:Int)))then some (decide (b.fPort<=(65535:Int)))else some false else some false
instance ZJo{b}:Con (ZiP b) (eS 107 [.agg (Zah.c b)] Yk):=kS Tryz.func107 (kC fun _=>kB (kB kR0 kR0) (kK false<|kR0))
def ZdR(b:Zaf):Option Int:=bif b.fV6 then some (128:Int)else some (32:Int)
instance ZKU{b}:Con (ZdR b) (eS 181 [.agg (Zaf.c b)] Yj):=kS Tryz.func181 (kB kR0 kR0)
def Zjt(b:Int):Option Int:=some (IntKind.wrap .u64 (((BitVec.ofInt (IntKind.bits .u64) (Int.fdiv (IntKind.wrap .u64 (((BitVec.ofInt (IntKind.bits .u64) (IntKind.wrap .u64 (((BitVec.ofInt (IntKind.bits .u64) (Int.fdiv (IntKind.wrap .u64 (((BitVec.ofInt (IntKind.bits .u64) (IntKind.wrap .u64 (((BitVec.ofInt (IntKind.bits .u64) (Int.fdiv b (2 ^ (min (8:Int).toNat (IntKind.bits .u64))))) &&& (BitVec.ofInt (IntKind.bits .u64) (71777214294589695:Int))).toNat:Int))) ||| (BitVec.ofInt (IntKind.bits .u64) (IntKind.wrap .u64 ((IntKind.wrap .u64 (((BitVec.ofInt (IntKind.bits .u64) b) &&& (BitVec.ofInt (IntKind.bits .u64) (71777214294589695:Int))).toNat:Int)) * 2 ^ (min (8:Int).toNat (IntKind.bits .u64)))))).toNat:Int)) (2 ^ (min (16:Int).toNat (IntKind.bits .u64))))) &&& (BitVec.ofInt (IntKind.bits .u64) (281470681808895:Int))).toNat:Int))) ||| (BitVec.ofInt (IntKind.bits .u64) (IntKind.wrap .u64 ((IntKind.wrap .u64 (((BitVec.ofInt (IntKind.bits .u64) (IntKind.wrap .u64 (((BitVec.ofInt (IntKind.bits .u64) (IntKind.wrap .u64 (((BitVec.ofInt (IntKind.bits .u64) (Int.fdiv b (2 ^ (min (8:Int).toNat (IntKind.bits .u64))))) &&& (BitVec.ofInt (IntKind.bits .u64) (71777214294589695:Int))).toNat:Int))) ||| (BitVec.ofInt (IntKind.bits .u64) (IntKind.wrap .u64 ((IntKind.wrap .u64 (((BitVec.ofInt (IntKind.bits .u64) b) &&& (BitVec.ofInt (IntKind.bits .u64) (71777214294589695:Int))).toNat:Int)) * 2 ^ (min (8:Int).toNat (IntKind.bits .u64)))))).toNat:Int))) &&& (BitVec.ofInt (IntKind.bits .u64) (281470681808895:Int))).toNat:Int)) * 2 ^ (min (16:Int).toNat (IntKind.bits .u64)))))).toNat:Int)) (2 ^ (min (32:Int).toNat (IntKind.bits .u64))))) ||| (BitVec.ofInt (IntKind.bits .u64) (IntKind.wrap .u64 ((IntKind.wrap .u64 (((BitVec.ofInt (IntKind.bits .u64) (IntKind.wrap .u64 (((BitVec.ofInt (IntKind.bits .u64) (Int.fdiv (IntKind.wrap .u64 (((BitVec.ofInt (IntKind.bits .u64) (IntKind.wrap .u64 (((BitVec.ofInt (IntKind.bits .u64) (Int.fdiv b (2 ^ (min (8:Int).toNat (IntKind.bits .u64))))) &&& (BitVec.ofInt (IntKind.bits .u64) (71777214294589695:Int))).toNat:Int))) ||| (BitVec.ofInt (IntKind.bits .u64) (IntKind.wrap .u64 ((IntKind.wrap .u64 (((BitVec.ofInt (IntKind.bits .u64) b) &&& (BitVec.ofInt (IntKind.bits .u64) (71777214294589695:Int))).toNat:Int)) * 2 ^ (min (8:Int).toNat (IntKind.bits .u64)))))).toNat:Int)) (2 ^ (min (16:Int).toNat (IntKind.bits .u64))))) &&& (BitVec.ofInt (IntKind.bits .u64) (281470681808895:Int))).toNat:Int))) ||| (BitVec.ofInt (IntKind.bits .u64) (IntKind.wrap .u64 ((IntKind.wrap .u64 (((BitVec.ofInt (IntKind.bits .u64) (IntKind.wrap .u64 (((BitVec.ofInt (IntKind.bits .u64) (IntKind.wrap .u64 (((BitVec.ofInt (IntKind.bits .u64) (Int.fdiv b (2 ^ (min (8:Int).toNat (IntKind.bits .u64))))) &&& (BitVec.ofInt (IntKind.bits .u64) (71777214294589695:Int))).toNat:Int))) ||| (BitVec.ofInt (IntKind.bits .u64) (IntKind.wrap .u64 ((IntKind.wrap .u64 (((BitVec.ofInt (IntKind.bits .u64) b) &&& (BitVec.ofInt (IntKind.bits .u64) (71777214294589695:Int))).toNat:Int)) * 2 ^ (min (8:Int).toNat (IntKind.bits .u64)))))).toNat:Int))) &&& (BitVec.ofInt (IntKind.bits .u64) (281470681808895:Int))).toNat:Int)) * 2 ^ (min (16:Int).toNat (IntKind.bits .u64)))))).toNat:Int)) * 2 ^ (min (32:Int).toNat (IntKind.bits .u64)))))).toNat:Int))
instance Zto{b}:Con (Zjt b) (eS 285 [.one (.lit (.int .u64 b))] fun r=>.one (.lit (.int .u64 r))):=kS Tryz.func285 (kH (show 0<=(8:Int)from(by decide))<|kH (show 0<=(8:Int)from(by decide))<|kH (show 0<=(16:Int)from(by decide))<|kH (show 0<=(16:Int)from(by decide))<|kH (show 0<=(32:Int)from(by decide))<|kH (show 0<=(32:Int)from(by decide))<|kR0)
def ZlE(b:Int):Option Int:=(Zjt (IntKind.wrap .u64 (((BitVec.ofInt (IntKind.bits .u64) (IntKind.wrap .u64 (((BitVec.ofInt (IntKind.bits .u64) (Int.fdiv (IntKind.wrap .u64 (((BitVec.ofInt (IntKind.bits .u64) (IntKind.wrap .u64 (((BitVec.ofInt (IntKind.bits .u64) (Int.fdiv (IntKind.wrap .u64 (((BitVec.ofInt (IntKind.bits .u64) (IntKind.wrap .u64 (((BitVec.ofInt (IntKind.bits .u64) (Int.fdiv b (2 ^ (min (1:Int).toNat (IntKind.bits .u64))))) &&& (BitVec.ofInt (IntKind.bits .u64) (6148914691236517205:Int))).toNat:Int))) ||| (BitVec.ofInt (IntKind.bits .u64) (IntKind.wrap .u64 ((IntKind.wrap .u64 (((BitVec.ofInt (IntKind.bits .u64) b) &&& (BitVec.ofInt (IntKind.bits .u64) (6148914691236517205:Int))).toNat:Int)) * 2 ^ (min (1:Int).toNat (IntKind.bits .u64)))))).toNat:Int)) (2 ^ (min (2:Int).toNat (IntKind.bits .u64))))) &&& (BitVec.ofInt (IntKind.bits .u64) (3689348814741910323:Int))).toNat:Int))) ||| (BitVec.ofInt (IntKind.bits .u64) (IntKind.wrap .u64 ((IntKind.wrap .u64 (((BitVec.ofInt (IntKind.bits .u64) (IntKind.wrap .u64 (((BitVec.ofInt (IntKind.bits .u64) (IntKind.wrap .u64 (((BitVec.ofInt (IntKind.bits .u64) (Int.fdiv b (2 ^ (min (1:Int).toNat (IntKind.bits .u64))))) &&& (BitVec.ofInt (IntKind.bits .u64) (6148914691236517205:Int))).toNat:Int))) ||| (BitVec.ofInt (IntKind.bits .u64) (IntKind.wrap .u64 ((IntKind.wrap .u64 (((BitVec.ofInt (IntKind.bits .u64) b) &&& (BitVec.ofInt (IntKind.bits .u64) (6148914691236517205:Int))).toNat:Int)) * 2 ^ (min (1:Int).toNat (IntKind.bits .u64)))))).toNat:Int))) &&& (BitVec.ofInt (IntKind.bits .u64) (3689348814741910323:Int))).toNat:Int)) * 2 ^ (min (2:Int).toNat (IntKind.bits .u64)))))).toNat:Int)) (2 ^ (min (4:Int).toNat (IntKind.bits .u64))))) &&& (BitVec.ofInt (IntKind.bits .u64) (1085102592571150095:Int))).toNat:Int))) ||| (BitVec.ofInt (IntKind.bits .u64) (IntKind.wrap .u64 ((IntKind.wrap .u64 (((BitVec.ofInt (IntKind.bits .u64) (IntKind.wrap .u64 (((BitVec.ofInt (IntKind.bits .u64) (IntKind.wrap .u64 (((BitVec.ofInt (IntKind.bits .u64) (Int.fdiv (IntKind.wrap .u64 (((BitVec.ofInt (IntKind.bits .u64) (IntKind.wrap .u64 (((BitVec.ofInt (IntKind.bits .u64) (Int.fdiv b (2 ^ (min (1:Int).toNat (IntKind.bits .u64))))) &&& (BitVec.ofInt (IntKind.bits .u64) (6148914691236517205:Int))).toNat:Int))) ||| (BitVec.ofInt (IntKind.bits .u64) (IntKind.wrap .u64 ((IntKind.wrap .u64 (((BitVec.ofInt (IntKind.bits .u64) b) &&& (BitVec.ofInt (IntKind.bits .u64) (6148914691236517205:Int))).toNat:Int)) * 2 ^ (min (1:Int).toNat (IntKind.bits .u64)))))).toNat:Int)) (2 ^ (min (2:Int).toNat (IntKind.bits .u64))))) &&& (BitVec.ofInt (IntKind.bits .u64) (3689348814741910323:Int))).toNat:Int))) ||| (BitVec.ofInt (IntKind.bits .u64) (IntKind.wrap .u64 ((IntKind.wrap .u64 (((BitVec.ofInt (IntKind.bits .u64) (IntKind.wrap .u64 (((BitVec.ofInt (IntKind.bits .u64) (IntKind.wrap .u64 (((BitVec.ofInt (IntKind.bits .u64) (Int.fdiv b (2 ^ (min (1:Int).toNat (IntKind.bits .u64))))) &&& (BitVec.ofInt (IntKind.bits .u64) (6148914691236517205:Int))).toNat:Int))) ||| (BitVec.ofInt (IntKind.bits .u64) (IntKind.wrap .u64 ((IntKind.wrap .u64 (((BitVec.ofInt (IntKind.bits .u64) b) &&& (BitVec.ofInt (IntKind.bits .u64) (6148914691236517205:Int))).toNat:Int)) * 2 ^ (min (1:Int).toNat (IntKind.bits .u64)))))).toNat:Int))) &&& (BitVec.ofInt (IntKind.bits .u64) (3689348814741910323:Int))).toNat:Int)) * 2 ^ (min (2:Int).toNat (IntKind.bits .u64)))))).toNat:Int))) &&& (BitVec.ofInt (IntKind.bits .u64) (1085102592571150095:Int))).toNat:Int)) * 2 ^ (min (4:Int).toNat (IntKind.bits .u64)))))).toNat:Int))).bind fun d=>some d
instance Zxe{b}:Con (ZlE b) (eS 268 [.one (.lit (.int .u64 b))] fun r=>.one (.lit (.int .u64 r))):=kS Tryz.func268 (kH (show 0<=(1:Int)from(by decide))<|kH (show 0<=(1:Int)from(by decide))<|kH (show 0<=(2:Int)from(by decide))<|kH (show 0<=(2:Int)from(by decide))<|kH (show 0<=(4:Int)from(by decide))<|kH (show 0<=(4:Int)from(by decide))<|kC fun _=>kR0)
def Zfj(b:Int):Option Int:=need (0<=(if(64:Int)<(if(0:Int)>b then(0:Int)else b)then(64:Int)else(if(0:Int)>b then(0:Int)else b)))<|(ZlE (IntKind.wrap .u64 ((IntKind.wrap .u64 ((1:Int) * 2 ^ (min (if(64:Int)<(if(0:Int)>b then(0:Int)else b)then(64:Int)else(if(0:Int)>b then(0:Int)else b)).toNat (IntKind.bits .u64))))-(1:Int)))).bind fun d=>some d
instance ZLT{b}:Con (Zfj b) (eS 246 [Yj b] fun r=>.one (.lit (.int .u64 r))):=kS Tryz.func246 (kN<|kC fun _=>kR0)
def Zmk(d e b:Int):Option (Int×Int):=(Zfj b).bind fun f=>(Zfj (Zaz b (64:Int))).bind fun g=>some ((IntKind.wrap .u64 (((BitVec.ofInt (IntKind.bits .u64) d) &&& (BitVec.ofInt (IntKind.bits .u64) f)).toNat:Int)),(IntKind.wrap .u64 (((BitVec.ofInt (IntKind.bits .u64) e) &&& (BitVec.ofInt (IntKind.bits .u64) g)).toNat:Int)))
instance ZHu{b d e}:Con (Zmk b d e) (eS 247 [.one (.lit (.int .u64 b)),.one (.lit (.int .u64 d)),Yj e] fun r=>.tup [(false,(cI .u64) r.1),(false,(cI .u64) r.2)]):=kS Tryz.func247 (kC fun _=>kC fun _=>kR0)
def ZiV(b:Zaf)(d:Int):Option Zaf:=(ZeW b).bind fun g=>bif(!g)then some (Zaf.mk false 0 0)else(ZdR b).bind fun e=>bif(!b.fV6)then(Zfj (if e<(if(0:Int)>d then(0:Int)else d)then e else(if(0:Int)>d then(0:Int)else d))).bind fun h=>some (Zaf.mk b.fV6 b.fHi (IntKind.wrap .u64 (((BitVec.ofInt (IntKind.bits .u64) b.fLo) &&& (BitVec.ofInt (IntKind.bits .u64) (Int.fdiv h (2 ^ (min (32:Int).toNat (IntKind.bits .u64)))))).toNat:Int)))else(Zmk b.fHi b.fLo (if e<(if(0:Int)>d then(0:Int)else d)then e else(if(0:Int)>d then(0:Int)else d))).bind fun f=>some (Zaf.mk b.fV6 f.1 f.2)
instance ZKK{b d}:Con (ZiV b d) (eS 208 [.agg (Zaf.c b),Yj d] (mR Zaf.c)):=kS Tryz.func208 (kC fun _=>kB kR0 (kC fun _=>kB (kC fun _=>kH (show 0<=(32:Int)from(by decide))<|kR0) (kC fun _=>kR0)))
def Zga(d:Zaf)(b:Int):Option (Zae×Bool):=(ZeW d).bind fun e=>bif(!e)then some ((Zae.mk (Zaf.mk false 0 0) 0),false)else bif(decide (b<(0:Int)))then some ((Zae.mk (Zaf.mk false 0 0) 0),false)else(ZdR d).bind fun f=>bif(decide (b>f))then some ((Zae.mk (Zaf.mk false 0 0) 0),false)else(ZiV d b).bind fun g=>some ((Zae.mk g b),true)
instance ZKL{b d}:Con (Zga b d) (eS 161 [.agg (Zaf.c b),Yj d] fun r=>.tup [(true,Zae.c r.1),(false,cB r.2)]):=kS Tryz.func161 (kC fun _=>kB (kK true<|kK true<|kR0) (kB (kK true<|kR0) (kC fun _=>kB kR0 (kC fun _=>kR0))))
def ZhD(b:Zae):Option Bool:=(Zga b.fAddr b.fBits).bind fun d=>bif d.2 then some (decide (d.1=b))else some false
instance ZJt{b}:Con (ZhD b) (eS 108 [.agg (Zae.c b)] Yk):=kS Tryz.func108 (kC fun d=>kB (kQ 2 4 (Zjr d.1 b (.tmp 15) (.tmp 16))<|kR0) kR0)
def ZmL(b:Int):Option (Int×Int):=bif(b==(4:Int))then some ((0:Int),(1073741824:Int))else bif(b==(5:Int))then some ((1:Int),(5:Int))else bif(b==(6:Int))then some ((1:Int),(1099511627776:Int))else some ((1:Int),(1048576:Int))
instance ZKN{b}:Con (ZmL b) (eS 110 [Yj b] fun r=>.tup [(false,(cI .i64) r.1),(false,(cI .i64) r.2)]):=kS Tryz.func110 (kB kR0 (kB kR0 (kB kR0 kR0)))
def Zni(b:Zam)(d:Int):Option Bool:=bif(d==(0:Int))then(ZiP b.fEnd).bind fun f=>some f else bif(d==(1:Int))then(ZhD b.fNet).bind fun g=>some g else bif(d==(2:Int))then(ZeW b.fEnd.fAddr).bind fun h=>some h else bif(d==(3:Int))then bif(decide (b.fNow>=(0:Int)))then some (decide (b.fNow<=(1099511627776:Int)))else some false else bif(d==(4:Int))then(ZmL b.fKind).bind fun e=>bif(decide (b.fNum>=e.1))then some (decide (b.fNum<=e.2))else some false else some true
instance ZJu{b d}:Con (Zni b d) (eS 47 [.agg (Zam.c b),Yj d] Yk):=kS Tryz.func47 (kB (kC fun _=>kR0) (kB (kC fun _=>kR0) (kB (kC fun _=>kR0) (kB (kB kR0 kR0) (kB (kC fun _=>kB kR0 kR0) kR0)))))
def Zgb:Nat->(List Int)->Int->Int->Zam->Option Bool|0,_,_,_,_=>none|fu+1,d,e,b,f=>bif(decide (b<e))then need (0<=b/\b<(d.length:Int))<|(Zni f (d.getD b.toNat (0:Int))).bind fun g=>bif(!g)then some false else Zgb fu d e (Zan b 1) f else some true
theorem Zry:∀{g d e f b},LS z Tryz.f19 [1,1,0,1,0] (Zgb g d e f b) Yk ⟨[(1,.one (.ptr 1 0)),(11,.one (cL 1 mQ (0:Int) d)),(12,(Yj e)),(13,(Yj f))],[(1,.box (Zam.c b))]⟩:=by
 intro g;induction g with
 |zero=>exact kZ
 |succ g h=>exact kB (kN<|kC fun _=>kB kR0 (kL 17 h)) kR0
def Znk(b:Zam):Option Bool:=(Zot b.fKind).bind fun e=>bif(e.toList==(⟨#[]⟩ : ByteArray).toList)then some false else(ZlL b.fKind).bind fun d=>Zgb (((d.length:Int)-(0:Int)).toNat+2) d (d.length:Int) (0:Int) b
instance ZJw{b}:Con (Znk b) (eS 19 [.agg (Zam.c b)] Yk):=kS Tryz.func19 (kC fun _=>kB kR0 (kC fun _=>kL 11 Zry))
def ZbE(b:Int):Option Zal:=some (Zal.mk b (Zah.mk (Zaf.mk false 0 0) 0) 0 0 ([]:(List Zaa)))
instance ZEC{b}:Con (ZbE b) (eS 20 [Yj b] (mR Zal.c)):=kS Tryz.func20 (kR [] [(2,[(7,cL 10 Zaa.c Zaa.d [])])] [])
def ZpE:Option ZaG:=some (ZaG.mk Zaq.nil Zaq.nil 0)
instance ZLL:Con (ZpE) (eS 229 [] fun r=>.one (ZaG.c r)):=kS Tryz.func229 (kX 1 ⟨[],[],[],[],[(0,[(0,Zaq.c Zaq.nil),(1,Zaq.c Zaq.nil)])],[],[]⟩<|kR [2] [] [])
def ZhK(b:Zaf):Option Int:=bif b.fV6 then some (1:Int)else some (0:Int)
instance ZHa{b}:Con (ZhK b) (eS 232 [.agg (Zaf.c b)] Yj):=kS Tryz.func232 (kB kR0 kR0)
def Zin(e:Zaf)(b:Int):Option Int:=(ZdR e).bind fun d=>bif(decide (b<(0:Int)))then some (0:Int)else bif(decide (b>=d))then some (0:Int)else bif(decide ((Zaz (Zaz d (1:Int)) b)>=(64:Int)))then need (0<=(Zaz (Zaz (Zaz d (1:Int)) b) (64:Int)))<|some (IntKind.wrap .i64 (IntKind.wrap .u64 (((BitVec.ofInt (IntKind.bits .u64) (Int.fdiv e.fHi (2 ^ (min (Zaz (Zaz (Zaz d (1:Int)) b) (64:Int)).toNat (IntKind.bits .u64))))) &&& (BitVec.ofInt (IntKind.bits .u64) (1:Int))).toNat:Int)))else need (0<=(Zaz (Zaz d (1:Int)) b))<|some (IntKind.wrap .i64 (IntKind.wrap .u64 (((BitVec.ofInt (IntKind.bits .u64) (Int.fdiv e.fLo (2 ^ (min (Zaz (Zaz d (1:Int)) b).toNat (IntKind.bits .u64))))) &&& (BitVec.ofInt (IntKind.bits .u64) (1:Int))).toNat:Int)))
instance ZLZ{b d}:Con (Zin b d) (eS 233 [.agg (Zaf.c b),Yj d] Yj):=kS Tryz.func233 (kC fun _=>kB (kK true<|kR0) (kB kR0 (kB (kN<|kR0) (kN<|kR0))))
def Zjd(b:Zae)(d:Int):Option Int:=(Zin b.fAddr d).bind fun e=>some e
instance ZLK{b d}:Con (Zjd b d) (eS 263 [.agg (Zae.c b),Yj d] Yj):=kS Tryz.func263 (kC fun _=>kR0)
def Zdc:Nat->Zaq->Zae->Option (Int×Bool)|0,_,_=>none|fu+1,i,d=>(match i with | .nil=>some ((0:Int),false) | .mk b e f g=>bif(decide (b.fNet.fBits<d.fBits))then(Zjd d b.fNet.fBits).bind fun h=>need (0<=h/\h<((2:Nat):Int))<|ix2 h ( Zdc fu f d) ( Zdc fu g d)else bif(!e)then some ((0:Int),false)else bif(!(decide (b.fNet=d)))then some ((0:Int),false)else some (b.fV,true))
theorem ZlC:∀{f g b},LS z Tryz.f230 [1,1,1,0,0] (Zdc f g b) (fun r=>.tup [(false,mQ r.1),(false,cB r.2)]) ⟨[(3,.one (.ptr 3 0)),(6,.one (Zaq.c g))],[(3,.box (Zae.c b))]⟩:=by
 intro f;induction f with
 |zero=>intros;unfold Zdc;exact kZ
 |succ f h=>intro g b;unfold Zdc;exact(by cases g with|nil=>exact kK false<|kK false<|kK true<|kK true<|kK true<|kR0|mk d i j n=>exact kK true<|kB (kC fun _=>kNm fun o=>kI2 o (fun e=>by subst e;exact kH (show 0<=(0:Int)/\(0:Int)<((2:Nat):Int)from(by decide))<|kL 10 h) fun e=>by subst e;exact kH (show 0<=(1:Int)/\(1:Int)<((2:Nat):Int)from(by decide))<|kL 10 h) (kK false<|kB (kK true<|kR0) (kQ 1 16 (Zrh d.fNet b (.tmp 62) (.tmp 63))<|kB kR0 kR0)))
def Zho(h:ZaG)(e:Zae):Option (Int×Bool):=(match h with | .nil=>some ((0:Int),false) | .mk b d g=>(ZhD e).bind fun i=>bif(!i)then some ((0:Int),false)else(ZhK e.fAddr).bind fun f=>need (0<=f/\f<((2:Nat):Int))<|ix2 f ( Zdc 1000000 b e) ( Zdc 1000000 d e))
instance ZEz{b d}:Con (Zho b d) (eS 230 [.one (ZaG.c b),.agg (Zae.c d)] fun r=>.tup [(false,(cI .i64) r.1),(false,cB r.2)]):=kS Tryz.func230 (by
 unfold Zho
 exact(by cases b with|nil=>exact kK true<|kK true<|kR0|mk f g h=>exact kK false<|kC fun _=>kB kR0 (kC fun _=>kNm fun i=>kI2 i (fun e=>by subst e;exact kH (show 0<=(0:Int)/\(0:Int)<((2:Nat):Int)from(by decide))<|kL 11 ZlC) fun e=>by subst e;exact kH (show 0<=(1:Int)/\(1:Int)<((2:Nat):Int)from(by decide))<|kL 11 ZlC)))
def Zoy(b:Zac)(d:Int):Option Bool:=some (decide (d<b.fUntil))
instance ZKT{b d}:Con (Zoy b d) (eS 134 [.agg (Zac.c b),Yj d] Yk):=kS Tryz.func134 (kR0)
def Zfx(b d:Int):Option Int:=bif(decide (b>=(256:Int)))then need (0<=(IntKind.wrap .u8 (Int.fdiv b (2 ^ (min (8:Int).toNat (IntKind.bits .u64)))))/\(IntKind.wrap .u8 (Int.fdiv b (2 ^ (min (8:Int).toNat (IntKind.bits .u64)))))<(((Yu : ByteArray).size:Nat):Int))<|some (Zan (Zan d 8) (IntKind.wrap .i64 ((Zld (Yu : ByteArray) (IntKind.wrap .u8 (Int.fdiv b (2 ^ (min (8:Int).toNat (IntKind.bits .u64))))).toNat:Nat):Int)))else need (0<=(IntKind.wrap .u8 b)/\(IntKind.wrap .u8 b)<(((Yu : ByteArray).size:Nat):Int))<|some (Zan d (IntKind.wrap .i64 ((Zld (Yu : ByteArray) (IntKind.wrap .u8 b).toNat:Nat):Int)))
theorem ZkN{b d}:LS z Tryz.f305 [1,1,1] (Zfx b d) Yj ⟨[(0,.one (.lit (.int .u64 b))),(2,(Yj d))],[]⟩:=kB (kH (nv (8:Int) rfl)<|kN<|kR0) (kN<|kR0)
def Zfy(b d:Int):Option Int:=bif(decide (b>=(65536:Int)))then Zfx (Int.fdiv b (2 ^ (min (16:Int).toNat (IntKind.bits .u64)))) (Zan d 16)else Zfx b d
theorem ZkO{b d}:LS z Tryz.f305 [1,1] (Zfy b d) Yj ⟨[(0,.one (.lit (.int .u64 b))),(2,(Yj d))],[]⟩:=kB (kH (nv (16:Int) rfl)<|kL 7 ZkN) (kL 5 ZkN)
def Zjp(b:Int):Option Int:=bif(decide (b>=(4294967296:Int)))then Zfy (Int.fdiv b (2 ^ (min (32:Int).toNat (IntKind.bits .u64)))) (32:Int)else Zfy b (0:Int)
instance ZBh{b}:Con (Zjp b) (eS 305 [.one (.lit (.int .u64 b))] Yj):=kS Tryz.func305 (kB (kH (show 0<=(32:Int)from(by decide))<|kL 9 ZkO) (kL 7 ZkO))
def Zdy(b:Int):Option Int:=(Zjp b).bind fun d=>some (Zaz (64:Int) d)
instance Ztp{b}:Con (Zdy b) (eS 291 [.one (.lit (.int .u64 b))] Yj):=kS Tryz.func291 (kC fun _=>kR0)
def Zgq(b d:Int)(e:Zae):Option Int:=bif(!e.fAddr.fV6)then(ZdR e.fAddr).bind fun f=>some (if b<(Zaz d (Zaz (128:Int) f))then b else(Zaz d (Zaz (128:Int) f)))else some (if b<d then b else d)
theorem ZmB{d e b}:LS z Tryz.f280 [1,1,1,1,1] (Zgq d e b) Yj ⟨[(2,.one (.ptr 2 0)),(5,(Yj d)),(8,(Yj e))],[(2,.box (Zae.c b))]⟩:=kB (kC fun _=>kR0) kR0
def Zmd(b d:Zae):Option Int:=(Zdy (IntKind.wrap .u64 (((BitVec.ofInt (IntKind.bits .u64) b.fAddr.fHi) ^^^ (BitVec.ofInt (IntKind.bits .u64) d.fAddr.fHi)).toNat:Int))).bind fun e=>bif((IntKind.wrap .u64 (((BitVec.ofInt (IntKind.bits .u64) b.fAddr.fHi) ^^^ (BitVec.ofInt (IntKind.bits .u64) d.fAddr.fHi)).toNat:Int))==(0:Int))then(Zdy (IntKind.wrap .u64 (((BitVec.ofInt (IntKind.bits .u64) b.fAddr.fLo) ^^^ (BitVec.ofInt (IntKind.bits .u64) d.fAddr.fLo)).toNat:Int))).bind fun f=>Zgq (if d.fBits<b.fBits then d.fBits else b.fBits) (Zan (64:Int) f) b else Zgq (if d.fBits<b.fBits then d.fBits else b.fBits) e b
instance ZHb{b d}:Con (Zmd b d) (eS 280 [.agg (Zae.c b),.agg (Zae.c d)] Yj):=kS Tryz.func280 (kC fun _=>kB (kC fun _=>kL 13 ZmB) (kL 13 ZmB))
def ZkH(y:Zaq)(b:Zge)(o:Int):Option Zaq:=bif(o==b.fhit.fNet.fBits)then(match y with | .nil=>none | .mk d f g h=>(Zjd d.fNet o).bind fun r=>need (0<=r/\r<((2:Nat):Int))<|ix2 r ( some (Zaq.mk b.fhit b.fhas (Zaq.mk d f g h) b.fkids.2)) ( some (Zaq.mk b.fhit b.fhas b.fkids.1 (Zaq.mk d f g h))))else(Zga b.fhit.fNet.fAddr o).bind fun p=>(match y with | .nil=>none | .mk e i j n=>(Zjd e.fNet o).bind fun t=>need (0<=t/\t<((2:Nat):Int))<|ix2 t ( (Zjd b.fhit.fNet o).bind fun u=>need (0<=u/\u<((2:Nat):Int))<|ix2 u ( some (Zaq.mk (Zas.mk p.1 0) false (Zaq.mk b.fhit b.fhas b.fkids.1 b.fkids.2) Zaq.nil)) ( some (Zaq.mk (Zas.mk p.1 0) false (Zaq.mk e i j n) (Zaq.mk b.fhit b.fhas b.fkids.1 b.fkids.2)))) ( (Zjd b.fhit.fNet o).bind fun v=>need (0<=v/\v<((2:Nat):Int))<|ix2 v ( some (Zaq.mk (Zas.mk p.1 0) false (Zaq.mk b.fhit b.fhas b.fkids.1 b.fkids.2) (Zaq.mk e i j n))) ( some (Zaq.mk (Zas.mk p.1 0) false Zaq.nil (Zaq.mk b.fhit b.fhas b.fkids.1 b.fkids.2)))))
instance ZHz{b f g}:ConH (ZkH b f g) (eH 281 [(100000,.box (Zge.c f))] [.one (Zaq.c b),.one (.ptr 100000 0),Yj g] (fun r=>[]) fun r=>.one (Zaq.c r)):=kHC Tryz.func281 (by
 unfold ZkH
 exact kB ((by cases b with|nil=>exact kZ|mk h i j n=>exact kC fun _=>kNm fun v=>kI2 v (fun e=>by subst e;exact kH (show 0<=(0:Int)/\(0:Int)<((2:Nat):Int)from(by decide))<|kRH ⟨[100000],[],[],[],[],[6],[],[]⟩ none) fun e=>by subst e;exact kH (show 0<=(1:Int)/\(1:Int)<((2:Nat):Int)from(by decide))<|kRH ⟨[100000],[],[],[],[],[6],[],[]⟩ none)) (kC fun _=>(by cases b with|nil=>exact kZ|mk o p t u=>exact kC fun _=>kNm fun y=>kI2 y (fun e=>by subst e;exact kH (show 0<=(0:Int)/\(0:Int)<((2:Nat):Int)from(by decide))<|kC fun _=>kNm fun A=>kI2 A (fun e=>by subst e;exact kH (show 0<=(0:Int)/\(0:Int)<((2:Nat):Int)from(by decide))<|kX 3 ⟨[],[],[],[],[(2,[(6,Zaq.c Zaq.nil),(7,Zaq.c Zaq.nil)])],[],[]⟩<|kRH ⟨[100000,45],[],[],[],[],[6],[],[]⟩ none) fun e=>by subst e;exact kH (show 0<=(1:Int)/\(1:Int)<((2:Nat):Int)from(by decide))<|kX 3 ⟨[],[],[],[],[(2,[(6,Zaq.c Zaq.nil),(7,Zaq.c Zaq.nil)])],[],[]⟩<|kRH ⟨[100000,45],[],[],[],[],[6],[],[]⟩ none) fun e=>by subst e;exact kH (show 0<=(1:Int)/\(1:Int)<((2:Nat):Int)from(by decide))<|kC fun _=>kNm fun d=>kI2 d (fun e=>by subst e;exact kH (show 0<=(0:Int)/\(0:Int)<((2:Nat):Int)from(by decide))<|kX 3 ⟨[],[],[],[],[(2,[(6,Zaq.c Zaq.nil),(7,Zaq.c Zaq.nil)])],[],[]⟩<|kRH ⟨[100000,45],[],[],[],[],[6],[],[]⟩ none) fun e=>by subst e;exact kH (show 0<=(1:Int)/\(1:Int)<((2:Nat):Int)from(by decide))<|kX 3 ⟨[],[],[],[],[(2,[(6,Zaq.c Zaq.nil),(7,Zaq.c Zaq.nil)])],[],[]⟩<|kRH ⟨[100000,45],[],[],[],[],[6],[],[]⟩ none)))
def ZfS:Nat->Zaq->Zas->Option Zaq|0,_,_=>none|fu+1,j,g=>(match j with | .nil=>some (Zaq.mk g true Zaq.nil Zaq.nil) | .mk b f d e=>(Zmd b.fNet g.fNet).bind fun h=>bif(decide (h<b.fNet.fBits))then(ZkH (Zaq.mk b f d e) (Zge.mk g true (Zaq.nil,Zaq.nil)) h).bind fun n=>some n else bif(h==g.fNet.fBits)then some (Zaq.mk g true d e)else(Zjd g.fNet h).bind fun i=>need (0<=i/\i<((2:Nat):Int))<|ix2 i ( (ZfS fu d g).bind fun o=>some (Zaq.mk b f o e)) ( (ZfS fu e g).bind fun p=>some (Zaq.mk b f d p)))
instance ZKw:∀{b},∀{d f},Con (ZfS b d f) (eS 264 [.one (Zaq.c d),.agg (Zas.c f)] fun r=>.one (Zaq.c r)):=by
 intro b;induction b with
 |zero=>exact⟨fun h=>by cases h⟩
 |succ b p=>intro d f;exact kS Tryz.func264 ((by cases d with|nil=>exact kK true<|kX 2 ⟨[],[],[],[],[(1,[(6,Zaq.c Zaq.nil),(7,Zaq.c Zaq.nil)])],[],[]⟩<|kR [12] [] []|mk g i j n=>exact kK false<|kC fun _=>kB (kD 4 5 [(100000,32)] [] fun _=>kX 4 ⟨[],[],[],[],[(2,[(6,Zaq.c Zaq.nil),(7,Zaq.c Zaq.nil)])],[],[]⟩<|kR0) (kB (kR [6] [] []) (kC fun _=>kNm fun o=>kI2 o (fun e=>by subst e;exact kH (show 0<=(0:Int)/\(0:Int)<((2:Nat):Int)from(by decide))<|kC fun _=>kH (show 0<=(0:Int)/\(0:Int)<((2:Nat):Int)from(by decide))<|kR [6] [] []) fun e=>by subst e;exact kH (show 0<=(1:Int)/\(1:Int)<((2:Nat):Int)from(by decide))<|kC fun _=>kH (show 0<=(1:Int)/\(1:Int)<((2:Nat):Int)from(by decide))<|kR [6] [] []))))
def ZeC(g:Int)(o:ZaG)(f:Zae):Option ZaG:=(match o with | .nil=>none | .mk b d e=>(ZhD f).bind fun p=>bif(!p)then some (ZaG.mk b d e)else(Zho (ZaG.mk b d e) f).bind fun r=>bif(!r.2)then(ZhK f.fAddr).bind fun h=>need (0<=h/\h<((2:Nat):Int))<|ix2 h ( (ZfS 1000 b (Zas.mk f g)).bind fun t=>some (ZaG.mk t d (Zan e 1))) ( (ZfS 1000 d (Zas.mk f g)).bind fun u=>some (ZaG.mk b u (Zan e 1)))else(ZhK f.fAddr).bind fun i=>need (0<=i/\i<((2:Nat):Int))<|ix2 i ( (ZfS 1000 b (Zas.mk f g)).bind fun j=>some (ZaG.mk j d e)) ( (ZfS 1000 d (Zas.mk f g)).bind fun n=>some (ZaG.mk b n e)))
theorem Zlc{g}{d b}:LS z Tryz.f231 [1,1] (ZeC g d b) (fun r=>.one (ZaG.c r)) ⟨[(0,.one (ZaG.c d)),(2,(Yj g)),(4,.one (.ptr 4 0))],[(4,.box (Zae.c b))]⟩:=by
 unfold ZeC;exact(by cases d with|nil=>exact kZ|mk h i j=>exact kC fun _=>kB (kR [7] [] []) (kC fun _=>kB (kC fun _=>kNm fun n=>kI2 n (fun e=>by subst e;exact kH (show 0<=(0:Int)/\(0:Int)<((2:Nat):Int)from(by decide))<|kC fun _=>kH (show 0<=(0:Int)/\(0:Int)<((2:Nat):Int)from(by decide))<|kR [7] [] []) fun e=>by subst e;exact kH (show 0<=(1:Int)/\(1:Int)<((2:Nat):Int)from(by decide))<|kC fun _=>kH (show 0<=(1:Int)/\(1:Int)<((2:Nat):Int)from(by decide))<|kR [7] [] []) (kC fun _=>kNm fun f=>kI2 f (fun e=>by subst e;exact kH (show 0<=(0:Int)/\(0:Int)<((2:Nat):Int)from(by decide))<|kC fun _=>kH (show 0<=(0:Int)/\(0:Int)<((2:Nat):Int)from(by decide))<|kR [7] [] []) fun e=>by subst e;exact kH (show 0<=(1:Int)/\(1:Int)<((2:Nat):Int)from(by decide))<|kC fun _=>kH (show 0<=(1:Int)/\(1:Int)<((2:Nat):Int)from(by decide))<|kR [7] [] [])))
def Zet(h:ZaG)(f:Zae)(g:Int):Option ZaG:=(match h with | .nil=>(ZpE).bind fun i=>ZeC g i f | .mk b d e=>ZeC g (ZaG.mk b d e) f)
instance ZCY{b d e}:Con (Zet b d e) (eS 231 [.one (ZaG.c b),.agg (Zae.c d),Yj e] fun r=>.one (ZaG.c r)):=kS Tryz.func231 (by
 unfold Zet
 exact(by cases b with|nil=>exact kK true<|kC fun _=>kL 7 Zlc|mk f g h=>exact kK false<|kL 7 Zlc))
def Zen(h:Int):Nat->ZaG->(List Zac)->Int->Int->Option ZaG|0,_,_,_,_=>none|fu+1,g,e,f,b=>bif(decide (b<f))then need (0<=b/\b<(e.length:Int))<|(Zho g ((e.getD b.toNat Zac.d).fNet)).bind fun i=>(Zoy (e.getD b.toNat Zac.d) h).bind fun j=>bif j then bif(!i.2)then(Zet g ((e.getD b.toNat Zac.d).fNet) ((e.getD b.toNat Zac.d).fUntil)).bind fun n=>Zen h fu n e f (Zan b 1)else bif(decide (i.1<(e.getD b.toNat Zac.d).fUntil))then(Zet g ((e.getD b.toNat Zac.d).fNet) ((e.getD b.toNat Zac.d).fUntil)).bind fun o=>Zen h fu o e f (Zan b 1)else Zen h fu g e f (Zan b 1)else Zen h fu g e f (Zan b 1)else some g
theorem ZrB{h}:∀{f i b d e},LS z Tryz.f190 [1,1,0,1,0] (Zen h f i b d e) (fun r=>.one (ZaG.c r)) ⟨[(1,(Yj h)),(5,.one (ZaG.c i)),(11,(Yl b)),(12,(Yj d)),(13,(Yj e))],[]⟩:=by
 intro f;induction f with
 |zero=>exact kZ
 |succ f g=>exact kB (kN<|kC fun _=>kC fun _=>kB (kB (kK true<|kC fun _=>kL 19 g) (kB (kC fun _=>kL 19 g) (kL 19 g))) (kK false<|kL 19 g)) kR0
def Znl(b:List Zac)(d:Int):Option ZaG:=(ZpE).bind fun e=>Zen d (((b.length:Int)-(0:Int)).toNat+2) e b (b.length:Int) (0:Int)
instance ZJA{b d}:Con (Znl b d) (eS 190 [Yl b,Yj d] fun r=>.one (ZaG.c r)):=kS Tryz.func190 (kC fun _=>kL 8 ZrB)
def Zln(b:Zae)(d:Zaf):Option Bool:=(ZhD b).bind fun e=>bif e then(ZeW d).bind fun f=>bif f then bif(b.fAddr.fV6==d.fV6)then(ZiV d b.fBits).bind fun g=>some (decide (g=b.fAddr))else some false else some false else some false
instance ZLU{b d}:Con (Zln b d) (eS 228 [.agg (Zae.c b),.agg (Zaf.c d)] Yk):=kS Tryz.func228 (kC fun _=>kB (kC fun _=>kB (kB (kC fun e=>kQ 1 21 (Znw e b.fAddr (.tmp 23) (.tmp 25))<|kR0) kR0) (kK false<|kR0)) (kK false<|kK false<|kR0))
def Zbu:Nat->Zaq->(List Zas)->Zaf->Option (List Zas)|0,_,_,_=>none|fu+1,n,d,g=>(match n with | .nil=>some d | .mk b h e f=>(Zln b.fNet g).bind fun o=>bif o then bif h then need ((d++([b]:List Zas)).length * 40<=140737488355328/\(d++([b]:List Zas)).length<=maxLen)<|(Zin g b.fNet.fBits).bind fun i=>need (0<=i/\i<((2:Nat):Int))<|ix2 i ( Zbu fu e (d++([b]:List Zas)) g) ( Zbu fu f (d++([b]:List Zas)) g)else(Zin g b.fNet.fBits).bind fun j=>need (0<=j/\j<((2:Nat):Int))<|ix2 j ( Zbu fu e d g) ( Zbu fu f d g)else some d)
theorem ZkI:∀{h i f g},LH z Tryz.f191 [1,1,1,1,0,0] (Zbu h i f g) (mN 99999 208 5 Zas.c Zas.d) m6 ⟨[(3,.one (.ptr 3 0)),(5,.one (.osl 5 f.length)),(6,.one (Zaq.c i))],[(mM 5 208 5 Zas.c Zas.d f),(3,.box (Zaf.c g))]⟩:=by
 intro h;induction h with
 |zero=>intros;unfold Zbu;exact kZ
 |succ h j=>intro i f g;unfold Zbu;exact(by cases i with|nil=>exact kK false<|kK false<|kRH (mL [4] [5] [(5,99999)]) none|mk b t u v=>exact kK true<|kC fun _=>kB (kB (kNm fun n=>kE fun _ y=>kNm fun o=>kI2 o (fun e=>by subst e;exact kM 2 5 Zas.E ([b]:List Zas)<|kH (ZqB (sz:=5) (e:=Zas.c) (d:=Zas.d) f ([b]:List Zas))<|kH n.1<|kH n.2<|kJ y<|kH (show 0<=(0:Int)/\(0:Int)<((2:Nat):Int)from(by decide))<|kX 2 (rA [(6,.c ((f++([b]:List Zas)).length) (Zaj Zas.c Zas.d (f++([b]:List Zas))))])<|kLr 15 [(42,5)] j) fun e=>by subst e;exact kM 2 5 Zas.E ([b]:List Zas)<|kH (ZqB (sz:=5) (e:=Zas.c) (d:=Zas.d) f ([b]:List Zas))<|kH n.1<|kH n.2<|kJ y<|kH (show 0<=(1:Int)/\(1:Int)<((2:Nat):Int)from(by decide))<|kX 2 (rA [(6,.c ((f++([b]:List Zas)).length) (Zaj Zas.c Zas.d (f++([b]:List Zas))))])<|kLr 15 [(42,5)] j) (kC fun _=>kNm fun p=>kI2 p (fun e=>by subst e;exact kH (show 0<=(0:Int)/\(0:Int)<((2:Nat):Int)from(by decide))<|kL 15 j) fun e=>by subst e;exact kH (show 0<=(1:Int)/\(1:Int)<((2:Nat):Int)from(by decide))<|kL 15 j)) (kRH (mL [4] [5] [(5,99999)]) none))
def ZfK(h:ZaG)(e:Zaf):Option (List Zas):=(match h with | .nil=>some ([]:List Zas) | .mk b d g=>(ZeW e).bind fun i=>bif(!i)then some ([]:List Zas)else(ZhK e).bind fun f=>need (0<=f/\f<((2:Nat):Int))<|ix2 f ( Zbu 1000000 b ([]) e) ( Zbu 1000000 d ([]) e))
instance ZBl{b f}:ConH (ZfK b f) (eH 191 [] [.one (ZaG.c b),.agg (Zaf.c f)] (fun r=>[(99999,.rows 208 5 r.length (Zaj Zas.c Zas.d r))]) m6):=kHC Tryz.func191 (by
 unfold ZfK
 exact(by cases b with|nil=>exact kK true<|kK true<|kRH ⟨[],[],[],[],[(4,99999,208,5,Zaj Zas.c Zas.d [])],[4],[99999],[]⟩ none|mk g h i=>exact kK false<|kC fun _=>kB (kRH ⟨[],[],[],[],[(4,99999,208,5,Zaj Zas.c Zas.d [])],[4],[99999],[]⟩ none) (kC fun _=>kNm fun j=>kI2 j (fun e=>by subst e;exact kH (show 0<=(0:Int)/\(0:Int)<((2:Nat):Int)from(by decide))<|kLx 13 [] [] [] [] [(5,5,208,5,Zaj Zas.c Zas.d [])] [] ZkI) fun e=>by subst e;exact kH (show 0<=(1:Int)/\(1:Int)<((2:Nat):Int)from(by decide))<|kLx 13 [] [] [] [] [(5,5,208,5,Zaj Zas.c Zas.d [])] [] ZkI)))
instance ZBg{b e}:Con (ZfK b e) (eS 191 [.one (ZaG.c b),.agg (Zaf.c e)] fun r=>.one (cL 5 Zas.c Zas.d r)):=Con.of fun r h=>(show ZdB _ _ _ _ _ _ from ConH.ok h).pure
def ZiX:Nat->Int->(List Zas)->Int->Int->Option Int|0,_,_,_,_=>none|fu+1,g,e,f,b=>bif(decide (b<f))then need (0<=b/\b<(e.length:Int))<|ZiX fu (if(e.getD b.toNat Zas.d).fV>g then(e.getD b.toNat Zas.d).fV else g) e f (Zan b 1)else some g
theorem ZrC:∀{g h b e f},LS z Tryz.f133 [1,1,1,1,0,1,0] (ZiX g h b e f) Yj ⟨[(8,(Yj h)),(23,.one (cL 5 Zas.c Zas.d b)),(24,(Yj e)),(25,(Yj f))],[]⟩:=by
 intro g;induction g with
 |zero=>exact kZ
 |succ g i=>exact kB (kN<|kL 14 i) kR0
def ZiY(e:List Zac)(f:Zaf)(g:Int):Option Int:=(Znl e g).bind fun h=>(ZfK h f).bind fun b=>bif((b.length:Int)==(0:Int))then some (0:Int)else need (0<=(0:Int)/\(0:Int)<(b.length:Int))<|ZiX (((b.length:Int)-(0:Int)).toNat+2) ((b.getD (0:Int).toNat Zas.d).fV) b (b.length:Int) (0:Int)
instance ZJB{b d e}:Con (ZiY b d e) (eS 133 [Yl b,.agg (Zaf.c d),Yj e] Yj):=kS Tryz.func133 (kC fun _=>kC fun _=>kB kR0 (kN<|kL 15 ZrC))
def Zdg(b:Zap):Option (Int×Zap):=(ZiY b.fs.fBans b.fx.fEnd.fAddr b.fx.fNow).bind fun d=>some (d,b)
instance ZAm{b}:ConH (Zdg b) (eH 55 [(100000,.box (Zap.c b))] [.one (.ptr 100000 0)] (fun r=>[(100000,.box (Zap.c r.2))]) fun r=>(Yj r.1)):=kHC Tryz.func55 (kC fun _=>kRH ⟨[],[],[],[],[],[2],[100000],[]⟩ (some [100000]))
def Znt(b:Zaa)(c0:Zah):Option Bool:=some (decide (b.fEnd=c0))
instance ZFs{b c0}:Con (Znt b c0) (eS 165 [.agg (Zaa.c b),.one (.rp false 4 (fun j=>(Zah.c c0:List C).getD (0+j) .junk))] Yk):=kS Tryz.func165 (kQ 1 3 (Zmm b.fEnd c0 (.tmp 5) (.tmp 6))<|kR0)
def Zbf(f:List Zaa)(b:Zah):Nat->Int->Int->Option Int|0,_,_=>none|fu+1,g,e=>bif(decide (e<g))then need (0<=e/\e<(f.length:Int))<|(Znt (f.getD e.toNat Zaa.d) b).bind fun h=>bif h then some e else Zbf f b fu g (Zan e 1)else some (-1:Int)
theorem Zhb{e b}:∀{d f g},LS z Tryz.f164 [1,0,1,0] (Zbf e b d f g) Yj ⟨[(0,(Ym e)),(1,.one (mO 165 0 1 [] [.rp false 4 (fun j=>(Zah.c b:List C).getD (0+j) .junk)])),(7,(Yj f)),(8,(Yj g))],[]⟩:=by
 intro d;induction d with
 |zero=>exact kZ
 |succ d h=>exact kB (kN<|kC fun _=>kB kR0 (kL 17 h)) kR0
def Zdh(d:List Zaa)(b:Zah):Option Int:=Zbf d b (((d.length:Int)-(0:Int)).toNat+2) (d.length:Int) (0:Int)
instance ZoF{d b}:Con (Zdh d b) (eS 164 [Ym d,.one (.clo (.func 165) 0 1 (fun i=>([]:List C).getD i .junk) (fun i=>([.rp false 4 (fun j=>(Zah.c b:List C).getD (0+j) .junk)]:List C).getD i .junk))] Yj):=kS Tryz.func164 (kL 6 Zhb)
def ZeO(b:List Zaa)(d:Zah):Option Int:=(Zdh b d).bind fun e=>some e
instance ZJc{b d}:Con (ZeO b d) (eS 111 [Ym b,.agg (Zah.c d)] Yj):=kS Tryz.func111 (kC fun _=>kX 1 ⟨[],[],[(1,[3])],[],[],[],[]⟩<|kR0)
def Zfl(f:Bool):Nat->Int->(List Zaa)->Int->Int->Option Int|0,_,_,_,_=>none|fu+1,g,e,h,b=>bif(decide (b<h))then need (0<=b/\b<(e.length:Int))<|bif((e.getD b.toNat Zaa.d).fIn==f)then Zfl f fu (Zan g 1) e h (Zan b 1)else Zfl f fu g e h (Zan b 1)else some g
theorem Zqs{e}:∀{d f g h b},LS z Tryz.f36 [1,1,0,1,0] (Zfl e d f g h b) Yj ⟨[(1,(Yk e)),(5,(Yj f)),(8,(Ym g)),(9,(Yj h)),(10,(Yj b))],[]⟩:=by
 intro d;induction d with
 |zero=>exact kZ
 |succ d i=>exact kB (kN<|kB (kL 17 i) (kL 17 i)) kR0
def ZhL(b:List Zaa)(d:Bool):Option Int:=Zfl d (((b.length:Int)-(0:Int)).toNat+2) (0:Int) b (b.length:Int) (0:Int)
instance ZHf{b d}:Con (ZhL b d) (eS 36 [Ym b,Yk d] Yj):=kS Tryz.func36 (kL 8 Zqs)
def ZdU(b:Int):Option Int:=some (if(1099511627776:Int)<(if(0:Int)>b then(0:Int)else b)then(1099511627776:Int)else(if(0:Int)>b then(0:Int)else b))
instance ZMR{b}:Con (ZdU b) (eS 157 [Yj b] Yj):=kS Tryz.func157 (kR0)
def Zms(d:Zah)(e:Bool)(f:Int):Option Zaa:=(ZdU f).bind fun b=>some (Zaa.mk d e b (Zat.mk 0 b) 0 0)
instance ZLN{b d e}:Con (Zms b d e) (eS 167 [.agg (Zah.c b),Yk d,Yj e] (mR Zaa.c)):=kS Tryz.func167 (kC fun _=>kR0)
def ZgB(b d:Int):Option Bool:=bif(decide (b>=(0:Int)))then some (decide (b<=d))else some false
instance ZHm{b d}:Con (ZgB b d) (eS 158 [Yj b,Yj d] Yk):=kS Tryz.func158 (kB kR0 kR0)
def ZhA(b:Zaa):Option Bool:=(ZiP b.fEnd).bind fun d=>bif d then(ZgB b.fSince (1099511627776:Int)).bind fun e=>bif e then(ZgB b.fScore.fAt (1099511627776:Int)).bind fun f=>bif f then(ZgB b.fWork (1099511627776:Int)).bind fun g=>bif g then(ZgB b.fScore.fPoints (1099511627776:Int)).bind fun h=>bif h then(ZgB b.fPing (1048576:Int)).bind fun i=>some i else some false else some false else some false else some false else some false
instance ZJf{b}:Con (ZhA b) (eS 100 [.agg (Zaa.c b)] Yk):=kS Tryz.func100 (kC fun _=>kB (kC fun _=>kB (kC fun _=>kB (kC fun _=>kB (kC fun _=>kB (kC fun _=>kR0) kR0) (kK false<|kR0)) (kK false<|kK false<|kR0)) (kK false<|kK false<|kK false<|kR0)) (kK false<|kK false<|kK false<|kK false<|kR0))
def Zla(b:Zaf):Option Int:=bif b.fV6 then some (1:Int)else some (0:Int)
instance ZHx{b}:Con (Zla b) (eS 205 [.agg (Zaf.c b)] Yj):=kS Tryz.func205 (kB kR0 kR0)
def ZkU(b:Int):Option Bool:=some (b != b)
instance ZEE{b}:Con (ZkU b) (eS 207 [Yj b] Yk):=kS Tryz.func207 (kR0)
def Zcq(b d:Int):Option Int:=(ZkU b).bind fun f=>(ZkU d).bind fun e=>bif f then bif e then some (0:Int)else some (-1:Int)else bif e then some (1:Int)else bif(decide (b<d))then some (-1:Int)else bif(decide (b>d))then some (1:Int)else some (0:Int)
instance ZBj{b d}:Con (Zcq b d) (eS 156 [Yj b,Yj d] Yj):=kS Tryz.func156 (kC fun _=>kC fun _=>kB (kB kR0 kR0) (kB kR0 (kB kR0 (kB kR0 kR0))))
def ZiE(b:Int):Option Bool:=some (b != b)
instance ZAl{b}:Con (ZiE b) (eS 245 [.one (.lit (.int .u64 b))] Yk):=kS Tryz.func245 (kR0)
def Zes(b d:Int):Option Int:=(ZiE b).bind fun f=>(ZiE d).bind fun e=>bif f then bif e then some (0:Int)else some (-1:Int)else bif e then some (1:Int)else bif(decide (b<d))then some (-1:Int)else bif(decide (b>d))then some (1:Int)else some (0:Int)
instance ZxR{b d}:Con (Zes b d) (eS 206 [.one (.lit (.int .u64 b)),.one (.lit (.int .u64 d))] Yj):=kS Tryz.func206 (kC fun _=>kC fun _=>kB (kB kR0 kR0) (kB kR0 (kB kR0 (kB kR0 kR0))))
def ZiU:Nat->Int->(List Int)->Int->Int->Option Int|0,_,_,_,_=>none|fu+1,e,d,f,b=>bif(decide (b<f))then need (0<=b/\b<(d.length:Int))<|bif((d.getD b.toNat (0:Int)) != e)then some (d.getD b.toNat (0:Int))else ZiU fu e d f (Zan b 1)else some e
theorem Zrx:∀{b d e f g},LS z Tryz.f154 [1,1,0,1,0] (ZiU b d e f g) Yj ⟨[(3,(Yj d)),(6,.one (cL 1 mQ (0:Int) e)),(7,(Yj f)),(8,(Yj g))],[]⟩:=by
 intro b;induction b with
 |zero=>exact kZ
 |succ b h=>exact kB (kN<|kB kR0 (kL 17 h)) kR0
def Zev(b:List Int):Option Int:=ZiU (((b.length:Int)-(0:Int)).toNat+2) (0:Int) b (b.length:Int) (0:Int)
instance ZJs{b}:Con (Zev b) (eS 154 [.one (cL 1 (cI .i64) (0:Int) b)] Yj):=kS Tryz.func154 (kL 8 Zrx)
def ZjW(b d:Zaf):Option Int:=(Zla b).bind fun e=>(Zla d).bind fun f=>(Zcq e f).bind fun g=>(Zes b.fHi d.fHi).bind fun h=>(Zes b.fLo d.fLo).bind fun i=>(Zev ([g,h,i]:List Int)).bind fun j=>some j
instance ZFC{b d}:Con (ZjW b d) (eS 155 [.agg (Zaf.c b),.agg (Zaf.c d)] Yj):=kS Tryz.func155 (kC fun _=>kC fun _=>kC fun e=>kC fun f=>kC fun g=>kM 1 15 (eI .i64) ([e,f,g]:List Int)<|kC fun _=>kR0)
def famA(a:Zaf):Int:=if a.fV6 then 1 else 0
def cmpA(a b:Zaf):Int:=orI (cmpI (famA a) (famA b)) (orI (cmpI a.fHi b.fHi) (cmpI a.fLo b.fLo))
theorem ZqI(a b:Int):Zcq a b=some (cmpI a b):=by
 simp only[Zcq,ZkU,cmpI,bne_self_eq_false,Option.bind_some,cond_false];by_cases d:a<b<;>by_cases e:a>b<;>simp[d,e]<;>omega
theorem ZIB(a b:Int):Zes a b=some (cmpI a b):=by
 simp only[Zes,ZiE,cmpI,bne_self_eq_false,Option.bind_some,cond_false];by_cases d:a<b<;>by_cases e:a>b<;>simp[d,e]<;>omega
theorem or2(a b:Int):Zev [a,b]=some (orI a b):=by
 unfold Zev orI;simp only[List.length_cons,List.length_nil];rw[show (((0+1+1:Nat):Int)-0).toNat+2=4 from rfl];simp only[ZiU,show Zan 0 1=1 from rfl,show Zan 1 1=2 from rfl];simp only[Bool.cond_eq_ite,bne_iff_ne,ne_eq,ite_not,need];by_cases d:a=0<;>by_cases e:b=0<;>simp[d,e]
theorem or3(a b c:Int):Zev [a,b,c]=some (orI a (orI b c)):=by
 unfold Zev orI;simp only[List.length_cons,List.length_nil];rw[show (((0+1+1+1:Nat):Int)-0).toNat+2=5 from rfl];simp only[ZiU,show Zan 0 1=1 from rfl,show Zan 1 1=2 from rfl,show Zan 2 1=3 from rfl];simp only[Bool.cond_eq_ite,bne_iff_ne,ne_eq,ite_not,need];by_cases d:a=0<;>by_cases e:b=0<;>by_cases f:c=0<;>simp[d,e,f]
theorem ZDG(a b:Zaf):ZjW a b=some (cmpA a b):=by
 have d:∀c,Zla c=some (famA c):=fun c=>by unfold Zla famA;cases c.fV6<;>rfl
 simp only[ZjW,d,ZqI,ZIB,or3,Option.bind_some,cmpA]
theorem ZvP{a b:Int}:orI a b<0↔a<0\/(a=0/\b<0):=by unfold orI;constructor<;>intro h<;>(repeat' split at *)<;>omega
theorem ZvQ{a b:Int}:0<orI a b↔0<a\/(a=0/\0<b):=by unfold orI;constructor<;>intro h<;>(repeat' split at *)<;>omega
theorem Zti{a b:Int}:orI a b=0↔a=0/\b=0:=by unfold orI;constructor<;>intro h<;>(repeat' split at *)<;>omega
theorem ZNf{a b:Zaf}:famA a=famA b↔a.fV6=b.fV6:=by unfold famA;cases a.fV6<;>cases b.fV6<;>simp
theorem ZIF{a b:Zaf}:cmpA a b<0↔famA a<famA b\/(famA a=famA b/\(a.fHi<b.fHi\/(a.fHi=b.fHi/\a.fLo<b.fLo))):=by simp only[cmpA,ZvP,ZsA,ZiZ]
theorem ZNp{a b:Zaf}:0<cmpA a b↔famA b<famA a\/(famA a=famA b/\(b.fHi<a.fHi\/(a.fHi=b.fHi/\b.fLo<a.fLo))):=by simp only[cmpA,ZvQ,ZsB,ZiZ]
theorem ZnR{a b:Zaf}:cmpA a b=0↔a=b:=by
 simp only[cmpA,Zti,ZiZ,ZNf];obtain⟨v,hi,lo⟩:=a;obtain⟨v',cY,k7⟩:=b;simp
theorem Zwo{a b c:Zaf}(d:cmpA a b<0)(e:cmpA b c<0):cmpA a c<0:=by
 rw[ZIF]at *
 omega
theorem ZzL{a b:Zaf}:0<cmpA a b↔cmpA b a<0:=by
 rw[ZNp,ZIF];constructor<;>intro h<;>omega
def ZeM(b d:Zah):Option Int:=(ZjW b.fAddr d.fAddr).bind fun e=>(Zcq b.fPort d.fPort).bind fun f=>(Zev ([e,f]:List Int)).bind fun g=>some g
instance ZFz{b d}:Con (ZeM b d) (eS 99 [.agg (Zah.c b),.agg (Zah.c d)] Yj):=kS Tryz.func99 (kC fun e=>kC fun f=>kM 1 10 (eI .i64) ([e,f]:List Int)<|kC fun _=>kR0)
def ZeK(b d:Zaa):Option Int:=(ZeM b.fEnd d.fEnd).bind fun e=>some e
instance ZHc{b d}:Con (ZeK b d) (eS 101 [.agg (Zaa.c b),.agg (Zaa.c d)] Yj):=kS Tryz.func101 (kC fun _=>kR0)
def Zcn(b:List Zaa):Option (List Zaa):=need (0<b.length)<|need ((([]:List Zaa)++b).length * 80<=140737488355328/\(([]:List Zaa)++b).length<=maxLen)<|some (([]:List Zaa)++b)
theorem Zft(b r:List Zaa)(f:Zcn b=some r):Yp 135 [] [Ym b] [(mM 99999 64 10 Zaa.c Zaa.d r)] (.one (.osl 99999 r.length)):=by
 refine ZdB.of Tryz.func135 rfl rfl rfl rfl fun S0 w0=>?_;unfold Zcn at f;obtain⟨o1,g,f⟩:=Ys f;apply Yc f 9 [rz,rz,rA [(0,.c ([]:List Zaa).length (Zaj Zaa.c Zaa.d ([]:List Zaa))),(2,.c ((([]:List Zaa)++b).length) (Zaj Zaa.c Zaa.d (([]:List Zaa)++b)))]] [false] (mL [2] [7] [(7,99999)]) (mY o1 (nt false) (show ([]:List Zaa).length=0 from rfl) (nu (e:=Zaa.c) Zaa.d 10 (fun _=>rfl) ([]:List Zaa)) (ZqB (sz:=10) (e:=Zaa.c) (d:=Zaa.d) ([]:List Zaa) b) g.1 g.2)
theorem ZfO(x:Addr)(cap:Nat)(c:Nat->Nat->C):Yp 135 [] [.one (.lit (.slice (some x) 0 cap))] [(99999,.rows 64 10 0 c)] (.one (.osl 99999 0)):=by
 refine ZdB.of Tryz.func135 rfl rfl rfl rfl fun S0 w0=>?_;exact ZhH ZsE 9 _ _ [⟨[],[],[],[],[],[],[]⟩,⟨[(1,.r (Yk false) [])],[],[],[],[],[],[]⟩,⟨[(0,.c 0 c),(2,.c 0 c)],[],[],[],[],[],[]⟩] [false] (mL [2] [7] [(7,99999)])
  [∀w,(do eqGuard .eql 32 (.tmp 3) (.const (.slice none 0 0)) (.slice (some x) 0 cap) (.slice none 0 0);binOp .eql 32 (.slice (some x) 0 cap) (.slice none 0 0):Sem Value).run Tryz.prog w=.ok (.bool false) w,false=false,0=0,∀i j,i<0->j<10->c i j=([]:List C).getD (i * 10+j) .junk,Ext 10 0 0 c (fun _ _=>.junk) 0 c,0 * 80<=140737488355328,0<=maxLen] (by kernel_rfl) ⟨fun w=>by
   have hg:(eqGuard .eql 32 (.tmp 3) (.const (.slice none 0 0)) (.slice (some x) 0 cap) (.slice none 0 0)).run Tryz.prog w=.ok () w:=by simp[eqGuard]
   rw[Sem.run_bind,hg,Result.andThen_ok];exact Go.run_eql_slice_nil w _ _ (some x) 0 cap Tryz.underlying32,rfl,rfl,fun i j h=>absurd h (Nat.not_lt_zero i),⟨rfl,fun _ _ h=>absurd h (Nat.not_lt_zero _),fun _ _ h=>absurd h (Nat.not_lt_zero _)⟩,by decide,by decide,trivial⟩
theorem ZfN(cap:Nat)(c:Nat->Nat->C):Yp 135 [] [.one (.lit (.slice none 0 cap))] [(99999,.rows 64 10 0 c)] (.one (.osl 99999 0)):=by
 refine ZdB.of Tryz.func135 rfl rfl rfl rfl fun S0 w0=>?_;exact ZhH ZsE 8 _ _ [⟨[],[],[],[],[],[],[]⟩,⟨[(1,.r (Yk true) [])],[],[],[],[],[],[]⟩,⟨[],[],[],[],[],[],[]⟩] [true] ⟨[],[],[],[],[(2,99999,64,10,c)],[2],[99999],[]⟩
  [∀w,(do eqGuard .eql 32 (.tmp 3) (.const (.slice none 0 0)) (.slice none 0 cap) (.slice none 0 0);binOp .eql 32 (.slice none 0 cap) (.slice none 0 0):Sem Value).run Tryz.prog w=.ok (.bool true) w,true=true] (by kernel_rfl) ⟨fun w=>by
   have hg:(eqGuard .eql 32 (.tmp 3) (.const (.slice none 0 0)) (.slice none 0 cap) (.slice none 0 0)).run Tryz.prog w=.ok () w:=by simp[eqGuard]
   rw[Sem.run_bind,hg,Result.andThen_ok];exact Go.run_eql_slice_nil w _ _ none 0 cap Tryz.underlying32,rfl,trivial⟩
def Zav(b:List Zaa):Option (List Zaa):=need (b.length * 80<=140737488355328/\b.length<=maxLen)<|some b
theorem ZfM(b r:List Zaa)(e:Zav b=some r):Yp 135 [] [Ym b] [(99999,.rows 64 10 r.length (Zaj Zaa.c Zaa.d r))] (.one (.osl 99999 r.length)):=by
 obtain⟨o1,e⟩:=ZdI e;cases e;refine ZoC ⟨_,Tryz.func135,rfl,rfl⟩ (fun h cap=>?_) (fun h x cap=>?_) (fun h=>?_)
 .rw[h];exact ZfN cap _
 .rw[h];exact ZfO x cap _
 .refine Zft b b ?_;unfold Zcn;rw[Znd h,Znd (by simpa using o1)];simp
instance ZlU (b:List Zaa):ConH (Zav b) (eH 135 [] [Ym b] (fun(r:List Zaa)=>[(99999,.rows 64 10 r.length (Zaj Zaa.c Zaa.d r))]) m6):=ConH.of fun r e=>ZfM b r e
set_option maxHeartbeats 4000000 in
set_option maxRecDepth 100000 in
theorem ZyX (b n c i vb m vc : Nat) (cur aD : Array Value) (w : World) (hi : i < n) (hm : 0 < m) (hroom : n + m <= c) (cr : c <= maxLen) (iu : vb ≠ b)
    (bt:w.heap[b]? = some (.cells cur 64 (0,0))) (dy:cur.size = c * 10) (a8:w.heap[vb]? = some (.cells aD 64 (0,0))) (je:m<=vc) (bY:aD.size = vc * 10)
    (bQ : ∀ v ∈ cur.toList.take (n * 10),v.oneCell' = true) (d6 : ∀ v ∈ aD.toList.take (m * 10),v.oneCell' = true) :
    Calls Tryz.prog 210 #[.slice (some ⟨b,0,none⟩) n c,.int .i64 i,.slice (some ⟨vb,0,none⟩) m vc] w fun e w' =>
      ∃ R:Array Value,e = .returned (.slice (some ⟨b,0,none⟩) (n + m) c)/\w.drawn<=w'.drawn/\w.grownBy w' (some b)/\w'.heap[b]? = some (.cells R 64 (0,0))/\R.size = c * 10 /\
        R.toList.take ((n + m) * 10) = cur.toList.take (i * 10) ++ aD.toList.take (m * 10) ++ (cur.toList.drop (i * 10)).take ((n - i) * 10):=by
  have iv:=cr
  unfold maxLen at cr
  have hz1 : ¬ ((m:Int) = 0):=by omega
  have cg : ¬ ((i:Int) = (n:Int)):=by omega
  have eG:IntKind.i64.wrap ((i:Int) + (m:Int)) = (i:Int) + (m:Int):=by rw [IntKind.wrap_i64]; omega
  have kP:IntKind.i64.wrap ((n:Int) + (m:Int)) = (n:Int) + (m:Int):=by rw [IntKind.wrap_i64]; omega
  have bX:(0:Int)<=(i:Int) + (m:Int):=by omega
  have hin:i<=n:=by omega
  have j9:((i:Int) + (m:Int)).toNat = i + m:=by omega
  have bK : ¬ (c = i + m):=by omega
  have fM:(i:Int)<=(n:Int) + (m:Int):=by omega
  have hb4 : ¬ (c = i):=by omega
  have hov : ∀ o lb cb,(callFunc 248 #[.slice (some ⟨vb,0,none⟩) m vc,.slice (some ⟨b,o,none⟩) lb cb]).run Tryz.prog w = .ok (.value (.bool false)) w:=fun o lb cb =>by
    rw [run_callFunc_extern Tryz.func248 (by kernel_rfl) (by kernel_rfl) (by kernel_rfl) (e:=Extern.SlicesOverlaps.overlaps #[32,32] #[4]) (by kernel_rfl),
      Lib.run_overlaps_apart w 32 4 64 Tryz.underlying32 10 Tryz.sizeOf64 ⟨vb,0,none⟩ ⟨b,o,none⟩ m vc lb cb iu 64 64 aD.size cur.size (by simp [World.shape?,a8]) (by simp [World.shape?,bt]) (by omega) (by simp [World.frozen?,a8]) (by simp [World.frozen?,a8])]
    rfl
  have aX:(Tryz.prog.info? 64).map (·.size) = some 10:=by kernel_rfl
  obtain ⟨M1,fv⟩ : ∃ M1,M1 = Zdx cur.toList ((i + m) * 10) ((cur.toList.drop (i * 10)).take ((n - i) * 10)):=⟨_,rfl⟩
  have cu:M1.toArray.size = c * 10:=by
    rw [fv]; simp [Zdx]; omega
  have d7 : ∀ ty dc sc,(Builtin.copy_ #[32,32] ty #[.slice (some ⟨b,(i + m) * 10,none⟩) (n + m - (i + m)) dc,.slice (some ⟨b,i * 10,none⟩) (n + m - i) sc]).run Tryz.prog w.drew = .ok (goInt ((n - i:Nat):Int)) (w.drew.setRow b M1.toArray):=fun ty dc sc =>by
    have h:=ZdL (P:=Tryz.prog) w.drew 32 32 ty 64 10 b ((i + m) * 10) (n + m - (i + m)) dc ⟨b,i * 10,none⟩ (n + m - i) sc cur 64 ((cur.toList.drop (i * 10)).take ((n - i) * 10)) Tryz.underlying32 aX
      (by have : Nat.min (n + m - i) (n + m - (i + m)) = n - i := by simp only [Nat.min_def]; split <;> omega
          rw [this]; simp; omega)
      (fun j v hj =>by
        rw [ZcS]
        rw [List.getElem?_take] at hj
        split at hj
        . rw [List.getElem?_drop] at hj
          rw [show w.drew.cell? ⟨b,i * 10 + j,none⟩ = w.cell? ⟨b,i * 10 + j,none⟩ from rfl,cell_of_row w b _ cur 64 (0,0) bt]
          simpa using hj
        . cases hj)
      bt (by simp; omega) (fun v hv =>bQ v (by
        obtain ⟨j,hj⟩:=List.getElem?_of_mem hv
        rw [List.getElem?_take] at hj
        split at hj
        . rw [List.getElem?_drop] at hj
          exact List.mem_of_getElem? (i:=i * 10 + j) (by rw [List.getElem?_take,if_pos (by omega)]; exact hj)
        . cases hj))
    rw [show Nat.min (n + m - i) (n + m - (i + m)) = n - i by simp only [Nat.min_def]; split <;> omega,<- fv] at h
    exact h
  obtain ⟨W1,bJ⟩ : ∃ W1,W1 = w.drew.setRow b M1.toArray:=⟨_,rfl⟩
  have c9:W1.heap[b]? = some (.cells M1.toArray 64 (0,0)):=by
    rw [bJ]; exact setRow_heap _ _ _ _ _ _ bt
  have d8:W1.heap[vb]? = some (.cells aD 64 (0,0)):=by
    rw [bJ,setRow_other _ _ _ _ iu]; exact a8
  have d9 : ∀ (W:World),W.heap = W1.heap->∀ ty dc,(Builtin.copy_ #[32,32] ty #[.slice (some ⟨b,i * 10,none⟩) (n + m - i) dc,.slice (some ⟨vb,0,none⟩) m vc]).run Tryz.prog W = .ok (goInt (m:Int)) (W.setRow b (Zdx M1 (i * 10) (aD.toList.take (m * 10))).toArray):=fun W eh ty dc =>by
    have h:=ZdL (P:=Tryz.prog) W 32 32 ty 64 10 b (i * 10) (n + m - i) dc ⟨vb,0,none⟩ m vc M1.toArray 64 (aD.toList.take (m * 10)) Tryz.underlying32 aX
      (by have : Nat.min m (n + m - i) = m := by simp only [Nat.min_def]; split <;> omega
          rw [this]; simp; omega)
      (fun j v hj =>by
        rw [ZcS,Nat.zero_add]
        rw [List.getElem?_take] at hj
        split at hj
        . rw [cell_of_row W vb _ aD 64 (0,0) (by rw [eh]; exact d8)]
          simpa using hj
        . cases hj)
      (by rw [eh]; exact c9) (by simp at cu ⊢; omega) d6
    rw [show Nat.min m (n + m - i) = m by simp only [Nat.min_def]; split <;> omega] at h
    exact h
  rw [<- bJ] at d7
  obtain ⟨R3,hR3⟩ : ∃ R3,R3 = Zdx M1 (i * 10) (aD.toList.take (m * 10)):=⟨_,rfl⟩
  rw [<- hR3] at d9
  have b7:R3.length = c * 10:=by
    rw [hR3]; simp at cu; simp [Zdx]; omega
  have bk:R3.take ((n + m) * 10) = cur.toList.take (i * 10) ++ aD.toList.take (m * 10) ++ (cur.toList.drop (i * 10)).take ((n - i) * 10):=by
    have iw : M1.length = c * 10:=by simpa using cu
    have c4:(aD.toList.take (m * 10)).length = m * 10:=by simp; omega
    have gw:((cur.toList.drop (i * 10)).take ((n - i) * 10)).length = (n - i) * 10:=by simp; omega
    apply List.ext_getElem?
    intro k
    rw [List.getElem?_take]
    split
    . rename_i hk
      rw [hR3,Zfc _ _ _ (by rw [c4]; omega),fv,Zfc _ _ _ (by rw [gw]; simp; omega)]
      by_cases d:k < i * 10
      . rw [if_neg (by omega),if_neg (by omega),List.append_assoc,List.getElem?_append_left (by simp; omega),List.getElem?_take,if_pos d]
      . by_cases f:k < (i + m) * 10
        . rw [if_pos ⟨by omega,by rw [c4]; omega⟩,List.append_assoc,List.getElem?_append_right (by simp; omega),List.getElem?_append_left (by simp; omega)]
          congr 1; simp; omega
        . rw [if_neg (by rw [c4]; omega),if_pos ⟨by omega,by rw [gw]; omega⟩,List.getElem?_append_right (by rw [List.length_append,c4]; simp; omega)]
          congr 1; rw [List.length_append,c4]; simp; omega
    . rename_i hk
      rw [List.getElem?_eq_none (by rw [List.length_append,List.length_append,c4,gw]; simp; omega)]
  have iA:w.grownBy (W1.setRow b R3.toArray) (some b):=by
    rw [bJ]
    exact ⟨rfl,rfl,rfl,by simp,fun k _ hk =>by
      have hne:k ≠ b:=fun h =>hk (by rw [h])
      rw [setRow_other _ _ _ _ hne,setRow_other _ _ _ _ hne]
      rfl⟩
  have hat:=setRow_heap W1 b _ R3.toArray _ _ c9
  have HF:=Lib.hid bk; clear bk
  have HL:=Lib.hid b7; clear b7
  have cN:w.drawn<=(W1.setRow b R3.toArray).drawn:=by rw [bJ]; exact Nat.le_succ _
  have HG:=Lib.hid iA; clear iA
  have HD:=Lib.hid cN; clear cN
  have HA:=Lib.hid hat; clear hat
  clear cu c9 d8 bQ d6 aX hR3
  clear bJ
  clear fv
  have mixed:Tryz.prog.follows .mixedOrders = true:=by kernel_rfl
  go_enter Tryz.func210,Tryz.ntmps210
  go_wp2_with (simp only [hov])
  go_region_law_o (refine step_copy_runI rfl _ _ 32 32 rfl _ _ (by simp [Act.eval,Act.put]) (by simp [Act.eval,Act.put]) (d7 _ _ _) ?_)
  go_wp2_with (at_builtin; refine wpList_copy_runI _ rfl _ _ 32 32 rfl _ _ rfl rfl (d9 _ rfl _ _) ?_)
  go_ret
  exact ⟨R3.toArray,rfl,HD.out,HG.out,HA.out,HL.out,HF.out⟩
set_option maxHeartbeats 4000000 in
set_option maxRecDepth 100000 in
theorem ZBd (b n c i vb m vc : Nat) (cur aD : Array Value) (w : World) (hi : i < n) (hm : 0 < m) (fX : n <= c) (hroom : c < n + m) (eJ : (n + m) * 80 <= 140737488355328)
    (bt:w.heap[b]? = some (.cells cur 64 (0,0))) (dy:cur.size = c * 10) (a8:w.heap[vb]? = some (.cells aD 64 (0,0))) (je:m<=vc) (bY:aD.size = vc * 10)
    (bQ : ∀ v ∈ cur.toList.take (n * 10),v.oneCell' = true) (d6 : ∀ v ∈ aD.toList.take (m * 10),v.oneCell' = true) :
    Calls Tryz.prog 210 #[.slice (some ⟨b,0,none⟩) n c,.int .i64 i,.slice (some ⟨vb,0,none⟩) m vc] w fun e w' =>
      ∃ (G:Nat) (R:Array Value),e = .returned (.slice (some ⟨w.heap.size,0,none⟩) (n + m) G)/\w.drawn<=w'.drawn/\Below w.heap.size w w'/\w'.heap[w.heap.size]? = some (.cells R 64 (0,0))/\n + m<=G/\G<=maxLen/\R.size = G * 10 /\
        R.toList.take ((n + m) * 10) = cur.toList.take (i * 10) ++ aD.toList.take (m * 10) ++ (cur.toList.drop (i * 10)).take ((n - i) * 10):=by
  have hz1 : ¬ ((m:Int) = 0):=by omega
  have cg : ¬ ((i:Int) = (n:Int)):=by omega
  have hz3:(c:Int) < (n:Int) + (m:Int):=by omega
  have hC:(n:Int) + (m:Int) - (i:Int) = ((n + m - i:Nat):Int):=by omega
  have hik:i + (n + m - i) = n + m:=by omega
  have ka:b < w.heap.size:=(Array.getElem?_eq_some_iff.1 bt).1
  have kb:vb < w.heap.size:=(Array.getElem?_eq_some_iff.1 a8).1
  have iV:b ≠ w.heap.size:=by omega
  have hvN:vb ≠ w.heap.size:=by omega
  obtain ⟨i0,hi0,bV,db,dE⟩:=ZAz.info (t:=64) (show ZdS tab 64 = some _ from rfl)
  replace bV:i0.size = 10:=bV
  replace db:i0.bytes = 80:=db
  replace dE:i0.zero = some (.agg #[.bool false,.int .u64 (0),.int .u64 (0),.int .i64 (0),.bool false,.int .i64 (0),.int .i64 (0),.int .i64 (0),.int .i64 (0),.int .i64 (0)]):=dE
  have aX:(Tryz.prog.info? 64).map (·.size) = some 10:=by kernel_rfl
  have bW:(Builtin.firstCells i0.size i (.slice (some ⟨b,0,none⟩) i c)).run Tryz.prog w.drew = .ok (cur.toList.take (i * 10)).toArray w.drew:=by
    rw [bV]
    exact run_firstCells_some w.drew 10 i ⟨b,0,none⟩ i c (cur.toList.take (i * 10)) (by simp; omega) (fun j v hj =>by
      rw [ZcS,Nat.zero_add]
      rw [List.getElem?_take] at hj
      split at hj
      . rw [show w.drew.cell? ⟨b,j,none⟩ = w.cell? ⟨b,j,none⟩ from rfl,cell_of_row w b _ cur 64 (0,0) bt]
        simpa using hj
      . cases hj)
  obtain ⟨G,hG⟩ : ∃ G,G = grownCap w (n + m) c 64:=⟨_,rfl⟩
  obtain ⟨cw,cy⟩ : ∃ cw:Array Value,cw = (cur.toList.take (i * 10)).toArray ++ Builtin.zeroCells (Value.cells (.agg #[.bool false,.int .u64 (0),.int .u64 (0),.int .i64 (0),.bool false,.int .i64 (0),.int .i64 (0),.int .i64 (0),.int .i64 (0),.int .i64 (0)])) (n + m - i) ++ Builtin.zeroCells (Value.cells (.agg #[.bool false,.int .u64 (0),.int .u64 (0),.int .i64 (0),.bool false,.int .i64 (0),.int .i64 (0),.int .i64 (0),.int .i64 (0),.int .i64 (0)])) (G - (n + m)):=⟨_,rfl⟩
  have iB : ∀ ty, (Builtin.append_ #[32, 3] ty #[.slice (some ⟨b, 0, none⟩) i c, .int .i64 ((n : Int) + (m : Int) - (i : Int))]).run Tryz.prog w =
      .ok (.slice (some ⟨w.heap.size,0,none⟩) (n + m) G) (w.drew.alloc (.cells cw 64)):=fun ty =>by
    have h:=Lib.run_append_grow_zeros w 32 3 ty 64 i0 _ .i64 .i64 Tryz.underlying32 Tryz.underlying3 hi0 dE (some ⟨b,0,none⟩) i c (cur.toList.take (i * 10)) bW (n + m - i) (by omega) (by omega) (by omega) (by omega) (by rw [db]; omega) (by rw [db,hik]; exact growslice_fits hroom eJ)
    rw [hik,<- hG,<- cy] at h
    rw [hC]
    exact h
  have hGn:n + m<=G:=by rw [hG]; exact grownCap_ge w _ _ _
  have hGm:G<=maxLen:=by rw [hG]; exact grownCap_le_maxLen w (n + m) c 64 (by unfold maxLen; omega)
  have hRs:cw.size = G * 10:=by
    rw [cy]
    simp [Builtin.zeroCells,Value.cells]
    omega
  have hRt:cw.toList.take (i * 10) = cur.toList.take (i * 10):=by
    rw [cy]
    simp only [Array.toList_append,List.append_assoc]
    rw [List.take_append_of_le_length (by simp; omega)]
    simp [List.take_take]
  clear cy hG bW
  obtain ⟨W1,bJ⟩ : ∃ W1,W1 = w.drew.alloc (.cells cw 64):=⟨_,rfl⟩
  have gx:W1.heap[w.heap.size]? = some (.cells cw 64 (0,0)):=by rw [bJ]; exact heap_alloc_new w.drew _
  have iC:W1.heap[b]? = some (.cells cur 64 (0,0)):=by rw [bJ,heap_alloc_old w.drew _ ka]; exact bt
  have iD:W1.heap[vb]? = some (.cells aD 64 (0,0)):=by rw [bJ,heap_alloc_old w.drew _ kb]; exact a8
  obtain ⟨V,hV⟩ : ∃ V,V = aD.toList.take (m * 10):=⟨_,rfl⟩
  have cz:V.length = m * 10:=by rw [hV]; simp; omega
  obtain ⟨D,hD⟩ : ∃ D,D = (cur.toList.drop (i * 10)).take ((n - i) * 10):=⟨_,rfl⟩
  have de:D.length = (n - i) * 10:=by rw [hD]; simp; omega
  obtain ⟨R2,hR2⟩ : ∃ R2,R2 = Zdx cw.toList (i * 10) V:=⟨_,rfl⟩
  have el:R2.length = G * 10:=by rw [hR2]; simp [Zdx,cz]; omega
  obtain ⟨R3,hR3⟩ : ∃ R3,R3 = Zdx R2 ((i + m) * 10) D:=⟨_,rfl⟩
  have b7:R3.length = G * 10:=by rw [hR3]; simp [Zdx,de]; omega
  have bk:R3.take ((n + m) * 10) = cur.toList.take (i * 10) ++ V ++ D:=by
    apply List.ext_getElem?
    intro k
    rw [List.getElem?_take]
    split
    . rename_i hk
      rw [hR3,Zfc _ _ _ (by rw [de]; omega),hR2,Zfc _ _ _ (by rw [cz]; simp; omega)]
      by_cases d:k < i * 10
      . rw [if_neg (by omega),if_neg (by omega),List.append_assoc,List.getElem?_append_left (by simp; omega),<- hRt,List.getElem?_take,if_pos d]
      . by_cases f:k < (i + m) * 10
        . rw [if_neg (by omega),if_pos ⟨by omega,by rw [cz]; omega⟩,List.append_assoc,List.getElem?_append_right (by simp; omega),List.getElem?_append_left (by simp; omega)]
          congr 1; simp; omega
        . rw [if_pos ⟨by omega,by rw [de]; omega⟩,List.getElem?_append_right (by simp [cz]; omega)]
          congr 1; simp [cz]; omega
    . rename_i hk
      rw [List.getElem?_eq_none (by simp [cz,de]; omega)]
  have gy : ∀ (W:World),W.heap = W1.heap->∀ ty dc,(Builtin.copy_ #[32,32] ty #[.slice (some ⟨w.heap.size,i * 10,none⟩) (n + m - i) dc,.slice (some ⟨vb,0,none⟩) m vc]).run Tryz.prog W = .ok (goInt (m:Int)) (W.setRow w.heap.size R2.toArray):=fun W eh ty dc =>by
    have h:=ZdL (P:=Tryz.prog) W 32 32 ty 64 10 w.heap.size (i * 10) (n + m - i) dc ⟨vb,0,none⟩ m vc cw 64 V Tryz.underlying32 aX
      (by have : Nat.min m (n + m - i) = m := by simp only [Nat.min_def]; split <;> omega
          rw [this,cz])
      (fun j v hj =>by
        rw [hV] at hj
        rw [ZcS,Nat.zero_add]
        rw [List.getElem?_take] at hj
        split at hj
        . rw [cell_of_row W vb _ aD 64 (0,0) (by rw [eh]; exact iD)]
          simpa using hj
        . cases hj)
      (by rw [eh]; exact gx) (by rw [cz,hRs]; omega) (by rw [hV]; exact d6)
    rw [show Nat.min m (n + m - i) = m by simp only [Nat.min_def]; split <;> omega,<- hR2] at h
    exact h
  have eo : ∀ (W:World),W.heap[w.heap.size]? = some (.cells R2.toArray 64 (0,0))->W.heap[b]? = some (.cells cur 64 (0,0))->∀ ty dc sc,(Builtin.copy_ #[32,32] ty #[.slice (some ⟨w.heap.size,(i + m) * 10,none⟩) (n + m - (i + m)) dc,.slice (some ⟨b,i * 10,none⟩) (n - i) sc]).run Tryz.prog W = .ok (goInt ((n - i:Nat):Int)) (W.setRow w.heap.size R3.toArray):=fun W hN hB ty dc sc =>by
    have h:=ZdL (P:=Tryz.prog) W 32 32 ty 64 10 w.heap.size ((i + m) * 10) (n + m - (i + m)) dc ⟨b,i * 10,none⟩ (n - i) sc R2.toArray 64 D Tryz.underlying32 aX
      (by have : Nat.min (n - i) (n + m - (i + m)) = n - i := by simp only [Nat.min_def]; split <;> omega
          rw [this,de])
      (fun j v hj =>by
        rw [hD] at hj
        rw [ZcS]
        rw [List.getElem?_take] at hj
        split at hj
        . rw [List.getElem?_drop] at hj
          rw [cell_of_row W b _ cur 64 (0,0) hB]
          simpa using hj
        . cases hj)
      hN (by simp [de,el]; omega) (fun v hv =>bQ v (by
        rw [hD] at hv
        obtain ⟨j,hj⟩:=List.getElem?_of_mem hv
        rw [List.getElem?_take] at hj
        split at hj
        . rw [List.getElem?_drop] at hj
          exact List.mem_of_getElem? (i:=i * 10 + j) (by rw [List.getElem?_take,if_pos (by omega)]; exact hj)
        . cases hj))
    rw [show Nat.min (n - i) (n + m - (i + m)) = n - i by simp only [Nat.min_def]; split <;> omega] at h
    rw [show R2.toArray.toList = R2 from rfl,<- hR3] at h
    exact h
  have df:(W1.setRow w.heap.size R2.toArray).heap[w.heap.size]? = some (.cells R2.toArray 64 (0,0)):=setRow_heap _ _ _ _ _ _ gx
  have eq:(W1.setRow w.heap.size R2.toArray).heap[b]? = some (.cells cur 64 (0,0)):=by rw [setRow_other _ _ _ _ iV]; exact iC
  have bG:Below w.heap.size w W1:=by
    rw [bJ]
    exact ⟨rfl,rfl,rfl,by simp,fun k hk =>heap_alloc_old w.drew _ hk⟩
  have mixed:Tryz.prog.follows .mixedOrders = true:=by kernel_rfl
  have cN:w.drawn<=W1.drawn:=by rw [bJ]; exact Nat.le_succ _
  have HW:=Lib.hid cN; clear cN
  have HF:=Lib.hid bk; clear bk
  have hGi : ¬ (G = i):=by omega
  have kc : ¬ (G = i + m):=by omega
  have hci : ¬ (c = i):=by omega
  have ke:=hGm
  unfold maxLen at ke
  have hin:i<=n:=by omega
  have j9:((i:Int) + (m:Int)).toNat = i + m:=by omega
  have eG:IntKind.i64.wrap ((i:Int) + (m:Int)) = (i:Int) + (m:Int):=by rw [IntKind.wrap_i64]; omega
  have bX:(0:Int)<=(i:Int) + (m:Int):=by omega
  have fM:(i:Int)<=(n:Int):=by omega
  rw [<- hV,<- hD]
  rw [<- bJ] at iB
  clear hV hD cz de hR2 el hR3 hRt hi0 db bV dE aX hRs hC hik gx iC iD dy bY bQ d6 bt a8 bJ
  have kh:=Lib.hid b7; clear b7
  go_enter Tryz.func210,Tryz.ntmps210
  go_wp2_with (first
    | (at_builtin; refine Lib.wpList_append_run _ rfl _ _ _ _ rfl _ _ rfl rfl _ _ (iB _) ?_)
    | (at_builtin; refine wpList_copy_runI _ rfl _ _ 32 32 rfl _ _ rfl rfl (gy _ rfl _ _) ?_)
    | (at_builtin; refine wpList_copy_runI _ rfl _ _ 32 32 rfl _ _ rfl rfl (eo _ (by first | exact df | assumption) (by first | exact eq | assumption) _ _ _) ?_))
  go_region_law_o (refine step_copy_runI rfl _ _ 32 32 rfl (.slice (some ⟨w.heap.size,(i + m) * 10,none⟩) (n + m - (i + m)) (G - (i + m))) (.slice (some ⟨b,i * 10,none⟩) (n - i) (c - i)) (by simp [Act.eval,Act.put]) (by simp [Act.eval,Act.put]) (eo (W1.setRow w.heap.size R2.toArray).drew df eq 3 (G - (i + m)) (c - i)) ?_)
  go_wp2
  go_ret
  exact ⟨G,R3.toArray,rfl,Nat.le_trans HW.out (by simp [World.setRow]),⟨bG.os,bG.tape,bG.output,by simpa using bG.size,fun k hk =>by rw [setRow_other _ _ _ _ (by omega)]; exact (setRow_other _ _ _ _ (by omega)).trans (bG.block k hk)⟩,setRow_heap _ _ _ _ _ _ df,hGn,hGm,kh.out,HF.out⟩
set_option maxHeartbeats 4000000 in
set_option maxRecDepth 100000 in
theorem ZEv(bc:Option Addr)(n c vb m vc:Nat)(w w':World)(v':Value)(fX:n<=c)(cr:c<=maxLen)(hm:0<m)(eY:bc=none->n=0)(gz:m<=maxLen)
  (hrun:∀ty,(Builtin.append_ #[32,32] ty #[.slice bc n c,.slice (some ⟨vb,0,none⟩) m vc]).run Tryz.prog w=.ok v' w') :
  Calls Tryz.prog 210 #[.slice bc n c,.int .i64 n,.slice (some ⟨vb,0,none⟩) m vc] w fun e b=>e=.returned v'/\w'=b:=by
 have hz1:¬((m:Int)=0):=by omega
 unfold maxLen at cr gz;cases bc with
 |none=>
  have h0:=eY rfl;subst h0
  go_enter Tryz.func210,Tryz.ntmps210
  go_wp2_with (at_builtin;refine Lib.wpList_append_run _ rfl _ _ _ _ rfl _ _ rfl rfl _ _ (hrun _) ?_)
  go_ret
  exact⟨rfl,rfl⟩
 |some a=>
  obtain⟨ab,ao,asp⟩:=a
  go_enter Tryz.func210,Tryz.ntmps210
  go_wp2_with (at_builtin;refine Lib.wpList_append_run _ rfl _ _ _ _ rfl _ _ rfl rfl _ _ (hrun _) ?_)
  all_goals (go_ret;exact⟨rfl,rfl⟩)
def ZaR(b:List Zaa)(d:Int)(e:List Zaa):Option (List Zaa):=need (0<=d/\d.toNat<=b.length/\0<e.length/\(b.length+e.length) * 80<=140737488355328/\b.length+e.length<=maxLen)<|some (b.take d.toNat++e++b.drop d.toNat)
theorem ZfG(j:List Zaa)(C:Int)(o r:List Zaa)(D:ZaR j C o=some r) :
  Yp 210 [(mM 100000 64 10 Zaa.c Zaa.d j),(mM 100001 64 10 Zaa.c Zaa.d o)] [.one (.osl 100000 j.length),Yj C,.one (.osl 100001 o.length)]
   [(mM 99999 64 10 Zaa.c Zaa.d r)] (.one (.osl 99999 r.length)):=by
 obtain⟨⟨o1,I,J,L,M⟩,D⟩:=ZdI D;cases D;obtain⟨i0,hi0,bV,db,dE⟩:=ZAz.info (t:=64) (show ZdS tab 64=some _ from rfl);have h:=Zql (enc:=Zaa.c) (d:=Zaa.d) (F:=210) (BY:=80) (K:=10) ⟨_,Tryz.func210,rfl,rfl⟩ Tryz.underlying32 hi0 dE bV db rfl (by decide) (fun b n c i vb m vc cur aD w p u v y A B E G H e f g=>ZyX b n c i vb m vc cur aD w p u v y A B E G H e f g)
  (fun b n c i vb m vc cur aD w p u v y A B E G H e f g=>ZBd b n c i vb m vc cur aD w p u v y A B E G H e f g)
  (fun bc n c vb m vc w w' v' p u v y A B=>ZEv bc n c vb m vc w w' v' p u v y A B) j o C.toNat I J L M
 rw[Int.toNat_of_nonneg o1]at h;exact h
instance ZlS (b:List Zaa) (f:Int) (e:List Zaa):ConH (ZaR b f e) (eH 210 [(100000,.rows 64 10 b.length (Zaj Zaa.c Zaa.d b)),(100001,.rows 64 10 e.length (Zaj Zaa.c Zaa.d e))] [.one (.osl 100000 b.length),Yj f,.one (.osl 100001 e.length)] (fun(r:List Zaa)=>[(99999,.rows 64 10 r.length (Zaj Zaa.c Zaa.d r))]) m6):=ConH.of fun r g=>ZfG b f e r g
def Zol(b c0:Zaa):Option Bool:=(ZeK b c0).bind fun d=>some (decide (d>(0:Int)))
instance ZHg{b c0}:Con (Zol b c0) (eS 209 [.agg (Zaa.c b),.one (.rp false 10 (fun j=>(Zaa.c c0:List C).getD (0+j) .junk))] Yk):=kS Tryz.func209 (kC fun _=>kR0)
def Zbe(f:List Zaa)(b:Zaa):Nat->Int->Int->Option Int|0,_,_=>none|fu+1,g,e=>bif(decide (e<g))then need (0<=e/\e<(f.length:Int))<|(Zol (f.getD e.toNat Zaa.d) b).bind fun h=>bif h then some e else Zbe f b fu g (Zan e 1)else some (-1:Int)
theorem Zha{e b}:∀{d f g},LS z Tryz.f164 [1,0,1,0] (Zbe e b d f g) Yj ⟨[(0,(Ym e)),(1,.one (mO 209 0 1 [] [.rp false 10 (fun j=>(Zaa.c b:List C).getD (0+j) .junk)])),(7,(Yj f)),(8,(Yj g))],[]⟩:=by
 intro d;induction d with
 |zero=>exact kZ
 |succ d h=>exact kB (kN<|kC fun _=>kB kR0 (kL 17 h)) kR0
def Zco(d:List Zaa)(b:Zaa):Option Int:=Zbe d b (((d.length:Int)-(0:Int)).toNat+2) (d.length:Int) (0:Int)
instance ZoE{d b}:Con (Zco d b) (eS 164 [Ym d,.one (.clo (.func 209) 0 1 (fun i=>([]:List C).getD i .junk) (fun i=>([.rp false 10 (fun j=>(Zaa.c b:List C).getD (0+j) .junk)]:List C).getD i .junk))] Yj):=kS Tryz.func164 (kL 6 Zha)
def Zom(b:List Zaa)(d:Zaa):Option ((List Zaa)×Int):=(ZhA d).bind fun f=>bif(!f)then some (([]:(List Zaa)),(1:Int))else(ZeO b d.fEnd).bind fun g=>bif(decide (g>=(0:Int)))then some (([]:(List Zaa)),(7:Int))else(Zco b d).bind fun e=>bif(decide (e<(0:Int)))then(Zav b).bind fun h=>(ZaR h (b.length:Int) ([d]:List Zaa)).bind fun i=>some (i,(0:Int))else(Zav b).bind fun j=>(ZaR j e ([d]:List Zaa)).bind fun n=>some (n,(0:Int))
instance ZKy{f b}:Con (Zom f b) (eS 166 [Ym f,.agg (Zaa.c b)] fun r=>.tup [(false,(cLs 10 Zaa.c Zaa.d) r.1),(false,(cI .i64) r.2)]):=kS Tryz.func166 (kC fun _=>kB (kR [] [] [(4,[(0,cL 10 Zaa.c Zaa.d [])])]) (kC fun _=>kB (kR [] [] [(4,[(0,cL 10 Zaa.c Zaa.d [])])]) (kC fun _=>kB (kD 6 1 [] [(99999,25)] fun _=>kH (show ([b]:List Zaa).length=1 from rfl)<|kH (show ∀i j,i<1->j<10->Zaj Zaa.c Zaa.d ([b]:List Zaa) i j=(([b]:List Zaa).flatMap Zaa.c).getD (i * 10+j) .junk from(fun i j hi hj=>ZdG (sz:=10) (e:=Zaa.c) (d:=Zaa.d) (fun _=>rfl) ([b]:List Zaa) i j hi hj))<|kD 6 5 [(100000,25),(100001,28)] [(99999,29)] fun _=>kX 3 ⟨[],[],[(1,[3])],[],[],[],[]⟩<|kX 6 (rA [(4,.c ([b]:List Zaa).length (Zaj Zaa.c Zaa.d ([b]:List Zaa)))])<|kR [29] [] []) (kD 5 1 [] [(99999,25)] fun _=>kH (show ([b]:List Zaa).length=1 from rfl)<|kH (show ∀i j,i<1->j<10->Zaj Zaa.c Zaa.d ([b]:List Zaa) i j=(([b]:List Zaa).flatMap Zaa.c).getD (i * 10+j) .junk from(fun i j hi hj=>ZdG (sz:=10) (e:=Zaa.c) (d:=Zaa.d) (fun _=>rfl) ([b]:List Zaa) i j hi hj))<|kD 5 5 [(100000,25),(100001,28)] [(99999,29)] fun _=>kX 3 ⟨[],[],[(1,[3])],[],[],[],[]⟩<|kX 5 (rA [(4,.c ([b]:List Zaa).length (Zaj Zaa.c Zaa.d ([b]:List Zaa)))])<|kR [29] [] []))))
def ZdQ(b:Zap)(e:Bool):Option Zap:=(Zms b.fx.fEnd e b.fx.fNow).bind fun f=>(Zom b.fs.fPeers f).bind fun d=>bif(d.2==(0:Int))then some (Zap.mk b.fc (Zak.mk b.fs.fBans b.fs.fBook d.1) b.fx)else some b
instance Zzk{b d}:ConH (ZdQ b d) (eH 112 [(100000,.box (Zap.c b))] [.one (.ptr 100000 0),Yk d] (fun r=>[(100000,.box (Zap.c r))]) fun r=>(.tup [])):=kHC Tryz.func112 (kC fun _=>kC fun _=>kB (kRH ⟨[],[],[],[],[],[],[100000],[]⟩ (some [100000])) (kRH ⟨[],[],[],[],[],[],[100000],[]⟩ (some [100000])))
def ZfV:Nat->(List Zaa)->Int->Int->(List Zaa)->Option (List Zaa)|0,_,_,_,_=>none|fu+1,e,g,b,f=>bif(decide (b<g))then need (0<=b/\b<(e.length:Int))<|bif(e.getD b.toNat Zaa.d).fIn then need ((f++([(e.getD b.toNat Zaa.d)]:List Zaa)).length * 80<=140737488355328/\(f++([(e.getD b.toNat Zaa.d)]:List Zaa)).length<=maxLen)<|ZfV fu e g (Zan b 1) (f++([(e.getD b.toNat Zaa.d)]:List Zaa))else ZfV fu e g (Zan b 1) f else some f
theorem Zru:∀{e f h g b},LH z Tryz.f211 [1,1,0,1,0] (ZfV e f h g b) (mN 99999 64 10 Zaa.c Zaa.d) m6 ⟨[(3,.one (.osl 3 b.length)),(6,(Ym f)),(7,(Yj h)),(8,(Yj g))],[(mM 3 64 10 Zaa.c Zaa.d b)]⟩:=by
 intro e;induction e with
 |zero=>exact kZ
 |succ e i=>intro f h g b;exact kB (kN<|kB (kM 3 2 Zaa.E ([(f.getD g.toNat Zaa.d)]:List Zaa)<|kA 3 3 Zaa.E<|kLr 17 [(17,3)] i) (kL 17 i)) (kRH (mL [2] [3] [(3,99999)]) none)
def ZlG(b:List Zaa):Option (List Zaa):=ZfV (((b.length:Int)-(0:Int)).toNat+2) b (b.length:Int) (0:Int) ([])
instance ZJH{b}:ConH (ZlG b) (eH 211 [] [Ym b] (fun r=>[(99999,.rows 64 10 r.length (Zaj Zaa.c Zaa.d r))]) m6):=kHC Tryz.func211 (kLx 8 [] [] [] [] [(3,3,64,10,Zaj Zaa.c Zaa.d [])] [] Zru)
instance ZJk{b}:Con (ZlG b) (eS 211 [Ym b] Ym):=Con.of fun r h=>(show ZdB _ _ _ _ _ _ from ConH.ok h).pure
def Znu(b:Zay):Option (Zbk×Zbk×Zbk×Zbk):=some ((Zbk.mk 1 b.fGroup),(Zbk.mk 2 b.fPing),(Zbk.mk 3 b.fWork),(Zbk.mk 4 b.fTime))
instance ZFu{b}:Con (Znu b) (eS 250 [.agg (Zay.c b)] fun r=>.agg ((cP Zbk.c (cP Zbk.c (cP Zbk.c Zbk.c))) r)):=kS Tryz.func250 (kR0)
def Zgs(f:List Zaa):Nat->(List Int)->Int->Int->(List Zaa)->Option (List Zaa)|0,_,_,_,_=>none|fu+1,e,g,b,h=>bif(decide (b<g))then need (0<=b/\b<(e.length:Int))<|need (0<=(e.getD b.toNat (0:Int))/\(e.getD b.toNat (0:Int))<(f.length:Int))<|need ((h++([(f.getD (e.getD b.toNat (0:Int)).toNat Zaa.d)]:List Zaa)).length * 80<=140737488355328/\(h++([(f.getD (e.getD b.toNat (0:Int)).toNat Zaa.d)]:List Zaa)).length<=maxLen)<|Zgs f fu e g (Zan b 1) (h++([(f.getD (e.getD b.toNat (0:Int)).toNat Zaa.d)]:List Zaa))else some h
theorem Zqt{i}:∀{h b f e g},LH z Tryz.f253 [1,1,0,1,0] (Zgs i h b f e g) (mN 99999 64 10 Zaa.c Zaa.d) m6 ⟨[(0,(Ym i)),(5,.one (.osl 5 g.length)),(11,.one (cL 1 mQ (0:Int) b)),(12,(Yj f)),(13,(Yj e))],[(mM 5 64 10 Zaa.c Zaa.d g)]⟩:=by
 intro h;induction h with
 |zero=>exact kZ
 |succ h j=>intro b f e g;exact kB (kN<|kN<|kM 2 5 Zaa.E ([(i.getD (b.getD e.toNat (0:Int)).toNat Zaa.d)]:List Zaa)<|kA 2 6 Zaa.E<|kLr 14 [(23,5)] j) (kRH (mL [4] [5] [(5,99999)]) none)
def ZdN(d:List Zaa)(b:List Int):Option (List Zaa):=need (0<=(0:Int)/\(0:Int)<=(b.length:Int)/\(b.length:Int)<=140737488355328/\(b.length:Int) * 80<=140737488355328)<|Zgs d (((b.length:Int)-(0:Int)).toNat+2) b (b.length:Int) (0:Int) ([]:List Zaa)
instance ZHA{b e}:ConH (ZdN b e) (eH 253 [] [Ym b,.one (cL 1 (cI .i64) (0:Int) e)] (fun r=>[(99999,.rows 64 10 r.length (Zaj Zaa.c Zaa.d r))]) m6):=kHC Tryz.func253 (kH (show (0:Int)=((0:Nat):Int)from rfl)<|kNm fun o1=>kH o1.2.1<|kH o1.2.2.1<|kH o1.2.2.2<|kH (show ∀i j,i<0->j<10->ZpO (([.lit (.bool false),.lit (.int .u64 (0)),.lit (.int .u64 (0)),.lit (.int .i64 (0)),.lit (.bool false),.lit (.int .i64 (0)),.lit (.int .i64 (0)),.lit (.int .i64 (0)),.lit (.int .i64 (0)),.lit (.int .i64 (0))]:List C).getD j .junk) (Zaj Zaa.c Zaa.d ([]:List Zaa) i j)from(fun i j h=>absurd h (Nat.not_lt_zero i)))<|kH (show ([]:List Zaa).length=0 from rfl)<|kX 1 (rA [(2,.c 0 (Zaj Zaa.c Zaa.d ([]:List Zaa)))])<|kLx 8 [] [] [] [(5,(([]:List Zaa).length))] [] [(10,5)] Zqt)
instance ZHi{b d}:Con (ZdN b d) (eS 253 [Ym b,.one (cL 1 (cI .i64) (0:Int) d)] Ym):=Con.of fun r h=>(show ZdB _ _ _ _ _ _ from ConH.ok h).pure
def Zkc(b:Int)(e:Bool)(d:Zaa):Option Bool:=bif e then some true else bif(b==(2:Int))then some (decide (d.fPing>(0:Int)))else bif(b==(3:Int))then some (decide (d.fWork>(0:Int)))else some false
theorem ZmC{d e b}:LS z Tryz.f270 [1,0,1,0,1] (Zkc d e b) Yk ⟨[(2,.one (.ptr 2 0)),(5,(Yj d)),(6,(Yk e))],[(2,.box (Zaa.c b))]⟩:=kB kR0 (kB kR0 (kB kR0 kR0))
def Zmf(d:Zaa)(b:Int):Option Bool:=bif(b==(1:Int))then Zkc b (b==(1:Int)) d else Zkc b (b==(4:Int)) d
instance ZHl{b d}:Con (Zmf b d) (eS 270 [.agg (Zaa.c b),Yj d] Yk):=kS Tryz.func270 (kB (kL 11 ZmC) (kL 11 ZmC))
def ZlF(b:Zaf):Option Int:=bif b.fV6 then some (32:Int)else some (16:Int)
instance ZJj{b}:Con (ZlF b) (eS 254 [.agg (Zaf.c b)] Yj):=kS Tryz.func254 (kB kR0 kR0)
def Zgt(b:Zaf):Option Zae:=(ZlF b).bind fun d=>(Zga b d).bind fun e=>some e.1
instance ZLR{b}:Con (Zgt b) (eS 214 [.agg (Zaf.c b)] (mR Zae.c)):=kS Tryz.func214 (kC fun _=>kC fun _=>kR0)
def ZnL(b:Int):Option Int:=some (IntKind.wrap .u64 (((BitVec.ofInt (IntKind.bits .u64) (IntKind.wrap .u64 ((IntKind.wrap .u64 (((BitVec.ofInt (IntKind.bits .u64) (IntKind.wrap .u64 ((IntKind.wrap .u64 (((BitVec.ofInt (IntKind.bits .u64) b) ^^^ (BitVec.ofInt (IntKind.bits .u64) (Int.fdiv b (2 ^ (min (30:Int).toNat (IntKind.bits .u64)))))).toNat:Int))*(13787848793156543929:Int)))) ^^^ (BitVec.ofInt (IntKind.bits .u64) (Int.fdiv (IntKind.wrap .u64 ((IntKind.wrap .u64 (((BitVec.ofInt (IntKind.bits .u64) b) ^^^ (BitVec.ofInt (IntKind.bits .u64) (Int.fdiv b (2 ^ (min (30:Int).toNat (IntKind.bits .u64)))))).toNat:Int))*(13787848793156543929:Int))) (2 ^ (min (27:Int).toNat (IntKind.bits .u64)))))).toNat:Int))*(10723151780598845931:Int)))) ^^^ (BitVec.ofInt (IntKind.bits .u64) (Int.fdiv (IntKind.wrap .u64 ((IntKind.wrap .u64 (((BitVec.ofInt (IntKind.bits .u64) (IntKind.wrap .u64 ((IntKind.wrap .u64 (((BitVec.ofInt (IntKind.bits .u64) b) ^^^ (BitVec.ofInt (IntKind.bits .u64) (Int.fdiv b (2 ^ (min (30:Int).toNat (IntKind.bits .u64)))))).toNat:Int))*(13787848793156543929:Int)))) ^^^ (BitVec.ofInt (IntKind.bits .u64) (Int.fdiv (IntKind.wrap .u64 ((IntKind.wrap .u64 (((BitVec.ofInt (IntKind.bits .u64) b) ^^^ (BitVec.ofInt (IntKind.bits .u64) (Int.fdiv b (2 ^ (min (30:Int).toNat (IntKind.bits .u64)))))).toNat:Int))*(13787848793156543929:Int))) (2 ^ (min (27:Int).toNat (IntKind.bits .u64)))))).toNat:Int))*(10723151780598845931:Int))) (2 ^ (min (31:Int).toNat (IntKind.bits .u64)))))).toNat:Int))
instance ZMT{b}:Con (ZnL b) (eS 316 [.one (.lit (.int .u64 b))] fun r=>.one (.lit (.int .u64 r))):=kS Tryz.func316 (kH (show 0<=(30:Int)from(by decide))<|kH (show 0<=(27:Int)from(by decide))<|kH (show 0<=(31:Int)from(by decide))<|kR0)
def Zfe(d b:Int):Option Int:=need (0<=(IntKind.wrap .u64 (((BitVec.ofInt (IntKind.bits .u64) (IntKind.wrap .u64 b)) &&& (BitVec.ofInt (IntKind.bits .u64) (63:Int))).toNat:Int)))<|need (0<=(IntKind.wrap .u64 ((64:Int)-(IntKind.wrap .u64 (((BitVec.ofInt (IntKind.bits .u64) (IntKind.wrap .u64 b)) &&& (BitVec.ofInt (IntKind.bits .u64) (63:Int))).toNat:Int)))))<|some (IntKind.wrap .u64 (((BitVec.ofInt (IntKind.bits .u64) (IntKind.wrap .u64 (d * 2 ^ (min (IntKind.wrap .u64 (((BitVec.ofInt (IntKind.bits .u64) (IntKind.wrap .u64 b)) &&& (BitVec.ofInt (IntKind.bits .u64) (63:Int))).toNat:Int)).toNat (IntKind.bits .u64))))) ||| (BitVec.ofInt (IntKind.bits .u64) (Int.fdiv d (2 ^ (min (IntKind.wrap .u64 ((64:Int)-(IntKind.wrap .u64 (((BitVec.ofInt (IntKind.bits .u64) (IntKind.wrap .u64 b)) &&& (BitVec.ofInt (IntKind.bits .u64) (63:Int))).toNat:Int)))).toNat (IntKind.bits .u64)))))).toNat:Int))
instance Zvk{b d}:Con (Zfe b d) (eS 317 [.one (.lit (.int .u64 b)),Yj d] fun r=>.one (.lit (.int .u64 r))):=kS Tryz.func317 (kN<|kN<|kR0)
def ZmE:Nat->Int->(List Int)->Int->Int->Option Int|0,_,_,_,_=>none|fu+1,f,d,e,b=>bif(decide (b<e))then need (0<=b/\b<(d.length:Int))<|(Zfe f (7:Int)).bind fun g=>(ZnL (IntKind.wrap .u64 ((d.getD b.toNat (0:Int))+(11400714819323198485:Int)))).bind fun h=>(ZnL (IntKind.wrap .u64 (((BitVec.ofInt (IntKind.bits .u64) g) ^^^ (BitVec.ofInt (IntKind.bits .u64) h)).toNat:Int))).bind fun i=>ZmE fu i d e (Zan b 1)else some f
theorem Zvq:∀{f g b d e},LS z Tryz.f314 [1,1,0,1,0] (ZmE f g b d e) (fun r=>.one (.lit (.int .u64 r))) ⟨[(5,.one (.lit (.int .u64 g))),(11,.one (cL 1 (cI .u64) (0:Int) b)),(12,(Yj d)),(13,(Yj e))],[]⟩:=by
 intro f;induction f with
 |zero=>exact kZ
 |succ f h=>exact kB (kN<|kC fun _=>kC fun _=>kC fun _=>kL 14 h) kR0
def Zrt(d:Int)(b:List Int):Option Int:=(ZnL (IntKind.wrap .u64 (d+(11400714819323198485:Int)))).bind fun e=>ZmE (((b.length:Int)-(0:Int)).toNat+2) e b (b.length:Int) (0:Int)
instance ZNy{b d}:Con (Zrt b d) (eS 314 [.one (.lit (.int .u64 b)),.one (cL 1 (cI .u64) (0:Int) d)] fun r=>.one (.lit (.int .u64 r))):=kS Tryz.func314 (kC fun _=>kL 8 Zvq)
def ZoZ(d:Int)(b:Zae):Option Int:=bif b.fAddr.fV6 then(Zrt d ([(6:Int),b.fAddr.fHi,b.fAddr.fLo,(IntKind.wrap .u64 b.fBits)]:List Int)).bind fun e=>some e else(Zrt d ([(4:Int),b.fAddr.fHi,b.fAddr.fLo,(IntKind.wrap .u64 b.fBits)]:List Int)).bind fun f=>some f
instance ZMU{d b}:Con (ZoZ d b) (eS 307 [.one (.lit (.int .u64 d)),.agg (Zae.c b)] fun r=>.one (.lit (.int .u64 r))):=kS Tryz.func307 (kB (kM 4 11 (eI .u64) ([(6:Int),b.fAddr.fHi,b.fAddr.fLo,(IntKind.wrap .u64 b.fBits)]:List Int)<|kC fun _=>kR0) (kM 3 11 (eI .u64) ([(4:Int),b.fAddr.fHi,b.fAddr.fLo,(IntKind.wrap .u64 b.fBits)]:List Int)<|kC fun _=>kR0))
def ZnK(b:Zaa)(d:Int):Option Int:=(Zgt b.fEnd.fAddr).bind fun e=>(ZoZ d e).bind fun f=>some f
instance ZLM{b d}:Con (ZnK b d) (eS 295 [.agg (Zaa.c b),.one (.lit (.int .u64 d))] fun r=>.one (.lit (.int .u64 r))):=kS Tryz.func295 (kC fun _=>kC fun _=>kR0)
def Zlu(b d:Zaa)(e f:Int):Option Int:=bif(e==(1:Int))then(ZnK d f).bind fun g=>(ZnK b f).bind fun h=>(Zes g h).bind fun i=>some i else bif(e==(2:Int))then(Zcq b.fPing d.fPing).bind fun j=>some j else bif(e==(3:Int))then(Zcq d.fWork b.fWork).bind fun n=>some n else bif(e==(4:Int))then(Zcq b.fSince d.fSince).bind fun o=>some o else some (0:Int)
instance ZFv{b d e f}:Con (Zlu b d e f) (eS 288 [.agg (Zaa.c b),.agg (Zaa.c d),Yj e,.one (.lit (.int .u64 f))] Yj):=kS Tryz.func288 (kB (kC fun _=>kC fun _=>kC fun _=>kR0) (kB (kC fun _=>kR0) (kB (kC fun _=>kR0) (kB (kC fun _=>kR0) kR0))))
def Zoo(b d:Zaa)(e f:Int):Option Int:=(Zlu b d e f).bind fun g=>(ZeM b.fEnd d.fEnd).bind fun h=>(Zev ([g,h]:List Int)).bind fun i=>some i
instance ZKB{b d e f}:Con (Zoo b d e f) (eS 273 [.agg (Zaa.c b),.agg (Zaa.c d),Yj e,.one (.lit (.int .u64 f))] Yj):=kS Tryz.func273 (kC fun g=>kC fun h=>kM 1 10 (eI .i64) ([g,h]:List Int)<|kC fun _=>kR0)
def ZgS(b e:Int)(c0:List Zaa)(c1 c2:Int):Option Int:=need (0<=b/\b<(c0.length:Int))<|need (0<=e/\e<(c0.length:Int))<|(Zoo (c0.getD b.toNat Zaa.d) (c0.getD e.toNat Zaa.d) c1 c2).bind fun f=>some f
instance ZFw{b e c0 c1 c2}:Con (ZgS b e c0 c1 c2) (eS 272 [Yj b,Yj e,.one (.rp false 1 (fun j=>([cL 10 Zaa.c Zaa.d c0]:List C).getD (0+j) .junk)),.one (.rp false 1 (fun j=>([.lit (.int .i64 c1)]:List C).getD (0+j) .junk)),.one (.rp false 1 (fun j=>([.lit (.int .u64 c2)]:List C).getD (0+j) .junk))] Yj):=kS Tryz.func272 (kN<|kN<|kC fun _=>kR0)
def Zbs(i j:Int)(e:List Zaa)(f g h:Int)(ap:Int->(List Int)->Option (List Int)):Nat->Int->(List Int)->Option (List Int)|0,_,_=>none|fu+1,d,b=>bif(decide (d>i))then need (0<=d/\d<(b.length:Int))<|need (0<=(Zaz d (1:Int))/\(Zaz d (1:Int))<(b.length:Int))<|(ZgS (b.getD d.toNat (0:Int)) (b.getD ((Zaz d (1:Int)).toNat) (0:Int)) e f g).bind fun n=>bif(decide (n<(0:Int)))then Zbs i j e f g h ap fu (Zaz d (1:Int)) ((b.set d.toNat (b.getD ((Zaz d (1:Int)).toNat) (0:Int))).set ((Zaz d (1:Int)).toNat) (b.getD d.toNat (0:Int)))else ap (Zan h 1) b else ap (Zan h 1) b
theorem ZhR{v:Int}{y:Int}{g:(List Zaa)}{h:Int}{n:Int}{A:Int}{ap:Int->(List Int)->Option (List Int)}(aS:∀{o e},LH z Tryz.f293 [1,0] (ap o e) (mN 100000 3 1 mQ (0:Int)) (fun r=>(.tup [])) ⟨[(0,.one (.osl 100000 e.length)),(1,(Yj v)),(2,(Yj y)),(3,.one (mO 272 0 3 [] [mP [cL 10 Zaa.c Zaa.d g],mP [.lit (.int .i64 h)],mP [.lit (.int .u64 n)]])),(8,(Yj o))],[(mM 100000 3 1 mQ (0:Int) e)]⟩):∀{u f b},LH z Tryz.f293 [1,0,0,1,0,0,1,0] (Zbs v y g h n A ap u f b) (mN 100000 3 1 mQ (0:Int)) (fun r=>(.tup [])) ⟨[(0,.one (.osl 100000 b.length)),(1,(Yj v)),(2,(Yj y)),(3,.one (mO 272 0 3 [] [mP [cL 10 Zaa.c Zaa.d g],mP [.lit (.int .i64 h)],mP [.lit (.int .u64 n)]])),(8,(Yj A)),(9,(Yj f))],[(mM 100000 3 1 mQ (0:Int) b)]⟩:=by
 intro u;induction u with
 |zero=>exact kZ
 |succ u B=>intro f b;exact kB (kNq fun p=>kH (ltOf p)<|kNq fun t=>kH (ltOf t)<|kC fun _=>kB (kH t<|kH (ltOf t)<|kH p<|kH (ltOf p)<|kH p<|kW 1 15 (eI .i64) b f.toNat (b.getD ((Zaz f (1:Int)).toNat) (0:Int)) (ltOf p)<|kH t<|kW 1 17 (eI .i64) (b.set f.toNat (b.getD ((Zaz f (1:Int)).toNat) (0:Int))) ((Zaz f (1:Int)).toNat) (b.getD f.toNat (0:Int)) (by have:=ltOf t;simp at this ⊢;omega)<|kH (nt (((b.set f.toNat (b.getD ((Zaz f (1:Int)).toNat) (0:Int))).set ((Zaz f (1:Int)).toNat) (b.getD f.toNat (0:Int))).length))<|kLx 12 [] [] [] [(100000,(((b.set f.toNat (b.getD ((Zaz f (1:Int)).toNat) (0:Int))).set ((Zaz f (1:Int)).toNat) (b.getD f.toNat (0:Int))).length))] [] [] B) (kL 9 aS)) (kK false<|kL 9 aS)
def ZaP(h i:Int)(d:List Zaa)(e f:Int):Nat->Int->(List Int)->Option (List Int)|0,_,_=>none|fu+1,g,b=>bif(decide (g<i))then Zbs h i d e f g (ZaP h i d e f fu) ((g-h).toNat+2) g b else some b
theorem ZhS{n o e f g}:∀{h p b},LH z Tryz.f293 [1,0] (ZaP n o e f g h p b) (mN 100000 3 1 mQ (0:Int)) (fun r=>(.tup [])) ⟨[(0,.one (.osl 100000 b.length)),(1,(Yj n)),(2,(Yj o)),(3,.one (mO 272 0 3 [] [mP [cL 10 Zaa.c Zaa.d e],mP [.lit (.int .i64 f)],mP [.lit (.int .u64 g)]])),(8,(Yj p))],[(mM 100000 3 1 mQ (0:Int) b)]⟩:=by
 intro h;induction h with
 |zero=>exact kZ
 |succ h t=>exact kB (kL 11 (ZhR t)) (kRH (mJ [] [100000]) (some [100000]))
def Zce(h:List Int)(f g:Int)(b:List Zaa)(d e:Int):Option (List Int):=ZaP f g b d e ((g-(Zan f 1)).toNat+2) (Zan f 1) h
instance ZoY{g h n b e f}:ConH (Zce g h n b e f) (eH 293 [(100000,.rows 3 1 g.length (Zaj (cI .i64) (0:Int) g))] [.one (.osl 100000 g.length),Yj h,Yj n,.one (.clo (.func 272) 0 3 (fun i=>([]:List C).getD i .junk) (fun i=>([.rp false 1 (fun j=>([cL 10 Zaa.c Zaa.d b]:List C).getD (0+j) .junk),.rp false 1 (fun j=>([.lit (.int .i64 e)]:List C).getD (0+j) .junk),.rp false 1 (fun j=>([.lit (.int .u64 f)]:List C).getD (0+j) .junk)]:List C).getD i .junk))] (fun r=>[(100000,.rows 3 1 r.length (Zaj (cI .i64) (0:Int) r))]) fun r=>(.tup [])):=kHC Tryz.func293 (kL 3 ZhS)
def ZbK(e f g:Int):Nat->Int->(List Int)->Option (List Int)|0,_,_=>none|fu+1,d,b=>bif(decide (d<g))then need (0<=(Zan f d)/\(Zan f d)<(b.length:Int))<|need (0<=(Zan e d)/\(Zan e d)<(b.length:Int))<|ZbK e f g fu (Zan d 1) ((b.set ((Zan e d).toNat) (b.getD ((Zan f d).toNat) (0:Int))).set ((Zan f d).toNat) (b.getD ((Zan e d).toNat) (0:Int)))else some b
theorem ZiN{e f j}:∀{g d b},LH z Tryz.f313 [1,0] (ZbK e f j g d b) (mN 100000 3 1 mQ (0:Int)) (fun r=>(.tup [])) ⟨[(0,.one (.osl 100000 b.length)),(1,(Yj e)),(2,(Yj f)),(3,(Yj j)),(10,(Yj d))],[(mM 100000 3 1 mQ (0:Int) b)]⟩:=by
 intro g;induction g with
 |zero=>exact kZ
 |succ g n=>intro d b;exact kB (kNq fun h=>kH (ltOf h)<|kNq fun i=>kH (ltOf i)<|kH i<|kW 1 21 (eI .i64) b ((Zan e d).toNat) (b.getD ((Zan f d).toNat) (0:Int)) (ltOf i)<|kH h<|kW 1 23 (eI .i64) (b.set ((Zan e d).toNat) (b.getD ((Zan f d).toNat) (0:Int))) ((Zan f d).toNat) (b.getD ((Zan e d).toNat) (0:Int)) (by have:=ltOf h;simp at this ⊢;omega)<|kH (nt (((b.set ((Zan e d).toNat) (b.getD ((Zan f d).toNat) (0:Int))).set ((Zan f d).toNat) (b.getD ((Zan e d).toNat) (0:Int))).length))<|kLx 12 [] [] [] [(100000,(((b.set ((Zan e d).toNat) (b.getD ((Zan f d).toNat) (0:Int))).set ((Zan f d).toNat) (b.getD ((Zan e d).toNat) (0:Int))).length))] [] [] n) (kRH (mJ [] [100000]) (some [100000]))
def ZbZ(g:List Int)(h i b:Int)(d:List Zaa)(e f:Int):Option (List Int):=ZbK h i b ((b-(0:Int)).toNat+2) (0:Int) g
instance Zqo{g h n o b e f}:ConH (ZbZ g h n o b e f) (eH 313 [(100000,.rows 3 1 g.length (Zaj (cI .i64) (0:Int) g))] [.one (.osl 100000 g.length),Yj h,Yj n,Yj o,.one (.clo (.func 272) 0 3 (fun i=>([]:List C).getD i .junk) (fun i=>([.rp false 1 (fun j=>([cL 10 Zaa.c Zaa.d b]:List C).getD (0+j) .junk),.rp false 1 (fun j=>([.lit (.int .i64 e)]:List C).getD (0+j) .junk),.rp false 1 (fun j=>([.lit (.int .u64 f)]:List C).getD (0+j) .junk)]:List C).getD i .junk))] (fun r=>[(100000,.rows 3 1 r.length (Zaj (cI .i64) (0:Int) r))]) fun r=>(.tup [])):=kHC Tryz.func313 (kL 3 ZiN)
def Zca(i:Int)(e:List Zaa)(f g:Int):Nat->Int->Int->(List Int)->Option (List Int)|0,_,_,_=>none|fu+1,b,h,d=>bif(b != h)then bif(decide (b>h))then(ZbZ d (Zaz i b) i h e f g).bind fun j=>Zca i e f g fu (Zaz b h) h j else(ZbZ d (Zaz i b) (Zaz (Zan i h) b) b e f g).bind fun n=>Zca i e f g fu b (Zaz h b) n else(ZbZ d (Zaz i b) i b e f g).bind fun o=>some o
theorem ZjP{u e f g}:∀{o h n b},LH z Tryz.f306 [1,1,0,0] (Zca u e f g o h n b) (mN 100000 3 1 mQ (0:Int)) (fun r=>(.tup [])) ⟨[(0,.one (.osl 100000 b.length)),(2,(Yj u)),(4,.one (mO 272 0 3 [] [mP [cL 10 Zaa.c Zaa.d e],mP [.lit (.int .i64 f)],mP [.lit (.int .u64 g)]])),(10,(Yj h)),(11,(Yj n))],[(mM 100000 3 1 mQ (0:Int) b)]⟩:=by
 intro o;induction o with
 |zero=>exact kZ
 |succ o v=>exact kB (kB (kD 2 7 [(100000,100000)] [] fun p=>kH (nt p.length)<|kLx 15 [] [] [] [(100000,p.length)] [] [] v) (kD 2 11 [(100000,100000)] [] fun t=>kH (nt t.length)<|kLx 15 [] [] [] [(100000,t.length)] [] [] v)) (kD 1 7 [(100000,100000)] [] fun _=>kRH (mJ [] [100000]) (some [100000]))
def ZcK(g:List Int)(h f i:Int)(b:List Zaa)(d e:Int):Option (List Int):=Zca f b d e 1000000 (Zaz f h) (Zaz i f) g
instance Zsa{g h n o b e f}:ConH (ZcK g h n o b e f) (eH 306 [(100000,.rows 3 1 g.length (Zaj (cI .i64) (0:Int) g))] [.one (.osl 100000 g.length),Yj h,Yj n,Yj o,.one (.clo (.func 272) 0 3 (fun i=>([]:List C).getD i .junk) (fun i=>([.rp false 1 (fun j=>([cL 10 Zaa.c Zaa.d b]:List C).getD (0+j) .junk),.rp false 1 (fun j=>([.lit (.int .i64 e)]:List C).getD (0+j) .junk),.rp false 1 (fun j=>([.lit (.int .u64 f)]:List C).getD (0+j) .junk)]:List C).getD i .junk))] (fun r=>[(100000,.rows 3 1 r.length (Zaj (cI .i64) (0:Int) r))]) fun r=>(.tup [])):=kHC Tryz.func306 (kL 6 ZjP)
def ZbR(j:Int)(e:List Zaa)(f g h i:Int)(aH:Int->Int->(List Int)->Option (List Int)):Nat->Int->(List Int)->Option (List Int)|0,_,_=>none|fu+1,d,b=>bif(decide (d<(Zaz h (1:Int))))then need (0<=(Zan d 1)/\(Zan d 1)<(b.length:Int))<|need (0<=d/\d<(b.length:Int))<|ZbR j e f g h i aH fu (Zan d 1) ((b.set d.toNat (b.getD ((Zan d 1).toNat) (0:Int))).set ((Zan d 1).toNat) (b.getD d.toNat (0:Int)))else some b
theorem Zjh{B:Int}{g:(List Zaa)}{h:Int}{n:Int}{t:Int}{v:Int}{aH:Int->Int->(List Int)->Option (List Int)}(b9:∀{o p f},LH z Tryz.f294 [0,1,0,1,1,0,0] (aH o p f) (mN 100000 3 1 mQ (0:Int)) (fun r=>(.tup [])) ⟨[(0,.one (.osl 100000 f.length)),(1,(Yj B)),(4,.one (mO 272 0 3 [] [mP [cL 10 Zaa.c Zaa.d g],mP [.lit (.int .i64 h)],mP [.lit (.int .u64 n)]])),(10,(Yj o)),(11,(Yj p))],[(mM 100000 3 1 mQ (0:Int) f)]⟩):∀{u e b},LH z Tryz.f294 [0,1,0,1,1,1,0,1,0] (ZbR B g h n t v aH u e b) (mN 100000 3 1 mQ (0:Int)) (fun r=>(.tup [])) ⟨[(0,.one (.osl 100000 b.length)),(10,(Yj t)),(13,(Yj e))],[(mM 100000 3 1 mQ (0:Int) b)]⟩:=by
 intro u;induction u with
 |zero=>exact kZ
 |succ u D=>intro e b;exact kB (kNq fun y=>kH (ltOf y)<|kNq fun A=>kH (ltOf A)<|kH A<|kW 1 15 (eI .i64) b e.toNat (b.getD ((Zan e 1).toNat) (0:Int)) (ltOf A)<|kH y<|kW 1 17 (eI .i64) (b.set e.toNat (b.getD ((Zan e 1).toNat) (0:Int))) ((Zan e 1).toNat) (b.getD e.toNat (0:Int)) (by have:=ltOf y;simp at this ⊢;omega)<|kH (nt (((b.set e.toNat (b.getD ((Zan e 1).toNat) (0:Int))).set ((Zan e 1).toNat) (b.getD e.toNat (0:Int))).length))<|kLx 12 [] [] [] [(100000,(((b.set e.toNat (b.getD ((Zan e 1).toNat) (0:Int))).set ((Zan e 1).toNat) (b.getD e.toNat (0:Int))).length))] [] [] D) (kRH (mJ [] [100000]) (some [100000]))
def ZaM(i:Int)(d:List Zaa)(e f:Int):Nat->Int->Int->(List Int)->Option (List Int)|0,_,_,_=>none|fu+1,g,h,b=>bif(decide (g<h))then need (0<=(IntKind.wrap .i64 (Int.fdiv (IntKind.wrap .u64 (Zan g h)) (2 ^ (min (1:Int).toNat (IntKind.bits .u64)))))/\(IntKind.wrap .i64 (Int.fdiv (IntKind.wrap .u64 (Zan g h)) (2 ^ (min (1:Int).toNat (IntKind.bits .u64)))))<(b.length:Int))<|need (0<=i/\i<(b.length:Int))<|(ZgS (b.getD ((IntKind.wrap .i64 (Int.fdiv (IntKind.wrap .u64 (Zan g h)) (2 ^ (min (1:Int).toNat (IntKind.bits .u64))))).toNat) (0:Int)) (b.getD i.toNat (0:Int)) d e f).bind fun j=>bif(decide (j<(0:Int)))then ZaM i d e f fu (Zan (IntKind.wrap .i64 (Int.fdiv (IntKind.wrap .u64 (Zan g h)) (2 ^ (min (1:Int).toNat (IntKind.bits .u64))))) (1:Int)) h b else ZaM i d e f fu g (IntKind.wrap .i64 (Int.fdiv (IntKind.wrap .u64 (Zan g h)) (2 ^ (min (1:Int).toNat (IntKind.bits .u64))))) b else ZbR i d e f g h (ZaM i d e f fu) 1000000 i b
theorem Zji{t e f g}:∀{o h n b},LH z Tryz.f294 [0,1,0,1,1,0,0] (ZaM t e f g o h n b) (mN 100000 3 1 mQ (0:Int)) (fun r=>(.tup [])) ⟨[(0,.one (.osl 100000 b.length)),(1,(Yj t)),(4,.one (mO 272 0 3 [] [mP [cL 10 Zaa.c Zaa.d e],mP [.lit (.int .i64 f)],mP [.lit (.int .u64 g)]])),(10,(Yj h)),(11,(Yj n))],[(mM 100000 3 1 mQ (0:Int) b)]⟩:=by
 intro o;induction o with
 |zero=>exact kZ
 |succ o p=>exact kB (kH (nv (1:Int) rfl)<|kNq fun u=>kH (ltOf u)<|kNq fun v=>kH (ltOf v)<|kC fun _=>kB (kL 15 p) (kL 15 p)) (kL 10 (Zjh p))
def ZbQ(j:Int)(e:List Zaa)(f g h i:Int)(aJ:Int->Int->(List Int)->Option (List Int)):Nat->Int->(List Int)->Option (List Int)|0,_,_=>none|fu+1,d,b=>bif(decide (d>h))then need (0<=(Zaz d (1:Int))/\(Zaz d (1:Int))<(b.length:Int))<|need (0<=d/\d<(b.length:Int))<|ZbQ j e f g h i aJ fu (Zaz d (1:Int)) ((b.set d.toNat (b.getD ((Zaz d (1:Int)).toNat) (0:Int))).set ((Zaz d (1:Int)).toNat) (b.getD d.toNat (0:Int)))else some b
theorem Zjf{B:Int}{g:(List Zaa)}{h:Int}{n:Int}{u:Int}{y:Int}{aJ:Int->Int->(List Int)->Option (List Int)}(cd:∀{o p f},LH z Tryz.f294 [1,0,1,0,1,1,0,0] (aJ o p f) (mN 100000 3 1 mQ (0:Int)) (fun r=>(.tup [])) ⟨[(0,.one (.osl 100000 f.length)),(2,(Yj B)),(4,.one (mO 272 0 3 [] [mP [cL 10 Zaa.c Zaa.d g],mP [.lit (.int .i64 h)],mP [.lit (.int .u64 n)]])),(14,(Yj o)),(15,(Yj p))],[(mM 100000 3 1 mQ (0:Int) f)]⟩):∀{v e b},LH z Tryz.f294 [1,0,1,0,1,1,1,0,1,0] (ZbQ B g h n u y aJ v e b) (mN 100000 3 1 mQ (0:Int)) (fun r=>(.tup [])) ⟨[(0,.one (.osl 100000 b.length)),(14,(Yj u)),(17,(Yj e))],[(mM 100000 3 1 mQ (0:Int) b)]⟩:=by
 intro v;induction v with
 |zero=>exact kZ
 |succ v D=>intro e b;exact kB (kNq fun A=>kH (ltOf A)<|kNq fun t=>kH (ltOf t)<|kH t<|kW 1 15 (eI .i64) b e.toNat (b.getD ((Zaz e (1:Int)).toNat) (0:Int)) (ltOf t)<|kH A<|kW 1 17 (eI .i64) (b.set e.toNat (b.getD ((Zaz e (1:Int)).toNat) (0:Int))) ((Zaz e (1:Int)).toNat) (b.getD e.toNat (0:Int)) (by have:=ltOf A;simp at this ⊢;omega)<|kH (nt (((b.set e.toNat (b.getD ((Zaz e (1:Int)).toNat) (0:Int))).set ((Zaz e (1:Int)).toNat) (b.getD e.toNat (0:Int))).length))<|kLx 12 [] [] [] [(100000,(((b.set e.toNat (b.getD ((Zaz e (1:Int)).toNat) (0:Int))).set ((Zaz e (1:Int)).toNat) (b.getD e.toNat (0:Int))).length))] [] [] D) (kRH (mJ [] [100000]) (some [100000]))
def ZaL(i:Int)(e:List Zaa)(f g:Int):Nat->Int->Int->(List Int)->Option (List Int)|0,_,_,_=>none|fu+1,d,h,b=>bif(decide (d<h))then need (0<=i/\i<(b.length:Int))<|need (0<=(IntKind.wrap .i64 (Int.fdiv (IntKind.wrap .u64 (Zan d h)) (2 ^ (min (1:Int).toNat (IntKind.bits .u64)))))/\(IntKind.wrap .i64 (Int.fdiv (IntKind.wrap .u64 (Zan d h)) (2 ^ (min (1:Int).toNat (IntKind.bits .u64)))))<(b.length:Int))<|(ZgS (b.getD i.toNat (0:Int)) (b.getD ((IntKind.wrap .i64 (Int.fdiv (IntKind.wrap .u64 (Zan d h)) (2 ^ (min (1:Int).toNat (IntKind.bits .u64))))).toNat) (0:Int)) e f g).bind fun j=>bif(!(decide (j<(0:Int))))then ZaL i e f g fu (Zan (IntKind.wrap .i64 (Int.fdiv (IntKind.wrap .u64 (Zan d h)) (2 ^ (min (1:Int).toNat (IntKind.bits .u64))))) (1:Int)) h b else ZaL i e f g fu d (IntKind.wrap .i64 (Int.fdiv (IntKind.wrap .u64 (Zan d h)) (2 ^ (min (1:Int).toNat (IntKind.bits .u64))))) b else ZbQ i e f g d h (ZaL i e f g fu) ((i-d).toNat+2) i b
theorem Zjg{t e f g}:∀{o h n b},LH z Tryz.f294 [1,0,1,0,1,1,0,0] (ZaL t e f g o h n b) (mN 100000 3 1 mQ (0:Int)) (fun r=>(.tup [])) ⟨[(0,.one (.osl 100000 b.length)),(2,(Yj t)),(4,.one (mO 272 0 3 [] [mP [cL 10 Zaa.c Zaa.d e],mP [.lit (.int .i64 f)],mP [.lit (.int .u64 g)]])),(14,(Yj h)),(15,(Yj n))],[(mM 100000 3 1 mQ (0:Int) b)]⟩:=by
 intro o;induction o with
 |zero=>exact kZ
 |succ o p=>exact kB (kH (nv (1:Int) rfl)<|kNq fun u=>kH (ltOf u)<|kNq fun v=>kH (ltOf v)<|kC fun _=>kB (kL 15 p) (kL 15 p)) (kL 10 (Zjf p))
def Zbt(t u i:Int)(e:List Zaa)(f g:Int)(gr:((List Int)->Int->Int->Int->(List Zaa)->Int->Int->Option (List Int)))(h j n o p d:Int)(ag:Int->Int->Int->(List Int)->Option (List Int))(b:List Int):Option (List Int):=bif(decide (h<d))then bif(decide (d<i))then(gr b h d i e f g).bind fun r=>some r else some b else some b
theorem Zdo{v:Int}{y:Int}{u:Int}{f:(List Zaa)}{g:Int}{h:Int}{gr:((List Int)->Int->Int->Int->(List Zaa)->Int->Int->Option (List Int))}{t:Int}{A:Int}{E:Int}{F:Int}{G:Int}{B:Int}[∀{D v y u f g h},ConH (gr D v y u f g h) (eH 294 [(mM 100000 3 1 mQ (0:Int) D)] [.one (.osl 100000 D.length),Yj v,Yj y,Yj u,.one (mO 272 0 3 [] [mP [cL 10 Zaa.c Zaa.d f],mP [.lit (.int .i64 g)],mP [.lit (.int .u64 h)]])] (mN 100000 3 1 mQ (0:Int)) fun r=>(.tup []))]{ag:Int->Int->Int->(List Int)->Option (List Int)}(aK:∀{n o p b},LH z Tryz.f294 [1,1,1,1,1,1,1,0,0] (ag n o p b) (mN 100000 3 1 mQ (0:Int)) (fun r=>(.tup [])) ⟨[(0,.one (.osl 100000 b.length)),(1,(Yj v)),(2,(Yj y)),(3,(Yj u)),(4,.one (mO 272 0 3 [] [mP [cL 10 Zaa.c Zaa.d f],mP [.lit (.int .i64 g)],mP [.lit (.int .u64 h)]])),(18,(Yj t)),(19,(Yj A)),(20,(Yj n)),(21,(Yj o)),(22,(Yj p))],[(mM 100000 3 1 mQ (0:Int) b)]⟩){e}:LH z Tryz.f294 [1,1,1,1,1,1,1,1,1,1,1] (Zbt v y u f g h gr t A E F G B ag e) (mN 100000 3 1 mQ (0:Int)) (fun r=>(.tup [])) ⟨[(0,.one (.osl 100000 e.length)),(3,(Yj u)),(4,.one (mO 272 0 3 [] [mP [cL 10 Zaa.c Zaa.d f],mP [.lit (.int .i64 g)],mP [.lit (.int .u64 h)]])),(18,(Yj t)),(24,(Yj B))],[(mM 100000 3 1 mQ (0:Int) e)]⟩:=kB (kB (kD 1 5 [(100000,100000)] [] fun _=>kRH (mJ [] [100000]) (some [100000])) (kRH (mJ [] [100000]) (some [100000]))) (kK false<|kRH (mJ [] [100000]) (some [100000]))
def ZaS(p r t:Int)(d:List Zaa)(e f:Int)(gr:((List Int)->Int->Int->Int->(List Zaa)->Int->Int->Option (List Int)))(h i g j n:Int)(ag:Int->Int->Int->(List Int)->Option (List Int))(o:Int)(b:List Int):Option (List Int):=bif(decide (p<g))then bif(decide (g<h))then(gr b p g h d e f).bind fun u=>Zbt p r t d e f gr h i g j n o ag u else Zbt p r t d e f gr h i g j n o ag b else Zbt p r t d e f gr h i g j n o ag b
theorem Zdp{u:Int}{y:Int}{v:Int}{f:(List Zaa)}{g:Int}{h:Int}{gr:((List Int)->Int->Int->Int->(List Zaa)->Int->Int->Option (List Int))}{t:Int}{A:Int}{B:Int}{F:Int}{G:Int}[∀{E u y v f g h},ConH (gr E u y v f g h) (eH 294 [(mM 100000 3 1 mQ (0:Int) E)] [.one (.osl 100000 E.length),Yj u,Yj y,Yj v,.one (mO 272 0 3 [] [mP [cL 10 Zaa.c Zaa.d f],mP [.lit (.int .i64 g)],mP [.lit (.int .u64 h)]])] (mN 100000 3 1 mQ (0:Int)) fun r=>(.tup []))]{ag:Int->Int->Int->(List Int)->Option (List Int)}(aK:∀{n o p b},LH z Tryz.f294 [1,1,1,1,1,1,1,0,0] (ag n o p b) (mN 100000 3 1 mQ (0:Int)) (fun r=>(.tup [])) ⟨[(0,.one (.osl 100000 b.length)),(1,(Yj u)),(2,(Yj y)),(3,(Yj v)),(4,.one (mO 272 0 3 [] [mP [cL 10 Zaa.c Zaa.d f],mP [.lit (.int .i64 g)],mP [.lit (.int .u64 h)]])),(18,(Yj t)),(19,(Yj A)),(20,(Yj n)),(21,(Yj o)),(22,(Yj p))],[(mM 100000 3 1 mQ (0:Int) b)]⟩){D e}:LH z Tryz.f294 [1,1,1,1,1,1,1,1,1,1] (ZaS u y v f g h gr t A B F G ag D e) (mN 100000 3 1 mQ (0:Int)) (fun r=>(.tup [])) ⟨[(0,.one (.osl 100000 e.length)),(1,(Yj u)),(3,(Yj v)),(4,.one (mO 272 0 3 [] [mP [cL 10 Zaa.c Zaa.d f],mP [.lit (.int .i64 g)],mP [.lit (.int .u64 h)]])),(18,(Yj t)),(20,(Yj B)),(24,(Yj D))],[(mM 100000 3 1 mQ (0:Int) e)]⟩:=kB (kB (kD 1 5 [(100000,100000)] [] fun H=>kH (nt H.length)<|kLx 5 [] [] [] [(100000,H.length)] [] [] (Zdo aK)) (kL 5 (Zdo aK))) (kK false<|kL 5 (Zdo aK))
def ZaH(p o r:Int)(e:List Zaa)(f g:Int)(gr:((List Int)->Int->Int->Int->(List Zaa)->Int->Int->Option (List Int)))(j h:Int):Nat->Int->Int->Int->(List Int)->Option (List Int)|0,_,_,_,_=>none|fu+1,d,i,n,b=>bif(decide (d<i))then need (0<=(Zaz n (IntKind.wrap .i64 (Int.fdiv (IntKind.wrap .u64 (Zan d i)) (2 ^ (min (1:Int).toNat (IntKind.bits .u64))))))/\(Zaz n (IntKind.wrap .i64 (Int.fdiv (IntKind.wrap .u64 (Zan d i)) (2 ^ (min (1:Int).toNat (IntKind.bits .u64))))))<(b.length:Int))<|need (0<=(IntKind.wrap .i64 (Int.fdiv (IntKind.wrap .u64 (Zan d i)) (2 ^ (min (1:Int).toNat (IntKind.bits .u64)))))/\(IntKind.wrap .i64 (Int.fdiv (IntKind.wrap .u64 (Zan d i)) (2 ^ (min (1:Int).toNat (IntKind.bits .u64)))))<(b.length:Int))<|(ZgS (b.getD ((Zaz n (IntKind.wrap .i64 (Int.fdiv (IntKind.wrap .u64 (Zan d i)) (2 ^ (min (1:Int).toNat (IntKind.bits .u64)))))).toNat) (0:Int)) (b.getD ((IntKind.wrap .i64 (Int.fdiv (IntKind.wrap .u64 (Zan d i)) (2 ^ (min (1:Int).toNat (IntKind.bits .u64))))).toNat) (0:Int)) e f g).bind fun t=>bif(!(decide (t<(0:Int))))then ZaH p o r e f g gr j h fu (Zan (IntKind.wrap .i64 (Int.fdiv (IntKind.wrap .u64 (Zan d i)) (2 ^ (min (1:Int).toNat (IntKind.bits .u64))))) (1:Int)) i n b else ZaH p o r e f g gr j h fu d (IntKind.wrap .i64 (Int.fdiv (IntKind.wrap .u64 (Zan d i)) (2 ^ (min (1:Int).toNat (IntKind.bits .u64))))) n b else bif(decide (d<o))then bif(decide (o<(Zaz h d)))then(ZcK b d o (Zaz h d) e f g).bind fun u=>ZaS p o r e f g gr j h d i n (ZaH p o r e f g gr j h fu) (Zaz h d) u else ZaS p o r e f g gr j h d i n (ZaH p o r e f g gr j h fu) (Zaz h d) b else ZaS p o r e f g gr j h d i n (ZaH p o r e f g gr j h fu) (Zaz h d) b
theorem Zje{h:Int}{n:Int}{o:Int}{e:(List Zaa)}{f:Int}{g:Int}{gr:((List Int)->Int->Int->Int->(List Zaa)->Int->Int->Option (List Int))}{p:Int}{t:Int}[∀{B h n o e f g},ConH (gr B h n o e f g) (eH 294 [(mM 100000 3 1 mQ (0:Int) B)] [.one (.osl 100000 B.length),Yj h,Yj n,Yj o,.one (mO 272 0 3 [] [mP [cL 10 Zaa.c Zaa.d e],mP [.lit (.int .i64 f)],mP [.lit (.int .u64 g)]])] (mN 100000 3 1 mQ (0:Int)) fun r=>(.tup []))]:∀{D u v y b},LH z Tryz.f294 [1,1,1,1,1,1,1,0,0] (ZaH h n o e f g gr p t D u v y b) (mN 100000 3 1 mQ (0:Int)) (fun r=>(.tup [])) ⟨[(0,.one (.osl 100000 b.length)),(1,(Yj h)),(2,(Yj n)),(3,(Yj o)),(4,.one (mO 272 0 3 [] [mP [cL 10 Zaa.c Zaa.d e],mP [.lit (.int .i64 f)],mP [.lit (.int .u64 g)]])),(18,(Yj p)),(19,(Yj t)),(20,(Yj u)),(21,(Yj v)),(22,(Yj y))],[(mM 100000 3 1 mQ (0:Int) b)]⟩:=by
 intro D;induction D with
 |zero=>exact kZ
 |succ D A=>exact kB (kH (nv (1:Int) rfl)<|kNq fun F=>kH (ltOf F)<|kNq fun G=>kH (ltOf G)<|kC fun _=>kB (kL 15 A) (kL 15 A)) (kB (kB (kD 3 5 [(100000,100000)] [] fun E=>kH (nt E.length)<|kLx 13 [] [] [] [(100000,E.length)] [] [] (Zdp A)) (kL 13 (Zdp A))) (kK false<|kL 13 (Zdp A)))
def Zcj(n o p:Int)(d:List Zaa)(e f:Int)(gr:((List Int)->Int->Int->Int->(List Zaa)->Int->Int->Option (List Int)))(j g h i:Int)(b:List Int):Option (List Int):=ZaH n o p d e f gr j g ((i-h).toNat+2) h i (Zaz g (1:Int)) b
theorem Zfd{h:Int}{n:Int}{o:Int}{e:(List Zaa)}{f:Int}{g:Int}{gr:((List Int)->Int->Int->Int->(List Zaa)->Int->Int->Option (List Int))}[∀{y h n o e f g},ConH (gr y h n o e f g) (eH 294 [(mM 100000 3 1 mQ (0:Int) y)] [.one (.osl 100000 y.length),Yj h,Yj n,Yj o,.one (mO 272 0 3 [] [mP [cL 10 Zaa.c Zaa.d e],mP [.lit (.int .i64 f)],mP [.lit (.int .u64 g)]])] (mN 100000 3 1 mQ (0:Int)) fun r=>(.tup []))]{p t u v b}:LH z Tryz.f294 [1,1,1,1,1,1] (Zcj h n o e f g gr p t u v b) (mN 100000 3 1 mQ (0:Int)) (fun r=>(.tup [])) ⟨[(0,.one (.osl 100000 b.length)),(1,(Yj h)),(2,(Yj n)),(3,(Yj o)),(4,.one (mO 272 0 3 [] [mP [cL 10 Zaa.c Zaa.d e],mP [.lit (.int .i64 f)],mP [.lit (.int .u64 g)]])),(18,(Yj p)),(19,(Yj t)),(20,(Yj u)),(21,(Yj v))],[(mM 100000 3 1 mQ (0:Int) b)]⟩:=kL 4 Zje
def ZcU(gr:(List Int)->Int->Int->Int->(List Zaa)->Int->Int->Option (List Int))(i:List Int)(b d h:Int)(e:List Zaa)(f g:Int):Option (List Int):=bif((Zaz d b)==(1:Int))then ZaM b e f g ((h-d).toNat+2) d h i else bif((Zaz h d)==(1:Int))then ZaL d e f g ((d-b).toNat+2) b d i else bif(decide (d>(IntKind.wrap .i64 (Int.fdiv (IntKind.wrap .u64 (Zan b h)) (2 ^ (min (1:Int).toNat (IntKind.bits .u64)))))))then Zcj b d h e f g gr (IntKind.wrap .i64 (Int.fdiv (IntKind.wrap .u64 (Zan b h)) (2 ^ (min (1:Int).toNat (IntKind.bits .u64))))) (Zan (IntKind.wrap .i64 (Int.fdiv (IntKind.wrap .u64 (Zan b h)) (2 ^ (min (1:Int).toNat (IntKind.bits .u64))))) d) (Zaz (Zan (IntKind.wrap .i64 (Int.fdiv (IntKind.wrap .u64 (Zan b h)) (2 ^ (min (1:Int).toNat (IntKind.bits .u64))))) d) h) (IntKind.wrap .i64 (Int.fdiv (IntKind.wrap .u64 (Zan b h)) (2 ^ (min (1:Int).toNat (IntKind.bits .u64))))) i else Zcj b d h e f g gr (IntKind.wrap .i64 (Int.fdiv (IntKind.wrap .u64 (Zan b h)) (2 ^ (min (1:Int).toNat (IntKind.bits .u64))))) (Zan (IntKind.wrap .i64 (Int.fdiv (IntKind.wrap .u64 (Zan b h)) (2 ^ (min (1:Int).toNat (IntKind.bits .u64))))) d) b d i
theorem Zjw{gr:(List Int)->Int->Int->Int->(List Zaa)->Int->Int->Option (List Int)}[∀{g h n o b e f},ConH (gr g h n o b e f) (eH 294 [(mM 100000 3 1 mQ (0:Int) g)] [.one (.osl 100000 g.length),Yj h,Yj n,Yj o,.one (mO 272 0 3 [] [mP [cL 10 Zaa.c Zaa.d b],mP [.lit (.int .i64 e)],mP [.lit (.int .u64 f)]])] (mN 100000 3 1 mQ (0:Int)) fun r=>(.tup []))]:∀{g h n o b e f},ConH (ZcU gr g h n o b e f) (eH 294 [(mM 100000 3 1 mQ (0:Int) g)] [.one (.osl 100000 g.length),Yj h,Yj n,Yj o,.one (mO 272 0 3 [] [mP [cL 10 Zaa.c Zaa.d b],mP [.lit (.int .i64 e)],mP [.lit (.int .u64 f)]])] (mN 100000 3 1 mQ (0:Int)) fun r=>(.tup [])):=kHC Tryz.func294 (kB (kL 10 Zji) (kB (kL 15 Zjg) (kH (nv (1:Int) rfl)<|kB (kL 23 Zfd) (kL 23 Zfd))))
def ZbI:Nat->(List Int)->Int->Int->Int->(List Zaa)->Int->Int->Option (List Int)|0,_,_,_,_,_,_,_=>none|fu+1,f,g,h,i,b,d,e=>ZcU (ZbI fu) f g h i b d e
instance ZqN:∀{g},∀{n o p t b e f},ConH (ZbI g n o p t b e f) (eH 294 [(100000,.rows 3 1 n.length (Zaj (cI .i64) (0:Int) n))] [.one (.osl 100000 n.length),Yj o,Yj p,Yj t,.one (.clo (.func 272) 0 3 (fun i=>([]:List C).getD i .junk) (fun i=>([.rp false 1 (fun j=>([cL 10 Zaa.c Zaa.d b]:List C).getD (0+j) .junk),.rp false 1 (fun j=>([.lit (.int .i64 e)]:List C).getD (0+j) .junk),.rp false 1 (fun j=>([.lit (.int .u64 f)]:List C).getD (0+j) .junk)]:List C).getD i .junk))] (fun r=>[(100000,.rows 3 1 r.length (Zaj (cI .i64) (0:Int) r))]) fun r=>(.tup [])):=by
 intro g;induction g with
 |zero=>exact⟨fun h=>by cases h⟩
 |succ g u=>exact Zjw (gr:=ZbI g)
def ZbD(i:Int)(d:List Zaa)(e f g:Int)(ah:Int->Int->Int->(List Int)->Option (List Int))(aw:Int->(List Int)->Option (List Int)):Nat->Int->Int->(List Int)->Option (List Int)|0,_,_,_=>none|fu+1,h,j,b=>bif(decide (j<=i))then(ZbI 1000 b h (Zan h g) j d e f).bind fun n=>ZbD i d e f g ah aw fu j (Zan j (ZhI (2:Int) g)) n else bif(decide ((Zan h g)<i))then(ZbI 1000 b h (Zan h g) i d e f).bind fun o=>aw (ZhI g (2:Int)) o else aw (ZhI g (2:Int)) b
theorem ZjM{t:Int}{f:(List Zaa)}{g:Int}{h:Int}{A:Int}{ah:Int->Int->Int->(List Int)->Option (List Int)}{aw:Int->(List Int)->Option (List Int)}(aY:∀{n o p b},LH z Tryz.f287 [1,1,0,0] (ah n o p b) (mN 100000 3 1 mQ (0:Int)) (fun r=>(.tup [])) ⟨[(0,.one (.osl 100000 b.length)),(1,(Yj t)),(2,.one (mO 272 0 3 [] [mP [cL 10 Zaa.c Zaa.d f],mP [.lit (.int .i64 g)],mP [.lit (.int .u64 h)]])),(6,(Yj n)),(7,(Yj o)),(8,(Yj p))],[(mM 100000 3 1 mQ (0:Int) b)]⟩)(aZ:∀{n b},LH z Tryz.f287 [1,1,1,1,0] (aw n b) (mN 100000 3 1 mQ (0:Int)) (fun r=>(.tup [])) ⟨[(0,.one (.osl 100000 b.length)),(1,(Yj t)),(2,.one (mO 272 0 3 [] [mP [cL 10 Zaa.c Zaa.d f],mP [.lit (.int .i64 g)],mP [.lit (.int .u64 h)]])),(6,(Yj n))],[(mM 100000 3 1 mQ (0:Int) b)]⟩):∀{u B D e},LH z Tryz.f287 [1,1,1,1,0,0,1,0,1,0,0] (ZbD t f g h A ah aw u B D e) (mN 100000 3 1 mQ (0:Int)) (fun r=>(.tup [])) ⟨[(0,.one (.osl 100000 e.length)),(1,(Yj t)),(2,.one (mO 272 0 3 [] [mP [cL 10 Zaa.c Zaa.d f],mP [.lit (.int .i64 g)],mP [.lit (.int .u64 h)]])),(6,(Yj A)),(7,(Yj B)),(8,(Yj D))],[(mM 100000 3 1 mQ (0:Int) e)]⟩:=by
 intro u;induction u with
 |zero=>exact kZ
 |succ u E=>exact kB (kD 1 7 [(100000,100000)] [] fun v=>kH (nt v.length)<|kLx 14 [] [] [] [(100000,v.length)] [] [] E) (kB (kD 3 5 [(100000,100000)] [] fun y=>kH (nt y.length)<|kLx 16 [] [] [] [(100000,y.length)] [] [] aZ) (kL 16 aZ))
def Zbj(g:Int)(d:List Zaa)(e f i j:Int)(ah:Int->Int->Int->(List Int)->Option (List Int)):Nat->Int->(List Int)->Option (List Int)|0,_,_=>none|fu+1,h,b=>bif(decide (h<g))then ZbD g d e f h ah (Zbj g d e f i j ah fu) ((g-(ZhI (2:Int) h)).toNat+2) (0:Int) (ZhI (2:Int) h) b else some b
theorem ZjN{u:Int}{f:(List Zaa)}{g:Int}{h:Int}{y:Int}{A:Int}{ah:Int->Int->Int->(List Int)->Option (List Int)}(aY:∀{n o p b},LH z Tryz.f287 [1,1,0,0] (ah n o p b) (mN 100000 3 1 mQ (0:Int)) (fun r=>(.tup [])) ⟨[(0,.one (.osl 100000 b.length)),(1,(Yj u)),(2,.one (mO 272 0 3 [] [mP [cL 10 Zaa.c Zaa.d f],mP [.lit (.int .i64 g)],mP [.lit (.int .u64 h)]])),(6,(Yj n)),(7,(Yj o)),(8,(Yj p))],[(mM 100000 3 1 mQ (0:Int) b)]⟩):∀{t v e},LH z Tryz.f287 [1,1,1,1,0] (Zbj u f g h y A ah t v e) (mN 100000 3 1 mQ (0:Int)) (fun r=>(.tup [])) ⟨[(0,.one (.osl 100000 e.length)),(1,(Yj u)),(2,.one (mO 272 0 3 [] [mP [cL 10 Zaa.c Zaa.d f],mP [.lit (.int .i64 g)],mP [.lit (.int .u64 h)]])),(6,(Yj v))],[(mM 100000 3 1 mQ (0:Int) e)]⟩:=by
 intro t;induction t with
 |zero=>exact kZ
 |succ t B=>exact kB (kL 11 (ZjM aY B)) (kRH (mJ [] [100000]) (some [100000]))
def ZaW(g:Int)(b:List Zaa)(d e:Int):Nat->Int->Int->Int->(List Int)->Option (List Int)|0,_,_,_,_=>none|fu+1,i,j,h,f=>bif(decide (h<=g))then(Zce f j h b d e).bind fun n=>ZaW g b d e fu i h (Zan h i) n else(Zce f j g b d e).bind fun o=>Zbj g b d e j h (ZaW g b d e fu) ((g-i).toNat+2) i o
theorem ZjO{p e f g}:∀{h t u v b},LH z Tryz.f287 [1,1,0,0] (ZaW p e f g h t u v b) (mN 100000 3 1 mQ (0:Int)) (fun r=>(.tup [])) ⟨[(0,.one (.osl 100000 b.length)),(1,(Yj p)),(2,.one (mO 272 0 3 [] [mP [cL 10 Zaa.c Zaa.d e],mP [.lit (.int .i64 f)],mP [.lit (.int .u64 g)]])),(6,(Yj t)),(7,(Yj u)),(8,(Yj v))],[(mM 100000 3 1 mQ (0:Int) b)]⟩:=by
 intro h;induction h with
 |zero=>exact kZ
 |succ h y=>exact kB (kD 1 4 [(100000,100000)] [] fun n=>kH (nt n.length)<|kLx 14 [] [] [] [(100000,n.length)] [] [] y) (kD 1 4 [(100000,100000)] [] fun o=>kH (nt o.length)<|kLx 9 [] [] [] [(100000,o.length)] [] [] (ZjN y))
def ZeP(g:List Int)(f:Int)(b:List Zaa)(d e:Int):Option (List Int):=ZaW f b d e ((f-(20:Int)).toNat+2) (20:Int) (0:Int) (20:Int) g
instance ZrZ{g h b e f}:ConH (ZeP g h b e f) (eH 287 [(100000,.rows 3 1 g.length (Zaj (cI .i64) (0:Int) g))] [.one (.osl 100000 g.length),Yj h,.one (.clo (.func 272) 0 3 (fun i=>([]:List C).getD i .junk) (fun i=>([.rp false 1 (fun j=>([cL 10 Zaa.c Zaa.d b]:List C).getD (0+j) .junk),.rp false 1 (fun j=>([.lit (.int .i64 e)]:List C).getD (0+j) .junk),.rp false 1 (fun j=>([.lit (.int .u64 f)]:List C).getD (0+j) .junk)]:List C).getD i .junk))] (fun r=>[(100000,.rows 3 1 r.length (Zaj (cI .i64) (0:Int) r))]) fun r=>(.tup [])):=kHC Tryz.func287 (kL 6 ZjO)
def ZcP(f:List Int)(b:List Zaa)(d e:Int):Option (List Int):=(ZeP f (f.length:Int) b d e).bind fun g=>some g
instance ZpS{g b e f}:ConH (ZcP g b e f) (eH 271 [(100000,.rows 3 1 g.length (Zaj (cI .i64) (0:Int) g))] [.one (.osl 100000 g.length),.one (.clo (.func 272) 0 3 (fun i=>([]:List C).getD i .junk) (fun i=>([.rp false 1 (fun j=>([cL 10 Zaa.c Zaa.d b]:List C).getD (0+j) .junk),.rp false 1 (fun j=>([.lit (.int .i64 e)]:List C).getD (0+j) .junk),.rp false 1 (fun j=>([.lit (.int .u64 f)]:List C).getD (0+j) .junk)]:List C).getD i .junk))] (fun r=>[(100000,.rows 3 1 r.length (Zaj (cI .i64) (0:Int) r))]) fun r=>(.tup [])):=kHC Tryz.func271 (kD 0 4 [(100000,100000)] [] fun _=>kRH ⟨[],[],[],[],[],[],[100000],[]⟩ (some [100000]))
def ZfU(e:Int):Nat->(List Zaa)->Int->Int->(List Int)->(List Zaa)->Int->Int->Option (List Int)|0,_,_,_,_,_,_,_=>none|fu+1,g,h,b,f,j,i,n=>bif(decide (b<h))then need (0<=b/\b<(g.length:Int))<|(Zmf (g.getD b.toNat Zaa.d) i).bind fun p=>bif p then need ((f++([b]:List Int)).length * 8<=140737488355328/\(f++([b]:List Int)).length<=maxLen)<|ZfU e fu g h (Zan b 1) (f++([b]:List Int)) j i n else ZfU e fu g h (Zan b 1) f j i n else(ZcP f j i n).bind fun o=>need (0<=(0:Int)/\(0:Int)<=(if(f.length:Int)<(if(0:Int)>e then(0:Int)else e)then(f.length:Int)else(if(0:Int)>e then(0:Int)else e))/\(if(f.length:Int)<(if(0:Int)>e then(0:Int)else e)then(f.length:Int)else(if(0:Int)>e then(0:Int)else e))<=(f.length:Int))<|need ((if(f.length:Int)<(if(0:Int)>e then(0:Int)else e)then(f.length:Int)else(if(0:Int)>e then(0:Int)else e)).toNat<=o.length)<|some (o.take ((if(f.length:Int)<(if(0:Int)>e then(0:Int)else e)then(f.length:Int)else(if(0:Int)>e then(0:Int)else e)).toNat))
theorem Zrr{b}:∀{o g h f e p t u},LH z Tryz.f252 [1,1,0,1,0] (ZfU b o g h f e p t u) (mN 99999 3 1 mQ (0:Int)) m6 ⟨[(2,(Yj b)),(4,.one (.ptr 4 0)),(5,.one (.ptr 5 0)),(7,.one (.ptr 7 0)),(9,.one (.osl 9 e.length)),(12,(Ym g)),(13,(Yj h)),(14,(Yj f))],[(mM 9 3 1 mQ (0:Int) e),(4,.box [cL 10 Zaa.c Zaa.d p]),(5,.box [.lit (.int .i64 t)]),(7,.box [.lit (.int .u64 u)])]⟩:=by
 intro o;induction o with
 |zero=>exact kZ
 |succ o v=>intro g h f e p t u;exact kB (kN<|kC fun _=>kB (kM 3 2 (eI .i64) ([f]:List Int)<|kA 3 3 (eI .i64)<|kLr 17 [(25,9)] v) (kL 17 v)) (kD 1 2 [(100000,9)] [] fun n=>kN<|kH (nt 0)<|kNm fun y=>kH (show (n.take ((if(e.length:Int)<(if(0:Int)>b then(0:Int)else b)then(e.length:Int)else(if(0:Int)>b then(0:Int)else b)).toNat)).length=(if(e.length:Int)<(if(0:Int)>b then(0:Int)else b)then(e.length:Int)else(if(0:Int)>b then(0:Int)else b)).toNat from(ZtG _ _ y))<|kH (show ∀i j,i<(if(e.length:Int)<(if(0:Int)>b then(0:Int)else b)then(e.length:Int)else(if(0:Int)>b then(0:Int)else b)).toNat->j<1->Zaj mQ (0:Int) (n.take ((if(e.length:Int)<(if(0:Int)>b then(0:Int)else b)then(e.length:Int)else(if(0:Int)>b then(0:Int)else b)).toNat)) i j=Zaj mQ (0:Int) n i j from(ZqU _ _))<|kX 1 ⟨[],[],[(1,[4,5,7])],[],[],[],[]⟩<|kX 2 (rA [(7,.c (n.take ((if(e.length:Int)<(if(0:Int)>b then(0:Int)else b)then(e.length:Int)else(if(0:Int)>b then(0:Int)else b)).toNat)).length (Zaj mQ (0:Int) (n.take ((if(e.length:Int)<(if(0:Int)>b then(0:Int)else b)then(e.length:Int)else(if(0:Int)>b then(0:Int)else b)).toNat))))])<|kRH (mL [8] [8] [(8,99999)]) none)
def Zeu(b:List Zaa)(d e f:Int):Option (List Int):=ZfU e (((b.length:Int)-(0:Int)).toNat+2) b (b.length:Int) (0:Int) ([]) b d f
instance ZJG{b d e f}:ConH (Zeu b d e f) (eH 252 [] [Ym b,Yj d,Yj e,.one (.lit (.int .u64 f))] (fun r=>[(99999,.rows 3 1 r.length (Zaj (cI .i64) (0:Int) r))]) m6):=kHC Tryz.func252 (kLx 8 [] [] [] [] [(9,9,3,1,Zaj (cI .i64) (0:Int) [])] [] Zrr)
instance ZJe{b d e f}:Con (Zeu b d e f) (eS 252 [Ym b,Yj d,Yj e,.one (.lit (.int .u64 f))] fun r=>.one (cL 1 (cI .i64) (0:Int) r)):=Con.of fun r h=>(show ZdB _ _ _ _ _ _ from ConH.ok h).pure
def Zfn(o g:List Int)(h i:Int)(j:List Int)(a7:(List Int)->Int->Int->(List Int)->(List Bool)->Option (List Int)):Nat->(List Int)->Int->Int->(List Int)->(List Bool)->Option (List Int)|0,_,_,_,_,_=>none|fu+1,d,f,b,n,e=>bif(decide (b<f))then need (0<=b/\b<(d.length:Int))<|need (0<=b/\b<(e.length:Int))<|bif(!(e.getD b.toNat false))then need ((n++([(d.getD b.toNat (0:Int))]:List Int)).length * 8<=140737488355328/\(n++([(d.getD b.toNat (0:Int))]:List Int)).length<=maxLen)<|Zfn o g h i j a7 fu d f (Zan b 1) (n++([(d.getD b.toNat (0:Int))]:List Int)) e else Zfn o g h i j a7 fu d f (Zan b 1) n e else some n
theorem Zqu{A:(List Int)}{t:(List Int)}{u:Int}{v:Int}{y:(List Int)}{a7:(List Int)->Int->Int->(List Int)->(List Bool)->Option (List Int)}(fw:∀{h i j b d},LH z Tryz.f251 [1,1,1,0,1,0] (a7 h i j b d) (mN 99999 3 1 mQ (0:Int)) m6 ⟨[(0,.one (cL 1 mQ (0:Int) A)),(5,.one (.osl 13 b.length)),(6,.one (.osl 16 d.length)),(17,.one (cL 1 mQ (0:Int) h)),(18,(Yj i)),(19,(Yj j))],[(mM 13 3 1 mQ (0:Int) b),(mM 16 4 1 cB false d)]⟩):∀{p f n g o e},LH z Tryz.f251 [1,1,1,1,0,1,0] (Zfn A t u v y a7 p f n g o e) (mN 99999 3 1 mQ (0:Int)) m6 ⟨[(5,.one (.osl 5 o.length)),(6,.one (.osl 16 e.length)),(27,.one (cL 1 mQ (0:Int) f)),(28,(Yj n)),(29,(Yj g))],[(mM 5 3 1 mQ (0:Int) o),(mM 16 4 1 cB false e)]⟩:=by
 intro p;induction p with
 |zero=>exact kZ
 |succ p B=>intro f n g o e;exact kB (kN<|kNq fun C=>kH (ltOf C)<|kB (kM 3 2 (eI .i64) ([(f.getD g.toNat (0:Int))]:List Int)<|kA 3 3 (eI .i64)<|kLr 17 [(42,5)] B) (kL 17 B)) (kRH (mL [4] [5] [(5,99999)]) none)
def Zfo(h:List Int):Nat->(List Int)->Int->Int->(List Int)->(List Bool)->Option (List Int)|0,_,_,_,_,_=>none|fu+1,d,e,b,f,g=>bif(decide (b<e))then need (0<=b/\b<(d.length:Int))<|need (0<=(d.getD b.toNat (0:Int))/\(d.getD b.toNat (0:Int))<(g.length:Int))<|Zfo h fu d e (Zan b 1) f (g.set ((d.getD b.toNat (0:Int)).toNat) true)else Zfn h d e b f (Zfo h fu) (((h.length:Int)-(0:Int)).toNat+2) h (h.length:Int) (0:Int) f g
theorem Zqv{i}:∀{h d g e f b},LH z Tryz.f251 [1,1,1,0,1,0] (Zfo i h d g e f b) (mN 99999 3 1 mQ (0:Int)) m6 ⟨[(0,.one (cL 1 mQ (0:Int) i)),(5,.one (.osl 13 f.length)),(6,.one (.osl 16 b.length)),(17,.one (cL 1 mQ (0:Int) d)),(18,(Yj g)),(19,(Yj e))],[(mM 13 3 1 mQ (0:Int) f),(mM 16 4 1 cB false b)]⟩:=by
 intro h;induction h with
 |zero=>exact kZ
 |succ h j=>intro d g e f b;exact kB (kN<|kNq fun n=>kW 2 3 eB b ((d.getD e.toNat (0:Int)).toNat) true (ltOf n)<|kH (nt ((b.set ((d.getD e.toNat (0:Int)).toNat) true).length))<|kLx 14 [] [] [] [(16,((b.set ((d.getD e.toNat (0:Int)).toNat) true).length))] [] [] j) (kLr 10 [(13,5)] (Zqu j))
def ZeL(b d:List Int):Option (List Int):=need (0<=(0:Int)/\(0:Int)<=(b.length:Int)/\(b.length:Int)<=140737488355328/\(b.length:Int) * 8<=140737488355328)<|need (0<=(b.length:Int)/\(b.length:Int)<=(b.length:Int)/\(b.length:Int)<=140737488355328/\(b.length:Int) * 1<=140737488355328)<|Zfo b (((d.length:Int)-(0:Int)).toNat+2) d (d.length:Int) (0:Int) ([]:List Int) (List.replicate (b.length:Int).toNat false)
instance ZHB{b e}:ConH (ZeL b e) (eH 251 [] [.one (cL 1 (cI .i64) (0:Int) b),.one (cL 1 (cI .i64) (0:Int) e)] (fun r=>[(99999,.rows 3 1 r.length (Zaj (cI .i64) (0:Int) r))]) m6):=kHC Tryz.func251 (kH (show (0:Int)=((0:Nat):Int)from rfl)<|kNm fun o1=>kH o1.2.1<|kH o1.2.2.1<|kH o1.2.2.2<|kH (show ∀i j,i<0->j<1->ZpO (([.lit (.int .i64 (0))]:List C).getD j .junk) (Zaj (cI .i64) (0:Int) ([]:List Int) i j)from(fun i j h=>absurd h (Nat.not_lt_zero i)))<|kNm fun d=>kH (show (b.length:Int)=(((b.length:Int).toNat:Nat):Int)from(Int.toNat_of_nonneg d.1).symm)<|kH (show (((b.length:Int).toNat:Nat):Int)<=(b.length:Int)from((Int.toNat_of_nonneg d.1).symm ▸ d.2.1))<|kH d.2.2.1<|kH d.2.2.2<|kH (show ∀i j,i<(b.length:Int).toNat->j<1->ZpO (([.lit (.bool false)]:List C).getD j .junk) (Zaj cB false (List.replicate (b.length:Int).toNat false) i j)from(ZvU (fun j hj=>.inl rfl) _))<|kH (show ([]:List Int).length=0 from rfl)<|kH (show (List.replicate (b.length:Int).toNat false).length=(b.length:Int).toNat from List.length_replicate)<|kX 1 (rA [(2,.c 0 (Zaj (cI .i64) (0:Int) ([]:List Int)))])<|kX 2 (rA [(2,.c ((b.length:Int).toNat) (Zaj cB false (List.replicate (b.length:Int).toNat false)))])<|kLx 10 [] [] [] [(13,(([]:List Int).length)),(16,((List.replicate (b.length:Int).toNat false).length))] [] [] Zqv)
def ZcE(i:List Zaa)(j e f:Int)(g:List Int)(n:Zay)(aQ:Int->Int->(List Int)->Zay->Option (List Int)):Nat->(Zbk×Zbk×Zbk×Zbk)->Int->(List Int)->Option (List Int)|0,_,_,_=>none|fu+1,b,d,h=>bif(decide (d<(4:Int)))then need (0<=d/\d<((4:Nat):Int))<|ix1 d 0 ( (ZdN i h).bind fun u=>(Zeu u b.1.fby b.1.fn j).bind fun v=>(ZeL h v).bind fun y=>ZcE i j e f g n aQ fu b (Zan (0:Int) (1:Int)) y)<|ix1 d 1 ( (ZdN i h).bind fun A=>(Zeu A b.2.1.fby b.2.1.fn j).bind fun B=>(ZeL h B).bind fun C=>ZcE i j e f g n aQ fu b (Zan (1:Int) (1:Int)) C)<|ix1 d 2 ( (ZdN i h).bind fun D=>(Zeu D b.2.2.1.fby b.2.2.1.fn j).bind fun E=>(ZeL h E).bind fun o=>ZcE i j e f g n aQ fu b (Zan (2:Int) (1:Int)) o)<|(ZdN i h).bind fun p=>(Zeu p b.2.2.2.fby b.2.2.2.fn j).bind fun r=>(ZeL h r).bind fun t=>ZcE i j e f g n aQ fu b (Zan (3:Int) (1:Int)) t else some h
theorem Zqw{p:(List Zaa)}{t:Int}{u:Int}{v:Int}{y:(List Int)}{D:Zay}{aQ:Int->Int->(List Int)->Zay->Option (List Int)}(fy:∀{h i d f},LH z Tryz.f212 [1,1,0,1,0] (aQ h i d f) (mN 99999 3 1 mQ (0:Int)) m6 ⟨[(0,(Ym p)),(2,.one (.lit (.int .u64 t))),(4,.one (.ptr 4 0)),(7,.one (.osl 13 d.length)),(15,(Yj h)),(16,(Yj i))],[(mM 13 3 1 mQ (0:Int) d),(4,.box (Zay.c f))]⟩):∀{n b g j},LH z Tryz.f212 [1,1,1,0,1,0] (ZcE p t u v y D aQ n b g j) (mN 99999 3 1 mQ (0:Int)) m6 ⟨[(0,(Ym p)),(2,.one (.lit (.int .u64 t))),(7,.one (.osl 7 j.length)),(25,.agg [.lit (.int .i64 b.1.fby),.lit (.int .i64 b.1.fn),.lit (.int .i64 b.2.1.fby),.lit (.int .i64 b.2.1.fn),.lit (.int .i64 b.2.2.1.fby),.lit (.int .i64 b.2.2.1.fn),.lit (.int .i64 b.2.2.2.fby),.lit (.int .i64 b.2.2.2.fn)]),(26,(Yj g))],[(mM 7 3 1 mQ (0:Int) j)]⟩:=by
 intro n;induction n with
 |zero=>exact kZ
 |succ n o=>intro b g j;exact kB (kNm fun E=>kI (fun e=>by subst e;exact kH (show 0<=(0:Int)/\(0:Int)<((4:Nat):Int)from(by decide))<|kC fun _=>kC fun _=>kD 2 10 [] [(99999,39)] fun _=>kX 2 ⟨[],[],[(0,[7])],[],[],[],[]⟩<|kLr 14 [(39,7)] o) fun A=>kI (fun e=>by subst e;exact kH (show 0<=(1:Int)/\(1:Int)<((4:Nat):Int)from(by decide))<|kC fun _=>kC fun _=>kD 2 10 [] [(99999,39)] fun _=>kX 2 ⟨[],[],[(0,[7])],[],[],[],[]⟩<|kLr 14 [(39,7)] o) fun B=>kI (fun e=>by subst e;exact kH (show 0<=(2:Int)/\(2:Int)<((4:Nat):Int)from(by decide))<|kC fun _=>kC fun _=>kD 2 10 [] [(99999,39)] fun _=>kX 2 ⟨[],[],[(0,[7])],[],[],[],[]⟩<|kLr 14 [(39,7)] o) fun C=>by obtain rfl:g=3:=(by omega);exact kH (show 0<=(3:Int)/\(3:Int)<((4:Nat):Int)from(by decide))<|kC fun _=>kC fun _=>kD 2 10 [] [(99999,39)] fun _=>kX 2 ⟨[],[],[(0,[7])],[],[],[],[]⟩<|kLr 14 [(39,7)] o) (kRH (mL [6] [7] [(7,99999)]) none)
def Zfp(f:List Zaa)(g:Int):Nat->Int->Int->(List Int)->Zay->Option (List Int)|0,_,_,_,_=>none|fu+1,e,b,d,h=>bif(decide (b<e))then need (0<=b/\b<(d.length:Int))<|Zfp f g fu e (Zan b 1) (d.set b.toNat b) h else(Znu h).bind fun i=>ZcE f g e b d h (Zfp f g fu) (((4:Int)-(0:Int)).toNat+2) i (0:Int) d
theorem Zqx{h i}:∀{g e b d f},LH z Tryz.f212 [1,1,0,1,0] (Zfp h i g e b d f) (mN 99999 3 1 mQ (0:Int)) m6 ⟨[(0,(Ym h)),(2,.one (.lit (.int .u64 i))),(4,.one (.ptr 4 0)),(7,.one (.osl 13 d.length)),(15,(Yj e)),(16,(Yj b))],[(mM 13 3 1 mQ (0:Int) d),(4,.box (Zay.c f))]⟩:=by
 intro g;induction g with
 |zero=>exact kZ
 |succ g j=>intro e b d f;exact kB (kNq fun n=>kW 2 4 (eI .i64) d b.toNat b (ltOf n)<|kH (nt ((d.set b.toNat b).length))<|kLx 14 [] [] [] [(13,((d.set b.toNat b).length))] [] [] j) (kC fun _=>kLr 10 [(13,7)] (Zqw j))
def ZkJ(b:List Zaa)(d:Zay)(e:Int):Option (List Int):=need (0<=(b.length:Int)/\(b.length:Int)<=(b.length:Int)/\(b.length:Int)<=140737488355328/\(b.length:Int) * 8<=140737488355328)<|Zfp b e (((((b.length:Int).toNat:Nat):Int)-(0:Int)).toNat+2) (((b.length:Int).toNat:Nat):Int) (0:Int) (List.replicate (b.length:Int).toNat (0:Int)) d
instance ZHC{b d e}:ConH (ZkJ b d e) (eH 212 [] [Ym b,.agg (Zay.c d),.one (.lit (.int .u64 e))] (fun r=>[(99999,.rows 3 1 r.length (Zaj (cI .i64) (0:Int) r))]) m6):=kHC Tryz.func212 (kNm fun o1=>kH (show (b.length:Int)=(((b.length:Int).toNat:Nat):Int)from(Int.toNat_of_nonneg o1.1).symm)<|kH (show (((b.length:Int).toNat:Nat):Int)<=(b.length:Int)from((Int.toNat_of_nonneg o1.1).symm ▸ o1.2.1))<|kH o1.2.2.1<|kH o1.2.2.2<|kH (show ∀i j,i<(b.length:Int).toNat->j<1->ZpO (([.lit (.int .i64 (0))]:List C).getD j .junk) (Zaj (cI .i64) (0:Int) (List.replicate (b.length:Int).toNat (0:Int)) i j)from(ZvU (fun j hj=>.inl rfl) _))<|kH (show (List.replicate (b.length:Int).toNat (0:Int)).length=(b.length:Int).toNat from List.length_replicate)<|kX 1 (rA [(2,.c ((b.length:Int).toNat) (Zaj (cI .i64) (0:Int) (List.replicate (b.length:Int).toNat (0:Int))))])<|kLx 8 [] [] [] [(13,((List.replicate (b.length:Int).toNat (0:Int)).length))] [] [] Zqx)
instance ZHj{b d e}:Con (ZkJ b d e) (eS 212 [Ym b,.agg (Zay.c d),.one (.lit (.int .u64 e))] fun r=>.one (cL 1 (cI .i64) (0:Int) r)):=Con.of fun r h=>(show ZdB _ _ _ _ _ _ from ConH.ok h).pure
def ZdV:Nat->(List Zaa)->(List Int)->Int->Int->(List Zaa)->Option (List Zaa)|0,_,_,_,_,_=>none|fu+1,f,e,g,b,h=>bif(decide (b<g))then need (0<=b/\b<(e.length:Int))<|need (0<=(e.getD b.toNat (0:Int))/\(e.getD b.toNat (0:Int))<(f.length:Int))<|need ((h++([(f.getD (e.getD b.toNat (0:Int)).toNat Zaa.d)]:List Zaa)).length * 80<=140737488355328/\(h++([(f.getD (e.getD b.toNat (0:Int)).toNat Zaa.d)]:List Zaa)).length<=maxLen)<|ZdV fu f e g (Zan b 1) (h++([(f.getD (e.getD b.toNat (0:Int)).toNat Zaa.d)]:List Zaa))else some h
theorem ZnM:∀{h i b f e g},LH z Tryz.f168 [1,1,1,0,1,0] (ZdV h i b f e g) (mN 99999 64 10 Zaa.c Zaa.d) m6 ⟨[(0,(Ym i)),(7,.one (.osl 7 g.length)),(15,.one (cL 1 mQ (0:Int) b)),(16,(Yj f)),(17,(Yj e))],[(mM 7 64 10 Zaa.c Zaa.d g)]⟩:=by
 intro h;induction h with
 |zero=>exact kZ
 |succ h j=>intro i b f e g;exact kB (kN<|kN<|kM 2 5 Zaa.E ([(i.getD (b.getD e.toNat (0:Int)).toNat Zaa.d)]:List Zaa)<|kA 2 6 Zaa.E<|kLr 14 [(27,7)] j) (kRH (mL [6] [7] [(7,99999)]) none)
def ZgD(e:List Zaa)(f:Zay)(g:Int):Option (List Zaa):=(ZlG e).bind fun d=>(ZkJ d f g).bind fun b=>ZdV (((b.length:Int)-(0:Int)).toNat+2) d b (b.length:Int) (0:Int) ([])
instance ZAs{b e f}:ConH (ZgD b e f) (eH 168 [] [Ym b,.agg (Zay.c e),.one (.lit (.int .u64 f))] (fun r=>[(99999,.rows 64 10 r.length (Zaj Zaa.c Zaa.d r))]) m6):=kHC Tryz.func168 (kC fun _=>kC fun _=>kLx 10 [] [] [] [] [(7,7,64,10,Zaj Zaa.c Zaa.d [])] [] ZnM)
instance ZAi{b d e}:Con (ZgD b d e) (eS 168 [Ym b,.agg (Zay.c d),.one (.lit (.int .u64 e))] Ym):=Con.of fun r h=>(show ZdB _ _ _ _ _ _ from ConH.ok h).pure
end Go.Proofs.YtlpdogaifdeomaaGreat
