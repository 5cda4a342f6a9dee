import Derived.Test.YtmcnjofonpkfmaaGreatHTskT
open BitVec renaming ofInt->Tz
open Bool renaming false->Tm,true->Tl,cond_eq_ite->XA
open ByteArray renaming empty->Xr
open Int renaming fdiv->Xo,toNat_of_nonneg->Xw
open Go.IntKind renaming bits->UB,wrap->US
open List renaming length_cons->Uw,length_nil->XB,replicate->V6,length->S7
open Go.Op renaming eqFields->Xq,equalIn->UQ
open Option renaming some->S8,none->S_,bind_some->Xt
open Go.Proofs.Tryz renaming prog->W8,f396->Xp,f384->Xs,eqGuardType57->Xu,eqGuardType41->Xv,f395->Xx,f363->Xy,f261->Xz,func208->XC,func32->XD,f374->XE,f124->XF,f4->XH
namespace Go.Proofs.YtmcnjofonpkfmaaGreat
open Go.RowKit Go.Lib Go.Shelf
set_option linter.unusedSimpArgs false
set_option linter.unusedVariables false
set_option maxRecDepth 100000
variable {z:Zw}
theorem Zzg : (W8.fieldsOf 33).toList = [{ name := "Kind", type := 3, offset := 0, embedded := Tm, tag := "", pkgPath := "", byteOffset := 0 }, { name := "Shard", type := 3, offset := 1, embedded := Tm, tag := "", pkgPath := "", byteOffset := 8 }, { name := "Slot", type := 3, offset := 2, embedded := Tm, tag := "", pkgPath := "", byteOffset := 16 }] := by kernel_rfl
abbrev pM.v(x:pM):Value:=.agg #[.int .i64 x.d_,.int .i64 x.uZ,.int .i64 x.yy]
theorem ZDO(d:Nat)(x y:pM)(w:World):(UQ (d+2) 33 x.v y.v).run W8 w=.ok (decide (x=y)) w:=by rw[run_equalIn_struct w (d+1) _ _ _ (by kernel_rfl) (by kernel_rfl)];simp only[Zzg,Xq];simp[go_sem];cases x;cases y;simp only[pM.mk.injEq];(repeat' split)<;>simp_all
theorem ZGL(x y:pM)(xo yo:Operand):EG W8 .eql 33 xo yo x.v y.v (decide (x=y)):=Sg Tryz.eqGuardType33 (ZDO 9998 x y) xo yo
theorem ZxT : (W8.fieldsOf 35).toList = [{ name := "V6", type := 4, offset := 0, embedded := Tm, tag := "", pkgPath := "", byteOffset := 0 }, { name := "Hi", type := 22, offset := 1, embedded := Tm, tag := "", pkgPath := "", byteOffset := 8 }, { name := "Lo", type := 22, offset := 2, embedded := Tm, tag := "", pkgPath := "", byteOffset := 16 }] := by kernel_rfl
abbrev oV.v(x:oV):Value:=.agg #[.bool x.qt,.int .u64 x.rk,.int .u64 x.qX]
theorem ZrH(d:Nat)(x y:oV)(w:World):(UQ (d+2) 35 x.v y.v).run W8 w=.ok (decide (x=y)) w:=by rw[run_equalIn_struct w (d+1) _ _ _ (by kernel_rfl) (by kernel_rfl)];simp only[ZxT,Xq];simp[go_sem];cases x;cases y;simp only[oV.mk.injEq];(repeat' split)<;>simp_all
theorem ZpT(x y:oV)(xo yo:Operand):EG W8 .eql 35 xo yo x.v y.v (decide (x=y)):=Sg Tryz.eqGuardType35 (ZrH 9998 x y) xo yo
theorem Zzh : (W8.fieldsOf 37).toList = [{ name := "Addr", type := 35, offset := 0, embedded := Tm, tag := "", pkgPath := "", byteOffset := 0 }, { name := "Port", type := 3, offset := 3, embedded := Tm, tag := "", pkgPath := "", byteOffset := 24 }] := by kernel_rfl
abbrev l_.v(x:l_):Value:=.agg #[.bool x.b_.qt,.int .u64 x.b_.rk,.int .u64 x.b_.qX,.int .i64 x.qE]
theorem ZpU(d:Nat)(x y:l_)(w:World):(UQ (d+4) 37 x.v y.v).run W8 w=.ok (decide (x=y)) w:=by rw[run_equalIn_struct w (d+3) _ _ _ (by kernel_rfl) (by kernel_rfl)];simp only[Zzh,Xq];simp[go_sem,ZrH];cases x;cases y;simp only[l_.mk.injEq];(repeat' split)<;>simp_all
theorem Ho(x y:l_)(xo yo:Operand):EG W8 .eql 37 xo yo x.v y.v (decide (x=y)):=Sg Tryz.eqGuardType37 (ZpU 9996 x y) xo yo
theorem Zxf : (W8.fieldsOf 39).toList = [{ name := "Points", type := 3, offset := 0, embedded := Tm, tag := "", pkgPath := "", byteOffset := 0 }, { name := "At", type := 3, offset := 1, embedded := Tm, tag := "", pkgPath := "", byteOffset := 8 }] := by kernel_rfl
abbrev pW.v(x:pW):Value:=.agg #[.int .i64 x.pB,.int .i64 x.tZ]
theorem ZAT(d:Nat)(x y:pW)(w:World):(UQ (d+2) 39 x.v y.v).run W8 w=.ok (decide (x=y)) w:=by rw[run_equalIn_struct w (d+1) _ _ _ (by kernel_rfl) (by kernel_rfl)];simp only[Zxf,Xq];simp[go_sem];cases x;cases y;simp only[pW.mk.injEq];(repeat' split)<;>simp_all
theorem ZxR : (W8.fieldsOf 41).toList = [{ name := "End", type := 37, offset := 0, embedded := Tm, tag := "", pkgPath := "", byteOffset := 0 }, { name := "In", type := 4, offset := 4, embedded := Tm, tag := "", pkgPath := "", byteOffset := 32 }, { name := "Since", type := 3, offset := 5, embedded := Tm, tag := "", pkgPath := "", byteOffset := 40 }, { name := "Score", type := 39, offset := 6, embedded := Tm, tag := "", pkgPath := "", byteOffset := 48 }, { name := "Ping", type := 3, offset := 8, embedded := Tm, tag := "", pkgPath := "", byteOffset := 64 }, { name := "Work", type := 3, offset := 9, embedded := Tm, tag := "", pkgPath := "", byteOffset := 72 }] := by kernel_rfl
abbrev a_.v(x:a_):Value:=.agg #[.bool x.c_.b_.qt,.int .u64 x.c_.b_.rk,.int .u64 x.c_.b_.qX,.int .i64 x.c_.qE,.bool x.tL,.int .i64 x.pK,.int .i64 x.qa.pB,.int .i64 x.qa.tZ,.int .i64 x.p_,.int .i64 x.qo]
theorem ZvY(d:Nat)(x y:a_)(w:World):(UQ (d+6) 41 x.v y.v).run W8 w=.ok (decide (x=y)) w:=by rw[run_equalIn_struct w (d+5) _ _ _ (by kernel_rfl) (by kernel_rfl)];simp only[ZxR,Xq];simp[go_sem,ZpU,ZAT];cases x;cases y;simp only[a_.mk.injEq];(repeat' split)<;>simp_all
theorem ZDN(x y:a_)(xo yo:Operand):EG W8 .eql 41 xo yo x.v y.v (decide (x=y)):=Sg Xv (ZvY 9994 x y) xo yo
theorem ZsJ(x y:a_)(xo yo:Operand):EG W8 .neq 41 xo yo x.v y.v (!decide (x=y)):=Sb Xv (ZvY 9994 x y) xo yo
theorem Zzf : (W8.fieldsOf 57).toList = [{ name := "Addr", type := 35, offset := 0, embedded := Tm, tag := "", pkgPath := "", byteOffset := 0 }, { name := "Bits", type := 3, offset := 3, embedded := Tm, tag := "", pkgPath := "", byteOffset := 24 }] := by kernel_rfl
abbrev pn.v(x:pn):Value:=.agg #[.bool x.b_.qt,.int .u64 x.b_.rk,.int .u64 x.b_.qX,.int .i64 x.oR]
theorem SL(d:Nat)(x y:pn)(w:World):(UQ (d+4) 57 x.v y.v).run W8 w=.ok (decide (x=y)) w:=by rw[run_equalIn_struct w (d+3) _ _ _ (by kernel_rfl) (by kernel_rfl)];simp only[Zzf,Xq];simp[go_sem,ZrH];cases x;cases y;simp only[pn.mk.injEq];(repeat' split)<;>simp_all
theorem LN(x y:pn)(xo yo:Operand):EG W8 .eql 57 xo yo x.v y.v (decide (x=y)):=Sg Xu (SL 9996 x y) xo yo
theorem Zyx(x y:pn)(xo yo:Operand):EG W8 .neq 57 xo yo x.v y.v (!decide (x=y)):=Sb Xu (SL 9996 x y) xo yo
theorem ZxS : (W8.fieldsOf 59).toList = [{ name := "Kind", type := 3, offset := 0, embedded := Tm, tag := "", pkgPath := "", byteOffset := 0 }, { name := "End", type := 37, offset := 1, embedded := Tm, tag := "", pkgPath := "", byteOffset := 8 }, { name := "Net", type := 57, offset := 5, embedded := Tm, tag := "", pkgPath := "", byteOffset := 40 }, { name := "Now", type := 3, offset := 9, embedded := Tm, tag := "", pkgPath := "", byteOffset := 72 }, { name := "Num", type := 3, offset := 10, embedded := Tm, tag := "", pkgPath := "", byteOffset := 80 }, { name := "Good", type := 4, offset := 11, embedded := Tm, tag := "", pkgPath := "", byteOffset := 88 }] := by kernel_rfl
abbrev pD.v(x:pD):Value:=.agg #[.int .i64 x.d_,.bool x.c_.b_.qt,.int .u64 x.c_.b_.rk,.int .u64 x.c_.b_.qX,.int .i64 x.c_.qE,.bool x.g_.b_.qt,.int .u64 x.g_.b_.rk,.int .u64 x.g_.b_.qX,.int .i64 x.g_.oR,.int .i64 x.pE,.int .i64 x.qz,.bool x.uq]
theorem ZCU(d:Nat)(x y:pD)(w:World):(UQ (d+6) 59 x.v y.v).run W8 w=.ok (decide (x=y)) w:=by rw[run_equalIn_struct w (d+5) _ _ _ (by kernel_rfl) (by kernel_rfl)];simp only[ZxS,Xq];simp[go_sem,ZpU,SL];cases x;cases y;simp only[pD.mk.injEq];(repeat' split)<;>simp_all
theorem ZDF(x y:pD)(xo yo:Operand):EG W8 .neq 59 xo yo x.v y.v (!decide (x=y)):=Sb Tryz.eqGuardType59 (ZCU 9994 x y) xo yo
theorem Zzi : (W8.fieldsOf 136).toList = [{ name := "Net", type := 57, offset := 0, embedded := Tm, tag := "", pkgPath := "", byteOffset := 0 }, { name := "Until", type := 3, offset := 4, embedded := Tm, tag := "", pkgPath := "", byteOffset := 32 }] := by kernel_rfl
abbrev oD.v(x:oD):Value:=.agg #[.bool x.g_.b_.qt,.int .u64 x.g_.b_.rk,.int .u64 x.g_.b_.qX,.int .i64 x.g_.oR,.int .i64 x.pq]
theorem ZDP(d:Nat)(x y:oD)(w:World):(UQ (d+6) 136 x.v y.v).run W8 w=.ok (decide (x=y)) w:=by rw[run_equalIn_struct w (d+5) _ _ _ (by kernel_rfl) (by kernel_rfl)];simp only[Zzi,Xq];simp[go_sem,SL];cases x;cases y;simp only[oD.mk.injEq];(repeat' split)<;>simp_all
theorem ZFT(x y:oD)(xo yo:Operand):EG W8 .neq 136 xo yo x.v y.v (!decide (x=y)):=Sb Tryz.eqGuardType136 (ZDP 9994 x y) xo yo
theorem Zxg : (W8.fieldsOf 160).toList = [{ name := "End", type := 37, offset := 0, embedded := Tm, tag := "", pkgPath := "", byteOffset := 0 }, { name := "State", type := 3, offset := 4, embedded := Tm, tag := "", pkgPath := "", byteOffset := 32 }, { name := "Fails", type := 3, offset := 5, embedded := Tm, tag := "", pkgPath := "", byteOffset := 40 }, { name := "Next", type := 3, offset := 6, embedded := Tm, tag := "", pkgPath := "", byteOffset := 48 }] := by kernel_rfl
abbrev k_.v(x:k_):Value:=.agg #[.bool x.c_.b_.qt,.int .u64 x.c_.b_.rk,.int .u64 x.c_.b_.qX,.int .i64 x.c_.qE,.int .i64 x.ql,.int .i64 x.p6,.int .i64 x.pS]
theorem ZAU(d:Nat)(x y:k_)(w:World):(UQ (d+6) 160 x.v y.v).run W8 w=.ok (decide (x=y)) w:=by rw[run_equalIn_struct w (d+5) _ _ _ (by kernel_rfl) (by kernel_rfl)];simp only[Zxg,Xq];simp[go_sem,ZpU];cases x;cases y;simp only[k_.mk.injEq];(repeat' split)<;>simp_all
theorem ZCo(x y:k_)(xo yo:Operand):EG W8 .neq 160 xo yo x.v y.v (!decide (x=y)):=Sb Tryz.eqGuardType160 (ZAU 9994 x y) xo yo
abbrev acb:pn → Value:=(λk:pn=>(.agg #[.bool k.b_.qt,.int .u64 k.b_.rk,.int .u64 k.b_.qX,.int .i64 k.oR]:Value))
theorem SZ(a b:pn)(h:acb a=acb b):a=b:=by
 obtain⟨⟨d,e,g⟩,j⟩:=a;obtain⟨⟨y5,y6,y7⟩,y8⟩:=b;simp only[Value.agg.injEq]at h;have:=aFj Array.toList h;simp at this;simp_all
abbrev yk(a:pn):Value:=.agg #[.bool a.b_.qt,.int .u64 a.b_.rk,.int .u64 a.b_.qX,.int .i64 a.oR]
theorem ZAR(e:Bool)(n:Nat)(k:pn)(w:World):(Instr.checkKey e (n+5) 57 (yk k)).run W8 w=.ok () w:=by kernel_rfl
abbrev xF:pn → Value:=λk=>.agg #[.bool k.b_.qt,.int .u64 k.b_.rk,.int .u64 k.b_.qX,.int .i64 k.oR]
theorem ZoQ{ν:Type}{vv:ν->V}(k:pn)(l:S5 (pn×ν)):xU W8 57 (yk k) ((sJ xF vv l).map (·.1)):=
 ZIP (kv:=λk:pn=>.agg #[.bool k.b_.qt,.int .u64 k.b_.rk,.int .u64 k.b_.qX,.int .i64 k.oR]) Tryz.underlying57 (λa=>⟨_,rfl⟩) 5 (by decide) ZAR (λn a b w=>by have:=SL (n+1) a b w;simpa[Nat.add_assoc]using this) SZ (λk=>by simp[Instr.sameBits]) k l
def Am(d e g:Int):S6 Bool:=bif(decide (d>=e))then S8 (decide (d<=g))else S8 Tm
instance{d e g}:o0 (Am d e g) (eS 20 [Yj d,Yj e,Yj g] Yk):=kS Tryz.func20 (kB i_ i_)
def Mt(e:Bool)(d:p5)(g:Bool):S6 Bool:=(Am d.uM (1:Int) (1073741824:Int)).bind λh=>bif h then(Am d.rS (1:Int) (10000:Int)).bind λj=>bif j then(Am d.sn (1:Int) (1073741824:Int)).bind λo=>bif o then(Am d.vY (1:Int) (1073741824:Int)).bind λt=>bif t then(Am d.z8 d.vY (1073741824:Int)).bind λu=>bif u then(Am d.qV (0:Int) (1073741824:Int)).bind λy=>bif e then bif g then bif y then S8 (decide (d.pX<=(9223372036854775807:Int)))else S8 Tm else S8 Tm else S8 Tm else bif e then bif g then S8 Tm else S8 Tm else S8 Tm else bif e then bif g then S8 Tm else S8 Tm else S8 Tm else bif e then bif g then S8 Tm else S8 Tm else S8 Tm else bif e then bif g then S8 Tm else S8 Tm else S8 Tm else bif e then bif g then S8 Tm else S8 Tm else S8 Tm
abbrev y_:Nat × V:=(1,.one (.ptr 1 0))
abbrev sg(a:p5):S5 C:=p5.c a
theorem Zgx{e d}{g}:LS z XH [1,1,1] (Mt e d g) Yk ⟨[y_,(3,(Yk e)),(4,(Yk g))],[(1,.box (sg d))]⟩:=f'<|kB (f'<|kB (f'<|kB (f'<|kB (f'<|kB (f'<|kB (kB (kB i_ i_) (kK Tm<|i_)) (kK Tm<|kK Tm<|i_)) (kB (kB (kK Tm<|i_) (kK Tm<|i_)) (kK Tm<|kK Tm<|i_))) (kK Tm<|kB (kB (kK Tm<|i_) (kK Tm<|i_)) (kK Tm<|kK Tm<|i_))) (kK Tm<|kK Tm<|kB (kB (kK Tm<|i_) (kK Tm<|i_)) (kK Tm<|kK Tm<|i_))) (kK Tm<|kK Tm<|kK Tm<|kB (kB (kK Tm<|i_) (kK Tm<|i_)) (kK Tm<|kK Tm<|i_))) (kK Tm<|kK Tm<|kK Tm<|kK Tm<|kB (kB (kK Tm<|i_) (kK Tm<|i_)) (kK Tm<|kK Tm<|i_))
def HN(e:Bool)(d:p5):S6 Bool:=(Am d.qu.qW (0:Int) (64:Int)).bind λg=>bif g then(Am d.qu.p_ (0:Int) (64:Int)).bind λh=>bif h then(Am d.qu.qo (0:Int) (64:Int)).bind λj=>bif j then(Am d.qu.tE (0:Int) (64:Int)).bind λo=>Mt e d o else Mt e d Tm else Mt e d Tm else Mt e d Tm
theorem Zfh{e d}:LS z XH [1,1] (HN e d) Yk ⟨[y_,(3,(Yk e))],[(1,.box (sg d))]⟩:=f'<|kB (f'<|kB (f'<|kB (f'<|kL 2 Zgx) (kL 2 Zgx)) (kK Tm<|kL 2 Zgx)) (kK Tm<|kK Tm<|kL 2 Zgx)
def PK(d:p5):S6 Bool:=(Am d.rf (0:Int) (65535:Int)).bind λe=>bif e then(Am d.rW (0:Int) (65535:Int)).bind λg=>bif g then(Am d.e_ (1:Int) (8:Int)).bind λh=>bif h then(Am d.qc (0:Int) (1024:Int)).bind λj=>bif j then(Am d.qq (0:Int) (1024:Int)).bind λo=>HN o d else HN Tm d else HN Tm d else HN Tm d else HN Tm d
instance{d}:o0 (PK d) (eS 4 [.agg (sg d)] Yk):=kS Tryz.func4 (f'<|kB (f'<|kB (f'<|kB (f'<|kB (f'<|kL 4 Zfh) (kL 4 Zfh)) (kK Tm<|kL 4 Zfh)) (kK Tm<|kK Tm<|kL 4 Zfh)) (kK Tm<|kK Tm<|kK Tm<|kL 4 Zfh))
def Zhq(e:S5 oM):Nat->Int->S6 Bool|0,_=>S_|fu+1,g=>bif(decide (g<(S7 e:Int)))then bif(decide (g<80))then f_ (0<=g/\g<(S7 e:Int))<|bif(decide (((((e.getD g.toNat oM.d).po).length:Nat):Int)>(20:Int)))then S8 Tm else bif(decide (((((e.getD g.toNat oM.d).j_).length:Nat):Int)>(20:Int)))then S8 Tm else Zhq e fu (n_ g 1)else S8 (decide ((S7 e:Int)<=(80:Int)))else S8 (decide ((S7 e:Int)<=(80:Int)))
abbrev uv:S5 Nat:=[1,0,1,0]
abbrev sO(a:Int):Nat × V:=(3,(Yj a))
theorem ZtR{e}:∀{d g},LS z Tryz.f5 uv (Zhq e d g) Yk ⟨[(0,(Yl e)),(sO g)],[]⟩:=@qv _ kZ λh=>kB (kB (sB λj=>kB (kK Tl<|i_) (kH j<|kB i_ (kL 15 h))) i_) (kK Tm<|i_)
def Zpe(d:S5 oM):S6 Bool:=Zhq d (((80:Int)-(0:Int)).toNat+2) (0:Int)
instance{d}:o0 (Zpe d) (eS 5 [Yl d] Yk):=kS Tryz.func5 (kL 6 ZtR)
def ZqB:S6 p5:=S8 (p5.mk 8 4 4 64 64 1 (rY.mk 1 1 1 1) 100 100 1000 2 64 4)
instance:o0 (ZqB) (eS 21 [] (ov p5.c)):=kS Tryz.func21 (i_)
def Zdo(d:S5 pD):S6 (S5 pD):=f_ (0<S7 d)<|f_ ((([]:S5 pD)++d).length * 96<=140737488355328/\(([]:S5 pD)++d).length<=maxLen)<|some (([]:S5 pD)++d)
abbrev Ci:NA:=⟨[],[],[],[],[],[2],[7],[(7,99999)]⟩
abbrev Fs(a:S5 pD):C:=cL 12 pD.c pD.d a
instance{g}:pC (Zdo g) (eH 32 [] [.one (Fs g)] (λr=>[(99999,.rows 59 12 r.length (pw pD.c pD.d r))]) oH):=sE XD (kN<|kK Tm<|kH (show ([]:S5 pD).length=0 from rfl)<|kH (show ∀i j,i<0->j<12->pw pD.c pD.d [] i j=(([]:S5 pD).flatMap pD.c).getD (i * 12+j) .oF from(λi j hi hj=>vJ (sz:=12) (e:=pD.c) (d:=pD.d) (λ_=>rfl) [] i j hi hj))<|kA 2 2 pD.E<|kX 2 (rA [(0,.c ([]:S5 pD).length (pw pD.c pD.d []))])<|r7 Ci S_)
def Zcu(d:S5 pD):S6 (S5 pD):=f_ (S7 d * 96<=140737488355328/\S7 d<=maxLen)<|some d
instance{e}:pC (Zcu e) (eH 32 [] [.one (cL 12 pD.c pD.d e)] (λr=>[(99999,.rows 59 12 r.length (pw pD.c pD.d r))]) λr=>.one (.p8 99999 r.length)):=pC.of (Lp (gn:=Zdo) XD (by kernel_rfl) Tryz.underlying27 (λ_ _ _=>by kernel_rfl) (λ_ _=>by kernel_rfl) (λ_ _ h=>show rX _ _ _ _ _ _ from pC.ok h) (λl h o=>by unfold Zdo;rw[CO h,CO (by simpa using o)];simp) e)
instance{e}:o0 (Zcu e) (eS 32 [.one (Fs e)] λr=>.one (Fs r)):=o0.of λr h=>(show rX _ _ _ _ _ _ from pC.ok h).pure
def ZwD(d:S5 pD):S6 rU:=(Zcu d).bind λe=>S8 (rU.mk e 0 [] [] Tm)
abbrev Il:Nat × C:=(2,cL 13 oM.c oM.d [])
instance{e}:o0 (ZwD e) (eS 11 [.one (Fs e)] (ov rU.c)):=kS Tryz.func11 (f'<|kR [] [(2,[Il,(3,cL 8 oZ.c oZ.d [])])] [])
def LF(d:rU):S6 Bool:=bif d.qC then S8 Tl else bif(decide (d.qM<0))then S8 Tl else S8 (decide (d.qM>=(S7 d.pZ:Int)))
instance{d}:o0 (LF d) (eS 15 [.agg (rU.c d)] Yk):=kS Tryz.func15 (kB (kK Tl<|i_) (kB i_ i_))
def ZvP:S6 (ByteArray×ByteArray×ByteArray×ByteArray×ByteArray×ByteArray×ByteArray×ByteArray×ByteArray×ByteArray×ByteArray×ByteArray×ByteArray×ByteArray):=S8 ((⟨#[]⟩ : ByteArray),(⟨#[97,99,99,101,112,116]⟩ : ByteArray),(⟨#[108,101,97,118,101]⟩ : ByteArray),(⟨#[100,105,97,108]⟩ : ByteArray),(⟨#[114,101,115,117,108,116]⟩ : ByteArray),(⟨#[98,108,97,109,101]⟩ : ByteArray),(⟨#[98,97,110]⟩ : ByteArray),(⟨#[117,110,98,97,110]⟩ : ByteArray),(⟨#[98,97,110,110,101,100]⟩ : ByteArray),(⟨#[116,105,99,107]⟩ : ByteArray),(⟨#[108,105,115,116]⟩ : ByteArray),(⟨#[112,111,110,103]⟩ : ByteArray),(⟨#[119,111,114,107]⟩ : ByteArray),(⟨#[108,101,97,114,110]⟩ : ByteArray))
instance:o0 (ZvP) (eS 187 [] λr=>.agg ((cP cS (cP cS (cP cS (cP cS (cP cS (cP cS (cP cS (cP cS (cP cS (cP cS (cP cS (cP cS (cP cS cS))))))))))))) r)):=kS Tryz.func187 (i_)
def ZCF(e:S5 ByteArray)(d:Int):S6 ByteArray:=bif(decide (d<0))then S8 (⟨#[]⟩ : ByteArray)else bif(decide (d>=(S7 e:Int)))then S8 (⟨#[]⟩ : ByteArray)else f_ (0<=d/\d<(S7 e:Int))<|some (e.getD d.toNat Xr)
abbrev Dx(a:ByteArray):C:=.lit (.string a)
instance{d e}:o0 (ZCF d e) (eS 188 [.one (cL 1 cS Xr d),Yj e] λr=>.one (Dx r)):=kS Tryz.func188 (kB (kK Tl<|i_) (kB i_ (kN<|i_)))
def ZuR(e:Int):S6 ByteArray:=(ZvP).bind λd=>(ZCF ([d.1,d.2.1,d.2.2.1,d.2.2.2.1,d.2.2.2.2.1,d.2.2.2.2.2.1,d.2.2.2.2.2.2.1,d.2.2.2.2.2.2.2.1,d.2.2.2.2.2.2.2.2.1,d.2.2.2.2.2.2.2.2.2.1,d.2.2.2.2.2.2.2.2.2.2.1,d.2.2.2.2.2.2.2.2.2.2.2.1,d.2.2.2.2.2.2.2.2.2.2.2.2.1,d.2.2.2.2.2.2.2.2.2.2.2.2.2]:S5 ByteArray) e).bind λg=>S8 g
abbrev FH(a:ByteArray × ByteArray × ByteArray × ByteArray × ByteArray × ByteArray × ByteArray × ByteArray × ByteArray × ByteArray × ByteArray × ByteArray × ByteArray × ByteArray):S5 ByteArray:=([a.1,a.2.1,a.2.2.1,a.2.2.2.1,a.2.2.2.2.1,a.2.2.2.2.2.1,a.2.2.2.2.2.2.1,a.2.2.2.2.2.2.2.1,a.2.2.2.2.2.2.2.2.1,a.2.2.2.2.2.2.2.2.2.1,a.2.2.2.2.2.2.2.2.2.2.1,a.2.2.2.2.2.2.2.2.2.2.2.1,a.2.2.2.2.2.2.2.2.2.2.2.2.1,a.2.2.2.2.2.2.2.2.2.2.2.2.2]:S5 ByteArray)
abbrev ach(a:ByteArray × ByteArray × ByteArray × ByteArray × ByteArray × ByteArray × ByteArray × ByteArray × ByteArray × ByteArray × ByteArray × ByteArray × ByteArray × ByteArray):S5 C:=[.lit (.string a.1),.lit (.string a.2.1),.lit (.string a.2.2.1),.lit (.string a.2.2.2.1),.lit (.string a.2.2.2.2.1),.lit (.string a.2.2.2.2.2.1),.lit (.string a.2.2.2.2.2.2.1),.lit (.string a.2.2.2.2.2.2.2.1),.lit (.string a.2.2.2.2.2.2.2.2.1),.lit (.string a.2.2.2.2.2.2.2.2.2.1),.lit (.string a.2.2.2.2.2.2.2.2.2.2.1),.lit (.string a.2.2.2.2.2.2.2.2.2.2.2.1),.lit (.string a.2.2.2.2.2.2.2.2.2.2.2.2.1),.lit (.string a.2.2.2.2.2.2.2.2.2.2.2.2.2)]
instance{e}:o0 (ZuR e) (eS 123 [Yj e] λr=>.one (Dx r)):=kS Tryz.func123 (kC λd=>kH (show (FH d).length=14/\∀i j,i<14->j<1->pw cS Xr (FH d) i j=((ach d):S5 C).getD (0+(i * 1+j)) .oF from⟨rfl,anj (sz:=1) cS Xr (FH d) (ach d) (λ_=>rfl) rfl⟩)<|f'<|kX 2 ⟨[],[],[(0,[3])],[],[],[(0,((FH d).length,pw cS Xr (FH d)))],[]⟩<|i_)
def ZrD(d:Int)(e:Bool):S6 (S5 Int):=bif e then S8 ([(3:Int)]:S5 Int)else bif(d==(4:Int))then S8 ([(0:Int),(5:Int),(3:Int),(4:Int)]:S5 Int)else bif(d==(5:Int))then S8 ([(0:Int),(4:Int),(3:Int)]:S5 Int)else bif(d==(6:Int))then S8 ([(1:Int),(4:Int),(3:Int)]:S5 Int)else bif(d==(7:Int))then S8 ([(1:Int)]:S5 Int)else bif(d==(8:Int))then S8 ([(2:Int),(3:Int)]:S5 Int)else bif(d==(11:Int))then S8 ([(0:Int),(4:Int)]:S5 Int)else S8 ([]:S5 Int)
abbrev IY:S5 Int:=([(0:Int),(5:Int),(3:Int),(4:Int)]:S5 Int)
abbrev ID:S5 Int:=([(0:Int),(4:Int),(3:Int)]:S5 Int)
abbrev IC:S5 Int:=([(1:Int),(4:Int),(3:Int)]:S5 Int)
abbrev IL:S5 Int:=([(2:Int),(3:Int)]:S5 Int)
abbrev IK:S5 Int:=([(0:Int),(4:Int)]:S5 Int)
abbrev Is:S5 Int:=([(3:Int)]:S5 Int)
abbrev Ir:S5 Int:=([(1:Int)]:S5 Int)
theorem ZsC{h}{g}:LH z XF [1,0,1,0,1,1,1,1,1] (ZrD h g) (ol 99999 189 1 ou (0:Int)) oH ⟨[(sO h),(12,(Yk g))],[]⟩:=kB (kH (show (Is).length=1 from rfl)<|kH (oX (e:=ou) (0:Int) 1 (λ_=>rfl) Is)<|kX 0 (rA [(0,.c (Is).length (pw ou (0:Int) Is))])<|r7 (oh [2] [15] [(15,99999)]) S_) (kB (kH (show (IY).length=4 from rfl)<|kH (oX (e:=ou) (0:Int) 1 (λ_=>rfl) IY)<|kX 1 (rA [(0,.c (IY).length (pw ou (0:Int) IY))])<|r7 (oh [2] [18] [(18,99999)]) S_) (kB (kH (show (ID).length=3 from rfl)<|kH (oX (e:=ou) (0:Int) 1 (λ_=>rfl) ID)<|kX 2 (rA [(0,.c (ID).length (pw ou (0:Int) ID))])<|r7 (oh [2] [21] [(21,99999)]) S_) (kB (kH (show (IC).length=3 from rfl)<|kH (oX (e:=ou) (0:Int) 1 (λ_=>rfl) IC)<|kX 3 (rA [(0,.c (IC).length (pw ou (0:Int) IC))])<|r7 (oh [2] [24] [(24,99999)]) S_) (kB (kH (show (Ir).length=1 from rfl)<|kH (oX (e:=ou) (0:Int) 1 (λ_=>rfl) Ir)<|kX 4 (rA [(0,.c (Ir).length (pw ou (0:Int) Ir))])<|r7 (oh [2] [27] [(27,99999)]) S_) (kB (kH (show (IL).length=2 from rfl)<|kH (oX (e:=ou) (0:Int) 1 (λ_=>rfl) IL)<|kX 5 (rA [(0,.c (IL).length (pw ou (0:Int) IL))])<|r7 (oh [2] [30] [(30,99999)]) S_) (kB (kH (show (IK).length=2 from rfl)<|kH (oX (e:=ou) (0:Int) 1 (λ_=>rfl) IK)<|kX 6 (rA [(0,.c (IK).length (pw ou (0:Int) IK))])<|r7 (oh [2] [33] [(33,99999)]) S_) (r7 ⟨[],[],[],[],[(2,99999,189,1,pw ou (0:Int) [])],[2],[99999],[]⟩ S_)))))))
def Zph(d:Int)(e:Bool):S6 (S5 Int):=bif e then S8 ([(0:Int),(3:Int)]:S5 Int)else bif(d==(2:Int))then S8 ([(0:Int)]:S5 Int)else bif(d==(3:Int))then ZrD d (d==(3:Int))else ZrD d (d==(9:Int))
abbrev IJ:S5 Int:=([(0:Int),(3:Int)]:S5 Int)
abbrev Iq:S5 Int:=([(0:Int)]:S5 Int)
theorem Zpg{g h}:LH z XF [1,0,1,0,1] (Zph g h) (ol 99999 189 1 ou (0:Int)) oH ⟨[(sO g),(4,(Yk h))],[]⟩:=kB (kH (show (IJ).length=2 from rfl)<|kH (oX (e:=ou) (0:Int) 1 (λ_=>rfl) IJ)<|kX 0 (rA [(0,.c (IJ).length (pw ou (0:Int) IJ))])<|r7 (oh [2] [8] [(8,99999)]) S_) (kB (kH (show (Iq).length=1 from rfl)<|kH (oX (e:=ou) (0:Int) 1 (λ_=>rfl) Iq)<|kX 1 (rA [(0,.c (Iq).length (pw ou (0:Int) Iq))])<|r7 (oh [2] [11] [(11,99999)]) S_) (kB (kL 9 ZsC) (kL 9 ZsC)))
def Sx(d:Int):S6 (S5 Int):=bif(d==(1:Int))then Zph d (d==(1:Int))else bif(d==(12:Int))then Zph d (d==(12:Int))else Zph d (d==(13:Int))
abbrev uf:Int → S5 C:=cI .i64
instance{d}:pC (Sx d) (eH 124 [] [Yj d] (λr=>[(99999,.rows 189 1 r.length (pw uf (0:Int) r))]) oH):=sE Tryz.func124 (kB (kL 11 Zpg) (kB (kL 14 Zpg) (kL 14 Zpg)))
abbrev zc(a:S5 Int):C:=cL 1 uf (0:Int) a
instance{d}:o0 (Sx d) (eS 124 [Yj d] λr=>.one (zc r)):=o0.of λr h=>(show rX _ _ _ _ _ _ from pC.ok h).pure
def RT(d:Int):S6 oV:=S8 (oV.mk Tm 0 (US .u64 d))
instance{d}:o0 (RT d) (eS 266 [.one (.lit (.int .u32 d))] (ov oV.c)):=kS Tryz.func266 (i_)
def ZCG(e d:Int):S6 oV:=bif(e==(0:Int))then bif((Xo d (2 ^ (min (32:Int).toNat (UB .u64))))==(65535:Int))then(RT (US .u32 (US .u64 (((Tz (UB .u64) d) &&& (Tz (UB .u64) (4294967295:Int))).toNat:Int)))).bind λg=>S8 g else S8 (oV.mk Tl e d)else S8 (oV.mk Tl e d)
abbrev qT(a:Int):C:=.lit (.int .u64 a)
instance{d e}:o0 (ZCG d e) (eS 265 [.one (qT d),.one (qT e)] (ov oV.c)):=kS Tryz.func265 (kB (kH (show 0<=(32:Int)from(by decide))<|kB (f'<|i_) i_) (kK Tm<|i_))
def E6(d:oV):S6 Bool:=bif d.qt then(ZCG d.rk d.qX).bind λe=>S8 (decide (e=d))else(RT (US .u32 (US .u64 (((Tz (UB .u64) d.qX) &&& (Tz (UB .u64) (4294967295:Int))).toNat:Int)))).bind λg=>S8 (decide (g=d))
abbrev rR(a:oV):S5 C:=oV.c a
abbrev yj(a:oV):S5 V:=[.agg (rR a)]
abbrev AI:Operand:=.tmp 16
instance{d}:o0 (E6 d) (eS 191 (yj d) Yk):=kS Tryz.func191 (kB (kC λe=>kQ 2 6 (ZpT e d (.tmp 9) (.tmp 10))<|i_) (kC λg=>kQ 2 6 (ZpT g d AI (.tmp 17))<|i_))
def O6(d:l_):S6 Bool:=(E6 d.b_).bind λe=>bif e then bif(decide (d.qE>=(1:Int)))then S8 (decide (d.qE<=(65535:Int)))else S8 Tm else S8 Tm
instance{d}:o0 (O6 d) (eS 189 [.agg (l_.c d)] Yk):=kS Tryz.func189 (f'<|kB (kB i_ i_) (kK Tm<|i_))
def B1(d:oV):S6 Int:=bif d.qt then S8 (128:Int)else S8 (32:Int)
instance{d}:o0 (B1 d) (eS 276 (yj d) Yj):=kS Tryz.func276 (kB i_ i_)
def ZmZ(d:Int):S6 Int:=S8 (US .u64 (((Tz (UB .u64) (Xo (US .u64 (((Tz (UB .u64) (US .u64 (((Tz (UB .u64) (Xo (US .u64 (((Tz (UB .u64) (US .u64 (((Tz (UB .u64) (Xo d (2 ^ (min (8:Int).toNat (UB .u64))))) &&& (Tz (UB .u64) (71777214294589695:Int))).toNat:Int))) ||| (Tz (UB .u64) (US .u64 ((US .u64 (((Tz (UB .u64) d) &&& (Tz (UB .u64) (71777214294589695:Int))).toNat:Int)) * 2 ^ (min (8:Int).toNat (UB .u64)))))).toNat:Int)) (2 ^ (min (16:Int).toNat (UB .u64))))) &&& (Tz (UB .u64) (281470681808895:Int))).toNat:Int))) ||| (Tz (UB .u64) (US .u64 ((US .u64 (((Tz (UB .u64) (US .u64 (((Tz (UB .u64) (US .u64 (((Tz (UB .u64) (Xo d (2 ^ (min (8:Int).toNat (UB .u64))))) &&& (Tz (UB .u64) (71777214294589695:Int))).toNat:Int))) ||| (Tz (UB .u64) (US .u64 ((US .u64 (((Tz (UB .u64) d) &&& (Tz (UB .u64) (71777214294589695:Int))).toNat:Int)) * 2 ^ (min (8:Int).toNat (UB .u64)))))).toNat:Int))) &&& (Tz (UB .u64) (281470681808895:Int))).toNat:Int)) * 2 ^ (min (16:Int).toNat (UB .u64)))))).toNat:Int)) (2 ^ (min (32:Int).toNat (UB .u64))))) ||| (Tz (UB .u64) (US .u64 ((US .u64 (((Tz (UB .u64) (US .u64 (((Tz (UB .u64) (Xo (US .u64 (((Tz (UB .u64) (US .u64 (((Tz (UB .u64) (Xo d (2 ^ (min (8:Int).toNat (UB .u64))))) &&& (Tz (UB .u64) (71777214294589695:Int))).toNat:Int))) ||| (Tz (UB .u64) (US .u64 ((US .u64 (((Tz (UB .u64) d) &&& (Tz (UB .u64) (71777214294589695:Int))).toNat:Int)) * 2 ^ (min (8:Int).toNat (UB .u64)))))).toNat:Int)) (2 ^ (min (16:Int).toNat (UB .u64))))) &&& (Tz (UB .u64) (281470681808895:Int))).toNat:Int))) ||| (Tz (UB .u64) (US .u64 ((US .u64 (((Tz (UB .u64) (US .u64 (((Tz (UB .u64) (US .u64 (((Tz (UB .u64) (Xo d (2 ^ (min (8:Int).toNat (UB .u64))))) &&& (Tz (UB .u64) (71777214294589695:Int))).toNat:Int))) ||| (Tz (UB .u64) (US .u64 ((US .u64 (((Tz (UB .u64) d) &&& (Tz (UB .u64) (71777214294589695:Int))).toNat:Int)) * 2 ^ (min (8:Int).toNat (UB .u64)))))).toNat:Int))) &&& (Tz (UB .u64) (281470681808895:Int))).toNat:Int)) * 2 ^ (min (16:Int).toNat (UB .u64)))))).toNat:Int)) * 2 ^ (min (32:Int).toNat (UB .u64)))))).toNat:Int))
abbrev B6(a:Int):S5 V:=[.one (qT a)]
instance{d}:o0 (ZmZ d) (eS 375 (B6 d) λr=>.one (qT r)):=kS Tryz.func375 (kH (show 0<=(8:Int)from(by decide))<|kH (show 0<=(8:Int)from(by decide))<|kH (show 0<=(16:Int)from(by decide))<|kH (show 0<=(16:Int)from(by decide))<|kH (show 0<=(32:Int)from(by decide))<|kH (show 0<=(32:Int)from(by decide))<|i_)
def Zqe(d:Int):S6 Int:=(ZmZ (US .u64 (((Tz (UB .u64) (US .u64 (((Tz (UB .u64) (Xo (US .u64 (((Tz (UB .u64) (US .u64 (((Tz (UB .u64) (Xo (US .u64 (((Tz (UB .u64) (US .u64 (((Tz (UB .u64) (Xo d (2 ^ (min (1:Int).toNat (UB .u64))))) &&& (Tz (UB .u64) (6148914691236517205:Int))).toNat:Int))) ||| (Tz (UB .u64) (US .u64 ((US .u64 (((Tz (UB .u64) d) &&& (Tz (UB .u64) (6148914691236517205:Int))).toNat:Int)) * 2 ^ (min (1:Int).toNat (UB .u64)))))).toNat:Int)) (2 ^ (min (2:Int).toNat (UB .u64))))) &&& (Tz (UB .u64) (3689348814741910323:Int))).toNat:Int))) ||| (Tz (UB .u64) (US .u64 ((US .u64 (((Tz (UB .u64) (US .u64 (((Tz (UB .u64) (US .u64 (((Tz (UB .u64) (Xo d (2 ^ (min (1:Int).toNat (UB .u64))))) &&& (Tz (UB .u64) (6148914691236517205:Int))).toNat:Int))) ||| (Tz (UB .u64) (US .u64 ((US .u64 (((Tz (UB .u64) d) &&& (Tz (UB .u64) (6148914691236517205:Int))).toNat:Int)) * 2 ^ (min (1:Int).toNat (UB .u64)))))).toNat:Int))) &&& (Tz (UB .u64) (3689348814741910323:Int))).toNat:Int)) * 2 ^ (min (2:Int).toNat (UB .u64)))))).toNat:Int)) (2 ^ (min (4:Int).toNat (UB .u64))))) &&& (Tz (UB .u64) (1085102592571150095:Int))).toNat:Int))) ||| (Tz (UB .u64) (US .u64 ((US .u64 (((Tz (UB .u64) (US .u64 (((Tz (UB .u64) (US .u64 (((Tz (UB .u64) (Xo (US .u64 (((Tz (UB .u64) (US .u64 (((Tz (UB .u64) (Xo d (2 ^ (min (1:Int).toNat (UB .u64))))) &&& (Tz (UB .u64) (6148914691236517205:Int))).toNat:Int))) ||| (Tz (UB .u64) (US .u64 ((US .u64 (((Tz (UB .u64) d) &&& (Tz (UB .u64) (6148914691236517205:Int))).toNat:Int)) * 2 ^ (min (1:Int).toNat (UB .u64)))))).toNat:Int)) (2 ^ (min (2:Int).toNat (UB .u64))))) &&& (Tz (UB .u64) (3689348814741910323:Int))).toNat:Int))) ||| (Tz (UB .u64) (US .u64 ((US .u64 (((Tz (UB .u64) (US .u64 (((Tz (UB .u64) (US .u64 (((Tz (UB .u64) (Xo d (2 ^ (min (1:Int).toNat (UB .u64))))) &&& (Tz (UB .u64) (6148914691236517205:Int))).toNat:Int))) ||| (Tz (UB .u64) (US .u64 ((US .u64 (((Tz (UB .u64) d) &&& (Tz (UB .u64) (6148914691236517205:Int))).toNat:Int)) * 2 ^ (min (1:Int).toNat (UB .u64)))))).toNat:Int))) &&& (Tz (UB .u64) (3689348814741910323:Int))).toNat:Int)) * 2 ^ (min (2:Int).toNat (UB .u64)))))).toNat:Int))) &&& (Tz (UB .u64) (1085102592571150095:Int))).toNat:Int)) * 2 ^ (min (4:Int).toNat (UB .u64)))))).toNat:Int))).bind λe=>S8 e
instance{d}:o0 (Zqe d) (eS 361 (B6 d) λr=>.one (qT r)):=kS Tryz.func361 (kH (show 0<=(1:Int)from(by decide))<|kH (show 0<=(1:Int)from(by decide))<|kH (show 0<=(2:Int)from(by decide))<|kH (show 0<=(2:Int)from(by decide))<|kH (show 0<=(4:Int)from(by decide))<|kH (show 0<=(4:Int)from(by decide))<|f'<|i_)
def CQ(d:Int):S6 Int:=f_ (0<=(if(64:Int)<(if(0:Int)>d then(0:Int)else d)then(64:Int)else(if(0:Int)>d then(0:Int)else d)))<|(Zqe (US .u64 ((US .u64 ((1:Int) * 2 ^ (min (if(64:Int)<(if(0:Int)>d then(0:Int)else d)then(64:Int)else(if(0:Int)>d then(0:Int)else d)).toNat (UB .u64))))-(1:Int)))).bind λe=>S8 e
instance{d}:o0 (CQ d) (eS 340 [Yj d] λr=>.one (qT r)):=kS Tryz.func340 (kN<|f'<|i_)
def ZqU(e g d:Int):S6 (Int×Int):=(CQ d).bind λh=>(CQ (pR d (64:Int))).bind λj=>S8 ((US .u64 (((Tz (UB .u64) e) &&& (Tz (UB .u64) h)).toNat:Int)),(US .u64 (((Tz (UB .u64) g) &&& (Tz (UB .u64) j)).toNat:Int)))
abbrev FC(a:Int × Int):S5 (Bool × S5 C):=[(Tm,(cI .u64) a.1),(Tm,(cI .u64) a.2)]
instance{d e g}:o0 (ZqU d e g) (eS 341 [.one (qT d),.one (qT e),Yj g] λr=>.qw (FC r)):=kS Tryz.func341 (f'<|f'<|i_)
def JP(d:oV)(e:Int):S6 oV:=(E6 d).bind λj=>bif(!j)then S8 (oV.mk Tm 0 0)else(B1 d).bind λg=>bif(!d.qt)then(CQ (if g<(if(0:Int)>e then(0:Int)else e)then g else(if(0:Int)>e then(0:Int)else e))).bind λo=>S8 (oV.mk d.qt d.rk (US .u64 (((Tz (UB .u64) d.qX) &&& (Tz (UB .u64) (Xo o (2 ^ (min (32:Int).toNat (UB .u64)))))).toNat:Int)))else(ZqU d.rk d.qX (if g<(if(0:Int)>e then(0:Int)else e)then g else(if(0:Int)>e then(0:Int)else e))).bind λh=>S8 (oV.mk d.qt h.1 h.2)
instance{d e}:o0 (JP d e) (eS 309 [.agg (rR d),Yj e] (ov oV.c)):=kS Tryz.func309 (f'<|kB i_ (f'<|kB (f'<|kH (show 0<=(32:Int)from(by decide))<|i_) (f'<|i_)))
def E5(e:oV)(d:Int):S6 (pn×Bool):=(E6 e).bind λg=>bif(!g)then S8 ((pn.mk (oV.mk Tm 0 0) 0),Tm)else bif(decide (d<0))then S8 ((pn.mk (oV.mk Tm 0 0) 0),Tm)else(B1 e).bind λh=>bif(decide (d>h))then S8 ((pn.mk (oV.mk Tm 0 0) 0),Tm)else(JP e d).bind λj=>S8 ((pn.mk j d),Tl)
instance{d e}:o0 (E5 d e) (eS 264 [.agg (rR d),Yj e] λr=>.qw [(Tl,pn.c r.1),(Tm,cB r.2)]):=kS Tryz.func264 (f'<|kB (kK Tl<|kK Tl<|i_) (kB (kK Tl<|i_) (f'<|kB i_ (f'<|i_))))
def JT(d:pn):S6 Bool:=(E5 d.b_ d.oR).bind λe=>bif e.2 then S8 (decide (e.1=d))else S8 Tm
abbrev sj(a:pn):S5 C:=pn.c a
instance{d}:o0 (JT d) (eS 190 [.agg (sj d)] Yk):=kS Tryz.func190 (kC λe=>kB (kQ 2 4 (LN e.1 d (.tmp 15) AI)<|i_) i_)
def Sw(d:Int):S6 (Int×Int):=bif(d==(4:Int))then S8 ((0:Int),(1073741824:Int))else bif(d==(5:Int))then S8 ((1:Int),(5:Int))else bif(d==(6:Int))then S8 ((1:Int),(1099511627776:Int))else S8 ((1:Int),(1048576:Int))
instance{d}:o0 (Sw d) (eS 192 [Yj d] λr=>.qw [(Tm,uf r.1),(Tm,uf r.2)]):=kS Tryz.func192 (kB i_ (kB i_ (kB i_ i_)))
def ZsB(d:pD)(e:Int):S6 Bool:=bif(e==(0:Int))then(O6 d.c_).bind λh=>S8 h else bif(e==(1:Int))then(JT d.g_).bind λj=>S8 j else bif(e==(2:Int))then(E6 d.c_.b_).bind λo=>S8 o else bif(e==(3:Int))then bif(decide (d.pE>=(0:Int)))then S8 (decide (d.pE<=(1099511627776:Int)))else S8 Tm else bif(e==(4:Int))then(Sw d.d_).bind λg=>bif(decide (d.qz>=g.1))then S8 (decide (d.qz<=g.2))else S8 Tm else S8 Tl
instance{d e}:o0 (ZsB d e) (eS 125 [.agg (pD.c d),Yj e] Yk):=kS Tryz.func125 (kB (f'<|i_) (kB (f'<|i_) (kB (f'<|i_) (kB (kB i_ i_) (kB (f'<|kB i_ i_) i_)))))
def L3:Nat->(S5 Int)->Int->Int->pD->S6 Bool|0,_,_,_,_=>S_|fu+1,e,g,d,h=>bif(decide (d<g))then f_ (0<=d/\d<(S7 e:Int))<|(ZsB h (e.getD d.toNat 0)).bind λj=>bif(!j)then S8 Tm else L3 fu e g (n_ d 1) h else S8 Tl
abbrev qJ:S5 Nat:=[1,1,0,1,0]
abbrev zU(a:S5 Int):C:=cL 1 ou (0:Int) a
theorem ZyT:∀{j e g h d},LS z Tryz.f64 qJ (L3 j e g h d) Yk ⟨[y_,(11,.one (zU e)),(12,(Yj g)),(13,(Yj h))],[(1,.box (pD.c d))]⟩:=@qv _ kZ λo=>kB (kN<|f'<|kB i_ (kL 17 o)) i_
def LJ(d:pD):S6 Bool:=(ZuR d.d_).bind λg=>bif(g.toList==(⟨#[]⟩ : ByteArray).toList)then S8 Tm else(Sx d.d_).bind λe=>L3 (((S7 e:Int)-(0:Int)).toNat+2) e (S7 e:Int) (0:Int) d
instance{d}:o0 (LJ d) (eS 64 [.agg (pD.c d)] Yk):=kS Tryz.func64 (f'<|kB i_ (f'<|kL 11 ZyT))
def Pb(e:Int)(g:Bool)(d h:pM):S6 pM:=bif g then S8 (pM.mk d.d_ 0 0)else bif(e==(5:Int))then S8 (pM.mk d.d_ d.uZ 0)else bif(e==(6:Int))then S8 d else S8 (pM.mk 0 0 0)
abbrev tH:Nat × V:=(2,.one (.ptr 2 0))
abbrev AL:pM → V:=ov pM.c
theorem ZnW{g h d e}:LS z Tryz.f431 [1,0,1,0,1] (Pb g h d e) AL ⟨[y_,tH,(4,(Yj g)),(5,(Yk h))],[(1,.box (pM.c d)),(2,.box (pM.c e))]⟩:=kB i_ (kB i_ (kB i_ i_))
def OH(d:pM):S6 pM:=bif(d.d_==(1:Int))then Pb d.d_ (d.d_==(1:Int)) d (pM.mk 0 0 0)else bif(d.d_==(2:Int))then Pb d.d_ (d.d_==(2:Int)) d (pM.mk 0 0 0)else bif(d.d_==(3:Int))then Pb d.d_ (d.d_==(3:Int)) d (pM.mk 0 0 0)else Pb d.d_ (d.d_==(4:Int)) d (pM.mk 0 0 0)
instance{d}:o0 (OH d) (eS 431 [.agg (pM.c d)] AL):=kS Tryz.func431 (kB (kL 11 ZnW) (kB (kL 14 ZnW) (kB (kL 17 ZnW) (kL 17 ZnW))))
def SE(e:Int)(g:Bool)(d h:oM):S6 oM:=bif g then S8 (oM.mk d.fN (a_.mk (l_.mk (oV.mk Tm 0 0) 0) Tm 0 (pW.mk 0 0) 0 0) [] [])else bif(e==(3:Int))then S8 (oM.mk 0 (a_.mk (l_.mk (oV.mk Tm 0 0) 0) Tm 0 (pW.mk 0 0) 0 0) d.po [])else bif(e==(4:Int))then S8 (oM.mk 0 (a_.mk (l_.mk (oV.mk Tm 0 0) 0) Tm 0 (pW.mk 0 0) 0 0) [] d.j_)else bif(e==(6:Int))then S8 (oM.mk 0 d.pN [] [])else S8 (oM.mk 0 (a_.mk (l_.mk (oV.mk Tm 0 0) 0) Tm 0 (pW.mk 0 0) 0 0) [] [])
abbrev Fy:Nat × C:=(11,cL 5 oD.c oD.d [])
abbrev M0:Nat × C:=(12,cL 7 k_.c k_.d [])
abbrev xE:S5 (Nat × C):=[Fy,M0]
abbrev sH:Nat × V:=(3,.one (.ptr 3 0))
abbrev sQ:Nat × V:=(4,.one (.ptr 4 0))
abbrev tt(a:Int):Nat × V:=(5,(Yj a))
abbrev yY:Nat × S5 (Nat × C):=(4,xE)
abbrev B5:oM → V:=ov oM.c
theorem Zqs{h j e g}:LS z Tryz.f432 [1,0,1,0,1] (SE h j e g) B5 ⟨[sH,sQ,(tt h),(6,(Yk j))],[(3,.box (oM.c e)),(4,.box (oM.c g))]⟩:=kB (kR [] [yY] []) (kB (kR [] [(4,[M0])] []) (kB (kR [] [(4,[Fy])] []) (kB (kR [] [yY] []) (kR [] [yY] []))))
def ZwE(d:Int)(e:oM):S6 oM:=bif(d==(1:Int))then SE d (d==(1:Int)) e (oM.mk 0 (a_.mk (l_.mk (oV.mk Tm 0 0) 0) Tm 0 (pW.mk 0 0) 0 0) [] [])else bif(d==(2:Int))then SE d (d==(2:Int)) e (oM.mk 0 (a_.mk (l_.mk (oV.mk Tm 0 0) 0) Tm 0 (pW.mk 0 0) 0 0) [] [])else SE d (d==(5:Int)) e (oM.mk 0 (a_.mk (l_.mk (oV.mk Tm 0 0) 0) Tm 0 (pW.mk 0 0) 0 0) [] [])
instance{e g}:o0 (ZwE e g) (eS 432 [Yj e,.agg (oM.c g)] B5):=kS Tryz.func432 (kB (rj 11 [] [yY] [] [] [] [] Zqs) (kB (rj 14 [] [yY] [] [] [] [] Zqs) (rj 14 [] [yY] [] [] [] [] Zqs)))
def O_(e:Int)(h:Bool)(g y d:pU):S6 pU:=bif h then S8 (pU.mk d.d_ g.tT d.s6 d.wI d.wJ d.qL d.rV)else bif(e==(5:Int))then(OH g.s6).bind λj=>S8 (pU.mk d.d_ d.tT j d.wI d.wJ d.qL d.rV)else bif(e==(6:Int))then(OH g.s6).bind λo=>(ZwE g.s6.d_ g.qL).bind λt=>S8 (pU.mk d.d_ d.tT o d.wI d.wJ t d.rV)else bif(e==(7:Int))then(OH g.s6).bind λu=>S8 (pU.mk d.d_ d.tT u g.wI g.wJ d.qL d.rV)else bif(e==(8:Int))then S8 d else S8 (pU.mk 0 0 (pM.mk 0 0 0) 0 0 (oM.mk 0 (a_.mk (l_.mk (oV.mk Tm 0 0) 0) Tm 0 (pW.mk 0 0) 0 0) [] []) Tm)
abbrev wZ:S5 (Nat × C):=[(18,cL 5 oD.c oD.d []),(19,cL 7 k_.c k_.d [])]
abbrev sN(a:Int):Nat × V:=(10,(Yj a))
theorem ZnX{j o e g h}:LS z Tryz.f430 [1,1,0,1,0,1] (O_ j o e g h) (ov pU.c) ⟨[y_,tH,sH,(sN j),(12,(Yk o))],[(1,.box (pU.c e)),(2,.box (pU.c g)),(3,.box (pU.c h))]⟩:=kB i_ (kB (f'<|i_) (kB (f'<|f'<|i_) (kB (f'<|i_) (kB i_ (kR [] [(2,wZ)] [])))))
def ZwF(d:pU):S6 pU:=bif(d.d_==(1:Int))then O_ d.d_ (d.d_==(1:Int)) d (pU.mk 0 0 (pM.mk 0 0 0) 0 0 (oM.mk 0 (a_.mk (l_.mk (oV.mk Tm 0 0) 0) Tm 0 (pW.mk 0 0) 0 0) [] []) Tm) (pU.mk d.d_ 0 (pM.mk 0 0 0) 0 0 (oM.mk 0 (a_.mk (l_.mk (oV.mk Tm 0 0) 0) Tm 0 (pW.mk 0 0) 0 0) [] []) d.rV)else bif(d.d_==(2:Int))then O_ d.d_ (d.d_==(2:Int)) d (pU.mk 0 0 (pM.mk 0 0 0) 0 0 (oM.mk 0 (a_.mk (l_.mk (oV.mk Tm 0 0) 0) Tm 0 (pW.mk 0 0) 0 0) [] []) Tm) (pU.mk d.d_ 0 (pM.mk 0 0 0) 0 0 (oM.mk 0 (a_.mk (l_.mk (oV.mk Tm 0 0) 0) Tm 0 (pW.mk 0 0) 0 0) [] []) d.rV)else bif(d.d_==(3:Int))then O_ d.d_ (d.d_==(3:Int)) d (pU.mk 0 0 (pM.mk 0 0 0) 0 0 (oM.mk 0 (a_.mk (l_.mk (oV.mk Tm 0 0) 0) Tm 0 (pW.mk 0 0) 0 0) [] []) Tm) (pU.mk d.d_ 0 (pM.mk 0 0 0) 0 0 (oM.mk 0 (a_.mk (l_.mk (oV.mk Tm 0 0) 0) Tm 0 (pW.mk 0 0) 0 0) [] []) d.rV)else O_ d.d_ (d.d_==(4:Int)) d (pU.mk 0 0 (pM.mk 0 0 0) 0 0 (oM.mk 0 (a_.mk (l_.mk (oV.mk Tm 0 0) 0) Tm 0 (pW.mk 0 0) 0 0) [] []) Tm) (pU.mk d.d_ 0 (pM.mk 0 0 0) 0 0 (oM.mk 0 (a_.mk (l_.mk (oV.mk Tm 0 0) 0) Tm 0 (pW.mk 0 0) 0 0) [] []) d.rV)
abbrev DL:S5 (Nat × S5 (Nat × C)):=[(2,wZ),(3,wZ)]
instance{e}:o0 (ZwF e) (eS 430 [.agg (pU.c e)] (ov pU.c)):=kS Tryz.func430 (kB (rj 13 [] DL [] [] [] [] ZnX) (kB (rj 16 [] DL [] [] [] [] ZnX) (kB (rj 19 [] DL [] [] [] [] ZnX) (rj 19 [] DL [] [] [] [] ZnX))))
def AE(e:qA)(g:pU):S6 (o7 oM):=bif((S7 e.tz:Int)==(0:Int))then(ZwF g).bind λh=>S8 (o7.uF h)else f_ (0<=(0:Int)/\(0:Int)<(S7 e.tz:Int))<|f_ (0<=(1:Int)/\(1:Int)<=(S7 e.tz:Int))<|some (o7.ret (e.tz.getD (0:Int).toNat oM.d) (qA.mk (e.tz.drop (1:Int).toNat)))
theorem ZxC(g:qA)(h:pU)(r:(o7 oM))(e:AE g h=S8 r):Fi W8 429 [(100000,.box (qA.c g))] [.one (.ptr 100000 0),.agg (pU.c h)] (oc (λx=>.agg (oM.c x)) r):=by
 refine Fi.of Tryz.func429 rfl rfl rfl rfl λS0 w0=>?_;unfold AE at e;obtain⟨o,e⟩|⟨o,e⟩:=Dk e
 .obtain⟨t,u,e⟩:=vC e;obtain rfl:=oi e;exact Yh 6 [rz,rz] [Tl] (rA [(1,aG (pU.c t))]) 4 ⟨[],.one .oF⟩ (oz o (show Yq 430 [.agg (pU.c h)] (.agg (pU.c t))from(o0.ok u)) (show W8.concrete 83=Tl from(by kernel_rfl)))
 .obtain⟨y,A,e⟩:=Yu e;obtain rfl:=oi e;exact Yd 13 [rz,rz,rz,⟨[],[],[],[],[],[(5,((g.tz.drop (1:Int).toNat).length,pw oM.c oM.d (g.tz.drop (1:Int).toNat)))],[]⟩,rz] [Tm] (oe [4] [4,100000]) (oA o y (show (g.tz.drop (1:Int).toNat).length=S7 g.tz-(1:Int).toNat/\∀i j,i<S7 g.tz-(1:Int).toNat->j<13->pw oM.c oM.d (g.tz.drop (1:Int).toNat) i j=pw oM.c oM.d g.tz ((1:Int).toNat+i) j from(JL _ _)) A)
abbrev AW(a:qA):Nat × B:=(100000,.box (qA.c a))
abbrev qF(a:qA):S5 (Nat × B):=[(AW a)]
abbrev zd:C:=.ptr 100000 0
instance (d:qA) (e:pU):qg (AE d e) 429 (qF d) [.one zd,.agg (pU.c e)] (λx=>.agg (oM.c x)):=⟨λ{r} g=>ZxC d e r g⟩
def L9(e:qA)(g:Bool):S6 (o7 Unit):=tb (AE e (pU.mk 8 0 (pM.mk 0 0 0) 0 0 (oM.mk 0 (a_.mk (l_.mk (oV.mk Tm 0 0) 0) Tm 0 (pW.mk 0 0) 0 0) [] []) g)) λh d=>S8 (o7.ret () d)
abbrev tQ:Unit → V:=λr=>.qw []
abbrev abZ:RA:=⟨[],[],[],[],[(2,wZ)],[],[]⟩
instance{e g}:qg (L9 e g) 425 (qF e) [.one zd,Yk g] tQ:=kO Tryz.func425 (kX 0 abZ<|rI λ_ _=>qy)
def SU(d:Int):S6 oZ:=S8 (oZ.mk d (l_.mk (oV.mk Tm 0 0) 0) 0 0 [])
abbrev uc:S5 (Nat × C):=[(7,cL 10 a_.c a_.d [])]
abbrev tu:oZ → V:=ov oZ.c
instance{e}:o0 (SU e) (eS 119 [Yj e] tu):=kS Tryz.func119 (kR [] [(2,uc)] [])
def Mh(e:qA)(g:Int)(h:Bool):S6 (o7 Unit):=tb (AE e (pU.mk 2 g (pM.mk 0 0 0) 0 0 (oM.mk 0 (a_.mk (l_.mk (oV.mk Tm 0 0) 0) Tm 0 (pW.mk 0 0) 0 0) [] []) h)) λj d=>S8 (o7.ret () d)
abbrev FE:RA:=⟨[],[],[],[],[(3,wZ)],[],[]⟩
instance{e g h}:qg (Mh e g h) 426 (qF e) [.one zd,Yj g,Yk h] tQ:=kO Tryz.func426 (kX 0 FE<|rI λ_ _=>qy)
def zu(g:qA)(h:pM)(j:Bool):S6 (o7 oM):=tb (AE g (pU.mk 5 0 h 0 0 (oM.mk 0 (a_.mk (l_.mk (oV.mk Tm 0 0) 0) Tm 0 (pW.mk 0 0) 0 0) [] []) j)) λd e=>S8 (o7.ret d e)
instance{e g h}:qg (zu e g h) 423 (qF e) [.one zd,.agg (pM.c g),Yk h] B5:=kO Tryz.func423 (kX 1 FE<|rI λ_ _=>qy)
def ZwC:S6 uE:=S8 (uE.mk qY.nil qY.nil 0)
instance:o0 (ZwC) (eS 248 [] λr=>.one (uE.c r)):=kS Tryz.func248 (kX 1 ⟨[],[],[],[],[(0,[(0,qY.c qY.nil),(1,qY.c qY.nil)])],[],[]⟩<|kR [2] [] [])
def LM(d:oV):S6 Int:=bif d.qt then S8 (1:Int)else S8 (0:Int)
instance{d}:o0 (LM d) (eS 252 (yj d) Yj):=kS Tryz.func252 (kB i_ i_)
def Gv(g:oV)(d:Int):S6 Int:=(B1 g).bind λe=>bif(decide (d<0))then S8 (0:Int)else bif(decide (d>=e))then S8 (0:Int)else bif(decide ((pR (pR e (1:Int)) d)>=(64:Int)))then f_ (0<=(pR (pR (pR e (1:Int)) d) (64:Int)))<|some (US .i64 (US .u64 (((Tz (UB .u64) (Xo g.rk (2 ^ (min (pR (pR (pR e (1:Int)) d) (64:Int)).toNat (UB .u64))))) &&& (Tz (UB .u64) (1:Int))).toNat:Int)))else f_ (0<=(pR (pR e (1:Int)) d))<|some (US .i64 (US .u64 (((Tz (UB .u64) (Xo g.qX (2 ^ (min (pR (pR e (1:Int)) d).toNat (UB .u64))))) &&& (Tz (UB .u64) (1:Int))).toNat:Int)))
instance{d e}:o0 (Gv d e) (eS 254 [.agg (rR d),Yj e] Yj):=kS Tryz.func254 (f'<|kB (kK Tl<|i_) (kB i_ (kB (kN<|i_) (kN<|i_))))
def Hi(d:pn)(e:Int):S6 Int:=(Gv d.b_ e).bind λg=>S8 g
instance{d e}:o0 (Hi d e) (eS 307 [.agg (sj d),Yj e] Yj):=kS Tryz.func307 (f'<|i_)
def Hy:Nat->qY->pn->S6 (Int×Bool)|0,_,_=>S_|fu+1,t,e=>(match t with | .nil=>S8 ((0:Int),Tm) | .mk d g h j=>bif(decide (d.g_.oR<e.oR))then(Hi e d.g_.oR).bind λo=>f_ (0<=o/\o<((2:Nat):Int))<|vZ o ( Hy fu h e) ( Hy fu j e)else bif(!g)then S8 ((0:Int),Tm)else bif(!(decide (d.g_=e)))then S8 ((0:Int),Tm)else S8 (d.fV,Tl))
theorem Zqc:∀{h j d},LS z Tryz.f249 [1,1,1,0,0] (Hy h j d) (λr=>.qw [(Tm,ou r.1),(Tm,cB r.2)]) ⟨[(3,.one (.ptr 3 0)),(6,.one (qY.c j))],[(3,.box (pn.c d))]⟩:=by
 intro h;induction h with
 |zero=>intros;unfold Hy;exact kZ
 |succ h o=>intro j d;unfold Hy;exact(by cases j with|nil=>exact kK Tm<|kK Tm<|kK Tl<|kK Tl<|kK Tl<|i_|mk g t u y=>exact kK Tl<|kB (f'<|uU λA=>D8 A (λe=>by subst e;exact uP 0 2<|kL 10 o) λe=>by subst e;exact uP 1 2<|kL 10 o) (kK Tm<|kB (kK Tl<|i_) (kQ 1 16 (Zyx g.g_ d (.tmp 62) (.tmp 63))<|kB i_ i_)))
def Pq(o:uE)(g:pn):S6 (Int×Bool):=(match o with | .nil=>S8 ((0:Int),Tm) | .mk d e j=>(JT g).bind λt=>bif(!t)then S8 ((0:Int),Tm)else(LM g.b_).bind λh=>f_ (0<=h/\h<((2:Nat):Int))<|vZ h ( Hy 1000000 d g) ( Hy 1000000 e g))
instance{d g}:o0 (Pq d g) (eS 249 [.one (uE.c d),.agg (pn.c g)] λr=>.qw [(Tm,(cI .i64) r.1),(Tm,cB r.2)]):=kS Tryz.func249 (by
 unfold Pq
 exact(by cases d with|nil=>exact kK Tl<|kK Tl<|i_|mk h j o=>exact kK Tm<|f'<|kB i_ (f'<|uU λt=>D8 t (λe=>by subst e;exact uP 0 2<|kL 11 Zqc) λe=>by subst e;exact uP 1 2<|kL 11 Zqc)))
def ZuW(d:oD)(e:Int):S6 Bool:=S8 (decide (e<d.pq))
instance{d e}:o0 (ZuW d e) (eS 250 [.agg (oD.c d),Yj e] Yk):=kS Tryz.func250 (i_)
def ZhM(d e:Int):S6 Int:=bif(decide (d>=(256:Int)))then f_ (0<=(US .u8 (Xo d (2 ^ (min (8:Int).toNat (UB .u64)))))/\(US .u8 (Xo d (2 ^ (min (8:Int).toNat (UB .u64)))))<(((Yw : ByteArray).size:Nat):Int))<|some (n_ (n_ e 8) (US .i64 ((Ai (Yw : ByteArray) (US .u8 (Xo d (2 ^ (min (8:Int).toNat (UB .u64))))).toNat:Nat):Int)))else f_ (0<=(US .u8 d)/\(US .u8 d)<(((Yw : ByteArray).size:Nat):Int))<|some (n_ e (US .i64 ((Ai (Yw : ByteArray) (US .u8 d).toNat:Nat):Int)))
abbrev sV(a:Int):Nat × V:=(2,(Yj a))
theorem Zpa{d e}:LS z XE [1,1,1] (ZhM d e) Yj ⟨[(0,.one (qT d)),(sV e)],[]⟩:=kB (kH (oY (8:Int) rfl)<|kN<|i_) (kN<|i_)
def ZhN(d e:Int):S6 Int:=bif(decide (d>=(65536:Int)))then ZhM (Xo d (2 ^ (min (16:Int).toNat (UB .u64)))) (n_ e 16)else ZhM d e
theorem Zpb{d e}:LS z XE [1,1] (ZhN d e) Yj ⟨[(0,.one (qT d)),(sV e)],[]⟩:=kB (kH (oY (16:Int) rfl)<|kL 7 Zpa) (kL 5 Zpa)
def ZmS(d:Int):S6 Int:=bif(decide (d>=(4294967296:Int)))then ZhN (Xo d (2 ^ (min (32:Int).toNat (UB .u64)))) (32:Int)else ZhN d (0:Int)
instance{d}:o0 (ZmS d) (eS 374 (B6 d) Yj):=kS Tryz.func374 (kB (kH (show 0<=(32:Int)from(by decide))<|kL 9 Zpb) (kL 7 Zpb))
def Zfg(d:Int):S6 Int:=(ZmS d).bind λe=>S8 (pR (64:Int) e)
instance{d}:o0 (Zfg d) (eS 360 (B6 d) Yj):=kS Tryz.func360 (f'<|i_)
def PB(d e:Int)(g:pn):S6 Int:=bif(!g.b_.qt)then(B1 g.b_).bind λh=>S8 (if d<(pR e (pR (128:Int) h))then d else(pR e (pR (128:Int) h)))else S8 (if d<e then d else e)
abbrev sG(a:Int):Nat × V:=(8,(Yj a))
theorem Zru{e g d}:LS z Tryz.f338 [1,1,1,1,1] (PB e g d) Yj ⟨[tH,(tt e),(sG g)],[(2,.box (sj d))]⟩:=kB (f'<|i_) i_
def ZqI(d e:pn):S6 Int:=(Zfg (US .u64 (((Tz (UB .u64) d.b_.rk) ^^^ (Tz (UB .u64) e.b_.rk)).toNat:Int))).bind λg=>bif((US .u64 (((Tz (UB .u64) d.b_.rk) ^^^ (Tz (UB .u64) e.b_.rk)).toNat:Int))==(0:Int))then(Zfg (US .u64 (((Tz (UB .u64) d.b_.qX) ^^^ (Tz (UB .u64) e.b_.qX)).toNat:Int))).bind λh=>PB (if e.oR<d.oR then e.oR else d.oR) (n_ (64:Int) h) d else PB (if e.oR<d.oR then e.oR else d.oR) g d
instance{d e}:o0 (ZqI d e) (eS 338 [.agg (sj d),.agg (sj e)] Yj):=kS Tryz.func338 (f'<|kB (f'<|kL 13 Zru) (kL 13 Zru))
def SG(I:qY)(d:E4)(A:Int):S6 qY:=bif(A==d.wu.g_.oR)then(match I with | .nil=>S_ | .mk e h j o=>(Hi e.g_ A).bind λD=>f_ (0<=D/\D<((2:Nat):Int))<|vZ D ( S8 (qY.mk d.wu d.Ct (qY.mk e h j o) d.u_.2)) ( S8 (qY.mk d.wu d.Ct d.u_.1 (qY.mk e h j o))))else(E5 d.wu.g_.b_ A).bind λB=>(match I with | .nil=>S_ | .mk g t u y=>(Hi g.g_ A).bind λF=>f_ (0<=F/\F<((2:Nat):Int))<|vZ F ( (Hi d.wu.g_ A).bind λG=>f_ (0<=G/\G<((2:Nat):Int))<|vZ G ( S8 (qY.mk (rq.mk B.1 0) Tm (qY.mk d.wu d.Ct d.u_.1 d.u_.2) qY.nil)) ( S8 (qY.mk (rq.mk B.1 0) Tm (qY.mk g t u y) (qY.mk d.wu d.Ct d.u_.1 d.u_.2)))) ( (Hi d.wu.g_ A).bind λH=>f_ (0<=H/\H<((2:Nat):Int))<|vZ H ( S8 (qY.mk (rq.mk B.1 0) Tm (qY.mk d.wu d.Ct d.u_.1 d.u_.2) (qY.mk g t u y))) ( S8 (qY.mk (rq.mk B.1 0) Tm qY.nil (qY.mk d.wu d.Ct d.u_.1 d.u_.2)))))
instance{d h j}:pC (SG d h j) (eH 339 [(100000,.box (E4.c h))] [.one (qY.c d),.one (.ptr 100000 0),Yj j] (λr=>[]) λr=>.one (qY.c r)):=sE Tryz.func339 (by
 unfold SG
 exact kB ((by cases d with|nil=>exact kZ|mk o t u y=>exact f'<|uU λG=>D8 G (λe=>by subst e;exact uP 0 2<|r7 ⟨[100000],[],[],[],[],[6],[],[]⟩ S_) λe=>by subst e;exact uP 1 2<|r7 ⟨[100000],[],[],[],[],[6],[],[]⟩ S_)) (f'<|(by cases d with|nil=>exact kZ|mk A B D F=>exact f'<|uU λH=>D8 H (λe=>by subst e;exact uP 0 2<|f'<|uU λI=>D8 I (λe=>by subst e;exact uP 0 2<|kX 3 ⟨[],[],[],[],[(2,[(6,qY.c qY.nil),(7,qY.c qY.nil)])],[],[]⟩<|r7 ⟨[100000,45],[],[],[],[],[6],[],[]⟩ S_) λe=>by subst e;exact uP 1 2<|kX 3 ⟨[],[],[],[],[(2,[(6,qY.c qY.nil),(7,qY.c qY.nil)])],[],[]⟩<|r7 ⟨[100000,45],[],[],[],[],[6],[],[]⟩ S_) λe=>by subst e;exact uP 1 2<|f'<|uU λg=>D8 g (λe=>by subst e;exact uP 0 2<|kX 3 ⟨[],[],[],[],[(2,[(6,qY.c qY.nil),(7,qY.c qY.nil)])],[],[]⟩<|r7 ⟨[100000,45],[],[],[],[],[6],[],[]⟩ S_) λe=>by subst e;exact uP 1 2<|kX 3 ⟨[],[],[],[],[(2,[(6,qY.c qY.nil),(7,qY.c qY.nil)])],[],[]⟩<|r7 ⟨[100000,45],[],[],[],[],[6],[],[]⟩ S_)))
def E3:Nat->qY->rq->S6 qY|0,_,_=>S_|fu+1,u,j=>(match u with | .nil=>S8 (qY.mk j Tl qY.nil qY.nil) | .mk d h e g=>(ZqI d.g_ j.g_).bind λo=>bif(decide (o<d.g_.oR))then(SG (qY.mk d h e g) (E4.mk j Tl (qY.nil,qY.nil)) o).bind λy=>S8 y else bif(o==j.g_.oR)then S8 (qY.mk j Tl e g)else(Hi j.g_ o).bind λt=>f_ (0<=t/\t<((2:Nat):Int))<|vZ t ( (E3 fu e j).bind λA=>S8 (qY.mk d h A g)) ( (E3 fu g j).bind λB=>S8 (qY.mk d h e B)))
instance:∀{d},∀{g j},o0 (E3 d g j) (eS 308 [.one (qY.c g),.agg (rq.c j)] λr=>.one (qY.c r)):=by
 intro d;induction d with
 |zero=>exact⟨λh=>by cases h⟩
 |succ d B=>intro g j;exact kS Tryz.func308 ((by cases g with|nil=>exact kK Tl<|kX 2 ⟨[],[],[],[],[(1,[(6,qY.c qY.nil),(7,qY.c qY.nil)])],[],[]⟩<|kR [12] [] []|mk o t u y=>exact kK Tm<|f'<|kB (kD 4 5 [(100000,32)] [] λ_=>kX 4 ⟨[],[],[],[],[(2,[(6,qY.c qY.nil),(7,qY.c qY.nil)])],[],[]⟩<|i_) (kB (kR [6] [] []) (f'<|uU λA=>D8 A (λe=>by subst e;exact uP 0 2<|f'<|uP 0 2<|kR [6] [] []) λe=>by subst e;exact uP 1 2<|f'<|uP 1 2<|kR [6] [] []))))
def PW(j:Int)(A:uE)(h:pn):S6 uE:=(match A with | .nil=>S_ | .mk d e g=>(JT h).bind λB=>bif(!B)then S8 (uE.mk d e g)else(Pq (uE.mk d e g) h).bind λD=>bif(!D.2)then(LM h.b_).bind λo=>f_ (0<=o/\o<((2:Nat):Int))<|vZ o ( (E3 1000 d (rq.mk h j)).bind λF=>S8 (uE.mk F e (n_ g 1))) ( (E3 1000 e (rq.mk h j)).bind λG=>S8 (uE.mk d G (n_ g 1)))else(LM h.b_).bind λt=>f_ (0<=t/\t<((2:Nat):Int))<|vZ t ( (E3 1000 d (rq.mk h j)).bind λu=>S8 (uE.mk u e g)) ( (E3 1000 e (rq.mk h j)).bind λy=>S8 (uE.mk d y g)))
theorem Zpo{j}{g d}:LS z Tryz.f251 [1,1] (PW j g d) (λr=>.one (uE.c r)) ⟨[(0,.one (uE.c g)),(2,(Yj j)),(4,.one (.ptr 4 0))],[(4,.box (pn.c d))]⟩:=by
 unfold PW;exact(by cases g with|nil=>exact kZ|mk o t u=>exact f'<|kB (kR [7] [] []) (f'<|kB (f'<|uU λy=>D8 y (λe=>by subst e;exact uP 0 2<|f'<|uP 0 2<|kR [7] [] []) λe=>by subst e;exact uP 1 2<|f'<|uP 1 2<|kR [7] [] []) (f'<|uU λh=>D8 h (λe=>by subst e;exact uP 0 2<|f'<|uP 0 2<|kR [7] [] []) λe=>by subst e;exact uP 1 2<|f'<|uP 1 2<|kR [7] [] [])))
def J2(o:uE)(h:pn)(j:Int):S6 uE:=(match o with | .nil=>(ZwC).bind λt=>PW j t h | .mk d e g=>PW j (uE.mk d e g) h)
instance{d e g}:o0 (J2 d e g) (eS 251 [.one (uE.c d),.agg (pn.c e),Yj g] λr=>.one (uE.c r)):=kS Tryz.func251 (by
 unfold J2
 exact(by cases d with|nil=>exact kK Tl<|f'<|kL 7 Zpo|mk h j o=>exact kK Tm<|kL 7 Zpo))
def Hr(o:Int):Nat->uE->(S5 oD)->Int->Int->S6 uE|0,_,_,_,_=>S_|fu+1,j,g,h,e=>bif(decide (e<h))then f_ (0<=e/\e<(S7 g:Int))<|(Pq j ((g.getD e.toNat oD.d).g_)).bind λt=>(ZuW (g.getD e.toNat oD.d) o).bind λu=>bif u then bif(!t.2)then(J2 j ((g.getD e.toNat oD.d).g_) ((g.getD e.toNat oD.d).pq)).bind λy=>Hr o fu y g h (n_ e 1)else bif(decide (t.1<(g.getD e.toNat oD.d).pq))then(J2 j ((g.getD e.toNat oD.d).g_) ((g.getD e.toNat oD.d).pq)).bind λA=>Hr o fu A g h (n_ e 1)else Hr o fu j g h (n_ e 1)else Hr o fu j g h (n_ e 1)else S8 j
abbrev q7(a:Int):Nat × V:=(1,(Yj a))
theorem ZyU{o}:∀{h t d e g},LS z Tryz.f178 qJ (Hr o h t d e g) (λr=>.one (uE.c r)) ⟨[(q7 o),(5,.one (uE.c t)),(11,(Ym d)),(12,(Yj e)),(13,(Yj g))],[]⟩:=@qv _ kZ λj=>kB (kN<|f'<|f'<|kB (kB (kK Tl<|f'<|kL 19 j) (kB (f'<|kL 19 j) (kL 19 j))) (kK Tm<|kL 19 j)) i_
def ZsD(d:S5 oD)(e:Int):S6 uE:=(ZwC).bind λg=>Hr e (((S7 d:Int)-(0:Int)).toNat+2) g d (S7 d:Int) (0:Int)
instance{d e}:o0 (ZsD d e) (eS 178 [Ym d,Yj e] λr=>.one (uE.c r)):=kS Tryz.func178 (f'<|kL 8 ZyU)
def Lx(d:pn)(e:oV):S6 Bool:=(JT d).bind λg=>bif g then(E6 e).bind λh=>bif h then bif(d.b_.qt==e.qt)then(JP e d.oR).bind λj=>S8 (decide (j=d.b_))else S8 Tm else S8 Tm else S8 Tm
instance{d e}:o0 (Lx d e) (eS 253 [.agg (sj d),.agg (rR e)] Yk):=kS Tryz.func253 (f'<|kB (f'<|kB (kB (kC λg=>kQ 1 21 (ZpT g d.b_ (.tmp 23) (.tmp 25))<|i_) i_) (kK Tm<|i_)) (kK Tm<|kK Tm<|i_))
def CX:Nat->qY->(S5 rq)->oV->S6 (S5 rq)|0,_,_,_=>S_|fu+1,y,e,j=>(match y with | .nil=>S8 e | .mk d o g h=>(Lx d.g_ j).bind λA=>bif A then bif o then f_ ((e++([d]:S5 rq)).length * 40<=140737488355328/\(e++([d]:S5 rq)).length<=maxLen)<|(Gv j d.g_.oR).bind λt=>f_ (0<=t/\t<((2:Nat):Int))<|vZ t ( CX fu g (e++([d]:S5 rq)) j) ( CX fu h (e++([d]:S5 rq)) j)else(Gv j d.g_.oR).bind λu=>f_ (0<=u/\u<((2:Nat):Int))<|vZ u ( CX fu g e j) ( CX fu h e j)else S8 e)
theorem ZoT:∀{o t h j},LH z Tryz.f179 [1,1,1,1,0,0] (CX o t h j) (ol 99999 238 5 rq.c rq.d) oH ⟨[(3,.one (.ptr 3 0)),(5,.one (.p8 5 h.length)),(6,.one (qY.c t))],[(oj 5 238 5 rq.c rq.d h),(3,.box (oV.c j))]⟩:=by
 intro o;induction o with
 |zero=>intros;unfold CX;exact kZ
 |succ o u=>intro t h j;unfold CX;exact(by cases t with|nil=>exact kK Tm<|kK Tm<|r7 (oh [4] [5] [(5,99999)]) S_|mk g D F G=>exact kK Tl<|f'<|kB (kB (uU λy=>kE λ_ H=>uU λA=>D8 A (λe=>by subst e;exact kM 2 5 rq.E ([g]:S5 rq)<|kH (ZCJ (sz:=5) (e:=rq.c) (d:=rq.d) h ([g]:S5 rq))<|kH y.1<|kH y.2<|kJ H<|uP 0 2<|kX 2 (rA [(6,.c ((h++([g]:S5 rq)).length) (pw rq.c rq.d (h++([g]:S5 rq))))])<|tA 15 [(42,5)] u) λe=>by subst e;exact kM 2 5 rq.E ([g]:S5 rq)<|kH (ZCJ (sz:=5) (e:=rq.c) (d:=rq.d) h ([g]:S5 rq))<|kH y.1<|kH y.2<|kJ H<|uP 1 2<|kX 2 (rA [(6,.c ((h++([g]:S5 rq)).length) (pw rq.c rq.d (h++([g]:S5 rq))))])<|tA 15 [(42,5)] u) (f'<|uU λB=>D8 B (λe=>by subst e;exact uP 0 2<|kL 15 u) λe=>by subst e;exact uP 1 2<|kL 15 u)) (r7 (oh [4] [5] [(5,99999)]) S_))
def Pu(o:uE)(g:oV):S6 (S5 rq):=(match o with | .nil=>S8 [] | .mk d e j=>(E6 g).bind λt=>bif(!t)then S8 ([]:S5 rq)else(LM g).bind λh=>f_ (0<=h/\h<((2:Nat):Int))<|vZ h ( CX 1000000 d ([]) g) ( CX 1000000 e ([]) g))
instance{g h}:pC (Pu g h) (eH 179 [] [.one (uE.c g),.agg (oV.c h)] (λr=>[(99999,.rows 238 5 r.length (pw rq.c rq.d r))]) oH):=sE Tryz.func179 (by
 unfold Pu
 exact(by cases g with|nil=>exact kK Tl<|kK Tl<|r7 ⟨[],[],[],[],[(4,99999,238,5,pw rq.c rq.d [])],[4],[99999],[]⟩ S_|mk j o t=>exact kK Tm<|f'<|kB (r7 ⟨[],[],[],[],[(4,99999,238,5,pw rq.c rq.d [])],[4],[99999],[]⟩ S_) (f'<|uU λu=>D8 u (λe=>by subst e;exact uP 0 2<|rj 13 [] [] [] [] [(5,5,238,5,pw rq.c rq.d [])] [] ZoT) λe=>by subst e;exact uP 1 2<|rj 13 [] [] [] [] [(5,5,238,5,pw rq.c rq.d [])] [] ZoT)))
instance{e g}:o0 (Pu e g) (eS 179 [.one (uE.c e),.agg (rR g)] λr=>.one (cL 5 rq.c rq.d r)):=o0.of λr h=>(show rX _ _ _ _ _ _ from pC.ok h).pure
def SV:Nat->Int->(S5 rq)->Int->Int->S6 Int|0,_,_,_,_=>S_|fu+1,j,g,h,e=>bif(decide (e<h))then f_ (0<=e/\e<(S7 g:Int))<|SV fu (if(g.getD e.toNat rq.d).fV>j then(g.getD e.toNat rq.d).fV else j) g h (n_ e 1)else S8 j
abbrev DD:S5 Nat:=[1,1,1,1,0,1,0]
theorem ZyV:∀{j o e g h},LS z Tryz.f120 DD (SV j o e g h) Yj ⟨[(sG o),(23,.one (cL 5 rq.c rq.d e)),(24,(Yj g)),(25,(Yj h))],[]⟩:=@qv _ kZ λt=>kB (kN<|kL 14 t) i_
def Hn(g:S5 oD)(h:oV)(j:Int):S6 Int:=(ZsD g j).bind λo=>(Pu o h).bind λe=>bif((S7 e:Int)==(0:Int))then S8 (0:Int)else f_ (0<=(0:Int)/\(0:Int)<(S7 e:Int))<|SV (((S7 e:Int)-(0:Int)).toNat+2) ((e.getD (0:Int).toNat rq.d).fV) e (S7 e:Int) (0:Int)
instance{d e g}:o0 (Hn d e g) (eS 120 [Ym d,.agg (rR e),Yj g] Yj):=kS Tryz.func120 (f'<|f'<|kB i_ (kN<|kL 15 ZyV))
def Hu(e:qA)(g:Int)(h:Bool):S6 (o7 Unit):=tb (AE e (pU.mk 4 g (pM.mk 0 0 0) 0 0 (oM.mk 0 (a_.mk (l_.mk (oV.mk Tm 0 0) 0) Tm 0 (pW.mk 0 0) 0 0) [] []) h)) λj d=>S8 (o7.ret () d)
instance{e g h}:qg (Hu e g h) 421 (qF e) [.one zd,Yj g,Yk h] tQ:=kO Tryz.func421 (kX 0 FE<|rI λ_ _=>qy)
def OT(d:oV):S6 pn:=(B1 d).bind λe=>(E5 d e).bind λg=>S8 g.1
instance{d}:o0 (OT d) (eS 202 (yj d) (ov pn.c)):=kS Tryz.func202 (f'<|f'<|i_)
def OD(d:Int):S6 Int:=S8 (US .u64 (((Tz (UB .u64) (US .u64 ((US .u64 (((Tz (UB .u64) (US .u64 ((US .u64 (((Tz (UB .u64) d) ^^^ (Tz (UB .u64) (Xo d (2 ^ (min (30:Int).toNat (UB .u64)))))).toNat:Int))*(13787848793156543929:Int)))) ^^^ (Tz (UB .u64) (Xo (US .u64 ((US .u64 (((Tz (UB .u64) d) ^^^ (Tz (UB .u64) (Xo d (2 ^ (min (30:Int).toNat (UB .u64)))))).toNat:Int))*(13787848793156543929:Int))) (2 ^ (min (27:Int).toNat (UB .u64)))))).toNat:Int))*(10723151780598845931:Int)))) ^^^ (Tz (UB .u64) (Xo (US .u64 ((US .u64 (((Tz (UB .u64) (US .u64 ((US .u64 (((Tz (UB .u64) d) ^^^ (Tz (UB .u64) (Xo d (2 ^ (min (30:Int).toNat (UB .u64)))))).toNat:Int))*(13787848793156543929:Int)))) ^^^ (Tz (UB .u64) (Xo (US .u64 ((US .u64 (((Tz (UB .u64) d) ^^^ (Tz (UB .u64) (Xo d (2 ^ (min (30:Int).toNat (UB .u64)))))).toNat:Int))*(13787848793156543929:Int))) (2 ^ (min (27:Int).toNat (UB .u64)))))).toNat:Int))*(10723151780598845931:Int))) (2 ^ (min (31:Int).toNat (UB .u64)))))).toNat:Int))
instance{d}:o0 (OD d) (eS 318 (B6 d) λr=>.one (qT r)):=kS Tryz.func318 (kH (show 0<=(30:Int)from(by decide))<|kH (show 0<=(27:Int)from(by decide))<|kH (show 0<=(31:Int)from(by decide))<|i_)
def Zhx(e d:Int):S6 Int:=f_ (0<=(US .u64 (((Tz (UB .u64) (US .u64 d)) &&& (Tz (UB .u64) (63:Int))).toNat:Int)))<|f_ (0<=(US .u64 ((64:Int)-(US .u64 (((Tz (UB .u64) (US .u64 d)) &&& (Tz (UB .u64) (63:Int))).toNat:Int)))))<|some (US .u64 (((Tz (UB .u64) (US .u64 (e * 2 ^ (min (US .u64 (((Tz (UB .u64) (US .u64 d)) &&& (Tz (UB .u64) (63:Int))).toNat:Int)).toNat (UB .u64))))) ||| (Tz (UB .u64) (Xo e (2 ^ (min (US .u64 ((64:Int)-(US .u64 (((Tz (UB .u64) (US .u64 d)) &&& (Tz (UB .u64) (63:Int))).toNat:Int)))).toNat (UB .u64)))))).toNat:Int))
instance{d e}:o0 (Zhx d e) (eS 319 [.one (qT d),Yj e] λr=>.one (qT r)):=kS Tryz.func319 (kN<|kN<|i_)
def Sl:Nat->Int->(S5 Int)->Int->Int->S6 Int|0,_,_,_,_=>S_|fu+1,h,e,g,d=>bif(decide (d<g))then f_ (0<=d/\d<(S7 e:Int))<|(Zhx h (7:Int)).bind λj=>(OD (US .u64 ((e.getD d.toNat 0)+(11400714819323198485:Int)))).bind λo=>(OD (US .u64 (((Tz (UB .u64) j) ^^^ (Tz (UB .u64) o)).toNat:Int))).bind λt=>Sl fu t e g (n_ d 1)else S8 h
abbrev Io(a:S5 Int):C:=cL 1 (cI .u64) (0:Int) a
theorem ZDH:∀{h j d e g},LS z Tryz.f275 qJ (Sl h j d e g) (λr=>.one (qT r)) ⟨[(5,.one (qT j)),(11,.one (Io d)),(12,(Yj e)),(13,(Yj g))],[]⟩:=@qv _ kZ λo=>kB (kN<|f'<|f'<|f'<|kL 14 o) i_
def RH(e:Int)(d:S5 Int):S6 Int:=(OD (US .u64 (e+(11400714819323198485:Int)))).bind λg=>Sl (((S7 d:Int)-(0:Int)).toNat+2) g d (S7 d:Int) (0:Int)
instance{d e}:o0 (RH d e) (eS 275 [.one (qT d),.one (Io e)] λr=>.one (qT r)):=kS Tryz.func275 (f'<|kL 8 ZDH)
def OC(e:Int)(d:pn):S6 Int:=bif d.b_.qt then(RH e ([(6:Int),d.b_.rk,d.b_.qX,(US .u64 d.oR)]:S5 Int)).bind λg=>S8 g else(RH e ([(4:Int),d.b_.rk,d.b_.qX,(US .u64 d.oR)]:S5 Int)).bind λh=>S8 h
abbrev ab'(a:pn):S5 Int:=([(6:Int),a.b_.rk,a.b_.qX,(US .u64 a.oR)]:S5 Int)
abbrev ab9(a:pn):S5 Int:=([(4:Int),a.b_.rk,a.b_.qX,(US .u64 a.oR)]:S5 Int)
instance{e d}:o0 (OC e d) (eS 201 [.one (qT e),.agg (sj d)] λr=>.one (qT r)):=kS Tryz.func201 (kB (kM 4 11 (eI .u64) (ab' d)<|f'<|i_) (kM 3 11 (eI .u64) (ab9 d)<|f'<|i_))
def ZqL(d:Int):S6 Int:=S8 (if(8:Int)<(if(1:Int)>d then(1:Int)else d)then(8:Int)else(if(1:Int)>d then(1:Int)else d))
instance{d}:o0 (ZqL d) (eS 203 [Yj d] Yj):=kS Tryz.func203 (i_)
def ZuL(e d:Int):S6 Int:=bif(decide (d<1))then S8 (0:Int)else bif(decide (d>2147483648))then S8 (0:Int)else S8 (US .i64 (Xo (US .u64 ((Xo e (2 ^ (min (32:Int).toNat (UB .u64))))*(US .u64 d))) (2 ^ (min (32:Int).toNat (UB .u64)))))
instance{d e}:o0 (ZuL d e) (eS 200 [.one (qT d),Yj e] Yj):=kS Tryz.func200 (kB (kK Tl<|i_) (kB i_ (kH (show 0<=(32:Int)from(by decide))<|kH (show 0<=(32:Int)from(by decide))<|i_)))
def Hh(d:oV)(e g:Int):S6 Int:=(OT d).bind λh=>(OC e h).bind λj=>(ZqL g).bind λo=>(ZuL j o).bind λt=>S8 t
instance{d e g}:o0 (Hh d e g) (eS 130 [.agg (rR d),.one (qT e),Yj g] Yj):=kS Tryz.func130 (f'<|f'<|f'<|f'<|i_)
def S3(d:uS):S6 Int:=(Hh d.fx.c_.b_ d.fc.pX d.fc.e_).bind λe=>S8 e
instance{d}:o0 (S3 d) (eS 180 [.agg (uS.c d)] Yj):=kS Tryz.func180 (f'<|i_)
def zN(e:qA)(g:Int)(h:Bool):S6 (o7 Unit):=tb (AE e (pU.mk 1 g (pM.mk 0 0 0) 0 0 (oM.mk 0 (a_.mk (l_.mk (oV.mk Tm 0 0) 0) Tm 0 (pW.mk 0 0) 0 0) [] []) h)) λj d=>S8 (o7.ret () d)
instance{e g h}:qg (zN e g h) 424 (qF e) [.one zd,Yj g,Yk h] tQ:=kO Tryz.func424 (kX 0 FE<|rI λ_ _=>qy)
def LB(d:Int):S6 pM:=S8 (pM.mk 5 d 0)
instance{d}:o0 (LB d) (eS 255 [Yj d] AL):=kS Tryz.func255 (i_)
def LC(d e:Int):S6 pM:=S8 (pM.mk 6 d e)
instance{d e}:o0 (LC d e) (eS 256 [Yj d,Yj e] AL):=kS Tryz.func256 (i_)
def JY(t:Int):Nat->Int->Int->(S5 a_)->qA->S6 (o7 (S5 a_))|0,_,_,_,_=>S_|fu+1,h,e,j,d=>bif(decide (e<h))then(LC t e).bind λu=>tb (zu d u Tm) λg o=>f_ ((j++([g.pN]:S5 a_)).length * 80<=140737488355328/\(j++([g.pN]:S5 a_)).length<=maxLen)<|JY t fu h (n_ e 1) (j++([g.pN]:S5 a_)) o else S8 (o7.ret j d)
abbrev tc:C:=.th 84 zd
abbrev Cc:Nat × V:=(0,.one tc)
abbrev Ig(a:S5 a_):Nat × V:=(5,.one (.p8 5 a.length))
abbrev Ie(a:S5 a_):Nat × B:=oj 5 41 10 a_.c a_.d a
theorem ZzO{u}:∀{j g h o e},LO z Tryz.f181 qJ (JY u j g h o e) Yn ⟨[Cc,(q7 u),(Ig o),(15,(Yj g)),(16,(Yj h))],[(Ie o),(AW e)]⟩:=@qv _ kZ λy=>kB (f'<|kH Ls<|ri λt _=>kM 2 10 a_.E ([t.pN]:S5 a_)<|kA 2 11 a_.E<|tA 14 [(30,5)] y) (ya [5] [] [])
def El(h:qA)(g:Int):S6 (o7 (S5 a_)):=(LB g).bind λj=>tb (zu h j Tm) λd e=>JY g (((if(0:Int)>d.fN then(0:Int)else d.fN)-(0:Int)).toNat+2) (if(0:Int)>d.fN then(0:Int)else d.fN) (0:Int) ([]) e
instance{e g}:qg (El e g) 181 (qF e) [.one tc,Yj g] Yn:=kO Tryz.func181 (f'<|kH Ls<|ri λ_ _=>rj 8 [] [] [] [] [(5,5,41,10,pw a_.c a_.d [])] [] ZzO)
def ZsM(d:a_)(c0:l_):S6 Bool:=S8 (decide (d.c_=c0))
abbrev Cj(a:l_):Nat → C:=λj=>(l_.c a:S5 C).getD (0+j) .oF
abbrev si(a:a_):S5 C:=a_.c a
instance{d c0}:o0 (ZsM d c0) (eS 258 [.agg (si d),.one (.rp Tm 4 (Cj c0))] Yk):=kS Tryz.func258 (kQ 1 3 (Ho d.c_ c0 (.tmp 5) (.tmp 6))<|i_)
def QH(h:S5 a_)(e:l_):Nat->Int->Int->S6 Int|0,_,_=>S_|fu+1,j,g=>bif(decide (g<j))then f_ (0<=g/\g<(S7 h:Int))<|(ZsM (h.getD g.toNat a_.d) e).bind λo=>bif o then S8 g else QH h e fu j (n_ g 1)else S8 (-1:Int)
abbrev sX(a:S5 a_):Nat × V:=(0,(Yn a))
abbrev tG(a:Int):Nat × V:=(7,(Yj a))
theorem ZjO{g d}:∀{e h o},LS z Tryz.f257 uv (QH g d e h o) Yj ⟨[(sX g),(1,.one (oq 258 0 1 [] [.rp Tm 4 (Cj d)])),(tG h),(sG o)],[]⟩:=@qv _ kZ λt=>kB (kN<|f'<|kB i_ (kL 17 t)) i_
def ZeE(e:S5 a_)(d:l_):S6 Int:=QH e d (((S7 e:Int)-(0:Int)).toNat+2) (S7 e:Int) (0:Int)
abbrev ub:Nat → C:=λi=>([]:S5 C).getD i .oF
abbrev Ng(a:l_):Nat → C:=λi=>([.rp Tm 4 (Cj a)]:S5 C).getD i .oF
instance{e d}:o0 (ZeE e d) (eS 257 [Yn e,.one (.qs (.func 258) 0 1 ub (Ng d))] Yj):=kS Tryz.func257 (kL 6 ZjO)
def Hp(d:S5 a_)(e:l_):S6 Int:=(ZeE d e).bind λg=>S8 g
abbrev FD:RA:=⟨[],[],[(1,[3])],[],[],[],[]⟩
instance{d e}:o0 (Hp d e) (eS 182 [Yn d,.agg (l_.c e)] Yj):=kS Tryz.func182 (f'<|kX 1 FD<|i_)
def uT(e:qA)(g:Int)(h:Bool):S6 (o7 Unit):=tb (AE e (pU.mk 3 g (pM.mk 0 0 0) 0 0 (oM.mk 0 (a_.mk (l_.mk (oV.mk Tm 0 0) 0) Tm 0 (pW.mk 0 0) 0 0) [] []) h)) λj d=>S8 (o7.ret () d)
instance{e g h}:qg (uT e g h) 422 (qF e) [.one zd,Yj g,Yk h] tQ:=kO Tryz.func422 (kX 0 FE<|rI λ_ _=>qy)
def Pz(g:qA)(h:pM)(j o:Int)(t:Bool):S6 (o7 Bool):=tb (AE g (pU.mk 7 0 h j o (oM.mk 0 (a_.mk (l_.mk (oV.mk Tm 0 0) 0) Tm 0 (pW.mk 0 0) 0 0) [] []) t)) λd e=>S8 (o7.ret (d.fN==(1:Int)) e)
instance{e g h j o}:qg (Pz e g h j o) 428 (qF e) [.one zd,.agg (pM.c g),Yj h,Yj j,Yk o] Yk:=kO Tryz.func428 (kX 1 ⟨[],[],[],[],[(5,wZ)],[],[]⟩<|rI λ_ _=>qy)
def Mf(t:Int)(u:Bool):Nat->qA->pM->S6 (o7 Bool)|0,_,_=>S_|fu+1,d,j=>tb (zu d j Tm) λe g=>bif(decide (e.fN>=t))then S8 (o7.ret Tm g)else tb (Pz g j e.fN (n_ e.fN (1:Int)) u) λo h=>bif o then S8 (o7.ret Tl h)else Mf t u fu h j
abbrev Cb:Nat × V:=(7,.one (.ptr 7 0))
theorem ZwW{j o}:∀{g e h},LO z Tryz.f183 [1,1,0] (Mf j o g e h) Yk ⟨[Cc,(q7 j),(2,(Yk o)),Cb],[(AW e),(7,.box (pM.c h))]⟩:=@qv _ kZ λt=>ri λ_ _=>kB qy (ri λ_ _=>kB qy (kL 15 t))
def LU(d:qA)(e:Int)(g:Bool):S6 (o7 Bool):=Mf e g 1000000 d (pM.mk 1 0 0)
instance{d e g}:qg (LU d e g) 183 (qF d) [.one tc,Yj e,Yk g] Yk:=kO Tryz.func183 (kL 5 ZwW)
def Zdn(d:S5 a_):S6 (S5 a_):=f_ (0<S7 d)<|f_ ((([]:S5 a_)++d).length * 80<=140737488355328/\(([]:S5 a_)++d).length<=maxLen)<|some (([]:S5 a_)++d)
abbrev vp:S5 a_ → S5 (Nat × B):=λr=>[(99999,.rows 41 10 r.length (pw a_.c a_.d r))]
abbrev vN:S5 a_:=([]:S5 a_)
abbrev acg:S5 (Nat × sF):=[(0,.c (vN).length (pw a_.c a_.d []))]
abbrev zT:S5 C:=(vN).flatMap a_.c
abbrev y9:RA:=rA acg
instance{g}:pC (Zdn g) (eH 208 [] [Yn g] vp oH):=sE XC (kN<|kK Tm<|kH (show (vN).length=0 from rfl)<|kH (show ∀i j,i<0->j<10->pw a_.c a_.d [] i j=(zT).getD (i * 10+j) .oF from(λi j hi hj=>vJ (sz:=10) (e:=a_.c) (d:=a_.d) (λ_=>rfl) [] i j hi hj))<|kA 2 2 a_.E<|kX 2 y9<|r7 Ci S_)
def Du(d:S5 a_):S6 (S5 a_):=f_ (S7 d * 80<=140737488355328/\S7 d<=maxLen)<|some d
instance{e}:pC (Du e) (eH 208 [] [Yn e] (λr=>[(99999,.rows 41 10 r.length (pw a_.c a_.d r))]) λr=>.one (.p8 99999 r.length)):=pC.of (Lp (gn:=Zdn) XC (by kernel_rfl) Tryz.underlying51 (λ_ _ _=>by kernel_rfl) (λ_ _=>by kernel_rfl) (λ_ _ h=>show rX _ _ _ _ _ _ from pC.ok h) (λl h o=>by unfold Zdn;rw[CO h,CO (by simpa using o)];simp) e)
def zt(d:Int):S6 Int:=S8 (if(1099511627776:Int)<(if(0:Int)>d then(0:Int)else d)then(1099511627776:Int)else(if(0:Int)>d then(0:Int)else d))
instance{d}:o0 (zt d) (eS 216 [Yj d] Yj):=kS Tryz.func216 (i_)
def JI(e:l_)(g:Bool)(h:Int):S6 a_:=(zt h).bind λd=>S8 (a_.mk e g d (pW.mk 0 d) 0 0)
abbrev zP:a_ → V:=ov a_.c
instance{d e g}:o0 (JI d e g) (eS 209 [.agg (l_.c d),Yk e,Yj g] zP):=kS Tryz.func209 (f'<|i_)
def Mb(g:uS)(h:S5 a_):S6 (S5 a_):=(Du h).bind λd=>(JI g.fx.c_ Tl g.fx.pE).bind λe=>f_ ((d++([e]:S5 a_)).length * 80<=140737488355328/\(d++([e]:S5 a_)).length<=maxLen)<|some (d++([e]:S5 a_))
abbrev zO(a:a_):S5 a_:=([a]:S5 a_)
instance{e g}:pC (Mb e g) (eH 185 [] [.agg (uS.c e),Yn g] vp oH):=sE Tryz.func185 (kD 1 1 [] [(99999,6)] λ_=>kC λh=>kM 1 9 a_.E (zO h)<|kA 1 10 a_.E<|r7 ⟨[],[],[],[],[],[4],[15],[(15,99999)]⟩ S_)
instance{d e}:o0 (Mb d e) (eS 185 [.agg (uS.c d),Yn e] Yn):=o0.of λr h=>(show rX _ _ _ _ _ _ from pC.ok h).pure
def Fb(h:S5 a_):Nat->(S5 a_)->Int->Int->(S5 Int)->S6 (S5 Int)|0,_,_,_,_=>S_|fu+1,j,o,e,g=>bif(decide (e<o))then f_ (0<=e/\e<(S7 j:Int))<|bif(decide (e>=(S7 h:Int)))then f_ ((g++([e]:S5 Int)).length * 8<=140737488355328/\(g++([e]:S5 Int)).length<=maxLen)<|Fb h fu j o (n_ e 1) (g++([e]:S5 Int))else f_ (0<=e/\e<(S7 h:Int))<|bif(!(decide ((h.getD e.toNat a_.d)=(j.getD e.toNat a_.d))))then f_ ((g++([e]:S5 Int)).length * 8<=140737488355328/\(g++([e]:S5 Int)).length<=maxLen)<|Fb h fu j o (n_ e 1) (g++([e]:S5 Int))else Fb h fu j o (n_ e 1) g else S8 g
abbrev uJ(a:S5 a_)(b:Int):a_:=a.getD b.toNat a_.d
abbrev sP:Ec Int:=eI .i64
abbrev Fu:NA:=oh [4] [5] [(5,99999)]
abbrev Fw:S5 Int → S5 (Nat × B):=ol 99999 3 1 ou (0:Int)
theorem Zxb{o}:∀{h j t e g},LH z Tryz.f259 qJ (Fb o h j t e g) Fw oH ⟨[(sX o),(5,.one (.p8 5 g.length)),(8,(Yn j)),(9,(Yj t)),(sN e)],[(oj 5 3 1 ou (0:Int) g)]⟩:=@qv _ kZ λu=>by intro j t e g;exact kB (kN<|kB (kK Tl<|kM 3 2 sP ([e]:S5 Int)<|kA 3 3 sP<|tA 17 [(30,5)] u) (kN<|kQ 2 10 (ZsJ (uJ o e) (uJ j e) (.tmp 23) (.tmp 24))<|kB (kM 3 2 sP ([e]:S5 Int)<|kA 3 3 sP<|tA 17 [(30,5)] u) (kL 17 u))) (r7 Fu S_)
def SH(e d:S5 a_):S6 (S5 Int):=Fb e (((S7 d:Int)-(0:Int)).toNat+2) d (S7 d:Int) (0:Int) ([])
abbrev Fz:S5 Int → S5 (Nat × B):=λr=>[(99999,.rows 3 1 r.length (pw uf (0:Int) r))]
instance{d e}:pC (SH d e) (eH 259 [] [Yn d,Yn e] Fz oH):=sE Tryz.func259 (rj 8 [] [] [] [] [(5,5,3,1,pw uf (0:Int) [])] [] Zxb)
instance{d e}:o0 (SH d e) (eS 259 [Yn d,Yn e] λr=>.one (zc r)):=o0.of λr h=>(show rX _ _ _ _ _ _ from pC.ok h).pure
def AD(e:qA)(g:pM)(h:oM)(j:Bool):S6 (o7 Unit):=tb (AE e (pU.mk 6 0 g 0 0 h j)) λo d=>S8 (o7.ret () d)
instance{d e g h}:qg (AD d e g h) 427 (qF d) [.one zd,.agg (pM.c e),.agg (oM.c g),Yk h] tQ:=kO Tryz.func427 (rI λ_ _=>qy)
def Hw(t:Int)(A j:S5 a_):Nat->(S5 Int)->Int->Int->qA->S6 (o7 Unit)|0,_,_,_,_=>S_|fu+1,h,o,g,e=>bif(decide (g<o))then f_ (0<=g/\g<(S7 h:Int))<|(LC t (h.getD g.toNat 0)).bind λB=>f_ (0<=(h.getD g.toNat 0)/\(h.getD g.toNat 0)<(S7 j:Int))<|tb (AD e B (oM.mk 0 (j.getD (h.getD g.toNat 0).toNat a_.d) [] []) Tm) λD u=>Hw t A j fu h o (n_ g 1) u else bif((S7 A:Int) != (S7 j:Int))then(LB t).bind λF=>tb (AD e F (oM.mk (S7 j:Int) (a_.mk (l_.mk (oV.mk Tm 0 0) 0) Tm 0 (pW.mk 0 0) 0 0) [] []) Tm) λG y=>S8 (o7.ret () y)else S8 (o7.ret () e)
abbrev xI:RA:=⟨[],[],[],[],[(5,xE)],[],[]⟩
theorem ZyK{t u y}:∀{o g h j e},LO z Tryz.f184 [0,1,0] (Hw t u y o g h j e) tQ ⟨[Cc,(q7 t),(2,(Yn u)),(3,(Yn y)),(12,.one (zU g)),(13,(Yj h)),(14,(Yj j))],(qF e)⟩:=@qv _ kZ λA=>kB (kN<|f'<|kN<|kH Gw<|kX 2 ⟨[],[],[],[],[(8,xE)],[],[]⟩<|ri λ_ _=>kL 14 A) (kB (f'<|kH Gw<|kX 2 xI<|ri λ_ _=>qy) qy)
def Dp(h:qA)(j:Int)(e g:S5 a_):S6 (o7 Unit):=(SH e g).bind λd=>Hw j e g (((S7 d:Int)-(0:Int)).toNat+2) d (S7 d:Int) (0:Int) h
instance{d e g h}:qg (Dp d e g h) 184 (qF d) [.one tc,Yj e,Yn g,Yn h] tQ:=kO Tryz.func184 (f'<|kL 4 ZyK)
def ZlW(u:uS)(G:qA):S6 (o7 (oZ×Bool)):=(S3 u).bind λg=>tb (zN G (n_ (2:Int) g) Tm) λH y=>tb (El y g) λd h=>(Hp d u.fx.c_).bind λI=>bif(decide (I>=(0:Int)))then tb (uT h (n_ (2:Int) g) Tl) λJ A=>(SU (7:Int)).bind λL=>S8 (o7.ret (L,Tl) A)else tb (LU h u.fc.rf Tl) λe j=>bif e then(Mb u d).bind λM=>tb (Dp j g d M) λO B=>tb (uT B (n_ (2:Int) g) Tm) λD o=>S8 (o7.ret ((oZ.mk 0 (l_.mk (oV.mk Tm 0 0) 0) 0 0 []),e) o)else tb (uT j (n_ (2:Int) g) Tm) λF t=>S8 (o7.ret ((oZ.mk 0 (l_.mk (oV.mk Tm 0 0) 0) 0 0 []),e) t)
abbrev Fx:oZ × Bool → V:=λr=>.qw [(Tl,oZ.c r.1),(Tm,cB r.2)]
abbrev uI:S5 (Nat × S5 (Nat × C)):=[(4,uc)]
instance{e g}:qg (ZlW e g) 121 (qF g) [.agg (uS.c e),.one tc] Fx:=kO Tryz.func121 (f'<|ri λ_ _=>rI λ_ _=>f'<|kB (ri λ_ _=>f'<|qy) (rI λ_ _=>kB (f'<|rI λ_ _=>ri λ_ _=>ya [] uI []) (ri λ_ _=>ya [] uI [])))
def OX(d:Int):S6 Int:=S8 (if(8:Int)<(if(1:Int)>d then(1:Int)else d)then(8:Int)else(if(1:Int)>d then(1:Int)else d))
instance{d}:o0 (OX d) (eS 193 [Yj d] Yj):=kS Tryz.func193 (i_)
def HH:Nat->Int->Int->qA->S6 (o7 Unit)|0,_,_,_=>S_|fu+1,h,e,d=>bif(decide (e<h))then tb (zN d (n_ (2:Int) e) Tm) λj g=>HH fu h (n_ e 1) g else S8 (o7.ret () d)
abbrev uV(a:Int):Nat × V:=(6,(Yj a))
theorem ZwX:∀{g h j e},LO z Tryz.f127 [1,0] (HH g h j e) tQ ⟨[Cc,(uV h),(tG j)],(qF e)⟩:=@qv _ kZ λo=>kB (ri λ_ _=>kL 14 o) qy
def Ht(e:qA)(g:Int):S6 (o7 Unit):=(OX g).bind λd=>HH ((d-(0:Int)).toNat+2) d (0:Int) e
instance{d e}:qg (Ht d e) 127 (qF d) [.one tc,Yj e] tQ:=kO Tryz.func127 (f'<|kL 3 ZwX)
def ZbO(d:Int):S6 (S5 a_):=f_ (0<=d/\d * 80<=140737488355328/\d<=4611686018427387904)<|some []
theorem Ziq(g:Int)(r:S5 a_)(j:ZbO g=S8 r):Yr 312 [] [.one (.lit (.slice S_ 0 0)),Yj g] [(oj 99999 41 10 a_.c a_.d r)] (.one (.p8 99999 r.length)):=by
 obtain⟨⟨o1,o2,o⟩,j⟩:=yg j;cases j;obtain⟨i0,vR,cu,fe,fD⟩:=QO.info (t:=41) (show sv tab 41=S8 _ from rfl);obtain⟨n,rfl⟩ : ∃n:Nat,g=n:=⟨g.toNat,by omega⟩;refine ZVE (enc:=a_.c) (d:=a_.d) ⟨_,Tryz.func312,rfl,rfl⟩ n (λh w=>?_) λh w=>?_
 .subst h;exact Any8.slices_Grow_room ZVF S_ 0 0 0 w (by decide) (by decide) (by decide) (by decide)
 .refine(Any8.slices_Grow_grow ZVF i0 _ vR fD (by rw[cu];decide) S_ 0 0 n [] w (Nat.le_refl _) (by omega) (by rw[fe];simp only at o2 ⊢;omega) (by omega) (by simp) (λ_=>rfl) (λa h=>by cases h)).mono ?_;rintro e w' ⟨rfl,rfl⟩;refine⟨_,_,rfl,rfl,?_,grownCap_le_maxLen w _ _ _ (by unfold maxLen;omega)⟩;have hz:∀(z:Array Value)(G:Nat),z.size=10->0+n<=G->((([]:S5 Value).toArray++Builtin.zeroCells z (0+n-0)++Builtin.zeroCells z (G-(0+n))):Array Value).size=G * 10:=λz G hz hG=>by
   simp only[Array.size_append,size_zeroCells,hz];simp;omega
  exact hz _ _ rfl (grownCap_ge w _ _ _)
instance (e:Int):pC (ZbO e) (eH 312 [] [.one (.lit (.slice S_ 0 0)),Yj e] (λ(r:S5 a_)=>[(99999,.rows 41 10 r.length (pw a_.c a_.d r))]) oH):=pC.of λr g=>Ziq e r g
def Qm(t:(S5 (S5 a_)))(u:Int)(y:(S5 (S5 a_)))(j o:Int)(aJ:Int->(S5 (S5 a_))->Int->Int->S6 (S5 a_)):Nat->(S5 (S5 a_))->Int->Int->(S5 a_)->S6 (S5 a_)|0,_,_,_,_=>S_|fu+1,e,g,d,h=>bif(decide (d<g))then f_ (0<=d/\d<(S7 e:Int))<|f_ ((h++(e.getD d.toNat [])).length * 80<=140737488355328/\(h++(e.getD d.toNat [])).length<=maxLen)<|Qm t u y j o aJ fu e g (n_ d 1) (h++(e.getD d.toNat []))else S8 h
abbrev tv:S5 a_ → S5 C:=wa 10 a_.c a_.d
abbrev re:Type:=S5 a_
abbrev wm(a:S5 (S5 a_)):C:=cL 1 tv [] a
abbrev uH(a:Int):Nat × V:=(11,(Yj a))
variable{t G o D F u H I M O y h:Int}
theorem Zmj{F:(S5 re)}{H:(S5 re)}{B:Int}{aJ:Int->(S5 re)->Int->Int->S6 re}(b5:∀{h j e g},LH z Xz qJ (aJ h j e g) (ol 99999 41 10 a_.c a_.d) oH ⟨[(0,.one (wm F)),(sO h),(9,.one (wm j)),(sN e),(uH g)],[]⟩):∀{y o t u A},LH z Xz DD (Qm F G H B D aJ y o t u A) (ol 99999 41 10 a_.c a_.d) oH ⟨[(6,.one (.p8 6 A.length)),(25,.one (wm o)),(26,(Yj t)),(27,(Yj u))],[(oj 6 41 10 a_.c a_.d A)]⟩:=@qv _ kZ λI=>kB (kN<|kA 2 2 a_.E<|tA 14 [(33,6)] I) (r7 (oh [2] [6] [(6,99999)]) S_)
def MG(g:(S5 (S5 a_))):Nat->Int->(S5 (S5 a_))->Int->Int->S6 (S5 a_)|0,_,_,_,_=>S_|fu+1,j,h,e,d=>bif(decide (d<e))then f_ (0<=d/\d<(S7 h:Int))<|bif(decide ((n_ j (((h.getD d.toNat []).length:Nat):Int))<(0:Int)))then S_ else MG g fu (n_ j (((h.getD d.toNat []).length:Nat):Int)) h e (n_ d 1)else(ZbO j).bind λo=>Qm g j h e d (MG g fu) (((S7 g:Int)-(0:Int)).toNat+2) g (S7 g:Int) (0:Int) o
abbrev xG:S5 a_ → S5 (Nat × B):=ol 99999 41 10 a_.c a_.d
theorem Zmk{j}:∀{h o t e g},LH z Xz qJ (MG j h o t e g) xG oH ⟨[(0,.one (wm j)),(sO o),(9,.one (wm t)),(sN e),(uH g)],[]⟩:=@qv _ kZ λu=>kB (kN<|kB kZ (kL 19 u)) (kD 1 1 [] [(99999,24)] λ_=>tA 12 [(24,6)] (Zmj u))
def ZeB(d:(S5 (S5 a_))):S6 (S5 a_):=MG d (((S7 d:Int)-(0:Int)).toNat+2) (0:Int) d (S7 d:Int) (0:Int)
instance{e}:pC (ZeB e) (eH 261 [] [.one (wm e)] vp oH):=sE Tryz.func261 (kL 8 Zmk)
def L1:Nat->(S5 a_)->Int->Int->(S5 a_)->S6 (S5 a_)|0,_,_,_,_=>S_|fu+1,g,j,e,h=>bif(decide (e<j))then f_ (0<=e/\e<(S7 g:Int))<|bif(g.getD e.toNat a_.d).tL then f_ ((h++([(g.getD e.toNat a_.d)]:S5 a_)).length * 80<=140737488355328/\(h++([(g.getD e.toNat a_.d)]:S5 a_)).length<=maxLen)<|L1 fu g j (n_ e 1) (h++([(g.getD e.toNat a_.d)]:S5 a_))else L1 fu g j (n_ e 1) h else S8 h
abbrev Ce:NA:=oh [2] [3] [(3,99999)]
abbrev B8(a:S5 a_)(b:Int):S5 a_:=([(uJ a b)]:S5 a_)
abbrev Ic(a:S5 a_):Nat × V:=(3,.one (.p8 3 a.length))
abbrev Ib(a:S5 a_):Nat × B:=oj 3 41 10 a_.c a_.d a
theorem ZyQ:∀{g h o j e},LH z Tryz.f342 qJ (L1 g h o j e) xG oH ⟨[(Ic e),(6,(Yn h)),(tG o),(sG j)],[(Ib e)]⟩:=@qv _ kZ λt=>by intro h o j e;exact kB (kN<|kB (kM 3 2 a_.E (B8 h j)<|kA 3 3 a_.E<|tA 17 [(17,3)] t) (kL 17 t)) (r7 Ce S_)
def Sz(d:S5 a_):S6 (S5 a_):=L1 (((S7 d:Int)-(0:Int)).toNat+2) d (S7 d:Int) (0:Int) ([])
instance{e}:pC (Sz e) (eH 342 [] [Yn e] vp oH):=sE Tryz.func342 (rj 8 [] [] [] [] [(3,3,41,10,pw a_.c a_.d [])] [] ZyQ)
instance{d}:o0 (Sz d) (eS 342 [Yn d] Yn):=o0.of λr h=>(show rX _ _ _ _ _ _ from pC.ok h).pure
def ZsN(d:rY):S6 (xl×xl×xl×xl):=S8 ((xl.mk 1 d.qW),(xl.mk 2 d.p_),(xl.mk 3 d.qo),(xl.mk 4 d.tE))
instance{d}:o0 (ZsN d) (eS 362 [.agg (rY.c d)] λr=>.agg ((cP xl.c (cP xl.c (cP xl.c xl.c))) r)):=kS Tryz.func362 (i_)
def Px(h:S5 a_):Nat->(S5 Int)->Int->Int->(S5 a_)->S6 (S5 a_)|0,_,_,_,_=>S_|fu+1,g,j,e,o=>bif(decide (e<j))then f_ (0<=e/\e<(S7 g:Int))<|f_ (0<=(g.getD e.toNat 0)/\(g.getD e.toNat 0)<(S7 h:Int))<|f_ ((o++([(h.getD (g.getD e.toNat 0).toNat a_.d)]:S5 a_)).length * 80<=140737488355328/\(o++([(h.getD (g.getD e.toNat 0).toNat a_.d)]:S5 a_)).length<=maxLen)<|Px h fu g j (n_ e 1) (o++([(h.getD (g.getD e.toNat 0).toNat a_.d)]:S5 a_))else S8 o
abbrev yi(a:S5 Int)(b:Int):Int:=a.getD b.toNat 0
theorem ZxF{t}:∀{o e h g j},LH z Tryz.f365 qJ (Px t o e h g j) xG oH ⟨[(sX t),(Ig j),(11,.one (zU e)),(12,(Yj h)),(13,(Yj g))],[(Ie j)]⟩:=@qv _ kZ λu=>by intro e h g j;exact kB (kN<|kN<|kM 2 5 a_.E ([(t.getD (yi e g).toNat a_.d)]:S5 a_)<|kA 2 6 a_.E<|tA 14 [(23,5)] u) (r7 Fu S_)
def E8(e:S5 a_)(d:S5 Int):S6 (S5 a_):=f_ (0<=(0:Int)/\(0:Int)<=(S7 d:Int)/\(S7 d:Int)<=140737488355328/\(S7 d:Int) * 80<=140737488355328)<|Px e (((S7 d:Int)-(0:Int)).toNat+2) d (S7 d:Int) (0:Int) ([]:S5 a_)
abbrev wo:Value:=.int .i64 (0)
abbrev AO:Value:=.bool Tm
abbrev DE:Value:=.int .u64 (0)
abbrev acf(a:Nat):C:=([.lit AO,.lit DE,.lit DE,.lit wo,.lit AO,.lit wo,.lit wo,.lit wo,.lit wo,.lit wo]:S5 C).getD a .oF
instance{e g}:pC (E8 e g) (eH 365 [] [Yn e,.one (zc g)] vp oH):=sE Tryz.func365 (kH (show (0:Int)=((0:Nat):Int)from rfl)<|uU λo1=>kH o1.2.1<|kH o1.2.2.1<|kH o1.2.2.2<|kH (show ∀i j,i<0->j<10->zJ (acf j) (pw a_.c a_.d [] i j)from(λi j h=>aFe h (Nat.not_lt_zero i)))<|kH (show (vN).length=0 from rfl)<|kX 1 (rA [(2,.c 0 (pw a_.c a_.d []))])<|rj 8 [] [] [] [(5,((vN).length))] [] [(10,5)] ZxF)
instance{d e}:o0 (E8 d e) (eS 365 [Yn d,.one (zc e)] Yn):=o0.of λr h=>(show rX _ _ _ _ _ _ from pC.ok h).pure
def ZnV(d:Int)(g:Bool)(e:a_):S6 Bool:=bif g then S8 Tl else bif(d==(2:Int))then S8 (decide (e.p_>0))else bif(d==(3:Int))then S8 (decide (e.qo>0))else S8 Tm
theorem Zrv{e g d}:LS z Tryz.f376 [1,0,1,0,1] (ZnV e g d) Yk ⟨[tH,(tt e),(6,(Yk g))],[(2,.box (si d))]⟩:=kB i_ (kB i_ (kB i_ i_))
def ZqM(e:a_)(d:Int):S6 Bool:=bif(d==(1:Int))then ZnV d (d==(1:Int)) e else ZnV d (d==(4:Int)) e
instance{d e}:o0 (ZqM d e) (eS 376 [.agg (si d),Yj e] Yk):=kS Tryz.func376 (kB (kL 11 Zrv) (kL 11 Zrv))
def SA(d:oV):S6 Int:=bif d.qt then S8 (32:Int)else S8 (16:Int)
instance{d}:o0 (SA d) (eS 366 (yj d) Yj):=kS Tryz.func366 (kB i_ i_)
def Ej(d:oV):S6 pn:=(SA d).bind λe=>(E5 d e).bind λg=>S8 g.1
instance{d}:o0 (Ej d) (eS 345 (yj d) (ov pn.c)):=kS Tryz.func345 (f'<|f'<|i_)
def Sj(d:a_)(e:Int):S6 Int:=(Ej d.c_.b_).bind λg=>(OC e g).bind λh=>S8 h
instance{d e}:o0 (Sj d e) (eS 397 [.agg (si d),.one (qT e)] λr=>.one (qT r)):=kS Tryz.func397 (f'<|f'<|i_)
def ZlV(d:Int):S6 Bool:=S8 (d != d)
instance{d}:o0 (ZlV d) (eS 352 (B6 d) Yk):=kS Tryz.func352 (i_)
def PG(d e:Int):S6 Int:=(ZlV d).bind λh=>(ZlV e).bind λg=>bif h then bif g then S8 (0:Int)else S8 (-1:Int)else bif g then S8 (1:Int)else bif(decide (d<e))then S8 (-1:Int)else bif(decide (d>e))then S8 (1:Int)else S8 (0:Int)
instance{d e}:o0 (PG d e) (eS 322 [.one (qT d),.one (qT e)] Yj):=kS Tryz.func322 (f'<|f'<|kB (kB i_ i_) (kB i_ (kB i_ (kB i_ i_))))
def Zpf(d:Int):S6 Bool:=S8 (d != d)
instance{d}:o0 (Zpf d) (eS 323 [Yj d] Yk):=kS Tryz.func323 (i_)
def Eo(d e:Int):S6 Int:=(Zpf d).bind λh=>(Zpf e).bind λg=>bif h then bif g then S8 (0:Int)else S8 (-1:Int)else bif g then S8 (1:Int)else bif(decide (d<e))then S8 (-1:Int)else bif(decide (d>e))then S8 (1:Int)else S8 (0:Int)
instance{d e}:o0 (Eo d e) (eS 280 [Yj d,Yj e] Yj):=kS Tryz.func280 (f'<|f'<|kB (kB i_ i_) (kB i_ (kB i_ (kB i_ i_))))
def ZpN(d e:a_)(g h:Int):S6 Int:=bif(g==(1:Int))then(Sj e h).bind λj=>(Sj d h).bind λo=>(PG j o).bind λt=>S8 t else bif(g==(2:Int))then(Eo d.p_ e.p_).bind λu=>S8 u else bif(g==(3:Int))then(Eo e.qo d.qo).bind λy=>S8 y else bif(g==(4:Int))then(Eo d.pK e.pK).bind λA=>S8 A else S8 (0:Int)
instance{d e g h}:o0 (ZpN d e g h) (eS 385 [.agg (si d),.agg (si e),Yj g,.one (qT h)] Yj):=kS Tryz.func385 (kB (f'<|f'<|f'<|i_) (kB (f'<|i_) (kB (f'<|i_) (kB (f'<|i_) i_))))
def SC(d:oV):S6 Int:=bif d.qt then S8 (1:Int)else S8 (0:Int)
instance{d}:o0 (SC d) (eS 321 (yj d) Yj):=kS Tryz.func321 (kB i_ i_)
def SX:Nat->Int->(S5 Int)->Int->Int->S6 Int|0,_,_,_,_=>S_|fu+1,g,e,h,d=>bif(decide (d<h))then f_ (0<=d/\d<(S7 e:Int))<|bif((e.getD d.toNat 0) != g)then S8 (e.getD d.toNat 0)else SX fu g e h (n_ d 1)else S8 g
theorem ZyS:∀{d e g h j},LS z Tryz.f278 qJ (SX d e g h j) Yj ⟨[(sO e),(6,.one (zU g)),(tG h),(sG j)],[]⟩:=@qv _ kZ λo=>kB (kN<|kB i_ (kL 17 o)) i_
def Em(d:S5 Int):S6 Int:=SX (((S7 d:Int)-(0:Int)).toNat+2) (0:Int) d (S7 d:Int) (0:Int)
instance{d}:o0 (Em d) (eS 278 [.one (zc d)] Yj):=kS Tryz.func278 (kL 8 ZyS)
def SM(d e:oV):S6 Int:=(SC d).bind λg=>(SC e).bind λh=>(Eo g h).bind λj=>(PG d.rk e.rk).bind λo=>(PG d.qX e.qX).bind λt=>(Em ([j,o,t]:S5 Int)).bind λu=>S8 u
instance{d e}:o0 (SM d e) (eS 279 [.agg (rR d),.agg (rR e)] Yj):=kS Tryz.func279 (f'<|f'<|kC λg=>kC λh=>kC λj=>kM 1 15 sP ([g,h,j]:S5 Int)<|f'<|i_)
def vP(a:oV):Int:=if a.qt then 1 else 0
def uy(a b:oV):Int:=xm (sK (vP a) (vP b)) (xm (sK a.rk b.rk) (sK a.qX b.qX))
theorem K7(a b:Int):Eo a b=S8 (sK a b):=by
 simp only[Eo,Zpf,sK,bne_self_eq_false,Xt,aFb];by_cases d:a<b<;>by_cases e:a>b<;>simp[d,e]<;>omega
theorem ZWx(a b:Int):PG a b=S8 (sK a b):=by
 simp only[PG,ZlV,sK,bne_self_eq_false,Xt,aFb];by_cases d:a<b<;>by_cases e:a>b<;>simp[d,e]<;>omega
theorem N_(a b:Int):Em [a,b]=S8 (xm a b):=by
 unfold Em xm;simp only[Uw,XB];rw[show (((0+1+1:Nat):Int)-0).toNat+2=4 from rfl];simp only[SX,show n_ 0 1=1 from rfl,show n_ 1 1=2 from rfl];simp only[XA,bne_iff_ne,ne_eq,ite_not,f_];by_cases d:a=0<;>by_cases e:b=0<;>simp[d,e]
theorem or3(a b c:Int):Em [a,b,c]=S8 (xm a (xm b c)):=by
 unfold Em xm;simp only[Uw,XB];rw[show (((0+1+1+1:Nat):Int)-0).toNat+2=5 from rfl];simp only[SX,show n_ 0 1=1 from rfl,show n_ 1 1=2 from rfl,show n_ 2 1=3 from rfl];simp only[XA,bne_iff_ne,ne_eq,ite_not,f_];by_cases d:a=0<;>by_cases e:b=0<;>by_cases g:c=0<;>simp[d,e,g]
theorem ZQT(a b:oV):SM a b=S8 (uy a b):=by
 have d:∀c,SC c=S8 (vP c):=λc=>by unfold SC vP;cases c.qt<;>rfl
 simp only[SM,d,K7,ZWx,or3,Xt,uy]
theorem QY{a b:Int}:xm a b<0↔a<0\/(a=0/\b<0):=by unfold xm;constructor<;>intro h<;>(repeat' split at *)<;>omega
theorem QX{a b:Int}:0<xm a b↔0<a\/(a=0/\0<b):=by unfold xm;constructor<;>intro h<;>(repeat' split at *)<;>omega
theorem ZBf{a b:Int}:xm a b=0↔a=0/\b=0:=by unfold xm;constructor<;>intro h<;>(repeat' split at *)<;>omega
theorem amp{a b:oV}:vP a=vP b↔a.qt=b.qt:=by unfold vP;cases a.qt<;>cases b.qt<;>simp
theorem ZWB{a b:oV}:uy a b<0↔vP a<vP b\/(vP a=vP b/\(a.rk<b.rk\/(a.rk=b.rk/\a.qX<b.qX))):=by simp only[uy,QY,Q3,EX]
theorem alN{a b:oV}:0<uy a b↔vP b<vP a\/(vP a=vP b/\(b.rk<a.rk\/(a.rk=b.rk/\b.qX<a.qX))):=by simp only[uy,QX,Q2,EX]
theorem OA{a b:oV}:uy a b=0↔a=b:=by
 simp only[uy,ZBf,EX,amp];obtain⟨v,hi,lo⟩:=a;obtain⟨v',cO,lT⟩:=b;simp
theorem ZEW{a b c:oV}(d:uy a b<0)(e:uy b c<0):uy a c<0:=by
 rw[ZWB]at *
 omega
theorem ZKL{a b:oV}:0<uy a b↔uy b a<0:=by
 rw[alN,ZWB];constructor<;>intro h<;>omega
def JW(d e:l_):S6 Int:=(SM d.b_ e.b_).bind λg=>(Eo d.qE e.qE).bind λh=>(Em ([g,h]:S5 Int)).bind λj=>S8 j
instance{d e}:o0 (JW d e) (eS 213 [.agg (l_.c d),.agg (l_.c e)] Yj):=kS Tryz.func213 (kC λg=>kC λh=>kM 1 10 sP ([g,h]:S5 Int)<|f'<|i_)
def ZuK(d e:a_)(g h:Int):S6 Int:=(ZpN d e g h).bind λj=>(JW d.c_ e.c_).bind λo=>(Em ([j,o]:S5 Int)).bind λt=>S8 t
instance{d e g h}:o0 (ZuK d e g h) (eS 379 [.agg (si d),.agg (si e),Yj g,.one (qT h)] Yj):=kS Tryz.func379 (kC λj=>kC λo=>kM 1 10 sP ([j,o]:S5 Int)<|f'<|i_)
def LV(e g:Int)(c0:S5 a_)(c1 c2:Int):S6 Int:=f_ (0<=e/\e<(S7 c0:Int))<|f_ (0<=g/\g<(S7 c0:Int))<|(ZuK (c0.getD e.toNat a_.d) (c0.getD g.toNat a_.d) c1 c2).bind λh=>S8 h
abbrev Fp(b:Int):S5 C:=[.lit (.int .i64 b)]
abbrev Nr(a:Int):Nat → C:=λj=>((Fp a):S5 C).getD (0+j) .oF
abbrev Ia(a:Int):C:=.rp Tm 1 (Nr a)
instance{e g c0 c1 c2}:o0 (LV e g c0 c1 c2) (eS 378 [Yj e,Yj g,.one (.rp Tm 1 (λj=>([cL 10 a_.c a_.d c0]:S5 C).getD (0+j) .oF)),.one (Ia c1),.one (.rp Tm 1 (λj=>([.lit (.int .u64 c2)]:S5 C).getD (0+j) .oF))] Yj):=kS Tryz.func378 (kN<|kN<|f'<|i_)
def QB(t u:Int)(g:S5 a_)(h j o:Int)(aq:Int->(S5 Int)->S6 (S5 Int)):Nat->Int->(S5 Int)->S6 (S5 Int)|0,_,_=>S_|fu+1,e,d=>bif(decide (e>t))then f_ (0<=e/\e<(S7 d:Int))<|f_ (0<=(pR e (1:Int))/\(pR e (1:Int))<(S7 d:Int))<|(LV (d.getD e.toNat 0) (d.getD ((pR e (1:Int)).toNat) (0:Int)) g h j).bind λy=>bif(decide (y<0))then QB t u g h j o aq fu (pR e (1:Int)) ((d.set e.toNat (d.getD ((pR e (1:Int)).toNat) (0:Int))).set ((pR e (1:Int)).toNat) (d.getD e.toNat 0))else aq (n_ o 1) d else aq (n_ o 1) d
abbrev AX(a:S5 a_)(b e:Int):C:=oq 378 0 3 [] [ot [cL 10 a_.c a_.d a],ot (Fp b),ot [.lit (.int .u64 e)]]
abbrev AN(b:S5 Int):C:=.p8 100000 b.length
abbrev vg(a:S5 Int):Nat × V:=(0,.one (AN a))
abbrev w6(a:Int):Nat:=(pR a (1:Int)).toNat
abbrev ue:V:=.qw []
abbrev sI:Type:=S5 Int
abbrev tP:S5 Int → V:=λr=>ue
abbrev Fq(c:S5 Int)(d:Int):Int:=c.getD (w6 d) (0:Int)
abbrev IX(a:S5 Int)(b:Int):Nat:=((a.set b.toNat (Fq a b)).set (w6 b) (yi a b)).length
abbrev AT:S5 Int → S5 (Nat × B):=ol 100000 3 1 ou (0:Int)
abbrev AS(a:S5 Int):S5 (Nat × B):=[(oj 100000 3 1 ou (0:Int) a)]
theorem ZkH{o:re}{aq:Int->sI->S6 sI}(aS:∀{y g},LH z Xx [1,0] (aq y g) AT tP ⟨[(vg g),(q7 F),(sV G),(3,.one (AX o t u)),(sG y)],(AS g)⟩):∀{D h e},LH z Xx [1,0,0,1,0,0,1,0] (QB F G o t u H aq D h e) AT tP ⟨[(vg e),(q7 F),(sV G),(3,.one (AX o t u)),(sG H),(9,(Yj h))],(AS e)⟩:=@qv _ kZ λI=>by intro h e;exact kB (sB λA=>kH (ltOf A)<|sB λB=>kH (ltOf B)<|f'<|kB (kH B<|kH (ltOf B)<|kH A<|kH (ltOf A)<|kH A<|kW 1 15 sP e h.toNat (Fq e h) (ltOf A)<|kH B<|kW 1 17 sP (e.set h.toNat (Fq e h)) (w6 h) (yi e h) (by have:=ltOf B;simp at this ⊢;omega)<|kH (oW (IX e h))<|rj 12 [] [] [] [(100000,(IX e h))] [] [] I) (kL 9 aS)) (kK Tm<|kL 9 aS)
def Ks(o t:Int)(e:S5 a_)(g h:Int):Nat->Int->(S5 Int)->S6 (S5 Int)|0,_,_=>S_|fu+1,j,d=>bif(decide (j<t))then QB o t e g h j (Ks o t e g h fu) ((j-o).toNat+2) j d else S8 d
theorem ZkI{u y g h o}:∀{t A e},LH z Xx [1,0] (Ks u y g h o t A e) AT tP ⟨[(vg e),(q7 u),(sV y),(3,.one (AX g h o)),(sG A)],(AS e)⟩:=@qv _ kZ λB=>kB (kL 11 (ZkH B)) (yD [] [] [] [100000])
def ZcS(o:S5 Int)(h j:Int)(d:S5 a_)(e g:Int):S6 (S5 Int):=Ks h j d e g ((j-(n_ h 1)).toNat+2) (n_ h 1) o
abbrev DT(a:S5 a_)(b f:Int):C:=.qs (.func 378) 0 3 ub (λi=>([.rp Tm 1 (λj=>([cL 10 a_.c a_.d a]:S5 C).getD (0+j) .oF),.rp Tm 1 (Nr b),.rp Tm 1 (λj=>([.lit (.int .u64 f)]:S5 C).getD (0+j) .oF)]:S5 C).getD i .oF)
abbrev zg(a:S5 Int):S5 (Nat × B):=[(100000,.rows 3 1 a.length (pw uf (0:Int) a))]
instance{o t u e g h}:pC (ZcS o t u e g h) (eH 395 (zg o) [.one (AN o),Yj t,Yj u,.one (DT e g h)] (λr=>(zg r)) λr=>ue):=sE Tryz.func395 (kL 3 ZkI)
def Qn(g h j:Int):Nat->Int->(S5 Int)->S6 (S5 Int)|0,_,_=>S_|fu+1,e,d=>bif(decide (e<j))then f_ (0<=(n_ h e)/\(n_ h e)<(S7 d:Int))<|f_ (0<=(n_ g e)/\(n_ g e)<(S7 d:Int))<|Qn g h j fu (n_ e 1) ((d.set ((n_ g e).toNat) (d.getD ((n_ h e).toNat) (0:Int))).set ((n_ h e).toNat) (d.getD ((n_ g e).toNat) (0:Int)))else S8 d
abbrev vL(a b:Int):Nat:=(n_ a b).toNat
abbrev B9(a:S5 Int)(b c:Int):Int:=a.getD (vL b c) (0:Int)
theorem Zmi{g h t}:∀{j e d},LH z Tryz.f405 [1,0] (Qn g h t j e d) AT tP ⟨[(vg d),(q7 g),(sV h),(sO t),(sN e)],(AS d)⟩:=@qv _ kZ λu=>by intro e d;exact kB (sB λo2=>kH (ltOf o2)<|sB λo=>kH (ltOf o)<|kH o<|kW 1 21 sP d (vL g e) (B9 d h e) (ltOf o)<|kH o2<|kW 1 23 sP (d.set (vL g e) (B9 d h e)) (vL h e) (B9 d g e) (by have:=ltOf o2;simp at this ⊢;omega)<|kH (oW (((d.set (vL g e) (B9 d h e)).set (vL h e) (B9 d g e)).length))<|rj 12 [] [] [] [(100000,(((d.set (vL g e) (B9 d h e)).set (vL h e) (B9 d g e)).length))] [] [] u) (yD [] [] [] [100000])
def Qt(j:S5 Int)(o t d:Int)(e:S5 a_)(g h:Int):S6 (S5 Int):=Qn o t d ((d-(0:Int)).toNat+2) (0:Int) j
instance{o t u y e g h}:pC (Qt o t u y e g h) (eH 405 (zg o) [.one (AN o),Yj t,Yj u,Yj y,.one (DT e g h)] (λr=>(zg r)) λr=>ue):=sE Tryz.func405 (kL 3 Zmi)
def Qs(t:Int)(g:S5 a_)(h j:Int):Nat->Int->Int->(S5 Int)->S6 (S5 Int)|0,_,_,_=>S_|fu+1,d,o,e=>bif(d != o)then bif(decide (d>o))then(Qt e (pR t d) t o g h j).bind λu=>Qs t g h j fu (pR d o) o u else(Qt e (pR t d) (pR (n_ t o) d) d g h j).bind λy=>Qs t g h j fu d (pR o d) y else(Qt e (pR t d) t d g h j).bind λA=>S8 A
abbrev ud:S5 (Nat × Nat):=[(100000,100000)]
abbrev AK(a:S5 Int):S5 (Nat × Nat):=[(100000,S7 a)]
abbrev y0:S5 Nat:=[1,1,0,0]
abbrev zQ(a:S5 a_)(b c:Int):Nat × V:=(4,.one (AX a b c))
theorem Znw{D g h o}:∀{y t u e},LH z Tryz.f403 y0 (Qs D g h o y t u e) AT tP ⟨[(vg e),(sV D),(zQ g h o),(sN t),(uH u)],(AS e)⟩:=@qv _ kZ λF=>kB (kB (kD 2 7 ud [] λA=>kH (oW A.length)<|rj 15 [] [] [] (AK A) [] [] F) (kD 2 11 ud [] λB=>kH (oW B.length)<|rj 15 [] [] [] (AK B) [] [] F)) (kD 1 7 ud [] λ_=>yD [] [] [] [100000])
def ZdU(j:S5 Int)(o h t:Int)(d:S5 a_)(e g:Int):S6 (S5 Int):=Qs h d e g 1000000 (pR h o) (pR t h) j
instance{o t u y e g h}:pC (ZdU o t u y e g h) (eH 403 (zg o) [.one (AN o),Yj t,Yj u,Yj y,.one (DT e g h)] (λr=>(zg r)) λr=>ue):=sE Tryz.func403 (kL 6 Znw)
def Qk(u:Int)(g:S5 a_)(h j o t:Int)(aK:Int->Int->(S5 Int)->S6 (S5 Int)):Nat->Int->(S5 Int)->S6 (S5 Int)|0,_,_=>S_|fu+1,e,d=>bif(decide (e<(pR o (1:Int))))then f_ (0<=(n_ e 1)/\(n_ e 1)<(S7 d:Int))<|f_ (0<=e/\e<(S7 d:Int))<|Qk u g h j o t aK fu (n_ e 1) ((d.set e.toNat (d.getD ((n_ e 1).toNat) (0:Int))).set ((n_ e 1).toNat) (d.getD e.toNat 0))else S8 d
abbrev vM:S5 Int → S5 (Nat × YtmcnjofonpkfmaaGreat.B):=ol 100000 3 1 ou (0:Int)
abbrev wC(a:S5 Int):S5 (Nat × YtmcnjofonpkfmaaGreat.B):=[(oj 100000 3 1 ou (0:Int) a)]
abbrev zb(a:Int):Nat:=(n_ a 1).toNat
abbrev aca(a:S5 Int)(b:Int):Nat:=((a.set b.toNat (a.getD (zb b) (0:Int))).set (zb b) (yi a b)).length
theorem ZmF{o:re}{B:Int}{aK:Int->Int->sI->S6 sI}(ck:∀{y A h},LH z Xp [0,1,0,1,1,0,0] (aK y A h) vM tP ⟨[(vg h),(q7 I),(zQ o t u),(sN y),(uH A)],(wC h)⟩):∀{D g e},LH z Xp [0,1,0,1,1,1,0,1,0] (Qk I o t u B F aK D g e) vM tP ⟨[(vg e),(sN B),(13,(Yj g))],(wC e)⟩:=@qv _ kZ λJ=>by intro g e;exact kB (sB λG=>kH (ltOf G)<|sB λH=>kH (ltOf H)<|kH H<|kW 1 15 sP e g.toNat (e.getD (zb g) (0:Int)) (ltOf H)<|kH G<|kW 1 17 sP (e.set g.toNat (e.getD (zb g) (0:Int))) (zb g) (yi e g) (by have:=ltOf G;simp at this ⊢;omega)<|kH (oW (aca e g))<|rj 12 [] [] [] [(100000,(aca e g))] [] [] J) (yD [] [] [] [100000])
def GH(t:Int)(e:S5 a_)(g h:Int):Nat->Int->Int->(S5 Int)->S6 (S5 Int)|0,_,_,_=>S_|fu+1,j,o,d=>bif(decide (j<o))then f_ (0<=(US .i64 (Xo (US .u64 (n_ j o)) (2 ^ (min (1:Int).toNat (UB .u64)))))/\(US .i64 (Xo (US .u64 (n_ j o)) (2 ^ (min (1:Int).toNat (UB .u64)))))<(S7 d:Int))<|f_ (0<=t/\t<(S7 d:Int))<|(LV (d.getD ((US .i64 (Xo (US .u64 (n_ j o)) (2 ^ (min (1:Int).toNat (UB .u64))))).toNat) (0:Int)) (d.getD t.toNat 0) e g h).bind λu=>bif(decide (u<0))then GH t e g h fu (n_ (US .i64 (Xo (US .u64 (n_ j o)) (2 ^ (min (1:Int).toNat (UB .u64))))) (1:Int)) o d else GH t e g h fu j (US .i64 (Xo (US .u64 (n_ j o)) (2 ^ (min (1:Int).toNat (UB .u64))))) d else Qk t e g h j o (GH t e g h fu) 1000000 t d
theorem ZmG{B g h o}:∀{y t u e},LH z Xp [0,1,0,1,1,0,0] (GH B g h o y t u e) vM tP ⟨[(vg e),(q7 B),(zQ g h o),(sN t),(uH u)],(wC e)⟩:=@qv _ kZ λA=>kB (kH (oY (1:Int) rfl)<|zl<|zl<|f'<|kB (kL 15 A) (kL 15 A)) (kL 10 (ZmF A))
def Ql(u:Int)(g:S5 a_)(h j o t:Int)(aL:Int->Int->(S5 Int)->S6 (S5 Int)):Nat->Int->(S5 Int)->S6 (S5 Int)|0,_,_=>S_|fu+1,e,d=>bif(decide (e>o))then f_ (0<=(pR e (1:Int))/\(pR e (1:Int))<(S7 d:Int))<|f_ (0<=e/\e<(S7 d:Int))<|Ql u g h j o t aL fu (pR e (1:Int)) ((d.set e.toNat (d.getD ((pR e (1:Int)).toNat) (0:Int))).set ((pR e (1:Int)).toNat) (d.getD e.toNat 0))else S8 d
abbrev Ih:S5 Nat:=[1,0,1,0,1,1,0,0]
theorem ZmD{o:re}{aL:Int->Int->sI->S6 sI}(cl:∀{y A h},LH z Xp Ih (aL y A h) AT tP ⟨[(vg h),(sV I),(zQ o t u),(14,(Yj y)),(15,(Yj A))],(AS h)⟩):∀{F g e},LH z Xp [1,0,1,0,1,1,1,0,1,0] (Ql I o t u D G aL F g e) AT tP ⟨[(vg e),(14,(Yj D)),(17,(Yj g))],(AS e)⟩:=@qv _ kZ λJ=>by intro g e;exact kB (sB λH=>kH (ltOf H)<|sB λB=>kH (ltOf B)<|kH B<|kW 1 15 sP e g.toNat (Fq e g) (ltOf B)<|kH H<|kW 1 17 sP (e.set g.toNat (Fq e g)) (w6 g) (yi e g) (by have:=ltOf H;simp at this ⊢;omega)<|kH (oW (IX e g))<|rj 12 [] [] [] [(100000,(IX e g))] [] [] J) (yD [] [] [] [100000])
def GI(t:Int)(g:S5 a_)(h j:Int):Nat->Int->Int->(S5 Int)->S6 (S5 Int)|0,_,_,_=>S_|fu+1,e,o,d=>bif(decide (e<o))then f_ (0<=t/\t<(S7 d:Int))<|f_ (0<=(US .i64 (Xo (US .u64 (n_ e o)) (2 ^ (min (1:Int).toNat (UB .u64)))))/\(US .i64 (Xo (US .u64 (n_ e o)) (2 ^ (min (1:Int).toNat (UB .u64)))))<(S7 d:Int))<|(LV (d.getD t.toNat 0) (d.getD ((US .i64 (Xo (US .u64 (n_ e o)) (2 ^ (min (1:Int).toNat (UB .u64))))).toNat) (0:Int)) g h j).bind λu=>bif(!(decide (u<0)))then GI t g h j fu (n_ (US .i64 (Xo (US .u64 (n_ e o)) (2 ^ (min (1:Int).toNat (UB .u64))))) (1:Int)) o d else GI t g h j fu e (US .i64 (Xo (US .u64 (n_ e o)) (2 ^ (min (1:Int).toNat (UB .u64))))) d else Ql t g h j e o (GI t g h j fu) ((t-e).toNat+2) t d
theorem ZmE{B g h o}:∀{y t u e},LH z Xp Ih (GI B g h o y t u e) vM tP ⟨[(vg e),(sV B),(zQ g h o),(14,(Yj t)),(15,(Yj u))],(wC e)⟩:=@qv _ kZ λA=>kB (kH (oY (1:Int) rfl)<|zl<|zl<|f'<|kB (kL 15 A) (kL 15 A)) (kL 10 (ZmD A))
def MF(F G t:Int)(g:S5 a_)(h j:Int)(gr:((S5 Int)->Int->Int->Int->(S5 a_)->Int->Int->S6 (S5 Int)))(o u y A B e:Int)(ah:Int->Int->Int->(S5 Int)->S6 (S5 Int))(d:S5 Int):S6 (S5 Int):=bif(decide (o<e))then bif(decide (e<t))then(gr d o e t g h j).bind λD=>S8 D else S8 d else S8 d
abbrev DR(a:S5 Int)(b c d:Int)(e:S5 a_)(f g:Int):S5 Int → Ev:=eH 396 (wC a) [.one (AN a),Yj b,Yj c,Yj d,.one (AX e f g)] vM λr=>ue
abbrev IT:Type:=sI->Int->Int->Int->re->Int->Int->S6 sI
abbrev Nd(a:S5 Int)(b c d:Int)(f:S5 a_)(g i j k l m n:Int):St:=⟨[(vg a),(q7 b),(sV c),(sO d),(zQ f g i),(18,(Yj j)),(19,(Yj k)),(20,(Yj l)),(21,(Yj m)),(22,(Yj n))],(wC a)⟩
abbrev DM:S5 Nat:=[1,1,1,1,1,1,1,0,0]
theorem ZeU{h:re}{gr:IT}{B:Int}{L:Int}[∀{J F G D h o t},pC (gr J F G D h o t) (DR J F G D h o t)]{ah:Int->Int->Int->sI->S6 sI}(aM:∀{u y A e},LH z Xp DM (ah u y A e) vM tP (Nd e F G D h o t B H u y A)){g}:LH z Xp [1,1,1,1,1,1,1,1,1,1,1] (MF F G D h o t gr B H L M O I ah g) vM tP ⟨[(vg g),(sO D),(zQ h o t),(18,(Yj B)),(24,(Yj I))],(wC g)⟩:=kB (kB (kD 1 5 ud [] λ_=>yD [] [] [] [100000]) (yD [] [] [] [100000])) (kK Tm<|yD [] [] [] [100000])
def HS(B D F:Int)(e:S5 a_)(g h:Int)(gr:((S5 Int)->Int->Int->Int->(S5 a_)->Int->Int->S6 (S5 Int)))(o t j u y:Int)(ah:Int->Int->Int->(S5 Int)->S6 (S5 Int))(A:Int)(d:S5 Int):S6 (S5 Int):=bif(decide (B<j))then bif(decide (j<o))then(gr d B j o e g h).bind λG=>MF B D F e g h gr o t j u y A ah G else MF B D F e g h gr o t j u y A ah d else MF B D F e g h gr o t j u y A ah d
theorem ZeV{h:re}{gr:IT}{B:Int}[∀{L D G F h o t},pC (gr L D G F h o t) (DR L D G F h o t)]{ah:Int->Int->Int->sI->S6 sI}(aM:∀{u y A e},LH z Xp DM (ah u y A e) vM tP (Nd e D G F h o t B H u y A)){J g}:LH z Xp [1,1,1,1,1,1,1,1,1,1] (HS D G F h o t gr B H I M O ah J g) vM tP ⟨[(vg g),(q7 D),(sO F),(zQ h o t),(18,(Yj B)),(20,(Yj I)),(24,(Yj J))],(wC g)⟩:=kB (kB (kD 1 5 ud [] λU=>kH (oW U.length)<|rj 5 [] [] [] (AK U) [] [] (ZeU aM)) (kL 5 (ZeU aM))) (kK Tm<|kL 5 (ZeU aM))
def Fg(B A D:Int)(g:S5 a_)(h j:Int)(gr:((S5 Int)->Int->Int->Int->(S5 a_)->Int->Int->S6 (S5 Int)))(u o:Int):Nat->Int->Int->Int->(S5 Int)->S6 (S5 Int)|0,_,_,_,_=>S_|fu+1,e,t,y,d=>bif(decide (e<t))then f_ (0<=(pR y (US .i64 (Xo (US .u64 (n_ e t)) (2 ^ (min (1:Int).toNat (UB .u64))))))/\(pR y (US .i64 (Xo (US .u64 (n_ e t)) (2 ^ (min (1:Int).toNat (UB .u64))))))<(S7 d:Int))<|f_ (0<=(US .i64 (Xo (US .u64 (n_ e t)) (2 ^ (min (1:Int).toNat (UB .u64)))))/\(US .i64 (Xo (US .u64 (n_ e t)) (2 ^ (min (1:Int).toNat (UB .u64)))))<(S7 d:Int))<|(LV (d.getD ((pR y (US .i64 (Xo (US .u64 (n_ e t)) (2 ^ (min (1:Int).toNat (UB .u64)))))).toNat) (0:Int)) (d.getD ((US .i64 (Xo (US .u64 (n_ e t)) (2 ^ (min (1:Int).toNat (UB .u64))))).toNat) (0:Int)) g h j).bind λF=>bif(!(decide (F<0)))then Fg B A D g h j gr u o fu (n_ (US .i64 (Xo (US .u64 (n_ e t)) (2 ^ (min (1:Int).toNat (UB .u64))))) (1:Int)) t y d else Fg B A D g h j gr u o fu e (US .i64 (Xo (US .u64 (n_ e t)) (2 ^ (min (1:Int).toNat (UB .u64))))) y d else bif(decide (e<A))then bif(decide (A<(pR o e)))then(ZdU d e A (pR o e) g h j).bind λG=>HS B A D g h j gr u o e t y (Fg B A D g h j gr u o fu) (pR o e) G else HS B A D g h j gr u o e t y (Fg B A D g h j gr u o fu) (pR o e) d else HS B A D g h j gr u o e t y (Fg B A D g h j gr u o fu) (pR o e) d
theorem ZmC{g:re}{gr:IT}{A:Int}{B:Int}[∀{I t u y g h o},pC (gr I t u y g h o) (DR I t u y g h o)]:∀{J D F G e},LH z Xp DM (Fg t u y g h o gr A B J D F G e) vM tP (Nd e t u y g h o A B D F G):=@qv _ kZ λH=>kB (kH (oY (1:Int) rfl)<|zl<|zl<|f'<|kB (kL 15 H) (kL 15 H)) (kB (kB (kD 3 5 ud [] λL=>kH (oW L.length)<|rj 13 [] [] [] (AK L) [] [] (ZeV H)) (kL 13 (ZeV H))) (kK Tm<|kL 13 (ZeV H)))
def Zdf(y A B:Int)(e:S5 a_)(g h:Int)(gr:((S5 Int)->Int->Int->Int->(S5 a_)->Int->Int->S6 (S5 Int)))(u j o t:Int)(d:S5 Int):S6 (S5 Int):=Fg y A B e g h gr u j ((t-o).toNat+2) o t (pR j (1:Int)) d
theorem Zhw{g:re}{gr:IT}[∀{G t u y g h o},pC (gr G t u y g h o) (DR G t u y g h o)]{A B D F e}:LH z Xp [1,1,1,1,1,1] (Zdf t u y g h o gr A B D F e) vM tP ⟨[(vg e),(q7 t),(sV u),(sO y),(zQ g h o),(18,(Yj A)),(19,(Yj B)),(20,(Yj D)),(21,(Yj F))],(wC e)⟩:=kL 4 ZmC
def Zem(gr:(S5 Int)->Int->Int->Int->(S5 a_)->Int->Int->S6 (S5 Int))(t:S5 Int)(d e o:Int)(g:S5 a_)(h j:Int):S6 (S5 Int):=bif((pR e d)==(1:Int))then GH d g h j ((o-e).toNat+2) e o t else bif((pR o e)==(1:Int))then GI e g h j ((e-d).toNat+2) d e t else bif(decide (e>(US .i64 (Xo (US .u64 (n_ d o)) (2 ^ (min (1:Int).toNat (UB .u64)))))))then Zdf d e o g h j gr (US .i64 (Xo (US .u64 (n_ d o)) (2 ^ (min (1:Int).toNat (UB .u64))))) (n_ (US .i64 (Xo (US .u64 (n_ d o)) (2 ^ (min (1:Int).toNat (UB .u64))))) e) (pR (n_ (US .i64 (Xo (US .u64 (n_ d o)) (2 ^ (min (1:Int).toNat (UB .u64))))) e) o) (US .i64 (Xo (US .u64 (n_ d o)) (2 ^ (min (1:Int).toNat (UB .u64))))) t else Zdf d e o g h j gr (US .i64 (Xo (US .u64 (n_ d o)) (2 ^ (min (1:Int).toNat (UB .u64))))) (n_ (US .i64 (Xo (US .u64 (n_ d o)) (2 ^ (min (1:Int).toNat (UB .u64))))) e) d e t
theorem Znj{gr:sI->Int->Int->Int->re->Int->Int->S6 sI}[∀{o t u y e g h},pC (gr o t u y e g h) (DR o t u y e g h)]:∀{o t u y e g h},pC (Zem gr o t u y e g h) (DR o t u y e g h):=sE Tryz.func396 (kB (kL 10 ZmG) (kB (kL 15 ZmE) (kH (oY (1:Int) rfl)<|kB (kL 23 Zhw) (kL 23 Zhw))))
def Mz:Nat->(S5 Int)->Int->Int->Int->(S5 a_)->Int->Int->S6 (S5 Int)|0,_,_,_,_,_,_,_=>S_|fu+1,h,j,o,t,d,e,g=>Zem (Mz fu) h j o t d e g
instance:∀{t},∀{u y A B e g o},pC (Mz t u y A B e g o) (eH 396 [(100000,.rows 3 1 u.length (pw uf (0:Int) u))] [.one (AN u),Yj y,Yj A,Yj B,.one (DT e g o)] (λr=>[(100000,.rows 3 1 r.length (pw uf (0:Int) r))]) λr=>ue):=by
 intro t;induction t with
 |zero=>exact⟨λh=>by cases h⟩
 |succ t D=>exact Znj (gr:=Mz t)
def MA(t:Int)(e:S5 a_)(g h j:Int)(aj:Int->Int->Int->(S5 Int)->S6 (S5 Int))(ax:Int->(S5 Int)->S6 (S5 Int)):Nat->Int->Int->(S5 Int)->S6 (S5 Int)|0,_,_,_=>S_|fu+1,o,u,d=>bif(decide (u<=t))then(Mz 1000 d o (n_ o j) u e g h).bind λy=>MA t e g h j aj ax fu u (n_ u (u6 (2:Int) j)) y else bif(decide ((n_ o j)<t))then(Mz 1000 d o (n_ o j) t e g h).bind λA=>ax (u6 j (2:Int)) A else ax (u6 j (2:Int)) d
abbrev Iw(a:S5 Int)(b:Int)(c:S5 a_)(d f g i j:Int):S5 (Nat × V):=[(vg a),(q7 b),(2,.one (AX c d f)),(uV g),(tG i),(sG j)]
theorem Znt{B:Int}{h:re}{aj:Int->Int->Int->sI->S6 sI}{ax:Int->sI->S6 sI}(a6:∀{u y A e},LH z Xs y0 (aj u y A e) vM tP ⟨(Iw e B h o t u y A),(wC e)⟩)(a7:∀{u e},LH z Xs [1,1,1,1,0] (ax u e) vM tP ⟨[(vg e),(q7 B),(2,.one (AX h o t)),(uV u)],(wC e)⟩):∀{D I J g},LH z Xs [1,1,1,1,0,0,1,0,1,0,0] (MA B h o t H aj ax D I J g) vM tP ⟨(Iw g B h o t H I J),(wC g)⟩:=@qv _ kZ λL=>kB (kD 1 7 ud [] λF=>kH (oW F.length)<|rj 14 [] [] [] (AK F) [] [] L) (kB (kD 3 5 ud [] λG=>kH (oW G.length)<|rj 16 [] [] [] (AK G) [] [] a7) (kL 16 a7))
def Kt(j:Int)(e:S5 a_)(g h t u:Int)(aj:Int->Int->Int->(S5 Int)->S6 (S5 Int)):Nat->Int->(S5 Int)->S6 (S5 Int)|0,_,_=>S_|fu+1,o,d=>bif(decide (o<j))then MA j e g h o aj (Kt j e g h t u aj fu) ((j-(u6 (2:Int) o)).toNat+2) (0:Int) (u6 (2:Int) o) d else S8 d
theorem Znu{h:re}{aj:Int->Int->Int->sI->S6 sI}(a6:∀{u y A e},LH z Xs y0 (aj u y A e) AT tP ⟨(Iw e D h o t u y A),(AS e)⟩):∀{B F g},LH z Xs [1,1,1,1,0] (Kt D h o t G H aj B F g) vM tP ⟨[(vg g),(q7 D),(2,.one (AX h o t)),(uV F)],(wC g)⟩:=@qv _ kZ λI=>kB (kL 11 (Znt a6 I)) (yD [] [] [] [100000])
def HQ(j:Int)(d:S5 a_)(e g:Int):Nat->Int->Int->Int->(S5 Int)->S6 (S5 Int)|0,_,_,_,_=>S_|fu+1,t,u,o,h=>bif(decide (o<=j))then(ZcS h u o d e g).bind λy=>HQ j d e g fu t o (n_ o t) y else(ZcS h u j d e g).bind λA=>Kt j d e g u o (HQ j d e g fu) ((j-t).toNat+2) t A
theorem Znv{A g h o}:∀{t B D F e},LH z Xs y0 (HQ A g h o t B D F e) vM tP ⟨(Iw e A g h o B D F),(wC e)⟩:=@qv _ kZ λG=>kB (kD 1 4 ud [] λu=>kH (oW u.length)<|rj 14 [] [] [] (AK u) [] [] G) (kD 1 4 ud [] λy=>kH (oW y.length)<|rj 9 [] [] [] (AK y) [] [] (Znu G))
def Zhh(j:S5 Int)(h:Int)(d:S5 a_)(e g:Int):S6 (S5 Int):=HQ h d e g ((h-(20:Int)).toNat+2) (20:Int) (0:Int) (20:Int) j
instance{o t e g h}:pC (Zhh o t e g h) (eH 384 (zg o) [.one (AN o),Yj t,.one (DT e g h)] (λr=>(zg r)) λr=>ue):=sE Tryz.func384 (kL 6 Znv)
def ZdZ(h:S5 Int)(d:S5 a_)(e g:Int):S6 (S5 Int):=(Zhh h (S7 h:Int) d e g).bind λj=>S8 j
instance{o e g h}:pC (ZdZ o e g h) (eH 377 (zg o) [.one (AN o),.one (DT e g h)] (λr=>(zg r)) λr=>ue):=sE Tryz.func377 (kD 0 4 ud [] λ_=>yD [] [] [] [100000])
def L2(g:Int):Nat->(S5 a_)->Int->Int->(S5 Int)->(S5 a_)->Int->Int->S6 (S5 Int)|0,_,_,_,_,_,_,_=>S_|fu+1,j,o,e,h,u,t,y=>bif(decide (e<o))then f_ (0<=e/\e<(S7 j:Int))<|(ZqM (j.getD e.toNat a_.d) t).bind λB=>bif B then f_ ((h++([e]:S5 Int)).length * 8<=140737488355328/\(h++([e]:S5 Int)).length<=maxLen)<|L2 g fu j o (n_ e 1) (h++([e]:S5 Int)) u t y else L2 g fu j o (n_ e 1) h u t y else(ZdZ h u t y).bind λA=>f_ (0<=(0:Int)/\(0:Int)<=(if(S7 h:Int)<(if(0:Int)>g then(0:Int)else g)then(S7 h:Int)else(if(0:Int)>g then(0:Int)else g))/\(if(S7 h:Int)<(if(0:Int)>g then(0:Int)else g)then(S7 h:Int)else(if(0:Int)>g then(0:Int)else g))<=(S7 h:Int))<|f_ ((if(S7 h:Int)<(if(0:Int)>g then(0:Int)else g)then(S7 h:Int)else(if(0:Int)>g then(0:Int)else g)).toNat<=S7 A)<|some (A.take ((if(S7 h:Int)<(if(0:Int)>g then(0:Int)else g)then(S7 h:Int)else(if(0:Int)>g then(0:Int)else g)).toNat))
abbrev yZ(b:S5 Int):Int:=(S7 b:Int)
abbrev DV(a:S5 Int)(b:Int):Int:=if(yZ a)<(if(0:Int)>b then(0:Int)else b)then(yZ a)else(if(0:Int)>b then(0:Int)else b)
abbrev zS:Nat × V:=(5,.one (.ptr 5 0))
theorem ZyN{e}:∀{y o t h g A B D},LH z Tryz.f364 qJ (L2 e y o t h g A B D) (ol 99999 3 1 ou (0:Int)) oH ⟨[(sV e),sQ,zS,Cb,(9,.one (.p8 9 g.length)),(12,(Yn o)),(13,(Yj t)),(14,(Yj h))],[(oj 9 3 1 ou (0:Int) g),(4,.box [cL 10 a_.c a_.d A]),(5,.box (Fp B)),(7,.box [.lit (.int .u64 D)])]⟩:=@qv _ kZ λF=>by intro o t h g A B D;exact kB (kN<|f'<|kB (kM 3 2 sP ([h]:S5 Int)<|kA 3 3 sP<|tA 17 [(25,9)] F) (kL 17 F)) (kD 1 2 [(100000,9)] [] λu=>kN<|kH (oW 0)<|uU λG=>kH (show (u.take ((DV g e).toNat)).length=(DV g e).toNat from(ZBL _ _ G))<|kH (show ∀i j,i<(DV g e).toNat->j<1->pw ou (0:Int) (u.take ((DV g e).toNat)) i j=pw ou (0:Int) u i j from(RD _ _))<|kX 1 ⟨[],[],[(1,[4,5,7])],[],[],[],[]⟩<|kX 2 (rA [(7,.c (u.take ((DV g e).toNat)).length (pw ou (0:Int) (u.take ((DV g e).toNat))))])<|r7 (oh [8] [8] [(8,99999)]) S_)
def E7(d:S5 a_)(e g h:Int):S6 (S5 Int):=L2 g (((S7 d:Int)-(0:Int)).toNat+2) d (S7 d:Int) (0:Int) ([]) d e h
instance{d e g h}:pC (E7 d e g h) (eH 364 [] [Yn d,Yj e,Yj g,.one (qT h)] Fz oH):=sE Tryz.func364 (rj 8 [] [] [] [] [(9,9,3,1,pw uf (0:Int) [])] [] ZyN)
instance{d e g j}:o0 (E7 d e g j) (eS 364 [Yn d,Yj e,Yj g,.one (qT j)] λr=>.one (zc r)):=o0.of λr h=>(show rX _ _ _ _ _ _ from pC.ok h).pure
def L7(A j:S5 Int)(o t:Int)(u:S5 Int)(bc:(S5 Int)->Int->Int->(S5 Int)->(S5 Bool)->S6 (S5 Int)):Nat->(S5 Int)->Int->Int->(S5 Int)->(S5 Bool)->S6 (S5 Int)|0,_,_,_,_,_=>S_|fu+1,e,h,d,y,g=>bif(decide (d<h))then f_ (0<=d/\d<(S7 e:Int))<|f_ (0<=d/\d<(S7 g:Int))<|bif(!(g.getD d.toNat Tm))then f_ ((y++([(e.getD d.toNat 0)]:S5 Int)).length * 8<=140737488355328/\(y++([(e.getD d.toNat 0)]:S5 Int)).length<=maxLen)<|L7 A j o t u bc fu e h (n_ d 1) (y++([(e.getD d.toNat 0)]:S5 Int)) g else L7 A j o t u bc fu e h (n_ d 1) y g else S8 y
abbrev wB:S5 Nat:=[1,1,1,0,1,0]
abbrev ace(a b:S5 Int)(c:S5 Bool)(f:S5 Int)(g h:Int):St:=⟨[(0,.one (zU a)),(5,.one (.p8 13 b.length)),(6,.one (.p8 16 c.length)),(17,.one (zU f)),(18,(Yj g)),(19,(Yj h))],[(oj 13 3 1 ou (0:Int) b),(oj 16 4 1 cB Tm c)]⟩
abbrev B':Type:=S5 Bool
theorem ZxG{I:sI}{D:sI}{H:sI}{bc:sI->Int->Int->sI->B'->S6 sI}(fv:∀{o t u d e},LH z Xy wB (bc o t u d e) Fw oH (ace I d e o t u)):∀{B h y j A g},LH z Xy DD (L7 I D F G H bc B h y j A g) (ol 99999 3 1 ou (0:Int)) oH ⟨[(5,.one (.p8 5 A.length)),(6,.one (.p8 16 g.length)),(27,.one (zU h)),(28,(Yj y)),(29,(Yj j))],[(oj 5 3 1 ou (0:Int) A),(oj 16 4 1 cB Tm g)]⟩:=@qv _ kZ λJ=>by intro h y j A g;exact kB (kN<|zl<|kB (kM 3 2 sP ([(yi h j)]:S5 Int)<|kA 3 3 sP<|tA 17 [(42,5)] J) (kL 17 J)) (r7 Fu S_)
def L6(o:S5 Int):Nat->(S5 Int)->Int->Int->(S5 Int)->(S5 Bool)->S6 (S5 Int)|0,_,_,_,_,_=>S_|fu+1,e,g,d,h,j=>bif(decide (d<g))then f_ (0<=d/\d<(S7 e:Int))<|f_ (0<=(e.getD d.toNat 0)/\(e.getD d.toNat 0)<(S7 j:Int))<|L6 o fu e g (n_ d 1) h (j.set ((e.getD d.toNat 0).toNat) Tl)else L7 o e g d h (L6 o fu) (((S7 o:Int)-(0:Int)).toNat+2) o (S7 o:Int) (0:Int) h j
theorem ZxH{t}:∀{o e j g h d},LH z Xy wB (L6 t o e j g h d) Fw oH (ace t h d e j g):=@qv _ kZ λu=>by intro e j g h d;exact kB (kN<|sB λy=>kW 2 3 eB d ((yi e g).toNat) Tl (ltOf y)<|kH (oW ((d.set ((yi e g).toNat) Tl).length))<|rj 14 [] [] [] [(16,((d.set ((yi e g).toNat) Tl).length))] [] [] u) (tA 10 [(13,5)] (ZxG u))
def Gy(d e:S5 Int):S6 (S5 Int):=f_ (0<=(0:Int)/\(0:Int)<=(S7 d:Int)/\(S7 d:Int)<=140737488355328/\(S7 d:Int) * 8<=140737488355328)<|f_ (0<=(S7 d:Int)/\(S7 d:Int)<=(S7 d:Int)/\(S7 d:Int)<=140737488355328/\(S7 d:Int) * 1<=140737488355328)<|L6 d (((S7 e:Int)-(0:Int)).toNat+2) e (S7 e:Int) (0:Int) [] (V6 (S7 d:Int).toNat Tm)
abbrev Iz(a:S5 Int):S5 Bool:=V6 (yZ a).toNat Tm
abbrev Fo:S5 Int:=([]:S5 Int)
instance{d e}:pC (Gy d e) (eH 363 [] [.one (zc d),.one (zc e)] Fz oH):=sE Tryz.func363 (kH (show (0:Int)=((0:Nat):Int)from rfl)<|uU λo1=>kH o1.2.1<|kH o1.2.2.1<|kH o1.2.2.2<|kH (show ∀i j,i<0->j<1->zJ (([.lit wo]:S5 C).getD j .oF) (pw uf (0:Int) [] i j)from(λi j h=>aFe h (Nat.not_lt_zero i)))<|uU λo2=>kH (show (yZ d)=(((yZ d).toNat:Nat):Int)from(Xw o2.1).symm)<|kH (show (((yZ d).toNat:Nat):Int)<=(yZ d)from(Int.le_trans (Int.le_of_eq (Xw o2.1)) o2.2.1))<|kH o2.2.2.1<|kH o2.2.2.2<|kH (show ∀i j,i<(yZ d).toNat->j<1->zJ (([.lit AO]:S5 C).getD j .oF) (pw cB Tm (Iz d) i j)from(R_ (λj hj=>.inl rfl) _))<|kH (show (Fo).length=0 from rfl)<|kH (show (Iz d).length=(yZ d).toNat from List.length_replicate)<|kX 1 (rA [(2,.c 0 (pw uf (0:Int) []))])<|kX 2 (rA [(2,.c ((yZ d).toNat) (pw cB Tm (Iz d)))])<|rj 10 [] [] [] [(13,((Fo).length)),(16,((Iz d).length))] [] [] ZxH)
end Go.Proofs.YtmcnjofonpkfmaaGreat
