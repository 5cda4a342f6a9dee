import Derived.Test.YtmcnjofonpkfmaaGreatHAmPy
open Bool renaming false->Tm
open List renaming length->S7
open Option renaming some->S8,none->S_
open Go.Proofs.Tryz renaming prog->W8,underlying3->WK,underlying22->Xa,underlying4->WJ,underlying160->Xb,underlying136->Xc,underlying59->Xd,underlying57->Xe,underlying45->Xf,underlying43->Xg,underlying42->Xh,underlying41->Xi,underlying39->Xj,underlying37->Xk,underlying35->Xl,underlying26->Xm,underlying24->Xn
namespace Go.Proofs.YtmcnjofonpkfmaaGreat
open Go.RowKit Go.Lib Go.Shelf
set_option linter.unusedVariables false
set_option maxRecDepth 100000
abbrev oe(x y:S5 Nat):NA:=⟨[],[],[],[],[],x,y,[]⟩
abbrev og(b:S5 (Nat×S5 (Nat×C)))(x y:S5 Nat):NA:=⟨[],b,[],[],[],x,y,[]⟩
abbrev oh(x y:S5 Nat)(z:S5 (Nat×Nat)):NA:=⟨[],[],[],[],[],x,y,z⟩
abbrev oj{α:Type}(n:Nat)(t s:Nat)(e:α->S5 C)(d:α)(l:S5 α):Nat×B:=(n,.rows t s l.length (pw e d l))
abbrev oq(f a b:Nat)(x y:S5 C):C:=.qs (.func f) a b (λi=>x.getD i .oF) (λi=>y.getD i .oF)
abbrev ot(x:S5 C):C:=.rp Tm x.length (λj=>x.getD (0+j) .oF)
abbrev ou:=cI .i64
variable{pa pb pc pd pe pf pg ph pi pj:Prop}{l o_:S5 Prop}{st:St}{α R ρ:Type}{N f t:Nat}{S0:Nat->Prop}{w0:t_}{is:S5 It}{vr:R->V}{h0:S5 (Nat×B)}{args:S5 V}{acc:S5 Ev}{v:ρ->V}{e:α->S5 C}{r:α}{x:S6 α}
theorem ow(a:pa):sx [pa]:=(.c a .n)
theorem oJ(z:sx l)(a:pa):sx (l++[pa]):=z.app (ow a)
theorem oy(a:pa)(b:pb):sx [pa,pb]:=(.c a (.c b .n))
theorem oK(z:sx l)(a:pa)(b:pb):sx (l++[pa,pb]):=z.app (oy a b)
theorem oz(a:pa)(b:pb)(c:pc):sx [pa,pb,pc]:=(.c a (.c b (.c c .n)))
theorem oL(z:sx l)(a:pa)(b:pb)(c:pc):sx (l++[pa,pb,pc]):=z.app (oz a b c)
theorem oA(a:pa)(b:pb)(c:pc)(d:pd):sx [pa,pb,pc,pd]:=(.c a (.c b (.c c (.c d .n))))
theorem oB(a:pa)(b:pb)(c:pc)(d:pd)(e:pe):sx [pa,pb,pc,pd,pe]:=(.c a (.c b (.c c (.c d (.c e .n)))))
theorem oN(z:sx l)(a:pa)(b:pb)(c:pc)(d:pd)(e:pe):sx (l++[pa,pb,pc,pd,pe]):=z.app (oB a b c d e)
theorem oC(a:pa)(b:pb)(c:pc)(d:pd)(e:pe)(f:pf):sx [pa,pb,pc,pd,pe,pf]:=(.c a (.c b (.c c (.c d (.c e (.c f .n))))))
theorem oO(z:sx l)(a:pa)(b:pb)(c:pc)(d:pd)(e:pe)(f:pf):sx (l++[pa,pb,pc,pd,pe,pf]):=z.app (oC a b c d e f)
theorem oE(a:pa)(b:pb)(c:pc)(d:pd)(e:pe)(f:pf)(g:pg)(h:ph):sx [pa,pb,pc,pd,pe,pf,pg,ph]:=(.c a (.c b (.c c (.c d (.c e (.c f (.c g (.c h .n))))))))
theorem oQ(z:sx l)(a:pa)(b:pb)(c:pc)(d:pd)(e:pe)(f:pf)(g:pg)(h:ph):sx (l++[pa,pb,pc,pd,pe,pf,pg,ph]):=z.app (oE a b c d e f g h)
theorem oG(a:pa)(b:pb)(c:pc)(d:pd)(e:pe)(f:pf)(g:pg)(h:ph)(i:pi)(j:pj):sx [pa,pb,pc,pd,pe,pf,pg,ph,pi,pj]:=(.c a (.c b (.c c (.c d (.c e (.c f (.c g (.c h (.c i (.c j .n))))))))))
theorem oS(z:sx l)(a:pa)(b:pb)(c:pc)(d:pd)(e:pe)(f:pf)(g:pg)(h:ph)(i:pi)(j:pj):sx (l++[pa,pb,pc,pd,pe,pf,pg,ph,pi,pj]):=z.app (oG a b c d e f g h i j)
theorem oU(d:α)(sz:Nat)(he:∀x,(e x).length=sz)(l:S5 α):S7 l=S7 l/\∀i j,i<S7 l->j<sz->pw e d l i j=(l.flatMap e).getD (i * sz+j) .oF:=⟨rfl,λi j hi hj=>vJ he l i j hi hj⟩
theorem oX(d:α)(sz:Nat)(he:∀x,(e x).length=sz)(l:S5 α):∀i j,i<S7 l->j<sz->pw e d l i j=(l.flatMap e).getD (i * sz+j) .oF:=λi j hi hj=>vJ he l i j hi hj
theorem oW(a:α):a=a:=rfl
theorem oY(x:Int)(h:decide (0<=x)=true):0<=x:=aFq h
variable {z:Zw}
structure rY where
 qW:Int
 p_:Int
 qo:Int
 tE:Int
 deriving DecidableEq
def rY.d:rY:=⟨(0:Int),(0:Int),(0:Int),(0:Int)⟩
def rY.c(a:rY):S5 C:=[.lit (.int .i64 a.qW),.lit (.int .i64 a.p_),.lit (.int .i64 a.qo),.lit (.int .i64 a.tE)]
def rY.E:Ec rY:=⟨4,rY.c,rY.d⟩
def rY.ok(a:rY):Prop:=(rn .i64) a.qW/\(rn .i64) a.p_/\(rn .i64) a.qo/\(rn .i64) a.tE/\True
theorem ZCj:AH W8 24 rY.c rY.ok:=E2 (ea:=(cP (cI .i64) (cP (cI .i64) (cP (cI .i64) (cP (cI .i64) cU))))) (oa:=(tF (rn .i64) (tF (rn .i64) (tF (rn .i64) (tF (rn .i64) D7))))) (N:=4) Xn (by kernel_rfl) (tM (sz:=1) rfl rfl (by kernel_rfl) (vI WK) (tM (sz:=1) rfl rfl (by kernel_rfl) (vI WK) (tM (sz:=1) rfl rfl (by kernel_rfl) (vI WK) (tM (sz:=1) rfl rfl (by kernel_rfl) (vI WK) EU)))) (λ(a:Int×Int×Int×Int×Unit)=>(⟨a.1,a.2.1,a.2.2.1,a.2.2.2.1⟩ : rY)) (λ_=>rfl) (λ_ h=>h)
structure p5 where
 rf:Int
 rW:Int
 e_:Int
 qc:Int
 qq:Int
 pX:Int
 qu:rY
 uM:Int
 rS:Int
 sn:Int
 vY:Int
 z8:Int
 qV:Int
 deriving DecidableEq
def p5.d:p5:=⟨(0:Int),(0:Int),(0:Int),(0:Int),(0:Int),(0:Int),rY.d,(0:Int),(0:Int),(0:Int),(0:Int),(0:Int),(0:Int)⟩
def p5.c(a:p5):S5 C:=[.lit (.int .i64 a.rf),.lit (.int .i64 a.rW),.lit (.int .i64 a.e_),.lit (.int .i64 a.qc),.lit (.int .i64 a.qq),.lit (.int .u64 a.pX),.lit (.int .i64 a.qu.qW),.lit (.int .i64 a.qu.p_),.lit (.int .i64 a.qu.qo),.lit (.int .i64 a.qu.tE),.lit (.int .i64 a.uM),.lit (.int .i64 a.rS),.lit (.int .i64 a.sn),.lit (.int .i64 a.vY),.lit (.int .i64 a.z8),.lit (.int .i64 a.qV)]
def p5.E:Ec p5:=⟨16,p5.c,p5.d⟩
def p5.ok(a:p5):Prop:=(rn .i64) a.rf/\(rn .i64) a.rW/\(rn .i64) a.e_/\(rn .i64) a.qc/\(rn .i64) a.qq/\(rn .u64) a.pX/\rY.ok a.qu/\(rn .i64) a.uM/\(rn .i64) a.rS/\(rn .i64) a.sn/\(rn .i64) a.vY/\(rn .i64) a.z8/\(rn .i64) a.qV/\True
theorem ZDC:AH W8 26 p5.c p5.ok:=E2 (ea:=(cP (cI .i64) (cP (cI .i64) (cP (cI .i64) (cP (cI .i64) (cP (cI .i64) (cP (cI .u64) (cP rY.c (cP (cI .i64) (cP (cI .i64) (cP (cI .i64) (cP (cI .i64) (cP (cI .i64) (cP (cI .i64) cU)))))))))))))) (oa:=(tF (rn .i64) (tF (rn .i64) (tF (rn .i64) (tF (rn .i64) (tF (rn .i64) (tF (rn .u64) (tF rY.ok (tF (rn .i64) (tF (rn .i64) (tF (rn .i64) (tF (rn .i64) (tF (rn .i64) (tF (rn .i64) D7)))))))))))))) (N:=16) Xm (by kernel_rfl) (tM (sz:=1) rfl rfl (by kernel_rfl) (vI WK) (tM (sz:=1) rfl rfl (by kernel_rfl) (vI WK) (tM (sz:=1) rfl rfl (by kernel_rfl) (vI WK) (tM (sz:=1) rfl rfl (by kernel_rfl) (vI WK) (tM (sz:=1) rfl rfl (by kernel_rfl) (vI WK) (tM (sz:=1) rfl rfl (by kernel_rfl) (vI Xa) (tM (sz:=4) rfl rfl (by kernel_rfl) ZCj (tM (sz:=1) rfl rfl (by kernel_rfl) (vI WK) (tM (sz:=1) rfl rfl (by kernel_rfl) (vI WK) (tM (sz:=1) rfl rfl (by kernel_rfl) (vI WK) (tM (sz:=1) rfl rfl (by kernel_rfl) (vI WK) (tM (sz:=1) rfl rfl (by kernel_rfl) (vI WK) (tM (sz:=1) rfl rfl (by kernel_rfl) (vI WK) EU))))))))))))) (λ(a:Int×Int×Int×Int×Int×Int×rY×Int×Int×Int×Int×Int×Int×Unit)=>(⟨a.1,a.2.1,a.2.2.1,a.2.2.2.1,a.2.2.2.2.1,a.2.2.2.2.2.1,a.2.2.2.2.2.2.1,a.2.2.2.2.2.2.2.1,a.2.2.2.2.2.2.2.2.1,a.2.2.2.2.2.2.2.2.2.1,a.2.2.2.2.2.2.2.2.2.2.1,a.2.2.2.2.2.2.2.2.2.2.2.1,a.2.2.2.2.2.2.2.2.2.2.2.2.1⟩ : p5)) (λ_=>rfl) (λ_ h=>h)
structure oV where
 qt:Bool
 rk:Int
 qX:Int
 deriving DecidableEq
def oV.d:oV:=⟨Tm,(0:Int),(0:Int)⟩
def oV.c(a:oV):S5 C:=[.lit (.bool a.qt),.lit (.int .u64 a.rk),.lit (.int .u64 a.qX)]
def oV.E:Ec oV:=⟨3,oV.c,oV.d⟩
def oV.ok(a:oV):Prop:=okB a.qt/\(rn .u64) a.rk/\(rn .u64) a.qX/\True
theorem Zxn:AH W8 35 oV.c oV.ok:=E2 (ea:=(cP cB (cP (cI .u64) (cP (cI .u64) cU)))) (oa:=(tF okB (tF (rn .u64) (tF (rn .u64) D7)))) (N:=3) Xl (by kernel_rfl) (tM (sz:=1) rfl rfl (by kernel_rfl) (ZFO WJ) (tM (sz:=1) rfl rfl (by kernel_rfl) (vI Xa) (tM (sz:=1) rfl rfl (by kernel_rfl) (vI Xa) EU))) (λ(a:Bool×Int×Int×Unit)=>(⟨a.1,a.2.1,a.2.2.1⟩ : oV)) (λ_=>rfl) (λ_ h=>h)
structure l_ where
 b_:oV
 qE:Int
 deriving DecidableEq
def l_.d:l_:=⟨oV.d,(0:Int)⟩
def l_.c(a:l_):S5 C:=[.lit (.bool a.b_.qt),.lit (.int .u64 a.b_.rk),.lit (.int .u64 a.b_.qX),.lit (.int .i64 a.qE)]
def l_.E:Ec l_:=⟨4,l_.c,l_.d⟩
def l_.ok(a:l_):Prop:=oV.ok a.b_/\(rn .i64) a.qE/\True
theorem Zus:AH W8 37 l_.c l_.ok:=E2 (ea:=(cP oV.c (cP (cI .i64) cU))) (oa:=(tF oV.ok (tF (rn .i64) D7))) (N:=4) Xk (by kernel_rfl) (tM (sz:=3) rfl rfl (by kernel_rfl) Zxn (tM (sz:=1) rfl rfl (by kernel_rfl) (vI WK) EU)) (λ(a:oV×Int×Unit)=>(⟨a.1,a.2.1⟩ : l_)) (λ_=>rfl) (λ_ h=>h)
structure pn where
 b_:oV
 oR:Int
 deriving DecidableEq
def pn.d:pn:=⟨oV.d,(0:Int)⟩
def pn.c(a:pn):S5 C:=[.lit (.bool a.b_.qt),.lit (.int .u64 a.b_.rk),.lit (.int .u64 a.b_.qX),.lit (.int .i64 a.oR)]
def pn.E:Ec pn:=⟨4,pn.c,pn.d⟩
def pn.ok(a:pn):Prop:=oV.ok a.b_/\(rn .i64) a.oR/\True
theorem Zyv:AH W8 57 pn.c pn.ok:=E2 (ea:=(cP oV.c (cP (cI .i64) cU))) (oa:=(tF oV.ok (tF (rn .i64) D7))) (N:=4) Xe (by kernel_rfl) (tM (sz:=3) rfl rfl (by kernel_rfl) Zxn (tM (sz:=1) rfl rfl (by kernel_rfl) (vI WK) EU)) (λ(a:oV×Int×Unit)=>(⟨a.1,a.2.1⟩ : pn)) (λ_=>rfl) (λ_ h=>h)
structure pD where
 d_:Int
 c_:l_
 g_:pn
 pE:Int
 qz:Int
 uq:Bool
 deriving DecidableEq
def pD.d:pD:=⟨(0:Int),l_.d,pn.d,(0:Int),(0:Int),Tm⟩
def pD.c(a:pD):S5 C:=[.lit (.int .i64 a.d_),.lit (.bool a.c_.b_.qt),.lit (.int .u64 a.c_.b_.rk),.lit (.int .u64 a.c_.b_.qX),.lit (.int .i64 a.c_.qE),.lit (.bool a.g_.b_.qt),.lit (.int .u64 a.g_.b_.rk),.lit (.int .u64 a.g_.b_.qX),.lit (.int .i64 a.g_.oR),.lit (.int .i64 a.pE),.lit (.int .i64 a.qz),.lit (.bool a.uq)]
def pD.E:Ec pD:=⟨12,pD.c,pD.d⟩
def pD.ok(a:pD):Prop:=(rn .i64) a.d_/\l_.ok a.c_/\pn.ok a.g_/\(rn .i64) a.pE/\(rn .i64) a.qz/\okB a.uq/\True
theorem ZDD:AH W8 59 pD.c pD.ok:=E2 (ea:=(cP (cI .i64) (cP l_.c (cP pn.c (cP (cI .i64) (cP (cI .i64) (cP cB cU))))))) (oa:=(tF (rn .i64) (tF l_.ok (tF pn.ok (tF (rn .i64) (tF (rn .i64) (tF okB D7))))))) (N:=12) Xd (by kernel_rfl) (tM (sz:=1) rfl rfl (by kernel_rfl) (vI WK) (tM (sz:=4) rfl rfl (by kernel_rfl) Zus (tM (sz:=4) rfl rfl (by kernel_rfl) Zyv (tM (sz:=1) rfl rfl (by kernel_rfl) (vI WK) (tM (sz:=1) rfl rfl (by kernel_rfl) (vI WK) (tM (sz:=1) rfl rfl (by kernel_rfl) (ZFO WJ) EU)))))) (λ(a:Int×l_×pn×Int×Int×Bool×Unit)=>(⟨a.1,a.2.1,a.2.2.1,a.2.2.2.1,a.2.2.2.2.1,a.2.2.2.2.2.1⟩ : pD)) (λ_=>rfl) (λ_ h=>h)
structure pW where
 pB:Int
 tZ:Int
 deriving DecidableEq
def pW.d:pW:=⟨(0:Int),(0:Int)⟩
def pW.c(a:pW):S5 C:=[.lit (.int .i64 a.pB),.lit (.int .i64 a.tZ)]
def pW.E:Ec pW:=⟨2,pW.c,pW.d⟩
def pW.ok(a:pW):Prop:=(rn .i64) a.pB/\(rn .i64) a.tZ/\True
theorem ZCi:AH W8 39 pW.c pW.ok:=E2 (ea:=(cP (cI .i64) (cP (cI .i64) cU))) (oa:=(tF (rn .i64) (tF (rn .i64) D7))) (N:=2) Xj (by kernel_rfl) (tM (sz:=1) rfl rfl (by kernel_rfl) (vI WK) (tM (sz:=1) rfl rfl (by kernel_rfl) (vI WK) EU)) (λ(a:Int×Int×Unit)=>(⟨a.1,a.2.1⟩ : pW)) (λ_=>rfl) (λ_ h=>h)
structure a_ where
 c_:l_
 tL:Bool
 pK:Int
 qa:pW
 p_:Int
 qo:Int
 deriving DecidableEq
def a_.d:a_:=⟨l_.d,Tm,(0:Int),pW.d,(0:Int),(0:Int)⟩
def a_.c(a:a_):S5 C:=[.lit (.bool a.c_.b_.qt),.lit (.int .u64 a.c_.b_.rk),.lit (.int .u64 a.c_.b_.qX),.lit (.int .i64 a.c_.qE),.lit (.bool a.tL),.lit (.int .i64 a.pK),.lit (.int .i64 a.qa.pB),.lit (.int .i64 a.qa.tZ),.lit (.int .i64 a.p_),.lit (.int .i64 a.qo)]
def a_.E:Ec a_:=⟨10,a_.c,a_.d⟩
def a_.ok(a:a_):Prop:=l_.ok a.c_/\okB a.tL/\(rn .i64) a.pK/\pW.ok a.qa/\(rn .i64) a.p_/\(rn .i64) a.qo/\True
theorem ZDB:AH W8 41 a_.c a_.ok:=E2 (ea:=(cP l_.c (cP cB (cP (cI .i64) (cP pW.c (cP (cI .i64) (cP (cI .i64) cU))))))) (oa:=(tF l_.ok (tF okB (tF (rn .i64) (tF pW.ok (tF (rn .i64) (tF (rn .i64) D7))))))) (N:=10) Xi (by kernel_rfl) (tM (sz:=4) rfl rfl (by kernel_rfl) Zus (tM (sz:=1) rfl rfl (by kernel_rfl) (ZFO WJ) (tM (sz:=1) rfl rfl (by kernel_rfl) (vI WK) (tM (sz:=2) rfl rfl (by kernel_rfl) ZCi (tM (sz:=1) rfl rfl (by kernel_rfl) (vI WK) (tM (sz:=1) rfl rfl (by kernel_rfl) (vI WK) EU)))))) (λ(a:l_×Bool×Int×pW×Int×Int×Unit)=>(⟨a.1,a.2.1,a.2.2.1,a.2.2.2.1,a.2.2.2.2.1,a.2.2.2.2.2.1⟩ : a_)) (λ_=>rfl) (λ_ h=>h)
structure oD where
 g_:pn
 pq:Int
 deriving DecidableEq
def oD.d:oD:=⟨pn.d,(0:Int)⟩
def oD.c(a:oD):S5 C:=[.lit (.bool a.g_.b_.qt),.lit (.int .u64 a.g_.b_.rk),.lit (.int .u64 a.g_.b_.qX),.lit (.int .i64 a.g_.oR),.lit (.int .i64 a.pq)]
def oD.E:Ec oD:=⟨5,oD.c,oD.d⟩
def oD.ok(a:oD):Prop:=pn.ok a.g_/\(rn .i64) a.pq/\True
theorem ZFP:AH W8 136 oD.c oD.ok:=E2 (ea:=(cP pn.c (cP (cI .i64) cU))) (oa:=(tF pn.ok (tF (rn .i64) D7))) (N:=5) Xc (by kernel_rfl) (tM (sz:=4) rfl rfl (by kernel_rfl) Zyv (tM (sz:=1) rfl rfl (by kernel_rfl) (vI WK) EU)) (λ(a:pn×Int×Unit)=>(⟨a.1,a.2.1⟩ : oD)) (λ_=>rfl) (λ_ h=>h)
structure k_ where
 c_:l_
 ql:Int
 p6:Int
 pS:Int
 deriving DecidableEq
def k_.d:k_:=⟨l_.d,(0:Int),(0:Int),(0:Int)⟩
def k_.c(a:k_):S5 C:=[.lit (.bool a.c_.b_.qt),.lit (.int .u64 a.c_.b_.rk),.lit (.int .u64 a.c_.b_.qX),.lit (.int .i64 a.c_.qE),.lit (.int .i64 a.ql),.lit (.int .i64 a.p6),.lit (.int .i64 a.pS)]
def k_.E:Ec k_:=⟨7,k_.c,k_.d⟩
def k_.ok(a:k_):Prop:=l_.ok a.c_/\(rn .i64) a.ql/\(rn .i64) a.p6/\(rn .i64) a.pS/\True
theorem ZCk:AH W8 160 k_.c k_.ok:=E2 (ea:=(cP l_.c (cP (cI .i64) (cP (cI .i64) (cP (cI .i64) cU))))) (oa:=(tF l_.ok (tF (rn .i64) (tF (rn .i64) (tF (rn .i64) D7))))) (N:=7) Xb (by kernel_rfl) (tM (sz:=4) rfl rfl (by kernel_rfl) Zus (tM (sz:=1) rfl rfl (by kernel_rfl) (vI WK) (tM (sz:=1) rfl rfl (by kernel_rfl) (vI WK) (tM (sz:=1) rfl rfl (by kernel_rfl) (vI WK) EU)))) (λ(a:l_×Int×Int×Int×Unit)=>(⟨a.1,a.2.1,a.2.2.1,a.2.2.2.1⟩ : k_)) (λ_=>rfl) (λ_ h=>h)
structure oM where
 fN:Int
 pN:a_
 po:(List oD)
 j_:(List k_)
def oM.d:oM:=⟨(0:Int),a_.d,([]:(S5 oD)),([]:(S5 k_))⟩
def oM.c(a:oM):S5 C:=[.lit (.int .i64 a.fN),.lit (.bool a.pN.c_.b_.qt),.lit (.int .u64 a.pN.c_.b_.rk),.lit (.int .u64 a.pN.c_.b_.qX),.lit (.int .i64 a.pN.c_.qE),.lit (.bool a.pN.tL),.lit (.int .i64 a.pN.pK),.lit (.int .i64 a.pN.qa.pB),.lit (.int .i64 a.pN.qa.tZ),.lit (.int .i64 a.pN.p_),.lit (.int .i64 a.pN.qo),cL 5 oD.c oD.d a.po,cL 7 k_.c k_.d a.j_]
def oM.E:Ec oM:=⟨13,oM.c,oM.d⟩
def oM.ok(a:oM):Prop:=(rn .i64) a.fN/\a_.ok a.pN/\(zA oD.ok) a.po/\(zA k_.ok) a.j_/\True
theorem ZCh:AH W8 45 oM.c oM.ok:=E2 (ea:=(cP (cI .i64) (cP a_.c (cP (wa 5 oD.c oD.d) (cP (wa 7 k_.c k_.d) cU))))) (oa:=(tF (rn .i64) (tF a_.ok (tF (zA oD.ok) (tF (zA k_.ok) D7))))) (N:=13) Xf (by kernel_rfl) (tM (sz:=1) rfl rfl (by kernel_rfl) (vI WK) (tM (sz:=10) rfl rfl (by kernel_rfl) ZDB (tM (sz:=1) rfl rfl (by kernel_rfl) (Zyu (d:=oD.d) Xh (by kernel_rfl) (by decide) (λ_=>rfl) ZFP) (tM (sz:=1) rfl rfl (by kernel_rfl) (Zyu (d:=k_.d) Xg (by kernel_rfl) (by decide) (λ_=>rfl) ZCk) EU)))) (λ(a:Int×a_×(S5 oD)×(S5 k_)×Unit)=>(⟨a.1,a.2.1,a.2.2.1,a.2.2.2.1⟩ : oM)) (λ_=>rfl) (λ_ h=>h)
structure pM where
 d_:Int
 uZ:Int
 yy:Int
 deriving DecidableEq
def pM.d:pM:=⟨(0:Int),(0:Int),(0:Int)⟩
def pM.c(a:pM):S5 C:=[.lit (.int .i64 a.d_),.lit (.int .i64 a.uZ),.lit (.int .i64 a.yy)]
def pM.E:Ec pM:=⟨3,pM.c,pM.d⟩
def pM.ok(a:pM):Prop:=(rn .i64) a.d_/\(rn .i64) a.uZ/\(rn .i64) a.yy/\True
structure pU where
 d_:Int
 tT:Int
 s6:pM
 wI:Int
 wJ:Int
 qL:oM
 rV:Bool
def pU.d:pU:=⟨(0:Int),(0:Int),pM.d,(0:Int),(0:Int),oM.d,Tm⟩
def pU.c(a:pU):S5 C:=[.lit (.int .i64 a.d_),.lit (.int .i64 a.tT),.lit (.int .i64 a.s6.d_),.lit (.int .i64 a.s6.uZ),.lit (.int .i64 a.s6.yy),.lit (.int .i64 a.wI),.lit (.int .i64 a.wJ),.lit (.int .i64 a.qL.fN),.lit (.bool a.qL.pN.c_.b_.qt),.lit (.int .u64 a.qL.pN.c_.b_.rk),.lit (.int .u64 a.qL.pN.c_.b_.qX),.lit (.int .i64 a.qL.pN.c_.qE),.lit (.bool a.qL.pN.tL),.lit (.int .i64 a.qL.pN.pK),.lit (.int .i64 a.qL.pN.qa.pB),.lit (.int .i64 a.qL.pN.qa.tZ),.lit (.int .i64 a.qL.pN.p_),.lit (.int .i64 a.qL.pN.qo),cL 5 oD.c oD.d a.qL.po,cL 7 k_.c k_.d a.qL.j_,.lit (.bool a.rV)]
def pU.E:Ec pU:=⟨21,pU.c,pU.d⟩
def pU.ok(a:pU):Prop:=(rn .i64) a.d_/\(rn .i64) a.tT/\pM.ok a.s6/\(rn .i64) a.wI/\(rn .i64) a.wJ/\oM.ok a.qL/\okB a.rV/\True
structure pz where
 qm:(List oM)
 tZ:Int
 s':pU
 qQ:Bool
def pz.d:pz:=⟨([]:(S5 oM)),(0:Int),pU.d,Tm⟩
def pz.c(a:pz):S5 C:=[cL 13 oM.c oM.d a.qm,.lit (.int .i64 a.tZ),.lit (.int .i64 a.s'.d_),.lit (.int .i64 a.s'.tT),.lit (.int .i64 a.s'.s6.d_),.lit (.int .i64 a.s'.s6.uZ),.lit (.int .i64 a.s'.s6.yy),.lit (.int .i64 a.s'.wI),.lit (.int .i64 a.s'.wJ),.lit (.int .i64 a.s'.qL.fN),.lit (.bool a.s'.qL.pN.c_.b_.qt),.lit (.int .u64 a.s'.qL.pN.c_.b_.rk),.lit (.int .u64 a.s'.qL.pN.c_.b_.qX),.lit (.int .i64 a.s'.qL.pN.c_.qE),.lit (.bool a.s'.qL.pN.tL),.lit (.int .i64 a.s'.qL.pN.pK),.lit (.int .i64 a.s'.qL.pN.qa.pB),.lit (.int .i64 a.s'.qL.pN.qa.tZ),.lit (.int .i64 a.s'.qL.pN.p_),.lit (.int .i64 a.s'.qL.pN.qo),cL 5 oD.c oD.d a.s'.qL.po,cL 7 k_.c k_.d a.s'.qL.j_,.lit (.bool a.s'.rV),.lit (.bool a.qQ)]
def pz.E:Ec pz:=⟨24,pz.c,pz.d⟩
def pz.ok(a:pz):Prop:=(zA oM.ok) a.qm/\(rn .i64) a.tZ/\pU.ok a.s'/\okB a.qQ/\True
structure oZ where
 vX:Int
 c_:l_
 fN:Int
 pq:Int
 pG:(List a_)
def oZ.d:oZ:=⟨(0:Int),l_.d,(0:Int),(0:Int),([]:(S5 a_))⟩
def oZ.c(a:oZ):S5 C:=[.lit (.int .i64 a.vX),.lit (.bool a.c_.b_.qt),.lit (.int .u64 a.c_.b_.rk),.lit (.int .u64 a.c_.b_.qX),.lit (.int .i64 a.c_.qE),.lit (.int .i64 a.fN),.lit (.int .i64 a.pq),cL 10 a_.c a_.d a.pG]
def oZ.E:Ec oZ:=⟨8,oZ.c,oZ.d⟩
def oZ.ok(a:oZ):Prop:=(rn .i64) a.vX/\l_.ok a.c_/\(rn .i64) a.fN/\(rn .i64) a.pq/\(zA a_.ok) a.pG/\True
structure s8 where
 s':pU
 ss:oZ
 zx:Bool
 qC:Bool
def s8.d:s8:=⟨pU.d,oZ.d,Tm,Tm⟩
def s8.c(a:s8):S5 C:=[.lit (.int .i64 a.s'.d_),.lit (.int .i64 a.s'.tT),.lit (.int .i64 a.s'.s6.d_),.lit (.int .i64 a.s'.s6.uZ),.lit (.int .i64 a.s'.s6.yy),.lit (.int .i64 a.s'.wI),.lit (.int .i64 a.s'.wJ),.lit (.int .i64 a.s'.qL.fN),.lit (.bool a.s'.qL.pN.c_.b_.qt),.lit (.int .u64 a.s'.qL.pN.c_.b_.rk),.lit (.int .u64 a.s'.qL.pN.c_.b_.qX),.lit (.int .i64 a.s'.qL.pN.c_.qE),.lit (.bool a.s'.qL.pN.tL),.lit (.int .i64 a.s'.qL.pN.pK),.lit (.int .i64 a.s'.qL.pN.qa.pB),.lit (.int .i64 a.s'.qL.pN.qa.tZ),.lit (.int .i64 a.s'.qL.pN.p_),.lit (.int .i64 a.s'.qL.pN.qo),cL 5 oD.c oD.d a.s'.qL.po,cL 7 k_.c k_.d a.s'.qL.j_,.lit (.bool a.s'.rV),.lit (.int .i64 a.ss.vX),.lit (.bool a.ss.c_.b_.qt),.lit (.int .u64 a.ss.c_.b_.rk),.lit (.int .u64 a.ss.c_.b_.qX),.lit (.int .i64 a.ss.c_.qE),.lit (.int .i64 a.ss.fN),.lit (.int .i64 a.ss.pq),cL 10 a_.c a_.d a.ss.pG,.lit (.bool a.zx),.lit (.bool a.qC)]
def s8.E:Ec s8:=⟨31,s8.c,s8.d⟩
def s8.ok(a:s8):Prop:=pU.ok a.s'/\oZ.ok a.ss/\okB a.zx/\okB a.qC/\True
structure uS where
 fc:p5
 fx:pD
 deriving DecidableEq
def uS.d:uS:=⟨p5.d,pD.d⟩
def uS.c(a:uS):S5 C:=[.lit (.int .i64 a.fc.rf),.lit (.int .i64 a.fc.rW),.lit (.int .i64 a.fc.e_),.lit (.int .i64 a.fc.qc),.lit (.int .i64 a.fc.qq),.lit (.int .u64 a.fc.pX),.lit (.int .i64 a.fc.qu.qW),.lit (.int .i64 a.fc.qu.p_),.lit (.int .i64 a.fc.qu.qo),.lit (.int .i64 a.fc.qu.tE),.lit (.int .i64 a.fc.uM),.lit (.int .i64 a.fc.rS),.lit (.int .i64 a.fc.sn),.lit (.int .i64 a.fc.vY),.lit (.int .i64 a.fc.z8),.lit (.int .i64 a.fc.qV),.lit (.int .i64 a.fx.d_),.lit (.bool a.fx.c_.b_.qt),.lit (.int .u64 a.fx.c_.b_.rk),.lit (.int .u64 a.fx.c_.b_.qX),.lit (.int .i64 a.fx.c_.qE),.lit (.bool a.fx.g_.b_.qt),.lit (.int .u64 a.fx.g_.b_.rk),.lit (.int .u64 a.fx.g_.b_.qX),.lit (.int .i64 a.fx.g_.oR),.lit (.int .i64 a.fx.pE),.lit (.int .i64 a.fx.qz),.lit (.bool a.fx.uq)]
def uS.E:Ec uS:=⟨28,uS.c,uS.d⟩
def uS.ok(a:uS):Prop:=p5.ok a.fc/\pD.ok a.fx/\True
structure sM where
 fc:p5
 fx:pD
 deriving DecidableEq
def sM.d:sM:=⟨p5.d,pD.d⟩
def sM.c(a:sM):S5 C:=[.lit (.int .i64 a.fc.rf),.lit (.int .i64 a.fc.rW),.lit (.int .i64 a.fc.e_),.lit (.int .i64 a.fc.qc),.lit (.int .i64 a.fc.qq),.lit (.int .u64 a.fc.pX),.lit (.int .i64 a.fc.qu.qW),.lit (.int .i64 a.fc.qu.p_),.lit (.int .i64 a.fc.qu.qo),.lit (.int .i64 a.fc.qu.tE),.lit (.int .i64 a.fc.uM),.lit (.int .i64 a.fc.rS),.lit (.int .i64 a.fc.sn),.lit (.int .i64 a.fc.vY),.lit (.int .i64 a.fc.z8),.lit (.int .i64 a.fc.qV),.lit (.int .i64 a.fx.d_),.lit (.bool a.fx.c_.b_.qt),.lit (.int .u64 a.fx.c_.b_.rk),.lit (.int .u64 a.fx.c_.b_.qX),.lit (.int .i64 a.fx.c_.qE),.lit (.bool a.fx.g_.b_.qt),.lit (.int .u64 a.fx.g_.b_.rk),.lit (.int .u64 a.fx.g_.b_.qX),.lit (.int .i64 a.fx.g_.oR),.lit (.int .i64 a.fx.pE),.lit (.int .i64 a.fx.qz),.lit (.bool a.fx.uq)]
def sM.E:Ec sM:=⟨28,sM.c,sM.d⟩
def sM.ok(a:sM):Prop:=p5.ok a.fc/\pD.ok a.fx/\True
structure sq where
 fc:p5
 fx:pD
 deriving DecidableEq
def sq.d:sq:=⟨p5.d,pD.d⟩
def sq.c(a:sq):S5 C:=[.lit (.int .i64 a.fc.rf),.lit (.int .i64 a.fc.rW),.lit (.int .i64 a.fc.e_),.lit (.int .i64 a.fc.qc),.lit (.int .i64 a.fc.qq),.lit (.int .u64 a.fc.pX),.lit (.int .i64 a.fc.qu.qW),.lit (.int .i64 a.fc.qu.p_),.lit (.int .i64 a.fc.qu.qo),.lit (.int .i64 a.fc.qu.tE),.lit (.int .i64 a.fc.uM),.lit (.int .i64 a.fc.rS),.lit (.int .i64 a.fc.sn),.lit (.int .i64 a.fc.vY),.lit (.int .i64 a.fc.z8),.lit (.int .i64 a.fc.qV),.lit (.int .i64 a.fx.d_),.lit (.bool a.fx.c_.b_.qt),.lit (.int .u64 a.fx.c_.b_.rk),.lit (.int .u64 a.fx.c_.b_.qX),.lit (.int .i64 a.fx.c_.qE),.lit (.bool a.fx.g_.b_.qt),.lit (.int .u64 a.fx.g_.b_.rk),.lit (.int .u64 a.fx.g_.b_.qX),.lit (.int .i64 a.fx.g_.oR),.lit (.int .i64 a.fx.pE),.lit (.int .i64 a.fx.qz),.lit (.bool a.fx.uq)]
def sq.E:Ec sq:=⟨28,sq.c,sq.d⟩
def sq.ok(a:sq):Prop:=p5.ok a.fc/\pD.ok a.fx/\True
inductive xk where
 |A_
 |Cz
 |Cy
 |Cw
 |Cv
 |Cu
def xk.c:xk->C | .A_=>.lit (.func (.func 135) #[] #[]) | .Cz=>.lit (.func (.func 136) #[] #[]) | .Cy=>.lit (.func (.func 137) #[] #[]) | .Cw=>.lit (.func (.func 138) #[] #[]) | .Cv=>.lit (.func (.func 139) #[] #[]) | .Cu=>.lit (.func (.func 140) #[] #[])
inductive vo where
 |K2 (e:uS)
 |Jt (e:sM)
 |KZ (e:sM)
 |KY (e:sM)
 |KX (e:sM)
 |GU (e:sq)
 |KW (e:sq)
 |KV (e:sq)
 |Js (e:sq)
 |Eb (e0:xk) (e1:p5) (e2:pD)
def vo.c:vo->C | .K2 e=>.qs (.func 63) 1 0 (λi=>([.uR 28 (λj=>(uS.c e).getD j .oF)]:S5 C).getD i .oF) (λi=>([]:S5 C).getD i .oF) | .Jt e=>.qs (.func 65) 1 0 (λi=>([.uR 28 (λj=>(sM.c e).getD j .oF)]:S5 C).getD i .oF) (λi=>([]:S5 C).getD i .oF) | .KZ e=>.qs (.func 66) 1 0 (λi=>([.uR 28 (λj=>(sM.c e).getD j .oF)]:S5 C).getD i .oF) (λi=>([]:S5 C).getD i .oF) | .KY e=>.qs (.func 67) 1 0 (λi=>([.uR 28 (λj=>(sM.c e).getD j .oF)]:S5 C).getD i .oF) (λi=>([]:S5 C).getD i .oF) | .KX e=>.qs (.func 68) 1 0 (λi=>([.uR 28 (λj=>(sM.c e).getD j .oF)]:S5 C).getD i .oF) (λi=>([]:S5 C).getD i .oF) | .GU e=>.qs (.func 71) 1 0 (λi=>([.uR 28 (λj=>(sq.c e).getD j .oF)]:S5 C).getD i .oF) (λi=>([]:S5 C).getD i .oF) | .KW e=>.qs (.func 72) 1 0 (λi=>([.uR 28 (λj=>(sq.c e).getD j .oF)]:S5 C).getD i .oF) (λi=>([]:S5 C).getD i .oF) | .KV e=>.qs (.func 73) 1 0 (λi=>([.uR 28 (λj=>(sq.c e).getD j .oF)]:S5 C).getD i .oF) (λi=>([]:S5 C).getD i .oF) | .Js e=>.qs (.func 74) 1 0 (λi=>([.uR 28 (λj=>(sq.c e).getD j .oF)]:S5 C).getD i .oF) (λi=>([]:S5 C).getD i .oF) | .Eb e0 e1 e2=>.qs (.func 70) 0 3 (λi=>([]:S5 C).getD i .oF) (λi=>([.rp Tm 1 (λj=>([xk.c e0]:S5 C).getD (0+j) .oF),.rp Tm 16 (λj=>(p5.c e1:S5 C).getD (0+j) .oF),.rp Tm 12 (λj=>(pD.c e2:S5 C).getD (0+j) .oF)]:S5 C).getD i .oF)
structure rU where
 pZ:(List pD)
 qM:Int
 qm:(List oM)
 pA:(List oZ)
 qC:Bool
def rU.d:rU:=⟨([]:(S5 pD)),(0:Int),([]:(S5 oM)),([]:(S5 oZ)),Tm⟩
def rU.c(a:rU):S5 C:=[cL 12 pD.c pD.d a.pZ,.lit (.int .i64 a.qM),cL 13 oM.c oM.d a.qm,cL 8 oZ.c oZ.d a.pA,.lit (.bool a.qC)]
def rU.E:Ec rU:=⟨5,rU.c,rU.d⟩
def rU.ok(a:rU):Prop:=(zA pD.ok) a.pZ/\(rn .i64) a.qM/\(zA oM.ok) a.qm/\(zA oZ.ok) a.pA/\okB a.qC/\True
structure qA where
 tz:(List oM)
def qA.d:qA:=⟨([]:(S5 oM))⟩
def qA.c(a:qA):S5 C:=[cL 13 oM.c oM.d a.tz]
def qA.E:Ec qA:=⟨1,qA.c,qA.d⟩
def qA.ok(a:qA):Prop:=(zA oM.ok) a.tz/\True
structure wj where
 fc:p5
 fx:pD
 deriving DecidableEq
def wj.d:wj:=⟨p5.d,pD.d⟩
def wj.c(a:wj):S5 C:=[.lit (.int .i64 a.fc.rf),.lit (.int .i64 a.fc.rW),.lit (.int .i64 a.fc.e_),.lit (.int .i64 a.fc.qc),.lit (.int .i64 a.fc.qq),.lit (.int .u64 a.fc.pX),.lit (.int .i64 a.fc.qu.qW),.lit (.int .i64 a.fc.qu.p_),.lit (.int .i64 a.fc.qu.qo),.lit (.int .i64 a.fc.qu.tE),.lit (.int .i64 a.fc.uM),.lit (.int .i64 a.fc.rS),.lit (.int .i64 a.fc.sn),.lit (.int .i64 a.fc.vY),.lit (.int .i64 a.fc.z8),.lit (.int .i64 a.fc.qV),.lit (.int .i64 a.fx.d_),.lit (.bool a.fx.c_.b_.qt),.lit (.int .u64 a.fx.c_.b_.rk),.lit (.int .u64 a.fx.c_.b_.qX),.lit (.int .i64 a.fx.c_.qE),.lit (.bool a.fx.g_.b_.qt),.lit (.int .u64 a.fx.g_.b_.rk),.lit (.int .u64 a.fx.g_.b_.qX),.lit (.int .i64 a.fx.g_.oR),.lit (.int .i64 a.fx.pE),.lit (.int .i64 a.fx.qz),.lit (.bool a.fx.uq)]
def wj.E:Ec wj:=⟨28,wj.c,wj.d⟩
def wj.ok(a:wj):Prop:=p5.ok a.fc/\pD.ok a.fx/\True
structure rq where
 g_:pn
 fV:Int
 deriving DecidableEq
def rq.d:rq:=⟨pn.d,(0:Int)⟩
def rq.c(a:rq):S5 C:=[.lit (.bool a.g_.b_.qt),.lit (.int .u64 a.g_.b_.rk),.lit (.int .u64 a.g_.b_.qX),.lit (.int .i64 a.g_.oR),.lit (.int .i64 a.fV)]
def rq.E:Ec rq:=⟨5,rq.c,rq.d⟩
def rq.ok(a:rq):Prop:=pn.ok a.g_/\(rn .i64) a.fV/\True
inductive qY where
 |nil
 |mk (a0:rq) (a1:Bool) (a2:qY) (a3:qY)
def qY.isNil:qY->Bool | .nil=>true | .mk _ _ _ _=>Tm
def qY.cs:qY->Nat->C | .nil=>λ_=>.oF | .mk a0 a1 a2 a3=>λj=>([.lit (.bool a0.g_.b_.qt),.lit (.int .u64 a0.g_.b_.rk),.lit (.int .u64 a0.g_.b_.qX),.lit (.int .i64 a0.g_.oR),.lit (.int .i64 a0.fV),.lit (.bool a1),.rp a2.isNil 8 a2.cs,.rp a3.isNil 8 a3.cs]:S5 C).getD (0+j) .oF
def qY.c(x:qY):C:=.rp x.isNil 8 x.cs
inductive uE where
 |nil
 |mk (a0:qY) (a1:qY) (a2:Int)
def uE.isNil:uE->Bool | .nil=>true | .mk _ _ _=>Tm
def uE.cs:uE->Nat->C | .nil=>λ_=>.oF | .mk a0 a1 a2=>λj=>([.rp a0.isNil 8 a0.cs,.rp a1.isNil 8 a1.cs,.lit (.int .i64 a2)]:S5 C).getD (0+j) .oF
def uE.c(x:uE):C:=.rp x.isNil 3 x.cs
structure E4 where
 wu:rq
 Ct:Bool
 u_:(qY×qY)
def E4.d:E4:=⟨rq.d,Tm,(qY.nil,qY.nil)⟩
def E4.c(a:E4):S5 C:=[.lit (.bool a.wu.g_.b_.qt),.lit (.int .u64 a.wu.g_.b_.rk),.lit (.int .u64 a.wu.g_.b_.qX),.lit (.int .i64 a.wu.g_.oR),.lit (.int .i64 a.wu.fV),.lit (.bool a.Ct),qY.c a.u_.1,qY.c a.u_.2]
def E4.E:Ec E4:=⟨8,E4.c,E4.d⟩
structure tr where
 j_:(List k_)
 pG:(List a_)
 po:(List oD)
def tr.d:tr:=⟨([]:(S5 k_)),([]:(S5 a_)),([]:(S5 oD))⟩
def tr.c(a:tr):S5 C:=[cL 7 k_.c k_.d a.j_,cL 10 a_.c a_.d a.pG,cL 5 oD.c oD.d a.po]
def tr.E:Ec tr:=⟨3,tr.c,tr.d⟩
def tr.ok(a:tr):Prop:=(zA k_.ok) a.j_/\(zA a_.ok) a.pG/\(zA oD.ok) a.po/\True
structure qd where
 yp:Int
 c_:l_
 deriving DecidableEq
def qd.d:qd:=⟨(0:Int),l_.d⟩
def qd.c(a:qd):S5 C:=[.lit (.int .i64 a.yp),.lit (.bool a.c_.b_.qt),.lit (.int .u64 a.c_.b_.rk),.lit (.int .u64 a.c_.b_.qX),.lit (.int .i64 a.c_.qE)]
def qd.E:Ec qd:=⟨5,qd.c,qd.d⟩
def qd.ok(a:qd):Prop:=(rn .i64) a.yp/\l_.ok a.c_/\True
structure xl where
 Ga:Int
 fn:Int
 deriving DecidableEq
def xl.d:xl:=⟨(0:Int),(0:Int)⟩
def xl.c(a:xl):S5 C:=[.lit (.int .i64 a.Ga),.lit (.int .i64 a.fn)]
def xl.E:Ec xl:=⟨2,xl.c,xl.d⟩
def xl.ok(a:xl):Prop:=(rn .i64) a.Ga/\(rn .i64) a.fn/\True
inductive o7 (α:Type) where
 |ret (x:α) (g:qA)
 |uF (op:pU)
 |bad (s:ByteArray)
@[reducible] def tb {α β:Type} (o:S6 (o7 α)) (k:α->qA->S6 (o7 β)):S6 (o7 β):=o.bind λt=>match t with | .ret x g=>k x g | .uF u=>S8 (.uF u) | .bad b=>S8 (.bad b)
def Co{α:Type} : {x:o7 α}->{e:S6 (o7 α)}->e=S8 x->V | .ret _ _,_,_=>.one .oF | .uF op,_,_=>.one (.ve 83 21 (λi=>(pU.c op).getD i .oF)) | .bad s,_,_=>.one (.th 9 (.lit (.string s)))
def oc{α:Type}(v:α->V):o7 α->wK | .ret x g=>.ret [(100000,.box (qA.c g))] (v x) | .uF op=>.uF (.one (.ve 83 21 (λi=>(pU.c op).getD i .oF))) | .bad s=>.uF (.one (.th 9 (.lit (.string s))))
theorem ZUE : BO W8 84 "Drop" 421 := λx w => by kernel_rfl
theorem ZUD : BO W8 84 "Free" 422 := λx w => by kernel_rfl
theorem BZ : ML W8 84 "Free" := λx w => by kernel_rfl
theorem RY : BO W8 84 "Load" 423 := λx w => by kernel_rfl
theorem Ls : ML W8 84 "Load" := λx w => by kernel_rfl
theorem ZUC : BO W8 84 "Lock" 424 := λx w => by kernel_rfl
theorem ZRF : ML W8 84 "Lock" := λx w => by kernel_rfl
theorem ZUB : BO W8 84 "Pass" 425 := λx w => by kernel_rfl
theorem ZRK : BO W8 84 "Share" 426 := λx w => by kernel_rfl
theorem ZRJ : BO W8 84 "Store" 427 := λx w => by kernel_rfl
theorem Gw : ML W8 84 "Store" := λx w => by kernel_rfl
theorem ZUA : BO W8 84 "Swap" 428 := λx w => by kernel_rfl
def tab:qP:=[ (1,⟨.func,1,8,S8 (.nilFunc)⟩),(3,⟨.int .i64,1,8,S8 (.int .i64 (0))⟩),(4,⟨.bool,1,1,S8 (.bool Tm)⟩),(5,⟨.int .u8,1,1,S8 (.int .u8 (0))⟩),(9,⟨.str,1,16,S8 (.string ⟨#[]⟩)⟩),(20,⟨.iface,1,16,S8 (.nilIface)⟩),(22,⟨.int .u64,1,8,S8 (.int .u64 (0))⟩),(23,⟨.struct [(0,3),(1,3),(2,3),(3,3)],4,32,S8 (.agg #[.int .i64 (0),.int .i64 (0),.int .i64 (0),.int .i64 (0)])⟩),(24,⟨.struct [(0,3),(1,3),(2,3),(3,3)],4,32,S8 (.agg #[.int .i64 (0),.int .i64 (0),.int .i64 (0),.int .i64 (0)])⟩),(25,⟨.struct [(0,3),(1,3),(2,3),(3,3),(4,3),(5,22),(6,24),(10,3),(11,3),(12,3),(13,3),(14,3),(15,3)],16,128,S8 (.agg #[.int .i64 (0),.int .i64 (0),.int .i64 (0),.int .i64 (0),.int .i64 (0),.int .u64 (0),.int .i64 (0),.int .i64 (0),.int .i64 (0),.int .i64 (0),.int .i64 (0),.int .i64 (0),.int .i64 (0),.int .i64 (0),.int .i64 (0),.int .i64 (0)])⟩),(26,⟨.struct [(0,3),(1,3),(2,3),(3,3),(4,3),(5,22),(6,24),(10,3),(11,3),(12,3),(13,3),(14,3),(15,3)],16,128,S8 (.agg #[.int .i64 (0),.int .i64 (0),.int .i64 (0),.int .i64 (0),.int .i64 (0),.int .u64 (0),.int .i64 (0),.int .i64 (0),.int .i64 (0),.int .i64 (0),.int .i64 (0),.int .i64 (0),.int .i64 (0),.int .i64 (0),.int .i64 (0),.int .i64 (0)])⟩),(27,⟨.slice 59,1,24,S8 (.slice S_ 0 0)⟩),(28,⟨.slice 45,1,24,S8 (.slice S_ 0 0)⟩),(32,⟨.struct [(0,3),(1,3),(2,3)],3,24,S8 (.agg #[.int .i64 (0),.int .i64 (0),.int .i64 (0)])⟩),(33,⟨.struct [(0,3),(1,3),(2,3)],3,24,S8 (.agg #[.int .i64 (0),.int .i64 (0),.int .i64 (0)])⟩),(34,⟨.struct [(0,4),(1,22),(2,22)],3,24,S8 (.agg #[.bool Tm,.int .u64 (0),.int .u64 (0)])⟩),(35,⟨.struct [(0,4),(1,22),(2,22)],3,24,S8 (.agg #[.bool Tm,.int .u64 (0),.int .u64 (0)])⟩),(36,⟨.struct [(0,35),(3,3)],4,32,S8 (.agg #[.bool Tm,.int .u64 (0),.int .u64 (0),.int .i64 (0)])⟩),(37,⟨.struct [(0,35),(3,3)],4,32,S8 (.agg #[.bool Tm,.int .u64 (0),.int .u64 (0),.int .i64 (0)])⟩),(38,⟨.struct [(0,3),(1,3)],2,16,S8 (.agg #[.int .i64 (0),.int .i64 (0)])⟩),(39,⟨.struct [(0,3),(1,3)],2,16,S8 (.agg #[.int .i64 (0),.int .i64 (0)])⟩),(40,⟨.struct [(0,37),(4,4),(5,3),(6,39),(8,3),(9,3)],10,80,S8 (.agg #[.bool Tm,.int .u64 (0),.int .u64 (0),.int .i64 (0),.bool Tm,.int .i64 (0),.int .i64 (0),.int .i64 (0),.int .i64 (0),.int .i64 (0)])⟩),(41,⟨.struct [(0,37),(4,4),(5,3),(6,39),(8,3),(9,3)],10,80,S8 (.agg #[.bool Tm,.int .u64 (0),.int .u64 (0),.int .i64 (0),.bool Tm,.int .i64 (0),.int .i64 (0),.int .i64 (0),.int .i64 (0),.int .i64 (0)])⟩),(42,⟨.slice 136,1,24,S8 (.slice S_ 0 0)⟩),(43,⟨.slice 160,1,24,S8 (.slice S_ 0 0)⟩),(44,⟨.struct [(0,3),(1,41),(11,42),(12,43)],13,136,S8 (.agg #[.int .i64 (0),.bool Tm,.int .u64 (0),.int .u64 (0),.int .i64 (0),.bool Tm,.int .i64 (0),.int .i64 (0),.int .i64 (0),.int .i64 (0),.int .i64 (0),.slice S_ 0 0,.slice S_ 0 0])⟩),(45,⟨.struct [(0,3),(1,41),(11,42),(12,43)],13,136,S8 (.agg #[.int .i64 (0),.bool Tm,.int .u64 (0),.int .u64 (0),.int .i64 (0),.bool Tm,.int .i64 (0),.int .i64 (0),.int .i64 (0),.int .i64 (0),.int .i64 (0),.slice S_ 0 0,.slice S_ 0 0])⟩),(46,⟨.struct [(0,3),(1,3),(2,33),(5,3),(6,3),(7,45),(20,4)],21,200,S8 (.agg #[.int .i64 (0),.int .i64 (0),.int .i64 (0),.int .i64 (0),.int .i64 (0),.int .i64 (0),.int .i64 (0),.int .i64 (0),.bool Tm,.int .u64 (0),.int .u64 (0),.int .i64 (0),.bool Tm,.int .i64 (0),.int .i64 (0),.int .i64 (0),.int .i64 (0),.int .i64 (0),.slice S_ 0 0,.slice S_ 0 0,.bool Tm])⟩),(47,⟨.struct [(0,3),(1,3),(2,33),(5,3),(6,3),(7,45),(20,4)],21,200,S8 (.agg #[.int .i64 (0),.int .i64 (0),.int .i64 (0),.int .i64 (0),.int .i64 (0),.int .i64 (0),.int .i64 (0),.int .i64 (0),.bool Tm,.int .u64 (0),.int .u64 (0),.int .i64 (0),.bool Tm,.int .i64 (0),.int .i64 (0),.int .i64 (0),.int .i64 (0),.int .i64 (0),.slice S_ 0 0,.slice S_ 0 0,.bool Tm])⟩),(48,⟨.struct [(0,28),(1,3),(2,47),(23,4)],24,240,S8 (.agg #[.slice S_ 0 0,.int .i64 (0),.int .i64 (0),.int .i64 (0),.int .i64 (0),.int .i64 (0),.int .i64 (0),.int .i64 (0),.int .i64 (0),.int .i64 (0),.bool Tm,.int .u64 (0),.int .u64 (0),.int .i64 (0),.bool Tm,.int .i64 (0),.int .i64 (0),.int .i64 (0),.int .i64 (0),.int .i64 (0),.slice S_ 0 0,.slice S_ 0 0,.bool Tm,.bool Tm])⟩),(49,⟨.struct [(0,28),(1,3),(2,47),(23,4)],24,240,S8 (.agg #[.slice S_ 0 0,.int .i64 (0),.int .i64 (0),.int .i64 (0),.int .i64 (0),.int .i64 (0),.int .i64 (0),.int .i64 (0),.int .i64 (0),.int .i64 (0),.bool Tm,.int .u64 (0),.int .u64 (0),.int .i64 (0),.bool Tm,.int .i64 (0),.int .i64 (0),.int .i64 (0),.int .i64 (0),.int .i64 (0),.slice S_ 0 0,.slice S_ 0 0,.bool Tm,.bool Tm])⟩),(50,⟨.int .i64,1,8,S8 (.int .i64 (0))⟩),(51,⟨.slice 41,1,24,S8 (.slice S_ 0 0)⟩),(52,⟨.struct [(0,50),(1,37),(5,3),(6,3),(7,51)],8,80,S8 (.agg #[.int .i64 (0),.bool Tm,.int .u64 (0),.int .u64 (0),.int .i64 (0),.int .i64 (0),.int .i64 (0),.slice S_ 0 0])⟩),(53,⟨.struct [(0,50),(1,37),(5,3),(6,3),(7,51)],8,80,S8 (.agg #[.int .i64 (0),.bool Tm,.int .u64 (0),.int .u64 (0),.int .i64 (0),.int .i64 (0),.int .i64 (0),.slice S_ 0 0])⟩),(56,⟨.struct [(0,35),(3,3)],4,32,S8 (.agg #[.bool Tm,.int .u64 (0),.int .u64 (0),.int .i64 (0)])⟩),(57,⟨.struct [(0,35),(3,3)],4,32,S8 (.agg #[.bool Tm,.int .u64 (0),.int .u64 (0),.int .i64 (0)])⟩),(58,⟨.struct [(0,3),(1,37),(5,57),(9,3),(10,3),(11,4)],12,96,S8 (.agg #[.int .i64 (0),.bool Tm,.int .u64 (0),.int .u64 (0),.int .i64 (0),.bool Tm,.int .u64 (0),.int .u64 (0),.int .i64 (0),.int .i64 (0),.int .i64 (0),.bool Tm])⟩),(59,⟨.struct [(0,3),(1,37),(5,57),(9,3),(10,3),(11,4)],12,96,S8 (.agg #[.int .i64 (0),.bool Tm,.int .u64 (0),.int .u64 (0),.int .i64 (0),.bool Tm,.int .u64 (0),.int .u64 (0),.int .i64 (0),.int .i64 (0),.int .i64 (0),.bool Tm])⟩),(61,⟨.struct [(0,47),(21,53),(29,4),(30,4)],31,288,S8 (.agg #[.int .i64 (0),.int .i64 (0),.int .i64 (0),.int .i64 (0),.int .i64 (0),.int .i64 (0),.int .i64 (0),.int .i64 (0),.bool Tm,.int .u64 (0),.int .u64 (0),.int .i64 (0),.bool Tm,.int .i64 (0),.int .i64 (0),.int .i64 (0),.int .i64 (0),.int .i64 (0),.slice S_ 0 0,.slice S_ 0 0,.bool Tm,.int .i64 (0),.bool Tm,.int .u64 (0),.int .u64 (0),.int .i64 (0),.int .i64 (0),.int .i64 (0),.slice S_ 0 0,.bool Tm,.bool Tm])⟩),(62,⟨.struct [(0,47),(21,53),(29,4),(30,4)],31,288,S8 (.agg #[.int .i64 (0),.int .i64 (0),.int .i64 (0),.int .i64 (0),.int .i64 (0),.int .i64 (0),.int .i64 (0),.int .i64 (0),.bool Tm,.int .u64 (0),.int .u64 (0),.int .i64 (0),.bool Tm,.int .i64 (0),.int .i64 (0),.int .i64 (0),.int .i64 (0),.int .i64 (0),.slice S_ 0 0,.slice S_ 0 0,.bool Tm,.int .i64 (0),.bool Tm,.int .u64 (0),.int .u64 (0),.int .i64 (0),.int .i64 (0),.int .i64 (0),.slice S_ 0 0,.bool Tm,.bool Tm])⟩),(64,⟨.func,1,8,S8 (.nilFunc)⟩),(65,⟨.func,1,8,S8 (.nilFunc)⟩),(67,⟨.slice 53,1,24,S8 (.slice S_ 0 0)⟩),(68,⟨.struct [(0,27),(1,3),(2,28),(3,67),(4,4)],5,88,S8 (.agg #[.slice S_ 0 0,.int .i64 (0),.slice S_ 0 0,.slice S_ 0 0,.bool Tm])⟩),(69,⟨.struct [(0,27),(1,3),(2,28),(3,67),(4,4)],5,88,S8 (.agg #[.slice S_ 0 0,.int .i64 (0),.slice S_ 0 0,.slice S_ 0 0,.bool Tm])⟩),(82,⟨.struct [(0,47)],21,200,S8 (.agg #[.int .i64 (0),.int .i64 (0),.int .i64 (0),.int .i64 (0),.int .i64 (0),.int .i64 (0),.int .i64 (0),.int .i64 (0),.bool Tm,.int .u64 (0),.int .u64 (0),.int .i64 (0),.bool Tm,.int .i64 (0),.int .i64 (0),.int .i64 (0),.int .i64 (0),.int .i64 (0),.slice S_ 0 0,.slice S_ 0 0,.bool Tm])⟩),(83,⟨.struct [(0,47)],21,200,S8 (.agg #[.int .i64 (0),.int .i64 (0),.int .i64 (0),.int .i64 (0),.int .i64 (0),.int .i64 (0),.int .i64 (0),.int .i64 (0),.bool Tm,.int .u64 (0),.int .u64 (0),.int .i64 (0),.bool Tm,.int .i64 (0),.int .i64 (0),.int .i64 (0),.int .i64 (0),.int .i64 (0),.slice S_ 0 0,.slice S_ 0 0,.bool Tm])⟩),(84,⟨.ptr 86,1,8,S8 (.pointer S_)⟩),(85,⟨.struct [(0,28)],1,24,S8 (.agg #[.slice S_ 0 0])⟩),(86,⟨.struct [(0,28)],1,24,S8 (.agg #[.slice S_ 0 0])⟩),(114,⟨.struct [(0,26),(16,59)],28,224,S8 (.agg #[.int .i64 (0),.int .i64 (0),.int .i64 (0),.int .i64 (0),.int .i64 (0),.int .u64 (0),.int .i64 (0),.int .i64 (0),.int .i64 (0),.int .i64 (0),.int .i64 (0),.int .i64 (0),.int .i64 (0),.int .i64 (0),.int .i64 (0),.int .i64 (0),.int .i64 (0),.bool Tm,.int .u64 (0),.int .u64 (0),.int .i64 (0),.bool Tm,.int .u64 (0),.int .u64 (0),.int .i64 (0),.int .i64 (0),.int .i64 (0),.bool Tm])⟩),(115,⟨.struct [(0,26),(16,59)],28,224,S8 (.agg #[.int .i64 (0),.int .i64 (0),.int .i64 (0),.int .i64 (0),.int .i64 (0),.int .u64 (0),.int .i64 (0),.int .i64 (0),.int .i64 (0),.int .i64 (0),.int .i64 (0),.int .i64 (0),.int .i64 (0),.int .i64 (0),.int .i64 (0),.int .i64 (0),.int .i64 (0),.bool Tm,.int .u64 (0),.int .u64 (0),.int .i64 (0),.bool Tm,.int .u64 (0),.int .u64 (0),.int .i64 (0),.int .i64 (0),.int .i64 (0),.bool Tm])⟩),(116,⟨.struct [(0,26),(16,59)],28,224,S8 (.agg #[.int .i64 (0),.int .i64 (0),.int .i64 (0),.int .i64 (0),.int .i64 (0),.int .u64 (0),.int .i64 (0),.int .i64 (0),.int .i64 (0),.int .i64 (0),.int .i64 (0),.int .i64 (0),.int .i64 (0),.int .i64 (0),.int .i64 (0),.int .i64 (0),.int .i64 (0),.bool Tm,.int .u64 (0),.int .u64 (0),.int .i64 (0),.bool Tm,.int .u64 (0),.int .u64 (0),.int .i64 (0),.int .i64 (0),.int .i64 (0),.bool Tm])⟩),(117,⟨.struct [(0,26),(16,59)],28,224,S8 (.agg #[.int .i64 (0),.int .i64 (0),.int .i64 (0),.int .i64 (0),.int .i64 (0),.int .u64 (0),.int .i64 (0),.int .i64 (0),.int .i64 (0),.int .i64 (0),.int .i64 (0),.int .i64 (0),.int .i64 (0),.int .i64 (0),.int .i64 (0),.int .i64 (0),.int .i64 (0),.bool Tm,.int .u64 (0),.int .u64 (0),.int .i64 (0),.bool Tm,.int .u64 (0),.int .u64 (0),.int .i64 (0),.int .i64 (0),.int .i64 (0),.bool Tm])⟩),(118,⟨.func,1,8,S8 (.nilFunc)⟩),(119,⟨.func,1,8,S8 (.nilFunc)⟩),(121,⟨.iface,1,16,S8 (.nilIface)⟩),(122,⟨.iface,1,16,S8 (.nilIface)⟩),(123,⟨.struct [(0,26),(16,59)],28,224,S8 (.agg #[.int .i64 (0),.int .i64 (0),.int .i64 (0),.int .i64 (0),.int .i64 (0),.int .u64 (0),.int .i64 (0),.int .i64 (0),.int .i64 (0),.int .i64 (0),.int .i64 (0),.int .i64 (0),.int .i64 (0),.int .i64 (0),.int .i64 (0),.int .i64 (0),.int .i64 (0),.bool Tm,.int .u64 (0),.int .u64 (0),.int .i64 (0),.bool Tm,.int .u64 (0),.int .u64 (0),.int .i64 (0),.int .i64 (0),.int .i64 (0),.bool Tm])⟩),(124,⟨.struct [(0,26),(16,59)],28,224,S8 (.agg #[.int .i64 (0),.int .i64 (0),.int .i64 (0),.int .i64 (0),.int .i64 (0),.int .u64 (0),.int .i64 (0),.int .i64 (0),.int .i64 (0),.int .i64 (0),.int .i64 (0),.int .i64 (0),.int .i64 (0),.int .i64 (0),.int .i64 (0),.int .i64 (0),.int .i64 (0),.bool Tm,.int .u64 (0),.int .u64 (0),.int .i64 (0),.bool Tm,.int .u64 (0),.int .u64 (0),.int .i64 (0),.int .i64 (0),.int .i64 (0),.bool Tm])⟩),(125,⟨.struct [(0,26),(16,59)],28,224,S8 (.agg #[.int .i64 (0),.int .i64 (0),.int .i64 (0),.int .i64 (0),.int .i64 (0),.int .u64 (0),.int .i64 (0),.int .i64 (0),.int .i64 (0),.int .i64 (0),.int .i64 (0),.int .i64 (0),.int .i64 (0),.int .i64 (0),.int .i64 (0),.int .i64 (0),.int .i64 (0),.bool Tm,.int .u64 (0),.int .u64 (0),.int .i64 (0),.bool Tm,.int .u64 (0),.int .u64 (0),.int .i64 (0),.int .i64 (0),.int .i64 (0),.bool Tm])⟩),(126,⟨.struct [(0,26),(16,59)],28,224,S8 (.agg #[.int .i64 (0),.int .i64 (0),.int .i64 (0),.int .i64 (0),.int .i64 (0),.int .u64 (0),.int .i64 (0),.int .i64 (0),.int .i64 (0),.int .i64 (0),.int .i64 (0),.int .i64 (0),.int .i64 (0),.int .i64 (0),.int .i64 (0),.int .i64 (0),.int .i64 (0),.bool Tm,.int .u64 (0),.int .u64 (0),.int .i64 (0),.bool Tm,.int .u64 (0),.int .u64 (0),.int .i64 (0),.int .i64 (0),.int .i64 (0),.bool Tm])⟩),(135,⟨.struct [(0,57),(4,3)],5,40,S8 (.agg #[.bool Tm,.int .u64 (0),.int .u64 (0),.int .i64 (0),.int .i64 (0)])⟩),(136,⟨.struct [(0,57),(4,3)],5,40,S8 (.agg #[.bool Tm,.int .u64 (0),.int .u64 (0),.int .i64 (0),.int .i64 (0)])⟩),(142,⟨.slice 3,1,24,S8 (.slice S_ 0 0)⟩),(146,⟨.slice 51,1,24,S8 (.slice S_ 0 0)⟩),(154,⟨.slice 37,1,24,S8 (.slice S_ 0 0)⟩),(159,⟨.struct [(0,37),(4,3),(5,3),(6,3)],7,56,S8 (.agg #[.bool Tm,.int .u64 (0),.int .u64 (0),.int .i64 (0),.int .i64 (0),.int .i64 (0),.int .i64 (0)])⟩),(160,⟨.struct [(0,37),(4,3),(5,3),(6,3)],7,56,S8 (.agg #[.bool Tm,.int .u64 (0),.int .u64 (0),.int .i64 (0),.int .i64 (0),.int .i64 (0),.int .i64 (0)])⟩),(183,⟨.func,1,8,S8 (.nilFunc)⟩),(184,⟨.func,1,8,S8 (.nilFunc)⟩),(187,⟨.slice 189,1,24,S8 (.slice S_ 0 0)⟩),(189,⟨.int .i64,1,8,S8 (.int .i64 (0))⟩),(197,⟨.func,1,8,S8 (.nilFunc)⟩),(206,⟨.slice 9,1,24,S8 (.slice S_ 0 0)⟩),(212,⟨.slice 22,1,24,S8 (.slice S_ 0 0)⟩),(220,⟨.func,1,8,S8 (.nilFunc)⟩),(224,⟨.func,1,8,S8 (.nilFunc)⟩),(226,⟨.func,1,8,S8 (.nilFunc)⟩),(232,⟨.func,1,8,S8 (.nilFunc)⟩),(233,⟨.slice 238,1,24,S8 (.slice S_ 0 0)⟩),(234,⟨.ptr 290,1,8,S8 (.pointer S_)⟩),(237,⟨.struct [(0,57),(4,3)],5,40,S8 (.agg #[.bool Tm,.int .u64 (0),.int .u64 (0),.int .i64 (0),.int .i64 (0)])⟩),(238,⟨.struct [(0,57),(4,3)],5,40,S8 (.agg #[.bool Tm,.int .u64 (0),.int .u64 (0),.int .i64 (0),.int .i64 (0)])⟩),(243,⟨.array 14 9,14,224,S8 (.agg #[.string ⟨#[]⟩,.string ⟨#[]⟩,.string ⟨#[]⟩,.string ⟨#[]⟩,.string ⟨#[]⟩,.string ⟨#[]⟩,.string ⟨#[]⟩,.string ⟨#[]⟩,.string ⟨#[]⟩,.string ⟨#[]⟩,.string ⟨#[]⟩,.string ⟨#[]⟩,.string ⟨#[]⟩,.string ⟨#[]⟩])⟩),(248,⟨.struct [(0,43),(1,51),(2,42)],3,72,S8 (.agg #[.slice S_ 0 0,.slice S_ 0 0,.slice S_ 0 0])⟩),(249,⟨.struct [(0,43),(1,51),(2,42)],3,72,S8 (.agg #[.slice S_ 0 0,.slice S_ 0 0,.slice S_ 0 0])⟩),(268,⟨.int .u64,1,8,S8 (.int .u64 (0))⟩),(273,⟨.slice 4,1,24,S8 (.slice S_ 0 0)⟩),(287,⟨.ptr 292,1,8,S8 (.pointer S_)⟩),(288,⟨.array 2 287,2,16,S8 (.agg #[.pointer S_,.pointer S_])⟩),(289,⟨.struct [(0,288),(2,3)],3,24,S8 (.agg #[.pointer S_,.pointer S_,.int .i64 (0)])⟩),(290,⟨.struct [(0,288),(2,3)],3,24,S8 (.agg #[.pointer S_,.pointer S_,.int .i64 (0)])⟩),(291,⟨.struct [(0,238),(5,4),(6,288)],8,64,S8 (.agg #[.bool Tm,.int .u64 (0),.int .u64 (0),.int .i64 (0),.int .i64 (0),.bool Tm,.pointer S_,.pointer S_])⟩),(292,⟨.struct [(0,238),(5,4),(6,288)],8,64,S8 (.agg #[.bool Tm,.int .u64 (0),.int .u64 (0),.int .i64 (0),.int .i64 (0),.bool Tm,.pointer S_,.pointer S_])⟩),(296,⟨.func,1,8,S8 (.nilFunc)⟩),(299,⟨.func,1,8,S8 (.nilFunc)⟩),(302,⟨.int .u32,1,4,S8 (.int .u32 (0))⟩),(303,⟨.slice 306,1,24,S8 (.slice S_ 0 0)⟩),(305,⟨.struct [(0,3),(1,37)],5,40,S8 (.agg #[.int .i64 (0),.bool Tm,.int .u64 (0),.int .u64 (0),.int .i64 (0)])⟩),(306,⟨.struct [(0,3),(1,37)],5,40,S8 (.agg #[.int .i64 (0),.bool Tm,.int .u64 (0),.int .u64 (0),.int .i64 (0)])⟩),(318,⟨.func,1,8,S8 (.nilFunc)⟩),(320,⟨.array 6 3,6,48,S8 (.agg #[.int .i64 (0),.int .i64 (0),.int .i64 (0),.int .i64 (0),.int .i64 (0),.int .i64 (0)])⟩),(345,⟨.map 57 3,1,8,S8 (.map S_)⟩),(349,⟨.slice 57,1,24,S8 (.slice S_ 0 0)⟩),(358,⟨.struct [(0,3),(1,3)],2,16,S8 (.agg #[.int .i64 (0),.int .i64 (0)])⟩),(359,⟨.struct [(0,3),(1,3)],2,16,S8 (.agg #[.int .i64 (0),.int .i64 (0)])⟩),(360,⟨.array 4 359,8,64,S8 (.agg #[.int .i64 (0),.int .i64 (0),.int .i64 (0),.int .i64 (0),.int .i64 (0),.int .i64 (0),.int .i64 (0),.int .i64 (0)])⟩)]
theorem qR{P:Program}{ti:TI}{T:qP}{d}(h:P.underlying t=S8 d)(k:rZ P T)(a:(P.info? t).map (fun i=>(i.size,i.bytes))=S8 (ti.size,ti.bytes):=by kernel_rfl)(b:(P.info? t).bind (·.zero)=ti.zero:=by kernel_rfl)(c:ti.k.fits d:=by first|exact rfl|trivial):rZ P ((t,ti)::T):=.cons ⟨a,b,_,h,c⟩ k
theorem QO:rZ W8 tab:=
qR Tryz.underlying1<|.cons ⟨by kernel_rfl,by kernel_rfl,_,WK,rfl⟩ <|
qR WJ<|.cons ⟨by kernel_rfl,by kernel_rfl,_,Tryz.underlying5,rfl⟩ <|
qR Tryz.underlying9<|.cons ⟨by kernel_rfl,by kernel_rfl,_,Tryz.underlying20,trivial⟩ <|
qR Xa<|.cons ⟨by kernel_rfl,by kernel_rfl,_,Tryz.underlying23,rfl⟩ <|
qR Xn<|.cons ⟨by kernel_rfl,by kernel_rfl,_,Tryz.underlying25,rfl⟩ <|
qR Xm<|.cons ⟨by kernel_rfl,by kernel_rfl,_,Tryz.underlying27,rfl⟩ <|
qR Tryz.underlying28<|.cons ⟨by kernel_rfl,by kernel_rfl,_,Tryz.underlying32,rfl⟩ <|
qR Tryz.underlying33<|.cons ⟨by kernel_rfl,by kernel_rfl,_,Tryz.underlying34,rfl⟩ <|
qR Xl<|.cons ⟨by kernel_rfl,by kernel_rfl,_,Tryz.underlying36,rfl⟩ <|
qR Xk<|.cons ⟨by kernel_rfl,by kernel_rfl,_,Tryz.underlying38,rfl⟩ <|
qR Xj<|.cons ⟨by kernel_rfl,by kernel_rfl,_,Tryz.underlying40,rfl⟩ <|
qR Xi<|.cons ⟨by kernel_rfl,by kernel_rfl,_,Xh,rfl⟩ <|
qR Xg<|.cons ⟨by kernel_rfl,by kernel_rfl,_,Tryz.underlying44,rfl⟩ <|
qR Xf<|.cons ⟨by kernel_rfl,by kernel_rfl,_,Tryz.underlying46,rfl⟩ <|
qR Tryz.underlying47<|.cons ⟨by kernel_rfl,by kernel_rfl,_,Tryz.underlying48,rfl⟩ <|
qR Tryz.underlying49<|.cons ⟨by kernel_rfl,by kernel_rfl,_,Tryz.underlying50,rfl⟩ <|
qR Tryz.underlying51<|.cons ⟨by kernel_rfl,by kernel_rfl,_,Tryz.underlying52,rfl⟩ <|
qR Tryz.underlying53<|.cons ⟨by kernel_rfl,by kernel_rfl,_,Tryz.underlying56,rfl⟩ <|
qR Xe<|.cons ⟨by kernel_rfl,by kernel_rfl,_,Tryz.underlying58,rfl⟩ <|
qR Xd<|.cons ⟨by kernel_rfl,by kernel_rfl,_,Tryz.underlying61,rfl⟩ <|
qR Tryz.underlying62<|.cons ⟨by kernel_rfl,by kernel_rfl,_,Tryz.underlying64,trivial⟩ <|
qR Tryz.underlying65<|.cons ⟨by kernel_rfl,by kernel_rfl,_,Tryz.underlying67,rfl⟩ <|
qR Tryz.underlying68<|.cons ⟨by kernel_rfl,by kernel_rfl,_,Tryz.underlying69,rfl⟩ <|
qR Tryz.underlying82<|.cons ⟨by kernel_rfl,by kernel_rfl,_,Tryz.underlying83,rfl⟩ <|
qR Tryz.underlying84<|.cons ⟨by kernel_rfl,by kernel_rfl,_,Tryz.underlying85,rfl⟩ <|
qR Tryz.underlying86<|.cons ⟨by kernel_rfl,by kernel_rfl,_,Tryz.underlying114,rfl⟩ <|
qR Tryz.underlying115<|.cons ⟨by kernel_rfl,by kernel_rfl,_,Tryz.underlying116,rfl⟩ <|
qR Tryz.underlying117<|.cons ⟨by kernel_rfl,by kernel_rfl,_,Tryz.underlying118,trivial⟩ <|
qR Tryz.underlying119<|.cons ⟨by kernel_rfl,by kernel_rfl,_,Tryz.underlying121,trivial⟩ <|
qR Tryz.underlying122<|.cons ⟨by kernel_rfl,by kernel_rfl,_,Tryz.underlying123,rfl⟩ <|
qR Tryz.underlying124<|.cons ⟨by kernel_rfl,by kernel_rfl,_,Tryz.underlying125,rfl⟩ <|
qR Tryz.underlying126<|.cons ⟨by kernel_rfl,by kernel_rfl,_,Tryz.underlying135,rfl⟩ <|
qR Xc<|.cons ⟨by kernel_rfl,by kernel_rfl,_,Tryz.underlying142,rfl⟩ <|
qR Tryz.underlying146<|.cons ⟨by kernel_rfl,by kernel_rfl,_,Tryz.underlying154,rfl⟩ <|
qR Tryz.underlying159<|.cons ⟨by kernel_rfl,by kernel_rfl,_,Xb,rfl⟩ <|
qR Tryz.underlying183<|.cons ⟨by kernel_rfl,by kernel_rfl,_,Tryz.underlying184,trivial⟩ <|
qR Tryz.underlying187<|.cons ⟨by kernel_rfl,by kernel_rfl,_,Tryz.underlying189,rfl⟩ <|
qR Tryz.underlying197<|.cons ⟨by kernel_rfl,by kernel_rfl,_,Tryz.underlying206,rfl⟩ <|
qR Tryz.underlying212<|.cons ⟨by kernel_rfl,by kernel_rfl,_,Tryz.underlying220,trivial⟩ <|
qR Tryz.underlying224<|.cons ⟨by kernel_rfl,by kernel_rfl,_,Tryz.underlying226,trivial⟩ <|
qR Tryz.underlying232<|.cons ⟨by kernel_rfl,by kernel_rfl,_,Tryz.underlying233,rfl⟩ <|
qR Tryz.underlying234<|.cons ⟨by kernel_rfl,by kernel_rfl,_,Tryz.underlying237,rfl⟩ <|
qR Tryz.underlying238<|.cons ⟨by kernel_rfl,by kernel_rfl,_,Tryz.underlying243,⟨rfl,rfl⟩⟩ <|
qR Tryz.underlying248<|.cons ⟨by kernel_rfl,by kernel_rfl,_,Tryz.underlying249,rfl⟩ <|
qR Tryz.underlying268<|.cons ⟨by kernel_rfl,by kernel_rfl,_,Tryz.underlying273,rfl⟩ <|
qR Tryz.underlying287<|.cons ⟨by kernel_rfl,by kernel_rfl,_,Tryz.underlying288,⟨rfl,rfl⟩⟩ <|
qR Tryz.underlying289<|.cons ⟨by kernel_rfl,by kernel_rfl,_,Tryz.underlying290,rfl⟩ <|
qR Tryz.underlying291<|.cons ⟨by kernel_rfl,by kernel_rfl,_,Tryz.underlying292,rfl⟩ <|
qR Tryz.underlying296<|.cons ⟨by kernel_rfl,by kernel_rfl,_,Tryz.underlying299,trivial⟩ <|
qR Tryz.underlying302<|.cons ⟨by kernel_rfl,by kernel_rfl,_,Tryz.underlying303,rfl⟩ <|
qR Tryz.underlying305<|.cons ⟨by kernel_rfl,by kernel_rfl,_,Tryz.underlying306,rfl⟩ <|
qR Tryz.underlying318<|.cons ⟨by kernel_rfl,by kernel_rfl,_,Tryz.underlying320,⟨rfl,rfl⟩⟩ <|
 .cons ⟨by kernel_rfl,by kernel_rfl,_,Tryz.underlying345,⟨rfl,rfl⟩⟩ <|
qR Tryz.underlying349<|.cons ⟨by kernel_rfl,by kernel_rfl,_,Tryz.underlying358,rfl⟩ <|
qR Tryz.underlying359<|.cons ⟨by kernel_rfl,by kernel_rfl,_,Tryz.underlying360,⟨rfl,rfl⟩⟩ <|
 .nil _
theorem BV:zG W8 tab:=⟨QO,by kernel_rfl⟩
theorem Yb{fn:Func}{v:α}(hf:S8 v=S8 r){F:α->V}(n:Nat)(sf:S5 RA)(bs:S5 Bool)(fz:S5 Nat)(dh dn:S5 (Nat×S5 (Nat×C)))(ho:sx o_)(h:Jc W8 N tab n is st sf bs fz dh dn fn.results.toList=S8 (F v,o_):=by kernel_rfl)(hp:(F v).pure=true:=by rfl):Good W8 N S0 w0 (bodyPost W8 fn (uB S0 w0 (F r))) is st:=by
 obtain rfl:=Option.some.inj hf;exact Zxs BV n sf bs fz dh dn ho h hp
theorem Yd{fn:Func}{res:V}{h1:S5 (Nat×B)}(n:Nat)(sf:S5 RA)(bs:S5 Bool)(na:NA)(ho:sx o_)(h:NW W8 N tab n is st sf bs na [100000] fn.results.toList=S8 (res,h1,o_):=by kernel_rfl):Good W8 N S0 w0 (bodyPost W8 fn (wb S0 w0 h1 res)) is st:=Zwm BV n sf bs na [100000] ho h
theorem Yh{fn:Func}{pv:V}(n:Nat)(sf:S5 RA)(bs:S5 Bool)(ra:RA)(i:Nat)(pa:PA)(ho:sx o_)(h:NP W8 N tab n is st sf bs ra i pa=S8 (pv,o_):=by kernel_rfl):Good W8 N S0 w0 (bodyPost W8 fn (Bs S0 w0 pv)) is st:=Zoq BV n is st sf bs ra i pa ho h
theorem Ye{Q:Exit->Act->World->Prop}(n:Nat)(sf:S5 RA)(bs:S5 Bool){it:S5 It}{s1:St}(na:NA)(ho:sx o_)(hk:Good W8 N S0 w0 Q it s1)(h:toK W8 N tab n is st sf bs na=S8 (it,s1,o_):=by kernel_rfl)(hE:Ends Q:=by first|exact uB.ends|exact wb.ends|exact MU.ends):Good W8 N S0 w0 Q is st:=ZYl BV hE n sf bs na ho h hk
abbrev Yj(x:Int):V:=.one (.lit (.int .i64 x))
abbrev Yk(x:Bool):V:=.one (.lit (.bool x))
abbrev Yl(l:S5 oM):V:=.one (cL 13 oM.c oM.d l)
abbrev Ym(l:S5 oD):V:=.one (cL 5 oD.c oD.d l)
abbrev Yn(l:S5 a_):V:=.one (cL 10 a_.c a_.d l)
abbrev Yo(l:S5 l_):V:=.one (cL 4 l_.c l_.d l)
abbrev Yp(l:S5 k_):V:=.one (cL 7 k_.c k_.d l)
theorem Yu{p q:Prop}[Decidable p][Decidable q](h:f_ p (f_ q x)=S8 r):p/\q/\x=S8 r:=⟨(yg h).1,(yg (yg h).2).1,(yg (yg h).2).2⟩
theorem Yv{β γ:Type}{g:α->S6 β}{k:α->β->S6 γ}{r:γ}(h:(x.bind λy=>(g y).bind (k y))=S8 r):∃y z,x=S8 y/\g y=S8 z/\k y z=S8 r:=by
 obtain⟨y,a,h⟩:=vC h;obtain⟨z,b,h⟩:=vC h;exact⟨y,z,a,b,h⟩
abbrev Yw:ByteArray:=⟨#[0,1,2,2,3,3,3,3,4,4,4,4,4,4,4,4,5,5,5,5,5,5,5,5,5,5,5,5,5,5,5,5,6,6,6,6,6,6,6,6,6,6,6,6,6,6,6,6,6,6,6,6,6,6,6,6,6,6,6,6,6,6,6,6,7,7,7,7,7,7,7,7,7,7,7,7,7,7,7,7,7,7,7,7,7,7,7,7,7,7,7,7,7,7,7,7,7,7,7,7,7,7,7,7,7,7,7,7,7,7,7,7,7,7,7,7,7,7,7,7,7,7,7,7,7,7,7,7,8,8,8,8,8,8,8,8,8,8,8,8,8,8,8,8,8,8,8,8,8,8,8,8,8,8,8,8,8,8,8,8,8,8,8,8,8,8,8,8,8,8,8,8,8,8,8,8,8,8,8,8,8,8,8,8,8,8,8,8,8,8,8,8,8,8,8,8,8,8,8,8,8,8,8,8,8,8,8,8,8,8,8,8,8,8,8,8,8,8,8,8,8,8,8,8,8,8,8,8,8,8,8,8,8,8,8,8,8,8,8,8,8,8,8,8,8,8,8,8,8,8,8,8,8,8,8,8]⟩
abbrev Yq:=yh W8
abbrev Yr:=rX W8
abbrev Ys(N:Nat)(S0:Nat->Prop)(w0:t_)(f:Func)(r:V)(p:S5 Nat)(s:St):Prop:=Good W8 N S0 w0 (bodyPost W8 f (uB S0 w0 r)) (at_ p (Ed f)) s
instance:Tb W8 tab:=⟨BV⟩
abbrev eS{ρ:Type}(f:Nat)(args:S5 V)(vr:ρ->V):ρ->Ev:=λr=>.c (yh W8 f args (vr r)) (vr r)
abbrev eH{ρ:Type}(f:Nat)(h0:S5 (Nat×B))(args:S5 V)(h1:ρ->S5 (Nat×B))(vr:ρ->V):ρ->Ev:=λr=>.h (rX W8 f h0 args (h1 r) (vr r)) (h1 r) (vr r)
abbrev LS{R:Type}(z:Zw)(fn:Func)(gO:S5 Nat)(o:S6 R)(vr:R->V)(st:St):Prop:=rQ W8 fn.ntmps z (qS W8 fn z vr) (at_ gO (Ed fn)) st [] o
abbrev LH{R:Type}(z:Zw)(fn:Func)(gO:S5 Nat)(o:S6 R)(h1:R->S5 (Nat×B))(vr:R->V)(st:St):Prop:=rQ W8 fn.ntmps z (qH W8 fn z h1 vr) (at_ gO (Ed fn)) st [] o
class qg {ρ:Type} (o:Option (o7 ρ)) (f:outParam Nat) (h0:outParam (List (Nat×B))) (args:outParam (List V)) (v:outParam (ρ->V)):Prop where
 ok:∀{x},o=S8 x->Fi W8 f h0 args (oc v x)
class H' (f:Nat) (t:outParam Nat) (nm:outParam String):Prop where
 ok:BO W8 t nm f
abbrev LO{R:Type}(z:Zw)(fn:Func)(gO:S5 Nat)(o:S6 (o7 R))(vr:R->V)(st:St):Prop:=rQ W8 fn.ntmps z (qO W8 fn z (oc vr)) (at_ gO (Ed fn)) st [] o
theorem kT0{fn:Func}{z:Zw}{pF:S5 It}{ev:S5 Ev}{o:S6 (o7 ρ)}{k:ρ->qA->S6 (o7 R)}[q:qg o f h0 args v](bk:yG (vl acc [])->∀p:Prop,p->yG (vl (ev++.f p :: acc) []))
  (h:∀x g,yG (vl acc [])->rX W8 f h0 args [(100000,.box (qA.c g))] (v x)->∀r,k x g=S8 r->Good W8 fn.ntmps z.S z.w (qO W8 fn z (oc vr) r) pF st)
  (hp:∀pv,DW W8 fn.ntmps tab (ev++.f (Ao W8 f h0 args pv) :: acc) pv 1000 0 pF st (Bq (ev++.f (Ao W8 f h0 args pv) :: acc) [])=S8 (pv,vl (ev++.f (Ao W8 f h0 args pv) :: acc) [])) :
  rQ W8 fn.ntmps z (qO W8 fn z (oc vr)) pF st acc (tb o k):=λha r hr=>by
 obtain⟨x,h1,h2⟩:=vC hr
 have hc:=q.ok h1
 have uF:∀pv,Ao W8 f h0 args pv->Good W8 fn.ntmps z.S z.w (bodyPost W8 fn (Bs z.S z.w pv)) pF st:=λpv hc=>ZIz BV (hp pv) (wh (bk ha _ hc))
 cases x with
 |ret x g=>exact h x g ha hc r h2
 |uF u=>cases h2;exact uF _ hc
 |bad b=>cases h2;exact uF _ hc
theorem rI{fn:Func}{z:Zw}{pF:S5 It}{o:S6 (o7 ρ)}{k:ρ->qA->S6 (o7 R)}[q:qg o f h0 args v]
  (h:∀x g,rQ W8 fn.ntmps z (qO W8 fn z (oc vr)) pF st (.h (rX W8 f h0 args [(100000,.box (qA.c g))] (v x)) [(100000,.box (qA.c g))] (v x) :: acc) (k x g))
  (hp:∀pv,DW W8 fn.ntmps tab (.f (Ao W8 f h0 args pv) :: acc) pv 1000 0 pF st (Bq (.f (Ao W8 f h0 args pv) :: acc) [])=S8 (pv,vl (.f (Ao W8 f h0 args pv) :: acc) []):=by intro pv;kernel_rfl) :
  rQ W8 fn.ntmps z (qO W8 fn z (oc vr)) pF st acc (tb o k):=
 kT0 (ev:=[]) (λha p hp=>wi (e:=.f p) ha hp) (λx g ha hc r hr=>h x g (wi (e:=.h _ _ _) ha hc) r hr) hp
theorem ri{fn:Func}{z:Zw}{pF:S5 It}{o:S6 (o7 ρ)}{k:ρ->qA->S6 (o7 R)}[q:qg o f h0 args v]{nm:String}[m:H' f t nm]
  (h:∀x g,rQ W8 fn.ntmps z (qO W8 fn z (oc vr)) pF st (.i f (BO W8 t nm f) :: .h (rX W8 f h0 args [(100000,.box (qA.c g))] (v x)) [(100000,.box (qA.c g))] (v x) :: acc) (k x g))
  (hp:∀pv,DW W8 fn.ntmps tab (.i f (BO W8 t nm f) :: .f (Ao W8 f h0 args pv) :: acc) pv 1000 0 pF st (Bq (.i f (BO W8 t nm f) :: .f (Ao W8 f h0 args pv) :: acc) [])=S8 (pv,vl (.i f (BO W8 t nm f) :: .f (Ao W8 f h0 args pv) :: acc) []):=by intro pv;kernel_rfl) :
  rQ W8 fn.ntmps z (qO W8 fn z (oc vr)) pF st acc (tb o k):=
 kT0 (ev:=[.i f (BO W8 t nm f)]) (λha p hp=>wi (e:=.i _ _) (wi (e:=.f p) ha hp) m.ok) (λx g ha hc r hr=>h x g (wi (e:=.i _ _) (wi (e:=.h _ _ _) ha hc) m.ok) r hr) hp
theorem kO{fn:Func}{o:S6 (o7 R)}(hf:W8.funcs[f]?=S8 fn)(h:∀{z:Zw},rQ W8 fn.ntmps z (qO W8 fn z (oc vr)) [.code (Ed fn)] (St.tS args h0) [] o)(hb:DY fn args.length=true:=by kernel_rfl):qg o f h0 args vr:=
 ⟨λ{r} hr=>by obtain⟨b1,b2,b3⟩:=ZyY hb;exact Fi.of hf b1 b2 rfl b3 λS0 w0=>h (z:=⟨S0,w0⟩) trivial r hr⟩
instance : H' 421 84 "Drop" := ⟨ZUE⟩
instance : H' 422 84 "Free" := ⟨ZUD⟩
instance : H' 423 84 "Load" := ⟨RY⟩
instance : H' 424 84 "Lock" := ⟨ZUC⟩
instance : H' 425 84 "Pass" := ⟨ZUB⟩
instance : H' 426 84 "Share" := ⟨ZRK⟩
instance : H' 427 84 "Store" := ⟨ZRJ⟩
instance : H' 428 84 "Swap" := ⟨ZUA⟩
abbrev ol{α:Type}(n:Nat)(t s:Nat)(e:α->S5 C)(d:α)(l:S5 α):S5 (Nat×B):=[oj n t s e d l]
abbrev ov{α:Type}(c:α->S5 C)(r:α):V:=.agg (c r)
abbrev oH{α:Type}(r:S5 α):V:=.one (.p8 99999 r.length)
end Go.Proofs.YtmcnjofonpkfmaaGreat
