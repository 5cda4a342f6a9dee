import Derived.Test.YtmnloegcpaahcaaGreatProg
import Derived.Shelf.Spec.SlicesInsertGrow
import Derived.Lib.Hide
import Derived.Test.YtmnloegcpaahcaaGreatBPlA
import Derived.Test.YtmnloegcpaahcaaGreatBGrow334
import Derived.Test.YtmnloegcpaahcaaGreatBAmPy
namespace Go.Proofs.YtmnloegcpaahcaaGreat
open Go.RowKit Go.Lib Go.Shelf
set_option linter.unusedVariables false
set_option maxRecDepth 100000
abbrev lX(x y:List Nat):NA:=⟨[],[],[],[],[],x,y,[]⟩
abbrev lY(b:List (Nat×List (Nat×C)))(x y:List Nat):NA:=⟨[],b,[],[],[],x,y,[]⟩
abbrev lZ(x y:List Nat)(z:List (Nat×Nat)):NA:=⟨[],[],[],[],[],x,y,z⟩
abbrev l5{α:Type}(n:Nat)(t s:Nat)(e:α->List C)(d:α)(l:List α):Nat×B:=(n,.rows t s l.length (Zam e d l))
abbrev l7(f a b:Nat)(x y:List C):C:=.clo (.func f) a b (fun i=>x.getD i .junk) (fun i=>y.getD i .junk)
abbrev l8(x:List C):C:=.rp false x.length (fun j=>x.getD (0+j) .junk)
abbrev l9:=cI .i64
theorem mc{pa:Prop}(a:pa):Obl [pa]:=(.c a .n)
theorem mr{l:List Prop}{pa:Prop}(z:Obl l)(a:pa):Obl (l++[pa]):=z.app (mc a)
theorem md{pa pb:Prop}(a:pa)(b:pb):Obl [pa,pb]:=(.c a (.c b .n))
theorem mt{l:List Prop}{pa pb:Prop}(z:Obl l)(a:pa)(b:pb):Obl (l++[pa,pb]):=z.app (md a b)
theorem me{pa pb pc:Prop}(a:pa)(b:pb)(c:pc):Obl [pa,pb,pc]:=(.c a (.c b (.c c .n)))
theorem mu{l:List Prop}{pa pb pc:Prop}(z:Obl l)(a:pa)(b:pb)(c:pc):Obl (l++[pa,pb,pc]):=z.app (me a b c)
theorem mf{pa pb pc pd:Prop}(a:pa)(b:pb)(c:pc)(d:pd):Obl [pa,pb,pc,pd]:=(.c a (.c b (.c c (.c d .n))))
theorem mw{l:List Prop}{pa pb pc pd:Prop}(z:Obl l)(a:pa)(b:pb)(c:pc)(d:pd):Obl (l++[pa,pb,pc,pd]):=z.app (mf a b c d)
theorem mg{pa pb pc pd pe:Prop}(a:pa)(b:pb)(c:pc)(d:pd)(e:pe):Obl [pa,pb,pc,pd,pe]:=(.c a (.c b (.c c (.c d (.c e .n)))))
theorem my{l:List Prop}{pa pb pc pd pe:Prop}(z:Obl l)(a:pa)(b:pb)(c:pc)(d:pd)(e:pe):Obl (l++[pa,pb,pc,pd,pe]):=z.app (mg a b c d e)
theorem mh{pa pb pc pd pe pf:Prop}(a:pa)(b:pb)(c:pc)(d:pd)(e:pe)(f:pf):Obl [pa,pb,pc,pd,pe,pf]:=(.c a (.c b (.c c (.c d (.c e (.c f .n))))))
theorem mz{l:List Prop}{pa pb pc pd pe pf:Prop}(z:Obl l)(a:pa)(b:pb)(c:pc)(d:pd)(e:pe)(f:pf):Obl (l++[pa,pb,pc,pd,pe,pf]):=z.app (mh a b c d e f)
theorem mi{pa pb pc pd pe pf pg:Prop}(a:pa)(b:pb)(c:pc)(d:pd)(e:pe)(f:pf)(g:pg):Obl [pa,pb,pc,pd,pe,pf,pg]:=(.c a (.c b (.c c (.c d (.c e (.c f (.c g .n)))))))
theorem mA{l:List Prop}{pa pb pc pd pe pf pg:Prop}(z:Obl l)(a:pa)(b:pb)(c:pc)(d:pd)(e:pe)(f:pf)(g:pg):Obl (l++[pa,pb,pc,pd,pe,pf,pg]):=z.app (mi a b c d e f g)
theorem mj{pa pb pc pd pe pf pg ph:Prop}(a:pa)(b:pb)(c:pc)(d:pd)(e:pe)(f:pf)(g:pg)(h:ph):Obl [pa,pb,pc,pd,pe,pf,pg,ph]:=(.c a (.c b (.c c (.c d (.c e (.c f (.c g (.c h .n))))))))
theorem mB{l:List Prop}{pa pb pc pd pe pf pg ph:Prop}(z:Obl l)(a:pa)(b:pb)(c:pc)(d:pd)(e:pe)(f:pf)(g:pg)(h:ph):Obl (l++[pa,pb,pc,pd,pe,pf,pg,ph]):=z.app (mj a b c d e f g h)
theorem ml{pa pb pc pd pe pf pg ph pi:Prop}(a:pa)(b:pb)(c:pc)(d:pd)(e:pe)(f:pf)(g:pg)(h:ph)(i:pi):Obl [pa,pb,pc,pd,pe,pf,pg,ph,pi]:=(.c a (.c b (.c c (.c d (.c e (.c f (.c g (.c h (.c i .n)))))))))
theorem mC{l:List Prop}{pa pb pc pd pe pf pg ph pi:Prop}(z:Obl l)(a:pa)(b:pb)(c:pc)(d:pd)(e:pe)(f:pf)(g:pg)(h:ph)(i:pi):Obl (l++[pa,pb,pc,pd,pe,pf,pg,ph,pi]):=z.app (ml a b c d e f g h i)
theorem mn{pa pb pc pd pe pf pg ph pi pj:Prop}(a:pa)(b:pb)(c:pc)(d:pd)(e:pe)(f:pf)(g:pg)(h:ph)(i:pi)(j:pj):Obl [pa,pb,pc,pd,pe,pf,pg,ph,pi,pj]:=(.c a (.c b (.c c (.c d (.c e (.c f (.c g (.c h (.c i (.c j .n))))))))))
theorem mD{l:List Prop}{pa pb pc pd pe pf pg ph pi pj:Prop}(z:Obl l)(a:pa)(b:pb)(c:pc)(d:pd)(e:pe)(f:pf)(g:pg)(h:ph)(i:pi)(j:pj):Obl (l++[pa,pb,pc,pd,pe,pf,pg,ph,pi,pj]):=z.app (mn a b c d e f g h i j)
theorem mF{α:Type}{e:α->List C}(d:α)(sz:Nat)(he:∀x,(e x).length=sz)(l:List α):l.length=l.length/\∀i j,i<l.length->j<sz->Zam e d l i j=(l.flatMap e).getD (i * sz+j) .junk:=⟨rfl,fun i j hi hj=>ZaT he l i j hi hj⟩
theorem mI{α:Type}{e:α->List C}(d:α)(sz:Nat)(he:∀x,(e x).length=sz)(l:List α):∀i j,i<l.length->j<sz->Zam e d l i j=(l.flatMap e).getD (i * sz+j) .junk:=fun i j hi hj=>ZaT he l i j hi hj
theorem mH{α:Type}(a:α):a=a:=rfl
theorem mJ(x:Int)(h:decide (0<=x)=true):0<=x:=of_decide_eq_true h
structure Zax where
 fGroup:Int
 fPing:Int
 fWork:Int
 fTime:Int
 deriving DecidableEq
def Zax.d:Zax:=⟨(0:Int),(0:Int),(0:Int),(0:Int)⟩
def Zax.c(a:Zax):List C:=[.lit (.int .i64 a.fGroup),.lit (.int .i64 a.fPing),.lit (.int .i64 a.fWork),.lit (.int .i64 a.fTime)]
def Zax.ok(a:Zax):Prop:=(okI .i64) a.fGroup/\(okI .i64) a.fPing/\(okI .i64) a.fWork/\(okI .i64) a.fTime/\True
theorem Zvd:Opn Tryz.prog 24 Zax.c Zax.ok:=Zhz (ea:=(cP (cI .i64) (cP (cI .i64) (cP (cI .i64) (cP (cI .i64) cU))))) (oa:=(okP (okI .i64) (okP (okI .i64) (okP (okI .i64) (okP (okI .i64) okU))))) (N:=4) Tryz.underlying24 (by kernel_rfl) (Zbv (sz:=1) rfl rfl (by kernel_rfl) (Zek Tryz.underlying3) (Zbv (sz:=1) rfl rfl (by kernel_rfl) (Zek Tryz.underlying3) (Zbv (sz:=1) rfl rfl (by kernel_rfl) (Zek Tryz.underlying3) (Zbv (sz:=1) rfl rfl (by kernel_rfl) (Zek Tryz.underlying3) Zkq)))) (fun(a:Int×Int×Int×Int×Unit)=>(⟨a.1,a.2.1,a.2.2.1,a.2.2.2.1⟩ : Zax)) (fun _=>rfl) (fun _ h=>h)
structure ZaA where
 fMaxIn:Int
 fMaxOut:Int
 fShards:Int
 fMaxBans:Int
 fMaxBook:Int
 fSecret:Int
 fQuota:Zax
 fHalf:Int
 fLimit:Int
 fBanFor:Int
 fBase:Int
 fCap:Int
 fJitter:Int
 deriving DecidableEq
def ZaA.d:ZaA:=⟨(0:Int),(0:Int),(0:Int),(0:Int),(0:Int),(0:Int),Zax.d,(0:Int),(0:Int),(0:Int),(0:Int),(0:Int),(0:Int)⟩
def ZaA.c(a:ZaA):List C:=[.lit (.int .i64 a.fMaxIn),.lit (.int .i64 a.fMaxOut),.lit (.int .i64 a.fShards),.lit (.int .i64 a.fMaxBans),.lit (.int .i64 a.fMaxBook),.lit (.int .u64 a.fSecret),.lit (.int .i64 a.fQuota.fGroup),.lit (.int .i64 a.fQuota.fPing),.lit (.int .i64 a.fQuota.fWork),.lit (.int .i64 a.fQuota.fTime),.lit (.int .i64 a.fHalf),.lit (.int .i64 a.fLimit),.lit (.int .i64 a.fBanFor),.lit (.int .i64 a.fBase),.lit (.int .i64 a.fCap),.lit (.int .i64 a.fJitter)]
def ZaA.ok(a:ZaA):Prop:=(okI .i64) a.fMaxIn/\(okI .i64) a.fMaxOut/\(okI .i64) a.fShards/\(okI .i64) a.fMaxBans/\(okI .i64) a.fMaxBook/\(okI .u64) a.fSecret/\Zax.ok a.fQuota/\(okI .i64) a.fHalf/\(okI .i64) a.fLimit/\(okI .i64) a.fBanFor/\(okI .i64) a.fBase/\(okI .i64) a.fCap/\(okI .i64) a.fJitter/\True
theorem Zwz:Opn Tryz.prog 26 ZaA.c ZaA.ok:=Zhz (ea:=(cP (cI .i64) (cP (cI .i64) (cP (cI .i64) (cP (cI .i64) (cP (cI .i64) (cP (cI .u64) (cP Zax.c (cP (cI .i64) (cP (cI .i64) (cP (cI .i64) (cP (cI .i64) (cP (cI .i64) (cP (cI .i64) cU)))))))))))))) (oa:=(okP (okI .i64) (okP (okI .i64) (okP (okI .i64) (okP (okI .i64) (okP (okI .i64) (okP (okI .u64) (okP Zax.ok (okP (okI .i64) (okP (okI .i64) (okP (okI .i64) (okP (okI .i64) (okP (okI .i64) (okP (okI .i64) okU)))))))))))))) (N:=16) Tryz.underlying26 (by kernel_rfl) (Zbv (sz:=1) rfl rfl (by kernel_rfl) (Zek Tryz.underlying3) (Zbv (sz:=1) rfl rfl (by kernel_rfl) (Zek Tryz.underlying3) (Zbv (sz:=1) rfl rfl (by kernel_rfl) (Zek Tryz.underlying3) (Zbv (sz:=1) rfl rfl (by kernel_rfl) (Zek Tryz.underlying3) (Zbv (sz:=1) rfl rfl (by kernel_rfl) (Zek Tryz.underlying3) (Zbv (sz:=1) rfl rfl (by kernel_rfl) (Zek Tryz.underlying22) (Zbv (sz:=4) rfl rfl (by kernel_rfl) Zvd (Zbv (sz:=1) rfl rfl (by kernel_rfl) (Zek Tryz.underlying3) (Zbv (sz:=1) rfl rfl (by kernel_rfl) (Zek Tryz.underlying3) (Zbv (sz:=1) rfl rfl (by kernel_rfl) (Zek Tryz.underlying3) (Zbv (sz:=1) rfl rfl (by kernel_rfl) (Zek Tryz.underlying3) (Zbv (sz:=1) rfl rfl (by kernel_rfl) (Zek Tryz.underlying3) (Zbv (sz:=1) rfl rfl (by kernel_rfl) (Zek Tryz.underlying3) Zkq))))))))))))) (fun(a:Int×Int×Int×Int×Int×Int×Zax×Int×Int×Int×Int×Int×Int×Unit)=>(⟨a.1,a.2.1,a.2.2.1,a.2.2.2.1,a.2.2.2.2.1,a.2.2.2.2.2.1,a.2.2.2.2.2.2.1,a.2.2.2.2.2.2.2.1,a.2.2.2.2.2.2.2.2.1,a.2.2.2.2.2.2.2.2.2.1,a.2.2.2.2.2.2.2.2.2.2.1,a.2.2.2.2.2.2.2.2.2.2.2.1,a.2.2.2.2.2.2.2.2.2.2.2.2.1⟩ : ZaA)) (fun _=>rfl) (fun _ h=>h)
structure Zaf where
 fV6:Bool
 fHi:Int
 fLo:Int
 deriving DecidableEq
def Zaf.d:Zaf:=⟨false,(0:Int),(0:Int)⟩
def Zaf.c(a:Zaf):List C:=[.lit (.bool a.fV6),.lit (.int .u64 a.fHi),.lit (.int .u64 a.fLo)]
def Zaf.ok(a:Zaf):Prop:=okB a.fV6/\(okI .u64) a.fHi/\(okI .u64) a.fLo/\True
theorem Zrw:Opn Tryz.prog 28 Zaf.c Zaf.ok:=Zhz (ea:=(cP cB (cP (cI .u64) (cP (cI .u64) cU)))) (oa:=(okP okB (okP (okI .u64) (okP (okI .u64) okU)))) (N:=3) Tryz.underlying28 (by kernel_rfl) (Zbv (sz:=1) rfl rfl (by kernel_rfl) (Zyh Tryz.underlying4) (Zbv (sz:=1) rfl rfl (by kernel_rfl) (Zek Tryz.underlying22) (Zbv (sz:=1) rfl rfl (by kernel_rfl) (Zek Tryz.underlying22) Zkq))) (fun(a:Bool×Int×Int×Unit)=>(⟨a.1,a.2.1,a.2.2.1⟩ : Zaf)) (fun _=>rfl) (fun _ h=>h)
structure Zal where
 fAddr:Zaf
 fPort:Int
 deriving DecidableEq
def Zal.d:Zal:=⟨Zaf.d,(0:Int)⟩
def Zal.c(a:Zal):List C:=[.lit (.bool a.fAddr.fV6),.lit (.int .u64 a.fAddr.fHi),.lit (.int .u64 a.fAddr.fLo),.lit (.int .i64 a.fPort)]
def Zal.ok(a:Zal):Prop:=Zaf.ok a.fAddr/\(okI .i64) a.fPort/\True
theorem Zpb:Opn Tryz.prog 30 Zal.c Zal.ok:=Zhz (ea:=(cP Zaf.c (cP (cI .i64) cU))) (oa:=(okP Zaf.ok (okP (okI .i64) okU))) (N:=4) Tryz.underlying30 (by kernel_rfl) (Zbv (sz:=3) rfl rfl (by kernel_rfl) Zrw (Zbv (sz:=1) rfl rfl (by kernel_rfl) (Zek Tryz.underlying3) Zkq)) (fun(a:Zaf×Int×Unit)=>(⟨a.1,a.2.1⟩ : Zal)) (fun _=>rfl) (fun _ h=>h)
structure Zap where
 fAddr:Zaf
 fBits:Int
 deriving DecidableEq
def Zap.d:Zap:=⟨Zaf.d,(0:Int)⟩
def Zap.c(a:Zap):List C:=[.lit (.bool a.fAddr.fV6),.lit (.int .u64 a.fAddr.fHi),.lit (.int .u64 a.fAddr.fLo),.lit (.int .i64 a.fBits)]
def Zap.ok(a:Zap):Prop:=Zaf.ok a.fAddr/\(okI .i64) a.fBits/\True
theorem Zsn:Opn Tryz.prog 32 Zap.c Zap.ok:=Zhz (ea:=(cP Zaf.c (cP (cI .i64) cU))) (oa:=(okP Zaf.ok (okP (okI .i64) okU))) (N:=4) Tryz.underlying32 (by kernel_rfl) (Zbv (sz:=3) rfl rfl (by kernel_rfl) Zrw (Zbv (sz:=1) rfl rfl (by kernel_rfl) (Zek Tryz.underlying3) Zkq)) (fun(a:Zaf×Int×Unit)=>(⟨a.1,a.2.1⟩ : Zap)) (fun _=>rfl) (fun _ h=>h)
structure ZaB where
 fKind:Int
 fEnd:Zal
 fNet:Zap
 fNow:Int
 fNum:Int
 fGood:Bool
 deriving DecidableEq
def ZaB.d:ZaB:=⟨(0:Int),Zal.d,Zap.d,(0:Int),(0:Int),false⟩
def ZaB.c(a:ZaB):List C:=[.lit (.int .i64 a.fKind),.lit (.bool a.fEnd.fAddr.fV6),.lit (.int .u64 a.fEnd.fAddr.fHi),.lit (.int .u64 a.fEnd.fAddr.fLo),.lit (.int .i64 a.fEnd.fPort),.lit (.bool a.fNet.fAddr.fV6),.lit (.int .u64 a.fNet.fAddr.fHi),.lit (.int .u64 a.fNet.fAddr.fLo),.lit (.int .i64 a.fNet.fBits),.lit (.int .i64 a.fNow),.lit (.int .i64 a.fNum),.lit (.bool a.fGood)]
def ZaB.ok(a:ZaB):Prop:=(okI .i64) a.fKind/\Zal.ok a.fEnd/\Zap.ok a.fNet/\(okI .i64) a.fNow/\(okI .i64) a.fNum/\okB a.fGood/\True
theorem ZwA:Opn Tryz.prog 34 ZaB.c ZaB.ok:=Zhz (ea:=(cP (cI .i64) (cP Zal.c (cP Zap.c (cP (cI .i64) (cP (cI .i64) (cP cB cU))))))) (oa:=(okP (okI .i64) (okP Zal.ok (okP Zap.ok (okP (okI .i64) (okP (okI .i64) (okP okB okU))))))) (N:=12) Tryz.underlying34 (by kernel_rfl) (Zbv (sz:=1) rfl rfl (by kernel_rfl) (Zek Tryz.underlying3) (Zbv (sz:=4) rfl rfl (by kernel_rfl) Zpb (Zbv (sz:=4) rfl rfl (by kernel_rfl) Zsn (Zbv (sz:=1) rfl rfl (by kernel_rfl) (Zek Tryz.underlying3) (Zbv (sz:=1) rfl rfl (by kernel_rfl) (Zek Tryz.underlying3) (Zbv (sz:=1) rfl rfl (by kernel_rfl) (Zyh Tryz.underlying4) Zkq)))))) (fun(a:Int×Zal×Zap×Int×Int×Bool×Unit)=>(⟨a.1,a.2.1,a.2.2.1,a.2.2.2.1,a.2.2.2.2.1,a.2.2.2.2.2.1⟩ : ZaB)) (fun _=>rfl) (fun _ h=>h)
structure ZaD where
 fPoints:Int
 fAt:Int
 deriving DecidableEq
def ZaD.d:ZaD:=⟨(0:Int),(0:Int)⟩
def ZaD.c(a:ZaD):List C:=[.lit (.int .i64 a.fPoints),.lit (.int .i64 a.fAt)]
def ZaD.ok(a:ZaD):Prop:=(okI .i64) a.fPoints/\(okI .i64) a.fAt/\True
theorem Zvc:Opn Tryz.prog 42 ZaD.c ZaD.ok:=Zhz (ea:=(cP (cI .i64) (cP (cI .i64) cU))) (oa:=(okP (okI .i64) (okP (okI .i64) okU))) (N:=2) Tryz.underlying42 (by kernel_rfl) (Zbv (sz:=1) rfl rfl (by kernel_rfl) (Zek Tryz.underlying3) (Zbv (sz:=1) rfl rfl (by kernel_rfl) (Zek Tryz.underlying3) Zkq)) (fun(a:Int×Int×Unit)=>(⟨a.1,a.2.1⟩ : ZaD)) (fun _=>rfl) (fun _ h=>h)
structure Zaa where
 fEnd:Zal
 fIn:Bool
 fSince:Int
 fScore:ZaD
 fPing:Int
 fWork:Int
 deriving DecidableEq
def Zaa.d:Zaa:=⟨Zal.d,false,(0:Int),ZaD.d,(0:Int),(0:Int)⟩
def Zaa.c(a:Zaa):List C:=[.lit (.bool a.fEnd.fAddr.fV6),.lit (.int .u64 a.fEnd.fAddr.fHi),.lit (.int .u64 a.fEnd.fAddr.fLo),.lit (.int .i64 a.fEnd.fPort),.lit (.bool a.fIn),.lit (.int .i64 a.fSince),.lit (.int .i64 a.fScore.fPoints),.lit (.int .i64 a.fScore.fAt),.lit (.int .i64 a.fPing),.lit (.int .i64 a.fWork)]
def Zaa.ok(a:Zaa):Prop:=Zal.ok a.fEnd/\okB a.fIn/\(okI .i64) a.fSince/\ZaD.ok a.fScore/\(okI .i64) a.fPing/\(okI .i64) a.fWork/\True
theorem Zwy:Opn Tryz.prog 44 Zaa.c Zaa.ok:=Zhz (ea:=(cP Zal.c (cP cB (cP (cI .i64) (cP ZaD.c (cP (cI .i64) (cP (cI .i64) cU))))))) (oa:=(okP Zal.ok (okP okB (okP (okI .i64) (okP ZaD.ok (okP (okI .i64) (okP (okI .i64) okU))))))) (N:=10) Tryz.underlying44 (by kernel_rfl) (Zbv (sz:=4) rfl rfl (by kernel_rfl) Zpb (Zbv (sz:=1) rfl rfl (by kernel_rfl) (Zyh Tryz.underlying4) (Zbv (sz:=1) rfl rfl (by kernel_rfl) (Zek Tryz.underlying3) (Zbv (sz:=2) rfl rfl (by kernel_rfl) Zvc (Zbv (sz:=1) rfl rfl (by kernel_rfl) (Zek Tryz.underlying3) (Zbv (sz:=1) rfl rfl (by kernel_rfl) (Zek Tryz.underlying3) Zkq)))))) (fun(a:Zal×Bool×Int×ZaD×Int×Int×Unit)=>(⟨a.1,a.2.1,a.2.2.1,a.2.2.2.1,a.2.2.2.2.1,a.2.2.2.2.2.1⟩ : Zaa)) (fun _=>rfl) (fun _ h=>h)
structure Zae where
 fNet:Zap
 fUntil:Int
 deriving DecidableEq
def Zae.d:Zae:=⟨Zap.d,(0:Int)⟩
def Zae.c(a:Zae):List C:=[.lit (.bool a.fNet.fAddr.fV6),.lit (.int .u64 a.fNet.fAddr.fHi),.lit (.int .u64 a.fNet.fAddr.fLo),.lit (.int .i64 a.fNet.fBits),.lit (.int .i64 a.fUntil)]
def Zae.ok(a:Zae):Prop:=Zap.ok a.fNet/\(okI .i64) a.fUntil/\True
theorem Zyi:Opn Tryz.prog 94 Zae.c Zae.ok:=Zhz (ea:=(cP Zap.c (cP (cI .i64) cU))) (oa:=(okP Zap.ok (okP (okI .i64) okU))) (N:=5) Tryz.underlying94 (by kernel_rfl) (Zbv (sz:=4) rfl rfl (by kernel_rfl) Zsn (Zbv (sz:=1) rfl rfl (by kernel_rfl) (Zek Tryz.underlying3) Zkq)) (fun(a:Zap×Int×Unit)=>(⟨a.1,a.2.1⟩ : Zae)) (fun _=>rfl) (fun _ h=>h)
structure Zac where
 fEnd:Zal
 fState:Int
 fFails:Int
 fNext:Int
 deriving DecidableEq
def Zac.d:Zac:=⟨Zal.d,(0:Int),(0:Int),(0:Int)⟩
def Zac.c(a:Zac):List C:=[.lit (.bool a.fEnd.fAddr.fV6),.lit (.int .u64 a.fEnd.fAddr.fHi),.lit (.int .u64 a.fEnd.fAddr.fLo),.lit (.int .i64 a.fEnd.fPort),.lit (.int .i64 a.fState),.lit (.int .i64 a.fFails),.lit (.int .i64 a.fNext)]
def Zac.ok(a:Zac):Prop:=Zal.ok a.fEnd/\(okI .i64) a.fState/\(okI .i64) a.fFails/\(okI .i64) a.fNext/\True
theorem Zve:Opn Tryz.prog 113 Zac.c Zac.ok:=Zhz (ea:=(cP Zal.c (cP (cI .i64) (cP (cI .i64) (cP (cI .i64) cU))))) (oa:=(okP Zal.ok (okP (okI .i64) (okP (okI .i64) (okP (okI .i64) okU))))) (N:=7) Tryz.underlying113 (by kernel_rfl) (Zbv (sz:=4) rfl rfl (by kernel_rfl) Zpb (Zbv (sz:=1) rfl rfl (by kernel_rfl) (Zek Tryz.underlying3) (Zbv (sz:=1) rfl rfl (by kernel_rfl) (Zek Tryz.underlying3) (Zbv (sz:=1) rfl rfl (by kernel_rfl) (Zek Tryz.underlying3) Zkq)))) (fun(a:Zal×Int×Int×Int×Unit)=>(⟨a.1,a.2.1,a.2.2.1,a.2.2.2.1⟩ : Zac)) (fun _=>rfl) (fun _ h=>h)
structure Zag where
 fN:Int
 fPeer:Zaa
 fBans:(List Zae)
 fBook:(List Zac)
def Zag.d:Zag:=⟨(0:Int),Zaa.d,([]:(List Zae)),([]:(List Zac))⟩
def Zag.c(a:Zag):List C:=[.lit (.int .i64 a.fN),.lit (.bool a.fPeer.fEnd.fAddr.fV6),.lit (.int .u64 a.fPeer.fEnd.fAddr.fHi),.lit (.int .u64 a.fPeer.fEnd.fAddr.fLo),.lit (.int .i64 a.fPeer.fEnd.fPort),.lit (.bool a.fPeer.fIn),.lit (.int .i64 a.fPeer.fSince),.lit (.int .i64 a.fPeer.fScore.fPoints),.lit (.int .i64 a.fPeer.fScore.fAt),.lit (.int .i64 a.fPeer.fPing),.lit (.int .i64 a.fPeer.fWork),cL 5 Zae.c Zae.d a.fBans,cL 7 Zac.c Zac.d a.fBook]
def Zag.ok(a:Zag):Prop:=(okI .i64) a.fN/\Zaa.ok a.fPeer/\(okL Zae.ok) a.fBans/\(okL Zac.ok) a.fBook/\True
structure Zay where
 fKind:Int
 fShard:Int
 fSlot:Int
 deriving DecidableEq
def Zay.d:Zay:=⟨(0:Int),(0:Int),(0:Int)⟩
def Zay.c(a:Zay):List C:=[.lit (.int .i64 a.fKind),.lit (.int .i64 a.fShard),.lit (.int .i64 a.fSlot)]
def Zay.ok(a:Zay):Prop:=(okI .i64) a.fKind/\(okI .i64) a.fShard/\(okI .i64) a.fSlot/\True
structure ZaK where
 fKind:Int
 fLock:Int
 fLoc:Zay
 fOld:Int
 fNew:Int
 fVal:Zag
 fMark:Bool
def ZaK.d:ZaK:=⟨(0:Int),(0:Int),Zay.d,(0:Int),(0:Int),Zag.d,false⟩
def ZaK.c(a:ZaK):List C:=[.lit (.int .i64 a.fKind),.lit (.int .i64 a.fLock),.lit (.int .i64 a.fLoc.fKind),.lit (.int .i64 a.fLoc.fShard),.lit (.int .i64 a.fLoc.fSlot),.lit (.int .i64 a.fOld),.lit (.int .i64 a.fNew),.lit (.int .i64 a.fVal.fN),.lit (.bool a.fVal.fPeer.fEnd.fAddr.fV6),.lit (.int .u64 a.fVal.fPeer.fEnd.fAddr.fHi),.lit (.int .u64 a.fVal.fPeer.fEnd.fAddr.fLo),.lit (.int .i64 a.fVal.fPeer.fEnd.fPort),.lit (.bool a.fVal.fPeer.fIn),.lit (.int .i64 a.fVal.fPeer.fSince),.lit (.int .i64 a.fVal.fPeer.fScore.fPoints),.lit (.int .i64 a.fVal.fPeer.fScore.fAt),.lit (.int .i64 a.fVal.fPeer.fPing),.lit (.int .i64 a.fVal.fPeer.fWork),cL 5 Zae.c Zae.d a.fVal.fBans,cL 7 Zac.c Zac.d a.fVal.fBook,.lit (.bool a.fMark)]
def ZaK.ok(a:ZaK):Prop:=(okI .i64) a.fKind/\(okI .i64) a.fLock/\Zay.ok a.fLoc/\(okI .i64) a.fOld/\(okI .i64) a.fNew/\Zag.ok a.fVal/\okB a.fMark/\True
structure Zau where
 fCode:Int
 fEnd:Zal
 fN:Int
 fUntil:Int
 fPeers:(List Zaa)
def Zau.d:Zau:=⟨(0:Int),Zal.d,(0:Int),(0:Int),([]:(List Zaa))⟩
def Zau.c(a:Zau):List C:=[.lit (.int .i64 a.fCode),.lit (.bool a.fEnd.fAddr.fV6),.lit (.int .u64 a.fEnd.fAddr.fHi),.lit (.int .u64 a.fEnd.fAddr.fLo),.lit (.int .i64 a.fEnd.fPort),.lit (.int .i64 a.fN),.lit (.int .i64 a.fUntil),cL 10 Zaa.c Zaa.d a.fPeers]
def Zau.ok(a:Zau):Prop:=(okI .i64) a.fCode/\Zal.ok a.fEnd/\(okI .i64) a.fN/\(okI .i64) a.fUntil/\(okL Zaa.ok) a.fPeers/\True
structure Zcy where
 fOp:ZaK
 fReply:Zau
 fDone:Bool
 fBroken:Bool
def Zcy.d:Zcy:=⟨ZaK.d,Zau.d,false,false⟩
def Zcy.c(a:Zcy):List C:=[.lit (.int .i64 a.fOp.fKind),.lit (.int .i64 a.fOp.fLock),.lit (.int .i64 a.fOp.fLoc.fKind),.lit (.int .i64 a.fOp.fLoc.fShard),.lit (.int .i64 a.fOp.fLoc.fSlot),.lit (.int .i64 a.fOp.fOld),.lit (.int .i64 a.fOp.fNew),.lit (.int .i64 a.fOp.fVal.fN),.lit (.bool a.fOp.fVal.fPeer.fEnd.fAddr.fV6),.lit (.int .u64 a.fOp.fVal.fPeer.fEnd.fAddr.fHi),.lit (.int .u64 a.fOp.fVal.fPeer.fEnd.fAddr.fLo),.lit (.int .i64 a.fOp.fVal.fPeer.fEnd.fPort),.lit (.bool a.fOp.fVal.fPeer.fIn),.lit (.int .i64 a.fOp.fVal.fPeer.fSince),.lit (.int .i64 a.fOp.fVal.fPeer.fScore.fPoints),.lit (.int .i64 a.fOp.fVal.fPeer.fScore.fAt),.lit (.int .i64 a.fOp.fVal.fPeer.fPing),.lit (.int .i64 a.fOp.fVal.fPeer.fWork),cL 5 Zae.c Zae.d a.fOp.fVal.fBans,cL 7 Zac.c Zac.d a.fOp.fVal.fBook,.lit (.bool a.fOp.fMark),.lit (.int .i64 a.fReply.fCode),.lit (.bool a.fReply.fEnd.fAddr.fV6),.lit (.int .u64 a.fReply.fEnd.fAddr.fHi),.lit (.int .u64 a.fReply.fEnd.fAddr.fLo),.lit (.int .i64 a.fReply.fEnd.fPort),.lit (.int .i64 a.fReply.fN),.lit (.int .i64 a.fReply.fUntil),cL 10 Zaa.c Zaa.d a.fReply.fPeers,.lit (.bool a.fDone),.lit (.bool a.fBroken)]
def Zcy.ok(a:Zcy):Prop:=ZaK.ok a.fOp/\Zau.ok a.fReply/\okB a.fDone/\okB a.fBroken/\True
structure Zas where
 fBans:(List Zae)
 fBook:(List Zac)
 fPeers:(List Zaa)
def Zas.d:Zas:=⟨([]:(List Zae)),([]:(List Zac)),([]:(List Zaa))⟩
def Zas.c(a:Zas):List C:=[cL 5 Zae.c Zae.d a.fBans,cL 7 Zac.c Zac.d a.fBook,cL 10 Zaa.c Zaa.d a.fPeers]
def Zas.ok(a:Zas):Prop:=(okL Zae.ok) a.fBans/\(okL Zac.ok) a.fBook/\(okL Zaa.ok) a.fPeers/\True
theorem Zvb:Opn Tryz.prog 65 Zas.c Zas.ok:=Zhz (ea:=(cP (cLs 5 Zae.c Zae.d) (cP (cLs 7 Zac.c Zac.d) (cP (cLs 10 Zaa.c Zaa.d) cU)))) (oa:=(okP (okL Zae.ok) (okP (okL Zac.ok) (okP (okL Zaa.ok) okU)))) (N:=3) Tryz.underlying65 (by kernel_rfl) (Zbv (sz:=1) rfl rfl (by kernel_rfl) (Zva (d:=Zae.d) Tryz.underlying45 (by kernel_rfl) (by decide) (fun _=>rfl) Zyi) (Zbv (sz:=1) rfl rfl (by kernel_rfl) (Zva (d:=Zac.d) Tryz.underlying46 (by kernel_rfl) (by decide) (fun _=>rfl) Zve) (Zbv (sz:=1) rfl rfl (by kernel_rfl) (Zva (d:=Zaa.d) Tryz.underlying54 (by kernel_rfl) (by decide) (fun _=>rfl) Zwy) Zkq))) (fun(a:(List Zae)×(List Zac)×(List Zaa)×Unit)=>(⟨a.1,a.2.1,a.2.2.1⟩ : Zas)) (fun _=>rfl) (fun _ h=>h)
structure Zab where
 fSize:Int
 fSlots:(List Zaa)
def Zab.d:Zab:=⟨(0:Int),([]:(List Zaa))⟩
def Zab.c(a:Zab):List C:=[.lit (.int .i64 a.fSize),cL 10 Zaa.c Zaa.d a.fSlots]
def Zab.ok(a:Zab):Prop:=(okI .i64) a.fSize/\(okL Zaa.ok) a.fSlots/\True
structure Zat where
 fBy:Int
 fShare:(List Int)
def Zat.d:Zat:=⟨(0:Int),([]:(List Int))⟩
def Zat.c(a:Zat):List C:=[.lit (.int .i64 a.fBy),cL 1 (cI .i64) (0:Int) a.fShare]
def Zat.ok(a:Zat):Prop:=(okI .i64) a.fBy/\(okL (okI .i64)) a.fShare/\True
structure ZaE where
 fIn:Int
 fOut:Int
 fBans:(List Zae)
 fBook:(List Zac)
 fShards:(List Zab)
 fLocks:(List Zat)
def ZaE.d:ZaE:=⟨(0:Int),(0:Int),([]:(List Zae)),([]:(List Zac)),([]:(List Zab)),([]:(List Zat))⟩
def ZaE.c(a:ZaE):List C:=[.lit (.int .i64 a.fIn),.lit (.int .i64 a.fOut),cL 5 Zae.c Zae.d a.fBans,cL 7 Zac.c Zac.d a.fBook,cL 2 Zab.c Zab.d a.fShards,cL 2 Zat.c Zat.d a.fLocks]
def ZaE.ok(a:ZaE):Prop:=(okI .i64) a.fIn/\(okI .i64) a.fOut/\(okL Zae.ok) a.fBans/\(okL Zac.ok) a.fBook/\(okL Zab.ok) a.fShards/\(okL Zat.ok) a.fLocks/\True
structure Zbj where
 fc:ZaA
 fx:ZaB
 deriving DecidableEq
def Zbj.d:Zbj:=⟨ZaA.d,ZaB.d⟩
def Zbj.c(a:Zbj):List C:=[.lit (.int .i64 a.fc.fMaxIn),.lit (.int .i64 a.fc.fMaxOut),.lit (.int .i64 a.fc.fShards),.lit (.int .i64 a.fc.fMaxBans),.lit (.int .i64 a.fc.fMaxBook),.lit (.int .u64 a.fc.fSecret),.lit (.int .i64 a.fc.fQuota.fGroup),.lit (.int .i64 a.fc.fQuota.fPing),.lit (.int .i64 a.fc.fQuota.fWork),.lit (.int .i64 a.fc.fQuota.fTime),.lit (.int .i64 a.fc.fHalf),.lit (.int .i64 a.fc.fLimit),.lit (.int .i64 a.fc.fBanFor),.lit (.int .i64 a.fc.fBase),.lit (.int .i64 a.fc.fCap),.lit (.int .i64 a.fc.fJitter),.lit (.int .i64 a.fx.fKind),.lit (.bool a.fx.fEnd.fAddr.fV6),.lit (.int .u64 a.fx.fEnd.fAddr.fHi),.lit (.int .u64 a.fx.fEnd.fAddr.fLo),.lit (.int .i64 a.fx.fEnd.fPort),.lit (.bool a.fx.fNet.fAddr.fV6),.lit (.int .u64 a.fx.fNet.fAddr.fHi),.lit (.int .u64 a.fx.fNet.fAddr.fLo),.lit (.int .i64 a.fx.fNet.fBits),.lit (.int .i64 a.fx.fNow),.lit (.int .i64 a.fx.fNum),.lit (.bool a.fx.fGood)]
def Zbj.ok(a:Zbj):Prop:=ZaA.ok a.fc/\ZaB.ok a.fx/\True
inductive ZrF where
 |c63 (e:Zbj)
def ZrF.c:ZrF->C | .c63 e=>.clo (.func 63) 1 0 (fun i=>([.agv 28 (fun j=>(Zbj.c e).getD j .junk)]:List C).getD i .junk) (fun i=>([]:List C).getD i .junk)
structure Zaq where
 fgot:(List Zag)
def Zaq.d:Zaq:=⟨([]:(List Zag))⟩
def Zaq.c(a:Zaq):List C:=[cLn 13 Zag.c Zag.d a.fgot]
structure Zaw where
 fNet:Zap
 fV:Int
 deriving DecidableEq
def Zaw.d:Zaw:=⟨Zap.d,(0:Int)⟩
def Zaw.c(a:Zaw):List C:=[.lit (.bool a.fNet.fAddr.fV6),.lit (.int .u64 a.fNet.fAddr.fHi),.lit (.int .u64 a.fNet.fAddr.fLo),.lit (.int .i64 a.fNet.fBits),.lit (.int .i64 a.fV)]
def Zaw.ok(a:Zaw):Prop:=Zap.ok a.fNet/\(okI .i64) a.fV/\True
inductive Zav where
 |nil
 |mk (a0:Zaw) (a1:Bool) (a2:Zav) (a3:Zav)
def Zav.isNil:Zav->Bool | .nil=>true | .mk _ _ _ _=>false
def Zav.cs:Zav->Nat->C | .nil=>fun _=>.junk | .mk a0 a1 a2 a3=>fun j=>([.lit (.bool a0.fNet.fAddr.fV6),.lit (.int .u64 a0.fNet.fAddr.fHi),.lit (.int .u64 a0.fNet.fAddr.fLo),.lit (.int .i64 a0.fNet.fBits),.lit (.int .i64 a0.fV),.lit (.bool a1),.rp a2.isNil 8 a2.cs,.rp a3.isNil 8 a3.cs]:List C).getD (0+j) .junk
def Zav.c(x:Zav):C:=.rp x.isNil 8 x.cs
inductive ZaG where
 |nil
 |mk (a0:Zav) (a1:Zav) (a2:Int)
def ZaG.isNil:ZaG->Bool | .nil=>true | .mk _ _ _=>false
def ZaG.cs:ZaG->Nat->C | .nil=>fun _=>.junk | .mk a0 a1 a2=>fun j=>([.rp a0.isNil 8 a0.cs,.rp a1.isNil 8 a1.cs,.lit (.int .i64 a2)]:List C).getD (0+j) .junk
def ZaG.c(x:ZaG):C:=.rp x.isNil 3 x.cs
structure ZiV where
 fhit:Zaw
 fhas:Bool
 fkids:(Zav×Zav)
def ZiV.d:ZiV:=⟨Zaw.d,false,(Zav.nil,Zav.nil)⟩
def ZiV.c(a:ZiV):List C:=[.lit (.bool a.fhit.fNet.fAddr.fV6),.lit (.int .u64 a.fhit.fNet.fAddr.fHi),.lit (.int .u64 a.fhit.fNet.fAddr.fLo),.lit (.int .i64 a.fhit.fNet.fBits),.lit (.int .i64 a.fhit.fV),.lit (.bool a.fhas),Zav.c a.fkids.1,Zav.c a.fkids.2]
structure Zbc where
 fby:Int
 fn:Int
 deriving DecidableEq
def Zbc.d:Zbc:=⟨(0:Int),(0:Int)⟩
def Zbc.c(a:Zbc):List C:=[.lit (.int .i64 a.fby),.lit (.int .i64 a.fn)]
def Zbc.ok(a:Zbc):Prop:=(okI .i64) a.fby/\(okI .i64) a.fn/\True
inductive Tout (α:Type) where
 |ret (x:α) (g:Zaq)
 |pan (op:ZaK)
 |bad (s:ByteArray)
def pvOf{α:Type} : {x:Tout α}->{e:Option (Tout α)}->e=some x->V | .ret _ _,_,_=>.one .junk | .pan op,_,_=>.one (.ifa 139 21 (fun i=>(ZaK.c op).getD i .junk)) | .bad s,_,_=>.one (.ifc 9 (.lit (.string s)))
def oc{α:Type}(v:α->V):Tout α->Outc | .ret x g=>.ret [(100000,.box (Zaq.c g))] (v x) | .pan op=>.pan (.one (.ifa 139 21 (fun i=>(ZaK.c op).getD i .junk))) | .bad s=>.pan (.one (.ifc 9 (.lit (.string s))))
theorem Zoq : Zte Tryz.prog 140 "Drop" 423 := fun x w => by kernel_rfl
theorem ZjA : Zte Tryz.prog 140 "Free" 424 := fun x w => by kernel_rfl
theorem Ztm : ZFo Tryz.prog 140 "Free" := fun x w => by kernel_rfl
theorem ZlH : Zte Tryz.prog 140 "Load" 425 := fun x w => by kernel_rfl
theorem Zxj : ZFo Tryz.prog 140 "Load" := fun x w => by kernel_rfl
theorem Zsr : Zte Tryz.prog 140 "Lock" 426 := fun x w => by kernel_rfl
theorem ZzU : Zte Tryz.prog 140 "Pass" 427 := fun x w => by kernel_rfl
theorem Zxk : Zte Tryz.prog 140 "Share" 428 := fun x w => by kernel_rfl
theorem ZqV : Zte Tryz.prog 140 "Store" 429 := fun x w => by kernel_rfl
theorem Zvj : ZFo Tryz.prog 140 "Store" := fun x w => by kernel_rfl
theorem ZzT : Zte Tryz.prog 140 "Swap" 430 := fun x w => by kernel_rfl
def tab:Tab:=[ (1,⟨.func,1,8,some (.nilFunc)⟩),(3,⟨.int .i64,1,8,some (.int .i64 (0))⟩),(4,⟨.bool,1,1,some (.bool false)⟩),(5,⟨.int .u8,1,1,some (.int .u8 (0))⟩),(9,⟨.str,1,16,some (.string ⟨#[]⟩)⟩),(20,⟨.iface,1,16,some (.nilIface)⟩),(22,⟨.int .u64,1,8,some (.int .u64 (0))⟩),(23,⟨.struct [(0,3),(1,3),(2,3),(3,3)],4,32,some (.agg #[.int .i64 (0),.int .i64 (0),.int .i64 (0),.int .i64 (0)])⟩),(24,⟨.struct [(0,3),(1,3),(2,3),(3,3)],4,32,some (.agg #[.int .i64 (0),.int .i64 (0),.int .i64 (0),.int .i64 (0)])⟩),(25,⟨.struct [(0,3),(1,3),(2,3),(3,3),(4,3),(5,22),(6,24),(10,3),(11,3),(12,3),(13,3),(14,3),(15,3)],16,128,some (.agg #[.int .i64 (0),.int .i64 (0),.int .i64 (0),.int .i64 (0),.int .i64 (0),.int .u64 (0),.int .i64 (0),.int .i64 (0),.int .i64 (0),.int .i64 (0),.int .i64 (0),.int .i64 (0),.int .i64 (0),.int .i64 (0),.int .i64 (0),.int .i64 (0)])⟩),(26,⟨.struct [(0,3),(1,3),(2,3),(3,3),(4,3),(5,22),(6,24),(10,3),(11,3),(12,3),(13,3),(14,3),(15,3)],16,128,some (.agg #[.int .i64 (0),.int .i64 (0),.int .i64 (0),.int .i64 (0),.int .i64 (0),.int .u64 (0),.int .i64 (0),.int .i64 (0),.int .i64 (0),.int .i64 (0),.int .i64 (0),.int .i64 (0),.int .i64 (0),.int .i64 (0),.int .i64 (0),.int .i64 (0)])⟩),(27,⟨.struct [(0,4),(1,22),(2,22)],3,24,some (.agg #[.bool false,.int .u64 (0),.int .u64 (0)])⟩),(28,⟨.struct [(0,4),(1,22),(2,22)],3,24,some (.agg #[.bool false,.int .u64 (0),.int .u64 (0)])⟩),(29,⟨.struct [(0,28),(3,3)],4,32,some (.agg #[.bool false,.int .u64 (0),.int .u64 (0),.int .i64 (0)])⟩),(30,⟨.struct [(0,28),(3,3)],4,32,some (.agg #[.bool false,.int .u64 (0),.int .u64 (0),.int .i64 (0)])⟩),(31,⟨.struct [(0,28),(3,3)],4,32,some (.agg #[.bool false,.int .u64 (0),.int .u64 (0),.int .i64 (0)])⟩),(32,⟨.struct [(0,28),(3,3)],4,32,some (.agg #[.bool false,.int .u64 (0),.int .u64 (0),.int .i64 (0)])⟩),(33,⟨.struct [(0,3),(1,30),(5,32),(9,3),(10,3),(11,4)],12,96,some (.agg #[.int .i64 (0),.bool false,.int .u64 (0),.int .u64 (0),.int .i64 (0),.bool false,.int .u64 (0),.int .u64 (0),.int .i64 (0),.int .i64 (0),.int .i64 (0),.bool false])⟩),(34,⟨.struct [(0,3),(1,30),(5,32),(9,3),(10,3),(11,4)],12,96,some (.agg #[.int .i64 (0),.bool false,.int .u64 (0),.int .u64 (0),.int .i64 (0),.bool false,.int .u64 (0),.int .u64 (0),.int .i64 (0),.int .i64 (0),.int .i64 (0),.bool false])⟩),(35,⟨.slice 48,1,24,some (.slice none 0 0)⟩),(39,⟨.struct [(0,3),(1,3),(2,3)],3,24,some (.agg #[.int .i64 (0),.int .i64 (0),.int .i64 (0)])⟩),(40,⟨.struct [(0,3),(1,3),(2,3)],3,24,some (.agg #[.int .i64 (0),.int .i64 (0),.int .i64 (0)])⟩),(41,⟨.struct [(0,3),(1,3)],2,16,some (.agg #[.int .i64 (0),.int .i64 (0)])⟩),(42,⟨.struct [(0,3),(1,3)],2,16,some (.agg #[.int .i64 (0),.int .i64 (0)])⟩),(43,⟨.struct [(0,30),(4,4),(5,3),(6,42),(8,3),(9,3)],10,80,some (.agg #[.bool false,.int .u64 (0),.int .u64 (0),.int .i64 (0),.bool false,.int .i64 (0),.int .i64 (0),.int .i64 (0),.int .i64 (0),.int .i64 (0)])⟩),(44,⟨.struct [(0,30),(4,4),(5,3),(6,42),(8,3),(9,3)],10,80,some (.agg #[.bool false,.int .u64 (0),.int .u64 (0),.int .i64 (0),.bool false,.int .i64 (0),.int .i64 (0),.int .i64 (0),.int .i64 (0),.int .i64 (0)])⟩),(45,⟨.slice 94,1,24,some (.slice none 0 0)⟩),(46,⟨.slice 113,1,24,some (.slice none 0 0)⟩),(47,⟨.struct [(0,3),(1,44),(11,45),(12,46)],13,136,some (.agg #[.int .i64 (0),.bool false,.int .u64 (0),.int .u64 (0),.int .i64 (0),.bool false,.int .i64 (0),.int .i64 (0),.int .i64 (0),.int .i64 (0),.int .i64 (0),.slice none 0 0,.slice none 0 0])⟩),(48,⟨.struct [(0,3),(1,44),(11,45),(12,46)],13,136,some (.agg #[.int .i64 (0),.bool false,.int .u64 (0),.int .u64 (0),.int .i64 (0),.bool false,.int .i64 (0),.int .i64 (0),.int .i64 (0),.int .i64 (0),.int .i64 (0),.slice none 0 0,.slice none 0 0])⟩),(49,⟨.struct [(0,3),(1,3),(2,40),(5,3),(6,3),(7,48),(20,4)],21,200,some (.agg #[.int .i64 (0),.int .i64 (0),.int .i64 (0),.int .i64 (0),.int .i64 (0),.int .i64 (0),.int .i64 (0),.int .i64 (0),.bool false,.int .u64 (0),.int .u64 (0),.int .i64 (0),.bool false,.int .i64 (0),.int .i64 (0),.int .i64 (0),.int .i64 (0),.int .i64 (0),.slice none 0 0,.slice none 0 0,.bool false])⟩),(50,⟨.struct [(0,3),(1,3),(2,40),(5,3),(6,3),(7,48),(20,4)],21,200,some (.agg #[.int .i64 (0),.int .i64 (0),.int .i64 (0),.int .i64 (0),.int .i64 (0),.int .i64 (0),.int .i64 (0),.int .i64 (0),.bool false,.int .u64 (0),.int .u64 (0),.int .i64 (0),.bool false,.int .i64 (0),.int .i64 (0),.int .i64 (0),.int .i64 (0),.int .i64 (0),.slice none 0 0,.slice none 0 0,.bool false])⟩),(53,⟨.int .i64,1,8,some (.int .i64 (0))⟩),(54,⟨.slice 44,1,24,some (.slice none 0 0)⟩),(55,⟨.struct [(0,53),(1,30),(5,3),(6,3),(7,54)],8,80,some (.agg #[.int .i64 (0),.bool false,.int .u64 (0),.int .u64 (0),.int .i64 (0),.int .i64 (0),.int .i64 (0),.slice none 0 0])⟩),(56,⟨.struct [(0,53),(1,30),(5,3),(6,3),(7,54)],8,80,some (.agg #[.int .i64 (0),.bool false,.int .u64 (0),.int .u64 (0),.int .i64 (0),.int .i64 (0),.int .i64 (0),.slice none 0 0])⟩),(60,⟨.struct [(0,50),(21,56),(29,4),(30,4)],31,288,some (.agg #[.int .i64 (0),.int .i64 (0),.int .i64 (0),.int .i64 (0),.int .i64 (0),.int .i64 (0),.int .i64 (0),.int .i64 (0),.bool false,.int .u64 (0),.int .u64 (0),.int .i64 (0),.bool false,.int .i64 (0),.int .i64 (0),.int .i64 (0),.int .i64 (0),.int .i64 (0),.slice none 0 0,.slice none 0 0,.bool false,.int .i64 (0),.bool false,.int .u64 (0),.int .u64 (0),.int .i64 (0),.int .i64 (0),.int .i64 (0),.slice none 0 0,.bool false,.bool false])⟩),(61,⟨.struct [(0,50),(21,56),(29,4),(30,4)],31,288,some (.agg #[.int .i64 (0),.int .i64 (0),.int .i64 (0),.int .i64 (0),.int .i64 (0),.int .i64 (0),.int .i64 (0),.int .i64 (0),.bool false,.int .u64 (0),.int .u64 (0),.int .i64 (0),.bool false,.int .i64 (0),.int .i64 (0),.int .i64 (0),.int .i64 (0),.int .i64 (0),.slice none 0 0,.slice none 0 0,.bool false,.int .i64 (0),.bool false,.int .u64 (0),.int .u64 (0),.int .i64 (0),.int .i64 (0),.int .i64 (0),.slice none 0 0,.bool false,.bool false])⟩),(64,⟨.struct [(0,45),(1,46),(2,54)],3,72,some (.agg #[.slice none 0 0,.slice none 0 0,.slice none 0 0])⟩),(65,⟨.struct [(0,45),(1,46),(2,54)],3,72,some (.agg #[.slice none 0 0,.slice none 0 0,.slice none 0 0])⟩),(68,⟨.slice 202,1,24,some (.slice none 0 0)⟩),(69,⟨.slice 155,1,24,some (.slice none 0 0)⟩),(70,⟨.struct [(0,3),(1,3),(2,45),(3,46),(4,68),(5,69)],6,112,some (.agg #[.int .i64 (0),.int .i64 (0),.slice none 0 0,.slice none 0 0,.slice none 0 0,.slice none 0 0])⟩),(71,⟨.struct [(0,3),(1,3),(2,45),(3,46),(4,68),(5,69)],6,112,some (.agg #[.int .i64 (0),.int .i64 (0),.slice none 0 0,.slice none 0 0,.slice none 0 0,.slice none 0 0])⟩),(74,⟨.func,1,8,some (.nilFunc)⟩),(75,⟨.func,1,8,some (.nilFunc)⟩),(93,⟨.struct [(0,32),(4,3)],5,40,some (.agg #[.bool false,.int .u64 (0),.int .u64 (0),.int .i64 (0),.int .i64 (0)])⟩),(94,⟨.struct [(0,32),(4,3)],5,40,some (.agg #[.bool false,.int .u64 (0),.int .u64 (0),.int .i64 (0),.int .i64 (0)])⟩),(112,⟨.struct [(0,30),(4,3),(5,3),(6,3)],7,56,some (.agg #[.bool false,.int .u64 (0),.int .u64 (0),.int .i64 (0),.int .i64 (0),.int .i64 (0),.int .i64 (0)])⟩),(113,⟨.struct [(0,30),(4,3),(5,3),(6,3)],7,56,some (.agg #[.bool false,.int .u64 (0),.int .u64 (0),.int .i64 (0),.int .i64 (0),.int .i64 (0),.int .i64 (0)])⟩),(133,⟨.func,1,8,some (.nilFunc)⟩),(138,⟨.struct [(0,50)],21,200,some (.agg #[.int .i64 (0),.int .i64 (0),.int .i64 (0),.int .i64 (0),.int .i64 (0),.int .i64 (0),.int .i64 (0),.int .i64 (0),.bool false,.int .u64 (0),.int .u64 (0),.int .i64 (0),.bool false,.int .i64 (0),.int .i64 (0),.int .i64 (0),.int .i64 (0),.int .i64 (0),.slice none 0 0,.slice none 0 0,.bool false])⟩),(139,⟨.struct [(0,50)],21,200,some (.agg #[.int .i64 (0),.int .i64 (0),.int .i64 (0),.int .i64 (0),.int .i64 (0),.int .i64 (0),.int .i64 (0),.int .i64 (0),.bool false,.int .u64 (0),.int .u64 (0),.int .i64 (0),.bool false,.int .i64 (0),.int .i64 (0),.int .i64 (0),.int .i64 (0),.int .i64 (0),.slice none 0 0,.slice none 0 0,.bool false])⟩),(140,⟨.ptr 142,1,8,some (.pointer none)⟩),(141,⟨.struct [(0,35)],1,24,some (.agg #[.slice none 0 0])⟩),(142,⟨.struct [(0,35)],1,24,some (.agg #[.slice none 0 0])⟩),(143,⟨.struct [(0,26),(16,34)],28,224,some (.agg #[.int .i64 (0),.int .i64 (0),.int .i64 (0),.int .i64 (0),.int .i64 (0),.int .u64 (0),.int .i64 (0),.int .i64 (0),.int .i64 (0),.int .i64 (0),.int .i64 (0),.int .i64 (0),.int .i64 (0),.int .i64 (0),.int .i64 (0),.int .i64 (0),.int .i64 (0),.bool false,.int .u64 (0),.int .u64 (0),.int .i64 (0),.bool false,.int .u64 (0),.int .u64 (0),.int .i64 (0),.int .i64 (0),.int .i64 (0),.bool false])⟩),(144,⟨.struct [(0,26),(16,34)],28,224,some (.agg #[.int .i64 (0),.int .i64 (0),.int .i64 (0),.int .i64 (0),.int .i64 (0),.int .u64 (0),.int .i64 (0),.int .i64 (0),.int .i64 (0),.int .i64 (0),.int .i64 (0),.int .i64 (0),.int .i64 (0),.int .i64 (0),.int .i64 (0),.int .i64 (0),.int .i64 (0),.bool false,.int .u64 (0),.int .u64 (0),.int .i64 (0),.bool false,.int .u64 (0),.int .u64 (0),.int .i64 (0),.int .i64 (0),.int .i64 (0),.bool false])⟩),(153,⟨.slice 3,1,24,some (.slice none 0 0)⟩),(154,⟨.struct [(0,3),(1,153)],2,32,some (.agg #[.int .i64 (0),.slice none 0 0])⟩),(155,⟨.struct [(0,3),(1,153)],2,32,some (.agg #[.int .i64 (0),.slice none 0 0])⟩),(190,⟨.slice 54,1,24,some (.slice none 0 0)⟩),(196,⟨.slice 30,1,24,some (.slice none 0 0)⟩),(200,⟨.func,1,8,some (.nilFunc)⟩),(201,⟨.struct [(0,3),(1,54)],2,32,some (.agg #[.int .i64 (0),.slice none 0 0])⟩),(202,⟨.struct [(0,3),(1,54)],2,32,some (.agg #[.int .i64 (0),.slice none 0 0])⟩),(203,⟨.iface,1,16,some (.nilIface)⟩),(204,⟨.iface,1,16,some (.nilIface)⟩),(206,⟨.func,1,8,some (.nilFunc)⟩),(207,⟨.func,1,8,some (.nilFunc)⟩),(221,⟨.func,1,8,some (.nilFunc)⟩),(232,⟨.slice 234,1,24,some (.slice none 0 0)⟩),(234,⟨.int .i64,1,8,some (.int .i64 (0))⟩),(243,⟨.int .u64,1,8,some (.int .u64 (0))⟩),(245,⟨.map 32 3,1,8,some (.map none)⟩),(250,⟨.slice 9,1,24,some (.slice none 0 0)⟩),(253,⟨.slice 22,1,24,some (.slice none 0 0)⟩),(258,⟨.slice 263,1,24,some (.slice none 0 0)⟩),(259,⟨.ptr 322,1,8,some (.pointer none)⟩),(262,⟨.struct [(0,32),(4,3)],5,40,some (.agg #[.bool false,.int .u64 (0),.int .u64 (0),.int .i64 (0),.int .i64 (0)])⟩),(263,⟨.struct [(0,32),(4,3)],5,40,some (.agg #[.bool false,.int .u64 (0),.int .u64 (0),.int .i64 (0),.int .i64 (0)])⟩),(276,⟨.array 14 9,14,224,some (.agg #[.string ⟨#[]⟩,.string ⟨#[]⟩,.string ⟨#[]⟩,.string ⟨#[]⟩,.string ⟨#[]⟩,.string ⟨#[]⟩,.string ⟨#[]⟩,.string ⟨#[]⟩,.string ⟨#[]⟩,.string ⟨#[]⟩,.string ⟨#[]⟩,.string ⟨#[]⟩,.string ⟨#[]⟩,.string ⟨#[]⟩])⟩),(296,⟨.struct [(0,3),(1,3)],2,16,some (.agg #[.int .i64 (0),.int .i64 (0)])⟩),(297,⟨.struct [(0,3),(1,3)],2,16,some (.agg #[.int .i64 (0),.int .i64 (0)])⟩),(298,⟨.array 4 297,8,64,some (.agg #[.int .i64 (0),.int .i64 (0),.int .i64 (0),.int .i64 (0),.int .i64 (0),.int .i64 (0),.int .i64 (0),.int .i64 (0)])⟩),(311,⟨.slice 4,1,24,some (.slice none 0 0)⟩),(319,⟨.ptr 324,1,8,some (.pointer none)⟩),(320,⟨.array 2 319,2,16,some (.agg #[.pointer none,.pointer none])⟩),(321,⟨.struct [(0,320),(2,3)],3,24,some (.agg #[.pointer none,.pointer none,.int .i64 (0)])⟩),(322,⟨.struct [(0,320),(2,3)],3,24,some (.agg #[.pointer none,.pointer none,.int .i64 (0)])⟩),(323,⟨.struct [(0,263),(5,4),(6,320)],8,64,some (.agg #[.bool false,.int .u64 (0),.int .u64 (0),.int .i64 (0),.int .i64 (0),.bool false,.pointer none,.pointer none])⟩),(324,⟨.struct [(0,263),(5,4),(6,320)],8,64,some (.agg #[.bool false,.int .u64 (0),.int .u64 (0),.int .i64 (0),.int .i64 (0),.bool false,.pointer none,.pointer none])⟩),(329,⟨.func,1,8,some (.nilFunc)⟩),(336,⟨.int .u32,1,4,some (.int .u32 (0))⟩)]
theorem ZKR:Zec Tryz.prog tab:=
 .cons ⟨by kernel_rfl,by kernel_rfl,_,Tryz.underlying1,trivial⟩ <|
 .cons ⟨by kernel_rfl,by kernel_rfl,_,Tryz.underlying3,rfl⟩ <|
 .cons ⟨by kernel_rfl,by kernel_rfl,_,Tryz.underlying4,trivial⟩ <|
 .cons ⟨by kernel_rfl,by kernel_rfl,_,Tryz.underlying5,rfl⟩ <|
 .cons ⟨by kernel_rfl,by kernel_rfl,_,Tryz.underlying9,trivial⟩ <|
 .cons ⟨by kernel_rfl,by kernel_rfl,_,Tryz.underlying20,trivial⟩ <|
 .cons ⟨by kernel_rfl,by kernel_rfl,_,Tryz.underlying22,rfl⟩ <|
 .cons ⟨by kernel_rfl,by kernel_rfl,_,Tryz.underlying23,rfl⟩ <|
 .cons ⟨by kernel_rfl,by kernel_rfl,_,Tryz.underlying24,rfl⟩ <|
 .cons ⟨by kernel_rfl,by kernel_rfl,_,Tryz.underlying25,rfl⟩ <|
 .cons ⟨by kernel_rfl,by kernel_rfl,_,Tryz.underlying26,rfl⟩ <|
 .cons ⟨by kernel_rfl,by kernel_rfl,_,Tryz.underlying27,rfl⟩ <|
 .cons ⟨by kernel_rfl,by kernel_rfl,_,Tryz.underlying28,rfl⟩ <|
 .cons ⟨by kernel_rfl,by kernel_rfl,_,Tryz.underlying29,rfl⟩ <|
 .cons ⟨by kernel_rfl,by kernel_rfl,_,Tryz.underlying30,rfl⟩ <|
 .cons ⟨by kernel_rfl,by kernel_rfl,_,Tryz.underlying31,rfl⟩ <|
 .cons ⟨by kernel_rfl,by kernel_rfl,_,Tryz.underlying32,rfl⟩ <|
 .cons ⟨by kernel_rfl,by kernel_rfl,_,Tryz.underlying33,rfl⟩ <|
 .cons ⟨by kernel_rfl,by kernel_rfl,_,Tryz.underlying34,rfl⟩ <|
 .cons ⟨by kernel_rfl,by kernel_rfl,_,Tryz.underlying35,rfl⟩ <|
 .cons ⟨by kernel_rfl,by kernel_rfl,_,Tryz.underlying39,rfl⟩ <|
 .cons ⟨by kernel_rfl,by kernel_rfl,_,Tryz.underlying40,rfl⟩ <|
 .cons ⟨by kernel_rfl,by kernel_rfl,_,Tryz.underlying41,rfl⟩ <|
 .cons ⟨by kernel_rfl,by kernel_rfl,_,Tryz.underlying42,rfl⟩ <|
 .cons ⟨by kernel_rfl,by kernel_rfl,_,Tryz.underlying43,rfl⟩ <|
 .cons ⟨by kernel_rfl,by kernel_rfl,_,Tryz.underlying44,rfl⟩ <|
 .cons ⟨by kernel_rfl,by kernel_rfl,_,Tryz.underlying45,rfl⟩ <|
 .cons ⟨by kernel_rfl,by kernel_rfl,_,Tryz.underlying46,rfl⟩ <|
 .cons ⟨by kernel_rfl,by kernel_rfl,_,Tryz.underlying47,rfl⟩ <|
 .cons ⟨by kernel_rfl,by kernel_rfl,_,Tryz.underlying48,rfl⟩ <|
 .cons ⟨by kernel_rfl,by kernel_rfl,_,Tryz.underlying49,rfl⟩ <|
 .cons ⟨by kernel_rfl,by kernel_rfl,_,Tryz.underlying50,rfl⟩ <|
 .cons ⟨by kernel_rfl,by kernel_rfl,_,Tryz.underlying53,rfl⟩ <|
 .cons ⟨by kernel_rfl,by kernel_rfl,_,Tryz.underlying54,rfl⟩ <|
 .cons ⟨by kernel_rfl,by kernel_rfl,_,Tryz.underlying55,rfl⟩ <|
 .cons ⟨by kernel_rfl,by kernel_rfl,_,Tryz.underlying56,rfl⟩ <|
 .cons ⟨by kernel_rfl,by kernel_rfl,_,Tryz.underlying60,rfl⟩ <|
 .cons ⟨by kernel_rfl,by kernel_rfl,_,Tryz.underlying61,rfl⟩ <|
 .cons ⟨by kernel_rfl,by kernel_rfl,_,Tryz.underlying64,rfl⟩ <|
 .cons ⟨by kernel_rfl,by kernel_rfl,_,Tryz.underlying65,rfl⟩ <|
 .cons ⟨by kernel_rfl,by kernel_rfl,_,Tryz.underlying68,rfl⟩ <|
 .cons ⟨by kernel_rfl,by kernel_rfl,_,Tryz.underlying69,rfl⟩ <|
 .cons ⟨by kernel_rfl,by kernel_rfl,_,Tryz.underlying70,rfl⟩ <|
 .cons ⟨by kernel_rfl,by kernel_rfl,_,Tryz.underlying71,rfl⟩ <|
 .cons ⟨by kernel_rfl,by kernel_rfl,_,Tryz.underlying74,trivial⟩ <|
 .cons ⟨by kernel_rfl,by kernel_rfl,_,Tryz.underlying75,trivial⟩ <|
 .cons ⟨by kernel_rfl,by kernel_rfl,_,Tryz.underlying93,rfl⟩ <|
 .cons ⟨by kernel_rfl,by kernel_rfl,_,Tryz.underlying94,rfl⟩ <|
 .cons ⟨by kernel_rfl,by kernel_rfl,_,Tryz.underlying112,rfl⟩ <|
 .cons ⟨by kernel_rfl,by kernel_rfl,_,Tryz.underlying113,rfl⟩ <|
 .cons ⟨by kernel_rfl,by kernel_rfl,_,Tryz.underlying133,trivial⟩ <|
 .cons ⟨by kernel_rfl,by kernel_rfl,_,Tryz.underlying138,rfl⟩ <|
 .cons ⟨by kernel_rfl,by kernel_rfl,_,Tryz.underlying139,rfl⟩ <|
 .cons ⟨by kernel_rfl,by kernel_rfl,_,Tryz.underlying140,rfl⟩ <|
 .cons ⟨by kernel_rfl,by kernel_rfl,_,Tryz.underlying141,rfl⟩ <|
 .cons ⟨by kernel_rfl,by kernel_rfl,_,Tryz.underlying142,rfl⟩ <|
 .cons ⟨by kernel_rfl,by kernel_rfl,_,Tryz.underlying143,rfl⟩ <|
 .cons ⟨by kernel_rfl,by kernel_rfl,_,Tryz.underlying144,rfl⟩ <|
 .cons ⟨by kernel_rfl,by kernel_rfl,_,Tryz.underlying153,rfl⟩ <|
 .cons ⟨by kernel_rfl,by kernel_rfl,_,Tryz.underlying154,rfl⟩ <|
 .cons ⟨by kernel_rfl,by kernel_rfl,_,Tryz.underlying155,rfl⟩ <|
 .cons ⟨by kernel_rfl,by kernel_rfl,_,Tryz.underlying190,rfl⟩ <|
 .cons ⟨by kernel_rfl,by kernel_rfl,_,Tryz.underlying196,rfl⟩ <|
 .cons ⟨by kernel_rfl,by kernel_rfl,_,Tryz.underlying200,trivial⟩ <|
 .cons ⟨by kernel_rfl,by kernel_rfl,_,Tryz.underlying201,rfl⟩ <|
 .cons ⟨by kernel_rfl,by kernel_rfl,_,Tryz.underlying202,rfl⟩ <|
 .cons ⟨by kernel_rfl,by kernel_rfl,_,Tryz.underlying203,trivial⟩ <|
 .cons ⟨by kernel_rfl,by kernel_rfl,_,Tryz.underlying204,trivial⟩ <|
 .cons ⟨by kernel_rfl,by kernel_rfl,_,Tryz.underlying206,trivial⟩ <|
 .cons ⟨by kernel_rfl,by kernel_rfl,_,Tryz.underlying207,trivial⟩ <|
 .cons ⟨by kernel_rfl,by kernel_rfl,_,Tryz.underlying221,trivial⟩ <|
 .cons ⟨by kernel_rfl,by kernel_rfl,_,Tryz.underlying232,rfl⟩ <|
 .cons ⟨by kernel_rfl,by kernel_rfl,_,Tryz.underlying234,rfl⟩ <|
 .cons ⟨by kernel_rfl,by kernel_rfl,_,Tryz.underlying243,rfl⟩ <|
 .cons ⟨by kernel_rfl,by kernel_rfl,_,Tryz.underlying245,⟨rfl,rfl⟩⟩ <|
 .cons ⟨by kernel_rfl,by kernel_rfl,_,Tryz.underlying250,rfl⟩ <|
 .cons ⟨by kernel_rfl,by kernel_rfl,_,Tryz.underlying253,rfl⟩ <|
 .cons ⟨by kernel_rfl,by kernel_rfl,_,Tryz.underlying258,rfl⟩ <|
 .cons ⟨by kernel_rfl,by kernel_rfl,_,Tryz.underlying259,rfl⟩ <|
 .cons ⟨by kernel_rfl,by kernel_rfl,_,Tryz.underlying262,rfl⟩ <|
 .cons ⟨by kernel_rfl,by kernel_rfl,_,Tryz.underlying263,rfl⟩ <|
 .cons ⟨by kernel_rfl,by kernel_rfl,_,Tryz.underlying276,⟨rfl,rfl⟩⟩ <|
 .cons ⟨by kernel_rfl,by kernel_rfl,_,Tryz.underlying296,rfl⟩ <|
 .cons ⟨by kernel_rfl,by kernel_rfl,_,Tryz.underlying297,rfl⟩ <|
 .cons ⟨by kernel_rfl,by kernel_rfl,_,Tryz.underlying298,⟨rfl,rfl⟩⟩ <|
 .cons ⟨by kernel_rfl,by kernel_rfl,_,Tryz.underlying311,rfl⟩ <|
 .cons ⟨by kernel_rfl,by kernel_rfl,_,Tryz.underlying319,rfl⟩ <|
 .cons ⟨by kernel_rfl,by kernel_rfl,_,Tryz.underlying320,⟨rfl,rfl⟩⟩ <|
 .cons ⟨by kernel_rfl,by kernel_rfl,_,Tryz.underlying321,rfl⟩ <|
 .cons ⟨by kernel_rfl,by kernel_rfl,_,Tryz.underlying322,rfl⟩ <|
 .cons ⟨by kernel_rfl,by kernel_rfl,_,Tryz.underlying323,rfl⟩ <|
 .cons ⟨by kernel_rfl,by kernel_rfl,_,Tryz.underlying324,rfl⟩ <|
 .cons ⟨by kernel_rfl,by kernel_rfl,_,Tryz.underlying329,trivial⟩ <|
 .cons ⟨by kernel_rfl,by kernel_rfl,_,Tryz.underlying336,rfl⟩ <|
 .nil _
theorem Zak:Zrr Tryz.prog tab:=⟨ZKR,by kernel_rfl⟩
theorem Ya{N:Nat}{S0:Nat->Prop}{w0:ZaW}{fn:Func}{α:Type}{v r:α}(hf:some v=some r){F:α->V}(n:Nat){is:List It}{st:St}(ras:List RA)(bs:List Bool){obl:List Prop}(ho:Obl obl)(h:ZJN Tryz.prog N tab n is st ras bs [] [] [] fn.results.toList=some (F v,obl):=by kernel_rfl)(hp:(F v).pure=true:=by rfl):Good Tryz.prog N S0 w0 (bodyPost Tryz.prog fn (Post S0 w0 (F r))) is st:=by
 obtain rfl:=Option.some.inj hf;exact Zaj Zak n ras bs [] [] [] ho h hp
theorem Yb{N:Nat}{S0:Nat->Prop}{w0:ZaW}{fn:Func}{α:Type}{v r:α}(hf:some v=some r){F:α->V}(n:Nat){is:List It}{st:St}(ras:List RA)(bs:List Bool)(fz:List Nat)(dh dn:List (Nat×List (Nat×C))){obl:List Prop}(ho:Obl obl)(h:ZJN Tryz.prog N tab n is st ras bs fz dh dn fn.results.toList=some (F v,obl):=by kernel_rfl)(hp:(F v).pure=true:=by rfl):Good Tryz.prog N S0 w0 (bodyPost Tryz.prog fn (Post S0 w0 (F r))) is st:=by
 obtain rfl:=Option.some.inj hf;exact Zaj Zak n ras bs fz dh dn ho h hp
theorem Yc{N:Nat}{S0:Nat->Prop}{w0:ZaW}{fn:Func}{α:Type}{v r:α}(hf:some v=some r){F:α->V}{H:α->List (Nat×B)}(n:Nat){is:List It}{st:St}(ras:List RA)(bs:List Bool)(na:NA){obl:List Prop}(ho:Obl obl)(h:ZFF Tryz.prog N tab n is st ras bs na fn.results.toList=some (F v,H v,obl):=by kernel_rfl):Good Tryz.prog N S0 w0 (bodyPost Tryz.prog fn (ZaP S0 w0 (H r) (F r))) is st:=by
 obtain rfl:=Option.some.inj hf;exact Zbl Zak n ras bs na ho h
theorem Yd{N:Nat}{S0:Nat->Prop}{w0:ZaW}{fn:Func}{res:V}{h1:List (Nat×B)}(n:Nat){is:List It}{st:St}(ras:List RA)(bs:List Bool)(na:NA){obl:List Prop}(ho:Obl obl)(h:ZJo Tryz.prog N tab n is st ras bs na [100000] fn.results.toList=some (res,h1,obl):=by kernel_rfl):Good Tryz.prog N S0 w0 (bodyPost Tryz.prog fn (ZaP S0 w0 h1 res)) is st:=ZdD Zak n ras bs na [100000] ho h
theorem Yh{N:Nat}{S0:Nat->Prop}{w0:ZaW}{fn:Func}{pv:V}(n:Nat){is:List It}{st:St}(ras:List RA)(bs:List Bool)(ra:RA)(i:Nat)(pa:PA){obl:List Prop}(ho:Obl obl)(h:ZKP Tryz.prog N tab n is st ras bs ra i pa=some (pv,obl):=by kernel_rfl):Good Tryz.prog N S0 w0 (bodyPost Tryz.prog fn (ZwQ S0 w0 pv)) is st:=Zbs Zak n is st ras bs ra i pa ho h
theorem Ye{N:Nat}{S0:Nat->Prop}{w0:ZaW}{Q:Exit->Act->World->Prop}(n:Nat){is:List It}{st:St}(ras:List RA)(bs:List Bool){it:List It}{s1:St}(na:NA){obl:List Prop}(ho:Obl obl)(hk:Good Tryz.prog N S0 w0 Q it s1)(h:toK Tryz.prog N tab n is st ras bs na=some (it,s1,obl):=by kernel_rfl)(hE:Ends Q:=by first|exact Post.ends|exact ZaP.ends|exact ZnE.ends):Good Tryz.prog N S0 w0 Q is st:=ZaC Zak hE n ras bs na ho h hk
def Yi(l:List Nat):NA:=⟨[],[],[],[],[],l,[],[]⟩
abbrev Yj(x:Int):V:=.one (.lit (.int .i64 x))
abbrev Yk(x:Bool):V:=.one (.lit (.bool x))
abbrev Yl(l:List Zae):V:=.one (cL 5 Zae.c Zae.d l)
abbrev Ym(l:List Zac):V:=.one (cL 7 Zac.c Zac.d l)
abbrev Yn(l:List Zaa):V:=.one (cL 10 Zaa.c Zaa.d l)
theorem Yv{f:FuncId}{fn:Func}{c:Code}{N:Nat}{args:List V}{res:V}(hf:Tryz.prog.funcs[f]?=some fn)(h:∀S0 w0,Good Tryz.prog N S0 w0 (bodyPost Tryz.prog fn (Post S0 w0 res)) [.code c] (St.init args))(hb:fn.body=some c:=by rfl)(hn:(fn.name=="runtime.NumGoroutine")=false:=by rfl)(hN:fn.ntmps=N:=by rfl)(hl:Nat.ble args.length N=true:=by rfl):Zaz Tryz.prog f args res:=Zaz.of hf hb hn hN hl h
theorem Yw{f:FuncId}{fn:Func}{c:Code}{N:Nat}{h0:List (Nat×B)}{args:List V}{h1:List (Nat×B)}{res:V}(hf:Tryz.prog.funcs[f]?=some fn)(h:∀S0 w0,Good Tryz.prog N S0 w0 (bodyPost Tryz.prog fn (ZaP S0 w0 h1 res)) [.code c] (St.initH args h0))(hb:fn.body=some c:=by rfl)(hn:(fn.name=="runtime.NumGoroutine")=false:=by rfl)(hN:fn.ntmps=N:=by rfl)(hl:Nat.ble args.length N=true:=by rfl):ZcC Tryz.prog f h0 args h1 res:=ZcC.of hf hb hn hN hl h
theorem Yt{p q:Prop}[Decidable p][Decidable q]{α:Type}{x:Option α}{r:α}(h:need p (need q x)=some r):p/\q/\x=some r:=⟨(Zao h).1,(Zao (Zao h).2).1,(Zao (Zao h).2).2⟩
theorem Yu{α β γ:Type}{x:Option α}{g:α->Option β}{k:α->β->Option γ}{r:γ}(h:(x.bind fun y=>(g y).bind (k y))=some r):∃y z,x=some y/\g y=some z/\k y z=some r:=by
 obtain⟨y,a,h⟩:=Zad h;obtain⟨z,b,h⟩:=Zad h;exact⟨y,z,a,b,h⟩
abbrev Yx:ByteArray:=⟨#[0,1,2,2,3,3,3,3,4,4,4,4,4,4,4,4,5,5,5,5,5,5,5,5,5,5,5,5,5,5,5,5,6,6,6,6,6,6,6,6,6,6,6,6,6,6,6,6,6,6,6,6,6,6,6,6,6,6,6,6,6,6,6,6,7,7,7,7,7,7,7,7,7,7,7,7,7,7,7,7,7,7,7,7,7,7,7,7,7,7,7,7,7,7,7,7,7,7,7,7,7,7,7,7,7,7,7,7,7,7,7,7,7,7,7,7,7,7,7,7,7,7,7,7,7,7,7,7,8,8,8,8,8,8,8,8,8,8,8,8,8,8,8,8,8,8,8,8,8,8,8,8,8,8,8,8,8,8,8,8,8,8,8,8,8,8,8,8,8,8,8,8,8,8,8,8,8,8,8,8,8,8,8,8,8,8,8,8,8,8,8,8,8,8,8,8,8,8,8,8,8,8,8,8,8,8,8,8,8,8,8,8,8,8,8,8,8,8,8,8,8,8,8,8,8,8,8,8,8,8,8,8,8,8,8,8,8,8,8,8,8,8,8,8,8,8,8,8,8,8,8,8,8,8,8,8]⟩
abbrev Yo:=Zaz Tryz.prog
abbrev Yp:=ZcC Tryz.prog
abbrev Yq:=Zio Tryz.prog
abbrev Yr(N:Nat)(S0:Nat->Prop)(w0:ZaW)(f:Func)(r:V)(p:List Nat)(s:St):Prop:=Good Tryz.prog N S0 w0 (bodyPost Tryz.prog f (Post S0 w0 r)) (at_ p (ZaR f)) s
abbrev Ys(N:Nat)(S0:Nat->Prop)(w0:ZaW)(f:Func)(h:List (Nat×B))(r:V)(p:List Nat)(s:St):Prop:=Good Tryz.prog N S0 w0 (bodyPost Tryz.prog f (ZaP S0 w0 h r)) (at_ p (ZaR f)) s
end Go.Proofs.YtmnloegcpaahcaaGreat
