import Derived.Test.YtlpdogaifdeomaaGreatProg
import Derived.Shelf.Spec.SlicesInsertGrow
import Derived.Lib.Hide
import Derived.Test.YtlpdogaifdeomaaGreatFAmSk
import Derived.Test.YtlpdogaifdeomaaGreatFPlA
import Derived.Test.YtlpdogaifdeomaaGreatFAmZ
import Derived.Test.YtlpdogaifdeomaaGreatFSort276
import Derived.Test.YtlpdogaifdeomaaGreatFAmX
namespace Go.Proofs.YtlpdogaifdeomaaGreat
open Go.RowKit Go.Lib Go.Shelf
set_option linter.unusedVariables false
set_option maxRecDepth 100000
abbrev mK(x y:List Nat):NA:=⟨[],[],[],[],[],x,y,[]⟩
abbrev mM(x y:List Nat)(z:List (Nat×Nat)):NA:=⟨[],[],[],[],[],x,y,z⟩
abbrev mN{α:Type}(n:Nat)(t s:Nat)(e:α->List C)(d:α)(l:List α):Nat×B:=(n,.rows t s l.length (Zai e d l))
abbrev mP(f a b:Nat)(x y:List C):C:=.clo (.func f) a b (fun i=>x.getD i .junk) (fun i=>y.getD i .junk)
abbrev mQ(x:List C):C:=.rp false x.length (fun j=>x.getD (0+j) .junk)
abbrev mR:=cI .i64
theorem mZ{pa pb pc pd pe pf pg:Prop}(a:pa)(b:pb)(c:pc)(d:pd)(e:pe)(f:pf)(g:pg):Obl [pa,pb,pc,pd,pe,pf,pg]:=(.c a (.c b (.c c (.c d (.c e (.c f (.c g .n)))))))
theorem nv{α:Type}{e:α->List C}(d:α)(sz:Nat)(he:∀x,(e x).length=sz)(l:List α):∀i j,i<l.length->j<sz->Zai e d l i j=(l.flatMap e).getD (i * sz+j) .junk:=fun i j hi hj=>ZbJ he l i j hi hj
theorem nu{α:Type}(a:α):a=a:=rfl
theorem nw(x:Int)(h:decide (0<=x)=true):0<=x:=of_decide_eq_true h
variable {z:Zw}
structure Zau where
 fGroup:Int
 fPing:Int
 fWork:Int
 fTime:Int
 deriving DecidableEq
def Zau.d:Zau:=⟨(0:Int),(0:Int),(0:Int),(0:Int)⟩
def Zau.c(a:Zau):List C:=[.lit (.int .i64 a.fGroup),.lit (.int .i64 a.fPing),.lit (.int .i64 a.fWork),.lit (.int .i64 a.fTime)]
def Zau.E:Ec Zau:=⟨4,Zau.c,Zau.d⟩
def Zau.ok(a:Zau):Prop:=(okI .i64) a.fGroup/\(okI .i64) a.fPing/\(okI .i64) a.fWork/\(okI .i64) a.fTime/\True
theorem Zvu:Opn Tryz.prog 24 Zau.c Zau.ok:=ZmW (ea:=(cP (cI .i64) (cP (cI .i64) (cP (cI .i64) (cP (cI .i64) cU))))) (oa:=(okP (okI .i64) (okP (okI .i64) (okP (okI .i64) (okP (okI .i64) okU))))) (N:=4) Tryz.underlying24 (by kernel_rfl) (Zcs (sz:=1) rfl rfl (by kernel_rfl) (ZgB Tryz.underlying3) (Zcs (sz:=1) rfl rfl (by kernel_rfl) (ZgB Tryz.underlying3) (Zcs (sz:=1) rfl rfl (by kernel_rfl) (ZgB Tryz.underlying3) (Zcs (sz:=1) rfl rfl (by kernel_rfl) (ZgB Tryz.underlying3) ZqS)))) (fun(a:Int×Int×Int×Int×Unit)=>(⟨a.1,a.2.1,a.2.2.1,a.2.2.2.1⟩ : Zau)) (fun _=>rfl) (fun _ h=>h)
structure Zaq where
 fMaxIn:Int
 fMaxOut:Int
 fShards:Int
 fMaxBans:Int
 fMaxBook:Int
 fSecret:Int
 fQuota:Zau
 fHalf:Int
 fLimit:Int
 fBanFor:Int
 fBase:Int
 fCap:Int
 fJitter:Int
 deriving DecidableEq
def Zaq.d:Zaq:=⟨(0:Int),(0:Int),(0:Int),(0:Int),(0:Int),(0:Int),Zau.d,(0:Int),(0:Int),(0:Int),(0:Int),(0:Int),(0:Int)⟩
def Zaq.c(a:Zaq):List C:=[.lit (.int .i64 a.fMaxIn),.lit (.int .i64 a.fMaxOut),.lit (.int .i64 a.fShards),.lit (.int .i64 a.fMaxBans),.lit (.int .i64 a.fMaxBook),.lit (.int .u64 a.fSecret),.lit (.int .i64 a.fQuota.fGroup),.lit (.int .i64 a.fQuota.fPing),.lit (.int .i64 a.fQuota.fWork),.lit (.int .i64 a.fQuota.fTime),.lit (.int .i64 a.fHalf),.lit (.int .i64 a.fLimit),.lit (.int .i64 a.fBanFor),.lit (.int .i64 a.fBase),.lit (.int .i64 a.fCap),.lit (.int .i64 a.fJitter)]
def Zaq.E:Ec Zaq:=⟨16,Zaq.c,Zaq.d⟩
def Zaq.ok(a:Zaq):Prop:=(okI .i64) a.fMaxIn/\(okI .i64) a.fMaxOut/\(okI .i64) a.fShards/\(okI .i64) a.fMaxBans/\(okI .i64) a.fMaxBook/\(okI .u64) a.fSecret/\Zau.ok a.fQuota/\(okI .i64) a.fHalf/\(okI .i64) a.fLimit/\(okI .i64) a.fBanFor/\(okI .i64) a.fBase/\(okI .i64) a.fCap/\(okI .i64) a.fJitter/\True
theorem ZwM:Opn Tryz.prog 26 Zaq.c Zaq.ok:=ZmW (ea:=(cP (cI .i64) (cP (cI .i64) (cP (cI .i64) (cP (cI .i64) (cP (cI .i64) (cP (cI .u64) (cP Zau.c (cP (cI .i64) (cP (cI .i64) (cP (cI .i64) (cP (cI .i64) (cP (cI .i64) (cP (cI .i64) cU)))))))))))))) (oa:=(okP (okI .i64) (okP (okI .i64) (okP (okI .i64) (okP (okI .i64) (okP (okI .i64) (okP (okI .u64) (okP Zau.ok (okP (okI .i64) (okP (okI .i64) (okP (okI .i64) (okP (okI .i64) (okP (okI .i64) (okP (okI .i64) okU)))))))))))))) (N:=16) Tryz.underlying26 (by kernel_rfl) (Zcs (sz:=1) rfl rfl (by kernel_rfl) (ZgB Tryz.underlying3) (Zcs (sz:=1) rfl rfl (by kernel_rfl) (ZgB Tryz.underlying3) (Zcs (sz:=1) rfl rfl (by kernel_rfl) (ZgB Tryz.underlying3) (Zcs (sz:=1) rfl rfl (by kernel_rfl) (ZgB Tryz.underlying3) (Zcs (sz:=1) rfl rfl (by kernel_rfl) (ZgB Tryz.underlying3) (Zcs (sz:=1) rfl rfl (by kernel_rfl) (ZgB Tryz.underlying22) (Zcs (sz:=4) rfl rfl (by kernel_rfl) Zvu (Zcs (sz:=1) rfl rfl (by kernel_rfl) (ZgB Tryz.underlying3) (Zcs (sz:=1) rfl rfl (by kernel_rfl) (ZgB Tryz.underlying3) (Zcs (sz:=1) rfl rfl (by kernel_rfl) (ZgB Tryz.underlying3) (Zcs (sz:=1) rfl rfl (by kernel_rfl) (ZgB Tryz.underlying3) (Zcs (sz:=1) rfl rfl (by kernel_rfl) (ZgB Tryz.underlying3) (Zcs (sz:=1) rfl rfl (by kernel_rfl) (ZgB Tryz.underlying3) ZqS))))))))))))) (fun(a:Int×Int×Int×Int×Int×Int×Zau×Int×Int×Int×Int×Int×Int×Unit)=>(⟨a.1,a.2.1,a.2.2.1,a.2.2.2.1,a.2.2.2.2.1,a.2.2.2.2.2.1,a.2.2.2.2.2.2.1,a.2.2.2.2.2.2.2.1,a.2.2.2.2.2.2.2.2.1,a.2.2.2.2.2.2.2.2.2.1,a.2.2.2.2.2.2.2.2.2.2.1,a.2.2.2.2.2.2.2.2.2.2.2.1,a.2.2.2.2.2.2.2.2.2.2.2.2.1⟩ : Zaq)) (fun _=>rfl) (fun _ h=>h)
structure Zaf where
 fV6:Bool
 fHi:Int
 fLo:Int
 deriving DecidableEq
def Zaf.d:Zaf:=⟨false,(0:Int),(0:Int)⟩
def Zaf.c(a:Zaf):List C:=[.lit (.bool a.fV6),.lit (.int .u64 a.fHi),.lit (.int .u64 a.fLo)]
def Zaf.E:Ec Zaf:=⟨3,Zaf.c,Zaf.d⟩
def Zaf.ok(a:Zaf):Prop:=okB a.fV6/\(okI .u64) a.fHi/\(okI .u64) a.fLo/\True
theorem Zry:Opn Tryz.prog 37 Zaf.c Zaf.ok:=ZmW (ea:=(cP cB (cP (cI .u64) (cP (cI .u64) cU)))) (oa:=(okP okB (okP (okI .u64) (okP (okI .u64) okU)))) (N:=3) Tryz.underlying37 (by kernel_rfl) (Zcs (sz:=1) rfl rfl (by kernel_rfl) (ZGp Tryz.underlying4) (Zcs (sz:=1) rfl rfl (by kernel_rfl) (ZgB Tryz.underlying22) (Zcs (sz:=1) rfl rfl (by kernel_rfl) (ZgB Tryz.underlying22) ZqS))) (fun(a:Bool×Int×Int×Unit)=>(⟨a.1,a.2.1,a.2.2.1⟩ : Zaf)) (fun _=>rfl) (fun _ h=>h)
structure Zag where
 fAddr:Zaf
 fPort:Int
 deriving DecidableEq
def Zag.d:Zag:=⟨Zaf.d,(0:Int)⟩
def Zag.c(a:Zag):List C:=[.lit (.bool a.fAddr.fV6),.lit (.int .u64 a.fAddr.fHi),.lit (.int .u64 a.fAddr.fLo),.lit (.int .i64 a.fPort)]
def Zag.E:Ec Zag:=⟨4,Zag.c,Zag.d⟩
def Zag.ok(a:Zag):Prop:=Zaf.ok a.fAddr/\(okI .i64) a.fPort/\True
theorem ZyI:Opn Tryz.prog 39 Zag.c Zag.ok:=ZmW (ea:=(cP Zaf.c (cP (cI .i64) cU))) (oa:=(okP Zaf.ok (okP (okI .i64) okU))) (N:=4) Tryz.underlying39 (by kernel_rfl) (Zcs (sz:=3) rfl rfl (by kernel_rfl) Zry (Zcs (sz:=1) rfl rfl (by kernel_rfl) (ZgB Tryz.underlying3) ZqS)) (fun(a:Zaf×Int×Unit)=>(⟨a.1,a.2.1⟩ : Zag)) (fun _=>rfl) (fun _ h=>h)
structure Zae where
 fAddr:Zaf
 fBits:Int
 deriving DecidableEq
def Zae.d:Zae:=⟨Zaf.d,(0:Int)⟩
def Zae.c(a:Zae):List C:=[.lit (.bool a.fAddr.fV6),.lit (.int .u64 a.fAddr.fHi),.lit (.int .u64 a.fAddr.fLo),.lit (.int .i64 a.fBits)]
def Zae.E:Ec Zae:=⟨4,Zae.c,Zae.d⟩
def Zae.ok(a:Zae):Prop:=Zaf.ok a.fAddr/\(okI .i64) a.fBits/\True
theorem ZyH:Opn Tryz.prog 45 Zae.c Zae.ok:=ZmW (ea:=(cP Zaf.c (cP (cI .i64) cU))) (oa:=(okP Zaf.ok (okP (okI .i64) okU))) (N:=4) Tryz.underlying45 (by kernel_rfl) (Zcs (sz:=3) rfl rfl (by kernel_rfl) Zry (Zcs (sz:=1) rfl rfl (by kernel_rfl) (ZgB Tryz.underlying3) ZqS)) (fun(a:Zaf×Int×Unit)=>(⟨a.1,a.2.1⟩ : Zae)) (fun _=>rfl) (fun _ h=>h)
structure Zar where
 fKind:Int
 fEnd:Zag
 fNet:Zae
 fNow:Int
 fNum:Int
 fGood:Bool
 deriving DecidableEq
def Zar.d:Zar:=⟨(0:Int),Zag.d,Zae.d,(0:Int),(0:Int),false⟩
def Zar.c(a:Zar):List C:=[.lit (.int .i64 a.fKind),.lit (.bool a.fEnd.fAddr.fV6),.lit (.int .u64 a.fEnd.fAddr.fHi),.lit (.int .u64 a.fEnd.fAddr.fLo),.lit (.int .i64 a.fEnd.fPort),.lit (.bool a.fNet.fAddr.fV6),.lit (.int .u64 a.fNet.fAddr.fHi),.lit (.int .u64 a.fNet.fAddr.fLo),.lit (.int .i64 a.fNet.fBits),.lit (.int .i64 a.fNow),.lit (.int .i64 a.fNum),.lit (.bool a.fGood)]
def Zar.E:Ec Zar:=⟨12,Zar.c,Zar.d⟩
def Zar.ok(a:Zar):Prop:=(okI .i64) a.fKind/\Zag.ok a.fEnd/\Zae.ok a.fNet/\(okI .i64) a.fNow/\(okI .i64) a.fNum/\okB a.fGood/\True
theorem ZwN:Opn Tryz.prog 47 Zar.c Zar.ok:=ZmW (ea:=(cP (cI .i64) (cP Zag.c (cP Zae.c (cP (cI .i64) (cP (cI .i64) (cP cB cU))))))) (oa:=(okP (okI .i64) (okP Zag.ok (okP Zae.ok (okP (okI .i64) (okP (okI .i64) (okP okB okU))))))) (N:=12) Tryz.underlying47 (by kernel_rfl) (Zcs (sz:=1) rfl rfl (by kernel_rfl) (ZgB Tryz.underlying3) (Zcs (sz:=4) rfl rfl (by kernel_rfl) ZyI (Zcs (sz:=4) rfl rfl (by kernel_rfl) ZyH (Zcs (sz:=1) rfl rfl (by kernel_rfl) (ZgB Tryz.underlying3) (Zcs (sz:=1) rfl rfl (by kernel_rfl) (ZgB Tryz.underlying3) (Zcs (sz:=1) rfl rfl (by kernel_rfl) (ZGp Tryz.underlying4) ZqS)))))) (fun(a:Int×Zag×Zae×Int×Int×Bool×Unit)=>(⟨a.1,a.2.1,a.2.2.1,a.2.2.2.1,a.2.2.2.2.1,a.2.2.2.2.2.1⟩ : Zar)) (fun _=>rfl) (fun _ h=>h)
structure Zac where
 fNet:Zae
 fUntil:Int
 deriving DecidableEq
def Zac.d:Zac:=⟨Zae.d,(0:Int)⟩
def Zac.c(a:Zac):List C:=[.lit (.bool a.fNet.fAddr.fV6),.lit (.int .u64 a.fNet.fAddr.fHi),.lit (.int .u64 a.fNet.fAddr.fLo),.lit (.int .i64 a.fNet.fBits),.lit (.int .i64 a.fUntil)]
def Zac.E:Ec Zac:=⟨5,Zac.c,Zac.d⟩
def Zac.ok(a:Zac):Prop:=Zae.ok a.fNet/\(okI .i64) a.fUntil/\True
structure Zab where
 fEnd:Zag
 fState:Int
 fFails:Int
 fNext:Int
 deriving DecidableEq
def Zab.d:Zab:=⟨Zag.d,(0:Int),(0:Int),(0:Int)⟩
def Zab.c(a:Zab):List C:=[.lit (.bool a.fEnd.fAddr.fV6),.lit (.int .u64 a.fEnd.fAddr.fHi),.lit (.int .u64 a.fEnd.fAddr.fLo),.lit (.int .i64 a.fEnd.fPort),.lit (.int .i64 a.fState),.lit (.int .i64 a.fFails),.lit (.int .i64 a.fNext)]
def Zab.E:Ec Zab:=⟨7,Zab.c,Zab.d⟩
def Zab.ok(a:Zab):Prop:=Zag.ok a.fEnd/\(okI .i64) a.fState/\(okI .i64) a.fFails/\(okI .i64) a.fNext/\True
structure Zas where
 fPoints:Int
 fAt:Int
 deriving DecidableEq
def Zas.d:Zas:=⟨(0:Int),(0:Int)⟩
def Zas.c(a:Zas):List C:=[.lit (.int .i64 a.fPoints),.lit (.int .i64 a.fAt)]
def Zas.E:Ec Zas:=⟨2,Zas.c,Zas.d⟩
def Zas.ok(a:Zas):Prop:=(okI .i64) a.fPoints/\(okI .i64) a.fAt/\True
structure Zaa where
 fEnd:Zag
 fIn:Bool
 fSince:Int
 fScore:Zas
 fPing:Int
 fWork:Int
 deriving DecidableEq
def Zaa.d:Zaa:=⟨Zag.d,false,(0:Int),Zas.d,(0:Int),(0:Int)⟩
def Zaa.c(a:Zaa):List C:=[.lit (.bool a.fEnd.fAddr.fV6),.lit (.int .u64 a.fEnd.fAddr.fHi),.lit (.int .u64 a.fEnd.fAddr.fLo),.lit (.int .i64 a.fEnd.fPort),.lit (.bool a.fIn),.lit (.int .i64 a.fSince),.lit (.int .i64 a.fScore.fPoints),.lit (.int .i64 a.fScore.fAt),.lit (.int .i64 a.fPing),.lit (.int .i64 a.fWork)]
def Zaa.E:Ec Zaa:=⟨10,Zaa.c,Zaa.d⟩
def Zaa.ok(a:Zaa):Prop:=Zag.ok a.fEnd/\okB a.fIn/\(okI .i64) a.fSince/\Zas.ok a.fScore/\(okI .i64) a.fPing/\(okI .i64) a.fWork/\True
structure Zak where
 fBans:(List Zac)
 fBook:(List Zab)
 fPeers:(List Zaa)
def Zak.d:Zak:=⟨([]:(List Zac)),([]:(List Zab)),([]:(List Zaa))⟩
def Zak.c(a:Zak):List C:=[cL 5 Zac.c Zac.d a.fBans,cL 7 Zab.c Zab.d a.fBook,cL 10 Zaa.c Zaa.d a.fPeers]
def Zak.E:Ec Zak:=⟨3,Zak.c,Zak.d⟩
def Zak.ok(a:Zak):Prop:=(okL Zac.ok) a.fBans/\(okL Zab.ok) a.fBook/\(okL Zaa.ok) a.fPeers/\True
structure Zal where
 fCode:Int
 fEnd:Zag
 fN:Int
 fUntil:Int
 fPeers:(List Zaa)
def Zal.d:Zal:=⟨(0:Int),Zag.d,(0:Int),(0:Int),([]:(List Zaa))⟩
def Zal.c(a:Zal):List C:=[.lit (.int .i64 a.fCode),.lit (.bool a.fEnd.fAddr.fV6),.lit (.int .u64 a.fEnd.fAddr.fHi),.lit (.int .u64 a.fEnd.fAddr.fLo),.lit (.int .i64 a.fEnd.fPort),.lit (.int .i64 a.fN),.lit (.int .i64 a.fUntil),cL 10 Zaa.c Zaa.d a.fPeers]
def Zal.E:Ec Zal:=⟨8,Zal.c,Zal.d⟩
def Zal.ok(a:Zal):Prop:=(okI .i64) a.fCode/\Zag.ok a.fEnd/\(okI .i64) a.fN/\(okI .i64) a.fUntil/\(okL Zaa.ok) a.fPeers/\True
structure Zao where
 fc:Zaq
 fs:Zak
 fx:Zar
def Zao.d:Zao:=⟨Zaq.d,Zak.d,Zar.d⟩
def Zao.c(a:Zao):List C:=[.lit (.int .i64 a.fc.fMaxIn),.lit (.int .i64 a.fc.fMaxOut),.lit (.int .i64 a.fc.fShards),.lit (.int .i64 a.fc.fMaxBans),.lit (.int .i64 a.fc.fMaxBook),.lit (.int .u64 a.fc.fSecret),.lit (.int .i64 a.fc.fQuota.fGroup),.lit (.int .i64 a.fc.fQuota.fPing),.lit (.int .i64 a.fc.fQuota.fWork),.lit (.int .i64 a.fc.fQuota.fTime),.lit (.int .i64 a.fc.fHalf),.lit (.int .i64 a.fc.fLimit),.lit (.int .i64 a.fc.fBanFor),.lit (.int .i64 a.fc.fBase),.lit (.int .i64 a.fc.fCap),.lit (.int .i64 a.fc.fJitter),cL 5 Zac.c Zac.d a.fs.fBans,cL 7 Zab.c Zab.d a.fs.fBook,cL 10 Zaa.c Zaa.d a.fs.fPeers,.lit (.int .i64 a.fx.fKind),.lit (.bool a.fx.fEnd.fAddr.fV6),.lit (.int .u64 a.fx.fEnd.fAddr.fHi),.lit (.int .u64 a.fx.fEnd.fAddr.fLo),.lit (.int .i64 a.fx.fEnd.fPort),.lit (.bool a.fx.fNet.fAddr.fV6),.lit (.int .u64 a.fx.fNet.fAddr.fHi),.lit (.int .u64 a.fx.fNet.fAddr.fLo),.lit (.int .i64 a.fx.fNet.fBits),.lit (.int .i64 a.fx.fNow),.lit (.int .i64 a.fx.fNum),.lit (.bool a.fx.fGood)]
def Zao.E:Ec Zao:=⟨31,Zao.c,Zao.d⟩
def Zao.ok(a:Zao):Prop:=Zaq.ok a.fc/\Zak.ok a.fs/\Zar.ok a.fx/\True
structure Zax where
 fword:ByteArray
 fn:Int
 ffrom:Int
 fto:Int
 deriving DecidableEq
def Zax.d:Zax:=⟨ByteArray.empty,(0:Int),(0:Int),(0:Int)⟩
def Zax.c(a:Zax):List C:=[.lit (.string a.fword),.lit (.int .i64 a.fn),.lit (.int .i64 a.ffrom),.lit (.int .i64 a.fto)]
def Zax.E:Ec Zax:=⟨4,Zax.c,Zax.d⟩
structure ZaC where
 fBook:(List Zab)
 fPeers:(List Zaa)
 fBans:(List Zac)
def ZaC.d:ZaC:=⟨([]:(List Zab)),([]:(List Zaa)),([]:(List Zac))⟩
def ZaC.c(a:ZaC):List C:=[cL 7 Zab.c Zab.d a.fBook,cL 10 Zaa.c Zaa.d a.fPeers,cL 5 Zac.c Zac.d a.fBans]
def ZaC.E:Ec ZaC:=⟨3,ZaC.c,ZaC.d⟩
def ZaC.ok(a:ZaC):Prop:=(okL Zab.ok) a.fBook/\(okL Zaa.ok) a.fPeers/\(okL Zac.ok) a.fBans/\True
structure Zah where
 fKey:Int
 fEnd:Zag
 deriving DecidableEq
def Zah.d:Zah:=⟨(0:Int),Zag.d⟩
def Zah.c(a:Zah):List C:=[.lit (.int .i64 a.fKey),.lit (.bool a.fEnd.fAddr.fV6),.lit (.int .u64 a.fEnd.fAddr.fHi),.lit (.int .u64 a.fEnd.fAddr.fLo),.lit (.int .i64 a.fEnd.fPort)]
def Zah.E:Ec Zah:=⟨5,Zah.c,Zah.d⟩
def Zah.ok(a:Zah):Prop:=(okI .i64) a.fKey/\Zag.ok a.fEnd/\True
structure Zat where
 fNet:Zae
 fV:Int
 deriving DecidableEq
def Zat.d:Zat:=⟨Zae.d,(0:Int)⟩
def Zat.c(a:Zat):List C:=[.lit (.bool a.fNet.fAddr.fV6),.lit (.int .u64 a.fNet.fAddr.fHi),.lit (.int .u64 a.fNet.fAddr.fLo),.lit (.int .i64 a.fNet.fBits),.lit (.int .i64 a.fV)]
def Zat.E:Ec Zat:=⟨5,Zat.c,Zat.d⟩
def Zat.ok(a:Zat):Prop:=Zae.ok a.fNet/\(okI .i64) a.fV/\True
inductive Zap where
 |nil
 |mk (a0:Zat) (a1:Bool) (a2:Zap) (a3:Zap)
def Zap.isNil:Zap->Bool | .nil=>true | .mk _ _ _ _=>false
def Zap.cs:Zap->Nat->C | .nil=>fun _=>.junk | .mk a0 a1 a2 a3=>fun j=>([.lit (.bool a0.fNet.fAddr.fV6),.lit (.int .u64 a0.fNet.fAddr.fHi),.lit (.int .u64 a0.fNet.fAddr.fLo),.lit (.int .i64 a0.fNet.fBits),.lit (.int .i64 a0.fV),.lit (.bool a1),.rp a2.isNil 8 a2.cs,.rp a3.isNil 8 a3.cs]:List C).getD (0+j) .junk
def Zap.c(x:Zap):C:=.rp x.isNil 8 x.cs
inductive ZaF where
 |nil
 |mk (a0:Zap) (a1:Zap) (a2:Int)
def ZaF.isNil:ZaF->Bool | .nil=>true | .mk _ _ _=>false
def ZaF.cs:ZaF->Nat->C | .nil=>fun _=>.junk | .mk a0 a1 a2=>fun j=>([.rp a0.isNil 8 a0.cs,.rp a1.isNil 8 a1.cs,.lit (.int .i64 a2)]:List C).getD (0+j) .junk
def ZaF.c(x:ZaF):C:=.rp x.isNil 3 x.cs
structure ZgU where
 fhit:Zat
 fhas:Bool
 fkids:(Zap×Zap)
def ZgU.d:ZgU:=⟨Zat.d,false,(Zap.nil,Zap.nil)⟩
def ZgU.c(a:ZgU):List C:=[.lit (.bool a.fhit.fNet.fAddr.fV6),.lit (.int .u64 a.fhit.fNet.fAddr.fHi),.lit (.int .u64 a.fhit.fNet.fAddr.fLo),.lit (.int .i64 a.fhit.fNet.fBits),.lit (.int .i64 a.fhit.fV),.lit (.bool a.fhas),Zap.c a.fkids.1,Zap.c a.fkids.2]
def ZgU.E:Ec ZgU:=⟨8,ZgU.c,ZgU.d⟩
structure Zbm where
 fby:Int
 fn:Int
 deriving DecidableEq
def Zbm.d:Zbm:=⟨(0:Int),(0:Int)⟩
def Zbm.c(a:Zbm):List C:=[.lit (.int .i64 a.fby),.lit (.int .i64 a.fn)]
def Zbm.E:Ec Zbm:=⟨2,Zbm.c,Zbm.d⟩
def Zbm.ok(a:Zbm):Prop:=(okI .i64) a.fby/\(okI .i64) a.fn/\True
def tab:Tab:=[ (3,⟨.int .i64,1,8,some (.int .i64 (0))⟩),(4,⟨.bool,1,1,some (.bool false)⟩),(5,⟨.int .u8,1,1,some (.int .u8 (0))⟩),(9,⟨.str,1,16,some (.string ⟨#[]⟩)⟩),(22,⟨.int .u64,1,8,some (.int .u64 (0))⟩),(23,⟨.struct [(0,3),(1,3),(2,3),(3,3)],4,32,some (.agg #[.int .i64 (0),.int .i64 (0),.int .i64 (0),.int .i64 (0)])⟩),(24,⟨.struct [(0,3),(1,3),(2,3),(3,3)],4,32,some (.agg #[.int .i64 (0),.int .i64 (0),.int .i64 (0),.int .i64 (0)])⟩),(25,⟨.struct [(0,3),(1,3),(2,3),(3,3),(4,3),(5,22),(6,24),(10,3),(11,3),(12,3),(13,3),(14,3),(15,3)],16,128,some (.agg #[.int .i64 (0),.int .i64 (0),.int .i64 (0),.int .i64 (0),.int .i64 (0),.int .u64 (0),.int .i64 (0),.int .i64 (0),.int .i64 (0),.int .i64 (0),.int .i64 (0),.int .i64 (0),.int .i64 (0),.int .i64 (0),.int .i64 (0),.int .i64 (0)])⟩),(26,⟨.struct [(0,3),(1,3),(2,3),(3,3),(4,3),(5,22),(6,24),(10,3),(11,3),(12,3),(13,3),(14,3),(15,3)],16,128,some (.agg #[.int .i64 (0),.int .i64 (0),.int .i64 (0),.int .i64 (0),.int .i64 (0),.int .u64 (0),.int .i64 (0),.int .i64 (0),.int .i64 (0),.int .i64 (0),.int .i64 (0),.int .i64 (0),.int .i64 (0),.int .i64 (0),.int .i64 (0),.int .i64 (0)])⟩),(27,⟨.slice 47,1,24,some (.slice none 0 0)⟩),(30,⟨.slice 56,1,24,some (.slice none 0 0)⟩),(31,⟨.slice 80,1,24,some (.slice none 0 0)⟩),(32,⟨.slice 64,1,24,some (.slice none 0 0)⟩),(33,⟨.struct [(0,30),(1,31),(2,32)],3,72,some (.agg #[.slice none 0 0,.slice none 0 0,.slice none 0 0])⟩),(34,⟨.struct [(0,30),(1,31),(2,32)],3,72,some (.agg #[.slice none 0 0,.slice none 0 0,.slice none 0 0])⟩),(35,⟨.int .i64,1,8,some (.int .i64 (0))⟩),(36,⟨.struct [(0,4),(1,22),(2,22)],3,24,some (.agg #[.bool false,.int .u64 (0),.int .u64 (0)])⟩),(37,⟨.struct [(0,4),(1,22),(2,22)],3,24,some (.agg #[.bool false,.int .u64 (0),.int .u64 (0)])⟩),(38,⟨.struct [(0,37),(3,3)],4,32,some (.agg #[.bool false,.int .u64 (0),.int .u64 (0),.int .i64 (0)])⟩),(39,⟨.struct [(0,37),(3,3)],4,32,some (.agg #[.bool false,.int .u64 (0),.int .u64 (0),.int .i64 (0)])⟩),(40,⟨.struct [(0,35),(1,39),(5,3),(6,3),(7,32)],8,80,some (.agg #[.int .i64 (0),.bool false,.int .u64 (0),.int .u64 (0),.int .i64 (0),.int .i64 (0),.int .i64 (0),.slice none 0 0])⟩),(41,⟨.struct [(0,35),(1,39),(5,3),(6,3),(7,32)],8,80,some (.agg #[.int .i64 (0),.bool false,.int .u64 (0),.int .u64 (0),.int .i64 (0),.int .i64 (0),.int .i64 (0),.slice none 0 0])⟩),(44,⟨.struct [(0,37),(3,3)],4,32,some (.agg #[.bool false,.int .u64 (0),.int .u64 (0),.int .i64 (0)])⟩),(45,⟨.struct [(0,37),(3,3)],4,32,some (.agg #[.bool false,.int .u64 (0),.int .u64 (0),.int .i64 (0)])⟩),(46,⟨.struct [(0,3),(1,39),(5,45),(9,3),(10,3),(11,4)],12,96,some (.agg #[.int .i64 (0),.bool false,.int .u64 (0),.int .u64 (0),.int .i64 (0),.bool false,.int .u64 (0),.int .u64 (0),.int .i64 (0),.int .i64 (0),.int .i64 (0),.bool false])⟩),(47,⟨.struct [(0,3),(1,39),(5,45),(9,3),(10,3),(11,4)],12,96,some (.agg #[.int .i64 (0),.bool false,.int .u64 (0),.int .u64 (0),.int .i64 (0),.bool false,.int .u64 (0),.int .u64 (0),.int .i64 (0),.int .i64 (0),.int .i64 (0),.bool false])⟩),(51,⟨.slice 41,1,24,some (.slice none 0 0)⟩),(55,⟨.struct [(0,45),(4,3)],5,40,some (.agg #[.bool false,.int .u64 (0),.int .u64 (0),.int .i64 (0),.int .i64 (0)])⟩),(56,⟨.struct [(0,45),(4,3)],5,40,some (.agg #[.bool false,.int .u64 (0),.int .u64 (0),.int .i64 (0),.int .i64 (0)])⟩),(59,⟨.func,1,8,some (.nilFunc)⟩),(61,⟨.struct [(0,3),(1,3)],2,16,some (.agg #[.int .i64 (0),.int .i64 (0)])⟩),(62,⟨.struct [(0,3),(1,3)],2,16,some (.agg #[.int .i64 (0),.int .i64 (0)])⟩),(63,⟨.struct [(0,39),(4,4),(5,3),(6,62),(8,3),(9,3)],10,80,some (.agg #[.bool false,.int .u64 (0),.int .u64 (0),.int .i64 (0),.bool false,.int .i64 (0),.int .i64 (0),.int .i64 (0),.int .i64 (0),.int .i64 (0)])⟩),(64,⟨.struct [(0,39),(4,4),(5,3),(6,62),(8,3),(9,3)],10,80,some (.agg #[.bool false,.int .u64 (0),.int .u64 (0),.int .i64 (0),.bool false,.int .i64 (0),.int .i64 (0),.int .i64 (0),.int .i64 (0),.int .i64 (0)])⟩),(72,⟨.ptr 74,1,8,some (.pointer none)⟩),(73,⟨.struct [(0,26),(16,34),(19,47)],31,296,some (.agg #[.int .i64 (0),.int .i64 (0),.int .i64 (0),.int .i64 (0),.int .i64 (0),.int .u64 (0),.int .i64 (0),.int .i64 (0),.int .i64 (0),.int .i64 (0),.int .i64 (0),.int .i64 (0),.int .i64 (0),.int .i64 (0),.int .i64 (0),.int .i64 (0),.slice none 0 0,.slice none 0 0,.slice none 0 0,.int .i64 (0),.bool false,.int .u64 (0),.int .u64 (0),.int .i64 (0),.bool false,.int .u64 (0),.int .u64 (0),.int .i64 (0),.int .i64 (0),.int .i64 (0),.bool false])⟩),(74,⟨.struct [(0,26),(16,34),(19,47)],31,296,some (.agg #[.int .i64 (0),.int .i64 (0),.int .i64 (0),.int .i64 (0),.int .i64 (0),.int .u64 (0),.int .i64 (0),.int .i64 (0),.int .i64 (0),.int .i64 (0),.int .i64 (0),.int .i64 (0),.int .i64 (0),.int .i64 (0),.int .i64 (0),.int .i64 (0),.slice none 0 0,.slice none 0 0,.slice none 0 0,.int .i64 (0),.bool false,.int .u64 (0),.int .u64 (0),.int .i64 (0),.bool false,.int .u64 (0),.int .u64 (0),.int .i64 (0),.int .i64 (0),.int .i64 (0),.bool false])⟩),(79,⟨.struct [(0,39),(4,3),(5,3),(6,3)],7,56,some (.agg #[.bool false,.int .u64 (0),.int .u64 (0),.int .i64 (0),.int .i64 (0),.int .i64 (0),.int .i64 (0)])⟩),(80,⟨.struct [(0,39),(4,3),(5,3),(6,3)],7,56,some (.agg #[.bool false,.int .u64 (0),.int .u64 (0),.int .i64 (0),.int .i64 (0),.int .i64 (0),.int .i64 (0)])⟩),(95,⟨.slice 97,1,24,some (.slice none 0 0)⟩),(97,⟨.int .i64,1,8,some (.int .i64 (0))⟩),(124,⟨.func,1,8,some (.nilFunc)⟩),(129,⟨.func,1,8,some (.nilFunc)⟩),(132,⟨.slice 39,1,24,some (.slice none 0 0)⟩),(134,⟨.struct [(0,9),(1,3),(2,3),(3,3)],4,40,some (.agg #[.string ⟨#[]⟩,.int .i64 (0),.int .i64 (0),.int .i64 (0)])⟩),(135,⟨.struct [(0,9),(1,3),(2,3),(3,3)],4,40,some (.agg #[.string ⟨#[]⟩,.int .i64 (0),.int .i64 (0),.int .i64 (0)])⟩),(136,⟨.array 16 135,64,640,some (.agg #[.string ⟨#[]⟩,.int .i64 (0),.int .i64 (0),.int .i64 (0),.string ⟨#[]⟩,.int .i64 (0),.int .i64 (0),.int .i64 (0),.string ⟨#[]⟩,.int .i64 (0),.int .i64 (0),.int .i64 (0),.string ⟨#[]⟩,.int .i64 (0),.int .i64 (0),.int .i64 (0),.string ⟨#[]⟩,.int .i64 (0),.int .i64 (0),.int .i64 (0),.string ⟨#[]⟩,.int .i64 (0),.int .i64 (0),.int .i64 (0),.string ⟨#[]⟩,.int .i64 (0),.int .i64 (0),.int .i64 (0),.string ⟨#[]⟩,.int .i64 (0),.int .i64 (0),.int .i64 (0),.string ⟨#[]⟩,.int .i64 (0),.int .i64 (0),.int .i64 (0),.string ⟨#[]⟩,.int .i64 (0),.int .i64 (0),.int .i64 (0),.string ⟨#[]⟩,.int .i64 (0),.int .i64 (0),.int .i64 (0),.string ⟨#[]⟩,.int .i64 (0),.int .i64 (0),.int .i64 (0),.string ⟨#[]⟩,.int .i64 (0),.int .i64 (0),.int .i64 (0),.string ⟨#[]⟩,.int .i64 (0),.int .i64 (0),.int .i64 (0),.string ⟨#[]⟩,.int .i64 (0),.int .i64 (0),.int .i64 (0),.string ⟨#[]⟩,.int .i64 (0),.int .i64 (0),.int .i64 (0)])⟩),(138,⟨.func,1,8,some (.nilFunc)⟩),(139,⟨.func,1,8,some (.nilFunc)⟩),(140,⟨.func,1,8,some (.nilFunc)⟩),(142,⟨.int .u64,1,8,some (.int .u64 (0))⟩),(143,⟨.array 14 9,14,224,some (.agg #[.string ⟨#[]⟩,.string ⟨#[]⟩,.string ⟨#[]⟩,.string ⟨#[]⟩,.string ⟨#[]⟩,.string ⟨#[]⟩,.string ⟨#[]⟩,.string ⟨#[]⟩,.string ⟨#[]⟩,.string ⟨#[]⟩,.string ⟨#[]⟩,.string ⟨#[]⟩,.string ⟨#[]⟩,.string ⟨#[]⟩])⟩),(146,⟨.slice 9,1,24,some (.slice none 0 0)⟩),(152,⟨.struct [(0,31),(1,32),(2,30)],3,72,some (.agg #[.slice none 0 0,.slice none 0 0,.slice none 0 0])⟩),(153,⟨.struct [(0,31),(1,32),(2,30)],3,72,some (.agg #[.slice none 0 0,.slice none 0 0,.slice none 0 0])⟩),(182,⟨.int .u32,1,4,some (.int .u32 (0))⟩),(187,⟨.slice 191,1,24,some (.slice none 0 0)⟩),(190,⟨.struct [(0,3),(1,39)],5,40,some (.agg #[.int .i64 (0),.bool false,.int .u64 (0),.int .u64 (0),.int .i64 (0)])⟩),(191,⟨.struct [(0,3),(1,39)],5,40,some (.agg #[.int .i64 (0),.bool false,.int .u64 (0),.int .u64 (0),.int .i64 (0)])⟩),(195,⟨.array 6 3,6,48,some (.agg #[.int .i64 (0),.int .i64 (0),.int .i64 (0),.int .i64 (0),.int .i64 (0),.int .i64 (0)])⟩),(203,⟨.slice 208,1,24,some (.slice none 0 0)⟩),(204,⟨.ptr 237,1,8,some (.pointer none)⟩),(207,⟨.struct [(0,45),(4,3)],5,40,some (.agg #[.bool false,.int .u64 (0),.int .u64 (0),.int .i64 (0),.int .i64 (0)])⟩),(208,⟨.struct [(0,45),(4,3)],5,40,some (.agg #[.bool false,.int .u64 (0),.int .u64 (0),.int .i64 (0),.int .i64 (0)])⟩),(211,⟨.slice 4,1,24,some (.slice none 0 0)⟩),(219,⟨.slice 3,1,24,some (.slice none 0 0)⟩),(224,⟨.map 45 3,1,8,some (.map none)⟩),(234,⟨.ptr 239,1,8,some (.pointer none)⟩),(235,⟨.array 2 234,2,16,some (.agg #[.pointer none,.pointer none])⟩),(236,⟨.struct [(0,235),(2,3)],3,24,some (.agg #[.pointer none,.pointer none,.int .i64 (0)])⟩),(237,⟨.struct [(0,235),(2,3)],3,24,some (.agg #[.pointer none,.pointer none,.int .i64 (0)])⟩),(238,⟨.struct [(0,208),(5,4),(6,235)],8,64,some (.agg #[.bool false,.int .u64 (0),.int .u64 (0),.int .i64 (0),.int .i64 (0),.bool false,.pointer none,.pointer none])⟩),(239,⟨.struct [(0,208),(5,4),(6,235)],8,64,some (.agg #[.bool false,.int .u64 (0),.int .u64 (0),.int .i64 (0),.int .i64 (0),.bool false,.pointer none,.pointer none])⟩),(252,⟨.struct [(0,3),(1,3)],2,16,some (.agg #[.int .i64 (0),.int .i64 (0)])⟩),(253,⟨.struct [(0,3),(1,3)],2,16,some (.agg #[.int .i64 (0),.int .i64 (0)])⟩),(254,⟨.array 4 253,8,64,some (.agg #[.int .i64 (0),.int .i64 (0),.int .i64 (0),.int .i64 (0),.int .i64 (0),.int .i64 (0),.int .i64 (0),.int .i64 (0)])⟩),(261,⟨.slice 45,1,24,some (.slice none 0 0)⟩),(278,⟨.slice 22,1,24,some (.slice none 0 0)⟩)]
theorem ZDU:Zep Tryz.prog tab:=
 .cons ⟨by kernel_rfl,by kernel_rfl,_,Tryz.underlying3,rfl⟩ <|
 .cons ⟨by kernel_rfl,by kernel_rfl,_,Tryz.underlying4,trivial⟩ <|
 .cons ⟨by kernel_rfl,by kernel_rfl,_,Tryz.underlying5,rfl⟩ <|
 .cons ⟨by kernel_rfl,by kernel_rfl,_,Tryz.underlying9,trivial⟩ <|
 .cons ⟨by kernel_rfl,by kernel_rfl,_,Tryz.underlying22,rfl⟩ <|
 .cons ⟨by kernel_rfl,by kernel_rfl,_,Tryz.underlying23,rfl⟩ <|
 .cons ⟨by kernel_rfl,by kernel_rfl,_,Tryz.underlying24,rfl⟩ <|
 .cons ⟨by kernel_rfl,by kernel_rfl,_,Tryz.underlying25,rfl⟩ <|
 .cons ⟨by kernel_rfl,by kernel_rfl,_,Tryz.underlying26,rfl⟩ <|
 .cons ⟨by kernel_rfl,by kernel_rfl,_,Tryz.underlying27,rfl⟩ <|
 .cons ⟨by kernel_rfl,by kernel_rfl,_,Tryz.underlying30,rfl⟩ <|
 .cons ⟨by kernel_rfl,by kernel_rfl,_,Tryz.underlying31,rfl⟩ <|
 .cons ⟨by kernel_rfl,by kernel_rfl,_,Tryz.underlying32,rfl⟩ <|
 .cons ⟨by kernel_rfl,by kernel_rfl,_,Tryz.underlying33,rfl⟩ <|
 .cons ⟨by kernel_rfl,by kernel_rfl,_,Tryz.underlying34,rfl⟩ <|
 .cons ⟨by kernel_rfl,by kernel_rfl,_,Tryz.underlying35,rfl⟩ <|
 .cons ⟨by kernel_rfl,by kernel_rfl,_,Tryz.underlying36,rfl⟩ <|
 .cons ⟨by kernel_rfl,by kernel_rfl,_,Tryz.underlying37,rfl⟩ <|
 .cons ⟨by kernel_rfl,by kernel_rfl,_,Tryz.underlying38,rfl⟩ <|
 .cons ⟨by kernel_rfl,by kernel_rfl,_,Tryz.underlying39,rfl⟩ <|
 .cons ⟨by kernel_rfl,by kernel_rfl,_,Tryz.underlying40,rfl⟩ <|
 .cons ⟨by kernel_rfl,by kernel_rfl,_,Tryz.underlying41,rfl⟩ <|
 .cons ⟨by kernel_rfl,by kernel_rfl,_,Tryz.underlying44,rfl⟩ <|
 .cons ⟨by kernel_rfl,by kernel_rfl,_,Tryz.underlying45,rfl⟩ <|
 .cons ⟨by kernel_rfl,by kernel_rfl,_,Tryz.underlying46,rfl⟩ <|
 .cons ⟨by kernel_rfl,by kernel_rfl,_,Tryz.underlying47,rfl⟩ <|
 .cons ⟨by kernel_rfl,by kernel_rfl,_,Tryz.underlying51,rfl⟩ <|
 .cons ⟨by kernel_rfl,by kernel_rfl,_,Tryz.underlying55,rfl⟩ <|
 .cons ⟨by kernel_rfl,by kernel_rfl,_,Tryz.underlying56,rfl⟩ <|
 .cons ⟨by kernel_rfl,by kernel_rfl,_,Tryz.underlying59,trivial⟩ <|
 .cons ⟨by kernel_rfl,by kernel_rfl,_,Tryz.underlying61,rfl⟩ <|
 .cons ⟨by kernel_rfl,by kernel_rfl,_,Tryz.underlying62,rfl⟩ <|
 .cons ⟨by kernel_rfl,by kernel_rfl,_,Tryz.underlying63,rfl⟩ <|
 .cons ⟨by kernel_rfl,by kernel_rfl,_,Tryz.underlying64,rfl⟩ <|
 .cons ⟨by kernel_rfl,by kernel_rfl,_,Tryz.underlying72,rfl⟩ <|
 .cons ⟨by kernel_rfl,by kernel_rfl,_,Tryz.underlying73,rfl⟩ <|
 .cons ⟨by kernel_rfl,by kernel_rfl,_,Tryz.underlying74,rfl⟩ <|
 .cons ⟨by kernel_rfl,by kernel_rfl,_,Tryz.underlying79,rfl⟩ <|
 .cons ⟨by kernel_rfl,by kernel_rfl,_,Tryz.underlying80,rfl⟩ <|
 .cons ⟨by kernel_rfl,by kernel_rfl,_,Tryz.underlying95,rfl⟩ <|
 .cons ⟨by kernel_rfl,by kernel_rfl,_,Tryz.underlying97,rfl⟩ <|
 .cons ⟨by kernel_rfl,by kernel_rfl,_,Tryz.underlying124,trivial⟩ <|
 .cons ⟨by kernel_rfl,by kernel_rfl,_,Tryz.underlying129,trivial⟩ <|
 .cons ⟨by kernel_rfl,by kernel_rfl,_,Tryz.underlying132,rfl⟩ <|
 .cons ⟨by kernel_rfl,by kernel_rfl,_,Tryz.underlying134,rfl⟩ <|
 .cons ⟨by kernel_rfl,by kernel_rfl,_,Tryz.underlying135,rfl⟩ <|
 .cons ⟨by kernel_rfl,by kernel_rfl,_,Tryz.underlying136,⟨rfl,rfl⟩⟩ <|
 .cons ⟨by kernel_rfl,by kernel_rfl,_,Tryz.underlying138,trivial⟩ <|
 .cons ⟨by kernel_rfl,by kernel_rfl,_,Tryz.underlying139,trivial⟩ <|
 .cons ⟨by kernel_rfl,by kernel_rfl,_,Tryz.underlying140,trivial⟩ <|
 .cons ⟨by kernel_rfl,by kernel_rfl,_,Tryz.underlying142,rfl⟩ <|
 .cons ⟨by kernel_rfl,by kernel_rfl,_,Tryz.underlying143,⟨rfl,rfl⟩⟩ <|
 .cons ⟨by kernel_rfl,by kernel_rfl,_,Tryz.underlying146,rfl⟩ <|
 .cons ⟨by kernel_rfl,by kernel_rfl,_,Tryz.underlying152,rfl⟩ <|
 .cons ⟨by kernel_rfl,by kernel_rfl,_,Tryz.underlying153,rfl⟩ <|
 .cons ⟨by kernel_rfl,by kernel_rfl,_,Tryz.underlying182,rfl⟩ <|
 .cons ⟨by kernel_rfl,by kernel_rfl,_,Tryz.underlying187,rfl⟩ <|
 .cons ⟨by kernel_rfl,by kernel_rfl,_,Tryz.underlying190,rfl⟩ <|
 .cons ⟨by kernel_rfl,by kernel_rfl,_,Tryz.underlying191,rfl⟩ <|
 .cons ⟨by kernel_rfl,by kernel_rfl,_,Tryz.underlying195,⟨rfl,rfl⟩⟩ <|
 .cons ⟨by kernel_rfl,by kernel_rfl,_,Tryz.underlying203,rfl⟩ <|
 .cons ⟨by kernel_rfl,by kernel_rfl,_,Tryz.underlying204,rfl⟩ <|
 .cons ⟨by kernel_rfl,by kernel_rfl,_,Tryz.underlying207,rfl⟩ <|
 .cons ⟨by kernel_rfl,by kernel_rfl,_,Tryz.underlying208,rfl⟩ <|
 .cons ⟨by kernel_rfl,by kernel_rfl,_,Tryz.underlying211,rfl⟩ <|
 .cons ⟨by kernel_rfl,by kernel_rfl,_,Tryz.underlying219,rfl⟩ <|
 .cons ⟨by kernel_rfl,by kernel_rfl,_,Tryz.underlying224,⟨rfl,rfl⟩⟩ <|
 .cons ⟨by kernel_rfl,by kernel_rfl,_,Tryz.underlying234,rfl⟩ <|
 .cons ⟨by kernel_rfl,by kernel_rfl,_,Tryz.underlying235,⟨rfl,rfl⟩⟩ <|
 .cons ⟨by kernel_rfl,by kernel_rfl,_,Tryz.underlying236,rfl⟩ <|
 .cons ⟨by kernel_rfl,by kernel_rfl,_,Tryz.underlying237,rfl⟩ <|
 .cons ⟨by kernel_rfl,by kernel_rfl,_,Tryz.underlying238,rfl⟩ <|
 .cons ⟨by kernel_rfl,by kernel_rfl,_,Tryz.underlying239,rfl⟩ <|
 .cons ⟨by kernel_rfl,by kernel_rfl,_,Tryz.underlying252,rfl⟩ <|
 .cons ⟨by kernel_rfl,by kernel_rfl,_,Tryz.underlying253,rfl⟩ <|
 .cons ⟨by kernel_rfl,by kernel_rfl,_,Tryz.underlying254,⟨rfl,rfl⟩⟩ <|
 .cons ⟨by kernel_rfl,by kernel_rfl,_,Tryz.underlying261,rfl⟩ <|
 .cons ⟨by kernel_rfl,by kernel_rfl,_,Tryz.underlying278,rfl⟩ <|
 .nil _
theorem ZtW:ZFW Tryz.prog tab:=⟨ZDU,by kernel_rfl⟩
theorem Yc{N:Nat}{S0:Nat->Prop}{w0:ZeU}{fn:Func}{α:Type}{v r:α}(hf:some v=some r){F:α->V}{H:α->List (Nat×B)}(n:Nat){is:List It}{st:St}(ras:List RA)(bs:List Bool)(na:NA){obl:List Prop}(ho:Obl obl)(h:ZJD Tryz.prog N tab n is st ras bs na fn.results.toList=some (F v,H v,obl):=by kernel_rfl):Good Tryz.prog N S0 w0 (bodyPost Tryz.prog fn (ZwI S0 w0 (H r) (F r))) is st:=by
 obtain rfl:=Option.some.inj hf;exact Zur ZtW n ras bs na ho h
abbrev Yj(x:Int):V:=.one (.lit (.int .i64 x))
abbrev Yk(x:Bool):V:=.one (.lit (.bool x))
abbrev Yl(l:List Zac):V:=.one (cL 5 Zac.c Zac.d l)
abbrev Ym(l:List Zaa):V:=.one (cL 10 Zaa.c Zaa.d l)
abbrev Yn(l:List Zab):V:=.one (cL 7 Zab.c Zab.d l)
abbrev Yo(l:List Zag):V:=.one (cL 4 Zag.c Zag.d l)
abbrev Yp(l:List Zah):V:=.one (cL 5 Zah.c Zah.d l)
theorem Yt{p q:Prop}[Decidable p][Decidable q]{α:Type}{x:Option α}{r:α}(h:need p (need q x)=some r):p/\q/\x=some r:=⟨(ZdS h).1,(ZdS (ZdS h).2).1,(ZdS (ZdS h).2).2⟩
abbrev Yv:ByteArray:=⟨#[0,1,2,2,3,3,3,3,4,4,4,4,4,4,4,4,5,5,5,5,5,5,5,5,5,5,5,5,5,5,5,5,6,6,6,6,6,6,6,6,6,6,6,6,6,6,6,6,6,6,6,6,6,6,6,6,6,6,6,6,6,6,6,6,7,7,7,7,7,7,7,7,7,7,7,7,7,7,7,7,7,7,7,7,7,7,7,7,7,7,7,7,7,7,7,7,7,7,7,7,7,7,7,7,7,7,7,7,7,7,7,7,7,7,7,7,7,7,7,7,7,7,7,7,7,7,7,7,8,8,8,8,8,8,8,8,8,8,8,8,8,8,8,8,8,8,8,8,8,8,8,8,8,8,8,8,8,8,8,8,8,8,8,8,8,8,8,8,8,8,8,8,8,8,8,8,8,8,8,8,8,8,8,8,8,8,8,8,8,8,8,8,8,8,8,8,8,8,8,8,8,8,8,8,8,8,8,8,8,8,8,8,8,8,8,8,8,8,8,8,8,8,8,8,8,8,8,8,8,8,8,8,8,8,8,8,8,8,8,8,8,8,8,8,8,8,8,8,8,8,8,8,8,8,8,8]⟩
abbrev Yq:=Zdh Tryz.prog
instance:Tb Tryz.prog tab:=⟨ZtW⟩
abbrev eS{ρ:Type}(f:Nat)(args:List V)(vr:ρ->V):ρ->Ev:=fun r=>.c (Zpi Tryz.prog f args (vr r)) (vr r)
abbrev eH{ρ:Type}(f:Nat)(h0:List (Nat×B))(args:List V)(h1:ρ->List (Nat×B))(vr:ρ->V):ρ->Ev:=fun r=>.h (Zdh Tryz.prog f h0 args (h1 r) (vr r)) (h1 r) (vr r)
abbrev LS{R:Type}(z:Zw)(fn:Func)(jf:List Nat)(o:Option R)(vr:R->V)(st:St):Prop:=Chk Tryz.prog fn.ntmps z (qS Tryz.prog fn z vr) (at_ jf (ZxZ fn)) st [] o
abbrev LH{R:Type}(z:Zw)(fn:Func)(jf:List Nat)(o:Option R)(h1:R->List (Nat×B))(vr:R->V)(st:St):Prop:=Chk Tryz.prog fn.ntmps z (qH Tryz.prog fn z h1 vr) (at_ jf (ZxZ fn)) st [] o
abbrev mO{α:Type}(n:Nat)(t s:Nat)(e:α->List C)(d:α)(l:List α):List (Nat×B):=[mN n t s e d l]
abbrev mS{α:Type}(c:α->List C)(r:α):V:=.agg (c r)
abbrev m7{α:Type}(r:List α):V:=.one (.osl 99999 r.length)
end Go.Proofs.YtlpdogaifdeomaaGreat
