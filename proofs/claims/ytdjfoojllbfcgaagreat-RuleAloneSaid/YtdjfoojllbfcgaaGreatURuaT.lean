import Derived.Test.YtdjfoojllbfcgaaGreatProg
import Derived.Shelf.Spec.SlicesInsertGrow
import Derived.Lib.Hide
import Derived.Test.YtdjfoojllbfcgaaGreatUPlA
import Derived.Test.YtdjfoojllbfcgaaGreatUAmPy
namespace Go.Proofs.YtdjfoojllbfcgaaGreat
open Go.RowKit Go.Lib Go.Shelf
set_option linter.unusedVariables false
set_option maxRecDepth 100000
structure ZdS where
 fGroup:Int
 fPing:Int
 fWork:Int
 fTime:Int
 deriving DecidableEq
def ZdS.d:ZdS:=⟨(0:Int),(0:Int),(0:Int),(0:Int)⟩
def ZdS.c(a:ZdS):List C:=[.lit (.int .i64 a.fGroup),.lit (.int .i64 a.fPing),.lit (.int .i64 a.fWork),.lit (.int .i64 a.fTime)]
def ZdS.ok(a:ZdS):Prop:=(okI .i64) a.fGroup/\(okI .i64) a.fPing/\(okI .i64) a.fWork/\(okI .i64) a.fTime/\True
theorem ZtD:Opn Tryz.prog 24 ZdS.c ZdS.ok:=Zhn (ea:=(cP (cI .i64) (cP (cI .i64) (cP (cI .i64) (cP (cI .i64) cU))))) (oa:=(okP (okI .i64) (okP (okI .i64) (okP (okI .i64) (okP (okI .i64) okU))))) (N:=4) Tryz.underlying24 (by kernel_rfl) (Zbq (sz:=1) rfl rfl (by kernel_rfl) (ZdZ Tryz.underlying3) (Zbq (sz:=1) rfl rfl (by kernel_rfl) (ZdZ Tryz.underlying3) (Zbq (sz:=1) rfl rfl (by kernel_rfl) (ZdZ Tryz.underlying3) (Zbq (sz:=1) rfl rfl (by kernel_rfl) (ZdZ Tryz.underlying3) ZjJ)))) (fun(a:Int×Int×Int×Int×Unit)=>(⟨a.1,a.2.1,a.2.2.1,a.2.2.2.1⟩ : ZdS)) (fun _=>rfl) (fun _ h=>h)
structure ZaA where
 fMaxIn:Int
 fMaxOut:Int
 fShards:Int
 fMaxBans:Int
 fMaxBook:Int
 fSecret:Int
 fQuota:ZdS
 fHalf:Int
 fLimit:Int
 fBanFor:Int
 fBase:Int
 fCap:Int
 fJitter:Int
 deriving DecidableEq
def ZaA.d:ZaA:=⟨(0:Int),(0:Int),(0:Int),(0:Int),(0:Int),(0:Int),ZdS.d,(0:Int),(0:Int),(0:Int),(0:Int),(0:Int),(0:Int)⟩
def ZaA.c(a:ZaA):List C:=[.lit (.int .i64 a.fMaxIn),.lit (.int .i64 a.fMaxOut),.lit (.int .i64 a.fShards),.lit (.int .i64 a.fMaxBans),.lit (.int .i64 a.fMaxBook),.lit (.int .u64 a.fSecret),.lit (.int .i64 a.fQuota.fGroup),.lit (.int .i64 a.fQuota.fPing),.lit (.int .i64 a.fQuota.fWork),.lit (.int .i64 a.fQuota.fTime),.lit (.int .i64 a.fHalf),.lit (.int .i64 a.fLimit),.lit (.int .i64 a.fBanFor),.lit (.int .i64 a.fBase),.lit (.int .i64 a.fCap),.lit (.int .i64 a.fJitter)]
def ZaA.ok(a:ZaA):Prop:=(okI .i64) a.fMaxIn/\(okI .i64) a.fMaxOut/\(okI .i64) a.fShards/\(okI .i64) a.fMaxBans/\(okI .i64) a.fMaxBook/\(okI .u64) a.fSecret/\ZdS.ok a.fQuota/\(okI .i64) a.fHalf/\(okI .i64) a.fLimit/\(okI .i64) a.fBanFor/\(okI .i64) a.fBase/\(okI .i64) a.fCap/\(okI .i64) a.fJitter/\True
theorem ZuS:Opn Tryz.prog 26 ZaA.c ZaA.ok:=Zhn (ea:=(cP (cI .i64) (cP (cI .i64) (cP (cI .i64) (cP (cI .i64) (cP (cI .i64) (cP (cI .u64) (cP ZdS.c (cP (cI .i64) (cP (cI .i64) (cP (cI .i64) (cP (cI .i64) (cP (cI .i64) (cP (cI .i64) cU)))))))))))))) (oa:=(okP (okI .i64) (okP (okI .i64) (okP (okI .i64) (okP (okI .i64) (okP (okI .i64) (okP (okI .u64) (okP ZdS.ok (okP (okI .i64) (okP (okI .i64) (okP (okI .i64) (okP (okI .i64) (okP (okI .i64) (okP (okI .i64) okU)))))))))))))) (N:=16) Tryz.underlying26 (by kernel_rfl) (Zbq (sz:=1) rfl rfl (by kernel_rfl) (ZdZ Tryz.underlying3) (Zbq (sz:=1) rfl rfl (by kernel_rfl) (ZdZ Tryz.underlying3) (Zbq (sz:=1) rfl rfl (by kernel_rfl) (ZdZ Tryz.underlying3) (Zbq (sz:=1) rfl rfl (by kernel_rfl) (ZdZ Tryz.underlying3) (Zbq (sz:=1) rfl rfl (by kernel_rfl) (ZdZ Tryz.underlying3) (Zbq (sz:=1) rfl rfl (by kernel_rfl) (ZdZ Tryz.underlying22) (Zbq (sz:=4) rfl rfl (by kernel_rfl) ZtD (Zbq (sz:=1) rfl rfl (by kernel_rfl) (ZdZ Tryz.underlying3) (Zbq (sz:=1) rfl rfl (by kernel_rfl) (ZdZ Tryz.underlying3) (Zbq (sz:=1) rfl rfl (by kernel_rfl) (ZdZ Tryz.underlying3) (Zbq (sz:=1) rfl rfl (by kernel_rfl) (ZdZ Tryz.underlying3) (Zbq (sz:=1) rfl rfl (by kernel_rfl) (ZdZ Tryz.underlying3) (Zbq (sz:=1) rfl rfl (by kernel_rfl) (ZdZ Tryz.underlying3) ZjJ))))))))))))) (fun(a:Int×Int×Int×Int×Int×Int×ZdS×Int×Int×Int×Int×Int×Int×Unit)=>(⟨a.1,a.2.1,a.2.2.1,a.2.2.2.1,a.2.2.2.2.1,a.2.2.2.2.2.1,a.2.2.2.2.2.2.1,a.2.2.2.2.2.2.2.1,a.2.2.2.2.2.2.2.2.1,a.2.2.2.2.2.2.2.2.2.1,a.2.2.2.2.2.2.2.2.2.2.1,a.2.2.2.2.2.2.2.2.2.2.2.1,a.2.2.2.2.2.2.2.2.2.2.2.2.1⟩ : ZaA)) (fun _=>rfl) (fun _ h=>h)
structure Zag where
 fV6:Bool
 fHi:Int
 fLo:Int
 deriving DecidableEq
def Zag.d:Zag:=⟨false,(0:Int),(0:Int)⟩
def Zag.c(a:Zag):List C:=[.lit (.bool a.fV6),.lit (.int .u64 a.fHi),.lit (.int .u64 a.fLo)]
def Zag.ok(a:Zag):Prop:=okB a.fV6/\(okI .u64) a.fHi/\(okI .u64) a.fLo/\True
theorem Zqu:Opn Tryz.prog 28 Zag.c Zag.ok:=Zhn (ea:=(cP cB (cP (cI .u64) (cP (cI .u64) cU)))) (oa:=(okP okB (okP (okI .u64) (okP (okI .u64) okU)))) (N:=3) Tryz.underlying28 (by kernel_rfl) (Zbq (sz:=1) rfl rfl (by kernel_rfl) (Zwp Tryz.underlying4) (Zbq (sz:=1) rfl rfl (by kernel_rfl) (ZdZ Tryz.underlying22) (Zbq (sz:=1) rfl rfl (by kernel_rfl) (ZdZ Tryz.underlying22) ZjJ))) (fun(a:Bool×Int×Int×Unit)=>(⟨a.1,a.2.1,a.2.2.1⟩ : Zag)) (fun _=>rfl) (fun _ h=>h)
structure Zah where
 fAddr:Zag
 fPort:Int
 deriving DecidableEq
def Zah.d:Zah:=⟨Zag.d,(0:Int)⟩
def Zah.c(a:Zah):List C:=[.lit (.bool a.fAddr.fV6),.lit (.int .u64 a.fAddr.fHi),.lit (.int .u64 a.fAddr.fLo),.lit (.int .i64 a.fPort)]
def Zah.ok(a:Zah):Prop:=Zag.ok a.fAddr/\(okI .i64) a.fPort/\True
theorem Zob:Opn Tryz.prog 30 Zah.c Zah.ok:=Zhn (ea:=(cP Zag.c (cP (cI .i64) cU))) (oa:=(okP Zag.ok (okP (okI .i64) okU))) (N:=4) Tryz.underlying30 (by kernel_rfl) (Zbq (sz:=3) rfl rfl (by kernel_rfl) Zqu (Zbq (sz:=1) rfl rfl (by kernel_rfl) (ZdZ Tryz.underlying3) ZjJ)) (fun(a:Zag×Int×Unit)=>(⟨a.1,a.2.1⟩ : Zah)) (fun _=>rfl) (fun _ h=>h)
structure Zao where
 fAddr:Zag
 fBits:Int
 deriving DecidableEq
def Zao.d:Zao:=⟨Zag.d,(0:Int)⟩
def Zao.c(a:Zao):List C:=[.lit (.bool a.fAddr.fV6),.lit (.int .u64 a.fAddr.fHi),.lit (.int .u64 a.fAddr.fLo),.lit (.int .i64 a.fBits)]
def Zao.ok(a:Zao):Prop:=Zag.ok a.fAddr/\(okI .i64) a.fBits/\True
theorem Zrj:Opn Tryz.prog 32 Zao.c Zao.ok:=Zhn (ea:=(cP Zag.c (cP (cI .i64) cU))) (oa:=(okP Zag.ok (okP (okI .i64) okU))) (N:=4) Tryz.underlying32 (by kernel_rfl) (Zbq (sz:=3) rfl rfl (by kernel_rfl) Zqu (Zbq (sz:=1) rfl rfl (by kernel_rfl) (ZdZ Tryz.underlying3) ZjJ)) (fun(a:Zag×Int×Unit)=>(⟨a.1,a.2.1⟩ : Zao)) (fun _=>rfl) (fun _ h=>h)
structure Zaz where
 fKind:Int
 fEnd:Zah
 fNet:Zao
 fNow:Int
 fNum:Int
 fGood:Bool
 deriving DecidableEq
def Zaz.d:Zaz:=⟨(0:Int),Zah.d,Zao.d,(0:Int),(0:Int),false⟩
def Zaz.c(a:Zaz):List C:=[.lit (.int .i64 a.fKind),.lit (.bool a.fEnd.fAddr.fV6),.lit (.int .u64 a.fEnd.fAddr.fHi),.lit (.int .u64 a.fEnd.fAddr.fLo),.lit (.int .i64 a.fEnd.fPort),.lit (.bool a.fNet.fAddr.fV6),.lit (.int .u64 a.fNet.fAddr.fHi),.lit (.int .u64 a.fNet.fAddr.fLo),.lit (.int .i64 a.fNet.fBits),.lit (.int .i64 a.fNow),.lit (.int .i64 a.fNum),.lit (.bool a.fGood)]
def Zaz.ok(a:Zaz):Prop:=(okI .i64) a.fKind/\Zah.ok a.fEnd/\Zao.ok a.fNet/\(okI .i64) a.fNow/\(okI .i64) a.fNum/\okB a.fGood/\True
theorem ZuT:Opn Tryz.prog 34 Zaz.c Zaz.ok:=Zhn (ea:=(cP (cI .i64) (cP Zah.c (cP Zao.c (cP (cI .i64) (cP (cI .i64) (cP cB cU))))))) (oa:=(okP (okI .i64) (okP Zah.ok (okP Zao.ok (okP (okI .i64) (okP (okI .i64) (okP okB okU))))))) (N:=12) Tryz.underlying34 (by kernel_rfl) (Zbq (sz:=1) rfl rfl (by kernel_rfl) (ZdZ Tryz.underlying3) (Zbq (sz:=4) rfl rfl (by kernel_rfl) Zob (Zbq (sz:=4) rfl rfl (by kernel_rfl) Zrj (Zbq (sz:=1) rfl rfl (by kernel_rfl) (ZdZ Tryz.underlying3) (Zbq (sz:=1) rfl rfl (by kernel_rfl) (ZdZ Tryz.underlying3) (Zbq (sz:=1) rfl rfl (by kernel_rfl) (Zwp Tryz.underlying4) ZjJ)))))) (fun(a:Int×Zah×Zao×Int×Int×Bool×Unit)=>(⟨a.1,a.2.1,a.2.2.1,a.2.2.2.1,a.2.2.2.2.1,a.2.2.2.2.2.1⟩ : Zaz)) (fun _=>rfl) (fun _ h=>h)
structure Zax where
 fPoints:Int
 fAt:Int
 deriving DecidableEq
def Zax.d:Zax:=⟨(0:Int),(0:Int)⟩
def Zax.c(a:Zax):List C:=[.lit (.int .i64 a.fPoints),.lit (.int .i64 a.fAt)]
def Zax.ok(a:Zax):Prop:=(okI .i64) a.fPoints/\(okI .i64) a.fAt/\True
theorem ZtC:Opn Tryz.prog 42 Zax.c Zax.ok:=Zhn (ea:=(cP (cI .i64) (cP (cI .i64) cU))) (oa:=(okP (okI .i64) (okP (okI .i64) okU))) (N:=2) Tryz.underlying42 (by kernel_rfl) (Zbq (sz:=1) rfl rfl (by kernel_rfl) (ZdZ Tryz.underlying3) (Zbq (sz:=1) rfl rfl (by kernel_rfl) (ZdZ Tryz.underlying3) ZjJ)) (fun(a:Int×Int×Unit)=>(⟨a.1,a.2.1⟩ : Zax)) (fun _=>rfl) (fun _ h=>h)
structure Zaa where
 fEnd:Zah
 fIn:Bool
 fSince:Int
 fScore:Zax
 fPing:Int
 fWork:Int
 deriving DecidableEq
def Zaa.d:Zaa:=⟨Zah.d,false,(0:Int),Zax.d,(0:Int),(0:Int)⟩
def Zaa.c(a:Zaa):List C:=[.lit (.bool a.fEnd.fAddr.fV6),.lit (.int .u64 a.fEnd.fAddr.fHi),.lit (.int .u64 a.fEnd.fAddr.fLo),.lit (.int .i64 a.fEnd.fPort),.lit (.bool a.fIn),.lit (.int .i64 a.fSince),.lit (.int .i64 a.fScore.fPoints),.lit (.int .i64 a.fScore.fAt),.lit (.int .i64 a.fPing),.lit (.int .i64 a.fWork)]
def Zaa.ok(a:Zaa):Prop:=Zah.ok a.fEnd/\okB a.fIn/\(okI .i64) a.fSince/\Zax.ok a.fScore/\(okI .i64) a.fPing/\(okI .i64) a.fWork/\True
theorem ZuR:Opn Tryz.prog 44 Zaa.c Zaa.ok:=Zhn (ea:=(cP Zah.c (cP cB (cP (cI .i64) (cP Zax.c (cP (cI .i64) (cP (cI .i64) cU))))))) (oa:=(okP Zah.ok (okP okB (okP (okI .i64) (okP Zax.ok (okP (okI .i64) (okP (okI .i64) okU))))))) (N:=10) Tryz.underlying44 (by kernel_rfl) (Zbq (sz:=4) rfl rfl (by kernel_rfl) Zob (Zbq (sz:=1) rfl rfl (by kernel_rfl) (Zwp Tryz.underlying4) (Zbq (sz:=1) rfl rfl (by kernel_rfl) (ZdZ Tryz.underlying3) (Zbq (sz:=2) rfl rfl (by kernel_rfl) ZtC (Zbq (sz:=1) rfl rfl (by kernel_rfl) (ZdZ Tryz.underlying3) (Zbq (sz:=1) rfl rfl (by kernel_rfl) (ZdZ Tryz.underlying3) ZjJ)))))) (fun(a:Zah×Bool×Int×Zax×Int×Int×Unit)=>(⟨a.1,a.2.1,a.2.2.1,a.2.2.2.1,a.2.2.2.2.1,a.2.2.2.2.2.1⟩ : Zaa)) (fun _=>rfl) (fun _ h=>h)
structure Zab where
 fNet:Zao
 fUntil:Int
 deriving DecidableEq
def Zab.d:Zab:=⟨Zao.d,(0:Int)⟩
def Zab.c(a:Zab):List C:=[.lit (.bool a.fNet.fAddr.fV6),.lit (.int .u64 a.fNet.fAddr.fHi),.lit (.int .u64 a.fNet.fAddr.fLo),.lit (.int .i64 a.fNet.fBits),.lit (.int .i64 a.fUntil)]
def Zab.ok(a:Zab):Prop:=Zao.ok a.fNet/\(okI .i64) a.fUntil/\True
theorem Zwq:Opn Tryz.prog 146 Zab.c Zab.ok:=Zhn (ea:=(cP Zao.c (cP (cI .i64) cU))) (oa:=(okP Zao.ok (okP (okI .i64) okU))) (N:=5) Tryz.underlying146 (by kernel_rfl) (Zbq (sz:=4) rfl rfl (by kernel_rfl) Zrj (Zbq (sz:=1) rfl rfl (by kernel_rfl) (ZdZ Tryz.underlying3) ZjJ)) (fun(a:Zao×Int×Unit)=>(⟨a.1,a.2.1⟩ : Zab)) (fun _=>rfl) (fun _ h=>h)
structure Zac where
 fEnd:Zah
 fState:Int
 fFails:Int
 fNext:Int
 deriving DecidableEq
def Zac.d:Zac:=⟨Zah.d,(0:Int),(0:Int),(0:Int)⟩
def Zac.c(a:Zac):List C:=[.lit (.bool a.fEnd.fAddr.fV6),.lit (.int .u64 a.fEnd.fAddr.fHi),.lit (.int .u64 a.fEnd.fAddr.fLo),.lit (.int .i64 a.fEnd.fPort),.lit (.int .i64 a.fState),.lit (.int .i64 a.fFails),.lit (.int .i64 a.fNext)]
def Zac.ok(a:Zac):Prop:=Zah.ok a.fEnd/\(okI .i64) a.fState/\(okI .i64) a.fFails/\(okI .i64) a.fNext/\True
theorem ZtE:Opn Tryz.prog 106 Zac.c Zac.ok:=Zhn (ea:=(cP Zah.c (cP (cI .i64) (cP (cI .i64) (cP (cI .i64) cU))))) (oa:=(okP Zah.ok (okP (okI .i64) (okP (okI .i64) (okP (okI .i64) okU))))) (N:=7) Tryz.underlying106 (by kernel_rfl) (Zbq (sz:=4) rfl rfl (by kernel_rfl) Zob (Zbq (sz:=1) rfl rfl (by kernel_rfl) (ZdZ Tryz.underlying3) (Zbq (sz:=1) rfl rfl (by kernel_rfl) (ZdZ Tryz.underlying3) (Zbq (sz:=1) rfl rfl (by kernel_rfl) (ZdZ Tryz.underlying3) ZjJ)))) (fun(a:Zah×Int×Int×Int×Unit)=>(⟨a.1,a.2.1,a.2.2.1,a.2.2.2.1⟩ : Zac)) (fun _=>rfl) (fun _ h=>h)
structure Zae where
 fN:Int
 fPeer:Zaa
 fBans:(List Zab)
 fBook:(List Zac)
def Zae.d:Zae:=⟨(0:Int),Zaa.d,([]:(List Zab)),([]:(List Zac))⟩
def Zae.c(a:Zae):List C:=[.lit (.int .i64 a.fN),.lit (.bool a.fPeer.fEnd.fAddr.fV6),.lit (.int .u64 a.fPeer.fEnd.fAddr.fHi),.lit (.int .u64 a.fPeer.fEnd.fAddr.fLo),.lit (.int .i64 a.fPeer.fEnd.fPort),.lit (.bool a.fPeer.fIn),.lit (.int .i64 a.fPeer.fSince),.lit (.int .i64 a.fPeer.fScore.fPoints),.lit (.int .i64 a.fPeer.fScore.fAt),.lit (.int .i64 a.fPeer.fPing),.lit (.int .i64 a.fPeer.fWork),cL 5 Zab.c Zab.d a.fBans,cL 7 Zac.c Zac.d a.fBook]
def Zae.ok(a:Zae):Prop:=(okI .i64) a.fN/\Zaa.ok a.fPeer/\(okL Zab.ok) a.fBans/\(okL Zac.ok) a.fBook/\True
structure Zay where
 fKind:Int
 fShard:Int
 fSlot:Int
 deriving DecidableEq
def Zay.d:Zay:=⟨(0:Int),(0:Int),(0:Int)⟩
def Zay.c(a:Zay):List C:=[.lit (.int .i64 a.fKind),.lit (.int .i64 a.fShard),.lit (.int .i64 a.fSlot)]
def Zay.ok(a:Zay):Prop:=(okI .i64) a.fKind/\(okI .i64) a.fShard/\(okI .i64) a.fSlot/\True
structure ZaK where
 fKind:Int
 fLock:Int
 fLoc:Zay
 fOld:Int
 fNew:Int
 fVal:Zae
 fMark:Bool
def ZaK.d:ZaK:=⟨(0:Int),(0:Int),Zay.d,(0:Int),(0:Int),Zae.d,false⟩
def ZaK.c(a:ZaK):List C:=[.lit (.int .i64 a.fKind),.lit (.int .i64 a.fLock),.lit (.int .i64 a.fLoc.fKind),.lit (.int .i64 a.fLoc.fShard),.lit (.int .i64 a.fLoc.fSlot),.lit (.int .i64 a.fOld),.lit (.int .i64 a.fNew),.lit (.int .i64 a.fVal.fN),.lit (.bool a.fVal.fPeer.fEnd.fAddr.fV6),.lit (.int .u64 a.fVal.fPeer.fEnd.fAddr.fHi),.lit (.int .u64 a.fVal.fPeer.fEnd.fAddr.fLo),.lit (.int .i64 a.fVal.fPeer.fEnd.fPort),.lit (.bool a.fVal.fPeer.fIn),.lit (.int .i64 a.fVal.fPeer.fSince),.lit (.int .i64 a.fVal.fPeer.fScore.fPoints),.lit (.int .i64 a.fVal.fPeer.fScore.fAt),.lit (.int .i64 a.fVal.fPeer.fPing),.lit (.int .i64 a.fVal.fPeer.fWork),cL 5 Zab.c Zab.d a.fVal.fBans,cL 7 Zac.c Zac.d a.fVal.fBook,.lit (.bool a.fMark)]
def ZaK.ok(a:ZaK):Prop:=(okI .i64) a.fKind/\(okI .i64) a.fLock/\Zay.ok a.fLoc/\(okI .i64) a.fOld/\(okI .i64) a.fNew/\Zae.ok a.fVal/\okB a.fMark/\True
structure Zap where
 fCode:Int
 fEnd:Zah
 fN:Int
 fUntil:Int
 fPeers:(List Zaa)
def Zap.d:Zap:=⟨(0:Int),Zah.d,(0:Int),(0:Int),([]:(List Zaa))⟩
def Zap.c(a:Zap):List C:=[.lit (.int .i64 a.fCode),.lit (.bool a.fEnd.fAddr.fV6),.lit (.int .u64 a.fEnd.fAddr.fHi),.lit (.int .u64 a.fEnd.fAddr.fLo),.lit (.int .i64 a.fEnd.fPort),.lit (.int .i64 a.fN),.lit (.int .i64 a.fUntil),cL 10 Zaa.c Zaa.d a.fPeers]
def Zap.ok(a:Zap):Prop:=(okI .i64) a.fCode/\Zah.ok a.fEnd/\(okI .i64) a.fN/\(okI .i64) a.fUntil/\(okL Zaa.ok) a.fPeers/\True
structure Zco where
 fOp:ZaK
 fReply:Zap
 fDone:Bool
 fBroken:Bool
def Zco.d:Zco:=⟨ZaK.d,Zap.d,false,false⟩
def Zco.c(a:Zco):List C:=[.lit (.int .i64 a.fOp.fKind),.lit (.int .i64 a.fOp.fLock),.lit (.int .i64 a.fOp.fLoc.fKind),.lit (.int .i64 a.fOp.fLoc.fShard),.lit (.int .i64 a.fOp.fLoc.fSlot),.lit (.int .i64 a.fOp.fOld),.lit (.int .i64 a.fOp.fNew),.lit (.int .i64 a.fOp.fVal.fN),.lit (.bool a.fOp.fVal.fPeer.fEnd.fAddr.fV6),.lit (.int .u64 a.fOp.fVal.fPeer.fEnd.fAddr.fHi),.lit (.int .u64 a.fOp.fVal.fPeer.fEnd.fAddr.fLo),.lit (.int .i64 a.fOp.fVal.fPeer.fEnd.fPort),.lit (.bool a.fOp.fVal.fPeer.fIn),.lit (.int .i64 a.fOp.fVal.fPeer.fSince),.lit (.int .i64 a.fOp.fVal.fPeer.fScore.fPoints),.lit (.int .i64 a.fOp.fVal.fPeer.fScore.fAt),.lit (.int .i64 a.fOp.fVal.fPeer.fPing),.lit (.int .i64 a.fOp.fVal.fPeer.fWork),cL 5 Zab.c Zab.d a.fOp.fVal.fBans,cL 7 Zac.c Zac.d a.fOp.fVal.fBook,.lit (.bool a.fOp.fMark),.lit (.int .i64 a.fReply.fCode),.lit (.bool a.fReply.fEnd.fAddr.fV6),.lit (.int .u64 a.fReply.fEnd.fAddr.fHi),.lit (.int .u64 a.fReply.fEnd.fAddr.fLo),.lit (.int .i64 a.fReply.fEnd.fPort),.lit (.int .i64 a.fReply.fN),.lit (.int .i64 a.fReply.fUntil),cL 10 Zaa.c Zaa.d a.fReply.fPeers,.lit (.bool a.fDone),.lit (.bool a.fBroken)]
def Zco.ok(a:Zco):Prop:=ZaK.ok a.fOp/\Zap.ok a.fReply/\okB a.fDone/\okB a.fBroken/\True
structure Zas where
 fBans:(List Zab)
 fBook:(List Zac)
 fPeers:(List Zaa)
def Zas.d:Zas:=⟨([]:(List Zab)),([]:(List Zac)),([]:(List Zaa))⟩
def Zas.c(a:Zas):List C:=[cL 5 Zab.c Zab.d a.fBans,cL 7 Zac.c Zac.d a.fBook,cL 10 Zaa.c Zaa.d a.fPeers]
def Zas.ok(a:Zas):Prop:=(okL Zab.ok) a.fBans/\(okL Zac.ok) a.fBook/\(okL Zaa.ok) a.fPeers/\True
theorem ZtB:Opn Tryz.prog 65 Zas.c Zas.ok:=Zhn (ea:=(cP (cLs 5 Zab.c Zab.d) (cP (cLs 7 Zac.c Zac.d) (cP (cLs 10 Zaa.c Zaa.d) cU)))) (oa:=(okP (okL Zab.ok) (okP (okL Zac.ok) (okP (okL Zaa.ok) okU)))) (N:=3) Tryz.underlying65 (by kernel_rfl) (Zbq (sz:=1) rfl rfl (by kernel_rfl) (ZtA (d:=Zab.d) Tryz.underlying45 (by kernel_rfl) (by decide) (fun _=>rfl) Zwq) (Zbq (sz:=1) rfl rfl (by kernel_rfl) (ZtA (d:=Zac.d) Tryz.underlying46 (by kernel_rfl) (by decide) (fun _=>rfl) ZtE) (Zbq (sz:=1) rfl rfl (by kernel_rfl) (ZtA (d:=Zaa.d) Tryz.underlying54 (by kernel_rfl) (by decide) (fun _=>rfl) ZuR) ZjJ))) (fun(a:(List Zab)×(List Zac)×(List Zaa)×Unit)=>(⟨a.1,a.2.1,a.2.2.1⟩ : Zas)) (fun _=>rfl) (fun _ h=>h)
structure Zad where
 fSize:Int
 fSlots:(List Zaa)
def Zad.d:Zad:=⟨(0:Int),([]:(List Zaa))⟩
def Zad.c(a:Zad):List C:=[.lit (.int .i64 a.fSize),cL 10 Zaa.c Zaa.d a.fSlots]
def Zad.ok(a:Zad):Prop:=(okI .i64) a.fSize/\(okL Zaa.ok) a.fSlots/\True
structure Zat where
 fBy:Int
 fShare:(List Int)
def Zat.d:Zat:=⟨(0:Int),([]:(List Int))⟩
def Zat.c(a:Zat):List C:=[.lit (.int .i64 a.fBy),cL 1 (cI .i64) (0:Int) a.fShare]
def Zat.ok(a:Zat):Prop:=(okI .i64) a.fBy/\(okL (okI .i64)) a.fShare/\True
structure ZaD where
 fIn:Int
 fOut:Int
 fBans:(List Zab)
 fBook:(List Zac)
 fShards:(List Zad)
 fLocks:(List Zat)
def ZaD.d:ZaD:=⟨(0:Int),(0:Int),([]:(List Zab)),([]:(List Zac)),([]:(List Zad)),([]:(List Zat))⟩
def ZaD.c(a:ZaD):List C:=[.lit (.int .i64 a.fIn),.lit (.int .i64 a.fOut),cL 5 Zab.c Zab.d a.fBans,cL 7 Zac.c Zac.d a.fBook,cL 2 Zad.c Zad.d a.fShards,cL 2 Zat.c Zat.d a.fLocks]
def ZaD.ok(a:ZaD):Prop:=(okI .i64) a.fIn/\(okI .i64) a.fOut/\(okL Zab.ok) a.fBans/\(okL Zac.ok) a.fBook/\(okL Zad.ok) a.fShards/\(okL Zat.ok) a.fLocks/\True
inductive Zbl where
 |c187
 |c188
 |c189
 |c190
 |c191
 |c192
def Zbl.c:Zbl->C | .c187=>.lit (.func (.func 187) #[] #[]) | .c188=>.lit (.func (.func 188) #[] #[]) | .c189=>.lit (.func (.func 189) #[] #[]) | .c190=>.lit (.func (.func 190) #[] #[]) | .c191=>.lit (.func (.func 191) #[] #[]) | .c192=>.lit (.func (.func 192) #[] #[])
inductive Zmq where
 |c105 (e0:Zbl) (e1:ZaA) (e2:Zaz)
def Zmq.c:Zmq->C | .c105 e0 e1 e2=>.clo (.func 105) 0 3 (fun i=>([]:List C).getD i .junk) (fun i=>([.rp false 1 (fun j=>([Zbl.c e0]:List C).getD (0+j) .junk),.rp false 16 (fun j=>(ZaA.c e1:List C).getD (0+j) .junk),.rp false 12 (fun j=>(Zaz.c e2:List C).getD (0+j) .junk)]:List C).getD i .junk)
structure Zan where
 fgot:(List Zae)
def Zan.d:Zan:=⟨([]:(List Zae))⟩
def Zan.c(a:Zan):List C:=[cLn 13 Zae.c Zae.d a.fgot]
structure Zbg where
 fc:ZaA
 fx:Zaz
 deriving DecidableEq
def Zbg.d:Zbg:=⟨ZaA.d,Zaz.d⟩
def Zbg.c(a:Zbg):List C:=[.lit (.int .i64 a.fc.fMaxIn),.lit (.int .i64 a.fc.fMaxOut),.lit (.int .i64 a.fc.fShards),.lit (.int .i64 a.fc.fMaxBans),.lit (.int .i64 a.fc.fMaxBook),.lit (.int .u64 a.fc.fSecret),.lit (.int .i64 a.fc.fQuota.fGroup),.lit (.int .i64 a.fc.fQuota.fPing),.lit (.int .i64 a.fc.fQuota.fWork),.lit (.int .i64 a.fc.fQuota.fTime),.lit (.int .i64 a.fc.fHalf),.lit (.int .i64 a.fc.fLimit),.lit (.int .i64 a.fc.fBanFor),.lit (.int .i64 a.fc.fBase),.lit (.int .i64 a.fc.fCap),.lit (.int .i64 a.fc.fJitter),.lit (.int .i64 a.fx.fKind),.lit (.bool a.fx.fEnd.fAddr.fV6),.lit (.int .u64 a.fx.fEnd.fAddr.fHi),.lit (.int .u64 a.fx.fEnd.fAddr.fLo),.lit (.int .i64 a.fx.fEnd.fPort),.lit (.bool a.fx.fNet.fAddr.fV6),.lit (.int .u64 a.fx.fNet.fAddr.fHi),.lit (.int .u64 a.fx.fNet.fAddr.fLo),.lit (.int .i64 a.fx.fNet.fBits),.lit (.int .i64 a.fx.fNow),.lit (.int .i64 a.fx.fNum),.lit (.bool a.fx.fGood)]
def Zbg.ok(a:Zbg):Prop:=ZaA.ok a.fc/\Zaz.ok a.fx/\True
structure Zav where
 fNet:Zao
 fV:Int
 deriving DecidableEq
def Zav.d:Zav:=⟨Zao.d,(0:Int)⟩
def Zav.c(a:Zav):List C:=[.lit (.bool a.fNet.fAddr.fV6),.lit (.int .u64 a.fNet.fAddr.fHi),.lit (.int .u64 a.fNet.fAddr.fLo),.lit (.int .i64 a.fNet.fBits),.lit (.int .i64 a.fV)]
def Zav.ok(a:Zav):Prop:=Zao.ok a.fNet/\(okI .i64) a.fV/\True
inductive Zau where
 |nil
 |mk (a0:Zav) (a1:Bool) (a2:Zau) (a3:Zau)
def Zau.isNil:Zau->Bool | .nil=>true | .mk _ _ _ _=>false
def Zau.cs:Zau->Nat->C | .nil=>fun _=>.junk | .mk a0 a1 a2 a3=>fun j=>([.lit (.bool a0.fNet.fAddr.fV6),.lit (.int .u64 a0.fNet.fAddr.fHi),.lit (.int .u64 a0.fNet.fAddr.fLo),.lit (.int .i64 a0.fNet.fBits),.lit (.int .i64 a0.fV),.lit (.bool a1),.rp a2.isNil 8 a2.cs,.rp a3.isNil 8 a3.cs]:List C).getD (0+j) .junk
def Zau.c(x:Zau):C:=.rp x.isNil 8 x.cs
inductive ZaF where
 |nil
 |mk (a0:Zau) (a1:Zau) (a2:Int)
def ZaF.isNil:ZaF->Bool | .nil=>true | .mk _ _ _=>false
def ZaF.cs:ZaF->Nat->C | .nil=>fun _=>.junk | .mk a0 a1 a2=>fun j=>([.rp a0.isNil 8 a0.cs,.rp a1.isNil 8 a1.cs,.lit (.int .i64 a2)]:List C).getD (0+j) .junk
def ZaF.c(x:ZaF):C:=.rp x.isNil 3 x.cs
structure ZiJ where
 fhit:Zav
 fhas:Bool
 fkids:(Zau×Zau)
def ZiJ.d:ZiJ:=⟨Zav.d,false,(Zau.nil,Zau.nil)⟩
def ZiJ.c(a:ZiJ):List C:=[.lit (.bool a.fhit.fNet.fAddr.fV6),.lit (.int .u64 a.fhit.fNet.fAddr.fHi),.lit (.int .u64 a.fhit.fNet.fAddr.fLo),.lit (.int .i64 a.fhit.fNet.fBits),.lit (.int .i64 a.fhit.fV),.lit (.bool a.fhas),Zau.c a.fkids.1,Zau.c a.fkids.2]
inductive Tout (α:Type) where
 |ret (x:α) (g:Zan)
 |pan (op:ZaK)
 |bad (s:ByteArray)
def pvOf{α:Type} : {x:Tout α}->{e:Option (Tout α)}->e=some x->V | .ret _ _,_,_=>.one .junk | .pan op,_,_=>.one (.ifa 111 21 (fun i=>(ZaK.c op).getD i .junk)) | .bad s,_,_=>.one (.ifc 9 (.lit (.string s)))
def oc{α:Type}(v:α->V):Tout α->Outc | .ret x g=>.ret [(100000,.box (Zan.c g))] (v x) | .pan op=>.pan (.one (.ifa 111 21 (fun i=>(ZaK.c op).getD i .junk))) | .bad s=>.pan (.one (.ifc 9 (.lit (.string s))))
theorem Zrn : ZrU Tryz.prog 112 "Drop" 461 := fun x w => by kernel_rfl
theorem ZeM : ZrU Tryz.prog 112 "Free" 462 := fun x w => by kernel_rfl
theorem Zsc : ZCt Tryz.prog 112 "Free" := fun x w => by kernel_rfl
theorem ZhV : ZrU Tryz.prog 112 "Load" 463 := fun x w => by kernel_rfl
theorem ZpT : ZCt Tryz.prog 112 "Load" := fun x w => by kernel_rfl
theorem ZhU : ZrU Tryz.prog 112 "Lock" 464 := fun x w => by kernel_rfl
theorem Zrm : ZrU Tryz.prog 112 "Pass" 465 := fun x w => by kernel_rfl
theorem ZpV : ZrU Tryz.prog 112 "Share" 466 := fun x w => by kernel_rfl
theorem Zgx : ZrU Tryz.prog 112 "Store" 467 := fun x w => by kernel_rfl
theorem Zku : ZCt Tryz.prog 112 "Store" := fun x w => by kernel_rfl
theorem ZxV : ZrU Tryz.prog 112 "Swap" 468 := fun x w => by kernel_rfl
def tab:Tab:=[ (1,⟨.func,1,8,some (.nilFunc)⟩),(3,⟨.int .i64,1,8,some (.int .i64 (0))⟩),(4,⟨.bool,1,1,some (.bool false)⟩),(5,⟨.int .u8,1,1,some (.int .u8 (0))⟩),(9,⟨.str,1,16,some (.string ⟨#[]⟩)⟩),(20,⟨.iface,1,16,some (.nilIface)⟩),(22,⟨.int .u64,1,8,some (.int .u64 (0))⟩),(23,⟨.struct [(0,3),(1,3),(2,3),(3,3)],4,32,some (.agg #[.int .i64 (0),.int .i64 (0),.int .i64 (0),.int .i64 (0)])⟩),(24,⟨.struct [(0,3),(1,3),(2,3),(3,3)],4,32,some (.agg #[.int .i64 (0),.int .i64 (0),.int .i64 (0),.int .i64 (0)])⟩),(25,⟨.struct [(0,3),(1,3),(2,3),(3,3),(4,3),(5,22),(6,24),(10,3),(11,3),(12,3),(13,3),(14,3),(15,3)],16,128,some (.agg #[.int .i64 (0),.int .i64 (0),.int .i64 (0),.int .i64 (0),.int .i64 (0),.int .u64 (0),.int .i64 (0),.int .i64 (0),.int .i64 (0),.int .i64 (0),.int .i64 (0),.int .i64 (0),.int .i64 (0),.int .i64 (0),.int .i64 (0),.int .i64 (0)])⟩),(26,⟨.struct [(0,3),(1,3),(2,3),(3,3),(4,3),(5,22),(6,24),(10,3),(11,3),(12,3),(13,3),(14,3),(15,3)],16,128,some (.agg #[.int .i64 (0),.int .i64 (0),.int .i64 (0),.int .i64 (0),.int .i64 (0),.int .u64 (0),.int .i64 (0),.int .i64 (0),.int .i64 (0),.int .i64 (0),.int .i64 (0),.int .i64 (0),.int .i64 (0),.int .i64 (0),.int .i64 (0),.int .i64 (0)])⟩),(27,⟨.struct [(0,4),(1,22),(2,22)],3,24,some (.agg #[.bool false,.int .u64 (0),.int .u64 (0)])⟩),(28,⟨.struct [(0,4),(1,22),(2,22)],3,24,some (.agg #[.bool false,.int .u64 (0),.int .u64 (0)])⟩),(29,⟨.struct [(0,28),(3,3)],4,32,some (.agg #[.bool false,.int .u64 (0),.int .u64 (0),.int .i64 (0)])⟩),(30,⟨.struct [(0,28),(3,3)],4,32,some (.agg #[.bool false,.int .u64 (0),.int .u64 (0),.int .i64 (0)])⟩),(31,⟨.struct [(0,28),(3,3)],4,32,some (.agg #[.bool false,.int .u64 (0),.int .u64 (0),.int .i64 (0)])⟩),(32,⟨.struct [(0,28),(3,3)],4,32,some (.agg #[.bool false,.int .u64 (0),.int .u64 (0),.int .i64 (0)])⟩),(33,⟨.struct [(0,3),(1,30),(5,32),(9,3),(10,3),(11,4)],12,96,some (.agg #[.int .i64 (0),.bool false,.int .u64 (0),.int .u64 (0),.int .i64 (0),.bool false,.int .u64 (0),.int .u64 (0),.int .i64 (0),.int .i64 (0),.int .i64 (0),.bool false])⟩),(34,⟨.struct [(0,3),(1,30),(5,32),(9,3),(10,3),(11,4)],12,96,some (.agg #[.int .i64 (0),.bool false,.int .u64 (0),.int .u64 (0),.int .i64 (0),.bool false,.int .u64 (0),.int .u64 (0),.int .i64 (0),.int .i64 (0),.int .i64 (0),.bool false])⟩),(35,⟨.slice 48,1,24,some (.slice none 0 0)⟩),(39,⟨.struct [(0,3),(1,3),(2,3)],3,24,some (.agg #[.int .i64 (0),.int .i64 (0),.int .i64 (0)])⟩),(40,⟨.struct [(0,3),(1,3),(2,3)],3,24,some (.agg #[.int .i64 (0),.int .i64 (0),.int .i64 (0)])⟩),(41,⟨.struct [(0,3),(1,3)],2,16,some (.agg #[.int .i64 (0),.int .i64 (0)])⟩),(42,⟨.struct [(0,3),(1,3)],2,16,some (.agg #[.int .i64 (0),.int .i64 (0)])⟩),(43,⟨.struct [(0,30),(4,4),(5,3),(6,42),(8,3),(9,3)],10,80,some (.agg #[.bool false,.int .u64 (0),.int .u64 (0),.int .i64 (0),.bool false,.int .i64 (0),.int .i64 (0),.int .i64 (0),.int .i64 (0),.int .i64 (0)])⟩),(44,⟨.struct [(0,30),(4,4),(5,3),(6,42),(8,3),(9,3)],10,80,some (.agg #[.bool false,.int .u64 (0),.int .u64 (0),.int .i64 (0),.bool false,.int .i64 (0),.int .i64 (0),.int .i64 (0),.int .i64 (0),.int .i64 (0)])⟩),(45,⟨.slice 146,1,24,some (.slice none 0 0)⟩),(46,⟨.slice 106,1,24,some (.slice none 0 0)⟩),(47,⟨.struct [(0,3),(1,44),(11,45),(12,46)],13,136,some (.agg #[.int .i64 (0),.bool false,.int .u64 (0),.int .u64 (0),.int .i64 (0),.bool false,.int .i64 (0),.int .i64 (0),.int .i64 (0),.int .i64 (0),.int .i64 (0),.slice none 0 0,.slice none 0 0])⟩),(48,⟨.struct [(0,3),(1,44),(11,45),(12,46)],13,136,some (.agg #[.int .i64 (0),.bool false,.int .u64 (0),.int .u64 (0),.int .i64 (0),.bool false,.int .i64 (0),.int .i64 (0),.int .i64 (0),.int .i64 (0),.int .i64 (0),.slice none 0 0,.slice none 0 0])⟩),(49,⟨.struct [(0,3),(1,3),(2,40),(5,3),(6,3),(7,48),(20,4)],21,200,some (.agg #[.int .i64 (0),.int .i64 (0),.int .i64 (0),.int .i64 (0),.int .i64 (0),.int .i64 (0),.int .i64 (0),.int .i64 (0),.bool false,.int .u64 (0),.int .u64 (0),.int .i64 (0),.bool false,.int .i64 (0),.int .i64 (0),.int .i64 (0),.int .i64 (0),.int .i64 (0),.slice none 0 0,.slice none 0 0,.bool false])⟩),(50,⟨.struct [(0,3),(1,3),(2,40),(5,3),(6,3),(7,48),(20,4)],21,200,some (.agg #[.int .i64 (0),.int .i64 (0),.int .i64 (0),.int .i64 (0),.int .i64 (0),.int .i64 (0),.int .i64 (0),.int .i64 (0),.bool false,.int .u64 (0),.int .u64 (0),.int .i64 (0),.bool false,.int .i64 (0),.int .i64 (0),.int .i64 (0),.int .i64 (0),.int .i64 (0),.slice none 0 0,.slice none 0 0,.bool false])⟩),(53,⟨.int .i64,1,8,some (.int .i64 (0))⟩),(54,⟨.slice 44,1,24,some (.slice none 0 0)⟩),(55,⟨.struct [(0,53),(1,30),(5,3),(6,3),(7,54)],8,80,some (.agg #[.int .i64 (0),.bool false,.int .u64 (0),.int .u64 (0),.int .i64 (0),.int .i64 (0),.int .i64 (0),.slice none 0 0])⟩),(56,⟨.struct [(0,53),(1,30),(5,3),(6,3),(7,54)],8,80,some (.agg #[.int .i64 (0),.bool false,.int .u64 (0),.int .u64 (0),.int .i64 (0),.int .i64 (0),.int .i64 (0),.slice none 0 0])⟩),(60,⟨.struct [(0,50),(21,56),(29,4),(30,4)],31,288,some (.agg #[.int .i64 (0),.int .i64 (0),.int .i64 (0),.int .i64 (0),.int .i64 (0),.int .i64 (0),.int .i64 (0),.int .i64 (0),.bool false,.int .u64 (0),.int .u64 (0),.int .i64 (0),.bool false,.int .i64 (0),.int .i64 (0),.int .i64 (0),.int .i64 (0),.int .i64 (0),.slice none 0 0,.slice none 0 0,.bool false,.int .i64 (0),.bool false,.int .u64 (0),.int .u64 (0),.int .i64 (0),.int .i64 (0),.int .i64 (0),.slice none 0 0,.bool false,.bool false])⟩),(61,⟨.struct [(0,50),(21,56),(29,4),(30,4)],31,288,some (.agg #[.int .i64 (0),.int .i64 (0),.int .i64 (0),.int .i64 (0),.int .i64 (0),.int .i64 (0),.int .i64 (0),.int .i64 (0),.bool false,.int .u64 (0),.int .u64 (0),.int .i64 (0),.bool false,.int .i64 (0),.int .i64 (0),.int .i64 (0),.int .i64 (0),.int .i64 (0),.slice none 0 0,.slice none 0 0,.bool false,.int .i64 (0),.bool false,.int .u64 (0),.int .u64 (0),.int .i64 (0),.int .i64 (0),.int .i64 (0),.slice none 0 0,.bool false,.bool false])⟩),(64,⟨.struct [(0,45),(1,46),(2,54)],3,72,some (.agg #[.slice none 0 0,.slice none 0 0,.slice none 0 0])⟩),(65,⟨.struct [(0,45),(1,46),(2,54)],3,72,some (.agg #[.slice none 0 0,.slice none 0 0,.slice none 0 0])⟩),(69,⟨.slice 178,1,24,some (.slice none 0 0)⟩),(70,⟨.slice 127,1,24,some (.slice none 0 0)⟩),(71,⟨.struct [(0,3),(1,3),(2,45),(3,46),(4,69),(5,70)],6,112,some (.agg #[.int .i64 (0),.int .i64 (0),.slice none 0 0,.slice none 0 0,.slice none 0 0,.slice none 0 0])⟩),(72,⟨.struct [(0,3),(1,3),(2,45),(3,46),(4,69),(5,70)],6,112,some (.agg #[.int .i64 (0),.int .i64 (0),.slice none 0 0,.slice none 0 0,.slice none 0 0,.slice none 0 0])⟩),(75,⟨.func,1,8,some (.nilFunc)⟩),(76,⟨.func,1,8,some (.nilFunc)⟩),(105,⟨.struct [(0,30),(4,3),(5,3),(6,3)],7,56,some (.agg #[.bool false,.int .u64 (0),.int .u64 (0),.int .i64 (0),.int .i64 (0),.int .i64 (0),.int .i64 (0)])⟩),(106,⟨.struct [(0,30),(4,3),(5,3),(6,3)],7,56,some (.agg #[.bool false,.int .u64 (0),.int .u64 (0),.int .i64 (0),.int .i64 (0),.int .i64 (0),.int .i64 (0)])⟩),(110,⟨.struct [(0,50)],21,200,some (.agg #[.int .i64 (0),.int .i64 (0),.int .i64 (0),.int .i64 (0),.int .i64 (0),.int .i64 (0),.int .i64 (0),.int .i64 (0),.bool false,.int .u64 (0),.int .u64 (0),.int .i64 (0),.bool false,.int .i64 (0),.int .i64 (0),.int .i64 (0),.int .i64 (0),.int .i64 (0),.slice none 0 0,.slice none 0 0,.bool false])⟩),(111,⟨.struct [(0,50)],21,200,some (.agg #[.int .i64 (0),.int .i64 (0),.int .i64 (0),.int .i64 (0),.int .i64 (0),.int .i64 (0),.int .i64 (0),.int .i64 (0),.bool false,.int .u64 (0),.int .u64 (0),.int .i64 (0),.bool false,.int .i64 (0),.int .i64 (0),.int .i64 (0),.int .i64 (0),.int .i64 (0),.slice none 0 0,.slice none 0 0,.bool false])⟩),(112,⟨.ptr 114,1,8,some (.pointer none)⟩),(113,⟨.struct [(0,35)],1,24,some (.agg #[.slice none 0 0])⟩),(114,⟨.struct [(0,35)],1,24,some (.agg #[.slice none 0 0])⟩),(125,⟨.slice 3,1,24,some (.slice none 0 0)⟩),(126,⟨.struct [(0,3),(1,125)],2,32,some (.agg #[.int .i64 (0),.slice none 0 0])⟩),(127,⟨.struct [(0,3),(1,125)],2,32,some (.agg #[.int .i64 (0),.slice none 0 0])⟩),(145,⟨.struct [(0,32),(4,3)],5,40,some (.agg #[.bool false,.int .u64 (0),.int .u64 (0),.int .i64 (0),.int .i64 (0)])⟩),(146,⟨.struct [(0,32),(4,3)],5,40,some (.agg #[.bool false,.int .u64 (0),.int .u64 (0),.int .i64 (0),.int .i64 (0)])⟩),(149,⟨.func,1,8,some (.nilFunc)⟩),(150,⟨.func,1,8,some (.nilFunc)⟩),(152,⟨.iface,1,16,some (.nilIface)⟩),(153,⟨.iface,1,16,some (.nilIface)⟩),(154,⟨.struct [(0,26),(16,34)],28,224,some (.agg #[.int .i64 (0),.int .i64 (0),.int .i64 (0),.int .i64 (0),.int .i64 (0),.int .u64 (0),.int .i64 (0),.int .i64 (0),.int .i64 (0),.int .i64 (0),.int .i64 (0),.int .i64 (0),.int .i64 (0),.int .i64 (0),.int .i64 (0),.int .i64 (0),.int .i64 (0),.bool false,.int .u64 (0),.int .u64 (0),.int .i64 (0),.bool false,.int .u64 (0),.int .u64 (0),.int .i64 (0),.int .i64 (0),.int .i64 (0),.bool false])⟩),(155,⟨.struct [(0,26),(16,34)],28,224,some (.agg #[.int .i64 (0),.int .i64 (0),.int .i64 (0),.int .i64 (0),.int .i64 (0),.int .u64 (0),.int .i64 (0),.int .i64 (0),.int .i64 (0),.int .i64 (0),.int .i64 (0),.int .i64 (0),.int .i64 (0),.int .i64 (0),.int .i64 (0),.int .i64 (0),.int .i64 (0),.bool false,.int .u64 (0),.int .u64 (0),.int .i64 (0),.bool false,.int .u64 (0),.int .u64 (0),.int .i64 (0),.int .i64 (0),.int .i64 (0),.bool false])⟩),(163,⟨.slice 30,1,24,some (.slice none 0 0)⟩),(172,⟨.func,1,8,some (.nilFunc)⟩),(177,⟨.struct [(0,3),(1,54)],2,32,some (.agg #[.int .i64 (0),.slice none 0 0])⟩),(178,⟨.struct [(0,3),(1,54)],2,32,some (.agg #[.int .i64 (0),.slice none 0 0])⟩),(179,⟨.slice 181,1,24,some (.slice none 0 0)⟩),(181,⟨.int .i64,1,8,some (.int .i64 (0))⟩),(187,⟨.func,1,8,some (.nilFunc)⟩),(225,⟨.slice 54,1,24,some (.slice none 0 0)⟩),(230,⟨.func,1,8,some (.nilFunc)⟩),(244,⟨.func,1,8,some (.nilFunc)⟩),(245,⟨.slice 9,1,24,some (.slice none 0 0)⟩),(252,⟨.array 14 9,14,224,some (.agg #[.string ⟨#[]⟩,.string ⟨#[]⟩,.string ⟨#[]⟩,.string ⟨#[]⟩,.string ⟨#[]⟩,.string ⟨#[]⟩,.string ⟨#[]⟩,.string ⟨#[]⟩,.string ⟨#[]⟩,.string ⟨#[]⟩,.string ⟨#[]⟩,.string ⟨#[]⟩,.string ⟨#[]⟩,.string ⟨#[]⟩])⟩),(275,⟨.slice 22,1,24,some (.slice none 0 0)⟩),(276,⟨.slice 281,1,24,some (.slice none 0 0)⟩),(277,⟨.ptr 328,1,8,some (.pointer none)⟩),(280,⟨.struct [(0,32),(4,3)],5,40,some (.agg #[.bool false,.int .u64 (0),.int .u64 (0),.int .i64 (0),.int .i64 (0)])⟩),(281,⟨.struct [(0,32),(4,3)],5,40,some (.agg #[.bool false,.int .u64 (0),.int .u64 (0),.int .i64 (0),.int .i64 (0)])⟩),(298,⟨.int .u64,1,8,some (.int .u64 (0))⟩),(303,⟨.int .u32,1,4,some (.int .u32 (0))⟩),(325,⟨.ptr 330,1,8,some (.pointer none)⟩),(326,⟨.array 2 325,2,16,some (.agg #[.pointer none,.pointer none])⟩),(327,⟨.struct [(0,326),(2,3)],3,24,some (.agg #[.pointer none,.pointer none,.int .i64 (0)])⟩),(328,⟨.struct [(0,326),(2,3)],3,24,some (.agg #[.pointer none,.pointer none,.int .i64 (0)])⟩),(329,⟨.struct [(0,281),(5,4),(6,326)],8,64,some (.agg #[.bool false,.int .u64 (0),.int .u64 (0),.int .i64 (0),.int .i64 (0),.bool false,.pointer none,.pointer none])⟩),(330,⟨.struct [(0,281),(5,4),(6,326)],8,64,some (.agg #[.bool false,.int .u64 (0),.int .u64 (0),.int .i64 (0),.int .i64 (0),.bool false,.pointer none,.pointer none])⟩),(337,⟨.func,1,8,some (.nilFunc)⟩)]
theorem ZGY:Zef Tryz.prog tab:=
 .cons ⟨by kernel_rfl,by kernel_rfl,_,Tryz.underlying1,trivial⟩ <|
 .cons ⟨by kernel_rfl,by kernel_rfl,_,Tryz.underlying3,rfl⟩ <|
 .cons ⟨by kernel_rfl,by kernel_rfl,_,Tryz.underlying4,trivial⟩ <|
 .cons ⟨by kernel_rfl,by kernel_rfl,_,Tryz.underlying5,rfl⟩ <|
 .cons ⟨by kernel_rfl,by kernel_rfl,_,Tryz.underlying9,trivial⟩ <|
 .cons ⟨by kernel_rfl,by kernel_rfl,_,Tryz.underlying20,trivial⟩ <|
 .cons ⟨by kernel_rfl,by kernel_rfl,_,Tryz.underlying22,rfl⟩ <|
 .cons ⟨by kernel_rfl,by kernel_rfl,_,Tryz.underlying23,rfl⟩ <|
 .cons ⟨by kernel_rfl,by kernel_rfl,_,Tryz.underlying24,rfl⟩ <|
 .cons ⟨by kernel_rfl,by kernel_rfl,_,Tryz.underlying25,rfl⟩ <|
 .cons ⟨by kernel_rfl,by kernel_rfl,_,Tryz.underlying26,rfl⟩ <|
 .cons ⟨by kernel_rfl,by kernel_rfl,_,Tryz.underlying27,rfl⟩ <|
 .cons ⟨by kernel_rfl,by kernel_rfl,_,Tryz.underlying28,rfl⟩ <|
 .cons ⟨by kernel_rfl,by kernel_rfl,_,Tryz.underlying29,rfl⟩ <|
 .cons ⟨by kernel_rfl,by kernel_rfl,_,Tryz.underlying30,rfl⟩ <|
 .cons ⟨by kernel_rfl,by kernel_rfl,_,Tryz.underlying31,rfl⟩ <|
 .cons ⟨by kernel_rfl,by kernel_rfl,_,Tryz.underlying32,rfl⟩ <|
 .cons ⟨by kernel_rfl,by kernel_rfl,_,Tryz.underlying33,rfl⟩ <|
 .cons ⟨by kernel_rfl,by kernel_rfl,_,Tryz.underlying34,rfl⟩ <|
 .cons ⟨by kernel_rfl,by kernel_rfl,_,Tryz.underlying35,rfl⟩ <|
 .cons ⟨by kernel_rfl,by kernel_rfl,_,Tryz.underlying39,rfl⟩ <|
 .cons ⟨by kernel_rfl,by kernel_rfl,_,Tryz.underlying40,rfl⟩ <|
 .cons ⟨by kernel_rfl,by kernel_rfl,_,Tryz.underlying41,rfl⟩ <|
 .cons ⟨by kernel_rfl,by kernel_rfl,_,Tryz.underlying42,rfl⟩ <|
 .cons ⟨by kernel_rfl,by kernel_rfl,_,Tryz.underlying43,rfl⟩ <|
 .cons ⟨by kernel_rfl,by kernel_rfl,_,Tryz.underlying44,rfl⟩ <|
 .cons ⟨by kernel_rfl,by kernel_rfl,_,Tryz.underlying45,rfl⟩ <|
 .cons ⟨by kernel_rfl,by kernel_rfl,_,Tryz.underlying46,rfl⟩ <|
 .cons ⟨by kernel_rfl,by kernel_rfl,_,Tryz.underlying47,rfl⟩ <|
 .cons ⟨by kernel_rfl,by kernel_rfl,_,Tryz.underlying48,rfl⟩ <|
 .cons ⟨by kernel_rfl,by kernel_rfl,_,Tryz.underlying49,rfl⟩ <|
 .cons ⟨by kernel_rfl,by kernel_rfl,_,Tryz.underlying50,rfl⟩ <|
 .cons ⟨by kernel_rfl,by kernel_rfl,_,Tryz.underlying53,rfl⟩ <|
 .cons ⟨by kernel_rfl,by kernel_rfl,_,Tryz.underlying54,rfl⟩ <|
 .cons ⟨by kernel_rfl,by kernel_rfl,_,Tryz.underlying55,rfl⟩ <|
 .cons ⟨by kernel_rfl,by kernel_rfl,_,Tryz.underlying56,rfl⟩ <|
 .cons ⟨by kernel_rfl,by kernel_rfl,_,Tryz.underlying60,rfl⟩ <|
 .cons ⟨by kernel_rfl,by kernel_rfl,_,Tryz.underlying61,rfl⟩ <|
 .cons ⟨by kernel_rfl,by kernel_rfl,_,Tryz.underlying64,rfl⟩ <|
 .cons ⟨by kernel_rfl,by kernel_rfl,_,Tryz.underlying65,rfl⟩ <|
 .cons ⟨by kernel_rfl,by kernel_rfl,_,Tryz.underlying69,rfl⟩ <|
 .cons ⟨by kernel_rfl,by kernel_rfl,_,Tryz.underlying70,rfl⟩ <|
 .cons ⟨by kernel_rfl,by kernel_rfl,_,Tryz.underlying71,rfl⟩ <|
 .cons ⟨by kernel_rfl,by kernel_rfl,_,Tryz.underlying72,rfl⟩ <|
 .cons ⟨by kernel_rfl,by kernel_rfl,_,Tryz.underlying75,trivial⟩ <|
 .cons ⟨by kernel_rfl,by kernel_rfl,_,Tryz.underlying76,trivial⟩ <|
 .cons ⟨by kernel_rfl,by kernel_rfl,_,Tryz.underlying105,rfl⟩ <|
 .cons ⟨by kernel_rfl,by kernel_rfl,_,Tryz.underlying106,rfl⟩ <|
 .cons ⟨by kernel_rfl,by kernel_rfl,_,Tryz.underlying110,rfl⟩ <|
 .cons ⟨by kernel_rfl,by kernel_rfl,_,Tryz.underlying111,rfl⟩ <|
 .cons ⟨by kernel_rfl,by kernel_rfl,_,Tryz.underlying112,rfl⟩ <|
 .cons ⟨by kernel_rfl,by kernel_rfl,_,Tryz.underlying113,rfl⟩ <|
 .cons ⟨by kernel_rfl,by kernel_rfl,_,Tryz.underlying114,rfl⟩ <|
 .cons ⟨by kernel_rfl,by kernel_rfl,_,Tryz.underlying125,rfl⟩ <|
 .cons ⟨by kernel_rfl,by kernel_rfl,_,Tryz.underlying126,rfl⟩ <|
 .cons ⟨by kernel_rfl,by kernel_rfl,_,Tryz.underlying127,rfl⟩ <|
 .cons ⟨by kernel_rfl,by kernel_rfl,_,Tryz.underlying145,rfl⟩ <|
 .cons ⟨by kernel_rfl,by kernel_rfl,_,Tryz.underlying146,rfl⟩ <|
 .cons ⟨by kernel_rfl,by kernel_rfl,_,Tryz.underlying149,trivial⟩ <|
 .cons ⟨by kernel_rfl,by kernel_rfl,_,Tryz.underlying150,trivial⟩ <|
 .cons ⟨by kernel_rfl,by kernel_rfl,_,Tryz.underlying152,trivial⟩ <|
 .cons ⟨by kernel_rfl,by kernel_rfl,_,Tryz.underlying153,trivial⟩ <|
 .cons ⟨by kernel_rfl,by kernel_rfl,_,Tryz.underlying154,rfl⟩ <|
 .cons ⟨by kernel_rfl,by kernel_rfl,_,Tryz.underlying155,rfl⟩ <|
 .cons ⟨by kernel_rfl,by kernel_rfl,_,Tryz.underlying163,rfl⟩ <|
 .cons ⟨by kernel_rfl,by kernel_rfl,_,Tryz.underlying172,trivial⟩ <|
 .cons ⟨by kernel_rfl,by kernel_rfl,_,Tryz.underlying177,rfl⟩ <|
 .cons ⟨by kernel_rfl,by kernel_rfl,_,Tryz.underlying178,rfl⟩ <|
 .cons ⟨by kernel_rfl,by kernel_rfl,_,Tryz.underlying179,rfl⟩ <|
 .cons ⟨by kernel_rfl,by kernel_rfl,_,Tryz.underlying181,rfl⟩ <|
 .cons ⟨by kernel_rfl,by kernel_rfl,_,Tryz.underlying187,trivial⟩ <|
 .cons ⟨by kernel_rfl,by kernel_rfl,_,Tryz.underlying225,rfl⟩ <|
 .cons ⟨by kernel_rfl,by kernel_rfl,_,Tryz.underlying230,trivial⟩ <|
 .cons ⟨by kernel_rfl,by kernel_rfl,_,Tryz.underlying244,trivial⟩ <|
 .cons ⟨by kernel_rfl,by kernel_rfl,_,Tryz.underlying245,rfl⟩ <|
 .cons ⟨by kernel_rfl,by kernel_rfl,_,Tryz.underlying252,⟨rfl,rfl⟩⟩ <|
 .cons ⟨by kernel_rfl,by kernel_rfl,_,Tryz.underlying275,rfl⟩ <|
 .cons ⟨by kernel_rfl,by kernel_rfl,_,Tryz.underlying276,rfl⟩ <|
 .cons ⟨by kernel_rfl,by kernel_rfl,_,Tryz.underlying277,rfl⟩ <|
 .cons ⟨by kernel_rfl,by kernel_rfl,_,Tryz.underlying280,rfl⟩ <|
 .cons ⟨by kernel_rfl,by kernel_rfl,_,Tryz.underlying281,rfl⟩ <|
 .cons ⟨by kernel_rfl,by kernel_rfl,_,Tryz.underlying298,rfl⟩ <|
 .cons ⟨by kernel_rfl,by kernel_rfl,_,Tryz.underlying303,rfl⟩ <|
 .cons ⟨by kernel_rfl,by kernel_rfl,_,Tryz.underlying325,rfl⟩ <|
 .cons ⟨by kernel_rfl,by kernel_rfl,_,Tryz.underlying326,⟨rfl,rfl⟩⟩ <|
 .cons ⟨by kernel_rfl,by kernel_rfl,_,Tryz.underlying327,rfl⟩ <|
 .cons ⟨by kernel_rfl,by kernel_rfl,_,Tryz.underlying328,rfl⟩ <|
 .cons ⟨by kernel_rfl,by kernel_rfl,_,Tryz.underlying329,rfl⟩ <|
 .cons ⟨by kernel_rfl,by kernel_rfl,_,Tryz.underlying330,rfl⟩ <|
 .cons ⟨by kernel_rfl,by kernel_rfl,_,Tryz.underlying337,trivial⟩ <|
 .nil _
theorem Zak:Zqq Tryz.prog tab:=⟨ZGY,by kernel_rfl⟩
theorem Ya{N:Nat}{S0:Nat->Prop}{w0:Zba}{fn:Func}{α:Type}{v r:α}(hf:some v=some r){F:α->V}(n:Nat){is:List It}{st:St}(ras:List RA)(bs:List Bool){obl:List Prop}(ho:Obl obl)(h:ZGX Tryz.prog N tab n is st ras bs [] [] [] fn.results.toList=some (F v,obl):=by kernel_rfl)(hp:(F v).pure=true:=by rfl):Good Tryz.prog N S0 w0 (bodyPost Tryz.prog fn (Post S0 w0 (F r))) is st:=by
 obtain rfl:=Option.some.inj hf;exact Zaj Zak n ras bs [] [] [] ho h hp
theorem Yb{N:Nat}{S0:Nat->Prop}{w0:Zba}{fn:Func}{α:Type}{v r:α}(hf:some v=some r){F:α->V}(n:Nat){is:List It}{st:St}(ras:List RA)(bs:List Bool)(fz:List Nat)(dh dn:List (Nat×List (Nat×C))){obl:List Prop}(ho:Obl obl)(h:ZGX Tryz.prog N tab n is st ras bs fz dh dn fn.results.toList=some (F v,obl):=by kernel_rfl)(hp:(F v).pure=true:=by rfl):Good Tryz.prog N S0 w0 (bodyPost Tryz.prog fn (Post S0 w0 (F r))) is st:=by
 obtain rfl:=Option.some.inj hf;exact Zaj Zak n ras bs fz dh dn ho h hp
theorem Yc{N:Nat}{S0:Nat->Prop}{w0:Zba}{fn:Func}{α:Type}{v r:α}(hf:some v=some r){F:α->V}{H:α->List (Nat×B)}(n:Nat){is:List It}{st:St}(ras:List RA)(bs:List Bool)(na:NA){obl:List Prop}(ho:Obl obl)(h:ZCG Tryz.prog N tab n is st ras bs na fn.results.toList=some (F v,H v,obl):=by kernel_rfl):Good Tryz.prog N S0 w0 (bodyPost Tryz.prog fn (Zbk S0 w0 (H r) (F r))) is st:=by
 obtain rfl:=Option.some.inj hf;exact Zbs Zak n ras bs na ho h
theorem Yd{N:Nat}{S0:Nat->Prop}{w0:Zba}{fn:Func}{res:V}{h1:List (Nat×B)}(n:Nat){is:List It}{st:St}(ras:List RA)(bs:List Bool)(na:NA){obl:List Prop}(ho:Obl obl)(h:ZGt Tryz.prog N tab n is st ras bs na [100000] fn.results.toList=some (res,h1,obl):=by kernel_rfl):Good Tryz.prog N S0 w0 (bodyPost Tryz.prog fn (Zbk S0 w0 h1 res)) is st:=Zcw Zak n ras bs na [100000] ho h
theorem Yh{N:Nat}{S0:Nat->Prop}{w0:Zba}{fn:Func}{pv:V}(n:Nat){is:List It}{st:St}(ras:List RA)(bs:List Bool)(ra:RA)(i:Nat)(pa:PA){obl:List Prop}(ho:Obl obl)(h:ZHZ Tryz.prog N tab n is st ras bs ra i pa=some (pv,obl):=by kernel_rfl):Good Tryz.prog N S0 w0 (bodyPost Tryz.prog fn (Zvd S0 w0 pv)) is st:=ZaL Zak n is st ras bs ra i pa ho h
theorem Ye{N:Nat}{S0:Nat->Prop}{w0:Zba}{Q:Exit->Act->World->Prop}(n:Nat){is:List It}{st:St}(ras:List RA)(bs:List Bool){it:List It}{s1:St}(na:NA){obl:List Prop}(ho:Obl obl)(hk:Good Tryz.prog N S0 w0 Q it s1)(h:toK Tryz.prog N tab n is st ras bs na=some (it,s1,obl):=by kernel_rfl)(hE:Ends Q:=by first|exact Post.ends|exact Zbk.ends|exact Zjn.ends):Good Tryz.prog N S0 w0 Q is st:=ZaE Zak hE n ras bs na ho h hk
def Yi(l:List Nat):NA:=⟨[],[],[],[],[],l,[],[]⟩
abbrev Yj(x:Int):V:=.one (.lit (.int .i64 x))
abbrev Yk(x:Bool):V:=.one (.lit (.bool x))
abbrev Yl(l:List Zab):V:=.one (cL 5 Zab.c Zab.d l)
abbrev Ym(l:List Zac):V:=.one (cL 7 Zac.c Zac.d l)
abbrev Yn(l:List Zaa):V:=.one (cL 10 Zaa.c Zaa.d l)
abbrev Yo(l:List Zah):V:=.one (cL 4 Zah.c Zah.d l)
end Go.Proofs.YtdjfoojllbfcgaaGreat
