import Derived.Test.YtdjfoojllbfcgaaGreatProg
import Derived.Shelf.Spec.SlicesInsertGrow
import Derived.Lib.Hide
import Derived.Test.YtdjfoojllbfcgaaGreatJPlA
import Derived.Test.YtdjfoojllbfcgaaGreatJAmZ
import Derived.Test.YtdjfoojllbfcgaaGreatJSort411
import Derived.Test.YtdjfoojllbfcgaaGreatJAmPy
namespace Go.Proofs.YtdjfoojllbfcgaaGreat
open Go.RowKit Go.Lib Go.Shelf
set_option linter.unusedVariables false
set_option maxRecDepth 100000
structure ZdS where
 fGroup:Int
 fPing:Int
 fWork:Int
 fTime:Int
 deriving DecidableEq
def ZdS.d:ZdS:=⟨(0:Int),(0:Int),(0:Int),(0:Int)⟩
def ZdS.c(a:ZdS):List C:=[.lit (.int .i64 a.fGroup),.lit (.int .i64 a.fPing),.lit (.int .i64 a.fWork),.lit (.int .i64 a.fTime)]
def ZdS.ok(a:ZdS):Prop:=(okI .i64) a.fGroup/\(okI .i64) a.fPing/\(okI .i64) a.fWork/\(okI .i64) a.fTime/\True
theorem Zvc:Opn Tryz.prog 24 ZdS.c ZdS.ok:=Zhs (ea:=(cP (cI .i64) (cP (cI .i64) (cP (cI .i64) (cP (cI .i64) cU))))) (oa:=(okP (okI .i64) (okP (okI .i64) (okP (okI .i64) (okP (okI .i64) okU))))) (N:=4) Tryz.underlying24 (by kernel_rfl) (Zbg (sz:=1) rfl rfl (by kernel_rfl) (Zea Tryz.underlying3) (Zbg (sz:=1) rfl rfl (by kernel_rfl) (Zea Tryz.underlying3) (Zbg (sz:=1) rfl rfl (by kernel_rfl) (Zea Tryz.underlying3) (Zbg (sz:=1) rfl rfl (by kernel_rfl) (Zea Tryz.underlying3) ZjX)))) (fun(a:Int×Int×Int×Int×Unit)=>(⟨a.1,a.2.1,a.2.2.1,a.2.2.2.1⟩ : ZdS)) (fun _=>rfl) (fun _ h=>h)
structure Zau where
 fMaxIn:Int
 fMaxOut:Int
 fShards:Int
 fMaxBans:Int
 fMaxBook:Int
 fSecret:Int
 fQuota:ZdS
 fHalf:Int
 fLimit:Int
 fBanFor:Int
 fBase:Int
 fCap:Int
 fJitter:Int
 deriving DecidableEq
def Zau.d:Zau:=⟨(0:Int),(0:Int),(0:Int),(0:Int),(0:Int),(0:Int),ZdS.d,(0:Int),(0:Int),(0:Int),(0:Int),(0:Int),(0:Int)⟩
def Zau.c(a:Zau):List C:=[.lit (.int .i64 a.fMaxIn),.lit (.int .i64 a.fMaxOut),.lit (.int .i64 a.fShards),.lit (.int .i64 a.fMaxBans),.lit (.int .i64 a.fMaxBook),.lit (.int .u64 a.fSecret),.lit (.int .i64 a.fQuota.fGroup),.lit (.int .i64 a.fQuota.fPing),.lit (.int .i64 a.fQuota.fWork),.lit (.int .i64 a.fQuota.fTime),.lit (.int .i64 a.fHalf),.lit (.int .i64 a.fLimit),.lit (.int .i64 a.fBanFor),.lit (.int .i64 a.fBase),.lit (.int .i64 a.fCap),.lit (.int .i64 a.fJitter)]
def Zau.ok(a:Zau):Prop:=(okI .i64) a.fMaxIn/\(okI .i64) a.fMaxOut/\(okI .i64) a.fShards/\(okI .i64) a.fMaxBans/\(okI .i64) a.fMaxBook/\(okI .u64) a.fSecret/\ZdS.ok a.fQuota/\(okI .i64) a.fHalf/\(okI .i64) a.fLimit/\(okI .i64) a.fBanFor/\(okI .i64) a.fBase/\(okI .i64) a.fCap/\(okI .i64) a.fJitter/\True
theorem Zwy:Opn Tryz.prog 26 Zau.c Zau.ok:=Zhs (ea:=(cP (cI .i64) (cP (cI .i64) (cP (cI .i64) (cP (cI .i64) (cP (cI .i64) (cP (cI .u64) (cP ZdS.c (cP (cI .i64) (cP (cI .i64) (cP (cI .i64) (cP (cI .i64) (cP (cI .i64) (cP (cI .i64) cU)))))))))))))) (oa:=(okP (okI .i64) (okP (okI .i64) (okP (okI .i64) (okP (okI .i64) (okP (okI .i64) (okP (okI .u64) (okP ZdS.ok (okP (okI .i64) (okP (okI .i64) (okP (okI .i64) (okP (okI .i64) (okP (okI .i64) (okP (okI .i64) okU)))))))))))))) (N:=16) Tryz.underlying26 (by kernel_rfl) (Zbg (sz:=1) rfl rfl (by kernel_rfl) (Zea Tryz.underlying3) (Zbg (sz:=1) rfl rfl (by kernel_rfl) (Zea Tryz.underlying3) (Zbg (sz:=1) rfl rfl (by kernel_rfl) (Zea Tryz.underlying3) (Zbg (sz:=1) rfl rfl (by kernel_rfl) (Zea Tryz.underlying3) (Zbg (sz:=1) rfl rfl (by kernel_rfl) (Zea Tryz.underlying3) (Zbg (sz:=1) rfl rfl (by kernel_rfl) (Zea Tryz.underlying22) (Zbg (sz:=4) rfl rfl (by kernel_rfl) Zvc (Zbg (sz:=1) rfl rfl (by kernel_rfl) (Zea Tryz.underlying3) (Zbg (sz:=1) rfl rfl (by kernel_rfl) (Zea Tryz.underlying3) (Zbg (sz:=1) rfl rfl (by kernel_rfl) (Zea Tryz.underlying3) (Zbg (sz:=1) rfl rfl (by kernel_rfl) (Zea Tryz.underlying3) (Zbg (sz:=1) rfl rfl (by kernel_rfl) (Zea Tryz.underlying3) (Zbg (sz:=1) rfl rfl (by kernel_rfl) (Zea Tryz.underlying3) ZjX))))))))))))) (fun(a:Int×Int×Int×Int×Int×Int×ZdS×Int×Int×Int×Int×Int×Int×Unit)=>(⟨a.1,a.2.1,a.2.2.1,a.2.2.2.1,a.2.2.2.2.1,a.2.2.2.2.2.1,a.2.2.2.2.2.2.1,a.2.2.2.2.2.2.2.1,a.2.2.2.2.2.2.2.2.1,a.2.2.2.2.2.2.2.2.2.1,a.2.2.2.2.2.2.2.2.2.2.1,a.2.2.2.2.2.2.2.2.2.2.2.1,a.2.2.2.2.2.2.2.2.2.2.2.2.1⟩ : Zau)) (fun _=>rfl) (fun _ h=>h)
structure Zai where
 fV6:Bool
 fHi:Int
 fLo:Int
 deriving DecidableEq
def Zai.d:Zai:=⟨false,(0:Int),(0:Int)⟩
def Zai.c(a:Zai):List C:=[.lit (.bool a.fV6),.lit (.int .u64 a.fHi),.lit (.int .u64 a.fLo)]
def Zai.ok(a:Zai):Prop:=okB a.fV6/\(okI .u64) a.fHi/\(okI .u64) a.fLo/\True
theorem Zrx:Opn Tryz.prog 28 Zai.c Zai.ok:=Zhs (ea:=(cP cB (cP (cI .u64) (cP (cI .u64) cU)))) (oa:=(okP okB (okP (okI .u64) (okP (okI .u64) okU)))) (N:=3) Tryz.underlying28 (by kernel_rfl) (Zbg (sz:=1) rfl rfl (by kernel_rfl) (Zyn Tryz.underlying4) (Zbg (sz:=1) rfl rfl (by kernel_rfl) (Zea Tryz.underlying22) (Zbg (sz:=1) rfl rfl (by kernel_rfl) (Zea Tryz.underlying22) ZjX))) (fun(a:Bool×Int×Int×Unit)=>(⟨a.1,a.2.1,a.2.2.1⟩ : Zai)) (fun _=>rfl) (fun _ h=>h)
structure Zan where
 fAddr:Zai
 fPort:Int
 deriving DecidableEq
def Zan.d:Zan:=⟨Zai.d,(0:Int)⟩
def Zan.c(a:Zan):List C:=[.lit (.bool a.fAddr.fV6),.lit (.int .u64 a.fAddr.fHi),.lit (.int .u64 a.fAddr.fLo),.lit (.int .i64 a.fPort)]
def Zan.ok(a:Zan):Prop:=Zai.ok a.fAddr/\(okI .i64) a.fPort/\True
theorem ZoM:Opn Tryz.prog 30 Zan.c Zan.ok:=Zhs (ea:=(cP Zai.c (cP (cI .i64) cU))) (oa:=(okP Zai.ok (okP (okI .i64) okU))) (N:=4) Tryz.underlying30 (by kernel_rfl) (Zbg (sz:=3) rfl rfl (by kernel_rfl) Zrx (Zbg (sz:=1) rfl rfl (by kernel_rfl) (Zea Tryz.underlying3) ZjX)) (fun(a:Zai×Int×Unit)=>(⟨a.1,a.2.1⟩ : Zan)) (fun _=>rfl) (fun _ h=>h)
structure Zag where
 fAddr:Zai
 fBits:Int
 deriving DecidableEq
def Zag.d:Zag:=⟨Zai.d,(0:Int)⟩
def Zag.c(a:Zag):List C:=[.lit (.bool a.fAddr.fV6),.lit (.int .u64 a.fAddr.fHi),.lit (.int .u64 a.fAddr.fLo),.lit (.int .i64 a.fBits)]
def Zag.ok(a:Zag):Prop:=Zai.ok a.fAddr/\(okI .i64) a.fBits/\True
theorem Zsm:Opn Tryz.prog 32 Zag.c Zag.ok:=Zhs (ea:=(cP Zai.c (cP (cI .i64) cU))) (oa:=(okP Zai.ok (okP (okI .i64) okU))) (N:=4) Tryz.underlying32 (by kernel_rfl) (Zbg (sz:=3) rfl rfl (by kernel_rfl) Zrx (Zbg (sz:=1) rfl rfl (by kernel_rfl) (Zea Tryz.underlying3) ZjX)) (fun(a:Zai×Int×Unit)=>(⟨a.1,a.2.1⟩ : Zag)) (fun _=>rfl) (fun _ h=>h)
structure ZaB where
 fKind:Int
 fEnd:Zan
 fNet:Zag
 fNow:Int
 fNum:Int
 fGood:Bool
 deriving DecidableEq
def ZaB.d:ZaB:=⟨(0:Int),Zan.d,Zag.d,(0:Int),(0:Int),false⟩
def ZaB.c(a:ZaB):List C:=[.lit (.int .i64 a.fKind),.lit (.bool a.fEnd.fAddr.fV6),.lit (.int .u64 a.fEnd.fAddr.fHi),.lit (.int .u64 a.fEnd.fAddr.fLo),.lit (.int .i64 a.fEnd.fPort),.lit (.bool a.fNet.fAddr.fV6),.lit (.int .u64 a.fNet.fAddr.fHi),.lit (.int .u64 a.fNet.fAddr.fLo),.lit (.int .i64 a.fNet.fBits),.lit (.int .i64 a.fNow),.lit (.int .i64 a.fNum),.lit (.bool a.fGood)]
def ZaB.ok(a:ZaB):Prop:=(okI .i64) a.fKind/\Zan.ok a.fEnd/\Zag.ok a.fNet/\(okI .i64) a.fNow/\(okI .i64) a.fNum/\okB a.fGood/\True
theorem Zwz:Opn Tryz.prog 34 ZaB.c ZaB.ok:=Zhs (ea:=(cP (cI .i64) (cP Zan.c (cP Zag.c (cP (cI .i64) (cP (cI .i64) (cP cB cU))))))) (oa:=(okP (okI .i64) (okP Zan.ok (okP Zag.ok (okP (okI .i64) (okP (okI .i64) (okP okB okU))))))) (N:=12) Tryz.underlying34 (by kernel_rfl) (Zbg (sz:=1) rfl rfl (by kernel_rfl) (Zea Tryz.underlying3) (Zbg (sz:=4) rfl rfl (by kernel_rfl) ZoM (Zbg (sz:=4) rfl rfl (by kernel_rfl) Zsm (Zbg (sz:=1) rfl rfl (by kernel_rfl) (Zea Tryz.underlying3) (Zbg (sz:=1) rfl rfl (by kernel_rfl) (Zea Tryz.underlying3) (Zbg (sz:=1) rfl rfl (by kernel_rfl) (Zyn Tryz.underlying4) ZjX)))))) (fun(a:Int×Zan×Zag×Int×Int×Bool×Unit)=>(⟨a.1,a.2.1,a.2.2.1,a.2.2.2.1,a.2.2.2.2.1,a.2.2.2.2.2.1⟩ : ZaB)) (fun _=>rfl) (fun _ h=>h)
structure ZaD where
 fPoints:Int
 fAt:Int
 deriving DecidableEq
def ZaD.d:ZaD:=⟨(0:Int),(0:Int)⟩
def ZaD.c(a:ZaD):List C:=[.lit (.int .i64 a.fPoints),.lit (.int .i64 a.fAt)]
def ZaD.ok(a:ZaD):Prop:=(okI .i64) a.fPoints/\(okI .i64) a.fAt/\True
theorem Zvb:Opn Tryz.prog 42 ZaD.c ZaD.ok:=Zhs (ea:=(cP (cI .i64) (cP (cI .i64) cU))) (oa:=(okP (okI .i64) (okP (okI .i64) okU))) (N:=2) Tryz.underlying42 (by kernel_rfl) (Zbg (sz:=1) rfl rfl (by kernel_rfl) (Zea Tryz.underlying3) (Zbg (sz:=1) rfl rfl (by kernel_rfl) (Zea Tryz.underlying3) ZjX)) (fun(a:Int×Int×Unit)=>(⟨a.1,a.2.1⟩ : ZaD)) (fun _=>rfl) (fun _ h=>h)
structure Zab where
 fEnd:Zan
 fIn:Bool
 fSince:Int
 fScore:ZaD
 fPing:Int
 fWork:Int
 deriving DecidableEq
def Zab.d:Zab:=⟨Zan.d,false,(0:Int),ZaD.d,(0:Int),(0:Int)⟩
def Zab.c(a:Zab):List C:=[.lit (.bool a.fEnd.fAddr.fV6),.lit (.int .u64 a.fEnd.fAddr.fHi),.lit (.int .u64 a.fEnd.fAddr.fLo),.lit (.int .i64 a.fEnd.fPort),.lit (.bool a.fIn),.lit (.int .i64 a.fSince),.lit (.int .i64 a.fScore.fPoints),.lit (.int .i64 a.fScore.fAt),.lit (.int .i64 a.fPing),.lit (.int .i64 a.fWork)]
def Zab.ok(a:Zab):Prop:=Zan.ok a.fEnd/\okB a.fIn/\(okI .i64) a.fSince/\ZaD.ok a.fScore/\(okI .i64) a.fPing/\(okI .i64) a.fWork/\True
theorem Zwx:Opn Tryz.prog 44 Zab.c Zab.ok:=Zhs (ea:=(cP Zan.c (cP cB (cP (cI .i64) (cP ZaD.c (cP (cI .i64) (cP (cI .i64) cU))))))) (oa:=(okP Zan.ok (okP okB (okP (okI .i64) (okP ZaD.ok (okP (okI .i64) (okP (okI .i64) okU))))))) (N:=10) Tryz.underlying44 (by kernel_rfl) (Zbg (sz:=4) rfl rfl (by kernel_rfl) ZoM (Zbg (sz:=1) rfl rfl (by kernel_rfl) (Zyn Tryz.underlying4) (Zbg (sz:=1) rfl rfl (by kernel_rfl) (Zea Tryz.underlying3) (Zbg (sz:=2) rfl rfl (by kernel_rfl) Zvb (Zbg (sz:=1) rfl rfl (by kernel_rfl) (Zea Tryz.underlying3) (Zbg (sz:=1) rfl rfl (by kernel_rfl) (Zea Tryz.underlying3) ZjX)))))) (fun(a:Zan×Bool×Int×ZaD×Int×Int×Unit)=>(⟨a.1,a.2.1,a.2.2.1,a.2.2.2.1,a.2.2.2.2.1,a.2.2.2.2.2.1⟩ : Zab)) (fun _=>rfl) (fun _ h=>h)
structure Zaf where
 fNet:Zag
 fUntil:Int
 deriving DecidableEq
def Zaf.d:Zaf:=⟨Zag.d,(0:Int)⟩
def Zaf.c(a:Zaf):List C:=[.lit (.bool a.fNet.fAddr.fV6),.lit (.int .u64 a.fNet.fAddr.fHi),.lit (.int .u64 a.fNet.fAddr.fLo),.lit (.int .i64 a.fNet.fBits),.lit (.int .i64 a.fUntil)]
def Zaf.ok(a:Zaf):Prop:=Zag.ok a.fNet/\(okI .i64) a.fUntil/\True
theorem Zyo:Opn Tryz.prog 146 Zaf.c Zaf.ok:=Zhs (ea:=(cP Zag.c (cP (cI .i64) cU))) (oa:=(okP Zag.ok (okP (okI .i64) okU))) (N:=5) Tryz.underlying146 (by kernel_rfl) (Zbg (sz:=4) rfl rfl (by kernel_rfl) Zsm (Zbg (sz:=1) rfl rfl (by kernel_rfl) (Zea Tryz.underlying3) ZjX)) (fun(a:Zag×Int×Unit)=>(⟨a.1,a.2.1⟩ : Zaf)) (fun _=>rfl) (fun _ h=>h)
structure Zaa where
 fEnd:Zan
 fState:Int
 fFails:Int
 fNext:Int
 deriving DecidableEq
def Zaa.d:Zaa:=⟨Zan.d,(0:Int),(0:Int),(0:Int)⟩
def Zaa.c(a:Zaa):List C:=[.lit (.bool a.fEnd.fAddr.fV6),.lit (.int .u64 a.fEnd.fAddr.fHi),.lit (.int .u64 a.fEnd.fAddr.fLo),.lit (.int .i64 a.fEnd.fPort),.lit (.int .i64 a.fState),.lit (.int .i64 a.fFails),.lit (.int .i64 a.fNext)]
def Zaa.ok(a:Zaa):Prop:=Zan.ok a.fEnd/\(okI .i64) a.fState/\(okI .i64) a.fFails/\(okI .i64) a.fNext/\True
theorem Zvd:Opn Tryz.prog 106 Zaa.c Zaa.ok:=Zhs (ea:=(cP Zan.c (cP (cI .i64) (cP (cI .i64) (cP (cI .i64) cU))))) (oa:=(okP Zan.ok (okP (okI .i64) (okP (okI .i64) (okP (okI .i64) okU))))) (N:=7) Tryz.underlying106 (by kernel_rfl) (Zbg (sz:=4) rfl rfl (by kernel_rfl) ZoM (Zbg (sz:=1) rfl rfl (by kernel_rfl) (Zea Tryz.underlying3) (Zbg (sz:=1) rfl rfl (by kernel_rfl) (Zea Tryz.underlying3) (Zbg (sz:=1) rfl rfl (by kernel_rfl) (Zea Tryz.underlying3) ZjX)))) (fun(a:Zan×Int×Int×Int×Unit)=>(⟨a.1,a.2.1,a.2.2.1,a.2.2.2.1⟩ : Zaa)) (fun _=>rfl) (fun _ h=>h)
structure Zah where
 fN:Int
 fPeer:Zab
 fBans:(List Zaf)
 fBook:(List Zaa)
def Zah.d:Zah:=⟨(0:Int),Zab.d,([]:(List Zaf)),([]:(List Zaa))⟩
def Zah.c(a:Zah):List C:=[.lit (.int .i64 a.fN),.lit (.bool a.fPeer.fEnd.fAddr.fV6),.lit (.int .u64 a.fPeer.fEnd.fAddr.fHi),.lit (.int .u64 a.fPeer.fEnd.fAddr.fLo),.lit (.int .i64 a.fPeer.fEnd.fPort),.lit (.bool a.fPeer.fIn),.lit (.int .i64 a.fPeer.fSince),.lit (.int .i64 a.fPeer.fScore.fPoints),.lit (.int .i64 a.fPeer.fScore.fAt),.lit (.int .i64 a.fPeer.fPing),.lit (.int .i64 a.fPeer.fWork),cL 5 Zaf.c Zaf.d a.fBans,cL 7 Zaa.c Zaa.d a.fBook]
def Zah.ok(a:Zah):Prop:=(okI .i64) a.fN/\Zab.ok a.fPeer/\(okL Zaf.ok) a.fBans/\(okL Zaa.ok) a.fBook/\True
structure Zay where
 fKind:Int
 fShard:Int
 fSlot:Int
 deriving DecidableEq
def Zay.d:Zay:=⟨(0:Int),(0:Int),(0:Int)⟩
def Zay.c(a:Zay):List C:=[.lit (.int .i64 a.fKind),.lit (.int .i64 a.fShard),.lit (.int .i64 a.fSlot)]
def Zay.ok(a:Zay):Prop:=(okI .i64) a.fKind/\(okI .i64) a.fShard/\(okI .i64) a.fSlot/\True
structure ZaJ where
 fKind:Int
 fLock:Int
 fLoc:Zay
 fOld:Int
 fNew:Int
 fVal:Zah
 fMark:Bool
def ZaJ.d:ZaJ:=⟨(0:Int),(0:Int),Zay.d,(0:Int),(0:Int),Zah.d,false⟩
def ZaJ.c(a:ZaJ):List C:=[.lit (.int .i64 a.fKind),.lit (.int .i64 a.fLock),.lit (.int .i64 a.fLoc.fKind),.lit (.int .i64 a.fLoc.fShard),.lit (.int .i64 a.fLoc.fSlot),.lit (.int .i64 a.fOld),.lit (.int .i64 a.fNew),.lit (.int .i64 a.fVal.fN),.lit (.bool a.fVal.fPeer.fEnd.fAddr.fV6),.lit (.int .u64 a.fVal.fPeer.fEnd.fAddr.fHi),.lit (.int .u64 a.fVal.fPeer.fEnd.fAddr.fLo),.lit (.int .i64 a.fVal.fPeer.fEnd.fPort),.lit (.bool a.fVal.fPeer.fIn),.lit (.int .i64 a.fVal.fPeer.fSince),.lit (.int .i64 a.fVal.fPeer.fScore.fPoints),.lit (.int .i64 a.fVal.fPeer.fScore.fAt),.lit (.int .i64 a.fVal.fPeer.fPing),.lit (.int .i64 a.fVal.fPeer.fWork),cL 5 Zaf.c Zaf.d a.fVal.fBans,cL 7 Zaa.c Zaa.d a.fVal.fBook,.lit (.bool a.fMark)]
def ZaJ.ok(a:ZaJ):Prop:=(okI .i64) a.fKind/\(okI .i64) a.fLock/\Zay.ok a.fLoc/\(okI .i64) a.fOld/\(okI .i64) a.fNew/\Zah.ok a.fVal/\okB a.fMark/\True
structure Zaq where
 fCode:Int
 fEnd:Zan
 fN:Int
 fUntil:Int
 fPeers:(List Zab)
def Zaq.d:Zaq:=⟨(0:Int),Zan.d,(0:Int),(0:Int),([]:(List Zab))⟩
def Zaq.c(a:Zaq):List C:=[.lit (.int .i64 a.fCode),.lit (.bool a.fEnd.fAddr.fV6),.lit (.int .u64 a.fEnd.fAddr.fHi),.lit (.int .u64 a.fEnd.fAddr.fLo),.lit (.int .i64 a.fEnd.fPort),.lit (.int .i64 a.fN),.lit (.int .i64 a.fUntil),cL 10 Zab.c Zab.d a.fPeers]
def Zaq.ok(a:Zaq):Prop:=(okI .i64) a.fCode/\Zan.ok a.fEnd/\(okI .i64) a.fN/\(okI .i64) a.fUntil/\(okL Zab.ok) a.fPeers/\True
structure ZaV where
 fOp:ZaJ
 fReply:Zaq
 fDone:Bool
 fBroken:Bool
def ZaV.d:ZaV:=⟨ZaJ.d,Zaq.d,false,false⟩
def ZaV.c(a:ZaV):List C:=[.lit (.int .i64 a.fOp.fKind),.lit (.int .i64 a.fOp.fLock),.lit (.int .i64 a.fOp.fLoc.fKind),.lit (.int .i64 a.fOp.fLoc.fShard),.lit (.int .i64 a.fOp.fLoc.fSlot),.lit (.int .i64 a.fOp.fOld),.lit (.int .i64 a.fOp.fNew),.lit (.int .i64 a.fOp.fVal.fN),.lit (.bool a.fOp.fVal.fPeer.fEnd.fAddr.fV6),.lit (.int .u64 a.fOp.fVal.fPeer.fEnd.fAddr.fHi),.lit (.int .u64 a.fOp.fVal.fPeer.fEnd.fAddr.fLo),.lit (.int .i64 a.fOp.fVal.fPeer.fEnd.fPort),.lit (.bool a.fOp.fVal.fPeer.fIn),.lit (.int .i64 a.fOp.fVal.fPeer.fSince),.lit (.int .i64 a.fOp.fVal.fPeer.fScore.fPoints),.lit (.int .i64 a.fOp.fVal.fPeer.fScore.fAt),.lit (.int .i64 a.fOp.fVal.fPeer.fPing),.lit (.int .i64 a.fOp.fVal.fPeer.fWork),cL 5 Zaf.c Zaf.d a.fOp.fVal.fBans,cL 7 Zaa.c Zaa.d a.fOp.fVal.fBook,.lit (.bool a.fOp.fMark),.lit (.int .i64 a.fReply.fCode),.lit (.bool a.fReply.fEnd.fAddr.fV6),.lit (.int .u64 a.fReply.fEnd.fAddr.fHi),.lit (.int .u64 a.fReply.fEnd.fAddr.fLo),.lit (.int .i64 a.fReply.fEnd.fPort),.lit (.int .i64 a.fReply.fN),.lit (.int .i64 a.fReply.fUntil),cL 10 Zab.c Zab.d a.fReply.fPeers,.lit (.bool a.fDone),.lit (.bool a.fBroken)]
def ZaV.ok(a:ZaV):Prop:=ZaJ.ok a.fOp/\Zaq.ok a.fReply/\okB a.fDone/\okB a.fBroken/\True
structure Zas where
 fBans:(List Zaf)
 fBook:(List Zaa)
 fPeers:(List Zab)
def Zas.d:Zas:=⟨([]:(List Zaf)),([]:(List Zaa)),([]:(List Zab))⟩
def Zas.c(a:Zas):List C:=[cL 5 Zaf.c Zaf.d a.fBans,cL 7 Zaa.c Zaa.d a.fBook,cL 10 Zab.c Zab.d a.fPeers]
def Zas.ok(a:Zas):Prop:=(okL Zaf.ok) a.fBans/\(okL Zaa.ok) a.fBook/\(okL Zab.ok) a.fPeers/\True
theorem Zva:Opn Tryz.prog 65 Zas.c Zas.ok:=Zhs (ea:=(cP (cLs 5 Zaf.c Zaf.d) (cP (cLs 7 Zaa.c Zaa.d) (cP (cLs 10 Zab.c Zab.d) cU)))) (oa:=(okP (okL Zaf.ok) (okP (okL Zaa.ok) (okP (okL Zab.ok) okU)))) (N:=3) Tryz.underlying65 (by kernel_rfl) (Zbg (sz:=1) rfl rfl (by kernel_rfl) (ZuZ (d:=Zaf.d) Tryz.underlying45 (by kernel_rfl) (by decide) (fun _=>rfl) Zyo) (Zbg (sz:=1) rfl rfl (by kernel_rfl) (ZuZ (d:=Zaa.d) Tryz.underlying46 (by kernel_rfl) (by decide) (fun _=>rfl) Zvd) (Zbg (sz:=1) rfl rfl (by kernel_rfl) (ZuZ (d:=Zab.d) Tryz.underlying54 (by kernel_rfl) (by decide) (fun _=>rfl) Zwx) ZjX))) (fun(a:(List Zaf)×(List Zaa)×(List Zab)×Unit)=>(⟨a.1,a.2.1,a.2.2.1⟩ : Zas)) (fun _=>rfl) (fun _ h=>h)
structure Zad where
 fSize:Int
 fSlots:(List Zab)
def Zad.d:Zad:=⟨(0:Int),([]:(List Zab))⟩
def Zad.c(a:Zad):List C:=[.lit (.int .i64 a.fSize),cL 10 Zab.c Zab.d a.fSlots]
def Zad.ok(a:Zad):Prop:=(okI .i64) a.fSize/\(okL Zab.ok) a.fSlots/\True
structure Zat where
 fBy:Int
 fShare:(List Int)
def Zat.d:Zat:=⟨(0:Int),([]:(List Int))⟩
def Zat.c(a:Zat):List C:=[.lit (.int .i64 a.fBy),cL 1 (cI .i64) (0:Int) a.fShare]
def Zat.ok(a:Zat):Prop:=(okI .i64) a.fBy/\(okL (okI .i64)) a.fShare/\True
structure ZaC where
 fIn:Int
 fOut:Int
 fBans:(List Zaf)
 fBook:(List Zaa)
 fShards:(List Zad)
 fLocks:(List Zat)
def ZaC.d:ZaC:=⟨(0:Int),(0:Int),([]:(List Zaf)),([]:(List Zaa)),([]:(List Zad)),([]:(List Zat))⟩
def ZaC.c(a:ZaC):List C:=[.lit (.int .i64 a.fIn),.lit (.int .i64 a.fOut),cL 5 Zaf.c Zaf.d a.fBans,cL 7 Zaa.c Zaa.d a.fBook,cL 2 Zad.c Zad.d a.fShards,cL 2 Zat.c Zat.d a.fLocks]
def ZaC.ok(a:ZaC):Prop:=(okI .i64) a.fIn/\(okI .i64) a.fOut/\(okL Zaf.ok) a.fBans/\(okL Zaa.ok) a.fBook/\(okL Zad.ok) a.fShards/\(okL Zat.ok) a.fLocks/\True
structure ZaI where
 fc:Zau
 fx:ZaB
 deriving DecidableEq
def ZaI.d:ZaI:=⟨Zau.d,ZaB.d⟩
def ZaI.c(a:ZaI):List C:=[.lit (.int .i64 a.fc.fMaxIn),.lit (.int .i64 a.fc.fMaxOut),.lit (.int .i64 a.fc.fShards),.lit (.int .i64 a.fc.fMaxBans),.lit (.int .i64 a.fc.fMaxBook),.lit (.int .u64 a.fc.fSecret),.lit (.int .i64 a.fc.fQuota.fGroup),.lit (.int .i64 a.fc.fQuota.fPing),.lit (.int .i64 a.fc.fQuota.fWork),.lit (.int .i64 a.fc.fQuota.fTime),.lit (.int .i64 a.fc.fHalf),.lit (.int .i64 a.fc.fLimit),.lit (.int .i64 a.fc.fBanFor),.lit (.int .i64 a.fc.fBase),.lit (.int .i64 a.fc.fCap),.lit (.int .i64 a.fc.fJitter),.lit (.int .i64 a.fx.fKind),.lit (.bool a.fx.fEnd.fAddr.fV6),.lit (.int .u64 a.fx.fEnd.fAddr.fHi),.lit (.int .u64 a.fx.fEnd.fAddr.fLo),.lit (.int .i64 a.fx.fEnd.fPort),.lit (.bool a.fx.fNet.fAddr.fV6),.lit (.int .u64 a.fx.fNet.fAddr.fHi),.lit (.int .u64 a.fx.fNet.fAddr.fLo),.lit (.int .i64 a.fx.fNet.fBits),.lit (.int .i64 a.fx.fNow),.lit (.int .i64 a.fx.fNum),.lit (.bool a.fx.fGood)]
def ZaI.ok(a:ZaI):Prop:=Zau.ok a.fc/\ZaB.ok a.fx/\True
inductive ZhI where
 |c109 (e:ZaI)
 |c110 (e:ZaI)
 |c111 (e:ZaI)
 |c112 (e:ZaI)
def ZhI.c:ZhI->C | .c109 e=>.clo (.func 109) 1 0 (fun i=>([.agv 28 (fun j=>(ZaI.c e).getD j .junk)]:List C).getD i .junk) (fun i=>([]:List C).getD i .junk) | .c110 e=>.clo (.func 110) 1 0 (fun i=>([.agv 28 (fun j=>(ZaI.c e).getD j .junk)]:List C).getD i .junk) (fun i=>([]:List C).getD i .junk) | .c111 e=>.clo (.func 111) 1 0 (fun i=>([.agv 28 (fun j=>(ZaI.c e).getD j .junk)]:List C).getD i .junk) (fun i=>([]:List C).getD i .junk) | .c112 e=>.clo (.func 112) 1 0 (fun i=>([.agv 28 (fun j=>(ZaI.c e).getD j .junk)]:List C).getD i .junk) (fun i=>([]:List C).getD i .junk)
structure Zao where
 fgot:(List Zah)
def Zao.d:Zao:=⟨([]:(List Zah))⟩
def Zao.c(a:Zao):List C:=[cLn 13 Zah.c Zah.d a.fgot]
structure Zaw where
 fNet:Zag
 fV:Int
 deriving DecidableEq
def Zaw.d:Zaw:=⟨Zag.d,(0:Int)⟩
def Zaw.c(a:Zaw):List C:=[.lit (.bool a.fNet.fAddr.fV6),.lit (.int .u64 a.fNet.fAddr.fHi),.lit (.int .u64 a.fNet.fAddr.fLo),.lit (.int .i64 a.fNet.fBits),.lit (.int .i64 a.fV)]
def Zaw.ok(a:Zaw):Prop:=Zag.ok a.fNet/\(okI .i64) a.fV/\True
inductive Zav where
 |nil
 |mk (a0:Zaw) (a1:Bool) (a2:Zav) (a3:Zav)
def Zav.isNil:Zav->Bool | .nil=>true | .mk _ _ _ _=>false
def Zav.cs:Zav->Nat->C | .nil=>fun _=>.junk | .mk a0 a1 a2 a3=>fun j=>([.lit (.bool a0.fNet.fAddr.fV6),.lit (.int .u64 a0.fNet.fAddr.fHi),.lit (.int .u64 a0.fNet.fAddr.fLo),.lit (.int .i64 a0.fNet.fBits),.lit (.int .i64 a0.fV),.lit (.bool a1),.rp a2.isNil 8 a2.cs,.rp a3.isNil 8 a3.cs]:List C).getD (0+j) .junk
def Zav.c(x:Zav):C:=.rp x.isNil 8 x.cs
inductive ZaH where
 |nil
 |mk (a0:Zav) (a1:Zav) (a2:Int)
def ZaH.isNil:ZaH->Bool | .nil=>true | .mk _ _ _=>false
def ZaH.cs:ZaH->Nat->C | .nil=>fun _=>.junk | .mk a0 a1 a2=>fun j=>([.rp a0.isNil 8 a0.cs,.rp a1.isNil 8 a1.cs,.lit (.int .i64 a2)]:List C).getD (0+j) .junk
def ZaH.c(x:ZaH):C:=.rp x.isNil 3 x.cs
structure ZiF where
 fhit:Zaw
 fhas:Bool
 fkids:(Zav×Zav)
def ZiF.d:ZiF:=⟨Zaw.d,false,(Zav.nil,Zav.nil)⟩
def ZiF.c(a:ZiF):List C:=[.lit (.bool a.fhit.fNet.fAddr.fV6),.lit (.int .u64 a.fhit.fNet.fAddr.fHi),.lit (.int .u64 a.fhit.fNet.fAddr.fLo),.lit (.int .i64 a.fhit.fNet.fBits),.lit (.int .i64 a.fhit.fV),.lit (.bool a.fhas),Zav.c a.fkids.1,Zav.c a.fkids.2]
structure ZaF where
 fBook:(List Zaa)
 fPeers:(List Zab)
 fBans:(List Zaf)
def ZaF.d:ZaF:=⟨([]:(List Zaa)),([]:(List Zab)),([]:(List Zaf))⟩
def ZaF.c(a:ZaF):List C:=[cL 7 Zaa.c Zaa.d a.fBook,cL 10 Zab.c Zab.d a.fPeers,cL 5 Zaf.c Zaf.d a.fBans]
def ZaF.ok(a:ZaF):Prop:=(okL Zaa.ok) a.fBook/\(okL Zab.ok) a.fPeers/\(okL Zaf.ok) a.fBans/\True
structure Zae where
 fKey:Int
 fEnd:Zan
 deriving DecidableEq
def Zae.d:Zae:=⟨(0:Int),Zan.d⟩
def Zae.c(a:Zae):List C:=[.lit (.int .i64 a.fKey),.lit (.bool a.fEnd.fAddr.fV6),.lit (.int .u64 a.fEnd.fAddr.fHi),.lit (.int .u64 a.fEnd.fAddr.fLo),.lit (.int .i64 a.fEnd.fPort)]
def Zae.ok(a:Zae):Prop:=(okI .i64) a.fKey/\Zan.ok a.fEnd/\True
inductive Tout (α:Type) where
 |ret (x:α) (g:Zao)
 |pan (op:ZaJ)
 |bad (s:ByteArray)
def pvOf{α:Type} : {x:Tout α}->{e:Option (Tout α)}->e=some x->V | .ret _ _,_,_=>.one .junk | .pan op,_,_=>.one (.ifa 111 21 (fun i=>(ZaJ.c op).getD i .junk)) | .bad s,_,_=>.one (.ifc 9 (.lit (.string s)))
def oc{α:Type}(v:α->V):Tout α->Outc | .ret x g=>.ret [(100000,.box (Zao.c g))] (v x) | .pan op=>.pan (.one (.ifa 111 21 (fun i=>(ZaJ.c op).getD i .junk))) | .bad s=>.pan (.one (.ifc 9 (.lit (.string s))))
theorem Zsp : Zte Tryz.prog 112 "Drop" 461 := fun x w => by kernel_rfl
theorem ZgE : Zte Tryz.prog 112 "Free" 462 := fun x w => by kernel_rfl
theorem Zto : ZFd Tryz.prog 112 "Free" := fun x w => by kernel_rfl
theorem ZeQ : Zte Tryz.prog 112 "Load" 463 := fun x w => by kernel_rfl
theorem Zla : ZFd Tryz.prog 112 "Load" := fun x w => by kernel_rfl
theorem Zjf : Zte Tryz.prog 112 "Lock" 464 := fun x w => by kernel_rfl
theorem ZzU : Zte Tryz.prog 112 "Pass" 465 := fun x w => by kernel_rfl
theorem ZqU : Zte Tryz.prog 112 "Share" 466 := fun x w => by kernel_rfl
theorem ZjK : Zte Tryz.prog 112 "Store" 467 := fun x w => by kernel_rfl
theorem ZoP : ZFd Tryz.prog 112 "Store" := fun x w => by kernel_rfl
theorem ZzT : Zte Tryz.prog 112 "Swap" 468 := fun x w => by kernel_rfl
def tab:Tab:=[ (1,⟨.func,1,8,some (.nilFunc)⟩),(3,⟨.int .i64,1,8,some (.int .i64 (0))⟩),(4,⟨.bool,1,1,some (.bool false)⟩),(5,⟨.int .u8,1,1,some (.int .u8 (0))⟩),(9,⟨.str,1,16,some (.string ⟨#[]⟩)⟩),(20,⟨.iface,1,16,some (.nilIface)⟩),(22,⟨.int .u64,1,8,some (.int .u64 (0))⟩),(23,⟨.struct [(0,3),(1,3),(2,3),(3,3)],4,32,some (.agg #[.int .i64 (0),.int .i64 (0),.int .i64 (0),.int .i64 (0)])⟩),(24,⟨.struct [(0,3),(1,3),(2,3),(3,3)],4,32,some (.agg #[.int .i64 (0),.int .i64 (0),.int .i64 (0),.int .i64 (0)])⟩),(25,⟨.struct [(0,3),(1,3),(2,3),(3,3),(4,3),(5,22),(6,24),(10,3),(11,3),(12,3),(13,3),(14,3),(15,3)],16,128,some (.agg #[.int .i64 (0),.int .i64 (0),.int .i64 (0),.int .i64 (0),.int .i64 (0),.int .u64 (0),.int .i64 (0),.int .i64 (0),.int .i64 (0),.int .i64 (0),.int .i64 (0),.int .i64 (0),.int .i64 (0),.int .i64 (0),.int .i64 (0),.int .i64 (0)])⟩),(26,⟨.struct [(0,3),(1,3),(2,3),(3,3),(4,3),(5,22),(6,24),(10,3),(11,3),(12,3),(13,3),(14,3),(15,3)],16,128,some (.agg #[.int .i64 (0),.int .i64 (0),.int .i64 (0),.int .i64 (0),.int .i64 (0),.int .u64 (0),.int .i64 (0),.int .i64 (0),.int .i64 (0),.int .i64 (0),.int .i64 (0),.int .i64 (0),.int .i64 (0),.int .i64 (0),.int .i64 (0),.int .i64 (0)])⟩),(27,⟨.struct [(0,4),(1,22),(2,22)],3,24,some (.agg #[.bool false,.int .u64 (0),.int .u64 (0)])⟩),(28,⟨.struct [(0,4),(1,22),(2,22)],3,24,some (.agg #[.bool false,.int .u64 (0),.int .u64 (0)])⟩),(29,⟨.struct [(0,28),(3,3)],4,32,some (.agg #[.bool false,.int .u64 (0),.int .u64 (0),.int .i64 (0)])⟩),(30,⟨.struct [(0,28),(3,3)],4,32,some (.agg #[.bool false,.int .u64 (0),.int .u64 (0),.int .i64 (0)])⟩),(31,⟨.struct [(0,28),(3,3)],4,32,some (.agg #[.bool false,.int .u64 (0),.int .u64 (0),.int .i64 (0)])⟩),(32,⟨.struct [(0,28),(3,3)],4,32,some (.agg #[.bool false,.int .u64 (0),.int .u64 (0),.int .i64 (0)])⟩),(33,⟨.struct [(0,3),(1,30),(5,32),(9,3),(10,3),(11,4)],12,96,some (.agg #[.int .i64 (0),.bool false,.int .u64 (0),.int .u64 (0),.int .i64 (0),.bool false,.int .u64 (0),.int .u64 (0),.int .i64 (0),.int .i64 (0),.int .i64 (0),.bool false])⟩),(34,⟨.struct [(0,3),(1,30),(5,32),(9,3),(10,3),(11,4)],12,96,some (.agg #[.int .i64 (0),.bool false,.int .u64 (0),.int .u64 (0),.int .i64 (0),.bool false,.int .u64 (0),.int .u64 (0),.int .i64 (0),.int .i64 (0),.int .i64 (0),.bool false])⟩),(35,⟨.slice 48,1,24,some (.slice none 0 0)⟩),(39,⟨.struct [(0,3),(1,3),(2,3)],3,24,some (.agg #[.int .i64 (0),.int .i64 (0),.int .i64 (0)])⟩),(40,⟨.struct [(0,3),(1,3),(2,3)],3,24,some (.agg #[.int .i64 (0),.int .i64 (0),.int .i64 (0)])⟩),(41,⟨.struct [(0,3),(1,3)],2,16,some (.agg #[.int .i64 (0),.int .i64 (0)])⟩),(42,⟨.struct [(0,3),(1,3)],2,16,some (.agg #[.int .i64 (0),.int .i64 (0)])⟩),(43,⟨.struct [(0,30),(4,4),(5,3),(6,42),(8,3),(9,3)],10,80,some (.agg #[.bool false,.int .u64 (0),.int .u64 (0),.int .i64 (0),.bool false,.int .i64 (0),.int .i64 (0),.int .i64 (0),.int .i64 (0),.int .i64 (0)])⟩),(44,⟨.struct [(0,30),(4,4),(5,3),(6,42),(8,3),(9,3)],10,80,some (.agg #[.bool false,.int .u64 (0),.int .u64 (0),.int .i64 (0),.bool false,.int .i64 (0),.int .i64 (0),.int .i64 (0),.int .i64 (0),.int .i64 (0)])⟩),(45,⟨.slice 146,1,24,some (.slice none 0 0)⟩),(46,⟨.slice 106,1,24,some (.slice none 0 0)⟩),(47,⟨.struct [(0,3),(1,44),(11,45),(12,46)],13,136,some (.agg #[.int .i64 (0),.bool false,.int .u64 (0),.int .u64 (0),.int .i64 (0),.bool false,.int .i64 (0),.int .i64 (0),.int .i64 (0),.int .i64 (0),.int .i64 (0),.slice none 0 0,.slice none 0 0])⟩),(48,⟨.struct [(0,3),(1,44),(11,45),(12,46)],13,136,some (.agg #[.int .i64 (0),.bool false,.int .u64 (0),.int .u64 (0),.int .i64 (0),.bool false,.int .i64 (0),.int .i64 (0),.int .i64 (0),.int .i64 (0),.int .i64 (0),.slice none 0 0,.slice none 0 0])⟩),(49,⟨.struct [(0,3),(1,3),(2,40),(5,3),(6,3),(7,48),(20,4)],21,200,some (.agg #[.int .i64 (0),.int .i64 (0),.int .i64 (0),.int .i64 (0),.int .i64 (0),.int .i64 (0),.int .i64 (0),.int .i64 (0),.bool false,.int .u64 (0),.int .u64 (0),.int .i64 (0),.bool false,.int .i64 (0),.int .i64 (0),.int .i64 (0),.int .i64 (0),.int .i64 (0),.slice none 0 0,.slice none 0 0,.bool false])⟩),(50,⟨.struct [(0,3),(1,3),(2,40),(5,3),(6,3),(7,48),(20,4)],21,200,some (.agg #[.int .i64 (0),.int .i64 (0),.int .i64 (0),.int .i64 (0),.int .i64 (0),.int .i64 (0),.int .i64 (0),.int .i64 (0),.bool false,.int .u64 (0),.int .u64 (0),.int .i64 (0),.bool false,.int .i64 (0),.int .i64 (0),.int .i64 (0),.int .i64 (0),.int .i64 (0),.slice none 0 0,.slice none 0 0,.bool false])⟩),(53,⟨.int .i64,1,8,some (.int .i64 (0))⟩),(54,⟨.slice 44,1,24,some (.slice none 0 0)⟩),(55,⟨.struct [(0,53),(1,30),(5,3),(6,3),(7,54)],8,80,some (.agg #[.int .i64 (0),.bool false,.int .u64 (0),.int .u64 (0),.int .i64 (0),.int .i64 (0),.int .i64 (0),.slice none 0 0])⟩),(56,⟨.struct [(0,53),(1,30),(5,3),(6,3),(7,54)],8,80,some (.agg #[.int .i64 (0),.bool false,.int .u64 (0),.int .u64 (0),.int .i64 (0),.int .i64 (0),.int .i64 (0),.slice none 0 0])⟩),(60,⟨.struct [(0,50),(21,56),(29,4),(30,4)],31,288,some (.agg #[.int .i64 (0),.int .i64 (0),.int .i64 (0),.int .i64 (0),.int .i64 (0),.int .i64 (0),.int .i64 (0),.int .i64 (0),.bool false,.int .u64 (0),.int .u64 (0),.int .i64 (0),.bool false,.int .i64 (0),.int .i64 (0),.int .i64 (0),.int .i64 (0),.int .i64 (0),.slice none 0 0,.slice none 0 0,.bool false,.int .i64 (0),.bool false,.int .u64 (0),.int .u64 (0),.int .i64 (0),.int .i64 (0),.int .i64 (0),.slice none 0 0,.bool false,.bool false])⟩),(61,⟨.struct [(0,50),(21,56),(29,4),(30,4)],31,288,some (.agg #[.int .i64 (0),.int .i64 (0),.int .i64 (0),.int .i64 (0),.int .i64 (0),.int .i64 (0),.int .i64 (0),.int .i64 (0),.bool false,.int .u64 (0),.int .u64 (0),.int .i64 (0),.bool false,.int .i64 (0),.int .i64 (0),.int .i64 (0),.int .i64 (0),.int .i64 (0),.slice none 0 0,.slice none 0 0,.bool false,.int .i64 (0),.bool false,.int .u64 (0),.int .u64 (0),.int .i64 (0),.int .i64 (0),.int .i64 (0),.slice none 0 0,.bool false,.bool false])⟩),(64,⟨.struct [(0,45),(1,46),(2,54)],3,72,some (.agg #[.slice none 0 0,.slice none 0 0,.slice none 0 0])⟩),(65,⟨.struct [(0,45),(1,46),(2,54)],3,72,some (.agg #[.slice none 0 0,.slice none 0 0,.slice none 0 0])⟩),(69,⟨.slice 178,1,24,some (.slice none 0 0)⟩),(70,⟨.slice 127,1,24,some (.slice none 0 0)⟩),(71,⟨.struct [(0,3),(1,3),(2,45),(3,46),(4,69),(5,70)],6,112,some (.agg #[.int .i64 (0),.int .i64 (0),.slice none 0 0,.slice none 0 0,.slice none 0 0,.slice none 0 0])⟩),(72,⟨.struct [(0,3),(1,3),(2,45),(3,46),(4,69),(5,70)],6,112,some (.agg #[.int .i64 (0),.int .i64 (0),.slice none 0 0,.slice none 0 0,.slice none 0 0,.slice none 0 0])⟩),(75,⟨.func,1,8,some (.nilFunc)⟩),(76,⟨.func,1,8,some (.nilFunc)⟩),(105,⟨.struct [(0,30),(4,3),(5,3),(6,3)],7,56,some (.agg #[.bool false,.int .u64 (0),.int .u64 (0),.int .i64 (0),.int .i64 (0),.int .i64 (0),.int .i64 (0)])⟩),(106,⟨.struct [(0,30),(4,3),(5,3),(6,3)],7,56,some (.agg #[.bool false,.int .u64 (0),.int .u64 (0),.int .i64 (0),.int .i64 (0),.int .i64 (0),.int .i64 (0)])⟩),(110,⟨.struct [(0,50)],21,200,some (.agg #[.int .i64 (0),.int .i64 (0),.int .i64 (0),.int .i64 (0),.int .i64 (0),.int .i64 (0),.int .i64 (0),.int .i64 (0),.bool false,.int .u64 (0),.int .u64 (0),.int .i64 (0),.bool false,.int .i64 (0),.int .i64 (0),.int .i64 (0),.int .i64 (0),.int .i64 (0),.slice none 0 0,.slice none 0 0,.bool false])⟩),(111,⟨.struct [(0,50)],21,200,some (.agg #[.int .i64 (0),.int .i64 (0),.int .i64 (0),.int .i64 (0),.int .i64 (0),.int .i64 (0),.int .i64 (0),.int .i64 (0),.bool false,.int .u64 (0),.int .u64 (0),.int .i64 (0),.bool false,.int .i64 (0),.int .i64 (0),.int .i64 (0),.int .i64 (0),.int .i64 (0),.slice none 0 0,.slice none 0 0,.bool false])⟩),(112,⟨.ptr 114,1,8,some (.pointer none)⟩),(113,⟨.struct [(0,35)],1,24,some (.agg #[.slice none 0 0])⟩),(114,⟨.struct [(0,35)],1,24,some (.agg #[.slice none 0 0])⟩),(125,⟨.slice 3,1,24,some (.slice none 0 0)⟩),(126,⟨.struct [(0,3),(1,125)],2,32,some (.agg #[.int .i64 (0),.slice none 0 0])⟩),(127,⟨.struct [(0,3),(1,125)],2,32,some (.agg #[.int .i64 (0),.slice none 0 0])⟩),(145,⟨.struct [(0,32),(4,3)],5,40,some (.agg #[.bool false,.int .u64 (0),.int .u64 (0),.int .i64 (0),.int .i64 (0)])⟩),(146,⟨.struct [(0,32),(4,3)],5,40,some (.agg #[.bool false,.int .u64 (0),.int .u64 (0),.int .i64 (0),.int .i64 (0)])⟩),(152,⟨.iface,1,16,some (.nilIface)⟩),(153,⟨.iface,1,16,some (.nilIface)⟩),(156,⟨.struct [(0,26),(16,34)],28,224,some (.agg #[.int .i64 (0),.int .i64 (0),.int .i64 (0),.int .i64 (0),.int .i64 (0),.int .u64 (0),.int .i64 (0),.int .i64 (0),.int .i64 (0),.int .i64 (0),.int .i64 (0),.int .i64 (0),.int .i64 (0),.int .i64 (0),.int .i64 (0),.int .i64 (0),.int .i64 (0),.bool false,.int .u64 (0),.int .u64 (0),.int .i64 (0),.bool false,.int .u64 (0),.int .u64 (0),.int .i64 (0),.int .i64 (0),.int .i64 (0),.bool false])⟩),(157,⟨.struct [(0,26),(16,34)],28,224,some (.agg #[.int .i64 (0),.int .i64 (0),.int .i64 (0),.int .i64 (0),.int .i64 (0),.int .u64 (0),.int .i64 (0),.int .i64 (0),.int .i64 (0),.int .i64 (0),.int .i64 (0),.int .i64 (0),.int .i64 (0),.int .i64 (0),.int .i64 (0),.int .i64 (0),.int .i64 (0),.bool false,.int .u64 (0),.int .u64 (0),.int .i64 (0),.bool false,.int .u64 (0),.int .u64 (0),.int .i64 (0),.int .i64 (0),.int .i64 (0),.bool false])⟩),(173,⟨.func,1,8,some (.nilFunc)⟩),(174,⟨.func,1,8,some (.nilFunc)⟩),(176,⟨.func,1,8,some (.nilFunc)⟩),(177,⟨.struct [(0,3),(1,54)],2,32,some (.agg #[.int .i64 (0),.slice none 0 0])⟩),(178,⟨.struct [(0,3),(1,54)],2,32,some (.agg #[.int .i64 (0),.slice none 0 0])⟩),(179,⟨.slice 181,1,24,some (.slice none 0 0)⟩),(181,⟨.int .i64,1,8,some (.int .i64 (0))⟩),(187,⟨.func,1,8,some (.nilFunc)⟩),(230,⟨.func,1,8,some (.nilFunc)⟩),(244,⟨.func,1,8,some (.nilFunc)⟩),(245,⟨.slice 9,1,24,some (.slice none 0 0)⟩),(252,⟨.array 14 9,14,224,some (.agg #[.string ⟨#[]⟩,.string ⟨#[]⟩,.string ⟨#[]⟩,.string ⟨#[]⟩,.string ⟨#[]⟩,.string ⟨#[]⟩,.string ⟨#[]⟩,.string ⟨#[]⟩,.string ⟨#[]⟩,.string ⟨#[]⟩,.string ⟨#[]⟩,.string ⟨#[]⟩,.string ⟨#[]⟩,.string ⟨#[]⟩])⟩),(275,⟨.slice 22,1,24,some (.slice none 0 0)⟩),(276,⟨.slice 281,1,24,some (.slice none 0 0)⟩),(277,⟨.ptr 328,1,8,some (.pointer none)⟩),(280,⟨.struct [(0,32),(4,3)],5,40,some (.agg #[.bool false,.int .u64 (0),.int .u64 (0),.int .i64 (0),.int .i64 (0)])⟩),(281,⟨.struct [(0,32),(4,3)],5,40,some (.agg #[.bool false,.int .u64 (0),.int .u64 (0),.int .i64 (0),.int .i64 (0)])⟩),(288,⟨.struct [(0,46),(1,54),(2,45)],3,72,some (.agg #[.slice none 0 0,.slice none 0 0,.slice none 0 0])⟩),(289,⟨.struct [(0,46),(1,54),(2,45)],3,72,some (.agg #[.slice none 0 0,.slice none 0 0,.slice none 0 0])⟩),(298,⟨.int .u64,1,8,some (.int .u64 (0))⟩),(303,⟨.int .u32,1,4,some (.int .u32 (0))⟩),(325,⟨.ptr 330,1,8,some (.pointer none)⟩),(326,⟨.array 2 325,2,16,some (.agg #[.pointer none,.pointer none])⟩),(327,⟨.struct [(0,326),(2,3)],3,24,some (.agg #[.pointer none,.pointer none,.int .i64 (0)])⟩),(328,⟨.struct [(0,326),(2,3)],3,24,some (.agg #[.pointer none,.pointer none,.int .i64 (0)])⟩),(329,⟨.struct [(0,281),(5,4),(6,326)],8,64,some (.agg #[.bool false,.int .u64 (0),.int .u64 (0),.int .i64 (0),.int .i64 (0),.bool false,.pointer none,.pointer none])⟩),(330,⟨.struct [(0,281),(5,4),(6,326)],8,64,some (.agg #[.bool false,.int .u64 (0),.int .u64 (0),.int .i64 (0),.int .i64 (0),.bool false,.pointer none,.pointer none])⟩),(338,⟨.slice 341,1,24,some (.slice none 0 0)⟩),(340,⟨.struct [(0,3),(1,30)],5,40,some (.agg #[.int .i64 (0),.bool false,.int .u64 (0),.int .u64 (0),.int .i64 (0)])⟩),(341,⟨.struct [(0,3),(1,30)],5,40,some (.agg #[.int .i64 (0),.bool false,.int .u64 (0),.int .u64 (0),.int .i64 (0)])⟩),(378,⟨.slice 32,1,24,some (.slice none 0 0)⟩)]
theorem ZJE:Zee Tryz.prog tab:=
 .cons ⟨by kernel_rfl,by kernel_rfl,_,Tryz.underlying1,trivial⟩ <|
 .cons ⟨by kernel_rfl,by kernel_rfl,_,Tryz.underlying3,rfl⟩ <|
 .cons ⟨by kernel_rfl,by kernel_rfl,_,Tryz.underlying4,trivial⟩ <|
 .cons ⟨by kernel_rfl,by kernel_rfl,_,Tryz.underlying5,rfl⟩ <|
 .cons ⟨by kernel_rfl,by kernel_rfl,_,Tryz.underlying9,trivial⟩ <|
 .cons ⟨by kernel_rfl,by kernel_rfl,_,Tryz.underlying20,trivial⟩ <|
 .cons ⟨by kernel_rfl,by kernel_rfl,_,Tryz.underlying22,rfl⟩ <|
 .cons ⟨by kernel_rfl,by kernel_rfl,_,Tryz.underlying23,rfl⟩ <|
 .cons ⟨by kernel_rfl,by kernel_rfl,_,Tryz.underlying24,rfl⟩ <|
 .cons ⟨by kernel_rfl,by kernel_rfl,_,Tryz.underlying25,rfl⟩ <|
 .cons ⟨by kernel_rfl,by kernel_rfl,_,Tryz.underlying26,rfl⟩ <|
 .cons ⟨by kernel_rfl,by kernel_rfl,_,Tryz.underlying27,rfl⟩ <|
 .cons ⟨by kernel_rfl,by kernel_rfl,_,Tryz.underlying28,rfl⟩ <|
 .cons ⟨by kernel_rfl,by kernel_rfl,_,Tryz.underlying29,rfl⟩ <|
 .cons ⟨by kernel_rfl,by kernel_rfl,_,Tryz.underlying30,rfl⟩ <|
 .cons ⟨by kernel_rfl,by kernel_rfl,_,Tryz.underlying31,rfl⟩ <|
 .cons ⟨by kernel_rfl,by kernel_rfl,_,Tryz.underlying32,rfl⟩ <|
 .cons ⟨by kernel_rfl,by kernel_rfl,_,Tryz.underlying33,rfl⟩ <|
 .cons ⟨by kernel_rfl,by kernel_rfl,_,Tryz.underlying34,rfl⟩ <|
 .cons ⟨by kernel_rfl,by kernel_rfl,_,Tryz.underlying35,rfl⟩ <|
 .cons ⟨by kernel_rfl,by kernel_rfl,_,Tryz.underlying39,rfl⟩ <|
 .cons ⟨by kernel_rfl,by kernel_rfl,_,Tryz.underlying40,rfl⟩ <|
 .cons ⟨by kernel_rfl,by kernel_rfl,_,Tryz.underlying41,rfl⟩ <|
 .cons ⟨by kernel_rfl,by kernel_rfl,_,Tryz.underlying42,rfl⟩ <|
 .cons ⟨by kernel_rfl,by kernel_rfl,_,Tryz.underlying43,rfl⟩ <|
 .cons ⟨by kernel_rfl,by kernel_rfl,_,Tryz.underlying44,rfl⟩ <|
 .cons ⟨by kernel_rfl,by kernel_rfl,_,Tryz.underlying45,rfl⟩ <|
 .cons ⟨by kernel_rfl,by kernel_rfl,_,Tryz.underlying46,rfl⟩ <|
 .cons ⟨by kernel_rfl,by kernel_rfl,_,Tryz.underlying47,rfl⟩ <|
 .cons ⟨by kernel_rfl,by kernel_rfl,_,Tryz.underlying48,rfl⟩ <|
 .cons ⟨by kernel_rfl,by kernel_rfl,_,Tryz.underlying49,rfl⟩ <|
 .cons ⟨by kernel_rfl,by kernel_rfl,_,Tryz.underlying50,rfl⟩ <|
 .cons ⟨by kernel_rfl,by kernel_rfl,_,Tryz.underlying53,rfl⟩ <|
 .cons ⟨by kernel_rfl,by kernel_rfl,_,Tryz.underlying54,rfl⟩ <|
 .cons ⟨by kernel_rfl,by kernel_rfl,_,Tryz.underlying55,rfl⟩ <|
 .cons ⟨by kernel_rfl,by kernel_rfl,_,Tryz.underlying56,rfl⟩ <|
 .cons ⟨by kernel_rfl,by kernel_rfl,_,Tryz.underlying60,rfl⟩ <|
 .cons ⟨by kernel_rfl,by kernel_rfl,_,Tryz.underlying61,rfl⟩ <|
 .cons ⟨by kernel_rfl,by kernel_rfl,_,Tryz.underlying64,rfl⟩ <|
 .cons ⟨by kernel_rfl,by kernel_rfl,_,Tryz.underlying65,rfl⟩ <|
 .cons ⟨by kernel_rfl,by kernel_rfl,_,Tryz.underlying69,rfl⟩ <|
 .cons ⟨by kernel_rfl,by kernel_rfl,_,Tryz.underlying70,rfl⟩ <|
 .cons ⟨by kernel_rfl,by kernel_rfl,_,Tryz.underlying71,rfl⟩ <|
 .cons ⟨by kernel_rfl,by kernel_rfl,_,Tryz.underlying72,rfl⟩ <|
 .cons ⟨by kernel_rfl,by kernel_rfl,_,Tryz.underlying75,trivial⟩ <|
 .cons ⟨by kernel_rfl,by kernel_rfl,_,Tryz.underlying76,trivial⟩ <|
 .cons ⟨by kernel_rfl,by kernel_rfl,_,Tryz.underlying105,rfl⟩ <|
 .cons ⟨by kernel_rfl,by kernel_rfl,_,Tryz.underlying106,rfl⟩ <|
 .cons ⟨by kernel_rfl,by kernel_rfl,_,Tryz.underlying110,rfl⟩ <|
 .cons ⟨by kernel_rfl,by kernel_rfl,_,Tryz.underlying111,rfl⟩ <|
 .cons ⟨by kernel_rfl,by kernel_rfl,_,Tryz.underlying112,rfl⟩ <|
 .cons ⟨by kernel_rfl,by kernel_rfl,_,Tryz.underlying113,rfl⟩ <|
 .cons ⟨by kernel_rfl,by kernel_rfl,_,Tryz.underlying114,rfl⟩ <|
 .cons ⟨by kernel_rfl,by kernel_rfl,_,Tryz.underlying125,rfl⟩ <|
 .cons ⟨by kernel_rfl,by kernel_rfl,_,Tryz.underlying126,rfl⟩ <|
 .cons ⟨by kernel_rfl,by kernel_rfl,_,Tryz.underlying127,rfl⟩ <|
 .cons ⟨by kernel_rfl,by kernel_rfl,_,Tryz.underlying145,rfl⟩ <|
 .cons ⟨by kernel_rfl,by kernel_rfl,_,Tryz.underlying146,rfl⟩ <|
 .cons ⟨by kernel_rfl,by kernel_rfl,_,Tryz.underlying152,trivial⟩ <|
 .cons ⟨by kernel_rfl,by kernel_rfl,_,Tryz.underlying153,trivial⟩ <|
 .cons ⟨by kernel_rfl,by kernel_rfl,_,Tryz.underlying156,rfl⟩ <|
 .cons ⟨by kernel_rfl,by kernel_rfl,_,Tryz.underlying157,rfl⟩ <|
 .cons ⟨by kernel_rfl,by kernel_rfl,_,Tryz.underlying173,trivial⟩ <|
 .cons ⟨by kernel_rfl,by kernel_rfl,_,Tryz.underlying174,trivial⟩ <|
 .cons ⟨by kernel_rfl,by kernel_rfl,_,Tryz.underlying176,trivial⟩ <|
 .cons ⟨by kernel_rfl,by kernel_rfl,_,Tryz.underlying177,rfl⟩ <|
 .cons ⟨by kernel_rfl,by kernel_rfl,_,Tryz.underlying178,rfl⟩ <|
 .cons ⟨by kernel_rfl,by kernel_rfl,_,Tryz.underlying179,rfl⟩ <|
 .cons ⟨by kernel_rfl,by kernel_rfl,_,Tryz.underlying181,rfl⟩ <|
 .cons ⟨by kernel_rfl,by kernel_rfl,_,Tryz.underlying187,trivial⟩ <|
 .cons ⟨by kernel_rfl,by kernel_rfl,_,Tryz.underlying230,trivial⟩ <|
 .cons ⟨by kernel_rfl,by kernel_rfl,_,Tryz.underlying244,trivial⟩ <|
 .cons ⟨by kernel_rfl,by kernel_rfl,_,Tryz.underlying245,rfl⟩ <|
 .cons ⟨by kernel_rfl,by kernel_rfl,_,Tryz.underlying252,⟨rfl,rfl⟩⟩ <|
 .cons ⟨by kernel_rfl,by kernel_rfl,_,Tryz.underlying275,rfl⟩ <|
 .cons ⟨by kernel_rfl,by kernel_rfl,_,Tryz.underlying276,rfl⟩ <|
 .cons ⟨by kernel_rfl,by kernel_rfl,_,Tryz.underlying277,rfl⟩ <|
 .cons ⟨by kernel_rfl,by kernel_rfl,_,Tryz.underlying280,rfl⟩ <|
 .cons ⟨by kernel_rfl,by kernel_rfl,_,Tryz.underlying281,rfl⟩ <|
 .cons ⟨by kernel_rfl,by kernel_rfl,_,Tryz.underlying288,rfl⟩ <|
 .cons ⟨by kernel_rfl,by kernel_rfl,_,Tryz.underlying289,rfl⟩ <|
 .cons ⟨by kernel_rfl,by kernel_rfl,_,Tryz.underlying298,rfl⟩ <|
 .cons ⟨by kernel_rfl,by kernel_rfl,_,Tryz.underlying303,rfl⟩ <|
 .cons ⟨by kernel_rfl,by kernel_rfl,_,Tryz.underlying325,rfl⟩ <|
 .cons ⟨by kernel_rfl,by kernel_rfl,_,Tryz.underlying326,⟨rfl,rfl⟩⟩ <|
 .cons ⟨by kernel_rfl,by kernel_rfl,_,Tryz.underlying327,rfl⟩ <|
 .cons ⟨by kernel_rfl,by kernel_rfl,_,Tryz.underlying328,rfl⟩ <|
 .cons ⟨by kernel_rfl,by kernel_rfl,_,Tryz.underlying329,rfl⟩ <|
 .cons ⟨by kernel_rfl,by kernel_rfl,_,Tryz.underlying330,rfl⟩ <|
 .cons ⟨by kernel_rfl,by kernel_rfl,_,Tryz.underlying338,rfl⟩ <|
 .cons ⟨by kernel_rfl,by kernel_rfl,_,Tryz.underlying340,rfl⟩ <|
 .cons ⟨by kernel_rfl,by kernel_rfl,_,Tryz.underlying341,rfl⟩ <|
 .cons ⟨by kernel_rfl,by kernel_rfl,_,Tryz.underlying378,rfl⟩ <|
 .nil _
theorem Zal:Zrs Tryz.prog tab:=⟨ZJE,by kernel_rfl⟩
theorem Ya{N:Nat}{S0:Nat->Prop}{w0:ZaW}{fn:Func}{α:Type}{v r:α}(hf:some v=some r){F:α->V}(n:Nat){is:List It}{st:St}(ras:List RA)(bs:List Bool){obl:List Prop}(ho:Obl obl)(h:ZJD Tryz.prog N tab n is st ras bs [] [] [] fn.results.toList=some (F v,obl):=by kernel_rfl)(hp:(F v).pure=true:=by rfl):Good Tryz.prog N S0 w0 (bodyPost Tryz.prog fn (Post S0 w0 (F r))) is st:=by
 obtain rfl:=Option.some.inj hf;exact Zak Zal n ras bs [] [] [] ho h hp
theorem Yb{N:Nat}{S0:Nat->Prop}{w0:ZaW}{fn:Func}{α:Type}{v r:α}(hf:some v=some r){F:α->V}(n:Nat){is:List It}{st:St}(ras:List RA)(bs:List Bool)(fz:List Nat)(dh dn:List (Nat×List (Nat×C))){obl:List Prop}(ho:Obl obl)(h:ZJD Tryz.prog N tab n is st ras bs fz dh dn fn.results.toList=some (F v,obl):=by kernel_rfl)(hp:(F v).pure=true:=by rfl):Good Tryz.prog N S0 w0 (bodyPost Tryz.prog fn (Post S0 w0 (F r))) is st:=by
 obtain rfl:=Option.some.inj hf;exact Zak Zal n ras bs fz dh dn ho h hp
theorem Yc{N:Nat}{S0:Nat->Prop}{w0:ZaW}{fn:Func}{α:Type}{v r:α}(hf:some v=some r){F:α->V}{H:α->List (Nat×B)}(n:Nat){is:List It}{st:St}(ras:List RA)(bs:List Bool)(na:NA){obl:List Prop}(ho:Obl obl)(h:ZFs Tryz.prog N tab n is st ras bs na fn.results.toList=some (F v,H v,obl):=by kernel_rfl):Good Tryz.prog N S0 w0 (bodyPost Tryz.prog fn (ZbI S0 w0 (H r) (F r))) is st:=by
 obtain rfl:=Option.some.inj hf;exact Zbz Zal n ras bs na ho h
theorem Yd{N:Nat}{S0:Nat->Prop}{w0:ZaW}{fn:Func}{res:V}{h1:List (Nat×B)}(n:Nat){is:List It}{st:St}(ras:List RA)(bs:List Bool)(na:NA){obl:List Prop}(ho:Obl obl)(h:ZJe Tryz.prog N tab n is st ras bs na [100000] fn.results.toList=some (res,h1,obl):=by kernel_rfl):Good Tryz.prog N S0 w0 (bodyPost Tryz.prog fn (ZbI S0 w0 h1 res)) is st:=ZcG Zal n ras bs na [100000] ho h
theorem Yh{N:Nat}{S0:Nat->Prop}{w0:ZaW}{fn:Func}{pv:V}(n:Nat){is:List It}{st:St}(ras:List RA)(bs:List Bool)(ra:RA)(i:Nat)(pa:PA){obl:List Prop}(ho:Obl obl)(h:ZKK Tryz.prog N tab n is st ras bs ra i pa=some (pv,obl):=by kernel_rfl):Good Tryz.prog N S0 w0 (bodyPost Tryz.prog fn (ZwR S0 w0 pv)) is st:=ZaN Zal n is st ras bs ra i pa ho h
theorem Ye{N:Nat}{S0:Nat->Prop}{w0:ZaW}{Q:Exit->Act->World->Prop}(n:Nat){is:List It}{st:St}(ras:List RA)(bs:List Bool){it:List It}{s1:St}(na:NA){obl:List Prop}(ho:Obl obl)(hk:Good Tryz.prog N S0 w0 Q it s1)(h:toK Tryz.prog N tab n is st ras bs na=some (it,s1,obl):=by kernel_rfl)(hE:Ends Q:=by first|exact Post.ends|exact ZbI.ends|exact Znm.ends):Good Tryz.prog N S0 w0 Q is st:=ZaG Zal hE n ras bs na ho h hk
def Yi(l:List Nat):NA:=⟨[],[],[],[],[],l,[],[]⟩
abbrev Yj(x:Int):V:=.one (.lit (.int .i64 x))
abbrev Yk(x:Bool):V:=.one (.lit (.bool x))
abbrev Yl(l:List Zaf):V:=.one (cL 5 Zaf.c Zaf.d l)
abbrev Ym(l:List Zaa):V:=.one (cL 7 Zaa.c Zaa.d l)
abbrev Yn(l:List Zab):V:=.one (cL 10 Zab.c Zab.d l)
abbrev Yo(l:List Zae):V:=.one (cL 5 Zae.c Zae.d l)
theorem Yw{f:FuncId}{fn:Func}{c:Code}{N:Nat}{args:List V}{res:V}(hf:Tryz.prog.funcs[f]?=some fn)(h:∀S0 w0,Good Tryz.prog N S0 w0 (bodyPost Tryz.prog fn (Post S0 w0 res)) [.code c] (St.init args))(hb:fn.body=some c:=by rfl)(hn:(fn.name=="runtime.NumGoroutine")=false:=by rfl)(hN:fn.ntmps=N:=by rfl)(hl:Nat.ble args.length N=true:=by rfl):Zaz Tryz.prog f args res:=Zaz.of hf hb hn hN hl h
theorem Yx{f:FuncId}{fn:Func}{c:Code}{N:Nat}{h0:List (Nat×B)}{args:List V}{h1:List (Nat×B)}{res:V}(hf:Tryz.prog.funcs[f]?=some fn)(h:∀S0 w0,Good Tryz.prog N S0 w0 (bodyPost Tryz.prog fn (ZbI S0 w0 h1 res)) [.code c] (St.initH args h0))(hb:fn.body=some c:=by rfl)(hn:(fn.name=="runtime.NumGoroutine")=false:=by rfl)(hN:fn.ntmps=N:=by rfl)(hl:Nat.ble args.length N=true:=by rfl):Zdi Tryz.prog f h0 args h1 res:=Zdi.of hf hb hn hN hl h
theorem Yu{p q:Prop}[Decidable p][Decidable q]{α:Type}{x:Option α}{r:α}(h:need p (need q x)=some r):p/\q/\x=some r:=⟨(Zar h).1,(Zar (Zar h).2).1,(Zar (Zar h).2).2⟩
theorem Yv{α β γ:Type}{x:Option α}{g:α->Option β}{k:α->β->Option γ}{r:γ}(h:(x.bind fun y=>(g y).bind (k y))=some r):∃y z,x=some y/\g y=some z/\k y z=some r:=by
 obtain⟨y,a,h⟩:=Zac h;obtain⟨z,b,h⟩:=Zac h;exact⟨y,z,a,b,h⟩
abbrev Yy:ByteArray:=⟨#[0,1,2,2,3,3,3,3,4,4,4,4,4,4,4,4,5,5,5,5,5,5,5,5,5,5,5,5,5,5,5,5,6,6,6,6,6,6,6,6,6,6,6,6,6,6,6,6,6,6,6,6,6,6,6,6,6,6,6,6,6,6,6,6,7,7,7,7,7,7,7,7,7,7,7,7,7,7,7,7,7,7,7,7,7,7,7,7,7,7,7,7,7,7,7,7,7,7,7,7,7,7,7,7,7,7,7,7,7,7,7,7,7,7,7,7,7,7,7,7,7,7,7,7,7,7,7,7,8,8,8,8,8,8,8,8,8,8,8,8,8,8,8,8,8,8,8,8,8,8,8,8,8,8,8,8,8,8,8,8,8,8,8,8,8,8,8,8,8,8,8,8,8,8,8,8,8,8,8,8,8,8,8,8,8,8,8,8,8,8,8,8,8,8,8,8,8,8,8,8,8,8,8,8,8,8,8,8,8,8,8,8,8,8,8,8,8,8,8,8,8,8,8,8,8,8,8,8,8,8,8,8,8,8,8,8,8,8,8,8,8,8,8,8,8,8,8,8,8,8,8,8,8,8,8,8]⟩
abbrev Yp:=Zaz Tryz.prog
abbrev Yq:=Zdi Tryz.prog
abbrev Yr:=ZfZ Tryz.prog
abbrev Ys(N:Nat)(S0:Nat->Prop)(w0:ZaW)(f:Func)(r:V)(p:List Nat)(s:St):Prop:=Good Tryz.prog N S0 w0 (bodyPost Tryz.prog f (Post S0 w0 r)) (at_ p (Zbb f)) s
abbrev Yt(N:Nat)(S0:Nat->Prop)(w0:ZaW)(f:Func)(h:List (Nat×B))(r:V)(p:List Nat)(s:St):Prop:=Good Tryz.prog N S0 w0 (bodyPost Tryz.prog f (ZbI S0 w0 h r)) (at_ p (Zbb f)) s
end Go.Proofs.YtdjfoojllbfcgaaGreat
