import Derived.Test.YtdjfoojllbfcgaaGreatProg
import Derived.Shelf.Spec.SlicesInsertGrow
import Derived.Lib.Hide
import Derived.Test.YtdjfoojllbfcgaaGreatLPlA
import Derived.Test.YtdjfoojllbfcgaaGreatLAmPy
namespace Go.Proofs.YtdjfoojllbfcgaaGreat
open Go.RowKit Go.Lib Go.Shelf
set_option linter.unusedVariables false
set_option maxRecDepth 100000
structure Zdv where
 fGroup:Int
 fPing:Int
 fWork:Int
 fTime:Int
 deriving DecidableEq
def Zdv.d:Zdv:=⟨(0:Int),(0:Int),(0:Int),(0:Int)⟩
def Zdv.c(a:Zdv):List C:=[.lit (.int .i64 a.fGroup),.lit (.int .i64 a.fPing),.lit (.int .i64 a.fWork),.lit (.int .i64 a.fTime)]
def Zdv.ok(a:Zdv):Prop:=(okI .i64) a.fGroup∧(okI .i64) a.fPing∧(okI .i64) a.fWork∧(okI .i64) a.fTime∧True
theorem Zsu:Opn Tryz.prog 24 Zdv.c Zdv.ok:=ZgP (ea:=(cP (cI .i64) (cP (cI .i64) (cP (cI .i64) (cP (cI .i64) cU))))) (oa:=(okP (okI .i64) (okP (okI .i64) (okP (okI .i64) (okP (okI .i64) okU))))) (N:=4) Tryz.underlying24 (by kernel_rfl) (ZaY (sz:=1) rfl rfl (by kernel_rfl) (ZdD Tryz.underlying3) (ZaY (sz:=1) rfl rfl (by kernel_rfl) (ZdD Tryz.underlying3) (ZaY (sz:=1) rfl rfl (by kernel_rfl) (ZdD Tryz.underlying3) (ZaY (sz:=1) rfl rfl (by kernel_rfl) (ZdD Tryz.underlying3) ZiP)))) (fun(a:Int×Int×Int×Int×Unit)=>(⟨a.1,a.2.1,a.2.2.1,a.2.2.2.1⟩ : Zdv)) (fun _=>rfl) (fun _ h=>h)
structure ZaB where
 fMaxIn:Int
 fMaxOut:Int
 fShards:Int
 fMaxBans:Int
 fMaxBook:Int
 fSecret:Int
 fQuota:Zdv
 fHalf:Int
 fLimit:Int
 fBanFor:Int
 fBase:Int
 fCap:Int
 fJitter:Int
 deriving DecidableEq
def ZaB.d:ZaB:=⟨(0:Int),(0:Int),(0:Int),(0:Int),(0:Int),(0:Int),Zdv.d,(0:Int),(0:Int),(0:Int),(0:Int),(0:Int),(0:Int)⟩
def ZaB.c(a:ZaB):List C:=[.lit (.int .i64 a.fMaxIn),.lit (.int .i64 a.fMaxOut),.lit (.int .i64 a.fShards),.lit (.int .i64 a.fMaxBans),.lit (.int .i64 a.fMaxBook),.lit (.int .u64 a.fSecret),.lit (.int .i64 a.fQuota.fGroup),.lit (.int .i64 a.fQuota.fPing),.lit (.int .i64 a.fQuota.fWork),.lit (.int .i64 a.fQuota.fTime),.lit (.int .i64 a.fHalf),.lit (.int .i64 a.fLimit),.lit (.int .i64 a.fBanFor),.lit (.int .i64 a.fBase),.lit (.int .i64 a.fCap),.lit (.int .i64 a.fJitter)]
def ZaB.ok(a:ZaB):Prop:=(okI .i64) a.fMaxIn∧(okI .i64) a.fMaxOut∧(okI .i64) a.fShards∧(okI .i64) a.fMaxBans∧(okI .i64) a.fMaxBook∧(okI .u64) a.fSecret∧Zdv.ok a.fQuota∧(okI .i64) a.fHalf∧(okI .i64) a.fLimit∧(okI .i64) a.fBanFor∧(okI .i64) a.fBase∧(okI .i64) a.fCap∧(okI .i64) a.fJitter∧True
theorem ZtI:Opn Tryz.prog 26 ZaB.c ZaB.ok:=ZgP (ea:=(cP (cI .i64) (cP (cI .i64) (cP (cI .i64) (cP (cI .i64) (cP (cI .i64) (cP (cI .u64) (cP Zdv.c (cP (cI .i64) (cP (cI .i64) (cP (cI .i64) (cP (cI .i64) (cP (cI .i64) (cP (cI .i64) cU)))))))))))))) (oa:=(okP (okI .i64) (okP (okI .i64) (okP (okI .i64) (okP (okI .i64) (okP (okI .i64) (okP (okI .u64) (okP Zdv.ok (okP (okI .i64) (okP (okI .i64) (okP (okI .i64) (okP (okI .i64) (okP (okI .i64) (okP (okI .i64) okU)))))))))))))) (N:=16) Tryz.underlying26 (by kernel_rfl) (ZaY (sz:=1) rfl rfl (by kernel_rfl) (ZdD Tryz.underlying3) (ZaY (sz:=1) rfl rfl (by kernel_rfl) (ZdD Tryz.underlying3) (ZaY (sz:=1) rfl rfl (by kernel_rfl) (ZdD Tryz.underlying3) (ZaY (sz:=1) rfl rfl (by kernel_rfl) (ZdD Tryz.underlying3) (ZaY (sz:=1) rfl rfl (by kernel_rfl) (ZdD Tryz.underlying3) (ZaY (sz:=1) rfl rfl (by kernel_rfl) (ZdD Tryz.underlying22) (ZaY (sz:=4) rfl rfl (by kernel_rfl) Zsu (ZaY (sz:=1) rfl rfl (by kernel_rfl) (ZdD Tryz.underlying3) (ZaY (sz:=1) rfl rfl (by kernel_rfl) (ZdD Tryz.underlying3) (ZaY (sz:=1) rfl rfl (by kernel_rfl) (ZdD Tryz.underlying3) (ZaY (sz:=1) rfl rfl (by kernel_rfl) (ZdD Tryz.underlying3) (ZaY (sz:=1) rfl rfl (by kernel_rfl) (ZdD Tryz.underlying3) (ZaY (sz:=1) rfl rfl (by kernel_rfl) (ZdD Tryz.underlying3) ZiP))))))))))))) (fun(a:Int×Int×Int×Int×Int×Int×Zdv×Int×Int×Int×Int×Int×Int×Unit)=>(⟨a.1,a.2.1,a.2.2.1,a.2.2.2.1,a.2.2.2.2.1,a.2.2.2.2.2.1,a.2.2.2.2.2.2.1,a.2.2.2.2.2.2.2.1,a.2.2.2.2.2.2.2.2.1,a.2.2.2.2.2.2.2.2.2.1,a.2.2.2.2.2.2.2.2.2.2.1,a.2.2.2.2.2.2.2.2.2.2.2.1,a.2.2.2.2.2.2.2.2.2.2.2.2.1⟩ : ZaB)) (fun _=>rfl) (fun _ h=>h)
structure Zaj where
 fV6:Bool
 fHi:Int
 fLo:Int
 deriving DecidableEq
def Zaj.d:Zaj:=⟨false,(0:Int),(0:Int)⟩
def Zaj.c(a:Zaj):List C:=[.lit (.bool a.fV6),.lit (.int .u64 a.fHi),.lit (.int .u64 a.fLo)]
def Zaj.ok(a:Zaj):Prop:=okB a.fV6∧(okI .u64) a.fHi∧(okI .u64) a.fLo∧True
theorem Zpf:Opn Tryz.prog 28 Zaj.c Zaj.ok:=ZgP (ea:=(cP cB (cP (cI .u64) (cP (cI .u64) cU)))) (oa:=(okP okB (okP (okI .u64) (okP (okI .u64) okU)))) (N:=3) Tryz.underlying28 (by kernel_rfl) (ZaY (sz:=1) rfl rfl (by kernel_rfl) (Zvd Tryz.underlying4) (ZaY (sz:=1) rfl rfl (by kernel_rfl) (ZdD Tryz.underlying22) (ZaY (sz:=1) rfl rfl (by kernel_rfl) (ZdD Tryz.underlying22) ZiP))) (fun(a:Bool×Int×Int×Unit)=>(⟨a.1,a.2.1,a.2.2.1⟩ : Zaj)) (fun _=>rfl) (fun _ h=>h)
structure Zag where
 fAddr:Zaj
 fPort:Int
 deriving DecidableEq
def Zag.d:Zag:=⟨Zaj.d,(0:Int)⟩
def Zag.c(a:Zag):List C:=[.lit (.bool a.fAddr.fV6),.lit (.int .u64 a.fAddr.fHi),.lit (.int .u64 a.fAddr.fLo),.lit (.int .i64 a.fPort)]
def Zag.ok(a:Zag):Prop:=Zaj.ok a.fAddr∧(okI .i64) a.fPort∧True
theorem ZmU:Opn Tryz.prog 30 Zag.c Zag.ok:=ZgP (ea:=(cP Zaj.c (cP (cI .i64) cU))) (oa:=(okP Zaj.ok (okP (okI .i64) okU))) (N:=4) Tryz.underlying30 (by kernel_rfl) (ZaY (sz:=3) rfl rfl (by kernel_rfl) Zpf (ZaY (sz:=1) rfl rfl (by kernel_rfl) (ZdD Tryz.underlying3) ZiP)) (fun(a:Zaj×Int×Unit)=>(⟨a.1,a.2.1⟩ : Zag)) (fun _=>rfl) (fun _ h=>h)
structure Zas where
 fAddr:Zaj
 fBits:Int
 deriving DecidableEq
def Zas.d:Zas:=⟨Zaj.d,(0:Int)⟩
def Zas.c(a:Zas):List C:=[.lit (.bool a.fAddr.fV6),.lit (.int .u64 a.fAddr.fHi),.lit (.int .u64 a.fAddr.fLo),.lit (.int .i64 a.fBits)]
def Zas.ok(a:Zas):Prop:=Zaj.ok a.fAddr∧(okI .i64) a.fBits∧True
theorem ZpS:Opn Tryz.prog 32 Zas.c Zas.ok:=ZgP (ea:=(cP Zaj.c (cP (cI .i64) cU))) (oa:=(okP Zaj.ok (okP (okI .i64) okU))) (N:=4) Tryz.underlying32 (by kernel_rfl) (ZaY (sz:=3) rfl rfl (by kernel_rfl) Zpf (ZaY (sz:=1) rfl rfl (by kernel_rfl) (ZdD Tryz.underlying3) ZiP)) (fun(a:Zaj×Int×Unit)=>(⟨a.1,a.2.1⟩ : Zas)) (fun _=>rfl) (fun _ h=>h)
structure ZaA where
 fKind:Int
 fEnd:Zag
 fNet:Zas
 fNow:Int
 fNum:Int
 fGood:Bool
 deriving DecidableEq
def ZaA.d:ZaA:=⟨(0:Int),Zag.d,Zas.d,(0:Int),(0:Int),false⟩
def ZaA.c(a:ZaA):List C:=[.lit (.int .i64 a.fKind),.lit (.bool a.fEnd.fAddr.fV6),.lit (.int .u64 a.fEnd.fAddr.fHi),.lit (.int .u64 a.fEnd.fAddr.fLo),.lit (.int .i64 a.fEnd.fPort),.lit (.bool a.fNet.fAddr.fV6),.lit (.int .u64 a.fNet.fAddr.fHi),.lit (.int .u64 a.fNet.fAddr.fLo),.lit (.int .i64 a.fNet.fBits),.lit (.int .i64 a.fNow),.lit (.int .i64 a.fNum),.lit (.bool a.fGood)]
def ZaA.ok(a:ZaA):Prop:=(okI .i64) a.fKind∧Zag.ok a.fEnd∧Zas.ok a.fNet∧(okI .i64) a.fNow∧(okI .i64) a.fNum∧okB a.fGood∧True
theorem ZtJ:Opn Tryz.prog 34 ZaA.c ZaA.ok:=ZgP (ea:=(cP (cI .i64) (cP Zag.c (cP Zas.c (cP (cI .i64) (cP (cI .i64) (cP cB cU))))))) (oa:=(okP (okI .i64) (okP Zag.ok (okP Zas.ok (okP (okI .i64) (okP (okI .i64) (okP okB okU))))))) (N:=12) Tryz.underlying34 (by kernel_rfl) (ZaY (sz:=1) rfl rfl (by kernel_rfl) (ZdD Tryz.underlying3) (ZaY (sz:=4) rfl rfl (by kernel_rfl) ZmU (ZaY (sz:=4) rfl rfl (by kernel_rfl) ZpS (ZaY (sz:=1) rfl rfl (by kernel_rfl) (ZdD Tryz.underlying3) (ZaY (sz:=1) rfl rfl (by kernel_rfl) (ZdD Tryz.underlying3) (ZaY (sz:=1) rfl rfl (by kernel_rfl) (Zvd Tryz.underlying4) ZiP)))))) (fun(a:Int×Zag×Zas×Int×Int×Bool×Unit)=>(⟨a.1,a.2.1,a.2.2.1,a.2.2.2.1,a.2.2.2.2.1,a.2.2.2.2.2.1⟩ : ZaA)) (fun _=>rfl) (fun _ h=>h)
structure Zam where
 fPoints:Int
 fAt:Int
 deriving DecidableEq
def Zam.d:Zam:=⟨(0:Int),(0:Int)⟩
def Zam.c(a:Zam):List C:=[.lit (.int .i64 a.fPoints),.lit (.int .i64 a.fAt)]
def Zam.ok(a:Zam):Prop:=(okI .i64) a.fPoints∧(okI .i64) a.fAt∧True
theorem Zst:Opn Tryz.prog 42 Zam.c Zam.ok:=ZgP (ea:=(cP (cI .i64) (cP (cI .i64) cU))) (oa:=(okP (okI .i64) (okP (okI .i64) okU))) (N:=2) Tryz.underlying42 (by kernel_rfl) (ZaY (sz:=1) rfl rfl (by kernel_rfl) (ZdD Tryz.underlying3) (ZaY (sz:=1) rfl rfl (by kernel_rfl) (ZdD Tryz.underlying3) ZiP)) (fun(a:Int×Int×Unit)=>(⟨a.1,a.2.1⟩ : Zam)) (fun _=>rfl) (fun _ h=>h)
structure Zaa where
 fEnd:Zag
 fIn:Bool
 fSince:Int
 fScore:Zam
 fPing:Int
 fWork:Int
 deriving DecidableEq
def Zaa.d:Zaa:=⟨Zag.d,false,(0:Int),Zam.d,(0:Int),(0:Int)⟩
def Zaa.c(a:Zaa):List C:=[.lit (.bool a.fEnd.fAddr.fV6),.lit (.int .u64 a.fEnd.fAddr.fHi),.lit (.int .u64 a.fEnd.fAddr.fLo),.lit (.int .i64 a.fEnd.fPort),.lit (.bool a.fIn),.lit (.int .i64 a.fSince),.lit (.int .i64 a.fScore.fPoints),.lit (.int .i64 a.fScore.fAt),.lit (.int .i64 a.fPing),.lit (.int .i64 a.fWork)]
def Zaa.ok(a:Zaa):Prop:=Zag.ok a.fEnd∧okB a.fIn∧(okI .i64) a.fSince∧Zam.ok a.fScore∧(okI .i64) a.fPing∧(okI .i64) a.fWork∧True
theorem ZtH:Opn Tryz.prog 44 Zaa.c Zaa.ok:=ZgP (ea:=(cP Zag.c (cP cB (cP (cI .i64) (cP Zam.c (cP (cI .i64) (cP (cI .i64) cU))))))) (oa:=(okP Zag.ok (okP okB (okP (okI .i64) (okP Zam.ok (okP (okI .i64) (okP (okI .i64) okU))))))) (N:=10) Tryz.underlying44 (by kernel_rfl) (ZaY (sz:=4) rfl rfl (by kernel_rfl) ZmU (ZaY (sz:=1) rfl rfl (by kernel_rfl) (Zvd Tryz.underlying4) (ZaY (sz:=1) rfl rfl (by kernel_rfl) (ZdD Tryz.underlying3) (ZaY (sz:=2) rfl rfl (by kernel_rfl) Zst (ZaY (sz:=1) rfl rfl (by kernel_rfl) (ZdD Tryz.underlying3) (ZaY (sz:=1) rfl rfl (by kernel_rfl) (ZdD Tryz.underlying3) ZiP)))))) (fun(a:Zag×Bool×Int×Zam×Int×Int×Unit)=>(⟨a.1,a.2.1,a.2.2.1,a.2.2.2.1,a.2.2.2.2.1,a.2.2.2.2.2.1⟩ : Zaa)) (fun _=>rfl) (fun _ h=>h)
structure Zab where
 fNet:Zas
 fUntil:Int
 deriving DecidableEq
def Zab.d:Zab:=⟨Zas.d,(0:Int)⟩
def Zab.c(a:Zab):List C:=[.lit (.bool a.fNet.fAddr.fV6),.lit (.int .u64 a.fNet.fAddr.fHi),.lit (.int .u64 a.fNet.fAddr.fLo),.lit (.int .i64 a.fNet.fBits),.lit (.int .i64 a.fUntil)]
def Zab.ok(a:Zab):Prop:=Zas.ok a.fNet∧(okI .i64) a.fUntil∧True
theorem Zve:Opn Tryz.prog 146 Zab.c Zab.ok:=ZgP (ea:=(cP Zas.c (cP (cI .i64) cU))) (oa:=(okP Zas.ok (okP (okI .i64) okU))) (N:=5) Tryz.underlying146 (by kernel_rfl) (ZaY (sz:=4) rfl rfl (by kernel_rfl) ZpS (ZaY (sz:=1) rfl rfl (by kernel_rfl) (ZdD Tryz.underlying3) ZiP)) (fun(a:Zas×Int×Unit)=>(⟨a.1,a.2.1⟩ : Zab)) (fun _=>rfl) (fun _ h=>h)
structure Zac where
 fEnd:Zag
 fState:Int
 fFails:Int
 fNext:Int
 deriving DecidableEq
def Zac.d:Zac:=⟨Zag.d,(0:Int),(0:Int),(0:Int)⟩
def Zac.c(a:Zac):List C:=[.lit (.bool a.fEnd.fAddr.fV6),.lit (.int .u64 a.fEnd.fAddr.fHi),.lit (.int .u64 a.fEnd.fAddr.fLo),.lit (.int .i64 a.fEnd.fPort),.lit (.int .i64 a.fState),.lit (.int .i64 a.fFails),.lit (.int .i64 a.fNext)]
def Zac.ok(a:Zac):Prop:=Zag.ok a.fEnd∧(okI .i64) a.fState∧(okI .i64) a.fFails∧(okI .i64) a.fNext∧True
theorem Zsv:Opn Tryz.prog 106 Zac.c Zac.ok:=ZgP (ea:=(cP Zag.c (cP (cI .i64) (cP (cI .i64) (cP (cI .i64) cU))))) (oa:=(okP Zag.ok (okP (okI .i64) (okP (okI .i64) (okP (okI .i64) okU))))) (N:=7) Tryz.underlying106 (by kernel_rfl) (ZaY (sz:=4) rfl rfl (by kernel_rfl) ZmU (ZaY (sz:=1) rfl rfl (by kernel_rfl) (ZdD Tryz.underlying3) (ZaY (sz:=1) rfl rfl (by kernel_rfl) (ZdD Tryz.underlying3) (ZaY (sz:=1) rfl rfl (by kernel_rfl) (ZdD Tryz.underlying3) ZiP)))) (fun(a:Zag×Int×Int×Int×Unit)=>(⟨a.1,a.2.1,a.2.2.1,a.2.2.2.1⟩ : Zac)) (fun _=>rfl) (fun _ h=>h)
structure Zae where
 fN:Int
 fPeer:Zaa
 fBans:(List Zab)
 fBook:(List Zac)
def Zae.d:Zae:=⟨(0:Int),Zaa.d,([]:(List Zab)),([]:(List Zac))⟩
def Zae.c(a:Zae):List C:=[.lit (.int .i64 a.fN),.lit (.bool a.fPeer.fEnd.fAddr.fV6),.lit (.int .u64 a.fPeer.fEnd.fAddr.fHi),.lit (.int .u64 a.fPeer.fEnd.fAddr.fLo),.lit (.int .i64 a.fPeer.fEnd.fPort),.lit (.bool a.fPeer.fIn),.lit (.int .i64 a.fPeer.fSince),.lit (.int .i64 a.fPeer.fScore.fPoints),.lit (.int .i64 a.fPeer.fScore.fAt),.lit (.int .i64 a.fPeer.fPing),.lit (.int .i64 a.fPeer.fWork),cL 5 Zab.c Zab.d a.fBans,cL 7 Zac.c Zac.d a.fBook]
def Zae.ok(a:Zae):Prop:=(okI .i64) a.fN∧Zaa.ok a.fPeer∧(okL Zab.ok) a.fBans∧(okL Zac.ok) a.fBook∧True
structure Zav where
 fKind:Int
 fShard:Int
 fSlot:Int
 deriving DecidableEq
def Zav.d:Zav:=⟨(0:Int),(0:Int),(0:Int)⟩
def Zav.c(a:Zav):List C:=[.lit (.int .i64 a.fKind),.lit (.int .i64 a.fShard),.lit (.int .i64 a.fSlot)]
def Zav.ok(a:Zav):Prop:=(okI .i64) a.fKind∧(okI .i64) a.fShard∧(okI .i64) a.fSlot∧True
structure ZaE where
 fKind:Int
 fLock:Int
 fLoc:Zav
 fOld:Int
 fNew:Int
 fVal:Zae
 fMark:Bool
def ZaE.d:ZaE:=⟨(0:Int),(0:Int),Zav.d,(0:Int),(0:Int),Zae.d,false⟩
def ZaE.c(a:ZaE):List C:=[.lit (.int .i64 a.fKind),.lit (.int .i64 a.fLock),.lit (.int .i64 a.fLoc.fKind),.lit (.int .i64 a.fLoc.fShard),.lit (.int .i64 a.fLoc.fSlot),.lit (.int .i64 a.fOld),.lit (.int .i64 a.fNew),.lit (.int .i64 a.fVal.fN),.lit (.bool a.fVal.fPeer.fEnd.fAddr.fV6),.lit (.int .u64 a.fVal.fPeer.fEnd.fAddr.fHi),.lit (.int .u64 a.fVal.fPeer.fEnd.fAddr.fLo),.lit (.int .i64 a.fVal.fPeer.fEnd.fPort),.lit (.bool a.fVal.fPeer.fIn),.lit (.int .i64 a.fVal.fPeer.fSince),.lit (.int .i64 a.fVal.fPeer.fScore.fPoints),.lit (.int .i64 a.fVal.fPeer.fScore.fAt),.lit (.int .i64 a.fVal.fPeer.fPing),.lit (.int .i64 a.fVal.fPeer.fWork),cL 5 Zab.c Zab.d a.fVal.fBans,cL 7 Zac.c Zac.d a.fVal.fBook,.lit (.bool a.fMark)]
def ZaE.ok(a:ZaE):Prop:=(okI .i64) a.fKind∧(okI .i64) a.fLock∧Zav.ok a.fLoc∧(okI .i64) a.fOld∧(okI .i64) a.fNew∧Zae.ok a.fVal∧okB a.fMark∧True
structure Zaq where
 fCode:Int
 fEnd:Zag
 fN:Int
 fUntil:Int
 fPeers:(List Zaa)
def Zaq.d:Zaq:=⟨(0:Int),Zag.d,(0:Int),(0:Int),([]:(List Zaa))⟩
def Zaq.c(a:Zaq):List C:=[.lit (.int .i64 a.fCode),.lit (.bool a.fEnd.fAddr.fV6),.lit (.int .u64 a.fEnd.fAddr.fHi),.lit (.int .u64 a.fEnd.fAddr.fLo),.lit (.int .i64 a.fEnd.fPort),.lit (.int .i64 a.fN),.lit (.int .i64 a.fUntil),cL 10 Zaa.c Zaa.d a.fPeers]
def Zaq.ok(a:Zaq):Prop:=(okI .i64) a.fCode∧Zag.ok a.fEnd∧(okI .i64) a.fN∧(okI .i64) a.fUntil∧(okL Zaa.ok) a.fPeers∧True
structure ZaT where
 fOp:ZaE
 fReply:Zaq
 fDone:Bool
 fBroken:Bool
def ZaT.d:ZaT:=⟨ZaE.d,Zaq.d,false,false⟩
def ZaT.c(a:ZaT):List C:=[.lit (.int .i64 a.fOp.fKind),.lit (.int .i64 a.fOp.fLock),.lit (.int .i64 a.fOp.fLoc.fKind),.lit (.int .i64 a.fOp.fLoc.fShard),.lit (.int .i64 a.fOp.fLoc.fSlot),.lit (.int .i64 a.fOp.fOld),.lit (.int .i64 a.fOp.fNew),.lit (.int .i64 a.fOp.fVal.fN),.lit (.bool a.fOp.fVal.fPeer.fEnd.fAddr.fV6),.lit (.int .u64 a.fOp.fVal.fPeer.fEnd.fAddr.fHi),.lit (.int .u64 a.fOp.fVal.fPeer.fEnd.fAddr.fLo),.lit (.int .i64 a.fOp.fVal.fPeer.fEnd.fPort),.lit (.bool a.fOp.fVal.fPeer.fIn),.lit (.int .i64 a.fOp.fVal.fPeer.fSince),.lit (.int .i64 a.fOp.fVal.fPeer.fScore.fPoints),.lit (.int .i64 a.fOp.fVal.fPeer.fScore.fAt),.lit (.int .i64 a.fOp.fVal.fPeer.fPing),.lit (.int .i64 a.fOp.fVal.fPeer.fWork),cL 5 Zab.c Zab.d a.fOp.fVal.fBans,cL 7 Zac.c Zac.d a.fOp.fVal.fBook,.lit (.bool a.fOp.fMark),.lit (.int .i64 a.fReply.fCode),.lit (.bool a.fReply.fEnd.fAddr.fV6),.lit (.int .u64 a.fReply.fEnd.fAddr.fHi),.lit (.int .u64 a.fReply.fEnd.fAddr.fLo),.lit (.int .i64 a.fReply.fEnd.fPort),.lit (.int .i64 a.fReply.fN),.lit (.int .i64 a.fReply.fUntil),cL 10 Zaa.c Zaa.d a.fReply.fPeers,.lit (.bool a.fDone),.lit (.bool a.fBroken)]
def ZaT.ok(a:ZaT):Prop:=ZaE.ok a.fOp∧Zaq.ok a.fReply∧okB a.fDone∧okB a.fBroken∧True
structure Zap where
 fBans:(List Zab)
 fBook:(List Zac)
 fPeers:(List Zaa)
def Zap.d:Zap:=⟨([]:(List Zab)),([]:(List Zac)),([]:(List Zaa))⟩
def Zap.c(a:Zap):List C:=[cL 5 Zab.c Zab.d a.fBans,cL 7 Zac.c Zac.d a.fBook,cL 10 Zaa.c Zaa.d a.fPeers]
def Zap.ok(a:Zap):Prop:=(okL Zab.ok) a.fBans∧(okL Zac.ok) a.fBook∧(okL Zaa.ok) a.fPeers∧True
theorem Zss:Opn Tryz.prog 65 Zap.c Zap.ok:=ZgP (ea:=(cP (cLs 5 Zab.c Zab.d) (cP (cLs 7 Zac.c Zac.d) (cP (cLs 10 Zaa.c Zaa.d) cU)))) (oa:=(okP (okL Zab.ok) (okP (okL Zac.ok) (okP (okL Zaa.ok) okU)))) (N:=3) Tryz.underlying65 (by kernel_rfl) (ZaY (sz:=1) rfl rfl (by kernel_rfl) (Zsr (d:=Zab.d) Tryz.underlying45 (by kernel_rfl) (by decide) (fun _=>rfl) Zve) (ZaY (sz:=1) rfl rfl (by kernel_rfl) (Zsr (d:=Zac.d) Tryz.underlying46 (by kernel_rfl) (by decide) (fun _=>rfl) Zsv) (ZaY (sz:=1) rfl rfl (by kernel_rfl) (Zsr (d:=Zaa.d) Tryz.underlying54 (by kernel_rfl) (by decide) (fun _=>rfl) ZtH) ZiP))) (fun(a:(List Zab)×(List Zac)×(List Zaa)×Unit)=>(⟨a.1,a.2.1,a.2.2.1⟩ : Zap)) (fun _=>rfl) (fun _ h=>h)
structure Zad where
 fSize:Int
 fSlots:(List Zaa)
def Zad.d:Zad:=⟨(0:Int),([]:(List Zaa))⟩
def Zad.c(a:Zad):List C:=[.lit (.int .i64 a.fSize),cL 10 Zaa.c Zaa.d a.fSlots]
def Zad.ok(a:Zad):Prop:=(okI .i64) a.fSize∧(okL Zaa.ok) a.fSlots∧True
structure Zat where
 fBy:Int
 fShare:(List Int)
def Zat.d:Zat:=⟨(0:Int),([]:(List Int))⟩
def Zat.c(a:Zat):List C:=[.lit (.int .i64 a.fBy),cL 1 (cI .i64) (0:Int) a.fShare]
def Zat.ok(a:Zat):Prop:=(okI .i64) a.fBy∧(okL (okI .i64)) a.fShare∧True
structure ZaC where
 fIn:Int
 fOut:Int
 fBans:(List Zab)
 fBook:(List Zac)
 fShards:(List Zad)
 fLocks:(List Zat)
def ZaC.d:ZaC:=⟨(0:Int),(0:Int),([]:(List Zab)),([]:(List Zac)),([]:(List Zad)),([]:(List Zat))⟩
def ZaC.c(a:ZaC):List C:=[.lit (.int .i64 a.fIn),.lit (.int .i64 a.fOut),cL 5 Zab.c Zab.d a.fBans,cL 7 Zac.c Zac.d a.fBook,cL 2 Zad.c Zad.d a.fShards,cL 2 Zat.c Zat.d a.fLocks]
def ZaC.ok(a:ZaC):Prop:=(okI .i64) a.fIn∧(okI .i64) a.fOut∧(okL Zab.ok) a.fBans∧(okL Zac.ok) a.fBook∧(okL Zad.ok) a.fShards∧(okL Zat.ok) a.fLocks∧True
structure Zax where
 fc:ZaB
 fx:ZaA
 deriving DecidableEq
def Zax.d:Zax:=⟨ZaB.d,ZaA.d⟩
def Zax.c(a:Zax):List C:=[.lit (.int .i64 a.fc.fMaxIn),.lit (.int .i64 a.fc.fMaxOut),.lit (.int .i64 a.fc.fShards),.lit (.int .i64 a.fc.fMaxBans),.lit (.int .i64 a.fc.fMaxBook),.lit (.int .u64 a.fc.fSecret),.lit (.int .i64 a.fc.fQuota.fGroup),.lit (.int .i64 a.fc.fQuota.fPing),.lit (.int .i64 a.fc.fQuota.fWork),.lit (.int .i64 a.fc.fQuota.fTime),.lit (.int .i64 a.fc.fHalf),.lit (.int .i64 a.fc.fLimit),.lit (.int .i64 a.fc.fBanFor),.lit (.int .i64 a.fc.fBase),.lit (.int .i64 a.fc.fCap),.lit (.int .i64 a.fc.fJitter),.lit (.int .i64 a.fx.fKind),.lit (.bool a.fx.fEnd.fAddr.fV6),.lit (.int .u64 a.fx.fEnd.fAddr.fHi),.lit (.int .u64 a.fx.fEnd.fAddr.fLo),.lit (.int .i64 a.fx.fEnd.fPort),.lit (.bool a.fx.fNet.fAddr.fV6),.lit (.int .u64 a.fx.fNet.fAddr.fHi),.lit (.int .u64 a.fx.fNet.fAddr.fLo),.lit (.int .i64 a.fx.fNet.fBits),.lit (.int .i64 a.fx.fNow),.lit (.int .i64 a.fx.fNum),.lit (.bool a.fx.fGood)]
def Zax.ok(a:Zax):Prop:=ZaB.ok a.fc∧ZaA.ok a.fx∧True
inductive ZgD where
 |c67 (e:Zax)
 |c68 (e:Zax)
 |c69 (e:Zax)
 |c70 (e:Zax)
def ZgD.c:ZgD→C | .c67 e=>.clo (.func 67) 1 0 (fun i=>([.agv 28 (fun j=>(Zax.c e).getD j .junk)]:List C).getD i .junk) (fun i=>([]:List C).getD i .junk) | .c68 e=>.clo (.func 68) 1 0 (fun i=>([.agv 28 (fun j=>(Zax.c e).getD j .junk)]:List C).getD i .junk) (fun i=>([]:List C).getD i .junk) | .c69 e=>.clo (.func 69) 1 0 (fun i=>([.agv 28 (fun j=>(Zax.c e).getD j .junk)]:List C).getD i .junk) (fun i=>([]:List C).getD i .junk) | .c70 e=>.clo (.func 70) 1 0 (fun i=>([.agv 28 (fun j=>(Zax.c e).getD j .junk)]:List C).getD i .junk) (fun i=>([]:List C).getD i .junk)
structure Zan where
 fgot:(List Zae)
def Zan.d:Zan:=⟨([]:(List Zae))⟩
def Zan.c(a:Zan):List C:=[cLn 13 Zae.c Zae.d a.fgot]
inductive Tout (α:Type) where
 |ret (x:α) (g:Zan)
 |pan (op:ZaE)
 |bad (s:ByteArray)
def pvOf{α:Type} : {x:Tout α}→{e:Option (Tout α)}→e=some x→V | .ret _ _,_,_=>.one .junk | .pan op,_,_=>.one (.ifa 111 21 (fun i=>(ZaE.c op).getD i .junk)) | .bad s,_,_=>.one (.ifc 9 (.lit (.string s)))
def oc{α:Type}(v:α→V):Tout α→Outc | .ret x g=>.ret [(100000,.box (Zan.c g))] (v x) | .pan op=>.pan (.one (.ifa 111 21 (fun i=>(ZaE.c op).getD i .junk))) | .bad s=>.pan (.one (.ifc 9 (.lit (.string s))))
theorem ZbQ : Zty Tryz.prog 112 "Free" 462 := fun x w => by kernel_rfl
theorem Zfr : ZyO Tryz.prog 112 "Free" := fun x w => by kernel_rfl
theorem Zik : Zty Tryz.prog 112 "Load" 463 := fun x w => by kernel_rfl
theorem Zup : ZyO Tryz.prog 112 "Load" := fun x w => by kernel_rfl
theorem ZjR : Zty Tryz.prog 112 "Lock" 464 := fun x w => by kernel_rfl
theorem ZAC : ZyO Tryz.prog 112 "Lock" := fun x w => by kernel_rfl
theorem ZwB : Zty Tryz.prog 112 "Pass" 465 := fun x w => by kernel_rfl
theorem Zhr : Zty Tryz.prog 112 "Store" 467 := fun x w => by kernel_rfl
theorem ZmW : ZyO Tryz.prog 112 "Store" := fun x w => by kernel_rfl
theorem ZwA : Zty Tryz.prog 112 "Swap" 468 := fun x w => by kernel_rfl
def tab:Tab:=[ (1,⟨.func,1,8,some (.nilFunc)⟩),(3,⟨.int .i64,1,8,some (.int .i64 (0))⟩),(4,⟨.bool,1,1,some (.bool false)⟩),(5,⟨.int .u8,1,1,some (.int .u8 (0))⟩),(9,⟨.str,1,16,some (.string ⟨#[]⟩)⟩),(20,⟨.iface,1,16,some (.nilIface)⟩),(22,⟨.int .u64,1,8,some (.int .u64 (0))⟩),(23,⟨.struct [(0,3),(1,3),(2,3),(3,3)],4,32,some (.agg #[.int .i64 (0),.int .i64 (0),.int .i64 (0),.int .i64 (0)])⟩),(24,⟨.struct [(0,3),(1,3),(2,3),(3,3)],4,32,some (.agg #[.int .i64 (0),.int .i64 (0),.int .i64 (0),.int .i64 (0)])⟩),(25,⟨.struct [(0,3),(1,3),(2,3),(3,3),(4,3),(5,22),(6,24),(10,3),(11,3),(12,3),(13,3),(14,3),(15,3)],16,128,some (.agg #[.int .i64 (0),.int .i64 (0),.int .i64 (0),.int .i64 (0),.int .i64 (0),.int .u64 (0),.int .i64 (0),.int .i64 (0),.int .i64 (0),.int .i64 (0),.int .i64 (0),.int .i64 (0),.int .i64 (0),.int .i64 (0),.int .i64 (0),.int .i64 (0)])⟩),(26,⟨.struct [(0,3),(1,3),(2,3),(3,3),(4,3),(5,22),(6,24),(10,3),(11,3),(12,3),(13,3),(14,3),(15,3)],16,128,some (.agg #[.int .i64 (0),.int .i64 (0),.int .i64 (0),.int .i64 (0),.int .i64 (0),.int .u64 (0),.int .i64 (0),.int .i64 (0),.int .i64 (0),.int .i64 (0),.int .i64 (0),.int .i64 (0),.int .i64 (0),.int .i64 (0),.int .i64 (0),.int .i64 (0)])⟩),(27,⟨.struct [(0,4),(1,22),(2,22)],3,24,some (.agg #[.bool false,.int .u64 (0),.int .u64 (0)])⟩),(28,⟨.struct [(0,4),(1,22),(2,22)],3,24,some (.agg #[.bool false,.int .u64 (0),.int .u64 (0)])⟩),(29,⟨.struct [(0,28),(3,3)],4,32,some (.agg #[.bool false,.int .u64 (0),.int .u64 (0),.int .i64 (0)])⟩),(30,⟨.struct [(0,28),(3,3)],4,32,some (.agg #[.bool false,.int .u64 (0),.int .u64 (0),.int .i64 (0)])⟩),(31,⟨.struct [(0,28),(3,3)],4,32,some (.agg #[.bool false,.int .u64 (0),.int .u64 (0),.int .i64 (0)])⟩),(32,⟨.struct [(0,28),(3,3)],4,32,some (.agg #[.bool false,.int .u64 (0),.int .u64 (0),.int .i64 (0)])⟩),(33,⟨.struct [(0,3),(1,30),(5,32),(9,3),(10,3),(11,4)],12,96,some (.agg #[.int .i64 (0),.bool false,.int .u64 (0),.int .u64 (0),.int .i64 (0),.bool false,.int .u64 (0),.int .u64 (0),.int .i64 (0),.int .i64 (0),.int .i64 (0),.bool false])⟩),(34,⟨.struct [(0,3),(1,30),(5,32),(9,3),(10,3),(11,4)],12,96,some (.agg #[.int .i64 (0),.bool false,.int .u64 (0),.int .u64 (0),.int .i64 (0),.bool false,.int .u64 (0),.int .u64 (0),.int .i64 (0),.int .i64 (0),.int .i64 (0),.bool false])⟩),(35,⟨.slice 48,1,24,some (.slice none 0 0)⟩),(39,⟨.struct [(0,3),(1,3),(2,3)],3,24,some (.agg #[.int .i64 (0),.int .i64 (0),.int .i64 (0)])⟩),(40,⟨.struct [(0,3),(1,3),(2,3)],3,24,some (.agg #[.int .i64 (0),.int .i64 (0),.int .i64 (0)])⟩),(41,⟨.struct [(0,3),(1,3)],2,16,some (.agg #[.int .i64 (0),.int .i64 (0)])⟩),(42,⟨.struct [(0,3),(1,3)],2,16,some (.agg #[.int .i64 (0),.int .i64 (0)])⟩),(43,⟨.struct [(0,30),(4,4),(5,3),(6,42),(8,3),(9,3)],10,80,some (.agg #[.bool false,.int .u64 (0),.int .u64 (0),.int .i64 (0),.bool false,.int .i64 (0),.int .i64 (0),.int .i64 (0),.int .i64 (0),.int .i64 (0)])⟩),(44,⟨.struct [(0,30),(4,4),(5,3),(6,42),(8,3),(9,3)],10,80,some (.agg #[.bool false,.int .u64 (0),.int .u64 (0),.int .i64 (0),.bool false,.int .i64 (0),.int .i64 (0),.int .i64 (0),.int .i64 (0),.int .i64 (0)])⟩),(45,⟨.slice 146,1,24,some (.slice none 0 0)⟩),(46,⟨.slice 106,1,24,some (.slice none 0 0)⟩),(47,⟨.struct [(0,3),(1,44),(11,45),(12,46)],13,136,some (.agg #[.int .i64 (0),.bool false,.int .u64 (0),.int .u64 (0),.int .i64 (0),.bool false,.int .i64 (0),.int .i64 (0),.int .i64 (0),.int .i64 (0),.int .i64 (0),.slice none 0 0,.slice none 0 0])⟩),(48,⟨.struct [(0,3),(1,44),(11,45),(12,46)],13,136,some (.agg #[.int .i64 (0),.bool false,.int .u64 (0),.int .u64 (0),.int .i64 (0),.bool false,.int .i64 (0),.int .i64 (0),.int .i64 (0),.int .i64 (0),.int .i64 (0),.slice none 0 0,.slice none 0 0])⟩),(49,⟨.struct [(0,3),(1,3),(2,40),(5,3),(6,3),(7,48),(20,4)],21,200,some (.agg #[.int .i64 (0),.int .i64 (0),.int .i64 (0),.int .i64 (0),.int .i64 (0),.int .i64 (0),.int .i64 (0),.int .i64 (0),.bool false,.int .u64 (0),.int .u64 (0),.int .i64 (0),.bool false,.int .i64 (0),.int .i64 (0),.int .i64 (0),.int .i64 (0),.int .i64 (0),.slice none 0 0,.slice none 0 0,.bool false])⟩),(50,⟨.struct [(0,3),(1,3),(2,40),(5,3),(6,3),(7,48),(20,4)],21,200,some (.agg #[.int .i64 (0),.int .i64 (0),.int .i64 (0),.int .i64 (0),.int .i64 (0),.int .i64 (0),.int .i64 (0),.int .i64 (0),.bool false,.int .u64 (0),.int .u64 (0),.int .i64 (0),.bool false,.int .i64 (0),.int .i64 (0),.int .i64 (0),.int .i64 (0),.int .i64 (0),.slice none 0 0,.slice none 0 0,.bool false])⟩),(53,⟨.int .i64,1,8,some (.int .i64 (0))⟩),(54,⟨.slice 44,1,24,some (.slice none 0 0)⟩),(55,⟨.struct [(0,53),(1,30),(5,3),(6,3),(7,54)],8,80,some (.agg #[.int .i64 (0),.bool false,.int .u64 (0),.int .u64 (0),.int .i64 (0),.int .i64 (0),.int .i64 (0),.slice none 0 0])⟩),(56,⟨.struct [(0,53),(1,30),(5,3),(6,3),(7,54)],8,80,some (.agg #[.int .i64 (0),.bool false,.int .u64 (0),.int .u64 (0),.int .i64 (0),.int .i64 (0),.int .i64 (0),.slice none 0 0])⟩),(60,⟨.struct [(0,50),(21,56),(29,4),(30,4)],31,288,some (.agg #[.int .i64 (0),.int .i64 (0),.int .i64 (0),.int .i64 (0),.int .i64 (0),.int .i64 (0),.int .i64 (0),.int .i64 (0),.bool false,.int .u64 (0),.int .u64 (0),.int .i64 (0),.bool false,.int .i64 (0),.int .i64 (0),.int .i64 (0),.int .i64 (0),.int .i64 (0),.slice none 0 0,.slice none 0 0,.bool false,.int .i64 (0),.bool false,.int .u64 (0),.int .u64 (0),.int .i64 (0),.int .i64 (0),.int .i64 (0),.slice none 0 0,.bool false,.bool false])⟩),(61,⟨.struct [(0,50),(21,56),(29,4),(30,4)],31,288,some (.agg #[.int .i64 (0),.int .i64 (0),.int .i64 (0),.int .i64 (0),.int .i64 (0),.int .i64 (0),.int .i64 (0),.int .i64 (0),.bool false,.int .u64 (0),.int .u64 (0),.int .i64 (0),.bool false,.int .i64 (0),.int .i64 (0),.int .i64 (0),.int .i64 (0),.int .i64 (0),.slice none 0 0,.slice none 0 0,.bool false,.int .i64 (0),.bool false,.int .u64 (0),.int .u64 (0),.int .i64 (0),.int .i64 (0),.int .i64 (0),.slice none 0 0,.bool false,.bool false])⟩),(64,⟨.struct [(0,45),(1,46),(2,54)],3,72,some (.agg #[.slice none 0 0,.slice none 0 0,.slice none 0 0])⟩),(65,⟨.struct [(0,45),(1,46),(2,54)],3,72,some (.agg #[.slice none 0 0,.slice none 0 0,.slice none 0 0])⟩),(69,⟨.slice 178,1,24,some (.slice none 0 0)⟩),(70,⟨.slice 127,1,24,some (.slice none 0 0)⟩),(71,⟨.struct [(0,3),(1,3),(2,45),(3,46),(4,69),(5,70)],6,112,some (.agg #[.int .i64 (0),.int .i64 (0),.slice none 0 0,.slice none 0 0,.slice none 0 0,.slice none 0 0])⟩),(72,⟨.struct [(0,3),(1,3),(2,45),(3,46),(4,69),(5,70)],6,112,some (.agg #[.int .i64 (0),.int .i64 (0),.slice none 0 0,.slice none 0 0,.slice none 0 0,.slice none 0 0])⟩),(75,⟨.func,1,8,some (.nilFunc)⟩),(76,⟨.func,1,8,some (.nilFunc)⟩),(105,⟨.struct [(0,30),(4,3),(5,3),(6,3)],7,56,some (.agg #[.bool false,.int .u64 (0),.int .u64 (0),.int .i64 (0),.int .i64 (0),.int .i64 (0),.int .i64 (0)])⟩),(106,⟨.struct [(0,30),(4,3),(5,3),(6,3)],7,56,some (.agg #[.bool false,.int .u64 (0),.int .u64 (0),.int .i64 (0),.int .i64 (0),.int .i64 (0),.int .i64 (0)])⟩),(110,⟨.struct [(0,50)],21,200,some (.agg #[.int .i64 (0),.int .i64 (0),.int .i64 (0),.int .i64 (0),.int .i64 (0),.int .i64 (0),.int .i64 (0),.int .i64 (0),.bool false,.int .u64 (0),.int .u64 (0),.int .i64 (0),.bool false,.int .i64 (0),.int .i64 (0),.int .i64 (0),.int .i64 (0),.int .i64 (0),.slice none 0 0,.slice none 0 0,.bool false])⟩),(111,⟨.struct [(0,50)],21,200,some (.agg #[.int .i64 (0),.int .i64 (0),.int .i64 (0),.int .i64 (0),.int .i64 (0),.int .i64 (0),.int .i64 (0),.int .i64 (0),.bool false,.int .u64 (0),.int .u64 (0),.int .i64 (0),.bool false,.int .i64 (0),.int .i64 (0),.int .i64 (0),.int .i64 (0),.int .i64 (0),.slice none 0 0,.slice none 0 0,.bool false])⟩),(112,⟨.ptr 114,1,8,some (.pointer none)⟩),(113,⟨.struct [(0,35)],1,24,some (.agg #[.slice none 0 0])⟩),(114,⟨.struct [(0,35)],1,24,some (.agg #[.slice none 0 0])⟩),(115,⟨.struct [(0,26),(16,34)],28,224,some (.agg #[.int .i64 (0),.int .i64 (0),.int .i64 (0),.int .i64 (0),.int .i64 (0),.int .u64 (0),.int .i64 (0),.int .i64 (0),.int .i64 (0),.int .i64 (0),.int .i64 (0),.int .i64 (0),.int .i64 (0),.int .i64 (0),.int .i64 (0),.int .i64 (0),.int .i64 (0),.bool false,.int .u64 (0),.int .u64 (0),.int .i64 (0),.bool false,.int .u64 (0),.int .u64 (0),.int .i64 (0),.int .i64 (0),.int .i64 (0),.bool false])⟩),(116,⟨.struct [(0,26),(16,34)],28,224,some (.agg #[.int .i64 (0),.int .i64 (0),.int .i64 (0),.int .i64 (0),.int .i64 (0),.int .u64 (0),.int .i64 (0),.int .i64 (0),.int .i64 (0),.int .i64 (0),.int .i64 (0),.int .i64 (0),.int .i64 (0),.int .i64 (0),.int .i64 (0),.int .i64 (0),.int .i64 (0),.bool false,.int .u64 (0),.int .u64 (0),.int .i64 (0),.bool false,.int .u64 (0),.int .u64 (0),.int .i64 (0),.int .i64 (0),.int .i64 (0),.bool false])⟩),(125,⟨.slice 3,1,24,some (.slice none 0 0)⟩),(126,⟨.struct [(0,3),(1,125)],2,32,some (.agg #[.int .i64 (0),.slice none 0 0])⟩),(127,⟨.struct [(0,3),(1,125)],2,32,some (.agg #[.int .i64 (0),.slice none 0 0])⟩),(145,⟨.struct [(0,32),(4,3)],5,40,some (.agg #[.bool false,.int .u64 (0),.int .u64 (0),.int .i64 (0),.int .i64 (0)])⟩),(146,⟨.struct [(0,32),(4,3)],5,40,some (.agg #[.bool false,.int .u64 (0),.int .u64 (0),.int .i64 (0),.int .i64 (0)])⟩),(152,⟨.iface,1,16,some (.nilIface)⟩),(153,⟨.iface,1,16,some (.nilIface)⟩),(163,⟨.slice 30,1,24,some (.slice none 0 0)⟩),(172,⟨.func,1,8,some (.nilFunc)⟩),(176,⟨.func,1,8,some (.nilFunc)⟩),(177,⟨.struct [(0,3),(1,54)],2,32,some (.agg #[.int .i64 (0),.slice none 0 0])⟩),(178,⟨.struct [(0,3),(1,54)],2,32,some (.agg #[.int .i64 (0),.slice none 0 0])⟩),(179,⟨.slice 181,1,24,some (.slice none 0 0)⟩),(181,⟨.int .i64,1,8,some (.int .i64 (0))⟩),(187,⟨.func,1,8,some (.nilFunc)⟩),(230,⟨.func,1,8,some (.nilFunc)⟩),(244,⟨.func,1,8,some (.nilFunc)⟩),(245,⟨.slice 9,1,24,some (.slice none 0 0)⟩),(252,⟨.array 14 9,14,224,some (.agg #[.string ⟨#[]⟩,.string ⟨#[]⟩,.string ⟨#[]⟩,.string ⟨#[]⟩,.string ⟨#[]⟩,.string ⟨#[]⟩,.string ⟨#[]⟩,.string ⟨#[]⟩,.string ⟨#[]⟩,.string ⟨#[]⟩,.string ⟨#[]⟩,.string ⟨#[]⟩,.string ⟨#[]⟩,.string ⟨#[]⟩])⟩),(275,⟨.slice 22,1,24,some (.slice none 0 0)⟩),(298,⟨.int .u64,1,8,some (.int .u64 (0))⟩),(303,⟨.int .u32,1,4,some (.int .u32 (0))⟩),(308,⟨.array 6 3,6,48,some (.agg #[.int .i64 (0),.int .i64 (0),.int .i64 (0),.int .i64 (0),.int .i64 (0),.int .i64 (0)])⟩)]
theorem ZFe:ZdK Tryz.prog tab:=
 .cons ⟨by kernel_rfl,by kernel_rfl,_,Tryz.underlying1,trivial⟩ <|
 .cons ⟨by kernel_rfl,by kernel_rfl,_,Tryz.underlying3,rfl⟩ <|
 .cons ⟨by kernel_rfl,by kernel_rfl,_,Tryz.underlying4,trivial⟩ <|
 .cons ⟨by kernel_rfl,by kernel_rfl,_,Tryz.underlying5,rfl⟩ <|
 .cons ⟨by kernel_rfl,by kernel_rfl,_,Tryz.underlying9,trivial⟩ <|
 .cons ⟨by kernel_rfl,by kernel_rfl,_,Tryz.underlying20,trivial⟩ <|
 .cons ⟨by kernel_rfl,by kernel_rfl,_,Tryz.underlying22,rfl⟩ <|
 .cons ⟨by kernel_rfl,by kernel_rfl,_,Tryz.underlying23,rfl⟩ <|
 .cons ⟨by kernel_rfl,by kernel_rfl,_,Tryz.underlying24,rfl⟩ <|
 .cons ⟨by kernel_rfl,by kernel_rfl,_,Tryz.underlying25,rfl⟩ <|
 .cons ⟨by kernel_rfl,by kernel_rfl,_,Tryz.underlying26,rfl⟩ <|
 .cons ⟨by kernel_rfl,by kernel_rfl,_,Tryz.underlying27,rfl⟩ <|
 .cons ⟨by kernel_rfl,by kernel_rfl,_,Tryz.underlying28,rfl⟩ <|
 .cons ⟨by kernel_rfl,by kernel_rfl,_,Tryz.underlying29,rfl⟩ <|
 .cons ⟨by kernel_rfl,by kernel_rfl,_,Tryz.underlying30,rfl⟩ <|
 .cons ⟨by kernel_rfl,by kernel_rfl,_,Tryz.underlying31,rfl⟩ <|
 .cons ⟨by kernel_rfl,by kernel_rfl,_,Tryz.underlying32,rfl⟩ <|
 .cons ⟨by kernel_rfl,by kernel_rfl,_,Tryz.underlying33,rfl⟩ <|
 .cons ⟨by kernel_rfl,by kernel_rfl,_,Tryz.underlying34,rfl⟩ <|
 .cons ⟨by kernel_rfl,by kernel_rfl,_,Tryz.underlying35,rfl⟩ <|
 .cons ⟨by kernel_rfl,by kernel_rfl,_,Tryz.underlying39,rfl⟩ <|
 .cons ⟨by kernel_rfl,by kernel_rfl,_,Tryz.underlying40,rfl⟩ <|
 .cons ⟨by kernel_rfl,by kernel_rfl,_,Tryz.underlying41,rfl⟩ <|
 .cons ⟨by kernel_rfl,by kernel_rfl,_,Tryz.underlying42,rfl⟩ <|
 .cons ⟨by kernel_rfl,by kernel_rfl,_,Tryz.underlying43,rfl⟩ <|
 .cons ⟨by kernel_rfl,by kernel_rfl,_,Tryz.underlying44,rfl⟩ <|
 .cons ⟨by kernel_rfl,by kernel_rfl,_,Tryz.underlying45,rfl⟩ <|
 .cons ⟨by kernel_rfl,by kernel_rfl,_,Tryz.underlying46,rfl⟩ <|
 .cons ⟨by kernel_rfl,by kernel_rfl,_,Tryz.underlying47,rfl⟩ <|
 .cons ⟨by kernel_rfl,by kernel_rfl,_,Tryz.underlying48,rfl⟩ <|
 .cons ⟨by kernel_rfl,by kernel_rfl,_,Tryz.underlying49,rfl⟩ <|
 .cons ⟨by kernel_rfl,by kernel_rfl,_,Tryz.underlying50,rfl⟩ <|
 .cons ⟨by kernel_rfl,by kernel_rfl,_,Tryz.underlying53,rfl⟩ <|
 .cons ⟨by kernel_rfl,by kernel_rfl,_,Tryz.underlying54,rfl⟩ <|
 .cons ⟨by kernel_rfl,by kernel_rfl,_,Tryz.underlying55,rfl⟩ <|
 .cons ⟨by kernel_rfl,by kernel_rfl,_,Tryz.underlying56,rfl⟩ <|
 .cons ⟨by kernel_rfl,by kernel_rfl,_,Tryz.underlying60,rfl⟩ <|
 .cons ⟨by kernel_rfl,by kernel_rfl,_,Tryz.underlying61,rfl⟩ <|
 .cons ⟨by kernel_rfl,by kernel_rfl,_,Tryz.underlying64,rfl⟩ <|
 .cons ⟨by kernel_rfl,by kernel_rfl,_,Tryz.underlying65,rfl⟩ <|
 .cons ⟨by kernel_rfl,by kernel_rfl,_,Tryz.underlying69,rfl⟩ <|
 .cons ⟨by kernel_rfl,by kernel_rfl,_,Tryz.underlying70,rfl⟩ <|
 .cons ⟨by kernel_rfl,by kernel_rfl,_,Tryz.underlying71,rfl⟩ <|
 .cons ⟨by kernel_rfl,by kernel_rfl,_,Tryz.underlying72,rfl⟩ <|
 .cons ⟨by kernel_rfl,by kernel_rfl,_,Tryz.underlying75,trivial⟩ <|
 .cons ⟨by kernel_rfl,by kernel_rfl,_,Tryz.underlying76,trivial⟩ <|
 .cons ⟨by kernel_rfl,by kernel_rfl,_,Tryz.underlying105,rfl⟩ <|
 .cons ⟨by kernel_rfl,by kernel_rfl,_,Tryz.underlying106,rfl⟩ <|
 .cons ⟨by kernel_rfl,by kernel_rfl,_,Tryz.underlying110,rfl⟩ <|
 .cons ⟨by kernel_rfl,by kernel_rfl,_,Tryz.underlying111,rfl⟩ <|
 .cons ⟨by kernel_rfl,by kernel_rfl,_,Tryz.underlying112,rfl⟩ <|
 .cons ⟨by kernel_rfl,by kernel_rfl,_,Tryz.underlying113,rfl⟩ <|
 .cons ⟨by kernel_rfl,by kernel_rfl,_,Tryz.underlying114,rfl⟩ <|
 .cons ⟨by kernel_rfl,by kernel_rfl,_,Tryz.underlying115,rfl⟩ <|
 .cons ⟨by kernel_rfl,by kernel_rfl,_,Tryz.underlying116,rfl⟩ <|
 .cons ⟨by kernel_rfl,by kernel_rfl,_,Tryz.underlying125,rfl⟩ <|
 .cons ⟨by kernel_rfl,by kernel_rfl,_,Tryz.underlying126,rfl⟩ <|
 .cons ⟨by kernel_rfl,by kernel_rfl,_,Tryz.underlying127,rfl⟩ <|
 .cons ⟨by kernel_rfl,by kernel_rfl,_,Tryz.underlying145,rfl⟩ <|
 .cons ⟨by kernel_rfl,by kernel_rfl,_,Tryz.underlying146,rfl⟩ <|
 .cons ⟨by kernel_rfl,by kernel_rfl,_,Tryz.underlying152,trivial⟩ <|
 .cons ⟨by kernel_rfl,by kernel_rfl,_,Tryz.underlying153,trivial⟩ <|
 .cons ⟨by kernel_rfl,by kernel_rfl,_,Tryz.underlying163,rfl⟩ <|
 .cons ⟨by kernel_rfl,by kernel_rfl,_,Tryz.underlying172,trivial⟩ <|
 .cons ⟨by kernel_rfl,by kernel_rfl,_,Tryz.underlying176,trivial⟩ <|
 .cons ⟨by kernel_rfl,by kernel_rfl,_,Tryz.underlying177,rfl⟩ <|
 .cons ⟨by kernel_rfl,by kernel_rfl,_,Tryz.underlying178,rfl⟩ <|
 .cons ⟨by kernel_rfl,by kernel_rfl,_,Tryz.underlying179,rfl⟩ <|
 .cons ⟨by kernel_rfl,by kernel_rfl,_,Tryz.underlying181,rfl⟩ <|
 .cons ⟨by kernel_rfl,by kernel_rfl,_,Tryz.underlying187,trivial⟩ <|
 .cons ⟨by kernel_rfl,by kernel_rfl,_,Tryz.underlying230,trivial⟩ <|
 .cons ⟨by kernel_rfl,by kernel_rfl,_,Tryz.underlying244,trivial⟩ <|
 .cons ⟨by kernel_rfl,by kernel_rfl,_,Tryz.underlying245,rfl⟩ <|
 .cons ⟨by kernel_rfl,by kernel_rfl,_,Tryz.underlying252,⟨rfl,rfl⟩⟩ <|
 .cons ⟨by kernel_rfl,by kernel_rfl,_,Tryz.underlying275,rfl⟩ <|
 .cons ⟨by kernel_rfl,by kernel_rfl,_,Tryz.underlying298,rfl⟩ <|
 .cons ⟨by kernel_rfl,by kernel_rfl,_,Tryz.underlying303,rfl⟩ <|
 .cons ⟨by kernel_rfl,by kernel_rfl,_,Tryz.underlying308,⟨rfl,rfl⟩⟩ <|
 .nil _
theorem Zak:Zpb Tryz.prog tab:=⟨ZFe,by kernel_rfl⟩
end Go.Proofs.YtdjfoojllbfcgaaGreat
