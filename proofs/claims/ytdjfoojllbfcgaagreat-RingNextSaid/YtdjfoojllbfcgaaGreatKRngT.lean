import Derived.Test.YtdjfoojllbfcgaaGreatProg
import Derived.Shelf.Spec.SlicesInsertGrow
import Derived.Lib.Hide
import Derived.Test.YtdjfoojllbfcgaaGreatKPlA
import Derived.Test.YtdjfoojllbfcgaaGreatKAmZ
import Derived.Test.YtdjfoojllbfcgaaGreatKSort411
import Derived.Test.YtdjfoojllbfcgaaGreatKAmPy
namespace Go.Proofs.YtdjfoojllbfcgaaGreat
open Go.RowKit Go.Lib Go.Shelf
set_option linter.unusedVariables false
set_option maxRecDepth 100000
structure Zdu where
 fGroup:Int
 fPing:Int
 fWork:Int
 fTime:Int
 deriving DecidableEq
def Zdu.d:Zdu:=⟨(0:Int),(0:Int),(0:Int),(0:Int)⟩
def Zdu.c(a:Zdu):List C:=[.lit (.int .i64 a.fGroup),.lit (.int .i64 a.fPing),.lit (.int .i64 a.fWork),.lit (.int .i64 a.fTime)]
def Zdu.ok(a:Zdu):Prop:=(okI .i64) a.fGroup∧(okI .i64) a.fPing∧(okI .i64) a.fWork∧(okI .i64) a.fTime∧True
theorem Ztx:Opn Tryz.prog 24 Zdu.c Zdu.ok:=ZgQ (ea:=(cP (cI .i64) (cP (cI .i64) (cP (cI .i64) (cP (cI .i64) cU))))) (oa:=(okP (okI .i64) (okP (okI .i64) (okP (okI .i64) (okP (okI .i64) okU))))) (N:=4) Tryz.underlying24 (by kernel_rfl) (Zbb (sz:=1) rfl rfl (by kernel_rfl) (Zdp Tryz.underlying3) (Zbb (sz:=1) rfl rfl (by kernel_rfl) (Zdp Tryz.underlying3) (Zbb (sz:=1) rfl rfl (by kernel_rfl) (Zdp Tryz.underlying3) (Zbb (sz:=1) rfl rfl (by kernel_rfl) (Zdp Tryz.underlying3) Zjz)))) (fun(a:Int×Int×Int×Int×Unit)=>(⟨a.1,a.2.1,a.2.2.1,a.2.2.2.1⟩ : Zdu)) (fun _=>rfl) (fun _ h=>h)
structure Zax where
 fMaxIn:Int
 fMaxOut:Int
 fShards:Int
 fMaxBans:Int
 fMaxBook:Int
 fSecret:Int
 fQuota:Zdu
 fHalf:Int
 fLimit:Int
 fBanFor:Int
 fBase:Int
 fCap:Int
 fJitter:Int
 deriving DecidableEq
def Zax.d:Zax:=⟨(0:Int),(0:Int),(0:Int),(0:Int),(0:Int),(0:Int),Zdu.d,(0:Int),(0:Int),(0:Int),(0:Int),(0:Int),(0:Int)⟩
def Zax.c(a:Zax):List C:=[.lit (.int .i64 a.fMaxIn),.lit (.int .i64 a.fMaxOut),.lit (.int .i64 a.fShards),.lit (.int .i64 a.fMaxBans),.lit (.int .i64 a.fMaxBook),.lit (.int .u64 a.fSecret),.lit (.int .i64 a.fQuota.fGroup),.lit (.int .i64 a.fQuota.fPing),.lit (.int .i64 a.fQuota.fWork),.lit (.int .i64 a.fQuota.fTime),.lit (.int .i64 a.fHalf),.lit (.int .i64 a.fLimit),.lit (.int .i64 a.fBanFor),.lit (.int .i64 a.fBase),.lit (.int .i64 a.fCap),.lit (.int .i64 a.fJitter)]
def Zax.ok(a:Zax):Prop:=(okI .i64) a.fMaxIn∧(okI .i64) a.fMaxOut∧(okI .i64) a.fShards∧(okI .i64) a.fMaxBans∧(okI .i64) a.fMaxBook∧(okI .u64) a.fSecret∧Zdu.ok a.fQuota∧(okI .i64) a.fHalf∧(okI .i64) a.fLimit∧(okI .i64) a.fBanFor∧(okI .i64) a.fBase∧(okI .i64) a.fCap∧(okI .i64) a.fJitter∧True
theorem ZuH:Opn Tryz.prog 26 Zax.c Zax.ok:=ZgQ (ea:=(cP (cI .i64) (cP (cI .i64) (cP (cI .i64) (cP (cI .i64) (cP (cI .i64) (cP (cI .u64) (cP Zdu.c (cP (cI .i64) (cP (cI .i64) (cP (cI .i64) (cP (cI .i64) (cP (cI .i64) (cP (cI .i64) cU)))))))))))))) (oa:=(okP (okI .i64) (okP (okI .i64) (okP (okI .i64) (okP (okI .i64) (okP (okI .i64) (okP (okI .u64) (okP Zdu.ok (okP (okI .i64) (okP (okI .i64) (okP (okI .i64) (okP (okI .i64) (okP (okI .i64) (okP (okI .i64) okU)))))))))))))) (N:=16) Tryz.underlying26 (by kernel_rfl) (Zbb (sz:=1) rfl rfl (by kernel_rfl) (Zdp Tryz.underlying3) (Zbb (sz:=1) rfl rfl (by kernel_rfl) (Zdp Tryz.underlying3) (Zbb (sz:=1) rfl rfl (by kernel_rfl) (Zdp Tryz.underlying3) (Zbb (sz:=1) rfl rfl (by kernel_rfl) (Zdp Tryz.underlying3) (Zbb (sz:=1) rfl rfl (by kernel_rfl) (Zdp Tryz.underlying3) (Zbb (sz:=1) rfl rfl (by kernel_rfl) (Zdp Tryz.underlying22) (Zbb (sz:=4) rfl rfl (by kernel_rfl) Ztx (Zbb (sz:=1) rfl rfl (by kernel_rfl) (Zdp Tryz.underlying3) (Zbb (sz:=1) rfl rfl (by kernel_rfl) (Zdp Tryz.underlying3) (Zbb (sz:=1) rfl rfl (by kernel_rfl) (Zdp Tryz.underlying3) (Zbb (sz:=1) rfl rfl (by kernel_rfl) (Zdp Tryz.underlying3) (Zbb (sz:=1) rfl rfl (by kernel_rfl) (Zdp Tryz.underlying3) (Zbb (sz:=1) rfl rfl (by kernel_rfl) (Zdp Tryz.underlying3) Zjz))))))))))))) (fun(a:Int×Int×Int×Int×Int×Int×Zdu×Int×Int×Int×Int×Int×Int×Unit)=>(⟨a.1,a.2.1,a.2.2.1,a.2.2.2.1,a.2.2.2.2.1,a.2.2.2.2.2.1,a.2.2.2.2.2.2.1,a.2.2.2.2.2.2.2.1,a.2.2.2.2.2.2.2.2.1,a.2.2.2.2.2.2.2.2.2.1,a.2.2.2.2.2.2.2.2.2.2.1,a.2.2.2.2.2.2.2.2.2.2.2.1,a.2.2.2.2.2.2.2.2.2.2.2.2.1⟩ : Zax)) (fun _=>rfl) (fun _ h=>h)
structure Zag where
 fV6:Bool
 fHi:Int
 fLo:Int
 deriving DecidableEq
def Zag.d:Zag:=⟨false,(0:Int),(0:Int)⟩
def Zag.c(a:Zag):List C:=[.lit (.bool a.fV6),.lit (.int .u64 a.fHi),.lit (.int .u64 a.fLo)]
def Zag.ok(a:Zag):Prop:=okB a.fV6∧(okI .u64) a.fHi∧(okI .u64) a.fLo∧True
theorem Zqd:Opn Tryz.prog 28 Zag.c Zag.ok:=ZgQ (ea:=(cP cB (cP (cI .u64) (cP (cI .u64) cU)))) (oa:=(okP okB (okP (okI .u64) (okP (okI .u64) okU)))) (N:=3) Tryz.underlying28 (by kernel_rfl) (Zbb (sz:=1) rfl rfl (by kernel_rfl) (Zwr Tryz.underlying4) (Zbb (sz:=1) rfl rfl (by kernel_rfl) (Zdp Tryz.underlying22) (Zbb (sz:=1) rfl rfl (by kernel_rfl) (Zdp Tryz.underlying22) Zjz))) (fun(a:Bool×Int×Int×Unit)=>(⟨a.1,a.2.1,a.2.2.1⟩ : Zag)) (fun _=>rfl) (fun _ h=>h)
structure Zaj where
 fAddr:Zag
 fPort:Int
 deriving DecidableEq
def Zaj.d:Zaj:=⟨Zag.d,(0:Int)⟩
def Zaj.c(a:Zaj):List C:=[.lit (.bool a.fAddr.fV6),.lit (.int .u64 a.fAddr.fHi),.lit (.int .u64 a.fAddr.fLo),.lit (.int .i64 a.fPort)]
def Zaj.ok(a:Zaj):Prop:=Zag.ok a.fAddr∧(okI .i64) a.fPort∧True
theorem ZnI:Opn Tryz.prog 30 Zaj.c Zaj.ok:=ZgQ (ea:=(cP Zag.c (cP (cI .i64) cU))) (oa:=(okP Zag.ok (okP (okI .i64) okU))) (N:=4) Tryz.underlying30 (by kernel_rfl) (Zbb (sz:=3) rfl rfl (by kernel_rfl) Zqd (Zbb (sz:=1) rfl rfl (by kernel_rfl) (Zdp Tryz.underlying3) Zjz)) (fun(a:Zag×Int×Unit)=>(⟨a.1,a.2.1⟩ : Zaj)) (fun _=>rfl) (fun _ h=>h)
structure Zai where
 fAddr:Zag
 fBits:Int
 deriving DecidableEq
def Zai.d:Zai:=⟨Zag.d,(0:Int)⟩
def Zai.c(a:Zai):List C:=[.lit (.bool a.fAddr.fV6),.lit (.int .u64 a.fAddr.fHi),.lit (.int .u64 a.fAddr.fLo),.lit (.int .i64 a.fBits)]
def Zai.ok(a:Zai):Prop:=Zag.ok a.fAddr∧(okI .i64) a.fBits∧True
theorem ZqO:Opn Tryz.prog 32 Zai.c Zai.ok:=ZgQ (ea:=(cP Zag.c (cP (cI .i64) cU))) (oa:=(okP Zag.ok (okP (okI .i64) okU))) (N:=4) Tryz.underlying32 (by kernel_rfl) (Zbb (sz:=3) rfl rfl (by kernel_rfl) Zqd (Zbb (sz:=1) rfl rfl (by kernel_rfl) (Zdp Tryz.underlying3) Zjz)) (fun(a:Zag×Int×Unit)=>(⟨a.1,a.2.1⟩ : Zai)) (fun _=>rfl) (fun _ h=>h)
structure ZaB where
 fKind:Int
 fEnd:Zaj
 fNet:Zai
 fNow:Int
 fNum:Int
 fGood:Bool
 deriving DecidableEq
def ZaB.d:ZaB:=⟨(0:Int),Zaj.d,Zai.d,(0:Int),(0:Int),false⟩
def ZaB.c(a:ZaB):List C:=[.lit (.int .i64 a.fKind),.lit (.bool a.fEnd.fAddr.fV6),.lit (.int .u64 a.fEnd.fAddr.fHi),.lit (.int .u64 a.fEnd.fAddr.fLo),.lit (.int .i64 a.fEnd.fPort),.lit (.bool a.fNet.fAddr.fV6),.lit (.int .u64 a.fNet.fAddr.fHi),.lit (.int .u64 a.fNet.fAddr.fLo),.lit (.int .i64 a.fNet.fBits),.lit (.int .i64 a.fNow),.lit (.int .i64 a.fNum),.lit (.bool a.fGood)]
def ZaB.ok(a:ZaB):Prop:=(okI .i64) a.fKind∧Zaj.ok a.fEnd∧Zai.ok a.fNet∧(okI .i64) a.fNow∧(okI .i64) a.fNum∧okB a.fGood∧True
theorem ZuI:Opn Tryz.prog 34 ZaB.c ZaB.ok:=ZgQ (ea:=(cP (cI .i64) (cP Zaj.c (cP Zai.c (cP (cI .i64) (cP (cI .i64) (cP cB cU))))))) (oa:=(okP (okI .i64) (okP Zaj.ok (okP Zai.ok (okP (okI .i64) (okP (okI .i64) (okP okB okU))))))) (N:=12) Tryz.underlying34 (by kernel_rfl) (Zbb (sz:=1) rfl rfl (by kernel_rfl) (Zdp Tryz.underlying3) (Zbb (sz:=4) rfl rfl (by kernel_rfl) ZnI (Zbb (sz:=4) rfl rfl (by kernel_rfl) ZqO (Zbb (sz:=1) rfl rfl (by kernel_rfl) (Zdp Tryz.underlying3) (Zbb (sz:=1) rfl rfl (by kernel_rfl) (Zdp Tryz.underlying3) (Zbb (sz:=1) rfl rfl (by kernel_rfl) (Zwr Tryz.underlying4) Zjz)))))) (fun(a:Int×Zaj×Zai×Int×Int×Bool×Unit)=>(⟨a.1,a.2.1,a.2.2.1,a.2.2.2.1,a.2.2.2.2.1,a.2.2.2.2.2.1⟩ : ZaB)) (fun _=>rfl) (fun _ h=>h)
structure Zat where
 fPoints:Int
 fAt:Int
 deriving DecidableEq
def Zat.d:Zat:=⟨(0:Int),(0:Int)⟩
def Zat.c(a:Zat):List C:=[.lit (.int .i64 a.fPoints),.lit (.int .i64 a.fAt)]
def Zat.ok(a:Zat):Prop:=(okI .i64) a.fPoints∧(okI .i64) a.fAt∧True
theorem Ztw:Opn Tryz.prog 42 Zat.c Zat.ok:=ZgQ (ea:=(cP (cI .i64) (cP (cI .i64) cU))) (oa:=(okP (okI .i64) (okP (okI .i64) okU))) (N:=2) Tryz.underlying42 (by kernel_rfl) (Zbb (sz:=1) rfl rfl (by kernel_rfl) (Zdp Tryz.underlying3) (Zbb (sz:=1) rfl rfl (by kernel_rfl) (Zdp Tryz.underlying3) Zjz)) (fun(a:Int×Int×Unit)=>(⟨a.1,a.2.1⟩ : Zat)) (fun _=>rfl) (fun _ h=>h)
structure Zab where
 fEnd:Zaj
 fIn:Bool
 fSince:Int
 fScore:Zat
 fPing:Int
 fWork:Int
 deriving DecidableEq
def Zab.d:Zab:=⟨Zaj.d,false,(0:Int),Zat.d,(0:Int),(0:Int)⟩
def Zab.c(a:Zab):List C:=[.lit (.bool a.fEnd.fAddr.fV6),.lit (.int .u64 a.fEnd.fAddr.fHi),.lit (.int .u64 a.fEnd.fAddr.fLo),.lit (.int .i64 a.fEnd.fPort),.lit (.bool a.fIn),.lit (.int .i64 a.fSince),.lit (.int .i64 a.fScore.fPoints),.lit (.int .i64 a.fScore.fAt),.lit (.int .i64 a.fPing),.lit (.int .i64 a.fWork)]
def Zab.ok(a:Zab):Prop:=Zaj.ok a.fEnd∧okB a.fIn∧(okI .i64) a.fSince∧Zat.ok a.fScore∧(okI .i64) a.fPing∧(okI .i64) a.fWork∧True
theorem ZuG:Opn Tryz.prog 44 Zab.c Zab.ok:=ZgQ (ea:=(cP Zaj.c (cP cB (cP (cI .i64) (cP Zat.c (cP (cI .i64) (cP (cI .i64) cU))))))) (oa:=(okP Zaj.ok (okP okB (okP (okI .i64) (okP Zat.ok (okP (okI .i64) (okP (okI .i64) okU))))))) (N:=10) Tryz.underlying44 (by kernel_rfl) (Zbb (sz:=4) rfl rfl (by kernel_rfl) ZnI (Zbb (sz:=1) rfl rfl (by kernel_rfl) (Zwr Tryz.underlying4) (Zbb (sz:=1) rfl rfl (by kernel_rfl) (Zdp Tryz.underlying3) (Zbb (sz:=2) rfl rfl (by kernel_rfl) Ztw (Zbb (sz:=1) rfl rfl (by kernel_rfl) (Zdp Tryz.underlying3) (Zbb (sz:=1) rfl rfl (by kernel_rfl) (Zdp Tryz.underlying3) Zjz)))))) (fun(a:Zaj×Bool×Int×Zat×Int×Int×Unit)=>(⟨a.1,a.2.1,a.2.2.1,a.2.2.2.1,a.2.2.2.2.1,a.2.2.2.2.2.1⟩ : Zab)) (fun _=>rfl) (fun _ h=>h)
structure Zah where
 fNet:Zai
 fUntil:Int
 deriving DecidableEq
def Zah.d:Zah:=⟨Zai.d,(0:Int)⟩
def Zah.c(a:Zah):List C:=[.lit (.bool a.fNet.fAddr.fV6),.lit (.int .u64 a.fNet.fAddr.fHi),.lit (.int .u64 a.fNet.fAddr.fLo),.lit (.int .i64 a.fNet.fBits),.lit (.int .i64 a.fUntil)]
def Zah.ok(a:Zah):Prop:=Zai.ok a.fNet∧(okI .i64) a.fUntil∧True
theorem Zws:Opn Tryz.prog 146 Zah.c Zah.ok:=ZgQ (ea:=(cP Zai.c (cP (cI .i64) cU))) (oa:=(okP Zai.ok (okP (okI .i64) okU))) (N:=5) Tryz.underlying146 (by kernel_rfl) (Zbb (sz:=4) rfl rfl (by kernel_rfl) ZqO (Zbb (sz:=1) rfl rfl (by kernel_rfl) (Zdp Tryz.underlying3) Zjz)) (fun(a:Zai×Int×Unit)=>(⟨a.1,a.2.1⟩ : Zah)) (fun _=>rfl) (fun _ h=>h)
structure Zaa where
 fEnd:Zaj
 fState:Int
 fFails:Int
 fNext:Int
 deriving DecidableEq
def Zaa.d:Zaa:=⟨Zaj.d,(0:Int),(0:Int),(0:Int)⟩
def Zaa.c(a:Zaa):List C:=[.lit (.bool a.fEnd.fAddr.fV6),.lit (.int .u64 a.fEnd.fAddr.fHi),.lit (.int .u64 a.fEnd.fAddr.fLo),.lit (.int .i64 a.fEnd.fPort),.lit (.int .i64 a.fState),.lit (.int .i64 a.fFails),.lit (.int .i64 a.fNext)]
def Zaa.ok(a:Zaa):Prop:=Zaj.ok a.fEnd∧(okI .i64) a.fState∧(okI .i64) a.fFails∧(okI .i64) a.fNext∧True
theorem Zty:Opn Tryz.prog 106 Zaa.c Zaa.ok:=ZgQ (ea:=(cP Zaj.c (cP (cI .i64) (cP (cI .i64) (cP (cI .i64) cU))))) (oa:=(okP Zaj.ok (okP (okI .i64) (okP (okI .i64) (okP (okI .i64) okU))))) (N:=7) Tryz.underlying106 (by kernel_rfl) (Zbb (sz:=4) rfl rfl (by kernel_rfl) ZnI (Zbb (sz:=1) rfl rfl (by kernel_rfl) (Zdp Tryz.underlying3) (Zbb (sz:=1) rfl rfl (by kernel_rfl) (Zdp Tryz.underlying3) (Zbb (sz:=1) rfl rfl (by kernel_rfl) (Zdp Tryz.underlying3) Zjz)))) (fun(a:Zaj×Int×Int×Int×Unit)=>(⟨a.1,a.2.1,a.2.2.1,a.2.2.2.1⟩ : Zaa)) (fun _=>rfl) (fun _ h=>h)
structure Zad where
 fN:Int
 fPeer:Zab
 fBans:(List Zah)
 fBook:(List Zaa)
def Zad.d:Zad:=⟨(0:Int),Zab.d,([]:(List Zah)),([]:(List Zaa))⟩
def Zad.c(a:Zad):List C:=[.lit (.int .i64 a.fN),.lit (.bool a.fPeer.fEnd.fAddr.fV6),.lit (.int .u64 a.fPeer.fEnd.fAddr.fHi),.lit (.int .u64 a.fPeer.fEnd.fAddr.fLo),.lit (.int .i64 a.fPeer.fEnd.fPort),.lit (.bool a.fPeer.fIn),.lit (.int .i64 a.fPeer.fSince),.lit (.int .i64 a.fPeer.fScore.fPoints),.lit (.int .i64 a.fPeer.fScore.fAt),.lit (.int .i64 a.fPeer.fPing),.lit (.int .i64 a.fPeer.fWork),cL 5 Zah.c Zah.d a.fBans,cL 7 Zaa.c Zaa.d a.fBook]
def Zad.ok(a:Zad):Prop:=(okI .i64) a.fN∧Zab.ok a.fPeer∧(okL Zah.ok) a.fBans∧(okL Zaa.ok) a.fBook∧True
theorem Ztv:Opn Tryz.prog 48 Zad.c Zad.ok:=ZgQ (ea:=(cP (cI .i64) (cP Zab.c (cP (cLs 5 Zah.c Zah.d) (cP (cLs 7 Zaa.c Zaa.d) cU))))) (oa:=(okP (okI .i64) (okP Zab.ok (okP (okL Zah.ok) (okP (okL Zaa.ok) okU))))) (N:=13) Tryz.underlying48 (by kernel_rfl) (Zbb (sz:=1) rfl rfl (by kernel_rfl) (Zdp Tryz.underlying3) (Zbb (sz:=10) rfl rfl (by kernel_rfl) ZuG (Zbb (sz:=1) rfl rfl (by kernel_rfl) (Ztu (d:=Zah.d) Tryz.underlying45 (by kernel_rfl) (by decide) (fun _=>rfl) Zws) (Zbb (sz:=1) rfl rfl (by kernel_rfl) (Ztu (d:=Zaa.d) Tryz.underlying46 (by kernel_rfl) (by decide) (fun _=>rfl) Zty) Zjz)))) (fun(a:Int×Zab×(List Zah)×(List Zaa)×Unit)=>(⟨a.1,a.2.1,a.2.2.1,a.2.2.2.1⟩ : Zad)) (fun _=>rfl) (fun _ h=>h)
structure Zap where
 fKind:Int
 fShard:Int
 fSlot:Int
 deriving DecidableEq
def Zap.d:Zap:=⟨(0:Int),(0:Int),(0:Int)⟩
def Zap.c(a:Zap):List C:=[.lit (.int .i64 a.fKind),.lit (.int .i64 a.fShard),.lit (.int .i64 a.fSlot)]
def Zap.ok(a:Zap):Prop:=(okI .i64) a.fKind∧(okI .i64) a.fShard∧(okI .i64) a.fSlot∧True
structure Zas where
 fKind:Int
 fLock:Int
 fLoc:Zap
 fOld:Int
 fNew:Int
 fVal:Zad
 fMark:Bool
def Zas.d:Zas:=⟨(0:Int),(0:Int),Zap.d,(0:Int),(0:Int),Zad.d,false⟩
def Zas.c(a:Zas):List C:=[.lit (.int .i64 a.fKind),.lit (.int .i64 a.fLock),.lit (.int .i64 a.fLoc.fKind),.lit (.int .i64 a.fLoc.fShard),.lit (.int .i64 a.fLoc.fSlot),.lit (.int .i64 a.fOld),.lit (.int .i64 a.fNew),.lit (.int .i64 a.fVal.fN),.lit (.bool a.fVal.fPeer.fEnd.fAddr.fV6),.lit (.int .u64 a.fVal.fPeer.fEnd.fAddr.fHi),.lit (.int .u64 a.fVal.fPeer.fEnd.fAddr.fLo),.lit (.int .i64 a.fVal.fPeer.fEnd.fPort),.lit (.bool a.fVal.fPeer.fIn),.lit (.int .i64 a.fVal.fPeer.fSince),.lit (.int .i64 a.fVal.fPeer.fScore.fPoints),.lit (.int .i64 a.fVal.fPeer.fScore.fAt),.lit (.int .i64 a.fVal.fPeer.fPing),.lit (.int .i64 a.fVal.fPeer.fWork),cL 5 Zah.c Zah.d a.fVal.fBans,cL 7 Zaa.c Zaa.d a.fVal.fBook,.lit (.bool a.fMark)]
def Zas.ok(a:Zas):Prop:=(okI .i64) a.fKind∧(okI .i64) a.fLock∧Zap.ok a.fLoc∧(okI .i64) a.fOld∧(okI .i64) a.fNew∧Zad.ok a.fVal∧okB a.fMark∧True
structure Zac where
 fGot:(List Zad)
 fAt:Int
 fOp:Zas
 fWait:Bool
def Zac.d:Zac:=⟨([]:(List Zad)),(0:Int),Zas.d,false⟩
def Zac.c(a:Zac):List C:=[cL 13 Zad.c Zad.d a.fGot,.lit (.int .i64 a.fAt),.lit (.int .i64 a.fOp.fKind),.lit (.int .i64 a.fOp.fLock),.lit (.int .i64 a.fOp.fLoc.fKind),.lit (.int .i64 a.fOp.fLoc.fShard),.lit (.int .i64 a.fOp.fLoc.fSlot),.lit (.int .i64 a.fOp.fOld),.lit (.int .i64 a.fOp.fNew),.lit (.int .i64 a.fOp.fVal.fN),.lit (.bool a.fOp.fVal.fPeer.fEnd.fAddr.fV6),.lit (.int .u64 a.fOp.fVal.fPeer.fEnd.fAddr.fHi),.lit (.int .u64 a.fOp.fVal.fPeer.fEnd.fAddr.fLo),.lit (.int .i64 a.fOp.fVal.fPeer.fEnd.fPort),.lit (.bool a.fOp.fVal.fPeer.fIn),.lit (.int .i64 a.fOp.fVal.fPeer.fSince),.lit (.int .i64 a.fOp.fVal.fPeer.fScore.fPoints),.lit (.int .i64 a.fOp.fVal.fPeer.fScore.fAt),.lit (.int .i64 a.fOp.fVal.fPeer.fPing),.lit (.int .i64 a.fOp.fVal.fPeer.fWork),cL 5 Zah.c Zah.d a.fOp.fVal.fBans,cL 7 Zaa.c Zaa.d a.fOp.fVal.fBook,.lit (.bool a.fOp.fMark),.lit (.bool a.fWait)]
def Zac.ok(a:Zac):Prop:=(okL Zad.ok) a.fGot∧(okI .i64) a.fAt∧Zas.ok a.fOp∧okB a.fWait∧True
structure Zaq where
 fCode:Int
 fEnd:Zaj
 fN:Int
 fUntil:Int
 fPeers:(List Zab)
def Zaq.d:Zaq:=⟨(0:Int),Zaj.d,(0:Int),(0:Int),([]:(List Zab))⟩
def Zaq.c(a:Zaq):List C:=[.lit (.int .i64 a.fCode),.lit (.bool a.fEnd.fAddr.fV6),.lit (.int .u64 a.fEnd.fAddr.fHi),.lit (.int .u64 a.fEnd.fAddr.fLo),.lit (.int .i64 a.fEnd.fPort),.lit (.int .i64 a.fN),.lit (.int .i64 a.fUntil),cL 10 Zab.c Zab.d a.fPeers]
def Zaq.ok(a:Zaq):Prop:=(okI .i64) a.fCode∧Zaj.ok a.fEnd∧(okI .i64) a.fN∧(okI .i64) a.fUntil∧(okL Zab.ok) a.fPeers∧True
structure ZaX where
 fOp:Zas
 fReply:Zaq
 fDone:Bool
 fBroken:Bool
def ZaX.d:ZaX:=⟨Zas.d,Zaq.d,false,false⟩
def ZaX.c(a:ZaX):List C:=[.lit (.int .i64 a.fOp.fKind),.lit (.int .i64 a.fOp.fLock),.lit (.int .i64 a.fOp.fLoc.fKind),.lit (.int .i64 a.fOp.fLoc.fShard),.lit (.int .i64 a.fOp.fLoc.fSlot),.lit (.int .i64 a.fOp.fOld),.lit (.int .i64 a.fOp.fNew),.lit (.int .i64 a.fOp.fVal.fN),.lit (.bool a.fOp.fVal.fPeer.fEnd.fAddr.fV6),.lit (.int .u64 a.fOp.fVal.fPeer.fEnd.fAddr.fHi),.lit (.int .u64 a.fOp.fVal.fPeer.fEnd.fAddr.fLo),.lit (.int .i64 a.fOp.fVal.fPeer.fEnd.fPort),.lit (.bool a.fOp.fVal.fPeer.fIn),.lit (.int .i64 a.fOp.fVal.fPeer.fSince),.lit (.int .i64 a.fOp.fVal.fPeer.fScore.fPoints),.lit (.int .i64 a.fOp.fVal.fPeer.fScore.fAt),.lit (.int .i64 a.fOp.fVal.fPeer.fPing),.lit (.int .i64 a.fOp.fVal.fPeer.fWork),cL 5 Zah.c Zah.d a.fOp.fVal.fBans,cL 7 Zaa.c Zaa.d a.fOp.fVal.fBook,.lit (.bool a.fOp.fMark),.lit (.int .i64 a.fReply.fCode),.lit (.bool a.fReply.fEnd.fAddr.fV6),.lit (.int .u64 a.fReply.fEnd.fAddr.fHi),.lit (.int .u64 a.fReply.fEnd.fAddr.fLo),.lit (.int .i64 a.fReply.fEnd.fPort),.lit (.int .i64 a.fReply.fN),.lit (.int .i64 a.fReply.fUntil),cL 10 Zab.c Zab.d a.fReply.fPeers,.lit (.bool a.fDone),.lit (.bool a.fBroken)]
def ZaX.ok(a:ZaX):Prop:=Zas.ok a.fOp∧Zaq.ok a.fReply∧okB a.fDone∧okB a.fBroken∧True
structure ZaF where
 fc:Zax
 fx:ZaB
 deriving DecidableEq
def ZaF.d:ZaF:=⟨Zax.d,ZaB.d⟩
def ZaF.c(a:ZaF):List C:=[.lit (.int .i64 a.fc.fMaxIn),.lit (.int .i64 a.fc.fMaxOut),.lit (.int .i64 a.fc.fShards),.lit (.int .i64 a.fc.fMaxBans),.lit (.int .i64 a.fc.fMaxBook),.lit (.int .u64 a.fc.fSecret),.lit (.int .i64 a.fc.fQuota.fGroup),.lit (.int .i64 a.fc.fQuota.fPing),.lit (.int .i64 a.fc.fQuota.fWork),.lit (.int .i64 a.fc.fQuota.fTime),.lit (.int .i64 a.fc.fHalf),.lit (.int .i64 a.fc.fLimit),.lit (.int .i64 a.fc.fBanFor),.lit (.int .i64 a.fc.fBase),.lit (.int .i64 a.fc.fCap),.lit (.int .i64 a.fc.fJitter),.lit (.int .i64 a.fx.fKind),.lit (.bool a.fx.fEnd.fAddr.fV6),.lit (.int .u64 a.fx.fEnd.fAddr.fHi),.lit (.int .u64 a.fx.fEnd.fAddr.fLo),.lit (.int .i64 a.fx.fEnd.fPort),.lit (.bool a.fx.fNet.fAddr.fV6),.lit (.int .u64 a.fx.fNet.fAddr.fHi),.lit (.int .u64 a.fx.fNet.fAddr.fLo),.lit (.int .i64 a.fx.fNet.fBits),.lit (.int .i64 a.fx.fNow),.lit (.int .i64 a.fx.fNum),.lit (.bool a.fx.fGood)]
def ZaF.ok(a:ZaF):Prop:=Zax.ok a.fc∧ZaB.ok a.fx∧True
inductive Zkq where
 |c109 (e:ZaF)
 |c110 (e:ZaF)
 |c111 (e:ZaF)
 |c112 (e:ZaF)
def Zkq.c:Zkq→C | .c109 e=>.clo (.func 109) 1 0 (fun i=>([.agv 28 (fun j=>(ZaF.c e).getD j .junk)]:List C).getD i .junk) (fun i=>([]:List C).getD i .junk) | .c110 e=>.clo (.func 110) 1 0 (fun i=>([.agv 28 (fun j=>(ZaF.c e).getD j .junk)]:List C).getD i .junk) (fun i=>([]:List C).getD i .junk) | .c111 e=>.clo (.func 111) 1 0 (fun i=>([.agv 28 (fun j=>(ZaF.c e).getD j .junk)]:List C).getD i .junk) (fun i=>([]:List C).getD i .junk) | .c112 e=>.clo (.func 112) 1 0 (fun i=>([.agv 28 (fun j=>(ZaF.c e).getD j .junk)]:List C).getD i .junk) (fun i=>([]:List C).getD i .junk)
structure Zan where
 fgot:(List Zad)
def Zan.d:Zan:=⟨([]:(List Zad))⟩
def Zan.c(a:Zan):List C:=[cL 13 Zad.c Zad.d a.fgot]
def Zan.ok(a:Zan):Prop:=(okL Zad.ok) a.fgot∧True
structure Zav where
 fNet:Zai
 fV:Int
 deriving DecidableEq
def Zav.d:Zav:=⟨Zai.d,(0:Int)⟩
def Zav.c(a:Zav):List C:=[.lit (.bool a.fNet.fAddr.fV6),.lit (.int .u64 a.fNet.fAddr.fHi),.lit (.int .u64 a.fNet.fAddr.fLo),.lit (.int .i64 a.fNet.fBits),.lit (.int .i64 a.fV)]
def Zav.ok(a:Zav):Prop:=Zai.ok a.fNet∧(okI .i64) a.fV∧True
inductive Zau where
 |nil
 |mk (a0:Zav) (a1:Bool) (a2:Zau) (a3:Zau)
def Zau.isNil:Zau→Bool | .nil=>true | .mk _ _ _ _=>false
def Zau.cs:Zau→Nat→C | .nil=>fun _=>.junk | .mk a0 a1 a2 a3=>fun j=>([.lit (.bool a0.fNet.fAddr.fV6),.lit (.int .u64 a0.fNet.fAddr.fHi),.lit (.int .u64 a0.fNet.fAddr.fLo),.lit (.int .i64 a0.fNet.fBits),.lit (.int .i64 a0.fV),.lit (.bool a1),.rp a2.isNil 8 a2.cs,.rp a3.isNil 8 a3.cs]:List C).getD (0+j) .junk
def Zau.c(x:Zau):C:=.rp x.isNil 8 x.cs
inductive ZaE where
 |nil
 |mk (a0:Zau) (a1:Zau) (a2:Int)
def ZaE.isNil:ZaE→Bool | .nil=>true | .mk _ _ _=>false
def ZaE.cs:ZaE→Nat→C | .nil=>fun _=>.junk | .mk a0 a1 a2=>fun j=>([.rp a0.isNil 8 a0.cs,.rp a1.isNil 8 a1.cs,.lit (.int .i64 a2)]:List C).getD (0+j) .junk
def ZaE.c(x:ZaE):C:=.rp x.isNil 3 x.cs
structure Zin where
 fhit:Zav
 fhas:Bool
 fkids:(Zau×Zau)
def Zin.d:Zin:=⟨Zav.d,false,(Zau.nil,Zau.nil)⟩
def Zin.c(a:Zin):List C:=[.lit (.bool a.fhit.fNet.fAddr.fV6),.lit (.int .u64 a.fhit.fNet.fAddr.fHi),.lit (.int .u64 a.fhit.fNet.fAddr.fLo),.lit (.int .i64 a.fhit.fNet.fBits),.lit (.int .i64 a.fhit.fV),.lit (.bool a.fhas),Zau.c a.fkids.1,Zau.c a.fkids.2]
structure ZaD where
 fBook:(List Zaa)
 fPeers:(List Zab)
 fBans:(List Zah)
def ZaD.d:ZaD:=⟨([]:(List Zaa)),([]:(List Zab)),([]:(List Zah))⟩
def ZaD.c(a:ZaD):List C:=[cL 7 Zaa.c Zaa.d a.fBook,cL 10 Zab.c Zab.d a.fPeers,cL 5 Zah.c Zah.d a.fBans]
def ZaD.ok(a:ZaD):Prop:=(okL Zaa.ok) a.fBook∧(okL Zab.ok) a.fPeers∧(okL Zah.ok) a.fBans∧True
structure Zaf where
 fKey:Int
 fEnd:Zaj
 deriving DecidableEq
def Zaf.d:Zaf:=⟨(0:Int),Zaj.d⟩
def Zaf.c(a:Zaf):List C:=[.lit (.int .i64 a.fKey),.lit (.bool a.fEnd.fAddr.fV6),.lit (.int .u64 a.fEnd.fAddr.fHi),.lit (.int .u64 a.fEnd.fAddr.fLo),.lit (.int .i64 a.fEnd.fPort)]
def Zaf.ok(a:Zaf):Prop:=(okI .i64) a.fKey∧Zaj.ok a.fEnd∧True
inductive Tout (α:Type) where
 |ret (x:α) (g:Zan)
 |pan (op:Zas)
 |bad (s:ByteArray)
def pvOf{α:Type} : {x:Tout α}→{e:Option (Tout α)}→e=some x→V | .ret _ _,_,_=>.one .junk | .pan op,_,_=>.one (.ifa 111 21 (fun i=>(Zas.c op).getD i .junk)) | .bad s,_,_=>.one (.ifc 9 (.lit (.string s)))
def oc{α:Type}(v:α→V):Tout α→Outc | .ret x g=>.ret [(100000,.box (Zan.c g))] (v x) | .pan op=>.pan (.one (.ifa 111 21 (fun i=>(Zas.c op).getD i .junk))) | .bad s=>.pan (.one (.ifc 9 (.lit (.string s))))
theorem ZqR : ZrF Tryz.prog 112 "Drop" 461 := fun x w => by kernel_rfl
theorem ZfZ : ZrF Tryz.prog 112 "Free" 462 := fun x w => by kernel_rfl
theorem ZrM : ZCC Tryz.prog 112 "Free" := fun x w => by kernel_rfl
theorem Zet : ZrF Tryz.prog 112 "Load" 463 := fun x w => by kernel_rfl
theorem Zkr : ZCC Tryz.prog 112 "Load" := fun x w => by kernel_rfl
theorem ZiL : ZrF Tryz.prog 112 "Lock" 464 := fun x w => by kernel_rfl
theorem ZxU : ZrF Tryz.prog 112 "Pass" 465 := fun x w => by kernel_rfl
theorem ZpD : ZrF Tryz.prog 112 "Share" 466 := fun x w => by kernel_rfl
theorem Zjo : ZrF Tryz.prog 112 "Store" 467 := fun x w => by kernel_rfl
theorem ZnL : ZCC Tryz.prog 112 "Store" := fun x w => by kernel_rfl
theorem ZxT : ZrF Tryz.prog 112 "Swap" 468 := fun x w => by kernel_rfl
def tab:Tab:=[ (1,⟨.func,1,8,some (.nilFunc)⟩),(3,⟨.int .i64,1,8,some (.int .i64 (0))⟩),(4,⟨.bool,1,1,some (.bool false)⟩),(5,⟨.int .u8,1,1,some (.int .u8 (0))⟩),(9,⟨.str,1,16,some (.string ⟨#[]⟩)⟩),(20,⟨.iface,1,16,some (.nilIface)⟩),(22,⟨.int .u64,1,8,some (.int .u64 (0))⟩),(23,⟨.struct [(0,3),(1,3),(2,3),(3,3)],4,32,some (.agg #[.int .i64 (0),.int .i64 (0),.int .i64 (0),.int .i64 (0)])⟩),(24,⟨.struct [(0,3),(1,3),(2,3),(3,3)],4,32,some (.agg #[.int .i64 (0),.int .i64 (0),.int .i64 (0),.int .i64 (0)])⟩),(25,⟨.struct [(0,3),(1,3),(2,3),(3,3),(4,3),(5,22),(6,24),(10,3),(11,3),(12,3),(13,3),(14,3),(15,3)],16,128,some (.agg #[.int .i64 (0),.int .i64 (0),.int .i64 (0),.int .i64 (0),.int .i64 (0),.int .u64 (0),.int .i64 (0),.int .i64 (0),.int .i64 (0),.int .i64 (0),.int .i64 (0),.int .i64 (0),.int .i64 (0),.int .i64 (0),.int .i64 (0),.int .i64 (0)])⟩),(26,⟨.struct [(0,3),(1,3),(2,3),(3,3),(4,3),(5,22),(6,24),(10,3),(11,3),(12,3),(13,3),(14,3),(15,3)],16,128,some (.agg #[.int .i64 (0),.int .i64 (0),.int .i64 (0),.int .i64 (0),.int .i64 (0),.int .u64 (0),.int .i64 (0),.int .i64 (0),.int .i64 (0),.int .i64 (0),.int .i64 (0),.int .i64 (0),.int .i64 (0),.int .i64 (0),.int .i64 (0),.int .i64 (0)])⟩),(27,⟨.struct [(0,4),(1,22),(2,22)],3,24,some (.agg #[.bool false,.int .u64 (0),.int .u64 (0)])⟩),(28,⟨.struct [(0,4),(1,22),(2,22)],3,24,some (.agg #[.bool false,.int .u64 (0),.int .u64 (0)])⟩),(29,⟨.struct [(0,28),(3,3)],4,32,some (.agg #[.bool false,.int .u64 (0),.int .u64 (0),.int .i64 (0)])⟩),(30,⟨.struct [(0,28),(3,3)],4,32,some (.agg #[.bool false,.int .u64 (0),.int .u64 (0),.int .i64 (0)])⟩),(31,⟨.struct [(0,28),(3,3)],4,32,some (.agg #[.bool false,.int .u64 (0),.int .u64 (0),.int .i64 (0)])⟩),(32,⟨.struct [(0,28),(3,3)],4,32,some (.agg #[.bool false,.int .u64 (0),.int .u64 (0),.int .i64 (0)])⟩),(33,⟨.struct [(0,3),(1,30),(5,32),(9,3),(10,3),(11,4)],12,96,some (.agg #[.int .i64 (0),.bool false,.int .u64 (0),.int .u64 (0),.int .i64 (0),.bool false,.int .u64 (0),.int .u64 (0),.int .i64 (0),.int .i64 (0),.int .i64 (0),.bool false])⟩),(34,⟨.struct [(0,3),(1,30),(5,32),(9,3),(10,3),(11,4)],12,96,some (.agg #[.int .i64 (0),.bool false,.int .u64 (0),.int .u64 (0),.int .i64 (0),.bool false,.int .u64 (0),.int .u64 (0),.int .i64 (0),.int .i64 (0),.int .i64 (0),.bool false])⟩),(35,⟨.slice 48,1,24,some (.slice none 0 0)⟩),(39,⟨.struct [(0,3),(1,3),(2,3)],3,24,some (.agg #[.int .i64 (0),.int .i64 (0),.int .i64 (0)])⟩),(40,⟨.struct [(0,3),(1,3),(2,3)],3,24,some (.agg #[.int .i64 (0),.int .i64 (0),.int .i64 (0)])⟩),(41,⟨.struct [(0,3),(1,3)],2,16,some (.agg #[.int .i64 (0),.int .i64 (0)])⟩),(42,⟨.struct [(0,3),(1,3)],2,16,some (.agg #[.int .i64 (0),.int .i64 (0)])⟩),(43,⟨.struct [(0,30),(4,4),(5,3),(6,42),(8,3),(9,3)],10,80,some (.agg #[.bool false,.int .u64 (0),.int .u64 (0),.int .i64 (0),.bool false,.int .i64 (0),.int .i64 (0),.int .i64 (0),.int .i64 (0),.int .i64 (0)])⟩),(44,⟨.struct [(0,30),(4,4),(5,3),(6,42),(8,3),(9,3)],10,80,some (.agg #[.bool false,.int .u64 (0),.int .u64 (0),.int .i64 (0),.bool false,.int .i64 (0),.int .i64 (0),.int .i64 (0),.int .i64 (0),.int .i64 (0)])⟩),(45,⟨.slice 146,1,24,some (.slice none 0 0)⟩),(46,⟨.slice 106,1,24,some (.slice none 0 0)⟩),(47,⟨.struct [(0,3),(1,44),(11,45),(12,46)],13,136,some (.agg #[.int .i64 (0),.bool false,.int .u64 (0),.int .u64 (0),.int .i64 (0),.bool false,.int .i64 (0),.int .i64 (0),.int .i64 (0),.int .i64 (0),.int .i64 (0),.slice none 0 0,.slice none 0 0])⟩),(48,⟨.struct [(0,3),(1,44),(11,45),(12,46)],13,136,some (.agg #[.int .i64 (0),.bool false,.int .u64 (0),.int .u64 (0),.int .i64 (0),.bool false,.int .i64 (0),.int .i64 (0),.int .i64 (0),.int .i64 (0),.int .i64 (0),.slice none 0 0,.slice none 0 0])⟩),(49,⟨.struct [(0,3),(1,3),(2,40),(5,3),(6,3),(7,48),(20,4)],21,200,some (.agg #[.int .i64 (0),.int .i64 (0),.int .i64 (0),.int .i64 (0),.int .i64 (0),.int .i64 (0),.int .i64 (0),.int .i64 (0),.bool false,.int .u64 (0),.int .u64 (0),.int .i64 (0),.bool false,.int .i64 (0),.int .i64 (0),.int .i64 (0),.int .i64 (0),.int .i64 (0),.slice none 0 0,.slice none 0 0,.bool false])⟩),(50,⟨.struct [(0,3),(1,3),(2,40),(5,3),(6,3),(7,48),(20,4)],21,200,some (.agg #[.int .i64 (0),.int .i64 (0),.int .i64 (0),.int .i64 (0),.int .i64 (0),.int .i64 (0),.int .i64 (0),.int .i64 (0),.bool false,.int .u64 (0),.int .u64 (0),.int .i64 (0),.bool false,.int .i64 (0),.int .i64 (0),.int .i64 (0),.int .i64 (0),.int .i64 (0),.slice none 0 0,.slice none 0 0,.bool false])⟩),(51,⟨.struct [(0,35),(1,3),(2,50),(23,4)],24,240,some (.agg #[.slice none 0 0,.int .i64 (0),.int .i64 (0),.int .i64 (0),.int .i64 (0),.int .i64 (0),.int .i64 (0),.int .i64 (0),.int .i64 (0),.int .i64 (0),.bool false,.int .u64 (0),.int .u64 (0),.int .i64 (0),.bool false,.int .i64 (0),.int .i64 (0),.int .i64 (0),.int .i64 (0),.int .i64 (0),.slice none 0 0,.slice none 0 0,.bool false,.bool false])⟩),(52,⟨.struct [(0,35),(1,3),(2,50),(23,4)],24,240,some (.agg #[.slice none 0 0,.int .i64 (0),.int .i64 (0),.int .i64 (0),.int .i64 (0),.int .i64 (0),.int .i64 (0),.int .i64 (0),.int .i64 (0),.int .i64 (0),.bool false,.int .u64 (0),.int .u64 (0),.int .i64 (0),.bool false,.int .i64 (0),.int .i64 (0),.int .i64 (0),.int .i64 (0),.int .i64 (0),.slice none 0 0,.slice none 0 0,.bool false,.bool false])⟩),(53,⟨.int .i64,1,8,some (.int .i64 (0))⟩),(54,⟨.slice 44,1,24,some (.slice none 0 0)⟩),(55,⟨.struct [(0,53),(1,30),(5,3),(6,3),(7,54)],8,80,some (.agg #[.int .i64 (0),.bool false,.int .u64 (0),.int .u64 (0),.int .i64 (0),.int .i64 (0),.int .i64 (0),.slice none 0 0])⟩),(56,⟨.struct [(0,53),(1,30),(5,3),(6,3),(7,54)],8,80,some (.agg #[.int .i64 (0),.bool false,.int .u64 (0),.int .u64 (0),.int .i64 (0),.int .i64 (0),.int .i64 (0),.slice none 0 0])⟩),(60,⟨.struct [(0,50),(21,56),(29,4),(30,4)],31,288,some (.agg #[.int .i64 (0),.int .i64 (0),.int .i64 (0),.int .i64 (0),.int .i64 (0),.int .i64 (0),.int .i64 (0),.int .i64 (0),.bool false,.int .u64 (0),.int .u64 (0),.int .i64 (0),.bool false,.int .i64 (0),.int .i64 (0),.int .i64 (0),.int .i64 (0),.int .i64 (0),.slice none 0 0,.slice none 0 0,.bool false,.int .i64 (0),.bool false,.int .u64 (0),.int .u64 (0),.int .i64 (0),.int .i64 (0),.int .i64 (0),.slice none 0 0,.bool false,.bool false])⟩),(61,⟨.struct [(0,50),(21,56),(29,4),(30,4)],31,288,some (.agg #[.int .i64 (0),.int .i64 (0),.int .i64 (0),.int .i64 (0),.int .i64 (0),.int .i64 (0),.int .i64 (0),.int .i64 (0),.bool false,.int .u64 (0),.int .u64 (0),.int .i64 (0),.bool false,.int .i64 (0),.int .i64 (0),.int .i64 (0),.int .i64 (0),.int .i64 (0),.slice none 0 0,.slice none 0 0,.bool false,.int .i64 (0),.bool false,.int .u64 (0),.int .u64 (0),.int .i64 (0),.int .i64 (0),.int .i64 (0),.slice none 0 0,.bool false,.bool false])⟩),(75,⟨.func,1,8,some (.nilFunc)⟩),(76,⟨.func,1,8,some (.nilFunc)⟩),(105,⟨.struct [(0,30),(4,3),(5,3),(6,3)],7,56,some (.agg #[.bool false,.int .u64 (0),.int .u64 (0),.int .i64 (0),.int .i64 (0),.int .i64 (0),.int .i64 (0)])⟩),(106,⟨.struct [(0,30),(4,3),(5,3),(6,3)],7,56,some (.agg #[.bool false,.int .u64 (0),.int .u64 (0),.int .i64 (0),.int .i64 (0),.int .i64 (0),.int .i64 (0)])⟩),(110,⟨.struct [(0,50)],21,200,some (.agg #[.int .i64 (0),.int .i64 (0),.int .i64 (0),.int .i64 (0),.int .i64 (0),.int .i64 (0),.int .i64 (0),.int .i64 (0),.bool false,.int .u64 (0),.int .u64 (0),.int .i64 (0),.bool false,.int .i64 (0),.int .i64 (0),.int .i64 (0),.int .i64 (0),.int .i64 (0),.slice none 0 0,.slice none 0 0,.bool false])⟩),(111,⟨.struct [(0,50)],21,200,some (.agg #[.int .i64 (0),.int .i64 (0),.int .i64 (0),.int .i64 (0),.int .i64 (0),.int .i64 (0),.int .i64 (0),.int .i64 (0),.bool false,.int .u64 (0),.int .u64 (0),.int .i64 (0),.bool false,.int .i64 (0),.int .i64 (0),.int .i64 (0),.int .i64 (0),.int .i64 (0),.slice none 0 0,.slice none 0 0,.bool false])⟩),(112,⟨.ptr 114,1,8,some (.pointer none)⟩),(113,⟨.struct [(0,35)],1,24,some (.agg #[.slice none 0 0])⟩),(114,⟨.struct [(0,35)],1,24,some (.agg #[.slice none 0 0])⟩),(125,⟨.slice 3,1,24,some (.slice none 0 0)⟩),(145,⟨.struct [(0,32),(4,3)],5,40,some (.agg #[.bool false,.int .u64 (0),.int .u64 (0),.int .i64 (0),.int .i64 (0)])⟩),(146,⟨.struct [(0,32),(4,3)],5,40,some (.agg #[.bool false,.int .u64 (0),.int .u64 (0),.int .i64 (0),.int .i64 (0)])⟩),(152,⟨.iface,1,16,some (.nilIface)⟩),(153,⟨.iface,1,16,some (.nilIface)⟩),(156,⟨.struct [(0,26),(16,34)],28,224,some (.agg #[.int .i64 (0),.int .i64 (0),.int .i64 (0),.int .i64 (0),.int .i64 (0),.int .u64 (0),.int .i64 (0),.int .i64 (0),.int .i64 (0),.int .i64 (0),.int .i64 (0),.int .i64 (0),.int .i64 (0),.int .i64 (0),.int .i64 (0),.int .i64 (0),.int .i64 (0),.bool false,.int .u64 (0),.int .u64 (0),.int .i64 (0),.bool false,.int .u64 (0),.int .u64 (0),.int .i64 (0),.int .i64 (0),.int .i64 (0),.bool false])⟩),(157,⟨.struct [(0,26),(16,34)],28,224,some (.agg #[.int .i64 (0),.int .i64 (0),.int .i64 (0),.int .i64 (0),.int .i64 (0),.int .u64 (0),.int .i64 (0),.int .i64 (0),.int .i64 (0),.int .i64 (0),.int .i64 (0),.int .i64 (0),.int .i64 (0),.int .i64 (0),.int .i64 (0),.int .i64 (0),.int .i64 (0),.bool false,.int .u64 (0),.int .u64 (0),.int .i64 (0),.bool false,.int .u64 (0),.int .u64 (0),.int .i64 (0),.int .i64 (0),.int .i64 (0),.bool false])⟩),(173,⟨.func,1,8,some (.nilFunc)⟩),(174,⟨.func,1,8,some (.nilFunc)⟩),(176,⟨.func,1,8,some (.nilFunc)⟩),(179,⟨.slice 181,1,24,some (.slice none 0 0)⟩),(181,⟨.int .i64,1,8,some (.int .i64 (0))⟩),(187,⟨.func,1,8,some (.nilFunc)⟩),(225,⟨.slice 54,1,24,some (.slice none 0 0)⟩),(230,⟨.func,1,8,some (.nilFunc)⟩),(244,⟨.func,1,8,some (.nilFunc)⟩),(245,⟨.slice 9,1,24,some (.slice none 0 0)⟩),(252,⟨.array 14 9,14,224,some (.agg #[.string ⟨#[]⟩,.string ⟨#[]⟩,.string ⟨#[]⟩,.string ⟨#[]⟩,.string ⟨#[]⟩,.string ⟨#[]⟩,.string ⟨#[]⟩,.string ⟨#[]⟩,.string ⟨#[]⟩,.string ⟨#[]⟩,.string ⟨#[]⟩,.string ⟨#[]⟩,.string ⟨#[]⟩,.string ⟨#[]⟩])⟩),(275,⟨.slice 22,1,24,some (.slice none 0 0)⟩),(276,⟨.slice 281,1,24,some (.slice none 0 0)⟩),(277,⟨.ptr 328,1,8,some (.pointer none)⟩),(280,⟨.struct [(0,32),(4,3)],5,40,some (.agg #[.bool false,.int .u64 (0),.int .u64 (0),.int .i64 (0),.int .i64 (0)])⟩),(281,⟨.struct [(0,32),(4,3)],5,40,some (.agg #[.bool false,.int .u64 (0),.int .u64 (0),.int .i64 (0),.int .i64 (0)])⟩),(288,⟨.struct [(0,46),(1,54),(2,45)],3,72,some (.agg #[.slice none 0 0,.slice none 0 0,.slice none 0 0])⟩),(289,⟨.struct [(0,46),(1,54),(2,45)],3,72,some (.agg #[.slice none 0 0,.slice none 0 0,.slice none 0 0])⟩),(298,⟨.int .u64,1,8,some (.int .u64 (0))⟩),(303,⟨.int .u32,1,4,some (.int .u32 (0))⟩),(325,⟨.ptr 330,1,8,some (.pointer none)⟩),(326,⟨.array 2 325,2,16,some (.agg #[.pointer none,.pointer none])⟩),(327,⟨.struct [(0,326),(2,3)],3,24,some (.agg #[.pointer none,.pointer none,.int .i64 (0)])⟩),(328,⟨.struct [(0,326),(2,3)],3,24,some (.agg #[.pointer none,.pointer none,.int .i64 (0)])⟩),(329,⟨.struct [(0,281),(5,4),(6,326)],8,64,some (.agg #[.bool false,.int .u64 (0),.int .u64 (0),.int .i64 (0),.int .i64 (0),.bool false,.pointer none,.pointer none])⟩),(330,⟨.struct [(0,281),(5,4),(6,326)],8,64,some (.agg #[.bool false,.int .u64 (0),.int .u64 (0),.int .i64 (0),.int .i64 (0),.bool false,.pointer none,.pointer none])⟩),(338,⟨.slice 341,1,24,some (.slice none 0 0)⟩),(340,⟨.struct [(0,3),(1,30)],5,40,some (.agg #[.int .i64 (0),.bool false,.int .u64 (0),.int .u64 (0),.int .i64 (0)])⟩),(341,⟨.struct [(0,3),(1,30)],5,40,some (.agg #[.int .i64 (0),.bool false,.int .u64 (0),.int .u64 (0),.int .i64 (0)])⟩),(378,⟨.slice 32,1,24,some (.slice none 0 0)⟩)]
theorem ZGM:ZdC Tryz.prog tab:=
 .cons ⟨by kernel_rfl,by kernel_rfl,_,Tryz.underlying1,trivial⟩ <|
 .cons ⟨by kernel_rfl,by kernel_rfl,_,Tryz.underlying3,rfl⟩ <|
 .cons ⟨by kernel_rfl,by kernel_rfl,_,Tryz.underlying4,trivial⟩ <|
 .cons ⟨by kernel_rfl,by kernel_rfl,_,Tryz.underlying5,rfl⟩ <|
 .cons ⟨by kernel_rfl,by kernel_rfl,_,Tryz.underlying9,trivial⟩ <|
 .cons ⟨by kernel_rfl,by kernel_rfl,_,Tryz.underlying20,trivial⟩ <|
 .cons ⟨by kernel_rfl,by kernel_rfl,_,Tryz.underlying22,rfl⟩ <|
 .cons ⟨by kernel_rfl,by kernel_rfl,_,Tryz.underlying23,rfl⟩ <|
 .cons ⟨by kernel_rfl,by kernel_rfl,_,Tryz.underlying24,rfl⟩ <|
 .cons ⟨by kernel_rfl,by kernel_rfl,_,Tryz.underlying25,rfl⟩ <|
 .cons ⟨by kernel_rfl,by kernel_rfl,_,Tryz.underlying26,rfl⟩ <|
 .cons ⟨by kernel_rfl,by kernel_rfl,_,Tryz.underlying27,rfl⟩ <|
 .cons ⟨by kernel_rfl,by kernel_rfl,_,Tryz.underlying28,rfl⟩ <|
 .cons ⟨by kernel_rfl,by kernel_rfl,_,Tryz.underlying29,rfl⟩ <|
 .cons ⟨by kernel_rfl,by kernel_rfl,_,Tryz.underlying30,rfl⟩ <|
 .cons ⟨by kernel_rfl,by kernel_rfl,_,Tryz.underlying31,rfl⟩ <|
 .cons ⟨by kernel_rfl,by kernel_rfl,_,Tryz.underlying32,rfl⟩ <|
 .cons ⟨by kernel_rfl,by kernel_rfl,_,Tryz.underlying33,rfl⟩ <|
 .cons ⟨by kernel_rfl,by kernel_rfl,_,Tryz.underlying34,rfl⟩ <|
 .cons ⟨by kernel_rfl,by kernel_rfl,_,Tryz.underlying35,rfl⟩ <|
 .cons ⟨by kernel_rfl,by kernel_rfl,_,Tryz.underlying39,rfl⟩ <|
 .cons ⟨by kernel_rfl,by kernel_rfl,_,Tryz.underlying40,rfl⟩ <|
 .cons ⟨by kernel_rfl,by kernel_rfl,_,Tryz.underlying41,rfl⟩ <|
 .cons ⟨by kernel_rfl,by kernel_rfl,_,Tryz.underlying42,rfl⟩ <|
 .cons ⟨by kernel_rfl,by kernel_rfl,_,Tryz.underlying43,rfl⟩ <|
 .cons ⟨by kernel_rfl,by kernel_rfl,_,Tryz.underlying44,rfl⟩ <|
 .cons ⟨by kernel_rfl,by kernel_rfl,_,Tryz.underlying45,rfl⟩ <|
 .cons ⟨by kernel_rfl,by kernel_rfl,_,Tryz.underlying46,rfl⟩ <|
 .cons ⟨by kernel_rfl,by kernel_rfl,_,Tryz.underlying47,rfl⟩ <|
 .cons ⟨by kernel_rfl,by kernel_rfl,_,Tryz.underlying48,rfl⟩ <|
 .cons ⟨by kernel_rfl,by kernel_rfl,_,Tryz.underlying49,rfl⟩ <|
 .cons ⟨by kernel_rfl,by kernel_rfl,_,Tryz.underlying50,rfl⟩ <|
 .cons ⟨by kernel_rfl,by kernel_rfl,_,Tryz.underlying51,rfl⟩ <|
 .cons ⟨by kernel_rfl,by kernel_rfl,_,Tryz.underlying52,rfl⟩ <|
 .cons ⟨by kernel_rfl,by kernel_rfl,_,Tryz.underlying53,rfl⟩ <|
 .cons ⟨by kernel_rfl,by kernel_rfl,_,Tryz.underlying54,rfl⟩ <|
 .cons ⟨by kernel_rfl,by kernel_rfl,_,Tryz.underlying55,rfl⟩ <|
 .cons ⟨by kernel_rfl,by kernel_rfl,_,Tryz.underlying56,rfl⟩ <|
 .cons ⟨by kernel_rfl,by kernel_rfl,_,Tryz.underlying60,rfl⟩ <|
 .cons ⟨by kernel_rfl,by kernel_rfl,_,Tryz.underlying61,rfl⟩ <|
 .cons ⟨by kernel_rfl,by kernel_rfl,_,Tryz.underlying75,trivial⟩ <|
 .cons ⟨by kernel_rfl,by kernel_rfl,_,Tryz.underlying76,trivial⟩ <|
 .cons ⟨by kernel_rfl,by kernel_rfl,_,Tryz.underlying105,rfl⟩ <|
 .cons ⟨by kernel_rfl,by kernel_rfl,_,Tryz.underlying106,rfl⟩ <|
 .cons ⟨by kernel_rfl,by kernel_rfl,_,Tryz.underlying110,rfl⟩ <|
 .cons ⟨by kernel_rfl,by kernel_rfl,_,Tryz.underlying111,rfl⟩ <|
 .cons ⟨by kernel_rfl,by kernel_rfl,_,Tryz.underlying112,rfl⟩ <|
 .cons ⟨by kernel_rfl,by kernel_rfl,_,Tryz.underlying113,rfl⟩ <|
 .cons ⟨by kernel_rfl,by kernel_rfl,_,Tryz.underlying114,rfl⟩ <|
 .cons ⟨by kernel_rfl,by kernel_rfl,_,Tryz.underlying125,rfl⟩ <|
 .cons ⟨by kernel_rfl,by kernel_rfl,_,Tryz.underlying145,rfl⟩ <|
 .cons ⟨by kernel_rfl,by kernel_rfl,_,Tryz.underlying146,rfl⟩ <|
 .cons ⟨by kernel_rfl,by kernel_rfl,_,Tryz.underlying152,trivial⟩ <|
 .cons ⟨by kernel_rfl,by kernel_rfl,_,Tryz.underlying153,trivial⟩ <|
 .cons ⟨by kernel_rfl,by kernel_rfl,_,Tryz.underlying156,rfl⟩ <|
 .cons ⟨by kernel_rfl,by kernel_rfl,_,Tryz.underlying157,rfl⟩ <|
 .cons ⟨by kernel_rfl,by kernel_rfl,_,Tryz.underlying173,trivial⟩ <|
 .cons ⟨by kernel_rfl,by kernel_rfl,_,Tryz.underlying174,trivial⟩ <|
 .cons ⟨by kernel_rfl,by kernel_rfl,_,Tryz.underlying176,trivial⟩ <|
 .cons ⟨by kernel_rfl,by kernel_rfl,_,Tryz.underlying179,rfl⟩ <|
 .cons ⟨by kernel_rfl,by kernel_rfl,_,Tryz.underlying181,rfl⟩ <|
 .cons ⟨by kernel_rfl,by kernel_rfl,_,Tryz.underlying187,trivial⟩ <|
 .cons ⟨by kernel_rfl,by kernel_rfl,_,Tryz.underlying225,rfl⟩ <|
 .cons ⟨by kernel_rfl,by kernel_rfl,_,Tryz.underlying230,trivial⟩ <|
 .cons ⟨by kernel_rfl,by kernel_rfl,_,Tryz.underlying244,trivial⟩ <|
 .cons ⟨by kernel_rfl,by kernel_rfl,_,Tryz.underlying245,rfl⟩ <|
 .cons ⟨by kernel_rfl,by kernel_rfl,_,Tryz.underlying252,⟨rfl,rfl⟩⟩ <|
 .cons ⟨by kernel_rfl,by kernel_rfl,_,Tryz.underlying275,rfl⟩ <|
 .cons ⟨by kernel_rfl,by kernel_rfl,_,Tryz.underlying276,rfl⟩ <|
 .cons ⟨by kernel_rfl,by kernel_rfl,_,Tryz.underlying277,rfl⟩ <|
 .cons ⟨by kernel_rfl,by kernel_rfl,_,Tryz.underlying280,rfl⟩ <|
 .cons ⟨by kernel_rfl,by kernel_rfl,_,Tryz.underlying281,rfl⟩ <|
 .cons ⟨by kernel_rfl,by kernel_rfl,_,Tryz.underlying288,rfl⟩ <|
 .cons ⟨by kernel_rfl,by kernel_rfl,_,Tryz.underlying289,rfl⟩ <|
 .cons ⟨by kernel_rfl,by kernel_rfl,_,Tryz.underlying298,rfl⟩ <|
 .cons ⟨by kernel_rfl,by kernel_rfl,_,Tryz.underlying303,rfl⟩ <|
 .cons ⟨by kernel_rfl,by kernel_rfl,_,Tryz.underlying325,rfl⟩ <|
 .cons ⟨by kernel_rfl,by kernel_rfl,_,Tryz.underlying326,⟨rfl,rfl⟩⟩ <|
 .cons ⟨by kernel_rfl,by kernel_rfl,_,Tryz.underlying327,rfl⟩ <|
 .cons ⟨by kernel_rfl,by kernel_rfl,_,Tryz.underlying328,rfl⟩ <|
 .cons ⟨by kernel_rfl,by kernel_rfl,_,Tryz.underlying329,rfl⟩ <|
 .cons ⟨by kernel_rfl,by kernel_rfl,_,Tryz.underlying330,rfl⟩ <|
 .cons ⟨by kernel_rfl,by kernel_rfl,_,Tryz.underlying338,rfl⟩ <|
 .cons ⟨by kernel_rfl,by kernel_rfl,_,Tryz.underlying340,rfl⟩ <|
 .cons ⟨by kernel_rfl,by kernel_rfl,_,Tryz.underlying341,rfl⟩ <|
 .cons ⟨by kernel_rfl,by kernel_rfl,_,Tryz.underlying378,rfl⟩ <|
 .nil _
theorem Zam:ZpZ Tryz.prog tab:=⟨ZGM,by kernel_rfl⟩
end Go.Proofs.YtdjfoojllbfcgaaGreat
