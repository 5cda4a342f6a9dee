import Derived.Test.YtdjfoojllbfcgaaGreatProg
import Derived.Shelf.Spec.SlicesInsertGrow
import Derived.Lib.Hide
import Derived.Test.YtdjfoojllbfcgaaGreatQPlA
import Derived.Test.YtdjfoojllbfcgaaGreatQAmPy
namespace Go.Proofs.YtdjfoojllbfcgaaGreat
open Go.RowKit Go.Lib Go.Shelf
set_option linter.unusedVariables false
set_option maxRecDepth 100000
structure ZcL where
  fGroup:Int
  fPing:Int
  fWork:Int
  fTime:Int
  deriving DecidableEq
def ZcL.d:ZcL:=⟨(0:Int),(0:Int),(0:Int),(0:Int)⟩
def ZcL.c (a:ZcL):List C:=[.lit (.int .i64 a.fGroup),.lit (.int .i64 a.fPing),.lit (.int .i64 a.fWork),.lit (.int .i64 a.fTime)]
def ZcL.ok (a:ZcL):Prop:=(okI .i64) a.fGroup∧(okI .i64) a.fPing∧(okI .i64) a.fWork∧(okI .i64) a.fTime∧True
theorem Zri:Opn Tryz.prog 24 ZcL.c ZcL.ok:=Zgx (ea:=(cP (cI .i64) (cP (cI .i64) (cP (cI .i64) (cP (cI .i64) cU))))) (oa:=(okP (okI .i64) (okP (okI .i64) (okP (okI .i64) (okP (okI .i64) okU))))) (N:=4) Tryz.underlying24 (by kernel_rfl) (ZaR (sz:=1) rfl rfl (by kernel_rfl) (Zdm Tryz.underlying3) (ZaR (sz:=1) rfl rfl (by kernel_rfl) (Zdm Tryz.underlying3) (ZaR (sz:=1) rfl rfl (by kernel_rfl) (Zdm Tryz.underlying3) (ZaR (sz:=1) rfl rfl (by kernel_rfl) (Zdm Tryz.underlying3) Ziw)))) (fun (a:Int × Int × Int × Int × Unit) =>(⟨a.1,a.2.1,a.2.2.1,a.2.2.2.1⟩ : ZcL)) (fun _ =>rfl) (fun _ h =>h)
structure ZaZ where
  fGroup:Int
  fPing:Int
  fWork:Int
  fTime:Int
  deriving DecidableEq
def ZaZ.d:ZaZ:=⟨(0:Int),(0:Int),(0:Int),(0:Int)⟩
def ZaZ.c (a:ZaZ):List C:=[.lit (.int .i64 a.fGroup),.lit (.int .i64 a.fPing),.lit (.int .i64 a.fWork),.lit (.int .i64 a.fTime)]
def ZaZ.ok (a:ZaZ):Prop:=(okI .i64) a.fGroup∧(okI .i64) a.fPing∧(okI .i64) a.fWork∧(okI .i64) a.fTime∧True
structure Zaz where
  fMaxIn:Int
  fMaxOut:Int
  fShards:Int
  fMaxBans:Int
  fMaxBook:Int
  fSecret:Int
  fQuota:ZcL
  fHalf:Int
  fLimit:Int
  fBanFor:Int
  fBase:Int
  fCap:Int
  fJitter:Int
  deriving DecidableEq
def Zaz.d:Zaz:=⟨(0:Int),(0:Int),(0:Int),(0:Int),(0:Int),(0:Int),ZcL.d,(0:Int),(0:Int),(0:Int),(0:Int),(0:Int),(0:Int)⟩
def Zaz.c (a:Zaz):List C:=[.lit (.int .i64 a.fMaxIn),.lit (.int .i64 a.fMaxOut),.lit (.int .i64 a.fShards),.lit (.int .i64 a.fMaxBans),.lit (.int .i64 a.fMaxBook),.lit (.int .u64 a.fSecret),.lit (.int .i64 a.fQuota.fGroup),.lit (.int .i64 a.fQuota.fPing),.lit (.int .i64 a.fQuota.fWork),.lit (.int .i64 a.fQuota.fTime),.lit (.int .i64 a.fHalf),.lit (.int .i64 a.fLimit),.lit (.int .i64 a.fBanFor),.lit (.int .i64 a.fBase),.lit (.int .i64 a.fCap),.lit (.int .i64 a.fJitter)]
def Zaz.ok (a:Zaz):Prop:=(okI .i64) a.fMaxIn∧(okI .i64) a.fMaxOut∧(okI .i64) a.fShards∧(okI .i64) a.fMaxBans∧(okI .i64) a.fMaxBook∧(okI .u64) a.fSecret∧ZcL.ok a.fQuota∧(okI .i64) a.fHalf∧(okI .i64) a.fLimit∧(okI .i64) a.fBanFor∧(okI .i64) a.fBase∧(okI .i64) a.fCap∧(okI .i64) a.fJitter∧True
theorem Zsj:Opn Tryz.prog 26 Zaz.c Zaz.ok:=Zgx (ea:=(cP (cI .i64) (cP (cI .i64) (cP (cI .i64) (cP (cI .i64) (cP (cI .i64) (cP (cI .u64) (cP ZcL.c (cP (cI .i64) (cP (cI .i64) (cP (cI .i64) (cP (cI .i64) (cP (cI .i64) (cP (cI .i64) cU)))))))))))))) (oa:=(okP (okI .i64) (okP (okI .i64) (okP (okI .i64) (okP (okI .i64) (okP (okI .i64) (okP (okI .u64) (okP ZcL.ok (okP (okI .i64) (okP (okI .i64) (okP (okI .i64) (okP (okI .i64) (okP (okI .i64) (okP (okI .i64) okU)))))))))))))) (N:=16) Tryz.underlying26 (by kernel_rfl) (ZaR (sz:=1) rfl rfl (by kernel_rfl) (Zdm Tryz.underlying3) (ZaR (sz:=1) rfl rfl (by kernel_rfl) (Zdm Tryz.underlying3) (ZaR (sz:=1) rfl rfl (by kernel_rfl) (Zdm Tryz.underlying3) (ZaR (sz:=1) rfl rfl (by kernel_rfl) (Zdm Tryz.underlying3) (ZaR (sz:=1) rfl rfl (by kernel_rfl) (Zdm Tryz.underlying3) (ZaR (sz:=1) rfl rfl (by kernel_rfl) (Zdm Tryz.underlying22) (ZaR (sz:=4) rfl rfl (by kernel_rfl) Zri (ZaR (sz:=1) rfl rfl (by kernel_rfl) (Zdm Tryz.underlying3) (ZaR (sz:=1) rfl rfl (by kernel_rfl) (Zdm Tryz.underlying3) (ZaR (sz:=1) rfl rfl (by kernel_rfl) (Zdm Tryz.underlying3) (ZaR (sz:=1) rfl rfl (by kernel_rfl) (Zdm Tryz.underlying3) (ZaR (sz:=1) rfl rfl (by kernel_rfl) (Zdm Tryz.underlying3) (ZaR (sz:=1) rfl rfl (by kernel_rfl) (Zdm Tryz.underlying3) Ziw))))))))))))) (fun (a:Int × Int × Int × Int × Int × Int × ZcL × Int × Int × Int × Int × Int × Int × Unit) =>(⟨a.1,a.2.1,a.2.2.1,a.2.2.2.1,a.2.2.2.2.1,a.2.2.2.2.2.1,a.2.2.2.2.2.2.1,a.2.2.2.2.2.2.2.1,a.2.2.2.2.2.2.2.2.1,a.2.2.2.2.2.2.2.2.2.1,a.2.2.2.2.2.2.2.2.2.2.1,a.2.2.2.2.2.2.2.2.2.2.2.1,a.2.2.2.2.2.2.2.2.2.2.2.2.1⟩ : Zaz)) (fun _ =>rfl) (fun _ h =>h)
structure ZaW where
  fMaxIn:Int
  fMaxOut:Int
  fShards:Int
  fMaxBans:Int
  fMaxBook:Int
  fSecret:Int
  fQuota:ZcL
  fHalf:Int
  fLimit:Int
  fBanFor:Int
  fBase:Int
  fCap:Int
  fJitter:Int
  deriving DecidableEq
def ZaW.d:ZaW:=⟨(0:Int),(0:Int),(0:Int),(0:Int),(0:Int),(0:Int),ZcL.d,(0:Int),(0:Int),(0:Int),(0:Int),(0:Int),(0:Int)⟩
def ZaW.c (a:ZaW):List C:=[.lit (.int .i64 a.fMaxIn),.lit (.int .i64 a.fMaxOut),.lit (.int .i64 a.fShards),.lit (.int .i64 a.fMaxBans),.lit (.int .i64 a.fMaxBook),.lit (.int .u64 a.fSecret),.lit (.int .i64 a.fQuota.fGroup),.lit (.int .i64 a.fQuota.fPing),.lit (.int .i64 a.fQuota.fWork),.lit (.int .i64 a.fQuota.fTime),.lit (.int .i64 a.fHalf),.lit (.int .i64 a.fLimit),.lit (.int .i64 a.fBanFor),.lit (.int .i64 a.fBase),.lit (.int .i64 a.fCap),.lit (.int .i64 a.fJitter)]
def ZaW.ok (a:ZaW):Prop:=(okI .i64) a.fMaxIn∧(okI .i64) a.fMaxOut∧(okI .i64) a.fShards∧(okI .i64) a.fMaxBans∧(okI .i64) a.fMaxBook∧(okI .u64) a.fSecret∧ZcL.ok a.fQuota∧(okI .i64) a.fHalf∧(okI .i64) a.fLimit∧(okI .i64) a.fBanFor∧(okI .i64) a.fBase∧(okI .i64) a.fCap∧(okI .i64) a.fJitter∧True
structure Zag where
  fV6:Bool
  fHi:Int
  fLo:Int
  deriving DecidableEq
def Zag.d:Zag:=⟨false,(0:Int),(0:Int)⟩
def Zag.c (a:Zag):List C:=[.lit (.bool a.fV6),.lit (.int .u64 a.fHi),.lit (.int .u64 a.fLo)]
def Zag.ok (a:Zag):Prop:=okB a.fV6∧(okI .u64) a.fHi∧(okI .u64) a.fLo∧True
theorem Zoa:Opn Tryz.prog 28 Zag.c Zag.ok:=Zgx (ea:=(cP cB (cP (cI .u64) (cP (cI .u64) cU)))) (oa:=(okP okB (okP (okI .u64) (okP (okI .u64) okU)))) (N:=3) Tryz.underlying28 (by kernel_rfl) (ZaR (sz:=1) rfl rfl (by kernel_rfl) (ZtA Tryz.underlying4) (ZaR (sz:=1) rfl rfl (by kernel_rfl) (Zdm Tryz.underlying22) (ZaR (sz:=1) rfl rfl (by kernel_rfl) (Zdm Tryz.underlying22) Ziw))) (fun (a:Bool × Int × Int × Unit) =>(⟨a.1,a.2.1,a.2.2.1⟩ : Zag)) (fun _ =>rfl) (fun _ h =>h)
structure Zbl where
  fV6:Bool
  fHi:Int
  fLo:Int
  deriving DecidableEq
def Zbl.d:Zbl:=⟨false,(0:Int),(0:Int)⟩
def Zbl.c (a:Zbl):List C:=[.lit (.bool a.fV6),.lit (.int .u64 a.fHi),.lit (.int .u64 a.fLo)]
def Zbl.ok (a:Zbl):Prop:=okB a.fV6∧(okI .u64) a.fHi∧(okI .u64) a.fLo∧True
structure Zaf where
  fAddr:Zag
  fPort:Int
  deriving DecidableEq
def Zaf.d:Zaf:=⟨Zag.d,(0:Int)⟩
def Zaf.c (a:Zaf):List C:=[.lit (.bool a.fAddr.fV6),.lit (.int .u64 a.fAddr.fHi),.lit (.int .u64 a.fAddr.fLo),.lit (.int .i64 a.fPort)]
def Zaf.ok (a:Zaf):Prop:=Zag.ok a.fAddr∧(okI .i64) a.fPort∧True
theorem ZlT:Opn Tryz.prog 30 Zaf.c Zaf.ok:=Zgx (ea:=(cP Zag.c (cP (cI .i64) cU))) (oa:=(okP Zag.ok (okP (okI .i64) okU))) (N:=4) Tryz.underlying30 (by kernel_rfl) (ZaR (sz:=3) rfl rfl (by kernel_rfl) Zoa (ZaR (sz:=1) rfl rfl (by kernel_rfl) (Zdm Tryz.underlying3) Ziw)) (fun (a:Zag × Int × Unit) =>(⟨a.1,a.2.1⟩ : Zaf)) (fun _ =>rfl) (fun _ h =>h)
structure Zbz where
  fAddr:Zag
  fPort:Int
  deriving DecidableEq
def Zbz.d:Zbz:=⟨Zag.d,(0:Int)⟩
def Zbz.c (a:Zbz):List C:=[.lit (.bool a.fAddr.fV6),.lit (.int .u64 a.fAddr.fHi),.lit (.int .u64 a.fAddr.fLo),.lit (.int .i64 a.fPort)]
def Zbz.ok (a:Zbz):Prop:=Zag.ok a.fAddr∧(okI .i64) a.fPort∧True
structure Zap where
  fAddr:Zag
  fBits:Int
  deriving DecidableEq
def Zap.d:Zap:=⟨Zag.d,(0:Int)⟩
def Zap.c (a:Zap):List C:=[.lit (.bool a.fAddr.fV6),.lit (.int .u64 a.fAddr.fHi),.lit (.int .u64 a.fAddr.fLo),.lit (.int .i64 a.fBits)]
def Zap.ok (a:Zap):Prop:=Zag.ok a.fAddr∧(okI .i64) a.fBits∧True
theorem ZoP:Opn Tryz.prog 32 Zap.c Zap.ok:=Zgx (ea:=(cP Zag.c (cP (cI .i64) cU))) (oa:=(okP Zag.ok (okP (okI .i64) okU))) (N:=4) Tryz.underlying32 (by kernel_rfl) (ZaR (sz:=3) rfl rfl (by kernel_rfl) Zoa (ZaR (sz:=1) rfl rfl (by kernel_rfl) (Zdm Tryz.underlying3) Ziw)) (fun (a:Zag × Int × Unit) =>(⟨a.1,a.2.1⟩ : Zap)) (fun _ =>rfl) (fun _ h =>h)
structure ZbA where
  fAddr:Zag
  fBits:Int
  deriving DecidableEq
def ZbA.d:ZbA:=⟨Zag.d,(0:Int)⟩
def ZbA.c (a:ZbA):List C:=[.lit (.bool a.fAddr.fV6),.lit (.int .u64 a.fAddr.fHi),.lit (.int .u64 a.fAddr.fLo),.lit (.int .i64 a.fBits)]
def ZbA.ok (a:ZbA):Prop:=Zag.ok a.fAddr∧(okI .i64) a.fBits∧True
structure Zaw where
  fKind:Int
  fEnd:Zaf
  fNet:Zap
  fNow:Int
  fNum:Int
  fGood:Bool
  deriving DecidableEq
def Zaw.d:Zaw:=⟨(0:Int),Zaf.d,Zap.d,(0:Int),(0:Int),false⟩
def Zaw.c (a:Zaw):List C:=[.lit (.int .i64 a.fKind),.lit (.bool a.fEnd.fAddr.fV6),.lit (.int .u64 a.fEnd.fAddr.fHi),.lit (.int .u64 a.fEnd.fAddr.fLo),.lit (.int .i64 a.fEnd.fPort),.lit (.bool a.fNet.fAddr.fV6),.lit (.int .u64 a.fNet.fAddr.fHi),.lit (.int .u64 a.fNet.fAddr.fLo),.lit (.int .i64 a.fNet.fBits),.lit (.int .i64 a.fNow),.lit (.int .i64 a.fNum),.lit (.bool a.fGood)]
def Zaw.ok (a:Zaw):Prop:=(okI .i64) a.fKind∧Zaf.ok a.fEnd∧Zap.ok a.fNet∧(okI .i64) a.fNow∧(okI .i64) a.fNum∧okB a.fGood∧True
theorem Zsk:Opn Tryz.prog 34 Zaw.c Zaw.ok:=Zgx (ea:=(cP (cI .i64) (cP Zaf.c (cP Zap.c (cP (cI .i64) (cP (cI .i64) (cP cB cU))))))) (oa:=(okP (okI .i64) (okP Zaf.ok (okP Zap.ok (okP (okI .i64) (okP (okI .i64) (okP okB okU))))))) (N:=12) Tryz.underlying34 (by kernel_rfl) (ZaR (sz:=1) rfl rfl (by kernel_rfl) (Zdm Tryz.underlying3) (ZaR (sz:=4) rfl rfl (by kernel_rfl) ZlT (ZaR (sz:=4) rfl rfl (by kernel_rfl) ZoP (ZaR (sz:=1) rfl rfl (by kernel_rfl) (Zdm Tryz.underlying3) (ZaR (sz:=1) rfl rfl (by kernel_rfl) (Zdm Tryz.underlying3) (ZaR (sz:=1) rfl rfl (by kernel_rfl) (ZtA Tryz.underlying4) Ziw)))))) (fun (a:Int × Zaf × Zap × Int × Int × Bool × Unit) =>(⟨a.1,a.2.1,a.2.2.1,a.2.2.2.1,a.2.2.2.2.1,a.2.2.2.2.2.1⟩ : Zaw)) (fun _ =>rfl) (fun _ h =>h)
structure ZaY where
  fKind:Int
  fEnd:Zaf
  fNet:Zap
  fNow:Int
  fNum:Int
  fGood:Bool
  deriving DecidableEq
def ZaY.d:ZaY:=⟨(0:Int),Zaf.d,Zap.d,(0:Int),(0:Int),false⟩
def ZaY.c (a:ZaY):List C:=[.lit (.int .i64 a.fKind),.lit (.bool a.fEnd.fAddr.fV6),.lit (.int .u64 a.fEnd.fAddr.fHi),.lit (.int .u64 a.fEnd.fAddr.fLo),.lit (.int .i64 a.fEnd.fPort),.lit (.bool a.fNet.fAddr.fV6),.lit (.int .u64 a.fNet.fAddr.fHi),.lit (.int .u64 a.fNet.fAddr.fLo),.lit (.int .i64 a.fNet.fBits),.lit (.int .i64 a.fNow),.lit (.int .i64 a.fNum),.lit (.bool a.fGood)]
def ZaY.ok (a:ZaY):Prop:=(okI .i64) a.fKind∧Zaf.ok a.fEnd∧Zap.ok a.fNet∧(okI .i64) a.fNow∧(okI .i64) a.fNum∧okB a.fGood∧True
structure Zah where
  fPoints:Int
  fAt:Int
  deriving DecidableEq
def Zah.d:Zah:=⟨(0:Int),(0:Int)⟩
def Zah.c (a:Zah):List C:=[.lit (.int .i64 a.fPoints),.lit (.int .i64 a.fAt)]
def Zah.ok (a:Zah):Prop:=(okI .i64) a.fPoints∧(okI .i64) a.fAt∧True
theorem Zrh:Opn Tryz.prog 42 Zah.c Zah.ok:=Zgx (ea:=(cP (cI .i64) (cP (cI .i64) cU))) (oa:=(okP (okI .i64) (okP (okI .i64) okU))) (N:=2) Tryz.underlying42 (by kernel_rfl) (ZaR (sz:=1) rfl rfl (by kernel_rfl) (Zdm Tryz.underlying3) (ZaR (sz:=1) rfl rfl (by kernel_rfl) (Zdm Tryz.underlying3) Ziw)) (fun (a:Int × Int × Unit) =>(⟨a.1,a.2.1⟩ : Zah)) (fun _ =>rfl) (fun _ h =>h)
structure Zaa where
  fEnd:Zaf
  fIn:Bool
  fSince:Int
  fScore:Zah
  fPing:Int
  fWork:Int
  deriving DecidableEq
def Zaa.d:Zaa:=⟨Zaf.d,false,(0:Int),Zah.d,(0:Int),(0:Int)⟩
def Zaa.c (a:Zaa):List C:=[.lit (.bool a.fEnd.fAddr.fV6),.lit (.int .u64 a.fEnd.fAddr.fHi),.lit (.int .u64 a.fEnd.fAddr.fLo),.lit (.int .i64 a.fEnd.fPort),.lit (.bool a.fIn),.lit (.int .i64 a.fSince),.lit (.int .i64 a.fScore.fPoints),.lit (.int .i64 a.fScore.fAt),.lit (.int .i64 a.fPing),.lit (.int .i64 a.fWork)]
def Zaa.ok (a:Zaa):Prop:=Zaf.ok a.fEnd∧okB a.fIn∧(okI .i64) a.fSince∧Zah.ok a.fScore∧(okI .i64) a.fPing∧(okI .i64) a.fWork∧True
theorem Zsi:Opn Tryz.prog 44 Zaa.c Zaa.ok:=Zgx (ea:=(cP Zaf.c (cP cB (cP (cI .i64) (cP Zah.c (cP (cI .i64) (cP (cI .i64) cU))))))) (oa:=(okP Zaf.ok (okP okB (okP (okI .i64) (okP Zah.ok (okP (okI .i64) (okP (okI .i64) okU))))))) (N:=10) Tryz.underlying44 (by kernel_rfl) (ZaR (sz:=4) rfl rfl (by kernel_rfl) ZlT (ZaR (sz:=1) rfl rfl (by kernel_rfl) (ZtA Tryz.underlying4) (ZaR (sz:=1) rfl rfl (by kernel_rfl) (Zdm Tryz.underlying3) (ZaR (sz:=2) rfl rfl (by kernel_rfl) Zrh (ZaR (sz:=1) rfl rfl (by kernel_rfl) (Zdm Tryz.underlying3) (ZaR (sz:=1) rfl rfl (by kernel_rfl) (Zdm Tryz.underlying3) Ziw)))))) (fun (a:Zaf × Bool × Int × Zah × Int × Int × Unit) =>(⟨a.1,a.2.1,a.2.2.1,a.2.2.2.1,a.2.2.2.2.1,a.2.2.2.2.2.1⟩ : Zaa)) (fun _ =>rfl) (fun _ h =>h)
structure Zab where
  fNet:Zap
  fUntil:Int
  deriving DecidableEq
def Zab.d:Zab:=⟨Zap.d,(0:Int)⟩
def Zab.c (a:Zab):List C:=[.lit (.bool a.fNet.fAddr.fV6),.lit (.int .u64 a.fNet.fAddr.fHi),.lit (.int .u64 a.fNet.fAddr.fLo),.lit (.int .i64 a.fNet.fBits),.lit (.int .i64 a.fUntil)]
def Zab.ok (a:Zab):Prop:=Zap.ok a.fNet∧(okI .i64) a.fUntil∧True
theorem ZtB:Opn Tryz.prog 146 Zab.c Zab.ok:=Zgx (ea:=(cP Zap.c (cP (cI .i64) cU))) (oa:=(okP Zap.ok (okP (okI .i64) okU))) (N:=5) Tryz.underlying146 (by kernel_rfl) (ZaR (sz:=4) rfl rfl (by kernel_rfl) ZoP (ZaR (sz:=1) rfl rfl (by kernel_rfl) (Zdm Tryz.underlying3) Ziw)) (fun (a:Zap × Int × Unit) =>(⟨a.1,a.2.1⟩ : Zab)) (fun _ =>rfl) (fun _ h =>h)
structure Zac where
  fEnd:Zaf
  fState:Int
  fFails:Int
  fNext:Int
  deriving DecidableEq
def Zac.d:Zac:=⟨Zaf.d,(0:Int),(0:Int),(0:Int)⟩
def Zac.c (a:Zac):List C:=[.lit (.bool a.fEnd.fAddr.fV6),.lit (.int .u64 a.fEnd.fAddr.fHi),.lit (.int .u64 a.fEnd.fAddr.fLo),.lit (.int .i64 a.fEnd.fPort),.lit (.int .i64 a.fState),.lit (.int .i64 a.fFails),.lit (.int .i64 a.fNext)]
def Zac.ok (a:Zac):Prop:=Zaf.ok a.fEnd∧(okI .i64) a.fState∧(okI .i64) a.fFails∧(okI .i64) a.fNext∧True
theorem Zrj:Opn Tryz.prog 106 Zac.c Zac.ok:=Zgx (ea:=(cP Zaf.c (cP (cI .i64) (cP (cI .i64) (cP (cI .i64) cU))))) (oa:=(okP Zaf.ok (okP (okI .i64) (okP (okI .i64) (okP (okI .i64) okU))))) (N:=7) Tryz.underlying106 (by kernel_rfl) (ZaR (sz:=4) rfl rfl (by kernel_rfl) ZlT (ZaR (sz:=1) rfl rfl (by kernel_rfl) (Zdm Tryz.underlying3) (ZaR (sz:=1) rfl rfl (by kernel_rfl) (Zdm Tryz.underlying3) (ZaR (sz:=1) rfl rfl (by kernel_rfl) (Zdm Tryz.underlying3) Ziw)))) (fun (a:Zaf × Int × Int × Int × Unit) =>(⟨a.1,a.2.1,a.2.2.1,a.2.2.2.1⟩ : Zac)) (fun _ =>rfl) (fun _ h =>h)
structure Zae where
  fN:Int
  fPeer:Zaa
  fBans:(List Zab)
  fBook:(List Zac)
def Zae.d:Zae:=⟨(0:Int),Zaa.d,([]:(List Zab)),([]:(List Zac))⟩
def Zae.c (a:Zae):List C:=[.lit (.int .i64 a.fN),.lit (.bool a.fPeer.fEnd.fAddr.fV6),.lit (.int .u64 a.fPeer.fEnd.fAddr.fHi),.lit (.int .u64 a.fPeer.fEnd.fAddr.fLo),.lit (.int .i64 a.fPeer.fEnd.fPort),.lit (.bool a.fPeer.fIn),.lit (.int .i64 a.fPeer.fSince),.lit (.int .i64 a.fPeer.fScore.fPoints),.lit (.int .i64 a.fPeer.fScore.fAt),.lit (.int .i64 a.fPeer.fPing),.lit (.int .i64 a.fPeer.fWork),cL 5 Zab.c Zab.d a.fBans,cL 7 Zac.c Zac.d a.fBook]
def Zae.ok (a:Zae):Prop:=(okI .i64) a.fN∧Zaa.ok a.fPeer∧(okL Zab.ok) a.fBans∧(okL Zac.ok) a.fBook∧True
theorem Zrg:Opn Tryz.prog 48 Zae.c Zae.ok:=Zgx (ea:=(cP (cI .i64) (cP Zaa.c (cP (cLs 5 Zab.c Zab.d) (cP (cLs 7 Zac.c Zac.d) cU))))) (oa:=(okP (okI .i64) (okP Zaa.ok (okP (okL Zab.ok) (okP (okL Zac.ok) okU))))) (N:=13) Tryz.underlying48 (by kernel_rfl) (ZaR (sz:=1) rfl rfl (by kernel_rfl) (Zdm Tryz.underlying3) (ZaR (sz:=10) rfl rfl (by kernel_rfl) Zsi (ZaR (sz:=1) rfl rfl (by kernel_rfl) (Zrf (d:=Zab.d) Tryz.underlying45 (by kernel_rfl) (by decide) (fun _ =>rfl) ZtB) (ZaR (sz:=1) rfl rfl (by kernel_rfl) (Zrf (d:=Zac.d) Tryz.underlying46 (by kernel_rfl) (by decide) (fun _ =>rfl) Zrj) Ziw)))) (fun (a:Int × Zaa × (List Zab) × (List Zac) × Unit) =>(⟨a.1,a.2.1,a.2.2.1,a.2.2.2.1⟩ : Zae)) (fun _ =>rfl) (fun _ h =>h)
structure ZaV where
  fN:Int
  fPeer:Zaa
  fBans:(List Zab)
  fBook:(List Zac)
def ZaV.d:ZaV:=⟨(0:Int),Zaa.d,([]:(List Zab)),([]:(List Zac))⟩
def ZaV.c (a:ZaV):List C:=[.lit (.int .i64 a.fN),.lit (.bool a.fPeer.fEnd.fAddr.fV6),.lit (.int .u64 a.fPeer.fEnd.fAddr.fHi),.lit (.int .u64 a.fPeer.fEnd.fAddr.fLo),.lit (.int .i64 a.fPeer.fEnd.fPort),.lit (.bool a.fPeer.fIn),.lit (.int .i64 a.fPeer.fSince),.lit (.int .i64 a.fPeer.fScore.fPoints),.lit (.int .i64 a.fPeer.fScore.fAt),.lit (.int .i64 a.fPeer.fPing),.lit (.int .i64 a.fPeer.fWork),cL 5 Zab.c Zab.d a.fBans,cL 7 Zac.c Zac.d a.fBook]
def ZaV.ok (a:ZaV):Prop:=(okI .i64) a.fN∧Zaa.ok a.fPeer∧(okL Zab.ok) a.fBans∧(okL Zac.ok) a.fBook∧True
structure Zbb where
  fEnd:Zaf
  fIn:Bool
  fSince:Int
  fScore:Zah
  fPing:Int
  fWork:Int
  deriving DecidableEq
def Zbb.d:Zbb:=⟨Zaf.d,false,(0:Int),Zah.d,(0:Int),(0:Int)⟩
def Zbb.c (a:Zbb):List C:=[.lit (.bool a.fEnd.fAddr.fV6),.lit (.int .u64 a.fEnd.fAddr.fHi),.lit (.int .u64 a.fEnd.fAddr.fLo),.lit (.int .i64 a.fEnd.fPort),.lit (.bool a.fIn),.lit (.int .i64 a.fSince),.lit (.int .i64 a.fScore.fPoints),.lit (.int .i64 a.fScore.fAt),.lit (.int .i64 a.fPing),.lit (.int .i64 a.fWork)]
def Zbb.ok (a:Zbb):Prop:=Zaf.ok a.fEnd∧okB a.fIn∧(okI .i64) a.fSince∧Zah.ok a.fScore∧(okI .i64) a.fPing∧(okI .i64) a.fWork∧True
structure Zcb where
  fPoints:Int
  fAt:Int
  deriving DecidableEq
def Zcb.d:Zcb:=⟨(0:Int),(0:Int)⟩
def Zcb.c (a:Zcb):List C:=[.lit (.int .i64 a.fPoints),.lit (.int .i64 a.fAt)]
def Zcb.ok (a:Zcb):Prop:=(okI .i64) a.fPoints∧(okI .i64) a.fAt∧True
structure Zby where
  fNet:Zap
  fUntil:Int
  deriving DecidableEq
def Zby.d:Zby:=⟨Zap.d,(0:Int)⟩
def Zby.c (a:Zby):List C:=[.lit (.bool a.fNet.fAddr.fV6),.lit (.int .u64 a.fNet.fAddr.fHi),.lit (.int .u64 a.fNet.fAddr.fLo),.lit (.int .i64 a.fNet.fBits),.lit (.int .i64 a.fUntil)]
def Zby.ok (a:Zby):Prop:=Zap.ok a.fNet∧(okI .i64) a.fUntil∧True
structure ZaN where
  fEnd:Zaf
  fState:Int
  fFails:Int
  fNext:Int
  deriving DecidableEq
def ZaN.d:ZaN:=⟨Zaf.d,(0:Int),(0:Int),(0:Int)⟩
def ZaN.c (a:ZaN):List C:=[.lit (.bool a.fEnd.fAddr.fV6),.lit (.int .u64 a.fEnd.fAddr.fHi),.lit (.int .u64 a.fEnd.fAddr.fLo),.lit (.int .i64 a.fEnd.fPort),.lit (.int .i64 a.fState),.lit (.int .i64 a.fFails),.lit (.int .i64 a.fNext)]
def ZaN.ok (a:ZaN):Prop:=Zaf.ok a.fEnd∧(okI .i64) a.fState∧(okI .i64) a.fFails∧(okI .i64) a.fNext∧True
structure Zan where
  fKind:Int
  fShard:Int
  fSlot:Int
  deriving DecidableEq
def Zan.d:Zan:=⟨(0:Int),(0:Int),(0:Int)⟩
def Zan.c (a:Zan):List C:=[.lit (.int .i64 a.fKind),.lit (.int .i64 a.fShard),.lit (.int .i64 a.fSlot)]
def Zan.ok (a:Zan):Prop:=(okI .i64) a.fKind∧(okI .i64) a.fShard∧(okI .i64) a.fSlot∧True
structure Zbm where
  fKind:Int
  fShard:Int
  fSlot:Int
  deriving DecidableEq
def Zbm.d:Zbm:=⟨(0:Int),(0:Int),(0:Int)⟩
def Zbm.c (a:Zbm):List C:=[.lit (.int .i64 a.fKind),.lit (.int .i64 a.fShard),.lit (.int .i64 a.fSlot)]
def Zbm.ok (a:Zbm):Prop:=(okI .i64) a.fKind∧(okI .i64) a.fShard∧(okI .i64) a.fSlot∧True
structure Zao where
  fKind:Int
  fLock:Int
  fLoc:Zan
  fOld:Int
  fNew:Int
  fVal:Zae
  fMark:Bool
def Zao.d:Zao:=⟨(0:Int),(0:Int),Zan.d,(0:Int),(0:Int),Zae.d,false⟩
def Zao.c (a:Zao):List C:=[.lit (.int .i64 a.fKind),.lit (.int .i64 a.fLock),.lit (.int .i64 a.fLoc.fKind),.lit (.int .i64 a.fLoc.fShard),.lit (.int .i64 a.fLoc.fSlot),.lit (.int .i64 a.fOld),.lit (.int .i64 a.fNew),.lit (.int .i64 a.fVal.fN),.lit (.bool a.fVal.fPeer.fEnd.fAddr.fV6),.lit (.int .u64 a.fVal.fPeer.fEnd.fAddr.fHi),.lit (.int .u64 a.fVal.fPeer.fEnd.fAddr.fLo),.lit (.int .i64 a.fVal.fPeer.fEnd.fPort),.lit (.bool a.fVal.fPeer.fIn),.lit (.int .i64 a.fVal.fPeer.fSince),.lit (.int .i64 a.fVal.fPeer.fScore.fPoints),.lit (.int .i64 a.fVal.fPeer.fScore.fAt),.lit (.int .i64 a.fVal.fPeer.fPing),.lit (.int .i64 a.fVal.fPeer.fWork),cL 5 Zab.c Zab.d a.fVal.fBans,cL 7 Zac.c Zac.d a.fVal.fBook,.lit (.bool a.fMark)]
def Zao.ok (a:Zao):Prop:=(okI .i64) a.fKind∧(okI .i64) a.fLock∧Zan.ok a.fLoc∧(okI .i64) a.fOld∧(okI .i64) a.fNew∧Zae.ok a.fVal∧okB a.fMark∧True
structure ZaX where
  fKind:Int
  fLock:Int
  fLoc:Zan
  fOld:Int
  fNew:Int
  fVal:Zae
  fMark:Bool
def ZaX.d:ZaX:=⟨(0:Int),(0:Int),Zan.d,(0:Int),(0:Int),Zae.d,false⟩
def ZaX.c (a:ZaX):List C:=[.lit (.int .i64 a.fKind),.lit (.int .i64 a.fLock),.lit (.int .i64 a.fLoc.fKind),.lit (.int .i64 a.fLoc.fShard),.lit (.int .i64 a.fLoc.fSlot),.lit (.int .i64 a.fOld),.lit (.int .i64 a.fNew),.lit (.int .i64 a.fVal.fN),.lit (.bool a.fVal.fPeer.fEnd.fAddr.fV6),.lit (.int .u64 a.fVal.fPeer.fEnd.fAddr.fHi),.lit (.int .u64 a.fVal.fPeer.fEnd.fAddr.fLo),.lit (.int .i64 a.fVal.fPeer.fEnd.fPort),.lit (.bool a.fVal.fPeer.fIn),.lit (.int .i64 a.fVal.fPeer.fSince),.lit (.int .i64 a.fVal.fPeer.fScore.fPoints),.lit (.int .i64 a.fVal.fPeer.fScore.fAt),.lit (.int .i64 a.fVal.fPeer.fPing),.lit (.int .i64 a.fVal.fPeer.fWork),cL 5 Zab.c Zab.d a.fVal.fBans,cL 7 Zac.c Zac.d a.fVal.fBook,.lit (.bool a.fMark)]
def ZaX.ok (a:ZaX):Prop:=(okI .i64) a.fKind∧(okI .i64) a.fLock∧Zan.ok a.fLoc∧(okI .i64) a.fOld∧(okI .i64) a.fNew∧Zae.ok a.fVal∧okB a.fMark∧True
structure Zad where
  fGot:(List Zae)
  fAt:Int
  fOp:Zao
  fWait:Bool
def Zad.d:Zad:=⟨([]:(List Zae)),(0:Int),Zao.d,false⟩
def Zad.c (a:Zad):List C:=[cL 13 Zae.c Zae.d a.fGot,.lit (.int .i64 a.fAt),.lit (.int .i64 a.fOp.fKind),.lit (.int .i64 a.fOp.fLock),.lit (.int .i64 a.fOp.fLoc.fKind),.lit (.int .i64 a.fOp.fLoc.fShard),.lit (.int .i64 a.fOp.fLoc.fSlot),.lit (.int .i64 a.fOp.fOld),.lit (.int .i64 a.fOp.fNew),.lit (.int .i64 a.fOp.fVal.fN),.lit (.bool a.fOp.fVal.fPeer.fEnd.fAddr.fV6),.lit (.int .u64 a.fOp.fVal.fPeer.fEnd.fAddr.fHi),.lit (.int .u64 a.fOp.fVal.fPeer.fEnd.fAddr.fLo),.lit (.int .i64 a.fOp.fVal.fPeer.fEnd.fPort),.lit (.bool a.fOp.fVal.fPeer.fIn),.lit (.int .i64 a.fOp.fVal.fPeer.fSince),.lit (.int .i64 a.fOp.fVal.fPeer.fScore.fPoints),.lit (.int .i64 a.fOp.fVal.fPeer.fScore.fAt),.lit (.int .i64 a.fOp.fVal.fPeer.fPing),.lit (.int .i64 a.fOp.fVal.fPeer.fWork),cL 5 Zab.c Zab.d a.fOp.fVal.fBans,cL 7 Zac.c Zac.d a.fOp.fVal.fBook,.lit (.bool a.fOp.fMark),.lit (.bool a.fWait)]
def Zad.ok (a:Zad):Prop:=(okL Zae.ok) a.fGot∧(okI .i64) a.fAt∧Zao.ok a.fOp∧okB a.fWait∧True
structure Zba where
  fGot:(List Zae)
  fAt:Int
  fOp:Zao
  fWait:Bool
def Zba.d:Zba:=⟨([]:(List Zae)),(0:Int),Zao.d,false⟩
def Zba.c (a:Zba):List C:=[cL 13 Zae.c Zae.d a.fGot,.lit (.int .i64 a.fAt),.lit (.int .i64 a.fOp.fKind),.lit (.int .i64 a.fOp.fLock),.lit (.int .i64 a.fOp.fLoc.fKind),.lit (.int .i64 a.fOp.fLoc.fShard),.lit (.int .i64 a.fOp.fLoc.fSlot),.lit (.int .i64 a.fOp.fOld),.lit (.int .i64 a.fOp.fNew),.lit (.int .i64 a.fOp.fVal.fN),.lit (.bool a.fOp.fVal.fPeer.fEnd.fAddr.fV6),.lit (.int .u64 a.fOp.fVal.fPeer.fEnd.fAddr.fHi),.lit (.int .u64 a.fOp.fVal.fPeer.fEnd.fAddr.fLo),.lit (.int .i64 a.fOp.fVal.fPeer.fEnd.fPort),.lit (.bool a.fOp.fVal.fPeer.fIn),.lit (.int .i64 a.fOp.fVal.fPeer.fSince),.lit (.int .i64 a.fOp.fVal.fPeer.fScore.fPoints),.lit (.int .i64 a.fOp.fVal.fPeer.fScore.fAt),.lit (.int .i64 a.fOp.fVal.fPeer.fPing),.lit (.int .i64 a.fOp.fVal.fPeer.fWork),cL 5 Zab.c Zab.d a.fOp.fVal.fBans,cL 7 Zac.c Zac.d a.fOp.fVal.fBook,.lit (.bool a.fOp.fMark),.lit (.bool a.fWait)]
def Zba.ok (a:Zba):Prop:=(okL Zae.ok) a.fGot∧(okI .i64) a.fAt∧Zao.ok a.fOp∧okB a.fWait∧True
structure Zam where
  fCode:Int
  fEnd:Zaf
  fN:Int
  fUntil:Int
  fPeers:(List Zaa)
def Zam.d:Zam:=⟨(0:Int),Zaf.d,(0:Int),(0:Int),([]:(List Zaa))⟩
def Zam.c (a:Zam):List C:=[.lit (.int .i64 a.fCode),.lit (.bool a.fEnd.fAddr.fV6),.lit (.int .u64 a.fEnd.fAddr.fHi),.lit (.int .u64 a.fEnd.fAddr.fLo),.lit (.int .i64 a.fEnd.fPort),.lit (.int .i64 a.fN),.lit (.int .i64 a.fUntil),cL 10 Zaa.c Zaa.d a.fPeers]
def Zam.ok (a:Zam):Prop:=(okI .i64) a.fCode∧Zaf.ok a.fEnd∧(okI .i64) a.fN∧(okI .i64) a.fUntil∧(okL Zaa.ok) a.fPeers∧True
structure Zbc where
  fCode:Int
  fEnd:Zaf
  fN:Int
  fUntil:Int
  fPeers:(List Zaa)
def Zbc.d:Zbc:=⟨(0:Int),Zaf.d,(0:Int),(0:Int),([]:(List Zaa))⟩
def Zbc.c (a:Zbc):List C:=[.lit (.int .i64 a.fCode),.lit (.bool a.fEnd.fAddr.fV6),.lit (.int .u64 a.fEnd.fAddr.fHi),.lit (.int .u64 a.fEnd.fAddr.fLo),.lit (.int .i64 a.fEnd.fPort),.lit (.int .i64 a.fN),.lit (.int .i64 a.fUntil),cL 10 Zaa.c Zaa.d a.fPeers]
def Zbc.ok (a:Zbc):Prop:=(okI .i64) a.fCode∧Zaf.ok a.fEnd∧(okI .i64) a.fN∧(okI .i64) a.fUntil∧(okL Zaa.ok) a.fPeers∧True
structure ZaM where
  fOp:Zao
  fReply:Zam
  fDone:Bool
  fBroken:Bool
def ZaM.d:ZaM:=⟨Zao.d,Zam.d,false,false⟩
def ZaM.c (a:ZaM):List C:=[.lit (.int .i64 a.fOp.fKind),.lit (.int .i64 a.fOp.fLock),.lit (.int .i64 a.fOp.fLoc.fKind),.lit (.int .i64 a.fOp.fLoc.fShard),.lit (.int .i64 a.fOp.fLoc.fSlot),.lit (.int .i64 a.fOp.fOld),.lit (.int .i64 a.fOp.fNew),.lit (.int .i64 a.fOp.fVal.fN),.lit (.bool a.fOp.fVal.fPeer.fEnd.fAddr.fV6),.lit (.int .u64 a.fOp.fVal.fPeer.fEnd.fAddr.fHi),.lit (.int .u64 a.fOp.fVal.fPeer.fEnd.fAddr.fLo),.lit (.int .i64 a.fOp.fVal.fPeer.fEnd.fPort),.lit (.bool a.fOp.fVal.fPeer.fIn),.lit (.int .i64 a.fOp.fVal.fPeer.fSince),.lit (.int .i64 a.fOp.fVal.fPeer.fScore.fPoints),.lit (.int .i64 a.fOp.fVal.fPeer.fScore.fAt),.lit (.int .i64 a.fOp.fVal.fPeer.fPing),.lit (.int .i64 a.fOp.fVal.fPeer.fWork),cL 5 Zab.c Zab.d a.fOp.fVal.fBans,cL 7 Zac.c Zac.d a.fOp.fVal.fBook,.lit (.bool a.fOp.fMark),.lit (.int .i64 a.fReply.fCode),.lit (.bool a.fReply.fEnd.fAddr.fV6),.lit (.int .u64 a.fReply.fEnd.fAddr.fHi),.lit (.int .u64 a.fReply.fEnd.fAddr.fLo),.lit (.int .i64 a.fReply.fEnd.fPort),.lit (.int .i64 a.fReply.fN),.lit (.int .i64 a.fReply.fUntil),cL 10 Zaa.c Zaa.d a.fReply.fPeers,.lit (.bool a.fDone),.lit (.bool a.fBroken)]
def ZaM.ok (a:ZaM):Prop:=Zao.ok a.fOp∧Zam.ok a.fReply∧okB a.fDone∧okB a.fBroken∧True
structure ZaU where
  fOp:Zao
  fReply:Zam
  fDone:Bool
  fBroken:Bool
def ZaU.d:ZaU:=⟨Zao.d,Zam.d,false,false⟩
def ZaU.c (a:ZaU):List C:=[.lit (.int .i64 a.fOp.fKind),.lit (.int .i64 a.fOp.fLock),.lit (.int .i64 a.fOp.fLoc.fKind),.lit (.int .i64 a.fOp.fLoc.fShard),.lit (.int .i64 a.fOp.fLoc.fSlot),.lit (.int .i64 a.fOp.fOld),.lit (.int .i64 a.fOp.fNew),.lit (.int .i64 a.fOp.fVal.fN),.lit (.bool a.fOp.fVal.fPeer.fEnd.fAddr.fV6),.lit (.int .u64 a.fOp.fVal.fPeer.fEnd.fAddr.fHi),.lit (.int .u64 a.fOp.fVal.fPeer.fEnd.fAddr.fLo),.lit (.int .i64 a.fOp.fVal.fPeer.fEnd.fPort),.lit (.bool a.fOp.fVal.fPeer.fIn),.lit (.int .i64 a.fOp.fVal.fPeer.fSince),.lit (.int .i64 a.fOp.fVal.fPeer.fScore.fPoints),.lit (.int .i64 a.fOp.fVal.fPeer.fScore.fAt),.lit (.int .i64 a.fOp.fVal.fPeer.fPing),.lit (.int .i64 a.fOp.fVal.fPeer.fWork),cL 5 Zab.c Zab.d a.fOp.fVal.fBans,cL 7 Zac.c Zac.d a.fOp.fVal.fBook,.lit (.bool a.fOp.fMark),.lit (.int .i64 a.fReply.fCode),.lit (.bool a.fReply.fEnd.fAddr.fV6),.lit (.int .u64 a.fReply.fEnd.fAddr.fHi),.lit (.int .u64 a.fReply.fEnd.fAddr.fLo),.lit (.int .i64 a.fReply.fEnd.fPort),.lit (.int .i64 a.fReply.fN),.lit (.int .i64 a.fReply.fUntil),cL 10 Zaa.c Zaa.d a.fReply.fPeers,.lit (.bool a.fDone),.lit (.bool a.fBroken)]
def ZaU.ok (a:ZaU):Prop:=Zao.ok a.fOp∧Zam.ok a.fReply∧okB a.fDone∧okB a.fBroken∧True
structure Zav where
  fc:Zaz
  fx:Zaw
  deriving DecidableEq
def Zav.d:Zav:=⟨Zaz.d,Zaw.d⟩
def Zav.c (a:Zav):List C:=[.lit (.int .i64 a.fc.fMaxIn),.lit (.int .i64 a.fc.fMaxOut),.lit (.int .i64 a.fc.fShards),.lit (.int .i64 a.fc.fMaxBans),.lit (.int .i64 a.fc.fMaxBook),.lit (.int .u64 a.fc.fSecret),.lit (.int .i64 a.fc.fQuota.fGroup),.lit (.int .i64 a.fc.fQuota.fPing),.lit (.int .i64 a.fc.fQuota.fWork),.lit (.int .i64 a.fc.fQuota.fTime),.lit (.int .i64 a.fc.fHalf),.lit (.int .i64 a.fc.fLimit),.lit (.int .i64 a.fc.fBanFor),.lit (.int .i64 a.fc.fBase),.lit (.int .i64 a.fc.fCap),.lit (.int .i64 a.fc.fJitter),.lit (.int .i64 a.fx.fKind),.lit (.bool a.fx.fEnd.fAddr.fV6),.lit (.int .u64 a.fx.fEnd.fAddr.fHi),.lit (.int .u64 a.fx.fEnd.fAddr.fLo),.lit (.int .i64 a.fx.fEnd.fPort),.lit (.bool a.fx.fNet.fAddr.fV6),.lit (.int .u64 a.fx.fNet.fAddr.fHi),.lit (.int .u64 a.fx.fNet.fAddr.fLo),.lit (.int .i64 a.fx.fNet.fBits),.lit (.int .i64 a.fx.fNow),.lit (.int .i64 a.fx.fNum),.lit (.bool a.fx.fGood)]
def Zav.ok (a:Zav):Prop:=Zaz.ok a.fc∧Zaw.ok a.fx∧True
inductive Ziv where
  | c67 (e:Zav)
  | c68 (e:Zav)
  | c69 (e:Zav)
  | c70 (e:Zav)
def Ziv.c:Ziv→C
  | .c67 e =>.clo (.func 67) 1 0 (fun i =>([.agv 28 (fun j =>(Zav.c e).getD j .junk)]:List C).getD i .junk) (fun i =>([]:List C).getD i .junk)
  | .c68 e =>.clo (.func 68) 1 0 (fun i =>([.agv 28 (fun j =>(Zav.c e).getD j .junk)]:List C).getD i .junk) (fun i =>([]:List C).getD i .junk)
  | .c69 e =>.clo (.func 69) 1 0 (fun i =>([.agv 28 (fun j =>(Zav.c e).getD j .junk)]:List C).getD i .junk) (fun i =>([]:List C).getD i .junk)
  | .c70 e =>.clo (.func 70) 1 0 (fun i =>([.agv 28 (fun j =>(Zav.c e).getD j .junk)]:List C).getD i .junk) (fun i =>([]:List C).getD i .junk)
structure Zbx where
  fc:Zaz
  fx:Zaw
  deriving DecidableEq
def Zbx.d:Zbx:=⟨Zaz.d,Zaw.d⟩
def Zbx.c (a:Zbx):List C:=[.lit (.int .i64 a.fc.fMaxIn),.lit (.int .i64 a.fc.fMaxOut),.lit (.int .i64 a.fc.fShards),.lit (.int .i64 a.fc.fMaxBans),.lit (.int .i64 a.fc.fMaxBook),.lit (.int .u64 a.fc.fSecret),.lit (.int .i64 a.fc.fQuota.fGroup),.lit (.int .i64 a.fc.fQuota.fPing),.lit (.int .i64 a.fc.fQuota.fWork),.lit (.int .i64 a.fc.fQuota.fTime),.lit (.int .i64 a.fc.fHalf),.lit (.int .i64 a.fc.fLimit),.lit (.int .i64 a.fc.fBanFor),.lit (.int .i64 a.fc.fBase),.lit (.int .i64 a.fc.fCap),.lit (.int .i64 a.fc.fJitter),.lit (.int .i64 a.fx.fKind),.lit (.bool a.fx.fEnd.fAddr.fV6),.lit (.int .u64 a.fx.fEnd.fAddr.fHi),.lit (.int .u64 a.fx.fEnd.fAddr.fLo),.lit (.int .i64 a.fx.fEnd.fPort),.lit (.bool a.fx.fNet.fAddr.fV6),.lit (.int .u64 a.fx.fNet.fAddr.fHi),.lit (.int .u64 a.fx.fNet.fAddr.fLo),.lit (.int .i64 a.fx.fNet.fBits),.lit (.int .i64 a.fx.fNow),.lit (.int .i64 a.fx.fNum),.lit (.bool a.fx.fGood)]
def Zbx.ok (a:Zbx):Prop:=Zaz.ok a.fc∧Zaw.ok a.fx∧True
structure Ziu where
  fop:Zao
def Ziu.d:Ziu:=⟨Zao.d⟩
def Ziu.c (a:Ziu):List C:=[.lit (.int .i64 a.fop.fKind),.lit (.int .i64 a.fop.fLock),.lit (.int .i64 a.fop.fLoc.fKind),.lit (.int .i64 a.fop.fLoc.fShard),.lit (.int .i64 a.fop.fLoc.fSlot),.lit (.int .i64 a.fop.fOld),.lit (.int .i64 a.fop.fNew),.lit (.int .i64 a.fop.fVal.fN),.lit (.bool a.fop.fVal.fPeer.fEnd.fAddr.fV6),.lit (.int .u64 a.fop.fVal.fPeer.fEnd.fAddr.fHi),.lit (.int .u64 a.fop.fVal.fPeer.fEnd.fAddr.fLo),.lit (.int .i64 a.fop.fVal.fPeer.fEnd.fPort),.lit (.bool a.fop.fVal.fPeer.fIn),.lit (.int .i64 a.fop.fVal.fPeer.fSince),.lit (.int .i64 a.fop.fVal.fPeer.fScore.fPoints),.lit (.int .i64 a.fop.fVal.fPeer.fScore.fAt),.lit (.int .i64 a.fop.fVal.fPeer.fPing),.lit (.int .i64 a.fop.fVal.fPeer.fWork),cL 5 Zab.c Zab.d a.fop.fVal.fBans,cL 7 Zac.c Zac.d a.fop.fVal.fBook,.lit (.bool a.fop.fMark)]
def Ziu.ok (a:Ziu):Prop:=Zao.ok a.fop∧True
structure Zdi where
  fop:Zao
def Zdi.d:Zdi:=⟨Zao.d⟩
def Zdi.c (a:Zdi):List C:=[.lit (.int .i64 a.fop.fKind),.lit (.int .i64 a.fop.fLock),.lit (.int .i64 a.fop.fLoc.fKind),.lit (.int .i64 a.fop.fLoc.fShard),.lit (.int .i64 a.fop.fLoc.fSlot),.lit (.int .i64 a.fop.fOld),.lit (.int .i64 a.fop.fNew),.lit (.int .i64 a.fop.fVal.fN),.lit (.bool a.fop.fVal.fPeer.fEnd.fAddr.fV6),.lit (.int .u64 a.fop.fVal.fPeer.fEnd.fAddr.fHi),.lit (.int .u64 a.fop.fVal.fPeer.fEnd.fAddr.fLo),.lit (.int .i64 a.fop.fVal.fPeer.fEnd.fPort),.lit (.bool a.fop.fVal.fPeer.fIn),.lit (.int .i64 a.fop.fVal.fPeer.fSince),.lit (.int .i64 a.fop.fVal.fPeer.fScore.fPoints),.lit (.int .i64 a.fop.fVal.fPeer.fScore.fAt),.lit (.int .i64 a.fop.fVal.fPeer.fPing),.lit (.int .i64 a.fop.fVal.fPeer.fWork),cL 5 Zab.c Zab.d a.fop.fVal.fBans,cL 7 Zac.c Zac.d a.fop.fVal.fBook,.lit (.bool a.fop.fMark)]
def Zdi.ok (a:Zdi):Prop:=Zao.ok a.fop∧True
structure Zal where
  fgot:(List Zae)
def Zal.d:Zal:=⟨([]:(List Zae))⟩
def Zal.c (a:Zal):List C:=[cL 13 Zae.c Zae.d a.fgot]
def Zal.ok (a:Zal):Prop:=(okL Zae.ok) a.fgot∧True
structure Zcx where
  fgot:(List Zae)
def Zcx.d:Zcx:=⟨([]:(List Zae))⟩
def Zcx.c (a:Zcx):List C:=[cL 13 Zae.c Zae.d a.fgot]
def Zcx.ok (a:Zcx):Prop:=(okL Zae.ok) a.fgot∧True
inductive Tout (α:Type) where
  | ret (x:α) (g:Zal)
  | pan (op:Zao)
  | bad (s:ByteArray)
def pvOf {α:Type} : {x:Tout α}→{e:Option (Tout α)}→e = some x→V
  | .ret _ _,_,_ =>.one .junk
  | .pan op,_,_ =>.one (.ifa 111 21 (fun i =>(Zao.c op).getD i .junk))
  | .bad s,_,_ =>.one (.ifc 9 (.lit (.string s)))
def oc {α:Type} (v:α→V):Tout α→Outc
  | .ret x g =>.ret [(100000,.box (Zal.c g))] (v x)
  | .pan op =>.pan (.one (.ifa 111 21 (fun i =>(Zao.c op).getD i .junk)))
  | .bad s =>.pan (.one (.ifc 9 (.lit (.string s))))
theorem ZbR : Zsb Tryz.prog 112 "Free" 462 := fun x w => by kernel_rfl
theorem Zfm : ZwU Tryz.prog 112 "Free" := fun x w => by kernel_rfl
theorem ZhR : Zsb Tryz.prog 112 "Load" 463 := fun x w => by kernel_rfl
theorem ZsP : ZwU Tryz.prog 112 "Load" := fun x w => by kernel_rfl
theorem Zjs : Zsb Tryz.prog 112 "Lock" 464 := fun x w => by kernel_rfl
theorem Zym : ZwU Tryz.prog 112 "Lock" := fun x w => by kernel_rfl
theorem ZuO : Zsb Tryz.prog 112 "Pass" 465 := fun x w => by kernel_rfl
theorem ZgY : Zsb Tryz.prog 112 "Store" 467 := fun x w => by kernel_rfl
theorem ZlV : ZwU Tryz.prog 112 "Store" := fun x w => by kernel_rfl
theorem ZuN : Zsb Tryz.prog 112 "Swap" 468 := fun x w => by kernel_rfl
def tab:Tab:=[
  (1,⟨.func,1,8,some (.nilFunc)⟩),
  (3,⟨.int .i64,1,8,some (.int .i64 (0))⟩),
  (4,⟨.bool,1,1,some (.bool false)⟩),
  (5,⟨.int .u8,1,1,some (.int .u8 (0))⟩),
  (9,⟨.str,1,16,some (.string ⟨#[]⟩)⟩),
  (20,⟨.iface,1,16,some (.nilIface)⟩),
  (22,⟨.int .u64,1,8,some (.int .u64 (0))⟩),
  (23,⟨.struct [(0,3),(1,3),(2,3),(3,3)],4,32,some (.agg #[.int .i64 (0),.int .i64 (0),.int .i64 (0),.int .i64 (0)])⟩),
  (24,⟨.struct [(0,3),(1,3),(2,3),(3,3)],4,32,some (.agg #[.int .i64 (0),.int .i64 (0),.int .i64 (0),.int .i64 (0)])⟩),
  (25,⟨.struct [(0,3),(1,3),(2,3),(3,3),(4,3),(5,22),(6,24),(10,3),(11,3),(12,3),(13,3),(14,3),(15,3)],16,128,some (.agg #[.int .i64 (0),.int .i64 (0),.int .i64 (0),.int .i64 (0),.int .i64 (0),.int .u64 (0),.int .i64 (0),.int .i64 (0),.int .i64 (0),.int .i64 (0),.int .i64 (0),.int .i64 (0),.int .i64 (0),.int .i64 (0),.int .i64 (0),.int .i64 (0)])⟩),
  (26,⟨.struct [(0,3),(1,3),(2,3),(3,3),(4,3),(5,22),(6,24),(10,3),(11,3),(12,3),(13,3),(14,3),(15,3)],16,128,some (.agg #[.int .i64 (0),.int .i64 (0),.int .i64 (0),.int .i64 (0),.int .i64 (0),.int .u64 (0),.int .i64 (0),.int .i64 (0),.int .i64 (0),.int .i64 (0),.int .i64 (0),.int .i64 (0),.int .i64 (0),.int .i64 (0),.int .i64 (0),.int .i64 (0)])⟩),
  (27,⟨.struct [(0,4),(1,22),(2,22)],3,24,some (.agg #[.bool false,.int .u64 (0),.int .u64 (0)])⟩),
  (28,⟨.struct [(0,4),(1,22),(2,22)],3,24,some (.agg #[.bool false,.int .u64 (0),.int .u64 (0)])⟩),
  (29,⟨.struct [(0,28),(3,3)],4,32,some (.agg #[.bool false,.int .u64 (0),.int .u64 (0),.int .i64 (0)])⟩),
  (30,⟨.struct [(0,28),(3,3)],4,32,some (.agg #[.bool false,.int .u64 (0),.int .u64 (0),.int .i64 (0)])⟩),
  (31,⟨.struct [(0,28),(3,3)],4,32,some (.agg #[.bool false,.int .u64 (0),.int .u64 (0),.int .i64 (0)])⟩),
  (32,⟨.struct [(0,28),(3,3)],4,32,some (.agg #[.bool false,.int .u64 (0),.int .u64 (0),.int .i64 (0)])⟩),
  (33,⟨.struct [(0,3),(1,30),(5,32),(9,3),(10,3),(11,4)],12,96,some (.agg #[.int .i64 (0),.bool false,.int .u64 (0),.int .u64 (0),.int .i64 (0),.bool false,.int .u64 (0),.int .u64 (0),.int .i64 (0),.int .i64 (0),.int .i64 (0),.bool false])⟩),
  (34,⟨.struct [(0,3),(1,30),(5,32),(9,3),(10,3),(11,4)],12,96,some (.agg #[.int .i64 (0),.bool false,.int .u64 (0),.int .u64 (0),.int .i64 (0),.bool false,.int .u64 (0),.int .u64 (0),.int .i64 (0),.int .i64 (0),.int .i64 (0),.bool false])⟩),
  (35,⟨.slice 48,1,24,some (.slice none 0 0)⟩),
  (39,⟨.struct [(0,3),(1,3),(2,3)],3,24,some (.agg #[.int .i64 (0),.int .i64 (0),.int .i64 (0)])⟩),
  (40,⟨.struct [(0,3),(1,3),(2,3)],3,24,some (.agg #[.int .i64 (0),.int .i64 (0),.int .i64 (0)])⟩),
  (41,⟨.struct [(0,3),(1,3)],2,16,some (.agg #[.int .i64 (0),.int .i64 (0)])⟩),
  (42,⟨.struct [(0,3),(1,3)],2,16,some (.agg #[.int .i64 (0),.int .i64 (0)])⟩),
  (43,⟨.struct [(0,30),(4,4),(5,3),(6,42),(8,3),(9,3)],10,80,some (.agg #[.bool false,.int .u64 (0),.int .u64 (0),.int .i64 (0),.bool false,.int .i64 (0),.int .i64 (0),.int .i64 (0),.int .i64 (0),.int .i64 (0)])⟩),
  (44,⟨.struct [(0,30),(4,4),(5,3),(6,42),(8,3),(9,3)],10,80,some (.agg #[.bool false,.int .u64 (0),.int .u64 (0),.int .i64 (0),.bool false,.int .i64 (0),.int .i64 (0),.int .i64 (0),.int .i64 (0),.int .i64 (0)])⟩),
  (45,⟨.slice 146,1,24,some (.slice none 0 0)⟩),
  (46,⟨.slice 106,1,24,some (.slice none 0 0)⟩),
  (47,⟨.struct [(0,3),(1,44),(11,45),(12,46)],13,136,some (.agg #[.int .i64 (0),.bool false,.int .u64 (0),.int .u64 (0),.int .i64 (0),.bool false,.int .i64 (0),.int .i64 (0),.int .i64 (0),.int .i64 (0),.int .i64 (0),.slice none 0 0,.slice none 0 0])⟩),
  (48,⟨.struct [(0,3),(1,44),(11,45),(12,46)],13,136,some (.agg #[.int .i64 (0),.bool false,.int .u64 (0),.int .u64 (0),.int .i64 (0),.bool false,.int .i64 (0),.int .i64 (0),.int .i64 (0),.int .i64 (0),.int .i64 (0),.slice none 0 0,.slice none 0 0])⟩),
  (49,⟨.struct [(0,3),(1,3),(2,40),(5,3),(6,3),(7,48),(20,4)],21,200,some (.agg #[.int .i64 (0),.int .i64 (0),.int .i64 (0),.int .i64 (0),.int .i64 (0),.int .i64 (0),.int .i64 (0),.int .i64 (0),.bool false,.int .u64 (0),.int .u64 (0),.int .i64 (0),.bool false,.int .i64 (0),.int .i64 (0),.int .i64 (0),.int .i64 (0),.int .i64 (0),.slice none 0 0,.slice none 0 0,.bool false])⟩),
  (50,⟨.struct [(0,3),(1,3),(2,40),(5,3),(6,3),(7,48),(20,4)],21,200,some (.agg #[.int .i64 (0),.int .i64 (0),.int .i64 (0),.int .i64 (0),.int .i64 (0),.int .i64 (0),.int .i64 (0),.int .i64 (0),.bool false,.int .u64 (0),.int .u64 (0),.int .i64 (0),.bool false,.int .i64 (0),.int .i64 (0),.int .i64 (0),.int .i64 (0),.int .i64 (0),.slice none 0 0,.slice none 0 0,.bool false])⟩),
  (51,⟨.struct [(0,35),(1,3),(2,50),(23,4)],24,240,some (.agg #[.slice none 0 0,.int .i64 (0),.int .i64 (0),.int .i64 (0),.int .i64 (0),.int .i64 (0),.int .i64 (0),.int .i64 (0),.int .i64 (0),.int .i64 (0),.bool false,.int .u64 (0),.int .u64 (0),.int .i64 (0),.bool false,.int .i64 (0),.int .i64 (0),.int .i64 (0),.int .i64 (0),.int .i64 (0),.slice none 0 0,.slice none 0 0,.bool false,.bool false])⟩),
  (52,⟨.struct [(0,35),(1,3),(2,50),(23,4)],24,240,some (.agg #[.slice none 0 0,.int .i64 (0),.int .i64 (0),.int .i64 (0),.int .i64 (0),.int .i64 (0),.int .i64 (0),.int .i64 (0),.int .i64 (0),.int .i64 (0),.bool false,.int .u64 (0),.int .u64 (0),.int .i64 (0),.bool false,.int .i64 (0),.int .i64 (0),.int .i64 (0),.int .i64 (0),.int .i64 (0),.slice none 0 0,.slice none 0 0,.bool false,.bool false])⟩),
  (53,⟨.int .i64,1,8,some (.int .i64 (0))⟩),
  (54,⟨.slice 44,1,24,some (.slice none 0 0)⟩),
  (55,⟨.struct [(0,53),(1,30),(5,3),(6,3),(7,54)],8,80,some (.agg #[.int .i64 (0),.bool false,.int .u64 (0),.int .u64 (0),.int .i64 (0),.int .i64 (0),.int .i64 (0),.slice none 0 0])⟩),
  (56,⟨.struct [(0,53),(1,30),(5,3),(6,3),(7,54)],8,80,some (.agg #[.int .i64 (0),.bool false,.int .u64 (0),.int .u64 (0),.int .i64 (0),.int .i64 (0),.int .i64 (0),.slice none 0 0])⟩),
  (60,⟨.struct [(0,50),(21,56),(29,4),(30,4)],31,288,some (.agg #[.int .i64 (0),.int .i64 (0),.int .i64 (0),.int .i64 (0),.int .i64 (0),.int .i64 (0),.int .i64 (0),.int .i64 (0),.bool false,.int .u64 (0),.int .u64 (0),.int .i64 (0),.bool false,.int .i64 (0),.int .i64 (0),.int .i64 (0),.int .i64 (0),.int .i64 (0),.slice none 0 0,.slice none 0 0,.bool false,.int .i64 (0),.bool false,.int .u64 (0),.int .u64 (0),.int .i64 (0),.int .i64 (0),.int .i64 (0),.slice none 0 0,.bool false,.bool false])⟩),
  (61,⟨.struct [(0,50),(21,56),(29,4),(30,4)],31,288,some (.agg #[.int .i64 (0),.int .i64 (0),.int .i64 (0),.int .i64 (0),.int .i64 (0),.int .i64 (0),.int .i64 (0),.int .i64 (0),.bool false,.int .u64 (0),.int .u64 (0),.int .i64 (0),.bool false,.int .i64 (0),.int .i64 (0),.int .i64 (0),.int .i64 (0),.int .i64 (0),.slice none 0 0,.slice none 0 0,.bool false,.int .i64 (0),.bool false,.int .u64 (0),.int .u64 (0),.int .i64 (0),.int .i64 (0),.int .i64 (0),.slice none 0 0,.bool false,.bool false])⟩),
  (75,⟨.func,1,8,some (.nilFunc)⟩),
  (76,⟨.func,1,8,some (.nilFunc)⟩),
  (105,⟨.struct [(0,30),(4,3),(5,3),(6,3)],7,56,some (.agg #[.bool false,.int .u64 (0),.int .u64 (0),.int .i64 (0),.int .i64 (0),.int .i64 (0),.int .i64 (0)])⟩),
  (106,⟨.struct [(0,30),(4,3),(5,3),(6,3)],7,56,some (.agg #[.bool false,.int .u64 (0),.int .u64 (0),.int .i64 (0),.int .i64 (0),.int .i64 (0),.int .i64 (0)])⟩),
  (110,⟨.struct [(0,50)],21,200,some (.agg #[.int .i64 (0),.int .i64 (0),.int .i64 (0),.int .i64 (0),.int .i64 (0),.int .i64 (0),.int .i64 (0),.int .i64 (0),.bool false,.int .u64 (0),.int .u64 (0),.int .i64 (0),.bool false,.int .i64 (0),.int .i64 (0),.int .i64 (0),.int .i64 (0),.int .i64 (0),.slice none 0 0,.slice none 0 0,.bool false])⟩),
  (111,⟨.struct [(0,50)],21,200,some (.agg #[.int .i64 (0),.int .i64 (0),.int .i64 (0),.int .i64 (0),.int .i64 (0),.int .i64 (0),.int .i64 (0),.int .i64 (0),.bool false,.int .u64 (0),.int .u64 (0),.int .i64 (0),.bool false,.int .i64 (0),.int .i64 (0),.int .i64 (0),.int .i64 (0),.int .i64 (0),.slice none 0 0,.slice none 0 0,.bool false])⟩),
  (112,⟨.ptr 114,1,8,some (.pointer none)⟩),
  (113,⟨.struct [(0,35)],1,24,some (.agg #[.slice none 0 0])⟩),
  (114,⟨.struct [(0,35)],1,24,some (.agg #[.slice none 0 0])⟩),
  (115,⟨.struct [(0,26),(16,34)],28,224,some (.agg #[.int .i64 (0),.int .i64 (0),.int .i64 (0),.int .i64 (0),.int .i64 (0),.int .u64 (0),.int .i64 (0),.int .i64 (0),.int .i64 (0),.int .i64 (0),.int .i64 (0),.int .i64 (0),.int .i64 (0),.int .i64 (0),.int .i64 (0),.int .i64 (0),.int .i64 (0),.bool false,.int .u64 (0),.int .u64 (0),.int .i64 (0),.bool false,.int .u64 (0),.int .u64 (0),.int .i64 (0),.int .i64 (0),.int .i64 (0),.bool false])⟩),
  (116,⟨.struct [(0,26),(16,34)],28,224,some (.agg #[.int .i64 (0),.int .i64 (0),.int .i64 (0),.int .i64 (0),.int .i64 (0),.int .u64 (0),.int .i64 (0),.int .i64 (0),.int .i64 (0),.int .i64 (0),.int .i64 (0),.int .i64 (0),.int .i64 (0),.int .i64 (0),.int .i64 (0),.int .i64 (0),.int .i64 (0),.bool false,.int .u64 (0),.int .u64 (0),.int .i64 (0),.bool false,.int .u64 (0),.int .u64 (0),.int .i64 (0),.int .i64 (0),.int .i64 (0),.bool false])⟩),
  (125,⟨.slice 3,1,24,some (.slice none 0 0)⟩),
  (145,⟨.struct [(0,32),(4,3)],5,40,some (.agg #[.bool false,.int .u64 (0),.int .u64 (0),.int .i64 (0),.int .i64 (0)])⟩),
  (146,⟨.struct [(0,32),(4,3)],5,40,some (.agg #[.bool false,.int .u64 (0),.int .u64 (0),.int .i64 (0),.int .i64 (0)])⟩),
  (152,⟨.iface,1,16,some (.nilIface)⟩),
  (153,⟨.iface,1,16,some (.nilIface)⟩),
  (163,⟨.slice 30,1,24,some (.slice none 0 0)⟩),
  (172,⟨.func,1,8,some (.nilFunc)⟩),
  (176,⟨.func,1,8,some (.nilFunc)⟩),
  (179,⟨.slice 181,1,24,some (.slice none 0 0)⟩),
  (181,⟨.int .i64,1,8,some (.int .i64 (0))⟩),
  (187,⟨.func,1,8,some (.nilFunc)⟩),
  (230,⟨.func,1,8,some (.nilFunc)⟩),
  (244,⟨.func,1,8,some (.nilFunc)⟩),
  (245,⟨.slice 9,1,24,some (.slice none 0 0)⟩),
  (252,⟨.array 14 9,14,224,some (.agg #[.string ⟨#[]⟩,.string ⟨#[]⟩,.string ⟨#[]⟩,.string ⟨#[]⟩,.string ⟨#[]⟩,.string ⟨#[]⟩,.string ⟨#[]⟩,.string ⟨#[]⟩,.string ⟨#[]⟩,.string ⟨#[]⟩,.string ⟨#[]⟩,.string ⟨#[]⟩,.string ⟨#[]⟩,.string ⟨#[]⟩])⟩),
  (275,⟨.slice 22,1,24,some (.slice none 0 0)⟩),
  (298,⟨.int .u64,1,8,some (.int .u64 (0))⟩),
  (303,⟨.int .u32,1,4,some (.int .u32 (0))⟩),
  (308,⟨.array 6 3,6,48,some (.agg #[.int .i64 (0),.int .i64 (0),.int .i64 (0),.int .i64 (0),.int .i64 (0),.int .i64 (0)])⟩)]
theorem ZBX:ZdG Tryz.prog tab :=
  .cons ⟨by kernel_rfl,by kernel_rfl,_,Tryz.underlying1,trivial⟩ <|
  .cons ⟨by kernel_rfl,by kernel_rfl,_,Tryz.underlying3,rfl⟩ <|
  .cons ⟨by kernel_rfl,by kernel_rfl,_,Tryz.underlying4,trivial⟩ <|
  .cons ⟨by kernel_rfl,by kernel_rfl,_,Tryz.underlying5,rfl⟩ <|
  .cons ⟨by kernel_rfl,by kernel_rfl,_,Tryz.underlying9,trivial⟩ <|
  .cons ⟨by kernel_rfl,by kernel_rfl,_,Tryz.underlying20,trivial⟩ <|
  .cons ⟨by kernel_rfl,by kernel_rfl,_,Tryz.underlying22,rfl⟩ <|
  .cons ⟨by kernel_rfl,by kernel_rfl,_,Tryz.underlying23,rfl⟩ <|
  .cons ⟨by kernel_rfl,by kernel_rfl,_,Tryz.underlying24,rfl⟩ <|
  .cons ⟨by kernel_rfl,by kernel_rfl,_,Tryz.underlying25,rfl⟩ <|
  .cons ⟨by kernel_rfl,by kernel_rfl,_,Tryz.underlying26,rfl⟩ <|
  .cons ⟨by kernel_rfl,by kernel_rfl,_,Tryz.underlying27,rfl⟩ <|
  .cons ⟨by kernel_rfl,by kernel_rfl,_,Tryz.underlying28,rfl⟩ <|
  .cons ⟨by kernel_rfl,by kernel_rfl,_,Tryz.underlying29,rfl⟩ <|
  .cons ⟨by kernel_rfl,by kernel_rfl,_,Tryz.underlying30,rfl⟩ <|
  .cons ⟨by kernel_rfl,by kernel_rfl,_,Tryz.underlying31,rfl⟩ <|
  .cons ⟨by kernel_rfl,by kernel_rfl,_,Tryz.underlying32,rfl⟩ <|
  .cons ⟨by kernel_rfl,by kernel_rfl,_,Tryz.underlying33,rfl⟩ <|
  .cons ⟨by kernel_rfl,by kernel_rfl,_,Tryz.underlying34,rfl⟩ <|
  .cons ⟨by kernel_rfl,by kernel_rfl,_,Tryz.underlying35,rfl⟩ <|
  .cons ⟨by kernel_rfl,by kernel_rfl,_,Tryz.underlying39,rfl⟩ <|
  .cons ⟨by kernel_rfl,by kernel_rfl,_,Tryz.underlying40,rfl⟩ <|
  .cons ⟨by kernel_rfl,by kernel_rfl,_,Tryz.underlying41,rfl⟩ <|
  .cons ⟨by kernel_rfl,by kernel_rfl,_,Tryz.underlying42,rfl⟩ <|
  .cons ⟨by kernel_rfl,by kernel_rfl,_,Tryz.underlying43,rfl⟩ <|
  .cons ⟨by kernel_rfl,by kernel_rfl,_,Tryz.underlying44,rfl⟩ <|
  .cons ⟨by kernel_rfl,by kernel_rfl,_,Tryz.underlying45,rfl⟩ <|
  .cons ⟨by kernel_rfl,by kernel_rfl,_,Tryz.underlying46,rfl⟩ <|
  .cons ⟨by kernel_rfl,by kernel_rfl,_,Tryz.underlying47,rfl⟩ <|
  .cons ⟨by kernel_rfl,by kernel_rfl,_,Tryz.underlying48,rfl⟩ <|
  .cons ⟨by kernel_rfl,by kernel_rfl,_,Tryz.underlying49,rfl⟩ <|
  .cons ⟨by kernel_rfl,by kernel_rfl,_,Tryz.underlying50,rfl⟩ <|
  .cons ⟨by kernel_rfl,by kernel_rfl,_,Tryz.underlying51,rfl⟩ <|
  .cons ⟨by kernel_rfl,by kernel_rfl,_,Tryz.underlying52,rfl⟩ <|
  .cons ⟨by kernel_rfl,by kernel_rfl,_,Tryz.underlying53,rfl⟩ <|
  .cons ⟨by kernel_rfl,by kernel_rfl,_,Tryz.underlying54,rfl⟩ <|
  .cons ⟨by kernel_rfl,by kernel_rfl,_,Tryz.underlying55,rfl⟩ <|
  .cons ⟨by kernel_rfl,by kernel_rfl,_,Tryz.underlying56,rfl⟩ <|
  .cons ⟨by kernel_rfl,by kernel_rfl,_,Tryz.underlying60,rfl⟩ <|
  .cons ⟨by kernel_rfl,by kernel_rfl,_,Tryz.underlying61,rfl⟩ <|
  .cons ⟨by kernel_rfl,by kernel_rfl,_,Tryz.underlying75,trivial⟩ <|
  .cons ⟨by kernel_rfl,by kernel_rfl,_,Tryz.underlying76,trivial⟩ <|
  .cons ⟨by kernel_rfl,by kernel_rfl,_,Tryz.underlying105,rfl⟩ <|
  .cons ⟨by kernel_rfl,by kernel_rfl,_,Tryz.underlying106,rfl⟩ <|
  .cons ⟨by kernel_rfl,by kernel_rfl,_,Tryz.underlying110,rfl⟩ <|
  .cons ⟨by kernel_rfl,by kernel_rfl,_,Tryz.underlying111,rfl⟩ <|
  .cons ⟨by kernel_rfl,by kernel_rfl,_,Tryz.underlying112,rfl⟩ <|
  .cons ⟨by kernel_rfl,by kernel_rfl,_,Tryz.underlying113,rfl⟩ <|
  .cons ⟨by kernel_rfl,by kernel_rfl,_,Tryz.underlying114,rfl⟩ <|
  .cons ⟨by kernel_rfl,by kernel_rfl,_,Tryz.underlying115,rfl⟩ <|
  .cons ⟨by kernel_rfl,by kernel_rfl,_,Tryz.underlying116,rfl⟩ <|
  .cons ⟨by kernel_rfl,by kernel_rfl,_,Tryz.underlying125,rfl⟩ <|
  .cons ⟨by kernel_rfl,by kernel_rfl,_,Tryz.underlying145,rfl⟩ <|
  .cons ⟨by kernel_rfl,by kernel_rfl,_,Tryz.underlying146,rfl⟩ <|
  .cons ⟨by kernel_rfl,by kernel_rfl,_,Tryz.underlying152,trivial⟩ <|
  .cons ⟨by kernel_rfl,by kernel_rfl,_,Tryz.underlying153,trivial⟩ <|
  .cons ⟨by kernel_rfl,by kernel_rfl,_,Tryz.underlying163,rfl⟩ <|
  .cons ⟨by kernel_rfl,by kernel_rfl,_,Tryz.underlying172,trivial⟩ <|
  .cons ⟨by kernel_rfl,by kernel_rfl,_,Tryz.underlying176,trivial⟩ <|
  .cons ⟨by kernel_rfl,by kernel_rfl,_,Tryz.underlying179,rfl⟩ <|
  .cons ⟨by kernel_rfl,by kernel_rfl,_,Tryz.underlying181,rfl⟩ <|
  .cons ⟨by kernel_rfl,by kernel_rfl,_,Tryz.underlying187,trivial⟩ <|
  .cons ⟨by kernel_rfl,by kernel_rfl,_,Tryz.underlying230,trivial⟩ <|
  .cons ⟨by kernel_rfl,by kernel_rfl,_,Tryz.underlying244,trivial⟩ <|
  .cons ⟨by kernel_rfl,by kernel_rfl,_,Tryz.underlying245,rfl⟩ <|
  .cons ⟨by kernel_rfl,by kernel_rfl,_,Tryz.underlying252,⟨rfl,rfl⟩⟩ <|
  .cons ⟨by kernel_rfl,by kernel_rfl,_,Tryz.underlying275,rfl⟩ <|
  .cons ⟨by kernel_rfl,by kernel_rfl,_,Tryz.underlying298,rfl⟩ <|
  .cons ⟨by kernel_rfl,by kernel_rfl,_,Tryz.underlying303,rfl⟩ <|
  .cons ⟨by kernel_rfl,by kernel_rfl,_,Tryz.underlying308,⟨rfl,rfl⟩⟩ <|
  .nil _
theorem Zak:ZnW Tryz.prog tab:=⟨ZBX,by kernel_rfl⟩
end Go.Proofs.YtdjfoojllbfcgaaGreat
