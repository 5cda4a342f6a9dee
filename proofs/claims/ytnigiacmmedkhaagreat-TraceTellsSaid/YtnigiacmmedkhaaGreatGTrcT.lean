import Derived.Test.YtnigiacmmedkhaaGreatProg
import Derived.Shelf.Spec.SlicesInsertGrow
import Derived.Lib.Hide
import Derived.Test.YtnigiacmmedkhaaGreatGAmSk
import Derived.Test.YtnigiacmmedkhaaGreatGAmX
namespace Go.Proofs.YtnigiacmmedkhaaGreat
open Go.RowKit Go.Lib Go.Shelf
set_option linter.unusedVariables false
set_option maxRecDepth 100000
abbrev lw(x y:List Nat):NA:=⟨[],[],[],[],[],x,y,[]⟩
abbrev lx(b:List (Nat×List (Nat×C)))(x y:List Nat):NA:=⟨[],b,[],[],[],x,y,[]⟩
abbrev ly(x y:List Nat)(z:List (Nat×Nat)):NA:=⟨[],[],[],[],[],x,y,z⟩
abbrev lz{α:Type}(n:Nat)(t s:Nat)(e:α->List C)(d:α)(l:List α):Nat×B:=(n,.rows t s l.length (Zax e d l))
abbrev lE:=cI .i64
theorem lG{pa:Prop}(a:pa):Obl [pa]:=(.c a .n)
theorem lS{l:List Prop}{pa:Prop}(z:Obl l)(a:pa):Obl (l++[pa]):=z.app (lG a)
theorem lH{pa pb:Prop}(a:pa)(b:pb):Obl [pa,pb]:=(.c a (.c b .n))
theorem lT{l:List Prop}{pa pb:Prop}(z:Obl l)(a:pa)(b:pb):Obl (l++[pa,pb]):=z.app (lH a b)
theorem lI{pa pb pc:Prop}(a:pa)(b:pb)(c:pc):Obl [pa,pb,pc]:=(.c a (.c b (.c c .n)))
theorem lU{l:List Prop}{pa pb pc:Prop}(z:Obl l)(a:pa)(b:pb)(c:pc):Obl (l++[pa,pb,pc]):=z.app (lI a b c)
theorem lJ{pa pb pc pd:Prop}(a:pa)(b:pb)(c:pc)(d:pd):Obl [pa,pb,pc,pd]:=(.c a (.c b (.c c (.c d .n))))
theorem lK{pa pb pc pd pe:Prop}(a:pa)(b:pb)(c:pc)(d:pd)(e:pe):Obl [pa,pb,pc,pd,pe]:=(.c a (.c b (.c c (.c d (.c e .n)))))
theorem lW{l:List Prop}{pa pb pc pd pe:Prop}(z:Obl l)(a:pa)(b:pb)(c:pc)(d:pd)(e:pe):Obl (l++[pa,pb,pc,pd,pe]):=z.app (lK a b c d e)
theorem lP{pa pb pc pd pe pf pg ph pi pj:Prop}(a:pa)(b:pb)(c:pc)(d:pd)(e:pe)(f:pf)(g:pg)(h:ph)(i:pi)(j:pj):Obl [pa,pb,pc,pd,pe,pf,pg,ph,pi,pj]:=(.c a (.c b (.c c (.c d (.c e (.c f (.c g (.c h (.c i (.c j .n))))))))))
theorem l6{l:List Prop}{pa pb pc pd pe pf pg ph pi pj:Prop}(z:Obl l)(a:pa)(b:pb)(c:pc)(d:pd)(e:pe)(f:pf)(g:pg)(h:ph)(i:pi)(j:pj):Obl (l++[pa,pb,pc,pd,pe,pf,pg,ph,pi,pj]):=z.app (lP a b c d e f g h i j)
theorem l8{α:Type}{e:α->List C}(d:α)(sz:Nat)(he:∀x,(e x).length=sz)(l:List α):l.length=l.length/\∀i j,i<l.length->j<sz->Zax e d l i j=(l.flatMap e).getD (i * sz+j) .junk:=⟨rfl,fun i j hi hj=>Zbr he l i j hi hj⟩
theorem mc{α:Type}{e:α->List C}(d:α)(sz:Nat)(he:∀x,(e x).length=sz)(l:List α):∀i j,i<l.length->j<sz->Zax e d l i j=(l.flatMap e).getD (i * sz+j) .junk:=fun i j hi hj=>Zbr he l i j hi hj
theorem ma{α:Type}(a:α):a=a:=rfl
variable {z:Zw}
structure ZaC where
 fGroup:Int
 fPing:Int
 fWork:Int
 fTime:Int
 deriving DecidableEq
def ZaC.d:ZaC:=⟨(0:Int),(0:Int),(0:Int),(0:Int)⟩
def ZaC.c(a:ZaC):List C:=[.lit (.int .i64 a.fGroup),.lit (.int .i64 a.fPing),.lit (.int .i64 a.fWork),.lit (.int .i64 a.fTime)]
def ZaC.E:Ec ZaC:=⟨4,ZaC.c,ZaC.d⟩
def ZaC.ok(a:ZaC):Prop:=(okI .i64) a.fGroup/\(okI .i64) a.fPing/\(okI .i64) a.fWork/\(okI .i64) a.fTime/\True
theorem ZtE:Opn Tryz.prog 24 ZaC.c ZaC.ok:=ZgL (ea:=(cP (cI .i64) (cP (cI .i64) (cP (cI .i64) (cP (cI .i64) cU))))) (oa:=(okP (okI .i64) (okP (okI .i64) (okP (okI .i64) (okP (okI .i64) okU))))) (N:=4) Tryz.underlying24 (by kernel_rfl) (ZaX (sz:=1) rfl rfl (by kernel_rfl) (ZdV Tryz.underlying3) (ZaX (sz:=1) rfl rfl (by kernel_rfl) (ZdV Tryz.underlying3) (ZaX (sz:=1) rfl rfl (by kernel_rfl) (ZdV Tryz.underlying3) (ZaX (sz:=1) rfl rfl (by kernel_rfl) (ZdV Tryz.underlying3) ZjP)))) (fun(a:Int×Int×Int×Int×Unit)=>(⟨a.1,a.2.1,a.2.2.1,a.2.2.2.1⟩ : ZaC)) (fun _=>rfl) (fun _ h=>h)
structure Zaq where
 fMaxIn:Int
 fMaxOut:Int
 fShards:Int
 fMaxBans:Int
 fMaxBook:Int
 fSecret:Int
 fQuota:ZaC
 fHalf:Int
 fLimit:Int
 fBanFor:Int
 fBase:Int
 fCap:Int
 fJitter:Int
 deriving DecidableEq
def Zaq.d:Zaq:=⟨(0:Int),(0:Int),(0:Int),(0:Int),(0:Int),(0:Int),ZaC.d,(0:Int),(0:Int),(0:Int),(0:Int),(0:Int),(0:Int)⟩
def Zaq.c(a:Zaq):List C:=[.lit (.int .i64 a.fMaxIn),.lit (.int .i64 a.fMaxOut),.lit (.int .i64 a.fShards),.lit (.int .i64 a.fMaxBans),.lit (.int .i64 a.fMaxBook),.lit (.int .u64 a.fSecret),.lit (.int .i64 a.fQuota.fGroup),.lit (.int .i64 a.fQuota.fPing),.lit (.int .i64 a.fQuota.fWork),.lit (.int .i64 a.fQuota.fTime),.lit (.int .i64 a.fHalf),.lit (.int .i64 a.fLimit),.lit (.int .i64 a.fBanFor),.lit (.int .i64 a.fBase),.lit (.int .i64 a.fCap),.lit (.int .i64 a.fJitter)]
def Zaq.E:Ec Zaq:=⟨16,Zaq.c,Zaq.d⟩
def Zaq.ok(a:Zaq):Prop:=(okI .i64) a.fMaxIn/\(okI .i64) a.fMaxOut/\(okI .i64) a.fShards/\(okI .i64) a.fMaxBans/\(okI .i64) a.fMaxBook/\(okI .u64) a.fSecret/\ZaC.ok a.fQuota/\(okI .i64) a.fHalf/\(okI .i64) a.fLimit/\(okI .i64) a.fBanFor/\(okI .i64) a.fBase/\(okI .i64) a.fCap/\(okI .i64) a.fJitter/\True
theorem ZuR:Opn Tryz.prog 26 Zaq.c Zaq.ok:=ZgL (ea:=(cP (cI .i64) (cP (cI .i64) (cP (cI .i64) (cP (cI .i64) (cP (cI .i64) (cP (cI .u64) (cP ZaC.c (cP (cI .i64) (cP (cI .i64) (cP (cI .i64) (cP (cI .i64) (cP (cI .i64) (cP (cI .i64) cU)))))))))))))) (oa:=(okP (okI .i64) (okP (okI .i64) (okP (okI .i64) (okP (okI .i64) (okP (okI .i64) (okP (okI .u64) (okP ZaC.ok (okP (okI .i64) (okP (okI .i64) (okP (okI .i64) (okP (okI .i64) (okP (okI .i64) (okP (okI .i64) okU)))))))))))))) (N:=16) Tryz.underlying26 (by kernel_rfl) (ZaX (sz:=1) rfl rfl (by kernel_rfl) (ZdV Tryz.underlying3) (ZaX (sz:=1) rfl rfl (by kernel_rfl) (ZdV Tryz.underlying3) (ZaX (sz:=1) rfl rfl (by kernel_rfl) (ZdV Tryz.underlying3) (ZaX (sz:=1) rfl rfl (by kernel_rfl) (ZdV Tryz.underlying3) (ZaX (sz:=1) rfl rfl (by kernel_rfl) (ZdV Tryz.underlying3) (ZaX (sz:=1) rfl rfl (by kernel_rfl) (ZdV Tryz.underlying22) (ZaX (sz:=4) rfl rfl (by kernel_rfl) ZtE (ZaX (sz:=1) rfl rfl (by kernel_rfl) (ZdV Tryz.underlying3) (ZaX (sz:=1) rfl rfl (by kernel_rfl) (ZdV Tryz.underlying3) (ZaX (sz:=1) rfl rfl (by kernel_rfl) (ZdV Tryz.underlying3) (ZaX (sz:=1) rfl rfl (by kernel_rfl) (ZdV Tryz.underlying3) (ZaX (sz:=1) rfl rfl (by kernel_rfl) (ZdV Tryz.underlying3) (ZaX (sz:=1) rfl rfl (by kernel_rfl) (ZdV Tryz.underlying3) ZjP))))))))))))) (fun(a:Int×Int×Int×Int×Int×Int×ZaC×Int×Int×Int×Int×Int×Int×Unit)=>(⟨a.1,a.2.1,a.2.2.1,a.2.2.2.1,a.2.2.2.2.1,a.2.2.2.2.2.1,a.2.2.2.2.2.2.1,a.2.2.2.2.2.2.2.1,a.2.2.2.2.2.2.2.2.1,a.2.2.2.2.2.2.2.2.2.1,a.2.2.2.2.2.2.2.2.2.2.1,a.2.2.2.2.2.2.2.2.2.2.2.1,a.2.2.2.2.2.2.2.2.2.2.2.2.1⟩ : Zaq)) (fun _=>rfl) (fun _ h=>h)
structure Zaf where
 fV6:Bool
 fHi:Int
 fLo:Int
 deriving DecidableEq
def Zaf.d:Zaf:=⟨false,(0:Int),(0:Int)⟩
def Zaf.c(a:Zaf):List C:=[.lit (.bool a.fV6),.lit (.int .u64 a.fHi),.lit (.int .u64 a.fLo)]
def Zaf.E:Ec Zaf:=⟨3,Zaf.c,Zaf.d⟩
def Zaf.ok(a:Zaf):Prop:=okB a.fV6/\(okI .u64) a.fHi/\(okI .u64) a.fLo/\True
theorem Zqv:Opn Tryz.prog 57 Zaf.c Zaf.ok:=ZgL (ea:=(cP cB (cP (cI .u64) (cP (cI .u64) cU)))) (oa:=(okP okB (okP (okI .u64) (okP (okI .u64) okU)))) (N:=3) Tryz.underlying57 (by kernel_rfl) (ZaX (sz:=1) rfl rfl (by kernel_rfl) (ZwW Tryz.underlying4) (ZaX (sz:=1) rfl rfl (by kernel_rfl) (ZdV Tryz.underlying22) (ZaX (sz:=1) rfl rfl (by kernel_rfl) (ZdV Tryz.underlying22) ZjP))) (fun(a:Bool×Int×Int×Unit)=>(⟨a.1,a.2.1,a.2.2.1⟩ : Zaf)) (fun _=>rfl) (fun _ h=>h)
structure Zav where
 fAddr:Zaf
 fBits:Int
 deriving DecidableEq
def Zav.d:Zav:=⟨Zaf.d,(0:Int)⟩
def Zav.c(a:Zav):List C:=[.lit (.bool a.fAddr.fV6),.lit (.int .u64 a.fAddr.fHi),.lit (.int .u64 a.fAddr.fLo),.lit (.int .i64 a.fBits)]
def Zav.E:Ec Zav:=⟨4,Zav.c,Zav.d⟩
def Zav.ok(a:Zav):Prop:=Zaf.ok a.fAddr/\(okI .i64) a.fBits/\True
theorem Zrl:Opn Tryz.prog 78 Zav.c Zav.ok:=ZgL (ea:=(cP Zaf.c (cP (cI .i64) cU))) (oa:=(okP Zaf.ok (okP (okI .i64) okU))) (N:=4) Tryz.underlying78 (by kernel_rfl) (ZaX (sz:=3) rfl rfl (by kernel_rfl) Zqv (ZaX (sz:=1) rfl rfl (by kernel_rfl) (ZdV Tryz.underlying3) ZjP)) (fun(a:Zaf×Int×Unit)=>(⟨a.1,a.2.1⟩ : Zav)) (fun _=>rfl) (fun _ h=>h)
structure Zac where
 fNet:Zav
 fUntil:Int
 deriving DecidableEq
def Zac.d:Zac:=⟨Zav.d,(0:Int)⟩
def Zac.c(a:Zac):List C:=[.lit (.bool a.fNet.fAddr.fV6),.lit (.int .u64 a.fNet.fAddr.fHi),.lit (.int .u64 a.fNet.fAddr.fLo),.lit (.int .i64 a.fNet.fBits),.lit (.int .i64 a.fUntil)]
def Zac.E:Ec Zac:=⟨5,Zac.c,Zac.d⟩
def Zac.ok(a:Zac):Prop:=Zav.ok a.fNet/\(okI .i64) a.fUntil/\True
theorem ZwX:Opn Tryz.prog 116 Zac.c Zac.ok:=ZgL (ea:=(cP Zav.c (cP (cI .i64) cU))) (oa:=(okP Zav.ok (okP (okI .i64) okU))) (N:=5) Tryz.underlying116 (by kernel_rfl) (ZaX (sz:=4) rfl rfl (by kernel_rfl) Zrl (ZaX (sz:=1) rfl rfl (by kernel_rfl) (ZdV Tryz.underlying3) ZjP)) (fun(a:Zav×Int×Unit)=>(⟨a.1,a.2.1⟩ : Zac)) (fun _=>rfl) (fun _ h=>h)
structure Zah where
 fAddr:Zaf
 fPort:Int
 deriving DecidableEq
def Zah.d:Zah:=⟨Zaf.d,(0:Int)⟩
def Zah.c(a:Zah):List C:=[.lit (.bool a.fAddr.fV6),.lit (.int .u64 a.fAddr.fHi),.lit (.int .u64 a.fAddr.fLo),.lit (.int .i64 a.fPort)]
def Zah.E:Ec Zah:=⟨4,Zah.c,Zah.d⟩
def Zah.ok(a:Zah):Prop:=Zaf.ok a.fAddr/\(okI .i64) a.fPort/\True
theorem Zoy:Opn Tryz.prog 59 Zah.c Zah.ok:=ZgL (ea:=(cP Zaf.c (cP (cI .i64) cU))) (oa:=(okP Zaf.ok (okP (okI .i64) okU))) (N:=4) Tryz.underlying59 (by kernel_rfl) (ZaX (sz:=3) rfl rfl (by kernel_rfl) Zqv (ZaX (sz:=1) rfl rfl (by kernel_rfl) (ZdV Tryz.underlying3) ZjP)) (fun(a:Zaf×Int×Unit)=>(⟨a.1,a.2.1⟩ : Zah)) (fun _=>rfl) (fun _ h=>h)
structure Zab where
 fEnd:Zah
 fState:Int
 fFails:Int
 fNext:Int
 deriving DecidableEq
def Zab.d:Zab:=⟨Zah.d,(0:Int),(0:Int),(0:Int)⟩
def Zab.c(a:Zab):List C:=[.lit (.bool a.fEnd.fAddr.fV6),.lit (.int .u64 a.fEnd.fAddr.fHi),.lit (.int .u64 a.fEnd.fAddr.fLo),.lit (.int .i64 a.fEnd.fPort),.lit (.int .i64 a.fState),.lit (.int .i64 a.fFails),.lit (.int .i64 a.fNext)]
def Zab.E:Ec Zab:=⟨7,Zab.c,Zab.d⟩
def Zab.ok(a:Zab):Prop:=Zah.ok a.fEnd/\(okI .i64) a.fState/\(okI .i64) a.fFails/\(okI .i64) a.fNext/\True
theorem ZtF:Opn Tryz.prog 102 Zab.c Zab.ok:=ZgL (ea:=(cP Zah.c (cP (cI .i64) (cP (cI .i64) (cP (cI .i64) cU))))) (oa:=(okP Zah.ok (okP (okI .i64) (okP (okI .i64) (okP (okI .i64) okU))))) (N:=7) Tryz.underlying102 (by kernel_rfl) (ZaX (sz:=4) rfl rfl (by kernel_rfl) Zoy (ZaX (sz:=1) rfl rfl (by kernel_rfl) (ZdV Tryz.underlying3) (ZaX (sz:=1) rfl rfl (by kernel_rfl) (ZdV Tryz.underlying3) (ZaX (sz:=1) rfl rfl (by kernel_rfl) (ZdV Tryz.underlying3) ZjP)))) (fun(a:Zah×Int×Int×Int×Unit)=>(⟨a.1,a.2.1,a.2.2.1,a.2.2.2.1⟩ : Zab)) (fun _=>rfl) (fun _ h=>h)
structure Zan where
 fPoints:Int
 fAt:Int
 deriving DecidableEq
def Zan.d:Zan:=⟨(0:Int),(0:Int)⟩
def Zan.c(a:Zan):List C:=[.lit (.int .i64 a.fPoints),.lit (.int .i64 a.fAt)]
def Zan.E:Ec Zan:=⟨2,Zan.c,Zan.d⟩
def Zan.ok(a:Zan):Prop:=(okI .i64) a.fPoints/\(okI .i64) a.fAt/\True
theorem ZtD:Opn Tryz.prog 61 Zan.c Zan.ok:=ZgL (ea:=(cP (cI .i64) (cP (cI .i64) cU))) (oa:=(okP (okI .i64) (okP (okI .i64) okU))) (N:=2) Tryz.underlying61 (by kernel_rfl) (ZaX (sz:=1) rfl rfl (by kernel_rfl) (ZdV Tryz.underlying3) (ZaX (sz:=1) rfl rfl (by kernel_rfl) (ZdV Tryz.underlying3) ZjP)) (fun(a:Int×Int×Unit)=>(⟨a.1,a.2.1⟩ : Zan)) (fun _=>rfl) (fun _ h=>h)
structure Zaa where
 fEnd:Zah
 fIn:Bool
 fSince:Int
 fScore:Zan
 fPing:Int
 fWork:Int
 deriving DecidableEq
def Zaa.d:Zaa:=⟨Zah.d,false,(0:Int),Zan.d,(0:Int),(0:Int)⟩
def Zaa.c(a:Zaa):List C:=[.lit (.bool a.fEnd.fAddr.fV6),.lit (.int .u64 a.fEnd.fAddr.fHi),.lit (.int .u64 a.fEnd.fAddr.fLo),.lit (.int .i64 a.fEnd.fPort),.lit (.bool a.fIn),.lit (.int .i64 a.fSince),.lit (.int .i64 a.fScore.fPoints),.lit (.int .i64 a.fScore.fAt),.lit (.int .i64 a.fPing),.lit (.int .i64 a.fWork)]
def Zaa.E:Ec Zaa:=⟨10,Zaa.c,Zaa.d⟩
def Zaa.ok(a:Zaa):Prop:=Zah.ok a.fEnd/\okB a.fIn/\(okI .i64) a.fSince/\Zan.ok a.fScore/\(okI .i64) a.fPing/\(okI .i64) a.fWork/\True
theorem ZuQ:Opn Tryz.prog 63 Zaa.c Zaa.ok:=ZgL (ea:=(cP Zah.c (cP cB (cP (cI .i64) (cP Zan.c (cP (cI .i64) (cP (cI .i64) cU))))))) (oa:=(okP Zah.ok (okP okB (okP (okI .i64) (okP Zan.ok (okP (okI .i64) (okP (okI .i64) okU))))))) (N:=10) Tryz.underlying63 (by kernel_rfl) (ZaX (sz:=4) rfl rfl (by kernel_rfl) Zoy (ZaX (sz:=1) rfl rfl (by kernel_rfl) (ZwW Tryz.underlying4) (ZaX (sz:=1) rfl rfl (by kernel_rfl) (ZdV Tryz.underlying3) (ZaX (sz:=2) rfl rfl (by kernel_rfl) ZtD (ZaX (sz:=1) rfl rfl (by kernel_rfl) (ZdV Tryz.underlying3) (ZaX (sz:=1) rfl rfl (by kernel_rfl) (ZdV Tryz.underlying3) ZjP)))))) (fun(a:Zah×Bool×Int×Zan×Int×Int×Unit)=>(⟨a.1,a.2.1,a.2.2.1,a.2.2.2.1,a.2.2.2.2.1,a.2.2.2.2.2.1⟩ : Zaa)) (fun _=>rfl) (fun _ h=>h)
structure ZaN where
 fBans:(List Zac)
 fBook:(List Zab)
 fPeers:(List Zaa)
def ZaN.d:ZaN:=⟨([]:(List Zac)),([]:(List Zab)),([]:(List Zaa))⟩
def ZaN.c(a:ZaN):List C:=[cL 5 Zac.c Zac.d a.fBans,cL 7 Zab.c Zab.d a.fBook,cL 10 Zaa.c Zaa.d a.fPeers]
def ZaN.E:Ec ZaN:=⟨3,ZaN.c,ZaN.d⟩
def ZaN.ok(a:ZaN):Prop:=(okL Zac.ok) a.fBans/\(okL Zab.ok) a.fBook/\(okL Zaa.ok) a.fPeers/\True
theorem ZtC:Opn Tryz.prog 31 ZaN.c ZaN.ok:=ZgL (ea:=(cP (cLs 5 Zac.c Zac.d) (cP (cLs 7 Zab.c Zab.d) (cP (cLs 10 Zaa.c Zaa.d) cU)))) (oa:=(okP (okL Zac.ok) (okP (okL Zab.ok) (okP (okL Zaa.ok) okU)))) (N:=3) Tryz.underlying31 (by kernel_rfl) (ZaX (sz:=1) rfl rfl (by kernel_rfl) (ZnQ (d:=Zac.d) Tryz.underlying27 (by kernel_rfl) (by decide) (fun _=>rfl) ZwX) (ZaX (sz:=1) rfl rfl (by kernel_rfl) (ZnQ (d:=Zab.d) Tryz.underlying28 (by kernel_rfl) (by decide) (fun _=>rfl) ZtF) (ZaX (sz:=1) rfl rfl (by kernel_rfl) (ZnQ (d:=Zaa.d) Tryz.underlying29 (by kernel_rfl) (by decide) (fun _=>rfl) ZuQ) ZjP))) (fun(a:(List Zac)×(List Zab)×(List Zaa)×Unit)=>(⟨a.1,a.2.1,a.2.2.1⟩ : ZaN)) (fun _=>rfl) (fun _ h=>h)
structure Zao where
 fKind:Int
 fEnd:Zah
 fNet:Zav
 fNow:Int
 fNum:Int
 fGood:Bool
 deriving DecidableEq
def Zao.d:Zao:=⟨(0:Int),Zah.d,Zav.d,(0:Int),(0:Int),false⟩
def Zao.c(a:Zao):List C:=[.lit (.int .i64 a.fKind),.lit (.bool a.fEnd.fAddr.fV6),.lit (.int .u64 a.fEnd.fAddr.fHi),.lit (.int .u64 a.fEnd.fAddr.fLo),.lit (.int .i64 a.fEnd.fPort),.lit (.bool a.fNet.fAddr.fV6),.lit (.int .u64 a.fNet.fAddr.fHi),.lit (.int .u64 a.fNet.fAddr.fLo),.lit (.int .i64 a.fNet.fBits),.lit (.int .i64 a.fNow),.lit (.int .i64 a.fNum),.lit (.bool a.fGood)]
def Zao.E:Ec Zao:=⟨12,Zao.c,Zao.d⟩
def Zao.ok(a:Zao):Prop:=(okI .i64) a.fKind/\Zah.ok a.fEnd/\Zav.ok a.fNet/\(okI .i64) a.fNow/\(okI .i64) a.fNum/\okB a.fGood/\True
theorem ZuS:Opn Tryz.prog 80 Zao.c Zao.ok:=ZgL (ea:=(cP (cI .i64) (cP Zah.c (cP Zav.c (cP (cI .i64) (cP (cI .i64) (cP cB cU))))))) (oa:=(okP (okI .i64) (okP Zah.ok (okP Zav.ok (okP (okI .i64) (okP (okI .i64) (okP okB okU))))))) (N:=12) Tryz.underlying80 (by kernel_rfl) (ZaX (sz:=1) rfl rfl (by kernel_rfl) (ZdV Tryz.underlying3) (ZaX (sz:=4) rfl rfl (by kernel_rfl) Zoy (ZaX (sz:=4) rfl rfl (by kernel_rfl) Zrl (ZaX (sz:=1) rfl rfl (by kernel_rfl) (ZdV Tryz.underlying3) (ZaX (sz:=1) rfl rfl (by kernel_rfl) (ZdV Tryz.underlying3) (ZaX (sz:=1) rfl rfl (by kernel_rfl) (ZwW Tryz.underlying4) ZjP)))))) (fun(a:Int×Zah×Zav×Int×Int×Bool×Unit)=>(⟨a.1,a.2.1,a.2.2.1,a.2.2.2.1,a.2.2.2.2.1,a.2.2.2.2.2.1⟩ : Zao)) (fun _=>rfl) (fun _ h=>h)
structure ZaI where
 fConf:Zaq
 fState:ZaN
 fCalls:(List (List Zao))
 fPicks:(List Int)
def ZaI.d:ZaI:=⟨Zaq.d,ZaN.d,([]:(List (List Zao))),([]:(List Int))⟩
def ZaI.c(a:ZaI):List C:=[.lit (.int .i64 a.fConf.fMaxIn),.lit (.int .i64 a.fConf.fMaxOut),.lit (.int .i64 a.fConf.fShards),.lit (.int .i64 a.fConf.fMaxBans),.lit (.int .i64 a.fConf.fMaxBook),.lit (.int .u64 a.fConf.fSecret),.lit (.int .i64 a.fConf.fQuota.fGroup),.lit (.int .i64 a.fConf.fQuota.fPing),.lit (.int .i64 a.fConf.fQuota.fWork),.lit (.int .i64 a.fConf.fQuota.fTime),.lit (.int .i64 a.fConf.fHalf),.lit (.int .i64 a.fConf.fLimit),.lit (.int .i64 a.fConf.fBanFor),.lit (.int .i64 a.fConf.fBase),.lit (.int .i64 a.fConf.fCap),.lit (.int .i64 a.fConf.fJitter),cL 5 Zac.c Zac.d a.fState.fBans,cL 7 Zab.c Zab.d a.fState.fBook,cL 10 Zaa.c Zaa.d a.fState.fPeers,cL 1 (cLs 12 Zao.c Zao.d) ([]:(List Zao)) a.fCalls,cL 1 (cI .i64) (0:Int) a.fPicks]
def ZaI.E:Ec ZaI:=⟨21,ZaI.c,ZaI.d⟩
def ZaI.ok(a:ZaI):Prop:=Zaq.ok a.fConf/\ZaN.ok a.fState/\(okL (okL Zao.ok)) a.fCalls/\(okL (okI .i64)) a.fPicks/\True
theorem ZnR:Opn Tryz.prog 35 ZaI.c ZaI.ok:=ZgL (ea:=(cP Zaq.c (cP ZaN.c (cP (cLs 1 (cLs 12 Zao.c Zao.d) ([]:(List Zao))) (cP (cLs 1 (cI .i64) (0:Int)) cU))))) (oa:=(okP Zaq.ok (okP ZaN.ok (okP (okL (okL Zao.ok)) (okP (okL (okI .i64)) okU))))) (N:=21) Tryz.underlying35 (by kernel_rfl) (ZaX (sz:=16) rfl rfl (by kernel_rfl) ZuR (ZaX (sz:=3) rfl rfl (by kernel_rfl) ZtC (ZaX (sz:=1) rfl rfl (by kernel_rfl) (ZnQ (d:=([]:(List Zao))) Tryz.underlying32 (by kernel_rfl) (by decide) (fun _=>rfl) (ZnQ (d:=Zao.d) Tryz.underlying48 (by kernel_rfl) (by decide) (fun _=>rfl) ZuS)) (ZaX (sz:=1) rfl rfl (by kernel_rfl) (ZnQ (d:=(0:Int)) Tryz.underlying33 (by kernel_rfl) (by decide) (fun _=>rfl) (ZdV Tryz.underlying3)) ZjP)))) (fun(a:Zaq×ZaN×(List (List Zao))×(List Int)×Unit)=>(⟨a.1,a.2.1,a.2.2.1,a.2.2.2.1⟩ : ZaI)) (fun _=>rfl) (fun _ h=>h)
structure Zam where
 fSize:Int
 fSlots:(List Zaa)
def Zam.d:Zam:=⟨(0:Int),([]:(List Zaa))⟩
def Zam.c(a:Zam):List C:=[.lit (.int .i64 a.fSize),cL 10 Zaa.c Zaa.d a.fSlots]
def Zam.E:Ec Zam:=⟨2,Zam.c,Zam.d⟩
def Zam.ok(a:Zam):Prop:=(okI .i64) a.fSize/\(okL Zaa.ok) a.fSlots/\True
structure Zay where
 fBy:Int
 fShare:(List Int)
def Zay.d:Zay:=⟨(0:Int),([]:(List Int))⟩
def Zay.c(a:Zay):List C:=[.lit (.int .i64 a.fBy),cL 1 (cI .i64) (0:Int) a.fShare]
def Zay.E:Ec Zay:=⟨2,Zay.c,Zay.d⟩
def Zay.ok(a:Zay):Prop:=(okI .i64) a.fBy/\(okL (okI .i64)) a.fShare/\True
structure ZaW where
 fIn:Int
 fOut:Int
 fBans:(List Zac)
 fBook:(List Zab)
 fShards:(List Zam)
 fLocks:(List Zay)
def ZaW.d:ZaW:=⟨(0:Int),(0:Int),([]:(List Zac)),([]:(List Zab)),([]:(List Zam)),([]:(List Zay))⟩
def ZaW.c(a:ZaW):List C:=[.lit (.int .i64 a.fIn),.lit (.int .i64 a.fOut),cL 5 Zac.c Zac.d a.fBans,cL 7 Zab.c Zab.d a.fBook,cL 2 Zam.c Zam.d a.fShards,cL 2 Zay.c Zay.d a.fLocks]
def ZaW.E:Ec ZaW:=⟨6,ZaW.c,ZaW.d⟩
def ZaW.ok(a:ZaW):Prop:=(okI .i64) a.fIn/\(okI .i64) a.fOut/\(okL Zac.ok) a.fBans/\(okL Zab.ok) a.fBook/\(okL Zam.ok) a.fShards/\(okL Zay.ok) a.fLocks/\True
structure Zae where
 fN:Int
 fPeer:Zaa
 fBans:(List Zac)
 fBook:(List Zab)
def Zae.d:Zae:=⟨(0:Int),Zaa.d,([]:(List Zac)),([]:(List Zab))⟩
def Zae.c(a:Zae):List C:=[.lit (.int .i64 a.fN),.lit (.bool a.fPeer.fEnd.fAddr.fV6),.lit (.int .u64 a.fPeer.fEnd.fAddr.fHi),.lit (.int .u64 a.fPeer.fEnd.fAddr.fLo),.lit (.int .i64 a.fPeer.fEnd.fPort),.lit (.bool a.fPeer.fIn),.lit (.int .i64 a.fPeer.fSince),.lit (.int .i64 a.fPeer.fScore.fPoints),.lit (.int .i64 a.fPeer.fScore.fAt),.lit (.int .i64 a.fPeer.fPing),.lit (.int .i64 a.fPeer.fWork),cL 5 Zac.c Zac.d a.fBans,cL 7 Zab.c Zab.d a.fBook]
def Zae.E:Ec Zae:=⟨13,Zae.c,Zae.d⟩
def Zae.ok(a:Zae):Prop:=(okI .i64) a.fN/\Zaa.ok a.fPeer/\(okL Zac.ok) a.fBans/\(okL Zab.ok) a.fBook/\True
structure Zai where
 fCode:Int
 fEnd:Zah
 fN:Int
 fUntil:Int
 fPeers:(List Zaa)
def Zai.d:Zai:=⟨(0:Int),Zah.d,(0:Int),(0:Int),([]:(List Zaa))⟩
def Zai.c(a:Zai):List C:=[.lit (.int .i64 a.fCode),.lit (.bool a.fEnd.fAddr.fV6),.lit (.int .u64 a.fEnd.fAddr.fHi),.lit (.int .u64 a.fEnd.fAddr.fLo),.lit (.int .i64 a.fEnd.fPort),.lit (.int .i64 a.fN),.lit (.int .i64 a.fUntil),cL 10 Zaa.c Zaa.d a.fPeers]
def Zai.E:Ec Zai:=⟨8,Zai.c,Zai.d⟩
def Zai.ok(a:Zai):Prop:=(okI .i64) a.fCode/\Zah.ok a.fEnd/\(okI .i64) a.fN/\(okI .i64) a.fUntil/\(okL Zaa.ok) a.fPeers/\True
structure Zar where
 fCalls:(List Zao)
 fNth:Int
 fGot:(List Zae)
 fReplies:(List Zai)
 fBroken:Bool
def Zar.d:Zar:=⟨([]:(List Zao)),(0:Int),([]:(List Zae)),([]:(List Zai)),false⟩
def Zar.c(a:Zar):List C:=[cL 12 Zao.c Zao.d a.fCalls,.lit (.int .i64 a.fNth),cL 13 Zae.c Zae.d a.fGot,cL 8 Zai.c Zai.d a.fReplies,.lit (.bool a.fBroken)]
def Zar.E:Ec Zar:=⟨5,Zar.c,Zar.d⟩
def Zar.ok(a:Zar):Prop:=(okL Zao.ok) a.fCalls/\(okI .i64) a.fNth/\(okL Zae.ok) a.fGot/\(okL Zai.ok) a.fReplies/\okB a.fBroken/\True
structure Zas where
 fKind:Int
 fShard:Int
 fSlot:Int
 deriving DecidableEq
def Zas.d:Zas:=⟨(0:Int),(0:Int),(0:Int)⟩
def Zas.c(a:Zas):List C:=[.lit (.int .i64 a.fKind),.lit (.int .i64 a.fShard),.lit (.int .i64 a.fSlot)]
def Zas.E:Ec Zas:=⟨3,Zas.c,Zas.d⟩
def Zas.ok(a:Zas):Prop:=(okI .i64) a.fKind/\(okI .i64) a.fShard/\(okI .i64) a.fSlot/\True
structure Zat where
 fKind:Int
 fLock:Int
 fLoc:Zas
 fOld:Int
 fNew:Int
 fVal:Zae
 fMark:Bool
def Zat.d:Zat:=⟨(0:Int),(0:Int),Zas.d,(0:Int),(0:Int),Zae.d,false⟩
def Zat.c(a:Zat):List C:=[.lit (.int .i64 a.fKind),.lit (.int .i64 a.fLock),.lit (.int .i64 a.fLoc.fKind),.lit (.int .i64 a.fLoc.fShard),.lit (.int .i64 a.fLoc.fSlot),.lit (.int .i64 a.fOld),.lit (.int .i64 a.fNew),.lit (.int .i64 a.fVal.fN),.lit (.bool a.fVal.fPeer.fEnd.fAddr.fV6),.lit (.int .u64 a.fVal.fPeer.fEnd.fAddr.fHi),.lit (.int .u64 a.fVal.fPeer.fEnd.fAddr.fLo),.lit (.int .i64 a.fVal.fPeer.fEnd.fPort),.lit (.bool a.fVal.fPeer.fIn),.lit (.int .i64 a.fVal.fPeer.fSince),.lit (.int .i64 a.fVal.fPeer.fScore.fPoints),.lit (.int .i64 a.fVal.fPeer.fScore.fAt),.lit (.int .i64 a.fVal.fPeer.fPing),.lit (.int .i64 a.fVal.fPeer.fWork),cL 5 Zac.c Zac.d a.fVal.fBans,cL 7 Zab.c Zab.d a.fVal.fBook,.lit (.bool a.fMark)]
def Zat.E:Ec Zat:=⟨21,Zat.c,Zat.d⟩
def Zat.ok(a:Zat):Prop:=(okI .i64) a.fKind/\(okI .i64) a.fLock/\Zas.ok a.fLoc/\(okI .i64) a.fOld/\(okI .i64) a.fNew/\Zae.ok a.fVal/\okB a.fMark/\True
structure Zak where
 fWho:Int
 fNth:Int
 fOp:Zat
 fGot:Zae
 fLast:Bool
def Zak.d:Zak:=⟨(0:Int),(0:Int),Zat.d,Zae.d,false⟩
def Zak.c(a:Zak):List C:=[.lit (.int .i64 a.fWho),.lit (.int .i64 a.fNth),.lit (.int .i64 a.fOp.fKind),.lit (.int .i64 a.fOp.fLock),.lit (.int .i64 a.fOp.fLoc.fKind),.lit (.int .i64 a.fOp.fLoc.fShard),.lit (.int .i64 a.fOp.fLoc.fSlot),.lit (.int .i64 a.fOp.fOld),.lit (.int .i64 a.fOp.fNew),.lit (.int .i64 a.fOp.fVal.fN),.lit (.bool a.fOp.fVal.fPeer.fEnd.fAddr.fV6),.lit (.int .u64 a.fOp.fVal.fPeer.fEnd.fAddr.fHi),.lit (.int .u64 a.fOp.fVal.fPeer.fEnd.fAddr.fLo),.lit (.int .i64 a.fOp.fVal.fPeer.fEnd.fPort),.lit (.bool a.fOp.fVal.fPeer.fIn),.lit (.int .i64 a.fOp.fVal.fPeer.fSince),.lit (.int .i64 a.fOp.fVal.fPeer.fScore.fPoints),.lit (.int .i64 a.fOp.fVal.fPeer.fScore.fAt),.lit (.int .i64 a.fOp.fVal.fPeer.fPing),.lit (.int .i64 a.fOp.fVal.fPeer.fWork),cL 5 Zac.c Zac.d a.fOp.fVal.fBans,cL 7 Zab.c Zab.d a.fOp.fVal.fBook,.lit (.bool a.fOp.fMark),.lit (.int .i64 a.fGot.fN),.lit (.bool a.fGot.fPeer.fEnd.fAddr.fV6),.lit (.int .u64 a.fGot.fPeer.fEnd.fAddr.fHi),.lit (.int .u64 a.fGot.fPeer.fEnd.fAddr.fLo),.lit (.int .i64 a.fGot.fPeer.fEnd.fPort),.lit (.bool a.fGot.fPeer.fIn),.lit (.int .i64 a.fGot.fPeer.fSince),.lit (.int .i64 a.fGot.fPeer.fScore.fPoints),.lit (.int .i64 a.fGot.fPeer.fScore.fAt),.lit (.int .i64 a.fGot.fPeer.fPing),.lit (.int .i64 a.fGot.fPeer.fWork),cL 5 Zac.c Zac.d a.fGot.fBans,cL 7 Zab.c Zab.d a.fGot.fBook,.lit (.bool a.fLast)]
def Zak.E:Ec Zak:=⟨37,Zak.c,Zak.d⟩
def Zak.ok(a:Zak):Prop:=(okI .i64) a.fWho/\(okI .i64) a.fNth/\Zat.ok a.fOp/\Zae.ok a.fGot/\okB a.fLast/\True
structure Zaz where
 fConf:Zaq
 fMem:ZaW
 fTasks:(List Zar)
 fLog:(List Zak)
def Zaz.d:Zaz:=⟨Zaq.d,ZaW.d,([]:(List Zar)),([]:(List Zak))⟩
def Zaz.c(a:Zaz):List C:=[.lit (.int .i64 a.fConf.fMaxIn),.lit (.int .i64 a.fConf.fMaxOut),.lit (.int .i64 a.fConf.fShards),.lit (.int .i64 a.fConf.fMaxBans),.lit (.int .i64 a.fConf.fMaxBook),.lit (.int .u64 a.fConf.fSecret),.lit (.int .i64 a.fConf.fQuota.fGroup),.lit (.int .i64 a.fConf.fQuota.fPing),.lit (.int .i64 a.fConf.fQuota.fWork),.lit (.int .i64 a.fConf.fQuota.fTime),.lit (.int .i64 a.fConf.fHalf),.lit (.int .i64 a.fConf.fLimit),.lit (.int .i64 a.fConf.fBanFor),.lit (.int .i64 a.fConf.fBase),.lit (.int .i64 a.fConf.fCap),.lit (.int .i64 a.fConf.fJitter),.lit (.int .i64 a.fMem.fIn),.lit (.int .i64 a.fMem.fOut),cL 5 Zac.c Zac.d a.fMem.fBans,cL 7 Zab.c Zab.d a.fMem.fBook,cL 2 Zam.c Zam.d a.fMem.fShards,cL 2 Zay.c Zay.d a.fMem.fLocks,cL 5 Zar.c Zar.d a.fTasks,cL 37 Zak.c Zak.d a.fLog]
def Zaz.E:Ec Zaz:=⟨24,Zaz.c,Zaz.d⟩
def Zaz.ok(a:Zaz):Prop:=Zaq.ok a.fConf/\ZaW.ok a.fMem/\(okL Zar.ok) a.fTasks/\(okL Zak.ok) a.fLog/\True
structure Zal where
 fWho:Int
 fNth:Int
 fCall:Zao
 fReply:Zai
 fFirst:Int
 fLast:Int
 fMark:Int
 fSteps:Int
 fLost:Int
def Zal.d:Zal:=⟨(0:Int),(0:Int),Zao.d,Zai.d,(0:Int),(0:Int),(0:Int),(0:Int),(0:Int)⟩
def Zal.c(a:Zal):List C:=[.lit (.int .i64 a.fWho),.lit (.int .i64 a.fNth),.lit (.int .i64 a.fCall.fKind),.lit (.bool a.fCall.fEnd.fAddr.fV6),.lit (.int .u64 a.fCall.fEnd.fAddr.fHi),.lit (.int .u64 a.fCall.fEnd.fAddr.fLo),.lit (.int .i64 a.fCall.fEnd.fPort),.lit (.bool a.fCall.fNet.fAddr.fV6),.lit (.int .u64 a.fCall.fNet.fAddr.fHi),.lit (.int .u64 a.fCall.fNet.fAddr.fLo),.lit (.int .i64 a.fCall.fNet.fBits),.lit (.int .i64 a.fCall.fNow),.lit (.int .i64 a.fCall.fNum),.lit (.bool a.fCall.fGood),.lit (.int .i64 a.fReply.fCode),.lit (.bool a.fReply.fEnd.fAddr.fV6),.lit (.int .u64 a.fReply.fEnd.fAddr.fHi),.lit (.int .u64 a.fReply.fEnd.fAddr.fLo),.lit (.int .i64 a.fReply.fEnd.fPort),.lit (.int .i64 a.fReply.fN),.lit (.int .i64 a.fReply.fUntil),cL 10 Zaa.c Zaa.d a.fReply.fPeers,.lit (.int .i64 a.fFirst),.lit (.int .i64 a.fLast),.lit (.int .i64 a.fMark),.lit (.int .i64 a.fSteps),.lit (.int .i64 a.fLost)]
def Zal.E:Ec Zal:=⟨27,Zal.c,Zal.d⟩
def Zal.ok(a:Zal):Prop:=(okI .i64) a.fWho/\(okI .i64) a.fNth/\Zao.ok a.fCall/\Zai.ok a.fReply/\(okI .i64) a.fFirst/\(okI .i64) a.fLast/\(okI .i64) a.fMark/\(okI .i64) a.fSteps/\(okI .i64) a.fLost/\True
structure ZaJ where
 fwho:Int
 fnth:Int
 deriving DecidableEq
def ZaJ.d:ZaJ:=⟨(0:Int),(0:Int)⟩
def ZaJ.c(a:ZaJ):List C:=[.lit (.int .i64 a.fwho),.lit (.int .i64 a.fnth)]
def ZaJ.E:Ec ZaJ:=⟨2,ZaJ.c,ZaJ.d⟩
def ZaJ.ok(a:ZaJ):Prop:=(okI .i64) a.fwho/\(okI .i64) a.fnth/\True
structure Zad where
 fGot:(List Zae)
 fAt:Int
 fOp:Zat
 fWait:Bool
def Zad.d:Zad:=⟨([]:(List Zae)),(0:Int),Zat.d,false⟩
def Zad.c(a:Zad):List C:=[cL 13 Zae.c Zae.d a.fGot,.lit (.int .i64 a.fAt),.lit (.int .i64 a.fOp.fKind),.lit (.int .i64 a.fOp.fLock),.lit (.int .i64 a.fOp.fLoc.fKind),.lit (.int .i64 a.fOp.fLoc.fShard),.lit (.int .i64 a.fOp.fLoc.fSlot),.lit (.int .i64 a.fOp.fOld),.lit (.int .i64 a.fOp.fNew),.lit (.int .i64 a.fOp.fVal.fN),.lit (.bool a.fOp.fVal.fPeer.fEnd.fAddr.fV6),.lit (.int .u64 a.fOp.fVal.fPeer.fEnd.fAddr.fHi),.lit (.int .u64 a.fOp.fVal.fPeer.fEnd.fAddr.fLo),.lit (.int .i64 a.fOp.fVal.fPeer.fEnd.fPort),.lit (.bool a.fOp.fVal.fPeer.fIn),.lit (.int .i64 a.fOp.fVal.fPeer.fSince),.lit (.int .i64 a.fOp.fVal.fPeer.fScore.fPoints),.lit (.int .i64 a.fOp.fVal.fPeer.fScore.fAt),.lit (.int .i64 a.fOp.fVal.fPeer.fPing),.lit (.int .i64 a.fOp.fVal.fPeer.fWork),cL 5 Zac.c Zac.d a.fOp.fVal.fBans,cL 7 Zab.c Zab.d a.fOp.fVal.fBook,.lit (.bool a.fOp.fMark),.lit (.bool a.fWait)]
def Zad.E:Ec Zad:=⟨24,Zad.c,Zad.d⟩
def Zad.ok(a:Zad):Prop:=(okL Zae.ok) a.fGot/\(okI .i64) a.fAt/\Zat.ok a.fOp/\okB a.fWait/\True
def tab:Tab:=[ (3,⟨.int .i64,1,8,some (.int .i64 (0))⟩),(4,⟨.bool,1,1,some (.bool false)⟩),(5,⟨.int .u8,1,1,some (.int .u8 (0))⟩),(9,⟨.str,1,16,some (.string ⟨#[]⟩)⟩),(22,⟨.int .u64,1,8,some (.int .u64 (0))⟩),(23,⟨.struct [(0,3),(1,3),(2,3),(3,3)],4,32,some (.agg #[.int .i64 (0),.int .i64 (0),.int .i64 (0),.int .i64 (0)])⟩),(24,⟨.struct [(0,3),(1,3),(2,3),(3,3)],4,32,some (.agg #[.int .i64 (0),.int .i64 (0),.int .i64 (0),.int .i64 (0)])⟩),(25,⟨.struct [(0,3),(1,3),(2,3),(3,3),(4,3),(5,22),(6,24),(10,3),(11,3),(12,3),(13,3),(14,3),(15,3)],16,128,some (.agg #[.int .i64 (0),.int .i64 (0),.int .i64 (0),.int .i64 (0),.int .i64 (0),.int .u64 (0),.int .i64 (0),.int .i64 (0),.int .i64 (0),.int .i64 (0),.int .i64 (0),.int .i64 (0),.int .i64 (0),.int .i64 (0),.int .i64 (0),.int .i64 (0)])⟩),(26,⟨.struct [(0,3),(1,3),(2,3),(3,3),(4,3),(5,22),(6,24),(10,3),(11,3),(12,3),(13,3),(14,3),(15,3)],16,128,some (.agg #[.int .i64 (0),.int .i64 (0),.int .i64 (0),.int .i64 (0),.int .i64 (0),.int .u64 (0),.int .i64 (0),.int .i64 (0),.int .i64 (0),.int .i64 (0),.int .i64 (0),.int .i64 (0),.int .i64 (0),.int .i64 (0),.int .i64 (0),.int .i64 (0)])⟩),(27,⟨.slice 116,1,24,some (.slice none 0 0)⟩),(28,⟨.slice 102,1,24,some (.slice none 0 0)⟩),(29,⟨.slice 63,1,24,some (.slice none 0 0)⟩),(30,⟨.struct [(0,27),(1,28),(2,29)],3,72,some (.agg #[.slice none 0 0,.slice none 0 0,.slice none 0 0])⟩),(31,⟨.struct [(0,27),(1,28),(2,29)],3,72,some (.agg #[.slice none 0 0,.slice none 0 0,.slice none 0 0])⟩),(32,⟨.slice 48,1,24,some (.slice none 0 0)⟩),(33,⟨.slice 3,1,24,some (.slice none 0 0)⟩),(34,⟨.struct [(0,26),(16,31),(19,32),(20,33)],21,248,some (.agg #[.int .i64 (0),.int .i64 (0),.int .i64 (0),.int .i64 (0),.int .i64 (0),.int .u64 (0),.int .i64 (0),.int .i64 (0),.int .i64 (0),.int .i64 (0),.int .i64 (0),.int .i64 (0),.int .i64 (0),.int .i64 (0),.int .i64 (0),.int .i64 (0),.slice none 0 0,.slice none 0 0,.slice none 0 0,.slice none 0 0,.slice none 0 0])⟩),(35,⟨.struct [(0,26),(16,31),(19,32),(20,33)],21,248,some (.agg #[.int .i64 (0),.int .i64 (0),.int .i64 (0),.int .i64 (0),.int .i64 (0),.int .u64 (0),.int .i64 (0),.int .i64 (0),.int .i64 (0),.int .i64 (0),.int .i64 (0),.int .i64 (0),.int .i64 (0),.int .i64 (0),.int .i64 (0),.int .i64 (0),.slice none 0 0,.slice none 0 0,.slice none 0 0,.slice none 0 0,.slice none 0 0])⟩),(38,⟨.slice 136,1,24,some (.slice none 0 0)⟩),(39,⟨.slice 128,1,24,some (.slice none 0 0)⟩),(40,⟨.struct [(0,3),(1,3),(2,27),(3,28),(4,38),(5,39)],6,112,some (.agg #[.int .i64 (0),.int .i64 (0),.slice none 0 0,.slice none 0 0,.slice none 0 0,.slice none 0 0])⟩),(41,⟨.struct [(0,3),(1,3),(2,27),(3,28),(4,38),(5,39)],6,112,some (.agg #[.int .i64 (0),.int .i64 (0),.slice none 0 0,.slice none 0 0,.slice none 0 0,.slice none 0 0])⟩),(42,⟨.slice 52,1,24,some (.slice none 0 0)⟩),(43,⟨.slice 69,1,24,some (.slice none 0 0)⟩),(44,⟨.struct [(0,26),(16,41),(22,42),(23,43)],24,288,some (.agg #[.int .i64 (0),.int .i64 (0),.int .i64 (0),.int .i64 (0),.int .i64 (0),.int .u64 (0),.int .i64 (0),.int .i64 (0),.int .i64 (0),.int .i64 (0),.int .i64 (0),.int .i64 (0),.int .i64 (0),.int .i64 (0),.int .i64 (0),.int .i64 (0),.int .i64 (0),.int .i64 (0),.slice none 0 0,.slice none 0 0,.slice none 0 0,.slice none 0 0,.slice none 0 0,.slice none 0 0])⟩),(45,⟨.struct [(0,26),(16,41),(22,42),(23,43)],24,288,some (.agg #[.int .i64 (0),.int .i64 (0),.int .i64 (0),.int .i64 (0),.int .i64 (0),.int .u64 (0),.int .i64 (0),.int .i64 (0),.int .i64 (0),.int .i64 (0),.int .i64 (0),.int .i64 (0),.int .i64 (0),.int .i64 (0),.int .i64 (0),.int .i64 (0),.int .i64 (0),.int .i64 (0),.slice none 0 0,.slice none 0 0,.slice none 0 0,.slice none 0 0,.slice none 0 0,.slice none 0 0])⟩),(48,⟨.slice 80,1,24,some (.slice none 0 0)⟩),(49,⟨.slice 65,1,24,some (.slice none 0 0)⟩),(50,⟨.slice 83,1,24,some (.slice none 0 0)⟩),(51,⟨.struct [(0,48),(1,3),(2,49),(3,50),(4,4)],5,88,some (.agg #[.slice none 0 0,.int .i64 (0),.slice none 0 0,.slice none 0 0,.bool false])⟩),(52,⟨.struct [(0,48),(1,3),(2,49),(3,50),(4,4)],5,88,some (.agg #[.slice none 0 0,.int .i64 (0),.slice none 0 0,.slice none 0 0,.bool false])⟩),(54,⟨.struct [(0,3),(1,3),(2,3)],3,24,some (.agg #[.int .i64 (0),.int .i64 (0),.int .i64 (0)])⟩),(55,⟨.struct [(0,3),(1,3),(2,3)],3,24,some (.agg #[.int .i64 (0),.int .i64 (0),.int .i64 (0)])⟩),(56,⟨.struct [(0,4),(1,22),(2,22)],3,24,some (.agg #[.bool false,.int .u64 (0),.int .u64 (0)])⟩),(57,⟨.struct [(0,4),(1,22),(2,22)],3,24,some (.agg #[.bool false,.int .u64 (0),.int .u64 (0)])⟩),(58,⟨.struct [(0,57),(3,3)],4,32,some (.agg #[.bool false,.int .u64 (0),.int .u64 (0),.int .i64 (0)])⟩),(59,⟨.struct [(0,57),(3,3)],4,32,some (.agg #[.bool false,.int .u64 (0),.int .u64 (0),.int .i64 (0)])⟩),(60,⟨.struct [(0,3),(1,3)],2,16,some (.agg #[.int .i64 (0),.int .i64 (0)])⟩),(61,⟨.struct [(0,3),(1,3)],2,16,some (.agg #[.int .i64 (0),.int .i64 (0)])⟩),(62,⟨.struct [(0,59),(4,4),(5,3),(6,61),(8,3),(9,3)],10,80,some (.agg #[.bool false,.int .u64 (0),.int .u64 (0),.int .i64 (0),.bool false,.int .i64 (0),.int .i64 (0),.int .i64 (0),.int .i64 (0),.int .i64 (0)])⟩),(63,⟨.struct [(0,59),(4,4),(5,3),(6,61),(8,3),(9,3)],10,80,some (.agg #[.bool false,.int .u64 (0),.int .u64 (0),.int .i64 (0),.bool false,.int .i64 (0),.int .i64 (0),.int .i64 (0),.int .i64 (0),.int .i64 (0)])⟩),(64,⟨.struct [(0,3),(1,63),(11,27),(12,28)],13,136,some (.agg #[.int .i64 (0),.bool false,.int .u64 (0),.int .u64 (0),.int .i64 (0),.bool false,.int .i64 (0),.int .i64 (0),.int .i64 (0),.int .i64 (0),.int .i64 (0),.slice none 0 0,.slice none 0 0])⟩),(65,⟨.struct [(0,3),(1,63),(11,27),(12,28)],13,136,some (.agg #[.int .i64 (0),.bool false,.int .u64 (0),.int .u64 (0),.int .i64 (0),.bool false,.int .i64 (0),.int .i64 (0),.int .i64 (0),.int .i64 (0),.int .i64 (0),.slice none 0 0,.slice none 0 0])⟩),(66,⟨.struct [(0,3),(1,3),(2,55),(5,3),(6,3),(7,65),(20,4)],21,200,some (.agg #[.int .i64 (0),.int .i64 (0),.int .i64 (0),.int .i64 (0),.int .i64 (0),.int .i64 (0),.int .i64 (0),.int .i64 (0),.bool false,.int .u64 (0),.int .u64 (0),.int .i64 (0),.bool false,.int .i64 (0),.int .i64 (0),.int .i64 (0),.int .i64 (0),.int .i64 (0),.slice none 0 0,.slice none 0 0,.bool false])⟩),(67,⟨.struct [(0,3),(1,3),(2,55),(5,3),(6,3),(7,65),(20,4)],21,200,some (.agg #[.int .i64 (0),.int .i64 (0),.int .i64 (0),.int .i64 (0),.int .i64 (0),.int .i64 (0),.int .i64 (0),.int .i64 (0),.bool false,.int .u64 (0),.int .u64 (0),.int .i64 (0),.bool false,.int .i64 (0),.int .i64 (0),.int .i64 (0),.int .i64 (0),.int .i64 (0),.slice none 0 0,.slice none 0 0,.bool false])⟩),(68,⟨.struct [(0,3),(1,3),(2,67),(23,65),(36,4)],37,360,some (.agg #[.int .i64 (0),.int .i64 (0),.int .i64 (0),.int .i64 (0),.int .i64 (0),.int .i64 (0),.int .i64 (0),.int .i64 (0),.int .i64 (0),.int .i64 (0),.bool false,.int .u64 (0),.int .u64 (0),.int .i64 (0),.bool false,.int .i64 (0),.int .i64 (0),.int .i64 (0),.int .i64 (0),.int .i64 (0),.slice none 0 0,.slice none 0 0,.bool false,.int .i64 (0),.bool false,.int .u64 (0),.int .u64 (0),.int .i64 (0),.bool false,.int .i64 (0),.int .i64 (0),.int .i64 (0),.int .i64 (0),.int .i64 (0),.slice none 0 0,.slice none 0 0,.bool false])⟩),(69,⟨.struct [(0,3),(1,3),(2,67),(23,65),(36,4)],37,360,some (.agg #[.int .i64 (0),.int .i64 (0),.int .i64 (0),.int .i64 (0),.int .i64 (0),.int .i64 (0),.int .i64 (0),.int .i64 (0),.int .i64 (0),.int .i64 (0),.bool false,.int .u64 (0),.int .u64 (0),.int .i64 (0),.bool false,.int .i64 (0),.int .i64 (0),.int .i64 (0),.int .i64 (0),.int .i64 (0),.slice none 0 0,.slice none 0 0,.bool false,.int .i64 (0),.bool false,.int .u64 (0),.int .u64 (0),.int .i64 (0),.bool false,.int .i64 (0),.int .i64 (0),.int .i64 (0),.int .i64 (0),.int .i64 (0),.slice none 0 0,.slice none 0 0,.bool false])⟩),(71,⟨.slice 85,1,24,some (.slice none 0 0)⟩),(77,⟨.struct [(0,57),(3,3)],4,32,some (.agg #[.bool false,.int .u64 (0),.int .u64 (0),.int .i64 (0)])⟩),(78,⟨.struct [(0,57),(3,3)],4,32,some (.agg #[.bool false,.int .u64 (0),.int .u64 (0),.int .i64 (0)])⟩),(79,⟨.struct [(0,3),(1,59),(5,78),(9,3),(10,3),(11,4)],12,96,some (.agg #[.int .i64 (0),.bool false,.int .u64 (0),.int .u64 (0),.int .i64 (0),.bool false,.int .u64 (0),.int .u64 (0),.int .i64 (0),.int .i64 (0),.int .i64 (0),.bool false])⟩),(80,⟨.struct [(0,3),(1,59),(5,78),(9,3),(10,3),(11,4)],12,96,some (.agg #[.int .i64 (0),.bool false,.int .u64 (0),.int .u64 (0),.int .i64 (0),.bool false,.int .u64 (0),.int .u64 (0),.int .i64 (0),.int .i64 (0),.int .i64 (0),.bool false])⟩),(81,⟨.int .i64,1,8,some (.int .i64 (0))⟩),(82,⟨.struct [(0,81),(1,59),(5,3),(6,3),(7,29)],8,80,some (.agg #[.int .i64 (0),.bool false,.int .u64 (0),.int .u64 (0),.int .i64 (0),.int .i64 (0),.int .i64 (0),.slice none 0 0])⟩),(83,⟨.struct [(0,81),(1,59),(5,3),(6,3),(7,29)],8,80,some (.agg #[.int .i64 (0),.bool false,.int .u64 (0),.int .u64 (0),.int .i64 (0),.int .i64 (0),.int .i64 (0),.slice none 0 0])⟩),(84,⟨.struct [(0,3),(1,3),(2,80),(14,83),(22,3),(23,3),(24,3),(25,3),(26,3)],27,232,some (.agg #[.int .i64 (0),.int .i64 (0),.int .i64 (0),.bool false,.int .u64 (0),.int .u64 (0),.int .i64 (0),.bool false,.int .u64 (0),.int .u64 (0),.int .i64 (0),.int .i64 (0),.int .i64 (0),.bool false,.int .i64 (0),.bool false,.int .u64 (0),.int .u64 (0),.int .i64 (0),.int .i64 (0),.int .i64 (0),.slice none 0 0,.int .i64 (0),.int .i64 (0),.int .i64 (0),.int .i64 (0),.int .i64 (0)])⟩),(85,⟨.struct [(0,3),(1,3),(2,80),(14,83),(22,3),(23,3),(24,3),(25,3),(26,3)],27,232,some (.agg #[.int .i64 (0),.int .i64 (0),.int .i64 (0),.bool false,.int .u64 (0),.int .u64 (0),.int .i64 (0),.bool false,.int .u64 (0),.int .u64 (0),.int .i64 (0),.int .i64 (0),.int .i64 (0),.bool false,.int .i64 (0),.bool false,.int .u64 (0),.int .u64 (0),.int .i64 (0),.int .i64 (0),.int .i64 (0),.slice none 0 0,.int .i64 (0),.int .i64 (0),.int .i64 (0),.int .i64 (0),.int .i64 (0)])⟩),(90,⟨.map 92 85,1,8,some (.map none)⟩),(91,⟨.struct [(0,3),(1,3)],2,16,some (.agg #[.int .i64 (0),.int .i64 (0)])⟩),(92,⟨.struct [(0,3),(1,3)],2,16,some (.agg #[.int .i64 (0),.int .i64 (0)])⟩),(101,⟨.struct [(0,59),(4,3),(5,3),(6,3)],7,56,some (.agg #[.bool false,.int .u64 (0),.int .u64 (0),.int .i64 (0),.int .i64 (0),.int .i64 (0),.int .i64 (0)])⟩),(102,⟨.struct [(0,59),(4,3),(5,3),(6,3)],7,56,some (.agg #[.bool false,.int .u64 (0),.int .u64 (0),.int .i64 (0),.int .i64 (0),.int .i64 (0),.int .i64 (0)])⟩),(115,⟨.struct [(0,78),(4,3)],5,40,some (.agg #[.bool false,.int .u64 (0),.int .u64 (0),.int .i64 (0),.int .i64 (0)])⟩),(116,⟨.struct [(0,78),(4,3)],5,40,some (.agg #[.bool false,.int .u64 (0),.int .u64 (0),.int .i64 (0),.int .i64 (0)])⟩),(122,⟨.struct [(0,49),(1,3),(2,67),(23,4)],24,240,some (.agg #[.slice none 0 0,.int .i64 (0),.int .i64 (0),.int .i64 (0),.int .i64 (0),.int .i64 (0),.int .i64 (0),.int .i64 (0),.int .i64 (0),.int .i64 (0),.bool false,.int .u64 (0),.int .u64 (0),.int .i64 (0),.bool false,.int .i64 (0),.int .i64 (0),.int .i64 (0),.int .i64 (0),.int .i64 (0),.slice none 0 0,.slice none 0 0,.bool false,.bool false])⟩),(123,⟨.struct [(0,49),(1,3),(2,67),(23,4)],24,240,some (.agg #[.slice none 0 0,.int .i64 (0),.int .i64 (0),.int .i64 (0),.int .i64 (0),.int .i64 (0),.int .i64 (0),.int .i64 (0),.int .i64 (0),.int .i64 (0),.bool false,.int .u64 (0),.int .u64 (0),.int .i64 (0),.bool false,.int .i64 (0),.int .i64 (0),.int .i64 (0),.int .i64 (0),.int .i64 (0),.slice none 0 0,.slice none 0 0,.bool false,.bool false])⟩),(127,⟨.struct [(0,3),(1,33)],2,32,some (.agg #[.int .i64 (0),.slice none 0 0])⟩),(128,⟨.struct [(0,3),(1,33)],2,32,some (.agg #[.int .i64 (0),.slice none 0 0])⟩),(135,⟨.struct [(0,3),(1,29)],2,32,some (.agg #[.int .i64 (0),.slice none 0 0])⟩),(136,⟨.struct [(0,3),(1,29)],2,32,some (.agg #[.int .i64 (0),.slice none 0 0])⟩),(168,⟨.slice 22,1,24,some (.slice none 0 0)⟩),(171,⟨.int .u64,1,8,some (.int .u64 (0))⟩),(179,⟨.slice 29,1,24,some (.slice none 0 0)⟩),(187,⟨.slice 59,1,24,some (.slice none 0 0)⟩),(212,⟨.slice 9,1,24,some (.slice none 0 0)⟩),(232,⟨.slice 4,1,24,some (.slice none 0 0)⟩)]
theorem tabOk:Zes Tryz.prog tab:=
 .cons ⟨by kernel_rfl,by kernel_rfl,_,Tryz.underlying3,rfl⟩ <|
 .cons ⟨by kernel_rfl,by kernel_rfl,_,Tryz.underlying4,trivial⟩ <|
 .cons ⟨by kernel_rfl,by kernel_rfl,_,Tryz.underlying5,rfl⟩ <|
 .cons ⟨by kernel_rfl,by kernel_rfl,_,Tryz.underlying9,trivial⟩ <|
 .cons ⟨by kernel_rfl,by kernel_rfl,_,Tryz.underlying22,rfl⟩ <|
 .cons ⟨by kernel_rfl,by kernel_rfl,_,Tryz.underlying23,rfl⟩ <|
 .cons ⟨by kernel_rfl,by kernel_rfl,_,Tryz.underlying24,rfl⟩ <|
 .cons ⟨by kernel_rfl,by kernel_rfl,_,Tryz.underlying25,rfl⟩ <|
 .cons ⟨by kernel_rfl,by kernel_rfl,_,Tryz.underlying26,rfl⟩ <|
 .cons ⟨by kernel_rfl,by kernel_rfl,_,Tryz.underlying27,rfl⟩ <|
 .cons ⟨by kernel_rfl,by kernel_rfl,_,Tryz.underlying28,rfl⟩ <|
 .cons ⟨by kernel_rfl,by kernel_rfl,_,Tryz.underlying29,rfl⟩ <|
 .cons ⟨by kernel_rfl,by kernel_rfl,_,Tryz.underlying30,rfl⟩ <|
 .cons ⟨by kernel_rfl,by kernel_rfl,_,Tryz.underlying31,rfl⟩ <|
 .cons ⟨by kernel_rfl,by kernel_rfl,_,Tryz.underlying32,rfl⟩ <|
 .cons ⟨by kernel_rfl,by kernel_rfl,_,Tryz.underlying33,rfl⟩ <|
 .cons ⟨by kernel_rfl,by kernel_rfl,_,Tryz.underlying34,rfl⟩ <|
 .cons ⟨by kernel_rfl,by kernel_rfl,_,Tryz.underlying35,rfl⟩ <|
 .cons ⟨by kernel_rfl,by kernel_rfl,_,Tryz.underlying38,rfl⟩ <|
 .cons ⟨by kernel_rfl,by kernel_rfl,_,Tryz.underlying39,rfl⟩ <|
 .cons ⟨by kernel_rfl,by kernel_rfl,_,Tryz.underlying40,rfl⟩ <|
 .cons ⟨by kernel_rfl,by kernel_rfl,_,Tryz.underlying41,rfl⟩ <|
 .cons ⟨by kernel_rfl,by kernel_rfl,_,Tryz.underlying42,rfl⟩ <|
 .cons ⟨by kernel_rfl,by kernel_rfl,_,Tryz.underlying43,rfl⟩ <|
 .cons ⟨by kernel_rfl,by kernel_rfl,_,Tryz.underlying44,rfl⟩ <|
 .cons ⟨by kernel_rfl,by kernel_rfl,_,Tryz.underlying45,rfl⟩ <|
 .cons ⟨by kernel_rfl,by kernel_rfl,_,Tryz.underlying48,rfl⟩ <|
 .cons ⟨by kernel_rfl,by kernel_rfl,_,Tryz.underlying49,rfl⟩ <|
 .cons ⟨by kernel_rfl,by kernel_rfl,_,Tryz.underlying50,rfl⟩ <|
 .cons ⟨by kernel_rfl,by kernel_rfl,_,Tryz.underlying51,rfl⟩ <|
 .cons ⟨by kernel_rfl,by kernel_rfl,_,Tryz.underlying52,rfl⟩ <|
 .cons ⟨by kernel_rfl,by kernel_rfl,_,Tryz.underlying54,rfl⟩ <|
 .cons ⟨by kernel_rfl,by kernel_rfl,_,Tryz.underlying55,rfl⟩ <|
 .cons ⟨by kernel_rfl,by kernel_rfl,_,Tryz.underlying56,rfl⟩ <|
 .cons ⟨by kernel_rfl,by kernel_rfl,_,Tryz.underlying57,rfl⟩ <|
 .cons ⟨by kernel_rfl,by kernel_rfl,_,Tryz.underlying58,rfl⟩ <|
 .cons ⟨by kernel_rfl,by kernel_rfl,_,Tryz.underlying59,rfl⟩ <|
 .cons ⟨by kernel_rfl,by kernel_rfl,_,Tryz.underlying60,rfl⟩ <|
 .cons ⟨by kernel_rfl,by kernel_rfl,_,Tryz.underlying61,rfl⟩ <|
 .cons ⟨by kernel_rfl,by kernel_rfl,_,Tryz.underlying62,rfl⟩ <|
 .cons ⟨by kernel_rfl,by kernel_rfl,_,Tryz.underlying63,rfl⟩ <|
 .cons ⟨by kernel_rfl,by kernel_rfl,_,Tryz.underlying64,rfl⟩ <|
 .cons ⟨by kernel_rfl,by kernel_rfl,_,Tryz.underlying65,rfl⟩ <|
 .cons ⟨by kernel_rfl,by kernel_rfl,_,Tryz.underlying66,rfl⟩ <|
 .cons ⟨by kernel_rfl,by kernel_rfl,_,Tryz.underlying67,rfl⟩ <|
 .cons ⟨by kernel_rfl,by kernel_rfl,_,Tryz.underlying68,rfl⟩ <|
 .cons ⟨by kernel_rfl,by kernel_rfl,_,Tryz.underlying69,rfl⟩ <|
 .cons ⟨by kernel_rfl,by kernel_rfl,_,Tryz.underlying71,rfl⟩ <|
 .cons ⟨by kernel_rfl,by kernel_rfl,_,Tryz.underlying77,rfl⟩ <|
 .cons ⟨by kernel_rfl,by kernel_rfl,_,Tryz.underlying78,rfl⟩ <|
 .cons ⟨by kernel_rfl,by kernel_rfl,_,Tryz.underlying79,rfl⟩ <|
 .cons ⟨by kernel_rfl,by kernel_rfl,_,Tryz.underlying80,rfl⟩ <|
 .cons ⟨by kernel_rfl,by kernel_rfl,_,Tryz.underlying81,rfl⟩ <|
 .cons ⟨by kernel_rfl,by kernel_rfl,_,Tryz.underlying82,rfl⟩ <|
 .cons ⟨by kernel_rfl,by kernel_rfl,_,Tryz.underlying83,rfl⟩ <|
 .cons ⟨by kernel_rfl,by kernel_rfl,_,Tryz.underlying84,rfl⟩ <|
 .cons ⟨by kernel_rfl,by kernel_rfl,_,Tryz.underlying85,rfl⟩ <|
 .cons ⟨by kernel_rfl,by kernel_rfl,_,Tryz.underlying90,⟨rfl,rfl⟩⟩ <|
 .cons ⟨by kernel_rfl,by kernel_rfl,_,Tryz.underlying91,rfl⟩ <|
 .cons ⟨by kernel_rfl,by kernel_rfl,_,Tryz.underlying92,rfl⟩ <|
 .cons ⟨by kernel_rfl,by kernel_rfl,_,Tryz.underlying101,rfl⟩ <|
 .cons ⟨by kernel_rfl,by kernel_rfl,_,Tryz.underlying102,rfl⟩ <|
 .cons ⟨by kernel_rfl,by kernel_rfl,_,Tryz.underlying115,rfl⟩ <|
 .cons ⟨by kernel_rfl,by kernel_rfl,_,Tryz.underlying116,rfl⟩ <|
 .cons ⟨by kernel_rfl,by kernel_rfl,_,Tryz.underlying122,rfl⟩ <|
 .cons ⟨by kernel_rfl,by kernel_rfl,_,Tryz.underlying123,rfl⟩ <|
 .cons ⟨by kernel_rfl,by kernel_rfl,_,Tryz.underlying127,rfl⟩ <|
 .cons ⟨by kernel_rfl,by kernel_rfl,_,Tryz.underlying128,rfl⟩ <|
 .cons ⟨by kernel_rfl,by kernel_rfl,_,Tryz.underlying135,rfl⟩ <|
 .cons ⟨by kernel_rfl,by kernel_rfl,_,Tryz.underlying136,rfl⟩ <|
 .cons ⟨by kernel_rfl,by kernel_rfl,_,Tryz.underlying168,rfl⟩ <|
 .cons ⟨by kernel_rfl,by kernel_rfl,_,Tryz.underlying171,rfl⟩ <|
 .cons ⟨by kernel_rfl,by kernel_rfl,_,Tryz.underlying179,rfl⟩ <|
 .cons ⟨by kernel_rfl,by kernel_rfl,_,Tryz.underlying187,rfl⟩ <|
 .cons ⟨by kernel_rfl,by kernel_rfl,_,Tryz.underlying212,rfl⟩ <|
 .cons ⟨by kernel_rfl,by kernel_rfl,_,Tryz.underlying232,rfl⟩ <|
 .nil _
theorem Zvf:Zyf Tryz.prog tab:=⟨tabOk,by kernel_rfl⟩
theorem Yb{N:Nat}{S0:Nat->Prop}{w0:ZeC}{fn:Func}{α:Type}{v r:α}(hf:some v=some r){F:α->V}(n:Nat){is:List It}{st:St}(ras:List RA)(bs:List Bool)(fz:List Nat)(dh dn:List (Nat×List (Nat×C))){obl:List Prop}(ho:Obl obl)(h:ZOj Tryz.prog N tab n is st ras bs fz dh dn fn.results.toList=some (F v,obl):=by kernel_rfl)(hp:(F v).pure=true:=by rfl):Good Tryz.prog N S0 w0 (bodyPost Tryz.prog fn (Post S0 w0 (F r))) is st:=by
 obtain rfl:=Option.some.inj hf;exact ZqB Zvf n ras bs fz dh dn ho h hp
theorem Ye{N:Nat}{S0:Nat->Prop}{w0:ZeC}{Q:Exit->Act->World->Prop}(n:Nat){is:List It}{st:St}(ras:List RA)(bs:List Bool){it:List It}{s1:St}(na:NA){obl:List Prop}(ho:Obl obl)(hk:Good Tryz.prog N S0 w0 Q it s1)(h:toK Tryz.prog N tab n is st ras bs na=some (it,s1,obl):=by kernel_rfl)(hE:Ends Q:=by first|exact Post.ends|exact ZER.ends|exact OPost.ends):Good Tryz.prog N S0 w0 Q is st:=ZPN Zvf hE n ras bs na ho h hk
abbrev Yj(x:Int):V:=.one (.lit (.int .i64 x))
abbrev Yk(x:Bool):V:=.one (.lit (.bool x))
abbrev Yl(l:List Zac):V:=.one (cL 5 Zac.c Zac.d l)
abbrev Ym(l:List Zab):V:=.one (cL 7 Zab.c Zab.d l)
abbrev Yn(l:List Zaa):V:=.one (cL 10 Zaa.c Zaa.d l)
abbrev Yo(l:List Zah):V:=.one (cL 4 Zah.c Zah.d l)
abbrev Yp(l:List Zal):V:=.one (cL 27 Zal.c Zal.d l)
theorem Yu{α β γ:Type}{x:Option α}{g:α->Option β}{k:α->β->Option γ}{r:γ}(h:(x.bind fun y=>(g y).bind (k y))=some r):∃y z,x=some y/\g y=some z/\k y z=some r:=by
 obtain⟨y,a,h⟩:=Zbj h;obtain⟨z,b,h⟩:=Zbj h;exact⟨y,z,a,b,h⟩
abbrev Yv:ByteArray:=⟨#[0,1,2,2,3,3,3,3,4,4,4,4,4,4,4,4,5,5,5,5,5,5,5,5,5,5,5,5,5,5,5,5,6,6,6,6,6,6,6,6,6,6,6,6,6,6,6,6,6,6,6,6,6,6,6,6,6,6,6,6,6,6,6,6,7,7,7,7,7,7,7,7,7,7,7,7,7,7,7,7,7,7,7,7,7,7,7,7,7,7,7,7,7,7,7,7,7,7,7,7,7,7,7,7,7,7,7,7,7,7,7,7,7,7,7,7,7,7,7,7,7,7,7,7,7,7,7,7,8,8,8,8,8,8,8,8,8,8,8,8,8,8,8,8,8,8,8,8,8,8,8,8,8,8,8,8,8,8,8,8,8,8,8,8,8,8,8,8,8,8,8,8,8,8,8,8,8,8,8,8,8,8,8,8,8,8,8,8,8,8,8,8,8,8,8,8,8,8,8,8,8,8,8,8,8,8,8,8,8,8,8,8,8,8,8,8,8,8,8,8,8,8,8,8,8,8,8,8,8,8,8,8,8,8,8,8,8,8,8,8,8,8,8,8,8,8,8,8,8,8,8,8,8,8,8,8]⟩
abbrev Yq:=Zgo Tryz.prog
abbrev Yr(N:Nat)(S0:Nat->Prop)(w0:ZeC)(f:Func)(r:V)(p:List Nat)(s:St):Prop:=Good Tryz.prog N S0 w0 (bodyPost Tryz.prog f (Post S0 w0 r)) (at_ p (ZuB f)) s
instance:Tb Tryz.prog tab:=⟨Zvf⟩
abbrev eS{ρ:Type}(f:Nat)(args:List V)(vr:ρ->V):ρ->Ev:=fun r=>.c (Zgo Tryz.prog f args (vr r)) (vr r)
abbrev eH{ρ:Type}(f:Nat)(h0:List (Nat×B))(args:List V)(h1:ρ->List (Nat×B))(vr:ρ->V):ρ->Ev:=fun r=>.h (Zix Tryz.prog f h0 args (h1 r) (vr r)) (h1 r) (vr r)
abbrev LS{R:Type}(z:Zw)(fn:Func)(hP:List Nat)(o:Option R)(vr:R->V)(st:St):Prop:=Chk Tryz.prog fn.ntmps z (qS Tryz.prog fn z vr) (at_ hP (ZuB fn)) st [] o
abbrev LH{R:Type}(z:Zw)(fn:Func)(hP:List Nat)(o:Option R)(h1:R->List (Nat×B))(vr:R->V)(st:St):Prop:=Chk Tryz.prog fn.ntmps z (qH Tryz.prog fn z h1 vr) (at_ hP (ZuB fn)) st [] o
abbrev lA{α:Type}(n:Nat)(t s:Nat)(e:α->List C)(d:α)(l:List α):List (Nat×B):=[lz n t s e d l]
abbrev lF{α:Type}(c:α->List C)(r:α):V:=.agg (c r)
abbrev lQ{α:Type}(r:List α):V:=.one (.osl 99999 r.length)
end Go.Proofs.YtnigiacmmedkhaaGreat
