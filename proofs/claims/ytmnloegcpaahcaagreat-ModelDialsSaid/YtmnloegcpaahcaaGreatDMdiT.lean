import Derived.Test.YtmnloegcpaahcaaGreatProg
import Derived.Shelf.Spec.SlicesInsertGrow
import Derived.Lib.Hide
import Derived.Test.YtmnloegcpaahcaaGreatDPlA
import Derived.Test.YtmnloegcpaahcaaGreatDAmZ
import Derived.Test.YtmnloegcpaahcaaGreatDSort326
import Derived.Test.YtmnloegcpaahcaaGreatDAmX
namespace Go.Proofs.YtmnloegcpaahcaaGreat
open Go.RowKit Go.Lib Go.Shelf
set_option linter.unusedVariables false
set_option maxRecDepth 100000
abbrev ma(x y:List Nat):NA:=⟨[],[],[],[],[],x,y,[]⟩
abbrev mc(b:List (Nat×List (Nat×C)))(x y:List Nat):NA:=⟨[],b,[],[],[],x,y,[]⟩
abbrev md(x y:List Nat)(z:List (Nat×Nat)):NA:=⟨[],[],[],[],[],x,y,z⟩
abbrev me{α:Type}(n:Nat)(t s:Nat)(e:α->List C)(d:α)(l:List α):Nat×B:=(n,.rows t s l.length (Zam e d l))
abbrev mg(f a b:Nat)(x y:List C):C:=.clo (.func f) a b (fun i=>x.getD i .junk) (fun i=>y.getD i .junk)
abbrev mh(x:List C):C:=.rp false x.length (fun j=>x.getD (0+j) .junk)
abbrev mi:=cI .i64
theorem ml{pa:Prop}(a:pa):Obl [pa]:=(.c a .n)
theorem mC{l:List Prop}{pa:Prop}(z:Obl l)(a:pa):Obl (l++[pa]):=z.app (ml a)
theorem mn{pa pb:Prop}(a:pa)(b:pb):Obl [pa,pb]:=(.c a (.c b .n))
theorem mD{l:List Prop}{pa pb:Prop}(z:Obl l)(a:pa)(b:pb):Obl (l++[pa,pb]):=z.app (mn a b)
theorem mo{pa pb pc:Prop}(a:pa)(b:pb)(c:pc):Obl [pa,pb,pc]:=(.c a (.c b (.c c .n)))
theorem mE{l:List Prop}{pa pb pc:Prop}(z:Obl l)(a:pa)(b:pb)(c:pc):Obl (l++[pa,pb,pc]):=z.app (mo a b c)
theorem mq{pa pb pc pd:Prop}(a:pa)(b:pb)(c:pc)(d:pd):Obl [pa,pb,pc,pd]:=(.c a (.c b (.c c (.c d .n))))
theorem mF{l:List Prop}{pa pb pc pd:Prop}(z:Obl l)(a:pa)(b:pb)(c:pc)(d:pd):Obl (l++[pa,pb,pc,pd]):=z.app (mq a b c d)
theorem mr{pa pb pc pd pe:Prop}(a:pa)(b:pb)(c:pc)(d:pd)(e:pe):Obl [pa,pb,pc,pd,pe]:=(.c a (.c b (.c c (.c d (.c e .n)))))
theorem mG{l:List Prop}{pa pb pc pd pe:Prop}(z:Obl l)(a:pa)(b:pb)(c:pc)(d:pd)(e:pe):Obl (l++[pa,pb,pc,pd,pe]):=z.app (mr a b c d e)
theorem mt{pa pb pc pd pe pf:Prop}(a:pa)(b:pb)(c:pc)(d:pd)(e:pe)(f:pf):Obl [pa,pb,pc,pd,pe,pf]:=(.c a (.c b (.c c (.c d (.c e (.c f .n))))))
theorem mH{l:List Prop}{pa pb pc pd pe pf:Prop}(z:Obl l)(a:pa)(b:pb)(c:pc)(d:pd)(e:pe)(f:pf):Obl (l++[pa,pb,pc,pd,pe,pf]):=z.app (mt a b c d e f)
theorem mu{pa pb pc pd pe pf pg:Prop}(a:pa)(b:pb)(c:pc)(d:pd)(e:pe)(f:pf)(g:pg):Obl [pa,pb,pc,pd,pe,pf,pg]:=(.c a (.c b (.c c (.c d (.c e (.c f (.c g .n)))))))
theorem mI{l:List Prop}{pa pb pc pd pe pf pg:Prop}(z:Obl l)(a:pa)(b:pb)(c:pc)(d:pd)(e:pe)(f:pf)(g:pg):Obl (l++[pa,pb,pc,pd,pe,pf,pg]):=z.app (mu a b c d e f g)
theorem mw{pa pb pc pd pe pf pg ph:Prop}(a:pa)(b:pb)(c:pc)(d:pd)(e:pe)(f:pf)(g:pg)(h:ph):Obl [pa,pb,pc,pd,pe,pf,pg,ph]:=(.c a (.c b (.c c (.c d (.c e (.c f (.c g (.c h .n))))))))
theorem mJ{l:List Prop}{pa pb pc pd pe pf pg ph:Prop}(z:Obl l)(a:pa)(b:pb)(c:pc)(d:pd)(e:pe)(f:pf)(g:pg)(h:ph):Obl (l++[pa,pb,pc,pd,pe,pf,pg,ph]):=z.app (mw a b c d e f g h)
theorem my{pa pb pc pd pe pf pg ph pi:Prop}(a:pa)(b:pb)(c:pc)(d:pd)(e:pe)(f:pf)(g:pg)(h:ph)(i:pi):Obl [pa,pb,pc,pd,pe,pf,pg,ph,pi]:=(.c a (.c b (.c c (.c d (.c e (.c f (.c g (.c h (.c i .n)))))))))
theorem mK{l:List Prop}{pa pb pc pd pe pf pg ph pi:Prop}(z:Obl l)(a:pa)(b:pb)(c:pc)(d:pd)(e:pe)(f:pf)(g:pg)(h:ph)(i:pi):Obl (l++[pa,pb,pc,pd,pe,pf,pg,ph,pi]):=z.app (my a b c d e f g h i)
theorem mz{pa pb pc pd pe pf pg ph pi pj:Prop}(a:pa)(b:pb)(c:pc)(d:pd)(e:pe)(f:pf)(g:pg)(h:ph)(i:pi)(j:pj):Obl [pa,pb,pc,pd,pe,pf,pg,ph,pi,pj]:=(.c a (.c b (.c c (.c d (.c e (.c f (.c g (.c h (.c i (.c j .n))))))))))
theorem mL{l:List Prop}{pa pb pc pd pe pf pg ph pi pj:Prop}(z:Obl l)(a:pa)(b:pb)(c:pc)(d:pd)(e:pe)(f:pf)(g:pg)(h:ph)(i:pi)(j:pj):Obl (l++[pa,pb,pc,pd,pe,pf,pg,ph,pi,pj]):=z.app (mz a b c d e f g h i j)
theorem mN{α:Type}{e:α->List C}(d:α)(sz:Nat)(he:∀x,(e x).length=sz)(l:List α):l.length=l.length/\∀i j,i<l.length->j<sz->Zam e d l i j=(l.flatMap e).getD (i * sz+j) .junk:=⟨rfl,fun i j hi hj=>ZaL he l i j hi hj⟩
theorem mQ{α:Type}{e:α->List C}(d:α)(sz:Nat)(he:∀x,(e x).length=sz)(l:List α):∀i j,i<l.length->j<sz->Zam e d l i j=(l.flatMap e).getD (i * sz+j) .junk:=fun i j hi hj=>ZaL he l i j hi hj
theorem mP{α:Type}(a:α):a=a:=rfl
theorem mR(x:Int)(h:decide (0<=x)=true):0<=x:=of_decide_eq_true h
structure ZaA where
 fGroup:Int
 fPing:Int
 fWork:Int
 fTime:Int
 deriving DecidableEq
def ZaA.d:ZaA:=⟨(0:Int),(0:Int),(0:Int),(0:Int)⟩
def ZaA.c(a:ZaA):List C:=[.lit (.int .i64 a.fGroup),.lit (.int .i64 a.fPing),.lit (.int .i64 a.fWork),.lit (.int .i64 a.fTime)]
def ZaA.ok(a:ZaA):Prop:=(okI .i64) a.fGroup/\(okI .i64) a.fPing/\(okI .i64) a.fWork/\(okI .i64) a.fTime/\True
theorem ZvV:Opn Tryz.prog 24 ZaA.c ZaA.ok:=ZmV (ea:=(cP (cI .i64) (cP (cI .i64) (cP (cI .i64) (cP (cI .i64) cU))))) (oa:=(okP (okI .i64) (okP (okI .i64) (okP (okI .i64) (okP (okI .i64) okU))))) (N:=4) Tryz.underlying24 (by kernel_rfl) (ZcA (sz:=1) rfl rfl (by kernel_rfl) (ZgO Tryz.underlying3) (ZcA (sz:=1) rfl rfl (by kernel_rfl) (ZgO Tryz.underlying3) (ZcA (sz:=1) rfl rfl (by kernel_rfl) (ZgO Tryz.underlying3) (ZcA (sz:=1) rfl rfl (by kernel_rfl) (ZgO Tryz.underlying3) Zrv)))) (fun(a:Int×Int×Int×Int×Unit)=>(⟨a.1,a.2.1,a.2.2.1,a.2.2.2.1⟩ : ZaA)) (fun _=>rfl) (fun _ h=>h)
structure Zav where
 fMaxIn:Int
 fMaxOut:Int
 fShards:Int
 fMaxBans:Int
 fMaxBook:Int
 fSecret:Int
 fQuota:ZaA
 fHalf:Int
 fLimit:Int
 fBanFor:Int
 fBase:Int
 fCap:Int
 fJitter:Int
 deriving DecidableEq
def Zav.d:Zav:=⟨(0:Int),(0:Int),(0:Int),(0:Int),(0:Int),(0:Int),ZaA.d,(0:Int),(0:Int),(0:Int),(0:Int),(0:Int),(0:Int)⟩
def Zav.c(a:Zav):List C:=[.lit (.int .i64 a.fMaxIn),.lit (.int .i64 a.fMaxOut),.lit (.int .i64 a.fShards),.lit (.int .i64 a.fMaxBans),.lit (.int .i64 a.fMaxBook),.lit (.int .u64 a.fSecret),.lit (.int .i64 a.fQuota.fGroup),.lit (.int .i64 a.fQuota.fPing),.lit (.int .i64 a.fQuota.fWork),.lit (.int .i64 a.fQuota.fTime),.lit (.int .i64 a.fHalf),.lit (.int .i64 a.fLimit),.lit (.int .i64 a.fBanFor),.lit (.int .i64 a.fBase),.lit (.int .i64 a.fCap),.lit (.int .i64 a.fJitter)]
def Zav.ok(a:Zav):Prop:=(okI .i64) a.fMaxIn/\(okI .i64) a.fMaxOut/\(okI .i64) a.fShards/\(okI .i64) a.fMaxBans/\(okI .i64) a.fMaxBook/\(okI .u64) a.fSecret/\ZaA.ok a.fQuota/\(okI .i64) a.fHalf/\(okI .i64) a.fLimit/\(okI .i64) a.fBanFor/\(okI .i64) a.fBase/\(okI .i64) a.fCap/\(okI .i64) a.fJitter/\True
theorem Zxk:Opn Tryz.prog 26 Zav.c Zav.ok:=ZmV (ea:=(cP (cI .i64) (cP (cI .i64) (cP (cI .i64) (cP (cI .i64) (cP (cI .i64) (cP (cI .u64) (cP ZaA.c (cP (cI .i64) (cP (cI .i64) (cP (cI .i64) (cP (cI .i64) (cP (cI .i64) (cP (cI .i64) cU)))))))))))))) (oa:=(okP (okI .i64) (okP (okI .i64) (okP (okI .i64) (okP (okI .i64) (okP (okI .i64) (okP (okI .u64) (okP ZaA.ok (okP (okI .i64) (okP (okI .i64) (okP (okI .i64) (okP (okI .i64) (okP (okI .i64) (okP (okI .i64) okU)))))))))))))) (N:=16) Tryz.underlying26 (by kernel_rfl) (ZcA (sz:=1) rfl rfl (by kernel_rfl) (ZgO Tryz.underlying3) (ZcA (sz:=1) rfl rfl (by kernel_rfl) (ZgO Tryz.underlying3) (ZcA (sz:=1) rfl rfl (by kernel_rfl) (ZgO Tryz.underlying3) (ZcA (sz:=1) rfl rfl (by kernel_rfl) (ZgO Tryz.underlying3) (ZcA (sz:=1) rfl rfl (by kernel_rfl) (ZgO Tryz.underlying3) (ZcA (sz:=1) rfl rfl (by kernel_rfl) (ZgO Tryz.underlying22) (ZcA (sz:=4) rfl rfl (by kernel_rfl) ZvV (ZcA (sz:=1) rfl rfl (by kernel_rfl) (ZgO Tryz.underlying3) (ZcA (sz:=1) rfl rfl (by kernel_rfl) (ZgO Tryz.underlying3) (ZcA (sz:=1) rfl rfl (by kernel_rfl) (ZgO Tryz.underlying3) (ZcA (sz:=1) rfl rfl (by kernel_rfl) (ZgO Tryz.underlying3) (ZcA (sz:=1) rfl rfl (by kernel_rfl) (ZgO Tryz.underlying3) (ZcA (sz:=1) rfl rfl (by kernel_rfl) (ZgO Tryz.underlying3) Zrv))))))))))))) (fun(a:Int×Int×Int×Int×Int×Int×ZaA×Int×Int×Int×Int×Int×Int×Unit)=>(⟨a.1,a.2.1,a.2.2.1,a.2.2.2.1,a.2.2.2.2.1,a.2.2.2.2.2.1,a.2.2.2.2.2.2.1,a.2.2.2.2.2.2.2.1,a.2.2.2.2.2.2.2.2.1,a.2.2.2.2.2.2.2.2.2.1,a.2.2.2.2.2.2.2.2.2.2.1,a.2.2.2.2.2.2.2.2.2.2.2.1,a.2.2.2.2.2.2.2.2.2.2.2.2.1⟩ : Zav)) (fun _=>rfl) (fun _ h=>h)
structure Zah where
 fV6:Bool
 fHi:Int
 fLo:Int
 deriving DecidableEq
def Zah.d:Zah:=⟨false,(0:Int),(0:Int)⟩
def Zah.c(a:Zah):List C:=[.lit (.bool a.fV6),.lit (.int .u64 a.fHi),.lit (.int .u64 a.fLo)]
def Zah.ok(a:Zah):Prop:=okB a.fV6/\(okI .u64) a.fHi/\(okI .u64) a.fLo/\True
theorem Zsd:Opn Tryz.prog 28 Zah.c Zah.ok:=ZmV (ea:=(cP cB (cP (cI .u64) (cP (cI .u64) cU)))) (oa:=(okP okB (okP (okI .u64) (okP (okI .u64) okU)))) (N:=3) Tryz.underlying28 (by kernel_rfl) (ZcA (sz:=1) rfl rfl (by kernel_rfl) (ZDC Tryz.underlying4) (ZcA (sz:=1) rfl rfl (by kernel_rfl) (ZgO Tryz.underlying22) (ZcA (sz:=1) rfl rfl (by kernel_rfl) (ZgO Tryz.underlying22) Zrv))) (fun(a:Bool×Int×Int×Unit)=>(⟨a.1,a.2.1,a.2.2.1⟩ : Zah)) (fun _=>rfl) (fun _ h=>h)
structure Zaj where
 fAddr:Zah
 fPort:Int
 deriving DecidableEq
def Zaj.d:Zaj:=⟨Zah.d,(0:Int)⟩
def Zaj.c(a:Zaj):List C:=[.lit (.bool a.fAddr.fV6),.lit (.int .u64 a.fAddr.fHi),.lit (.int .u64 a.fAddr.fLo),.lit (.int .i64 a.fPort)]
def Zaj.ok(a:Zaj):Prop:=Zah.ok a.fAddr/\(okI .i64) a.fPort/\True
theorem ZyX:Opn Tryz.prog 30 Zaj.c Zaj.ok:=ZmV (ea:=(cP Zah.c (cP (cI .i64) cU))) (oa:=(okP Zah.ok (okP (okI .i64) okU))) (N:=4) Tryz.underlying30 (by kernel_rfl) (ZcA (sz:=3) rfl rfl (by kernel_rfl) Zsd (ZcA (sz:=1) rfl rfl (by kernel_rfl) (ZgO Tryz.underlying3) Zrv)) (fun(a:Zah×Int×Unit)=>(⟨a.1,a.2.1⟩ : Zaj)) (fun _=>rfl) (fun _ h=>h)
structure Zae where
 fAddr:Zah
 fBits:Int
 deriving DecidableEq
def Zae.d:Zae:=⟨Zah.d,(0:Int)⟩
def Zae.c(a:Zae):List C:=[.lit (.bool a.fAddr.fV6),.lit (.int .u64 a.fAddr.fHi),.lit (.int .u64 a.fAddr.fLo),.lit (.int .i64 a.fBits)]
def Zae.ok(a:Zae):Prop:=Zah.ok a.fAddr/\(okI .i64) a.fBits/\True
theorem ZyW:Opn Tryz.prog 32 Zae.c Zae.ok:=ZmV (ea:=(cP Zah.c (cP (cI .i64) cU))) (oa:=(okP Zah.ok (okP (okI .i64) okU))) (N:=4) Tryz.underlying32 (by kernel_rfl) (ZcA (sz:=3) rfl rfl (by kernel_rfl) Zsd (ZcA (sz:=1) rfl rfl (by kernel_rfl) (ZgO Tryz.underlying3) Zrv)) (fun(a:Zah×Int×Unit)=>(⟨a.1,a.2.1⟩ : Zae)) (fun _=>rfl) (fun _ h=>h)
structure Zas where
 fKind:Int
 fEnd:Zaj
 fNet:Zae
 fNow:Int
 fNum:Int
 fGood:Bool
 deriving DecidableEq
def Zas.d:Zas:=⟨(0:Int),Zaj.d,Zae.d,(0:Int),(0:Int),false⟩
def Zas.c(a:Zas):List C:=[.lit (.int .i64 a.fKind),.lit (.bool a.fEnd.fAddr.fV6),.lit (.int .u64 a.fEnd.fAddr.fHi),.lit (.int .u64 a.fEnd.fAddr.fLo),.lit (.int .i64 a.fEnd.fPort),.lit (.bool a.fNet.fAddr.fV6),.lit (.int .u64 a.fNet.fAddr.fHi),.lit (.int .u64 a.fNet.fAddr.fLo),.lit (.int .i64 a.fNet.fBits),.lit (.int .i64 a.fNow),.lit (.int .i64 a.fNum),.lit (.bool a.fGood)]
def Zas.ok(a:Zas):Prop:=(okI .i64) a.fKind/\Zaj.ok a.fEnd/\Zae.ok a.fNet/\(okI .i64) a.fNow/\(okI .i64) a.fNum/\okB a.fGood/\True
theorem Zxl:Opn Tryz.prog 34 Zas.c Zas.ok:=ZmV (ea:=(cP (cI .i64) (cP Zaj.c (cP Zae.c (cP (cI .i64) (cP (cI .i64) (cP cB cU))))))) (oa:=(okP (okI .i64) (okP Zaj.ok (okP Zae.ok (okP (okI .i64) (okP (okI .i64) (okP okB okU))))))) (N:=12) Tryz.underlying34 (by kernel_rfl) (ZcA (sz:=1) rfl rfl (by kernel_rfl) (ZgO Tryz.underlying3) (ZcA (sz:=4) rfl rfl (by kernel_rfl) ZyX (ZcA (sz:=4) rfl rfl (by kernel_rfl) ZyW (ZcA (sz:=1) rfl rfl (by kernel_rfl) (ZgO Tryz.underlying3) (ZcA (sz:=1) rfl rfl (by kernel_rfl) (ZgO Tryz.underlying3) (ZcA (sz:=1) rfl rfl (by kernel_rfl) (ZDC Tryz.underlying4) Zrv)))))) (fun(a:Int×Zaj×Zae×Int×Int×Bool×Unit)=>(⟨a.1,a.2.1,a.2.2.1,a.2.2.2.1,a.2.2.2.2.1,a.2.2.2.2.2.1⟩ : Zas)) (fun _=>rfl) (fun _ h=>h)
structure Zay where
 fPoints:Int
 fAt:Int
 deriving DecidableEq
def Zay.d:Zay:=⟨(0:Int),(0:Int)⟩
def Zay.c(a:Zay):List C:=[.lit (.int .i64 a.fPoints),.lit (.int .i64 a.fAt)]
def Zay.ok(a:Zay):Prop:=(okI .i64) a.fPoints/\(okI .i64) a.fAt/\True
structure Zaa where
 fEnd:Zaj
 fIn:Bool
 fSince:Int
 fScore:Zay
 fPing:Int
 fWork:Int
 deriving DecidableEq
def Zaa.d:Zaa:=⟨Zaj.d,false,(0:Int),Zay.d,(0:Int),(0:Int)⟩
def Zaa.c(a:Zaa):List C:=[.lit (.bool a.fEnd.fAddr.fV6),.lit (.int .u64 a.fEnd.fAddr.fHi),.lit (.int .u64 a.fEnd.fAddr.fLo),.lit (.int .i64 a.fEnd.fPort),.lit (.bool a.fIn),.lit (.int .i64 a.fSince),.lit (.int .i64 a.fScore.fPoints),.lit (.int .i64 a.fScore.fAt),.lit (.int .i64 a.fPing),.lit (.int .i64 a.fWork)]
def Zaa.ok(a:Zaa):Prop:=Zaj.ok a.fEnd/\okB a.fIn/\(okI .i64) a.fSince/\Zay.ok a.fScore/\(okI .i64) a.fPing/\(okI .i64) a.fWork/\True
structure Zac where
 fNet:Zae
 fUntil:Int
 deriving DecidableEq
def Zac.d:Zac:=⟨Zae.d,(0:Int)⟩
def Zac.c(a:Zac):List C:=[.lit (.bool a.fNet.fAddr.fV6),.lit (.int .u64 a.fNet.fAddr.fHi),.lit (.int .u64 a.fNet.fAddr.fLo),.lit (.int .i64 a.fNet.fBits),.lit (.int .i64 a.fUntil)]
def Zac.ok(a:Zac):Prop:=Zae.ok a.fNet/\(okI .i64) a.fUntil/\True
structure Zab where
 fEnd:Zaj
 fState:Int
 fFails:Int
 fNext:Int
 deriving DecidableEq
def Zab.d:Zab:=⟨Zaj.d,(0:Int),(0:Int),(0:Int)⟩
def Zab.c(a:Zab):List C:=[.lit (.bool a.fEnd.fAddr.fV6),.lit (.int .u64 a.fEnd.fAddr.fHi),.lit (.int .u64 a.fEnd.fAddr.fLo),.lit (.int .i64 a.fEnd.fPort),.lit (.int .i64 a.fState),.lit (.int .i64 a.fFails),.lit (.int .i64 a.fNext)]
def Zab.ok(a:Zab):Prop:=Zaj.ok a.fEnd/\(okI .i64) a.fState/\(okI .i64) a.fFails/\(okI .i64) a.fNext/\True
structure Zap where
 fCode:Int
 fEnd:Zaj
 fN:Int
 fUntil:Int
 fPeers:(List Zaa)
def Zap.d:Zap:=⟨(0:Int),Zaj.d,(0:Int),(0:Int),([]:(List Zaa))⟩
def Zap.c(a:Zap):List C:=[.lit (.int .i64 a.fCode),.lit (.bool a.fEnd.fAddr.fV6),.lit (.int .u64 a.fEnd.fAddr.fHi),.lit (.int .u64 a.fEnd.fAddr.fLo),.lit (.int .i64 a.fEnd.fPort),.lit (.int .i64 a.fN),.lit (.int .i64 a.fUntil),cL 10 Zaa.c Zaa.d a.fPeers]
def Zap.ok(a:Zap):Prop:=(okI .i64) a.fCode/\Zaj.ok a.fEnd/\(okI .i64) a.fN/\(okI .i64) a.fUntil/\(okL Zaa.ok) a.fPeers/\True
structure Zan where
 fBans:(List Zac)
 fBook:(List Zab)
 fPeers:(List Zaa)
def Zan.d:Zan:=⟨([]:(List Zac)),([]:(List Zab)),([]:(List Zaa))⟩
def Zan.c(a:Zan):List C:=[cL 5 Zac.c Zac.d a.fBans,cL 7 Zab.c Zab.d a.fBook,cL 10 Zaa.c Zaa.d a.fPeers]
def Zan.ok(a:Zan):Prop:=(okL Zac.ok) a.fBans/\(okL Zab.ok) a.fBook/\(okL Zaa.ok) a.fPeers/\True
structure ZaB where
 fBook:(List Zab)
 fPeers:(List Zaa)
 fBans:(List Zac)
def ZaB.d:ZaB:=⟨([]:(List Zab)),([]:(List Zaa)),([]:(List Zac))⟩
def ZaB.c(a:ZaB):List C:=[cL 7 Zab.c Zab.d a.fBook,cL 10 Zaa.c Zaa.d a.fPeers,cL 5 Zac.c Zac.d a.fBans]
def ZaB.ok(a:ZaB):Prop:=(okL Zab.ok) a.fBook/\(okL Zaa.ok) a.fPeers/\(okL Zac.ok) a.fBans/\True
structure ZaK where
 fc:Zav
 fs:Zan
 fx:Zas
def ZaK.d:ZaK:=⟨Zav.d,Zan.d,Zas.d⟩
def ZaK.c(a:ZaK):List C:=[.lit (.int .i64 a.fc.fMaxIn),.lit (.int .i64 a.fc.fMaxOut),.lit (.int .i64 a.fc.fShards),.lit (.int .i64 a.fc.fMaxBans),.lit (.int .i64 a.fc.fMaxBook),.lit (.int .u64 a.fc.fSecret),.lit (.int .i64 a.fc.fQuota.fGroup),.lit (.int .i64 a.fc.fQuota.fPing),.lit (.int .i64 a.fc.fQuota.fWork),.lit (.int .i64 a.fc.fQuota.fTime),.lit (.int .i64 a.fc.fHalf),.lit (.int .i64 a.fc.fLimit),.lit (.int .i64 a.fc.fBanFor),.lit (.int .i64 a.fc.fBase),.lit (.int .i64 a.fc.fCap),.lit (.int .i64 a.fc.fJitter),cL 5 Zac.c Zac.d a.fs.fBans,cL 7 Zab.c Zab.d a.fs.fBook,cL 10 Zaa.c Zaa.d a.fs.fPeers,.lit (.int .i64 a.fx.fKind),.lit (.bool a.fx.fEnd.fAddr.fV6),.lit (.int .u64 a.fx.fEnd.fAddr.fHi),.lit (.int .u64 a.fx.fEnd.fAddr.fLo),.lit (.int .i64 a.fx.fEnd.fPort),.lit (.bool a.fx.fNet.fAddr.fV6),.lit (.int .u64 a.fx.fNet.fAddr.fHi),.lit (.int .u64 a.fx.fNet.fAddr.fLo),.lit (.int .i64 a.fx.fNet.fBits),.lit (.int .i64 a.fx.fNow),.lit (.int .i64 a.fx.fNum),.lit (.bool a.fx.fGood)]
def ZaK.ok(a:ZaK):Prop:=Zav.ok a.fc/\Zan.ok a.fs/\Zas.ok a.fx/\True
structure Zax where
 fword:ByteArray
 fn:Int
 ffrom:Int
 fto:Int
 deriving DecidableEq
def Zax.d:Zax:=⟨ByteArray.empty,(0:Int),(0:Int),(0:Int)⟩
def Zax.c(a:Zax):List C:=[.lit (.string a.fword),.lit (.int .i64 a.fn),.lit (.int .i64 a.ffrom),.lit (.int .i64 a.fto)]
structure Zau where
 fNet:Zae
 fV:Int
 deriving DecidableEq
def Zau.d:Zau:=⟨Zae.d,(0:Int)⟩
def Zau.c(a:Zau):List C:=[.lit (.bool a.fNet.fAddr.fV6),.lit (.int .u64 a.fNet.fAddr.fHi),.lit (.int .u64 a.fNet.fAddr.fLo),.lit (.int .i64 a.fNet.fBits),.lit (.int .i64 a.fV)]
def Zau.ok(a:Zau):Prop:=Zae.ok a.fNet/\(okI .i64) a.fV/\True
inductive Zat where
 |nil
 |mk (a0:Zau) (a1:Bool) (a2:Zat) (a3:Zat)
def Zat.isNil:Zat->Bool | .nil=>true | .mk _ _ _ _=>false
def Zat.cs:Zat->Nat->C | .nil=>fun _=>.junk | .mk a0 a1 a2 a3=>fun j=>([.lit (.bool a0.fNet.fAddr.fV6),.lit (.int .u64 a0.fNet.fAddr.fHi),.lit (.int .u64 a0.fNet.fAddr.fLo),.lit (.int .i64 a0.fNet.fBits),.lit (.int .i64 a0.fV),.lit (.bool a1),.rp a2.isNil 8 a2.cs,.rp a3.isNil 8 a3.cs]:List C).getD (0+j) .junk
def Zat.c(x:Zat):C:=.rp x.isNil 8 x.cs
inductive ZaE where
 |nil
 |mk (a0:Zat) (a1:Zat) (a2:Int)
def ZaE.isNil:ZaE->Bool | .nil=>true | .mk _ _ _=>false
def ZaE.cs:ZaE->Nat->C | .nil=>fun _=>.junk | .mk a0 a1 a2=>fun j=>([.rp a0.isNil 8 a0.cs,.rp a1.isNil 8 a1.cs,.lit (.int .i64 a2)]:List C).getD (0+j) .junk
def ZaE.c(x:ZaE):C:=.rp x.isNil 3 x.cs
structure ZjC where
 fhit:Zau
 fhas:Bool
 fkids:(Zat×Zat)
def ZjC.d:ZjC:=⟨Zau.d,false,(Zat.nil,Zat.nil)⟩
def ZjC.c(a:ZjC):List C:=[.lit (.bool a.fhit.fNet.fAddr.fV6),.lit (.int .u64 a.fhit.fNet.fAddr.fHi),.lit (.int .u64 a.fhit.fNet.fAddr.fLo),.lit (.int .i64 a.fhit.fNet.fBits),.lit (.int .i64 a.fhit.fV),.lit (.bool a.fhas),Zat.c a.fkids.1,Zat.c a.fkids.2]
structure ZaW where
 fby:Int
 fn:Int
 deriving DecidableEq
def ZaW.d:ZaW:=⟨(0:Int),(0:Int)⟩
def ZaW.c(a:ZaW):List C:=[.lit (.int .i64 a.fby),.lit (.int .i64 a.fn)]
def ZaW.ok(a:ZaW):Prop:=(okI .i64) a.fby/\(okI .i64) a.fn/\True
structure Zaf where
 fKey:Int
 fEnd:Zaj
 deriving DecidableEq
def Zaf.d:Zaf:=⟨(0:Int),Zaj.d⟩
def Zaf.c(a:Zaf):List C:=[.lit (.int .i64 a.fKey),.lit (.bool a.fEnd.fAddr.fV6),.lit (.int .u64 a.fEnd.fAddr.fHi),.lit (.int .u64 a.fEnd.fAddr.fLo),.lit (.int .i64 a.fEnd.fPort)]
def Zaf.ok(a:Zaf):Prop:=(okI .i64) a.fKey/\Zaj.ok a.fEnd/\True
def tab:Tab:=[ (3,⟨.int .i64,1,8,some (.int .i64 (0))⟩),(4,⟨.bool,1,1,some (.bool false)⟩),(5,⟨.int .u8,1,1,some (.int .u8 (0))⟩),(9,⟨.str,1,16,some (.string ⟨#[]⟩)⟩),(22,⟨.int .u64,1,8,some (.int .u64 (0))⟩),(23,⟨.struct [(0,3),(1,3),(2,3),(3,3)],4,32,some (.agg #[.int .i64 (0),.int .i64 (0),.int .i64 (0),.int .i64 (0)])⟩),(24,⟨.struct [(0,3),(1,3),(2,3),(3,3)],4,32,some (.agg #[.int .i64 (0),.int .i64 (0),.int .i64 (0),.int .i64 (0)])⟩),(25,⟨.struct [(0,3),(1,3),(2,3),(3,3),(4,3),(5,22),(6,24),(10,3),(11,3),(12,3),(13,3),(14,3),(15,3)],16,128,some (.agg #[.int .i64 (0),.int .i64 (0),.int .i64 (0),.int .i64 (0),.int .i64 (0),.int .u64 (0),.int .i64 (0),.int .i64 (0),.int .i64 (0),.int .i64 (0),.int .i64 (0),.int .i64 (0),.int .i64 (0),.int .i64 (0),.int .i64 (0),.int .i64 (0)])⟩),(26,⟨.struct [(0,3),(1,3),(2,3),(3,3),(4,3),(5,22),(6,24),(10,3),(11,3),(12,3),(13,3),(14,3),(15,3)],16,128,some (.agg #[.int .i64 (0),.int .i64 (0),.int .i64 (0),.int .i64 (0),.int .i64 (0),.int .u64 (0),.int .i64 (0),.int .i64 (0),.int .i64 (0),.int .i64 (0),.int .i64 (0),.int .i64 (0),.int .i64 (0),.int .i64 (0),.int .i64 (0),.int .i64 (0)])⟩),(27,⟨.struct [(0,4),(1,22),(2,22)],3,24,some (.agg #[.bool false,.int .u64 (0),.int .u64 (0)])⟩),(28,⟨.struct [(0,4),(1,22),(2,22)],3,24,some (.agg #[.bool false,.int .u64 (0),.int .u64 (0)])⟩),(29,⟨.struct [(0,28),(3,3)],4,32,some (.agg #[.bool false,.int .u64 (0),.int .u64 (0),.int .i64 (0)])⟩),(30,⟨.struct [(0,28),(3,3)],4,32,some (.agg #[.bool false,.int .u64 (0),.int .u64 (0),.int .i64 (0)])⟩),(31,⟨.struct [(0,28),(3,3)],4,32,some (.agg #[.bool false,.int .u64 (0),.int .u64 (0),.int .i64 (0)])⟩),(32,⟨.struct [(0,28),(3,3)],4,32,some (.agg #[.bool false,.int .u64 (0),.int .u64 (0),.int .i64 (0)])⟩),(33,⟨.struct [(0,3),(1,30),(5,32),(9,3),(10,3),(11,4)],12,96,some (.agg #[.int .i64 (0),.bool false,.int .u64 (0),.int .u64 (0),.int .i64 (0),.bool false,.int .u64 (0),.int .u64 (0),.int .i64 (0),.int .i64 (0),.int .i64 (0),.bool false])⟩),(34,⟨.struct [(0,3),(1,30),(5,32),(9,3),(10,3),(11,4)],12,96,some (.agg #[.int .i64 (0),.bool false,.int .u64 (0),.int .u64 (0),.int .i64 (0),.bool false,.int .u64 (0),.int .u64 (0),.int .i64 (0),.int .i64 (0),.int .i64 (0),.bool false])⟩),(41,⟨.struct [(0,3),(1,3)],2,16,some (.agg #[.int .i64 (0),.int .i64 (0)])⟩),(42,⟨.struct [(0,3),(1,3)],2,16,some (.agg #[.int .i64 (0),.int .i64 (0)])⟩),(43,⟨.struct [(0,30),(4,4),(5,3),(6,42),(8,3),(9,3)],10,80,some (.agg #[.bool false,.int .u64 (0),.int .u64 (0),.int .i64 (0),.bool false,.int .i64 (0),.int .i64 (0),.int .i64 (0),.int .i64 (0),.int .i64 (0)])⟩),(44,⟨.struct [(0,30),(4,4),(5,3),(6,42),(8,3),(9,3)],10,80,some (.agg #[.bool false,.int .u64 (0),.int .u64 (0),.int .i64 (0),.bool false,.int .i64 (0),.int .i64 (0),.int .i64 (0),.int .i64 (0),.int .i64 (0)])⟩),(45,⟨.slice 94,1,24,some (.slice none 0 0)⟩),(46,⟨.slice 113,1,24,some (.slice none 0 0)⟩),(53,⟨.int .i64,1,8,some (.int .i64 (0))⟩),(54,⟨.slice 44,1,24,some (.slice none 0 0)⟩),(55,⟨.struct [(0,53),(1,30),(5,3),(6,3),(7,54)],8,80,some (.agg #[.int .i64 (0),.bool false,.int .u64 (0),.int .u64 (0),.int .i64 (0),.int .i64 (0),.int .i64 (0),.slice none 0 0])⟩),(56,⟨.struct [(0,53),(1,30),(5,3),(6,3),(7,54)],8,80,some (.agg #[.int .i64 (0),.bool false,.int .u64 (0),.int .u64 (0),.int .i64 (0),.int .i64 (0),.int .i64 (0),.slice none 0 0])⟩),(64,⟨.struct [(0,45),(1,46),(2,54)],3,72,some (.agg #[.slice none 0 0,.slice none 0 0,.slice none 0 0])⟩),(65,⟨.struct [(0,45),(1,46),(2,54)],3,72,some (.agg #[.slice none 0 0,.slice none 0 0,.slice none 0 0])⟩),(88,⟨.slice 34,1,24,some (.slice none 0 0)⟩),(89,⟨.slice 56,1,24,some (.slice none 0 0)⟩),(93,⟨.struct [(0,32),(4,3)],5,40,some (.agg #[.bool false,.int .u64 (0),.int .u64 (0),.int .i64 (0),.int .i64 (0)])⟩),(94,⟨.struct [(0,32),(4,3)],5,40,some (.agg #[.bool false,.int .u64 (0),.int .u64 (0),.int .i64 (0),.int .i64 (0)])⟩),(97,⟨.func,1,8,some (.nilFunc)⟩),(109,⟨.struct [(0,46),(1,54),(2,45)],3,72,some (.agg #[.slice none 0 0,.slice none 0 0,.slice none 0 0])⟩),(110,⟨.struct [(0,46),(1,54),(2,45)],3,72,some (.agg #[.slice none 0 0,.slice none 0 0,.slice none 0 0])⟩),(112,⟨.struct [(0,30),(4,3),(5,3),(6,3)],7,56,some (.agg #[.bool false,.int .u64 (0),.int .u64 (0),.int .i64 (0),.int .i64 (0),.int .i64 (0),.int .i64 (0)])⟩),(113,⟨.struct [(0,30),(4,3),(5,3),(6,3)],7,56,some (.agg #[.bool false,.int .u64 (0),.int .u64 (0),.int .i64 (0),.int .i64 (0),.int .i64 (0),.int .i64 (0)])⟩),(153,⟨.slice 3,1,24,some (.slice none 0 0)⟩),(163,⟨.ptr 165,1,8,some (.pointer none)⟩),(164,⟨.struct [(0,26),(16,65),(19,34)],31,296,some (.agg #[.int .i64 (0),.int .i64 (0),.int .i64 (0),.int .i64 (0),.int .i64 (0),.int .u64 (0),.int .i64 (0),.int .i64 (0),.int .i64 (0),.int .i64 (0),.int .i64 (0),.int .i64 (0),.int .i64 (0),.int .i64 (0),.int .i64 (0),.int .i64 (0),.slice none 0 0,.slice none 0 0,.slice none 0 0,.int .i64 (0),.bool false,.int .u64 (0),.int .u64 (0),.int .i64 (0),.bool false,.int .u64 (0),.int .u64 (0),.int .i64 (0),.int .i64 (0),.int .i64 (0),.bool false])⟩),(165,⟨.struct [(0,26),(16,65),(19,34)],31,296,some (.agg #[.int .i64 (0),.int .i64 (0),.int .i64 (0),.int .i64 (0),.int .i64 (0),.int .u64 (0),.int .i64 (0),.int .i64 (0),.int .i64 (0),.int .i64 (0),.int .i64 (0),.int .i64 (0),.int .i64 (0),.int .i64 (0),.int .i64 (0),.int .i64 (0),.slice none 0 0,.slice none 0 0,.slice none 0 0,.int .i64 (0),.bool false,.int .u64 (0),.int .u64 (0),.int .i64 (0),.bool false,.int .u64 (0),.int .u64 (0),.int .i64 (0),.int .i64 (0),.int .i64 (0),.bool false])⟩),(175,⟨.func,1,8,some (.nilFunc)⟩),(196,⟨.slice 30,1,24,some (.slice none 0 0)⟩),(198,⟨.func,1,8,some (.nilFunc)⟩),(200,⟨.func,1,8,some (.nilFunc)⟩),(221,⟨.func,1,8,some (.nilFunc)⟩),(232,⟨.slice 234,1,24,some (.slice none 0 0)⟩),(234,⟨.int .i64,1,8,some (.int .i64 (0))⟩),(237,⟨.struct [(0,9),(1,3),(2,3),(3,3)],4,40,some (.agg #[.string ⟨#[]⟩,.int .i64 (0),.int .i64 (0),.int .i64 (0)])⟩),(238,⟨.struct [(0,9),(1,3),(2,3),(3,3)],4,40,some (.agg #[.string ⟨#[]⟩,.int .i64 (0),.int .i64 (0),.int .i64 (0)])⟩),(239,⟨.array 16 238,64,640,some (.agg #[.string ⟨#[]⟩,.int .i64 (0),.int .i64 (0),.int .i64 (0),.string ⟨#[]⟩,.int .i64 (0),.int .i64 (0),.int .i64 (0),.string ⟨#[]⟩,.int .i64 (0),.int .i64 (0),.int .i64 (0),.string ⟨#[]⟩,.int .i64 (0),.int .i64 (0),.int .i64 (0),.string ⟨#[]⟩,.int .i64 (0),.int .i64 (0),.int .i64 (0),.string ⟨#[]⟩,.int .i64 (0),.int .i64 (0),.int .i64 (0),.string ⟨#[]⟩,.int .i64 (0),.int .i64 (0),.int .i64 (0),.string ⟨#[]⟩,.int .i64 (0),.int .i64 (0),.int .i64 (0),.string ⟨#[]⟩,.int .i64 (0),.int .i64 (0),.int .i64 (0),.string ⟨#[]⟩,.int .i64 (0),.int .i64 (0),.int .i64 (0),.string ⟨#[]⟩,.int .i64 (0),.int .i64 (0),.int .i64 (0),.string ⟨#[]⟩,.int .i64 (0),.int .i64 (0),.int .i64 (0),.string ⟨#[]⟩,.int .i64 (0),.int .i64 (0),.int .i64 (0),.string ⟨#[]⟩,.int .i64 (0),.int .i64 (0),.int .i64 (0),.string ⟨#[]⟩,.int .i64 (0),.int .i64 (0),.int .i64 (0),.string ⟨#[]⟩,.int .i64 (0),.int .i64 (0),.int .i64 (0)])⟩),(243,⟨.int .u64,1,8,some (.int .u64 (0))⟩),(245,⟨.map 32 3,1,8,some (.map none)⟩),(250,⟨.slice 9,1,24,some (.slice none 0 0)⟩),(253,⟨.slice 22,1,24,some (.slice none 0 0)⟩),(258,⟨.slice 263,1,24,some (.slice none 0 0)⟩),(259,⟨.ptr 322,1,8,some (.pointer none)⟩),(262,⟨.struct [(0,32),(4,3)],5,40,some (.agg #[.bool false,.int .u64 (0),.int .u64 (0),.int .i64 (0),.int .i64 (0)])⟩),(263,⟨.struct [(0,32),(4,3)],5,40,some (.agg #[.bool false,.int .u64 (0),.int .u64 (0),.int .i64 (0),.int .i64 (0)])⟩),(276,⟨.array 14 9,14,224,some (.agg #[.string ⟨#[]⟩,.string ⟨#[]⟩,.string ⟨#[]⟩,.string ⟨#[]⟩,.string ⟨#[]⟩,.string ⟨#[]⟩,.string ⟨#[]⟩,.string ⟨#[]⟩,.string ⟨#[]⟩,.string ⟨#[]⟩,.string ⟨#[]⟩,.string ⟨#[]⟩,.string ⟨#[]⟩,.string ⟨#[]⟩])⟩),(296,⟨.struct [(0,3),(1,3)],2,16,some (.agg #[.int .i64 (0),.int .i64 (0)])⟩),(297,⟨.struct [(0,3),(1,3)],2,16,some (.agg #[.int .i64 (0),.int .i64 (0)])⟩),(298,⟨.array 4 297,8,64,some (.agg #[.int .i64 (0),.int .i64 (0),.int .i64 (0),.int .i64 (0),.int .i64 (0),.int .i64 (0),.int .i64 (0),.int .i64 (0)])⟩),(305,⟨.slice 32,1,24,some (.slice none 0 0)⟩),(311,⟨.slice 4,1,24,some (.slice none 0 0)⟩),(319,⟨.ptr 324,1,8,some (.pointer none)⟩),(320,⟨.array 2 319,2,16,some (.agg #[.pointer none,.pointer none])⟩),(321,⟨.struct [(0,320),(2,3)],3,24,some (.agg #[.pointer none,.pointer none,.int .i64 (0)])⟩),(322,⟨.struct [(0,320),(2,3)],3,24,some (.agg #[.pointer none,.pointer none,.int .i64 (0)])⟩),(323,⟨.struct [(0,263),(5,4),(6,320)],8,64,some (.agg #[.bool false,.int .u64 (0),.int .u64 (0),.int .i64 (0),.int .i64 (0),.bool false,.pointer none,.pointer none])⟩),(324,⟨.struct [(0,263),(5,4),(6,320)],8,64,some (.agg #[.bool false,.int .u64 (0),.int .u64 (0),.int .i64 (0),.int .i64 (0),.bool false,.pointer none,.pointer none])⟩),(336,⟨.int .u32,1,4,some (.int .u32 (0))⟩),(340,⟨.slice 343,1,24,some (.slice none 0 0)⟩),(342,⟨.struct [(0,3),(1,30)],5,40,some (.agg #[.int .i64 (0),.bool false,.int .u64 (0),.int .u64 (0),.int .i64 (0)])⟩),(343,⟨.struct [(0,3),(1,30)],5,40,some (.agg #[.int .i64 (0),.bool false,.int .u64 (0),.int .u64 (0),.int .i64 (0)])⟩),(346,⟨.array 6 3,6,48,some (.agg #[.int .i64 (0),.int .i64 (0),.int .i64 (0),.int .i64 (0),.int .i64 (0),.int .i64 (0)])⟩)]
theorem ZKw:ZeG Tryz.prog tab:=
 .cons ⟨by kernel_rfl,by kernel_rfl,_,Tryz.underlying3,rfl⟩ <|
 .cons ⟨by kernel_rfl,by kernel_rfl,_,Tryz.underlying4,trivial⟩ <|
 .cons ⟨by kernel_rfl,by kernel_rfl,_,Tryz.underlying5,rfl⟩ <|
 .cons ⟨by kernel_rfl,by kernel_rfl,_,Tryz.underlying9,trivial⟩ <|
 .cons ⟨by kernel_rfl,by kernel_rfl,_,Tryz.underlying22,rfl⟩ <|
 .cons ⟨by kernel_rfl,by kernel_rfl,_,Tryz.underlying23,rfl⟩ <|
 .cons ⟨by kernel_rfl,by kernel_rfl,_,Tryz.underlying24,rfl⟩ <|
 .cons ⟨by kernel_rfl,by kernel_rfl,_,Tryz.underlying25,rfl⟩ <|
 .cons ⟨by kernel_rfl,by kernel_rfl,_,Tryz.underlying26,rfl⟩ <|
 .cons ⟨by kernel_rfl,by kernel_rfl,_,Tryz.underlying27,rfl⟩ <|
 .cons ⟨by kernel_rfl,by kernel_rfl,_,Tryz.underlying28,rfl⟩ <|
 .cons ⟨by kernel_rfl,by kernel_rfl,_,Tryz.underlying29,rfl⟩ <|
 .cons ⟨by kernel_rfl,by kernel_rfl,_,Tryz.underlying30,rfl⟩ <|
 .cons ⟨by kernel_rfl,by kernel_rfl,_,Tryz.underlying31,rfl⟩ <|
 .cons ⟨by kernel_rfl,by kernel_rfl,_,Tryz.underlying32,rfl⟩ <|
 .cons ⟨by kernel_rfl,by kernel_rfl,_,Tryz.underlying33,rfl⟩ <|
 .cons ⟨by kernel_rfl,by kernel_rfl,_,Tryz.underlying34,rfl⟩ <|
 .cons ⟨by kernel_rfl,by kernel_rfl,_,Tryz.underlying41,rfl⟩ <|
 .cons ⟨by kernel_rfl,by kernel_rfl,_,Tryz.underlying42,rfl⟩ <|
 .cons ⟨by kernel_rfl,by kernel_rfl,_,Tryz.underlying43,rfl⟩ <|
 .cons ⟨by kernel_rfl,by kernel_rfl,_,Tryz.underlying44,rfl⟩ <|
 .cons ⟨by kernel_rfl,by kernel_rfl,_,Tryz.underlying45,rfl⟩ <|
 .cons ⟨by kernel_rfl,by kernel_rfl,_,Tryz.underlying46,rfl⟩ <|
 .cons ⟨by kernel_rfl,by kernel_rfl,_,Tryz.underlying53,rfl⟩ <|
 .cons ⟨by kernel_rfl,by kernel_rfl,_,Tryz.underlying54,rfl⟩ <|
 .cons ⟨by kernel_rfl,by kernel_rfl,_,Tryz.underlying55,rfl⟩ <|
 .cons ⟨by kernel_rfl,by kernel_rfl,_,Tryz.underlying56,rfl⟩ <|
 .cons ⟨by kernel_rfl,by kernel_rfl,_,Tryz.underlying64,rfl⟩ <|
 .cons ⟨by kernel_rfl,by kernel_rfl,_,Tryz.underlying65,rfl⟩ <|
 .cons ⟨by kernel_rfl,by kernel_rfl,_,Tryz.underlying88,rfl⟩ <|
 .cons ⟨by kernel_rfl,by kernel_rfl,_,Tryz.underlying89,rfl⟩ <|
 .cons ⟨by kernel_rfl,by kernel_rfl,_,Tryz.underlying93,rfl⟩ <|
 .cons ⟨by kernel_rfl,by kernel_rfl,_,Tryz.underlying94,rfl⟩ <|
 .cons ⟨by kernel_rfl,by kernel_rfl,_,Tryz.underlying97,trivial⟩ <|
 .cons ⟨by kernel_rfl,by kernel_rfl,_,Tryz.underlying109,rfl⟩ <|
 .cons ⟨by kernel_rfl,by kernel_rfl,_,Tryz.underlying110,rfl⟩ <|
 .cons ⟨by kernel_rfl,by kernel_rfl,_,Tryz.underlying112,rfl⟩ <|
 .cons ⟨by kernel_rfl,by kernel_rfl,_,Tryz.underlying113,rfl⟩ <|
 .cons ⟨by kernel_rfl,by kernel_rfl,_,Tryz.underlying153,rfl⟩ <|
 .cons ⟨by kernel_rfl,by kernel_rfl,_,Tryz.underlying163,rfl⟩ <|
 .cons ⟨by kernel_rfl,by kernel_rfl,_,Tryz.underlying164,rfl⟩ <|
 .cons ⟨by kernel_rfl,by kernel_rfl,_,Tryz.underlying165,rfl⟩ <|
 .cons ⟨by kernel_rfl,by kernel_rfl,_,Tryz.underlying175,trivial⟩ <|
 .cons ⟨by kernel_rfl,by kernel_rfl,_,Tryz.underlying196,rfl⟩ <|
 .cons ⟨by kernel_rfl,by kernel_rfl,_,Tryz.underlying198,trivial⟩ <|
 .cons ⟨by kernel_rfl,by kernel_rfl,_,Tryz.underlying200,trivial⟩ <|
 .cons ⟨by kernel_rfl,by kernel_rfl,_,Tryz.underlying221,trivial⟩ <|
 .cons ⟨by kernel_rfl,by kernel_rfl,_,Tryz.underlying232,rfl⟩ <|
 .cons ⟨by kernel_rfl,by kernel_rfl,_,Tryz.underlying234,rfl⟩ <|
 .cons ⟨by kernel_rfl,by kernel_rfl,_,Tryz.underlying237,rfl⟩ <|
 .cons ⟨by kernel_rfl,by kernel_rfl,_,Tryz.underlying238,rfl⟩ <|
 .cons ⟨by kernel_rfl,by kernel_rfl,_,Tryz.underlying239,⟨rfl,rfl⟩⟩ <|
 .cons ⟨by kernel_rfl,by kernel_rfl,_,Tryz.underlying243,rfl⟩ <|
 .cons ⟨by kernel_rfl,by kernel_rfl,_,Tryz.underlying245,⟨rfl,rfl⟩⟩ <|
 .cons ⟨by kernel_rfl,by kernel_rfl,_,Tryz.underlying250,rfl⟩ <|
 .cons ⟨by kernel_rfl,by kernel_rfl,_,Tryz.underlying253,rfl⟩ <|
 .cons ⟨by kernel_rfl,by kernel_rfl,_,Tryz.underlying258,rfl⟩ <|
 .cons ⟨by kernel_rfl,by kernel_rfl,_,Tryz.underlying259,rfl⟩ <|
 .cons ⟨by kernel_rfl,by kernel_rfl,_,Tryz.underlying262,rfl⟩ <|
 .cons ⟨by kernel_rfl,by kernel_rfl,_,Tryz.underlying263,rfl⟩ <|
 .cons ⟨by kernel_rfl,by kernel_rfl,_,Tryz.underlying276,⟨rfl,rfl⟩⟩ <|
 .cons ⟨by kernel_rfl,by kernel_rfl,_,Tryz.underlying296,rfl⟩ <|
 .cons ⟨by kernel_rfl,by kernel_rfl,_,Tryz.underlying297,rfl⟩ <|
 .cons ⟨by kernel_rfl,by kernel_rfl,_,Tryz.underlying298,⟨rfl,rfl⟩⟩ <|
 .cons ⟨by kernel_rfl,by kernel_rfl,_,Tryz.underlying305,rfl⟩ <|
 .cons ⟨by kernel_rfl,by kernel_rfl,_,Tryz.underlying311,rfl⟩ <|
 .cons ⟨by kernel_rfl,by kernel_rfl,_,Tryz.underlying319,rfl⟩ <|
 .cons ⟨by kernel_rfl,by kernel_rfl,_,Tryz.underlying320,⟨rfl,rfl⟩⟩ <|
 .cons ⟨by kernel_rfl,by kernel_rfl,_,Tryz.underlying321,rfl⟩ <|
 .cons ⟨by kernel_rfl,by kernel_rfl,_,Tryz.underlying322,rfl⟩ <|
 .cons ⟨by kernel_rfl,by kernel_rfl,_,Tryz.underlying323,rfl⟩ <|
 .cons ⟨by kernel_rfl,by kernel_rfl,_,Tryz.underlying324,rfl⟩ <|
 .cons ⟨by kernel_rfl,by kernel_rfl,_,Tryz.underlying336,rfl⟩ <|
 .cons ⟨by kernel_rfl,by kernel_rfl,_,Tryz.underlying340,rfl⟩ <|
 .cons ⟨by kernel_rfl,by kernel_rfl,_,Tryz.underlying342,rfl⟩ <|
 .cons ⟨by kernel_rfl,by kernel_rfl,_,Tryz.underlying343,rfl⟩ <|
 .cons ⟨by kernel_rfl,by kernel_rfl,_,Tryz.underlying346,⟨rfl,rfl⟩⟩ <|
 .nil _
theorem Zal:ZxI Tryz.prog tab:=⟨ZKw,by kernel_rfl⟩
theorem Ya{N:Nat}{S0:Nat->Prop}{w0:ZaU}{fn:Func}{α:Type}{v r:α}(hf:some v=some r){F:α->V}(n:Nat){is:List It}{st:St}(ras:List RA)(bs:List Bool){obl:List Prop}(ho:Obl obl)(h:ZKv Tryz.prog N tab n is st ras bs [] [] [] fn.results.toList=some (F v,obl):=by kernel_rfl)(hp:(F v).pure=true:=by rfl):Good Tryz.prog N S0 w0 (bodyPost Tryz.prog fn (Post S0 w0 (F r))) is st:=by
 obtain rfl:=Option.some.inj hf;exact Zai Zal n ras bs [] [] [] ho h hp
theorem Yb{N:Nat}{S0:Nat->Prop}{w0:ZaU}{fn:Func}{α:Type}{v r:α}(hf:some v=some r){F:α->V}(n:Nat){is:List It}{st:St}(ras:List RA)(bs:List Bool)(fz:List Nat)(dh dn:List (Nat×List (Nat×C))){obl:List Prop}(ho:Obl obl)(h:ZKv Tryz.prog N tab n is st ras bs fz dh dn fn.results.toList=some (F v,obl):=by kernel_rfl)(hp:(F v).pure=true:=by rfl):Good Tryz.prog N S0 w0 (bodyPost Tryz.prog fn (Post S0 w0 (F r))) is st:=by
 obtain rfl:=Option.some.inj hf;exact Zai Zal n ras bs fz dh dn ho h hp
theorem Yc{N:Nat}{S0:Nat->Prop}{w0:ZaU}{fn:Func}{α:Type}{v r:α}(hf:some v=some r){F:α->V}{H:α->List (Nat×B)}(n:Nat){is:List It}{st:St}(ras:List RA)(bs:List Bool)(na:NA){obl:List Prop}(ho:Obl obl)(h:ZGf Tryz.prog N tab n is st ras bs na fn.results.toList=some (F v,H v,obl):=by kernel_rfl):Good Tryz.prog N S0 w0 (bodyPost Tryz.prog fn (ZaO S0 w0 (H r) (F r))) is st:=by
 obtain rfl:=Option.some.inj hf;exact ZbF Zal n ras bs na ho h
theorem Yd{N:Nat}{S0:Nat->Prop}{w0:ZaU}{fn:Func}{res:V}{h1:List (Nat×B)}(n:Nat){is:List It}{st:St}(ras:List RA)(bs:List Bool)(na:NA){obl:List Prop}(ho:Obl obl)(h:ZKa Tryz.prog N tab n is st ras bs na [100000] fn.results.toList=some (res,h1,obl):=by kernel_rfl):Good Tryz.prog N S0 w0 (bodyPost Tryz.prog fn (ZaO S0 w0 h1 res)) is st:=ZdO Zal n ras bs na [100000] ho h
theorem Ye{N:Nat}{S0:Nat->Prop}{w0:ZaU}{Q:Exit->Act->World->Prop}(n:Nat){is:List It}{st:St}(ras:List RA)(bs:List Bool){it:List It}{s1:St}(na:NA){obl:List Prop}(ho:Obl obl)(hk:Good Tryz.prog N S0 w0 Q it s1)(h:toK Tryz.prog N tab n is st ras bs na=some (it,s1,obl):=by kernel_rfl)(hE:Ends Q:=by first|exact Post.ends|exact ZaO.ends|exact OPost.ends):Good Tryz.prog N S0 w0 Q is st:=Zaz Zal hE n ras bs na ho h hk
def Yi(l:List Nat):NA:=⟨[],[],[],[],[],l,[],[]⟩
abbrev Yj(x:Int):V:=.one (.lit (.int .i64 x))
abbrev Yk(x:Bool):V:=.one (.lit (.bool x))
abbrev Yl(l:List Zac):V:=.one (cL 5 Zac.c Zac.d l)
abbrev Ym(l:List Zaa):V:=.one (cL 10 Zaa.c Zaa.d l)
abbrev Yn(l:List Zab):V:=.one (cL 7 Zab.c Zab.d l)
abbrev Yo(l:List Zaf):V:=.one (cL 5 Zaf.c Zaf.d l)
theorem Yv{f:FuncId}{fn:Func}{c:Code}{N:Nat}{args:List V}{res:V}(hf:Tryz.prog.funcs[f]?=some fn)(h:∀S0 w0,Good Tryz.prog N S0 w0 (bodyPost Tryz.prog fn (Post S0 w0 res)) [.code c] (St.init args))(hb:fn.body=some c:=by rfl)(hn:(fn.name=="runtime.NumGoroutine")=false:=by rfl)(hN:fn.ntmps=N:=by rfl)(hl:Nat.ble args.length N=true:=by rfl):Zaw Tryz.prog f args res:=Zaw.of hf hb hn hN hl h
theorem Yw{f:FuncId}{fn:Func}{c:Code}{N:Nat}{h0:List (Nat×B)}{args:List V}{h1:List (Nat×B)}{res:V}(hf:Tryz.prog.funcs[f]?=some fn)(h:∀S0 w0,Good Tryz.prog N S0 w0 (bodyPost Tryz.prog fn (ZaO S0 w0 h1 res)) [.code c] (St.initH args h0))(hb:fn.body=some c:=by rfl)(hn:(fn.name=="runtime.NumGoroutine")=false:=by rfl)(hN:fn.ntmps=N:=by rfl)(hl:Nat.ble args.length N=true:=by rfl):ZbP Tryz.prog f h0 args h1 res:=ZbP.of hf hb hn hN hl h
theorem Yt{p q:Prop}[Decidable p][Decidable q]{α:Type}{x:Option α}{r:α}(h:need p (need q x)=some r):p/\q/\x=some r:=⟨(Zao h).1,(Zao (Zao h).2).1,(Zao (Zao h).2).2⟩
theorem Yu{α β γ:Type}{x:Option α}{g:α->Option β}{k:α->β->Option γ}{r:γ}(h:(x.bind fun y=>(g y).bind (k y))=some r):∃y z,x=some y/\g y=some z/\k y z=some r:=by
 obtain⟨y,a,h⟩:=Zad h;obtain⟨z,b,h⟩:=Zad h;exact⟨y,z,a,b,h⟩
abbrev Yx:ByteArray:=⟨#[0,1,2,2,3,3,3,3,4,4,4,4,4,4,4,4,5,5,5,5,5,5,5,5,5,5,5,5,5,5,5,5,6,6,6,6,6,6,6,6,6,6,6,6,6,6,6,6,6,6,6,6,6,6,6,6,6,6,6,6,6,6,6,6,7,7,7,7,7,7,7,7,7,7,7,7,7,7,7,7,7,7,7,7,7,7,7,7,7,7,7,7,7,7,7,7,7,7,7,7,7,7,7,7,7,7,7,7,7,7,7,7,7,7,7,7,7,7,7,7,7,7,7,7,7,7,7,7,8,8,8,8,8,8,8,8,8,8,8,8,8,8,8,8,8,8,8,8,8,8,8,8,8,8,8,8,8,8,8,8,8,8,8,8,8,8,8,8,8,8,8,8,8,8,8,8,8,8,8,8,8,8,8,8,8,8,8,8,8,8,8,8,8,8,8,8,8,8,8,8,8,8,8,8,8,8,8,8,8,8,8,8,8,8,8,8,8,8,8,8,8,8,8,8,8,8,8,8,8,8,8,8,8,8,8,8,8,8,8,8,8,8,8,8,8,8,8,8,8,8,8,8,8,8,8,8]⟩
abbrev Yp:=Zaw Tryz.prog
abbrev Yq:=ZbP Tryz.prog
abbrev Yr(N:Nat)(S0:Nat->Prop)(w0:ZaU)(f:Func)(r:V)(p:List Nat)(s:St):Prop:=Good Tryz.prog N S0 w0 (bodyPost Tryz.prog f (Post S0 w0 r)) (at_ p (ZaM f)) s
abbrev Ys(N:Nat)(S0:Nat->Prop)(w0:ZaU)(f:Func)(h:List (Nat×B))(r:V)(p:List Nat)(s:St):Prop:=Good Tryz.prog N S0 w0 (bodyPost Tryz.prog f (ZaO S0 w0 h r)) (at_ p (ZaM f)) s
end Go.Proofs.YtmnloegcpaahcaaGreat
