import Derived.Test.YtmnloegcpaahcaaGreatDMdiA3
namespace Go.Proofs.YtmnloegcpaahcaaGreat
open Go.RowKit Go.Lib Go.Shelf
set_option linter.unusedVariables false
set_option maxRecDepth 100000
def Zyh(b:Zay):Option Zay:=(Zez b.fAt).bind fun d=>some (Zay.mk (if(1099511627776:Int)<(if(0:Int)>b.fPoints then(0:Int)else b.fPoints)then(1099511627776:Int)else(if(0:Int)>b.fPoints then(0:Int)else b.fPoints)) d)
def ZAO(b d:Int):Option Int:=(Zez b).bind fun e=>(Zez d).bind fun f=>(Zez (ZaG e f)).bind fun g=>some g
def ZqQ(f:Zay)(b g:Int):Option Zay:=(Zyh f).bind fun e=>(ZAO g e.fAt).bind fun d=>need ((if(1073741824:Int)<(if(1:Int)>b then(1:Int)else b)then(1073741824:Int)else(if(1:Int)>b then(1:Int)else b))≠0)<|need (0<=(if(41:Int)<(IntKind.wrap .i64 (Int.tdiv d (if(1073741824:Int)<(if(1:Int)>b then(1:Int)else b)then(1073741824:Int)else(if(1:Int)>b then(1:Int)else b))))then(41:Int)else(IntKind.wrap .i64 (Int.tdiv d (if(1073741824:Int)<(if(1:Int)>b then(1:Int)else b)then(1073741824:Int)else(if(1:Int)>b then(1:Int)else b))))))<|some (Zay.mk (Int.fdiv e.fPoints (2 ^ (min (if(41:Int)<(IntKind.wrap .i64 (Int.tdiv d (if(1073741824:Int)<(if(1:Int)>b then(1:Int)else b)then(1073741824:Int)else(if(1:Int)>b then(1:Int)else b))))then(41:Int)else(IntKind.wrap .i64 (Int.tdiv d (if(1073741824:Int)<(if(1:Int)>b then(1:Int)else b)then(1073741824:Int)else(if(1:Int)>b then(1:Int)else b))))).toNat (IntKind.bits .i64)))) (Zaq e.fAt (ZiO (IntKind.wrap .i64 (Int.tdiv d (if(1073741824:Int)<(if(1:Int)>b then(1:Int)else b)then(1073741824:Int)else(if(1:Int)>b then(1:Int)else b)))) (if(1073741824:Int)<(if(1:Int)>b then(1:Int)else b)then(1073741824:Int)else(if(1:Int)>b then(1:Int)else b)))))
def ZAP(e f:Int):Option Int:=(Zez e).bind fun b=>(Zez f).bind fun d=>bif(decide (b>(0:Int)))then need (b≠0)<|bif(decide (d>(IntKind.wrap .i64 (Int.tdiv (1099511627776:Int) b))))then some (1099511627776:Int)else some (ZiO b d)else some (ZiO b d)
def ZoN(b d:Int):Option Int:=(Zez b).bind fun e=>(Zez d).bind fun f=>(Zez (Zaq e f)).bind fun g=>some g
def Zng(d:Zay)(e f g:Int):Option Zay:=(ZqQ d f g).bind fun b=>(ZAP e (65536:Int)).bind fun h=>(ZoN b.fPoints h).bind fun i=>some (Zay.mk i b.fAt)
def Ztn(b:Zaa)(d e f:Int):Option Zaa:=(Zng b.fScore d e f).bind fun g=>some (Zaa.mk b.fEnd b.fIn b.fSince g b.fPing b.fWork)
def ZkY(b:Int):Option Int:=bif(decide (b<(0:Int)))then some (0:Int)else bif(decide (b>=(6:Int)))then some (0:Int)else need (0<=b/\b<((6:Nat):Int))<|ix1 b 0 ( some (0:Int))<|ix1 b 1 ( some (1:Int))<|ix1 b 2 ( some (10:Int))<|ix1 b 3 ( some (20:Int))<|ix1 b 4 ( some (50:Int))<|some (100:Int)
def ZqL(d:Zay)(b:Int):Option Bool:=some (decide (d.fPoints>=(ZiO (if(16777216:Int)<(if(1:Int)>b then(1:Int)else b)then(16777216:Int)else(if(1:Int)>b then(1:Int)else b)) (65536:Int))))
def ZmM(b:Zay):Option Int:=some (IntKind.wrap .i64 (Int.tdiv (if(0:Int)>b.fPoints then(0:Int)else b.fPoints) (65536:Int)))
def Znk(b:Zaa)(d:Int):Option Zaa:=bif(decide (d>=(1:Int)))then bif(decide (d<=(1048576:Int)))then bif(b.fPing==(0:Int))then some (Zaa.mk b.fEnd b.fIn b.fSince b.fScore d b.fWork)else bif(decide (d<b.fPing))then some (Zaa.mk b.fEnd b.fIn b.fSince b.fScore d b.fWork)else some b else some b else some b
def Zlb(b:Zaa)(e:Int):Option Zaa:=(Zez e).bind fun d=>some (Zaa.mk b.fEnd b.fIn b.fSince b.fScore b.fPing (if d>b.fWork then d else b.fWork))
def Zkf:Nat->Int->Int->Option Int|0,_,_=>none|fu+1,b,d=>bif(decide (d>(0:Int)))then bif(decide (b>(0:Int)))then bif(decide (b<(1099511627776:Int)))then(Zez (ZiO (2:Int) b)).bind fun e=>Zkf fu e (ZaG d (1:Int))else some b else some b else some b
def Zsx(d e:Int):Option Int:=(Zez d).bind fun b=>Zkf (((1099511627776:Int)-b).toNat+2) b e
def Znu(b:Zav)(d:Int):Option Int:=bif(decide (d<(1:Int)))then some (0:Int)else(Zez b.fCap).bind fun e=>(Zsx b.fBase (ZaG d (1:Int))).bind fun f=>some (if f<e then f else e)
def ZmB(b:Zav)(d:Int):Option Int:=bif(decide (b.fJitter<(1:Int)))then some (0:Int)else need (b.fJitter≠0)<|bif(decide ((Int.tmod d b.fJitter)<(0:Int)))then some (Zaq (Int.tmod d b.fJitter) b.fJitter)else some (Int.tmod d b.fJitter)
def ZlX(b:Zav)(d e f:Int):Option Int:=(Znu b d).bind fun g=>(ZoN e g).bind fun h=>(ZmB b f).bind fun i=>(ZoN h i).bind fun j=>some j
def ZkE(d:Zav)(b:Zab)(e f:Int):Option Zab:=(ZlX d (Zaq (if(999:Int)<(if(0:Int)>b.fFails then(0:Int)else b.fFails)then(999:Int)else(if(0:Int)>b.fFails then(0:Int)else b.fFails)) (1:Int)) e f).bind fun g=>some (Zab.mk b.fEnd (1:Int) (Zaq (if(999:Int)<(if(0:Int)>b.fFails then(0:Int)else b.fFails)then(999:Int)else(if(0:Int)>b.fFails then(0:Int)else b.fFails)) (1:Int)) g)
end Go.Proofs.YtmnloegcpaahcaaGreat
