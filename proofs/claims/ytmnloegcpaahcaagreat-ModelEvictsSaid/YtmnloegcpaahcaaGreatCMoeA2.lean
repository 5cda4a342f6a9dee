import Derived.Test.YtmnloegcpaahcaaGreatCMoeA1
namespace Go.Proofs.YtmnloegcpaahcaaGreat
open Go.RowKit Go.Lib Go.Shelf
set_option linter.unusedVariables false
set_option maxRecDepth 100000
variable (S0:Nat->Prop)(w0:ZaY)
def Zgy:Nat->(List Zaa)->Int->Int->Zam->Option Bool|0,_,_,_,_=>none|fu+1,f,h,b,e=>bif(decide (b<h))then need (0<=b/\b<(f.length:Int))<|(ZrT e.fBook ((f.getD b.toNat Zaa.d).fEnd)).bind fun g=>bif(!(f.getD b.toNat Zaa.d).fIn)then bif(decide (g<(0:Int)))then some false else need (0<=g/\g<(e.fBook.length:Int))<|bif((e.fBook.getD g.toNat Zab.d).fState != (3:Int))then some false else Zgy fu f h (Zan b 1) e else Zgy fu f h (Zan b 1) e else(Znz e.fBook (3:Int)).bind fun i=>(Zhi e.fPeers false).bind fun j=>some (i==j)
theorem Zrl:∀(j:Nat)(f:List Zaa)(g h:Int)(e:Zam)(r:Bool),Zgy j f g h e=some r->Yq 42 S0 w0 Tryz.f93 (Yk r) [1,0,1,0] ⟨[(1,.one (.ptr 1 0)),(7,(Ym f)),(8,(Yj g)),(9,(Yj h))],[(1,.box (Zam.c e))]⟩:=by
 intro j;induction j with
 |zero=>
  intro f g h e r b;simp[Zgy]at b
 |succ j v=>
  intro f g h e r b;unfold Zgy at b;obtain⟨p,b⟩|⟨p,b⟩:=Zae b
  .obtain⟨z,b⟩:=Zap b;obtain⟨t,A,b⟩:=Zad b;have O1:=(lT p z (ZwK _ _ _ A));obtain⟨i,b⟩|⟨i,b⟩:=Zae b
   .obtain⟨o,b⟩|⟨o,b⟩:=Zae b
    .apply Ya b 17 [rz,rz,rA [(4,aI t)],rB [(3,true),(6,true)],rz] [true,true] (ma O1 i o (mo true))
    .obtain⟨y,b⟩:=Zap b
     let R2:List RA:=[rz,rz,rA [(4,aI t)],rB [(3,true),(6,false)],rz]
     obtain⟨u,b⟩|⟨u,b⟩:=Zae b
     .apply Ya b 17 R2 [true,true] (mc O1 i o y u)
     .exact Ye 19 R2 [true,false] (lI [1,7,8,9] [1]) (mc O1 i o y u) (v f g (Zan h 1) e r b)
   .exact Ye 19 [rz,rz,rA [(4,aI t)],rB [(3,false)],rz] [true,false] (lI [1,7,8,9] [1]) (l9 O1 i (mo false)) (v f g (Zan h 1) e r b)
  .obtain⟨B,C,D,E,b⟩:=Yt b;apply Ya b 8 [rz,rA [(2,aI B),(5,aI C)]] [false] (lT p (ZqH _ _ _ D) (Ziz _ _ _ E))
def ZnF(b:Zam):Option Bool:=Zgy (((b.fPeers.length:Int)-(0:Int)).toNat+2) b.fPeers (b.fPeers.length:Int) (0:Int) b
theorem ZtB(b:Zam)(r:Bool)(d:ZnF b=some r):Yo 93 [.agg (Zam.c b)] (Yk r):=by
 refine Yu Tryz.func93 fun S0 w0=>?_;unfold ZnF at d;exact Ye 6 [rz,rz] [] (lI [1,7,8,9] [1]) .n (Zrl S0 w0 (((b.fPeers.length:Int)-(0:Int)).toNat+2) b.fPeers (b.fPeers.length:Int) (0:Int) b r d)
def Zpe(d:Zav)(b:Zam):Option Bool:=(ZqD d).bind fun e=>bif(!e)then some false else(ZqJ b.fBans).bind fun f=>bif(!f)then some false else(ZqG b.fBook).bind fun g=>bif(!g)then some false else(Zpb b.fPeers).bind fun h=>bif(!h)then some false else bif(decide ((b.fBans.length:Int)<=d.fMaxBans))then bif(decide ((b.fBook.length:Int)<=d.fMaxBook))then(Zhi b.fPeers true).bind fun i=>bif(decide (i<=d.fMaxIn))then(ZmK b).bind fun j=>bif(decide (j<=d.fMaxOut))then(ZnF b).bind fun n=>some n else some false else some false else some false else some false
theorem Zuj(A:Zav)(B:Zam)(r:Bool)(b:Zpe A B=some r):Yo 30 [.agg (Zav.c A),.agg (Zam.c B)] (Yk r):=by
 refine Yu Tryz.func30 fun S0 w0=>?_;unfold Zpe at b;obtain⟨i,C,b⟩:=Zad b;obtain⟨p,b⟩|⟨p,b⟩:=Zae b
 .apply Ya b 8 [rz,⟨[(1,aB i)],[(3,true)],[],[],[],[],[]⟩,rz] [true] (lT (ZqC _ _ C) p (mo true))
 .obtain⟨t,G,b⟩:=Zad b;have O1:=(lT (ZqC _ _ C) p (ZvR _ _ G));obtain⟨j,b⟩|⟨j,b⟩:=Zae b
  .apply Ya b 8 [rz,⟨[(1,aB i),(6,aB t)],[(3,false),(9,true)],[],[],[],[],[]⟩,rz] [true] (l9 O1 j (mo true))
  .obtain⟨D,E,b⟩:=Zad b;obtain⟨u,b⟩|⟨u,b⟩:=Zae b
   .apply Ya b 8 [rz,⟨[(1,aB i),(6,aB t),(12,aB D)],[(3,false),(9,false),(15,true)],[],[],[],[],[]⟩,rz] [true] (mc O1 j (ZqF _ _ E) u (mo true))
   .obtain⟨H,I,b⟩:=Zad b
    let R2:List RA:=[rz,⟨[(1,aB i),(6,aB t),(12,aB D),(18,aB H)],[(3,false),(9,false),(15,false)],[],[],[],[],[]⟩]
    have O3:=(mc O1 j (ZqF _ _ E) u (Zue _ _ I));obtain⟨g,b⟩|⟨g,b⟩:=Zae b
    .apply Ya b 8 (R2++[rz]) [true] (l8 O3 g)
    .obtain⟨o,b⟩|⟨o,b⟩:=Zae b
     .obtain⟨e,b⟩|⟨e,b⟩:=Zae b
      .obtain⟨v,y,b⟩:=Zad b;have O4:=(mc O3 g o e (Ziz _ _ _ y));obtain⟨d,b⟩|⟨d,b⟩:=Zae b
       .obtain⟨F,h,b⟩:=Zad b;obtain⟨f,b⟩|⟨f,b⟩:=Zae b
        .obtain⟨J,z,b⟩:=Zad b;apply Ya b 9 (R2++[⟨[(17,aI v),(24,aI F),(31,aB J)],[(6,true),(14,true),(22,true),(29,true)],[],[],[],[],[]⟩]) [false] (mc O4 d (Znv _ _ h) f (ZtB _ _ z))
        .apply Ya b 9 (R2++[⟨[(17,aI v),(24,aI F)],[(6,true),(14,true),(22,true),(29,false)],[],[],[],[],[]⟩]) [false] (ma O4 d (Znv _ _ h) f)
       .apply Ya b 9 (R2++[⟨[(17,aI v)],[(6,true),(14,true),(22,false)],[],[],[],[],[]⟩]) [false] (l8 O4 d)
      .apply Ya b 9 (R2++[rB [(6,true),(14,false)]]) [false] (ma O3 g o e)
     .apply Ya b 9 (R2++[rB [(6,false)]]) [false] (l9 O3 g o)
def ZcM:Option Bool:=(ZjE).bind fun e=>(ZrQ e (Zam.mk ([]:(List Zac)) ([]:(List Zab)) ([]:(List Zaa))) ([(Zar.mk 1 (Zai.mk (Zaf.mk false 0 1) 80) (Zaj.mk (Zaf.mk false 0 0) 0) 5 0 false),(Zar.mk 1 (Zai.mk (Zaf.mk false 0 1) 80) (Zaj.mk (Zaf.mk false 0 0) 0) 5 0 false)]:List Zar)).bind fun b=>bif(((b.2.length:Nat):Int)==(2:Int))then need (0<=(0:Int)/\(0:Int)<((b.2.length:Nat):Int))<|bif((b.2.getD (0:Int).toNat Zao.d).fCode==(0:Int))then need (0<=(1:Int)/\(1:Int)<((b.2.length:Nat):Int))<|bif((b.2.getD (1:Int).toNat Zao.d).fCode==(7:Int))then bif(((b.1.fPeers.length:Nat):Int)==(1:Int))then need (0<=(0:Int)/\(0:Int)<((b.1.fPeers.length:Nat):Int))<|bif((b.1.fPeers.getD (0:Int).toNat Zaa.d).fSince==(5:Int))then(Zpe e b.1).bind fun f=>some f else some false else some false else some false else some false else some false
theorem ZdO(r:Bool)(b:ZcM=some r):Yo 28 [] (Yk r):=by
 refine Yu Tryz.func28 fun S0 w0=>?_;unfold ZcM at b;obtain⟨z,A,b⟩:=Zad b;obtain⟨y,B,b⟩:=Zad b
 let R1:List RA:=[rz,rA [(0,aG (Zav.c z))],rz,⟨[(5,.r (.tup [(true,Zam.c y.1),(false,(cLs 8 Zao.c Zao.d) y.2)]) [])],[],[],[],[(1,[(0,cL 5 Zac.c Zac.d []),(1,cL 7 Zab.c Zab.d []),(2,cL 10 Zaa.c Zaa.d [])])],[(4,(([(Zar.mk 1 (Zai.mk (Zaf.mk false 0 1) 80) Zaj.d 5 0 false),(Zar.mk 1 (Zai.mk (Zaf.mk false 0 1) 80) Zaj.d 5 0 false)]:List Zar).length,Zal Zar.c Zar.d ([(Zar.mk 1 (Zai.mk (Zaf.mk false 0 1) 80) Zaj.d 5 0 false),(Zar.mk 1 (Zai.mk (Zaf.mk false 0 1) 80) Zaj.d 5 0 false)]:List Zar)))],[]⟩]
 have O2:=(lT (Zpl _ A) (ml (e:=Zar.c) Zar.d 12 (fun _=>rfl) ([(Zar.mk 1 (Zai.mk (Zaf.mk false 0 1) 80) Zaj.d 5 0 false),(Zar.mk 1 (Zai.mk (Zaf.mk false 0 1) 80) Zaj.d 5 0 false)]:List Zar)) (ZwH _ _ _ _ B));obtain⟨g,b⟩|⟨g,b⟩:=Zae b
 .obtain⟨o,b⟩:=Zap b;obtain⟨h,b⟩|⟨h,b⟩:=Zae b
  .obtain⟨t,b⟩:=Zap b;obtain⟨p,b⟩|⟨p,b⟩:=Zae b
   .obtain⟨u,b⟩|⟨u,b⟩:=Zae b
    .obtain⟨C,b⟩:=Zap b;have O3:=(mf O2 g o h t p u C);obtain⟨f,b⟩|⟨f,b⟩:=Zae b
     .obtain⟨D,v,b⟩:=Zad b;apply Ya b 10 (R1++[⟨[(34,aB D)],[(3,true),(10,true),(17,true),(23,true),(31,true)],[],[],[],[],[]⟩]) [] (l9 O3 f (Zuj _ _ _ v))
     .apply Ya b 10 (R1++[rB [(3,true),(10,true),(17,true),(23,true),(31,false)]]) [] (l8 O3 f)
    .apply Ya b 10 (R1++[rB [(3,true),(10,true),(17,true),(23,false)]]) [] (me O2 g o h t p u)
   .apply Ya b 10 (R1++[rB [(3,true),(10,true),(17,false)]]) [] (md O2 g o h t p)
  .apply Ya b 10 (R1++[rB [(3,true),(10,false)]]) [] (ma O2 g o h)
 .apply Ya b 10 (R1++[rB [(3,false)]]) [] (l8 O2 g)
def Zgi(b:Int):Option ByteArray:=bif(decide (b<(1:Int)))then some (⟨#[]⟩ : ByteArray)else bif(decide (b>(13:Int)))then some (⟨#[]⟩ : ByteArray)else need (0<=b/\b<((([(⟨#[]⟩ : ByteArray),(⟨#[101,116]⟩ : ByteArray),(⟨#[101]⟩ : ByteArray),(⟨#[116]⟩ : ByteArray),(⟨#[101,103,116,107]⟩ : ByteArray),(⟨#[101,107,116]⟩ : ByteArray),(⟨#[110,107,116]⟩ : ByteArray),(⟨#[110]⟩ : ByteArray),(⟨#[97,116]⟩ : ByteArray),(⟨#[116]⟩ : ByteArray),(⟨#[]⟩ : ByteArray),(⟨#[101,107]⟩ : ByteArray),(⟨#[101,116]⟩ : ByteArray),(⟨#[101,116]⟩ : ByteArray)]:List ByteArray).length:Nat):Int))<|some (([(⟨#[]⟩ : ByteArray),(⟨#[101,116]⟩ : ByteArray),(⟨#[101]⟩ : ByteArray),(⟨#[116]⟩ : ByteArray),(⟨#[101,103,116,107]⟩ : ByteArray),(⟨#[101,107,116]⟩ : ByteArray),(⟨#[110,107,116]⟩ : ByteArray),(⟨#[110]⟩ : ByteArray),(⟨#[97,116]⟩ : ByteArray),(⟨#[116]⟩ : ByteArray),(⟨#[]⟩ : ByteArray),(⟨#[101,107]⟩ : ByteArray),(⟨#[101,116]⟩ : ByteArray),(⟨#[101,116]⟩ : ByteArray)]:List ByteArray).getD b.toNat ByteArray.empty)
theorem Zpi(h:Int)(r:ByteArray)(b:Zgi h=some r):Yo 105 [Yj h] (.one (.lit (.string r))):=by
 refine Yu Tryz.func105 fun S0 w0=>?_;unfold Zgi at b
 let R1:List RA:=[rz,⟨[],[],[],[],[],[(0,(([(⟨#[]⟩ : ByteArray),(⟨#[101,116]⟩ : ByteArray),(⟨#[101]⟩ : ByteArray),(⟨#[116]⟩ : ByteArray),(⟨#[101,103,116,107]⟩ : ByteArray),(⟨#[101,107,116]⟩ : ByteArray),(⟨#[110,107,116]⟩ : ByteArray),(⟨#[110]⟩ : ByteArray),(⟨#[97,116]⟩ : ByteArray),(⟨#[116]⟩ : ByteArray),(⟨#[]⟩ : ByteArray),(⟨#[101,107]⟩ : ByteArray),(⟨#[101,116]⟩ : ByteArray),(⟨#[101,116]⟩ : ByteArray)]:List ByteArray).length,Zal cS ByteArray.empty ([(⟨#[]⟩ : ByteArray),(⟨#[101,116]⟩ : ByteArray),(⟨#[101]⟩ : ByteArray),(⟨#[116]⟩ : ByteArray),(⟨#[101,103,116,107]⟩ : ByteArray),(⟨#[101,107,116]⟩ : ByteArray),(⟨#[110,107,116]⟩ : ByteArray),(⟨#[110]⟩ : ByteArray),(⟨#[97,116]⟩ : ByteArray),(⟨#[116]⟩ : ByteArray),(⟨#[]⟩ : ByteArray),(⟨#[101,107]⟩ : ByteArray),(⟨#[101,116]⟩ : ByteArray),(⟨#[101,116]⟩ : ByteArray)]:List ByteArray)))],[]⟩]
 have O2:=(lR (ml (e:=cS) ByteArray.empty 1 (fun _=>rfl) ([(⟨#[]⟩ : ByteArray),(⟨#[101,116]⟩ : ByteArray),(⟨#[101]⟩ : ByteArray),(⟨#[116]⟩ : ByteArray),(⟨#[101,103,116,107]⟩ : ByteArray),(⟨#[101,107,116]⟩ : ByteArray),(⟨#[110,107,116]⟩ : ByteArray),(⟨#[110]⟩ : ByteArray),(⟨#[97,116]⟩ : ByteArray),(⟨#[116]⟩ : ByteArray),(⟨#[]⟩ : ByteArray),(⟨#[101,107]⟩ : ByteArray),(⟨#[101,116]⟩ : ByteArray),(⟨#[101,116]⟩ : ByteArray)]:List ByteArray)));obtain⟨f,b⟩|⟨f,b⟩:=Zae b
 .apply Ya b 10 (R1++[rB [(2,true)],rz]) [true] (l9 O2 f (mo true))
 .obtain⟨g,b⟩|⟨g,b⟩:=Zae b
  .apply Ya b 10 (R1++[rB [(2,false)],rz]) [true] (l9 O2 f g)
  .obtain⟨o,b⟩:=Zap b;apply Ya b 11 (R1++[rB [(2,false)],rz]) [false] (ma O2 f g o)
def Zbv(b:Zaf):Option Bool:=bif(!b.fV6)then bif(b.fHi==(0:Int))then some (decide (b.fLo<(4294967296:Int)))else some false else bif(b.fHi != (0:Int))then some true else some ((IntKind.wrap .u64 (Int.tdiv b.fLo (4294967296:Int))) != (65535:Int))
theorem ZaT(g:Zaf)(r:Bool)(b:Zbv g=some r):Yo 95 [.agg (Zaf.c g)] (Yk r):=by
 refine Yu Tryz.func95 fun S0 w0=>?_;unfold Zbv at b;obtain⟨d,b⟩|⟨d,b⟩:=Zae b
 .obtain⟨e,b⟩|⟨e,b⟩:=Zae b
  .apply Ya b 8 [rz,rz,rB [(3,true)]] [true] (lS d e)
  .apply Ya b 8 [rz,rz,rB [(3,false)]] [true] (lS d e)
 .obtain⟨f,b⟩|⟨f,b⟩:=Zae b
  .apply Ya b 9 [rz,rz,rB [(3,true)]] [false] (lS d f)
  .apply Ya b 9 [rz,rz,rB [(3,false)]] [false] (lT d f (show (4294967296:Int)≠0 from(by decide)))
def ZeY(b:Zai):Option Bool:=(Zbv b.fAddr).bind fun d=>bif d then bif(decide (b.fPort>(0:Int)))then some (decide (b.fPort<(65536:Int)))else some false else some false
theorem Zir(g:Zai)(r:Bool)(b:ZeY g=some r):Yo 106 [.agg (Zai.c g)] (Yk r):=by
 refine Yu Tryz.func106 fun S0 w0=>?_;unfold ZeY at b;obtain⟨d,h,b⟩:=Zad b;obtain⟨e,b⟩|⟨e,b⟩:=Zae b
 .have O1:=(lS (ZaT _ _ h) e);obtain⟨f,b⟩|⟨f,b⟩:=Zae b
  .apply Ya b 4 [rz,⟨[(2,aB d)],[(3,true),(8,true)],[],[],[],[],[]⟩] [] (l8 O1 f)
  .apply Ya b 4 [rz,⟨[(2,aB d)],[(3,true),(8,false)],[],[],[],[],[]⟩] [] (l8 O1 f)
 .apply Ya b 4 [rz,⟨[(2,aB d)],[(3,false)],[],[],[],[],[]⟩] [] (lS (ZaT _ _ h) e)
def ZbK(b:Zaf):Option Int:=bif b.fV6 then some (128:Int)else some (32:Int)
theorem Zco(e:Zaf)(r:Int)(b:ZbK e=some r):Yo 180 [.agg (Zaf.c e)] (Yj r):=by
 refine Yu Tryz.func180 fun S0 w0=>?_;unfold ZbK at b;obtain⟨d,b⟩|⟨d,b⟩:=Zae b
 .apply Ya b 8 [rz,rz,rz] [true] (lR d)
 .apply Ya b 9 [rz,rz,rz] [false] (lR d)
def ZcF(b d:Int)(e:Zaf):Option Int:=bif(!e.fV6)then need (0<=(IntKind.wrap .u64 (ZaJ (31:Int) b)))<|some (IntKind.wrap .i64 (IntKind.wrap .u64 (((BitVec.ofInt (IntKind.bits .u64) (Int.fdiv d (2 ^ (min (IntKind.wrap .u64 (ZaJ (31:Int) b)).toNat (IntKind.bits .u64))))) &&& (BitVec.ofInt (IntKind.bits .u64) (1:Int))).toNat:Int)))else need (0<=(IntKind.wrap .u64 (ZaJ (63:Int) (Int.tmod b (64:Int)))))<|some (IntKind.wrap .i64 (IntKind.wrap .u64 (((BitVec.ofInt (IntKind.bits .u64) (Int.fdiv d (2 ^ (min (IntKind.wrap .u64 (ZaJ (63:Int) (Int.tmod b (64:Int)))).toNat (IntKind.bits .u64))))) &&& (BitVec.ofInt (IntKind.bits .u64) (1:Int))).toNat:Int)))
theorem ZhS(f g:Int)(d:Zaf)(r:Int)(b:ZcF f g d=some r):Yq 39 S0 w0 Tryz.f96 (Yj r) [1,1,1,1] ⟨[(1,(Yj f)),(2,.one (.ptr 2 0)),(5,.one (.lit (.int .u64 g)))],[(2,.box (Zaf.c d))]⟩:=by
 unfold ZcF at b;have O1:=(lR (show (64:Int)≠0 from(by decide)));obtain⟨e,b⟩|⟨e,b⟩:=Zae b
 .obtain⟨h,b⟩:=Zap b;apply Ya b 9 [rz,rz,rz,rz] [true] (l9 O1 e h)
 .obtain⟨i,b⟩:=Zap b;apply Ya b 9 [rz,rz,rz] [false] (l9 O1 e i)
def Zby(b:Zaf)(d:Int):Option Int:=bif(decide (d<(0:Int)))then some (0:Int)else(ZbK b).bind fun e=>bif(decide (d>=e))then some (0:Int)else bif b.fV6 then bif(decide (d<(64:Int)))then ZcF d b.fHi b else ZcF d b.fLo b else ZcF d b.fLo b
theorem ZdE(d:Zaf)(e r:Int)(b:Zby d e=some r):Yo 96 [.agg (Zaf.c d),Yj e] (Yj r):=by
 refine Yu Tryz.func96 fun S0 w0=>?_;unfold Zby at b;obtain⟨h,b⟩|⟨h,b⟩:=Zae b
 .apply Ya b 8 [rz,rB [(2,true)],rz] [true] (lS h (mo true))
 .obtain⟨j,o,b⟩:=Zad b
  let R2:List RA:=[rz,⟨[(5,aI j)],[(2,false)],[],[],[],[],[]⟩,rz]
  have O3:=(lS h (Zco _ _ o));obtain⟨f,b⟩|⟨f,b⟩:=Zae b
  .apply Ya b 8 R2 [true] (l8 O3 f)
  .obtain⟨g,b⟩|⟨g,b⟩:=Zae b
   .obtain⟨i,b⟩|⟨i,b⟩:=Zae b
    .exact Ye 14 (R2++[rB [(2,true)],rz]) [false,true] (lI [1,2,5] [2]) (ma O3 f g i) (ZhS S0 w0 e d.fHi d r b)
    .exact Ye 14 (R2++[rB [(2,true)]]) [false,false] (lI [1,2,5] [2]) (ma O3 f g i) (ZhS S0 w0 e d.fLo d r b)
   .exact Ye 14 (R2++[rB [(2,false)]]) [false,false] (lI [1,2,5] [2]) (ma O3 f g (mo false)) (ZhS S0 w0 e d.fLo d r b)
def Zdb:Nat->Int->Zaj->Option Bool|0,_,_=>none|fu+1,b,d=>(ZbK d.fAddr).bind fun e=>bif(decide (b<e))then(Zby d.fAddr b).bind fun f=>bif(f==(1:Int))then some false else Zdb fu (Zan b 1) d else some true
theorem Znq:∀(f:Nat)(e:Int)(d:Zaj)(r:Bool),Zdb f e d=some r->Yq 35 S0 w0 Tryz.f94 (Yk r) [1,1,0,1,0] ⟨[(1,.one (.ptr 1 0)),(3,(Yj e))],[(1,.box (Zaj.c d))]⟩:=by
 intro f;induction f with
 |zero=>
  intro e d r b;simp[Zdb]at b
 |succ f p=>
  intro e d r b;unfold Zdb at b;obtain⟨g,j,b⟩:=Zad b;obtain⟨h,b⟩|⟨h,b⟩:=Zae b
  .obtain⟨o,t,b⟩:=Zad b;have O1:=(lT (Zco _ _ j) h (ZdE _ _ _ t));obtain⟨i,b⟩|⟨i,b⟩:=Zae b
   .apply Ya b 13 [rA [(3,aI g)],rA [(3,aI o)],rz] [true,true] (l8 O1 i)
   .exact Ye 15 [rA [(3,aI g)],rA [(3,aI o)],rz] [true,false] (lI [1,3] [1]) (l8 O1 i) (p (Zan e 1) d r b)
  .apply Ya b 8 [rA [(3,aI g)],rz] [false] (lS (Zco _ _ j) h)
def ZdT(b:Zaj):Option Bool:=(Zbv b.fAddr).bind fun d=>bif(!d)then some false else bif(decide (b.fBits<(0:Int)))then some false else(ZbK b.fAddr).bind fun e=>bif(decide (b.fBits>e))then some false else Zdb 1000000 b.fBits b
theorem ZeO(d:Zaj)(r:Bool)(b:ZdT d=some r):Yo 94 [.agg (Zaj.c d)] (Yk r):=by
 refine Yu Tryz.func94 fun S0 w0=>?_;unfold ZdT at b;obtain⟨e,i,b⟩:=Zad b;obtain⟨f,b⟩|⟨f,b⟩:=Zae b
 .apply Ya b 8 [rz,⟨[(2,aB e)],[(4,true)],[],[],[],[],[]⟩,rz] [true] (lT (ZaT _ _ i) f (mo true))
 .have O2:=(lS (ZaT _ _ i) f);obtain⟨g,b⟩|⟨g,b⟩:=Zae b
  .apply Ya b 8 [rz,⟨[(2,aB e)],[(4,false),(9,true)],[],[],[],[],[]⟩,rz] [true] (l9 O2 g (mo true))
  .obtain⟨j,o,b⟩:=Zad b
   let R3:List RA:=[rz,⟨[(2,aB e),(14,aI j)],[(4,false),(9,false)],[],[],[],[],[]⟩,rz]
   have O4:=(l9 O2 g (Zco _ _ o));obtain⟨h,b⟩|⟨h,b⟩:=Zae b
   .apply Ya b 8 R3 [true] (l8 O4 h)
   .exact Ye 11 R3 [false] (lI [1,3] [1]) (l8 O4 h) (Znq S0 w0 1000000 d.fBits d r b)
def Zbf(f g:Int)(d:Zar):Nat->ByteArray->Int->Option Bool|0,_,_=>none|fu+1,e,b=>bif(decide (b<((e.size:Nat):Int)))then need (0<=b/\b<((e.size:Nat):Int))<|bif(((Zlf e b.toNat:Nat):Int)==(101:Int))then(ZeY d.fEnd).bind fun h=>bif(!h)then some false else Zbf f g d fu e (Zan b 1)else bif(((Zlf e b.toNat:Nat):Int)==(110:Int))then(ZdT d.fNet).bind fun i=>bif(!i)then some false else Zbf f g d fu e (Zan b 1)else bif(((Zlf e b.toNat:Nat):Int)==(97:Int))then(Zbv d.fEnd.fAddr).bind fun j=>bif(!j)then some false else Zbf f g d fu e (Zan b 1)else bif(((Zlf e b.toNat:Nat):Int)==(116:Int))then bif(decide (d.fNow<(0:Int)))then some false else bif(decide (d.fNow>(1099511627776:Int)))then some false else Zbf f g d fu e (Zan b 1)else bif(((Zlf e b.toNat:Nat):Int)==(107:Int))then bif(decide (d.fNum<f))then some false else bif(decide (d.fNum>g))then some false else Zbf f g d fu e (Zan b 1)else Zbf f g d fu e (Zan b 1)else some true
theorem Zne(H I:Int)(d:Zar):∀(D:Nat)(g:ByteArray)(h:Int)(r:Bool),Zbf H I d D g h=some r->Yq 76 S0 w0 Tryz.f45 (Yk r) [1,1,1,1,1,0,1,0] ⟨[(1,.one (.ptr 1 0)),(3,(Yj H)),(4,(Yj I)),(5,.one (.lit (.string g))),(6,(Yj h))],[(1,.box (Zar.c d))]⟩:=by
 intro D;induction D with
 |zero=>
  intro g h r b;simp[Zbf]at b
 |succ D A=>
  intro g h r b;unfold Zbf at b;obtain⟨p,b⟩|⟨p,b⟩:=Zae b
  .obtain⟨C,b⟩:=Zap b;obtain⟨B,b⟩|⟨B,b⟩:=Zae b
   .obtain⟨J,O,b⟩:=Zad b;have O1:=(lU p C B (Zir _ _ O));obtain⟨E,b⟩|⟨E,b⟩:=Zae b
    .apply Ya b 19 [rz,rz,rz,rA [(2,aB J)],rz] [true,true,true] (l8 O1 E)
    .exact Ye 22 [rz,rz,rz,rA [(2,aB J)],rz] [true,true,false] (lI [1,3,4,5,6] [1]) (l8 O1 E) (A g (Zan h 1) r b)
   .obtain⟨e,b⟩|⟨e,b⟩:=Zae b
    .obtain⟨L,F,b⟩:=Zad b;have O2:=(lV p C B e (ZeO _ _ F));obtain⟨t,b⟩|⟨t,b⟩:=Zae b
     .apply Ya b 22 [rz,rz,rz,rz,rA [(2,aB L)],rz] [true,false,true,true] (l8 O2 t)
     .exact Ye 25 [rz,rz,rz,rz,rA [(2,aB L)],rz] [true,false,true,false] (lI [1,3,4,5,6] [1]) (l8 O2 t) (A g (Zan h 1) r b)
    .obtain⟨i,b⟩|⟨i,b⟩:=Zae b
     .obtain⟨M,G,b⟩:=Zad b;have O3:=(lW p C B e i (ZaT _ _ G));obtain⟨u,b⟩|⟨u,b⟩:=Zae b
      .apply Ya b 25 [rz,rz,rz,rz,rz,rA [(3,aB M)],rz] [true,false,false,true,true] (l8 O3 u)
      .exact Ye 28 [rz,rz,rz,rz,rz,rA [(3,aB M)],rz] [true,false,false,true,false] (lI [1,3,4,5,6] [1]) (l8 O3 u) (A g (Zan h 1) r b)
     .obtain⟨v,b⟩|⟨v,b⟩:=Zae b
      .have O4:=(lW p C B e i v);obtain⟨j,b⟩|⟨j,b⟩:=Zae b
       .apply Ya b 28 [rz,rz,rz,rz,rz,rz,rB [(3,true)],rz] [true,false,false,false,true,true] (l9 O4 j (mo true))
       .obtain⟨y,b⟩|⟨y,b⟩:=Zae b
        .apply Ya b 28 [rz,rz,rz,rz,rz,rz,rB [(3,false)],rz] [true,false,false,false,true,true] (l9 O4 j y)
        .exact Ye 31 [rz,rz,rz,rz,rz,rz,rB [(3,false)],rz] [true,false,false,false,true,false] (lI [1,3,4,5,6] [1]) (l9 O4 j y) (A g (Zan h 1) r b)
      .have O5:=(lW p C B e i v);obtain⟨f,b⟩|⟨f,b⟩:=Zae b
       .obtain⟨o,b⟩|⟨o,b⟩:=Zae b
        .apply Ya b 31 [rz,rz,rz,rz,rz,rz,rz,rB [(4,true)],rz] [true,false,false,false,false,true,true] (ma O5 f o (mo true))
        .let R6:List RA:=[rz,rz,rz,rz,rz,rz,rz,rB [(4,false)],rz]
         obtain⟨z,b⟩|⟨z,b⟩:=Zae b
         .apply Ya b 31 R6 [true,false,false,false,false,true,true] (ma O5 f o z)
         .exact Ye 34 R6 [true,false,false,false,false,true,false] (lI [1,3,4,5,6] [1]) (ma O5 f o z) (A g (Zan h 1) r b)
       .exact Ye 31 [rz,rz,rz,rz,rz,rz,rz,rz] [true,false,false,false,false,false] (lI [1,3,4,5,6] [1]) (l8 O5 f) (A g (Zan h 1) r b)
  .apply Ya b 8 [rz,rz] [false] (lR p)
def ZcZ(e f:Int)(b:Zar):Option Bool:=(Zgi b.fKind).bind fun d=>Zbf e f b ((((d.size:Nat):Int)-(0:Int)).toNat+2) d (0:Int)
theorem Zff(e f:Int)(b:Zar)(r:Bool)(d:ZcZ e f b=some r):Yq 76 S0 w0 Tryz.f45 (Yk r) [1,1,1,1] ⟨[(1,.one (.ptr 1 0)),(3,(Yj e)),(4,(Yj f))],[(1,.box (Zar.c b))]⟩:=by
 unfold ZcZ at d;obtain⟨g,h,d⟩:=Zad d;exact Ye 6 [rA [(2,.r (.one (.lit (.string g))) [])],rz] [] (lI [1,3,4,5,6] [1]) (lR (Zpi _ _ h)) (Zne S0 w0 e f b ((((g.size:Nat):Int)-(0:Int)).toNat+2) g (0:Int) r d)
def Zgj(b:Zar):Option Bool:=bif(decide (b.fKind<(1:Int)))then some false else bif(decide (b.fKind>(13:Int)))then some false else bif(b.fKind==(5:Int))then ZcZ (1:Int) (5:Int) b else bif(b.fKind==(6:Int))then ZcZ (1:Int) (1099511627776:Int) b else bif(b.fKind==(11:Int))then ZcZ (1:Int) (1048576:Int) b else ZcZ (0:Int) (1073741824:Int) b
theorem ZkG(e:Zar)(r:Bool)(b:Zgj e=some r):Yo 45 [.agg (Zar.c e)] (Yk r):=by
 refine Yu Tryz.func45 fun S0 w0=>?_;unfold Zgj at b;obtain⟨d,b⟩|⟨d,b⟩:=Zae b
 .apply Ya b 8 [rz,rB [(3,true)],rz] [true] (lS d (mo true))
 .obtain⟨f,b⟩|⟨f,b⟩:=Zae b
  .apply Ya b 8 [rz,rB [(3,false)],rz] [true] (lS d f)
  .obtain⟨g,b⟩|⟨g,b⟩:=Zae b
   .exact Ye 20 [rz,rB [(3,false)],rz,rz,rz,rz,rz] [false,true] (lI [1,3,4] [1]) (lT d f g) (Zff S0 w0 (1:Int) (5:Int) e r b)
   .obtain⟨h,b⟩|⟨h,b⟩:=Zae b
    .exact Ye 23 [rz,rB [(3,false)],rz,rz,rz,rz,rz,rz] [false,false,true] (lI [1,3,4] [1]) (lU d f g h) (Zff S0 w0 (1:Int) (1099511627776:Int) e r b)
    .obtain⟨i,b⟩|⟨i,b⟩:=Zae b
     .exact Ye 26 [rz,rB [(3,false)],rz,rz,rz,rz,rz,rz,rz] [false,false,false,true] (lI [1,3,4] [1]) (lV d f g h i) (Zff S0 w0 (1:Int) (1048576:Int) e r b)
     .exact Ye 24 [rz,rB [(3,false)],rz,rz,rz,rz,rz] [false,false,false,false] (lI [1,3,4] [1]) (lV d f g h i) (Zff S0 w0 (0:Int) (1073741824:Int) e r b)
def Zbz(b:Int):Option Zao:=some (Zao.mk b (Zai.mk (Zaf.mk false 0 0) 0) 0 0 ([]:(List Zaa)))
theorem Zbu(b:Int)(r:Zao)(e:Zbz b=some r):Yo 64 [Yj b] (.agg (Zao.c r)):=by
 refine Yu Tryz.func64 fun S0 w0=>?_;unfold Zbz at e;apply Yb e 4 [rz,rz] [] [] [(2,[(7,cL 10 Zaa.c Zaa.d [])])] [] .n
def ZcW:Nat->Int->Zaj->Zaf->Option Bool|0,_,_,_=>none|fu+1,b,d,e=>bif(decide (b<d.fBits))then(Zby d.fAddr b).bind fun f=>(Zby e b).bind fun g=>bif(f != g)then some false else ZcW fu (Zan b 1) d e else some true
theorem ZoF:∀(g:Nat)(f:Int)(d:Zaj)(e:Zaf)(r:Bool),ZcW g f d e=some r->Yq 36 S0 w0 Tryz.f33 (Yk r) [1,1,0,1,0] ⟨[(2,.one (.ptr 2 0)),(3,.one (.ptr 3 0)),(5,(Yj f))],[(2,.box (Zaj.c d)),(3,.box (Zaf.c e))]⟩:=by
 intro g;induction g with
 |zero=>
  intro f d e r b;simp[ZcW]at b
 |succ g p=>
  intro f d e r b;unfold ZcW at b;obtain⟨h,b⟩|⟨h,b⟩:=Zae b
  .obtain⟨j,o,t,u,b⟩:=Yt b;have O1:=(lT h (ZdE _ _ _ t) (ZdE _ _ _ u));obtain⟨i,b⟩|⟨i,b⟩:=Zae b
   .apply Ya b 13 [rz,rA [(3,aI j),(6,aI o)],rz] [true,true] (l8 O1 i)
   .exact Ye 15 [rz,rA [(3,aI j),(6,aI o)],rz] [true,false] (lI [2,3,5] [2,3]) (l8 O1 i) (p (Zan f 1) d e r b)
  .apply Ya b 8 [rz,rz] [false] (lR h)
def ZfZ(b:Zaj)(d:Zaf):Option Bool:=(ZdT b).bind fun e=>bif(!e)then some false else(Zbv d).bind fun f=>bif(!f)then some false else bif(!(b.fAddr.fV6==d.fV6))then some false else ZcW 1000000 (0:Int) b d
theorem ZlP(e:Zaj)(f:Zaf)(r:Bool)(b:ZfZ e f=some r):Yo 33 [.agg (Zaj.c e),.agg (Zaf.c f)] (Yk r):=by
 refine Yu Tryz.func33 fun S0 w0=>?_;unfold ZfZ at b;obtain⟨g,j,b⟩:=Zad b;obtain⟨h,b⟩|⟨h,b⟩:=Zae b
 .apply Ya b 8 [rz,⟨[(1,aB g)],[(3,true)],[],[],[],[],[]⟩,rz] [true] (lT (ZeO _ _ j) h (mo true))
 .obtain⟨o,p,b⟩:=Zad b;have O2:=(lT (ZeO _ _ j) h (ZaT _ _ p));obtain⟨d,b⟩|⟨d,b⟩:=Zae b
  .apply Ya b 8 [rz,⟨[(1,aB g),(5,aB o)],[(3,false),(8,true)],[],[],[],[],[]⟩,rz] [true] (l9 O2 d (mo true))
  .let R3:List RA:=[rz,⟨[(1,aB g),(5,aB o)],[(3,false),(8,false)],[],[],[],[],[]⟩,rz]
   obtain⟨i,b⟩|⟨i,b⟩:=Zae b
   .apply Ya b 8 R3 [true] (l9 O2 d i)
   .exact Ye 11 R3 [false] (lI [2,3,5] [2,3]) (l9 O2 d i) (ZoF S0 w0 1000000 (0:Int) e f r b)
def ZgO(b:Zac)(d:Zaf)(e:Int):Option Bool:=bif(decide (b.fUntil>e))then(ZfZ b.fNet d).bind fun f=>some f else some false
theorem ZpX(e:Zac)(f:Zaf)(g:Int)(r:Bool)(b:ZgO e f g=some r):Yo 35 [.agg (Zac.c e),.agg (Zaf.c f),Yj g] (Yk r):=by
 refine Yu Tryz.func35 fun S0 w0=>?_;unfold ZgO at b;obtain⟨d,b⟩|⟨d,b⟩:=Zae b
 .obtain⟨h,i,b⟩:=Zad b;apply Ya b 4 [rz,⟨[(8,aB h)],[(4,true)],[],[],[],[],[]⟩] [] (lS d (ZlP _ _ _ i))
 .apply Ya b 4 [rz,rB [(4,false)]] [] (lR d)
def ZbJ(e:List Zac)(f:Int):Nat->Int->Bool->Int->Zaf->Option Int|0,_,_,_,_=>none|fu+1,h,i,b,g=>bif(decide (b<(e.length:Int)))then need (0<=b/\b<(e.length:Int))<|(ZgO (e.getD b.toNat Zac.d) g f).bind fun j=>bif j then bif(!i)then ZbJ e f fu ((e.getD b.toNat Zac.d).fUntil) true (Zan b 1) g else bif(decide ((e.getD b.toNat Zac.d).fUntil>h))then ZbJ e f fu ((e.getD b.toNat Zac.d).fUntil) true (Zan b 1) g else ZbJ e f fu h i (Zan b 1) g else ZbJ e f fu h i (Zan b 1) g else some h
theorem Znn(o:List Zac)(A:Int):∀(p:Nat)(g:Int)(h:Bool)(e:Int)(f:Zaf)(r:Int),ZbJ o A p g h e f=some r->Yq 42 S0 w0 Tryz.f42 (Yj r) [1,1,0,1,0] ⟨[(0,(Yl o)),(2,(Yj A)),(4,.one (.ptr 4 0)),(7,(Yj g)),(8,(Yk h)),(9,(Yj e))],[(4,.box (Zaf.c f))]⟩:=by
 intro p;induction p with
 |zero=>
  intro g h e f r b;simp[ZbJ]at b
 |succ p t=>
  intro g h e f r b;unfold ZbJ at b;obtain⟨v,b⟩|⟨v,b⟩:=Zae b
  .obtain⟨i,b⟩:=Zap b;obtain⟨y,B,b⟩:=Zad b;have O1:=(lT v i (ZpX _ _ _ _ B));obtain⟨j,b⟩|⟨j,b⟩:=Zae b
   .obtain⟨u,b⟩|⟨u,b⟩:=Zae b
    .exact Ye 17 [rz,⟨[(6,aB y)],[(7,true),(10,true)],[],[],[],[],[]⟩,rz,rz,rz] [true,true] (lI [0,2,4,7,8,9] [4]) (mc O1 j u (mo true) i) (t ((o.getD e.toNat Zac.d).fUntil) true (Zan e 1) f r b)
    .let R2:List RA:=[rz,⟨[(6,aB y)],[(7,true),(10,false)],[],[],[],[],[]⟩,rz]
     obtain⟨z,b⟩|⟨z,b⟩:=Zae b
     .exact Ye 17 (R2++[rz,rz]) [true,true] (lI [0,2,4,7,8,9] [4]) (md O1 j u i z i) (t ((o.getD e.toNat Zac.d).fUntil) true (Zan e 1) f r b)
     .exact Ye 15 R2 [true,false] (lI [0,2,4,7,8,9] [4]) (mc O1 j u i z) (t g h (Zan e 1) f r b)
   .exact Ye 15 [rz,⟨[(6,aB y)],[(7,false)],[],[],[],[],[]⟩,rz] [true,false] (lI [0,2,4,7,8,9] [4]) (l9 O1 j (mo false)) (t g h (Zan e 1) f r b)
  .apply Ya b 8 [rz,rz] [false] (lR v)
def Zdj(b:List Zac)(d:Zaf)(e:Int):Option Int:=ZbJ b e (((b.length:Int)-(0:Int)).toNat+2) (0:Int) false (0:Int) d
theorem ZeL(b:List Zac)(d:Zaf)(e r:Int)(f:Zdj b d e=some r):Yo 42 [Yl b,.agg (Zaf.c d),Yj e] (Yj r):=by
 refine Yu Tryz.func42 fun S0 w0=>?_;unfold Zdj at f;exact Ye 8 [rz,rz,rz] [] (lI [0,2,4,7,8,9] [4]) .n (Znn S0 w0 b e (((b.length:Int)-(0:Int)).toNat+2) (0:Int) false (0:Int) d r f)
def ZcA(e:List Zaa):Nat->Int->Zai->Option Int|0,_,_=>none|fu+1,b,f=>bif(decide (b<(e.length:Int)))then need (0<=b/\b<(e.length:Int))<|bif(decide ((e.getD b.toNat Zaa.d).fEnd=f))then some b else ZcA e fu (Zan b 1) f else some (-1:Int)
theorem Znh(g:List Zaa):∀(h:Nat)(f:Int)(e:Zai)(r:Int),ZcA g h f e=some r->Yq 20 S0 w0 Tryz.f39 (Yj r) [1,0,1,0] ⟨[(0,(Ym g)),(3,.one (.ptr 3 0)),(5,(Yj f))],[(3,.box (Zai.c e))]⟩:=by
 intro h;induction h with
 |zero=>
  intro f e r b;simp[ZcA]at b
 |succ h o=>
  intro f e r b;unfold ZcA at b;obtain⟨i,b⟩|⟨i,b⟩:=Zae b
  .obtain⟨p,b⟩:=Zap b
   let R1:List RA:=[rz,rA [(6,aB (decide ((g.getD f.toNat Zaa.d).fEnd=e)))],rz]
   have O2:=(lT i p (ZkU ((g.getD f.toNat Zaa.d).fEnd) e (.tmp 16) (.tmp 17)));obtain⟨j,b⟩|⟨j,b⟩:=Zae b
   .apply Ya b 13 R1 [true,true] (l8 O2 j)
   .exact Ye 15 R1 [true,false] (lI [0,3,5] [3]) (l8 O2 j) (o (Zan f 1) e r b)
  .apply Ya b 8 [rz,rz] [false] (lR i)
def Zbi(b:List Zaa)(d:Zai):Option Int:=ZcA b (((b.length:Int)-(0:Int)).toNat+2) (0:Int) d
theorem ZaW(b:List Zaa)(d:Zai)(r:Int)(e:Zbi b d=some r):Yo 39 [Ym b,.agg (Zai.c d)] (Yj r):=by
 refine Yu Tryz.func39 fun S0 w0=>?_;unfold Zbi at e;exact Ye 6 [rz,rz] [] (lI [0,3,5] [3]) .n (Znh S0 w0 b (((b.length:Int)-(0:Int)).toNat+2) (0:Int) d r e)
def Zbo(b:Int):Option Int:=bif(decide (b<(0:Int)))then some (0:Int)else bif(decide (b>(1099511627776:Int)))then some (1099511627776:Int)else some b
theorem Zbc(f r:Int)(b:Zbo f=some r):Yo 149 [Yj f] (Yj r):=by
 refine Yu Tryz.func149 fun S0 w0=>?_;unfold Zbo at b;obtain⟨d,b⟩|⟨d,b⟩:=Zae b
 .apply Ya b 8 [rz,rz,rz] [true] (lR d)
 .obtain⟨e,b⟩|⟨e,b⟩:=Zae b
  .apply Ya b 13 [rz,rz,rz,rz] [false,true] (lS d e)
  .apply Ya b 14 [rz,rz,rz,rz] [false,false] (lS d e)
def ZdX(d:Zai)(e:Bool)(f:Int):Option Zaa:=(Zbo f).bind fun b=>some (Zaa.mk d e b (Zaw.mk 0 b) 0 0)
theorem ZlM(d:Zai)(e:Bool)(f:Int)(r:Zaa)(b:ZdX d e f=some r):Yo 115 [.agg (Zai.c d),Yk e,Yj f] (.agg (Zaa.c r)):=by
 refine Yu Tryz.func115 fun S0 w0=>?_;unfold ZdX at b;obtain⟨g,h,b⟩:=Zad b;apply Ya b 6 [rz,rA [(1,aI g)],rz] [] (lR (Zbc _ _ h))
def Zca(e:List Zaa)(f:Bool):Nat->Int->Int->Option Int|0,_,_=>none|fu+1,g,b=>bif(decide (b<(e.length:Int)))then need (0<=b/\b<(e.length:Int))<|bif((e.getD b.toNat Zaa.d).fIn==f)then Zca e f fu (Zan g 1) (Zan b 1)else Zca e f fu g (Zan b 1)else some g
theorem Znf(i:List Zaa)(j:Bool):∀(f:Nat)(d e r:Int),Zca i j f d e=some r->Yq 23 S0 w0 Tryz.f58 (Yj r) [1,1,0,1,0] ⟨[(0,(Ym i)),(1,(Yk j)),(5,(Yj d)),(6,(Yj e))],[]⟩:=by
 intro f;induction f with
 |zero=>
  intro d e r b;simp[Zca]at b
 |succ f o=>
  intro d e r b;unfold Zca at b;obtain⟨g,b⟩|⟨g,b⟩:=Zae b
  .obtain⟨p,b⟩:=Zap b;obtain⟨h,b⟩|⟨h,b⟩:=Zae b
   .exact Ye 15 [rz,rz,rz,rz] [true,true] (Yi [0,1,5,6]) (lT g p h) (o (Zan d 1) (Zan e 1) r b)
   .exact Ye 15 [rz,rz,rz] [true,false] (Yi [0,1,5,6]) (lT g p h) (o d (Zan e 1) r b)
  .apply Ya b 8 [rz,rz] [false] (lR g)
def ZeS(b:List Zaa)(d:Bool):Option Int:=Zca b d (((b.length:Int)-(0:Int)).toNat+2) (0:Int) (0:Int)
theorem ZkH(b:List Zaa)(d:Bool)(r:Int)(e:ZeS b d=some r):Yo 58 [Ym b,Yk d] (Yj r):=by
 refine Yu Tryz.func58 fun S0 w0=>?_;unfold ZeS at e;exact Ye 8 [rz,rz,rz] [] (Yi [0,1,5,6]) .n (Znf S0 w0 b d (((b.length:Int)-(0:Int)).toNat+2) (0:Int) (0:Int) r e)
def Zcm(e:List Zaa):Nat->Int->(List Zaa)->Option (List Zaa)|0,_,_=>none|fu+1,b,f=>bif(decide (b<(e.length:Int)))then need (0<=b/\b<(e.length:Int))<|bif(e.getD b.toNat Zaa.d).fIn then need ((f++([(e.getD b.toNat Zaa.d)]:List Zaa)).length * 80<=140737488355328/\(f++([(e.getD b.toNat Zaa.d)]:List Zaa)).length<=maxLen)<|Zcm e fu (Zan b 1) (f++([(e.getD b.toNat Zaa.d)]:List Zaa))else Zcm e fu (Zan b 1) f else some f
theorem ZnO(g:List Zaa):∀(o:Nat)(b:Int)(h r:List Zaa),Zcm g o b h=some r->Yr 25 S0 w0 Tryz.f37 [(lL 99999 44 10 Zaa.c Zaa.d r)] (.one (.osl 99999 r.length)) [1,1,0,1,0] ⟨[(0,(Ym g)),(3,.one (.osl 3 h.length)),(4,(Yj b))],[(lL 3 44 10 Zaa.c Zaa.d h)]⟩:=by
 intro o;induction o with
 |zero=>
  intro b h r f;simp[Zcm]at f
 |succ o v=>
  intro b h r f;unfold Zcm at f;obtain⟨p,f⟩|⟨p,f⟩:=Zae f
  .obtain⟨t,f⟩:=Zap f;obtain⟨u,f⟩|⟨u,f⟩:=Zae f
   .obtain⟨y,f⟩:=Zap f;exact Ye 15 [rz,rz,⟨[(6,.c ((h++([(g.getD b.toNat Zaa.d)]:List Zaa)).length) (Zal Zaa.c Zaa.d (h++([(g.getD b.toNat Zaa.d)]:List Zaa))))],[],[],[],[],[(5,(([(g.getD b.toNat Zaa.d)]:List Zaa).length,Zal Zaa.c Zaa.d ([(g.getD b.toNat Zaa.d)]:List Zaa)))],[]⟩,rz] [true,true] (lK [0,3,4] [23] [(23,3)]) (lY p t u t (ml (e:=Zaa.c) Zaa.d 10 (fun _=>rfl) ([(g.getD b.toNat Zaa.d)]:List Zaa)) (ZcO (sz:=10) (e:=Zaa.c) (d:=Zaa.d) h ([(g.getD b.toNat Zaa.d)]:List Zaa)) y.1 y.2) (v (Zan b 1) (h++([(g.getD b.toNat Zaa.d)]:List Zaa)) r f)
   .exact Ye 15 [rz,rz,rz] [true,false] (lI [0,3,4] [3]) (lT p t u) (v (Zan b 1) h r f)
  .apply Yc f 8 [rz,rz] [false] (lK [2] [3] [(3,99999)]) (lR p)
def ZdA(b:List Zaa):Option (List Zaa):=Zcm b (((b.length:Int)-(0:Int)).toNat+2) (0:Int) ([]:List Zaa)
theorem Zpp(b r:List Zaa)(f:ZdA b=some r):Yp 37 [] [Ym b] [(lL 99999 44 10 Zaa.c Zaa.d r)] (.one (.osl 99999 r.length)):=by
 refine Yv Tryz.func37 fun S0 w0=>?_;unfold ZdA at f;exact Ye 8 [rz,rA [(0,.c ([]:List Zaa).length (Zal Zaa.c Zaa.d ([]:List Zaa)))],rz] [] (lK [0,3,4] [5] [(5,3)]) (lS (show ([]:List Zaa).length=0 from rfl) (mq (e:=Zaa.c) Zaa.d 10 (fun _=>rfl) ([]:List Zaa))) (ZnO S0 w0 b (((b.length:Int)-(0:Int)).toNat+2) (0:Int) ([]:List Zaa) r f)
theorem ZiM(b r:List Zaa)(d:ZdA b=some r):Yo 37 [Ym b] (Ym r):=(Zpp b r d).pure
def ZbY(b:Zax)(d:Int):Option Int:=bif(d==(1:Int))then some b.fGroup else bif(d==(2:Int))then some b.fPing else bif(d==(3:Int))then some b.fWork else some b.fTime
theorem Zio(g:Zax)(h r:Int)(b:ZbY g h=some r):Yo 101 [.agg (Zax.c g),Yj h] (Yj r):=by
 refine Yu Tryz.func101 fun S0 w0=>?_;unfold ZbY at b;obtain⟨d,b⟩|⟨d,b⟩:=Zae b
 .apply Ya b 11 [rz,rz,rz,rz] [true] (lR d)
 .obtain⟨e,b⟩|⟨e,b⟩:=Zae b
  .apply Ya b 14 [rz,rz,rz,rz,rz] [false,true] (lS d e)
  .obtain⟨f,b⟩|⟨f,b⟩:=Zae b
   .apply Ya b 17 [rz,rz,rz,rz,rz,rz] [false,false,true] (lT d e f)
   .apply Ya b 19 [rz,rz,rz,rz,rz,rz] [false,false,false] (lT d e f)
def ZdB(d:Zaa)(b:Int):Option Bool:=bif(b==(1:Int))then some true else bif(b==(4:Int))then some true else bif(b==(2:Int))then bif(decide (d.fPing>(0:Int)))then some true else bif(b==(3:Int))then some (decide (d.fWork>(0:Int)))else some false else bif(b==(3:Int))then some (decide (d.fWork>(0:Int)))else some false
theorem ZhQ(j:Zaa)(o:Int)(r:Bool)(b:ZdB j o=some r):Yo 99 [.agg (Zaa.c j),Yj o] (Yk r):=by
 refine Yu Tryz.func99 fun S0 w0=>?_;unfold ZdB at b;obtain⟨d,b⟩|⟨d,b⟩:=Zae b
 .apply Ya b 4 [rz,rB [(2,true)]] [] (lR d)
 .obtain⟨e,b⟩|⟨e,b⟩:=Zae b
  .apply Ya b 4 [rz,rB [(2,false),(6,true)]] [] (lS d e)
  .obtain⟨f,b⟩|⟨f,b⟩:=Zae b
   .obtain⟨g,b⟩|⟨g,b⟩:=Zae b
    .apply Ya b 4 [rz,rB [(2,false),(6,false),(9,true),(15,true)]] [] (lU d e f g)
    .obtain⟨h,b⟩|⟨h,b⟩:=Zae b
     .apply Ya b 4 [rz,rB [(2,false),(6,false),(9,true),(15,false),(18,true)]] [] (lV d e f g h)
     .apply Ya b 4 [rz,rB [(2,false),(6,false),(9,true),(15,false),(18,false)]] [] (lV d e f g h)
   .obtain⟨i,b⟩|⟨i,b⟩:=Zae b
    .apply Ya b 4 [rz,rB [(2,false),(6,false),(9,false),(18,true)]] [] (lU d e f i)
    .apply Ya b 4 [rz,rB [(2,false),(6,false),(9,false),(18,false)]] [] (lU d e f i)
def Zdg(b:Zaf):Option Zaj:=(Zbv b).bind fun d=>bif(!d)then some (Zaj.mk (Zaf.mk false 0 0) 0)else bif b.fV6 then some (Zaj.mk (Zaf.mk true (IntKind.wrap .u64 (b.fHi-(Int.tmod b.fHi (4294967296:Int)))) 0) 32)else some (Zaj.mk (Zaf.mk false 0 (IntKind.wrap .u64 (b.fLo-(Int.tmod b.fLo (65536:Int))))) 16)
theorem ZhH(g:Zaf)(r:Zaj)(b:Zdg g=some r):Yo 261 [.agg (Zaf.c g)] (.agg (Zaj.c r)):=by
 refine Yu Tryz.func261 fun S0 w0=>?_;unfold Zdg at b;obtain⟨d,h,b⟩:=Zad b;obtain⟨e,b⟩|⟨e,b⟩:=Zae b
 .apply Ya b 8 [rz,rA [(1,aB d)],rz] [true] (lS (ZaT _ _ h) e)
 .have O1:=(lS (ZaT _ _ h) e);obtain⟨f,b⟩|⟨f,b⟩:=Zae b
  .apply Ya b 13 [rz,rA [(1,aB d)],rz,rz] [false,true] (l9 O1 f (show (4294967296:Int)≠0 from(by decide)))
  .apply Ya b 14 [rz,rA [(1,aB d)],rz,rz] [false,false] (l9 O1 f (show (65536:Int)≠0 from(by decide)))
def ZeM(b:Int):Option Int:=some (IntKind.wrap .u64 (((BitVec.ofInt (IntKind.bits .u64) (IntKind.wrap .u64 ((IntKind.wrap .u64 (((BitVec.ofInt (IntKind.bits .u64) (IntKind.wrap .u64 ((IntKind.wrap .u64 (((BitVec.ofInt (IntKind.bits .u64) b) ^^^ (BitVec.ofInt (IntKind.bits .u64) (IntKind.wrap .u64 (Int.tdiv b (1073741824:Int))))).toNat:Int))*(13787848793156543929:Int)))) ^^^ (BitVec.ofInt (IntKind.bits .u64) (IntKind.wrap .u64 (Int.tdiv (IntKind.wrap .u64 ((IntKind.wrap .u64 (((BitVec.ofInt (IntKind.bits .u64) b) ^^^ (BitVec.ofInt (IntKind.bits .u64) (IntKind.wrap .u64 (Int.tdiv b (1073741824:Int))))).toNat:Int))*(13787848793156543929:Int))) (134217728:Int))))).toNat:Int))*(10723151780598845931:Int)))) ^^^ (BitVec.ofInt (IntKind.bits .u64) (IntKind.wrap .u64 (Int.tdiv (IntKind.wrap .u64 ((IntKind.wrap .u64 (((BitVec.ofInt (IntKind.bits .u64) (IntKind.wrap .u64 ((IntKind.wrap .u64 (((BitVec.ofInt (IntKind.bits .u64) b) ^^^ (BitVec.ofInt (IntKind.bits .u64) (IntKind.wrap .u64 (Int.tdiv b (1073741824:Int))))).toNat:Int))*(13787848793156543929:Int)))) ^^^ (BitVec.ofInt (IntKind.bits .u64) (IntKind.wrap .u64 (Int.tdiv (IntKind.wrap .u64 ((IntKind.wrap .u64 (((BitVec.ofInt (IntKind.bits .u64) b) ^^^ (BitVec.ofInt (IntKind.bits .u64) (IntKind.wrap .u64 (Int.tdiv b (1073741824:Int))))).toNat:Int))*(13787848793156543929:Int))) (134217728:Int))))).toNat:Int))*(10723151780598845931:Int))) (2147483648:Int))))).toNat:Int))
theorem Zje(b r:Int)(d:ZeM b=some r):Yo 266 [.one (.lit (.int .u64 b))] (.one (.lit (.int .u64 r))):=by
 refine Yu Tryz.func266 fun S0 w0=>?_;unfold ZeM at d;apply Ya d 8 [rz,rz,rz,rz] [] (lT (show (1073741824:Int)≠0 from(by decide)) (show (134217728:Int)≠0 from(by decide)) (show (2147483648:Int)≠0 from(by decide)))
def ZdS(d:List Int):Nat->Int->Int->Option Int|0,_,_=>none|fu+1,e,b=>bif(decide (b<(d.length:Int)))then need (0<=b/\b<(d.length:Int))<|(ZeM (IntKind.wrap .u64 ((d.getD b.toNat (0:Int))+(11400714819323198485:Int)))).bind fun f=>(ZeM (IntKind.wrap .u64 (((BitVec.ofInt (IntKind.bits .u64) (IntKind.wrap .u64 ((IntKind.wrap .u64 (e*(128:Int)))+(IntKind.wrap .u64 (Int.tdiv e (144115188075855872:Int)))))) ^^^ (BitVec.ofInt (IntKind.bits .u64) f)).toNat:Int))).bind fun g=>ZdS d fu g (Zan b 1)else some e
theorem Zpt(h:List Int):∀(e:Nat)(f d r:Int),ZdS h e f d=some r->Yq 30 S0 w0 Tryz.f194 (.one (.lit (.int .u64 r))) [1,1,0,1,0] ⟨[(1,.one (cL 1 (cI .u64) (0:Int) h)),(5,.one (.lit (.int .u64 f))),(6,(Yj d))],[]⟩:=by
 intro e;induction e with
 |zero=>
  intro f d r b;simp[ZdS]at b
 |succ e j=>
  intro f d r b;unfold ZdS at b;obtain⟨g,b⟩|⟨g,b⟩:=Zae b
  .obtain⟨o,b⟩:=Zap b;obtain⟨p,i,t,u,b⟩:=Yt b;exact Ye 12 [rz,rA [(10,.r (.one (.lit (.int .u64 p))) []),(12,.r (.one (.lit (.int .u64 i))) [])],rz] [true] (Yi [1,5,6]) (lV g (show (144115188075855872:Int)≠0 from(by decide)) o (Zje _ _ t) (Zje _ _ u)) (j i (Zan d 1) r b)
  .apply Ya b 8 [rz,rz] [false] (lR g)
def ZgB(d:Int)(b:List Int):Option Int:=(ZeM (IntKind.wrap .u64 (d+(11400714819323198485:Int)))).bind fun e=>ZdS b (((b.length:Int)-(0:Int)).toNat+2) e (0:Int)
theorem Zmh(e:Int)(b:List Int)(r:Int)(d:ZgB e b=some r):Yo 194 [.one (.lit (.int .u64 e)),.one (cL 1 (cI .u64) (0:Int) b)] (.one (.lit (.int .u64 r))):=by
 refine Yu Tryz.func194 fun S0 w0=>?_;unfold ZgB at d;obtain⟨f,g,d⟩:=Zad d;exact Ye 8 [rz,rA [(2,.r (.one (.lit (.int .u64 f))) [])],rz] [] (Yi [1,5,6]) (lR (Zje _ _ g)) (Zpt S0 w0 b (((b.length:Int)-(0:Int)).toNat+2) f (0:Int) r d)
def ZeN(d:Int)(b:Zaj):Option Int:=bif b.fAddr.fV6 then(ZgB d ([(6:Int),b.fAddr.fHi,b.fAddr.fLo,(IntKind.wrap .u64 b.fBits)]:List Int)).bind fun e=>some e else(ZgB d ([(4:Int),b.fAddr.fHi,b.fAddr.fLo,(IntKind.wrap .u64 b.fBits)]:List Int)).bind fun f=>some f
theorem ZlO(h:Int)(b:Zaj)(r:Int)(f:ZeN h b=some r):Yo 109 [.one (.lit (.int .u64 h)),.agg (Zaj.c b)] (.one (.lit (.int .u64 r))):=by
 refine Yu Tryz.func109 fun S0 w0=>?_;unfold ZeN at f;obtain⟨g,f⟩|⟨g,f⟩:=Zae f
 .obtain⟨o,p,f⟩:=Zad f;apply Ya f 11 [rz,rz,rz,rz,⟨[(12,.r (.one (.lit (.int .u64 o))) [])],[],[],[],[],[(11,(([(6:Int),b.fAddr.fHi,b.fAddr.fLo,(IntKind.wrap .u64 b.fBits)]:List Int).length,Zal (cI .u64) (0:Int) ([(6:Int),b.fAddr.fHi,b.fAddr.fLo,(IntKind.wrap .u64 b.fBits)]:List Int)))],[]⟩] [true] (lT g (ml (e:=(cI .u64)) (0:Int) 1 (fun _=>rfl) ([(6:Int),b.fAddr.fHi,b.fAddr.fLo,(IntKind.wrap .u64 b.fBits)]:List Int)) (Zmh _ _ _ p))
 .obtain⟨t,u,f⟩:=Zad f;apply Ya f 11 [rz,rz,rz,⟨[(12,.r (.one (.lit (.int .u64 t))) [])],[],[],[],[],[(11,(([(4:Int),b.fAddr.fHi,b.fAddr.fLo,(IntKind.wrap .u64 b.fBits)]:List Int).length,Zal (cI .u64) (0:Int) ([(4:Int),b.fAddr.fHi,b.fAddr.fLo,(IntKind.wrap .u64 b.fBits)]:List Int)))],[]⟩] [false] (lT g (ml (e:=(cI .u64)) (0:Int) 1 (fun _=>rfl) ([(4:Int),b.fAddr.fHi,b.fAddr.fLo,(IntKind.wrap .u64 b.fBits)]:List Int)) (Zmh _ _ _ u))
def Zei(b:Bool):Option Int:=bif b then some (-1:Int)else some (1:Int)
theorem ZiP(e:Bool)(r:Int)(b:Zei e=some r):Yq 33 S0 w0 Tryz.f199 (Yj r) [1,1,1,1,1] ⟨[(5,(Yk e))],[]⟩:=by
 unfold Zei at b;obtain⟨d,b⟩|⟨d,b⟩:=Zae b
 .apply Ya b 6 [rz,rz] [true] (lR d)
 .apply Ya b 7 [rz,rz] [false] (lR d)
def Zej(d:Bool)(b e:Zaf):Option Int:=bif(!(b.fV6==e.fV6))then Zei (!b.fV6)else Zei d
theorem ZiQ(f:Bool)(d e:Zaf)(r:Int)(b:Zej f d e=some r):Yq 33 S0 w0 Tryz.f199 (Yj r) [1,1,1,1] ⟨[(2,.one (.ptr 2 0)),(3,.one (.ptr 3 0)),(5,(Yk f))],[(2,.box (Zaf.c d)),(3,.box (Zaf.c e))]⟩:=by
 unfold Zej at b;obtain⟨g,b⟩|⟨g,b⟩:=Zae b
 .exact Ye 5 [rz,rz] [true] (Yi [5]) (lR g) (ZiP S0 w0 (!d.fV6) r b)
 .exact Ye 5 [rz] [false] (Yi [5]) (lR g) (ZiP S0 w0 f r b)
def Zed(b d:Zaf):Option Int:=bif(decide (b=d))then some (0:Int)else bif(b.fHi != d.fHi)then Zej (decide (b.fHi<d.fHi)) b d else Zej (decide (b.fLo<d.fLo)) b d
theorem ZfI(b d:Zaf)(r:Int)(e:Zed b d=some r):Yo 199 [.agg (Zaf.c b),.agg (Zaf.c d)] (Yj r):=by
 refine Yu Tryz.func199 fun S0 w0=>?_;unfold Zed at e;have O1:=(lR (ZlB b d (.tmp 6) (.tmp 7)));obtain⟨f,e⟩|⟨f,e⟩:=Zae e
 .apply Ya e 8 [rz,rA [(2,aB (decide (b=d)))],rz] [true] (l8 O1 f)
 .obtain⟨g,e⟩|⟨g,e⟩:=Zae e
  .exact Ye 14 [rz,rA [(2,aB (decide (b=d)))],rz,rz,rz] [false,true] (lI [2,3,5] [2,3]) (l9 O1 f g) (ZiQ S0 w0 (decide (b.fHi<d.fHi)) b d r e)
  .exact Ye 14 [rz,rA [(2,aB (decide (b=d)))],rz,rz] [false,false] (lI [2,3,5] [2,3]) (l9 O1 f g) (ZiQ S0 w0 (decide (b.fLo<d.fLo)) b d r e)
def Zcn(b d:Zai):Option Int:=(Zed b.fAddr d.fAddr).bind fun e=>bif(e != (0:Int))then some e else bif(b.fPort==d.fPort)then some e else bif(decide (b.fPort<d.fPort))then some (-1:Int)else some (1:Int)
theorem Zeh(h i:Zai)(r:Int)(b:Zcn h i=some r):Yo 125 [.agg (Zai.c h),.agg (Zai.c i)] (Yj r):=by
 refine Yu Tryz.func125 fun S0 w0=>?_;unfold Zcn at b;obtain⟨e,j,b⟩:=Zad b;obtain⟨f,b⟩|⟨f,b⟩:=Zae b
 .apply Ya b 10 [rz,rA [(4,aI e)],rB [(2,true)],rz] [true] (lT (ZfI _ _ _ j) f (mo true))
 .have O1:=(lS (ZfI _ _ _ j) f);obtain⟨d,b⟩|⟨d,b⟩:=Zae b
  .apply Ya b 10 [rz,rA [(4,aI e)],rB [(2,false)],rz] [true] (l8 O1 d)
  .let R2:List RA:=[rz,rA [(4,aI e)],rB [(2,false)],rz,rz]
   obtain⟨g,b⟩|⟨g,b⟩:=Zae b
   .apply Ya b 15 R2 [false,true] (l9 O1 d g)
   .apply Ya b 16 R2 [false,false] (l9 O1 d g)
def ZcB(d b:Int)(e f:Zaa):Option Bool:=bif(d != b)then some (decide (d<b))else(Zcn e.fEnd f.fEnd).bind fun g=>some (decide (g<(0:Int)))
theorem Zfh(h f:Int)(b d:Zaa)(r:Bool)(e:ZcB h f b d=some r):Yq 64 S0 w0 Tryz.f188 (Yk r) [1,1,1] ⟨[(4,.one (.ptr 4 0)),(5,.one (.ptr 5 0)),(9,(Yj h)),(10,(Yj f))],[(4,.box (Zaa.c b)),(5,.box (Zaa.c d))]⟩:=by
 unfold ZcB at e;obtain⟨g,e⟩|⟨g,e⟩:=Zae e
 .apply Ya e 6 [rz,rz] [true] (lR g)
 .obtain⟨i,j,e⟩:=Zad e;apply Ya e 7 [rz,rA [(4,aI i)]] [false] (lS g (Zeh _ _ _ j))
def ZeW(b d:Zaa)(e f:Int):Option Bool:=bif(e==(1:Int))then(Zdg b.fEnd.fAddr).bind fun i=>(ZeN f i).bind fun g=>(Zdg d.fEnd.fAddr).bind fun j=>(ZeN f j).bind fun h=>bif(g != h)then some (decide (g>h))else ZcB (0:Int) (0:Int) b d else bif(e==(2:Int))then ZcB b.fPing d.fPing b d else bif(e==(3:Int))then ZcB d.fWork b.fWork b d else bif(e==(4:Int))then ZcB b.fSince d.fSince b d else some false
theorem ZkK(d e:Zaa)(o p:Int)(r:Bool)(b:ZeW d e o p=some r):Yo 188 [.agg (Zaa.c d),.agg (Zaa.c e),Yj o,.one (.lit (.int .u64 p))] (Yk r):=by
 refine Yu Tryz.func188 fun S0 w0=>?_;unfold ZeW at b;obtain⟨f,b⟩|⟨f,b⟩:=Zae b
 .obtain⟨t,u,v,y,b⟩:=Yt b;obtain⟨z,A,b⟩:=Zad b;obtain⟨B,C,b⟩:=Zad b
  let R1:List RA:=[rz,rz,rz,rz,rA [(4,aG (Zaj.c t)),(5,.r (.one (.lit (.int .u64 u))) [])],rA [(4,aG (Zaj.c z)),(5,.r (.one (.lit (.int .u64 B))) [])],rz]
  have O2:=(lV f (ZhH _ _ v) (ZlO _ _ _ y) (ZhH _ _ A) (ZlO _ _ _ C));obtain⟨i,b⟩|⟨i,b⟩:=Zae b
  .apply Ya b 20 (R1++[rz]) [true,true] (l8 O2 i)
  .exact Ye 20 R1 [true,false] (lI [4,5,9,10] [4,5]) (l8 O2 i) (Zfh S0 w0 (0:Int) (0:Int) d e r b)
 .obtain⟨g,b⟩|⟨g,b⟩:=Zae b
  .exact Ye 18 [rz,rz,rz,rz,rz,rz,rz] [false,true] (lI [4,5,9,10] [4,5]) (lS f g) (Zfh S0 w0 d.fPing e.fPing d e r b)
  .obtain⟨h,b⟩|⟨h,b⟩:=Zae b
   .exact Ye 21 [rz,rz,rz,rz,rz,rz,rz,rz] [false,false,true] (lI [4,5,9,10] [4,5]) (lT f g h) (Zfh S0 w0 e.fWork d.fWork d e r b)
   .obtain⟨j,b⟩|⟨j,b⟩:=Zae b
    .exact Ye 24 [rz,rz,rz,rz,rz,rz,rz,rz,rz] [false,false,false,true] (lI [4,5,9,10] [4,5]) (lU f g h j) (Zfh S0 w0 d.fSince e.fSince d e r b)
    .apply Ya b 22 [rz,rz,rz,rz,rz,rz,rz,rz] [false,false,false,false] (lU f g h j)
def Zbr(g:List Zaa)(j h:Int)(n:Zax)(i:Int)(ae:Int->(List Bool)->Zax->Option (List Bool))(ak:Int->(List Bool)->Option (List Bool)):Nat->Int->Int->(List Bool)->Option (List Bool)|0,_,_,_=>none|fu+1,e,b,f=>bif(decide (b<(g.length:Int)))then need (0<=b/\b<(f.length:Int))<|bif(!(f.getD b.toNat false))then need (0<=b/\b<(g.length:Int))<|(ZdB (g.getD b.toNat Zaa.d) h).bind fun o=>bif o then bif(decide (e<(0:Int)))then Zbr g j h n i ae ak fu b (Zan b 1) f else need (0<=e/\e<(g.length:Int))<|(ZeW (g.getD b.toNat Zaa.d) (g.getD e.toNat Zaa.d) h j).bind fun p=>bif p then Zbr g j h n i ae ak fu b (Zan b 1) f else Zbr g j h n i ae ak fu e (Zan b 1) f else Zbr g j h n i ae ak fu e (Zan b 1) f else Zbr g j h n i ae ak fu e (Zan b 1) f else bif(decide (e>=(0:Int)))then need (0<=e/\e<(f.length:Int))<|ak (Zan i 1) (f.set e.toNat true)else ak (Zan i 1) f
theorem Znj(u:List Zaa)(v B:Int)(g:Zax)(y:Int)(ae:Int->(List Bool)->Zax->Option (List Bool))(ak:Int->(List Bool)->Option (List Bool))(aJ:∀(dg:Int)(bK:List Bool)(di:Zax)(r:List Bool),ae dg bK di=some r->Yr 75 S0 w0 Tryz.f268 [(lL 99999 4 1 cB false r)] (.one (.osl 99999 r.length)) [1,1,0,1,0] ⟨[(0,(Ym u)),(2,.one (.lit (.int .u64 v))),(4,.one (.ptr 4 0)),(7,.one (.osl 14 bK.length)),(8,(Yj dg))],[(lL 14 4 1 cB false bK),(4,.box (Zax.c di))]⟩)(aT:∀(jA:Int)(bK r:List Bool),ak jA bK=some r->Yr 75 S0 w0 Tryz.f268 [(lL 99999 4 1 cB false r)] (.one (.osl 99999 r.length)) [1,1,0,1,0,0,1,0,0,1,0] ⟨[(0,(Ym u)),(2,.one (.lit (.int .u64 v))),(4,.one (.ptr 4 0)),(7,.one (.osl 14 bK.length)),(8,(Yj B)),(9,(Yj jA))],[(lL 14 4 1 cB false bK),(4,.box (Zax.c g))]⟩):∀(z:Nat)(e f:Int)(b r:List Bool),Zbr u v B g y ae ak z e f b=some r->Yr 75 S0 w0 Tryz.f268 [(lL 99999 4 1 cB false r)] (.one (.osl 99999 r.length)) [1,1,0,1,0,0,1,0,0,1,0,0,1,0,0,1,0,1,0] ⟨[(0,(Ym u)),(2,.one (.lit (.int .u64 v))),(4,.one (.ptr 4 0)),(7,.one (.osl 14 b.length)),(8,(Yj B)),(9,(Yj y)),(10,(Yj e)),(11,(Yj f))],[(lL 14 4 1 cB false b),(4,.box (Zax.c g))]⟩:=by
 intro z;induction z with
 |zero=>
  intro e f b r d;simp[Zbr]at d
 |succ z p=>
  intro e f b r d;unfold Zbr at d;obtain⟨A,d⟩|⟨A,d⟩:=Zae d
  .obtain⟨H,d⟩:=Zap d;have O1:=(lT A H (ltOf H));obtain⟨C,d⟩|⟨C,d⟩:=Zae d
   .obtain⟨I,d⟩:=Zap d;obtain⟨D,E,d⟩:=Zad d;have O2:=(ma O1 C I (ZhQ _ _ _ E));obtain⟨h,d⟩|⟨h,d⟩:=Zae d
    .obtain⟨i,d⟩|⟨i,d⟩:=Zae d
     .exact Ye 15 [rz,⟨[(11,aB D)],[(5,true),(13,true),(16,true)],[],[],[],[],[]⟩,rz,rz] [true,true] (lI [0,2,4,7,8,9,10,11] [14,4]) (ma O2 h i (mo true)) (p f (Zan f 1) b r d)
     .obtain⟨F,d⟩:=Zap d;obtain⟨J,G,d⟩:=Zad d
      let R3:List RA:=[rz,⟨[(11,aB D),(27,aB J)],[(5,true),(13,true),(16,false)],[],[],[],[],[]⟩,rz]
      have O4:=(md O2 h i I F (ZkK _ _ _ _ _ G));obtain⟨j,d⟩|⟨j,d⟩:=Zae d
      .exact Ye 15 (R3++[rz]) [true,true] (lI [0,2,4,7,8,9,10,11] [14,4]) (l8 O4 j) (p f (Zan f 1) b r d)
      .exact Ye 15 R3 [true,false] (lI [0,2,4,7,8,9,10,11] [14,4]) (l8 O4 j) (p e (Zan f 1) b r d)
    .exact Ye 15 [rz,⟨[(11,aB D)],[(5,true),(13,false)],[],[],[],[],[]⟩,rz] [true,false] (lI [0,2,4,7,8,9,10,11] [14,4]) (l9 O2 h (mo false)) (p e (Zan f 1) b r d)
   .exact Ye 15 [rz,rB [(5,false)],rz] [true,false] (lI [0,2,4,7,8,9,10,11] [14,4]) (l9 O1 C (mo false)) (p e (Zan f 1) b r d)
  .obtain⟨o,d⟩|⟨o,d⟩:=Zae d
   .obtain⟨t,d⟩:=Zap d;exact Ye 13 [rz,rz,rA [(3,.c (b.set e.toNat true).length (Zal cB false (b.set e.toNat true)))],rz] [false,true] ⟨[],[],[],[(14,((b.set e.toNat true).length))],[],[0,2,4,7,8,9],[14,4],[]⟩ (lX A o t (show (b.set e.toNat true).length=b.length from List.length_set) (ltOf t) (show ExtU 1 b.length (Zal cB false b) e.toNat 0 (cB true) (Zal cB false (b.set e.toNat true))from(Zlq _ _ _ rfl)) (mo ((b.set e.toNat true).length))) (aT (Zan y 1) (b.set e.toNat true) r d)
   .exact Ye 13 [rz,rz,rz] [false,false] (lI [0,2,4,7,8,9] [14,4]) (lS A o) (aT (Zan y 1) b r d)
def ZbB(f:List Zaa)(h d:Int)(e:Zax)(ae:Int->(List Bool)->Zax->Option (List Bool)):Nat->Int->(List Bool)->Option (List Bool)|0,_,_=>none|fu+1,g,b=>(ZbY e d).bind fun i=>bif(decide (g<i))then bif(decide (g<(f.length:Int)))then Zbr f h d e g ae (ZbB f h d e ae fu) (((f.length:Int)-(0:Int)).toNat+2) (-1:Int) (0:Int) b else ae (Zan d 1) b e else ae (Zan d 1) b e
theorem Znk(f:List Zaa)(h g:Int)(e:Zax)(ae:Int->(List Bool)->Zax->Option (List Bool))(aJ:∀(dg:Int)(bK:List Bool)(di:Zax)(r:List Bool),ae dg bK di=some r->Yr 75 S0 w0 Tryz.f268 [(lL 99999 4 1 cB false r)] (.one (.osl 99999 r.length)) [1,1,0,1,0] ⟨[(0,(Ym f)),(2,.one (.lit (.int .u64 h))),(4,.one (.ptr 4 0)),(7,.one (.osl 14 bK.length)),(8,(Yj dg))],[(lL 14 4 1 cB false bK),(4,.box (Zax.c di))]⟩):∀(i:Nat)(j:Int)(b r:List Bool),ZbB f h g e ae i j b=some r->Yr 75 S0 w0 Tryz.f268 [(lL 99999 4 1 cB false r)] (.one (.osl 99999 r.length)) [1,1,0,1,0,0,1,0,0,1,0] ⟨[(0,(Ym f)),(2,.one (.lit (.int .u64 h))),(4,.one (.ptr 4 0)),(7,.one (.osl 14 b.length)),(8,(Yj g)),(9,(Yj j))],[(lL 14 4 1 cB false b),(4,.box (Zax.c e))]⟩:=by
 intro i;induction i with
 |zero=>
  intro j b r d;simp[ZbB]at d
 |succ i v=>
  intro j b r d;unfold ZbB at d;obtain⟨t,u,d⟩:=Zad d;obtain⟨o,d⟩|⟨o,d⟩:=Zae d
  .let R5:List RA:=[⟨[(3,aI t)],[(5,true)],[],[],[],[],[]⟩,rz]
   have O6:=(lS (Zio _ _ _ u) o);obtain⟨p,d⟩|⟨p,d⟩:=Zae d
   .exact Ye 14 (R5++[rz]) [true] (lI [0,2,4,7,8,9,10,11] [14,4]) (l8 O6 p) (Znj S0 w0 f h g e j ae (ZbB f h g e ae i) aJ v (((f.length:Int)-(0:Int)).toNat+2) (-1:Int) (0:Int) b r d)
   .exact Ye 9 R5 [false] (lI [0,2,4,7,8] [14,4]) (l8 O6 p) (aJ (Zan g 1) b e r d)
  .exact Ye 9 [⟨[(3,aI t)],[(5,false)],[],[],[],[],[]⟩,rz] [false] (lI [0,2,4,7,8] [14,4]) (lT (Zio _ _ _ u) o (mo false)) (aJ (Zan g 1) b e r d)
def ZaN(d:List Zaa)(e:Int):Nat->Int->(List Bool)->Zax->Option (List Bool)|0,_,_,_=>none|fu+1,f,b,g=>bif(decide (f<=(4:Int)))then ZbB d e f g (ZaN d e fu) (((d.length:Int)-(0:Int)).toNat+2) (0:Int) b else some b
theorem Znl(f:List Zaa)(i:Int):∀(g:Nat)(h:Int)(b:List Bool)(d:Zax)(r:List Bool),ZaN f i g h b d=some r->Yr 75 S0 w0 Tryz.f268 [(lL 99999 4 1 cB false r)] (.one (.osl 99999 r.length)) [1,1,0,1,0] ⟨[(0,(Ym f)),(2,.one (.lit (.int .u64 i))),(4,.one (.ptr 4 0)),(7,.one (.osl 14 b.length)),(8,(Yj h))],[(lL 14 4 1 cB false b),(4,.box (Zax.c d))]⟩:=by
 intro g;induction g with
 |zero=>
  intro h b d r e;simp[ZaN]at e
 |succ g o=>
  intro h b d r e;unfold ZaN at e;obtain⟨j,e⟩|⟨j,e⟩:=Zae e
  .exact Ye 11 [rz,rz] [true] (lI [0,2,4,7,8,9] [14,4]) (lR j) (Znk S0 w0 f i h d (ZaN f i g) o (((f.length:Int)-(0:Int)).toNat+2) (0:Int) b r e)
  .apply Yc e 8 [rz,rz] [false] (lK [6] [14] [(14,99999)]) (lR j)
def ZeV(b:List Zaa)(d:Zax)(e:Int):Option (List Bool):=need (0<=(b.length:Int)/\(b.length:Int)<=(b.length:Int)/\(b.length:Int)<=140737488355328/\(b.length:Int) * 1<=140737488355328)<|ZaN b e (((4:Int)-(1:Int)).toNat+2) (1:Int) (List.replicate (b.length:Int).toNat false) d
theorem ZoA(b:List Zaa)(e:Zax)(f:Int)(r:List Bool)(d:ZeV b e f=some r):Yp 268 [] [Ym b,.agg (Zax.c e),.one (.lit (.int .u64 f))] [(lL 99999 4 1 cB false r)] (.one (.osl 99999 r.length)):=by
 refine Yv Tryz.func268 fun S0 w0=>?_;unfold ZeV at d;obtain⟨o1,d⟩:=Zap d;exact Ye 8 [rz,rA [(2,.c ((b.length:Int).toNat) (Zal cB false (List.replicate (b.length:Int).toNat false)))],rz] [] ⟨[],[],[],[(14,((List.replicate (b.length:Int).toNat false).length))],[],[0,2,4,7,8],[14,4],[]⟩ (lW (show (b.length:Int)=(((b.length:Int).toNat:Nat):Int)from(Int.toNat_of_nonneg o1.1).symm) (show (((b.length:Int).toNat:Nat):Int)<=(b.length:Int)from((Int.toNat_of_nonneg o1.1).symm ▸ o1.2.1)) o1.2.2.1 o1.2.2.2 (show ∀i j,i<(b.length:Int).toNat->j<1->ZrD (([.lit (.bool false)]:List C).getD j .junk) (Zal cB false (List.replicate (b.length:Int).toNat false) i j)from(Ztr (fun j hj=>.inl rfl) _)) (show (List.replicate (b.length:Int).toNat false).length=(b.length:Int).toNat from List.length_replicate)) (Znl S0 w0 b f (((4:Int)-(1:Int)).toNat+2) (1:Int) (List.replicate (b.length:Int).toNat false) e r d)
theorem Zpq(b:List Zaa)(d:Zax)(e:Int)(r:List Bool)(f:ZeV b d e=some r):Yo 268 [Ym b,.agg (Zax.c d),.one (.lit (.int .u64 e))] (.one (cL 1 cB false r)):=(ZoA b d e r f).pure
def ZbH:Nat->(List Zaa)->(List Bool)->Int->(List Zaa)->Option (List Zaa)|0,_,_,_,_=>none|fu+1,e,g,b,f=>bif(decide (b<(e.length:Int)))then need (0<=b/\b<(g.length:Int))<|bif(!(g.getD b.toNat false))then need (0<=b/\b<(e.length:Int))<|need ((f++([(e.getD b.toNat Zaa.d)]:List Zaa)).length * 80<=140737488355328/\(f++([(e.getD b.toNat Zaa.d)]:List Zaa)).length<=maxLen)<|ZbH fu e g (Zan b 1) (f++([(e.getD b.toNat Zaa.d)]:List Zaa))else ZbH fu e g (Zan b 1) f else some f
theorem Zlo:∀(p:Nat)(f:List Zaa)(o:List Bool)(b:Int)(h r:List Zaa),ZbH p f o b h=some r->Yr 37 S0 w0 Tryz.f196 [(lL 99999 44 10 Zaa.c Zaa.d r)] (.one (.osl 99999 r.length)) [1,1,1,1,0,1,0] ⟨[(7,(Ym f)),(8,.one (cL 1 cB false o)),(9,.one (.osl 9 h.length)),(10,(Yj b))],[(lL 9 44 10 Zaa.c Zaa.d h)]⟩:=by
 intro p;induction p with
 |zero=>
  intro f o b h r g;simp[ZbH]at g
 |succ p v=>
  intro f o b h r g;unfold ZbH at g;obtain⟨t,g⟩|⟨t,g⟩:=Zae g
  .obtain⟨y,g⟩:=Zap g;obtain⟨u,g⟩|⟨u,g⟩:=Zae g
   .obtain⟨A,z,g⟩:=Ys g;exact Ye 15 [rz,rz,⟨[(6,.c ((h++([(f.getD b.toNat Zaa.d)]:List Zaa)).length) (Zal Zaa.c Zaa.d (h++([(f.getD b.toNat Zaa.d)]:List Zaa))))],[],[],[],[],[(5,(([(f.getD b.toNat Zaa.d)]:List Zaa).length,Zal Zaa.c Zaa.d ([(f.getD b.toNat Zaa.d)]:List Zaa)))],[]⟩,rz] [true,true] (lK [7,8,9,10] [35] [(35,9)]) (lY t y u A (ml (e:=Zaa.c) Zaa.d 10 (fun _=>rfl) ([(f.getD b.toNat Zaa.d)]:List Zaa)) (ZcO (sz:=10) (e:=Zaa.c) (d:=Zaa.d) h ([(f.getD b.toNat Zaa.d)]:List Zaa)) z.1 z.2) (v f o (Zan b 1) (h++([(f.getD b.toNat Zaa.d)]:List Zaa)) r g)
   .exact Ye 15 [rz,rz,rz] [true,false] (lI [7,8,9,10] [9]) (lT t y u) (v f o (Zan b 1) h r g)
  .apply Yc g 8 [rz,rz] [false] (lK [6] [9] [(9,99999)]) (lR t)
def Zdf(d:List Zaa)(e:Zax)(f:Int):Option (List Zaa):=(ZdA d).bind fun b=>(ZeV b e f).bind fun g=>ZbH (((b.length:Int)-(0:Int)).toNat+2) b g (0:Int) ([]:List Zaa)
theorem Zmc(g:List Zaa)(h:Zax)(o:Int)(r:List Zaa)(b:Zdf g h o=some r):Yp 196 [] [Ym g,.agg (Zax.c h),.one (.lit (.int .u64 o))] [(lL 99999 44 10 Zaa.c Zaa.d r)] (.one (.osl 99999 r.length)):=by
 refine Yv Tryz.func196 fun S0 w0=>?_;unfold Zdf at b;obtain⟨f,p,t,u,b⟩:=Yt b;exact Ye 12 [rz,rA [(1,.r (Ym f) [])],rA [(3,.r (.one (cL 1 cB false p)) [])],rA [(0,.c ([]:List Zaa).length (Zal Zaa.c Zaa.d ([]:List Zaa)))],rz] [] (lK [7,8,9,10] [17] [(17,9)]) (lU (ZiM _ _ t) (Zpq _ _ _ _ u) (show ([]:List Zaa).length=0 from rfl) (mq (e:=Zaa.c) Zaa.d 10 (fun _=>rfl) ([]:List Zaa))) (Zlo S0 w0 (((f.length:Int)-(0:Int)).toNat+2) f p (0:Int) ([]:List Zaa) r b)
theorem Zmp(b:List Zaa)(d:Zax)(e:Int)(r:List Zaa)(f:Zdf b d e=some r):Yo 196 [Ym b,.agg (Zax.c d),.one (.lit (.int .u64 e))] (Ym r):=(Zmc b d e r f).pure
def Zcc(b:List Zaa)(f:Int):Nat->Int->Int->Option Int|0,_,_=>none|fu+1,g,e=>bif(decide (e<(b.length:Int)))then need (0<=e/\e<(b.length:Int))<|(Zdg (((b.getD e.toNat Zaa.d).fEnd).fAddr)).bind fun h=>need (0<=f/\f<(b.length:Int))<|(Zdg (((b.getD f.toNat Zaa.d).fEnd).fAddr)).bind fun i=>bif(decide (h=i))then Zcc b f fu (Zan g 1) (Zan e 1)else Zcc b f fu g (Zan e 1)else some g
theorem Zni(o:List Zaa)(p:Int):∀(f:Nat)(d e r:Int),Zcc o p f d e=some r->Yq 39 S0 w0 Tryz.f269 (Yj r) [1,1,1,0,1,0] ⟨[(0,(Ym o)),(1,(Yj p)),(5,(Yj d)),(6,(Yj e))],[]⟩:=by
 intro f;induction f with
 |zero=>
  intro d e r b;simp[Zcc]at b
 |succ f t=>
  intro d e r b;unfold Zcc at b;obtain⟨g,b⟩|⟨g,b⟩:=Zae b
  .obtain⟨u,b⟩:=Zap b;obtain⟨h,v,b⟩:=Zad b;obtain⟨y,b⟩:=Zap b;obtain⟨i,z,b⟩:=Zad b
   let R1:List RA:=[rz,rA [(6,aG (Zaj.c h)),(13,aG (Zaj.c i)),(14,aB (decide (h=i)))],rz]
   have O2:=(lW g u (ZhH _ _ v) y (ZhH _ _ z) (ZpB h i (.tmp 27) (.tmp 34)));obtain⟨j,b⟩|⟨j,b⟩:=Zae b
   .exact Ye 15 (R1++[rz]) [true,true] (Yi [0,1,5,6]) (l8 O2 j) (t (Zan d 1) (Zan e 1) r b)
   .exact Ye 15 R1 [true,false] (Yi [0,1,5,6]) (l8 O2 j) (t d (Zan e 1) r b)
  .apply Ya b 8 [rz,rz] [false] (lR g)
def ZeU(b:List Zaa)(d:Int):Option Int:=bif(decide (d<(0:Int)))then some (0:Int)else bif(decide (d>=(b.length:Int)))then some (0:Int)else Zcc b d (((b.length:Int)-(0:Int)).toNat+2) (0:Int) (0:Int)
theorem ZkJ(d:List Zaa)(f r:Int)(b:ZeU d f=some r):Yo 269 [Ym d,Yj f] (Yj r):=by
 refine Yu Tryz.func269 fun S0 w0=>?_;unfold ZeU at b;obtain⟨e,b⟩|⟨e,b⟩:=Zae b
 .apply Ya b 8 [rz,rB [(2,true)],rz] [true] (lS e (mo true))
 .obtain⟨g,b⟩|⟨g,b⟩:=Zae b
  .apply Ya b 8 [rz,rB [(2,false)],rz] [true] (lS e g)
  .exact Ye 13 [rz,rB [(2,false)],rz,rz] [false] (Yi [0,1,5,6]) (lS e g) (Zni S0 w0 d f (((d.length:Int)-(0:Int)).toNat+2) (0:Int) (0:Int) r b)
def Zfm(b d:Zaa):Option Bool:=bif(b.fSince != d.fSince)then some (decide (b.fSince>d.fSince))else(Zcn b.fEnd d.fEnd).bind fun e=>some (decide (e>(0:Int)))
theorem ZnP(e f:Zaa)(r:Bool)(b:Zfm e f=some r):Yo 270 [.agg (Zaa.c e),.agg (Zaa.c f)] (Yk r):=by
 refine Yu Tryz.func270 fun S0 w0=>?_;unfold Zfm at b;obtain⟨d,b⟩|⟨d,b⟩:=Zae b
 .apply Ya b 8 [rz,rz,rz] [true] (lR d)
 .obtain⟨g,h,b⟩:=Zad b;apply Ya b 9 [rz,rz,rA [(4,aI g)]] [false] (lS d (Zeh _ _ _ h))
def Zbd(b:List Zaa)(e:Int)(aq:Int->Option Int):Nat->Bool->Int->Option Int|0,_,_=>none|fu+1,g,f=>bif(decide (f<(b.length:Int)))then(ZeU b f).bind fun h=>(ZeU b e).bind fun i=>bif g then bif(decide (h<=i))then bif(decide (h<i))then Zbd b e aq fu true (Zan f 1)else need (0<=f/\f<(b.length:Int))<|need (0<=e/\e<(b.length:Int))<|(Zfm (b.getD f.toNat Zaa.d) (b.getD e.toNat Zaa.d)).bind fun j=>Zbd b e aq fu (!j) (Zan f 1)else Zbd b e aq fu false (Zan f 1)else Zbd b e aq fu false (Zan f 1)else bif g then some e else aq (Zan e 1)
theorem ZnQ(u:List Zaa)(v:Int)(aq:Int->Option Int)(bt:∀(v3_ r:Int),aq v3_=some r->Yq 51 S0 w0 Tryz.f197 (Yj r) [1,0,1,0] ⟨[(0,(Ym u)),(3,(Yj v3_))],[]⟩):∀(g:Nat)(h:Bool)(d r:Int),Zbd u v aq g h d=some r->Yq 51 S0 w0 Tryz.f197 (Yj r) [1,0,1,0,0,1,0,0,1,0,1,0] ⟨[(0,(Ym u)),(3,(Yj v)),(4,(Yk h)),(5,(Yj d))],[]⟩:=by
 intro g;induction g with
 |zero=>
  intro h d r b;simp[Zbd]at b
 |succ g i=>
  intro h d r b;unfold Zbd at b;obtain⟨j,b⟩|⟨j,b⟩:=Zae b
  .obtain⟨o,p,B,C,b⟩:=Yt b;have O1:=(lT j (ZkJ _ _ _ B) (ZkJ _ _ _ C));obtain⟨f,b⟩|⟨f,b⟩:=Zae b
   .obtain⟨t,b⟩|⟨t,b⟩:=Zae b
    .obtain⟨y,b⟩|⟨y,b⟩:=Zae b
     .exact Ye 14 [rz,rA [(2,aI o),(5,aI p)],rB [(1,true),(6,true),(10,true)],rz] [true] (Yi [0,3,4,5]) (ma O1 f t y) (i true (Zan d 1) r b)
     .obtain⟨D,E,b⟩:=Ys b;obtain⟨A,z,b⟩:=Zad b;exact Ye 14 [rz,rA [(2,aI o),(5,aI p)],⟨[(19,aB A)],[(1,true),(6,true),(10,false)],[],[],[],[],[]⟩,rz] [true] (Yi [0,3,4,5]) (me O1 f t y D E (ZnP _ _ _ z)) (i (!A) (Zan d 1) r b)
    .exact Ye 14 [rz,rA [(2,aI o),(5,aI p)],rB [(1,true),(6,false)],rz] [true] (Yi [0,3,4,5]) (l9 O1 f t) (i false (Zan d 1) r b)
   .exact Ye 14 [rz,rA [(2,aI o),(5,aI p)],rB [(1,false)],rz] [true] (Yi [0,3,4,5]) (l8 O1 f) (i false (Zan d 1) r b)
  .obtain⟨e,b⟩|⟨e,b⟩:=Zae b
   .apply Ya b 11 [rz,rz,rz] [false,true] (lS j e)
   .exact Ye 13 [rz,rz,rz] [false,false] (Yi [0,3]) (lS j e) (bt (Zan v 1) r b)
def ZbP(b:List Zaa):Nat->Int->Option Int|0,_=>none|fu+1,d=>bif(decide (d<(b.length:Int)))then Zbd b d (ZbP b fu) (((b.length:Int)-(0:Int)).toNat+2) true (0:Int)else some (-1:Int)
theorem ZnR(d:List Zaa):∀(e:Nat)(f r:Int),ZbP d e f=some r->Yq 51 S0 w0 Tryz.f197 (Yj r) [1,0,1,0] ⟨[(0,(Ym d)),(3,(Yj f))],[]⟩:=by
 intro e;induction e with
 |zero=>
  intro f r b;simp[ZbP]at b
 |succ e h=>
  intro f r b;unfold ZbP at b;obtain⟨g,b⟩|⟨g,b⟩:=Zae b
  .exact Ye 14 [rz,rz,rz] [true] (Yi [0,3,4,5]) (lR g) (ZnQ S0 w0 d f (ZbP d e) h (((d.length:Int)-(0:Int)).toNat+2) true (0:Int) r b)
  .apply Ya b 8 [rz,rz] [false] (lR g)
def ZgL(b:List Zaa):Option Int:=ZbP b (((b.length:Int)-(0:Int)).toNat+2) (0:Int)
theorem ZpT(b:List Zaa)(r:Int)(d:ZgL b=some r):Yo 197 [Ym b] (Yj r):=by
 refine Yu Tryz.func197 fun S0 w0=>?_;unfold ZgL at d;exact Ye 6 [rz,rz] [] (Yi [0,3]) .n (ZnR S0 w0 b (((b.length:Int)-(0:Int)).toNat+2) (0:Int) r d)
def Zeu(f:List Zaa)(g:Zax)(h:Int):Option (Zai×Bool):=(Zdf f g h).bind fun e=>(ZgL e).bind fun b=>bif(decide (b<(0:Int)))then some ((Zai.mk (Zaf.mk false 0 0) 0),false)else need (0<=b/\b<(e.length:Int))<|some ((e.getD b.toNat Zaa.d).fEnd,true)
theorem Zoz(e:List Zaa)(f:Zax)(g:Int)(r:(Zai×Bool))(b:Zeu e f g=some r):Yo 119 [Ym e,.agg (Zax.c f),.one (.lit (.int .u64 g))] (.tup [(true,Zai.c r.1),(false,cB r.2)]):=by
 refine Yu Tryz.func119 fun S0 w0=>?_;unfold Zeu at b;obtain⟨h,i,b⟩:=Zad b;obtain⟨j,o,b⟩:=Zad b
 let R1:List RA:=[rz,rA [(3,.r (Ym h) [])],rA [(1,aI j)],rz,rz]
 have O2:=(lS (Zmp _ _ _ _ i) (ZpT _ _ o));obtain⟨d,b⟩|⟨d,b⟩:=Zae b
 .apply Ya b 12 R1 [true] (l8 O2 d)
 .obtain⟨p,b⟩:=Zap b;apply Ya b 13 R1 [false] (l9 O2 d p)
def Zfw(d:List Zaa)(e:Zai):Option ((List Zaa)×Int):=(Zbi d e).bind fun b=>bif(decide (b<(0:Int)))then some (([]:(List Zaa)),(6:Int))else need (0<=b/\b<=(d.length:Int))<|need ((([]:List Zaa)++(d.take b.toNat)).length * 80<=140737488355328/\(([]:List Zaa)++(d.take b.toNat)).length<=maxLen)<|need (0<=(Zan b 1)/\(Zan b 1)<=(d.length:Int))<|need (((([]:List Zaa)++(d.take b.toNat))++(d.drop (Zan b 1).toNat)).length * 80<=140737488355328/\((([]:List Zaa)++(d.take b.toNat))++(d.drop (Zan b 1).toNat)).length<=maxLen)<|some (((([]:List Zaa)++(d.take b.toNat))++(d.drop (Zan b 1).toNat)),(0:Int))
theorem Zla(f:List Zaa)(o:Zai)(r:((List Zaa)×Int))(g:Zfw f o=some r):Yo 131 [Ym f,.agg (Zai.c o)] (.tup [(false,(cLs 10 Zaa.c Zaa.d) r.1),(false,lP r.2)]):=by
 refine Yu Tryz.func131 fun S0 w0=>?_;unfold Zfw at g;obtain⟨b,p,g⟩:=Zad g;obtain⟨h,g⟩|⟨h,g⟩:=Zae g
 .apply Yb g 10 [rz,rA [(2,aI b)],rz,rz] [true] [] [] [(4,[(0,cL 10 Zaa.c Zaa.d [])])] (lS (ZaW _ _ _ p) h)
 .obtain⟨t,u,g⟩:=Ys g;obtain⟨y,v,g⟩:=Ys g;apply Yb g 11 [rz,rA [(2,aI b)],rz,⟨[(0,.c ([]:List Zaa).length (Zal Zaa.c Zaa.d ([]:List Zaa))),(4,.c ((([]:List Zaa)++(f.take b.toNat)).length) (Zal Zaa.c Zaa.d (([]:List Zaa)++(f.take b.toNat)))),(9,.c (((([]:List Zaa)++(f.take b.toNat))++(f.drop (Zan b 1).toNat)).length) (Zal Zaa.c Zaa.d ((([]:List Zaa)++(f.take b.toNat))++(f.drop (Zan b 1).toNat))))],[],[],[],[],[(3,((f.take b.toNat).length,Zal Zaa.c Zaa.d (f.take b.toNat))),(8,((f.drop (Zan b 1).toNat).length,Zal Zaa.c Zaa.d (f.drop (Zan b 1).toNat)))],[]⟩] [false] [21] [] [] (.c (ZaW _ _ _ p) (.c h (.c (show ([]:List Zaa).length=0 from rfl) (.c (mq (e:=Zaa.c) Zaa.d 10 (fun _=>rfl) ([]:List Zaa)) (l5 (show (f.take b.toNat).length=b.toNat/\∀i j,i<b.toNat->j<10->Zal Zaa.c Zaa.d (f.take b.toNat) i j=Zal Zaa.c Zaa.d f i j from(Zkb _ _ t)) t (ZcO (sz:=10) (e:=Zaa.c) (d:=Zaa.d) ([]:List Zaa) (f.take b.toNat)) u.1 u.2 (show (f.drop (Zan b 1).toNat).length=f.length-(Zan b 1).toNat/\∀i j,i<f.length-(Zan b 1).toNat->j<10->Zal Zaa.c Zaa.d (f.drop (Zan b 1).toNat) i j=Zal Zaa.c Zaa.d f ((Zan b 1).toNat+i) j from(Zkc _ _)) y (ZcO (sz:=10) (e:=Zaa.c) (d:=Zaa.d) (([]:List Zaa)++(f.take b.toNat)) (f.drop (Zan b 1).toNat)) v.1 v.2)))))
def Zdw(e:List Zaa):Nat->Int->Zaa->Option (List Zaa)|0,_,_=>none|fu+1,b,f=>bif(decide (b<(e.length:Int)))then need (0<=b/\b<(e.length:Int))<|(Zcn ((e.getD b.toNat Zaa.d).fEnd) f.fEnd).bind fun g=>bif(decide (g<=(0:Int)))then Zdw e fu (Zan b 1) f else need (0<=b/\b<=(e.length:Int))<|need ((([]:List Zaa)++(e.take b.toNat)).length * 80<=140737488355328/\(([]:List Zaa)++(e.take b.toNat)).length<=maxLen)<|need (((([]:List Zaa)++(e.take b.toNat))++([f]:List Zaa)).length * 80<=140737488355328/\((([]:List Zaa)++(e.take b.toNat))++([f]:List Zaa)).length<=maxLen)<|need ((((([]:List Zaa)++(e.take b.toNat))++([f]:List Zaa))++(e.drop b.toNat)).length * 80<=140737488355328/\(((([]:List Zaa)++(e.take b.toNat))++([f]:List Zaa))++(e.drop b.toNat)).length<=maxLen)<|some (((([]:List Zaa)++(e.take b.toNat))++([f]:List Zaa))++(e.drop b.toNat))else need (0<=b/\b<=(e.length:Int))<|need ((([]:List Zaa)++(e.take b.toNat)).length * 80<=140737488355328/\(([]:List Zaa)++(e.take b.toNat)).length<=maxLen)<|need (((([]:List Zaa)++(e.take b.toNat))++([f]:List Zaa)).length * 80<=140737488355328/\((([]:List Zaa)++(e.take b.toNat))++([f]:List Zaa)).length<=maxLen)<|need ((((([]:List Zaa)++(e.take b.toNat))++([f]:List Zaa))++(e.drop b.toNat)).length * 80<=140737488355328/\(((([]:List Zaa)++(e.take b.toNat))++([f]:List Zaa))++(e.drop b.toNat)).length<=maxLen)<|some (((([]:List Zaa)++(e.take b.toNat))++([f]:List Zaa))++(e.drop b.toNat))
theorem Zov(f:List Zaa):∀(u:Nat)(b:Int)(g:Zaa)(r:List Zaa),Zdw f u b g=some r->Yr 37 S0 w0 Tryz.f132 [(lL 99999 44 10 Zaa.c Zaa.d r)] (.one (.osl 99999 r.length)) [1,1,0,0] ⟨[(0,(Ym f)),(3,.one (.ptr 3 0)),(5,(Yj b))],[(3,.box (Zaa.c g))]⟩:=by
 intro u;induction u with
 |zero=>
  intro b g r h;simp[Zdw]at h
 |succ u E=>
  intro b g r h;unfold Zdw at h;obtain⟨v,h⟩|⟨v,h⟩:=Zae h
  .obtain⟨F,h⟩:=Zap h;obtain⟨G,H,h⟩:=Zad h
   let R1:List RA:=[⟨[(12,aI G)],[(4,true)],[],[],[],[],[]⟩]
   have O2:=(lT v F (Zeh _ _ _ H));obtain⟨y,h⟩|⟨y,h⟩:=Zae h
   .exact Ye 10 (R1++[rz]) [true] (lI [0,3,5] [3]) (l8 O2 y) (E (Zan b 1) g r h)
   .obtain⟨z,B,h⟩:=Ys h;obtain⟨C,D,h⟩:=Ys h;apply Yc h 10 (R1++[⟨[(0,.c ([]:List Zaa).length (Zal Zaa.c Zaa.d ([]:List Zaa))),(4,.c ((([]:List Zaa)++(f.take b.toNat)).length) (Zal Zaa.c Zaa.d (([]:List Zaa)++(f.take b.toNat)))),(7,.c (((([]:List Zaa)++(f.take b.toNat))++([g]:List Zaa)).length) (Zal Zaa.c Zaa.d ((([]:List Zaa)++(f.take b.toNat))++([g]:List Zaa))))],[],[],[],[],[(3,((f.take b.toNat).length,Zal Zaa.c Zaa.d (f.take b.toNat))),(6,(([g]:List Zaa).length,Zal Zaa.c Zaa.d ([g]:List Zaa)))],[]⟩,⟨[(4,.c ((((([]:List Zaa)++(f.take b.toNat))++([g]:List Zaa))++(f.drop b.toNat)).length) (Zal Zaa.c Zaa.d (((([]:List Zaa)++(f.take b.toNat))++([g]:List Zaa))++(f.drop b.toNat))))],[],[],[],[],[(3,((f.drop b.toNat).length,Zal Zaa.c Zaa.d (f.drop b.toNat)))],[]⟩]) [false] (lK [4] [36] [(36,99999)]) (O2.app (.c y (.c (show ([]:List Zaa).length=0 from rfl) (.c (mq (e:=Zaa.c) Zaa.d 10 (fun _=>rfl) ([]:List Zaa)) (.c (show (f.take b.toNat).length=b.toNat/\∀i j,i<b.toNat->j<10->Zal Zaa.c Zaa.d (f.take b.toNat) i j=Zal Zaa.c Zaa.d f i j from(Zkb _ _ z)) (.c z (.c (ZcO (sz:=10) (e:=Zaa.c) (d:=Zaa.d) ([]:List Zaa) (f.take b.toNat)) (.c B.1 (l5 B.2 (ml (e:=Zaa.c) Zaa.d 10 (fun _=>rfl) ([g]:List Zaa)) (ZcO (sz:=10) (e:=Zaa.c) (d:=Zaa.d) (([]:List Zaa)++(f.take b.toNat)) ([g]:List Zaa)) C.1 C.2 (show (f.drop b.toNat).length=f.length-b.toNat/\∀i j,i<f.length-b.toNat->j<10->Zal Zaa.c Zaa.d (f.drop b.toNat) i j=Zal Zaa.c Zaa.d f (b.toNat+i) j from(Zkc _ _)) z (ZcO (sz:=10) (e:=Zaa.c) (d:=Zaa.d) ((([]:List Zaa)++(f.take b.toNat))++([g]:List Zaa)) (f.drop b.toNat)) D.1 D.2)))))))))
  .obtain⟨A,o,h⟩:=Ys h;obtain⟨p,t,h⟩:=Ys h;apply Yc h 10 [rB [(4,false)],⟨[(0,.c ([]:List Zaa).length (Zal Zaa.c Zaa.d ([]:List Zaa))),(4,.c ((([]:List Zaa)++(f.take b.toNat)).length) (Zal Zaa.c Zaa.d (([]:List Zaa)++(f.take b.toNat)))),(7,.c (((([]:List Zaa)++(f.take b.toNat))++([g]:List Zaa)).length) (Zal Zaa.c Zaa.d ((([]:List Zaa)++(f.take b.toNat))++([g]:List Zaa))))],[],[],[],[],[(3,((f.take b.toNat).length,Zal Zaa.c Zaa.d (f.take b.toNat))),(6,(([g]:List Zaa).length,Zal Zaa.c Zaa.d ([g]:List Zaa)))],[]⟩,⟨[(4,.c ((((([]:List Zaa)++(f.take b.toNat))++([g]:List Zaa))++(f.drop b.toNat)).length) (Zal Zaa.c Zaa.d (((([]:List Zaa)++(f.take b.toNat))++([g]:List Zaa))++(f.drop b.toNat))))],[],[],[],[],[(3,((f.drop b.toNat).length,Zal Zaa.c Zaa.d (f.drop b.toNat)))],[]⟩] [false] (lK [4] [36] [(36,99999)]) (.c v (.c (mo false) (.c (show ([]:List Zaa).length=0 from rfl) (.c (mq (e:=Zaa.c) Zaa.d 10 (fun _=>rfl) ([]:List Zaa)) (.c (show (f.take b.toNat).length=b.toNat/\∀i j,i<b.toNat->j<10->Zal Zaa.c Zaa.d (f.take b.toNat) i j=Zal Zaa.c Zaa.d f i j from(Zkb _ _ A)) (.c A (.c (ZcO (sz:=10) (e:=Zaa.c) (d:=Zaa.d) ([]:List Zaa) (f.take b.toNat)) (.c o.1 (l5 o.2 (ml (e:=Zaa.c) Zaa.d 10 (fun _=>rfl) ([g]:List Zaa)) (ZcO (sz:=10) (e:=Zaa.c) (d:=Zaa.d) (([]:List Zaa)++(f.take b.toNat)) ([g]:List Zaa)) p.1 p.2 (show (f.drop b.toNat).length=f.length-b.toNat/\∀i j,i<f.length-b.toNat->j<10->Zal Zaa.c Zaa.d (f.drop b.toNat) i j=Zal Zaa.c Zaa.d f (b.toNat+i) j from(Zkc _ _)) A (ZcO (sz:=10) (e:=Zaa.c) (d:=Zaa.d) ((([]:List Zaa)++(f.take b.toNat))++([g]:List Zaa)) (f.drop b.toNat)) t.1 t.2)))))))))
def Zdp(b:List Zaa)(d:Zaa):Option (List Zaa):=Zdw b (((b.length:Int)-(0:Int)).toNat+2) (0:Int) d
theorem ZpO(b:List Zaa)(e:Zaa)(r:List Zaa)(f:Zdp b e=some r):Yp 132 [] [Ym b,.agg (Zaa.c e)] [(lL 99999 44 10 Zaa.c Zaa.d r)] (.one (.osl 99999 r.length)):=by
 refine Yv Tryz.func132 fun S0 w0=>?_;unfold Zdp at f;exact Ye 6 [rz,rz] [] (lI [0,3,5] [3]) .n (Zov S0 w0 b (((b.length:Int)-(0:Int)).toNat+2) (0:Int) e r f)
theorem Zjd(b:List Zaa)(d:Zaa)(r:List Zaa)(e:Zdp b d=some r):Yo 132 [Ym b,.agg (Zaa.c d)] (Ym r):=(ZpO b d r e).pure
def ZfM(e:Zav)(b:Zam)(d:Zar):Option (Zam×Zao):=(Zdj b.fBans d.fEnd.fAddr d.fNow).bind fun h=>bif(decide (h>(0:Int)))then some (b,(Zao.mk 8 (Zai.mk (Zaf.mk false 0 0) 0) 0 h ([]:(List Zaa))))else(Zbi b.fPeers d.fEnd).bind fun j=>bif(decide (j>=(0:Int)))then(Zbz (7:Int)).bind fun n=>some (b,n)else(ZdX d.fEnd true d.fNow).bind fun i=>(ZeS b.fPeers true).bind fun o=>bif(decide (o>=e.fMaxIn))then(Zeu b.fPeers e.fQuota e.fSecret).bind fun f=>bif(!f.2)then(Zbz (5:Int)).bind fun p=>some (b,p)else(Zfw b.fPeers f.1).bind fun r=>(Zdp r.1 i).bind fun t=>some ((Zam.mk b.fBans b.fBook t),(Zao.mk 0 f.1 1 0 ([]:(List Zaa))))else(Zdp b.fPeers i).bind fun g=>some ((Zam.mk b.fBans b.fBook g),(Zao.mk 0 (Zai.mk (Zaf.mk false 0 0) 0) 0 0 ([]:(List Zaa))))
theorem Zou(v:Zav)(y:Zam)(z:Zar)(r:(Zam×Zao))(b:ZfM v y z=some r):Yo 65 [.agg (Zav.c v),.agg (Zam.c y),.agg (Zar.c z)] (.tup [(true,Zam.c r.1),(true,Zao.c r.2)]):=by
 refine Yu Tryz.func65 fun S0 w0=>?_;unfold ZfM at b;obtain⟨f,A,b⟩:=Zad b;obtain⟨g,b⟩|⟨g,b⟩:=Zae b
 .apply Yb b 10 [rz,rA [(7,aI f)],rz,rz] [true] [] [(7,[(7,cL 10 Zaa.c Zaa.d [])])] [] (lS (ZeL _ _ _ _ A) g)
 .obtain⟨B,E,b⟩:=Zad b;have O1:=(lT (ZeL _ _ _ _ A) g (ZaW _ _ _ E));obtain⟨h,b⟩|⟨h,b⟩:=Zae b
  .obtain⟨F,G,b⟩:=Zad b;apply Ya b 15 [rz,rA [(7,aI f)],rz,rA [(4,aI B)],rA [(1,aG (Zao.c F))]] [false,true] (l9 O1 h (Zbu _ _ G))
  .obtain⟨H,I,b⟩:=Zad b;obtain⟨J,L,b⟩:=Zad b
   let R2:List RA:=[rz,rA [(7,aI f)],rz,rA [(4,aI B)],rA [(4,aG (Zaa.c H))],rz,rA [(2,aI J)]]
   have O3:=(ma O1 h (ZlM _ _ _ _ I) (ZkH _ _ _ L));obtain⟨i,b⟩|⟨i,b⟩:=Zae b
   .obtain⟨C,M,b⟩:=Zad b
    let R4:List RA:=(R2++[rA [(6,.r (.tup [(true,Zai.c C.1),(false,cB C.2)]) [])],rz])
    have O5:=(l9 O3 i (Zoz _ _ _ _ M));obtain⟨e,b⟩|⟨e,b⟩:=Zae b
    .obtain⟨O,j,b⟩:=Zad b;apply Ya b 30 (R4++[rA [(1,aG (Zao.c O))]]) [false,false,true,true] (l9 O5 e (Zbu _ _ j))
    .obtain⟨D,R,o,p,b⟩:=Yt b;apply Yb b 38 (R4++[rA [(3,.r (.tup [(false,(cLs 10 Zaa.c Zaa.d) D.1),(false,lP D.2)]) [])],rz,rz,rA [(3,.r (Ym R) [])],rz]) [false,false,true,false] [] [(7,[(7,cL 10 Zaa.c Zaa.d [])])] [] (ma O5 e (Zla _ _ _ o) (Zjd _ _ _ p))
   .obtain⟨t,u,b⟩:=Zad b;apply Yb b 27 (R2++[rA [(3,.r (Ym t) [])],rz]) [false,false,false] [] [(7,[(7,cL 10 Zaa.c Zaa.d [])])] [] (l9 O3 i (Zjd _ _ _ u))
def Zcb(e:List Zab)(f:Int):Nat->Int->Int->Option Int|0,_,_=>none|fu+1,g,b=>bif(decide (b<(e.length:Int)))then need (0<=b/\b<(e.length:Int))<|bif((e.getD b.toNat Zab.d).fState==f)then Zcb e f fu (Zan g 1) (Zan b 1)else Zcb e f fu g (Zan b 1)else some g
theorem Zng(i:List Zab)(j:Int):∀(f:Nat)(d e r:Int),Zcb i j f d e=some r->Yq 23 S0 w0 Tryz.f60 (Yj r) [1,1,0,1,0] ⟨[(0,(Yn i)),(1,(Yj j)),(5,(Yj d)),(6,(Yj e))],[]⟩:=by
 intro f;induction f with
 |zero=>
  intro d e r b;simp[Zcb]at b
 |succ f o=>
  intro d e r b;unfold Zcb at b;obtain⟨g,b⟩|⟨g,b⟩:=Zae b
  .obtain⟨p,b⟩:=Zap b;obtain⟨h,b⟩|⟨h,b⟩:=Zae b
   .exact Ye 15 [rz,rz,rz,rz] [true,true] (Yi [0,1,5,6]) (lT g p h) (o (Zan d 1) (Zan e 1) r b)
   .exact Ye 15 [rz,rz,rz] [true,false] (Yi [0,1,5,6]) (lT g p h) (o d (Zan e 1) r b)
  .apply Ya b 8 [rz,rz] [false] (lR g)
def Zgl(b:List Zab)(d:Int):Option Int:=Zcb b d (((b.length:Int)-(0:Int)).toNat+2) (0:Int) (0:Int)
theorem Zpn(b:List Zab)(d r:Int)(e:Zgl b d=some r):Yo 60 [Yn b,Yj d] (Yj r):=by
 refine Yu Tryz.func60 fun S0 w0=>?_;unfold Zgl at e;exact Ye 8 [rz,rz,rz] [] (Yi [0,1,5,6]) .n (Zng S0 w0 b d (((b.length:Int)-(0:Int)).toNat+2) (0:Int) (0:Int) r e)
def Zfl(b:Zam):Option Int:=(ZeS b.fPeers false).bind fun d=>(Zgl b.fBook (2:Int)).bind fun e=>some (Zan d e)
theorem ZjQ(d:Zam)(r:Int)(b:Zfl d=some r):Yo 25 [.agg (Zam.c d)] (Yj r):=by
 refine Yu Tryz.func25 fun S0 w0=>?_;unfold Zfl at b;obtain⟨e,f,g,h,b⟩:=Yt b;apply Ya b 4 [rz,rA [(2,aI e),(5,aI f)]] [] (lS (ZkH _ _ _ g) (Zpn _ _ _ h))
def ZdR(b:Zab):Option Bool:=(ZeY b.fEnd).bind fun d=>bif d then bif(decide (b.fState>=(1:Int)))then bif(decide (b.fState<=(3:Int)))then bif(decide (b.fFails>=(0:Int)))then bif(decide (b.fFails<=(1000:Int)))then bif(decide (b.fNext>=(0:Int)))then some (decide (b.fNext<=(1099511627776:Int)))else some false else some false else some false else some false else some false else some false
theorem ZeJ(o:Zab)(r:Bool)(b:ZdR o=some r):Yo 124 [.agg (Zab.c o)] (Yk r):=by
 refine Yu Tryz.func124 fun S0 w0=>?_;unfold ZdR at b;obtain⟨d,p,b⟩:=Zad b;obtain⟨i,b⟩|⟨i,b⟩:=Zae b
 .have O1:=(lS (Zir _ _ p) i);obtain⟨e,b⟩|⟨e,b⟩:=Zae b
  .obtain⟨f,b⟩|⟨f,b⟩:=Zae b
   .obtain⟨g,b⟩|⟨g,b⟩:=Zae b
    .obtain⟨h,b⟩|⟨h,b⟩:=Zae b
     .obtain⟨j,b⟩|⟨j,b⟩:=Zae b
      .apply Ya b 4 [rz,⟨[(2,aB d)],[(3,true),(8,true),(13,true),(18,true),(23,true),(28,true)],[],[],[],[],[]⟩] [] (md O1 e f g h j)
      .apply Ya b 4 [rz,⟨[(2,aB d)],[(3,true),(8,true),(13,true),(18,true),(23,true),(28,false)],[],[],[],[],[]⟩] [] (md O1 e f g h j)
     .apply Ya b 4 [rz,⟨[(2,aB d)],[(3,true),(8,true),(13,true),(18,true),(23,false)],[],[],[],[],[]⟩] [] (mc O1 e f g h)
    .apply Ya b 4 [rz,⟨[(2,aB d)],[(3,true),(8,true),(13,true),(18,false)],[],[],[],[],[]⟩] [] (ma O1 e f g)
   .apply Ya b 4 [rz,⟨[(2,aB d)],[(3,true),(8,true),(13,false)],[],[],[],[],[]⟩] [] (l9 O1 e f)
  .apply Ya b 4 [rz,⟨[(2,aB d)],[(3,true),(8,false)],[],[],[],[],[]⟩] [] (l8 O1 e)
 .apply Ya b 4 [rz,⟨[(2,aB d)],[(3,false)],[],[],[],[],[]⟩] [] (lS (Zir _ _ p) i)
def Zhq(b:Zab)(d:Int):Option Bool:=bif(b.fState==(1:Int))then some (decide (b.fNext<=d))else some false
theorem ZqA(e:Zab)(f:Int)(r:Bool)(b:Zhq e f=some r):Yo 289 [.agg (Zab.c e),Yj f] (Yk r):=by
 refine Yu Tryz.func289 fun S0 w0=>?_;unfold Zhq at b;obtain⟨d,b⟩|⟨d,b⟩:=Zae b
 .apply Ya b 4 [rz,rB [(3,true)]] [] (lR d)
 .apply Ya b 4 [rz,rB [(3,false)]] [] (lR d)
def ZbQ:Nat->Int->Zaf->Zaf->Option Bool|0,_,_,_=>none|fu+1,b,d,e=>bif(decide (b<(32:Int)))then bif d.fV6 then(Zby d b).bind fun f=>(Zby e b).bind fun g=>bif(f != g)then some false else ZbQ fu (Zan b 1) d e else bif(decide (b<(16:Int)))then(Zby d b).bind fun h=>(Zby e b).bind fun i=>bif(h != i)then some false else ZbQ fu (Zan b 1) d e else ZbQ fu (Zan b 1) d e else some true
theorem ZnV:∀(o:Nat)(f:Int)(d e:Zaf)(r:Bool),ZbQ o f d e=some r->Yq 40 S0 w0 Tryz.f337 (Yk r) [1,1,0,1,0] ⟨[(2,.one (.ptr 2 0)),(3,.one (.ptr 3 0)),(5,(Yj f))],[(2,.box (Zaf.c d)),(3,.box (Zaf.c e))]⟩:=by
 intro o;induction o with
 |zero=>
  intro f d e r b;simp[ZbQ]at b
 |succ o t=>
  intro f d e r b;unfold ZbQ at b;obtain⟨j,b⟩|⟨j,b⟩:=Zae b
  .obtain⟨p,b⟩|⟨p,b⟩:=Zae b
   .obtain⟨y,z,b⟩:=Zad b;obtain⟨A,B,b⟩:=Zad b
    let R1:List RA:=[rz,⟨[(9,aI y),(12,aI A)],[(2,true)],[],[],[],[],[]⟩,rz]
    have O2:=(lU j p (ZdE _ _ _ z) (ZdE _ _ _ B));obtain⟨g,b⟩|⟨g,b⟩:=Zae b
    .apply Ya b 13 R1 [true,true] (l8 O2 g)
    .exact Ye 15 R1 [true,false] (lI [2,3,5] [2,3]) (l8 O2 g) (t (Zan f 1) d e r b)
   .obtain⟨h,b⟩|⟨h,b⟩:=Zae b
    .obtain⟨C,u,b⟩:=Zad b;obtain⟨D,v,b⟩:=Zad b
     let R3:List RA:=[rz,⟨[(9,aI C),(12,aI D)],[(2,false),(6,true)],[],[],[],[],[]⟩,rz]
     have O4:=(lV j p h (ZdE _ _ _ u) (ZdE _ _ _ v));obtain⟨i,b⟩|⟨i,b⟩:=Zae b
     .apply Ya b 13 R3 [true,true] (l8 O4 i)
     .exact Ye 15 R3 [true,false] (lI [2,3,5] [2,3]) (l8 O4 i) (t (Zan f 1) d e r b)
    .exact Ye 15 [rz,rB [(2,false),(6,false)],rz] [true,false] (lI [2,3,5] [2,3]) (lU j p h (mo false)) (t (Zan f 1) d e r b)
  .apply Ya b 8 [rz,rz] [false] (lR j)
def ZfA(b d:Zaf):Option Bool:=(Zbv b).bind fun e=>bif(!e)then some false else(Zbv d).bind fun f=>bif(!f)then some false else bif(!(b.fV6==d.fV6))then some false else ZbQ (((32:Int)-(0:Int)).toNat+2) (0:Int) b d
theorem Zle(e f:Zaf)(r:Bool)(b:ZfA e f=some r):Yo 337 [.agg (Zaf.c e),.agg (Zaf.c f)] (Yk r):=by
 refine Yu Tryz.func337 fun S0 w0=>?_;unfold ZfA at b;obtain⟨g,j,b⟩:=Zad b;obtain⟨h,b⟩|⟨h,b⟩:=Zae b
 .apply Ya b 8 [rz,⟨[(1,aB g)],[(3,true)],[],[],[],[],[]⟩,rz] [true] (lT (ZaT _ _ j) h (mo true))
 .obtain⟨o,p,b⟩:=Zad b;have O5:=(lT (ZaT _ _ j) h (ZaT _ _ p));obtain⟨d,b⟩|⟨d,b⟩:=Zae b
  .apply Ya b 8 [rz,⟨[(1,aB g),(5,aB o)],[(3,false),(8,true)],[],[],[],[],[]⟩,rz] [true] (l9 O5 d (mo true))
  .let R6:List RA:=[rz,⟨[(1,aB g),(5,aB o)],[(3,false),(8,false)],[],[],[],[],[]⟩,rz]
   obtain⟨i,b⟩|⟨i,b⟩:=Zae b
   .apply Ya b 8 R6 [true] (l9 O5 d i)
   .exact Ye 11 R6 [false] (lI [2,3,5] [2,3]) (l9 O5 d i) (ZnV S0 w0 (((32:Int)-(0:Int)).toNat+2) (0:Int) e f r b)
def ZcK(g:List Zaa)(e:List Zab)(h:Int)(f:Zaf)(aD:Int->Zaf->Option Bool):Nat->Int->Option Bool|0,_=>none|fu+1,b=>bif(decide (b<(e.length:Int)))then need (0<=b/\b<(e.length:Int))<|bif((e.getD b.toNat Zab.d).fState==(2:Int))then(ZfA (((e.getD b.toNat Zab.d).fEnd).fAddr) f).bind fun i=>bif i then some false else ZcK g e h f aD fu (Zan b 1)else ZcK g e h f aD fu (Zan b 1)else some true
theorem ZnK(t:List Zaa)(j:List Zab)(v:Int)(g:Zaf)(aD:Int->Zaf->Option Bool)(cH:∀(gC:Int)(j9:Zaf)(r:Bool),aD gC j9=some r->Yq 56 S0 w0 Tryz.f290 (Yk r) [1,1,0,1,0] ⟨[(0,(Ym t)),(1,(Yn j)),(5,.one (.ptr 5 0)),(7,(Yj gC))],[(5,.box (Zaf.c j9))]⟩):∀(h:Nat)(f:Int)(r:Bool),ZcK t j v g aD h f=some r->Yq 56 S0 w0 Tryz.f290 (Yk r) [1,1,1,0,1,0] ⟨[(1,(Yn j)),(5,.one (.ptr 5 0)),(8,(Yj f))],[(5,.box (Zaf.c g))]⟩:=by
 intro h;induction h with
 |zero=>
  intro f r b;simp[ZcK]at b
 |succ h u=>
  intro f r b;unfold ZcK at b;obtain⟨i,b⟩|⟨i,b⟩:=Zae b
  .obtain⟨o,b⟩:=Zap b;obtain⟨d,b⟩|⟨d,b⟩:=Zae b
   .obtain⟨y,p,b⟩:=Zad b
    let R1:List RA:=[rz,⟨[(14,aB y)],[(6,true)],[],[],[],[],[]⟩,rz]
    have O2:=(lV i o d o (Zle _ _ _ p));obtain⟨e,b⟩|⟨e,b⟩:=Zae b
    .apply Ya b 13 R1 [true,true] (l8 O2 e)
    .exact Ye 15 R1 [true,false] (lI [1,5,8] [5]) (l8 O2 e) (u (Zan f 1) r b)
   .exact Ye 15 [rz,rB [(6,false)],rz] [true,false] (lI [1,5,8] [5]) (lU i o d (mo false)) (u (Zan f 1) r b)
  .apply Ya b 8 [rz,rz] [false] (lR i)
def ZbO(b:List Zaa)(f:List Zab):Nat->Int->Zaf->Option Bool|0,_,_=>none|fu+1,e,g=>bif(decide (e<(b.length:Int)))then need (0<=e/\e<(b.length:Int))<|bif(!(b.getD e.toNat Zaa.d).fIn)then(ZfA (((b.getD e.toNat Zaa.d).fEnd).fAddr) g).bind fun h=>bif h then some false else ZbO b f fu (Zan e 1) g else ZbO b f fu (Zan e 1) g else ZcK b f e g (ZbO b f fu) (((f.length:Int)-(0:Int)).toNat+2) (0:Int)
theorem ZnL(h:List Zaa)(f:List Zab):∀(g:Nat)(e:Int)(d:Zaf)(r:Bool),ZbO h f g e d=some r->Yq 56 S0 w0 Tryz.f290 (Yk r) [1,1,0,1,0] ⟨[(0,(Ym h)),(1,(Yn f)),(5,.one (.ptr 5 0)),(7,(Yj e))],[(5,.box (Zaf.c d))]⟩:=by
 intro g;induction g with
 |zero=>
  intro e d r b;simp[ZbO]at b
 |succ g j=>
  intro e d r b;unfold ZbO at b;obtain⟨i,b⟩|⟨i,b⟩:=Zae b
  .obtain⟨o,b⟩:=Zap b;obtain⟨p,b⟩|⟨p,b⟩:=Zae b
   .obtain⟨u,v,b⟩:=Zad b
    let R3:List RA:=[rz,⟨[(14,aB u)],[(6,true)],[],[],[],[],[]⟩,rz]
    have O4:=(lV i o p o (Zle _ _ _ v));obtain⟨t,b⟩|⟨t,b⟩:=Zae b
    .apply Ya b 13 R3 [true,true] (l8 O4 t)
    .exact Ye 15 R3 [true,false] (lI [0,1,5,7] [5]) (l8 O4 t) (j (Zan e 1) d r b)
   .exact Ye 15 [rz,rB [(6,false)],rz] [true,false] (lI [0,1,5,7] [5]) (lU i o p (mo false)) (j (Zan e 1) d r b)
  .exact Ye 10 [rz,rz] [false] (lI [1,5,8] [5]) (lR i) (ZnK S0 w0 h f e d (ZbO h f g) j (((f.length:Int)-(0:Int)).toNat+2) (0:Int) r b)
def ZgK(b:List Zaa)(e:List Zab)(d:Zaf):Option Bool:=(Zbv d).bind fun f=>bif(!f)then some false else ZbO b e (((b.length:Int)-(0:Int)).toNat+2) (0:Int) d
theorem ZpR(d:List Zaa)(e:List Zab)(f:Zaf)(r:Bool)(b:ZgK d e f=some r):Yo 290 [Ym d,Yn e,.agg (Zaf.c f)] (Yk r):=by
 refine Yu Tryz.func290 fun S0 w0=>?_;unfold ZgK at b;obtain⟨h,i,b⟩:=Zad b;obtain⟨g,b⟩|⟨g,b⟩:=Zae b
 .apply Ya b 8 [rz,rA [(1,aB h)],rz] [true] (lS (ZaT _ _ i) g)
 .exact Ye 11 [rz,rA [(1,aB h)],rz] [false] (lI [0,1,5,7] [5]) (lS (ZaT _ _ i) g) (ZnL S0 w0 d e (((d.length:Int)-(0:Int)).toNat+2) (0:Int) f r b)
def Zhm(f:List Zab)(d:List Zaa)(g:List Zac)(b:Zab)(e:Int):Option Bool:=(ZdR b).bind fun h=>bif h then(Zhq b e).bind fun i=>bif i then(Zdj g b.fEnd.fAddr e).bind fun j=>bif(j==(0:Int))then(Zbi d b.fEnd).bind fun n=>bif(decide (n<(0:Int)))then(ZgK d f b.fEnd.fAddr).bind fun o=>some o else some false else some false else some false else some false
theorem Zqw(o:List Zab)(p:List Zaa)(t:List Zac)(u:Zab)(v:Int)(r:Bool)(b:Zhm o p t u v=some r):Yo 211 [Yn o,Ym p,Yl t,.agg (Zab.c u),Yj v] (Yk r):=by
 refine Yu Tryz.func211 fun S0 w0=>?_;unfold Zhm at b;obtain⟨d,y,b⟩:=Zad b;obtain⟨f,b⟩|⟨f,b⟩:=Zae b
 .obtain⟨e,A,b⟩:=Zad b;have O1:=(lT (ZeJ _ _ y) f (ZqA _ _ _ A));obtain⟨g,b⟩|⟨g,b⟩:=Zae b
  .obtain⟨h,B,b⟩:=Zad b;have O2:=(l9 O1 g (ZeL _ _ _ _ B));obtain⟨i,b⟩|⟨i,b⟩:=Zae b
   .obtain⟨z,C,b⟩:=Zad b;have O3:=(l9 O2 i (ZaW _ _ _ C));obtain⟨j,b⟩|⟨j,b⟩:=Zae b
    .obtain⟨D,E,b⟩:=Zad b;apply Ya b 4 [rz,⟨[(1,aB d),(5,aB e),(13,aI h),(20,aI z),(29,aB D)],[(2,true),(7,true),(16,true),(23,true)],[],[],[],[],[]⟩] [] (l9 O3 j (ZpR _ _ _ _ E))
    .apply Ya b 4 [rz,⟨[(1,aB d),(5,aB e),(13,aI h),(20,aI z)],[(2,true),(7,true),(16,true),(23,false)],[],[],[],[],[]⟩] [] (l8 O3 j)
   .apply Ya b 4 [rz,⟨[(1,aB d),(5,aB e),(13,aI h)],[(2,true),(7,true),(16,false)],[],[],[],[],[]⟩] [] (l8 O2 i)
  .apply Ya b 4 [rz,⟨[(1,aB d),(5,aB e)],[(2,true),(7,false)],[],[],[],[],[]⟩] [] (l8 O1 g)
 .apply Ya b 4 [rz,⟨[(1,aB d)],[(2,false)],[],[],[],[],[]⟩] [] (lS (ZeJ _ _ y) f)
def Zbn(f:List Zab)(g:List Zaa)(h:List Zac)(i:Int):Nat->Int->Int->Zai->Option (Zai×Bool)|0,_,_,_=>none|fu+1,e,b,j=>bif(decide (b<(f.length:Int)))then need (0<=b/\b<(f.length:Int))<|(Zhm f g h (f.getD b.toNat Zab.d) i).bind fun n=>bif(!n)then Zbn f g h i fu e (Zan b 1) j else bif(decide (e<(0:Int)))then Zbn f g h i fu b (Zan b 1) j else need (0<=e/\e<(f.length:Int))<|bif(decide ((f.getD b.toNat Zab.d).fNext<(f.getD e.toNat Zab.d).fNext))then Zbn f g h i fu b (Zan b 1) j else bif((f.getD b.toNat Zab.d).fNext==(f.getD e.toNat Zab.d).fNext)then(Zcn ((f.getD b.toNat Zab.d).fEnd) ((f.getD e.toNat Zab.d).fEnd)).bind fun o=>bif(decide (o<(0:Int)))then Zbn f g h i fu b (Zan b 1) j else Zbn f g h i fu e (Zan b 1) j else Zbn f g h i fu e (Zan b 1) j else bif(decide (e<(0:Int)))then some ((Zai.mk (Zaf.mk false 0 0) 0),false)else need (0<=e/\e<(f.length:Int))<|some ((f.getD e.toNat Zab.d).fEnd,true)
theorem ZnJ(C:List Zab)(D:List Zaa)(E:List Zac)(F:Int):∀(t:Nat)(e d:Int)(f:Zai)(r:(Zai×Bool)),Zbn C D E F t e d f=some r->Yq 79 S0 w0 Tryz.f133 (.tup [(true,Zai.c r.1),(false,cB r.2)]) [1,1,0,1,0] ⟨[(0,(Yn C)),(1,(Ym D)),(2,(Yl E)),(3,(Yj F)),(8,.one (.ptr 8 0)),(10,(Yj e)),(11,(Yj d))],[(8,.box (Zai.c f))]⟩:=by
 intro t;induction t with
 |zero=>
  intro e d f r b;simp[Zbn]at b
 |succ t i=>
  intro e d f r b;unfold Zbn at b;obtain⟨u,b⟩|⟨u,b⟩:=Zae b
  .obtain⟨j,b⟩:=Zap b;obtain⟨o,G,b⟩:=Zad b;have O1:=(lT u j (Zqw _ _ _ _ _ _ G));obtain⟨p,b⟩|⟨p,b⟩:=Zae b
   .exact Ye 15 [rz,rA [(8,aB o)],rz] [true,true] (lI [0,1,2,3,8,10,11] [8]) (l8 O1 p) (i e (Zan d 1) f r b)
   .obtain⟨v,b⟩|⟨v,b⟩:=Zae b
    .exact Ye 20 [rz,rA [(8,aB o)],rB [(2,true)],rz,rz] [true,false,true] (lI [0,1,2,3,8,10,11] [8]) (ma O1 p v (mo true)) (i d (Zan d 1) f r b)
    .obtain⟨y,b⟩:=Zap b;obtain⟨z,b⟩|⟨z,b⟩:=Zae b
     .exact Ye 20 [rz,rA [(8,aB o)],rB [(2,false),(15,true)],rz,rz] [true,false,true] (lI [0,1,2,3,8,10,11] [8]) (me O1 p v j y z (mo true)) (i d (Zan d 1) f r b)
     .have O2:=(mf O1 p v j y z j y);obtain⟨A,b⟩|⟨A,b⟩:=Zae b
      .obtain⟨H,I,b⟩:=Zad b
       let R3:List RA:=[rz,rA [(8,aB o)],⟨[(38,aI H)],[(2,false),(15,false),(27,true)],[],[],[],[],[]⟩,rz]
       have O4:=(mc O2 A j y (Zeh _ _ _ I));obtain⟨g,b⟩|⟨g,b⟩:=Zae b
       .exact Ye 20 (R3++[rz]) [true,false,true] (lI [0,1,2,3,8,10,11] [8]) (l8 O4 g) (i d (Zan d 1) f r b)
       .exact Ye 20 R3 [true,false,false] (lI [0,1,2,3,8,10,11] [8]) (l8 O4 g) (i e (Zan d 1) f r b)
      .exact Ye 20 [rz,rA [(8,aB o)],rB [(2,false),(15,false),(27,false)],rz] [true,false,false] (lI [0,1,2,3,8,10,11] [8]) (l9 O2 A (mo false)) (i e (Zan d 1) f r b)
  .obtain⟨h,b⟩|⟨h,b⟩:=Zae b
   .apply Ya b 12 [rz,rz,rz] [false,true] (lS u h)
   .obtain⟨B,b⟩:=Zap b;apply Ya b 13 [rz,rz,rz] [false,false] (lT u h B)
def Zfy(b:List Zab)(d:List Zaa)(e:List Zac)(f:Int):Option (Zai×Bool):=Zbn b d e f (((b.length:Int)-(0:Int)).toNat+2) (-1:Int) (0:Int) (Zai.mk (Zaf.mk false 0 0) 0)
theorem ZpQ(b:List Zab)(d:List Zaa)(e:List Zac)(f:Int)(r:(Zai×Bool))(g:Zfy b d e f=some r):Yo 133 [Yn b,Ym d,Yl e,Yj f] (.tup [(true,Zai.c r.1),(false,cB r.2)]):=by
 refine Yu Tryz.func133 fun S0 w0=>?_;unfold Zfy at g;exact Ye 8 [rz,rz,rz] [] (lI [0,1,2,3,8,10,11] [8]) .n (ZnJ S0 w0 b d e f (((b.length:Int)-(0:Int)).toNat+2) (-1:Int) (0:Int) Zai.d r g)
def Zbm(e:List Zab)(f:Int):Nat->Int->Bool->Int->Option Int|0,_,_,_=>none|fu+1,g,h,b=>bif(decide (b<(e.length:Int)))then need (0<=b/\b<(e.length:Int))<|(ZdR (e.getD b.toNat Zab.d)).bind fun i=>bif i then bif((e.getD b.toNat Zab.d).fState==(1:Int))then bif(decide ((e.getD b.toNat Zab.d).fNext>f))then bif(!h)then Zbm e f fu ((e.getD b.toNat Zab.d).fNext) true (Zan b 1)else bif(decide ((e.getD b.toNat Zab.d).fNext<g))then Zbm e f fu ((e.getD b.toNat Zab.d).fNext) true (Zan b 1)else Zbm e f fu g h (Zan b 1)else Zbm e f fu g h (Zan b 1)else Zbm e f fu g h (Zan b 1)else Zbm e f fu g h (Zan b 1)else some g
theorem ZnI(t:List Zab)(A:Int):∀(u:Nat)(f:Int)(g:Bool)(e r:Int),Zbm t A u f g e=some r->Yq 45 S0 w0 Tryz.f134 (Yj r) [1,1,1,0,1,0] ⟨[(0,(Yn t)),(1,(Yj A)),(5,(Yj f)),(6,(Yk g)),(7,(Yj e))],[]⟩:=by
 intro u;induction u with
 |zero=>
  intro f g e r b;simp[Zbm]at b
 |succ u i=>
  intro f g e r b;unfold Zbm at b;obtain⟨y,b⟩|⟨y,b⟩:=Zae b
  .obtain⟨B,b⟩:=Zap b;obtain⟨o,C,b⟩:=Zad b;have O1:=(lT y B (ZeJ _ _ C));obtain⟨h,b⟩|⟨h,b⟩:=Zae b
   .obtain⟨j,b⟩|⟨j,b⟩:=Zae b
    .obtain⟨p,b⟩|⟨p,b⟩:=Zae b
     .obtain⟨v,b⟩|⟨v,b⟩:=Zae b
      .exact Ye 19 [rz,rz,⟨[(1,aB o)],[(2,true),(7,true),(13,true),(16,true)],[],[],[],[],[]⟩,rz,rz,rz] [true,true] (Yi [0,1,5,6,7]) (md O1 h j p v (mo true)) (i ((t.getD e.toNat Zab.d).fNext) true (Zan e 1) r b)
      .let R2:List RA:=[rz,rz,⟨[(1,aB o)],[(2,true),(7,true),(13,true),(16,false)],[],[],[],[],[]⟩,rz]
       obtain⟨z,b⟩|⟨z,b⟩:=Zae b
       .exact Ye 19 (R2++[rz,rz]) [true,true] (Yi [0,1,5,6,7]) (md O1 h j p v z) (i ((t.getD e.toNat Zab.d).fNext) true (Zan e 1) r b)
       .exact Ye 17 R2 [true,false] (Yi [0,1,5,6,7]) (md O1 h j p v z) (i f g (Zan e 1) r b)
     .exact Ye 17 [rz,rz,⟨[(1,aB o)],[(2,true),(7,true),(13,false)],[],[],[],[],[]⟩,rz] [true,false] (Yi [0,1,5,6,7]) (mc O1 h j p (mo false)) (i f g (Zan e 1) r b)
    .exact Ye 17 [rz,rz,⟨[(1,aB o)],[(2,true),(7,false)],[],[],[],[],[]⟩,rz] [true,false] (Yi [0,1,5,6,7]) (ma O1 h j (mo false)) (i f g (Zan e 1) r b)
   .exact Ye 17 [rz,rz,⟨[(1,aB o)],[(2,false)],[],[],[],[],[]⟩,rz] [true,false] (Yi [0,1,5,6,7]) (l9 O1 h (mo false)) (i f g (Zan e 1) r b)
  .apply Ya b 8 [rz,rz] [false] (lR y)
def Zfx(b:List Zab)(d:Int):Option Int:=Zbm b d (((b.length:Int)-(0:Int)).toNat+2) (0:Int) false (0:Int)
theorem ZpP(b:List Zab)(d r:Int)(e:Zfx b d=some r):Yo 134 [Yn b,Yj d] (Yj r):=by
 refine Yu Tryz.func134 fun S0 w0=>?_;unfold Zfx at e;exact Ye 10 [rz,rz,rz,rz] [] (Yi [0,1,5,6,7]) .n (ZnI S0 w0 b d (((b.length:Int)-(0:Int)).toNat+2) (0:Int) false (0:Int) r e)
def ZcL(e:List Zab):Nat->Int->Zai->Option Int|0,_,_=>none|fu+1,b,f=>bif(decide (b<(e.length:Int)))then need (0<=b/\b<(e.length:Int))<|bif(decide ((e.getD b.toNat Zab.d).fEnd=f))then some b else ZcL e fu (Zan b 1) f else some (-1:Int)
theorem ZnM(g:List Zab):∀(h:Nat)(f:Int)(e:Zai)(r:Int),ZcL g h f e=some r->Yq 20 S0 w0 Tryz.f59 (Yj r) [1,0,1,0] ⟨[(0,(Yn g)),(3,.one (.ptr 3 0)),(5,(Yj f))],[(3,.box (Zai.c e))]⟩:=by
 intro h;induction h with
 |zero=>
  intro f e r b;simp[ZcL]at b
 |succ h o=>
  intro f e r b;unfold ZcL at b;obtain⟨i,b⟩|⟨i,b⟩:=Zae b
  .obtain⟨p,b⟩:=Zap b
   let R1:List RA:=[rz,rA [(6,aB (decide ((g.getD f.toNat Zab.d).fEnd=e)))],rz]
   have O2:=(lT i p (ZkU ((g.getD f.toNat Zab.d).fEnd) e (.tmp 16) (.tmp 17)));obtain⟨j,b⟩|⟨j,b⟩:=Zae b
   .apply Ya b 13 R1 [true,true] (l8 O2 j)
   .exact Ye 15 R1 [true,false] (lI [0,3,5] [3]) (l8 O2 j) (o (Zan f 1) e r b)
  .apply Ya b 8 [rz,rz] [false] (lR i)
def Zdx(b:List Zab)(d:Zai):Option Int:=ZcL b (((b.length:Int)-(0:Int)).toNat+2) (0:Int) d
theorem Zea(b:List Zab)(d:Zai)(r:Int)(e:Zdx b d=some r):Yo 59 [Yn b,.agg (Zai.c d)] (Yj r):=by
 refine Yu Tryz.func59 fun S0 w0=>?_;unfold Zdx at e;exact Ye 6 [rz,rz] [] (lI [0,3,5] [3]) .n (ZnM S0 w0 b (((b.length:Int)-(0:Int)).toNat+2) (0:Int) d r e)
def ZeT(b:Zab)(d:Int):Option Zab:=some (Zab.mk b.fEnd d b.fFails b.fNext)
theorem ZkI(b:Zab)(d:Int)(r:Zab)(e:ZeT b d=some r):Yo 136 [.agg (Zab.c b),Yj d] (.agg (Zab.c r)):=by
 refine Yu Tryz.func136 fun S0 w0=>?_;unfold ZeT at e;apply Ya e 6 [rz,rz,rz] [] .n
def Zdq(b:List Zab)(e:Zab):Option (List Zab):=(Zdx b e.fEnd).bind fun d=>bif(decide (d<(0:Int)))then some b else need ((([]:List Zab)++b).length * 56<=140737488355328/\(([]:List Zab)++b).length<=maxLen)<|need (0<=d/\d<(((([]:List Zab)++b).length:Nat):Int))<|some ((([]:List Zab)++b).set d.toNat e)
theorem ZfN(b:List Zab)(h:Zab)(r:List Zab)(f:Zdq b h=some r):Yo 135 [Yn b,.agg (Zab.c h)] (Yn r):=by
 refine Yu Tryz.func135 fun S0 w0=>?_;unfold Zdq at f;obtain⟨g,p,f⟩:=Zad f;obtain⟨o,f⟩|⟨o,f⟩:=Zae f
 .apply Ya f 10 [rz,rA [(3,aI g)],rz,rz] [true] (lS (Zea _ _ _ p) o)
 .obtain⟨t,u,f⟩:=Ys f;apply Yb f 15 [rz,rA [(3,aI g)],rz,rA [(0,.c ([]:List Zab).length (Zal Zab.c Zab.d ([]:List Zab))),(2,.c ((([]:List Zab)++b).length) (Zal Zab.c Zab.d (([]:List Zab)++b)))],rA [(4,.c ((([]:List Zab)++b).set g.toNat h).length (Zal Zab.c Zab.d ((([]:List Zab)++b).set g.toNat h)))],rz] [false] [16] [] [] (.c (Zea _ _ _ p) (l5 o (show ([]:List Zab).length=0 from rfl) (mq (e:=Zab.c) Zab.d 7 (fun _=>rfl) ([]:List Zab)) (ZcO (sz:=7) (e:=Zab.c) (d:=Zab.d) ([]:List Zab) b) t.1 t.2 u (show ((([]:List Zab)++b).set g.toNat h).length=(([]:List Zab)++b).length from List.length_set) (ltOf u) (show ExtU 7 ((([]:List Zab)++b).length) (Zal Zab.c Zab.d (([]:List Zab)++b)) g.toNat 0 (Zab.c h) (Zal Zab.c Zab.d ((([]:List Zab)++b).set g.toNat h))from(Zlq _ _ _ rfl))))
def ZgI(h:Zav)(b:Zam)(g:Zar):Option (Zam×Zao):=(Zfl b).bind fun i=>bif(decide (i>=h.fMaxOut))then(Zbz (5:Int)).bind fun j=>some (b,j)else(Zfy b.fBook b.fPeers b.fBans g.fNow).bind fun e=>bif(!e.2)then(Zfx b.fBook g.fNow).bind fun n=>some (b,(Zao.mk 6 (Zai.mk (Zaf.mk false 0 0) 0) 0 n ([]:(List Zaa))))else(Zdx b.fBook e.1).bind fun f=>need (0<=f/\f<(b.fBook.length:Int))<|(ZeT (b.fBook.getD f.toNat Zab.d) (2:Int)).bind fun o=>(Zdq b.fBook o).bind fun p=>some ((Zam.mk b.fBans p b.fPeers),(Zao.mk 0 e.1 0 0 ([]:(List Zaa))))
theorem ZpM(h:Zav)(i:Zam)(j:Zar)(r:(Zam×Zao))(b:ZgI h i j=some r):Yo 66 [.agg (Zav.c h),.agg (Zam.c i),.agg (Zar.c j)] (.tup [(true,Zam.c r.1),(true,Zao.c r.2)]):=by
 refine Yu Tryz.func66 fun S0 w0=>?_;unfold ZgI at b;obtain⟨o,p,b⟩:=Zad b;obtain⟨e,b⟩|⟨e,b⟩:=Zae b
 .obtain⟨u,v,b⟩:=Zad b;apply Ya b 8 [rz,rA [(1,aI o)],rA [(1,aG (Zao.c u))]] [true] (lT (ZjQ _ _ p) e (Zbu _ _ v))
 .obtain⟨t,y,b⟩:=Zad b
  let R1:List RA:=[rz,rA [(1,aI o)],rA [(8,.r (.tup [(true,Zai.c t.1),(false,cB t.2)]) [])],rz]
  have O2:=(lT (ZjQ _ _ p) e (ZpQ _ _ _ _ _ y));obtain⟨f,b⟩|⟨f,b⟩:=Zae b
  .obtain⟨z,A,b⟩:=Zad b;apply Yb b 15 (R1++[rA [(5,aI z)]]) [false,true] [] [(7,[(7,cL 10 Zaa.c Zaa.d [])])] [] (l9 O2 f (ZpP _ _ _ A))
  .obtain⟨B,C,b⟩:=Zad b;obtain⟨D,b⟩:=Zap b;obtain⟨E,F,G,g,b⟩:=Yt b;apply Yb b 18 (R1++[rA [(7,aI B),(10,aG (Zab.c E)),(11,.r (Yn F) [])],rz]) [false,false] [] [(7,[(7,cL 10 Zaa.c Zaa.d [])])] [] (md O2 f (Zea _ _ _ C) D (ZkI _ _ _ G) (ZfN _ _ _ g))
def ZdZ(b d:Int):Option Int:=(Zbo b).bind fun e=>(Zbo d).bind fun f=>(Zbo (Zan e f)).bind fun g=>some g
theorem Zhs(d e r:Int)(b:ZdZ d e=some r):Yo 144 [Yj d,Yj e] (Yj r):=by
 refine Yu Tryz.func144 fun S0 w0=>?_;unfold ZdZ at b;obtain⟨f,g,h,i,b⟩:=Yt b;obtain⟨j,o,b⟩:=Zad b;apply Ya b 4 [rz,rA [(1,aI f),(3,aI g),(5,aI j)]] [] (lT (Zbc _ _ h) (Zbc _ _ i) (Zbc _ _ o))
def ZcG(e:Int):Nat->Int->Int->Option Int|0,_,_=>none|fu+1,b,d=>bif(decide (d<e))then bif(decide (d<(41:Int)))then(ZdZ b b).bind fun f=>ZcG e fu f (Zan d 1)else some b else some b
theorem Znr(i:Int):∀(e:Nat)(f d r:Int),ZcG i e f d=some r->Yq 21 S0 w0 Tryz.f338 (Yj r) [1,1,0,1,0] ⟨[(0,(Yj f)),(1,(Yj i)),(5,(Yj d))],[]⟩:=by
 intro e;induction e with
 |zero=>
  intro f d r b;simp[ZcG]at b
 |succ e o=>
  intro f d r b;unfold ZcG at b;obtain⟨g,b⟩|⟨g,b⟩:=Zae b
  .obtain⟨h,b⟩|⟨h,b⟩:=Zae b
   .obtain⟨j,p,b⟩:=Zad b;exact Ye 12 [rB [(3,true)],rA [(2,aI j)],rz] [true] (Yi [0,1,5]) (lT g h (Zhs _ _ _ p)) (o j (Zan d 1) r b)
   .apply Ya b 8 [rB [(3,true)],rz] [false] (lS g h)
  .apply Ya b 8 [rB [(3,false)],rz] [false] (lS g (mo false))
def Zgq(b d:Int):Option Int:=(Zbo b).bind fun e=>ZcG d (((41:Int)-(0:Int)).toNat+2) e (0:Int)
theorem Zpu(e d r:Int)(b:Zgq e d=some r):Yo 338 [Yj e,Yj d] (Yj r):=by
 refine Yu Tryz.func338 fun S0 w0=>?_;unfold Zgq at b;obtain⟨f,g,b⟩:=Zad b;exact Ye 8 [rz,rA [(1,aI f)],rz] [] (Yi [0,1,5]) (lR (Zbc _ _ g)) (Znr S0 w0 d (((41:Int)-(0:Int)).toNat+2) f (0:Int) r b)
def Zgm(b:Zav)(d:Int):Option Int:=bif(decide (d<(1:Int)))then some (0:Int)else(Zgq b.fBase (ZaJ d (1:Int))).bind fun e=>(Zbo b.fCap).bind fun f=>bif(decide (f<e))then some f else some e
theorem Zpo(g:Zav)(h r:Int)(b:Zgm g h=some r):Yo 291 [.agg (Zav.c g),Yj h] (Yj r):=by
 refine Yu Tryz.func291 fun S0 w0=>?_;unfold Zgm at b;obtain⟨d,b⟩|⟨d,b⟩:=Zae b
 .apply Ya b 8 [rz,rz,rz] [true] (lR d)
 .obtain⟨i,e,o,j,b⟩:=Yt b;have O1:=(lT d (Zpu _ _ _ o) (Zbc _ _ j));obtain⟨f,b⟩|⟨f,b⟩:=Zae b
  .apply Ya b 15 [rz,rz,rA [(4,aI i)],rA [(2,aI e)],rA [(2,aI e)]] [false,true] (l9 O1 f (Zbc _ _ j))
  .apply Ya b 16 [rz,rz,rA [(4,aI i)],rA [(2,aI e)],rz] [false,false] (l8 O1 f)
def ZfO(b:Zav)(d:Int):Option Int:=bif(decide (b.fJitter<(1:Int)))then some (0:Int)else need (b.fJitter≠0)<|bif(decide ((Int.tmod d b.fJitter)<(0:Int)))then some (Zan (Int.tmod d b.fJitter) b.fJitter)else some (Int.tmod d b.fJitter)
theorem Zoy(f:Zav)(g r:Int)(b:ZfO f g=some r):Yo 292 [.agg (Zav.c f),Yj g] (Yj r):=by
 refine Yu Tryz.func292 fun S0 w0=>?_;unfold ZfO at b;obtain⟨d,b⟩|⟨d,b⟩:=Zae b
 .apply Ya b 8 [rz,rz,rz] [true] (lR d)
 .obtain⟨h,b⟩:=Zap b;obtain⟨e,b⟩|⟨e,b⟩:=Zae b
  .apply Ya b 16 [rz,rz,rz,rz,rz,rz] [false,true] (lT d h e)
  .apply Ya b 16 [rz,rz,rz,rz,rz] [false,false] (lT d h e)
def Zep(b:Zav)(d e f:Int):Option Int:=(Zgm b d).bind fun g=>(ZdZ e g).bind fun h=>(ZfO b f).bind fun i=>(ZdZ h i).bind fun j=>some j
theorem Zld(d:Zav)(e f g r:Int)(b:Zep d e f g=some r):Yo 212 [.agg (Zav.c d),Yj e,Yj f,Yj g] (Yj r):=by
 refine Yu Tryz.func212 fun S0 w0=>?_;unfold Zep at b;obtain⟨h,i,j,o,b⟩:=Yt b;obtain⟨p,t,u,v,b⟩:=Yt b;apply Ya b 4 [rz,rA [(3,aI h),(4,aI i),(7,aI p),(8,aI t)]] [] (lU (Zpo _ _ _ j) (Zhs _ _ _ o) (Zoy _ _ _ u) (Zhs _ _ _ v))
def Zeb(d e f:Int)(g:Zav)(b j:Zab):Option Zab:=bif(decide (b.fFails>=(1000:Int)))then(Zep g (1000:Int) d e).bind fun h=>some (Zab.mk b.fEnd 1 1000 h)else(Zep g f d e).bind fun i=>some (Zab.mk b.fEnd 1 f i)
theorem Zhx(h i j:Int)(b:Zav)(e f r:Zab)(d:Zeb h i j b e f=some r):Yq 33 S0 w0 Tryz.f137 (.agg (Zab.c r)) [1,1,1] ⟨[(2,(Yj h)),(3,(Yj i)),(4,.one (.ptr 4 0)),(5,.one (.ptr 5 0)),(8,.one (.ptr 8 0)),(9,(Yj j))],[(4,.box (Zav.c b)),(5,.box (Zab.c e)),(8,.box (Zab.c f))]⟩:=by
 unfold Zeb at d;obtain⟨g,d⟩|⟨g,d⟩:=Zae d
 .obtain⟨o,p,d⟩:=Zad d;apply Ya d 7 [rz,rz,rA [(7,aI o)]] [true] (lS g (Zld _ _ _ _ _ p))
 .obtain⟨t,u,d⟩:=Zad d;apply Ya d 7 [rz,rA [(7,aI t)]] [false] (lS g (Zld _ _ _ _ _ u))
def Zdz(d:Zav)(b:Zab)(e f:Int):Option Zab:=bif(decide (b.fFails>(0:Int)))then bif(decide (b.fFails<(1000:Int)))then Zeb e f (Zan b.fFails (1:Int)) d b (Zab.mk (Zai.mk (Zaf.mk false 0 0) 0) 0 0 0)else Zeb e f (1:Int) d b (Zab.mk (Zai.mk (Zaf.mk false 0 0) 0) 0 0 0)else Zeb e f (1:Int) d b (Zab.mk (Zai.mk (Zaf.mk false 0 0) 0) 0 0 0)
theorem Zlc(e:Zav)(d:Zab)(f g:Int)(r:Zab)(b:Zdz e d f g=some r):Yo 137 [.agg (Zav.c e),.agg (Zab.c d),Yj f,Yj g] (.agg (Zab.c r)):=by
 refine Yu Tryz.func137 fun S0 w0=>?_;unfold Zdz at b;obtain⟨h,b⟩|⟨h,b⟩:=Zae b
 .obtain⟨i,b⟩|⟨i,b⟩:=Zae b
  .exact Ye 9 [rz,rz,rB [(3,true)],rz] [true] (lI [2,3,4,5,8,9] [4,5,8]) (lS h i) (Zhx S0 w0 f g (Zan d.fFails (1:Int)) e d Zab.d r b)
  .exact Ye 9 [rz,rz,rB [(3,true)]] [false] (lI [2,3,4,5,8,9] [4,5,8]) (lS h i) (Zhx S0 w0 f g (1:Int) e d Zab.d r b)
 .exact Ye 9 [rz,rz,rB [(3,false)]] [false] (lI [2,3,4,5,8,9] [4,5,8]) (lS h (mo false)) (Zhx S0 w0 f g (1:Int) e d Zab.d r b)
def Zin(b:Zab):Option Zab:=some (Zab.mk b.fEnd 3 0 b.fNext)
theorem ZpS(b r:Zab)(d:Zin b=some r):Yo 138 [.agg (Zab.c b)] (.agg (Zab.c r)):=by
 refine Yu Tryz.func138 fun S0 w0=>?_;unfold Zin at d;apply Ya d 4 [rz,rz] [] .n
def ZfL(u:Zav)(b:Zam)(e:Zar):Option (Zam×Zao):=(Zdx b.fBook e.fEnd).bind fun f=>bif(decide (f<(0:Int)))then(Zbz (6:Int)).bind fun z=>some (b,z)else need (0<=f/\f<(b.fBook.length:Int))<|bif((b.fBook.getD f.toNat Zab.d).fState != (2:Int))then(Zbz (6:Int)).bind fun A=>some (b,A)else(Zdj b.fBans e.fEnd.fAddr e.fNow).bind fun B=>bif(!e.fGood)then(Zdz u (b.fBook.getD f.toNat Zab.d) e.fNow e.fNum).bind fun g=>(Zdq b.fBook g).bind fun v=>bif e.fGood then some ((Zam.mk b.fBans v b.fPeers),(Zao.mk 8 (Zai.mk (Zaf.mk false 0 0) 0) g.fFails g.fNext ([]:(List Zaa))))else some ((Zam.mk b.fBans v b.fPeers),(Zao.mk 0 (Zai.mk (Zaf.mk false 0 0) 0) g.fFails g.fNext ([]:(List Zaa))))else bif(decide (B>(0:Int)))then(Zdz u (b.fBook.getD f.toNat Zab.d) e.fNow e.fNum).bind fun h=>(Zdq b.fBook h).bind fun y=>bif e.fGood then some ((Zam.mk b.fBans y b.fPeers),(Zao.mk 8 (Zai.mk (Zaf.mk false 0 0) 0) h.fFails h.fNext ([]:(List Zaa))))else some ((Zam.mk b.fBans y b.fPeers),(Zao.mk 0 (Zai.mk (Zaf.mk false 0 0) 0) h.fFails h.fNext ([]:(List Zaa))))else(Zbi b.fPeers e.fEnd).bind fun C=>bif(decide (C>=(0:Int)))then(ZeT (b.fBook.getD f.toNat Zab.d) (1:Int)).bind fun i=>(Zdq b.fBook i).bind fun j=>(Zbz (7:Int)).bind fun n=>some ((Zam.mk b.fBans j b.fPeers),n)else(Zin (b.fBook.getD f.toNat Zab.d)).bind fun o=>(Zdq b.fBook o).bind fun p=>(ZdX e.fEnd false e.fNow).bind fun r=>(Zdp b.fPeers r).bind fun t=>some ((Zam.mk b.fBans p t),(Zao.mk 0 (Zai.mk (Zaf.mk false 0 0) 0) 0 0 ([]:(List Zaa))))
theorem Zot(R:Zav)(U:Zam)(V:Zar)(r:(Zam×Zao))(b:ZfL R U V=some r):Yo 67 [.agg (Zav.c R),.agg (Zam.c U),.agg (Zar.c V)] (.tup [(true,Zam.c r.1),(true,Zao.c r.2)]):=by
 refine Yu Tryz.func67 fun S0 w0=>?_;unfold ZfL at b;obtain⟨j,W,b⟩:=Zad b;obtain⟨o,b⟩|⟨o,b⟩:=Zae b
 .obtain⟨x2,q3,b⟩:=Zad b;apply Ya b 10 [rz,rA [(4,aI j)],rB [(2,true)],rA [(1,aG (Zao.c x2))]] [true] (lU (Zea _ _ _ W) o (mo true) (Zbu _ _ q3))
 .obtain⟨Z,b⟩:=Zap b;have O1:=(lT (Zea _ _ _ W) o Z);obtain⟨p,b⟩|⟨p,b⟩:=Zae b
  .obtain⟨x3,q6,b⟩:=Zad b;apply Ya b 10 [rz,rA [(4,aI j)],rB [(2,false)],rA [(1,aG (Zao.c x3))]] [true] (l9 O1 p (Zbu _ _ q6))
  .obtain⟨x4,q7,b⟩:=Zad b
   let R2:List RA:=[rz,rA [(4,aI j)],rB [(2,false)],rz,rA [(7,aI x4)]]
   have O3:=(ma O1 p Z (ZeL _ _ _ _ q7));obtain⟨i,b⟩|⟨i,b⟩:=Zae b
   .obtain⟨x5,q9,b⟩:=Zad b;obtain⟨x6,t,b⟩:=Zad b
    let R4:List RA:=(R2++[rB [(3,true)],rA [(6,aG (Zab.c x5))],rA [(3,.r (Yn x6) [])],rz,rz,rz])
    have O5:=(mc O3 i (mo true) (Zlc _ _ _ _ _ q9) (ZfN _ _ _ t));obtain⟨e,b⟩|⟨e,b⟩:=Zae b
    .apply Yb b 30 (R4++[rz]) [false,true,true] [] [(7,[(7,cL 10 Zaa.c Zaa.d [])])] [] (l8 O5 e)
    .apply Yb b 30 R4 [false,true,false] [] [(7,[(7,cL 10 Zaa.c Zaa.d [])])] [] (l8 O5 e)
   .obtain⟨f,b⟩|⟨f,b⟩:=Zae b
    .obtain⟨x7,u,b⟩:=Zad b;obtain⟨x8,v,b⟩:=Zad b
     let R6:List RA:=(R2++[rB [(3,false)],rA [(6,aG (Zab.c x7))],rA [(3,.r (Yn x8) [])],rz,rz,rz])
     have O7:=(mc O3 i f (Zlc _ _ _ _ _ u) (ZfN _ _ _ v));obtain⟨g,b⟩|⟨g,b⟩:=Zae b
     .apply Yb b 30 (R6++[rz]) [false,true,true] [] [(7,[(7,cL 10 Zaa.c Zaa.d [])])] [] (l8 O7 g)
     .apply Yb b 30 R6 [false,true,false] [] [(7,[(7,cL 10 Zaa.c Zaa.d [])])] [] (l8 O7 g)
    .obtain⟨x9,y,b⟩:=Zad b;have O8:=(ma O3 i f (ZaW _ _ _ y));obtain⟨h,b⟩|⟨h,b⟩:=Zae b
     .obtain⟨z,A,B,C,b⟩:=Yt b;obtain⟨D,E,b⟩:=Zad b;apply Ya b 26 (R2++[rB [(3,false)],rA [(4,aI x9)],rA [(3,aG (Zab.c z)),(4,.r (Yn A) [])],rA [(1,aG (Zao.c D))]]) [false,false,true] (mc O8 h (ZkI _ _ _ B) (ZfN _ _ _ C) (Zbu _ _ E))
     .obtain⟨F,G,H,I,b⟩:=Yt b;obtain⟨J,L,M,O,b⟩:=Yt b;apply Yb b 29 (R2++[rB [(3,false)],rA [(4,aI x9)],rA [(3,aG (Zab.c F)),(4,.r (Yn G) [])],rA [(6,aG (Zaa.c J)),(7,.r (Ym L) [])],rz]) [false,false,false] [] [(7,[(7,cL 10 Zaa.c Zaa.d [])])] [] (md O8 h (ZpS _ _ H) (ZfN _ _ _ I) (ZlM _ _ _ _ M) (Zjd _ _ _ O))
def Zec(b:Int):Option Int:=bif(b==(1:Int))then some (1:Int)else bif(b==(2:Int))then some (10:Int)else bif(b==(3:Int))then some (20:Int)else bif(b==(4:Int))then some (50:Int)else bif(b==(5:Int))then some (100:Int)else some (0:Int)
theorem ZnU(i r:Int)(b:Zec i=some r):Yo 140 [Yj i] (Yj r):=by
 refine Yu Tryz.func140 fun S0 w0=>?_;unfold Zec at b;obtain⟨d,b⟩|⟨d,b⟩:=Zae b
 .apply Ya b 11 [rz,rz,rz,rz] [true] (lR d)
 .obtain⟨e,b⟩|⟨e,b⟩:=Zae b
  .apply Ya b 14 [rz,rz,rz,rz,rz] [false,true] (lS d e)
  .obtain⟨f,b⟩|⟨f,b⟩:=Zae b
   .apply Ya b 17 [rz,rz,rz,rz,rz,rz] [false,false,true] (lT d e f)
   .obtain⟨g,b⟩|⟨g,b⟩:=Zae b
    .apply Ya b 20 [rz,rz,rz,rz,rz,rz,rz] [false,false,false,true] (lU d e f g)
    .obtain⟨h,b⟩|⟨h,b⟩:=Zae b
     .apply Ya b 23 [rz,rz,rz,rz,rz,rz,rz,rz] [false,false,false,false,true] (lV d e f g h)
     .apply Ya b 25 [rz,rz,rz,rz,rz,rz,rz,rz] [false,false,false,false,false] (lV d e f g h)
def ZcC(d:Int)(f:Zaw):Nat->Int->Zaw->Option Zaw|0,_,_=>none|fu+1,e,b=>bif(decide (b.fPoints>(0:Int)))then bif(decide ((ZaJ e b.fAt)>=d))then ZcC d f fu e (Zaw.mk (IntKind.wrap .i64 (Int.tdiv b.fPoints (2:Int))) (Zan b.fAt d))else bif(decide ((ZaJ e b.fAt)>=d))then need (d≠0)<|some (Zaw.mk b.fPoints (ZaJ e (Int.tmod (ZaJ e b.fAt) d)))else some b else bif(decide ((ZaJ e b.fAt)>=d))then need (d≠0)<|some (Zaw.mk b.fPoints (ZaJ e (Int.tmod (ZaJ e b.fAt) d)))else some b
theorem Znm(j:Int)(o:Zaw):∀(h:Nat)(g:Int)(d r:Zaw),ZcC j o h g d=some r->Yq 57 S0 w0 Tryz.f293 (.agg (Zaw.c r)) [1,1,1,1,1,1,0,0] ⟨[(1,(Yj j)),(2,(Yj g)),(3,.one (.ptr 3 0)),(6,.one (.ptr 6 0))],[(3,.box (Zaw.c d)),(6,.box (Zaw.c o))]⟩:=by
 intro h;induction h with
 |zero=>
  intro g d r b;simp[ZcC]at b
 |succ h u=>
  intro g d r b;unfold ZcC at b;obtain⟨f,b⟩|⟨f,b⟩:=Zae b
  .obtain⟨i,b⟩|⟨i,b⟩:=Zae b
   .exact Ye 12 [rB [(3,true)],rz,rz] [true] (lI [1,2,3,6] [3,6]) (lT f i (show (2:Int)≠0 from(by decide))) (u g (Zaw.mk (IntKind.wrap .i64 (Int.tdiv d.fPoints (2:Int))) (Zan d.fAt j)) r b)
   .obtain⟨p,b⟩|⟨p,b⟩:=Zae b
    .obtain⟨v,b⟩:=Zap b;apply Ya b 13 [rB [(3,true)],rz,rz,rz] [false,true] (lU f i p v)
    .apply Ya b 13 [rB [(3,true)],rz,rz] [false,false] (lT f i p)
  .obtain⟨e,b⟩|⟨e,b⟩:=Zae b
   .obtain⟨t,b⟩:=Zap b;apply Ya b 13 [rB [(3,false)],rz,rz,rz] [false,true] (lU f (mo false) e t)
   .apply Ya b 13 [rB [(3,false)],rz,rz] [false,false] (lT f (mo false) e)
def ZdN(d:Int)(b e:Zaw)(f:Int):Option Zaw:=(Zbo b.fAt).bind fun g=>(Zbo d).bind fun h=>(Zbo b.fPoints).bind fun i=>ZcC f e 1000000 h (Zaw.mk i g)
theorem Zjx(g:Int)(e d:Zaw)(f:Int)(r:Zaw)(b:ZdN g e d f=some r):Yq 57 S0 w0 Tryz.f293 (.agg (Zaw.c r)) [1,1,1] ⟨[(1,(Yj f)),(2,(Yj g)),(3,.one (.ptr 3 0)),(6,.one (.ptr 6 0))],[(3,.box (Zaw.c e)),(6,.box (Zaw.c d))]⟩:=by
 unfold ZdN at b;obtain⟨h,i,o,p,b⟩:=Yt b;obtain⟨j,t,b⟩:=Zad b;exact Ye 8 [rA [(2,aI h)],rA [(1,aI i)],rA [(2,aI j)]] [] (lI [1,2,3,6] [3,6]) (lT (Zbc _ _ o) (Zbc _ _ p) (Zbc _ _ t)) (Znm S0 w0 f d 1000000 i (Zaw.mk j h) r b)
def ZeK(b d:Int)(e f:Zaw):Option Zaw:=bif(decide (d>(1073741824:Int)))then ZdN b e f (1073741824:Int)else ZdN b e f d
theorem Zjy(f g:Int)(d e r:Zaw)(b:ZeK f g d e=some r):Yq 57 S0 w0 Tryz.f293 (.agg (Zaw.c r)) [1,1] ⟨[(1,(Yj g)),(2,(Yj f)),(3,.one (.ptr 3 0)),(6,.one (.ptr 6 0))],[(3,.box (Zaw.c d)),(6,.box (Zaw.c e))]⟩:=by
 unfold ZeK at b;obtain⟨h,b⟩|⟨h,b⟩:=Zae b
 .exact Ye 5 [rz,rz] [true] (lI [1,2,3,6] [3,6]) (lR h) (Zjx S0 w0 f d e (1073741824:Int) r b)
 .exact Ye 5 [rz] [false] (lI [1,2,3,6] [3,6]) (lR h) (Zjx S0 w0 f d e g r b)
def Zgn(b:Zaw)(d e:Int):Option Zaw:=bif(decide (d<(1:Int)))then ZeK e (1:Int) b (Zaw.mk 0 0)else ZeK e d b (Zaw.mk 0 0)
theorem Zpr(d:Zaw)(f e:Int)(r:Zaw)(b:Zgn d f e=some r):Yo 293 [.agg (Zaw.c d),Yj f,Yj e] (.agg (Zaw.c r)):=by
 refine Yu Tryz.func293 fun S0 w0=>?_;unfold Zgn at b;obtain⟨g,b⟩|⟨g,b⟩:=Zae b
 .exact Ye 7 [rz,rz,rz] [true] (lI [1,2,3,6] [3,6]) (lR g) (Zjy S0 w0 e (1:Int) d Zaw.d r b)
 .exact Ye 7 [rz,rz] [false] (lI [1,2,3,6] [3,6]) (lR g) (Zjy S0 w0 e f d Zaw.d r b)
def Zhr(e:Zaw)(f g h:Int):Option Zaw:=(Zgn e g h).bind fun b=>(Zbo f).bind fun d=>bif(decide (d>(16777216:Int)))then(Zbo (Zan b.fPoints (ZiS (16777216:Int) (65536:Int)))).bind fun i=>some (Zaw.mk i b.fAt)else(Zbo (Zan b.fPoints (ZiS d (65536:Int)))).bind fun j=>some (Zaw.mk j b.fAt)
theorem ZqB(e:Zaw)(f g h:Int)(r:Zaw)(b:Zhr e f g h=some r):Yo 213 [.agg (Zaw.c e),Yj f,Yj g,Yj h] (.agg (Zaw.c r)):=by
 refine Yu Tryz.func213 fun S0 w0=>?_;unfold Zhr at b;obtain⟨i,j,b⟩:=Zad b;obtain⟨o,p,b⟩:=Zad b
 let R1:List RA:=[rz,rA [(3,aG (Zaw.c i))],rA [(1,aI o)],rz]
 have O2:=(lS (Zpr _ _ _ _ j) (Zbc _ _ p));obtain⟨d,b⟩|⟨d,b⟩:=Zae b
 .obtain⟨t,u,b⟩:=Zad b;apply Ya b 15 (R1++[rz,rA [(5,aI t)],rz]) [true] (l9 O2 d (Zbc _ _ u))
 .obtain⟨v,y,b⟩:=Zad b;apply Ya b 15 (R1++[rA [(5,aI v)],rz]) [false] (l9 O2 d (Zbc _ _ y))
def ZfQ(b:Zaa)(d e f:Int):Option Zaa:=(Zhr b.fScore d e f).bind fun g=>some (Zaa.mk b.fEnd b.fIn b.fSince g b.fPing b.fWork)
theorem ZoD(d:Zaa)(e f g:Int)(r:Zaa)(b:ZfQ d e f g=some r):Yo 139 [.agg (Zaa.c d),Yj e,Yj f,Yj g] (.agg (Zaa.c r)):=by
 refine Yu Tryz.func139 fun S0 w0=>?_;unfold ZfQ at b;obtain⟨h,i,b⟩:=Zad b;apply Ya b 6 [rz,rA [(5,aG (Zaw.c h))],rz] [] (lR (ZqB _ _ _ _ _ i))
def Zcs(b:Zaw):Option Int:=bif(decide (b.fPoints<(0:Int)))then some (0:Int)else some (IntKind.wrap .i64 (Int.tdiv b.fPoints (65536:Int)))
theorem Zip(e:Zaw)(r:Int)(b:Zcs e=some r):Yo 143 [.agg (Zaw.c e)] (Yj r):=by
 refine Yu Tryz.func143 fun S0 w0=>?_;unfold Zcs at b;obtain⟨d,b⟩|⟨d,b⟩:=Zae b
 .apply Ya b 8 [rz,rz,rz] [true] (lR d)
 .apply Ya b 9 [rz,rz,rz] [false] (lS d (show (65536:Int)≠0 from(by decide)))
def Zeg(b:Int)(d:Zaw):Option Bool:=bif(decide (b>(16777216:Int)))then(Zcs d).bind fun e=>some (decide (e>=(16777216:Int)))else(Zcs d).bind fun f=>some (decide (f>=b))
theorem ZiO(f:Int)(d:Zaw)(r:Bool)(b:Zeg f d=some r):Yq 13 S0 w0 Tryz.f141 (Yk r) [1,1] ⟨[(1,(Yj f)),(2,.one (.ptr 2 0))],[(2,.box (Zaw.c d))]⟩:=by
 unfold Zeg at b;obtain⟨e,b⟩|⟨e,b⟩:=Zae b
 .obtain⟨g,h,b⟩:=Zad b;apply Ya b 7 [rz,rz,rA [(1,aI g)]] [true] (lS e (Zip _ _ h))
 .obtain⟨i,j,b⟩:=Zad b;apply Ya b 7 [rz,rA [(1,aI i)]] [false] (lS e (Zip _ _ j))
def Zfn(b:Zaw)(d:Int):Option Bool:=bif(decide (d<(1:Int)))then Zeg (1:Int) b else Zeg d b
theorem ZnT(d:Zaw)(e:Int)(r:Bool)(b:Zfn d e=some r):Yo 141 [.agg (Zaw.c d),Yj e] (Yk r):=by
 refine Yu Tryz.func141 fun S0 w0=>?_;unfold Zfn at b;obtain⟨f,b⟩|⟨f,b⟩:=Zae b
 .exact Ye 7 [rz,rz,rz] [true] (lI [1,2] [2]) (lR f) (ZiO S0 w0 (1:Int) d r b)
 .exact Ye 7 [rz,rz] [false] (lI [1,2] [2]) (lR f) (ZiO S0 w0 e d r b)
def ZeI(b:List Zaa)(e:Zaa):Option (List Zaa):=(Zbi b e.fEnd).bind fun d=>bif(decide (d<(0:Int)))then some b else need ((([]:List Zaa)++b).length * 80<=140737488355328/\(([]:List Zaa)++b).length<=maxLen)<|need (0<=d/\d<(((([]:List Zaa)++b).length:Nat):Int))<|some ((([]:List Zaa)++b).set d.toNat e)
theorem Zjc(b:List Zaa)(h:Zaa)(r:List Zaa)(f:ZeI b h=some r):Yo 142 [Ym b,.agg (Zaa.c h)] (Ym r):=by
 refine Yu Tryz.func142 fun S0 w0=>?_;unfold ZeI at f;obtain⟨g,p,f⟩:=Zad f;obtain⟨o,f⟩|⟨o,f⟩:=Zae f
 .apply Ya f 10 [rz,rA [(3,aI g)],rz,rz] [true] (lS (ZaW _ _ _ p) o)
 .obtain⟨t,u,f⟩:=Ys f;apply Yb f 15 [rz,rA [(3,aI g)],rz,rA [(0,.c ([]:List Zaa).length (Zal Zaa.c Zaa.d ([]:List Zaa))),(2,.c ((([]:List Zaa)++b).length) (Zal Zaa.c Zaa.d (([]:List Zaa)++b)))],rA [(4,.c ((([]:List Zaa)++b).set g.toNat h).length (Zal Zaa.c Zaa.d ((([]:List Zaa)++b).set g.toNat h)))],rz] [false] [16] [] [] (.c (ZaW _ _ _ p) (l5 o (show ([]:List Zaa).length=0 from rfl) (mq (e:=Zaa.c) Zaa.d 10 (fun _=>rfl) ([]:List Zaa)) (ZcO (sz:=10) (e:=Zaa.c) (d:=Zaa.d) ([]:List Zaa) b) t.1 t.2 u (show ((([]:List Zaa)++b).set g.toNat h).length=(([]:List Zaa)++b).length from List.length_set) (ltOf u) (show ExtU 10 ((([]:List Zaa)++b).length) (Zal Zaa.c Zaa.d (([]:List Zaa)++b)) g.toNat 0 (Zaa.c h) (Zal Zaa.c Zaa.d ((([]:List Zaa)++b).set g.toNat h))from(Zlq _ _ _ rfl))))
def ZdD(i g h e b d:Int)(aA:Int->Int->Int->Int->Option (Int×Int))(f:Int):Option (Int×Int):=bif(decide ((Zan d 64)<h))then need (b≠0)<|bif((Int.tmod (IntKind.wrap .u64 (Int.tdiv g b)) (2:Int))==(1:Int))then aA f (IntKind.wrap .u64 (e+b)) (IntKind.wrap .u64 (Int.tdiv b (2:Int))) (Zan d 1)else aA f e (IntKind.wrap .u64 (Int.tdiv b (2:Int))) (Zan d 1)else aA f e (IntKind.wrap .u64 (Int.tdiv b (2:Int))) (Zan d 1)
theorem ZhR(h i j f b e:Int)(aA:Int->Int->Int->Int->Option (Int×Int))(aP:∀(dg jA eT eU:Int)(r:(Int×Int)),aA dg jA eT eU=some r->Yq 47 S0 w0 Tryz.f328 (.tup [(false,(cI .u64) r.1),(false,(cI .u64) r.2)]) [1,1,1,0,1,0] ⟨[(0,.one (.lit (.int .u64 h))),(1,.one (.lit (.int .u64 i))),(2,(Yj j)),(8,.one (.lit (.int .u64 dg))),(9,.one (.lit (.int .u64 jA))),(10,.one (.lit (.int .u64 eT))),(11,(Yj eU))],[]⟩)(g:Int)(r:(Int×Int))(d:ZdD h i j f b e aA g=some r):Yq 47 S0 w0 Tryz.f328 (.tup [(false,(cI .u64) r.1),(false,(cI .u64) r.2)]) [1,1,1,0,1,0,0,1,0,0,1] ⟨[(0,.one (.lit (.int .u64 h))),(1,.one (.lit (.int .u64 i))),(2,(Yj j)),(8,.one (.lit (.int .u64 g))),(9,.one (.lit (.int .u64 f))),(10,.one (.lit (.int .u64 b))),(11,(Yj e))],[]⟩:=by
 unfold ZdD at d;obtain⟨o,d⟩|⟨o,d⟩:=Zae d
 .obtain⟨t,d⟩:=Zap d;have O1:=(lT o t (show (2:Int)≠0 from(by decide)));obtain⟨p,d⟩|⟨p,d⟩:=Zae d
  .exact Ye 9 [rB [(4,true)],rz,rz,rz] [true] (Yi [0,1,2,8,9,10,11]) (l9 O1 p (show (2:Int)≠0 from(by decide))) (aP g (IntKind.wrap .u64 (f+b)) (IntKind.wrap .u64 (Int.tdiv b (2:Int))) (Zan e 1) r d)
  .exact Ye 9 [rB [(4,true)],rz,rz] [false] (Yi [0,1,2,8,9,10,11]) (l9 O1 p (show (2:Int)≠0 from(by decide))) (aP g f (IntKind.wrap .u64 (Int.tdiv b (2:Int))) (Zan e 1) r d)
 .exact Ye 9 [rB [(4,false)],rz,rz] [false] (Yi [0,1,2,8,9,10,11]) (lT o (mo false) (show (2:Int)≠0 from(by decide))) (aP g f (IntKind.wrap .u64 (Int.tdiv b (2:Int))) (Zan e 1) r d)
def ZbF(e g f:Int):Nat->Int->Int->Int->Int->Option (Int×Int)|0,_,_,_,_=>none|fu+1,h,i,b,d=>bif(decide (d<(64:Int)))then bif(decide (d<f))then need (b≠0)<|bif((Int.tmod (IntKind.wrap .u64 (Int.tdiv e b)) (2:Int))==(1:Int))then ZdD e g f i b d (ZbF e g f fu) (IntKind.wrap .u64 (h+b))else ZdD e g f i b d (ZbF e g f fu) h else ZdD e g f i b d (ZbF e g f fu) h else some (h,i)
theorem ZoG(f g h:Int):∀(i:Nat)(j o d e:Int)(r:(Int×Int)),ZbF f g h i j o d e=some r->Yq 47 S0 w0 Tryz.f328 (.tup [(false,(cI .u64) r.1),(false,(cI .u64) r.2)]) [1,1,1,0,1,0] ⟨[(0,.one (.lit (.int .u64 f))),(1,.one (.lit (.int .u64 g))),(2,(Yj h)),(8,.one (.lit (.int .u64 j))),(9,.one (.lit (.int .u64 o))),(10,.one (.lit (.int .u64 d))),(11,(Yj e))],[]⟩:=by
 intro i;induction i with
 |zero=>
  intro j o d e r b;simp[ZbF]at b
 |succ i t=>
  intro j o d e r b;unfold ZbF at b;obtain⟨p,b⟩|⟨p,b⟩:=Zae b
  .obtain⟨u,b⟩|⟨u,b⟩:=Zae b
   .obtain⟨y,b⟩:=Zap b;have O2:=(lU p u y (show (2:Int)≠0 from(by decide)));obtain⟨v,b⟩|⟨v,b⟩:=Zae b
    .exact Ye 13 [rz,rB [(3,true)],rz] [true,true] (Yi [0,1,2,8,9,10,11]) (l8 O2 v) (ZhR S0 w0 f g h o d e (ZbF f g h i) t (IntKind.wrap .u64 (j+d)) r b)
    .exact Ye 13 [rz,rB [(3,true)]] [true,false] (Yi [0,1,2,8,9,10,11]) (l8 O2 v) (ZhR S0 w0 f g h o d e (ZbF f g h i) t j r b)
   .exact Ye 13 [rz,rB [(3,false)]] [true,false] (Yi [0,1,2,8,9,10,11]) (lT p u (mo false)) (ZhR S0 w0 f g h o d e (ZbF f g h i) t j r b)
  .apply Ya b 8 [rz,rz] [false] (lR p)
def ZdY(b d e:Int):Option (Int×Int):=ZbF b d e (((64:Int)-(0:Int)).toNat+2) (0:Int) (0:Int) (9223372036854775808:Int) (0:Int)
theorem ZlQ(b d e:Int)(r:(Int×Int))(f:ZdY b d e=some r):Yo 328 [.one (.lit (.int .u64 b)),.one (.lit (.int .u64 d)),Yj e] (.tup [(false,(cI .u64) r.1),(false,(cI .u64) r.2)]):=by
 refine Yu Tryz.func328 fun S0 w0=>?_;unfold ZdY at f;exact Ye 10 [rz,rz,rz,rz] [] (Yi [0,1,2,8,9,10,11]) .n (ZoG S0 w0 b d e (((64:Int)-(0:Int)).toNat+2) (0:Int) (0:Int) (9223372036854775808:Int) (0:Int) r f)
def Zfo(b g:Zaf)(d:Int):Option Zaf:=bif b.fV6 then(ZdY b.fHi b.fLo d).bind fun e=>some (Zaf.mk true e.1 e.2)else(ZdY (0:Int) b.fLo (Zan (96:Int) d)).bind fun f=>some (Zaf.mk false 0 f.2)
theorem ZjR(d e:Zaf)(g:Int)(r:Zaf)(b:Zfo d e g=some r):Yq 45 S0 w0 Tryz.f267 (.agg (Zaf.c r)) [1,1,1,1] ⟨[(1,(Yj g)),(2,.one (.ptr 2 0)),(4,.one (.ptr 4 0))],[(2,.box (Zaf.c d)),(4,.box (Zaf.c e))]⟩:=by
 unfold Zfo at b;obtain⟨f,b⟩|⟨f,b⟩:=Zae b
 .obtain⟨h,j,b⟩:=Zad b;apply Ya b 8 [rz,rA [(5,.r (.tup [(false,(cI .u64) h.1),(false,(cI .u64) h.2)]) [])],rz] [true] (lS f (ZlQ _ _ _ _ j))
 .obtain⟨i,o,b⟩:=Zad b;apply Ya b 9 [rz,rA [(4,.r (.tup [(false,(cI .u64) i.1),(false,(cI .u64) i.2)]) [])],rz] [false] (lS f (ZlQ _ _ _ _ o))
def Zfp(d:Int)(b e:Zaf):Option Zaf:=(ZbK b).bind fun f=>bif(decide (d>f))then Zfo b e f else Zfo b e d
theorem ZjS(g:Int)(d e r:Zaf)(b:Zfp g d e=some r):Yq 45 S0 w0 Tryz.f267 (.agg (Zaf.c r)) [1,1,1] ⟨[(1,(Yj g)),(2,.one (.ptr 2 0)),(4,.one (.ptr 4 0))],[(2,.box (Zaf.c d)),(4,.box (Zaf.c e))]⟩:=by
 unfold Zfp at b;obtain⟨f,h,b⟩:=Zad b;obtain⟨i,b⟩|⟨i,b⟩:=Zae b
 .exact Ye 5 [rA [(2,aI f)],rA [(1,aI f)]] [true] (lI [1,2,4] [2,4]) (lT (Zco _ _ h) i (Zco _ _ h)) (ZjR S0 w0 d e f r b)
 .exact Ye 5 [rA [(2,aI f)]] [false] (lI [1,2,4] [2,4]) (lS (Zco _ _ h) i) (ZjR S0 w0 d e g r b)
def Zis(b:Zaf)(d:Int):Option Zaf:=(Zbv b).bind fun e=>bif(!e)then some (Zaf.mk false 0 0)else bif(decide (d<(0:Int)))then Zfp (0:Int) b (Zaf.mk false 0 0)else Zfp d b (Zaf.mk false 0 0)
theorem ZpY(d:Zaf)(e:Int)(r:Zaf)(b:Zis d e=some r):Yo 267 [.agg (Zaf.c d),Yj e] (.agg (Zaf.c r)):=by
 refine Yu Tryz.func267 fun S0 w0=>?_;unfold Zis at b;obtain⟨f,i,b⟩:=Zad b;obtain⟨g,b⟩|⟨g,b⟩:=Zae b
 .apply Ya b 8 [rz,rA [(1,aB f)],rz] [true] (lS (ZaT _ _ i) g)
 .have O1:=(lS (ZaT _ _ i) g);obtain⟨h,b⟩|⟨h,b⟩:=Zae b
  .exact Ye 12 [rz,rA [(1,aB f)],rz,rz] [false,true] (lI [1,2,4] [2,4]) (l8 O1 h) (ZjS S0 w0 (0:Int) d Zaf.d r b)
  .exact Ye 12 [rz,rA [(1,aB f)],rz] [false,false] (lI [1,2,4] [2,4]) (l8 O1 h) (ZjS S0 w0 e d Zaf.d r b)
end Go.Proofs.YtmnloegcpaahcaaGreat
