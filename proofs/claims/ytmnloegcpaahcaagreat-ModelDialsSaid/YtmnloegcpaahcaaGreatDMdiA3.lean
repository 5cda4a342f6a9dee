import Derived.Test.YtmnloegcpaahcaaGreatDMdiA2
namespace Go.Proofs.YtmnloegcpaahcaaGreat
open Go.RowKit Go.Lib Go.Shelf
set_option linter.unusedVariables false
set_option maxRecDepth 100000
variable (S0:Nat->Prop)(w0:ZaU)
def ZfS(e:Zav)(b:Zan)(d:Zas):Option (Zan×Zap):=(Zcy b.fBans d.fEnd.fAddr d.fNow).bind fun h=>bif(decide (h>(0:Int)))then some (b,(Zap.mk 8 (Zaj.mk (Zah.mk false 0 0) 0) 0 h ([]:(List Zaa))))else(Zca b.fPeers d.fEnd).bind fun j=>bif(decide (j>=(0:Int)))then(Zby (7:Int)).bind fun n=>some (b,n)else(Zed d.fEnd true d.fNow).bind fun i=>(ZeZ b.fPeers true).bind fun o=>bif(decide (o>=e.fMaxIn))then(ZeC b.fPeers e.fQuota e.fSecret).bind fun f=>bif(!f.2)then(Zby (5:Int)).bind fun p=>some (b,p)else(ZfA b.fPeers f.1).bind fun r=>(Zdw r.1 i).bind fun t=>some ((Zan.mk b.fBans b.fBook t),(Zap.mk 0 f.1 1 0 ([]:(List Zaa))))else(Zdw b.fPeers i).bind fun g=>some ((Zan.mk b.fBans b.fBook g),(Zap.mk 0 (Zaj.mk (Zah.mk false 0 0) 0) 0 0 ([]:(List Zaa))))
theorem ZoU(v:Zav)(y:Zan)(z:Zas)(r:(Zan×Zap))(b:ZfS v y z=some r):Yp 65 [.agg (Zav.c v),.agg (Zan.c y),.agg (Zas.c z)] (.tup [(true,Zan.c r.1),(true,Zap.c r.2)]):=by
 refine Yv Tryz.func65 fun S0 w0=>?_;unfold ZfS at b;obtain⟨f,A,b⟩:=Zad b;obtain⟨g,b⟩|⟨g,b⟩:=Zag b
 .apply Yb b 10 [rz,rA [(7,aI f)],rz,rz] [true] [] [(7,[(7,cL 10 Zaa.c Zaa.d [])])] [] (mn (ZdT _ _ _ _ A) g)
 .obtain⟨B,E,b⟩:=Zad b;have O1:=(mo (ZdT _ _ _ _ A) g (ZbK _ _ _ E));obtain⟨h,b⟩|⟨h,b⟩:=Zag b
  .obtain⟨F,G,b⟩:=Zad b;apply Ya b 15 [rz,rA [(7,aI f)],rz,rA [(4,aI B)],rA [(1,aG (Zap.c F))]] [false,true] (mD O1 h (Zbt _ _ G))
  .obtain⟨H,I,b⟩:=Zad b;obtain⟨J,L,b⟩:=Zad b
   let R2:List RA:=[rz,rA [(7,aI f)],rz,rA [(4,aI B)],rA [(4,aG (Zaa.c H))],rz,rA [(2,aI J)]]
   have O3:=(mE O1 h (Zmn _ _ _ _ I) (Zlh _ _ _ L));obtain⟨i,b⟩|⟨i,b⟩:=Zag b
   .obtain⟨C,M,b⟩:=Zad b
    let R4:List RA:=(R2++[rA [(6,.r (.tup [(true,Zaj.c C.1),(false,cB C.2)]) [])],rz])
    have O5:=(mD O3 i (ZoZ _ _ _ _ M));obtain⟨e,b⟩|⟨e,b⟩:=Zag b
    .obtain⟨O,j,b⟩:=Zad b;apply Ya b 30 (R4++[rA [(1,aG (Zap.c O))]]) [false,false,true,true] (mD O5 e (Zbt _ _ j))
    .obtain⟨D,R,o,p,b⟩:=Yu b;apply Yb b 38 (R4++[rA [(3,.r (.tup [(false,(cLs 10 Zaa.c Zaa.d) D.1),(false,mi D.2)]) [])],rz,rz,rA [(3,.r (Ym R) [])],rz]) [false,false,true,false] [] [(7,[(7,cL 10 Zaa.c Zaa.d [])])] [] (mE O5 e (Zly _ _ _ o) (Zju _ _ _ p))
   .obtain⟨t,u,b⟩:=Zad b;apply Yb b 27 (R2++[rA [(3,.r (Ym t) [])],rz]) [false,false,false] [] [(7,[(7,cL 10 Zaa.c Zaa.d [])])] [] (mD O3 i (Zju _ _ _ u))
def Zcc(e:List Zab)(f:Int):Nat->Int->Int->Option Int|0,_,_=>none|fu+1,g,b=>bif(decide (b<(e.length:Int)))then need (0<=b/\b<(e.length:Int))<|bif((e.getD b.toNat Zab.d).fState==f)then Zcc e f fu (Zaq g 1) (Zaq b 1)else Zcc e f fu g (Zaq b 1)else some g
theorem ZnG(i:List Zab)(j:Int):∀(f:Nat)(d e r:Int),Zcc i j f d e=some r->Yr 23 S0 w0 Tryz.f60 (Yj r) [1,1,0,1,0] ⟨[(0,(Yn i)),(1,(Yj j)),(5,(Yj d)),(6,(Yj e))],[]⟩:=by
 intro f;induction f with
 |zero=>
  intro d e r b;simp[Zcc]at b
 |succ f o=>
  intro d e r b;unfold Zcc at b;obtain⟨g,b⟩|⟨g,b⟩:=Zag b
  .obtain⟨p,b⟩:=Zao b;obtain⟨h,b⟩|⟨h,b⟩:=Zag b
   .exact Ye 15 [rz,rz,rz,rz] [true,true] (Yi [0,1,5,6]) (mo g p h) (o (Zaq d 1) (Zaq e 1) r b)
   .exact Ye 15 [rz,rz,rz] [true,false] (Yi [0,1,5,6]) (mo g p h) (o d (Zaq e 1) r b)
  .apply Ya b 8 [rz,rz] [false] (ml g)
def Zgw(b:List Zab)(d:Int):Option Int:=Zcc b d (((b.length:Int)-(0:Int)).toNat+2) (0:Int) (0:Int)
theorem ZpQ(b:List Zab)(d r:Int)(e:Zgw b d=some r):Yp 60 [Yn b,Yj d] (Yj r):=by
 refine Yv Tryz.func60 fun S0 w0=>?_;unfold Zgw at e;exact Ye 8 [rz,rz,rz] [] (Yi [0,1,5,6]) .n (ZnG S0 w0 b d (((b.length:Int)-(0:Int)).toNat+2) (0:Int) (0:Int) r e)
def Zeg(b:Zan):Option Int:=(ZeZ b.fPeers false).bind fun d=>(Zgw b.fBook (2:Int)).bind fun e=>some (Zaq d e)
theorem ZhL(d:Zan)(r:Int)(b:Zeg d=some r):Yp 25 [.agg (Zan.c d)] (Yj r):=by
 refine Yv Tryz.func25 fun S0 w0=>?_;unfold Zeg at b;obtain⟨e,f,g,h,b⟩:=Yu b;apply Ya b 4 [rz,rA [(2,aI e),(5,aI f)]] [] (mn (Zlh _ _ _ g) (ZpQ _ _ _ h))
def ZdW(b:Zab):Option Bool:=(Zfe b.fEnd).bind fun d=>bif d then bif(decide (b.fState>=(1:Int)))then bif(decide (b.fState<=(3:Int)))then bif(decide (b.fFails>=(0:Int)))then bif(decide (b.fFails<=(1000:Int)))then bif(decide (b.fNext>=(0:Int)))then some (decide (b.fNext<=(1099511627776:Int)))else some false else some false else some false else some false else some false else some false
theorem ZeQ(o:Zab)(r:Bool)(b:ZdW o=some r):Yp 124 [.agg (Zab.c o)] (Yk r):=by
 refine Yv Tryz.func124 fun S0 w0=>?_;unfold ZdW at b;obtain⟨d,p,b⟩:=Zad b;obtain⟨i,b⟩|⟨i,b⟩:=Zag b
 .have O1:=(mn (ZiI _ _ p) i);obtain⟨e,b⟩|⟨e,b⟩:=Zag b
  .obtain⟨f,b⟩|⟨f,b⟩:=Zag b
   .obtain⟨g,b⟩|⟨g,b⟩:=Zag b
    .obtain⟨h,b⟩|⟨h,b⟩:=Zag b
     .obtain⟨j,b⟩|⟨j,b⟩:=Zag b
      .apply Ya b 4 [rz,⟨[(2,aB d)],[(3,true),(8,true),(13,true),(18,true),(23,true),(28,true)],[],[],[],[],[]⟩] [] (mG O1 e f g h j)
      .apply Ya b 4 [rz,⟨[(2,aB d)],[(3,true),(8,true),(13,true),(18,true),(23,true),(28,false)],[],[],[],[],[]⟩] [] (mG O1 e f g h j)
     .apply Ya b 4 [rz,⟨[(2,aB d)],[(3,true),(8,true),(13,true),(18,true),(23,false)],[],[],[],[],[]⟩] [] (mF O1 e f g h)
    .apply Ya b 4 [rz,⟨[(2,aB d)],[(3,true),(8,true),(13,true),(18,false)],[],[],[],[],[]⟩] [] (mE O1 e f g)
   .apply Ya b 4 [rz,⟨[(2,aB d)],[(3,true),(8,true),(13,false)],[],[],[],[],[]⟩] [] (mD O1 e f)
  .apply Ya b 4 [rz,⟨[(2,aB d)],[(3,true),(8,false)],[],[],[],[],[]⟩] [] (mC O1 e)
 .apply Ya b 4 [rz,⟨[(2,aB d)],[(3,false)],[],[],[],[],[]⟩] [] (mn (ZiI _ _ p) i)
def ZhA(b:Zab)(d:Int):Option Bool:=bif(b.fState==(1:Int))then some (decide (b.fNext<=d))else some false
theorem ZqY(e:Zab)(f:Int)(r:Bool)(b:ZhA e f=some r):Yp 289 [.agg (Zab.c e),Yj f] (Yk r):=by
 refine Yv Tryz.func289 fun S0 w0=>?_;unfold ZhA at b;obtain⟨d,b⟩|⟨d,b⟩:=Zag b
 .apply Ya b 4 [rz,rB [(3,true)]] [] (ml d)
 .apply Ya b 4 [rz,rB [(3,false)]] [] (ml d)
def ZbT:Nat->Int->Zah->Zah->Option Bool|0,_,_,_=>none|fu+1,b,d,e=>bif(decide (b<(32:Int)))then bif d.fV6 then(Zbx d b).bind fun f=>(Zbx e b).bind fun g=>bif(f != g)then some false else ZbT fu (Zaq b 1) d e else bif(decide (b<(16:Int)))then(Zbx d b).bind fun h=>(Zbx e b).bind fun i=>bif(h != i)then some false else ZbT fu (Zaq b 1) d e else ZbT fu (Zaq b 1) d e else some true
theorem Zou:∀(o:Nat)(f:Int)(d e:Zah)(r:Bool),ZbT o f d e=some r->Yr 40 S0 w0 Tryz.f337 (Yk r) [1,1,0,1,0] ⟨[(2,.one (.ptr 2 0)),(3,.one (.ptr 3 0)),(5,(Yj f))],[(2,.box (Zah.c d)),(3,.box (Zah.c e))]⟩:=by
 intro o;induction o with
 |zero=>
  intro f d e r b;simp[ZbT]at b
 |succ o t=>
  intro f d e r b;unfold ZbT at b;obtain⟨j,b⟩|⟨j,b⟩:=Zag b
  .obtain⟨p,b⟩|⟨p,b⟩:=Zag b
   .obtain⟨y,z,b⟩:=Zad b;obtain⟨A,B,b⟩:=Zad b
    let R1:List RA:=[rz,⟨[(9,aI y),(12,aI A)],[(2,true)],[],[],[],[],[]⟩,rz]
    have O2:=(mq j p (ZdI _ _ _ z) (ZdI _ _ _ B));obtain⟨g,b⟩|⟨g,b⟩:=Zag b
    .apply Ya b 13 R1 [true,true] (mC O2 g)
    .exact Ye 15 R1 [true,false] (ma [2,3,5] [2,3]) (mC O2 g) (t (Zaq f 1) d e r b)
   .obtain⟨h,b⟩|⟨h,b⟩:=Zag b
    .obtain⟨C,u,b⟩:=Zad b;obtain⟨D,v,b⟩:=Zad b
     let R3:List RA:=[rz,⟨[(9,aI C),(12,aI D)],[(2,false),(6,true)],[],[],[],[],[]⟩,rz]
     have O4:=(mr j p h (ZdI _ _ _ u) (ZdI _ _ _ v));obtain⟨i,b⟩|⟨i,b⟩:=Zag b
     .apply Ya b 13 R3 [true,true] (mC O4 i)
     .exact Ye 15 R3 [true,false] (ma [2,3,5] [2,3]) (mC O4 i) (t (Zaq f 1) d e r b)
    .exact Ye 15 [rz,rB [(2,false),(6,false)],rz] [true,false] (ma [2,3,5] [2,3]) (mq j p h (mP false)) (t (Zaq f 1) d e r b)
  .apply Ya b 8 [rz,rz] [false] (ml j)
def ZfF(b d:Zah):Option Bool:=(Zbu b).bind fun e=>bif(!e)then some false else(Zbu d).bind fun f=>bif(!f)then some false else bif(!(b.fV6==d.fV6))then some false else ZbT (((32:Int)-(0:Int)).toNat+2) (0:Int) b d
theorem ZlC(e f:Zah)(r:Bool)(b:ZfF e f=some r):Yp 337 [.agg (Zah.c e),.agg (Zah.c f)] (Yk r):=by
 refine Yv Tryz.func337 fun S0 w0=>?_;unfold ZfF at b;obtain⟨g,j,b⟩:=Zad b;obtain⟨h,b⟩|⟨h,b⟩:=Zag b
 .apply Ya b 8 [rz,⟨[(1,aB g)],[(3,true)],[],[],[],[],[]⟩,rz] [true] (mo (ZaT _ _ j) h (mP true))
 .obtain⟨o,p,b⟩:=Zad b;have O5:=(mo (ZaT _ _ j) h (ZaT _ _ p));obtain⟨d,b⟩|⟨d,b⟩:=Zag b
  .apply Ya b 8 [rz,⟨[(1,aB g),(5,aB o)],[(3,false),(8,true)],[],[],[],[],[]⟩,rz] [true] (mD O5 d (mP true))
  .let R6:List RA:=[rz,⟨[(1,aB g),(5,aB o)],[(3,false),(8,false)],[],[],[],[],[]⟩,rz]
   obtain⟨i,b⟩|⟨i,b⟩:=Zag b
   .apply Ya b 8 R6 [true] (mD O5 d i)
   .exact Ye 11 R6 [false] (ma [2,3,5] [2,3]) (mD O5 d i) (Zou S0 w0 (((32:Int)-(0:Int)).toNat+2) (0:Int) e f r b)
def ZcQ(g:List Zaa)(e:List Zab)(h:Int)(f:Zah)(aJ:Int->Zah->Option Bool):Nat->Int->Option Bool|0,_=>none|fu+1,b=>bif(decide (b<(e.length:Int)))then need (0<=b/\b<(e.length:Int))<|bif((e.getD b.toNat Zab.d).fState==(2:Int))then(ZfF (((e.getD b.toNat Zab.d).fEnd).fAddr) f).bind fun i=>bif i then some false else ZcQ g e h f aJ fu (Zaq b 1)else ZcQ g e h f aJ fu (Zaq b 1)else some true
theorem Zok(t:List Zaa)(j:List Zab)(v:Int)(g:Zah)(aJ:Int->Zah->Option Bool)(cZ:∀(gS:Int)(ky:Zah)(r:Bool),aJ gS ky=some r->Yr 56 S0 w0 Tryz.f290 (Yk r) [1,1,0,1,0] ⟨[(0,(Ym t)),(1,(Yn j)),(5,.one (.ptr 5 0)),(7,(Yj gS))],[(5,.box (Zah.c ky))]⟩):∀(h:Nat)(f:Int)(r:Bool),ZcQ t j v g aJ h f=some r->Yr 56 S0 w0 Tryz.f290 (Yk r) [1,1,1,0,1,0] ⟨[(1,(Yn j)),(5,.one (.ptr 5 0)),(8,(Yj f))],[(5,.box (Zah.c g))]⟩:=by
 intro h;induction h with
 |zero=>
  intro f r b;simp[ZcQ]at b
 |succ h u=>
  intro f r b;unfold ZcQ at b;obtain⟨i,b⟩|⟨i,b⟩:=Zag b
  .obtain⟨o,b⟩:=Zao b;obtain⟨d,b⟩|⟨d,b⟩:=Zag b
   .obtain⟨y,p,b⟩:=Zad b
    let R1:List RA:=[rz,⟨[(14,aB y)],[(6,true)],[],[],[],[],[]⟩,rz]
    have O2:=(mr i o d o (ZlC _ _ _ p));obtain⟨e,b⟩|⟨e,b⟩:=Zag b
    .apply Ya b 13 R1 [true,true] (mC O2 e)
    .exact Ye 15 R1 [true,false] (ma [1,5,8] [5]) (mC O2 e) (u (Zaq f 1) r b)
   .exact Ye 15 [rz,rB [(6,false)],rz] [true,false] (ma [1,5,8] [5]) (mq i o d (mP false)) (u (Zaq f 1) r b)
  .apply Ya b 8 [rz,rz] [false] (ml i)
def ZbR(b:List Zaa)(f:List Zab):Nat->Int->Zah->Option Bool|0,_,_=>none|fu+1,e,g=>bif(decide (e<(b.length:Int)))then need (0<=e/\e<(b.length:Int))<|bif(!(b.getD e.toNat Zaa.d).fIn)then(ZfF (((b.getD e.toNat Zaa.d).fEnd).fAddr) g).bind fun h=>bif h then some false else ZbR b f fu (Zaq e 1) g else ZbR b f fu (Zaq e 1) g else ZcQ b f e g (ZbR b f fu) (((f.length:Int)-(0:Int)).toNat+2) (0:Int)
theorem Zol(h:List Zaa)(f:List Zab):∀(g:Nat)(e:Int)(d:Zah)(r:Bool),ZbR h f g e d=some r->Yr 56 S0 w0 Tryz.f290 (Yk r) [1,1,0,1,0] ⟨[(0,(Ym h)),(1,(Yn f)),(5,.one (.ptr 5 0)),(7,(Yj e))],[(5,.box (Zah.c d))]⟩:=by
 intro g;induction g with
 |zero=>
  intro e d r b;simp[ZbR]at b
 |succ g j=>
  intro e d r b;unfold ZbR at b;obtain⟨i,b⟩|⟨i,b⟩:=Zag b
  .obtain⟨o,b⟩:=Zao b;obtain⟨p,b⟩|⟨p,b⟩:=Zag b
   .obtain⟨u,v,b⟩:=Zad b
    let R3:List RA:=[rz,⟨[(14,aB u)],[(6,true)],[],[],[],[],[]⟩,rz]
    have O4:=(mr i o p o (ZlC _ _ _ v));obtain⟨t,b⟩|⟨t,b⟩:=Zag b
    .apply Ya b 13 R3 [true,true] (mC O4 t)
    .exact Ye 15 R3 [true,false] (ma [0,1,5,7] [5]) (mC O4 t) (j (Zaq e 1) d r b)
   .exact Ye 15 [rz,rB [(6,false)],rz] [true,false] (ma [0,1,5,7] [5]) (mq i o p (mP false)) (j (Zaq e 1) d r b)
  .exact Ye 10 [rz,rz] [false] (ma [1,5,8] [5]) (ml i) (Zok S0 w0 h f e d (ZbR h f g) j (((f.length:Int)-(0:Int)).toNat+2) (0:Int) r b)
def ZgU(b:List Zaa)(e:List Zab)(d:Zah):Option Bool:=(Zbu d).bind fun f=>bif(!f)then some false else ZbR b e (((b.length:Int)-(0:Int)).toNat+2) (0:Int) d
theorem Zqp(d:List Zaa)(e:List Zab)(f:Zah)(r:Bool)(b:ZgU d e f=some r):Yp 290 [Ym d,Yn e,.agg (Zah.c f)] (Yk r):=by
 refine Yv Tryz.func290 fun S0 w0=>?_;unfold ZgU at b;obtain⟨h,i,b⟩:=Zad b;obtain⟨g,b⟩|⟨g,b⟩:=Zag b
 .apply Ya b 8 [rz,rA [(1,aB h)],rz] [true] (mn (ZaT _ _ i) g)
 .exact Ye 11 [rz,rA [(1,aB h)],rz] [false] (ma [0,1,5,7] [5]) (mn (ZaT _ _ i) g) (Zol S0 w0 d e (((d.length:Int)-(0:Int)).toNat+2) (0:Int) f r b)
def Zhw(f:List Zab)(d:List Zaa)(g:List Zac)(b:Zab)(e:Int):Option Bool:=(ZdW b).bind fun h=>bif h then(ZhA b e).bind fun i=>bif i then(Zcy g b.fEnd.fAddr e).bind fun j=>bif(j==(0:Int))then(Zca d b.fEnd).bind fun n=>bif(decide (n<(0:Int)))then(ZgU d f b.fEnd.fAddr).bind fun o=>some o else some false else some false else some false else some false
theorem ZqU(o:List Zab)(p:List Zaa)(t:List Zac)(u:Zab)(v:Int)(r:Bool)(b:Zhw o p t u v=some r):Yp 211 [Yn o,Ym p,Yl t,.agg (Zab.c u),Yj v] (Yk r):=by
 refine Yv Tryz.func211 fun S0 w0=>?_;unfold Zhw at b;obtain⟨d,y,b⟩:=Zad b;obtain⟨f,b⟩|⟨f,b⟩:=Zag b
 .obtain⟨e,A,b⟩:=Zad b;have O1:=(mo (ZeQ _ _ y) f (ZqY _ _ _ A));obtain⟨g,b⟩|⟨g,b⟩:=Zag b
  .obtain⟨h,B,b⟩:=Zad b;have O2:=(mD O1 g (ZdT _ _ _ _ B));obtain⟨i,b⟩|⟨i,b⟩:=Zag b
   .obtain⟨z,C,b⟩:=Zad b;have O3:=(mD O2 i (ZbK _ _ _ C));obtain⟨j,b⟩|⟨j,b⟩:=Zag b
    .obtain⟨D,E,b⟩:=Zad b;apply Ya b 4 [rz,⟨[(1,aB d),(5,aB e),(13,aI h),(20,aI z),(29,aB D)],[(2,true),(7,true),(16,true),(23,true)],[],[],[],[],[]⟩] [] (mD O3 j (Zqp _ _ _ _ E))
    .apply Ya b 4 [rz,⟨[(1,aB d),(5,aB e),(13,aI h),(20,aI z)],[(2,true),(7,true),(16,true),(23,false)],[],[],[],[],[]⟩] [] (mC O3 j)
   .apply Ya b 4 [rz,⟨[(1,aB d),(5,aB e),(13,aI h)],[(2,true),(7,true),(16,false)],[],[],[],[],[]⟩] [] (mC O2 i)
  .apply Ya b 4 [rz,⟨[(1,aB d),(5,aB e)],[(2,true),(7,false)],[],[],[],[],[]⟩] [] (mC O1 g)
 .apply Ya b 4 [rz,⟨[(1,aB d)],[(2,false)],[],[],[],[],[]⟩] [] (mn (ZeQ _ _ y) f)
def Zbm(f:List Zab)(g:List Zaa)(h:List Zac)(i:Int):Nat->Int->Int->Zaj->Option (Zaj×Bool)|0,_,_,_=>none|fu+1,e,b,j=>bif(decide (b<(f.length:Int)))then need (0<=b/\b<(f.length:Int))<|(Zhw f g h (f.getD b.toNat Zab.d) i).bind fun n=>bif(!n)then Zbm f g h i fu e (Zaq b 1) j else bif(decide (e<(0:Int)))then Zbm f g h i fu b (Zaq b 1) j else need (0<=e/\e<(f.length:Int))<|bif(decide ((f.getD b.toNat Zab.d).fNext<(f.getD e.toNat Zab.d).fNext))then Zbm f g h i fu b (Zaq b 1) j else bif((f.getD b.toNat Zab.d).fNext==(f.getD e.toNat Zab.d).fNext)then(Zcs ((f.getD b.toNat Zab.d).fEnd) ((f.getD e.toNat Zab.d).fEnd)).bind fun o=>bif(decide (o<(0:Int)))then Zbm f g h i fu b (Zaq b 1) j else Zbm f g h i fu e (Zaq b 1) j else Zbm f g h i fu e (Zaq b 1) j else bif(decide (e<(0:Int)))then some ((Zaj.mk (Zah.mk false 0 0) 0),false)else need (0<=e/\e<(f.length:Int))<|some ((f.getD e.toNat Zab.d).fEnd,true)
theorem Zoj(C:List Zab)(D:List Zaa)(E:List Zac)(F:Int):∀(t:Nat)(e d:Int)(f:Zaj)(r:(Zaj×Bool)),Zbm C D E F t e d f=some r->Yr 79 S0 w0 Tryz.f133 (.tup [(true,Zaj.c r.1),(false,cB r.2)]) [1,1,0,1,0] ⟨[(0,(Yn C)),(1,(Ym D)),(2,(Yl E)),(3,(Yj F)),(8,.one (.ptr 8 0)),(10,(Yj e)),(11,(Yj d))],[(8,.box (Zaj.c f))]⟩:=by
 intro t;induction t with
 |zero=>
  intro e d f r b;simp[Zbm]at b
 |succ t i=>
  intro e d f r b;unfold Zbm at b;obtain⟨u,b⟩|⟨u,b⟩:=Zag b
  .obtain⟨j,b⟩:=Zao b;obtain⟨o,G,b⟩:=Zad b;have O1:=(mo u j (ZqU _ _ _ _ _ _ G));obtain⟨p,b⟩|⟨p,b⟩:=Zag b
   .exact Ye 15 [rz,rA [(8,aB o)],rz] [true,true] (ma [0,1,2,3,8,10,11] [8]) (mC O1 p) (i e (Zaq d 1) f r b)
   .obtain⟨v,b⟩|⟨v,b⟩:=Zag b
    .exact Ye 20 [rz,rA [(8,aB o)],rB [(2,true)],rz,rz] [true,false,true] (ma [0,1,2,3,8,10,11] [8]) (mE O1 p v (mP true)) (i d (Zaq d 1) f r b)
    .obtain⟨y,b⟩:=Zao b;obtain⟨z,b⟩|⟨z,b⟩:=Zag b
     .exact Ye 20 [rz,rA [(8,aB o)],rB [(2,false),(15,true)],rz,rz] [true,false,true] (ma [0,1,2,3,8,10,11] [8]) (mH O1 p v j y z (mP true)) (i d (Zaq d 1) f r b)
     .have O2:=(mI O1 p v j y z j y);obtain⟨A,b⟩|⟨A,b⟩:=Zag b
      .obtain⟨H,I,b⟩:=Zad b
       let R3:List RA:=[rz,rA [(8,aB o)],⟨[(38,aI H)],[(2,false),(15,false),(27,true)],[],[],[],[],[]⟩,rz]
       have O4:=(mF O2 A j y (Zen _ _ _ I));obtain⟨g,b⟩|⟨g,b⟩:=Zag b
       .exact Ye 20 (R3++[rz]) [true,false,true] (ma [0,1,2,3,8,10,11] [8]) (mC O4 g) (i d (Zaq d 1) f r b)
       .exact Ye 20 R3 [true,false,false] (ma [0,1,2,3,8,10,11] [8]) (mC O4 g) (i e (Zaq d 1) f r b)
      .exact Ye 20 [rz,rA [(8,aB o)],rB [(2,false),(15,false),(27,false)],rz] [true,false,false] (ma [0,1,2,3,8,10,11] [8]) (mD O2 A (mP false)) (i e (Zaq d 1) f r b)
  .obtain⟨h,b⟩|⟨h,b⟩:=Zag b
   .apply Ya b 12 [rz,rz,rz] [false,true] (mn u h)
   .obtain⟨B,b⟩:=Zao b;apply Ya b 13 [rz,rz,rz] [false,false] (mo u h B)
def ZfC(b:List Zab)(d:List Zaa)(e:List Zac)(f:Int):Option (Zaj×Bool):=Zbm b d e f (((b.length:Int)-(0:Int)).toNat+2) (-1:Int) (0:Int) (Zaj.mk (Zah.mk false 0 0) 0)
theorem Zqo(b:List Zab)(d:List Zaa)(e:List Zac)(f:Int)(r:(Zaj×Bool))(g:ZfC b d e f=some r):Yp 133 [Yn b,Ym d,Yl e,Yj f] (.tup [(true,Zaj.c r.1),(false,cB r.2)]):=by
 refine Yv Tryz.func133 fun S0 w0=>?_;unfold ZfC at g;exact Ye 8 [rz,rz,rz] [] (ma [0,1,2,3,8,10,11] [8]) .n (Zoj S0 w0 b d e f (((b.length:Int)-(0:Int)).toNat+2) (-1:Int) (0:Int) Zaj.d r g)
def Zbl(e:List Zab)(f:Int):Nat->Int->Bool->Int->Option Int|0,_,_,_=>none|fu+1,g,h,b=>bif(decide (b<(e.length:Int)))then need (0<=b/\b<(e.length:Int))<|(ZdW (e.getD b.toNat Zab.d)).bind fun i=>bif i then bif((e.getD b.toNat Zab.d).fState==(1:Int))then bif(decide ((e.getD b.toNat Zab.d).fNext>f))then bif(!h)then Zbl e f fu ((e.getD b.toNat Zab.d).fNext) true (Zaq b 1)else bif(decide ((e.getD b.toNat Zab.d).fNext<g))then Zbl e f fu ((e.getD b.toNat Zab.d).fNext) true (Zaq b 1)else Zbl e f fu g h (Zaq b 1)else Zbl e f fu g h (Zaq b 1)else Zbl e f fu g h (Zaq b 1)else Zbl e f fu g h (Zaq b 1)else some g
theorem Zoi(t:List Zab)(A:Int):∀(u:Nat)(f:Int)(g:Bool)(e r:Int),Zbl t A u f g e=some r->Yr 45 S0 w0 Tryz.f134 (Yj r) [1,1,1,0,1,0] ⟨[(0,(Yn t)),(1,(Yj A)),(5,(Yj f)),(6,(Yk g)),(7,(Yj e))],[]⟩:=by
 intro u;induction u with
 |zero=>
  intro f g e r b;simp[Zbl]at b
 |succ u i=>
  intro f g e r b;unfold Zbl at b;obtain⟨y,b⟩|⟨y,b⟩:=Zag b
  .obtain⟨B,b⟩:=Zao b;obtain⟨o,C,b⟩:=Zad b;have O1:=(mo y B (ZeQ _ _ C));obtain⟨h,b⟩|⟨h,b⟩:=Zag b
   .obtain⟨j,b⟩|⟨j,b⟩:=Zag b
    .obtain⟨p,b⟩|⟨p,b⟩:=Zag b
     .obtain⟨v,b⟩|⟨v,b⟩:=Zag b
      .exact Ye 19 [rz,rz,⟨[(1,aB o)],[(2,true),(7,true),(13,true),(16,true)],[],[],[],[],[]⟩,rz,rz,rz] [true,true] (Yi [0,1,5,6,7]) (mG O1 h j p v (mP true)) (i ((t.getD e.toNat Zab.d).fNext) true (Zaq e 1) r b)
      .let R2:List RA:=[rz,rz,⟨[(1,aB o)],[(2,true),(7,true),(13,true),(16,false)],[],[],[],[],[]⟩,rz]
       obtain⟨z,b⟩|⟨z,b⟩:=Zag b
       .exact Ye 19 (R2++[rz,rz]) [true,true] (Yi [0,1,5,6,7]) (mG O1 h j p v z) (i ((t.getD e.toNat Zab.d).fNext) true (Zaq e 1) r b)
       .exact Ye 17 R2 [true,false] (Yi [0,1,5,6,7]) (mG O1 h j p v z) (i f g (Zaq e 1) r b)
     .exact Ye 17 [rz,rz,⟨[(1,aB o)],[(2,true),(7,true),(13,false)],[],[],[],[],[]⟩,rz] [true,false] (Yi [0,1,5,6,7]) (mF O1 h j p (mP false)) (i f g (Zaq e 1) r b)
    .exact Ye 17 [rz,rz,⟨[(1,aB o)],[(2,true),(7,false)],[],[],[],[],[]⟩,rz] [true,false] (Yi [0,1,5,6,7]) (mE O1 h j (mP false)) (i f g (Zaq e 1) r b)
   .exact Ye 17 [rz,rz,⟨[(1,aB o)],[(2,false)],[],[],[],[],[]⟩,rz] [true,false] (Yi [0,1,5,6,7]) (mD O1 h (mP false)) (i f g (Zaq e 1) r b)
  .apply Ya b 8 [rz,rz] [false] (ml y)
def ZfB(b:List Zab)(d:Int):Option Int:=Zbl b d (((b.length:Int)-(0:Int)).toNat+2) (0:Int) false (0:Int)
theorem Zqn(b:List Zab)(d r:Int)(e:ZfB b d=some r):Yp 134 [Yn b,Yj d] (Yj r):=by
 refine Yv Tryz.func134 fun S0 w0=>?_;unfold ZfB at e;exact Ye 10 [rz,rz,rz,rz] [] (Yi [0,1,5,6,7]) .n (Zoi S0 w0 b d (((b.length:Int)-(0:Int)).toNat+2) (0:Int) false (0:Int) r e)
def ZcR(e:List Zab):Nat->Int->Zaj->Option Int|0,_,_=>none|fu+1,b,f=>bif(decide (b<(e.length:Int)))then need (0<=b/\b<(e.length:Int))<|bif(decide ((e.getD b.toNat Zab.d).fEnd=f))then some b else ZcR e fu (Zaq b 1) f else some (-1:Int)
theorem Zom(g:List Zab):∀(h:Nat)(f:Int)(e:Zaj)(r:Int),ZcR g h f e=some r->Yr 20 S0 w0 Tryz.f59 (Yj r) [1,0,1,0] ⟨[(0,(Yn g)),(3,.one (.ptr 3 0)),(5,(Yj f))],[(3,.box (Zaj.c e))]⟩:=by
 intro h;induction h with
 |zero=>
  intro f e r b;simp[ZcR]at b
 |succ h o=>
  intro f e r b;unfold ZcR at b;obtain⟨i,b⟩|⟨i,b⟩:=Zag b
  .obtain⟨p,b⟩:=Zao b
   let R1:List RA:=[rz,rA [(6,aB (decide ((g.getD f.toNat Zab.d).fEnd=e)))],rz]
   have O2:=(mo i p (ZhG ((g.getD f.toNat Zab.d).fEnd) e (.tmp 16) (.tmp 17)));obtain⟨j,b⟩|⟨j,b⟩:=Zag b
   .apply Ya b 13 R1 [true,true] (mC O2 j)
   .exact Ye 15 R1 [true,false] (ma [0,3,5] [3]) (mC O2 j) (o (Zaq f 1) e r b)
  .apply Ya b 8 [rz,rz] [false] (ml i)
def ZdD(b:List Zab)(d:Zaj):Option Int:=ZcR b (((b.length:Int)-(0:Int)).toNat+2) (0:Int) d
theorem Zeh(b:List Zab)(d:Zaj)(r:Int)(e:ZdD b d=some r):Yp 59 [Yn b,.agg (Zaj.c d)] (Yj r):=by
 refine Yv Tryz.func59 fun S0 w0=>?_;unfold ZdD at e;exact Ye 6 [rz,rz] [] (ma [0,3,5] [3]) .n (Zom S0 w0 b (((b.length:Int)-(0:Int)).toNat+2) (0:Int) d r e)
def Zfa(b:Zab)(d:Int):Option Zab:=some (Zab.mk b.fEnd d b.fFails b.fNext)
theorem Zli(b:Zab)(d:Int)(r:Zab)(e:Zfa b d=some r):Yp 136 [.agg (Zab.c b),Yj d] (.agg (Zab.c r)):=by
 refine Yv Tryz.func136 fun S0 w0=>?_;unfold Zfa at e;apply Ya e 6 [rz,rz,rz] [] .n
def Zdx(b:List Zab)(e:Zab):Option (List Zab):=(ZdD b e.fEnd).bind fun d=>bif(decide (d<(0:Int)))then some b else need ((([]:List Zab)++b).length * 56<=140737488355328/\(([]:List Zab)++b).length<=maxLen)<|need (0<=d/\d<(((([]:List Zab)++b).length:Nat):Int))<|some ((([]:List Zab)++b).set d.toNat e)
theorem ZfT(b:List Zab)(h:Zab)(r:List Zab)(f:Zdx b h=some r):Yp 135 [Yn b,.agg (Zab.c h)] (Yn r):=by
 refine Yv Tryz.func135 fun S0 w0=>?_;unfold Zdx at f;obtain⟨g,p,f⟩:=Zad f;obtain⟨o,f⟩|⟨o,f⟩:=Zag f
 .apply Ya f 10 [rz,rA [(3,aI g)],rz,rz] [true] (mn (Zeh _ _ _ p) o)
 .obtain⟨t,u,f⟩:=Yt f;apply Yb f 15 [rz,rA [(3,aI g)],rz,rA [(0,.c ([]:List Zab).length (Zam Zab.c Zab.d ([]:List Zab))),(2,.c ((([]:List Zab)++b).length) (Zam Zab.c Zab.d (([]:List Zab)++b)))],rA [(4,.c ((([]:List Zab)++b).set g.toNat h).length (Zam Zab.c Zab.d ((([]:List Zab)++b).set g.toNat h)))],rz] [false] [16] [] [] (.c (Zeh _ _ _ p) (mz o (show ([]:List Zab).length=0 from rfl) (mQ (e:=Zab.c) Zab.d 7 (fun _=>rfl) ([]:List Zab)) (Zcq (sz:=7) (e:=Zab.c) (d:=Zab.d) ([]:List Zab) b) t.1 t.2 u (show ((([]:List Zab)++b).set g.toNat h).length=(([]:List Zab)++b).length from List.length_set) (ltOf u) (show ExtU 7 ((([]:List Zab)++b).length) (Zam Zab.c Zab.d (([]:List Zab)++b)) g.toNat 0 (Zab.c h) (Zam Zab.c Zab.d ((([]:List Zab)++b).set g.toNat h))from(Zio _ _ _ rfl))))
def ZgS(h:Zav)(b:Zan)(g:Zas):Option (Zan×Zap):=(Zeg b).bind fun i=>bif(decide (i>=h.fMaxOut))then(Zby (5:Int)).bind fun j=>some (b,j)else(ZfC b.fBook b.fPeers b.fBans g.fNow).bind fun e=>bif(!e.2)then(ZfB b.fBook g.fNow).bind fun n=>some (b,(Zap.mk 6 (Zaj.mk (Zah.mk false 0 0) 0) 0 n ([]:(List Zaa))))else(ZdD b.fBook e.1).bind fun f=>need (0<=f/\f<(b.fBook.length:Int))<|(Zfa (b.fBook.getD f.toNat Zab.d) (2:Int)).bind fun o=>(Zdx b.fBook o).bind fun p=>some ((Zan.mk b.fBans p b.fPeers),(Zap.mk 0 e.1 0 0 ([]:(List Zaa))))
theorem Zqk(h:Zav)(i:Zan)(j:Zas)(r:(Zan×Zap))(b:ZgS h i j=some r):Yp 66 [.agg (Zav.c h),.agg (Zan.c i),.agg (Zas.c j)] (.tup [(true,Zan.c r.1),(true,Zap.c r.2)]):=by
 refine Yv Tryz.func66 fun S0 w0=>?_;unfold ZgS at b;obtain⟨o,p,b⟩:=Zad b;obtain⟨e,b⟩|⟨e,b⟩:=Zag b
 .obtain⟨u,v,b⟩:=Zad b;apply Ya b 8 [rz,rA [(1,aI o)],rA [(1,aG (Zap.c u))]] [true] (mo (ZhL _ _ p) e (Zbt _ _ v))
 .obtain⟨t,y,b⟩:=Zad b
  let R1:List RA:=[rz,rA [(1,aI o)],rA [(8,.r (.tup [(true,Zaj.c t.1),(false,cB t.2)]) [])],rz]
  have O2:=(mo (ZhL _ _ p) e (Zqo _ _ _ _ _ y));obtain⟨f,b⟩|⟨f,b⟩:=Zag b
  .obtain⟨z,A,b⟩:=Zad b;apply Yb b 15 (R1++[rA [(5,aI z)]]) [false,true] [] [(7,[(7,cL 10 Zaa.c Zaa.d [])])] [] (mD O2 f (Zqn _ _ _ A))
  .obtain⟨B,C,b⟩:=Zad b;obtain⟨D,b⟩:=Zao b;obtain⟨E,F,G,g,b⟩:=Yu b;apply Yb b 18 (R1++[rA [(7,aI B),(10,aG (Zab.c E)),(11,.r (Yn F) [])],rz]) [false,false] [] [(7,[(7,cL 10 Zaa.c Zaa.d [])])] [] (mG O2 f (Zeh _ _ _ C) D (Zli _ _ _ G) (ZfT _ _ _ g))
def Zef(b d:Int):Option Int:=(Zbn b).bind fun e=>(Zbn d).bind fun f=>(Zbn (Zaq e f)).bind fun g=>some g
theorem ZhC(d e r:Int)(b:Zef d e=some r):Yp 144 [Yj d,Yj e] (Yj r):=by
 refine Yv Tryz.func144 fun S0 w0=>?_;unfold Zef at b;obtain⟨f,g,h,i,b⟩:=Yu b;obtain⟨j,o,b⟩:=Zad b;apply Ya b 4 [rz,rA [(1,aI f),(3,aI g),(5,aI j)]] [] (mo (Zbb _ _ h) (Zbb _ _ i) (Zbb _ _ o))
def ZcM(e:Int):Nat->Int->Int->Option Int|0,_,_=>none|fu+1,b,d=>bif(decide (d<e))then bif(decide (d<(41:Int)))then(Zef b b).bind fun f=>ZcM e fu f (Zaq d 1)else some b else some b
theorem ZnR(i:Int):∀(e:Nat)(f d r:Int),ZcM i e f d=some r->Yr 21 S0 w0 Tryz.f338 (Yj r) [1,1,0,1,0] ⟨[(0,(Yj f)),(1,(Yj i)),(5,(Yj d))],[]⟩:=by
 intro e;induction e with
 |zero=>
  intro f d r b;simp[ZcM]at b
 |succ e o=>
  intro f d r b;unfold ZcM at b;obtain⟨g,b⟩|⟨g,b⟩:=Zag b
  .obtain⟨h,b⟩|⟨h,b⟩:=Zag b
   .obtain⟨j,p,b⟩:=Zad b;exact Ye 12 [rB [(3,true)],rA [(2,aI j)],rz] [true] (Yi [0,1,5]) (mo g h (ZhC _ _ _ p)) (o j (Zaq d 1) r b)
   .apply Ya b 8 [rB [(3,true)],rz] [false] (mn g h)
  .apply Ya b 8 [rB [(3,false)],rz] [false] (mn g (mP false))
def ZgC(b d:Int):Option Int:=(Zbn b).bind fun e=>ZcM d (((41:Int)-(0:Int)).toNat+2) e (0:Int)
theorem ZpY(e d r:Int)(b:ZgC e d=some r):Yp 338 [Yj e,Yj d] (Yj r):=by
 refine Yv Tryz.func338 fun S0 w0=>?_;unfold ZgC at b;obtain⟨f,g,b⟩:=Zad b;exact Ye 8 [rz,rA [(1,aI f)],rz] [] (Yi [0,1,5]) (ml (Zbb _ _ g)) (ZnR S0 w0 d (((41:Int)-(0:Int)).toNat+2) f (0:Int) r b)
def Zgx(b:Zav)(d:Int):Option Int:=bif(decide (d<(1:Int)))then some (0:Int)else(ZgC b.fBase (ZaG d (1:Int))).bind fun e=>(Zbn b.fCap).bind fun f=>bif(decide (f<e))then some f else some e
theorem ZpR(g:Zav)(h r:Int)(b:Zgx g h=some r):Yp 291 [.agg (Zav.c g),Yj h] (Yj r):=by
 refine Yv Tryz.func291 fun S0 w0=>?_;unfold Zgx at b;obtain⟨d,b⟩|⟨d,b⟩:=Zag b
 .apply Ya b 8 [rz,rz,rz] [true] (ml d)
 .obtain⟨i,e,o,j,b⟩:=Yu b;have O1:=(mo d (ZpY _ _ _ o) (Zbb _ _ j));obtain⟨f,b⟩|⟨f,b⟩:=Zag b
  .apply Ya b 15 [rz,rz,rA [(4,aI i)],rA [(2,aI e)],rA [(2,aI e)]] [false,true] (mD O1 f (Zbb _ _ j))
  .apply Ya b 16 [rz,rz,rA [(4,aI i)],rA [(2,aI e)],rz] [false,false] (mC O1 f)
def ZfU(b:Zav)(d:Int):Option Int:=bif(decide (b.fJitter<(1:Int)))then some (0:Int)else need (b.fJitter≠0)<|bif(decide ((Int.tmod d b.fJitter)<(0:Int)))then some (Zaq (Int.tmod d b.fJitter) b.fJitter)else some (Int.tmod d b.fJitter)
theorem ZoY(f:Zav)(g r:Int)(b:ZfU f g=some r):Yp 292 [.agg (Zav.c f),Yj g] (Yj r):=by
 refine Yv Tryz.func292 fun S0 w0=>?_;unfold ZfU at b;obtain⟨d,b⟩|⟨d,b⟩:=Zag b
 .apply Ya b 8 [rz,rz,rz] [true] (ml d)
 .obtain⟨h,b⟩:=Zao b;obtain⟨e,b⟩|⟨e,b⟩:=Zag b
  .apply Ya b 16 [rz,rz,rz,rz,rz,rz] [false,true] (mo d h e)
  .apply Ya b 16 [rz,rz,rz,rz,rz] [false,false] (mo d h e)
def Zew(b:Zav)(d e f:Int):Option Int:=(Zgx b d).bind fun g=>(Zef e g).bind fun h=>(ZfU b f).bind fun i=>(Zef h i).bind fun j=>some j
theorem ZlB(d:Zav)(e f g r:Int)(b:Zew d e f g=some r):Yp 212 [.agg (Zav.c d),Yj e,Yj f,Yj g] (Yj r):=by
 refine Yv Tryz.func212 fun S0 w0=>?_;unfold Zew at b;obtain⟨h,i,j,o,b⟩:=Yu b;obtain⟨p,t,u,v,b⟩:=Yu b;apply Ya b 4 [rz,rA [(3,aI h),(4,aI i),(7,aI p),(8,aI t)]] [] (mq (ZpR _ _ _ j) (ZhC _ _ _ o) (ZoY _ _ _ u) (ZhC _ _ _ v))
def Zei(d e f:Int)(g:Zav)(b j:Zab):Option Zab:=bif(decide (b.fFails>=(1000:Int)))then(Zew g (1000:Int) d e).bind fun h=>some (Zab.mk b.fEnd 1 1000 h)else(Zew g f d e).bind fun i=>some (Zab.mk b.fEnd 1 f i)
theorem ZhM(h i j:Int)(b:Zav)(e f r:Zab)(d:Zei h i j b e f=some r):Yr 33 S0 w0 Tryz.f137 (.agg (Zab.c r)) [1,1,1] ⟨[(2,(Yj h)),(3,(Yj i)),(4,.one (.ptr 4 0)),(5,.one (.ptr 5 0)),(8,.one (.ptr 8 0)),(9,(Yj j))],[(4,.box (Zav.c b)),(5,.box (Zab.c e)),(8,.box (Zab.c f))]⟩:=by
 unfold Zei at d;obtain⟨g,d⟩|⟨g,d⟩:=Zag d
 .obtain⟨o,p,d⟩:=Zad d;apply Ya d 7 [rz,rz,rA [(7,aI o)]] [true] (mn g (ZlB _ _ _ _ _ p))
 .obtain⟨t,u,d⟩:=Zad d;apply Ya d 7 [rz,rA [(7,aI t)]] [false] (mn g (ZlB _ _ _ _ _ u))
def ZdF(d:Zav)(b:Zab)(e f:Int):Option Zab:=bif(decide (b.fFails>(0:Int)))then bif(decide (b.fFails<(1000:Int)))then Zei e f (Zaq b.fFails (1:Int)) d b (Zab.mk (Zaj.mk (Zah.mk false 0 0) 0) 0 0 0)else Zei e f (1:Int) d b (Zab.mk (Zaj.mk (Zah.mk false 0 0) 0) 0 0 0)else Zei e f (1:Int) d b (Zab.mk (Zaj.mk (Zah.mk false 0 0) 0) 0 0 0)
theorem ZlA(e:Zav)(d:Zab)(f g:Int)(r:Zab)(b:ZdF e d f g=some r):Yp 137 [.agg (Zav.c e),.agg (Zab.c d),Yj f,Yj g] (.agg (Zab.c r)):=by
 refine Yv Tryz.func137 fun S0 w0=>?_;unfold ZdF at b;obtain⟨h,b⟩|⟨h,b⟩:=Zag b
 .obtain⟨i,b⟩|⟨i,b⟩:=Zag b
  .exact Ye 9 [rz,rz,rB [(3,true)],rz] [true] (ma [2,3,4,5,8,9] [4,5,8]) (mn h i) (ZhM S0 w0 f g (Zaq d.fFails (1:Int)) e d Zab.d r b)
  .exact Ye 9 [rz,rz,rB [(3,true)]] [false] (ma [2,3,4,5,8,9] [4,5,8]) (mn h i) (ZhM S0 w0 f g (1:Int) e d Zab.d r b)
 .exact Ye 9 [rz,rz,rB [(3,false)]] [false] (ma [2,3,4,5,8,9] [4,5,8]) (mn h (mP false)) (ZhM S0 w0 f g (1:Int) e d Zab.d r b)
def ZiF(b:Zab):Option Zab:=some (Zab.mk b.fEnd 3 0 b.fNext)
theorem Zqq(b r:Zab)(d:ZiF b=some r):Yp 138 [.agg (Zab.c b)] (.agg (Zab.c r)):=by
 refine Yv Tryz.func138 fun S0 w0=>?_;unfold ZiF at d;apply Ya d 4 [rz,rz] [] .n
def ZfR(u:Zav)(b:Zan)(e:Zas):Option (Zan×Zap):=(ZdD b.fBook e.fEnd).bind fun f=>bif(decide (f<(0:Int)))then(Zby (6:Int)).bind fun z=>some (b,z)else need (0<=f/\f<(b.fBook.length:Int))<|bif((b.fBook.getD f.toNat Zab.d).fState != (2:Int))then(Zby (6:Int)).bind fun A=>some (b,A)else(Zcy b.fBans e.fEnd.fAddr e.fNow).bind fun B=>bif(!e.fGood)then(ZdF u (b.fBook.getD f.toNat Zab.d) e.fNow e.fNum).bind fun g=>(Zdx b.fBook g).bind fun v=>bif e.fGood then some ((Zan.mk b.fBans v b.fPeers),(Zap.mk 8 (Zaj.mk (Zah.mk false 0 0) 0) g.fFails g.fNext ([]:(List Zaa))))else some ((Zan.mk b.fBans v b.fPeers),(Zap.mk 0 (Zaj.mk (Zah.mk false 0 0) 0) g.fFails g.fNext ([]:(List Zaa))))else bif(decide (B>(0:Int)))then(ZdF u (b.fBook.getD f.toNat Zab.d) e.fNow e.fNum).bind fun h=>(Zdx b.fBook h).bind fun y=>bif e.fGood then some ((Zan.mk b.fBans y b.fPeers),(Zap.mk 8 (Zaj.mk (Zah.mk false 0 0) 0) h.fFails h.fNext ([]:(List Zaa))))else some ((Zan.mk b.fBans y b.fPeers),(Zap.mk 0 (Zaj.mk (Zah.mk false 0 0) 0) h.fFails h.fNext ([]:(List Zaa))))else(Zca b.fPeers e.fEnd).bind fun C=>bif(decide (C>=(0:Int)))then(Zfa (b.fBook.getD f.toNat Zab.d) (1:Int)).bind fun i=>(Zdx b.fBook i).bind fun j=>(Zby (7:Int)).bind fun n=>some ((Zan.mk b.fBans j b.fPeers),n)else(ZiF (b.fBook.getD f.toNat Zab.d)).bind fun o=>(Zdx b.fBook o).bind fun p=>(Zed e.fEnd false e.fNow).bind fun r=>(Zdw b.fPeers r).bind fun t=>some ((Zan.mk b.fBans p t),(Zap.mk 0 (Zaj.mk (Zah.mk false 0 0) 0) 0 0 ([]:(List Zaa))))
theorem ZoT(R:Zav)(U:Zan)(V:Zas)(r:(Zan×Zap))(b:ZfR R U V=some r):Yp 67 [.agg (Zav.c R),.agg (Zan.c U),.agg (Zas.c V)] (.tup [(true,Zan.c r.1),(true,Zap.c r.2)]):=by
 refine Yv Tryz.func67 fun S0 w0=>?_;unfold ZfR at b;obtain⟨j,W,b⟩:=Zad b;obtain⟨o,b⟩|⟨o,b⟩:=Zag b
 .obtain⟨x2,q3,b⟩:=Zad b;apply Ya b 10 [rz,rA [(4,aI j)],rB [(2,true)],rA [(1,aG (Zap.c x2))]] [true] (mq (Zeh _ _ _ W) o (mP true) (Zbt _ _ q3))
 .obtain⟨Z,b⟩:=Zao b;have O1:=(mo (Zeh _ _ _ W) o Z);obtain⟨p,b⟩|⟨p,b⟩:=Zag b
  .obtain⟨x3,q6,b⟩:=Zad b;apply Ya b 10 [rz,rA [(4,aI j)],rB [(2,false)],rA [(1,aG (Zap.c x3))]] [true] (mD O1 p (Zbt _ _ q6))
  .obtain⟨x4,q7,b⟩:=Zad b
   let R2:List RA:=[rz,rA [(4,aI j)],rB [(2,false)],rz,rA [(7,aI x4)]]
   have O3:=(mE O1 p Z (ZdT _ _ _ _ q7));obtain⟨i,b⟩|⟨i,b⟩:=Zag b
   .obtain⟨x5,q9,b⟩:=Zad b;obtain⟨x6,t,b⟩:=Zad b
    let R4:List RA:=(R2++[rB [(3,true)],rA [(6,aG (Zab.c x5))],rA [(3,.r (Yn x6) [])],rz,rz,rz])
    have O5:=(mF O3 i (mP true) (ZlA _ _ _ _ _ q9) (ZfT _ _ _ t));obtain⟨e,b⟩|⟨e,b⟩:=Zag b
    .apply Yb b 30 (R4++[rz]) [false,true,true] [] [(7,[(7,cL 10 Zaa.c Zaa.d [])])] [] (mC O5 e)
    .apply Yb b 30 R4 [false,true,false] [] [(7,[(7,cL 10 Zaa.c Zaa.d [])])] [] (mC O5 e)
   .obtain⟨f,b⟩|⟨f,b⟩:=Zag b
    .obtain⟨x7,u,b⟩:=Zad b;obtain⟨x8,v,b⟩:=Zad b
     let R6:List RA:=(R2++[rB [(3,false)],rA [(6,aG (Zab.c x7))],rA [(3,.r (Yn x8) [])],rz,rz,rz])
     have O7:=(mF O3 i f (ZlA _ _ _ _ _ u) (ZfT _ _ _ v));obtain⟨g,b⟩|⟨g,b⟩:=Zag b
     .apply Yb b 30 (R6++[rz]) [false,true,true] [] [(7,[(7,cL 10 Zaa.c Zaa.d [])])] [] (mC O7 g)
     .apply Yb b 30 R6 [false,true,false] [] [(7,[(7,cL 10 Zaa.c Zaa.d [])])] [] (mC O7 g)
    .obtain⟨x9,y,b⟩:=Zad b;have O8:=(mE O3 i f (ZbK _ _ _ y));obtain⟨h,b⟩|⟨h,b⟩:=Zag b
     .obtain⟨z,A,B,C,b⟩:=Yu b;obtain⟨D,E,b⟩:=Zad b;apply Ya b 26 (R2++[rB [(3,false)],rA [(4,aI x9)],rA [(3,aG (Zab.c z)),(4,.r (Yn A) [])],rA [(1,aG (Zap.c D))]]) [false,false,true] (mF O8 h (Zli _ _ _ B) (ZfT _ _ _ C) (Zbt _ _ E))
     .obtain⟨F,G,H,I,b⟩:=Yu b;obtain⟨J,L,M,O,b⟩:=Yu b;apply Yb b 29 (R2++[rB [(3,false)],rA [(4,aI x9)],rA [(3,aG (Zab.c F)),(4,.r (Yn G) [])],rA [(6,aG (Zaa.c J)),(7,.r (Ym L) [])],rz]) [false,false,false] [] [(7,[(7,cL 10 Zaa.c Zaa.d [])])] [] (mG O8 h (Zqq _ _ H) (ZfT _ _ _ I) (Zmn _ _ _ _ M) (Zju _ _ _ O))
def Zej(b:Int):Option Int:=bif(b==(1:Int))then some (1:Int)else bif(b==(2:Int))then some (10:Int)else bif(b==(3:Int))then some (20:Int)else bif(b==(4:Int))then some (50:Int)else bif(b==(5:Int))then some (100:Int)else some (0:Int)
theorem Zot(i r:Int)(b:Zej i=some r):Yp 140 [Yj i] (Yj r):=by
 refine Yv Tryz.func140 fun S0 w0=>?_;unfold Zej at b;obtain⟨d,b⟩|⟨d,b⟩:=Zag b
 .apply Ya b 11 [rz,rz,rz,rz] [true] (ml d)
 .obtain⟨e,b⟩|⟨e,b⟩:=Zag b
  .apply Ya b 14 [rz,rz,rz,rz,rz] [false,true] (mn d e)
  .obtain⟨f,b⟩|⟨f,b⟩:=Zag b
   .apply Ya b 17 [rz,rz,rz,rz,rz,rz] [false,false,true] (mo d e f)
   .obtain⟨g,b⟩|⟨g,b⟩:=Zag b
    .apply Ya b 20 [rz,rz,rz,rz,rz,rz,rz] [false,false,false,true] (mq d e f g)
    .obtain⟨h,b⟩|⟨h,b⟩:=Zag b
     .apply Ya b 23 [rz,rz,rz,rz,rz,rz,rz,rz] [false,false,false,false,true] (mr d e f g h)
     .apply Ya b 25 [rz,rz,rz,rz,rz,rz,rz,rz] [false,false,false,false,false] (mr d e f g h)
def ZcI(d:Int)(f:Zay):Nat->Int->Zay->Option Zay|0,_,_=>none|fu+1,e,b=>bif(decide (b.fPoints>(0:Int)))then bif(decide ((ZaG e b.fAt)>=d))then ZcI d f fu e (Zay.mk (IntKind.wrap .i64 (Int.tdiv b.fPoints (2:Int))) (Zaq b.fAt d))else bif(decide ((ZaG e b.fAt)>=d))then need (d≠0)<|some (Zay.mk b.fPoints (ZaG e (Int.tmod (ZaG e b.fAt) d)))else some b else bif(decide ((ZaG e b.fAt)>=d))then need (d≠0)<|some (Zay.mk b.fPoints (ZaG e (Int.tmod (ZaG e b.fAt) d)))else some b
theorem ZnM(j:Int)(o:Zay):∀(h:Nat)(g:Int)(d r:Zay),ZcI j o h g d=some r->Yr 57 S0 w0 Tryz.f293 (.agg (Zay.c r)) [1,1,1,1,1,1,0,0] ⟨[(1,(Yj j)),(2,(Yj g)),(3,.one (.ptr 3 0)),(6,.one (.ptr 6 0))],[(3,.box (Zay.c d)),(6,.box (Zay.c o))]⟩:=by
 intro h;induction h with
 |zero=>
  intro g d r b;simp[ZcI]at b
 |succ h u=>
  intro g d r b;unfold ZcI at b;obtain⟨f,b⟩|⟨f,b⟩:=Zag b
  .obtain⟨i,b⟩|⟨i,b⟩:=Zag b
   .exact Ye 12 [rB [(3,true)],rz,rz] [true] (ma [1,2,3,6] [3,6]) (mo f i (show (2:Int)≠0 from(by decide))) (u g (Zay.mk (IntKind.wrap .i64 (Int.tdiv d.fPoints (2:Int))) (Zaq d.fAt j)) r b)
   .obtain⟨p,b⟩|⟨p,b⟩:=Zag b
    .obtain⟨v,b⟩:=Zao b;apply Ya b 13 [rB [(3,true)],rz,rz,rz] [false,true] (mq f i p v)
    .apply Ya b 13 [rB [(3,true)],rz,rz] [false,false] (mo f i p)
  .obtain⟨e,b⟩|⟨e,b⟩:=Zag b
   .obtain⟨t,b⟩:=Zao b;apply Ya b 13 [rB [(3,false)],rz,rz,rz] [false,true] (mq f (mP false) e t)
   .apply Ya b 13 [rB [(3,false)],rz,rz] [false,false] (mo f (mP false) e)
def ZdS(d:Int)(b e:Zay)(f:Int):Option Zay:=(Zbn b.fAt).bind fun g=>(Zbn d).bind fun h=>(Zbn b.fPoints).bind fun i=>ZcI f e 1000000 h (Zay.mk i g)
theorem ZjP(g:Int)(e d:Zay)(f:Int)(r:Zay)(b:ZdS g e d f=some r):Yr 57 S0 w0 Tryz.f293 (.agg (Zay.c r)) [1,1,1] ⟨[(1,(Yj f)),(2,(Yj g)),(3,.one (.ptr 3 0)),(6,.one (.ptr 6 0))],[(3,.box (Zay.c e)),(6,.box (Zay.c d))]⟩:=by
 unfold ZdS at b;obtain⟨h,i,o,p,b⟩:=Yu b;obtain⟨j,t,b⟩:=Zad b;exact Ye 8 [rA [(2,aI h)],rA [(1,aI i)],rA [(2,aI j)]] [] (ma [1,2,3,6] [3,6]) (mo (Zbb _ _ o) (Zbb _ _ p) (Zbb _ _ t)) (ZnM S0 w0 f d 1000000 i (Zay.mk j h) r b)
def ZeR(b d:Int)(e f:Zay):Option Zay:=bif(decide (d>(1073741824:Int)))then ZdS b e f (1073741824:Int)else ZdS b e f d
theorem ZjQ(f g:Int)(d e r:Zay)(b:ZeR f g d e=some r):Yr 57 S0 w0 Tryz.f293 (.agg (Zay.c r)) [1,1] ⟨[(1,(Yj g)),(2,(Yj f)),(3,.one (.ptr 3 0)),(6,.one (.ptr 6 0))],[(3,.box (Zay.c d)),(6,.box (Zay.c e))]⟩:=by
 unfold ZeR at b;obtain⟨h,b⟩|⟨h,b⟩:=Zag b
 .exact Ye 5 [rz,rz] [true] (ma [1,2,3,6] [3,6]) (ml h) (ZjP S0 w0 f d e (1073741824:Int) r b)
 .exact Ye 5 [rz] [false] (ma [1,2,3,6] [3,6]) (ml h) (ZjP S0 w0 f d e g r b)
def Zgz(b:Zay)(d e:Int):Option Zay:=bif(decide (d<(1:Int)))then ZeR e (1:Int) b (Zay.mk 0 0)else ZeR e d b (Zay.mk 0 0)
theorem ZpV(d:Zay)(f e:Int)(r:Zay)(b:Zgz d f e=some r):Yp 293 [.agg (Zay.c d),Yj f,Yj e] (.agg (Zay.c r)):=by
 refine Yv Tryz.func293 fun S0 w0=>?_;unfold Zgz at b;obtain⟨g,b⟩|⟨g,b⟩:=Zag b
 .exact Ye 7 [rz,rz,rz] [true] (ma [1,2,3,6] [3,6]) (ml g) (ZjQ S0 w0 e (1:Int) d Zay.d r b)
 .exact Ye 7 [rz,rz] [false] (ma [1,2,3,6] [3,6]) (ml g) (ZjQ S0 w0 e f d Zay.d r b)
def ZhB(e:Zay)(f g h:Int):Option Zay:=(Zgz e g h).bind fun b=>(Zbn f).bind fun d=>bif(decide (d>(16777216:Int)))then(Zbn (Zaq b.fPoints (ZiO (16777216:Int) (65536:Int)))).bind fun i=>some (Zay.mk i b.fAt)else(Zbn (Zaq b.fPoints (ZiO d (65536:Int)))).bind fun j=>some (Zay.mk j b.fAt)
theorem ZqZ(e:Zay)(f g h:Int)(r:Zay)(b:ZhB e f g h=some r):Yp 213 [.agg (Zay.c e),Yj f,Yj g,Yj h] (.agg (Zay.c r)):=by
 refine Yv Tryz.func213 fun S0 w0=>?_;unfold ZhB at b;obtain⟨i,j,b⟩:=Zad b;obtain⟨o,p,b⟩:=Zad b
 let R1:List RA:=[rz,rA [(3,aG (Zay.c i))],rA [(1,aI o)],rz]
 have O2:=(mn (ZpV _ _ _ _ j) (Zbb _ _ p));obtain⟨d,b⟩|⟨d,b⟩:=Zag b
 .obtain⟨t,u,b⟩:=Zad b;apply Ya b 15 (R1++[rz,rA [(5,aI t)],rz]) [true] (mD O2 d (Zbb _ _ u))
 .obtain⟨v,y,b⟩:=Zad b;apply Ya b 15 (R1++[rA [(5,aI v)],rz]) [false] (mD O2 d (Zbb _ _ y))
def ZfW(b:Zaa)(d e f:Int):Option Zaa:=(ZhB b.fScore d e f).bind fun g=>some (Zaa.mk b.fEnd b.fIn b.fSince g b.fPing b.fWork)
theorem Zpd(d:Zaa)(e f g:Int)(r:Zaa)(b:ZfW d e f g=some r):Yp 139 [.agg (Zaa.c d),Yj e,Yj f,Yj g] (.agg (Zaa.c r)):=by
 refine Yv Tryz.func139 fun S0 w0=>?_;unfold ZfW at b;obtain⟨h,i,b⟩:=Zad b;apply Ya b 6 [rz,rA [(5,aG (Zay.c h))],rz] [] (ml (ZqZ _ _ _ _ _ i))
def Zcx(b:Zay):Option Int:=bif(decide (b.fPoints<(0:Int)))then some (0:Int)else some (IntKind.wrap .i64 (Int.tdiv b.fPoints (65536:Int)))
theorem ZiG(e:Zay)(r:Int)(b:Zcx e=some r):Yp 143 [.agg (Zay.c e)] (Yj r):=by
 refine Yv Tryz.func143 fun S0 w0=>?_;unfold Zcx at b;obtain⟨d,b⟩|⟨d,b⟩:=Zag b
 .apply Ya b 8 [rz,rz,rz] [true] (ml d)
 .apply Ya b 9 [rz,rz,rz] [false] (mn d (show (65536:Int)≠0 from(by decide)))
def Zem(b:Int)(d:Zay):Option Bool:=bif(decide (b>(16777216:Int)))then(Zcx d).bind fun e=>some (decide (e>=(16777216:Int)))else(Zcx d).bind fun f=>some (decide (f>=b))
theorem Zjh(f:Int)(d:Zay)(r:Bool)(b:Zem f d=some r):Yr 13 S0 w0 Tryz.f141 (Yk r) [1,1] ⟨[(1,(Yj f)),(2,.one (.ptr 2 0))],[(2,.box (Zay.c d))]⟩:=by
 unfold Zem at b;obtain⟨e,b⟩|⟨e,b⟩:=Zag b
 .obtain⟨g,h,b⟩:=Zad b;apply Ya b 7 [rz,rz,rA [(1,aI g)]] [true] (mn e (ZiG _ _ h))
 .obtain⟨i,j,b⟩:=Zad b;apply Ya b 7 [rz,rA [(1,aI i)]] [false] (mn e (ZiG _ _ j))
def Zfr(b:Zay)(d:Int):Option Bool:=bif(decide (d<(1:Int)))then Zem (1:Int) b else Zem d b
theorem Zos(d:Zay)(e:Int)(r:Bool)(b:Zfr d e=some r):Yp 141 [.agg (Zay.c d),Yj e] (Yk r):=by
 refine Yv Tryz.func141 fun S0 w0=>?_;unfold Zfr at b;obtain⟨f,b⟩|⟨f,b⟩:=Zag b
 .exact Ye 7 [rz,rz,rz] [true] (ma [1,2] [2]) (ml f) (Zjh S0 w0 (1:Int) d r b)
 .exact Ye 7 [rz,rz] [false] (ma [1,2] [2]) (ml f) (Zjh S0 w0 e d r b)
def ZeP(b:List Zaa)(e:Zaa):Option (List Zaa):=(Zca b e.fEnd).bind fun d=>bif(decide (d<(0:Int)))then some b else need ((([]:List Zaa)++b).length * 80<=140737488355328/\(([]:List Zaa)++b).length<=maxLen)<|need (0<=d/\d<(((([]:List Zaa)++b).length:Nat):Int))<|some ((([]:List Zaa)++b).set d.toNat e)
theorem Zjt(b:List Zaa)(h:Zaa)(r:List Zaa)(f:ZeP b h=some r):Yp 142 [Ym b,.agg (Zaa.c h)] (Ym r):=by
 refine Yv Tryz.func142 fun S0 w0=>?_;unfold ZeP at f;obtain⟨g,p,f⟩:=Zad f;obtain⟨o,f⟩|⟨o,f⟩:=Zag f
 .apply Ya f 10 [rz,rA [(3,aI g)],rz,rz] [true] (mn (ZbK _ _ _ p) o)
 .obtain⟨t,u,f⟩:=Yt f;apply Yb f 15 [rz,rA [(3,aI g)],rz,rA [(0,.c ([]:List Zaa).length (Zam Zaa.c Zaa.d ([]:List Zaa))),(2,.c ((([]:List Zaa)++b).length) (Zam Zaa.c Zaa.d (([]:List Zaa)++b)))],rA [(4,.c ((([]:List Zaa)++b).set g.toNat h).length (Zam Zaa.c Zaa.d ((([]:List Zaa)++b).set g.toNat h)))],rz] [false] [16] [] [] (.c (ZbK _ _ _ p) (mz o (show ([]:List Zaa).length=0 from rfl) (mQ (e:=Zaa.c) Zaa.d 10 (fun _=>rfl) ([]:List Zaa)) (Zcq (sz:=10) (e:=Zaa.c) (d:=Zaa.d) ([]:List Zaa) b) t.1 t.2 u (show ((([]:List Zaa)++b).set g.toNat h).length=(([]:List Zaa)++b).length from List.length_set) (ltOf u) (show ExtU 10 ((([]:List Zaa)++b).length) (Zam Zaa.c Zaa.d (([]:List Zaa)++b)) g.toNat 0 (Zaa.c h) (Zam Zaa.c Zaa.d ((([]:List Zaa)++b).set g.toNat h))from(Zio _ _ _ rfl))))
def ZdH(i g h e b d:Int)(aD:Int->Int->Int->Int->Option (Int×Int))(f:Int):Option (Int×Int):=bif(decide ((Zaq d 64)<h))then need (b≠0)<|bif((Int.tmod (IntKind.wrap .u64 (Int.tdiv g b)) (2:Int))==(1:Int))then aD f (IntKind.wrap .u64 (e+b)) (IntKind.wrap .u64 (Int.tdiv b (2:Int))) (Zaq d 1)else aD f e (IntKind.wrap .u64 (Int.tdiv b (2:Int))) (Zaq d 1)else aD f e (IntKind.wrap .u64 (Int.tdiv b (2:Int))) (Zaq d 1)
theorem Zii(h i j f b e:Int)(aD:Int->Int->Int->Int->Option (Int×Int))(aV:∀(dz gT cF cG:Int)(r:(Int×Int)),aD dz gT cF cG=some r->Yr 47 S0 w0 Tryz.f328 (.tup [(false,(cI .u64) r.1),(false,(cI .u64) r.2)]) [1,1,1,0,1,0] ⟨[(0,.one (.lit (.int .u64 h))),(1,.one (.lit (.int .u64 i))),(2,(Yj j)),(8,.one (.lit (.int .u64 dz))),(9,.one (.lit (.int .u64 gT))),(10,.one (.lit (.int .u64 cF))),(11,(Yj cG))],[]⟩)(g:Int)(r:(Int×Int))(d:ZdH h i j f b e aD g=some r):Yr 47 S0 w0 Tryz.f328 (.tup [(false,(cI .u64) r.1),(false,(cI .u64) r.2)]) [1,1,1,0,1,0,0,1,0,0,1] ⟨[(0,.one (.lit (.int .u64 h))),(1,.one (.lit (.int .u64 i))),(2,(Yj j)),(8,.one (.lit (.int .u64 g))),(9,.one (.lit (.int .u64 f))),(10,.one (.lit (.int .u64 b))),(11,(Yj e))],[]⟩:=by
 unfold ZdH at d;obtain⟨o,d⟩|⟨o,d⟩:=Zag d
 .obtain⟨t,d⟩:=Zao d;have O1:=(mo o t (show (2:Int)≠0 from(by decide)));obtain⟨p,d⟩|⟨p,d⟩:=Zag d
  .exact Ye 9 [rB [(4,true)],rz,rz,rz] [true] (Yi [0,1,2,8,9,10,11]) (mD O1 p (show (2:Int)≠0 from(by decide))) (aV g (IntKind.wrap .u64 (f+b)) (IntKind.wrap .u64 (Int.tdiv b (2:Int))) (Zaq e 1) r d)
  .exact Ye 9 [rB [(4,true)],rz,rz] [false] (Yi [0,1,2,8,9,10,11]) (mD O1 p (show (2:Int)≠0 from(by decide))) (aV g f (IntKind.wrap .u64 (Int.tdiv b (2:Int))) (Zaq e 1) r d)
 .exact Ye 9 [rB [(4,false)],rz,rz] [false] (Yi [0,1,2,8,9,10,11]) (mo o (mP false) (show (2:Int)≠0 from(by decide))) (aV g f (IntKind.wrap .u64 (Int.tdiv b (2:Int))) (Zaq e 1) r d)
def ZbD(e g f:Int):Nat->Int->Int->Int->Int->Option (Int×Int)|0,_,_,_,_=>none|fu+1,h,i,b,d=>bif(decide (d<(64:Int)))then bif(decide (d<f))then need (b≠0)<|bif((Int.tmod (IntKind.wrap .u64 (Int.tdiv e b)) (2:Int))==(1:Int))then ZdH e g f i b d (ZbD e g f fu) (IntKind.wrap .u64 (h+b))else ZdH e g f i b d (ZbD e g f fu) h else ZdH e g f i b d (ZbD e g f fu) h else some (h,i)
theorem Zpg(f g h:Int):∀(i:Nat)(j o d e:Int)(r:(Int×Int)),ZbD f g h i j o d e=some r->Yr 47 S0 w0 Tryz.f328 (.tup [(false,(cI .u64) r.1),(false,(cI .u64) r.2)]) [1,1,1,0,1,0] ⟨[(0,.one (.lit (.int .u64 f))),(1,.one (.lit (.int .u64 g))),(2,(Yj h)),(8,.one (.lit (.int .u64 j))),(9,.one (.lit (.int .u64 o))),(10,.one (.lit (.int .u64 d))),(11,(Yj e))],[]⟩:=by
 intro i;induction i with
 |zero=>
  intro j o d e r b;simp[ZbD]at b
 |succ i t=>
  intro j o d e r b;unfold ZbD at b;obtain⟨p,b⟩|⟨p,b⟩:=Zag b
  .obtain⟨u,b⟩|⟨u,b⟩:=Zag b
   .obtain⟨y,b⟩:=Zao b;have O2:=(mq p u y (show (2:Int)≠0 from(by decide)));obtain⟨v,b⟩|⟨v,b⟩:=Zag b
    .exact Ye 13 [rz,rB [(3,true)],rz] [true,true] (Yi [0,1,2,8,9,10,11]) (mC O2 v) (Zii S0 w0 f g h o d e (ZbD f g h i) t (IntKind.wrap .u64 (j+d)) r b)
    .exact Ye 13 [rz,rB [(3,true)]] [true,false] (Yi [0,1,2,8,9,10,11]) (mC O2 v) (Zii S0 w0 f g h o d e (ZbD f g h i) t j r b)
   .exact Ye 13 [rz,rB [(3,false)]] [true,false] (Yi [0,1,2,8,9,10,11]) (mo p u (mP false)) (Zii S0 w0 f g h o d e (ZbD f g h i) t j r b)
  .apply Ya b 8 [rz,rz] [false] (ml p)
def Zee(b d e:Int):Option (Int×Int):=ZbD b d e (((64:Int)-(0:Int)).toNat+2) (0:Int) (0:Int) (9223372036854775808:Int) (0:Int)
theorem Zmr(b d e:Int)(r:(Int×Int))(f:Zee b d e=some r):Yp 328 [.one (.lit (.int .u64 b)),.one (.lit (.int .u64 d)),Yj e] (.tup [(false,(cI .u64) r.1),(false,(cI .u64) r.2)]):=by
 refine Yv Tryz.func328 fun S0 w0=>?_;unfold Zee at f;exact Ye 10 [rz,rz,rz,rz] [] (Yi [0,1,2,8,9,10,11]) .n (Zpg S0 w0 b d e (((64:Int)-(0:Int)).toNat+2) (0:Int) (0:Int) (9223372036854775808:Int) (0:Int) r f)
def Zfs(b g:Zah)(d:Int):Option Zah:=bif b.fV6 then(Zee b.fHi b.fLo d).bind fun e=>some (Zah.mk true e.1 e.2)else(Zee (0:Int) b.fLo (Zaq (96:Int) d)).bind fun f=>some (Zah.mk false 0 f.2)
theorem Zki(d e:Zah)(g:Int)(r:Zah)(b:Zfs d e g=some r):Yr 45 S0 w0 Tryz.f267 (.agg (Zah.c r)) [1,1,1,1] ⟨[(1,(Yj g)),(2,.one (.ptr 2 0)),(4,.one (.ptr 4 0))],[(2,.box (Zah.c d)),(4,.box (Zah.c e))]⟩:=by
 unfold Zfs at b;obtain⟨f,b⟩|⟨f,b⟩:=Zag b
 .obtain⟨h,j,b⟩:=Zad b;apply Ya b 8 [rz,rA [(5,.r (.tup [(false,(cI .u64) h.1),(false,(cI .u64) h.2)]) [])],rz] [true] (mn f (Zmr _ _ _ _ j))
 .obtain⟨i,o,b⟩:=Zad b;apply Ya b 9 [rz,rA [(4,.r (.tup [(false,(cI .u64) i.1),(false,(cI .u64) i.2)]) [])],rz] [false] (mn f (Zmr _ _ _ _ o))
def Zft(d:Int)(b e:Zah):Option Zah:=(ZbM b).bind fun f=>bif(decide (d>f))then Zfs b e f else Zfs b e d
theorem Zkj(g:Int)(d e r:Zah)(b:Zft g d e=some r):Yr 45 S0 w0 Tryz.f267 (.agg (Zah.c r)) [1,1,1] ⟨[(1,(Yj g)),(2,.one (.ptr 2 0)),(4,.one (.ptr 4 0))],[(2,.box (Zah.c d)),(4,.box (Zah.c e))]⟩:=by
 unfold Zft at b;obtain⟨f,h,b⟩:=Zad b;obtain⟨i,b⟩|⟨i,b⟩:=Zag b
 .exact Ye 5 [rA [(2,aI f)],rA [(1,aI f)]] [true] (ma [1,2,4] [2,4]) (mo (Zct _ _ h) i (Zct _ _ h)) (Zki S0 w0 d e f r b)
 .exact Ye 5 [rA [(2,aI f)]] [false] (ma [1,2,4] [2,4]) (mn (Zct _ _ h) i) (Zki S0 w0 d e g r b)
def ZiJ(b:Zah)(d:Int):Option Zah:=(Zbu b).bind fun e=>bif(!e)then some (Zah.mk false 0 0)else bif(decide (d<(0:Int)))then Zft (0:Int) b (Zah.mk false 0 0)else Zft d b (Zah.mk false 0 0)
theorem Zqw(d:Zah)(e:Int)(r:Zah)(b:ZiJ d e=some r):Yp 267 [.agg (Zah.c d),Yj e] (.agg (Zah.c r)):=by
 refine Yv Tryz.func267 fun S0 w0=>?_;unfold ZiJ at b;obtain⟨f,i,b⟩:=Zad b;obtain⟨g,b⟩|⟨g,b⟩:=Zag b
 .apply Ya b 8 [rz,rA [(1,aB f)],rz] [true] (mn (ZaT _ _ i) g)
 .have O1:=(mn (ZaT _ _ i) g);obtain⟨h,b⟩|⟨h,b⟩:=Zag b
  .exact Ye 12 [rz,rA [(1,aB f)],rz,rz] [false,true] (ma [1,2,4] [2,4]) (mC O1 h) (Zkj S0 w0 (0:Int) d Zah.d r b)
  .exact Ye 12 [rz,rA [(1,aB f)],rz] [false,false] (ma [1,2,4] [2,4]) (mC O1 h) (Zkj S0 w0 e d Zah.d r b)
def ZiK(d:Zah)(b:Int):Option (Zae×Bool):=(Zbu d).bind fun e=>bif(!e)then some ((Zae.mk (Zah.mk false 0 0) 0),false)else bif(decide (b<(0:Int)))then some ((Zae.mk (Zah.mk false 0 0) 0),false)else(ZbM d).bind fun f=>bif(decide (b>f))then some ((Zae.mk (Zah.mk false 0 0) 0),false)else(ZiJ d b).bind fun g=>some ((Zae.mk g b),true)
theorem Zqx(h:Zah)(i:Int)(r:(Zae×Bool))(b:ZiK h i=some r):Yp 195 [.agg (Zah.c h),Yj i] (.tup [(true,Zae.c r.1),(false,cB r.2)]):=by
 refine Yv Tryz.func195 fun S0 w0=>?_;unfold ZiK at b;obtain⟨d,j,b⟩:=Zad b;obtain⟨e,b⟩|⟨e,b⟩:=Zag b
 .apply Ya b 8 [rz,⟨[(1,aB d)],[(3,true)],[],[],[],[],[]⟩,rz] [true] (mo (ZaT _ _ j) e (mP true))
 .have O1:=(mn (ZaT _ _ j) e);obtain⟨f,b⟩|⟨f,b⟩:=Zag b
  .apply Ya b 8 [rz,⟨[(1,aB d)],[(3,false),(7,true)],[],[],[],[],[]⟩,rz] [true] (mD O1 f (mP true))
  .obtain⟨o,p,b⟩:=Zad b
   let R2:List RA:=[rz,⟨[(1,aB d),(10,aI o)],[(3,false),(7,false)],[],[],[],[],[]⟩]
   have O3:=(mD O1 f (Zct _ _ p));obtain⟨g,b⟩|⟨g,b⟩:=Zag b
   .apply Ya b 8 (R2++[rz]) [true] (mC O3 g)
   .obtain⟨t,u,b⟩:=Zad b;apply Ya b 9 (R2++[rA [(2,aG (Zah.c t))]]) [false] (mD O3 g (Zqw _ _ _ u))
def ZgY(b:Zah):Option Zae:=(ZbM b).bind fun d=>(ZiK b d).bind fun e=>some e.1
theorem Zqy(d:Zah)(r:Zae)(b:ZgY d=some r):Yp 110 [.agg (Zah.c d)] (.agg (Zae.c r)):=by
 refine Yv Tryz.func110 fun S0 w0=>?_;unfold ZgY at b;obtain⟨f,e,g,h,b⟩:=Yu b;apply Ya b 6 [rz,rA [(2,aI f),(3,.r (.tup [(true,Zae.c e.1),(false,cB e.2)]) [])],rz] [] (mn (Zct _ _ g) (Zqx _ _ _ h))
def ZgB(b:Zac):Option Bool:=(ZdY b.fNet).bind fun d=>bif d then bif(decide (b.fUntil>(0:Int)))then some (decide (b.fUntil<=(1099511627776:Int)))else some false else some false
theorem Zll(g:Zac)(r:Bool)(b:ZgB g=some r):Yp 32 [.agg (Zac.c g)] (Yk r):=by
 refine Yv Tryz.func32 fun S0 w0=>?_;unfold ZgB at b;obtain⟨d,h,b⟩:=Zad b;obtain⟨e,b⟩|⟨e,b⟩:=Zag b
 .have O1:=(mn (ZeU _ _ h) e);obtain⟨f,b⟩|⟨f,b⟩:=Zag b
  .apply Ya b 4 [rz,⟨[(2,aB d)],[(3,true),(8,true)],[],[],[],[],[]⟩] [] (mC O1 f)
  .apply Ya b 4 [rz,⟨[(2,aB d)],[(3,true),(8,false)],[],[],[],[],[]⟩] [] (mC O1 f)
 .apply Ya b 4 [rz,⟨[(2,aB d)],[(3,false)],[],[],[],[],[]⟩] [] (mn (ZeU _ _ h) e)
def ZcK(e:List Zac):Nat->Int->Zae->Option Int|0,_,_=>none|fu+1,b,f=>bif(decide (b<(e.length:Int)))then need (0<=b/\b<(e.length:Int))<|bif(decide ((e.getD b.toNat Zac.d).fNet=f))then some b else ZcK e fu (Zaq b 1) f else some (-1:Int)
theorem ZnP(g:List Zac):∀(h:Nat)(f:Int)(e:Zae)(r:Int),ZcK g h f e=some r->Yr 20 S0 w0 Tryz.f214 (Yj r) [1,0,1,0] ⟨[(0,(Yl g)),(3,.one (.ptr 3 0)),(5,(Yj f))],[(3,.box (Zae.c e))]⟩:=by
 intro h;induction h with
 |zero=>
  intro f e r b;simp[ZcK]at b
 |succ h o=>
  intro f e r b;unfold ZcK at b;obtain⟨i,b⟩|⟨i,b⟩:=Zag b
  .obtain⟨p,b⟩:=Zao b
   let R1:List RA:=[rz,rA [(6,aB (decide ((g.getD f.toNat Zac.d).fNet=e)))],rz]
   have O2:=(mo i p (Zlv ((g.getD f.toNat Zac.d).fNet) e (.tmp 16) (.tmp 17)));obtain⟨j,b⟩|⟨j,b⟩:=Zag b
   .apply Ya b 13 R1 [true,true] (mC O2 j)
   .exact Ye 15 R1 [true,false] (ma [0,3,5] [3]) (mC O2 j) (o (Zaq f 1) e r b)
  .apply Ya b 8 [rz,rz] [false] (ml i)
def Zfd(b:List Zac)(d:Zae):Option Int:=ZcK b (((b.length:Int)-(0:Int)).toNat+2) (0:Int) d
theorem ZiH(b:List Zac)(d:Zae)(r:Int)(e:Zfd b d=some r):Yp 214 [Yl b,.agg (Zae.c d)] (Yj r):=by
 refine Yv Tryz.func214 fun S0 w0=>?_;unfold Zfd at e;exact Ye 6 [rz,rz] [] (ma [0,3,5] [3]) .n (ZnP S0 w0 b (((b.length:Int)-(0:Int)).toNat+2) (0:Int) d r e)
def Zfu(b d:Zae):Option Int:=(Zek b.fAddr d.fAddr).bind fun e=>bif(e != (0:Int))then some e else bif(b.fBits==d.fBits)then some e else bif(decide (b.fBits<d.fBits))then some (-1:Int)else some (1:Int)
theorem Zov(h i:Zae)(r:Int)(b:Zfu h i=some r):Yp 123 [.agg (Zae.c h),.agg (Zae.c i)] (Yj r):=by
 refine Yv Tryz.func123 fun S0 w0=>?_;unfold Zfu at b;obtain⟨e,j,b⟩:=Zad b;obtain⟨f,b⟩|⟨f,b⟩:=Zag b
 .apply Ya b 10 [rz,rA [(4,aI e)],rB [(2,true)],rz] [true] (mo (ZfN _ _ _ j) f (mP true))
 .have O1:=(mn (ZfN _ _ _ j) f);obtain⟨d,b⟩|⟨d,b⟩:=Zag b
  .apply Ya b 10 [rz,rA [(4,aI e)],rB [(2,false)],rz] [true] (mC O1 d)
  .let R2:List RA:=[rz,rA [(4,aI e)],rB [(2,false)],rz,rz]
   obtain⟨g,b⟩|⟨g,b⟩:=Zag b
   .apply Ya b 15 R2 [false,true] (mD O1 d g)
   .apply Ya b 16 R2 [false,false] (mD O1 d g)
def ZdG(e:List Zac):Nat->Int->Zac->Option ((List Zac)×Int)|0,_,_=>none|fu+1,b,f=>bif(decide (b<(e.length:Int)))then need (0<=b/\b<(e.length:Int))<|(Zfu ((e.getD b.toNat Zac.d).fNet) f.fNet).bind fun g=>bif(decide (g<=(0:Int)))then ZdG e fu (Zaq b 1) f else need (0<=b/\b<=(e.length:Int))<|need ((([]:List Zac)++(e.take b.toNat)).length * 40<=140737488355328/\(([]:List Zac)++(e.take b.toNat)).length<=maxLen)<|need (((([]:List Zac)++(e.take b.toNat))++([f]:List Zac)).length * 40<=140737488355328/\((([]:List Zac)++(e.take b.toNat))++([f]:List Zac)).length<=maxLen)<|need ((((([]:List Zac)++(e.take b.toNat))++([f]:List Zac))++(e.drop b.toNat)).length * 40<=140737488355328/\(((([]:List Zac)++(e.take b.toNat))++([f]:List Zac))++(e.drop b.toNat)).length<=maxLen)<|some ((((([]:List Zac)++(e.take b.toNat))++([f]:List Zac))++(e.drop b.toNat)),(0:Int))else need (0<=b/\b<=(e.length:Int))<|need ((([]:List Zac)++(e.take b.toNat)).length * 40<=140737488355328/\(([]:List Zac)++(e.take b.toNat)).length<=maxLen)<|need (((([]:List Zac)++(e.take b.toNat))++([f]:List Zac)).length * 40<=140737488355328/\((([]:List Zac)++(e.take b.toNat))++([f]:List Zac)).length<=maxLen)<|need ((((([]:List Zac)++(e.take b.toNat))++([f]:List Zac))++(e.drop b.toNat)).length * 40<=140737488355328/\(((([]:List Zac)++(e.take b.toNat))++([f]:List Zac))++(e.drop b.toNat)).length<=maxLen)<|some ((((([]:List Zac)++(e.take b.toNat))++([f]:List Zac))++(e.drop b.toNat)),(0:Int))
theorem Zpe(f:List Zac):∀(C:Nat)(b:Int)(g:Zac)(r:((List Zac)×Int)),ZdG f C b g=some r->Yr 73 S0 w0 Tryz.f145 (.tup [(false,(cLs 5 Zac.c Zac.d) r.1),(false,mi r.2)]) [1,1,1,1,1,1,0,0] ⟨[(0,(Yl f)),(4,.one (.ptr 4 0)),(10,(Yj b))],[(4,.box (Zac.c g))]⟩:=by
 intro C;induction C with
 |zero=>
  intro b g r h;simp[ZdG]at h
 |succ C G=>
  intro b g r h;unfold ZdG at h;obtain⟨D,h⟩|⟨D,h⟩:=Zag h
  .obtain⟨E,h⟩:=Zao h;obtain⟨H,F,h⟩:=Zad h
   let R1:List RA:=[⟨[(12,aI H)],[(4,true)],[],[],[],[],[]⟩]
   have O2:=(mo D E (Zov _ _ _ F));obtain⟨o,h⟩|⟨o,h⟩:=Zag h
   .exact Ye 10 (R1++[rz]) [true] (ma [0,4,10] [4]) (mC O2 o) (G (Zaq b 1) g r h)
   .obtain⟨p,u,h⟩:=Yt h;obtain⟨v,y,h⟩:=Yt h;apply Yb h 10 (R1++[⟨[(0,.c ([]:List Zac).length (Zam Zac.c Zac.d ([]:List Zac))),(4,.c ((([]:List Zac)++(f.take b.toNat)).length) (Zam Zac.c Zac.d (([]:List Zac)++(f.take b.toNat)))),(7,.c (((([]:List Zac)++(f.take b.toNat))++([g]:List Zac)).length) (Zam Zac.c Zac.d ((([]:List Zac)++(f.take b.toNat))++([g]:List Zac))))],[],[],[],[],[(3,((f.take b.toNat).length,Zam Zac.c Zac.d (f.take b.toNat))),(6,(([g]:List Zac).length,Zam Zac.c Zac.d ([g]:List Zac)))],[]⟩,⟨[(4,.c ((((([]:List Zac)++(f.take b.toNat))++([g]:List Zac))++(f.drop b.toNat)).length) (Zam Zac.c Zac.d (((([]:List Zac)++(f.take b.toNat))++([g]:List Zac))++(f.drop b.toNat))))],[],[],[],[],[(3,((f.drop b.toNat).length,Zam Zac.c Zac.d (f.drop b.toNat)))],[]⟩]) [false] [72] [] [] (O2.app (.c o (.c (show ([]:List Zac).length=0 from rfl) (.c (mQ (e:=Zac.c) Zac.d 5 (fun _=>rfl) ([]:List Zac)) (.c (show (f.take b.toNat).length=b.toNat/\∀i j,i<b.toNat->j<5->Zam Zac.c Zac.d (f.take b.toNat) i j=Zam Zac.c Zac.d f i j from(ZkA _ _ p)) (.c p (.c (Zcq (sz:=5) (e:=Zac.c) (d:=Zac.d) ([]:List Zac) (f.take b.toNat)) (.c u.1 (mz u.2 (mN (e:=Zac.c) Zac.d 5 (fun _=>rfl) ([g]:List Zac)) (Zcq (sz:=5) (e:=Zac.c) (d:=Zac.d) (([]:List Zac)++(f.take b.toNat)) ([g]:List Zac)) v.1 v.2 (show (f.drop b.toNat).length=f.length-b.toNat/\∀i j,i<f.length-b.toNat->j<5->Zam Zac.c Zac.d (f.drop b.toNat) i j=Zam Zac.c Zac.d f (b.toNat+i) j from(ZkB _ _)) p (Zcq (sz:=5) (e:=Zac.c) (d:=Zac.d) ((([]:List Zac)++(f.take b.toNat))++([g]:List Zac)) (f.drop b.toNat)) y.1 y.2)))))))))
  .obtain⟨t,z,h⟩:=Yt h;obtain⟨A,B,h⟩:=Yt h;apply Yb h 10 [rB [(4,false)],⟨[(0,.c ([]:List Zac).length (Zam Zac.c Zac.d ([]:List Zac))),(4,.c ((([]:List Zac)++(f.take b.toNat)).length) (Zam Zac.c Zac.d (([]:List Zac)++(f.take b.toNat)))),(7,.c (((([]:List Zac)++(f.take b.toNat))++([g]:List Zac)).length) (Zam Zac.c Zac.d ((([]:List Zac)++(f.take b.toNat))++([g]:List Zac))))],[],[],[],[],[(3,((f.take b.toNat).length,Zam Zac.c Zac.d (f.take b.toNat))),(6,(([g]:List Zac).length,Zam Zac.c Zac.d ([g]:List Zac)))],[]⟩,⟨[(4,.c ((((([]:List Zac)++(f.take b.toNat))++([g]:List Zac))++(f.drop b.toNat)).length) (Zam Zac.c Zac.d (((([]:List Zac)++(f.take b.toNat))++([g]:List Zac))++(f.drop b.toNat))))],[],[],[],[],[(3,((f.drop b.toNat).length,Zam Zac.c Zac.d (f.drop b.toNat)))],[]⟩] [false] [72] [] [] (.c D (.c (mP false) (.c (show ([]:List Zac).length=0 from rfl) (.c (mQ (e:=Zac.c) Zac.d 5 (fun _=>rfl) ([]:List Zac)) (.c (show (f.take b.toNat).length=b.toNat/\∀i j,i<b.toNat->j<5->Zam Zac.c Zac.d (f.take b.toNat) i j=Zam Zac.c Zac.d f i j from(ZkA _ _ t)) (.c t (.c (Zcq (sz:=5) (e:=Zac.c) (d:=Zac.d) ([]:List Zac) (f.take b.toNat)) (.c z.1 (mz z.2 (mN (e:=Zac.c) Zac.d 5 (fun _=>rfl) ([g]:List Zac)) (Zcq (sz:=5) (e:=Zac.c) (d:=Zac.d) (([]:List Zac)++(f.take b.toNat)) ([g]:List Zac)) A.1 A.2 (show (f.drop b.toNat).length=f.length-b.toNat/\∀i j,i<f.length-b.toNat->j<5->Zam Zac.c Zac.d (f.drop b.toNat) i j=Zam Zac.c Zac.d f (b.toNat+i) j from(ZkB _ _)) t (Zcq (sz:=5) (e:=Zac.c) (d:=Zac.d) ((([]:List Zac)++(f.take b.toNat))++([g]:List Zac)) (f.drop b.toNat)) B.1 B.2)))))))))
def Zgg(b:List Zac)(f:Zac)(g:Int):Option ((List Zac)×Int):=(ZgB f).bind fun h=>bif(!h)then some (([]:(List Zac)),(1:Int))else(Zfd b f.fNet).bind fun e=>bif(decide (e>=(0:Int)))then need ((([]:List Zac)++b).length * 40<=140737488355328/\(([]:List Zac)++b).length<=maxLen)<|need (0<=e/\e<(((([]:List Zac)++b).length:Nat):Int))<|bif(decide (f.fUntil>((([]:List Zac)++b).getD e.toNat Zac.d).fUntil))then some (((([]:List Zac)++b).set e.toNat (Zac.mk (((([]:List Zac)++b).getD e.toNat Zac.d).fNet) f.fUntil)),(0:Int))else some ((([]:List Zac)++b),(0:Int))else bif(decide ((b.length:Int)>=g))then some (([]:(List Zac)),(5:Int))else ZdG b (((b.length:Int)-(0:Int)).toNat+2) (0:Int) f
theorem Zmo(f:List Zac)(h:Zac)(z:Int)(r:((List Zac)×Int))(b:Zgg f h z=some r):Yp 145 [Yl f,.agg (Zac.c h),Yj z] (.tup [(false,(cLs 5 Zac.c Zac.d) r.1),(false,mi r.2)]):=by
 refine Yv Tryz.func145 fun S0 w0=>?_;unfold Zgg at b;obtain⟨t,A,b⟩:=Zad b;obtain⟨u,b⟩|⟨u,b⟩:=Zag b
 .apply Yb b 8 [rz,rA [(1,aB t)],rz] [true] [] [] [(6,[(0,cL 5 Zac.c Zac.d [])])] (mn (Zll _ _ A) u)
 .obtain⟨g,C,b⟩:=Zad b;have O3:=(mo (Zll _ _ A) u (ZiH _ _ _ C));obtain⟨o,b⟩|⟨o,b⟩:=Zag b
  .obtain⟨B,b⟩:=Zao b;obtain⟨p,b⟩:=Zao b
   let R4:List RA:=[rz,rA [(1,aB t)],rA [(3,aI g)],rz,rA [(0,.c ([]:List Zac).length (Zam Zac.c Zac.d ([]:List Zac))),(2,.c ((([]:List Zac)++f).length) (Zam Zac.c Zac.d (([]:List Zac)++f)))],rz]
   have O5:=(mJ O3 o (show ([]:List Zac).length=0 from rfl) (mQ (e:=Zac.c) Zac.d 5 (fun _=>rfl) ([]:List Zac)) (Zcq (sz:=5) (e:=Zac.c) (d:=Zac.d) ([]:List Zac) f) B.1 B.2 p (ltOf p));obtain⟨v,b⟩|⟨v,b⟩:=Zag b
   .apply Yb b 22 (R4++[rA [(6,.c ((([]:List Zac)++f).set g.toNat (Zac.mk (((([]:List Zac)++f).getD g.toNat Zac.d).fNet) h.fUntil)).length (Zam Zac.c Zac.d ((([]:List Zac)++f).set g.toNat (Zac.mk (((([]:List Zac)++f).getD g.toNat Zac.d).fNet) h.fUntil))))],rz]) [false,true,true] [23] [] [] (mG O5 v p (show ((([]:List Zac)++f).set g.toNat (Zac.mk (((([]:List Zac)++f).getD g.toNat Zac.d).fNet) h.fUntil)).length=(([]:List Zac)++f).length from List.length_set) (ltOf p) (show ExtU 5 ((([]:List Zac)++f).length) (Zam Zac.c Zac.d (([]:List Zac)++f)) g.toNat 4 [.lit (.int .i64 h.fUntil)] (Zam Zac.c Zac.d ((([]:List Zac)++f).set g.toNat (Zac.mk (((([]:List Zac)++f).getD g.toNat Zac.d).fNet) h.fUntil)))from(ZEb _ _ _ _ _ rfl (Nat.le_of_ble_eq_true rfl))))
   .apply Yb b 22 (R4++[rz]) [false,true,false] [23] [] [] (mC O5 v)
  .let R6:List RA:=[rz,rA [(1,aB t)],rA [(3,aI g)],rz,rz,rz]
   obtain⟨y,b⟩|⟨y,b⟩:=Zag b
   .apply Yb b 20 R6 [false,false,true] [] [] [(6,[(0,cL 5 Zac.c Zac.d [])])] (mD O3 o y)
   .exact Ye 23 R6 [false,false,false] (ma [0,4,10] [4]) (mD O3 o y) (Zpe S0 w0 f (((f.length:Int)-(0:Int)).toNat+2) (0:Int) h r b)
def Zdr(e:List Zaa)(g:Bool):Nat->Int->(List Zaa)->Zae->Option (List Zaa)|0,_,_,_=>none|fu+1,b,f,h=>bif(decide (b<(e.length:Int)))then need (0<=b/\b<(e.length:Int))<|(Zgh h (((e.getD b.toNat Zaa.d).fEnd).fAddr)).bind fun i=>bif(i==g)then need ((f++([(e.getD b.toNat Zaa.d)]:List Zaa)).length * 80<=140737488355328/\(f++([(e.getD b.toNat Zaa.d)]:List Zaa)).length<=maxLen)<|Zdr e g fu (Zaq b 1) (f++([(e.getD b.toNat Zaa.d)]:List Zaa)) h else Zdr e g fu (Zaq b 1) f h else some f
theorem ZpM(g:List Zaa)(v:Bool):∀(p:Nat)(f:Int)(h:List Zaa)(o:Zae)(r:List Zaa),Zdr g v p f h o=some r->Ys 34 S0 w0 Tryz.f215 [(me 99999 44 10 Zaa.c Zaa.d r)] (.one (.osl 99999 r.length)) [1,1,0,1,0] ⟨[(0,(Ym g)),(2,(Yk v)),(4,.one (.ptr 4 0)),(7,.one (.osl 7 h.length)),(8,(Yj f))],[(me 7 44 10 Zaa.c Zaa.d h),(4,.box (Zae.c o))]⟩:=by
 intro p;induction p with
 |zero=>
  intro f h o r b;simp[Zdr]at b
 |succ p y=>
  intro f h o r b;unfold Zdr at b;obtain⟨t,b⟩|⟨t,b⟩:=Zag b
  .obtain⟨z,b⟩:=Zao b;obtain⟨A,C,b⟩:=Zad b;have O1:=(mo t z (Zmq _ _ _ C));obtain⟨u,b⟩|⟨u,b⟩:=Zag b
   .obtain⟨B,b⟩:=Zao b;exact Ye 15 [rz,rA [(7,aB A)],⟨[(6,.c ((h++([(g.getD f.toNat Zaa.d)]:List Zaa)).length) (Zam Zaa.c Zaa.d (h++([(g.getD f.toNat Zaa.d)]:List Zaa))))],[],[],[],[],[(5,(([(g.getD f.toNat Zaa.d)]:List Zaa).length,Zam Zaa.c Zaa.d ([(g.getD f.toNat Zaa.d)]:List Zaa)))],[]⟩,rz] [true,true] (md [0,2,4,7,8] [32,4] [(32,7)]) (mH O1 u z (mN (e:=Zaa.c) Zaa.d 10 (fun _=>rfl) ([(g.getD f.toNat Zaa.d)]:List Zaa)) (Zcq (sz:=10) (e:=Zaa.c) (d:=Zaa.d) h ([(g.getD f.toNat Zaa.d)]:List Zaa)) B.1 B.2) (y (Zaq f 1) (h++([(g.getD f.toNat Zaa.d)]:List Zaa)) o r b)
   .exact Ye 15 [rz,rA [(7,aB A)],rz] [true,false] (ma [0,2,4,7,8] [7,4]) (mC O1 u) (y (Zaq f 1) h o r b)
  .apply Yc b 8 [rz,rz] [false] (md [6] [7] [(7,99999)]) (ml t)
def ZgL(b:List Zaa)(d:Zae)(e:Bool):Option (List Zaa):=Zdr b e (((b.length:Int)-(0:Int)).toNat+2) (0:Int) ([]:List Zaa) d
theorem ZqT(b:List Zaa)(f:Zae)(g:Bool)(r:List Zaa)(h:ZgL b f g=some r):Yq 215 [] [Ym b,.agg (Zae.c f),Yk g] [(me 99999 44 10 Zaa.c Zaa.d r)] (.one (.osl 99999 r.length)):=by
 refine Yw Tryz.func215 fun S0 w0=>?_;unfold ZgL at h;exact Ye 8 [rz,rA [(0,.c ([]:List Zaa).length (Zam Zaa.c Zaa.d ([]:List Zaa)))],rz] [] (md [0,2,4,7,8] [9,4] [(9,7)]) (mn (show ([]:List Zaa).length=0 from rfl) (mQ (e:=Zaa.c) Zaa.d 10 (fun _=>rfl) ([]:List Zaa))) (ZpM S0 w0 b g (((b.length:Int)-(0:Int)).toNat+2) (0:Int) ([]:List Zaa) f r h)
theorem ZmF(b:List Zaa)(d:Zae)(e:Bool)(r:List Zaa)(f:ZgL b d e=some r):Yp 215 [Ym b,.agg (Zae.c d),Yk e] (Ym r):=(ZqT b d e r f).pure
def Zds(e:List Zaa):Nat->Int->(List Zaj)->Option (List Zaj)|0,_,_=>none|fu+1,b,f=>bif(decide (b<(e.length:Int)))then need (0<=b/\b<(e.length:Int))<|need ((f++([(e.getD b.toNat Zaa.d).fEnd]:List Zaj)).length * 32<=140737488355328/\(f++([(e.getD b.toNat Zaa.d).fEnd]:List Zaj)).length<=maxLen)<|Zds e fu (Zaq b 1) (f++([(e.getD b.toNat Zaa.d).fEnd]:List Zaj))else some f
theorem Zoh(f:List Zaa):∀(o:Nat)(b:Int)(g r:List Zaj),Zds f o b g=some r->Ys 21 S0 w0 Tryz.f216 [(me 99999 30 4 Zaj.c Zaj.d r)] (.one (.osl 99999 r.length)) [1,1,0,1,0] ⟨[(0,(Ym f)),(3,.one (.osl 3 g.length)),(4,(Yj b))],[(me 3 30 4 Zaj.c Zaj.d g)]⟩:=by
 intro o;induction o with
 |zero=>
  intro b g r h;simp[Zds]at h
 |succ o u=>
  intro b g r h;unfold Zds at h;obtain⟨p,h⟩|⟨p,h⟩:=Zag h
  .obtain⟨v,t,h⟩:=Yt h;exact Ye 12 [rz,⟨[(7,.c ((g++([(f.getD b.toNat Zaa.d).fEnd]:List Zaj)).length) (Zam Zaj.c Zaj.d (g++([(f.getD b.toNat Zaa.d).fEnd]:List Zaj))))],[],[],[],[],[(6,(([(f.getD b.toNat Zaa.d).fEnd]:List Zaj).length,Zam Zaj.c Zaj.d ([(f.getD b.toNat Zaa.d).fEnd]:List Zaj)))],[]⟩,rz] [true] (md [0,3,4] [19] [(19,3)]) (mt p v (mN (e:=Zaj.c) Zaj.d 4 (fun _=>rfl) ([(f.getD b.toNat Zaa.d).fEnd]:List Zaj)) (Zcq (sz:=4) (e:=Zaj.c) (d:=Zaj.d) g ([(f.getD b.toNat Zaa.d).fEnd]:List Zaj)) t.1 t.2) (u (Zaq b 1) (g++([(f.getD b.toNat Zaa.d).fEnd]:List Zaj)) r h)
  .apply Yc h 8 [rz,rz] [false] (md [2] [3] [(3,99999)]) (ml p)
def ZgR(b:List Zaa):Option (List Zaj):=Zds b (((b.length:Int)-(0:Int)).toNat+2) (0:Int) ([]:List Zaj)
theorem ZpJ(b:List Zaa)(r:List Zaj)(f:ZgR b=some r):Yq 216 [] [Ym b] [(me 99999 30 4 Zaj.c Zaj.d r)] (.one (.osl 99999 r.length)):=by
 refine Yw Tryz.func216 fun S0 w0=>?_;unfold ZgR at f;exact Ye 8 [rz,rA [(0,.c ([]:List Zaj).length (Zam Zaj.c Zaj.d ([]:List Zaj)))],rz] [] (md [0,3,4] [5] [(5,3)]) (mn (show ([]:List Zaj).length=0 from rfl) (mQ (e:=Zaj.c) Zaj.d 4 (fun _=>rfl) ([]:List Zaj))) (Zoh S0 w0 b (((b.length:Int)-(0:Int)).toNat+2) (0:Int) ([]:List Zaj) r f)
theorem Zqj(b:List Zaa)(r:List Zaj)(e:ZgR b=some r):Yp 216 [Ym b] (.one (cL 4 Zaj.c Zaj.d r)):=(ZpJ b r e).pure
def Zdb(e:List Zaj):Nat->Int->Zaj->Option Bool|0,_,_=>none|fu+1,b,f=>bif(decide (b<(e.length:Int)))then need (0<=b/\b<(e.length:Int))<|bif(decide ((e.getD b.toNat Zaj.d)=f))then some true else Zdb e fu (Zaq b 1) f else some false
theorem ZoW(g:List Zaj):∀(h:Nat)(f:Int)(e:Zaj)(r:Bool),Zdb g h f e=some r->Yr 18 S0 w0 Tryz.f217 (Yk r) [1,0,1,0] ⟨[(0,.one (cL 4 Zaj.c Zaj.d g)),(3,.one (.ptr 3 0)),(5,(Yj f))],[(3,.box (Zaj.c e))]⟩:=by
 intro h;induction h with
 |zero=>
  intro f e r b;simp[Zdb]at b
 |succ h o=>
  intro f e r b;unfold Zdb at b;obtain⟨i,b⟩|⟨i,b⟩:=Zag b
  .obtain⟨p,b⟩:=Zao b
   let R1:List RA:=[rz,rA [(5,aB (decide ((g.getD f.toNat Zaj.d)=e)))],rz]
   have O2:=(mo i p (ZhG (g.getD f.toNat Zaj.d) e (.tmp 15) (.tmp 16)));obtain⟨j,b⟩|⟨j,b⟩:=Zag b
   .apply Ya b 13 R1 [true,true] (mC O2 j)
   .exact Ye 15 R1 [true,false] (ma [0,3,5] [3]) (mC O2 j) (o (Zaq f 1) e r b)
  .apply Ya b 8 [rz,rz] [false] (ml i)
def Zhx(b:List Zaj)(d:Zaj):Option Bool:=Zdb b (((b.length:Int)-(0:Int)).toNat+2) (0:Int) d
theorem ZqV(b:List Zaj)(e:Zaj)(r:Bool)(f:Zhx b e=some r):Yp 217 [.one (cL 4 Zaj.c Zaj.d b),.agg (Zaj.c e)] (Yk r):=by
 refine Yv Tryz.func217 fun S0 w0=>?_;unfold Zhx at f;exact Ye 6 [rz,rz] [] (ma [0,3,5] [3]) .n (ZoW S0 w0 b (((b.length:Int)-(0:Int)).toNat+2) (0:Int) e r f)
def ZbZ(f:List Zaj):Nat->Int->(List Zab)->Option (List Zab)|0,_,_=>none|fu+1,b,e=>bif(decide (b<(e.length:Int)))then need (0<=b/\b<(e.length:Int))<|bif((e.getD b.toNat Zab.d).fState==(3:Int))then(Zhx f ((e.getD b.toNat Zab.d).fEnd)).bind fun g=>bif g then ZbZ f fu (Zaq b 1) (e.set b.toNat (Zab.mk ((e.getD b.toNat Zab.d).fEnd) 1 ((e.getD b.toNat Zab.d).fFails) ((e.getD b.toNat Zab.d).fNext)))else ZbZ f fu (Zaq b 1) e else ZbZ f fu (Zaq b 1) e else some e
theorem Zon(t:List Zaj):∀(h:Nat)(e:Int)(b r:List Zab),ZbZ t h e b=some r->Ys 36 S0 w0 Tryz.f150 [(me 99999 113 7 Zab.c Zab.d r)] (.one (.osl 99999 r.length)) [1,1,0,1,0] ⟨[(1,.one (cL 4 Zaj.c Zaj.d t)),(5,.one (.osl 9 b.length)),(6,(Yj e))],[(me 9 113 7 Zab.c Zab.d b)]⟩:=by
 intro h;induction h with
 |zero=>
  intro e b r f;simp[ZbZ]at f
 |succ h i=>
  intro e b r f;unfold ZbZ at f;obtain⟨j,f⟩|⟨j,f⟩:=Zag f
  .obtain⟨g,f⟩:=Zao f;have O1:=(mo j g (ltOf g));obtain⟨o,f⟩|⟨o,f⟩:=Zag f
   .obtain⟨u,v,f⟩:=Zad f
    let R2:List RA:=[rz,⟨[(13,aB u)],[(6,true)],[],[],[],[],[]⟩]
    have O3:=(mF O1 o g (ltOf g) (ZqV _ _ _ v));obtain⟨p,f⟩|⟨p,f⟩:=Zag f
    .exact Ye 15 (R2++[rA [(4,.c (b.set e.toNat (Zab.mk ((b.getD e.toNat Zab.d).fEnd) 1 ((b.getD e.toNat Zab.d).fFails) ((b.getD e.toNat Zab.d).fNext))).length (Zam Zab.c Zab.d (b.set e.toNat (Zab.mk ((b.getD e.toNat Zab.d).fEnd) 1 ((b.getD e.toNat Zab.d).fFails) ((b.getD e.toNat Zab.d).fNext)))))],rz]) [true,true] ⟨[],[],[],[(9,((b.set e.toNat (Zab.mk ((b.getD e.toNat Zab.d).fEnd) 1 ((b.getD e.toNat Zab.d).fFails) ((b.getD e.toNat Zab.d).fNext))).length))],[],[1,5,6],[9],[]⟩ (mH O3 p g (show (b.set e.toNat (Zab.mk ((b.getD e.toNat Zab.d).fEnd) 1 ((b.getD e.toNat Zab.d).fFails) ((b.getD e.toNat Zab.d).fNext))).length=b.length from List.length_set) (ltOf g) (show ExtU 7 b.length (Zam Zab.c Zab.d b) e.toNat 4 [.lit (.int .i64 (1:Int))] (Zam Zab.c Zab.d (b.set e.toNat (Zab.mk ((b.getD e.toNat Zab.d).fEnd) 1 ((b.getD e.toNat Zab.d).fFails) ((b.getD e.toNat Zab.d).fNext))))from(ZEb _ _ _ _ _ rfl (Nat.le_of_ble_eq_true rfl))) (mP ((b.set e.toNat (Zab.mk ((b.getD e.toNat Zab.d).fEnd) 1 ((b.getD e.toNat Zab.d).fFails) ((b.getD e.toNat Zab.d).fNext))).length))) (i (Zaq e 1) (b.set e.toNat (Zab.mk ((b.getD e.toNat Zab.d).fEnd) 1 ((b.getD e.toNat Zab.d).fFails) ((b.getD e.toNat Zab.d).fNext))) r f)
    .exact Ye 15 (R2++[rz]) [true,false] (ma [1,5,6] [9]) (mC O3 p) (i (Zaq e 1) b r f)
   .exact Ye 15 [rz,rB [(6,false)],rz] [true,false] (ma [1,5,6] [9]) (mD O1 o (mP false)) (i (Zaq e 1) b r f)
  .apply Yc f 8 [rz,rz] [false] (md [4] [9] [(9,99999)]) (ml j)
def Zev(b:List Zab)(d:List Zaj):Option (List Zab):=need ((([]:List Zab)++b).length * 56<=140737488355328/\(([]:List Zab)++b).length<=maxLen)<|ZbZ d (((((([]:List Zab)++b).length:Nat):Int)-(0:Int)).toNat+2) (0:Int) (([]:List Zab)++b)
theorem ZpP(b:List Zab)(g:List Zaj)(r:List Zab)(f:Zev b g=some r):Yq 150 [] [Yn b,.one (cL 4 Zaj.c Zaj.d g)] [(me 99999 113 7 Zab.c Zab.d r)] (.one (.osl 99999 r.length)):=by
 refine Yw Tryz.func150 fun S0 w0=>?_;unfold Zev at f;obtain⟨o1,f⟩:=Zao f;exact Ye 8 [rz,rA [(0,.c ([]:List Zab).length (Zam Zab.c Zab.d ([]:List Zab))),(2,.c ((([]:List Zab)++b).length) (Zam Zab.c Zab.d (([]:List Zab)++b)))],rz] [] (ma [1,5,6] [9]) (mr (show ([]:List Zab).length=0 from rfl) (mQ (e:=Zab.c) Zab.d 7 (fun _=>rfl) ([]:List Zab)) (Zcq (sz:=7) (e:=Zab.c) (d:=Zab.d) ([]:List Zab) b) o1.1 o1.2) (Zon S0 w0 g (((((([]:List Zab)++b).length:Nat):Int)-(0:Int)).toNat+2) (0:Int) (([]:List Zab)++b) r f)
theorem Zlz(b:List Zab)(e:List Zaj)(r:List Zab)(f:Zev b e=some r):Yp 150 [Yn b,.one (cL 4 Zaj.c Zaj.d e)] (Yn r):=(ZpP b e r f).pure
def ZdB(b:Zan)(d:Zae):Option (Zan×Int):=(ZgL b.fPeers d true).bind fun e=>(ZgL b.fPeers d false).bind fun f=>(ZgR e).bind fun g=>(Zev b.fBook g).bind fun h=>some ((Zan.mk b.fBans h f),(e.length:Int))
theorem Zjd(e:Zan)(f:Zae)(r:(Zan×Int))(b:ZdB e f=some r):Yp 146 [.agg (Zan.c e),.agg (Zae.c f)] (.tup [(true,Zan.c r.1),(false,mi r.2)]):=by
 refine Yv Tryz.func146 fun S0 w0=>?_;unfold ZdB at b;obtain⟨g,h,i,j,b⟩:=Yu b;obtain⟨o,p,t,u,b⟩:=Yu b;apply Ya b 10 [rz,rA [(3,.r (Ym g) [])],rA [(3,.r (Ym h) [])],rA [(3,.r (.one (cL 4 Zaj.c Zaj.d o)) []),(4,.r (Yn p) [])],rz] [] (mq (ZmF _ _ _ _ i) (ZmF _ _ _ _ j) (Zqj _ _ t) (Zlz _ _ _ u))
def Zgs(i:Zav)(b:Zan)(e:Zas):Option (Zan×Zap):=(Zca b.fPeers e.fEnd).bind fun j=>bif(decide (j<(0:Int)))then(Zby (6:Int)).bind fun r=>some (b,r)else need (0<=j/\j<(b.fPeers.length:Int))<|(Zej e.fNum).bind fun t=>(ZfW (b.fPeers.getD j.toNat Zaa.d) t i.fHalf e.fNow).bind fun n=>(Zfr n.fScore i.fLimit).bind fun u=>bif(!u)then(ZeP b.fPeers n).bind fun v=>(Zcx n.fScore).bind fun y=>some ((Zan.mk b.fBans b.fBook v),(Zap.mk 0 (Zaj.mk (Zah.mk false 0 0) 0) y 0 ([]:(List Zaa))))else(ZgY e.fEnd.fAddr).bind fun o=>(Zef e.fNow i.fBanFor).bind fun p=>(Zgg b.fBans (Zac.mk o p) i.fMaxBans).bind fun f=>bif(f.2==(0:Int))then(ZdB (Zan.mk f.1 b.fBook b.fPeers) o).bind fun g=>some (g.1,(Zap.mk 0 e.fEnd g.2 p ([]:(List Zaa))))else(ZdB b o).bind fun h=>some (h.1,(Zap.mk 0 e.fEnd h.2 0 ([]:(List Zaa))))
theorem ZpK(z:Zav)(A:Zan)(B:Zas)(r:(Zan×Zap))(b:Zgs z A B=some r):Yp 68 [.agg (Zav.c z),.agg (Zan.c A),.agg (Zas.c B)] (.tup [(true,Zan.c r.1),(true,Zap.c r.2)]):=by
 refine Yv Tryz.func68 fun S0 w0=>?_;unfold Zgs at b;obtain⟨C,D,b⟩:=Zad b;obtain⟨i,b⟩|⟨i,b⟩:=Zag b
 .obtain⟨E,F,b⟩:=Zad b;apply Ya b 10 [rz,rA [(4,aI C)],rz,rA [(1,aG (Zap.c E))]] [true] (mo (ZbK _ _ _ D) i (Zbt _ _ F))
 .obtain⟨G,b⟩:=Zao b;obtain⟨H,I,J,L,b⟩:=Yu b;obtain⟨M,O,b⟩:=Zad b
  let R1:List RA:=[rz,rA [(4,aI C)],rz,rA [(7,aI H),(12,aG (Zaa.c I))],rA [(4,aB M)]]
  have O2:=(mt (ZbK _ _ _ D) i G (Zot _ _ J) (Zpd _ _ _ _ _ L) (Zos _ _ _ O));obtain⟨j,b⟩|⟨j,b⟩:=Zag b
  .obtain⟨R,U,V,o,b⟩:=Yu b;apply Yb b 19 (R1++[rA [(3,.r (Ym R) [])],rA [(3,aI U)]]) [false,true] [] [(7,[(7,cL 10 Zaa.c Zaa.d [])])] [] (mE O2 j (Zjt _ _ _ V) (ZiG _ _ o))
  .obtain⟨W,Z,p,t,b⟩:=Yu b;obtain⟨f,u,b⟩:=Zad b
   let R3:List RA:=(R1++[rA [(3,aG (Zae.c W)),(8,aI Z)],rA [(5,.r (.tup [(false,(cLs 5 Zac.c Zac.d) f.1),(false,mi f.2)]) [])],rz,rz])
   have O4:=(mF O2 j (Zqy _ _ p) (ZhC _ _ _ t) (Zmo _ _ _ _ u));obtain⟨e,b⟩|⟨e,b⟩:=Zag b
   .obtain⟨g,v,b⟩:=Zad b;apply Yb b 35 (R3++[rz,rz,rA [(3,.r (.tup [(true,Zan.c g.1),(false,mi g.2)]) [])],rz,rz]) [false,false,true] [] [(7,[(7,cL 10 Zaa.c Zaa.d [])])] [] (mD O4 e (Zjd _ _ _ v))
   .obtain⟨h,y,b⟩:=Zad b;apply Yb b 33 (R3++[rA [(3,.r (.tup [(true,Zan.c h.1),(false,mi h.2)]) [])],rz,rz]) [false,false,false] [] [(7,[(7,cL 10 Zaa.c Zaa.d [])])] [] (mD O4 e (Zjd _ _ _ y))
def ZgW(d:List Zac)(e:Zae):Option ((List Zac)×Int):=(Zfd d e).bind fun b=>bif(decide (b<(0:Int)))then some (([]:(List Zac)),(6:Int))else need (0<=b/\b<=(d.length:Int))<|need ((([]:List Zac)++(d.take b.toNat)).length * 40<=140737488355328/\(([]:List Zac)++(d.take b.toNat)).length<=maxLen)<|need (0<=(Zaq b 1)/\(Zaq b 1)<=(d.length:Int))<|need (((([]:List Zac)++(d.take b.toNat))++(d.drop (Zaq b 1).toNat)).length * 40<=140737488355328/\((([]:List Zac)++(d.take b.toNat))++(d.drop (Zaq b 1).toNat)).length<=maxLen)<|some (((([]:List Zac)++(d.take b.toNat))++(d.drop (Zaq b 1).toNat)),(0:Int))
theorem Zqu(f:List Zac)(o:Zae)(r:((List Zac)×Int))(g:ZgW f o=some r):Yp 147 [Yl f,.agg (Zae.c o)] (.tup [(false,(cLs 5 Zac.c Zac.d) r.1),(false,mi r.2)]):=by
 refine Yv Tryz.func147 fun S0 w0=>?_;unfold ZgW at g;obtain⟨b,p,g⟩:=Zad g;obtain⟨h,g⟩|⟨h,g⟩:=Zag g
 .apply Yb g 10 [rz,rA [(2,aI b)],rz,rz] [true] [] [] [(4,[(0,cL 5 Zac.c Zac.d [])])] (mn (ZiH _ _ _ p) h)
 .obtain⟨t,u,g⟩:=Yt g;obtain⟨y,v,g⟩:=Yt g;apply Yb g 11 [rz,rA [(2,aI b)],rz,⟨[(0,.c ([]:List Zac).length (Zam Zac.c Zac.d ([]:List Zac))),(4,.c ((([]:List Zac)++(f.take b.toNat)).length) (Zam Zac.c Zac.d (([]:List Zac)++(f.take b.toNat)))),(9,.c (((([]:List Zac)++(f.take b.toNat))++(f.drop (Zaq b 1).toNat)).length) (Zam Zac.c Zac.d ((([]:List Zac)++(f.take b.toNat))++(f.drop (Zaq b 1).toNat))))],[],[],[],[],[(3,((f.take b.toNat).length,Zam Zac.c Zac.d (f.take b.toNat))),(8,((f.drop (Zaq b 1).toNat).length,Zam Zac.c Zac.d (f.drop (Zaq b 1).toNat)))],[]⟩] [false] [21] [] [] (.c (ZiH _ _ _ p) (.c h (.c (show ([]:List Zac).length=0 from rfl) (.c (mQ (e:=Zac.c) Zac.d 5 (fun _=>rfl) ([]:List Zac)) (mz (show (f.take b.toNat).length=b.toNat/\∀i j,i<b.toNat->j<5->Zam Zac.c Zac.d (f.take b.toNat) i j=Zam Zac.c Zac.d f i j from(ZkA _ _ t)) t (Zcq (sz:=5) (e:=Zac.c) (d:=Zac.d) ([]:List Zac) (f.take b.toNat)) u.1 u.2 (show (f.drop (Zaq b 1).toNat).length=f.length-(Zaq b 1).toNat/\∀i j,i<f.length-(Zaq b 1).toNat->j<5->Zam Zac.c Zac.d (f.drop (Zaq b 1).toNat) i j=Zam Zac.c Zac.d f ((Zaq b 1).toNat+i) j from(ZkB _ _)) y (Zcq (sz:=5) (e:=Zac.c) (d:=Zac.d) (([]:List Zac)++(f.take b.toNat)) (f.drop (Zaq b 1).toNat)) v.1 v.2)))))
def ZcJ(b:List Zac)(g:Int):Nat->Int->(List Zac)->Option ((List Zac)×Int)|0,_,_=>none|fu+1,e,f=>bif(decide (e<(b.length:Int)))then need (0<=e/\e<(b.length:Int))<|bif(decide ((b.getD e.toNat Zac.d).fUntil>g))then need ((f++([(b.getD e.toNat Zac.d)]:List Zac)).length * 40<=140737488355328/\(f++([(b.getD e.toNat Zac.d)]:List Zac)).length<=maxLen)<|ZcJ b g fu (Zaq e 1) (f++([(b.getD e.toNat Zac.d)]:List Zac))else ZcJ b g fu (Zaq e 1) f else some (f,(ZaG (b.length:Int) (f.length:Int)))
theorem ZnO(g:List Zac)(v:Int):∀(o:Nat)(b:Int)(h:List Zac)(r:((List Zac)×Int)),ZcJ g v o b h=some r->Yr 35 S0 w0 Tryz.f148 (.tup [(false,(cLs 5 Zac.c Zac.d) r.1),(false,mi r.2)]) [1,1,0,1,0] ⟨[(0,(Yl g)),(1,(Yj v)),(6,.one (.osl 6 h.length)),(7,(Yj b))],[(me 6 94 5 Zac.c Zac.d h)]⟩:=by
 intro o;induction o with
 |zero=>
  intro b h r f;simp[ZcJ]at f
 |succ o y=>
  intro b h r f;unfold ZcJ at f;obtain⟨p,f⟩|⟨p,f⟩:=Zag f
  .obtain⟨t,f⟩:=Zao f;obtain⟨u,f⟩|⟨u,f⟩:=Zag f
   .obtain⟨z,f⟩:=Zao f;exact Ye 15 [rz,rz,⟨[(6,.c ((h++([(g.getD b.toNat Zac.d)]:List Zac)).length) (Zam Zac.c Zac.d (h++([(g.getD b.toNat Zac.d)]:List Zac))))],[],[],[],[],[(5,(([(g.getD b.toNat Zac.d)]:List Zac).length,Zam Zac.c Zac.d ([(g.getD b.toNat Zac.d)]:List Zac)))],[]⟩,rz] [true,true] (md [0,1,6,7] [28] [(28,6)]) (mw p t u t (mN (e:=Zac.c) Zac.d 5 (fun _=>rfl) ([(g.getD b.toNat Zac.d)]:List Zac)) (Zcq (sz:=5) (e:=Zac.c) (d:=Zac.d) h ([(g.getD b.toNat Zac.d)]:List Zac)) z.1 z.2) (y (Zaq b 1) (h++([(g.getD b.toNat Zac.d)]:List Zac)) r f)
   .exact Ye 15 [rz,rz,rz] [true,false] (ma [0,1,6,7] [6]) (mo p t u) (y (Zaq b 1) h r f)
  .apply Yb f 8 [rz,rz] [false] [6] [] [] (ml p)
def ZgA(b:List Zac)(d:Int):Option ((List Zac)×Int):=ZcJ b d (((b.length:Int)-(0:Int)).toNat+2) (0:Int) ([]:List Zac)
theorem ZpW(b:List Zac)(f:Int)(r:((List Zac)×Int))(g:ZgA b f=some r):Yp 148 [Yl b,Yj f] (.tup [(false,(cLs 5 Zac.c Zac.d) r.1),(false,mi r.2)]):=by
 refine Yv Tryz.func148 fun S0 w0=>?_;unfold ZgA at g;exact Ye 8 [rz,rA [(0,.c ([]:List Zac).length (Zam Zac.c Zac.d ([]:List Zac)))],rz] [] (md [0,1,6,7] [8] [(8,6)]) (mn (show ([]:List Zac).length=0 from rfl) (mQ (e:=Zac.c) Zac.d 5 (fun _=>rfl) ([]:List Zac))) (ZnO S0 w0 b f (((b.length:Int)-(0:Int)).toNat+2) (0:Int) ([]:List Zac) r g)
def ZgT(i:Zav)(b:Zan)(d:Zas):Option (Zan×Zap):=bif(d.fKind==(6:Int))then bif(decide (d.fNum<=d.fNow))then(Zby (3:Int)).bind fun j=>some (b,j)else(Zgg b.fBans (Zac.mk d.fNet d.fNum) i.fMaxBans).bind fun f=>bif(f.2 != (0:Int))then(Zby f.2).bind fun n=>some (b,n)else(ZdB (Zan.mk f.1 b.fBook b.fPeers) d.fNet).bind fun g=>some (g.1,(Zap.mk 0 (Zaj.mk (Zah.mk false 0 0) 0) g.2 0 ([]:(List Zaa))))else bif(d.fKind==(7:Int))then(ZgW b.fBans d.fNet).bind fun e=>bif(e.2==(0:Int))then(Zby e.2).bind fun o=>some ((Zan.mk e.1 b.fBook b.fPeers),o)else(Zby e.2).bind fun p=>some (b,p)else bif(d.fKind==(8:Int))then(Zcy b.fBans d.fEnd.fAddr d.fNow).bind fun r=>some (b,(Zap.mk 0 (Zaj.mk (Zah.mk false 0 0) 0) 0 r ([]:(List Zaa))))else(ZgA b.fBans d.fNow).bind fun h=>some ((Zan.mk h.1 b.fBook b.fPeers),(Zap.mk 0 (Zaj.mk (Zah.mk false 0 0) 0) h.2 0 ([]:(List Zaa))))
theorem Zql(v:Zav)(y:Zan)(z:Zas)(r:(Zan×Zap))(b:ZgT v y z=some r):Yp 69 [.agg (Zav.c v),.agg (Zan.c y),.agg (Zas.c z)] (.tup [(true,Zan.c r.1),(true,Zap.c r.2)]):=by
 refine Yv Tryz.func69 fun S0 w0=>?_;unfold ZgT at b;obtain⟨g,b⟩|⟨g,b⟩:=Zag b
 .obtain⟨i,b⟩|⟨i,b⟩:=Zag b
  .obtain⟨E,F,b⟩:=Zad b;apply Ya b 15 [rz,rz,rz,rz,rA [(1,aG (Zap.c E))]] [true,true] (mo g i (Zbt _ _ F))
  .obtain⟨A,G,b⟩:=Zad b
   let R1:List RA:=[rz,rz,rz,rz,rA [(9,.r (.tup [(false,(cLs 5 Zac.c Zac.d) A.1),(false,mi A.2)]) [])],rz]
   have O2:=(mo g i (Zmo _ _ _ _ G));obtain⟨j,b⟩|⟨j,b⟩:=Zag b
   .obtain⟨H,I,b⟩:=Zad b;apply Ya b 22 (R1++[rA [(2,aG (Zap.c H))]]) [true,false,true] (mD O2 j (Zbt _ _ I))
   .obtain⟨B,J,b⟩:=Zad b;apply Yb b 27 (R1++[rz,rA [(3,.r (.tup [(true,Zan.c B.1),(false,mi B.2)]) [])],rz]) [true,false,false] [] [(7,[(7,cL 10 Zaa.c Zaa.d [])])] [] (mD O2 j (Zjd _ _ _ J))
 .obtain⟨h,b⟩|⟨h,b⟩:=Zag b
  .obtain⟨C,L,b⟩:=Zad b
   let R3:List RA:=[rz,rz,rz,rz,rA [(4,.r (.tup [(false,(cLs 5 Zac.c Zac.d) C.1),(false,mi C.2)]) [])],rz]
   have O4:=(mo g h (Zqu _ _ _ L));obtain⟨e,b⟩|⟨e,b⟩:=Zag b
   .obtain⟨M,o,b⟩:=Zad b;apply Ya b 21 (R3++[rz,rA [(2,aG (Zap.c M))]]) [false,true,true] (mD O4 e (Zbt _ _ o))
   .obtain⟨O,p,b⟩:=Zad b;apply Ya b 21 (R3++[rA [(2,aG (Zap.c O))]]) [false,true,false] (mD O4 e (Zbt _ _ p))
  .obtain⟨f,b⟩|⟨f,b⟩:=Zag b
   .obtain⟨R,t,b⟩:=Zad b;apply Yb b 17 [rz,rz,rz,rz,rz,rA [(8,aI R)]] [false,false,true] [] [(7,[(7,cL 10 Zaa.c Zaa.d [])])] [] (mq g h f (ZdT _ _ _ _ t))
   .obtain⟨D,u,b⟩:=Zad b;apply Yb b 23 [rz,rz,rz,rz,rz,rA [(4,.r (.tup [(false,(cLs 5 Zac.c Zac.d) D.1),(false,mi D.2)]) [])],rz,rz] [false,false,false] [] [(7,[(7,cL 10 Zaa.c Zaa.d [])])] [] (mq g h f (ZpW _ _ _ u))
def Zhz(b:Zaj)(d:Int):Option Zab:=(Zbn d).bind fun e=>some (Zab.mk b 1 0 e)
theorem ZqX(d:Zaj)(e:Int)(r:Zab)(b:Zhz d e=some r):Yp 71 [.agg (Zaj.c d),Yj e] (.agg (Zab.c r)):=by
 refine Yv Tryz.func71 fun S0 w0=>?_;unfold Zhz at b;obtain⟨f,g,b⟩:=Zad b;apply Ya b 4 [rz,rA [(2,aI f)]] [] (ml (Zbb _ _ g))
def ZdE(e:List Zab):Nat->Int->Zab->Option ((List Zab)×Int)|0,_,_=>none|fu+1,b,f=>bif(decide (b<(e.length:Int)))then need (0<=b/\b<(e.length:Int))<|(Zcs ((e.getD b.toNat Zab.d).fEnd) f.fEnd).bind fun g=>bif(decide (g<=(0:Int)))then ZdE e fu (Zaq b 1) f else need (0<=b/\b<=(e.length:Int))<|need ((([]:List Zab)++(e.take b.toNat)).length * 56<=140737488355328/\(([]:List Zab)++(e.take b.toNat)).length<=maxLen)<|need (((([]:List Zab)++(e.take b.toNat))++([f]:List Zab)).length * 56<=140737488355328/\((([]:List Zab)++(e.take b.toNat))++([f]:List Zab)).length<=maxLen)<|need ((((([]:List Zab)++(e.take b.toNat))++([f]:List Zab))++(e.drop b.toNat)).length * 56<=140737488355328/\(((([]:List Zab)++(e.take b.toNat))++([f]:List Zab))++(e.drop b.toNat)).length<=maxLen)<|some ((((([]:List Zab)++(e.take b.toNat))++([f]:List Zab))++(e.drop b.toNat)),(0:Int))else need (0<=b/\b<=(e.length:Int))<|need ((([]:List Zab)++(e.take b.toNat)).length * 56<=140737488355328/\(([]:List Zab)++(e.take b.toNat)).length<=maxLen)<|need (((([]:List Zab)++(e.take b.toNat))++([f]:List Zab)).length * 56<=140737488355328/\((([]:List Zab)++(e.take b.toNat))++([f]:List Zab)).length<=maxLen)<|need ((((([]:List Zab)++(e.take b.toNat))++([f]:List Zab))++(e.drop b.toNat)).length * 56<=140737488355328/\(((([]:List Zab)++(e.take b.toNat))++([f]:List Zab))++(e.drop b.toNat)).length<=maxLen)<|some ((((([]:List Zab)++(e.take b.toNat))++([f]:List Zab))++(e.drop b.toNat)),(0:Int))
theorem ZoX(f:List Zab):∀(B:Nat)(b:Int)(g:Zab)(r:((List Zab)×Int)),ZdE f B b g=some r->Yr 52 S0 w0 Tryz.f70 (.tup [(false,(cLs 7 Zab.c Zab.d) r.1),(false,mi r.2)]) [1,1,1,1,1,0,0] ⟨[(0,(Yn f)),(4,.one (.ptr 4 0)),(8,(Yj b))],[(4,.box (Zab.c g))]⟩:=by
 intro B;induction B with
 |zero=>
  intro b g r h;simp[ZdE]at h
 |succ B E=>
  intro b g r h;unfold ZdE at h;obtain⟨C,h⟩|⟨C,h⟩:=Zag h
  .obtain⟨F,h⟩:=Zao h;obtain⟨G,H,h⟩:=Zad h
   let R1:List RA:=[⟨[(12,aI G)],[(4,true)],[],[],[],[],[]⟩]
   have O2:=(mo C F (Zen _ _ _ H));obtain⟨D,h⟩|⟨D,h⟩:=Zag h
   .exact Ye 10 (R1++[rz]) [true] (ma [0,4,8] [4]) (mC O2 D) (E (Zaq b 1) g r h)
   .obtain⟨o,t,h⟩:=Yt h;obtain⟨u,v,h⟩:=Yt h;apply Yb h 10 (R1++[⟨[(0,.c ([]:List Zab).length (Zam Zab.c Zab.d ([]:List Zab))),(4,.c ((([]:List Zab)++(f.take b.toNat)).length) (Zam Zab.c Zab.d (([]:List Zab)++(f.take b.toNat)))),(7,.c (((([]:List Zab)++(f.take b.toNat))++([g]:List Zab)).length) (Zam Zab.c Zab.d ((([]:List Zab)++(f.take b.toNat))++([g]:List Zab))))],[],[],[],[],[(3,((f.take b.toNat).length,Zam Zab.c Zab.d (f.take b.toNat))),(6,(([g]:List Zab).length,Zam Zab.c Zab.d ([g]:List Zab)))],[]⟩,⟨[(4,.c ((((([]:List Zab)++(f.take b.toNat))++([g]:List Zab))++(f.drop b.toNat)).length) (Zam Zab.c Zab.d (((([]:List Zab)++(f.take b.toNat))++([g]:List Zab))++(f.drop b.toNat))))],[],[],[],[],[(3,((f.drop b.toNat).length,Zam Zab.c Zab.d (f.drop b.toNat)))],[]⟩]) [false] [51] [] [] (O2.app (.c D (.c (show ([]:List Zab).length=0 from rfl) (.c (mQ (e:=Zab.c) Zab.d 7 (fun _=>rfl) ([]:List Zab)) (.c (show (f.take b.toNat).length=b.toNat/\∀i j,i<b.toNat->j<7->Zam Zab.c Zab.d (f.take b.toNat) i j=Zam Zab.c Zab.d f i j from(ZkA _ _ o)) (.c o (.c (Zcq (sz:=7) (e:=Zab.c) (d:=Zab.d) ([]:List Zab) (f.take b.toNat)) (.c t.1 (mz t.2 (mN (e:=Zab.c) Zab.d 7 (fun _=>rfl) ([g]:List Zab)) (Zcq (sz:=7) (e:=Zab.c) (d:=Zab.d) (([]:List Zab)++(f.take b.toNat)) ([g]:List Zab)) u.1 u.2 (show (f.drop b.toNat).length=f.length-b.toNat/\∀i j,i<f.length-b.toNat->j<7->Zam Zab.c Zab.d (f.drop b.toNat) i j=Zam Zab.c Zab.d f (b.toNat+i) j from(ZkB _ _)) o (Zcq (sz:=7) (e:=Zab.c) (d:=Zab.d) ((([]:List Zab)++(f.take b.toNat))++([g]:List Zab)) (f.drop b.toNat)) v.1 v.2)))))))))
  .obtain⟨p,y,h⟩:=Yt h;obtain⟨z,A,h⟩:=Yt h;apply Yb h 10 [rB [(4,false)],⟨[(0,.c ([]:List Zab).length (Zam Zab.c Zab.d ([]:List Zab))),(4,.c ((([]:List Zab)++(f.take b.toNat)).length) (Zam Zab.c Zab.d (([]:List Zab)++(f.take b.toNat)))),(7,.c (((([]:List Zab)++(f.take b.toNat))++([g]:List Zab)).length) (Zam Zab.c Zab.d ((([]:List Zab)++(f.take b.toNat))++([g]:List Zab))))],[],[],[],[],[(3,((f.take b.toNat).length,Zam Zab.c Zab.d (f.take b.toNat))),(6,(([g]:List Zab).length,Zam Zab.c Zab.d ([g]:List Zab)))],[]⟩,⟨[(4,.c ((((([]:List Zab)++(f.take b.toNat))++([g]:List Zab))++(f.drop b.toNat)).length) (Zam Zab.c Zab.d (((([]:List Zab)++(f.take b.toNat))++([g]:List Zab))++(f.drop b.toNat))))],[],[],[],[],[(3,((f.drop b.toNat).length,Zam Zab.c Zab.d (f.drop b.toNat)))],[]⟩] [false] [51] [] [] (.c C (.c (mP false) (.c (show ([]:List Zab).length=0 from rfl) (.c (mQ (e:=Zab.c) Zab.d 7 (fun _=>rfl) ([]:List Zab)) (.c (show (f.take b.toNat).length=b.toNat/\∀i j,i<b.toNat->j<7->Zam Zab.c Zab.d (f.take b.toNat) i j=Zam Zab.c Zab.d f i j from(ZkA _ _ p)) (.c p (.c (Zcq (sz:=7) (e:=Zab.c) (d:=Zab.d) ([]:List Zab) (f.take b.toNat)) (.c y.1 (mz y.2 (mN (e:=Zab.c) Zab.d 7 (fun _=>rfl) ([g]:List Zab)) (Zcq (sz:=7) (e:=Zab.c) (d:=Zab.d) (([]:List Zab)++(f.take b.toNat)) ([g]:List Zab)) z.1 z.2 (show (f.drop b.toNat).length=f.length-b.toNat/\∀i j,i<f.length-b.toNat->j<7->Zam Zab.c Zab.d (f.drop b.toNat) i j=Zam Zab.c Zab.d f (b.toNat+i) j from(ZkB _ _)) p (Zcq (sz:=7) (e:=Zab.c) (d:=Zab.d) ((([]:List Zab)++(f.take b.toNat))++([g]:List Zab)) (f.drop b.toNat)) A.1 A.2)))))))))
def Zhy(b:List Zab)(d:Zab)(e:Int):Option ((List Zab)×Int):=(ZdW d).bind fun f=>bif(!f)then some (([]:(List Zab)),(1:Int))else(ZdD b d.fEnd).bind fun g=>bif(decide (g>=(0:Int)))then some (([]:(List Zab)),(7:Int))else bif(decide ((b.length:Int)>=e))then some (([]:(List Zab)),(5:Int))else ZdE b (((b.length:Int)-(0:Int)).toNat+2) (0:Int) d
theorem ZqW(e:List Zab)(g:Zab)(o:Int)(r:((List Zab)×Int))(b:Zhy e g o=some r):Yp 70 [Yn e,.agg (Zab.c g),Yj o] (.tup [(false,(cLs 7 Zab.c Zab.d) r.1),(false,mi r.2)]):=by
 refine Yv Tryz.func70 fun S0 w0=>?_;unfold Zhy at b;obtain⟨h,p,b⟩:=Zad b;obtain⟨i,b⟩|⟨i,b⟩:=Zag b
 .apply Yb b 8 [rz,rA [(1,aB h)],rz] [true] [] [] [(6,[(0,cL 7 Zab.c Zab.d [])])] (mn (ZeQ _ _ p) i)
 .obtain⟨t,u,b⟩:=Zad b;have O3:=(mo (ZeQ _ _ p) i (Zeh _ _ _ u));obtain⟨f,b⟩|⟨f,b⟩:=Zag b
  .apply Yb b 13 [rz,rA [(1,aB h)],rA [(3,aI t)],rz] [false,true] [] [] [(6,[(0,cL 7 Zab.c Zab.d [])])] (mC O3 f)
  .let R4:List RA:=[rz,rA [(1,aB h)],rA [(3,aI t)],rz,rz]
   obtain⟨j,b⟩|⟨j,b⟩:=Zag b
   .apply Yb b 18 R4 [false,false,true] [] [] [(6,[(0,cL 7 Zab.c Zab.d [])])] (mD O3 f j)
   .exact Ye 21 R4 [false,false,false] (ma [0,4,8] [4]) (mD O3 f j) (ZoX S0 w0 e (((e.length:Int)-(0:Int)).toNat+2) (0:Int) g r b)
def ZfE(b:Zaa)(d:Int):Option Zaa:=bif(decide (d<(1:Int)))then some b else bif(decide (d>(1048576:Int)))then some b else bif(b.fPing != (0:Int))then bif(decide (b.fPing<=d))then some b else some (Zaa.mk b.fEnd b.fIn b.fSince b.fScore d b.fWork)else some (Zaa.mk b.fEnd b.fIn b.fSince b.fScore d b.fWork)
theorem Zqt(h:Zaa)(i:Int)(r:Zaa)(b:ZfE h i=some r):Yp 151 [.agg (Zaa.c h),Yj i] (.agg (Zaa.c r)):=by
 refine Yv Tryz.func151 fun S0 w0=>?_;unfold ZfE at b;obtain⟨d,b⟩|⟨d,b⟩:=Zag b
 .apply Ya b 8 [rz,rB [(2,true)],rz] [true] (mn d (mP true))
 .obtain⟨e,b⟩|⟨e,b⟩:=Zag b
  .apply Ya b 8 [rz,rB [(2,false),(6,true)],rz] [true] (mo d e (mP true))
  .obtain⟨f,b⟩|⟨f,b⟩:=Zag b
   .let R1:List RA:=[rz,rB [(2,false),(6,false),(10,true)],rz]
    obtain⟨g,b⟩|⟨g,b⟩:=Zag b
    .apply Ya b 8 R1 [true] (mq d e f g)
    .apply Ya b 11 (R1++[rz]) [false] (mq d e f g)
   .apply Ya b 11 [rz,rB [(2,false),(6,false),(10,false)],rz,rz] [false] (mq d e f (mP false))
def ZeD(b:Zaa)(e:Int):Option Zaa:=(Zbn e).bind fun d=>bif(decide (d>b.fWork))then some (Zaa.mk b.fEnd b.fIn b.fSince b.fScore b.fPing d)else some b
theorem Zpc(e:Zaa)(f:Int)(r:Zaa)(b:ZeD e f=some r):Yp 152 [.agg (Zaa.c e),Yj f] (.agg (Zaa.c r)):=by
 refine Yv Tryz.func152 fun S0 w0=>?_;unfold ZeD at b;obtain⟨g,h,b⟩:=Zad b;obtain⟨d,b⟩|⟨d,b⟩:=Zag b
 .apply Ya b 11 [rz,rA [(1,aI g)],rz,rz,rz] [true] (mn (Zbb _ _ h) d)
 .apply Ya b 11 [rz,rA [(1,aI g)],rz,rz] [false] (mn (Zbb _ _ h) d)
def Zgr(r:Zav)(b:Zan)(e:Zas):Option (Zan×Zap):=(Zca b.fPeers e.fEnd).bind fun f=>bif(decide (f<(0:Int)))then(Zby (6:Int)).bind fun h=>some (b,h)else bif(e.fKind==(2:Int))then(ZfA b.fPeers e.fEnd).bind fun i=>(Zev b.fBook ([e.fEnd]:List Zaj)).bind fun j=>some ((Zan.mk b.fBans j i.1),(Zap.mk 0 (Zaj.mk (Zah.mk false 0 0) 0) 0 0 ([]:(List Zaa))))else bif(e.fKind==(11:Int))then need (0<=f/\f<(b.fPeers.length:Int))<|(ZfE (b.fPeers.getD f.toNat Zaa.d) e.fNum).bind fun g=>(ZeP b.fPeers g).bind fun n=>some ((Zan.mk b.fBans b.fBook n),(Zap.mk 0 (Zaj.mk (Zah.mk false 0 0) 0) g.fPing 0 ([]:(List Zaa))))else need (0<=f/\f<(b.fPeers.length:Int))<|(ZeD (b.fPeers.getD f.toNat Zaa.d) e.fNow).bind fun o=>(ZeP b.fPeers o).bind fun p=>some ((Zan.mk b.fBans b.fBook p),(Zap.mk 0 (Zaj.mk (Zah.mk false 0 0) 0) 0 0 ([]:(List Zaa))))
theorem ZpI(z:Zav)(A:Zan)(f:Zas)(r:(Zan×Zap))(b:Zgr z A f=some r):Yp 72 [.agg (Zav.c z),.agg (Zan.c A),.agg (Zas.c f)] (.tup [(true,Zan.c r.1),(true,Zap.c r.2)]):=by
 refine Yv Tryz.func72 fun S0 w0=>?_;unfold Zgr at b;obtain⟨g,B,b⟩:=Zad b;obtain⟨o,b⟩|⟨o,b⟩:=Zag b
 .obtain⟨D,E,b⟩:=Zad b;apply Ya b 10 [rz,rA [(4,aI g)],rz,rA [(1,aG (Zap.c D))]] [true] (mo (ZbK _ _ _ B) o (Zbt _ _ E))
 .have O1:=(mn (ZbK _ _ _ B) o);obtain⟨h,b⟩|⟨h,b⟩:=Zag b
  .obtain⟨C,F,G,H,b⟩:=Yu b;apply Yb b 24 [rz,rA [(4,aI g)],rz,rz,rz,rA [(4,.r (.tup [(false,(cLs 10 Zaa.c Zaa.d) C.1),(false,mi C.2)]) [])],rz,⟨[(5,.r (Yn F) [])],[],[],[],[],[(4,(([f.fEnd]:List Zaj).length,Zam Zaj.c Zaj.d ([f.fEnd]:List Zaj)))],[]⟩,rz] [false,true] [] [(7,[(7,cL 10 Zaa.c Zaa.d [])])] [] (mF O1 h (Zly _ _ _ G) (mN (e:=Zaj.c) Zaj.d 4 (fun _=>rfl) ([f.fEnd]:List Zaj)) (Zlz _ _ _ H))
  .obtain⟨p,b⟩|⟨p,b⟩:=Zag b
   .obtain⟨I,b⟩:=Zao b;obtain⟨J,L,M,t,b⟩:=Yu b;apply Yb b 25 [rz,rA [(4,aI g)],rz,rz,rz,rz,rA [(7,aG (Zaa.c J))],rA [(3,.r (Ym L) [])],rz] [false,false,true] [] [(7,[(7,cL 10 Zaa.c Zaa.d [])])] [] (mG O1 h p I (Zqt _ _ _ M) (Zjt _ _ _ t))
   .obtain⟨u,b⟩:=Zao b;obtain⟨O,R,v,y,b⟩:=Yu b;apply Yb b 25 [rz,rA [(4,aI g)],rz,rz,rz,rz,rA [(9,aG (Zaa.c O)),(10,.r (Ym R) [])],rz] [false,false,false] [] [(7,[(7,cL 10 Zaa.c Zaa.d [])])] [] (mG O1 h p u (Zpc _ _ _ v) (Zjt _ _ _ y))
def Zdq(d:Int)(h:Bool)(i:Zav)(b:Zan)(f:Zas)(r:Zan)(t:Zap):Option (Zan×Zap):=bif h then(ZgT i b f).bind fun o=>some (o.1,o.2)else bif(d==(10:Int))then some (b,(Zap.mk 0 (Zaj.mk (Zah.mk false 0 0) 0) (b.fBans.length:Int) (b.fBook.length:Int) b.fPeers))else bif(d==(13:Int))then(Zhz f.fEnd f.fNow).bind fun p=>(Zhy b.fBook p i.fMaxBook).bind fun g=>bif(g.2==(0:Int))then(Zby g.2).bind fun j=>some ((Zan.mk b.fBans g.1 b.fPeers),j)else(Zby g.2).bind fun n=>some (b,n)else(Zgr i b f).bind fun e=>some (e.1,e.2)
theorem ZgD(p:Int)(t:Bool)(e:Zav)(v:Zan)(f:Zas)(y:Zan)(h:Zap)(r:(Zan×Zap))(b:Zdq p t e v f y h=some r):Yr 100 S0 w0 Tryz.f20 (.tup [(true,Zan.c r.1),(true,Zap.c r.2)]) [1,1,0,1,0,1,1,1,1,1,1,1,1,1] ⟨[(3,.one (.ptr 3 0)),(4,.one (.ptr 4 0)),(5,.one (.ptr 5 0)),(6,.one (.ptr 6 0)),(7,.one (.ptr 7 0)),(16,(Yj p)),(49,(Yk t))],[(3,.box (Zav.c e)),(4,.box (Zan.c v)),(5,.box (Zas.c f)),(6,.box (Zan.c y)),(7,.box (Zap.c h))]⟩:=by
 unfold Zdq at b;obtain⟨g,b⟩|⟨g,b⟩:=Zag b
 .obtain⟨H,z,b⟩:=Zad b;apply Ya b 3 [rA [(3,.r (.tup [(true,Zan.c H.1),(true,Zap.c H.2)]) [])]] [true] (mn g (Zql _ _ _ _ z))
 .obtain⟨i,b⟩|⟨i,b⟩:=Zag b
  .apply Ya b 6 [rz,rz] [false,true] (mn g i)
  .obtain⟨j,b⟩|⟨j,b⟩:=Zag b
   .obtain⟨J,A,b⟩:=Zad b;obtain⟨I,B,b⟩:=Zad b
    let R1:List RA:=[rz,rz,rA [(6,aG (Zab.c J)),(9,.r (.tup [(false,(cLs 7 Zab.c Zab.d) I.1),(false,mi I.2)]) [])],rz]
    have O2:=(mr g i j (ZqX _ _ _ A) (ZqW _ _ _ _ B));obtain⟨o,b⟩|⟨o,b⟩:=Zag b
    .obtain⟨C,D,b⟩:=Zad b;apply Ya b 16 (R1++[rz,rA [(2,aG (Zap.c C))]]) [false,false,true,true] (mD O2 o (Zbt _ _ D))
    .obtain⟨E,F,b⟩:=Zad b;apply Ya b 16 (R1++[rA [(2,aG (Zap.c E))]]) [false,false,true,false] (mD O2 o (Zbt _ _ F))
   .obtain⟨u,G,b⟩:=Zad b;apply Ya b 11 [rz,rz,rA [(3,.r (.tup [(true,Zan.c u.1),(true,Zap.c u.2)]) [])]] [false,false,false] (mq g i j (ZpI _ _ _ _ G))
def Zih(e:Zav)(d:Zan)(b:Zas):Option (Zan×Zap):=(Zgu b).bind fun j=>bif(!j)then(Zby (1:Int)).bind fun n=>some (d,n)else bif(b.fKind==(1:Int))then(ZfS e d b).bind fun f=>some (f.1,f.2)else bif(b.fKind==(3:Int))then(ZgS e d b).bind fun g=>some (g.1,g.2)else bif(b.fKind==(4:Int))then(ZfR e d b).bind fun h=>some (h.1,h.2)else bif(b.fKind==(5:Int))then(Zgs e d b).bind fun i=>some (i.1,i.2)else bif(b.fKind==(6:Int))then Zdq b.fKind (b.fKind==(6:Int)) e d b (Zan.mk ([]:(List Zac)) ([]:(List Zab)) ([]:(List Zaa))) (Zap.mk 0 (Zaj.mk (Zah.mk false 0 0) 0) 0 0 ([]:(List Zaa)))else bif(b.fKind==(7:Int))then Zdq b.fKind (b.fKind==(7:Int)) e d b (Zan.mk ([]:(List Zac)) ([]:(List Zab)) ([]:(List Zaa))) (Zap.mk 0 (Zaj.mk (Zah.mk false 0 0) 0) 0 0 ([]:(List Zaa)))else bif(b.fKind==(8:Int))then Zdq b.fKind (b.fKind==(8:Int)) e d b (Zan.mk ([]:(List Zac)) ([]:(List Zab)) ([]:(List Zaa))) (Zap.mk 0 (Zaj.mk (Zah.mk false 0 0) 0) 0 0 ([]:(List Zaa)))else Zdq b.fKind (b.fKind==(9:Int)) e d b (Zan.mk ([]:(List Zac)) ([]:(List Zab)) ([]:(List Zaa))) (Zap.mk 0 (Zaj.mk (Zah.mk false 0 0) 0) 0 0 ([]:(List Zaa)))
theorem ZrX(t:Zav)(u:Zan)(e:Zas)(r:(Zan×Zap))(b:Zih t u e=some r):Yp 20 [.agg (Zav.c t),.agg (Zan.c u),.agg (Zas.c e)] (.tup [(true,Zan.c r.1),(true,Zap.c r.2)]):=by
 refine Yv Tryz.func20 fun S0 w0=>?_;unfold Zih at b;obtain⟨i,A,b⟩:=Zad b;obtain⟨y,b⟩|⟨y,b⟩:=Zag b
 .obtain⟨F,G,b⟩:=Zad b;apply Ya b 8 [rz,rA [(1,aB i)],rA [(1,aG (Zap.c F))]] [true] (mo (Zlg _ _ A) y (Zbt _ _ G))
 .have O3:=(mn (Zlg _ _ A) y);obtain⟨h,b⟩|⟨h,b⟩:=Zag b
  .obtain⟨B,H,b⟩:=Zad b;apply Ya b 16 [rz,rA [(1,aB i)],rz,rz,rA [(3,.r (.tup [(true,Zan.c B.1),(true,Zap.c B.2)]) [])]] [false,true] (mD O3 h (ZoU _ _ _ _ H))
  .obtain⟨j,b⟩|⟨j,b⟩:=Zag b
   .obtain⟨C,I,b⟩:=Zad b;apply Ya b 19 [rz,rA [(1,aB i)],rz,rz,rz,rA [(3,.r (.tup [(true,Zan.c C.1),(true,Zap.c C.2)]) [])]] [false,false,true] (mE O3 h j (Zqk _ _ _ _ I))
   .obtain⟨v,b⟩|⟨v,b⟩:=Zag b
    .obtain⟨D,J,b⟩:=Zad b;apply Ya b 22 [rz,rA [(1,aB i)],rz,rz,rz,rz,rA [(3,.r (.tup [(true,Zan.c D.1),(true,Zap.c D.2)]) [])]] [false,false,false,true] (mF O3 h j v (ZoT _ _ _ _ J))
    .obtain⟨f,b⟩|⟨f,b⟩:=Zag b
     .obtain⟨E,z,b⟩:=Zad b;apply Ya b 25 [rz,rA [(1,aB i)],rz,rz,rz,rz,rz,rA [(3,.r (.tup [(true,Zan.c E.1),(true,Zap.c E.2)]) [])]] [false,false,false,false,true] (mG O3 h j v f (ZpK _ _ _ _ z))
     .obtain⟨g,b⟩|⟨g,b⟩:=Zag b
      .exact Ye 28 [rz,rA [(1,aB i)],rz,rz,rz,rz,rz,rz] [false,false,false,false,false,true] (mc [(6,[(0,cL 5 Zac.c Zac.d []),(1,cL 7 Zab.c Zab.d []),(2,cL 10 Zaa.c Zaa.d [])]),(7,[(7,cL 10 Zaa.c Zaa.d [])])] [3,4,5,6,7,16,49] [3,4,5,6,7]) (mG O3 h j v f g) (ZgD S0 w0 e.fKind (e.fKind==(6:Int)) t u e Zan.d Zap.d r b)
      .let R4:List RA:=[rz,rA [(1,aB i)],rz,rz,rz,rz,rz,rz,rz]
       obtain⟨o,b⟩|⟨o,b⟩:=Zag b
       .exact Ye 31 R4 [false,false,false,false,false,false,true] (mc [(6,[(0,cL 5 Zac.c Zac.d []),(1,cL 7 Zab.c Zab.d []),(2,cL 10 Zaa.c Zaa.d [])]),(7,[(7,cL 10 Zaa.c Zaa.d [])])] [3,4,5,6,7,16,49] [3,4,5,6,7]) (mH O3 h j v f g o) (ZgD S0 w0 e.fKind (e.fKind==(7:Int)) t u e Zan.d Zap.d r b)
       .have O5:=(mH O3 h j v f g o);obtain⟨p,b⟩|⟨p,b⟩:=Zag b
        .exact Ye 34 (R4++[rz]) [false,false,false,false,false,false,false,true] (mc [(6,[(0,cL 5 Zac.c Zac.d []),(1,cL 7 Zab.c Zab.d []),(2,cL 10 Zaa.c Zaa.d [])]),(7,[(7,cL 10 Zaa.c Zaa.d [])])] [3,4,5,6,7,16,49] [3,4,5,6,7]) (mC O5 p) (ZgD S0 w0 e.fKind (e.fKind==(8:Int)) t u e Zan.d Zap.d r b)
        .exact Ye 34 (R4++[rz,rz]) [false,false,false,false,false,false,false,false] (mc [(6,[(0,cL 5 Zac.c Zac.d []),(1,cL 7 Zab.c Zab.d []),(2,cL 10 Zaa.c Zaa.d [])]),(7,[(7,cL 10 Zaa.c Zaa.d [])])] [3,4,5,6,7,16,49] [3,4,5,6,7]) (mC O5 p) (ZgD S0 w0 e.fKind (e.fKind==(9:Int)) t u e Zan.d Zap.d r b)
def Zcv(e:List Zas):Nat->Int->Zav->Zan->Zan->Option Zan|0,_,_,_,_=>none|fu+1,b,f,h,g=>bif(decide (b<(e.length:Int)))then need (0<=b/\b<(e.length:Int))<|(Zih f g (e.getD b.toNat Zas.d)).bind fun i=>Zcv e fu (Zaq b 1) f h i.1 else some g
theorem Znn(p:List Zas):∀(i:Nat)(h:Int)(b:Zav)(f g r:Zan),Zcv p i h b f g=some r->Yr 28 S0 w0 Tryz.f36 (.agg (Zan.c r)) [1,1,0,1,0] ⟨[(1,.one (cL 12 Zas.c Zas.d p)),(2,.one (.ptr 2 0)),(4,.one (.ptr 4 0)),(5,.one (.ptr 5 0)),(6,(Yj h))],[(2,.box (Zav.c b)),(4,.box (Zan.c f)),(5,.box (Zan.c g))]⟩:=by
 intro i;induction i with
 |zero=>
  intro h b f g r e;simp[Zcv]at e
 |succ i t=>
  intro h b f g r e;unfold Zcv at e;obtain⟨j,e⟩|⟨j,e⟩:=Zag e
  .obtain⟨u,e⟩:=Zao e;obtain⟨o,v,e⟩:=Zad e;exact Ye 14 [rz,rA [(6,.r (.tup [(true,Zan.c o.1),(true,Zap.c o.2)]) [])],rz,rz] [true] (ma [1,2,4,5,6] [2,4,5]) (mo j u (ZrX _ _ _ _ v)) (t (Zaq h 1) b f o.1 r e)
  .apply Ya e 8 [rz,rz] [false] (ml j)
def ZfX(d:Zav)(b:List Zas):Option Zan:=Zcv b (((b.length:Int)-(0:Int)).toNat+2) (0:Int) d (Zan.mk ([]:(List Zac)) ([]:(List Zab)) ([]:(List Zaa))) (Zan.mk ([]:(List Zac)) ([]:(List Zab)) ([]:(List Zaa)))
theorem Zph(e:Zav)(b:List Zas)(r:Zan)(f:ZfX e b=some r):Yp 36 [.agg (Zav.c e),.one (cL 12 Zas.c Zas.d b)] (.agg (Zan.c r)):=by
 refine Yv Tryz.func36 fun S0 w0=>?_;unfold ZfX at f;exact Ye 8 [rz,rz,rz] [] (mc [(4,[(0,cL 5 Zac.c Zac.d []),(1,cL 7 Zab.c Zab.d []),(2,cL 10 Zaa.c Zaa.d [])]),(5,[(0,cL 5 Zac.c Zac.d []),(1,cL 7 Zab.c Zab.d []),(2,cL 10 Zaa.c Zaa.d [])])] [1,2,4,5,6] [2,4,5]) .n (Znn S0 w0 b (((b.length:Int)-(0:Int)).toNat+2) (0:Int) e Zan.d Zan.d r f)
def ZkG(e:ZaB)(b:Zab)(d:Int):Option Bool:=(Zht b).bind fun f=>bif f then(ZlM b d).bind fun g=>bif g then(Zdk e b.fEnd d).bind fun h=>some h else some false else some false
theorem Ztq(g:ZaB)(h:Zab)(i:Int)(r:Bool)(b:ZkG g h i=some r):Yp 41 [.agg (ZaB.c g),.agg (Zab.c h),Yj i] (Yk r):=by
 refine Yv Tryz.func41 fun S0 w0=>?_;unfold ZkG at b;obtain⟨d,j,b⟩:=Zad b;obtain⟨e,b⟩|⟨e,b⟩:=Zag b
 .obtain⟨o,p,b⟩:=Zad b;have O1:=(mo (ZiU _ _ j) e (Zse _ _ _ p));obtain⟨f,b⟩|⟨f,b⟩:=Zag b
  .obtain⟨t,u,b⟩:=Zad b;apply Ya b 4 [rz,⟨[(1,aB d),(5,aB o),(12,aB t)],[(2,true),(7,true)],[],[],[],[],[]⟩] [] (mD O1 f (Zno _ _ _ _ u))
  .apply Ya b 4 [rz,⟨[(1,aB d),(5,aB o)],[(2,true),(7,false)],[],[],[],[],[]⟩] [] (mC O1 f)
 .apply Ya b 4 [rz,⟨[(1,aB d)],[(2,false)],[],[],[],[],[]⟩] [] (mn (ZiU _ _ j) e)
def Zda(e f:List Zac):Nat->Int->Option Bool|0,_=>none|fu+1,b=>bif(decide (b<(e.length:Int)))then bif(decide (b<(f.length:Int)))then need (0<=b/\b<(e.length:Int))<|need (0<=b/\b<(f.length:Int))<|bif(!(decide ((e.getD b.toNat Zac.d)=(f.getD b.toNat Zac.d))))then some false else Zda e f fu (Zaq b 1)else some true else some true
theorem ZoS(f g:List Zac):∀(h:Nat)(e:Int)(r:Bool),Zda f g h e=some r->Yr 32 S0 w0 Tryz.f74 (Yk r) [1,1,0,1,0] ⟨[(0,(Yl f)),(1,(Yl g)),(5,(Yj e))],[]⟩:=by
 intro h;induction h with
 |zero=>
  intro e r b;simp[Zda]at b
 |succ h p=>
  intro e r b;unfold Zda at b;obtain⟨i,b⟩|⟨i,b⟩:=Zag b
  .obtain⟨j,b⟩|⟨j,b⟩:=Zag b
   .obtain⟨t,b⟩:=Zao b;obtain⟨u,b⟩:=Zao b
    let R1:List RA:=[rB [(4,true)],rA [(8,aB (!(decide ((f.getD e.toNat Zac.d)=(g.getD e.toNat Zac.d)))))],rz]
    have O2:=(mr i j t u (Zza (f.getD e.toNat Zac.d) (g.getD e.toNat Zac.d) (.tmp 26) (.tmp 30)));obtain⟨o,b⟩|⟨o,b⟩:=Zag b
    .apply Ya b 13 R1 [true,true] (mC O2 o)
    .exact Ye 15 R1 [true,false] (Yi [0,1,5]) (mC O2 o) (p (Zaq e 1) r b)
   .apply Ya b 8 [rB [(4,true)],rz] [false] (mn i j)
  .apply Ya b 8 [rB [(4,false)],rz] [false] (mn i (mP false))
def Zhv(d b:List Zac):Option Bool:=bif((d.length:Int) != (b.length:Int))then some false else Zda d b (((b.length:Int)-(0:Int)).toNat+2) (0:Int)
theorem Zmm(e d:List Zac)(r:Bool)(b:Zhv e d=some r):Yp 74 [Yl e,Yl d] (Yk r):=by
 refine Yv Tryz.func74 fun S0 w0=>?_;unfold Zhv at b;obtain⟨f,b⟩|⟨f,b⟩:=Zag b
 .apply Ya b 8 [rz,rz,rz] [true] (ml f)
 .exact Ye 11 [rz,rz,rz] [false] (Yi [0,1,5]) (ml f) (ZoS S0 w0 e d (((d.length:Int)-(0:Int)).toNat+2) (0:Int) r b)
def ZcZ(e f:List Zab):Nat->Int->Option Bool|0,_=>none|fu+1,b=>bif(decide (b<(e.length:Int)))then bif(decide (b<(f.length:Int)))then need (0<=b/\b<(e.length:Int))<|need (0<=b/\b<(f.length:Int))<|bif(!(decide ((e.getD b.toNat Zab.d)=(f.getD b.toNat Zab.d))))then some false else ZcZ e f fu (Zaq b 1)else some true else some true
theorem ZoR(f g:List Zab):∀(h:Nat)(e:Int)(r:Bool),ZcZ f g h e=some r->Yr 32 S0 w0 Tryz.f75 (Yk r) [1,1,0,1,0] ⟨[(0,(Yn f)),(1,(Yn g)),(5,(Yj e))],[]⟩:=by
 intro h;induction h with
 |zero=>
  intro e r b;simp[ZcZ]at b
 |succ h p=>
  intro e r b;unfold ZcZ at b;obtain⟨i,b⟩|⟨i,b⟩:=Zag b
  .obtain⟨j,b⟩|⟨j,b⟩:=Zag b
   .obtain⟨t,b⟩:=Zao b;obtain⟨u,b⟩:=Zao b
    let R1:List RA:=[rB [(4,true)],rA [(8,aB (!(decide ((f.getD e.toNat Zab.d)=(g.getD e.toNat Zab.d)))))],rz]
    have O2:=(mr i j t u (Zwb (f.getD e.toNat Zab.d) (g.getD e.toNat Zab.d) (.tmp 26) (.tmp 30)));obtain⟨o,b⟩|⟨o,b⟩:=Zag b
    .apply Ya b 13 R1 [true,true] (mC O2 o)
    .exact Ye 15 R1 [true,false] (Yi [0,1,5]) (mC O2 o) (p (Zaq e 1) r b)
   .apply Ya b 8 [rB [(4,true)],rz] [false] (mn i j)
  .apply Ya b 8 [rB [(4,false)],rz] [false] (mn i (mP false))
def Zhu(d b:List Zab):Option Bool:=bif((d.length:Int) != (b.length:Int))then some false else ZcZ d b (((b.length:Int)-(0:Int)).toNat+2) (0:Int)
theorem ZqS(e d:List Zab)(r:Bool)(b:Zhu e d=some r):Yp 75 [Yn e,Yn d] (Yk r):=by
 refine Yv Tryz.func75 fun S0 w0=>?_;unfold Zhu at b;obtain⟨f,b⟩|⟨f,b⟩:=Zag b
 .apply Ya b 8 [rz,rz,rz] [true] (ml f)
 .exact Ye 11 [rz,rz,rz] [false] (Yi [0,1,5]) (ml f) (ZoR S0 w0 e d (((d.length:Int)-(0:Int)).toNat+2) (0:Int) r b)
def ZcP(e f:List Zaa):Nat->Int->Option Bool|0,_=>none|fu+1,b=>bif(decide (b<(e.length:Int)))then bif(decide (b<(f.length:Int)))then need (0<=b/\b<(e.length:Int))<|need (0<=b/\b<(f.length:Int))<|bif(!(decide ((e.getD b.toNat Zaa.d)=(f.getD b.toNat Zaa.d))))then some false else ZcP e f fu (Zaq b 1)else some true else some true
theorem Zog(f g:List Zaa):∀(h:Nat)(e:Int)(r:Bool),ZcP f g h e=some r->Yr 32 S0 w0 Tryz.f73 (Yk r) [1,1,0,1,0] ⟨[(0,(Ym f)),(1,(Ym g)),(5,(Yj e))],[]⟩:=by
 intro h;induction h with
 |zero=>
  intro e r b;simp[ZcP]at b
 |succ h p=>
  intro e r b;unfold ZcP at b;obtain⟨i,b⟩|⟨i,b⟩:=Zag b
  .obtain⟨j,b⟩|⟨j,b⟩:=Zag b
   .obtain⟨t,b⟩:=Zao b;obtain⟨u,b⟩:=Zao b
    let R1:List RA:=[rB [(4,true)],rA [(8,aB (!(decide ((f.getD e.toNat Zaa.d)=(g.getD e.toNat Zaa.d)))))],rz]
    have O2:=(mr i j t u (Zxm (f.getD e.toNat Zaa.d) (g.getD e.toNat Zaa.d) (.tmp 26) (.tmp 30)));obtain⟨o,b⟩|⟨o,b⟩:=Zag b
    .apply Ya b 13 R1 [true,true] (mC O2 o)
    .exact Ye 15 R1 [true,false] (Yi [0,1,5]) (mC O2 o) (p (Zaq e 1) r b)
   .apply Ya b 8 [rB [(4,true)],rz] [false] (mn i j)
  .apply Ya b 8 [rB [(4,false)],rz] [false] (mn i (mP false))
def ZgQ(d b:List Zaa):Option Bool:=bif((d.length:Int) != (b.length:Int))then some false else ZcP d b (((b.length:Int)-(0:Int)).toNat+2) (0:Int)
theorem Zqi(e d:List Zaa)(r:Bool)(b:ZgQ e d=some r):Yp 73 [Ym e,Ym d] (Yk r):=by
 refine Yv Tryz.func73 fun S0 w0=>?_;unfold ZgQ at b;obtain⟨f,b⟩|⟨f,b⟩:=Zag b
 .apply Ya b 8 [rz,rz,rz] [true] (ml f)
 .exact Ye 11 [rz,rz,rz] [false] (Yi [0,1,5]) (ml f) (Zog S0 w0 e d (((d.length:Int)-(0:Int)).toNat+2) (0:Int) r b)
def Zfz(b d:Zan):Option Bool:=(Zhv b.fBans d.fBans).bind fun e=>bif e then(Zhu b.fBook d.fBook).bind fun f=>bif f then(ZgQ b.fPeers d.fPeers).bind fun g=>some g else some false else some false
theorem Zlx(g h:Zan)(r:Bool)(b:Zfz g h=some r):Yp 22 [.agg (Zan.c g),.agg (Zan.c h)] (Yk r):=by
 refine Yv Tryz.func22 fun S0 w0=>?_;unfold Zfz at b;obtain⟨d,i,b⟩:=Zad b;obtain⟨e,b⟩|⟨e,b⟩:=Zag b
 .obtain⟨j,o,b⟩:=Zad b;have O1:=(mo (Zmm _ _ _ i) e (ZqS _ _ _ o));obtain⟨f,b⟩|⟨f,b⟩:=Zag b
  .obtain⟨p,t,b⟩:=Zad b;apply Ya b 4 [rz,⟨[(4,aB d),(10,aB j),(17,aB p)],[(5,true),(12,true)],[],[],[],[],[]⟩] [] (mD O1 f (Zqi _ _ _ t))
  .apply Ya b 4 [rz,⟨[(4,aB d),(10,aB j)],[(5,true),(12,false)],[],[],[],[],[]⟩] [] (mC O1 f)
 .apply Ya b 4 [rz,⟨[(4,aB d)],[(5,false)],[],[],[],[],[]⟩] [] (mn (Zmm _ _ _ i) e)
def Zce(i:Int)(t:Bool)(h j:Int)(u:Zav)(f:Zan)(r:ZaB)(aF:Bool->Int->Int->Zav->Zan->ZaB->Option Bool):Nat->Int->Zan->Zap->Option Bool|0,_,_,_=>none|fu+1,b,e,g=>bif(decide (b<(f.fBook.length:Int)))then need (0<=b/\b<(f.fBook.length:Int))<|bif(decide ((f.fBook.getD b.toNat Zab.d).fEnd=g.fEnd))then bif(g.fCode==(0:Int))then(ZkG r (f.fBook.getD b.toNat Zab.d) i).bind fun n=>bif n then bif((f.fBook.getD b.toNat Zab.d).fNext==h)then(Zcy f.fBans (((f.fBook.getD b.toNat Zab.d).fEnd).fAddr) i).bind fun o=>bif(o==(0:Int))then bif(decide (b<(e.fBook.length:Int)))then need (0<=b/\b<(e.fBook.length:Int))<|bif(decide ((e.fBook.getD b.toNat Zab.d).fEnd=(f.fBook.getD b.toNat Zab.d).fEnd))then bif((e.fBook.getD b.toNat Zab.d).fState==(2:Int))then(Zcz).bind fun p=>some p else some false else some false else some false else some false else some false else some false else some false else Zce i t h j u f r aF fu (Zaq b 1) e g else some false
theorem ZlO(G:Int)(R:Bool)(D H:Int)(U:Zav)(j:Zan)(E:ZaB)(aF:Bool->Int->Int->Zav->Zan->ZaB->Option Bool)(cg:∀(gT:Bool)(cF cG:Int)(dB:Zav)(kz:Zan)(kC:ZaB)(r:Bool),aF gT cF cG dB kz kC=some r->Yr 187 S0 w0 Tryz.f8 (Yk r) [1,1,1,1,1,0,1,0] ⟨[(2,(Yj G)),(3,.one (.ptr 3 0)),(7,.one (.ptr 7 0)),(8,.one (.ptr 8 0)),(9,(Yk gT)),(10,(Yj cF)),(11,(Yj cG))],[(3,.box (Zav.c dB)),(7,.box (Zan.c kz)),(8,.box (ZaB.c kC))]⟩):∀(F:Nat)(e:Int)(g:Zan)(f:Zap)(r:Bool),Zce G R D H U j E aF F e g f=some r->Yr 187 S0 w0 Tryz.f8 (Yk r) [1,1,1,1,1,1,1,1,1,0,1,0] ⟨[(2,(Yj G)),(7,.one (.ptr 7 0)),(8,.one (.ptr 8 0)),(10,(Yj D)),(12,.one (.ptr 12 0)),(13,.one (.ptr 13 0)),(14,(Yj e))],[(7,.box (Zan.c j)),(8,.box (ZaB.c E)),(12,.box (Zan.c g)),(13,.box (Zap.c f))]⟩:=by
 intro F;induction F with
 |zero=>
  intro e g f r b;simp[Zce]at b
 |succ F V=>
  intro e g f r b;unfold Zce at b;obtain⟨v,b⟩|⟨v,b⟩:=Zag b
  .obtain⟨I,b⟩:=Zao b
   let R1:List RA:=[rz,rz,rA [(4,aB (decide ((j.fBook.getD e.toNat Zab.d).fEnd=f.fEnd)))]]
   have O2:=(mo v I (ZhG ((j.fBook.getD e.toNat Zab.d).fEnd) f.fEnd (.tmp 128) (.tmp 130)));obtain⟨o,b⟩|⟨o,b⟩:=Zag b
   .obtain⟨y,b⟩|⟨y,b⟩:=Zag b
    .obtain⟨h,J,b⟩:=Zad b;have O3:=(mE O2 o y (Ztq _ _ _ _ J));obtain⟨p,b⟩|⟨p,b⟩:=Zag b
     .obtain⟨z,b⟩|⟨z,b⟩:=Zag b
      .obtain⟨i,L,b⟩:=Zad b;have O4:=(mE O3 p z (ZdT _ _ _ _ L));obtain⟨t,b⟩|⟨t,b⟩:=Zag b
       .obtain⟨A,b⟩|⟨A,b⟩:=Zag b
        .obtain⟨B,b⟩:=Zao b;have O5:=(mF O4 t A B (ZhG ((g.fBook.getD e.toNat Zab.d).fEnd) ((j.fBook.getD e.toNat Zab.d).fEnd) (.tmp 170) (.tmp 172)));obtain⟨u,b⟩|⟨u,b⟩:=Zag b
         .obtain⟨C,b⟩|⟨C,b⟩:=Zag b
          .obtain⟨M,O,b⟩:=Zad b;apply Ya b 15 (R1++[⟨[(7,aB h),(22,aI i),(41,aB (decide ((g.fBook.getD e.toNat Zab.d).fEnd=(j.fBook.getD e.toNat Zab.d).fEnd))),(53,aB M)],[(3,true),(9,true),(15,true),(25,true),(32,true),(43,true),(52,true)],[],[],[],[],[]⟩]) [true,true] (mF O5 u B C (Zdi _ O))
          .apply Ya b 15 (R1++[⟨[(7,aB h),(22,aI i),(41,aB (decide ((g.fBook.getD e.toNat Zab.d).fEnd=(j.fBook.getD e.toNat Zab.d).fEnd)))],[(3,true),(9,true),(15,true),(25,true),(32,true),(43,true),(52,false)],[],[],[],[],[]⟩]) [true,true] (mE O5 u B C)
         .apply Ya b 15 (R1++[⟨[(7,aB h),(22,aI i),(41,aB (decide ((g.fBook.getD e.toNat Zab.d).fEnd=(j.fBook.getD e.toNat Zab.d).fEnd)))],[(3,true),(9,true),(15,true),(25,true),(32,true),(43,false)],[],[],[],[],[]⟩]) [true,true] (mC O5 u)
        .apply Ya b 15 (R1++[⟨[(7,aB h),(22,aI i)],[(3,true),(9,true),(15,true),(25,true),(32,false)],[],[],[],[],[]⟩]) [true,true] (mD O4 t A)
       .apply Ya b 15 (R1++[⟨[(7,aB h),(22,aI i)],[(3,true),(9,true),(15,true),(25,false)],[],[],[],[],[]⟩]) [true,true] (mC O4 t)
      .apply Ya b 15 (R1++[⟨[(7,aB h)],[(3,true),(9,true),(15,false)],[],[],[],[],[]⟩]) [true,true] (mD O3 p z)
     .apply Ya b 15 (R1++[⟨[(7,aB h)],[(3,true),(9,false)],[],[],[],[],[]⟩]) [true,true] (mC O3 p)
    .apply Ya b 15 (R1++[rB [(3,false)]]) [true,true] (mD O2 o y)
   .exact Ye 17 (R1++[rz]) [true,false] (ma [2,7,8,10,12,13,14] [7,8,12,13]) (mC O2 o) (V (Zaq e 1) g f r b)
  .apply Ya b 8 [rz,rz] [false] (ml v)
def ZaY(g:Int):Nat->Bool->Int->Int->Zav->Zan->ZaB->Option Bool|0,_,_,_,_,_,_=>none|fu+1,n,f,b,h,e,i=>bif(decide (b<(e.fBook.length:Int)))then need (0<=b/\b<(e.fBook.length:Int))<|(ZkG i (e.fBook.getD b.toNat Zab.d) g).bind fun u=>bif u then bif(!n)then ZaY g fu true ((e.fBook.getD b.toNat Zab.d).fNext) (Zaq b 1) h e i else bif(decide ((e.fBook.getD b.toNat Zab.d).fNext<f))then ZaY g fu true ((e.fBook.getD b.toNat Zab.d).fNext) (Zaq b 1) h e i else ZaY g fu n f (Zaq b 1) h e i else ZaY g fu n f (Zaq b 1) h e i else(ZlK h e (Zas.mk 3 (Zaj.mk (Zah.mk false 0 0) 0) (Zae.mk (Zah.mk false 0 0) 0) g 0 false)).bind fun j=>(Zeg e).bind fun v=>bif(decide (v>=h.fMaxOut))then bif(j.2.fCode==(5:Int))then(Zfz e j.1).bind fun o=>bif o then(Zcz).bind fun p=>some p else some false else some false else bif(!n)then bif(j.2.fCode==(6:Int))then(Zfz e j.1).bind fun r=>bif r then(Zcz).bind fun t=>some t else some false else some false else Zce g n f b h e i (ZaY g fu) 1000000 (0:Int) j.1 j.2
theorem ZlP(I:Int):∀(E:Nat)(v:Bool)(g f:Int)(e:Zav)(h:Zan)(j:ZaB)(r:Bool),ZaY I E v g f e h j=some r->Yr 187 S0 w0 Tryz.f8 (Yk r) [1,1,1,1,1,0,1,0] ⟨[(2,(Yj I)),(3,.one (.ptr 3 0)),(7,.one (.ptr 7 0)),(8,.one (.ptr 8 0)),(9,(Yk v)),(10,(Yj g)),(11,(Yj f))],[(3,.box (Zav.c e)),(7,.box (Zan.c h)),(8,.box (ZaB.c j))]⟩:=by
 intro E;induction E with
 |zero=>
  intro v g f e h j r b;simp[ZaY]at b
 |succ E F=>
  intro v g f e h j r b;unfold ZaY at b;obtain⟨y,b⟩|⟨y,b⟩:=Zag b
  .obtain⟨o,b⟩:=Zao b;obtain⟨L,M,b⟩:=Zad b;have O6:=(mo y o (Ztq _ _ _ _ M));obtain⟨p,b⟩|⟨p,b⟩:=Zag b
   .obtain⟨t,b⟩|⟨t,b⟩:=Zag b
    .exact Ye 17 [rz,⟨[(7,aB L)],[(8,true),(11,true)],[],[],[],[],[]⟩,rz,rz,rz] [true,true] (ma [2,3,7,8,9,10,11] [3,7,8]) (mF O6 p t (mP true) o) (F true ((h.fBook.getD f.toNat Zab.d).fNext) (Zaq f 1) e h j r b)
    .let R7:List RA:=[rz,⟨[(7,aB L)],[(8,true),(11,false)],[],[],[],[],[]⟩,rz]
     obtain⟨z,b⟩|⟨z,b⟩:=Zag b
     .exact Ye 17 (R7++[rz,rz]) [true,true] (ma [2,3,7,8,9,10,11] [3,7,8]) (mG O6 p t o z o) (F true ((h.fBook.getD f.toNat Zab.d).fNext) (Zaq f 1) e h j r b)
     .exact Ye 15 R7 [true,false] (ma [2,3,7,8,9,10,11] [3,7,8]) (mF O6 p t o z) (F v g (Zaq f 1) e h j r b)
   .exact Ye 15 [rz,⟨[(7,aB L)],[(8,false)],[],[],[],[],[]⟩,rz] [true,false] (ma [2,3,7,8,9,10,11] [3,7,8]) (mD O6 p (mP false)) (F v g (Zaq f 1) e h j r b)
  .obtain⟨J,O,b⟩:=Zad b;obtain⟨x9,R,b⟩:=Zad b
   let R8:List RA:=[rz,rA [(4,.r (.tup [(true,Zan.c J.1),(true,Zap.c J.2)]) [])],rA [(1,aI x9)]]
   have O9:=(mo y (Zto _ _ _ _ O) (ZhL _ _ R));obtain⟨i,b⟩|⟨i,b⟩:=Zag b
   .obtain⟨A,b⟩|⟨A,b⟩:=Zag b
    .obtain⟨G,U,b⟩:=Zad b;have i5:=(mE O9 i A (Zlx _ _ _ U));obtain⟨B,b⟩|⟨B,b⟩:=Zag b
     .obtain⟨V,W,b⟩:=Zad b;apply Ya b 14 (R8++[⟨[(6,aB G),(9,aB V)],[(3,true),(8,true)],[],[],[],[],[]⟩]) [false,true] (mD i5 B (Zdi _ W))
     .apply Ya b 14 (R8++[⟨[(6,aB G)],[(3,true),(8,false)],[],[],[],[],[]⟩]) [false,true] (mC i5 B)
    .apply Ya b 14 (R8++[rB [(3,false)]]) [false,true] (mD O9 i A)
   .obtain⟨u,b⟩|⟨u,b⟩:=Zag b
    .obtain⟨C,b⟩|⟨C,b⟩:=Zag b
     .obtain⟨H,Z,b⟩:=Zad b;have i6:=(mF O9 i u C (Zlx _ _ _ Z));obtain⟨D,b⟩|⟨D,b⟩:=Zag b
      .obtain⟨x13,q28,b⟩:=Zad b;apply Ya b 19 (R8++[rz,⟨[(6,aB H),(9,aB x13)],[(3,true),(8,true)],[],[],[],[],[]⟩]) [false,false,true] (mD i6 D (Zdi _ q28))
      .apply Ya b 19 (R8++[rz,⟨[(6,aB H)],[(3,true),(8,false)],[],[],[],[],[]⟩]) [false,false,true] (mC i6 D)
     .apply Ya b 19 (R8++[rz,rB [(3,false)]]) [false,false,true] (mE O9 i u C)
    .exact Ye 22 (R8++[rz,rz]) [false,false,false] (ma [2,7,8,10,12,13,14] [7,8,12,13]) (mD O9 i u) (ZlO S0 w0 I v g f e h j (ZaY I E) F 1000000 (0:Int) J.1 J.2 r b)
def ZfO(d:Zav)(f:List Zas)(e:Int):Option Bool:=bif(decide ((f.length:Int)>(40:Int)))then(Zcz).bind fun g=>some g else(Zgv d).bind fun h=>bif(!h)then(Zcz).bind fun i=>some i else bif(decide (e<(0:Int)))then(Zcz).bind fun j=>some j else bif(decide (e>(1099511627776:Int)))then(Zcz).bind fun n=>some n else(ZfX d f).bind fun b=>ZaY e 1000000 false (0:Int) (0:Int) d b (ZaB.mk b.fBook b.fPeers b.fBans)
theorem ZmO(h:Zav)(u:List Zas)(i:Int)(r:Bool)(b:ZfO h u i=some r):Yp 8 [.agg (Zav.c h),.one (cL 12 Zas.c Zas.d u),Yj i] (Yk r):=by
 refine Yv Tryz.func8 fun S0 w0=>?_;unfold ZfO at b;obtain⟨j,b⟩|⟨j,b⟩:=Zag b
 .obtain⟨v,y,b⟩:=Zad b;apply Ya b 8 [rz,rB [(3,true)],rA [(0,aB v)]] [true] (mo j (mP true) (Zdi _ y))
 .obtain⟨o,z,b⟩:=Zad b;have eJ:=(mn j (ZpN _ _ z));obtain⟨e,b⟩|⟨e,b⟩:=Zag b
  .obtain⟨A,B,b⟩:=Zad b;apply Ya b 8 [rz,⟨[(5,aB o)],[(3,false),(8,true)],[],[],[],[],[]⟩,rA [(0,aB A)]] [true] (mE eJ e (mP true) (Zdi _ B))
  .obtain⟨g,b⟩|⟨g,b⟩:=Zag b
   .obtain⟨C,D,b⟩:=Zad b;apply Ya b 8 [rz,⟨[(5,aB o)],[(3,false),(8,false),(12,true)],[],[],[],[],[]⟩,rA [(0,aB C)]] [true] (mF eJ e g (mP true) (Zdi _ D))
   .let R13:List RA:=[rz,⟨[(5,aB o)],[(3,false),(8,false),(12,false)],[],[],[],[],[]⟩]
    obtain⟨p,b⟩|⟨p,b⟩:=Zag b
    .obtain⟨E,F,b⟩:=Zad b;apply Ya b 8 (R13++[rA [(0,aB E)]]) [true] (mF eJ e g p (Zdi _ F))
    .obtain⟨f,t,b⟩:=Zad b;exact Ye 17 (R13++[rA [(2,aG (Zan.c f))],rz,rz,rz]) [false] (ma [2,3,7,8,9,10,11] [3,7,8]) (mF eJ e g p (Zph _ _ _ t)) (ZlP S0 w0 i 1000000 false (0:Int) (0:Int) h f (ZaB.mk f.fBook f.fPeers f.fBans) r b)
end Go.Proofs.YtmnloegcpaahcaaGreat
