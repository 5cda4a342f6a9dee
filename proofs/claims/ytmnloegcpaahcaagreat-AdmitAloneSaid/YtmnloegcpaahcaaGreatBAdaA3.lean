import Derived.Test.YtmnloegcpaahcaaGreatBAdaA2
namespace Go.Proofs.YtmnloegcpaahcaaGreat
open Go.RowKit Go.Lib Go.Shelf
set_option linter.unusedVariables false
set_option maxRecDepth 100000
variable (S0:Nat->Prop)(w0:ZaW)
def ZfI(g:ZaA)(b:Zas)(d:ZaB):Option (Zas×Zau):=(Zgg b.fBans d.fEnd.fAddr d.fNow).bind fun o=>bif(decide (o>(0:Int)))then some (b,(Zau.mk 8 (Zal.mk (Zaf.mk false 0 0) 0) 0 o ([]:(List Zaa))))else(ZdV b.fPeers d.fEnd).bind fun t=>bif(decide (t>=(0:Int)))then(Zgx (7:Int)).bind fun u=>some (b,u)else(ZgZ d.fEnd true d.fNow).bind fun p=>(ZcW b.fPeers true).bind fun v=>bif(decide (v>=g.fMaxIn))then(ZdI b.fPeers g.fQuota g.fSecret).bind fun h=>bif(!h.2)then(Zgx (5:Int)).bind fun y=>some (b,y)else(ZgC b.fPeers h.1).bind fun z=>(Zef z.1 p).bind fun A=>some ((Zas.mk b.fBans b.fBook A),(Zau.mk 0 h.1 1 0 ([]:(List Zaa))))else(Zef b.fPeers p).bind fun j=>some ((Zas.mk b.fBans b.fBook j),(Zau.mk 0 (Zal.mk (Zaf.mk false 0 0) 0) 0 0 ([]:(List Zaa))))
theorem ZoG(A:ZaA)(B:Zas)(D:ZaB)(r:(Zas×Zau))(b:ZfI A B D=some r):Yo 65 [.agg (ZaA.c A),.agg (Zas.c B),.agg (ZaB.c D)] (.tup [(true,Zas.c r.1),(true,Zau.c r.2)]):=by
 refine Yv Tryz.func65 fun S0 w0=>?_;unfold ZfI at b;obtain⟨h,E,b⟩:=Zad b;obtain⟨j,b⟩|⟨j,b⟩:=Zah b
 .apply Yb b 10 [rz,rA [(7,aI h)],rz,rz] [true] [] [(7,[(7,cL 10 Zaa.c Zaa.d [])])] [] (md (ZkN _ _ _ _ E) j)
 .obtain⟨F,I,b⟩:=Zad b;have O1:=(me (ZkN _ _ _ _ E) j (Zgn _ _ _ I));obtain⟨o,b⟩|⟨o,b⟩:=Zah b
  .obtain⟨J,L,b⟩:=Zad b;apply Ya b 15 [rz,rA [(7,aI h)],rz,rA [(4,aI F)],rA [(1,aG (Zau.c J))]] [false,true] (mt O1 o (Zjt _ _ L))
  .obtain⟨M,O,b⟩:=Zad b;obtain⟨R,U,b⟩:=Zad b
   let R2:List RA:=[rz,rA [(7,aI h)],rz,rA [(4,aI F)],rA [(4,aG (Zaa.c M))],rz,rA [(2,aI R)]]
   have O3:=(mu O1 o (Zqz _ _ _ _ O) (ZeL _ _ _ U));obtain⟨p,b⟩|⟨p,b⟩:=Zah b
   .obtain⟨G,W,b⟩:=Zad b
    let R4:List RA:=(R2++[rA [(6,.r (.tup [(true,Zal.c G.1),(false,cB G.2)]) [])],rz])
    have O5:=(mt O3 p (ZoK _ _ _ _ W));obtain⟨g,b⟩|⟨g,b⟩:=Zah b
    .obtain⟨Z,t,b⟩:=Zad b;apply Ya b 30 (R4++[rA [(1,aG (Zau.c Z))]]) [false,false,true,true] (mt O5 g (Zjt _ _ t))
    .obtain⟨H,x9,u,v,b⟩:=Yu b;apply Yb b 38 (R4++[rA [(3,.r (.tup [(false,(cLs 10 Zaa.c Zaa.d) H.1),(false,l9 H.2)]) [])],rz,rz,rA [(3,.r (Yn x9) [])],rz]) [false,false,true,false] [] [(7,[(7,cL 10 Zaa.c Zaa.d [])])] [] (mu O5 g (ZpU _ _ _ u) (ZlO _ _ _ v))
   .obtain⟨y,z,b⟩:=Zad b;apply Yb b 27 (R2++[rA [(3,.r (Yn y) [])],rz]) [false,false,false] [] [(7,[(7,cL 10 Zaa.c Zaa.d [])])] [] (mt O3 p (ZlO _ _ _ z))
def ZeX(b:Int)(g:Bool)(h:ZaA)(d:Zas)(j:ZaB)(o:Zas)(p:Zau):Option (Zas×Zau):=bif g then none else bif(b==(10:Int))then some (d,(Zau.mk 0 (Zal.mk (Zaf.mk false 0 0) 0) (d.fBans.length:Int) (d.fBook.length:Int) d.fPeers))else bif(b==(13:Int))then none else none
theorem Zgm(o:Int)(p:Bool)(b:ZaA)(v:Zas)(h:ZaB)(y:Zas)(j:Zau)(r:(Zas×Zau))(g:ZeX o p b v h y j=some r):Yr 100 S0 w0 Tryz.f20 (.tup [(true,Zas.c r.1),(true,Zau.c r.2)]) [1,1,0,1,0,1,1,1,1,1,1,1,1,1] ⟨[(3,.one (.ptr 3 0)),(4,.one (.ptr 4 0)),(5,.one (.ptr 5 0)),(6,.one (.ptr 6 0)),(7,.one (.ptr 7 0)),(16,(Yj o)),(49,(Yk p))],[(3,.box (ZaA.c b)),(4,.box (Zas.c v)),(5,.box (ZaB.c h)),(6,.box (Zas.c y)),(7,.box (Zau.c j))]⟩:=by
 unfold ZeX at g;obtain⟨t,g⟩|⟨t,g⟩:=Zah g
 .cases g
 .obtain⟨u,g⟩|⟨u,g⟩:=Zah g
  .apply Ya g 6 [rz,rz] [false,true] (md t u)
  .obtain⟨z,g⟩|⟨z,g⟩:=Zah g
   .cases g
   .cases g
def Zdp(g:ZaA)(d:Zas)(b:ZaB):Option (Zas×Zau):=(ZfZ b).bind fun j=>bif(!j)then(Zgx (1:Int)).bind fun o=>some (d,o)else bif(b.fKind==(1:Int))then(ZfI g d b).bind fun h=>some (h.1,h.2)else bif(b.fKind==(3:Int))then none else bif(b.fKind==(4:Int))then none else bif(b.fKind==(5:Int))then none else bif(b.fKind==(6:Int))then ZeX b.fKind (b.fKind==(6:Int)) g d b (Zas.mk ([]:(List Zae)) ([]:(List Zac)) ([]:(List Zaa))) (Zau.mk 0 (Zal.mk (Zaf.mk false 0 0) 0) 0 0 ([]:(List Zaa)))else bif(b.fKind==(7:Int))then ZeX b.fKind (b.fKind==(7:Int)) g d b (Zas.mk ([]:(List Zae)) ([]:(List Zac)) ([]:(List Zaa))) (Zau.mk 0 (Zal.mk (Zaf.mk false 0 0) 0) 0 0 ([]:(List Zaa)))else bif(b.fKind==(8:Int))then ZeX b.fKind (b.fKind==(8:Int)) g d b (Zas.mk ([]:(List Zae)) ([]:(List Zac)) ([]:(List Zaa))) (Zau.mk 0 (Zal.mk (Zaf.mk false 0 0) 0) 0 0 ([]:(List Zaa)))else ZeX b.fKind (b.fKind==(9:Int)) g d b (Zas.mk ([]:(List Zae)) ([]:(List Zac)) ([]:(List Zaa))) (Zau.mk 0 (Zal.mk (Zaf.mk false 0 0) 0) 0 0 ([]:(List Zaa)))
theorem Zrm(o:ZaA)(p:Zas)(g:ZaB)(r:(Zas×Zau))(b:Zdp o p g=some r):Yo 20 [.agg (ZaA.c o),.agg (Zas.c p),.agg (ZaB.c g)] (.tup [(true,Zas.c r.1),(true,Zau.c r.2)]):=by
 refine Yv Tryz.func20 fun S0 w0=>?_;unfold Zdp at b;obtain⟨u,D,b⟩:=Zad b;obtain⟨B,b⟩|⟨B,b⟩:=Zah b
 .obtain⟨F,G,b⟩:=Zad b;apply Ya b 8 [rz,rA [(1,aB u)],rA [(1,aG (Zau.c F))]] [true] (me (ZkH _ _ D) B (Zjt _ _ G))
 .have O1:=(md (ZkH _ _ D) B);obtain⟨t,b⟩|⟨t,b⟩:=Zah b
  .obtain⟨E,H,b⟩:=Zad b;apply Ya b 16 [rz,rA [(1,aB u)],rz,rz,rA [(3,.r (.tup [(true,Zas.c E.1),(true,Zau.c E.2)]) [])]] [false,true] (mt O1 t (ZoG _ _ _ _ H))
  .obtain⟨v,b⟩|⟨v,b⟩:=Zah b
   .cases b
   .obtain⟨y,b⟩|⟨y,b⟩:=Zah b
    .cases b
    .obtain⟨z,b⟩|⟨z,b⟩:=Zah b
     .cases b
     .obtain⟨A,b⟩|⟨A,b⟩:=Zah b
      .exact Ye 28 [rz,rA [(1,aB u)],rz,rz,rz,rz,rz,rz] [false,false,false,false,false,true] (lY [(6,[(0,cL 5 Zae.c Zae.d []),(1,cL 7 Zac.c Zac.d []),(2,cL 10 Zaa.c Zaa.d [])]),(7,[(7,cL 10 Zaa.c Zaa.d [])])] [3,4,5,6,7,16,49] [3,4,5,6,7]) (my O1 t v y z A) (Zgm S0 w0 g.fKind (g.fKind==(6:Int)) o p g Zas.d Zau.d r b)
      .let R2:List RA:=[rz,rA [(1,aB u)],rz,rz,rz,rz,rz,rz,rz]
       obtain⟨h,b⟩|⟨h,b⟩:=Zah b
       .exact Ye 31 R2 [false,false,false,false,false,false,true] (lY [(6,[(0,cL 5 Zae.c Zae.d []),(1,cL 7 Zac.c Zac.d []),(2,cL 10 Zaa.c Zaa.d [])]),(7,[(7,cL 10 Zaa.c Zaa.d [])])] [3,4,5,6,7,16,49] [3,4,5,6,7]) (mz O1 t v y z A h) (Zgm S0 w0 g.fKind (g.fKind==(7:Int)) o p g Zas.d Zau.d r b)
       .have O3:=(mz O1 t v y z A h);obtain⟨j,b⟩|⟨j,b⟩:=Zah b
        .exact Ye 34 (R2++[rz]) [false,false,false,false,false,false,false,true] (lY [(6,[(0,cL 5 Zae.c Zae.d []),(1,cL 7 Zac.c Zac.d []),(2,cL 10 Zaa.c Zaa.d [])]),(7,[(7,cL 10 Zaa.c Zaa.d [])])] [3,4,5,6,7,16,49] [3,4,5,6,7]) (mr O3 j) (Zgm S0 w0 g.fKind (g.fKind==(8:Int)) o p g Zas.d Zau.d r b)
        .exact Ye 34 (R2++[rz,rz]) [false,false,false,false,false,false,false,false] (lY [(6,[(0,cL 5 Zae.c Zae.d []),(1,cL 7 Zac.c Zac.d []),(2,cL 10 Zaa.c Zaa.d [])]),(7,[(7,cL 10 Zaa.c Zaa.d [])])] [3,4,5,6,7,16,49] [3,4,5,6,7]) (mr O3 j) (Zgm S0 w0 g.fKind (g.fKind==(9:Int)) o p g Zas.d Zau.d r b)
def ZcR(g h:List Zaa):Nat->Int->Option Bool|0,_=>none|fu+1,b=>bif(decide (b<(g.length:Int)))then bif(decide (b<(h.length:Int)))then need (0<=b/\b<(g.length:Int))<|need (0<=b/\b<(h.length:Int))<|bif(!(decide ((g.getD b.toNat Zaa.d)=(h.getD b.toNat Zaa.d))))then some false else ZcR g h fu (Zan b 1)else some true else some true
theorem ZnU(h j:List Zaa):∀(o:Nat)(g:Int)(r:Bool),ZcR h j o g=some r->Yr 32 S0 w0 Tryz.f73 (Yk r) [1,1,0,1,0] ⟨[(0,(Yn h)),(1,(Yn j)),(5,(Yj g))],[]⟩:=by
 intro o;induction o with
 |zero=>
  intro g r b;simp[ZcR]at b
 |succ o v=>
  intro g r b;unfold ZcR at b;obtain⟨p,b⟩|⟨p,b⟩:=Zah b
  .obtain⟨t,b⟩|⟨t,b⟩:=Zah b
   .obtain⟨y,b⟩:=Zao b;obtain⟨z,b⟩:=Zao b
    let R1:List RA:=[rB [(4,true)],rA [(8,aB (!(decide ((h.getD g.toNat Zaa.d)=(j.getD g.toNat Zaa.d)))))],rz]
    have O2:=(mg p t y z (Zrx (h.getD g.toNat Zaa.d) (j.getD g.toNat Zaa.d) (.tmp 26) (.tmp 30)));obtain⟨u,b⟩|⟨u,b⟩:=Zah b
    .apply Ya b 13 R1 [true,true] (mr O2 u)
    .exact Ye 15 R1 [true,false] (Yi [0,1,5]) (mr O2 u) (v (Zan g 1) r b)
   .apply Ya b 8 [rB [(4,true)],rz] [false] (md p t)
  .apply Ya b 8 [rB [(4,false)],rz] [false] (md p (mH false))
def Zfw(d b:List Zaa):Option Bool:=bif((d.length:Int) != (b.length:Int))then some false else ZcR d b (((b.length:Int)-(0:Int)).toNat+2) (0:Int)
theorem Zld(g d:List Zaa)(r:Bool)(b:Zfw g d=some r):Yo 73 [Yn g,Yn d] (Yk r):=by
 refine Yv Tryz.func73 fun S0 w0=>?_;unfold Zfw at b;obtain⟨h,b⟩|⟨h,b⟩:=Zah b
 .apply Ya b 8 [rz,rz,rz] [true] (mc h)
 .exact Ye 11 [rz,rz,rz] [false] (Yi [0,1,5]) (mc h) (ZnU S0 w0 g d (((d.length:Int)-(0:Int)).toNat+2) (0:Int) r b)
def Zfv(b d:Zau):Option Bool:=bif(b.fCode==d.fCode)then bif(decide (b.fEnd=d.fEnd))then bif(b.fN==d.fN)then bif(b.fUntil==d.fUntil)then(Zfw b.fPeers d.fPeers).bind fun g=>some g else some false else some false else some false else some false
theorem ZpR(d g:Zau)(r:Bool)(b:Zfv d g=some r):Yo 21 [.agg (Zau.c d),.agg (Zau.c g)] (Yk r):=by
 refine Yv Tryz.func21 fun S0 w0=>?_;unfold Zfv at b;obtain⟨o,b⟩|⟨o,b⟩:=Zah b
 .have O1:=(md o (ZkY d.fEnd g.fEnd (.tmp 12) (.tmp 14)));obtain⟨h,b⟩|⟨h,b⟩:=Zah b
  .obtain⟨j,b⟩|⟨j,b⟩:=Zah b
   .obtain⟨p,b⟩|⟨p,b⟩:=Zah b
    .obtain⟨t,u,b⟩:=Zad b;apply Ya b 4 [rz,⟨[(10,aB (decide (d.fEnd=g.fEnd))),(31,aB t)],[(5,true),(12,true),(19,true),(26,true)],[],[],[],[],[]⟩] [] (mw O1 h j p (Zld _ _ _ u))
    .apply Ya b 4 [rz,⟨[(10,aB (decide (d.fEnd=g.fEnd)))],[(5,true),(12,true),(19,true),(26,false)],[],[],[],[],[]⟩] [] (mu O1 h j p)
   .apply Ya b 4 [rz,⟨[(10,aB (decide (d.fEnd=g.fEnd)))],[(5,true),(12,true),(19,false)],[],[],[],[],[]⟩] [] (mt O1 h j)
  .apply Ya b 4 [rz,⟨[(10,aB (decide (d.fEnd=g.fEnd)))],[(5,true),(12,false)],[],[],[],[],[]⟩] [] (mr O1 h)
 .apply Ya b 4 [rz,rB [(5,false)]] [] (mc o)
def ZcK:Nat->Int->(List Zaa)->Zab->Option (List Zaa)|0,_,_,_=>none|fu+1,b,h,g=>bif(decide (b<g.fSize))then bif(decide (b<(g.fSlots.length:Int)))then need (0<=b/\b<(g.fSlots.length:Int))<|need ((h++([(g.fSlots.getD b.toNat Zaa.d)]:List Zaa)).length * 80<=140737488355328/\(h++([(g.fSlots.getD b.toNat Zaa.d)]:List Zaa)).length<=maxLen)<|ZcK fu (Zan b 1) (h++([(g.fSlots.getD b.toNat Zaa.d)]:List Zaa)) g else some h else some h
theorem Zno:∀(p:Nat)(g:Int)(o:List Zaa)(b:Zab)(r:List Zaa),ZcK p g o b=some r->Ys 28 S0 w0 Tryz.f153 [(l5 99999 44 10 Zaa.c Zaa.d r)] (.one (.osl 99999 r.length)) [1,1,0,1,0] ⟨[(1,.one (.ptr 1 0)),(3,.one (.osl 3 o.length)),(4,(Yj g))],[(l5 3 44 10 Zaa.c Zaa.d o),(1,.box (Zab.c b))]⟩:=by
 intro p;induction p with
 |zero=>
  intro g o b r h;simp[ZcK]at h
 |succ p y=>
  intro g o b r h;unfold ZcK at h;obtain⟨t,h⟩|⟨t,h⟩:=Zah h
  .obtain⟨u,h⟩|⟨u,h⟩:=Zah h
   .obtain⟨z,v,h⟩:=Yt h;exact Ye 12 [rB [(4,true)],⟨[(7,.c ((o++([(b.fSlots.getD g.toNat Zaa.d)]:List Zaa)).length) (Zam Zaa.c Zaa.d (o++([(b.fSlots.getD g.toNat Zaa.d)]:List Zaa))))],[],[],[],[],[(6,(([(b.fSlots.getD g.toNat Zaa.d)]:List Zaa).length,Zam Zaa.c Zaa.d ([(b.fSlots.getD g.toNat Zaa.d)]:List Zaa)))],[]⟩,rz] [true] (lZ [1,3,4] [26,1] [(26,3)]) (mi t u z (mF (e:=Zaa.c) Zaa.d 10 (fun _=>rfl) ([(b.fSlots.getD g.toNat Zaa.d)]:List Zaa)) (Zdk (sz:=10) (e:=Zaa.c) (d:=Zaa.d) o ([(b.fSlots.getD g.toNat Zaa.d)]:List Zaa)) v.1 v.2) (y (Zan g 1) (o++([(b.fSlots.getD g.toNat Zaa.d)]:List Zaa)) b r h)
   .apply Yc h 8 [rB [(4,true)],rz] [false] (lZ [2] [3] [(3,99999)]) (md t u)
  .apply Yc h 8 [rB [(4,false)],rz] [false] (lZ [2] [3] [(3,99999)]) (md t (mH false))
def Zgb(b:Zab):Option (List Zaa):=ZcK 1000000 (0:Int) ([]:List Zaa) b
theorem ZoI(b:Zab)(r:List Zaa)(g:Zgb b=some r):Yp 153 [] [.agg (Zab.c b)] [(l5 99999 44 10 Zaa.c Zaa.d r)] (.one (.osl 99999 r.length)):=by
 refine Yw Tryz.func153 fun S0 w0=>?_;unfold Zgb at g;exact Ye 8 [rz,rA [(0,.c ([]:List Zaa).length (Zam Zaa.c Zaa.d ([]:List Zaa)))],rz] [] (lZ [1,3,4] [5,1] [(5,3)]) (md (show ([]:List Zaa).length=0 from rfl) (mI (e:=Zaa.c) Zaa.d 10 (fun _=>rfl) ([]:List Zaa))) (Zno S0 w0 1000000 (0:Int) ([]:List Zaa) b r g)
theorem Zpo(b:Zab)(r:List Zaa)(d:Zgb b=some r):Yo 153 [.agg (Zab.c b)] (Yn r):=(ZoI b r d).pure
def ZcY(g:List Zaa):Nat->Int->(List Zaa)->Option (List Zaa)|0,_,_=>none|fu+1,b,h=>bif(decide (b<(g.length:Int)))then need (0<=b/\b<(g.length:Int))<|(Zef h (g.getD b.toNat Zaa.d)).bind fun j=>ZcY g fu (Zan b 1) j else some h
theorem ZmS(u:List Zaa):∀(p:Nat)(o:Int)(g r:List Zaa),ZcY u p o g=some r->Ys 19 S0 w0 Tryz.f154 [(l5 99999 44 10 Zaa.c Zaa.d r)] (.one (.osl 99999 r.length)) [1,1,0,1,0] ⟨[(0,(Yn u)),(3,.one (.osl 3 g.length)),(4,(Yj o))],[(l5 3 44 10 Zaa.c Zaa.d g)]⟩:=by
 intro p;induction p with
 |zero=>
  intro o g r b;simp[ZcY]at b
 |succ p v=>
  intro o g r b;unfold ZcY at b;obtain⟨t,b⟩|⟨t,b⟩:=Zah b
  .obtain⟨o2,b⟩:=Zao b;obtain⟨h,z,b⟩:=Zad b;exact Ye 12 [rz,rH [] [(5,⟨[],[(99999,17)],[(l5 99999 44 10 Zaa.c Zaa.d h)],.one (.osl 99999 h.length)⟩)],rz] [true] (lZ [0,3,4] [17] [(17,3)]) (mf t o2 (Zlf _ _ _ z) (show ∀i j,i<h.length->j<10->∃y,Zam Zaa.c Zaa.d h i j=.lit y from(ZxT (sz:=10) (e:=Zaa.c) (d:=Zaa.d) (fun _=>rfl) (fun _=>rfl) _ _))) (v (Zan o 1) h r b)
  .apply Yc b 8 [rz,rz] [false] (lZ [2] [3] [(3,99999)]) (mc t)
def ZfJ(b:List Zaa):Option (List Zaa):=ZcY b (((b.length:Int)-(0:Int)).toNat+2) (0:Int) ([]:List Zaa)
theorem ZnY(b r:List Zaa)(g:ZfJ b=some r):Yp 154 [] [Yn b] [(l5 99999 44 10 Zaa.c Zaa.d r)] (.one (.osl 99999 r.length)):=by
 refine Yw Tryz.func154 fun S0 w0=>?_;unfold ZfJ at g;exact Ye 8 [rz,rA [(0,.c ([]:List Zaa).length (Zam Zaa.c Zaa.d ([]:List Zaa)))],rz] [] (lZ [0,3,4] [5] [(5,3)]) (md (show ([]:List Zaa).length=0 from rfl) (mI (e:=Zaa.c) Zaa.d 10 (fun _=>rfl) ([]:List Zaa))) (ZmS S0 w0 b (((b.length:Int)-(0:Int)).toNat+2) (0:Int) ([]:List Zaa) r g)
def ZcS(g:List Zab):Nat->Int->(List Zaa)->Option (List Zaa)|0,_,_=>none|fu+1,b,h=>bif(decide (b<(g.length:Int)))then need (0<=b/\b<(g.length:Int))<|(Zgb (g.getD b.toNat Zab.d)).bind fun j=>need ((h++j).length * 80<=140737488355328/\(h++j).length<=maxLen)<|ZcS g fu (Zan b 1) (h++j)else(ZfJ h).bind fun o=>some o
theorem ZnX(v:List Zab):∀(t:Nat)(h:Int)(g r:List Zaa),ZcS v t h g=some r->Ys 21 S0 w0 Tryz.f76 [(l5 99999 44 10 Zaa.c Zaa.d r)] (.one (.osl 99999 r.length)) [1,1,0,1,0] ⟨[(0,.one (cL 2 Zab.c Zab.d v)),(3,.one (.osl 3 g.length)),(4,(Yj h))],[(l5 3 44 10 Zaa.c Zaa.d g)]⟩:=by
 intro t;induction t with
 |zero=>
  intro h g r b;simp[ZcS]at b
 |succ t A=>
  intro h g r b;unfold ZcS at b;obtain⟨u,b⟩|⟨u,b⟩:=Zah b
  .obtain⟨o2,b⟩:=Zao b;obtain⟨o,B,b⟩:=Zad b;obtain⟨z,b⟩:=Zao b;exact Ye 12 [rz,rA [(5,.r (Yn o) []),(6,.c ((g++o).length) (Zam Zaa.c Zaa.d (g++o)))],rz] [true] (lZ [0,3,4] [18] [(18,3)]) (mh u o2 (Zpo _ _ B) (Zdk (sz:=10) (e:=Zaa.c) (d:=Zaa.d) g o) z.1 z.2) (A (Zan h 1) (g++o) r b)
  .obtain⟨p,D,b⟩:=Zad b;apply Yc b 8 [rz,rH [] [(1,⟨[],[(99999,20)],[(l5 99999 44 10 Zaa.c Zaa.d p)],.one (.osl 99999 p.length)⟩)]] [false] (lZ [2] [20] [(20,99999)]) (me u (ZnY _ _ D) (show ∀i j,i<p.length->j<10->∃y,Zam Zaa.c Zaa.d p i j=.lit y from(ZxT (sz:=10) (e:=Zaa.c) (d:=Zaa.d) (fun _=>rfl) (fun _=>rfl) _ _)))
def Zeu(b:List Zab):Option (List Zaa):=ZcS b (((b.length:Int)-(0:Int)).toNat+2) (0:Int) ([]:List Zaa)
theorem Zpp(b:List Zab)(r:List Zaa)(g:Zeu b=some r):Yp 76 [] [.one (cL 2 Zab.c Zab.d b)] [(l5 99999 44 10 Zaa.c Zaa.d r)] (.one (.osl 99999 r.length)):=by
 refine Yw Tryz.func76 fun S0 w0=>?_;unfold Zeu at g;exact Ye 8 [rz,rA [(0,.c ([]:List Zaa).length (Zam Zaa.c Zaa.d ([]:List Zaa)))],rz] [] (lZ [0,3,4] [5] [(5,3)]) (md (show ([]:List Zaa).length=0 from rfl) (mI (e:=Zaa.c) Zaa.d 10 (fun _=>rfl) ([]:List Zaa))) (ZnX S0 w0 b (((b.length:Int)-(0:Int)).toNat+2) (0:Int) ([]:List Zaa) r g)
theorem ZpT(b:List Zab)(r:List Zaa)(g:Zeu b=some r):Yo 76 [.one (cL 2 Zab.c Zab.d b)] (Yn r):=(Zpp b r g).pure
def ZeW(b:ZaE):Option Zas:=(Zeu b.fShards).bind fun d=>some (Zas.mk b.fBans b.fBook d)
theorem Zpk(d:ZaE)(r:Zas)(b:ZeW d=some r):Yo 23 [.agg (ZaE.c d)] (.agg (Zas.c r)):=by
 refine Yv Tryz.func23 fun S0 w0=>?_;unfold ZeW at b;obtain⟨g,h,b⟩:=Zad b;apply Ya b 4 [rz,rA [(6,.r (Yn g) [])]] [] (mc (ZpT _ _ h))
def Zde(g h:List Zae):Nat->Int->Option Bool|0,_=>none|fu+1,b=>bif(decide (b<(g.length:Int)))then bif(decide (b<(h.length:Int)))then need (0<=b/\b<(g.length:Int))<|need (0<=b/\b<(h.length:Int))<|bif(!(decide ((g.getD b.toNat Zae.d)=(h.getD b.toNat Zae.d))))then some false else Zde g h fu (Zan b 1)else some true else some true
theorem ZoE(h j:List Zae):∀(o:Nat)(g:Int)(r:Bool),Zde h j o g=some r->Yr 32 S0 w0 Tryz.f74 (Yk r) [1,1,0,1,0] ⟨[(0,(Yl h)),(1,(Yl j)),(5,(Yj g))],[]⟩:=by
 intro o;induction o with
 |zero=>
  intro g r b;simp[Zde]at b
 |succ o v=>
  intro g r b;unfold Zde at b;obtain⟨p,b⟩|⟨p,b⟩:=Zah b
  .obtain⟨t,b⟩|⟨t,b⟩:=Zah b
   .obtain⟨y,b⟩:=Zao b;obtain⟨z,b⟩:=Zao b
    let R1:List RA:=[rB [(4,true)],rA [(8,aB (!(decide ((h.getD g.toNat Zae.d)=(j.getD g.toNat Zae.d)))))],rz]
    have O2:=(mg p t y z (Zym (h.getD g.toNat Zae.d) (j.getD g.toNat Zae.d) (.tmp 26) (.tmp 30)));obtain⟨u,b⟩|⟨u,b⟩:=Zah b
    .apply Ya b 13 R1 [true,true] (mr O2 u)
    .exact Ye 15 R1 [true,false] (Yi [0,1,5]) (mr O2 u) (v (Zan g 1) r b)
   .apply Ya b 8 [rB [(4,true)],rz] [false] (md p t)
  .apply Ya b 8 [rB [(4,false)],rz] [false] (md p (mH false))
def ZgX(d b:List Zae):Option Bool:=bif((d.length:Int) != (b.length:Int))then some false else Zde d b (((b.length:Int)-(0:Int)).toNat+2) (0:Int)
theorem ZlN(g d:List Zae)(r:Bool)(b:ZgX g d=some r):Yo 74 [Yl g,Yl d] (Yk r):=by
 refine Yv Tryz.func74 fun S0 w0=>?_;unfold ZgX at b;obtain⟨h,b⟩|⟨h,b⟩:=Zah b
 .apply Ya b 8 [rz,rz,rz] [true] (mc h)
 .exact Ye 11 [rz,rz,rz] [false] (Yi [0,1,5]) (mc h) (ZoE S0 w0 g d (((d.length:Int)-(0:Int)).toNat+2) (0:Int) r b)
def Zdd(g h:List Zac):Nat->Int->Option Bool|0,_=>none|fu+1,b=>bif(decide (b<(g.length:Int)))then bif(decide (b<(h.length:Int)))then need (0<=b/\b<(g.length:Int))<|need (0<=b/\b<(h.length:Int))<|bif(!(decide ((g.getD b.toNat Zac.d)=(h.getD b.toNat Zac.d))))then some false else Zdd g h fu (Zan b 1)else some true else some true
theorem ZoD(h j:List Zac):∀(o:Nat)(g:Int)(r:Bool),Zdd h j o g=some r->Yr 32 S0 w0 Tryz.f75 (Yk r) [1,1,0,1,0] ⟨[(0,(Ym h)),(1,(Ym j)),(5,(Yj g))],[]⟩:=by
 intro o;induction o with
 |zero=>
  intro g r b;simp[Zdd]at b
 |succ o v=>
  intro g r b;unfold Zdd at b;obtain⟨p,b⟩|⟨p,b⟩:=Zah b
  .obtain⟨t,b⟩|⟨t,b⟩:=Zah b
   .obtain⟨y,b⟩:=Zao b;obtain⟨z,b⟩:=Zao b
    let R1:List RA:=[rB [(4,true)],rA [(8,aB (!(decide ((h.getD g.toNat Zac.d)=(j.getD g.toNat Zac.d)))))],rz]
    have O2:=(mg p t y z (Zvk (h.getD g.toNat Zac.d) (j.getD g.toNat Zac.d) (.tmp 26) (.tmp 30)));obtain⟨u,b⟩|⟨u,b⟩:=Zah b
    .apply Ya b 13 R1 [true,true] (mr O2 u)
    .exact Ye 15 R1 [true,false] (Yi [0,1,5]) (mr O2 u) (v (Zan g 1) r b)
   .apply Ya b 8 [rB [(4,true)],rz] [false] (md p t)
  .apply Ya b 8 [rB [(4,false)],rz] [false] (md p (mH false))
def ZgW(d b:List Zac):Option Bool:=bif((d.length:Int) != (b.length:Int))then some false else Zdd d b (((b.length:Int)-(0:Int)).toNat+2) (0:Int)
theorem Zqx(g d:List Zac)(r:Bool)(b:ZgW g d=some r):Yo 75 [Ym g,Ym d] (Yk r):=by
 refine Yv Tryz.func75 fun S0 w0=>?_;unfold ZgW at b;obtain⟨h,b⟩|⟨h,b⟩:=Zah b
 .apply Ya b 8 [rz,rz,rz] [true] (mc h)
 .exact Ye 11 [rz,rz,rz] [false] (Yi [0,1,5]) (mc h) (ZoD S0 w0 g d (((d.length:Int)-(0:Int)).toNat+2) (0:Int) r b)
def Zfu(b d:Zas):Option Bool:=(ZgX b.fBans d.fBans).bind fun g=>bif g then(ZgW b.fBook d.fBook).bind fun h=>bif h then(Zfw b.fPeers d.fPeers).bind fun j=>some j else some false else some false
theorem ZpQ(j o:Zas)(r:Bool)(b:Zfu j o=some r):Yo 22 [.agg (Zas.c j),.agg (Zas.c o)] (Yk r):=by
 refine Yv Tryz.func22 fun S0 w0=>?_;unfold Zfu at b;obtain⟨d,p,b⟩:=Zad b;obtain⟨g,b⟩|⟨g,b⟩:=Zah b
 .obtain⟨t,u,b⟩:=Zad b;have O1:=(me (ZlN _ _ _ p) g (Zqx _ _ _ u));obtain⟨h,b⟩|⟨h,b⟩:=Zah b
  .obtain⟨v,y,b⟩:=Zad b;apply Ya b 4 [rz,⟨[(4,aB d),(10,aB t),(17,aB v)],[(5,true),(12,true)],[],[],[],[],[]⟩] [] (mt O1 h (Zld _ _ _ y))
  .apply Ya b 4 [rz,⟨[(4,aB d),(10,aB t)],[(5,true),(12,false)],[],[],[],[],[]⟩] [] (mr O1 h)
 .apply Ya b 4 [rz,⟨[(4,aB d)],[(5,false)],[],[],[],[],[]⟩] [] (md (ZlN _ _ _ p) g)
def ZcU(h j o:Int)(b:ZaE)(p:Zas)(aR:Int->Int->ZaE->Zas->Option Bool):Nat->Int->Option Bool|0,_=>none|fu+1,g=>bif(decide (g<(b.fLocks.length:Int)))then need (0<=g/\g<(b.fLocks.length:Int))<|bif((b.fLocks.getD g.toNat Zat.d).fBy != (0:Int))then some false else bif(decide (((((b.fLocks.getD g.toNat Zat.d).fShare).length:Nat):Int)>(0:Int)))then some false else ZcU h j o b p aR fu (Zan g 1)else bif(b.fIn==j)then some (b.fOut==h)else some false
theorem Zof(u z A:Int)(g:ZaE)(B:Zas)(aR:Int->Int->ZaE->Zas->Option Bool)(df:∀(gR cN:Int)(eP:ZaE)(cW:Zas)(r:Bool),aR gR cN eP cW=some r->Yr 59 S0 w0 Tryz.f24 (Yk r) [1,1,0,1,0] ⟨[(2,(Yj u)),(3,.one (.ptr 3 0)),(4,.one (.ptr 4 0)),(7,(Yj gR)),(8,(Yj cN))],[(3,.box (ZaE.c eP)),(4,.box (Zas.c cW))]⟩):∀(p:Nat)(j:Int)(r:Bool),ZcU u z A g B aR p j=some r->Yr 59 S0 w0 Tryz.f24 (Yk r) [1,1,1,0,1,0] ⟨[(2,(Yj u)),(3,.one (.ptr 3 0)),(7,(Yj z)),(9,(Yj j))],[(3,.box (ZaE.c g))]⟩:=by
 intro p;induction p with
 |zero=>
  intro j r b;simp[ZcU]at b
 |succ p D=>
  intro j r b;unfold ZcU at b;obtain⟨h,b⟩|⟨h,b⟩:=Zah b
  .obtain⟨o,b⟩:=Zao b;obtain⟨t,b⟩|⟨t,b⟩:=Zah b
   .apply Ya b 13 [rz,rB [(7,true)],rz] [true,true] (mf h o t (mH true))
   .obtain⟨v,b⟩|⟨v,b⟩:=Zah b
    .apply Ya b 13 [rz,rB [(7,false)],rz] [true,true] (mg h o t o v)
    .exact Ye 15 [rz,rB [(7,false)],rz] [true,false] (lX [2,3,7,9] [3]) (mg h o t o v) (D (Zan j 1) r b)
  .obtain⟨y,b⟩|⟨y,b⟩:=Zah b
   .apply Ya b 8 [rz,rB [(4,true)]] [false] (md h y)
   .apply Ya b 8 [rz,rB [(4,false)]] [false] (md h y)
def ZbX(h:Int):Nat->Int->Int->ZaE->Zas->Option Bool|0,_,_,_,_=>none|fu+1,j,b,o,g=>bif(decide (b<(g.fPeers.length:Int)))then need (0<=b/\b<(g.fPeers.length:Int))<|bif(g.fPeers.getD b.toNat Zaa.d).fIn then ZbX h fu (Zan j 1) (Zan b 1) o g else ZbX h fu j (Zan b 1) o g else ZcU h j b o g (ZbX h fu) 1000000 (0:Int)
theorem Zog(t:Int):∀(p:Nat)(j o:Int)(g:ZaE)(h:Zas)(r:Bool),ZbX t p j o g h=some r->Yr 59 S0 w0 Tryz.f24 (Yk r) [1,1,0,1,0] ⟨[(2,(Yj t)),(3,.one (.ptr 3 0)),(4,.one (.ptr 4 0)),(7,(Yj j)),(8,(Yj o))],[(3,.box (ZaE.c g)),(4,.box (Zas.c h))]⟩:=by
 intro p;induction p with
 |zero=>
  intro j o g h r b;simp[ZbX]at b
 |succ p v=>
  intro j o g h r b;unfold ZbX at b;obtain⟨u,b⟩|⟨u,b⟩:=Zah b
  .obtain⟨o2,b⟩:=Zao b;obtain⟨y,b⟩|⟨y,b⟩:=Zah b
   .exact Ye 15 [rz,rz,rz,rz] [true,true] (lX [2,3,4,7,8] [3,4]) (me u o2 y) (v (Zan j 1) (Zan o 1) g h r b)
   .exact Ye 15 [rz,rz,rz] [true,false] (lX [2,3,4,7,8] [3,4]) (me u o2 y) (v j (Zan o 1) g h r b)
  .exact Ye 10 [rz,rz] [false] (lX [2,3,7,9] [3]) (mc u) (Zof S0 w0 t j o g h (ZbX t p) v 1000000 (0:Int) r b)
def ZgH(b:ZaE)(d:Zas)(g:Int):Option Bool:=ZbX g 1000000 (0:Int) (0:Int) b d
theorem Zqc(b:ZaE)(d:Zas)(g:Int)(r:Bool)(h:ZgH b d g=some r):Yo 24 [.agg (ZaE.c b),.agg (Zas.c d),Yj g] (Yk r):=by
 refine Yv Tryz.func24 fun S0 w0=>?_;unfold ZgH at h;exact Ye 8 [rz,rz,rz] [] (lX [2,3,4,7,8] [3,4]) .n (Zog S0 w0 g 1000000 (0:Int) (0:Int) b d r h)
def ZbR(b:Zay)(d:Int):Option Bool:=bif(decide (d<(1:Int)))then some false else bif(decide (d>(8:Int)))then some false else bif(decide (b.fKind<(1:Int)))then some false else bif(decide (b.fKind>(6:Int)))then some false else bif(decide (b.fKind<(5:Int)))then bif(decide (b.fKind<(6:Int)))then some true else some (decide (b.fSlot>=(0:Int)))else bif(decide (b.fShard>=(0:Int)))then bif(decide (b.fShard<d))then bif(decide (b.fKind<(6:Int)))then some true else some (decide (b.fSlot>=(0:Int)))else some false else some false
theorem ZkG(y:Zay)(z:Int)(r:Bool)(b:ZbR y z=some r):Yo 155 [.agg (Zay.c y),Yj z] (Yk r):=by
 refine Yv Tryz.func155 fun S0 w0=>?_;unfold ZbR at b;obtain⟨d,b⟩|⟨d,b⟩:=Zah b
 .apply Ya b 8 [rz,rB [(2,true)],rz] [true] (md d (mH true))
 .obtain⟨g,b⟩|⟨g,b⟩:=Zah b
  .apply Ya b 8 [rz,rB [(2,false),(6,true)],rz] [true] (me d g (mH true))
  .obtain⟨h,b⟩|⟨h,b⟩:=Zah b
   .apply Ya b 8 [rz,rB [(2,false),(6,false),(11,true)],rz] [true] (mf d g h (mH true))
   .let R1:List RA:=[rz,rB [(2,false),(6,false),(11,false)]]
    obtain⟨j,b⟩|⟨j,b⟩:=Zah b
    .apply Ya b 8 (R1++[rz]) [true] (mf d g h j)
    .obtain⟨o,b⟩|⟨o,b⟩:=Zah b
     .obtain⟨t,b⟩|⟨t,b⟩:=Zah b
      .apply Ya b 9 (R1++[rB [(3,true),(18,true)]]) [false] (mh d g h j o t)
      .apply Ya b 9 (R1++[rB [(3,true),(18,false)]]) [false] (mh d g h j o t)
     .obtain⟨u,b⟩|⟨u,b⟩:=Zah b
      .have O2:=(mh d g h j o u);obtain⟨p,b⟩|⟨p,b⟩:=Zah b
       .obtain⟨v,b⟩|⟨v,b⟩:=Zah b
        .apply Ya b 9 (R1++[rB [(3,false),(7,true),(14,true),(18,true)]]) [false] (mt O2 p v)
        .apply Ya b 9 (R1++[rB [(3,false),(7,true),(14,true),(18,false)]]) [false] (mt O2 p v)
       .apply Ya b 9 (R1++[rB [(3,false),(7,true),(14,false)]]) [false] (mr O2 p)
      .apply Ya b 9 (R1++[rB [(3,false),(7,false)]]) [false] (mh d g h j o u)
def Zck(h b:Int)(d:ZaK)(g:Bool):Option Bool:=bif g then some (d.fLock==(0:Int))else bif(b==(5:Int))then(ZbR d.fLoc h).bind fun j=>some j else bif(b==(6:Int))then(ZbR d.fLoc h).bind fun o=>bif o then some (decide (d.fLoc.fKind>(2:Int)))else some false else bif(b==(7:Int))then bif(d.fLoc.fKind==(1:Int))then some true else some (d.fLoc.fKind==(2:Int))else bif(b==(8:Int))then some true else some false
theorem Zjl(B y:Int)(g:ZaK)(z r:Bool)(b:Zck B y g z=some r):Yr 64 S0 w0 Tryz.f77 (Yk r) [1,1,0,1,0,1,1,1] ⟨[(1,(Yj B)),(2,.one (.ptr 2 0)),(12,(Yj y)),(26,(Yk z))],[(2,.box (ZaK.c g))]⟩:=by
 unfold Zck at b;obtain⟨o,b⟩|⟨o,b⟩:=Zah b
 .apply Ya b 3 [rz] [true] (mc o)
 .obtain⟨p,b⟩|⟨p,b⟩:=Zah b
  .obtain⟨E,F,b⟩:=Zad b;apply Ya b 6 [rz,rA [(3,aB E)]] [false,true] (me o p (ZkG _ _ _ F))
  .obtain⟨h,b⟩|⟨h,b⟩:=Zah b
   .obtain⟨D,A,b⟩:=Zad b;have O1:=(mf o p h (ZkG _ _ _ A));obtain⟨t,b⟩|⟨t,b⟩:=Zah b
    .apply Ya b 9 [rz,rz,⟨[(3,aB D)],[(4,true)],[],[],[],[],[]⟩] [false,false,true] (mr O1 t)
    .apply Ya b 9 [rz,rz,⟨[(3,aB D)],[(4,false)],[],[],[],[],[]⟩] [false,false,true] (mr O1 t)
   .obtain⟨j,b⟩|⟨j,b⟩:=Zah b
    .obtain⟨u,b⟩|⟨u,b⟩:=Zah b
     .apply Ya b 12 [rz,rz,rz,rB [(4,true)]] [false,false,false,true] (mg o p h j u)
     .apply Ya b 12 [rz,rz,rz,rB [(4,false)]] [false,false,false,true] (mg o p h j u)
    .obtain⟨v,b⟩|⟨v,b⟩:=Zah b
     .apply Ya b 15 [rz,rz,rz,rz,rz] [false,false,false,false,true] (mg o p h j v)
     .apply Ya b 17 [rz,rz,rz,rz,rz] [false,false,false,false,false] (mg o p h j v)
def Zce(g b:Int)(h:Bool)(d:ZaK):Option Bool:=bif h then bif(decide (d.fLock>=(0:Int)))then some (decide (d.fLock<=(Zan g 1)))else some false else bif(b==(2:Int))then Zck g b d (b==(2:Int))else Zck g b d (b==(4:Int))
theorem Zjm(p h:Int)(j:Bool)(b:ZaK)(r:Bool)(g:Zce p h j b=some r):Yr 64 S0 w0 Tryz.f77 (Yk r) [1,1,0,1,0,1] ⟨[(1,(Yj p)),(2,.one (.ptr 2 0)),(12,(Yj h)),(13,(Yk j))],[(2,.box (ZaK.c b))]⟩:=by
 unfold Zce at g;obtain⟨o,g⟩|⟨o,g⟩:=Zah g
 .obtain⟨t,g⟩|⟨t,g⟩:=Zah g
  .apply Ya g 3 [rB [(3,true)]] [true] (md o t)
  .apply Ya g 3 [rB [(3,false)]] [true] (md o t)
 .obtain⟨u,g⟩|⟨u,g⟩:=Zah g
  .exact Ye 6 [rz] [false,true] (lX [1,2,12,26] [2]) (md o u) (Zjl S0 w0 p h b (h==(2:Int)) r g)
  .exact Ye 6 [rz,rz] [false,false] (lX [1,2,12,26] [2]) (md o u) (Zjl S0 w0 p h b (h==(4:Int)) r g)
def Zbu(b:ZaK)(d:Int):Option Bool:=bif(decide (d<(1:Int)))then some false else bif(decide (d>(8:Int)))then some false else bif(b.fKind==(1:Int))then Zce d b.fKind (b.fKind==(1:Int)) b else Zce d b.fKind (b.fKind==(3:Int)) b
theorem ZkF(d:ZaK)(h:Int)(r:Bool)(b:Zbu d h=some r):Yo 77 [.agg (ZaK.c d),Yj h] (Yk r):=by
 refine Yv Tryz.func77 fun S0 w0=>?_;unfold Zbu at b;obtain⟨g,b⟩|⟨g,b⟩:=Zah b
 .apply Ya b 8 [rz,rB [(2,true)],rz] [true] (md g (mH true))
 .obtain⟨j,b⟩|⟨j,b⟩:=Zah b
  .apply Ya b 8 [rz,rB [(2,false)],rz] [true] (md g j)
  .obtain⟨o,b⟩|⟨o,b⟩:=Zah b
   .exact Ye 16 [rz,rB [(2,false)],rz,rz] [false,true] (lX [1,2,12,13] [2]) (me g j o) (Zjm S0 w0 h d.fKind (d.fKind==(1:Int)) d r b)
   .exact Ye 16 [rz,rB [(2,false)],rz,rz,rz] [false,false] (lX [1,2,12,13] [2]) (me g j o) (Zjm S0 w0 h d.fKind (d.fKind==(3:Int)) d r b)
def ZbO(g:ZaE)(b:Int):Option Zat:=bif(decide (b<(0:Int)))then some (Zat.mk 0 ([]:(List Int)))else bif(decide (b>=(g.fLocks.length:Int)))then some (Zat.mk 0 ([]:(List Int)))else need (0<=b/\b<(g.fLocks.length:Int))<|some (g.fLocks.getD b.toNat Zat.d)
theorem Zle(h:ZaE)(j:Int)(r:Zat)(b:ZbO h j=some r):Yo 78 [.agg (ZaE.c h),Yj j] (.agg (Zat.c r)):=by
 refine Yv Tryz.func78 fun S0 w0=>?_;unfold ZbO at b;obtain⟨d,b⟩|⟨d,b⟩:=Zah b
 .apply Yb b 8 [rz,rB [(2,true)],rz] [true] [] [(4,[(1,cL 1 l9 (0:Int) [])])] [] (md d (mH true))
 .obtain⟨g,b⟩|⟨g,b⟩:=Zah b
  .apply Yb b 8 [rz,rB [(2,false)],rz] [true] [] [(4,[(1,cL 1 l9 (0:Int) [])])] [] (md d g)
  .obtain⟨o,b⟩:=Zao b;apply Ya b 9 [rz,rB [(2,false)],rz] [false] (me d g o)
def Zbo(g:ZaE)(b:ZaK):Option Bool:=(Zbu b (g.fShards.length:Int)).bind fun h=>bif(!h)then some false else(ZbO g b.fLock).bind fun d=>bif(b.fKind != (1:Int))then bif(b.fKind != (2:Int))then some true else some (d.fBy==(0:Int))else bif(d.fBy==(0:Int))then bif((d.fShare.length:Int)==(0:Int))then bif(b.fKind != (2:Int))then some true else some (d.fBy==(0:Int))else some false else some false
theorem ZiL(t:ZaE)(u:ZaK)(r:Bool)(b:Zbo t u=some r):Yo 26 [.agg (ZaE.c t),.agg (ZaK.c u)] (Yk r):=by
 refine Yv Tryz.func26 fun S0 w0=>?_;unfold Zbo at b;obtain⟨v,y,b⟩:=Zad b;obtain⟨j,b⟩|⟨j,b⟩:=Zah b
 .apply Ya b 8 [rz,rA [(4,aB v)],rz] [true] (md (ZkF _ _ _ y) j)
 .obtain⟨z,A,b⟩:=Zad b
  let R1:List RA:=[rz,rA [(4,aB v)],rA [(3,aG (Zat.c z))]]
  have O2:=(me (ZkF _ _ _ y) j (Zle _ _ _ A));obtain⟨d,b⟩|⟨d,b⟩:=Zah b
  .obtain⟨o,b⟩|⟨o,b⟩:=Zah b
   .apply Ya b 11 (R1++[rB [(3,true),(18,true)]]) [false] (mt O2 d o)
   .apply Ya b 11 (R1++[rB [(3,true),(18,false)]]) [false] (mt O2 d o)
  .obtain⟨g,b⟩|⟨g,b⟩:=Zah b
   .obtain⟨h,b⟩|⟨h,b⟩:=Zah b
    .obtain⟨p,b⟩|⟨p,b⟩:=Zah b
     .apply Ya b 11 (R1++[rB [(3,false),(7,true),(14,true),(18,true)]]) [false] (mw O2 d g h p)
     .apply Ya b 11 (R1++[rB [(3,false),(7,true),(14,true),(18,false)]]) [false] (mw O2 d g h p)
    .apply Ya b 11 (R1++[rB [(3,false),(7,true),(14,false)]]) [false] (mu O2 d g h)
   .apply Ya b 11 (R1++[rB [(3,false),(7,false)]]) [false] (mt O2 d g)
def Zcx(b:ZaE)(d:Int)(g:Zat):Option ZaE:=bif(decide (d>=(0:Int)))then bif(decide (d<(b.fLocks.length:Int)))then need ((([]:List Zat)++b.fLocks).length * 32<=140737488355328/\(([]:List Zat)++b.fLocks).length<=maxLen)<|need (0<=d/\d<(((([]:List Zat)++b.fLocks).length:Nat):Int))<|some (ZaE.mk b.fIn b.fOut b.fBans b.fBook b.fShards ((([]:List Zat)++b.fLocks).set d.toNat g))else some b else some b
theorem Zfl(b:ZaE)(h:Int)(o:Zat)(r:ZaE)(g:Zcx b h o=some r):Yo 79 [.agg (ZaE.c b),Yj h,.agg (Zat.c o)] (.agg (ZaE.c r)):=by
 refine Yv Tryz.func79 fun S0 w0=>?_;unfold Zcx at g;obtain⟨p,g⟩|⟨p,g⟩:=Zah g
 .obtain⟨t,g⟩|⟨t,g⟩:=Zah g
  .obtain⟨u,v,g⟩:=Yt g;apply Yb g 11 [rz,rB [(2,true)],rA [(0,.c ([]:List Zat).length (Zam Zat.c Zat.d ([]:List Zat))),(3,.c ((([]:List Zat)++b.fLocks).length) (Zam Zat.c Zat.d (([]:List Zat)++b.fLocks)))],rA [(5,.c ((([]:List Zat)++b.fLocks).set h.toNat o).length (Zam Zat.c Zat.d ((([]:List Zat)++b.fLocks).set h.toNat o)))],rz] [true] [19] [] [] (.c p (mn t (show ([]:List Zat).length=0 from rfl) (mI (e:=Zat.c) Zat.d 2 (fun _=>rfl) ([]:List Zat)) (Zdk (sz:=2) (e:=Zat.c) (d:=Zat.d) ([]:List Zat) b.fLocks) u.1 u.2 v (show ((([]:List Zat)++b.fLocks).set h.toNat o).length=(([]:List Zat)++b.fLocks).length from List.length_set) (ltOf v) (show ExtU 2 ((([]:List Zat)++b.fLocks).length) (Zam Zat.c Zat.d (([]:List Zat)++b.fLocks)) h.toNat 0 (Zat.c o) (Zam Zat.c Zat.d ((([]:List Zat)++b.fLocks).set h.toNat o))from(ZhL _ _ _ rfl))))
  .apply Ya g 9 [rz,rB [(2,true)],rz] [false] (md p t)
 .apply Ya g 9 [rz,rB [(2,false)],rz] [false] (md p (mH false))
def ZbU(d:List Int)(g:Int):Nat->Bool->Int->(List Int)->Option (List Int)|0,_,_,_=>none|fu+1,j,b,h=>bif(decide (b<(d.length:Int)))then bif(!j)then need (0<=b/\b<(d.length:Int))<|bif(decide (g<=(d.getD b.toNat (0:Int))))then need ((h++([g]:List Int)).length * 8<=140737488355328/\(h++([g]:List Int)).length<=maxLen)<|bif((d.getD b.toNat (0:Int)) != g)then need (((h++([g]:List Int))++([(d.getD b.toNat (0:Int))]:List Int)).length * 8<=140737488355328/\((h++([g]:List Int))++([(d.getD b.toNat (0:Int))]:List Int)).length<=maxLen)<|ZbU d g fu true (Zan b 1) ((h++([g]:List Int))++([(d.getD b.toNat (0:Int))]:List Int))else ZbU d g fu true (Zan b 1) (h++([g]:List Int))else bif((d.getD b.toNat (0:Int)) != g)then need ((h++([(d.getD b.toNat (0:Int))]:List Int)).length * 8<=140737488355328/\(h++([(d.getD b.toNat (0:Int))]:List Int)).length<=maxLen)<|ZbU d g fu j (Zan b 1) (h++([(d.getD b.toNat (0:Int))]:List Int))else ZbU d g fu j (Zan b 1) h else need (0<=b/\b<(d.length:Int))<|bif((d.getD b.toNat (0:Int)) != g)then need ((h++([(d.getD b.toNat (0:Int))]:List Int)).length * 8<=140737488355328/\(h++([(d.getD b.toNat (0:Int))]:List Int)).length<=maxLen)<|ZbU d g fu j (Zan b 1) (h++([(d.getD b.toNat (0:Int))]:List Int))else ZbU d g fu j (Zan b 1) h else bif(!j)then need ((h++([g]:List Int)).length * 8<=140737488355328/\(h++([g]:List Int)).length<=maxLen)<|some (h++([g]:List Int))else some h
theorem ZmR(h:List Int)(p:Int):∀(G:Nat)(t:Bool)(g:Int)(o r:List Int),ZbU h p G t g o=some r->Ys 49 S0 w0 Tryz.f80 [(l5 99999 3 1 l9 (0:Int) r)] (.one (.osl 99999 r.length)) [1,1,1,0,1,0] ⟨[(0,.one (cL 1 l9 (0:Int) h)),(1,(Yj p)),(5,.one (.osl 5 o.length)),(6,(Yk t)),(7,(Yj g))],[(l5 5 3 1 l9 (0:Int) o)]⟩:=by
 intro G;induction G with
 |zero=>
  intro t g o r b;simp[ZbU]at b
 |succ G A=>
  intro t g o r b;unfold ZbU at b;obtain⟨v,b⟩|⟨v,b⟩:=Zah b
  .obtain⟨B,b⟩|⟨B,b⟩:=Zah b
   .obtain⟨u,b⟩:=Zao b;obtain⟨H,b⟩|⟨H,b⟩:=Zah b
    .obtain⟨L,b⟩:=Zao b
     let R1:List RA:=[rz,rB [(2,true)],⟨[(3,.c ((o++([p]:List Int)).length) (Zam l9 (0:Int) (o++([p]:List Int))))],[],[],[],[],[(2,(([p]:List Int).length,Zam l9 (0:Int) ([p]:List Int)))],[]⟩,rz,rz]
     have O2:=(ml v B u H (mF (e:=l9) (0:Int) 1 (fun _=>rfl) ([p]:List Int)) (Zdk (sz:=1) (e:=l9) (d:=(0:Int)) o ([p]:List Int)) L.1 L.2 u);obtain⟨I,b⟩|⟨I,b⟩:=Zah b
     .obtain⟨M,b⟩:=Zao b;exact Ye 22 (R1++[⟨[(6,.c (((o++([p]:List Int))++([(h.getD g.toNat (0:Int))]:List Int)).length) (Zam l9 (0:Int) ((o++([p]:List Int))++([(h.getD g.toNat (0:Int))]:List Int))))],[],[],[],[],[(5,(([(h.getD g.toNat (0:Int))]:List Int).length,Zam l9 (0:Int) ([(h.getD g.toNat (0:Int))]:List Int)))],[]⟩,rz]) [true,true,true] (lZ [0,1,5,6,7] [41] [(41,5)]) (mz O2 I u (mF (e:=l9) (0:Int) 1 (fun _=>rfl) ([(h.getD g.toNat (0:Int))]:List Int)) (Zdk (sz:=1) (e:=l9) (d:=(0:Int)) (o++([p]:List Int)) ([(h.getD g.toNat (0:Int))]:List Int)) M.1 M.2) (A true (Zan g 1) ((o++([p]:List Int))++([(h.getD g.toNat (0:Int))]:List Int)) r b)
     .exact Ye 22 (R1++[rz]) [true,true,false] (lZ [0,1,5,6,7] [28] [(28,5)]) (mr O2 I) (A true (Zan g 1) (o++([p]:List Int)) r b)
    .obtain⟨J,b⟩|⟨J,b⟩:=Zah b
     .obtain⟨O,b⟩:=Zao b;exact Ye 20 [rz,rB [(2,true)],rz,⟨[(6,.c ((o++([(h.getD g.toNat (0:Int))]:List Int)).length) (Zam l9 (0:Int) (o++([(h.getD g.toNat (0:Int))]:List Int))))],[],[],[],[],[(5,(([(h.getD g.toNat (0:Int))]:List Int).length,Zam l9 (0:Int) ([(h.getD g.toNat (0:Int))]:List Int)))],[]⟩,rz] [true,false,true] (lZ [0,1,5,6,7] [41] [(41,5)]) (.c v (mn B u H u J u (mF (e:=l9) (0:Int) 1 (fun _=>rfl) ([(h.getD g.toNat (0:Int))]:List Int)) (Zdk (sz:=1) (e:=l9) (d:=(0:Int)) o ([(h.getD g.toNat (0:Int))]:List Int)) O.1 O.2)) (A t (Zan g 1) (o++([(h.getD g.toNat (0:Int))]:List Int)) r b)
     .exact Ye 20 [rz,rB [(2,true)],rz,rz] [true,false,false] (lX [0,1,5,6,7] [5]) (mh v B u H u J) (A t (Zan g 1) o r b)
   .obtain⟨D,b⟩:=Zao b;have O3:=(mf v B (mH false) D);obtain⟨y,b⟩|⟨y,b⟩:=Zah b
    .obtain⟨E,b⟩:=Zao b;exact Ye 20 [rz,rB [(2,false)],rz,⟨[(6,.c ((o++([(h.getD g.toNat (0:Int))]:List Int)).length) (Zam l9 (0:Int) (o++([(h.getD g.toNat (0:Int))]:List Int))))],[],[],[],[],[(5,(([(h.getD g.toNat (0:Int))]:List Int).length,Zam l9 (0:Int) ([(h.getD g.toNat (0:Int))]:List Int)))],[]⟩,rz] [true,false,true] (lZ [0,1,5,6,7] [41] [(41,5)]) (mz O3 y D (mF (e:=l9) (0:Int) 1 (fun _=>rfl) ([(h.getD g.toNat (0:Int))]:List Int)) (Zdk (sz:=1) (e:=l9) (d:=(0:Int)) o ([(h.getD g.toNat (0:Int))]:List Int)) E.1 E.2) (A t (Zan g 1) (o++([(h.getD g.toNat (0:Int))]:List Int)) r b)
    .exact Ye 20 [rz,rB [(2,false)],rz,rz] [true,false,false] (lX [0,1,5,6,7] [5]) (mr O3 y) (A t (Zan g 1) o r b)
  .obtain⟨z,b⟩|⟨z,b⟩:=Zah b
   .obtain⟨F,b⟩:=Zao b;apply Yc b 13 [rz,rz,⟨[(3,.c ((o++([p]:List Int)).length) (Zam l9 (0:Int) (o++([p]:List Int))))],[],[],[],[],[(2,(([p]:List Int).length,Zam l9 (0:Int) ([p]:List Int)))],[]⟩,rz] [false,true] (lZ [4] [47] [(47,99999)]) (mh v z (mF (e:=l9) (0:Int) 1 (fun _=>rfl) ([p]:List Int)) (Zdk (sz:=1) (e:=l9) (d:=(0:Int)) o ([p]:List Int)) F.1 F.2)
   .apply Yc b 13 [rz,rz,rz] [false,false] (lZ [4] [5] [(5,99999)]) (md v z)
def ZfH(b:List Int)(d:Int):Option (List Int):=ZbU b d (((b.length:Int)-(0:Int)).toNat+2) false (0:Int) ([]:List Int)
theorem ZnW(b:List Int)(g:Int)(r:List Int)(h:ZfH b g=some r):Yp 80 [] [.one (cL 1 l9 (0:Int) b),Yj g] [(l5 99999 3 1 l9 (0:Int) r)] (.one (.osl 99999 r.length)):=by
 refine Yw Tryz.func80 fun S0 w0=>?_;unfold ZfH at h;exact Ye 10 [rz,rA [(0,.c ([]:List Int).length (Zam l9 (0:Int) ([]:List Int)))],rz,rz] [] (lZ [0,1,5,6,7] [8] [(8,5)]) (md (show ([]:List Int).length=0 from rfl) (mI (e:=l9) (0:Int) 1 (fun _=>rfl) ([]:List Int))) (ZmR S0 w0 b g (((b.length:Int)-(0:Int)).toNat+2) false (0:Int) ([]:List Int) r h)
theorem ZoF(b:List Int)(d:Int)(r:List Int)(g:ZfH b d=some r):Yo 80 [.one (cL 1 l9 (0:Int) b),Yj d] (.one (cL 1 l9 (0:Int) r)):=(ZnW b d r g).pure
def Zdo(d:List Int)(h:Int):Nat->Int->(List Int)->Option (List Int)|0,_,_=>none|fu+1,b,g=>bif(decide (b<(d.length:Int)))then need (0<=b/\b<(d.length:Int))<|bif((d.getD b.toNat (0:Int)) != h)then need ((g++([(d.getD b.toNat (0:Int))]:List Int)).length * 8<=140737488355328/\(g++([(d.getD b.toNat (0:Int))]:List Int)).length<=maxLen)<|Zdo d h fu (Zan b 1) (g++([(d.getD b.toNat (0:Int))]:List Int))else Zdo d h fu (Zan b 1) g else some g
theorem Zmm(h:List Int)(v:Int):∀(p:Nat)(b:Int)(o r:List Int),Zdo h v p b o=some r->Ys 28 S0 w0 Tryz.f81 [(l5 99999 3 1 l9 (0:Int) r)] (.one (.osl 99999 r.length)) [1,1,0,1,0] ⟨[(0,.one (cL 1 l9 (0:Int) h)),(1,(Yj v)),(5,.one (.osl 5 o.length)),(6,(Yj b))],[(l5 5 3 1 l9 (0:Int) o)]⟩:=by
 intro p;induction p with
 |zero=>
  intro b o r g;simp[Zdo]at g
 |succ p y=>
  intro b o r g;unfold Zdo at g;obtain⟨t,g⟩|⟨t,g⟩:=Zah g
  .obtain⟨o2,g⟩:=Zao g;obtain⟨u,g⟩|⟨u,g⟩:=Zah g
   .obtain⟨z,g⟩:=Zao g;exact Ye 15 [rz,rz,⟨[(6,.c ((o++([(h.getD b.toNat (0:Int))]:List Int)).length) (Zam l9 (0:Int) (o++([(h.getD b.toNat (0:Int))]:List Int))))],[],[],[],[],[(5,(([(h.getD b.toNat (0:Int))]:List Int).length,Zam l9 (0:Int) ([(h.getD b.toNat (0:Int))]:List Int)))],[]⟩,rz] [true,true] (lZ [0,1,5,6] [26] [(26,5)]) (mj t o2 u o2 (mF (e:=l9) (0:Int) 1 (fun _=>rfl) ([(h.getD b.toNat (0:Int))]:List Int)) (Zdk (sz:=1) (e:=l9) (d:=(0:Int)) o ([(h.getD b.toNat (0:Int))]:List Int)) z.1 z.2) (y (Zan b 1) (o++([(h.getD b.toNat (0:Int))]:List Int)) r g)
   .exact Ye 15 [rz,rz,rz] [true,false] (lX [0,1,5,6] [5]) (me t o2 u) (y (Zan b 1) o r g)
  .apply Yc g 8 [rz,rz] [false] (lZ [4] [5] [(5,99999)]) (mc t)
def Zfk(b:List Int)(d:Int):Option (List Int):=Zdo b d (((b.length:Int)-(0:Int)).toNat+2) (0:Int) ([]:List Int)
theorem Zni(b:List Int)(g:Int)(r:List Int)(h:Zfk b g=some r):Yp 81 [] [.one (cL 1 l9 (0:Int) b),Yj g] [(l5 99999 3 1 l9 (0:Int) r)] (.one (.osl 99999 r.length)):=by
 refine Yw Tryz.func81 fun S0 w0=>?_;unfold Zfk at h;exact Ye 8 [rz,rA [(0,.c ([]:List Int).length (Zam l9 (0:Int) ([]:List Int)))],rz] [] (lZ [0,1,5,6] [7] [(7,5)]) (md (show ([]:List Int).length=0 from rfl) (mI (e:=l9) (0:Int) 1 (fun _=>rfl) ([]:List Int))) (Zmm S0 w0 b g (((b.length:Int)-(0:Int)).toNat+2) (0:Int) ([]:List Int) r h)
theorem ZnV(b:List Int)(d:Int)(r:List Int)(g:Zfk b d=some r):Yo 81 [.one (cL 1 l9 (0:Int) b),Yj d] (.one (cL 1 l9 (0:Int) r)):=(Zni b d r g).pure
def ZdG(g:ZaE)(b:Zay):Option Zag:=bif(b.fKind==(1:Int))then some (Zag.mk g.fIn (Zaa.mk (Zal.mk (Zaf.mk false 0 0) 0) false 0 (ZaD.mk 0 0) 0 0) ([]:(List Zae)) ([]:(List Zac)))else bif(b.fKind==(2:Int))then some (Zag.mk g.fOut (Zaa.mk (Zal.mk (Zaf.mk false 0 0) 0) false 0 (ZaD.mk 0 0) 0 0) ([]:(List Zae)) ([]:(List Zac)))else bif(b.fKind==(3:Int))then some (Zag.mk 0 (Zaa.mk (Zal.mk (Zaf.mk false 0 0) 0) false 0 (ZaD.mk 0 0) 0 0) g.fBans ([]:(List Zac)))else bif(b.fKind==(4:Int))then some (Zag.mk 0 (Zaa.mk (Zal.mk (Zaf.mk false 0 0) 0) false 0 (ZaD.mk 0 0) 0 0) ([]:(List Zae)) g.fBook)else bif(b.fKind==(5:Int))then need (0<=b.fShard/\b.fShard<(g.fShards.length:Int))<|some (Zag.mk ((g.fShards.getD b.fShard.toNat Zab.d).fSize) (Zaa.mk (Zal.mk (Zaf.mk false 0 0) 0) false 0 (ZaD.mk 0 0) 0 0) ([]:(List Zae)) ([]:(List Zac)))else need (0<=b.fShard/\b.fShard<(g.fShards.length:Int))<|bif(decide (b.fSlot<((((g.fShards.getD b.fShard.toNat Zab.d).fSlots).length:Nat):Int)))then need (0<=b.fSlot/\b.fSlot<((((g.fShards.getD b.fShard.toNat Zab.d).fSlots).length:Nat):Int))<|some (Zag.mk 0 (((g.fShards.getD b.fShard.toNat Zab.d).fSlots).getD b.fSlot.toNat Zaa.d) ([]:(List Zae)) ([]:(List Zac)))else some (Zag.mk 0 (Zaa.mk (Zal.mk (Zaf.mk false 0 0) 0) false 0 (ZaD.mk 0 0) 0 0) ([]:(List Zae)) ([]:(List Zac)))
theorem ZpS(u:ZaE)(v:Zay)(r:Zag)(b:ZdG u v=some r):Yo 82 [.agg (ZaE.c u),.agg (Zay.c v)] (.agg (Zag.c r)):=by
 refine Yv Tryz.func82 fun S0 w0=>?_;unfold ZdG at b;obtain⟨g,b⟩|⟨g,b⟩:=Zah b
 .apply Yb b 11 [rz,rz,rz,rz] [true] [] [(4,[(11,cL 5 Zae.c Zae.d []),(12,cL 7 Zac.c Zac.d [])])] [] (mc g)
 .obtain⟨h,b⟩|⟨h,b⟩:=Zah b
  .apply Yb b 14 [rz,rz,rz,rz,rz] [false,true] [] [(4,[(11,cL 5 Zae.c Zae.d []),(12,cL 7 Zac.c Zac.d [])])] [] (md g h)
  .obtain⟨j,b⟩|⟨j,b⟩:=Zah b
   .apply Yb b 17 [rz,rz,rz,rz,rz,rz] [false,false,true] [] [(4,[(12,cL 7 Zac.c Zac.d [])])] [] (me g h j)
   .obtain⟨o,b⟩|⟨o,b⟩:=Zah b
    .apply Yb b 20 [rz,rz,rz,rz,rz,rz,rz] [false,false,false,true] [] [(4,[(11,cL 5 Zae.c Zae.d [])])] [] (mf g h j o)
    .obtain⟨p,b⟩|⟨p,b⟩:=Zah b
     .obtain⟨z,b⟩:=Zao b;apply Yb b 23 [rz,rz,rz,rz,rz,rz,rz,rz] [false,false,false,false,true] [] [(4,[(11,cL 5 Zae.c Zae.d []),(12,cL 7 Zac.c Zac.d [])])] [] (mh g h j o p z)
     .obtain⟨y,b⟩:=Zao b;have O1:=(mh g h j o p y);obtain⟨t,b⟩|⟨t,b⟩:=Zah b
      .obtain⟨A,b⟩:=Zao b;apply Yb b 29 [rz,rz,rz,rz,rz,rz,rz,rz,rz] [false,false,false,false,false,true] [] [(4,[(11,cL 5 Zae.c Zae.d []),(12,cL 7 Zac.c Zac.d [])])] [] (mu O1 t y A)
      .apply Yb b 30 [rz,rz,rz,rz,rz,rz,rz,rz,rz] [false,false,false,false,false,false] [] [(4,[(11,cL 5 Zae.c Zae.d []),(12,cL 7 Zac.c Zac.d [])])] [] (mr O1 t)
def Zdt(b:ZaE)(g:Zay)(h:Zag):Option ZaE:=bif(g.fKind==(3:Int))then some (ZaE.mk b.fIn b.fOut h.fBans b.fBook b.fShards b.fLocks)else bif(g.fKind==(4:Int))then some (ZaE.mk b.fIn b.fOut b.fBans h.fBook b.fShards b.fLocks)else need ((([]:List Zab)++b.fShards).length * 32<=140737488355328/\(([]:List Zab)++b.fShards).length<=maxLen)<|need (0<=g.fShard/\g.fShard<(((([]:List Zab)++b.fShards).length:Nat):Int))<|bif(g.fKind==(5:Int))then some (ZaE.mk b.fIn b.fOut b.fBans b.fBook ((([]:List Zab)++b.fShards).set g.fShard.toNat (Zab.mk h.fN (((([]:List Zab)++b.fShards).getD g.fShard.toNat Zab.d).fSlots))) b.fLocks)else bif(decide (g.fSlot<(((((([]:List Zab)++b.fShards).getD g.fShard.toNat Zab.d).fSlots).length:Nat):Int)))then need ((([]:List Zaa)++(((([]:List Zab)++b.fShards).getD g.fShard.toNat Zab.d).fSlots)).length * 80<=140737488355328/\(([]:List Zaa)++(((([]:List Zab)++b.fShards).getD g.fShard.toNat Zab.d).fSlots)).length<=maxLen)<|need (0<=g.fSlot/\g.fSlot<(((([]:List Zaa)++(((([]:List Zab)++b.fShards).getD g.fShard.toNat Zab.d).fSlots)).length:Nat):Int))<|some (ZaE.mk b.fIn b.fOut b.fBans b.fBook ((([]:List Zab)++b.fShards).set g.fShard.toNat (Zab.mk (((([]:List Zab)++b.fShards).getD g.fShard.toNat Zab.d).fSize) ((([]:List Zaa)++(((([]:List Zab)++b.fShards).getD g.fShard.toNat Zab.d).fSlots)).set g.fSlot.toNat h.fPeer))) b.fLocks)else bif(g.fSlot==(((((([]:List Zab)++b.fShards).getD g.fShard.toNat Zab.d).fSlots).length:Nat):Int))then need ((([]:List Zaa)++(((([]:List Zab)++b.fShards).getD g.fShard.toNat Zab.d).fSlots)).length * 80<=140737488355328/\(([]:List Zaa)++(((([]:List Zab)++b.fShards).getD g.fShard.toNat Zab.d).fSlots)).length<=maxLen)<|need (((([]:List Zaa)++(((([]:List Zab)++b.fShards).getD g.fShard.toNat Zab.d).fSlots))++([h.fPeer]:List Zaa)).length * 80<=140737488355328/\((([]:List Zaa)++(((([]:List Zab)++b.fShards).getD g.fShard.toNat Zab.d).fSlots))++([h.fPeer]:List Zaa)).length<=maxLen)<|some (ZaE.mk b.fIn b.fOut b.fBans b.fBook ((([]:List Zab)++b.fShards).set g.fShard.toNat (Zab.mk (((([]:List Zab)++b.fShards).getD g.fShard.toNat Zab.d).fSize) ((([]:List Zaa)++(((([]:List Zab)++b.fShards).getD g.fShard.toNat Zab.d).fSlots))++([h.fPeer]:List Zaa)))) b.fLocks)else some (ZaE.mk b.fIn b.fOut b.fBans b.fBook ((([]:List Zab)++b.fShards).set g.fShard.toNat ((([]:List Zab)++b.fShards).getD g.fShard.toNat Zab.d)) b.fLocks)
theorem Zpj(b:ZaE)(g:Zay)(h:Zag)(r:ZaE)(o:Zdt b g h=some r):Yo 83 [.agg (ZaE.c b),.agg (Zay.c g),.agg (Zag.c h)] (.agg (ZaE.c r)):=by
 refine Yv Tryz.func83 fun S0 w0=>?_;unfold Zdt at o;obtain⟨y,o⟩|⟨y,o⟩:=Zah o
 .apply Ya o 13 [rz,rz,rz,rz,rz] [true] (mc y)
 .obtain⟨A,o⟩|⟨A,o⟩:=Zah o
  .apply Ya o 16 [rz,rz,rz,rz,rz,rz] [false,true] (md y A)
  .obtain⟨D,o⟩:=Zao o;obtain⟨p,o⟩:=Zao o
   let R1:List RA:=[rz,rz,rz,rz,rA [(0,.c ([]:List Zab).length (Zam Zab.c Zab.d ([]:List Zab))),(3,.c ((([]:List Zab)++b.fShards).length) (Zam Zab.c Zab.d (([]:List Zab)++b.fShards)))],rz,rz,rz]
   have O2:=(ml y A (show ([]:List Zab).length=0 from rfl) (mI (e:=Zab.c) Zab.d 2 (fun _=>rfl) ([]:List Zab)) (Zdk (sz:=2) (e:=Zab.c) (d:=Zab.d) ([]:List Zab) b.fShards) D.1 D.2 p (ltOf p));obtain⟨t,o⟩|⟨t,o⟩:=Zah o
   .apply Yb o 27 (R1++[rA [(6,.c ((([]:List Zab)++b.fShards).set g.fShard.toNat (Zab.mk h.fN (((([]:List Zab)++b.fShards).getD g.fShard.toNat Zab.d).fSlots))).length (Zam Zab.c Zab.d ((([]:List Zab)++b.fShards).set g.fShard.toNat (Zab.mk h.fN (((([]:List Zab)++b.fShards).getD g.fShard.toNat Zab.d).fSlots)))))],rz]) [false,false,true] [25] [] [] (my O2 t p (show ((([]:List Zab)++b.fShards).set g.fShard.toNat (Zab.mk h.fN (((([]:List Zab)++b.fShards).getD g.fShard.toNat Zab.d).fSlots))).length=(([]:List Zab)++b.fShards).length from List.length_set) (ltOf p) (show ExtU 2 ((([]:List Zab)++b.fShards).length) (Zam Zab.c Zab.d (([]:List Zab)++b.fShards)) g.fShard.toNat 0 (Zab.c (Zab.mk h.fN (((([]:List Zab)++b.fShards).getD g.fShard.toNat Zab.d).fSlots))) (Zam Zab.c Zab.d ((([]:List Zab)++b.fShards).set g.fShard.toNat (Zab.mk h.fN (((([]:List Zab)++b.fShards).getD g.fShard.toNat Zab.d).fSlots))))from(ZhL _ _ _ rfl)))
   .obtain⟨z,o⟩|⟨z,o⟩:=Zah o
    .obtain⟨E,F,o⟩:=Yt o;apply Yb o 32 (R1++[rA [(0,.c ([]:List Zaa).length (Zam Zaa.c Zaa.d ([]:List Zaa))),(3,.c ((([]:List Zaa)++(((([]:List Zab)++b.fShards).getD g.fShard.toNat Zab.d).fSlots)).length) (Zam Zaa.c Zaa.d (([]:List Zaa)++(((([]:List Zab)++b.fShards).getD g.fShard.toNat Zab.d).fSlots))))],rA [(7,.c ((([]:List Zaa)++(((([]:List Zab)++b.fShards).getD g.fShard.toNat Zab.d).fSlots)).set g.fSlot.toNat h.fPeer).length (Zam Zaa.c Zaa.d ((([]:List Zaa)++(((([]:List Zab)++b.fShards).getD g.fShard.toNat Zab.d).fSlots)).set g.fSlot.toNat h.fPeer)))],⟨[(6,.c ((([]:List Zab)++b.fShards).set g.fShard.toNat (Zab.mk (((([]:List Zab)++b.fShards).getD g.fShard.toNat Zab.d).fSize) ((([]:List Zaa)++(((([]:List Zab)++b.fShards).getD g.fShard.toNat Zab.d).fSlots)).set g.fSlot.toNat h.fPeer))).length (Zam Zab.c Zab.d ((([]:List Zab)++b.fShards).set g.fShard.toNat (Zab.mk (((([]:List Zab)++b.fShards).getD g.fShard.toNat Zab.d).fSize) ((([]:List Zaa)++(((([]:List Zab)++b.fShards).getD g.fShard.toNat Zab.d).fSlots)).set g.fSlot.toNat h.fPeer)))))],[],[(6,[48])],[],[],[],[]⟩,rz]) [false,false,false,true] [25] [] [] (O2.app (.c t (.c z (.c (show ([]:List Zaa).length=0 from rfl) (.c (mI (e:=Zaa.c) Zaa.d 10 (fun _=>rfl) ([]:List Zaa)) (.c (Zdk (sz:=10) (e:=Zaa.c) (d:=Zaa.d) ([]:List Zaa) (((([]:List Zab)++b.fShards).getD g.fShard.toNat Zab.d).fSlots)) (mn E.1 E.2 F (show ((([]:List Zaa)++(((([]:List Zab)++b.fShards).getD g.fShard.toNat Zab.d).fSlots)).set g.fSlot.toNat h.fPeer).length=(([]:List Zaa)++(((([]:List Zab)++b.fShards).getD g.fShard.toNat Zab.d).fSlots)).length from List.length_set) (ltOf F) (show ExtU 10 ((([]:List Zaa)++(((([]:List Zab)++b.fShards).getD g.fShard.toNat Zab.d).fSlots)).length) (Zam Zaa.c Zaa.d (([]:List Zaa)++(((([]:List Zab)++b.fShards).getD g.fShard.toNat Zab.d).fSlots))) g.fSlot.toNat 0 (Zaa.c h.fPeer) (Zam Zaa.c Zaa.d ((([]:List Zaa)++(((([]:List Zab)++b.fShards).getD g.fShard.toNat Zab.d).fSlots)).set g.fSlot.toNat h.fPeer))from(ZhL _ _ _ rfl)) p (show ((([]:List Zab)++b.fShards).set g.fShard.toNat (Zab.mk (((([]:List Zab)++b.fShards).getD g.fShard.toNat Zab.d).fSize) ((([]:List Zaa)++(((([]:List Zab)++b.fShards).getD g.fShard.toNat Zab.d).fSlots)).set g.fSlot.toNat h.fPeer))).length=(([]:List Zab)++b.fShards).length from List.length_set) (ltOf p) (show ExtU 2 ((([]:List Zab)++b.fShards).length) (Zam Zab.c Zab.d (([]:List Zab)++b.fShards)) g.fShard.toNat 0 (Zab.c (Zab.mk (((([]:List Zab)++b.fShards).getD g.fShard.toNat Zab.d).fSize) ((([]:List Zaa)++(((([]:List Zab)++b.fShards).getD g.fShard.toNat Zab.d).fSlots)).set g.fSlot.toNat h.fPeer))) (Zam Zab.c Zab.d ((([]:List Zab)++b.fShards).set g.fShard.toNat (Zab.mk (((([]:List Zab)++b.fShards).getD g.fShard.toNat Zab.d).fSize) ((([]:List Zaa)++(((([]:List Zab)++b.fShards).getD g.fShard.toNat Zab.d).fSlots)).set g.fSlot.toNat h.fPeer))))from(ZhL _ _ _ rfl)))))))))
    .obtain⟨B,o⟩|⟨B,o⟩:=Zah o
     .obtain⟨u,v,o⟩:=Yt o;apply Yb o 33 (R1++[rz,⟨[(0,.c ([]:List Zaa).length (Zam Zaa.c Zaa.d ([]:List Zaa))),(3,.c ((([]:List Zaa)++(((([]:List Zab)++b.fShards).getD g.fShard.toNat Zab.d).fSlots)).length) (Zam Zaa.c Zaa.d (([]:List Zaa)++(((([]:List Zab)++b.fShards).getD g.fShard.toNat Zab.d).fSlots)))),(7,.c (((([]:List Zaa)++(((([]:List Zab)++b.fShards).getD g.fShard.toNat Zab.d).fSlots))++([h.fPeer]:List Zaa)).length) (Zam Zaa.c Zaa.d ((([]:List Zaa)++(((([]:List Zab)++b.fShards).getD g.fShard.toNat Zab.d).fSlots))++([h.fPeer]:List Zaa))))],[],[],[],[],[(6,(([h.fPeer]:List Zaa).length,Zam Zaa.c Zaa.d ([h.fPeer]:List Zaa)))],[]⟩,⟨[(6,.c ((([]:List Zab)++b.fShards).set g.fShard.toNat (Zab.mk (((([]:List Zab)++b.fShards).getD g.fShard.toNat Zab.d).fSize) ((([]:List Zaa)++(((([]:List Zab)++b.fShards).getD g.fShard.toNat Zab.d).fSlots))++([h.fPeer]:List Zaa)))).length (Zam Zab.c Zab.d ((([]:List Zab)++b.fShards).set g.fShard.toNat (Zab.mk (((([]:List Zab)++b.fShards).getD g.fShard.toNat Zab.d).fSize) ((([]:List Zaa)++(((([]:List Zab)++b.fShards).getD g.fShard.toNat Zab.d).fSlots))++([h.fPeer]:List Zaa))))))],[],[(6,[70])],[],[],[],[]⟩,rz]) [false,false,false,false,true] [25] [] [] (O2.app (.c t (.c z (.c B (.c (show ([]:List Zaa).length=0 from rfl) (.c (mI (e:=Zaa.c) Zaa.d 10 (fun _=>rfl) ([]:List Zaa)) (.c (Zdk (sz:=10) (e:=Zaa.c) (d:=Zaa.d) ([]:List Zaa) (((([]:List Zab)++b.fShards).getD g.fShard.toNat Zab.d).fSlots)) (mn u.1 u.2 (mF (e:=Zaa.c) Zaa.d 10 (fun _=>rfl) ([h.fPeer]:List Zaa)) (Zdk (sz:=10) (e:=Zaa.c) (d:=Zaa.d) (([]:List Zaa)++(((([]:List Zab)++b.fShards).getD g.fShard.toNat Zab.d).fSlots)) ([h.fPeer]:List Zaa)) v.1 v.2 p (show ((([]:List Zab)++b.fShards).set g.fShard.toNat (Zab.mk (((([]:List Zab)++b.fShards).getD g.fShard.toNat Zab.d).fSize) ((([]:List Zaa)++(((([]:List Zab)++b.fShards).getD g.fShard.toNat Zab.d).fSlots))++([h.fPeer]:List Zaa)))).length=(([]:List Zab)++b.fShards).length from List.length_set) (ltOf p) (show ExtU 2 ((([]:List Zab)++b.fShards).length) (Zam Zab.c Zab.d (([]:List Zab)++b.fShards)) g.fShard.toNat 0 (Zab.c (Zab.mk (((([]:List Zab)++b.fShards).getD g.fShard.toNat Zab.d).fSize) ((([]:List Zaa)++(((([]:List Zab)++b.fShards).getD g.fShard.toNat Zab.d).fSlots))++([h.fPeer]:List Zaa)))) (Zam Zab.c Zab.d ((([]:List Zab)++b.fShards).set g.fShard.toNat (Zab.mk (((([]:List Zab)++b.fShards).getD g.fShard.toNat Zab.d).fSize) ((([]:List Zaa)++(((([]:List Zab)++b.fShards).getD g.fShard.toNat Zab.d).fSlots))++([h.fPeer]:List Zaa)))))from(ZhL _ _ _ rfl))))))))))
     .apply Yb o 33 (R1++[rz,rA [(6,.c ((([]:List Zab)++b.fShards).set g.fShard.toNat ((([]:List Zab)++b.fShards).getD g.fShard.toNat Zab.d)).length (Zam Zab.c Zab.d ((([]:List Zab)++b.fShards).set g.fShard.toNat ((([]:List Zab)++b.fShards).getD g.fShard.toNat Zab.d))))],rz]) [false,false,false,false,false] [25] [] [] (mA O2 t z B p (show ((([]:List Zab)++b.fShards).set g.fShard.toNat ((([]:List Zab)++b.fShards).getD g.fShard.toNat Zab.d)).length=(([]:List Zab)++b.fShards).length from List.length_set) (ltOf p) (show ExtU 2 ((([]:List Zab)++b.fShards).length) (Zam Zab.c Zab.d (([]:List Zab)++b.fShards)) g.fShard.toNat 0 (Zab.c ((([]:List Zab)++b.fShards).getD g.fShard.toNat Zab.d)) (Zam Zab.c Zab.d ((([]:List Zab)++b.fShards).set g.fShard.toNat ((([]:List Zab)++b.fShards).getD g.fShard.toNat Zab.d)))from(ZhL _ _ _ rfl)))
def Zbe(b:ZaE)(d:ZaK)(h:Int):Option (ZaE×Zag):=(Zbo b d).bind fun p=>bif(!p)then some (b,(Zag.mk 0 (Zaa.mk (Zal.mk (Zaf.mk false 0 0) 0) false 0 (ZaD.mk 0 0) 0 0) ([]:(List Zae)) ([]:(List Zac))))else(ZbO b d.fLock).bind fun g=>bif(d.fKind==(1:Int))then(Zcx b d.fLock (Zat.mk (Zan h 1) g.fShare)).bind fun t=>some (t,(Zag.mk 0 (Zaa.mk (Zal.mk (Zaf.mk false 0 0) 0) false 0 (ZaD.mk 0 0) 0 0) ([]:(List Zae)) ([]:(List Zac))))else bif(d.fKind==(2:Int))then(ZfH g.fShare h).bind fun u=>(Zcx b d.fLock (Zat.mk g.fBy u)).bind fun v=>some (v,(Zag.mk 0 (Zaa.mk (Zal.mk (Zaf.mk false 0 0) 0) false 0 (ZaD.mk 0 0) 0 0) ([]:(List Zae)) ([]:(List Zac))))else bif(d.fKind==(3:Int))then bif(g.fBy==(Zan h 1))then(Zcx b d.fLock (Zat.mk 0 g.fShare)).bind fun y=>some (y,(Zag.mk 0 (Zaa.mk (Zal.mk (Zaf.mk false 0 0) 0) false 0 (ZaD.mk 0 0) 0 0) ([]:(List Zae)) ([]:(List Zac))))else(Zcx b d.fLock g).bind fun z=>some (z,(Zag.mk 0 (Zaa.mk (Zal.mk (Zaf.mk false 0 0) 0) false 0 (ZaD.mk 0 0) 0 0) ([]:(List Zae)) ([]:(List Zac))))else bif(d.fKind==(4:Int))then(Zfk g.fShare h).bind fun A=>(Zcx b d.fLock (Zat.mk g.fBy A)).bind fun B=>some (B,(Zag.mk 0 (Zaa.mk (Zal.mk (Zaf.mk false 0 0) 0) false 0 (ZaD.mk 0 0) 0 0) ([]:(List Zae)) ([]:(List Zac))))else bif(d.fKind==(5:Int))then(ZdG b d.fLoc).bind fun j=>some (b,j)else bif(d.fKind==(6:Int))then(Zdt b d.fLoc d.fVal).bind fun o=>some (o,(Zag.mk 0 (Zaa.mk (Zal.mk (Zaf.mk false 0 0) 0) false 0 (ZaD.mk 0 0) 0 0) ([]:(List Zae)) ([]:(List Zac))))else bif(d.fKind==(7:Int))then bif(d.fLoc.fKind==(1:Int))then bif(b.fIn==d.fOld)then some ((ZaE.mk d.fNew b.fOut b.fBans b.fBook b.fShards b.fLocks),(Zag.mk 1 (Zaa.mk (Zal.mk (Zaf.mk false 0 0) 0) false 0 (ZaD.mk 0 0) 0 0) ([]:(List Zae)) ([]:(List Zac))))else bif(d.fLoc.fKind==(2:Int))then bif(b.fOut==d.fOld)then some ((ZaE.mk b.fIn d.fNew b.fBans b.fBook b.fShards b.fLocks),(Zag.mk 1 (Zaa.mk (Zal.mk (Zaf.mk false 0 0) 0) false 0 (ZaD.mk 0 0) 0 0) ([]:(List Zae)) ([]:(List Zac))))else some (b,(Zag.mk 0 (Zaa.mk (Zal.mk (Zaf.mk false 0 0) 0) false 0 (ZaD.mk 0 0) 0 0) ([]:(List Zae)) ([]:(List Zac))))else some (b,(Zag.mk 0 (Zaa.mk (Zal.mk (Zaf.mk false 0 0) 0) false 0 (ZaD.mk 0 0) 0 0) ([]:(List Zae)) ([]:(List Zac))))else bif(d.fLoc.fKind==(2:Int))then bif(b.fOut==d.fOld)then some ((ZaE.mk b.fIn d.fNew b.fBans b.fBook b.fShards b.fLocks),(Zag.mk 1 (Zaa.mk (Zal.mk (Zaf.mk false 0 0) 0) false 0 (ZaD.mk 0 0) 0 0) ([]:(List Zae)) ([]:(List Zac))))else some (b,(Zag.mk 0 (Zaa.mk (Zal.mk (Zaf.mk false 0 0) 0) false 0 (ZaD.mk 0 0) 0 0) ([]:(List Zae)) ([]:(List Zac))))else some (b,(Zag.mk 0 (Zaa.mk (Zal.mk (Zaf.mk false 0 0) 0) false 0 (ZaD.mk 0 0) 0 0) ([]:(List Zae)) ([]:(List Zac))))else some (b,(Zag.mk 0 (Zaa.mk (Zal.mk (Zaf.mk false 0 0) 0) false 0 (ZaD.mk 0 0) 0 0) ([]:(List Zae)) ([]:(List Zac))))
theorem Zrl(R:ZaE)(U:ZaK)(W:Int)(r:(ZaE×Zag))(b:Zbe R U W=some r):Yo 27 [.agg (ZaE.c R),.agg (ZaK.c U),Yj W] (.tup [(true,ZaE.c r.1),(true,Zag.c r.2)]):=by
 refine Yv Tryz.func27 fun S0 w0=>?_;unfold Zbe at b;obtain⟨Z,q1,b⟩:=Zad b;obtain⟨E,b⟩|⟨E,b⟩:=Zah b
 .apply Yb b 8 [rz,rA [(2,aB Z)],rz] [true] [] [(7,[(11,cL 5 Zae.c Zae.d []),(12,cL 7 Zac.c Zac.d [])])] [] (md (ZiL _ _ _ q1) E)
 .obtain⟨x2,q3,b⟩:=Zad b
  let R1:List RA:=[rz,rA [(2,aB Z)],rA [(3,aG (Zat.c x2))],rz,rz,rz]
  have O2:=(me (ZiL _ _ _ q1) E (Zle _ _ _ q3));obtain⟨o,b⟩|⟨o,b⟩:=Zah b
  .obtain⟨x3,q5,b⟩:=Zad b;apply Yb b 20 (R1++[rA [(4,aG (ZaE.c x3))]]) [false,true] [] [(7,[(11,cL 5 Zae.c Zae.d []),(12,cL 7 Zac.c Zac.d [])])] [] (mt O2 o (Zfl _ _ _ _ q5))
  .obtain⟨v,b⟩|⟨v,b⟩:=Zah b
   .obtain⟨x4,x5,q7,q8,b⟩:=Yu b;apply Yb b 23 (R1++[rA [(3,.r (.one (cL 1 l9 (0:Int) x4)) [])],rA [(4,aG (ZaE.c x5))]]) [false,false,true] [] [(7,[(11,cL 5 Zae.c Zae.d []),(12,cL 7 Zac.c Zac.d [])])] [] (mw O2 o v (ZoF _ _ _ q7) (Zfl _ _ _ _ q8))
   .obtain⟨y,b⟩|⟨y,b⟩:=Zah b
    .obtain⟨z,b⟩|⟨z,b⟩:=Zah b
     .obtain⟨x6,F,b⟩:=Zad b;apply Yb b 29 (R1++[rz,rz,rz,rA [(4,aG (ZaE.c x6))]]) [false,false,false,true,true] [] [(7,[(11,cL 5 Zae.c Zae.d []),(12,cL 7 Zac.c Zac.d [])])] [] (my O2 o v y z (Zfl _ _ _ _ F))
     .obtain⟨x7,G,b⟩:=Zad b;apply Yb b 29 (R1++[rz,rz,rA [(4,aG (ZaE.c x7))]]) [false,false,false,true,false] [] [(7,[(11,cL 5 Zae.c Zae.d []),(12,cL 7 Zac.c Zac.d [])])] [] (my O2 o v y z (Zfl _ _ _ _ G))
    .obtain⟨h,b⟩|⟨h,b⟩:=Zah b
     .obtain⟨x8,x9,H,I,b⟩:=Yu b;apply Yb b 29 (R1++[rz,rz,rA [(3,.r (.one (cL 1 l9 (0:Int) x8)) [])],rA [(4,aG (ZaE.c x9))]]) [false,false,false,false,true] [] [(7,[(11,cL 5 Zae.c Zae.d []),(12,cL 7 Zac.c Zac.d [])])] [] (mz O2 o v y h (ZnV _ _ _ H) (Zfl _ _ _ _ I))
     .obtain⟨p,b⟩|⟨p,b⟩:=Zah b
      .obtain⟨J,L,b⟩:=Zad b;apply Ya b 30 (R1++[rz,rz,rz,rA [(4,aG (Zag.c J))]]) [false,false,false,false,false,true] (mz O2 o v y h p (ZpS _ _ _ L))
      .obtain⟨A,b⟩|⟨A,b⟩:=Zah b
       .obtain⟨M,O,b⟩:=Zad b;apply Yb b 33 (R1++[rz,rz,rz,rz,rA [(5,aG (ZaE.c M))]]) [false,false,false,false,false,false,true] [] [(7,[(11,cL 5 Zae.c Zae.d []),(12,cL 7 Zac.c Zac.d [])])] [] (mA O2 o v y h p A (Zpj _ _ _ _ O))
       .have O3:=(mz O2 o v y h p A);obtain⟨a8,b⟩|⟨a8,b⟩:=Zah b
        .obtain⟨g,b⟩|⟨g,b⟩:=Zah b
         .obtain⟨j,b⟩|⟨j,b⟩:=Zah b
          .apply Yb b 42 (R1++[rz,rz,rz,rz,rz,rB [(4,true)],rz,rz]) [false,false,false,false,false,false,false,true,true] [] [(7,[(11,cL 5 Zae.c Zae.d []),(12,cL 7 Zac.c Zac.d [])])] [] (mu O3 a8 g j)
          .obtain⟨t,b⟩|⟨t,b⟩:=Zah b
           .let R4:List RA:=(R1++[rz,rz,rz,rz,rz,rB [(4,true)],rB [(4,true)],rz])
            obtain⟨B,b⟩|⟨B,b⟩:=Zah b
            .apply Yb b 46 (R4++[rz]) [false,false,false,false,false,false,false,true,false,true] [] [(7,[(11,cL 5 Zae.c Zae.d []),(12,cL 7 Zac.c Zac.d [])])] [] (my O3 a8 g j t B)
            .apply Yb b 46 R4 [false,false,false,false,false,false,false,true,false,false] [] [(7,[(11,cL 5 Zae.c Zae.d []),(12,cL 7 Zac.c Zac.d [])])] [] (my O3 a8 g j t B)
           .apply Yb b 46 (R1++[rz,rz,rz,rz,rz,rB [(4,true)],rB [(4,false)],rz]) [false,false,false,false,false,false,false,true,false,false] [] [(7,[(11,cL 5 Zae.c Zae.d []),(12,cL 7 Zac.c Zac.d [])])] [] (my O3 a8 g j t (mH false))
         .have O5:=(mu O3 a8 g (mH false));obtain⟨u,b⟩|⟨u,b⟩:=Zah b
          .let R6:List RA:=(R1++[rz,rz,rz,rz,rz,rB [(4,false)],rB [(4,true)],rz])
           obtain⟨D,b⟩|⟨D,b⟩:=Zah b
           .apply Yb b 46 (R6++[rz]) [false,false,false,false,false,false,false,true,false,true] [] [(7,[(11,cL 5 Zae.c Zae.d []),(12,cL 7 Zac.c Zac.d [])])] [] (mt O5 u D)
           .apply Yb b 46 R6 [false,false,false,false,false,false,false,true,false,false] [] [(7,[(11,cL 5 Zae.c Zae.d []),(12,cL 7 Zac.c Zac.d [])])] [] (mt O5 u D)
          .apply Yb b 46 (R1++[rz,rz,rz,rz,rz,rB [(4,false)],rB [(4,false)],rz]) [false,false,false,false,false,false,false,true,false,false] [] [(7,[(11,cL 5 Zae.c Zae.d []),(12,cL 7 Zac.c Zac.d [])])] [] (mt O5 u (mH false))
        .apply Yb b 38 (R1++[rz,rz,rz,rz,rz,rz]) [false,false,false,false,false,false,false,false] [] [(7,[(11,cL 5 Zae.c Zae.d []),(12,cL 7 Zac.c Zac.d [])])] [] (mr O3 a8)
def ZaH:Nat->Int->Int->(List Zag)->ZaA->Zas->ZaB->ZaE->Option Bool|0,_,_,_,_,_,_,_=>none|fu+1,u,d,h,p,v,t,y=>bif(decide (d<(400:Int)))then(Zkn p t).bind fun H=>(match H with | .c63 j=>(Zlx j h).bind fun o=>bif o.fDone then(Zdp p v t).bind fun g=>bif(u==(1:Int))then(Zfv o.fReply g.2).bind fun z=>bif z then(ZeW y).bind fun A=>(Zfu A g.1).bind fun B=>bif B then(Zdy g.1).bind fun D=>(ZgH y g.1 D).bind fun E=>bif E then(Zdw).bind fun F=>some F else some false else some false else some false else some false else bif o.fBroken then some false else(Zbo y o.fOp).bind fun G=>bif(!G)then some false else(Zbe y o.fOp (0:Int)).bind fun b=>need ((h++([b.2]:List Zag)).length * 136<=140737488355328/\(h++([b.2]:List Zag)).length<=maxLen)<|bif o.fOp.fMark then bif(o.fOp.fKind != (7:Int))then ZaH fu (Zan u 1) (Zan d 1) (h++([b.2]:List Zag)) p v t b.1 else bif(b.2.fN==(1:Int))then ZaH fu (Zan u 1) (Zan d 1) (h++([b.2]:List Zag)) p v t b.1 else ZaH fu u (Zan d 1) (h++([b.2]:List Zag)) p v t b.1 else ZaH fu u (Zan d 1) (h++([b.2]:List Zag)) p v t b.1)else some false
theorem Zlr:∀(fu:Nat)(D p:Int)(t:List Zag)(h:ZaA)(v:Zas)(o:ZaB)(y:ZaE)(r:Bool),ZaH fu D p t h v o y=some r->Yr 113 S0 w0 Tryz.f4 (Yk r) [1,1,1,1,1,0,1,0] ⟨[(3,.one (.ptr 3 0)),(4,.one (.ptr 4 0)),(5,.one (.ptr 5 0)),(7,.one (.ptr 7 0)),(8,.one (.osl 8 t.length)),(9,(Yj D)),(10,(Yj p))],[(l5 8 48 13 Zag.c Zag.d t),(3,.box (ZaA.c h)),(4,.box (Zas.c v)),(5,.box (ZaB.c o)),(7,.box (ZaE.c y))]⟩:=by
 intro fu;induction fu with
 |zero=>
  intro D p t h v o y r b;simp[ZaH]at b
 |succ fu ih=>
  intro D p t h v o y r b;unfold ZaH at b;obtain⟨E,b⟩|⟨E,b⟩:=Zah b
  .obtain⟨x7,kz,b⟩:=Zad b;cases x7 with
   |c63 F=>
    dsimp only at b;obtain⟨x9,kC,b⟩:=Zad b
    let R1:List RA:=[rz,rH [(2,.r (.one (ZrF.c (ZrF.c63 F))) [])] [(4,⟨[(99997,99997)],[],[],.agg (Zcy.c x9)⟩)],rz]
    have O2:=(me E (ZqE _ _ _ kz) (Zov _ _ _ kC));obtain⟨z,b⟩|⟨z,b⟩:=Zah b
    .obtain⟨U,kr,b⟩:=Zad b
     let R3:List RA:=(R1++[rA [(3,.r (.tup [(true,Zas.c U.1),(true,Zau.c U.2)]) [])]])
     have O4:=(mt O2 z (Zrm _ _ _ _ kr));obtain⟨G,b⟩|⟨G,b⟩:=Zah b
     .obtain⟨A,ku,b⟩:=Zad b;have O5:=(mt O4 G (ZpR _ _ _ ku));obtain⟨H,b⟩|⟨H,b⟩:=Zah b
      .obtain⟨I,J,kx,q19,b⟩:=Yu b;have O6:=(mu O5 H (Zpk _ _ kx) (ZpQ _ _ _ q19));obtain⟨a8,b⟩|⟨a8,b⟩:=Zah b
       .obtain⟨W,Z,q21,q22,b⟩:=Yu b;have O7:=(mu O6 a8 (ZjM _ _ q21) (Zqc _ _ _ _ q22));obtain⟨L,b⟩|⟨L,b⟩:=Zah b
        .obtain⟨kD,q24,b⟩:=Zad b;apply Ya b 18 (R3++[⟨[(6,aB A),(10,aG (Zas.c I)),(12,aB J),(18,aI W),(19,aB Z),(22,aB kD)],[(2,true),(8,true),(14,true),(21,true)],[],[],[],[],[]⟩]) [true,true] (mt O7 L (Zgo _ q24))
        .apply Ya b 18 (R3++[⟨[(6,aB A),(10,aG (Zas.c I)),(12,aB J),(18,aI W),(19,aB Z)],[(2,true),(8,true),(14,true),(21,false)],[],[],[],[],[]⟩]) [true,true] (mr O7 L)
       .apply Ya b 18 (R3++[⟨[(6,aB A),(10,aG (Zas.c I)),(12,aB J)],[(2,true),(8,true),(14,false)],[],[],[],[],[]⟩]) [true,true] (mr O6 a8)
      .apply Ya b 18 (R3++[⟨[(6,aB A)],[(2,true),(8,false)],[],[],[],[],[]⟩]) [true,true] (mr O5 H)
     .apply Ya b 18 (R3++[rB [(2,false)]]) [true,true] (mr O4 G)
    .obtain⟨M,b⟩|⟨M,b⟩:=Zah b
     .apply Ya b 21 (R1++[rB [(2,true)],rz]) [true,false,true] (mu O2 z M (mH true))
     .obtain⟨kE,q26,b⟩:=Zad b
      let R8:List RA:=(R1++[⟨[(6,aB kE)],[(2,false)],[],[],[],[],[]⟩])
      have O9:=(mu O2 z M (ZiL _ _ _ q26));obtain⟨O,b⟩|⟨O,b⟩:=Zah b
      .apply Ya b 21 (R8++[rz]) [true,false,true] (mr O9 O)
      .obtain⟨g,q28,b⟩:=Zad b;obtain⟨o29,b⟩:=Zao b
       let gN:List RA:=(R8++[rA [(3,.r (.tup [(true,ZaE.c g.1),(true,Zag.c g.2)]) [])],rz,⟨[(3,.c ((t++([g.2]:List Zag)).length) (Zam Zag.c Zag.d (t++([g.2]:List Zag))))],[],[],[],[],[(2,(([g.2]:List Zag).length,Zam Zag.c Zag.d ([g.2]:List Zag)))],[]⟩])
       have j4:=(mz O9 O (Zrl _ _ _ _ q28) (mF (e:=Zag.c) Zag.d 13 (fun _=>rfl) ([g.2]:List Zag)) (Zdk (sz:=13) (e:=Zag.c) (d:=Zag.d) t ([g.2]:List Zag)) o29.1 o29.2);obtain⟨u,b⟩|⟨u,b⟩:=Zah b
       .obtain⟨B,b⟩|⟨B,b⟩:=Zah b
        .exact Ye 33 (gN++[rB [(3,true),(8,true)],rz,rz]) [true,false,false,true] (lZ [3,4,5,7,8,9,10] [96,3,4,5,7] [(96,8)]) (mu j4 u B (mH true)) (ih (Zan D 1) (Zan p 1) (t++([g.2]:List Zag)) h v o g.1 r b)
        .obtain⟨R,b⟩|⟨R,b⟩:=Zah b
         .exact Ye 33 (gN++[rB [(3,true),(8,false)],rz,rz]) [true,false,false,true] (lZ [3,4,5,7,8,9,10] [96,3,4,5,7] [(96,8)]) (mu j4 u B R) (ih (Zan D 1) (Zan p 1) (t++([g.2]:List Zag)) h v o g.1 r b)
         .exact Ye 33 (gN++[rB [(3,true),(8,false)],rz]) [true,false,false,false] (lZ [3,4,5,7,8,9,10] [96,3,4,5,7] [(96,8)]) (mu j4 u B R) (ih D (Zan p 1) (t++([g.2]:List Zag)) h v o g.1 r b)
       .exact Ye 33 (gN++[rB [(3,false)],rz]) [true,false,false,false] (lZ [3,4,5,7,8,9,10] [96,3,4,5,7] [(96,8)]) (mt j4 u (mH false)) (ih D (Zan p 1) (t++([g.2]:List Zag)) h v o g.1 r b)
  .apply Ya b 8 [rz,rz] [false] (mc E)
def ZfC(d:ZaA)(b:Zas)(g:ZaB):Option Bool:=(Zgj b).bind fun h=>bif(!h)then(Zdw).bind fun j=>some j else(ZfX d b).bind fun o=>bif(!o)then(Zdw).bind fun p=>some p else bif(g.fKind != (1:Int))then(Zdw).bind fun t=>some t else(ZgY d b).bind fun u=>ZaH (((400:Int)-(0:Int)).toNat+2) (0:Int) (0:Int) ([]) d b g u
theorem Zmo(h:ZaA)(j:Zas)(o:ZaB)(r:Bool)(b:ZfC h j o=some r):Yo 4 [.agg (ZaA.c h),.agg (Zas.c j),.agg (ZaB.c o)] (Yk r):=by
 refine Yv Tryz.func4 fun S0 w0=>?_;unfold ZfC at b;obtain⟨p,v,b⟩:=Zad b;obtain⟨t,b⟩|⟨t,b⟩:=Zah b
 .obtain⟨A,B,b⟩:=Zad b;apply Ya b 8 [rz,⟨[(1,aB p)],[(3,true)],[],[],[],[],[]⟩,rA [(0,aB A)]] [true] (mf (ZkO _ _ v) t (mH true) (Zgo _ B))
 .obtain⟨y,D,b⟩:=Zad b;have hC:=(me (ZkO _ _ v) t (Zpl _ _ _ D));obtain⟨g,b⟩|⟨g,b⟩:=Zah b
  .obtain⟨E,F,b⟩:=Zad b;apply Ya b 8 [rz,⟨[(1,aB p),(6,aB y)],[(3,false),(9,true)],[],[],[],[],[]⟩,rA [(0,aB E)]] [true] (mu hC g (mH true) (Zgo _ F))
  .let R13:List RA:=[rz,⟨[(1,aB p),(6,aB y)],[(3,false),(9,false)],[],[],[],[],[]⟩]
   obtain⟨u,b⟩|⟨u,b⟩:=Zah b
   .obtain⟨G,H,b⟩:=Zad b;apply Ya b 8 (R13++[rA [(0,aB G)]]) [true] (mu hC g u (Zgo _ H))
   .obtain⟨z,I,b⟩:=Zad b;exact Ye 17 (R13++[rA [(2,aG (ZaE.c z))],rz,rz,rz]) [false] ⟨[],[],[],[],[(8,8,48,13,Zam Zag.c Zag.d [])],[3,4,5,7,8,9,10],[8,3,4,5,7],[]⟩ (mu hC g u (Zqy _ _ _ I)) (Zlr S0 w0 (((400:Int)-(0:Int)).toNat+2) (0:Int) (0:Int) ([]) h j o z r b)
end Go.Proofs.YtmnloegcpaahcaaGreat
