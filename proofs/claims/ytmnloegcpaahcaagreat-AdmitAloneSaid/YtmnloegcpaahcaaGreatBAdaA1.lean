import Derived.Test.YtmnloegcpaahcaaGreatBAdaA0
namespace Go.Proofs.YtmnloegcpaahcaaGreat
open Go.RowKit Go.Lib Go.Shelf
set_option linter.unusedVariables false
set_option maxRecDepth 100000
variable (S0:Nat->Prop)(w0:ZaW)
def ZbK:Nat->Zav->(List Zaw)->Zaf->Option (List Zaw)|0,_,_,_=>none|fu+1,u,d,j=>(match u with | .nil=>some d | .mk b o g h=>(ZoP b.fNet j).bind fun v=>bif v then bif o then need ((d++([b]:List Zaw)).length * 40<=140737488355328/\(d++([b]:List Zaw)).length<=maxLen)<|(ZhK j b.fNet.fBits).bind fun p=>need (0<=p/\p<((2:Nat):Int))<|ix2 p ( ZbK fu g (d++([b]:List Zaw)) j) ( ZbK fu h (d++([b]:List Zaw)) j)else(ZhK j b.fNet.fBits).bind fun t=>need (0<=t/\t<((2:Nat):Int))<|ix2 t ( ZbK fu g d j) ( ZbK fu h d j)else some d)
theorem Zkx:∀(D:Nat)(v:Zav)(h:List Zaw)(o:Zaf)(r:List Zaw),ZbK D v h o=some r->Ys 57 S0 w0 Tryz.f201 [(l5 99999 263 5 Zaw.c Zaw.d r)] (.one (.osl 99999 r.length)) [1,1,1,1,0,0] ⟨[(3,.one (.ptr 3 0)),(5,.one (.osl 5 h.length)),(6,.one (Zav.c v))],[(l5 5 263 5 Zaw.c Zaw.d h),(3,.box (Zaf.c o))]⟩:=by
 intro D;induction D with
 |zero=>
  intro v h o r g;simp[ZbK]at g
 |succ D E=>
  intro v h o r g;unfold ZbK at g;cases v with
  |nil=>
   dsimp only at g;apply Yc g 8 [rz,rz] [false] (lZ [4] [5] [(5,99999)]) (mc (mH false))
  |mk b I p t=>
   dsimp only at g;obtain⟨y,z,g⟩:=Zad g;obtain⟨u,g⟩|⟨u,g⟩:=Zah g
   .obtain⟨A,g⟩|⟨A,g⟩:=Zah g
    .obtain⟨F,g⟩:=Zao g;obtain⟨L,J,g⟩:=Zad g;obtain⟨G,g⟩:=Zao g;rcases ZjR G g with⟨e,g⟩|⟨e,g⟩
     .subst e;exact Ye 15 [rA [(9,aB y)],rz,⟨[(6,.c ((h++([b]:List Zaw)).length) (Zam Zaw.c Zaw.d (h++([b]:List Zaw))))],[],[],[],[],[(5,(([b]:List Zaw).length,Zam Zaw.c Zaw.d ([b]:List Zaw)))],[]⟩,rA [(8,aI (0:Int))]] [true,true] (lZ [3,5,6] [42,3] [(42,5)]) (ml (ZkS _ _ _ z) u A (mF (e:=Zaw.c) Zaw.d 5 (fun _=>rfl) ([b]:List Zaw)) (Zdk (sz:=5) (e:=Zaw.c) (d:=Zaw.d) h ([b]:List Zaw)) F.1 F.2 (ZkW _ _ _ J) (show 0<=(0:Int)/\(0:Int)<((2:Nat):Int)from(by decide))) (E p (h++([b]:List Zaw)) o r g)
     .subst e;exact Ye 15 [rA [(9,aB y)],rz,⟨[(6,.c ((h++([b]:List Zaw)).length) (Zam Zaw.c Zaw.d (h++([b]:List Zaw))))],[],[],[],[],[(5,(([b]:List Zaw).length,Zam Zaw.c Zaw.d ([b]:List Zaw)))],[]⟩,rA [(8,aI (1:Int))]] [true,true] (lZ [3,5,6] [42,3] [(42,5)]) (ml (ZkS _ _ _ z) u A (mF (e:=Zaw.c) Zaw.d 5 (fun _=>rfl) ([b]:List Zaw)) (Zdk (sz:=5) (e:=Zaw.c) (d:=Zaw.d) h ([b]:List Zaw)) F.1 F.2 (ZkW _ _ _ J) (show 0<=(1:Int)/\(1:Int)<((2:Nat):Int)from(by decide))) (E t (h++([b]:List Zaw)) o r g)
    .obtain⟨M,B,g⟩:=Zad g;obtain⟨H,g⟩:=Zao g;rcases ZjR H g with⟨e,g⟩|⟨e,g⟩
     .subst e;exact Ye 15 [rA [(9,aB y)],rz,rA [(8,aI (0:Int))]] [true,false] (lX [3,5,6] [5,3]) (mg (ZkS _ _ _ z) u A (ZkW _ _ _ B) (show 0<=(0:Int)/\(0:Int)<((2:Nat):Int)from(by decide))) (E p h o r g)
     .subst e;exact Ye 15 [rA [(9,aB y)],rz,rA [(8,aI (1:Int))]] [true,false] (lX [3,5,6] [5,3]) (mg (ZkS _ _ _ z) u A (ZkW _ _ _ B) (show 0<=(1:Int)/\(1:Int)<((2:Nat):Int)from(by decide))) (E t h o r g)
   .apply Yc g 8 [rA [(9,aB y)],rz] [false] (lZ [4] [5] [(5,99999)]) (md (ZkS _ _ _ z) u)
def Zgu(o:ZaG)(g:Zaf):Option (List Zaw):=(match o with | .nil=>some ([]:List Zaw) | .mk b d j=>(ZfM g).bind fun p=>bif(!p)then some ([]:List Zaw)else(ZgT g).bind fun h=>need (0<=h/\h<((2:Nat):Int))<|ix2 h ( ZbK 1000000 b ([]) g) ( ZbK 1000000 d ([]) g))
theorem Zqt(p:ZaG)(j:Zaf)(r:List Zaw)(b:Zgu p j=some r):Yp 201 [] [.one (ZaG.c p),.agg (Zaf.c j)] [(l5 99999 263 5 Zaw.c Zaw.d r)] (.one (.osl 99999 r.length)):=by
 refine Yw Tryz.func201 fun S0 w0=>?_;unfold Zgu at b;cases p with
 |nil=>
  dsimp only at b;apply Yc b 8 [rz,rz,rz] [true] ⟨[],[],[],[],[(4,99999,263,5,Zam Zaw.c Zaw.d [])],[4],[99999],[]⟩ (mc (mH true))
 |mk g h v=>
  dsimp only at b;obtain⟨t,u,b⟩:=Zad b;obtain⟨o,b⟩|⟨o,b⟩:=Zah b
  .apply Yc b 8 [rz,rA [(4,aB t)],rz] [true] ⟨[],[],[],[],[(4,99999,263,5,Zam Zaw.c Zaw.d [])],[4],[99999],[]⟩ (md (Zda _ _ u) o)
  .obtain⟨A,y,b⟩:=Zad b;obtain⟨z,b⟩:=Zao b;rcases ZjR z b with⟨e,b⟩|⟨e,b⟩
   .subst e;exact Ye 13 [rz,rA [(4,aB t)],rz,rA [(2,aI (0:Int))]] [false] ⟨[],[],[],[],[(5,5,263,5,Zam Zaw.c Zaw.d [])],[3,5,6],[5,3],[]⟩ (mf (Zda _ _ u) o (Zfb _ _ y) (show 0<=(0:Int)/\(0:Int)<((2:Nat):Int)from(by decide))) (Zkx S0 w0 1000000 g ([]) j r b)
   .subst e;exact Ye 13 [rz,rA [(4,aB t)],rz,rA [(2,aI (1:Int))]] [false] ⟨[],[],[],[],[(5,5,263,5,Zam Zaw.c Zaw.d [])],[3,5,6],[5,3],[]⟩ (mf (Zda _ _ u) o (Zfb _ _ y) (show 0<=(1:Int)/\(1:Int)<((2:Nat):Int)from(by decide))) (Zkx S0 w0 1000000 h ([]) j r b)
theorem Zrf(b:ZaG)(g:Zaf)(r:List Zaw)(h:Zgu b g=some r):Yo 201 [.one (ZaG.c b),.agg (Zaf.c g)] (.one (cL 5 Zaw.c Zaw.d r)):=(Zqt b g r h).pure
def ZgJ:Nat->Int->(List Zaw)->Int->Int->Option Int|0,_,_,_,_=>none|fu+1,j,g,h,b=>bif(decide (b<h))then need (0<=b/\b<(g.length:Int))<|ZgJ fu (if(g.getD b.toNat Zaw.d).fV>j then(g.getD b.toNat Zaw.d).fV else j) g h (Zan b 1)else some j
theorem ZsM:∀(p:Nat)(o:Int)(b:List Zaw)(h g r:Int),ZgJ p o b h g=some r->Yr 35 S0 w0 Tryz.f128 (Yj r) [1,1,1,1,0,1,0] ⟨[(8,(Yj o)),(23,.one (cL 5 Zaw.c Zaw.d b)),(24,(Yj h)),(25,(Yj g))],[]⟩:=by
 intro p;induction p with
 |zero=>
  intro o b h g r j;simp[ZgJ]at j
 |succ p u=>
  intro o b h g r j;unfold ZgJ at j;obtain⟨t,j⟩|⟨t,j⟩:=Zah j
  .obtain⟨v,j⟩:=Zao j;exact Ye 14 [rz,rz,rz,rz] [true] (Yi [8,23,24,25]) (md t v) (u (if(b.getD g.toNat Zaw.d).fV>o then(b.getD g.toNat Zaw.d).fV else o) b h (Zan g 1) r j)
  .apply Ya j 8 [rz,rz] [false] (mc t)
def ZiS(g:List Zae)(h:Zaf)(j:Int):Option Int:=(ZlT g j).bind fun o=>(Zgu o h).bind fun b=>bif((b.length:Int)==(0:Int))then some (0:Int)else need (0<=(0:Int)/\(0:Int)<(b.length:Int))<|ZgJ (((b.length:Int)-(0:Int)).toNat+2) ((b.getD (0:Int).toNat Zaw.d).fV) b (b.length:Int) (0:Int)
theorem ZvK(j:List Zae)(o:Zaf)(p r:Int)(b:ZiS j o p=some r):Yo 128 [Yl j,.agg (Zaf.c o),Yj p] (Yj r):=by
 refine Yv Tryz.func128 fun S0 w0=>?_;unfold ZiS at b;obtain⟨t,u,b⟩:=Zad b;obtain⟨g,v,b⟩:=Zad b
 let R1:List RA:=[rz,rA [(2,.r (.one (ZaG.c t)) []),(4,.r (.one (cL 5 Zaw.c Zaw.d g)) [])],rz,rz]
 have O2:=(md (ZvJ _ _ _ u) (Zrf _ _ _ v));obtain⟨h,b⟩|⟨h,b⟩:=Zah b
 .apply Ya b 10 R1 [true] (mr O2 h)
 .obtain⟨y,b⟩:=Zao b;exact Ye 15 (R1++[rz]) [false] (Yi [8,23,24,25]) (mt O2 h y) (ZsM S0 w0 (((g.length:Int)-(0:Int)).toNat+2) ((g.getD (0:Int).toNat Zaw.d).fV) g (g.length:Int) (0:Int) r b)
def ZgR(h:Zaq)(j:Int)(o:Bool):Option (Tout Unit):=(Zcv h (ZaK.mk 4 j (Zay.mk 0 0 0) 0 0 (Zag.mk 0 (Zaa.mk (Zal.mk (Zaf.mk false 0 0) 0) false 0 (ZaD.mk 0 0) 0 0) ([]:(List Zae)) ([]:(List Zac))) o)).bind fun p=>(match p with | .ret t b=>some (Tout.ret () b) | .pan d=>some (Tout.pan d) | .bad g=>some (Tout.bad g))
theorem ZeT(o:Zaq)(p:Int)(t:Bool)(r:(Tout Unit))(b:ZgR o p t=some r):Yq 423 [(100000,.box (Zaq.c o))] [.one (.ptr 100000 0),Yj p,Yk t] (oc (fun x=>.tup []) r):=by
 refine Zio.of Tryz.func423 rfl rfl rfl rfl fun S0 w0=>?_;unfold ZgR at b;obtain⟨u,g,b⟩:=Zad b;cases u with
 |ret h j=>
  dsimp only at b;obtain rfl:=oi b;exact Yd 1 [⟨[],[],[],[],[(3,[(18,cL 5 Zae.c Zae.d []),(19,cL 7 Zac.c Zac.d [])])],[],[(4,⟨[(100000,100000)],[],[(100000,.box (Zaq.c j))],.agg (Zag.c h)⟩)]⟩] [] (lX [] [100000]) (mc (ZbB _ _ _ g))
 |_=>
  dsimp only at b;obtain rfl:=oi b;exact Yh 0 [] [] (⟨[],[],[],[],[(3,[(18,cL 5 Zae.c Zae.d []),(19,cL 7 Zac.c Zac.d [])])],[],[]⟩) 4 ⟨[(100000,100000)],pvOf g⟩ (mc (ZbB _ _ _ g))
def ZmU(b:Zaf):Option Zap:=(Zeb b).bind fun d=>(ZfT b d).bind fun g=>some g.1
theorem ZwF(d:Zaf)(r:Zap)(b:ZmU d=some r):Yo 238 [.agg (Zaf.c d)] (.agg (Zap.c r)):=by
 refine Yv Tryz.func238 fun S0 w0=>?_;unfold ZmU at b;obtain⟨h,g,j,o,b⟩:=Yu b;apply Ya b 6 [rz,rA [(2,aI h),(3,.r (.tup [(true,Zap.c g.1),(false,cB g.2)]) [])],rz] [] (md (Zhi _ _ j) (Zgt _ _ _ o))
def ZmN(b:Int):Option Int:=some (IntKind.wrap .u64 (((BitVec.ofInt (IntKind.bits .u64) (IntKind.wrap .u64 ((IntKind.wrap .u64 (((BitVec.ofInt (IntKind.bits .u64) (IntKind.wrap .u64 ((IntKind.wrap .u64 (((BitVec.ofInt (IntKind.bits .u64) b) ^^^ (BitVec.ofInt (IntKind.bits .u64) (Int.fdiv b (2 ^ (min (30:Int).toNat (IntKind.bits .u64)))))).toNat:Int))*(13787848793156543929:Int)))) ^^^ (BitVec.ofInt (IntKind.bits .u64) (Int.fdiv (IntKind.wrap .u64 ((IntKind.wrap .u64 (((BitVec.ofInt (IntKind.bits .u64) b) ^^^ (BitVec.ofInt (IntKind.bits .u64) (Int.fdiv b (2 ^ (min (30:Int).toNat (IntKind.bits .u64)))))).toNat:Int))*(13787848793156543929:Int))) (2 ^ (min (27:Int).toNat (IntKind.bits .u64)))))).toNat:Int))*(10723151780598845931:Int)))) ^^^ (BitVec.ofInt (IntKind.bits .u64) (Int.fdiv (IntKind.wrap .u64 ((IntKind.wrap .u64 (((BitVec.ofInt (IntKind.bits .u64) (IntKind.wrap .u64 ((IntKind.wrap .u64 (((BitVec.ofInt (IntKind.bits .u64) b) ^^^ (BitVec.ofInt (IntKind.bits .u64) (Int.fdiv b (2 ^ (min (30:Int).toNat (IntKind.bits .u64)))))).toNat:Int))*(13787848793156543929:Int)))) ^^^ (BitVec.ofInt (IntKind.bits .u64) (Int.fdiv (IntKind.wrap .u64 ((IntKind.wrap .u64 (((BitVec.ofInt (IntKind.bits .u64) b) ^^^ (BitVec.ofInt (IntKind.bits .u64) (Int.fdiv b (2 ^ (min (30:Int).toNat (IntKind.bits .u64)))))).toNat:Int))*(13787848793156543929:Int))) (2 ^ (min (27:Int).toNat (IntKind.bits .u64)))))).toNat:Int))*(10723151780598845931:Int))) (2 ^ (min (31:Int).toNat (IntKind.bits .u64)))))).toNat:Int))
theorem Zqv(b r:Int)(d:ZmN b=some r):Yo 390 [.one (.lit (.int .u64 b))] (.one (.lit (.int .u64 r))):=by
 refine Yv Tryz.func390 fun S0 w0=>?_;unfold ZmN at d;apply Ya d 8 [rz,rz,rz,rz] [] (me (mJ (30:Int) rfl) (mJ (27:Int) rfl) (mJ (31:Int) rfl))
def Zey(d b:Int):Option Int:=need (0<=(IntKind.wrap .u64 (((BitVec.ofInt (IntKind.bits .u64) (IntKind.wrap .u64 b)) &&& (BitVec.ofInt (IntKind.bits .u64) (63:Int))).toNat:Int)))<|need (0<=(IntKind.wrap .u64 ((64:Int)-(IntKind.wrap .u64 (((BitVec.ofInt (IntKind.bits .u64) (IntKind.wrap .u64 b)) &&& (BitVec.ofInt (IntKind.bits .u64) (63:Int))).toNat:Int)))))<|some (IntKind.wrap .u64 (((BitVec.ofInt (IntKind.bits .u64) (IntKind.wrap .u64 (d * 2 ^ (min (IntKind.wrap .u64 (((BitVec.ofInt (IntKind.bits .u64) (IntKind.wrap .u64 b)) &&& (BitVec.ofInt (IntKind.bits .u64) (63:Int))).toNat:Int)).toNat (IntKind.bits .u64))))) ||| (BitVec.ofInt (IntKind.bits .u64) (Int.fdiv d (2 ^ (min (IntKind.wrap .u64 ((64:Int)-(IntKind.wrap .u64 (((BitVec.ofInt (IntKind.bits .u64) (IntKind.wrap .u64 b)) &&& (BitVec.ofInt (IntKind.bits .u64) (63:Int))).toNat:Int)))).toNat (IntKind.bits .u64)))))).toNat:Int))
theorem ZmQ(d g r:Int)(b:Zey d g=some r):Yo 391 [.one (.lit (.int .u64 d)),Yj g] (.one (.lit (.int .u64 r))):=by
 refine Yv Tryz.func391 fun S0 w0=>?_;unfold Zey at b;obtain⟨o1,o2,b⟩:=Yt b;apply Ya b 6 [rz,rz,rz] [] (md o1 o2)
def Zkb:Nat->Int->(List Int)->Int->Int->Option Int|0,_,_,_,_=>none|fu+1,h,d,g,b=>bif(decide (b<g))then need (0<=b/\b<(d.length:Int))<|(Zey h (7:Int)).bind fun j=>(ZmN (IntKind.wrap .u64 ((d.getD b.toNat (0:Int))+(11400714819323198485:Int)))).bind fun o=>(ZmN (IntKind.wrap .u64 (((BitVec.ofInt (IntKind.bits .u64) j) ^^^ (BitVec.ofInt (IntKind.bits .u64) o)).toNat:Int))).bind fun p=>Zkb fu p d g (Zan b 1)else some h
theorem ZwD:∀(j:Nat)(o:Int)(d:List Int)(g h r:Int),Zkb j o d g h=some r->Yr 26 S0 w0 Tryz.f364 (.one (.lit (.int .u64 r))) [1,1,0,1,0] ⟨[(5,.one (.lit (.int .u64 o))),(11,.one (cL 1 (cI .u64) (0:Int) d)),(12,(Yj g)),(13,(Yj h))],[]⟩:=by
 intro j;induction j with
 |zero=>
  intro o d g h r b;simp[Zkb]at b
 |succ j u=>
  intro o d g h r b;unfold Zkb at b;obtain⟨p,b⟩|⟨p,b⟩:=Zah b
  .obtain⟨v,b⟩:=Zao b;obtain⟨y,z,A,B,b⟩:=Yu b;obtain⟨t,D,b⟩:=Zad b;exact Ye 14 [rz,rz,rA [(1,.r (.one (.lit (.int .u64 y))) []),(4,.r (.one (.lit (.int .u64 z))) []),(6,.r (.one (.lit (.int .u64 t))) [])],rz] [true] (Yi [5,11,12,13]) (mg p v (ZmQ _ _ _ A) (Zqv _ _ B) (Zqv _ _ D)) (u t d g (Zan h 1) r b)
  .apply Ya b 8 [rz,rz] [false] (mc p)
def ZqY(d:Int)(b:List Int):Option Int:=(ZmN (IntKind.wrap .u64 (d+(11400714819323198485:Int)))).bind fun g=>Zkb (((b.length:Int)-(0:Int)).toNat+2) g b (b.length:Int) (0:Int)
theorem ZvB(g:Int)(b:List Int)(r:Int)(d:ZqY g b=some r):Yo 364 [.one (.lit (.int .u64 g)),.one (cL 1 (cI .u64) (0:Int) b)] (.one (.lit (.int .u64 r))):=by
 refine Yv Tryz.func364 fun S0 w0=>?_;unfold ZqY at d;obtain⟨h,j,d⟩:=Zad d;exact Ye 8 [rz,rA [(2,.r (.one (.lit (.int .u64 h))) [])],rz] [] (Yi [5,11,12,13]) (mc (Zqv _ _ j)) (ZwD S0 w0 (((b.length:Int)-(0:Int)).toNat+2) h b (b.length:Int) (0:Int) r d)
def ZmO(d:Int)(b:Zap):Option Int:=bif b.fAddr.fV6 then(ZqY d ([(6:Int),b.fAddr.fHi,b.fAddr.fLo,(IntKind.wrap .u64 b.fBits)]:List Int)).bind fun g=>some g else(ZqY d ([(4:Int),b.fAddr.fHi,b.fAddr.fLo,(IntKind.wrap .u64 b.fBits)]:List Int)).bind fun h=>some h
theorem ZtM(o:Int)(b:Zap)(r:Int)(g:ZmO o b=some r):Yo 332 [.one (.lit (.int .u64 o)),.agg (Zap.c b)] (.one (.lit (.int .u64 r))):=by
 refine Yv Tryz.func332 fun S0 w0=>?_;unfold ZmO at g;obtain⟨h,g⟩|⟨h,g⟩:=Zah g
 .obtain⟨p,t,g⟩:=Zad g;apply Ya g 11 [rz,rz,rz,rz,⟨[(12,.r (.one (.lit (.int .u64 p))) [])],[],[],[],[],[(11,(([(6:Int),b.fAddr.fHi,b.fAddr.fLo,(IntKind.wrap .u64 b.fBits)]:List Int).length,Zam (cI .u64) (0:Int) ([(6:Int),b.fAddr.fHi,b.fAddr.fLo,(IntKind.wrap .u64 b.fBits)]:List Int)))],[]⟩] [true] (me h (mF (e:=(cI .u64)) (0:Int) 1 (fun _=>rfl) ([(6:Int),b.fAddr.fHi,b.fAddr.fLo,(IntKind.wrap .u64 b.fBits)]:List Int)) (ZvB _ _ _ t))
 .obtain⟨u,v,g⟩:=Zad g;apply Ya g 11 [rz,rz,rz,⟨[(12,.r (.one (.lit (.int .u64 u))) [])],[],[],[],[],[(11,(([(4:Int),b.fAddr.fHi,b.fAddr.fLo,(IntKind.wrap .u64 b.fBits)]:List Int).length,Zam (cI .u64) (0:Int) ([(4:Int),b.fAddr.fHi,b.fAddr.fLo,(IntKind.wrap .u64 b.fBits)]:List Int)))],[]⟩] [false] (me h (mF (e:=(cI .u64)) (0:Int) 1 (fun _=>rfl) ([(4:Int),b.fAddr.fHi,b.fAddr.fLo,(IntKind.wrap .u64 b.fBits)]:List Int)) (ZvB _ _ _ v))
def ZkA(b:Int):Option Int:=some (if(8:Int)<(if(1:Int)>b then(1:Int)else b)then(8:Int)else(if(1:Int)>b then(1:Int)else b))
theorem ZtW(b r:Int)(d:ZkA b=some r):Yo 333 [Yj b] (Yj r):=by
 refine Yv Tryz.func333 fun S0 w0=>?_;unfold ZkA at d;apply Ya d 4 [rz,rz] [] .n
def ZmP(d b:Int):Option Int:=bif(decide (b<(1:Int)))then some (0:Int)else bif(decide (b>(2147483648:Int)))then some (0:Int)else some (IntKind.wrap .i64 (Int.fdiv (IntKind.wrap .u64 ((Int.fdiv d (2 ^ (min (32:Int).toNat (IntKind.bits .u64))))*(IntKind.wrap .u64 b))) (2 ^ (min (32:Int).toNat (IntKind.bits .u64)))))
theorem ZwE(h j r:Int)(b:ZmP h j=some r):Yo 331 [.one (.lit (.int .u64 h)),Yj j] (Yj r):=by
 refine Yv Tryz.func331 fun S0 w0=>?_;unfold ZmP at b;obtain⟨d,b⟩|⟨d,b⟩:=Zah b
 .apply Ya b 8 [rz,rB [(2,true)],rz] [true] (md d (mH true))
 .obtain⟨g,b⟩|⟨g,b⟩:=Zah b
  .apply Ya b 8 [rz,rB [(2,false)],rz] [true] (md d g)
  .apply Ya b 9 [rz,rB [(2,false)],rz] [false] (mf d g (mJ (32:Int) rfl) (mJ (32:Int) rfl))
def Zlo(b:Zaf)(d g:Int):Option Int:=(ZmU b).bind fun h=>(ZmO d h).bind fun j=>(ZkA g).bind fun o=>(ZmP j o).bind fun p=>some p
theorem Zyz(d:Zaf)(g h r:Int)(b:Zlo d g h=some r):Yo 277 [.agg (Zaf.c d),.one (.lit (.int .u64 g)),Yj h] (Yj r):=by
 refine Yv Tryz.func277 fun S0 w0=>?_;unfold Zlo at b;obtain⟨j,o,p,t,b⟩:=Yu b;obtain⟨u,v,y,z,b⟩:=Yu b;apply Ya b 4 [rz,rA [(2,aG (Zap.c j)),(3,.r (.one (.lit (.int .u64 o))) []),(5,aI u),(6,aI v)]] [] (mf (ZwF _ _ p) (ZtM _ _ _ t) (ZtW _ _ y) (ZwE _ _ _ z))
def ZgA(b:Zbj):Option Int:=(Zlo b.fx.fEnd.fAddr b.fc.fSecret b.fc.fShards).bind fun d=>some d
theorem Zjw(d:Zbj)(r:Int)(b:ZgA d=some r):Yo 202 [.agg (Zbj.c d)] (Yj r):=by
 refine Yv Tryz.func202 fun S0 w0=>?_;unfold ZgA at b;obtain⟨g,h,b⟩:=Zad b;apply Ya b 4 [rz,rA [(10,aI g)]] [] (mc (Zyz _ _ _ _ h))
def Zil(h:Zaq)(j:Int)(o:Bool):Option (Tout Unit):=(Zcv h (ZaK.mk 1 j (Zay.mk 0 0 0) 0 0 (Zag.mk 0 (Zaa.mk (Zal.mk (Zaf.mk false 0 0) 0) false 0 (ZaD.mk 0 0) 0 0) ([]:(List Zae)) ([]:(List Zac))) o)).bind fun p=>(match p with | .ret t b=>some (Tout.ret () b) | .pan d=>some (Tout.pan d) | .bad g=>some (Tout.bad g))
theorem Zhs(o:Zaq)(p:Int)(t:Bool)(r:(Tout Unit))(b:Zil o p t=some r):Yq 426 [(100000,.box (Zaq.c o))] [.one (.ptr 100000 0),Yj p,Yk t] (oc (fun x=>.tup []) r):=by
 refine Zio.of Tryz.func426 rfl rfl rfl rfl fun S0 w0=>?_;unfold Zil at b;obtain⟨u,g,b⟩:=Zad b;cases u with
 |ret h j=>
  dsimp only at b;obtain rfl:=oi b;exact Yd 1 [⟨[],[],[],[],[(3,[(18,cL 5 Zae.c Zae.d []),(19,cL 7 Zac.c Zac.d [])])],[],[(4,⟨[(100000,100000)],[],[(100000,.box (Zaq.c j))],.agg (Zag.c h)⟩)]⟩] [] (lX [] [100000]) (mc (ZbB _ _ _ g))
 |_=>
  dsimp only at b;obtain rfl:=oi b;exact Yh 0 [] [] (⟨[],[],[],[],[(3,[(18,cL 5 Zae.c Zae.d []),(19,cL 7 Zac.c Zac.d [])])],[],[]⟩) 4 ⟨[(100000,100000)],pvOf g⟩ (mc (ZbB _ _ _ g))
def Zlm(b:Int):Option Zay:=some (Zay.mk 5 b 0)
theorem Zrz(b:Int)(r:Zay)(d:Zlm b=some r):Yo 278 [Yj b] (.agg (Zay.c r)):=by
 refine Yv Tryz.func278 fun S0 w0=>?_;unfold Zlm at d;apply Ya d 4 [rz,rz] [] .n
def Zll(b d:Int):Option Zay:=some (Zay.mk 6 b d)
theorem Zry(b d:Int)(r:Zay)(g:Zll b d=some r):Yo 279 [Yj b,Yj d] (.agg (Zay.c r)):=by
 refine Yv Tryz.func279 fun S0 w0=>?_;unfold Zll at g;apply Ya g 4 [rz,rz] [] .n
def Zgq(u:Int):Nat->Int->Int->(List Zaa)->Zaq->Option (Tout (List Zaa))|0,_,_,_,_=>none|fu+1,h,d,j,b=>bif(decide (d<h))then(Zll u d).bind fun v=>(ZfS b v false).bind fun y=>(match y with | .ret g o=>need ((j++([g.fPeer]:List Zaa)).length * 80<=140737488355328/\(j++([g.fPeer]:List Zaa)).length<=maxLen)<|Zgq u fu h (Zan d 1) (j++([g.fPeer]:List Zaa)) o | .pan p=>some (Tout.pan p) | .bad t=>some (Tout.bad t))else some (Tout.ret j b)
theorem Ztr(A:Int):∀(v:Nat)(o p:Int)(t:List Zaa)(b:Zaq)(r:(Tout (List Zaa))),Zgq A v o p t b=some r->Good Tryz.prog 33 S0 w0 (bodyPost Tryz.prog Tryz.f203 (ZnE S0 w0 (oc (fun x=>(Yn x)) r))) (at_ [1,1,0,1,0] (ZaR Tryz.f203)) ⟨[(0,.one (.ifc 140 (.ptr 100000 0))),(1,(Yj A)),(5,.one (.osl 5 t.length)),(15,(Yj o)),(16,(Yj p))],[(l5 5 44 10 Zaa.c Zaa.d t),(100000,.box (Zaq.c b))]⟩:=by
 intro v;induction v with
 |zero=>
  intro o p t b r h;simp[Zgq]at h
 |succ v E=>
  intro o p t b r h;unfold Zgq at h;obtain⟨y,h⟩|⟨y,h⟩:=Zah h
  .obtain⟨B,F,h⟩:=Zad h;have O1:=(me y (Zry _ _ _ F) Zxj);obtain⟨G,z,h⟩:=Zad h;cases G with
   |ret g u=>
    dsimp only at h;obtain⟨D,h⟩:=Zao h;exact Ye 14 [rz,rz,⟨[(4,aG (Zay.c B)),(8,.id 425),(11,.c ((t++([g.fPeer]:List Zaa)).length) (Zam Zaa.c Zaa.d (t++([g.fPeer]:List Zaa))))],[],[],[],[],[(10,(([g.fPeer]:List Zaa).length,Zam Zaa.c Zaa.d ([g.fPeer]:List Zaa)))],[(8,⟨[(100000,100000)],[],[(100000,.box (Zaq.c u))],.agg (Zag.c g)⟩)]⟩,rz] [true] (lZ [0,1,5,15,16] [30,100000] [(30,5)]) (mz O1 (Zds _ _ _ _ z) ZlH (mF (e:=Zaa.c) Zaa.d 10 (fun _=>rfl) ([g.fPeer]:List Zaa)) (Zdk (sz:=10) (e:=Zaa.c) (d:=Zaa.d) t ([g.fPeer]:List Zaa)) D.1 D.2) (E o (Zan p 1) (t++([g.fPeer]:List Zaa)) u r h)
   |_=>
    dsimp only at h;obtain rfl:=oi h;exact Yh 10 [rz,rz] [true] (rA [(4,aG (Zay.c B)),(8,.id 425)]) 8 ⟨[(100000,100000)],pvOf z⟩ (mt O1 (Zds _ _ _ _ z) ZlH)
  .obtain rfl:=oi h;exact Yd 8 [rz,rz] [false] ⟨[5],[],[],[],[],[4],[100000],[]⟩ (mc y)
def Zln(o:Zaq)(j:Int):Option (Tout (List Zaa)):=(Zlm j).bind fun p=>(ZfS o p false).bind fun t=>(match t with | .ret b d=>Zgq j (((if(0:Int)>b.fN then(0:Int)else b.fN)-(0:Int)).toNat+2) (if(0:Int)>b.fN then(0:Int)else b.fN) (0:Int) ([]) d | .pan g=>some (Tout.pan g) | .bad h=>some (Tout.bad h))
theorem Zky(p:Zaq)(j:Int)(r:(Tout (List Zaa)))(g:Zln p j=some r):Yq 203 [(100000,.box (Zaq.c p))] [.one (.ifc 140 (.ptr 100000 0)),Yj j] (oc (fun x=>(Yn x)) r):=by
 refine Zio.of Tryz.func203 rfl rfl rfl rfl fun S0 w0=>?_;unfold Zln at g;obtain⟨t,u,g⟩:=Zad g;have O2:=(md (Zrz _ _ u) Zxj);obtain⟨v,o,g⟩:=Zad g;cases v with
 |ret b h=>
  dsimp only at g;exact Ye 8 [rz,rz,rH [(2,aG (Zay.c t)),(6,.id 425)] [(6,⟨[(100000,100000)],[],[(100000,.box (Zaq.c h))],.agg (Zag.c b)⟩)]] [] ⟨[],[],[],[],[(5,5,44,10,Zam Zaa.c Zaa.d [])],[0,1,5,15,16],[5,100000],[]⟩ (mt O2 (Zds _ _ _ _ o) ZlH) (Ztr S0 w0 j (((if(0:Int)>b.fN then(0:Int)else b.fN)-(0:Int)).toNat+2) (if(0:Int)>b.fN then(0:Int)else b.fN) (0:Int) ([]) h r g)
 |_=>
  dsimp only at g;obtain rfl:=oi g;exact Yh 6 [rz,rz] [] (rA [(2,aG (Zay.c t)),(6,.id 425)]) 6 ⟨[(100000,100000)],pvOf o⟩ (mt O2 (Zds _ _ _ _ o) ZlH)
def Zly(b:Zaa)(c0:Zal):Option Bool:=some (decide (b.fEnd=c0))
theorem Zts(b:Zaa)(c0:Zal)(r:Bool)(d:Zly b c0=some r):Yo 281 [.agg (Zaa.c b),.one (.rp false 4 (fun j=>(Zal.c c0:List C).getD (0+j) .junk))] (Yk r):=by
 refine Yv Tryz.func281 fun S0 w0=>?_;unfold Zly at d;apply Ya d 4 [rz,rA [(3,aB (decide (b.fEnd=c0)))]] [] (mc (ZkY b.fEnd c0 (.tmp 5) (.tmp 6)))
def Zba(h:List Zaa)(b:Zal):Nat->Int->Int->Option Int|0,_,_=>none|fu+1,j,g=>bif(decide (g<j))then need (0<=g/\g<(h.length:Int))<|(Zly (h.getD g.toNat Zaa.d) b).bind fun o=>bif o then some g else Zba h b fu j (Zan g 1)else some (-1:Int)
theorem Zhq(u:List Zaa)(d:Zal):∀(o:Nat)(g h r:Int),Zba u d o g h=some r->Yr 19 S0 w0 Tryz.f280 (Yj r) [1,0,1,0] ⟨[(0,(Yn u)),(1,.one (l7 281 0 1 [] [.rp false 4 (fun j=>(Zal.c d:List C).getD (0+j) .junk)])),(7,(Yj g)),(8,(Yj h))],[]⟩:=by
 intro o;induction o with
 |zero=>
  intro g h r b;simp[Zba]at b
 |succ o y=>
  intro g h r b;unfold Zba at b;obtain⟨p,b⟩|⟨p,b⟩:=Zah b
  .obtain⟨o2,b⟩:=Zao b;obtain⟨v,z,b⟩:=Zad b;have O1:=(me p o2 (Zts _ _ _ z));obtain⟨t,b⟩|⟨t,b⟩:=Zah b
   .apply Ya b 15 [rz,rz,rA [(5,aB v)],rz] [true,true] (mr O1 t)
   .exact Ye 17 [rz,rz,rA [(5,aB v)],rz] [true,false] (Yi [0,1,7,8]) (mr O1 t) (y g (Zan h 1) r b)
  .apply Ya b 8 [rz,rz] [false] (mc p)
def ZcH(d:List Zaa)(b:Zal):Option Int:=Zba d b (((d.length:Int)-(0:Int)).toNat+2) (d.length:Int) (0:Int)
theorem ZhZ(d:List Zaa)(b:Zal)(r:Int)(g:ZcH d b=some r):Yo 280 [Yn d,.one (l7 281 0 1 [] [.rp false 4 (fun j=>(Zal.c b:List C).getD (0+j) .junk)])] (Yj r):=by
 refine Yv Tryz.func280 fun S0 w0=>?_;unfold ZcH at g;exact Ye 6 [rz,rz] [] (Yi [0,1,7,8]) .n (Zhq S0 w0 d b (((d.length:Int)-(0:Int)).toNat+2) (d.length:Int) (0:Int) r g)
def ZiF(b:List Zaa)(d:Zal):Option Int:=(ZcH b d).bind fun g=>some g
theorem ZmK(d:List Zaa)(g:Zal)(r:Int)(b:ZiF d g=some r):Yo 204 [Yn d,.agg (Zal.c g)] (Yj r):=by
 refine Yv Tryz.func204 fun S0 w0=>?_;unfold ZiF at b;obtain⟨h,j,b⟩:=Zad b;apply Ya b 4 [rz,⟨[(2,aI h)],[],[(1,[3])],[],[],[],[]⟩] [] (mc (ZhZ _ _ _ j))
def Zeq(h:Zaq)(j:Int)(o:Bool):Option (Tout Unit):=(Zcv h (ZaK.mk 3 j (Zay.mk 0 0 0) 0 0 (Zag.mk 0 (Zaa.mk (Zal.mk (Zaf.mk false 0 0) 0) false 0 (ZaD.mk 0 0) 0 0) ([]:(List Zae)) ([]:(List Zac))) o)).bind fun p=>(match p with | .ret t b=>some (Tout.ret () b) | .pan d=>some (Tout.pan d) | .bad g=>some (Tout.bad g))
theorem ZcF(o:Zaq)(p:Int)(t:Bool)(r:(Tout Unit))(b:Zeq o p t=some r):Yq 424 [(100000,.box (Zaq.c o))] [.one (.ptr 100000 0),Yj p,Yk t] (oc (fun x=>.tup []) r):=by
 refine Zio.of Tryz.func424 rfl rfl rfl rfl fun S0 w0=>?_;unfold Zeq at b;obtain⟨u,g,b⟩:=Zad b;cases u with
 |ret h j=>
  dsimp only at b;obtain rfl:=oi b;exact Yd 1 [⟨[],[],[],[],[(3,[(18,cL 5 Zae.c Zae.d []),(19,cL 7 Zac.c Zac.d [])])],[],[(4,⟨[(100000,100000)],[],[(100000,.box (Zaq.c j))],.agg (Zag.c h)⟩)]⟩] [] (lX [] [100000]) (mc (ZbB _ _ _ g))
 |_=>
  dsimp only at b;obtain rfl:=oi b;exact Yh 0 [] [] (⟨[],[],[],[],[(3,[(18,cL 5 Zae.c Zae.d []),(19,cL 7 Zac.c Zac.d [])])],[],[]⟩) 4 ⟨[(100000,100000)],pvOf g⟩ (mc (ZbB _ _ _ g))
def ZjT(j:Zaq)(o:Zay)(p t:Int)(u:Bool):Option (Tout Bool):=(Zcv j (ZaK.mk 7 0 o p t (Zag.mk 0 (Zaa.mk (Zal.mk (Zaf.mk false 0 0) 0) false 0 (ZaD.mk 0 0) 0 0) ([]:(List Zae)) ([]:(List Zac))) u)).bind fun v=>(match v with | .ret b d=>some (Tout.ret (b.fN==(1:Int)) d) | .pan g=>some (Tout.pan g) | .bad h=>some (Tout.bad h))
theorem Zmg(o:Zaq)(p:Zay)(t u:Int)(v:Bool)(r:(Tout Bool))(b:ZjT o p t u v=some r):Yq 430 [(100000,.box (Zaq.c o))] [.one (.ptr 100000 0),.agg (Zay.c p),Yj t,Yj u,Yk v] (oc (fun x=>(Yk x)) r):=by
 refine Zio.of Tryz.func430 rfl rfl rfl rfl fun S0 w0=>?_;unfold ZjT at b;obtain⟨y,g,b⟩:=Zad b;cases y with
 |ret h j=>
  dsimp only at b;obtain rfl:=oi b;exact Yd 4 [rz,⟨[],[],[],[],[(5,[(18,cL 5 Zae.c Zae.d []),(19,cL 7 Zac.c Zac.d [])])],[],[(6,⟨[(100000,100000)],[],[(100000,.box (Zaq.c j))],.agg (Zag.c h)⟩)]⟩] [] (lX [10] [100000]) (mc (ZbB _ _ _ g))
 |_=>
  dsimp only at b;obtain rfl:=oi b;exact Yh 3 [rz] [] (⟨[],[],[],[],[(5,[(18,cL 5 Zae.c Zae.d []),(19,cL 7 Zac.c Zac.d [])])],[],[]⟩) 6 ⟨[(100000,100000)],pvOf g⟩ (mc (ZbB _ _ _ g))
def Zft(y:Int)(z:Bool):Nat->Zaq->Zay->Option (Tout Bool)|0,_,_=>none|fu+1,b,j=>(ZfS b j false).bind fun A=>(match A with | .ret d g=>bif(decide (d.fN>=y))then some (Tout.ret false g)else(ZjT g j d.fN (Zan d.fN (1:Int)) z).bind fun B=>(match B with | .ret o h=>bif o then some (Tout.ret true h)else Zft y z fu h j | .pan p=>some (Tout.pan p) | .bad t=>some (Tout.bad t)) | .pan u=>some (Tout.pan u) | .bad v=>some (Tout.bad v))
theorem Zrg(B:Int)(D:Bool):∀(o:Nat)(b:Zaq)(h:Zay)(r:(Tout Bool)),Zft B D o b h=some r->Good Tryz.prog 24 S0 w0 (bodyPost Tryz.prog Tryz.f205 (ZnE S0 w0 (oc (fun x=>(Yk x)) r))) (at_ [1,1,0] (ZaR Tryz.f205)) ⟨[(0,.one (.ifc 140 (.ptr 100000 0))),(1,(Yj B)),(2,(Yk D)),(7,.one (.ptr 7 0))],[(100000,.box (Zaq.c b)),(7,.box (Zay.c h))]⟩:=by
 intro o;induction o with
 |zero=>
  intro b h r g;simp[Zft]at g
 |succ o E=>
  intro b h r g;unfold Zft at g;obtain⟨F,t,g⟩:=Zad g;cases F with
  |ret u v=>
   dsimp only at g
   let R1:List RA:=[rH [(2,.id 425)] [(2,⟨[(100000,100000)],[],[(100000,.box (Zaq.c v))],.agg (Zag.c u)⟩)],rz]
   have O2:=(md (Zds _ _ _ _ t) ZlH);obtain⟨p,g⟩|⟨p,g⟩:=Zah g
   .obtain rfl:=oi g;exact Yd 10 (R1++[rz]) [true] (lX [6] [100000]) (mr O2 p)
   .obtain⟨G,y,g⟩:=Zad g;cases G with
    |ret z j=>
     dsimp only at g
     let R3:List RA:=(R1++[rH [(6,.id 430)] [(6,⟨[(100000,100000)],[],[(100000,.box (Zaq.c j))],(Yk z)⟩)]])
     have O4:=(mu O2 p (Zmg _ _ _ _ _ _ y) ZzT);obtain⟨A,g⟩|⟨A,g⟩:=Zah g
     .obtain rfl:=oi g;exact Yd 14 (R3++[rz]) [false,true] (lX [6] [100000]) (mr O4 A)
     .exact Ye 15 R3 [false,false] (lX [0,1,2,7] [100000,7]) (mr O4 A) (E j h r g)
    |_=>
     dsimp only at g;obtain rfl:=oi g;exact Yh 10 R1 [false] (rA [(6,.id 430)]) 6 ⟨[(100000,100000)],pvOf y⟩ (mu O2 p (Zmg _ _ _ _ _ _ y) ZzT)
  |_=>
   dsimp only at g;obtain rfl:=oi g;exact Yh 3 [] [] (rA [(2,.id 425)]) 2 ⟨[(100000,100000)],pvOf t⟩ (md (Zds _ _ _ _ t) ZlH)
def Ziq(b:Zaq)(d:Int)(g:Bool):Option (Tout Bool):=Zft d g 1000000 b (Zay.mk 1 0 0)
theorem Zix(b:Zaq)(d:Int)(g:Bool)(r:(Tout Bool))(h:Ziq b d g=some r):Yq 205 [(100000,.box (Zaq.c b))] [.one (.ifc 140 (.ptr 100000 0)),Yj d,Yk g] (oc (fun x=>(Yk x)) r):=by
 refine Zio.of Tryz.func205 rfl rfl rfl rfl fun S0 w0=>?_;unfold Ziq at h;exact Ye 5 [rz,rz] [] (lX [0,1,2,7] [100000,7]) .n (Zrg S0 w0 d g 1000000 b (Zay.mk 1 0 0) r h)
def ZcE(b:List Zaa):Option (List Zaa):=need (0<b.length)<|need ((([]:List Zaa)++b).length * 80<=140737488355328/\(([]:List Zaa)++b).length<=maxLen)<|some (([]:List Zaa)++b)
theorem ZfW(b r:List Zaa)(g:ZcE b=some r):Yp 244 [] [Yn b] [(l5 99999 44 10 Zaa.c Zaa.d r)] (.one (.osl 99999 r.length)):=by
 refine Yw Tryz.func244 fun S0 w0=>?_;unfold ZcE at g;obtain⟨o1,o2,g⟩:=Yt g;apply Yc g 9 [rz,rz,rA [(0,.c ([]:List Zaa).length (Zam Zaa.c Zaa.d ([]:List Zaa))),(2,.c ((([]:List Zaa)++b).length) (Zam Zaa.c Zaa.d (([]:List Zaa)++b)))]] [false] (lZ [2] [7] [(7,99999)]) (mi o1 (mH false) (show ([]:List Zaa).length=0 from rfl) (mI (e:=Zaa.c) Zaa.d 10 (fun _=>rfl) ([]:List Zaa)) (Zdk (sz:=10) (e:=Zaa.c) (d:=Zaa.d) ([]:List Zaa) b) o2.1 o2.2)
theorem Zgw(x:Addr)(cap:Nat)(c:Nat->Nat->C):Yp 244 [] [.one (.lit (.slice (some x) 0 cap))] [(99999,.rows 44 10 0 c)] (.one (.osl 99999 0)):=by
 refine Yw Tryz.func244 fun S0 w0=>?_;exact ZrJ Zak 9 _ _ [⟨[],[],[],[],[],[],[]⟩,⟨[(1,.r (Yk false) [])],[],[],[],[],[],[]⟩,⟨[(0,.c 0 c),(2,.c 0 c)],[],[],[],[],[],[]⟩] [false] (lZ [2] [7] [(7,99999)])
  [∀w,(do eqGuard .eql 54 (.tmp 3) (.const (.slice none 0 0)) (.slice (some x) 0 cap) (.slice none 0 0);binOp .eql 54 (.slice (some x) 0 cap) (.slice none 0 0):Sem Value).run Tryz.prog w=.ok (.bool false) w,false=false,0=0,∀i j,i<0->j<10->c i j=([]:List C).getD (i * 10+j) .junk,Ext 10 0 0 c (fun _ _=>.junk) 0 c,0 * 80<=140737488355328,0<=maxLen] (by kernel_rfl) ⟨fun w=>by
   have hg:(eqGuard .eql 54 (.tmp 3) (.const (.slice none 0 0)) (.slice (some x) 0 cap) (.slice none 0 0)).run Tryz.prog w=.ok () w:=by simp[eqGuard]
   rw[Sem.run_bind,hg,Result.andThen_ok];exact Go.run_eql_slice_nil w _ _ (some x) 0 cap Tryz.underlying54,rfl,rfl,fun i j h=>absurd h (Nat.not_lt_zero i),⟨rfl,fun _ _ h=>absurd h (Nat.not_lt_zero _),fun _ _ h=>absurd h (Nat.not_lt_zero _)⟩,by decide,by decide,trivial⟩
theorem Zgv(cap:Nat)(c:Nat->Nat->C):Yp 244 [] [.one (.lit (.slice none 0 cap))] [(99999,.rows 44 10 0 c)] (.one (.osl 99999 0)):=by
 refine Yw Tryz.func244 fun S0 w0=>?_;exact ZrJ Zak 8 _ _ [⟨[],[],[],[],[],[],[]⟩,⟨[(1,.r (Yk true) [])],[],[],[],[],[],[]⟩,⟨[],[],[],[],[],[],[]⟩] [true] ⟨[],[],[],[],[(2,99999,44,10,c)],[2],[99999],[]⟩
  [∀w,(do eqGuard .eql 54 (.tmp 3) (.const (.slice none 0 0)) (.slice none 0 cap) (.slice none 0 0);binOp .eql 54 (.slice none 0 cap) (.slice none 0 0):Sem Value).run Tryz.prog w=.ok (.bool true) w,true=true] (by kernel_rfl) ⟨fun w=>by
   have hg:(eqGuard .eql 54 (.tmp 3) (.const (.slice none 0 0)) (.slice none 0 cap) (.slice none 0 0)).run Tryz.prog w=.ok () w:=by simp[eqGuard]
   rw[Sem.run_bind,hg,Result.andThen_ok];exact Go.run_eql_slice_nil w _ _ none 0 cap Tryz.underlying54,rfl,trivial⟩
def Zbi(b:List Zaa):Option (List Zaa):=need (b.length * 80<=140737488355328/\b.length<=maxLen)<|some b
theorem ZdC(b r:List Zaa)(g:Zbi b=some r):Yp 244 [] [Yn b] [(99999,.rows 44 10 r.length (Zam Zaa.c Zaa.d r))] (.one (.osl 99999 r.length)):=by
 obtain⟨o1,g⟩:=Zao g;cases g;refine ZCs ⟨_,Tryz.func244,rfl,rfl⟩ (fun h cap=>?_) (fun h x cap=>?_) (fun h=>?_)
 .rw[h];exact Zgv cap _
 .rw[h];exact Zgw x cap _
 .refine ZfW b b ?_;unfold ZcE;rw[ZDi h,ZDi (by simpa using o1)];simp
def Zqu(b:Int):Option Int:=some (if(1099511627776:Int)<(if(0:Int)>b then(0:Int)else b)then(1099511627776:Int)else(if(0:Int)>b then(0:Int)else b))
theorem ZAf(b r:Int)(d:Zqu b=some r):Yo 190 [Yj b] (Yj r):=by
 refine Yv Tryz.func190 fun S0 w0=>?_;unfold Zqu at d;apply Ya d 4 [rz,rz] [] .n
def Zox(d:Zal)(g:Bool)(h:Int):Option Zaa:=(Zqu h).bind fun b=>some (Zaa.mk d g b (ZaD.mk 0 b) 0 0)
theorem ZyA(d:Zal)(g:Bool)(h:Int)(r:Zaa)(b:Zox d g h=some r):Yo 283 [.agg (Zal.c d),Yk g,Yj h] (.agg (Zaa.c r)):=by
 refine Yv Tryz.func283 fun S0 w0=>?_;unfold Zox at b;obtain⟨j,o,b⟩:=Zad b;apply Ya b 6 [rz,rA [(1,aI j)],rz] [] (mc (ZAf _ _ o))
def Zez(g:Zbj)(h:List Zaa):Option (List Zaa):=(Zbi h).bind fun b=>(Zox g.fx.fEnd true g.fx.fNow).bind fun d=>need ((b++([d]:List Zaa)).length * 80<=140737488355328/\(b++([d]:List Zaa)).length<=maxLen)<|some (b++([d]:List Zaa))
theorem ZqC(o:Zbj)(p r:List Zaa)(g:Zez o p=some r):Yp 207 [] [.agg (Zbj.c o),Yn p] [(l5 99999 44 10 Zaa.c Zaa.d r)] (.one (.osl 99999 r.length)):=by
 refine Yw Tryz.func207 fun S0 w0=>?_;unfold Zez at g;obtain⟨h,b,u,v,g⟩:=Yu g;obtain⟨t,g⟩:=Zao g;apply Yc g 4 [rz,⟨[(8,aG (Zaa.c b)),(10,.c ((h++([b]:List Zaa)).length) (Zam Zaa.c Zaa.d (h++([b]:List Zaa))))],[],[],[],[],[(9,(([b]:List Zaa).length,Zam Zaa.c Zaa.d ([b]:List Zaa)))],[(1,⟨[],[(99999,6)],[(l5 99999 44 10 Zaa.c Zaa.d h)],.one (.osl 99999 h.length)⟩)]⟩] [] (lZ [4] [15] [(15,99999)]) (mh (ZdC _ _ u) (ZyA _ _ _ _ v) (mF (e:=Zaa.c) Zaa.d 10 (fun _=>rfl) ([b]:List Zaa)) (Zdk (sz:=10) (e:=Zaa.c) (d:=Zaa.d) h ([b]:List Zaa)) t.1 t.2)
theorem Zjv(b:Zbj)(d r:List Zaa)(g:Zez b d=some r):Yo 207 [.agg (Zbj.c b),Yn d] (Yn r):=(ZqC b d r g).pure
def Zdn(h:List Zaa):Nat->(List Zaa)->Int->Int->(List Int)->Option (List Int)|0,_,_,_,_=>none|fu+1,j,o,b,g=>bif(decide (b<o))then need (0<=b/\b<(j.length:Int))<|bif(decide (b>=(h.length:Int)))then need ((g++([b]:List Int)).length * 8<=140737488355328/\(g++([b]:List Int)).length<=maxLen)<|Zdn h fu j o (Zan b 1) (g++([b]:List Int))else need (0<=b/\b<(h.length:Int))<|bif(!(decide ((h.getD b.toNat Zaa.d)=(j.getD b.toNat Zaa.d))))then need ((g++([b]:List Int)).length * 8<=140737488355328/\(g++([b]:List Int)).length<=maxLen)<|Zdn h fu j o (Zan b 1) (g++([b]:List Int))else Zdn h fu j o (Zan b 1) g else some g
theorem Zrj(t:List Zaa):∀(u:Nat)(o:List Zaa)(p b:Int)(h r:List Int),Zdn t u o p b h=some r->Ys 33 S0 w0 Tryz.f282 [(l5 99999 3 1 l9 (0:Int) r)] (.one (.osl 99999 r.length)) [1,1,0,1,0] ⟨[(0,(Yn t)),(5,.one (.osl 5 h.length)),(8,(Yn o)),(9,(Yj p)),(10,(Yj b))],[(l5 5 3 1 l9 (0:Int) h)]⟩:=by
 intro u;induction u with
 |zero=>
  intro o p b h r g;simp[Zdn]at g
 |succ u y=>
  intro o p b h r g;unfold Zdn at g;obtain⟨v,g⟩|⟨v,g⟩:=Zah g
  .obtain⟨o2,g⟩:=Zao g;obtain⟨z,g⟩|⟨z,g⟩:=Zah g
   .obtain⟨B,g⟩:=Zao g;exact Ye 17 [rz,rz,rB [(4,true)],⟨[(3,.c ((h++([b]:List Int)).length) (Zam l9 (0:Int) (h++([b]:List Int))))],[],[],[],[],[(2,(([b]:List Int).length,Zam l9 (0:Int) ([b]:List Int)))],[]⟩,rz] [true,true] (lZ [0,5,8,9,10] [30] [(30,5)]) (mj v o2 z (mH true) (mF (e:=l9) (0:Int) 1 (fun _=>rfl) ([b]:List Int)) (Zdk (sz:=1) (e:=l9) (d:=(0:Int)) h ([b]:List Int)) B.1 B.2) (y o p (Zan b 1) (h++([b]:List Int)) r g)
   .obtain⟨E,g⟩:=Zao g
    let R1:List RA:=[rz,rz,⟨[(10,aB (!(decide ((t.getD b.toNat Zaa.d)=(o.getD b.toNat Zaa.d)))))],[(4,false)],[],[],[],[],[]⟩]
    have O2:=(mg v o2 z E (Zrx (t.getD b.toNat Zaa.d) (o.getD b.toNat Zaa.d) (.tmp 23) (.tmp 24)));obtain⟨A,g⟩|⟨A,g⟩:=Zah g
    .obtain⟨D,g⟩:=Zao g;exact Ye 17 (R1++[⟨[(3,.c ((h++([b]:List Int)).length) (Zam l9 (0:Int) (h++([b]:List Int))))],[],[],[],[],[(2,(([b]:List Int).length,Zam l9 (0:Int) ([b]:List Int)))],[]⟩,rz]) [true,true] (lZ [0,5,8,9,10] [30] [(30,5)]) (my O2 A (mF (e:=l9) (0:Int) 1 (fun _=>rfl) ([b]:List Int)) (Zdk (sz:=1) (e:=l9) (d:=(0:Int)) h ([b]:List Int)) D.1 D.2) (y o p (Zan b 1) (h++([b]:List Int)) r g)
    .exact Ye 17 (R1++[rz]) [true,false] (lX [0,5,8,9,10] [5]) (mr O2 A) (y o p (Zan b 1) h r g)
  .apply Yc g 8 [rz,rz] [false] (lZ [4] [5] [(5,99999)]) (mc v)
def ZjK(d b:List Zaa):Option (List Int):=Zdn d (((b.length:Int)-(0:Int)).toNat+2) b (b.length:Int) (0:Int) ([])
theorem ZsD(d b:List Zaa)(r:List Int)(g:ZjK d b=some r):Yp 282 [] [Yn d,Yn b] [(l5 99999 3 1 l9 (0:Int) r)] (.one (.osl 99999 r.length)):=by
 refine Yw Tryz.func282 fun S0 w0=>?_;unfold ZjK at g;exact Ye 8 [rz,rz,rz] [] ⟨[],[],[],[],[(5,5,3,1,Zam l9 (0:Int) [])],[0,5,8,9,10],[5],[]⟩ .n (Zrj S0 w0 d (((b.length:Int)-(0:Int)).toNat+2) b (b.length:Int) (0:Int) ([]) r g)
theorem Ztw(b d:List Zaa)(r:List Int)(g:ZjK b d=some r):Yo 282 [Yn b,Yn d] (.one (cL 1 l9 (0:Int) r)):=(ZsD b d r g).pure
def ZhD(h:Zaq)(j:Zay)(o:Zag)(p:Bool):Option (Tout Unit):=(Zcv h (ZaK.mk 6 0 j 0 0 o p)).bind fun t=>(match t with | .ret u b=>some (Tout.ret () b) | .pan d=>some (Tout.pan d) | .bad g=>some (Tout.bad g))
theorem ZgV(j:Zaq)(o:Zay)(p:Zag)(t:Bool)(r:(Tout Unit))(b:ZhD j o p t=some r):Yq 429 [(100000,.box (Zaq.c j))] [.one (.ptr 100000 0),.agg (Zay.c o),.agg (Zag.c p),Yk t] (oc (fun x=>.tup []) r):=by
 refine Zio.of Tryz.func429 rfl rfl rfl rfl fun S0 w0=>?_;unfold ZhD at b;obtain⟨u,d,b⟩:=Zad b;cases u with
 |ret g h=>
  dsimp only at b;obtain rfl:=oi b;exact Yd 3 [rz,rH [] [(5,⟨[(100000,100000)],[],[(100000,.box (Zaq.c h))],.agg (Zag.c g)⟩)]] [] (lX [] [100000]) (mc (ZbB _ _ _ d))
 |_=>
  dsimp only at b;obtain rfl:=oi b;exact Yh 2 [rz] [] (rz) 5 ⟨[(100000,100000)],pvOf d⟩ (mc (ZbB _ _ _ d))
def ZfG(p:Int)(B j:List Zaa):Nat->(List Int)->Int->Int->Zaq->Option (Tout Unit)|0,_,_,_,_=>none|fu+1,h,o,g,b=>bif(decide (g<o))then need (0<=g/\g<(h.length:Int))<|(Zll p (h.getD g.toNat (0:Int))).bind fun D=>need (0<=(h.getD g.toNat (0:Int))/\(h.getD g.toNat (0:Int))<(j.length:Int))<|(ZhD b D (Zag.mk 0 (j.getD (h.getD g.toNat (0:Int)).toNat Zaa.d) ([]:(List Zae)) ([]:(List Zac))) false).bind fun E=>(match E with | .ret F t=>ZfG p B j fu h o (Zan g 1) t | .pan u=>some (Tout.pan u) | .bad v=>some (Tout.bad v))else bif((B.length:Int) != (j.length:Int))then(Zlm p).bind fun G=>(ZhD b G (Zag.mk (j.length:Int) (Zaa.mk (Zal.mk (Zaf.mk false 0 0) 0) false 0 (ZaD.mk 0 0) 0 0) ([]:(List Zae)) ([]:(List Zac))) false).bind fun H=>(match H with | .ret I y=>some (Tout.ret () y) | .pan z=>some (Tout.pan z) | .bad A=>some (Tout.bad A))else some (Tout.ret () b)
theorem ZsC(B:Int)(D E:List Zaa):∀(t:Nat)(h:List Int)(j o:Int)(g:Zaq)(r:(Tout Unit)),ZfG B D E t h j o g=some r->Good Tryz.prog 47 S0 w0 (bodyPost Tryz.prog Tryz.f206 (ZnE S0 w0 (oc (fun x=>.tup []) r))) (at_ [0,1,0] (ZaR Tryz.f206)) ⟨[(0,.one (.ifc 140 (.ptr 100000 0))),(1,(Yj B)),(2,(Yn D)),(3,(Yn E)),(12,.one (cL 1 l9 (0:Int) h)),(13,(Yj j)),(14,(Yj o))],[(100000,.box (Zaq.c g))]⟩:=by
 intro t;induction t with
 |zero=>
  intro h j o g r b;simp[ZfG]at b
 |succ t H=>
  intro h j o g r b;unfold ZfG at b;obtain⟨u,b⟩|⟨u,b⟩:=Zah b
  .obtain⟨I,b⟩:=Zao b;obtain⟨F,J,b⟩:=Zad b;obtain⟨L,b⟩:=Zao b;have O1:=(mg u I (Zry _ _ _ J) L Zvj);obtain⟨M,v,b⟩:=Zad b;cases M with
   |ret O p=>
    dsimp only at b;exact Ye 14 [rz,rz,⟨[(3,aG (Zay.c F)),(12,.id 429)],[],[],[],[(8,[(11,cL 5 Zae.c Zae.d []),(12,cL 7 Zac.c Zac.d [])])],[],[(12,⟨[(100000,100000)],[],[(100000,.box (Zaq.c p))],.tup []⟩)]⟩,rz] [true] (lX [0,1,2,3,12,13,14] [100000]) (mt O1 (ZgV _ _ _ _ _ v) ZqV) (H h j (Zan o 1) p r b)
   |_=>
    dsimp only at b;obtain rfl:=oi b;exact Yh 10 [rz,rz] [true] (⟨[(3,aG (Zay.c F)),(12,.id 429)],[],[],[],[(8,[(11,cL 5 Zae.c Zae.d []),(12,cL 7 Zac.c Zac.d [])])],[],[]⟩) 12 ⟨[(100000,100000)],pvOf v⟩ (mt O1 (ZgV _ _ _ _ _ v) ZqV)
  .obtain⟨y,b⟩|⟨y,b⟩:=Zah b
   .obtain⟨G,R,b⟩:=Zad b;have O2:=(mf u y (Zrz _ _ R) Zvj);obtain⟨U,z,b⟩:=Zad b;cases U with
    |ret W A=>
     dsimp only at b;obtain rfl:=oi b;exact Yd 10 [rz,rz,⟨[(2,aG (Zay.c G)),(9,.id 429)],[],[],[],[(5,[(11,cL 5 Zae.c Zae.d []),(12,cL 7 Zac.c Zac.d [])])],[],[(9,⟨[(100000,100000)],[],[(100000,.box (Zaq.c A))],.tup []⟩)]⟩] [false,true] (lX [] [100000]) (mt O2 (ZgV _ _ _ _ _ z) ZqV)
    |_=>
     dsimp only at b;obtain rfl:=oi b;exact Yh 9 [rz,rz] [false,true] (⟨[(2,aG (Zay.c G)),(9,.id 429)],[],[],[],[(5,[(11,cL 5 Zae.c Zae.d []),(12,cL 7 Zac.c Zac.d [])])],[],[]⟩) 9 ⟨[(100000,100000)],pvOf z⟩ (mt O2 (ZgV _ _ _ _ _ z) ZqV)
   .obtain rfl:=oi b;exact Yd 10 [rz,rz] [false,false] (lX [] [100000]) (md u y)
def ZhQ(h:Zaq)(j:Int)(d g:List Zaa):Option (Tout Unit):=(ZjK d g).bind fun b=>ZfG j d g (((b.length:Int)-(0:Int)).toNat+2) b (b.length:Int) (0:Int) h
theorem Zer(g:Zaq)(h:Int)(j o:List Zaa)(r:(Tout Unit))(b:ZhQ g h j o=some r):Yq 206 [(100000,.box (Zaq.c g))] [.one (.ifc 140 (.ptr 100000 0)),Yj h,Yn j,Yn o] (oc (fun x=>.tup []) r):=by
 refine Zio.of Tryz.func206 rfl rfl rfl rfl fun S0 w0=>?_;unfold ZhQ at b;obtain⟨d,p,b⟩:=Zad b;exact Ye 4 [rA [(2,.r (.one (cL 1 l9 (0:Int) d)) [])]] [] (lX [0,1,2,3,12,13,14] [100000]) (mc (Ztw _ _ _ p)) (ZsC S0 w0 h j o (((d.length:Int)-(0:Int)).toNat+2) d (d.length:Int) (0:Int) g r b)
def Zhd(z:Zbj)(a1:Zaq):Option (Tout (Zau×Bool)):=(ZgA z).bind fun g=>(Zil a1 (Zan (2:Int) g) false).bind fun x2=>(match x2 with | .ret x2v A=>(Zln A g).bind fun x3=>(match x3 with | .ret b h=>(ZiF b z.fx.fEnd).bind fun x4=>bif(decide (x4>=(0:Int)))then(Zeq h (Zan (2:Int) g) true).bind fun x5=>(match x5 with | .ret x5v B=>(ZhI (7:Int)).bind fun x6=>some (Tout.ret (x6,true) B) | .pan D=>some (Tout.pan D) | .bad E=>some (Tout.bad E))else(Ziq h z.fc.fMaxIn true).bind fun x7=>(match x7 with | .ret d j=>bif d then(Zez z b).bind fun x8=>(ZhQ j g b x8).bind fun x9=>(match x9 with | .ret x9v F=>(Zeq F (Zan (2:Int) g) false).bind fun G=>(match G with | .ret Z o=>some (Tout.ret ((Zau.mk 0 (Zal.mk (Zaf.mk false 0 0) 0) 0 0 ([]:(List Zaa))),d) o) | .pan p=>some (Tout.pan p) | .bad t=>some (Tout.bad t)) | .pan H=>some (Tout.pan H) | .bad I=>some (Tout.bad I))else(Zeq j (Zan (2:Int) g) false).bind fun J=>(match J with | .ret x11v u=>some (Tout.ret ((Zau.mk 0 (Zal.mk (Zaf.mk false 0 0) 0) 0 0 ([]:(List Zaa))),d) u) | .pan v=>some (Tout.pan v) | .bad y=>some (Tout.bad y)) | .pan L=>some (Tout.pan L) | .bad M=>some (Tout.bad M)) | .pan O=>some (Tout.pan O) | .bad R=>some (Tout.bad R)) | .pan U=>some (Tout.pan U) | .bad W=>some (Tout.bad W))
theorem Zlg(O:Zbj)(R:Zaq)(r:(Tout (Zau×Bool)))(b:Zhd O R=some r):Yq 129 [(100000,.box (Zaq.c R))] [.agg (Zbj.c O),.one (.ifc 140 (.ptr 100000 0))] (oc (fun x=>.tup [(true,Zau.c x.1),(false,cB x.2)]) r):=by
 refine Zio.of Tryz.func129 rfl rfl rfl rfl fun S0 w0=>?_;unfold Zhd at b;obtain⟨U,x2,W,v,b⟩:=Yu b;cases x2 with
 |ret x2v y=>
  dsimp only at b
  let R1:List RA:=[rz,rA [(1,aI U)],rH [(3,.id 426)] [(3,⟨[(100000,100000)],[],[(100000,.box (Zaq.c y))],.tup []⟩)]]
  have O2:=(me (Zjw _ _ W) (Zhs _ _ _ _ v) Zsr);obtain⟨x3,z,b⟩:=Zad b;cases x3 with
  |ret A B=>
   dsimp only at b;obtain⟨x4,q4,b⟩:=Zad b
   let R3:List RA:=(R1++[rH [] [(2,⟨[(100000,100000)],[],[(100000,.box (Zaq.c B))],(Yn A)⟩)],rA [(4,aI x4)]])
   have O4:=(mt O2 (Zky _ _ _ z) (ZmK _ _ _ q4));obtain⟨o,b⟩|⟨o,b⟩:=Zah b
   .obtain⟨x5,D,b⟩:=Zad b;cases x5 with
    |ret x5v E=>
     dsimp only at b;obtain⟨x6,q7,b⟩:=Zad b;obtain rfl:=oi b;exact Yd 16 (R3++[rH [(3,.id 424)] [(3,⟨[(100000,100000)],[],[(100000,.box (Zaq.c E))],.tup []⟩)],rA [(0,aG (Zau.c x6))]]) [true] (lX [4,5] [4,100000]) (mw O4 o (ZcF _ _ _ _ D) ZjA (ZiA _ _ q7))
    |_=>
     dsimp only at b;obtain rfl:=oi b;exact Yh 13 R3 [true] (rA [(3,.id 424)]) 3 ⟨[(100000,100000)],pvOf D⟩ (mu O4 o (ZcF _ _ _ _ D) ZjA)
   .obtain⟨x7,F,b⟩:=Zad b;cases x7 with
    |ret G H=>
     dsimp only at b
     let R5:List RA:=(R3++[rH [] [(4,⟨[(100000,100000)],[],[(100000,.box (Zaq.c H))],(Yk G)⟩)],rz])
     have O6:=(mt O4 o (Zix _ _ _ _ F));obtain⟨u,b⟩|⟨u,b⟩:=Zah b
     .obtain⟨Z,I,b⟩:=Zad b;have O7:=(mt O6 u (Zjv _ _ _ I));obtain⟨x9,g,b⟩:=Zad b;cases x9 with
      |ret x9v J=>
       dsimp only at b
       let R8:List RA:=(R5++[rH [(5,.r (Yn Z) [])] [(6,⟨[(100000,100000)],[],[(100000,.box (Zaq.c J))],.tup []⟩)]])
       obtain⟨L,h,b⟩:=Zad b;cases L with
       |ret x10v p=>
        dsimp only at b;obtain rfl:=oi b;exact Yd 24 (R8++[rH [(3,.id 424)] [(3,⟨[(100000,100000)],[],[(100000,.box (Zaq.c p))],.tup []⟩)],rz]) [false,true] (lY [(4,[(7,cL 10 Zaa.c Zaa.d [])])] [4,5] [4,100000]) (mu O7 (Zer _ _ _ _ _ g) (ZcF _ _ _ _ h) ZjA)
       |_=>
        dsimp only at b;obtain rfl:=oi b;exact Yh 21 R8 [false,true] (rA [(3,.id 424)]) 3 ⟨[(100000,100000)],pvOf h⟩ (mu O7 (Zer _ _ _ _ _ g) (ZcF _ _ _ _ h) ZjA)
      |_=>
       dsimp only at b;obtain rfl:=oi b;exact Yh 19 R5 [false,true] (rA [(5,.r (Yn Z) [])]) 6 ⟨[(100000,100000)],pvOf g⟩ (mr O7 (Zer _ _ _ _ _ g))
     .obtain⟨M,j,b⟩:=Zad b;cases M with
      |ret x11v t=>
       dsimp only at b;obtain rfl:=oi b;exact Yd 24 (R5++[rH [(3,.id 424)] [(3,⟨[(100000,100000)],[],[(100000,.box (Zaq.c t))],.tup []⟩)],rz]) [false,false] (lY [(4,[(7,cL 10 Zaa.c Zaa.d [])])] [4,5] [4,100000]) (mu O6 u (ZcF _ _ _ _ j) ZjA)
      |_=>
       dsimp only at b;obtain rfl:=oi b;exact Yh 21 R5 [false,false] (rA [(3,.id 424)]) 3 ⟨[(100000,100000)],pvOf j⟩ (mu O6 u (ZcF _ _ _ _ j) ZjA)
    |_=>
     dsimp only at b;obtain rfl:=oi b;exact Yh 14 R3 [false] (rz) 4 ⟨[(100000,100000)],pvOf F⟩ (mt O4 o (Zix _ _ _ _ F))
  |_=>
   dsimp only at b;obtain rfl:=oi b;exact Yh 7 R1 [] (rz) 2 ⟨[(100000,100000)],pvOf z⟩ (mr O2 (Zky _ _ _ z))
 |_=>
  dsimp only at b;obtain rfl:=oi b;exact Yh 5 [rz,rA [(1,aI U)]] [] (rA [(3,.id 426)]) 3 ⟨[(100000,100000)],pvOf v⟩ (me (Zjw _ _ W) (Zhs _ _ _ _ v) Zsr)
def ZiE(b:Int):Option Int:=some (if(8:Int)<(if(1:Int)>b then(1:Int)else b)then(8:Int)else(if(1:Int)>b then(1:Int)else b))
theorem ZmJ(b r:Int)(d:ZiE b=some r):Yo 284 [Yj b] (Yj r):=by
 refine Yv Tryz.func284 fun S0 w0=>?_;unfold ZiE at d;apply Ya d 4 [rz,rz] [] .n
def Zew:Nat->Int->Int->Zaq->Option (Tout Unit)|0,_,_,_=>none|fu+1,o,d,b=>bif(decide (d<o))then(Zil b (Zan (2:Int) d) false).bind fun p=>(match p with | .ret t g=>Zew fu o (Zan d 1) g | .pan h=>some (Tout.pan h) | .bad j=>some (Tout.bad j))else some (Tout.ret () b)
theorem Zrh:∀(p:Nat)(h j:Int)(b:Zaq)(r:(Tout Unit)),Zew p h j b=some r->Good Tryz.prog 15 S0 w0 (bodyPost Tryz.prog Tryz.f208 (ZnE S0 w0 (oc (fun x=>.tup []) r))) (at_ [1,0] (ZaR Tryz.f208)) ⟨[(0,.one (.ifc 140 (.ptr 100000 0))),(6,(Yj h)),(7,(Yj j))],[(100000,.box (Zaq.c b))]⟩:=by
 intro p;induction p with
 |zero=>
  intro h j b r g;simp[Zew]at g
 |succ p v=>
  intro h j b r g;unfold Zew at g;obtain⟨t,g⟩|⟨t,g⟩:=Zah g
  .obtain⟨y,u,g⟩:=Zad g;cases y with
   |ret z o=>
    dsimp only at g;exact Ye 14 [rz,rz,rH [(3,.id 426)] [(3,⟨[(100000,100000)],[],[(100000,.box (Zaq.c o))],.tup []⟩)],rz] [true] (lX [0,6,7] [100000]) (me t (Zhs _ _ _ _ u) Zsr) (v h (Zan j 1) o r g)
   |_=>
    dsimp only at g;obtain rfl:=oi g;exact Yh 10 [rz,rz] [true] (rA [(3,.id 426)]) 3 ⟨[(100000,100000)],pvOf u⟩ (me t (Zhs _ _ _ _ u) Zsr)
  .obtain rfl:=oi g;exact Yd 6 [rz] [false] (lX [] [100000]) (mc t)
def ZjC(d:Zaq)(g:Int):Option (Tout Unit):=(ZiE g).bind fun b=>Zew ((b-(0:Int)).toNat+2) b (0:Int) d
theorem ZnL(d:Zaq)(h:Int)(r:(Tout Unit))(b:ZjC d h=some r):Yq 208 [(100000,.box (Zaq.c d))] [.one (.ifc 140 (.ptr 100000 0)),Yj h] (oc (fun x=>.tup []) r):=by
 refine Zio.of Tryz.func208 rfl rfl rfl rfl fun S0 w0=>?_;unfold ZjC at b;obtain⟨g,j,b⟩:=Zad b;exact Ye 3 [rA [(1,aI g)]] [] (lX [0,6,7] [100000]) (mc (ZmJ _ _ j)) (Zrh S0 w0 ((g-(0:Int)).toNat+2) g (0:Int) d r b)
def Zcd(b:Int):Option (List Zaa):=need (0<=b/\b * 80<=140737488355328/\b<=4611686018427387904)<|some []
theorem ZgB(b:Int)(r:List Zaa)(g:Zcd b=some r):Yp 334 [] [.one (.lit (.slice none 0 0)),Yj b] [(l5 99999 44 10 Zaa.c Zaa.d r)] (.one (.osl 99999 r.length)):=by
 obtain⟨⟨o1,o2,j⟩,g⟩:=Zao g;cases g;obtain⟨i0,hi0,dL,hzb,hz0⟩:=ZKR.info (t:=44) (show Zff tab 44=some _ from rfl);obtain⟨n,rfl⟩ : ∃n:Nat,b=n:=⟨b.toNat,by omega⟩;refine ZGI (enc:=Zaa.c) (d:=Zaa.d) ⟨_,Tryz.func334,rfl,rfl⟩ n (fun h w=>?_) fun h w=>?_
 .subst h;exact Any8.slices_Grow_room ZGJ none 0 0 0 w (by decide) (by decide) (by decide) (by decide)
 .refine(Any8.slices_Grow_grow ZGJ i0 _ hi0 hz0 (by rw[dL];decide) none 0 0 n [] w (Nat.le_refl _) (by omega) (by rw[hzb];simp only at o2 ⊢;omega) (by omega) (by simp) (fun _=>rfl) (fun a h=>by cases h)).mono ?_;rintro e w' ⟨rfl,rfl⟩;refine⟨_,_,rfl,rfl,?_,grownCap_le_maxLen w _ _ _ (by unfold maxLen;omega)⟩;have hz:∀(z:Array Value)(G:Nat),z.size=10->0+n<=G->((([]:List Value).toArray++Builtin.zeroCells z (0+n-0)++Builtin.zeroCells z (G-(0+n))):Array Value).size=G * 10:=fun z G hz hG=>by
   simp only[Array.size_append,size_zeroCells,hz];simp;omega
  exact hz _ _ rfl (grownCap_ge w _ _ _)
def Zbr(p:(List (List Zaa)))(t:Int)(u:(List (List Zaa)))(j o:Int)(aw:Int->(List (List Zaa))->Int->Int->Option (List Zaa)):Nat->(List (List Zaa))->Int->Int->(List Zaa)->Option (List Zaa)|0,_,_,_,_=>none|fu+1,d,g,b,h=>bif(decide (b<g))then need (0<=b/\b<(d.length:Int))<|need ((h++(d.getD b.toNat ([]:(List Zaa)))).length * 80<=140737488355328/\(h++(d.getD b.toNat ([]:(List Zaa)))).length<=maxLen)<|Zbr p t u j o aw fu d g (Zan b 1) (h++(d.getD b.toNat ([]:(List Zaa))))else some h
theorem ZiI(y:(List (List Zaa)))(A:Int)(B:(List (List Zaa)))(t u:Int)(aw:Int->(List (List Zaa))->Int->Int->Option (List Zaa))(bZ:∀(el:Int)(gO:(List (List Zaa)))(dC dD:Int)(r:List Zaa),aw el gO dC dD=some r->Ys 36 S0 w0 Tryz.f285 [(l5 99999 44 10 Zaa.c Zaa.d r)] (.one (.osl 99999 r.length)) [1,1,0,1,0] ⟨[(0,.one (cL 1 (cLs 10 Zaa.c Zaa.d) ([]:(List Zaa)) y)),(3,(Yj el)),(9,.one (cL 1 (cLs 10 Zaa.c Zaa.d) ([]:(List Zaa)) gO)),(10,(Yj dC)),(11,(Yj dD))],[]⟩):∀(p:Nat)(b:(List (List Zaa)))(h g:Int)(j r:List Zaa),Zbr y A B t u aw p b h g j=some r->Ys 36 S0 w0 Tryz.f285 [(l5 99999 44 10 Zaa.c Zaa.d r)] (.one (.osl 99999 r.length)) [1,1,1,1,0,1,0] ⟨[(6,.one (.osl 6 j.length)),(25,.one (cL 1 (cLs 10 Zaa.c Zaa.d) ([]:(List Zaa)) b)),(26,(Yj h)),(27,(Yj g))],[(l5 6 44 10 Zaa.c Zaa.d j)]⟩:=by
 intro p;induction p with
 |zero=>
  intro b h g j r o;simp[Zbr]at o
 |succ p D=>
  intro b h g j r o;unfold Zbr at o;obtain⟨v,o⟩|⟨v,o⟩:=Zah o
  .obtain⟨E,z,o⟩:=Yt o;exact Ye 14 [rz,rz,rA [(2,.c ((j++(b.getD g.toNat ([]:(List Zaa)))).length) (Zam Zaa.c Zaa.d (j++(b.getD g.toNat ([]:(List Zaa))))))],rz] [true] (lZ [6,25,26,27] [33] [(33,6)]) (mg v E (Zdk (sz:=10) (e:=Zaa.c) (d:=Zaa.d) j (b.getD g.toNat ([]:(List Zaa)))) z.1 z.2) (D b h (Zan g 1) (j++(b.getD g.toNat ([]:(List Zaa)))) r o)
  .apply Yc o 8 [rz,rz] [false] (lZ [2] [6] [(6,99999)]) (mc v)
def ZaV(g:(List (List Zaa))):Nat->Int->(List (List Zaa))->Int->Int->Option (List Zaa)|0,_,_,_,_=>none|fu+1,j,h,d,b=>bif(decide (b<d))then need (0<=b/\b<(h.length:Int))<|bif(decide ((Zan j (((h.getD b.toNat ([]:(List Zaa))).length:Nat):Int))<(0:Int)))then none else ZaV g fu (Zan j (((h.getD b.toNat ([]:(List Zaa))).length:Nat):Int)) h d (Zan b 1)else(Zcd j).bind fun o=>Zbr g j h d b (ZaV g fu) (((g.length:Int)-(0:Int)).toNat+2) g (g.length:Int) (0:Int) o
theorem ZiJ(j:(List (List Zaa))):∀(t:Nat)(p:Int)(o:(List (List Zaa)))(h g:Int)(r:List Zaa),ZaV j t p o h g=some r->Ys 36 S0 w0 Tryz.f285 [(l5 99999 44 10 Zaa.c Zaa.d r)] (.one (.osl 99999 r.length)) [1,1,0,1,0] ⟨[(0,.one (cL 1 (cLs 10 Zaa.c Zaa.d) ([]:(List Zaa)) j)),(3,(Yj p)),(9,.one (cL 1 (cLs 10 Zaa.c Zaa.d) ([]:(List Zaa)) o)),(10,(Yj h)),(11,(Yj g))],[]⟩:=by
 intro t;induction t with
 |zero=>
  intro p o h g r b;simp[ZaV]at b
 |succ t y=>
  intro p o h g r b;unfold ZaV at b;obtain⟨v,b⟩|⟨v,b⟩:=Zah b
  .obtain⟨o2,b⟩:=Zao b;obtain⟨z,b⟩|⟨z,b⟩:=Zah b
   .cases b
   .exact Ye 19 [rz,rz,rz,rz,rz] [true,false] (Yi [0,3,9,10,11]) (me v o2 z) (y (Zan p (((o.getD g.toNat ([]:(List Zaa))).length:Nat):Int)) o h (Zan g 1) r b)
  .obtain⟨u,A,b⟩:=Zad b;exact Ye 12 [rz,rH [] [(1,⟨[],[(99999,24)],[(l5 99999 44 10 Zaa.c Zaa.d u)],.one (.osl 99999 u.length)⟩)],rz] [false] (lZ [6,25,26,27] [24] [(24,6)]) (md v (ZgB _ _ A)) (ZiI S0 w0 j p o h g (ZaV j t) y (((j.length:Int)-(0:Int)).toNat+2) j (j.length:Int) (0:Int) u r b)
def ZcJ(b:(List (List Zaa))):Option (List Zaa):=ZaV b (((b.length:Int)-(0:Int)).toNat+2) (0:Int) b (b.length:Int) (0:Int)
theorem Zjs(b:(List (List Zaa)))(r:List Zaa)(g:ZcJ b=some r):Yp 285 [] [.one (cL 1 (cLs 10 Zaa.c Zaa.d) ([]:(List Zaa)) b)] [(l5 99999 44 10 Zaa.c Zaa.d r)] (.one (.osl 99999 r.length)):=by
 refine Yw Tryz.func285 fun S0 w0=>?_;unfold ZcJ at g;exact Ye 8 [rz,rz,rz] [] (Yi [0,3,9,10,11]) .n (ZiJ S0 w0 b (((b.length:Int)-(0:Int)).toNat+2) (0:Int) b (b.length:Int) (0:Int) r g)
def ZeK:Nat->(List Zaa)->Int->Int->(List Zaa)->Option (List Zaa)|0,_,_,_,_=>none|fu+1,g,j,b,h=>bif(decide (b<j))then need (0<=b/\b<(g.length:Int))<|bif(g.getD b.toNat Zaa.d).fIn then need ((h++([(g.getD b.toNat Zaa.d)]:List Zaa)).length * 80<=140737488355328/\(h++([(g.getD b.toNat Zaa.d)]:List Zaa)).length<=maxLen)<|ZeK fu g j (Zan b 1) (h++([(g.getD b.toNat Zaa.d)]:List Zaa))else ZeK fu g j (Zan b 1) h else some h
theorem ZsG:∀(t:Nat)(b:List Zaa)(p g:Int)(o r:List Zaa),ZeK t b p g o=some r->Ys 20 S0 w0 Tryz.f181 [(l5 99999 44 10 Zaa.c Zaa.d r)] (.one (.osl 99999 r.length)) [1,1,0,1,0] ⟨[(3,.one (.osl 3 o.length)),(6,(Yn b)),(7,(Yj p)),(8,(Yj g))],[(l5 3 44 10 Zaa.c Zaa.d o)]⟩:=by
 intro t;induction t with
 |zero=>
  intro b p g o r h;simp[ZeK]at h
 |succ t y=>
  intro b p g o r h;unfold ZeK at h;obtain⟨u,h⟩|⟨u,h⟩:=Zah h
  .obtain⟨o2,h⟩:=Zao h;obtain⟨v,h⟩|⟨v,h⟩:=Zah h
   .obtain⟨z,h⟩:=Zao h;exact Ye 17 [rz,rz,rz,⟨[(3,.c ((o++([(b.getD g.toNat Zaa.d)]:List Zaa)).length) (Zam Zaa.c Zaa.d (o++([(b.getD g.toNat Zaa.d)]:List Zaa))))],[],[],[],[],[(2,(([(b.getD g.toNat Zaa.d)]:List Zaa).length,Zam Zaa.c Zaa.d ([(b.getD g.toNat Zaa.d)]:List Zaa)))],[]⟩,rz] [true,true] (lZ [3,6,7,8] [17] [(17,3)]) (mi u o2 v (mF (e:=Zaa.c) Zaa.d 10 (fun _=>rfl) ([(b.getD g.toNat Zaa.d)]:List Zaa)) (Zdk (sz:=10) (e:=Zaa.c) (d:=Zaa.d) o ([(b.getD g.toNat Zaa.d)]:List Zaa)) z.1 z.2) (y b p (Zan g 1) (o++([(b.getD g.toNat Zaa.d)]:List Zaa)) r h)
   .exact Ye 17 [rz,rz,rz,rz] [true,false] (lX [3,6,7,8] [3]) (me u o2 v) (y b p (Zan g 1) o r h)
  .apply Yc h 8 [rz,rz] [false] (lZ [2] [3] [(3,99999)]) (mc u)
def Zkj(b:List Zaa):Option (List Zaa):=ZeK (((b.length:Int)-(0:Int)).toNat+2) b (b.length:Int) (0:Int) ([])
theorem Zua(b r:List Zaa)(g:Zkj b=some r):Yp 181 [] [Yn b] [(l5 99999 44 10 Zaa.c Zaa.d r)] (.one (.osl 99999 r.length)):=by
 refine Yw Tryz.func181 fun S0 w0=>?_;unfold Zkj at g;exact Ye 8 [rz,rz,rz] [] ⟨[],[],[],[],[(3,3,44,10,Zam Zaa.c Zaa.d [])],[3,6,7,8],[3],[]⟩ .n (ZsG S0 w0 (((b.length:Int)-(0:Int)).toNat+2) b (b.length:Int) (0:Int) ([]) r g)
theorem ZvD(b r:List Zaa)(d:Zkj b=some r):Yo 181 [Yn b] (Yn r):=(Zua b r d).pure
def Zlz(b:Zax):Option (Zbc×Zbc×Zbc×Zbc):=some ((Zbc.mk 1 b.fGroup),(Zbc.mk 2 b.fPing),(Zbc.mk 3 b.fWork),(Zbc.mk 4 b.fTime))
theorem Ztt(b:Zax)(r:(Zbc×Zbc×Zbc×Zbc))(d:Zlz b=some r):Yo 254 [.agg (Zax.c b)] (.agg ((cP Zbc.c (cP Zbc.c (cP Zbc.c Zbc.c))) r)):=by
 refine Yv Tryz.func254 fun S0 w0=>?_;unfold Zlz at d;apply Ya d 4 [rz,rz] [] .n
def Zfd(h:List Zaa):Nat->(List Int)->Int->Int->(List Zaa)->Option (List Zaa)|0,_,_,_,_=>none|fu+1,g,j,b,o=>bif(decide (b<j))then need (0<=b/\b<(g.length:Int))<|need (0<=(g.getD b.toNat (0:Int))/\(g.getD b.toNat (0:Int))<(h.length:Int))<|need ((o++([(h.getD (g.getD b.toNat (0:Int)).toNat Zaa.d)]:List Zaa)).length * 80<=140737488355328/\(o++([(h.getD (g.getD b.toNat (0:Int)).toNat Zaa.d)]:List Zaa)).length<=maxLen)<|Zfd h fu g j (Zan b 1) (o++([(h.getD (g.getD b.toNat (0:Int)).toNat Zaa.d)]:List Zaa))else some o
theorem ZrN(h:List Zaa):∀(u:Nat)(b:List Int)(p g:Int)(t r:List Zaa),Zfd h u b p g t=some r->Ys 26 S0 w0 Tryz.f257 [(l5 99999 44 10 Zaa.c Zaa.d r)] (.one (.osl 99999 r.length)) [1,1,0,1,0] ⟨[(0,(Yn h)),(5,.one (.osl 5 t.length)),(11,.one (cL 1 l9 (0:Int) b)),(12,(Yj p)),(13,(Yj g))],[(l5 5 44 10 Zaa.c Zaa.d t)]⟩:=by
 intro u;induction u with
 |zero=>
  intro b p g t r o;simp[Zfd]at o
 |succ u z=>
  intro b p g t r o;unfold Zfd at o;obtain⟨v,o⟩|⟨v,o⟩:=Zah o
  .obtain⟨A,B,o⟩:=Yt o;obtain⟨y,o⟩:=Zao o;exact Ye 14 [rz,rz,⟨[(6,.c ((t++([(h.getD (b.getD g.toNat (0:Int)).toNat Zaa.d)]:List Zaa)).length) (Zam Zaa.c Zaa.d (t++([(h.getD (b.getD g.toNat (0:Int)).toNat Zaa.d)]:List Zaa))))],[],[],[],[],[(5,(([(h.getD (b.getD g.toNat (0:Int)).toNat Zaa.d)]:List Zaa).length,Zam Zaa.c Zaa.d ([(h.getD (b.getD g.toNat (0:Int)).toNat Zaa.d)]:List Zaa)))],[]⟩,rz] [true] (lZ [0,5,11,12,13] [23] [(23,5)]) (mi v A B (mF (e:=Zaa.c) Zaa.d 10 (fun _=>rfl) ([(h.getD (b.getD g.toNat (0:Int)).toNat Zaa.d)]:List Zaa)) (Zdk (sz:=10) (e:=Zaa.c) (d:=Zaa.d) t ([(h.getD (b.getD g.toNat (0:Int)).toNat Zaa.d)]:List Zaa)) y.1 y.2) (z b p (Zan g 1) (t++([(h.getD (b.getD g.toNat (0:Int)).toNat Zaa.d)]:List Zaa)) r o)
  .apply Yc o 8 [rz,rz] [false] (lZ [4] [5] [(5,99999)]) (mc v)
def ZdR(d:List Zaa)(b:List Int):Option (List Zaa):=need (0<=(0:Int)/\(0:Int)<=(b.length:Int)/\(b.length:Int)<=140737488355328/\(b.length:Int) * 80<=140737488355328)<|Zfd d (((b.length:Int)-(0:Int)).toNat+2) b (b.length:Int) (0:Int) ([]:List Zaa)
theorem Ztu(o:List Zaa)(b:List Int)(r:List Zaa)(g:ZdR o b=some r):Yp 257 [] [Yn o,.one (cL 1 l9 (0:Int) b)] [(l5 99999 44 10 Zaa.c Zaa.d r)] (.one (.osl 99999 r.length)):=by
 refine Yw Tryz.func257 fun S0 w0=>?_;unfold ZdR at g;obtain⟨o1,g⟩:=Zao g;exact Ye 8 [rz,rA [(2,.c 0 (Zam Zaa.c Zaa.d ([]:List Zaa)))],rz] [] ⟨[],[],[],[(5,(([]:List Zaa).length))],[],[0,5,11,12,13],[10],[(10,5)]⟩ (mh (show (0:Int)=((0:Nat):Int)from rfl) o1.2.1 o1.2.2.1 o1.2.2.2 (show ∀i j,i<0->j<10->ZpM (([.lit (.bool false),.lit (.int .u64 (0)),.lit (.int .u64 (0)),.lit (.int .i64 (0)),.lit (.bool false),.lit (.int .i64 (0)),.lit (.int .i64 (0)),.lit (.int .i64 (0)),.lit (.int .i64 (0)),.lit (.int .i64 (0))]:List C).getD j .junk) (Zam Zaa.c Zaa.d ([]:List Zaa) i j)from(fun i j h=>absurd h (Nat.not_lt_zero i))) (show ([]:List Zaa).length=0 from rfl)) (ZrN S0 w0 o (((b.length:Int)-(0:Int)).toNat+2) b (b.length:Int) (0:Int) ([]:List Zaa) r g)
theorem ZjV(b:List Zaa)(d:List Int)(r:List Zaa)(g:ZdR b d=some r):Yo 257 [Yn b,.one (cL 1 l9 (0:Int) d)] (Yn r):=(Ztu b d r g).pure
def Zim(b:Int)(g:Bool)(d:Zaa):Option Bool:=bif g then some true else bif(b==(2:Int))then some (decide (d.fPing>(0:Int)))else bif(b==(3:Int))then some (decide (d.fWork>(0:Int)))else some false
theorem ZmM(o:Int)(p:Bool)(d:Zaa)(r:Bool)(b:Zim o p d=some r):Yr 19 S0 w0 Tryz.f320 (Yk r) [1,0,1,0,1] ⟨[(2,.one (.ptr 2 0)),(5,(Yj o)),(6,(Yk p))],[(2,.box (Zaa.c d))]⟩:=by
 unfold Zim at b;obtain⟨g,b⟩|⟨g,b⟩:=Zah b
 .apply Ya b 3 [rz] [true] (mc g)
 .obtain⟨h,b⟩|⟨h,b⟩:=Zah b
  .apply Ya b 6 [rz,rz] [false,true] (md g h)
  .obtain⟨j,b⟩|⟨j,b⟩:=Zah b
   .apply Ya b 9 [rz,rz,rz] [false,false,true] (me g h j)
   .apply Ya b 11 [rz,rz,rz] [false,false,false] (me g h j)
def ZkC(d:Zaa)(b:Int):Option Bool:=bif(b==(1:Int))then Zim b (b==(1:Int)) d else Zim b (b==(4:Int)) d
theorem ZtZ(g:Zaa)(b:Int)(r:Bool)(d:ZkC g b=some r):Yo 320 [.agg (Zaa.c g),Yj b] (Yk r):=by
 refine Yv Tryz.func320 fun S0 w0=>?_;unfold ZkC at d;obtain⟨h,d⟩|⟨h,d⟩:=Zah d
 .exact Ye 11 [rz,rz,rz] [true] (lX [2,5,6] [2]) (mc h) (ZmM S0 w0 b (b==(1:Int)) g r d)
 .exact Ye 11 [rz,rz,rz,rz] [false] (lX [2,5,6] [2]) (mc h) (ZmM S0 w0 b (b==(4:Int)) g r d)
def Zki(b:Zaf):Option Int:=bif b.fV6 then some (32:Int)else some (16:Int)
theorem ZvC(g:Zaf)(r:Int)(b:Zki g=some r):Yo 260 [.agg (Zaf.c g)] (Yj r):=by
 refine Yv Tryz.func260 fun S0 w0=>?_;unfold Zki at b;obtain⟨d,b⟩|⟨d,b⟩:=Zah b
 .apply Ya b 8 [rz,rz,rz] [true] (mc d)
 .apply Ya b 9 [rz,rz,rz] [false] (mc d)
def Zis(b:Zaf):Option Zap:=(Zki b).bind fun d=>(ZfT b d).bind fun g=>some g.1
theorem Zml(d:Zaf)(r:Zap)(b:Zis d=some r):Yo 186 [.agg (Zaf.c d)] (.agg (Zap.c r)):=by
 refine Yv Tryz.func186 fun S0 w0=>?_;unfold Zis at b;obtain⟨h,g,j,o,b⟩:=Yu b;apply Ya b 6 [rz,rA [(2,aI h),(3,.r (.tup [(true,Zap.c g.1),(false,cB g.2)]) [])],rz] [] (md (ZvC _ _ j) (Zgt _ _ _ o))
def Zmw(b:Zaa)(d:Int):Option Int:=(Zis b.fEnd.fAddr).bind fun g=>(ZmO d g).bind fun h=>some h
theorem ZsE(d:Zaa)(g r:Int)(b:Zmw d g=some r):Yo 377 [.agg (Zaa.c d),.one (.lit (.int .u64 g))] (.one (.lit (.int .u64 r))):=by
 refine Yv Tryz.func377 fun S0 w0=>?_;unfold Zmw at b;obtain⟨h,j,o,p,b⟩:=Yu b;apply Ya b 4 [rz,rA [(4,aG (Zap.c h)),(5,.r (.one (.lit (.int .u64 j))) [])]] [] (md (Zml _ _ o) (ZtM _ _ _ p))
def Zhc(b:Int):Option Bool:=some (b != b)
theorem ZlQ(b:Int)(r:Bool)(d:Zhc b=some r):Yo 355 [.one (.lit (.int .u64 b))] (Yk r):=by
 refine Yv Tryz.func355 fun S0 w0=>?_;unfold Zhc at d;apply Ya d 4 [rz,rz] [] .n
def ZdZ(b d:Int):Option Int:=(Zhc b).bind fun h=>(Zhc d).bind fun g=>bif h then bif g then some (0:Int)else some (-1:Int)else bif g then some (1:Int)else bif(decide (b<d))then some (-1:Int)else bif(decide (b>d))then some (1:Int)else some (0:Int)
theorem Zif(p t r:Int)(b:ZdZ p t=some r):Yo 319 [.one (.lit (.int .u64 p)),.one (.lit (.int .u64 t))] (Yj r):=by
 refine Yv Tryz.func319 fun S0 w0=>?_;unfold ZdZ at b;obtain⟨u,v,b⟩:=Zad b;obtain⟨y,z,b⟩:=Zad b
 let R1:List RA:=[rz,rA [(1,aB u)],rA [(1,aB y)],rz,rz,rz]
 have O2:=(md (ZlQ _ _ v) (ZlQ _ _ z));obtain⟨d,b⟩|⟨d,b⟩:=Zah b
 .obtain⟨j,b⟩|⟨j,b⟩:=Zah b
  .apply Ya b 16 R1 [true,true] (mt O2 d j)
  .apply Ya b 17 R1 [true,false] (mt O2 d j)
 .obtain⟨g,b⟩|⟨g,b⟩:=Zah b
  .apply Ya b 17 R1 [false,true] (mt O2 d g)
  .obtain⟨h,b⟩|⟨h,b⟩:=Zah b
   .apply Ya b 22 (R1++[rz]) [false,false,true] (mu O2 d g h)
   .obtain⟨o,b⟩|⟨o,b⟩:=Zah b
    .apply Ya b 27 (R1++[rz,rz]) [false,false,false,true] (mw O2 d g h o)
    .apply Ya b 28 (R1++[rz,rz]) [false,false,false,false] (mw O2 d g h o)
def ZiP(b:Int):Option Bool:=some (b != b)
theorem ZnO(b:Int)(r:Bool)(d:ZiP b=some r):Yo 258 [Yj b] (Yk r):=by
 refine Yv Tryz.func258 fun S0 w0=>?_;unfold ZiP at d;apply Ya d 4 [rz,rz] [] .n
def ZcZ(b d:Int):Option Int:=(ZiP b).bind fun h=>(ZiP d).bind fun g=>bif h then bif g then some (0:Int)else some (-1:Int)else bif g then some (1:Int)else bif(decide (b<d))then some (-1:Int)else bif(decide (b>d))then some (1:Int)else some (0:Int)
theorem Zea(p t r:Int)(b:ZcZ p t=some r):Yo 185 [Yj p,Yj t] (Yj r):=by
 refine Yv Tryz.func185 fun S0 w0=>?_;unfold ZcZ at b;obtain⟨u,v,b⟩:=Zad b;obtain⟨y,z,b⟩:=Zad b
 let R1:List RA:=[rz,rA [(1,aB u)],rA [(1,aB y)],rz,rz,rz]
 have O2:=(md (ZnO _ _ v) (ZnO _ _ z));obtain⟨d,b⟩|⟨d,b⟩:=Zah b
 .obtain⟨j,b⟩|⟨j,b⟩:=Zah b
  .apply Ya b 16 R1 [true,true] (mt O2 d j)
  .apply Ya b 17 R1 [true,false] (mt O2 d j)
 .obtain⟨g,b⟩|⟨g,b⟩:=Zah b
  .apply Ya b 17 R1 [false,true] (mt O2 d g)
  .obtain⟨h,b⟩|⟨h,b⟩:=Zah b
   .apply Ya b 22 (R1++[rz]) [false,false,true] (mu O2 d g h)
   .obtain⟨o,b⟩|⟨o,b⟩:=Zah b
    .apply Ya b 27 (R1++[rz,rz]) [false,false,false,true] (mw O2 d g h o)
    .apply Ya b 28 (R1++[rz,rz]) [false,false,false,false] (mw O2 d g h o)
def ZjL(b d:Zaa)(g h:Int):Option Int:=bif(g==(1:Int))then(Zmw d h).bind fun j=>(Zmw b h).bind fun o=>(ZdZ j o).bind fun p=>some p else bif(g==(2:Int))then(ZcZ b.fPing d.fPing).bind fun t=>some t else bif(g==(3:Int))then(ZcZ d.fWork b.fWork).bind fun u=>some u else bif(g==(4:Int))then(ZcZ b.fSince d.fSince).bind fun v=>some v else some (0:Int)
theorem Ztx(p t:Zaa)(u v r:Int)(b:ZjL p t u v=some r):Yo 357 [.agg (Zaa.c p),.agg (Zaa.c t),Yj u,.one (.lit (.int .u64 v))] (Yj r):=by
 refine Yv Tryz.func357 fun S0 w0=>?_;unfold ZjL at b;obtain⟨d,b⟩|⟨d,b⟩:=Zah b
 .obtain⟨y,z,A,B,b⟩:=Yu b;obtain⟨D,E,b⟩:=Zad b;apply Ya b 11 [rz,rz,rz,rA [(2,.r (.one (.lit (.int .u64 y))) []),(5,.r (.one (.lit (.int .u64 z))) []),(6,aI D)]] [true] (mf d (ZsE _ _ _ A) (ZsE _ _ _ B) (Zif _ _ _ E))
 .obtain⟨g,b⟩|⟨g,b⟩:=Zah b
  .obtain⟨F,G,b⟩:=Zad b;apply Ya b 14 [rz,rz,rz,rz,rA [(4,aI F)]] [false,true] (me d g (Zea _ _ _ G))
  .obtain⟨h,b⟩|⟨h,b⟩:=Zah b
   .obtain⟨H,I,b⟩:=Zad b;apply Ya b 17 [rz,rz,rz,rz,rz,rA [(4,aI H)]] [false,false,true] (mf d g h (Zea _ _ _ I))
   .obtain⟨j,b⟩|⟨j,b⟩:=Zah b
    .obtain⟨J,o,b⟩:=Zad b;apply Ya b 20 [rz,rz,rz,rz,rz,rz,rA [(4,aI J)]] [false,false,false,true] (mg d g h j (Zea _ _ _ o))
    .apply Ya b 22 [rz,rz,rz,rz,rz,rz,rz] [false,false,false,false] (mf d g h j)
def Zjk(b:Zaf):Option Int:=bif b.fV6 then some (1:Int)else some (0:Int)
theorem ZpL(g:Zaf)(r:Int)(b:Zjk g=some r):Yo 318 [.agg (Zaf.c g)] (Yj r):=by
 refine Yv Tryz.func318 fun S0 w0=>?_;unfold Zjk at b;obtain⟨d,b⟩|⟨d,b⟩:=Zah b
 .apply Ya b 8 [rz,rz,rz] [true] (mc d)
 .apply Ya b 9 [rz,rz,rz] [false] (mc d)
def ZgI:Nat->Int->(List Int)->Int->Int->Option Int|0,_,_,_,_=>none|fu+1,g,d,h,b=>bif(decide (b<h))then need (0<=b/\b<(d.length:Int))<|bif((d.getD b.toNat (0:Int)) != g)then some (d.getD b.toNat (0:Int))else ZgI fu g d h (Zan b 1)else some g
theorem ZsJ:∀(o:Nat)(d:Int)(g:List Int)(h j r:Int),ZgI o d g h j=some r->Yr 18 S0 w0 Tryz.f184 (Yj r) [1,1,0,1,0] ⟨[(3,(Yj d)),(6,.one (cL 1 l9 (0:Int) g)),(7,(Yj h)),(8,(Yj j))],[]⟩:=by
 intro o;induction o with
 |zero=>
  intro d g h j r b;simp[ZgI]at b
 |succ o u=>
  intro d g h j r b;unfold ZgI at b;obtain⟨p,b⟩|⟨p,b⟩:=Zah b
  .obtain⟨o2,b⟩:=Zao b;obtain⟨t,b⟩|⟨t,b⟩:=Zah b
   .apply Ya b 15 [rz,rz,rz,rz] [true,true] (me p o2 t)
   .exact Ye 17 [rz,rz,rz,rz] [true,false] (Yi [3,6,7,8]) (me p o2 t) (u d g h (Zan j 1) r b)
  .apply Ya b 8 [rz,rz] [false] (mc p)
def ZfL(b:List Int):Option Int:=ZgI (((b.length:Int)-(0:Int)).toNat+2) (0:Int) b (b.length:Int) (0:Int)
theorem ZiQ(b:List Int)(r:Int)(d:ZfL b=some r):Yo 184 [.one (cL 1 l9 (0:Int) b)] (Yj r):=by
 refine Yv Tryz.func184 fun S0 w0=>?_;unfold ZfL at d;exact Ye 8 [rz,rz,rz] [] (Yi [3,6,7,8]) .n (ZsJ S0 w0 (((b.length:Int)-(0:Int)).toNat+2) (0:Int) b (b.length:Int) (0:Int) r d)
def ZjP(b d:Zaf):Option Int:=(Zjk b).bind fun g=>(Zjk d).bind fun h=>(ZcZ g h).bind fun j=>(ZdZ b.fHi d.fHi).bind fun o=>(ZdZ b.fLo d.fLo).bind fun p=>(ZfL ([j,o,p]:List Int)).bind fun t=>some t
theorem ZtA(p t:Zaf)(r:Int)(b:ZjP p t=some r):Yo 250 [.agg (Zaf.c p),.agg (Zaf.c t)] (Yj r):=by
 refine Yv Tryz.func250 fun S0 w0=>?_;unfold ZjP at b;obtain⟨u,v,y,z,b⟩:=Yu b;obtain⟨g,h,A,B,b⟩:=Yu b;obtain⟨o,D,E,F,b⟩:=Yu b;apply Ya b 4 [rz,⟨[(1,aI u),(3,aI v),(4,aI g),(9,aI h),(14,aI o),(16,aI D)],[],[],[],[],[(15,(([g,h,o]:List Int).length,Zam l9 (0:Int) ([g,h,o]:List Int)))],[]⟩] [] (mi (ZpL _ _ y) (ZpL _ _ z) (Zea _ _ _ A) (Zif _ _ _ B) (Zif _ _ _ E) (mF (e:=l9) (0:Int) 1 (fun _=>rfl) ([g,h,o]:List Int)) (ZiQ _ _ F))
def famA(a:Zaf):Int:=if a.fV6 then 1 else 0
def cmpA(a b:Zaf):Int:=orI (cmpI (famA a) (famA b)) (orI (cmpI a.fHi b.fHi) (cmpI a.fLo b.fLo))
theorem Zwc(a b:Int):ZcZ a b=some (cmpI a b):=by
 simp only[ZcZ,ZiP,cmpI,bne_self_eq_false,Option.bind_some,cond_false];by_cases d:a<b<;>by_cases g:a>b<;>simp[d,g]<;>omega
theorem ZHp(a b:Int):ZdZ a b=some (cmpI a b):=by
 simp only[ZdZ,Zhc,cmpI,bne_self_eq_false,Option.bind_some,cond_false];by_cases d:a<b<;>by_cases g:a>b<;>simp[d,g]<;>omega
theorem or2(a b:Int):ZfL [a,b]=some (orI a b):=by
 unfold ZfL orI;simp only[List.length_cons,List.length_nil];rw[show (((0+1+1:Nat):Int)-0).toNat+2=4 from rfl];simp only[ZgI,show Zan 0 1=1 from rfl,show Zan 1 1=2 from rfl];simp only[Bool.cond_eq_ite,bne_iff_ne,ne_eq,ite_not,need];by_cases d:a=0<;>by_cases g:b=0<;>simp[d,g]
theorem or3(a b c:Int):ZfL [a,b,c]=some (orI a (orI b c)):=by
 unfold ZfL orI;simp only[List.length_cons,List.length_nil];rw[show (((0+1+1+1:Nat):Int)-0).toNat+2=5 from rfl];simp only[ZgI,show Zan 0 1=1 from rfl,show Zan 1 1=2 from rfl,show Zan 2 1=3 from rfl];simp only[Bool.cond_eq_ite,bne_iff_ne,ne_eq,ite_not,need];by_cases d:a=0<;>by_cases g:b=0<;>by_cases h:c=0<;>simp[d,g,h]
theorem ZJh(a b:Zaf):ZjP a b=some (cmpA a b):=by
 have d:∀c,Zjk c=some (famA c):=fun c=>by unfold Zjk famA;cases c.fV6<;>rfl
 simp only[ZjP,d,Zwc,ZHp,or3,Option.bind_some,cmpA]
theorem ZDc{a b:Int}:orI a b<0↔a<0\/(a=0/\b<0):=by unfold orI;constructor<;>intro h<;>(repeat' split at *)<;>omega
theorem ZDd{a b:Int}:0<orI a b↔0<a\/(a=0/\0<b):=by unfold orI;constructor<;>intro h<;>(repeat' split at *)<;>omega
theorem ZDb{a b:Int}:orI a b=0↔a=0/\b=0:=by unfold orI;constructor<;>intro h<;>(repeat' split at *)<;>omega
theorem ZKu{a b:Zaf}:famA a=famA b↔a.fV6=b.fV6:=by unfold famA;cases a.fV6<;>cases b.fV6<;>simp
theorem ZHs{a b:Zaf}:cmpA a b<0↔famA a<famA b\/(famA a=famA b/\(a.fHi<b.fHi\/(a.fHi=b.fHi/\a.fLo<b.fLo))):=by simp only[cmpA,ZDc,ZyP,ZmZ]
theorem ZKE{a b:Zaf}:0<cmpA a b↔famA b<famA a\/(famA a=famA b/\(b.fHi<a.fHi\/(a.fHi=b.fHi/\b.fLo<a.fLo))):=by simp only[cmpA,ZDd,ZyQ,ZmZ]
theorem Zta{a b:Zaf}:cmpA a b=0↔a=b:=by
 simp only[cmpA,ZDb,ZmZ,ZKu];obtain⟨v,hi,lo⟩:=a;obtain⟨v',cH,kq⟩:=b;simp
theorem ZxE{a b c:Zaf}(d:cmpA a b<0)(g:cmpA b c<0):cmpA a c<0:=by
 rw[ZHs]at *
 omega
theorem ZHr{a b:Zaf}:0<cmpA a b↔cmpA b a<0:=by
 rw[ZKE,ZHs];constructor<;>intro h<;>omega
def Zit(b d:Zal):Option Int:=(ZjP b.fAddr d.fAddr).bind fun g=>(ZcZ b.fPort d.fPort).bind fun h=>(ZfL ([g,h]:List Int)).bind fun j=>some j
theorem ZoC(o p:Zal)(r:Int)(h:Zit o p=some r):Yo 175 [.agg (Zal.c o),.agg (Zal.c p)] (Yj r):=by
 refine Yv Tryz.func175 fun S0 w0=>?_;unfold Zit at h;obtain⟨b,g,t,u,h⟩:=Yu h;obtain⟨v,y,h⟩:=Zad h;apply Ya h 4 [rz,⟨[(4,aI b),(9,aI g),(11,aI v)],[],[],[],[],[(10,(([b,g]:List Int).length,Zam l9 (0:Int) ([b,g]:List Int)))],[]⟩] [] (mf (ZtA _ _ _ t) (Zea _ _ _ u) (mF (e:=l9) (0:Int) 1 (fun _=>rfl) ([b,g]:List Int)) (ZiQ _ _ y))
def ZmL(b d:Zaa)(g h:Int):Option Int:=(ZjL b d g h).bind fun j=>(Zit b.fEnd d.fEnd).bind fun o=>(ZfL ([j,o]:List Int)).bind fun p=>some p
theorem ZwC(o p:Zaa)(t u r:Int)(h:ZmL o p t u=some r):Yo 323 [.agg (Zaa.c o),.agg (Zaa.c p),Yj t,.one (.lit (.int .u64 u))] (Yj r):=by
 refine Yv Tryz.func323 fun S0 w0=>?_;unfold ZmL at h;obtain⟨b,g,v,y,h⟩:=Yu h;obtain⟨z,A,h⟩:=Zad h;apply Ya h 4 [rz,⟨[(4,aI b),(9,aI g),(11,aI z)],[],[],[],[],[(10,(([b,g]:List Int).length,Zam l9 (0:Int) ([b,g]:List Int)))],[]⟩] [] (mf (Ztx _ _ _ _ _ v) (ZoC _ _ _ y) (mF (e:=l9) (0:Int) 1 (fun _=>rfl) ([b,g]:List Int)) (ZiQ _ _ A))
def Zgs(b g:Int)(c0:List Zaa)(c1 c2:Int):Option Int:=need (0<=b/\b<(c0.length:Int))<|need (0<=g/\g<(c0.length:Int))<|(ZmL (c0.getD b.toNat Zaa.d) (c0.getD g.toNat Zaa.d) c1 c2).bind fun h=>some h
theorem Zji(g h:Int)(c0:List Zaa)(c1 c2 r:Int)(b:Zgs g h c0 c1 c2=some r):Yo 322 [Yj g,Yj h,.one (.rp false 1 (fun j=>([cL 10 Zaa.c Zaa.d c0]:List C).getD (0+j) .junk)),.one (.rp false 1 (fun j=>([.lit (.int .i64 c1)]:List C).getD (0+j) .junk)),.one (.rp false 1 (fun j=>([.lit (.int .u64 c2)]:List C).getD (0+j) .junk))] (Yj r):=by
 refine Yv Tryz.func322 fun S0 w0=>?_;unfold Zgs at b;obtain⟨o1,o2,b⟩:=Yt b;obtain⟨o,p,b⟩:=Zad b;apply Ya b 4 [rz,rA [(10,aI o)]] [] (me o1 o2 (ZwC _ _ _ _ _ p))
def Zbf(p t:Int)(g:List Zaa)(h j o:Int)(aj:Int->(List Int)->Option (List Int)):Nat->Int->(List Int)->Option (List Int)|0,_,_=>none|fu+1,d,b=>bif(decide (d>p))then need (0<=d/\d<(b.length:Int))<|need (0<=(Zbd d (1:Int))/\(Zbd d (1:Int))<(b.length:Int))<|(Zgs (b.getD d.toNat (0:Int)) (b.getD ((Zbd d (1:Int)).toNat) (0:Int)) g h j).bind fun u=>bif(decide (u<(0:Int)))then Zbf p t g h j o aj fu (Zbd d (1:Int)) ((b.set d.toNat (b.getD ((Zbd d (1:Int)).toNat) (0:Int))).set ((Zbd d (1:Int)).toNat) (b.getD d.toNat (0:Int)))else aj (Zan o 1) b else aj (Zan o 1) b
theorem ZhV(A B:Int)(o:List Zaa)(p t y:Int)(aj:Int->(List Int)->Option (List Int))(aO:∀(cN:Int)(ao r:List Int),aj cN ao=some r->Ys 53 S0 w0 Tryz.f375 [(l5 100000 3 1 l9 (0:Int) r)] (.tup []) [1,0] ⟨[(0,.one (.osl 100000 ao.length)),(1,(Yj A)),(2,(Yj B)),(3,.one (l7 322 0 3 [] [l8 [cL 10 Zaa.c Zaa.d o],l8 [.lit (.int .i64 p)],l8 [.lit (.int .u64 t)]])),(8,(Yj cN))],[(l5 100000 3 1 l9 (0:Int) ao)]⟩):∀(z:Nat)(g:Int)(b r:List Int),Zbf A B o p t y aj z g b=some r->Ys 53 S0 w0 Tryz.f375 [(l5 100000 3 1 l9 (0:Int) r)] (.tup []) [1,0,0,1,0,0,1,0] ⟨[(0,.one (.osl 100000 b.length)),(1,(Yj A)),(2,(Yj B)),(3,.one (l7 322 0 3 [] [l8 [cL 10 Zaa.c Zaa.d o],l8 [.lit (.int .i64 p)],l8 [.lit (.int .u64 t)]])),(8,(Yj y)),(9,(Yj g))],[(l5 100000 3 1 l9 (0:Int) b)]⟩:=by
 intro z;induction z with
 |zero=>
  intro g b r h;simp[Zbf]at h
 |succ z F=>
  intro g b r h;unfold Zbf at h;obtain⟨D,h⟩|⟨D,h⟩:=Zah h
  .obtain⟨u,v,h⟩:=Yt h;obtain⟨G,H,h⟩:=Zad h
   let R1:List RA:=[⟨[(14,aI G)],[(3,true)],[],[],[],[],[]⟩]
   have O2:=(mh D u (ltOf u) v (ltOf v) (Zji _ _ _ _ _ _ H));obtain⟨E,h⟩|⟨E,h⟩:=Zah h
   .exact Ye 12 (R1++[rA [(15,.c (b.set g.toNat (b.getD ((Zbd g (1:Int)).toNat) (0:Int))).length (Zam l9 (0:Int) (b.set g.toNat (b.getD ((Zbd g (1:Int)).toNat) (0:Int))))),(17,.c ((b.set g.toNat (b.getD ((Zbd g (1:Int)).toNat) (0:Int))).set ((Zbd g (1:Int)).toNat) (b.getD g.toNat (0:Int))).length (Zam l9 (0:Int) ((b.set g.toNat (b.getD ((Zbd g (1:Int)).toNat) (0:Int))).set ((Zbd g (1:Int)).toNat) (b.getD g.toNat (0:Int)))))],rz]) [true] ⟨[],[],[],[(100000,(((b.set g.toNat (b.getD ((Zbd g (1:Int)).toNat) (0:Int))).set ((Zbd g (1:Int)).toNat) (b.getD g.toNat (0:Int))).length))],[],[0,1,2,3,8,9],[100000],[]⟩ (O2.app (.c E (.c v (.c (ltOf v) (.c u (mn (ltOf u) u (show (b.set g.toNat (b.getD ((Zbd g (1:Int)).toNat) (0:Int))).length=b.length from List.length_set) (ltOf u) (show ExtU 1 b.length (Zam l9 (0:Int) b) g.toNat 0 (l9 (b.getD ((Zbd g (1:Int)).toNat) (0:Int))) (Zam l9 (0:Int) (b.set g.toNat (b.getD ((Zbd g (1:Int)).toNat) (0:Int))))from(ZhL _ _ _ rfl)) v (show ((b.set g.toNat (b.getD ((Zbd g (1:Int)).toNat) (0:Int))).set ((Zbd g (1:Int)).toNat) (b.getD g.toNat (0:Int))).length=(b.set g.toNat (b.getD ((Zbd g (1:Int)).toNat) (0:Int))).length from List.length_set) (show (Zbd g (1:Int)).toNat<(b.set g.toNat (b.getD ((Zbd g (1:Int)).toNat) (0:Int))).length from(by have:=ltOf v;simp at this ⊢;omega)) (show ExtU 1 ((b.set g.toNat (b.getD ((Zbd g (1:Int)).toNat) (0:Int))).length) (Zam l9 (0:Int) (b.set g.toNat (b.getD ((Zbd g (1:Int)).toNat) (0:Int)))) ((Zbd g (1:Int)).toNat) 0 (l9 (b.getD g.toNat (0:Int))) (Zam l9 (0:Int) ((b.set g.toNat (b.getD ((Zbd g (1:Int)).toNat) (0:Int))).set ((Zbd g (1:Int)).toNat) (b.getD g.toNat (0:Int))))from(ZhL _ _ _ rfl)) (mH (((b.set g.toNat (b.getD ((Zbd g (1:Int)).toNat) (0:Int))).set ((Zbd g (1:Int)).toNat) (b.getD g.toNat (0:Int))).length)))))))) (F (Zbd g (1:Int)) ((b.set g.toNat (b.getD ((Zbd g (1:Int)).toNat) (0:Int))).set ((Zbd g (1:Int)).toNat) (b.getD g.toNat (0:Int))) r h)
   .exact Ye 9 (R1++[rz]) [false] (lX [0,1,2,3,8] [100000]) (mr O2 E) (aO (Zan y 1) b r h)
  .exact Ye 9 [rB [(3,false)],rz] [false] (lX [0,1,2,3,8] [100000]) (md D (mH false)) (aO (Zan y 1) b r h)
def ZaN(o p:Int)(d:List Zaa)(g h:Int):Nat->Int->(List Int)->Option (List Int)|0,_,_=>none|fu+1,j,b=>bif(decide (j<p))then Zbf o p d g h j (ZaN o p d g h fu) ((j-o).toNat+2) j b else some b
theorem ZhW(u y:Int)(g:List Zaa)(h o:Int):∀(v:Nat)(t:Int)(b r:List Int),ZaN u y g h o v t b=some r->Ys 53 S0 w0 Tryz.f375 [(l5 100000 3 1 l9 (0:Int) r)] (.tup []) [1,0] ⟨[(0,.one (.osl 100000 b.length)),(1,(Yj u)),(2,(Yj y)),(3,.one (l7 322 0 3 [] [l8 [cL 10 Zaa.c Zaa.d g],l8 [.lit (.int .i64 h)],l8 [.lit (.int .u64 o)]])),(8,(Yj t))],[(l5 100000 3 1 l9 (0:Int) b)]⟩:=by
 intro v;induction v with
 |zero=>
  intro t b r p;simp[ZaN]at p
 |succ v A=>
  intro t b r p;unfold ZaN at p;obtain⟨z,p⟩|⟨z,p⟩:=Zah p
  .exact Ye 11 [rz,rz] [true] (lX [0,1,2,3,8,9] [100000]) (mc z) (ZhV S0 w0 u y g h o t (ZaN u y g h o v) A ((t-u).toNat+2) t b r p)
  .apply Yc p 6 [rz] [false] (lX [] [100000]) (mc z)
def ZbQ(o:List Int)(h j:Int)(b:List Zaa)(d g:Int):Option (List Int):=ZaN h j b d g ((j-(Zan h 1)).toNat+2) (Zan h 1) o
theorem Zfj(o:List Int)(p t:Int)(b:List Zaa)(g h:Int)(r:List Int)(u:ZbQ o p t b g h=some r):Yp 375 [(l5 100000 3 1 l9 (0:Int) o)] [.one (.osl 100000 o.length),Yj p,Yj t,.one (l7 322 0 3 [] [l8 [cL 10 Zaa.c Zaa.d b],l8 [.lit (.int .i64 g)],l8 [.lit (.int .u64 h)]])] [(l5 100000 3 1 l9 (0:Int) r)] (.tup []):=by
 refine Yw Tryz.func375 fun S0 w0=>?_;unfold ZbQ at u;exact Ye 3 [rz] [] (lX [0,1,2,3,8] [100000]) .n (ZhW S0 w0 p t b g h ((t-(Zan p 1)).toNat+2) (Zan p 1) o r u)
def Zbq(g h j:Int):Nat->Int->(List Int)->Option (List Int)|0,_,_=>none|fu+1,d,b=>bif(decide (d<j))then need (0<=(Zan h d)/\(Zan h d)<(b.length:Int))<|need (0<=(Zan g d)/\(Zan g d)<(b.length:Int))<|Zbq g h j fu (Zan d 1) ((b.set ((Zan g d).toNat) (b.getD ((Zan h d).toNat) (0:Int))).set ((Zan h d).toNat) (b.getD ((Zan g d).toNat) (0:Int)))else some b
theorem ZiG(g h u:Int):∀(o:Nat)(d:Int)(b r:List Int),Zbq g h u o d b=some r->Ys 38 S0 w0 Tryz.f406 [(l5 100000 3 1 l9 (0:Int) r)] (.tup []) [1,0] ⟨[(0,.one (.osl 100000 b.length)),(1,(Yj g)),(2,(Yj h)),(3,(Yj u)),(10,(Yj d))],[(l5 100000 3 1 l9 (0:Int) b)]⟩:=by
 intro o;induction o with
 |zero=>
  intro d b r j;simp[Zbq]at j
 |succ o v=>
  intro d b r j;unfold Zbq at j;obtain⟨t,j⟩|⟨t,j⟩:=Zah j
  .obtain⟨o2,p,j⟩:=Yt j;exact Ye 12 [rz,rA [(21,.c (b.set ((Zan g d).toNat) (b.getD ((Zan h d).toNat) (0:Int))).length (Zam l9 (0:Int) (b.set ((Zan g d).toNat) (b.getD ((Zan h d).toNat) (0:Int))))),(23,.c ((b.set ((Zan g d).toNat) (b.getD ((Zan h d).toNat) (0:Int))).set ((Zan h d).toNat) (b.getD ((Zan g d).toNat) (0:Int))).length (Zam l9 (0:Int) ((b.set ((Zan g d).toNat) (b.getD ((Zan h d).toNat) (0:Int))).set ((Zan h d).toNat) (b.getD ((Zan g d).toNat) (0:Int)))))],rz] [true] ⟨[],[],[],[(100000,(((b.set ((Zan g d).toNat) (b.getD ((Zan h d).toNat) (0:Int))).set ((Zan h d).toNat) (b.getD ((Zan g d).toNat) (0:Int))).length))],[],[0,1,2,3,10],[100000],[]⟩ (.c t (.c o2 (.c (ltOf o2) (.c p (mn (ltOf p) p (show (b.set ((Zan g d).toNat) (b.getD ((Zan h d).toNat) (0:Int))).length=b.length from List.length_set) (ltOf p) (show ExtU 1 b.length (Zam l9 (0:Int) b) ((Zan g d).toNat) 0 (l9 (b.getD ((Zan h d).toNat) (0:Int))) (Zam l9 (0:Int) (b.set ((Zan g d).toNat) (b.getD ((Zan h d).toNat) (0:Int))))from(ZhL _ _ _ rfl)) o2 (show ((b.set ((Zan g d).toNat) (b.getD ((Zan h d).toNat) (0:Int))).set ((Zan h d).toNat) (b.getD ((Zan g d).toNat) (0:Int))).length=(b.set ((Zan g d).toNat) (b.getD ((Zan h d).toNat) (0:Int))).length from List.length_set) (show (Zan h d).toNat<(b.set ((Zan g d).toNat) (b.getD ((Zan h d).toNat) (0:Int))).length from(by have:=ltOf o2;simp at this ⊢;omega)) (show ExtU 1 ((b.set ((Zan g d).toNat) (b.getD ((Zan h d).toNat) (0:Int))).length) (Zam l9 (0:Int) (b.set ((Zan g d).toNat) (b.getD ((Zan h d).toNat) (0:Int)))) ((Zan h d).toNat) 0 (l9 (b.getD ((Zan g d).toNat) (0:Int))) (Zam l9 (0:Int) ((b.set ((Zan g d).toNat) (b.getD ((Zan h d).toNat) (0:Int))).set ((Zan h d).toNat) (b.getD ((Zan g d).toNat) (0:Int))))from(ZhL _ _ _ rfl)) (mH (((b.set ((Zan g d).toNat) (b.getD ((Zan h d).toNat) (0:Int))).set ((Zan h d).toNat) (b.getD ((Zan g d).toNat) (0:Int))).length))))))) (v (Zan d 1) ((b.set ((Zan g d).toNat) (b.getD ((Zan h d).toNat) (0:Int))).set ((Zan h d).toNat) (b.getD ((Zan g d).toNat) (0:Int))) r j)
  .apply Yc j 6 [rz] [false] (lX [] [100000]) (mc t)
def ZbN(j:List Int)(o p b:Int)(d:List Zaa)(g h:Int):Option (List Int):=Zbq o p b ((b-(0:Int)).toNat+2) (0:Int) j
theorem ZdU(o:List Int)(t u p:Int)(b:List Zaa)(g h:Int)(r:List Int)(v:ZbN o t u p b g h=some r):Yp 406 [(l5 100000 3 1 l9 (0:Int) o)] [.one (.osl 100000 o.length),Yj t,Yj u,Yj p,.one (l7 322 0 3 [] [l8 [cL 10 Zaa.c Zaa.d b],l8 [.lit (.int .i64 g)],l8 [.lit (.int .u64 h)]])] [(l5 100000 3 1 l9 (0:Int) r)] (.tup []):=by
 refine Yw Tryz.func406 fun S0 w0=>?_;unfold ZbN at v;exact Ye 3 [rz] [] (lX [0,1,2,3,10] [100000]) .n (ZiG S0 w0 t u p ((p-(0:Int)).toNat+2) (0:Int) o r v)
def ZbC(p:Int)(g:List Zaa)(h j:Int):Nat->Int->Int->(List Int)->Option (List Int)|0,_,_,_=>none|fu+1,b,o,d=>bif(b != o)then bif(decide (b>o))then(ZbN d (Zbd p b) p o g h j).bind fun t=>ZbC p g h j fu (Zbd b o) o t else(ZbN d (Zbd p b) (Zbd (Zan p o) b) b g h j).bind fun u=>ZbC p g h j fu b (Zbd o b) u else(ZbN d (Zbd p b) p b g h j).bind fun v=>some v
theorem ZjH(D:Int)(p:List Zaa)(t u:Int):∀(z:Nat)(h o:Int)(b r:List Int),ZbC D p t u z h o b=some r->Ys 58 S0 w0 Tryz.f398 [(l5 100000 3 1 l9 (0:Int) r)] (.tup []) [1,1,0,0] ⟨[(0,.one (.osl 100000 b.length)),(2,(Yj D)),(4,.one (l7 322 0 3 [] [l8 [cL 10 Zaa.c Zaa.d p],l8 [.lit (.int .i64 t)],l8 [.lit (.int .u64 u)]])),(10,(Yj h)),(11,(Yj o))],[(l5 100000 3 1 l9 (0:Int) b)]⟩:=by
 intro z;induction z with
 |zero=>
  intro h o b r g;simp[ZbC]at g
 |succ z E=>
  intro h o b r g;unfold ZbC at g;obtain⟨A,g⟩|⟨A,g⟩:=Zah g
  .obtain⟨B,g⟩|⟨B,g⟩:=Zah g
   .obtain⟨v,G,g⟩:=Zad g;exact Ye 15 [rz,rz,rH [] [(7,⟨[(100000,100000)],[],[(l5 100000 3 1 l9 (0:Int) v)],.tup []⟩)],rz] [true,true] ⟨[],[],[],[(100000,v.length)],[],[0,2,4,10,11],[100000],[]⟩ (mf A B (ZdU _ _ _ _ _ _ _ _ G) (mH v.length)) (E (Zbd h o) o v r g)
   .obtain⟨y,H,g⟩:=Zad g;exact Ye 15 [rz,rz,rH [] [(11,⟨[(100000,100000)],[],[(l5 100000 3 1 l9 (0:Int) y)],.tup []⟩)],rz] [true,false] ⟨[],[],[],[(100000,y.length)],[],[0,2,4,10,11],[100000],[]⟩ (mf A B (ZdU _ _ _ _ _ _ _ _ H) (mH y.length)) (E h (Zbd o h) y r g)
  .obtain⟨F,I,g⟩:=Zad g;apply Yc g 7 [rz,rH [] [(7,⟨[(100000,100000)],[],[(l5 100000 3 1 l9 (0:Int) F)],.tup []⟩)]] [false] (lX [] [100000]) (md A (ZdU _ _ _ _ _ _ _ _ I))
def ZcD(j:List Int)(o h p:Int)(b:List Zaa)(d g:Int):Option (List Int):=ZbC h b d g 1000000 (Zbd h o) (Zbd p h) j
theorem Zkp(o:List Int)(t p u:Int)(b:List Zaa)(g h:Int)(r:List Int)(v:ZcD o t p u b g h=some r):Yp 398 [(l5 100000 3 1 l9 (0:Int) o)] [.one (.osl 100000 o.length),Yj t,Yj p,Yj u,.one (l7 322 0 3 [] [l8 [cL 10 Zaa.c Zaa.d b],l8 [.lit (.int .i64 g)],l8 [.lit (.int .u64 h)]])] [(l5 100000 3 1 l9 (0:Int) r)] (.tup []):=by
 refine Yw Tryz.func398 fun S0 w0=>?_;unfold ZcD at v;exact Ye 6 [rz,rz] [] (lX [0,2,4,10,11] [100000]) .n (ZjH S0 w0 p b g h 1000000 (Zbd p t) (Zbd u p) o r v)
def Zby(t:Int)(g:List Zaa)(h j o p:Int)(ax:Int->Int->(List Int)->Option (List Int)):Nat->Int->(List Int)->Option (List Int)|0,_,_=>none|fu+1,d,b=>bif(decide (d<(Zbd o (1:Int))))then need (0<=(Zan d 1)/\(Zan d 1)<(b.length:Int))<|need (0<=d/\d<(b.length:Int))<|Zby t g h j o p ax fu (Zan d 1) ((b.set d.toNat (b.getD ((Zan d 1).toNat) (0:Int))).set ((Zan d 1).toNat) (b.getD d.toNat (0:Int)))else some b
theorem Zje(D:Int)(o:List Zaa)(p t u A:Int)(ax:Int->Int->(List Int)->Option (List Int))(b8:∀(dC dD:Int)(ao r:List Int),ax dC dD ao=some r->Ys 220 S0 w0 Tryz.f376 [(l5 100000 3 1 l9 (0:Int) r)] (.tup []) [0,1,0,1,1,0,0] ⟨[(0,.one (.osl 100000 ao.length)),(1,(Yj D)),(4,.one (l7 322 0 3 [] [l8 [cL 10 Zaa.c Zaa.d o],l8 [.lit (.int .i64 p)],l8 [.lit (.int .u64 t)]])),(10,(Yj dC)),(11,(Yj dD))],[(l5 100000 3 1 l9 (0:Int) ao)]⟩):∀(v:Nat)(g:Int)(b r:List Int),Zby D o p t u A ax v g b=some r->Ys 220 S0 w0 Tryz.f376 [(l5 100000 3 1 l9 (0:Int) r)] (.tup []) [0,1,0,1,1,1,0,1,0] ⟨[(0,.one (.osl 100000 b.length)),(10,(Yj u)),(13,(Yj g))],[(l5 100000 3 1 l9 (0:Int) b)]⟩:=by
 intro v;induction v with
 |zero=>
  intro g b r h;simp[Zby]at h
 |succ v E=>
  intro g b r h;unfold Zby at h;obtain⟨B,h⟩|⟨B,h⟩:=Zah h
  .obtain⟨y,z,h⟩:=Yt h;exact Ye 12 [rz,rA [(15,.c (b.set g.toNat (b.getD ((Zan g 1).toNat) (0:Int))).length (Zam l9 (0:Int) (b.set g.toNat (b.getD ((Zan g 1).toNat) (0:Int))))),(17,.c ((b.set g.toNat (b.getD ((Zan g 1).toNat) (0:Int))).set ((Zan g 1).toNat) (b.getD g.toNat (0:Int))).length (Zam l9 (0:Int) ((b.set g.toNat (b.getD ((Zan g 1).toNat) (0:Int))).set ((Zan g 1).toNat) (b.getD g.toNat (0:Int)))))],rz] [true] ⟨[],[],[],[(100000,(((b.set g.toNat (b.getD ((Zan g 1).toNat) (0:Int))).set ((Zan g 1).toNat) (b.getD g.toNat (0:Int))).length))],[],[0,10,13],[100000],[]⟩ (.c B (.c y (.c (ltOf y) (.c z (mn (ltOf z) z (show (b.set g.toNat (b.getD ((Zan g 1).toNat) (0:Int))).length=b.length from List.length_set) (ltOf z) (show ExtU 1 b.length (Zam l9 (0:Int) b) g.toNat 0 (l9 (b.getD ((Zan g 1).toNat) (0:Int))) (Zam l9 (0:Int) (b.set g.toNat (b.getD ((Zan g 1).toNat) (0:Int))))from(ZhL _ _ _ rfl)) y (show ((b.set g.toNat (b.getD ((Zan g 1).toNat) (0:Int))).set ((Zan g 1).toNat) (b.getD g.toNat (0:Int))).length=(b.set g.toNat (b.getD ((Zan g 1).toNat) (0:Int))).length from List.length_set) (show (Zan g 1).toNat<(b.set g.toNat (b.getD ((Zan g 1).toNat) (0:Int))).length from(by have:=ltOf y;simp at this ⊢;omega)) (show ExtU 1 ((b.set g.toNat (b.getD ((Zan g 1).toNat) (0:Int))).length) (Zam l9 (0:Int) (b.set g.toNat (b.getD ((Zan g 1).toNat) (0:Int)))) ((Zan g 1).toNat) 0 (l9 (b.getD g.toNat (0:Int))) (Zam l9 (0:Int) ((b.set g.toNat (b.getD ((Zan g 1).toNat) (0:Int))).set ((Zan g 1).toNat) (b.getD g.toNat (0:Int))))from(ZhL _ _ _ rfl)) (mH (((b.set g.toNat (b.getD ((Zan g 1).toNat) (0:Int))).set ((Zan g 1).toNat) (b.getD g.toNat (0:Int))).length))))))) (E (Zan g 1) ((b.set g.toNat (b.getD ((Zan g 1).toNat) (0:Int))).set ((Zan g 1).toNat) (b.getD g.toNat (0:Int))) r h)
  .apply Yc h 6 [rz] [false] (lX [] [100000]) (mc B)
def ZaM(p:Int)(d:List Zaa)(g h:Int):Nat->Int->Int->(List Int)->Option (List Int)|0,_,_,_=>none|fu+1,j,o,b=>bif(decide (j<o))then need (0<=(IntKind.wrap .i64 (Int.fdiv (IntKind.wrap .u64 (Zan j o)) (2 ^ (min (1:Int).toNat (IntKind.bits .u64)))))/\(IntKind.wrap .i64 (Int.fdiv (IntKind.wrap .u64 (Zan j o)) (2 ^ (min (1:Int).toNat (IntKind.bits .u64)))))<(b.length:Int))<|need (0<=p/\p<(b.length:Int))<|(Zgs (b.getD ((IntKind.wrap .i64 (Int.fdiv (IntKind.wrap .u64 (Zan j o)) (2 ^ (min (1:Int).toNat (IntKind.bits .u64))))).toNat) (0:Int)) (b.getD p.toNat (0:Int)) d g h).bind fun t=>bif(decide (t<(0:Int)))then ZaM p d g h fu (Zan (IntKind.wrap .i64 (Int.fdiv (IntKind.wrap .u64 (Zan j o)) (2 ^ (min (1:Int).toNat (IntKind.bits .u64))))) (1:Int)) o b else ZaM p d g h fu j (IntKind.wrap .i64 (Int.fdiv (IntKind.wrap .u64 (Zan j o)) (2 ^ (min (1:Int).toNat (IntKind.bits .u64))))) b else Zby p d g h j o (ZaM p d g h fu) 1000000 p b
theorem Zjf(v:Int)(p:List Zaa)(t u:Int):∀(y:Nat)(g h:Int)(b r:List Int),ZaM v p t u y g h b=some r->Ys 220 S0 w0 Tryz.f376 [(l5 100000 3 1 l9 (0:Int) r)] (.tup []) [0,1,0,1,1,0,0] ⟨[(0,.one (.osl 100000 b.length)),(1,(Yj v)),(4,.one (l7 322 0 3 [] [l8 [cL 10 Zaa.c Zaa.d p],l8 [.lit (.int .i64 t)],l8 [.lit (.int .u64 u)]])),(10,(Yj g)),(11,(Yj h))],[(l5 100000 3 1 l9 (0:Int) b)]⟩:=by
 intro y;induction y with
 |zero=>
  intro g h b r o;simp[ZaM]at o
 |succ y z=>
  intro g h b r o;unfold ZaM at o;obtain⟨A,o⟩|⟨A,o⟩:=Zah o
  .obtain⟨D,E,o⟩:=Yt o;obtain⟨F,G,o⟩:=Zad o;have O1:=(mi A (mJ (1:Int) rfl) D (ltOf D) E (ltOf E) (Zji _ _ _ _ _ _ G));obtain⟨B,o⟩|⟨B,o⟩:=Zah o
   .exact Ye 15 [rz,rz,rA [(9,aI F)],rz] [true,true] (lX [0,1,4,10,11] [100000]) (mr O1 B) (z (Zan (IntKind.wrap .i64 (Int.fdiv (IntKind.wrap .u64 (Zan g h)) (2 ^ (min (1:Int).toNat (IntKind.bits .u64))))) (1:Int)) h b r o)
   .exact Ye 15 [rz,rz,rA [(9,aI F)],rz] [true,false] (lX [0,1,4,10,11] [100000]) (mr O1 B) (z g (IntKind.wrap .i64 (Int.fdiv (IntKind.wrap .u64 (Zan g h)) (2 ^ (min (1:Int).toNat (IntKind.bits .u64))))) b r o)
  .exact Ye 10 [rz,rz] [false] (lX [0,10,13] [100000]) (mc A) (Zje S0 w0 v p t u g h (ZaM v p t u y) z 1000000 v b r o)
def Zbx(t:Int)(g:List Zaa)(h j o p:Int)(ay:Int->Int->(List Int)->Option (List Int)):Nat->Int->(List Int)->Option (List Int)|0,_,_=>none|fu+1,d,b=>bif(decide (d>o))then need (0<=(Zbd d (1:Int))/\(Zbd d (1:Int))<(b.length:Int))<|need (0<=d/\d<(b.length:Int))<|Zbx t g h j o p ay fu (Zbd d (1:Int)) ((b.set d.toNat (b.getD ((Zbd d (1:Int)).toNat) (0:Int))).set ((Zbd d (1:Int)).toNat) (b.getD d.toNat (0:Int)))else some b
theorem Zjc(D:Int)(p:List Zaa)(t u v A:Int)(ay:Int->Int->(List Int)->Option (List Int))(b9:∀(i9 eT:Int)(ao r:List Int),ay i9 eT ao=some r->Ys 220 S0 w0 Tryz.f376 [(l5 100000 3 1 l9 (0:Int) r)] (.tup []) [1,0,1,0,1,1,0,0] ⟨[(0,.one (.osl 100000 ao.length)),(2,(Yj D)),(4,.one (l7 322 0 3 [] [l8 [cL 10 Zaa.c Zaa.d p],l8 [.lit (.int .i64 t)],l8 [.lit (.int .u64 u)]])),(14,(Yj i9)),(15,(Yj eT))],[(l5 100000 3 1 l9 (0:Int) ao)]⟩):∀(y:Nat)(g:Int)(b r:List Int),Zbx D p t u v A ay y g b=some r->Ys 220 S0 w0 Tryz.f376 [(l5 100000 3 1 l9 (0:Int) r)] (.tup []) [1,0,1,0,1,1,1,0,1,0] ⟨[(0,.one (.osl 100000 b.length)),(14,(Yj v)),(17,(Yj g))],[(l5 100000 3 1 l9 (0:Int) b)]⟩:=by
 intro y;induction y with
 |zero=>
  intro g b r h;simp[Zbx]at h
 |succ y E=>
  intro g b r h;unfold Zbx at h;obtain⟨B,h⟩|⟨B,h⟩:=Zah h
  .obtain⟨z,o,h⟩:=Yt h;exact Ye 12 [rz,rA [(15,.c (b.set g.toNat (b.getD ((Zbd g (1:Int)).toNat) (0:Int))).length (Zam l9 (0:Int) (b.set g.toNat (b.getD ((Zbd g (1:Int)).toNat) (0:Int))))),(17,.c ((b.set g.toNat (b.getD ((Zbd g (1:Int)).toNat) (0:Int))).set ((Zbd g (1:Int)).toNat) (b.getD g.toNat (0:Int))).length (Zam l9 (0:Int) ((b.set g.toNat (b.getD ((Zbd g (1:Int)).toNat) (0:Int))).set ((Zbd g (1:Int)).toNat) (b.getD g.toNat (0:Int)))))],rz] [true] ⟨[],[],[],[(100000,(((b.set g.toNat (b.getD ((Zbd g (1:Int)).toNat) (0:Int))).set ((Zbd g (1:Int)).toNat) (b.getD g.toNat (0:Int))).length))],[],[0,14,17],[100000],[]⟩ (.c B (.c z (.c (ltOf z) (.c o (mn (ltOf o) o (show (b.set g.toNat (b.getD ((Zbd g (1:Int)).toNat) (0:Int))).length=b.length from List.length_set) (ltOf o) (show ExtU 1 b.length (Zam l9 (0:Int) b) g.toNat 0 (l9 (b.getD ((Zbd g (1:Int)).toNat) (0:Int))) (Zam l9 (0:Int) (b.set g.toNat (b.getD ((Zbd g (1:Int)).toNat) (0:Int))))from(ZhL _ _ _ rfl)) z (show ((b.set g.toNat (b.getD ((Zbd g (1:Int)).toNat) (0:Int))).set ((Zbd g (1:Int)).toNat) (b.getD g.toNat (0:Int))).length=(b.set g.toNat (b.getD ((Zbd g (1:Int)).toNat) (0:Int))).length from List.length_set) (show (Zbd g (1:Int)).toNat<(b.set g.toNat (b.getD ((Zbd g (1:Int)).toNat) (0:Int))).length from(by have:=ltOf z;simp at this ⊢;omega)) (show ExtU 1 ((b.set g.toNat (b.getD ((Zbd g (1:Int)).toNat) (0:Int))).length) (Zam l9 (0:Int) (b.set g.toNat (b.getD ((Zbd g (1:Int)).toNat) (0:Int)))) ((Zbd g (1:Int)).toNat) 0 (l9 (b.getD g.toNat (0:Int))) (Zam l9 (0:Int) ((b.set g.toNat (b.getD ((Zbd g (1:Int)).toNat) (0:Int))).set ((Zbd g (1:Int)).toNat) (b.getD g.toNat (0:Int))))from(ZhL _ _ _ rfl)) (mH (((b.set g.toNat (b.getD ((Zbd g (1:Int)).toNat) (0:Int))).set ((Zbd g (1:Int)).toNat) (b.getD g.toNat (0:Int))).length))))))) (E (Zbd g (1:Int)) ((b.set g.toNat (b.getD ((Zbd g (1:Int)).toNat) (0:Int))).set ((Zbd g (1:Int)).toNat) (b.getD g.toNat (0:Int))) r h)
  .apply Yc h 6 [rz] [false] (lX [] [100000]) (mc B)
def ZaL(p:Int)(g:List Zaa)(h j:Int):Nat->Int->Int->(List Int)->Option (List Int)|0,_,_,_=>none|fu+1,d,o,b=>bif(decide (d<o))then need (0<=p/\p<(b.length:Int))<|need (0<=(IntKind.wrap .i64 (Int.fdiv (IntKind.wrap .u64 (Zan d o)) (2 ^ (min (1:Int).toNat (IntKind.bits .u64)))))/\(IntKind.wrap .i64 (Int.fdiv (IntKind.wrap .u64 (Zan d o)) (2 ^ (min (1:Int).toNat (IntKind.bits .u64)))))<(b.length:Int))<|(Zgs (b.getD p.toNat (0:Int)) (b.getD ((IntKind.wrap .i64 (Int.fdiv (IntKind.wrap .u64 (Zan d o)) (2 ^ (min (1:Int).toNat (IntKind.bits .u64))))).toNat) (0:Int)) g h j).bind fun t=>bif(!(decide (t<(0:Int))))then ZaL p g h j fu (Zan (IntKind.wrap .i64 (Int.fdiv (IntKind.wrap .u64 (Zan d o)) (2 ^ (min (1:Int).toNat (IntKind.bits .u64))))) (1:Int)) o b else ZaL p g h j fu d (IntKind.wrap .i64 (Int.fdiv (IntKind.wrap .u64 (Zan d o)) (2 ^ (min (1:Int).toNat (IntKind.bits .u64))))) b else Zbx p g h j d o (ZaL p g h j fu) ((p-d).toNat+2) p b
theorem Zjd(v:Int)(p:List Zaa)(t u:Int):∀(y:Nat)(g h:Int)(b r:List Int),ZaL v p t u y g h b=some r->Ys 220 S0 w0 Tryz.f376 [(l5 100000 3 1 l9 (0:Int) r)] (.tup []) [1,0,1,0,1,1,0,0] ⟨[(0,.one (.osl 100000 b.length)),(2,(Yj v)),(4,.one (l7 322 0 3 [] [l8 [cL 10 Zaa.c Zaa.d p],l8 [.lit (.int .i64 t)],l8 [.lit (.int .u64 u)]])),(14,(Yj g)),(15,(Yj h))],[(l5 100000 3 1 l9 (0:Int) b)]⟩:=by
 intro y;induction y with
 |zero=>
  intro g h b r o;simp[ZaL]at o
 |succ y z=>
  intro g h b r o;unfold ZaL at o;obtain⟨A,o⟩|⟨A,o⟩:=Zah o
  .obtain⟨D,E,o⟩:=Yt o;obtain⟨F,G,o⟩:=Zad o;have O2:=(mi A (mJ (1:Int) rfl) D (ltOf D) E (ltOf E) (Zji _ _ _ _ _ _ G));obtain⟨B,o⟩|⟨B,o⟩:=Zah o
   .exact Ye 15 [rz,rz,rA [(9,aI F)],rz] [true,true] (lX [0,2,4,14,15] [100000]) (mr O2 B) (z (Zan (IntKind.wrap .i64 (Int.fdiv (IntKind.wrap .u64 (Zan g h)) (2 ^ (min (1:Int).toNat (IntKind.bits .u64))))) (1:Int)) h b r o)
   .exact Ye 15 [rz,rz,rA [(9,aI F)],rz] [true,false] (lX [0,2,4,14,15] [100000]) (mr O2 B) (z g (IntKind.wrap .i64 (Int.fdiv (IntKind.wrap .u64 (Zan g h)) (2 ^ (min (1:Int).toNat (IntKind.bits .u64))))) b r o)
  .exact Ye 10 [rz,rz] [false] (lX [0,14,17] [100000]) (mc A) (Zjc S0 w0 v p t u g h (ZaL v p t u y) z ((v-g).toNat+2) v b r o)
def Zbw(A B p:Int)(g:List Zaa)(h j:Int)(gr:((List Int)->Int->Int->Int->(List Zaa)->Int->Int->Option (List Int)))(o t u v y d:Int)(ab:Int->Int->Int->(List Int)->Option (List Int))(b:List Int):Option (List Int):=bif(decide (o<d))then bif(decide (d<p))then(gr b o d p g h j).bind fun z=>some z else some b else some b
theorem ZdP(z A y:Int)(g:List Zaa)(h o:Int)(gr:((List Int)->Int->Int->Int->(List Zaa)->Int->Int->Option (List Int)))(u B F G H D:Int)(b5:∀(E:List Int)(z A y:Int)(g:List Zaa)(h o:Int)(r:List Int),gr E z A y g h o=some r->Yp 376 [(l5 100000 3 1 l9 (0:Int) E)] [.one (.osl 100000 E.length),Yj z,Yj A,Yj y,.one (l7 322 0 3 [] [l8 [cL 10 Zaa.c Zaa.d g],l8 [.lit (.int .i64 h)],l8 [.lit (.int .u64 o)]])] [(l5 100000 3 1 l9 (0:Int) r)] (.tup []))(ab:Int->Int->Int->(List Int)->Option (List Int))(az:∀(eU eV eW:Int)(ao r:List Int),ab eU eV eW ao=some r->Ys 220 S0 w0 Tryz.f376 [(l5 100000 3 1 l9 (0:Int) r)] (.tup []) [1,1,1,1,1,1,1,0,0] ⟨[(0,.one (.osl 100000 ao.length)),(1,(Yj z)),(2,(Yj A)),(3,(Yj y)),(4,.one (l7 322 0 3 [] [l8 [cL 10 Zaa.c Zaa.d g],l8 [.lit (.int .i64 h)],l8 [.lit (.int .u64 o)]])),(18,(Yj u)),(19,(Yj B)),(20,(Yj eU)),(21,(Yj eV)),(22,(Yj eW))],[(l5 100000 3 1 l9 (0:Int) ao)]⟩)(b r:List Int)(p:Zbw z A y g h o gr u B F G H D ab b=some r):Ys 220 S0 w0 Tryz.f376 [(l5 100000 3 1 l9 (0:Int) r)] (.tup []) [1,1,1,1,1,1,1,1,1,1,1] ⟨[(0,.one (.osl 100000 b.length)),(3,(Yj y)),(4,.one (l7 322 0 3 [] [l8 [cL 10 Zaa.c Zaa.d g],l8 [.lit (.int .i64 h)],l8 [.lit (.int .u64 o)]])),(18,(Yj u)),(24,(Yj D))],[(l5 100000 3 1 l9 (0:Int) b)]⟩:=by
 unfold Zbw at p;obtain⟨t,p⟩|⟨t,p⟩:=Zah p
 .obtain⟨v,p⟩|⟨v,p⟩:=Zah p
  .obtain⟨J,I,p⟩:=Zad p;apply Yc p 4 [rB [(3,true)],rH [] [(5,⟨[(100000,100000)],[],[(l5 100000 3 1 l9 (0:Int) J)],.tup []⟩)]] [true] (lX [] [100000]) (me t v (b5 _ _ _ _ _ _ _ _ I))
  .apply Yc p 4 [rB [(3,true)]] [false] (lX [] [100000]) (md t v)
 .apply Yc p 4 [rB [(3,false)]] [false] (lX [] [100000]) (md t (mH false))
def Zbb(y z A:Int)(d:List Zaa)(g h:Int)(gr:((List Int)->Int->Int->Int->(List Zaa)->Int->Int->Option (List Int)))(o p j t u:Int)(ab:Int->Int->Int->(List Int)->Option (List Int))(v:Int)(b:List Int):Option (List Int):=bif(decide (y<j))then bif(decide (j<o))then(gr b y j o d g h).bind fun B=>Zbw y z A d g h gr o p j t u v ab B else Zbw y z A d g h gr o p j t u v ab b else Zbw y z A d g h gr o p j t u v ab b
theorem ZdQ(z F A:Int)(g:List Zaa)(h o:Int)(gr:((List Int)->Int->Int->Int->(List Zaa)->Int->Int->Option (List Int)))(p u v B D:Int)(b5:∀(I:List Int)(z F A:Int)(g:List Zaa)(h o:Int)(r:List Int),gr I z F A g h o=some r->Yp 376 [(l5 100000 3 1 l9 (0:Int) I)] [.one (.osl 100000 I.length),Yj z,Yj F,Yj A,.one (l7 322 0 3 [] [l8 [cL 10 Zaa.c Zaa.d g],l8 [.lit (.int .i64 h)],l8 [.lit (.int .u64 o)]])] [(l5 100000 3 1 l9 (0:Int) r)] (.tup []))(ab:Int->Int->Int->(List Int)->Option (List Int))(az:∀(eU eV eW:Int)(ao r:List Int),ab eU eV eW ao=some r->Ys 220 S0 w0 Tryz.f376 [(l5 100000 3 1 l9 (0:Int) r)] (.tup []) [1,1,1,1,1,1,1,0,0] ⟨[(0,.one (.osl 100000 ao.length)),(1,(Yj z)),(2,(Yj F)),(3,(Yj A)),(4,.one (l7 322 0 3 [] [l8 [cL 10 Zaa.c Zaa.d g],l8 [.lit (.int .i64 h)],l8 [.lit (.int .u64 o)]])),(18,(Yj p)),(19,(Yj u)),(20,(Yj eU)),(21,(Yj eV)),(22,(Yj eW))],[(l5 100000 3 1 l9 (0:Int) ao)]⟩)(y:Int)(b r:List Int)(t:Zbb z F A g h o gr p u v B D ab y b=some r):Ys 220 S0 w0 Tryz.f376 [(l5 100000 3 1 l9 (0:Int) r)] (.tup []) [1,1,1,1,1,1,1,1,1,1] ⟨[(0,.one (.osl 100000 b.length)),(1,(Yj z)),(3,(Yj A)),(4,.one (l7 322 0 3 [] [l8 [cL 10 Zaa.c Zaa.d g],l8 [.lit (.int .i64 h)],l8 [.lit (.int .u64 o)]])),(18,(Yj p)),(20,(Yj v)),(24,(Yj y))],[(l5 100000 3 1 l9 (0:Int) b)]⟩:=by
 unfold Zbb at t;obtain⟨E,t⟩|⟨E,t⟩:=Zah t
 .obtain⟨G,t⟩|⟨G,t⟩:=Zah t
  .obtain⟨H,J,t⟩:=Zad t;exact Ye 5 [rB [(3,true)],rH [] [(5,⟨[(100000,100000)],[],[(l5 100000 3 1 l9 (0:Int) H)],.tup []⟩)]] [true] ⟨[],[],[],[(100000,H.length)],[],[0,3,4,18,24],[100000],[]⟩ (mf E G (b5 _ _ _ _ _ _ _ _ J) (mH H.length)) (ZdP S0 w0 z F A g h o gr p u v B D y b5 ab az H r t)
  .exact Ye 5 [rB [(3,true)]] [false] (lX [0,3,4,18,24] [100000]) (md E G) (ZdP S0 w0 z F A g h o gr p u v B D y b5 ab az b r t)
 .exact Ye 5 [rB [(3,false)]] [false] (lX [0,3,4,18,24] [100000]) (md E (mH false)) (ZdP S0 w0 z F A g h o gr p u v B D y b5 ab az b r t)
def ZaF(y v z:Int)(g:List Zaa)(h j:Int)(gr:((List Int)->Int->Int->Int->(List Zaa)->Int->Int->Option (List Int)))(t o:Int):Nat->Int->Int->Int->(List Int)->Option (List Int)|0,_,_,_,_=>none|fu+1,d,p,u,b=>bif(decide (d<p))then need (0<=(Zbd u (IntKind.wrap .i64 (Int.fdiv (IntKind.wrap .u64 (Zan d p)) (2 ^ (min (1:Int).toNat (IntKind.bits .u64))))))/\(Zbd u (IntKind.wrap .i64 (Int.fdiv (IntKind.wrap .u64 (Zan d p)) (2 ^ (min (1:Int).toNat (IntKind.bits .u64))))))<(b.length:Int))<|need (0<=(IntKind.wrap .i64 (Int.fdiv (IntKind.wrap .u64 (Zan d p)) (2 ^ (min (1:Int).toNat (IntKind.bits .u64)))))/\(IntKind.wrap .i64 (Int.fdiv (IntKind.wrap .u64 (Zan d p)) (2 ^ (min (1:Int).toNat (IntKind.bits .u64)))))<(b.length:Int))<|(Zgs (b.getD ((Zbd u (IntKind.wrap .i64 (Int.fdiv (IntKind.wrap .u64 (Zan d p)) (2 ^ (min (1:Int).toNat (IntKind.bits .u64)))))).toNat) (0:Int)) (b.getD ((IntKind.wrap .i64 (Int.fdiv (IntKind.wrap .u64 (Zan d p)) (2 ^ (min (1:Int).toNat (IntKind.bits .u64))))).toNat) (0:Int)) g h j).bind fun A=>bif(!(decide (A<(0:Int))))then ZaF y v z g h j gr t o fu (Zan (IntKind.wrap .i64 (Int.fdiv (IntKind.wrap .u64 (Zan d p)) (2 ^ (min (1:Int).toNat (IntKind.bits .u64))))) (1:Int)) p u b else ZaF y v z g h j gr t o fu d (IntKind.wrap .i64 (Int.fdiv (IntKind.wrap .u64 (Zan d p)) (2 ^ (min (1:Int).toNat (IntKind.bits .u64))))) u b else bif(decide (d<v))then bif(decide (v<(Zbd o d)))then(ZcD b d v (Zbd o d) g h j).bind fun B=>Zbb y v z g h j gr t o d p u (ZaF y v z g h j gr t o fu) (Zbd o d) B else Zbb y v z g h j gr t o d p u (ZaF y v z g h j gr t o fu) (Zbd o d) b else Zbb y v z g h j gr t o d p u (ZaF y v z g h j gr t o fu) (Zbd o d) b
theorem Zjb(A B D:Int)(g:List Zaa)(h o:Int)(gr:((List Int)->Int->Int->Int->(List Zaa)->Int->Int->Option (List Int)))(z v:Int)(b5:∀(J:List Int)(A B D:Int)(g:List Zaa)(h o:Int)(r:List Int),gr J A B D g h o=some r->Yp 376 [(l5 100000 3 1 l9 (0:Int) J)] [.one (.osl 100000 J.length),Yj A,Yj B,Yj D,.one (l7 322 0 3 [] [l8 [cL 10 Zaa.c Zaa.d g],l8 [.lit (.int .i64 h)],l8 [.lit (.int .u64 o)]])] [(l5 100000 3 1 l9 (0:Int) r)] (.tup [])):∀(E:Nat)(p u y:Int)(b r:List Int),ZaF A B D g h o gr z v E p u y b=some r->Ys 220 S0 w0 Tryz.f376 [(l5 100000 3 1 l9 (0:Int) r)] (.tup []) [1,1,1,1,1,1,1,0,0] ⟨[(0,.one (.osl 100000 b.length)),(1,(Yj A)),(2,(Yj B)),(3,(Yj D)),(4,.one (l7 322 0 3 [] [l8 [cL 10 Zaa.c Zaa.d g],l8 [.lit (.int .i64 h)],l8 [.lit (.int .u64 o)]])),(18,(Yj z)),(19,(Yj v)),(20,(Yj p)),(21,(Yj u)),(22,(Yj y))],[(l5 100000 3 1 l9 (0:Int) b)]⟩:=by
 intro E;induction E with
 |zero=>
  intro p u y b r t;simp[ZaF]at t
 |succ E H=>
  intro p u y b r t;unfold ZaF at t;obtain⟨I,t⟩|⟨I,t⟩:=Zah t
  .obtain⟨R,U,t⟩:=Yt t;obtain⟨W,Z,t⟩:=Zad t;have O3:=(mi I (mJ (1:Int) rfl) R (ltOf R) U (ltOf U) (Zji _ _ _ _ _ _ Z));obtain⟨M,t⟩|⟨M,t⟩:=Zah t
   .exact Ye 15 [rz,rz,rA [(11,aI W)],rz] [true,true] (lX [0,1,2,3,4,18,19,20,21,22] [100000]) (mr O3 M) (H (Zan (IntKind.wrap .i64 (Int.fdiv (IntKind.wrap .u64 (Zan p u)) (2 ^ (min (1:Int).toNat (IntKind.bits .u64))))) (1:Int)) u y b r t)
   .exact Ye 15 [rz,rz,rA [(11,aI W)],rz] [true,false] (lX [0,1,2,3,4,18,19,20,21,22] [100000]) (mr O3 M) (H p (IntKind.wrap .i64 (Int.fdiv (IntKind.wrap .u64 (Zan p u)) (2 ^ (min (1:Int).toNat (IntKind.bits .u64))))) y b r t)
  .obtain⟨L,t⟩|⟨L,t⟩:=Zah t
   .obtain⟨F,t⟩|⟨F,t⟩:=Zah t
    .obtain⟨G,O,t⟩:=Zad t;exact Ye 13 [rz,rz,rB [(3,true)],rH [] [(5,⟨[(100000,100000)],[],[(l5 100000 3 1 l9 (0:Int) G)],.tup []⟩)]] [false,true] ⟨[],[],[],[(100000,G.length)],[],[0,1,3,4,18,20,24],[100000],[]⟩ (mg I L F (Zkp _ _ _ _ _ _ _ _ O) (mH G.length)) (ZdQ S0 w0 A B D g h o gr z v p u y b5 (ZaF A B D g h o gr z v E) H (Zbd v p) G r t)
    .exact Ye 13 [rz,rz,rB [(3,true)]] [false,false] (lX [0,1,3,4,18,20,24] [100000]) (me I L F) (ZdQ S0 w0 A B D g h o gr z v p u y b5 (ZaF A B D g h o gr z v E) H (Zbd v p) b r t)
   .exact Ye 13 [rz,rz,rB [(3,false)]] [false,false] (lX [0,1,3,4,18,20,24] [100000]) (me I L (mH false)) (ZdQ S0 w0 A B D g h o gr z v p u y b5 (ZaF A B D g h o gr z v E) H (Zbd v p) b r t)
def ZbZ(u v y:Int)(d:List Zaa)(g h:Int)(gr:((List Int)->Int->Int->Int->(List Zaa)->Int->Int->Option (List Int)))(t j o p:Int)(b:List Int):Option (List Int):=ZaF u v y d g h gr t j ((p-o).toNat+2) o p (Zbd j (1:Int)) b
theorem ZfP(y z A:Int)(g:List Zaa)(h o:Int)(gr:((List Int)->Int->Int->Int->(List Zaa)->Int->Int->Option (List Int)))(b5:∀(B:List Int)(y z A:Int)(g:List Zaa)(h o:Int)(r:List Int),gr B y z A g h o=some r->Yp 376 [(l5 100000 3 1 l9 (0:Int) B)] [.one (.osl 100000 B.length),Yj y,Yj z,Yj A,.one (l7 322 0 3 [] [l8 [cL 10 Zaa.c Zaa.d g],l8 [.lit (.int .i64 h)],l8 [.lit (.int .u64 o)]])] [(l5 100000 3 1 l9 (0:Int) r)] (.tup []))(v p t u:Int)(b r:List Int)(D:ZbZ y z A g h o gr v p t u b=some r):Ys 220 S0 w0 Tryz.f376 [(l5 100000 3 1 l9 (0:Int) r)] (.tup []) [1,1,1,1,1,1] ⟨[(0,.one (.osl 100000 b.length)),(1,(Yj y)),(2,(Yj z)),(3,(Yj A)),(4,.one (l7 322 0 3 [] [l8 [cL 10 Zaa.c Zaa.d g],l8 [.lit (.int .i64 h)],l8 [.lit (.int .u64 o)]])),(18,(Yj v)),(19,(Yj p)),(20,(Yj t)),(21,(Yj u))],[(l5 100000 3 1 l9 (0:Int) b)]⟩:=by
 unfold ZbZ at D;exact Ye 4 [rz] [] (lX [0,1,2,3,4,18,19,20,21,22] [100000]) .n (Zjb S0 w0 y z A g h o gr v p b5 ((u-t).toNat+2) t u (Zbd p (1:Int)) b r D)
def ZcG(gr:(List Int)->Int->Int->Int->(List Zaa)->Int->Int->Option (List Int))(p:List Int)(b d o:Int)(g:List Zaa)(h j:Int):Option (List Int):=bif((Zbd d b)==(1:Int))then ZaM b g h j ((o-d).toNat+2) d o p else bif((Zbd o d)==(1:Int))then ZaL d g h j ((d-b).toNat+2) b d p else bif(decide (d>(IntKind.wrap .i64 (Int.fdiv (IntKind.wrap .u64 (Zan b o)) (2 ^ (min (1:Int).toNat (IntKind.bits .u64)))))))then ZbZ b d o g h j gr (IntKind.wrap .i64 (Int.fdiv (IntKind.wrap .u64 (Zan b o)) (2 ^ (min (1:Int).toNat (IntKind.bits .u64))))) (Zan (IntKind.wrap .i64 (Int.fdiv (IntKind.wrap .u64 (Zan b o)) (2 ^ (min (1:Int).toNat (IntKind.bits .u64))))) d) (Zbd (Zan (IntKind.wrap .i64 (Int.fdiv (IntKind.wrap .u64 (Zan b o)) (2 ^ (min (1:Int).toNat (IntKind.bits .u64))))) d) o) (IntKind.wrap .i64 (Int.fdiv (IntKind.wrap .u64 (Zan b o)) (2 ^ (min (1:Int).toNat (IntKind.bits .u64))))) p else ZbZ b d o g h j gr (IntKind.wrap .i64 (Int.fdiv (IntKind.wrap .u64 (Zan b o)) (2 ^ (min (1:Int).toNat (IntKind.bits .u64))))) (Zan (IntKind.wrap .i64 (Int.fdiv (IntKind.wrap .u64 (Zan b o)) (2 ^ (min (1:Int).toNat (IntKind.bits .u64))))) d) b d p
theorem Zjr(gr:(List Int)->Int->Int->Int->(List Zaa)->Int->Int->Option (List Int))(b5:∀(v:List Int)(o p t:Int)(b:List Zaa)(g h:Int)(r:List Int),gr v o p t b g h=some r->Yp 376 [(l5 100000 3 1 l9 (0:Int) v)] [.one (.osl 100000 v.length),Yj o,Yj p,Yj t,.one (l7 322 0 3 [] [l8 [cL 10 Zaa.c Zaa.d b],l8 [.lit (.int .i64 g)],l8 [.lit (.int .u64 h)]])] [(l5 100000 3 1 l9 (0:Int) r)] (.tup []))(v:List Int)(o p t:Int)(b:List Zaa)(g h:Int)(r:List Int)(u:ZcG gr v o p t b g h=some r):Yp 376 [(l5 100000 3 1 l9 (0:Int) v)] [.one (.osl 100000 v.length),Yj o,Yj p,Yj t,.one (l7 322 0 3 [] [l8 [cL 10 Zaa.c Zaa.d b],l8 [.lit (.int .i64 g)],l8 [.lit (.int .u64 h)]])] [(l5 100000 3 1 l9 (0:Int) r)] (.tup []):=by
 refine Yw Tryz.func376 fun S0 w0=>?_;unfold ZcG at u;obtain⟨y,u⟩|⟨y,u⟩:=Zah u
 .exact Ye 10 [rz,rz,rz] [true] (lX [0,1,4,10,11] [100000]) (mc y) (Zjf S0 w0 o b g h ((t-p).toNat+2) p t v r u)
 .obtain⟨z,u⟩|⟨z,u⟩:=Zah u
  .exact Ye 15 [rz,rz,rz,rz] [false,true] (lX [0,2,4,14,15] [100000]) (md y z) (Zjd S0 w0 p b g h ((p-o).toNat+2) o p v r u)
  .have O4:=(me y z (mJ (1:Int) rfl));obtain⟨A,u⟩|⟨A,u⟩:=Zah u
   .exact Ye 23 [rz,rz,rz,rz,rz,rz,rz,rz] [false,false,true] (lX [0,1,2,3,4,18,19,20,21] [100000]) (mr O4 A) (ZfP S0 w0 o p t b g h gr b5 (IntKind.wrap .i64 (Int.fdiv (IntKind.wrap .u64 (Zan o t)) (2 ^ (min (1:Int).toNat (IntKind.bits .u64))))) (Zan (IntKind.wrap .i64 (Int.fdiv (IntKind.wrap .u64 (Zan o t)) (2 ^ (min (1:Int).toNat (IntKind.bits .u64))))) p) (Zbd (Zan (IntKind.wrap .i64 (Int.fdiv (IntKind.wrap .u64 (Zan o t)) (2 ^ (min (1:Int).toNat (IntKind.bits .u64))))) p) t) (IntKind.wrap .i64 (Int.fdiv (IntKind.wrap .u64 (Zan o t)) (2 ^ (min (1:Int).toNat (IntKind.bits .u64))))) v r u)
   .exact Ye 23 [rz,rz,rz,rz,rz,rz,rz,rz] [false,false,false] (lX [0,1,2,3,4,18,19,20,21] [100000]) (mr O4 A) (ZfP S0 w0 o p t b g h gr b5 (IntKind.wrap .i64 (Int.fdiv (IntKind.wrap .u64 (Zan o t)) (2 ^ (min (1:Int).toNat (IntKind.bits .u64))))) (Zan (IntKind.wrap .i64 (Int.fdiv (IntKind.wrap .u64 (Zan o t)) (2 ^ (min (1:Int).toNat (IntKind.bits .u64))))) p) o p v r u)
def Zbt:Nat->(List Int)->Int->Int->Int->(List Zaa)->Int->Int->Option (List Int)|0,_,_,_,_,_,_,_=>none|fu+1,h,j,o,p,b,d,g=>ZcG (Zbt fu) h j o p b d g
theorem Zgr:∀(p:Nat)(o:List Int)(t u v:Int)(b:List Zaa)(g h:Int)(r:List Int)(y:Zbt p o t u v b g h=some r),Yp 376 [(l5 100000 3 1 l9 (0:Int) o)] [.one (.osl 100000 o.length),Yj t,Yj u,Yj v,.one (l7 322 0 3 [] [l8 [cL 10 Zaa.c Zaa.d b],l8 [.lit (.int .i64 g)],l8 [.lit (.int .u64 h)]])] [(l5 100000 3 1 l9 (0:Int) r)] (.tup []):=by
 intro p;induction p with
 |zero=>
  intro o t u v b g h r y;simp[Zbt]at y
 |succ p z=>
  intro o t u v b g h r y;unfold Zbt at y;exact Zjr (Zbt p) z o t u v b g h r y
def Zbn(p:Int)(d:List Zaa)(g h j:Int)(af:Int->Int->Int->(List Int)->Option (List Int))(aq:Int->(List Int)->Option (List Int)):Nat->Int->Int->(List Int)->Option (List Int)|0,_,_,_=>none|fu+1,o,t,b=>bif(decide (t<=p))then(Zbt 1000 b o (Zan o j) t d g h).bind fun u=>Zbn p d g h j af aq fu t (Zan t (Zsp (2:Int) j)) u else bif(decide ((Zan o j)<p))then(Zbt 1000 b o (Zan o j) p d g h).bind fun v=>aq (Zsp j (2:Int)) v else aq (Zsp j (2:Int)) b
theorem ZjE(z:Int)(h:List Zaa)(o p y:Int)(af:Int->Int->Int->(List Int)->Option (List Int))(aq:Int->(List Int)->Option (List Int))(aS:∀(gQ gR cN:Int)(ao r:List Int),af gQ gR cN ao=some r->Ys 63 S0 w0 Tryz.f356 [(l5 100000 3 1 l9 (0:Int) r)] (.tup []) [1,1,0,0] ⟨[(0,.one (.osl 100000 ao.length)),(1,(Yj z)),(2,.one (l7 322 0 3 [] [l8 [cL 10 Zaa.c Zaa.d h],l8 [.lit (.int .i64 o)],l8 [.lit (.int .u64 p)]])),(6,(Yj gQ)),(7,(Yj gR)),(8,(Yj cN))],[(l5 100000 3 1 l9 (0:Int) ao)]⟩)(aT:∀(gQ:Int)(ao r:List Int),aq gQ ao=some r->Ys 63 S0 w0 Tryz.f356 [(l5 100000 3 1 l9 (0:Int) r)] (.tup []) [1,1,1,1,0] ⟨[(0,.one (.osl 100000 ao.length)),(1,(Yj z)),(2,.one (l7 322 0 3 [] [l8 [cL 10 Zaa.c Zaa.d h],l8 [.lit (.int .i64 o)],l8 [.lit (.int .u64 p)]])),(6,(Yj gQ))],[(l5 100000 3 1 l9 (0:Int) ao)]⟩):∀(A:Nat)(B t:Int)(b r:List Int),Zbn z h o p y af aq A B t b=some r->Ys 63 S0 w0 Tryz.f356 [(l5 100000 3 1 l9 (0:Int) r)] (.tup []) [1,1,1,1,0,0,1,0,1,0,0] ⟨[(0,.one (.osl 100000 b.length)),(1,(Yj z)),(2,.one (l7 322 0 3 [] [l8 [cL 10 Zaa.c Zaa.d h],l8 [.lit (.int .i64 o)],l8 [.lit (.int .u64 p)]])),(6,(Yj y)),(7,(Yj B)),(8,(Yj t))],[(l5 100000 3 1 l9 (0:Int) b)]⟩:=by
 intro A;induction A with
 |zero=>
  intro B t b r g;simp[Zbn]at g
 |succ A F=>
  intro B t b r g;unfold Zbn at g;obtain⟨D,g⟩|⟨D,g⟩:=Zah g
  .obtain⟨u,G,g⟩:=Zad g;exact Ye 14 [rz,rH [] [(7,⟨[(100000,100000)],[],[(l5 100000 3 1 l9 (0:Int) u)],.tup []⟩)],rz,rz] [true] ⟨[],[],[],[(100000,u.length)],[],[0,1,2,6,7,8],[100000],[]⟩ (me D (Zgr 1000 _ _ _ _ _ _ _ _ G) (mH u.length)) (F t (Zan t (Zsp (2:Int) y)) u r g)
  .obtain⟨E,g⟩|⟨E,g⟩:=Zah g
   .obtain⟨v,H,g⟩:=Zad g;exact Ye 16 [rz,rz,rz,rH [] [(5,⟨[(100000,100000)],[],[(l5 100000 3 1 l9 (0:Int) v)],.tup []⟩)],rz] [false,true] ⟨[],[],[],[(100000,v.length)],[],[0,1,2,6],[100000],[]⟩ (mf D E (Zgr 1000 _ _ _ _ _ _ _ _ H) (mH v.length)) (aT (Zsp y (2:Int)) v r g)
   .exact Ye 16 [rz,rz,rz,rz] [false,false] (lX [0,1,2,6] [100000]) (md D E) (aT (Zsp y (2:Int)) b r g)
def ZaX(j:Int)(d:List Zaa)(g h p t:Int)(af:Int->Int->Int->(List Int)->Option (List Int)):Nat->Int->(List Int)->Option (List Int)|0,_,_=>none|fu+1,o,b=>bif(decide (o<j))then Zbn j d g h o af (ZaX j d g h p t af fu) ((j-(Zsp (2:Int) o)).toNat+2) (0:Int) (Zsp (2:Int) o) b else some b
theorem ZjF(u:Int)(g:List Zaa)(h o z A:Int)(af:Int->Int->Int->(List Int)->Option (List Int))(aS:∀(gQ gR cN:Int)(ao r:List Int),af gQ gR cN ao=some r->Ys 63 S0 w0 Tryz.f356 [(l5 100000 3 1 l9 (0:Int) r)] (.tup []) [1,1,0,0] ⟨[(0,.one (.osl 100000 ao.length)),(1,(Yj u)),(2,.one (l7 322 0 3 [] [l8 [cL 10 Zaa.c Zaa.d g],l8 [.lit (.int .i64 h)],l8 [.lit (.int .u64 o)]])),(6,(Yj gQ)),(7,(Yj gR)),(8,(Yj cN))],[(l5 100000 3 1 l9 (0:Int) ao)]⟩):∀(v:Nat)(t:Int)(b r:List Int),ZaX u g h o z A af v t b=some r->Ys 63 S0 w0 Tryz.f356 [(l5 100000 3 1 l9 (0:Int) r)] (.tup []) [1,1,1,1,0] ⟨[(0,.one (.osl 100000 b.length)),(1,(Yj u)),(2,.one (l7 322 0 3 [] [l8 [cL 10 Zaa.c Zaa.d g],l8 [.lit (.int .i64 h)],l8 [.lit (.int .u64 o)]])),(6,(Yj t))],[(l5 100000 3 1 l9 (0:Int) b)]⟩:=by
 intro v;induction v with
 |zero=>
  intro t b r p;simp[ZaX]at p
 |succ v B=>
  intro t b r p;unfold ZaX at p;obtain⟨y,p⟩|⟨y,p⟩:=Zah p
  .exact Ye 11 [rz,rz] [true] (lX [0,1,2,6,7,8] [100000]) (mc y) (ZjE S0 w0 u g h o t af (ZaX u g h o z A af v) aS B ((u-(Zsp (2:Int) t)).toNat+2) (0:Int) (Zsp (2:Int) t) b r p)
  .apply Yc p 6 [rz] [false] (lX [] [100000]) (mc y)
def ZaS(j:Int)(b:List Zaa)(d g:Int):Nat->Int->Int->Int->(List Int)->Option (List Int)|0,_,_,_,_=>none|fu+1,p,t,o,h=>bif(decide (o<=j))then(ZbQ h t o b d g).bind fun u=>ZaS j b d g fu p o (Zan o p) u else(ZbQ h t j b d g).bind fun v=>ZaX j b d g t o (ZaS j b d g fu) ((j-p).toNat+2) p v
theorem ZjG(z:Int)(g:List Zaa)(h o:Int):∀(A:Nat)(t B u:Int)(b r:List Int),ZaS z g h o A t B u b=some r->Ys 63 S0 w0 Tryz.f356 [(l5 100000 3 1 l9 (0:Int) r)] (.tup []) [1,1,0,0] ⟨[(0,.one (.osl 100000 b.length)),(1,(Yj z)),(2,.one (l7 322 0 3 [] [l8 [cL 10 Zaa.c Zaa.d g],l8 [.lit (.int .i64 h)],l8 [.lit (.int .u64 o)]])),(6,(Yj t)),(7,(Yj B)),(8,(Yj u))],[(l5 100000 3 1 l9 (0:Int) b)]⟩:=by
 intro A;induction A with
 |zero=>
  intro t B u b r p;simp[ZaS]at p
 |succ A E=>
  intro t B u b r p;unfold ZaS at p;obtain⟨D,p⟩|⟨D,p⟩:=Zah p
  .obtain⟨v,F,p⟩:=Zad p;exact Ye 14 [rz,rH [] [(4,⟨[(100000,100000)],[],[(l5 100000 3 1 l9 (0:Int) v)],.tup []⟩)],rz,rz] [true] ⟨[],[],[],[(100000,v.length)],[],[0,1,2,6,7,8],[100000],[]⟩ (me D (Zfj _ _ _ _ _ _ _ F) (mH v.length)) (E t u (Zan u t) v r p)
  .obtain⟨y,G,p⟩:=Zad p;exact Ye 9 [rz,rH [] [(4,⟨[(100000,100000)],[],[(l5 100000 3 1 l9 (0:Int) y)],.tup []⟩)]] [false] ⟨[],[],[],[(100000,y.length)],[],[0,1,2,6],[100000],[]⟩ (me D (Zfj _ _ _ _ _ _ _ G) (mH y.length)) (ZjF S0 w0 z g h o B u (ZaS z g h o A) E ((z-t).toNat+2) t y r p)
def Zed(j:List Int)(h:Int)(b:List Zaa)(d g:Int):Option (List Int):=ZaS h b d g ((h-(20:Int)).toNat+2) (20:Int) (0:Int) (20:Int) j
theorem Zko(o:List Int)(p:Int)(b:List Zaa)(g h:Int)(r:List Int)(t:Zed o p b g h=some r):Yp 356 [(l5 100000 3 1 l9 (0:Int) o)] [.one (.osl 100000 o.length),Yj p,.one (l7 322 0 3 [] [l8 [cL 10 Zaa.c Zaa.d b],l8 [.lit (.int .i64 g)],l8 [.lit (.int .u64 h)]])] [(l5 100000 3 1 l9 (0:Int) r)] (.tup []):=by
 refine Yw Tryz.func356 fun S0 w0=>?_;unfold Zed at t;exact Ye 6 [rz,rz] [] (lX [0,1,2,6,7,8] [100000]) .n (ZjG S0 w0 p b g h ((p-(20:Int)).toNat+2) (20:Int) (0:Int) (20:Int) o r t)
def Zcw(h:List Int)(b:List Zaa)(d g:Int):Option (List Int):=(Zed h (h.length:Int) b d g).bind fun j=>some j
theorem ZiH(o:List Int)(b:List Zaa)(g h:Int)(r:List Int)(p:Zcw o b g h=some r):Yp 321 [(l5 100000 3 1 l9 (0:Int) o)] [.one (.osl 100000 o.length),.one (l7 322 0 3 [] [l8 [cL 10 Zaa.c Zaa.d b],l8 [.lit (.int .i64 g)],l8 [.lit (.int .u64 h)]])] [(l5 100000 3 1 l9 (0:Int) r)] (.tup []):=by
 refine Yw Tryz.func321 fun S0 w0=>?_;unfold Zcw at p;obtain⟨t,u,p⟩:=Zad p;apply Yc p 1 [rH [] [(4,⟨[(100000,100000)],[],[(l5 100000 3 1 l9 (0:Int) t)],.tup []⟩)]] [] (lX [] [100000]) (mc (Zko _ _ _ _ _ _ u))
def ZeJ(g:Int):Nat->(List Zaa)->Int->Int->(List Int)->(List Zaa)->Int->Int->Option (List Int)|0,_,_,_,_,_,_,_=>none|fu+1,j,o,b,h,t,p,u=>bif(decide (b<o))then need (0<=b/\b<(j.length:Int))<|(ZkC (j.getD b.toNat Zaa.d) p).bind fun y=>bif y then need ((h++([b]:List Int)).length * 8<=140737488355328/\(h++([b]:List Int)).length<=maxLen)<|ZeJ g fu j o (Zan b 1) (h++([b]:List Int)) t p u else ZeJ g fu j o (Zan b 1) h t p u else(Zcw h t p u).bind fun v=>need (0<=(0:Int)/\(0:Int)<=(if(h.length:Int)<(if(0:Int)>g then(0:Int)else g)then(h.length:Int)else(if(0:Int)>g then(0:Int)else g))/\(if(h.length:Int)<(if(0:Int)>g then(0:Int)else g)then(h.length:Int)else(if(0:Int)>g then(0:Int)else g))<=(h.length:Int))<|need ((if(h.length:Int)<(if(0:Int)>g then(0:Int)else g)then(h.length:Int)else(if(0:Int)>g then(0:Int)else g)).toNat<=v.length)<|some (v.take ((if(h.length:Int)<(if(0:Int)>g then(0:Int)else g)then(h.length:Int)else(if(0:Int)>g then(0:Int)else g)).toNat))
theorem ZsF(g:Int):∀(A:Nat)(p:List Zaa)(t b:Int)(h:List Int)(v:List Zaa)(y z:Int)(r:List Int),ZeJ g A p t b h v y z=some r->Ys 37 S0 w0 Tryz.f256 [(l5 99999 3 1 l9 (0:Int) r)] (.one (.osl 99999 r.length)) [1,1,0,1,0] ⟨[(2,(Yj g)),(4,.one (.ptr 4 0)),(5,.one (.ptr 5 0)),(7,.one (.ptr 7 0)),(9,.one (.osl 9 h.length)),(12,(Yn p)),(13,(Yj t)),(14,(Yj b))],[(l5 9 3 1 l9 (0:Int) h),(4,.box [cL 10 Zaa.c Zaa.d v]),(5,.box [.lit (.int .i64 y)]),(7,.box [.lit (.int .u64 z)])]⟩:=by
 intro A;induction A with
 |zero=>
  intro p t b h v y z r o;simp[ZeJ]at o
 |succ A E=>
  intro p t b h v y z r o;unfold ZeJ at o;obtain⟨B,o⟩|⟨B,o⟩:=Zah o
  .obtain⟨o2,o⟩:=Zao o;obtain⟨F,H,o⟩:=Zad o;have O1:=(me B o2 (ZtZ _ _ _ H));obtain⟨D,o⟩|⟨D,o⟩:=Zah o
   .obtain⟨G,o⟩:=Zao o;exact Ye 17 [rz,rz,rA [(2,aB F)],⟨[(3,.c ((h++([b]:List Int)).length) (Zam l9 (0:Int) (h++([b]:List Int))))],[],[],[],[],[(2,(([b]:List Int).length,Zam l9 (0:Int) ([b]:List Int)))],[]⟩,rz] [true,true] (lZ [2,4,5,7,9,12,13,14] [25,4,5,7] [(25,9)]) (my O1 D (mF (e:=l9) (0:Int) 1 (fun _=>rfl) ([b]:List Int)) (Zdk (sz:=1) (e:=l9) (d:=(0:Int)) h ([b]:List Int)) G.1 G.2) (E p t (Zan b 1) (h++([b]:List Int)) v y z r o)
   .exact Ye 17 [rz,rz,rA [(2,aB F)],rz] [true,false] (lX [2,4,5,7,9,12,13,14] [9,4,5,7]) (mr O1 D) (E p t (Zan b 1) h v y z r o)
  .obtain⟨u,I,o⟩:=Zad o;obtain⟨J,L,o⟩:=Yt o;apply Yc o 10 [rz,⟨[],[],[(1,[4,5,7])],[],[],[],[(2,⟨[(100000,9)],[],[(l5 100000 3 1 l9 (0:Int) u)],.tup []⟩)]⟩,rA [(7,.c (u.take ((if(h.length:Int)<(if(0:Int)>g then(0:Int)else g)then(h.length:Int)else(if(0:Int)>g then(0:Int)else g)).toNat)).length (Zam l9 (0:Int) (u.take ((if(h.length:Int)<(if(0:Int)>g then(0:Int)else g)then(h.length:Int)else(if(0:Int)>g then(0:Int)else g)).toNat))))]] [false] (lZ [8] [8] [(8,99999)]) (mh B (ZiH _ _ _ _ _ I) J (mH 0) (show (u.take ((if(h.length:Int)<(if(0:Int)>g then(0:Int)else g)then(h.length:Int)else(if(0:Int)>g then(0:Int)else g)).toNat)).length=(if(h.length:Int)<(if(0:Int)>g then(0:Int)else g)then(h.length:Int)else(if(0:Int)>g then(0:Int)else g)).toNat from(ZFJ _ _ L)) (show ∀i j,i<(if(h.length:Int)<(if(0:Int)>g then(0:Int)else g)then(h.length:Int)else(if(0:Int)>g then(0:Int)else g)).toNat->j<1->Zam l9 (0:Int) (u.take ((if(h.length:Int)<(if(0:Int)>g then(0:Int)else g)then(h.length:Int)else(if(0:Int)>g then(0:Int)else g)).toNat)) i j=Zam l9 (0:Int) u i j from(ZCO _ _)))
def Zex(b:List Zaa)(d g h:Int):Option (List Int):=ZeJ g (((b.length:Int)-(0:Int)).toNat+2) b (b.length:Int) (0:Int) ([]) b d h
theorem ZtY(b:List Zaa)(d g h:Int)(r:List Int)(j:Zex b d g h=some r):Yp 256 [] [Yn b,Yj d,Yj g,.one (.lit (.int .u64 h))] [(l5 99999 3 1 l9 (0:Int) r)] (.one (.osl 99999 r.length)):=by
 refine Yw Tryz.func256 fun S0 w0=>?_;unfold Zex at j;exact Ye 8 [rz,rz,rz] [] ⟨[],[],[],[],[(9,9,3,1,Zam l9 (0:Int) [])],[2,4,5,7,9,12,13,14],[9,4,5,7],[]⟩ .n (ZsF S0 w0 g (((b.length:Int)-(0:Int)).toNat+2) b (b.length:Int) (0:Int) ([]) b d h r j)
theorem ZkB(b:List Zaa)(d g h:Int)(r:List Int)(j:Zex b d g h=some r):Yo 256 [Yn b,Yj d,Yj g,.one (.lit (.int .u64 h))] (.one (cL 1 l9 (0:Int) r)):=(ZtY b d g h r j).pure
def Zes(v j:List Int)(o p:Int)(t:List Int)(aU:(List Int)->Int->Int->(List Int)->(List Bool)->Option (List Int)):Nat->(List Int)->Int->Int->(List Int)->(List Bool)->Option (List Int)|0,_,_,_,_,_=>none|fu+1,d,h,b,u,g=>bif(decide (b<h))then need (0<=b/\b<(d.length:Int))<|need (0<=b/\b<(g.length:Int))<|bif(!(g.getD b.toNat false))then need ((u++([(d.getD b.toNat (0:Int))]:List Int)).length * 8<=140737488355328/\(u++([(d.getD b.toNat (0:Int))]:List Int)).length<=maxLen)<|Zes v j o p t aU fu d h (Zan b 1) (u++([(d.getD b.toNat (0:Int))]:List Int)) g else Zes v j o p t aU fu d h (Zan b 1) u g else some u
theorem ZrO(F y:List Int)(z A:Int)(B:List Int)(aU:(List Int)->Int->Int->(List Int)->(List Bool)->Option (List Int))(eo:∀(ja:List Int)(jb jc:Int)(dm:List Int)(gj:List Bool)(r:List Int),aU ja jb jc dm gj=some r->Ys 45 S0 w0 Tryz.f255 [(l5 99999 3 1 l9 (0:Int) r)] (.one (.osl 99999 r.length)) [1,1,1,0,1,0] ⟨[(0,.one (cL 1 l9 (0:Int) F)),(5,.one (.osl 13 dm.length)),(6,.one (.osl 16 gj.length)),(17,.one (cL 1 l9 (0:Int) ja)),(18,(Yj jb)),(19,(Yj jc))],[(l5 13 3 1 l9 (0:Int) dm),(l5 16 4 1 cB false gj)]⟩):∀(v:Nat)(g:List Int)(p b:Int)(t:List Int)(h:List Bool)(r:List Int),Zes F y z A B aU v g p b t h=some r->Ys 45 S0 w0 Tryz.f255 [(l5 99999 3 1 l9 (0:Int) r)] (.one (.osl 99999 r.length)) [1,1,1,1,0,1,0] ⟨[(5,.one (.osl 5 t.length)),(6,.one (.osl 16 h.length)),(27,.one (cL 1 l9 (0:Int) g)),(28,(Yj p)),(29,(Yj b))],[(l5 5 3 1 l9 (0:Int) t),(l5 16 4 1 cB false h)]⟩:=by
 intro v;induction v with
 |zero=>
  intro g p b t h r o;simp[Zes]at o
 |succ v G=>
  intro g p b t h r o;unfold Zes at o;obtain⟨D,o⟩|⟨D,o⟩:=Zah o
  .obtain⟨I,H,o⟩:=Yt o;have O1:=(mf D I H (ltOf H));obtain⟨E,o⟩|⟨E,o⟩:=Zah o
   .obtain⟨u,o⟩:=Zao o;exact Ye 17 [rz,rz,rz,⟨[(3,.c ((t++([(g.getD b.toNat (0:Int))]:List Int)).length) (Zam l9 (0:Int) (t++([(g.getD b.toNat (0:Int))]:List Int))))],[],[],[],[],[(2,(([(g.getD b.toNat (0:Int))]:List Int).length,Zam l9 (0:Int) ([(g.getD b.toNat (0:Int))]:List Int)))],[]⟩,rz] [true,true] (lZ [5,6,27,28,29] [42,16] [(42,5)]) (my O1 E (mF (e:=l9) (0:Int) 1 (fun _=>rfl) ([(g.getD b.toNat (0:Int))]:List Int)) (Zdk (sz:=1) (e:=l9) (d:=(0:Int)) t ([(g.getD b.toNat (0:Int))]:List Int)) u.1 u.2) (G g p (Zan b 1) (t++([(g.getD b.toNat (0:Int))]:List Int)) h r o)
   .exact Ye 17 [rz,rz,rz,rz] [true,false] (lX [5,6,27,28,29] [5,16]) (mr O1 E) (G g p (Zan b 1) t h r o)
  .apply Yc o 8 [rz,rz] [false] (lZ [4] [5] [(5,99999)]) (mc D)
def ZdN(o:List Int):Nat->(List Int)->Int->Int->(List Int)->(List Bool)->Option (List Int)|0,_,_,_,_,_=>none|fu+1,d,g,b,h,j=>bif(decide (b<g))then need (0<=b/\b<(d.length:Int))<|need (0<=(d.getD b.toNat (0:Int))/\(d.getD b.toNat (0:Int))<(j.length:Int))<|ZdN o fu d g (Zan b 1) h (j.set ((d.getD b.toNat (0:Int)).toNat) true)else Zes o d g b h (ZdN o fu) (((o.length:Int)-(0:Int)).toNat+2) o (o.length:Int) (0:Int) h j
theorem ZrP(p:List Int):∀(t:Nat)(d:List Int)(j g:Int)(h:List Int)(b:List Bool)(r:List Int),ZdN p t d j g h b=some r->Ys 45 S0 w0 Tryz.f255 [(l5 99999 3 1 l9 (0:Int) r)] (.one (.osl 99999 r.length)) [1,1,1,0,1,0] ⟨[(0,.one (cL 1 l9 (0:Int) p)),(5,.one (.osl 13 h.length)),(6,.one (.osl 16 b.length)),(17,.one (cL 1 l9 (0:Int) d)),(18,(Yj j)),(19,(Yj g))],[(l5 13 3 1 l9 (0:Int) h),(l5 16 4 1 cB false b)]⟩:=by
 intro t;induction t with
 |zero=>
  intro d j g h b r o;simp[ZdN]at o
 |succ t v=>
  intro d j g h b r o;unfold ZdN at o;obtain⟨u,o⟩|⟨u,o⟩:=Zah o
  .obtain⟨z,y,o⟩:=Yt o;exact Ye 14 [rz,rz,rA [(3,.c (b.set ((d.getD g.toNat (0:Int)).toNat) true).length (Zam cB false (b.set ((d.getD g.toNat (0:Int)).toNat) true)))],rz] [true] ⟨[],[],[],[(16,((b.set ((d.getD g.toNat (0:Int)).toNat) true).length))],[],[0,5,6,17,18,19],[13,16],[]⟩ (mi u z y (show (b.set ((d.getD g.toNat (0:Int)).toNat) true).length=b.length from List.length_set) (ltOf y) (show ExtU 1 b.length (Zam cB false b) ((d.getD g.toNat (0:Int)).toNat) 0 (cB true) (Zam cB false (b.set ((d.getD g.toNat (0:Int)).toNat) true))from(ZhL _ _ _ rfl)) (mH ((b.set ((d.getD g.toNat (0:Int)).toNat) true).length))) (v d j (Zan g 1) h (b.set ((d.getD g.toNat (0:Int)).toNat) true) r o)
  .exact Ye 10 [rz,rz] [false] (lZ [5,6,27,28,29] [13,16] [(13,5)]) (mc u) (ZrO S0 w0 p d j g h (ZdN p t) v (((p.length:Int)-(0:Int)).toNat+2) p (p.length:Int) (0:Int) h b r o)
def ZeI(b d:List Int):Option (List Int):=need (0<=(0:Int)/\(0:Int)<=(b.length:Int)/\(b.length:Int)<=140737488355328/\(b.length:Int) * 8<=140737488355328)<|need (0<=(b.length:Int)/\(b.length:Int)<=(b.length:Int)/\(b.length:Int)<=140737488355328/\(b.length:Int) * 1<=140737488355328)<|ZdN b (((d.length:Int)-(0:Int)).toNat+2) d (d.length:Int) (0:Int) ([]:List Int) (List.replicate (b.length:Int).toNat false)
theorem Zjg(b d r:List Int)(g:ZeI b d=some r):Yp 255 [] [.one (cL 1 l9 (0:Int) b),.one (cL 1 l9 (0:Int) d)] [(l5 99999 3 1 l9 (0:Int) r)] (.one (.osl 99999 r.length)):=by
 refine Yw Tryz.func255 fun S0 w0=>?_;unfold ZeI at g;obtain⟨o1,o2,g⟩:=Yt g;exact Ye 10 [rz,rA [(2,.c 0 (Zam l9 (0:Int) ([]:List Int)))],rA [(2,.c ((b.length:Int).toNat) (Zam cB false (List.replicate (b.length:Int).toNat false)))],rz] [] ⟨[],[],[],[(13,(([]:List Int).length)),(16,((List.replicate (b.length:Int).toNat false).length))],[],[0,5,6,17,18,19],[13,16],[]⟩ (.c (show (0:Int)=((0:Nat):Int)from rfl) (.c o1.2.1 (mn o1.2.2.1 o1.2.2.2 (show ∀i j,i<0->j<1->ZpM (([.lit (.int .i64 (0))]:List C).getD j .junk) (Zam l9 (0:Int) ([]:List Int) i j)from(fun i j h=>absurd h (Nat.not_lt_zero i))) (show (b.length:Int)=(((b.length:Int).toNat:Nat):Int)from(Int.toNat_of_nonneg o2.1).symm) (show (((b.length:Int).toNat:Nat):Int)<=(b.length:Int)from((Int.toNat_of_nonneg o2.1).symm ▸ o2.2.1)) o2.2.2.1 o2.2.2.2 (show ∀i j,i<(b.length:Int).toNat->j<1->ZpM (([.lit (.bool false)]:List C).getD j .junk) (Zam cB false (List.replicate (b.length:Int).toNat false) i j)from(Zmu (fun j hj=>.inl rfl) _)) (show ([]:List Int).length=0 from rfl) (show (List.replicate (b.length:Int).toNat false).length=(b.length:Int).toNat from List.length_replicate)))) (ZrP S0 w0 b (((d.length:Int)-(0:Int)).toNat+2) d (d.length:Int) (0:Int) ([]:List Int) (List.replicate (b.length:Int).toNat false) r g)
end Go.Proofs.YtmnloegcpaahcaaGreat
