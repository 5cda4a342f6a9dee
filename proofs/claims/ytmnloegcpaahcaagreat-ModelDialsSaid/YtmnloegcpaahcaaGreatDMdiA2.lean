import Derived.Test.YtmnloegcpaahcaaGreatDMdiA1
namespace Go.Proofs.YtmnloegcpaahcaaGreat
open Go.RowKit Go.Lib Go.Shelf
set_option linter.unusedVariables false
set_option maxRecDepth 100000
variable (S0:Nat->Prop)(w0:ZaU)
def Zdk(b:ZaB)(d:Zaj)(e:Int):Option Bool:=(ZfZ b d).bind fun f=>bif(!f)then(Zit b.fBans d.fAddr e).bind fun g=>bif(g==(0:Int))then(ZkW b.fPeers b.fBook d.fAddr).bind fun h=>some h else some false else some false
theorem Zno(g:ZaB)(h:Zaj)(i:Int)(r:Bool)(b:Zdk g h i=some r):Yp 104 [.agg (ZaB.c g),.agg (Zaj.c h),Yj i] (Yk r):=by
 refine Yv Tryz.func104 fun S0 w0=>?_;unfold Zdk at b;obtain⟨d,j,b⟩:=Zad b;obtain⟨e,b⟩|⟨e,b⟩:=Zag b
 .obtain⟨o,p,b⟩:=Zad b;have O1:=(mo (ZkF _ _ _ j) e (Zrg _ _ _ _ p));obtain⟨f,b⟩|⟨f,b⟩:=Zag b
  .obtain⟨t,u,b⟩:=Zad b;apply Ya b 4 [rz,⟨[(2,aB d),(10,aI o),(20,aB t)],[(4,true),(13,true)],[],[],[],[],[]⟩] [] (mD O1 f (ZuQ _ _ _ _ u))
  .apply Ya b 4 [rz,⟨[(2,aB d),(10,aI o)],[(4,true),(13,false)],[],[],[],[],[]⟩] [] (mC O1 f)
 .apply Ya b 4 [rz,⟨[(2,aB d)],[(4,false)],[],[],[],[],[]⟩] [] (mn (ZkF _ _ _ j) e)
def ZmP(b:Zab)(c0:Int):Option Bool:=(ZlM b c0).bind fun d=>some d
theorem Zqe(d:Zab)(c0:Int)(r:Bool)(b:ZmP d c0=some r):Yp 301 [.agg (Zab.c d),.one (.rp false 1 (fun j=>([.lit (.int .i64 c0)]:List C).getD (0+j) .junk))] (Yk r):=by
 refine Yv Tryz.func301 fun S0 w0=>?_;unfold ZmP at b;obtain⟨e,f,b⟩:=Zad b;apply Ya b 4 [rz,rA [(2,aB e)]] [] (ml (Zse _ _ _ f))
def ZbY(e:Int):Nat->(List Zab)->Int->Int->(List Zaf)->Option (List Zaf)|0,_,_,_,_=>none|fu+1,f,g,b,h=>bif(decide (b<g))then need (0<=b/\b<(f.length:Int))<|(Zht (f.getD b.toNat Zab.d)).bind fun i=>bif i then(ZmP (f.getD b.toNat Zab.d) e).bind fun j=>bif j then need ((h++([(Zaf.mk ((f.getD b.toNat Zab.d).fNext) ((f.getD b.toNat Zab.d).fEnd))]:List Zaf)).length * 40<=140737488355328/\(h++([(Zaf.mk ((f.getD b.toNat Zab.d).fNext) ((f.getD b.toNat Zab.d).fEnd))]:List Zaf)).length<=maxLen)<|ZbY e fu f g (Zaq b 1) (h++([(Zaf.mk ((f.getD b.toNat Zab.d).fNext) ((f.getD b.toNat Zab.d).fEnd))]:List Zaf))else ZbY e fu f g (Zaq b 1) h else ZbY e fu f g (Zaq b 1) h else(Zjs h).bind fun n=>some n
theorem Znq(p:Int):∀(u:Nat)(f:List Zab)(h b:Int)(o r:List Zaf),ZbY p u f h b o=some r->Ys 33 S0 w0 Tryz.f300 [(me 99999 343 5 Zaf.c Zaf.d r)] (.one (.osl 99999 r.length)) [1,1,0,1,0] ⟨[(1,.one (mg 301 0 1 [] [mh [.lit (.int .i64 p)]])),(5,.one (.osl 5 o.length)),(9,(Yn f)),(10,(Yj h)),(11,(Yj b))],[(me 5 343 5 Zaf.c Zaf.d o)]⟩:=by
 intro u;induction u with
 |zero=>
  intro f h b o r g;simp[ZbY]at g
 |succ u z=>
  intro f h b o r g;unfold ZbY at g;obtain⟨A,g⟩|⟨A,g⟩:=Zag g
  .obtain⟨G,g⟩:=Zao g;obtain⟨D,H,g⟩:=Zad g;have O1:=(mo A G (ZiU _ _ H));obtain⟨v,g⟩|⟨v,g⟩:=Zag g
   .obtain⟨I,E,g⟩:=Zad g
    let R2:List RA:=[rz,rz,⟨[(1,aB D),(5,aB I)],[(2,true)],[],[],[],[],[]⟩]
    obtain⟨B,g⟩|⟨B,g⟩:=Zag g
    .obtain⟨F,g⟩:=Zao g;exact Ye 17 (R2++[⟨[(7,.c ((o++([(Zaf.mk ((f.getD b.toNat Zab.d).fNext) ((f.getD b.toNat Zab.d).fEnd))]:List Zaf)).length) (Zam Zaf.c Zaf.d (o++([(Zaf.mk ((f.getD b.toNat Zab.d).fNext) ((f.getD b.toNat Zab.d).fEnd))]:List Zaf))))],[],[],[],[],[(6,(([(Zaf.mk ((f.getD b.toNat Zab.d).fNext) ((f.getD b.toNat Zab.d).fEnd))]:List Zaf).length,Zam Zaf.c Zaf.d ([(Zaf.mk ((f.getD b.toNat Zab.d).fNext) ((f.getD b.toNat Zab.d).fEnd))]:List Zaf)))],[]⟩,rz]) [true,true] (md [1,5,9,10,11] [29] [(29,5)]) (mI O1 v (Zqe _ _ _ E) B (mN (e:=Zaf.c) Zaf.d 5 (fun _=>rfl) ([(Zaf.mk ((f.getD b.toNat Zab.d).fNext) ((f.getD b.toNat Zab.d).fEnd))]:List Zaf)) (Zcq (sz:=5) (e:=Zaf.c) (d:=Zaf.d) o ([(Zaf.mk ((f.getD b.toNat Zab.d).fNext) ((f.getD b.toNat Zab.d).fEnd))]:List Zaf)) F.1 F.2) (z f h (Zaq b 1) (o++([(Zaf.mk ((f.getD b.toNat Zab.d).fNext) ((f.getD b.toNat Zab.d).fEnd))]:List Zaf)) r g)
    .exact Ye 17 (R2++[rz]) [true,false] (ma [1,5,9,10,11] [5]) (mE O1 v (Zqe _ _ _ E) B) (z f h (Zaq b 1) o r g)
   .exact Ye 17 [rz,rz,⟨[(1,aB D)],[(2,false)],[],[],[],[],[]⟩,rz] [true,false] (ma [1,5,9,10,11] [5]) (mD O1 v (mP false)) (z f h (Zaq b 1) o r g)
  .obtain⟨t,J,g⟩:=Zad g;apply Yc g 8 [rz,rH [] [(1,⟨[],[(99999,32)],[(me 99999 343 5 Zaf.c Zaf.d t)],.one (.osl 99999 t.length)⟩)]] [false] (md [4] [32] [(32,99999)]) (mo A (ZqP _ _ J) (show ∀i j,i<t.length->j<5->∃y,Zam Zaf.c Zaf.d t i j=.lit y from(ZDr (sz:=5) (e:=Zaf.c) (d:=Zaf.d) (fun _=>rfl) (fun _=>rfl) _ _)))
def ZeE(d:ZaB)(b:Int):Option (List Zaf):=ZbY b (((d.fBook.length:Int)-(0:Int)).toNat+2) d.fBook (d.fBook.length:Int) (0:Int) ([])
theorem Zox(e:ZaB)(b:Int)(r:List Zaf)(f:ZeE e b=some r):Yq 300 [] [.agg (ZaB.c e),.one (mg 301 0 1 [] [mh [.lit (.int .i64 b)]])] [(me 99999 343 5 Zaf.c Zaf.d r)] (.one (.osl 99999 r.length)):=by
 refine Yw Tryz.func300 fun S0 w0=>?_;unfold ZeE at f;exact Ye 8 [rz,rz,rz] [] ⟨[],[],[],[],[(5,5,343,5,Zam Zaf.c Zaf.d [])],[1,5,9,10,11],[5],[]⟩ .n (Znq S0 w0 b (((e.fBook.length:Int)-(0:Int)).toNat+2) e.fBook (e.fBook.length:Int) (0:Int) ([]) r f)
theorem Zpj(d:ZaB)(b:Int)(r:List Zaf)(e:ZeE d b=some r):Yp 300 [.agg (ZaB.c d),.one (mg 301 0 1 [] [mh [.lit (.int .i64 b)]])] (Yo r):=(Zox d b r e).pure
def ZhN(d:Int):Nat->(List Zaf)->ZaB->Zaj->Option (Zaj×Bool)|0,_,_,_=>none|fu+1,f,e,g=>(ZlL f).bind fun b=>bif(!b.2.2)then some (b.1.fEnd,b.2.2)else(Zdk e b.1.fEnd d).bind fun h=>bif h then some (b.1.fEnd,b.2.2)else ZhN d fu b.2.1 e g
theorem Zus(t:Int):∀(g:Nat)(h:List Zaf)(f:ZaB)(e:Zaj)(r:(Zaj×Bool)),ZhN t g h f e=some r->Yr 32 S0 w0 Tryz.f226 (.tup [(true,Zaj.c r.1),(false,cB r.2)]) [1,1,0] ⟨[(2,.one (.ptr 2 0)),(3,.one (.rp false 1 (fun j=>([.lit (.int .i64 t)]:List C).getD (0+j) .junk))),(4,.one (.ptr 4 0)),(6,(Yo h))],[(2,.box (ZaB.c f)),(4,.box (Zaj.c e))]⟩:=by
 intro g;induction g with
 |zero=>
  intro h f e r b;simp[ZhN]at b
 |succ g v=>
  intro h f e r b;unfold ZhN at b;obtain⟨i,u,b⟩:=Zad b
  let R1:List RA:=[rA [(1,.r (.tup [(true,Zaf.c i.1),(false,(cLs 5 Zaf.c Zaf.d) i.2.1),(false,cB i.2.2)]) [])]]
  obtain⟨o,b⟩|⟨o,b⟩:=Zag b
  .apply Ya b 10 (R1++[rB [(2,true)],rz]) [true] (mo (ZpG _ _ u) o (mP true))
  .obtain⟨y,z,b⟩:=Zad b
   let R2:List RA:=(R1++[⟨[(7,aB y)],[(2,false)],[],[],[],[],[]⟩,rz])
   have O3:=(mo (ZpG _ _ u) o (Zno _ _ _ _ z));obtain⟨p,b⟩|⟨p,b⟩:=Zag b
   .apply Ya b 10 R2 [true] (mC O3 p)
   .exact Ye 12 R2 [false] (ma [2,3,4,6] [2,4]) (mC O3 p) (v i.2.1 f e r b)
def Zjx(b:ZaB)(d:Int):Option (Zaj×Bool):=(ZeE b d).bind fun e=>ZhN d 1000000 e b (Zaj.mk (Zah.mk false 0 0) 0)
theorem Zxu(d:ZaB)(e:Int)(r:(Zaj×Bool))(b:Zjx d e=some r):Yp 226 [.agg (ZaB.c d),Yj e] (.tup [(true,Zaj.c r.1),(false,cB r.2)]):=by
 refine Yv Tryz.func226 fun S0 w0=>?_;unfold Zjx at b;obtain⟨f,g,b⟩:=Zad b;exact Ye 5 [rz,⟨[(2,.r (Yo f) [])],[],[(1,[3])],[],[],[],[]⟩] [] (ma [2,3,4,6] [2,4]) (ml (Zpj _ _ _ g)) (Zus S0 w0 e 1000000 f d Zaj.d r b)
def Zlm(b:Zab)(c0:Int):Option Bool:=bif(b.fState==(1:Int))then some (decide (b.fNext>c0))else some false
theorem Zqd(e:Zab)(c0:Int)(r:Bool)(b:Zlm e c0=some r):Yp 303 [.agg (Zab.c e),.one (.rp false 1 (fun j=>([.lit (.int .i64 c0)]:List C).getD (0+j) .junk))] (Yk r):=by
 refine Yv Tryz.func303 fun S0 w0=>?_;unfold Zlm at b;obtain⟨d,b⟩|⟨d,b⟩:=Zag b
 .apply Ya b 4 [rz,rB [(3,true)]] [] (ml d)
 .apply Ya b 4 [rz,rB [(3,false)]] [] (ml d)
def ZbX(e:Int):Nat->(List Zab)->Int->Int->(List Zaf)->Option (List Zaf)|0,_,_,_,_=>none|fu+1,f,g,b,h=>bif(decide (b<g))then need (0<=b/\b<(f.length:Int))<|(Zht (f.getD b.toNat Zab.d)).bind fun i=>bif i then(Zlm (f.getD b.toNat Zab.d) e).bind fun j=>bif j then need ((h++([(Zaf.mk ((f.getD b.toNat Zab.d).fNext) ((f.getD b.toNat Zab.d).fEnd))]:List Zaf)).length * 40<=140737488355328/\(h++([(Zaf.mk ((f.getD b.toNat Zab.d).fNext) ((f.getD b.toNat Zab.d).fEnd))]:List Zaf)).length<=maxLen)<|ZbX e fu f g (Zaq b 1) (h++([(Zaf.mk ((f.getD b.toNat Zab.d).fNext) ((f.getD b.toNat Zab.d).fEnd))]:List Zaf))else ZbX e fu f g (Zaq b 1) h else ZbX e fu f g (Zaq b 1) h else(Zjs h).bind fun n=>some n
theorem Znp(p:Int):∀(u:Nat)(f:List Zab)(h b:Int)(o r:List Zaf),ZbX p u f h b o=some r->Ys 33 S0 w0 Tryz.f300 [(me 99999 343 5 Zaf.c Zaf.d r)] (.one (.osl 99999 r.length)) [1,1,0,1,0] ⟨[(1,.one (mg 303 0 1 [] [mh [.lit (.int .i64 p)]])),(5,.one (.osl 5 o.length)),(9,(Yn f)),(10,(Yj h)),(11,(Yj b))],[(me 5 343 5 Zaf.c Zaf.d o)]⟩:=by
 intro u;induction u with
 |zero=>
  intro f h b o r g;simp[ZbX]at g
 |succ u z=>
  intro f h b o r g;unfold ZbX at g;obtain⟨A,g⟩|⟨A,g⟩:=Zag g
  .obtain⟨G,g⟩:=Zao g;obtain⟨D,H,g⟩:=Zad g;have O1:=(mo A G (ZiU _ _ H));obtain⟨v,g⟩|⟨v,g⟩:=Zag g
   .obtain⟨I,E,g⟩:=Zad g
    let R2:List RA:=[rz,rz,⟨[(1,aB D),(5,aB I)],[(2,true)],[],[],[],[],[]⟩]
    obtain⟨B,g⟩|⟨B,g⟩:=Zag g
    .obtain⟨F,g⟩:=Zao g;exact Ye 17 (R2++[⟨[(7,.c ((o++([(Zaf.mk ((f.getD b.toNat Zab.d).fNext) ((f.getD b.toNat Zab.d).fEnd))]:List Zaf)).length) (Zam Zaf.c Zaf.d (o++([(Zaf.mk ((f.getD b.toNat Zab.d).fNext) ((f.getD b.toNat Zab.d).fEnd))]:List Zaf))))],[],[],[],[],[(6,(([(Zaf.mk ((f.getD b.toNat Zab.d).fNext) ((f.getD b.toNat Zab.d).fEnd))]:List Zaf).length,Zam Zaf.c Zaf.d ([(Zaf.mk ((f.getD b.toNat Zab.d).fNext) ((f.getD b.toNat Zab.d).fEnd))]:List Zaf)))],[]⟩,rz]) [true,true] (md [1,5,9,10,11] [29] [(29,5)]) (mI O1 v (Zqd _ _ _ E) B (mN (e:=Zaf.c) Zaf.d 5 (fun _=>rfl) ([(Zaf.mk ((f.getD b.toNat Zab.d).fNext) ((f.getD b.toNat Zab.d).fEnd))]:List Zaf)) (Zcq (sz:=5) (e:=Zaf.c) (d:=Zaf.d) o ([(Zaf.mk ((f.getD b.toNat Zab.d).fNext) ((f.getD b.toNat Zab.d).fEnd))]:List Zaf)) F.1 F.2) (z f h (Zaq b 1) (o++([(Zaf.mk ((f.getD b.toNat Zab.d).fNext) ((f.getD b.toNat Zab.d).fEnd))]:List Zaf)) r g)
    .exact Ye 17 (R2++[rz]) [true,false] (ma [1,5,9,10,11] [5]) (mE O1 v (Zqd _ _ _ E) B) (z f h (Zaq b 1) o r g)
   .exact Ye 17 [rz,rz,⟨[(1,aB D)],[(2,false)],[],[],[],[],[]⟩,rz] [true,false] (ma [1,5,9,10,11] [5]) (mD O1 v (mP false)) (z f h (Zaq b 1) o r g)
  .obtain⟨t,J,g⟩:=Zad g;apply Yc g 8 [rz,rH [] [(1,⟨[],[(99999,32)],[(me 99999 343 5 Zaf.c Zaf.d t)],.one (.osl 99999 t.length)⟩)]] [false] (md [4] [32] [(32,99999)]) (mo A (ZqP _ _ J) (show ∀i j,i<t.length->j<5->∃y,Zam Zaf.c Zaf.d t i j=.lit y from(ZDr (sz:=5) (e:=Zaf.c) (d:=Zaf.d) (fun _=>rfl) (fun _=>rfl) _ _)))
def ZfY(d:ZaB)(b:Int):Option (List Zaf):=ZbX b (((d.fBook.length:Int)-(0:Int)).toNat+2) d.fBook (d.fBook.length:Int) (0:Int) ([])
theorem Zow(e:ZaB)(b:Int)(r:List Zaf)(f:ZfY e b=some r):Yq 300 [] [.agg (ZaB.c e),.one (mg 303 0 1 [] [mh [.lit (.int .i64 b)]])] [(me 99999 343 5 Zaf.c Zaf.d r)] (.one (.osl 99999 r.length)):=by
 refine Yw Tryz.func300 fun S0 w0=>?_;unfold ZfY at f;exact Ye 8 [rz,rz,rz] [] ⟨[],[],[],[],[(5,5,343,5,Zam Zaf.c Zaf.d [])],[1,5,9,10,11],[5],[]⟩ .n (Znp S0 w0 b (((e.fBook.length:Int)-(0:Int)).toNat+2) e.fBook (e.fBook.length:Int) (0:Int) ([]) r f)
theorem Zpi(d:ZaB)(b:Int)(r:List Zaf)(e:ZfY d b=some r):Yp 300 [.agg (ZaB.c d),.one (mg 303 0 1 [] [mh [.lit (.int .i64 b)]])] (Yo r):=(Zow d b r e).pure
def Zjw(b:ZaB)(d:Int):Option Int:=(ZfY b d).bind fun e=>(ZlL e).bind fun f=>some f.1.fKey
theorem Zxt(f:ZaB)(g r:Int)(b:Zjw f g=some r):Yp 227 [.agg (ZaB.c f),Yj g] (Yj r):=by
 refine Yv Tryz.func227 fun S0 w0=>?_;unfold Zjw at b;obtain⟨h,e,i,j,b⟩:=Yu b;apply Ya b 6 [rz,⟨[(2,.r (Yo h) []),(3,.r (.tup [(true,Zaf.c e.1),(false,(cLs 5 Zaf.c Zaf.d) e.2.1),(false,cB e.2.2)]) [])],[],[(1,[3])],[],[],[],[]⟩,rz] [] (mn (Zpi _ _ _ i) (ZpG _ _ j))
def ZmQ(b:Zab)(c0:Zaj):Option Bool:=some (decide (b.fEnd=c0))
theorem ZuZ(b:Zab)(c0:Zaj)(r:Bool)(d:ZmQ b c0=some r):Yp 253 [.agg (Zab.c b),.one (.rp false 4 (fun j=>(Zaj.c c0:List C).getD (0+j) .junk))] (Yk r):=by
 refine Yv Tryz.func253 fun S0 w0=>?_;unfold ZmQ at d;apply Ya d 4 [rz,rA [(3,aB (decide (b.fEnd=c0)))]] [] (ml (ZhG b.fEnd c0 (.tmp 5) (.tmp 6)))
def ZaR(f:List Zab)(b:Zaj):Nat->Int->Int->Option Int|0,_,_=>none|fu+1,g,e=>bif(decide (e<g))then need (0<=e/\e<(f.length:Int))<|(ZmQ (f.getD e.toNat Zab.d) b).bind fun h=>bif h then some e else ZaR f b fu g (Zaq e 1)else some (-1:Int)
theorem Zhs(p:List Zab)(d:Zaj):∀(g:Nat)(e f r:Int),ZaR p d g e f=some r->Yr 19 S0 w0 Tryz.f252 (Yj r) [1,0,1,0] ⟨[(0,(Yn p)),(1,.one (mg 253 0 1 [] [.rp false 4 (fun j=>(Zaj.c d:List C).getD (0+j) .junk)])),(7,(Yj e)),(8,(Yj f))],[]⟩:=by
 intro g;induction g with
 |zero=>
  intro e f r b;simp[ZaR]at b
 |succ g u=>
  intro e f r b;unfold ZaR at b;obtain⟨h,b⟩|⟨h,b⟩:=Zag b
  .obtain⟨v,b⟩:=Zao b;obtain⟨t,y,b⟩:=Zad b;have O1:=(mo h v (ZuZ _ _ _ y));obtain⟨o,b⟩|⟨o,b⟩:=Zag b
   .apply Ya b 15 [rz,rz,rA [(5,aB t)],rz] [true,true] (mC O1 o)
   .exact Ye 17 [rz,rz,rA [(5,aB t)],rz] [true,false] (Yi [0,1,7,8]) (mC O1 o) (u e (Zaq f 1) r b)
  .apply Ya b 8 [rz,rz] [false] (ml h)
def Zcj(d:List Zab)(b:Zaj):Option Int:=ZaR d b (((d.length:Int)-(0:Int)).toNat+2) (d.length:Int) (0:Int)
theorem Zib(d:List Zab)(b:Zaj)(r:Int)(e:Zcj d b=some r):Yp 252 [Yn d,.one (mg 253 0 1 [] [.rp false 4 (fun j=>(Zaj.c b:List C).getD (0+j) .junk)])] (Yj r):=by
 refine Yv Tryz.func252 fun S0 w0=>?_;unfold Zcj at e;exact Ye 6 [rz,rz] [] (Yi [0,1,7,8]) .n (Zhs S0 w0 d b (((d.length:Int)-(0:Int)).toNat+2) (d.length:Int) (0:Int) r e)
def Zkx(b:List Zab)(d:Zaj):Option Int:=(Zcj b d).bind fun e=>some e
theorem Zoy(d:List Zab)(e:Zaj)(r:Int)(b:Zkx d e=some r):Yp 179 [Yn d,.agg (Zaj.c e)] (Yj r):=by
 refine Yv Tryz.func179 fun S0 w0=>?_;unfold Zkx at b;obtain⟨f,g,b⟩:=Zad b;apply Ya b 4 [rz,⟨[(2,aI f)],[],[(1,[3])],[],[],[],[]⟩] [] (ml (Zib _ _ _ g))
def ZpH(b:Zab):Option Zab:=some (Zab.mk b.fEnd 2 b.fFails b.fNext)
theorem Zxs(b r:Zab)(d:ZpH b=some r):Yp 229 [.agg (Zab.c b)] (.agg (Zab.c r)):=by
 refine Yv Tryz.func229 fun S0 w0=>?_;unfold ZpH at d;apply Ya d 6 [rz,rz,rz] [] .n
def Zch(b:List Zab):Option (List Zab):=need (0<b.length)<|need ((([]:List Zab)++b).length * 56<=140737488355328/\(([]:List Zab)++b).length<=maxLen)<|some (([]:List Zab)++b)
theorem Zgc(b r:List Zab)(f:Zch b=some r):Yq 298 [] [Yn b] [(me 99999 113 7 Zab.c Zab.d r)] (.one (.osl 99999 r.length)):=by
 refine Yw Tryz.func298 fun S0 w0=>?_;unfold Zch at f;obtain⟨o1,g,f⟩:=Yt f;apply Yc f 9 [rz,rz,rA [(0,.c ([]:List Zab).length (Zam Zab.c Zab.d ([]:List Zab))),(2,.c ((([]:List Zab)++b).length) (Zam Zab.c Zab.d (([]:List Zab)++b)))]] [false] (md [2] [7] [(7,99999)]) (mu o1 (mP false) (show ([]:List Zab).length=0 from rfl) (mQ (e:=Zab.c) Zab.d 7 (fun _=>rfl) ([]:List Zab)) (Zcq (sz:=7) (e:=Zab.c) (d:=Zab.d) ([]:List Zab) b) g.1 g.2)
theorem Zgq(x:Addr)(cap:Nat)(c:Nat->Nat->C):Yq 298 [] [.one (.lit (.slice (some x) 0 cap))] [(99999,.rows 113 7 0 c)] (.one (.osl 99999 0)):=by
 refine Yw Tryz.func298 fun S0 w0=>?_;exact Zkt Zal 9 _ _ [⟨[],[],[],[],[],[],[]⟩,⟨[(1,.r (Yk false) [])],[],[],[],[],[],[]⟩,⟨[(0,.c 0 c),(2,.c 0 c)],[],[],[],[],[],[]⟩] [false] (md [2] [7] [(7,99999)])
  [∀w,(do eqGuard .eql 46 (.tmp 3) (.const (.slice none 0 0)) (.slice (some x) 0 cap) (.slice none 0 0);binOp .eql 46 (.slice (some x) 0 cap) (.slice none 0 0):Sem Value).run Tryz.prog w=.ok (.bool false) w,false=false,0=0,∀i j,i<0->j<7->c i j=([]:List C).getD (i * 7+j) .junk,Ext 7 0 0 c (fun _ _=>.junk) 0 c,0 * 56<=140737488355328,0<=maxLen] (by kernel_rfl) ⟨fun w=>by
   have hg:(eqGuard .eql 46 (.tmp 3) (.const (.slice none 0 0)) (.slice (some x) 0 cap) (.slice none 0 0)).run Tryz.prog w=.ok () w:=by simp[eqGuard]
   rw[Sem.run_bind,hg,Result.andThen_ok];exact Go.run_eql_slice_nil w _ _ (some x) 0 cap Tryz.underlying46,rfl,rfl,fun i j h=>absurd h (Nat.not_lt_zero i),⟨rfl,fun _ _ h=>absurd h (Nat.not_lt_zero _),fun _ _ h=>absurd h (Nat.not_lt_zero _)⟩,by decide,by decide,trivial⟩
theorem Zgp(cap:Nat)(c:Nat->Nat->C):Yq 298 [] [.one (.lit (.slice none 0 cap))] [(99999,.rows 113 7 0 c)] (.one (.osl 99999 0)):=by
 refine Yw Tryz.func298 fun S0 w0=>?_;exact Zkt Zal 8 _ _ [⟨[],[],[],[],[],[],[]⟩,⟨[(1,.r (Yk true) [])],[],[],[],[],[],[]⟩,⟨[],[],[],[],[],[],[]⟩] [true] ⟨[],[],[],[],[(2,99999,113,7,c)],[2],[99999],[]⟩
  [∀w,(do eqGuard .eql 46 (.tmp 3) (.const (.slice none 0 0)) (.slice none 0 cap) (.slice none 0 0);binOp .eql 46 (.slice none 0 cap) (.slice none 0 0):Sem Value).run Tryz.prog w=.ok (.bool true) w,true=true] (by kernel_rfl) ⟨fun w=>by
   have hg:(eqGuard .eql 46 (.tmp 3) (.const (.slice none 0 0)) (.slice none 0 cap) (.slice none 0 0)).run Tryz.prog w=.ok () w:=by simp[eqGuard]
   rw[Sem.run_bind,hg,Result.andThen_ok];exact Go.run_eql_slice_nil w _ _ none 0 cap Tryz.underlying46,rfl,trivial⟩
def ZbO(b:List Zab):Option (List Zab):=need (b.length * 56<=140737488355328/\b.length<=maxLen)<|some b
theorem Zgo(b r:List Zab)(e:ZbO b=some r):Yq 298 [] [Yn b] [(99999,.rows 113 7 r.length (Zam Zab.c Zab.d r))] (.one (.osl 99999 r.length)):=by
 obtain⟨o1,e⟩:=Zao e;cases e;refine ZsL ⟨_,Tryz.func298,rfl,rfl⟩ (fun h cap=>?_) (fun h x cap=>?_) (fun h=>?_)
 .rw[h];exact Zgp cap _
 .rw[h];exact Zgq x cap _
 .refine Zgc b b ?_;unfold Zch;rw[ZrB h,ZrB (by simpa using o1)];simp
def ZmY(e:List Zab)(f:Zab):Option (List Zab):=(ZbO e).bind fun d=>(Zkx e f.fEnd).bind fun b=>bif(decide (b>=(0:Int)))then need (0<=b/\b<(d.length:Int))<|some (d.set b.toNat f)else some d
theorem Zxw(i:List Zab)(f:Zab)(r:List Zab)(e:ZmY i f=some r):Yq 228 [] [Yn i,.agg (Zab.c f)] [(me 99999 113 7 Zab.c Zab.d r)] (.one (.osl 99999 r.length)):=by
 refine Yw Tryz.func228 fun S0 w0=>?_;unfold ZmY at e;obtain⟨b,o,e⟩:=Zad e;obtain⟨g,p,e⟩:=Zad e
 let R1:List RA:=[rz,rH [] [(1,⟨[],[(99999,8)],[(me 99999 113 7 Zab.c Zab.d b)],.one (.osl 99999 b.length)⟩)],rA [(3,aI g)],rz]
 have O2:=(mn (Zgo _ _ o) (Zoy _ _ _ p));obtain⟨h,e⟩|⟨h,e⟩:=Zag e
 .obtain⟨j,e⟩:=Zao e;apply Yc e 13 (R1++[rA [(4,.c (b.set g.toNat f).length (Zam Zab.c Zab.d (b.set g.toNat f)))],rz]) [true] ⟨[],[],[],[(99999,(b.set g.toNat f).length)],[],[4],[8],[(8,99999)]⟩ (mH O2 h j (show (b.set g.toNat f).length=b.length from List.length_set) (ltOf j) (show ExtU 7 b.length (Zam Zab.c Zab.d b) g.toNat 0 (Zab.c f) (Zam Zab.c Zab.d (b.set g.toNat f))from(Zio _ _ _ rfl)) (mP ((b.set g.toNat f).length)))
 .apply Yc e 13 (R1++[rz]) [false] (md [4] [8] [(8,99999)]) (mC O2 h)
theorem Zzp(b:List Zab)(d:Zab)(r:List Zab)(e:ZmY b d=some r):Yp 228 [Yn b,.agg (Zab.c d)] (Yn r):=(Zxw b d r e).pure
def Zie(b:ZaK):Option (Zap×ZaK):=(Zid b.fs).bind fun g=>bif(decide (g>=b.fc.fMaxOut))then(Zic (5:Int)).bind fun h=>some (h,b)else(Zjx (ZaB.mk b.fs.fBook b.fs.fPeers b.fs.fBans) b.fx.fNow).bind fun e=>bif(!e.2)then(Zjw (ZaB.mk b.fs.fBook b.fs.fPeers b.fs.fBans) b.fx.fNow).bind fun i=>some ((Zap.mk 6 (Zaj.mk (Zah.mk false 0 0) 0) 0 i ([]:(List Zaa))),b)else(Zkx b.fs.fBook e.1).bind fun f=>need (0<=f/\f<(b.fs.fBook.length:Int))<|(ZpH (b.fs.fBook.getD f.toNat Zab.d)).bind fun j=>(ZmY b.fs.fBook j).bind fun n=>some ((Zap.mk 0 e.1 0 0 ([]:(List Zaa))),(ZaK.mk b.fc (Zan.mk b.fs.fBans n b.fs.fPeers) b.fx))
theorem ZqM(h:ZaK)(r:(Zap×ZaK))(b:Zie h=some r):Yq 161 [(100000,.box (ZaK.c h))] [.one (.ptr 100000 0)] [(100000,.box (ZaK.c r.2))] (.agg (Zap.c r.1)):=by
 refine Yw Tryz.func161 fun S0 w0=>?_;unfold Zie at b;obtain⟨i,j,b⟩:=Zad b;obtain⟨e,b⟩|⟨e,b⟩:=Zag b
 .obtain⟨p,t,b⟩:=Zad b;obtain rfl:=oi b;exact Yd 8 [rz,rA [(4,aI i)],rA [(0,aG (Zap.c p))]] [true] (ma [2] [2,100000]) (mo (Zjf _ _ j) e (Zje _ _ t))
 .obtain⟨o,u,b⟩:=Zad b
  let R1:List RA:=[rz,rA [(4,aI i)],rz,rA [(6,.r (.tup [(true,Zaj.c o.1),(false,cB o.2)]) [])],rz]
  have O2:=(mo (Zjf _ _ j) e (Zxu _ _ _ u));obtain⟨f,b⟩|⟨f,b⟩:=Zag b
  .obtain⟨v,y,b⟩:=Zad b;obtain rfl:=oi b;exact Yd 17 (R1++[rA [(6,aI v)]]) [false,true] (mc [(2,[(7,cL 10 Zaa.c Zaa.d [])])] [2] [2,100000]) (mD O2 f (Zxt _ _ _ y))
  .obtain⟨z,A,b⟩:=Zad b;obtain⟨B,b⟩:=Zao b;obtain⟨C,D,E,g,b⟩:=Yu b;obtain rfl:=oi b;exact Yd 20 (R1++[rA [(17,aI z),(20,aG (Zab.c C)),(21,.r (Yn D) [])],rz]) [false,false] (mc [(2,[(7,cL 10 Zaa.c Zaa.d [])])] [2] [2,100000]) (mG O2 f (Zoy _ _ _ A) B (Zxs _ _ E) (Zzp _ _ _ g))
def Zil(h:List Zac)(i:Int):Nat->(List Zac)->Int->Int->(List Zac)->Option ((List Zac)×Int)|0,_,_,_,_=>none|fu+1,e,f,b,g=>bif(decide (b<f))then need (0<=b/\b<(e.length:Int))<|(Znt (e.getD b.toNat Zac.d) i).bind fun j=>bif j then need ((g++([(e.getD b.toNat Zac.d)]:List Zac)).length * 40<=140737488355328/\(g++([(e.getD b.toNat Zac.d)]:List Zac)).length<=maxLen)<|Zil h i fu e f (Zaq b 1) (g++([(e.getD b.toNat Zac.d)]:List Zac))else Zil h i fu e f (Zaq b 1) g else some (g,(ZaG (h.length:Int) (g.length:Int)))
theorem ZtA(v:List Zac)(y:Int):∀(p:Nat)(g:List Zac)(h b:Int)(o:List Zac)(r:((List Zac)×Int)),Zil v y p g h b o=some r->Yr 29 S0 w0 Tryz.f167 (.tup [(false,(cLs 5 Zac.c Zac.d) r.1),(false,mi r.2)]) [1,1,0,1,0] ⟨[(0,(Yl v)),(1,(Yj y)),(6,.one (.osl 6 o.length)),(9,(Yl g)),(10,(Yj h)),(11,(Yj b))],[(me 6 94 5 Zac.c Zac.d o)]⟩:=by
 intro p;induction p with
 |zero=>
  intro g h b o r f;simp[Zil]at f
 |succ p z=>
  intro g h b o r f;unfold Zil at f;obtain⟨t,f⟩|⟨t,f⟩:=Zag f
  .obtain⟨C,f⟩:=Zao f;obtain⟨A,D,f⟩:=Zad f;have O1:=(mo t C (Zsh _ _ _ D));obtain⟨u,f⟩|⟨u,f⟩:=Zag f
   .obtain⟨B,f⟩:=Zao f;exact Ye 17 [rz,rz,rA [(2,aB A)],⟨[(3,.c ((o++([(g.getD b.toNat Zac.d)]:List Zac)).length) (Zam Zac.c Zac.d (o++([(g.getD b.toNat Zac.d)]:List Zac))))],[],[],[],[],[(2,(([(g.getD b.toNat Zac.d)]:List Zac).length,Zam Zac.c Zac.d ([(g.getD b.toNat Zac.d)]:List Zac)))],[]⟩,rz] [true,true] (md [0,1,6,9,10,11] [21] [(21,6)]) (mG O1 u (mN (e:=Zac.c) Zac.d 5 (fun _=>rfl) ([(g.getD b.toNat Zac.d)]:List Zac)) (Zcq (sz:=5) (e:=Zac.c) (d:=Zac.d) o ([(g.getD b.toNat Zac.d)]:List Zac)) B.1 B.2) (z g h (Zaq b 1) (o++([(g.getD b.toNat Zac.d)]:List Zac)) r f)
   .exact Ye 17 [rz,rz,rA [(2,aB A)],rz] [true,false] (ma [0,1,6,9,10,11] [6]) (mC O1 u) (z g h (Zaq b 1) o r f)
  .apply Yb f 8 [rz,rz] [false] [6] [] [] (ml t)
def Zrh(b:List Zac)(d:Int):Option ((List Zac)×Int):=Zil b d (((b.length:Int)-(0:Int)).toNat+2) b (b.length:Int) (0:Int) ([])
theorem Zwz(b:List Zac)(e:Int)(r:((List Zac)×Int))(f:Zrh b e=some r):Yp 167 [Yl b,Yj e] (.tup [(false,(cLs 5 Zac.c Zac.d) r.1),(false,mi r.2)]):=by
 refine Yv Tryz.func167 fun S0 w0=>?_;unfold Zrh at f;exact Ye 8 [rz,rz,rz] [] ⟨[],[],[],[],[(6,6,94,5,Zam Zac.c Zac.d [])],[0,1,6,9,10,11],[6],[]⟩ .n (ZtA S0 w0 b e (((b.length:Int)-(0:Int)).toNat+2) b (b.length:Int) (0:Int) ([]) r f)
def Zld(b:ZaK):Option (Zap×ZaK):=bif(b.fx.fKind==(1:Int))then(Zku b).bind fun d=>some (d.1,d.2)else bif(b.fx.fKind==(2:Int))then none else bif(b.fx.fKind==(3:Int))then(Zie b).bind fun e=>some (e.1,e.2)else bif(b.fx.fKind==(4:Int))then none else bif(b.fx.fKind==(5:Int))then none else bif(b.fx.fKind==(6:Int))then none else bif(b.fx.fKind==(7:Int))then none else bif(b.fx.fKind==(8:Int))then(Zjg b).bind fun f=>some ((Zap.mk 0 (Zaj.mk (Zah.mk false 0 0) 0) 0 f.1 ([]:(List Zaa))),f.2)else bif(b.fx.fKind==(9:Int))then(Zrh b.fs.fBans b.fx.fNow).bind fun g=>some ((Zap.mk 0 (Zaj.mk (Zah.mk false 0 0) 0) g.2 0 ([]:(List Zaa))),(ZaK.mk b.fc (Zan.mk g.1 b.fs.fBook b.fs.fPeers) b.fx))else bif(b.fx.fKind==(10:Int))then none else bif(b.fx.fKind==(11:Int))then none else bif(b.fx.fKind==(12:Int))then none else none
theorem Zsy(v:ZaK)(r:(Zap×ZaK))(b:Zld v=some r):Yq 86 [(100000,.box (ZaK.c v))] [.one (.ptr 100000 0)] [(100000,.box (ZaK.c r.2))] (.agg (Zap.c r.1)):=by
 refine Yw Tryz.func86 fun S0 w0=>?_;unfold Zld at b;obtain⟨g,b⟩|⟨g,b⟩:=Zag b
 .obtain⟨y,G,b⟩:=Zad b;obtain rfl:=oi b;exact Yd 11 [rz,rz,rz,rH [] [(1,⟨[(100000,100000)],[],[(100000,.box (ZaK.c y.2))],.agg (Zap.c y.1)⟩)]] [true] (ma [2] [2,100000]) (mn g (ZpE _ _ G))
 .obtain⟨h,b⟩|⟨h,b⟩:=Zag b
  .cases b
  .obtain⟨i,b⟩|⟨i,b⟩:=Zag b
   .obtain⟨z,H,b⟩:=Zad b;obtain rfl:=oi b;exact Yd 17 [rz,rz,rz,rz,rz,rH [] [(1,⟨[(100000,100000)],[],[(100000,.box (ZaK.c z.2))],.agg (Zap.c z.1)⟩)]] [false,false,true] (ma [2] [2,100000]) (mq g h i (ZqM _ _ H))
   .obtain⟨A,b⟩|⟨A,b⟩:=Zag b
    .cases b
    .obtain⟨B,b⟩|⟨B,b⟩:=Zag b
     .cases b
     .obtain⟨C,b⟩|⟨C,b⟩:=Zag b
      .cases b
      .obtain⟨D,b⟩|⟨D,b⟩:=Zag b
       .cases b
       .have O1:=(mu g h i A B C D);obtain⟨e,b⟩|⟨e,b⟩:=Zag b
        .obtain⟨E,j,b⟩:=Zad b;obtain rfl:=oi b;exact Yd 32 [rz,rz,rz,rz,rz,rz,rz,rz,rz,rz,rH [] [(1,⟨[(100000,100000)],[],[(100000,.box (ZaK.c E.2))],(Yj E.1)⟩)]] [false,false,false,false,false,false,false,true] (mc [(2,[(7,cL 10 Zaa.c Zaa.d [])])] [2] [2,100000]) (mD O1 e (Zjc _ _ j))
        .obtain⟨f,b⟩|⟨f,b⟩:=Zag b
         .obtain⟨F,o,b⟩:=Zad b;obtain rfl:=oi b;exact Yd 39 [rz,rz,rz,rz,rz,rz,rz,rz,rz,rz,rz,rA [(10,.r (.tup [(false,(cLs 5 Zac.c Zac.d) F.1),(false,mi F.2)]) [])],rz,rz] [false,false,false,false,false,false,false,false,true] (mc [(2,[(7,cL 10 Zaa.c Zaa.d [])])] [2] [2,100000]) (mE O1 e f (Zwz _ _ _ o))
         .obtain⟨p,b⟩|⟨p,b⟩:=Zag b
          .cases b
          .obtain⟨t,b⟩|⟨t,b⟩:=Zag b
           .cases b
           .obtain⟨u,b⟩|⟨u,b⟩:=Zag b
            .cases b
            .cases b
def ZlK(f:Zav)(b:Zan)(d:Zas):Option (Zan×Zap):=(Zmu d).bind fun g=>bif(!g)then(Zic (1:Int)).bind fun h=>some (b,h)else(Zld (ZaK.mk f b d)).bind fun e=>some (e.2.fs,e.1)
theorem Zto(e:Zav)(f:Zan)(g:Zas)(r:(Zan×Zap))(b:ZlK e f g=some r):Yp 29 [.agg (Zav.c e),.agg (Zan.c f),.agg (Zas.c g)] (.tup [(true,Zan.c r.1),(true,Zap.c r.2)]):=by
 refine Yv Tryz.func29 fun S0 w0=>?_;unfold ZlK at b;obtain⟨h,i,b⟩:=Zad b;obtain⟨d,b⟩|⟨d,b⟩:=Zag b
 .obtain⟨o,p,b⟩:=Zad b;apply Ya b 8 [rz,rA [(1,aB h)],rA [(1,aG (Zap.c o))]] [true] (mo (Zrc _ _ i) d (Zje _ _ p))
 .obtain⟨j,t,b⟩:=Zad b;apply Ya b 13 [rz,rA [(1,aB h)],rz,rH [] [(1,⟨[(100000,19)],[],[(100000,.box (ZaK.c j.2))],.agg (Zap.c j.1)⟩)],rz] [false] (mo (Zrc _ _ i) d (Zsy _ _ t))
def Zkh:Nat->(List Zas)->Int->Int->(List Zap)->Zav->Zan->Zan->Option (Zan×(List Zap))|0,_,_,_,_,_,_,_=>none|fu+1,e,f,b,g,i,j,n=>bif(decide (b<f))then need (0<=b/\b<(e.length:Int))<|(ZlK i j (e.getD b.toNat Zas.d)).bind fun h=>need ((g++([h.2]:List Zap)).length * 80<=140737488355328/\(g++([h.2]:List Zap)).length<=maxLen)<|Zkh fu e f (Zaq b 1) (g++([h.2]:List Zap)) i h.1 n else some (j,g)
theorem Zun:∀(y:Nat)(h:List Zas)(o p:Int)(t:List Zap)(b:Zav)(v u:Zan)(r:(Zan×(List Zap))),Zkh y h o p t b v u=some r->Yr 34 S0 w0 Tryz.f31 (.tup [(true,Zan.c r.1),(false,(cLs 8 Zap.c Zap.d) r.2)]) [1,1,0,1,0] ⟨[(3,.one (.ptr 3 0)),(4,.one (.ptr 4 0)),(6,.one (.ptr 6 0)),(8,.one (.osl 8 t.length)),(13,.one (cL 12 Zas.c Zas.d h)),(14,(Yj o)),(15,(Yj p))],[(me 8 56 8 Zap.c Zap.d t),(3,.box (Zav.c b)),(4,.box (Zan.c v)),(6,.box (Zan.c u))]⟩:=by
 intro y;induction y with
 |zero=>
  intro h o p t b v u r f;simp[Zkh]at f
 |succ y B=>
  intro h o p t b v u r f;unfold Zkh at f;obtain⟨z,f⟩|⟨z,f⟩:=Zag f
  .obtain⟨C,f⟩:=Zao f;obtain⟨g,D,f⟩:=Zad f;obtain⟨A,f⟩:=Zao f;exact Ye 16 [rz,rz,rA [(3,.r (.tup [(true,Zan.c g.1),(true,Zap.c g.2)]) [])],⟨[(4,.c ((t++([g.2]:List Zap)).length) (Zam Zap.c Zap.d (t++([g.2]:List Zap))))],[],[],[],[],[(3,(([g.2]:List Zap).length,Zam Zap.c Zap.d ([g.2]:List Zap)))],[]⟩,rz] [true] (md [3,4,6,8,13,14,15] [30,3,4,6] [(30,8)]) (mu z C (Zto _ _ _ _ D) (mN (e:=Zap.c) Zap.d 8 (fun _=>rfl) ([g.2]:List Zap)) (Zcq (sz:=8) (e:=Zap.c) (d:=Zap.d) t ([g.2]:List Zap)) A.1 A.2) (B h o (Zaq p 1) (t++([g.2]:List Zap)) b g.1 u r f)
  .apply Yb f 8 [rz,rz] [false] [8] [] [] (ml z)
def Zsz(d:Zav)(e:Zan)(b:List Zas):Option (Zan×(List Zap)):=Zkh (((b.length:Int)-(0:Int)).toNat+2) b (b.length:Int) (0:Int) ([]) d e (Zan.mk ([]:(List Zac)) ([]:(List Zab)) ([]:(List Zaa)))
theorem Zxq(e:Zav)(f:Zan)(b:List Zas)(r:(Zan×(List Zap)))(g:Zsz e f b=some r):Yp 31 [.agg (Zav.c e),.agg (Zan.c f),.one (cL 12 Zas.c Zas.d b)] (.tup [(true,Zan.c r.1),(false,(cLs 8 Zap.c Zap.d) r.2)]):=by
 refine Yv Tryz.func31 fun S0 w0=>?_;unfold Zsz at g;exact Ye 8 [rz,rz,rz] [] ⟨[],[(6,[(0,cL 5 Zac.c Zac.d []),(1,cL 7 Zab.c Zab.d []),(2,cL 10 Zaa.c Zaa.d [])])],[],[],[(8,8,56,8,Zam Zap.c Zap.d [])],[3,4,6,8,13,14,15],[8,3,4,6],[]⟩ .n (Zun S0 w0 (((b.length:Int)-(0:Int)).toNat+2) b (b.length:Int) (0:Int) ([]) e f Zan.d r g)
def Zuu(b:Zav):Option (Zax×Zax×Zax×Zax×Zax×Zax×Zax×Zax×Zax×Zax×Zax×Zax×Zax×Zax×Zax×Zax):=some ((Zax.mk (⟨#[105,110]⟩ : ByteArray) b.fMaxIn 0 65535),(Zax.mk (⟨#[111,117,116]⟩ : ByteArray) b.fMaxOut 0 65535),(Zax.mk (⟨#[115,104,97,114,100,115]⟩ : ByteArray) b.fShards 1 8),(Zax.mk (⟨#[98,97,110,115]⟩ : ByteArray) b.fMaxBans 0 1024),(Zax.mk (⟨#[98,111,111,107]⟩ : ByteArray) b.fMaxBook 0 1024),(Zax.mk (⟨#[115,101,99,114,101,116]⟩ : ByteArray) (IntKind.wrap .i64 (IntKind.wrap .u64 (((BitVec.ofInt (IntKind.bits .u64) b.fSecret) &&& (BitVec.ofInt (IntKind.bits .u64) (9223372036854775807:Int))).toNat:Int))) 0 9223372036854775807),(Zax.mk (⟨#[103,114,111,117,112]⟩ : ByteArray) b.fQuota.fGroup 0 64),(Zax.mk (⟨#[112,105,110,103]⟩ : ByteArray) b.fQuota.fPing 0 64),(Zax.mk (⟨#[119,111,114,107]⟩ : ByteArray) b.fQuota.fWork 0 64),(Zax.mk (⟨#[116,105,109,101]⟩ : ByteArray) b.fQuota.fTime 0 64),(Zax.mk (⟨#[104,97,108,102]⟩ : ByteArray) b.fHalf 1 1073741824),(Zax.mk (⟨#[108,105,109,105,116]⟩ : ByteArray) b.fLimit 1 10000),(Zax.mk (⟨#[98,97,110,102,111,114]⟩ : ByteArray) b.fBanFor 1 1073741824),(Zax.mk (⟨#[98,97,115,101]⟩ : ByteArray) b.fBase 1 1073741824),(Zax.mk (⟨#[99,97,112]⟩ : ByteArray) b.fCap b.fBase 1073741824),(Zax.mk (⟨#[106,105,116,116,101,114]⟩ : ByteArray) b.fJitter 0 1073741824))
theorem Zzo(b:Zav)(r:(Zax×Zax×Zax×Zax×Zax×Zax×Zax×Zax×Zax×Zax×Zax×Zax×Zax×Zax×Zax×Zax))(d:Zuu b=some r):Yp 172 [.agg (Zav.c b)] (.agg ((cP Zax.c (cP Zax.c (cP Zax.c (cP Zax.c (cP Zax.c (cP Zax.c (cP Zax.c (cP Zax.c (cP Zax.c (cP Zax.c (cP Zax.c (cP Zax.c (cP Zax.c (cP Zax.c (cP Zax.c Zax.c))))))))))))))) r)):=by
 refine Yv Tryz.func172 fun S0 w0=>?_;unfold Zuu at d;apply Ya d 6 [rz,rz,rz] [] .n
def ZbE:Nat->(Zax×Zax×Zax×Zax×Zax×Zax×Zax×Zax×Zax×Zax×Zax×Zax×Zax×Zax×Zax×Zax)->Int->Option Bool|0,_,_=>none|fu+1,b,d=>bif(decide (d<(16:Int)))then need (0<=d/\d<((16:Nat):Int))<|ix1 d 0 ( bif(decide (b.1.fn<b.1.ffrom))then some false else bif(decide (b.1.fn>b.1.fto))then some false else ZbE fu b (Zaq (0:Int) (1:Int)))<|ix1 d 1 ( bif(decide (b.2.1.fn<b.2.1.ffrom))then some false else bif(decide (b.2.1.fn>b.2.1.fto))then some false else ZbE fu b (Zaq (1:Int) (1:Int)))<|ix1 d 2 ( bif(decide (b.2.2.1.fn<b.2.2.1.ffrom))then some false else bif(decide (b.2.2.1.fn>b.2.2.1.fto))then some false else ZbE fu b (Zaq (2:Int) (1:Int)))<|ix1 d 3 ( bif(decide (b.2.2.2.1.fn<b.2.2.2.1.ffrom))then some false else bif(decide (b.2.2.2.1.fn>b.2.2.2.1.fto))then some false else ZbE fu b (Zaq (3:Int) (1:Int)))<|ix1 d 4 ( bif(decide (b.2.2.2.2.1.fn<b.2.2.2.2.1.ffrom))then some false else bif(decide (b.2.2.2.2.1.fn>b.2.2.2.2.1.fto))then some false else ZbE fu b (Zaq (4:Int) (1:Int)))<|ix1 d 5 ( bif(decide (b.2.2.2.2.2.1.fn<b.2.2.2.2.2.1.ffrom))then some false else bif(decide (b.2.2.2.2.2.1.fn>b.2.2.2.2.2.1.fto))then some false else ZbE fu b (Zaq (5:Int) (1:Int)))<|ix1 d 6 ( bif(decide (b.2.2.2.2.2.2.1.fn<b.2.2.2.2.2.2.1.ffrom))then some false else bif(decide (b.2.2.2.2.2.2.1.fn>b.2.2.2.2.2.2.1.fto))then some false else ZbE fu b (Zaq (6:Int) (1:Int)))<|ix1 d 7 ( bif(decide (b.2.2.2.2.2.2.2.1.fn<b.2.2.2.2.2.2.2.1.ffrom))then some false else bif(decide (b.2.2.2.2.2.2.2.1.fn>b.2.2.2.2.2.2.2.1.fto))then some false else ZbE fu b (Zaq (7:Int) (1:Int)))<|ix1 d 8 ( bif(decide (b.2.2.2.2.2.2.2.2.1.fn<b.2.2.2.2.2.2.2.2.1.ffrom))then some false else bif(decide (b.2.2.2.2.2.2.2.2.1.fn>b.2.2.2.2.2.2.2.2.1.fto))then some false else ZbE fu b (Zaq (8:Int) (1:Int)))<|ix1 d 9 ( bif(decide (b.2.2.2.2.2.2.2.2.2.1.fn<b.2.2.2.2.2.2.2.2.2.1.ffrom))then some false else bif(decide (b.2.2.2.2.2.2.2.2.2.1.fn>b.2.2.2.2.2.2.2.2.2.1.fto))then some false else ZbE fu b (Zaq (9:Int) (1:Int)))<|ix1 d 10 ( bif(decide (b.2.2.2.2.2.2.2.2.2.2.1.fn<b.2.2.2.2.2.2.2.2.2.2.1.ffrom))then some false else bif(decide (b.2.2.2.2.2.2.2.2.2.2.1.fn>b.2.2.2.2.2.2.2.2.2.2.1.fto))then some false else ZbE fu b (Zaq (10:Int) (1:Int)))<|ix1 d 11 ( bif(decide (b.2.2.2.2.2.2.2.2.2.2.2.1.fn<b.2.2.2.2.2.2.2.2.2.2.2.1.ffrom))then some false else bif(decide (b.2.2.2.2.2.2.2.2.2.2.2.1.fn>b.2.2.2.2.2.2.2.2.2.2.2.1.fto))then some false else ZbE fu b (Zaq (11:Int) (1:Int)))<|ix1 d 12 ( bif(decide (b.2.2.2.2.2.2.2.2.2.2.2.2.1.fn<b.2.2.2.2.2.2.2.2.2.2.2.2.1.ffrom))then some false else bif(decide (b.2.2.2.2.2.2.2.2.2.2.2.2.1.fn>b.2.2.2.2.2.2.2.2.2.2.2.2.1.fto))then some false else ZbE fu b (Zaq (12:Int) (1:Int)))<|ix1 d 13 ( bif(decide (b.2.2.2.2.2.2.2.2.2.2.2.2.2.1.fn<b.2.2.2.2.2.2.2.2.2.2.2.2.2.1.ffrom))then some false else bif(decide (b.2.2.2.2.2.2.2.2.2.2.2.2.2.1.fn>b.2.2.2.2.2.2.2.2.2.2.2.2.2.1.fto))then some false else ZbE fu b (Zaq (13:Int) (1:Int)))<|ix1 d 14 ( bif(decide (b.2.2.2.2.2.2.2.2.2.2.2.2.2.2.1.fn<b.2.2.2.2.2.2.2.2.2.2.2.2.2.2.1.ffrom))then some false else bif(decide (b.2.2.2.2.2.2.2.2.2.2.2.2.2.2.1.fn>b.2.2.2.2.2.2.2.2.2.2.2.2.2.2.1.fto))then some false else ZbE fu b (Zaq (14:Int) (1:Int)))<|bif(decide (b.2.2.2.2.2.2.2.2.2.2.2.2.2.2.2.fn<b.2.2.2.2.2.2.2.2.2.2.2.2.2.2.2.ffrom))then some false else bif(decide (b.2.2.2.2.2.2.2.2.2.2.2.2.2.2.2.fn>b.2.2.2.2.2.2.2.2.2.2.2.2.2.2.2.fto))then some false else ZbE fu b (Zaq (15:Int) (1:Int))else some true
theorem Zts:∀(fu:Nat)(d:(Zax×Zax×Zax×Zax×Zax×Zax×Zax×Zax×Zax×Zax×Zax×Zax×Zax×Zax×Zax×Zax))(h:Int)(r:Bool),ZbE fu d h=some r->Yr 26 S0 w0 Tryz.f87 (Yk r) [1,1,0,1,0] ⟨[(9,.agg [.lit (.string d.1.fword),.lit (.int .i64 d.1.fn),.lit (.int .i64 d.1.ffrom),.lit (.int .i64 d.1.fto),.lit (.string d.2.1.fword),.lit (.int .i64 d.2.1.fn),.lit (.int .i64 d.2.1.ffrom),.lit (.int .i64 d.2.1.fto),.lit (.string d.2.2.1.fword),.lit (.int .i64 d.2.2.1.fn),.lit (.int .i64 d.2.2.1.ffrom),.lit (.int .i64 d.2.2.1.fto),.lit (.string d.2.2.2.1.fword),.lit (.int .i64 d.2.2.2.1.fn),.lit (.int .i64 d.2.2.2.1.ffrom),.lit (.int .i64 d.2.2.2.1.fto),.lit (.string d.2.2.2.2.1.fword),.lit (.int .i64 d.2.2.2.2.1.fn),.lit (.int .i64 d.2.2.2.2.1.ffrom),.lit (.int .i64 d.2.2.2.2.1.fto),.lit (.string d.2.2.2.2.2.1.fword),.lit (.int .i64 d.2.2.2.2.2.1.fn),.lit (.int .i64 d.2.2.2.2.2.1.ffrom),.lit (.int .i64 d.2.2.2.2.2.1.fto),.lit (.string d.2.2.2.2.2.2.1.fword),.lit (.int .i64 d.2.2.2.2.2.2.1.fn),.lit (.int .i64 d.2.2.2.2.2.2.1.ffrom),.lit (.int .i64 d.2.2.2.2.2.2.1.fto),.lit (.string d.2.2.2.2.2.2.2.1.fword),.lit (.int .i64 d.2.2.2.2.2.2.2.1.fn),.lit (.int .i64 d.2.2.2.2.2.2.2.1.ffrom),.lit (.int .i64 d.2.2.2.2.2.2.2.1.fto),.lit (.string d.2.2.2.2.2.2.2.2.1.fword),.lit (.int .i64 d.2.2.2.2.2.2.2.2.1.fn),.lit (.int .i64 d.2.2.2.2.2.2.2.2.1.ffrom),.lit (.int .i64 d.2.2.2.2.2.2.2.2.1.fto),.lit (.string d.2.2.2.2.2.2.2.2.2.1.fword),.lit (.int .i64 d.2.2.2.2.2.2.2.2.2.1.fn),.lit (.int .i64 d.2.2.2.2.2.2.2.2.2.1.ffrom),.lit (.int .i64 d.2.2.2.2.2.2.2.2.2.1.fto),.lit (.string d.2.2.2.2.2.2.2.2.2.2.1.fword),.lit (.int .i64 d.2.2.2.2.2.2.2.2.2.2.1.fn),.lit (.int .i64 d.2.2.2.2.2.2.2.2.2.2.1.ffrom),.lit (.int .i64 d.2.2.2.2.2.2.2.2.2.2.1.fto),.lit (.string d.2.2.2.2.2.2.2.2.2.2.2.1.fword),.lit (.int .i64 d.2.2.2.2.2.2.2.2.2.2.2.1.fn),.lit (.int .i64 d.2.2.2.2.2.2.2.2.2.2.2.1.ffrom),.lit (.int .i64 d.2.2.2.2.2.2.2.2.2.2.2.1.fto),.lit (.string d.2.2.2.2.2.2.2.2.2.2.2.2.1.fword),.lit (.int .i64 d.2.2.2.2.2.2.2.2.2.2.2.2.1.fn),.lit (.int .i64 d.2.2.2.2.2.2.2.2.2.2.2.2.1.ffrom),.lit (.int .i64 d.2.2.2.2.2.2.2.2.2.2.2.2.1.fto),.lit (.string d.2.2.2.2.2.2.2.2.2.2.2.2.2.1.fword),.lit (.int .i64 d.2.2.2.2.2.2.2.2.2.2.2.2.2.1.fn),.lit (.int .i64 d.2.2.2.2.2.2.2.2.2.2.2.2.2.1.ffrom),.lit (.int .i64 d.2.2.2.2.2.2.2.2.2.2.2.2.2.1.fto),.lit (.string d.2.2.2.2.2.2.2.2.2.2.2.2.2.2.1.fword),.lit (.int .i64 d.2.2.2.2.2.2.2.2.2.2.2.2.2.2.1.fn),.lit (.int .i64 d.2.2.2.2.2.2.2.2.2.2.2.2.2.2.1.ffrom),.lit (.int .i64 d.2.2.2.2.2.2.2.2.2.2.2.2.2.2.1.fto),.lit (.string d.2.2.2.2.2.2.2.2.2.2.2.2.2.2.2.fword),.lit (.int .i64 d.2.2.2.2.2.2.2.2.2.2.2.2.2.2.2.fn),.lit (.int .i64 d.2.2.2.2.2.2.2.2.2.2.2.2.2.2.2.ffrom),.lit (.int .i64 d.2.2.2.2.2.2.2.2.2.2.2.2.2.2.2.fto)]),(10,(Yj h))],[]⟩:=by
 intro fu;induction fu with
 |zero=>
  intro d h r b;simp[ZbE]at b
 |succ fu g=>
  intro d h r b;unfold ZbE at b;obtain⟨f,b⟩|⟨f,b⟩:=Zag b
  .obtain⟨o4,b⟩:=Zao b;rcases Zhg b with⟨e,b⟩|⟨o4_0,b⟩
   .subst e;have O1:=(mn f (show 0<=(0:Int)/\(0:Int)<((16:Nat):Int)from(by decide)));obtain⟨h5,b⟩|⟨h5,b⟩:=Zag b
    .apply Ya b 15 [rz,rz,rB [(5,true)],rz] [true,true] (mD O1 h5 (mP true))
    .obtain⟨h6,b⟩|⟨h6,b⟩:=Zag b
     .apply Ya b 15 [rz,rz,rB [(5,false)],rz] [true,true] (mD O1 h5 h6)
     .exact Ye 17 [rz,rz,rB [(5,false)],rz] [true,false] (Yi [9,10]) (mD O1 h5 h6) (g d (Zaq (0:Int) (1:Int)) r b)
   rcases Zhg b with⟨e,b⟩|⟨o4_1,b⟩
   .subst e;have O2:=(mn f (show 0<=(1:Int)/\(1:Int)<((16:Nat):Int)from(by decide)));obtain⟨h7,b⟩|⟨h7,b⟩:=Zag b
    .apply Ya b 15 [rz,rz,rB [(5,true)],rz] [true,true] (mD O2 h7 (mP true))
    .obtain⟨h8,b⟩|⟨h8,b⟩:=Zag b
     .apply Ya b 15 [rz,rz,rB [(5,false)],rz] [true,true] (mD O2 h7 h8)
     .exact Ye 17 [rz,rz,rB [(5,false)],rz] [true,false] (Yi [9,10]) (mD O2 h7 h8) (g d (Zaq (1:Int) (1:Int)) r b)
   rcases Zhg b with⟨e,b⟩|⟨o4_2,b⟩
   .subst e;have O3:=(mn f (show 0<=(2:Int)/\(2:Int)<((16:Nat):Int)from(by decide)));obtain⟨h9,b⟩|⟨h9,b⟩:=Zag b
    .apply Ya b 15 [rz,rz,rB [(5,true)],rz] [true,true] (mD O3 h9 (mP true))
    .obtain⟨E,b⟩|⟨E,b⟩:=Zag b
     .apply Ya b 15 [rz,rz,rB [(5,false)],rz] [true,true] (mD O3 h9 E)
     .exact Ye 17 [rz,rz,rB [(5,false)],rz] [true,false] (Yi [9,10]) (mD O3 h9 E) (g d (Zaq (2:Int) (1:Int)) r b)
   rcases Zhg b with⟨e,b⟩|⟨o4_3,b⟩
   .subst e;have O4:=(mn f (show 0<=(3:Int)/\(3:Int)<((16:Nat):Int)from(by decide)));obtain⟨i,b⟩|⟨i,b⟩:=Zag b
    .apply Ya b 15 [rz,rz,rB [(5,true)],rz] [true,true] (mD O4 i (mP true))
    .obtain⟨F,b⟩|⟨F,b⟩:=Zag b
     .apply Ya b 15 [rz,rz,rB [(5,false)],rz] [true,true] (mD O4 i F)
     .exact Ye 17 [rz,rz,rB [(5,false)],rz] [true,false] (Yi [9,10]) (mD O4 i F) (g d (Zaq (3:Int) (1:Int)) r b)
   rcases Zhg b with⟨e,b⟩|⟨o4_4,b⟩
   .subst e;have O5:=(mn f (show 0<=(4:Int)/\(4:Int)<((16:Nat):Int)from(by decide)));obtain⟨j,b⟩|⟨j,b⟩:=Zag b
    .apply Ya b 15 [rz,rz,rB [(5,true)],rz] [true,true] (mD O5 j (mP true))
    .obtain⟨G,b⟩|⟨G,b⟩:=Zag b
     .apply Ya b 15 [rz,rz,rB [(5,false)],rz] [true,true] (mD O5 j G)
     .exact Ye 17 [rz,rz,rB [(5,false)],rz] [true,false] (Yi [9,10]) (mD O5 j G) (g d (Zaq (4:Int) (1:Int)) r b)
   rcases Zhg b with⟨e,b⟩|⟨o4_5,b⟩
   .subst e;have O6:=(mn f (show 0<=(5:Int)/\(5:Int)<((16:Nat):Int)from(by decide)));obtain⟨o,b⟩|⟨o,b⟩:=Zag b
    .apply Ya b 15 [rz,rz,rB [(5,true)],rz] [true,true] (mD O6 o (mP true))
    .obtain⟨H,b⟩|⟨H,b⟩:=Zag b
     .apply Ya b 15 [rz,rz,rB [(5,false)],rz] [true,true] (mD O6 o H)
     .exact Ye 17 [rz,rz,rB [(5,false)],rz] [true,false] (Yi [9,10]) (mD O6 o H) (g d (Zaq (5:Int) (1:Int)) r b)
   rcases Zhg b with⟨e,b⟩|⟨o4_6,b⟩
   .subst e;have O7:=(mn f (show 0<=(6:Int)/\(6:Int)<((16:Nat):Int)from(by decide)));obtain⟨p,b⟩|⟨p,b⟩:=Zag b
    .apply Ya b 15 [rz,rz,rB [(5,true)],rz] [true,true] (mD O7 p (mP true))
    .obtain⟨I,b⟩|⟨I,b⟩:=Zag b
     .apply Ya b 15 [rz,rz,rB [(5,false)],rz] [true,true] (mD O7 p I)
     .exact Ye 17 [rz,rz,rB [(5,false)],rz] [true,false] (Yi [9,10]) (mD O7 p I) (g d (Zaq (6:Int) (1:Int)) r b)
   rcases Zhg b with⟨e,b⟩|⟨o4_7,b⟩
   .subst e;have O8:=(mn f (show 0<=(7:Int)/\(7:Int)<((16:Nat):Int)from(by decide)));obtain⟨t,b⟩|⟨t,b⟩:=Zag b
    .apply Ya b 15 [rz,rz,rB [(5,true)],rz] [true,true] (mD O8 t (mP true))
    .obtain⟨J,b⟩|⟨J,b⟩:=Zag b
     .apply Ya b 15 [rz,rz,rB [(5,false)],rz] [true,true] (mD O8 t J)
     .exact Ye 17 [rz,rz,rB [(5,false)],rz] [true,false] (Yi [9,10]) (mD O8 t J) (g d (Zaq (7:Int) (1:Int)) r b)
   rcases Zhg b with⟨e,b⟩|⟨o4_8,b⟩
   .subst e;have O9:=(mn f (show 0<=(8:Int)/\(8:Int)<((16:Nat):Int)from(by decide)));obtain⟨u,b⟩|⟨u,b⟩:=Zag b
    .apply Ya b 15 [rz,rz,rB [(5,true)],rz] [true,true] (mD O9 u (mP true))
    .obtain⟨L,b⟩|⟨L,b⟩:=Zag b
     .apply Ya b 15 [rz,rz,rB [(5,false)],rz] [true,true] (mD O9 u L)
     .exact Ye 17 [rz,rz,rB [(5,false)],rz] [true,false] (Yi [9,10]) (mD O9 u L) (g d (Zaq (8:Int) (1:Int)) r b)
   rcases Zhg b with⟨e,b⟩|⟨o4_9,b⟩
   .subst e;have i5:=(mn f (show 0<=(9:Int)/\(9:Int)<((16:Nat):Int)from(by decide)));obtain⟨v,b⟩|⟨v,b⟩:=Zag b
    .apply Ya b 15 [rz,rz,rB [(5,true)],rz] [true,true] (mD i5 v (mP true))
    .obtain⟨M,b⟩|⟨M,b⟩:=Zag b
     .apply Ya b 15 [rz,rz,rB [(5,false)],rz] [true,true] (mD i5 v M)
     .exact Ye 17 [rz,rz,rB [(5,false)],rz] [true,false] (Yi [9,10]) (mD i5 v M) (g d (Zaq (9:Int) (1:Int)) r b)
   rcases Zhg b with⟨e,b⟩|⟨o4_10,b⟩
   .subst e;have i6:=(mn f (show 0<=(10:Int)/\(10:Int)<((16:Nat):Int)from(by decide)));obtain⟨y,b⟩|⟨y,b⟩:=Zag b
    .apply Ya b 15 [rz,rz,rB [(5,true)],rz] [true,true] (mD i6 y (mP true))
    .obtain⟨O,b⟩|⟨O,b⟩:=Zag b
     .apply Ya b 15 [rz,rz,rB [(5,false)],rz] [true,true] (mD i6 y O)
     .exact Ye 17 [rz,rz,rB [(5,false)],rz] [true,false] (Yi [9,10]) (mD i6 y O) (g d (Zaq (10:Int) (1:Int)) r b)
   rcases Zhg b with⟨e,b⟩|⟨o4_11,b⟩
   .subst e;have eJ:=(mn f (show 0<=(11:Int)/\(11:Int)<((16:Nat):Int)from(by decide)));obtain⟨z,b⟩|⟨z,b⟩:=Zag b
    .apply Ya b 15 [rz,rz,rB [(5,true)],rz] [true,true] (mD eJ z (mP true))
    .obtain⟨R,b⟩|⟨R,b⟩:=Zag b
     .apply Ya b 15 [rz,rz,rB [(5,false)],rz] [true,true] (mD eJ z R)
     .exact Ye 17 [rz,rz,rB [(5,false)],rz] [true,false] (Yi [9,10]) (mD eJ z R) (g d (Zaq (11:Int) (1:Int)) r b)
   rcases Zhg b with⟨e,b⟩|⟨o4_12,b⟩
   .subst e;have iX:=(mn f (show 0<=(12:Int)/\(12:Int)<((16:Nat):Int)from(by decide)));obtain⟨A,b⟩|⟨A,b⟩:=Zag b
    .apply Ya b 15 [rz,rz,rB [(5,true)],rz] [true,true] (mD iX A (mP true))
    .obtain⟨U,b⟩|⟨U,b⟩:=Zag b
     .apply Ya b 15 [rz,rz,rB [(5,false)],rz] [true,true] (mD iX A U)
     .exact Ye 17 [rz,rz,rB [(5,false)],rz] [true,false] (Yi [9,10]) (mD iX A U) (g d (Zaq (12:Int) (1:Int)) r b)
   rcases Zhg b with⟨e,b⟩|⟨o4_13,b⟩
   .subst e;have iY:=(mn f (show 0<=(13:Int)/\(13:Int)<((16:Nat):Int)from(by decide)));obtain⟨B,b⟩|⟨B,b⟩:=Zag b
    .apply Ya b 15 [rz,rz,rB [(5,true)],rz] [true,true] (mD iY B (mP true))
    .obtain⟨V,b⟩|⟨V,b⟩:=Zag b
     .apply Ya b 15 [rz,rz,rB [(5,false)],rz] [true,true] (mD iY B V)
     .exact Ye 17 [rz,rz,rB [(5,false)],rz] [true,false] (Yi [9,10]) (mD iY B V) (g d (Zaq (13:Int) (1:Int)) r b)
   rcases Zhg b with⟨e,b⟩|⟨o4_14,b⟩
   .subst e;have iZ:=(mn f (show 0<=(14:Int)/\(14:Int)<((16:Nat):Int)from(by decide)));obtain⟨C,b⟩|⟨C,b⟩:=Zag b
    .apply Ya b 15 [rz,rz,rB [(5,true)],rz] [true,true] (mD iZ C (mP true))
    .obtain⟨W,b⟩|⟨W,b⟩:=Zag b
     .apply Ya b 15 [rz,rz,rB [(5,false)],rz] [true,true] (mD iZ C W)
     .exact Ye 17 [rz,rz,rB [(5,false)],rz] [true,false] (Yi [9,10]) (mD iZ C W) (g d (Zaq (14:Int) (1:Int)) r b)
   obtain rfl:h=15:=by omega
   have i3:=(mn f (show 0<=(15:Int)/\(15:Int)<((16:Nat):Int)from(by decide)));obtain⟨D,b⟩|⟨D,b⟩:=Zag b
   .apply Ya b 15 [rz,rz,rB [(5,true)],rz] [true,true] (mD i3 D (mP true))
   .obtain⟨Z,b⟩|⟨Z,b⟩:=Zag b
    .apply Ya b 15 [rz,rz,rB [(5,false)],rz] [true,true] (mD i3 D Z)
    .exact Ye 17 [rz,rz,rB [(5,false)],rz] [true,false] (Yi [9,10]) (mD i3 D Z) (g d (Zaq (15:Int) (1:Int)) r b)
  .apply Ya b 8 [rz,rz] [false] (ml f)
def Zrb(b:Zav):Option Bool:=bif(decide (b.fSecret>(9223372036854775807:Int)))then some false else(Zuu b).bind fun d=>ZbE (((16:Int)-(0:Int)).toNat+2) d (0:Int)
theorem Zra(e:Zav)(r:Bool)(b:Zrb e=some r):Yp 87 [.agg (Zav.c e)] (Yk r):=by
 refine Yv Tryz.func87 fun S0 w0=>?_;unfold Zrb at b;obtain⟨d,b⟩|⟨d,b⟩:=Zag b
 .apply Ya b 8 [rz,rz,rz] [true] (ml d)
 .obtain⟨f,g,b⟩:=Zad b;exact Ye 11 [rz,rz,rA [(1,aG ((cP Zax.c (cP Zax.c (cP Zax.c (cP Zax.c (cP Zax.c (cP Zax.c (cP Zax.c (cP Zax.c (cP Zax.c (cP Zax.c (cP Zax.c (cP Zax.c (cP Zax.c (cP Zax.c (cP Zax.c Zax.c))))))))))))))) f))]] [false] (Yi [9,10]) (mn d (Zzo _ _ g)) (Zts S0 w0 (((16:Int)-(0:Int)).toNat+2) f (0:Int) r b)
def ZsB(b:Zac):Option Bool:=(ZhE b.fNet).bind fun d=>bif d then bif(decide (b.fUntil>=(1:Int)))then some (decide (b.fUntil<=(1099511627776:Int)))else some false else some false
theorem Zxx(h:Zac)(r:Bool)(b:ZsB h=some r):Yp 173 [.agg (Zac.c h)] (Yk r):=by
 refine Yv Tryz.func173 fun S0 w0=>?_;unfold ZsB at b;obtain⟨e,f,b⟩:=Zad b;obtain⟨d,b⟩|⟨d,b⟩:=Zag b
 .obtain⟨g,b⟩|⟨g,b⟩:=Zag b
  .apply Ya b 4 [rz,⟨[(2,aB e)],[(3,true),(8,true)],[],[],[],[],[]⟩] [] (mo (ZcN _ _ f) d g)
  .apply Ya b 4 [rz,⟨[(2,aB e)],[(3,true),(8,false)],[],[],[],[],[]⟩] [] (mo (ZcN _ _ f) d g)
 .apply Ya b 4 [rz,⟨[(2,aB e)],[(3,false)],[],[],[],[],[]⟩] [] (mn (ZcN _ _ f) d)
def Zim(f:List Zac):Nat->(List Zac)->Int->Int->Option Bool|0,_,_,_=>none|fu+1,e,g,b=>bif(decide (b<g))then need (0<=b/\b<(e.length:Int))<|(ZsB (e.getD b.toNat Zac.d)).bind fun h=>bif(!h)then some false else bif(decide (b>(0:Int)))then need (0<=(ZaG b (1:Int))/\(ZaG b (1:Int))<(f.length:Int))<|(Zkk ((f.getD (ZaG b (1:Int)).toNat Zac.d).fNet) ((e.getD b.toNat Zac.d).fNet)).bind fun i=>bif(decide (i>=(0:Int)))then some false else Zim f fu e g (Zaq b 1)else Zim f fu e g (Zaq b 1)else some true
theorem ZtB(t:List Zac):∀(g:Nat)(d:List Zac)(e f:Int)(r:Bool),Zim t g d e f=some r->Yr 32 S0 w0 Tryz.f88 (Yk r) [1,0,1,0] ⟨[(0,(Yl t)),(5,(Yl d)),(6,(Yj e)),(7,(Yj f))],[]⟩:=by
 intro g;induction g with
 |zero=>
  intro d e f r b;simp[Zim]at b
 |succ g u=>
  intro d e f r b;unfold Zim at b;obtain⟨i,b⟩|⟨i,b⟩:=Zag b
  .obtain⟨v,b⟩:=Zao b;obtain⟨j,y,b⟩:=Zad b;have O1:=(mo i v (Zxx _ _ y));obtain⟨h,b⟩|⟨h,b⟩:=Zag b
   .apply Ya b 15 [rz,rz,⟨[(1,aB j)],[(3,true)],[],[],[],[],[]⟩,rz] [true,true] (mD O1 h (mP true))
   .obtain⟨o,b⟩|⟨o,b⟩:=Zag b
    .obtain⟨z,b⟩:=Zao b;obtain⟨A,B,b⟩:=Zad b
     let R2:List RA:=[rz,rz,⟨[(1,aB j),(15,aI A)],[(3,false),(6,true)],[],[],[],[],[]⟩,rz]
     have O3:=(mF O1 h o z (Zpl _ _ _ B));obtain⟨p,b⟩|⟨p,b⟩:=Zag b
     .apply Ya b 15 R2 [true,true] (mC O3 p)
     .exact Ye 17 R2 [true,false] (Yi [0,5,6,7]) (mC O3 p) (u d e (Zaq f 1) r b)
    .exact Ye 17 [rz,rz,⟨[(1,aB j)],[(3,false),(6,false)],[],[],[],[],[]⟩,rz] [true,false] (Yi [0,5,6,7]) (mE O1 h o (mP false)) (u d e (Zaq f 1) r b)
  .apply Ya b 8 [rz,rz] [false] (ml i)
def Zri(b:List Zac):Option Bool:=Zim b (((b.length:Int)-(0:Int)).toNat+2) b (b.length:Int) (0:Int)
theorem ZwA(b:List Zac)(r:Bool)(d:Zri b=some r):Yp 88 [Yl b] (Yk r):=by
 refine Yv Tryz.func88 fun S0 w0=>?_;unfold Zri at d;exact Ye 6 [rz,rz] [] (Yi [0,5,6,7]) .n (ZtB S0 w0 b (((b.length:Int)-(0:Int)).toNat+2) b (b.length:Int) (0:Int) r d)
def Zik(f:List Zab):Nat->(List Zab)->Int->Int->Option Bool|0,_,_,_=>none|fu+1,e,g,b=>bif(decide (b<g))then need (0<=b/\b<(e.length:Int))<|(Zht (e.getD b.toNat Zab.d)).bind fun h=>bif(!h)then some false else bif(decide (b>(0:Int)))then need (0<=(ZaG b (1:Int))/\(ZaG b (1:Int))<(f.length:Int))<|(ZfM ((f.getD (ZaG b (1:Int)).toNat Zab.d).fEnd) ((e.getD b.toNat Zab.d).fEnd)).bind fun i=>bif(decide (i>=(0:Int)))then some false else Zik f fu e g (Zaq b 1)else Zik f fu e g (Zaq b 1)else some true
theorem Ztw(t:List Zab):∀(g:Nat)(d:List Zab)(e f:Int)(r:Bool),Zik t g d e f=some r->Yr 32 S0 w0 Tryz.f89 (Yk r) [1,0,1,0] ⟨[(0,(Yn t)),(5,(Yn d)),(6,(Yj e)),(7,(Yj f))],[]⟩:=by
 intro g;induction g with
 |zero=>
  intro d e f r b;simp[Zik]at b
 |succ g u=>
  intro d e f r b;unfold Zik at b;obtain⟨i,b⟩|⟨i,b⟩:=Zag b
  .obtain⟨v,b⟩:=Zao b;obtain⟨j,y,b⟩:=Zad b;have O1:=(mo i v (ZiU _ _ y));obtain⟨h,b⟩|⟨h,b⟩:=Zag b
   .apply Ya b 15 [rz,rz,⟨[(1,aB j)],[(3,true)],[],[],[],[],[]⟩,rz] [true,true] (mD O1 h (mP true))
   .obtain⟨o,b⟩|⟨o,b⟩:=Zag b
    .obtain⟨z,b⟩:=Zao b;obtain⟨A,B,b⟩:=Zad b
     let R2:List RA:=[rz,rz,⟨[(1,aB j),(15,aI A)],[(3,false),(6,true)],[],[],[],[],[]⟩,rz]
     have O3:=(mF O1 h o z (Zig _ _ _ B));obtain⟨p,b⟩|⟨p,b⟩:=Zag b
     .apply Ya b 15 R2 [true,true] (mC O3 p)
     .exact Ye 17 R2 [true,false] (Yi [0,5,6,7]) (mC O3 p) (u d e (Zaq f 1) r b)
    .exact Ye 17 [rz,rz,⟨[(1,aB j)],[(3,false),(6,false)],[],[],[],[],[]⟩,rz] [true,false] (Yi [0,5,6,7]) (mE O1 h o (mP false)) (u d e (Zaq f 1) r b)
  .apply Ya b 8 [rz,rz] [false] (ml i)
def Zre(b:List Zab):Option Bool:=Zik b (((b.length:Int)-(0:Int)).toNat+2) b (b.length:Int) (0:Int)
theorem Zrd(b:List Zab)(r:Bool)(d:Zre b=some r):Yp 89 [Yn b] (Yk r):=by
 refine Yv Tryz.func89 fun S0 w0=>?_;unfold Zre at d;exact Ye 6 [rz,rz] [] (Yi [0,5,6,7]) .n (Ztw S0 w0 b (((b.length:Int)-(0:Int)).toNat+2) b (b.length:Int) (0:Int) r d)
def Zhn(f:List Zaa):Nat->(List Zaa)->Int->Int->Option Bool|0,_,_,_=>none|fu+1,e,g,b=>bif(decide (b<g))then need (0<=b/\b<(e.length:Int))<|(ZnW (e.getD b.toNat Zaa.d)).bind fun h=>bif(!h)then some false else bif(decide (b>(0:Int)))then need (0<=(ZaG b (1:Int))/\(ZaG b (1:Int))<(f.length:Int))<|(ZmL (f.getD (ZaG b (1:Int)).toNat Zaa.d) (e.getD b.toNat Zaa.d)).bind fun i=>bif(decide (i>=(0:Int)))then some false else Zhn f fu e g (Zaq b 1)else Zhn f fu e g (Zaq b 1)else some true
theorem Zsp(t:List Zaa):∀(g:Nat)(d:List Zaa)(e f:Int)(r:Bool),Zhn t g d e f=some r->Yr 30 S0 w0 Tryz.f90 (Yk r) [1,0,1,0] ⟨[(0,(Ym t)),(5,(Ym d)),(6,(Yj e)),(7,(Yj f))],[]⟩:=by
 intro g;induction g with
 |zero=>
  intro d e f r b;simp[Zhn]at b
 |succ g u=>
  intro d e f r b;unfold Zhn at b;obtain⟨i,b⟩|⟨i,b⟩:=Zag b
  .obtain⟨v,b⟩:=Zao b;obtain⟨j,y,b⟩:=Zad b;have O1:=(mo i v (Znj _ _ y));obtain⟨h,b⟩|⟨h,b⟩:=Zag b
   .apply Ya b 15 [rz,rz,⟨[(1,aB j)],[(3,true)],[],[],[],[],[]⟩,rz] [true,true] (mD O1 h (mP true))
   .obtain⟨o,b⟩|⟨o,b⟩:=Zag b
    .obtain⟨z,b⟩:=Zao b;obtain⟨A,B,b⟩:=Zad b
     let R2:List RA:=[rz,rz,⟨[(1,aB j),(13,aI A)],[(3,false),(6,true)],[],[],[],[],[]⟩,rz]
     have O3:=(mF O1 h o z (Zqc _ _ _ B));obtain⟨p,b⟩|⟨p,b⟩:=Zag b
     .apply Ya b 15 R2 [true,true] (mC O3 p)
     .exact Ye 17 R2 [true,false] (Yi [0,5,6,7]) (mC O3 p) (u d e (Zaq f 1) r b)
    .exact Ye 17 [rz,rz,⟨[(1,aB j)],[(3,false),(6,false)],[],[],[],[],[]⟩,rz] [true,false] (Yi [0,5,6,7]) (mE O1 h o (mP false)) (u d e (Zaq f 1) r b)
  .apply Ya b 8 [rz,rz] [false] (ml i)
def ZpC(b:List Zaa):Option Bool:=Zhn b (((b.length:Int)-(0:Int)).toNat+2) b (b.length:Int) (0:Int)
theorem ZuO(b:List Zaa)(r:Bool)(d:ZpC b=some r):Yp 90 [Ym b] (Yk r):=by
 refine Yv Tryz.func90 fun S0 w0=>?_;unfold ZpC at d;exact Ye 6 [rz,rz] [] (Yi [0,5,6,7]) .n (Zsp S0 w0 b (((b.length:Int)-(0:Int)).toNat+2) b (b.length:Int) (0:Int) r d)
def ZgJ:Nat->(List Zaa)->Int->Int->Zan->Option Bool|0,_,_,_,_=>none|fu+1,f,h,b,e=>bif(decide (b<h))then need (0<=b/\b<(f.length:Int))<|(Zkx e.fBook ((f.getD b.toNat Zaa.d).fEnd)).bind fun g=>bif(!(f.getD b.toNat Zaa.d).fIn)then bif(decide (g<(0:Int)))then some false else need (0<=g/\g<(e.fBook.length:Int))<|bif((e.fBook.getD g.toNat Zab.d).fState != (3:Int))then some false else ZgJ fu f h (Zaq b 1) e else ZgJ fu f h (Zaq b 1) e else(ZkJ e.fBook (3:Int)).bind fun i=>(Zhr e.fPeers false).bind fun j=>some (i==j)
theorem ZrV:∀(j:Nat)(f:List Zaa)(g h:Int)(e:Zan)(r:Bool),ZgJ j f g h e=some r->Yr 42 S0 w0 Tryz.f93 (Yk r) [1,0,1,0] ⟨[(1,.one (.ptr 1 0)),(7,(Ym f)),(8,(Yj g)),(9,(Yj h))],[(1,.box (Zan.c e))]⟩:=by
 intro j;induction j with
 |zero=>
  intro f g h e r b;simp[ZgJ]at b
 |succ j v=>
  intro f g h e r b;unfold ZgJ at b;obtain⟨p,b⟩|⟨p,b⟩:=Zag b
  .obtain⟨z,b⟩:=Zao b;obtain⟨t,A,b⟩:=Zad b;have O1:=(mo p z (Zoy _ _ _ A));obtain⟨i,b⟩|⟨i,b⟩:=Zag b
   .obtain⟨o,b⟩|⟨o,b⟩:=Zag b
    .apply Ya b 17 [rz,rz,rA [(4,aI t)],rB [(3,true),(6,true)],rz] [true,true] (mE O1 i o (mP true))
    .obtain⟨y,b⟩:=Zao b
     let R2:List RA:=[rz,rz,rA [(4,aI t)],rB [(3,true),(6,false)],rz]
     obtain⟨u,b⟩|⟨u,b⟩:=Zag b
     .apply Ya b 17 R2 [true,true] (mF O1 i o y u)
     .exact Ye 19 R2 [true,false] (ma [1,7,8,9] [1]) (mF O1 i o y u) (v f g (Zaq h 1) e r b)
   .exact Ye 19 [rz,rz,rA [(4,aI t)],rB [(3,false)],rz] [true,false] (ma [1,7,8,9] [1]) (mD O1 i (mP false)) (v f g (Zaq h 1) e r b)
  .obtain⟨B,C,D,E,b⟩:=Yu b;apply Ya b 8 [rz,rA [(2,aI B),(5,aI C)]] [false] (mo p (Zrf _ _ _ D) (ZiR _ _ _ E))
def Zof(b:Zan):Option Bool:=ZgJ (((b.fPeers.length:Int)-(0:Int)).toNat+2) b.fPeers (b.fPeers.length:Int) (0:Int) b
theorem Zum(b:Zan)(r:Bool)(d:Zof b=some r):Yp 93 [.agg (Zan.c b)] (Yk r):=by
 refine Yv Tryz.func93 fun S0 w0=>?_;unfold Zof at d;exact Ye 6 [rz,rz] [] (ma [1,7,8,9] [1]) .n (ZrV S0 w0 (((b.fPeers.length:Int)-(0:Int)).toNat+2) b.fPeers (b.fPeers.length:Int) (0:Int) b r d)
def ZpF(d:Zav)(b:Zan):Option Bool:=(Zrb d).bind fun e=>bif(!e)then some false else(Zri b.fBans).bind fun f=>bif(!f)then some false else(Zre b.fBook).bind fun g=>bif(!g)then some false else(ZpC b.fPeers).bind fun h=>bif(!h)then some false else bif(decide ((b.fBans.length:Int)<=d.fMaxBans))then bif(decide ((b.fBook.length:Int)<=d.fMaxBook))then(Zhr b.fPeers true).bind fun i=>bif(decide (i<=d.fMaxIn))then(Zid b).bind fun j=>bif(decide (j<=d.fMaxOut))then(Zof b).bind fun n=>some n else some false else some false else some false else some false
theorem ZuU(A:Zav)(B:Zan)(r:Bool)(b:ZpF A B=some r):Yp 30 [.agg (Zav.c A),.agg (Zan.c B)] (Yk r):=by
 refine Yv Tryz.func30 fun S0 w0=>?_;unfold ZpF at b;obtain⟨i,C,b⟩:=Zad b;obtain⟨p,b⟩|⟨p,b⟩:=Zag b
 .apply Ya b 8 [rz,⟨[(1,aB i)],[(3,true)],[],[],[],[],[]⟩,rz] [true] (mo (Zra _ _ C) p (mP true))
 .obtain⟨t,G,b⟩:=Zad b;have O1:=(mo (Zra _ _ C) p (ZwA _ _ G));obtain⟨j,b⟩|⟨j,b⟩:=Zag b
  .apply Ya b 8 [rz,⟨[(1,aB i),(6,aB t)],[(3,false),(9,true)],[],[],[],[],[]⟩,rz] [true] (mD O1 j (mP true))
  .obtain⟨D,E,b⟩:=Zad b;obtain⟨u,b⟩|⟨u,b⟩:=Zag b
   .apply Ya b 8 [rz,⟨[(1,aB i),(6,aB t),(12,aB D)],[(3,false),(9,false),(15,true)],[],[],[],[],[]⟩,rz] [true] (mF O1 j (Zrd _ _ E) u (mP true))
   .obtain⟨H,I,b⟩:=Zad b
    let R2:List RA:=[rz,⟨[(1,aB i),(6,aB t),(12,aB D),(18,aB H)],[(3,false),(9,false),(15,false)],[],[],[],[],[]⟩]
    have O3:=(mF O1 j (Zrd _ _ E) u (ZuO _ _ I));obtain⟨g,b⟩|⟨g,b⟩:=Zag b
    .apply Ya b 8 (R2++[rz]) [true] (mC O3 g)
    .obtain⟨o,b⟩|⟨o,b⟩:=Zag b
     .obtain⟨e,b⟩|⟨e,b⟩:=Zag b
      .obtain⟨v,y,b⟩:=Zad b;have O4:=(mF O3 g o e (ZiR _ _ _ y));obtain⟨d,b⟩|⟨d,b⟩:=Zag b
       .obtain⟨F,h,b⟩:=Zad b;obtain⟨f,b⟩|⟨f,b⟩:=Zag b
        .obtain⟨J,z,b⟩:=Zad b;apply Ya b 9 (R2++[⟨[(17,aI v),(24,aI F),(31,aB J)],[(6,true),(14,true),(22,true),(29,true)],[],[],[],[],[]⟩]) [false] (mF O4 d (Zjf _ _ h) f (Zum _ _ z))
        .apply Ya b 9 (R2++[⟨[(17,aI v),(24,aI F)],[(6,true),(14,true),(22,true),(29,false)],[],[],[],[],[]⟩]) [false] (mE O4 d (Zjf _ _ h) f)
       .apply Ya b 9 (R2++[⟨[(17,aI v)],[(6,true),(14,true),(22,false)],[],[],[],[],[]⟩]) [false] (mC O4 d)
      .apply Ya b 9 (R2++[rB [(6,true),(14,false)]]) [false] (mE O3 g o e)
     .apply Ya b 9 (R2++[rB [(6,false)]]) [false] (mD O3 g o)
def Zcz:Option Bool:=(ZjV).bind fun e=>(Zsz e (Zan.mk ([]:(List Zac)) ([]:(List Zab)) ([]:(List Zaa))) ([(Zas.mk 1 (Zaj.mk (Zah.mk false 0 1) 80) (Zae.mk (Zah.mk false 0 0) 0) 5 0 false),(Zas.mk 1 (Zaj.mk (Zah.mk false 0 1) 80) (Zae.mk (Zah.mk false 0 0) 0) 5 0 false)]:List Zas)).bind fun b=>bif(((b.2.length:Nat):Int)==(2:Int))then need (0<=(0:Int)/\(0:Int)<((b.2.length:Nat):Int))<|bif((b.2.getD (0:Int).toNat Zap.d).fCode==(0:Int))then need (0<=(1:Int)/\(1:Int)<((b.2.length:Nat):Int))<|bif((b.2.getD (1:Int).toNat Zap.d).fCode==(7:Int))then bif(((b.1.fPeers.length:Nat):Int)==(1:Int))then need (0<=(0:Int)/\(0:Int)<((b.1.fPeers.length:Nat):Int))<|bif((b.1.fPeers.getD (0:Int).toNat Zaa.d).fSince==(5:Int))then(ZpF e b.1).bind fun f=>some f else some false else some false else some false else some false else some false
theorem Zdi(r:Bool)(b:Zcz=some r):Yp 28 [] (Yk r):=by
 refine Yv Tryz.func28 fun S0 w0=>?_;unfold Zcz at b;obtain⟨z,A,b⟩:=Zad b;obtain⟨y,B,b⟩:=Zad b
 let R1:List RA:=[rz,rA [(0,aG (Zav.c z))],rz,⟨[(5,.r (.tup [(true,Zan.c y.1),(false,(cLs 8 Zap.c Zap.d) y.2)]) [])],[],[],[],[(1,[(0,cL 5 Zac.c Zac.d []),(1,cL 7 Zab.c Zab.d []),(2,cL 10 Zaa.c Zaa.d [])])],[(4,(([(Zas.mk 1 (Zaj.mk (Zah.mk false 0 1) 80) Zae.d 5 0 false),(Zas.mk 1 (Zaj.mk (Zah.mk false 0 1) 80) Zae.d 5 0 false)]:List Zas).length,Zam Zas.c Zas.d ([(Zas.mk 1 (Zaj.mk (Zah.mk false 0 1) 80) Zae.d 5 0 false),(Zas.mk 1 (Zaj.mk (Zah.mk false 0 1) 80) Zae.d 5 0 false)]:List Zas)))],[]⟩]
 have O2:=(mo (ZpO _ A) (mN (e:=Zas.c) Zas.d 12 (fun _=>rfl) ([(Zas.mk 1 (Zaj.mk (Zah.mk false 0 1) 80) Zae.d 5 0 false),(Zas.mk 1 (Zaj.mk (Zah.mk false 0 1) 80) Zae.d 5 0 false)]:List Zas)) (Zxq _ _ _ _ B));obtain⟨g,b⟩|⟨g,b⟩:=Zag b
 .obtain⟨o,b⟩:=Zao b;obtain⟨h,b⟩|⟨h,b⟩:=Zag b
  .obtain⟨t,b⟩:=Zao b;obtain⟨p,b⟩|⟨p,b⟩:=Zag b
   .obtain⟨u,b⟩|⟨u,b⟩:=Zag b
    .obtain⟨C,b⟩:=Zao b;have O3:=(mI O2 g o h t p u C);obtain⟨f,b⟩|⟨f,b⟩:=Zag b
     .obtain⟨D,v,b⟩:=Zad b;apply Ya b 10 (R1++[⟨[(34,aB D)],[(3,true),(10,true),(17,true),(23,true),(31,true)],[],[],[],[],[]⟩]) [] (mD O3 f (ZuU _ _ _ v))
     .apply Ya b 10 (R1++[rB [(3,true),(10,true),(17,true),(23,true),(31,false)]]) [] (mC O3 f)
    .apply Ya b 10 (R1++[rB [(3,true),(10,true),(17,true),(23,false)]]) [] (mH O2 g o h t p u)
   .apply Ya b 10 (R1++[rB [(3,true),(10,true),(17,false)]]) [] (mG O2 g o h t p)
  .apply Ya b 10 (R1++[rB [(3,true),(10,false)]]) [] (mE O2 g o h)
 .apply Ya b 10 (R1++[rB [(3,false)]]) [] (mC O2 g)
def Zgt(b:Int):Option ByteArray:=bif(decide (b<(1:Int)))then some (⟨#[]⟩ : ByteArray)else bif(decide (b>(13:Int)))then some (⟨#[]⟩ : ByteArray)else need (0<=b/\b<((([(⟨#[]⟩ : ByteArray),(⟨#[101,116]⟩ : ByteArray),(⟨#[101]⟩ : ByteArray),(⟨#[116]⟩ : ByteArray),(⟨#[101,103,116,107]⟩ : ByteArray),(⟨#[101,107,116]⟩ : ByteArray),(⟨#[110,107,116]⟩ : ByteArray),(⟨#[110]⟩ : ByteArray),(⟨#[97,116]⟩ : ByteArray),(⟨#[116]⟩ : ByteArray),(⟨#[]⟩ : ByteArray),(⟨#[101,107]⟩ : ByteArray),(⟨#[101,116]⟩ : ByteArray),(⟨#[101,116]⟩ : ByteArray)]:List ByteArray).length:Nat):Int))<|some (([(⟨#[]⟩ : ByteArray),(⟨#[101,116]⟩ : ByteArray),(⟨#[101]⟩ : ByteArray),(⟨#[116]⟩ : ByteArray),(⟨#[101,103,116,107]⟩ : ByteArray),(⟨#[101,107,116]⟩ : ByteArray),(⟨#[110,107,116]⟩ : ByteArray),(⟨#[110]⟩ : ByteArray),(⟨#[97,116]⟩ : ByteArray),(⟨#[116]⟩ : ByteArray),(⟨#[]⟩ : ByteArray),(⟨#[101,107]⟩ : ByteArray),(⟨#[101,116]⟩ : ByteArray),(⟨#[101,116]⟩ : ByteArray)]:List ByteArray).getD b.toNat ByteArray.empty)
theorem ZpL(h:Int)(r:ByteArray)(b:Zgt h=some r):Yp 105 [Yj h] (.one (.lit (.string r))):=by
 refine Yv Tryz.func105 fun S0 w0=>?_;unfold Zgt at b
 let R1:List RA:=[rz,⟨[],[],[],[],[],[(0,(([(⟨#[]⟩ : ByteArray),(⟨#[101,116]⟩ : ByteArray),(⟨#[101]⟩ : ByteArray),(⟨#[116]⟩ : ByteArray),(⟨#[101,103,116,107]⟩ : ByteArray),(⟨#[101,107,116]⟩ : ByteArray),(⟨#[110,107,116]⟩ : ByteArray),(⟨#[110]⟩ : ByteArray),(⟨#[97,116]⟩ : ByteArray),(⟨#[116]⟩ : ByteArray),(⟨#[]⟩ : ByteArray),(⟨#[101,107]⟩ : ByteArray),(⟨#[101,116]⟩ : ByteArray),(⟨#[101,116]⟩ : ByteArray)]:List ByteArray).length,Zam cS ByteArray.empty ([(⟨#[]⟩ : ByteArray),(⟨#[101,116]⟩ : ByteArray),(⟨#[101]⟩ : ByteArray),(⟨#[116]⟩ : ByteArray),(⟨#[101,103,116,107]⟩ : ByteArray),(⟨#[101,107,116]⟩ : ByteArray),(⟨#[110,107,116]⟩ : ByteArray),(⟨#[110]⟩ : ByteArray),(⟨#[97,116]⟩ : ByteArray),(⟨#[116]⟩ : ByteArray),(⟨#[]⟩ : ByteArray),(⟨#[101,107]⟩ : ByteArray),(⟨#[101,116]⟩ : ByteArray),(⟨#[101,116]⟩ : ByteArray)]:List ByteArray)))],[]⟩]
 have O2:=(ml (mN (e:=cS) ByteArray.empty 1 (fun _=>rfl) ([(⟨#[]⟩ : ByteArray),(⟨#[101,116]⟩ : ByteArray),(⟨#[101]⟩ : ByteArray),(⟨#[116]⟩ : ByteArray),(⟨#[101,103,116,107]⟩ : ByteArray),(⟨#[101,107,116]⟩ : ByteArray),(⟨#[110,107,116]⟩ : ByteArray),(⟨#[110]⟩ : ByteArray),(⟨#[97,116]⟩ : ByteArray),(⟨#[116]⟩ : ByteArray),(⟨#[]⟩ : ByteArray),(⟨#[101,107]⟩ : ByteArray),(⟨#[101,116]⟩ : ByteArray),(⟨#[101,116]⟩ : ByteArray)]:List ByteArray)));obtain⟨f,b⟩|⟨f,b⟩:=Zag b
 .apply Ya b 10 (R1++[rB [(2,true)],rz]) [true] (mD O2 f (mP true))
 .obtain⟨g,b⟩|⟨g,b⟩:=Zag b
  .apply Ya b 10 (R1++[rB [(2,false)],rz]) [true] (mD O2 f g)
  .obtain⟨o,b⟩:=Zao b;apply Ya b 11 (R1++[rB [(2,false)],rz]) [false] (mE O2 f g o)
def Zbu(b:Zah):Option Bool:=bif(!b.fV6)then bif(b.fHi==(0:Int))then some (decide (b.fLo<(4294967296:Int)))else some false else bif(b.fHi != (0:Int))then some true else some ((IntKind.wrap .u64 (Int.tdiv b.fLo (4294967296:Int))) != (65535:Int))
theorem ZaT(g:Zah)(r:Bool)(b:Zbu g=some r):Yp 95 [.agg (Zah.c g)] (Yk r):=by
 refine Yv Tryz.func95 fun S0 w0=>?_;unfold Zbu at b;obtain⟨d,b⟩|⟨d,b⟩:=Zag b
 .obtain⟨e,b⟩|⟨e,b⟩:=Zag b
  .apply Ya b 8 [rz,rz,rB [(3,true)]] [true] (mn d e)
  .apply Ya b 8 [rz,rz,rB [(3,false)]] [true] (mn d e)
 .obtain⟨f,b⟩|⟨f,b⟩:=Zag b
  .apply Ya b 9 [rz,rz,rB [(3,true)]] [false] (mn d f)
  .apply Ya b 9 [rz,rz,rB [(3,false)]] [false] (mo d f (show (4294967296:Int)≠0 from(by decide)))
def Zfe(b:Zaj):Option Bool:=(Zbu b.fAddr).bind fun d=>bif d then bif(decide (b.fPort>(0:Int)))then some (decide (b.fPort<(65536:Int)))else some false else some false
theorem ZiI(g:Zaj)(r:Bool)(b:Zfe g=some r):Yp 106 [.agg (Zaj.c g)] (Yk r):=by
 refine Yv Tryz.func106 fun S0 w0=>?_;unfold Zfe at b;obtain⟨d,h,b⟩:=Zad b;obtain⟨e,b⟩|⟨e,b⟩:=Zag b
 .have O1:=(mn (ZaT _ _ h) e);obtain⟨f,b⟩|⟨f,b⟩:=Zag b
  .apply Ya b 4 [rz,⟨[(2,aB d)],[(3,true),(8,true)],[],[],[],[],[]⟩] [] (mC O1 f)
  .apply Ya b 4 [rz,⟨[(2,aB d)],[(3,true),(8,false)],[],[],[],[],[]⟩] [] (mC O1 f)
 .apply Ya b 4 [rz,⟨[(2,aB d)],[(3,false)],[],[],[],[],[]⟩] [] (mn (ZaT _ _ h) e)
def ZbM(b:Zah):Option Int:=bif b.fV6 then some (128:Int)else some (32:Int)
theorem Zct(e:Zah)(r:Int)(b:ZbM e=some r):Yp 180 [.agg (Zah.c e)] (Yj r):=by
 refine Yv Tryz.func180 fun S0 w0=>?_;unfold ZbM at b;obtain⟨d,b⟩|⟨d,b⟩:=Zag b
 .apply Ya b 8 [rz,rz,rz] [true] (ml d)
 .apply Ya b 9 [rz,rz,rz] [false] (ml d)
def ZcL(b d:Int)(e:Zah):Option Int:=bif(!e.fV6)then need (0<=(IntKind.wrap .u64 (ZaG (31:Int) b)))<|some (IntKind.wrap .i64 (IntKind.wrap .u64 (((BitVec.ofInt (IntKind.bits .u64) (Int.fdiv d (2 ^ (min (IntKind.wrap .u64 (ZaG (31:Int) b)).toNat (IntKind.bits .u64))))) &&& (BitVec.ofInt (IntKind.bits .u64) (1:Int))).toNat:Int)))else need (0<=(IntKind.wrap .u64 (ZaG (63:Int) (Int.tmod b (64:Int)))))<|some (IntKind.wrap .i64 (IntKind.wrap .u64 (((BitVec.ofInt (IntKind.bits .u64) (Int.fdiv d (2 ^ (min (IntKind.wrap .u64 (ZaG (63:Int) (Int.tmod b (64:Int)))).toNat (IntKind.bits .u64))))) &&& (BitVec.ofInt (IntKind.bits .u64) (1:Int))).toNat:Int)))
theorem Zij(f g:Int)(d:Zah)(r:Int)(b:ZcL f g d=some r):Yr 39 S0 w0 Tryz.f96 (Yj r) [1,1,1,1] ⟨[(1,(Yj f)),(2,.one (.ptr 2 0)),(5,.one (.lit (.int .u64 g)))],[(2,.box (Zah.c d))]⟩:=by
 unfold ZcL at b;have O1:=(ml (show (64:Int)≠0 from(by decide)));obtain⟨e,b⟩|⟨e,b⟩:=Zag b
 .obtain⟨h,b⟩:=Zao b;apply Ya b 9 [rz,rz,rz,rz] [true] (mD O1 e h)
 .obtain⟨i,b⟩:=Zao b;apply Ya b 9 [rz,rz,rz] [false] (mD O1 e i)
def Zbx(b:Zah)(d:Int):Option Int:=bif(decide (d<(0:Int)))then some (0:Int)else(ZbM b).bind fun e=>bif(decide (d>=e))then some (0:Int)else bif b.fV6 then bif(decide (d<(64:Int)))then ZcL d b.fHi b else ZcL d b.fLo b else ZcL d b.fLo b
theorem ZdI(d:Zah)(e r:Int)(b:Zbx d e=some r):Yp 96 [.agg (Zah.c d),Yj e] (Yj r):=by
 refine Yv Tryz.func96 fun S0 w0=>?_;unfold Zbx at b;obtain⟨h,b⟩|⟨h,b⟩:=Zag b
 .apply Ya b 8 [rz,rB [(2,true)],rz] [true] (mn h (mP true))
 .obtain⟨j,o,b⟩:=Zad b
  let R2:List RA:=[rz,⟨[(5,aI j)],[(2,false)],[],[],[],[],[]⟩,rz]
  have O3:=(mn h (Zct _ _ o));obtain⟨f,b⟩|⟨f,b⟩:=Zag b
  .apply Ya b 8 R2 [true] (mC O3 f)
  .obtain⟨g,b⟩|⟨g,b⟩:=Zag b
   .obtain⟨i,b⟩|⟨i,b⟩:=Zag b
    .exact Ye 14 (R2++[rB [(2,true)],rz]) [false,true] (ma [1,2,5] [2]) (mE O3 f g i) (Zij S0 w0 e d.fHi d r b)
    .exact Ye 14 (R2++[rB [(2,true)]]) [false,false] (ma [1,2,5] [2]) (mE O3 f g i) (Zij S0 w0 e d.fLo d r b)
   .exact Ye 14 (R2++[rB [(2,false)]]) [false,false] (ma [1,2,5] [2]) (mE O3 f g (mP false)) (Zij S0 w0 e d.fLo d r b)
def Zdh:Nat->Int->Zae->Option Bool|0,_,_=>none|fu+1,b,d=>(ZbM d.fAddr).bind fun e=>bif(decide (b<e))then(Zbx d.fAddr b).bind fun f=>bif(f==(1:Int))then some false else Zdh fu (Zaq b 1) d else some true
theorem ZnQ:∀(f:Nat)(e:Int)(d:Zae)(r:Bool),Zdh f e d=some r->Yr 35 S0 w0 Tryz.f94 (Yk r) [1,1,0,1,0] ⟨[(1,.one (.ptr 1 0)),(3,(Yj e))],[(1,.box (Zae.c d))]⟩:=by
 intro f;induction f with
 |zero=>
  intro e d r b;simp[Zdh]at b
 |succ f p=>
  intro e d r b;unfold Zdh at b;obtain⟨g,j,b⟩:=Zad b;obtain⟨h,b⟩|⟨h,b⟩:=Zag b
  .obtain⟨o,t,b⟩:=Zad b;have O1:=(mo (Zct _ _ j) h (ZdI _ _ _ t));obtain⟨i,b⟩|⟨i,b⟩:=Zag b
   .apply Ya b 13 [rA [(3,aI g)],rA [(3,aI o)],rz] [true,true] (mC O1 i)
   .exact Ye 15 [rA [(3,aI g)],rA [(3,aI o)],rz] [true,false] (ma [1,3] [1]) (mC O1 i) (p (Zaq e 1) d r b)
  .apply Ya b 8 [rA [(3,aI g)],rz] [false] (mn (Zct _ _ j) h)
def ZdY(b:Zae):Option Bool:=(Zbu b.fAddr).bind fun d=>bif(!d)then some false else bif(decide (b.fBits<(0:Int)))then some false else(ZbM b.fAddr).bind fun e=>bif(decide (b.fBits>e))then some false else Zdh 1000000 b.fBits b
theorem ZeU(d:Zae)(r:Bool)(b:ZdY d=some r):Yp 94 [.agg (Zae.c d)] (Yk r):=by
 refine Yv Tryz.func94 fun S0 w0=>?_;unfold ZdY at b;obtain⟨e,i,b⟩:=Zad b;obtain⟨f,b⟩|⟨f,b⟩:=Zag b
 .apply Ya b 8 [rz,⟨[(2,aB e)],[(4,true)],[],[],[],[],[]⟩,rz] [true] (mo (ZaT _ _ i) f (mP true))
 .have O2:=(mn (ZaT _ _ i) f);obtain⟨g,b⟩|⟨g,b⟩:=Zag b
  .apply Ya b 8 [rz,⟨[(2,aB e)],[(4,false),(9,true)],[],[],[],[],[]⟩,rz] [true] (mD O2 g (mP true))
  .obtain⟨j,o,b⟩:=Zad b
   let R3:List RA:=[rz,⟨[(2,aB e),(14,aI j)],[(4,false),(9,false)],[],[],[],[],[]⟩,rz]
   have O4:=(mD O2 g (Zct _ _ o));obtain⟨h,b⟩|⟨h,b⟩:=Zag b
   .apply Ya b 8 R3 [true] (mC O4 h)
   .exact Ye 11 R3 [false] (ma [1,3] [1]) (mC O4 h) (ZnQ S0 w0 1000000 d.fBits d r b)
def Zbe(f g:Int)(d:Zas):Nat->ByteArray->Int->Option Bool|0,_,_=>none|fu+1,e,b=>bif(decide (b<((e.size:Nat):Int)))then need (0<=b/\b<((e.size:Nat):Int))<|bif(((ZlD e b.toNat:Nat):Int)==(101:Int))then(Zfe d.fEnd).bind fun h=>bif(!h)then some false else Zbe f g d fu e (Zaq b 1)else bif(((ZlD e b.toNat:Nat):Int)==(110:Int))then(ZdY d.fNet).bind fun i=>bif(!i)then some false else Zbe f g d fu e (Zaq b 1)else bif(((ZlD e b.toNat:Nat):Int)==(97:Int))then(Zbu d.fEnd.fAddr).bind fun j=>bif(!j)then some false else Zbe f g d fu e (Zaq b 1)else bif(((ZlD e b.toNat:Nat):Int)==(116:Int))then bif(decide (d.fNow<(0:Int)))then some false else bif(decide (d.fNow>(1099511627776:Int)))then some false else Zbe f g d fu e (Zaq b 1)else bif(((ZlD e b.toNat:Nat):Int)==(107:Int))then bif(decide (d.fNum<f))then some false else bif(decide (d.fNum>g))then some false else Zbe f g d fu e (Zaq b 1)else Zbe f g d fu e (Zaq b 1)else some true
theorem ZnE(H I:Int)(d:Zas):∀(D:Nat)(g:ByteArray)(h:Int)(r:Bool),Zbe H I d D g h=some r->Yr 76 S0 w0 Tryz.f45 (Yk r) [1,1,1,1,1,0,1,0] ⟨[(1,.one (.ptr 1 0)),(3,(Yj H)),(4,(Yj I)),(5,.one (.lit (.string g))),(6,(Yj h))],[(1,.box (Zas.c d))]⟩:=by
 intro D;induction D with
 |zero=>
  intro g h r b;simp[Zbe]at b
 |succ D A=>
  intro g h r b;unfold Zbe at b;obtain⟨p,b⟩|⟨p,b⟩:=Zag b
  .obtain⟨C,b⟩:=Zao b;obtain⟨B,b⟩|⟨B,b⟩:=Zag b
   .obtain⟨J,O,b⟩:=Zad b;have O1:=(mq p C B (ZiI _ _ O));obtain⟨E,b⟩|⟨E,b⟩:=Zag b
    .apply Ya b 19 [rz,rz,rz,rA [(2,aB J)],rz] [true,true,true] (mC O1 E)
    .exact Ye 22 [rz,rz,rz,rA [(2,aB J)],rz] [true,true,false] (ma [1,3,4,5,6] [1]) (mC O1 E) (A g (Zaq h 1) r b)
   .obtain⟨e,b⟩|⟨e,b⟩:=Zag b
    .obtain⟨L,F,b⟩:=Zad b;have O2:=(mr p C B e (ZeU _ _ F));obtain⟨t,b⟩|⟨t,b⟩:=Zag b
     .apply Ya b 22 [rz,rz,rz,rz,rA [(2,aB L)],rz] [true,false,true,true] (mC O2 t)
     .exact Ye 25 [rz,rz,rz,rz,rA [(2,aB L)],rz] [true,false,true,false] (ma [1,3,4,5,6] [1]) (mC O2 t) (A g (Zaq h 1) r b)
    .obtain⟨i,b⟩|⟨i,b⟩:=Zag b
     .obtain⟨M,G,b⟩:=Zad b;have O3:=(mt p C B e i (ZaT _ _ G));obtain⟨u,b⟩|⟨u,b⟩:=Zag b
      .apply Ya b 25 [rz,rz,rz,rz,rz,rA [(3,aB M)],rz] [true,false,false,true,true] (mC O3 u)
      .exact Ye 28 [rz,rz,rz,rz,rz,rA [(3,aB M)],rz] [true,false,false,true,false] (ma [1,3,4,5,6] [1]) (mC O3 u) (A g (Zaq h 1) r b)
     .obtain⟨v,b⟩|⟨v,b⟩:=Zag b
      .have O4:=(mt p C B e i v);obtain⟨j,b⟩|⟨j,b⟩:=Zag b
       .apply Ya b 28 [rz,rz,rz,rz,rz,rz,rB [(3,true)],rz] [true,false,false,false,true,true] (mD O4 j (mP true))
       .obtain⟨y,b⟩|⟨y,b⟩:=Zag b
        .apply Ya b 28 [rz,rz,rz,rz,rz,rz,rB [(3,false)],rz] [true,false,false,false,true,true] (mD O4 j y)
        .exact Ye 31 [rz,rz,rz,rz,rz,rz,rB [(3,false)],rz] [true,false,false,false,true,false] (ma [1,3,4,5,6] [1]) (mD O4 j y) (A g (Zaq h 1) r b)
      .have O5:=(mt p C B e i v);obtain⟨f,b⟩|⟨f,b⟩:=Zag b
       .obtain⟨o,b⟩|⟨o,b⟩:=Zag b
        .apply Ya b 31 [rz,rz,rz,rz,rz,rz,rz,rB [(4,true)],rz] [true,false,false,false,false,true,true] (mE O5 f o (mP true))
        .let R6:List RA:=[rz,rz,rz,rz,rz,rz,rz,rB [(4,false)],rz]
         obtain⟨z,b⟩|⟨z,b⟩:=Zag b
         .apply Ya b 31 R6 [true,false,false,false,false,true,true] (mE O5 f o z)
         .exact Ye 34 R6 [true,false,false,false,false,true,false] (ma [1,3,4,5,6] [1]) (mE O5 f o z) (A g (Zaq h 1) r b)
       .exact Ye 31 [rz,rz,rz,rz,rz,rz,rz,rz] [true,false,false,false,false,false] (ma [1,3,4,5,6] [1]) (mC O5 f) (A g (Zaq h 1) r b)
  .apply Ya b 8 [rz,rz] [false] (ml p)
def Zdf(e f:Int)(b:Zas):Option Bool:=(Zgt b.fKind).bind fun d=>Zbe e f b ((((d.size:Nat):Int)-(0:Int)).toNat+2) d (0:Int)
theorem Zfl(e f:Int)(b:Zas)(r:Bool)(d:Zdf e f b=some r):Yr 76 S0 w0 Tryz.f45 (Yk r) [1,1,1,1] ⟨[(1,.one (.ptr 1 0)),(3,(Yj e)),(4,(Yj f))],[(1,.box (Zas.c b))]⟩:=by
 unfold Zdf at d;obtain⟨g,h,d⟩:=Zad d;exact Ye 6 [rA [(2,.r (.one (.lit (.string g))) [])],rz] [] (ma [1,3,4,5,6] [1]) (ml (ZpL _ _ h)) (ZnE S0 w0 e f b ((((g.size:Nat):Int)-(0:Int)).toNat+2) g (0:Int) r d)
def Zgu(b:Zas):Option Bool:=bif(decide (b.fKind<(1:Int)))then some false else bif(decide (b.fKind>(13:Int)))then some false else bif(b.fKind==(5:Int))then Zdf (1:Int) (5:Int) b else bif(b.fKind==(6:Int))then Zdf (1:Int) (1099511627776:Int) b else bif(b.fKind==(11:Int))then Zdf (1:Int) (1048576:Int) b else Zdf (0:Int) (1073741824:Int) b
theorem Zlg(e:Zas)(r:Bool)(b:Zgu e=some r):Yp 45 [.agg (Zas.c e)] (Yk r):=by
 refine Yv Tryz.func45 fun S0 w0=>?_;unfold Zgu at b;obtain⟨d,b⟩|⟨d,b⟩:=Zag b
 .apply Ya b 8 [rz,rB [(3,true)],rz] [true] (mn d (mP true))
 .obtain⟨f,b⟩|⟨f,b⟩:=Zag b
  .apply Ya b 8 [rz,rB [(3,false)],rz] [true] (mn d f)
  .obtain⟨g,b⟩|⟨g,b⟩:=Zag b
   .exact Ye 20 [rz,rB [(3,false)],rz,rz,rz,rz,rz] [false,true] (ma [1,3,4] [1]) (mo d f g) (Zfl S0 w0 (1:Int) (5:Int) e r b)
   .obtain⟨h,b⟩|⟨h,b⟩:=Zag b
    .exact Ye 23 [rz,rB [(3,false)],rz,rz,rz,rz,rz,rz] [false,false,true] (ma [1,3,4] [1]) (mq d f g h) (Zfl S0 w0 (1:Int) (1099511627776:Int) e r b)
    .obtain⟨i,b⟩|⟨i,b⟩:=Zag b
     .exact Ye 26 [rz,rB [(3,false)],rz,rz,rz,rz,rz,rz,rz] [false,false,false,true] (ma [1,3,4] [1]) (mr d f g h i) (Zfl S0 w0 (1:Int) (1048576:Int) e r b)
     .exact Ye 24 [rz,rB [(3,false)],rz,rz,rz,rz,rz] [false,false,false,false] (ma [1,3,4] [1]) (mr d f g h i) (Zfl S0 w0 (0:Int) (1073741824:Int) e r b)
def Zby(b:Int):Option Zap:=some (Zap.mk b (Zaj.mk (Zah.mk false 0 0) 0) 0 0 ([]:(List Zaa)))
theorem Zbt(b:Int)(r:Zap)(e:Zby b=some r):Yp 64 [Yj b] (.agg (Zap.c r)):=by
 refine Yv Tryz.func64 fun S0 w0=>?_;unfold Zby at e;apply Yb e 4 [rz,rz] [] [] [(2,[(7,cL 10 Zaa.c Zaa.d [])])] [] .n
def Zdc:Nat->Int->Zae->Zah->Option Bool|0,_,_,_=>none|fu+1,b,d,e=>bif(decide (b<d.fBits))then(Zbx d.fAddr b).bind fun f=>(Zbx e b).bind fun g=>bif(f != g)then some false else Zdc fu (Zaq b 1) d e else some true
theorem Zpf:∀(g:Nat)(f:Int)(d:Zae)(e:Zah)(r:Bool),Zdc g f d e=some r->Yr 36 S0 w0 Tryz.f33 (Yk r) [1,1,0,1,0] ⟨[(2,.one (.ptr 2 0)),(3,.one (.ptr 3 0)),(5,(Yj f))],[(2,.box (Zae.c d)),(3,.box (Zah.c e))]⟩:=by
 intro g;induction g with
 |zero=>
  intro f d e r b;simp[Zdc]at b
 |succ g p=>
  intro f d e r b;unfold Zdc at b;obtain⟨h,b⟩|⟨h,b⟩:=Zag b
  .obtain⟨j,o,t,u,b⟩:=Yu b;have O1:=(mo h (ZdI _ _ _ t) (ZdI _ _ _ u));obtain⟨i,b⟩|⟨i,b⟩:=Zag b
   .apply Ya b 13 [rz,rA [(3,aI j),(6,aI o)],rz] [true,true] (mC O1 i)
   .exact Ye 15 [rz,rA [(3,aI j),(6,aI o)],rz] [true,false] (ma [2,3,5] [2,3]) (mC O1 i) (p (Zaq f 1) d e r b)
  .apply Ya b 8 [rz,rz] [false] (ml h)
def Zgh(b:Zae)(d:Zah):Option Bool:=(ZdY b).bind fun e=>bif(!e)then some false else(Zbu d).bind fun f=>bif(!f)then some false else bif(!(b.fAddr.fV6==d.fV6))then some false else Zdc 1000000 (0:Int) b d
theorem Zmq(e:Zae)(f:Zah)(r:Bool)(b:Zgh e f=some r):Yp 33 [.agg (Zae.c e),.agg (Zah.c f)] (Yk r):=by
 refine Yv Tryz.func33 fun S0 w0=>?_;unfold Zgh at b;obtain⟨g,j,b⟩:=Zad b;obtain⟨h,b⟩|⟨h,b⟩:=Zag b
 .apply Ya b 8 [rz,⟨[(1,aB g)],[(3,true)],[],[],[],[],[]⟩,rz] [true] (mo (ZeU _ _ j) h (mP true))
 .obtain⟨o,p,b⟩:=Zad b;have O2:=(mo (ZeU _ _ j) h (ZaT _ _ p));obtain⟨d,b⟩|⟨d,b⟩:=Zag b
  .apply Ya b 8 [rz,⟨[(1,aB g),(5,aB o)],[(3,false),(8,true)],[],[],[],[],[]⟩,rz] [true] (mD O2 d (mP true))
  .let R3:List RA:=[rz,⟨[(1,aB g),(5,aB o)],[(3,false),(8,false)],[],[],[],[],[]⟩,rz]
   obtain⟨i,b⟩|⟨i,b⟩:=Zag b
   .apply Ya b 8 R3 [true] (mD O2 d i)
   .exact Ye 11 R3 [false] (ma [2,3,5] [2,3]) (mD O2 d i) (Zpf S0 w0 1000000 (0:Int) e f r b)
def ZgX(b:Zac)(d:Zah)(e:Int):Option Bool:=bif(decide (b.fUntil>e))then(Zgh b.fNet d).bind fun f=>some f else some false
theorem Zqv(e:Zac)(f:Zah)(g:Int)(r:Bool)(b:ZgX e f g=some r):Yp 35 [.agg (Zac.c e),.agg (Zah.c f),Yj g] (Yk r):=by
 refine Yv Tryz.func35 fun S0 w0=>?_;unfold ZgX at b;obtain⟨d,b⟩|⟨d,b⟩:=Zag b
 .obtain⟨h,i,b⟩:=Zad b;apply Ya b 4 [rz,⟨[(8,aB h)],[(4,true)],[],[],[],[],[]⟩] [] (mn d (Zmq _ _ _ i))
 .apply Ya b 4 [rz,rB [(4,false)]] [] (ml d)
def ZbL(e:List Zac)(f:Int):Nat->Int->Bool->Int->Zah->Option Int|0,_,_,_,_=>none|fu+1,h,i,b,g=>bif(decide (b<(e.length:Int)))then need (0<=b/\b<(e.length:Int))<|(ZgX (e.getD b.toNat Zac.d) g f).bind fun j=>bif j then bif(!i)then ZbL e f fu ((e.getD b.toNat Zac.d).fUntil) true (Zaq b 1) g else bif(decide ((e.getD b.toNat Zac.d).fUntil>h))then ZbL e f fu ((e.getD b.toNat Zac.d).fUntil) true (Zaq b 1) g else ZbL e f fu h i (Zaq b 1) g else ZbL e f fu h i (Zaq b 1) g else some h
theorem ZnN(o:List Zac)(A:Int):∀(p:Nat)(g:Int)(h:Bool)(e:Int)(f:Zah)(r:Int),ZbL o A p g h e f=some r->Yr 42 S0 w0 Tryz.f42 (Yj r) [1,1,0,1,0] ⟨[(0,(Yl o)),(2,(Yj A)),(4,.one (.ptr 4 0)),(7,(Yj g)),(8,(Yk h)),(9,(Yj e))],[(4,.box (Zah.c f))]⟩:=by
 intro p;induction p with
 |zero=>
  intro g h e f r b;simp[ZbL]at b
 |succ p t=>
  intro g h e f r b;unfold ZbL at b;obtain⟨v,b⟩|⟨v,b⟩:=Zag b
  .obtain⟨i,b⟩:=Zao b;obtain⟨y,B,b⟩:=Zad b;have O1:=(mo v i (Zqv _ _ _ _ B));obtain⟨j,b⟩|⟨j,b⟩:=Zag b
   .obtain⟨u,b⟩|⟨u,b⟩:=Zag b
    .exact Ye 17 [rz,⟨[(6,aB y)],[(7,true),(10,true)],[],[],[],[],[]⟩,rz,rz,rz] [true,true] (ma [0,2,4,7,8,9] [4]) (mF O1 j u (mP true) i) (t ((o.getD e.toNat Zac.d).fUntil) true (Zaq e 1) f r b)
    .let R2:List RA:=[rz,⟨[(6,aB y)],[(7,true),(10,false)],[],[],[],[],[]⟩,rz]
     obtain⟨z,b⟩|⟨z,b⟩:=Zag b
     .exact Ye 17 (R2++[rz,rz]) [true,true] (ma [0,2,4,7,8,9] [4]) (mG O1 j u i z i) (t ((o.getD e.toNat Zac.d).fUntil) true (Zaq e 1) f r b)
     .exact Ye 15 R2 [true,false] (ma [0,2,4,7,8,9] [4]) (mF O1 j u i z) (t g h (Zaq e 1) f r b)
   .exact Ye 15 [rz,⟨[(6,aB y)],[(7,false)],[],[],[],[],[]⟩,rz] [true,false] (ma [0,2,4,7,8,9] [4]) (mD O1 j (mP false)) (t g h (Zaq e 1) f r b)
  .apply Ya b 8 [rz,rz] [false] (ml v)
def Zcy(b:List Zac)(d:Zah)(e:Int):Option Int:=ZbL b e (((b.length:Int)-(0:Int)).toNat+2) (0:Int) false (0:Int) d
theorem ZdT(b:List Zac)(d:Zah)(e r:Int)(f:Zcy b d e=some r):Yp 42 [Yl b,.agg (Zah.c d),Yj e] (Yj r):=by
 refine Yv Tryz.func42 fun S0 w0=>?_;unfold Zcy at f;exact Ye 8 [rz,rz,rz] [] (ma [0,2,4,7,8,9] [4]) .n (ZnN S0 w0 b e (((b.length:Int)-(0:Int)).toNat+2) (0:Int) false (0:Int) d r f)
def ZcG(e:List Zaa):Nat->Int->Zaj->Option Int|0,_,_=>none|fu+1,b,f=>bif(decide (b<(e.length:Int)))then need (0<=b/\b<(e.length:Int))<|bif(decide ((e.getD b.toNat Zaa.d).fEnd=f))then some b else ZcG e fu (Zaq b 1) f else some (-1:Int)
theorem ZnH(g:List Zaa):∀(h:Nat)(f:Int)(e:Zaj)(r:Int),ZcG g h f e=some r->Yr 20 S0 w0 Tryz.f39 (Yj r) [1,0,1,0] ⟨[(0,(Ym g)),(3,.one (.ptr 3 0)),(5,(Yj f))],[(3,.box (Zaj.c e))]⟩:=by
 intro h;induction h with
 |zero=>
  intro f e r b;simp[ZcG]at b
 |succ h o=>
  intro f e r b;unfold ZcG at b;obtain⟨i,b⟩|⟨i,b⟩:=Zag b
  .obtain⟨p,b⟩:=Zao b
   let R1:List RA:=[rz,rA [(6,aB (decide ((g.getD f.toNat Zaa.d).fEnd=e)))],rz]
   have O2:=(mo i p (ZhG ((g.getD f.toNat Zaa.d).fEnd) e (.tmp 16) (.tmp 17)));obtain⟨j,b⟩|⟨j,b⟩:=Zag b
   .apply Ya b 13 R1 [true,true] (mC O2 j)
   .exact Ye 15 R1 [true,false] (ma [0,3,5] [3]) (mC O2 j) (o (Zaq f 1) e r b)
  .apply Ya b 8 [rz,rz] [false] (ml i)
def Zca(b:List Zaa)(d:Zaj):Option Int:=ZcG b (((b.length:Int)-(0:Int)).toNat+2) (0:Int) d
theorem ZbK(b:List Zaa)(d:Zaj)(r:Int)(e:Zca b d=some r):Yp 39 [Ym b,.agg (Zaj.c d)] (Yj r):=by
 refine Yv Tryz.func39 fun S0 w0=>?_;unfold Zca at e;exact Ye 6 [rz,rz] [] (ma [0,3,5] [3]) .n (ZnH S0 w0 b (((b.length:Int)-(0:Int)).toNat+2) (0:Int) d r e)
def Zbn(b:Int):Option Int:=bif(decide (b<(0:Int)))then some (0:Int)else bif(decide (b>(1099511627776:Int)))then some (1099511627776:Int)else some b
theorem Zbb(f r:Int)(b:Zbn f=some r):Yp 149 [Yj f] (Yj r):=by
 refine Yv Tryz.func149 fun S0 w0=>?_;unfold Zbn at b;obtain⟨d,b⟩|⟨d,b⟩:=Zag b
 .apply Ya b 8 [rz,rz,rz] [true] (ml d)
 .obtain⟨e,b⟩|⟨e,b⟩:=Zag b
  .apply Ya b 13 [rz,rz,rz,rz] [false,true] (mn d e)
  .apply Ya b 14 [rz,rz,rz,rz] [false,false] (mn d e)
def Zed(d:Zaj)(e:Bool)(f:Int):Option Zaa:=(Zbn f).bind fun b=>some (Zaa.mk d e b (Zay.mk 0 b) 0 0)
theorem Zmn(d:Zaj)(e:Bool)(f:Int)(r:Zaa)(b:Zed d e f=some r):Yp 115 [.agg (Zaj.c d),Yk e,Yj f] (.agg (Zaa.c r)):=by
 refine Yv Tryz.func115 fun S0 w0=>?_;unfold Zed at b;obtain⟨g,h,b⟩:=Zad b;apply Ya b 6 [rz,rA [(1,aI g)],rz] [] (ml (Zbb _ _ h))
def Zcb(e:List Zaa)(f:Bool):Nat->Int->Int->Option Int|0,_,_=>none|fu+1,g,b=>bif(decide (b<(e.length:Int)))then need (0<=b/\b<(e.length:Int))<|bif((e.getD b.toNat Zaa.d).fIn==f)then Zcb e f fu (Zaq g 1) (Zaq b 1)else Zcb e f fu g (Zaq b 1)else some g
theorem ZnF(i:List Zaa)(j:Bool):∀(f:Nat)(d e r:Int),Zcb i j f d e=some r->Yr 23 S0 w0 Tryz.f58 (Yj r) [1,1,0,1,0] ⟨[(0,(Ym i)),(1,(Yk j)),(5,(Yj d)),(6,(Yj e))],[]⟩:=by
 intro f;induction f with
 |zero=>
  intro d e r b;simp[Zcb]at b
 |succ f o=>
  intro d e r b;unfold Zcb at b;obtain⟨g,b⟩|⟨g,b⟩:=Zag b
  .obtain⟨p,b⟩:=Zao b;obtain⟨h,b⟩|⟨h,b⟩:=Zag b
   .exact Ye 15 [rz,rz,rz,rz] [true,true] (Yi [0,1,5,6]) (mo g p h) (o (Zaq d 1) (Zaq e 1) r b)
   .exact Ye 15 [rz,rz,rz] [true,false] (Yi [0,1,5,6]) (mo g p h) (o d (Zaq e 1) r b)
  .apply Ya b 8 [rz,rz] [false] (ml g)
def ZeZ(b:List Zaa)(d:Bool):Option Int:=Zcb b d (((b.length:Int)-(0:Int)).toNat+2) (0:Int) (0:Int)
theorem Zlh(b:List Zaa)(d:Bool)(r:Int)(e:ZeZ b d=some r):Yp 58 [Ym b,Yk d] (Yj r):=by
 refine Yv Tryz.func58 fun S0 w0=>?_;unfold ZeZ at e;exact Ye 8 [rz,rz,rz] [] (Yi [0,1,5,6]) .n (ZnF S0 w0 b d (((b.length:Int)-(0:Int)).toNat+2) (0:Int) (0:Int) r e)
def Zcr(e:List Zaa):Nat->Int->(List Zaa)->Option (List Zaa)|0,_,_=>none|fu+1,b,f=>bif(decide (b<(e.length:Int)))then need (0<=b/\b<(e.length:Int))<|bif(e.getD b.toNat Zaa.d).fIn then need ((f++([(e.getD b.toNat Zaa.d)]:List Zaa)).length * 80<=140737488355328/\(f++([(e.getD b.toNat Zaa.d)]:List Zaa)).length<=maxLen)<|Zcr e fu (Zaq b 1) (f++([(e.getD b.toNat Zaa.d)]:List Zaa))else Zcr e fu (Zaq b 1) f else some f
theorem Zoo(g:List Zaa):∀(o:Nat)(b:Int)(h r:List Zaa),Zcr g o b h=some r->Ys 25 S0 w0 Tryz.f37 [(me 99999 44 10 Zaa.c Zaa.d r)] (.one (.osl 99999 r.length)) [1,1,0,1,0] ⟨[(0,(Ym g)),(3,.one (.osl 3 h.length)),(4,(Yj b))],[(me 3 44 10 Zaa.c Zaa.d h)]⟩:=by
 intro o;induction o with
 |zero=>
  intro b h r f;simp[Zcr]at f
 |succ o v=>
  intro b h r f;unfold Zcr at f;obtain⟨p,f⟩|⟨p,f⟩:=Zag f
  .obtain⟨t,f⟩:=Zao f;obtain⟨u,f⟩|⟨u,f⟩:=Zag f
   .obtain⟨y,f⟩:=Zao f;exact Ye 15 [rz,rz,⟨[(6,.c ((h++([(g.getD b.toNat Zaa.d)]:List Zaa)).length) (Zam Zaa.c Zaa.d (h++([(g.getD b.toNat Zaa.d)]:List Zaa))))],[],[],[],[],[(5,(([(g.getD b.toNat Zaa.d)]:List Zaa).length,Zam Zaa.c Zaa.d ([(g.getD b.toNat Zaa.d)]:List Zaa)))],[]⟩,rz] [true,true] (md [0,3,4] [23] [(23,3)]) (mw p t u t (mN (e:=Zaa.c) Zaa.d 10 (fun _=>rfl) ([(g.getD b.toNat Zaa.d)]:List Zaa)) (Zcq (sz:=10) (e:=Zaa.c) (d:=Zaa.d) h ([(g.getD b.toNat Zaa.d)]:List Zaa)) y.1 y.2) (v (Zaq b 1) (h++([(g.getD b.toNat Zaa.d)]:List Zaa)) r f)
   .exact Ye 15 [rz,rz,rz] [true,false] (ma [0,3,4] [3]) (mo p t u) (v (Zaq b 1) h r f)
  .apply Yc f 8 [rz,rz] [false] (md [2] [3] [(3,99999)]) (ml p)
def ZfD(b:List Zaa):Option (List Zaa):=Zcr b (((b.length:Int)-(0:Int)).toNat+2) (0:Int) ([]:List Zaa)
theorem ZpS(b r:List Zaa)(f:ZfD b=some r):Yq 37 [] [Ym b] [(me 99999 44 10 Zaa.c Zaa.d r)] (.one (.osl 99999 r.length)):=by
 refine Yw Tryz.func37 fun S0 w0=>?_;unfold ZfD at f;exact Ye 8 [rz,rA [(0,.c ([]:List Zaa).length (Zam Zaa.c Zaa.d ([]:List Zaa)))],rz] [] (md [0,3,4] [5] [(5,3)]) (mn (show ([]:List Zaa).length=0 from rfl) (mQ (e:=Zaa.c) Zaa.d 10 (fun _=>rfl) ([]:List Zaa))) (Zoo S0 w0 b (((b.length:Int)-(0:Int)).toNat+2) (0:Int) ([]:List Zaa) r f)
theorem Zqr(b r:List Zaa)(d:ZfD b=some r):Yp 37 [Ym b] (Ym r):=(ZpS b r d).pure
def ZcS(b:ZaA)(d:Int):Option Int:=bif(d==(1:Int))then some b.fGroup else bif(d==(2:Int))then some b.fPing else bif(d==(3:Int))then some b.fWork else some b.fTime
theorem Zlk(g:ZaA)(h r:Int)(b:ZcS g h=some r):Yp 101 [.agg (ZaA.c g),Yj h] (Yj r):=by
 refine Yv Tryz.func101 fun S0 w0=>?_;unfold ZcS at b;obtain⟨d,b⟩|⟨d,b⟩:=Zag b
 .apply Ya b 11 [rz,rz,rz,rz] [true] (ml d)
 .obtain⟨e,b⟩|⟨e,b⟩:=Zag b
  .apply Ya b 14 [rz,rz,rz,rz,rz] [false,true] (mn d e)
  .obtain⟨f,b⟩|⟨f,b⟩:=Zag b
   .apply Ya b 17 [rz,rz,rz,rz,rz,rz] [false,false,true] (mo d e f)
   .apply Ya b 19 [rz,rz,rz,rz,rz,rz] [false,false,false] (mo d e f)
def ZfV(d:Zaa)(b:Int):Option Bool:=bif(b==(1:Int))then some true else bif(b==(4:Int))then some true else bif(b==(2:Int))then bif(decide (d.fPing>(0:Int)))then some true else bif(b==(3:Int))then some (decide (d.fWork>(0:Int)))else some false else bif(b==(3:Int))then some (decide (d.fWork>(0:Int)))else some false
theorem Zpb(j:Zaa)(o:Int)(r:Bool)(b:ZfV j o=some r):Yp 99 [.agg (Zaa.c j),Yj o] (Yk r):=by
 refine Yv Tryz.func99 fun S0 w0=>?_;unfold ZfV at b;obtain⟨d,b⟩|⟨d,b⟩:=Zag b
 .apply Ya b 4 [rz,rB [(2,true)]] [] (ml d)
 .obtain⟨e,b⟩|⟨e,b⟩:=Zag b
  .apply Ya b 4 [rz,rB [(2,false),(6,true)]] [] (mn d e)
  .obtain⟨f,b⟩|⟨f,b⟩:=Zag b
   .obtain⟨g,b⟩|⟨g,b⟩:=Zag b
    .apply Ya b 4 [rz,rB [(2,false),(6,false),(9,true),(15,true)]] [] (mq d e f g)
    .obtain⟨h,b⟩|⟨h,b⟩:=Zag b
     .apply Ya b 4 [rz,rB [(2,false),(6,false),(9,true),(15,false),(18,true)]] [] (mr d e f g h)
     .apply Ya b 4 [rz,rB [(2,false),(6,false),(9,true),(15,false),(18,false)]] [] (mr d e f g h)
   .obtain⟨i,b⟩|⟨i,b⟩:=Zag b
    .apply Ya b 4 [rz,rB [(2,false),(6,false),(9,false),(18,true)]] [] (mq d e f i)
    .apply Ya b 4 [rz,rB [(2,false),(6,false),(9,false),(18,false)]] [] (mq d e f i)
def Zdo(b:Zah):Option Zae:=(Zbu b).bind fun d=>bif(!d)then some (Zae.mk (Zah.mk false 0 0) 0)else bif b.fV6 then some (Zae.mk (Zah.mk true (IntKind.wrap .u64 (b.fHi-(Int.tmod b.fHi (4294967296:Int)))) 0) 32)else some (Zae.mk (Zah.mk false 0 (IntKind.wrap .u64 (b.fLo-(Int.tmod b.fLo (65536:Int))))) 16)
theorem ZhW(g:Zah)(r:Zae)(b:Zdo g=some r):Yp 261 [.agg (Zah.c g)] (.agg (Zae.c r)):=by
 refine Yv Tryz.func261 fun S0 w0=>?_;unfold Zdo at b;obtain⟨d,h,b⟩:=Zad b;obtain⟨e,b⟩|⟨e,b⟩:=Zag b
 .apply Ya b 8 [rz,rA [(1,aB d)],rz] [true] (mn (ZaT _ _ h) e)
 .have O1:=(mn (ZaT _ _ h) e);obtain⟨f,b⟩|⟨f,b⟩:=Zag b
  .apply Ya b 13 [rz,rA [(1,aB d)],rz,rz] [false,true] (mD O1 f (show (4294967296:Int)≠0 from(by decide)))
  .apply Ya b 14 [rz,rA [(1,aB d)],rz,rz] [false,false] (mD O1 f (show (65536:Int)≠0 from(by decide)))
def ZeS(b:Int):Option Int:=some (IntKind.wrap .u64 (((BitVec.ofInt (IntKind.bits .u64) (IntKind.wrap .u64 ((IntKind.wrap .u64 (((BitVec.ofInt (IntKind.bits .u64) (IntKind.wrap .u64 ((IntKind.wrap .u64 (((BitVec.ofInt (IntKind.bits .u64) b) ^^^ (BitVec.ofInt (IntKind.bits .u64) (IntKind.wrap .u64 (Int.tdiv b (1073741824:Int))))).toNat:Int))*(13787848793156543929:Int)))) ^^^ (BitVec.ofInt (IntKind.bits .u64) (IntKind.wrap .u64 (Int.tdiv (IntKind.wrap .u64 ((IntKind.wrap .u64 (((BitVec.ofInt (IntKind.bits .u64) b) ^^^ (BitVec.ofInt (IntKind.bits .u64) (IntKind.wrap .u64 (Int.tdiv b (1073741824:Int))))).toNat:Int))*(13787848793156543929:Int))) (134217728:Int))))).toNat:Int))*(10723151780598845931:Int)))) ^^^ (BitVec.ofInt (IntKind.bits .u64) (IntKind.wrap .u64 (Int.tdiv (IntKind.wrap .u64 ((IntKind.wrap .u64 (((BitVec.ofInt (IntKind.bits .u64) (IntKind.wrap .u64 ((IntKind.wrap .u64 (((BitVec.ofInt (IntKind.bits .u64) b) ^^^ (BitVec.ofInt (IntKind.bits .u64) (IntKind.wrap .u64 (Int.tdiv b (1073741824:Int))))).toNat:Int))*(13787848793156543929:Int)))) ^^^ (BitVec.ofInt (IntKind.bits .u64) (IntKind.wrap .u64 (Int.tdiv (IntKind.wrap .u64 ((IntKind.wrap .u64 (((BitVec.ofInt (IntKind.bits .u64) b) ^^^ (BitVec.ofInt (IntKind.bits .u64) (IntKind.wrap .u64 (Int.tdiv b (1073741824:Int))))).toNat:Int))*(13787848793156543929:Int))) (134217728:Int))))).toNat:Int))*(10723151780598845931:Int))) (2147483648:Int))))).toNat:Int))
theorem Zjv(b r:Int)(d:ZeS b=some r):Yp 266 [.one (.lit (.int .u64 b))] (.one (.lit (.int .u64 r))):=by
 refine Yv Tryz.func266 fun S0 w0=>?_;unfold ZeS at d;apply Ya d 8 [rz,rz,rz,rz] [] (mo (show (1073741824:Int)≠0 from(by decide)) (show (134217728:Int)≠0 from(by decide)) (show (2147483648:Int)≠0 from(by decide)))
def ZdX(d:List Int):Nat->Int->Int->Option Int|0,_,_=>none|fu+1,e,b=>bif(decide (b<(d.length:Int)))then need (0<=b/\b<(d.length:Int))<|(ZeS (IntKind.wrap .u64 ((d.getD b.toNat (0:Int))+(11400714819323198485:Int)))).bind fun f=>(ZeS (IntKind.wrap .u64 (((BitVec.ofInt (IntKind.bits .u64) (IntKind.wrap .u64 ((IntKind.wrap .u64 (e*(128:Int)))+(IntKind.wrap .u64 (Int.tdiv e (144115188075855872:Int)))))) ^^^ (BitVec.ofInt (IntKind.bits .u64) f)).toNat:Int))).bind fun g=>ZdX d fu g (Zaq b 1)else some e
theorem ZpX(h:List Int):∀(e:Nat)(f d r:Int),ZdX h e f d=some r->Yr 30 S0 w0 Tryz.f194 (.one (.lit (.int .u64 r))) [1,1,0,1,0] ⟨[(1,.one (cL 1 (cI .u64) (0:Int) h)),(5,.one (.lit (.int .u64 f))),(6,(Yj d))],[]⟩:=by
 intro e;induction e with
 |zero=>
  intro f d r b;simp[ZdX]at b
 |succ e j=>
  intro f d r b;unfold ZdX at b;obtain⟨g,b⟩|⟨g,b⟩:=Zag b
  .obtain⟨o,b⟩:=Zao b;obtain⟨p,i,t,u,b⟩:=Yu b;exact Ye 12 [rz,rA [(10,.r (.one (.lit (.int .u64 p))) []),(12,.r (.one (.lit (.int .u64 i))) [])],rz] [true] (Yi [1,5,6]) (mr g (show (144115188075855872:Int)≠0 from(by decide)) o (Zjv _ _ t) (Zjv _ _ u)) (j i (Zaq d 1) r b)
  .apply Ya b 8 [rz,rz] [false] (ml g)
def ZgM(d:Int)(b:List Int):Option Int:=(ZeS (IntKind.wrap .u64 (d+(11400714819323198485:Int)))).bind fun e=>ZdX b (((b.length:Int)-(0:Int)).toNat+2) e (0:Int)
theorem ZmG(e:Int)(b:List Int)(r:Int)(d:ZgM e b=some r):Yp 194 [.one (.lit (.int .u64 e)),.one (cL 1 (cI .u64) (0:Int) b)] (.one (.lit (.int .u64 r))):=by
 refine Yv Tryz.func194 fun S0 w0=>?_;unfold ZgM at d;obtain⟨f,g,d⟩:=Zad d;exact Ye 8 [rz,rA [(2,.r (.one (.lit (.int .u64 f))) [])],rz] [] (Yi [1,5,6]) (ml (Zjv _ _ g)) (ZpX S0 w0 b (((b.length:Int)-(0:Int)).toNat+2) f (0:Int) r d)
def ZeT(d:Int)(b:Zae):Option Int:=bif b.fAddr.fV6 then(ZgM d ([(6:Int),b.fAddr.fHi,b.fAddr.fLo,(IntKind.wrap .u64 b.fBits)]:List Int)).bind fun e=>some e else(ZgM d ([(4:Int),b.fAddr.fHi,b.fAddr.fLo,(IntKind.wrap .u64 b.fBits)]:List Int)).bind fun f=>some f
theorem Zmp(h:Int)(b:Zae)(r:Int)(f:ZeT h b=some r):Yp 109 [.one (.lit (.int .u64 h)),.agg (Zae.c b)] (.one (.lit (.int .u64 r))):=by
 refine Yv Tryz.func109 fun S0 w0=>?_;unfold ZeT at f;obtain⟨g,f⟩|⟨g,f⟩:=Zag f
 .obtain⟨o,p,f⟩:=Zad f;apply Ya f 11 [rz,rz,rz,rz,⟨[(12,.r (.one (.lit (.int .u64 o))) [])],[],[],[],[],[(11,(([(6:Int),b.fAddr.fHi,b.fAddr.fLo,(IntKind.wrap .u64 b.fBits)]:List Int).length,Zam (cI .u64) (0:Int) ([(6:Int),b.fAddr.fHi,b.fAddr.fLo,(IntKind.wrap .u64 b.fBits)]:List Int)))],[]⟩] [true] (mo g (mN (e:=(cI .u64)) (0:Int) 1 (fun _=>rfl) ([(6:Int),b.fAddr.fHi,b.fAddr.fLo,(IntKind.wrap .u64 b.fBits)]:List Int)) (ZmG _ _ _ p))
 .obtain⟨t,u,f⟩:=Zad f;apply Ya f 11 [rz,rz,rz,⟨[(12,.r (.one (.lit (.int .u64 t))) [])],[],[],[],[],[(11,(([(4:Int),b.fAddr.fHi,b.fAddr.fLo,(IntKind.wrap .u64 b.fBits)]:List Int).length,Zam (cI .u64) (0:Int) ([(4:Int),b.fAddr.fHi,b.fAddr.fLo,(IntKind.wrap .u64 b.fBits)]:List Int)))],[]⟩] [false] (mo g (mN (e:=(cI .u64)) (0:Int) 1 (fun _=>rfl) ([(4:Int),b.fAddr.fHi,b.fAddr.fLo,(IntKind.wrap .u64 b.fBits)]:List Int)) (ZmG _ _ _ u))
def Zeo(b:Bool):Option Int:=bif b then some (-1:Int)else some (1:Int)
theorem Zji(e:Bool)(r:Int)(b:Zeo e=some r):Yr 33 S0 w0 Tryz.f199 (Yj r) [1,1,1,1,1] ⟨[(5,(Yk e))],[]⟩:=by
 unfold Zeo at b;obtain⟨d,b⟩|⟨d,b⟩:=Zag b
 .apply Ya b 6 [rz,rz] [true] (ml d)
 .apply Ya b 7 [rz,rz] [false] (ml d)
def Zep(d:Bool)(b e:Zah):Option Int:=bif(!(b.fV6==e.fV6))then Zeo (!b.fV6)else Zeo d
theorem Zjj(f:Bool)(d e:Zah)(r:Int)(b:Zep f d e=some r):Yr 33 S0 w0 Tryz.f199 (Yj r) [1,1,1,1] ⟨[(2,.one (.ptr 2 0)),(3,.one (.ptr 3 0)),(5,(Yk f))],[(2,.box (Zah.c d)),(3,.box (Zah.c e))]⟩:=by
 unfold Zep at b;obtain⟨g,b⟩|⟨g,b⟩:=Zag b
 .exact Ye 5 [rz,rz] [true] (Yi [5]) (ml g) (Zji S0 w0 (!d.fV6) r b)
 .exact Ye 5 [rz] [false] (Yi [5]) (ml g) (Zji S0 w0 f r b)
def Zek(b d:Zah):Option Int:=bif(decide (b=d))then some (0:Int)else bif(b.fHi != d.fHi)then Zep (decide (b.fHi<d.fHi)) b d else Zep (decide (b.fLo<d.fLo)) b d
theorem ZfN(b d:Zah)(r:Int)(e:Zek b d=some r):Yp 199 [.agg (Zah.c b),.agg (Zah.c d)] (Yj r):=by
 refine Yv Tryz.func199 fun S0 w0=>?_;unfold Zek at e;have O1:=(ml (ZlY b d (.tmp 6) (.tmp 7)));obtain⟨f,e⟩|⟨f,e⟩:=Zag e
 .apply Ya e 8 [rz,rA [(2,aB (decide (b=d)))],rz] [true] (mC O1 f)
 .obtain⟨g,e⟩|⟨g,e⟩:=Zag e
  .exact Ye 14 [rz,rA [(2,aB (decide (b=d)))],rz,rz,rz] [false,true] (ma [2,3,5] [2,3]) (mD O1 f g) (Zjj S0 w0 (decide (b.fHi<d.fHi)) b d r e)
  .exact Ye 14 [rz,rA [(2,aB (decide (b=d)))],rz,rz] [false,false] (ma [2,3,5] [2,3]) (mD O1 f g) (Zjj S0 w0 (decide (b.fLo<d.fLo)) b d r e)
def Zcs(b d:Zaj):Option Int:=(Zek b.fAddr d.fAddr).bind fun e=>bif(e != (0:Int))then some e else bif(b.fPort==d.fPort)then some e else bif(decide (b.fPort<d.fPort))then some (-1:Int)else some (1:Int)
theorem Zen(h i:Zaj)(r:Int)(b:Zcs h i=some r):Yp 125 [.agg (Zaj.c h),.agg (Zaj.c i)] (Yj r):=by
 refine Yv Tryz.func125 fun S0 w0=>?_;unfold Zcs at b;obtain⟨e,j,b⟩:=Zad b;obtain⟨f,b⟩|⟨f,b⟩:=Zag b
 .apply Ya b 10 [rz,rA [(4,aI e)],rB [(2,true)],rz] [true] (mo (ZfN _ _ _ j) f (mP true))
 .have O1:=(mn (ZfN _ _ _ j) f);obtain⟨d,b⟩|⟨d,b⟩:=Zag b
  .apply Ya b 10 [rz,rA [(4,aI e)],rB [(2,false)],rz] [true] (mC O1 d)
  .let R2:List RA:=[rz,rA [(4,aI e)],rB [(2,false)],rz,rz]
   obtain⟨g,b⟩|⟨g,b⟩:=Zag b
   .apply Ya b 15 R2 [false,true] (mD O1 d g)
   .apply Ya b 16 R2 [false,false] (mD O1 d g)
def ZcH(d b:Int)(e f:Zaa):Option Bool:=bif(d != b)then some (decide (d<b))else(Zcs e.fEnd f.fEnd).bind fun g=>some (decide (g<(0:Int)))
theorem Zfn(h f:Int)(b d:Zaa)(r:Bool)(e:ZcH h f b d=some r):Yr 64 S0 w0 Tryz.f188 (Yk r) [1,1,1] ⟨[(4,.one (.ptr 4 0)),(5,.one (.ptr 5 0)),(9,(Yj h)),(10,(Yj f))],[(4,.box (Zaa.c b)),(5,.box (Zaa.c d))]⟩:=by
 unfold ZcH at e;obtain⟨g,e⟩|⟨g,e⟩:=Zag e
 .apply Ya e 6 [rz,rz] [true] (ml g)
 .obtain⟨i,j,e⟩:=Zad e;apply Ya e 7 [rz,rA [(4,aI i)]] [false] (mn g (Zen _ _ _ j))
def Zgy(b d:Zaa)(e f:Int):Option Bool:=bif(e==(1:Int))then(Zdo b.fEnd.fAddr).bind fun i=>(ZeT f i).bind fun g=>(Zdo d.fEnd.fAddr).bind fun j=>(ZeT f j).bind fun h=>bif(g != h)then some (decide (g>h))else ZcH (0:Int) (0:Int) b d else bif(e==(2:Int))then ZcH b.fPing d.fPing b d else bif(e==(3:Int))then ZcH d.fWork b.fWork b d else bif(e==(4:Int))then ZcH b.fSince d.fSince b d else some false
theorem ZpU(d e:Zaa)(o p:Int)(r:Bool)(b:Zgy d e o p=some r):Yp 188 [.agg (Zaa.c d),.agg (Zaa.c e),Yj o,.one (.lit (.int .u64 p))] (Yk r):=by
 refine Yv Tryz.func188 fun S0 w0=>?_;unfold Zgy at b;obtain⟨f,b⟩|⟨f,b⟩:=Zag b
 .obtain⟨t,u,v,y,b⟩:=Yu b;obtain⟨z,A,b⟩:=Zad b;obtain⟨B,C,b⟩:=Zad b
  let R1:List RA:=[rz,rz,rz,rz,rA [(4,aG (Zae.c t)),(5,.r (.one (.lit (.int .u64 u))) [])],rA [(4,aG (Zae.c z)),(5,.r (.one (.lit (.int .u64 B))) [])],rz]
  have O2:=(mr f (ZhW _ _ v) (Zmp _ _ _ y) (ZhW _ _ A) (Zmp _ _ _ C));obtain⟨i,b⟩|⟨i,b⟩:=Zag b
  .apply Ya b 20 (R1++[rz]) [true,true] (mC O2 i)
  .exact Ye 20 R1 [true,false] (ma [4,5,9,10] [4,5]) (mC O2 i) (Zfn S0 w0 (0:Int) (0:Int) d e r b)
 .obtain⟨g,b⟩|⟨g,b⟩:=Zag b
  .exact Ye 18 [rz,rz,rz,rz,rz,rz,rz] [false,true] (ma [4,5,9,10] [4,5]) (mn f g) (Zfn S0 w0 d.fPing e.fPing d e r b)
  .obtain⟨h,b⟩|⟨h,b⟩:=Zag b
   .exact Ye 21 [rz,rz,rz,rz,rz,rz,rz,rz] [false,false,true] (ma [4,5,9,10] [4,5]) (mo f g h) (Zfn S0 w0 e.fWork d.fWork d e r b)
   .obtain⟨j,b⟩|⟨j,b⟩:=Zag b
    .exact Ye 24 [rz,rz,rz,rz,rz,rz,rz,rz,rz] [false,false,false,true] (ma [4,5,9,10] [4,5]) (mq f g h j) (Zfn S0 w0 d.fSince e.fSince d e r b)
    .apply Ya b 22 [rz,rz,rz,rz,rz,rz,rz,rz] [false,false,false,false] (mq f g h j)
def Zbr(g:List Zaa)(j h:Int)(n:ZaA)(i:Int)(af:Int->(List Bool)->ZaA->Option (List Bool))(al:Int->(List Bool)->Option (List Bool)):Nat->Int->Int->(List Bool)->Option (List Bool)|0,_,_,_=>none|fu+1,e,b,f=>bif(decide (b<(g.length:Int)))then need (0<=b/\b<(f.length:Int))<|bif(!(f.getD b.toNat false))then need (0<=b/\b<(g.length:Int))<|(ZfV (g.getD b.toNat Zaa.d) h).bind fun o=>bif o then bif(decide (e<(0:Int)))then Zbr g j h n i af al fu b (Zaq b 1) f else need (0<=e/\e<(g.length:Int))<|(Zgy (g.getD b.toNat Zaa.d) (g.getD e.toNat Zaa.d) h j).bind fun p=>bif p then Zbr g j h n i af al fu b (Zaq b 1) f else Zbr g j h n i af al fu e (Zaq b 1) f else Zbr g j h n i af al fu e (Zaq b 1) f else Zbr g j h n i af al fu e (Zaq b 1) f else bif(decide (e>=(0:Int)))then need (0<=e/\e<(f.length:Int))<|al (Zaq i 1) (f.set e.toNat true)else al (Zaq i 1) f
theorem ZnJ(u:List Zaa)(v B:Int)(g:ZaA)(y:Int)(af:Int->(List Bool)->ZaA->Option (List Bool))(al:Int->(List Bool)->Option (List Bool))(aN:∀(dz:Int)(bU:List Bool)(dA:ZaA)(r:List Bool),af dz bU dA=some r->Ys 75 S0 w0 Tryz.f268 [(me 99999 4 1 cB false r)] (.one (.osl 99999 r.length)) [1,1,0,1,0] ⟨[(0,(Ym u)),(2,.one (.lit (.int .u64 v))),(4,.one (.ptr 4 0)),(7,.one (.osl 14 bU.length)),(8,(Yj dz))],[(me 14 4 1 cB false bU),(4,.box (ZaA.c dA))]⟩)(aY:∀(gT:Int)(bU r:List Bool),al gT bU=some r->Ys 75 S0 w0 Tryz.f268 [(me 99999 4 1 cB false r)] (.one (.osl 99999 r.length)) [1,1,0,1,0,0,1,0,0,1,0] ⟨[(0,(Ym u)),(2,.one (.lit (.int .u64 v))),(4,.one (.ptr 4 0)),(7,.one (.osl 14 bU.length)),(8,(Yj B)),(9,(Yj gT))],[(me 14 4 1 cB false bU),(4,.box (ZaA.c g))]⟩):∀(z:Nat)(e f:Int)(b r:List Bool),Zbr u v B g y af al z e f b=some r->Ys 75 S0 w0 Tryz.f268 [(me 99999 4 1 cB false r)] (.one (.osl 99999 r.length)) [1,1,0,1,0,0,1,0,0,1,0,0,1,0,0,1,0,1,0] ⟨[(0,(Ym u)),(2,.one (.lit (.int .u64 v))),(4,.one (.ptr 4 0)),(7,.one (.osl 14 b.length)),(8,(Yj B)),(9,(Yj y)),(10,(Yj e)),(11,(Yj f))],[(me 14 4 1 cB false b),(4,.box (ZaA.c g))]⟩:=by
 intro z;induction z with
 |zero=>
  intro e f b r d;simp[Zbr]at d
 |succ z p=>
  intro e f b r d;unfold Zbr at d;obtain⟨A,d⟩|⟨A,d⟩:=Zag d
  .obtain⟨H,d⟩:=Zao d;have O1:=(mo A H (ltOf H));obtain⟨C,d⟩|⟨C,d⟩:=Zag d
   .obtain⟨I,d⟩:=Zao d;obtain⟨D,E,d⟩:=Zad d;have O2:=(mE O1 C I (Zpb _ _ _ E));obtain⟨h,d⟩|⟨h,d⟩:=Zag d
    .obtain⟨i,d⟩|⟨i,d⟩:=Zag d
     .exact Ye 15 [rz,⟨[(11,aB D)],[(5,true),(13,true),(16,true)],[],[],[],[],[]⟩,rz,rz] [true,true] (ma [0,2,4,7,8,9,10,11] [14,4]) (mE O2 h i (mP true)) (p f (Zaq f 1) b r d)
     .obtain⟨F,d⟩:=Zao d;obtain⟨J,G,d⟩:=Zad d
      let R3:List RA:=[rz,⟨[(11,aB D),(27,aB J)],[(5,true),(13,true),(16,false)],[],[],[],[],[]⟩,rz]
      have O4:=(mG O2 h i I F (ZpU _ _ _ _ _ G));obtain⟨j,d⟩|⟨j,d⟩:=Zag d
      .exact Ye 15 (R3++[rz]) [true,true] (ma [0,2,4,7,8,9,10,11] [14,4]) (mC O4 j) (p f (Zaq f 1) b r d)
      .exact Ye 15 R3 [true,false] (ma [0,2,4,7,8,9,10,11] [14,4]) (mC O4 j) (p e (Zaq f 1) b r d)
    .exact Ye 15 [rz,⟨[(11,aB D)],[(5,true),(13,false)],[],[],[],[],[]⟩,rz] [true,false] (ma [0,2,4,7,8,9,10,11] [14,4]) (mD O2 h (mP false)) (p e (Zaq f 1) b r d)
   .exact Ye 15 [rz,rB [(5,false)],rz] [true,false] (ma [0,2,4,7,8,9,10,11] [14,4]) (mD O1 C (mP false)) (p e (Zaq f 1) b r d)
  .obtain⟨o,d⟩|⟨o,d⟩:=Zag d
   .obtain⟨t,d⟩:=Zao d;exact Ye 13 [rz,rz,rA [(3,.c (b.set e.toNat true).length (Zam cB false (b.set e.toNat true)))],rz] [false,true] ⟨[],[],[],[(14,((b.set e.toNat true).length))],[],[0,2,4,7,8,9],[14,4],[]⟩ (mu A o t (show (b.set e.toNat true).length=b.length from List.length_set) (ltOf t) (show ExtU 1 b.length (Zam cB false b) e.toNat 0 (cB true) (Zam cB false (b.set e.toNat true))from(Zio _ _ _ rfl)) (mP ((b.set e.toNat true).length))) (aY (Zaq y 1) (b.set e.toNat true) r d)
   .exact Ye 13 [rz,rz,rz] [false,false] (ma [0,2,4,7,8,9] [14,4]) (mn A o) (aY (Zaq y 1) b r d)
def ZbA(f:List Zaa)(h d:Int)(e:ZaA)(af:Int->(List Bool)->ZaA->Option (List Bool)):Nat->Int->(List Bool)->Option (List Bool)|0,_,_=>none|fu+1,g,b=>(ZcS e d).bind fun i=>bif(decide (g<i))then bif(decide (g<(f.length:Int)))then Zbr f h d e g af (ZbA f h d e af fu) (((f.length:Int)-(0:Int)).toNat+2) (-1:Int) (0:Int) b else af (Zaq d 1) b e else af (Zaq d 1) b e
theorem ZnK(f:List Zaa)(h g:Int)(e:ZaA)(af:Int->(List Bool)->ZaA->Option (List Bool))(aN:∀(dz:Int)(bU:List Bool)(dA:ZaA)(r:List Bool),af dz bU dA=some r->Ys 75 S0 w0 Tryz.f268 [(me 99999 4 1 cB false r)] (.one (.osl 99999 r.length)) [1,1,0,1,0] ⟨[(0,(Ym f)),(2,.one (.lit (.int .u64 h))),(4,.one (.ptr 4 0)),(7,.one (.osl 14 bU.length)),(8,(Yj dz))],[(me 14 4 1 cB false bU),(4,.box (ZaA.c dA))]⟩):∀(i:Nat)(j:Int)(b r:List Bool),ZbA f h g e af i j b=some r->Ys 75 S0 w0 Tryz.f268 [(me 99999 4 1 cB false r)] (.one (.osl 99999 r.length)) [1,1,0,1,0,0,1,0,0,1,0] ⟨[(0,(Ym f)),(2,.one (.lit (.int .u64 h))),(4,.one (.ptr 4 0)),(7,.one (.osl 14 b.length)),(8,(Yj g)),(9,(Yj j))],[(me 14 4 1 cB false b),(4,.box (ZaA.c e))]⟩:=by
 intro i;induction i with
 |zero=>
  intro j b r d;simp[ZbA]at d
 |succ i v=>
  intro j b r d;unfold ZbA at d;obtain⟨t,u,d⟩:=Zad d;obtain⟨o,d⟩|⟨o,d⟩:=Zag d
  .let R5:List RA:=[⟨[(3,aI t)],[(5,true)],[],[],[],[],[]⟩,rz]
   have O6:=(mn (Zlk _ _ _ u) o);obtain⟨p,d⟩|⟨p,d⟩:=Zag d
   .exact Ye 14 (R5++[rz]) [true] (ma [0,2,4,7,8,9,10,11] [14,4]) (mC O6 p) (ZnJ S0 w0 f h g e j af (ZbA f h g e af i) aN v (((f.length:Int)-(0:Int)).toNat+2) (-1:Int) (0:Int) b r d)
   .exact Ye 9 R5 [false] (ma [0,2,4,7,8] [14,4]) (mC O6 p) (aN (Zaq g 1) b e r d)
  .exact Ye 9 [⟨[(3,aI t)],[(5,false)],[],[],[],[],[]⟩,rz] [false] (ma [0,2,4,7,8] [14,4]) (mo (Zlk _ _ _ u) o (mP false)) (aN (Zaq g 1) b e r d)
def ZaQ(d:List Zaa)(e:Int):Nat->Int->(List Bool)->ZaA->Option (List Bool)|0,_,_,_=>none|fu+1,f,b,g=>bif(decide (f<=(4:Int)))then ZbA d e f g (ZaQ d e fu) (((d.length:Int)-(0:Int)).toNat+2) (0:Int) b else some b
theorem ZnL(f:List Zaa)(i:Int):∀(g:Nat)(h:Int)(b:List Bool)(d:ZaA)(r:List Bool),ZaQ f i g h b d=some r->Ys 75 S0 w0 Tryz.f268 [(me 99999 4 1 cB false r)] (.one (.osl 99999 r.length)) [1,1,0,1,0] ⟨[(0,(Ym f)),(2,.one (.lit (.int .u64 i))),(4,.one (.ptr 4 0)),(7,.one (.osl 14 b.length)),(8,(Yj h))],[(me 14 4 1 cB false b),(4,.box (ZaA.c d))]⟩:=by
 intro g;induction g with
 |zero=>
  intro h b d r e;simp[ZaQ]at e
 |succ g o=>
  intro h b d r e;unfold ZaQ at e;obtain⟨j,e⟩|⟨j,e⟩:=Zag e
  .exact Ye 11 [rz,rz] [true] (ma [0,2,4,7,8,9] [14,4]) (ml j) (ZnK S0 w0 f i h d (ZaQ f i g) o (((f.length:Int)-(0:Int)).toNat+2) (0:Int) b r e)
  .apply Yc e 8 [rz,rz] [false] (md [6] [14] [(14,99999)]) (ml j)
def Zfc(b:List Zaa)(d:ZaA)(e:Int):Option (List Bool):=need (0<=(b.length:Int)/\(b.length:Int)<=(b.length:Int)/\(b.length:Int)<=140737488355328/\(b.length:Int) * 1<=140737488355328)<|ZaQ b e (((4:Int)-(1:Int)).toNat+2) (1:Int) (List.replicate (b.length:Int).toNat false) d
theorem Zpa(b:List Zaa)(e:ZaA)(f:Int)(r:List Bool)(d:Zfc b e f=some r):Yq 268 [] [Ym b,.agg (ZaA.c e),.one (.lit (.int .u64 f))] [(me 99999 4 1 cB false r)] (.one (.osl 99999 r.length)):=by
 refine Yw Tryz.func268 fun S0 w0=>?_;unfold Zfc at d;obtain⟨o1,d⟩:=Zao d;exact Ye 8 [rz,rA [(2,.c ((b.length:Int).toNat) (Zam cB false (List.replicate (b.length:Int).toNat false)))],rz] [] ⟨[],[],[],[(14,((List.replicate (b.length:Int).toNat false).length))],[],[0,2,4,7,8],[14,4],[]⟩ (mt (show (b.length:Int)=(((b.length:Int).toNat:Nat):Int)from(Int.toNat_of_nonneg o1.1).symm) (show (((b.length:Int).toNat:Nat):Int)<=(b.length:Int)from((Int.toNat_of_nonneg o1.1).symm ▸ o1.2.1)) o1.2.2.1 o1.2.2.2 (show ∀i j,i<(b.length:Int).toNat->j<1->ZrP (([.lit (.bool false)]:List C).getD j .junk) (Zam cB false (List.replicate (b.length:Int).toNat false) i j)from(ZtZ (fun j hj=>.inl rfl) _)) (show (List.replicate (b.length:Int).toNat false).length=(b.length:Int).toNat from List.length_replicate)) (ZnL S0 w0 b f (((4:Int)-(1:Int)).toNat+2) (1:Int) (List.replicate (b.length:Int).toNat false) e r d)
theorem ZpT(b:List Zaa)(d:ZaA)(e:Int)(r:List Bool)(f:Zfc b d e=some r):Yp 268 [Ym b,.agg (ZaA.c d),.one (.lit (.int .u64 e))] (.one (cL 1 cB false r)):=(Zpa b d e r f).pure
def ZbG:Nat->(List Zaa)->(List Bool)->Int->(List Zaa)->Option (List Zaa)|0,_,_,_,_=>none|fu+1,e,g,b,f=>bif(decide (b<(e.length:Int)))then need (0<=b/\b<(g.length:Int))<|bif(!(g.getD b.toNat false))then need (0<=b/\b<(e.length:Int))<|need ((f++([(e.getD b.toNat Zaa.d)]:List Zaa)).length * 80<=140737488355328/\(f++([(e.getD b.toNat Zaa.d)]:List Zaa)).length<=maxLen)<|ZbG fu e g (Zaq b 1) (f++([(e.getD b.toNat Zaa.d)]:List Zaa))else ZbG fu e g (Zaq b 1) f else some f
theorem ZlN:∀(p:Nat)(f:List Zaa)(o:List Bool)(b:Int)(h r:List Zaa),ZbG p f o b h=some r->Ys 37 S0 w0 Tryz.f196 [(me 99999 44 10 Zaa.c Zaa.d r)] (.one (.osl 99999 r.length)) [1,1,1,1,0,1,0] ⟨[(7,(Ym f)),(8,.one (cL 1 cB false o)),(9,.one (.osl 9 h.length)),(10,(Yj b))],[(me 9 44 10 Zaa.c Zaa.d h)]⟩:=by
 intro p;induction p with
 |zero=>
  intro f o b h r g;simp[ZbG]at g
 |succ p v=>
  intro f o b h r g;unfold ZbG at g;obtain⟨t,g⟩|⟨t,g⟩:=Zag g
  .obtain⟨y,g⟩:=Zao g;obtain⟨u,g⟩|⟨u,g⟩:=Zag g
   .obtain⟨A,z,g⟩:=Yt g;exact Ye 15 [rz,rz,⟨[(6,.c ((h++([(f.getD b.toNat Zaa.d)]:List Zaa)).length) (Zam Zaa.c Zaa.d (h++([(f.getD b.toNat Zaa.d)]:List Zaa))))],[],[],[],[],[(5,(([(f.getD b.toNat Zaa.d)]:List Zaa).length,Zam Zaa.c Zaa.d ([(f.getD b.toNat Zaa.d)]:List Zaa)))],[]⟩,rz] [true,true] (md [7,8,9,10] [35] [(35,9)]) (mw t y u A (mN (e:=Zaa.c) Zaa.d 10 (fun _=>rfl) ([(f.getD b.toNat Zaa.d)]:List Zaa)) (Zcq (sz:=10) (e:=Zaa.c) (d:=Zaa.d) h ([(f.getD b.toNat Zaa.d)]:List Zaa)) z.1 z.2) (v f o (Zaq b 1) (h++([(f.getD b.toNat Zaa.d)]:List Zaa)) r g)
   .exact Ye 15 [rz,rz,rz] [true,false] (ma [7,8,9,10] [9]) (mo t y u) (v f o (Zaq b 1) h r g)
  .apply Yc g 8 [rz,rz] [false] (md [6] [9] [(9,99999)]) (ml t)
def Zdn(d:List Zaa)(e:ZaA)(f:Int):Option (List Zaa):=(ZfD d).bind fun b=>(Zfc b e f).bind fun g=>ZbG (((b.length:Int)-(0:Int)).toNat+2) b g (0:Int) ([]:List Zaa)
theorem ZmA(g:List Zaa)(h:ZaA)(o:Int)(r:List Zaa)(b:Zdn g h o=some r):Yq 196 [] [Ym g,.agg (ZaA.c h),.one (.lit (.int .u64 o))] [(me 99999 44 10 Zaa.c Zaa.d r)] (.one (.osl 99999 r.length)):=by
 refine Yw Tryz.func196 fun S0 w0=>?_;unfold Zdn at b;obtain⟨f,p,t,u,b⟩:=Yu b;exact Ye 12 [rz,rA [(1,.r (Ym f) [])],rA [(3,.r (.one (cL 1 cB false p)) [])],rA [(0,.c ([]:List Zaa).length (Zam Zaa.c Zaa.d ([]:List Zaa)))],rz] [] (md [7,8,9,10] [17] [(17,9)]) (mq (Zqr _ _ t) (ZpT _ _ _ _ u) (show ([]:List Zaa).length=0 from rfl) (mQ (e:=Zaa.c) Zaa.d 10 (fun _=>rfl) ([]:List Zaa))) (ZlN S0 w0 (((f.length:Int)-(0:Int)).toNat+2) f p (0:Int) ([]:List Zaa) r b)
theorem ZmN(b:List Zaa)(d:ZaA)(e:Int)(r:List Zaa)(f:Zdn b d e=some r):Yp 196 [Ym b,.agg (ZaA.c d),.one (.lit (.int .u64 e))] (Ym r):=(ZmA b d e r f).pure
def Zcd(b:List Zaa)(f:Int):Nat->Int->Int->Option Int|0,_,_=>none|fu+1,g,e=>bif(decide (e<(b.length:Int)))then need (0<=e/\e<(b.length:Int))<|(Zdo (((b.getD e.toNat Zaa.d).fEnd).fAddr)).bind fun h=>need (0<=f/\f<(b.length:Int))<|(Zdo (((b.getD f.toNat Zaa.d).fEnd).fAddr)).bind fun i=>bif(decide (h=i))then Zcd b f fu (Zaq g 1) (Zaq e 1)else Zcd b f fu g (Zaq e 1)else some g
theorem ZnI(o:List Zaa)(p:Int):∀(f:Nat)(d e r:Int),Zcd o p f d e=some r->Yr 39 S0 w0 Tryz.f269 (Yj r) [1,1,1,0,1,0] ⟨[(0,(Ym o)),(1,(Yj p)),(5,(Yj d)),(6,(Yj e))],[]⟩:=by
 intro f;induction f with
 |zero=>
  intro d e r b;simp[Zcd]at b
 |succ f t=>
  intro d e r b;unfold Zcd at b;obtain⟨g,b⟩|⟨g,b⟩:=Zag b
  .obtain⟨u,b⟩:=Zao b;obtain⟨h,v,b⟩:=Zad b;obtain⟨y,b⟩:=Zao b;obtain⟨i,z,b⟩:=Zad b
   let R1:List RA:=[rz,rA [(6,aG (Zae.c h)),(13,aG (Zae.c i)),(14,aB (decide (h=i)))],rz]
   have O2:=(mt g u (ZhW _ _ v) y (ZhW _ _ z) (Zlv h i (.tmp 27) (.tmp 34)));obtain⟨j,b⟩|⟨j,b⟩:=Zag b
   .exact Ye 15 (R1++[rz]) [true,true] (Yi [0,1,5,6]) (mC O2 j) (t (Zaq d 1) (Zaq e 1) r b)
   .exact Ye 15 R1 [true,false] (Yi [0,1,5,6]) (mC O2 j) (t d (Zaq e 1) r b)
  .apply Ya b 8 [rz,rz] [false] (ml g)
def Zfb(b:List Zaa)(d:Int):Option Int:=bif(decide (d<(0:Int)))then some (0:Int)else bif(decide (d>=(b.length:Int)))then some (0:Int)else Zcd b d (((b.length:Int)-(0:Int)).toNat+2) (0:Int) (0:Int)
theorem Zlj(d:List Zaa)(f r:Int)(b:Zfb d f=some r):Yp 269 [Ym d,Yj f] (Yj r):=by
 refine Yv Tryz.func269 fun S0 w0=>?_;unfold Zfb at b;obtain⟨e,b⟩|⟨e,b⟩:=Zag b
 .apply Ya b 8 [rz,rB [(2,true)],rz] [true] (mn e (mP true))
 .obtain⟨g,b⟩|⟨g,b⟩:=Zag b
  .apply Ya b 8 [rz,rB [(2,false)],rz] [true] (mn e g)
  .exact Ye 13 [rz,rB [(2,false)],rz,rz] [false] (Yi [0,1,5,6]) (mn e g) (ZnI S0 w0 d f (((d.length:Int)-(0:Int)).toNat+2) (0:Int) (0:Int) r b)
def Zfq(b d:Zaa):Option Bool:=bif(b.fSince != d.fSince)then some (decide (b.fSince>d.fSince))else(Zcs b.fEnd d.fEnd).bind fun e=>some (decide (e>(0:Int)))
theorem Zop(e f:Zaa)(r:Bool)(b:Zfq e f=some r):Yp 270 [.agg (Zaa.c e),.agg (Zaa.c f)] (Yk r):=by
 refine Yv Tryz.func270 fun S0 w0=>?_;unfold Zfq at b;obtain⟨d,b⟩|⟨d,b⟩:=Zag b
 .apply Ya b 8 [rz,rz,rz] [true] (ml d)
 .obtain⟨g,h,b⟩:=Zad b;apply Ya b 9 [rz,rz,rA [(4,aI g)]] [false] (mn d (Zen _ _ _ h))
def Zbc(b:List Zaa)(e:Int)(ar:Int->Option Int):Nat->Bool->Int->Option Int|0,_,_=>none|fu+1,g,f=>bif(decide (f<(b.length:Int)))then(Zfb b f).bind fun h=>(Zfb b e).bind fun i=>bif g then bif(decide (h<=i))then bif(decide (h<i))then Zbc b e ar fu true (Zaq f 1)else need (0<=f/\f<(b.length:Int))<|need (0<=e/\e<(b.length:Int))<|(Zfq (b.getD f.toNat Zaa.d) (b.getD e.toNat Zaa.d)).bind fun j=>Zbc b e ar fu (!j) (Zaq f 1)else Zbc b e ar fu false (Zaq f 1)else Zbc b e ar fu false (Zaq f 1)else bif g then some e else ar (Zaq e 1)
theorem Zoq(u:List Zaa)(v:Int)(ar:Int->Option Int)(bA:∀(jU r:Int),ar jU=some r->Yr 51 S0 w0 Tryz.f197 (Yj r) [1,0,1,0] ⟨[(0,(Ym u)),(3,(Yj jU))],[]⟩):∀(g:Nat)(h:Bool)(d r:Int),Zbc u v ar g h d=some r->Yr 51 S0 w0 Tryz.f197 (Yj r) [1,0,1,0,0,1,0,0,1,0,1,0] ⟨[(0,(Ym u)),(3,(Yj v)),(4,(Yk h)),(5,(Yj d))],[]⟩:=by
 intro g;induction g with
 |zero=>
  intro h d r b;simp[Zbc]at b
 |succ g i=>
  intro h d r b;unfold Zbc at b;obtain⟨j,b⟩|⟨j,b⟩:=Zag b
  .obtain⟨o,p,B,C,b⟩:=Yu b;have O1:=(mo j (Zlj _ _ _ B) (Zlj _ _ _ C));obtain⟨f,b⟩|⟨f,b⟩:=Zag b
   .obtain⟨t,b⟩|⟨t,b⟩:=Zag b
    .obtain⟨y,b⟩|⟨y,b⟩:=Zag b
     .exact Ye 14 [rz,rA [(2,aI o),(5,aI p)],rB [(1,true),(6,true),(10,true)],rz] [true] (Yi [0,3,4,5]) (mE O1 f t y) (i true (Zaq d 1) r b)
     .obtain⟨D,E,b⟩:=Yt b;obtain⟨A,z,b⟩:=Zad b;exact Ye 14 [rz,rA [(2,aI o),(5,aI p)],⟨[(19,aB A)],[(1,true),(6,true),(10,false)],[],[],[],[],[]⟩,rz] [true] (Yi [0,3,4,5]) (mH O1 f t y D E (Zop _ _ _ z)) (i (!A) (Zaq d 1) r b)
    .exact Ye 14 [rz,rA [(2,aI o),(5,aI p)],rB [(1,true),(6,false)],rz] [true] (Yi [0,3,4,5]) (mD O1 f t) (i false (Zaq d 1) r b)
   .exact Ye 14 [rz,rA [(2,aI o),(5,aI p)],rB [(1,false)],rz] [true] (Yi [0,3,4,5]) (mC O1 f) (i false (Zaq d 1) r b)
  .obtain⟨e,b⟩|⟨e,b⟩:=Zag b
   .apply Ya b 11 [rz,rz,rz] [false,true] (mn j e)
   .exact Ye 13 [rz,rz,rz] [false,false] (Yi [0,3]) (mn j e) (bA (Zaq v 1) r b)
def ZbS(b:List Zaa):Nat->Int->Option Int|0,_=>none|fu+1,d=>bif(decide (d<(b.length:Int)))then Zbc b d (ZbS b fu) (((b.length:Int)-(0:Int)).toNat+2) true (0:Int)else some (-1:Int)
theorem Zor(d:List Zaa):∀(e:Nat)(f r:Int),ZbS d e f=some r->Yr 51 S0 w0 Tryz.f197 (Yj r) [1,0,1,0] ⟨[(0,(Ym d)),(3,(Yj f))],[]⟩:=by
 intro e;induction e with
 |zero=>
  intro f r b;simp[ZbS]at b
 |succ e h=>
  intro f r b;unfold ZbS at b;obtain⟨g,b⟩|⟨g,b⟩:=Zag b
  .exact Ye 14 [rz,rz,rz] [true] (Yi [0,3,4,5]) (ml g) (Zoq S0 w0 d f (ZbS d e) h (((d.length:Int)-(0:Int)).toNat+2) true (0:Int) r b)
  .apply Ya b 8 [rz,rz] [false] (ml g)
def ZgV(b:List Zaa):Option Int:=ZbS b (((b.length:Int)-(0:Int)).toNat+2) (0:Int)
theorem Zqs(b:List Zaa)(r:Int)(d:ZgV b=some r):Yp 197 [Ym b] (Yj r):=by
 refine Yv Tryz.func197 fun S0 w0=>?_;unfold ZgV at d;exact Ye 6 [rz,rz] [] (Yi [0,3]) .n (Zor S0 w0 b (((b.length:Int)-(0:Int)).toNat+2) (0:Int) r d)
def ZeC(f:List Zaa)(g:ZaA)(h:Int):Option (Zaj×Bool):=(Zdn f g h).bind fun e=>(ZgV e).bind fun b=>bif(decide (b<(0:Int)))then some ((Zaj.mk (Zah.mk false 0 0) 0),false)else need (0<=b/\b<(e.length:Int))<|some ((e.getD b.toNat Zaa.d).fEnd,true)
theorem ZoZ(e:List Zaa)(f:ZaA)(g:Int)(r:(Zaj×Bool))(b:ZeC e f g=some r):Yp 119 [Ym e,.agg (ZaA.c f),.one (.lit (.int .u64 g))] (.tup [(true,Zaj.c r.1),(false,cB r.2)]):=by
 refine Yv Tryz.func119 fun S0 w0=>?_;unfold ZeC at b;obtain⟨h,i,b⟩:=Zad b;obtain⟨j,o,b⟩:=Zad b
 let R1:List RA:=[rz,rA [(3,.r (Ym h) [])],rA [(1,aI j)],rz,rz]
 have O2:=(mn (ZmN _ _ _ _ i) (Zqs _ _ o));obtain⟨d,b⟩|⟨d,b⟩:=Zag b
 .apply Ya b 12 R1 [true] (mC O2 d)
 .obtain⟨p,b⟩:=Zao b;apply Ya b 13 R1 [false] (mD O2 d p)
def ZfA(d:List Zaa)(e:Zaj):Option ((List Zaa)×Int):=(Zca d e).bind fun b=>bif(decide (b<(0:Int)))then some (([]:(List Zaa)),(6:Int))else need (0<=b/\b<=(d.length:Int))<|need ((([]:List Zaa)++(d.take b.toNat)).length * 80<=140737488355328/\(([]:List Zaa)++(d.take b.toNat)).length<=maxLen)<|need (0<=(Zaq b 1)/\(Zaq b 1)<=(d.length:Int))<|need (((([]:List Zaa)++(d.take b.toNat))++(d.drop (Zaq b 1).toNat)).length * 80<=140737488355328/\((([]:List Zaa)++(d.take b.toNat))++(d.drop (Zaq b 1).toNat)).length<=maxLen)<|some (((([]:List Zaa)++(d.take b.toNat))++(d.drop (Zaq b 1).toNat)),(0:Int))
theorem Zly(f:List Zaa)(o:Zaj)(r:((List Zaa)×Int))(g:ZfA f o=some r):Yp 131 [Ym f,.agg (Zaj.c o)] (.tup [(false,(cLs 10 Zaa.c Zaa.d) r.1),(false,mi r.2)]):=by
 refine Yv Tryz.func131 fun S0 w0=>?_;unfold ZfA at g;obtain⟨b,p,g⟩:=Zad g;obtain⟨h,g⟩|⟨h,g⟩:=Zag g
 .apply Yb g 10 [rz,rA [(2,aI b)],rz,rz] [true] [] [] [(4,[(0,cL 10 Zaa.c Zaa.d [])])] (mn (ZbK _ _ _ p) h)
 .obtain⟨t,u,g⟩:=Yt g;obtain⟨y,v,g⟩:=Yt g;apply Yb g 11 [rz,rA [(2,aI b)],rz,⟨[(0,.c ([]:List Zaa).length (Zam Zaa.c Zaa.d ([]:List Zaa))),(4,.c ((([]:List Zaa)++(f.take b.toNat)).length) (Zam Zaa.c Zaa.d (([]:List Zaa)++(f.take b.toNat)))),(9,.c (((([]:List Zaa)++(f.take b.toNat))++(f.drop (Zaq b 1).toNat)).length) (Zam Zaa.c Zaa.d ((([]:List Zaa)++(f.take b.toNat))++(f.drop (Zaq b 1).toNat))))],[],[],[],[],[(3,((f.take b.toNat).length,Zam Zaa.c Zaa.d (f.take b.toNat))),(8,((f.drop (Zaq b 1).toNat).length,Zam Zaa.c Zaa.d (f.drop (Zaq b 1).toNat)))],[]⟩] [false] [21] [] [] (.c (ZbK _ _ _ p) (.c h (.c (show ([]:List Zaa).length=0 from rfl) (.c (mQ (e:=Zaa.c) Zaa.d 10 (fun _=>rfl) ([]:List Zaa)) (mz (show (f.take b.toNat).length=b.toNat/\∀i j,i<b.toNat->j<10->Zam Zaa.c Zaa.d (f.take b.toNat) i j=Zam Zaa.c Zaa.d f i j from(ZkA _ _ t)) t (Zcq (sz:=10) (e:=Zaa.c) (d:=Zaa.d) ([]:List Zaa) (f.take b.toNat)) u.1 u.2 (show (f.drop (Zaq b 1).toNat).length=f.length-(Zaq b 1).toNat/\∀i j,i<f.length-(Zaq b 1).toNat->j<10->Zam Zaa.c Zaa.d (f.drop (Zaq b 1).toNat) i j=Zam Zaa.c Zaa.d f ((Zaq b 1).toNat+i) j from(ZkB _ _)) y (Zcq (sz:=10) (e:=Zaa.c) (d:=Zaa.d) (([]:List Zaa)++(f.take b.toNat)) (f.drop (Zaq b 1).toNat)) v.1 v.2)))))
def ZdC(e:List Zaa):Nat->Int->Zaa->Option (List Zaa)|0,_,_=>none|fu+1,b,f=>bif(decide (b<(e.length:Int)))then need (0<=b/\b<(e.length:Int))<|(Zcs ((e.getD b.toNat Zaa.d).fEnd) f.fEnd).bind fun g=>bif(decide (g<=(0:Int)))then ZdC e fu (Zaq b 1) f else need (0<=b/\b<=(e.length:Int))<|need ((([]:List Zaa)++(e.take b.toNat)).length * 80<=140737488355328/\(([]:List Zaa)++(e.take b.toNat)).length<=maxLen)<|need (((([]:List Zaa)++(e.take b.toNat))++([f]:List Zaa)).length * 80<=140737488355328/\((([]:List Zaa)++(e.take b.toNat))++([f]:List Zaa)).length<=maxLen)<|need ((((([]:List Zaa)++(e.take b.toNat))++([f]:List Zaa))++(e.drop b.toNat)).length * 80<=140737488355328/\(((([]:List Zaa)++(e.take b.toNat))++([f]:List Zaa))++(e.drop b.toNat)).length<=maxLen)<|some (((([]:List Zaa)++(e.take b.toNat))++([f]:List Zaa))++(e.drop b.toNat))else need (0<=b/\b<=(e.length:Int))<|need ((([]:List Zaa)++(e.take b.toNat)).length * 80<=140737488355328/\(([]:List Zaa)++(e.take b.toNat)).length<=maxLen)<|need (((([]:List Zaa)++(e.take b.toNat))++([f]:List Zaa)).length * 80<=140737488355328/\((([]:List Zaa)++(e.take b.toNat))++([f]:List Zaa)).length<=maxLen)<|need ((((([]:List Zaa)++(e.take b.toNat))++([f]:List Zaa))++(e.drop b.toNat)).length * 80<=140737488355328/\(((([]:List Zaa)++(e.take b.toNat))++([f]:List Zaa))++(e.drop b.toNat)).length<=maxLen)<|some (((([]:List Zaa)++(e.take b.toNat))++([f]:List Zaa))++(e.drop b.toNat))
theorem ZoV(f:List Zaa):∀(u:Nat)(b:Int)(g:Zaa)(r:List Zaa),ZdC f u b g=some r->Ys 37 S0 w0 Tryz.f132 [(me 99999 44 10 Zaa.c Zaa.d r)] (.one (.osl 99999 r.length)) [1,1,0,0] ⟨[(0,(Ym f)),(3,.one (.ptr 3 0)),(5,(Yj b))],[(3,.box (Zaa.c g))]⟩:=by
 intro u;induction u with
 |zero=>
  intro b g r h;simp[ZdC]at h
 |succ u E=>
  intro b g r h;unfold ZdC at h;obtain⟨v,h⟩|⟨v,h⟩:=Zag h
  .obtain⟨F,h⟩:=Zao h;obtain⟨G,H,h⟩:=Zad h
   let R1:List RA:=[⟨[(12,aI G)],[(4,true)],[],[],[],[],[]⟩]
   have O2:=(mo v F (Zen _ _ _ H));obtain⟨y,h⟩|⟨y,h⟩:=Zag h
   .exact Ye 10 (R1++[rz]) [true] (ma [0,3,5] [3]) (mC O2 y) (E (Zaq b 1) g r h)
   .obtain⟨z,B,h⟩:=Yt h;obtain⟨C,D,h⟩:=Yt h;apply Yc h 10 (R1++[⟨[(0,.c ([]:List Zaa).length (Zam Zaa.c Zaa.d ([]:List Zaa))),(4,.c ((([]:List Zaa)++(f.take b.toNat)).length) (Zam Zaa.c Zaa.d (([]:List Zaa)++(f.take b.toNat)))),(7,.c (((([]:List Zaa)++(f.take b.toNat))++([g]:List Zaa)).length) (Zam Zaa.c Zaa.d ((([]:List Zaa)++(f.take b.toNat))++([g]:List Zaa))))],[],[],[],[],[(3,((f.take b.toNat).length,Zam Zaa.c Zaa.d (f.take b.toNat))),(6,(([g]:List Zaa).length,Zam Zaa.c Zaa.d ([g]:List Zaa)))],[]⟩,⟨[(4,.c ((((([]:List Zaa)++(f.take b.toNat))++([g]:List Zaa))++(f.drop b.toNat)).length) (Zam Zaa.c Zaa.d (((([]:List Zaa)++(f.take b.toNat))++([g]:List Zaa))++(f.drop b.toNat))))],[],[],[],[],[(3,((f.drop b.toNat).length,Zam Zaa.c Zaa.d (f.drop b.toNat)))],[]⟩]) [false] (md [4] [36] [(36,99999)]) (O2.app (.c y (.c (show ([]:List Zaa).length=0 from rfl) (.c (mQ (e:=Zaa.c) Zaa.d 10 (fun _=>rfl) ([]:List Zaa)) (.c (show (f.take b.toNat).length=b.toNat/\∀i j,i<b.toNat->j<10->Zam Zaa.c Zaa.d (f.take b.toNat) i j=Zam Zaa.c Zaa.d f i j from(ZkA _ _ z)) (.c z (.c (Zcq (sz:=10) (e:=Zaa.c) (d:=Zaa.d) ([]:List Zaa) (f.take b.toNat)) (.c B.1 (mz B.2 (mN (e:=Zaa.c) Zaa.d 10 (fun _=>rfl) ([g]:List Zaa)) (Zcq (sz:=10) (e:=Zaa.c) (d:=Zaa.d) (([]:List Zaa)++(f.take b.toNat)) ([g]:List Zaa)) C.1 C.2 (show (f.drop b.toNat).length=f.length-b.toNat/\∀i j,i<f.length-b.toNat->j<10->Zam Zaa.c Zaa.d (f.drop b.toNat) i j=Zam Zaa.c Zaa.d f (b.toNat+i) j from(ZkB _ _)) z (Zcq (sz:=10) (e:=Zaa.c) (d:=Zaa.d) ((([]:List Zaa)++(f.take b.toNat))++([g]:List Zaa)) (f.drop b.toNat)) D.1 D.2)))))))))
  .obtain⟨A,o,h⟩:=Yt h;obtain⟨p,t,h⟩:=Yt h;apply Yc h 10 [rB [(4,false)],⟨[(0,.c ([]:List Zaa).length (Zam Zaa.c Zaa.d ([]:List Zaa))),(4,.c ((([]:List Zaa)++(f.take b.toNat)).length) (Zam Zaa.c Zaa.d (([]:List Zaa)++(f.take b.toNat)))),(7,.c (((([]:List Zaa)++(f.take b.toNat))++([g]:List Zaa)).length) (Zam Zaa.c Zaa.d ((([]:List Zaa)++(f.take b.toNat))++([g]:List Zaa))))],[],[],[],[],[(3,((f.take b.toNat).length,Zam Zaa.c Zaa.d (f.take b.toNat))),(6,(([g]:List Zaa).length,Zam Zaa.c Zaa.d ([g]:List Zaa)))],[]⟩,⟨[(4,.c ((((([]:List Zaa)++(f.take b.toNat))++([g]:List Zaa))++(f.drop b.toNat)).length) (Zam Zaa.c Zaa.d (((([]:List Zaa)++(f.take b.toNat))++([g]:List Zaa))++(f.drop b.toNat))))],[],[],[],[],[(3,((f.drop b.toNat).length,Zam Zaa.c Zaa.d (f.drop b.toNat)))],[]⟩] [false] (md [4] [36] [(36,99999)]) (.c v (.c (mP false) (.c (show ([]:List Zaa).length=0 from rfl) (.c (mQ (e:=Zaa.c) Zaa.d 10 (fun _=>rfl) ([]:List Zaa)) (.c (show (f.take b.toNat).length=b.toNat/\∀i j,i<b.toNat->j<10->Zam Zaa.c Zaa.d (f.take b.toNat) i j=Zam Zaa.c Zaa.d f i j from(ZkA _ _ A)) (.c A (.c (Zcq (sz:=10) (e:=Zaa.c) (d:=Zaa.d) ([]:List Zaa) (f.take b.toNat)) (.c o.1 (mz o.2 (mN (e:=Zaa.c) Zaa.d 10 (fun _=>rfl) ([g]:List Zaa)) (Zcq (sz:=10) (e:=Zaa.c) (d:=Zaa.d) (([]:List Zaa)++(f.take b.toNat)) ([g]:List Zaa)) p.1 p.2 (show (f.drop b.toNat).length=f.length-b.toNat/\∀i j,i<f.length-b.toNat->j<10->Zam Zaa.c Zaa.d (f.drop b.toNat) i j=Zam Zaa.c Zaa.d f (b.toNat+i) j from(ZkB _ _)) A (Zcq (sz:=10) (e:=Zaa.c) (d:=Zaa.d) ((([]:List Zaa)++(f.take b.toNat))++([g]:List Zaa)) (f.drop b.toNat)) t.1 t.2)))))))))
def Zdw(b:List Zaa)(d:Zaa):Option (List Zaa):=ZdC b (((b.length:Int)-(0:Int)).toNat+2) (0:Int) d
theorem Zqm(b:List Zaa)(e:Zaa)(r:List Zaa)(f:Zdw b e=some r):Yq 132 [] [Ym b,.agg (Zaa.c e)] [(me 99999 44 10 Zaa.c Zaa.d r)] (.one (.osl 99999 r.length)):=by
 refine Yw Tryz.func132 fun S0 w0=>?_;unfold Zdw at f;exact Ye 6 [rz,rz] [] (ma [0,3,5] [3]) .n (ZoV S0 w0 b (((b.length:Int)-(0:Int)).toNat+2) (0:Int) e r f)
theorem Zju(b:List Zaa)(d:Zaa)(r:List Zaa)(e:Zdw b d=some r):Yp 132 [Ym b,.agg (Zaa.c d)] (Ym r):=(Zqm b d r e).pure
end Go.Proofs.YtmnloegcpaahcaaGreat
