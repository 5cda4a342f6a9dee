import Derived.Test.YtmnloegcpaahcaaGreatCMoeA0
namespace Go.Proofs.YtmnloegcpaahcaaGreat
open Go.RowKit Go.Lib Go.Shelf
set_option linter.unusedVariables false
set_option maxRecDepth 100000
variable (S0:Nat->Prop)(w0:ZaY)
def ZjY:Nat->Int->(List Int)->Int->Int->Option Int|0,_,_,_,_=>none|fu+1,f,d,e,b=>bif(decide (b<e))then need (0<=b/\b<(d.length:Int))<|(Zet f (7:Int)).bind fun g=>(ZmL (IntKind.wrap .u64 ((d.getD b.toNat (0:Int))+(11400714819323198485:Int)))).bind fun h=>(ZmL (IntKind.wrap .u64 (((BitVec.ofInt (IntKind.bits .u64) g) ^^^ (BitVec.ofInt (IntKind.bits .u64) h)).toNat:Int))).bind fun i=>ZjY fu i d e (Zan b 1)else some f
theorem ZwI:∀(g:Nat)(h:Int)(d:List Int)(e f r:Int),ZjY g h d e f=some r->Yq 26 S0 w0 Tryz.f364 (.one (.lit (.int .u64 r))) [1,1,0,1,0] ⟨[(5,.one (.lit (.int .u64 h))),(11,.one (cL 1 (cI .u64) (0:Int) d)),(12,(Yj e)),(13,(Yj f))],[]⟩:=by
 intro g;induction g with
 |zero=>
  intro h d e f r b;simp[ZjY]at b
 |succ g o=>
  intro h d e f r b;unfold ZjY at b;obtain⟨i,b⟩|⟨i,b⟩:=Zae b
  .obtain⟨p,b⟩:=Zap b;obtain⟨t,u,v,y,b⟩:=Yt b;obtain⟨j,z,b⟩:=Zad b;exact Ye 14 [rz,rz,rA [(1,.r (.one (.lit (.int .u64 t))) []),(4,.r (.one (.lit (.int .u64 u))) []),(6,.r (.one (.lit (.int .u64 j))) [])],rz] [true] (Yi [5,11,12,13]) (lV i p (ZmM _ _ _ v) (Zqp _ _ y) (Zqp _ _ z)) (o j d e (Zan f 1) r b)
  .apply Ya b 8 [rz,rz] [false] (lR i)
def Zrc(d:Int)(b:List Int):Option Int:=(ZmL (IntKind.wrap .u64 (d+(11400714819323198485:Int)))).bind fun e=>ZjY (((b.length:Int)-(0:Int)).toNat+2) e b (b.length:Int) (0:Int)
theorem ZvH(e:Int)(b:List Int)(r:Int)(d:Zrc e b=some r):Yo 364 [.one (.lit (.int .u64 e)),.one (cL 1 (cI .u64) (0:Int) b)] (.one (.lit (.int .u64 r))):=by
 refine Yu Tryz.func364 fun S0 w0=>?_;unfold Zrc at d;obtain⟨f,g,d⟩:=Zad d;exact Ye 8 [rz,rA [(2,.r (.one (.lit (.int .u64 f))) [])],rz] [] (Yi [5,11,12,13]) (lR (Zqp _ _ g)) (ZwI S0 w0 (((b.length:Int)-(0:Int)).toNat+2) f b (b.length:Int) (0:Int) r d)
def Zon(d:Int)(b:Zaj):Option Int:=bif b.fAddr.fV6 then(Zrc d ([(6:Int),b.fAddr.fHi,b.fAddr.fLo,(IntKind.wrap .u64 b.fBits)]:List Int)).bind fun e=>some e else(Zrc d ([(4:Int),b.fAddr.fHi,b.fAddr.fLo,(IntKind.wrap .u64 b.fBits)]:List Int)).bind fun f=>some f
theorem ZzT(h:Int)(b:Zaj)(r:Int)(f:Zon h b=some r):Yo 332 [.one (.lit (.int .u64 h)),.agg (Zaj.c b)] (.one (.lit (.int .u64 r))):=by
 refine Yu Tryz.func332 fun S0 w0=>?_;unfold Zon at f;obtain⟨g,f⟩|⟨g,f⟩:=Zae f
 .obtain⟨o,p,f⟩:=Zad f;apply Ya f 11 [rz,rz,rz,rz,⟨[(12,.r (.one (.lit (.int .u64 o))) [])],[],[],[],[],[(11,(([(6:Int),b.fAddr.fHi,b.fAddr.fLo,(IntKind.wrap .u64 b.fBits)]:List Int).length,Zal (cI .u64) (0:Int) ([(6:Int),b.fAddr.fHi,b.fAddr.fLo,(IntKind.wrap .u64 b.fBits)]:List Int)))],[]⟩] [true] (lT g (ml (e:=(cI .u64)) (0:Int) 1 (fun _=>rfl) ([(6:Int),b.fAddr.fHi,b.fAddr.fLo,(IntKind.wrap .u64 b.fBits)]:List Int)) (ZvH _ _ _ p))
 .obtain⟨t,u,f⟩:=Zad f;apply Ya f 11 [rz,rz,rz,⟨[(12,.r (.one (.lit (.int .u64 t))) [])],[],[],[],[],[(11,(([(4:Int),b.fAddr.fHi,b.fAddr.fLo,(IntKind.wrap .u64 b.fBits)]:List Int).length,Zal (cI .u64) (0:Int) ([(4:Int),b.fAddr.fHi,b.fAddr.fLo,(IntKind.wrap .u64 b.fBits)]:List Int)))],[]⟩] [false] (lT g (ml (e:=(cI .u64)) (0:Int) 1 (fun _=>rfl) ([(4:Int),b.fAddr.fHi,b.fAddr.fLo,(IntKind.wrap .u64 b.fBits)]:List Int)) (ZvH _ _ _ u))
def Zmw(b:Zaa)(d:Int):Option Int:=(Zgz b.fEnd.fAddr).bind fun e=>(Zon d e).bind fun f=>some f
theorem ZsA(d:Zaa)(e r:Int)(b:Zmw d e=some r):Yo 377 [.agg (Zaa.c d),.one (.lit (.int .u64 e))] (.one (.lit (.int .u64 r))):=by
 refine Yu Tryz.func377 fun S0 w0=>?_;unfold Zmw at b;obtain⟨f,g,h,i,b⟩:=Yt b;apply Ya b 4 [rz,rA [(4,aG (Zaj.c f)),(5,.r (.one (.lit (.int .u64 g))) [])]] [] (lS (Zmo _ _ h) (ZzT _ _ _ i))
def ZjO(b d:Zaa)(e f:Int):Option Int:=bif(e==(1:Int))then(Zmw d f).bind fun g=>(Zmw b f).bind fun h=>(ZdU g h).bind fun i=>some i else bif(e==(2:Int))then(Zcf b.fPing d.fPing).bind fun j=>some j else bif(e==(3:Int))then(Zcf d.fWork b.fWork).bind fun n=>some n else bif(e==(4:Int))then(Zcf b.fSince d.fSince).bind fun o=>some o else some (0:Int)
theorem ZtA(i j:Zaa)(o p r:Int)(b:ZjO i j o p=some r):Yo 357 [.agg (Zaa.c i),.agg (Zaa.c j),Yj o,.one (.lit (.int .u64 p))] (Yj r):=by
 refine Yu Tryz.func357 fun S0 w0=>?_;unfold ZjO at b;obtain⟨d,b⟩|⟨d,b⟩:=Zae b
 .obtain⟨t,u,v,y,b⟩:=Yt b;obtain⟨z,A,b⟩:=Zad b;apply Ya b 11 [rz,rz,rz,rA [(2,.r (.one (.lit (.int .u64 t))) []),(5,.r (.one (.lit (.int .u64 u))) []),(6,aI z)]] [true] (lU d (ZsA _ _ _ v) (ZsA _ _ _ y) (Ziu _ _ _ A))
 .obtain⟨e,b⟩|⟨e,b⟩:=Zae b
  .obtain⟨B,C,b⟩:=Zad b;apply Ya b 14 [rz,rz,rz,rz,rA [(4,aI B)]] [false,true] (lT d e (Zdk _ _ _ C))
  .obtain⟨f,b⟩|⟨f,b⟩:=Zae b
   .obtain⟨D,E,b⟩:=Zad b;apply Ya b 17 [rz,rz,rz,rz,rz,rA [(4,aI D)]] [false,false,true] (lU d e f (Zdk _ _ _ E))
   .obtain⟨g,b⟩|⟨g,b⟩:=Zae b
    .obtain⟨F,h,b⟩:=Zad b;apply Ya b 20 [rz,rz,rz,rz,rz,rz,rA [(4,aI F)]] [false,false,false,true] (lV d e f g (Zdk _ _ _ h))
    .apply Ya b 22 [rz,rz,rz,rz,rz,rz,rz] [false,false,false,false] (lU d e f g)
def ZmG(b d:Zaa)(e f:Int):Option Int:=(ZjO b d e f).bind fun g=>(ZfH b.fEnd d.fEnd).bind fun h=>(Zew ([g,h]:List Int)).bind fun i=>some i
theorem ZwG(h o:Zaa)(p t r:Int)(g:ZmG h o p t=some r):Yo 323 [.agg (Zaa.c h),.agg (Zaa.c o),Yj p,.one (.lit (.int .u64 t))] (Yj r):=by
 refine Yu Tryz.func323 fun S0 w0=>?_;unfold ZmG at g;obtain⟨b,f,u,v,g⟩:=Yt g;obtain⟨y,z,g⟩:=Zad g;apply Ya g 4 [rz,⟨[(4,aI b),(9,aI f),(11,aI y)],[],[],[],[],[(10,(([b,f]:List Int).length,Zal lP (0:Int) ([b,f]:List Int)))],[]⟩] [] (lU (ZtA _ _ _ _ _ u) (Zjv _ _ _ v) (ml (e:=lP) (0:Int) 1 (fun _=>rfl) ([b,f]:List Int)) (ZhT _ _ z))
def Zgu(b e:Int)(c0:List Zaa)(c1 c2:Int):Option Int:=need (0<=b/\b<(c0.length:Int))<|need (0<=e/\e<(c0.length:Int))<|(ZmG (c0.getD b.toNat Zaa.d) (c0.getD e.toNat Zaa.d) c1 c2).bind fun f=>some f
theorem Zju(e f:Int)(c0:List Zaa)(c1 c2 r:Int)(b:Zgu e f c0 c1 c2=some r):Yo 322 [Yj e,Yj f,.one (.rp false 1 (fun j=>([cL 10 Zaa.c Zaa.d c0]:List C).getD (0+j) .junk)),.one (.rp false 1 (fun j=>([.lit (.int .i64 c1)]:List C).getD (0+j) .junk)),.one (.rp false 1 (fun j=>([.lit (.int .u64 c2)]:List C).getD (0+j) .junk))] (Yj r):=by
 refine Yu Tryz.func322 fun S0 w0=>?_;unfold Zgu at b;obtain⟨o1,g,b⟩:=Ys b;obtain⟨h,i,b⟩:=Zad b;apply Ya b 4 [rz,rA [(10,aI h)]] [] (lT o1 g (ZwG _ _ _ _ _ i))
def ZaX(i j:Int)(e:List Zaa)(f g h:Int)(aj:Int->(List Int)->Option (List Int)):Nat->Int->(List Int)->Option (List Int)|0,_,_=>none|fu+1,d,b=>bif(decide (d>i))then need (0<=d/\d<(b.length:Int))<|need (0<=(ZaJ d (1:Int))/\(ZaJ d (1:Int))<(b.length:Int))<|(Zgu (b.getD d.toNat (0:Int)) (b.getD ((ZaJ d (1:Int)).toNat) (0:Int)) e f g).bind fun n=>bif(decide (n<(0:Int)))then ZaX i j e f g h aj fu (ZaJ d (1:Int)) ((b.set d.toNat (b.getD ((ZaJ d (1:Int)).toNat) (0:Int))).set ((ZaJ d (1:Int)).toNat) (b.getD d.toNat (0:Int)))else aj (Zan h 1) b else aj (Zan h 1) b
theorem Zii(y z:Int)(g:List Zaa)(h o u:Int)(aj:Int->(List Int)->Option (List Int))(aH:∀(dg:Int)(al r:List Int),aj dg al=some r->Yr 53 S0 w0 Tryz.f375 [(lL 100000 3 1 lP (0:Int) r)] (.tup []) [1,0] ⟨[(0,.one (.osl 100000 al.length)),(1,(Yj y)),(2,(Yj z)),(3,.one (lN 322 0 3 [] [lO [cL 10 Zaa.c Zaa.d g],lO [.lit (.int .i64 h)],lO [.lit (.int .u64 o)]])),(8,(Yj dg))],[(lL 100000 3 1 lP (0:Int) al)]⟩):∀(v:Nat)(e:Int)(b r:List Int),ZaX y z g h o u aj v e b=some r->Yr 53 S0 w0 Tryz.f375 [(lL 100000 3 1 lP (0:Int) r)] (.tup []) [1,0,0,1,0,0,1,0] ⟨[(0,.one (.osl 100000 b.length)),(1,(Yj y)),(2,(Yj z)),(3,.one (lN 322 0 3 [] [lO [cL 10 Zaa.c Zaa.d g],lO [.lit (.int .i64 h)],lO [.lit (.int .u64 o)]])),(8,(Yj u)),(9,(Yj e))],[(lL 100000 3 1 lP (0:Int) b)]⟩:=by
 intro v;induction v with
 |zero=>
  intro e b r f;simp[ZaX]at f
 |succ v D=>
  intro e b r f;unfold ZaX at f;obtain⟨A,f⟩|⟨A,f⟩:=Zae f
  .obtain⟨p,t,f⟩:=Ys f;obtain⟨E,F,f⟩:=Zad f
   let R1:List RA:=[⟨[(14,aI E)],[(3,true)],[],[],[],[],[]⟩]
   have O2:=(lW A p (ltOf p) t (ltOf t) (Zju _ _ _ _ _ _ F));obtain⟨B,f⟩|⟨B,f⟩:=Zae f
   .exact Ye 12 (R1++[rA [(15,.c (b.set e.toNat (b.getD ((ZaJ e (1:Int)).toNat) (0:Int))).length (Zal lP (0:Int) (b.set e.toNat (b.getD ((ZaJ e (1:Int)).toNat) (0:Int))))),(17,.c ((b.set e.toNat (b.getD ((ZaJ e (1:Int)).toNat) (0:Int))).set ((ZaJ e (1:Int)).toNat) (b.getD e.toNat (0:Int))).length (Zal lP (0:Int) ((b.set e.toNat (b.getD ((ZaJ e (1:Int)).toNat) (0:Int))).set ((ZaJ e (1:Int)).toNat) (b.getD e.toNat (0:Int)))))],rz]) [true] ⟨[],[],[],[(100000,(((b.set e.toNat (b.getD ((ZaJ e (1:Int)).toNat) (0:Int))).set ((ZaJ e (1:Int)).toNat) (b.getD e.toNat (0:Int))).length))],[],[0,1,2,3,8,9],[100000],[]⟩ (O2.app (.c B (.c t (.c (ltOf t) (.c p (l5 (ltOf p) p (show (b.set e.toNat (b.getD ((ZaJ e (1:Int)).toNat) (0:Int))).length=b.length from List.length_set) (ltOf p) (show ExtU 1 b.length (Zal lP (0:Int) b) e.toNat 0 (lP (b.getD ((ZaJ e (1:Int)).toNat) (0:Int))) (Zal lP (0:Int) (b.set e.toNat (b.getD ((ZaJ e (1:Int)).toNat) (0:Int))))from(Zlq _ _ _ rfl)) t (show ((b.set e.toNat (b.getD ((ZaJ e (1:Int)).toNat) (0:Int))).set ((ZaJ e (1:Int)).toNat) (b.getD e.toNat (0:Int))).length=(b.set e.toNat (b.getD ((ZaJ e (1:Int)).toNat) (0:Int))).length from List.length_set) (show (ZaJ e (1:Int)).toNat<(b.set e.toNat (b.getD ((ZaJ e (1:Int)).toNat) (0:Int))).length from(by have:=ltOf t;simp at this ⊢;omega)) (show ExtU 1 ((b.set e.toNat (b.getD ((ZaJ e (1:Int)).toNat) (0:Int))).length) (Zal lP (0:Int) (b.set e.toNat (b.getD ((ZaJ e (1:Int)).toNat) (0:Int)))) ((ZaJ e (1:Int)).toNat) 0 (lP (b.getD e.toNat (0:Int))) (Zal lP (0:Int) ((b.set e.toNat (b.getD ((ZaJ e (1:Int)).toNat) (0:Int))).set ((ZaJ e (1:Int)).toNat) (b.getD e.toNat (0:Int))))from(Zlq _ _ _ rfl)) (mo (((b.set e.toNat (b.getD ((ZaJ e (1:Int)).toNat) (0:Int))).set ((ZaJ e (1:Int)).toNat) (b.getD e.toNat (0:Int))).length)))))))) (D (ZaJ e (1:Int)) ((b.set e.toNat (b.getD ((ZaJ e (1:Int)).toNat) (0:Int))).set ((ZaJ e (1:Int)).toNat) (b.getD e.toNat (0:Int))) r f)
   .exact Ye 9 (R1++[rz]) [false] (lI [0,1,2,3,8] [100000]) (l8 O2 B) (aH (Zan u 1) b r f)
  .exact Ye 9 [rB [(3,false)],rz] [false] (lI [0,1,2,3,8] [100000]) (lS A (mo false)) (aH (Zan u 1) b r f)
def ZaI(h i:Int)(d:List Zaa)(e f:Int):Nat->Int->(List Int)->Option (List Int)|0,_,_=>none|fu+1,g,b=>bif(decide (g<i))then ZaX h i d e f g (ZaI h i d e f fu) ((g-h).toNat+2) g b else some b
theorem Zij(p u:Int)(e:List Zaa)(f g:Int):∀(t:Nat)(o:Int)(b r:List Int),ZaI p u e f g t o b=some r->Yr 53 S0 w0 Tryz.f375 [(lL 100000 3 1 lP (0:Int) r)] (.tup []) [1,0] ⟨[(0,.one (.osl 100000 b.length)),(1,(Yj p)),(2,(Yj u)),(3,.one (lN 322 0 3 [] [lO [cL 10 Zaa.c Zaa.d e],lO [.lit (.int .i64 f)],lO [.lit (.int .u64 g)]])),(8,(Yj o))],[(lL 100000 3 1 lP (0:Int) b)]⟩:=by
 intro t;induction t with
 |zero=>
  intro o b r h;simp[ZaI]at h
 |succ t y=>
  intro o b r h;unfold ZaI at h;obtain⟨v,h⟩|⟨v,h⟩:=Zae h
  .exact Ye 11 [rz,rz] [true] (lI [0,1,2,3,8,9] [100000]) (lR v) (Zii S0 w0 p u e f g o (ZaI p u e f g t) y ((o-p).toNat+2) o b r h)
  .obtain rfl:=oi h;exact Yd 6 [rz] [false] (lI [] [100000]) (lR v)
def ZbL(h:List Int)(f g:Int)(b:List Zaa)(d e:Int):Option (List Int):=ZaI f g b d e ((g-(Zan f 1)).toNat+2) (Zan f 1) h
theorem Zfk(g:List Int)(h o:Int)(b:List Zaa)(e f:Int)(r:List Int)(p:ZbL g h o b e f=some r):Yp 375 [(lL 100000 3 1 lP (0:Int) g)] [.one (.osl 100000 g.length),Yj h,Yj o,.one (lN 322 0 3 [] [lO [cL 10 Zaa.c Zaa.d b],lO [.lit (.int .i64 e)],lO [.lit (.int .u64 f)]])] [(lL 100000 3 1 lP (0:Int) r)] (.tup []):=by
 refine Yv Tryz.func375 fun S0 w0=>?_;unfold ZbL at p;exact Ye 3 [rz] [] (lI [0,1,2,3,8] [100000]) .n (Zij S0 w0 h o b e f ((o-(Zan h 1)).toNat+2) (Zan h 1) g r p)
def Zbg(e f g:Int):Nat->Int->(List Int)->Option (List Int)|0,_,_=>none|fu+1,d,b=>bif(decide (d<g))then need (0<=(Zan f d)/\(Zan f d)<(b.length:Int))<|need (0<=(Zan e d)/\(Zan e d)<(b.length:Int))<|Zbg e f g fu (Zan d 1) ((b.set ((Zan e d).toNat) (b.getD ((Zan f d).toNat) (0:Int))).set ((Zan f d).toNat) (b.getD ((Zan e d).toNat) (0:Int)))else some b
theorem ZiX(e f p:Int):∀(h:Nat)(d:Int)(b r:List Int),Zbg e f p h d b=some r->Yr 38 S0 w0 Tryz.f406 [(lL 100000 3 1 lP (0:Int) r)] (.tup []) [1,0] ⟨[(0,.one (.osl 100000 b.length)),(1,(Yj e)),(2,(Yj f)),(3,(Yj p)),(10,(Yj d))],[(lL 100000 3 1 lP (0:Int) b)]⟩:=by
 intro h;induction h with
 |zero=>
  intro d b r g;simp[Zbg]at g
 |succ h t=>
  intro d b r g;unfold Zbg at g;obtain⟨o,g⟩|⟨o,g⟩:=Zae g
  .obtain⟨i,j,g⟩:=Ys g;exact Ye 12 [rz,rA [(21,.c (b.set ((Zan e d).toNat) (b.getD ((Zan f d).toNat) (0:Int))).length (Zal lP (0:Int) (b.set ((Zan e d).toNat) (b.getD ((Zan f d).toNat) (0:Int))))),(23,.c ((b.set ((Zan e d).toNat) (b.getD ((Zan f d).toNat) (0:Int))).set ((Zan f d).toNat) (b.getD ((Zan e d).toNat) (0:Int))).length (Zal lP (0:Int) ((b.set ((Zan e d).toNat) (b.getD ((Zan f d).toNat) (0:Int))).set ((Zan f d).toNat) (b.getD ((Zan e d).toNat) (0:Int)))))],rz] [true] ⟨[],[],[],[(100000,(((b.set ((Zan e d).toNat) (b.getD ((Zan f d).toNat) (0:Int))).set ((Zan f d).toNat) (b.getD ((Zan e d).toNat) (0:Int))).length))],[],[0,1,2,3,10],[100000],[]⟩ (.c o (.c i (.c (ltOf i) (.c j (l5 (ltOf j) j (show (b.set ((Zan e d).toNat) (b.getD ((Zan f d).toNat) (0:Int))).length=b.length from List.length_set) (ltOf j) (show ExtU 1 b.length (Zal lP (0:Int) b) ((Zan e d).toNat) 0 (lP (b.getD ((Zan f d).toNat) (0:Int))) (Zal lP (0:Int) (b.set ((Zan e d).toNat) (b.getD ((Zan f d).toNat) (0:Int))))from(Zlq _ _ _ rfl)) i (show ((b.set ((Zan e d).toNat) (b.getD ((Zan f d).toNat) (0:Int))).set ((Zan f d).toNat) (b.getD ((Zan e d).toNat) (0:Int))).length=(b.set ((Zan e d).toNat) (b.getD ((Zan f d).toNat) (0:Int))).length from List.length_set) (show (Zan f d).toNat<(b.set ((Zan e d).toNat) (b.getD ((Zan f d).toNat) (0:Int))).length from(by have:=ltOf i;simp at this ⊢;omega)) (show ExtU 1 ((b.set ((Zan e d).toNat) (b.getD ((Zan f d).toNat) (0:Int))).length) (Zal lP (0:Int) (b.set ((Zan e d).toNat) (b.getD ((Zan f d).toNat) (0:Int)))) ((Zan f d).toNat) 0 (lP (b.getD ((Zan e d).toNat) (0:Int))) (Zal lP (0:Int) ((b.set ((Zan e d).toNat) (b.getD ((Zan f d).toNat) (0:Int))).set ((Zan f d).toNat) (b.getD ((Zan e d).toNat) (0:Int))))from(Zlq _ _ _ rfl)) (mo (((b.set ((Zan e d).toNat) (b.getD ((Zan f d).toNat) (0:Int))).set ((Zan f d).toNat) (b.getD ((Zan e d).toNat) (0:Int))).length))))))) (t (Zan d 1) ((b.set ((Zan e d).toNat) (b.getD ((Zan f d).toNat) (0:Int))).set ((Zan f d).toNat) (b.getD ((Zan e d).toNat) (0:Int))) r g)
  .obtain rfl:=oi g;exact Yd 6 [rz] [false] (lI [] [100000]) (lR o)
def ZbI(g:List Int)(h i b:Int)(d:List Zaa)(e f:Int):Option (List Int):=Zbg h i b ((b-(0:Int)).toNat+2) (0:Int) g
theorem ZdQ(g:List Int)(o p h:Int)(b:List Zaa)(e f:Int)(r:List Int)(t:ZbI g o p h b e f=some r):Yp 406 [(lL 100000 3 1 lP (0:Int) g)] [.one (.osl 100000 g.length),Yj o,Yj p,Yj h,.one (lN 322 0 3 [] [lO [cL 10 Zaa.c Zaa.d b],lO [.lit (.int .i64 e)],lO [.lit (.int .u64 f)]])] [(lL 100000 3 1 lP (0:Int) r)] (.tup []):=by
 refine Yv Tryz.func406 fun S0 w0=>?_;unfold ZbI at t;exact Ye 3 [rz] [] (lI [0,1,2,3,10] [100000]) .n (ZiX S0 w0 o p h ((h-(0:Int)).toNat+2) (0:Int) g r t)
def Zbx(i:Int)(e:List Zaa)(f g:Int):Nat->Int->Int->(List Int)->Option (List Int)|0,_,_,_=>none|fu+1,b,h,d=>bif(b != h)then bif(decide (b>h))then(ZbI d (ZaJ i b) i h e f g).bind fun j=>Zbx i e f g fu (ZaJ b h) h j else(ZbI d (ZaJ i b) (ZaJ (Zan i h) b) b e f g).bind fun n=>Zbx i e f g fu b (ZaJ h b) n else(ZbI d (ZaJ i b) i b e f g).bind fun o=>some o
theorem ZjM(A:Int)(h:List Zaa)(o p:Int):∀(v:Nat)(f g:Int)(b r:List Int),Zbx A h o p v f g b=some r->Yr 58 S0 w0 Tryz.f398 [(lL 100000 3 1 lP (0:Int) r)] (.tup []) [1,1,0,0] ⟨[(0,.one (.osl 100000 b.length)),(2,(Yj A)),(4,.one (lN 322 0 3 [] [lO [cL 10 Zaa.c Zaa.d h],lO [.lit (.int .i64 o)],lO [.lit (.int .u64 p)]])),(10,(Yj f)),(11,(Yj g))],[(lL 100000 3 1 lP (0:Int) b)]⟩:=by
 intro v;induction v with
 |zero=>
  intro f g b r e;simp[Zbx]at e
 |succ v B=>
  intro f g b r e;unfold Zbx at e;obtain⟨y,e⟩|⟨y,e⟩:=Zae e
  .obtain⟨z,e⟩|⟨z,e⟩:=Zae e
   .obtain⟨t,E,e⟩:=Zad e;exact Ye 15 [rz,rz,rH [] [(7,⟨[(100000,100000)],[],[(lL 100000 3 1 lP (0:Int) t)],.tup []⟩)],rz] [true,true] ⟨[],[],[],[(100000,t.length)],[],[0,2,4,10,11],[100000],[]⟩ (lU y z (ZdQ _ _ _ _ _ _ _ _ E) (mo t.length)) (B (ZaJ f g) g t r e)
   .obtain⟨u,F,e⟩:=Zad e;exact Ye 15 [rz,rz,rH [] [(11,⟨[(100000,100000)],[],[(lL 100000 3 1 lP (0:Int) u)],.tup []⟩)],rz] [true,false] ⟨[],[],[],[(100000,u.length)],[],[0,2,4,10,11],[100000],[]⟩ (lU y z (ZdQ _ _ _ _ _ _ _ _ F) (mo u.length)) (B f (ZaJ g f) u r e)
  .obtain⟨D,G,e⟩:=Zad e;obtain rfl:=oi e;exact Yd 7 [rz,rH [] [(7,⟨[(100000,100000)],[],[(lL 100000 3 1 lP (0:Int) D)],.tup []⟩)]] [false] (lI [] [100000]) (lS y (ZdQ _ _ _ _ _ _ _ _ G))
def Zcp(g:List Int)(h f i:Int)(b:List Zaa)(d e:Int):Option (List Int):=Zbx f b d e 1000000 (ZaJ f h) (ZaJ i f) g
theorem Zkk(g:List Int)(o h p:Int)(b:List Zaa)(e f:Int)(r:List Int)(t:Zcp g o h p b e f=some r):Yp 398 [(lL 100000 3 1 lP (0:Int) g)] [.one (.osl 100000 g.length),Yj o,Yj h,Yj p,.one (lN 322 0 3 [] [lO [cL 10 Zaa.c Zaa.d b],lO [.lit (.int .i64 e)],lO [.lit (.int .u64 f)]])] [(lL 100000 3 1 lP (0:Int) r)] (.tup []):=by
 refine Yv Tryz.func398 fun S0 w0=>?_;unfold Zcp at t;exact Ye 6 [rz,rz] [] (lI [0,2,4,10,11] [100000]) .n (ZjM S0 w0 h b e f 1000000 (ZaJ h o) (ZaJ p h) g r t)
def Zbl(j:Int)(e:List Zaa)(f g h i:Int)(au:Int->Int->(List Int)->Option (List Int)):Nat->Int->(List Int)->Option (List Int)|0,_,_=>none|fu+1,d,b=>bif(decide (d<(ZaJ h (1:Int))))then need (0<=(Zan d 1)/\(Zan d 1)<(b.length:Int))<|need (0<=d/\d<(b.length:Int))<|Zbl j e f g h i au fu (Zan d 1) ((b.set d.toNat (b.getD ((Zan d 1).toNat) (0:Int))).set ((Zan d 1).toNat) (b.getD d.toNat (0:Int)))else some b
theorem Zjq(A:Int)(g:List Zaa)(h o p y:Int)(au:Int->Int->(List Int)->Option (List Int))(bD:∀(eT eU:Int)(al r:List Int),au eT eU al=some r->Yr 220 S0 w0 Tryz.f376 [(lL 100000 3 1 lP (0:Int) r)] (.tup []) [0,1,0,1,1,0,0] ⟨[(0,.one (.osl 100000 al.length)),(1,(Yj A)),(4,.one (lN 322 0 3 [] [lO [cL 10 Zaa.c Zaa.d g],lO [.lit (.int .i64 h)],lO [.lit (.int .u64 o)]])),(10,(Yj eT)),(11,(Yj eU))],[(lL 100000 3 1 lP (0:Int) al)]⟩):∀(t:Nat)(e:Int)(b r:List Int),Zbl A g h o p y au t e b=some r->Yr 220 S0 w0 Tryz.f376 [(lL 100000 3 1 lP (0:Int) r)] (.tup []) [0,1,0,1,1,1,0,1,0] ⟨[(0,.one (.osl 100000 b.length)),(10,(Yj p)),(13,(Yj e))],[(lL 100000 3 1 lP (0:Int) b)]⟩:=by
 intro t;induction t with
 |zero=>
  intro e b r f;simp[Zbl]at f
 |succ t B=>
  intro e b r f;unfold Zbl at f;obtain⟨z,f⟩|⟨z,f⟩:=Zae f
  .obtain⟨u,v,f⟩:=Ys f;exact Ye 12 [rz,rA [(15,.c (b.set e.toNat (b.getD ((Zan e 1).toNat) (0:Int))).length (Zal lP (0:Int) (b.set e.toNat (b.getD ((Zan e 1).toNat) (0:Int))))),(17,.c ((b.set e.toNat (b.getD ((Zan e 1).toNat) (0:Int))).set ((Zan e 1).toNat) (b.getD e.toNat (0:Int))).length (Zal lP (0:Int) ((b.set e.toNat (b.getD ((Zan e 1).toNat) (0:Int))).set ((Zan e 1).toNat) (b.getD e.toNat (0:Int)))))],rz] [true] ⟨[],[],[],[(100000,(((b.set e.toNat (b.getD ((Zan e 1).toNat) (0:Int))).set ((Zan e 1).toNat) (b.getD e.toNat (0:Int))).length))],[],[0,10,13],[100000],[]⟩ (.c z (.c u (.c (ltOf u) (.c v (l5 (ltOf v) v (show (b.set e.toNat (b.getD ((Zan e 1).toNat) (0:Int))).length=b.length from List.length_set) (ltOf v) (show ExtU 1 b.length (Zal lP (0:Int) b) e.toNat 0 (lP (b.getD ((Zan e 1).toNat) (0:Int))) (Zal lP (0:Int) (b.set e.toNat (b.getD ((Zan e 1).toNat) (0:Int))))from(Zlq _ _ _ rfl)) u (show ((b.set e.toNat (b.getD ((Zan e 1).toNat) (0:Int))).set ((Zan e 1).toNat) (b.getD e.toNat (0:Int))).length=(b.set e.toNat (b.getD ((Zan e 1).toNat) (0:Int))).length from List.length_set) (show (Zan e 1).toNat<(b.set e.toNat (b.getD ((Zan e 1).toNat) (0:Int))).length from(by have:=ltOf u;simp at this ⊢;omega)) (show ExtU 1 ((b.set e.toNat (b.getD ((Zan e 1).toNat) (0:Int))).length) (Zal lP (0:Int) (b.set e.toNat (b.getD ((Zan e 1).toNat) (0:Int)))) ((Zan e 1).toNat) 0 (lP (b.getD e.toNat (0:Int))) (Zal lP (0:Int) ((b.set e.toNat (b.getD ((Zan e 1).toNat) (0:Int))).set ((Zan e 1).toNat) (b.getD e.toNat (0:Int))))from(Zlq _ _ _ rfl)) (mo (((b.set e.toNat (b.getD ((Zan e 1).toNat) (0:Int))).set ((Zan e 1).toNat) (b.getD e.toNat (0:Int))).length))))))) (B (Zan e 1) ((b.set e.toNat (b.getD ((Zan e 1).toNat) (0:Int))).set ((Zan e 1).toNat) (b.getD e.toNat (0:Int))) r f)
  .obtain rfl:=oi f;exact Yd 6 [rz] [false] (lI [] [100000]) (lR z)
def ZaH(i:Int)(d:List Zaa)(e f:Int):Nat->Int->Int->(List Int)->Option (List Int)|0,_,_,_=>none|fu+1,g,h,b=>bif(decide (g<h))then need (0<=(IntKind.wrap .i64 (Int.fdiv (IntKind.wrap .u64 (Zan g h)) (2 ^ (min (1:Int).toNat (IntKind.bits .u64)))))/\(IntKind.wrap .i64 (Int.fdiv (IntKind.wrap .u64 (Zan g h)) (2 ^ (min (1:Int).toNat (IntKind.bits .u64)))))<(b.length:Int))<|need (0<=i/\i<(b.length:Int))<|(Zgu (b.getD ((IntKind.wrap .i64 (Int.fdiv (IntKind.wrap .u64 (Zan g h)) (2 ^ (min (1:Int).toNat (IntKind.bits .u64))))).toNat) (0:Int)) (b.getD i.toNat (0:Int)) d e f).bind fun j=>bif(decide (j<(0:Int)))then ZaH i d e f fu (Zan (IntKind.wrap .i64 (Int.fdiv (IntKind.wrap .u64 (Zan g h)) (2 ^ (min (1:Int).toNat (IntKind.bits .u64))))) (1:Int)) h b else ZaH i d e f fu g (IntKind.wrap .i64 (Int.fdiv (IntKind.wrap .u64 (Zan g h)) (2 ^ (min (1:Int).toNat (IntKind.bits .u64))))) b else Zbl i d e f g h (ZaH i d e f fu) 1000000 i b
theorem Zjr(t:Int)(h:List Zaa)(o p:Int):∀(u:Nat)(e f:Int)(b r:List Int),ZaH t h o p u e f b=some r->Yr 220 S0 w0 Tryz.f376 [(lL 100000 3 1 lP (0:Int) r)] (.tup []) [0,1,0,1,1,0,0] ⟨[(0,.one (.osl 100000 b.length)),(1,(Yj t)),(4,.one (lN 322 0 3 [] [lO [cL 10 Zaa.c Zaa.d h],lO [.lit (.int .i64 o)],lO [.lit (.int .u64 p)]])),(10,(Yj e)),(11,(Yj f))],[(lL 100000 3 1 lP (0:Int) b)]⟩:=by
 intro u;induction u with
 |zero=>
  intro e f b r g;simp[ZaH]at g
 |succ u v=>
  intro e f b r g;unfold ZaH at g;obtain⟨y,g⟩|⟨y,g⟩:=Zae g
  .obtain⟨A,B,g⟩:=Ys g;obtain⟨D,E,g⟩:=Zad g;have O1:=(lX y (mr (1:Int) rfl) A (ltOf A) B (ltOf B) (Zju _ _ _ _ _ _ E));obtain⟨z,g⟩|⟨z,g⟩:=Zae g
   .exact Ye 15 [rz,rz,rA [(9,aI D)],rz] [true,true] (lI [0,1,4,10,11] [100000]) (l8 O1 z) (v (Zan (IntKind.wrap .i64 (Int.fdiv (IntKind.wrap .u64 (Zan e f)) (2 ^ (min (1:Int).toNat (IntKind.bits .u64))))) (1:Int)) f b r g)
   .exact Ye 15 [rz,rz,rA [(9,aI D)],rz] [true,false] (lI [0,1,4,10,11] [100000]) (l8 O1 z) (v e (IntKind.wrap .i64 (Int.fdiv (IntKind.wrap .u64 (Zan e f)) (2 ^ (min (1:Int).toNat (IntKind.bits .u64))))) b r g)
  .exact Ye 10 [rz,rz] [false] (lI [0,10,13] [100000]) (lR y) (Zjq S0 w0 t h o p e f (ZaH t h o p u) v 1000000 t b r g)
def Zbk(j:Int)(e:List Zaa)(f g h i:Int)(aw:Int->Int->(List Int)->Option (List Int)):Nat->Int->(List Int)->Option (List Int)|0,_,_=>none|fu+1,d,b=>bif(decide (d>h))then need (0<=(ZaJ d (1:Int))/\(ZaJ d (1:Int))<(b.length:Int))<|need (0<=d/\d<(b.length:Int))<|Zbk j e f g h i aw fu (ZaJ d (1:Int)) ((b.set d.toNat (b.getD ((ZaJ d (1:Int)).toNat) (0:Int))).set ((ZaJ d (1:Int)).toNat) (b.getD d.toNat (0:Int)))else some b
theorem Zjo(A:Int)(h:List Zaa)(o p t y:Int)(aw:Int->Int->(List Int)->Option (List Int))(bE:∀(jv eV:Int)(al r:List Int),aw jv eV al=some r->Yr 220 S0 w0 Tryz.f376 [(lL 100000 3 1 lP (0:Int) r)] (.tup []) [1,0,1,0,1,1,0,0] ⟨[(0,.one (.osl 100000 al.length)),(2,(Yj A)),(4,.one (lN 322 0 3 [] [lO [cL 10 Zaa.c Zaa.d h],lO [.lit (.int .i64 o)],lO [.lit (.int .u64 p)]])),(14,(Yj jv)),(15,(Yj eV))],[(lL 100000 3 1 lP (0:Int) al)]⟩):∀(u:Nat)(e:Int)(b r:List Int),Zbk A h o p t y aw u e b=some r->Yr 220 S0 w0 Tryz.f376 [(lL 100000 3 1 lP (0:Int) r)] (.tup []) [1,0,1,0,1,1,1,0,1,0] ⟨[(0,.one (.osl 100000 b.length)),(14,(Yj t)),(17,(Yj e))],[(lL 100000 3 1 lP (0:Int) b)]⟩:=by
 intro u;induction u with
 |zero=>
  intro e b r f;simp[Zbk]at f
 |succ u B=>
  intro e b r f;unfold Zbk at f;obtain⟨z,f⟩|⟨z,f⟩:=Zae f
  .obtain⟨v,g,f⟩:=Ys f;exact Ye 12 [rz,rA [(15,.c (b.set e.toNat (b.getD ((ZaJ e (1:Int)).toNat) (0:Int))).length (Zal lP (0:Int) (b.set e.toNat (b.getD ((ZaJ e (1:Int)).toNat) (0:Int))))),(17,.c ((b.set e.toNat (b.getD ((ZaJ e (1:Int)).toNat) (0:Int))).set ((ZaJ e (1:Int)).toNat) (b.getD e.toNat (0:Int))).length (Zal lP (0:Int) ((b.set e.toNat (b.getD ((ZaJ e (1:Int)).toNat) (0:Int))).set ((ZaJ e (1:Int)).toNat) (b.getD e.toNat (0:Int)))))],rz] [true] ⟨[],[],[],[(100000,(((b.set e.toNat (b.getD ((ZaJ e (1:Int)).toNat) (0:Int))).set ((ZaJ e (1:Int)).toNat) (b.getD e.toNat (0:Int))).length))],[],[0,14,17],[100000],[]⟩ (.c z (.c v (.c (ltOf v) (.c g (l5 (ltOf g) g (show (b.set e.toNat (b.getD ((ZaJ e (1:Int)).toNat) (0:Int))).length=b.length from List.length_set) (ltOf g) (show ExtU 1 b.length (Zal lP (0:Int) b) e.toNat 0 (lP (b.getD ((ZaJ e (1:Int)).toNat) (0:Int))) (Zal lP (0:Int) (b.set e.toNat (b.getD ((ZaJ e (1:Int)).toNat) (0:Int))))from(Zlq _ _ _ rfl)) v (show ((b.set e.toNat (b.getD ((ZaJ e (1:Int)).toNat) (0:Int))).set ((ZaJ e (1:Int)).toNat) (b.getD e.toNat (0:Int))).length=(b.set e.toNat (b.getD ((ZaJ e (1:Int)).toNat) (0:Int))).length from List.length_set) (show (ZaJ e (1:Int)).toNat<(b.set e.toNat (b.getD ((ZaJ e (1:Int)).toNat) (0:Int))).length from(by have:=ltOf v;simp at this ⊢;omega)) (show ExtU 1 ((b.set e.toNat (b.getD ((ZaJ e (1:Int)).toNat) (0:Int))).length) (Zal lP (0:Int) (b.set e.toNat (b.getD ((ZaJ e (1:Int)).toNat) (0:Int)))) ((ZaJ e (1:Int)).toNat) 0 (lP (b.getD e.toNat (0:Int))) (Zal lP (0:Int) ((b.set e.toNat (b.getD ((ZaJ e (1:Int)).toNat) (0:Int))).set ((ZaJ e (1:Int)).toNat) (b.getD e.toNat (0:Int))))from(Zlq _ _ _ rfl)) (mo (((b.set e.toNat (b.getD ((ZaJ e (1:Int)).toNat) (0:Int))).set ((ZaJ e (1:Int)).toNat) (b.getD e.toNat (0:Int))).length))))))) (B (ZaJ e (1:Int)) ((b.set e.toNat (b.getD ((ZaJ e (1:Int)).toNat) (0:Int))).set ((ZaJ e (1:Int)).toNat) (b.getD e.toNat (0:Int))) r f)
  .obtain rfl:=oi f;exact Yd 6 [rz] [false] (lI [] [100000]) (lR z)
def ZaG(i:Int)(e:List Zaa)(f g:Int):Nat->Int->Int->(List Int)->Option (List Int)|0,_,_,_=>none|fu+1,d,h,b=>bif(decide (d<h))then need (0<=i/\i<(b.length:Int))<|need (0<=(IntKind.wrap .i64 (Int.fdiv (IntKind.wrap .u64 (Zan d h)) (2 ^ (min (1:Int).toNat (IntKind.bits .u64)))))/\(IntKind.wrap .i64 (Int.fdiv (IntKind.wrap .u64 (Zan d h)) (2 ^ (min (1:Int).toNat (IntKind.bits .u64)))))<(b.length:Int))<|(Zgu (b.getD i.toNat (0:Int)) (b.getD ((IntKind.wrap .i64 (Int.fdiv (IntKind.wrap .u64 (Zan d h)) (2 ^ (min (1:Int).toNat (IntKind.bits .u64))))).toNat) (0:Int)) e f g).bind fun j=>bif(!(decide (j<(0:Int))))then ZaG i e f g fu (Zan (IntKind.wrap .i64 (Int.fdiv (IntKind.wrap .u64 (Zan d h)) (2 ^ (min (1:Int).toNat (IntKind.bits .u64))))) (1:Int)) h b else ZaG i e f g fu d (IntKind.wrap .i64 (Int.fdiv (IntKind.wrap .u64 (Zan d h)) (2 ^ (min (1:Int).toNat (IntKind.bits .u64))))) b else Zbk i e f g d h (ZaG i e f g fu) ((i-d).toNat+2) i b
theorem Zjp(t:Int)(h:List Zaa)(o p:Int):∀(u:Nat)(e f:Int)(b r:List Int),ZaG t h o p u e f b=some r->Yr 220 S0 w0 Tryz.f376 [(lL 100000 3 1 lP (0:Int) r)] (.tup []) [1,0,1,0,1,1,0,0] ⟨[(0,.one (.osl 100000 b.length)),(2,(Yj t)),(4,.one (lN 322 0 3 [] [lO [cL 10 Zaa.c Zaa.d h],lO [.lit (.int .i64 o)],lO [.lit (.int .u64 p)]])),(14,(Yj e)),(15,(Yj f))],[(lL 100000 3 1 lP (0:Int) b)]⟩:=by
 intro u;induction u with
 |zero=>
  intro e f b r g;simp[ZaG]at g
 |succ u v=>
  intro e f b r g;unfold ZaG at g;obtain⟨y,g⟩|⟨y,g⟩:=Zae g
  .obtain⟨A,B,g⟩:=Ys g;obtain⟨D,E,g⟩:=Zad g;have O2:=(lX y (mr (1:Int) rfl) A (ltOf A) B (ltOf B) (Zju _ _ _ _ _ _ E));obtain⟨z,g⟩|⟨z,g⟩:=Zae g
   .exact Ye 15 [rz,rz,rA [(9,aI D)],rz] [true,true] (lI [0,2,4,14,15] [100000]) (l8 O2 z) (v (Zan (IntKind.wrap .i64 (Int.fdiv (IntKind.wrap .u64 (Zan e f)) (2 ^ (min (1:Int).toNat (IntKind.bits .u64))))) (1:Int)) f b r g)
   .exact Ye 15 [rz,rz,rA [(9,aI D)],rz] [true,false] (lI [0,2,4,14,15] [100000]) (l8 O2 z) (v e (IntKind.wrap .i64 (Int.fdiv (IntKind.wrap .u64 (Zan e f)) (2 ^ (min (1:Int).toNat (IntKind.bits .u64))))) b r g)
  .exact Ye 10 [rz,rz] [false] (lI [0,14,17] [100000]) (lR y) (Zjo S0 w0 t h o p e f (ZaG t h o p u) v ((t-e).toNat+2) t b r g)
def Zbj(t u i:Int)(e:List Zaa)(f g:Int)(gr:((List Int)->Int->Int->Int->(List Zaa)->Int->Int->Option (List Int)))(h j n o p d:Int)(ac:Int->Int->Int->(List Int)->Option (List Int))(b:List Int):Option (List Int):=bif(decide (h<d))then bif(decide (d<i))then(gr b h d i e f g).bind fun r=>some r else some b else some b
theorem ZdK(v y u:Int)(e:List Zaa)(f g:Int)(gr:((List Int)->Int->Int->Int->(List Zaa)->Int->Int->Option (List Int)))(p z D E F A:Int)(bi:∀(B:List Int)(v y u:Int)(e:List Zaa)(f g:Int)(r:List Int),gr B v y u e f g=some r->Yp 376 [(lL 100000 3 1 lP (0:Int) B)] [.one (.osl 100000 B.length),Yj v,Yj y,Yj u,.one (lN 322 0 3 [] [lO [cL 10 Zaa.c Zaa.d e],lO [.lit (.int .i64 f)],lO [.lit (.int .u64 g)]])] [(lL 100000 3 1 lP (0:Int) r)] (.tup []))(ac:Int->Int->Int->(List Int)->Option (List Int))(ax:∀(eW eX eY:Int)(al r:List Int),ac eW eX eY al=some r->Yr 220 S0 w0 Tryz.f376 [(lL 100000 3 1 lP (0:Int) r)] (.tup []) [1,1,1,1,1,1,1,0,0] ⟨[(0,.one (.osl 100000 al.length)),(1,(Yj v)),(2,(Yj y)),(3,(Yj u)),(4,.one (lN 322 0 3 [] [lO [cL 10 Zaa.c Zaa.d e],lO [.lit (.int .i64 f)],lO [.lit (.int .u64 g)]])),(18,(Yj p)),(19,(Yj z)),(20,(Yj eW)),(21,(Yj eX)),(22,(Yj eY))],[(lL 100000 3 1 lP (0:Int) al)]⟩)(b r:List Int)(h:Zbj v y u e f g gr p z D E F A ac b=some r):Yr 220 S0 w0 Tryz.f376 [(lL 100000 3 1 lP (0:Int) r)] (.tup []) [1,1,1,1,1,1,1,1,1,1,1] ⟨[(0,.one (.osl 100000 b.length)),(3,(Yj u)),(4,.one (lN 322 0 3 [] [lO [cL 10 Zaa.c Zaa.d e],lO [.lit (.int .i64 f)],lO [.lit (.int .u64 g)]])),(18,(Yj p)),(24,(Yj A))],[(lL 100000 3 1 lP (0:Int) b)]⟩:=by
 unfold Zbj at h;obtain⟨o,h⟩|⟨o,h⟩:=Zae h
 .obtain⟨t,h⟩|⟨t,h⟩:=Zae h
  .obtain⟨H,G,h⟩:=Zad h;obtain rfl:=oi h;exact Yd 4 [rB [(3,true)],rH [] [(5,⟨[(100000,100000)],[],[(lL 100000 3 1 lP (0:Int) H)],.tup []⟩)]] [true] (lI [] [100000]) (lT o t (bi _ _ _ _ _ _ _ _ G))
  .obtain rfl:=oi h;exact Yd 4 [rB [(3,true)]] [false] (lI [] [100000]) (lS o t)
 .obtain rfl:=oi h;exact Yd 4 [rB [(3,false)]] [false] (lI [] [100000]) (lS o (mo false))
def ZaU(p r t:Int)(d:List Zaa)(e f:Int)(gr:((List Int)->Int->Int->Int->(List Zaa)->Int->Int->Option (List Int)))(h i g j n:Int)(ac:Int->Int->Int->(List Int)->Option (List Int))(o:Int)(b:List Int):Option (List Int):=bif(decide (p<g))then bif(decide (g<h))then(gr b p g h d e f).bind fun u=>Zbj p r t d e f gr h i g j n o ac u else Zbj p r t d e f gr h i g j n o ac b else Zbj p r t d e f gr h i g j n o ac b
theorem ZdL(v D y:Int)(e:List Zaa)(f g:Int)(gr:((List Int)->Int->Int->Int->(List Zaa)->Int->Int->Option (List Int)))(h p t z A:Int)(bi:∀(G:List Int)(v D y:Int)(e:List Zaa)(f g:Int)(r:List Int),gr G v D y e f g=some r->Yp 376 [(lL 100000 3 1 lP (0:Int) G)] [.one (.osl 100000 G.length),Yj v,Yj D,Yj y,.one (lN 322 0 3 [] [lO [cL 10 Zaa.c Zaa.d e],lO [.lit (.int .i64 f)],lO [.lit (.int .u64 g)]])] [(lL 100000 3 1 lP (0:Int) r)] (.tup []))(ac:Int->Int->Int->(List Int)->Option (List Int))(ax:∀(eW eX eY:Int)(al r:List Int),ac eW eX eY al=some r->Yr 220 S0 w0 Tryz.f376 [(lL 100000 3 1 lP (0:Int) r)] (.tup []) [1,1,1,1,1,1,1,0,0] ⟨[(0,.one (.osl 100000 al.length)),(1,(Yj v)),(2,(Yj D)),(3,(Yj y)),(4,.one (lN 322 0 3 [] [lO [cL 10 Zaa.c Zaa.d e],lO [.lit (.int .i64 f)],lO [.lit (.int .u64 g)]])),(18,(Yj h)),(19,(Yj p)),(20,(Yj eW)),(21,(Yj eX)),(22,(Yj eY))],[(lL 100000 3 1 lP (0:Int) al)]⟩)(u:Int)(b r:List Int)(o:ZaU v D y e f g gr h p t z A ac u b=some r):Yr 220 S0 w0 Tryz.f376 [(lL 100000 3 1 lP (0:Int) r)] (.tup []) [1,1,1,1,1,1,1,1,1,1] ⟨[(0,.one (.osl 100000 b.length)),(1,(Yj v)),(3,(Yj y)),(4,.one (lN 322 0 3 [] [lO [cL 10 Zaa.c Zaa.d e],lO [.lit (.int .i64 f)],lO [.lit (.int .u64 g)]])),(18,(Yj h)),(20,(Yj t)),(24,(Yj u))],[(lL 100000 3 1 lP (0:Int) b)]⟩:=by
 unfold ZaU at o;obtain⟨B,o⟩|⟨B,o⟩:=Zae o
 .obtain⟨E,o⟩|⟨E,o⟩:=Zae o
  .obtain⟨F,H,o⟩:=Zad o;exact Ye 5 [rB [(3,true)],rH [] [(5,⟨[(100000,100000)],[],[(lL 100000 3 1 lP (0:Int) F)],.tup []⟩)]] [true] ⟨[],[],[],[(100000,F.length)],[],[0,3,4,18,24],[100000],[]⟩ (lU B E (bi _ _ _ _ _ _ _ _ H) (mo F.length)) (ZdK S0 w0 v D y e f g gr h p t z A u bi ac ax F r o)
  .exact Ye 5 [rB [(3,true)]] [false] (lI [0,3,4,18,24] [100000]) (lS B E) (ZdK S0 w0 v D y e f g gr h p t z A u bi ac ax b r o)
 .exact Ye 5 [rB [(3,false)]] [false] (lI [0,3,4,18,24] [100000]) (lS B (mo false)) (ZdK S0 w0 v D y e f g gr h p t z A u bi ac ax b r o)
def ZaC(p o r:Int)(e:List Zaa)(f g:Int)(gr:((List Int)->Int->Int->Int->(List Zaa)->Int->Int->Option (List Int)))(j h:Int):Nat->Int->Int->Int->(List Int)->Option (List Int)|0,_,_,_,_=>none|fu+1,d,i,n,b=>bif(decide (d<i))then need (0<=(ZaJ n (IntKind.wrap .i64 (Int.fdiv (IntKind.wrap .u64 (Zan d i)) (2 ^ (min (1:Int).toNat (IntKind.bits .u64))))))/\(ZaJ n (IntKind.wrap .i64 (Int.fdiv (IntKind.wrap .u64 (Zan d i)) (2 ^ (min (1:Int).toNat (IntKind.bits .u64))))))<(b.length:Int))<|need (0<=(IntKind.wrap .i64 (Int.fdiv (IntKind.wrap .u64 (Zan d i)) (2 ^ (min (1:Int).toNat (IntKind.bits .u64)))))/\(IntKind.wrap .i64 (Int.fdiv (IntKind.wrap .u64 (Zan d i)) (2 ^ (min (1:Int).toNat (IntKind.bits .u64)))))<(b.length:Int))<|(Zgu (b.getD ((ZaJ n (IntKind.wrap .i64 (Int.fdiv (IntKind.wrap .u64 (Zan d i)) (2 ^ (min (1:Int).toNat (IntKind.bits .u64)))))).toNat) (0:Int)) (b.getD ((IntKind.wrap .i64 (Int.fdiv (IntKind.wrap .u64 (Zan d i)) (2 ^ (min (1:Int).toNat (IntKind.bits .u64))))).toNat) (0:Int)) e f g).bind fun t=>bif(!(decide (t<(0:Int))))then ZaC p o r e f g gr j h fu (Zan (IntKind.wrap .i64 (Int.fdiv (IntKind.wrap .u64 (Zan d i)) (2 ^ (min (1:Int).toNat (IntKind.bits .u64))))) (1:Int)) i n b else ZaC p o r e f g gr j h fu d (IntKind.wrap .i64 (Int.fdiv (IntKind.wrap .u64 (Zan d i)) (2 ^ (min (1:Int).toNat (IntKind.bits .u64))))) n b else bif(decide (d<o))then bif(decide (o<(ZaJ h d)))then(Zcp b d o (ZaJ h d) e f g).bind fun u=>ZaU p o r e f g gr j h d i n (ZaC p o r e f g gr j h fu) (ZaJ h d) u else ZaU p o r e f g gr j h d i n (ZaC p o r e f g gr j h fu) (ZaJ h d) b else ZaU p o r e f g gr j h d i n (ZaC p o r e f g gr j h fu) (ZaJ h d) b
theorem Zjn(y z A:Int)(e:List Zaa)(f g:Int)(gr:((List Int)->Int->Int->Int->(List Zaa)->Int->Int->Option (List Int)))(v t:Int)(bi:∀(H:List Int)(y z A:Int)(e:List Zaa)(f g:Int)(r:List Int),gr H y z A e f g=some r->Yp 376 [(lL 100000 3 1 lP (0:Int) H)] [.one (.osl 100000 H.length),Yj y,Yj z,Yj A,.one (lN 322 0 3 [] [lO [cL 10 Zaa.c Zaa.d e],lO [.lit (.int .i64 f)],lO [.lit (.int .u64 g)]])] [(lL 100000 3 1 lP (0:Int) r)] (.tup [])):∀(B:Nat)(h p u:Int)(b r:List Int),ZaC y z A e f g gr v t B h p u b=some r->Yr 220 S0 w0 Tryz.f376 [(lL 100000 3 1 lP (0:Int) r)] (.tup []) [1,1,1,1,1,1,1,0,0] ⟨[(0,.one (.osl 100000 b.length)),(1,(Yj y)),(2,(Yj z)),(3,(Yj A)),(4,.one (lN 322 0 3 [] [lO [cL 10 Zaa.c Zaa.d e],lO [.lit (.int .i64 f)],lO [.lit (.int .u64 g)]])),(18,(Yj v)),(19,(Yj t)),(20,(Yj h)),(21,(Yj p)),(22,(Yj u))],[(lL 100000 3 1 lP (0:Int) b)]⟩:=by
 intro B;induction B with
 |zero=>
  intro h p u b r o;simp[ZaC]at o
 |succ B F=>
  intro h p u b r o;unfold ZaC at o;obtain⟨G,o⟩|⟨G,o⟩:=Zae o
  .obtain⟨M,O,o⟩:=Ys o;obtain⟨R,U,o⟩:=Zad o;have O3:=(lX G (mr (1:Int) rfl) M (ltOf M) O (ltOf O) (Zju _ _ _ _ _ _ U));obtain⟨J,o⟩|⟨J,o⟩:=Zae o
   .exact Ye 15 [rz,rz,rA [(11,aI R)],rz] [true,true] (lI [0,1,2,3,4,18,19,20,21,22] [100000]) (l8 O3 J) (F (Zan (IntKind.wrap .i64 (Int.fdiv (IntKind.wrap .u64 (Zan h p)) (2 ^ (min (1:Int).toNat (IntKind.bits .u64))))) (1:Int)) p u b r o)
   .exact Ye 15 [rz,rz,rA [(11,aI R)],rz] [true,false] (lI [0,1,2,3,4,18,19,20,21,22] [100000]) (l8 O3 J) (F h (IntKind.wrap .i64 (Int.fdiv (IntKind.wrap .u64 (Zan h p)) (2 ^ (min (1:Int).toNat (IntKind.bits .u64))))) u b r o)
  .obtain⟨I,o⟩|⟨I,o⟩:=Zae o
   .obtain⟨D,o⟩|⟨D,o⟩:=Zae o
    .obtain⟨E,L,o⟩:=Zad o;exact Ye 13 [rz,rz,rB [(3,true)],rH [] [(5,⟨[(100000,100000)],[],[(lL 100000 3 1 lP (0:Int) E)],.tup []⟩)]] [false,true] ⟨[],[],[],[(100000,E.length)],[],[0,1,3,4,18,20,24],[100000],[]⟩ (lV G I D (Zkk _ _ _ _ _ _ _ _ L) (mo E.length)) (ZdL S0 w0 y z A e f g gr v t h p u bi (ZaC y z A e f g gr v t B) F (ZaJ t h) E r o)
    .exact Ye 13 [rz,rz,rB [(3,true)]] [false,false] (lI [0,1,3,4,18,20,24] [100000]) (lT G I D) (ZdL S0 w0 y z A e f g gr v t h p u bi (ZaC y z A e f g gr v t B) F (ZaJ t h) b r o)
   .exact Ye 13 [rz,rz,rB [(3,false)]] [false,false] (lI [0,1,3,4,18,20,24] [100000]) (lT G I (mo false)) (ZdL S0 w0 y z A e f g gr v t h p u bi (ZaC y z A e f g gr v t B) F (ZaJ t h) b r o)
def ZbS(n o p:Int)(d:List Zaa)(e f:Int)(gr:((List Int)->Int->Int->Int->(List Zaa)->Int->Int->Option (List Int)))(j g h i:Int)(b:List Int):Option (List Int):=ZaC n o p d e f gr j g ((i-h).toNat+2) h i (ZaJ g (1:Int)) b
theorem ZfV(u v y:Int)(e:List Zaa)(f g:Int)(gr:((List Int)->Int->Int->Int->(List Zaa)->Int->Int->Option (List Int)))(bi:∀(z:List Int)(u v y:Int)(e:List Zaa)(f g:Int)(r:List Int),gr z u v y e f g=some r->Yp 376 [(lL 100000 3 1 lP (0:Int) z)] [.one (.osl 100000 z.length),Yj u,Yj v,Yj y,.one (lN 322 0 3 [] [lO [cL 10 Zaa.c Zaa.d e],lO [.lit (.int .i64 f)],lO [.lit (.int .u64 g)]])] [(lL 100000 3 1 lP (0:Int) r)] (.tup []))(t h o p:Int)(b r:List Int)(A:ZbS u v y e f g gr t h o p b=some r):Yr 220 S0 w0 Tryz.f376 [(lL 100000 3 1 lP (0:Int) r)] (.tup []) [1,1,1,1,1,1] ⟨[(0,.one (.osl 100000 b.length)),(1,(Yj u)),(2,(Yj v)),(3,(Yj y)),(4,.one (lN 322 0 3 [] [lO [cL 10 Zaa.c Zaa.d e],lO [.lit (.int .i64 f)],lO [.lit (.int .u64 g)]])),(18,(Yj t)),(19,(Yj h)),(20,(Yj o)),(21,(Yj p))],[(lL 100000 3 1 lP (0:Int) b)]⟩:=by
 unfold ZbS at A;exact Ye 4 [rz] [] (lI [0,1,2,3,4,18,19,20,21,22] [100000]) .n (Zjn S0 w0 u v y e f g gr t h bi ((p-o).toNat+2) o p (ZaJ h (1:Int)) b r A)
def Zcu(gr:(List Int)->Int->Int->Int->(List Zaa)->Int->Int->Option (List Int))(i:List Int)(b d h:Int)(e:List Zaa)(f g:Int):Option (List Int):=bif((ZaJ d b)==(1:Int))then ZaH b e f g ((h-d).toNat+2) d h i else bif((ZaJ h d)==(1:Int))then ZaG d e f g ((d-b).toNat+2) b d i else bif(decide (d>(IntKind.wrap .i64 (Int.fdiv (IntKind.wrap .u64 (Zan b h)) (2 ^ (min (1:Int).toNat (IntKind.bits .u64)))))))then ZbS b d h e f g gr (IntKind.wrap .i64 (Int.fdiv (IntKind.wrap .u64 (Zan b h)) (2 ^ (min (1:Int).toNat (IntKind.bits .u64))))) (Zan (IntKind.wrap .i64 (Int.fdiv (IntKind.wrap .u64 (Zan b h)) (2 ^ (min (1:Int).toNat (IntKind.bits .u64))))) d) (ZaJ (Zan (IntKind.wrap .i64 (Int.fdiv (IntKind.wrap .u64 (Zan b h)) (2 ^ (min (1:Int).toNat (IntKind.bits .u64))))) d) h) (IntKind.wrap .i64 (Int.fdiv (IntKind.wrap .u64 (Zan b h)) (2 ^ (min (1:Int).toNat (IntKind.bits .u64))))) i else ZbS b d h e f g gr (IntKind.wrap .i64 (Int.fdiv (IntKind.wrap .u64 (Zan b h)) (2 ^ (min (1:Int).toNat (IntKind.bits .u64))))) (Zan (IntKind.wrap .i64 (Int.fdiv (IntKind.wrap .u64 (Zan b h)) (2 ^ (min (1:Int).toNat (IntKind.bits .u64))))) d) b d i
theorem ZjC(gr:(List Int)->Int->Int->Int->(List Zaa)->Int->Int->Option (List Int))(bi:∀(t:List Int)(g h o:Int)(b:List Zaa)(e f:Int)(r:List Int),gr t g h o b e f=some r->Yp 376 [(lL 100000 3 1 lP (0:Int) t)] [.one (.osl 100000 t.length),Yj g,Yj h,Yj o,.one (lN 322 0 3 [] [lO [cL 10 Zaa.c Zaa.d b],lO [.lit (.int .i64 e)],lO [.lit (.int .u64 f)]])] [(lL 100000 3 1 lP (0:Int) r)] (.tup []))(t:List Int)(g h o:Int)(b:List Zaa)(e f:Int)(r:List Int)(p:Zcu gr t g h o b e f=some r):Yp 376 [(lL 100000 3 1 lP (0:Int) t)] [.one (.osl 100000 t.length),Yj g,Yj h,Yj o,.one (lN 322 0 3 [] [lO [cL 10 Zaa.c Zaa.d b],lO [.lit (.int .i64 e)],lO [.lit (.int .u64 f)]])] [(lL 100000 3 1 lP (0:Int) r)] (.tup []):=by
 refine Yv Tryz.func376 fun S0 w0=>?_;unfold Zcu at p;obtain⟨u,p⟩|⟨u,p⟩:=Zae p
 .exact Ye 10 [rz,rz,rz] [true] (lI [0,1,4,10,11] [100000]) (lR u) (Zjr S0 w0 g b e f ((o-h).toNat+2) h o t r p)
 .obtain⟨v,p⟩|⟨v,p⟩:=Zae p
  .exact Ye 15 [rz,rz,rz,rz] [false,true] (lI [0,2,4,14,15] [100000]) (lS u v) (Zjp S0 w0 h b e f ((h-g).toNat+2) g h t r p)
  .have O4:=(lT u v (mr (1:Int) rfl));obtain⟨y,p⟩|⟨y,p⟩:=Zae p
   .exact Ye 23 [rz,rz,rz,rz,rz,rz,rz,rz] [false,false,true] (lI [0,1,2,3,4,18,19,20,21] [100000]) (l8 O4 y) (ZfV S0 w0 g h o b e f gr bi (IntKind.wrap .i64 (Int.fdiv (IntKind.wrap .u64 (Zan g o)) (2 ^ (min (1:Int).toNat (IntKind.bits .u64))))) (Zan (IntKind.wrap .i64 (Int.fdiv (IntKind.wrap .u64 (Zan g o)) (2 ^ (min (1:Int).toNat (IntKind.bits .u64))))) h) (ZaJ (Zan (IntKind.wrap .i64 (Int.fdiv (IntKind.wrap .u64 (Zan g o)) (2 ^ (min (1:Int).toNat (IntKind.bits .u64))))) h) o) (IntKind.wrap .i64 (Int.fdiv (IntKind.wrap .u64 (Zan g o)) (2 ^ (min (1:Int).toNat (IntKind.bits .u64))))) t r p)
   .exact Ye 23 [rz,rz,rz,rz,rz,rz,rz,rz] [false,false,false] (lI [0,1,2,3,4,18,19,20,21] [100000]) (l8 O4 y) (ZfV S0 w0 g h o b e f gr bi (IntKind.wrap .i64 (Int.fdiv (IntKind.wrap .u64 (Zan g o)) (2 ^ (min (1:Int).toNat (IntKind.bits .u64))))) (Zan (IntKind.wrap .i64 (Int.fdiv (IntKind.wrap .u64 (Zan g o)) (2 ^ (min (1:Int).toNat (IntKind.bits .u64))))) h) g h t r p)
def Zbh:Nat->(List Int)->Int->Int->Int->(List Zaa)->Int->Int->Option (List Int)|0,_,_,_,_,_,_,_=>none|fu+1,f,g,h,i,b,d,e=>Zcu (Zbh fu) f g h i b d e
theorem Zgt:∀(h:Nat)(g:List Int)(n o p:Int)(b:List Zaa)(e f:Int)(r:List Int)(t:Zbh h g n o p b e f=some r),Yp 376 [(lL 100000 3 1 lP (0:Int) g)] [.one (.osl 100000 g.length),Yj n,Yj o,Yj p,.one (lN 322 0 3 [] [lO [cL 10 Zaa.c Zaa.d b],lO [.lit (.int .i64 e)],lO [.lit (.int .u64 f)]])] [(lL 100000 3 1 lP (0:Int) r)] (.tup []):=by
 intro h;induction h with
 |zero=>
  intro g n o p b e f r t;simp[Zbh]at t
 |succ h u=>
  intro g n o p b e f r t;unfold Zbh at t;exact ZjC (Zbh h) u g n o p b e f r t
def Zbe(i:Int)(d:List Zaa)(e f g:Int)(af:Int->Int->Int->(List Int)->Option (List Int))(am:Int->(List Int)->Option (List Int)):Nat->Int->Int->(List Int)->Option (List Int)|0,_,_,_=>none|fu+1,h,j,b=>bif(decide (j<=i))then(Zbh 1000 b h (Zan h g) j d e f).bind fun n=>Zbe i d e f g af am fu j (Zan j (ZiS (2:Int) g)) n else bif(decide ((Zan h g)<i))then(Zbh 1000 b h (Zan h g) i d e f).bind fun o=>am (ZiS g (2:Int)) o else am (ZiS g (2:Int)) b
theorem ZjJ(v:Int)(f:List Zaa)(g h u:Int)(af:Int->Int->Int->(List Int)->Option (List Int))(am:Int->(List Int)->Option (List Int))(aL:∀(gB gC dg:Int)(al r:List Int),af gB gC dg al=some r->Yr 63 S0 w0 Tryz.f356 [(lL 100000 3 1 lP (0:Int) r)] (.tup []) [1,1,0,0] ⟨[(0,.one (.osl 100000 al.length)),(1,(Yj v)),(2,.one (lN 322 0 3 [] [lO [cL 10 Zaa.c Zaa.d f],lO [.lit (.int .i64 g)],lO [.lit (.int .u64 h)]])),(6,(Yj gB)),(7,(Yj gC)),(8,(Yj dg))],[(lL 100000 3 1 lP (0:Int) al)]⟩)(aM:∀(gB:Int)(al r:List Int),am gB al=some r->Yr 63 S0 w0 Tryz.f356 [(lL 100000 3 1 lP (0:Int) r)] (.tup []) [1,1,1,1,0] ⟨[(0,.one (.osl 100000 al.length)),(1,(Yj v)),(2,.one (lN 322 0 3 [] [lO [cL 10 Zaa.c Zaa.d f],lO [.lit (.int .i64 g)],lO [.lit (.int .u64 h)]])),(6,(Yj gB))],[(lL 100000 3 1 lP (0:Int) al)]⟩):∀(y:Nat)(z o:Int)(b r:List Int),Zbe v f g h u af am y z o b=some r->Yr 63 S0 w0 Tryz.f356 [(lL 100000 3 1 lP (0:Int) r)] (.tup []) [1,1,1,1,0,0,1,0,1,0,0] ⟨[(0,.one (.osl 100000 b.length)),(1,(Yj v)),(2,.one (lN 322 0 3 [] [lO [cL 10 Zaa.c Zaa.d f],lO [.lit (.int .i64 g)],lO [.lit (.int .u64 h)]])),(6,(Yj u)),(7,(Yj z)),(8,(Yj o))],[(lL 100000 3 1 lP (0:Int) b)]⟩:=by
 intro y;induction y with
 |zero=>
  intro z o b r e;simp[Zbe]at e
 |succ y D=>
  intro z o b r e;unfold Zbe at e;obtain⟨A,e⟩|⟨A,e⟩:=Zae e
  .obtain⟨p,E,e⟩:=Zad e;exact Ye 14 [rz,rH [] [(7,⟨[(100000,100000)],[],[(lL 100000 3 1 lP (0:Int) p)],.tup []⟩)],rz,rz] [true] ⟨[],[],[],[(100000,p.length)],[],[0,1,2,6,7,8],[100000],[]⟩ (lT A (Zgt 1000 _ _ _ _ _ _ _ _ E) (mo p.length)) (D o (Zan o (ZiS (2:Int) u)) p r e)
  .obtain⟨B,e⟩|⟨B,e⟩:=Zae e
   .obtain⟨t,F,e⟩:=Zad e;exact Ye 16 [rz,rz,rz,rH [] [(5,⟨[(100000,100000)],[],[(lL 100000 3 1 lP (0:Int) t)],.tup []⟩)],rz] [false,true] ⟨[],[],[],[(100000,t.length)],[],[0,1,2,6],[100000],[]⟩ (lU A B (Zgt 1000 _ _ _ _ _ _ _ _ F) (mo t.length)) (aM (ZiS u (2:Int)) t r e)
   .exact Ye 16 [rz,rz,rz,rz] [false,false] (lI [0,1,2,6] [100000]) (lS A B) (aM (ZiS u (2:Int)) b r e)
def ZaQ(g:Int)(d:List Zaa)(e f i j:Int)(af:Int->Int->Int->(List Int)->Option (List Int)):Nat->Int->(List Int)->Option (List Int)|0,_,_=>none|fu+1,h,b=>bif(decide (h<g))then Zbe g d e f h af (ZaQ g d e f i j af fu) ((g-(ZiS (2:Int) h)).toNat+2) (0:Int) (ZiS (2:Int) h) b else some b
theorem ZjK(p:Int)(e:List Zaa)(f g v y:Int)(af:Int->Int->Int->(List Int)->Option (List Int))(aL:∀(gB gC dg:Int)(al r:List Int),af gB gC dg al=some r->Yr 63 S0 w0 Tryz.f356 [(lL 100000 3 1 lP (0:Int) r)] (.tup []) [1,1,0,0] ⟨[(0,.one (.osl 100000 al.length)),(1,(Yj p)),(2,.one (lN 322 0 3 [] [lO [cL 10 Zaa.c Zaa.d e],lO [.lit (.int .i64 f)],lO [.lit (.int .u64 g)]])),(6,(Yj gB)),(7,(Yj gC)),(8,(Yj dg))],[(lL 100000 3 1 lP (0:Int) al)]⟩):∀(t:Nat)(o:Int)(b r:List Int),ZaQ p e f g v y af t o b=some r->Yr 63 S0 w0 Tryz.f356 [(lL 100000 3 1 lP (0:Int) r)] (.tup []) [1,1,1,1,0] ⟨[(0,.one (.osl 100000 b.length)),(1,(Yj p)),(2,.one (lN 322 0 3 [] [lO [cL 10 Zaa.c Zaa.d e],lO [.lit (.int .i64 f)],lO [.lit (.int .u64 g)]])),(6,(Yj o))],[(lL 100000 3 1 lP (0:Int) b)]⟩:=by
 intro t;induction t with
 |zero=>
  intro o b r h;simp[ZaQ]at h
 |succ t z=>
  intro o b r h;unfold ZaQ at h;obtain⟨u,h⟩|⟨u,h⟩:=Zae h
  .exact Ye 11 [rz,rz] [true] (lI [0,1,2,6,7,8] [100000]) (lR u) (ZjJ S0 w0 p e f g o af (ZaQ p e f g v y af t) aL z ((p-(ZiS (2:Int) o)).toNat+2) (0:Int) (ZiS (2:Int) o) b r h)
  .obtain rfl:=oi h;exact Yd 6 [rz] [false] (lI [] [100000]) (lR u)
def ZaL(g:Int)(b:List Zaa)(d e:Int):Nat->Int->Int->Int->(List Int)->Option (List Int)|0,_,_,_,_=>none|fu+1,i,j,h,f=>bif(decide (h<=g))then(ZbL f j h b d e).bind fun n=>ZaL g b d e fu i h (Zan h i) n else(ZbL f j g b d e).bind fun o=>ZaQ g b d e j h (ZaL g b d e fu) ((g-i).toNat+2) i o
theorem ZjL(v:Int)(e:List Zaa)(f g:Int):∀(y:Nat)(o z p:Int)(b r:List Int),ZaL v e f g y o z p b=some r->Yr 63 S0 w0 Tryz.f356 [(lL 100000 3 1 lP (0:Int) r)] (.tup []) [1,1,0,0] ⟨[(0,.one (.osl 100000 b.length)),(1,(Yj v)),(2,.one (lN 322 0 3 [] [lO [cL 10 Zaa.c Zaa.d e],lO [.lit (.int .i64 f)],lO [.lit (.int .u64 g)]])),(6,(Yj o)),(7,(Yj z)),(8,(Yj p))],[(lL 100000 3 1 lP (0:Int) b)]⟩:=by
 intro y;induction y with
 |zero=>
  intro o z p b r h;simp[ZaL]at h
 |succ y B=>
  intro o z p b r h;unfold ZaL at h;obtain⟨A,h⟩|⟨A,h⟩:=Zae h
  .obtain⟨t,D,h⟩:=Zad h;exact Ye 14 [rz,rH [] [(4,⟨[(100000,100000)],[],[(lL 100000 3 1 lP (0:Int) t)],.tup []⟩)],rz,rz] [true] ⟨[],[],[],[(100000,t.length)],[],[0,1,2,6,7,8],[100000],[]⟩ (lT A (Zfk _ _ _ _ _ _ _ D) (mo t.length)) (B o p (Zan p o) t r h)
  .obtain⟨u,E,h⟩:=Zad h;exact Ye 9 [rz,rH [] [(4,⟨[(100000,100000)],[],[(lL 100000 3 1 lP (0:Int) u)],.tup []⟩)]] [false] ⟨[],[],[],[(100000,u.length)],[],[0,1,2,6],[100000],[]⟩ (lT A (Zfk _ _ _ _ _ _ _ E) (mo u.length)) (ZjK S0 w0 v e f g z p (ZaL v e f g y) B ((v-o).toNat+2) o u r h)
def ZdW(g:List Int)(f:Int)(b:List Zaa)(d e:Int):Option (List Int):=ZaL f b d e ((f-(20:Int)).toNat+2) (20:Int) (0:Int) (20:Int) g
theorem Zkj(g:List Int)(h:Int)(b:List Zaa)(e f:Int)(r:List Int)(o:ZdW g h b e f=some r):Yp 356 [(lL 100000 3 1 lP (0:Int) g)] [.one (.osl 100000 g.length),Yj h,.one (lN 322 0 3 [] [lO [cL 10 Zaa.c Zaa.d b],lO [.lit (.int .i64 e)],lO [.lit (.int .u64 f)]])] [(lL 100000 3 1 lP (0:Int) r)] (.tup []):=by
 refine Yv Tryz.func356 fun S0 w0=>?_;unfold ZdW at o;exact Ye 6 [rz,rz] [] (lI [0,1,2,6,7,8] [100000]) .n (ZjL S0 w0 h b e f ((h-(20:Int)).toNat+2) (20:Int) (0:Int) (20:Int) g r o)
def Zcj(f:List Int)(b:List Zaa)(d e:Int):Option (List Int):=(ZdW f (f.length:Int) b d e).bind fun g=>some g
theorem ZiY(g:List Int)(b:List Zaa)(e f:Int)(r:List Int)(h:Zcj g b e f=some r):Yp 321 [(lL 100000 3 1 lP (0:Int) g)] [.one (.osl 100000 g.length),.one (lN 322 0 3 [] [lO [cL 10 Zaa.c Zaa.d b],lO [.lit (.int .i64 e)],lO [.lit (.int .u64 f)]])] [(lL 100000 3 1 lP (0:Int) r)] (.tup []):=by
 refine Yv Tryz.func321 fun S0 w0=>?_;unfold Zcj at h;obtain⟨o,p,h⟩:=Zad h;obtain rfl:=oi h;exact Yd 1 [rH [] [(4,⟨[(100000,100000)],[],[(lL 100000 3 1 lP (0:Int) o)],.tup []⟩)]] [] (lI [] [100000]) (lR (Zkj _ _ _ _ _ _ p))
def ZeG(e:Int):Nat->(List Zaa)->Int->Int->(List Int)->(List Zaa)->Int->Int->Option (List Int)|0,_,_,_,_,_,_,_=>none|fu+1,g,h,b,f,j,i,n=>bif(decide (b<h))then need (0<=b/\b<(g.length:Int))<|(Zkz (g.getD b.toNat Zaa.d) i).bind fun p=>bif p then need ((f++([b]:List Int)).length * 8<=140737488355328/\(f++([b]:List Int)).length<=maxLen)<|ZeG e fu g h (Zan b 1) (f++([b]:List Int)) j i n else ZeG e fu g h (Zan b 1) f j i n else(Zcj f j i n).bind fun o=>need (0<=(0:Int)/\(0:Int)<=(if(f.length:Int)<(if(0:Int)>e then(0:Int)else e)then(f.length:Int)else(if(0:Int)>e then(0:Int)else e))/\(if(f.length:Int)<(if(0:Int)>e then(0:Int)else e)then(f.length:Int)else(if(0:Int)>e then(0:Int)else e))<=(f.length:Int))<|need ((if(f.length:Int)<(if(0:Int)>e then(0:Int)else e)then(f.length:Int)else(if(0:Int)>e then(0:Int)else e)).toNat<=o.length)<|some (o.take ((if(f.length:Int)<(if(0:Int)>e then(0:Int)else e)then(f.length:Int)else(if(0:Int)>e then(0:Int)else e)).toNat))
theorem ZsB(f:Int):∀(z:Nat)(o:List Zaa)(p b:Int)(g:List Int)(u:List Zaa)(v y:Int)(r:List Int),ZeG f z o p b g u v y=some r->Yr 37 S0 w0 Tryz.f256 [(lL 99999 3 1 lP (0:Int) r)] (.one (.osl 99999 r.length)) [1,1,0,1,0] ⟨[(2,(Yj f)),(4,.one (.ptr 4 0)),(5,.one (.ptr 5 0)),(7,.one (.ptr 7 0)),(9,.one (.osl 9 g.length)),(12,(Ym o)),(13,(Yj p)),(14,(Yj b))],[(lL 9 3 1 lP (0:Int) g),(4,.box [cL 10 Zaa.c Zaa.d u]),(5,.box [.lit (.int .i64 v)]),(7,.box [.lit (.int .u64 y)])]⟩:=by
 intro z;induction z with
 |zero=>
  intro o p b g u v y r h;simp[ZeG]at h
 |succ z C=>
  intro o p b g u v y r h;unfold ZeG at h;obtain⟨A,h⟩|⟨A,h⟩:=Zae h
  .obtain⟨F,h⟩:=Zap h;obtain⟨D,G,h⟩:=Zad h;have O1:=(lT A F (Zui _ _ _ G));obtain⟨B,h⟩|⟨B,h⟩:=Zae h
   .obtain⟨E,h⟩:=Zap h;exact Ye 17 [rz,rz,rA [(2,aB D)],⟨[(3,.c ((g++([b]:List Int)).length) (Zal lP (0:Int) (g++([b]:List Int))))],[],[],[],[],[(2,(([b]:List Int).length,Zal lP (0:Int) ([b]:List Int)))],[]⟩,rz] [true,true] (lK [2,4,5,7,9,12,13,14] [25,4,5,7] [(25,9)]) (md O1 B (ml (e:=lP) (0:Int) 1 (fun _=>rfl) ([b]:List Int)) (ZcO (sz:=1) (e:=lP) (d:=(0:Int)) g ([b]:List Int)) E.1 E.2) (C o p (Zan b 1) (g++([b]:List Int)) u v y r h)
   .exact Ye 17 [rz,rz,rA [(2,aB D)],rz] [true,false] (lI [2,4,5,7,9,12,13,14] [9,4,5,7]) (l8 O1 B) (C o p (Zan b 1) g u v y r h)
  .obtain⟨t,H,h⟩:=Zad h;obtain⟨I,J,h⟩:=Ys h;apply Yc h 10 [rz,⟨[],[],[(1,[4,5,7])],[],[],[],[(2,⟨[(100000,9)],[],[(lL 100000 3 1 lP (0:Int) t)],.tup []⟩)]⟩,rA [(7,.c (t.take ((if(g.length:Int)<(if(0:Int)>f then(0:Int)else f)then(g.length:Int)else(if(0:Int)>f then(0:Int)else f)).toNat)).length (Zal lP (0:Int) (t.take ((if(g.length:Int)<(if(0:Int)>f then(0:Int)else f)then(g.length:Int)else(if(0:Int)>f then(0:Int)else f)).toNat))))]] [false] (lK [8] [8] [(8,99999)]) (lW A (ZiY _ _ _ _ _ H) I (mo 0) (show (t.take ((if(g.length:Int)<(if(0:Int)>f then(0:Int)else f)then(g.length:Int)else(if(0:Int)>f then(0:Int)else f)).toNat)).length=(if(g.length:Int)<(if(0:Int)>f then(0:Int)else f)then(g.length:Int)else(if(0:Int)>f then(0:Int)else f)).toNat from(ZFx _ _ J)) (show ∀i j,i<(if(g.length:Int)<(if(0:Int)>f then(0:Int)else f)then(g.length:Int)else(if(0:Int)>f then(0:Int)else f)).toNat->j<1->Zal lP (0:Int) (t.take ((if(g.length:Int)<(if(0:Int)>f then(0:Int)else f)then(g.length:Int)else(if(0:Int)>f then(0:Int)else f)).toNat)) i j=Zal lP (0:Int) t i j from(ZCz _ _)))
def Zes(b:List Zaa)(d e f:Int):Option (List Int):=ZeG e (((b.length:Int)-(0:Int)).toNat+2) b (b.length:Int) (0:Int) ([]) b d f
theorem Zuh(b:List Zaa)(d e f:Int)(r:List Int)(g:Zes b d e f=some r):Yp 256 [] [Ym b,Yj d,Yj e,.one (.lit (.int .u64 f))] [(lL 99999 3 1 lP (0:Int) r)] (.one (.osl 99999 r.length)):=by
 refine Yv Tryz.func256 fun S0 w0=>?_;unfold Zes at g;exact Ye 8 [rz,rz,rz] [] ⟨[],[],[],[],[(9,9,3,1,Zal lP (0:Int) [])],[2,4,5,7,9,12,13,14],[9,4,5,7],[]⟩ .n (ZsB S0 w0 e (((b.length:Int)-(0:Int)).toNat+2) b (b.length:Int) (0:Int) ([]) b d f r g)
theorem Zky(b:List Zaa)(d e f:Int)(r:List Int)(g:Zes b d e f=some r):Yo 256 [Ym b,Yj d,Yj e,.one (.lit (.int .u64 f))] (.one (cL 1 lP (0:Int) r)):=(Zuh b d e f r g).pure
def Zen(o g:List Int)(h i:Int)(j:List Int)(aN:(List Int)->Int->Int->(List Int)->(List Bool)->Option (List Int)):Nat->(List Int)->Int->Int->(List Int)->(List Bool)->Option (List Int)|0,_,_,_,_,_=>none|fu+1,d,f,b,n,e=>bif(decide (b<f))then need (0<=b/\b<(d.length:Int))<|need (0<=b/\b<(e.length:Int))<|bif(!(e.getD b.toNat false))then need ((n++([(d.getD b.toNat (0:Int))]:List Int)).length * 8<=140737488355328/\(n++([(d.getD b.toNat (0:Int))]:List Int)).length<=maxLen)<|Zen o g h i j aN fu d f (Zan b 1) (n++([(d.getD b.toNat (0:Int))]:List Int)) e else Zen o g h i j aN fu d f (Zan b 1) n e else some n
theorem ZrK(D v:List Int)(y z:Int)(A:List Int)(aN:(List Int)->Int->Int->(List Int)->(List Bool)->Option (List Int))(dM:∀(jw:List Int)(jx jy:Int)(cW:List Int)(gg:List Bool)(r:List Int),aN jw jx jy cW gg=some r->Yr 45 S0 w0 Tryz.f255 [(lL 99999 3 1 lP (0:Int) r)] (.one (.osl 99999 r.length)) [1,1,1,0,1,0] ⟨[(0,.one (cL 1 lP (0:Int) D)),(5,.one (.osl 13 cW.length)),(6,.one (.osl 16 gg.length)),(17,.one (cL 1 lP (0:Int) jw)),(18,(Yj jx)),(19,(Yj jy))],[(lL 13 3 1 lP (0:Int) cW),(lL 16 4 1 cB false gg)]⟩):∀(u:Nat)(f:List Int)(o b:Int)(p:List Int)(g:List Bool)(r:List Int),Zen D v y z A aN u f o b p g=some r->Yr 45 S0 w0 Tryz.f255 [(lL 99999 3 1 lP (0:Int) r)] (.one (.osl 99999 r.length)) [1,1,1,1,0,1,0] ⟨[(5,.one (.osl 5 p.length)),(6,.one (.osl 16 g.length)),(27,.one (cL 1 lP (0:Int) f)),(28,(Yj o)),(29,(Yj b))],[(lL 5 3 1 lP (0:Int) p),(lL 16 4 1 cB false g)]⟩:=by
 intro u;induction u with
 |zero=>
  intro f o b p g r h;simp[Zen]at h
 |succ u E=>
  intro f o b p g r h;unfold Zen at h;obtain⟨B,h⟩|⟨B,h⟩:=Zae h
  .obtain⟨G,F,h⟩:=Ys h;have O1:=(lU B G F (ltOf F));obtain⟨C,h⟩|⟨C,h⟩:=Zae h
   .obtain⟨t,h⟩:=Zap h;exact Ye 17 [rz,rz,rz,⟨[(3,.c ((p++([(f.getD b.toNat (0:Int))]:List Int)).length) (Zal lP (0:Int) (p++([(f.getD b.toNat (0:Int))]:List Int))))],[],[],[],[],[(2,(([(f.getD b.toNat (0:Int))]:List Int).length,Zal lP (0:Int) ([(f.getD b.toNat (0:Int))]:List Int)))],[]⟩,rz] [true,true] (lK [5,6,27,28,29] [42,16] [(42,5)]) (md O1 C (ml (e:=lP) (0:Int) 1 (fun _=>rfl) ([(f.getD b.toNat (0:Int))]:List Int)) (ZcO (sz:=1) (e:=lP) (d:=(0:Int)) p ([(f.getD b.toNat (0:Int))]:List Int)) t.1 t.2) (E f o (Zan b 1) (p++([(f.getD b.toNat (0:Int))]:List Int)) g r h)
   .exact Ye 17 [rz,rz,rz,rz] [true,false] (lI [5,6,27,28,29] [5,16]) (l8 O1 C) (E f o (Zan b 1) p g r h)
  .apply Yc h 8 [rz,rz] [false] (lK [4] [5] [(5,99999)]) (lR B)
def ZdG(h:List Int):Nat->(List Int)->Int->Int->(List Int)->(List Bool)->Option (List Int)|0,_,_,_,_,_=>none|fu+1,d,e,b,f,g=>bif(decide (b<e))then need (0<=b/\b<(d.length:Int))<|need (0<=(d.getD b.toNat (0:Int))/\(d.getD b.toNat (0:Int))<(g.length:Int))<|ZdG h fu d e (Zan b 1) f (g.set ((d.getD b.toNat (0:Int)).toNat) true)else Zen h d e b f (ZdG h fu) (((h.length:Int)-(0:Int)).toNat+2) h (h.length:Int) (0:Int) f g
theorem ZrL(i:List Int):∀(j:Nat)(d:List Int)(g e:Int)(f:List Int)(b:List Bool)(r:List Int),ZdG i j d g e f b=some r->Yr 45 S0 w0 Tryz.f255 [(lL 99999 3 1 lP (0:Int) r)] (.one (.osl 99999 r.length)) [1,1,1,0,1,0] ⟨[(0,.one (cL 1 lP (0:Int) i)),(5,.one (.osl 13 f.length)),(6,.one (.osl 16 b.length)),(17,.one (cL 1 lP (0:Int) d)),(18,(Yj g)),(19,(Yj e))],[(lL 13 3 1 lP (0:Int) f),(lL 16 4 1 cB false b)]⟩:=by
 intro j;induction j with
 |zero=>
  intro d g e f b r h;simp[ZdG]at h
 |succ j p=>
  intro d g e f b r h;unfold ZdG at h;obtain⟨o,h⟩|⟨o,h⟩:=Zae h
  .obtain⟨u,t,h⟩:=Ys h;exact Ye 14 [rz,rz,rA [(3,.c (b.set ((d.getD e.toNat (0:Int)).toNat) true).length (Zal cB false (b.set ((d.getD e.toNat (0:Int)).toNat) true)))],rz] [true] ⟨[],[],[],[(16,((b.set ((d.getD e.toNat (0:Int)).toNat) true).length))],[],[0,5,6,17,18,19],[13,16],[]⟩ (lX o u t (show (b.set ((d.getD e.toNat (0:Int)).toNat) true).length=b.length from List.length_set) (ltOf t) (show ExtU 1 b.length (Zal cB false b) ((d.getD e.toNat (0:Int)).toNat) 0 (cB true) (Zal cB false (b.set ((d.getD e.toNat (0:Int)).toNat) true))from(Zlq _ _ _ rfl)) (mo ((b.set ((d.getD e.toNat (0:Int)).toNat) true).length))) (p d g (Zan e 1) f (b.set ((d.getD e.toNat (0:Int)).toNat) true) r h)
  .exact Ye 10 [rz,rz] [false] (lK [5,6,27,28,29] [13,16] [(13,5)]) (lR o) (ZrK S0 w0 i d g e f (ZdG i j) p (((i.length:Int)-(0:Int)).toNat+2) i (i.length:Int) (0:Int) f b r h)
def ZeF(b d:List Int):Option (List Int):=need (0<=(0:Int)/\(0:Int)<=(b.length:Int)/\(b.length:Int)<=140737488355328/\(b.length:Int) * 8<=140737488355328)<|need (0<=(b.length:Int)/\(b.length:Int)<=(b.length:Int)/\(b.length:Int)<=140737488355328/\(b.length:Int) * 1<=140737488355328)<|ZdG b (((d.length:Int)-(0:Int)).toNat+2) d (d.length:Int) (0:Int) ([]:List Int) (List.replicate (b.length:Int).toNat false)
theorem Zjs(b d r:List Int)(f:ZeF b d=some r):Yp 255 [] [.one (cL 1 lP (0:Int) b),.one (cL 1 lP (0:Int) d)] [(lL 99999 3 1 lP (0:Int) r)] (.one (.osl 99999 r.length)):=by
 refine Yv Tryz.func255 fun S0 w0=>?_;unfold ZeF at f;obtain⟨o1,e,f⟩:=Ys f;exact Ye 10 [rz,rA [(2,.c 0 (Zal lP (0:Int) ([]:List Int)))],rA [(2,.c ((b.length:Int).toNat) (Zal cB false (List.replicate (b.length:Int).toNat false)))],rz] [] ⟨[],[],[],[(13,(([]:List Int).length)),(16,((List.replicate (b.length:Int).toNat false).length))],[],[0,5,6,17,18,19],[13,16],[]⟩ (.c (show (0:Int)=((0:Nat):Int)from rfl) (.c o1.2.1 (l5 o1.2.2.1 o1.2.2.2 (show ∀i j,i<0->j<1->ZrD (([.lit (.int .i64 (0))]:List C).getD j .junk) (Zal lP (0:Int) ([]:List Int) i j)from(fun i j h=>absurd h (Nat.not_lt_zero i))) (show (b.length:Int)=(((b.length:Int).toNat:Nat):Int)from(Int.toNat_of_nonneg e.1).symm) (show (((b.length:Int).toNat:Nat):Int)<=(b.length:Int)from((Int.toNat_of_nonneg e.1).symm ▸ e.2.1)) e.2.2.1 e.2.2.2 (show ∀i j,i<(b.length:Int).toNat->j<1->ZrD (([.lit (.bool false)]:List C).getD j .junk) (Zal cB false (List.replicate (b.length:Int).toNat false) i j)from(Ztr (fun j hj=>.inl rfl) _)) (show ([]:List Int).length=0 from rfl) (show (List.replicate (b.length:Int).toNat false).length=(b.length:Int).toNat from List.length_replicate)))) (ZrL S0 w0 b (((d.length:Int)-(0:Int)).toNat+2) d (d.length:Int) (0:Int) ([]:List Int) (List.replicate (b.length:Int).toNat false) r f)
def Zch(i:List Zaa)(j e f:Int)(g:List Int)(n:Zax)(aE:Int->Int->(List Int)->Zax->Option (List Int)):Nat->(ZaV×ZaV×ZaV×ZaV)->Int->(List Int)->Option (List Int)|0,_,_,_=>none|fu+1,b,d,h=>bif(decide (d<(4:Int)))then need (0<=d/\d<((4:Nat):Int))<|ix1 d 0 ( (ZdM i h).bind fun u=>(Zes u b.1.fby b.1.fn j).bind fun v=>(ZeF h v).bind fun y=>Zch i j e f g n aE fu b (Zan (0:Int) (1:Int)) y)<|ix1 d 1 ( (ZdM i h).bind fun z=>(Zes z b.2.1.fby b.2.1.fn j).bind fun A=>(ZeF h A).bind fun B=>Zch i j e f g n aE fu b (Zan (1:Int) (1:Int)) B)<|ix1 d 2 ( (ZdM i h).bind fun C=>(Zes C b.2.2.1.fby b.2.2.1.fn j).bind fun D=>(ZeF h D).bind fun o=>Zch i j e f g n aE fu b (Zan (2:Int) (1:Int)) o)<|(ZdM i h).bind fun p=>(Zes p b.2.2.2.fby b.2.2.2.fn j).bind fun r=>(ZeF h r).bind fun t=>Zch i j e f g n aE fu b (Zan (3:Int) (1:Int)) t else some h
theorem ZrM(v:List Zaa)(y z A:Int)(B:List Int)(W:Zax)(aE:Int->Int->(List Int)->Zax->Option (List Int))(dN:∀(eV jz:Int)(cW:List Int)(di:Zax)(r:List Int),aE eV jz cW di=some r->Yr 42 S0 w0 Tryz.f182 [(lL 99999 3 1 lP (0:Int) r)] (.one (.osl 99999 r.length)) [1,1,0,1,0] ⟨[(0,(Ym v)),(2,.one (.lit (.int .u64 y))),(4,.one (.ptr 4 0)),(7,.one (.osl 13 cW.length)),(15,(Yj eV)),(16,(Yj jz))],[(lL 13 3 1 lP (0:Int) cW),(4,.box (Zax.c di))]⟩):∀(o:Nat)(d:(ZaV×ZaV×ZaV×ZaV))(f:Int)(i r:List Int),Zch v y z A B W aE o d f i=some r->Yr 42 S0 w0 Tryz.f182 [(lL 99999 3 1 lP (0:Int) r)] (.one (.osl 99999 r.length)) [1,1,1,0,1,0] ⟨[(0,(Ym v)),(2,.one (.lit (.int .u64 y))),(7,.one (.osl 7 i.length)),(25,.agg [.lit (.int .i64 d.1.fby),.lit (.int .i64 d.1.fn),.lit (.int .i64 d.2.1.fby),.lit (.int .i64 d.2.1.fn),.lit (.int .i64 d.2.2.1.fby),.lit (.int .i64 d.2.2.1.fn),.lit (.int .i64 d.2.2.2.fby),.lit (.int .i64 d.2.2.2.fn)]),(26,(Yj f))],[(lL 7 3 1 lP (0:Int) i)]⟩:=by
 intro o;induction o with
 |zero=>
  intro d f i r b;simp[Zch]at b
 |succ o p=>
  intro d f i r b;unfold Zch at b;obtain⟨j,b⟩|⟨j,b⟩:=Zae b
  .obtain⟨o6,b⟩:=Zap b;rcases ZgV b with⟨e,b⟩|⟨R,b⟩
   .subst e;obtain⟨Z,x3,q7,q8,b⟩:=Yt b;obtain⟨t,q9,b⟩:=Zad b;exact Ye 14 [rz,rz,⟨[(3,.r (Ym Z) []),(9,.r (.one (cL 1 lP (0:Int) x3)) [])],[],[(0,[7])],[],[],[],[(10,⟨[],[(99999,39)],[(lL 99999 3 1 lP (0:Int) t)],.one (.osl 99999 t.length)⟩)]⟩,rz] [true] (lK [0,2,7,25,26] [39] [(39,7)]) (lV j (show 0<=(0:Int)/\(0:Int)<((4:Nat):Int)from(by decide)) (ZjV _ _ _ q7) (Zky _ _ _ _ _ q8) (Zjs _ _ _ q9)) (p d (Zan (0:Int) (1:Int)) t r b)
   rcases ZgV b with⟨e,b⟩|⟨U,b⟩
   .subst e;obtain⟨x5,x6,C,D,b⟩:=Yt b;obtain⟨u,E,b⟩:=Zad b;exact Ye 14 [rz,rz,⟨[(3,.r (Ym x5) []),(9,.r (.one (cL 1 lP (0:Int) x6)) [])],[],[(0,[7])],[],[],[],[(10,⟨[],[(99999,39)],[(lL 99999 3 1 lP (0:Int) u)],.one (.osl 99999 u.length)⟩)]⟩,rz] [true] (lK [0,2,7,25,26] [39] [(39,7)]) (lV j (show 0<=(1:Int)/\(1:Int)<((4:Nat):Int)from(by decide)) (ZjV _ _ _ C) (Zky _ _ _ _ _ D) (Zjs _ _ _ E)) (p d (Zan (1:Int) (1:Int)) u r b)
   rcases ZgV b with⟨e,b⟩|⟨V,b⟩
   .subst e;obtain⟨x8,x9,F,G,b⟩:=Yt b;obtain⟨g,H,b⟩:=Zad b;exact Ye 14 [rz,rz,⟨[(3,.r (Ym x8) []),(9,.r (.one (cL 1 lP (0:Int) x9)) [])],[],[(0,[7])],[],[],[],[(10,⟨[],[(99999,39)],[(lL 99999 3 1 lP (0:Int) g)],.one (.osl 99999 g.length)⟩)]⟩,rz] [true] (lK [0,2,7,25,26] [39] [(39,7)]) (lV j (show 0<=(2:Int)/\(2:Int)<((4:Nat):Int)from(by decide)) (ZjV _ _ _ F) (Zky _ _ _ _ _ G) (Zjs _ _ _ H)) (p d (Zan (2:Int) (1:Int)) g r b)
   obtain rfl:f=3:=by omega
   obtain⟨I,J,L,M,b⟩:=Yt b;obtain⟨h,O,b⟩:=Zad b;exact Ye 14 [rz,rz,⟨[(3,.r (Ym I) []),(9,.r (.one (cL 1 lP (0:Int) J)) [])],[],[(0,[7])],[],[],[],[(10,⟨[],[(99999,39)],[(lL 99999 3 1 lP (0:Int) h)],.one (.osl 99999 h.length)⟩)]⟩,rz] [true] (lK [0,2,7,25,26] [39] [(39,7)]) (lV j (show 0<=(3:Int)/\(3:Int)<((4:Nat):Int)from(by decide)) (ZjV _ _ _ L) (Zky _ _ _ _ _ M) (Zjs _ _ _ O)) (p d (Zan (3:Int) (1:Int)) h r b)
  .apply Yc b 8 [rz,rz] [false] (lK [6] [7] [(7,99999)]) (lR j)
def ZdH(f:List Zaa)(g:Int):Nat->Int->Int->(List Int)->Zax->Option (List Int)|0,_,_,_,_=>none|fu+1,e,b,d,h=>bif(decide (b<e))then need (0<=b/\b<(d.length:Int))<|ZdH f g fu e (Zan b 1) (d.set b.toNat b) h else(Zlx h).bind fun i=>Zch f g e b d h (ZdH f g fu) (((4:Int)-(0:Int)).toNat+2) i (0:Int) d
theorem ZrN(i:List Zaa)(j:Int):∀(h:Nat)(e b:Int)(d:List Int)(g:Zax)(r:List Int),ZdH i j h e b d g=some r->Yr 42 S0 w0 Tryz.f182 [(lL 99999 3 1 lP (0:Int) r)] (.one (.osl 99999 r.length)) [1,1,0,1,0] ⟨[(0,(Ym i)),(2,.one (.lit (.int .u64 j))),(4,.one (.ptr 4 0)),(7,.one (.osl 13 d.length)),(15,(Yj e)),(16,(Yj b))],[(lL 13 3 1 lP (0:Int) d),(4,.box (Zax.c g))]⟩:=by
 intro h;induction h with
 |zero=>
  intro e b d g r f;simp[ZdH]at f
 |succ h p=>
  intro e b d g r f;unfold ZdH at f;obtain⟨o,f⟩|⟨o,f⟩:=Zae f
  .obtain⟨t,f⟩:=Zap f;exact Ye 14 [rz,rz,rA [(4,.c (d.set b.toNat b).length (Zal lP (0:Int) (d.set b.toNat b)))],rz] [true] ⟨[],[],[],[(13,((d.set b.toNat b).length))],[],[0,2,4,7,15,16],[13,4],[]⟩ (lW o t (show (d.set b.toNat b).length=d.length from List.length_set) (ltOf t) (show ExtU 1 d.length (Zal lP (0:Int) d) b.toNat 0 (lP b) (Zal lP (0:Int) (d.set b.toNat b))from(Zlq _ _ _ rfl)) (mo ((d.set b.toNat b).length))) (p e (Zan b 1) (d.set b.toNat b) g r f)
  .obtain⟨u,v,f⟩:=Zad f;exact Ye 10 [rz,rA [(1,aG ((cP ZaV.c (cP ZaV.c (cP ZaV.c ZaV.c))) u))]] [false] (lK [0,2,7,25,26] [13] [(13,7)]) (lS o (Ztx _ _ v)) (ZrM S0 w0 i j e b d g (ZdH i j h) p (((4:Int)-(0:Int)).toNat+2) u (0:Int) d r f)
def Zjt(b:List Zaa)(d:Zax)(e:Int):Option (List Int):=need (0<=(b.length:Int)/\(b.length:Int)<=(b.length:Int)/\(b.length:Int)<=140737488355328/\(b.length:Int) * 8<=140737488355328)<|ZdH b e (((((b.length:Int).toNat:Nat):Int)-(0:Int)).toNat+2) (((b.length:Int).toNat:Nat):Int) (0:Int) (List.replicate (b.length:Int).toNat (0:Int)) d
theorem Ztz(b:List Zaa)(e:Zax)(f:Int)(r:List Int)(d:Zjt b e f=some r):Yp 182 [] [Ym b,.agg (Zax.c e),.one (.lit (.int .u64 f))] [(lL 99999 3 1 lP (0:Int) r)] (.one (.osl 99999 r.length)):=by
 refine Yv Tryz.func182 fun S0 w0=>?_;unfold Zjt at d;obtain⟨o1,d⟩:=Zap d;exact Ye 8 [rz,rA [(2,.c ((b.length:Int).toNat) (Zal lP (0:Int) (List.replicate (b.length:Int).toNat (0:Int))))],rz] [] ⟨[],[],[],[(13,((List.replicate (b.length:Int).toNat (0:Int)).length))],[],[0,2,4,7,15,16],[13,4],[]⟩ (lW (show (b.length:Int)=(((b.length:Int).toNat:Nat):Int)from(Int.toNat_of_nonneg o1.1).symm) (show (((b.length:Int).toNat:Nat):Int)<=(b.length:Int)from((Int.toNat_of_nonneg o1.1).symm ▸ o1.2.1)) o1.2.2.1 o1.2.2.2 (show ∀i j,i<(b.length:Int).toNat->j<1->ZrD (([.lit (.int .i64 (0))]:List C).getD j .junk) (Zal lP (0:Int) (List.replicate (b.length:Int).toNat (0:Int)) i j)from(Ztr (fun j hj=>.inl rfl) _)) (show (List.replicate (b.length:Int).toNat (0:Int)).length=(b.length:Int).toNat from List.length_replicate)) (ZrN S0 w0 b f (((((b.length:Int).toNat:Nat):Int)-(0:Int)).toNat+2) (((b.length:Int).toNat:Nat):Int) (0:Int) (List.replicate (b.length:Int).toNat (0:Int)) e r d)
theorem Zug(b:List Zaa)(d:Zax)(e:Int)(r:List Int)(f:Zjt b d e=some r):Yo 182 [Ym b,.agg (Zax.c d),.one (.lit (.int .u64 e))] (.one (cL 1 lP (0:Int) r)):=(Ztz b d e r f).pure
def ZcS:Nat->(List Zaa)->(List Int)->Int->Int->(List Zaa)->Option (List Zaa)|0,_,_,_,_,_=>none|fu+1,f,e,g,b,h=>bif(decide (b<g))then need (0<=b/\b<(e.length:Int))<|need (0<=(e.getD b.toNat (0:Int))/\(e.getD b.toNat (0:Int))<(f.length:Int))<|need ((h++([(f.getD (e.getD b.toNat (0:Int)).toNat Zaa.d)]:List Zaa)).length * 80<=140737488355328/\(h++([(f.getD (e.getD b.toNat (0:Int)).toNat Zaa.d)]:List Zaa)).length<=maxLen)<|ZcS fu f e g (Zan b 1) (h++([(f.getD (e.getD b.toNat (0:Int)).toNat Zaa.d)]:List Zaa))else some h
theorem Zoq:∀(t:Nat)(g:List Zaa)(b:List Int)(o f:Int)(p r:List Zaa),ZcS t g b o f p=some r->Yr 30 S0 w0 Tryz.f97 [(lL 99999 44 10 Zaa.c Zaa.d r)] (.one (.osl 99999 r.length)) [1,1,1,0,1,0] ⟨[(0,(Ym g)),(7,.one (.osl 7 p.length)),(15,.one (cL 1 lP (0:Int) b)),(16,(Yj o)),(17,(Yj f))],[(lL 7 44 10 Zaa.c Zaa.d p)]⟩:=by
 intro t;induction t with
 |zero=>
  intro g b o f p r h;simp[ZcS]at h
 |succ t y=>
  intro g b o f p r h;unfold ZcS at h;obtain⟨u,h⟩|⟨u,h⟩:=Zae h
  .obtain⟨z,A,h⟩:=Ys h;obtain⟨v,h⟩:=Zap h;exact Ye 14 [rz,rz,⟨[(6,.c ((p++([(g.getD (b.getD f.toNat (0:Int)).toNat Zaa.d)]:List Zaa)).length) (Zal Zaa.c Zaa.d (p++([(g.getD (b.getD f.toNat (0:Int)).toNat Zaa.d)]:List Zaa))))],[],[],[],[],[(5,(([(g.getD (b.getD f.toNat (0:Int)).toNat Zaa.d)]:List Zaa).length,Zal Zaa.c Zaa.d ([(g.getD (b.getD f.toNat (0:Int)).toNat Zaa.d)]:List Zaa)))],[]⟩,rz] [true] (lK [0,7,15,16,17] [27] [(27,7)]) (lX u z A (ml (e:=Zaa.c) Zaa.d 10 (fun _=>rfl) ([(g.getD (b.getD f.toNat (0:Int)).toNat Zaa.d)]:List Zaa)) (ZcO (sz:=10) (e:=Zaa.c) (d:=Zaa.d) p ([(g.getD (b.getD f.toNat (0:Int)).toNat Zaa.d)]:List Zaa)) v.1 v.2) (y g b o (Zan f 1) (p++([(g.getD (b.getD f.toNat (0:Int)).toNat Zaa.d)]:List Zaa)) r h)
  .apply Yc h 8 [rz,rz] [false] (lK [6] [7] [(7,99999)]) (lR u)
def ZfX(e:List Zaa)(f:Zax)(g:Int):Option (List Zaa):=(Zke e).bind fun d=>(Zjt d f g).bind fun b=>ZcS (((b.length:Int)-(0:Int)).toNat+2) d b (b.length:Int) (0:Int) ([])
theorem ZpJ(f:List Zaa)(g:Zax)(h:Int)(r:List Zaa)(b:ZfX f g h=some r):Yp 97 [] [Ym f,.agg (Zax.c g),.one (.lit (.int .u64 h))] [(lL 99999 44 10 Zaa.c Zaa.d r)] (.one (.osl 99999 r.length)):=by
 refine Yv Tryz.func97 fun S0 w0=>?_;unfold ZfX at b;obtain⟨i,e,j,o,b⟩:=Yt b;exact Ye 10 [rz,rA [(1,.r (Ym i) [])],rz,rA [(3,.r (.one (cL 1 lP (0:Int) e)) [])]] [] ⟨[],[],[],[],[(7,7,44,10,Zal Zaa.c Zaa.d [])],[0,7,15,16,17],[7],[]⟩ (lS (ZvJ _ _ j) (Zug _ _ _ _ o)) (Zoq S0 w0 (((e.length:Int)-(0:Int)).toNat+2) i e (e.length:Int) (0:Int) ([]) r b)
theorem Zqt(b:List Zaa)(d:Zax)(e:Int)(r:List Zaa)(f:ZfX b d e=some r):Yo 97 [Ym b,.agg (Zax.c d),.one (.lit (.int .u64 e))] (Ym r):=(ZpJ b d e r f).pure
def Zfd:Nat->(List Zaa)->Int->Int->(List (Zaj×Int))->Option (List (Zaj×Int))|0,_,_,_,_=>none|fu+1,f,e,b,m8=>bif(decide (b<e))then need (0<=b/\b<(f.length:Int))<|(Zgz (((f.getD b.toNat Zaa.d).fEnd).fAddr)).bind fun g=>Zfd fu f e (Zan b 1) (mput m8 g (Zan (mget m8 g (0:Int)) (1:Int)))else some m8
theorem ZrS:∀(h:Nat)(g:List Zaa)(e f:Int)(m8 r:(List (Zaj×Int))),Zfd h g e f m8=some r->Yr 26 S0 w0 Tryz.f183 [(99999,.map 32 (encM (fun k=>.agg #[.bool k.fAddr.fV6,.int .u64 k.fAddr.fHi,.int .u64 k.fAddr.fLo,.int .i64 k.fBits]) (fun v=>(Yj v)) r))] (.one (.mp 99999)) [1,1,0,1,0] ⟨[(3,.one (.mp 8)),(9,(Ym g)),(10,(Yj e)),(11,(Yj f))],[(8,.map 32 (encM (fun k=>.agg #[.bool k.fAddr.fV6,.int .u64 k.fAddr.fHi,.int .u64 k.fAddr.fLo,.int .i64 k.fBits]) (fun v=>(Yj v)) m8))]⟩:=by
 intro h;induction h with
 |zero=>
  intro g e f m8 r d;simp[Zfd]at d
 |succ h j=>
  intro g e f m8 r d;unfold Zfd at d;obtain⟨i,d⟩|⟨i,d⟩:=Zae d
  .obtain⟨o,d⟩:=Zap d;obtain⟨b,p,d⟩:=Zad d;exact Ye 14 [rz,rz,rA [(4,aG (Zaj.c b)),(5,aI (mget m8 b (0:Int))),(7,.m ((.int .i64 ((midx m8 b:Nat):Int),.one .junk) :: encM (fun k=>.agg #[.bool k.fAddr.fV6,.int .u64 k.fAddr.fHi,.int .u64 k.fAddr.fLo,.int .i64 k.fBits]) (fun v=>(Yj v)) (mpad m8 b (0:Int)))),(9,.m (encM (fun k=>.agg #[.bool k.fAddr.fV6,.int .u64 k.fAddr.fHi,.int .u64 k.fAddr.fLo,.int .i64 k.fBits]) (fun v=>(Yj v)) (mput m8 b (Zan (mget m8 b (0:Int)) (1:Int)))))],rz] [true] (lI [3,9,10,11] [8]) (lY i o (Zmo _ _ p) (show ZmY Tryz.prog 32 (.agg #[.bool b.fAddr.fV6,.int .u64 b.fAddr.fHi,.int .u64 b.fAddr.fLo,.int .i64 b.fBits]) ((encM (fun k=>.agg #[.bool k.fAddr.fV6,.int .u64 k.fAddr.fHi,.int .u64 k.fAddr.fLo,.int .i64 k.fBits]) (fun v=>(Yj v)) m8).map (·.1))from(Zkr b m8)) (show Zwx (encM (fun k=>.agg #[.bool k.fAddr.fV6,.int .u64 k.fAddr.fHi,.int .u64 k.fAddr.fLo,.int .i64 k.fBits]) (fun v=>(Yj v)) m8) (.agg #[.bool b.fAddr.fV6,.int .u64 b.fAddr.fHi,.int .u64 b.fAddr.fLo,.int .i64 b.fBits]) (.int .i64 (0)) ((Yj (mget m8 b (0:Int))))from(Zys (kv:=(fun k=>.agg #[.bool k.fAddr.fV6,.int .u64 k.fAddr.fHi,.int .u64 k.fAddr.fLo,.int .i64 k.fBits])) (vv:=(fun v=>(Yj v))) Zix (fun S w m=>RepC.lit) b m8)) (show ZmY Tryz.prog 32 (.agg #[.bool b.fAddr.fV6,.int .u64 b.fAddr.fHi,.int .u64 b.fAddr.fLo,.int .i64 b.fBits]) ((.agg #[.bool b.fAddr.fV6,.int .u64 b.fAddr.fHi,.int .u64 b.fAddr.fLo,.int .i64 b.fBits]) :: (encM (fun k=>.agg #[.bool k.fAddr.fV6,.int .u64 k.fAddr.fHi,.int .u64 k.fAddr.fLo,.int .i64 k.fBits]) (fun v=>(Yj v)) m8).map (·.1))from(Zkr (vv:=(fun v=>(Yj v))) b ((b,(0:Int)) :: m8))) (show MEnt (encM (fun k=>.agg #[.bool k.fAddr.fV6,.int .u64 k.fAddr.fHi,.int .u64 k.fAddr.fLo,.int .i64 k.fBits]) (fun v=>(Yj v)) m8) (.agg #[.bool b.fAddr.fV6,.int .u64 b.fAddr.fHi,.int .u64 b.fAddr.fLo,.int .i64 b.fBits]) (.int .i64 (0)) ((midx m8 b:Nat):Int) (encM (fun k=>.agg #[.bool k.fAddr.fV6,.int .u64 k.fAddr.fHi,.int .u64 k.fAddr.fLo,.int .i64 k.fBits]) (fun v=>(Yj v)) (mpad m8 b (0:Int)))from(ZJx (kv:=(fun k=>.agg #[.bool k.fAddr.fV6,.int .u64 k.fAddr.fHi,.int .u64 k.fAddr.fLo,.int .i64 k.fBits])) (vv:=(fun v=>(Yj v))) Zix (fun S w m=>RepC.lit) (ZJY _) b m8)) (show MSt (encM (fun k=>.agg #[.bool k.fAddr.fV6,.int .u64 k.fAddr.fHi,.int .u64 k.fAddr.fLo,.int .i64 k.fBits]) (fun v=>(Yj v)) (mpad m8 b (0:Int))) ((midx m8 b:Nat):Int) ((Yj (Zan (mget m8 b (0:Int)) (1:Int)))) (encM (fun k=>.agg #[.bool k.fAddr.fV6,.int .u64 k.fAddr.fHi,.int .u64 k.fAddr.fLo,.int .i64 k.fBits]) (fun v=>(Yj v)) (mput m8 b (Zan (mget m8 b (0:Int)) (1:Int))))from(ZJv (kv:=(fun k=>.agg #[.bool k.fAddr.fV6,.int .u64 k.fAddr.fHi,.int .u64 k.fAddr.fLo,.int .i64 k.fBits])) (vv:=(fun v=>(Yj v))) b (0:Int) (Zan (mget m8 b (0:Int)) (1:Int)) m8))) (j g e (Zan f 1) (mput m8 b (Zan (mget m8 b (0:Int)) (1:Int))) r d)
  .apply Yc d 8 [rz,rz] [false] (lK [2] [8] [(8,99999)]) (lR i)
def ZkN(b:List Zaa):Option (List (Zaj×Int)):=Zfd (((b.length:Int)-(0:Int)).toNat+2) b (b.length:Int) (0:Int) ([]:(List (Zaj×Int)))
theorem ZtD(b:List Zaa)(r:(List (Zaj×Int)))(d:ZkN b=some r):Yp 183 [] [Ym b] [(99999,.map 32 (encM (fun k=>.agg #[.bool k.fAddr.fV6,.int .u64 k.fAddr.fHi,.int .u64 k.fAddr.fLo,.int .i64 k.fBits]) (fun v=>(Yj v)) r))] (.one (.mp 99999)):=by
 refine Yv Tryz.func183 fun S0 w0=>?_;unfold ZkN at d;exact Ye 8 [rz,rz,rz] [] (lI [3,9,10,11] [8]) .n (ZrS S0 w0 (((b.length:Int)-(0:Int)).toNat+2) b (b.length:Int) (0:Int) ([]:(List (Zaj×Int))) r d)
def ZkM(b d:Zaa):Option Int:=(Zcf b.fSince d.fSince).bind fun e=>(ZfH b.fEnd d.fEnd).bind fun f=>(Zew ([e,f]:List Int)).bind fun g=>some g
theorem Zum(h o:Zaa)(r:Int)(g:ZkM h o=some r):Yo 187 [.agg (Zaa.c h),.agg (Zaa.c o)] (Yj r):=by
 refine Yu Tryz.func187 fun S0 w0=>?_;unfold ZkM at g;obtain⟨b,f,p,t,g⟩:=Yt g;obtain⟨u,v,g⟩:=Zad g;apply Ya g 4 [rz,⟨[(4,aI b),(9,aI f),(11,aI u)],[],[],[],[],[(10,(([b,f]:List Int).length,Zal lP (0:Int) ([b,f]:List Int)))],[]⟩] [] (lU (Zdk _ _ _ p) (Zjv _ _ _ t) (ml (e:=lP) (0:Int) 1 (fun _=>rfl) ([b,f]:List Int)) (ZhT _ _ v))
def Zek(g:List Zaa):Nat->Int->(List Zaa)->Int->Int->(List (Zaj×Int))->Option Int|0,_,_,_,_,_=>none|fu+1,f,h,e,b,m8=>bif(decide (b<e))then need (0<=b/\b<(h.length:Int))<|bif(decide (f<(0:Int)))then Zek g fu b h e (Zan b 1) m8 else(Zgz (((h.getD b.toNat Zaa.d).fEnd).fAddr)).bind fun i=>need (0<=f/\f<(g.length:Int))<|(Zgz (((g.getD f.toNat Zaa.d).fEnd).fAddr)).bind fun j=>(Zcf (mget m8 i (0:Int)) (mget m8 j (0:Int))).bind fun n=>(ZkM (h.getD b.toNat Zaa.d) (g.getD f.toNat Zaa.d)).bind fun o=>(Zew ([n,o]:List Int)).bind fun p=>bif(decide (p>(0:Int)))then Zek g fu b h e (Zan b 1) m8 else Zek g fu f h e (Zan b 1) m8 else some f
theorem ZsG(F:List Zaa):∀(A:Nat)(z:Int)(p:List Zaa)(g f:Int)(m8:(List (Zaj×Int)))(r:Int),Zek F A z p g f m8=some r->Yq 48 S0 w0 Tryz.f98 (Yj r) [1,1,0,1,0] ⟨[(0,(Ym F)),(3,.one (.mp 8)),(4,(Yj z)),(9,(Ym p)),(10,(Yj g)),(11,(Yj f))],[(8,.map 32 (encM (fun k=>.agg #[.bool k.fAddr.fV6,.int .u64 k.fAddr.fHi,.int .u64 k.fAddr.fLo,.int .i64 k.fBits]) (fun v=>(Yj v)) m8))]⟩:=by
 intro A;induction A with
 |zero=>
  intro z p g f m8 r b;simp[Zek]at b
 |succ A C=>
  intro z p g f m8 r b;unfold Zek at b;obtain⟨B,b⟩|⟨B,b⟩:=Zae b
  .obtain⟨G,b⟩:=Zap b;obtain⟨D,b⟩|⟨D,b⟩:=Zae b
   .exact Ye 17 [rz,rz,rB [(2,true)],rz,rz] [true,true] (lI [0,3,4,9,10,11] [8]) (lU B G D (mo true)) (C f p g (Zan f 1) m8 r b)
   .obtain⟨h,I,b⟩:=Zad b;obtain⟨H,b⟩:=Zap b;obtain⟨o,t,J,L,b⟩:=Yt b;obtain⟨u,M,b⟩:=Zad b;obtain⟨O,E,b⟩:=Zad b
    let R1:List RA:=[rz,rz,⟨[(7,aG (Zaj.c h)),(8,aI (mget m8 h (0:Int))),(16,aG (Zaj.c o)),(17,aI (mget m8 o (0:Int))),(18,aI t),(24,aI u),(26,aI O)],[(2,false)],[],[],[],[(25,(([t,u]:List Int).length,Zal lP (0:Int) ([t,u]:List Int)))],[]⟩,rz]
    have O2:Obl _:=(.c B (.c G (.c D (.c (Zmo _ _ I) (.c (show ZmY Tryz.prog 32 (.agg #[.bool h.fAddr.fV6,.int .u64 h.fAddr.fHi,.int .u64 h.fAddr.fLo,.int .i64 h.fBits]) ((encM (fun k=>.agg #[.bool k.fAddr.fV6,.int .u64 k.fAddr.fHi,.int .u64 k.fAddr.fLo,.int .i64 k.fBits]) (fun v=>(Yj v)) m8).map (·.1))from(Zkr h m8)) (l5 (show Zwx (encM (fun k=>.agg #[.bool k.fAddr.fV6,.int .u64 k.fAddr.fHi,.int .u64 k.fAddr.fLo,.int .i64 k.fBits]) (fun v=>(Yj v)) m8) (.agg #[.bool h.fAddr.fV6,.int .u64 h.fAddr.fHi,.int .u64 h.fAddr.fLo,.int .i64 h.fBits]) (.int .i64 (0)) ((Yj (mget m8 h (0:Int))))from(Zys (kv:=(fun k=>.agg #[.bool k.fAddr.fV6,.int .u64 k.fAddr.fHi,.int .u64 k.fAddr.fLo,.int .i64 k.fBits])) (vv:=(fun v=>(Yj v))) Zix (fun S w m=>RepC.lit) h m8)) H (Zmo _ _ J) (show ZmY Tryz.prog 32 (.agg #[.bool o.fAddr.fV6,.int .u64 o.fAddr.fHi,.int .u64 o.fAddr.fLo,.int .i64 o.fBits]) ((encM (fun k=>.agg #[.bool k.fAddr.fV6,.int .u64 k.fAddr.fHi,.int .u64 k.fAddr.fLo,.int .i64 k.fBits]) (fun v=>(Yj v)) m8).map (·.1))from(Zkr o m8)) (show Zwx (encM (fun k=>.agg #[.bool k.fAddr.fV6,.int .u64 k.fAddr.fHi,.int .u64 k.fAddr.fLo,.int .i64 k.fBits]) (fun v=>(Yj v)) m8) (.agg #[.bool o.fAddr.fV6,.int .u64 o.fAddr.fHi,.int .u64 o.fAddr.fLo,.int .i64 o.fBits]) (.int .i64 (0)) ((Yj (mget m8 o (0:Int))))from(Zys (kv:=(fun k=>.agg #[.bool k.fAddr.fV6,.int .u64 k.fAddr.fHi,.int .u64 k.fAddr.fLo,.int .i64 k.fBits])) (vv:=(fun v=>(Yj v))) Zix (fun S w m=>RepC.lit) o m8)) (Zdk _ _ _ L) H (Zum _ _ _ M) (ml (e:=lP) (0:Int) 1 (fun _=>rfl) ([t,u]:List Int)) (ZhT _ _ E)))))));obtain⟨y,b⟩|⟨y,b⟩:=Zae b
    .exact Ye 17 (R1++[rz]) [true,true] (lI [0,3,4,9,10,11] [8]) (l8 O2 y) (C f p g (Zan f 1) m8 r b)
    .exact Ye 17 R1 [true,false] (lI [0,3,4,9,10,11] [8]) (l8 O2 y) (C z p g (Zan f 1) m8 r b)
  .apply Ya b 8 [rz,rz] [false] (lR B)
def Zkg(b:List Zaa):Option Int:=(ZkN b).bind fun d=>Zek b (((b.length:Int)-(0:Int)).toNat+2) (-1:Int) b (b.length:Int) (0:Int) d
theorem ZvK(b:List Zaa)(r:Int)(d:Zkg b=some r):Yo 98 [Ym b] (Yj r):=by
 refine Yu Tryz.func98 fun S0 w0=>?_;unfold Zkg at d;obtain⟨e,f,d⟩:=Zad d;exact Ye 8 [rz,rH [] [(1,⟨[],[(99999,8)],[(99999,.map 32 (encM (fun k=>.agg #[.bool k.fAddr.fV6,.int .u64 k.fAddr.fHi,.int .u64 k.fAddr.fLo,.int .i64 k.fBits]) (fun v=>(Yj v)) e))],.one (.mp 99999)⟩)],rz] [] (lI [0,3,4,9,10,11] [8]) (lR (ZtD _ _ f)) (ZsG S0 w0 b (((b.length:Int)-(0:Int)).toNat+2) (-1:Int) b (b.length:Int) (0:Int) e r d)
def Zef(f:List Zaa)(g:Zax)(h:Int):Option (Zai×Bool):=(ZfX f g h).bind fun e=>(Zkg e).bind fun b=>bif(decide (b<(0:Int)))then some ((Zai.mk (Zaf.mk false 0 0) 0),false)else need (0<=b/\b<(e.length:Int))<|some ((e.getD b.toNat Zaa.d).fEnd,true)
theorem Zln(e:List Zaa)(f:Zax)(g:Int)(r:(Zai×Bool))(b:Zef e f g=some r):Yo 38 [Ym e,.agg (Zax.c f),.one (.lit (.int .u64 g))] (.tup [(true,Zai.c r.1),(false,cB r.2)]):=by
 refine Yu Tryz.func38 fun S0 w0=>?_;unfold Zef at b;obtain⟨h,i,b⟩:=Zad b;obtain⟨j,o,b⟩:=Zad b
 let R1:List RA:=[rz,rA [(3,.r (Ym h) [])],rA [(1,aI j)],rz,rz]
 have O2:=(lS (Zqt _ _ _ _ i) (ZvK _ _ o));obtain⟨d,b⟩|⟨d,b⟩:=Zae b
 .apply Ya b 12 R1 [true] (l8 O2 d)
 .obtain⟨p,b⟩:=Zap b;apply Ya b 13 R1 [false] (l9 O2 d p)
def Zcy(b:List Zaa)(f e:Int):Option (List Zaa):=need (0<=f/\f<=e/\e<=(b.length:Int)/\(b.length:Int)<=(b.length:Int))<|bif(f==e)then some b else need (0<=(0:Int)/\(0:Int)<=f/\f<=(b.length:Int))<|need (0<=e/\e<=(b.length:Int)/\(b.length:Int)<=(b.length:Int))<|need (e.toNat+(b.length-e.toNat)<=b.length/\f.toNat+(b.length-e.toNat)<=b.length)<|need (0<=(((f.toNat+(b.length-e.toNat)):Nat):Int)/\(((f.toNat+(b.length-e.toNat)):Nat):Int)<=(b.length:Int)/\((0:Nat):Int)+(b.length:Int)<=(b.length:Int))<|need ((0+(((f.toNat+(b.length-e.toNat)):Nat):Int).toNat)+((b.length:Int).toNat-(((f.toNat+(b.length-e.toNat)):Nat):Int).toNat)<=(appL b f.toNat e.toNat (b.length-e.toNat)).length)<|need ((f.toNat+(b.length-e.toNat))<=(Zjz (appL b f.toNat e.toNat (b.length-e.toNat)) (0+(((f.toNat+(b.length-e.toNat)):Nat):Int).toNat) ((b.length:Int).toNat-(((f.toNat+(b.length-e.toNat)):Nat):Int).toNat) Zaa.d).length)<|some ((Zjz (appL b f.toNat e.toNat (b.length-e.toNat)) (0+(((f.toNat+(b.length-e.toNat)):Nat):Int).toNat) ((b.length:Int).toNat-(((f.toNat+(b.length-e.toNat)):Nat):Int).toNat) Zaa.d).take (f.toNat+(b.length-e.toNat)))
theorem ZjD(b:List Zaa)(f e:Int)(r:List Zaa)(g:Zcy b f e=some r):Yp 297 [(lL 100000 44 10 Zaa.c Zaa.d b)] [.one (.osl 100000 b.length),Yj f,Yj e] [(lL 99999 44 10 Zaa.c Zaa.d r)] (.one (.osl 99999 r.length)):=by
 refine Yv Tryz.func297 fun S0 w0=>?_;unfold Zcy at g;obtain⟨o1,g⟩:=Zap g;obtain⟨o,g⟩|⟨o,g⟩:=Zae g
 .apply Yc g 10 [rz,rz,rz,rz] [true] (lK [6] [100000] [(100000,99999)]) (lS o1 o)
 .obtain⟨u,v,g⟩:=Ys g;obtain⟨h,y,g⟩:=Ys g;obtain⟨t,z,g⟩:=Ys g;apply Yc g 17 [rz,rz,rz,rz,rA [(6,.r (.one (.sl 10 (appL b f.toNat e.toNat (b.length-e.toNat)).length (Zal Zaa.c Zaa.d (appL b f.toNat e.toNat (b.length-e.toNat))))) [])],rA [(5,.c (Zjz (appL b f.toNat e.toNat (b.length-e.toNat)) (0+(((f.toNat+(b.length-e.toNat)):Nat):Int).toNat) ((b.length:Int).toNat-(((f.toNat+(b.length-e.toNat)):Nat):Int).toNat) Zaa.d).length (Zal Zaa.c Zaa.d (Zjz (appL b f.toNat e.toNat (b.length-e.toNat)) (0+(((f.toNat+(b.length-e.toNat)):Nat):Int).toNat) ((b.length:Int).toNat-(((f.toNat+(b.length-e.toNat)):Nat):Int).toNat) Zaa.d)))],rA [(1,.c ((Zjz (appL b f.toNat e.toNat (b.length-e.toNat)) (0+(((f.toNat+(b.length-e.toNat)):Nat):Int).toNat) ((b.length:Int).toNat-(((f.toNat+(b.length-e.toNat)):Nat):Int).toNat) Zaa.d).take (f.toNat+(b.length-e.toNat))).length (Zal Zaa.c Zaa.d ((Zjz (appL b f.toNat e.toNat (b.length-e.toNat)) (0+(((f.toNat+(b.length-e.toNat)):Nat):Int).toNat) ((b.length:Int).toNat-(((f.toNat+(b.length-e.toNat)):Nat):Int).toNat) Zaa.d).take (f.toNat+(b.length-e.toNat)))))]] [false] (lK [6] [6] [(6,99999)]) (.c o1 (.c o (.c u (.c v (.c (show (appL b f.toNat e.toNat (b.length-e.toNat)).length=b.length from(ZHJ _ _ _ _ h)) (.c (mo 0) (l5 h.2 (show ∀p q,p<b.length->q<10->(p<f.toNat\/f.toNat+(b.length-e.toNat)<=p)->Zal Zaa.c Zaa.d (appL b f.toNat e.toNat (b.length-e.toNat)) p q=Zal Zaa.c Zaa.d b p q from(ZKE _ _ _ _ h)) (show ∀p q,p<(b.length-e.toNat)->q<10->Zal Zaa.c Zaa.d (appL b f.toNat e.toNat (b.length-e.toNat)) (f.toNat+p) q=Zal Zaa.c Zaa.d b (e.toNat+p) q from(ZKF _ _ _ _ h)) y (show (Zjz (appL b f.toNat e.toNat (b.length-e.toNat)) (0+(((f.toNat+(b.length-e.toNat)):Nat):Int).toNat) ((b.length:Int).toNat-(((f.toNat+(b.length-e.toNat)):Nat):Int).toNat) Zaa.d).length=(appL b f.toNat e.toNat (b.length-e.toNat)).length from(Zwm _ _ _ _ t)) (show ∀i j,i<(appL b f.toNat e.toNat (b.length-e.toNat)).length->j<10->(i<(0+(((f.toNat+(b.length-e.toNat)):Nat):Int).toNat)\/(0+(((f.toNat+(b.length-e.toNat)):Nat):Int).toNat)+((b.length:Int).toNat-(((f.toNat+(b.length-e.toNat)):Nat):Int).toNat)<=i)->Zal Zaa.c Zaa.d (Zjz (appL b f.toNat e.toNat (b.length-e.toNat)) (0+(((f.toNat+(b.length-e.toNat)):Nat):Int).toNat) ((b.length:Int).toNat-(((f.toNat+(b.length-e.toNat)):Nat):Int).toNat) Zaa.d) i j=Zal Zaa.c Zaa.d (appL b f.toNat e.toNat (b.length-e.toNat)) i j from(ZHz _ _ _ t)) (show ∀i j,i<((b.length:Int).toNat-(((f.toNat+(b.length-e.toNat)):Nat):Int).toNat)->j<10->ZrD (([.lit (.bool false),.lit (.int .u64 (0)),.lit (.int .u64 (0)),.lit (.int .i64 (0)),.lit (.bool false),.lit (.int .i64 (0)),.lit (.int .i64 (0)),.lit (.int .i64 (0)),.lit (.int .i64 (0)),.lit (.int .i64 (0))]:List C).getD j .junk) (Zal Zaa.c Zaa.d (Zjz (appL b f.toNat e.toNat (b.length-e.toNat)) (0+(((f.toNat+(b.length-e.toNat)):Nat):Int).toNat) ((b.length:Int).toNat-(((f.toNat+(b.length-e.toNat)):Nat):Int).toNat) Zaa.d) ((0+(((f.toNat+(b.length-e.toNat)):Nat):Int).toNat)+i) j)from(ZHA _ _ _ t (fun j hj=>.inl rfl))) (mo 0) (show ((Zjz (appL b f.toNat e.toNat (b.length-e.toNat)) (0+(((f.toNat+(b.length-e.toNat)):Nat):Int).toNat) ((b.length:Int).toNat-(((f.toNat+(b.length-e.toNat)):Nat):Int).toNat) Zaa.d).take (f.toNat+(b.length-e.toNat))).length=(f.toNat+(b.length-e.toNat))from(ZFx _ _ z)) (show ∀i j,i<(f.toNat+(b.length-e.toNat))->j<10->Zal Zaa.c Zaa.d ((Zjz (appL b f.toNat e.toNat (b.length-e.toNat)) (0+(((f.toNat+(b.length-e.toNat)):Nat):Int).toNat) ((b.length:Int).toNat-(((f.toNat+(b.length-e.toNat)):Nat):Int).toNat) Zaa.d).take (f.toNat+(b.length-e.toNat))) i j=Zal Zaa.c Zaa.d (Zjz (appL b f.toNat e.toNat (b.length-e.toNat)) (0+(((f.toNat+(b.length-e.toNat)):Nat):Int).toNat) ((b.length:Int).toNat-(((f.toNat+(b.length-e.toNat)):Nat):Int).toNat) Zaa.d) i j from(ZCz _ _)))))))))
def ZlK(d:List Zaa)(e:Zai):Option ((List Zaa)×Int):=(ZiW d e).bind fun b=>bif(decide (b<(0:Int)))then some (([]:(List Zaa)),(6:Int))else(Zbb d).bind fun f=>(Zcy f b (Zan b 1)).bind fun g=>some (g,(0:Int))
theorem ZvG(h:List Zaa)(i:Zai)(r:((List Zaa)×Int))(b:ZlK h i=some r):Yo 224 [Ym h,.agg (Zai.c i)] (.tup [(false,(cLs 10 Zaa.c Zaa.d) r.1),(false,lP r.2)]):=by
 refine Yu Tryz.func224 fun S0 w0=>?_;unfold ZlK at b;obtain⟨j,o,b⟩:=Zad b;obtain⟨e,b⟩|⟨e,b⟩:=Zae b
 .apply Yb b 10 [rz,rA [(2,aI j)],rz,rz] [true] [] [] [(4,[(0,cL 10 Zaa.c Zaa.d [])])] (lS (Zkw _ _ _ o) e)
 .obtain⟨f,g,p,t,b⟩:=Yt b;apply Yb b 11 [rz,rA [(2,aI j)],rz,rH [] [(1,⟨[],[(99999,13)],[(lL 99999 44 10 Zaa.c Zaa.d f)],.one (.osl 99999 f.length)⟩),(5,⟨[(100000,13)],[(99999,17)],[(lL 99999 44 10 Zaa.c Zaa.d g)],.one (.osl 99999 g.length)⟩)]] [false] [17] [] [] (lU (Zkw _ _ _ o) e (Zce _ _ p) (ZjD _ _ _ _ t))
def ZgE(e:ZaP):Option (Zao×ZaP):=(ZfW e).bind fun b=>bif(decide (b.1>(0:Int)))then some ((Zao.mk 8 (Zai.mk (Zaf.mk false 0 0) 0) 0 b.1 ([]:(List Zaa))),b.2)else(ZiW b.2.fs.fPeers b.2.fx.fEnd).bind fun f=>bif(decide (f>=(0:Int)))then(Zja (7:Int)).bind fun g=>some (g,b.2)else(Zhi b.2.fs.fPeers true).bind fun h=>bif(decide (h<b.2.fc.fMaxIn))then(Zfv b.2 true).bind fun i=>some ((Zao.mk 0 (Zai.mk (Zaf.mk false 0 0) 0) 0 0 ([]:(List Zaa))),i)else(Zef b.2.fs.fPeers b.2.fc.fQuota b.2.fc.fSecret).bind fun d=>bif(!d.2)then(Zja (5:Int)).bind fun j=>some (j,b.2)else(ZlK b.2.fs.fPeers d.1).bind fun n=>(Zfv (ZaP.mk b.2.fc (Zam.mk b.2.fs.fBans b.2.fs.fBook n.1) b.2.fx) true).bind fun o=>some ((Zao.mk 0 d.1 1 0 ([]:(List Zaa))),o)
theorem Zpd(t:ZaP)(r:(Zao×ZaP))(b:ZgE t=some r):Yp 159 [(100000,.box (ZaP.c t))] [.one (.ptr 100000 0)] [(100000,.box (ZaP.c r.2))] (.agg (Zao.c r.1)):=by
 refine Yv Tryz.func159 fun S0 w0=>?_;unfold ZgE at b;obtain⟨u,v,b⟩:=Zad b
 let R1:List RA:=[rz,rH [] [(1,⟨[(100000,100000)],[],[(100000,.box (ZaP.c u.2))],(Yj u.1)⟩)],rz]
 obtain⟨g,b⟩|⟨g,b⟩:=Zae b
 .obtain rfl:=oi b;exact Yd 10 (R1++[rz]) [true] (lJ [(2,[(7,cL 10 Zaa.c Zaa.d [])])] [2] [2,100000]) (lS (ZiK _ _ v) g)
 .obtain⟨h,C,b⟩:=Zad b;have O2:=(lT (ZiK _ _ v) g (Zkw _ _ _ C));obtain⟨f,b⟩|⟨f,b⟩:=Zae b
  .obtain⟨D,E,b⟩:=Zad b;obtain rfl:=oi b;exact Yd 15 (R1++[rA [(10,aI h)],rA [(0,aG (Zao.c D))]]) [false,true] (lI [2] [2,100000]) (l9 O2 f (ZkB _ _ E))
  .obtain⟨y,z,b⟩:=Zad b;obtain⟨i,b⟩|⟨i,b⟩:=Zae b
   .obtain⟨F,G,b⟩:=Zad b;obtain rfl:=oi b;exact Yd 22 (R1++[rA [(10,aI h)],rA [(5,aI y)],rH [] [(1,⟨[(100000,100000)],[],[(100000,.box (ZaP.c F))],.tup []⟩)],rz]) [false,false,true] (lJ [(2,[(7,cL 10 Zaa.c Zaa.d [])])] [2] [2,100000]) (mc O2 f (Ziz _ _ _ z) i (ZkC _ _ _ G))
   .obtain⟨A,H,b⟩:=Zad b
    let R3:List RA:=(R1++[rA [(10,aI h)],rA [(5,aI y)],rA [(15,.r (.tup [(true,Zai.c A.1),(false,cB A.2)]) [])],rz])
    have O4:=(mc O2 f (Ziz _ _ _ z) i (Zln _ _ _ _ H));obtain⟨e,b⟩|⟨e,b⟩:=Zae b
    .obtain⟨I,j,b⟩:=Zad b;obtain rfl:=oi b;exact Yd 27 (R3++[rA [(0,aG (Zao.c I))]]) [false,false,false,true] (lI [2] [2,100000]) (l9 O4 e (ZkB _ _ j))
    .obtain⟨B,J,o,p,b⟩:=Yt b;obtain rfl:=oi b;exact Yd 32 (R3++[rA [(7,.r (.tup [(false,(cLs 10 Zaa.c Zaa.d) B.1),(false,lP B.2)]) [])],rH [] [(1,⟨[(100000,100000)],[],[(100000,.box (ZaP.c J))],.tup []⟩)],rz]) [false,false,false,false] (lJ [(2,[(7,cL 10 Zaa.c Zaa.d [])])] [2] [2,100000]) (ma O4 e (ZvG _ _ _ o) (ZkC _ _ _ p))
def ZhW(h:List Zac)(i:Int):Nat->(List Zac)->Int->Int->(List Zac)->Option ((List Zac)×Int)|0,_,_,_,_=>none|fu+1,e,f,b,g=>bif(decide (b<f))then need (0<=b/\b<(e.length:Int))<|(ZmR (e.getD b.toNat Zac.d) i).bind fun j=>bif j then need ((g++([(e.getD b.toNat Zac.d)]:List Zac)).length * 40<=140737488355328/\(g++([(e.getD b.toNat Zac.d)]:List Zac)).length<=maxLen)<|ZhW h i fu e f (Zan b 1) (g++([(e.getD b.toNat Zac.d)]:List Zac))else ZhW h i fu e f (Zan b 1) g else some (g,(ZaJ (h.length:Int) (g.length:Int)))
theorem ZsP(v:List Zac)(y:Int):∀(p:Nat)(g:List Zac)(h b:Int)(o:List Zac)(r:((List Zac)×Int)),ZhW v y p g h b o=some r->Yq 29 S0 w0 Tryz.f167 (.tup [(false,(cLs 5 Zac.c Zac.d) r.1),(false,lP r.2)]) [1,1,0,1,0] ⟨[(0,(Yl v)),(1,(Yj y)),(6,.one (.osl 6 o.length)),(9,(Yl g)),(10,(Yj h)),(11,(Yj b))],[(lL 6 94 5 Zac.c Zac.d o)]⟩:=by
 intro p;induction p with
 |zero=>
  intro g h b o r f;simp[ZhW]at f
 |succ p z=>
  intro g h b o r f;unfold ZhW at f;obtain⟨t,f⟩|⟨t,f⟩:=Zae f
  .obtain⟨C,f⟩:=Zap f;obtain⟨A,D,f⟩:=Zad f;have O1:=(lT t C (Zrx _ _ _ D));obtain⟨u,f⟩|⟨u,f⟩:=Zae f
   .obtain⟨B,f⟩:=Zap f;exact Ye 17 [rz,rz,rA [(2,aB A)],⟨[(3,.c ((o++([(g.getD b.toNat Zac.d)]:List Zac)).length) (Zal Zac.c Zac.d (o++([(g.getD b.toNat Zac.d)]:List Zac))))],[],[],[],[],[(2,(([(g.getD b.toNat Zac.d)]:List Zac).length,Zal Zac.c Zac.d ([(g.getD b.toNat Zac.d)]:List Zac)))],[]⟩,rz] [true,true] (lK [0,1,6,9,10,11] [21] [(21,6)]) (md O1 u (ml (e:=Zac.c) Zac.d 5 (fun _=>rfl) ([(g.getD b.toNat Zac.d)]:List Zac)) (ZcO (sz:=5) (e:=Zac.c) (d:=Zac.d) o ([(g.getD b.toNat Zac.d)]:List Zac)) B.1 B.2) (z g h (Zan b 1) (o++([(g.getD b.toNat Zac.d)]:List Zac)) r f)
   .exact Ye 17 [rz,rz,rA [(2,aB A)],rz] [true,false] (lI [0,1,6,9,10,11] [6]) (l8 O1 u) (z g h (Zan b 1) o r f)
  .apply Yb f 8 [rz,rz] [false] [6] [] [] (lR t)
def ZqI(b:List Zac)(d:Int):Option ((List Zac)×Int):=ZhW b d (((b.length:Int)-(0:Int)).toNat+2) b (b.length:Int) (0:Int) ([])
theorem ZvQ(b:List Zac)(e:Int)(r:((List Zac)×Int))(f:ZqI b e=some r):Yo 167 [Yl b,Yj e] (.tup [(false,(cLs 5 Zac.c Zac.d) r.1),(false,lP r.2)]):=by
 refine Yu Tryz.func167 fun S0 w0=>?_;unfold ZqI at f;exact Ye 8 [rz,rz,rz] [] ⟨[],[],[],[],[(6,6,94,5,Zal Zac.c Zac.d [])],[0,1,6,9,10,11],[6],[]⟩ .n (ZsP S0 w0 b e (((b.length:Int)-(0:Int)).toNat+2) b (b.length:Int) (0:Int) ([]) r f)
def ZkD(b:ZaP):Option (Zao×ZaP):=bif(b.fx.fKind==(1:Int))then(ZgE b).bind fun d=>some (d.1,d.2)else bif(b.fx.fKind==(2:Int))then none else bif(b.fx.fKind==(3:Int))then none else bif(b.fx.fKind==(4:Int))then none else bif(b.fx.fKind==(5:Int))then none else bif(b.fx.fKind==(6:Int))then none else bif(b.fx.fKind==(7:Int))then none else bif(b.fx.fKind==(8:Int))then(ZfW b).bind fun e=>some ((Zao.mk 0 (Zai.mk (Zaf.mk false 0 0) 0) 0 e.1 ([]:(List Zaa))),e.2)else bif(b.fx.fKind==(9:Int))then(ZqI b.fs.fBans b.fx.fNow).bind fun f=>some ((Zao.mk 0 (Zai.mk (Zaf.mk false 0 0) 0) f.2 0 ([]:(List Zaa))),(ZaP.mk b.fc (Zam.mk f.1 b.fs.fBook b.fs.fPeers) b.fx))else bif(b.fx.fKind==(10:Int))then none else bif(b.fx.fKind==(11:Int))then none else bif(b.fx.fKind==(12:Int))then none else none
theorem ZrP(t:ZaP)(r:(Zao×ZaP))(b:ZkD t=some r):Yp 86 [(100000,.box (ZaP.c t))] [.one (.ptr 100000 0)] [(100000,.box (ZaP.c r.2))] (.agg (Zao.c r.1)):=by
 refine Yv Tryz.func86 fun S0 w0=>?_;unfold ZkD at b;obtain⟨f,b⟩|⟨f,b⟩:=Zae b
 .obtain⟨u,F,b⟩:=Zad b;obtain rfl:=oi b;exact Yd 11 [rz,rz,rz,rH [] [(1,⟨[(100000,100000)],[],[(100000,.box (ZaP.c u.2))],.agg (Zao.c u.1)⟩)]] [true] (lI [2] [2,100000]) (lS f (Zpd _ _ F))
 .obtain⟨v,b⟩|⟨v,b⟩:=Zae b
  .cases b
  .obtain⟨y,b⟩|⟨y,b⟩:=Zae b
   .cases b
   .obtain⟨z,b⟩|⟨z,b⟩:=Zae b
    .cases b
    .obtain⟨A,b⟩|⟨A,b⟩:=Zae b
     .cases b
     .obtain⟨B,b⟩|⟨B,b⟩:=Zae b
      .cases b
      .obtain⟨C,b⟩|⟨C,b⟩:=Zae b
       .cases b
       .have O1:=(lX f v y z A B C);obtain⟨g,b⟩|⟨g,b⟩:=Zae b
        .obtain⟨D,h,b⟩:=Zad b;obtain rfl:=oi b;exact Yd 32 [rz,rz,rz,rz,rz,rz,rz,rz,rz,rz,rH [] [(1,⟨[(100000,100000)],[],[(100000,.box (ZaP.c D.2))],(Yj D.1)⟩)]] [false,false,false,false,false,false,false,true] (lJ [(2,[(7,cL 10 Zaa.c Zaa.d [])])] [2] [2,100000]) (l9 O1 g (ZiK _ _ h))
        .obtain⟨e,b⟩|⟨e,b⟩:=Zae b
         .obtain⟨E,i,b⟩:=Zad b;obtain rfl:=oi b;exact Yd 39 [rz,rz,rz,rz,rz,rz,rz,rz,rz,rz,rz,rA [(10,.r (.tup [(false,(cLs 5 Zac.c Zac.d) E.1),(false,lP E.2)]) [])],rz,rz] [false,false,false,false,false,false,false,false,true] (lJ [(2,[(7,cL 10 Zaa.c Zaa.d [])])] [2] [2,100000]) (ma O1 g e (ZvQ _ _ _ i))
         .obtain⟨j,b⟩|⟨j,b⟩:=Zae b
          .cases b
          .obtain⟨o,b⟩|⟨o,b⟩:=Zae b
           .cases b
           .obtain⟨p,b⟩|⟨p,b⟩:=Zae b
            .cases b
            .cases b
def Zmx(f:Zav)(b:Zam)(d:Zar):Option (Zam×Zao):=(ZlU d).bind fun g=>bif(!g)then(Zja (1:Int)).bind fun h=>some (b,h)else(ZkD (ZaP.mk f b d)).bind fun e=>some (e.2.fs,e.1)
theorem ZsD(e:Zav)(f:Zam)(g:Zar)(r:(Zam×Zao))(b:Zmx e f g=some r):Yo 29 [.agg (Zav.c e),.agg (Zam.c f),.agg (Zar.c g)] (.tup [(true,Zam.c r.1),(true,Zao.c r.2)]):=by
 refine Yu Tryz.func29 fun S0 w0=>?_;unfold Zmx at b;obtain⟨h,i,b⟩:=Zad b;obtain⟨d,b⟩|⟨d,b⟩:=Zae b
 .obtain⟨o,p,b⟩:=Zad b;apply Ya b 8 [rz,rA [(1,aB h)],rA [(1,aG (Zao.c o))]] [true] (lT (ZqE _ _ i) d (ZkB _ _ p))
 .obtain⟨j,t,b⟩:=Zad b;apply Ya b 13 [rz,rA [(1,aB h)],rz,rH [] [(1,⟨[(100000,19)],[],[(100000,.box (ZaP.c j.2))],.agg (Zao.c j.1)⟩)],rz] [false] (lT (ZqE _ _ i) d (ZrP _ _ t))
def ZjP:Nat->(List Zar)->Int->Int->(List Zao)->Zav->Zam->Zam->Option (Zam×(List Zao))|0,_,_,_,_,_,_,_=>none|fu+1,e,f,b,g,i,j,n=>bif(decide (b<f))then need (0<=b/\b<(e.length:Int))<|(Zmx i j (e.getD b.toNat Zar.d)).bind fun h=>need ((g++([h.2]:List Zao)).length * 80<=140737488355328/\(g++([h.2]:List Zao)).length<=maxLen)<|ZjP fu e f (Zan b 1) (g++([h.2]:List Zao)) i h.1 n else some (j,g)
theorem ZtC:∀(y:Nat)(h:List Zar)(o p:Int)(t:List Zao)(b:Zav)(v u:Zam)(r:(Zam×(List Zao))),ZjP y h o p t b v u=some r->Yq 34 S0 w0 Tryz.f31 (.tup [(true,Zam.c r.1),(false,(cLs 8 Zao.c Zao.d) r.2)]) [1,1,0,1,0] ⟨[(3,.one (.ptr 3 0)),(4,.one (.ptr 4 0)),(6,.one (.ptr 6 0)),(8,.one (.osl 8 t.length)),(13,.one (cL 12 Zar.c Zar.d h)),(14,(Yj o)),(15,(Yj p))],[(lL 8 56 8 Zao.c Zao.d t),(3,.box (Zav.c b)),(4,.box (Zam.c v)),(6,.box (Zam.c u))]⟩:=by
 intro y;induction y with
 |zero=>
  intro h o p t b v u r f;simp[ZjP]at f
 |succ y B=>
  intro h o p t b v u r f;unfold ZjP at f;obtain⟨z,f⟩|⟨z,f⟩:=Zae f
  .obtain⟨C,f⟩:=Zap f;obtain⟨g,D,f⟩:=Zad f;obtain⟨A,f⟩:=Zap f;exact Ye 16 [rz,rz,rA [(3,.r (.tup [(true,Zam.c g.1),(true,Zao.c g.2)]) [])],⟨[(4,.c ((t++([g.2]:List Zao)).length) (Zal Zao.c Zao.d (t++([g.2]:List Zao))))],[],[],[],[],[(3,(([g.2]:List Zao).length,Zal Zao.c Zao.d ([g.2]:List Zao)))],[]⟩,rz] [true] (lK [3,4,6,8,13,14,15] [30,3,4,6] [(30,8)]) (lX z C (ZsD _ _ _ _ D) (ml (e:=Zao.c) Zao.d 8 (fun _=>rfl) ([g.2]:List Zao)) (ZcO (sz:=8) (e:=Zao.c) (d:=Zao.d) t ([g.2]:List Zao)) A.1 A.2) (B h o (Zan p 1) (t++([g.2]:List Zao)) b g.1 u r f)
  .apply Yb f 8 [rz,rz] [false] [8] [] [] (lR z)
def ZrQ(d:Zav)(e:Zam)(b:List Zar):Option (Zam×(List Zao)):=ZjP (((b.length:Int)-(0:Int)).toNat+2) b (b.length:Int) (0:Int) ([]) d e (Zam.mk ([]:(List Zac)) ([]:(List Zab)) ([]:(List Zaa)))
theorem ZwH(e:Zav)(f:Zam)(b:List Zar)(r:(Zam×(List Zao)))(g:ZrQ e f b=some r):Yo 31 [.agg (Zav.c e),.agg (Zam.c f),.one (cL 12 Zar.c Zar.d b)] (.tup [(true,Zam.c r.1),(false,(cLs 8 Zao.c Zao.d) r.2)]):=by
 refine Yu Tryz.func31 fun S0 w0=>?_;unfold ZrQ at g;exact Ye 8 [rz,rz,rz] [] ⟨[],[(6,[(0,cL 5 Zac.c Zac.d []),(1,cL 7 Zab.c Zab.d []),(2,cL 10 Zaa.c Zaa.d [])])],[],[],[(8,8,56,8,Zal Zao.c Zao.d [])],[3,4,6,8,13,14,15],[8,3,4,6],[]⟩ .n (ZtC S0 w0 (((b.length:Int)-(0:Int)).toNat+2) b (b.length:Int) (0:Int) ([]) e f Zam.d r g)
def ZtE(b:Zav):Option (Zau×Zau×Zau×Zau×Zau×Zau×Zau×Zau×Zau×Zau×Zau×Zau×Zau×Zau×Zau×Zau):=some ((Zau.mk (⟨#[105,110]⟩ : ByteArray) b.fMaxIn 0 65535),(Zau.mk (⟨#[111,117,116]⟩ : ByteArray) b.fMaxOut 0 65535),(Zau.mk (⟨#[115,104,97,114,100,115]⟩ : ByteArray) b.fShards 1 8),(Zau.mk (⟨#[98,97,110,115]⟩ : ByteArray) b.fMaxBans 0 1024),(Zau.mk (⟨#[98,111,111,107]⟩ : ByteArray) b.fMaxBook 0 1024),(Zau.mk (⟨#[115,101,99,114,101,116]⟩ : ByteArray) (IntKind.wrap .i64 (IntKind.wrap .u64 (((BitVec.ofInt (IntKind.bits .u64) b.fSecret) &&& (BitVec.ofInt (IntKind.bits .u64) (9223372036854775807:Int))).toNat:Int))) 0 9223372036854775807),(Zau.mk (⟨#[103,114,111,117,112]⟩ : ByteArray) b.fQuota.fGroup 0 64),(Zau.mk (⟨#[112,105,110,103]⟩ : ByteArray) b.fQuota.fPing 0 64),(Zau.mk (⟨#[119,111,114,107]⟩ : ByteArray) b.fQuota.fWork 0 64),(Zau.mk (⟨#[116,105,109,101]⟩ : ByteArray) b.fQuota.fTime 0 64),(Zau.mk (⟨#[104,97,108,102]⟩ : ByteArray) b.fHalf 1 1073741824),(Zau.mk (⟨#[108,105,109,105,116]⟩ : ByteArray) b.fLimit 1 10000),(Zau.mk (⟨#[98,97,110,102,111,114]⟩ : ByteArray) b.fBanFor 1 1073741824),(Zau.mk (⟨#[98,97,115,101]⟩ : ByteArray) b.fBase 1 1073741824),(Zau.mk (⟨#[99,97,112]⟩ : ByteArray) b.fCap b.fBase 1073741824),(Zau.mk (⟨#[106,105,116,116,101,114]⟩ : ByteArray) b.fJitter 0 1073741824))
theorem ZyB(b:Zav)(r:(Zau×Zau×Zau×Zau×Zau×Zau×Zau×Zau×Zau×Zau×Zau×Zau×Zau×Zau×Zau×Zau))(d:ZtE b=some r):Yo 172 [.agg (Zav.c b)] (.agg ((cP Zau.c (cP Zau.c (cP Zau.c (cP Zau.c (cP Zau.c (cP Zau.c (cP Zau.c (cP Zau.c (cP Zau.c (cP Zau.c (cP Zau.c (cP Zau.c (cP Zau.c (cP Zau.c (cP Zau.c Zau.c))))))))))))))) r)):=by
 refine Yu Tryz.func172 fun S0 w0=>?_;unfold ZtE at d;apply Ya d 6 [rz,rz,rz] [] .n
def ZbG:Nat->(Zau×Zau×Zau×Zau×Zau×Zau×Zau×Zau×Zau×Zau×Zau×Zau×Zau×Zau×Zau×Zau)->Int->Option Bool|0,_,_=>none|fu+1,b,d=>bif(decide (d<(16:Int)))then need (0<=d/\d<((16:Nat):Int))<|ix1 d 0 ( bif(decide (b.1.fn<b.1.ffrom))then some false else bif(decide (b.1.fn>b.1.fto))then some false else ZbG fu b (Zan (0:Int) (1:Int)))<|ix1 d 1 ( bif(decide (b.2.1.fn<b.2.1.ffrom))then some false else bif(decide (b.2.1.fn>b.2.1.fto))then some false else ZbG fu b (Zan (1:Int) (1:Int)))<|ix1 d 2 ( bif(decide (b.2.2.1.fn<b.2.2.1.ffrom))then some false else bif(decide (b.2.2.1.fn>b.2.2.1.fto))then some false else ZbG fu b (Zan (2:Int) (1:Int)))<|ix1 d 3 ( bif(decide (b.2.2.2.1.fn<b.2.2.2.1.ffrom))then some false else bif(decide (b.2.2.2.1.fn>b.2.2.2.1.fto))then some false else ZbG fu b (Zan (3:Int) (1:Int)))<|ix1 d 4 ( bif(decide (b.2.2.2.2.1.fn<b.2.2.2.2.1.ffrom))then some false else bif(decide (b.2.2.2.2.1.fn>b.2.2.2.2.1.fto))then some false else ZbG fu b (Zan (4:Int) (1:Int)))<|ix1 d 5 ( bif(decide (b.2.2.2.2.2.1.fn<b.2.2.2.2.2.1.ffrom))then some false else bif(decide (b.2.2.2.2.2.1.fn>b.2.2.2.2.2.1.fto))then some false else ZbG fu b (Zan (5:Int) (1:Int)))<|ix1 d 6 ( bif(decide (b.2.2.2.2.2.2.1.fn<b.2.2.2.2.2.2.1.ffrom))then some false else bif(decide (b.2.2.2.2.2.2.1.fn>b.2.2.2.2.2.2.1.fto))then some false else ZbG fu b (Zan (6:Int) (1:Int)))<|ix1 d 7 ( bif(decide (b.2.2.2.2.2.2.2.1.fn<b.2.2.2.2.2.2.2.1.ffrom))then some false else bif(decide (b.2.2.2.2.2.2.2.1.fn>b.2.2.2.2.2.2.2.1.fto))then some false else ZbG fu b (Zan (7:Int) (1:Int)))<|ix1 d 8 ( bif(decide (b.2.2.2.2.2.2.2.2.1.fn<b.2.2.2.2.2.2.2.2.1.ffrom))then some false else bif(decide (b.2.2.2.2.2.2.2.2.1.fn>b.2.2.2.2.2.2.2.2.1.fto))then some false else ZbG fu b (Zan (8:Int) (1:Int)))<|ix1 d 9 ( bif(decide (b.2.2.2.2.2.2.2.2.2.1.fn<b.2.2.2.2.2.2.2.2.2.1.ffrom))then some false else bif(decide (b.2.2.2.2.2.2.2.2.2.1.fn>b.2.2.2.2.2.2.2.2.2.1.fto))then some false else ZbG fu b (Zan (9:Int) (1:Int)))<|ix1 d 10 ( bif(decide (b.2.2.2.2.2.2.2.2.2.2.1.fn<b.2.2.2.2.2.2.2.2.2.2.1.ffrom))then some false else bif(decide (b.2.2.2.2.2.2.2.2.2.2.1.fn>b.2.2.2.2.2.2.2.2.2.2.1.fto))then some false else ZbG fu b (Zan (10:Int) (1:Int)))<|ix1 d 11 ( bif(decide (b.2.2.2.2.2.2.2.2.2.2.2.1.fn<b.2.2.2.2.2.2.2.2.2.2.2.1.ffrom))then some false else bif(decide (b.2.2.2.2.2.2.2.2.2.2.2.1.fn>b.2.2.2.2.2.2.2.2.2.2.2.1.fto))then some false else ZbG fu b (Zan (11:Int) (1:Int)))<|ix1 d 12 ( bif(decide (b.2.2.2.2.2.2.2.2.2.2.2.2.1.fn<b.2.2.2.2.2.2.2.2.2.2.2.2.1.ffrom))then some false else bif(decide (b.2.2.2.2.2.2.2.2.2.2.2.2.1.fn>b.2.2.2.2.2.2.2.2.2.2.2.2.1.fto))then some false else ZbG fu b (Zan (12:Int) (1:Int)))<|ix1 d 13 ( bif(decide (b.2.2.2.2.2.2.2.2.2.2.2.2.2.1.fn<b.2.2.2.2.2.2.2.2.2.2.2.2.2.1.ffrom))then some false else bif(decide (b.2.2.2.2.2.2.2.2.2.2.2.2.2.1.fn>b.2.2.2.2.2.2.2.2.2.2.2.2.2.1.fto))then some false else ZbG fu b (Zan (13:Int) (1:Int)))<|ix1 d 14 ( bif(decide (b.2.2.2.2.2.2.2.2.2.2.2.2.2.2.1.fn<b.2.2.2.2.2.2.2.2.2.2.2.2.2.2.1.ffrom))then some false else bif(decide (b.2.2.2.2.2.2.2.2.2.2.2.2.2.2.1.fn>b.2.2.2.2.2.2.2.2.2.2.2.2.2.2.1.fto))then some false else ZbG fu b (Zan (14:Int) (1:Int)))<|bif(decide (b.2.2.2.2.2.2.2.2.2.2.2.2.2.2.2.fn<b.2.2.2.2.2.2.2.2.2.2.2.2.2.2.2.ffrom))then some false else bif(decide (b.2.2.2.2.2.2.2.2.2.2.2.2.2.2.2.fn>b.2.2.2.2.2.2.2.2.2.2.2.2.2.2.2.fto))then some false else ZbG fu b (Zan (15:Int) (1:Int))else some true
theorem ZsH:∀(fu:Nat)(d:(Zau×Zau×Zau×Zau×Zau×Zau×Zau×Zau×Zau×Zau×Zau×Zau×Zau×Zau×Zau×Zau))(h:Int)(r:Bool),ZbG fu d h=some r->Yq 26 S0 w0 Tryz.f87 (Yk r) [1,1,0,1,0] ⟨[(9,.agg [.lit (.string d.1.fword),.lit (.int .i64 d.1.fn),.lit (.int .i64 d.1.ffrom),.lit (.int .i64 d.1.fto),.lit (.string d.2.1.fword),.lit (.int .i64 d.2.1.fn),.lit (.int .i64 d.2.1.ffrom),.lit (.int .i64 d.2.1.fto),.lit (.string d.2.2.1.fword),.lit (.int .i64 d.2.2.1.fn),.lit (.int .i64 d.2.2.1.ffrom),.lit (.int .i64 d.2.2.1.fto),.lit (.string d.2.2.2.1.fword),.lit (.int .i64 d.2.2.2.1.fn),.lit (.int .i64 d.2.2.2.1.ffrom),.lit (.int .i64 d.2.2.2.1.fto),.lit (.string d.2.2.2.2.1.fword),.lit (.int .i64 d.2.2.2.2.1.fn),.lit (.int .i64 d.2.2.2.2.1.ffrom),.lit (.int .i64 d.2.2.2.2.1.fto),.lit (.string d.2.2.2.2.2.1.fword),.lit (.int .i64 d.2.2.2.2.2.1.fn),.lit (.int .i64 d.2.2.2.2.2.1.ffrom),.lit (.int .i64 d.2.2.2.2.2.1.fto),.lit (.string d.2.2.2.2.2.2.1.fword),.lit (.int .i64 d.2.2.2.2.2.2.1.fn),.lit (.int .i64 d.2.2.2.2.2.2.1.ffrom),.lit (.int .i64 d.2.2.2.2.2.2.1.fto),.lit (.string d.2.2.2.2.2.2.2.1.fword),.lit (.int .i64 d.2.2.2.2.2.2.2.1.fn),.lit (.int .i64 d.2.2.2.2.2.2.2.1.ffrom),.lit (.int .i64 d.2.2.2.2.2.2.2.1.fto),.lit (.string d.2.2.2.2.2.2.2.2.1.fword),.lit (.int .i64 d.2.2.2.2.2.2.2.2.1.fn),.lit (.int .i64 d.2.2.2.2.2.2.2.2.1.ffrom),.lit (.int .i64 d.2.2.2.2.2.2.2.2.1.fto),.lit (.string d.2.2.2.2.2.2.2.2.2.1.fword),.lit (.int .i64 d.2.2.2.2.2.2.2.2.2.1.fn),.lit (.int .i64 d.2.2.2.2.2.2.2.2.2.1.ffrom),.lit (.int .i64 d.2.2.2.2.2.2.2.2.2.1.fto),.lit (.string d.2.2.2.2.2.2.2.2.2.2.1.fword),.lit (.int .i64 d.2.2.2.2.2.2.2.2.2.2.1.fn),.lit (.int .i64 d.2.2.2.2.2.2.2.2.2.2.1.ffrom),.lit (.int .i64 d.2.2.2.2.2.2.2.2.2.2.1.fto),.lit (.string d.2.2.2.2.2.2.2.2.2.2.2.1.fword),.lit (.int .i64 d.2.2.2.2.2.2.2.2.2.2.2.1.fn),.lit (.int .i64 d.2.2.2.2.2.2.2.2.2.2.2.1.ffrom),.lit (.int .i64 d.2.2.2.2.2.2.2.2.2.2.2.1.fto),.lit (.string d.2.2.2.2.2.2.2.2.2.2.2.2.1.fword),.lit (.int .i64 d.2.2.2.2.2.2.2.2.2.2.2.2.1.fn),.lit (.int .i64 d.2.2.2.2.2.2.2.2.2.2.2.2.1.ffrom),.lit (.int .i64 d.2.2.2.2.2.2.2.2.2.2.2.2.1.fto),.lit (.string d.2.2.2.2.2.2.2.2.2.2.2.2.2.1.fword),.lit (.int .i64 d.2.2.2.2.2.2.2.2.2.2.2.2.2.1.fn),.lit (.int .i64 d.2.2.2.2.2.2.2.2.2.2.2.2.2.1.ffrom),.lit (.int .i64 d.2.2.2.2.2.2.2.2.2.2.2.2.2.1.fto),.lit (.string d.2.2.2.2.2.2.2.2.2.2.2.2.2.2.1.fword),.lit (.int .i64 d.2.2.2.2.2.2.2.2.2.2.2.2.2.2.1.fn),.lit (.int .i64 d.2.2.2.2.2.2.2.2.2.2.2.2.2.2.1.ffrom),.lit (.int .i64 d.2.2.2.2.2.2.2.2.2.2.2.2.2.2.1.fto),.lit (.string d.2.2.2.2.2.2.2.2.2.2.2.2.2.2.2.fword),.lit (.int .i64 d.2.2.2.2.2.2.2.2.2.2.2.2.2.2.2.fn),.lit (.int .i64 d.2.2.2.2.2.2.2.2.2.2.2.2.2.2.2.ffrom),.lit (.int .i64 d.2.2.2.2.2.2.2.2.2.2.2.2.2.2.2.fto)]),(10,(Yj h))],[]⟩:=by
 intro fu;induction fu with
 |zero=>
  intro d h r b;simp[ZbG]at b
 |succ fu g=>
  intro d h r b;unfold ZbG at b;obtain⟨f,b⟩|⟨f,b⟩:=Zae b
  .obtain⟨o4,b⟩:=Zap b;rcases ZgV b with⟨e,b⟩|⟨o4_0,b⟩
   .subst e;have O1:=(lS f (show 0<=(0:Int)/\(0:Int)<((16:Nat):Int)from(by decide)));obtain⟨h5,b⟩|⟨h5,b⟩:=Zae b
    .apply Ya b 15 [rz,rz,rB [(5,true)],rz] [true,true] (l9 O1 h5 (mo true))
    .obtain⟨h6,b⟩|⟨h6,b⟩:=Zae b
     .apply Ya b 15 [rz,rz,rB [(5,false)],rz] [true,true] (l9 O1 h5 h6)
     .exact Ye 17 [rz,rz,rB [(5,false)],rz] [true,false] (Yi [9,10]) (l9 O1 h5 h6) (g d (Zan (0:Int) (1:Int)) r b)
   rcases ZgV b with⟨e,b⟩|⟨o4_1,b⟩
   .subst e;have O2:=(lS f (show 0<=(1:Int)/\(1:Int)<((16:Nat):Int)from(by decide)));obtain⟨h7,b⟩|⟨h7,b⟩:=Zae b
    .apply Ya b 15 [rz,rz,rB [(5,true)],rz] [true,true] (l9 O2 h7 (mo true))
    .obtain⟨h8,b⟩|⟨h8,b⟩:=Zae b
     .apply Ya b 15 [rz,rz,rB [(5,false)],rz] [true,true] (l9 O2 h7 h8)
     .exact Ye 17 [rz,rz,rB [(5,false)],rz] [true,false] (Yi [9,10]) (l9 O2 h7 h8) (g d (Zan (1:Int) (1:Int)) r b)
   rcases ZgV b with⟨e,b⟩|⟨o4_2,b⟩
   .subst e;have O3:=(lS f (show 0<=(2:Int)/\(2:Int)<((16:Nat):Int)from(by decide)));obtain⟨h9,b⟩|⟨h9,b⟩:=Zae b
    .apply Ya b 15 [rz,rz,rB [(5,true)],rz] [true,true] (l9 O3 h9 (mo true))
    .obtain⟨E,b⟩|⟨E,b⟩:=Zae b
     .apply Ya b 15 [rz,rz,rB [(5,false)],rz] [true,true] (l9 O3 h9 E)
     .exact Ye 17 [rz,rz,rB [(5,false)],rz] [true,false] (Yi [9,10]) (l9 O3 h9 E) (g d (Zan (2:Int) (1:Int)) r b)
   rcases ZgV b with⟨e,b⟩|⟨o4_3,b⟩
   .subst e;have O4:=(lS f (show 0<=(3:Int)/\(3:Int)<((16:Nat):Int)from(by decide)));obtain⟨i,b⟩|⟨i,b⟩:=Zae b
    .apply Ya b 15 [rz,rz,rB [(5,true)],rz] [true,true] (l9 O4 i (mo true))
    .obtain⟨F,b⟩|⟨F,b⟩:=Zae b
     .apply Ya b 15 [rz,rz,rB [(5,false)],rz] [true,true] (l9 O4 i F)
     .exact Ye 17 [rz,rz,rB [(5,false)],rz] [true,false] (Yi [9,10]) (l9 O4 i F) (g d (Zan (3:Int) (1:Int)) r b)
   rcases ZgV b with⟨e,b⟩|⟨o4_4,b⟩
   .subst e;have O5:=(lS f (show 0<=(4:Int)/\(4:Int)<((16:Nat):Int)from(by decide)));obtain⟨j,b⟩|⟨j,b⟩:=Zae b
    .apply Ya b 15 [rz,rz,rB [(5,true)],rz] [true,true] (l9 O5 j (mo true))
    .obtain⟨G,b⟩|⟨G,b⟩:=Zae b
     .apply Ya b 15 [rz,rz,rB [(5,false)],rz] [true,true] (l9 O5 j G)
     .exact Ye 17 [rz,rz,rB [(5,false)],rz] [true,false] (Yi [9,10]) (l9 O5 j G) (g d (Zan (4:Int) (1:Int)) r b)
   rcases ZgV b with⟨e,b⟩|⟨o4_5,b⟩
   .subst e;have O6:=(lS f (show 0<=(5:Int)/\(5:Int)<((16:Nat):Int)from(by decide)));obtain⟨o,b⟩|⟨o,b⟩:=Zae b
    .apply Ya b 15 [rz,rz,rB [(5,true)],rz] [true,true] (l9 O6 o (mo true))
    .obtain⟨H,b⟩|⟨H,b⟩:=Zae b
     .apply Ya b 15 [rz,rz,rB [(5,false)],rz] [true,true] (l9 O6 o H)
     .exact Ye 17 [rz,rz,rB [(5,false)],rz] [true,false] (Yi [9,10]) (l9 O6 o H) (g d (Zan (5:Int) (1:Int)) r b)
   rcases ZgV b with⟨e,b⟩|⟨o4_6,b⟩
   .subst e;have O7:=(lS f (show 0<=(6:Int)/\(6:Int)<((16:Nat):Int)from(by decide)));obtain⟨p,b⟩|⟨p,b⟩:=Zae b
    .apply Ya b 15 [rz,rz,rB [(5,true)],rz] [true,true] (l9 O7 p (mo true))
    .obtain⟨I,b⟩|⟨I,b⟩:=Zae b
     .apply Ya b 15 [rz,rz,rB [(5,false)],rz] [true,true] (l9 O7 p I)
     .exact Ye 17 [rz,rz,rB [(5,false)],rz] [true,false] (Yi [9,10]) (l9 O7 p I) (g d (Zan (6:Int) (1:Int)) r b)
   rcases ZgV b with⟨e,b⟩|⟨o4_7,b⟩
   .subst e;have O8:=(lS f (show 0<=(7:Int)/\(7:Int)<((16:Nat):Int)from(by decide)));obtain⟨t,b⟩|⟨t,b⟩:=Zae b
    .apply Ya b 15 [rz,rz,rB [(5,true)],rz] [true,true] (l9 O8 t (mo true))
    .obtain⟨J,b⟩|⟨J,b⟩:=Zae b
     .apply Ya b 15 [rz,rz,rB [(5,false)],rz] [true,true] (l9 O8 t J)
     .exact Ye 17 [rz,rz,rB [(5,false)],rz] [true,false] (Yi [9,10]) (l9 O8 t J) (g d (Zan (7:Int) (1:Int)) r b)
   rcases ZgV b with⟨e,b⟩|⟨o4_8,b⟩
   .subst e;have O9:=(lS f (show 0<=(8:Int)/\(8:Int)<((16:Nat):Int)from(by decide)));obtain⟨u,b⟩|⟨u,b⟩:=Zae b
    .apply Ya b 15 [rz,rz,rB [(5,true)],rz] [true,true] (l9 O9 u (mo true))
    .obtain⟨L,b⟩|⟨L,b⟩:=Zae b
     .apply Ya b 15 [rz,rz,rB [(5,false)],rz] [true,true] (l9 O9 u L)
     .exact Ye 17 [rz,rz,rB [(5,false)],rz] [true,false] (Yi [9,10]) (l9 O9 u L) (g d (Zan (8:Int) (1:Int)) r b)
   rcases ZgV b with⟨e,b⟩|⟨o4_9,b⟩
   .subst e;have gD:=(lS f (show 0<=(9:Int)/\(9:Int)<((16:Nat):Int)from(by decide)));obtain⟨v,b⟩|⟨v,b⟩:=Zae b
    .apply Ya b 15 [rz,rz,rB [(5,true)],rz] [true,true] (l9 gD v (mo true))
    .obtain⟨M,b⟩|⟨M,b⟩:=Zae b
     .apply Ya b 15 [rz,rz,rB [(5,false)],rz] [true,true] (l9 gD v M)
     .exact Ye 17 [rz,rz,rB [(5,false)],rz] [true,false] (Yi [9,10]) (l9 gD v M) (g d (Zan (9:Int) (1:Int)) r b)
   rcases ZgV b with⟨e,b⟩|⟨o4_10,b⟩
   .subst e;have lp:=(lS f (show 0<=(10:Int)/\(10:Int)<((16:Nat):Int)from(by decide)));obtain⟨y,b⟩|⟨y,b⟩:=Zae b
    .apply Ya b 15 [rz,rz,rB [(5,true)],rz] [true,true] (l9 lp y (mo true))
    .obtain⟨O,b⟩|⟨O,b⟩:=Zae b
     .apply Ya b 15 [rz,rz,rB [(5,false)],rz] [true,true] (l9 lp y O)
     .exact Ye 17 [rz,rz,rB [(5,false)],rz] [true,false] (Yi [9,10]) (l9 lp y O) (g d (Zan (10:Int) (1:Int)) r b)
   rcases ZgV b with⟨e,b⟩|⟨o4_11,b⟩
   .subst e;have d9:=(lS f (show 0<=(11:Int)/\(11:Int)<((16:Nat):Int)from(by decide)));obtain⟨z,b⟩|⟨z,b⟩:=Zae b
    .apply Ya b 15 [rz,rz,rB [(5,true)],rz] [true,true] (l9 d9 z (mo true))
    .obtain⟨R,b⟩|⟨R,b⟩:=Zae b
     .apply Ya b 15 [rz,rz,rB [(5,false)],rz] [true,true] (l9 d9 z R)
     .exact Ye 17 [rz,rz,rB [(5,false)],rz] [true,false] (Yi [9,10]) (l9 d9 z R) (g d (Zan (11:Int) (1:Int)) r b)
   rcases ZgV b with⟨e,b⟩|⟨o4_12,b⟩
   .subst e;have f4:=(lS f (show 0<=(12:Int)/\(12:Int)<((16:Nat):Int)from(by decide)));obtain⟨A,b⟩|⟨A,b⟩:=Zae b
    .apply Ya b 15 [rz,rz,rB [(5,true)],rz] [true,true] (l9 f4 A (mo true))
    .obtain⟨U,b⟩|⟨U,b⟩:=Zae b
     .apply Ya b 15 [rz,rz,rB [(5,false)],rz] [true,true] (l9 f4 A U)
     .exact Ye 17 [rz,rz,rB [(5,false)],rz] [true,false] (Yi [9,10]) (l9 f4 A U) (g d (Zan (12:Int) (1:Int)) r b)
   rcases ZgV b with⟨e,b⟩|⟨o4_13,b⟩
   .subst e;have f5:=(lS f (show 0<=(13:Int)/\(13:Int)<((16:Nat):Int)from(by decide)));obtain⟨B,b⟩|⟨B,b⟩:=Zae b
    .apply Ya b 15 [rz,rz,rB [(5,true)],rz] [true,true] (l9 f5 B (mo true))
    .obtain⟨V,b⟩|⟨V,b⟩:=Zae b
     .apply Ya b 15 [rz,rz,rB [(5,false)],rz] [true,true] (l9 f5 B V)
     .exact Ye 17 [rz,rz,rB [(5,false)],rz] [true,false] (Yi [9,10]) (l9 f5 B V) (g d (Zan (13:Int) (1:Int)) r b)
   rcases ZgV b with⟨e,b⟩|⟨o4_14,b⟩
   .subst e;have fE:=(lS f (show 0<=(14:Int)/\(14:Int)<((16:Nat):Int)from(by decide)));obtain⟨C,b⟩|⟨C,b⟩:=Zae b
    .apply Ya b 15 [rz,rz,rB [(5,true)],rz] [true,true] (l9 fE C (mo true))
    .obtain⟨W,b⟩|⟨W,b⟩:=Zae b
     .apply Ya b 15 [rz,rz,rB [(5,false)],rz] [true,true] (l9 fE C W)
     .exact Ye 17 [rz,rz,rB [(5,false)],rz] [true,false] (Yi [9,10]) (l9 fE C W) (g d (Zan (14:Int) (1:Int)) r b)
   obtain rfl:h=15:=by omega
   have iD:=(lS f (show 0<=(15:Int)/\(15:Int)<((16:Nat):Int)from(by decide)));obtain⟨D,b⟩|⟨D,b⟩:=Zae b
   .apply Ya b 15 [rz,rz,rB [(5,true)],rz] [true,true] (l9 iD D (mo true))
   .obtain⟨Z,b⟩|⟨Z,b⟩:=Zae b
    .apply Ya b 15 [rz,rz,rB [(5,false)],rz] [true,true] (l9 iD D Z)
    .exact Ye 17 [rz,rz,rB [(5,false)],rz] [true,false] (Yi [9,10]) (l9 iD D Z) (g d (Zan (15:Int) (1:Int)) r b)
  .apply Ya b 8 [rz,rz] [false] (lR f)
def ZqD(b:Zav):Option Bool:=bif(decide (b.fSecret>(9223372036854775807:Int)))then some false else(ZtE b).bind fun d=>ZbG (((16:Int)-(0:Int)).toNat+2) d (0:Int)
theorem ZqC(e:Zav)(r:Bool)(b:ZqD e=some r):Yo 87 [.agg (Zav.c e)] (Yk r):=by
 refine Yu Tryz.func87 fun S0 w0=>?_;unfold ZqD at b;obtain⟨d,b⟩|⟨d,b⟩:=Zae b
 .apply Ya b 8 [rz,rz,rz] [true] (lR d)
 .obtain⟨f,g,b⟩:=Zad b;exact Ye 11 [rz,rz,rA [(1,aG ((cP Zau.c (cP Zau.c (cP Zau.c (cP Zau.c (cP Zau.c (cP Zau.c (cP Zau.c (cP Zau.c (cP Zau.c (cP Zau.c (cP Zau.c (cP Zau.c (cP Zau.c (cP Zau.c (cP Zau.c Zau.c))))))))))))))) f))]] [false] (Yi [9,10]) (lS d (ZyB _ _ g)) (ZsH S0 w0 (((16:Int)-(0:Int)).toNat+2) f (0:Int) r b)
def ZrU(b:Zac):Option Bool:=(Zhu b.fNet).bind fun d=>bif d then bif(decide (b.fUntil>=(1:Int)))then some (decide (b.fUntil<=(1099511627776:Int)))else some false else some false
theorem ZwL(h:Zac)(r:Bool)(b:ZrU h=some r):Yo 173 [.agg (Zac.c h)] (Yk r):=by
 refine Yu Tryz.func173 fun S0 w0=>?_;unfold ZrU at b;obtain⟨e,f,b⟩:=Zad b;obtain⟨d,b⟩|⟨d,b⟩:=Zae b
 .obtain⟨g,b⟩|⟨g,b⟩:=Zae b
  .apply Ya b 4 [rz,⟨[(2,aB e)],[(3,true),(8,true)],[],[],[],[],[]⟩] [] (lT (ZcH _ _ f) d g)
  .apply Ya b 4 [rz,⟨[(2,aB e)],[(3,true),(8,false)],[],[],[],[],[]⟩] [] (lT (ZcH _ _ f) d g)
 .apply Ya b 4 [rz,⟨[(2,aB e)],[(3,false)],[],[],[],[],[]⟩] [] (lS (ZcH _ _ f) d)
def ZnX(b d:Zaj):Option Int:=(ZiH b.fAddr d.fAddr).bind fun e=>(Zcf b.fBits d.fBits).bind fun f=>(Zew ([e,f]:List Int)).bind fun g=>some g
theorem ZtF(h o:Zaj)(r:Int)(g:ZnX h o=some r):Yo 174 [.agg (Zaj.c h),.agg (Zaj.c o)] (Yj r):=by
 refine Yu Tryz.func174 fun S0 w0=>?_;unfold ZnX at g;obtain⟨b,f,p,t,g⟩:=Yt g;obtain⟨u,v,g⟩:=Zad g;apply Ya g 4 [rz,⟨[(4,aI b),(9,aI f),(11,aI u)],[],[],[],[],[(10,(([b,f]:List Int).length,Zal lP (0:Int) ([b,f]:List Int)))],[]⟩] [] (lU (ZoK _ _ _ p) (Zdk _ _ _ t) (ml (e:=lP) (0:Int) 1 (fun _=>rfl) ([b,f]:List Int)) (ZhT _ _ v))
def cmpN(a b:Zaj):Int:=orI (cmpA a.fAddr b.fAddr) (cmpI a.fBits b.fBits)
theorem ZHv{a b:Zaj}:cmpN a b<0↔cmpA a.fAddr b.fAddr<0\/(a.fAddr=b.fAddr/\a.fBits<b.fBits):=by simp only[cmpN,Zxi,ZtM,ZoN]
theorem ZKy{a b:Zaj}:0<cmpN a b↔0<cmpA a.fAddr b.fAddr\/(a.fAddr=b.fAddr/\b.fBits<a.fBits):=by simp only[cmpN,Zxj,ZtN,ZoN]
theorem ZkV{a b:Zaj}:cmpN a b=0↔a=b:=by
 simp only[cmpN,ZuB,Zjj,ZoN];obtain⟨x,p⟩:=a;obtain⟨y,q⟩:=b;simp
theorem Zte{a b:Zaj}:0<cmpN a b↔cmpN b a<0:=by
 rw[ZKy,ZHv,ZAv];constructor<;>rintro (h|⟨d,e⟩)<;>first|exact .inl h|exact .inr ⟨d.symm,e⟩
theorem Zrg{a b c:Zaj}(d:cmpN a b<0)(e:cmpN b c<0):cmpN a c<0:=by
 rw[ZHv]at *
 rcases d with d|⟨d,f⟩<;>rcases e with e|⟨e,g⟩
 .exact .inl (ZxI d e)
 .exact .inl (e ▸ d)
 .exact .inl (d ▸ e)
 .exact .inr ⟨d.trans e,by omega⟩
theorem ltN(a b:Zaj):Go.Proofs.ltOf cmpN a b=decide (cmpN a b<0):=by
 unfold Go.Proofs.ltOf;rfl
theorem ZIX:Go.Sort.SWO (Go.Proofs.ltOf cmpN) where
 irrefl x:=by rw[ltN];simp[(ZkV (a:=x) (b:=x)).2 rfl]
 trans x y z d e:=by
  rw[ltN,decide_eq_true_eq]at *
  exact Zrg d e
 ntrans x y z d e:=by
  rw[ltN,decide_eq_false_iff_not]at *
  intro h;have e1:cmpN x y=0\/0<cmpN x y:=by omega
  have e2:cmpN y z=0\/0<cmpN y z:=by omega
  rcases e1 with e1|e1
  .rw[ZkV]at e1;subst e1;omega
  .rcases e2 with e2|e2
   .rw[ZkV]at e2;subst e2;omega
   .have f:=Zrg (Zte.1 e2) (Zte.1 e1);have g:=Zte.2 f;omega
def ZhX(f:List Zac):Nat->(List Zac)->Int->Int->Option Bool|0,_,_,_=>none|fu+1,e,g,b=>bif(decide (b<g))then need (0<=b/\b<(e.length:Int))<|(ZrU (e.getD b.toNat Zac.d)).bind fun h=>bif(!h)then some false else bif(decide (b>(0:Int)))then need (0<=(ZaJ b (1:Int))/\(ZaJ b (1:Int))<(f.length:Int))<|(ZnX ((f.getD (ZaJ b (1:Int)).toNat Zac.d).fNet) ((e.getD b.toNat Zac.d).fNet)).bind fun i=>bif(decide (i>=(0:Int)))then some false else ZhX f fu e g (Zan b 1)else ZhX f fu e g (Zan b 1)else some true
theorem ZsQ(t:List Zac):∀(g:Nat)(d:List Zac)(e f:Int)(r:Bool),ZhX t g d e f=some r->Yq 32 S0 w0 Tryz.f88 (Yk r) [1,0,1,0] ⟨[(0,(Yl t)),(5,(Yl d)),(6,(Yj e)),(7,(Yj f))],[]⟩:=by
 intro g;induction g with
 |zero=>
  intro d e f r b;simp[ZhX]at b
 |succ g u=>
  intro d e f r b;unfold ZhX at b;obtain⟨i,b⟩|⟨i,b⟩:=Zae b
  .obtain⟨v,b⟩:=Zap b;obtain⟨j,y,b⟩:=Zad b;have O1:=(lT i v (ZwL _ _ y));obtain⟨h,b⟩|⟨h,b⟩:=Zae b
   .apply Ya b 15 [rz,rz,⟨[(1,aB j)],[(3,true)],[],[],[],[],[]⟩,rz] [true,true] (l9 O1 h (mo true))
   .obtain⟨o,b⟩|⟨o,b⟩:=Zae b
    .obtain⟨z,b⟩:=Zap b;obtain⟨A,B,b⟩:=Zad b
     let R2:List RA:=[rz,rz,⟨[(1,aB j),(15,aI A)],[(3,false),(6,true)],[],[],[],[],[]⟩,rz]
     have O3:=(mc O1 h o z (ZtF _ _ _ B));obtain⟨p,b⟩|⟨p,b⟩:=Zae b
     .apply Ya b 15 R2 [true,true] (l8 O3 p)
     .exact Ye 17 R2 [true,false] (Yi [0,5,6,7]) (l8 O3 p) (u d e (Zan f 1) r b)
    .exact Ye 17 [rz,rz,⟨[(1,aB j)],[(3,false),(6,false)],[],[],[],[],[]⟩,rz] [true,false] (Yi [0,5,6,7]) (ma O1 h o (mo false)) (u d e (Zan f 1) r b)
  .apply Ya b 8 [rz,rz] [false] (lR i)
def ZqJ(b:List Zac):Option Bool:=ZhX b (((b.length:Int)-(0:Int)).toNat+2) b (b.length:Int) (0:Int)
theorem ZvR(b:List Zac)(r:Bool)(d:ZqJ b=some r):Yo 88 [Yl b] (Yk r):=by
 refine Yu Tryz.func88 fun S0 w0=>?_;unfold ZqJ at d;exact Ye 6 [rz,rz] [] (Yi [0,5,6,7]) .n (ZsQ S0 w0 b (((b.length:Int)-(0:Int)).toNat+2) b (b.length:Int) (0:Int) r d)
def Zim(b:Zab):Option Bool:=bif(decide (b.fState>=(1:Int)))then(Zic b.fEnd).bind fun d=>bif d then bif(decide (b.fState<=(3:Int)))then bif(decide (b.fFails>=(0:Int)))then bif(decide (b.fFails<=(1000:Int)))then(Zer b.fNext).bind fun e=>some (b.fNext==e)else some false else some false else some false else some false else(Zic b.fEnd).bind fun f=>bif f then some false else some false
theorem Zul(o:Zab)(r:Bool)(b:Zim o=some r):Yo 102 [.agg (Zab.c o)] (Yk r):=by
 refine Yu Tryz.func102 fun S0 w0=>?_;unfold Zim at b;obtain⟨d,b⟩|⟨d,b⟩:=Zae b
 .obtain⟨e,p,b⟩:=Zad b;obtain⟨h,b⟩|⟨h,b⟩:=Zae b
  .have O1:=(lT d (ZgF _ _ p) h);obtain⟨f,b⟩|⟨f,b⟩:=Zae b
   .obtain⟨g,b⟩|⟨g,b⟩:=Zae b
    .obtain⟨i,b⟩|⟨i,b⟩:=Zae b
     .obtain⟨v,y,b⟩:=Zad b;apply Ya b 6 [rz,rB [(3,true)],⟨[(2,aB e),(21,aI v)],[(3,true),(6,true),(11,true),(16,true)],[],[],[],[],[]⟩] [] (mc O1 f g i (ZtX _ _ y))
     .apply Ya b 6 [rz,rB [(3,true)],⟨[(2,aB e)],[(3,true),(6,true),(11,true),(16,false)],[],[],[],[],[]⟩] [] (ma O1 f g i)
    .apply Ya b 6 [rz,rB [(3,true)],⟨[(2,aB e)],[(3,true),(6,true),(11,false)],[],[],[],[],[]⟩] [] (l9 O1 f g)
   .apply Ya b 6 [rz,rB [(3,true)],⟨[(2,aB e)],[(3,true),(6,false)],[],[],[],[],[]⟩] [] (l8 O1 f)
  .apply Ya b 6 [rz,rB [(3,true)],⟨[(2,aB e)],[(3,false)],[],[],[],[],[]⟩] [] (lT d (ZgF _ _ p) h)
 .obtain⟨t,u,b⟩:=Zad b;obtain⟨j,b⟩|⟨j,b⟩:=Zae b
  .apply Ya b 6 [rz,rB [(3,false)],⟨[(2,aB t)],[(3,true)],[],[],[],[],[]⟩] [] (lT d (ZgF _ _ u) j)
  .apply Ya b 6 [rz,rB [(3,false)],⟨[(2,aB t)],[(3,false)],[],[],[],[],[]⟩] [] (lT d (ZgF _ _ u) j)
def ZhU(f:List Zab):Nat->(List Zab)->Int->Int->Option Bool|0,_,_,_=>none|fu+1,e,g,b=>bif(decide (b<g))then need (0<=b/\b<(e.length:Int))<|(Zim (e.getD b.toNat Zab.d)).bind fun h=>bif(!h)then some false else bif(decide (b>(0:Int)))then need (0<=(ZaJ b (1:Int))/\(ZaJ b (1:Int))<(f.length:Int))<|(ZfH ((f.getD (ZaJ b (1:Int)).toNat Zab.d).fEnd) ((e.getD b.toNat Zab.d).fEnd)).bind fun i=>bif(decide (i>=(0:Int)))then some false else ZhU f fu e g (Zan b 1)else ZhU f fu e g (Zan b 1)else some true
theorem ZsL(t:List Zab):∀(g:Nat)(d:List Zab)(e f:Int)(r:Bool),ZhU t g d e f=some r->Yq 32 S0 w0 Tryz.f89 (Yk r) [1,0,1,0] ⟨[(0,(Yn t)),(5,(Yn d)),(6,(Yj e)),(7,(Yj f))],[]⟩:=by
 intro g;induction g with
 |zero=>
  intro d e f r b;simp[ZhU]at b
 |succ g u=>
  intro d e f r b;unfold ZhU at b;obtain⟨i,b⟩|⟨i,b⟩:=Zae b
  .obtain⟨v,b⟩:=Zap b;obtain⟨j,y,b⟩:=Zad b;have O1:=(lT i v (Zul _ _ y));obtain⟨h,b⟩|⟨h,b⟩:=Zae b
   .apply Ya b 15 [rz,rz,⟨[(1,aB j)],[(3,true)],[],[],[],[],[]⟩,rz] [true,true] (l9 O1 h (mo true))
   .obtain⟨o,b⟩|⟨o,b⟩:=Zae b
    .obtain⟨z,b⟩:=Zap b;obtain⟨A,B,b⟩:=Zad b
     let R2:List RA:=[rz,rz,⟨[(1,aB j),(15,aI A)],[(3,false),(6,true)],[],[],[],[],[]⟩,rz]
     have O3:=(mc O1 h o z (Zjv _ _ _ B));obtain⟨p,b⟩|⟨p,b⟩:=Zae b
     .apply Ya b 15 R2 [true,true] (l8 O3 p)
     .exact Ye 17 R2 [true,false] (Yi [0,5,6,7]) (l8 O3 p) (u d e (Zan f 1) r b)
    .exact Ye 17 [rz,rz,⟨[(1,aB j)],[(3,false),(6,false)],[],[],[],[],[]⟩,rz] [true,false] (Yi [0,5,6,7]) (ma O1 h o (mo false)) (u d e (Zan f 1) r b)
  .apply Ya b 8 [rz,rz] [false] (lR i)
def ZqG(b:List Zab):Option Bool:=ZhU b (((b.length:Int)-(0:Int)).toNat+2) b (b.length:Int) (0:Int)
theorem ZqF(b:List Zab)(r:Bool)(d:ZqG b=some r):Yo 89 [Yn b] (Yk r):=by
 refine Yu Tryz.func89 fun S0 w0=>?_;unfold ZqG at d;exact Ye 6 [rz,rz] [] (Yi [0,5,6,7]) .n (ZsL S0 w0 b (((b.length:Int)-(0:Int)).toNat+2) b (b.length:Int) (0:Int) r d)
def Zhd(f:List Zaa):Nat->(List Zaa)->Int->Int->Option Bool|0,_,_,_=>none|fu+1,e,g,b=>bif(decide (b<g))then need (0<=b/\b<(e.length:Int))<|(ZiZ (e.getD b.toNat Zaa.d)).bind fun h=>bif(!h)then some false else bif(decide (b>(0:Int)))then need (0<=(ZaJ b (1:Int))/\(ZaJ b (1:Int))<(f.length:Int))<|(Zkv (f.getD (ZaJ b (1:Int)).toNat Zaa.d) (e.getD b.toNat Zaa.d)).bind fun i=>bif(decide (i>=(0:Int)))then some false else Zhd f fu e g (Zan b 1)else Zhd f fu e g (Zan b 1)else some true
theorem ZrH(t:List Zaa):∀(g:Nat)(d:List Zaa)(e f:Int)(r:Bool),Zhd t g d e f=some r->Yq 30 S0 w0 Tryz.f90 (Yk r) [1,0,1,0] ⟨[(0,(Ym t)),(5,(Ym d)),(6,(Yj e)),(7,(Yj f))],[]⟩:=by
 intro g;induction g with
 |zero=>
  intro d e f r b;simp[Zhd]at b
 |succ g u=>
  intro d e f r b;unfold Zhd at b;obtain⟨i,b⟩|⟨i,b⟩:=Zae b
  .obtain⟨v,b⟩:=Zap b;obtain⟨j,y,b⟩:=Zad b;have O1:=(lT i v (ZmI _ _ y));obtain⟨h,b⟩|⟨h,b⟩:=Zae b
   .apply Ya b 15 [rz,rz,⟨[(1,aB j)],[(3,true)],[],[],[],[],[]⟩,rz] [true,true] (l9 O1 h (mo true))
   .obtain⟨o,b⟩|⟨o,b⟩:=Zae b
    .obtain⟨z,b⟩:=Zap b;obtain⟨A,B,b⟩:=Zad b
     let R2:List RA:=[rz,rz,⟨[(1,aB j),(13,aI A)],[(3,false),(6,true)],[],[],[],[],[]⟩,rz]
     have O3:=(mc O1 h o z (ZpF _ _ _ B));obtain⟨p,b⟩|⟨p,b⟩:=Zae b
     .apply Ya b 15 R2 [true,true] (l8 O3 p)
     .exact Ye 17 R2 [true,false] (Yi [0,5,6,7]) (l8 O3 p) (u d e (Zan f 1) r b)
    .exact Ye 17 [rz,rz,⟨[(1,aB j)],[(3,false),(6,false)],[],[],[],[],[]⟩,rz] [true,false] (Yi [0,5,6,7]) (ma O1 h o (mo false)) (u d e (Zan f 1) r b)
  .apply Ya b 8 [rz,rz] [false] (lR i)
def Zpb(b:List Zaa):Option Bool:=Zhd b (((b.length:Int)-(0:Int)).toNat+2) b (b.length:Int) (0:Int)
theorem Zue(b:List Zaa)(r:Bool)(d:Zpb b=some r):Yo 90 [Ym b] (Yk r):=by
 refine Yu Tryz.func90 fun S0 w0=>?_;unfold Zpb at d;exact Ye 6 [rz,rz] [] (Yi [0,5,6,7]) .n (ZrH S0 w0 b (((b.length:Int)-(0:Int)).toNat+2) b (b.length:Int) (0:Int) r d)
def ZhV(f:Int):Nat->Int->(List Zab)->Int->Int->Option Int|0,_,_,_,_=>none|fu+1,g,e,h,b=>bif(decide (b<h))then need (0<=b/\b<(e.length:Int))<|bif((e.getD b.toNat Zab.d).fState==f)then ZhV f fu (Zan g 1) e h (Zan b 1)else ZhV f fu g e h (Zan b 1)else some g
theorem ZsM(o:Int):∀(h:Nat)(e:Int)(f:List Zab)(g d r:Int),ZhV o h e f g d=some r->Yq 22 S0 w0 Tryz.f178 (Yj r) [1,1,0,1,0] ⟨[(1,(Yj o)),(5,(Yj e)),(8,(Yn f)),(9,(Yj g)),(10,(Yj d))],[]⟩:=by
 intro h;induction h with
 |zero=>
  intro e f g d r b;simp[ZhV]at b
 |succ h p=>
  intro e f g d r b;unfold ZhV at b;obtain⟨i,b⟩|⟨i,b⟩:=Zae b
  .obtain⟨t,b⟩:=Zap b;obtain⟨j,b⟩|⟨j,b⟩:=Zae b
   .exact Ye 17 [rz,rz,rz,rz,rz] [true,true] (Yi [1,5,8,9,10]) (lT i t j) (p (Zan e 1) f g (Zan d 1) r b)
   .exact Ye 17 [rz,rz,rz,rz] [true,false] (Yi [1,5,8,9,10]) (lT i t j) (p e f g (Zan d 1) r b)
  .apply Ya b 8 [rz,rz] [false] (lR i)
def Znz(b:List Zab)(d:Int):Option Int:=ZhV d (((b.length:Int)-(0:Int)).toNat+2) (0:Int) b (b.length:Int) (0:Int)
theorem ZqH(b:List Zab)(d r:Int)(e:Znz b d=some r):Yo 178 [Yn b,Yj d] (Yj r):=by
 refine Yu Tryz.func178 fun S0 w0=>?_;unfold Znz at e;exact Ye 8 [rz,rz,rz] [] (Yi [1,5,8,9,10]) .n (ZsM S0 w0 d (((b.length:Int)-(0:Int)).toNat+2) (0:Int) b (b.length:Int) (0:Int) r e)
def ZmK(b:Zam):Option Int:=(Zhi b.fPeers false).bind fun d=>(Znz b.fBook (2:Int)).bind fun e=>some (Zan d e)
theorem Znv(d:Zam)(r:Int)(b:ZmK d=some r):Yo 92 [.agg (Zam.c d)] (Yj r):=by
 refine Yu Tryz.func92 fun S0 w0=>?_;unfold ZmK at b;obtain⟨e,f,g,h,b⟩:=Yt b;apply Ya b 4 [rz,rA [(2,aI e),(5,aI f)]] [] (lS (Ziz _ _ _ g) (ZqH _ _ _ h))
def Zpz(b:Zab)(c0:Zai):Option Bool:=some (decide (b.fEnd=c0))
theorem Zup(b:Zab)(c0:Zai)(r:Bool)(d:Zpz b c0=some r):Yo 253 [.agg (Zab.c b),.one (.rp false 4 (fun j=>(Zai.c c0:List C).getD (0+j) .junk))] (Yk r):=by
 refine Yu Tryz.func253 fun S0 w0=>?_;unfold Zpz at d;apply Ya d 4 [rz,rA [(3,aB (decide (b.fEnd=c0)))]] [] (lR (ZkU b.fEnd c0 (.tmp 5) (.tmp 6)))
def ZbE(f:List Zab)(b:Zai):Nat->Int->Int->Option Int|0,_,_=>none|fu+1,g,e=>bif(decide (e<g))then need (0<=e/\e<(f.length:Int))<|(Zpz (f.getD e.toNat Zab.d) b).bind fun h=>bif h then some e else ZbE f b fu g (Zan e 1)else some (-1:Int)
theorem Zhj(p:List Zab)(d:Zai):∀(g:Nat)(e f r:Int),ZbE p d g e f=some r->Yq 19 S0 w0 Tryz.f252 (Yj r) [1,0,1,0] ⟨[(0,(Yn p)),(1,.one (lN 253 0 1 [] [.rp false 4 (fun j=>(Zai.c d:List C).getD (0+j) .junk)])),(7,(Yj e)),(8,(Yj f))],[]⟩:=by
 intro g;induction g with
 |zero=>
  intro e f r b;simp[ZbE]at b
 |succ g u=>
  intro e f r b;unfold ZbE at b;obtain⟨h,b⟩|⟨h,b⟩:=Zae b
  .obtain⟨v,b⟩:=Zap b;obtain⟨t,y,b⟩:=Zad b;have O1:=(lT h v (Zup _ _ _ y));obtain⟨o,b⟩|⟨o,b⟩:=Zae b
   .apply Ya b 15 [rz,rz,rA [(5,aB t)],rz] [true,true] (l8 O1 o)
   .exact Ye 17 [rz,rz,rA [(5,aB t)],rz] [true,false] (Yi [0,1,7,8]) (l8 O1 o) (u e (Zan f 1) r b)
  .apply Ya b 8 [rz,rz] [false] (lR h)
def Zde(d:List Zab)(b:Zai):Option Int:=ZbE d b (((d.length:Int)-(0:Int)).toNat+2) (d.length:Int) (0:Int)
theorem ZhN(d:List Zab)(b:Zai)(r:Int)(e:Zde d b=some r):Yo 252 [Yn d,.one (lN 253 0 1 [] [.rp false 4 (fun j=>(Zai.c b:List C).getD (0+j) .junk)])] (Yj r):=by
 refine Yu Tryz.func252 fun S0 w0=>?_;unfold Zde at e;exact Ye 6 [rz,rz] [] (Yi [0,1,7,8]) .n (Zhj S0 w0 d b (((d.length:Int)-(0:Int)).toNat+2) (d.length:Int) (0:Int) r e)
def ZrT(b:List Zab)(d:Zai):Option Int:=(Zde b d).bind fun e=>some e
theorem ZwK(d:List Zab)(e:Zai)(r:Int)(b:ZrT d e=some r):Yo 179 [Yn d,.agg (Zai.c e)] (Yj r):=by
 refine Yu Tryz.func179 fun S0 w0=>?_;unfold ZrT at b;obtain⟨f,g,b⟩:=Zad b;apply Ya b 4 [rz,⟨[(2,aI f)],[],[(1,[3])],[],[],[],[]⟩] [] (lR (ZhN _ _ _ g))
end Go.Proofs.YtmnloegcpaahcaaGreat
