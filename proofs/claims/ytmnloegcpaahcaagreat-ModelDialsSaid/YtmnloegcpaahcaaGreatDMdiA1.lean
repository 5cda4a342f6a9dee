import Derived.Test.YtmnloegcpaahcaaGreatDMdiA0
namespace Go.Proofs.YtmnloegcpaahcaaGreat
open Go.RowKit Go.Lib Go.Shelf
set_option linter.unusedVariables false
set_option maxRecDepth 100000
variable (S0:Nat->Prop)(w0:ZaU)
def Zkv:Nat->Int->(List Int)->Int->Int->Option Int|0,_,_,_,_=>none|fu+1,f,d,e,b=>bif(decide (b<e))then need (0<=b/\b<(d.length:Int))<|(ZeB f (7:Int)).bind fun g=>(Znl (IntKind.wrap .u64 ((d.getD b.toNat (0:Int))+(11400714819323198485:Int)))).bind fun h=>(Znl (IntKind.wrap .u64 (((BitVec.ofInt (IntKind.bits .u64) g) ^^^ (BitVec.ofInt (IntKind.bits .u64) h)).toNat:Int))).bind fun i=>Zkv fu i d e (Zaq b 1)else some f
theorem Zxr:∀(g:Nat)(h:Int)(d:List Int)(e f r:Int),Zkv g h d e f=some r->Yr 26 S0 w0 Tryz.f364 (.one (.lit (.int .u64 r))) [1,1,0,1,0] ⟨[(5,.one (.lit (.int .u64 h))),(11,.one (cL 1 (cI .u64) (0:Int) d)),(12,(Yj e)),(13,(Yj f))],[]⟩:=by
 intro g;induction g with
 |zero=>
  intro h d e f r b;simp[Zkv]at b
 |succ g o=>
  intro h d e f r b;unfold Zkv at b;obtain⟨i,b⟩|⟨i,b⟩:=Zag b
  .obtain⟨p,b⟩:=Zao b;obtain⟨t,u,v,y,b⟩:=Yu b;obtain⟨j,z,b⟩:=Zad b;exact Ye 14 [rz,rz,rA [(1,.r (.one (.lit (.int .u64 t))) []),(4,.r (.one (.lit (.int .u64 u))) []),(6,.r (.one (.lit (.int .u64 j))) [])],rz] [true] (Yi [5,11,12,13]) (mr i p (Znm _ _ _ v) (ZqN _ _ y) (ZqN _ _ z)) (o j d e (Zaq f 1) r b)
  .apply Ya b 8 [rz,rz] [false] (ml i)
def ZrI(d:Int)(b:List Int):Option Int:=(Znl (IntKind.wrap .u64 (d+(11400714819323198485:Int)))).bind fun e=>Zkv (((b.length:Int)-(0:Int)).toNat+2) e b (b.length:Int) (0:Int)
theorem Zwp(e:Int)(b:List Int)(r:Int)(d:ZrI e b=some r):Yp 364 [.one (.lit (.int .u64 e)),.one (cL 1 (cI .u64) (0:Int) b)] (.one (.lit (.int .u64 r))):=by
 refine Yv Tryz.func364 fun S0 w0=>?_;unfold ZrI at d;obtain⟨f,g,d⟩:=Zad d;exact Ye 8 [rz,rA [(2,.r (.one (.lit (.int .u64 f))) [])],rz] [] (Yi [5,11,12,13]) (ml (ZqN _ _ g)) (Zxr S0 w0 (((b.length:Int)-(0:Int)).toNat+2) f b (b.length:Int) (0:Int) r d)
def ZoO(d:Int)(b:Zae):Option Int:=bif b.fAddr.fV6 then(ZrI d ([(6:Int),b.fAddr.fHi,b.fAddr.fLo,(IntKind.wrap .u64 b.fBits)]:List Int)).bind fun e=>some e else(ZrI d ([(4:Int),b.fAddr.fHi,b.fAddr.fLo,(IntKind.wrap .u64 b.fBits)]:List Int)).bind fun f=>some f
theorem ZAQ(h:Int)(b:Zae)(r:Int)(f:ZoO h b=some r):Yp 332 [.one (.lit (.int .u64 h)),.agg (Zae.c b)] (.one (.lit (.int .u64 r))):=by
 refine Yv Tryz.func332 fun S0 w0=>?_;unfold ZoO at f;obtain⟨g,f⟩|⟨g,f⟩:=Zag f
 .obtain⟨o,p,f⟩:=Zad f;apply Ya f 11 [rz,rz,rz,rz,⟨[(12,.r (.one (.lit (.int .u64 o))) [])],[],[],[],[],[(11,(([(6:Int),b.fAddr.fHi,b.fAddr.fLo,(IntKind.wrap .u64 b.fBits)]:List Int).length,Zam (cI .u64) (0:Int) ([(6:Int),b.fAddr.fHi,b.fAddr.fLo,(IntKind.wrap .u64 b.fBits)]:List Int)))],[]⟩] [true] (mo g (mN (e:=(cI .u64)) (0:Int) 1 (fun _=>rfl) ([(6:Int),b.fAddr.fHi,b.fAddr.fLo,(IntKind.wrap .u64 b.fBits)]:List Int)) (Zwp _ _ _ p))
 .obtain⟨t,u,f⟩:=Zad f;apply Ya f 11 [rz,rz,rz,⟨[(12,.r (.one (.lit (.int .u64 t))) [])],[],[],[],[],[(11,(([(4:Int),b.fAddr.fHi,b.fAddr.fLo,(IntKind.wrap .u64 b.fBits)]:List Int).length,Zam (cI .u64) (0:Int) ([(4:Int),b.fAddr.fHi,b.fAddr.fLo,(IntKind.wrap .u64 b.fBits)]:List Int)))],[]⟩] [false] (mo g (mN (e:=(cI .u64)) (0:Int) 1 (fun _=>rfl) ([(4:Int),b.fAddr.fHi,b.fAddr.fLo,(IntKind.wrap .u64 b.fBits)]:List Int)) (Zwp _ _ _ u))
def ZmX(b:Zaa)(d:Int):Option Int:=(ZgK b.fEnd.fAddr).bind fun e=>(ZoO d e).bind fun f=>some f
theorem Ztl(d:Zaa)(e r:Int)(b:ZmX d e=some r):Yp 377 [.agg (Zaa.c d),.one (.lit (.int .u64 e))] (.one (.lit (.int .u64 r))):=by
 refine Yv Tryz.func377 fun S0 w0=>?_;unfold ZmX at b;obtain⟨f,g,h,i,b⟩:=Yu b;apply Ya b 4 [rz,rA [(4,aG (Zae.c f)),(5,.r (.one (.lit (.int .u64 g))) [])]] [] (mn (ZiE _ _ h) (ZAQ _ _ _ i))
def Zkg(b d:Zaa)(e f:Int):Option Int:=bif(e==(1:Int))then(ZmX d f).bind fun g=>(ZmX b f).bind fun h=>(ZdZ g h).bind fun i=>some i else bif(e==(2:Int))then(Zci b.fPing d.fPing).bind fun j=>some j else bif(e==(3:Int))then(Zci d.fWork b.fWork).bind fun n=>some n else bif(e==(4:Int))then(Zci b.fSince d.fSince).bind fun o=>some o else some (0:Int)
theorem Zuk(i j:Zaa)(o p r:Int)(b:Zkg i j o p=some r):Yp 357 [.agg (Zaa.c i),.agg (Zaa.c j),Yj o,.one (.lit (.int .u64 p))] (Yj r):=by
 refine Yv Tryz.func357 fun S0 w0=>?_;unfold Zkg at b;obtain⟨d,b⟩|⟨d,b⟩:=Zag b
 .obtain⟨t,u,v,y,b⟩:=Yu b;obtain⟨z,A,b⟩:=Zad b;apply Ya b 11 [rz,rz,rz,rA [(2,.r (.one (.lit (.int .u64 t))) []),(5,.r (.one (.lit (.int .u64 u))) []),(6,aI z)]] [true] (mq d (Ztl _ _ _ v) (Ztl _ _ _ y) (ZiL _ _ _ A))
 .obtain⟨e,b⟩|⟨e,b⟩:=Zag b
  .obtain⟨B,C,b⟩:=Zad b;apply Ya b 14 [rz,rz,rz,rz,rA [(4,aI B)]] [false,true] (mo d e (ZcT _ _ _ C))
  .obtain⟨f,b⟩|⟨f,b⟩:=Zag b
   .obtain⟨D,E,b⟩:=Zad b;apply Ya b 17 [rz,rz,rz,rz,rz,rA [(4,aI D)]] [false,false,true] (mq d e f (ZcT _ _ _ E))
   .obtain⟨g,b⟩|⟨g,b⟩:=Zag b
    .obtain⟨F,h,b⟩:=Zad b;apply Ya b 20 [rz,rz,rz,rz,rz,rz,rA [(4,aI F)]] [false,false,false,true] (mr d e f g (ZcT _ _ _ h))
    .apply Ya b 22 [rz,rz,rz,rz,rz,rz,rz] [false,false,false,false] (mq d e f g)
def Znh(b d:Zaa)(e f:Int):Option Int:=(Zkg b d e f).bind fun g=>(ZfM b.fEnd d.fEnd).bind fun h=>(ZeF ([g,h]:List Int)).bind fun i=>some i
theorem Zxp(h o:Zaa)(p t r:Int)(g:Znh h o p t=some r):Yp 323 [.agg (Zaa.c h),.agg (Zaa.c o),Yj p,.one (.lit (.int .u64 t))] (Yj r):=by
 refine Yv Tryz.func323 fun S0 w0=>?_;unfold Znh at g;obtain⟨b,f,u,v,g⟩:=Yu g;obtain⟨y,z,g⟩:=Zad g;apply Ya g 4 [rz,⟨[(4,aI b),(9,aI f),(11,aI y)],[],[],[],[],[(10,(([b,f]:List Int).length,Zam mi (0:Int) ([b,f]:List Int)))],[]⟩] [] (mq (Zuk _ _ _ _ _ u) (Zig _ _ _ v) (mN (e:=mi) (0:Int) 1 (fun _=>rfl) ([b,f]:List Int)) (ZgZ _ _ z))
def ZgF(b e:Int)(c0:List Zaa)(c1 c2:Int):Option Int:=need (0<=b/\b<(c0.length:Int))<|need (0<=e/\e<(c0.length:Int))<|(Znh (c0.getD b.toNat Zaa.d) (c0.getD e.toNat Zaa.d) c1 c2).bind fun f=>some f
theorem ZjN(e f:Int)(c0:List Zaa)(c1 c2 r:Int)(b:ZgF e f c0 c1 c2=some r):Yp 322 [Yj e,Yj f,.one (.rp false 1 (fun j=>([cL 10 Zaa.c Zaa.d c0]:List C).getD (0+j) .junk)),.one (.rp false 1 (fun j=>([.lit (.int .i64 c1)]:List C).getD (0+j) .junk)),.one (.rp false 1 (fun j=>([.lit (.int .u64 c2)]:List C).getD (0+j) .junk))] (Yj r):=by
 refine Yv Tryz.func322 fun S0 w0=>?_;unfold ZgF at b;obtain⟨o1,g,b⟩:=Yt b;obtain⟨h,i,b⟩:=Zad b;apply Ya b 4 [rz,rA [(10,aI h)]] [] (mo o1 g (Zxp _ _ _ _ _ i))
def ZaX(i j:Int)(e:List Zaa)(f g h:Int)(ak:Int->(List Int)->Option (List Int)):Nat->Int->(List Int)->Option (List Int)|0,_,_=>none|fu+1,d,b=>bif(decide (d>i))then need (0<=d/\d<(b.length:Int))<|need (0<=(ZaG d (1:Int))/\(ZaG d (1:Int))<(b.length:Int))<|(ZgF (b.getD d.toNat (0:Int)) (b.getD ((ZaG d (1:Int)).toNat) (0:Int)) e f g).bind fun n=>bif(decide (n<(0:Int)))then ZaX i j e f g h ak fu (ZaG d (1:Int)) ((b.set d.toNat (b.getD ((ZaG d (1:Int)).toNat) (0:Int))).set ((ZaG d (1:Int)).toNat) (b.getD d.toNat (0:Int)))else ak (Zaq h 1) b else ak (Zaq h 1) b
theorem Ziy(y z:Int)(g:List Zaa)(h o u:Int)(ak:Int->(List Int)->Option (List Int))(aM:∀(dz:Int)(ah r:List Int),ak dz ah=some r->Ys 53 S0 w0 Tryz.f375 [(me 100000 3 1 mi (0:Int) r)] (.tup []) [1,0] ⟨[(0,.one (.osl 100000 ah.length)),(1,(Yj y)),(2,(Yj z)),(3,.one (mg 322 0 3 [] [mh [cL 10 Zaa.c Zaa.d g],mh [.lit (.int .i64 h)],mh [.lit (.int .u64 o)]])),(8,(Yj dz))],[(me 100000 3 1 mi (0:Int) ah)]⟩):∀(v:Nat)(e:Int)(b r:List Int),ZaX y z g h o u ak v e b=some r->Ys 53 S0 w0 Tryz.f375 [(me 100000 3 1 mi (0:Int) r)] (.tup []) [1,0,0,1,0,0,1,0] ⟨[(0,.one (.osl 100000 b.length)),(1,(Yj y)),(2,(Yj z)),(3,.one (mg 322 0 3 [] [mh [cL 10 Zaa.c Zaa.d g],mh [.lit (.int .i64 h)],mh [.lit (.int .u64 o)]])),(8,(Yj u)),(9,(Yj e))],[(me 100000 3 1 mi (0:Int) b)]⟩:=by
 intro v;induction v with
 |zero=>
  intro e b r f;simp[ZaX]at f
 |succ v D=>
  intro e b r f;unfold ZaX at f;obtain⟨A,f⟩|⟨A,f⟩:=Zag f
  .obtain⟨p,t,f⟩:=Yt f;obtain⟨E,F,f⟩:=Zad f
   let R1:List RA:=[⟨[(14,aI E)],[(3,true)],[],[],[],[],[]⟩]
   have O2:=(mt A p (ltOf p) t (ltOf t) (ZjN _ _ _ _ _ _ F));obtain⟨B,f⟩|⟨B,f⟩:=Zag f
   .exact Ye 12 (R1++[rA [(15,.c (b.set e.toNat (b.getD ((ZaG e (1:Int)).toNat) (0:Int))).length (Zam mi (0:Int) (b.set e.toNat (b.getD ((ZaG e (1:Int)).toNat) (0:Int))))),(17,.c ((b.set e.toNat (b.getD ((ZaG e (1:Int)).toNat) (0:Int))).set ((ZaG e (1:Int)).toNat) (b.getD e.toNat (0:Int))).length (Zam mi (0:Int) ((b.set e.toNat (b.getD ((ZaG e (1:Int)).toNat) (0:Int))).set ((ZaG e (1:Int)).toNat) (b.getD e.toNat (0:Int)))))],rz]) [true] ⟨[],[],[],[(100000,(((b.set e.toNat (b.getD ((ZaG e (1:Int)).toNat) (0:Int))).set ((ZaG e (1:Int)).toNat) (b.getD e.toNat (0:Int))).length))],[],[0,1,2,3,8,9],[100000],[]⟩ (O2.app (.c B (.c t (.c (ltOf t) (.c p (mz (ltOf p) p (show (b.set e.toNat (b.getD ((ZaG e (1:Int)).toNat) (0:Int))).length=b.length from List.length_set) (ltOf p) (show ExtU 1 b.length (Zam mi (0:Int) b) e.toNat 0 (mi (b.getD ((ZaG e (1:Int)).toNat) (0:Int))) (Zam mi (0:Int) (b.set e.toNat (b.getD ((ZaG e (1:Int)).toNat) (0:Int))))from(Zio _ _ _ rfl)) t (show ((b.set e.toNat (b.getD ((ZaG e (1:Int)).toNat) (0:Int))).set ((ZaG e (1:Int)).toNat) (b.getD e.toNat (0:Int))).length=(b.set e.toNat (b.getD ((ZaG e (1:Int)).toNat) (0:Int))).length from List.length_set) (show (ZaG e (1:Int)).toNat<(b.set e.toNat (b.getD ((ZaG e (1:Int)).toNat) (0:Int))).length from(by have:=ltOf t;simp at this ⊢;omega)) (show ExtU 1 ((b.set e.toNat (b.getD ((ZaG e (1:Int)).toNat) (0:Int))).length) (Zam mi (0:Int) (b.set e.toNat (b.getD ((ZaG e (1:Int)).toNat) (0:Int)))) ((ZaG e (1:Int)).toNat) 0 (mi (b.getD e.toNat (0:Int))) (Zam mi (0:Int) ((b.set e.toNat (b.getD ((ZaG e (1:Int)).toNat) (0:Int))).set ((ZaG e (1:Int)).toNat) (b.getD e.toNat (0:Int))))from(Zio _ _ _ rfl)) (mP (((b.set e.toNat (b.getD ((ZaG e (1:Int)).toNat) (0:Int))).set ((ZaG e (1:Int)).toNat) (b.getD e.toNat (0:Int))).length)))))))) (D (ZaG e (1:Int)) ((b.set e.toNat (b.getD ((ZaG e (1:Int)).toNat) (0:Int))).set ((ZaG e (1:Int)).toNat) (b.getD e.toNat (0:Int))) r f)
   .exact Ye 9 (R1++[rz]) [false] (ma [0,1,2,3,8] [100000]) (mC O2 B) (aM (Zaq u 1) b r f)
  .exact Ye 9 [rB [(3,false)],rz] [false] (ma [0,1,2,3,8] [100000]) (mn A (mP false)) (aM (Zaq u 1) b r f)
def ZaJ(h i:Int)(d:List Zaa)(e f:Int):Nat->Int->(List Int)->Option (List Int)|0,_,_=>none|fu+1,g,b=>bif(decide (g<i))then ZaX h i d e f g (ZaJ h i d e f fu) ((g-h).toNat+2) g b else some b
theorem Ziz(p u:Int)(e:List Zaa)(f g:Int):∀(t:Nat)(o:Int)(b r:List Int),ZaJ p u e f g t o b=some r->Ys 53 S0 w0 Tryz.f375 [(me 100000 3 1 mi (0:Int) r)] (.tup []) [1,0] ⟨[(0,.one (.osl 100000 b.length)),(1,(Yj p)),(2,(Yj u)),(3,.one (mg 322 0 3 [] [mh [cL 10 Zaa.c Zaa.d e],mh [.lit (.int .i64 f)],mh [.lit (.int .u64 g)]])),(8,(Yj o))],[(me 100000 3 1 mi (0:Int) b)]⟩:=by
 intro t;induction t with
 |zero=>
  intro o b r h;simp[ZaJ]at h
 |succ t y=>
  intro o b r h;unfold ZaJ at h;obtain⟨v,h⟩|⟨v,h⟩:=Zag h
  .exact Ye 11 [rz,rz] [true] (ma [0,1,2,3,8,9] [100000]) (ml v) (Ziy S0 w0 p u e f g o (ZaJ p u e f g t) y ((o-p).toNat+2) o b r h)
  .obtain rfl:=oi h;exact Yd 6 [rz] [false] (ma [] [100000]) (ml v)
def ZbN(h:List Int)(f g:Int)(b:List Zaa)(d e:Int):Option (List Int):=ZaJ f g b d e ((g-(Zaq f 1)).toNat+2) (Zaq f 1) h
theorem Zfp(g:List Int)(h o:Int)(b:List Zaa)(e f:Int)(r:List Int)(p:ZbN g h o b e f=some r):Yq 375 [(me 100000 3 1 mi (0:Int) g)] [.one (.osl 100000 g.length),Yj h,Yj o,.one (mg 322 0 3 [] [mh [cL 10 Zaa.c Zaa.d b],mh [.lit (.int .i64 e)],mh [.lit (.int .u64 f)]])] [(me 100000 3 1 mi (0:Int) r)] (.tup []):=by
 refine Yw Tryz.func375 fun S0 w0=>?_;unfold ZbN at p;exact Ye 3 [rz] [] (ma [0,1,2,3,8] [100000]) .n (Ziz S0 w0 h o b e f ((o-(Zaq h 1)).toNat+2) (Zaq h 1) g r p)
def Zbf(e f g:Int):Nat->Int->(List Int)->Option (List Int)|0,_,_=>none|fu+1,d,b=>bif(decide (d<g))then need (0<=(Zaq f d)/\(Zaq f d)<(b.length:Int))<|need (0<=(Zaq e d)/\(Zaq e d)<(b.length:Int))<|Zbf e f g fu (Zaq d 1) ((b.set ((Zaq e d).toNat) (b.getD ((Zaq f d).toNat) (0:Int))).set ((Zaq f d).toNat) (b.getD ((Zaq e d).toNat) (0:Int)))else some b
theorem Zjp(e f p:Int):∀(h:Nat)(d:Int)(b r:List Int),Zbf e f p h d b=some r->Ys 38 S0 w0 Tryz.f406 [(me 100000 3 1 mi (0:Int) r)] (.tup []) [1,0] ⟨[(0,.one (.osl 100000 b.length)),(1,(Yj e)),(2,(Yj f)),(3,(Yj p)),(10,(Yj d))],[(me 100000 3 1 mi (0:Int) b)]⟩:=by
 intro h;induction h with
 |zero=>
  intro d b r g;simp[Zbf]at g
 |succ h t=>
  intro d b r g;unfold Zbf at g;obtain⟨o,g⟩|⟨o,g⟩:=Zag g
  .obtain⟨i,j,g⟩:=Yt g;exact Ye 12 [rz,rA [(21,.c (b.set ((Zaq e d).toNat) (b.getD ((Zaq f d).toNat) (0:Int))).length (Zam mi (0:Int) (b.set ((Zaq e d).toNat) (b.getD ((Zaq f d).toNat) (0:Int))))),(23,.c ((b.set ((Zaq e d).toNat) (b.getD ((Zaq f d).toNat) (0:Int))).set ((Zaq f d).toNat) (b.getD ((Zaq e d).toNat) (0:Int))).length (Zam mi (0:Int) ((b.set ((Zaq e d).toNat) (b.getD ((Zaq f d).toNat) (0:Int))).set ((Zaq f d).toNat) (b.getD ((Zaq e d).toNat) (0:Int)))))],rz] [true] ⟨[],[],[],[(100000,(((b.set ((Zaq e d).toNat) (b.getD ((Zaq f d).toNat) (0:Int))).set ((Zaq f d).toNat) (b.getD ((Zaq e d).toNat) (0:Int))).length))],[],[0,1,2,3,10],[100000],[]⟩ (.c o (.c i (.c (ltOf i) (.c j (mz (ltOf j) j (show (b.set ((Zaq e d).toNat) (b.getD ((Zaq f d).toNat) (0:Int))).length=b.length from List.length_set) (ltOf j) (show ExtU 1 b.length (Zam mi (0:Int) b) ((Zaq e d).toNat) 0 (mi (b.getD ((Zaq f d).toNat) (0:Int))) (Zam mi (0:Int) (b.set ((Zaq e d).toNat) (b.getD ((Zaq f d).toNat) (0:Int))))from(Zio _ _ _ rfl)) i (show ((b.set ((Zaq e d).toNat) (b.getD ((Zaq f d).toNat) (0:Int))).set ((Zaq f d).toNat) (b.getD ((Zaq e d).toNat) (0:Int))).length=(b.set ((Zaq e d).toNat) (b.getD ((Zaq f d).toNat) (0:Int))).length from List.length_set) (show (Zaq f d).toNat<(b.set ((Zaq e d).toNat) (b.getD ((Zaq f d).toNat) (0:Int))).length from(by have:=ltOf i;simp at this ⊢;omega)) (show ExtU 1 ((b.set ((Zaq e d).toNat) (b.getD ((Zaq f d).toNat) (0:Int))).length) (Zam mi (0:Int) (b.set ((Zaq e d).toNat) (b.getD ((Zaq f d).toNat) (0:Int)))) ((Zaq f d).toNat) 0 (mi (b.getD ((Zaq e d).toNat) (0:Int))) (Zam mi (0:Int) ((b.set ((Zaq e d).toNat) (b.getD ((Zaq f d).toNat) (0:Int))).set ((Zaq f d).toNat) (b.getD ((Zaq e d).toNat) (0:Int))))from(Zio _ _ _ rfl)) (mP (((b.set ((Zaq e d).toNat) (b.getD ((Zaq f d).toNat) (0:Int))).set ((Zaq f d).toNat) (b.getD ((Zaq e d).toNat) (0:Int))).length))))))) (t (Zaq d 1) ((b.set ((Zaq e d).toNat) (b.getD ((Zaq f d).toNat) (0:Int))).set ((Zaq f d).toNat) (b.getD ((Zaq e d).toNat) (0:Int))) r g)
  .obtain rfl:=oi g;exact Yd 6 [rz] [false] (ma [] [100000]) (ml o)
def ZbH(g:List Int)(h i b:Int)(d:List Zaa)(e f:Int):Option (List Int):=Zbf h i b ((b-(0:Int)).toNat+2) (0:Int) g
theorem ZdV(g:List Int)(o p h:Int)(b:List Zaa)(e f:Int)(r:List Int)(t:ZbH g o p h b e f=some r):Yq 406 [(me 100000 3 1 mi (0:Int) g)] [.one (.osl 100000 g.length),Yj o,Yj p,Yj h,.one (mg 322 0 3 [] [mh [cL 10 Zaa.c Zaa.d b],mh [.lit (.int .i64 e)],mh [.lit (.int .u64 f)]])] [(me 100000 3 1 mi (0:Int) r)] (.tup []):=by
 refine Yw Tryz.func406 fun S0 w0=>?_;unfold ZbH at t;exact Ye 3 [rz] [] (ma [0,1,2,3,10] [100000]) .n (Zjp S0 w0 o p h ((h-(0:Int)).toNat+2) (0:Int) g r t)
def Zbv(i:Int)(e:List Zaa)(f g:Int):Nat->Int->Int->(List Int)->Option (List Int)|0,_,_,_=>none|fu+1,b,h,d=>bif(b != h)then bif(decide (b>h))then(ZbH d (ZaG i b) i h e f g).bind fun j=>Zbv i e f g fu (ZaG b h) h j else(ZbH d (ZaG i b) (ZaG (Zaq i h) b) b e f g).bind fun n=>Zbv i e f g fu b (ZaG h b) n else(ZbH d (ZaG i b) i b e f g).bind fun o=>some o
theorem Zkb(A:Int)(h:List Zaa)(o p:Int):∀(v:Nat)(f g:Int)(b r:List Int),Zbv A h o p v f g b=some r->Ys 58 S0 w0 Tryz.f398 [(me 100000 3 1 mi (0:Int) r)] (.tup []) [1,1,0,0] ⟨[(0,.one (.osl 100000 b.length)),(2,(Yj A)),(4,.one (mg 322 0 3 [] [mh [cL 10 Zaa.c Zaa.d h],mh [.lit (.int .i64 o)],mh [.lit (.int .u64 p)]])),(10,(Yj f)),(11,(Yj g))],[(me 100000 3 1 mi (0:Int) b)]⟩:=by
 intro v;induction v with
 |zero=>
  intro f g b r e;simp[Zbv]at e
 |succ v B=>
  intro f g b r e;unfold Zbv at e;obtain⟨y,e⟩|⟨y,e⟩:=Zag e
  .obtain⟨z,e⟩|⟨z,e⟩:=Zag e
   .obtain⟨t,E,e⟩:=Zad e;exact Ye 15 [rz,rz,rH [] [(7,⟨[(100000,100000)],[],[(me 100000 3 1 mi (0:Int) t)],.tup []⟩)],rz] [true,true] ⟨[],[],[],[(100000,t.length)],[],[0,2,4,10,11],[100000],[]⟩ (mq y z (ZdV _ _ _ _ _ _ _ _ E) (mP t.length)) (B (ZaG f g) g t r e)
   .obtain⟨u,F,e⟩:=Zad e;exact Ye 15 [rz,rz,rH [] [(11,⟨[(100000,100000)],[],[(me 100000 3 1 mi (0:Int) u)],.tup []⟩)],rz] [true,false] ⟨[],[],[],[(100000,u.length)],[],[0,2,4,10,11],[100000],[]⟩ (mq y z (ZdV _ _ _ _ _ _ _ _ F) (mP u.length)) (B f (ZaG g f) u r e)
  .obtain⟨D,G,e⟩:=Zad e;obtain rfl:=oi e;exact Yd 7 [rz,rH [] [(7,⟨[(100000,100000)],[],[(me 100000 3 1 mi (0:Int) D)],.tup []⟩)]] [false] (ma [] [100000]) (mn y (ZdV _ _ _ _ _ _ _ _ G))
def Zcu(g:List Int)(h f i:Int)(b:List Zaa)(d e:Int):Option (List Int):=Zbv f b d e 1000000 (ZaG f h) (ZaG i f) g
theorem ZkM(g:List Int)(o h p:Int)(b:List Zaa)(e f:Int)(r:List Int)(t:Zcu g o h p b e f=some r):Yq 398 [(me 100000 3 1 mi (0:Int) g)] [.one (.osl 100000 g.length),Yj o,Yj h,Yj p,.one (mg 322 0 3 [] [mh [cL 10 Zaa.c Zaa.d b],mh [.lit (.int .i64 e)],mh [.lit (.int .u64 f)]])] [(me 100000 3 1 mi (0:Int) r)] (.tup []):=by
 refine Yw Tryz.func398 fun S0 w0=>?_;unfold Zcu at t;exact Ye 6 [rz,rz] [] (ma [0,2,4,10,11] [100000]) .n (Zkb S0 w0 h b e f 1000000 (ZaG h o) (ZaG p h) g r t)
def Zbj(j:Int)(e:List Zaa)(f g h i:Int)(aw:Int->Int->(List Int)->Option (List Int)):Nat->Int->(List Int)->Option (List Int)|0,_,_=>none|fu+1,d,b=>bif(decide (d<(ZaG h (1:Int))))then need (0<=(Zaq d 1)/\(Zaq d 1)<(b.length:Int))<|need (0<=d/\d<(b.length:Int))<|Zbj j e f g h i aw fu (Zaq d 1) ((b.set d.toNat (b.getD ((Zaq d 1).toNat) (0:Int))).set ((Zaq d 1).toNat) (b.getD d.toNat (0:Int)))else some b
theorem ZjH(A:Int)(g:List Zaa)(h o p y:Int)(aw:Int->Int->(List Int)->Option (List Int))(bJ:∀(cF cG:Int)(ah r:List Int),aw cF cG ah=some r->Ys 220 S0 w0 Tryz.f376 [(me 100000 3 1 mi (0:Int) r)] (.tup []) [0,1,0,1,1,0,0] ⟨[(0,.one (.osl 100000 ah.length)),(1,(Yj A)),(4,.one (mg 322 0 3 [] [mh [cL 10 Zaa.c Zaa.d g],mh [.lit (.int .i64 h)],mh [.lit (.int .u64 o)]])),(10,(Yj cF)),(11,(Yj cG))],[(me 100000 3 1 mi (0:Int) ah)]⟩):∀(t:Nat)(e:Int)(b r:List Int),Zbj A g h o p y aw t e b=some r->Ys 220 S0 w0 Tryz.f376 [(me 100000 3 1 mi (0:Int) r)] (.tup []) [0,1,0,1,1,1,0,1,0] ⟨[(0,.one (.osl 100000 b.length)),(10,(Yj p)),(13,(Yj e))],[(me 100000 3 1 mi (0:Int) b)]⟩:=by
 intro t;induction t with
 |zero=>
  intro e b r f;simp[Zbj]at f
 |succ t B=>
  intro e b r f;unfold Zbj at f;obtain⟨z,f⟩|⟨z,f⟩:=Zag f
  .obtain⟨u,v,f⟩:=Yt f;exact Ye 12 [rz,rA [(15,.c (b.set e.toNat (b.getD ((Zaq e 1).toNat) (0:Int))).length (Zam mi (0:Int) (b.set e.toNat (b.getD ((Zaq e 1).toNat) (0:Int))))),(17,.c ((b.set e.toNat (b.getD ((Zaq e 1).toNat) (0:Int))).set ((Zaq e 1).toNat) (b.getD e.toNat (0:Int))).length (Zam mi (0:Int) ((b.set e.toNat (b.getD ((Zaq e 1).toNat) (0:Int))).set ((Zaq e 1).toNat) (b.getD e.toNat (0:Int)))))],rz] [true] ⟨[],[],[],[(100000,(((b.set e.toNat (b.getD ((Zaq e 1).toNat) (0:Int))).set ((Zaq e 1).toNat) (b.getD e.toNat (0:Int))).length))],[],[0,10,13],[100000],[]⟩ (.c z (.c u (.c (ltOf u) (.c v (mz (ltOf v) v (show (b.set e.toNat (b.getD ((Zaq e 1).toNat) (0:Int))).length=b.length from List.length_set) (ltOf v) (show ExtU 1 b.length (Zam mi (0:Int) b) e.toNat 0 (mi (b.getD ((Zaq e 1).toNat) (0:Int))) (Zam mi (0:Int) (b.set e.toNat (b.getD ((Zaq e 1).toNat) (0:Int))))from(Zio _ _ _ rfl)) u (show ((b.set e.toNat (b.getD ((Zaq e 1).toNat) (0:Int))).set ((Zaq e 1).toNat) (b.getD e.toNat (0:Int))).length=(b.set e.toNat (b.getD ((Zaq e 1).toNat) (0:Int))).length from List.length_set) (show (Zaq e 1).toNat<(b.set e.toNat (b.getD ((Zaq e 1).toNat) (0:Int))).length from(by have:=ltOf u;simp at this ⊢;omega)) (show ExtU 1 ((b.set e.toNat (b.getD ((Zaq e 1).toNat) (0:Int))).length) (Zam mi (0:Int) (b.set e.toNat (b.getD ((Zaq e 1).toNat) (0:Int)))) ((Zaq e 1).toNat) 0 (mi (b.getD e.toNat (0:Int))) (Zam mi (0:Int) ((b.set e.toNat (b.getD ((Zaq e 1).toNat) (0:Int))).set ((Zaq e 1).toNat) (b.getD e.toNat (0:Int))))from(Zio _ _ _ rfl)) (mP (((b.set e.toNat (b.getD ((Zaq e 1).toNat) (0:Int))).set ((Zaq e 1).toNat) (b.getD e.toNat (0:Int))).length))))))) (B (Zaq e 1) ((b.set e.toNat (b.getD ((Zaq e 1).toNat) (0:Int))).set ((Zaq e 1).toNat) (b.getD e.toNat (0:Int))) r f)
  .obtain rfl:=oi f;exact Yd 6 [rz] [false] (ma [] [100000]) (ml z)
def ZaI(i:Int)(d:List Zaa)(e f:Int):Nat->Int->Int->(List Int)->Option (List Int)|0,_,_,_=>none|fu+1,g,h,b=>bif(decide (g<h))then need (0<=(IntKind.wrap .i64 (Int.fdiv (IntKind.wrap .u64 (Zaq g h)) (2 ^ (min (1:Int).toNat (IntKind.bits .u64)))))/\(IntKind.wrap .i64 (Int.fdiv (IntKind.wrap .u64 (Zaq g h)) (2 ^ (min (1:Int).toNat (IntKind.bits .u64)))))<(b.length:Int))<|need (0<=i/\i<(b.length:Int))<|(ZgF (b.getD ((IntKind.wrap .i64 (Int.fdiv (IntKind.wrap .u64 (Zaq g h)) (2 ^ (min (1:Int).toNat (IntKind.bits .u64))))).toNat) (0:Int)) (b.getD i.toNat (0:Int)) d e f).bind fun j=>bif(decide (j<(0:Int)))then ZaI i d e f fu (Zaq (IntKind.wrap .i64 (Int.fdiv (IntKind.wrap .u64 (Zaq g h)) (2 ^ (min (1:Int).toNat (IntKind.bits .u64))))) (1:Int)) h b else ZaI i d e f fu g (IntKind.wrap .i64 (Int.fdiv (IntKind.wrap .u64 (Zaq g h)) (2 ^ (min (1:Int).toNat (IntKind.bits .u64))))) b else Zbj i d e f g h (ZaI i d e f fu) 1000000 i b
theorem ZjI(t:Int)(h:List Zaa)(o p:Int):∀(u:Nat)(e f:Int)(b r:List Int),ZaI t h o p u e f b=some r->Ys 220 S0 w0 Tryz.f376 [(me 100000 3 1 mi (0:Int) r)] (.tup []) [0,1,0,1,1,0,0] ⟨[(0,.one (.osl 100000 b.length)),(1,(Yj t)),(4,.one (mg 322 0 3 [] [mh [cL 10 Zaa.c Zaa.d h],mh [.lit (.int .i64 o)],mh [.lit (.int .u64 p)]])),(10,(Yj e)),(11,(Yj f))],[(me 100000 3 1 mi (0:Int) b)]⟩:=by
 intro u;induction u with
 |zero=>
  intro e f b r g;simp[ZaI]at g
 |succ u v=>
  intro e f b r g;unfold ZaI at g;obtain⟨y,g⟩|⟨y,g⟩:=Zag g
  .obtain⟨A,B,g⟩:=Yt g;obtain⟨D,E,g⟩:=Zad g;have O1:=(mu y (mR (1:Int) rfl) A (ltOf A) B (ltOf B) (ZjN _ _ _ _ _ _ E));obtain⟨z,g⟩|⟨z,g⟩:=Zag g
   .exact Ye 15 [rz,rz,rA [(9,aI D)],rz] [true,true] (ma [0,1,4,10,11] [100000]) (mC O1 z) (v (Zaq (IntKind.wrap .i64 (Int.fdiv (IntKind.wrap .u64 (Zaq e f)) (2 ^ (min (1:Int).toNat (IntKind.bits .u64))))) (1:Int)) f b r g)
   .exact Ye 15 [rz,rz,rA [(9,aI D)],rz] [true,false] (ma [0,1,4,10,11] [100000]) (mC O1 z) (v e (IntKind.wrap .i64 (Int.fdiv (IntKind.wrap .u64 (Zaq e f)) (2 ^ (min (1:Int).toNat (IntKind.bits .u64))))) b r g)
  .exact Ye 10 [rz,rz] [false] (ma [0,10,13] [100000]) (ml y) (ZjH S0 w0 t h o p e f (ZaI t h o p u) v 1000000 t b r g)
def Zbi(j:Int)(e:List Zaa)(f g h i:Int)(ax:Int->Int->(List Int)->Option (List Int)):Nat->Int->(List Int)->Option (List Int)|0,_,_=>none|fu+1,d,b=>bif(decide (d>h))then need (0<=(ZaG d (1:Int))/\(ZaG d (1:Int))<(b.length:Int))<|need (0<=d/\d<(b.length:Int))<|Zbi j e f g h i ax fu (ZaG d (1:Int)) ((b.set d.toNat (b.getD ((ZaG d (1:Int)).toNat) (0:Int))).set ((ZaG d (1:Int)).toNat) (b.getD d.toNat (0:Int)))else some b
theorem ZjF(A:Int)(h:List Zaa)(o p t y:Int)(ax:Int->Int->(List Int)->Option (List Int))(bK:∀(jP fw:Int)(ah r:List Int),ax jP fw ah=some r->Ys 220 S0 w0 Tryz.f376 [(me 100000 3 1 mi (0:Int) r)] (.tup []) [1,0,1,0,1,1,0,0] ⟨[(0,.one (.osl 100000 ah.length)),(2,(Yj A)),(4,.one (mg 322 0 3 [] [mh [cL 10 Zaa.c Zaa.d h],mh [.lit (.int .i64 o)],mh [.lit (.int .u64 p)]])),(14,(Yj jP)),(15,(Yj fw))],[(me 100000 3 1 mi (0:Int) ah)]⟩):∀(u:Nat)(e:Int)(b r:List Int),Zbi A h o p t y ax u e b=some r->Ys 220 S0 w0 Tryz.f376 [(me 100000 3 1 mi (0:Int) r)] (.tup []) [1,0,1,0,1,1,1,0,1,0] ⟨[(0,.one (.osl 100000 b.length)),(14,(Yj t)),(17,(Yj e))],[(me 100000 3 1 mi (0:Int) b)]⟩:=by
 intro u;induction u with
 |zero=>
  intro e b r f;simp[Zbi]at f
 |succ u B=>
  intro e b r f;unfold Zbi at f;obtain⟨z,f⟩|⟨z,f⟩:=Zag f
  .obtain⟨v,g,f⟩:=Yt f;exact Ye 12 [rz,rA [(15,.c (b.set e.toNat (b.getD ((ZaG e (1:Int)).toNat) (0:Int))).length (Zam mi (0:Int) (b.set e.toNat (b.getD ((ZaG e (1:Int)).toNat) (0:Int))))),(17,.c ((b.set e.toNat (b.getD ((ZaG e (1:Int)).toNat) (0:Int))).set ((ZaG e (1:Int)).toNat) (b.getD e.toNat (0:Int))).length (Zam mi (0:Int) ((b.set e.toNat (b.getD ((ZaG e (1:Int)).toNat) (0:Int))).set ((ZaG e (1:Int)).toNat) (b.getD e.toNat (0:Int)))))],rz] [true] ⟨[],[],[],[(100000,(((b.set e.toNat (b.getD ((ZaG e (1:Int)).toNat) (0:Int))).set ((ZaG e (1:Int)).toNat) (b.getD e.toNat (0:Int))).length))],[],[0,14,17],[100000],[]⟩ (.c z (.c v (.c (ltOf v) (.c g (mz (ltOf g) g (show (b.set e.toNat (b.getD ((ZaG e (1:Int)).toNat) (0:Int))).length=b.length from List.length_set) (ltOf g) (show ExtU 1 b.length (Zam mi (0:Int) b) e.toNat 0 (mi (b.getD ((ZaG e (1:Int)).toNat) (0:Int))) (Zam mi (0:Int) (b.set e.toNat (b.getD ((ZaG e (1:Int)).toNat) (0:Int))))from(Zio _ _ _ rfl)) v (show ((b.set e.toNat (b.getD ((ZaG e (1:Int)).toNat) (0:Int))).set ((ZaG e (1:Int)).toNat) (b.getD e.toNat (0:Int))).length=(b.set e.toNat (b.getD ((ZaG e (1:Int)).toNat) (0:Int))).length from List.length_set) (show (ZaG e (1:Int)).toNat<(b.set e.toNat (b.getD ((ZaG e (1:Int)).toNat) (0:Int))).length from(by have:=ltOf v;simp at this ⊢;omega)) (show ExtU 1 ((b.set e.toNat (b.getD ((ZaG e (1:Int)).toNat) (0:Int))).length) (Zam mi (0:Int) (b.set e.toNat (b.getD ((ZaG e (1:Int)).toNat) (0:Int)))) ((ZaG e (1:Int)).toNat) 0 (mi (b.getD e.toNat (0:Int))) (Zam mi (0:Int) ((b.set e.toNat (b.getD ((ZaG e (1:Int)).toNat) (0:Int))).set ((ZaG e (1:Int)).toNat) (b.getD e.toNat (0:Int))))from(Zio _ _ _ rfl)) (mP (((b.set e.toNat (b.getD ((ZaG e (1:Int)).toNat) (0:Int))).set ((ZaG e (1:Int)).toNat) (b.getD e.toNat (0:Int))).length))))))) (B (ZaG e (1:Int)) ((b.set e.toNat (b.getD ((ZaG e (1:Int)).toNat) (0:Int))).set ((ZaG e (1:Int)).toNat) (b.getD e.toNat (0:Int))) r f)
  .obtain rfl:=oi f;exact Yd 6 [rz] [false] (ma [] [100000]) (ml z)
def ZaH(i:Int)(e:List Zaa)(f g:Int):Nat->Int->Int->(List Int)->Option (List Int)|0,_,_,_=>none|fu+1,d,h,b=>bif(decide (d<h))then need (0<=i/\i<(b.length:Int))<|need (0<=(IntKind.wrap .i64 (Int.fdiv (IntKind.wrap .u64 (Zaq d h)) (2 ^ (min (1:Int).toNat (IntKind.bits .u64)))))/\(IntKind.wrap .i64 (Int.fdiv (IntKind.wrap .u64 (Zaq d h)) (2 ^ (min (1:Int).toNat (IntKind.bits .u64)))))<(b.length:Int))<|(ZgF (b.getD i.toNat (0:Int)) (b.getD ((IntKind.wrap .i64 (Int.fdiv (IntKind.wrap .u64 (Zaq d h)) (2 ^ (min (1:Int).toNat (IntKind.bits .u64))))).toNat) (0:Int)) e f g).bind fun j=>bif(!(decide (j<(0:Int))))then ZaH i e f g fu (Zaq (IntKind.wrap .i64 (Int.fdiv (IntKind.wrap .u64 (Zaq d h)) (2 ^ (min (1:Int).toNat (IntKind.bits .u64))))) (1:Int)) h b else ZaH i e f g fu d (IntKind.wrap .i64 (Int.fdiv (IntKind.wrap .u64 (Zaq d h)) (2 ^ (min (1:Int).toNat (IntKind.bits .u64))))) b else Zbi i e f g d h (ZaH i e f g fu) ((i-d).toNat+2) i b
theorem ZjG(t:Int)(h:List Zaa)(o p:Int):∀(u:Nat)(e f:Int)(b r:List Int),ZaH t h o p u e f b=some r->Ys 220 S0 w0 Tryz.f376 [(me 100000 3 1 mi (0:Int) r)] (.tup []) [1,0,1,0,1,1,0,0] ⟨[(0,.one (.osl 100000 b.length)),(2,(Yj t)),(4,.one (mg 322 0 3 [] [mh [cL 10 Zaa.c Zaa.d h],mh [.lit (.int .i64 o)],mh [.lit (.int .u64 p)]])),(14,(Yj e)),(15,(Yj f))],[(me 100000 3 1 mi (0:Int) b)]⟩:=by
 intro u;induction u with
 |zero=>
  intro e f b r g;simp[ZaH]at g
 |succ u v=>
  intro e f b r g;unfold ZaH at g;obtain⟨y,g⟩|⟨y,g⟩:=Zag g
  .obtain⟨A,B,g⟩:=Yt g;obtain⟨D,E,g⟩:=Zad g;have O2:=(mu y (mR (1:Int) rfl) A (ltOf A) B (ltOf B) (ZjN _ _ _ _ _ _ E));obtain⟨z,g⟩|⟨z,g⟩:=Zag g
   .exact Ye 15 [rz,rz,rA [(9,aI D)],rz] [true,true] (ma [0,2,4,14,15] [100000]) (mC O2 z) (v (Zaq (IntKind.wrap .i64 (Int.fdiv (IntKind.wrap .u64 (Zaq e f)) (2 ^ (min (1:Int).toNat (IntKind.bits .u64))))) (1:Int)) f b r g)
   .exact Ye 15 [rz,rz,rA [(9,aI D)],rz] [true,false] (ma [0,2,4,14,15] [100000]) (mC O2 z) (v e (IntKind.wrap .i64 (Int.fdiv (IntKind.wrap .u64 (Zaq e f)) (2 ^ (min (1:Int).toNat (IntKind.bits .u64))))) b r g)
  .exact Ye 10 [rz,rz] [false] (ma [0,14,17] [100000]) (ml y) (ZjF S0 w0 t h o p e f (ZaH t h o p u) v ((t-e).toNat+2) t b r g)
def Zbh(t u i:Int)(e:List Zaa)(f g:Int)(gr:((List Int)->Int->Int->Int->(List Zaa)->Int->Int->Option (List Int)))(h j n o p d:Int)(ac:Int->Int->Int->(List Int)->Option (List Int))(b:List Int):Option (List Int):=bif(decide (h<d))then bif(decide (d<i))then(gr b h d i e f g).bind fun r=>some r else some b else some b
theorem ZdP(v y u:Int)(e:List Zaa)(f g:Int)(gr:((List Int)->Int->Int->Int->(List Zaa)->Int->Int->Option (List Int)))(p z D E F A:Int)(bp:∀(B:List Int)(v y u:Int)(e:List Zaa)(f g:Int)(r:List Int),gr B v y u e f g=some r->Yq 376 [(me 100000 3 1 mi (0:Int) B)] [.one (.osl 100000 B.length),Yj v,Yj y,Yj u,.one (mg 322 0 3 [] [mh [cL 10 Zaa.c Zaa.d e],mh [.lit (.int .i64 f)],mh [.lit (.int .u64 g)]])] [(me 100000 3 1 mi (0:Int) r)] (.tup []))(ac:Int->Int->Int->(List Int)->Option (List Int))(ay:∀(fy fA fB:Int)(ah r:List Int),ac fy fA fB ah=some r->Ys 220 S0 w0 Tryz.f376 [(me 100000 3 1 mi (0:Int) r)] (.tup []) [1,1,1,1,1,1,1,0,0] ⟨[(0,.one (.osl 100000 ah.length)),(1,(Yj v)),(2,(Yj y)),(3,(Yj u)),(4,.one (mg 322 0 3 [] [mh [cL 10 Zaa.c Zaa.d e],mh [.lit (.int .i64 f)],mh [.lit (.int .u64 g)]])),(18,(Yj p)),(19,(Yj z)),(20,(Yj fy)),(21,(Yj fA)),(22,(Yj fB))],[(me 100000 3 1 mi (0:Int) ah)]⟩)(b r:List Int)(h:Zbh v y u e f g gr p z D E F A ac b=some r):Ys 220 S0 w0 Tryz.f376 [(me 100000 3 1 mi (0:Int) r)] (.tup []) [1,1,1,1,1,1,1,1,1,1,1] ⟨[(0,.one (.osl 100000 b.length)),(3,(Yj u)),(4,.one (mg 322 0 3 [] [mh [cL 10 Zaa.c Zaa.d e],mh [.lit (.int .i64 f)],mh [.lit (.int .u64 g)]])),(18,(Yj p)),(24,(Yj A))],[(me 100000 3 1 mi (0:Int) b)]⟩:=by
 unfold Zbh at h;obtain⟨o,h⟩|⟨o,h⟩:=Zag h
 .obtain⟨t,h⟩|⟨t,h⟩:=Zag h
  .obtain⟨H,G,h⟩:=Zad h;obtain rfl:=oi h;exact Yd 4 [rB [(3,true)],rH [] [(5,⟨[(100000,100000)],[],[(me 100000 3 1 mi (0:Int) H)],.tup []⟩)]] [true] (ma [] [100000]) (mo o t (bp _ _ _ _ _ _ _ _ G))
  .obtain rfl:=oi h;exact Yd 4 [rB [(3,true)]] [false] (ma [] [100000]) (mn o t)
 .obtain rfl:=oi h;exact Yd 4 [rB [(3,false)]] [false] (ma [] [100000]) (mn o (mP false))
def ZaV(p r t:Int)(d:List Zaa)(e f:Int)(gr:((List Int)->Int->Int->Int->(List Zaa)->Int->Int->Option (List Int)))(h i g j n:Int)(ac:Int->Int->Int->(List Int)->Option (List Int))(o:Int)(b:List Int):Option (List Int):=bif(decide (p<g))then bif(decide (g<h))then(gr b p g h d e f).bind fun u=>Zbh p r t d e f gr h i g j n o ac u else Zbh p r t d e f gr h i g j n o ac b else Zbh p r t d e f gr h i g j n o ac b
theorem ZdQ(v D y:Int)(e:List Zaa)(f g:Int)(gr:((List Int)->Int->Int->Int->(List Zaa)->Int->Int->Option (List Int)))(h p t z A:Int)(bp:∀(G:List Int)(v D y:Int)(e:List Zaa)(f g:Int)(r:List Int),gr G v D y e f g=some r->Yq 376 [(me 100000 3 1 mi (0:Int) G)] [.one (.osl 100000 G.length),Yj v,Yj D,Yj y,.one (mg 322 0 3 [] [mh [cL 10 Zaa.c Zaa.d e],mh [.lit (.int .i64 f)],mh [.lit (.int .u64 g)]])] [(me 100000 3 1 mi (0:Int) r)] (.tup []))(ac:Int->Int->Int->(List Int)->Option (List Int))(ay:∀(fy fA fB:Int)(ah r:List Int),ac fy fA fB ah=some r->Ys 220 S0 w0 Tryz.f376 [(me 100000 3 1 mi (0:Int) r)] (.tup []) [1,1,1,1,1,1,1,0,0] ⟨[(0,.one (.osl 100000 ah.length)),(1,(Yj v)),(2,(Yj D)),(3,(Yj y)),(4,.one (mg 322 0 3 [] [mh [cL 10 Zaa.c Zaa.d e],mh [.lit (.int .i64 f)],mh [.lit (.int .u64 g)]])),(18,(Yj h)),(19,(Yj p)),(20,(Yj fy)),(21,(Yj fA)),(22,(Yj fB))],[(me 100000 3 1 mi (0:Int) ah)]⟩)(u:Int)(b r:List Int)(o:ZaV v D y e f g gr h p t z A ac u b=some r):Ys 220 S0 w0 Tryz.f376 [(me 100000 3 1 mi (0:Int) r)] (.tup []) [1,1,1,1,1,1,1,1,1,1] ⟨[(0,.one (.osl 100000 b.length)),(1,(Yj v)),(3,(Yj y)),(4,.one (mg 322 0 3 [] [mh [cL 10 Zaa.c Zaa.d e],mh [.lit (.int .i64 f)],mh [.lit (.int .u64 g)]])),(18,(Yj h)),(20,(Yj t)),(24,(Yj u))],[(me 100000 3 1 mi (0:Int) b)]⟩:=by
 unfold ZaV at o;obtain⟨B,o⟩|⟨B,o⟩:=Zag o
 .obtain⟨E,o⟩|⟨E,o⟩:=Zag o
  .obtain⟨F,H,o⟩:=Zad o;exact Ye 5 [rB [(3,true)],rH [] [(5,⟨[(100000,100000)],[],[(me 100000 3 1 mi (0:Int) F)],.tup []⟩)]] [true] ⟨[],[],[],[(100000,F.length)],[],[0,3,4,18,24],[100000],[]⟩ (mq B E (bp _ _ _ _ _ _ _ _ H) (mP F.length)) (ZdP S0 w0 v D y e f g gr h p t z A u bp ac ay F r o)
  .exact Ye 5 [rB [(3,true)]] [false] (ma [0,3,4,18,24] [100000]) (mn B E) (ZdP S0 w0 v D y e f g gr h p t z A u bp ac ay b r o)
 .exact Ye 5 [rB [(3,false)]] [false] (ma [0,3,4,18,24] [100000]) (mn B (mP false)) (ZdP S0 w0 v D y e f g gr h p t z A u bp ac ay b r o)
def ZaD(p o r:Int)(e:List Zaa)(f g:Int)(gr:((List Int)->Int->Int->Int->(List Zaa)->Int->Int->Option (List Int)))(j h:Int):Nat->Int->Int->Int->(List Int)->Option (List Int)|0,_,_,_,_=>none|fu+1,d,i,n,b=>bif(decide (d<i))then need (0<=(ZaG n (IntKind.wrap .i64 (Int.fdiv (IntKind.wrap .u64 (Zaq d i)) (2 ^ (min (1:Int).toNat (IntKind.bits .u64))))))/\(ZaG n (IntKind.wrap .i64 (Int.fdiv (IntKind.wrap .u64 (Zaq d i)) (2 ^ (min (1:Int).toNat (IntKind.bits .u64))))))<(b.length:Int))<|need (0<=(IntKind.wrap .i64 (Int.fdiv (IntKind.wrap .u64 (Zaq d i)) (2 ^ (min (1:Int).toNat (IntKind.bits .u64)))))/\(IntKind.wrap .i64 (Int.fdiv (IntKind.wrap .u64 (Zaq d i)) (2 ^ (min (1:Int).toNat (IntKind.bits .u64)))))<(b.length:Int))<|(ZgF (b.getD ((ZaG n (IntKind.wrap .i64 (Int.fdiv (IntKind.wrap .u64 (Zaq d i)) (2 ^ (min (1:Int).toNat (IntKind.bits .u64)))))).toNat) (0:Int)) (b.getD ((IntKind.wrap .i64 (Int.fdiv (IntKind.wrap .u64 (Zaq d i)) (2 ^ (min (1:Int).toNat (IntKind.bits .u64))))).toNat) (0:Int)) e f g).bind fun t=>bif(!(decide (t<(0:Int))))then ZaD p o r e f g gr j h fu (Zaq (IntKind.wrap .i64 (Int.fdiv (IntKind.wrap .u64 (Zaq d i)) (2 ^ (min (1:Int).toNat (IntKind.bits .u64))))) (1:Int)) i n b else ZaD p o r e f g gr j h fu d (IntKind.wrap .i64 (Int.fdiv (IntKind.wrap .u64 (Zaq d i)) (2 ^ (min (1:Int).toNat (IntKind.bits .u64))))) n b else bif(decide (d<o))then bif(decide (o<(ZaG h d)))then(Zcu b d o (ZaG h d) e f g).bind fun u=>ZaV p o r e f g gr j h d i n (ZaD p o r e f g gr j h fu) (ZaG h d) u else ZaV p o r e f g gr j h d i n (ZaD p o r e f g gr j h fu) (ZaG h d) b else ZaV p o r e f g gr j h d i n (ZaD p o r e f g gr j h fu) (ZaG h d) b
theorem ZjE(y z A:Int)(e:List Zaa)(f g:Int)(gr:((List Int)->Int->Int->Int->(List Zaa)->Int->Int->Option (List Int)))(v t:Int)(bp:∀(H:List Int)(y z A:Int)(e:List Zaa)(f g:Int)(r:List Int),gr H y z A e f g=some r->Yq 376 [(me 100000 3 1 mi (0:Int) H)] [.one (.osl 100000 H.length),Yj y,Yj z,Yj A,.one (mg 322 0 3 [] [mh [cL 10 Zaa.c Zaa.d e],mh [.lit (.int .i64 f)],mh [.lit (.int .u64 g)]])] [(me 100000 3 1 mi (0:Int) r)] (.tup [])):∀(B:Nat)(h p u:Int)(b r:List Int),ZaD y z A e f g gr v t B h p u b=some r->Ys 220 S0 w0 Tryz.f376 [(me 100000 3 1 mi (0:Int) r)] (.tup []) [1,1,1,1,1,1,1,0,0] ⟨[(0,.one (.osl 100000 b.length)),(1,(Yj y)),(2,(Yj z)),(3,(Yj A)),(4,.one (mg 322 0 3 [] [mh [cL 10 Zaa.c Zaa.d e],mh [.lit (.int .i64 f)],mh [.lit (.int .u64 g)]])),(18,(Yj v)),(19,(Yj t)),(20,(Yj h)),(21,(Yj p)),(22,(Yj u))],[(me 100000 3 1 mi (0:Int) b)]⟩:=by
 intro B;induction B with
 |zero=>
  intro h p u b r o;simp[ZaD]at o
 |succ B F=>
  intro h p u b r o;unfold ZaD at o;obtain⟨G,o⟩|⟨G,o⟩:=Zag o
  .obtain⟨M,O,o⟩:=Yt o;obtain⟨R,U,o⟩:=Zad o;have O3:=(mu G (mR (1:Int) rfl) M (ltOf M) O (ltOf O) (ZjN _ _ _ _ _ _ U));obtain⟨J,o⟩|⟨J,o⟩:=Zag o
   .exact Ye 15 [rz,rz,rA [(11,aI R)],rz] [true,true] (ma [0,1,2,3,4,18,19,20,21,22] [100000]) (mC O3 J) (F (Zaq (IntKind.wrap .i64 (Int.fdiv (IntKind.wrap .u64 (Zaq h p)) (2 ^ (min (1:Int).toNat (IntKind.bits .u64))))) (1:Int)) p u b r o)
   .exact Ye 15 [rz,rz,rA [(11,aI R)],rz] [true,false] (ma [0,1,2,3,4,18,19,20,21,22] [100000]) (mC O3 J) (F h (IntKind.wrap .i64 (Int.fdiv (IntKind.wrap .u64 (Zaq h p)) (2 ^ (min (1:Int).toNat (IntKind.bits .u64))))) u b r o)
  .obtain⟨I,o⟩|⟨I,o⟩:=Zag o
   .obtain⟨D,o⟩|⟨D,o⟩:=Zag o
    .obtain⟨E,L,o⟩:=Zad o;exact Ye 13 [rz,rz,rB [(3,true)],rH [] [(5,⟨[(100000,100000)],[],[(me 100000 3 1 mi (0:Int) E)],.tup []⟩)]] [false,true] ⟨[],[],[],[(100000,E.length)],[],[0,1,3,4,18,20,24],[100000],[]⟩ (mr G I D (ZkM _ _ _ _ _ _ _ _ L) (mP E.length)) (ZdQ S0 w0 y z A e f g gr v t h p u bp (ZaD y z A e f g gr v t B) F (ZaG t h) E r o)
    .exact Ye 13 [rz,rz,rB [(3,true)]] [false,false] (ma [0,1,3,4,18,20,24] [100000]) (mo G I D) (ZdQ S0 w0 y z A e f g gr v t h p u bp (ZaD y z A e f g gr v t B) F (ZaG t h) b r o)
   .exact Ye 13 [rz,rz,rB [(3,false)]] [false,false] (ma [0,1,3,4,18,20,24] [100000]) (mo G I (mP false)) (ZdQ S0 w0 y z A e f g gr v t h p u bp (ZaD y z A e f g gr v t B) F (ZaG t h) b r o)
def ZbW(n o p:Int)(d:List Zaa)(e f:Int)(gr:((List Int)->Int->Int->Int->(List Zaa)->Int->Int->Option (List Int)))(j g h i:Int)(b:List Int):Option (List Int):=ZaD n o p d e f gr j g ((i-h).toNat+2) h i (ZaG g (1:Int)) b
theorem Zge(u v y:Int)(e:List Zaa)(f g:Int)(gr:((List Int)->Int->Int->Int->(List Zaa)->Int->Int->Option (List Int)))(bp:∀(z:List Int)(u v y:Int)(e:List Zaa)(f g:Int)(r:List Int),gr z u v y e f g=some r->Yq 376 [(me 100000 3 1 mi (0:Int) z)] [.one (.osl 100000 z.length),Yj u,Yj v,Yj y,.one (mg 322 0 3 [] [mh [cL 10 Zaa.c Zaa.d e],mh [.lit (.int .i64 f)],mh [.lit (.int .u64 g)]])] [(me 100000 3 1 mi (0:Int) r)] (.tup []))(t h o p:Int)(b r:List Int)(A:ZbW u v y e f g gr t h o p b=some r):Ys 220 S0 w0 Tryz.f376 [(me 100000 3 1 mi (0:Int) r)] (.tup []) [1,1,1,1,1,1] ⟨[(0,.one (.osl 100000 b.length)),(1,(Yj u)),(2,(Yj v)),(3,(Yj y)),(4,.one (mg 322 0 3 [] [mh [cL 10 Zaa.c Zaa.d e],mh [.lit (.int .i64 f)],mh [.lit (.int .u64 g)]])),(18,(Yj t)),(19,(Yj h)),(20,(Yj o)),(21,(Yj p))],[(me 100000 3 1 mi (0:Int) b)]⟩:=by
 unfold ZbW at A;exact Ye 4 [rz] [] (ma [0,1,2,3,4,18,19,20,21,22] [100000]) .n (ZjE S0 w0 u v y e f g gr t h bp ((p-o).toNat+2) o p (ZaG h (1:Int)) b r A)
def ZcB(gr:(List Int)->Int->Int->Int->(List Zaa)->Int->Int->Option (List Int))(i:List Int)(b d h:Int)(e:List Zaa)(f g:Int):Option (List Int):=bif((ZaG d b)==(1:Int))then ZaI b e f g ((h-d).toNat+2) d h i else bif((ZaG h d)==(1:Int))then ZaH d e f g ((d-b).toNat+2) b d i else bif(decide (d>(IntKind.wrap .i64 (Int.fdiv (IntKind.wrap .u64 (Zaq b h)) (2 ^ (min (1:Int).toNat (IntKind.bits .u64)))))))then ZbW b d h e f g gr (IntKind.wrap .i64 (Int.fdiv (IntKind.wrap .u64 (Zaq b h)) (2 ^ (min (1:Int).toNat (IntKind.bits .u64))))) (Zaq (IntKind.wrap .i64 (Int.fdiv (IntKind.wrap .u64 (Zaq b h)) (2 ^ (min (1:Int).toNat (IntKind.bits .u64))))) d) (ZaG (Zaq (IntKind.wrap .i64 (Int.fdiv (IntKind.wrap .u64 (Zaq b h)) (2 ^ (min (1:Int).toNat (IntKind.bits .u64))))) d) h) (IntKind.wrap .i64 (Int.fdiv (IntKind.wrap .u64 (Zaq b h)) (2 ^ (min (1:Int).toNat (IntKind.bits .u64))))) i else ZbW b d h e f g gr (IntKind.wrap .i64 (Int.fdiv (IntKind.wrap .u64 (Zaq b h)) (2 ^ (min (1:Int).toNat (IntKind.bits .u64))))) (Zaq (IntKind.wrap .i64 (Int.fdiv (IntKind.wrap .u64 (Zaq b h)) (2 ^ (min (1:Int).toNat (IntKind.bits .u64))))) d) b d i
theorem ZjT(gr:(List Int)->Int->Int->Int->(List Zaa)->Int->Int->Option (List Int))(bp:∀(t:List Int)(g h o:Int)(b:List Zaa)(e f:Int)(r:List Int),gr t g h o b e f=some r->Yq 376 [(me 100000 3 1 mi (0:Int) t)] [.one (.osl 100000 t.length),Yj g,Yj h,Yj o,.one (mg 322 0 3 [] [mh [cL 10 Zaa.c Zaa.d b],mh [.lit (.int .i64 e)],mh [.lit (.int .u64 f)]])] [(me 100000 3 1 mi (0:Int) r)] (.tup []))(t:List Int)(g h o:Int)(b:List Zaa)(e f:Int)(r:List Int)(p:ZcB gr t g h o b e f=some r):Yq 376 [(me 100000 3 1 mi (0:Int) t)] [.one (.osl 100000 t.length),Yj g,Yj h,Yj o,.one (mg 322 0 3 [] [mh [cL 10 Zaa.c Zaa.d b],mh [.lit (.int .i64 e)],mh [.lit (.int .u64 f)]])] [(me 100000 3 1 mi (0:Int) r)] (.tup []):=by
 refine Yw Tryz.func376 fun S0 w0=>?_;unfold ZcB at p;obtain⟨u,p⟩|⟨u,p⟩:=Zag p
 .exact Ye 10 [rz,rz,rz] [true] (ma [0,1,4,10,11] [100000]) (ml u) (ZjI S0 w0 g b e f ((o-h).toNat+2) h o t r p)
 .obtain⟨v,p⟩|⟨v,p⟩:=Zag p
  .exact Ye 15 [rz,rz,rz,rz] [false,true] (ma [0,2,4,14,15] [100000]) (mn u v) (ZjG S0 w0 h b e f ((h-g).toNat+2) g h t r p)
  .have O4:=(mo u v (mR (1:Int) rfl));obtain⟨y,p⟩|⟨y,p⟩:=Zag p
   .exact Ye 23 [rz,rz,rz,rz,rz,rz,rz,rz] [false,false,true] (ma [0,1,2,3,4,18,19,20,21] [100000]) (mC O4 y) (Zge S0 w0 g h o b e f gr bp (IntKind.wrap .i64 (Int.fdiv (IntKind.wrap .u64 (Zaq g o)) (2 ^ (min (1:Int).toNat (IntKind.bits .u64))))) (Zaq (IntKind.wrap .i64 (Int.fdiv (IntKind.wrap .u64 (Zaq g o)) (2 ^ (min (1:Int).toNat (IntKind.bits .u64))))) h) (ZaG (Zaq (IntKind.wrap .i64 (Int.fdiv (IntKind.wrap .u64 (Zaq g o)) (2 ^ (min (1:Int).toNat (IntKind.bits .u64))))) h) o) (IntKind.wrap .i64 (Int.fdiv (IntKind.wrap .u64 (Zaq g o)) (2 ^ (min (1:Int).toNat (IntKind.bits .u64))))) t r p)
   .exact Ye 23 [rz,rz,rz,rz,rz,rz,rz,rz] [false,false,false] (ma [0,1,2,3,4,18,19,20,21] [100000]) (mC O4 y) (Zge S0 w0 g h o b e f gr bp (IntKind.wrap .i64 (Int.fdiv (IntKind.wrap .u64 (Zaq g o)) (2 ^ (min (1:Int).toNat (IntKind.bits .u64))))) (Zaq (IntKind.wrap .i64 (Int.fdiv (IntKind.wrap .u64 (Zaq g o)) (2 ^ (min (1:Int).toNat (IntKind.bits .u64))))) h) g h t r p)
def Zbg:Nat->(List Int)->Int->Int->Int->(List Zaa)->Int->Int->Option (List Int)|0,_,_,_,_,_,_,_=>none|fu+1,f,g,h,i,b,d,e=>ZcB (Zbg fu) f g h i b d e
theorem ZgE:∀(h:Nat)(g:List Int)(n o p:Int)(b:List Zaa)(e f:Int)(r:List Int)(t:Zbg h g n o p b e f=some r),Yq 376 [(me 100000 3 1 mi (0:Int) g)] [.one (.osl 100000 g.length),Yj n,Yj o,Yj p,.one (mg 322 0 3 [] [mh [cL 10 Zaa.c Zaa.d b],mh [.lit (.int .i64 e)],mh [.lit (.int .u64 f)]])] [(me 100000 3 1 mi (0:Int) r)] (.tup []):=by
 intro h;induction h with
 |zero=>
  intro g n o p b e f r t;simp[Zbg]at t
 |succ h u=>
  intro g n o p b e f r t;unfold Zbg at t;exact ZjT (Zbg h) u g n o p b e f r t
def Zbd(i:Int)(d:List Zaa)(e f g:Int)(ag:Int->Int->Int->(List Int)->Option (List Int))(am:Int->(List Int)->Option (List Int)):Nat->Int->Int->(List Int)->Option (List Int)|0,_,_,_=>none|fu+1,h,j,b=>bif(decide (j<=i))then(Zbg 1000 b h (Zaq h g) j d e f).bind fun n=>Zbd i d e f g ag am fu j (Zaq j (ZiO (2:Int) g)) n else bif(decide ((Zaq h g)<i))then(Zbg 1000 b h (Zaq h g) i d e f).bind fun o=>am (ZiO g (2:Int)) o else am (ZiO g (2:Int)) b
theorem ZjY(v:Int)(f:List Zaa)(g h u:Int)(ag:Int->Int->Int->(List Int)->Option (List Int))(am:Int->(List Int)->Option (List Int))(aP:∀(gR gS dz:Int)(ah r:List Int),ag gR gS dz ah=some r->Ys 63 S0 w0 Tryz.f356 [(me 100000 3 1 mi (0:Int) r)] (.tup []) [1,1,0,0] ⟨[(0,.one (.osl 100000 ah.length)),(1,(Yj v)),(2,.one (mg 322 0 3 [] [mh [cL 10 Zaa.c Zaa.d f],mh [.lit (.int .i64 g)],mh [.lit (.int .u64 h)]])),(6,(Yj gR)),(7,(Yj gS)),(8,(Yj dz))],[(me 100000 3 1 mi (0:Int) ah)]⟩)(aQ:∀(gR:Int)(ah r:List Int),am gR ah=some r->Ys 63 S0 w0 Tryz.f356 [(me 100000 3 1 mi (0:Int) r)] (.tup []) [1,1,1,1,0] ⟨[(0,.one (.osl 100000 ah.length)),(1,(Yj v)),(2,.one (mg 322 0 3 [] [mh [cL 10 Zaa.c Zaa.d f],mh [.lit (.int .i64 g)],mh [.lit (.int .u64 h)]])),(6,(Yj gR))],[(me 100000 3 1 mi (0:Int) ah)]⟩):∀(y:Nat)(z o:Int)(b r:List Int),Zbd v f g h u ag am y z o b=some r->Ys 63 S0 w0 Tryz.f356 [(me 100000 3 1 mi (0:Int) r)] (.tup []) [1,1,1,1,0,0,1,0,1,0,0] ⟨[(0,.one (.osl 100000 b.length)),(1,(Yj v)),(2,.one (mg 322 0 3 [] [mh [cL 10 Zaa.c Zaa.d f],mh [.lit (.int .i64 g)],mh [.lit (.int .u64 h)]])),(6,(Yj u)),(7,(Yj z)),(8,(Yj o))],[(me 100000 3 1 mi (0:Int) b)]⟩:=by
 intro y;induction y with
 |zero=>
  intro z o b r e;simp[Zbd]at e
 |succ y D=>
  intro z o b r e;unfold Zbd at e;obtain⟨A,e⟩|⟨A,e⟩:=Zag e
  .obtain⟨p,E,e⟩:=Zad e;exact Ye 14 [rz,rH [] [(7,⟨[(100000,100000)],[],[(me 100000 3 1 mi (0:Int) p)],.tup []⟩)],rz,rz] [true] ⟨[],[],[],[(100000,p.length)],[],[0,1,2,6,7,8],[100000],[]⟩ (mo A (ZgE 1000 _ _ _ _ _ _ _ _ E) (mP p.length)) (D o (Zaq o (ZiO (2:Int) u)) p r e)
  .obtain⟨B,e⟩|⟨B,e⟩:=Zag e
   .obtain⟨t,F,e⟩:=Zad e;exact Ye 16 [rz,rz,rz,rH [] [(5,⟨[(100000,100000)],[],[(me 100000 3 1 mi (0:Int) t)],.tup []⟩)],rz] [false,true] ⟨[],[],[],[(100000,t.length)],[],[0,1,2,6],[100000],[]⟩ (mq A B (ZgE 1000 _ _ _ _ _ _ _ _ F) (mP t.length)) (aQ (ZiO u (2:Int)) t r e)
   .exact Ye 16 [rz,rz,rz,rz] [false,false] (ma [0,1,2,6] [100000]) (mn A B) (aQ (ZiO u (2:Int)) b r e)
def ZaS(g:Int)(d:List Zaa)(e f i j:Int)(ag:Int->Int->Int->(List Int)->Option (List Int)):Nat->Int->(List Int)->Option (List Int)|0,_,_=>none|fu+1,h,b=>bif(decide (h<g))then Zbd g d e f h ag (ZaS g d e f i j ag fu) ((g-(ZiO (2:Int) h)).toNat+2) (0:Int) (ZiO (2:Int) h) b else some b
theorem ZjZ(p:Int)(e:List Zaa)(f g v y:Int)(ag:Int->Int->Int->(List Int)->Option (List Int))(aP:∀(gR gS dz:Int)(ah r:List Int),ag gR gS dz ah=some r->Ys 63 S0 w0 Tryz.f356 [(me 100000 3 1 mi (0:Int) r)] (.tup []) [1,1,0,0] ⟨[(0,.one (.osl 100000 ah.length)),(1,(Yj p)),(2,.one (mg 322 0 3 [] [mh [cL 10 Zaa.c Zaa.d e],mh [.lit (.int .i64 f)],mh [.lit (.int .u64 g)]])),(6,(Yj gR)),(7,(Yj gS)),(8,(Yj dz))],[(me 100000 3 1 mi (0:Int) ah)]⟩):∀(t:Nat)(o:Int)(b r:List Int),ZaS p e f g v y ag t o b=some r->Ys 63 S0 w0 Tryz.f356 [(me 100000 3 1 mi (0:Int) r)] (.tup []) [1,1,1,1,0] ⟨[(0,.one (.osl 100000 b.length)),(1,(Yj p)),(2,.one (mg 322 0 3 [] [mh [cL 10 Zaa.c Zaa.d e],mh [.lit (.int .i64 f)],mh [.lit (.int .u64 g)]])),(6,(Yj o))],[(me 100000 3 1 mi (0:Int) b)]⟩:=by
 intro t;induction t with
 |zero=>
  intro o b r h;simp[ZaS]at h
 |succ t z=>
  intro o b r h;unfold ZaS at h;obtain⟨u,h⟩|⟨u,h⟩:=Zag h
  .exact Ye 11 [rz,rz] [true] (ma [0,1,2,6,7,8] [100000]) (ml u) (ZjY S0 w0 p e f g o ag (ZaS p e f g v y ag t) aP z ((p-(ZiO (2:Int) o)).toNat+2) (0:Int) (ZiO (2:Int) o) b r h)
  .obtain rfl:=oi h;exact Yd 6 [rz] [false] (ma [] [100000]) (ml u)
def ZaP(g:Int)(b:List Zaa)(d e:Int):Nat->Int->Int->Int->(List Int)->Option (List Int)|0,_,_,_,_=>none|fu+1,i,j,h,f=>bif(decide (h<=g))then(ZbN f j h b d e).bind fun n=>ZaP g b d e fu i h (Zaq h i) n else(ZbN f j g b d e).bind fun o=>ZaS g b d e j h (ZaP g b d e fu) ((g-i).toNat+2) i o
theorem Zka(v:Int)(e:List Zaa)(f g:Int):∀(y:Nat)(o z p:Int)(b r:List Int),ZaP v e f g y o z p b=some r->Ys 63 S0 w0 Tryz.f356 [(me 100000 3 1 mi (0:Int) r)] (.tup []) [1,1,0,0] ⟨[(0,.one (.osl 100000 b.length)),(1,(Yj v)),(2,.one (mg 322 0 3 [] [mh [cL 10 Zaa.c Zaa.d e],mh [.lit (.int .i64 f)],mh [.lit (.int .u64 g)]])),(6,(Yj o)),(7,(Yj z)),(8,(Yj p))],[(me 100000 3 1 mi (0:Int) b)]⟩:=by
 intro y;induction y with
 |zero=>
  intro o z p b r h;simp[ZaP]at h
 |succ y B=>
  intro o z p b r h;unfold ZaP at h;obtain⟨A,h⟩|⟨A,h⟩:=Zag h
  .obtain⟨t,D,h⟩:=Zad h;exact Ye 14 [rz,rH [] [(4,⟨[(100000,100000)],[],[(me 100000 3 1 mi (0:Int) t)],.tup []⟩)],rz,rz] [true] ⟨[],[],[],[(100000,t.length)],[],[0,1,2,6,7,8],[100000],[]⟩ (mo A (Zfp _ _ _ _ _ _ _ D) (mP t.length)) (B o p (Zaq p o) t r h)
  .obtain⟨u,E,h⟩:=Zad h;exact Ye 9 [rz,rH [] [(4,⟨[(100000,100000)],[],[(me 100000 3 1 mi (0:Int) u)],.tup []⟩)]] [false] ⟨[],[],[],[(100000,u.length)],[],[0,1,2,6],[100000],[]⟩ (mo A (Zfp _ _ _ _ _ _ _ E) (mP u.length)) (ZjZ S0 w0 v e f g z p (ZaP v e f g y) B ((v-o).toNat+2) o u r h)
def Zeb(g:List Int)(f:Int)(b:List Zaa)(d e:Int):Option (List Int):=ZaP f b d e ((f-(20:Int)).toNat+2) (20:Int) (0:Int) (20:Int) g
theorem ZkL(g:List Int)(h:Int)(b:List Zaa)(e f:Int)(r:List Int)(o:Zeb g h b e f=some r):Yq 356 [(me 100000 3 1 mi (0:Int) g)] [.one (.osl 100000 g.length),Yj h,.one (mg 322 0 3 [] [mh [cL 10 Zaa.c Zaa.d b],mh [.lit (.int .i64 e)],mh [.lit (.int .u64 f)]])] [(me 100000 3 1 mi (0:Int) r)] (.tup []):=by
 refine Yw Tryz.func356 fun S0 w0=>?_;unfold Zeb at o;exact Ye 6 [rz,rz] [] (ma [0,1,2,6,7,8] [100000]) .n (Zka S0 w0 h b e f ((h-(20:Int)).toNat+2) (20:Int) (0:Int) (20:Int) g r o)
def Zco(f:List Int)(b:List Zaa)(d e:Int):Option (List Int):=(Zeb f (f.length:Int) b d e).bind fun g=>some g
theorem Zjq(g:List Int)(b:List Zaa)(e f:Int)(r:List Int)(h:Zco g b e f=some r):Yq 321 [(me 100000 3 1 mi (0:Int) g)] [.one (.osl 100000 g.length),.one (mg 322 0 3 [] [mh [cL 10 Zaa.c Zaa.d b],mh [.lit (.int .i64 e)],mh [.lit (.int .u64 f)]])] [(me 100000 3 1 mi (0:Int) r)] (.tup []):=by
 refine Yw Tryz.func321 fun S0 w0=>?_;unfold Zco at h;obtain⟨o,p,h⟩:=Zad h;obtain rfl:=oi h;exact Yd 1 [rH [] [(4,⟨[(100000,100000)],[],[(me 100000 3 1 mi (0:Int) o)],.tup []⟩)]] [] (ma [] [100000]) (ml (ZkL _ _ _ _ _ _ p))
def ZeN(e:Int):Nat->(List Zaa)->Int->Int->(List Int)->(List Zaa)->Int->Int->Option (List Int)|0,_,_,_,_,_,_,_=>none|fu+1,g,h,b,f,j,i,n=>bif(decide (b<h))then need (0<=b/\b<(g.length:Int))<|(Zla (g.getD b.toNat Zaa.d) i).bind fun p=>bif p then need ((f++([b]:List Int)).length * 8<=140737488355328/\(f++([b]:List Int)).length<=maxLen)<|ZeN e fu g h (Zaq b 1) (f++([b]:List Int)) j i n else ZeN e fu g h (Zaq b 1) f j i n else(Zco f j i n).bind fun o=>need (0<=(0:Int)/\(0:Int)<=(if(f.length:Int)<(if(0:Int)>e then(0:Int)else e)then(f.length:Int)else(if(0:Int)>e then(0:Int)else e))/\(if(f.length:Int)<(if(0:Int)>e then(0:Int)else e)then(f.length:Int)else(if(0:Int)>e then(0:Int)else e))<=(f.length:Int))<|need ((if(f.length:Int)<(if(0:Int)>e then(0:Int)else e)then(f.length:Int)else(if(0:Int)>e then(0:Int)else e)).toNat<=o.length)<|some (o.take ((if(f.length:Int)<(if(0:Int)>e then(0:Int)else e)then(f.length:Int)else(if(0:Int)>e then(0:Int)else e)).toNat))
theorem Ztm(f:Int):∀(z:Nat)(o:List Zaa)(p b:Int)(g:List Int)(u:List Zaa)(v y:Int)(r:List Int),ZeN f z o p b g u v y=some r->Ys 37 S0 w0 Tryz.f256 [(me 99999 3 1 mi (0:Int) r)] (.one (.osl 99999 r.length)) [1,1,0,1,0] ⟨[(2,(Yj f)),(4,.one (.ptr 4 0)),(5,.one (.ptr 5 0)),(7,.one (.ptr 7 0)),(9,.one (.osl 9 g.length)),(12,(Ym o)),(13,(Yj p)),(14,(Yj b))],[(me 9 3 1 mi (0:Int) g),(4,.box [cL 10 Zaa.c Zaa.d u]),(5,.box [.lit (.int .i64 v)]),(7,.box [.lit (.int .u64 y)])]⟩:=by
 intro z;induction z with
 |zero=>
  intro o p b g u v y r h;simp[ZeN]at h
 |succ z C=>
  intro o p b g u v y r h;unfold ZeN at h;obtain⟨A,h⟩|⟨A,h⟩:=Zag h
  .obtain⟨F,h⟩:=Zao h;obtain⟨D,G,h⟩:=Zad h;have O1:=(mo A F (ZuT _ _ _ G));obtain⟨B,h⟩|⟨B,h⟩:=Zag h
   .obtain⟨E,h⟩:=Zao h;exact Ye 17 [rz,rz,rA [(2,aB D)],⟨[(3,.c ((g++([b]:List Int)).length) (Zam mi (0:Int) (g++([b]:List Int))))],[],[],[],[],[(2,(([b]:List Int).length,Zam mi (0:Int) ([b]:List Int)))],[]⟩,rz] [true,true] (md [2,4,5,7,9,12,13,14] [25,4,5,7] [(25,9)]) (mG O1 B (mN (e:=mi) (0:Int) 1 (fun _=>rfl) ([b]:List Int)) (Zcq (sz:=1) (e:=mi) (d:=(0:Int)) g ([b]:List Int)) E.1 E.2) (C o p (Zaq b 1) (g++([b]:List Int)) u v y r h)
   .exact Ye 17 [rz,rz,rA [(2,aB D)],rz] [true,false] (ma [2,4,5,7,9,12,13,14] [9,4,5,7]) (mC O1 B) (C o p (Zaq b 1) g u v y r h)
  .obtain⟨t,H,h⟩:=Zad h;obtain⟨I,J,h⟩:=Yt h;apply Yc h 10 [rz,⟨[],[],[(1,[4,5,7])],[],[],[],[(2,⟨[(100000,9)],[],[(me 100000 3 1 mi (0:Int) t)],.tup []⟩)]⟩,rA [(7,.c (t.take ((if(g.length:Int)<(if(0:Int)>f then(0:Int)else f)then(g.length:Int)else(if(0:Int)>f then(0:Int)else f)).toNat)).length (Zam mi (0:Int) (t.take ((if(g.length:Int)<(if(0:Int)>f then(0:Int)else f)then(g.length:Int)else(if(0:Int)>f then(0:Int)else f)).toNat))))]] [false] (md [8] [8] [(8,99999)]) (mt A (Zjq _ _ _ _ _ H) I (mP 0) (show (t.take ((if(g.length:Int)<(if(0:Int)>f then(0:Int)else f)then(g.length:Int)else(if(0:Int)>f then(0:Int)else f)).toNat)).length=(if(g.length:Int)<(if(0:Int)>f then(0:Int)else f)then(g.length:Int)else(if(0:Int)>f then(0:Int)else f)).toNat from(ZyF _ _ J)) (show ∀i j,i<(if(g.length:Int)<(if(0:Int)>f then(0:Int)else f)then(g.length:Int)else(if(0:Int)>f then(0:Int)else f)).toNat->j<1->Zam mi (0:Int) (t.take ((if(g.length:Int)<(if(0:Int)>f then(0:Int)else f)then(g.length:Int)else(if(0:Int)>f then(0:Int)else f)).toNat)) i j=Zam mi (0:Int) t i j from(Zvg _ _)))
def ZeA(b:List Zaa)(d e f:Int):Option (List Int):=ZeN e (((b.length:Int)-(0:Int)).toNat+2) b (b.length:Int) (0:Int) ([]) b d f
theorem ZuS(b:List Zaa)(d e f:Int)(r:List Int)(g:ZeA b d e f=some r):Yq 256 [] [Ym b,Yj d,Yj e,.one (.lit (.int .u64 f))] [(me 99999 3 1 mi (0:Int) r)] (.one (.osl 99999 r.length)):=by
 refine Yw Tryz.func256 fun S0 w0=>?_;unfold ZeA at g;exact Ye 8 [rz,rz,rz] [] ⟨[],[],[],[],[(9,9,3,1,Zam mi (0:Int) [])],[2,4,5,7,9,12,13,14],[9,4,5,7],[]⟩ .n (Ztm S0 w0 e (((b.length:Int)-(0:Int)).toNat+2) b (b.length:Int) (0:Int) ([]) b d f r g)
theorem ZkZ(b:List Zaa)(d e f:Int)(r:List Int)(g:ZeA b d e f=some r):Yp 256 [Ym b,Yj d,Yj e,.one (.lit (.int .u64 f))] (.one (cL 1 mi (0:Int) r)):=(ZuS b d e f r g).pure
def Zeu(o g:List Int)(h i:Int)(j:List Int)(aS:(List Int)->Int->Int->(List Int)->(List Bool)->Option (List Int)):Nat->(List Int)->Int->Int->(List Int)->(List Bool)->Option (List Int)|0,_,_,_,_,_=>none|fu+1,d,f,b,n,e=>bif(decide (b<f))then need (0<=b/\b<(d.length:Int))<|need (0<=b/\b<(e.length:Int))<|bif(!(e.getD b.toNat false))then need ((n++([(d.getD b.toNat (0:Int))]:List Int)).length * 8<=140737488355328/\(n++([(d.getD b.toNat (0:Int))]:List Int)).length<=maxLen)<|Zeu o g h i j aS fu d f (Zaq b 1) (n++([(d.getD b.toNat (0:Int))]:List Int)) e else Zeu o g h i j aS fu d f (Zaq b 1) n e else some n
theorem Zst(D v:List Int)(y z:Int)(A:List Int)(aS:(List Int)->Int->Int->(List Int)->(List Bool)->Option (List Int))(eh:∀(jQ:List Int)(jR jS:Int)(df:List Int)(gC:List Bool)(r:List Int),aS jQ jR jS df gC=some r->Ys 45 S0 w0 Tryz.f255 [(me 99999 3 1 mi (0:Int) r)] (.one (.osl 99999 r.length)) [1,1,1,0,1,0] ⟨[(0,.one (cL 1 mi (0:Int) D)),(5,.one (.osl 13 df.length)),(6,.one (.osl 16 gC.length)),(17,.one (cL 1 mi (0:Int) jQ)),(18,(Yj jR)),(19,(Yj jS))],[(me 13 3 1 mi (0:Int) df),(me 16 4 1 cB false gC)]⟩):∀(u:Nat)(f:List Int)(o b:Int)(p:List Int)(g:List Bool)(r:List Int),Zeu D v y z A aS u f o b p g=some r->Ys 45 S0 w0 Tryz.f255 [(me 99999 3 1 mi (0:Int) r)] (.one (.osl 99999 r.length)) [1,1,1,1,0,1,0] ⟨[(5,.one (.osl 5 p.length)),(6,.one (.osl 16 g.length)),(27,.one (cL 1 mi (0:Int) f)),(28,(Yj o)),(29,(Yj b))],[(me 5 3 1 mi (0:Int) p),(me 16 4 1 cB false g)]⟩:=by
 intro u;induction u with
 |zero=>
  intro f o b p g r h;simp[Zeu]at h
 |succ u E=>
  intro f o b p g r h;unfold Zeu at h;obtain⟨B,h⟩|⟨B,h⟩:=Zag h
  .obtain⟨G,F,h⟩:=Yt h;have O1:=(mq B G F (ltOf F));obtain⟨C,h⟩|⟨C,h⟩:=Zag h
   .obtain⟨t,h⟩:=Zao h;exact Ye 17 [rz,rz,rz,⟨[(3,.c ((p++([(f.getD b.toNat (0:Int))]:List Int)).length) (Zam mi (0:Int) (p++([(f.getD b.toNat (0:Int))]:List Int))))],[],[],[],[],[(2,(([(f.getD b.toNat (0:Int))]:List Int).length,Zam mi (0:Int) ([(f.getD b.toNat (0:Int))]:List Int)))],[]⟩,rz] [true,true] (md [5,6,27,28,29] [42,16] [(42,5)]) (mG O1 C (mN (e:=mi) (0:Int) 1 (fun _=>rfl) ([(f.getD b.toNat (0:Int))]:List Int)) (Zcq (sz:=1) (e:=mi) (d:=(0:Int)) p ([(f.getD b.toNat (0:Int))]:List Int)) t.1 t.2) (E f o (Zaq b 1) (p++([(f.getD b.toNat (0:Int))]:List Int)) g r h)
   .exact Ye 17 [rz,rz,rz,rz] [true,false] (ma [5,6,27,28,29] [5,16]) (mC O1 C) (E f o (Zaq b 1) p g r h)
  .apply Yc h 8 [rz,rz] [false] (md [4] [5] [(5,99999)]) (ml B)
def ZdK(h:List Int):Nat->(List Int)->Int->Int->(List Int)->(List Bool)->Option (List Int)|0,_,_,_,_,_=>none|fu+1,d,e,b,f,g=>bif(decide (b<e))then need (0<=b/\b<(d.length:Int))<|need (0<=(d.getD b.toNat (0:Int))/\(d.getD b.toNat (0:Int))<(g.length:Int))<|ZdK h fu d e (Zaq b 1) f (g.set ((d.getD b.toNat (0:Int)).toNat) true)else Zeu h d e b f (ZdK h fu) (((h.length:Int)-(0:Int)).toNat+2) h (h.length:Int) (0:Int) f g
theorem Zsu(i:List Int):∀(j:Nat)(d:List Int)(g e:Int)(f:List Int)(b:List Bool)(r:List Int),ZdK i j d g e f b=some r->Ys 45 S0 w0 Tryz.f255 [(me 99999 3 1 mi (0:Int) r)] (.one (.osl 99999 r.length)) [1,1,1,0,1,0] ⟨[(0,.one (cL 1 mi (0:Int) i)),(5,.one (.osl 13 f.length)),(6,.one (.osl 16 b.length)),(17,.one (cL 1 mi (0:Int) d)),(18,(Yj g)),(19,(Yj e))],[(me 13 3 1 mi (0:Int) f),(me 16 4 1 cB false b)]⟩:=by
 intro j;induction j with
 |zero=>
  intro d g e f b r h;simp[ZdK]at h
 |succ j p=>
  intro d g e f b r h;unfold ZdK at h;obtain⟨o,h⟩|⟨o,h⟩:=Zag h
  .obtain⟨u,t,h⟩:=Yt h;exact Ye 14 [rz,rz,rA [(3,.c (b.set ((d.getD e.toNat (0:Int)).toNat) true).length (Zam cB false (b.set ((d.getD e.toNat (0:Int)).toNat) true)))],rz] [true] ⟨[],[],[],[(16,((b.set ((d.getD e.toNat (0:Int)).toNat) true).length))],[],[0,5,6,17,18,19],[13,16],[]⟩ (mu o u t (show (b.set ((d.getD e.toNat (0:Int)).toNat) true).length=b.length from List.length_set) (ltOf t) (show ExtU 1 b.length (Zam cB false b) ((d.getD e.toNat (0:Int)).toNat) 0 (cB true) (Zam cB false (b.set ((d.getD e.toNat (0:Int)).toNat) true))from(Zio _ _ _ rfl)) (mP ((b.set ((d.getD e.toNat (0:Int)).toNat) true).length))) (p d g (Zaq e 1) f (b.set ((d.getD e.toNat (0:Int)).toNat) true) r h)
  .exact Ye 10 [rz,rz] [false] (md [5,6,27,28,29] [13,16] [(13,5)]) (ml o) (Zst S0 w0 i d g e f (ZdK i j) p (((i.length:Int)-(0:Int)).toNat+2) i (i.length:Int) (0:Int) f b r h)
def ZeM(b d:List Int):Option (List Int):=need (0<=(0:Int)/\(0:Int)<=(b.length:Int)/\(b.length:Int)<=140737488355328/\(b.length:Int) * 8<=140737488355328)<|need (0<=(b.length:Int)/\(b.length:Int)<=(b.length:Int)/\(b.length:Int)<=140737488355328/\(b.length:Int) * 1<=140737488355328)<|ZdK b (((d.length:Int)-(0:Int)).toNat+2) d (d.length:Int) (0:Int) ([]:List Int) (List.replicate (b.length:Int).toNat false)
theorem ZjL(b d r:List Int)(f:ZeM b d=some r):Yq 255 [] [.one (cL 1 mi (0:Int) b),.one (cL 1 mi (0:Int) d)] [(me 99999 3 1 mi (0:Int) r)] (.one (.osl 99999 r.length)):=by
 refine Yw Tryz.func255 fun S0 w0=>?_;unfold ZeM at f;obtain⟨o1,e,f⟩:=Yt f;exact Ye 10 [rz,rA [(2,.c 0 (Zam mi (0:Int) ([]:List Int)))],rA [(2,.c ((b.length:Int).toNat) (Zam cB false (List.replicate (b.length:Int).toNat false)))],rz] [] ⟨[],[],[],[(13,(([]:List Int).length)),(16,((List.replicate (b.length:Int).toNat false).length))],[],[0,5,6,17,18,19],[13,16],[]⟩ (.c (show (0:Int)=((0:Nat):Int)from rfl) (.c o1.2.1 (mz o1.2.2.1 o1.2.2.2 (show ∀i j,i<0->j<1->ZrP (([.lit (.int .i64 (0))]:List C).getD j .junk) (Zam mi (0:Int) ([]:List Int) i j)from(fun i j h=>absurd h (Nat.not_lt_zero i))) (show (b.length:Int)=(((b.length:Int).toNat:Nat):Int)from(Int.toNat_of_nonneg e.1).symm) (show (((b.length:Int).toNat:Nat):Int)<=(b.length:Int)from((Int.toNat_of_nonneg e.1).symm ▸ e.2.1)) e.2.2.1 e.2.2.2 (show ∀i j,i<(b.length:Int).toNat->j<1->ZrP (([.lit (.bool false)]:List C).getD j .junk) (Zam cB false (List.replicate (b.length:Int).toNat false) i j)from(ZtZ (fun j hj=>.inl rfl) _)) (show ([]:List Int).length=0 from rfl) (show (List.replicate (b.length:Int).toNat false).length=(b.length:Int).toNat from List.length_replicate)))) (Zsu S0 w0 b (((d.length:Int)-(0:Int)).toNat+2) d (d.length:Int) (0:Int) ([]:List Int) (List.replicate (b.length:Int).toNat false) r f)
def Zck(i:List Zaa)(j e f:Int)(g:List Int)(n:ZaA)(aK:Int->Int->(List Int)->ZaA->Option (List Int)):Nat->(ZaW×ZaW×ZaW×ZaW)->Int->(List Int)->Option (List Int)|0,_,_,_=>none|fu+1,b,d,h=>bif(decide (d<(4:Int)))then need (0<=d/\d<((4:Nat):Int))<|ix1 d 0 ( (ZdR i h).bind fun u=>(ZeA u b.1.fby b.1.fn j).bind fun v=>(ZeM h v).bind fun y=>Zck i j e f g n aK fu b (Zaq (0:Int) (1:Int)) y)<|ix1 d 1 ( (ZdR i h).bind fun z=>(ZeA z b.2.1.fby b.2.1.fn j).bind fun A=>(ZeM h A).bind fun B=>Zck i j e f g n aK fu b (Zaq (1:Int) (1:Int)) B)<|ix1 d 2 ( (ZdR i h).bind fun C=>(ZeA C b.2.2.1.fby b.2.2.1.fn j).bind fun D=>(ZeM h D).bind fun o=>Zck i j e f g n aK fu b (Zaq (2:Int) (1:Int)) o)<|(ZdR i h).bind fun p=>(ZeA p b.2.2.2.fby b.2.2.2.fn j).bind fun r=>(ZeM h r).bind fun t=>Zck i j e f g n aK fu b (Zaq (3:Int) (1:Int)) t else some h
theorem Zsv(v:List Zaa)(y z A:Int)(B:List Int)(W:ZaA)(aK:Int->Int->(List Int)->ZaA->Option (List Int))(ek:∀(fw jT:Int)(df:List Int)(dA:ZaA)(r:List Int),aK fw jT df dA=some r->Ys 42 S0 w0 Tryz.f182 [(me 99999 3 1 mi (0:Int) r)] (.one (.osl 99999 r.length)) [1,1,0,1,0] ⟨[(0,(Ym v)),(2,.one (.lit (.int .u64 y))),(4,.one (.ptr 4 0)),(7,.one (.osl 13 df.length)),(15,(Yj fw)),(16,(Yj jT))],[(me 13 3 1 mi (0:Int) df),(4,.box (ZaA.c dA))]⟩):∀(o:Nat)(d:(ZaW×ZaW×ZaW×ZaW))(f:Int)(i r:List Int),Zck v y z A B W aK o d f i=some r->Ys 42 S0 w0 Tryz.f182 [(me 99999 3 1 mi (0:Int) r)] (.one (.osl 99999 r.length)) [1,1,1,0,1,0] ⟨[(0,(Ym v)),(2,.one (.lit (.int .u64 y))),(7,.one (.osl 7 i.length)),(25,.agg [.lit (.int .i64 d.1.fby),.lit (.int .i64 d.1.fn),.lit (.int .i64 d.2.1.fby),.lit (.int .i64 d.2.1.fn),.lit (.int .i64 d.2.2.1.fby),.lit (.int .i64 d.2.2.1.fn),.lit (.int .i64 d.2.2.2.fby),.lit (.int .i64 d.2.2.2.fn)]),(26,(Yj f))],[(me 7 3 1 mi (0:Int) i)]⟩:=by
 intro o;induction o with
 |zero=>
  intro d f i r b;simp[Zck]at b
 |succ o p=>
  intro d f i r b;unfold Zck at b;obtain⟨j,b⟩|⟨j,b⟩:=Zag b
  .obtain⟨o6,b⟩:=Zao b;rcases Zhg b with⟨e,b⟩|⟨R,b⟩
   .subst e;obtain⟨Z,x3,q7,q8,b⟩:=Yu b;obtain⟨t,q9,b⟩:=Zad b;exact Ye 14 [rz,rz,⟨[(3,.r (Ym Z) []),(9,.r (.one (cL 1 mi (0:Int) x3)) [])],[],[(0,[7])],[],[],[],[(10,⟨[],[(99999,39)],[(me 99999 3 1 mi (0:Int) t)],.one (.osl 99999 t.length)⟩)]⟩,rz] [true] (md [0,2,7,25,26] [39] [(39,7)]) (mr j (show 0<=(0:Int)/\(0:Int)<((4:Nat):Int)from(by decide)) (Zkq _ _ _ q7) (ZkZ _ _ _ _ _ q8) (ZjL _ _ _ q9)) (p d (Zaq (0:Int) (1:Int)) t r b)
   rcases Zhg b with⟨e,b⟩|⟨U,b⟩
   .subst e;obtain⟨x5,x6,C,D,b⟩:=Yu b;obtain⟨u,E,b⟩:=Zad b;exact Ye 14 [rz,rz,⟨[(3,.r (Ym x5) []),(9,.r (.one (cL 1 mi (0:Int) x6)) [])],[],[(0,[7])],[],[],[],[(10,⟨[],[(99999,39)],[(me 99999 3 1 mi (0:Int) u)],.one (.osl 99999 u.length)⟩)]⟩,rz] [true] (md [0,2,7,25,26] [39] [(39,7)]) (mr j (show 0<=(1:Int)/\(1:Int)<((4:Nat):Int)from(by decide)) (Zkq _ _ _ C) (ZkZ _ _ _ _ _ D) (ZjL _ _ _ E)) (p d (Zaq (1:Int) (1:Int)) u r b)
   rcases Zhg b with⟨e,b⟩|⟨V,b⟩
   .subst e;obtain⟨x8,x9,F,G,b⟩:=Yu b;obtain⟨g,H,b⟩:=Zad b;exact Ye 14 [rz,rz,⟨[(3,.r (Ym x8) []),(9,.r (.one (cL 1 mi (0:Int) x9)) [])],[],[(0,[7])],[],[],[],[(10,⟨[],[(99999,39)],[(me 99999 3 1 mi (0:Int) g)],.one (.osl 99999 g.length)⟩)]⟩,rz] [true] (md [0,2,7,25,26] [39] [(39,7)]) (mr j (show 0<=(2:Int)/\(2:Int)<((4:Nat):Int)from(by decide)) (Zkq _ _ _ F) (ZkZ _ _ _ _ _ G) (ZjL _ _ _ H)) (p d (Zaq (2:Int) (1:Int)) g r b)
   obtain rfl:f=3:=by omega
   obtain⟨I,J,L,M,b⟩:=Yu b;obtain⟨h,O,b⟩:=Zad b;exact Ye 14 [rz,rz,⟨[(3,.r (Ym I) []),(9,.r (.one (cL 1 mi (0:Int) J)) [])],[],[(0,[7])],[],[],[],[(10,⟨[],[(99999,39)],[(me 99999 3 1 mi (0:Int) h)],.one (.osl 99999 h.length)⟩)]⟩,rz] [true] (md [0,2,7,25,26] [39] [(39,7)]) (mr j (show 0<=(3:Int)/\(3:Int)<((4:Nat):Int)from(by decide)) (Zkq _ _ _ L) (ZkZ _ _ _ _ _ M) (ZjL _ _ _ O)) (p d (Zaq (3:Int) (1:Int)) h r b)
  .apply Yc b 8 [rz,rz] [false] (md [6] [7] [(7,99999)]) (ml j)
def ZdL(f:List Zaa)(g:Int):Nat->Int->Int->(List Int)->ZaA->Option (List Int)|0,_,_,_,_=>none|fu+1,e,b,d,h=>bif(decide (b<e))then need (0<=b/\b<(d.length:Int))<|ZdL f g fu e (Zaq b 1) (d.set b.toNat b) h else(ZlW h).bind fun i=>Zck f g e b d h (ZdL f g fu) (((4:Int)-(0:Int)).toNat+2) i (0:Int) d
theorem Zsw(i:List Zaa)(j:Int):∀(h:Nat)(e b:Int)(d:List Int)(g:ZaA)(r:List Int),ZdL i j h e b d g=some r->Ys 42 S0 w0 Tryz.f182 [(me 99999 3 1 mi (0:Int) r)] (.one (.osl 99999 r.length)) [1,1,0,1,0] ⟨[(0,(Ym i)),(2,.one (.lit (.int .u64 j))),(4,.one (.ptr 4 0)),(7,.one (.osl 13 d.length)),(15,(Yj e)),(16,(Yj b))],[(me 13 3 1 mi (0:Int) d),(4,.box (ZaA.c g))]⟩:=by
 intro h;induction h with
 |zero=>
  intro e b d g r f;simp[ZdL]at f
 |succ h p=>
  intro e b d g r f;unfold ZdL at f;obtain⟨o,f⟩|⟨o,f⟩:=Zag f
  .obtain⟨t,f⟩:=Zao f;exact Ye 14 [rz,rz,rA [(4,.c (d.set b.toNat b).length (Zam mi (0:Int) (d.set b.toNat b)))],rz] [true] ⟨[],[],[],[(13,((d.set b.toNat b).length))],[],[0,2,4,7,15,16],[13,4],[]⟩ (mt o t (show (d.set b.toNat b).length=d.length from List.length_set) (ltOf t) (show ExtU 1 d.length (Zam mi (0:Int) d) b.toNat 0 (mi b) (Zam mi (0:Int) (d.set b.toNat b))from(Zio _ _ _ rfl)) (mP ((d.set b.toNat b).length))) (p e (Zaq b 1) (d.set b.toNat b) g r f)
  .obtain⟨u,v,f⟩:=Zad f;exact Ye 10 [rz,rA [(1,aG ((cP ZaW.c (cP ZaW.c (cP ZaW.c ZaW.c))) u))]] [false] (md [0,2,7,25,26] [13] [(13,7)]) (mn o (Zuh _ _ v)) (Zsv S0 w0 i j e b d g (ZdL i j h) p (((4:Int)-(0:Int)).toNat+2) u (0:Int) d r f)
def ZjM(b:List Zaa)(d:ZaA)(e:Int):Option (List Int):=need (0<=(b.length:Int)/\(b.length:Int)<=(b.length:Int)/\(b.length:Int)<=140737488355328/\(b.length:Int) * 8<=140737488355328)<|ZdL b e (((((b.length:Int).toNat:Nat):Int)-(0:Int)).toNat+2) (((b.length:Int).toNat:Nat):Int) (0:Int) (List.replicate (b.length:Int).toNat (0:Int)) d
theorem Zuj(b:List Zaa)(e:ZaA)(f:Int)(r:List Int)(d:ZjM b e f=some r):Yq 182 [] [Ym b,.agg (ZaA.c e),.one (.lit (.int .u64 f))] [(me 99999 3 1 mi (0:Int) r)] (.one (.osl 99999 r.length)):=by
 refine Yw Tryz.func182 fun S0 w0=>?_;unfold ZjM at d;obtain⟨o1,d⟩:=Zao d;exact Ye 8 [rz,rA [(2,.c ((b.length:Int).toNat) (Zam mi (0:Int) (List.replicate (b.length:Int).toNat (0:Int))))],rz] [] ⟨[],[],[],[(13,((List.replicate (b.length:Int).toNat (0:Int)).length))],[],[0,2,4,7,15,16],[13,4],[]⟩ (mt (show (b.length:Int)=(((b.length:Int).toNat:Nat):Int)from(Int.toNat_of_nonneg o1.1).symm) (show (((b.length:Int).toNat:Nat):Int)<=(b.length:Int)from((Int.toNat_of_nonneg o1.1).symm ▸ o1.2.1)) o1.2.2.1 o1.2.2.2 (show ∀i j,i<(b.length:Int).toNat->j<1->ZrP (([.lit (.int .i64 (0))]:List C).getD j .junk) (Zam mi (0:Int) (List.replicate (b.length:Int).toNat (0:Int)) i j)from(ZtZ (fun j hj=>.inl rfl) _)) (show (List.replicate (b.length:Int).toNat (0:Int)).length=(b.length:Int).toNat from List.length_replicate)) (Zsw S0 w0 b f (((((b.length:Int).toNat:Nat):Int)-(0:Int)).toNat+2) (((b.length:Int).toNat:Nat):Int) (0:Int) (List.replicate (b.length:Int).toNat (0:Int)) e r d)
theorem ZuR(b:List Zaa)(d:ZaA)(e:Int)(r:List Int)(f:ZjM b d e=some r):Yp 182 [Ym b,.agg (ZaA.c d),.one (.lit (.int .u64 e))] (.one (cL 1 mi (0:Int) r)):=(Zuj b d e r f).pure
def ZcY:Nat->(List Zaa)->(List Int)->Int->Int->(List Zaa)->Option (List Zaa)|0,_,_,_,_,_=>none|fu+1,f,e,g,b,h=>bif(decide (b<g))then need (0<=b/\b<(e.length:Int))<|need (0<=(e.getD b.toNat (0:Int))/\(e.getD b.toNat (0:Int))<(f.length:Int))<|need ((h++([(f.getD (e.getD b.toNat (0:Int)).toNat Zaa.d)]:List Zaa)).length * 80<=140737488355328/\(h++([(f.getD (e.getD b.toNat (0:Int)).toNat Zaa.d)]:List Zaa)).length<=maxLen)<|ZcY fu f e g (Zaq b 1) (h++([(f.getD (e.getD b.toNat (0:Int)).toNat Zaa.d)]:List Zaa))else some h
theorem ZoQ:∀(t:Nat)(g:List Zaa)(b:List Int)(o f:Int)(p r:List Zaa),ZcY t g b o f p=some r->Ys 30 S0 w0 Tryz.f97 [(me 99999 44 10 Zaa.c Zaa.d r)] (.one (.osl 99999 r.length)) [1,1,1,0,1,0] ⟨[(0,(Ym g)),(7,.one (.osl 7 p.length)),(15,.one (cL 1 mi (0:Int) b)),(16,(Yj o)),(17,(Yj f))],[(me 7 44 10 Zaa.c Zaa.d p)]⟩:=by
 intro t;induction t with
 |zero=>
  intro g b o f p r h;simp[ZcY]at h
 |succ t y=>
  intro g b o f p r h;unfold ZcY at h;obtain⟨u,h⟩|⟨u,h⟩:=Zag h
  .obtain⟨z,A,h⟩:=Yt h;obtain⟨v,h⟩:=Zao h;exact Ye 14 [rz,rz,⟨[(6,.c ((p++([(g.getD (b.getD f.toNat (0:Int)).toNat Zaa.d)]:List Zaa)).length) (Zam Zaa.c Zaa.d (p++([(g.getD (b.getD f.toNat (0:Int)).toNat Zaa.d)]:List Zaa))))],[],[],[],[],[(5,(([(g.getD (b.getD f.toNat (0:Int)).toNat Zaa.d)]:List Zaa).length,Zam Zaa.c Zaa.d ([(g.getD (b.getD f.toNat (0:Int)).toNat Zaa.d)]:List Zaa)))],[]⟩,rz] [true] (md [0,7,15,16,17] [27] [(27,7)]) (mu u z A (mN (e:=Zaa.c) Zaa.d 10 (fun _=>rfl) ([(g.getD (b.getD f.toNat (0:Int)).toNat Zaa.d)]:List Zaa)) (Zcq (sz:=10) (e:=Zaa.c) (d:=Zaa.d) p ([(g.getD (b.getD f.toNat (0:Int)).toNat Zaa.d)]:List Zaa)) v.1 v.2) (y g b o (Zaq f 1) (p++([(g.getD (b.getD f.toNat (0:Int)).toNat Zaa.d)]:List Zaa)) r h)
  .apply Yc h 8 [rz,rz] [false] (md [6] [7] [(7,99999)]) (ml u)
def Zgf(e:List Zaa)(f:ZaA)(g:Int):Option (List Zaa):=(ZkD e).bind fun d=>(ZjM d f g).bind fun b=>ZcY (((b.length:Int)-(0:Int)).toNat+2) d b (b.length:Int) (0:Int) ([])
theorem Zqh(f:List Zaa)(g:ZaA)(h:Int)(r:List Zaa)(b:Zgf f g h=some r):Yq 97 [] [Ym f,.agg (ZaA.c g),.one (.lit (.int .u64 h))] [(me 99999 44 10 Zaa.c Zaa.d r)] (.one (.osl 99999 r.length)):=by
 refine Yw Tryz.func97 fun S0 w0=>?_;unfold Zgf at b;obtain⟨i,e,j,o,b⟩:=Yu b;exact Ye 10 [rz,rA [(1,.r (Ym i) [])],rz,rA [(3,.r (.one (cL 1 mi (0:Int) e)) [])]] [] ⟨[],[],[],[],[(7,7,44,10,Zam Zaa.c Zaa.d [])],[0,7,15,16,17],[7],[]⟩ (mn (Zwt _ _ j) (ZuR _ _ _ _ o)) (ZoQ S0 w0 (((e.length:Int)-(0:Int)).toNat+2) i e (e.length:Int) (0:Int) ([]) r b)
theorem ZqR(b:List Zaa)(d:ZaA)(e:Int)(r:List Zaa)(f:Zgf b d e=some r):Yp 97 [Ym b,.agg (ZaA.c d),.one (.lit (.int .u64 e))] (Ym r):=(Zqh b d e r f).pure
def Zfj:Nat->(List Zaa)->Int->Int->(List (Zae×Int))->Option (List (Zae×Int))|0,_,_,_,_=>none|fu+1,f,e,b,m8=>bif(decide (b<e))then need (0<=b/\b<(f.length:Int))<|(ZgK (((f.getD b.toNat Zaa.d).fEnd).fAddr)).bind fun g=>Zfj fu f e (Zaq b 1) (mput m8 g (Zaq (mget m8 g (0:Int)) (1:Int)))else some m8
theorem ZsA:∀(h:Nat)(g:List Zaa)(e f:Int)(m8 r:(List (Zae×Int))),Zfj h g e f m8=some r->Ys 26 S0 w0 Tryz.f183 [(99999,.map 32 (encM (fun k=>.agg #[.bool k.fAddr.fV6,.int .u64 k.fAddr.fHi,.int .u64 k.fAddr.fLo,.int .i64 k.fBits]) (fun v=>(Yj v)) r))] (.one (.mp 99999)) [1,1,0,1,0] ⟨[(3,.one (.mp 8)),(9,(Ym g)),(10,(Yj e)),(11,(Yj f))],[(8,.map 32 (encM (fun k=>.agg #[.bool k.fAddr.fV6,.int .u64 k.fAddr.fHi,.int .u64 k.fAddr.fLo,.int .i64 k.fBits]) (fun v=>(Yj v)) m8))]⟩:=by
 intro h;induction h with
 |zero=>
  intro g e f m8 r d;simp[Zfj]at d
 |succ h j=>
  intro g e f m8 r d;unfold Zfj at d;obtain⟨i,d⟩|⟨i,d⟩:=Zag d
  .obtain⟨o,d⟩:=Zao d;obtain⟨b,p,d⟩:=Zad d;exact Ye 14 [rz,rz,rA [(4,aG (Zae.c b)),(5,aI (mget m8 b (0:Int))),(7,.m ((.int .i64 ((midx m8 b:Nat):Int),.one .junk) :: encM (fun k=>.agg #[.bool k.fAddr.fV6,.int .u64 k.fAddr.fHi,.int .u64 k.fAddr.fLo,.int .i64 k.fBits]) (fun v=>(Yj v)) (mpad m8 b (0:Int)))),(9,.m (encM (fun k=>.agg #[.bool k.fAddr.fV6,.int .u64 k.fAddr.fHi,.int .u64 k.fAddr.fLo,.int .i64 k.fBits]) (fun v=>(Yj v)) (mput m8 b (Zaq (mget m8 b (0:Int)) (1:Int)))))],rz] [true] (ma [3,9,10,11] [8]) (mw i o (ZiE _ _ p) (show ZnA Tryz.prog 32 (.agg #[.bool b.fAddr.fV6,.int .u64 b.fAddr.fHi,.int .u64 b.fAddr.fLo,.int .i64 b.fBits]) ((encM (fun k=>.agg #[.bool k.fAddr.fV6,.int .u64 k.fAddr.fHi,.int .u64 k.fAddr.fLo,.int .i64 k.fBits]) (fun v=>(Yj v)) m8).map (·.1))from(ZkR b m8)) (show Zxf (encM (fun k=>.agg #[.bool k.fAddr.fV6,.int .u64 k.fAddr.fHi,.int .u64 k.fAddr.fLo,.int .i64 k.fBits]) (fun v=>(Yj v)) m8) (.agg #[.bool b.fAddr.fV6,.int .u64 b.fAddr.fHi,.int .u64 b.fAddr.fLo,.int .i64 b.fBits]) (.int .i64 (0)) ((Yj (mget m8 b (0:Int))))from(Zzf (kv:=(fun k=>.agg #[.bool k.fAddr.fV6,.int .u64 k.fAddr.fHi,.int .u64 k.fAddr.fLo,.int .i64 k.fBits])) (vv:=(fun v=>(Yj v))) ZiP (fun S w m=>RepC.lit) b m8)) (show ZnA Tryz.prog 32 (.agg #[.bool b.fAddr.fV6,.int .u64 b.fAddr.fHi,.int .u64 b.fAddr.fLo,.int .i64 b.fBits]) ((.agg #[.bool b.fAddr.fV6,.int .u64 b.fAddr.fHi,.int .u64 b.fAddr.fLo,.int .i64 b.fBits]) :: (encM (fun k=>.agg #[.bool k.fAddr.fV6,.int .u64 k.fAddr.fHi,.int .u64 k.fAddr.fLo,.int .i64 k.fBits]) (fun v=>(Yj v)) m8).map (·.1))from(ZkR (vv:=(fun v=>(Yj v))) b ((b,(0:Int)) :: m8))) (show MEnt (encM (fun k=>.agg #[.bool k.fAddr.fV6,.int .u64 k.fAddr.fHi,.int .u64 k.fAddr.fLo,.int .i64 k.fBits]) (fun v=>(Yj v)) m8) (.agg #[.bool b.fAddr.fV6,.int .u64 b.fAddr.fHi,.int .u64 b.fAddr.fLo,.int .i64 b.fBits]) (.int .i64 (0)) ((midx m8 b:Nat):Int) (encM (fun k=>.agg #[.bool k.fAddr.fV6,.int .u64 k.fAddr.fHi,.int .u64 k.fAddr.fLo,.int .i64 k.fBits]) (fun v=>(Yj v)) (mpad m8 b (0:Int)))from(ZKn (kv:=(fun k=>.agg #[.bool k.fAddr.fV6,.int .u64 k.fAddr.fHi,.int .u64 k.fAddr.fLo,.int .i64 k.fBits])) (vv:=(fun v=>(Yj v))) ZiP (fun S w m=>RepC.lit) (ZKO _) b m8)) (show MSt (encM (fun k=>.agg #[.bool k.fAddr.fV6,.int .u64 k.fAddr.fHi,.int .u64 k.fAddr.fLo,.int .i64 k.fBits]) (fun v=>(Yj v)) (mpad m8 b (0:Int))) ((midx m8 b:Nat):Int) ((Yj (Zaq (mget m8 b (0:Int)) (1:Int)))) (encM (fun k=>.agg #[.bool k.fAddr.fV6,.int .u64 k.fAddr.fHi,.int .u64 k.fAddr.fLo,.int .i64 k.fBits]) (fun v=>(Yj v)) (mput m8 b (Zaq (mget m8 b (0:Int)) (1:Int))))from(ZKl (kv:=(fun k=>.agg #[.bool k.fAddr.fV6,.int .u64 k.fAddr.fHi,.int .u64 k.fAddr.fLo,.int .i64 k.fBits])) (vv:=(fun v=>(Yj v))) b (0:Int) (Zaq (mget m8 b (0:Int)) (1:Int)) m8))) (j g e (Zaq f 1) (mput m8 b (Zaq (mget m8 b (0:Int)) (1:Int))) r d)
  .apply Yc d 8 [rz,rz] [false] (md [2] [8] [(8,99999)]) (ml i)
def Zlo(b:List Zaa):Option (List (Zae×Int)):=Zfj (((b.length:Int)-(0:Int)).toNat+2) b (b.length:Int) (0:Int) ([]:(List (Zae×Int)))
theorem Zut(b:List Zaa)(r:(List (Zae×Int)))(d:Zlo b=some r):Yq 183 [] [Ym b] [(99999,.map 32 (encM (fun k=>.agg #[.bool k.fAddr.fV6,.int .u64 k.fAddr.fHi,.int .u64 k.fAddr.fLo,.int .i64 k.fBits]) (fun v=>(Yj v)) r))] (.one (.mp 99999)):=by
 refine Yw Tryz.func183 fun S0 w0=>?_;unfold Zlo at d;exact Ye 8 [rz,rz,rz] [] (ma [3,9,10,11] [8]) .n (ZsA S0 w0 (((b.length:Int)-(0:Int)).toNat+2) b (b.length:Int) (0:Int) ([]:(List (Zae×Int))) r d)
def Zln(b d:Zaa):Option Int:=(Zci b.fSince d.fSince).bind fun e=>(ZfM b.fEnd d.fEnd).bind fun f=>(ZeF ([e,f]:List Int)).bind fun g=>some g
theorem ZuW(h o:Zaa)(r:Int)(g:Zln h o=some r):Yp 187 [.agg (Zaa.c h),.agg (Zaa.c o)] (Yj r):=by
 refine Yv Tryz.func187 fun S0 w0=>?_;unfold Zln at g;obtain⟨b,f,p,t,g⟩:=Yu g;obtain⟨u,v,g⟩:=Zad g;apply Ya g 4 [rz,⟨[(4,aI b),(9,aI f),(11,aI u)],[],[],[],[],[(10,(([b,f]:List Int).length,Zam mi (0:Int) ([b,f]:List Int)))],[]⟩] [] (mq (ZcT _ _ _ p) (Zig _ _ _ t) (mN (e:=mi) (0:Int) 1 (fun _=>rfl) ([b,f]:List Int)) (ZgZ _ _ v))
def Zeq(g:List Zaa):Nat->Int->(List Zaa)->Int->Int->(List (Zae×Int))->Option Int|0,_,_,_,_,_=>none|fu+1,f,h,e,b,m8=>bif(decide (b<e))then need (0<=b/\b<(h.length:Int))<|bif(decide (f<(0:Int)))then Zeq g fu b h e (Zaq b 1) m8 else(ZgK (((h.getD b.toNat Zaa.d).fEnd).fAddr)).bind fun i=>need (0<=f/\f<(g.length:Int))<|(ZgK (((g.getD f.toNat Zaa.d).fEnd).fAddr)).bind fun j=>(Zci (mget m8 i (0:Int)) (mget m8 j (0:Int))).bind fun n=>(Zln (h.getD b.toNat Zaa.d) (g.getD f.toNat Zaa.d)).bind fun o=>(ZeF ([n,o]:List Int)).bind fun p=>bif(decide (p>(0:Int)))then Zeq g fu b h e (Zaq b 1) m8 else Zeq g fu f h e (Zaq b 1) m8 else some f
theorem Ztr(F:List Zaa):∀(A:Nat)(z:Int)(p:List Zaa)(g f:Int)(m8:(List (Zae×Int)))(r:Int),Zeq F A z p g f m8=some r->Yr 48 S0 w0 Tryz.f98 (Yj r) [1,1,0,1,0] ⟨[(0,(Ym F)),(3,.one (.mp 8)),(4,(Yj z)),(9,(Ym p)),(10,(Yj g)),(11,(Yj f))],[(8,.map 32 (encM (fun k=>.agg #[.bool k.fAddr.fV6,.int .u64 k.fAddr.fHi,.int .u64 k.fAddr.fLo,.int .i64 k.fBits]) (fun v=>(Yj v)) m8))]⟩:=by
 intro A;induction A with
 |zero=>
  intro z p g f m8 r b;simp[Zeq]at b
 |succ A C=>
  intro z p g f m8 r b;unfold Zeq at b;obtain⟨B,b⟩|⟨B,b⟩:=Zag b
  .obtain⟨G,b⟩:=Zao b;obtain⟨D,b⟩|⟨D,b⟩:=Zag b
   .exact Ye 17 [rz,rz,rB [(2,true)],rz,rz] [true,true] (ma [0,3,4,9,10,11] [8]) (mq B G D (mP true)) (C f p g (Zaq f 1) m8 r b)
   .obtain⟨h,I,b⟩:=Zad b;obtain⟨H,b⟩:=Zao b;obtain⟨o,t,J,L,b⟩:=Yu b;obtain⟨u,M,b⟩:=Zad b;obtain⟨O,E,b⟩:=Zad b
    let R1:List RA:=[rz,rz,⟨[(7,aG (Zae.c h)),(8,aI (mget m8 h (0:Int))),(16,aG (Zae.c o)),(17,aI (mget m8 o (0:Int))),(18,aI t),(24,aI u),(26,aI O)],[(2,false)],[],[],[],[(25,(([t,u]:List Int).length,Zam mi (0:Int) ([t,u]:List Int)))],[]⟩,rz]
    have O2:Obl _:=(.c B (.c G (.c D (.c (ZiE _ _ I) (.c (show ZnA Tryz.prog 32 (.agg #[.bool h.fAddr.fV6,.int .u64 h.fAddr.fHi,.int .u64 h.fAddr.fLo,.int .i64 h.fBits]) ((encM (fun k=>.agg #[.bool k.fAddr.fV6,.int .u64 k.fAddr.fHi,.int .u64 k.fAddr.fLo,.int .i64 k.fBits]) (fun v=>(Yj v)) m8).map (·.1))from(ZkR h m8)) (mz (show Zxf (encM (fun k=>.agg #[.bool k.fAddr.fV6,.int .u64 k.fAddr.fHi,.int .u64 k.fAddr.fLo,.int .i64 k.fBits]) (fun v=>(Yj v)) m8) (.agg #[.bool h.fAddr.fV6,.int .u64 h.fAddr.fHi,.int .u64 h.fAddr.fLo,.int .i64 h.fBits]) (.int .i64 (0)) ((Yj (mget m8 h (0:Int))))from(Zzf (kv:=(fun k=>.agg #[.bool k.fAddr.fV6,.int .u64 k.fAddr.fHi,.int .u64 k.fAddr.fLo,.int .i64 k.fBits])) (vv:=(fun v=>(Yj v))) ZiP (fun S w m=>RepC.lit) h m8)) H (ZiE _ _ J) (show ZnA Tryz.prog 32 (.agg #[.bool o.fAddr.fV6,.int .u64 o.fAddr.fHi,.int .u64 o.fAddr.fLo,.int .i64 o.fBits]) ((encM (fun k=>.agg #[.bool k.fAddr.fV6,.int .u64 k.fAddr.fHi,.int .u64 k.fAddr.fLo,.int .i64 k.fBits]) (fun v=>(Yj v)) m8).map (·.1))from(ZkR o m8)) (show Zxf (encM (fun k=>.agg #[.bool k.fAddr.fV6,.int .u64 k.fAddr.fHi,.int .u64 k.fAddr.fLo,.int .i64 k.fBits]) (fun v=>(Yj v)) m8) (.agg #[.bool o.fAddr.fV6,.int .u64 o.fAddr.fHi,.int .u64 o.fAddr.fLo,.int .i64 o.fBits]) (.int .i64 (0)) ((Yj (mget m8 o (0:Int))))from(Zzf (kv:=(fun k=>.agg #[.bool k.fAddr.fV6,.int .u64 k.fAddr.fHi,.int .u64 k.fAddr.fLo,.int .i64 k.fBits])) (vv:=(fun v=>(Yj v))) ZiP (fun S w m=>RepC.lit) o m8)) (ZcT _ _ _ L) H (ZuW _ _ _ M) (mN (e:=mi) (0:Int) 1 (fun _=>rfl) ([t,u]:List Int)) (ZgZ _ _ E)))))));obtain⟨y,b⟩|⟨y,b⟩:=Zag b
    .exact Ye 17 (R1++[rz]) [true,true] (ma [0,3,4,9,10,11] [8]) (mC O2 y) (C f p g (Zaq f 1) m8 r b)
    .exact Ye 17 R1 [true,false] (ma [0,3,4,9,10,11] [8]) (mC O2 y) (C z p g (Zaq f 1) m8 r b)
  .apply Ya b 8 [rz,rz] [false] (ml B)
def ZkH(b:List Zaa):Option Int:=(Zlo b).bind fun d=>Zeq b (((b.length:Int)-(0:Int)).toNat+2) (-1:Int) b (b.length:Int) (0:Int) d
theorem Zwu(b:List Zaa)(r:Int)(d:ZkH b=some r):Yp 98 [Ym b] (Yj r):=by
 refine Yv Tryz.func98 fun S0 w0=>?_;unfold ZkH at d;obtain⟨e,f,d⟩:=Zad d;exact Ye 8 [rz,rH [] [(1,⟨[],[(99999,8)],[(99999,.map 32 (encM (fun k=>.agg #[.bool k.fAddr.fV6,.int .u64 k.fAddr.fHi,.int .u64 k.fAddr.fLo,.int .i64 k.fBits]) (fun v=>(Yj v)) e))],.one (.mp 99999)⟩)],rz] [] (ma [0,3,4,9,10,11] [8]) (ml (Zut _ _ f)) (Ztr S0 w0 b (((b.length:Int)-(0:Int)).toNat+2) (-1:Int) b (b.length:Int) (0:Int) e r d)
def ZhK(f:List Zaa)(g:ZaA)(h:Int):Option (Zaj×Bool):=(Zgf f g h).bind fun e=>(ZkH e).bind fun b=>bif(decide (b<(0:Int)))then some ((Zaj.mk (Zah.mk false 0 0) 0),false)else need (0<=b/\b<(e.length:Int))<|some ((e.getD b.toNat Zaa.d).fEnd,true)
theorem Zur(e:List Zaa)(f:ZaA)(g:Int)(r:(Zaj×Bool))(b:ZhK e f g=some r):Yp 38 [Ym e,.agg (ZaA.c f),.one (.lit (.int .u64 g))] (.tup [(true,Zaj.c r.1),(false,cB r.2)]):=by
 refine Yv Tryz.func38 fun S0 w0=>?_;unfold ZhK at b;obtain⟨h,i,b⟩:=Zad b;obtain⟨j,o,b⟩:=Zad b
 let R1:List RA:=[rz,rA [(3,.r (Ym h) [])],rA [(1,aI j)],rz,rz]
 have O2:=(mn (ZqR _ _ _ _ i) (Zwu _ _ o));obtain⟨d,b⟩|⟨d,b⟩:=Zag b
 .apply Ya b 12 R1 [true] (mC O2 d)
 .obtain⟨p,b⟩:=Zao b;apply Ya b 13 R1 [false] (mD O2 d p)
def ZeL(b:List Zaa)(f e:Int):Option (List Zaa):=need (0<=f/\f<=e/\e<=(b.length:Int)/\(b.length:Int)<=(b.length:Int))<|bif(f==e)then some b else need (0<=(0:Int)/\(0:Int)<=f/\f<=(b.length:Int))<|need (0<=e/\e<=(b.length:Int)/\(b.length:Int)<=(b.length:Int))<|need (e.toNat+(b.length-e.toNat)<=b.length/\f.toNat+(b.length-e.toNat)<=b.length)<|need (0<=(((f.toNat+(b.length-e.toNat)):Nat):Int)/\(((f.toNat+(b.length-e.toNat)):Nat):Int)<=(b.length:Int)/\((0:Nat):Int)+(b.length:Int)<=(b.length:Int))<|need ((0+(((f.toNat+(b.length-e.toNat)):Nat):Int).toNat)+((b.length:Int).toNat-(((f.toNat+(b.length-e.toNat)):Nat):Int).toNat)<=(appL b f.toNat e.toNat (b.length-e.toNat)).length)<|need ((f.toNat+(b.length-e.toNat))<=(Zhf (appL b f.toNat e.toNat (b.length-e.toNat)) (0+(((f.toNat+(b.length-e.toNat)):Nat):Int).toNat) ((b.length:Int).toNat-(((f.toNat+(b.length-e.toNat)):Nat):Int).toNat) Zaa.d).length)<|some ((Zhf (appL b f.toNat e.toNat (b.length-e.toNat)) (0+(((f.toNat+(b.length-e.toNat)):Nat):Int).toNat) ((b.length:Int).toNat-(((f.toNat+(b.length-e.toNat)):Nat):Int).toNat) Zaa.d).take (f.toNat+(b.length-e.toNat)))
theorem ZjU(b:List Zaa)(f e:Int)(r:List Zaa)(g:ZeL b f e=some r):Yq 297 [(me 100000 44 10 Zaa.c Zaa.d b)] [.one (.osl 100000 b.length),Yj f,Yj e] [(me 99999 44 10 Zaa.c Zaa.d r)] (.one (.osl 99999 r.length)):=by
 refine Yw Tryz.func297 fun S0 w0=>?_;unfold ZeL at g;obtain⟨o1,g⟩:=Zao g;obtain⟨o,g⟩|⟨o,g⟩:=Zag g
 .apply Yc g 10 [rz,rz,rz,rz] [true] (md [6] [100000] [(100000,99999)]) (mn o1 o)
 .obtain⟨u,v,g⟩:=Yt g;obtain⟨h,y,g⟩:=Yt g;obtain⟨t,z,g⟩:=Yt g;apply Yc g 17 [rz,rz,rz,rz,rA [(6,.r (.one (.sl 10 (appL b f.toNat e.toNat (b.length-e.toNat)).length (Zam Zaa.c Zaa.d (appL b f.toNat e.toNat (b.length-e.toNat))))) [])],rA [(5,.c (Zhf (appL b f.toNat e.toNat (b.length-e.toNat)) (0+(((f.toNat+(b.length-e.toNat)):Nat):Int).toNat) ((b.length:Int).toNat-(((f.toNat+(b.length-e.toNat)):Nat):Int).toNat) Zaa.d).length (Zam Zaa.c Zaa.d (Zhf (appL b f.toNat e.toNat (b.length-e.toNat)) (0+(((f.toNat+(b.length-e.toNat)):Nat):Int).toNat) ((b.length:Int).toNat-(((f.toNat+(b.length-e.toNat)):Nat):Int).toNat) Zaa.d)))],rA [(1,.c ((Zhf (appL b f.toNat e.toNat (b.length-e.toNat)) (0+(((f.toNat+(b.length-e.toNat)):Nat):Int).toNat) ((b.length:Int).toNat-(((f.toNat+(b.length-e.toNat)):Nat):Int).toNat) Zaa.d).take (f.toNat+(b.length-e.toNat))).length (Zam Zaa.c Zaa.d ((Zhf (appL b f.toNat e.toNat (b.length-e.toNat)) (0+(((f.toNat+(b.length-e.toNat)):Nat):Int).toNat) ((b.length:Int).toNat-(((f.toNat+(b.length-e.toNat)):Nat):Int).toNat) Zaa.d).take (f.toNat+(b.length-e.toNat)))))]] [false] (md [6] [6] [(6,99999)]) (.c o1 (.c o (.c u (.c v (.c (show (appL b f.toNat e.toNat (b.length-e.toNat)).length=b.length from(ZLv _ _ _ _ h)) (.c (mP 0) (mz h.2 (show ∀p q,p<b.length->q<10->(p<f.toNat\/f.toNat+(b.length-e.toNat)<=p)->Zam Zaa.c Zaa.d (appL b f.toNat e.toNat (b.length-e.toNat)) p q=Zam Zaa.c Zaa.d b p q from(ZLt _ _ _ _ h)) (show ∀p q,p<(b.length-e.toNat)->q<10->Zam Zaa.c Zaa.d (appL b f.toNat e.toNat (b.length-e.toNat)) (f.toNat+p) q=Zam Zaa.c Zaa.d b (e.toNat+p) q from(ZLu _ _ _ _ h)) y (show (Zhf (appL b f.toNat e.toNat (b.length-e.toNat)) (0+(((f.toNat+(b.length-e.toNat)):Nat):Int).toNat) ((b.length:Int).toNat-(((f.toNat+(b.length-e.toNat)):Nat):Int).toNat) Zaa.d).length=(appL b f.toNat e.toNat (b.length-e.toNat)).length from(ZwU _ _ _ _ t)) (show ∀i j,i<(appL b f.toNat e.toNat (b.length-e.toNat)).length->j<10->(i<(0+(((f.toNat+(b.length-e.toNat)):Nat):Int).toNat)\/(0+(((f.toNat+(b.length-e.toNat)):Nat):Int).toNat)+((b.length:Int).toNat-(((f.toNat+(b.length-e.toNat)):Nat):Int).toNat)<=i)->Zam Zaa.c Zaa.d (Zhf (appL b f.toNat e.toNat (b.length-e.toNat)) (0+(((f.toNat+(b.length-e.toNat)):Nat):Int).toNat) ((b.length:Int).toNat-(((f.toNat+(b.length-e.toNat)):Nat):Int).toNat) Zaa.d) i j=Zam Zaa.c Zaa.d (appL b f.toNat e.toNat (b.length-e.toNat)) i j from(ZBs _ _ _ t)) (show ∀i j,i<((b.length:Int).toNat-(((f.toNat+(b.length-e.toNat)):Nat):Int).toNat)->j<10->ZrP (([.lit (.bool false),.lit (.int .u64 (0)),.lit (.int .u64 (0)),.lit (.int .i64 (0)),.lit (.bool false),.lit (.int .i64 (0)),.lit (.int .i64 (0)),.lit (.int .i64 (0)),.lit (.int .i64 (0)),.lit (.int .i64 (0))]:List C).getD j .junk) (Zam Zaa.c Zaa.d (Zhf (appL b f.toNat e.toNat (b.length-e.toNat)) (0+(((f.toNat+(b.length-e.toNat)):Nat):Int).toNat) ((b.length:Int).toNat-(((f.toNat+(b.length-e.toNat)):Nat):Int).toNat) Zaa.d) ((0+(((f.toNat+(b.length-e.toNat)):Nat):Int).toNat)+i) j)from(ZBt _ _ _ t (fun j hj=>.inl rfl))) (mP 0) (show ((Zhf (appL b f.toNat e.toNat (b.length-e.toNat)) (0+(((f.toNat+(b.length-e.toNat)):Nat):Int).toNat) ((b.length:Int).toNat-(((f.toNat+(b.length-e.toNat)):Nat):Int).toNat) Zaa.d).take (f.toNat+(b.length-e.toNat))).length=(f.toNat+(b.length-e.toNat))from(ZyF _ _ z)) (show ∀i j,i<(f.toNat+(b.length-e.toNat))->j<10->Zam Zaa.c Zaa.d ((Zhf (appL b f.toNat e.toNat (b.length-e.toNat)) (0+(((f.toNat+(b.length-e.toNat)):Nat):Int).toNat) ((b.length:Int).toNat-(((f.toNat+(b.length-e.toNat)):Nat):Int).toNat) Zaa.d).take (f.toNat+(b.length-e.toNat))) i j=Zam Zaa.c Zaa.d (Zhf (appL b f.toNat e.toNat (b.length-e.toNat)) (0+(((f.toNat+(b.length-e.toNat)):Nat):Int).toNat) ((b.length:Int).toNat-(((f.toNat+(b.length-e.toNat)):Nat):Int).toNat) Zaa.d) i j from(Zvg _ _)))))))))
def ZqK(d:List Zaa)(e:Zaj):Option ((List Zaa)×Int):=(Zmj d e).bind fun b=>bif(decide (b<(0:Int)))then some (([]:(List Zaa)),(6:Int))else(ZbV d).bind fun f=>(ZeL f b (Zaq b 1)).bind fun g=>some (g,(0:Int))
theorem Zwo(h:List Zaa)(i:Zaj)(r:((List Zaa)×Int))(b:ZqK h i=some r):Yp 224 [Ym h,.agg (Zaj.c i)] (.tup [(false,(cLs 10 Zaa.c Zaa.d) r.1),(false,mi r.2)]):=by
 refine Yv Tryz.func224 fun S0 w0=>?_;unfold ZqK at b;obtain⟨j,o,b⟩:=Zad b;obtain⟨e,b⟩|⟨e,b⟩:=Zag b
 .apply Yb b 10 [rz,rA [(2,aI j)],rz,rz] [true] [] [] [(4,[(0,cL 10 Zaa.c Zaa.d [])])] (mn (ZkV _ _ _ o) e)
 .obtain⟨f,g,p,t,b⟩:=Yu b;apply Yb b 11 [rz,rA [(2,aI j)],rz,rH [] [(1,⟨[],[(99999,13)],[(me 99999 44 10 Zaa.c Zaa.d f)],.one (.osl 99999 f.length)⟩),(5,⟨[(100000,13)],[(99999,17)],[(me 99999 44 10 Zaa.c Zaa.d g)],.one (.osl 99999 g.length)⟩)]] [false] [17] [] [] (mq (ZkV _ _ _ o) e (Zcg _ _ p) (ZjU _ _ _ _ t))
def Zku(e:ZaK):Option (Zap×ZaK):=(Zjg e).bind fun b=>bif(decide (b.1>(0:Int)))then some ((Zap.mk 8 (Zaj.mk (Zah.mk false 0 0) 0) 0 b.1 ([]:(List Zaa))),b.2)else(Zmj b.2.fs.fPeers b.2.fx.fEnd).bind fun f=>bif(decide (f>=(0:Int)))then(Zic (7:Int)).bind fun g=>some (g,b.2)else(Zhr b.2.fs.fPeers true).bind fun h=>bif(decide (h<b.2.fc.fMaxIn))then(ZiD b.2 true).bind fun i=>some ((Zap.mk 0 (Zaj.mk (Zah.mk false 0 0) 0) 0 0 ([]:(List Zaa))),i)else(ZhK b.2.fs.fPeers b.2.fc.fQuota b.2.fc.fSecret).bind fun d=>bif(!d.2)then(Zic (5:Int)).bind fun j=>some (j,b.2)else(ZqK b.2.fs.fPeers d.1).bind fun n=>(ZiD (ZaK.mk b.2.fc (Zan.mk b.2.fs.fBans b.2.fs.fBook n.1) b.2.fx) true).bind fun o=>some ((Zap.mk 0 d.1 1 0 ([]:(List Zaa))),o)
theorem ZpE(t:ZaK)(r:(Zap×ZaK))(b:Zku t=some r):Yq 159 [(100000,.box (ZaK.c t))] [.one (.ptr 100000 0)] [(100000,.box (ZaK.c r.2))] (.agg (Zap.c r.1)):=by
 refine Yw Tryz.func159 fun S0 w0=>?_;unfold Zku at b;obtain⟨u,v,b⟩:=Zad b
 let R1:List RA:=[rz,rH [] [(1,⟨[(100000,100000)],[],[(100000,.box (ZaK.c u.2))],(Yj u.1)⟩)],rz]
 obtain⟨g,b⟩|⟨g,b⟩:=Zag b
 .obtain rfl:=oi b;exact Yd 10 (R1++[rz]) [true] (mc [(2,[(7,cL 10 Zaa.c Zaa.d [])])] [2] [2,100000]) (mn (Zjc _ _ v) g)
 .obtain⟨h,C,b⟩:=Zad b;have O2:=(mo (Zjc _ _ v) g (ZkV _ _ _ C));obtain⟨f,b⟩|⟨f,b⟩:=Zag b
  .obtain⟨D,E,b⟩:=Zad b;obtain rfl:=oi b;exact Yd 15 (R1++[rA [(10,aI h)],rA [(0,aG (Zap.c D))]]) [false,true] (ma [2] [2,100000]) (mD O2 f (Zje _ _ E))
  .obtain⟨y,z,b⟩:=Zad b;obtain⟨i,b⟩|⟨i,b⟩:=Zag b
   .obtain⟨F,G,b⟩:=Zad b;obtain rfl:=oi b;exact Yd 22 (R1++[rA [(10,aI h)],rA [(5,aI y)],rH [] [(1,⟨[(100000,100000)],[],[(100000,.box (ZaK.c F))],.tup []⟩)],rz]) [false,false,true] (mc [(2,[(7,cL 10 Zaa.c Zaa.d [])])] [2] [2,100000]) (mF O2 f (ZiR _ _ _ z) i (Zlc _ _ _ G))
   .obtain⟨A,H,b⟩:=Zad b
    let R3:List RA:=(R1++[rA [(10,aI h)],rA [(5,aI y)],rA [(15,.r (.tup [(true,Zaj.c A.1),(false,cB A.2)]) [])],rz])
    have O4:=(mF O2 f (ZiR _ _ _ z) i (Zur _ _ _ _ H));obtain⟨e,b⟩|⟨e,b⟩:=Zag b
    .obtain⟨I,j,b⟩:=Zad b;obtain rfl:=oi b;exact Yd 27 (R3++[rA [(0,aG (Zap.c I))]]) [false,false,false,true] (ma [2] [2,100000]) (mD O4 e (Zje _ _ j))
    .obtain⟨B,J,o,p,b⟩:=Yu b;obtain rfl:=oi b;exact Yd 32 (R3++[rA [(7,.r (.tup [(false,(cLs 10 Zaa.c Zaa.d) B.1),(false,mi B.2)]) [])],rH [] [(1,⟨[(100000,100000)],[],[(100000,.box (ZaK.c J))],.tup []⟩)],rz]) [false,false,false,false] (mc [(2,[(7,cL 10 Zaa.c Zaa.d [])])] [2] [2,100000]) (mE O4 e (Zwo _ _ _ o) (Zlc _ _ _ p))
def ZeW(f:Int):Nat->Int->(List Zab)->Int->Int->Option Int|0,_,_,_,_=>none|fu+1,g,e,h,b=>bif(decide (b<h))then need (0<=b/\b<(e.length:Int))<|bif((e.getD b.toNat Zab.d).fState==f)then ZeW f fu (Zaq g 1) e h (Zaq b 1)else ZeW f fu g e h (Zaq b 1)else some g
theorem Ztx(o:Int):∀(h:Nat)(e:Int)(f:List Zab)(g d r:Int),ZeW o h e f g d=some r->Yr 22 S0 w0 Tryz.f178 (Yj r) [1,1,0,1,0] ⟨[(1,(Yj o)),(5,(Yj e)),(8,(Yn f)),(9,(Yj g)),(10,(Yj d))],[]⟩:=by
 intro h;induction h with
 |zero=>
  intro e f g d r b;simp[ZeW]at b
 |succ h p=>
  intro e f g d r b;unfold ZeW at b;obtain⟨i,b⟩|⟨i,b⟩:=Zag b
  .obtain⟨t,b⟩:=Zao b;obtain⟨j,b⟩|⟨j,b⟩:=Zag b
   .exact Ye 17 [rz,rz,rz,rz,rz] [true,true] (Yi [1,5,8,9,10]) (mo i t j) (p (Zaq e 1) f g (Zaq d 1) r b)
   .exact Ye 17 [rz,rz,rz,rz] [true,false] (Yi [1,5,8,9,10]) (mo i t j) (p e f g (Zaq d 1) r b)
  .apply Ya b 8 [rz,rz] [false] (ml i)
def ZkJ(b:List Zab)(d:Int):Option Int:=ZeW d (((b.length:Int)-(0:Int)).toNat+2) (0:Int) b (b.length:Int) (0:Int)
theorem Zrf(b:List Zab)(d r:Int)(e:ZkJ b d=some r):Yp 178 [Yn b,Yj d] (Yj r):=by
 refine Yv Tryz.func178 fun S0 w0=>?_;unfold ZkJ at e;exact Ye 8 [rz,rz,rz] [] (Yi [1,5,8,9,10]) .n (Ztx S0 w0 d (((b.length:Int)-(0:Int)).toNat+2) (0:Int) b (b.length:Int) (0:Int) r e)
def Zid(b:Zan):Option Int:=(Zhr b.fPeers false).bind fun d=>(ZkJ b.fBook (2:Int)).bind fun e=>some (Zaq d e)
theorem Zjf(d:Zan)(r:Int)(b:Zid d=some r):Yp 92 [.agg (Zan.c d)] (Yj r):=by
 refine Yv Tryz.func92 fun S0 w0=>?_;unfold Zid at b;obtain⟨e,f,g,h,b⟩:=Yu b;apply Ya b 4 [rz,rA [(2,aI e),(5,aI f)]] [] (mn (ZiR _ _ _ g) (Zrf _ _ _ h))
def ZlM(b:Zab)(d:Int):Option Bool:=bif(b.fState==(1:Int))then some (decide (b.fNext<=d))else some false
theorem Zse(e:Zab)(f:Int)(r:Bool)(b:ZlM e f=some r):Yp 103 [.agg (Zab.c e),Yj f] (Yk r):=by
 refine Yv Tryz.func103 fun S0 w0=>?_;unfold ZlM at b;obtain⟨d,b⟩|⟨d,b⟩:=Zag b
 .apply Ya b 4 [rz,rB [(3,true)]] [] (ml d)
 .apply Ya b 4 [rz,rB [(3,false)]] [] (ml d)
def Zht(b:Zab):Option Bool:=bif(decide (b.fState>=(1:Int)))then(Zis b.fEnd).bind fun d=>bif d then bif(decide (b.fState<=(3:Int)))then bif(decide (b.fFails>=(0:Int)))then bif(decide (b.fFails<=(1000:Int)))then(Zez b.fNext).bind fun e=>some (b.fNext==e)else some false else some false else some false else some false else(Zis b.fEnd).bind fun f=>bif f then some false else some false
theorem ZiU(o:Zab)(r:Bool)(b:Zht o=some r):Yp 102 [.agg (Zab.c o)] (Yk r):=by
 refine Yv Tryz.func102 fun S0 w0=>?_;unfold Zht at b;obtain⟨d,b⟩|⟨d,b⟩:=Zag b
 .obtain⟨e,p,b⟩:=Zad b;obtain⟨h,b⟩|⟨h,b⟩:=Zag b
  .have O1:=(mo d (ZgP _ _ p) h);obtain⟨f,b⟩|⟨f,b⟩:=Zag b
   .obtain⟨g,b⟩|⟨g,b⟩:=Zag b
    .obtain⟨i,b⟩|⟨i,b⟩:=Zag b
     .obtain⟨v,y,b⟩:=Zad b;apply Ya b 6 [rz,rB [(3,true)],⟨[(2,aB e),(21,aI v)],[(3,true),(6,true),(11,true),(16,true)],[],[],[],[],[]⟩] [] (mF O1 f g i (ZuH _ _ y))
     .apply Ya b 6 [rz,rB [(3,true)],⟨[(2,aB e)],[(3,true),(6,true),(11,true),(16,false)],[],[],[],[],[]⟩] [] (mE O1 f g i)
    .apply Ya b 6 [rz,rB [(3,true)],⟨[(2,aB e)],[(3,true),(6,true),(11,false)],[],[],[],[],[]⟩] [] (mD O1 f g)
   .apply Ya b 6 [rz,rB [(3,true)],⟨[(2,aB e)],[(3,true),(6,false)],[],[],[],[],[]⟩] [] (mC O1 f)
  .apply Ya b 6 [rz,rB [(3,true)],⟨[(2,aB e)],[(3,false)],[],[],[],[],[]⟩] [] (mo d (ZgP _ _ p) h)
 .obtain⟨t,u,b⟩:=Zad b;obtain⟨j,b⟩|⟨j,b⟩:=Zag b
  .apply Ya b 6 [rz,rB [(3,false)],⟨[(2,aB t)],[(3,true)],[],[],[],[],[]⟩] [] (mo d (ZgP _ _ u) j)
  .apply Ya b 6 [rz,rB [(3,false)],⟨[(2,aB t)],[(3,false)],[],[],[],[],[]⟩] [] (mo d (ZgP _ _ u) j)
def Zcf(b:List Zaf):Option (List Zaf):=need (0<b.length)<|need ((([]:List Zaf)++b).length * 40<=140737488355328/\(([]:List Zaf)++b).length<=maxLen)<|some (([]:List Zaf)++b)
theorem Zgb(b r:List Zaf)(f:Zcf b=some r):Yq 343 [] [Yo b] [(me 99999 343 5 Zaf.c Zaf.d r)] (.one (.osl 99999 r.length)):=by
 refine Yw Tryz.func343 fun S0 w0=>?_;unfold Zcf at f;obtain⟨o1,g,f⟩:=Yt f;apply Yc f 9 [rz,rz,rA [(0,.c ([]:List Zaf).length (Zam Zaf.c Zaf.d ([]:List Zaf))),(2,.c ((([]:List Zaf)++b).length) (Zam Zaf.c Zaf.d (([]:List Zaf)++b)))]] [false] (md [2] [7] [(7,99999)]) (mu o1 (mP false) (show ([]:List Zaf).length=0 from rfl) (mQ (e:=Zaf.c) Zaf.d 5 (fun _=>rfl) ([]:List Zaf)) (Zcq (sz:=5) (e:=Zaf.c) (d:=Zaf.d) ([]:List Zaf) b) g.1 g.2)
theorem Zgm(x:Addr)(cap:Nat)(c:Nat->Nat->C):Yq 343 [] [.one (.lit (.slice (some x) 0 cap))] [(99999,.rows 343 5 0 c)] (.one (.osl 99999 0)):=by
 refine Yw Tryz.func343 fun S0 w0=>?_;exact Zkt Zal 9 _ _ [⟨[],[],[],[],[],[],[]⟩,⟨[(1,.r (Yk false) [])],[],[],[],[],[],[]⟩,⟨[(0,.c 0 c),(2,.c 0 c)],[],[],[],[],[],[]⟩] [false] (md [2] [7] [(7,99999)])
  [∀w,(do eqGuard .eql 340 (.tmp 3) (.const (.slice none 0 0)) (.slice (some x) 0 cap) (.slice none 0 0);binOp .eql 340 (.slice (some x) 0 cap) (.slice none 0 0):Sem Value).run Tryz.prog w=.ok (.bool false) w,false=false,0=0,∀i j,i<0->j<5->c i j=([]:List C).getD (i * 5+j) .junk,Ext 5 0 0 c (fun _ _=>.junk) 0 c,0 * 40<=140737488355328,0<=maxLen] (by kernel_rfl) ⟨fun w=>by
   have hg:(eqGuard .eql 340 (.tmp 3) (.const (.slice none 0 0)) (.slice (some x) 0 cap) (.slice none 0 0)).run Tryz.prog w=.ok () w:=by simp[eqGuard]
   rw[Sem.run_bind,hg,Result.andThen_ok];exact Go.run_eql_slice_nil w _ _ (some x) 0 cap Tryz.underlying340,rfl,rfl,fun i j h=>absurd h (Nat.not_lt_zero i),⟨rfl,fun _ _ h=>absurd h (Nat.not_lt_zero _),fun _ _ h=>absurd h (Nat.not_lt_zero _)⟩,by decide,by decide,trivial⟩
theorem Zgl(cap:Nat)(c:Nat->Nat->C):Yq 343 [] [.one (.lit (.slice none 0 cap))] [(99999,.rows 343 5 0 c)] (.one (.osl 99999 0)):=by
 refine Yw Tryz.func343 fun S0 w0=>?_;exact Zkt Zal 8 _ _ [⟨[],[],[],[],[],[],[]⟩,⟨[(1,.r (Yk true) [])],[],[],[],[],[],[]⟩,⟨[],[],[],[],[],[],[]⟩] [true] ⟨[],[],[],[],[(2,99999,343,5,c)],[2],[99999],[]⟩
  [∀w,(do eqGuard .eql 340 (.tmp 3) (.const (.slice none 0 0)) (.slice none 0 cap) (.slice none 0 0);binOp .eql 340 (.slice none 0 cap) (.slice none 0 0):Sem Value).run Tryz.prog w=.ok (.bool true) w,true=true] (by kernel_rfl) ⟨fun w=>by
   have hg:(eqGuard .eql 340 (.tmp 3) (.const (.slice none 0 0)) (.slice none 0 cap) (.slice none 0 0)).run Tryz.prog w=.ok () w:=by simp[eqGuard]
   rw[Sem.run_bind,hg,Result.andThen_ok];exact Go.run_eql_slice_nil w _ _ none 0 cap Tryz.underlying340,rfl,trivial⟩
def Zbo(b:List Zaf):Option (List Zaf):=need (b.length * 40<=140737488355328/\b.length<=maxLen)<|some b
theorem Zdp(b r:List Zaf)(e:Zbo b=some r):Yq 343 [] [Yo b] [(99999,.rows 343 5 r.length (Zam Zaf.c Zaf.d r))] (.one (.osl 99999 r.length)):=by
 obtain⟨o1,e⟩:=Zao e;cases e;refine ZsL ⟨_,Tryz.func343,rfl,rfl⟩ (fun h cap=>?_) (fun h x cap=>?_) (fun h=>?_)
 .rw[h];exact Zgl cap _
 .rw[h];exact Zgm x cap _
 .refine Zgb b b ?_;unfold Zcf;rw[ZrB h,ZrB (by simpa using o1)];simp
def Zmk(b d:Zaf):Option Int:=(Zci b.fKey d.fKey).bind fun e=>(ZfM b.fEnd d.fEnd).bind fun f=>(ZeF ([e,f]:List Int)).bind fun g=>some g
theorem Zwq(h o:Zaf)(r:Int)(g:Zmk h o=some r):Yp 393 [.agg (Zaf.c h),.agg (Zaf.c o)] (Yj r):=by
 refine Yv Tryz.func393 fun S0 w0=>?_;unfold Zmk at g;obtain⟨b,f,p,t,g⟩:=Yu g;obtain⟨u,v,g⟩:=Zad g;apply Ya g 4 [rz,⟨[(4,aI b),(9,aI f),(11,aI u)],[],[],[],[],[(10,(([b,f]:List Int).length,Zam mi (0:Int) ([b,f]:List Int)))],[]⟩] [] (mq (ZcT _ _ _ p) (Zig _ _ _ t) (mN (e:=mi) (0:Int) 1 (fun _=>rfl) ([b,f]:List Int)) (ZgZ _ _ v))
def Zml(b d:Zaf):Option Bool:=(Zmk b d).bind fun e=>some (decide (e<(0:Int)))
theorem Zwr(d e:Zaf)(r:Bool)(b:Zml d e=some r):Yp 367 [.agg (Zaf.c d),.agg (Zaf.c e)] (Yk r):=by
 refine Yv Tryz.func367 fun S0 w0=>?_;unfold Zml at b;obtain⟨f,g,b⟩:=Zad b;apply Ya b 4 [rz,rA [(2,aI f)]] [] (ml (Zwq _ _ _ g))
def Zdm(f:Int)(aO:Int->(List Zaf)->Option (List Zaf)):Nat->Int->Int->(List Zaf)->Option (List Zaf)|0,_,_,_=>none|fu+1,e,g,b=>bif(decide (g<=(Zaq (ZiO (2:Int) f) (2:Int))))then bif(decide (g<(b.length:Int)))then need (0<=g/\g<(b.length:Int))<|need (0<=e/\e<(b.length:Int))<|(Zml (b.getD g.toNat Zaf.d) (b.getD e.toNat Zaf.d)).bind fun h=>bif h then Zdm f aO fu g (Zaq g 1) b else Zdm f aO fu e (Zaq g 1) b else bif(e==f)then some b else need (0<=e/\e<(b.length:Int))<|need (0<=f/\f<(b.length:Int))<|aO e ((b.set f.toNat (b.getD e.toNat Zaf.d)).set e.toNat (b.getD f.toNat Zaf.d))else bif(e==f)then some b else need (0<=e/\e<(b.length:Int))<|need (0<=f/\f<(b.length:Int))<|aO e ((b.set f.toNat (b.getD e.toNat Zaf.d)).set e.toNat (b.getD f.toNat Zaf.d))
theorem Zuo(f:Int)(aO:Int->(List Zaf)->Option (List Zaf))(bE:∀(v1_:Int)(ah r:List Zaf),aO v1_ ah=some r->Ys 51 S0 w0 Tryz.f344 [(me 100000 343 5 Zaf.c Zaf.d r)] (.tup []) [0] ⟨[(0,.one (.osl 100000 ah.length)),(1,(Yj v1_))],[(me 100000 343 5 Zaf.c Zaf.d ah)]⟩):∀(t:Nat)(e j:Int)(b r:List Zaf),Zdm f aO t e j b=some r->Ys 51 S0 w0 Tryz.f344 [(me 100000 343 5 Zaf.c Zaf.d r)] (.tup []) [0,0,0,1,0,1,0] ⟨[(0,.one (.osl 100000 b.length)),(1,(Yj f)),(4,(Yj e)),(5,(Yj j))],[(me 100000 343 5 Zaf.c Zaf.d b)]⟩:=by
 intro t;induction t with
 |zero=>
  intro e j b r g;simp[Zdm]at g
 |succ t B=>
  intro e j b r g;unfold Zdm at g;obtain⟨p,g⟩|⟨p,g⟩:=Zag g
  .obtain⟨u,g⟩|⟨u,g⟩:=Zag g
   .obtain⟨C,D,g⟩:=Yt g;obtain⟨E,F,g⟩:=Zad g;have O1:=(mu p u C (ltOf C) D (ltOf D) (Zwr _ _ _ F));obtain⟨z,g⟩|⟨z,g⟩:=Zag g
    .exact Ye 15 [rB [(5,true)],rA [(8,aB E)],rz,rz] [true,true] (ma [0,1,4,5] [100000]) (mC O1 z) (B j (Zaq j 1) b r g)
    .exact Ye 15 [rB [(5,true)],rA [(8,aB E)],rz] [true,false] (ma [0,1,4,5] [100000]) (mC O1 z) (B e (Zaq j 1) b r g)
   .obtain⟨A,g⟩|⟨A,g⟩:=Zag g
    .obtain rfl:=oi g;exact Yd 10 [rB [(5,true)],rz] [false,true] (ma [] [100000]) (mo p u A)
    .obtain⟨v,y,g⟩:=Yt g;exact Ye 16 [rB [(5,true)],rz,rA [(13,.c (b.set f.toNat (b.getD e.toNat Zaf.d)).length (Zam Zaf.c Zaf.d (b.set f.toNat (b.getD e.toNat Zaf.d)))),(15,.c ((b.set f.toNat (b.getD e.toNat Zaf.d)).set e.toNat (b.getD f.toNat Zaf.d)).length (Zam Zaf.c Zaf.d ((b.set f.toNat (b.getD e.toNat Zaf.d)).set e.toNat (b.getD f.toNat Zaf.d))))],rz] [false,false] ⟨[],[],[],[(100000,(((b.set f.toNat (b.getD e.toNat Zaf.d)).set e.toNat (b.getD f.toNat Zaf.d)).length))],[],[0,1],[100000],[]⟩ (.c p (.c u (.c A (.c v (.c (ltOf v) (.c y (mz (ltOf y) y (show (b.set f.toNat (b.getD e.toNat Zaf.d)).length=b.length from List.length_set) (ltOf y) (show ExtU 5 b.length (Zam Zaf.c Zaf.d b) f.toNat 0 (Zaf.c (b.getD e.toNat Zaf.d)) (Zam Zaf.c Zaf.d (b.set f.toNat (b.getD e.toNat Zaf.d)))from(Zio _ _ _ rfl)) v (show ((b.set f.toNat (b.getD e.toNat Zaf.d)).set e.toNat (b.getD f.toNat Zaf.d)).length=(b.set f.toNat (b.getD e.toNat Zaf.d)).length from List.length_set) (show e.toNat<(b.set f.toNat (b.getD e.toNat Zaf.d)).length from(by have:=ltOf v;simp at this ⊢;omega)) (show ExtU 5 ((b.set f.toNat (b.getD e.toNat Zaf.d)).length) (Zam Zaf.c Zaf.d (b.set f.toNat (b.getD e.toNat Zaf.d))) e.toNat 0 (Zaf.c (b.getD f.toNat Zaf.d)) (Zam Zaf.c Zaf.d ((b.set f.toNat (b.getD e.toNat Zaf.d)).set e.toNat (b.getD f.toNat Zaf.d)))from(Zio _ _ _ rfl)) (mP (((b.set f.toNat (b.getD e.toNat Zaf.d)).set e.toNat (b.getD f.toNat Zaf.d)).length))))))))) (bE e ((b.set f.toNat (b.getD e.toNat Zaf.d)).set e.toNat (b.getD f.toNat Zaf.d)) r g)
  .obtain⟨o,g⟩|⟨o,g⟩:=Zag g
   .obtain rfl:=oi g;exact Yd 10 [rB [(5,false)],rz] [false,true] (ma [] [100000]) (mo p (mP false) o)
   .obtain⟨h,i,g⟩:=Yt g;exact Ye 16 [rB [(5,false)],rz,rA [(13,.c (b.set f.toNat (b.getD e.toNat Zaf.d)).length (Zam Zaf.c Zaf.d (b.set f.toNat (b.getD e.toNat Zaf.d)))),(15,.c ((b.set f.toNat (b.getD e.toNat Zaf.d)).set e.toNat (b.getD f.toNat Zaf.d)).length (Zam Zaf.c Zaf.d ((b.set f.toNat (b.getD e.toNat Zaf.d)).set e.toNat (b.getD f.toNat Zaf.d))))],rz] [false,false] ⟨[],[],[],[(100000,(((b.set f.toNat (b.getD e.toNat Zaf.d)).set e.toNat (b.getD f.toNat Zaf.d)).length))],[],[0,1],[100000],[]⟩ (.c p (.c (mP false) (.c o (.c h (.c (ltOf h) (.c i (mz (ltOf i) i (show (b.set f.toNat (b.getD e.toNat Zaf.d)).length=b.length from List.length_set) (ltOf i) (show ExtU 5 b.length (Zam Zaf.c Zaf.d b) f.toNat 0 (Zaf.c (b.getD e.toNat Zaf.d)) (Zam Zaf.c Zaf.d (b.set f.toNat (b.getD e.toNat Zaf.d)))from(Zio _ _ _ rfl)) h (show ((b.set f.toNat (b.getD e.toNat Zaf.d)).set e.toNat (b.getD f.toNat Zaf.d)).length=(b.set f.toNat (b.getD e.toNat Zaf.d)).length from List.length_set) (show e.toNat<(b.set f.toNat (b.getD e.toNat Zaf.d)).length from(by have:=ltOf h;simp at this ⊢;omega)) (show ExtU 5 ((b.set f.toNat (b.getD e.toNat Zaf.d)).length) (Zam Zaf.c Zaf.d (b.set f.toNat (b.getD e.toNat Zaf.d))) e.toNat 0 (Zaf.c (b.getD f.toNat Zaf.d)) (Zam Zaf.c Zaf.d ((b.set f.toNat (b.getD e.toNat Zaf.d)).set e.toNat (b.getD f.toNat Zaf.d)))from(Zio _ _ _ rfl)) (mP (((b.set f.toNat (b.getD e.toNat Zaf.d)).set e.toNat (b.getD f.toNat Zaf.d)).length))))))))) (bE e ((b.set f.toNat (b.getD e.toNat Zaf.d)).set e.toNat (b.getD f.toNat Zaf.d)) r g)
def ZeI:Nat->Int->(List Zaf)->Option (List Zaf)|0,_,_=>none|fu+1,d,b=>Zdm d (ZeI fu) (((b.length:Int)-(Zaq (ZiO (2:Int) d) (1:Int))).toNat+2) d (Zaq (ZiO (2:Int) d) (1:Int)) b
theorem Zup:∀(f:Nat)(e:Int)(b r:List Zaf),ZeI f e b=some r->Ys 51 S0 w0 Tryz.f344 [(me 100000 343 5 Zaf.c Zaf.d r)] (.tup []) [0] ⟨[(0,.one (.osl 100000 b.length)),(1,(Yj e))],[(me 100000 343 5 Zaf.c Zaf.d b)]⟩:=by
 intro f;induction f with
 |zero=>
  intro e b r g;simp[ZeI]at g
 |succ f h=>
  intro e b r g;unfold ZeI at g;exact Ye 8 [rz,rz] [] (ma [0,1,4,5] [100000]) .n (Zuo S0 w0 e (ZeI f) h (((b.length:Int)-(Zaq (ZiO (2:Int) e) (1:Int))).toNat+2) e (Zaq (ZiO (2:Int) e) (1:Int)) b r g)
def Zkw(b:List Zaf)(d:Int):Option (List Zaf):=ZeI 1000000 d b
theorem ZqO(b:List Zaf)(e:Int)(r:List Zaf)(f:Zkw b e=some r):Yq 344 [(me 100000 343 5 Zaf.c Zaf.d b)] [.one (.osl 100000 b.length),Yj e] [(me 100000 343 5 Zaf.c Zaf.d r)] (.tup []):=by
 refine Yw Tryz.func344 fun S0 w0=>?_;unfold Zkw at f;exact Ye 1 [] [] (ma [0,1] [100000]) .n (Zup S0 w0 1000000 e b r f)
def ZhJ:Nat->Int->(List Zaf)->Option (List Zaf)|0,_,_=>none|fu+1,b,d=>bif(decide (b>=(0:Int)))then(Zkw d b).bind fun e=>ZhJ fu (ZaG b (1:Int)) e else some d
theorem Zuq:∀(h:Nat)(g:Int)(e r:List Zaf),ZhJ h g e=some r->Ys 19 S0 w0 Tryz.f342 [(me 99999 343 5 Zaf.c Zaf.d r)] (.one (.osl 99999 r.length)) [1,1,0,1,0] ⟨[(3,.one (.osl 6 e.length)),(4,(Yj g))],[(me 6 343 5 Zaf.c Zaf.d e)]⟩:=by
 intro h;induction h with
 |zero=>
  intro g e r b;simp[ZhJ]at b
 |succ h j=>
  intro g e r b;unfold ZhJ at b;obtain⟨i,b⟩|⟨i,b⟩:=Zag b
  .obtain⟨f,o,b⟩:=Zad b;exact Ye 12 [rz,rH [] [(2,⟨[(100000,6)],[],[(me 100000 343 5 Zaf.c Zaf.d f)],.tup []⟩)],rz] [true] ⟨[],[],[],[(6,f.length)],[],[3,4],[6],[]⟩ (mo i (ZqO _ _ _ o) (mP f.length)) (j (ZaG g (1:Int)) f r b)
  .apply Yc b 8 [rz,rz] [false] (md [2] [6] [(6,99999)]) (ml i)
def Zjs(d:List Zaf):Option (List Zaf):=(Zbo d).bind fun b=>ZhJ (((ZaG (IntKind.wrap .i64 (Int.tdiv (b.length:Int) (2:Int))) (1:Int))-(0:Int)).toNat+2) (ZaG (IntKind.wrap .i64 (Int.tdiv (b.length:Int) (2:Int))) (1:Int)) b
theorem ZqP(f r:List Zaf)(e:Zjs f=some r):Yq 342 [] [Yo f] [(me 99999 343 5 Zaf.c Zaf.d r)] (.one (.osl 99999 r.length)):=by
 refine Yw Tryz.func342 fun S0 w0=>?_;unfold Zjs at e;obtain⟨b,g,e⟩:=Zad e;exact Ye 8 [rz,rH [] [(1,⟨[],[(99999,6)],[(me 99999 343 5 Zaf.c Zaf.d b)],.one (.osl 99999 b.length)⟩)],rz] [] (ma [3,4] [6]) (mn (Zdp _ _ g) (show (2:Int)≠0 from(by decide))) (Zuq S0 w0 (((ZaG (IntKind.wrap .i64 (Int.tdiv (b.length:Int) (2:Int))) (1:Int))-(0:Int)).toNat+2) (ZaG (IntKind.wrap .i64 (Int.tdiv (b.length:Int) (2:Int))) (1:Int)) b r e)
def ZlL(e:List Zaf):Option (Zaf×(List Zaf)×Bool):=bif((e.length:Int)==(0:Int))then some ((Zaf.mk 0 (Zaj.mk (Zah.mk false 0 0) 0)),([]:(List Zaf)),false)else(Zbo e).bind fun b=>need (0<=(ZaG (b.length:Int) (1:Int))/\(ZaG (b.length:Int) (1:Int))<(b.length:Int))<|need (0<=(0:Int)/\(0:Int)<(b.length:Int))<|need (0<=(0:Int)/\(0:Int)<=(ZaG (b.length:Int) (1:Int))/\(ZaG (b.length:Int) (1:Int))<=(b.length:Int))<|need ((ZaG (b.length:Int) (1:Int)).toNat<=(b.set ((0:Int).toNat) (b.getD ((ZaG (b.length:Int) (1:Int)).toNat) Zaf.d)).length)<|(Zkw ((b.set ((0:Int).toNat) (b.getD ((ZaG (b.length:Int) (1:Int)).toNat) Zaf.d)).take ((ZaG (b.length:Int) (1:Int)).toNat)) (0:Int)).bind fun f=>need (0<=(0:Int)/\(0:Int)<(e.length:Int))<|some ((e.getD (0:Int).toNat Zaf.d),f,true)
theorem ZpG(g:List Zaf)(r:(Zaf×(List Zaf)×Bool))(e:ZlL g=some r):Yp 302 [Yo g] (.tup [(true,Zaf.c r.1),(false,(cLs 5 Zaf.c Zaf.d) r.2.1),(false,cB r.2.2)]):=by
 refine Yv Tryz.func302 fun S0 w0=>?_;unfold ZlL at e;obtain⟨f,e⟩|⟨f,e⟩:=Zag e
 .apply Yb e 8 [rz,rz,rz] [true] [] [] [(3,[(0,cL 5 Zaf.c Zaf.d [])])] (ml f)
 .obtain⟨b,t,e⟩:=Zad e;obtain⟨h,o,e⟩:=Yt e;obtain⟨u,v,e⟩:=Yt e;obtain⟨p,y,e⟩:=Zad e;obtain⟨z,e⟩:=Zao e;apply Yb e 19 [rz,rz,rH [] [(1,⟨[],[(99999,12)],[(me 99999 343 5 Zaf.c Zaf.d b)],.one (.osl 99999 b.length)⟩)],rz,rA [(6,.c (b.set ((0:Int).toNat) (b.getD ((ZaG (b.length:Int) (1:Int)).toNat) Zaf.d)).length (Zam Zaf.c Zaf.d (b.set ((0:Int).toNat) (b.getD ((ZaG (b.length:Int) (1:Int)).toNat) Zaf.d))))],rA [(3,.c ((b.set ((0:Int).toNat) (b.getD ((ZaG (b.length:Int) (1:Int)).toNat) Zaf.d)).take ((ZaG (b.length:Int) (1:Int)).toNat)).length (Zam Zaf.c Zaf.d ((b.set ((0:Int).toNat) (b.getD ((ZaG (b.length:Int) (1:Int)).toNat) Zaf.d)).take ((ZaG (b.length:Int) (1:Int)).toNat))))],rH [] [(1,⟨[(100000,5)],[],[(me 100000 343 5 Zaf.c Zaf.d p)],.tup []⟩)],rz] [false] [5] [] [] (.c f (.c (Zdp _ _ t) (.c h (.c (ltOf h) (mz o (show (b.set ((0:Int).toNat) (b.getD ((ZaG (b.length:Int) (1:Int)).toNat) Zaf.d)).length=b.length from List.length_set) (ltOf o) (show ExtU 5 b.length (Zam Zaf.c Zaf.d b) ((0:Int).toNat) 0 (Zaf.c (b.getD ((ZaG (b.length:Int) (1:Int)).toNat) Zaf.d)) (Zam Zaf.c Zaf.d (b.set ((0:Int).toNat) (b.getD ((ZaG (b.length:Int) (1:Int)).toNat) Zaf.d)))from(Zio _ _ _ rfl)) u (mP 0) (show ((b.set ((0:Int).toNat) (b.getD ((ZaG (b.length:Int) (1:Int)).toNat) Zaf.d)).take ((ZaG (b.length:Int) (1:Int)).toNat)).length=(ZaG (b.length:Int) (1:Int)).toNat from(ZyF _ _ v)) (show ∀i j,i<(ZaG (b.length:Int) (1:Int)).toNat->j<5->Zam Zaf.c Zaf.d ((b.set ((0:Int).toNat) (b.getD ((ZaG (b.length:Int) (1:Int)).toNat) Zaf.d)).take ((ZaG (b.length:Int) (1:Int)).toNat)) i j=Zam Zaf.c Zaf.d (b.set ((0:Int).toNat) (b.getD ((ZaG (b.length:Int) (1:Int)).toNat) Zaf.d)) i j from(Zvg _ _)) (ZqO _ _ _ y) z)))))
def ZcV:Nat->(List Zaa)->Int->Int->Zaj->Option Bool|0,_,_,_,_=>none|fu+1,e,f,b,g=>bif(decide (b<f))then need (0<=b/\b<(e.length:Int))<|bif(decide ((e.getD b.toNat Zaa.d).fEnd=g))then some true else ZcV fu e f (Zaq b 1) g else some false
theorem Znr:∀(i:Nat)(g:List Zaa)(h b:Int)(f:Zaj)(r:Bool),ZcV i g h b f=some r->Yr 19 S0 w0 Tryz.f191 (Yk r) [1,0,1,0] ⟨[(3,.one (.ptr 3 0)),(8,(Ym g)),(9,(Yj h)),(10,(Yj b))],[(3,.box (Zaj.c f))]⟩:=by
 intro i;induction i with
 |zero=>
  intro g h b f r e;simp[ZcV]at e
 |succ i p=>
  intro g h b f r e;unfold ZcV at e;obtain⟨j,e⟩|⟨j,e⟩:=Zag e
  .obtain⟨t,e⟩:=Zao e
   let R1:List RA:=[rz,rz,rA [(3,aB (decide ((g.getD b.toNat Zaa.d).fEnd=f)))],rz]
   have O2:=(mo j t (ZhG ((g.getD b.toNat Zaa.d).fEnd) f (.tmp 15) (.tmp 16)));obtain⟨o,e⟩|⟨o,e⟩:=Zag e
   .apply Ya e 15 R1 [true,true] (mC O2 o)
   .exact Ye 17 R1 [true,false] (ma [3,8,9,10] [3]) (mC O2 o) (p g h (Zaq b 1) f r e)
  .apply Ya e 8 [rz,rz] [false] (ml j)
def ZfZ(b:ZaB)(d:Zaj):Option Bool:=ZcV (((b.fPeers.length:Int)-(0:Int)).toNat+2) b.fPeers (b.fPeers.length:Int) (0:Int) d
theorem ZkF(b:ZaB)(d:Zaj)(r:Bool)(e:ZfZ b d=some r):Yp 191 [.agg (ZaB.c b),.agg (Zaj.c d)] (Yk r):=by
 refine Yv Tryz.func191 fun S0 w0=>?_;unfold ZfZ at e;exact Ye 6 [rz,rz] [] (ma [3,8,9,10] [3]) .n (Znr S0 w0 (((b.fPeers.length:Int)-(0:Int)).toNat+2) b.fPeers (b.fPeers.length:Int) (0:Int) d r e)
def Zkk(b d:Zae):Option Int:=(ZiZ b.fAddr d.fAddr).bind fun e=>(Zci b.fBits d.fBits).bind fun f=>(ZeF ([e,f]:List Int)).bind fun g=>some g
theorem Zpl(h o:Zae)(r:Int)(g:Zkk h o=some r):Yp 174 [.agg (Zae.c h),.agg (Zae.c o)] (Yj r):=by
 refine Yv Tryz.func174 fun S0 w0=>?_;unfold Zkk at g;obtain⟨b,f,p,t,g⟩:=Yu g;obtain⟨u,v,g⟩:=Zad g;apply Ya g 4 [rz,⟨[(4,aI b),(9,aI f),(11,aI u)],[],[],[],[],[(10,(([b,f]:List Int).length,Zam mi (0:Int) ([b,f]:List Int)))],[]⟩] [] (mq (Zpn _ _ _ p) (ZcT _ _ _ t) (mN (e:=mi) (0:Int) 1 (fun _=>rfl) ([b,f]:List Int)) (ZgZ _ _ v))
def cmpN(a b:Zae):Int:=orI (cmpA a.fAddr b.fAddr) (cmpI a.fBits b.fBits)
theorem ZJO(a b:Zae):Zkk a b=some (cmpN a b):=by
 simp only[Zkk,ZEw,ZsK,or2,Option.bind_some,cmpN]
theorem ZIn{a b:Zae}:cmpN a b<0↔cmpA a.fAddr b.fAddr<0\/(a.fAddr=b.fAddr/\a.fBits<b.fBits):=by simp only[cmpN,ZxV,Zuz,Zpq]
theorem ZLn{a b:Zae}:0<cmpN a b↔0<cmpA a.fAddr b.fAddr\/(a.fAddr=b.fAddr/\b.fBits<a.fBits):=by simp only[cmpN,ZxW,ZuA,Zpq]
theorem Zkl{a b:Zae}:cmpN a b=0↔a=b:=by
 simp only[cmpN,Zvm,ZjB,Zpq];obtain⟨x,p⟩:=a;obtain⟨y,q⟩:=b;simp
theorem Zrq{a b:Zae}:0<cmpN a b↔cmpN b a<0:=by
 rw[ZLn,ZIn,ZBq];constructor<;>rintro (h|⟨d,e⟩)<;>first|exact .inl h|exact .inr ⟨d.symm,e⟩
theorem ZrM{a b c:Zae}(d:cmpN a b<0)(e:cmpN b c<0):cmpN a c<0:=by
 rw[ZIn]at *
 rcases d with d|⟨d,f⟩<;>rcases e with e|⟨e,g⟩
 .exact .inl (Zyv d e)
 .exact .inl (e ▸ d)
 .exact .inl (d ▸ e)
 .exact .inr ⟨d.trans e,by omega⟩
theorem ltN(a b:Zae):Go.Proofs.ltOf cmpN a b=decide (cmpN a b<0):=by
 unfold Go.Proofs.ltOf;rfl
theorem ZEn:Go.Sort.SWO (Go.Proofs.ltOf cmpN) where
 irrefl x:=by rw[ltN];simp[(Zkl (a:=x) (b:=x)).2 rfl]
 trans x y z d e:=by
  rw[ltN,decide_eq_true_eq]at *
  exact ZrM d e
 ntrans x y z d e:=by
  rw[ltN,decide_eq_false_iff_not]at *
  intro h;have e1:cmpN x y=0\/0<cmpN x y:=by omega
  have e2:cmpN y z=0\/0<cmpN y z:=by omega
  rcases e1 with e1|e1
  .rw[Zkl]at e1;subst e1;omega
  .rcases e2 with e2|e2
   .rw[Zkl]at e2;subst e2;omega
   .have f:=ZrM (Zrq.1 e2) (Zrq.1 e1);have g:=Zrq.2 f;omega
theorem ZFL(x y:Zae)(d:Go.Proofs.ltOf cmpN x y=false)(b:Go.Proofs.ltOf cmpN y x=false):x=y:=by
 rw[ltN,decide_eq_false_iff_not]at *
 rw[<-Zkl];have:¬0<cmpN x y:=fun h=>b (Zrq.1 h);omega
def Zbk(aq:Int->(List Zae)->Option (List Zae)):Nat->Int->Nat->Nat->Nat->Int->(List Zae)->Option (List Zae)|0,_,_,_,_,_,_=>none|fu+1,e,vo4,eK,vn4,f,b=>bif(decide (f<((eK:Nat):Int)))then need (0<=f/\f<((eK:Nat):Int))<|need ((vo4+f.toNat)<b.length)<|need (0<=(ZaG f (1:Int))/\(ZaG f (1:Int))<((eK:Nat):Int))<|need ((vo4+(ZaG f (1:Int)).toNat)<b.length)<|bif(!(decide ((b.getD (vo4+f.toNat) Zae.d)=(b.getD (vo4+(ZaG f (1:Int)).toNat) Zae.d))))then need (0<=e/\e<(b.length:Int))<|Zbk aq fu (Zaq e 1) vo4 eK vn4 (Zaq f 1) (b.set e.toNat (b.getD (vo4+f.toNat) Zae.d))else Zbk aq fu e vo4 eK vn4 (Zaq f 1) b else need (0<=e/\e<=(b.length:Int)/\(b.length:Int)<=(b.length:Int))<|need (e.toNat+(b.length-e.toNat)<=b.length)<|need (0<=(0:Int)/\(0:Int)<=e/\e<=(b.length:Int))<|need (e.toNat<=(Zhf b e.toNat (b.length-e.toNat) Zae.d).length)<|some ((Zhf b e.toNat (b.length-e.toNat) Zae.d).take e.toNat)
theorem ZjJ(aq:Int->(List Zae)->Option (List Zae))(bL:∀(jU:Int)(ah r:List Zae),aq jU ah=some r->Ys 61 S0 w0 Tryz.f327 [(me 99999 32 4 Zae.c Zae.d r)] (.one (.osl 99999 r.length)) [1,1,0,1,0] ⟨[(0,.one (.osl 100000 ah.length)),(3,(Yj jU))],[(me 100000 32 4 Zae.c Zae.d ah)]⟩):∀(t:Nat)(e:Int)(vo4 eK vn4:Nat)(g:Int)(b r:List Zae),Zbk aq t e vo4 eK vn4 g b=some r->Ys 61 S0 w0 Tryz.f327 [(me 99999 32 4 Zae.c Zae.d r)] (.one (.osl 99999 r.length)) [1,1,0,1,0,0,1,0,0,1,0,1,0,1,0] ⟨[(0,.one (.osl 100000 b.length)),(3,(Yj e)),(4,.one (.osub 100000 4 vo4 eK vn4)),(5,(Yj g))],[(me 100000 32 4 Zae.c Zae.d b)]⟩:=by
 intro t;induction t with
 |zero=>
  intro e vo4 eK vn4 g b r f;simp[Zbk]at f
 |succ t D=>
  intro e vo4 eK vn4 g b r f;unfold Zbk at f;obtain⟨u,f⟩|⟨u,f⟩:=Zag f
  .obtain⟨E,F,f⟩:=Yt f;obtain⟨v,f⟩:=Zao f;obtain⟨y,f⟩:=Zao f
   let R1:List RA:=[rz,rA [(9,aB (!(decide ((b.getD (vo4+g.toNat) Zae.d)=(b.getD (vo4+(ZaG g (1:Int)).toNat) Zae.d)))))]]
   have O2:=(mt u E F v y (Zta (b.getD (vo4+g.toNat) Zae.d) (b.getD (vo4+(ZaG g (1:Int)).toNat) Zae.d) (.tmp 38) (.tmp 43)));obtain⟨h,f⟩|⟨h,f⟩:=Zag f
   .obtain⟨p,f⟩:=Zao f;exact Ye 17 (R1++[rA [(7,.c (b.set e.toNat (b.getD (vo4+g.toNat) Zae.d)).length (Zam Zae.c Zae.d (b.set e.toNat (b.getD (vo4+g.toNat) Zae.d))))],rz,rz]) [true,true] ⟨[],[],[],[(100000,((b.set e.toNat (b.getD (vo4+g.toNat) Zae.d)).length))],[],[0,3,4,5],[100000],[]⟩ (mJ O2 h E F p (show (b.set e.toNat (b.getD (vo4+g.toNat) Zae.d)).length=b.length from List.length_set) (ltOf p) (show ExtU 4 b.length (Zam Zae.c Zae.d b) e.toNat 0 (Zae.c (b.getD (vo4+g.toNat) Zae.d)) (Zam Zae.c Zae.d (b.set e.toNat (b.getD (vo4+g.toNat) Zae.d)))from(Zio _ _ _ rfl)) (mP ((b.set e.toNat (b.getD (vo4+g.toNat) Zae.d)).length))) (D (Zaq e 1) vo4 eK vn4 (Zaq g 1) (b.set e.toNat (b.getD (vo4+g.toNat) Zae.d)) r f)
   .exact Ye 15 (R1++[rz]) [true,false] (ma [0,3,4,5] [100000]) (mC O2 h) (D e vo4 eK vn4 (Zaq g 1) b r f)
  .obtain⟨z,o,f⟩:=Yt f;obtain⟨A,B,f⟩:=Yt f;apply Yc f 10 [rz,rA [(3,.c (Zhf b e.toNat (b.length-e.toNat) Zae.d).length (Zam Zae.c Zae.d (Zhf b e.toNat (b.length-e.toNat) Zae.d)))],rA [(3,.c ((Zhf b e.toNat (b.length-e.toNat) Zae.d).take e.toNat).length (Zam Zae.c Zae.d ((Zhf b e.toNat (b.length-e.toNat) Zae.d).take e.toNat)))]] [false] (md [2] [2] [(2,99999)]) (my u z (show (Zhf b e.toNat (b.length-e.toNat) Zae.d).length=b.length from(ZwU _ _ _ _ o)) (show ∀i j,i<b.length->j<4->(i<e.toNat\/e.toNat+(b.length-e.toNat)<=i)->Zam Zae.c Zae.d (Zhf b e.toNat (b.length-e.toNat) Zae.d) i j=Zam Zae.c Zae.d b i j from(ZBs _ _ _ o)) (show ∀i j,i<(b.length-e.toNat)->j<4->ZrP (([.lit (.bool false),.lit (.int .u64 (0)),.lit (.int .u64 (0)),.lit (.int .i64 (0))]:List C).getD j .junk) (Zam Zae.c Zae.d (Zhf b e.toNat (b.length-e.toNat) Zae.d) (e.toNat+i) j)from(ZBt _ _ _ o (fun j hj=>.inl rfl))) A (mP 0) (show ((Zhf b e.toNat (b.length-e.toNat) Zae.d).take e.toNat).length=e.toNat from(ZyF _ _ B)) (show ∀i j,i<e.toNat->j<4->Zam Zae.c Zae.d ((Zhf b e.toNat (b.length-e.toNat) Zae.d).take e.toNat) i j=Zam Zae.c Zae.d (Zhf b e.toNat (b.length-e.toNat) Zae.d) i j from(Zvg _ _)))
def Zba:Nat->Int->(List Zae)->Option (List Zae)|0,_,_=>none|fu+1,e,b=>bif(decide (e<(b.length:Int)))then need (0<=e/\e<(b.length:Int))<|need (0<=(ZaG e (1:Int))/\(ZaG e (1:Int))<(b.length:Int))<|bif(decide ((b.getD e.toNat Zae.d)=(b.getD ((ZaG e (1:Int)).toNat) Zae.d)))then need (0<=e/\e<=(b.length:Int)/\(b.length:Int)<=(b.length:Int))<|Zbk (Zba fu) 1000000 e e.toNat (b.length-e.toNat) b.length (1:Int) b else Zba fu (Zaq e 1) b else some b
theorem ZjK:∀(g:Nat)(f:Int)(b r:List Zae),Zba g f b=some r->Ys 61 S0 w0 Tryz.f327 [(me 99999 32 4 Zae.c Zae.d r)] (.one (.osl 99999 r.length)) [1,1,0,1,0] ⟨[(0,.one (.osl 100000 b.length)),(3,(Yj f))],[(me 100000 32 4 Zae.c Zae.d b)]⟩:=by
 intro g;induction g with
 |zero=>
  intro f b r e;simp[Zba]at e
 |succ g j=>
  intro f b r e;unfold Zba at e;obtain⟨h,e⟩|⟨h,e⟩:=Zag e
  .obtain⟨o,e⟩:=Zao e;obtain⟨p,e⟩:=Zao e
   let R3:List RA:=[rz,rA [(9,aB (decide ((b.getD f.toNat Zae.d)=(b.getD ((ZaG f (1:Int)).toNat) Zae.d))))],rz]
   have O4:=(mt h o (ltOf o) p (ltOf p) (Zlv (b.getD f.toNat Zae.d) (b.getD ((ZaG f (1:Int)).toNat) Zae.d) (.tmp 19) (.tmp 24)));obtain⟨i,e⟩|⟨i,e⟩:=Zag e
   .obtain⟨t,e⟩:=Zao e;exact Ye 17 (R3++[rz]) [true,true] (ma [0,3,4,5] [100000]) (mD O4 i t) (ZjJ S0 w0 (Zba g) j 1000000 f f.toNat (b.length-f.toNat) b.length (1:Int) b r e)
   .exact Ye 15 R3 [true,false] (ma [0,3] [100000]) (mC O4 i) (j (Zaq f 1) b r e)
  .apply Yc e 8 [rz,rz] [false] (md [2] [100000] [(100000,99999)]) (ml h)
def Zbz(b:List Zae):Option (List Zae):=bif(decide ((b.length:Int)<(2:Int)))then some b else Zba (((b.length:Int)-(1:Int)).toNat+2) (1:Int) b
theorem Zke(b r:List Zae)(e:Zbz b=some r):Yq 327 [(me 100000 32 4 Zae.c Zae.d b)] [.one (.osl 100000 b.length)] [(me 99999 32 4 Zae.c Zae.d r)] (.one (.osl 99999 r.length)):=by
 refine Yw Tryz.func327 fun S0 w0=>?_;unfold Zbz at e;obtain⟨f,e⟩|⟨f,e⟩:=Zag e
 .apply Yc e 8 [rz,rz,rz] [true] (md [2] [100000] [(100000,99999)]) (ml f)
 .exact Ye 11 [rz,rz,rz] [false] (ma [0,3] [100000]) (ml f) (ZjK S0 w0 (((b.length:Int)-(1:Int)).toNat+2) (1:Int) b r e)
def ZhI(b:List Zae):Option (List Zae):=need (b.length<4611686018427387904)<|some (b.mergeSort fun x y=>!(Go.Proofs.ltOf cmpN) y x)
theorem Ztj(b r:List Zae)(e:ZhI b=some r):Yq 326 [(me 100000 32 4 Zae.c Zae.d b)] [.one (.osl 100000 b.length),.one (.lit (.func (.func 174) #[] #[]))] [(100000,.rows 32 4 b.length (Zam Zae.c Zae.d r))] (.tup []):=by
 obtain⟨o1,e⟩:=Zao e;cases e
 haveI:Inhabited Zae:=⟨Zae.d⟩
 exact ZyE (ρ:=ZvG) (ev:=fun a=>(Zae.c a).map ZLA) ZKz ⟨_,Tryz.func326,rfl,rfl⟩ ⟨_,Tryz.func174,rfl,rfl⟩ (by decide) (fun _=>rfl) (fun _=>rfl)
  (fun x v hv=>List.all_eq_true.1 (show ((Zae.c x).map ZLA).all (fun v=>v.oneCell')=true from rfl) v hv) Tryz.isAgg32 Tryz.sizeOf32 cmpN ZEn ZFL (fun x y=>Zpl x y _ (ZJO x y)) b o1
theorem Ztk(b r:List Zae)(d:ZhI b=some r):r.length=b.length:=by
 obtain⟨o1,d⟩:=Zao d;cases d;exact List.length_mergeSort b
def Zey(o:List Zab)(g:List Zaa)(h i:Int)(aR:(List Zaa)->Int->Int->(List Zae)->Option (List Zae)):Nat->(List Zab)->Int->Int->(List Zae)->Option (List Zae)|0,_,_,_,_=>none|fu+1,e,f,b,j=>bif(decide (b<f))then need (0<=b/\b<(e.length:Int))<|bif((e.getD b.toNat Zab.d).fState==(2:Int))then(ZgK (((e.getD b.toNat Zab.d).fEnd).fAddr)).bind fun n=>need ((j++([n]:List Zae)).length * 32<=140737488355328/\(j++([n]:List Zae)).length<=maxLen)<|Zey o g h i aR fu e f (Zaq b 1) (j++([n]:List Zae))else Zey o g h i aR fu e f (Zaq b 1) j else(ZhI j).bind fun p=>(Zbz p).bind fun r=>some r
theorem ZrT(G:List Zab)(A:List Zaa)(B C:Int)(aR:(List Zaa)->Int->Int->(List Zae)->Option (List Zae))(dS:∀(cF:List Zaa)(cG jV:Int)(kx r:List Zae),aR cF cG jV kx=some r->Ys 48 S0 w0 Tryz.f263 [(me 99999 32 4 Zae.c Zae.d r)] (.one (.osl 99999 r.length)) [1,1,0,1,0] ⟨[(1,(Yn G)),(5,.one (.osl 5 kx.length)),(10,(Ym cF)),(11,(Yj cG)),(12,(Yj jV))],[(me 5 32 4 Zae.c Zae.d kx)]⟩):∀(y:Nat)(g:List Zab)(h o:Int)(f r:List Zae),Zey G A B C aR y g h o f=some r->Ys 48 S0 w0 Tryz.f263 [(me 99999 32 4 Zae.c Zae.d r)] (.one (.osl 99999 r.length)) [1,1,1,0,1,0] ⟨[(5,.one (.osl 5 f.length)),(27,(Yn g)),(28,(Yj h)),(29,(Yj o))],[(me 5 32 4 Zae.c Zae.d f)]⟩:=by
 intro y;induction y with
 |zero=>
  intro g h o f r b;simp[Zey]at b
 |succ y H=>
  intro g h o f r b;unfold Zey at b;obtain⟨z,b⟩|⟨z,b⟩:=Zag b
  .obtain⟨I,b⟩:=Zao b;obtain⟨D,b⟩|⟨D,b⟩:=Zag b
   .obtain⟨p,J,b⟩:=Zad b;obtain⟨u,b⟩:=Zao b;exact Ye 17 [rz,rz,rz,⟨[(4,aG (Zae.c p)),(6,.c ((f++([p]:List Zae)).length) (Zam Zae.c Zae.d (f++([p]:List Zae))))],[],[],[],[],[(5,(([p]:List Zae).length,Zam Zae.c Zae.d ([p]:List Zae)))],[]⟩,rz] [true,true] (md [5,27,28,29] [42] [(42,5)]) (mw z I D (ZiE _ _ J) (mN (e:=Zae.c) Zae.d 4 (fun _=>rfl) ([p]:List Zae)) (Zcq (sz:=4) (e:=Zae.c) (d:=Zae.d) f ([p]:List Zae)) u.1 u.2) (H g h (Zaq o 1) (f++([p]:List Zae)) r b)
   .exact Ye 17 [rz,rz,rz,rz] [true,false] (ma [5,27,28,29] [5]) (mo z I D) (H g h (Zaq o 1) f r b)
  .obtain⟨E,t,v,F,b⟩:=Yu b;apply Yc b 10 [rz,rH [] [(1,⟨[(100000,5)],[],[(100000,.rows 32 4 f.length (Zam Zae.c Zae.d E))],.tup []⟩)],rH [] [(1,⟨[(100000,5)],[(99999,47)],[(me 99999 32 4 Zae.c Zae.d t)],.one (.osl 99999 t.length)⟩)]] [false] (md [4] [47] [(47,99999)]) (mo z (Ztj _ _ v) (show Yq 327 [(100000,.rows 32 4 f.length (Zam Zae.c Zae.d E))] [.one (.osl 100000 f.length)] [(me 99999 32 4 Zae.c Zae.d t)] (.one (.osl 99999 t.length))from(by rw[<-(Ztk f E v)];exact(Zke _ _ F))))
def ZcU(g:List Zab):Nat->(List Zaa)->Int->Int->(List Zae)->Option (List Zae)|0,_,_,_,_=>none|fu+1,e,f,b,h=>bif(decide (b<f))then need (0<=b/\b<(e.length:Int))<|bif(!(e.getD b.toNat Zaa.d).fIn)then(ZgK (((e.getD b.toNat Zaa.d).fEnd).fAddr)).bind fun i=>need ((h++([i]:List Zae)).length * 32<=140737488355328/\(h++([i]:List Zae)).length<=maxLen)<|ZcU g fu e f (Zaq b 1) (h++([i]:List Zae))else ZcU g fu e f (Zaq b 1) h else Zey g e f b (ZcU g fu) (((g.length:Int)-(0:Int)).toNat+2) g (g.length:Int) (0:Int) h
theorem ZrU(t:List Zab):∀(u:Nat)(f:List Zaa)(g h:Int)(o r:List Zae),ZcU t u f g h o=some r->Ys 48 S0 w0 Tryz.f263 [(me 99999 32 4 Zae.c Zae.d r)] (.one (.osl 99999 r.length)) [1,1,0,1,0] ⟨[(1,(Yn t)),(5,.one (.osl 5 o.length)),(10,(Ym f)),(11,(Yj g)),(12,(Yj h))],[(me 5 32 4 Zae.c Zae.d o)]⟩:=by
 intro u;induction u with
 |zero=>
  intro f g h o r b;simp[ZcU]at b
 |succ u y=>
  intro f g h o r b;unfold ZcU at b;obtain⟨v,b⟩|⟨v,b⟩:=Zag b
  .obtain⟨A,b⟩:=Zao b;obtain⟨z,b⟩|⟨z,b⟩:=Zag b
   .obtain⟨p,C,b⟩:=Zad b;obtain⟨B,b⟩:=Zao b;exact Ye 17 [rz,rz,rz,⟨[(4,aG (Zae.c p)),(6,.c ((o++([p]:List Zae)).length) (Zam Zae.c Zae.d (o++([p]:List Zae))))],[],[],[],[],[(5,(([p]:List Zae).length,Zam Zae.c Zae.d ([p]:List Zae)))],[]⟩,rz] [true,true] (md [1,5,10,11,12] [25] [(25,5)]) (mw v A z (ZiE _ _ C) (mN (e:=Zae.c) Zae.d 4 (fun _=>rfl) ([p]:List Zae)) (Zcq (sz:=4) (e:=Zae.c) (d:=Zae.d) o ([p]:List Zae)) B.1 B.2) (y f g (Zaq h 1) (o++([p]:List Zae)) r b)
   .exact Ye 17 [rz,rz,rz,rz] [true,false] (ma [1,5,10,11,12] [5]) (mo v A z) (y f g (Zaq h 1) o r b)
  .exact Ye 10 [rz,rz] [false] (ma [5,27,28,29] [5]) (ml v) (ZrT S0 w0 t f g h (ZcU t u) y (((t.length:Int)-(0:Int)).toNat+2) t (t.length:Int) (0:Int) o r b)
def ZiY(b:List Zaa)(d:List Zab):Option (List Zae):=ZcU d (((b.length:Int)-(0:Int)).toNat+2) b (b.length:Int) (0:Int) ([])
theorem Zti(b:List Zaa)(e:List Zab)(r:List Zae)(f:ZiY b e=some r):Yq 263 [] [Ym b,Yn e] [(me 99999 32 4 Zae.c Zae.d r)] (.one (.osl 99999 r.length)):=by
 refine Yw Tryz.func263 fun S0 w0=>?_;unfold ZiY at f;exact Ye 8 [rz,rz,rz] [] ⟨[],[],[],[],[(5,5,32,4,Zam Zae.c Zae.d [])],[1,5,10,11,12],[5],[]⟩ .n (ZrU S0 w0 e (((b.length:Int)-(0:Int)).toNat+2) b (b.length:Int) (0:Int) ([]) r f)
theorem Zug(b:List Zaa)(e:List Zab)(r:List Zae)(f:ZiY b e=some r):Yp 263 [Ym b,Yn e] (.one (cL 4 Zae.c Zae.d r)):=(Zti b e r f).pure
def Zbw(e:List Zae):Nat->Int->Int->Zae->Option Int|0,_,_,_=>none|fu+1,f,b,g=>bif(decide (b<f))then need (0<=b/\b<(e.length:Int))<|bif(decide (g=(e.getD b.toNat Zae.d)))then some b else Zbw e fu f (Zaq b 1) g else some (-1:Int)
theorem Zkc(h:List Zae):∀(i:Nat)(g f:Int)(e:Zae)(r:Int),Zbw h i g f e=some r->Yr 19 S0 w0 Tryz.f325 (Yj r) [1,0,1,0] ⟨[(0,.one (cL 4 Zae.c Zae.d h)),(3,.one (.ptr 3 0)),(7,(Yj g)),(8,(Yj f))],[(3,.box (Zae.c e))]⟩:=by
 intro i;induction i with
 |zero=>
  intro g f e r b;simp[Zbw]at b
 |succ i p=>
  intro g f e r b;unfold Zbw at b;obtain⟨j,b⟩|⟨j,b⟩:=Zag b
  .obtain⟨t,b⟩:=Zao b
   let R1:List RA:=[rz,rz,rA [(5,aB (decide (e=(h.getD f.toNat Zae.d))))],rz]
   have O2:=(mo j t (Zlv e (h.getD f.toNat Zae.d) (.tmp 11) (.tmp 15)));obtain⟨o,b⟩|⟨o,b⟩:=Zag b
   .apply Ya b 15 R1 [true,true] (mC O2 o)
   .exact Ye 17 R1 [true,false] (ma [0,3,7,8] [3]) (mC O2 o) (p g (Zaq f 1) e r b)
  .apply Ya b 8 [rz,rz] [false] (ml j)
def Zec(b:List Zae)(d:Zae):Option Int:=Zbw b (((b.length:Int)-(0:Int)).toNat+2) (b.length:Int) (0:Int) d
theorem ZkX(b:List Zae)(e:Zae)(r:Int)(f:Zec b e=some r):Yp 325 [.one (cL 4 Zae.c Zae.d b),.agg (Zae.c e)] (Yj r):=by
 refine Yv Tryz.func325 fun S0 w0=>?_;unfold Zec at f;exact Ye 6 [rz,rz] [] (ma [0,3,7,8] [3]) .n (Zkc S0 w0 b (((b.length:Int)-(0:Int)).toNat+2) (b.length:Int) (0:Int) e r f)
def ZcE(b:List Zae)(d:Zae):Option Bool:=(Zec b d).bind fun e=>some (decide (e>=(0:Int)))
theorem Zkd(e:List Zae)(f:Zae)(r:Bool)(b:ZcE e f=some r):Yp 262 [.one (cL 4 Zae.c Zae.d e),.agg (Zae.c f)] (Yk r):=by
 refine Yv Tryz.func262 fun S0 w0=>?_;unfold ZcE at b;obtain⟨g,h,b⟩:=Zad b;apply Ya b 4 [rz,rA [(2,aI g)]] [] (ml (ZkX _ _ _ h))
def ZkW(d:List Zaa)(e:List Zab)(b:Zah):Option Bool:=(Zfk b).bind fun f=>bif f then(ZiY d e).bind fun g=>(ZgK b).bind fun h=>(ZcE g h).bind fun i=>some (!i)else some false
theorem ZuQ(f:List Zaa)(g:List Zab)(h:Zah)(r:Bool)(b:ZkW f g h=some r):Yp 192 [Ym f,Yn g,.agg (Zah.c h)] (Yk r):=by
 refine Yv Tryz.func192 fun S0 w0=>?_;unfold ZkW at b;obtain⟨i,j,b⟩:=Zad b;obtain⟨e,b⟩|⟨e,b⟩:=Zag b
 .obtain⟨o,p,t,u,b⟩:=Yu b;obtain⟨v,y,b⟩:=Zad b;apply Ya b 4 [rz,⟨[(1,aB i),(5,.r (.one (cL 4 Zae.c Zae.d o)) []),(7,aG (Zae.c p)),(8,aB v)],[(2,true)],[],[],[],[],[]⟩] [] (mr (Zcp _ _ j) e (Zug _ _ _ t) (ZiE _ _ u) (Zkd _ _ _ y))
 .apply Ya b 4 [rz,⟨[(1,aB i)],[(2,false)],[],[],[],[],[]⟩] [] (mn (Zcp _ _ j) e)
end Go.Proofs.YtmnloegcpaahcaaGreat
