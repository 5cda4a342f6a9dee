import Derived.Test.YtmnloegcpaahcaaGreatCMoeA2
namespace Go.Proofs.YtmnloegcpaahcaaGreat
open Go.RowKit Go.Lib Go.Shelf
set_option linter.unusedVariables false
set_option maxRecDepth 100000
variable (S0:Nat->Prop)(w0:ZaY)
def Zit(d:Zaf)(b:Int):Option (Zaj×Bool):=(Zbv d).bind fun e=>bif(!e)then some ((Zaj.mk (Zaf.mk false 0 0) 0),false)else bif(decide (b<(0:Int)))then some ((Zaj.mk (Zaf.mk false 0 0) 0),false)else(ZbK d).bind fun f=>bif(decide (b>f))then some ((Zaj.mk (Zaf.mk false 0 0) 0),false)else(Zis d b).bind fun g=>some ((Zaj.mk g b),true)
theorem ZpZ(h:Zaf)(i:Int)(r:(Zaj×Bool))(b:Zit h i=some r):Yo 195 [.agg (Zaf.c h),Yj i] (.tup [(true,Zaj.c r.1),(false,cB r.2)]):=by
 refine Yu Tryz.func195 fun S0 w0=>?_;unfold Zit at b;obtain⟨d,j,b⟩:=Zad b;obtain⟨e,b⟩|⟨e,b⟩:=Zae b
 .apply Ya b 8 [rz,⟨[(1,aB d)],[(3,true)],[],[],[],[],[]⟩,rz] [true] (lT (ZaT _ _ j) e (mo true))
 .have O1:=(lS (ZaT _ _ j) e);obtain⟨f,b⟩|⟨f,b⟩:=Zae b
  .apply Ya b 8 [rz,⟨[(1,aB d)],[(3,false),(7,true)],[],[],[],[],[]⟩,rz] [true] (l9 O1 f (mo true))
  .obtain⟨o,p,b⟩:=Zad b
   let R2:List RA:=[rz,⟨[(1,aB d),(10,aI o)],[(3,false),(7,false)],[],[],[],[],[]⟩]
   have O3:=(l9 O1 f (Zco _ _ p));obtain⟨g,b⟩|⟨g,b⟩:=Zae b
   .apply Ya b 8 (R2++[rz]) [true] (l8 O3 g)
   .obtain⟨t,u,b⟩:=Zad b;apply Ya b 9 (R2++[rA [(2,aG (Zaf.c t))]]) [false] (l9 O3 g (ZpY _ _ _ u))
def ZgP(b:Zaf):Option Zaj:=(ZbK b).bind fun d=>(Zit b d).bind fun e=>some e.1
theorem Zqa(d:Zaf)(r:Zaj)(b:ZgP d=some r):Yo 110 [.agg (Zaf.c d)] (.agg (Zaj.c r)):=by
 refine Yu Tryz.func110 fun S0 w0=>?_;unfold ZgP at b;obtain⟨f,e,g,h,b⟩:=Yt b;apply Ya b 6 [rz,rA [(2,aI f),(3,.r (.tup [(true,Zaj.c e.1),(false,cB e.2)]) [])],rz] [] (lS (Zco _ _ g) (ZpZ _ _ _ h))
def Zgp(b:Zac):Option Bool:=(ZdT b.fNet).bind fun d=>bif d then bif(decide (b.fUntil>(0:Int)))then some (decide (b.fUntil<=(1099511627776:Int)))else some false else some false
theorem ZkL(g:Zac)(r:Bool)(b:Zgp g=some r):Yo 32 [.agg (Zac.c g)] (Yk r):=by
 refine Yu Tryz.func32 fun S0 w0=>?_;unfold Zgp at b;obtain⟨d,h,b⟩:=Zad b;obtain⟨e,b⟩|⟨e,b⟩:=Zae b
 .have O1:=(lS (ZeO _ _ h) e);obtain⟨f,b⟩|⟨f,b⟩:=Zae b
  .apply Ya b 4 [rz,⟨[(2,aB d)],[(3,true),(8,true)],[],[],[],[],[]⟩] [] (l8 O1 f)
  .apply Ya b 4 [rz,⟨[(2,aB d)],[(3,true),(8,false)],[],[],[],[],[]⟩] [] (l8 O1 f)
 .apply Ya b 4 [rz,⟨[(2,aB d)],[(3,false)],[],[],[],[],[]⟩] [] (lS (ZeO _ _ h) e)
def ZcE(e:List Zac):Nat->Int->Zaj->Option Int|0,_,_=>none|fu+1,b,f=>bif(decide (b<(e.length:Int)))then need (0<=b/\b<(e.length:Int))<|bif(decide ((e.getD b.toNat Zac.d).fNet=f))then some b else ZcE e fu (Zan b 1) f else some (-1:Int)
theorem Znp(g:List Zac):∀(h:Nat)(f:Int)(e:Zaj)(r:Int),ZcE g h f e=some r->Yq 20 S0 w0 Tryz.f214 (Yj r) [1,0,1,0] ⟨[(0,(Yl g)),(3,.one (.ptr 3 0)),(5,(Yj f))],[(3,.box (Zaj.c e))]⟩:=by
 intro h;induction h with
 |zero=>
  intro f e r b;simp[ZcE]at b
 |succ h o=>
  intro f e r b;unfold ZcE at b;obtain⟨i,b⟩|⟨i,b⟩:=Zae b
  .obtain⟨p,b⟩:=Zap b
   let R1:List RA:=[rz,rA [(6,aB (decide ((g.getD f.toNat Zac.d).fNet=e)))],rz]
   have O2:=(lT i p (ZpB ((g.getD f.toNat Zac.d).fNet) e (.tmp 16) (.tmp 17)));obtain⟨j,b⟩|⟨j,b⟩:=Zae b
   .apply Ya b 13 R1 [true,true] (l8 O2 j)
   .exact Ye 15 R1 [true,false] (lI [0,3,5] [3]) (l8 O2 j) (o (Zan f 1) e r b)
  .apply Ya b 8 [rz,rz] [false] (lR i)
def ZeX(b:List Zac)(d:Zaj):Option Int:=ZcE b (((b.length:Int)-(0:Int)).toNat+2) (0:Int) d
theorem Ziq(b:List Zac)(d:Zaj)(r:Int)(e:ZeX b d=some r):Yo 214 [Yl b,.agg (Zaj.c d)] (Yj r):=by
 refine Yu Tryz.func214 fun S0 w0=>?_;unfold ZeX at e;exact Ye 6 [rz,rz] [] (lI [0,3,5] [3]) .n (Znp S0 w0 b (((b.length:Int)-(0:Int)).toNat+2) (0:Int) d r e)
def Zfq(b d:Zaj):Option Int:=(Zed b.fAddr d.fAddr).bind fun e=>bif(e != (0:Int))then some e else bif(b.fBits==d.fBits)then some e else bif(decide (b.fBits<d.fBits))then some (-1:Int)else some (1:Int)
theorem ZnW(h i:Zaj)(r:Int)(b:Zfq h i=some r):Yo 123 [.agg (Zaj.c h),.agg (Zaj.c i)] (Yj r):=by
 refine Yu Tryz.func123 fun S0 w0=>?_;unfold Zfq at b;obtain⟨e,j,b⟩:=Zad b;obtain⟨f,b⟩|⟨f,b⟩:=Zae b
 .apply Ya b 10 [rz,rA [(4,aI e)],rB [(2,true)],rz] [true] (lT (ZfI _ _ _ j) f (mo true))
 .have O1:=(lS (ZfI _ _ _ j) f);obtain⟨d,b⟩|⟨d,b⟩:=Zae b
  .apply Ya b 10 [rz,rA [(4,aI e)],rB [(2,false)],rz] [true] (l8 O1 d)
  .let R2:List RA:=[rz,rA [(4,aI e)],rB [(2,false)],rz,rz]
   obtain⟨g,b⟩|⟨g,b⟩:=Zae b
   .apply Ya b 15 R2 [false,true] (l9 O1 d g)
   .apply Ya b 16 R2 [false,false] (l9 O1 d g)
def ZdC(e:List Zac):Nat->Int->Zac->Option ((List Zac)×Int)|0,_,_=>none|fu+1,b,f=>bif(decide (b<(e.length:Int)))then need (0<=b/\b<(e.length:Int))<|(Zfq ((e.getD b.toNat Zac.d).fNet) f.fNet).bind fun g=>bif(decide (g<=(0:Int)))then ZdC e fu (Zan b 1) f else need (0<=b/\b<=(e.length:Int))<|need ((([]:List Zac)++(e.take b.toNat)).length * 40<=140737488355328/\(([]:List Zac)++(e.take b.toNat)).length<=maxLen)<|need (((([]:List Zac)++(e.take b.toNat))++([f]:List Zac)).length * 40<=140737488355328/\((([]:List Zac)++(e.take b.toNat))++([f]:List Zac)).length<=maxLen)<|need ((((([]:List Zac)++(e.take b.toNat))++([f]:List Zac))++(e.drop b.toNat)).length * 40<=140737488355328/\(((([]:List Zac)++(e.take b.toNat))++([f]:List Zac))++(e.drop b.toNat)).length<=maxLen)<|some ((((([]:List Zac)++(e.take b.toNat))++([f]:List Zac))++(e.drop b.toNat)),(0:Int))else need (0<=b/\b<=(e.length:Int))<|need ((([]:List Zac)++(e.take b.toNat)).length * 40<=140737488355328/\(([]:List Zac)++(e.take b.toNat)).length<=maxLen)<|need (((([]:List Zac)++(e.take b.toNat))++([f]:List Zac)).length * 40<=140737488355328/\((([]:List Zac)++(e.take b.toNat))++([f]:List Zac)).length<=maxLen)<|need ((((([]:List Zac)++(e.take b.toNat))++([f]:List Zac))++(e.drop b.toNat)).length * 40<=140737488355328/\(((([]:List Zac)++(e.take b.toNat))++([f]:List Zac))++(e.drop b.toNat)).length<=maxLen)<|some ((((([]:List Zac)++(e.take b.toNat))++([f]:List Zac))++(e.drop b.toNat)),(0:Int))
theorem ZoE(f:List Zac):∀(C:Nat)(b:Int)(g:Zac)(r:((List Zac)×Int)),ZdC f C b g=some r->Yq 73 S0 w0 Tryz.f145 (.tup [(false,(cLs 5 Zac.c Zac.d) r.1),(false,lP r.2)]) [1,1,1,1,1,1,0,0] ⟨[(0,(Yl f)),(4,.one (.ptr 4 0)),(10,(Yj b))],[(4,.box (Zac.c g))]⟩:=by
 intro C;induction C with
 |zero=>
  intro b g r h;simp[ZdC]at h
 |succ C G=>
  intro b g r h;unfold ZdC at h;obtain⟨D,h⟩|⟨D,h⟩:=Zae h
  .obtain⟨E,h⟩:=Zap h;obtain⟨H,F,h⟩:=Zad h
   let R1:List RA:=[⟨[(12,aI H)],[(4,true)],[],[],[],[],[]⟩]
   have O2:=(lT D E (ZnW _ _ _ F));obtain⟨o,h⟩|⟨o,h⟩:=Zae h
   .exact Ye 10 (R1++[rz]) [true] (lI [0,4,10] [4]) (l8 O2 o) (G (Zan b 1) g r h)
   .obtain⟨p,u,h⟩:=Ys h;obtain⟨v,y,h⟩:=Ys h;apply Yb h 10 (R1++[⟨[(0,.c ([]:List Zac).length (Zal Zac.c Zac.d ([]:List Zac))),(4,.c ((([]:List Zac)++(f.take b.toNat)).length) (Zal Zac.c Zac.d (([]:List Zac)++(f.take b.toNat)))),(7,.c (((([]:List Zac)++(f.take b.toNat))++([g]:List Zac)).length) (Zal Zac.c Zac.d ((([]:List Zac)++(f.take b.toNat))++([g]:List Zac))))],[],[],[],[],[(3,((f.take b.toNat).length,Zal Zac.c Zac.d (f.take b.toNat))),(6,(([g]:List Zac).length,Zal Zac.c Zac.d ([g]:List Zac)))],[]⟩,⟨[(4,.c ((((([]:List Zac)++(f.take b.toNat))++([g]:List Zac))++(f.drop b.toNat)).length) (Zal Zac.c Zac.d (((([]:List Zac)++(f.take b.toNat))++([g]:List Zac))++(f.drop b.toNat))))],[],[],[],[],[(3,((f.drop b.toNat).length,Zal Zac.c Zac.d (f.drop b.toNat)))],[]⟩]) [false] [72] [] [] (O2.app (.c o (.c (show ([]:List Zac).length=0 from rfl) (.c (mq (e:=Zac.c) Zac.d 5 (fun _=>rfl) ([]:List Zac)) (.c (show (f.take b.toNat).length=b.toNat/\∀i j,i<b.toNat->j<5->Zal Zac.c Zac.d (f.take b.toNat) i j=Zal Zac.c Zac.d f i j from(Zkb _ _ p)) (.c p (.c (ZcO (sz:=5) (e:=Zac.c) (d:=Zac.d) ([]:List Zac) (f.take b.toNat)) (.c u.1 (l5 u.2 (ml (e:=Zac.c) Zac.d 5 (fun _=>rfl) ([g]:List Zac)) (ZcO (sz:=5) (e:=Zac.c) (d:=Zac.d) (([]:List Zac)++(f.take b.toNat)) ([g]:List Zac)) v.1 v.2 (show (f.drop b.toNat).length=f.length-b.toNat/\∀i j,i<f.length-b.toNat->j<5->Zal Zac.c Zac.d (f.drop b.toNat) i j=Zal Zac.c Zac.d f (b.toNat+i) j from(Zkc _ _)) p (ZcO (sz:=5) (e:=Zac.c) (d:=Zac.d) ((([]:List Zac)++(f.take b.toNat))++([g]:List Zac)) (f.drop b.toNat)) y.1 y.2)))))))))
  .obtain⟨t,z,h⟩:=Ys h;obtain⟨A,B,h⟩:=Ys h;apply Yb h 10 [rB [(4,false)],⟨[(0,.c ([]:List Zac).length (Zal Zac.c Zac.d ([]:List Zac))),(4,.c ((([]:List Zac)++(f.take b.toNat)).length) (Zal Zac.c Zac.d (([]:List Zac)++(f.take b.toNat)))),(7,.c (((([]:List Zac)++(f.take b.toNat))++([g]:List Zac)).length) (Zal Zac.c Zac.d ((([]:List Zac)++(f.take b.toNat))++([g]:List Zac))))],[],[],[],[],[(3,((f.take b.toNat).length,Zal Zac.c Zac.d (f.take b.toNat))),(6,(([g]:List Zac).length,Zal Zac.c Zac.d ([g]:List Zac)))],[]⟩,⟨[(4,.c ((((([]:List Zac)++(f.take b.toNat))++([g]:List Zac))++(f.drop b.toNat)).length) (Zal Zac.c Zac.d (((([]:List Zac)++(f.take b.toNat))++([g]:List Zac))++(f.drop b.toNat))))],[],[],[],[],[(3,((f.drop b.toNat).length,Zal Zac.c Zac.d (f.drop b.toNat)))],[]⟩] [false] [72] [] [] (.c D (.c (mo false) (.c (show ([]:List Zac).length=0 from rfl) (.c (mq (e:=Zac.c) Zac.d 5 (fun _=>rfl) ([]:List Zac)) (.c (show (f.take b.toNat).length=b.toNat/\∀i j,i<b.toNat->j<5->Zal Zac.c Zac.d (f.take b.toNat) i j=Zal Zac.c Zac.d f i j from(Zkb _ _ t)) (.c t (.c (ZcO (sz:=5) (e:=Zac.c) (d:=Zac.d) ([]:List Zac) (f.take b.toNat)) (.c z.1 (l5 z.2 (ml (e:=Zac.c) Zac.d 5 (fun _=>rfl) ([g]:List Zac)) (ZcO (sz:=5) (e:=Zac.c) (d:=Zac.d) (([]:List Zac)++(f.take b.toNat)) ([g]:List Zac)) A.1 A.2 (show (f.drop b.toNat).length=f.length-b.toNat/\∀i j,i<f.length-b.toNat->j<5->Zal Zac.c Zac.d (f.drop b.toNat) i j=Zal Zac.c Zac.d f (b.toNat+i) j from(Zkc _ _)) t (ZcO (sz:=5) (e:=Zac.c) (d:=Zac.d) ((([]:List Zac)++(f.take b.toNat))++([g]:List Zac)) (f.drop b.toNat)) B.1 B.2)))))))))
def ZfY(b:List Zac)(f:Zac)(g:Int):Option ((List Zac)×Int):=(Zgp f).bind fun h=>bif(!h)then some (([]:(List Zac)),(1:Int))else(ZeX b f.fNet).bind fun e=>bif(decide (e>=(0:Int)))then need ((([]:List Zac)++b).length * 40<=140737488355328/\(([]:List Zac)++b).length<=maxLen)<|need (0<=e/\e<(((([]:List Zac)++b).length:Nat):Int))<|bif(decide (f.fUntil>((([]:List Zac)++b).getD e.toNat Zac.d).fUntil))then some (((([]:List Zac)++b).set e.toNat (Zac.mk (((([]:List Zac)++b).getD e.toNat Zac.d).fNet) f.fUntil)),(0:Int))else some ((([]:List Zac)++b),(0:Int))else bif(decide ((b.length:Int)>=g))then some (([]:(List Zac)),(5:Int))else ZdC b (((b.length:Int)-(0:Int)).toNat+2) (0:Int) f
theorem ZlN(f:List Zac)(h:Zac)(z:Int)(r:((List Zac)×Int))(b:ZfY f h z=some r):Yo 145 [Yl f,.agg (Zac.c h),Yj z] (.tup [(false,(cLs 5 Zac.c Zac.d) r.1),(false,lP r.2)]):=by
 refine Yu Tryz.func145 fun S0 w0=>?_;unfold ZfY at b;obtain⟨t,A,b⟩:=Zad b;obtain⟨u,b⟩|⟨u,b⟩:=Zae b
 .apply Yb b 8 [rz,rA [(1,aB t)],rz] [true] [] [] [(6,[(0,cL 5 Zac.c Zac.d [])])] (lS (ZkL _ _ A) u)
 .obtain⟨g,C,b⟩:=Zad b;have O3:=(lT (ZkL _ _ A) u (Ziq _ _ _ C));obtain⟨o,b⟩|⟨o,b⟩:=Zae b
  .obtain⟨B,b⟩:=Zap b;obtain⟨p,b⟩:=Zap b
   let R4:List RA:=[rz,rA [(1,aB t)],rA [(3,aI g)],rz,rA [(0,.c ([]:List Zac).length (Zal Zac.c Zac.d ([]:List Zac))),(2,.c ((([]:List Zac)++f).length) (Zal Zac.c Zac.d (([]:List Zac)++f)))],rz]
   have O5:=(mg O3 o (show ([]:List Zac).length=0 from rfl) (mq (e:=Zac.c) Zac.d 5 (fun _=>rfl) ([]:List Zac)) (ZcO (sz:=5) (e:=Zac.c) (d:=Zac.d) ([]:List Zac) f) B.1 B.2 p (ltOf p));obtain⟨v,b⟩|⟨v,b⟩:=Zae b
   .apply Yb b 22 (R4++[rA [(6,.c ((([]:List Zac)++f).set g.toNat (Zac.mk (((([]:List Zac)++f).getD g.toNat Zac.d).fNet) h.fUntil)).length (Zal Zac.c Zac.d ((([]:List Zac)++f).set g.toNat (Zac.mk (((([]:List Zac)++f).getD g.toNat Zac.d).fNet) h.fUntil))))],rz]) [false,true,true] [23] [] [] (md O5 v p (show ((([]:List Zac)++f).set g.toNat (Zac.mk (((([]:List Zac)++f).getD g.toNat Zac.d).fNet) h.fUntil)).length=(([]:List Zac)++f).length from List.length_set) (ltOf p) (show ExtU 5 ((([]:List Zac)++f).length) (Zal Zac.c Zac.d (([]:List Zac)++f)) g.toNat 4 [.lit (.int .i64 h.fUntil)] (Zal Zac.c Zac.d ((([]:List Zac)++f).set g.toNat (Zac.mk (((([]:List Zac)++f).getD g.toNat Zac.d).fNet) h.fUntil)))from(ZDq _ _ _ _ _ rfl (Nat.le_of_ble_eq_true rfl))))
   .apply Yb b 22 (R4++[rz]) [false,true,false] [23] [] [] (l8 O5 v)
  .let R6:List RA:=[rz,rA [(1,aB t)],rA [(3,aI g)],rz,rz,rz]
   obtain⟨y,b⟩|⟨y,b⟩:=Zae b
   .apply Yb b 20 R6 [false,false,true] [] [] [(6,[(0,cL 5 Zac.c Zac.d [])])] (l9 O3 o y)
   .exact Ye 23 R6 [false,false,false] (lI [0,4,10] [4]) (l9 O3 o y) (ZoE S0 w0 f (((f.length:Int)-(0:Int)).toNat+2) (0:Int) h r b)
def Zdi(e:List Zaa)(g:Bool):Nat->Int->(List Zaa)->Zaj->Option (List Zaa)|0,_,_,_=>none|fu+1,b,f,h=>bif(decide (b<(e.length:Int)))then need (0<=b/\b<(e.length:Int))<|(ZfZ h (((e.getD b.toNat Zaa.d).fEnd).fAddr)).bind fun i=>bif(i==g)then need ((f++([(e.getD b.toNat Zaa.d)]:List Zaa)).length * 80<=140737488355328/\(f++([(e.getD b.toNat Zaa.d)]:List Zaa)).length<=maxLen)<|Zdi e g fu (Zan b 1) (f++([(e.getD b.toNat Zaa.d)]:List Zaa)) h else Zdi e g fu (Zan b 1) f h else some f
theorem Zpj(g:List Zaa)(v:Bool):∀(p:Nat)(f:Int)(h:List Zaa)(o:Zaj)(r:List Zaa),Zdi g v p f h o=some r->Yr 34 S0 w0 Tryz.f215 [(lL 99999 44 10 Zaa.c Zaa.d r)] (.one (.osl 99999 r.length)) [1,1,0,1,0] ⟨[(0,(Ym g)),(2,(Yk v)),(4,.one (.ptr 4 0)),(7,.one (.osl 7 h.length)),(8,(Yj f))],[(lL 7 44 10 Zaa.c Zaa.d h),(4,.box (Zaj.c o))]⟩:=by
 intro p;induction p with
 |zero=>
  intro f h o r b;simp[Zdi]at b
 |succ p y=>
  intro f h o r b;unfold Zdi at b;obtain⟨t,b⟩|⟨t,b⟩:=Zae b
  .obtain⟨z,b⟩:=Zap b;obtain⟨A,C,b⟩:=Zad b;have O1:=(lT t z (ZlP _ _ _ C));obtain⟨u,b⟩|⟨u,b⟩:=Zae b
   .obtain⟨B,b⟩:=Zap b;exact Ye 15 [rz,rA [(7,aB A)],⟨[(6,.c ((h++([(g.getD f.toNat Zaa.d)]:List Zaa)).length) (Zal Zaa.c Zaa.d (h++([(g.getD f.toNat Zaa.d)]:List Zaa))))],[],[],[],[],[(5,(([(g.getD f.toNat Zaa.d)]:List Zaa).length,Zal Zaa.c Zaa.d ([(g.getD f.toNat Zaa.d)]:List Zaa)))],[]⟩,rz] [true,true] (lK [0,2,4,7,8] [32,4] [(32,7)]) (me O1 u z (ml (e:=Zaa.c) Zaa.d 10 (fun _=>rfl) ([(g.getD f.toNat Zaa.d)]:List Zaa)) (ZcO (sz:=10) (e:=Zaa.c) (d:=Zaa.d) h ([(g.getD f.toNat Zaa.d)]:List Zaa)) B.1 B.2) (y (Zan f 1) (h++([(g.getD f.toNat Zaa.d)]:List Zaa)) o r b)
   .exact Ye 15 [rz,rA [(7,aB A)],rz] [true,false] (lI [0,2,4,7,8] [7,4]) (l8 O1 u) (y (Zan f 1) h o r b)
  .apply Yc b 8 [rz,rz] [false] (lK [6] [7] [(7,99999)]) (lR t)
def ZgA(b:List Zaa)(d:Zaj)(e:Bool):Option (List Zaa):=Zdi b e (((b.length:Int)-(0:Int)).toNat+2) (0:Int) ([]:List Zaa) d
theorem Zqv(b:List Zaa)(f:Zaj)(g:Bool)(r:List Zaa)(h:ZgA b f g=some r):Yp 215 [] [Ym b,.agg (Zaj.c f),Yk g] [(lL 99999 44 10 Zaa.c Zaa.d r)] (.one (.osl 99999 r.length)):=by
 refine Yv Tryz.func215 fun S0 w0=>?_;unfold ZgA at h;exact Ye 8 [rz,rA [(0,.c ([]:List Zaa).length (Zal Zaa.c Zaa.d ([]:List Zaa)))],rz] [] (lK [0,2,4,7,8] [9,4] [(9,7)]) (lS (show ([]:List Zaa).length=0 from rfl) (mq (e:=Zaa.c) Zaa.d 10 (fun _=>rfl) ([]:List Zaa))) (Zpj S0 w0 b g (((b.length:Int)-(0:Int)).toNat+2) (0:Int) ([]:List Zaa) f r h)
theorem Zmg(b:List Zaa)(d:Zaj)(e:Bool)(r:List Zaa)(f:ZgA b d e=some r):Yo 215 [Ym b,.agg (Zaj.c d),Yk e] (Ym r):=(Zqv b d e r f).pure
def Zdl(e:List Zaa):Nat->Int->(List Zai)->Option (List Zai)|0,_,_=>none|fu+1,b,f=>bif(decide (b<(e.length:Int)))then need (0<=b/\b<(e.length:Int))<|need ((f++([(e.getD b.toNat Zaa.d).fEnd]:List Zai)).length * 32<=140737488355328/\(f++([(e.getD b.toNat Zaa.d).fEnd]:List Zai)).length<=maxLen)<|Zdl e fu (Zan b 1) (f++([(e.getD b.toNat Zaa.d).fEnd]:List Zai))else some f
theorem ZnH(f:List Zaa):∀(o:Nat)(b:Int)(g r:List Zai),Zdl f o b g=some r->Yr 21 S0 w0 Tryz.f216 [(lL 99999 30 4 Zai.c Zai.d r)] (.one (.osl 99999 r.length)) [1,1,0,1,0] ⟨[(0,(Ym f)),(3,.one (.osl 3 g.length)),(4,(Yj b))],[(lL 3 30 4 Zai.c Zai.d g)]⟩:=by
 intro o;induction o with
 |zero=>
  intro b g r h;simp[Zdl]at h
 |succ o u=>
  intro b g r h;unfold Zdl at h;obtain⟨p,h⟩|⟨p,h⟩:=Zae h
  .obtain⟨v,t,h⟩:=Ys h;exact Ye 12 [rz,⟨[(7,.c ((g++([(f.getD b.toNat Zaa.d).fEnd]:List Zai)).length) (Zal Zai.c Zai.d (g++([(f.getD b.toNat Zaa.d).fEnd]:List Zai))))],[],[],[],[],[(6,(([(f.getD b.toNat Zaa.d).fEnd]:List Zai).length,Zal Zai.c Zai.d ([(f.getD b.toNat Zaa.d).fEnd]:List Zai)))],[]⟩,rz] [true] (lK [0,3,4] [19] [(19,3)]) (lW p v (ml (e:=Zai.c) Zai.d 4 (fun _=>rfl) ([(f.getD b.toNat Zaa.d).fEnd]:List Zai)) (ZcO (sz:=4) (e:=Zai.c) (d:=Zai.d) g ([(f.getD b.toNat Zaa.d).fEnd]:List Zai)) t.1 t.2) (u (Zan b 1) (g++([(f.getD b.toNat Zaa.d).fEnd]:List Zai)) r h)
  .apply Yc h 8 [rz,rz] [false] (lK [2] [3] [(3,99999)]) (lR p)
def ZgH(b:List Zaa):Option (List Zai):=Zdl b (((b.length:Int)-(0:Int)).toNat+2) (0:Int) ([]:List Zai)
theorem Zpg(b:List Zaa)(r:List Zai)(f:ZgH b=some r):Yp 216 [] [Ym b] [(lL 99999 30 4 Zai.c Zai.d r)] (.one (.osl 99999 r.length)):=by
 refine Yv Tryz.func216 fun S0 w0=>?_;unfold ZgH at f;exact Ye 8 [rz,rA [(0,.c ([]:List Zai).length (Zal Zai.c Zai.d ([]:List Zai)))],rz] [] (lK [0,3,4] [5] [(5,3)]) (lS (show ([]:List Zai).length=0 from rfl) (mq (e:=Zai.c) Zai.d 4 (fun _=>rfl) ([]:List Zai))) (ZnH S0 w0 b (((b.length:Int)-(0:Int)).toNat+2) (0:Int) ([]:List Zai) r f)
theorem ZpL(b:List Zaa)(r:List Zai)(e:ZgH b=some r):Yo 216 [Ym b] (.one (cL 4 Zai.c Zai.d r)):=(Zpg b r e).pure
def ZcV(e:List Zai):Nat->Int->Zai->Option Bool|0,_,_=>none|fu+1,b,f=>bif(decide (b<(e.length:Int)))then need (0<=b/\b<(e.length:Int))<|bif(decide ((e.getD b.toNat Zai.d)=f))then some true else ZcV e fu (Zan b 1) f else some false
theorem Zow(g:List Zai):∀(h:Nat)(f:Int)(e:Zai)(r:Bool),ZcV g h f e=some r->Yq 18 S0 w0 Tryz.f217 (Yk r) [1,0,1,0] ⟨[(0,.one (cL 4 Zai.c Zai.d g)),(3,.one (.ptr 3 0)),(5,(Yj f))],[(3,.box (Zai.c e))]⟩:=by
 intro h;induction h with
 |zero=>
  intro f e r b;simp[ZcV]at b
 |succ h o=>
  intro f e r b;unfold ZcV at b;obtain⟨i,b⟩|⟨i,b⟩:=Zae b
  .obtain⟨p,b⟩:=Zap b
   let R1:List RA:=[rz,rA [(5,aB (decide ((g.getD f.toNat Zai.d)=e)))],rz]
   have O2:=(lT i p (ZkU (g.getD f.toNat Zai.d) e (.tmp 15) (.tmp 16)));obtain⟨j,b⟩|⟨j,b⟩:=Zae b
   .apply Ya b 13 R1 [true,true] (l8 O2 j)
   .exact Ye 15 R1 [true,false] (lI [0,3,5] [3]) (l8 O2 j) (o (Zan f 1) e r b)
  .apply Ya b 8 [rz,rz] [false] (lR i)
def Zhn(b:List Zai)(d:Zai):Option Bool:=ZcV b (((b.length:Int)-(0:Int)).toNat+2) (0:Int) d
theorem Zqx(b:List Zai)(e:Zai)(r:Bool)(f:Zhn b e=some r):Yo 217 [.one (cL 4 Zai.c Zai.d b),.agg (Zai.c e)] (Yk r):=by
 refine Yu Tryz.func217 fun S0 w0=>?_;unfold Zhn at f;exact Ye 6 [rz,rz] [] (lI [0,3,5] [3]) .n (Zow S0 w0 b (((b.length:Int)-(0:Int)).toNat+2) (0:Int) e r f)
def ZbV(f:List Zai):Nat->Int->(List Zab)->Option (List Zab)|0,_,_=>none|fu+1,b,e=>bif(decide (b<(e.length:Int)))then need (0<=b/\b<(e.length:Int))<|bif((e.getD b.toNat Zab.d).fState==(3:Int))then(Zhn f ((e.getD b.toNat Zab.d).fEnd)).bind fun g=>bif g then ZbV f fu (Zan b 1) (e.set b.toNat (Zab.mk ((e.getD b.toNat Zab.d).fEnd) 1 ((e.getD b.toNat Zab.d).fFails) ((e.getD b.toNat Zab.d).fNext)))else ZbV f fu (Zan b 1) e else ZbV f fu (Zan b 1) e else some e
theorem ZnN(t:List Zai):∀(h:Nat)(e:Int)(b r:List Zab),ZbV t h e b=some r->Yr 36 S0 w0 Tryz.f150 [(lL 99999 113 7 Zab.c Zab.d r)] (.one (.osl 99999 r.length)) [1,1,0,1,0] ⟨[(1,.one (cL 4 Zai.c Zai.d t)),(5,.one (.osl 9 b.length)),(6,(Yj e))],[(lL 9 113 7 Zab.c Zab.d b)]⟩:=by
 intro h;induction h with
 |zero=>
  intro e b r f;simp[ZbV]at f
 |succ h i=>
  intro e b r f;unfold ZbV at f;obtain⟨j,f⟩|⟨j,f⟩:=Zae f
  .obtain⟨g,f⟩:=Zap f;have O1:=(lT j g (ltOf g));obtain⟨o,f⟩|⟨o,f⟩:=Zae f
   .obtain⟨u,v,f⟩:=Zad f
    let R2:List RA:=[rz,⟨[(13,aB u)],[(6,true)],[],[],[],[],[]⟩]
    have O3:=(mc O1 o g (ltOf g) (Zqx _ _ _ v));obtain⟨p,f⟩|⟨p,f⟩:=Zae f
    .exact Ye 15 (R2++[rA [(4,.c (b.set e.toNat (Zab.mk ((b.getD e.toNat Zab.d).fEnd) 1 ((b.getD e.toNat Zab.d).fFails) ((b.getD e.toNat Zab.d).fNext))).length (Zal Zab.c Zab.d (b.set e.toNat (Zab.mk ((b.getD e.toNat Zab.d).fEnd) 1 ((b.getD e.toNat Zab.d).fFails) ((b.getD e.toNat Zab.d).fNext)))))],rz]) [true,true] ⟨[],[],[],[(9,((b.set e.toNat (Zab.mk ((b.getD e.toNat Zab.d).fEnd) 1 ((b.getD e.toNat Zab.d).fFails) ((b.getD e.toNat Zab.d).fNext))).length))],[],[1,5,6],[9],[]⟩ (me O3 p g (show (b.set e.toNat (Zab.mk ((b.getD e.toNat Zab.d).fEnd) 1 ((b.getD e.toNat Zab.d).fFails) ((b.getD e.toNat Zab.d).fNext))).length=b.length from List.length_set) (ltOf g) (show ExtU 7 b.length (Zal Zab.c Zab.d b) e.toNat 4 [.lit (.int .i64 (1:Int))] (Zal Zab.c Zab.d (b.set e.toNat (Zab.mk ((b.getD e.toNat Zab.d).fEnd) 1 ((b.getD e.toNat Zab.d).fFails) ((b.getD e.toNat Zab.d).fNext))))from(ZDq _ _ _ _ _ rfl (Nat.le_of_ble_eq_true rfl))) (mo ((b.set e.toNat (Zab.mk ((b.getD e.toNat Zab.d).fEnd) 1 ((b.getD e.toNat Zab.d).fFails) ((b.getD e.toNat Zab.d).fNext))).length))) (i (Zan e 1) (b.set e.toNat (Zab.mk ((b.getD e.toNat Zab.d).fEnd) 1 ((b.getD e.toNat Zab.d).fFails) ((b.getD e.toNat Zab.d).fNext))) r f)
    .exact Ye 15 (R2++[rz]) [true,false] (lI [1,5,6] [9]) (l8 O3 p) (i (Zan e 1) b r f)
   .exact Ye 15 [rz,rB [(6,false)],rz] [true,false] (lI [1,5,6] [9]) (l9 O1 o (mo false)) (i (Zan e 1) b r f)
  .apply Yc f 8 [rz,rz] [false] (lK [4] [9] [(9,99999)]) (lR j)
def Zeo(b:List Zab)(d:List Zai):Option (List Zab):=need ((([]:List Zab)++b).length * 56<=140737488355328/\(([]:List Zab)++b).length<=maxLen)<|ZbV d (((((([]:List Zab)++b).length:Nat):Int)-(0:Int)).toNat+2) (0:Int) (([]:List Zab)++b)
theorem Zpm(b:List Zab)(g:List Zai)(r:List Zab)(f:Zeo b g=some r):Yp 150 [] [Yn b,.one (cL 4 Zai.c Zai.d g)] [(lL 99999 113 7 Zab.c Zab.d r)] (.one (.osl 99999 r.length)):=by
 refine Yv Tryz.func150 fun S0 w0=>?_;unfold Zeo at f;obtain⟨o1,f⟩:=Zap f;exact Ye 8 [rz,rA [(0,.c ([]:List Zab).length (Zal Zab.c Zab.d ([]:List Zab))),(2,.c ((([]:List Zab)++b).length) (Zal Zab.c Zab.d (([]:List Zab)++b)))],rz] [] (lI [1,5,6] [9]) (lV (show ([]:List Zab).length=0 from rfl) (mq (e:=Zab.c) Zab.d 7 (fun _=>rfl) ([]:List Zab)) (ZcO (sz:=7) (e:=Zab.c) (d:=Zab.d) ([]:List Zab) b) o1.1 o1.2) (ZnN S0 w0 g (((((([]:List Zab)++b).length:Nat):Int)-(0:Int)).toNat+2) (0:Int) (([]:List Zab)++b) r f)
theorem Zlb(b:List Zab)(e:List Zai)(r:List Zab)(f:Zeo b e=some r):Yo 150 [Yn b,.one (cL 4 Zai.c Zai.d e)] (Yn r):=(Zpm b e r f).pure
def Zdv(b:Zam)(d:Zaj):Option (Zam×Int):=(ZgA b.fPeers d true).bind fun e=>(ZgA b.fPeers d false).bind fun f=>(ZgH e).bind fun g=>(Zeo b.fBook g).bind fun h=>some ((Zam.mk b.fBans h f),(e.length:Int))
theorem ZiL(e:Zam)(f:Zaj)(r:(Zam×Int))(b:Zdv e f=some r):Yo 146 [.agg (Zam.c e),.agg (Zaj.c f)] (.tup [(true,Zam.c r.1),(false,lP r.2)]):=by
 refine Yu Tryz.func146 fun S0 w0=>?_;unfold Zdv at b;obtain⟨g,h,i,j,b⟩:=Yt b;obtain⟨o,p,t,u,b⟩:=Yt b;apply Ya b 10 [rz,rA [(3,.r (Ym g) [])],rA [(3,.r (Ym h) [])],rA [(3,.r (.one (cL 4 Zai.c Zai.d o)) []),(4,.r (Yn p) [])],rz] [] (lU (Zmg _ _ _ _ i) (Zmg _ _ _ _ j) (ZpL _ _ t) (Zlb _ _ _ u))
def Zgh(i:Zav)(b:Zam)(e:Zar):Option (Zam×Zao):=(Zbi b.fPeers e.fEnd).bind fun j=>bif(decide (j<(0:Int)))then(Zbz (6:Int)).bind fun r=>some (b,r)else need (0<=j/\j<(b.fPeers.length:Int))<|(Zec e.fNum).bind fun t=>(ZfQ (b.fPeers.getD j.toNat Zaa.d) t i.fHalf e.fNow).bind fun n=>(Zfn n.fScore i.fLimit).bind fun u=>bif(!u)then(ZeI b.fPeers n).bind fun v=>(Zcs n.fScore).bind fun y=>some ((Zam.mk b.fBans b.fBook v),(Zao.mk 0 (Zai.mk (Zaf.mk false 0 0) 0) y 0 ([]:(List Zaa))))else(ZgP e.fEnd.fAddr).bind fun o=>(ZdZ e.fNow i.fBanFor).bind fun p=>(ZfY b.fBans (Zac.mk o p) i.fMaxBans).bind fun f=>bif(f.2==(0:Int))then(Zdv (Zam.mk f.1 b.fBook b.fPeers) o).bind fun g=>some (g.1,(Zao.mk 0 e.fEnd g.2 p ([]:(List Zaa))))else(Zdv b o).bind fun h=>some (h.1,(Zao.mk 0 e.fEnd h.2 0 ([]:(List Zaa))))
theorem Zph(z:Zav)(A:Zam)(B:Zar)(r:(Zam×Zao))(b:Zgh z A B=some r):Yo 68 [.agg (Zav.c z),.agg (Zam.c A),.agg (Zar.c B)] (.tup [(true,Zam.c r.1),(true,Zao.c r.2)]):=by
 refine Yu Tryz.func68 fun S0 w0=>?_;unfold Zgh at b;obtain⟨C,D,b⟩:=Zad b;obtain⟨i,b⟩|⟨i,b⟩:=Zae b
 .obtain⟨E,F,b⟩:=Zad b;apply Ya b 10 [rz,rA [(4,aI C)],rz,rA [(1,aG (Zao.c E))]] [true] (lT (ZaW _ _ _ D) i (Zbu _ _ F))
 .obtain⟨G,b⟩:=Zap b;obtain⟨H,I,J,L,b⟩:=Yt b;obtain⟨M,O,b⟩:=Zad b
  let R1:List RA:=[rz,rA [(4,aI C)],rz,rA [(7,aI H),(12,aG (Zaa.c I))],rA [(4,aB M)]]
  have O2:=(lW (ZaW _ _ _ D) i G (ZnU _ _ J) (ZoD _ _ _ _ _ L) (ZnT _ _ _ O));obtain⟨j,b⟩|⟨j,b⟩:=Zae b
  .obtain⟨R,U,V,o,b⟩:=Yt b;apply Yb b 19 (R1++[rA [(3,.r (Ym R) [])],rA [(3,aI U)]]) [false,true] [] [(7,[(7,cL 10 Zaa.c Zaa.d [])])] [] (ma O2 j (Zjc _ _ _ V) (Zip _ _ o))
  .obtain⟨W,Z,p,t,b⟩:=Yt b;obtain⟨f,u,b⟩:=Zad b
   let R3:List RA:=(R1++[rA [(3,aG (Zaj.c W)),(8,aI Z)],rA [(5,.r (.tup [(false,(cLs 5 Zac.c Zac.d) f.1),(false,lP f.2)]) [])],rz,rz])
   have O4:=(mc O2 j (Zqa _ _ p) (Zhs _ _ _ t) (ZlN _ _ _ _ u));obtain⟨e,b⟩|⟨e,b⟩:=Zae b
   .obtain⟨g,v,b⟩:=Zad b;apply Yb b 35 (R3++[rz,rz,rA [(3,.r (.tup [(true,Zam.c g.1),(false,lP g.2)]) [])],rz,rz]) [false,false,true] [] [(7,[(7,cL 10 Zaa.c Zaa.d [])])] [] (l9 O4 e (ZiL _ _ _ v))
   .obtain⟨h,y,b⟩:=Zad b;apply Yb b 33 (R3++[rA [(3,.r (.tup [(true,Zam.c h.1),(false,lP h.2)]) [])],rz,rz]) [false,false,false] [] [(7,[(7,cL 10 Zaa.c Zaa.d [])])] [] (l9 O4 e (ZiL _ _ _ y))
def ZgN(d:List Zac)(e:Zaj):Option ((List Zac)×Int):=(ZeX d e).bind fun b=>bif(decide (b<(0:Int)))then some (([]:(List Zac)),(6:Int))else need (0<=b/\b<=(d.length:Int))<|need ((([]:List Zac)++(d.take b.toNat)).length * 40<=140737488355328/\(([]:List Zac)++(d.take b.toNat)).length<=maxLen)<|need (0<=(Zan b 1)/\(Zan b 1)<=(d.length:Int))<|need (((([]:List Zac)++(d.take b.toNat))++(d.drop (Zan b 1).toNat)).length * 40<=140737488355328/\((([]:List Zac)++(d.take b.toNat))++(d.drop (Zan b 1).toNat)).length<=maxLen)<|some (((([]:List Zac)++(d.take b.toNat))++(d.drop (Zan b 1).toNat)),(0:Int))
theorem ZpW(f:List Zac)(o:Zaj)(r:((List Zac)×Int))(g:ZgN f o=some r):Yo 147 [Yl f,.agg (Zaj.c o)] (.tup [(false,(cLs 5 Zac.c Zac.d) r.1),(false,lP r.2)]):=by
 refine Yu Tryz.func147 fun S0 w0=>?_;unfold ZgN at g;obtain⟨b,p,g⟩:=Zad g;obtain⟨h,g⟩|⟨h,g⟩:=Zae g
 .apply Yb g 10 [rz,rA [(2,aI b)],rz,rz] [true] [] [] [(4,[(0,cL 5 Zac.c Zac.d [])])] (lS (Ziq _ _ _ p) h)
 .obtain⟨t,u,g⟩:=Ys g;obtain⟨y,v,g⟩:=Ys g;apply Yb g 11 [rz,rA [(2,aI b)],rz,⟨[(0,.c ([]:List Zac).length (Zal Zac.c Zac.d ([]:List Zac))),(4,.c ((([]:List Zac)++(f.take b.toNat)).length) (Zal Zac.c Zac.d (([]:List Zac)++(f.take b.toNat)))),(9,.c (((([]:List Zac)++(f.take b.toNat))++(f.drop (Zan b 1).toNat)).length) (Zal Zac.c Zac.d ((([]:List Zac)++(f.take b.toNat))++(f.drop (Zan b 1).toNat))))],[],[],[],[],[(3,((f.take b.toNat).length,Zal Zac.c Zac.d (f.take b.toNat))),(8,((f.drop (Zan b 1).toNat).length,Zal Zac.c Zac.d (f.drop (Zan b 1).toNat)))],[]⟩] [false] [21] [] [] (.c (Ziq _ _ _ p) (.c h (.c (show ([]:List Zac).length=0 from rfl) (.c (mq (e:=Zac.c) Zac.d 5 (fun _=>rfl) ([]:List Zac)) (l5 (show (f.take b.toNat).length=b.toNat/\∀i j,i<b.toNat->j<5->Zal Zac.c Zac.d (f.take b.toNat) i j=Zal Zac.c Zac.d f i j from(Zkb _ _ t)) t (ZcO (sz:=5) (e:=Zac.c) (d:=Zac.d) ([]:List Zac) (f.take b.toNat)) u.1 u.2 (show (f.drop (Zan b 1).toNat).length=f.length-(Zan b 1).toNat/\∀i j,i<f.length-(Zan b 1).toNat->j<5->Zal Zac.c Zac.d (f.drop (Zan b 1).toNat) i j=Zal Zac.c Zac.d f ((Zan b 1).toNat+i) j from(Zkc _ _)) y (ZcO (sz:=5) (e:=Zac.c) (d:=Zac.d) (([]:List Zac)++(f.take b.toNat)) (f.drop (Zan b 1).toNat)) v.1 v.2)))))
def ZcD(b:List Zac)(g:Int):Nat->Int->(List Zac)->Option ((List Zac)×Int)|0,_,_=>none|fu+1,e,f=>bif(decide (e<(b.length:Int)))then need (0<=e/\e<(b.length:Int))<|bif(decide ((b.getD e.toNat Zac.d).fUntil>g))then need ((f++([(b.getD e.toNat Zac.d)]:List Zac)).length * 40<=140737488355328/\(f++([(b.getD e.toNat Zac.d)]:List Zac)).length<=maxLen)<|ZcD b g fu (Zan e 1) (f++([(b.getD e.toNat Zac.d)]:List Zac))else ZcD b g fu (Zan e 1) f else some (f,(ZaJ (b.length:Int) (f.length:Int)))
theorem Zno(g:List Zac)(v:Int):∀(o:Nat)(b:Int)(h:List Zac)(r:((List Zac)×Int)),ZcD g v o b h=some r->Yq 35 S0 w0 Tryz.f148 (.tup [(false,(cLs 5 Zac.c Zac.d) r.1),(false,lP r.2)]) [1,1,0,1,0] ⟨[(0,(Yl g)),(1,(Yj v)),(6,.one (.osl 6 h.length)),(7,(Yj b))],[(lL 6 94 5 Zac.c Zac.d h)]⟩:=by
 intro o;induction o with
 |zero=>
  intro b h r f;simp[ZcD]at f
 |succ o y=>
  intro b h r f;unfold ZcD at f;obtain⟨p,f⟩|⟨p,f⟩:=Zae f
  .obtain⟨t,f⟩:=Zap f;obtain⟨u,f⟩|⟨u,f⟩:=Zae f
   .obtain⟨z,f⟩:=Zap f;exact Ye 15 [rz,rz,⟨[(6,.c ((h++([(g.getD b.toNat Zac.d)]:List Zac)).length) (Zal Zac.c Zac.d (h++([(g.getD b.toNat Zac.d)]:List Zac))))],[],[],[],[],[(5,(([(g.getD b.toNat Zac.d)]:List Zac).length,Zal Zac.c Zac.d ([(g.getD b.toNat Zac.d)]:List Zac)))],[]⟩,rz] [true,true] (lK [0,1,6,7] [28] [(28,6)]) (lY p t u t (ml (e:=Zac.c) Zac.d 5 (fun _=>rfl) ([(g.getD b.toNat Zac.d)]:List Zac)) (ZcO (sz:=5) (e:=Zac.c) (d:=Zac.d) h ([(g.getD b.toNat Zac.d)]:List Zac)) z.1 z.2) (y (Zan b 1) (h++([(g.getD b.toNat Zac.d)]:List Zac)) r f)
   .exact Ye 15 [rz,rz,rz] [true,false] (lI [0,1,6,7] [6]) (lT p t u) (y (Zan b 1) h r f)
  .apply Yb f 8 [rz,rz] [false] [6] [] [] (lR p)
def Zgo(b:List Zac)(d:Int):Option ((List Zac)×Int):=ZcD b d (((b.length:Int)-(0:Int)).toNat+2) (0:Int) ([]:List Zac)
theorem Zps(b:List Zac)(f:Int)(r:((List Zac)×Int))(g:Zgo b f=some r):Yo 148 [Yl b,Yj f] (.tup [(false,(cLs 5 Zac.c Zac.d) r.1),(false,lP r.2)]):=by
 refine Yu Tryz.func148 fun S0 w0=>?_;unfold Zgo at g;exact Ye 8 [rz,rA [(0,.c ([]:List Zac).length (Zal Zac.c Zac.d ([]:List Zac)))],rz] [] (lK [0,1,6,7] [8] [(8,6)]) (lS (show ([]:List Zac).length=0 from rfl) (mq (e:=Zac.c) Zac.d 5 (fun _=>rfl) ([]:List Zac))) (Zno S0 w0 b f (((b.length:Int)-(0:Int)).toNat+2) (0:Int) ([]:List Zac) r g)
def ZgJ(i:Zav)(b:Zam)(d:Zar):Option (Zam×Zao):=bif(d.fKind==(6:Int))then bif(decide (d.fNum<=d.fNow))then(Zbz (3:Int)).bind fun j=>some (b,j)else(ZfY b.fBans (Zac.mk d.fNet d.fNum) i.fMaxBans).bind fun f=>bif(f.2 != (0:Int))then(Zbz f.2).bind fun n=>some (b,n)else(Zdv (Zam.mk f.1 b.fBook b.fPeers) d.fNet).bind fun g=>some (g.1,(Zao.mk 0 (Zai.mk (Zaf.mk false 0 0) 0) g.2 0 ([]:(List Zaa))))else bif(d.fKind==(7:Int))then(ZgN b.fBans d.fNet).bind fun e=>bif(e.2==(0:Int))then(Zbz e.2).bind fun o=>some ((Zam.mk e.1 b.fBook b.fPeers),o)else(Zbz e.2).bind fun p=>some (b,p)else bif(d.fKind==(8:Int))then(Zdj b.fBans d.fEnd.fAddr d.fNow).bind fun r=>some (b,(Zao.mk 0 (Zai.mk (Zaf.mk false 0 0) 0) 0 r ([]:(List Zaa))))else(Zgo b.fBans d.fNow).bind fun h=>some ((Zam.mk h.1 b.fBook b.fPeers),(Zao.mk 0 (Zai.mk (Zaf.mk false 0 0) 0) h.2 0 ([]:(List Zaa))))
theorem ZpN(v:Zav)(y:Zam)(z:Zar)(r:(Zam×Zao))(b:ZgJ v y z=some r):Yo 69 [.agg (Zav.c v),.agg (Zam.c y),.agg (Zar.c z)] (.tup [(true,Zam.c r.1),(true,Zao.c r.2)]):=by
 refine Yu Tryz.func69 fun S0 w0=>?_;unfold ZgJ at b;obtain⟨g,b⟩|⟨g,b⟩:=Zae b
 .obtain⟨i,b⟩|⟨i,b⟩:=Zae b
  .obtain⟨E,F,b⟩:=Zad b;apply Ya b 15 [rz,rz,rz,rz,rA [(1,aG (Zao.c E))]] [true,true] (lT g i (Zbu _ _ F))
  .obtain⟨A,G,b⟩:=Zad b
   let R1:List RA:=[rz,rz,rz,rz,rA [(9,.r (.tup [(false,(cLs 5 Zac.c Zac.d) A.1),(false,lP A.2)]) [])],rz]
   have O2:=(lT g i (ZlN _ _ _ _ G));obtain⟨j,b⟩|⟨j,b⟩:=Zae b
   .obtain⟨H,I,b⟩:=Zad b;apply Ya b 22 (R1++[rA [(2,aG (Zao.c H))]]) [true,false,true] (l9 O2 j (Zbu _ _ I))
   .obtain⟨B,J,b⟩:=Zad b;apply Yb b 27 (R1++[rz,rA [(3,.r (.tup [(true,Zam.c B.1),(false,lP B.2)]) [])],rz]) [true,false,false] [] [(7,[(7,cL 10 Zaa.c Zaa.d [])])] [] (l9 O2 j (ZiL _ _ _ J))
 .obtain⟨h,b⟩|⟨h,b⟩:=Zae b
  .obtain⟨C,L,b⟩:=Zad b
   let R3:List RA:=[rz,rz,rz,rz,rA [(4,.r (.tup [(false,(cLs 5 Zac.c Zac.d) C.1),(false,lP C.2)]) [])],rz]
   have O4:=(lT g h (ZpW _ _ _ L));obtain⟨e,b⟩|⟨e,b⟩:=Zae b
   .obtain⟨M,o,b⟩:=Zad b;apply Ya b 21 (R3++[rz,rA [(2,aG (Zao.c M))]]) [false,true,true] (l9 O4 e (Zbu _ _ o))
   .obtain⟨O,p,b⟩:=Zad b;apply Ya b 21 (R3++[rA [(2,aG (Zao.c O))]]) [false,true,false] (l9 O4 e (Zbu _ _ p))
  .obtain⟨f,b⟩|⟨f,b⟩:=Zae b
   .obtain⟨R,t,b⟩:=Zad b;apply Yb b 17 [rz,rz,rz,rz,rz,rA [(8,aI R)]] [false,false,true] [] [(7,[(7,cL 10 Zaa.c Zaa.d [])])] [] (lU g h f (ZeL _ _ _ _ t))
   .obtain⟨D,u,b⟩:=Zad b;apply Yb b 23 [rz,rz,rz,rz,rz,rA [(4,.r (.tup [(false,(cLs 5 Zac.c Zac.d) D.1),(false,lP D.2)]) [])],rz,rz] [false,false,false] [] [(7,[(7,cL 10 Zaa.c Zaa.d [])])] [] (lU g h f (Zps _ _ _ u))
def Zhp(b:Zai)(d:Int):Option Zab:=(Zbo d).bind fun e=>some (Zab.mk b 1 0 e)
theorem Zqz(d:Zai)(e:Int)(r:Zab)(b:Zhp d e=some r):Yo 71 [.agg (Zai.c d),Yj e] (.agg (Zab.c r)):=by
 refine Yu Tryz.func71 fun S0 w0=>?_;unfold Zhp at b;obtain⟨f,g,b⟩:=Zad b;apply Ya b 4 [rz,rA [(2,aI f)]] [] (lR (Zbc _ _ g))
def Zdy(e:List Zab):Nat->Int->Zab->Option ((List Zab)×Int)|0,_,_=>none|fu+1,b,f=>bif(decide (b<(e.length:Int)))then need (0<=b/\b<(e.length:Int))<|(Zcn ((e.getD b.toNat Zab.d).fEnd) f.fEnd).bind fun g=>bif(decide (g<=(0:Int)))then Zdy e fu (Zan b 1) f else need (0<=b/\b<=(e.length:Int))<|need ((([]:List Zab)++(e.take b.toNat)).length * 56<=140737488355328/\(([]:List Zab)++(e.take b.toNat)).length<=maxLen)<|need (((([]:List Zab)++(e.take b.toNat))++([f]:List Zab)).length * 56<=140737488355328/\((([]:List Zab)++(e.take b.toNat))++([f]:List Zab)).length<=maxLen)<|need ((((([]:List Zab)++(e.take b.toNat))++([f]:List Zab))++(e.drop b.toNat)).length * 56<=140737488355328/\(((([]:List Zab)++(e.take b.toNat))++([f]:List Zab))++(e.drop b.toNat)).length<=maxLen)<|some ((((([]:List Zab)++(e.take b.toNat))++([f]:List Zab))++(e.drop b.toNat)),(0:Int))else need (0<=b/\b<=(e.length:Int))<|need ((([]:List Zab)++(e.take b.toNat)).length * 56<=140737488355328/\(([]:List Zab)++(e.take b.toNat)).length<=maxLen)<|need (((([]:List Zab)++(e.take b.toNat))++([f]:List Zab)).length * 56<=140737488355328/\((([]:List Zab)++(e.take b.toNat))++([f]:List Zab)).length<=maxLen)<|need ((((([]:List Zab)++(e.take b.toNat))++([f]:List Zab))++(e.drop b.toNat)).length * 56<=140737488355328/\(((([]:List Zab)++(e.take b.toNat))++([f]:List Zab))++(e.drop b.toNat)).length<=maxLen)<|some ((((([]:List Zab)++(e.take b.toNat))++([f]:List Zab))++(e.drop b.toNat)),(0:Int))
theorem Zox(f:List Zab):∀(B:Nat)(b:Int)(g:Zab)(r:((List Zab)×Int)),Zdy f B b g=some r->Yq 52 S0 w0 Tryz.f70 (.tup [(false,(cLs 7 Zab.c Zab.d) r.1),(false,lP r.2)]) [1,1,1,1,1,0,0] ⟨[(0,(Yn f)),(4,.one (.ptr 4 0)),(8,(Yj b))],[(4,.box (Zab.c g))]⟩:=by
 intro B;induction B with
 |zero=>
  intro b g r h;simp[Zdy]at h
 |succ B E=>
  intro b g r h;unfold Zdy at h;obtain⟨C,h⟩|⟨C,h⟩:=Zae h
  .obtain⟨F,h⟩:=Zap h;obtain⟨G,H,h⟩:=Zad h
   let R1:List RA:=[⟨[(12,aI G)],[(4,true)],[],[],[],[],[]⟩]
   have O2:=(lT C F (Zeh _ _ _ H));obtain⟨D,h⟩|⟨D,h⟩:=Zae h
   .exact Ye 10 (R1++[rz]) [true] (lI [0,4,8] [4]) (l8 O2 D) (E (Zan b 1) g r h)
   .obtain⟨o,t,h⟩:=Ys h;obtain⟨u,v,h⟩:=Ys h;apply Yb h 10 (R1++[⟨[(0,.c ([]:List Zab).length (Zal Zab.c Zab.d ([]:List Zab))),(4,.c ((([]:List Zab)++(f.take b.toNat)).length) (Zal Zab.c Zab.d (([]:List Zab)++(f.take b.toNat)))),(7,.c (((([]:List Zab)++(f.take b.toNat))++([g]:List Zab)).length) (Zal Zab.c Zab.d ((([]:List Zab)++(f.take b.toNat))++([g]:List Zab))))],[],[],[],[],[(3,((f.take b.toNat).length,Zal Zab.c Zab.d (f.take b.toNat))),(6,(([g]:List Zab).length,Zal Zab.c Zab.d ([g]:List Zab)))],[]⟩,⟨[(4,.c ((((([]:List Zab)++(f.take b.toNat))++([g]:List Zab))++(f.drop b.toNat)).length) (Zal Zab.c Zab.d (((([]:List Zab)++(f.take b.toNat))++([g]:List Zab))++(f.drop b.toNat))))],[],[],[],[],[(3,((f.drop b.toNat).length,Zal Zab.c Zab.d (f.drop b.toNat)))],[]⟩]) [false] [51] [] [] (O2.app (.c D (.c (show ([]:List Zab).length=0 from rfl) (.c (mq (e:=Zab.c) Zab.d 7 (fun _=>rfl) ([]:List Zab)) (.c (show (f.take b.toNat).length=b.toNat/\∀i j,i<b.toNat->j<7->Zal Zab.c Zab.d (f.take b.toNat) i j=Zal Zab.c Zab.d f i j from(Zkb _ _ o)) (.c o (.c (ZcO (sz:=7) (e:=Zab.c) (d:=Zab.d) ([]:List Zab) (f.take b.toNat)) (.c t.1 (l5 t.2 (ml (e:=Zab.c) Zab.d 7 (fun _=>rfl) ([g]:List Zab)) (ZcO (sz:=7) (e:=Zab.c) (d:=Zab.d) (([]:List Zab)++(f.take b.toNat)) ([g]:List Zab)) u.1 u.2 (show (f.drop b.toNat).length=f.length-b.toNat/\∀i j,i<f.length-b.toNat->j<7->Zal Zab.c Zab.d (f.drop b.toNat) i j=Zal Zab.c Zab.d f (b.toNat+i) j from(Zkc _ _)) o (ZcO (sz:=7) (e:=Zab.c) (d:=Zab.d) ((([]:List Zab)++(f.take b.toNat))++([g]:List Zab)) (f.drop b.toNat)) v.1 v.2)))))))))
  .obtain⟨p,y,h⟩:=Ys h;obtain⟨z,A,h⟩:=Ys h;apply Yb h 10 [rB [(4,false)],⟨[(0,.c ([]:List Zab).length (Zal Zab.c Zab.d ([]:List Zab))),(4,.c ((([]:List Zab)++(f.take b.toNat)).length) (Zal Zab.c Zab.d (([]:List Zab)++(f.take b.toNat)))),(7,.c (((([]:List Zab)++(f.take b.toNat))++([g]:List Zab)).length) (Zal Zab.c Zab.d ((([]:List Zab)++(f.take b.toNat))++([g]:List Zab))))],[],[],[],[],[(3,((f.take b.toNat).length,Zal Zab.c Zab.d (f.take b.toNat))),(6,(([g]:List Zab).length,Zal Zab.c Zab.d ([g]:List Zab)))],[]⟩,⟨[(4,.c ((((([]:List Zab)++(f.take b.toNat))++([g]:List Zab))++(f.drop b.toNat)).length) (Zal Zab.c Zab.d (((([]:List Zab)++(f.take b.toNat))++([g]:List Zab))++(f.drop b.toNat))))],[],[],[],[],[(3,((f.drop b.toNat).length,Zal Zab.c Zab.d (f.drop b.toNat)))],[]⟩] [false] [51] [] [] (.c C (.c (mo false) (.c (show ([]:List Zab).length=0 from rfl) (.c (mq (e:=Zab.c) Zab.d 7 (fun _=>rfl) ([]:List Zab)) (.c (show (f.take b.toNat).length=b.toNat/\∀i j,i<b.toNat->j<7->Zal Zab.c Zab.d (f.take b.toNat) i j=Zal Zab.c Zab.d f i j from(Zkb _ _ p)) (.c p (.c (ZcO (sz:=7) (e:=Zab.c) (d:=Zab.d) ([]:List Zab) (f.take b.toNat)) (.c y.1 (l5 y.2 (ml (e:=Zab.c) Zab.d 7 (fun _=>rfl) ([g]:List Zab)) (ZcO (sz:=7) (e:=Zab.c) (d:=Zab.d) (([]:List Zab)++(f.take b.toNat)) ([g]:List Zab)) z.1 z.2 (show (f.drop b.toNat).length=f.length-b.toNat/\∀i j,i<f.length-b.toNat->j<7->Zal Zab.c Zab.d (f.drop b.toNat) i j=Zal Zab.c Zab.d f (b.toNat+i) j from(Zkc _ _)) p (ZcO (sz:=7) (e:=Zab.c) (d:=Zab.d) ((([]:List Zab)++(f.take b.toNat))++([g]:List Zab)) (f.drop b.toNat)) A.1 A.2)))))))))
def Zho(b:List Zab)(d:Zab)(e:Int):Option ((List Zab)×Int):=(ZdR d).bind fun f=>bif(!f)then some (([]:(List Zab)),(1:Int))else(Zdx b d.fEnd).bind fun g=>bif(decide (g>=(0:Int)))then some (([]:(List Zab)),(7:Int))else bif(decide ((b.length:Int)>=e))then some (([]:(List Zab)),(5:Int))else Zdy b (((b.length:Int)-(0:Int)).toNat+2) (0:Int) d
theorem Zqy(e:List Zab)(g:Zab)(o:Int)(r:((List Zab)×Int))(b:Zho e g o=some r):Yo 70 [Yn e,.agg (Zab.c g),Yj o] (.tup [(false,(cLs 7 Zab.c Zab.d) r.1),(false,lP r.2)]):=by
 refine Yu Tryz.func70 fun S0 w0=>?_;unfold Zho at b;obtain⟨h,p,b⟩:=Zad b;obtain⟨i,b⟩|⟨i,b⟩:=Zae b
 .apply Yb b 8 [rz,rA [(1,aB h)],rz] [true] [] [] [(6,[(0,cL 7 Zab.c Zab.d [])])] (lS (ZeJ _ _ p) i)
 .obtain⟨t,u,b⟩:=Zad b;have O3:=(lT (ZeJ _ _ p) i (Zea _ _ _ u));obtain⟨f,b⟩|⟨f,b⟩:=Zae b
  .apply Yb b 13 [rz,rA [(1,aB h)],rA [(3,aI t)],rz] [false,true] [] [] [(6,[(0,cL 7 Zab.c Zab.d [])])] (l8 O3 f)
  .let R4:List RA:=[rz,rA [(1,aB h)],rA [(3,aI t)],rz,rz]
   obtain⟨j,b⟩|⟨j,b⟩:=Zae b
   .apply Yb b 18 R4 [false,false,true] [] [] [(6,[(0,cL 7 Zab.c Zab.d [])])] (l9 O3 f j)
   .exact Ye 21 R4 [false,false,false] (lI [0,4,8] [4]) (l9 O3 f j) (Zox S0 w0 e (((e.length:Int)-(0:Int)).toNat+2) (0:Int) g r b)
def Zfz(b:Zaa)(d:Int):Option Zaa:=bif(decide (d<(1:Int)))then some b else bif(decide (d>(1048576:Int)))then some b else bif(b.fPing != (0:Int))then bif(decide (b.fPing<=d))then some b else some (Zaa.mk b.fEnd b.fIn b.fSince b.fScore d b.fWork)else some (Zaa.mk b.fEnd b.fIn b.fSince b.fScore d b.fWork)
theorem ZpV(h:Zaa)(i:Int)(r:Zaa)(b:Zfz h i=some r):Yo 151 [.agg (Zaa.c h),Yj i] (.agg (Zaa.c r)):=by
 refine Yu Tryz.func151 fun S0 w0=>?_;unfold Zfz at b;obtain⟨d,b⟩|⟨d,b⟩:=Zae b
 .apply Ya b 8 [rz,rB [(2,true)],rz] [true] (lS d (mo true))
 .obtain⟨e,b⟩|⟨e,b⟩:=Zae b
  .apply Ya b 8 [rz,rB [(2,false),(6,true)],rz] [true] (lT d e (mo true))
  .obtain⟨f,b⟩|⟨f,b⟩:=Zae b
   .let R1:List RA:=[rz,rB [(2,false),(6,false),(10,true)],rz]
    obtain⟨g,b⟩|⟨g,b⟩:=Zae b
    .apply Ya b 8 R1 [true] (lU d e f g)
    .apply Ya b 11 (R1++[rz]) [false] (lU d e f g)
   .apply Ya b 11 [rz,rB [(2,false),(6,false),(10,false)],rz,rz] [false] (lU d e f (mo false))
def Zev(b:Zaa)(e:Int):Option Zaa:=(Zbo e).bind fun d=>bif(decide (d>b.fWork))then some (Zaa.mk b.fEnd b.fIn b.fSince b.fScore b.fPing d)else some b
theorem ZoC(e:Zaa)(f:Int)(r:Zaa)(b:Zev e f=some r):Yo 152 [.agg (Zaa.c e),Yj f] (.agg (Zaa.c r)):=by
 refine Yu Tryz.func152 fun S0 w0=>?_;unfold Zev at b;obtain⟨g,h,b⟩:=Zad b;obtain⟨d,b⟩|⟨d,b⟩:=Zae b
 .apply Ya b 11 [rz,rA [(1,aI g)],rz,rz,rz] [true] (lS (Zbc _ _ h) d)
 .apply Ya b 11 [rz,rA [(1,aI g)],rz,rz] [false] (lS (Zbc _ _ h) d)
def Zgg(r:Zav)(b:Zam)(e:Zar):Option (Zam×Zao):=(Zbi b.fPeers e.fEnd).bind fun f=>bif(decide (f<(0:Int)))then(Zbz (6:Int)).bind fun h=>some (b,h)else bif(e.fKind==(2:Int))then(Zfw b.fPeers e.fEnd).bind fun i=>(Zeo b.fBook ([e.fEnd]:List Zai)).bind fun j=>some ((Zam.mk b.fBans j i.1),(Zao.mk 0 (Zai.mk (Zaf.mk false 0 0) 0) 0 0 ([]:(List Zaa))))else bif(e.fKind==(11:Int))then need (0<=f/\f<(b.fPeers.length:Int))<|(Zfz (b.fPeers.getD f.toNat Zaa.d) e.fNum).bind fun g=>(ZeI b.fPeers g).bind fun n=>some ((Zam.mk b.fBans b.fBook n),(Zao.mk 0 (Zai.mk (Zaf.mk false 0 0) 0) g.fPing 0 ([]:(List Zaa))))else need (0<=f/\f<(b.fPeers.length:Int))<|(Zev (b.fPeers.getD f.toNat Zaa.d) e.fNow).bind fun o=>(ZeI b.fPeers o).bind fun p=>some ((Zam.mk b.fBans b.fBook p),(Zao.mk 0 (Zai.mk (Zaf.mk false 0 0) 0) 0 0 ([]:(List Zaa))))
theorem Zpf(z:Zav)(A:Zam)(f:Zar)(r:(Zam×Zao))(b:Zgg z A f=some r):Yo 72 [.agg (Zav.c z),.agg (Zam.c A),.agg (Zar.c f)] (.tup [(true,Zam.c r.1),(true,Zao.c r.2)]):=by
 refine Yu Tryz.func72 fun S0 w0=>?_;unfold Zgg at b;obtain⟨g,B,b⟩:=Zad b;obtain⟨o,b⟩|⟨o,b⟩:=Zae b
 .obtain⟨D,E,b⟩:=Zad b;apply Ya b 10 [rz,rA [(4,aI g)],rz,rA [(1,aG (Zao.c D))]] [true] (lT (ZaW _ _ _ B) o (Zbu _ _ E))
 .have O1:=(lS (ZaW _ _ _ B) o);obtain⟨h,b⟩|⟨h,b⟩:=Zae b
  .obtain⟨C,F,G,H,b⟩:=Yt b;apply Yb b 24 [rz,rA [(4,aI g)],rz,rz,rz,rA [(4,.r (.tup [(false,(cLs 10 Zaa.c Zaa.d) C.1),(false,lP C.2)]) [])],rz,⟨[(5,.r (Yn F) [])],[],[],[],[],[(4,(([f.fEnd]:List Zai).length,Zal Zai.c Zai.d ([f.fEnd]:List Zai)))],[]⟩,rz] [false,true] [] [(7,[(7,cL 10 Zaa.c Zaa.d [])])] [] (mc O1 h (Zla _ _ _ G) (ml (e:=Zai.c) Zai.d 4 (fun _=>rfl) ([f.fEnd]:List Zai)) (Zlb _ _ _ H))
  .obtain⟨p,b⟩|⟨p,b⟩:=Zae b
   .obtain⟨I,b⟩:=Zap b;obtain⟨J,L,M,t,b⟩:=Yt b;apply Yb b 25 [rz,rA [(4,aI g)],rz,rz,rz,rz,rA [(7,aG (Zaa.c J))],rA [(3,.r (Ym L) [])],rz] [false,false,true] [] [(7,[(7,cL 10 Zaa.c Zaa.d [])])] [] (md O1 h p I (ZpV _ _ _ M) (Zjc _ _ _ t))
   .obtain⟨u,b⟩:=Zap b;obtain⟨O,R,v,y,b⟩:=Yt b;apply Yb b 25 [rz,rA [(4,aI g)],rz,rz,rz,rz,rA [(9,aG (Zaa.c O)),(10,.r (Ym R) [])],rz] [false,false,false] [] [(7,[(7,cL 10 Zaa.c Zaa.d [])])] [] (md O1 h p u (ZoC _ _ _ v) (Zjc _ _ _ y))
def Zdh(d:Int)(h:Bool)(i:Zav)(b:Zam)(f:Zar)(r:Zam)(t:Zao):Option (Zam×Zao):=bif h then(ZgJ i b f).bind fun o=>some (o.1,o.2)else bif(d==(10:Int))then some (b,(Zao.mk 0 (Zai.mk (Zaf.mk false 0 0) 0) (b.fBans.length:Int) (b.fBook.length:Int) b.fPeers))else bif(d==(13:Int))then(Zhp f.fEnd f.fNow).bind fun p=>(Zho b.fBook p i.fMaxBook).bind fun g=>bif(g.2==(0:Int))then(Zbz g.2).bind fun j=>some ((Zam.mk b.fBans g.1 b.fPeers),j)else(Zbz g.2).bind fun n=>some (b,n)else(Zgg i b f).bind fun e=>some (e.1,e.2)
theorem Zgs(p:Int)(t:Bool)(e:Zav)(v:Zam)(f:Zar)(y:Zam)(h:Zao)(r:(Zam×Zao))(b:Zdh p t e v f y h=some r):Yq 100 S0 w0 Tryz.f20 (.tup [(true,Zam.c r.1),(true,Zao.c r.2)]) [1,1,0,1,0,1,1,1,1,1,1,1,1,1] ⟨[(3,.one (.ptr 3 0)),(4,.one (.ptr 4 0)),(5,.one (.ptr 5 0)),(6,.one (.ptr 6 0)),(7,.one (.ptr 7 0)),(16,(Yj p)),(49,(Yk t))],[(3,.box (Zav.c e)),(4,.box (Zam.c v)),(5,.box (Zar.c f)),(6,.box (Zam.c y)),(7,.box (Zao.c h))]⟩:=by
 unfold Zdh at b;obtain⟨g,b⟩|⟨g,b⟩:=Zae b
 .obtain⟨H,z,b⟩:=Zad b;apply Ya b 3 [rA [(3,.r (.tup [(true,Zam.c H.1),(true,Zao.c H.2)]) [])]] [true] (lS g (ZpN _ _ _ _ z))
 .obtain⟨i,b⟩|⟨i,b⟩:=Zae b
  .apply Ya b 6 [rz,rz] [false,true] (lS g i)
  .obtain⟨j,b⟩|⟨j,b⟩:=Zae b
   .obtain⟨J,A,b⟩:=Zad b;obtain⟨I,B,b⟩:=Zad b
    let R1:List RA:=[rz,rz,rA [(6,aG (Zab.c J)),(9,.r (.tup [(false,(cLs 7 Zab.c Zab.d) I.1),(false,lP I.2)]) [])],rz]
    have O2:=(lV g i j (Zqz _ _ _ A) (Zqy _ _ _ _ B));obtain⟨o,b⟩|⟨o,b⟩:=Zae b
    .obtain⟨C,D,b⟩:=Zad b;apply Ya b 16 (R1++[rz,rA [(2,aG (Zao.c C))]]) [false,false,true,true] (l9 O2 o (Zbu _ _ D))
    .obtain⟨E,F,b⟩:=Zad b;apply Ya b 16 (R1++[rA [(2,aG (Zao.c E))]]) [false,false,true,false] (l9 O2 o (Zbu _ _ F))
   .obtain⟨u,G,b⟩:=Zad b;apply Ya b 11 [rz,rz,rA [(3,.r (.tup [(true,Zam.c u.1),(true,Zao.c u.2)]) [])]] [false,false,false] (lU g i j (Zpf _ _ _ _ G))
def ZhP(e:Zav)(d:Zam)(b:Zar):Option (Zam×Zao):=(Zgj b).bind fun j=>bif(!j)then(Zbz (1:Int)).bind fun n=>some (d,n)else bif(b.fKind==(1:Int))then(ZfM e d b).bind fun f=>some (f.1,f.2)else bif(b.fKind==(3:Int))then(ZgI e d b).bind fun g=>some (g.1,g.2)else bif(b.fKind==(4:Int))then(ZfL e d b).bind fun h=>some (h.1,h.2)else bif(b.fKind==(5:Int))then(Zgh e d b).bind fun i=>some (i.1,i.2)else bif(b.fKind==(6:Int))then Zdh b.fKind (b.fKind==(6:Int)) e d b (Zam.mk ([]:(List Zac)) ([]:(List Zab)) ([]:(List Zaa))) (Zao.mk 0 (Zai.mk (Zaf.mk false 0 0) 0) 0 0 ([]:(List Zaa)))else bif(b.fKind==(7:Int))then Zdh b.fKind (b.fKind==(7:Int)) e d b (Zam.mk ([]:(List Zac)) ([]:(List Zab)) ([]:(List Zaa))) (Zao.mk 0 (Zai.mk (Zaf.mk false 0 0) 0) 0 0 ([]:(List Zaa)))else bif(b.fKind==(8:Int))then Zdh b.fKind (b.fKind==(8:Int)) e d b (Zam.mk ([]:(List Zac)) ([]:(List Zab)) ([]:(List Zaa))) (Zao.mk 0 (Zai.mk (Zaf.mk false 0 0) 0) 0 0 ([]:(List Zaa)))else Zdh b.fKind (b.fKind==(9:Int)) e d b (Zam.mk ([]:(List Zac)) ([]:(List Zab)) ([]:(List Zaa))) (Zao.mk 0 (Zai.mk (Zaf.mk false 0 0) 0) 0 0 ([]:(List Zaa)))
theorem Zrn(t:Zav)(u:Zam)(e:Zar)(r:(Zam×Zao))(b:ZhP t u e=some r):Yo 20 [.agg (Zav.c t),.agg (Zam.c u),.agg (Zar.c e)] (.tup [(true,Zam.c r.1),(true,Zao.c r.2)]):=by
 refine Yu Tryz.func20 fun S0 w0=>?_;unfold ZhP at b;obtain⟨i,A,b⟩:=Zad b;obtain⟨y,b⟩|⟨y,b⟩:=Zae b
 .obtain⟨F,G,b⟩:=Zad b;apply Ya b 8 [rz,rA [(1,aB i)],rA [(1,aG (Zao.c F))]] [true] (lT (ZkG _ _ A) y (Zbu _ _ G))
 .have O3:=(lS (ZkG _ _ A) y);obtain⟨h,b⟩|⟨h,b⟩:=Zae b
  .obtain⟨B,H,b⟩:=Zad b;apply Ya b 16 [rz,rA [(1,aB i)],rz,rz,rA [(3,.r (.tup [(true,Zam.c B.1),(true,Zao.c B.2)]) [])]] [false,true] (l9 O3 h (Zou _ _ _ _ H))
  .obtain⟨j,b⟩|⟨j,b⟩:=Zae b
   .obtain⟨C,I,b⟩:=Zad b;apply Ya b 19 [rz,rA [(1,aB i)],rz,rz,rz,rA [(3,.r (.tup [(true,Zam.c C.1),(true,Zao.c C.2)]) [])]] [false,false,true] (ma O3 h j (ZpM _ _ _ _ I))
   .obtain⟨v,b⟩|⟨v,b⟩:=Zae b
    .obtain⟨D,J,b⟩:=Zad b;apply Ya b 22 [rz,rA [(1,aB i)],rz,rz,rz,rz,rA [(3,.r (.tup [(true,Zam.c D.1),(true,Zao.c D.2)]) [])]] [false,false,false,true] (mc O3 h j v (Zot _ _ _ _ J))
    .obtain⟨f,b⟩|⟨f,b⟩:=Zae b
     .obtain⟨E,z,b⟩:=Zad b;apply Ya b 25 [rz,rA [(1,aB i)],rz,rz,rz,rz,rz,rA [(3,.r (.tup [(true,Zam.c E.1),(true,Zao.c E.2)]) [])]] [false,false,false,false,true] (md O3 h j v f (Zph _ _ _ _ z))
     .obtain⟨g,b⟩|⟨g,b⟩:=Zae b
      .exact Ye 28 [rz,rA [(1,aB i)],rz,rz,rz,rz,rz,rz] [false,false,false,false,false,true] (lJ [(6,[(0,cL 5 Zac.c Zac.d []),(1,cL 7 Zab.c Zab.d []),(2,cL 10 Zaa.c Zaa.d [])]),(7,[(7,cL 10 Zaa.c Zaa.d [])])] [3,4,5,6,7,16,49] [3,4,5,6,7]) (md O3 h j v f g) (Zgs S0 w0 e.fKind (e.fKind==(6:Int)) t u e Zam.d Zao.d r b)
      .let R4:List RA:=[rz,rA [(1,aB i)],rz,rz,rz,rz,rz,rz,rz]
       obtain⟨o,b⟩|⟨o,b⟩:=Zae b
       .exact Ye 31 R4 [false,false,false,false,false,false,true] (lJ [(6,[(0,cL 5 Zac.c Zac.d []),(1,cL 7 Zab.c Zab.d []),(2,cL 10 Zaa.c Zaa.d [])]),(7,[(7,cL 10 Zaa.c Zaa.d [])])] [3,4,5,6,7,16,49] [3,4,5,6,7]) (me O3 h j v f g o) (Zgs S0 w0 e.fKind (e.fKind==(7:Int)) t u e Zam.d Zao.d r b)
       .have O5:=(me O3 h j v f g o);obtain⟨p,b⟩|⟨p,b⟩:=Zae b
        .exact Ye 34 (R4++[rz]) [false,false,false,false,false,false,false,true] (lJ [(6,[(0,cL 5 Zac.c Zac.d []),(1,cL 7 Zab.c Zab.d []),(2,cL 10 Zaa.c Zaa.d [])]),(7,[(7,cL 10 Zaa.c Zaa.d [])])] [3,4,5,6,7,16,49] [3,4,5,6,7]) (l8 O5 p) (Zgs S0 w0 e.fKind (e.fKind==(8:Int)) t u e Zam.d Zao.d r b)
        .exact Ye 34 (R4++[rz,rz]) [false,false,false,false,false,false,false,false] (lJ [(6,[(0,cL 5 Zac.c Zac.d []),(1,cL 7 Zab.c Zab.d []),(2,cL 10 Zaa.c Zaa.d [])]),(7,[(7,cL 10 Zaa.c Zaa.d [])])] [3,4,5,6,7,16,49] [3,4,5,6,7]) (l8 O5 p) (Zgs S0 w0 e.fKind (e.fKind==(9:Int)) t u e Zam.d Zao.d r b)
def Zcq(e:List Zar):Nat->Int->Zav->Zam->Zam->Option Zam|0,_,_,_,_=>none|fu+1,b,f,h,g=>bif(decide (b<(e.length:Int)))then need (0<=b/\b<(e.length:Int))<|(ZhP f g (e.getD b.toNat Zar.d)).bind fun i=>Zcq e fu (Zan b 1) f h i.1 else some g
theorem ZmP(p:List Zar):∀(i:Nat)(h:Int)(b:Zav)(f g r:Zam),Zcq p i h b f g=some r->Yq 28 S0 w0 Tryz.f36 (.agg (Zam.c r)) [1,1,0,1,0] ⟨[(1,.one (cL 12 Zar.c Zar.d p)),(2,.one (.ptr 2 0)),(4,.one (.ptr 4 0)),(5,.one (.ptr 5 0)),(6,(Yj h))],[(2,.box (Zav.c b)),(4,.box (Zam.c f)),(5,.box (Zam.c g))]⟩:=by
 intro i;induction i with
 |zero=>
  intro h b f g r e;simp[Zcq]at e
 |succ i t=>
  intro h b f g r e;unfold Zcq at e;obtain⟨j,e⟩|⟨j,e⟩:=Zae e
  .obtain⟨u,e⟩:=Zap e;obtain⟨o,v,e⟩:=Zad e;exact Ye 14 [rz,rA [(6,.r (.tup [(true,Zam.c o.1),(true,Zao.c o.2)]) [])],rz,rz] [true] (lI [1,2,4,5,6] [2,4,5]) (lT j u (Zrn _ _ _ _ v)) (t (Zan h 1) b f o.1 r e)
  .apply Ya e 8 [rz,rz] [false] (lR j)
def ZfR(d:Zav)(b:List Zar):Option Zam:=Zcq b (((b.length:Int)-(0:Int)).toNat+2) (0:Int) d (Zam.mk ([]:(List Zac)) ([]:(List Zab)) ([]:(List Zaa))) (Zam.mk ([]:(List Zac)) ([]:(List Zab)) ([]:(List Zaa)))
theorem ZoH(e:Zav)(b:List Zar)(r:Zam)(f:ZfR e b=some r):Yo 36 [.agg (Zav.c e),.one (cL 12 Zar.c Zar.d b)] (.agg (Zam.c r)):=by
 refine Yu Tryz.func36 fun S0 w0=>?_;unfold ZfR at f;exact Ye 8 [rz,rz,rz] [] (lJ [(4,[(0,cL 5 Zac.c Zac.d []),(1,cL 7 Zab.c Zab.d []),(2,cL 10 Zaa.c Zaa.d [])]),(5,[(0,cL 5 Zac.c Zac.d []),(1,cL 7 Zab.c Zab.d []),(2,cL 10 Zaa.c Zaa.d [])])] [1,2,4,5,6] [2,4,5]) .n (ZmP S0 w0 b (((b.length:Int)-(0:Int)).toNat+2) (0:Int) e Zam.d Zam.d r f)
def ZcU(e f:List Zac):Nat->Int->Option Bool|0,_=>none|fu+1,b=>bif(decide (b<(e.length:Int)))then bif(decide (b<(f.length:Int)))then need (0<=b/\b<(e.length:Int))<|need (0<=b/\b<(f.length:Int))<|bif(!(decide ((e.getD b.toNat Zac.d)=(f.getD b.toNat Zac.d))))then some false else ZcU e f fu (Zan b 1)else some true else some true
theorem Zos(f g:List Zac):∀(h:Nat)(e:Int)(r:Bool),ZcU f g h e=some r->Yq 32 S0 w0 Tryz.f74 (Yk r) [1,1,0,1,0] ⟨[(0,(Yl f)),(1,(Yl g)),(5,(Yj e))],[]⟩:=by
 intro h;induction h with
 |zero=>
  intro e r b;simp[ZcU]at b
 |succ h p=>
  intro e r b;unfold ZcU at b;obtain⟨i,b⟩|⟨i,b⟩:=Zae b
  .obtain⟨j,b⟩|⟨j,b⟩:=Zae b
   .obtain⟨t,b⟩:=Zap b;obtain⟨u,b⟩:=Zap b
    let R1:List RA:=[rB [(4,true)],rA [(8,aB (!(decide ((f.getD e.toNat Zac.d)=(g.getD e.toNat Zac.d)))))],rz]
    have O2:=(lV i j t u (Zyn (f.getD e.toNat Zac.d) (g.getD e.toNat Zac.d) (.tmp 26) (.tmp 30)));obtain⟨o,b⟩|⟨o,b⟩:=Zae b
    .apply Ya b 13 R1 [true,true] (l8 O2 o)
    .exact Ye 15 R1 [true,false] (Yi [0,1,5]) (l8 O2 o) (p (Zan e 1) r b)
   .apply Ya b 8 [rB [(4,true)],rz] [false] (lS i j)
  .apply Ya b 8 [rB [(4,false)],rz] [false] (lS i (mo false))
def Zhl(d b:List Zac):Option Bool:=bif((d.length:Int) != (b.length:Int))then some false else ZcU d b (((b.length:Int)-(0:Int)).toNat+2) (0:Int)
theorem ZlL(e d:List Zac)(r:Bool)(b:Zhl e d=some r):Yo 74 [Yl e,Yl d] (Yk r):=by
 refine Yu Tryz.func74 fun S0 w0=>?_;unfold Zhl at b;obtain⟨f,b⟩|⟨f,b⟩:=Zae b
 .apply Ya b 8 [rz,rz,rz] [true] (lR f)
 .exact Ye 11 [rz,rz,rz] [false] (Yi [0,1,5]) (lR f) (Zos S0 w0 e d (((d.length:Int)-(0:Int)).toNat+2) (0:Int) r b)
def ZcT(e f:List Zab):Nat->Int->Option Bool|0,_=>none|fu+1,b=>bif(decide (b<(e.length:Int)))then bif(decide (b<(f.length:Int)))then need (0<=b/\b<(e.length:Int))<|need (0<=b/\b<(f.length:Int))<|bif(!(decide ((e.getD b.toNat Zab.d)=(f.getD b.toNat Zab.d))))then some false else ZcT e f fu (Zan b 1)else some true else some true
theorem Zor(f g:List Zab):∀(h:Nat)(e:Int)(r:Bool),ZcT f g h e=some r->Yq 32 S0 w0 Tryz.f75 (Yk r) [1,1,0,1,0] ⟨[(0,(Yn f)),(1,(Yn g)),(5,(Yj e))],[]⟩:=by
 intro h;induction h with
 |zero=>
  intro e r b;simp[ZcT]at b
 |succ h p=>
  intro e r b;unfold ZcT at b;obtain⟨i,b⟩|⟨i,b⟩:=Zae b
  .obtain⟨j,b⟩|⟨j,b⟩:=Zae b
   .obtain⟨t,b⟩:=Zap b;obtain⟨u,b⟩:=Zap b
    let R1:List RA:=[rB [(4,true)],rA [(8,aB (!(decide ((f.getD e.toNat Zab.d)=(g.getD e.toNat Zab.d)))))],rz]
    have O2:=(lV i j t u (Zvr (f.getD e.toNat Zab.d) (g.getD e.toNat Zab.d) (.tmp 26) (.tmp 30)));obtain⟨o,b⟩|⟨o,b⟩:=Zae b
    .apply Ya b 13 R1 [true,true] (l8 O2 o)
    .exact Ye 15 R1 [true,false] (Yi [0,1,5]) (l8 O2 o) (p (Zan e 1) r b)
   .apply Ya b 8 [rB [(4,true)],rz] [false] (lS i j)
  .apply Ya b 8 [rB [(4,false)],rz] [false] (lS i (mo false))
def Zhk(d b:List Zab):Option Bool:=bif((d.length:Int) != (b.length:Int))then some false else ZcT d b (((b.length:Int)-(0:Int)).toNat+2) (0:Int)
theorem Zqu(e d:List Zab)(r:Bool)(b:Zhk e d=some r):Yo 75 [Yn e,Yn d] (Yk r):=by
 refine Yu Tryz.func75 fun S0 w0=>?_;unfold Zhk at b;obtain⟨f,b⟩|⟨f,b⟩:=Zae b
 .apply Ya b 8 [rz,rz,rz] [true] (lR f)
 .exact Ye 11 [rz,rz,rz] [false] (Yi [0,1,5]) (lR f) (Zor S0 w0 e d (((d.length:Int)-(0:Int)).toNat+2) (0:Int) r b)
def ZcJ(e f:List Zaa):Nat->Int->Option Bool|0,_=>none|fu+1,b=>bif(decide (b<(e.length:Int)))then bif(decide (b<(f.length:Int)))then need (0<=b/\b<(e.length:Int))<|need (0<=b/\b<(f.length:Int))<|bif(!(decide ((e.getD b.toNat Zaa.d)=(f.getD b.toNat Zaa.d))))then some false else ZcJ e f fu (Zan b 1)else some true else some true
theorem ZnG(f g:List Zaa):∀(h:Nat)(e:Int)(r:Bool),ZcJ f g h e=some r->Yq 32 S0 w0 Tryz.f73 (Yk r) [1,1,0,1,0] ⟨[(0,(Ym f)),(1,(Ym g)),(5,(Yj e))],[]⟩:=by
 intro h;induction h with
 |zero=>
  intro e r b;simp[ZcJ]at b
 |succ h p=>
  intro e r b;unfold ZcJ at b;obtain⟨i,b⟩|⟨i,b⟩:=Zae b
  .obtain⟨j,b⟩|⟨j,b⟩:=Zae b
   .obtain⟨t,b⟩:=Zap b;obtain⟨u,b⟩:=Zap b
    let R1:List RA:=[rB [(4,true)],rA [(8,aB (!(decide ((f.getD e.toNat Zaa.d)=(g.getD e.toNat Zaa.d)))))],rz]
    have O2:=(lV i j t u (ZwD (f.getD e.toNat Zaa.d) (g.getD e.toNat Zaa.d) (.tmp 26) (.tmp 30)));obtain⟨o,b⟩|⟨o,b⟩:=Zae b
    .apply Ya b 13 R1 [true,true] (l8 O2 o)
    .exact Ye 15 R1 [true,false] (Yi [0,1,5]) (l8 O2 o) (p (Zan e 1) r b)
   .apply Ya b 8 [rB [(4,true)],rz] [false] (lS i j)
  .apply Ya b 8 [rB [(4,false)],rz] [false] (lS i (mo false))
def ZgG(d b:List Zaa):Option Bool:=bif((d.length:Int) != (b.length:Int))then some false else ZcJ d b (((b.length:Int)-(0:Int)).toNat+2) (0:Int)
theorem ZpK(e d:List Zaa)(r:Bool)(b:ZgG e d=some r):Yo 73 [Ym e,Ym d] (Yk r):=by
 refine Yu Tryz.func73 fun S0 w0=>?_;unfold ZgG at b;obtain⟨f,b⟩|⟨f,b⟩:=Zae b
 .apply Ya b 8 [rz,rz,rz] [true] (lR f)
 .exact Ye 11 [rz,rz,rz] [false] (Yi [0,1,5]) (lR f) (ZnG S0 w0 e d (((d.length:Int)-(0:Int)).toNat+2) (0:Int) r b)
def Zdu(b d:Zam):Option Bool:=(Zhl b.fBans d.fBans).bind fun e=>bif e then(Zhk b.fBook d.fBook).bind fun f=>bif f then(ZgG b.fPeers d.fPeers).bind fun g=>some g else some false else some false
theorem ZgW(g h:Zam)(r:Bool)(b:Zdu g h=some r):Yo 22 [.agg (Zam.c g),.agg (Zam.c h)] (Yk r):=by
 refine Yu Tryz.func22 fun S0 w0=>?_;unfold Zdu at b;obtain⟨d,i,b⟩:=Zad b;obtain⟨e,b⟩|⟨e,b⟩:=Zae b
 .obtain⟨j,o,b⟩:=Zad b;have O1:=(lT (ZlL _ _ _ i) e (Zqu _ _ _ o));obtain⟨f,b⟩|⟨f,b⟩:=Zae b
  .obtain⟨p,t,b⟩:=Zad b;apply Ya b 4 [rz,⟨[(4,aB d),(10,aB j),(17,aB p)],[(5,true),(12,true)],[],[],[],[],[]⟩] [] (l9 O1 f (ZpK _ _ _ t))
  .apply Ya b 4 [rz,⟨[(4,aB d),(10,aB j)],[(5,true),(12,false)],[],[],[],[],[]⟩] [] (l8 O1 f)
 .apply Ya b 4 [rz,⟨[(4,aB d)],[(5,false)],[],[],[],[],[]⟩] [] (lS (ZlL _ _ _ i) e)
def ZbW(e:List Zaa)(f g h:Int):Nat->Int->Int->Option Int|0,_,_=>none|fu+1,i,b=>bif(decide (b<(e.length:Int)))then need (0<=b/\b<(e.length:Int))<|(ZdB (e.getD b.toNat Zaa.d) g).bind fun j=>bif j then need (0<=f/\f<(e.length:Int))<|(ZeW (e.getD b.toNat Zaa.d) (e.getD f.toNat Zaa.d) g h).bind fun n=>bif n then ZbW e f g h fu (Zan i 1) (Zan b 1)else ZbW e f g h fu i (Zan b 1)else ZbW e f g h fu i (Zan b 1)else some i
theorem ZnS(o:List Zaa)(p t u:Int):∀(f:Nat)(e d r:Int),ZbW o p t u f e d=some r->Yq 47 S0 w0 Tryz.f100 (Yj r) [1,1,1,0,1,0] ⟨[(0,(Ym o)),(1,(Yj p)),(2,(Yj t)),(3,.one (.lit (.int .u64 u))),(9,(Yj e)),(10,(Yj d))],[]⟩:=by
 intro f;induction f with
 |zero=>
  intro e d r b;simp[ZbW]at b
 |succ f g=>
  intro e d r b;unfold ZbW at b;obtain⟨h,b⟩|⟨h,b⟩:=Zae b
  .obtain⟨v,b⟩:=Zap b;obtain⟨y,z,b⟩:=Zad b;have O1:=(lT h v (ZhQ _ _ _ z));obtain⟨i,b⟩|⟨i,b⟩:=Zae b
   .obtain⟨A,b⟩:=Zap b;obtain⟨B,C,b⟩:=Zad b
    let R2:List RA:=[rz,⟨[(5,aB y),(17,aB B)],[(6,true)],[],[],[],[],[]⟩,rz]
    have O3:=(mc O1 i v A (ZkK _ _ _ _ _ C));obtain⟨j,b⟩|⟨j,b⟩:=Zae b
    .exact Ye 15 (R2++[rz]) [true,true] (Yi [0,1,2,3,9,10]) (l8 O3 j) (g (Zan e 1) (Zan d 1) r b)
    .exact Ye 15 R2 [true,false] (Yi [0,1,2,3,9,10]) (l8 O3 j) (g e (Zan d 1) r b)
   .exact Ye 15 [rz,⟨[(5,aB y)],[(6,false)],[],[],[],[],[]⟩,rz] [true,false] (Yi [0,1,2,3,9,10]) (l9 O1 i (mo false)) (g e (Zan d 1) r b)
  .apply Ya b 8 [rz,rz] [false] (lR h)
def ZgM(b:List Zaa)(d e f:Int):Option Int:=bif(decide (d<(0:Int)))then some (-1:Int)else bif(decide (d>=(b.length:Int)))then some (-1:Int)else ZbW b d e f (((b.length:Int)-(0:Int)).toNat+2) (0:Int) (0:Int)
theorem ZpU(d:List Zaa)(f g h r:Int)(b:ZgM d f g h=some r):Yo 100 [Ym d,Yj f,Yj g,.one (.lit (.int .u64 h))] (Yj r):=by
 refine Yu Tryz.func100 fun S0 w0=>?_;unfold ZgM at b;obtain⟨e,b⟩|⟨e,b⟩:=Zae b
 .apply Ya b 8 [rz,rB [(2,true)],rz] [true] (lS e (mo true))
 .obtain⟨i,b⟩|⟨i,b⟩:=Zae b
  .apply Ya b 8 [rz,rB [(2,false)],rz] [true] (lS e i)
  .exact Ye 13 [rz,rB [(2,false)],rz,rz] [false] (Yi [0,1,2,3,9,10]) (lS e i) (ZnS S0 w0 d f g h (((d.length:Int)-(0:Int)).toNat+2) (0:Int) (0:Int) r b)
def ZbU(f:List Zaa)(b g:Int):Nat->Int->Zax->Option Bool|0,_,_=>none|fu+1,e,h=>bif(decide (e<=(4:Int)))then need (0<=b/\b<(f.length:Int))<|(ZdB (f.getD b.toNat Zaa.d) e).bind fun i=>bif i then(ZgM f b e g).bind fun j=>(ZbY h e).bind fun n=>bif(decide (j<n))then some true else ZbU f b g fu (Zan e 1) h else ZbU f b g fu (Zan e 1) h else some false
theorem ZmO(j:List Zaa)(o p:Int):∀(f:Nat)(e:Int)(d:Zax)(r:Bool),ZbU j o p f e d=some r->Yq 39 S0 w0 Tryz.f40 (Yk r) [1,1,0,1,0] ⟨[(0,(Ym j)),(1,(Yj o)),(3,.one (.lit (.int .u64 p))),(6,.one (.ptr 6 0)),(9,(Yj e))],[(6,.box (Zax.c d))]⟩:=by
 intro f;induction f with
 |zero=>
  intro e d r b;simp[ZbU]at b
 |succ f t=>
  intro e d r b;unfold ZbU at b;obtain⟨g,b⟩|⟨g,b⟩:=Zae b
  .obtain⟨v,b⟩:=Zap b;obtain⟨u,y,b⟩:=Zad b;have O1:=(lT g v (ZhQ _ _ _ y));obtain⟨h,b⟩|⟨h,b⟩:=Zae b
   .obtain⟨z,A,b⟩:=Zad b;obtain⟨B,C,b⟩:=Zad b
    let R2:List RA:=[rz,⟨[(5,aB u),(11,aI z),(14,aI B)],[(6,true)],[],[],[],[],[]⟩,rz]
    have O3:=(ma O1 h (ZpU _ _ _ _ _ A) (Zio _ _ _ C));obtain⟨i,b⟩|⟨i,b⟩:=Zae b
    .apply Ya b 13 R2 [true,true] (l8 O3 i)
    .exact Ye 15 R2 [true,false] (lI [0,1,3,6,9] [6]) (l8 O3 i) (t (Zan e 1) d r b)
   .exact Ye 15 [rz,⟨[(5,aB u)],[(6,false)],[],[],[],[],[]⟩,rz] [true,false] (lI [0,1,3,6,9] [6]) (l9 O1 h (mo false)) (t (Zan e 1) d r b)
  .apply Ya b 8 [rz,rz] [false] (lR g)
def ZfP(d:List Zaa)(b:Int)(e:Zax)(f:Int):Option Bool:=bif(decide (b<(0:Int)))then some false else bif(decide (b>=(d.length:Int)))then some false else ZbU d b f (((4:Int)-(1:Int)).toNat+2) (1:Int) e
theorem ZoB(e:List Zaa)(f:Int)(g:Zax)(h:Int)(r:Bool)(b:ZfP e f g h=some r):Yo 40 [Ym e,Yj f,.agg (Zax.c g),.one (.lit (.int .u64 h))] (Yk r):=by
 refine Yu Tryz.func40 fun S0 w0=>?_;unfold ZfP at b;obtain⟨d,b⟩|⟨d,b⟩:=Zae b
 .apply Ya b 8 [rz,rB [(2,true)],rz] [true] (lS d (mo true))
 .obtain⟨i,b⟩|⟨i,b⟩:=Zae b
  .apply Ya b 8 [rz,rB [(2,false)],rz] [true] (lS d i)
  .exact Ye 11 [rz,rB [(2,false)],rz] [false] (lI [0,1,3,6,9] [6]) (lS d i) (ZmO S0 w0 e f h (((4:Int)-(1:Int)).toNat+2) (1:Int) g r b)
def ZaE:Nat->(List Zaa)->Int->Zav->Zam->Zai->Option Bool|0,_,_,_,_,_=>none|fu+1,f,b,h,i,e=>bif(decide (b<(f.length:Int)))then need (0<=b/\b<(f.length:Int))<|(Zbi i.fPeers ((f.getD b.toNat Zaa.d).fEnd)).bind fun g=>(ZfP f b h.fQuota h.fSecret).bind fun j=>bif j then bif(!(decide (g>=(0:Int))))then some false else bif(!(decide ((f.getD b.toNat Zaa.d).fEnd=e)))then bif(!(decide (g>=(0:Int))))then some false else ZaE fu f (Zan b 1) h i e else ZaE fu f (Zan b 1) h i e else bif(!(decide ((f.getD b.toNat Zaa.d).fEnd=e)))then bif(!(decide (g>=(0:Int))))then some false else ZaE fu f (Zan b 1) h i e else ZaE fu f (Zan b 1) h i e else(ZdA i.fPeers).bind fun n=>bif((n.length:Int)==(f.length:Int))then(ZcM).bind fun o=>some o else some false
theorem ZbA:∀(E:Nat)(h:List Zaa)(f:Int)(g:Zav)(o:Zam)(e:Zai)(r:Bool),ZaE E h f g o e=some r->Yq 156 S0 w0 Tryz.f7 (Yk r) [1,1,1,1,1,1,1,1,0,1,0] ⟨[(3,.one (.ptr 3 0)),(8,(Ym h)),(9,.one (.ptr 9 0)),(11,.one (.ptr 11 0)),(13,(Yj f))],[(3,.box (Zav.c g)),(9,.box (Zam.c o)),(11,.box (Zai.c e))]⟩:=by
 intro E;induction E with
 |zero=>
  intro h f g o e r b;simp[ZaE]at b
 |succ E F=>
  intro h f g o e r b;unfold ZaE at b;obtain⟨v,b⟩|⟨v,b⟩:=Zae b
  .obtain⟨y,b⟩:=Zap b;obtain⟨i,j,G,H,b⟩:=Yt b;have O1:=(lU v y (ZaW _ _ _ G) (ZoB _ _ _ _ _ H));obtain⟨p,b⟩|⟨p,b⟩:=Zae b
   .obtain⟨z,b⟩|⟨z,b⟩:=Zae b
    .apply Ya b 15 [rz,rA [(7,aI i)],⟨[(6,aB j)],[(7,true),(11,true)],[],[],[],[],[]⟩,rz] [true,true] (ma O1 p z (mo true))
    .have O2:=(mc O1 p z y (Zmk ((h.getD f.toNat Zaa.d).fEnd) e (.tmp 138) (.tmp 139)));obtain⟨t,b⟩|⟨t,b⟩:=Zae b
     .let R3:List RA:=[rz,rA [(7,aI i)],⟨[(6,aB j),(18,aB (!(decide ((h.getD f.toNat Zaa.d).fEnd=e))))],[(7,true),(11,false),(19,true)],[],[],[],[],[]⟩,rz]
      obtain⟨A,b⟩|⟨A,b⟩:=Zae b
      .apply Ya b 15 R3 [true,true] (l9 O2 t A)
      .exact Ye 17 R3 [true,false] (lI [3,8,9,11,13] [3,9,11]) (l9 O2 t A) (F h (Zan f 1) g o e r b)
     .exact Ye 17 [rz,rA [(7,aI i)],⟨[(6,aB j),(18,aB (!(decide ((h.getD f.toNat Zaa.d).fEnd=e))))],[(7,true),(11,false),(19,false)],[],[],[],[],[]⟩,rz] [true,false] (lI [3,8,9,11,13] [3,9,11]) (l9 O2 t (mo false)) (F h (Zan f 1) g o e r b)
   .have O4:=(ma O1 p y (Zmk ((h.getD f.toNat Zaa.d).fEnd) e (.tmp 138) (.tmp 139)));obtain⟨u,b⟩|⟨u,b⟩:=Zae b
    .let R5:List RA:=[rz,rA [(7,aI i)],⟨[(6,aB j),(18,aB (!(decide ((h.getD f.toNat Zaa.d).fEnd=e))))],[(7,false),(19,true)],[],[],[],[],[]⟩,rz]
     obtain⟨B,b⟩|⟨B,b⟩:=Zae b
     .apply Ya b 15 R5 [true,true] (l9 O4 u B)
     .exact Ye 17 R5 [true,false] (lI [3,8,9,11,13] [3,9,11]) (l9 O4 u B) (F h (Zan f 1) g o e r b)
    .exact Ye 17 [rz,rA [(7,aI i)],⟨[(6,aB j),(18,aB (!(decide ((h.getD f.toNat Zaa.d).fEnd=e))))],[(7,false),(19,false)],[],[],[],[],[]⟩,rz] [true,false] (lI [3,8,9,11,13] [3,9,11]) (l9 O4 u (mo false)) (F h (Zan f 1) g o e r b)
  .obtain⟨D,I,b⟩:=Zad b;have O6:=(lS v (ZiM _ _ I));obtain⟨C,b⟩|⟨C,b⟩:=Zae b
   .obtain⟨J,L,b⟩:=Zad b;apply Ya b 8 [rz,⟨[(2,.r (Ym D) []),(8,aB J)],[(7,true)],[],[],[],[],[]⟩] [false] (l9 O6 C (ZdO _ L))
   .apply Ya b 8 [rz,⟨[(2,.r (Ym D) [])],[(7,false)],[],[],[],[],[]⟩] [false] (l8 O6 C)
def Zfi(g:Zav)(y:List Zar)(i:Zar):Option Bool:=bif(decide ((y.length:Int)>(40:Int)))then(ZcM).bind fun z=>some z else(Zgk g).bind fun A=>bif(!A)then(ZcM).bind fun B=>some B else bif(i.fKind != (1:Int))then(ZcM).bind fun C=>some C else(ZfR g y).bind fun h=>(ZdA h.fPeers).bind fun f=>(Zmx g h i).bind fun b=>bif(decide ((f.length:Int)<g.fMaxIn))then(ZcM).bind fun D=>some D else bif(b.2.fCode != (0:Int))then bif(b.2.fCode != (5:Int))then(ZcM).bind fun E=>some E else(Zef h.fPeers g.fQuota g.fSecret).bind fun d=>bif(!(d.2==(b.2.fCode==(0:Int))))then some false else bif d.2 then bif(!(decide (b.2.fEnd=d.1)))then some false else(Zbi b.1.fPeers d.1).bind fun j=>bif(decide (j>=(0:Int)))then some false else(Zbi b.1.fPeers i.fEnd).bind fun n=>bif(decide (n<(0:Int)))then some false else bif(!d.2)then(Zdu h b.1).bind fun o=>bif(!o)then some false else ZaE (((f.length:Int)-(0:Int)).toNat+2) f (0:Int) g b.1 d.1 else ZaE (((f.length:Int)-(0:Int)).toNat+2) f (0:Int) g b.1 d.1 else bif(!d.2)then(Zdu h b.1).bind fun p=>bif(!p)then some false else ZaE (((f.length:Int)-(0:Int)).toNat+2) f (0:Int) g b.1 d.1 else ZaE (((f.length:Int)-(0:Int)).toNat+2) f (0:Int) g b.1 d.1 else(Zef h.fPeers g.fQuota g.fSecret).bind fun e=>bif(!(e.2==(b.2.fCode==(0:Int))))then some false else bif e.2 then bif(!(decide (b.2.fEnd=e.1)))then some false else(Zbi b.1.fPeers e.1).bind fun r=>bif(decide (r>=(0:Int)))then some false else(Zbi b.1.fPeers i.fEnd).bind fun t=>bif(decide (t<(0:Int)))then some false else bif(!e.2)then(Zdu h b.1).bind fun u=>bif(!u)then some false else ZaE (((f.length:Int)-(0:Int)).toNat+2) f (0:Int) g b.1 e.1 else ZaE (((f.length:Int)-(0:Int)).toNat+2) f (0:Int) g b.1 e.1 else bif(!e.2)then(Zdu h b.1).bind fun v=>bif(!v)then some false else ZaE (((f.length:Int)-(0:Int)).toNat+2) f (0:Int) g b.1 e.1 else ZaE (((f.length:Int)-(0:Int)).toNat+2) f (0:Int) g b.1 e.1
theorem Zmd(p:Zav)(a1:List Zar)(a2:Zar)(r:Bool)(b:Zfi p a1 a2=some r):Yo 7 [.agg (Zav.c p),.one (cL 12 Zar.c Zar.d a1),.agg (Zar.c a2)] (Yk r):=by
 refine Yu Tryz.func7 fun S0 w0=>?_;unfold Zfi at b;obtain⟨h1,b⟩|⟨h1,b⟩:=Zae b
 .obtain⟨x1,q2,b⟩:=Zad b;apply Ya b 8 [rz,rB [(3,true)],rA [(0,aB x1)]] [true] (lT h1 (mo true) (ZdO _ q2))
 .obtain⟨x2,q3,b⟩:=Zad b;have O7:=(lS h1 (Zpk _ _ q3));obtain⟨Z,b⟩|⟨Z,b⟩:=Zae b
  .obtain⟨x3,q5,b⟩:=Zad b;apply Ya b 8 [rz,⟨[(5,aB x2)],[(3,false),(8,true)],[],[],[],[],[]⟩,rA [(0,aB x3)]] [true] (ma O7 Z (mo true) (ZdO _ q5))
  .let R8:List RA:=[rz,⟨[(5,aB x2)],[(3,false),(8,false)],[],[],[],[],[]⟩]
   obtain⟨h6,b⟩|⟨h6,b⟩:=Zae b
   .obtain⟨x4,q7,b⟩:=Zad b;apply Ya b 8 (R8++[rA [(0,aB x4)]]) [true] (ma O7 Z h6 (ZdO _ q7))
   .obtain⟨x5,h,q8,q9,b⟩:=Yt b;obtain⟨g,q10,b⟩:=Zad b
    let R9:List RA:=(R8++[rA [(2,aG (Zam.c x5))],rA [(2,.r (Ym h) [])],rA [(3,.r (.tup [(true,Zam.c g.1),(true,Zao.c g.2)]) [])]])
    have gD:=(md O7 Z h6 (ZoH _ _ _ q8) (ZiM _ _ q9) (ZsD _ _ _ _ q10));obtain⟨i,b⟩|⟨i,b⟩:=Zae b
    .obtain⟨x8,q12,b⟩:=Zad b;apply Ya b 19 (R9++[rB [(5,true)],rA [(0,aB x8)]]) [false,true] (ma gD i (mo true) (ZdO _ q12))
    .obtain⟨t,b⟩|⟨t,b⟩:=Zae b
     .obtain⟨C,b⟩|⟨C,b⟩:=Zae b
      .obtain⟨x9,q15,b⟩:=Zad b;apply Ya b 19 (R9++[rB [(5,false),(9,true)],rA [(0,aB x9)]]) [false,true] (mc gD i t C (ZdO _ q15))
      .obtain⟨e,q16,b⟩:=Zad b
       let d8:List RA:=(R9++[rB [(5,false),(9,true)],rA [(6,.r (.tup [(true,Zai.c e.1),(false,cB e.2)]) [])]])
       have d9:=(mc gD i t C (Zln _ _ _ _ q16));obtain⟨j,b⟩|⟨j,b⟩:=Zae b
       .apply Ya b 26 (d8++[rB [(5,true)],rz]) [false,false,true] (l9 d9 j (mo true))
       .obtain⟨u,b⟩|⟨u,b⟩:=Zae b
        .have f4:=(ma d9 j u (Zmk g.2.fEnd e.1 (.tmp 77) (.tmp 78)));obtain⟨D,b⟩|⟨D,b⟩:=Zae b
         .apply Ya b 26 (d8++[⟨[(11,aB (!(decide (g.2.fEnd=e.1))))],[(5,false),(7,true),(12,true)],[],[],[],[],[]⟩,rz]) [false,false,true] (l9 f4 D (mo true))
         .obtain⟨v,q20,b⟩:=Zad b;have f5:=(l9 f4 D (ZaW _ _ _ q20));obtain⟨E,b⟩|⟨E,b⟩:=Zae b
          .apply Ya b 26 (d8++[⟨[(11,aB (!(decide (g.2.fEnd=e.1)))),(16,aI v)],[(5,false),(7,true),(12,false),(19,true)],[],[],[],[],[]⟩,rz]) [false,false,true] (l9 f5 E (mo true))
          .obtain⟨F,q22,b⟩:=Zad b;have fE:=(l9 f5 E (ZaW _ _ _ q22));obtain⟨y,b⟩|⟨y,b⟩:=Zae b
           .apply Ya b 26 (d8++[⟨[(11,aB (!(decide (g.2.fEnd=e.1)))),(16,aI v),(24,aI F)],[(5,false),(7,true),(12,false),(19,false),(29,true)],[],[],[],[],[]⟩,rz]) [false,false,true] (l9 fE y (mo true))
           .obtain⟨G,b⟩|⟨G,b⟩:=Zae b
            .obtain⟨x13,q25,b⟩:=Zad b
             let R16:List RA:=(d8++[⟨[(11,aB (!(decide (g.2.fEnd=e.1)))),(16,aI v),(24,aI F),(35,aB x13)],[(5,false),(7,true),(12,false),(19,false),(29,false),(32,true)],[],[],[],[],[]⟩,rz])
             have jk:=(ma fE y G (ZgW _ _ _ q25));obtain⟨H,b⟩|⟨H,b⟩:=Zae b
             .apply Ya b 26 R16 [false,false,true] (l8 jk H)
             .exact Ye 29 R16 [false,false,false] (lI [3,8,9,11,13] [3,9,11]) (l8 jk H) (ZbA S0 w0 (((h.length:Int)-(0:Int)).toNat+2) h (0:Int) p g.1 e.1 r b)
            .exact Ye 29 (d8++[⟨[(11,aB (!(decide (g.2.fEnd=e.1)))),(16,aI v),(24,aI F)],[(5,false),(7,true),(12,false),(19,false),(29,false),(32,false)],[],[],[],[],[]⟩,rz]) [false,false,false] (lI [3,8,9,11,13] [3,9,11]) (ma fE y G (mo false)) (ZbA S0 w0 (((h.length:Int)-(0:Int)).toNat+2) h (0:Int) p g.1 e.1 r b)
        .obtain⟨I,b⟩|⟨I,b⟩:=Zae b
         .obtain⟨x14,q28,b⟩:=Zad b
          let R18:List RA:=(d8++[⟨[(35,aB x14)],[(5,false),(7,false),(32,true)],[],[],[],[],[]⟩,rz])
          have O19:=(mc d9 j u I (ZgW _ _ _ q28));obtain⟨J,b⟩|⟨J,b⟩:=Zae b
          .apply Ya b 26 R18 [false,false,true] (l8 O19 J)
          .exact Ye 29 R18 [false,false,false] (lI [3,8,9,11,13] [3,9,11]) (l8 O19 J) (ZbA S0 w0 (((h.length:Int)-(0:Int)).toNat+2) h (0:Int) p g.1 e.1 r b)
         .exact Ye 29 (d8++[rB [(5,false),(7,false),(32,false)],rz]) [false,false,false] (lI [3,8,9,11,13] [3,9,11]) (mc d9 j u I (mo false)) (ZbA S0 w0 (((h.length:Int)-(0:Int)).toNat+2) h (0:Int) p g.1 e.1 r b)
     .obtain⟨f,q30,b⟩:=Zad b
      let gE:List RA:=(R9++[rB [(5,false),(9,false)],rA [(6,.r (.tup [(true,Zai.c f.1),(false,cB f.2)]) [])]])
      have ka:=(mc gD i t (mo false) (Zln _ _ _ _ q30));obtain⟨o,b⟩|⟨o,b⟩:=Zae b
      .apply Ya b 26 (gE++[rB [(5,true)],rz]) [false,false,true] (l9 ka o (mo true))
      .obtain⟨z,b⟩|⟨z,b⟩:=Zae b
       .have O22:=(ma ka o z (Zmk g.2.fEnd f.1 (.tmp 77) (.tmp 78)));obtain⟨L,b⟩|⟨L,b⟩:=Zae b
        .apply Ya b 26 (gE++[⟨[(11,aB (!(decide (g.2.fEnd=f.1))))],[(5,false),(7,true),(12,true)],[],[],[],[],[]⟩,rz]) [false,false,true] (l9 O22 L (mo true))
        .obtain⟨A,q34,b⟩:=Zad b;have O23:=(l9 O22 L (ZaW _ _ _ q34));obtain⟨M,b⟩|⟨M,b⟩:=Zae b
         .apply Ya b 26 (gE++[⟨[(11,aB (!(decide (g.2.fEnd=f.1)))),(16,aI A)],[(5,false),(7,true),(12,false),(19,true)],[],[],[],[],[]⟩,rz]) [false,false,true] (l9 O23 M (mo true))
         .obtain⟨O,q36,b⟩:=Zad b;have lq:=(l9 O23 M (ZaW _ _ _ q36));obtain⟨B,b⟩|⟨B,b⟩:=Zae b
          .apply Ya b 26 (gE++[⟨[(11,aB (!(decide (g.2.fEnd=f.1)))),(16,aI A),(24,aI O)],[(5,false),(7,true),(12,false),(19,false),(29,true)],[],[],[],[],[]⟩,rz]) [false,false,true] (l9 lq B (mo true))
          .obtain⟨R,b⟩|⟨R,b⟩:=Zae b
           .obtain⟨x18,q39,b⟩:=Zad b
            let R25:List RA:=(gE++[⟨[(11,aB (!(decide (g.2.fEnd=f.1)))),(16,aI A),(24,aI O),(35,aB x18)],[(5,false),(7,true),(12,false),(19,false),(29,false),(32,true)],[],[],[],[],[]⟩,rz])
            have O26:=(ma lq B R (ZgW _ _ _ q39));obtain⟨U,b⟩|⟨U,b⟩:=Zae b
            .apply Ya b 26 R25 [false,false,true] (l8 O26 U)
            .exact Ye 29 R25 [false,false,false] (lI [3,8,9,11,13] [3,9,11]) (l8 O26 U) (ZbA S0 w0 (((h.length:Int)-(0:Int)).toNat+2) h (0:Int) p g.1 f.1 r b)
           .exact Ye 29 (gE++[⟨[(11,aB (!(decide (g.2.fEnd=f.1)))),(16,aI A),(24,aI O)],[(5,false),(7,true),(12,false),(19,false),(29,false),(32,false)],[],[],[],[],[]⟩,rz]) [false,false,false] (lI [3,8,9,11,13] [3,9,11]) (ma lq B R (mo false)) (ZbA S0 w0 (((h.length:Int)-(0:Int)).toNat+2) h (0:Int) p g.1 f.1 r b)
       .obtain⟨V,b⟩|⟨V,b⟩:=Zae b
        .obtain⟨x19,q42,b⟩:=Zad b
         let R27:List RA:=(gE++[⟨[(35,aB x19)],[(5,false),(7,false),(32,true)],[],[],[],[],[]⟩,rz])
         have O28:=(mc ka o z V (ZgW _ _ _ q42));obtain⟨W,b⟩|⟨W,b⟩:=Zae b
         .apply Ya b 26 R27 [false,false,true] (l8 O28 W)
         .exact Ye 29 R27 [false,false,false] (lI [3,8,9,11,13] [3,9,11]) (l8 O28 W) (ZbA S0 w0 (((h.length:Int)-(0:Int)).toNat+2) h (0:Int) p g.1 f.1 r b)
        .exact Ye 29 (gE++[rB [(5,false),(7,false),(32,false)],rz]) [false,false,false] (lI [3,8,9,11,13] [3,9,11]) (mc ka o z V (mo false)) (ZbA S0 w0 (((h.length:Int)-(0:Int)).toNat+2) h (0:Int) p g.1 f.1 r b)
def ZrR(b:Zab)(d:Int):Option Bool:=bif(b.fState==(1:Int))then some (decide (b.fNext<=d))else some false
def ZbM(b:List ZaF):Option (List ZaF):=need (b.length * 40<=140737488355328/\b.length<=maxLen)<|some b
def Zqq(b d:ZaF):Option Int:=(Zcf b.fKey d.fKey).bind fun e=>(ZfH b.fEnd d.fEnd).bind fun f=>(Zew ([e,f]:List Int)).bind fun g=>some g
def Zqr(b d:ZaF):Option Bool:=(Zqq b d).bind fun e=>some (decide (e<(0:Int)))
def ZeA(f:Int)(aU:Int->(List ZaF)->Option (List ZaF)):Nat->Int->Int->(List ZaF)->Option (List ZaF)|0,_,_,_=>none|fu+1,e,g,b=>bif(decide (g<=(Zan (ZiS (2:Int) f) (2:Int))))then bif(decide (g<(b.length:Int)))then need (0<=g/\g<(b.length:Int))<|need (0<=e/\e<(b.length:Int))<|(Zqr (b.getD g.toNat ZaF.d) (b.getD e.toNat ZaF.d)).bind fun h=>bif h then ZeA f aU fu g (Zan g 1) b else ZeA f aU fu e (Zan g 1) b else bif(e==f)then some b else need (0<=e/\e<(b.length:Int))<|need (0<=f/\f<(b.length:Int))<|aU e ((b.set f.toNat (b.getD e.toNat ZaF.d)).set e.toNat (b.getD f.toNat ZaF.d))else bif(e==f)then some b else need (0<=e/\e<(b.length:Int))<|need (0<=f/\f<(b.length:Int))<|aU e ((b.set f.toNat (b.getD e.toNat ZaF.d)).set e.toNat (b.getD f.toNat ZaF.d))
def ZiG:Nat->Int->(List ZaF)->Option (List ZaF)|0,_,_=>none|fu+1,d,b=>ZeA d (ZiG fu) (((b.length:Int)-(Zan (ZiS (2:Int) d) (1:Int))).toNat+2) d (Zan (ZiS (2:Int) d) (1:Int)) b
def ZmN(b:List ZaF)(d:Int):Option (List ZaF):=ZiG 1000000 d b
def Zly:Nat->Int->(List ZaF)->Option (List ZaF)|0,_,_=>none|fu+1,b,d=>bif(decide (b>=(0:Int)))then(ZmN d b).bind fun e=>Zly fu (ZaJ b (1:Int)) e else some d
def Zlm(d:List ZaF):Option (List ZaF):=(ZbM d).bind fun b=>Zly (((ZaJ (IntKind.wrap .i64 (Int.tdiv (b.length:Int) (2:Int))) (1:Int))-(0:Int)).toNat+2) (ZaJ (IntKind.wrap .i64 (Int.tdiv (b.length:Int) (2:Int))) (1:Int)) b
def Zop(e:List ZaF):Option (ZaF×(List ZaF)×Bool):=bif((e.length:Int)==(0:Int))then some ((ZaF.mk 0 (Zai.mk (Zaf.mk false 0 0) 0)),([]:(List ZaF)),false)else(ZbM e).bind fun b=>need (0<=(ZaJ (b.length:Int) (1:Int))/\(ZaJ (b.length:Int) (1:Int))<(b.length:Int))<|need (0<=(0:Int)/\(0:Int)<(b.length:Int))<|need (0<=(0:Int)/\(0:Int)<=(ZaJ (b.length:Int) (1:Int))/\(ZaJ (b.length:Int) (1:Int))<=(b.length:Int))<|need ((ZaJ (b.length:Int) (1:Int)).toNat<=(b.set ((0:Int).toNat) (b.getD ((ZaJ (b.length:Int) (1:Int)).toNat) ZaF.d)).length)<|(ZmN ((b.set ((0:Int).toNat) (b.getD ((ZaJ (b.length:Int) (1:Int)).toNat) ZaF.d)).take ((ZaJ (b.length:Int) (1:Int)).toNat)) (0:Int)).bind fun f=>need (0<=(0:Int)/\(0:Int)<(e.length:Int))<|some ((e.getD (0:Int).toNat ZaF.d),f,true)
def Zga:Nat->(List Zaa)->Int->Int->Zai->Option Bool|0,_,_,_,_=>none|fu+1,e,f,b,g=>bif(decide (b<f))then need (0<=b/\b<(e.length:Int))<|bif(decide ((e.getD b.toNat Zaa.d).fEnd=g))then some true else Zga fu e f (Zan b 1) g else some false
def Zjg(b:Zbs)(d:Zai):Option Bool:=Zga (((b.fPeers.length:Int)-(0:Int)).toNat+2) b.fPeers (b.fPeers.length:Int) (0:Int) d
def Zck(aK:Int->(List Zaj)->Option (List Zaj)):Nat->Int->Nat->Nat->Nat->Int->(List Zaj)->Option (List Zaj)|0,_,_,_,_,_,_=>none|fu+1,e,vo4,jB,vn4,f,b=>bif(decide (f<((jB:Nat):Int)))then need (0<=f/\f<((jB:Nat):Int))<|need ((vo4+f.toNat)<b.length)<|need (0<=(ZaJ f (1:Int))/\(ZaJ f (1:Int))<((jB:Nat):Int))<|need ((vo4+(ZaJ f (1:Int)).toNat)<b.length)<|bif(!(decide ((b.getD (vo4+f.toNat) Zaj.d)=(b.getD (vo4+(ZaJ f (1:Int)).toNat) Zaj.d))))then need (0<=e/\e<(b.length:Int))<|Zck aK fu (Zan e 1) vo4 jB vn4 (Zan f 1) (b.set e.toNat (b.getD (vo4+f.toNat) Zaj.d))else Zck aK fu e vo4 jB vn4 (Zan f 1) b else need (0<=e/\e<=(b.length:Int)/\(b.length:Int)<=(b.length:Int))<|need (e.toNat+(b.length-e.toNat)<=b.length)<|need (0<=(0:Int)/\(0:Int)<=e/\e<=(b.length:Int))<|need (e.toNat<=(Zjz b e.toNat (b.length-e.toNat) Zaj.d).length)<|some ((Zjz b e.toNat (b.length-e.toNat) Zaj.d).take e.toNat)
def Zcl:Nat->Int->(List Zaj)->Option (List Zaj)|0,_,_=>none|fu+1,e,b=>bif(decide (e<(b.length:Int)))then need (0<=e/\e<(b.length:Int))<|need (0<=(ZaJ e (1:Int))/\(ZaJ e (1:Int))<(b.length:Int))<|bif(decide ((b.getD e.toNat Zaj.d)=(b.getD ((ZaJ e (1:Int)).toNat) Zaj.d)))then need (0<=e/\e<=(b.length:Int)/\(b.length:Int)<=(b.length:Int))<|Zck (Zcl fu) 1000000 e e.toNat (b.length-e.toNat) b.length (1:Int) b else Zcl fu (Zan e 1) b else some b
def ZbZ(b:List Zaj):Option (List Zaj):=bif(decide ((b.length:Int)<(2:Int)))then some b else Zcl (((b.length:Int)-(1:Int)).toNat+2) (1:Int) b
def ZjI(b:List Zaj):Option (List Zaj):=need (b.length<4611686018427387904)<|some (b.mergeSort fun x y=>!(Go.Proofs.ltOf cmpN) y x)
def ZhM(o:List Zab)(g:List Zaa)(h i:Int)(bm:(List Zaa)->Int->Int->(List Zaj)->Option (List Zaj)):Nat->(List Zab)->Int->Int->(List Zaj)->Option (List Zaj)|0,_,_,_,_=>none|fu+1,e,f,b,j=>bif(decide (b<f))then need (0<=b/\b<(e.length:Int))<|bif((e.getD b.toNat Zab.d).fState==(2:Int))then(Zgz (((e.getD b.toNat Zab.d).fEnd).fAddr)).bind fun n=>need ((j++([n]:List Zaj)).length * 32<=140737488355328/\(j++([n]:List Zaj)).length<=maxLen)<|ZhM o g h i bm fu e f (Zan b 1) (j++([n]:List Zaj))else ZhM o g h i bm fu e f (Zan b 1) j else(ZjI j).bind fun p=>(ZbZ p).bind fun r=>some r
def Zfu(g:List Zab):Nat->(List Zaa)->Int->Int->(List Zaj)->Option (List Zaj)|0,_,_,_,_=>none|fu+1,e,f,b,h=>bif(decide (b<f))then need (0<=b/\b<(e.length:Int))<|bif(!(e.getD b.toNat Zaa.d).fIn)then(Zgz (((e.getD b.toNat Zaa.d).fEnd).fAddr)).bind fun i=>need ((h++([i]:List Zaj)).length * 32<=140737488355328/\(h++([i]:List Zaj)).length<=maxLen)<|Zfu g fu e f (Zan b 1) (h++([i]:List Zaj))else Zfu g fu e f (Zan b 1) h else ZhM g e f b (Zfu g fu) (((g.length:Int)-(0:Int)).toNat+2) g (g.length:Int) (0:Int) h
def ZnE(b:List Zaa)(d:List Zab):Option (List Zaj):=Zfu d (((b.length:Int)-(0:Int)).toNat+2) b (b.length:Int) (0:Int) ([])
def Zcx(e:List Zaj):Nat->Int->Int->Zaj->Option Int|0,_,_,_=>none|fu+1,f,b,g=>bif(decide (b<f))then need (0<=b/\b<(e.length:Int))<|bif(decide (g=(e.getD b.toNat Zaj.d)))then some b else Zcx e fu f (Zan b 1) g else some (-1:Int)
def Zib(b:List Zaj)(d:Zaj):Option Int:=Zcx b (((b.length:Int)-(0:Int)).toNat+2) (b.length:Int) (0:Int) d
def ZeE(b:List Zaj)(d:Zaj):Option Bool:=(Zib b d).bind fun e=>some (decide (e>=(0:Int)))
def Zpc(d:List Zaa)(e:List Zab)(b:Zaf):Option Bool:=(Zfe b).bind fun f=>bif f then(ZnE d e).bind fun g=>(Zgz b).bind fun h=>(ZeE g h).bind fun i=>some (!i)else some false
def Zhe(b:Zbs)(d:Zai)(e:Int):Option Bool:=(Zjg b d).bind fun f=>bif(!f)then(Zid b.fBans d.fAddr e).bind fun g=>bif(g==(0:Int))then(Zpc b.fPeers b.fBook d.fAddr).bind fun h=>some h else some false else some false
def ZsF(b:Zab)(c0:Int):Option Bool:=(ZrR b c0).bind fun d=>some d
def Zds(e:Int):Nat->(List Zab)->Int->Int->(List ZaF)->Option (List ZaF)|0,_,_,_,_=>none|fu+1,f,g,b,h=>bif(decide (b<g))then need (0<=b/\b<(f.length:Int))<|(Zim (f.getD b.toNat Zab.d)).bind fun i=>bif i then(ZsF (f.getD b.toNat Zab.d) e).bind fun j=>bif j then need ((h++([(ZaF.mk ((f.getD b.toNat Zab.d).fNext) ((f.getD b.toNat Zab.d).fEnd))]:List ZaF)).length * 40<=140737488355328/\(h++([(ZaF.mk ((f.getD b.toNat Zab.d).fNext) ((f.getD b.toNat Zab.d).fEnd))]:List ZaF)).length<=maxLen)<|Zds e fu f g (Zan b 1) (h++([(ZaF.mk ((f.getD b.toNat Zab.d).fNext) ((f.getD b.toNat Zab.d).fEnd))]:List ZaF))else Zds e fu f g (Zan b 1) h else Zds e fu f g (Zan b 1) h else(Zlm h).bind fun n=>some n
def Zjf(d:Zbs)(b:Int):Option (List ZaF):=Zds b (((d.fBook.length:Int)-(0:Int)).toNat+2) d.fBook (d.fBook.length:Int) (0:Int) ([])
def Zlz(d:Int):Nat->(List ZaF)->Zbs->Zai->Option (Zai×Bool)|0,_,_,_=>none|fu+1,f,e,g=>(Zop f).bind fun b=>bif(!b.2.2)then some (b.1.fEnd,b.2.2)else(Zhe e b.1.fEnd d).bind fun h=>bif h then some (b.1.fEnd,b.2.2)else Zlz d fu b.2.1 e g
def Zpx(b:Zbs)(d:Int):Option (Zai×Bool):=(Zjf b d).bind fun e=>Zlz d 1000000 e b (Zai.mk (Zaf.mk false 0 0) 0)
def Zpv(b:Zab)(c0:Int):Option Bool:=bif(b.fState==(1:Int))then some (decide (b.fNext>c0))else some false
end Go.Proofs.YtmnloegcpaahcaaGreat
