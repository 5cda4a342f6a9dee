import Derived.Test.YtdjfoojllbfcgaaGreatJRiaA2
namespace Go.Proofs.YtdjfoojllbfcgaaGreat
open Go.RowKit Go.Lib Go.Shelf
set_option linter.unusedVariables false
set_option maxRecDepth 100000
def ZdM(b:Int)(d:Bool)(f:Zau)(a:Zas)(e:ZaB)(j:Zas)(k:Zaq):Option (Zas×Zaq):=bif d then none else bif(b==(10:Int))then some (a,(Zaq.mk 0 (Zan.mk (Zai.mk false 0 0) 0) (a.fBans.length:Int) (a.fBook.length:Int) a.fPeers))else bif(b==(13:Int))then(ZgU e.fEnd e.fNow).bind fun g=>(ZgT a.fBook g f.fMaxBook).bind fun c=>bif(c.2==(0:Int))then(Zdh c.2).bind fun h=>some ((Zas.mk a.fBans c.1 a.fPeers),h)else(Zdh c.2).bind fun i=>some (a,i)else none
theorem Zga(S0:Nat->Prop)(w0:ZaW)(j:Int)(k:Bool)(b:Zau)(m:Zas)(e:ZaB)(o:Zas)(f:Zaq)(r:(Zas×Zaq))(a:ZdM j k b m e o f=some r):Ys 100 S0 w0 Tryz.f23 (.tup [(true,Zas.c r.1),(true,Zaq.c r.2)]) [1,1,0,1,0,1,1,1,1,1,1,1,1,1] ⟨[(3,.one (.ptr 3 0)),(4,.one (.ptr 4 0)),(5,.one (.ptr 5 0)),(6,.one (.ptr 6 0)),(7,.one (.ptr 7 0)),(16,(Yj j)),(49,(Yk k))],[(3,.box [.lit (.int .i64 b.fMaxIn),.lit (.int .i64 b.fMaxOut),.lit (.int .i64 b.fShards),.lit (.int .i64 b.fMaxBans),.lit (.int .i64 b.fMaxBook),.lit (.int .u64 b.fSecret),.lit (.int .i64 b.fQuota.fGroup),.lit (.int .i64 b.fQuota.fPing),.lit (.int .i64 b.fQuota.fWork),.lit (.int .i64 b.fQuota.fTime),.lit (.int .i64 b.fHalf),.lit (.int .i64 b.fLimit),.lit (.int .i64 b.fBanFor),.lit (.int .i64 b.fBase),.lit (.int .i64 b.fCap),.lit (.int .i64 b.fJitter)]),(4,.box [cL 5 Zaf.c Zaf.d m.fBans,cL 7 Zaa.c Zaa.d m.fBook,cL 10 Zab.c Zab.d m.fPeers]),(5,.box [.lit (.int .i64 e.fKind),.lit (.bool e.fEnd.fAddr.fV6),.lit (.int .u64 e.fEnd.fAddr.fHi),.lit (.int .u64 e.fEnd.fAddr.fLo),.lit (.int .i64 e.fEnd.fPort),.lit (.bool e.fNet.fAddr.fV6),.lit (.int .u64 e.fNet.fAddr.fHi),.lit (.int .u64 e.fNet.fAddr.fLo),.lit (.int .i64 e.fNet.fBits),.lit (.int .i64 e.fNow),.lit (.int .i64 e.fNum),.lit (.bool e.fGood)]),(6,.box [cL 5 Zaf.c Zaf.d o.fBans,cL 7 Zaa.c Zaa.d o.fBook,cL 10 Zab.c Zab.d o.fPeers]),(7,.box [.lit (.int .i64 f.fCode),.lit (.bool f.fEnd.fAddr.fV6),.lit (.int .u64 f.fEnd.fAddr.fHi),.lit (.int .u64 f.fEnd.fAddr.fLo),.lit (.int .i64 f.fEnd.fPort),.lit (.int .i64 f.fN),.lit (.int .i64 f.fUntil),cL 10 Zab.c Zab.d f.fPeers])]⟩:=by
 unfold ZdM at a;obtain⟨g,a⟩|⟨g,a⟩:=Zaj a
 .cases a
 .obtain⟨h,a⟩|⟨h,a⟩:=Zaj a
  .apply Ya a 6 [rz,rz] [false,true] (.c g (.c h .n))
  .obtain⟨l,a⟩|⟨l,a⟩:=Zaj a
   .obtain⟨v,p,a⟩:=Zac a;obtain⟨u,q,a⟩:=Zac a
    let R1:List RA:=[rz,rz,rA [(6,aG (Zaa.c v)),(9,.r (.tup [(false,(cLs 7 Zaa.c Zaa.d) u.1),(false,(cI .i64) u.2)]) [])],rz]
    have O2:Obl _:=(.c g (.c h (.c l (.c (Zqw _ _ _ p) (.c (Zqv _ _ _ _ q) .n)))));obtain⟨i,a⟩|⟨i,a⟩:=Zaj a
    .obtain⟨w,s,a⟩:=Zac a;apply Ya a 16 (R1++[rz,rA [(2,aG (Zaq.c w))]]) [false,false,true,true] (O2.app (.c i (.c (ZdL _ _ s) .n)))
    .obtain⟨x,t,a⟩:=Zac a;apply Ya a 16 (R1++[rA [(2,aG (Zaq.c x))]]) [false,false,true,false] (O2.app (.c i (.c (ZdL _ _ t) .n)))
   .cases a
def ZbE(c:Zau)(b:Zas)(a:ZaB):Option (Zas×Zaq):=(ZfP a).bind fun f=>bif(!f)then(Zdh (1:Int)).bind fun g=>some (b,g)else bif(a.fKind==(1:Int))then none else bif(a.fKind==(3:Int))then(Zgq c b a).bind fun d=>some (d.1,d.2)else bif(a.fKind==(4:Int))then(Zfv c b a).bind fun e=>some (e.1,e.2)else bif(a.fKind==(5:Int))then none else bif(a.fKind==(6:Int))then ZdM a.fKind (a.fKind==(6:Int)) c b a (Zas.mk ([]:(List Zaf)) ([]:(List Zaa)) ([]:(List Zab))) (Zaq.mk 0 (Zan.mk (Zai.mk false 0 0) 0) 0 0 ([]:(List Zab)))else bif(a.fKind==(7:Int))then ZdM a.fKind (a.fKind==(7:Int)) c b a (Zas.mk ([]:(List Zaf)) ([]:(List Zaa)) ([]:(List Zab))) (Zaq.mk 0 (Zan.mk (Zai.mk false 0 0) 0) 0 0 ([]:(List Zab)))else bif(a.fKind==(8:Int))then ZdM a.fKind (a.fKind==(8:Int)) c b a (Zas.mk ([]:(List Zaf)) ([]:(List Zaa)) ([]:(List Zab))) (Zaq.mk 0 (Zan.mk (Zai.mk false 0 0) 0) 0 0 ([]:(List Zab)))else ZdM a.fKind (a.fKind==(9:Int)) c b a (Zas.mk ([]:(List Zaf)) ([]:(List Zaa)) ([]:(List Zab))) (Zaq.mk 0 (Zan.mk (Zai.mk false 0 0) 0) 0 0 ([]:(List Zab)))
theorem Zrn(i:Zau)(j:Zas)(b:ZaB)(r:(Zas×Zaq))(a:ZbE i j b=some r):Yp 23 [.agg (Zau.c i),.agg (Zas.c j),.agg (ZaB.c b)] (.tup [(true,Zas.c r.1),(true,Zaq.c r.2)]):=by
 refine Yw Tryz.func23 fun S0 w0=>?_;unfold ZbE at a;obtain⟨l,p,a⟩:=Zac a;obtain⟨o,a⟩|⟨o,a⟩:=Zaj a
 .obtain⟨u,v,a⟩:=Zac a;apply Ya a 8 [rz,rA [(1,aB l)],rA [(1,aG (Zaq.c u))]] [true] (.c (Zku _ _ p) (.c o (.c (ZdL _ _ v) .n)))
 .obtain⟨q,a⟩|⟨q,a⟩:=Zaj a
  .cases a
  .have O3:Obl _:=(.c (Zku _ _ p) (.c o (.c q .n)));obtain⟨g,a⟩|⟨g,a⟩:=Zaj a
   .obtain⟨s,w,a⟩:=Zac a;apply Ya a 19 [rz,rA [(1,aB l)],rz,rz,rz,rA [(3,.r (.tup [(true,Zas.c s.1),(true,Zaq.c s.2)]) [])]] [false,false,true] (O3.app (.c g (.c (ZpJ _ _ _ _ w) .n)))
   .obtain⟨k,a⟩|⟨k,a⟩:=Zaj a
    .obtain⟨t,x,a⟩:=Zac a;apply Ya a 22 [rz,rA [(1,aB l)],rz,rz,rz,rz,rA [(3,.r (.tup [(true,Zas.c t.1),(true,Zaq.c t.2)]) [])]] [false,false,false,true] (O3.app (.c g (.c k (.c (Zoo _ _ _ _ x) .n))))
    .obtain⟨m,a⟩|⟨m,a⟩:=Zaj a
     .cases a
     .obtain⟨e,a⟩|⟨e,a⟩:=Zaj a
      .exact Ye 28 [rz,rA [(1,aB l)],rz,rz,rz,rz,rz,rz] [false,false,false,false,false,true] ⟨[],[(6,[(0,cL 5 Zaf.c Zaf.d []),(1,cL 7 Zaa.c Zaa.d []),(2,cL 10 Zab.c Zab.d [])]),(7,[(7,cL 10 Zab.c Zab.d [])])],[],[],[],[3,4,5,6,7,16,49],[3,4,5,6,7],[]⟩ (O3.app (.c g (.c k (.c m (.c e .n))))) (Zga S0 w0 b.fKind (b.fKind==(6:Int)) i j b (Zas.mk ([]:(List Zaf)) ([]:(List Zaa)) ([]:(List Zab))) (Zaq.mk 0 (Zan.mk (Zai.mk false 0 0) 0) 0 0 ([]:(List Zab))) r a)
      .let R4:List RA:=[rz,rA [(1,aB l)],rz,rz,rz,rz,rz,rz,rz]
       obtain⟨f,a⟩|⟨f,a⟩:=Zaj a
       .exact Ye 31 R4 [false,false,false,false,false,false,true] ⟨[],[(6,[(0,cL 5 Zaf.c Zaf.d []),(1,cL 7 Zaa.c Zaa.d []),(2,cL 10 Zab.c Zab.d [])]),(7,[(7,cL 10 Zab.c Zab.d [])])],[],[],[],[3,4,5,6,7,16,49],[3,4,5,6,7],[]⟩ (O3.app (.c g (.c k (.c m (.c e (.c f .n)))))) (Zga S0 w0 b.fKind (b.fKind==(7:Int)) i j b (Zas.mk ([]:(List Zaf)) ([]:(List Zaa)) ([]:(List Zab))) (Zaq.mk 0 (Zan.mk (Zai.mk false 0 0) 0) 0 0 ([]:(List Zab))) r a)
       .obtain⟨h,a⟩|⟨h,a⟩:=Zaj a
        .exact Ye 34 (R4++[rz]) [false,false,false,false,false,false,false,true] ⟨[],[(6,[(0,cL 5 Zaf.c Zaf.d []),(1,cL 7 Zaa.c Zaa.d []),(2,cL 10 Zab.c Zab.d [])]),(7,[(7,cL 10 Zab.c Zab.d [])])],[],[],[],[3,4,5,6,7,16,49],[3,4,5,6,7],[]⟩ (O3.app (.c g (.c k (.c m (.c e (.c f (.c h .n))))))) (Zga S0 w0 b.fKind (b.fKind==(8:Int)) i j b (Zas.mk ([]:(List Zaf)) ([]:(List Zaa)) ([]:(List Zab))) (Zaq.mk 0 (Zan.mk (Zai.mk false 0 0) 0) 0 0 ([]:(List Zab))) r a)
        .exact Ye 34 (R4++[rz,rz]) [false,false,false,false,false,false,false,false] ⟨[],[(6,[(0,cL 5 Zaf.c Zaf.d []),(1,cL 7 Zaa.c Zaa.d []),(2,cL 10 Zab.c Zab.d [])]),(7,[(7,cL 10 Zab.c Zab.d [])])],[],[],[],[3,4,5,6,7,16,49],[3,4,5,6,7],[]⟩ (O3.app (.c g (.c k (.c m (.c e (.c f (.c h .n))))))) (Zga S0 w0 b.fKind (b.fKind==(9:Int)) i j b (Zas.mk ([]:(List Zaf)) ([]:(List Zaa)) ([]:(List Zab))) (Zaq.mk 0 (Zan.mk (Zai.mk false 0 0) 0) 0 0 ([]:(List Zab))) r a)
def ZcA(b c:List Zab):Nat->Int->Option Bool|0,_=>none|fu+1,a=>bif(decide (a<(b.length:Int)))then bif(decide (a<(c.length:Int)))then need (0<=a/\a<(b.length:Int))<|need (0<=a/\a<(c.length:Int))<|bif(!(decide ((b.getD a.toNat Zab.d)=(c.getD a.toNat Zab.d))))then some false else ZcA b c fu (ZaA a 1)else some true else some true
theorem ZnC(S0:Nat->Prop)(w0:ZaW)(e f:List Zab):∀(g:Nat)(b:Int)(r:Bool),ZcA e f g b=some r->Ys 32 S0 w0 Tryz.f80 (Yk r) [1,1,0,1,0] ⟨[(0,(Yn e)),(1,(Yn f)),(5,(Yj b))],[]⟩:=by
 intro g;induction g with
 |zero=>
  intro b r a;simp[ZcA]at a
 |succ g k=>
  intro b r a;unfold ZcA at a;obtain⟨h,a⟩|⟨h,a⟩:=Zaj a
  .obtain⟨i,a⟩|⟨i,a⟩:=Zaj a
   .obtain⟨l,a⟩:=Zar a;obtain⟨m,a⟩:=Zar a
    let R1:List RA:=[rB [(4,true)],rA [(8,aB (!(decide ((e.getD b.toNat Zab.d)=(f.getD b.toNat Zab.d)))))],rz]
    have O2:Obl _:=(.c h (.c i (.c l (.c m (.c (Zry (e.getD b.toNat Zab.d) (f.getD b.toNat Zab.d) (.tmp 26) (.tmp 30)) .n)))));obtain⟨j,a⟩|⟨j,a⟩:=Zaj a
    .apply Ya a 13 R1 [true,true] (O2.app (.c j .n))
    .exact Ye 15 R1 [true,false] (Yi [0,1,5]) (O2.app (.c j .n)) (k (ZaA b 1) r a)
   .apply Ya a 8 [rB [(4,true)],rz] [false] (.c h (.c i .n))
  .apply Ya a 8 [rB [(4,false)],rz] [false] (.c h (.c (show false=false from rfl) .n))
def Zfe(b a:List Zab):Option Bool:=bif((b.length:Int) != (a.length:Int))then some false else ZcA b a (((a.length:Int)-(0:Int)).toNat+2) (0:Int)
theorem ZkR(d b:List Zab)(r:Bool)(a:Zfe d b=some r):Yp 80 [Yn d,Yn b] (Yk r):=by
 refine Yw Tryz.func80 fun S0 w0=>?_;unfold Zfe at a;obtain⟨e,a⟩|⟨e,a⟩:=Zaj a
 .apply Ya a 8 [rz,rz,rz] [true] (.c e .n)
 .exact Ye 11 [rz,rz,rz] [false] (Yi [0,1,5]) (.c e .n) (ZnC S0 w0 d b (((b.length:Int)-(0:Int)).toNat+2) (0:Int) r a)
def Zfd(a b:Zaq):Option Bool:=bif(a.fCode==b.fCode)then bif(decide (a.fEnd=b.fEnd))then bif(a.fN==b.fN)then bif(a.fUntil==b.fUntil)then(Zfe a.fPeers b.fPeers).bind fun c=>some c else some false else some false else some false else some false
theorem ZpH(b d:Zaq)(r:Bool)(a:Zfd b d=some r):Yp 24 [.agg (Zaq.c b),.agg (Zaq.c d)] (Yk r):=by
 refine Yw Tryz.func24 fun S0 w0=>?_;unfold Zfd at a;obtain⟨g,a⟩|⟨g,a⟩:=Zaj a
 .have O1:Obl _:=(.c g (.c (ZiP b.fEnd d.fEnd (.tmp 12) (.tmp 14)) .n));obtain⟨e,a⟩|⟨e,a⟩:=Zaj a
  .obtain⟨f,a⟩|⟨f,a⟩:=Zaj a
   .obtain⟨h,a⟩|⟨h,a⟩:=Zaj a
    .obtain⟨i,j,a⟩:=Zac a;apply Ya a 4 [rz,⟨[(10,aB (decide (b.fEnd=d.fEnd))),(31,aB i)],[(5,true),(12,true),(19,true),(26,true)],[],[],[],[],[]⟩] [] (O1.app (.c e (.c f (.c h (.c (ZkR _ _ _ j) .n)))))
    .apply Ya a 4 [rz,⟨[(10,aB (decide (b.fEnd=d.fEnd)))],[(5,true),(12,true),(19,true),(26,false)],[],[],[],[],[]⟩] [] (O1.app (.c e (.c f (.c h .n))))
   .apply Ya a 4 [rz,⟨[(10,aB (decide (b.fEnd=d.fEnd)))],[(5,true),(12,true),(19,false)],[],[],[],[],[]⟩] [] (O1.app (.c e (.c f .n)))
  .apply Ya a 4 [rz,⟨[(10,aB (decide (b.fEnd=d.fEnd)))],[(5,true),(12,false)],[],[],[],[],[]⟩] [] (O1.app (.c e .n))
 .apply Ya a 4 [rz,rB [(5,false)]] [] (.c g .n)
def Zcr:Nat->Int->(List Zab)->Zad->Option (List Zab)|0,_,_,_=>none|fu+1,a,c,b=>bif(decide (a<b.fSize))then bif(decide (a<(b.fSlots.length:Int)))then need (0<=a/\a<(b.fSlots.length:Int))<|need ((c++([(b.fSlots.getD a.toNat Zab.d)]:List Zab)).length * 80<=140737488355328/\(c++([(b.fSlots.getD a.toNat Zab.d)]:List Zab)).length<=maxLen)<|Zcr fu (ZaA a 1) (c++([(b.fSlots.getD a.toNat Zab.d)]:List Zab)) b else some c else some c
theorem ZmZ(S0:Nat->Prop)(w0:ZaW):∀(h:Nat)(b:Int)(g:List Zab)(a:Zad)(r:List Zab),Zcr h b g a=some r->Yt 28 S0 w0 Tryz.f168 [(99999,.rows 44 10 r.length (Zap Zab.c Zab.d r))] (.one (.osl 99999 r.length)) [1,1,0,1,0] ⟨[(1,.one (.ptr 1 0)),(3,.one (.osl 3 g.length)),(4,(Yj b))],[(3,.rows 44 10 g.length (Zap Zab.c Zab.d g)),(1,.box [.lit (.int .i64 a.fSize),cL 10 Zab.c Zab.d a.fSlots])]⟩:=by
 intro h;induction h with
 |zero=>
  intro b g a r f;simp[Zcr]at f
 |succ h o=>
  intro b g a r f;unfold Zcr at f;obtain⟨k,f⟩|⟨k,f⟩:=Zaj f
  .obtain⟨l,f⟩|⟨l,f⟩:=Zaj f
   .obtain⟨p,m,f⟩:=Yu f;exact Ye 12 [rB [(4,true)],⟨[(7,.c ((g++([(a.fSlots.getD b.toNat Zab.d)]:List Zab)).length) (Zap Zab.c Zab.d (g++([(a.fSlots.getD b.toNat Zab.d)]:List Zab))))],[],[],[],[],[(6,(([(a.fSlots.getD b.toNat Zab.d)]:List Zab).length,Zap Zab.c Zab.d ([(a.fSlots.getD b.toNat Zab.d)]:List Zab)))],[]⟩,rz] [true] ⟨[],[],[],[],[],[1,3,4],[26,1],[(26,3)]⟩ (.c k (.c l (.c p (.c (show ([(a.fSlots.getD b.toNat Zab.d)]:List Zab).length=1/\∀i j,i<1->j<10->Zap Zab.c Zab.d ([(a.fSlots.getD b.toNat Zab.d)]:List Zab) i j=(([(a.fSlots.getD b.toNat Zab.d)]:List Zab).flatMap Zab.c).getD (i * 10+j) .junk from⟨rfl,fun i j hi hj=>ZaO (sz:=10) (e:=Zab.c) (d:=Zab.d) (fun _=>rfl) ([(a.fSlots.getD b.toNat Zab.d)]:List Zab) i j hi hj⟩) (.c (Zcy (sz:=10) (e:=Zab.c) (d:=Zab.d) g ([(a.fSlots.getD b.toNat Zab.d)]:List Zab)) (.c m.1 (.c m.2 .n))))))) (o (ZaA b 1) (g++([(a.fSlots.getD b.toNat Zab.d)]:List Zab)) a r f)
   .apply Yc f 8 [rB [(4,true)],rz] [false] ⟨[],[],[],[],[],[2],[3],[(3,99999)]⟩ (.c k (.c l .n))
  .apply Yc f 8 [rB [(4,false)],rz] [false] ⟨[],[],[],[],[],[2],[3],[(3,99999)]⟩ (.c k (.c (show false=false from rfl) .n))
def ZfR(a:Zad):Option (List Zab):=Zcr 1000000 (0:Int) ([]:List Zab) a
theorem Zoq(a:Zad)(r:List Zab)(b:ZfR a=some r):Yq 168 [] [.agg (Zad.c a)] [(99999,.rows 44 10 r.length (Zap Zab.c Zab.d r))] (.one (.osl 99999 r.length)):=by
 refine Yx Tryz.func168 fun S0 w0=>?_;unfold ZfR at b;exact Ye 8 [rz,rA [(0,.c ([]:List Zab).length (Zap Zab.c Zab.d ([]:List Zab)))],rz] [] ⟨[],[],[],[],[],[1,3,4],[5,1],[(5,3)]⟩ (.c (show ([]:List Zab).length=0 from rfl) (.c (show ∀i j,i<0->j<10->Zap Zab.c Zab.d ([]:List Zab) i j=(([]:List Zab).flatMap Zab.c).getD (i * 10+j) .junk from(fun i j hi hj=>ZaO (sz:=10) (e:=Zab.c) (d:=Zab.d) (fun _=>rfl) ([]:List Zab) i j hi hj)) .n)) (ZmZ S0 w0 1000000 (0:Int) ([]:List Zab) a r b)
theorem Zpc(a:Zad)(r:List Zab)(b:ZfR a=some r):Yp 168 [.agg (Zad.c a)] (Yn r):=(Zoq a r b).pure
def ZcJ(b:List Zab):Nat->Int->(List Zab)->Option (List Zab)|0,_,_=>none|fu+1,a,c=>bif(decide (a<(b.length:Int)))then need (0<=a/\a<(b.length:Int))<|(Zev c (b.getD a.toNat Zab.d)).bind fun e=>ZcJ b fu (ZaA a 1) e else some c
theorem ZmD(S0:Nat->Prop)(w0:ZaW)(l:List Zab):∀(h:Nat)(g:Int)(b r:List Zab),ZcJ l h g b=some r->Yt 19 S0 w0 Tryz.f169 [(99999,.rows 44 10 r.length (Zap Zab.c Zab.d r))] (.one (.osl 99999 r.length)) [1,1,0,1,0] ⟨[(0,(Yn l)),(3,.one (.osl 3 b.length)),(4,(Yj g))],[(3,.rows 44 10 b.length (Zap Zab.c Zab.d b))]⟩:=by
 intro h;induction h with
 |zero=>
  intro g b r a;simp[ZcJ]at a
 |succ h m=>
  intro g b r a;unfold ZcJ at a;obtain⟨k,a⟩|⟨k,a⟩:=Zaj a
  .obtain⟨o2,a⟩:=Zar a;obtain⟨f,o,a⟩:=Zac a;exact Ye 12 [rz,rH [] [(5,⟨[],[(99999,17)],[(99999,.rows 44 10 f.length (Zap Zab.c Zab.d f))],.one (.osl 99999 f.length)⟩)],rz] [true] ⟨[],[],[],[],[],[0,3,4],[17],[(17,3)]⟩ (.c k (.c o2 (.c (ZkT _ _ _ o) (.c (show ∀i j,i<f.length->j<10->∃y,Zap Zab.c Zab.d f i j=.lit y from(Zul (sz:=10) (e:=Zab.c) (d:=Zab.d) (fun _=>rfl) (fun _=>rfl) _ _)) .n)))) (m (ZaA g 1) f r a)
  .apply Yc a 8 [rz,rz] [false] ⟨[],[],[],[],[],[2],[3],[(3,99999)]⟩ (.c k .n)
def Zfw(a:List Zab):Option (List Zab):=ZcJ a (((a.length:Int)-(0:Int)).toNat+2) (0:Int) ([]:List Zab)
theorem ZnG(a r:List Zab)(b:Zfw a=some r):Yq 169 [] [Yn a] [(99999,.rows 44 10 r.length (Zap Zab.c Zab.d r))] (.one (.osl 99999 r.length)):=by
 refine Yx Tryz.func169 fun S0 w0=>?_;unfold Zfw at b;exact Ye 8 [rz,rA [(0,.c ([]:List Zab).length (Zap Zab.c Zab.d ([]:List Zab)))],rz] [] ⟨[],[],[],[],[],[0,3,4],[5],[(5,3)]⟩ (.c (show ([]:List Zab).length=0 from rfl) (.c (show ∀i j,i<0->j<10->Zap Zab.c Zab.d ([]:List Zab) i j=(([]:List Zab).flatMap Zab.c).getD (i * 10+j) .junk from(fun i j hi hj=>ZaO (sz:=10) (e:=Zab.c) (d:=Zab.d) (fun _=>rfl) ([]:List Zab) i j hi hj)) .n)) (ZmD S0 w0 a (((a.length:Int)-(0:Int)).toNat+2) (0:Int) ([]:List Zab) r b)
def ZcC(b:List Zad):Nat->Int->(List Zab)->Option (List Zab)|0,_,_=>none|fu+1,a,c=>bif(decide (a<(b.length:Int)))then need (0<=a/\a<(b.length:Int))<|(ZfR (b.getD a.toNat Zad.d)).bind fun e=>need ((c++e).length * 80<=140737488355328/\(c++e).length<=maxLen)<|ZcC b fu (ZaA a 1) (c++e)else(Zfw c).bind fun f=>some f
theorem ZnF(S0:Nat->Prop)(w0:ZaW)(m:List Zad):∀(k:Nat)(f:Int)(b r:List Zab),ZcC m k f b=some r->Yt 21 S0 w0 Tryz.f83 [(99999,.rows 44 10 r.length (Zap Zab.c Zab.d r))] (.one (.osl 99999 r.length)) [1,1,0,1,0] ⟨[(0,.one (cL 2 Zad.c Zad.d m)),(3,.one (.osl 3 b.length)),(4,(Yj f))],[(3,.rows 44 10 b.length (Zap Zab.c Zab.d b))]⟩:=by
 intro k;induction k with
 |zero=>
  intro f b r a;simp[ZcC]at a
 |succ k p=>
  intro f b r a;unfold ZcC at a;obtain⟨l,a⟩|⟨l,a⟩:=Zaj a
  .obtain⟨o2,a⟩:=Zar a;obtain⟨g,q,a⟩:=Zac a;obtain⟨o,a⟩:=Zar a;exact Ye 12 [rz,rA [(5,.r (Yn g) []),(6,.c ((b++g).length) (Zap Zab.c Zab.d (b++g)))],rz] [true] ⟨[],[],[],[],[],[0,3,4],[18],[(18,3)]⟩ (.c l (.c o2 (.c (Zpc _ _ q) (.c (Zcy (sz:=10) (e:=Zab.c) (d:=Zab.d) b g) (.c o.1 (.c o.2 .n)))))) (p (ZaA f 1) (b++g) r a)
  .obtain⟨h,s,a⟩:=Zac a;apply Yc a 8 [rz,rH [] [(1,⟨[],[(99999,20)],[(99999,.rows 44 10 h.length (Zap Zab.c Zab.d h))],.one (.osl 99999 h.length)⟩)]] [false] ⟨[],[],[],[],[],[2],[20],[(20,99999)]⟩ (.c l (.c (ZnG _ _ s) (.c (show ∀i j,i<h.length->j<10->∃y,Zap Zab.c Zab.d h i j=.lit y from(Zul (sz:=10) (e:=Zab.c) (d:=Zab.d) (fun _=>rfl) (fun _=>rfl) _ _)) .n)))
def Zeg(a:List Zad):Option (List Zab):=ZcC a (((a.length:Int)-(0:Int)).toNat+2) (0:Int) ([]:List Zab)
theorem Zpd(a:List Zad)(r:List Zab)(b:Zeg a=some r):Yq 83 [] [.one (cL 2 Zad.c Zad.d a)] [(99999,.rows 44 10 r.length (Zap Zab.c Zab.d r))] (.one (.osl 99999 r.length)):=by
 refine Yx Tryz.func83 fun S0 w0=>?_;unfold Zeg at b;exact Ye 8 [rz,rA [(0,.c ([]:List Zab).length (Zap Zab.c Zab.d ([]:List Zab)))],rz] [] ⟨[],[],[],[],[],[0,3,4],[5],[(5,3)]⟩ (.c (show ([]:List Zab).length=0 from rfl) (.c (show ∀i j,i<0->j<10->Zap Zab.c Zab.d ([]:List Zab) i j=(([]:List Zab).flatMap Zab.c).getD (i * 10+j) .junk from(fun i j hi hj=>ZaO (sz:=10) (e:=Zab.c) (d:=Zab.d) (fun _=>rfl) ([]:List Zab) i j hi hj)) .n)) (ZnF S0 w0 a (((a.length:Int)-(0:Int)).toNat+2) (0:Int) ([]:List Zab) r b)
theorem ZpK(a:List Zad)(r:List Zab)(b:Zeg a=some r):Yp 83 [.one (cL 2 Zad.c Zad.d a)] (Yn r):=(Zpd a r b).pure
def ZeD(a:ZaC):Option Zas:=(Zeg a.fShards).bind fun b=>some (Zas.mk a.fBans a.fBook b)
theorem ZoY(b:ZaC)(r:Zas)(a:ZeD b=some r):Yp 26 [.agg (ZaC.c b)] (.agg (Zas.c r)):=by
 refine Yw Tryz.func26 fun S0 w0=>?_;unfold ZeD at a;obtain⟨d,e,a⟩:=Zac a;apply Ya a 4 [rz,rA [(6,.r (Yn d) [])]] [] (.c (ZpK _ _ e) .n)
def ZcR(b c:List Zaf):Nat->Int->Option Bool|0,_=>none|fu+1,a=>bif(decide (a<(b.length:Int)))then bif(decide (a<(c.length:Int)))then need (0<=a/\a<(b.length:Int))<|need (0<=a/\a<(c.length:Int))<|bif(!(decide ((b.getD a.toNat Zaf.d)=(c.getD a.toNat Zaf.d))))then some false else ZcR b c fu (ZaA a 1)else some true else some true
theorem Zom(S0:Nat->Prop)(w0:ZaW)(e f:List Zaf):∀(g:Nat)(b:Int)(r:Bool),ZcR e f g b=some r->Ys 32 S0 w0 Tryz.f81 (Yk r) [1,1,0,1,0] ⟨[(0,(Yl e)),(1,(Yl f)),(5,(Yj b))],[]⟩:=by
 intro g;induction g with
 |zero=>
  intro b r a;simp[ZcR]at a
 |succ g k=>
  intro b r a;unfold ZcR at a;obtain⟨h,a⟩|⟨h,a⟩:=Zaj a
  .obtain⟨i,a⟩|⟨i,a⟩:=Zaj a
   .obtain⟨l,a⟩:=Zar a;obtain⟨m,a⟩:=Zar a
    let R1:List RA:=[rB [(4,true)],rA [(8,aB (!(decide ((e.getD b.toNat Zaf.d)=(f.getD b.toNat Zaf.d)))))],rz]
    have O2:Obl _:=(.c h (.c i (.c l (.c m (.c (Zyr (e.getD b.toNat Zaf.d) (f.getD b.toNat Zaf.d) (.tmp 26) (.tmp 30)) .n)))));obtain⟨j,a⟩|⟨j,a⟩:=Zaj a
    .apply Ya a 13 R1 [true,true] (O2.app (.c j .n))
    .exact Ye 15 R1 [true,false] (Yi [0,1,5]) (O2.app (.c j .n)) (k (ZaA b 1) r a)
   .apply Ya a 8 [rB [(4,true)],rz] [false] (.c h (.c i .n))
  .apply Ya a 8 [rB [(4,false)],rz] [false] (.c h (.c (show false=false from rfl) .n))
def ZgR(b a:List Zaf):Option Bool:=bif((b.length:Int) != (a.length:Int))then some false else ZcR b a (((a.length:Int)-(0:Int)).toNat+2) (0:Int)
theorem ZlE(d b:List Zaf)(r:Bool)(a:ZgR d b=some r):Yp 81 [Yl d,Yl b] (Yk r):=by
 refine Yw Tryz.func81 fun S0 w0=>?_;unfold ZgR at a;obtain⟨e,a⟩|⟨e,a⟩:=Zaj a
 .apply Ya a 8 [rz,rz,rz] [true] (.c e .n)
 .exact Ye 11 [rz,rz,rz] [false] (Yi [0,1,5]) (.c e .n) (Zom S0 w0 d b (((b.length:Int)-(0:Int)).toNat+2) (0:Int) r a)
def ZcQ(b c:List Zaa):Nat->Int->Option Bool|0,_=>none|fu+1,a=>bif(decide (a<(b.length:Int)))then bif(decide (a<(c.length:Int)))then need (0<=a/\a<(b.length:Int))<|need (0<=a/\a<(c.length:Int))<|bif(!(decide ((b.getD a.toNat Zaa.d)=(c.getD a.toNat Zaa.d))))then some false else ZcQ b c fu (ZaA a 1)else some true else some true
theorem Zol(S0:Nat->Prop)(w0:ZaW)(e f:List Zaa):∀(g:Nat)(b:Int)(r:Bool),ZcQ e f g b=some r->Ys 32 S0 w0 Tryz.f82 (Yk r) [1,1,0,1,0] ⟨[(0,(Ym e)),(1,(Ym f)),(5,(Yj b))],[]⟩:=by
 intro g;induction g with
 |zero=>
  intro b r a;simp[ZcQ]at a
 |succ g k=>
  intro b r a;unfold ZcQ at a;obtain⟨h,a⟩|⟨h,a⟩:=Zaj a
  .obtain⟨i,a⟩|⟨i,a⟩:=Zaj a
   .obtain⟨l,a⟩:=Zar a;obtain⟨m,a⟩:=Zar a
    let R1:List RA:=[rB [(4,true)],rA [(8,aB (!(decide ((e.getD b.toNat Zaa.d)=(f.getD b.toNat Zaa.d)))))],rz]
    have O2:Obl _:=(.c h (.c i (.c l (.c m (.c (Zvi (e.getD b.toNat Zaa.d) (f.getD b.toNat Zaa.d) (.tmp 26) (.tmp 30)) .n)))));obtain⟨j,a⟩|⟨j,a⟩:=Zaj a
    .apply Ya a 13 R1 [true,true] (O2.app (.c j .n))
    .exact Ye 15 R1 [true,false] (Yi [0,1,5]) (O2.app (.c j .n)) (k (ZaA b 1) r a)
   .apply Ya a 8 [rB [(4,true)],rz] [false] (.c h (.c i .n))
  .apply Ya a 8 [rB [(4,false)],rz] [false] (.c h (.c (show false=false from rfl) .n))
def ZgQ(b a:List Zaa):Option Bool:=bif((b.length:Int) != (a.length:Int))then some false else ZcQ b a (((a.length:Int)-(0:Int)).toNat+2) (0:Int)
theorem Zqr(d b:List Zaa)(r:Bool)(a:ZgQ d b=some r):Yp 82 [Ym d,Ym b] (Yk r):=by
 refine Yw Tryz.func82 fun S0 w0=>?_;unfold ZgQ at a;obtain⟨e,a⟩|⟨e,a⟩:=Zaj a
 .apply Ya a 8 [rz,rz,rz] [true] (.c e .n)
 .exact Ye 11 [rz,rz,rz] [false] (Yi [0,1,5]) (.c e .n) (Zol S0 w0 d b (((b.length:Int)-(0:Int)).toNat+2) (0:Int) r a)
def Zfc(a b:Zas):Option Bool:=(ZgR a.fBans b.fBans).bind fun c=>bif c then(ZgQ a.fBook b.fBook).bind fun d=>bif d then(Zfe a.fPeers b.fPeers).bind fun e=>some e else some false else some false
theorem ZpG(f g:Zas)(r:Bool)(a:Zfc f g=some r):Yp 25 [.agg (Zas.c f),.agg (Zas.c g)] (Yk r):=by
 refine Yw Tryz.func25 fun S0 w0=>?_;unfold Zfc at a;obtain⟨b,h,a⟩:=Zac a;obtain⟨d,a⟩|⟨d,a⟩:=Zaj a
 .obtain⟨i,j,a⟩:=Zac a;have O1:Obl _:=(.c (ZlE _ _ _ h) (.c d (.c (Zqr _ _ _ j) .n)));obtain⟨e,a⟩|⟨e,a⟩:=Zaj a
  .obtain⟨k,l,a⟩:=Zac a;apply Ya a 4 [rz,⟨[(4,aB b),(10,aB i),(17,aB k)],[(5,true),(12,true)],[],[],[],[],[]⟩] [] (O1.app (.c e (.c (ZkR _ _ _ l) .n)))
  .apply Ya a 4 [rz,⟨[(4,aB b),(10,aB i)],[(5,true),(12,false)],[],[],[],[],[]⟩] [] (O1.app (.c e .n))
 .apply Ya a 4 [rz,⟨[(4,aB b)],[(5,false)],[],[],[],[],[]⟩] [] (.c (ZlE _ _ _ h) (.c d .n))
def ZcF(c e f:Int)(a:ZaC)(g:Zas)(aC:Int->Int->ZaC->Zas->Option Bool):Nat->Int->Option Bool|0,_=>none|fu+1,b=>bif(decide (b<(a.fLocks.length:Int)))then need (0<=b/\b<(a.fLocks.length:Int))<|bif((a.fLocks.getD b.toNat Zat.d).fBy != (0:Int))then some false else bif(decide (((((a.fLocks.getD b.toNat Zat.d).fShare).length:Nat):Int)>(0:Int)))then some false else ZcF c e f a g aC fu (ZaA b 1)else bif(a.fIn==e)then some (a.fOut==c)else some false
theorem ZnO(S0:Nat->Prop)(w0:ZaW)(j m o:Int)(b:ZaC)(p:Zas)(aC:Int->Int->ZaC->Zas->Option Bool)(db:∀(kq gV:Int)(bQ:ZaC)(gB:Zas)(r:Bool),aC kq gV bQ gB=some r->Ys 59 S0 w0 Tryz.f27 (Yk r) [1,1,0,1,0] ⟨[(2,(Yj j)),(3,.one (.ptr 3 0)),(4,.one (.ptr 4 0)),(7,(Yj kq)),(8,(Yj gV))],[(3,.box [.lit (.int .i64 bQ.fIn),.lit (.int .i64 bQ.fOut),cL 5 Zaf.c Zaf.d bQ.fBans,cL 7 Zaa.c Zaa.d bQ.fBook,cL 2 Zad.c Zad.d bQ.fShards,cL 2 Zat.c Zat.d bQ.fLocks]),(4,.box [cL 5 Zaf.c Zaf.d gB.fBans,cL 7 Zaa.c Zaa.d gB.fBook,cL 10 Zab.c Zab.d gB.fPeers])]⟩):∀(h:Nat)(f:Int)(r:Bool),ZcF j m o b p aC h f=some r->Ys 59 S0 w0 Tryz.f27 (Yk r) [1,1,1,0,1,0] ⟨[(2,(Yj j)),(3,.one (.ptr 3 0)),(7,(Yj m)),(9,(Yj f))],[(3,.box [.lit (.int .i64 b.fIn),.lit (.int .i64 b.fOut),cL 5 Zaf.c Zaf.d b.fBans,cL 7 Zaa.c Zaa.d b.fBook,cL 2 Zad.c Zad.d b.fShards,cL 2 Zat.c Zat.d b.fLocks])]⟩:=by
 intro h;induction h with
 |zero=>
  intro f r a;simp[ZcF]at a
 |succ h q=>
  intro f r a;unfold ZcF at a;obtain⟨e,a⟩|⟨e,a⟩:=Zaj a
  .obtain⟨g,a⟩:=Zar a;obtain⟨i,a⟩|⟨i,a⟩:=Zaj a
   .apply Ya a 13 [rz,rB [(7,true)],rz] [true,true] (.c e (.c g (.c i (.c (show true=true from rfl) .n))))
   .obtain⟨k,a⟩|⟨k,a⟩:=Zaj a
    .apply Ya a 13 [rz,rB [(7,false)],rz] [true,true] (.c e (.c g (.c i (.c g (.c k .n)))))
    .exact Ye 15 [rz,rB [(7,false)],rz] [true,false] ⟨[],[],[],[],[],[2,3,7,9],[3],[]⟩ (.c e (.c g (.c i (.c g (.c k .n))))) (q (ZaA f 1) r a)
  .obtain⟨l,a⟩|⟨l,a⟩:=Zaj a
   .apply Ya a 8 [rz,rB [(4,true)]] [false] (.c e (.c l .n))
   .apply Ya a 8 [rz,rB [(4,false)]] [false] (.c e (.c l .n))
def ZbL(c:Int):Nat->Int->Int->ZaC->Zas->Option Bool|0,_,_,_,_=>none|fu+1,e,a,f,b=>bif(decide (a<(b.fPeers.length:Int)))then need (0<=a/\a<(b.fPeers.length:Int))<|bif(b.fPeers.getD a.toNat Zab.d).fIn then ZbL c fu (ZaA e 1) (ZaA a 1) f b else ZbL c fu e (ZaA a 1) f b else ZcF c e a f b (ZbL c fu) 1000000 (0:Int)
theorem ZnP(S0:Nat->Prop)(w0:ZaW)(i:Int):∀(h:Nat)(f g:Int)(b:ZaC)(e:Zas)(r:Bool),ZbL i h f g b e=some r->Ys 59 S0 w0 Tryz.f27 (Yk r) [1,1,0,1,0] ⟨[(2,(Yj i)),(3,.one (.ptr 3 0)),(4,.one (.ptr 4 0)),(7,(Yj f)),(8,(Yj g))],[(3,.box [.lit (.int .i64 b.fIn),.lit (.int .i64 b.fOut),cL 5 Zaf.c Zaf.d b.fBans,cL 7 Zaa.c Zaa.d b.fBook,cL 2 Zad.c Zad.d b.fShards,cL 2 Zat.c Zat.d b.fLocks]),(4,.box [cL 5 Zaf.c Zaf.d e.fBans,cL 7 Zaa.c Zaa.d e.fBook,cL 10 Zab.c Zab.d e.fPeers])]⟩:=by
 intro h;induction h with
 |zero=>
  intro f g b e r a;simp[ZbL]at a
 |succ h k=>
  intro f g b e r a;unfold ZbL at a;obtain⟨j,a⟩|⟨j,a⟩:=Zaj a
  .obtain⟨o2,a⟩:=Zar a;obtain⟨l,a⟩|⟨l,a⟩:=Zaj a
   .exact Ye 15 [rz,rz,rz,rz] [true,true] ⟨[],[],[],[],[],[2,3,4,7,8],[3,4],[]⟩ (.c j (.c o2 (.c l .n))) (k (ZaA f 1) (ZaA g 1) b e r a)
   .exact Ye 15 [rz,rz,rz] [true,false] ⟨[],[],[],[],[],[2,3,4,7,8],[3,4],[]⟩ (.c j (.c o2 (.c l .n))) (k f (ZaA g 1) b e r a)
  .exact Ye 10 [rz,rz] [false] ⟨[],[],[],[],[],[2,3,7,9],[3],[]⟩ (.c j .n) (ZnO S0 w0 i f g b e (ZbL i h) k 1000000 (0:Int) r a)
def Zgv(a:ZaC)(b:Zas)(c:Int):Option Bool:=ZbL c 1000000 (0:Int) (0:Int) a b
theorem ZpU(a:ZaC)(b:Zas)(d:Int)(r:Bool)(e:Zgv a b d=some r):Yp 27 [.agg (ZaC.c a),.agg (Zas.c b),Yj d] (Yk r):=by
 refine Yw Tryz.func27 fun S0 w0=>?_;unfold Zgv at e;exact Ye 8 [rz,rz,rz] [] ⟨[],[],[],[],[],[2,3,4,7,8],[3,4],[]⟩ .n (ZnP S0 w0 d 1000000 (0:Int) (0:Int) a b r e)
def ZbD(a:Zay)(b:Int):Option Bool:=bif(decide (b<(1:Int)))then some false else bif(decide (b>(8:Int)))then some false else bif(decide (a.fKind<(1:Int)))then some false else bif(decide (a.fKind>(6:Int)))then some false else bif(decide (a.fKind<(5:Int)))then bif(decide (a.fKind<(6:Int)))then some true else some (decide (a.fSlot>=(0:Int)))else bif(decide (a.fShard>=(0:Int)))then bif(decide (a.fShard<b))then bif(decide (a.fKind<(6:Int)))then some true else some (decide (a.fSlot>=(0:Int)))else some false else some false
theorem Zkt(l:Zay)(m:Int)(r:Bool)(a:ZbD l m=some r):Yp 170 [.agg (Zay.c l),Yj m] (Yk r):=by
 refine Yw Tryz.func170 fun S0 w0=>?_;unfold ZbD at a;obtain⟨b,a⟩|⟨b,a⟩:=Zaj a
 .apply Ya a 8 [rz,rB [(2,true)],rz] [true] (.c b (.c (show true=true from rfl) .n))
 .obtain⟨d,a⟩|⟨d,a⟩:=Zaj a
  .apply Ya a 8 [rz,rB [(2,false),(6,true)],rz] [true] (.c b (.c d (.c (show true=true from rfl) .n)))
  .obtain⟨e,a⟩|⟨e,a⟩:=Zaj a
   .apply Ya a 8 [rz,rB [(2,false),(6,false),(11,true)],rz] [true] (.c b (.c d (.c e (.c (show true=true from rfl) .n))))
   .let R1:List RA:=[rz,rB [(2,false),(6,false),(11,false)]]
    obtain⟨f,a⟩|⟨f,a⟩:=Zaj a
    .apply Ya a 8 (R1++[rz]) [true] (.c b (.c d (.c e (.c f .n))))
    .obtain⟨g,a⟩|⟨g,a⟩:=Zaj a
     .obtain⟨i,a⟩|⟨i,a⟩:=Zaj a
      .apply Ya a 9 (R1++[rB [(3,true),(18,true)]]) [false] (.c b (.c d (.c e (.c f (.c g (.c i .n))))))
      .apply Ya a 9 (R1++[rB [(3,true),(18,false)]]) [false] (.c b (.c d (.c e (.c f (.c g (.c i .n))))))
     .obtain⟨j,a⟩|⟨j,a⟩:=Zaj a
      .have O2:Obl _:=(.c b (.c d (.c e (.c f (.c g (.c j .n))))));obtain⟨h,a⟩|⟨h,a⟩:=Zaj a
       .obtain⟨k,a⟩|⟨k,a⟩:=Zaj a
        .apply Ya a 9 (R1++[rB [(3,false),(7,true),(14,true),(18,true)]]) [false] (O2.app (.c h (.c k .n)))
        .apply Ya a 9 (R1++[rB [(3,false),(7,true),(14,true),(18,false)]]) [false] (O2.app (.c h (.c k .n)))
       .apply Ya a 9 (R1++[rB [(3,false),(7,true),(14,false)]]) [false] (O2.app (.c h .n))
      .apply Ya a 9 (R1++[rB [(3,false),(7,false)]]) [false] (.c b (.c d (.c e (.c f (.c g (.c j .n))))))
def ZbX(d a:Int)(b:ZaJ)(c:Bool):Option Bool:=bif c then some (b.fLock==(0:Int))else bif(a==(5:Int))then(ZbD b.fLoc d).bind fun e=>some e else bif(a==(6:Int))then(ZbD b.fLoc d).bind fun f=>bif f then some (decide (b.fLoc.fKind>(2:Int)))else some false else bif(a==(7:Int))then bif(b.fLoc.fKind==(1:Int))then some true else some (b.fLoc.fKind==(2:Int))else bif(a==(8:Int))then some true else some false
theorem ZiR(S0:Nat->Prop)(w0:ZaW)(p l:Int)(b:ZaJ)(m r:Bool)(a:ZbX p l b m=some r):Ys 64 S0 w0 Tryz.f84 (Yk r) [1,1,0,1,0,1,1,1] ⟨[(1,(Yj p)),(2,.one (.ptr 2 0)),(12,(Yj l)),(26,(Yk m))],[(2,.box [.lit (.int .i64 b.fKind),.lit (.int .i64 b.fLock),.lit (.int .i64 b.fLoc.fKind),.lit (.int .i64 b.fLoc.fShard),.lit (.int .i64 b.fLoc.fSlot),.lit (.int .i64 b.fOld),.lit (.int .i64 b.fNew),.lit (.int .i64 b.fVal.fN),.lit (.bool b.fVal.fPeer.fEnd.fAddr.fV6),.lit (.int .u64 b.fVal.fPeer.fEnd.fAddr.fHi),.lit (.int .u64 b.fVal.fPeer.fEnd.fAddr.fLo),.lit (.int .i64 b.fVal.fPeer.fEnd.fPort),.lit (.bool b.fVal.fPeer.fIn),.lit (.int .i64 b.fVal.fPeer.fSince),.lit (.int .i64 b.fVal.fPeer.fScore.fPoints),.lit (.int .i64 b.fVal.fPeer.fScore.fAt),.lit (.int .i64 b.fVal.fPeer.fPing),.lit (.int .i64 b.fVal.fPeer.fWork),cL 5 Zaf.c Zaf.d b.fVal.fBans,cL 7 Zaa.c Zaa.d b.fVal.fBook,.lit (.bool b.fMark)])]⟩:=by
 unfold ZbX at a;obtain⟨g,a⟩|⟨g,a⟩:=Zaj a
 .apply Ya a 3 [rz] [true] (.c g .n)
 .obtain⟨h,a⟩|⟨h,a⟩:=Zaj a
  .obtain⟨s,t,a⟩:=Zac a;apply Ya a 6 [rz,rA [(3,aB s)]] [false,true] (.c g (.c h (.c (Zkt _ _ _ t) .n)))
  .obtain⟨e,a⟩|⟨e,a⟩:=Zaj a
   .obtain⟨q,o,a⟩:=Zac a;have O1:Obl _:=(.c g (.c h (.c e (.c (Zkt _ _ _ o) .n))));obtain⟨i,a⟩|⟨i,a⟩:=Zaj a
    .apply Ya a 9 [rz,rz,⟨[(3,aB q)],[(4,true)],[],[],[],[],[]⟩] [false,false,true] (O1.app (.c i .n))
    .apply Ya a 9 [rz,rz,⟨[(3,aB q)],[(4,false)],[],[],[],[],[]⟩] [false,false,true] (O1.app (.c i .n))
   .obtain⟨f,a⟩|⟨f,a⟩:=Zaj a
    .obtain⟨j,a⟩|⟨j,a⟩:=Zaj a
     .apply Ya a 12 [rz,rz,rz,rB [(4,true)]] [false,false,false,true] (.c g (.c h (.c e (.c f (.c j .n)))))
     .apply Ya a 12 [rz,rz,rz,rB [(4,false)]] [false,false,false,true] (.c g (.c h (.c e (.c f (.c j .n)))))
    .obtain⟨k,a⟩|⟨k,a⟩:=Zaj a
     .apply Ya a 15 [rz,rz,rz,rz,rz] [false,false,false,false,true] (.c g (.c h (.c e (.c f (.c k .n)))))
     .apply Ya a 17 [rz,rz,rz,rz,rz] [false,false,false,false,false] (.c g (.c h (.c e (.c f (.c k .n)))))
def ZbN(c a:Int)(d:Bool)(b:ZaJ):Option Bool:=bif d then bif(decide (b.fLock>=(0:Int)))then some (decide (b.fLock<=(ZaA c 1)))else some false else bif(a==(2:Int))then ZbX c a b (a==(2:Int))else ZbX c a b (a==(4:Int))
theorem ZiS(S0:Nat->Prop)(w0:ZaW)(h e:Int)(f:Bool)(a:ZaJ)(r:Bool)(b:ZbN h e f a=some r):Ys 64 S0 w0 Tryz.f84 (Yk r) [1,1,0,1,0,1] ⟨[(1,(Yj h)),(2,.one (.ptr 2 0)),(12,(Yj e)),(13,(Yk f))],[(2,.box [.lit (.int .i64 a.fKind),.lit (.int .i64 a.fLock),.lit (.int .i64 a.fLoc.fKind),.lit (.int .i64 a.fLoc.fShard),.lit (.int .i64 a.fLoc.fSlot),.lit (.int .i64 a.fOld),.lit (.int .i64 a.fNew),.lit (.int .i64 a.fVal.fN),.lit (.bool a.fVal.fPeer.fEnd.fAddr.fV6),.lit (.int .u64 a.fVal.fPeer.fEnd.fAddr.fHi),.lit (.int .u64 a.fVal.fPeer.fEnd.fAddr.fLo),.lit (.int .i64 a.fVal.fPeer.fEnd.fPort),.lit (.bool a.fVal.fPeer.fIn),.lit (.int .i64 a.fVal.fPeer.fSince),.lit (.int .i64 a.fVal.fPeer.fScore.fPoints),.lit (.int .i64 a.fVal.fPeer.fScore.fAt),.lit (.int .i64 a.fVal.fPeer.fPing),.lit (.int .i64 a.fVal.fPeer.fWork),cL 5 Zaf.c Zaf.d a.fVal.fBans,cL 7 Zaa.c Zaa.d a.fVal.fBook,.lit (.bool a.fMark)])]⟩:=by
 unfold ZbN at b;obtain⟨g,b⟩|⟨g,b⟩:=Zaj b
 .obtain⟨i,b⟩|⟨i,b⟩:=Zaj b
  .apply Ya b 3 [rB [(3,true)]] [true] (.c g (.c i .n))
  .apply Ya b 3 [rB [(3,false)]] [true] (.c g (.c i .n))
 .obtain⟨j,b⟩|⟨j,b⟩:=Zaj b
  .exact Ye 6 [rz] [false,true] ⟨[],[],[],[],[],[1,2,12,26],[2],[]⟩ (.c g (.c j .n)) (ZiR S0 w0 h e a (e==(2:Int)) r b)
  .exact Ye 6 [rz,rz] [false,false] ⟨[],[],[],[],[],[1,2,12,26],[2],[]⟩ (.c g (.c j .n)) (ZiR S0 w0 h e a (e==(4:Int)) r b)
def Zbf(a:ZaJ)(b:Int):Option Bool:=bif(decide (b<(1:Int)))then some false else bif(decide (b>(8:Int)))then some false else bif(a.fKind==(1:Int))then ZbN b a.fKind (a.fKind==(1:Int)) a else ZbN b a.fKind (a.fKind==(3:Int)) a
theorem Zks(b:ZaJ)(e:Int)(r:Bool)(a:Zbf b e=some r):Yp 84 [.agg (ZaJ.c b),Yj e] (Yk r):=by
 refine Yw Tryz.func84 fun S0 w0=>?_;unfold Zbf at a;obtain⟨d,a⟩|⟨d,a⟩:=Zaj a
 .apply Ya a 8 [rz,rB [(2,true)],rz] [true] (.c d (.c (show true=true from rfl) .n))
 .obtain⟨f,a⟩|⟨f,a⟩:=Zaj a
  .apply Ya a 8 [rz,rB [(2,false)],rz] [true] (.c d (.c f .n))
  .obtain⟨g,a⟩|⟨g,a⟩:=Zaj a
   .exact Ye 16 [rz,rB [(2,false)],rz,rz] [false,true] ⟨[],[],[],[],[],[1,2,12,13],[2],[]⟩ (.c d (.c f (.c g .n))) (ZiS S0 w0 e b.fKind (b.fKind==(1:Int)) b r a)
   .exact Ye 16 [rz,rB [(2,false)],rz,rz,rz] [false,false] ⟨[],[],[],[],[],[1,2,12,13],[2],[]⟩ (.c d (.c f (.c g .n))) (ZiS S0 w0 e b.fKind (b.fKind==(3:Int)) b r a)
def ZbA(b:ZaC)(a:Int):Option Zat:=bif(decide (a<(0:Int)))then some (Zat.mk 0 ([]:(List Int)))else bif(decide (a>=(b.fLocks.length:Int)))then some (Zat.mk 0 ([]:(List Int)))else need (0<=a/\a<(b.fLocks.length:Int))<|some (b.fLocks.getD a.toNat Zat.d)
theorem ZkS(e:ZaC)(f:Int)(r:Zat)(a:ZbA e f=some r):Yp 85 [.agg (ZaC.c e),Yj f] (.agg (Zat.c r)):=by
 refine Yw Tryz.func85 fun S0 w0=>?_;unfold ZbA at a;obtain⟨b,a⟩|⟨b,a⟩:=Zaj a
 .apply Yb a 8 [rz,rB [(2,true)],rz] [true] [] [(4,[(1,cL 1 (cI .i64) (0:Int) [])])] [] (.c b (.c (show true=true from rfl) .n))
 .obtain⟨d,a⟩|⟨d,a⟩:=Zaj a
  .apply Yb a 8 [rz,rB [(2,false)],rz] [true] [] [(4,[(1,cL 1 (cI .i64) (0:Int) [])])] [] (.c b (.c d .n))
  .obtain⟨g,a⟩:=Zar a;apply Ya a 9 [rz,rB [(2,false)],rz] [false] (.c b (.c d (.c g .n)))
def Zbd(c:ZaC)(a:ZaJ):Option Bool:=(Zbf a (c.fShards.length:Int)).bind fun d=>bif(!d)then some false else(ZbA c a.fLock).bind fun b=>bif(a.fKind != (1:Int))then bif(a.fKind != (2:Int))then some true else some (b.fBy==(0:Int))else bif(b.fBy==(0:Int))then bif((b.fShare.length:Int)==(0:Int))then bif(a.fKind != (2:Int))then some true else some (b.fBy==(0:Int))else some false else some false
theorem Zix(i:ZaC)(j:ZaJ)(r:Bool)(a:Zbd i j=some r):Yp 29 [.agg (ZaC.c i),.agg (ZaJ.c j)] (Yk r):=by
 refine Yw Tryz.func29 fun S0 w0=>?_;unfold Zbd at a;obtain⟨k,l,a⟩:=Zac a;obtain⟨f,a⟩|⟨f,a⟩:=Zaj a
 .apply Ya a 8 [rz,rA [(4,aB k)],rz] [true] (.c (Zks _ _ _ l) (.c f .n))
 .obtain⟨m,o,a⟩:=Zac a
  let R1:List RA:=[rz,rA [(4,aB k)],rA [(3,aG (Zat.c m))]]
  have O2:Obl _:=(.c (Zks _ _ _ l) (.c f (.c (ZkS _ _ _ o) .n)));obtain⟨b,a⟩|⟨b,a⟩:=Zaj a
  .obtain⟨g,a⟩|⟨g,a⟩:=Zaj a
   .apply Ya a 11 (R1++[rB [(3,true),(18,true)]]) [false] (O2.app (.c b (.c g .n)))
   .apply Ya a 11 (R1++[rB [(3,true),(18,false)]]) [false] (O2.app (.c b (.c g .n)))
  .obtain⟨d,a⟩|⟨d,a⟩:=Zaj a
   .obtain⟨e,a⟩|⟨e,a⟩:=Zaj a
    .obtain⟨h,a⟩|⟨h,a⟩:=Zaj a
     .apply Ya a 11 (R1++[rB [(3,false),(7,true),(14,true),(18,true)]]) [false] (O2.app (.c b (.c d (.c e (.c h .n)))))
     .apply Ya a 11 (R1++[rB [(3,false),(7,true),(14,true),(18,false)]]) [false] (O2.app (.c b (.c d (.c e (.c h .n)))))
    .apply Ya a 11 (R1++[rB [(3,false),(7,true),(14,false)]]) [false] (O2.app (.c b (.c d (.c e .n))))
   .apply Ya a 11 (R1++[rB [(3,false),(7,false)]]) [false] (O2.app (.c b (.c d .n)))
def Zcj(a:ZaC)(b:Int)(c:Zat):Option ZaC:=bif(decide (b>=(0:Int)))then bif(decide (b<(a.fLocks.length:Int)))then need ((([]:List Zat)++a.fLocks).length * 32<=140737488355328/\(([]:List Zat)++a.fLocks).length<=maxLen)<|need (0<=b/\b<(((([]:List Zat)++a.fLocks).length:Nat):Int))<|some (ZaC.mk a.fIn a.fOut a.fBans a.fBook a.fShards ((([]:List Zat)++a.fLocks).set b.toNat c))else some a else some a
theorem ZeS(a:ZaC)(f:Int)(g:Zat)(r:ZaC)(b:Zcj a f g=some r):Yp 86 [.agg (ZaC.c a),Yj f,.agg (Zat.c g)] (.agg (ZaC.c r)):=by
 refine Yw Tryz.func86 fun S0 w0=>?_;unfold Zcj at b;obtain⟨h,b⟩|⟨h,b⟩:=Zaj b
 .obtain⟨k,b⟩|⟨k,b⟩:=Zaj b
  .obtain⟨l,m,b⟩:=Yu b;apply Yb b 11 [rz,rB [(2,true)],rA [(0,.c ([]:List Zat).length (Zap Zat.c Zat.d ([]:List Zat))),(3,.c ((([]:List Zat)++a.fLocks).length) (Zap Zat.c Zat.d (([]:List Zat)++a.fLocks)))],rA [(5,.c ((([]:List Zat)++a.fLocks).set f.toNat g).length (Zap Zat.c Zat.d ((([]:List Zat)++a.fLocks).set f.toNat g)))],rz] [true] [19] [] [] (.c h (.c k (.c (show ([]:List Zat).length=0 from rfl) (.c (show ∀i j,i<0->j<2->Zap Zat.c Zat.d ([]:List Zat) i j=(([]:List Zat).flatMap Zat.c).getD (i * 2+j) .junk from(fun i j hi hj=>ZaO (sz:=2) (e:=Zat.c) (d:=Zat.d) (fun _=>rfl) ([]:List Zat) i j hi hj)) (.c (Zcy (sz:=2) (e:=Zat.c) (d:=Zat.d) ([]:List Zat) a.fLocks) (.c l.1 (.c l.2 (.c m (.c (show ((([]:List Zat)++a.fLocks).set f.toNat g).length=(([]:List Zat)++a.fLocks).length from List.length_set) (.c (show f.toNat<(([]:List Zat)++a.fLocks).length from(ltOf m)) (.c (show ExtU 2 ((([]:List Zat)++a.fLocks).length) (Zap Zat.c Zat.d (([]:List Zat)++a.fLocks)) f.toNat 0 (Zat.c g) (Zap Zat.c Zat.d ((([]:List Zat)++a.fLocks).set f.toNat g))from(ZkK _ _ _ rfl)) .n)))))))))))
  .apply Ya b 9 [rz,rB [(2,true)],rz] [false] (.c h (.c k .n))
 .apply Ya b 9 [rz,rB [(2,false)],rz] [false] (.c h (.c (show false=false from rfl) .n))
def ZbH(b:List Int)(c:Int):Nat->Bool->Int->(List Int)->Option (List Int)|0,_,_,_=>none|fu+1,e,a,d=>bif(decide (a<(b.length:Int)))then bif(!e)then need (0<=a/\a<(b.length:Int))<|bif(decide (c<=(b.getD a.toNat (0:Int))))then need ((d++([c]:List Int)).length * 8<=140737488355328/\(d++([c]:List Int)).length<=maxLen)<|bif((b.getD a.toNat (0:Int)) != c)then need (((d++([c]:List Int))++([(b.getD a.toNat (0:Int))]:List Int)).length * 8<=140737488355328/\((d++([c]:List Int))++([(b.getD a.toNat (0:Int))]:List Int)).length<=maxLen)<|ZbH b c fu true (ZaA a 1) ((d++([c]:List Int))++([(b.getD a.toNat (0:Int))]:List Int))else ZbH b c fu true (ZaA a 1) (d++([c]:List Int))else bif((b.getD a.toNat (0:Int)) != c)then need ((d++([(b.getD a.toNat (0:Int))]:List Int)).length * 8<=140737488355328/\(d++([(b.getD a.toNat (0:Int))]:List Int)).length<=maxLen)<|ZbH b c fu e (ZaA a 1) (d++([(b.getD a.toNat (0:Int))]:List Int))else ZbH b c fu e (ZaA a 1) d else need (0<=a/\a<(b.length:Int))<|bif((b.getD a.toNat (0:Int)) != c)then need ((d++([(b.getD a.toNat (0:Int))]:List Int)).length * 8<=140737488355328/\(d++([(b.getD a.toNat (0:Int))]:List Int)).length<=maxLen)<|ZbH b c fu e (ZaA a 1) (d++([(b.getD a.toNat (0:Int))]:List Int))else ZbH b c fu e (ZaA a 1) d else bif(!e)then need ((d++([c]:List Int)).length * 8<=140737488355328/\(d++([c]:List Int)).length<=maxLen)<|some (d++([c]:List Int))else some d
theorem ZmC(S0:Nat->Prop)(w0:ZaW)(f:List Int)(h:Int):∀(w:Nat)(k:Bool)(b:Int)(g r:List Int),ZbH f h w k b g=some r->Yt 49 S0 w0 Tryz.f87 [(99999,.rows 3 1 r.length (Zap (cI .i64) (0:Int) r))] (.one (.osl 99999 r.length)) [1,1,1,0,1,0] ⟨[(0,.one (cL 1 (cI .i64) (0:Int) f)),(1,(Yj h)),(5,.one (.osl 5 g.length)),(6,(Yk k)),(7,(Yj b))],[(5,.rows 3 1 g.length (Zap (cI .i64) (0:Int) g))]⟩:=by
 intro w;induction w with
 |zero=>
  intro k b g r a;simp[ZbH]at a
 |succ w q=>
  intro k b g r a;unfold ZbH at a;obtain⟨m,a⟩|⟨m,a⟩:=Zaj a
  .obtain⟨s,a⟩|⟨s,a⟩:=Zaj a
   .obtain⟨l,a⟩:=Zar a;obtain⟨x,a⟩|⟨x,a⟩:=Zaj a
    .obtain⟨A,a⟩:=Zar a
     let R1:List RA:=[rz,rB [(2,true)],⟨[(3,.c ((g++([h]:List Int)).length) (Zap (cI .i64) (0:Int) (g++([h]:List Int))))],[],[],[],[],[(2,(([h]:List Int).length,Zap (cI .i64) (0:Int) ([h]:List Int)))],[]⟩,rz,rz]
     have O2:Obl _:=(.c m (.c s (.c l (.c x (.c (show ([h]:List Int).length=1/\∀i j,i<1->j<1->Zap (cI .i64) (0:Int) ([h]:List Int) i j=(([h]:List Int).flatMap (cI .i64)).getD (i * 1+j) .junk from⟨rfl,fun i j hi hj=>ZaO (sz:=1) (e:=(cI .i64)) (d:=(0:Int)) (fun _=>rfl) ([h]:List Int) i j hi hj⟩) (.c (Zcy (sz:=1) (e:=(cI .i64)) (d:=(0:Int)) g ([h]:List Int)) (.c A.1 (.c A.2 (.c l .n)))))))));obtain⟨y,a⟩|⟨y,a⟩:=Zaj a
     .obtain⟨B,a⟩:=Zar a;exact Ye 22 (R1++[⟨[(6,.c (((g++([h]:List Int))++([(f.getD b.toNat (0:Int))]:List Int)).length) (Zap (cI .i64) (0:Int) ((g++([h]:List Int))++([(f.getD b.toNat (0:Int))]:List Int))))],[],[],[],[],[(5,(([(f.getD b.toNat (0:Int))]:List Int).length,Zap (cI .i64) (0:Int) ([(f.getD b.toNat (0:Int))]:List Int)))],[]⟩,rz]) [true,true,true] ⟨[],[],[],[],[],[0,1,5,6,7],[41],[(41,5)]⟩ (O2.app (.c y (.c l (.c (show ([(f.getD b.toNat (0:Int))]:List Int).length=1/\∀i j,i<1->j<1->Zap (cI .i64) (0:Int) ([(f.getD b.toNat (0:Int))]:List Int) i j=(([(f.getD b.toNat (0:Int))]:List Int).flatMap (cI .i64)).getD (i * 1+j) .junk from⟨rfl,fun i j hi hj=>ZaO (sz:=1) (e:=(cI .i64)) (d:=(0:Int)) (fun _=>rfl) ([(f.getD b.toNat (0:Int))]:List Int) i j hi hj⟩) (.c (Zcy (sz:=1) (e:=(cI .i64)) (d:=(0:Int)) (g++([h]:List Int)) ([(f.getD b.toNat (0:Int))]:List Int)) (.c B.1 (.c B.2 .n))))))) (q true (ZaA b 1) ((g++([h]:List Int))++([(f.getD b.toNat (0:Int))]:List Int)) r a)
     .exact Ye 22 (R1++[rz]) [true,true,false] ⟨[],[],[],[],[],[0,1,5,6,7],[28],[(28,5)]⟩ (O2.app (.c y .n)) (q true (ZaA b 1) (g++([h]:List Int)) r a)
    .obtain⟨z,a⟩|⟨z,a⟩:=Zaj a
     .obtain⟨C,a⟩:=Zar a;exact Ye 20 [rz,rB [(2,true)],rz,⟨[(6,.c ((g++([(f.getD b.toNat (0:Int))]:List Int)).length) (Zap (cI .i64) (0:Int) (g++([(f.getD b.toNat (0:Int))]:List Int))))],[],[],[],[],[(5,(([(f.getD b.toNat (0:Int))]:List Int).length,Zap (cI .i64) (0:Int) ([(f.getD b.toNat (0:Int))]:List Int)))],[]⟩,rz] [true,false,true] ⟨[],[],[],[],[],[0,1,5,6,7],[41],[(41,5)]⟩ (.c m (.c s (.c l (.c x (.c l (.c z (.c l (.c (show ([(f.getD b.toNat (0:Int))]:List Int).length=1/\∀i j,i<1->j<1->Zap (cI .i64) (0:Int) ([(f.getD b.toNat (0:Int))]:List Int) i j=(([(f.getD b.toNat (0:Int))]:List Int).flatMap (cI .i64)).getD (i * 1+j) .junk from⟨rfl,fun i j hi hj=>ZaO (sz:=1) (e:=(cI .i64)) (d:=(0:Int)) (fun _=>rfl) ([(f.getD b.toNat (0:Int))]:List Int) i j hi hj⟩) (.c (Zcy (sz:=1) (e:=(cI .i64)) (d:=(0:Int)) g ([(f.getD b.toNat (0:Int))]:List Int)) (.c C.1 (.c C.2 .n))))))))))) (q k (ZaA b 1) (g++([(f.getD b.toNat (0:Int))]:List Int)) r a)
     .exact Ye 20 [rz,rB [(2,true)],rz,rz] [true,false,false] ⟨[],[],[],[],[],[0,1,5,6,7],[5],[]⟩ (.c m (.c s (.c l (.c x (.c l (.c z .n)))))) (q k (ZaA b 1) g r a)
   .obtain⟨t,a⟩:=Zar a;have O3:Obl _:=(.c m (.c s (.c (show false=false from rfl) (.c t .n))));obtain⟨o,a⟩|⟨o,a⟩:=Zaj a
    .obtain⟨u,a⟩:=Zar a;exact Ye 20 [rz,rB [(2,false)],rz,⟨[(6,.c ((g++([(f.getD b.toNat (0:Int))]:List Int)).length) (Zap (cI .i64) (0:Int) (g++([(f.getD b.toNat (0:Int))]:List Int))))],[],[],[],[],[(5,(([(f.getD b.toNat (0:Int))]:List Int).length,Zap (cI .i64) (0:Int) ([(f.getD b.toNat (0:Int))]:List Int)))],[]⟩,rz] [true,false,true] ⟨[],[],[],[],[],[0,1,5,6,7],[41],[(41,5)]⟩ (O3.app (.c o (.c t (.c (show ([(f.getD b.toNat (0:Int))]:List Int).length=1/\∀i j,i<1->j<1->Zap (cI .i64) (0:Int) ([(f.getD b.toNat (0:Int))]:List Int) i j=(([(f.getD b.toNat (0:Int))]:List Int).flatMap (cI .i64)).getD (i * 1+j) .junk from⟨rfl,fun i j hi hj=>ZaO (sz:=1) (e:=(cI .i64)) (d:=(0:Int)) (fun _=>rfl) ([(f.getD b.toNat (0:Int))]:List Int) i j hi hj⟩) (.c (Zcy (sz:=1) (e:=(cI .i64)) (d:=(0:Int)) g ([(f.getD b.toNat (0:Int))]:List Int)) (.c u.1 (.c u.2 .n))))))) (q k (ZaA b 1) (g++([(f.getD b.toNat (0:Int))]:List Int)) r a)
    .exact Ye 20 [rz,rB [(2,false)],rz,rz] [true,false,false] ⟨[],[],[],[],[],[0,1,5,6,7],[5],[]⟩ (O3.app (.c o .n)) (q k (ZaA b 1) g r a)
  .obtain⟨p,a⟩|⟨p,a⟩:=Zaj a
   .obtain⟨v,a⟩:=Zar a;apply Yc a 13 [rz,rz,⟨[(3,.c ((g++([h]:List Int)).length) (Zap (cI .i64) (0:Int) (g++([h]:List Int))))],[],[],[],[],[(2,(([h]:List Int).length,Zap (cI .i64) (0:Int) ([h]:List Int)))],[]⟩,rz] [false,true] ⟨[],[],[],[],[],[4],[47],[(47,99999)]⟩ (.c m (.c p (.c (show ([h]:List Int).length=1/\∀i j,i<1->j<1->Zap (cI .i64) (0:Int) ([h]:List Int) i j=(([h]:List Int).flatMap (cI .i64)).getD (i * 1+j) .junk from⟨rfl,fun i j hi hj=>ZaO (sz:=1) (e:=(cI .i64)) (d:=(0:Int)) (fun _=>rfl) ([h]:List Int) i j hi hj⟩) (.c (Zcy (sz:=1) (e:=(cI .i64)) (d:=(0:Int)) g ([h]:List Int)) (.c v.1 (.c v.2 .n))))))
   .apply Yc a 13 [rz,rz,rz] [false,false] ⟨[],[],[],[],[],[4],[5],[(5,99999)]⟩ (.c m (.c p .n))
def Zfu(a:List Int)(b:Int):Option (List Int):=ZbH a b (((a.length:Int)-(0:Int)).toNat+2) false (0:Int) ([]:List Int)
theorem ZnE(a:List Int)(b:Int)(r:List Int)(f:Zfu a b=some r):Yq 87 [] [.one (cL 1 (cI .i64) (0:Int) a),Yj b] [(99999,.rows 3 1 r.length (Zap (cI .i64) (0:Int) r))] (.one (.osl 99999 r.length)):=by
 refine Yx Tryz.func87 fun S0 w0=>?_;unfold Zfu at f;exact Ye 10 [rz,rA [(0,.c ([]:List Int).length (Zap (cI .i64) (0:Int) ([]:List Int)))],rz,rz] [] ⟨[],[],[],[],[],[0,1,5,6,7],[8],[(8,5)]⟩ (.c (show ([]:List Int).length=0 from rfl) (.c (show ∀i j,i<0->j<1->Zap (cI .i64) (0:Int) ([]:List Int) i j=(([]:List Int).flatMap (cI .i64)).getD (i * 1+j) .junk from(fun i j hi hj=>ZaO (sz:=1) (e:=(cI .i64)) (d:=(0:Int)) (fun _=>rfl) ([]:List Int) i j hi hj)) .n)) (ZmC S0 w0 a b (((a.length:Int)-(0:Int)).toNat+2) false (0:Int) ([]:List Int) r f)
theorem Zon(a:List Int)(b:Int)(r:List Int)(c:Zfu a b=some r):Yp 87 [.one (cL 1 (cI .i64) (0:Int) a),Yj b] (.one (cL 1 (cI .i64) (0:Int) r)):=(ZnE a b r c).pure
def Zdg(b:List Int)(d:Int):Nat->Int->(List Int)->Option (List Int)|0,_,_=>none|fu+1,a,c=>bif(decide (a<(b.length:Int)))then need (0<=a/\a<(b.length:Int))<|bif((b.getD a.toNat (0:Int)) != d)then need ((c++([(b.getD a.toNat (0:Int))]:List Int)).length * 8<=140737488355328/\(c++([(b.getD a.toNat (0:Int))]:List Int)).length<=maxLen)<|Zdg b d fu (ZaA a 1) (c++([(b.getD a.toNat (0:Int))]:List Int))else Zdg b d fu (ZaA a 1) c else some c
theorem Zma(S0:Nat->Prop)(w0:ZaW)(f:List Int)(m:Int):∀(h:Nat)(a:Int)(g r:List Int),Zdg f m h a g=some r->Yt 28 S0 w0 Tryz.f88 [(99999,.rows 3 1 r.length (Zap (cI .i64) (0:Int) r))] (.one (.osl 99999 r.length)) [1,1,0,1,0] ⟨[(0,.one (cL 1 (cI .i64) (0:Int) f)),(1,(Yj m)),(5,.one (.osl 5 g.length)),(6,(Yj a))],[(5,.rows 3 1 g.length (Zap (cI .i64) (0:Int) g))]⟩:=by
 intro h;induction h with
 |zero=>
  intro a g r b;simp[Zdg]at b
 |succ h o=>
  intro a g r b;unfold Zdg at b;obtain⟨k,b⟩|⟨k,b⟩:=Zaj b
  .obtain⟨o2,b⟩:=Zar b;obtain⟨l,b⟩|⟨l,b⟩:=Zaj b
   .obtain⟨p,b⟩:=Zar b;exact Ye 15 [rz,rz,⟨[(6,.c ((g++([(f.getD a.toNat (0:Int))]:List Int)).length) (Zap (cI .i64) (0:Int) (g++([(f.getD a.toNat (0:Int))]:List Int))))],[],[],[],[],[(5,(([(f.getD a.toNat (0:Int))]:List Int).length,Zap (cI .i64) (0:Int) ([(f.getD a.toNat (0:Int))]:List Int)))],[]⟩,rz] [true,true] ⟨[],[],[],[],[],[0,1,5,6],[26],[(26,5)]⟩ (.c k (.c o2 (.c l (.c o2 (.c (show ([(f.getD a.toNat (0:Int))]:List Int).length=1/\∀i j,i<1->j<1->Zap (cI .i64) (0:Int) ([(f.getD a.toNat (0:Int))]:List Int) i j=(([(f.getD a.toNat (0:Int))]:List Int).flatMap (cI .i64)).getD (i * 1+j) .junk from⟨rfl,fun i j hi hj=>ZaO (sz:=1) (e:=(cI .i64)) (d:=(0:Int)) (fun _=>rfl) ([(f.getD a.toNat (0:Int))]:List Int) i j hi hj⟩) (.c (Zcy (sz:=1) (e:=(cI .i64)) (d:=(0:Int)) g ([(f.getD a.toNat (0:Int))]:List Int)) (.c p.1 (.c p.2 .n)))))))) (o (ZaA a 1) (g++([(f.getD a.toNat (0:Int))]:List Int)) r b)
   .exact Ye 15 [rz,rz,rz] [true,false] ⟨[],[],[],[],[],[0,1,5,6],[5],[]⟩ (.c k (.c o2 (.c l .n))) (o (ZaA a 1) g r b)
  .apply Yc b 8 [rz,rz] [false] ⟨[],[],[],[],[],[4],[5],[(5,99999)]⟩ (.c k .n)
def ZeR(a:List Int)(b:Int):Option (List Int):=Zdg a b (((a.length:Int)-(0:Int)).toNat+2) (0:Int) ([]:List Int)
theorem ZmT(a:List Int)(b:Int)(r:List Int)(f:ZeR a b=some r):Yq 88 [] [.one (cL 1 (cI .i64) (0:Int) a),Yj b] [(99999,.rows 3 1 r.length (Zap (cI .i64) (0:Int) r))] (.one (.osl 99999 r.length)):=by
 refine Yx Tryz.func88 fun S0 w0=>?_;unfold ZeR at f;exact Ye 8 [rz,rA [(0,.c ([]:List Int).length (Zap (cI .i64) (0:Int) ([]:List Int)))],rz] [] ⟨[],[],[],[],[],[0,1,5,6],[7],[(7,5)]⟩ (.c (show ([]:List Int).length=0 from rfl) (.c (show ∀i j,i<0->j<1->Zap (cI .i64) (0:Int) ([]:List Int) i j=(([]:List Int).flatMap (cI .i64)).getD (i * 1+j) .junk from(fun i j hi hj=>ZaO (sz:=1) (e:=(cI .i64)) (d:=(0:Int)) (fun _=>rfl) ([]:List Int) i j hi hj)) .n)) (Zma S0 w0 a b (((a.length:Int)-(0:Int)).toNat+2) (0:Int) ([]:List Int) r f)
theorem ZnD(a:List Int)(b:Int)(r:List Int)(c:ZeR a b=some r):Yp 88 [.one (cL 1 (cI .i64) (0:Int) a),Yj b] (.one (cL 1 (cI .i64) (0:Int) r)):=(ZmT a b r c).pure
def Zdy(b:ZaC)(a:Zay):Option Zah:=bif(a.fKind==(1:Int))then some (Zah.mk b.fIn (Zab.mk (Zan.mk (Zai.mk false 0 0) 0) false 0 (ZaD.mk 0 0) 0 0) ([]:(List Zaf)) ([]:(List Zaa)))else bif(a.fKind==(2:Int))then some (Zah.mk b.fOut (Zab.mk (Zan.mk (Zai.mk false 0 0) 0) false 0 (ZaD.mk 0 0) 0 0) ([]:(List Zaf)) ([]:(List Zaa)))else bif(a.fKind==(3:Int))then some (Zah.mk 0 (Zab.mk (Zan.mk (Zai.mk false 0 0) 0) false 0 (ZaD.mk 0 0) 0 0) b.fBans ([]:(List Zaa)))else bif(a.fKind==(4:Int))then some (Zah.mk 0 (Zab.mk (Zan.mk (Zai.mk false 0 0) 0) false 0 (ZaD.mk 0 0) 0 0) ([]:(List Zaf)) b.fBook)else bif(a.fKind==(5:Int))then need (0<=a.fShard/\a.fShard<(b.fShards.length:Int))<|some (Zah.mk ((b.fShards.getD a.fShard.toNat Zad.d).fSize) (Zab.mk (Zan.mk (Zai.mk false 0 0) 0) false 0 (ZaD.mk 0 0) 0 0) ([]:(List Zaf)) ([]:(List Zaa)))else need (0<=a.fShard/\a.fShard<(b.fShards.length:Int))<|bif(decide (a.fSlot<((((b.fShards.getD a.fShard.toNat Zad.d).fSlots).length:Nat):Int)))then need (0<=a.fSlot/\a.fSlot<((((b.fShards.getD a.fShard.toNat Zad.d).fSlots).length:Nat):Int))<|some (Zah.mk 0 (((b.fShards.getD a.fShard.toNat Zad.d).fSlots).getD a.fSlot.toNat Zab.d) ([]:(List Zaf)) ([]:(List Zaa)))else some (Zah.mk 0 (Zab.mk (Zan.mk (Zai.mk false 0 0) 0) false 0 (ZaD.mk 0 0) 0 0) ([]:(List Zaf)) ([]:(List Zaa)))
theorem ZpI(j:ZaC)(k:Zay)(r:Zah)(a:Zdy j k=some r):Yp 89 [.agg (ZaC.c j),.agg (Zay.c k)] (.agg (Zah.c r)):=by
 refine Yw Tryz.func89 fun S0 w0=>?_;unfold Zdy at a;obtain⟨b,a⟩|⟨b,a⟩:=Zaj a
 .apply Yb a 11 [rz,rz,rz,rz] [true] [] [(4,[(11,cL 5 Zaf.c Zaf.d []),(12,cL 7 Zaa.c Zaa.d [])])] [] (.c b .n)
 .obtain⟨e,a⟩|⟨e,a⟩:=Zaj a
  .apply Yb a 14 [rz,rz,rz,rz,rz] [false,true] [] [(4,[(11,cL 5 Zaf.c Zaf.d []),(12,cL 7 Zaa.c Zaa.d [])])] [] (.c b (.c e .n))
  .obtain⟨f,a⟩|⟨f,a⟩:=Zaj a
   .apply Yb a 17 [rz,rz,rz,rz,rz,rz] [false,false,true] [] [(4,[(12,cL 7 Zaa.c Zaa.d [])])] [] (.c b (.c e (.c f .n)))
   .obtain⟨g,a⟩|⟨g,a⟩:=Zaj a
    .apply Yb a 20 [rz,rz,rz,rz,rz,rz,rz] [false,false,false,true] [] [(4,[(11,cL 5 Zaf.c Zaf.d [])])] [] (.c b (.c e (.c f (.c g .n))))
    .obtain⟨h,a⟩|⟨h,a⟩:=Zaj a
     .obtain⟨m,a⟩:=Zar a;apply Yb a 23 [rz,rz,rz,rz,rz,rz,rz,rz] [false,false,false,false,true] [] [(4,[(11,cL 5 Zaf.c Zaf.d []),(12,cL 7 Zaa.c Zaa.d [])])] [] (.c b (.c e (.c f (.c g (.c h (.c m .n))))))
     .obtain⟨l,a⟩:=Zar a;have O1:Obl _:=(.c b (.c e (.c f (.c g (.c h (.c l .n))))));obtain⟨i,a⟩|⟨i,a⟩:=Zaj a
      .obtain⟨o,a⟩:=Zar a;apply Yb a 29 [rz,rz,rz,rz,rz,rz,rz,rz,rz] [false,false,false,false,false,true] [] [(4,[(11,cL 5 Zaf.c Zaf.d []),(12,cL 7 Zaa.c Zaa.d [])])] [] (O1.app (.c i (.c l (.c o .n))))
      .apply Yb a 30 [rz,rz,rz,rz,rz,rz,rz,rz,rz] [false,false,false,false,false,false] [] [(4,[(11,cL 5 Zaf.c Zaf.d []),(12,cL 7 Zaa.c Zaa.d [])])] [] (O1.app (.c i .n))
def Zdk(a:ZaC)(b:Zay)(c:Zah):Option ZaC:=bif(b.fKind==(3:Int))then some (ZaC.mk a.fIn a.fOut c.fBans a.fBook a.fShards a.fLocks)else bif(b.fKind==(4:Int))then some (ZaC.mk a.fIn a.fOut a.fBans c.fBook a.fShards a.fLocks)else need ((([]:List Zad)++a.fShards).length * 32<=140737488355328/\(([]:List Zad)++a.fShards).length<=maxLen)<|need (0<=b.fShard/\b.fShard<(((([]:List Zad)++a.fShards).length:Nat):Int))<|bif(b.fKind==(5:Int))then some (ZaC.mk a.fIn a.fOut a.fBans a.fBook ((([]:List Zad)++a.fShards).set b.fShard.toNat (Zad.mk c.fN (((([]:List Zad)++a.fShards).getD b.fShard.toNat Zad.d).fSlots))) a.fLocks)else bif(decide (b.fSlot<(((((([]:List Zad)++a.fShards).getD b.fShard.toNat Zad.d).fSlots).length:Nat):Int)))then need ((([]:List Zab)++(((([]:List Zad)++a.fShards).getD b.fShard.toNat Zad.d).fSlots)).length * 80<=140737488355328/\(([]:List Zab)++(((([]:List Zad)++a.fShards).getD b.fShard.toNat Zad.d).fSlots)).length<=maxLen)<|need (0<=b.fSlot/\b.fSlot<(((([]:List Zab)++(((([]:List Zad)++a.fShards).getD b.fShard.toNat Zad.d).fSlots)).length:Nat):Int))<|some (ZaC.mk a.fIn a.fOut a.fBans a.fBook ((([]:List Zad)++a.fShards).set b.fShard.toNat (Zad.mk (((([]:List Zad)++a.fShards).getD b.fShard.toNat Zad.d).fSize) ((([]:List Zab)++(((([]:List Zad)++a.fShards).getD b.fShard.toNat Zad.d).fSlots)).set b.fSlot.toNat c.fPeer))) a.fLocks)else bif(b.fSlot==(((((([]:List Zad)++a.fShards).getD b.fShard.toNat Zad.d).fSlots).length:Nat):Int))then need ((([]:List Zab)++(((([]:List Zad)++a.fShards).getD b.fShard.toNat Zad.d).fSlots)).length * 80<=140737488355328/\(([]:List Zab)++(((([]:List Zad)++a.fShards).getD b.fShard.toNat Zad.d).fSlots)).length<=maxLen)<|need (((([]:List Zab)++(((([]:List Zad)++a.fShards).getD b.fShard.toNat Zad.d).fSlots))++([c.fPeer]:List Zab)).length * 80<=140737488355328/\((([]:List Zab)++(((([]:List Zad)++a.fShards).getD b.fShard.toNat Zad.d).fSlots))++([c.fPeer]:List Zab)).length<=maxLen)<|some (ZaC.mk a.fIn a.fOut a.fBans a.fBook ((([]:List Zad)++a.fShards).set b.fShard.toNat (Zad.mk (((([]:List Zad)++a.fShards).getD b.fShard.toNat Zad.d).fSize) ((([]:List Zab)++(((([]:List Zad)++a.fShards).getD b.fShard.toNat Zad.d).fSlots))++([c.fPeer]:List Zab)))) a.fLocks)else some (ZaC.mk a.fIn a.fOut a.fBans a.fBook ((([]:List Zad)++a.fShards).set b.fShard.toNat ((([]:List Zad)++a.fShards).getD b.fShard.toNat Zad.d)) a.fLocks)
theorem ZoX(a:ZaC)(b:Zay)(f:Zah)(r:ZaC)(g:Zdk a b f=some r):Yp 90 [.agg (ZaC.c a),.agg (Zay.c b),.agg (Zah.c f)] (.agg (ZaC.c r)):=by
 refine Yw Tryz.func90 fun S0 w0=>?_;unfold Zdk at g;obtain⟨o,g⟩|⟨o,g⟩:=Zaj g
 .apply Ya g 13 [rz,rz,rz,rz,rz] [true] (.c o .n)
 .obtain⟨q,g⟩|⟨q,g⟩:=Zaj g
  .apply Ya g 16 [rz,rz,rz,rz,rz,rz] [false,true] (.c o (.c q .n))
  .obtain⟨t,g⟩:=Zar g;obtain⟨h,g⟩:=Zar g
   let R1:List RA:=[rz,rz,rz,rz,rA [(0,.c ([]:List Zad).length (Zap Zad.c Zad.d ([]:List Zad))),(3,.c ((([]:List Zad)++a.fShards).length) (Zap Zad.c Zad.d (([]:List Zad)++a.fShards)))],rz,rz,rz]
   have O2:Obl _:=(.c o (.c q (.c (show ([]:List Zad).length=0 from rfl) (.c (show ∀i j,i<0->j<2->Zap Zad.c Zad.d ([]:List Zad) i j=(([]:List Zad).flatMap Zad.c).getD (i * 2+j) .junk from(fun i j hi hj=>ZaO (sz:=2) (e:=Zad.c) (d:=Zad.d) (fun _=>rfl) ([]:List Zad) i j hi hj)) (.c (Zcy (sz:=2) (e:=Zad.c) (d:=Zad.d) ([]:List Zad) a.fShards) (.c t.1 (.c t.2 (.c h (.c (show b.fShard.toNat<(([]:List Zad)++a.fShards).length from(ltOf h)) .n)))))))));obtain⟨k,g⟩|⟨k,g⟩:=Zaj g
   .apply Yb g 27 (R1++[rA [(6,.c ((([]:List Zad)++a.fShards).set b.fShard.toNat (Zad.mk f.fN (((([]:List Zad)++a.fShards).getD b.fShard.toNat Zad.d).fSlots))).length (Zap Zad.c Zad.d ((([]:List Zad)++a.fShards).set b.fShard.toNat (Zad.mk f.fN (((([]:List Zad)++a.fShards).getD b.fShard.toNat Zad.d).fSlots)))))],rz]) [false,false,true] [25] [] [] (O2.app (.c k (.c h (.c (show ((([]:List Zad)++a.fShards).set b.fShard.toNat (Zad.mk f.fN (((([]:List Zad)++a.fShards).getD b.fShard.toNat Zad.d).fSlots))).length=(([]:List Zad)++a.fShards).length from List.length_set) (.c (show b.fShard.toNat<(([]:List Zad)++a.fShards).length from(ltOf h)) (.c (show ExtU 2 ((([]:List Zad)++a.fShards).length) (Zap Zad.c Zad.d (([]:List Zad)++a.fShards)) b.fShard.toNat 0 (Zad.c (Zad.mk f.fN (((([]:List Zad)++a.fShards).getD b.fShard.toNat Zad.d).fSlots))) (Zap Zad.c Zad.d ((([]:List Zad)++a.fShards).set b.fShard.toNat (Zad.mk f.fN (((([]:List Zad)++a.fShards).getD b.fShard.toNat Zad.d).fSlots))))from(ZkK _ _ _ rfl)) .n))))))
   .obtain⟨p,g⟩|⟨p,g⟩:=Zaj g
    .obtain⟨u,v,g⟩:=Yu g;apply Yb g 32 (R1++[rA [(0,.c ([]:List Zab).length (Zap Zab.c Zab.d ([]:List Zab))),(3,.c ((([]:List Zab)++(((([]:List Zad)++a.fShards).getD b.fShard.toNat Zad.d).fSlots)).length) (Zap Zab.c Zab.d (([]:List Zab)++(((([]:List Zad)++a.fShards).getD b.fShard.toNat Zad.d).fSlots))))],rA [(7,.c ((([]:List Zab)++(((([]:List Zad)++a.fShards).getD b.fShard.toNat Zad.d).fSlots)).set b.fSlot.toNat f.fPeer).length (Zap Zab.c Zab.d ((([]:List Zab)++(((([]:List Zad)++a.fShards).getD b.fShard.toNat Zad.d).fSlots)).set b.fSlot.toNat f.fPeer)))],⟨[(6,.c ((([]:List Zad)++a.fShards).set b.fShard.toNat (Zad.mk (((([]:List Zad)++a.fShards).getD b.fShard.toNat Zad.d).fSize) ((([]:List Zab)++(((([]:List Zad)++a.fShards).getD b.fShard.toNat Zad.d).fSlots)).set b.fSlot.toNat f.fPeer))).length (Zap Zad.c Zad.d ((([]:List Zad)++a.fShards).set b.fShard.toNat (Zad.mk (((([]:List Zad)++a.fShards).getD b.fShard.toNat Zad.d).fSize) ((([]:List Zab)++(((([]:List Zad)++a.fShards).getD b.fShard.toNat Zad.d).fSlots)).set b.fSlot.toNat f.fPeer)))))],[],[(6,[48])],[],[],[],[]⟩,rz]) [false,false,false,true] [25] [] [] (O2.app (.c k (.c p (.c (show ([]:List Zab).length=0 from rfl) (.c (show ∀i j,i<0->j<10->Zap Zab.c Zab.d ([]:List Zab) i j=(([]:List Zab).flatMap Zab.c).getD (i * 10+j) .junk from(fun i j hi hj=>ZaO (sz:=10) (e:=Zab.c) (d:=Zab.d) (fun _=>rfl) ([]:List Zab) i j hi hj)) (.c (Zcy (sz:=10) (e:=Zab.c) (d:=Zab.d) ([]:List Zab) (((([]:List Zad)++a.fShards).getD b.fShard.toNat Zad.d).fSlots)) (.c u.1 (.c u.2 (.c v (.c (show ((([]:List Zab)++(((([]:List Zad)++a.fShards).getD b.fShard.toNat Zad.d).fSlots)).set b.fSlot.toNat f.fPeer).length=(([]:List Zab)++(((([]:List Zad)++a.fShards).getD b.fShard.toNat Zad.d).fSlots)).length from List.length_set) (.c (show b.fSlot.toNat<(([]:List Zab)++(((([]:List Zad)++a.fShards).getD b.fShard.toNat Zad.d).fSlots)).length from(ltOf v)) (.c (show ExtU 10 ((([]:List Zab)++(((([]:List Zad)++a.fShards).getD b.fShard.toNat Zad.d).fSlots)).length) (Zap Zab.c Zab.d (([]:List Zab)++(((([]:List Zad)++a.fShards).getD b.fShard.toNat Zad.d).fSlots))) b.fSlot.toNat 0 (Zab.c f.fPeer) (Zap Zab.c Zab.d ((([]:List Zab)++(((([]:List Zad)++a.fShards).getD b.fShard.toNat Zad.d).fSlots)).set b.fSlot.toNat f.fPeer))from(ZkK _ _ _ rfl)) (.c h (.c (show ((([]:List Zad)++a.fShards).set b.fShard.toNat (Zad.mk (((([]:List Zad)++a.fShards).getD b.fShard.toNat Zad.d).fSize) ((([]:List Zab)++(((([]:List Zad)++a.fShards).getD b.fShard.toNat Zad.d).fSlots)).set b.fSlot.toNat f.fPeer))).length=(([]:List Zad)++a.fShards).length from List.length_set) (.c (show b.fShard.toNat<(([]:List Zad)++a.fShards).length from(ltOf h)) (.c (show ExtU 2 ((([]:List Zad)++a.fShards).length) (Zap Zad.c Zad.d (([]:List Zad)++a.fShards)) b.fShard.toNat 0 (Zad.c (Zad.mk (((([]:List Zad)++a.fShards).getD b.fShard.toNat Zad.d).fSize) ((([]:List Zab)++(((([]:List Zad)++a.fShards).getD b.fShard.toNat Zad.d).fSlots)).set b.fSlot.toNat f.fPeer))) (Zap Zad.c Zad.d ((([]:List Zad)++a.fShards).set b.fShard.toNat (Zad.mk (((([]:List Zad)++a.fShards).getD b.fShard.toNat Zad.d).fSize) ((([]:List Zab)++(((([]:List Zad)++a.fShards).getD b.fShard.toNat Zad.d).fSlots)).set b.fSlot.toNat f.fPeer))))from(ZkK _ _ _ rfl)) .n))))))))))))))))
    .obtain⟨s,g⟩|⟨s,g⟩:=Zaj g
     .obtain⟨l,m,g⟩:=Yu g;apply Yb g 33 (R1++[rz,⟨[(0,.c ([]:List Zab).length (Zap Zab.c Zab.d ([]:List Zab))),(3,.c ((([]:List Zab)++(((([]:List Zad)++a.fShards).getD b.fShard.toNat Zad.d).fSlots)).length) (Zap Zab.c Zab.d (([]:List Zab)++(((([]:List Zad)++a.fShards).getD b.fShard.toNat Zad.d).fSlots)))),(7,.c (((([]:List Zab)++(((([]:List Zad)++a.fShards).getD b.fShard.toNat Zad.d).fSlots))++([f.fPeer]:List Zab)).length) (Zap Zab.c Zab.d ((([]:List Zab)++(((([]:List Zad)++a.fShards).getD b.fShard.toNat Zad.d).fSlots))++([f.fPeer]:List Zab))))],[],[],[],[],[(6,(([f.fPeer]:List Zab).length,Zap Zab.c Zab.d ([f.fPeer]:List Zab)))],[]⟩,⟨[(6,.c ((([]:List Zad)++a.fShards).set b.fShard.toNat (Zad.mk (((([]:List Zad)++a.fShards).getD b.fShard.toNat Zad.d).fSize) ((([]:List Zab)++(((([]:List Zad)++a.fShards).getD b.fShard.toNat Zad.d).fSlots))++([f.fPeer]:List Zab)))).length (Zap Zad.c Zad.d ((([]:List Zad)++a.fShards).set b.fShard.toNat (Zad.mk (((([]:List Zad)++a.fShards).getD b.fShard.toNat Zad.d).fSize) ((([]:List Zab)++(((([]:List Zad)++a.fShards).getD b.fShard.toNat Zad.d).fSlots))++([f.fPeer]:List Zab))))))],[],[(6,[70])],[],[],[],[]⟩,rz]) [false,false,false,false,true] [25] [] [] (O2.app (.c k (.c p (.c s (.c (show ([]:List Zab).length=0 from rfl) (.c (show ∀i j,i<0->j<10->Zap Zab.c Zab.d ([]:List Zab) i j=(([]:List Zab).flatMap Zab.c).getD (i * 10+j) .junk from(fun i j hi hj=>ZaO (sz:=10) (e:=Zab.c) (d:=Zab.d) (fun _=>rfl) ([]:List Zab) i j hi hj)) (.c (Zcy (sz:=10) (e:=Zab.c) (d:=Zab.d) ([]:List Zab) (((([]:List Zad)++a.fShards).getD b.fShard.toNat Zad.d).fSlots)) (.c l.1 (.c l.2 (.c (show ([f.fPeer]:List Zab).length=1/\∀i j,i<1->j<10->Zap Zab.c Zab.d ([f.fPeer]:List Zab) i j=(([f.fPeer]:List Zab).flatMap Zab.c).getD (i * 10+j) .junk from⟨rfl,fun i j hi hj=>ZaO (sz:=10) (e:=Zab.c) (d:=Zab.d) (fun _=>rfl) ([f.fPeer]:List Zab) i j hi hj⟩) (.c (Zcy (sz:=10) (e:=Zab.c) (d:=Zab.d) (([]:List Zab)++(((([]:List Zad)++a.fShards).getD b.fShard.toNat Zad.d).fSlots)) ([f.fPeer]:List Zab)) (.c m.1 (.c m.2 (.c h (.c (show ((([]:List Zad)++a.fShards).set b.fShard.toNat (Zad.mk (((([]:List Zad)++a.fShards).getD b.fShard.toNat Zad.d).fSize) ((([]:List Zab)++(((([]:List Zad)++a.fShards).getD b.fShard.toNat Zad.d).fSlots))++([f.fPeer]:List Zab)))).length=(([]:List Zad)++a.fShards).length from List.length_set) (.c (show b.fShard.toNat<(([]:List Zad)++a.fShards).length from(ltOf h)) (.c (show ExtU 2 ((([]:List Zad)++a.fShards).length) (Zap Zad.c Zad.d (([]:List Zad)++a.fShards)) b.fShard.toNat 0 (Zad.c (Zad.mk (((([]:List Zad)++a.fShards).getD b.fShard.toNat Zad.d).fSize) ((([]:List Zab)++(((([]:List Zad)++a.fShards).getD b.fShard.toNat Zad.d).fSlots))++([f.fPeer]:List Zab)))) (Zap Zad.c Zad.d ((([]:List Zad)++a.fShards).set b.fShard.toNat (Zad.mk (((([]:List Zad)++a.fShards).getD b.fShard.toNat Zad.d).fSize) ((([]:List Zab)++(((([]:List Zad)++a.fShards).getD b.fShard.toNat Zad.d).fSlots))++([f.fPeer]:List Zab)))))from(ZkK _ _ _ rfl)) .n)))))))))))))))))
     .apply Yb g 33 (R1++[rz,rA [(6,.c ((([]:List Zad)++a.fShards).set b.fShard.toNat ((([]:List Zad)++a.fShards).getD b.fShard.toNat Zad.d)).length (Zap Zad.c Zad.d ((([]:List Zad)++a.fShards).set b.fShard.toNat ((([]:List Zad)++a.fShards).getD b.fShard.toNat Zad.d))))],rz]) [false,false,false,false,false] [25] [] [] (O2.app (.c k (.c p (.c s (.c h (.c (show ((([]:List Zad)++a.fShards).set b.fShard.toNat ((([]:List Zad)++a.fShards).getD b.fShard.toNat Zad.d)).length=(([]:List Zad)++a.fShards).length from List.length_set) (.c (show b.fShard.toNat<(([]:List Zad)++a.fShards).length from(ltOf h)) (.c (show ExtU 2 ((([]:List Zad)++a.fShards).length) (Zap Zad.c Zad.d (([]:List Zad)++a.fShards)) b.fShard.toNat 0 (Zad.c ((([]:List Zad)++a.fShards).getD b.fShard.toNat Zad.d)) (Zap Zad.c Zad.d ((([]:List Zad)++a.fShards).set b.fShard.toNat ((([]:List Zad)++a.fShards).getD b.fShard.toNat Zad.d)))from(ZkK _ _ _ rfl)) .n))))))))
def ZaS(a:ZaC)(b:ZaJ)(d:Int):Option (ZaC×Zah):=(Zbd a b).bind fun g=>bif(!g)then some (a,(Zah.mk 0 (Zab.mk (Zan.mk (Zai.mk false 0 0) 0) false 0 (ZaD.mk 0 0) 0 0) ([]:(List Zaf)) ([]:(List Zaa))))else(ZbA a b.fLock).bind fun c=>bif(b.fKind==(1:Int))then(Zcj a b.fLock (Zat.mk (ZaA d 1) c.fShare)).bind fun h=>some (h,(Zah.mk 0 (Zab.mk (Zan.mk (Zai.mk false 0 0) 0) false 0 (ZaD.mk 0 0) 0 0) ([]:(List Zaf)) ([]:(List Zaa))))else bif(b.fKind==(2:Int))then(Zfu c.fShare d).bind fun i=>(Zcj a b.fLock (Zat.mk c.fBy i)).bind fun j=>some (j,(Zah.mk 0 (Zab.mk (Zan.mk (Zai.mk false 0 0) 0) false 0 (ZaD.mk 0 0) 0 0) ([]:(List Zaf)) ([]:(List Zaa))))else bif(b.fKind==(3:Int))then bif(c.fBy==(ZaA d 1))then(Zcj a b.fLock (Zat.mk 0 c.fShare)).bind fun k=>some (k,(Zah.mk 0 (Zab.mk (Zan.mk (Zai.mk false 0 0) 0) false 0 (ZaD.mk 0 0) 0 0) ([]:(List Zaf)) ([]:(List Zaa))))else(Zcj a b.fLock c).bind fun l=>some (l,(Zah.mk 0 (Zab.mk (Zan.mk (Zai.mk false 0 0) 0) false 0 (ZaD.mk 0 0) 0 0) ([]:(List Zaf)) ([]:(List Zaa))))else bif(b.fKind==(4:Int))then(ZeR c.fShare d).bind fun m=>(Zcj a b.fLock (Zat.mk c.fBy m)).bind fun n=>some (n,(Zah.mk 0 (Zab.mk (Zan.mk (Zai.mk false 0 0) 0) false 0 (ZaD.mk 0 0) 0 0) ([]:(List Zaf)) ([]:(List Zaa))))else bif(b.fKind==(5:Int))then(Zdy a b.fLoc).bind fun e=>some (a,e)else bif(b.fKind==(6:Int))then(Zdk a b.fLoc b.fVal).bind fun f=>some (f,(Zah.mk 0 (Zab.mk (Zan.mk (Zai.mk false 0 0) 0) false 0 (ZaD.mk 0 0) 0 0) ([]:(List Zaf)) ([]:(List Zaa))))else bif(b.fKind==(7:Int))then bif(b.fLoc.fKind==(1:Int))then bif(a.fIn==b.fOld)then some ((ZaC.mk b.fNew a.fOut a.fBans a.fBook a.fShards a.fLocks),(Zah.mk 1 (Zab.mk (Zan.mk (Zai.mk false 0 0) 0) false 0 (ZaD.mk 0 0) 0 0) ([]:(List Zaf)) ([]:(List Zaa))))else bif(b.fLoc.fKind==(2:Int))then bif(a.fOut==b.fOld)then some ((ZaC.mk a.fIn b.fNew a.fBans a.fBook a.fShards a.fLocks),(Zah.mk 1 (Zab.mk (Zan.mk (Zai.mk false 0 0) 0) false 0 (ZaD.mk 0 0) 0 0) ([]:(List Zaf)) ([]:(List Zaa))))else some (a,(Zah.mk 0 (Zab.mk (Zan.mk (Zai.mk false 0 0) 0) false 0 (ZaD.mk 0 0) 0 0) ([]:(List Zaf)) ([]:(List Zaa))))else some (a,(Zah.mk 0 (Zab.mk (Zan.mk (Zai.mk false 0 0) 0) false 0 (ZaD.mk 0 0) 0 0) ([]:(List Zaf)) ([]:(List Zaa))))else bif(b.fLoc.fKind==(2:Int))then bif(a.fOut==b.fOld)then some ((ZaC.mk a.fIn b.fNew a.fBans a.fBook a.fShards a.fLocks),(Zah.mk 1 (Zab.mk (Zan.mk (Zai.mk false 0 0) 0) false 0 (ZaD.mk 0 0) 0 0) ([]:(List Zaf)) ([]:(List Zaa))))else some (a,(Zah.mk 0 (Zab.mk (Zan.mk (Zai.mk false 0 0) 0) false 0 (ZaD.mk 0 0) 0 0) ([]:(List Zaf)) ([]:(List Zaa))))else some (a,(Zah.mk 0 (Zab.mk (Zan.mk (Zai.mk false 0 0) 0) false 0 (ZaD.mk 0 0) 0 0) ([]:(List Zaf)) ([]:(List Zaa))))else some (a,(Zah.mk 0 (Zab.mk (Zan.mk (Zai.mk false 0 0) 0) false 0 (ZaD.mk 0 0) 0 0) ([]:(List Zaf)) ([]:(List Zaa))))
theorem Zrm(B:ZaC)(C:ZaJ)(D:Int)(r:(ZaC×Zah))(a:ZaS B C D=some r):Yp 30 [.agg (ZaC.c B),.agg (ZaJ.c C),Yj D] (.tup [(true,ZaC.c r.1),(true,Zah.c r.2)]):=by
 refine Yw Tryz.func30 fun S0 w0=>?_;unfold ZaS at a;obtain⟨E,F,a⟩:=Zac a;obtain⟨s,a⟩|⟨s,a⟩:=Zaj a
 .apply Yb a 8 [rz,rA [(2,aB E)],rz] [true] [] [(7,[(11,cL 5 Zaf.c Zaf.d []),(12,cL 7 Zaa.c Zaa.d [])])] [] (.c (Zix _ _ _ F) (.c s .n))
 .obtain⟨G,H,a⟩:=Zac a
  let R1:List RA:=[rz,rA [(2,aB E)],rA [(3,aG (Zat.c G))],rz,rz,rz]
  have O2:Obl _:=(.c (Zix _ _ _ F) (.c s (.c (ZkS _ _ _ H) .n)));obtain⟨g,a⟩|⟨g,a⟩:=Zaj a
  .obtain⟨I,J,a⟩:=Zac a;apply Yb a 20 (R1++[rA [(4,aG (ZaC.c I))]]) [false,true] [] [(7,[(11,cL 5 Zaf.c Zaf.d []),(12,cL 7 Zaa.c Zaa.d [])])] [] (O2.app (.c g (.c (ZeS _ _ _ _ J) .n)))
  .obtain⟨k,a⟩|⟨k,a⟩:=Zaj a
   .obtain⟨K,L,M,N,a⟩:=Yv a;apply Yb a 23 (R1++[rA [(3,.r (.one (cL 1 (cI .i64) (0:Int) K)) [])],rA [(4,aG (ZaC.c L))]]) [false,false,true] [] [(7,[(11,cL 5 Zaf.c Zaf.d []),(12,cL 7 Zaa.c Zaa.d [])])] [] (O2.app (.c g (.c k (.c (Zon _ _ _ M) (.c (ZeS _ _ _ _ N) .n)))))
   .obtain⟨l,a⟩|⟨l,a⟩:=Zaj a
    .obtain⟨m,a⟩|⟨m,a⟩:=Zaj a
     .obtain⟨O,t,a⟩:=Zac a;apply Yb a 29 (R1++[rz,rz,rz,rA [(4,aG (ZaC.c O))]]) [false,false,false,true,true] [] [(7,[(11,cL 5 Zaf.c Zaf.d []),(12,cL 7 Zaa.c Zaa.d [])])] [] (O2.app (.c g (.c k (.c l (.c m (.c (ZeS _ _ _ _ t) .n))))))
     .obtain⟨P,u,a⟩:=Zac a;apply Yb a 29 (R1++[rz,rz,rA [(4,aG (ZaC.c P))]]) [false,false,false,true,false] [] [(7,[(11,cL 5 Zaf.c Zaf.d []),(12,cL 7 Zaa.c Zaa.d [])])] [] (O2.app (.c g (.c k (.c l (.c m (.c (ZeS _ _ _ _ u) .n))))))
    .obtain⟨e,a⟩|⟨e,a⟩:=Zaj a
     .obtain⟨Q,R,v,w,a⟩:=Yv a;apply Yb a 29 (R1++[rz,rz,rA [(3,.r (.one (cL 1 (cI .i64) (0:Int) Q)) [])],rA [(4,aG (ZaC.c R))]]) [false,false,false,false,true] [] [(7,[(11,cL 5 Zaf.c Zaf.d []),(12,cL 7 Zaa.c Zaa.d [])])] [] (O2.app (.c g (.c k (.c l (.c e (.c (ZnD _ _ _ v) (.c (ZeS _ _ _ _ w) .n)))))))
     .obtain⟨h,a⟩|⟨h,a⟩:=Zaj a
      .obtain⟨x,y,a⟩:=Zac a;apply Ya a 30 (R1++[rz,rz,rz,rA [(4,aG (Zah.c x))]]) [false,false,false,false,false,true] (O2.app (.c g (.c k (.c l (.c e (.c h (.c (ZpI _ _ _ y) .n)))))))
      .obtain⟨o,a⟩|⟨o,a⟩:=Zaj a
       .obtain⟨z,A,a⟩:=Zac a;apply Yb a 33 (R1++[rz,rz,rz,rz,rA [(5,aG (ZaC.c z))]]) [false,false,false,false,false,false,true] [] [(7,[(11,cL 5 Zaf.c Zaf.d []),(12,cL 7 Zaa.c Zaa.d [])])] [] (O2.app (.c g (.c k (.c l (.c e (.c h (.c o (.c (ZoX _ _ _ _ A) .n))))))))
       .have O3:Obl _:=(O2.app (.c g (.c k (.c l (.c e (.c h (.c o .n)))))));obtain⟨aQ,a⟩|⟨aQ,a⟩:=Zaj a
        .obtain⟨b,a⟩|⟨b,a⟩:=Zaj a
         .obtain⟨f,a⟩|⟨f,a⟩:=Zaj a
          .apply Yb a 42 (R1++[rz,rz,rz,rz,rz,rB [(4,true)],rz,rz]) [false,false,false,false,false,false,false,true,true] [] [(7,[(11,cL 5 Zaf.c Zaf.d []),(12,cL 7 Zaa.c Zaa.d [])])] [] (O3.app (.c aQ (.c b (.c f .n))))
          .obtain⟨i,a⟩|⟨i,a⟩:=Zaj a
           .let R4:List RA:=(R1++[rz,rz,rz,rz,rz,rB [(4,true)],rB [(4,true)],rz])
            obtain⟨p,a⟩|⟨p,a⟩:=Zaj a
            .apply Yb a 46 (R4++[rz]) [false,false,false,false,false,false,false,true,false,true] [] [(7,[(11,cL 5 Zaf.c Zaf.d []),(12,cL 7 Zaa.c Zaa.d [])])] [] (O3.app (.c aQ (.c b (.c f (.c i (.c p .n))))))
            .apply Yb a 46 R4 [false,false,false,false,false,false,false,true,false,false] [] [(7,[(11,cL 5 Zaf.c Zaf.d []),(12,cL 7 Zaa.c Zaa.d [])])] [] (O3.app (.c aQ (.c b (.c f (.c i (.c p .n))))))
           .apply Yb a 46 (R1++[rz,rz,rz,rz,rz,rB [(4,true)],rB [(4,false)],rz]) [false,false,false,false,false,false,false,true,false,false] [] [(7,[(11,cL 5 Zaf.c Zaf.d []),(12,cL 7 Zaa.c Zaa.d [])])] [] (O3.app (.c aQ (.c b (.c f (.c i (.c (show false=false from rfl) .n))))))
         .have O5:Obl _:=(O3.app (.c aQ (.c b (.c (show false=false from rfl) .n))));obtain⟨j,a⟩|⟨j,a⟩:=Zaj a
          .let R6:List RA:=(R1++[rz,rz,rz,rz,rz,rB [(4,false)],rB [(4,true)],rz])
           obtain⟨q,a⟩|⟨q,a⟩:=Zaj a
           .apply Yb a 46 (R6++[rz]) [false,false,false,false,false,false,false,true,false,true] [] [(7,[(11,cL 5 Zaf.c Zaf.d []),(12,cL 7 Zaa.c Zaa.d [])])] [] (O5.app (.c j (.c q .n)))
           .apply Yb a 46 R6 [false,false,false,false,false,false,false,true,false,false] [] [(7,[(11,cL 5 Zaf.c Zaf.d []),(12,cL 7 Zaa.c Zaa.d [])])] [] (O5.app (.c j (.c q .n)))
          .apply Yb a 46 (R1++[rz,rz,rz,rz,rz,rB [(4,false)],rB [(4,false)],rz]) [false,false,false,false,false,false,false,true,false,false] [] [(7,[(11,cL 5 Zaf.c Zaf.d []),(12,cL 7 Zaa.c Zaa.d [])])] [] (O5.app (.c j (.c (show false=false from rfl) .n)))
        .apply Yb a 38 (R1++[rz,rz,rz,rz,rz,rz]) [false,false,false,false,false,false,false,false] [] [(7,[(11,cL 5 Zaf.c Zaf.d []),(12,cL 7 Zaa.c Zaa.d [])])] [] (O3.app (.c aQ .n))
def ZcK(f c:Int)(g:Zau)(h:Zas)(i:ZaB)(j:ZaC)(aj:Int->Int->(List Zah)->Zau->Zas->ZaB->ZaC->Option Bool)(e:List Zah)(b:ZaV):Option Bool:=bif b.fDone then(ZbE g h i).bind fun d=>bif(f==(1:Int))then(Zfd b.fReply d.2).bind fun k=>bif k then(ZeD j).bind fun l=>(Zfc l d.1).bind fun m=>bif m then(ZcB d.1).bind fun n=>(Zgv j d.1 n).bind fun o=>bif o then(Zdp).bind fun p=>some p else some false else some false else some false else some false else bif b.fBroken then some false else(Zbd j b.fOp).bind fun q=>bif(!q)then some false else(ZaS j b.fOp (0:Int)).bind fun a=>need ((e++([a.2]:List Zah)).length * 136<=140737488355328/\(e++([a.2]:List Zah)).length<=maxLen)<|bif b.fOp.fMark then bif(b.fOp.fKind != (7:Int))then aj (ZaA f 1) (ZaA c 1) (e++([a.2]:List Zah)) g h i a.1 else bif(a.2.fN==(1:Int))then aj (ZaA f 1) (ZaA c 1) (e++([a.2]:List Zah)) g h i a.1 else aj f (ZaA c 1) (e++([a.2]:List Zah)) g h i a.1 else aj f (ZaA c 1) (e++([a.2]:List Zah)) g h i a.1
theorem ZdW(S0:Nat->Prop)(w0:ZaW)(D k:Int)(g:Zau)(s:Zas)(h:ZaB)(t:ZaC)(aj:Int->Int->(List Zah)->Zau->Zas->ZaB->ZaC->Option Bool)(aw:∀(kp dG:Int)(kT:List Zah)(bQ:Zau)(gB:Zas)(dy:ZaB)(iV:ZaC)(r:Bool),aj kp dG kT bQ gB dy iV=some r->Ys 113 S0 w0 Tryz.f10 (Yk r) [1,1,1,1,1,0,1,0] ⟨[(3,.one (.ptr 3 0)),(4,.one (.ptr 4 0)),(5,.one (.ptr 5 0)),(7,.one (.ptr 7 0)),(8,.one (.osl 8 kT.length)),(9,(Yj kp)),(10,(Yj dG))],[(8,.rows 48 13 kT.length (Zap Zah.c Zah.d kT)),(3,.box [.lit (.int .i64 bQ.fMaxIn),.lit (.int .i64 bQ.fMaxOut),.lit (.int .i64 bQ.fShards),.lit (.int .i64 bQ.fMaxBans),.lit (.int .i64 bQ.fMaxBook),.lit (.int .u64 bQ.fSecret),.lit (.int .i64 bQ.fQuota.fGroup),.lit (.int .i64 bQ.fQuota.fPing),.lit (.int .i64 bQ.fQuota.fWork),.lit (.int .i64 bQ.fQuota.fTime),.lit (.int .i64 bQ.fHalf),.lit (.int .i64 bQ.fLimit),.lit (.int .i64 bQ.fBanFor),.lit (.int .i64 bQ.fBase),.lit (.int .i64 bQ.fCap),.lit (.int .i64 bQ.fJitter)]),(4,.box [cL 5 Zaf.c Zaf.d gB.fBans,cL 7 Zaa.c Zaa.d gB.fBook,cL 10 Zab.c Zab.d gB.fPeers]),(5,.box [.lit (.int .i64 dy.fKind),.lit (.bool dy.fEnd.fAddr.fV6),.lit (.int .u64 dy.fEnd.fAddr.fHi),.lit (.int .u64 dy.fEnd.fAddr.fLo),.lit (.int .i64 dy.fEnd.fPort),.lit (.bool dy.fNet.fAddr.fV6),.lit (.int .u64 dy.fNet.fAddr.fHi),.lit (.int .u64 dy.fNet.fAddr.fLo),.lit (.int .i64 dy.fNet.fBits),.lit (.int .i64 dy.fNow),.lit (.int .i64 dy.fNum),.lit (.bool dy.fGood)]),(7,.box [.lit (.int .i64 iV.fIn),.lit (.int .i64 iV.fOut),cL 5 Zaf.c Zaf.d iV.fBans,cL 7 Zaa.c Zaa.d iV.fBook,cL 2 Zad.c Zad.d iV.fShards,cL 2 Zat.c Zat.d iV.fLocks])]⟩)(l:List Zah)(a:ZaV)(r:Bool)(b:ZcK D k g s h t aj l a=some r):Ys 113 S0 w0 Tryz.f10 (Yk r) [1,1,1,1,1,0,1,0,0,1,0,0,1] ⟨[(3,.one (.ptr 3 0)),(4,.one (.ptr 4 0)),(5,.one (.ptr 5 0)),(7,.one (.ptr 7 0)),(8,.one (.osl 8 l.length)),(9,(Yj D)),(10,(Yj k)),(11,.one (.ptr 11 0))],[(8,.rows 48 13 l.length (Zap Zah.c Zah.d l)),(3,.box [.lit (.int .i64 g.fMaxIn),.lit (.int .i64 g.fMaxOut),.lit (.int .i64 g.fShards),.lit (.int .i64 g.fMaxBans),.lit (.int .i64 g.fMaxBook),.lit (.int .u64 g.fSecret),.lit (.int .i64 g.fQuota.fGroup),.lit (.int .i64 g.fQuota.fPing),.lit (.int .i64 g.fQuota.fWork),.lit (.int .i64 g.fQuota.fTime),.lit (.int .i64 g.fHalf),.lit (.int .i64 g.fLimit),.lit (.int .i64 g.fBanFor),.lit (.int .i64 g.fBase),.lit (.int .i64 g.fCap),.lit (.int .i64 g.fJitter)]),(4,.box [cL 5 Zaf.c Zaf.d s.fBans,cL 7 Zaa.c Zaa.d s.fBook,cL 10 Zab.c Zab.d s.fPeers]),(5,.box [.lit (.int .i64 h.fKind),.lit (.bool h.fEnd.fAddr.fV6),.lit (.int .u64 h.fEnd.fAddr.fHi),.lit (.int .u64 h.fEnd.fAddr.fLo),.lit (.int .i64 h.fEnd.fPort),.lit (.bool h.fNet.fAddr.fV6),.lit (.int .u64 h.fNet.fAddr.fHi),.lit (.int .u64 h.fNet.fAddr.fLo),.lit (.int .i64 h.fNet.fBits),.lit (.int .i64 h.fNow),.lit (.int .i64 h.fNum),.lit (.bool h.fGood)]),(7,.box [.lit (.int .i64 t.fIn),.lit (.int .i64 t.fOut),cL 5 Zaf.c Zaf.d t.fBans,cL 7 Zaa.c Zaa.d t.fBook,cL 2 Zad.c Zad.d t.fShards,cL 2 Zat.c Zat.d t.fLocks]),(11,.box [.lit (.int .i64 a.fOp.fKind),.lit (.int .i64 a.fOp.fLock),.lit (.int .i64 a.fOp.fLoc.fKind),.lit (.int .i64 a.fOp.fLoc.fShard),.lit (.int .i64 a.fOp.fLoc.fSlot),.lit (.int .i64 a.fOp.fOld),.lit (.int .i64 a.fOp.fNew),.lit (.int .i64 a.fOp.fVal.fN),.lit (.bool a.fOp.fVal.fPeer.fEnd.fAddr.fV6),.lit (.int .u64 a.fOp.fVal.fPeer.fEnd.fAddr.fHi),.lit (.int .u64 a.fOp.fVal.fPeer.fEnd.fAddr.fLo),.lit (.int .i64 a.fOp.fVal.fPeer.fEnd.fPort),.lit (.bool a.fOp.fVal.fPeer.fIn),.lit (.int .i64 a.fOp.fVal.fPeer.fSince),.lit (.int .i64 a.fOp.fVal.fPeer.fScore.fPoints),.lit (.int .i64 a.fOp.fVal.fPeer.fScore.fAt),.lit (.int .i64 a.fOp.fVal.fPeer.fPing),.lit (.int .i64 a.fOp.fVal.fPeer.fWork),cL 5 Zaf.c Zaf.d a.fOp.fVal.fBans,cL 7 Zaa.c Zaa.d a.fOp.fVal.fBook,.lit (.bool a.fOp.fMark),.lit (.int .i64 a.fReply.fCode),.lit (.bool a.fReply.fEnd.fAddr.fV6),.lit (.int .u64 a.fReply.fEnd.fAddr.fHi),.lit (.int .u64 a.fReply.fEnd.fAddr.fLo),.lit (.int .i64 a.fReply.fEnd.fPort),.lit (.int .i64 a.fReply.fN),.lit (.int .i64 a.fReply.fUntil),cL 10 Zab.c Zab.d a.fReply.fPeers,.lit (.bool a.fDone),.lit (.bool a.fBroken)])]⟩:=by
 unfold ZcK at b;obtain⟨o,b⟩|⟨o,b⟩:=Zaj b
 .obtain⟨E,I,b⟩:=Zac b
  let R1:List RA:=[rz,rA [(3,.r (.tup [(true,Zas.c E.1),(true,Zaq.c E.2)]) [])]]
  have O2:Obl _:=(.c o (.c (Zrn _ _ _ _ I) .n));obtain⟨u,b⟩|⟨u,b⟩:=Zaj b
  .obtain⟨p,J,b⟩:=Zac b;have O3:Obl _:=(O2.app (.c u (.c (ZpH _ _ _ J) .n)));obtain⟨v,b⟩|⟨v,b⟩:=Zaj b
   .obtain⟨w,x,K,L,b⟩:=Yv b;have O4:Obl _:=(O3.app (.c v (.c (ZoY _ _ K) (.c (ZpG _ _ _ L) .n))));obtain⟨y,b⟩|⟨y,b⟩:=Zaj b
    .obtain⟨F,G,M,N,b⟩:=Yv b;have O5:Obl _:=(O4.app (.c y (.c (Zfm _ _ M) (.c (ZpU _ _ _ _ N) .n))));obtain⟨z,b⟩|⟨z,b⟩:=Zaj b
     .obtain⟨O,P,b⟩:=Zac b;apply Ya b 8 (R1++[⟨[(6,aB p),(10,aG (Zas.c w)),(12,aB x),(18,aI F),(19,aB G),(22,aB O)],[(2,true),(8,true),(14,true),(21,true)],[],[],[],[],[]⟩]) [true] (O5.app (.c z (.c (Zgc _ P) .n)))
     .apply Ya b 8 (R1++[⟨[(6,aB p),(10,aG (Zas.c w)),(12,aB x),(18,aI F),(19,aB G)],[(2,true),(8,true),(14,true),(21,false)],[],[],[],[],[]⟩]) [true] (O5.app (.c z .n))
    .apply Ya b 8 (R1++[⟨[(6,aB p),(10,aG (Zas.c w)),(12,aB x)],[(2,true),(8,true),(14,false)],[],[],[],[],[]⟩]) [true] (O4.app (.c y .n))
   .apply Ya b 8 (R1++[⟨[(6,aB p)],[(2,true),(8,false)],[],[],[],[],[]⟩]) [true] (O3.app (.c v .n))
  .apply Ya b 8 (R1++[rB [(2,false)]]) [true] (O2.app (.c u .n))
 .obtain⟨A,b⟩|⟨A,b⟩:=Zaj b
  .apply Ya b 11 [rz,rB [(2,true)],rz] [false,true] (.c o (.c A (.c (show true=true from rfl) .n)))
  .obtain⟨Q,R,b⟩:=Zac b
   let R6:List RA:=[rz,⟨[(6,aB Q)],[(2,false)],[],[],[],[],[]⟩]
   have O7:Obl _:=(.c o (.c A (.c (Zix _ _ _ R) .n)));obtain⟨B,b⟩|⟨B,b⟩:=Zaj b
   .apply Ya b 11 (R6++[rz]) [false,true] (O7.app (.c B .n))
   .obtain⟨f,S,b⟩:=Zac b;obtain⟨H,b⟩:=Zar b
    let R8:List RA:=(R6++[rA [(3,.r (.tup [(true,ZaC.c f.1),(true,Zah.c f.2)]) [])],rz,⟨[(3,.c ((l++([f.2]:List Zah)).length) (Zap Zah.c Zah.d (l++([f.2]:List Zah))))],[],[],[],[],[(2,(([f.2]:List Zah).length,Zap Zah.c Zah.d ([f.2]:List Zah)))],[]⟩])
    have O9:Obl _:=(O7.app (.c B (.c (Zrm _ _ _ _ S) (.c (show ([f.2]:List Zah).length=1/\∀i j,i<1->j<13->Zap Zah.c Zah.d ([f.2]:List Zah) i j=(([f.2]:List Zah).flatMap Zah.c).getD (i * 13+j) .junk from⟨rfl,fun i j hi hj=>ZaO (sz:=13) (e:=Zah.c) (d:=Zah.d) (fun _=>rfl) ([f.2]:List Zah) i j hi hj⟩) (.c (Zcy (sz:=13) (e:=Zah.c) (d:=Zah.d) l ([f.2]:List Zah)) (.c H.1 (.c H.2 .n)))))));obtain⟨m,b⟩|⟨m,b⟩:=Zaj b
    .obtain⟨q,b⟩|⟨q,b⟩:=Zaj b
     .exact Ye 23 (R8++[rB [(3,true),(8,true)],rz,rz]) [false,false,true] ⟨[],[],[],[],[],[3,4,5,7,8,9,10],[96,3,4,5,7],[(96,8)]⟩ (O9.app (.c m (.c q (.c (show true=true from rfl) .n)))) (aw (ZaA D 1) (ZaA k 1) (l++([f.2]:List Zah)) g s h f.1 r b)
     .obtain⟨C,b⟩|⟨C,b⟩:=Zaj b
      .exact Ye 23 (R8++[rB [(3,true),(8,false)],rz,rz]) [false,false,true] ⟨[],[],[],[],[],[3,4,5,7,8,9,10],[96,3,4,5,7],[(96,8)]⟩ (O9.app (.c m (.c q (.c C .n)))) (aw (ZaA D 1) (ZaA k 1) (l++([f.2]:List Zah)) g s h f.1 r b)
      .exact Ye 23 (R8++[rB [(3,true),(8,false)],rz]) [false,false,false] ⟨[],[],[],[],[],[3,4,5,7,8,9,10],[96,3,4,5,7],[(96,8)]⟩ (O9.app (.c m (.c q (.c C .n)))) (aw D (ZaA k 1) (l++([f.2]:List Zah)) g s h f.1 r b)
    .exact Ye 23 (R8++[rB [(3,false)],rz]) [false,false,false] ⟨[],[],[],[],[],[3,4,5,7,8,9,10],[96,3,4,5,7],[(96,8)]⟩ (O9.app (.c m (.c (show false=false from rfl) .n))) (aw D (ZaA k 1) (l++([f.2]:List Zah)) g s h f.1 r b)
def ZaE:Nat->Int->Int->(List Zah)->Zau->Zas->ZaB->ZaC->Option Bool|0,_,_,_,_,_,_,_=>none|fu+1,i,a,f,g,j,h,k=>bif(decide (a<(400:Int)))then(Zle g h).bind fun p=>(match p with | .c109 e=>(Ziq e f).bind fun l=>ZcK i a g j h k (ZaE fu) f l | .c110 b=>(Zkj b f).bind fun m=>ZcK i a g j h k (ZaE fu) f m | .c111 c=>(Zki c f).bind fun n=>ZcK i a g j h k (ZaE fu) f n | .c112 d=>(Zkh d f).bind fun o=>ZcK i a g j h k (ZaE fu) f o)else some false
theorem ZlG(S0:Nat->Prop)(w0:ZaW):∀(q:Nat)(s f:Int)(l:List Zah)(b:Zau)(m:Zas)(e:ZaB)(g:ZaC)(r:Bool),ZaE q s f l b m e g=some r->Ys 113 S0 w0 Tryz.f10 (Yk r) [1,1,1,1,1,0,1,0] ⟨[(3,.one (.ptr 3 0)),(4,.one (.ptr 4 0)),(5,.one (.ptr 5 0)),(7,.one (.ptr 7 0)),(8,.one (.osl 8 l.length)),(9,(Yj s)),(10,(Yj f))],[(8,.rows 48 13 l.length (Zap Zah.c Zah.d l)),(3,.box [.lit (.int .i64 b.fMaxIn),.lit (.int .i64 b.fMaxOut),.lit (.int .i64 b.fShards),.lit (.int .i64 b.fMaxBans),.lit (.int .i64 b.fMaxBook),.lit (.int .u64 b.fSecret),.lit (.int .i64 b.fQuota.fGroup),.lit (.int .i64 b.fQuota.fPing),.lit (.int .i64 b.fQuota.fWork),.lit (.int .i64 b.fQuota.fTime),.lit (.int .i64 b.fHalf),.lit (.int .i64 b.fLimit),.lit (.int .i64 b.fBanFor),.lit (.int .i64 b.fBase),.lit (.int .i64 b.fCap),.lit (.int .i64 b.fJitter)]),(4,.box [cL 5 Zaf.c Zaf.d m.fBans,cL 7 Zaa.c Zaa.d m.fBook,cL 10 Zab.c Zab.d m.fPeers]),(5,.box [.lit (.int .i64 e.fKind),.lit (.bool e.fEnd.fAddr.fV6),.lit (.int .u64 e.fEnd.fAddr.fHi),.lit (.int .u64 e.fEnd.fAddr.fLo),.lit (.int .i64 e.fEnd.fPort),.lit (.bool e.fNet.fAddr.fV6),.lit (.int .u64 e.fNet.fAddr.fHi),.lit (.int .u64 e.fNet.fAddr.fLo),.lit (.int .i64 e.fNet.fBits),.lit (.int .i64 e.fNow),.lit (.int .i64 e.fNum),.lit (.bool e.fGood)]),(7,.box [.lit (.int .i64 g.fIn),.lit (.int .i64 g.fOut),cL 5 Zaf.c Zaf.d g.fBans,cL 7 Zaa.c Zaa.d g.fBook,cL 2 Zad.c Zad.d g.fShards,cL 2 Zat.c Zat.d g.fLocks])]⟩:=by
 intro q;induction q with
 |zero=>
  intro s f l b m e g r a;simp[ZaE]at a
 |succ q x=>
  intro s f l b m e g r a;unfold ZaE at a;obtain⟨h,a⟩|⟨h,a⟩:=Zaj a
  .obtain⟨C,o,a⟩:=Zac a;cases C with
   |c109 p=>
    dsimp only at a;obtain⟨t,y,a⟩:=Zac a;exact Ye 10 [rz,rH [(2,.r (.one (ZhI.c (ZhI.c109 p))) [])] [(4,⟨[(99997,99997)],[],[],.agg (ZaV.c t)⟩)]] [true] ⟨[],[],[],[],[],[3,4,5,7,8,9,10,11],[8,3,4,5,7,11],[]⟩ (.c h (.c (Zgf _ _ _ o) (.c (Znv _ _ _ y) .n))) (ZdW S0 w0 s f b m e g (ZaE q) x l t r a)
   |c110 i=>
    dsimp only at a;obtain⟨u,z,a⟩:=Zac a;exact Ye 10 [rz,rH [(2,.r (.one (ZhI.c (ZhI.c110 i))) [])] [(4,⟨[(99997,99997)],[],[],.agg (ZaV.c u)⟩)]] [true] ⟨[],[],[],[],[],[3,4,5,7,8,9,10,11],[8,3,4,5,7,11],[]⟩ (.c h (.c (Zgf _ _ _ o) (.c (Znu _ _ _ z) .n))) (ZdW S0 w0 s f b m e g (ZaE q) x l u r a)
   |c111 j=>
    dsimp only at a;obtain⟨v,A,a⟩:=Zac a;exact Ye 10 [rz,rH [(2,.r (.one (ZhI.c (ZhI.c111 j))) [])] [(4,⟨[(99997,99997)],[],[],.agg (ZaV.c v)⟩)]] [true] ⟨[],[],[],[],[],[3,4,5,7,8,9,10,11],[8,3,4,5,7,11],[]⟩ (.c h (.c (Zgf _ _ _ o) (.c (Znt _ _ _ A) .n))) (ZdW S0 w0 s f b m e g (ZaE q) x l v r a)
   |c112 k=>
    dsimp only at a;obtain⟨w,B,a⟩:=Zac a;exact Ye 10 [rz,rH [(2,.r (.one (ZhI.c (ZhI.c112 k))) [])] [(4,⟨[(99997,99997)],[],[],.agg (ZaV.c w)⟩)]] [true] ⟨[],[],[],[],[],[3,4,5,7,8,9,10,11],[8,3,4,5,7,11],[]⟩ (.c h (.c (Zgf _ _ _ o) (.c (Zns _ _ _ B) .n))) (ZdW S0 w0 s f b m e g (ZaE q) x l w r a)
  .apply Ya a 8 [rz,rz] [false] (.c h .n)
def ZfF(b:Zau)(a:Zas)(c:ZaB):Option Bool:=(ZfY a).bind fun d=>bif(!d)then(Zdp).bind fun e=>some e else(ZfN b a).bind fun f=>bif(!f)then(Zdp).bind fun g=>some g else(Zgu c).bind fun h=>bif(!h)then(Zdp).bind fun i=>some i else(ZgS b a).bind fun j=>ZaE (((400:Int)-(0:Int)).toNat+2) (0:Int) (0:Int) ([]) b a c j
theorem ZmE(b:Zau)(e:Zas)(f:ZaB)(r:Bool)(a:ZfF b e f=some r):Yp 10 [.agg (Zau.c b),.agg (Zas.c e),.agg (ZaB.c f)] (Yk r):=by
 refine Yw Tryz.func10 fun S0 w0=>?_;unfold ZfF at a;obtain⟨g,l,a⟩:=Zac a;obtain⟨h,a⟩|⟨h,a⟩:=Zaj a
 .obtain⟨p,q,a⟩:=Zac a;apply Ya a 8 [rz,⟨[(1,aB g)],[(3,true)],[],[],[],[],[]⟩,rA [(0,aB p)]] [true] (.c (ZkA _ _ l) (.c h (.c (show true=true from rfl) (.c (Zgc _ q) .n))))
 .obtain⟨m,s,a⟩:=Zac a;have fH:Obl _:=(.c (ZkA _ _ l) (.c h (.c (ZoZ _ _ _ s) .n)));obtain⟨i,a⟩|⟨i,a⟩:=Zaj a
  .obtain⟨t,u,a⟩:=Zac a;apply Ya a 8 [rz,⟨[(1,aB g),(6,aB m)],[(3,false),(9,true)],[],[],[],[],[]⟩,rA [(0,aB t)]] [true] (fH.app (.c i (.c (show true=true from rfl) (.c (Zgc _ u) .n))))
  .obtain⟨v,w,a⟩:=Zac a
   let jm:List RA:=[rz,⟨[(1,aB g),(6,aB m),(11,aB v)],[(3,false),(9,false)],[],[],[],[],[]⟩]
   have jn:Obl _:=(fH.app (.c i (.c (ZpT _ _ w) .n)));obtain⟨j,a⟩|⟨j,a⟩:=Zaj a
   .obtain⟨x,y,a⟩:=Zac a;apply Ya a 8 (jm++[rA [(0,aB x)]]) [true] (jn.app (.c j (.c (Zgc _ y) .n)))
   .obtain⟨o,k,a⟩:=Zac a;exact Ye 17 (jm++[rA [(2,aG (ZaC.c o))],rz,rz,rz]) [false] ⟨[],[],[],[],[(8,8,48,13,Zap Zah.c Zah.d [])],[3,4,5,7,8,9,10],[8,3,4,5,7],[]⟩ (jn.app (.c j (.c (Zqs _ _ _ k) .n))) (ZlG S0 w0 (((400:Int)-(0:Int)).toNat+2) (0:Int) (0:Int) ([]) b e f o r a)
end Go.Proofs.YtdjfoojllbfcgaaGreat
