import Derived.Test.YtmnloegcpaahcaaGreatBAdaA1
namespace Go.Proofs.YtmnloegcpaahcaaGreat
open Go.RowKit Go.Lib Go.Shelf
set_option linter.unusedVariables false
set_option maxRecDepth 100000
variable (S0:Nat->Prop)(w0:ZaW)
def Zcu(p:List Zaa)(t g h:Int)(j:List Int)(u:Zax)(aM:Int->Int->(List Int)->Zax->Option (List Int)):Nat->(Zbc×Zbc×Zbc×Zbc)->Int->(List Int)->Option (List Int)|0,_,_,_=>none|fu+1,b,d,o=>bif(decide (d<(4:Int)))then need (0<=d/\d<((4:Nat):Int))<|ix1 d 0 ( (ZdR p o).bind fun B=>(Zex B b.1.fby b.1.fn t).bind fun D=>(ZeI o D).bind fun E=>Zcu p t g h j u aM fu b (Zan (0:Int) (1:Int)) E)<|ix1 d 1 ( (ZdR p o).bind fun F=>(Zex F b.2.1.fby b.2.1.fn t).bind fun G=>(ZeI o G).bind fun H=>Zcu p t g h j u aM fu b (Zan (1:Int) (1:Int)) H)<|ix1 d 2 ( (ZdR p o).bind fun I=>(Zex I b.2.2.1.fby b.2.2.1.fn t).bind fun J=>(ZeI o J).bind fun v=>Zcu p t g h j u aM fu b (Zan (2:Int) (1:Int)) v)<|(ZdR p o).bind fun y=>(Zex y b.2.2.2.fby b.2.2.2.fn t).bind fun z=>(ZeI o z).bind fun A=>Zcu p t g h j u aM fu b (Zan (3:Int) (1:Int)) A else some o
theorem ZrQ(z:List Zaa)(A B D:Int)(E:List Int)(b4:Zax)(aM:Int->Int->(List Int)->Zax->Option (List Int))(eq:∀(eT jd:Int)(dm:List Int)(cW:Zax)(r:List Int),aM eT jd dm cW=some r->Ys 42 S0 w0 Tryz.f182 [(l5 99999 3 1 l9 (0:Int) r)] (.one (.osl 99999 r.length)) [1,1,0,1,0] ⟨[(0,(Yn z)),(2,.one (.lit (.int .u64 A))),(4,.one (.ptr 4 0)),(7,.one (.osl 13 dm.length)),(15,(Yj eT)),(16,(Yj jd))],[(l5 13 3 1 l9 (0:Int) dm),(4,.box (Zax.c cW))]⟩):∀(t:Nat)(d:(Zbc×Zbc×Zbc×Zbc))(g:Int)(o r:List Int),Zcu z A B D E b4 aM t d g o=some r->Ys 42 S0 w0 Tryz.f182 [(l5 99999 3 1 l9 (0:Int) r)] (.one (.osl 99999 r.length)) [1,1,1,0,1,0] ⟨[(0,(Yn z)),(2,.one (.lit (.int .u64 A))),(7,.one (.osl 7 o.length)),(25,.agg [.lit (.int .i64 d.1.fby),.lit (.int .i64 d.1.fn),.lit (.int .i64 d.2.1.fby),.lit (.int .i64 d.2.1.fn),.lit (.int .i64 d.2.2.1.fby),.lit (.int .i64 d.2.2.1.fn),.lit (.int .i64 d.2.2.2.fby),.lit (.int .i64 d.2.2.2.fn)]),(26,(Yj g))],[(l5 7 3 1 l9 (0:Int) o)]⟩:=by
 intro t;induction t with
 |zero=>
  intro d g o r b;simp[Zcu]at b
 |succ t u=>
  intro d g o r b;unfold Zcu at b;obtain⟨p,b⟩|⟨p,b⟩:=Zah b
  .obtain⟨o6,b⟩:=Zao b;rcases Zyt b with⟨e,b⟩|⟨Z,b⟩
   .subst e;obtain⟨x2,x3,q7,q8,b⟩:=Yu b;obtain⟨v,q9,b⟩:=Zad b;exact Ye 14 [rz,rz,⟨[(3,.r (Yn x2) []),(9,.r (.one (cL 1 l9 (0:Int) x3)) [])],[],[(0,[7])],[],[],[],[(10,⟨[],[(99999,39)],[(l5 99999 3 1 l9 (0:Int) v)],.one (.osl 99999 v.length)⟩)]⟩,rz] [true] (lZ [0,2,7,25,26] [39] [(39,7)]) (mg p (show 0<=(0:Int)/\(0:Int)<((4:Nat):Int)from(by decide)) (ZjV _ _ _ q7) (ZkB _ _ _ _ _ q8) (Zjg _ _ _ q9)) (u d (Zan (0:Int) (1:Int)) v r b)
   rcases Zyt b with⟨e,b⟩|⟨o6_1,b⟩
   .subst e;obtain⟨x5,x6,F,G,b⟩:=Yu b;obtain⟨y,H,b⟩:=Zad b;exact Ye 14 [rz,rz,⟨[(3,.r (Yn x5) []),(9,.r (.one (cL 1 l9 (0:Int) x6)) [])],[],[(0,[7])],[],[],[],[(10,⟨[],[(99999,39)],[(l5 99999 3 1 l9 (0:Int) y)],.one (.osl 99999 y.length)⟩)]⟩,rz] [true] (lZ [0,2,7,25,26] [39] [(39,7)]) (mg p (show 0<=(1:Int)/\(1:Int)<((4:Nat):Int)from(by decide)) (ZjV _ _ _ F) (ZkB _ _ _ _ _ G) (Zjg _ _ _ H)) (u d (Zan (1:Int) (1:Int)) y r b)
   rcases Zyt b with⟨e,b⟩|⟨o6_2,b⟩
   .subst e;obtain⟨x8,x9,I,J,b⟩:=Yu b;obtain⟨h,L,b⟩:=Zad b;exact Ye 14 [rz,rz,⟨[(3,.r (Yn x8) []),(9,.r (.one (cL 1 l9 (0:Int) x9)) [])],[],[(0,[7])],[],[],[],[(10,⟨[],[(99999,39)],[(l5 99999 3 1 l9 (0:Int) h)],.one (.osl 99999 h.length)⟩)]⟩,rz] [true] (lZ [0,2,7,25,26] [39] [(39,7)]) (mg p (show 0<=(2:Int)/\(2:Int)<((4:Nat):Int)from(by decide)) (ZjV _ _ _ I) (ZkB _ _ _ _ _ J) (Zjg _ _ _ L)) (u d (Zan (2:Int) (1:Int)) h r b)
   obtain rfl:g=3:=by omega
   obtain⟨M,O,R,U,b⟩:=Yu b;obtain⟨j,W,b⟩:=Zad b;exact Ye 14 [rz,rz,⟨[(3,.r (Yn M) []),(9,.r (.one (cL 1 l9 (0:Int) O)) [])],[],[(0,[7])],[],[],[],[(10,⟨[],[(99999,39)],[(l5 99999 3 1 l9 (0:Int) j)],.one (.osl 99999 j.length)⟩)]⟩,rz] [true] (lZ [0,2,7,25,26] [39] [(39,7)]) (mg p (show 0<=(3:Int)/\(3:Int)<((4:Nat):Int)from(by decide)) (ZjV _ _ _ R) (ZkB _ _ _ _ _ U) (Zjg _ _ _ W)) (u d (Zan (3:Int) (1:Int)) j r b)
  .apply Yc b 8 [rz,rz] [false] (lZ [6] [7] [(7,99999)]) (mc p)
def ZdO(h:List Zaa)(j:Int):Nat->Int->Int->(List Int)->Zax->Option (List Int)|0,_,_,_,_=>none|fu+1,g,b,d,o=>bif(decide (b<g))then need (0<=b/\b<(d.length:Int))<|ZdO h j fu g (Zan b 1) (d.set b.toNat b) o else(Zlz o).bind fun p=>Zcu h j g b d o (ZdO h j fu) (((4:Int)-(0:Int)).toNat+2) p (0:Int) d
theorem ZrR(p:List Zaa)(t:Int):∀(o:Nat)(g b:Int)(d:List Int)(j:Zax)(r:List Int),ZdO p t o g b d j=some r->Ys 42 S0 w0 Tryz.f182 [(l5 99999 3 1 l9 (0:Int) r)] (.one (.osl 99999 r.length)) [1,1,0,1,0] ⟨[(0,(Yn p)),(2,.one (.lit (.int .u64 t))),(4,.one (.ptr 4 0)),(7,.one (.osl 13 d.length)),(15,(Yj g)),(16,(Yj b))],[(l5 13 3 1 l9 (0:Int) d),(4,.box (Zax.c j))]⟩:=by
 intro o;induction o with
 |zero=>
  intro g b d j r h;simp[ZdO]at h
 |succ o v=>
  intro g b d j r h;unfold ZdO at h;obtain⟨u,h⟩|⟨u,h⟩:=Zah h
  .obtain⟨y,h⟩:=Zao h;exact Ye 14 [rz,rz,rA [(4,.c (d.set b.toNat b).length (Zam l9 (0:Int) (d.set b.toNat b)))],rz] [true] ⟨[],[],[],[(13,((d.set b.toNat b).length))],[],[0,2,4,7,15,16],[13,4],[]⟩ (mh u y (show (d.set b.toNat b).length=d.length from List.length_set) (ltOf y) (show ExtU 1 d.length (Zam l9 (0:Int) d) b.toNat 0 (l9 b) (Zam l9 (0:Int) (d.set b.toNat b))from(ZhL _ _ _ rfl)) (mH ((d.set b.toNat b).length))) (v g (Zan b 1) (d.set b.toNat b) j r h)
  .obtain⟨z,A,h⟩:=Zad h;exact Ye 10 [rz,rA [(1,aG ((cP Zbc.c (cP Zbc.c (cP Zbc.c Zbc.c))) z))]] [false] (lZ [0,2,7,25,26] [13] [(13,7)]) (md u (Ztt _ _ A)) (ZrQ S0 w0 p t g b d j (ZdO p t o) v (((4:Int)-(0:Int)).toNat+2) z (0:Int) d r h)
def Zjh(b:List Zaa)(d:Zax)(g:Int):Option (List Int):=need (0<=(b.length:Int)/\(b.length:Int)<=(b.length:Int)/\(b.length:Int)<=140737488355328/\(b.length:Int) * 8<=140737488355328)<|ZdO b g (((((b.length:Int).toNat:Nat):Int)-(0:Int)).toNat+2) (((b.length:Int).toNat:Nat):Int) (0:Int) (List.replicate (b.length:Int).toNat (0:Int)) d
theorem Ztv(b:List Zaa)(g:Zax)(h:Int)(r:List Int)(d:Zjh b g h=some r):Yp 182 [] [Yn b,.agg (Zax.c g),.one (.lit (.int .u64 h))] [(l5 99999 3 1 l9 (0:Int) r)] (.one (.osl 99999 r.length)):=by
 refine Yw Tryz.func182 fun S0 w0=>?_;unfold Zjh at d;obtain⟨o1,d⟩:=Zao d;exact Ye 8 [rz,rA [(2,.c ((b.length:Int).toNat) (Zam l9 (0:Int) (List.replicate (b.length:Int).toNat (0:Int))))],rz] [] ⟨[],[],[],[(13,((List.replicate (b.length:Int).toNat (0:Int)).length))],[],[0,2,4,7,15,16],[13,4],[]⟩ (mh (show (b.length:Int)=(((b.length:Int).toNat:Nat):Int)from(Int.toNat_of_nonneg o1.1).symm) (show (((b.length:Int).toNat:Nat):Int)<=(b.length:Int)from((Int.toNat_of_nonneg o1.1).symm ▸ o1.2.1)) o1.2.2.1 o1.2.2.2 (show ∀i j,i<(b.length:Int).toNat->j<1->ZpM (([.lit (.int .i64 (0))]:List C).getD j .junk) (Zam l9 (0:Int) (List.replicate (b.length:Int).toNat (0:Int)) i j)from(Zmu (fun j hj=>.inl rfl) _)) (show (List.replicate (b.length:Int).toNat (0:Int)).length=(b.length:Int).toNat from List.length_replicate)) (ZrR S0 w0 b h (((((b.length:Int).toNat:Nat):Int)-(0:Int)).toNat+2) (((b.length:Int).toNat:Nat):Int) (0:Int) (List.replicate (b.length:Int).toNat (0:Int)) g r d)
theorem ZtV(b:List Zaa)(d:Zax)(g:Int)(r:List Int)(h:Zjh b d g=some r):Yo 182 [Yn b,.agg (Zax.c d),.one (.lit (.int .u64 g))] (.one (cL 1 l9 (0:Int) r)):=(Ztv b d g r h).pure
def Zdc:Nat->(List Zaa)->(List Int)->Int->Int->(List Zaa)->Option (List Zaa)|0,_,_,_,_,_=>none|fu+1,h,g,j,b,o=>bif(decide (b<j))then need (0<=b/\b<(g.length:Int))<|need (0<=(g.getD b.toNat (0:Int))/\(g.getD b.toNat (0:Int))<(h.length:Int))<|need ((o++([(h.getD (g.getD b.toNat (0:Int)).toNat Zaa.d)]:List Zaa)).length * 80<=140737488355328/\(o++([(h.getD (g.getD b.toNat (0:Int)).toNat Zaa.d)]:List Zaa)).length<=maxLen)<|Zdc fu h g j (Zan b 1) (o++([(h.getD (g.getD b.toNat (0:Int)).toNat Zaa.d)]:List Zaa))else some o
theorem ZoB:∀(u:Nat)(h:List Zaa)(b:List Int)(p g:Int)(t r:List Zaa),Zdc u h b p g t=some r->Ys 30 S0 w0 Tryz.f97 [(l5 99999 44 10 Zaa.c Zaa.d r)] (.one (.osl 99999 r.length)) [1,1,1,0,1,0] ⟨[(0,(Yn h)),(7,.one (.osl 7 t.length)),(15,.one (cL 1 l9 (0:Int) b)),(16,(Yj p)),(17,(Yj g))],[(l5 7 44 10 Zaa.c Zaa.d t)]⟩:=by
 intro u;induction u with
 |zero=>
  intro h b p g t r o;simp[Zdc]at o
 |succ u z=>
  intro h b p g t r o;unfold Zdc at o;obtain⟨v,o⟩|⟨v,o⟩:=Zah o
  .obtain⟨A,B,o⟩:=Yt o;obtain⟨y,o⟩:=Zao o;exact Ye 14 [rz,rz,⟨[(6,.c ((t++([(h.getD (b.getD g.toNat (0:Int)).toNat Zaa.d)]:List Zaa)).length) (Zam Zaa.c Zaa.d (t++([(h.getD (b.getD g.toNat (0:Int)).toNat Zaa.d)]:List Zaa))))],[],[],[],[],[(5,(([(h.getD (b.getD g.toNat (0:Int)).toNat Zaa.d)]:List Zaa).length,Zam Zaa.c Zaa.d ([(h.getD (b.getD g.toNat (0:Int)).toNat Zaa.d)]:List Zaa)))],[]⟩,rz] [true] (lZ [0,7,15,16,17] [27] [(27,7)]) (mi v A B (mF (e:=Zaa.c) Zaa.d 10 (fun _=>rfl) ([(h.getD (b.getD g.toNat (0:Int)).toNat Zaa.d)]:List Zaa)) (Zdk (sz:=10) (e:=Zaa.c) (d:=Zaa.d) t ([(h.getD (b.getD g.toNat (0:Int)).toNat Zaa.d)]:List Zaa)) y.1 y.2) (z h b p (Zan g 1) (t++([(h.getD (b.getD g.toNat (0:Int)).toNat Zaa.d)]:List Zaa)) r o)
  .apply Yc o 8 [rz,rz] [false] (lZ [6] [7] [(7,99999)]) (mc v)
def ZfQ(g:List Zaa)(h:Zax)(j:Int):Option (List Zaa):=(Zkj g).bind fun d=>(Zjh d h j).bind fun b=>Zdc (((b.length:Int)-(0:Int)).toNat+2) d b (b.length:Int) (0:Int) ([])
theorem ZpP(h:List Zaa)(j:Zax)(o:Int)(r:List Zaa)(b:ZfQ h j o=some r):Yp 97 [] [Yn h,.agg (Zax.c j),.one (.lit (.int .u64 o))] [(l5 99999 44 10 Zaa.c Zaa.d r)] (.one (.osl 99999 r.length)):=by
 refine Yw Tryz.func97 fun S0 w0=>?_;unfold ZfQ at b;obtain⟨p,g,t,u,b⟩:=Yu b;exact Ye 10 [rz,rA [(1,.r (Yn p) [])],rz,rA [(3,.r (.one (cL 1 l9 (0:Int) g)) [])]] [] ⟨[],[],[],[],[(7,7,44,10,Zam Zaa.c Zaa.d [])],[0,7,15,16,17],[7],[]⟩ (md (ZvD _ _ t) (ZtV _ _ _ _ u)) (ZoB S0 w0 (((g.length:Int)-(0:Int)).toNat+2) p g (g.length:Int) (0:Int) ([]) r b)
theorem Zqw(b:List Zaa)(d:Zax)(g:Int)(r:List Zaa)(h:ZfQ b d g=some r):Yo 97 [Yn b,.agg (Zax.c d),.one (.lit (.int .u64 g))] (Yn r):=(ZpP b d g r h).pure
def Zfe:Nat->(List Zaa)->Int->Int->(List (Zap×Int))->Option (List (Zap×Int))|0,_,_,_,_=>none|fu+1,h,g,b,m8=>bif(decide (b<g))then need (0<=b/\b<(h.length:Int))<|(Zis (((h.getD b.toNat Zaa.d).fEnd).fAddr)).bind fun j=>Zfe fu h g (Zan b 1) (mput m8 j (Zan (mget m8 j (0:Int)) (1:Int)))else some m8
theorem ZrS:∀(o:Nat)(j:List Zaa)(g h:Int)(m8 r:(List (Zap×Int))),Zfe o j g h m8=some r->Ys 26 S0 w0 Tryz.f183 [(99999,.map 32 (encM (fun k=>.agg #[.bool k.fAddr.fV6,.int .u64 k.fAddr.fHi,.int .u64 k.fAddr.fLo,.int .i64 k.fBits]) (fun v=>(Yj v)) r))] (.one (.mp 99999)) [1,1,0,1,0] ⟨[(3,.one (.mp 8)),(9,(Yn j)),(10,(Yj g)),(11,(Yj h))],[(8,.map 32 (encM (fun k=>.agg #[.bool k.fAddr.fV6,.int .u64 k.fAddr.fHi,.int .u64 k.fAddr.fLo,.int .i64 k.fBits]) (fun v=>(Yj v)) m8))]⟩:=by
 intro o;induction o with
 |zero=>
  intro j g h m8 r d;simp[Zfe]at d
 |succ o t=>
  intro j g h m8 r d;unfold Zfe at d;obtain⟨p,d⟩|⟨p,d⟩:=Zah d
  .obtain⟨o2,d⟩:=Zao d;obtain⟨b,u,d⟩:=Zad d;exact Ye 14 [rz,rz,rA [(4,aG (Zap.c b)),(5,aI (mget m8 b (0:Int))),(7,.m ((.int .i64 ((midx m8 b:Nat):Int),.one .junk) :: encM (fun k=>.agg #[.bool k.fAddr.fV6,.int .u64 k.fAddr.fHi,.int .u64 k.fAddr.fLo,.int .i64 k.fBits]) (fun v=>(Yj v)) (mpad m8 b (0:Int)))),(9,.m (encM (fun k=>.agg #[.bool k.fAddr.fV6,.int .u64 k.fAddr.fHi,.int .u64 k.fAddr.fLo,.int .i64 k.fBits]) (fun v=>(Yj v)) (mput m8 b (Zan (mget m8 b (0:Int)) (1:Int)))))],rz] [true] (lX [3,9,10,11] [8]) (mj p o2 (Zml _ _ u) (show Znd Tryz.prog 32 (.agg #[.bool b.fAddr.fV6,.int .u64 b.fAddr.fHi,.int .u64 b.fAddr.fLo,.int .i64 b.fBits]) ((encM (fun k=>.agg #[.bool k.fAddr.fV6,.int .u64 k.fAddr.fHi,.int .u64 k.fAddr.fLo,.int .i64 k.fBits]) (fun v=>(Yj v)) m8).map (·.1))from(Zku b m8)) (show Zwr (encM (fun k=>.agg #[.bool k.fAddr.fV6,.int .u64 k.fAddr.fHi,.int .u64 k.fAddr.fLo,.int .i64 k.fBits]) (fun v=>(Yj v)) m8) (.agg #[.bool b.fAddr.fV6,.int .u64 b.fAddr.fHi,.int .u64 b.fAddr.fLo,.int .i64 b.fBits]) (.int .i64 (0)) ((Yj (mget m8 b (0:Int))))from(Zyr (kv:=(fun k=>.agg #[.bool k.fAddr.fV6,.int .u64 k.fAddr.fHi,.int .u64 k.fAddr.fLo,.int .i64 k.fBits])) (vv:=(fun v=>(Yj v))) Zik (fun S w m=>RepC.lit) b m8)) (show Znd Tryz.prog 32 (.agg #[.bool b.fAddr.fV6,.int .u64 b.fAddr.fHi,.int .u64 b.fAddr.fLo,.int .i64 b.fBits]) ((.agg #[.bool b.fAddr.fV6,.int .u64 b.fAddr.fHi,.int .u64 b.fAddr.fLo,.int .i64 b.fBits]) :: (encM (fun k=>.agg #[.bool k.fAddr.fV6,.int .u64 k.fAddr.fHi,.int .u64 k.fAddr.fLo,.int .i64 k.fBits]) (fun v=>(Yj v)) m8).map (·.1))from(Zku (vv:=(fun v=>(Yj v))) b ((b,(0:Int)) :: m8))) (show MEnt (encM (fun k=>.agg #[.bool k.fAddr.fV6,.int .u64 k.fAddr.fHi,.int .u64 k.fAddr.fLo,.int .i64 k.fBits]) (fun v=>(Yj v)) m8) (.agg #[.bool b.fAddr.fV6,.int .u64 b.fAddr.fHi,.int .u64 b.fAddr.fLo,.int .i64 b.fBits]) (.int .i64 (0)) ((midx m8 b:Nat):Int) (encM (fun k=>.agg #[.bool k.fAddr.fV6,.int .u64 k.fAddr.fHi,.int .u64 k.fAddr.fLo,.int .i64 k.fBits]) (fun v=>(Yj v)) (mpad m8 b (0:Int)))from(ZJD (kv:=(fun k=>.agg #[.bool k.fAddr.fV6,.int .u64 k.fAddr.fHi,.int .u64 k.fAddr.fLo,.int .i64 k.fBits])) (vv:=(fun v=>(Yj v))) Zik (fun S w m=>RepC.lit) (ZKd _) b m8)) (show MSt (encM (fun k=>.agg #[.bool k.fAddr.fV6,.int .u64 k.fAddr.fHi,.int .u64 k.fAddr.fLo,.int .i64 k.fBits]) (fun v=>(Yj v)) (mpad m8 b (0:Int))) ((midx m8 b:Nat):Int) ((Yj (Zan (mget m8 b (0:Int)) (1:Int)))) (encM (fun k=>.agg #[.bool k.fAddr.fV6,.int .u64 k.fAddr.fHi,.int .u64 k.fAddr.fLo,.int .i64 k.fBits]) (fun v=>(Yj v)) (mput m8 b (Zan (mget m8 b (0:Int)) (1:Int))))from(ZJB (kv:=(fun k=>.agg #[.bool k.fAddr.fV6,.int .u64 k.fAddr.fHi,.int .u64 k.fAddr.fLo,.int .i64 k.fBits])) (vv:=(fun v=>(Yj v))) b (0:Int) (Zan (mget m8 b (0:Int)) (1:Int)) m8))) (t j g (Zan h 1) (mput m8 b (Zan (mget m8 b (0:Int)) (1:Int))) r d)
  .apply Yc d 8 [rz,rz] [false] (lZ [2] [8] [(8,99999)]) (mc p)
def ZkQ(b:List Zaa):Option (List (Zap×Int)):=Zfe (((b.length:Int)-(0:Int)).toNat+2) b (b.length:Int) (0:Int) ([]:(List (Zap×Int)))
theorem Ztz(b:List Zaa)(r:(List (Zap×Int)))(d:ZkQ b=some r):Yp 183 [] [Yn b] [(99999,.map 32 (encM (fun k=>.agg #[.bool k.fAddr.fV6,.int .u64 k.fAddr.fHi,.int .u64 k.fAddr.fLo,.int .i64 k.fBits]) (fun v=>(Yj v)) r))] (.one (.mp 99999)):=by
 refine Yw Tryz.func183 fun S0 w0=>?_;unfold ZkQ at d;exact Ye 8 [rz,rz,rz] [] (lX [3,9,10,11] [8]) .n (ZrS S0 w0 (((b.length:Int)-(0:Int)).toNat+2) b (b.length:Int) (0:Int) ([]:(List (Zap×Int))) r d)
def ZkP(b d:Zaa):Option Int:=(ZcZ b.fSince d.fSince).bind fun g=>(Zit b.fEnd d.fEnd).bind fun h=>(ZfL ([g,h]:List Int)).bind fun j=>some j
theorem Zub(o p:Zaa)(r:Int)(h:ZkP o p=some r):Yo 187 [.agg (Zaa.c o),.agg (Zaa.c p)] (Yj r):=by
 refine Yv Tryz.func187 fun S0 w0=>?_;unfold ZkP at h;obtain⟨b,g,t,u,h⟩:=Yu h;obtain⟨v,y,h⟩:=Zad h;apply Ya h 4 [rz,⟨[(4,aI b),(9,aI g),(11,aI v)],[],[],[],[],[(10,(([b,g]:List Int).length,Zam l9 (0:Int) ([b,g]:List Int)))],[]⟩] [] (mf (Zea _ _ _ t) (ZoC _ _ _ u) (mF (e:=l9) (0:Int) 1 (fun _=>rfl) ([b,g]:List Int)) (ZiQ _ _ y))
def Zep(j:List Zaa):Nat->Int->(List Zaa)->Int->Int->(List (Zap×Int))->Option Int|0,_,_,_,_,_=>none|fu+1,h,o,g,b,m8=>bif(decide (b<g))then need (0<=b/\b<(o.length:Int))<|bif(decide (h<(0:Int)))then Zep j fu b o g (Zan b 1) m8 else(Zis (((o.getD b.toNat Zaa.d).fEnd).fAddr)).bind fun p=>need (0<=h/\h<(j.length:Int))<|(Zis (((j.getD h.toNat Zaa.d).fEnd).fAddr)).bind fun t=>(ZcZ (mget m8 p (0:Int)) (mget m8 t (0:Int))).bind fun u=>(ZkP (o.getD b.toNat Zaa.d) (j.getD h.toNat Zaa.d)).bind fun v=>(ZfL ([u,v]:List Int)).bind fun y=>bif(decide (y>(0:Int)))then Zep j fu b o g (Zan b 1) m8 else Zep j fu h o g (Zan b 1) m8 else some h
theorem ZsH(H:List Zaa):∀(B:Nat)(A:Int)(t:List Zaa)(h g:Int)(m8:(List (Zap×Int)))(r:Int),Zep H B A t h g m8=some r->Yr 48 S0 w0 Tryz.f98 (Yj r) [1,1,0,1,0] ⟨[(0,(Yn H)),(3,.one (.mp 8)),(4,(Yj A)),(9,(Yn t)),(10,(Yj h)),(11,(Yj g))],[(8,.map 32 (encM (fun k=>.agg #[.bool k.fAddr.fV6,.int .u64 k.fAddr.fHi,.int .u64 k.fAddr.fLo,.int .i64 k.fBits]) (fun v=>(Yj v)) m8))]⟩:=by
 intro B;induction B with
 |zero=>
  intro A t h g m8 r b;simp[Zep]at b
 |succ B E=>
  intro A t h g m8 r b;unfold Zep at b;obtain⟨D,b⟩|⟨D,b⟩:=Zah b
  .obtain⟨I,b⟩:=Zao b;obtain⟨F,b⟩|⟨F,b⟩:=Zah b
   .exact Ye 17 [rz,rz,rB [(2,true)],rz,rz] [true,true] (lX [0,3,4,9,10,11] [8]) (mf D I F (mH true)) (E g t h (Zan g 1) m8 r b)
   .obtain⟨o,L,b⟩:=Zad b;obtain⟨J,b⟩:=Zao b;obtain⟨p,u,M,O,b⟩:=Yu b;obtain⟨y,R,b⟩:=Zad b;obtain⟨U,G,b⟩:=Zad b
    let R1:List RA:=[rz,rz,⟨[(7,aG (Zap.c o)),(8,aI (mget m8 o (0:Int))),(16,aG (Zap.c p)),(17,aI (mget m8 p (0:Int))),(18,aI u),(24,aI y),(26,aI U)],[(2,false)],[],[],[],[(25,(([u,y]:List Int).length,Zam l9 (0:Int) ([u,y]:List Int)))],[]⟩,rz]
    have O2:Obl _:=(.c D (.c I (.c F (.c (Zml _ _ L) (.c (show Znd Tryz.prog 32 (.agg #[.bool o.fAddr.fV6,.int .u64 o.fAddr.fHi,.int .u64 o.fAddr.fLo,.int .i64 o.fBits]) ((encM (fun k=>.agg #[.bool k.fAddr.fV6,.int .u64 k.fAddr.fHi,.int .u64 k.fAddr.fLo,.int .i64 k.fBits]) (fun v=>(Yj v)) m8).map (·.1))from(Zku o m8)) (mn (show Zwr (encM (fun k=>.agg #[.bool k.fAddr.fV6,.int .u64 k.fAddr.fHi,.int .u64 k.fAddr.fLo,.int .i64 k.fBits]) (fun v=>(Yj v)) m8) (.agg #[.bool o.fAddr.fV6,.int .u64 o.fAddr.fHi,.int .u64 o.fAddr.fLo,.int .i64 o.fBits]) (.int .i64 (0)) ((Yj (mget m8 o (0:Int))))from(Zyr (kv:=(fun k=>.agg #[.bool k.fAddr.fV6,.int .u64 k.fAddr.fHi,.int .u64 k.fAddr.fLo,.int .i64 k.fBits])) (vv:=(fun v=>(Yj v))) Zik (fun S w m=>RepC.lit) o m8)) J (Zml _ _ M) (show Znd Tryz.prog 32 (.agg #[.bool p.fAddr.fV6,.int .u64 p.fAddr.fHi,.int .u64 p.fAddr.fLo,.int .i64 p.fBits]) ((encM (fun k=>.agg #[.bool k.fAddr.fV6,.int .u64 k.fAddr.fHi,.int .u64 k.fAddr.fLo,.int .i64 k.fBits]) (fun v=>(Yj v)) m8).map (·.1))from(Zku p m8)) (show Zwr (encM (fun k=>.agg #[.bool k.fAddr.fV6,.int .u64 k.fAddr.fHi,.int .u64 k.fAddr.fLo,.int .i64 k.fBits]) (fun v=>(Yj v)) m8) (.agg #[.bool p.fAddr.fV6,.int .u64 p.fAddr.fHi,.int .u64 p.fAddr.fLo,.int .i64 p.fBits]) (.int .i64 (0)) ((Yj (mget m8 p (0:Int))))from(Zyr (kv:=(fun k=>.agg #[.bool k.fAddr.fV6,.int .u64 k.fAddr.fHi,.int .u64 k.fAddr.fLo,.int .i64 k.fBits])) (vv:=(fun v=>(Yj v))) Zik (fun S w m=>RepC.lit) p m8)) (Zea _ _ _ O) J (Zub _ _ _ R) (mF (e:=l9) (0:Int) 1 (fun _=>rfl) ([u,y]:List Int)) (ZiQ _ _ G)))))));obtain⟨z,b⟩|⟨z,b⟩:=Zah b
    .exact Ye 17 (R1++[rz]) [true,true] (lX [0,3,4,9,10,11] [8]) (mr O2 z) (E g t h (Zan g 1) m8 r b)
    .exact Ye 17 R1 [true,false] (lX [0,3,4,9,10,11] [8]) (mr O2 z) (E A t h (Zan g 1) m8 r b)
  .apply Ya b 8 [rz,rz] [false] (mc D)
def Zkk(b:List Zaa):Option Int:=(ZkQ b).bind fun d=>Zep b (((b.length:Int)-(0:Int)).toNat+2) (-1:Int) b (b.length:Int) (0:Int) d
theorem ZvF(b:List Zaa)(r:Int)(d:Zkk b=some r):Yo 98 [Yn b] (Yj r):=by
 refine Yv Tryz.func98 fun S0 w0=>?_;unfold Zkk at d;obtain⟨g,h,d⟩:=Zad d;exact Ye 8 [rz,rH [] [(1,⟨[],[(99999,8)],[(99999,.map 32 (encM (fun k=>.agg #[.bool k.fAddr.fV6,.int .u64 k.fAddr.fHi,.int .u64 k.fAddr.fLo,.int .i64 k.fBits]) (fun v=>(Yj v)) g))],.one (.mp 99999)⟩)],rz] [] (lX [0,3,4,9,10,11] [8]) (mc (Ztz _ _ h)) (ZsH S0 w0 b (((b.length:Int)-(0:Int)).toNat+2) (-1:Int) b (b.length:Int) (0:Int) g r d)
def ZeC(h:List Zaa)(j:Zax)(o:Int):Option (Zal×Bool):=(ZfQ h j o).bind fun g=>(Zkk g).bind fun b=>bif(decide (b<(0:Int)))then some ((Zal.mk (Zaf.mk false 0 0) 0),false)else need (0<=b/\b<(g.length:Int))<|some ((g.getD b.toNat Zaa.d).fEnd,true)
theorem Zty(g:List Zaa)(h:Zax)(j:Int)(r:(Zal×Bool))(b:ZeC g h j=some r):Yo 38 [Yn g,.agg (Zax.c h),.one (.lit (.int .u64 j))] (.tup [(true,Zal.c r.1),(false,cB r.2)]):=by
 refine Yv Tryz.func38 fun S0 w0=>?_;unfold ZeC at b;obtain⟨o,p,b⟩:=Zad b;obtain⟨t,u,b⟩:=Zad b
 let R1:List RA:=[rz,rA [(3,.r (Yn o) [])],rA [(1,aI t)],rz,rz]
 have O2:=(md (Zqw _ _ _ _ p) (ZvF _ _ u));obtain⟨d,b⟩|⟨d,b⟩:=Zah b
 .apply Ya b 12 R1 [true] (mr O2 d)
 .obtain⟨v,b⟩:=Zao b;apply Ya b 13 R1 [false] (mt O2 d v)
def ZbD(g:List Zal):Nat->Int->Int->Zal->Option Int|0,_,_,_=>none|fu+1,h,b,j=>bif(decide (b<h))then need (0<=b/\b<(g.length:Int))<|bif(decide (j=(g.getD b.toNat Zal.d)))then some b else ZbD g fu h (Zan b 1) j else some (-1:Int)
theorem ZjI(o:List Zal):∀(p:Nat)(j h:Int)(g:Zal)(r:Int),ZbD o p j h g=some r->Yr 19 S0 w0 Tryz.f341 (Yj r) [1,0,1,0] ⟨[(0,.one (cL 4 Zal.c Zal.d o)),(3,.one (.ptr 3 0)),(7,(Yj j)),(8,(Yj h))],[(3,.box (Zal.c g))]⟩:=by
 intro p;induction p with
 |zero=>
  intro j h g r b;simp[ZbD]at b
 |succ p v=>
  intro j h g r b;unfold ZbD at b;obtain⟨t,b⟩|⟨t,b⟩:=Zah b
  .obtain⟨o2,b⟩:=Zao b
   let R1:List RA:=[rz,rz,rA [(5,aB (decide (g=(o.getD h.toNat Zal.d))))],rz]
   have O2:=(me t o2 (ZkY g (o.getD h.toNat Zal.d) (.tmp 11) (.tmp 15)));obtain⟨u,b⟩|⟨u,b⟩:=Zah b
   .apply Ya b 15 R1 [true,true] (mr O2 u)
   .exact Ye 17 R1 [true,false] (lX [0,3,7,8] [3]) (mr O2 u) (v j (Zan h 1) g r b)
  .apply Ya b 8 [rz,rz] [false] (mc t)
def Zee(b:List Zal)(d:Zal):Option Int:=ZbD b (((b.length:Int)-(0:Int)).toNat+2) (b.length:Int) (0:Int) d
theorem Zkz(b:List Zal)(g:Zal)(r:Int)(h:Zee b g=some r):Yo 341 [.one (cL 4 Zal.c Zal.d b),.agg (Zal.c g)] (Yj r):=by
 refine Yv Tryz.func341 fun S0 w0=>?_;unfold Zee at h;exact Ye 6 [rz,rz] [] (lX [0,3,7,8] [3]) .n (ZjI S0 w0 b (((b.length:Int)-(0:Int)).toNat+2) (b.length:Int) (0:Int) g r h)
def ZcI(b:List Zal)(d:Zal):Option Bool:=(Zee b d).bind fun g=>some (decide (g>=(0:Int)))
theorem ZjJ(g:List Zal)(h:Zal)(r:Bool)(b:ZcI g h=some r):Yo 299 [.one (cL 4 Zal.c Zal.d g),.agg (Zal.c h)] (Yk r):=by
 refine Yv Tryz.func299 fun S0 w0=>?_;unfold ZcI at b;obtain⟨j,o,b⟩:=Zad b;apply Ya b 4 [rz,rA [(2,aI j)]] [] (mc (Zkz _ _ _ o))
def Zir(b:Zaa)(c0:List Zal):Option Bool:=(ZcI c0 b.fEnd).bind fun d=>some d
theorem Zow(g:Zaa)(c0:List Zal)(r:Bool)(b:Zir g c0=some r):Yo 336 [.agg (Zaa.c g),.one (.rp false 1 (fun j=>([cL 4 Zal.c Zal.d c0]:List C).getD (0+j) .junk))] (Yk r):=by
 refine Yv Tryz.func336 fun S0 w0=>?_;unfold Zir at b;obtain⟨h,o,b⟩:=Zad b;apply Ya b 4 [rz,rA [(3,aB h)]] [] (mc (ZjJ _ _ _ o))
def ZaY(h:List Zaa)(b:List Zal):Nat->Int->Int->Option Int|0,_,_=>none|fu+1,j,g=>bif(decide (g<j))then need (0<=g/\g<(h.length:Int))<|(Zir (h.getD g.toNat Zaa.d) b).bind fun o=>bif o then some g else ZaY h b fu j (Zan g 1)else some (-1:Int)
theorem Zho(v:List Zaa)(g:List Zal):∀(p:Nat)(h o r:Int),ZaY v g p h o=some r->Yr 19 S0 w0 Tryz.f280 (Yj r) [1,0,1,0] ⟨[(0,(Yn v)),(1,.one (l7 336 0 1 [] [l8 [cL 4 Zal.c Zal.d g]])),(7,(Yj h)),(8,(Yj o))],[]⟩:=by
 intro p;induction p with
 |zero=>
  intro h o r b;simp[ZaY]at b
 |succ p z=>
  intro h o r b;unfold ZaY at b;obtain⟨t,b⟩|⟨t,b⟩:=Zah b
  .obtain⟨o2,b⟩:=Zao b;obtain⟨y,A,b⟩:=Zad b;have O1:=(me t o2 (Zow _ _ _ A));obtain⟨u,b⟩|⟨u,b⟩:=Zah b
   .apply Ya b 15 [rz,rz,rA [(5,aB y)],rz] [true,true] (mr O1 u)
   .exact Ye 17 [rz,rz,rA [(5,aB y)],rz] [true,false] (Yi [0,1,7,8]) (mr O1 u) (z h (Zan o 1) r b)
  .apply Ya b 8 [rz,rz] [false] (mc t)
def Zca(d:List Zaa)(b:List Zal):Option Int:=ZaY d b (((d.length:Int)-(0:Int)).toNat+2) (d.length:Int) (0:Int)
theorem ZhX(g:List Zaa)(b:List Zal)(r:Int)(h:Zca g b=some r):Yo 280 [Yn g,.one (l7 336 0 1 [] [l8 [cL 4 Zal.c Zal.d b]])] (Yj r):=by
 refine Yv Tryz.func280 fun S0 w0=>?_;unfold Zca at h;exact Ye 6 [rz,rz] [] (Yi [0,1,7,8]) .n (Zho S0 w0 g b (((g.length:Int)-(0:Int)).toNat+2) (g.length:Int) (0:Int) r h)
def ZaQ(h:List Zal):Nat->Int->Int->(List Zaa)->Option (List Zaa)|0,_,_,_=>none|fu+1,g,j,b=>bif(decide (j<(b.length:Int)))then need (0<=j/\j<(b.length:Int))<|(Zir (b.getD j.toNat Zaa.d) h).bind fun o=>bif(!o)then need (0<=g/\g<(b.length:Int))<|ZaQ h fu (Zan g 1) (Zan j 1) (b.set g.toNat (b.getD j.toNat Zaa.d))else ZaQ h fu g (Zan j 1) b else need (0<=g/\g<=(b.length:Int)/\(b.length:Int)<=(b.length:Int))<|need (g.toNat+(b.length-g.toNat)<=b.length)<|need (0<=(0:Int)/\(0:Int)<=g/\g<=(b.length:Int))<|need (g.toNat<=(Zla b g.toNat (b.length-g.toNat) Zaa.d).length)<|some ((Zla b g.toNat (b.length-g.toNat) Zaa.d).take g.toNat)
theorem Zhh(p:List Zal):∀(t:Nat)(g o:Int)(b r:List Zaa),ZaQ p t g o b=some r->Ys 42 S0 w0 Tryz.f335 [(l5 99999 44 10 Zaa.c Zaa.d r)] (.one (.osl 99999 r.length)) [1,1,1,0,1,0] ⟨[(0,.one (.osl 100000 b.length)),(1,.one (l7 336 0 1 [] [l8 [cL 4 Zal.c Zal.d p]])),(5,(Yj g)),(6,(Yj o))],[(l5 100000 44 10 Zaa.c Zaa.d b)]⟩:=by
 intro t;induction t with
 |zero=>
  intro g o b r h;simp[ZaQ]at h
 |succ t B=>
  intro g o b r h;unfold ZaQ at h;obtain⟨u,h⟩|⟨u,h⟩:=Zah h
  .obtain⟨D,h⟩:=Zao h;obtain⟨E,G,h⟩:=Zad h;have O1:=(mf u D (ltOf D) (Zow _ _ _ G));obtain⟨v,h⟩|⟨v,h⟩:=Zah h
   .obtain⟨F,h⟩:=Zao h;exact Ye 19 [rz,rz,rA [(2,aB E)],rA [(4,.c (b.set g.toNat (b.getD o.toNat Zaa.d)).length (Zam Zaa.c Zaa.d (b.set g.toNat (b.getD o.toNat Zaa.d))))],rz,rz] [true,true] ⟨[],[],[],[(100000,((b.set g.toNat (b.getD o.toNat Zaa.d)).length))],[],[0,1,5,6],[100000],[]⟩ (mz O1 v F (show (b.set g.toNat (b.getD o.toNat Zaa.d)).length=b.length from List.length_set) (ltOf F) (show ExtU 10 b.length (Zam Zaa.c Zaa.d b) g.toNat 0 (Zaa.c (b.getD o.toNat Zaa.d)) (Zam Zaa.c Zaa.d (b.set g.toNat (b.getD o.toNat Zaa.d)))from(ZhL _ _ _ rfl)) (mH ((b.set g.toNat (b.getD o.toNat Zaa.d)).length))) (B (Zan g 1) (Zan o 1) (b.set g.toNat (b.getD o.toNat Zaa.d)) r h)
   .exact Ye 17 [rz,rz,rA [(2,aB E)],rz] [true,false] (lX [0,1,5,6] [100000]) (mr O1 v) (B g (Zan o 1) b r h)
  .obtain⟨H,y,h⟩:=Yt h;obtain⟨z,A,h⟩:=Yt h;apply Yc h 10 [rz,rA [(3,.c (Zla b g.toNat (b.length-g.toNat) Zaa.d).length (Zam Zaa.c Zaa.d (Zla b g.toNat (b.length-g.toNat) Zaa.d)))],rA [(3,.c ((Zla b g.toNat (b.length-g.toNat) Zaa.d).take g.toNat).length (Zam Zaa.c Zaa.d ((Zla b g.toNat (b.length-g.toNat) Zaa.d).take g.toNat)))]] [false] (lZ [4] [4] [(4,99999)]) (ml u H (show (Zla b g.toNat (b.length-g.toNat) Zaa.d).length=b.length from(ZAD _ _ _ _ y)) (show ∀i j,i<b.length->j<10->(i<g.toNat\/g.toNat+(b.length-g.toNat)<=i)->Zam Zaa.c Zaa.d (Zla b g.toNat (b.length-g.toNat) Zaa.d) i j=Zam Zaa.c Zaa.d b i j from(ZHt _ _ _ y)) (show ∀i j,i<(b.length-g.toNat)->j<10->ZpM (([.lit (.bool false),.lit (.int .u64 (0)),.lit (.int .u64 (0)),.lit (.int .i64 (0)),.lit (.bool false),.lit (.int .i64 (0)),.lit (.int .i64 (0)),.lit (.int .i64 (0)),.lit (.int .i64 (0)),.lit (.int .i64 (0))]:List C).getD j .junk) (Zam Zaa.c Zaa.d (Zla b g.toNat (b.length-g.toNat) Zaa.d) (g.toNat+i) j)from(ZHu _ _ _ y (fun j hj=>.inl rfl))) z (mH 0) (show ((Zla b g.toNat (b.length-g.toNat) Zaa.d).take g.toNat).length=g.toNat from(ZFJ _ _ A)) (show ∀i j,i<g.toNat->j<10->Zam Zaa.c Zaa.d ((Zla b g.toNat (b.length-g.toNat) Zaa.d).take g.toNat) i j=Zam Zaa.c Zaa.d (Zla b g.toNat (b.length-g.toNat) Zaa.d) i j from(ZCO _ _)))
def ZbV(d:List Zaa)(b:List Zal):Option (List Zaa):=(Zca d b).bind fun g=>bif(g==(-1:Int))then some d else ZaQ b (((d.length:Int)-(Zan g 1)).toNat+2) g (Zan g 1) d
theorem ZhE(h:List Zaa)(b:List Zal)(r:List Zaa)(g:ZbV h b=some r):Yp 335 [(l5 100000 44 10 Zaa.c Zaa.d h)] [.one (.osl 100000 h.length),.one (l7 336 0 1 [] [l8 [cL 4 Zal.c Zal.d b]])] [(l5 99999 44 10 Zaa.c Zaa.d r)] (.one (.osl 99999 r.length)):=by
 refine Yw Tryz.func335 fun S0 w0=>?_;unfold ZbV at g;obtain⟨o,t,g⟩:=Zad g;have O2:=(mc (ZhX _ _ _ t));obtain⟨p,g⟩|⟨p,g⟩:=Zah g
 .apply Yc g 10 [rz,rA [(2,aI o)],rz,rz] [true] (lZ [4] [100000] [(100000,99999)]) (mr O2 p)
 .exact Ye 13 [rz,rA [(2,aI o)],rz,rz] [false] (lX [0,1,5,6] [100000]) (mr O2 p) (Zhh S0 w0 b (((h.length:Int)-(Zan o 1)).toNat+2) o (Zan o 1) h r g)
def Zkh(b:List Zaa)(d:List Zal):Option (List Zaa):=(Zbi b).bind fun g=>(ZbV g d).bind fun h=>some h
theorem ZtX(j:List Zaa)(o:List Zal)(r:List Zaa)(b:Zkh j o=some r):Yp 288 [] [Yn j,.one (cL 4 Zal.c Zal.d o)] [(l5 99999 44 10 Zaa.c Zaa.d r)] (.one (.osl 99999 r.length)):=by
 refine Yw Tryz.func288 fun S0 w0=>?_;unfold Zkh at b;obtain⟨g,h,p,t,b⟩:=Yu b;apply Yc b 4 [rz,⟨[],[],[(2,[3])],[],[],[],[(1,⟨[],[(99999,6)],[(l5 99999 44 10 Zaa.c Zaa.d g)],.one (.osl 99999 g.length)⟩),(3,⟨[(100000,6)],[(99999,8)],[(l5 99999 44 10 Zaa.c Zaa.d h)],.one (.osl 99999 h.length)⟩)]⟩] [] (lZ [4] [8] [(8,99999)]) (md (ZdC _ _ p) (ZhE _ _ _ t))
theorem ZvA(b:List Zaa)(g:List Zal)(r:List Zaa)(h:Zkh b g=some r):Yo 288 [Yn b,.one (cL 4 Zal.c Zal.d g)] (Yn r):=(ZtX b g r h).pure
def ZgL(b:List Zaa)(c0:Zal):Option Bool:=(ZiF b c0).bind fun d=>some (decide (d>=(0:Int)))
theorem Zoh(d:List Zaa)(c0:Zal)(r:Bool)(b:ZgL d c0=some r):Yo 287 [Yn d,.one (.rp false 4 (fun j=>(Zal.c c0:List C).getD (0+j) .junk))] (Yk r):=by
 refine Yv Tryz.func287 fun S0 w0=>?_;unfold ZgL at b;obtain⟨g,h,b⟩:=Zad b;apply Ya b 4 [rz,rA [(2,aI g)]] [] (mc (ZmK _ _ _ h))
def ZaZ(g:(List (List Zaa)))(b:Zal):Nat->Int->Int->Option Int|0,_,_=>none|fu+1,h,d=>bif(decide (d<h))then need (0<=d/\d<(g.length:Int))<|(ZgL (g.getD d.toNat ([]:(List Zaa))) b).bind fun j=>bif j then some d else ZaZ g b fu h (Zan d 1)else some (-1:Int)
theorem Zhp(v:(List (List Zaa)))(g:Zal):∀(p:Nat)(h o r:Int),ZaZ v g p h o=some r->Yr 19 S0 w0 Tryz.f286 (Yj r) [1,0,1,0] ⟨[(0,.one (cL 1 (cLs 10 Zaa.c Zaa.d) ([]:(List Zaa)) v)),(1,.one (l7 287 0 1 [] [.rp false 4 (fun j=>(Zal.c g:List C).getD (0+j) .junk)])),(7,(Yj h)),(8,(Yj o))],[]⟩:=by
 intro p;induction p with
 |zero=>
  intro h o r b;simp[ZaZ]at b
 |succ p z=>
  intro h o r b;unfold ZaZ at b;obtain⟨t,b⟩|⟨t,b⟩:=Zah b
  .obtain⟨o2,b⟩:=Zao b;obtain⟨y,A,b⟩:=Zad b;have O1:=(me t o2 (Zoh _ _ _ A));obtain⟨u,b⟩|⟨u,b⟩:=Zah b
   .apply Ya b 15 [rz,rz,rA [(5,aB y)],rz] [true,true] (mr O1 u)
   .exact Ye 17 [rz,rz,rA [(5,aB y)],rz] [true,false] (Yi [0,1,7,8]) (mr O1 u) (z h (Zan o 1) r b)
  .apply Ya b 8 [rz,rz] [false] (mc t)
def Zcb(d:(List (List Zaa)))(b:Zal):Option Int:=ZaZ d b (((d.length:Int)-(0:Int)).toNat+2) (d.length:Int) (0:Int)
theorem ZhY(g:(List (List Zaa)))(b:Zal)(r:Int)(h:Zcb g b=some r):Yo 286 [.one (cL 1 (cLs 10 Zaa.c Zaa.d) ([]:(List Zaa)) g),.one (l7 287 0 1 [] [.rp false 4 (fun j=>(Zal.c b:List C).getD (0+j) .junk)])] (Yj r):=by
 refine Yv Tryz.func286 fun S0 w0=>?_;unfold Zcb at h;exact Ye 6 [rz,rz] [] (Yi [0,1,7,8]) .n (Zhp S0 w0 g b (((g.length:Int)-(0:Int)).toNat+2) (g.length:Int) (0:Int) r h)
def Zgk(h:Zbj)(M:Zaq)(d:(List (List Zaa))):Option (Tout (Zau×Bool)):=(ZgA h).bind fun g=>need (0<=g/\g<(d.length:Int))<|(ZiF (d.getD g.toNat ([]:(List Zaa))) h.fx.fEnd).bind fun U=>bif(decide (U>=(0:Int)))then(ZhI (7:Int)).bind fun W=>some (Tout.ret (W,true) M)else(Ziq M h.fc.fMaxIn true).bind fun Z=>(match Z with | .ret B j=>bif B then(Zez h (d.getD g.toNat ([]:(List Zaa)))).bind fun x5=>(ZhQ j g (d.getD g.toNat ([]:(List Zaa))) x5).bind fun x6=>(match x6 with | .ret x6v D=>some (Tout.ret ((Zau.mk 0 (Zal.mk (Zaf.mk false 0 0) 0) 0 0 ([]:(List Zaa))),false) D) | .pan E=>some (Tout.pan E) | .bad F=>some (Tout.bad F))else(ZcJ d).bind fun x7=>(ZeC x7 h.fc.fQuota h.fc.fSecret).bind fun A=>bif(!A.2)then(ZhI (5:Int)).bind fun x9=>some (Tout.ret (x9,true) j)else(Zcb d A.1).bind fun b=>need (0<=b/\b<(d.length:Int))<|(Zkh (d.getD b.toNat ([]:(List Zaa))) ([A.1]:List Zal)).bind fun o=>(ZhQ j b (d.getD b.toNat ([]:(List Zaa))) o).bind fun G=>(match G with | .ret O p=>(Zez h ((d.set b.toNat o).getD g.toNat ([]:(List Zaa)))).bind fun H=>(ZhQ p g ((d.set b.toNat o).getD g.toNat ([]:(List Zaa))) H).bind fun I=>(match I with | .ret R t=>some (Tout.ret ((Zau.mk 0 A.1 1 0 ([]:(List Zaa))),true) t) | .pan u=>some (Tout.pan u) | .bad v=>some (Tout.bad v)) | .pan y=>some (Tout.pan y) | .bad z=>some (Tout.bad z)) | .pan J=>some (Tout.pan J) | .bad L=>some (Tout.bad L))
theorem Zkm(a0:Zbj)(a1:Zaq)(h:(List (List Zaa)))(r:(Tout (Zau×Bool)))(b:Zgk a0 a1 h=some r):Yq 209 [(100000,.box (Zaq.c a1)),(l5 100001 54 1 (cLs 10 Zaa.c Zaa.d) ([]:(List Zaa)) h)] [.agg (Zbj.c a0),.one (.ifc 140 (.ptr 100000 0)),.one (.osl 100001 h.length)] (oc (fun x=>.tup [(true,Zau.c x.1),(false,cB x.2)]) r):=by
 refine Zio.of Tryz.func209 rfl rfl rfl rfl fun S0 w0=>?_;unfold Zgk at b;obtain⟨t,q1,b⟩:=Zad b;obtain⟨o2,b⟩:=Zao b;obtain⟨H,q3,b⟩:=Zad b;have O1:=(mf (Zjw _ _ q1) o2 (ltOf o2) (ZmK _ _ _ q3));obtain⟨G,b⟩|⟨G,b⟩:=Zah b
 .obtain⟨x3,q5,b⟩:=Zad b;obtain rfl:=oi b;exact Yd 10 [rz,rA [(1,aI t)],rA [(7,aI H)],rA [(0,aG (Zau.c x3))]] [true] (lX [6,7] [6,100000]) (mt O1 G (ZiA _ _ q5))
 .obtain⟨x4,I,b⟩:=Zad b;cases x4 with
  |ret J L=>
   dsimp only at b
   let R2:List RA:=[rz,rA [(1,aI t)],rA [(7,aI H)],rH [] [(4,⟨[(100000,100000)],[],[(100000,.box (Zaq.c L))],(Yk J)⟩)]]
   have O3:=(mt O1 G (Zix _ _ _ _ I));obtain⟨M,b⟩|⟨M,b⟩:=Zah b
   .obtain⟨x5,q8,b⟩:=Zad b;have O4:=(mz O3 M o2 (ltOf o2) o2 (ltOf o2) (Zjv _ _ _ q8));obtain⟨x6,O,b⟩:=Zad b;cases x6 with
    |ret x6v R=>
     dsimp only at b;obtain rfl:=oi b;exact Yd 17 (R2++[rH [(11,.r (Yn x5) [])] [(12,⟨[(100000,100000)],[],[(100000,.box (Zaq.c R))],.tup []⟩)],rz]) [false,true] (lY [(6,[(7,cL 10 Zaa.c Zaa.d [])])] [6,7] [6,100000]) (mr O4 (Zer _ _ _ _ _ O))
    |_=>
     dsimp only at b;obtain rfl:=oi b;exact Yh 14 R2 [false,true] (rA [(11,.r (Yn x5) [])]) 12 ⟨[(100000,100000)],pvOf O⟩ (mr O4 (Zer _ _ _ _ _ O))
   .obtain⟨u,U,b⟩:=Zad b;obtain⟨v,W,b⟩:=Zad b
    let R5:List RA:=(R2++[rH [(8,.r (.tup [(true,Zal.c v.1),(false,cB v.2)]) [])] [(1,⟨[],[(99999,46)],[(l5 99999 44 10 Zaa.c Zaa.d u)],.one (.osl 99999 u.length)⟩),(1001,⟨[],[(99999,46)],[(l5 99999 44 10 Zaa.c Zaa.d u)],.one (.osl 99999 u.length)⟩)],rz])
    have O6:=(mw O3 M (Zjs _ _ U) (show ∀i j,i<u.length->j<10->∃y,Zam Zaa.c Zaa.d u i j=.lit y from(ZxT (sz:=10) (e:=Zaa.c) (d:=Zaa.d) (fun _=>rfl) (fun _=>rfl) _ _)) (Zty _ _ _ _ W));obtain⟨z,b⟩|⟨z,b⟩:=Zah b
    .obtain⟨x9,Z,b⟩:=Zad b;obtain rfl:=oi b;exact Yd 22 (R5++[rA [(0,aG (Zau.c x9))]]) [false,false,true] (lX [6,7] [6,100000]) (mt O6 z (ZiA _ _ Z))
    .obtain⟨g,kr,b⟩:=Zad b;obtain⟨p,b⟩:=Zao b;obtain⟨o,ku,b⟩:=Zad b
     let R7:List RA:=(R5++[⟨[(2,aI g)],[],[(1,[9])],[],[],[],[]⟩,⟨[(6,.r (Yn o) [])],[],[],[],[],[(5,(([v.1]:List Zal).length,Zam Zal.c Zal.d ([v.1]:List Zal)))],[]⟩])
     have O8:=(mB O6 z (ZhY _ _ _ kr) p (ltOf p) (mF (e:=Zal.c) Zal.d 4 (fun _=>rfl) ([v.1]:List Zal)) (ZvA _ _ _ ku) p (ltOf p));obtain⟨kw,A,b⟩:=Zad b;cases kw with
     |ret x12v D=>
      dsimp only at b;obtain⟨E,kx,b⟩:=Zad b
      let R9:List RA:=(R7++[rH [] [(7,⟨[(100000,100000)],[],[(100000,.box (Zaq.c D))],.tup []⟩)],rA [(4,.c (h.set g.toNat o).length (Zam (cLs 10 Zaa.c Zaa.d) ([]:(List Zaa)) (h.set g.toNat o)))]])
      have i7:=(mD O8 (Zer _ _ _ _ _ A) p (show (h.set g.toNat o).length=h.length from List.length_set) (ltOf p) (show ExtU 1 h.length (Zam (cLs 10 Zaa.c Zaa.d) ([]:(List Zaa)) h) g.toNat 0 ((cLs 10 Zaa.c Zaa.d) o) (Zam (cLs 10 Zaa.c Zaa.d) ([]:(List Zaa)) (h.set g.toNat o))from(ZhL _ _ _ rfl)) o2 (show t.toNat<(h.set g.toNat o).length from(by have:=ltOf o2;simp at this ⊢;omega)) o2 (show t.toNat<(h.set g.toNat o).length from(by have:=ltOf o2;simp at this ⊢;omega)) (Zjv _ _ _ kx));obtain⟨ky,B,b⟩:=Zad b;cases ky with
      |ret x14v F=>
       dsimp only at b;obtain rfl:=oi b;exact Yd 33 (R9++[rH [(11,.r (Yn E) [])] [(12,⟨[(100000,100000)],[],[(100000,.box (Zaq.c F))],.tup []⟩)],rz]) [false,false,false] (lY [(6,[(7,cL 10 Zaa.c Zaa.d [])])] [6,7] [6,100000]) (mr i7 (Zer _ _ _ _ _ B))
      |_=>
       dsimp only at b;obtain rfl:=oi b;exact Yh 30 R9 [false,false,false] (rA [(11,.r (Yn E) [])]) 12 ⟨[(100000,100000)],pvOf B⟩ (mr i7 (Zer _ _ _ _ _ B))
     |_=>
      dsimp only at b;obtain rfl:=oi b;exact Yh 26 R7 [false,false,false] (rz) 7 ⟨[(100000,100000)],pvOf A⟩ (mr O8 (Zer _ _ _ _ _ A))
  |_=>
   dsimp only at b;obtain rfl:=oi b;exact Yh 11 [rz,rA [(1,aI t)],rA [(7,aI H)]] [false] (rz) 4 ⟨[(100000,100000)],pvOf I⟩ (mt O1 G (Zix _ _ _ _ I))
def Zdm(g:Int)(h:Bool):Nat->Int->Zaq->Option (Tout Unit)|0,_,_=>none|fu+1,d,b=>bif(decide (d>=(0:Int)))then bif h then(ZiE g).bind fun y=>(Zeq b (Zan (2:Int) d) (d==(Zbd y (1:Int)))).bind fun z=>(match z with | .ret A j=>Zdm g h fu (Zbd d (1:Int)) j | .pan o=>some (Tout.pan o) | .bad p=>some (Tout.bad p))else(Zeq b (Zan (2:Int) d) false).bind fun B=>(match B with | .ret D t=>Zdm g h fu (Zbd d (1:Int)) t | .pan u=>some (Tout.pan u) | .bad v=>some (Tout.bad v))else some (Tout.ret () b)
theorem Zri(z:Int)(A:Bool):∀(t:Nat)(h:Int)(b:Zaq)(r:(Tout Unit)),Zdm z A t h b=some r->Good Tryz.prog 29 S0 w0 (bodyPost Tryz.prog Tryz.f210 (ZnE S0 w0 (oc (fun x=>.tup []) r))) (at_ [1,0] (ZaR Tryz.f210)) ⟨[(0,.one (.ifc 140 (.ptr 100000 0))),(1,(Yj z)),(2,(Yk A)),(6,(Yj h))],[(100000,.box (Zaq.c b))]⟩:=by
 intro t;induction t with
 |zero=>
  intro h b r g;simp[Zdm]at g
 |succ t B=>
  intro h b r g;unfold Zdm at g;obtain⟨j,g⟩|⟨j,g⟩:=Zah g
  .obtain⟨u,g⟩|⟨u,g⟩:=Zah g
   .obtain⟨D,E,g⟩:=Zad g;have O1:=(mf j u (ZmJ _ _ E) Ztm);obtain⟨F,v,g⟩:=Zad g;cases F with
    |ret G o=>
     dsimp only at g;exact Ye 12 [rz,⟨[(7,aI D),(14,.id 424)],[(4,true)],[],[],[],[],[(14,⟨[(100000,100000)],[],[(100000,.box (Zaq.c o))],.tup []⟩)]⟩,rz] [true] (lX [0,1,2,6] [100000]) (mt O1 (ZcF _ _ _ _ v) ZjA) (B (Zbd h (1:Int)) o r g)
    |_=>
     dsimp only at g;obtain rfl:=oi g;exact Yh 8 [rz] [true] (⟨[(7,aI D),(14,.id 424)],[(4,true)],[],[],[],[],[]⟩) 14 ⟨[(100000,100000)],pvOf v⟩ (mt O1 (ZcF _ _ _ _ v) ZjA)
   .obtain⟨H,y,g⟩:=Zad g;cases H with
    |ret I p=>
     dsimp only at g;exact Ye 12 [rz,⟨[(14,.id 424)],[(4,false)],[],[],[],[],[(14,⟨[(100000,100000)],[],[(100000,.box (Zaq.c p))],.tup []⟩)]⟩,rz] [true] (lX [0,1,2,6] [100000]) (mg j u Ztm (ZcF _ _ _ _ y) ZjA) (B (Zbd h (1:Int)) p r g)
    |_=>
     dsimp only at g;obtain rfl:=oi g;exact Yh 8 [rz] [true] (⟨[(14,.id 424)],[(4,false)],[],[],[],[],[]⟩) 14 ⟨[(100000,100000)],pvOf y⟩ (mg j u Ztm (ZcF _ _ _ _ y) ZjA)
  .obtain rfl:=oi g;exact Yd 6 [rz] [false] (lX [] [100000]) (mc j)
def ZjD(g:Zaq)(b:Int)(h:Bool):Option (Tout Unit):=(ZiE b).bind fun d=>Zdm b h (((Zbd d (1:Int))-(0:Int)).toNat+2) (Zbd d (1:Int)) g
theorem ZnM(d:Zaq)(g:Int)(h:Bool)(r:(Tout Unit))(b:ZjD d g h=some r):Yq 210 [(100000,.box (Zaq.c d))] [.one (.ifc 140 (.ptr 100000 0)),Yj g,Yk h] (oc (fun x=>.tup []) r):=by
 refine Zio.of Tryz.func210 rfl rfl rfl rfl fun S0 w0=>?_;unfold ZjD at b;obtain⟨j,o,b⟩:=Zad b;exact Ye 3 [rA [(1,aI j)]] [] (lX [0,1,2,6] [100000]) (mc (ZmJ _ _ o)) (Zri S0 w0 g h (((Zbd j (1:Int))-(0:Int)).toNat+2) (Zbd j (1:Int)) d r b)
def Zdx:Nat->Int->Int->(List (List Zaa))->Zaq->Zbj->Zau->Option (Tout Zau)|0,_,_,_,_,_,_=>none|fu+1,h,d,g,b,o,F=>bif(decide (d<h))then(Zln b d).bind fun G=>(match G with | .ret p t=>need (0<=d/\d<(g.length:Int))<|Zdx fu h (Zan d 1) (g.set d.toNat p) t o F | .pan u=>some (Tout.pan u) | .bad v=>some (Tout.bad v))else(Zgk o b g).bind fun H=>(match H with | .ret j y=>(ZjD y o.fc.fShards j.2).bind fun I=>(match I with | .ret J z=>some (Tout.ret j.1 z) | .pan A=>some (Tout.pan A) | .bad B=>some (Tout.bad B)) | .pan D=>some (Tout.pan D) | .bad E=>some (Tout.bad E))
theorem ZpD:∀(A:Nat)(u h:Int)(b:(List (List Zaa)))(j:Zaq)(g:Zbj)(t:Zau)(r:(Tout Zau)),Zdx A u h b j g t=some r->Good Tryz.prog 44 S0 w0 (bodyPost Tryz.prog Tryz.f130 (ZnE S0 w0 (oc (fun x=>.agg (Zau.c x)) r))) (at_ [1,1,1,0,1,0] (ZaR Tryz.f130)) ⟨[(1,.one (.ifc 140 (.ptr 100000 0))),(2,.one (.ptr 2 0)),(4,.one (.ptr 4 0)),(5,.one (.osl 17 b.length)),(19,(Yj u)),(20,(Yj h))],[(l5 17 54 1 (cLs 10 Zaa.c Zaa.d) ([]:(List Zaa)) b),(100000,.box (Zaq.c j)),(2,.box (Zbj.c g)),(4,.box (Zau.c t))]⟩:=by
 intro A;induction A with
 |zero=>
  intro u h b j g t r o;simp[Zdx]at o
 |succ A I=>
  intro u h b j g t r o;unfold Zdx at o;obtain⟨v,o⟩|⟨v,o⟩:=Zah o
  .obtain⟨J,B,o⟩:=Zad o;cases J with
   |ret p y=>
    dsimp only at o;obtain⟨H,o⟩:=Zao o;exact Ye 14 [rz,rz,rH [(6,.c (b.set h.toNat p).length (Zam (cLs 10 Zaa.c Zaa.d) ([]:(List Zaa)) (b.set h.toNat p)))] [(4,⟨[(100000,100000)],[],[(100000,.box (Zaq.c y))],(Yn p)⟩)],rz] [true] ⟨[],[],[],[(17,((b.set h.toNat p).length))],[],[1,2,4,5,19,20],[17,100000,2,4],[]⟩ (mi v (Zky _ _ _ B) H (show (b.set h.toNat p).length=b.length from List.length_set) (ltOf H) (show ExtU 1 b.length (Zam (cLs 10 Zaa.c Zaa.d) ([]:(List Zaa)) b) h.toNat 0 ((cLs 10 Zaa.c Zaa.d) p) (Zam (cLs 10 Zaa.c Zaa.d) ([]:(List Zaa)) (b.set h.toNat p))from(ZhL _ _ _ rfl)) (mH ((b.set h.toNat p).length))) (I u (Zan h 1) (b.set h.toNat p) y g t r o)
   |_=>
    dsimp only at o;obtain rfl:=oi o;exact Yh 10 [rz,rz] [true] (rz) 4 ⟨[(100000,100000)],pvOf B⟩ (md v (Zky _ _ _ B))
  .obtain⟨L,D,o⟩:=Zad o;cases L with
   |ret z E=>
    dsimp only at o
    let R1:List RA:=[rz,rH [] [(3,⟨[(100000,100000),(100001,17)],[],[(100000,.box (Zaq.c E))],.tup [(true,Zau.c z.1),(false,cB z.2)]⟩)]]
    have O2:=(md v (Zkm _ _ _ _ D));obtain⟨M,F,o⟩:=Zad o;cases M with
    |ret O G=>
     dsimp only at o;obtain rfl:=oi o;exact Yd 12 (R1++[rH [] [(5,⟨[(100000,100000)],[],[(100000,.box (Zaq.c G))],.tup []⟩)],rz]) [false] (lX [4] [4,100000]) (mr O2 (ZnM _ _ _ _ F))
    |_=>
     dsimp only at o;obtain rfl:=oi o;exact Yh 9 R1 [false] (rz) 5 ⟨[(100000,100000)],pvOf F⟩ (mr O2 (ZnM _ _ _ _ F))
   |_=>
    dsimp only at o;obtain rfl:=oi o;exact Yh 7 [rz] [false] (rz) 3 ⟨[(100000,100000),(100001,17)],pvOf D⟩ (md v (Zkm _ _ _ _ D))
def ZhJ(b:Zbj)(j:Zaq):Option (Tout Zau):=(ZjC j b.fc.fShards).bind fun o=>(match o with | .ret p d=>need (0<=b.fc.fShards/\b.fc.fShards<=b.fc.fShards/\b.fc.fShards<=140737488355328/\b.fc.fShards * 24<=140737488355328)<|Zdx ((((b.fc.fShards.toNat:Nat):Int)-(0:Int)).toNat+2) ((b.fc.fShards.toNat:Nat):Int) (0:Int) (List.replicate b.fc.fShards.toNat ([]:(List Zaa))) d b (Zau.mk 0 (Zal.mk (Zaf.mk false 0 0) 0) 0 0 ([]:(List Zaa))) | .pan g=>some (Tout.pan g) | .bad h=>some (Tout.bad h))
theorem ZlU(b:Zbj)(t:Zaq)(r:(Tout Zau))(g:ZhJ b t=some r):Yq 130 [(100000,.box (Zaq.c t))] [.agg (Zbj.c b),.one (.ifc 140 (.ptr 100000 0))] (oc (fun x=>.agg (Zau.c x)) r):=by
 refine Zio.of Tryz.func130 rfl rfl rfl rfl fun S0 w0=>?_;unfold ZhJ at g;obtain⟨u,p,g⟩:=Zad g;cases u with
 |ret v o=>
  dsimp only at g;obtain⟨o2,g⟩:=Zao g;exact Ye 10 [rz,rH [] [(4,⟨[(100000,100000)],[],[(100000,.box (Zaq.c o))],.tup []⟩)],rA [(3,.c b.fc.fShards.toNat (Zam (cLs 10 Zaa.c Zaa.d) ([]:(List Zaa)) (List.replicate b.fc.fShards.toNat ([]:(List Zaa)))))],rz] [] ⟨[],[(4,[(7,cL 10 Zaa.c Zaa.d [])])],[],[(17,((List.replicate b.fc.fShards.toNat ([]:(List Zaa))).length))],[],[1,2,4,5,19,20],[17,100000,2,4],[]⟩ (mi (ZnL _ _ _ p) (show b.fc.fShards=((b.fc.fShards.toNat:Nat):Int)from(Int.toNat_of_nonneg o2.1).symm) (show ((b.fc.fShards.toNat:Nat):Int)<=b.fc.fShards from((Int.toNat_of_nonneg o2.1).symm ▸ o2.2.1)) o2.2.2.1 o2.2.2.2 (show ∀i j,i<b.fc.fShards.toNat->j<1->ZpM (([.lit (.slice none 0 0)]:List C).getD j .junk) (Zam (cLs 10 Zaa.c Zaa.d) ([]:(List Zaa)) (List.replicate b.fc.fShards.toNat ([]:(List Zaa))) i j)from(Zmu (fun j hj=>match j,hj with|0,_=>.inr ⟨rfl,_,_,rfl⟩|j+1,h=>absurd h (by omega)) _)) (show (List.replicate b.fc.fShards.toNat ([]:(List Zaa))).length=b.fc.fShards.toNat from List.length_replicate)) (ZpD S0 w0 ((((b.fc.fShards.toNat:Nat):Int)-(0:Int)).toNat+2) ((b.fc.fShards.toNat:Nat):Int) (0:Int) (List.replicate b.fc.fShards.toNat ([]:(List Zaa))) o b Zau.d r g)
 |_=>
  dsimp only at g;obtain rfl:=oi g;exact Yh 3 [rz] [] (rz) 4 ⟨[(100000,100000)],pvOf p⟩ (mc (ZnL _ _ _ p))
def ZgK(b:Zbj)(a1:Zaq):Option (Tout Zau):=(ZlS b.fx).bind fun x1=>bif(!x1)then(ZjU a1 true).bind fun x2=>(match x2 with | .ret x2v y=>(ZhI (1:Int)).bind fun x3=>some (Tout.ret x3 y) | .pan z=>some (Tout.pan z) | .bad A=>some (Tout.bad A))else(Zja a1 (0:Int) false).bind fun x4=>(match x4 with | .ret x4v B=>(ZfS B (Zay.mk 3 0 0) false).bind fun x5=>(match x5 with | .ret D d=>(ZiS D.fBans b.fx.fEnd.fAddr b.fx.fNow).bind fun x6=>bif(decide (x6>(0:Int)))then(ZgR d (0:Int) true).bind fun x7=>(match x7 with | .ret x7v E=>some (Tout.ret (Zau.mk 8 (Zal.mk (Zaf.mk false 0 0) 0) 0 x6 ([]:(List Zaa))) E) | .pan F=>some (Tout.pan F) | .bad G=>some (Tout.bad G))else(Zhd b d).bind fun x8=>(match x8 with | .ret g h=>bif(!g.2)then(ZhJ b h).bind fun x9=>(match x9 with | .ret H I=>(ZgR I (0:Int) false).bind fun J=>(match J with | .ret x10v j=>some (Tout.ret H j) | .pan o=>some (Tout.pan o) | .bad p=>some (Tout.bad p)) | .pan L=>some (Tout.pan L) | .bad M=>some (Tout.bad M))else(ZgR h (0:Int) false).bind fun O=>(match O with | .ret x11v t=>some (Tout.ret g.1 t) | .pan u=>some (Tout.pan u) | .bad v=>some (Tout.bad v)) | .pan R=>some (Tout.pan R) | .bad U=>some (Tout.bad U)) | .pan W=>some (Tout.pan W) | .bad Z=>some (Tout.bad Z)) | .pan x4o=>some (Tout.pan x4o) | .bad x4s=>some (Tout.bad x4s))
theorem Zih(a0:Zbj)(a1:Zaq)(r:(Tout Zau))(b:ZgK a0 a1=some r):Yq 63 [(100000,.box (Zaq.c a1))] [.agg (Zbj.c a0),.one (.ifc 140 (.ptr 100000 0))] (oc (fun x=>.agg (Zau.c x)) r):=by
 refine Zio.of Tryz.func63 rfl rfl rfl rfl fun S0 w0=>?_;unfold ZgK at b;obtain⟨A,B,b⟩:=Zad b;obtain⟨t,b⟩|⟨t,b⟩:=Zah b
 .obtain⟨x2,D,b⟩:=Zad b;cases x2 with
  |ret x2v E=>
   dsimp only at b;obtain⟨x3,q4,b⟩:=Zad b;obtain rfl:=oi b;exact Yd 10 [rz,rA [(2,aB A)],rH [(1,.id 427)] [(1,⟨[(100000,100000)],[],[(100000,.box (Zaq.c E))],.tup []⟩)],rA [(0,aG (Zau.c x3))]] [true] (lX [4] [4,100000]) (mg (ZkV _ _ B) t (Zmh _ _ _ D) ZzU (ZiA _ _ q4))
  |_=>
   dsimp only at b;obtain rfl:=oi b;exact Yh 7 [rz,rA [(2,aB A)]] [true] (rA [(1,.id 427)]) 1 ⟨[(100000,100000)],pvOf D⟩ (mf (ZkV _ _ B) t (Zmh _ _ _ D) ZzU)
 .obtain⟨x4,F,b⟩:=Zad b;cases x4 with
  |ret x4v G=>
   dsimp only at b
   let R1:List RA:=[rz,rA [(2,aB A)],rH [(1,.id 428)] [(1,⟨[(100000,100000)],[],[(100000,.box (Zaq.c G))],.tup []⟩)]]
   have O2:=(mf (ZkV _ _ B) t (ZlL _ _ _ _ F) Zxk);obtain⟨x5,H,b⟩:=Zad b;cases x5 with
   |ret I J=>
    dsimp only at b;obtain⟨x6,q7,b⟩:=Zad b
    let R3:List RA:=(R1++[rH [(2,.id 425)] [(2,⟨[(100000,100000)],[],[(100000,.box (Zaq.c J))],.agg (Zag.c I)⟩)],rA [(8,aI x6)],rz])
    have O4:=(mu O2 (Zds _ _ _ _ H) ZlH (ZvK _ _ _ _ q7));obtain⟨u,b⟩|⟨u,b⟩:=Zah b
    .obtain⟨x7,L,b⟩:=Zad b;cases x7 with
     |ret x7v M=>
      dsimp only at b;obtain rfl:=oi b;exact Yd 21 (R3++[rH [(1,.id 423)] [(1,⟨[(100000,100000)],[],[(100000,.box (Zaq.c M))],.tup []⟩)],rz]) [false,true] (lY [(4,[(7,cL 10 Zaa.c Zaa.d [])])] [4] [4,100000]) (mu O4 u (ZeT _ _ _ _ L) Zoq)
     |_=>
      dsimp only at b;obtain rfl:=oi b;exact Yh 18 R3 [false,true] (rA [(1,.id 423)]) 1 ⟨[(100000,100000)],pvOf L⟩ (mu O4 u (ZeT _ _ _ _ L) Zoq)
    .obtain⟨x8,h,b⟩:=Zad b;cases x8 with
     |ret v O=>
      dsimp only at b
      let R5:List RA:=(R3++[rH [] [(2,⟨[(100000,100000)],[],[(100000,.box (Zaq.c O))],.tup [(true,Zau.c v.1),(false,cB v.2)]⟩)],rz])
      have O6:=(mt O4 u (Zlg _ _ _ h));obtain⟨g,b⟩|⟨g,b⟩:=Zah b
      .obtain⟨x9,j,b⟩:=Zad b;cases x9 with
       |ret R U=>
        dsimp only at b
        let R7:List RA:=(R5++[rH [] [(2,⟨[(100000,100000)],[],[(100000,.box (Zaq.c U))],.agg (Zau.c R)⟩)]])
        have O8:=(mt O6 g (ZlU _ _ _ j));obtain⟨W,o,b⟩:=Zad b;cases W with
        |ret x10v y=>
         dsimp only at b;obtain rfl:=oi b;exact Yd 29 (R7++[rH [(1,.id 423)] [(1,⟨[(100000,100000)],[],[(100000,.box (Zaq.c y))],.tup []⟩)],rz]) [false,false,true] (lX [4] [4,100000]) (mt O8 (ZeT _ _ _ _ o) Zoq)
        |_=>
         dsimp only at b;obtain rfl:=oi b;exact Yh 26 R7 [false,false,true] (rA [(1,.id 423)]) 1 ⟨[(100000,100000)],pvOf o⟩ (mt O8 (ZeT _ _ _ _ o) Zoq)
       |_=>
        dsimp only at b;obtain rfl:=oi b;exact Yh 24 R5 [false,false,true] (rz) 2 ⟨[(100000,100000)],pvOf j⟩ (mt O6 g (ZlU _ _ _ j))
      .obtain⟨Z,p,b⟩:=Zad b;cases Z with
       |ret x11v z=>
        dsimp only at b;obtain rfl:=oi b;exact Yd 29 (R5++[rH [(1,.id 423)] [(1,⟨[(100000,100000)],[],[(100000,.box (Zaq.c z))],.tup []⟩)],rz]) [false,false,false] (lX [4] [4,100000]) (mu O6 g (ZeT _ _ _ _ p) Zoq)
       |_=>
        dsimp only at b;obtain rfl:=oi b;exact Yh 26 R5 [false,false,false] (rA [(1,.id 423)]) 1 ⟨[(100000,100000)],pvOf p⟩ (mu O6 g (ZeT _ _ _ _ p) Zoq)
     |_=>
      dsimp only at b;obtain rfl:=oi b;exact Yh 19 R3 [false,false] (rz) 2 ⟨[(100000,100000)],pvOf h⟩ (mt O4 u (Zlg _ _ _ h))
   |_=>
    dsimp only at b;obtain rfl:=oi b;exact Yh 10 R1 [false] (rA [(2,.id 425)]) 2 ⟨[(100000,100000)],pvOf H⟩ (mt O2 (Zds _ _ _ _ H) ZlH)
  |_=>
   dsimp only at b;obtain rfl:=oi b;exact Yh 8 [rz,rA [(2,aB A)]] [false] (rA [(1,.id 428)]) 1 ⟨[(100000,100000)],pvOf F⟩ (mf (ZkV _ _ B) t (ZlL _ _ _ _ F) Zxk)
def Zkn(b:ZaA)(d:ZaB):Option ZrF:=some (ZrF.c63 (Zbj.mk b d))
theorem ZqE(b:ZaA)(d:ZaB)(r:ZrF)(g:Zkn b d=some r):Yo 19 [.agg (ZaA.c b),.agg (ZaB.c d)] (.one (ZrF.c r)):=by
 refine Yv Tryz.func19 fun S0 w0=>?_;unfold Zkn at g;apply Ya g 4 [rz,rz] [] .n
def ZBt:Tout Zau->Zcy | .ret x _=>⟨ZaK.d,x,true,false⟩ | .pan op=>⟨op,Zau.d,false,false⟩ | .bad _=>⟨ZaK.d,Zau.d,false,true⟩
def ZJH:List C:=[.lit (.int .i64 (0)),.lit (.int .i64 (0)),.lit (.int .i64 (0)),.lit (.int .i64 (0)),.lit (.int .i64 (0)),.lit (.int .i64 (0)),.lit (.int .i64 (0)),.lit (.int .i64 (0)),.lit (.bool false),.lit (.int .u64 (0)),.lit (.int .u64 (0)),.lit (.int .i64 (0)),.lit (.bool false),.lit (.int .i64 (0)),.lit (.int .i64 (0)),.lit (.int .i64 (0)),.lit (.int .i64 (0)),.lit (.int .i64 (0)),.lit (.slice none 0 0),.lit (.slice none 0 0),.lit (.bool false),.lit (.int .i64 (0)),.lit (.bool false),.lit (.int .u64 (0)),.lit (.int .u64 (0)),.lit (.int .i64 (0)),.lit (.int .i64 (0)),.lit (.int .i64 (0)),.lit (.slice none 0 0),.lit (.bool false),.lit (.bool false)]
def ZLd:List (Nat×C):=[(18,cL 5 Zae.c Zae.d []),(19,cL 7 Zac.c Zac.d [])]
def ZLc:List (Nat×C):=[(28,cL 10 Zaa.c Zaa.d [])]
theorem ZKe:∀w,(do eqGuard .eql 20 (.tmp 4) (.const .nilIface) .nilIface .nilIface;binOp .eql 20 .nilIface .nilIface:Sem Value).run Tryz.prog w=.ok (.bool true) w:=by
 intro w;have hg:(eqGuard .eql 20 (.tmp 4) (.const .nilIface) .nilIface .nilIface).run Tryz.prog w=.ok () w:=by simp[eqGuard]
 rw[Sem.run_bind,hg,Result.andThen_ok];have h:∀d:Nat,(Op.equalIn (d+1) 20 .nilIface .nilIface).run Tryz.prog w=.ok true w:=fun d=>by simp[Op.equalIn,run_underlying Tryz.underlying20]
 simp only[binOp];simp[Op.equal,Op.maxDepth,h 9999]
theorem ZGi(x:Zau)(g:Zaq):ZCH Tryz.prog 62 (ZJH.take 21++Zau.c x++[.lit (.bool true),.lit (.bool false)]) none (Zcy.c (ZBt (.ret x g))):=by
 intro no S m w hS bh hrep;refine Zwh (i:=0) (d:=4) (xv:=.one (.lit .nilIface)) (x:=.nilIface) (u':=.returning) Tryz.func62 rfl (fun ρ w=>by simp[go_sem]) rfl rfl rfl (by kernel_rfl) (by kernel_rfl) hS bh hrep (fun c₀ cs hu=>by cases c₀;cases hu;simp[recoverD]) RepC.lit rfl ?_;exact Zbl Zak 6 [rA [(0,.r (Yk true) [])],rz] [true] (lY [(100000,ZLd)] [] [100000]) (md ZKe (mH true)) (by kernel_rfl)
theorem ZIv(op:ZaK):ZCH Tryz.prog 62 ZJH (some (.one (.ifa 139 21 (fun i=>(ZaK.c op).getD i .junk)))) (Zcy.c (ZBt (.pan op))):=by
 intro no S m w hS bh hrep x hx;refine Zwh (i:=0) (d:=4) (xv:=_) (x:=x) (u':=.panicking [{ v:=x,recovered:=true }]) Tryz.func62 rfl (fun ρ w=>by simp[go_sem]) rfl rfl rfl (by kernel_rfl) (by kernel_rfl) hS bh hrep (fun c₀ cs hu=>by cases c₀;cases hu;simp[recoverD]) hx (by kernel_rfl) ?_;exact Zbl Zak 11 [rz,rz,rz,rz] [false,true] (lY [(100000,ZLc)] [] [100000]) (md (mH false) (mH true)) (by kernel_rfl)
theorem ZIw(s:ByteArray):ZCH Tryz.prog 62 ZJH (some (.one (.ifc 9 (.lit (.string s))))) (Zcy.c (ZBt (.bad s))):=by
 intro no S m w hS bh hrep x hx;refine Zwh (i:=0) (d:=4) (xv:=_) (x:=x) (u':=.panicking [{ v:=x,recovered:=true }]) Tryz.func62 rfl (fun ρ w=>by simp[go_sem]) rfl rfl rfl (by kernel_rfl) (by kernel_rfl) hS bh hrep (fun c₀ cs hu=>by cases c₀;cases hu;simp[recoverD]) hx (by kernel_rfl) ?_;exact Zbl Zak 11 [rz,rz,rz,rz] [false,false] (lY [(100000,ZLd++ZLc)] [] [100000]) (md (mH false) (mH false)) (by kernel_rfl)
def Zlx(c0:Zbj)(b:List Zag):Option Zcy:=(ZgK c0 ⟨b⟩).map ZBt
theorem Zov(c0:Zbj)(b:List Zag)(r:Zcy)(t:Zlx c0 b=some r):Znc Tryz.prog 18 [.one (l7 63 1 0 [.agv 28 (fun j=>(Zbj.c c0).getD j .junk)] []),.one (cLn 13 Zag.c Zag.d b)] (.agg (Zcy.c r)):=by
 obtain⟨o,ho,rfl⟩:=Option.map_eq_some_iff.1 t;have cz:∀p w,(invoke (.fn (.func 62) #[p]) #[]).run Tryz.prog w=.ok (.enter 62 #[p]) w:=fun p w=>by simp[go_sem]
 cases o with
 |ret x g=>
  exact Znc.defR rz rz (rH [] [(5,⟨[(100000,9)],[],[(100000,.box (Zaq.c g))],.agg (Zau.c x)⟩)]) 5 4 62 Zak Tryz.func18 rfl rfl rfl rfl rfl rfl (fun ρ w p h=>by simp[go_sem,h]) (by kernel_rfl) cz rfl rfl
   (md (show Tryz.prog.concrete 140=true from by kernel_rfl) (Zih c0 ⟨b⟩ (.ret x g) ho)) (by kernel_rfl) (ZGi x g) (by kernel_rfl) (by kernel_rfl) (by kernel_rfl)
 |pan op=>
  exact Znc.defP rz rz rz 5 4 62 5 ⟨[(100000,9)],.one (.ifa 139 21 (fun i=>(ZaK.c op).getD i .junk))⟩ Zak Tryz.func18 rfl rfl rfl rfl rfl rfl (fun ρ w p h=>by simp[go_sem,h]) (by kernel_rfl) cz rfl rfl
   (md (show Tryz.prog.concrete 140=true from by kernel_rfl) (Zih c0 ⟨b⟩ (.pan op) ho)) (by kernel_rfl) (ZIv op) (by kernel_rfl) (by kernel_rfl) (by kernel_rfl)
 |bad s=>
  exact Znc.defP rz rz rz 5 4 62 5 ⟨[(100000,9)],.one (.ifc 9 (.lit (.string s)))⟩ Zak Tryz.func18 rfl rfl rfl rfl rfl rfl (fun ρ w p h=>by simp[go_sem,h]) (by kernel_rfl) cz rfl rfl
   (md (show Tryz.prog.concrete 140=true from by kernel_rfl) (Zih c0 ⟨b⟩ (.bad s) ho)) (by kernel_rfl) (ZIw s) (by kernel_rfl) (by kernel_rfl) (by kernel_rfl)
def Zhe(d:ZaA)(g:ZaB)(h:List Zag):Option Zcy:=(Zkn d g).bind fun j=>(match j with | .c63 b=>(Zlx b h).bind fun o=>some o)
theorem ZqD(h:ZaA)(j:ZaB)(o:List Zag)(r:Zcy)(b:Zhe h j o=some r):Yo 14 [.agg (ZaA.c h),.agg (ZaB.c j),.one (cL 13 Zag.c Zag.d o)] (.agg (Zcy.c r)):=by
 refine Yv Tryz.func14 fun S0 w0=>?_;unfold Zhe at b;obtain⟨p,t,b⟩:=Zad b;cases p with
 |c63 g=>
  dsimp only at b;obtain⟨u,v,b⟩:=Zad b;apply Ya b 4 [rz,rH [(2,.r (.one (ZrF.c (ZrF.c63 g))) [])] [(4,⟨[(99997,99997)],[],[],.agg (Zcy.c u)⟩)]] [] (md (ZqE _ _ _ t) (Zov _ _ _ v))
def Zdw:Option Bool:=(Zju).bind fun b=>(Zhe b (ZaB.mk 1 (Zal.mk (Zaf.mk false 0 1) 80) (Zap.mk (Zaf.mk false 0 0) 0) 0 0 false) ([]:(List Zag))).bind fun g=>need (0<=(1:Int)/\(1:Int)<=(1:Int)/\(1:Int)<=140737488355328/\(1:Int) * 136<=140737488355328)<|(Zhe b (ZaB.mk 1 (Zal.mk (Zaf.mk false 0 0) 0) (Zap.mk (Zaf.mk false 0 0) 0) 0 0 false) (List.replicate (1:Int).toNat Zag.d)).bind fun h=>bif(g.fOp.fKind==(2:Int))then bif(!g.fDone)then bif h.fDone then some (h.fReply.fCode==(1:Int))else some false else some false else some false
theorem Zgo(r:Bool)(b:Zdw=some r):Yo 11 [] (Yk r):=by
 refine Yv Tryz.func11 fun S0 w0=>?_;unfold Zdw at b;obtain⟨t,v,y,z,b⟩:=Yu b;obtain⟨g,b⟩:=Zao b;obtain⟨A,B,b⟩:=Zad b
 let R1:List RA:=[rz,rz,rA [(0,aG (ZaA.c t)),(2,aG (Zcy.c v))],rA [(0,aG (ZaA.c t)),(2,.r (.one (.sl 13 (List.replicate (1:Int).toNat Zag.d).length (Zam Zag.c Zag.d (List.replicate (1:Int).toNat Zag.d)))) []),(3,aG (Zcy.c A))]]
 have O2:=(ml (ZkJ _ y) (show Yo 14 [.agg (ZaA.c t),.agg (ZaB.c (ZaB.mk 1 (Zal.mk (Zaf.mk false 0 1) 80) Zap.d 0 0 false)),.one (.lit (.slice none 0 0))] (.agg (Zcy.c v))from((ZqD _ _ _ _ z).weak (.cons (.refl _) (.cons (.refl _) (.cons (.one (.nul _ _)) .nil))))) (ZkJ _ y) (show (1:Int)=(((List.replicate (1:Int).toNat Zag.d).length:Nat):Int)from(by rw[List.length_replicate];exact(Int.toNat_of_nonneg g.1).symm)) (show (((List.replicate (1:Int).toNat Zag.d).length:Nat):Int)<=(1:Int)from(by rw[List.length_replicate];exact((Int.toNat_of_nonneg g.1).symm ▸ g.2.1))) g.2.2.1 g.2.2.2 (show ∀i j,i<(List.replicate (1:Int).toNat Zag.d).length->j<13->ZpM (([.lit (.int .i64 (0)),.lit (.bool false),.lit (.int .u64 (0)),.lit (.int .u64 (0)),.lit (.int .i64 (0)),.lit (.bool false),.lit (.int .i64 (0)),.lit (.int .i64 (0)),.lit (.int .i64 (0)),.lit (.int .i64 (0)),.lit (.int .i64 (0)),.lit (.slice none 0 0),.lit (.slice none 0 0)]:List C).getD j .junk) (Zam Zag.c Zag.d (List.replicate (1:Int).toNat Zag.d) i j)from(by rw[List.length_replicate];exact(Zmu (fun j hj=>match j,hj with|0,_=>.inl rfl|1,_=>.inl rfl|2,_=>.inl rfl|3,_=>.inl rfl|4,_=>.inl rfl|5,_=>.inl rfl|6,_=>.inl rfl|7,_=>.inl rfl|8,_=>.inl rfl|9,_=>.inl rfl|10,_=>.inl rfl|11,_=>.inr ⟨rfl,_,_,rfl⟩|12,_=>.inr ⟨rfl,_,_,rfl⟩|j+13,h=>absurd h (by omega)) _))) (ZqD _ _ _ _ B))
 obtain⟨o,b⟩|⟨o,b⟩:=Zah b
 .obtain⟨p,b⟩|⟨p,b⟩:=Zah b
  .obtain⟨u,b⟩|⟨u,b⟩:=Zah b
   .apply Ya b 10 (R1++[rB [(4,true),(9,true),(13,true)]]) [] (mu O2 o p u)
   .apply Ya b 10 (R1++[rB [(4,true),(9,true),(13,false)]]) [] (mu O2 o p u)
  .apply Ya b 10 (R1++[rB [(4,true),(9,false)]]) [] (mt O2 o p)
 .apply Ya b 10 (R1++[rB [(4,false)]]) [] (mr O2 o)
def Zdu(b:Int):Option Int:=bif(decide (b<(1:Int)))then some (1:Int)else bif(decide (b>(8:Int)))then some (8:Int)else some b
theorem Zic(h r:Int)(b:Zdu h=some r):Yo 111 [Yj h] (Yj r):=by
 refine Yv Tryz.func111 fun S0 w0=>?_;unfold Zdu at b;obtain⟨d,b⟩|⟨d,b⟩:=Zah b
 .apply Ya b 8 [rz,rz,rz] [true] (mc d)
 .obtain⟨g,b⟩|⟨g,b⟩:=Zah b
  .apply Ya b 13 [rz,rz,rz,rz] [false,true] (md d g)
  .apply Ya b 14 [rz,rz,rz,rz] [false,false] (md d g)
def ZdJ(p j o g b d:Int)(aD:Int->Int->Int->Int->Option (Int×Int))(h:Int):Option (Int×Int):=bif(decide ((Zan d 64)<o))then need (b≠0)<|bif((Int.tmod (IntKind.wrap .u64 (Int.tdiv j b)) (2:Int))==(1:Int))then aD h (IntKind.wrap .u64 (g+b)) (IntKind.wrap .u64 (Int.tdiv b (2:Int))) (Zan d 1)else aD h g (IntKind.wrap .u64 (Int.tdiv b (2:Int))) (Zan d 1)else aD h g (IntKind.wrap .u64 (Int.tdiv b (2:Int))) (Zan d 1)
theorem ZhG(o p t h b g:Int)(aD:Int->Int->Int->Int->Option (Int×Int))(aW:∀(cN gO dC dD:Int)(r:(Int×Int)),aD cN gO dC dD=some r->Yr 47 S0 w0 Tryz.f328 (.tup [(false,(cI .u64) r.1),(false,(cI .u64) r.2)]) [1,1,1,0,1,0] ⟨[(0,.one (.lit (.int .u64 o))),(1,.one (.lit (.int .u64 p))),(2,(Yj t)),(8,.one (.lit (.int .u64 cN))),(9,.one (.lit (.int .u64 gO))),(10,.one (.lit (.int .u64 dC))),(11,(Yj dD))],[]⟩)(j:Int)(r:(Int×Int))(d:ZdJ o p t h b g aD j=some r):Yr 47 S0 w0 Tryz.f328 (.tup [(false,(cI .u64) r.1),(false,(cI .u64) r.2)]) [1,1,1,0,1,0,0,1,0,0,1] ⟨[(0,.one (.lit (.int .u64 o))),(1,.one (.lit (.int .u64 p))),(2,(Yj t)),(8,.one (.lit (.int .u64 j))),(9,.one (.lit (.int .u64 h))),(10,.one (.lit (.int .u64 b))),(11,(Yj g))],[]⟩:=by
 unfold ZdJ at d;obtain⟨u,d⟩|⟨u,d⟩:=Zah d
 .obtain⟨y,d⟩:=Zao d;have O1:=(me u y (show (2:Int)≠0 from(by decide)));obtain⟨v,d⟩|⟨v,d⟩:=Zah d
  .exact Ye 9 [rB [(4,true)],rz,rz,rz] [true] (Yi [0,1,2,8,9,10,11]) (mt O1 v (show (2:Int)≠0 from(by decide))) (aW j (IntKind.wrap .u64 (h+b)) (IntKind.wrap .u64 (Int.tdiv b (2:Int))) (Zan g 1) r d)
  .exact Ye 9 [rB [(4,true)],rz,rz] [false] (Yi [0,1,2,8,9,10,11]) (mt O1 v (show (2:Int)≠0 from(by decide))) (aW j h (IntKind.wrap .u64 (Int.tdiv b (2:Int))) (Zan g 1) r d)
 .exact Ye 9 [rB [(4,false)],rz,rz] [false] (Yi [0,1,2,8,9,10,11]) (me u (mH false) (show (2:Int)≠0 from(by decide))) (aW j h (IntKind.wrap .u64 (Int.tdiv b (2:Int))) (Zan g 1) r d)
def ZbL(g j h:Int):Nat->Int->Int->Int->Int->Option (Int×Int)|0,_,_,_,_=>none|fu+1,o,p,b,d=>bif(decide (d<(64:Int)))then bif(decide (d<h))then need (b≠0)<|bif((Int.tmod (IntKind.wrap .u64 (Int.tdiv g b)) (2:Int))==(1:Int))then ZdJ g j h p b d (ZbL g j h fu) (IntKind.wrap .u64 (o+b))else ZdJ g j h p b d (ZbL g j h fu) o else ZdJ g j h p b d (ZbL g j h fu) o else some (o,p)
theorem ZoO(h j o:Int):∀(p:Nat)(t u d g:Int)(r:(Int×Int)),ZbL h j o p t u d g=some r->Yr 47 S0 w0 Tryz.f328 (.tup [(false,(cI .u64) r.1),(false,(cI .u64) r.2)]) [1,1,1,0,1,0] ⟨[(0,.one (.lit (.int .u64 h))),(1,.one (.lit (.int .u64 j))),(2,(Yj o)),(8,.one (.lit (.int .u64 t))),(9,.one (.lit (.int .u64 u))),(10,.one (.lit (.int .u64 d))),(11,(Yj g))],[]⟩:=by
 intro p;induction p with
 |zero=>
  intro t u d g r b;simp[ZbL]at b
 |succ p y=>
  intro t u d g r b;unfold ZbL at b;obtain⟨v,b⟩|⟨v,b⟩:=Zah b
  .obtain⟨z,b⟩|⟨z,b⟩:=Zah b
   .obtain⟨B,b⟩:=Zao b;have O2:=(mf v z B (show (2:Int)≠0 from(by decide)));obtain⟨A,b⟩|⟨A,b⟩:=Zah b
    .exact Ye 13 [rz,rB [(3,true)],rz] [true,true] (Yi [0,1,2,8,9,10,11]) (mr O2 A) (ZhG S0 w0 h j o u d g (ZbL h j o p) y (IntKind.wrap .u64 (t+d)) r b)
    .exact Ye 13 [rz,rB [(3,true)]] [true,false] (Yi [0,1,2,8,9,10,11]) (mr O2 A) (ZhG S0 w0 h j o u d g (ZbL h j o p) y t r b)
   .exact Ye 13 [rz,rB [(3,false)]] [true,false] (Yi [0,1,2,8,9,10,11]) (me v z (mH false)) (ZhG S0 w0 h j o u d g (ZbL h j o p) y t r b)
  .apply Ya b 8 [rz,rz] [false] (mc v)
def Zeh(b d g:Int):Option (Int×Int):=ZbL b d g (((64:Int)-(0:Int)).toNat+2) (0:Int) (0:Int) (9223372036854775808:Int) (0:Int)
theorem ZlP(b d g:Int)(r:(Int×Int))(h:Zeh b d g=some r):Yo 328 [.one (.lit (.int .u64 b)),.one (.lit (.int .u64 d)),Yj g] (.tup [(false,(cI .u64) r.1),(false,(cI .u64) r.2)]):=by
 refine Yv Tryz.func328 fun S0 w0=>?_;unfold Zeh at h;exact Ye 10 [rz,rz,rz,rz] [] (Yi [0,1,2,8,9,10,11]) .n (ZoO S0 w0 b d g (((64:Int)-(0:Int)).toNat+2) (0:Int) (0:Int) (9223372036854775808:Int) (0:Int) r h)
def Zfn(b j:Zaf)(d:Int):Option Zaf:=bif b.fV6 then(Zeh b.fHi b.fLo d).bind fun g=>some (Zaf.mk true g.1 g.2)else(Zeh (0:Int) b.fLo (Zan (96:Int) d)).bind fun h=>some (Zaf.mk false 0 h.2)
theorem ZjN(d g:Zaf)(j:Int)(r:Zaf)(b:Zfn d g j=some r):Yr 45 S0 w0 Tryz.f267 (.agg (Zaf.c r)) [1,1,1,1] ⟨[(1,(Yj j)),(2,.one (.ptr 2 0)),(4,.one (.ptr 4 0))],[(2,.box (Zaf.c d)),(4,.box (Zaf.c g))]⟩:=by
 unfold Zfn at b;obtain⟨h,b⟩|⟨h,b⟩:=Zah b
 .obtain⟨o,t,b⟩:=Zad b;apply Ya b 8 [rz,rA [(5,.r (.tup [(false,(cI .u64) o.1),(false,(cI .u64) o.2)]) [])],rz] [true] (md h (ZlP _ _ _ _ t))
 .obtain⟨p,u,b⟩:=Zad b;apply Ya b 9 [rz,rA [(4,.r (.tup [(false,(cI .u64) p.1),(false,(cI .u64) p.2)]) [])],rz] [false] (md h (ZlP _ _ _ _ u))
def Zfo(d:Int)(b g:Zaf):Option Zaf:=(Zcj b).bind fun h=>bif(decide (d>h))then Zfn b g h else Zfn b g d
theorem ZjO(j:Int)(d g r:Zaf)(b:Zfo j d g=some r):Yr 45 S0 w0 Tryz.f267 (.agg (Zaf.c r)) [1,1,1] ⟨[(1,(Yj j)),(2,.one (.ptr 2 0)),(4,.one (.ptr 4 0))],[(2,.box (Zaf.c d)),(4,.box (Zaf.c g))]⟩:=by
 unfold Zfo at b;obtain⟨h,o,b⟩:=Zad b;obtain⟨p,b⟩|⟨p,b⟩:=Zah b
 .exact Ye 5 [rA [(2,aI h)],rA [(1,aI h)]] [true] (lX [1,2,4] [2,4]) (me (ZcB _ _ o) p (ZcB _ _ o)) (ZjN S0 w0 d g h r b)
 .exact Ye 5 [rA [(2,aI h)]] [false] (lX [1,2,4] [2,4]) (md (ZcB _ _ o) p) (ZjN S0 w0 d g j r b)
def Zid(b:Zaf)(d:Int):Option Zaf:=(Zcc b).bind fun g=>bif(!g)then some (Zaf.mk false 0 0)else bif(decide (d<(0:Int)))then Zfo (0:Int) b (Zaf.mk false 0 0)else Zfo d b (Zaf.mk false 0 0)
theorem ZpZ(d:Zaf)(g:Int)(r:Zaf)(b:Zid d g=some r):Yo 267 [.agg (Zaf.c d),Yj g] (.agg (Zaf.c r)):=by
 refine Yv Tryz.func267 fun S0 w0=>?_;unfold Zid at b;obtain⟨h,p,b⟩:=Zad b;obtain⟨j,b⟩|⟨j,b⟩:=Zah b
 .apply Ya b 8 [rz,rA [(1,aB h)],rz] [true] (md (ZbJ _ _ p) j)
 .have O1:=(md (ZbJ _ _ p) j);obtain⟨o,b⟩|⟨o,b⟩:=Zah b
  .exact Ye 12 [rz,rA [(1,aB h)],rz,rz] [false,true] (lX [1,2,4] [2,4]) (mr O1 o) (ZjO S0 w0 (0:Int) d Zaf.d r b)
  .exact Ye 12 [rz,rA [(1,aB h)],rz] [false,false] (lX [1,2,4] [2,4]) (mr O1 o) (ZjO S0 w0 g d Zaf.d r b)
def Zie(d:Zaf)(b:Int):Option (Zap×Bool):=(Zcc d).bind fun g=>bif(!g)then some ((Zap.mk (Zaf.mk false 0 0) 0),false)else bif(decide (b<(0:Int)))then some ((Zap.mk (Zaf.mk false 0 0) 0),false)else(Zcj d).bind fun h=>bif(decide (b>h))then some ((Zap.mk (Zaf.mk false 0 0) 0),false)else(Zid d b).bind fun j=>some ((Zap.mk j b),true)
theorem Zqa(o:Zaf)(p:Int)(r:(Zap×Bool))(b:Zie o p=some r):Yo 195 [.agg (Zaf.c o),Yj p] (.tup [(true,Zap.c r.1),(false,cB r.2)]):=by
 refine Yv Tryz.func195 fun S0 w0=>?_;unfold Zie at b;obtain⟨d,t,b⟩:=Zad b;obtain⟨g,b⟩|⟨g,b⟩:=Zah b
 .apply Ya b 8 [rz,⟨[(1,aB d)],[(3,true)],[],[],[],[],[]⟩,rz] [true] (me (ZbJ _ _ t) g (mH true))
 .have O1:=(md (ZbJ _ _ t) g);obtain⟨h,b⟩|⟨h,b⟩:=Zah b
  .apply Ya b 8 [rz,⟨[(1,aB d)],[(3,false),(7,true)],[],[],[],[],[]⟩,rz] [true] (mt O1 h (mH true))
  .obtain⟨u,v,b⟩:=Zad b
   let R2:List RA:=[rz,⟨[(1,aB d),(10,aI u)],[(3,false),(7,false)],[],[],[],[],[]⟩]
   have O3:=(mt O1 h (ZcB _ _ v));obtain⟨j,b⟩|⟨j,b⟩:=Zah b
   .apply Ya b 8 (R2++[rz]) [true] (mr O3 j)
   .obtain⟨y,z,b⟩:=Zad b;apply Ya b 9 (R2++[rA [(2,aG (Zaf.c y))]]) [false] (mt O3 j (ZpZ _ _ _ z))
def ZgG(b:Zaf):Option Zap:=(Zcj b).bind fun d=>(Zie b d).bind fun g=>some g.1
theorem Zqb(d:Zaf)(r:Zap)(b:ZgG d=some r):Yo 110 [.agg (Zaf.c d)] (.agg (Zap.c r)):=by
 refine Yv Tryz.func110 fun S0 w0=>?_;unfold ZgG at b;obtain⟨h,g,j,o,b⟩:=Yu b;apply Ya b 6 [rz,rA [(2,aI h),(3,.r (.tup [(true,Zap.c g.1),(false,cB g.2)]) [])],rz] [] (md (ZcB _ _ j) (Zqa _ _ _ o))
def ZeM(b:Int):Option Int:=some (IntKind.wrap .u64 (((BitVec.ofInt (IntKind.bits .u64) (IntKind.wrap .u64 ((IntKind.wrap .u64 (((BitVec.ofInt (IntKind.bits .u64) (IntKind.wrap .u64 ((IntKind.wrap .u64 (((BitVec.ofInt (IntKind.bits .u64) b) ^^^ (BitVec.ofInt (IntKind.bits .u64) (IntKind.wrap .u64 (Int.tdiv b (1073741824:Int))))).toNat:Int))*(13787848793156543929:Int)))) ^^^ (BitVec.ofInt (IntKind.bits .u64) (IntKind.wrap .u64 (Int.tdiv (IntKind.wrap .u64 ((IntKind.wrap .u64 (((BitVec.ofInt (IntKind.bits .u64) b) ^^^ (BitVec.ofInt (IntKind.bits .u64) (IntKind.wrap .u64 (Int.tdiv b (1073741824:Int))))).toNat:Int))*(13787848793156543929:Int))) (134217728:Int))))).toNat:Int))*(10723151780598845931:Int)))) ^^^ (BitVec.ofInt (IntKind.bits .u64) (IntKind.wrap .u64 (Int.tdiv (IntKind.wrap .u64 ((IntKind.wrap .u64 (((BitVec.ofInt (IntKind.bits .u64) (IntKind.wrap .u64 ((IntKind.wrap .u64 (((BitVec.ofInt (IntKind.bits .u64) b) ^^^ (BitVec.ofInt (IntKind.bits .u64) (IntKind.wrap .u64 (Int.tdiv b (1073741824:Int))))).toNat:Int))*(13787848793156543929:Int)))) ^^^ (BitVec.ofInt (IntKind.bits .u64) (IntKind.wrap .u64 (Int.tdiv (IntKind.wrap .u64 ((IntKind.wrap .u64 (((BitVec.ofInt (IntKind.bits .u64) b) ^^^ (BitVec.ofInt (IntKind.bits .u64) (IntKind.wrap .u64 (Int.tdiv b (1073741824:Int))))).toNat:Int))*(13787848793156543929:Int))) (134217728:Int))))).toNat:Int))*(10723151780598845931:Int))) (2147483648:Int))))).toNat:Int))
theorem ZiM(b r:Int)(d:ZeM b=some r):Yo 266 [.one (.lit (.int .u64 b))] (.one (.lit (.int .u64 r))):=by
 refine Yv Tryz.func266 fun S0 w0=>?_;unfold ZeM at d;apply Ya d 8 [rz,rz,rz,rz] [] (me (show (1073741824:Int)≠0 from(by decide)) (show (134217728:Int)≠0 from(by decide)) (show (2147483648:Int)≠0 from(by decide)))
def ZdW(d:List Int):Nat->Int->Int->Option Int|0,_,_=>none|fu+1,g,b=>bif(decide (b<(d.length:Int)))then need (0<=b/\b<(d.length:Int))<|(ZeM (IntKind.wrap .u64 ((d.getD b.toNat (0:Int))+(11400714819323198485:Int)))).bind fun h=>(ZeM (IntKind.wrap .u64 (((BitVec.ofInt (IntKind.bits .u64) (IntKind.wrap .u64 ((IntKind.wrap .u64 (g*(128:Int)))+(IntKind.wrap .u64 (Int.tdiv g (144115188075855872:Int)))))) ^^^ (BitVec.ofInt (IntKind.bits .u64) h)).toNat:Int))).bind fun j=>ZdW d fu j (Zan b 1)else some g
theorem Zpz(o:List Int):∀(g:Nat)(h d r:Int),ZdW o g h d=some r->Yr 30 S0 w0 Tryz.f194 (.one (.lit (.int .u64 r))) [1,1,0,1,0] ⟨[(1,.one (cL 1 (cI .u64) (0:Int) o)),(5,.one (.lit (.int .u64 h))),(6,(Yj d))],[]⟩:=by
 intro g;induction g with
 |zero=>
  intro h d r b;simp[ZdW]at b
 |succ g t=>
  intro h d r b;unfold ZdW at b;obtain⟨j,b⟩|⟨j,b⟩:=Zah b
  .obtain⟨u,b⟩:=Zao b;obtain⟨v,p,y,z,b⟩:=Yu b;exact Ye 12 [rz,rA [(10,.r (.one (.lit (.int .u64 v))) []),(12,.r (.one (.lit (.int .u64 p))) [])],rz] [true] (Yi [1,5,6]) (mg j (show (144115188075855872:Int)≠0 from(by decide)) u (ZiM _ _ y) (ZiM _ _ z)) (t p (Zan d 1) r b)
  .apply Ya b 8 [rz,rz] [false] (mc j)
def Zgz(d:Int)(b:List Int):Option Int:=(ZeM (IntKind.wrap .u64 (d+(11400714819323198485:Int)))).bind fun g=>ZdW b (((b.length:Int)-(0:Int)).toNat+2) g (0:Int)
theorem Zmi(g:Int)(b:List Int)(r:Int)(d:Zgz g b=some r):Yo 194 [.one (.lit (.int .u64 g)),.one (cL 1 (cI .u64) (0:Int) b)] (.one (.lit (.int .u64 r))):=by
 refine Yv Tryz.func194 fun S0 w0=>?_;unfold Zgz at d;obtain⟨h,j,d⟩:=Zad d;exact Ye 8 [rz,rA [(2,.r (.one (.lit (.int .u64 h))) [])],rz] [] (Yi [1,5,6]) (mc (ZiM _ _ j)) (Zpz S0 w0 b (((b.length:Int)-(0:Int)).toNat+2) h (0:Int) r d)
def Zeg(d:Int)(b:Zap):Option Int:=bif b.fAddr.fV6 then(Zgz d ([(6:Int),b.fAddr.fHi,b.fAddr.fLo,(IntKind.wrap .u64 b.fBits)]:List Int)).bind fun g=>some g else(Zgz d ([(4:Int),b.fAddr.fHi,b.fAddr.fLo,(IntKind.wrap .u64 b.fBits)]:List Int)).bind fun h=>some h
theorem ZiN(o:Int)(b:Zap)(r:Int)(g:Zeg o b=some r):Yo 109 [.one (.lit (.int .u64 o)),.agg (Zap.c b)] (.one (.lit (.int .u64 r))):=by
 refine Yv Tryz.func109 fun S0 w0=>?_;unfold Zeg at g;obtain⟨h,g⟩|⟨h,g⟩:=Zah g
 .obtain⟨p,t,g⟩:=Zad g;apply Ya g 11 [rz,rz,rz,rz,⟨[(12,.r (.one (.lit (.int .u64 p))) [])],[],[],[],[],[(11,(([(6:Int),b.fAddr.fHi,b.fAddr.fLo,(IntKind.wrap .u64 b.fBits)]:List Int).length,Zam (cI .u64) (0:Int) ([(6:Int),b.fAddr.fHi,b.fAddr.fLo,(IntKind.wrap .u64 b.fBits)]:List Int)))],[]⟩] [true] (me h (mF (e:=(cI .u64)) (0:Int) 1 (fun _=>rfl) ([(6:Int),b.fAddr.fHi,b.fAddr.fLo,(IntKind.wrap .u64 b.fBits)]:List Int)) (Zmi _ _ _ t))
 .obtain⟨u,v,g⟩:=Zad g;apply Ya g 11 [rz,rz,rz,⟨[(12,.r (.one (.lit (.int .u64 u))) [])],[],[],[],[],[(11,(([(4:Int),b.fAddr.fHi,b.fAddr.fLo,(IntKind.wrap .u64 b.fBits)]:List Int).length,Zam (cI .u64) (0:Int) ([(4:Int),b.fAddr.fHi,b.fAddr.fLo,(IntKind.wrap .u64 b.fBits)]:List Int)))],[]⟩] [false] (me h (mF (e:=(cI .u64)) (0:Int) 1 (fun _=>rfl) ([(4:Int),b.fAddr.fHi,b.fAddr.fLo,(IntKind.wrap .u64 b.fBits)]:List Int)) (Zmi _ _ _ v))
def Zgi(d b:Int):Option Int:=bif(decide (b<(1:Int)))then some (0:Int)else bif(decide (b>(2147483648:Int)))then some (0:Int)else some (IntKind.wrap .i64 (IntKind.wrap .u64 (Int.tdiv (IntKind.wrap .u64 ((IntKind.wrap .u64 (Int.tdiv d (4294967296:Int)))*(IntKind.wrap .u64 b))) (4294967296:Int))))
theorem ZpA(h j r:Int)(b:Zgi h j=some r):Yo 108 [.one (.lit (.int .u64 h)),Yj j] (Yj r):=by
 refine Yv Tryz.func108 fun S0 w0=>?_;unfold Zgi at b;obtain⟨d,b⟩|⟨d,b⟩:=Zah b
 .apply Ya b 8 [rz,rB [(2,true)],rz] [true] (md d (mH true))
 .obtain⟨g,b⟩|⟨g,b⟩:=Zah b
  .apply Ya b 8 [rz,rB [(2,false)],rz] [true] (md d g)
  .apply Ya b 9 [rz,rB [(2,false)],rz] [false] (mf d g (show (4294967296:Int)≠0 from(by decide)) (show (4294967296:Int)≠0 from(by decide)))
def Zgy(b:Zaf)(d g:Int):Option Int:=(ZgG b).bind fun h=>(Zeg d h).bind fun j=>(Zdu g).bind fun o=>(Zgi j o).bind fun p=>some p
theorem Zrn(d:Zaf)(g h r:Int)(b:Zgy d g h=some r):Yo 48 [.agg (Zaf.c d),.one (.lit (.int .u64 g)),Yj h] (Yj r):=by
 refine Yv Tryz.func48 fun S0 w0=>?_;unfold Zgy at b;obtain⟨j,o,p,t,b⟩:=Yu b;obtain⟨u,v,y,z,b⟩:=Yu b;apply Ya b 4 [rz,rA [(2,aG (Zap.c j)),(3,.r (.one (.lit (.int .u64 o))) []),(5,aI u),(6,aI v)]] [] (mf (Zqb _ _ p) (ZiN _ _ _ t) (Zic _ _ y) (ZpA _ _ _ z))
def Zcm(j:List Zaa)(t u p:Int)(aA:Int->(List Zab)->Option (List Zab)):Nat->Int->(List Zab)->Int->(List Zaa)->Option (List Zab)|0,_,_,_,_=>none|fu+1,g,o,h,b=>bif(decide (g<(j.length:Int)))then need (0<=g/\g<(j.length:Int))<|(Zgy (((j.getD g.toNat Zaa.d).fEnd).fAddr) t u).bind fun v=>bif(v==p)then need ((b++([(j.getD g.toNat Zaa.d)]:List Zaa)).length * 80<=140737488355328/\(b++([(j.getD g.toNat Zaa.d)]:List Zaa)).length<=maxLen)<|Zcm j t u p aA fu (Zan g 1) o (Zan h 1) (b++([(j.getD g.toNat Zaa.d)]:List Zaa))else Zcm j t u p aA fu (Zan g 1) o h b else need ((o++([(Zab.mk h b)]:List Zab)).length * 32<=140737488355328/\(o++([(Zab.mk h b)]:List Zab)).length<=maxLen)<|aA (Zan p 1) (o++([(Zab.mk h b)]:List Zab))
theorem Znm(p:List Zaa)(v y z:Int)(aA:Int->(List Zab)->Option (List Zab))(bF:∀(cN:Int)(j3 r:List Zab),aA cN j3=some r->Ys 54 S0 w0 Tryz.f61 [(l5 99999 202 2 Zab.c Zab.d r)] (.one (.osl 99999 r.length)) [1,1,0,1,0] ⟨[(0,(Yn p)),(1,.one (.lit (.int .u64 v))),(2,(Yj y)),(7,.one (.osl 7 j3.length)),(8,(Yj cN))],[(l5 7 202 2 Zab.c Zab.d j3)]⟩):∀(u:Nat)(h:Int)(t:List Zab)(g:Int)(b:List Zaa)(r:List Zab),Zcm p v y z aA u h t g b=some r->Ys 54 S0 w0 Tryz.f61 [(l5 99999 202 2 Zab.c Zab.d r)] (.one (.osl 99999 r.length)) [1,1,0,1,0,0,1,0,0,1,0,1,0] ⟨[(0,(Yn p)),(1,.one (.lit (.int .u64 v))),(2,(Yj y)),(7,.one (.osl 7 t.length)),(8,(Yj z)),(9,.one (.ptr 9 0)),(10,(Yj h))],[(l5 7 202 2 Zab.c Zab.d t),(l5 80901 44 10 Zaa.c Zaa.d b),(9,.box [.lit (.int .i64 g),.osl 80901 b.length])]⟩:=by
 intro u;induction u with
 |zero=>
  intro h t g b r o;simp[Zcm]at o
 |succ u D=>
  intro h t g b r o;unfold Zcm at o;obtain⟨A,o⟩|⟨A,o⟩:=Zah o
  .obtain⟨E,o⟩:=Zao o;obtain⟨F,I,o⟩:=Zad o;have O1:=(me A E (Zrn _ _ _ _ I));obtain⟨B,o⟩|⟨B,o⟩:=Zah o
   .obtain⟨G,o⟩:=Zao o;exact Ye 17 [rz,rA [(8,aI F)],⟨[(7,.c ((b++([(p.getD h.toNat Zaa.d)]:List Zaa)).length) (Zam Zaa.c Zaa.d (b++([(p.getD h.toNat Zaa.d)]:List Zaa))))],[],[],[],[],[(6,(([(p.getD h.toNat Zaa.d)]:List Zaa).length,Zam Zaa.c Zaa.d ([(p.getD h.toNat Zaa.d)]:List Zaa)))],[]⟩,rz,rz] [true,true] (lZ [0,1,2,7,8,9,10] [7,43,9] [(43,80901)]) (mz O1 B E (mF (e:=Zaa.c) Zaa.d 10 (fun _=>rfl) ([(p.getD h.toNat Zaa.d)]:List Zaa)) (Zdk (sz:=10) (e:=Zaa.c) (d:=Zaa.d) b ([(p.getD h.toNat Zaa.d)]:List Zaa)) G.1 G.2) (D (Zan h 1) t (Zan g 1) (b++([(p.getD h.toNat Zaa.d)]:List Zaa)) r o)
   .exact Ye 15 [rz,rA [(8,aI F)],rz] [true,false] (lX [0,1,2,7,8,9,10] [7,80901,9]) (mr O1 B) (D (Zan h 1) t g b r o)
  .obtain⟨H,o⟩:=Zao o;exact Ye 10 [rz,⟨[(3,.c ((t++([(Zab.mk g b)]:List Zab)).length) (Zam Zab.c Zab.d (t++([(Zab.mk g b)]:List Zab))))],[],[(2,[80901])],[],[],[(2,(([(Zab.mk g b)]:List Zab).length,Zam Zab.c Zab.d ([(Zab.mk g b)]:List Zab)))],[]⟩,rz] [false] (lZ [0,1,2,7,8] [52] [(52,7)]) (mg A (mF (e:=Zab.c) Zab.d 2 (fun _=>rfl) ([(Zab.mk g b)]:List Zab)) (Zdk (sz:=2) (e:=Zab.c) (d:=Zab.d) t ([(Zab.mk g b)]:List Zab)) H.1 H.2) (bF (Zan z 1) (t++([(Zab.mk g b)]:List Zab)) r o)
def Zcf(b:List Zaa)(g d:Int):Nat->Int->(List Zab)->Option (List Zab)|0,_,_=>none|fu+1,h,j=>(Zdu d).bind fun o=>bif(decide (h<o))then Zcm b g d h (Zcf b g d fu) (((b.length:Int)-(0:Int)).toNat+2) (0:Int) j (0:Int) ([])else some j
theorem Znn(h:List Zaa)(p t:Int):∀(j:Nat)(o:Int)(g r:List Zab),Zcf h p t j o g=some r->Ys 54 S0 w0 Tryz.f61 [(l5 99999 202 2 Zab.c Zab.d r)] (.one (.osl 99999 r.length)) [1,1,0,1,0] ⟨[(0,(Yn h)),(1,.one (.lit (.int .u64 p))),(2,(Yj t)),(7,.one (.osl 7 g.length)),(8,(Yj o))],[(l5 7 202 2 Zab.c Zab.d g)]⟩:=by
 intro j;induction j with
 |zero=>
  intro o g r b;simp[Zcf]at b
 |succ j z=>
  intro o g r b;unfold Zcf at b;obtain⟨v,y,b⟩:=Zad b;obtain⟨u,b⟩|⟨u,b⟩:=Zah b
  .exact Ye 14 [rA [(2,aI v)],rz,rz] [true] ⟨[],[],[],[],[(209001,80901,44,10,Zam Zaa.c Zaa.d [])],[0,1,2,7,8,9,10],[7,80901,9],[]⟩ (md (Zic _ _ y) u) (Znm S0 w0 h p t o (Zcf h p t j) z (((h.length:Int)-(0:Int)).toNat+2) (0:Int) g (0:Int) ([]) r b)
  .apply Yc b 8 [rA [(2,aI v)],rz] [false] (lZ [6] [7] [(7,99999)]) (md (Zic _ _ y) u)
def Zga(b:List Zaa)(d g:Int):Option (List Zab):=Zcf b d g 1000000 (0:Int) ([]:List Zab)
theorem ZoH(b:List Zaa)(g h:Int)(r:List Zab)(o:Zga b g h=some r):Yp 61 [] [Yn b,.one (.lit (.int .u64 g)),Yj h] [(l5 99999 202 2 Zab.c Zab.d r)] (.one (.osl 99999 r.length)):=by
 refine Yw Tryz.func61 fun S0 w0=>?_;unfold Zga at o;exact Ye 8 [rz,rA [(0,.c ([]:List Zab).length (Zam Zab.c Zab.d ([]:List Zab)))],rz] [] (lZ [0,1,2,7,8] [11] [(11,7)]) (md (show ([]:List Zab).length=0 from rfl) (mI (e:=Zab.c) Zab.d 2 (fun _=>rfl) ([]:List Zab))) (Znn S0 w0 b g h 1000000 (0:Int) ([]:List Zab) r o)
theorem Zpn(b:List Zaa)(g h:Int)(r:List Zab)(j:Zga b g h=some r):Yo 61 [Yn b,.one (.lit (.int .u64 g)),Yj h] (.one (cL 2 Zab.c Zab.d r)):=(ZoH b g h r j).pure
def ZgY(h:ZaA)(g:Zas):Option ZaE:=(ZcW g.fPeers true).bind fun j=>(ZcW g.fPeers false).bind fun o=>(ZeY g.fBook (2:Int)).bind fun p=>(Zga g.fPeers h.fSecret h.fShards).bind fun b=>need (0<=(Zan (b.length:Int) (2:Int))/\(Zan (b.length:Int) (2:Int))<=(Zan (b.length:Int) (2:Int))/\(Zan (b.length:Int) (2:Int))<=140737488355328/\(Zan (b.length:Int) (2:Int)) * 32<=140737488355328)<|some (ZaE.mk j (Zan o p) g.fBans g.fBook b (List.replicate (Zan (b.length:Int) (2:Int)).toNat Zat.d))
theorem Zqy(p:ZaA)(t:Zas)(r:ZaE)(g:ZgY p t=some r):Yo 17 [.agg (ZaA.c p),.agg (Zas.c t)] (.agg (ZaE.c r)):=by
 refine Yv Tryz.func17 fun S0 w0=>?_;unfold ZgY at g;obtain⟨u,v,y,z,g⟩:=Yu g;obtain⟨A,b,B,D,g⟩:=Yu g;obtain⟨o,g⟩:=Zao g;apply Ya g 10 [rz,rA [(2,aI u),(5,aI v),(8,aI A)],rA [(6,.r (.one (cL 2 Zab.c Zab.d b)) [])],rA [(4,.r (.one (.sl 2 (List.replicate (Zan (b.length:Int) (2:Int)).toNat Zat.d).length (Zam Zat.c Zat.d (List.replicate (Zan (b.length:Int) (2:Int)).toNat Zat.d)))) [])],rz] [] (ml (ZeL _ _ _ y) (ZeL _ _ _ z) (ZkK _ _ _ B) (Zpn _ _ _ _ D) (show (Zan (b.length:Int) (2:Int))=(((List.replicate (Zan (b.length:Int) (2:Int)).toNat Zat.d).length:Nat):Int)from(by rw[List.length_replicate];exact(Int.toNat_of_nonneg o.1).symm)) (show (((List.replicate (Zan (b.length:Int) (2:Int)).toNat Zat.d).length:Nat):Int)<=(Zan (b.length:Int) (2:Int))from(by rw[List.length_replicate];exact((Int.toNat_of_nonneg o.1).symm ▸ o.2.1))) o.2.2.1 o.2.2.2 (show ∀i j,i<(List.replicate (Zan (b.length:Int) (2:Int)).toNat Zat.d).length->j<2->ZpM (([.lit (.int .i64 (0)),.lit (.slice none 0 0)]:List C).getD j .junk) (Zam Zat.c Zat.d (List.replicate (Zan (b.length:Int) (2:Int)).toNat Zat.d) i j)from(by rw[List.length_replicate];exact(Zmu (fun j hj=>match j,hj with|0,_=>.inl rfl|1,_=>.inr ⟨rfl,_,_,rfl⟩|j+2,h=>absurd h (by omega)) _))))
def ZfY(b:Int):Option ByteArray:=bif(decide (b<(1:Int)))then some (⟨#[]⟩ : ByteArray)else bif(decide (b>(13:Int)))then some (⟨#[]⟩ : ByteArray)else need (0<=b/\b<((([(⟨#[]⟩ : ByteArray),(⟨#[101,116]⟩ : ByteArray),(⟨#[101]⟩ : ByteArray),(⟨#[116]⟩ : ByteArray),(⟨#[101,103,116,107]⟩ : ByteArray),(⟨#[101,107,116]⟩ : ByteArray),(⟨#[110,107,116]⟩ : ByteArray),(⟨#[110]⟩ : ByteArray),(⟨#[97,116]⟩ : ByteArray),(⟨#[116]⟩ : ByteArray),(⟨#[]⟩ : ByteArray),(⟨#[101,107]⟩ : ByteArray),(⟨#[101,116]⟩ : ByteArray),(⟨#[101,116]⟩ : ByteArray)]:List ByteArray).length:Nat):Int))<|some (([(⟨#[]⟩ : ByteArray),(⟨#[101,116]⟩ : ByteArray),(⟨#[101]⟩ : ByteArray),(⟨#[116]⟩ : ByteArray),(⟨#[101,103,116,107]⟩ : ByteArray),(⟨#[101,107,116]⟩ : ByteArray),(⟨#[110,107,116]⟩ : ByteArray),(⟨#[110]⟩ : ByteArray),(⟨#[97,116]⟩ : ByteArray),(⟨#[116]⟩ : ByteArray),(⟨#[]⟩ : ByteArray),(⟨#[101,107]⟩ : ByteArray),(⟨#[101,116]⟩ : ByteArray),(⟨#[101,116]⟩ : ByteArray)]:List ByteArray).getD b.toNat ByteArray.empty)
theorem Zpm(o:Int)(r:ByteArray)(b:ZfY o=some r):Yo 105 [Yj o] (.one (.lit (.string r))):=by
 refine Yv Tryz.func105 fun S0 w0=>?_;unfold ZfY at b
 let R1:List RA:=[rz,⟨[],[],[],[],[],[(0,(([(⟨#[]⟩ : ByteArray),(⟨#[101,116]⟩ : ByteArray),(⟨#[101]⟩ : ByteArray),(⟨#[116]⟩ : ByteArray),(⟨#[101,103,116,107]⟩ : ByteArray),(⟨#[101,107,116]⟩ : ByteArray),(⟨#[110,107,116]⟩ : ByteArray),(⟨#[110]⟩ : ByteArray),(⟨#[97,116]⟩ : ByteArray),(⟨#[116]⟩ : ByteArray),(⟨#[]⟩ : ByteArray),(⟨#[101,107]⟩ : ByteArray),(⟨#[101,116]⟩ : ByteArray),(⟨#[101,116]⟩ : ByteArray)]:List ByteArray).length,Zam cS ByteArray.empty ([(⟨#[]⟩ : ByteArray),(⟨#[101,116]⟩ : ByteArray),(⟨#[101]⟩ : ByteArray),(⟨#[116]⟩ : ByteArray),(⟨#[101,103,116,107]⟩ : ByteArray),(⟨#[101,107,116]⟩ : ByteArray),(⟨#[110,107,116]⟩ : ByteArray),(⟨#[110]⟩ : ByteArray),(⟨#[97,116]⟩ : ByteArray),(⟨#[116]⟩ : ByteArray),(⟨#[]⟩ : ByteArray),(⟨#[101,107]⟩ : ByteArray),(⟨#[101,116]⟩ : ByteArray),(⟨#[101,116]⟩ : ByteArray)]:List ByteArray)))],[]⟩]
 have O2:=(mc (mF (e:=cS) ByteArray.empty 1 (fun _=>rfl) ([(⟨#[]⟩ : ByteArray),(⟨#[101,116]⟩ : ByteArray),(⟨#[101]⟩ : ByteArray),(⟨#[116]⟩ : ByteArray),(⟨#[101,103,116,107]⟩ : ByteArray),(⟨#[101,107,116]⟩ : ByteArray),(⟨#[110,107,116]⟩ : ByteArray),(⟨#[110]⟩ : ByteArray),(⟨#[97,116]⟩ : ByteArray),(⟨#[116]⟩ : ByteArray),(⟨#[]⟩ : ByteArray),(⟨#[101,107]⟩ : ByteArray),(⟨#[101,116]⟩ : ByteArray),(⟨#[101,116]⟩ : ByteArray)]:List ByteArray)));obtain⟨g,b⟩|⟨g,b⟩:=Zah b
 .apply Ya b 10 (R1++[rB [(2,true)],rz]) [true] (mt O2 g (mH true))
 .obtain⟨h,b⟩|⟨h,b⟩:=Zah b
  .apply Ya b 10 (R1++[rB [(2,false)],rz]) [true] (mt O2 g h)
  .obtain⟨p,b⟩:=Zao b;apply Ya b 11 (R1++[rB [(2,false)],rz]) [false] (mu O2 g h p)
def Zbp(h j:Int)(d:ZaB):Nat->ByteArray->Int->Option Bool|0,_,_=>none|fu+1,g,b=>bif(decide (b<((g.size:Nat):Int)))then need (0<=b/\b<((g.size:Nat):Int))<|bif(((Zli g b.toNat:Nat):Int)==(101:Int))then(ZdX d.fEnd).bind fun o=>bif(!o)then some false else Zbp h j d fu g (Zan b 1)else bif(((Zli g b.toNat:Nat):Int)==(110:Int))then(ZdY d.fNet).bind fun p=>bif(!p)then some false else Zbp h j d fu g (Zan b 1)else bif(((Zli g b.toNat:Nat):Int)==(97:Int))then(Zcc d.fEnd.fAddr).bind fun t=>bif(!t)then some false else Zbp h j d fu g (Zan b 1)else bif(((Zli g b.toNat:Nat):Int)==(116:Int))then bif(decide (d.fNow<(0:Int)))then some false else bif(decide (d.fNow>(1099511627776:Int)))then some false else Zbp h j d fu g (Zan b 1)else bif(((Zli g b.toNat:Nat):Int)==(107:Int))then bif(decide (d.fNum<h))then some false else bif(decide (d.fNum>j))then some false else Zbp h j d fu g (Zan b 1)else Zbp h j d fu g (Zan b 1)else some true
theorem Znl(L M:Int)(d:ZaB):∀(G:Nat)(j:ByteArray)(o:Int)(r:Bool),Zbp L M d G j o=some r->Yr 76 S0 w0 Tryz.f45 (Yk r) [1,1,1,1,1,0,1,0] ⟨[(1,.one (.ptr 1 0)),(3,(Yj L)),(4,(Yj M)),(5,.one (.lit (.string j))),(6,(Yj o))],[(1,.box (ZaB.c d))]⟩:=by
 intro G;induction G with
 |zero=>
  intro j o r b;simp[Zbp]at b
 |succ G D=>
  intro j o r b;unfold Zbp at b;obtain⟨u,b⟩|⟨u,b⟩:=Zah b
  .obtain⟨F,b⟩:=Zao b;obtain⟨E,b⟩|⟨E,b⟩:=Zah b
   .obtain⟨O,W,b⟩:=Zad b;have O1:=(mf u F E (ZeN _ _ W));obtain⟨H,b⟩|⟨H,b⟩:=Zah b
    .apply Ya b 19 [rz,rz,rz,rA [(2,aB O)],rz] [true,true,true] (mr O1 H)
    .exact Ye 22 [rz,rz,rz,rA [(2,aB O)],rz] [true,true,false] (lX [1,3,4,5,6] [1]) (mr O1 H) (D j (Zan o 1) r b)
   .obtain⟨g,b⟩|⟨g,b⟩:=Zah b
    .obtain⟨R,I,b⟩:=Zad b;have O2:=(mg u F E g (ZeO _ _ I));obtain⟨v,b⟩|⟨v,b⟩:=Zah b
     .apply Ya b 22 [rz,rz,rz,rz,rA [(2,aB R)],rz] [true,false,true,true] (mr O2 v)
     .exact Ye 25 [rz,rz,rz,rz,rA [(2,aB R)],rz] [true,false,true,false] (lX [1,3,4,5,6] [1]) (mr O2 v) (D j (Zan o 1) r b)
    .obtain⟨p,b⟩|⟨p,b⟩:=Zah b
     .obtain⟨U,J,b⟩:=Zad b;have O3:=(mh u F E g p (ZbJ _ _ J));obtain⟨y,b⟩|⟨y,b⟩:=Zah b
      .apply Ya b 25 [rz,rz,rz,rz,rz,rA [(3,aB U)],rz] [true,false,false,true,true] (mr O3 y)
      .exact Ye 28 [rz,rz,rz,rz,rz,rA [(3,aB U)],rz] [true,false,false,true,false] (lX [1,3,4,5,6] [1]) (mr O3 y) (D j (Zan o 1) r b)
     .obtain⟨z,b⟩|⟨z,b⟩:=Zah b
      .have O4:=(mh u F E g p z);obtain⟨t,b⟩|⟨t,b⟩:=Zah b
       .apply Ya b 28 [rz,rz,rz,rz,rz,rz,rB [(3,true)],rz] [true,false,false,false,true,true] (mt O4 t (mH true))
       .obtain⟨A,b⟩|⟨A,b⟩:=Zah b
        .apply Ya b 28 [rz,rz,rz,rz,rz,rz,rB [(3,false)],rz] [true,false,false,false,true,true] (mt O4 t A)
        .exact Ye 31 [rz,rz,rz,rz,rz,rz,rB [(3,false)],rz] [true,false,false,false,true,false] (lX [1,3,4,5,6] [1]) (mt O4 t A) (D j (Zan o 1) r b)
      .have O5:=(mh u F E g p z);obtain⟨h,b⟩|⟨h,b⟩:=Zah b
       .obtain⟨a8,b⟩|⟨a8,b⟩:=Zah b
        .apply Ya b 31 [rz,rz,rz,rz,rz,rz,rz,rB [(4,true)],rz] [true,false,false,false,false,true,true] (mu O5 h a8 (mH true))
        .let R6:List RA:=[rz,rz,rz,rz,rz,rz,rz,rB [(4,false)],rz]
         obtain⟨B,b⟩|⟨B,b⟩:=Zah b
         .apply Ya b 31 R6 [true,false,false,false,false,true,true] (mu O5 h a8 B)
         .exact Ye 34 R6 [true,false,false,false,false,true,false] (lX [1,3,4,5,6] [1]) (mu O5 h a8 B) (D j (Zan o 1) r b)
       .exact Ye 31 [rz,rz,rz,rz,rz,rz,rz,rz] [true,false,false,false,false,false] (lX [1,3,4,5,6] [1]) (mr O5 h) (D j (Zan o 1) r b)
  .apply Ya b 8 [rz,rz] [false] (mc u)
def Zdh(g h:Int)(b:ZaB):Option Bool:=(ZfY b.fKind).bind fun d=>Zbp g h b ((((d.size:Nat):Int)-(0:Int)).toNat+2) d (0:Int)
theorem Zfg(g h:Int)(b:ZaB)(r:Bool)(d:Zdh g h b=some r):Yr 76 S0 w0 Tryz.f45 (Yk r) [1,1,1,1] ⟨[(1,.one (.ptr 1 0)),(3,(Yj g)),(4,(Yj h))],[(1,.box (ZaB.c b))]⟩:=by
 unfold Zdh at d;obtain⟨j,o,d⟩:=Zad d;exact Ye 6 [rA [(2,.r (.one (.lit (.string j))) [])],rz] [] (lX [1,3,4,5,6] [1]) (mc (Zpm _ _ o)) (Znl S0 w0 g h b ((((j.size:Nat):Int)-(0:Int)).toNat+2) j (0:Int) r d)
def ZfZ(b:ZaB):Option Bool:=bif(decide (b.fKind<(1:Int)))then some false else bif(decide (b.fKind>(13:Int)))then some false else bif(b.fKind==(5:Int))then Zdh (1:Int) (5:Int) b else bif(b.fKind==(6:Int))then Zdh (1:Int) (1099511627776:Int) b else bif(b.fKind==(11:Int))then Zdh (1:Int) (1048576:Int) b else Zdh (0:Int) (1073741824:Int) b
theorem ZkH(g:ZaB)(r:Bool)(b:ZfZ g=some r):Yo 45 [.agg (ZaB.c g)] (Yk r):=by
 refine Yv Tryz.func45 fun S0 w0=>?_;unfold ZfZ at b;obtain⟨d,b⟩|⟨d,b⟩:=Zah b
 .apply Ya b 8 [rz,rB [(3,true)],rz] [true] (md d (mH true))
 .obtain⟨h,b⟩|⟨h,b⟩:=Zah b
  .apply Ya b 8 [rz,rB [(3,false)],rz] [true] (md d h)
  .obtain⟨j,b⟩|⟨j,b⟩:=Zah b
   .exact Ye 20 [rz,rB [(3,false)],rz,rz,rz,rz,rz] [false,true] (lX [1,3,4] [1]) (me d h j) (Zfg S0 w0 (1:Int) (5:Int) g r b)
   .obtain⟨o,b⟩|⟨o,b⟩:=Zah b
    .exact Ye 23 [rz,rB [(3,false)],rz,rz,rz,rz,rz,rz] [false,false,true] (lX [1,3,4] [1]) (mf d h j o) (Zfg S0 w0 (1:Int) (1099511627776:Int) g r b)
    .obtain⟨p,b⟩|⟨p,b⟩:=Zah b
     .exact Ye 26 [rz,rB [(3,false)],rz,rz,rz,rz,rz,rz,rz] [false,false,false,true] (lX [1,3,4] [1]) (mg d h j o p) (Zfg S0 w0 (1:Int) (1048576:Int) g r b)
     .exact Ye 24 [rz,rB [(3,false)],rz,rz,rz,rz,rz] [false,false,false,false] (lX [1,3,4] [1]) (mg d h j o p) (Zfg S0 w0 (0:Int) (1073741824:Int) g r b)
def Zgx(b:Int):Option Zau:=some (Zau.mk b (Zal.mk (Zaf.mk false 0 0) 0) 0 0 ([]:(List Zaa)))
theorem Zjt(b:Int)(r:Zau)(g:Zgx b=some r):Yo 64 [Yj b] (.agg (Zau.c r)):=by
 refine Yv Tryz.func64 fun S0 w0=>?_;unfold Zgx at g;apply Yb g 4 [rz,rz] [] [] [(2,[(7,cL 10 Zaa.c Zaa.d [])])] [] .n
def Zdf:Nat->Int->Zap->Zaf->Option Bool|0,_,_,_=>none|fu+1,b,d,g=>bif(decide (b<d.fBits))then(Zei d.fAddr b).bind fun h=>(Zei g b).bind fun j=>bif(h != j)then some false else Zdf fu (Zan b 1) d g else some true
theorem ZoN:∀(j:Nat)(h:Int)(d:Zap)(g:Zaf)(r:Bool),Zdf j h d g=some r->Yr 36 S0 w0 Tryz.f33 (Yk r) [1,1,0,1,0] ⟨[(2,.one (.ptr 2 0)),(3,.one (.ptr 3 0)),(5,(Yj h))],[(2,.box (Zap.c d)),(3,.box (Zaf.c g))]⟩:=by
 intro j;induction j with
 |zero=>
  intro h d g r b;simp[Zdf]at b
 |succ j v=>
  intro h d g r b;unfold Zdf at b;obtain⟨o,b⟩|⟨o,b⟩:=Zah b
  .obtain⟨t,u,y,z,b⟩:=Yu b;have O1:=(me o (ZiO _ _ _ y) (ZiO _ _ _ z));obtain⟨p,b⟩|⟨p,b⟩:=Zah b
   .apply Ya b 13 [rz,rA [(3,aI t),(6,aI u)],rz] [true,true] (mr O1 p)
   .exact Ye 15 [rz,rA [(3,aI t),(6,aI u)],rz] [true,false] (lX [2,3,5] [2,3]) (mr O1 p) (v (Zan h 1) d g r b)
  .apply Ya b 8 [rz,rz] [false] (mc o)
def Zha(b:Zap)(d:Zaf):Option Bool:=(ZdY b).bind fun g=>bif(!g)then some false else(Zcc d).bind fun h=>bif(!h)then some false else bif(!(b.fAddr.fV6==d.fV6))then some false else Zdf 1000000 (0:Int) b d
theorem ZqA(g:Zap)(h:Zaf)(r:Bool)(b:Zha g h=some r):Yo 33 [.agg (Zap.c g),.agg (Zaf.c h)] (Yk r):=by
 refine Yv Tryz.func33 fun S0 w0=>?_;unfold Zha at b;obtain⟨j,t,b⟩:=Zad b;obtain⟨o,b⟩|⟨o,b⟩:=Zah b
 .apply Ya b 8 [rz,⟨[(1,aB j)],[(3,true)],[],[],[],[],[]⟩,rz] [true] (me (ZeO _ _ t) o (mH true))
 .obtain⟨u,v,b⟩:=Zad b;have O2:=(me (ZeO _ _ t) o (ZbJ _ _ v));obtain⟨d,b⟩|⟨d,b⟩:=Zah b
  .apply Ya b 8 [rz,⟨[(1,aB j),(5,aB u)],[(3,false),(8,true)],[],[],[],[],[]⟩,rz] [true] (mt O2 d (mH true))
  .let R3:List RA:=[rz,⟨[(1,aB j),(5,aB u)],[(3,false),(8,false)],[],[],[],[],[]⟩,rz]
   obtain⟨p,b⟩|⟨p,b⟩:=Zah b
   .apply Ya b 8 R3 [true] (mt O2 d p)
   .exact Ye 11 R3 [false] (lX [2,3,5] [2,3]) (mt O2 d p) (ZoN S0 w0 1000000 (0:Int) g h r b)
def ZgF(b:Zae)(d:Zaf)(g:Int):Option Bool:=bif(decide (b.fUntil>g))then(Zha b.fNet d).bind fun h=>some h else some false
theorem ZpY(g:Zae)(h:Zaf)(j:Int)(r:Bool)(b:ZgF g h j=some r):Yo 35 [.agg (Zae.c g),.agg (Zaf.c h),Yj j] (Yk r):=by
 refine Yv Tryz.func35 fun S0 w0=>?_;unfold ZgF at b;obtain⟨d,b⟩|⟨d,b⟩:=Zah b
 .obtain⟨o,p,b⟩:=Zad b;apply Ya b 4 [rz,⟨[(8,aB o)],[(4,true)],[],[],[],[],[]⟩] [] (md d (ZqA _ _ _ p))
 .apply Ya b 4 [rz,rB [(4,false)]] [] (mc d)
def ZbP(g:List Zae)(h:Int):Nat->Int->Bool->Int->Zaf->Option Int|0,_,_,_,_=>none|fu+1,o,p,b,j=>bif(decide (b<(g.length:Int)))then need (0<=b/\b<(g.length:Int))<|(ZgF (g.getD b.toNat Zae.d) j h).bind fun t=>bif t then bif(!p)then ZbP g h fu ((g.getD b.toNat Zae.d).fUntil) true (Zan b 1) j else bif(decide ((g.getD b.toNat Zae.d).fUntil>o))then ZbP g h fu ((g.getD b.toNat Zae.d).fUntil) true (Zan b 1) j else ZbP g h fu o p (Zan b 1) j else ZbP g h fu o p (Zan b 1) j else some o
theorem ZnA(t:List Zae)(D:Int):∀(u:Nat)(j:Int)(o:Bool)(g:Int)(h:Zaf)(r:Int),ZbP t D u j o g h=some r->Yr 42 S0 w0 Tryz.f42 (Yj r) [1,1,0,1,0] ⟨[(0,(Yl t)),(2,(Yj D)),(4,.one (.ptr 4 0)),(7,(Yj j)),(8,(Yk o)),(9,(Yj g))],[(4,.box (Zaf.c h))]⟩:=by
 intro u;induction u with
 |zero=>
  intro j o g h r b;simp[ZbP]at b
 |succ u v=>
  intro j o g h r b;unfold ZbP at b;obtain⟨z,b⟩|⟨z,b⟩:=Zah b
  .obtain⟨o2,b⟩:=Zao b;obtain⟨A,E,b⟩:=Zad b;have O1:=(me z o2 (ZpY _ _ _ _ E));obtain⟨p,b⟩|⟨p,b⟩:=Zah b
   .obtain⟨y,b⟩|⟨y,b⟩:=Zah b
    .exact Ye 17 [rz,⟨[(6,aB A)],[(7,true),(10,true)],[],[],[],[],[]⟩,rz,rz,rz] [true,true] (lX [0,2,4,7,8,9] [4]) (mw O1 p y (mH true) o2) (v ((t.getD g.toNat Zae.d).fUntil) true (Zan g 1) h r b)
    .let R2:List RA:=[rz,⟨[(6,aB A)],[(7,true),(10,false)],[],[],[],[],[]⟩,rz]
     obtain⟨B,b⟩|⟨B,b⟩:=Zah b
     .exact Ye 17 (R2++[rz,rz]) [true,true] (lX [0,2,4,7,8,9] [4]) (my O1 p y o2 B o2) (v ((t.getD g.toNat Zae.d).fUntil) true (Zan g 1) h r b)
     .exact Ye 15 R2 [true,false] (lX [0,2,4,7,8,9] [4]) (mw O1 p y o2 B) (v j o (Zan g 1) h r b)
   .exact Ye 15 [rz,⟨[(6,aB A)],[(7,false)],[],[],[],[],[]⟩,rz] [true,false] (lX [0,2,4,7,8,9] [4]) (mt O1 p (mH false)) (v j o (Zan g 1) h r b)
  .apply Ya b 8 [rz,rz] [false] (mc z)
def Zgg(b:List Zae)(d:Zaf)(g:Int):Option Int:=ZbP b g (((b.length:Int)-(0:Int)).toNat+2) (0:Int) false (0:Int) d
theorem ZkN(b:List Zae)(d:Zaf)(g r:Int)(h:Zgg b d g=some r):Yo 42 [Yl b,.agg (Zaf.c d),Yj g] (Yj r):=by
 refine Yv Tryz.func42 fun S0 w0=>?_;unfold Zgg at h;exact Ye 8 [rz,rz,rz] [] (lX [0,2,4,7,8,9] [4]) .n (ZnA S0 w0 b g (((b.length:Int)-(0:Int)).toNat+2) (0:Int) false (0:Int) d r h)
def Zhb(b:Int):Option Int:=bif(decide (b<(0:Int)))then some (0:Int)else bif(decide (b>(1099511627776:Int)))then some (1099511627776:Int)else some b
theorem ZqB(h r:Int)(b:Zhb h=some r):Yo 149 [Yj h] (Yj r):=by
 refine Yv Tryz.func149 fun S0 w0=>?_;unfold Zhb at b;obtain⟨d,b⟩|⟨d,b⟩:=Zah b
 .apply Ya b 8 [rz,rz,rz] [true] (mc d)
 .obtain⟨g,b⟩|⟨g,b⟩:=Zah b
  .apply Ya b 13 [rz,rz,rz,rz] [false,true] (md d g)
  .apply Ya b 14 [rz,rz,rz,rz] [false,false] (md d g)
def ZgZ(d:Zal)(g:Bool)(h:Int):Option Zaa:=(Zhb h).bind fun b=>some (Zaa.mk d g b (ZaD.mk 0 b) 0 0)
theorem Zqz(d:Zal)(g:Bool)(h:Int)(r:Zaa)(b:ZgZ d g h=some r):Yo 115 [.agg (Zal.c d),Yk g,Yj h] (.agg (Zaa.c r)):=by
 refine Yv Tryz.func115 fun S0 w0=>?_;unfold ZgZ at b;obtain⟨j,o,b⟩:=Zad b;apply Ya b 6 [rz,rA [(1,aI j)],rz] [] (mc (ZqB _ _ o))
def Zcz(g:List Zaa):Nat->Int->(List Zaa)->Option (List Zaa)|0,_,_=>none|fu+1,b,h=>bif(decide (b<(g.length:Int)))then need (0<=b/\b<(g.length:Int))<|bif(g.getD b.toNat Zaa.d).fIn then need ((h++([(g.getD b.toNat Zaa.d)]:List Zaa)).length * 80<=140737488355328/\(h++([(g.getD b.toNat Zaa.d)]:List Zaa)).length<=maxLen)<|Zcz g fu (Zan b 1) (h++([(g.getD b.toNat Zaa.d)]:List Zaa))else Zcz g fu (Zan b 1) h else some h
theorem Zoa(h:List Zaa):∀(p:Nat)(b:Int)(o r:List Zaa),Zcz h p b o=some r->Ys 25 S0 w0 Tryz.f37 [(l5 99999 44 10 Zaa.c Zaa.d r)] (.one (.osl 99999 r.length)) [1,1,0,1,0] ⟨[(0,(Yn h)),(3,.one (.osl 3 o.length)),(4,(Yj b))],[(l5 3 44 10 Zaa.c Zaa.d o)]⟩:=by
 intro p;induction p with
 |zero=>
  intro b o r g;simp[Zcz]at g
 |succ p v=>
  intro b o r g;unfold Zcz at g;obtain⟨t,g⟩|⟨t,g⟩:=Zah g
  .obtain⟨o2,g⟩:=Zao g;obtain⟨u,g⟩|⟨u,g⟩:=Zah g
   .obtain⟨y,g⟩:=Zao g;exact Ye 15 [rz,rz,⟨[(6,.c ((o++([(h.getD b.toNat Zaa.d)]:List Zaa)).length) (Zam Zaa.c Zaa.d (o++([(h.getD b.toNat Zaa.d)]:List Zaa))))],[],[],[],[],[(5,(([(h.getD b.toNat Zaa.d)]:List Zaa).length,Zam Zaa.c Zaa.d ([(h.getD b.toNat Zaa.d)]:List Zaa)))],[]⟩,rz] [true,true] (lZ [0,3,4] [23] [(23,3)]) (mj t o2 u o2 (mF (e:=Zaa.c) Zaa.d 10 (fun _=>rfl) ([(h.getD b.toNat Zaa.d)]:List Zaa)) (Zdk (sz:=10) (e:=Zaa.c) (d:=Zaa.d) o ([(h.getD b.toNat Zaa.d)]:List Zaa)) y.1 y.2) (v (Zan b 1) (o++([(h.getD b.toNat Zaa.d)]:List Zaa)) r g)
   .exact Ye 15 [rz,rz,rz] [true,false] (lX [0,3,4] [3]) (me t o2 u) (v (Zan b 1) o r g)
  .apply Yc g 8 [rz,rz] [false] (lZ [2] [3] [(3,99999)]) (mc t)
def Zfx(b:List Zaa):Option (List Zaa):=Zcz b (((b.length:Int)-(0:Int)).toNat+2) (0:Int) ([]:List Zaa)
theorem Zpt(b r:List Zaa)(g:Zfx b=some r):Yp 37 [] [Yn b] [(l5 99999 44 10 Zaa.c Zaa.d r)] (.one (.osl 99999 r.length)):=by
 refine Yw Tryz.func37 fun S0 w0=>?_;unfold Zfx at g;exact Ye 8 [rz,rA [(0,.c ([]:List Zaa).length (Zam Zaa.c Zaa.d ([]:List Zaa)))],rz] [] (lZ [0,3,4] [5] [(5,3)]) (md (show ([]:List Zaa).length=0 from rfl) (mI (e:=Zaa.c) Zaa.d 10 (fun _=>rfl) ([]:List Zaa))) (Zoa S0 w0 b (((b.length:Int)-(0:Int)).toNat+2) (0:Int) ([]:List Zaa) r g)
theorem ZpW(b r:List Zaa)(d:Zfx b=some r):Yo 37 [Yn b] (Yn r):=(Zpt b r d).pure
def ZcX(b:Zax)(d:Int):Option Int:=bif(d==(1:Int))then some b.fGroup else bif(d==(2:Int))then some b.fPing else bif(d==(3:Int))then some b.fWork else some b.fTime
theorem ZkM(j:Zax)(o r:Int)(b:ZcX j o=some r):Yo 101 [.agg (Zax.c j),Yj o] (Yj r):=by
 refine Yv Tryz.func101 fun S0 w0=>?_;unfold ZcX at b;obtain⟨d,b⟩|⟨d,b⟩:=Zah b
 .apply Ya b 11 [rz,rz,rz,rz] [true] (mc d)
 .obtain⟨g,b⟩|⟨g,b⟩:=Zah b
  .apply Ya b 14 [rz,rz,rz,rz,rz] [false,true] (md d g)
  .obtain⟨h,b⟩|⟨h,b⟩:=Zah b
   .apply Ya b 17 [rz,rz,rz,rz,rz,rz] [false,false,true] (me d g h)
   .apply Ya b 19 [rz,rz,rz,rz,rz,rz] [false,false,false] (me d g h)
def ZfK(d:Zaa)(b:Int):Option Bool:=bif(b==(1:Int))then some true else bif(b==(4:Int))then some true else bif(b==(2:Int))then bif(decide (d.fPing>(0:Int)))then some true else bif(b==(3:Int))then some (decide (d.fWork>(0:Int)))else some false else bif(b==(3:Int))then some (decide (d.fWork>(0:Int)))else some false
theorem ZoM(t:Zaa)(u:Int)(r:Bool)(b:ZfK t u=some r):Yo 99 [.agg (Zaa.c t),Yj u] (Yk r):=by
 refine Yv Tryz.func99 fun S0 w0=>?_;unfold ZfK at b;obtain⟨d,b⟩|⟨d,b⟩:=Zah b
 .apply Ya b 4 [rz,rB [(2,true)]] [] (mc d)
 .obtain⟨g,b⟩|⟨g,b⟩:=Zah b
  .apply Ya b 4 [rz,rB [(2,false),(6,true)]] [] (md d g)
  .obtain⟨h,b⟩|⟨h,b⟩:=Zah b
   .obtain⟨j,b⟩|⟨j,b⟩:=Zah b
    .apply Ya b 4 [rz,rB [(2,false),(6,false),(9,true),(15,true)]] [] (mf d g h j)
    .obtain⟨o,b⟩|⟨o,b⟩:=Zah b
     .apply Ya b 4 [rz,rB [(2,false),(6,false),(9,true),(15,false),(18,true)]] [] (mg d g h j o)
     .apply Ya b 4 [rz,rB [(2,false),(6,false),(9,true),(15,false),(18,false)]] [] (mg d g h j o)
   .obtain⟨p,b⟩|⟨p,b⟩:=Zah b
    .apply Ya b 4 [rz,rB [(2,false),(6,false),(9,false),(18,true)]] [] (mf d g h p)
    .apply Ya b 4 [rz,rB [(2,false),(6,false),(9,false),(18,false)]] [] (mf d g h p)
def Zdr(b:Zaf):Option Zap:=(Zcc b).bind fun d=>bif(!d)then some (Zap.mk (Zaf.mk false 0 0) 0)else bif b.fV6 then some (Zap.mk (Zaf.mk true (IntKind.wrap .u64 (b.fHi-(Int.tmod b.fHi (4294967296:Int)))) 0) 32)else some (Zap.mk (Zaf.mk false 0 (IntKind.wrap .u64 (b.fLo-(Int.tmod b.fLo (65536:Int))))) 16)
theorem Zhv(j:Zaf)(r:Zap)(b:Zdr j=some r):Yo 261 [.agg (Zaf.c j)] (.agg (Zap.c r)):=by
 refine Yv Tryz.func261 fun S0 w0=>?_;unfold Zdr at b;obtain⟨d,o,b⟩:=Zad b;obtain⟨g,b⟩|⟨g,b⟩:=Zah b
 .apply Ya b 8 [rz,rA [(1,aB d)],rz] [true] (md (ZbJ _ _ o) g)
 .have O1:=(md (ZbJ _ _ o) g);obtain⟨h,b⟩|⟨h,b⟩:=Zah b
  .apply Ya b 13 [rz,rA [(1,aB d)],rz,rz] [false,true] (mt O1 h (show (4294967296:Int)≠0 from(by decide)))
  .apply Ya b 14 [rz,rA [(1,aB d)],rz,rz] [false,false] (mt O1 h (show (65536:Int)≠0 from(by decide)))
def ZcO(d b:Int)(g h:Zaa):Option Bool:=bif(d != b)then some (decide (d<b))else(ZcA g.fEnd h.fEnd).bind fun j=>some (decide (j<(0:Int)))
theorem Zfi(o h:Int)(b d:Zaa)(r:Bool)(g:ZcO o h b d=some r):Yr 64 S0 w0 Tryz.f188 (Yk r) [1,1,1] ⟨[(4,.one (.ptr 4 0)),(5,.one (.ptr 5 0)),(9,(Yj o)),(10,(Yj h))],[(4,.box (Zaa.c b)),(5,.box (Zaa.c d))]⟩:=by
 unfold ZcO at g;obtain⟨j,g⟩|⟨j,g⟩:=Zah g
 .apply Ya g 6 [rz,rz] [true] (mc j)
 .obtain⟨p,t,g⟩:=Zad g;apply Ya g 7 [rz,rA [(4,aI p)]] [false] (md j (Zem _ _ _ t))
def Zge(b d:Zaa)(g h:Int):Option Bool:=bif(g==(1:Int))then(Zdr b.fEnd.fAddr).bind fun p=>(Zeg h p).bind fun j=>(Zdr d.fEnd.fAddr).bind fun t=>(Zeg h t).bind fun o=>bif(j != o)then some (decide (j>o))else ZcO (0:Int) (0:Int) b d else bif(g==(2:Int))then ZcO b.fPing d.fPing b d else bif(g==(3:Int))then ZcO d.fWork b.fWork b d else bif(g==(4:Int))then ZcO b.fSince d.fSince b d else some false
theorem Zpv(d g:Zaa)(u v:Int)(r:Bool)(b:Zge d g u v=some r):Yo 188 [.agg (Zaa.c d),.agg (Zaa.c g),Yj u,.one (.lit (.int .u64 v))] (Yk r):=by
 refine Yv Tryz.func188 fun S0 w0=>?_;unfold Zge at b;obtain⟨h,b⟩|⟨h,b⟩:=Zah b
 .obtain⟨y,z,A,B,b⟩:=Yu b;obtain⟨D,E,b⟩:=Zad b;obtain⟨F,G,b⟩:=Zad b
  let R1:List RA:=[rz,rz,rz,rz,rA [(4,aG (Zap.c y)),(5,.r (.one (.lit (.int .u64 z))) [])],rA [(4,aG (Zap.c D)),(5,.r (.one (.lit (.int .u64 F))) [])],rz]
  have O2:=(mg h (Zhv _ _ A) (ZiN _ _ _ B) (Zhv _ _ E) (ZiN _ _ _ G));obtain⟨p,b⟩|⟨p,b⟩:=Zah b
  .apply Ya b 20 (R1++[rz]) [true,true] (mr O2 p)
  .exact Ye 20 R1 [true,false] (lX [4,5,9,10] [4,5]) (mr O2 p) (Zfi S0 w0 (0:Int) (0:Int) d g r b)
 .obtain⟨j,b⟩|⟨j,b⟩:=Zah b
  .exact Ye 18 [rz,rz,rz,rz,rz,rz,rz] [false,true] (lX [4,5,9,10] [4,5]) (md h j) (Zfi S0 w0 d.fPing g.fPing d g r b)
  .obtain⟨o,b⟩|⟨o,b⟩:=Zah b
   .exact Ye 21 [rz,rz,rz,rz,rz,rz,rz,rz] [false,false,true] (lX [4,5,9,10] [4,5]) (me h j o) (Zfi S0 w0 g.fWork d.fWork d g r b)
   .obtain⟨t,b⟩|⟨t,b⟩:=Zah b
    .exact Ye 24 [rz,rz,rz,rz,rz,rz,rz,rz,rz] [false,false,false,true] (lX [4,5,9,10] [4,5]) (mf h j o t) (Zfi S0 w0 d.fSince g.fSince d g r b)
    .apply Ya b 22 [rz,rz,rz,rz,rz,rz,rz,rz] [false,false,false,false] (mf h j o t)
def ZbA(j:List Zaa)(t o:Int)(u:Zax)(p:Int)(ae:Int->(List Bool)->Zax->Option (List Bool))(am:Int->(List Bool)->Option (List Bool)):Nat->Int->Int->(List Bool)->Option (List Bool)|0,_,_,_=>none|fu+1,g,b,h=>bif(decide (b<(j.length:Int)))then need (0<=b/\b<(h.length:Int))<|bif(!(h.getD b.toNat false))then need (0<=b/\b<(j.length:Int))<|(ZfK (j.getD b.toNat Zaa.d) o).bind fun v=>bif v then bif(decide (g<(0:Int)))then ZbA j t o u p ae am fu b (Zan b 1) h else need (0<=g/\g<(j.length:Int))<|(Zge (j.getD b.toNat Zaa.d) (j.getD g.toNat Zaa.d) o t).bind fun y=>bif y then ZbA j t o u p ae am fu b (Zan b 1) h else ZbA j t o u p ae am fu g (Zan b 1) h else ZbA j t o u p ae am fu g (Zan b 1) h else ZbA j t o u p ae am fu g (Zan b 1) h else bif(decide (g>=(0:Int)))then need (0<=g/\g<(h.length:Int))<|am (Zan p 1) (h.set g.toNat true)else am (Zan p 1) h
theorem Znx(z:List Zaa)(A F:Int)(j:Zax)(B:Int)(ae:Int->(List Bool)->Zax->Option (List Bool))(am:Int->(List Bool)->Option (List Bool))(aP:∀(cN:Int)(cm:List Bool)(cW:Zax)(r:List Bool),ae cN cm cW=some r->Ys 75 S0 w0 Tryz.f268 [(l5 99999 4 1 cB false r)] (.one (.osl 99999 r.length)) [1,1,0,1,0] ⟨[(0,(Yn z)),(2,.one (.lit (.int .u64 A))),(4,.one (.ptr 4 0)),(7,.one (.osl 14 cm.length)),(8,(Yj cN))],[(l5 14 4 1 cB false cm),(4,.box (Zax.c cW))]⟩)(bc:∀(gO:Int)(cm r:List Bool),am gO cm=some r->Ys 75 S0 w0 Tryz.f268 [(l5 99999 4 1 cB false r)] (.one (.osl 99999 r.length)) [1,1,0,1,0,0,1,0,0,1,0] ⟨[(0,(Yn z)),(2,.one (.lit (.int .u64 A))),(4,.one (.ptr 4 0)),(7,.one (.osl 14 cm.length)),(8,(Yj F)),(9,(Yj gO))],[(l5 14 4 1 cB false cm),(4,.box (Zax.c j))]⟩):∀(D:Nat)(g h:Int)(b r:List Bool),ZbA z A F j B ae am D g h b=some r->Ys 75 S0 w0 Tryz.f268 [(l5 99999 4 1 cB false r)] (.one (.osl 99999 r.length)) [1,1,0,1,0,0,1,0,0,1,0,0,1,0,0,1,0,1,0] ⟨[(0,(Yn z)),(2,.one (.lit (.int .u64 A))),(4,.one (.ptr 4 0)),(7,.one (.osl 14 b.length)),(8,(Yj F)),(9,(Yj B)),(10,(Yj g)),(11,(Yj h))],[(l5 14 4 1 cB false b),(4,.box (Zax.c j))]⟩:=by
 intro D;induction D with
 |zero=>
  intro g h b r d;simp[ZbA]at d
 |succ D v=>
  intro g h b r d;unfold ZbA at d;obtain⟨E,d⟩|⟨E,d⟩:=Zah d
  .obtain⟨M,d⟩:=Zao d;have O1:=(me E M (ltOf M));obtain⟨G,d⟩|⟨G,d⟩:=Zah d
   .obtain⟨O,d⟩:=Zao d;obtain⟨H,I,d⟩:=Zad d;have O2:=(mu O1 G O (ZoM _ _ _ I));obtain⟨o,d⟩|⟨o,d⟩:=Zah d
    .obtain⟨p,d⟩|⟨p,d⟩:=Zah d
     .exact Ye 15 [rz,⟨[(11,aB H)],[(5,true),(13,true),(16,true)],[],[],[],[],[]⟩,rz,rz] [true,true] (lX [0,2,4,7,8,9,10,11] [14,4]) (mu O2 o p (mH true)) (v h (Zan h 1) b r d)
     .obtain⟨J,d⟩:=Zao d;obtain⟨R,L,d⟩:=Zad d
      let R3:List RA:=[rz,⟨[(11,aB H),(27,aB R)],[(5,true),(13,true),(16,false)],[],[],[],[],[]⟩,rz]
      have O4:=(my O2 o p O J (Zpv _ _ _ _ _ L));obtain⟨t,d⟩|⟨t,d⟩:=Zah d
      .exact Ye 15 (R3++[rz]) [true,true] (lX [0,2,4,7,8,9,10,11] [14,4]) (mr O4 t) (v h (Zan h 1) b r d)
      .exact Ye 15 R3 [true,false] (lX [0,2,4,7,8,9,10,11] [14,4]) (mr O4 t) (v g (Zan h 1) b r d)
    .exact Ye 15 [rz,⟨[(11,aB H)],[(5,true),(13,false)],[],[],[],[],[]⟩,rz] [true,false] (lX [0,2,4,7,8,9,10,11] [14,4]) (mt O2 o (mH false)) (v g (Zan h 1) b r d)
   .exact Ye 15 [rz,rB [(5,false)],rz] [true,false] (lX [0,2,4,7,8,9,10,11] [14,4]) (mt O1 G (mH false)) (v g (Zan h 1) b r d)
  .obtain⟨u,d⟩|⟨u,d⟩:=Zah d
   .obtain⟨y,d⟩:=Zao d;exact Ye 13 [rz,rz,rA [(3,.c (b.set g.toNat true).length (Zam cB false (b.set g.toNat true)))],rz] [false,true] ⟨[],[],[],[(14,((b.set g.toNat true).length))],[],[0,2,4,7,8,9],[14,4],[]⟩ (mi E u y (show (b.set g.toNat true).length=b.length from List.length_set) (ltOf y) (show ExtU 1 b.length (Zam cB false b) g.toNat 0 (cB true) (Zam cB false (b.set g.toNat true))from(ZhL _ _ _ rfl)) (mH ((b.set g.toNat true).length))) (bc (Zan B 1) (b.set g.toNat true) r d)
   .exact Ye 13 [rz,rz,rz] [false,false] (lX [0,2,4,7,8,9] [14,4]) (md E u) (bc (Zan B 1) b r d)
def ZbH(h:List Zaa)(o d:Int)(g:Zax)(ae:Int->(List Bool)->Zax->Option (List Bool)):Nat->Int->(List Bool)->Option (List Bool)|0,_,_=>none|fu+1,j,b=>(ZcX g d).bind fun p=>bif(decide (j<p))then bif(decide (j<(h.length:Int)))then ZbA h o d g j ae (ZbH h o d g ae fu) (((h.length:Int)-(0:Int)).toNat+2) (-1:Int) (0:Int) b else ae (Zan d 1) b g else ae (Zan d 1) b g
theorem Zny(h:List Zaa)(o j:Int)(g:Zax)(ae:Int->(List Bool)->Zax->Option (List Bool))(aP:∀(cN:Int)(cm:List Bool)(cW:Zax)(r:List Bool),ae cN cm cW=some r->Ys 75 S0 w0 Tryz.f268 [(l5 99999 4 1 cB false r)] (.one (.osl 99999 r.length)) [1,1,0,1,0] ⟨[(0,(Yn h)),(2,.one (.lit (.int .u64 o))),(4,.one (.ptr 4 0)),(7,.one (.osl 14 cm.length)),(8,(Yj cN))],[(l5 14 4 1 cB false cm),(4,.box (Zax.c cW))]⟩):∀(p:Nat)(t:Int)(b r:List Bool),ZbH h o j g ae p t b=some r->Ys 75 S0 w0 Tryz.f268 [(l5 99999 4 1 cB false r)] (.one (.osl 99999 r.length)) [1,1,0,1,0,0,1,0,0,1,0] ⟨[(0,(Yn h)),(2,.one (.lit (.int .u64 o))),(4,.one (.ptr 4 0)),(7,.one (.osl 14 b.length)),(8,(Yj j)),(9,(Yj t))],[(l5 14 4 1 cB false b),(4,.box (Zax.c g))]⟩:=by
 intro p;induction p with
 |zero=>
  intro t b r d;simp[ZbH]at d
 |succ p A=>
  intro t b r d;unfold ZbH at d;obtain⟨y,z,d⟩:=Zad d;obtain⟨u,d⟩|⟨u,d⟩:=Zah d
  .let R5:List RA:=[⟨[(3,aI y)],[(5,true)],[],[],[],[],[]⟩,rz]
   have O6:=(md (ZkM _ _ _ z) u);obtain⟨v,d⟩|⟨v,d⟩:=Zah d
   .exact Ye 14 (R5++[rz]) [true] (lX [0,2,4,7,8,9,10,11] [14,4]) (mr O6 v) (Znx S0 w0 h o j g t ae (ZbH h o j g ae p) aP A (((h.length:Int)-(0:Int)).toNat+2) (-1:Int) (0:Int) b r d)
   .exact Ye 9 R5 [false] (lX [0,2,4,7,8] [14,4]) (mr O6 v) (aP (Zan j 1) b g r d)
  .exact Ye 9 [⟨[(3,aI y)],[(5,false)],[],[],[],[],[]⟩,rz] [false] (lX [0,2,4,7,8] [14,4]) (me (ZkM _ _ _ z) u (mH false)) (aP (Zan j 1) b g r d)
def ZaU(d:List Zaa)(g:Int):Nat->Int->(List Bool)->Zax->Option (List Bool)|0,_,_,_=>none|fu+1,h,b,j=>bif(decide (h<=(4:Int)))then ZbH d g h j (ZaU d g fu) (((d.length:Int)-(0:Int)).toNat+2) (0:Int) b else some b
theorem Znz(h:List Zaa)(p:Int):∀(j:Nat)(o:Int)(b:List Bool)(d:Zax)(r:List Bool),ZaU h p j o b d=some r->Ys 75 S0 w0 Tryz.f268 [(l5 99999 4 1 cB false r)] (.one (.osl 99999 r.length)) [1,1,0,1,0] ⟨[(0,(Yn h)),(2,.one (.lit (.int .u64 p))),(4,.one (.ptr 4 0)),(7,.one (.osl 14 b.length)),(8,(Yj o))],[(l5 14 4 1 cB false b),(4,.box (Zax.c d))]⟩:=by
 intro j;induction j with
 |zero=>
  intro o b d r g;simp[ZaU]at g
 |succ j u=>
  intro o b d r g;unfold ZaU at g;obtain⟨t,g⟩|⟨t,g⟩:=Zah g
  .exact Ye 11 [rz,rz] [true] (lX [0,2,4,7,8,9] [14,4]) (mc t) (Zny S0 w0 h p o d (ZaU h p j) u (((h.length:Int)-(0:Int)).toNat+2) (0:Int) b r g)
  .apply Yc g 8 [rz,rz] [false] (lZ [6] [14] [(14,99999)]) (mc t)
def Zfa(b:List Zaa)(d:Zax)(g:Int):Option (List Bool):=need (0<=(b.length:Int)/\(b.length:Int)<=(b.length:Int)/\(b.length:Int)<=140737488355328/\(b.length:Int) * 1<=140737488355328)<|ZaU b g (((4:Int)-(1:Int)).toNat+2) (1:Int) (List.replicate (b.length:Int).toNat false) d
theorem ZoL(b:List Zaa)(g:Zax)(h:Int)(r:List Bool)(d:Zfa b g h=some r):Yp 268 [] [Yn b,.agg (Zax.c g),.one (.lit (.int .u64 h))] [(l5 99999 4 1 cB false r)] (.one (.osl 99999 r.length)):=by
 refine Yw Tryz.func268 fun S0 w0=>?_;unfold Zfa at d;obtain⟨o1,d⟩:=Zao d;exact Ye 8 [rz,rA [(2,.c ((b.length:Int).toNat) (Zam cB false (List.replicate (b.length:Int).toNat false)))],rz] [] ⟨[],[],[],[(14,((List.replicate (b.length:Int).toNat false).length))],[],[0,2,4,7,8],[14,4],[]⟩ (mh (show (b.length:Int)=(((b.length:Int).toNat:Nat):Int)from(Int.toNat_of_nonneg o1.1).symm) (show (((b.length:Int).toNat:Nat):Int)<=(b.length:Int)from((Int.toNat_of_nonneg o1.1).symm ▸ o1.2.1)) o1.2.2.1 o1.2.2.2 (show ∀i j,i<(b.length:Int).toNat->j<1->ZpM (([.lit (.bool false)]:List C).getD j .junk) (Zam cB false (List.replicate (b.length:Int).toNat false) i j)from(Zmu (fun j hj=>.inl rfl) _)) (show (List.replicate (b.length:Int).toNat false).length=(b.length:Int).toNat from List.length_replicate)) (Znz S0 w0 b h (((4:Int)-(1:Int)).toNat+2) (1:Int) (List.replicate (b.length:Int).toNat false) g r d)
theorem Zpu(b:List Zaa)(d:Zax)(g:Int)(r:List Bool)(h:Zfa b d g=some r):Yo 268 [Yn b,.agg (Zax.c d),.one (.lit (.int .u64 g))] (.one (cL 1 cB false r)):=(ZoL b d g r h).pure
def ZbM:Nat->(List Zaa)->(List Bool)->Int->(List Zaa)->Option (List Zaa)|0,_,_,_,_=>none|fu+1,g,j,b,h=>bif(decide (b<(g.length:Int)))then need (0<=b/\b<(j.length:Int))<|bif(!(j.getD b.toNat false))then need (0<=b/\b<(g.length:Int))<|need ((h++([(g.getD b.toNat Zaa.d)]:List Zaa)).length * 80<=140737488355328/\(h++([(g.getD b.toNat Zaa.d)]:List Zaa)).length<=maxLen)<|ZbM fu g j (Zan b 1) (h++([(g.getD b.toNat Zaa.d)]:List Zaa))else ZbM fu g j (Zan b 1) h else some h
theorem Zlq:∀(t:Nat)(g:List Zaa)(p:List Bool)(b:Int)(o r:List Zaa),ZbM t g p b o=some r->Ys 37 S0 w0 Tryz.f196 [(l5 99999 44 10 Zaa.c Zaa.d r)] (.one (.osl 99999 r.length)) [1,1,1,1,0,1,0] ⟨[(7,(Yn g)),(8,.one (cL 1 cB false p)),(9,.one (.osl 9 o.length)),(10,(Yj b))],[(l5 9 44 10 Zaa.c Zaa.d o)]⟩:=by
 intro t;induction t with
 |zero=>
  intro g p b o r h;simp[ZbM]at h
 |succ t y=>
  intro g p b o r h;unfold ZbM at h;obtain⟨u,h⟩|⟨u,h⟩:=Zah h
  .obtain⟨z,h⟩:=Zao h;obtain⟨v,h⟩|⟨v,h⟩:=Zah h
   .obtain⟨B,A,h⟩:=Yt h;exact Ye 15 [rz,rz,⟨[(6,.c ((o++([(g.getD b.toNat Zaa.d)]:List Zaa)).length) (Zam Zaa.c Zaa.d (o++([(g.getD b.toNat Zaa.d)]:List Zaa))))],[],[],[],[],[(5,(([(g.getD b.toNat Zaa.d)]:List Zaa).length,Zam Zaa.c Zaa.d ([(g.getD b.toNat Zaa.d)]:List Zaa)))],[]⟩,rz] [true,true] (lZ [7,8,9,10] [35] [(35,9)]) (mj u z v B (mF (e:=Zaa.c) Zaa.d 10 (fun _=>rfl) ([(g.getD b.toNat Zaa.d)]:List Zaa)) (Zdk (sz:=10) (e:=Zaa.c) (d:=Zaa.d) o ([(g.getD b.toNat Zaa.d)]:List Zaa)) A.1 A.2) (y g p (Zan b 1) (o++([(g.getD b.toNat Zaa.d)]:List Zaa)) r h)
   .exact Ye 15 [rz,rz,rz] [true,false] (lX [7,8,9,10] [9]) (me u z v) (y g p (Zan b 1) o r h)
  .apply Yc h 8 [rz,rz] [false] (lZ [6] [9] [(9,99999)]) (mc u)
def Zdq(d:List Zaa)(g:Zax)(h:Int):Option (List Zaa):=(Zfx d).bind fun b=>(Zfa b g h).bind fun j=>ZbM (((b.length:Int)-(0:Int)).toNat+2) b j (0:Int) ([]:List Zaa)
theorem Zmb(h:List Zaa)(o:Zax)(p:Int)(r:List Zaa)(b:Zdq h o p=some r):Yp 196 [] [Yn h,.agg (Zax.c o),.one (.lit (.int .u64 p))] [(l5 99999 44 10 Zaa.c Zaa.d r)] (.one (.osl 99999 r.length)):=by
 refine Yw Tryz.func196 fun S0 w0=>?_;unfold Zdq at b;obtain⟨g,t,u,v,b⟩:=Yu b;exact Ye 12 [rz,rA [(1,.r (Yn g) [])],rA [(3,.r (.one (cL 1 cB false t)) [])],rA [(0,.c ([]:List Zaa).length (Zam Zaa.c Zaa.d ([]:List Zaa)))],rz] [] (lZ [7,8,9,10] [17] [(17,9)]) (mf (ZpW _ _ u) (Zpu _ _ _ _ v) (show ([]:List Zaa).length=0 from rfl) (mI (e:=Zaa.c) Zaa.d 10 (fun _=>rfl) ([]:List Zaa))) (Zlq S0 w0 (((g.length:Int)-(0:Int)).toNat+2) g t (0:Int) ([]:List Zaa) r b)
theorem Zmn(b:List Zaa)(d:Zax)(g:Int)(r:List Zaa)(h:Zdq b d g=some r):Yo 196 [Yn b,.agg (Zax.c d),.one (.lit (.int .u64 g))] (Yn r):=(Zmb b d g r h).pure
def Zcq(b:List Zaa)(h:Int):Nat->Int->Int->Option Int|0,_,_=>none|fu+1,j,g=>bif(decide (g<(b.length:Int)))then need (0<=g/\g<(b.length:Int))<|(Zdr (((b.getD g.toNat Zaa.d).fEnd).fAddr)).bind fun o=>need (0<=h/\h<(b.length:Int))<|(Zdr (((b.getD h.toNat Zaa.d).fEnd).fAddr)).bind fun p=>bif(decide (o=p))then Zcq b h fu (Zan j 1) (Zan g 1)else Zcq b h fu j (Zan g 1)else some j
theorem Znw(u:List Zaa)(v:Int):∀(h:Nat)(d g r:Int),Zcq u v h d g=some r->Yr 39 S0 w0 Tryz.f269 (Yj r) [1,1,1,0,1,0] ⟨[(0,(Yn u)),(1,(Yj v)),(5,(Yj d)),(6,(Yj g))],[]⟩:=by
 intro h;induction h with
 |zero=>
  intro d g r b;simp[Zcq]at b
 |succ h y=>
  intro d g r b;unfold Zcq at b;obtain⟨j,b⟩|⟨j,b⟩:=Zah b
  .obtain⟨z,b⟩:=Zao b;obtain⟨o,A,b⟩:=Zad b;obtain⟨B,b⟩:=Zao b;obtain⟨p,D,b⟩:=Zad b
   let R1:List RA:=[rz,rA [(6,aG (Zap.c o)),(13,aG (Zap.c p)),(14,aB (decide (o=p)))],rz]
   have O2:=(mh j z (Zhv _ _ A) B (Zhv _ _ D) (ZsT o p (.tmp 27) (.tmp 34)));obtain⟨t,b⟩|⟨t,b⟩:=Zah b
   .exact Ye 15 (R1++[rz]) [true,true] (Yi [0,1,5,6]) (mr O2 t) (y (Zan d 1) (Zan g 1) r b)
   .exact Ye 15 R1 [true,false] (Yi [0,1,5,6]) (mr O2 t) (y d (Zan g 1) r b)
  .apply Ya b 8 [rz,rz] [false] (mc j)
def ZeZ(b:List Zaa)(d:Int):Option Int:=bif(decide (d<(0:Int)))then some (0:Int)else bif(decide (d>=(b.length:Int)))then some (0:Int)else Zcq b d (((b.length:Int)-(0:Int)).toNat+2) (0:Int) (0:Int)
theorem ZkL(d:List Zaa)(h r:Int)(b:ZeZ d h=some r):Yo 269 [Yn d,Yj h] (Yj r):=by
 refine Yv Tryz.func269 fun S0 w0=>?_;unfold ZeZ at b;obtain⟨g,b⟩|⟨g,b⟩:=Zah b
 .apply Ya b 8 [rz,rB [(2,true)],rz] [true] (md g (mH true))
 .obtain⟨j,b⟩|⟨j,b⟩:=Zah b
  .apply Ya b 8 [rz,rB [(2,false)],rz] [true] (md g j)
  .exact Ye 13 [rz,rB [(2,false)],rz,rz] [false] (Yi [0,1,5,6]) (md g j) (Znw S0 w0 d h (((d.length:Int)-(0:Int)).toNat+2) (0:Int) (0:Int) r b)
def Zfm(b d:Zaa):Option Bool:=bif(b.fSince != d.fSince)then some (decide (b.fSince>d.fSince))else(ZcA b.fEnd d.fEnd).bind fun g=>some (decide (g>(0:Int)))
theorem Zob(g h:Zaa)(r:Bool)(b:Zfm g h=some r):Yo 270 [.agg (Zaa.c g),.agg (Zaa.c h)] (Yk r):=by
 refine Yv Tryz.func270 fun S0 w0=>?_;unfold Zfm at b;obtain⟨d,b⟩|⟨d,b⟩:=Zah b
 .apply Ya b 8 [rz,rz,rz] [true] (mc d)
 .obtain⟨j,o,b⟩:=Zad b;apply Ya b 9 [rz,rz,rA [(4,aI j)]] [false] (md d (Zem _ _ _ o))
def Zbm(b:List Zaa)(g:Int)(ar:Int->Option Int):Nat->Bool->Int->Option Int|0,_,_=>none|fu+1,j,h=>bif(decide (h<(b.length:Int)))then(ZeZ b h).bind fun o=>(ZeZ b g).bind fun p=>bif j then bif(decide (o<=p))then bif(decide (o<p))then Zbm b g ar fu true (Zan h 1)else need (0<=h/\h<(b.length:Int))<|need (0<=g/\g<(b.length:Int))<|(Zfm (b.getD h.toNat Zaa.d) (b.getD g.toNat Zaa.d)).bind fun t=>Zbm b g ar fu (!t) (Zan h 1)else Zbm b g ar fu false (Zan h 1)else Zbm b g ar fu false (Zan h 1)else bif j then some g else ar (Zan g 1)
theorem Zoc(z:List Zaa)(A:Int)(ar:Int->Option Int)(bI:∀(el r:Int),ar el=some r->Yr 51 S0 w0 Tryz.f197 (Yj r) [1,0,1,0] ⟨[(0,(Yn z)),(3,(Yj el))],[]⟩):∀(j:Nat)(o:Bool)(d r:Int),Zbm z A ar j o d=some r->Yr 51 S0 w0 Tryz.f197 (Yj r) [1,0,1,0,0,1,0,0,1,0,1,0] ⟨[(0,(Yn z)),(3,(Yj A)),(4,(Yk o)),(5,(Yj d))],[]⟩:=by
 intro j;induction j with
 |zero=>
  intro o d r b;simp[Zbm]at b
 |succ j p=>
  intro o d r b;unfold Zbm at b;obtain⟨t,b⟩|⟨t,b⟩:=Zah b
  .obtain⟨u,v,F,G,b⟩:=Yu b;have O1:=(me t (ZkL _ _ _ F) (ZkL _ _ _ G));obtain⟨h,b⟩|⟨h,b⟩:=Zah b
   .obtain⟨y,b⟩|⟨y,b⟩:=Zah b
    .obtain⟨B,b⟩|⟨B,b⟩:=Zah b
     .exact Ye 14 [rz,rA [(2,aI u),(5,aI v)],rB [(1,true),(6,true),(10,true)],rz] [true] (Yi [0,3,4,5]) (mu O1 h y B) (p true (Zan d 1) r b)
     .obtain⟨H,I,b⟩:=Yt b;obtain⟨E,D,b⟩:=Zad b;exact Ye 14 [rz,rA [(2,aI u),(5,aI v)],⟨[(19,aB E)],[(1,true),(6,true),(10,false)],[],[],[],[],[]⟩,rz] [true] (Yi [0,3,4,5]) (mz O1 h y B H I (Zob _ _ _ D)) (p (!E) (Zan d 1) r b)
    .exact Ye 14 [rz,rA [(2,aI u),(5,aI v)],rB [(1,true),(6,false)],rz] [true] (Yi [0,3,4,5]) (mt O1 h y) (p false (Zan d 1) r b)
   .exact Ye 14 [rz,rA [(2,aI u),(5,aI v)],rB [(1,false)],rz] [true] (Yi [0,3,4,5]) (mr O1 h) (p false (Zan d 1) r b)
  .obtain⟨g,b⟩|⟨g,b⟩:=Zah b
   .apply Ya b 11 [rz,rz,rz] [false,true] (md t g)
   .exact Ye 13 [rz,rz,rz] [false,false] (Yi [0,3]) (md t g) (bI (Zan A 1) r b)
def ZbW(b:List Zaa):Nat->Int->Option Int|0,_=>none|fu+1,d=>bif(decide (d<(b.length:Int)))then Zbm b d (ZbW b fu) (((b.length:Int)-(0:Int)).toNat+2) true (0:Int)else some (-1:Int)
theorem Zod(d:List Zaa):∀(g:Nat)(h r:Int),ZbW d g h=some r->Yr 51 S0 w0 Tryz.f197 (Yj r) [1,0,1,0] ⟨[(0,(Yn d)),(3,(Yj h))],[]⟩:=by
 intro g;induction g with
 |zero=>
  intro h r b;simp[ZbW]at b
 |succ g o=>
  intro h r b;unfold ZbW at b;obtain⟨j,b⟩|⟨j,b⟩:=Zah b
  .exact Ye 14 [rz,rz,rz] [true] (Yi [0,3,4,5]) (mc j) (Zoc S0 w0 d h (ZbW d g) o (((d.length:Int)-(0:Int)).toNat+2) true (0:Int) r b)
  .apply Ya b 8 [rz,rz] [false] (mc j)
def ZgE(b:List Zaa):Option Int:=ZbW b (((b.length:Int)-(0:Int)).toNat+2) (0:Int)
theorem ZpX(b:List Zaa)(r:Int)(d:ZgE b=some r):Yo 197 [Yn b] (Yj r):=by
 refine Yv Tryz.func197 fun S0 w0=>?_;unfold ZgE at d;exact Ye 6 [rz,rz] [] (Yi [0,3]) .n (Zod S0 w0 b (((b.length:Int)-(0:Int)).toNat+2) (0:Int) r d)
def ZdI(h:List Zaa)(j:Zax)(o:Int):Option (Zal×Bool):=(Zdq h j o).bind fun g=>(ZgE g).bind fun b=>bif(decide (b<(0:Int)))then some ((Zal.mk (Zaf.mk false 0 0) 0),false)else need (0<=b/\b<(g.length:Int))<|some ((g.getD b.toNat Zaa.d).fEnd,true)
theorem ZoK(g:List Zaa)(h:Zax)(j:Int)(r:(Zal×Bool))(b:ZdI g h j=some r):Yo 119 [Yn g,.agg (Zax.c h),.one (.lit (.int .u64 j))] (.tup [(true,Zal.c r.1),(false,cB r.2)]):=by
 refine Yv Tryz.func119 fun S0 w0=>?_;unfold ZdI at b;obtain⟨o,p,b⟩:=Zad b;obtain⟨t,u,b⟩:=Zad b
 let R1:List RA:=[rz,rA [(3,.r (Yn o) [])],rA [(1,aI t)],rz,rz]
 have O2:=(md (Zmn _ _ _ _ p) (ZpX _ _ u));obtain⟨d,b⟩|⟨d,b⟩:=Zah b
 .apply Ya b 12 R1 [true] (mr O2 d)
 .obtain⟨v,b⟩:=Zao b;apply Ya b 13 R1 [false] (mt O2 d v)
def ZgC(d:List Zaa)(g:Zal):Option ((List Zaa)×Int):=(ZdV d g).bind fun b=>bif(decide (b<(0:Int)))then some (([]:(List Zaa)),(6:Int))else need (0<=b/\b<=(d.length:Int))<|need ((([]:List Zaa)++(d.take b.toNat)).length * 80<=140737488355328/\(([]:List Zaa)++(d.take b.toNat)).length<=maxLen)<|need (0<=(Zan b 1)/\(Zan b 1)<=(d.length:Int))<|need (((([]:List Zaa)++(d.take b.toNat))++(d.drop (Zan b 1).toNat)).length * 80<=140737488355328/\((([]:List Zaa)++(d.take b.toNat))++(d.drop (Zan b 1).toNat)).length<=maxLen)<|some (((([]:List Zaa)++(d.take b.toNat))++(d.drop (Zan b 1).toNat)),(0:Int))
theorem ZpU(g:List Zaa)(p:Zal)(r:((List Zaa)×Int))(h:ZgC g p=some r):Yo 131 [Yn g,.agg (Zal.c p)] (.tup [(false,(cLs 10 Zaa.c Zaa.d) r.1),(false,l9 r.2)]):=by
 refine Yv Tryz.func131 fun S0 w0=>?_;unfold ZgC at h;obtain⟨b,t,h⟩:=Zad h;obtain⟨o,h⟩|⟨o,h⟩:=Zah h
 .apply Yb h 10 [rz,rA [(2,aI b)],rz,rz] [true] [] [] [(4,[(0,cL 10 Zaa.c Zaa.d [])])] (md (Zgn _ _ _ t) o)
 .obtain⟨u,v,h⟩:=Yt h;obtain⟨z,y,h⟩:=Yt h;apply Yb h 11 [rz,rA [(2,aI b)],rz,⟨[(0,.c ([]:List Zaa).length (Zam Zaa.c Zaa.d ([]:List Zaa))),(4,.c ((([]:List Zaa)++(g.take b.toNat)).length) (Zam Zaa.c Zaa.d (([]:List Zaa)++(g.take b.toNat)))),(9,.c (((([]:List Zaa)++(g.take b.toNat))++(g.drop (Zan b 1).toNat)).length) (Zam Zaa.c Zaa.d ((([]:List Zaa)++(g.take b.toNat))++(g.drop (Zan b 1).toNat))))],[],[],[],[],[(3,((g.take b.toNat).length,Zam Zaa.c Zaa.d (g.take b.toNat))),(8,((g.drop (Zan b 1).toNat).length,Zam Zaa.c Zaa.d (g.drop (Zan b 1).toNat)))],[]⟩] [false] [21] [] [] (.c (Zgn _ _ _ t) (.c o (.c (show ([]:List Zaa).length=0 from rfl) (.c (mI (e:=Zaa.c) Zaa.d 10 (fun _=>rfl) ([]:List Zaa)) (mn (show (g.take b.toNat).length=b.toNat/\∀i j,i<b.toNat->j<10->Zam Zaa.c Zaa.d (g.take b.toNat) i j=Zam Zaa.c Zaa.d g i j from(Ztl _ _ u)) u (Zdk (sz:=10) (e:=Zaa.c) (d:=Zaa.d) ([]:List Zaa) (g.take b.toNat)) v.1 v.2 (show (g.drop (Zan b 1).toNat).length=g.length-(Zan b 1).toNat/\∀i j,i<g.length-(Zan b 1).toNat->j<10->Zam Zaa.c Zaa.d (g.drop (Zan b 1).toNat) i j=Zam Zaa.c Zaa.d g ((Zan b 1).toNat+i) j from(ZqT _ _)) z (Zdk (sz:=10) (e:=Zaa.c) (d:=Zaa.d) (([]:List Zaa)++(g.take b.toNat)) (g.drop (Zan b 1).toNat)) y.1 y.2)))))
def ZdH(g:List Zaa):Nat->Int->Zaa->Option (List Zaa)|0,_,_=>none|fu+1,b,h=>bif(decide (b<(g.length:Int)))then need (0<=b/\b<(g.length:Int))<|(ZcA ((g.getD b.toNat Zaa.d).fEnd) h.fEnd).bind fun j=>bif(decide (j<=(0:Int)))then ZdH g fu (Zan b 1) h else need (0<=b/\b<=(g.length:Int))<|need ((([]:List Zaa)++(g.take b.toNat)).length * 80<=140737488355328/\(([]:List Zaa)++(g.take b.toNat)).length<=maxLen)<|need (((([]:List Zaa)++(g.take b.toNat))++([h]:List Zaa)).length * 80<=140737488355328/\((([]:List Zaa)++(g.take b.toNat))++([h]:List Zaa)).length<=maxLen)<|need ((((([]:List Zaa)++(g.take b.toNat))++([h]:List Zaa))++(g.drop b.toNat)).length * 80<=140737488355328/\(((([]:List Zaa)++(g.take b.toNat))++([h]:List Zaa))++(g.drop b.toNat)).length<=maxLen)<|some (((([]:List Zaa)++(g.take b.toNat))++([h]:List Zaa))++(g.drop b.toNat))else need (0<=b/\b<=(g.length:Int))<|need ((([]:List Zaa)++(g.take b.toNat)).length * 80<=140737488355328/\(([]:List Zaa)++(g.take b.toNat)).length<=maxLen)<|need (((([]:List Zaa)++(g.take b.toNat))++([h]:List Zaa)).length * 80<=140737488355328/\((([]:List Zaa)++(g.take b.toNat))++([h]:List Zaa)).length<=maxLen)<|need ((((([]:List Zaa)++(g.take b.toNat))++([h]:List Zaa))++(g.drop b.toNat)).length * 80<=140737488355328/\(((([]:List Zaa)++(g.take b.toNat))++([h]:List Zaa))++(g.drop b.toNat)).length<=maxLen)<|some (((([]:List Zaa)++(g.take b.toNat))++([h]:List Zaa))++(g.drop b.toNat))
theorem ZoJ(g:List Zaa):∀(v:Nat)(b:Int)(h:Zaa)(r:List Zaa),ZdH g v b h=some r->Ys 37 S0 w0 Tryz.f132 [(l5 99999 44 10 Zaa.c Zaa.d r)] (.one (.osl 99999 r.length)) [1,1,0,0] ⟨[(0,(Yn g)),(3,.one (.ptr 3 0)),(5,(Yj b))],[(3,.box (Zaa.c h))]⟩:=by
 intro v;induction v with
 |zero=>
  intro b h r o;simp[ZdH]at o
 |succ v G=>
  intro b h r o;unfold ZdH at o;obtain⟨y,o⟩|⟨y,o⟩:=Zah o
  .obtain⟨o2,o⟩:=Zao o;obtain⟨H,I,o⟩:=Zad o
   let R1:List RA:=[⟨[(12,aI H)],[(4,true)],[],[],[],[],[]⟩]
   have O2:=(me y o2 (Zem _ _ _ I));obtain⟨z,o⟩|⟨z,o⟩:=Zah o
   .exact Ye 10 (R1++[rz]) [true] (lX [0,3,5] [3]) (mr O2 z) (G (Zan b 1) h r o)
   .obtain⟨A,D,o⟩:=Yt o;obtain⟨E,F,o⟩:=Yt o;apply Yc o 10 (R1++[⟨[(0,.c ([]:List Zaa).length (Zam Zaa.c Zaa.d ([]:List Zaa))),(4,.c ((([]:List Zaa)++(g.take b.toNat)).length) (Zam Zaa.c Zaa.d (([]:List Zaa)++(g.take b.toNat)))),(7,.c (((([]:List Zaa)++(g.take b.toNat))++([h]:List Zaa)).length) (Zam Zaa.c Zaa.d ((([]:List Zaa)++(g.take b.toNat))++([h]:List Zaa))))],[],[],[],[],[(3,((g.take b.toNat).length,Zam Zaa.c Zaa.d (g.take b.toNat))),(6,(([h]:List Zaa).length,Zam Zaa.c Zaa.d ([h]:List Zaa)))],[]⟩,⟨[(4,.c ((((([]:List Zaa)++(g.take b.toNat))++([h]:List Zaa))++(g.drop b.toNat)).length) (Zam Zaa.c Zaa.d (((([]:List Zaa)++(g.take b.toNat))++([h]:List Zaa))++(g.drop b.toNat))))],[],[],[],[],[(3,((g.drop b.toNat).length,Zam Zaa.c Zaa.d (g.drop b.toNat)))],[]⟩]) [false] (lZ [4] [36] [(36,99999)]) (O2.app (.c z (.c (show ([]:List Zaa).length=0 from rfl) (.c (mI (e:=Zaa.c) Zaa.d 10 (fun _=>rfl) ([]:List Zaa)) (.c (show (g.take b.toNat).length=b.toNat/\∀i j,i<b.toNat->j<10->Zam Zaa.c Zaa.d (g.take b.toNat) i j=Zam Zaa.c Zaa.d g i j from(Ztl _ _ A)) (.c A (.c (Zdk (sz:=10) (e:=Zaa.c) (d:=Zaa.d) ([]:List Zaa) (g.take b.toNat)) (.c D.1 (mn D.2 (mF (e:=Zaa.c) Zaa.d 10 (fun _=>rfl) ([h]:List Zaa)) (Zdk (sz:=10) (e:=Zaa.c) (d:=Zaa.d) (([]:List Zaa)++(g.take b.toNat)) ([h]:List Zaa)) E.1 E.2 (show (g.drop b.toNat).length=g.length-b.toNat/\∀i j,i<g.length-b.toNat->j<10->Zam Zaa.c Zaa.d (g.drop b.toNat) i j=Zam Zaa.c Zaa.d g (b.toNat+i) j from(ZqT _ _)) A (Zdk (sz:=10) (e:=Zaa.c) (d:=Zaa.d) ((([]:List Zaa)++(g.take b.toNat))++([h]:List Zaa)) (g.drop b.toNat)) F.1 F.2)))))))))
  .obtain⟨B,p,o⟩:=Yt o;obtain⟨t,u,o⟩:=Yt o;apply Yc o 10 [rB [(4,false)],⟨[(0,.c ([]:List Zaa).length (Zam Zaa.c Zaa.d ([]:List Zaa))),(4,.c ((([]:List Zaa)++(g.take b.toNat)).length) (Zam Zaa.c Zaa.d (([]:List Zaa)++(g.take b.toNat)))),(7,.c (((([]:List Zaa)++(g.take b.toNat))++([h]:List Zaa)).length) (Zam Zaa.c Zaa.d ((([]:List Zaa)++(g.take b.toNat))++([h]:List Zaa))))],[],[],[],[],[(3,((g.take b.toNat).length,Zam Zaa.c Zaa.d (g.take b.toNat))),(6,(([h]:List Zaa).length,Zam Zaa.c Zaa.d ([h]:List Zaa)))],[]⟩,⟨[(4,.c ((((([]:List Zaa)++(g.take b.toNat))++([h]:List Zaa))++(g.drop b.toNat)).length) (Zam Zaa.c Zaa.d (((([]:List Zaa)++(g.take b.toNat))++([h]:List Zaa))++(g.drop b.toNat))))],[],[],[],[],[(3,((g.drop b.toNat).length,Zam Zaa.c Zaa.d (g.drop b.toNat)))],[]⟩] [false] (lZ [4] [36] [(36,99999)]) (.c y (.c (mH false) (.c (show ([]:List Zaa).length=0 from rfl) (.c (mI (e:=Zaa.c) Zaa.d 10 (fun _=>rfl) ([]:List Zaa)) (.c (show (g.take b.toNat).length=b.toNat/\∀i j,i<b.toNat->j<10->Zam Zaa.c Zaa.d (g.take b.toNat) i j=Zam Zaa.c Zaa.d g i j from(Ztl _ _ B)) (.c B (.c (Zdk (sz:=10) (e:=Zaa.c) (d:=Zaa.d) ([]:List Zaa) (g.take b.toNat)) (.c p.1 (mn p.2 (mF (e:=Zaa.c) Zaa.d 10 (fun _=>rfl) ([h]:List Zaa)) (Zdk (sz:=10) (e:=Zaa.c) (d:=Zaa.d) (([]:List Zaa)++(g.take b.toNat)) ([h]:List Zaa)) t.1 t.2 (show (g.drop b.toNat).length=g.length-b.toNat/\∀i j,i<g.length-b.toNat->j<10->Zam Zaa.c Zaa.d (g.drop b.toNat) i j=Zam Zaa.c Zaa.d g (b.toNat+i) j from(ZqT _ _)) B (Zdk (sz:=10) (e:=Zaa.c) (d:=Zaa.d) ((([]:List Zaa)++(g.take b.toNat))++([h]:List Zaa)) (g.drop b.toNat)) u.1 u.2)))))))))
def Zef(b:List Zaa)(d:Zaa):Option (List Zaa):=ZdH b (((b.length:Int)-(0:Int)).toNat+2) (0:Int) d
theorem Zlf(b:List Zaa)(g:Zaa)(r:List Zaa)(h:Zef b g=some r):Yp 132 [] [Yn b,.agg (Zaa.c g)] [(l5 99999 44 10 Zaa.c Zaa.d r)] (.one (.osl 99999 r.length)):=by
 refine Yw Tryz.func132 fun S0 w0=>?_;unfold Zef at h;exact Ye 6 [rz,rz] [] (lX [0,3,5] [3]) .n (ZoJ S0 w0 b (((b.length:Int)-(0:Int)).toNat+2) (0:Int) g r h)
theorem ZlO(b:List Zaa)(d:Zaa)(r:List Zaa)(g:Zef b d=some r):Yo 132 [Yn b,.agg (Zaa.c d)] (Yn r):=(Zlf b d r g).pure
end Go.Proofs.YtmnloegcpaahcaaGreat
