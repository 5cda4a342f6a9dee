import Derived.Test.YtlpdogaifdeomaaGreatEMorA0
namespace Go.Proofs.YtlpdogaifdeomaaGreat
open Go.RowKit Go.Lib Go.Shelf
set_option linter.unusedVariables false
set_option maxRecDepth 100000
variable {z:Zw}
def Zgu:Nat->(List Zaa)->Int->Int->(List (Zae×Int))->Option (List (Zae×Int))|0,_,_,_,_=>none|fu+1,f,e,b,m8=>bif(decide (b<e))then need (0<=b/\b<(f.length:Int))<|(Zgt (((f.getD b.toNat Zaa.d).fEnd).fAddr)).bind fun g=>Zgu fu f e (Zan b 1) (mput m8 g (Zan (mget m8 g (0:Int)) (1:Int)))else some m8
theorem Zqz:∀{f g d e m8},LH z Tryz.f213 [1,1,0,1,0] (Zgu f g d e m8) (fun r=>[(99999,.map 45 (encM (fun k=>.agg #[.bool k.fAddr.fV6,.int .u64 k.fAddr.fHi,.int .u64 k.fAddr.fLo,.int .i64 k.fBits]) (fun v=>(Yj v)) r))]) (fun r=>(.one (.mp 99999))) ⟨[(3,.one (.mp 8)),(9,(Ym g)),(10,(Yj d)),(11,(Yj e))],[(8,.map 45 (encM (fun k=>.agg #[.bool k.fAddr.fV6,.int .u64 k.fAddr.fHi,.int .u64 k.fAddr.fLo,.int .i64 k.fBits]) (fun v=>(Yj v)) m8))]⟩:=by
 intro f;induction f with
 |zero=>exact kZ
 |succ f h=>intro g d e m8;exact kB (kN<|kC fun b=>kH (show ZmV Tryz.prog 45 (.agg #[.bool b.fAddr.fV6,.int .u64 b.fAddr.fHi,.int .u64 b.fAddr.fLo,.int .i64 b.fBits]) ((encM (fun k=>.agg #[.bool k.fAddr.fV6,.int .u64 k.fAddr.fHi,.int .u64 k.fAddr.fLo,.int .i64 k.fBits]) (fun v=>(Yj v)) m8).map (·.1))from(ZkF b m8))<|kH (show Zvh (encM (fun k=>.agg #[.bool k.fAddr.fV6,.int .u64 k.fAddr.fHi,.int .u64 k.fAddr.fLo,.int .i64 k.fBits]) (fun v=>(Yj v)) m8) (.agg #[.bool b.fAddr.fV6,.int .u64 b.fAddr.fHi,.int .u64 b.fAddr.fLo,.int .i64 b.fBits]) (.int .i64 (0)) ((Yj (mget m8 b (0:Int))))from(ZwY (kv:=(fun k=>.agg #[.bool k.fAddr.fV6,.int .u64 k.fAddr.fHi,.int .u64 k.fAddr.fLo,.int .i64 k.fBits])) (vv:=(fun v=>(Yj v))) Zif (fun S w m=>RepC.lit) b m8))<|kH (show ZmV Tryz.prog 45 (.agg #[.bool b.fAddr.fV6,.int .u64 b.fAddr.fHi,.int .u64 b.fAddr.fLo,.int .i64 b.fBits]) ((.agg #[.bool b.fAddr.fV6,.int .u64 b.fAddr.fHi,.int .u64 b.fAddr.fLo,.int .i64 b.fBits]) :: (encM (fun k=>.agg #[.bool k.fAddr.fV6,.int .u64 k.fAddr.fHi,.int .u64 k.fAddr.fLo,.int .i64 k.fBits]) (fun v=>(Yj v)) m8).map (·.1))from(ZkF (vv:=(fun v=>(Yj v))) b ((b,(0:Int)) :: m8)))<|kH (show MEnt (encM (fun k=>.agg #[.bool k.fAddr.fV6,.int .u64 k.fAddr.fHi,.int .u64 k.fAddr.fLo,.int .i64 k.fBits]) (fun v=>(Yj v)) m8) (.agg #[.bool b.fAddr.fV6,.int .u64 b.fAddr.fHi,.int .u64 b.fAddr.fLo,.int .i64 b.fBits]) (.int .i64 (0)) ((midx m8 b:Nat):Int) (encM (fun k=>.agg #[.bool k.fAddr.fV6,.int .u64 k.fAddr.fHi,.int .u64 k.fAddr.fLo,.int .i64 k.fBits]) (fun v=>(Yj v)) (mpad m8 b (0:Int)))from(ZMg (kv:=(fun k=>.agg #[.bool k.fAddr.fV6,.int .u64 k.fAddr.fHi,.int .u64 k.fAddr.fLo,.int .i64 k.fBits])) (vv:=(fun v=>(Yj v))) Zif (fun S w m=>RepC.lit) (ZMG _) b m8))<|kH (show MSt (encM (fun k=>.agg #[.bool k.fAddr.fV6,.int .u64 k.fAddr.fHi,.int .u64 k.fAddr.fLo,.int .i64 k.fBits]) (fun v=>(Yj v)) (mpad m8 b (0:Int))) ((midx m8 b:Nat):Int) ((Yj (Zan (mget m8 b (0:Int)) (1:Int)))) (encM (fun k=>.agg #[.bool k.fAddr.fV6,.int .u64 k.fAddr.fHi,.int .u64 k.fAddr.fLo,.int .i64 k.fBits]) (fun v=>(Yj v)) (mput m8 b (Zan (mget m8 b (0:Int)) (1:Int))))from(ZMe (kv:=(fun k=>.agg #[.bool k.fAddr.fV6,.int .u64 k.fAddr.fHi,.int .u64 k.fAddr.fLo,.int .i64 k.fBits])) (vv:=(fun v=>(Yj v))) b (0:Int) (Zan (mget m8 b (0:Int)) (1:Int)) m8))<|kX 2 (rA [(5,aI (mget m8 b (0:Int))),(7,.m ((.int .i64 ((midx m8 b:Nat):Int),.one .junk) :: encM (fun k=>.agg #[.bool k.fAddr.fV6,.int .u64 k.fAddr.fHi,.int .u64 k.fAddr.fLo,.int .i64 k.fBits]) (fun v=>(Yj v)) (mpad m8 b (0:Int)))),(9,.m (encM (fun k=>.agg #[.bool k.fAddr.fV6,.int .u64 k.fAddr.fHi,.int .u64 k.fAddr.fLo,.int .i64 k.fBits]) (fun v=>(Yj v)) (mput m8 b (Zan (mget m8 b (0:Int)) (1:Int)))))])<|kL 14 h) (kRH (mL [2] [8] [(8,99999)]) none)
def Zmj(b:List Zaa):Option (List (Zae×Int)):=Zgu (((b.length:Int)-(0:Int)).toNat+2) b (b.length:Int) (0:Int) ([]:(List (Zae×Int)))
instance ZHD{b}:ConH (Zmj b) (eH 213 [] [Ym b] (fun r=>[(99999,.map 45 (encM (fun k=>.agg #[.bool k.fAddr.fV6,.int .u64 k.fAddr.fHi,.int .u64 k.fAddr.fLo,.int .i64 k.fBits]) (fun v=>(Yj v)) r))]) fun r=>(.one (.mp 99999))):=kHC Tryz.func213 (kL 8 Zqz)
def Zmi(b d:Zaa):Option Int:=(Zcq b.fSince d.fSince).bind fun e=>(ZeM b.fEnd d.fEnd).bind fun f=>(Zev ([e,f]:List Int)).bind fun g=>some g
instance ZHt{b d}:Con (Zmi b d) (eS 215 [.agg (Zaa.c b),.agg (Zaa.c d)] Yj):=kS Tryz.func215 (kC fun e=>kC fun f=>kM 1 10 (eI .i64) ([e,f]:List Int)<|kC fun _=>kR0)
def ZeV(g:List Zaa):Nat->Int->(List Zaa)->Int->Int->(List (Zae×Int))->Option Int|0,_,_,_,_,_=>none|fu+1,f,h,e,b,m8=>bif(decide (b<e))then need (0<=b/\b<(h.length:Int))<|bif(decide (f<(0:Int)))then ZeV g fu b h e (Zan b 1) m8 else(Zgt (((h.getD b.toNat Zaa.d).fEnd).fAddr)).bind fun i=>need (0<=f/\f<(g.length:Int))<|(Zgt (((g.getD f.toNat Zaa.d).fEnd).fAddr)).bind fun j=>(Zcq (mget m8 i (0:Int)) (mget m8 j (0:Int))).bind fun n=>(Zmi (h.getD b.toNat Zaa.d) (g.getD f.toNat Zaa.d)).bind fun o=>(Zev ([n,o]:List Int)).bind fun p=>bif(decide (p>(0:Int)))then ZeV g fu b h e (Zan b 1) m8 else ZeV g fu f h e (Zan b 1) m8 else some f
theorem Zrv{n}:∀{g h i e f m8},LS z Tryz.f169 [1,1,0,1,0] (ZeV n g h i e f m8) Yj ⟨[(0,(Ym n)),(3,.one (.mp 8)),(4,(Yj h)),(9,(Ym i)),(10,(Yj e)),(11,(Yj f))],[(8,.map 45 (encM (fun k=>.agg #[.bool k.fAddr.fV6,.int .u64 k.fAddr.fHi,.int .u64 k.fAddr.fLo,.int .i64 k.fBits]) (fun v=>(Yj v)) m8))]⟩:=by
 intro g;induction g with
 |zero=>exact kZ
 |succ g j=>intro h i e f m8;exact kB (kN<|kB (kK true<|kL 17 j) (kC fun b=>kH (show ZmV Tryz.prog 45 (.agg #[.bool b.fAddr.fV6,.int .u64 b.fAddr.fHi,.int .u64 b.fAddr.fLo,.int .i64 b.fBits]) ((encM (fun k=>.agg #[.bool k.fAddr.fV6,.int .u64 k.fAddr.fHi,.int .u64 k.fAddr.fLo,.int .i64 k.fBits]) (fun v=>(Yj v)) m8).map (·.1))from(ZkF b m8))<|kH (show Zvh (encM (fun k=>.agg #[.bool k.fAddr.fV6,.int .u64 k.fAddr.fHi,.int .u64 k.fAddr.fLo,.int .i64 k.fBits]) (fun v=>(Yj v)) m8) (.agg #[.bool b.fAddr.fV6,.int .u64 b.fAddr.fHi,.int .u64 b.fAddr.fLo,.int .i64 b.fBits]) (.int .i64 (0)) ((Yj (mget m8 b (0:Int))))from(ZwY (kv:=(fun k=>.agg #[.bool k.fAddr.fV6,.int .u64 k.fAddr.fHi,.int .u64 k.fAddr.fLo,.int .i64 k.fBits])) (vv:=(fun v=>(Yj v))) Zif (fun S w m=>RepC.lit) b m8))<|kNq fun o=>kC fun d=>kH (show ZmV Tryz.prog 45 (.agg #[.bool d.fAddr.fV6,.int .u64 d.fAddr.fHi,.int .u64 d.fAddr.fLo,.int .i64 d.fBits]) ((encM (fun k=>.agg #[.bool k.fAddr.fV6,.int .u64 k.fAddr.fHi,.int .u64 k.fAddr.fLo,.int .i64 k.fBits]) (fun v=>(Yj v)) m8).map (·.1))from(ZkF d m8))<|kH (show Zvh (encM (fun k=>.agg #[.bool k.fAddr.fV6,.int .u64 k.fAddr.fHi,.int .u64 k.fAddr.fLo,.int .i64 k.fBits]) (fun v=>(Yj v)) m8) (.agg #[.bool d.fAddr.fV6,.int .u64 d.fAddr.fHi,.int .u64 d.fAddr.fLo,.int .i64 d.fBits]) (.int .i64 (0)) ((Yj (mget m8 d (0:Int))))from(ZwY (kv:=(fun k=>.agg #[.bool k.fAddr.fV6,.int .u64 k.fAddr.fHi,.int .u64 k.fAddr.fLo,.int .i64 k.fBits])) (vv:=(fun v=>(Yj v))) Zif (fun S w m=>RepC.lit) d m8))<|kC fun p=>kH o<|kC fun t=>kM 2 25 (eI .i64) ([p,t]:List Int)<|kC fun _=>kB (kX 2 (rA [(8,aI (mget m8 b (0:Int))),(17,aI (mget m8 d (0:Int)))])<|kL 17 j) (kX 2 (rA [(8,aI (mget m8 b (0:Int))),(17,aI (mget m8 d (0:Int)))])<|kL 17 j))) kR0
def ZlK(b:List Zaa):Option Int:=(Zmj b).bind fun d=>ZeV b (((b.length:Int)-(0:Int)).toNat+2) (-1:Int) b (b.length:Int) (0:Int) d
instance ZJp{b}:Con (ZlK b) (eS 169 [Ym b] Yj):=kS Tryz.func169 (kD 1 1 [] [(99999,8)] fun _=>kL 8 Zrv)
def Zim(f:List Zaa)(g:Zay)(h:Int):Option (Zah×Bool):=(ZgD f g h).bind fun e=>(ZlK e).bind fun b=>bif(decide (b<(0:Int)))then some ((Zah.mk (Zaf.mk false 0 0) 0),false)else need (0<=b/\b<(e.length:Int))<|some ((e.getD b.toNat Zaa.d).fEnd,true)
instance ZFy{b d e}:Con (Zim b d e) (eS 113 [Ym b,.agg (Zay.c d),.one (.lit (.int .u64 e))] fun r=>.tup [(true,Zah.c r.1),(false,cB r.2)]):=kS Tryz.func113 (kC fun _=>kC fun _=>kB kR0 (kN<|kR0))
def Zdd(b:List Zaa)(f e:Int):Option (List Zaa):=need (0<=f/\f<=e/\e<=(b.length:Int)/\(b.length:Int)<=(b.length:Int))<|bif(f==e)then some b else need (0<=(0:Int)/\(0:Int)<=f/\f<=(b.length:Int))<|need (0<=e/\e<=(b.length:Int)/\(b.length:Int)<=(b.length:Int))<|need (e.toNat+(b.length-e.toNat)<=b.length/\f.toNat+(b.length-e.toNat)<=b.length)<|need (0<=(((f.toNat+(b.length-e.toNat)):Nat):Int)/\(((f.toNat+(b.length-e.toNat)):Nat):Int)<=(b.length:Int)/\((0:Nat):Int)+(b.length:Int)<=(b.length:Int))<|need ((0+(((f.toNat+(b.length-e.toNat)):Nat):Int).toNat)+((b.length:Int).toNat-(((f.toNat+(b.length-e.toNat)):Nat):Int).toNat)<=(appL b f.toNat e.toNat (b.length-e.toNat)).length)<|need ((f.toNat+(b.length-e.toNat))<=(ZdA (appL b f.toNat e.toNat (b.length-e.toNat)) (0+(((f.toNat+(b.length-e.toNat)):Nat):Int).toNat) ((b.length:Int).toNat-(((f.toNat+(b.length-e.toNat)):Nat):Int).toNat) Zaa.d).length)<|some ((ZdA (appL b f.toNat e.toNat (b.length-e.toNat)) (0+(((f.toNat+(b.length-e.toNat)):Nat):Int).toNat) ((b.length:Int).toNat-(((f.toNat+(b.length-e.toNat)):Nat):Int).toNat) Zaa.d).take (f.toNat+(b.length-e.toNat)))
instance Zqp{b f e}:ConH (Zdd b f e) (eH 170 [(100000,.rows 64 10 b.length (Zaj Zaa.c Zaa.d b))] [.one (.osl 100000 b.length),Yj f,Yj e] (fun r=>[(99999,.rows 64 10 r.length (Zaj Zaa.c Zaa.d r))]) m6):=kHC Tryz.func170 (kN<|kB (kRH ⟨[],[],[],[],[],[6],[100000],[(100000,99999)]⟩ none) (kN<|kN<|kNm fun g=>kH (show (appL b f.toNat e.toNat (b.length-e.toNat)).length=b.length from(ZxH _ _ _ _ g))<|kH (show 0=0 from rfl)<|kH g.2<|kH (show ∀p q,p<b.length->q<10->(p<f.toNat\/f.toNat+(b.length-e.toNat)<=p)->Zaj Zaa.c Zaa.d (appL b f.toNat e.toNat (b.length-e.toNat)) p q=Zaj Zaa.c Zaa.d b p q from(ZIT _ _ _ _ g))<|kH (show ∀p q,p<(b.length-e.toNat)->q<10->Zaj Zaa.c Zaa.d (appL b f.toNat e.toNat (b.length-e.toNat)) (f.toNat+p) q=Zaj Zaa.c Zaa.d b (e.toNat+p) q from(ZIU _ _ _ _ g))<|kN<|kNm fun h=>kH (show (ZdA (appL b f.toNat e.toNat (b.length-e.toNat)) (0+(((f.toNat+(b.length-e.toNat)):Nat):Int).toNat) ((b.length:Int).toNat-(((f.toNat+(b.length-e.toNat)):Nat):Int).toNat) Zaa.d).length=(appL b f.toNat e.toNat (b.length-e.toNat)).length from(ZnS _ _ _ _ h))<|kH (show ∀i j,i<(appL b f.toNat e.toNat (b.length-e.toNat)).length->j<10->(i<(0+(((f.toNat+(b.length-e.toNat)):Nat):Int).toNat)\/(0+(((f.toNat+(b.length-e.toNat)):Nat):Int).toNat)+((b.length:Int).toNat-(((f.toNat+(b.length-e.toNat)):Nat):Int).toNat)<=i)->Zaj Zaa.c Zaa.d (ZdA (appL b f.toNat e.toNat (b.length-e.toNat)) (0+(((f.toNat+(b.length-e.toNat)):Nat):Int).toNat) ((b.length:Int).toNat-(((f.toNat+(b.length-e.toNat)):Nat):Int).toNat) Zaa.d) i j=Zaj Zaa.c Zaa.d (appL b f.toNat e.toNat (b.length-e.toNat)) i j from(ZuT _ _ _ h))<|kH (show ∀i j,i<((b.length:Int).toNat-(((f.toNat+(b.length-e.toNat)):Nat):Int).toNat)->j<10->ZpO (([.lit (.bool false),.lit (.int .u64 (0)),.lit (.int .u64 (0)),.lit (.int .i64 (0)),.lit (.bool false),.lit (.int .i64 (0)),.lit (.int .i64 (0)),.lit (.int .i64 (0)),.lit (.int .i64 (0)),.lit (.int .i64 (0))]:List C).getD j .junk) (Zaj Zaa.c Zaa.d (ZdA (appL b f.toNat e.toNat (b.length-e.toNat)) (0+(((f.toNat+(b.length-e.toNat)):Nat):Int).toNat) ((b.length:Int).toNat-(((f.toNat+(b.length-e.toNat)):Nat):Int).toNat) Zaa.d) ((0+(((f.toNat+(b.length-e.toNat)):Nat):Int).toNat)+i) j)from(ZuU _ _ _ h (fun j hj=>.inl rfl)))<|kH (show 0=0 from rfl)<|kNm fun n=>kH (show ((ZdA (appL b f.toNat e.toNat (b.length-e.toNat)) (0+(((f.toNat+(b.length-e.toNat)):Nat):Int).toNat) ((b.length:Int).toNat-(((f.toNat+(b.length-e.toNat)):Nat):Int).toNat) Zaa.d).take (f.toNat+(b.length-e.toNat))).length=(f.toNat+(b.length-e.toNat))from(ZtG _ _ n))<|kH (show ∀i j,i<(f.toNat+(b.length-e.toNat))->j<10->Zaj Zaa.c Zaa.d ((ZdA (appL b f.toNat e.toNat (b.length-e.toNat)) (0+(((f.toNat+(b.length-e.toNat)):Nat):Int).toNat) ((b.length:Int).toNat-(((f.toNat+(b.length-e.toNat)):Nat):Int).toNat) Zaa.d).take (f.toNat+(b.length-e.toNat))) i j=Zaj Zaa.c Zaa.d (ZdA (appL b f.toNat e.toNat (b.length-e.toNat)) (0+(((f.toNat+(b.length-e.toNat)):Nat):Int).toNat) ((b.length:Int).toNat-(((f.toNat+(b.length-e.toNat)):Nat):Int).toNat) Zaa.d) i j from(ZqU _ _))<|kX 4 (rA [(6,.r (.one (.sl 10 (appL b f.toNat e.toNat (b.length-e.toNat)).length (Zaj Zaa.c Zaa.d (appL b f.toNat e.toNat (b.length-e.toNat))))) [])])<|kX 5 (rA [(5,.c (ZdA (appL b f.toNat e.toNat (b.length-e.toNat)) (0+(((f.toNat+(b.length-e.toNat)):Nat):Int).toNat) ((b.length:Int).toNat-(((f.toNat+(b.length-e.toNat)):Nat):Int).toNat) Zaa.d).length (Zaj Zaa.c Zaa.d (ZdA (appL b f.toNat e.toNat (b.length-e.toNat)) (0+(((f.toNat+(b.length-e.toNat)):Nat):Int).toNat) ((b.length:Int).toNat-(((f.toNat+(b.length-e.toNat)):Nat):Int).toNat) Zaa.d)))])<|kX 6 (rA [(1,.c ((ZdA (appL b f.toNat e.toNat (b.length-e.toNat)) (0+(((f.toNat+(b.length-e.toNat)):Nat):Int).toNat) ((b.length:Int).toNat-(((f.toNat+(b.length-e.toNat)):Nat):Int).toNat) Zaa.d).take (f.toNat+(b.length-e.toNat))).length (Zaj Zaa.c Zaa.d ((ZdA (appL b f.toNat e.toNat (b.length-e.toNat)) (0+(((f.toNat+(b.length-e.toNat)):Nat):Int).toNat) ((b.length:Int).toNat-(((f.toNat+(b.length-e.toNat)):Nat):Int).toNat) Zaa.d).take (f.toNat+(b.length-e.toNat)))))])<|kRH ⟨[],[],[],[],[],[6],[6],[(6,99999)]⟩ none))
def ZiM(d:List Zaa)(e:Zah):Option ((List Zaa)×Int):=(ZeO d e).bind fun b=>bif(decide (b<(0:Int)))then some (([]:(List Zaa)),(6:Int))else(Zav d).bind fun f=>(Zdd f b (Zan b 1)).bind fun g=>some (g,(0:Int))
instance ZJd{b e}:Con (ZiM b e) (eS 114 [Ym b,.agg (Zah.c e)] fun r=>.tup [(false,(cLs 10 Zaa.c Zaa.d) r.1),(false,(cI .i64) r.2)]):=kS Tryz.func114 (kC fun _=>kB (kR [] [] [(4,[(0,cL 10 Zaa.c Zaa.d [])])]) (kD 3 1 [] [(99999,13)] fun _=>kD 3 5 [(100000,13)] [(99999,17)] fun _=>kR [17] [] []))
def ZhV(e:Zap):Option (Zal×Zap):=(Zdg e).bind fun b=>bif(decide (b.1>(0:Int)))then some ((Zal.mk 8 (Zah.mk (Zaf.mk false 0 0) 0) 0 b.1 ([]:(List Zaa))),b.2)else(ZeO b.2.fs.fPeers b.2.fx.fEnd).bind fun f=>bif(decide (f>=(0:Int)))then(ZbE (7:Int)).bind fun g=>some (g,b.2)else(ZhL b.2.fs.fPeers true).bind fun h=>bif(decide (h<b.2.fc.fMaxIn))then(ZdQ b.2 true).bind fun i=>some ((Zal.mk 0 (Zah.mk (Zaf.mk false 0 0) 0) 0 0 ([]:(List Zaa))),i)else(Zim b.2.fs.fPeers b.2.fc.fQuota b.2.fc.fSecret).bind fun d=>bif(!d.2)then(ZbE (5:Int)).bind fun j=>some (j,b.2)else(ZiM b.2.fs.fPeers d.1).bind fun n=>(ZdQ (Zap.mk b.2.fc (Zak.mk b.2.fs.fBans b.2.fs.fBook n.1) b.2.fx) true).bind fun o=>some ((Zal.mk 0 d.1 1 0 ([]:(List Zaa))),o)
instance Zzl{b}:ConH (ZhV b) (eH 48 [(100000,.box (Zap.c b))] [.one (.ptr 100000 0)] (fun r=>[(100000,.box (Zap.c r.2))]) fun r=>(.agg (Zal.c r.1))):=kHC Tryz.func48 (kD 1 1 [(100000,100000)] [] fun _=>kB (kRH ⟨[],[(2,[(7,cL 10 Zaa.c Zaa.d [])])],[],[],[],[2],[2,100000],[]⟩ (some [100000])) (kC fun _=>kB (kC fun _=>kRH ⟨[],[],[],[],[],[2],[2,100000],[]⟩ (some [100000])) (kC fun _=>kB (kD 5 1 [(100000,100000)] [] fun _=>kRH ⟨[],[(2,[(7,cL 10 Zaa.c Zaa.d [])])],[],[],[],[2],[2,100000],[]⟩ (some [100000])) (kC fun _=>kB (kC fun _=>kRH ⟨[],[],[],[],[],[2],[2,100000],[]⟩ (some [100000])) (kC fun _=>kD 8 1 [(100000,100000)] [] fun _=>kRH ⟨[],[(2,[(7,cL 10 Zaa.c Zaa.d [])])],[],[],[],[2],[2,100000],[]⟩ (some [100000]))))))
def Zcg(b:List Zab):Option (List Zab):=need (0<b.length)<|need ((([]:List Zab)++b).length * 56<=140737488355328/\(([]:List Zab)++b).length<=maxLen)<|some (([]:List Zab)++b)
theorem Zfa(b r:List Zab)(f:Zcg b=some r):Yp 171 [] [Yn b] [(mM 99999 80 7 Zab.c Zab.d r)] (.one (.osl 99999 r.length)):=by
 refine ZdB.of Tryz.func171 rfl rfl rfl rfl fun S0 w0=>?_;unfold Zcg at f;obtain⟨o1,g,f⟩:=Ys f;apply Yc f 9 [rz,rz,rA [(0,.c ([]:List Zab).length (Zaj Zab.c Zab.d ([]:List Zab))),(2,.c ((([]:List Zab)++b).length) (Zaj Zab.c Zab.d (([]:List Zab)++b)))]] [false] (mL [2] [7] [(7,99999)]) (mY o1 (nt false) (show ([]:List Zab).length=0 from rfl) (nu (e:=Zab.c) Zab.d 7 (fun _=>rfl) ([]:List Zab)) (ZqB (sz:=7) (e:=Zab.c) (d:=Zab.d) ([]:List Zab) b) g.1 g.2)
theorem Zfw(x:Addr)(cap:Nat)(c:Nat->Nat->C):Yp 171 [] [.one (.lit (.slice (some x) 0 cap))] [(99999,.rows 80 7 0 c)] (.one (.osl 99999 0)):=by
 refine ZdB.of Tryz.func171 rfl rfl rfl rfl fun S0 w0=>?_;exact ZhH ZsE 9 _ _ [⟨[],[],[],[],[],[],[]⟩,⟨[(1,.r (Yk false) [])],[],[],[],[],[],[]⟩,⟨[(0,.c 0 c),(2,.c 0 c)],[],[],[],[],[],[]⟩] [false] (mL [2] [7] [(7,99999)])
  [∀w,(do eqGuard .eql 31 (.tmp 3) (.const (.slice none 0 0)) (.slice (some x) 0 cap) (.slice none 0 0);binOp .eql 31 (.slice (some x) 0 cap) (.slice none 0 0):Sem Value).run Tryz.prog w=.ok (.bool false) w,false=false,0=0,∀i j,i<0->j<7->c i j=([]:List C).getD (i * 7+j) .junk,Ext 7 0 0 c (fun _ _=>.junk) 0 c,0 * 56<=140737488355328,0<=maxLen] (by kernel_rfl) ⟨fun w=>by
   have hg:(eqGuard .eql 31 (.tmp 3) (.const (.slice none 0 0)) (.slice (some x) 0 cap) (.slice none 0 0)).run Tryz.prog w=.ok () w:=by simp[eqGuard]
   rw[Sem.run_bind,hg,Result.andThen_ok];exact Go.run_eql_slice_nil w _ _ (some x) 0 cap Tryz.underlying31,rfl,rfl,fun i j h=>absurd h (Nat.not_lt_zero i),⟨rfl,fun _ _ h=>absurd h (Nat.not_lt_zero _),fun _ _ h=>absurd h (Nat.not_lt_zero _)⟩,by decide,by decide,trivial⟩
theorem Zfv(cap:Nat)(c:Nat->Nat->C):Yp 171 [] [.one (.lit (.slice none 0 cap))] [(99999,.rows 80 7 0 c)] (.one (.osl 99999 0)):=by
 refine ZdB.of Tryz.func171 rfl rfl rfl rfl fun S0 w0=>?_;exact ZhH ZsE 8 _ _ [⟨[],[],[],[],[],[],[]⟩,⟨[(1,.r (Yk true) [])],[],[],[],[],[],[]⟩,⟨[],[],[],[],[],[],[]⟩] [true] ⟨[],[],[],[],[(2,99999,80,7,c)],[2],[99999],[]⟩
  [∀w,(do eqGuard .eql 31 (.tmp 3) (.const (.slice none 0 0)) (.slice none 0 cap) (.slice none 0 0);binOp .eql 31 (.slice none 0 cap) (.slice none 0 0):Sem Value).run Tryz.prog w=.ok (.bool true) w,true=true] (by kernel_rfl) ⟨fun w=>by
   have hg:(eqGuard .eql 31 (.tmp 3) (.const (.slice none 0 0)) (.slice none 0 cap) (.slice none 0 0)).run Tryz.prog w=.ok () w:=by simp[eqGuard]
   rw[Sem.run_bind,hg,Result.andThen_ok];exact Go.run_eql_slice_nil w _ _ none 0 cap Tryz.underlying31,rfl,trivial⟩
def ZaB(b:List Zab):Option (List Zab):=need (b.length * 56<=140737488355328/\b.length<=maxLen)<|some b
theorem Zfu(b r:List Zab)(e:ZaB b=some r):Yp 171 [] [Yn b] [(99999,.rows 80 7 r.length (Zaj Zab.c Zab.d r))] (.one (.osl 99999 r.length)):=by
 obtain⟨o1,e⟩:=ZdI e;cases e;refine ZoC ⟨_,Tryz.func171,rfl,rfl⟩ (fun h cap=>?_) (fun h x cap=>?_) (fun h=>?_)
 .rw[h];exact Zfv cap _
 .rw[h];exact Zfw x cap _
 .refine Zfa b b ?_;unfold Zcg;rw[Znd h,Znd (by simpa using o1)];simp
instance ZlQ (b:List Zab):ConH (ZaB b) (eH 171 [] [Yn b] (fun(r:List Zab)=>[(99999,.rows 80 7 r.length (Zaj Zab.c Zab.d r))]) m6):=ConH.of fun r e=>Zfu b r e
def Zcd(e:List Zah):Nat->Int->Int->Zah->Option Int|0,_,_,_=>none|fu+1,f,b,g=>bif(decide (b<f))then need (0<=b/\b<(e.length:Int))<|bif(decide (g=(e.getD b.toNat Zah.d)))then some b else Zcd e fu f (Zan b 1) g else some (-1:Int)
theorem ZjR{g}:∀{e h f b},LS z Tryz.f216 [1,0,1,0] (Zcd g e h f b) Yj ⟨[(0,.one (cL 4 Zah.c Zah.d g)),(3,.one (.ptr 3 0)),(7,(Yj h)),(8,(Yj f))],[(3,.box (Zah.c b))]⟩:=by
 intro e;induction e with
 |zero=>exact kZ
 |succ e i=>intro h f b;exact kB (kN<|kQ 2 5 (Zmm b (g.getD f.toNat Zah.d) (.tmp 11) (.tmp 15))<|kB kR0 (kL 17 i)) kR0
def ZeR(b:List Zah)(d:Zah):Option Int:=Zcd b (((b.length:Int)-(0:Int)).toNat+2) (b.length:Int) (0:Int) d
instance ZrY{b e}:Con (ZeR b e) (eS 216 [.one (cL 4 Zah.c Zah.d b),.agg (Zah.c e)] Yj):=kS Tryz.func216 (kL 6 ZjR)
def Zdf(b:List Zah)(d:Zah):Option Bool:=(ZeR b d).bind fun e=>some (decide (e>=(0:Int)))
instance Zqn{b e}:Con (Zdf b e) (eS 172 [.one (cL 4 Zah.c Zah.d b),.agg (Zah.c e)] Yk):=kS Tryz.func172 (kC fun _=>kR0)
def ZlH(b:Zab):Option Zab:=some (Zab.mk b.fEnd 1 b.fFails b.fNext)
instance ZJn{b}:Con (ZlH b) (eS 121 [.agg (Zab.c b)] (mR Zab.c)):=kS Tryz.func121 (kR0)
def ZfI(g:List Zah):Nat->Int->Int->(List Zab)->Option (List Zab)|0,_,_,_=>none|fu+1,e,b,f=>bif(decide (b<e))then need (0<=b/\b<(f.length:Int))<|bif((f.getD b.toNat Zab.d).fState==(3:Int))then(Zdf g ((f.getD b.toNat Zab.d).fEnd)).bind fun h=>bif h then(ZlH (f.getD b.toNat Zab.d)).bind fun i=>ZfI g fu e (Zan b 1) (f.set b.toNat i)else ZfI g fu e (Zan b 1) f else ZfI g fu e (Zan b 1) f else some f
theorem Zsv{n}:∀{g f b e},LH z Tryz.f115 [1,1,0,1,0] (ZfI n g f b e) (mN 99999 80 7 Zab.c Zab.d) m6 ⟨[(1,.one (cL 4 Zah.c Zah.d n)),(5,.one (.osl 9 e.length)),(10,.one (.osl 9 e.length)),(11,(Yj f)),(12,(Yj b))],[(mM 9 80 7 Zab.c Zab.d e)]⟩:=by
 intro g;induction g with
 |zero=>exact kZ
 |succ g i=>intro f b e;exact kB (kNq fun j=>kH (ltOf j)<|kB (kC fun _=>kB (kC fun h=>kH j<|kW 3 5 Zab.E e b.toNat h (ltOf j)<|kH (nt ((e.set b.toNat h).length))<|kLx 17 [] [] [] [(9,((e.set b.toNat h).length))] [] [] i) (kL 17 i)) (kK false<|kL 17 i)) (kRH (mL [4] [9] [(9,99999)]) none)
def Zlo(d:List Zab)(e:List Zah):Option (List Zab):=(ZaB d).bind fun b=>ZfI e (((b.length:Int)-(0:Int)).toNat+2) (b.length:Int) (0:Int) b
instance ZLc{b e}:ConH (Zlo b e) (eH 115 [] [Yn b,.one (cL 4 Zah.c Zah.d e)] (fun r=>[(99999,.rows 80 7 r.length (Zaj Zab.c Zab.d r))]) m6):=kHC Tryz.func115 (kD 1 1 [] [(99999,9)] fun _=>kL 8 Zsv)
instance ZKP{b e}:Con (Zlo b e) (eS 115 [Yn b,.one (cL 4 Zah.c Zah.d e)] Yn):=Con.of fun r h=>(show ZdB _ _ _ _ _ _ from ConH.ok h).pure
def ZiB(b:Zap):Option (Zal×Zap):=(ZiM b.fs.fPeers b.fx.fEnd).bind fun d=>bif(d.2 != (0:Int))then(ZbE d.2).bind fun e=>some (e,b)else(Zlo b.fs.fBook ([b.fx.fEnd]:List Zah)).bind fun f=>some ((Zal.mk 0 (Zah.mk (Zaf.mk false 0 0) 0) 0 0 ([]:(List Zaa))),(Zap.mk b.fc (Zak.mk b.fs.fBans f d.1) b.fx))
instance ZAo{b}:ConH (ZiB b) (eH 49 [(100000,.box (Zap.c b))] [.one (.ptr 100000 0)] (fun r=>[(100000,.box (Zap.c r.2))]) fun r=>(.agg (Zal.c r.1))):=kHC Tryz.func49 (kC fun _=>kB (kC fun _=>kRH ⟨[],[],[],[],[],[2],[2,100000],[]⟩ (some [100000])) (kM 3 13 Zah.E ([b.fx.fEnd]:List Zah)<|kC fun _=>kRH ⟨[],[(2,[(7,cL 10 Zaa.c Zaa.d [])])],[],[],[],[2],[2,100000],[]⟩ (some [100000])))
def Zgc(f:Int):Nat->Int->(List Zab)->Int->Int->Option Int|0,_,_,_,_=>none|fu+1,g,e,h,b=>bif(decide (b<h))then need (0<=b/\b<(e.length:Int))<|bif((e.getD b.toNat Zab.d).fState==f)then Zgc f fu (Zan g 1) e h (Zan b 1)else Zgc f fu g e h (Zan b 1)else some g
theorem ZrA{e}:∀{d f g h b},LS z Tryz.f102 [1,1,0,1,0] (Zgc e d f g h b) Yj ⟨[(1,(Yj e)),(5,(Yj f)),(8,(Yn g)),(9,(Yj h)),(10,(Yj b))],[]⟩:=by
 intro d;induction d with
 |zero=>exact kZ
 |succ d i=>exact kB (kN<|kB (kL 17 i) (kL 17 i)) kR0
def ZlM(b:List Zab)(d:Int):Option Int:=Zgc d (((b.length:Int)-(0:Int)).toNat+2) (0:Int) b (b.length:Int) (0:Int)
instance ZJy{b d}:Con (ZlM b d) (eS 102 [Yn b,Yj d] Yj):=kS Tryz.func102 (kL 8 ZrA)
def ZiO(b:Zak):Option Int:=(ZhL b.fPeers false).bind fun d=>(ZlM b.fBook (2:Int)).bind fun e=>some (Zan d e)
instance ZED{b}:Con (ZiO b) (eS 37 [.agg (Zak.c b)] Yj):=kS Tryz.func37 (kC fun _=>kC fun _=>kR0)
def Zor(b:Zab)(d:Int):Option Bool:=bif(b.fState==(1:Int))then some (decide (b.fNext<=d))else some false
instance ZKG{b d}:Con (Zor b d) (eS 175 [.agg (Zab.c b),Yj d] Yk):=kS Tryz.func175 (kB kR0 kR0)
def ZhW(b:Zab):Option Bool:=bif(decide (b.fState>=(1:Int)))then(ZiP b.fEnd).bind fun d=>bif d then bif(decide (b.fState<=(3:Int)))then bif(decide (b.fFails>=(0:Int)))then bif(decide (b.fFails<=(1000:Int)))then(ZdU b.fNext).bind fun e=>some (b.fNext==e)else some false else some false else some false else some false else(ZiP b.fEnd).bind fun f=>bif f then some false else some false
instance ZHq{b}:Con (ZhW b) (eS 98 [.agg (Zab.c b)] Yk):=kS Tryz.func98 (kB (kC fun _=>kB (kB (kB (kB (kC fun _=>kR0) kR0) (kK false<|kR0)) (kK false<|kK false<|kR0)) (kK false<|kK false<|kK false<|kR0)) (kC fun _=>kB (kK false<|kK false<|kK false<|kR0) (kK false<|kK false<|kK false<|kR0)))
def Zcf(b:List Zag):Option (List Zag):=need (0<b.length)<|need ((([]:List Zag)++b).length * 40<=140737488355328/\(([]:List Zag)++b).length<=maxLen)<|some (([]:List Zag)++b)
theorem ZeZ(b r:List Zag)(f:Zcf b=some r):Yp 218 [] [Yo b] [(mM 99999 191 5 Zag.c Zag.d r)] (.one (.osl 99999 r.length)):=by
 refine ZdB.of Tryz.func218 rfl rfl rfl rfl fun S0 w0=>?_;unfold Zcf at f;obtain⟨o1,g,f⟩:=Ys f;apply Yc f 9 [rz,rz,rA [(0,.c ([]:List Zag).length (Zaj Zag.c Zag.d ([]:List Zag))),(2,.c ((([]:List Zag)++b).length) (Zaj Zag.c Zag.d (([]:List Zag)++b)))]] [false] (mL [2] [7] [(7,99999)]) (mY o1 (nt false) (show ([]:List Zag).length=0 from rfl) (nu (e:=Zag.c) Zag.d 5 (fun _=>rfl) ([]:List Zag)) (ZqB (sz:=5) (e:=Zag.c) (d:=Zag.d) ([]:List Zag) b) g.1 g.2)
theorem Zfs(x:Addr)(cap:Nat)(c:Nat->Nat->C):Yp 218 [] [.one (.lit (.slice (some x) 0 cap))] [(99999,.rows 191 5 0 c)] (.one (.osl 99999 0)):=by
 refine ZdB.of Tryz.func218 rfl rfl rfl rfl fun S0 w0=>?_;exact ZhH ZsE 9 _ _ [⟨[],[],[],[],[],[],[]⟩,⟨[(1,.r (Yk false) [])],[],[],[],[],[],[]⟩,⟨[(0,.c 0 c),(2,.c 0 c)],[],[],[],[],[],[]⟩] [false] (mL [2] [7] [(7,99999)])
  [∀w,(do eqGuard .eql 187 (.tmp 3) (.const (.slice none 0 0)) (.slice (some x) 0 cap) (.slice none 0 0);binOp .eql 187 (.slice (some x) 0 cap) (.slice none 0 0):Sem Value).run Tryz.prog w=.ok (.bool false) w,false=false,0=0,∀i j,i<0->j<5->c i j=([]:List C).getD (i * 5+j) .junk,Ext 5 0 0 c (fun _ _=>.junk) 0 c,0 * 40<=140737488355328,0<=maxLen] (by kernel_rfl) ⟨fun w=>by
   have hg:(eqGuard .eql 187 (.tmp 3) (.const (.slice none 0 0)) (.slice (some x) 0 cap) (.slice none 0 0)).run Tryz.prog w=.ok () w:=by simp[eqGuard]
   rw[Sem.run_bind,hg,Result.andThen_ok];exact Go.run_eql_slice_nil w _ _ (some x) 0 cap Tryz.underlying187,rfl,rfl,fun i j h=>absurd h (Nat.not_lt_zero i),⟨rfl,fun _ _ h=>absurd h (Nat.not_lt_zero _),fun _ _ h=>absurd h (Nat.not_lt_zero _)⟩,by decide,by decide,trivial⟩
theorem Zfr(cap:Nat)(c:Nat->Nat->C):Yp 218 [] [.one (.lit (.slice none 0 cap))] [(99999,.rows 191 5 0 c)] (.one (.osl 99999 0)):=by
 refine ZdB.of Tryz.func218 rfl rfl rfl rfl fun S0 w0=>?_;exact ZhH ZsE 8 _ _ [⟨[],[],[],[],[],[],[]⟩,⟨[(1,.r (Yk true) [])],[],[],[],[],[],[]⟩,⟨[],[],[],[],[],[],[]⟩] [true] ⟨[],[],[],[],[(2,99999,191,5,c)],[2],[99999],[]⟩
  [∀w,(do eqGuard .eql 187 (.tmp 3) (.const (.slice none 0 0)) (.slice none 0 cap) (.slice none 0 0);binOp .eql 187 (.slice none 0 cap) (.slice none 0 0):Sem Value).run Tryz.prog w=.ok (.bool true) w,true=true] (by kernel_rfl) ⟨fun w=>by
   have hg:(eqGuard .eql 187 (.tmp 3) (.const (.slice none 0 0)) (.slice none 0 cap) (.slice none 0 0)).run Tryz.prog w=.ok () w:=by simp[eqGuard]
   rw[Sem.run_bind,hg,Result.andThen_ok];exact Go.run_eql_slice_nil w _ _ none 0 cap Tryz.underlying187,rfl,trivial⟩
def ZaQ(b:List Zag):Option (List Zag):=need (b.length * 40<=140737488355328/\b.length<=maxLen)<|some b
theorem Zfq(b r:List Zag)(e:ZaQ b=some r):Yp 218 [] [Yo b] [(99999,.rows 191 5 r.length (Zaj Zag.c Zag.d r))] (.one (.osl 99999 r.length)):=by
 obtain⟨o1,e⟩:=ZdI e;cases e;refine ZoC ⟨_,Tryz.func218,rfl,rfl⟩ (fun h cap=>?_) (fun h x cap=>?_) (fun h=>?_)
 .rw[h];exact Zfr cap _
 .rw[h];exact Zfs x cap _
 .refine ZeZ b b ?_;unfold Zcf;rw[Znd h,Znd (by simpa using o1)];simp
instance ZlP (b:List Zag):ConH (ZaQ b) (eH 218 [] [Yo b] (fun(r:List Zag)=>[(99999,.rows 191 5 r.length (Zaj Zag.c Zag.d r))]) m6):=ConH.of fun r e=>Zfq b r e
def Znf(b d:Zag):Option Int:=(Zcq b.fKey d.fKey).bind fun e=>(ZeM b.fEnd d.fEnd).bind fun f=>(Zev ([e,f]:List Int)).bind fun g=>some g
instance ZJg{b d}:Con (Znf b d) (eS 274 [.agg (Zag.c b),.agg (Zag.c d)] Yj):=kS Tryz.func274 (kC fun e=>kC fun f=>kM 1 10 (eI .i64) ([e,f]:List Int)<|kC fun _=>kR0)
def Zng(b d:Zag):Option Bool:=(Znf b d).bind fun e=>some (decide (e<(0:Int)))
instance ZJh{b d}:Con (Zng b d) (eS 255 [.agg (Zag.c b),.agg (Zag.c d)] Yk):=kS Tryz.func255 (kC fun _=>kR0)
def ZdJ(f:Int)(aV:Int->(List Zag)->Option (List Zag)):Nat->Int->Int->(List Zag)->Option (List Zag)|0,_,_,_=>none|fu+1,e,g,b=>bif(decide (g<=(Zan (ZhI (2:Int) f) (2:Int))))then bif(decide (g<(b.length:Int)))then need (0<=g/\g<(b.length:Int))<|need (0<=e/\e<(b.length:Int))<|(Zng (b.getD g.toNat Zag.d) (b.getD e.toNat Zag.d)).bind fun h=>bif h then ZdJ f aV fu g (Zan g 1) b else ZdJ f aV fu e (Zan g 1) b else bif(e==f)then some b else need (0<=e/\e<(b.length:Int))<|need (0<=f/\f<(b.length:Int))<|aV e ((b.set f.toNat (b.getD e.toNat Zag.d)).set e.toNat (b.getD f.toNat Zag.d))else bif(e==f)then some b else need (0<=e/\e<(b.length:Int))<|need (0<=f/\f<(b.length:Int))<|aV e ((b.set f.toNat (b.getD e.toNat Zag.d)).set e.toNat (b.getD f.toNat Zag.d))
theorem Zsq{g:Int}{aV:Int->(List Zag)->Option (List Zag)}(bR:∀{j e},LH z Tryz.f219 [0] (aV j e) (mN 100000 191 5 Zag.c Zag.d) (fun r=>(.tup [])) ⟨[(0,.one (.osl 100000 e.length)),(1,(Yj j))],[(mM 100000 191 5 Zag.c Zag.d e)]⟩):∀{n f o b},LH z Tryz.f219 [0,0,0,1,0,1,0] (ZdJ g aV n f o b) (mN 100000 191 5 Zag.c Zag.d) (fun r=>(.tup [])) ⟨[(0,.one (.osl 100000 b.length)),(1,(Yj g)),(4,(Yj f)),(5,(Yj o))],[(mM 100000 191 5 Zag.c Zag.d b)]⟩:=by
 intro n;induction n with
 |zero=>exact kZ
 |succ n u=>intro f o b;exact kB (kB (kNq fun v=>kH (ltOf v)<|kNq fun y=>kH (ltOf y)<|kC fun _=>kB (kL 15 u) (kL 15 u)) (kB (kRH (mJ [] [100000]) (some [100000])) (kNq fun p=>kH (ltOf p)<|kNq fun t=>kH (ltOf t)<|kH t<|kW 2 13 Zag.E b g.toNat (b.getD f.toNat Zag.d) (ltOf t)<|kH p<|kW 2 15 Zag.E (b.set g.toNat (b.getD f.toNat Zag.d)) f.toNat (b.getD g.toNat Zag.d) (by have:=ltOf p;simp at this ⊢;omega)<|kH (nt (((b.set g.toNat (b.getD f.toNat Zag.d)).set f.toNat (b.getD g.toNat Zag.d)).length))<|kLx 16 [] [] [] [(100000,(((b.set g.toNat (b.getD f.toNat Zag.d)).set f.toNat (b.getD g.toNat Zag.d)).length))] [] [] bR))) (kK false<|kB (kRH (mJ [] [100000]) (some [100000])) (kNq fun h=>kH (ltOf h)<|kNq fun i=>kH (ltOf i)<|kH i<|kW 2 13 Zag.E b g.toNat (b.getD f.toNat Zag.d) (ltOf i)<|kH h<|kW 2 15 Zag.E (b.set g.toNat (b.getD f.toNat Zag.d)) f.toNat (b.getD g.toNat Zag.d) (by have:=ltOf h;simp at this ⊢;omega)<|kH (nt (((b.set g.toNat (b.getD f.toNat Zag.d)).set f.toNat (b.getD g.toNat Zag.d)).length))<|kLx 16 [] [] [] [(100000,(((b.set g.toNat (b.getD f.toNat Zag.d)).set f.toNat (b.getD g.toNat Zag.d)).length))] [] [] bR))
def ZgT:Nat->Int->(List Zag)->Option (List Zag)|0,_,_=>none|fu+1,d,b=>ZdJ d (ZgT fu) (((b.length:Int)-(Zan (ZhI (2:Int) d) (1:Int))).toNat+2) d (Zan (ZhI (2:Int) d) (1:Int)) b
theorem Zsr:∀{e f b},LH z Tryz.f219 [0] (ZgT e f b) (mN 100000 191 5 Zag.c Zag.d) (fun r=>(.tup [])) ⟨[(0,.one (.osl 100000 b.length)),(1,(Yj f))],[(mM 100000 191 5 Zag.c Zag.d b)]⟩:=by
 intro e;induction e with
 |zero=>exact kZ
 |succ e g=>exact kL 8 (Zsq g)
def Zll(b:List Zag)(d:Int):Option (List Zag):=ZgT 1000000 d b
instance ZLa{b e}:ConH (Zll b e) (eH 219 [(100000,.rows 191 5 b.length (Zaj Zag.c Zag.d b))] [.one (.osl 100000 b.length),Yj e] (fun r=>[(100000,.rows 191 5 r.length (Zaj Zag.c Zag.d r))]) fun r=>(.tup [])):=kHC Tryz.func219 (kL 1 Zsr)
def ZjS:Nat->Int->(List Zag)->Option (List Zag)|0,_,_=>none|fu+1,b,d=>bif(decide (b>=(0:Int)))then(Zll d b).bind fun e=>ZjS fu (Zaz b (1:Int)) e else some d
theorem Zss:∀{b g e},LH z Tryz.f217 [1,1,0,1,0] (ZjS b g e) (mN 99999 191 5 Zag.c Zag.d) m6 ⟨[(3,.one (.osl 6 e.length)),(4,(Yj g))],[(mM 6 191 5 Zag.c Zag.d e)]⟩:=by
 intro b;induction b with
 |zero=>exact kZ
 |succ b h=>exact kB (kD 1 2 [(100000,6)] [] fun f=>kH (nt f.length)<|kLx 12 [] [] [] [(6,f.length)] [] [] h) (kRH (mL [2] [6] [(6,99999)]) none)
def Zkl(d:List Zag):Option (List Zag):=(ZaQ d).bind fun b=>ZjS (((Zaz (IntKind.wrap .i64 (Int.tdiv (b.length:Int) (2:Int))) (1:Int))-(0:Int)).toNat+2) (Zaz (IntKind.wrap .i64 (Int.tdiv (b.length:Int) (2:Int))) (1:Int)) b
instance ZLb{b}:ConH (Zkl b) (eH 217 [] [Yo b] (fun r=>[(99999,.rows 191 5 r.length (Zaj Zag.c Zag.d r))]) m6):=kHC Tryz.func217 (kD 1 1 [] [(99999,6)] fun _=>kH (show (2:Int)≠0 from(by decide))<|kL 8 Zss)
def Zmt(e:List Zag):Option (Zag×(List Zag)×Bool):=bif((e.length:Int)==(0:Int))then some ((Zag.mk 0 (Zah.mk (Zaf.mk false 0 0) 0)),([]:(List Zag)),false)else(ZaQ e).bind fun b=>need (0<=(Zaz (b.length:Int) (1:Int))/\(Zaz (b.length:Int) (1:Int))<(b.length:Int))<|need (0<=(0:Int)/\(0:Int)<(b.length:Int))<|need (0<=(0:Int)/\(0:Int)<=(Zaz (b.length:Int) (1:Int))/\(Zaz (b.length:Int) (1:Int))<=(b.length:Int))<|need ((Zaz (b.length:Int) (1:Int)).toNat<=(b.set ((0:Int).toNat) (b.getD ((Zaz (b.length:Int) (1:Int)).toNat) Zag.d)).length)<|(Zll ((b.set ((0:Int).toNat) (b.getD ((Zaz (b.length:Int) (1:Int)).toNat) Zag.d)).take ((Zaz (b.length:Int) (1:Int)).toNat)) (0:Int)).bind fun f=>need (0<=(0:Int)/\(0:Int)<(e.length:Int))<|some ((e.getD (0:Int).toNat Zag.d),f,true)
instance ZLP{e}:Con (Zmt e) (eS 176 [Yo e] fun r=>.tup [(true,Zag.c r.1),(false,(cLs 5 Zag.c Zag.d) r.2.1),(false,cB r.2.2)]):=kS Tryz.func176 (kB (kR [] [] [(3,[(0,cL 5 Zag.c Zag.d [])])]) (kD 2 1 [] [(99999,12)] fun b=>kNq fun f=>kH (ltOf f)<|kNq fun g=>kW 4 6 Zag.E b ((0:Int).toNat) (b.getD ((Zaz (b.length:Int) (1:Int)).toNat) Zag.d) (ltOf g)<|kN<|kH (show 0=0 from rfl)<|kNm fun h=>kH (show ((b.set ((0:Int).toNat) (b.getD ((Zaz (b.length:Int) (1:Int)).toNat) Zag.d)).take ((Zaz (b.length:Int) (1:Int)).toNat)).length=(Zaz (b.length:Int) (1:Int)).toNat from(ZtG _ _ h))<|kH (show ∀i j,i<(Zaz (b.length:Int) (1:Int)).toNat->j<5->Zaj Zag.c Zag.d ((b.set ((0:Int).toNat) (b.getD ((Zaz (b.length:Int) (1:Int)).toNat) Zag.d)).take ((Zaz (b.length:Int) (1:Int)).toNat)) i j=Zaj Zag.c Zag.d (b.set ((0:Int).toNat) (b.getD ((Zaz (b.length:Int) (1:Int)).toNat) Zag.d)) i j from(ZqU _ _))<|kD 6 1 [(100000,5)] [] fun _=>kN<|kX 5 (rA [(3,.c ((b.set ((0:Int).toNat) (b.getD ((Zaz (b.length:Int) (1:Int)).toNat) Zag.d)).take ((Zaz (b.length:Int) (1:Int)).toNat)).length (Zaj Zag.c Zag.d ((b.set ((0:Int).toNat) (b.getD ((Zaz (b.length:Int) (1:Int)).toNat) Zag.d)).take ((Zaz (b.length:Int) (1:Int)).toNat))))])<|kR [5] [] []))
def ZdZ:Nat->(List Zaa)->Int->Int->Zah->Option Bool|0,_,_,_,_=>none|fu+1,e,f,b,g=>bif(decide (b<f))then need (0<=b/\b<(e.length:Int))<|bif(decide ((e.getD b.toNat Zaa.d).fEnd=g))then some true else ZdZ fu e f (Zan b 1) g else some false
theorem ZmK:∀{f g h b e},LS z Tryz.f220 [1,0,1,0] (ZdZ f g h b e) Yk ⟨[(3,.one (.ptr 3 0)),(8,(Ym g)),(9,(Yj h)),(10,(Yj b))],[(3,.box (Zah.c e))]⟩:=by
 intro f;induction f with
 |zero=>exact kZ
 |succ f i=>intro g h b e;exact kB (kN<|kQ 2 3 (Zmm ((g.getD b.toNat Zaa.d).fEnd) e (.tmp 15) (.tmp 16))<|kB kR0 (kL 17 i)) kR0
def ZgO(b:ZaC)(d:Zah):Option Bool:=ZdZ (((b.fPeers.length:Int)-(0:Int)).toNat+2) b.fPeers (b.fPeers.length:Int) (0:Int) d
instance Zxh{b d}:Con (ZgO b d) (eS 220 [.agg (ZaC.c b),.agg (Zah.c d)] Yk):=kS Tryz.func220 (kL 6 ZmK)
def ZjU(b d:Zae):Option Int:=(ZjW b.fAddr d.fAddr).bind fun e=>(Zcq b.fBits d.fBits).bind fun f=>(Zev ([e,f]:List Int)).bind fun g=>some g
instance ZFA{b d}:Con (ZjU b d) (eS 97 [.agg (Zae.c b),.agg (Zae.c d)] Yj):=kS Tryz.func97 (kC fun e=>kC fun f=>kM 1 10 (eI .i64) ([e,f]:List Int)<|kC fun _=>kR0)
def cmpN(a b:Zae):Int:=orI (cmpA a.fAddr b.fAddr) (cmpI a.fBits b.fBits)
theorem ZDy(a b:Zae):ZjU a b=some (cmpN a b):=by
 simp only[ZjU,ZDG,ZqI,or2,Option.bind_some,cmpN]
theorem ZIC{a b:Zae}:cmpN a b<0↔cmpA a.fAddr b.fAddr<0\/(a.fAddr=b.fAddr/\a.fBits<b.fBits):=by simp only[cmpN,ZvP,ZsA,ZnR]
theorem ZNn{a b:Zae}:0<cmpN a b↔0<cmpA a.fAddr b.fAddr\/(a.fAddr=b.fAddr/\b.fBits<a.fBits):=by simp only[cmpN,ZvQ,ZsB,ZnR]
theorem ZjX{a b:Zae}:cmpN a b=0↔a=b:=by
 simp only[cmpN,Zti,ZiZ,ZnR];obtain⟨x,p⟩:=a;obtain⟨y,q⟩:=b;simp
theorem Zpo{a b:Zae}:0<cmpN a b↔cmpN b a<0:=by
 rw[ZNn,ZIC,ZzL];constructor<;>rintro (h|⟨d,e⟩)<;>first|exact .inl h|exact .inr ⟨d.symm,e⟩
theorem ZpL{a b c:Zae}(d:cmpN a b<0)(e:cmpN b c<0):cmpN a c<0:=by
 rw[ZIC]at *
 rcases d with d|⟨d,f⟩<;>rcases e with e|⟨e,g⟩
 .exact .inl (Zwo d e)
 .exact .inl (e ▸ d)
 .exact .inl (d ▸ e)
 .exact .inr ⟨d.trans e,by omega⟩
theorem ltN(a b:Zae):Go.Proofs.ltOf cmpN a b=decide (cmpN a b<0):=by
 unfold Go.Proofs.ltOf;rfl
theorem ZDw:Go.Sort.SWO (Go.Proofs.ltOf cmpN) where
 irrefl x:=by rw[ltN];simp[(ZjX (a:=x) (b:=x)).2 rfl]
 trans x y z d e:=by
  rw[ltN,decide_eq_true_eq]at *
  exact ZpL d e
 ntrans x y z d e:=by
  rw[ltN,decide_eq_false_iff_not]at *
  intro h;have e1:cmpN x y=0\/0<cmpN x y:=by omega
  have e2:cmpN y z=0\/0<cmpN y z:=by omega
  rcases e1 with e1|e1
  .rw[ZjX]at e1;subst e1;omega
  .rcases e2 with e2|e2
   .rw[ZjX]at e2;subst e2;omega
   .have f:=ZpL (Zpo.1 e2) (Zpo.1 e1);have g:=Zpo.2 f;omega
theorem ZFd(x y:Zae)(d:Go.Proofs.ltOf cmpN x y=false)(b:Go.Proofs.ltOf cmpN y x=false):x=y:=by
 rw[ltN,decide_eq_false_iff_not]at *
 rw[<-ZjX];have:¬0<cmpN x y:=fun h=>b (Zpo.1 h);omega
def ZbS(ay:Int->(List Zae)->Option (List Zae)):Nat->Int->Nat->Nat->Nat->Int->(List Zae)->Option (List Zae)|0,_,_,_,_,_,_=>none|fu+1,e,vo4,hP,vn4,f,b=>bif(decide (f<((hP:Nat):Int)))then need (0<=f/\f<((hP:Nat):Int))<|need ((vo4+f.toNat)<b.length)<|need (0<=(Zaz f (1:Int))/\(Zaz f (1:Int))<((hP:Nat):Int))<|need ((vo4+(Zaz f (1:Int)).toNat)<b.length)<|bif(!(decide ((b.getD (vo4+f.toNat) Zae.d)=(b.getD (vo4+(Zaz f (1:Int)).toNat) Zae.d))))then need (0<=e/\e<(b.length:Int))<|ZbS ay fu (Zan e 1) vo4 hP vn4 (Zan f 1) (b.set e.toNat (b.getD (vo4+f.toNat) Zae.d))else ZbS ay fu e vo4 hP vn4 (Zan f 1) b else need (0<=e/\e<=(b.length:Int)/\(b.length:Int)<=(b.length:Int))<|need (e.toNat+(b.length-e.toNat)<=b.length)<|need (0<=(0:Int)/\(0:Int)<=e/\e<=(b.length:Int))<|need (e.toNat<=(ZdA b e.toNat (b.length-e.toNat) Zae.d).length)<|some ((ZdA b e.toNat (b.length-e.toNat) Zae.d).take e.toNat)
theorem Zjj{ay:Int->(List Zae)->Option (List Zae)}(ce:∀{n f},LH z Tryz.f277 [1,1,0,1,0] (ay n f) (mN 99999 45 4 Zae.c Zae.d) m6 ⟨[(0,.one (.osl 100000 f.length)),(3,(Yj n))],[(mM 100000 45 4 Zae.c Zae.d f)]⟩):∀{o e vo4 hP vn4 g b},LH z Tryz.f277 [1,1,0,1,0,0,1,0,0,1,0,1,0,1,0] (ZbS ay o e vo4 hP vn4 g b) (mN 99999 45 4 Zae.c Zae.d) m6 ⟨[(0,.one (.osl 100000 b.length)),(3,(Yj e)),(4,.one (.osub 100000 4 vo4 hP vn4)),(5,(Yj g))],[(mM 100000 45 4 Zae.c Zae.d b)]⟩:=by
 intro o;induction o with
 |zero=>exact kZ
 |succ o u=>intro e vo4 hP vn4 g b;exact kB (kNq fun v=>kNq fun y=>kN<|kN<|kQ 1 9 (Zrh (b.getD (vo4+g.toNat) Zae.d) (b.getD (vo4+(Zaz g (1:Int)).toNat) Zae.d) (.tmp 38) (.tmp 43))<|kB (kH v<|kH y<|kNq fun p=>kW 2 7 Zae.E b e.toNat (b.getD (vo4+g.toNat) Zae.d) (ltOf p)<|kH (nt ((b.set e.toNat (b.getD (vo4+g.toNat) Zae.d)).length))<|kLx 17 [] [] [] [(100000,((b.set e.toNat (b.getD (vo4+g.toNat) Zae.d)).length))] [] [] u) (kL 15 u)) (kN<|kNm fun h=>kH (show (ZdA b e.toNat (b.length-e.toNat) Zae.d).length=b.length from(ZnS _ _ _ _ h))<|kH (show ∀i j,i<b.length->j<4->(i<e.toNat\/e.toNat+(b.length-e.toNat)<=i)->Zaj Zae.c Zae.d (ZdA b e.toNat (b.length-e.toNat) Zae.d) i j=Zaj Zae.c Zae.d b i j from(ZuT _ _ _ h))<|kH (show ∀i j,i<(b.length-e.toNat)->j<4->ZpO (([.lit (.bool false),.lit (.int .u64 (0)),.lit (.int .u64 (0)),.lit (.int .i64 (0))]:List C).getD j .junk) (Zaj Zae.c Zae.d (ZdA b e.toNat (b.length-e.toNat) Zae.d) (e.toNat+i) j)from(ZuU _ _ _ h (fun j hj=>.inl rfl)))<|kN<|kH (nt 0)<|kNm fun t=>kH (show ((ZdA b e.toNat (b.length-e.toNat) Zae.d).take e.toNat).length=e.toNat from(ZtG _ _ t))<|kH (show ∀i j,i<e.toNat->j<4->Zaj Zae.c Zae.d ((ZdA b e.toNat (b.length-e.toNat) Zae.d).take e.toNat) i j=Zaj Zae.c Zae.d (ZdA b e.toNat (b.length-e.toNat) Zae.d) i j from(ZqU _ _))<|kX 1 (rA [(3,.c (ZdA b e.toNat (b.length-e.toNat) Zae.d).length (Zaj Zae.c Zae.d (ZdA b e.toNat (b.length-e.toNat) Zae.d)))])<|kX 2 (rA [(3,.c ((ZdA b e.toNat (b.length-e.toNat) Zae.d).take e.toNat).length (Zaj Zae.c Zae.d ((ZdA b e.toNat (b.length-e.toNat) Zae.d).take e.toNat)))])<|kRH (mL [2] [2] [(2,99999)]) none)
def ZbT:Nat->Int->(List Zae)->Option (List Zae)|0,_,_=>none|fu+1,e,b=>bif(decide (e<(b.length:Int)))then need (0<=e/\e<(b.length:Int))<|need (0<=(Zaz e (1:Int))/\(Zaz e (1:Int))<(b.length:Int))<|bif(decide ((b.getD e.toNat Zae.d)=(b.getD ((Zaz e (1:Int)).toNat) Zae.d)))then need (0<=e/\e<=(b.length:Int)/\(b.length:Int)<=(b.length:Int))<|ZbS (ZbT fu) 1000000 e e.toNat (b.length-e.toNat) b.length (1:Int) b else ZbT fu (Zan e 1) b else some b
theorem Zjk:∀{f e b},LH z Tryz.f277 [1,1,0,1,0] (ZbT f e b) (mN 99999 45 4 Zae.c Zae.d) m6 ⟨[(0,.one (.osl 100000 b.length)),(3,(Yj e))],[(mM 100000 45 4 Zae.c Zae.d b)]⟩:=by
 intro f;induction f with
 |zero=>exact kZ
 |succ f g=>intro e b;exact kB (kNq fun h=>kH (ltOf h)<|kNq fun i=>kH (ltOf i)<|kQ 1 9 (Zjr (b.getD e.toNat Zae.d) (b.getD ((Zaz e (1:Int)).toNat) Zae.d) (.tmp 19) (.tmp 24))<|kB (kN<|kL 17 (Zjj g)) (kL 15 g)) (kRH (mL [2] [100000] [(100000,99999)]) none)
def ZbJ(b:List Zae):Option (List Zae):=bif(decide ((b.length:Int)<(2:Int)))then some b else ZbT (((b.length:Int)-(1:Int)).toNat+2) (1:Int) b
instance ZqO{b}:ConH (ZbJ b) (eH 277 [(100000,.rows 45 4 b.length (Zaj Zae.c Zae.d b))] [.one (.osl 100000 b.length)] (fun r=>[(99999,.rows 45 4 r.length (Zaj Zae.c Zae.d r))]) m6):=kHC Tryz.func277 (kB (kRH ⟨[],[],[],[],[],[2],[100000],[(100000,99999)]⟩ none) (kL 11 Zjk))
def Zgw(b:List Zae):Option (List Zae):=need (b.length<4611686018427387904)<|some (b.mergeSort fun x y=>!(Go.Proofs.ltOf cmpN) y x)
theorem Zsm(b r:List Zae)(e:Zgw b=some r):Yp 276 [(mM 100000 45 4 Zae.c Zae.d b)] [.one (.osl 100000 b.length),.one (.lit (.func (.func 97) #[] #[]))] [(100000,.rows 45 4 b.length (Zaj Zae.c Zae.d r))] (.tup []):=by
 obtain⟨o1,e⟩:=ZdI e;cases e
 haveI:Inhabited Zae:=⟨Zae.d⟩
 exact ZwC (ρ:=ZtF) (ev:=fun a=>(Zae.c a).map ZNC) ZMp ⟨_,Tryz.func276,rfl,rfl⟩ ⟨_,Tryz.func97,rfl,rfl⟩ (by decide) (fun _=>rfl) (fun _=>rfl)
  (fun x v hv=>List.all_eq_true.1 (show ((Zae.c x).map ZNC).all (fun v=>v.oneCell')=true from rfl) v hv) Tryz.isAgg45 Tryz.sizeOf45 cmpN ZDw ZFd (fun x y=>Con.ok (ZDy x y)) b o1
theorem Zsn(b r:List Zae)(d:Zgw b=some r):r.length=b.length:=by
 obtain⟨o1,d⟩:=ZdI d;cases d;exact List.length_mergeSort b
instance ZBm (b:List Zae):ConH (Zgw b) (eH 276 [(100000,.rows 45 4 b.length (Zaj Zae.c Zae.d b))] [.one (.osl 100000 b.length),.one (.lit (.func (.func 97) #[] #[]))] (fun(r:List Zae)=>[(100000,.rows 45 4 b.length (Zaj Zae.c Zae.d r))]) fun r=>(.tup [])):=ConH.of fun r e=>Zsm b r e
def ZfL(o:List Zab)(g:List Zaa)(h i:Int)(a6:(List Zaa)->Int->Int->(List Zae)->Option (List Zae)):Nat->(List Zab)->Int->Int->(List Zae)->Option (List Zae)|0,_,_,_,_=>none|fu+1,e,f,b,j=>bif(decide (b<f))then need (0<=b/\b<(e.length:Int))<|bif((e.getD b.toNat Zab.d).fState==(2:Int))then(Zgt (((e.getD b.toNat Zab.d).fEnd).fAddr)).bind fun n=>need ((j++([n]:List Zae)).length * 32<=140737488355328/\(j++([n]:List Zae)).length<=maxLen)<|ZfL o g h i a6 fu e f (Zan b 1) (j++([n]:List Zae))else ZfL o g h i a6 fu e f (Zan b 1) j else(Zgw j).bind fun p=>(ZbJ p).bind fun r=>some r
theorem ZpT{B:(List Zab)}{t:(List Zaa)}{u:Int}{v:Int}{a6:(List Zaa)->Int->Int->(List Zae)->Option (List Zae)}(eZ:∀{e f g b},LH z Tryz.f257 [1,1,0,1,0] (a6 e f g b) (mN 99999 45 4 Zae.c Zae.d) m6 ⟨[(1,(Yn B)),(5,.one (.osl 5 b.length)),(10,(Ym e)),(11,(Yj f)),(12,(Yj g))],[(mM 5 45 4 Zae.c Zae.d b)]⟩):∀{p i j n h},LH z Tryz.f257 [1,1,1,0,1,0] (ZfL B t u v a6 p i j n h) (mN 99999 45 4 Zae.c Zae.d) m6 ⟨[(5,.one (.osl 5 h.length)),(27,(Yn i)),(28,(Yj j)),(29,(Yj n))],[(mM 5 45 4 Zae.c Zae.d h)]⟩:=by
 intro p;induction p with
 |zero=>exact kZ
 |succ p C=>intro i j n h;exact kB (kN<|kB (kC fun F=>kM 3 5 Zae.E ([F]:List Zae)<|kA 3 6 Zae.E<|kLr 17 [(42,5)] C) (kL 17 C)) (kDq 1 1 [(100000,5)] [] fun D y=>kE fun o A=>kU [(mM 99999 45 4 Zae.c Zae.d o)] (.one (.osl 99999 o.length)) (show Yp 277 [(100000,.rows 45 4 h.length (Zaj Zae.c Zae.d D))] [.one (.osl 100000 h.length)] [(mM 99999 45 4 Zae.c Zae.d o)] (.one (.osl 99999 o.length))from(by rw[<-(Zsn h D y)];exact(ConH.ok A)))<|kX 2 (rH [] [(1,⟨[(100000,5)],[(99999,47)],[],.one .junk⟩)])<|kRH (mL [4] [47] [(47,99999)]) none)
def ZdT(g:List Zab):Nat->(List Zaa)->Int->Int->(List Zae)->Option (List Zae)|0,_,_,_,_=>none|fu+1,e,f,b,h=>bif(decide (b<f))then need (0<=b/\b<(e.length:Int))<|bif(!(e.getD b.toNat Zaa.d).fIn)then(Zgt (((e.getD b.toNat Zaa.d).fEnd).fAddr)).bind fun i=>need ((h++([i]:List Zae)).length * 32<=140737488355328/\(h++([i]:List Zae)).length<=maxLen)<|ZdT g fu e f (Zan b 1) (h++([i]:List Zae))else ZdT g fu e f (Zan b 1) h else ZfL g e f b (ZdT g fu) (((g.length:Int)-(0:Int)).toNat+2) g (g.length:Int) (0:Int) h
theorem ZpU{j}:∀{g b e f h},LH z Tryz.f257 [1,1,0,1,0] (ZdT j g b e f h) (mN 99999 45 4 Zae.c Zae.d) m6 ⟨[(1,(Yn j)),(5,.one (.osl 5 h.length)),(10,(Ym b)),(11,(Yj e)),(12,(Yj f))],[(mM 5 45 4 Zae.c Zae.d h)]⟩:=by
 intro g;induction g with
 |zero=>exact kZ
 |succ g i=>exact kB (kN<|kB (kC fun n=>kM 3 5 Zae.E ([n]:List Zae)<|kA 3 6 Zae.E<|kLr 17 [(25,5)] i) (kL 17 i)) (kL 10 (ZpT i))
def ZjL(b:List Zaa)(d:List Zab):Option (List Zae):=ZdT d (((b.length:Int)-(0:Int)).toNat+2) b (b.length:Int) (0:Int) ([])
instance ZFE{b e}:ConH (ZjL b e) (eH 257 [] [Ym b,Yn e] (fun r=>[(99999,.rows 45 4 r.length (Zaj Zae.c Zae.d r))]) m6):=kHC Tryz.func257 (kLx 8 [] [] [] [] [(5,5,45,4,Zaj Zae.c Zae.d [])] [] ZpU)
instance ZFt{b e}:Con (ZjL b e) (eS 257 [Ym b,Yn e] fun r=>.one (cL 4 Zae.c Zae.d r)):=Con.of fun r h=>(show ZdB _ _ _ _ _ _ from ConH.ok h).pure
def Zcc(e:List Zae):Nat->Int->Int->Zae->Option Int|0,_,_,_=>none|fu+1,f,b,g=>bif(decide (b<f))then need (0<=b/\b<(e.length:Int))<|bif(decide (g=(e.getD b.toNat Zae.d)))then some b else Zcc e fu f (Zan b 1) g else some (-1:Int)
theorem ZjQ{g}:∀{e h f b},LS z Tryz.f275 [1,0,1,0] (Zcc g e h f b) Yj ⟨[(0,.one (cL 4 Zae.c Zae.d g)),(3,.one (.ptr 3 0)),(7,(Yj h)),(8,(Yj f))],[(3,.box (Zae.c b))]⟩:=by
 intro e;induction e with
 |zero=>exact kZ
 |succ e i=>intro h f b;exact kB (kN<|kQ 2 5 (Zjr b (g.getD f.toNat Zae.d) (.tmp 11) (.tmp 15))<|kB kR0 (kL 17 i)) kR0
def ZeQ(b:List Zae)(d:Zae):Option Int:=Zcc b (((b.length:Int)-(0:Int)).toNat+2) (b.length:Int) (0:Int) d
instance ZrX{b e}:Con (ZeQ b e) (eS 275 [.one (cL 4 Zae.c Zae.d b),.agg (Zae.c e)] Yj):=kS Tryz.func275 (kL 6 ZjQ)
def Zde(b:List Zae)(d:Zae):Option Bool:=(ZeQ b d).bind fun e=>some (decide (e>=(0:Int)))
instance Zqm{b e}:Con (Zde b e) (eS 256 [.one (cL 4 Zae.c Zae.d b),.agg (Zae.c e)] Yk):=kS Tryz.func256 (kC fun _=>kR0)
def Zme(d:List Zaa)(e:List Zab)(b:Zaf):Option Bool:=(ZeW b).bind fun f=>bif f then(ZjL d e).bind fun g=>(Zgt b).bind fun h=>(Zde g h).bind fun i=>some (!i)else some false
instance ZHh{b d e}:Con (Zme b d e) (eS 221 [Ym b,Yn d,.agg (Zaf.c e)] Yk):=kS Tryz.func221 (kC fun _=>kB (kC fun _=>kC fun _=>kC fun _=>kR0) kR0)
def ZdO(b:ZaC)(d:Zah)(e:Int):Option Bool:=(ZgO b d).bind fun f=>bif(!f)then(ZiY b.fBans d.fAddr e).bind fun g=>bif(g==(0:Int))then(Zme b.fPeers b.fBook d.fAddr).bind fun h=>some h else some false else some false
instance ZCZ{b d e}:Con (ZdO b d e) (eS 177 [.agg (ZaC.c b),.agg (Zah.c d),Yj e] Yk):=kS Tryz.func177 (kC fun _=>kB (kC fun _=>kB (kC fun _=>kR0) kR0) (kK false<|kR0))
def Zos(b:Zab)(c0:Int):Option Bool:=(Zor b c0).bind fun d=>some d
instance ZHs{b c0}:Con (Zos b c0) (eS 174 [.agg (Zab.c b),.one (.rp false 1 (fun j=>([.lit (.int .i64 c0)]:List C).getD (0+j) .junk))] Yk):=kS Tryz.func174 (kC fun _=>kR0)
def ZcG(e:Int):Nat->(List Zab)->Int->Int->(List Zag)->Option (List Zag)|0,_,_,_,_=>none|fu+1,f,g,b,h=>bif(decide (b<g))then need (0<=b/\b<(f.length:Int))<|(ZhW (f.getD b.toNat Zab.d)).bind fun i=>bif i then(Zos (f.getD b.toNat Zab.d) e).bind fun j=>bif j then need ((h++([(Zag.mk ((f.getD b.toNat Zab.d).fNext) ((f.getD b.toNat Zab.d).fEnd))]:List Zag)).length * 40<=140737488355328/\(h++([(Zag.mk ((f.getD b.toNat Zab.d).fNext) ((f.getD b.toNat Zab.d).fEnd))]:List Zag)).length<=maxLen)<|ZcG e fu f g (Zan b 1) (h++([(Zag.mk ((f.getD b.toNat Zab.d).fNext) ((f.getD b.toNat Zab.d).fEnd))]:List Zag))else ZcG e fu f g (Zan b 1) h else ZcG e fu f g (Zan b 1) h else(Zkl h).bind fun n=>some n
theorem ZmJ{f}:∀{o h g b n},LH z Tryz.f173 [1,1,0,1,0] (ZcG f o h g b n) (mN 99999 191 5 Zag.c Zag.d) m6 ⟨[(1,.one (mO 174 0 1 [] [mP [.lit (.int .i64 f)]])),(5,.one (.osl 5 n.length)),(9,(Yn h)),(10,(Yj g)),(11,(Yj b))],[(mM 5 191 5 Zag.c Zag.d n)]⟩:=by
 intro o;induction o with
 |zero=>exact kZ
 |succ o p=>intro h g b n;exact kB (kN<|kC fun _=>kB (kC fun _=>kB (kM 3 6 Zag.E ([(Zag.mk ((h.getD b.toNat Zab.d).fNext) ((h.getD b.toNat Zab.d).fEnd))]:List Zag)<|kA 3 7 Zag.E<|kLr 17 [(29,5)] p) (kL 17 p)) (kK false<|kL 17 p)) (kD 1 1 [] [(99999,32)] fun t=>kH (show ∀i j,i<t.length->j<5->∃y,Zaj Zag.c Zag.d t i j=.lit y from(ZwG (sz:=5) (e:=Zag.c) (d:=Zag.d) (fun _=>rfl) (fun _=>rfl) _ _))<|kRH (mL [4] [32] [(32,99999)]) none)
def ZeU(d:ZaC)(b:Int):Option (List Zag):=ZcG b (((d.fBook.length:Int)-(0:Int)).toNat+2) d.fBook (d.fBook.length:Int) (0:Int) ([])
instance Zxl{e b}:ConH (ZeU e b) (eH 173 [] [.agg (ZaC.c e),.one (.clo (.func 174) 0 1 (fun i=>([]:List C).getD i .junk) (fun i=>([.rp false 1 (fun j=>([.lit (.int .i64 b)]:List C).getD (0+j) .junk)]:List C).getD i .junk))] (fun r=>[(99999,.rows 191 5 r.length (Zaj Zag.c Zag.d r))]) m6):=kHC Tryz.func173 (kLx 8 [] [] [] [] [(5,5,191,5,Zaj Zag.c Zag.d [])] [] ZmJ)
instance Zxg{d b}:Con (ZeU d b) (eS 173 [.agg (ZaC.c d),.one (.clo (.func 174) 0 1 (fun i=>([]:List C).getD i .junk) (fun i=>([.rp false 1 (fun j=>([.lit (.int .i64 b)]:List C).getD (0+j) .junk)]:List C).getD i .junk))] Yo):=Con.of fun r h=>(show ZdB _ _ _ _ _ _ from ConH.ok h).pure
def ZjT(d:Int):Nat->(List Zag)->ZaC->Zah->Option (Zah×Bool)|0,_,_,_=>none|fu+1,f,e,g=>(Zmt f).bind fun b=>bif(!b.2.2)then some (b.1.fEnd,b.2.2)else(ZdO e b.1.fEnd d).bind fun h=>bif h then some (b.1.fEnd,b.2.2)else ZjT d fu b.2.1 e g
theorem Zsu{g}:∀{e h f b},LS z Tryz.f116 [1,1,0] (ZjT g e h f b) (fun r=>.tup [(true,Zah.c r.1),(false,cB r.2)]) ⟨[(2,.one (.ptr 2 0)),(3,.one (.rp false 1 (fun j=>([.lit (.int .i64 g)]:List C).getD (0+j) .junk))),(4,.one (.ptr 4 0)),(6,(Yo h))],[(2,.box (ZaC.c f)),(4,.box (Zah.c b))]⟩:=by
 intro e;induction e with
 |zero=>exact kZ
 |succ e i=>exact kC fun _=>kB (kK true<|kR0) (kC fun _=>kB kR0 (kL 12 i))
def Zkt(b:ZaC)(d:Int):Option (Zah×Bool):=(ZeU b d).bind fun e=>ZjT d 1000000 e b (Zah.mk (Zaf.mk false 0 0) 0)
instance ZKI{b d}:Con (Zkt b d) (eS 116 [.agg (ZaC.c b),Yj d] fun r=>.tup [(true,Zah.c r.1),(false,cB r.2)]):=kS Tryz.func116 (kC fun _=>kX 1 ⟨[],[],[(1,[3])],[],[],[],[]⟩<|kL 5 Zsu)
def Zmh(b:Zab)(c0:Int):Option Bool:=bif(b.fState==(1:Int))then some (decide (b.fNext>c0))else some false
instance ZHr{b c0}:Con (Zmh b c0) (eS 178 [.agg (Zab.c b),.one (.rp false 1 (fun j=>([.lit (.int .i64 c0)]:List C).getD (0+j) .junk))] Yk):=kS Tryz.func178 (kB kR0 kR0)
def ZcF(e:Int):Nat->(List Zab)->Int->Int->(List Zag)->Option (List Zag)|0,_,_,_,_=>none|fu+1,f,g,b,h=>bif(decide (b<g))then need (0<=b/\b<(f.length:Int))<|(ZhW (f.getD b.toNat Zab.d)).bind fun i=>bif i then(Zmh (f.getD b.toNat Zab.d) e).bind fun j=>bif j then need ((h++([(Zag.mk ((f.getD b.toNat Zab.d).fNext) ((f.getD b.toNat Zab.d).fEnd))]:List Zag)).length * 40<=140737488355328/\(h++([(Zag.mk ((f.getD b.toNat Zab.d).fNext) ((f.getD b.toNat Zab.d).fEnd))]:List Zag)).length<=maxLen)<|ZcF e fu f g (Zan b 1) (h++([(Zag.mk ((f.getD b.toNat Zab.d).fNext) ((f.getD b.toNat Zab.d).fEnd))]:List Zag))else ZcF e fu f g (Zan b 1) h else ZcF e fu f g (Zan b 1) h else(Zkl h).bind fun n=>some n
theorem ZmI{f}:∀{o h g b n},LH z Tryz.f173 [1,1,0,1,0] (ZcF f o h g b n) (mN 99999 191 5 Zag.c Zag.d) m6 ⟨[(1,.one (mO 178 0 1 [] [mP [.lit (.int .i64 f)]])),(5,.one (.osl 5 n.length)),(9,(Yn h)),(10,(Yj g)),(11,(Yj b))],[(mM 5 191 5 Zag.c Zag.d n)]⟩:=by
 intro o;induction o with
 |zero=>exact kZ
 |succ o p=>intro h g b n;exact kB (kN<|kC fun _=>kB (kC fun _=>kB (kM 3 6 Zag.E ([(Zag.mk ((h.getD b.toNat Zab.d).fNext) ((h.getD b.toNat Zab.d).fEnd))]:List Zag)<|kA 3 7 Zag.E<|kLr 17 [(29,5)] p) (kL 17 p)) (kK false<|kL 17 p)) (kD 1 1 [] [(99999,32)] fun t=>kH (show ∀i j,i<t.length->j<5->∃y,Zaj Zag.c Zag.d t i j=.lit y from(ZwG (sz:=5) (e:=Zag.c) (d:=Zag.d) (fun _=>rfl) (fun _=>rfl) _ _))<|kRH (mL [4] [32] [(32,99999)]) none)
def ZgN(d:ZaC)(b:Int):Option (List Zag):=ZcF b (((d.fBook.length:Int)-(0:Int)).toNat+2) d.fBook (d.fBook.length:Int) (0:Int) ([])
instance Zxk{e b}:ConH (ZgN e b) (eH 173 [] [.agg (ZaC.c e),.one (.clo (.func 178) 0 1 (fun i=>([]:List C).getD i .junk) (fun i=>([.rp false 1 (fun j=>([.lit (.int .i64 b)]:List C).getD (0+j) .junk)]:List C).getD i .junk))] (fun r=>[(99999,.rows 191 5 r.length (Zaj Zag.c Zag.d r))]) m6):=kHC Tryz.func173 (kLx 8 [] [] [] [] [(5,5,191,5,Zaj Zag.c Zag.d [])] [] ZmI)
instance Zxf{d b}:Con (ZgN d b) (eS 173 [.agg (ZaC.c d),.one (.clo (.func 178) 0 1 (fun i=>([]:List C).getD i .junk) (fun i=>([.rp false 1 (fun j=>([.lit (.int .i64 b)]:List C).getD (0+j) .junk)]:List C).getD i .junk))] Yo):=Con.of fun r h=>(show ZdB _ _ _ _ _ _ from ConH.ok h).pure
def Zks(b:ZaC)(d:Int):Option Int:=(ZgN b d).bind fun e=>(Zmt e).bind fun f=>some f.1.fKey
instance ZKH{b d}:Con (Zks b d) (eS 117 [.agg (ZaC.c b),Yj d] Yj):=kS Tryz.func117 (kC fun _=>kC fun _=>kX 1 ⟨[],[],[(1,[3])],[],[],[],[]⟩<|kR0)
def Zov(b:Zab)(c0:Zah):Option Bool:=some (decide (b.fEnd=c0))
instance ZHv{b c0}:Con (Zov b c0) (eS 160 [.agg (Zab.c b),.one (.rp false 4 (fun j=>(Zah.c c0:List C).getD (0+j) .junk))] Yk):=kS Tryz.func160 (kQ 1 3 (Zmm b.fEnd c0 (.tmp 5) (.tmp 6))<|kR0)
def Zbb(f:List Zab)(b:Zah):Nat->Int->Int->Option Int|0,_,_=>none|fu+1,g,e=>bif(decide (e<g))then need (0<=e/\e<(f.length:Int))<|(Zov (f.getD e.toNat Zab.d) b).bind fun h=>bif h then some e else Zbb f b fu g (Zan e 1)else some (-1:Int)
theorem ZgA{e b}:∀{d f g},LS z Tryz.f159 [1,0,1,0] (Zbb e b d f g) Yj ⟨[(0,(Yn e)),(1,.one (mO 160 0 1 [] [.rp false 4 (fun j=>(Zah.c b:List C).getD (0+j) .junk)])),(7,(Yj f)),(8,(Yj g))],[]⟩:=by
 intro d;induction d with
 |zero=>exact kZ
 |succ d h=>exact kB (kN<|kC fun _=>kB kR0 (kL 17 h)) kR0
def ZcT(d:List Zab)(b:Zah):Option Int:=Zbb d b (((d.length:Int)-(0:Int)).toNat+2) (d.length:Int) (0:Int)
instance ZnW{d b}:Con (ZcT d b) (eS 159 [Yn d,.one (.clo (.func 160) 0 1 (fun i=>([]:List C).getD i .junk) (fun i=>([.rp false 4 (fun j=>(Zah.c b:List C).getD (0+j) .junk)]:List C).getD i .junk))] Yj):=kS Tryz.func159 (kL 6 ZgA)
def ZiW(b:List Zab)(d:Zah):Option Int:=(ZcT b d).bind fun e=>some e
instance ZKO{b d}:Con (ZiW b d) (eS 103 [Yn b,.agg (Zah.c d)] Yj):=kS Tryz.func103 (kC fun _=>kX 1 ⟨[],[],[(1,[3])],[],[],[],[]⟩<|kR0)
def Zqy(b:Zab):Option Zab:=some (Zab.mk b.fEnd 2 b.fFails b.fNext)
instance ZKF{b}:Con (Zqy b) (eS 119 [.agg (Zab.c b)] (mR Zab.c)):=kS Tryz.func119 (kR0)
def ZkA(e:List Zab)(f:Zab):Option (List Zab):=(ZaB e).bind fun d=>(ZiW e f.fEnd).bind fun b=>bif(decide (b>=(0:Int)))then need (0<=b/\b<(d.length:Int))<|some (d.set b.toNat f)else some d
instance ZMb{g b}:ConH (ZkA g b) (eH 118 [] [Yn g,.agg (Zab.c b)] (fun r=>[(99999,.rows 80 7 r.length (Zaj Zab.c Zab.d r))]) m6):=kHC Tryz.func118 (kD 1 1 [] [(99999,8)] fun e=>kC fun f=>kB (kNq fun h=>kW 4 4 Zab.E e f.toNat b (ltOf h)<|kH (show (e.set f.toNat b).length=(e.set f.toNat b).length from rfl)<|kRH ⟨[],[],[],[(99999,(e.set f.toNat b).length)],[],[4],[8],[(8,99999)]⟩ none) (kRH ⟨[],[],[],[],[],[4],[8],[(8,99999)]⟩ none))
instance ZLV{b d}:Con (ZkA b d) (eS 118 [Yn b,.agg (Zab.c d)] Yn):=Con.of fun r h=>(show ZdB _ _ _ _ _ _ from ConH.ok h).pure
def Zhq(b:Zap):Option (Zal×Zap):=(ZiO b.fs).bind fun g=>bif(decide (g>=b.fc.fMaxOut))then(ZbE (5:Int)).bind fun h=>some (h,b)else(Zkt (ZaC.mk b.fs.fBook b.fs.fPeers b.fs.fBans) b.fx.fNow).bind fun e=>bif(!e.2)then(Zks (ZaC.mk b.fs.fBook b.fs.fPeers b.fs.fBans) b.fx.fNow).bind fun i=>some ((Zal.mk 6 (Zah.mk (Zaf.mk false 0 0) 0) 0 i ([]:(List Zaa))),b)else(ZiW b.fs.fBook e.1).bind fun f=>need (0<=f/\f<(b.fs.fBook.length:Int))<|(Zqy (b.fs.fBook.getD f.toNat Zab.d)).bind fun j=>(ZkA b.fs.fBook j).bind fun n=>some ((Zal.mk 0 e.1 0 0 ([]:(List Zaa))),(Zap.mk b.fc (Zak.mk b.fs.fBans n b.fs.fPeers) b.fx))
instance ZBq{b}:ConH (Zhq b) (eH 50 [(100000,.box (Zap.c b))] [.one (.ptr 100000 0)] (fun r=>[(100000,.box (Zap.c r.2))]) fun r=>(.agg (Zal.c r.1))):=kHC Tryz.func50 (kC fun _=>kB (kC fun _=>kRH ⟨[],[],[],[],[],[2],[2,100000],[]⟩ (some [100000])) (kC fun _=>kB (kC fun _=>kRH ⟨[],[(2,[(7,cL 10 Zaa.c Zaa.d [])])],[],[],[],[2],[2,100000],[]⟩ (some [100000])) (kC fun _=>kN<|kC fun _=>kC fun _=>kRH ⟨[],[(2,[(7,cL 10 Zaa.c Zaa.d [])])],[],[],[],[2],[2,100000],[]⟩ (some [100000]))))
def Zik:Nat->Int->Int->Option Int|0,_,_=>none|fu+1,b,d=>bif(decide (d>(0:Int)))then bif(decide (b>(0:Int)))then bif(decide (b<(1099511627776:Int)))then(ZdU (ZhI (2:Int) b)).bind fun e=>Zik fu e (Zaz d (1:Int))else some b else some b else some b
theorem Zso:∀{b d e},LS z Tryz.f278 [1,1,0,0] (Zik b d e) Yj ⟨[(0,(Yj d)),(1,(Yj e))],[]⟩:=by
 intro b;induction b with
 |zero=>exact kZ
 |succ b f=>exact kB (kB (kB (kC fun _=>kL 12 f) kR0) (kK false<|kR0)) (kK false<|kK false<|kR0)
def Zon(d e:Int):Option Int:=(ZdU d).bind fun b=>Zik (((1099511627776:Int)-b).toNat+2) b e
instance ZKA{b d}:Con (Zon b d) (eS 278 [Yj b,Yj d] Yj):=kS Tryz.func278 (kC fun _=>kL 6 Zso)
def ZkZ(b:Zar)(d:Int):Option Int:=bif(decide (d<(1:Int)))then some (0:Int)else(ZdU b.fCap).bind fun e=>(Zon b.fBase (Zaz d (1:Int))).bind fun f=>some (if f<e then f else e)
instance ZEF{b d}:Con (ZkZ b d) (eS 258 [.agg (Zar.c b),Yj d] Yj):=kS Tryz.func258 (kB kR0 (kC fun _=>kC fun _=>kR0))
def ZlD(b d:Int):Option Int:=(ZdU b).bind fun e=>(ZdU d).bind fun f=>(ZdU (Zan e f)).bind fun g=>some g
instance ZMS{b d}:Con (ZlD b d) (eS 129 [Yj b,Yj d] Yj):=kS Tryz.func129 (kC fun _=>kC fun _=>kC fun _=>kR0)
def Zke(b:Zar)(d:Int):Option Int:=bif(decide (b.fJitter<(1:Int)))then some (0:Int)else need (b.fJitter≠0)<|bif(decide ((Int.tmod d b.fJitter)<(0:Int)))then some (Zan (Int.tmod d b.fJitter) b.fJitter)else some (Int.tmod d b.fJitter)
instance ZDa{b d}:Con (Zke b d) (eS 259 [.agg (Zar.c b),Yj d] Yj):=kS Tryz.func259 (kB kR0 (kN<|kB kR0 kR0))
def ZjV(b:Zar)(d e f:Int):Option Int:=(ZkZ b d).bind fun g=>(ZlD e g).bind fun h=>(Zke b f).bind fun i=>(ZlD h i).bind fun j=>some j
instance ZFB{b d e f}:Con (ZjV b d e f) (eS 222 [.agg (Zar.c b),Yj d,Yj e,Yj f] Yj):=kS Tryz.func222 (kC fun _=>kC fun _=>kC fun _=>kC fun _=>kR0)
def ZhB(d:Zar)(b:Zab)(e f:Int):Option Zab:=(ZjV d (Zan (if(999:Int)<(if(0:Int)>b.fFails then(0:Int)else b.fFails)then(999:Int)else(if(0:Int)>b.fFails then(0:Int)else b.fFails)) (1:Int)) e f).bind fun g=>some (Zab.mk b.fEnd 1 (Zan (if(999:Int)<(if(0:Int)>b.fFails then(0:Int)else b.fFails)then(999:Int)else(if(0:Int)>b.fFails then(0:Int)else b.fFails)) (1:Int)) g)
instance ZJm{b d e f}:Con (ZhB b d e f) (eS 179 [.agg (Zar.c b),.agg (Zab.c d),Yj e,Yj f] (mR Zab.c)):=kS Tryz.func179 (kC fun _=>kR0)
def ZgC(b:Zap)(e:Zab)(f:Int):Option (Zal×Zap):=(ZhB b.fc e b.fx.fNow b.fx.fNum).bind fun d=>(ZkA b.fs.fBook d).bind fun g=>some ((Zal.mk f (Zah.mk (Zaf.mk false 0 0) 0) d.fFails d.fNext ([]:(List Zaa))),(Zap.mk b.fc (Zak.mk b.fs.fBans g b.fs.fPeers) b.fx))
instance ZAq{b e f}:ConH (ZgC b e f) (eH 120 [(100000,.box (Zap.c b))] [.one (.ptr 100000 0),.agg (Zab.c e),Yj f] (fun r=>[(100000,.box (Zap.c r.2))]) fun r=>(.agg (Zal.c r.1))):=kHC Tryz.func120 (kC fun _=>kC fun _=>kRH ⟨[],[(6,[(7,cL 10 Zaa.c Zaa.d [])])],[],[],[],[6],[6,100000],[]⟩ (some [100000]))
def Zpa(b:Zab):Option Zab:=some (Zab.mk b.fEnd 3 0 b.fNext)
instance ZJl{b}:Con (Zpa b) (eS 122 [.agg (Zab.c b)] (mR Zab.c)):=kS Tryz.func122 (kR0)
def ZhU(e:Zap):Option (Zal×Zap):=(ZiW e.fs.fBook e.fx.fEnd).bind fun f=>bif(decide (f<(0:Int)))then(ZbE (6:Int)).bind fun p=>some (p,e)else need (0<=f/\f<(e.fs.fBook.length:Int))<|bif((e.fs.fBook.getD f.toNat Zab.d).fState != (2:Int))then(ZbE (6:Int)).bind fun r=>some (r,e)else bif(!e.fx.fGood)then(ZgC e (e.fs.fBook.getD f.toNat Zab.d) (0:Int)).bind fun n=>some (n.1,n.2)else(Zdg e).bind fun b=>bif(decide (b.1>(0:Int)))then(ZgC b.2 (e.fs.fBook.getD f.toNat Zab.d) (8:Int)).bind fun o=>some (o.1,o.2)else(ZeO b.2.fs.fPeers b.2.fx.fEnd).bind fun t=>bif(decide (t>=(0:Int)))then(ZlH (e.fs.fBook.getD f.toNat Zab.d)).bind fun u=>(ZkA b.2.fs.fBook u).bind fun v=>(ZbE (7:Int)).bind fun g=>some (g,(Zap.mk b.2.fc (Zak.mk b.2.fs.fBans v b.2.fs.fPeers) b.2.fx))else(Zpa (e.fs.fBook.getD f.toNat Zab.d)).bind fun h=>(ZkA b.2.fs.fBook h).bind fun i=>(ZdQ (Zap.mk b.2.fc (Zak.mk b.2.fs.fBans i b.2.fs.fPeers) b.2.fx) false).bind fun j=>some ((Zal.mk 0 (Zah.mk (Zaf.mk false 0 0) 0) 0 0 ([]:(List Zaa))),j)
instance Zzj{b}:ConH (ZhU b) (eH 51 [(100000,.box (Zap.c b))] [.one (.ptr 100000 0)] (fun r=>[(100000,.box (Zap.c r.2))]) fun r=>(.agg (Zal.c r.1))):=kHC Tryz.func51 (kC fun _=>kB (kK true<|kC fun _=>kRH ⟨[],[],[],[],[],[2],[2,100000],[]⟩ (some [100000])) (kNq fun e=>kB (kC fun _=>kRH ⟨[],[],[],[],[],[2],[2,100000],[]⟩ (some [100000])) (kH e<|kB (kD 5 2 [(100000,100000)] [] fun _=>kRH ⟨[],[],[],[],[],[2],[2,100000],[]⟩ (some [100000])) (kD 5 1 [(100000,100000)] [] fun _=>kB (kD 6 2 [(100000,100000)] [] fun _=>kRH ⟨[],[],[],[],[],[2],[2,100000],[]⟩ (some [100000])) (kC fun _=>kB (kC fun _=>kC fun _=>kC fun _=>kRH ⟨[],[],[],[],[],[2],[2,100000],[]⟩ (some [100000])) (kC fun _=>kC fun _=>kD 8 1 [(100000,100000)] [] fun _=>kRH ⟨[],[(2,[(7,cL 10 Zaa.c Zaa.d [])])],[],[],[],[2],[2,100000],[]⟩ (some [100000])))))))
def Zhp(b:Int):Option Int:=bif(decide (b<(0:Int)))then some (0:Int)else bif(decide (b>=(6:Int)))then some (0:Int)else need (0<=b/\b<((6:Nat):Int))<|ix1 b 0 ( some (0:Int))<|ix1 b 1 ( some (1:Int))<|ix1 b 2 ( some (10:Int))<|ix1 b 3 ( some (20:Int))<|ix1 b 4 ( some (50:Int))<|some (100:Int)
instance ZEB{b}:Con (Zhp b) (eS 124 [Yj b] Yj):=kS Tryz.func124 (kB (kK true<|kR0) (kB kR0 (kNm fun j=>kI (fun e=>by subst e;exact kH (show 0<=(0:Int)/\(0:Int)<((6:Nat):Int)from(by decide))<|kR0) fun d=>kI (fun e=>by subst e;exact kH (show 0<=(1:Int)/\(1:Int)<((6:Nat):Int)from(by decide))<|kR0) fun f=>kI (fun e=>by subst e;exact kH (show 0<=(2:Int)/\(2:Int)<((6:Nat):Int)from(by decide))<|kR0) fun g=>kI (fun e=>by subst e;exact kH (show 0<=(3:Int)/\(3:Int)<((6:Nat):Int)from(by decide))<|kR0) fun h=>kI (fun e=>by subst e;exact kH (show 0<=(4:Int)/\(4:Int)<((6:Nat):Int)from(by decide))<|kR0) fun i=>by obtain rfl:b=5:=(by omega);exact kH (show 0<=(5:Int)/\(5:Int)<((6:Nat):Int)from(by decide))<|kR0)))
def Zst(b:Zat):Option Zat:=(ZdU b.fAt).bind fun d=>some (Zat.mk (if(1099511627776:Int)<(if(0:Int)>b.fPoints then(0:Int)else b.fPoints)then(1099511627776:Int)else(if(0:Int)>b.fPoints then(0:Int)else b.fPoints)) d)
instance ZLQ{b}:Con (Zst b) (eS 260 [.agg (Zat.c b)] (mR Zat.c)):=kS Tryz.func260 (kC fun _=>kR0)
def Zuu(b d:Int):Option Int:=(ZdU b).bind fun e=>(ZdU d).bind fun f=>(ZdU (Zaz e f)).bind fun g=>some g
instance ZMP{b d}:Con (Zuu b d) (eS 261 [Yj b,Yj d] Yj):=kS Tryz.func261 (kC fun _=>kC fun _=>kC fun _=>kR0)
def Znh(f:Zat)(b g:Int):Option Zat:=(Zst f).bind fun e=>(Zuu g e.fAt).bind fun d=>need ((if(1073741824:Int)<(if(1:Int)>b then(1:Int)else b)then(1073741824:Int)else(if(1:Int)>b then(1:Int)else b))≠0)<|need (0<=(if(41:Int)<(IntKind.wrap .i64 (Int.tdiv d (if(1073741824:Int)<(if(1:Int)>b then(1:Int)else b)then(1073741824:Int)else(if(1:Int)>b then(1:Int)else b))))then(41:Int)else(IntKind.wrap .i64 (Int.tdiv d (if(1073741824:Int)<(if(1:Int)>b then(1:Int)else b)then(1073741824:Int)else(if(1:Int)>b then(1:Int)else b))))))<|some (Zat.mk (Int.fdiv e.fPoints (2 ^ (min (if(41:Int)<(IntKind.wrap .i64 (Int.tdiv d (if(1073741824:Int)<(if(1:Int)>b then(1:Int)else b)then(1073741824:Int)else(if(1:Int)>b then(1:Int)else b))))then(41:Int)else(IntKind.wrap .i64 (Int.tdiv d (if(1073741824:Int)<(if(1:Int)>b then(1:Int)else b)then(1073741824:Int)else(if(1:Int)>b then(1:Int)else b))))).toNat (IntKind.bits .i64)))) (Zan e.fAt (ZhI (IntKind.wrap .i64 (Int.tdiv d (if(1073741824:Int)<(if(1:Int)>b then(1:Int)else b)then(1073741824:Int)else(if(1:Int)>b then(1:Int)else b)))) (if(1073741824:Int)<(if(1:Int)>b then(1:Int)else b)then(1073741824:Int)else(if(1:Int)>b then(1:Int)else b)))))
instance ZJi{b d e}:Con (Znh b d e) (eS 223 [.agg (Zat.c b),Yj d,Yj e] (mR Zat.c)):=kS Tryz.func223 (kC fun _=>kC fun _=>kN<|kN<|kR0)
def Zuv(e f:Int):Option Int:=(ZdU e).bind fun b=>(ZdU f).bind fun d=>bif(decide (b>(0:Int)))then need (b≠0)<|bif(decide (d>(IntKind.wrap .i64 (Int.tdiv (1099511627776:Int) b))))then some (1099511627776:Int)else some (ZhI b d)else some (ZhI b d)
instance ZMQ{b d}:Con (Zuv b d) (eS 224 [Yj b,Yj d] Yj):=kS Tryz.func224 (kC fun _=>kC fun _=>kB (kN<|kB kR0 kR0) (kK false<|kR0))
def Zlk(d:Zat)(e f g:Int):Option Zat:=(Znh d f g).bind fun b=>(Zuv e (65536:Int)).bind fun h=>(ZlD b.fPoints h).bind fun i=>some (Zat.mk i b.fAt)
instance ZKz{b d e f}:Con (Zlk b d e f) (eS 180 [.agg (Zat.c b),Yj d,Yj e,Yj f] (mR Zat.c)):=kS Tryz.func180 (kC fun _=>kC fun _=>kC fun _=>kR0)
def Zmg(b:Zaa)(d e f:Int):Option Zaa:=(Zlk b.fScore d e f).bind fun g=>some (Zaa.mk b.fEnd b.fIn b.fSince g b.fPing b.fWork)
instance ZHo{b d e f}:Con (Zmg b d e f) (eS 123 [.agg (Zaa.c b),Yj d,Yj e,Yj f] (mR Zaa.c)):=kS Tryz.func123 (kC fun _=>kR0)
def ZkK(d:Zat)(b:Int):Option Bool:=some (decide (d.fPoints>=(ZhI (if(16777216:Int)<(if(1:Int)>b then(1:Int)else b)then(16777216:Int)else(if(1:Int)>b then(1:Int)else b)) (65536:Int))))
instance ZEA{b d}:Con (ZkK b d) (eS 125 [.agg (Zat.c b),Yj d] Yk):=kS Tryz.func125 (kR0)
def Zkj(e:List Zaa)(f:Zaa):Option (List Zaa):=(Zav e).bind fun d=>(ZeO e f.fEnd).bind fun b=>bif(decide (b>=(0:Int)))then need (0<=b/\b<(d.length:Int))<|some (d.set b.toNat f)else some d
instance ZKZ{g b}:ConH (Zkj g b) (eH 126 [] [Ym g,.agg (Zaa.c b)] (fun r=>[(99999,.rows 64 10 r.length (Zaj Zaa.c Zaa.d r))]) m6):=kHC Tryz.func126 (kD 1 1 [] [(99999,8)] fun e=>kC fun f=>kB (kNq fun h=>kW 4 4 Zaa.E e f.toNat b (ltOf h)<|kH (show (e.set f.toNat b).length=(e.set f.toNat b).length from rfl)<|kRH ⟨[],[],[],[(99999,(e.set f.toNat b).length)],[],[4],[8],[(8,99999)]⟩ none) (kRH ⟨[],[],[],[],[],[4],[8],[(8,99999)]⟩ none))
instance ZKx{b d}:Con (Zkj b d) (eS 126 [Ym b,.agg (Zaa.c d)] Ym):=Con.of fun r h=>(show ZdB _ _ _ _ _ _ from ConH.ok h).pure
def Zjl(b:Zat):Option Int:=some (IntKind.wrap .i64 (Int.tdiv (if(0:Int)>b.fPoints then(0:Int)else b.fPoints) (65536:Int)))
instance ZHk{b}:Con (Zjl b) (eS 127 [.agg (Zat.c b)] Yj):=kS Tryz.func127 (kH (show (65536:Int)≠0 from(by decide))<|kR0)
def Zou(b:Zaf):Option Zae:=(ZdR b).bind fun d=>(Zga b d).bind fun e=>some e.1
instance ZKM{b}:Con (Zou b) (eS 128 [.agg (Zaf.c b)] (mR Zae.c)):=kS Tryz.func128 (kC fun _=>kC fun _=>kR0)
def ZmO(b:Zac):Option Bool:=(ZhD b.fNet).bind fun d=>bif d then bif(decide (b.fUntil>=(1:Int)))then some (decide (b.fUntil<=(1099511627776:Int)))else some false else some false
instance ZKS{b}:Con (ZmO b) (eS 96 [.agg (Zac.c b)] Yk):=kS Tryz.func96 (kC fun _=>kB (kB kR0 kR0) (kK false<|kR0))
def Zct(b:List Zac):Option (List Zac):=need (0<b.length)<|need ((([]:List Zac)++b).length * 40<=140737488355328/\(([]:List Zac)++b).length<=maxLen)<|some (([]:List Zac)++b)
theorem ZfP(b r:List Zac)(f:Zct b=some r):Yp 182 [] [Yl b] [(mM 99999 56 5 Zac.c Zac.d r)] (.one (.osl 99999 r.length)):=by
 refine ZdB.of Tryz.func182 rfl rfl rfl rfl fun S0 w0=>?_;unfold Zct at f;obtain⟨o1,g,f⟩:=Ys f;apply Yc f 9 [rz,rz,rA [(0,.c ([]:List Zac).length (Zaj Zac.c Zac.d ([]:List Zac))),(2,.c ((([]:List Zac)++b).length) (Zaj Zac.c Zac.d (([]:List Zac)++b)))]] [false] (mL [2] [7] [(7,99999)]) (mY o1 (nt false) (show ([]:List Zac).length=0 from rfl) (nu (e:=Zac.c) Zac.d 5 (fun _=>rfl) ([]:List Zac)) (ZqB (sz:=5) (e:=Zac.c) (d:=Zac.d) ([]:List Zac) b) g.1 g.2)
theorem Zgl(x:Addr)(cap:Nat)(c:Nat->Nat->C):Yp 182 [] [.one (.lit (.slice (some x) 0 cap))] [(99999,.rows 56 5 0 c)] (.one (.osl 99999 0)):=by
 refine ZdB.of Tryz.func182 rfl rfl rfl rfl fun S0 w0=>?_;exact ZhH ZsE 9 _ _ [⟨[],[],[],[],[],[],[]⟩,⟨[(1,.r (Yk false) [])],[],[],[],[],[],[]⟩,⟨[(0,.c 0 c),(2,.c 0 c)],[],[],[],[],[],[]⟩] [false] (mL [2] [7] [(7,99999)])
  [∀w,(do eqGuard .eql 30 (.tmp 3) (.const (.slice none 0 0)) (.slice (some x) 0 cap) (.slice none 0 0);binOp .eql 30 (.slice (some x) 0 cap) (.slice none 0 0):Sem Value).run Tryz.prog w=.ok (.bool false) w,false=false,0=0,∀i j,i<0->j<5->c i j=([]:List C).getD (i * 5+j) .junk,Ext 5 0 0 c (fun _ _=>.junk) 0 c,0 * 40<=140737488355328,0<=maxLen] (by kernel_rfl) ⟨fun w=>by
   have hg:(eqGuard .eql 30 (.tmp 3) (.const (.slice none 0 0)) (.slice (some x) 0 cap) (.slice none 0 0)).run Tryz.prog w=.ok () w:=by simp[eqGuard]
   rw[Sem.run_bind,hg,Result.andThen_ok];exact Go.run_eql_slice_nil w _ _ (some x) 0 cap Tryz.underlying30,rfl,rfl,fun i j h=>absurd h (Nat.not_lt_zero i),⟨rfl,fun _ _ h=>absurd h (Nat.not_lt_zero _),fun _ _ h=>absurd h (Nat.not_lt_zero _)⟩,by decide,by decide,trivial⟩
theorem Zgk(cap:Nat)(c:Nat->Nat->C):Yp 182 [] [.one (.lit (.slice none 0 cap))] [(99999,.rows 56 5 0 c)] (.one (.osl 99999 0)):=by
 refine ZdB.of Tryz.func182 rfl rfl rfl rfl fun S0 w0=>?_;exact ZhH ZsE 8 _ _ [⟨[],[],[],[],[],[],[]⟩,⟨[(1,.r (Yk true) [])],[],[],[],[],[],[]⟩,⟨[],[],[],[],[],[],[]⟩] [true] ⟨[],[],[],[],[(2,99999,56,5,c)],[2],[99999],[]⟩
  [∀w,(do eqGuard .eql 30 (.tmp 3) (.const (.slice none 0 0)) (.slice none 0 cap) (.slice none 0 0);binOp .eql 30 (.slice none 0 cap) (.slice none 0 0):Sem Value).run Tryz.prog w=.ok (.bool true) w,true=true] (by kernel_rfl) ⟨fun w=>by
   have hg:(eqGuard .eql 30 (.tmp 3) (.const (.slice none 0 0)) (.slice none 0 cap) (.slice none 0 0)).run Tryz.prog w=.ok () w:=by simp[eqGuard]
   rw[Sem.run_bind,hg,Result.andThen_ok];exact Go.run_eql_slice_nil w _ _ none 0 cap Tryz.underlying30,rfl,trivial⟩
def ZaV(b:List Zac):Option (List Zac):=need (b.length * 40<=140737488355328/\b.length<=maxLen)<|some b
theorem Zgj(b r:List Zac)(e:ZaV b=some r):Yp 182 [] [Yl b] [(99999,.rows 56 5 r.length (Zaj Zac.c Zac.d r))] (.one (.osl 99999 r.length)):=by
 obtain⟨o1,e⟩:=ZdI e;cases e;refine ZoC ⟨_,Tryz.func182,rfl,rfl⟩ (fun h cap=>?_) (fun h x cap=>?_) (fun h=>?_)
 .rw[h];exact Zgk cap _
 .rw[h];exact Zgl x cap _
 .refine ZfP b b ?_;unfold Zct;rw[Znd h,Znd (by simpa using o1)];simp
instance Zmr (b:List Zac):ConH (ZaV b) (eH 182 [] [Yl b] (fun(r:List Zac)=>[(99999,.rows 56 5 r.length (Zaj Zac.c Zac.d r))]) m6):=ConH.of fun r e=>Zgj b r e
def Zow(b:Zac)(c0:Zae):Option Bool:=some (decide (b.fNet=c0))
instance ZHw{b c0}:Con (Zow b c0) (eS 225 [.agg (Zac.c b),.one (.rp false 4 (fun j=>(Zae.c c0:List C).getD (0+j) .junk))] Yk):=kS Tryz.func225 (kQ 1 3 (Zjr b.fNet c0 (.tmp 5) (.tmp 6))<|kR0)
def Zbm(f:List Zac)(b:Zae):Nat->Int->Int->Option Int|0,_,_=>none|fu+1,g,e=>bif(decide (e<g))then need (0<=e/\e<(f.length:Int))<|(Zow (f.getD e.toNat Zac.d) b).bind fun h=>bif h then some e else Zbm f b fu g (Zan e 1)else some (-1:Int)
theorem Zhw{e b}:∀{d f g},LS z Tryz.f185 [1,0,1,0] (Zbm e b d f g) Yj ⟨[(0,(Yl e)),(1,.one (mO 225 0 1 [] [.rp false 4 (fun j=>(Zae.c b:List C).getD (0+j) .junk)])),(7,(Yj f)),(8,(Yj g))],[]⟩:=by
 intro d;induction d with
 |zero=>exact kZ
 |succ d h=>exact kB (kN<|kC fun _=>kB kR0 (kL 17 h)) kR0
def Zdq(d:List Zac)(b:Zae):Option Int:=Zbm d b (((d.length:Int)-(0:Int)).toNat+2) (d.length:Int) (0:Int)
instance ZoJ{d b}:Con (Zdq d b) (eS 185 [Yl d,.one (.clo (.func 225) 0 1 (fun i=>([]:List C).getD i .junk) (fun i=>([.rp false 4 (fun j=>(Zae.c b:List C).getD (0+j) .junk)]:List C).getD i .junk))] Yj):=kS Tryz.func185 (kL 6 Zhw)
def ZmN(b:List Zac)(d:Zae):Option Int:=(Zdq b d).bind fun e=>some e
instance ZKQ{b d}:Con (ZmN b d) (eS 183 [Yl b,.agg (Zae.c d)] Yj):=kS Tryz.func183 (kC fun _=>kX 1 ⟨[],[],[(1,[3])],[],[],[],[]⟩<|kR0)
def Zsw(b d:Zac):Option Zac:=bif(decide (b.fNet=d.fNet))then some (Zac.mk b.fNet (if d.fUntil>b.fUntil then d.fUntil else b.fUntil))else some b
instance ZLY{b d}:Con (Zsw b d) (eS 184 [.agg (Zac.c b),.agg (Zac.c d)] (mR Zac.c)):=kS Tryz.func184 (kQ 1 4 (Zjr b.fNet d.fNet (.tmp 6) (.tmp 8))<|kB kR0 kR0)
set_option maxHeartbeats 4000000 in
set_option maxRecDepth 100000 in
theorem ZyZ (b n c i vb m vc : Nat) (cur aD : Array Value) (w : World) (hi : i < n) (hm : 0 < m) (hroom : n + m <= c) (cr : c <= maxLen) (iu : vb ≠ b)
    (bt:w.heap[b]? = some (.cells cur 56 (0,0))) (dy:cur.size = c * 5) (a8:w.heap[vb]? = some (.cells aD 56 (0,0))) (je:m<=vc) (bY:aD.size = vc * 5)
    (bQ : ∀ v ∈ cur.toList.take (n * 5),v.oneCell' = true) (d6 : ∀ v ∈ aD.toList.take (m * 5),v.oneCell' = true) :
    Calls Tryz.prog 187 #[.slice (some ⟨b,0,none⟩) n c,.int .i64 i,.slice (some ⟨vb,0,none⟩) m vc] w fun e w' =>
      ∃ R:Array Value,e = .returned (.slice (some ⟨b,0,none⟩) (n + m) c)/\w.drawn<=w'.drawn/\w.grownBy w' (some b)/\w'.heap[b]? = some (.cells R 56 (0,0))/\R.size = c * 5 /\
        R.toList.take ((n + m) * 5) = cur.toList.take (i * 5) ++ aD.toList.take (m * 5) ++ (cur.toList.drop (i * 5)).take ((n - i) * 5):=by
  have iv:=cr
  unfold maxLen at cr
  have hz1 : ¬ ((m:Int) = 0):=by omega
  have cg : ¬ ((i:Int) = (n:Int)):=by omega
  have eG:IntKind.i64.wrap ((i:Int) + (m:Int)) = (i:Int) + (m:Int):=by rw [IntKind.wrap_i64]; omega
  have kP:IntKind.i64.wrap ((n:Int) + (m:Int)) = (n:Int) + (m:Int):=by rw [IntKind.wrap_i64]; omega
  have bX:(0:Int)<=(i:Int) + (m:Int):=by omega
  have hin:i<=n:=by omega
  have j9:((i:Int) + (m:Int)).toNat = i + m:=by omega
  have bK : ¬ (c = i + m):=by omega
  have fM:(i:Int)<=(n:Int) + (m:Int):=by omega
  have hb4 : ¬ (c = i):=by omega
  have hov : ∀ o lb cb,(callFunc 226 #[.slice (some ⟨vb,0,none⟩) m vc,.slice (some ⟨b,o,none⟩) lb cb]).run Tryz.prog w = .ok (.value (.bool false)) w:=fun o lb cb =>by
    rw [run_callFunc_extern Tryz.func226 (by kernel_rfl) (by kernel_rfl) (by kernel_rfl) (e:=Extern.SlicesOverlaps.overlaps #[30,30] #[4]) (by kernel_rfl),
      Lib.run_overlaps_apart w 30 4 56 Tryz.underlying30 5 Tryz.sizeOf56 ⟨vb,0,none⟩ ⟨b,o,none⟩ m vc lb cb iu 56 56 aD.size cur.size (by simp [World.shape?,a8]) (by simp [World.shape?,bt]) (by omega) (by simp [World.frozen?,a8]) (by simp [World.frozen?,a8])]
    rfl
  have aX:(Tryz.prog.info? 56).map (·.size) = some 5:=by kernel_rfl
  obtain ⟨M1,fv⟩ : ∃ M1,M1 = Zdx cur.toList ((i + m) * 5) ((cur.toList.drop (i * 5)).take ((n - i) * 5)):=⟨_,rfl⟩
  have cu:M1.toArray.size = c * 5:=by
    rw [fv]; simp [Zdx]; omega
  have d7 : ∀ ty dc sc,(Builtin.copy_ #[30,30] ty #[.slice (some ⟨b,(i + m) * 5,none⟩) (n + m - (i + m)) dc,.slice (some ⟨b,i * 5,none⟩) (n + m - i) sc]).run Tryz.prog w.drew = .ok (goInt ((n - i:Nat):Int)) (w.drew.setRow b M1.toArray):=fun ty dc sc =>by
    have h:=ZdL (P:=Tryz.prog) w.drew 30 30 ty 56 5 b ((i + m) * 5) (n + m - (i + m)) dc ⟨b,i * 5,none⟩ (n + m - i) sc cur 56 ((cur.toList.drop (i * 5)).take ((n - i) * 5)) Tryz.underlying30 aX
      (by have : Nat.min (n + m - i) (n + m - (i + m)) = n - i := by simp only [Nat.min_def]; split <;> omega
          rw [this]; simp; omega)
      (fun j v hj =>by
        rw [ZcS]
        rw [List.getElem?_take] at hj
        split at hj
        . rw [List.getElem?_drop] at hj
          rw [show w.drew.cell? ⟨b,i * 5 + j,none⟩ = w.cell? ⟨b,i * 5 + j,none⟩ from rfl,cell_of_row w b _ cur 56 (0,0) bt]
          simpa using hj
        . cases hj)
      bt (by simp; omega) (fun v hv =>bQ v (by
        obtain ⟨j,hj⟩:=List.getElem?_of_mem hv
        rw [List.getElem?_take] at hj
        split at hj
        . rw [List.getElem?_drop] at hj
          exact List.mem_of_getElem? (i:=i * 5 + j) (by rw [List.getElem?_take,if_pos (by omega)]; exact hj)
        . cases hj))
    rw [show Nat.min (n + m - i) (n + m - (i + m)) = n - i by simp only [Nat.min_def]; split <;> omega,<- fv] at h
    exact h
  obtain ⟨W1,bJ⟩ : ∃ W1,W1 = w.drew.setRow b M1.toArray:=⟨_,rfl⟩
  have c9:W1.heap[b]? = some (.cells M1.toArray 56 (0,0)):=by
    rw [bJ]; exact setRow_heap _ _ _ _ _ _ bt
  have d8:W1.heap[vb]? = some (.cells aD 56 (0,0)):=by
    rw [bJ,setRow_other _ _ _ _ iu]; exact a8
  have d9 : ∀ (W:World),W.heap = W1.heap->∀ ty dc,(Builtin.copy_ #[30,30] ty #[.slice (some ⟨b,i * 5,none⟩) (n + m - i) dc,.slice (some ⟨vb,0,none⟩) m vc]).run Tryz.prog W = .ok (goInt (m:Int)) (W.setRow b (Zdx M1 (i * 5) (aD.toList.take (m * 5))).toArray):=fun W eh ty dc =>by
    have h:=ZdL (P:=Tryz.prog) W 30 30 ty 56 5 b (i * 5) (n + m - i) dc ⟨vb,0,none⟩ m vc M1.toArray 56 (aD.toList.take (m * 5)) Tryz.underlying30 aX
      (by have : Nat.min m (n + m - i) = m := by simp only [Nat.min_def]; split <;> omega
          rw [this]; simp; omega)
      (fun j v hj =>by
        rw [ZcS,Nat.zero_add]
        rw [List.getElem?_take] at hj
        split at hj
        . rw [cell_of_row W vb _ aD 56 (0,0) (by rw [eh]; exact d8)]
          simpa using hj
        . cases hj)
      (by rw [eh]; exact c9) (by simp at cu ⊢; omega) d6
    rw [show Nat.min m (n + m - i) = m by simp only [Nat.min_def]; split <;> omega] at h
    exact h
  rw [<- bJ] at d7
  obtain ⟨R3,hR3⟩ : ∃ R3,R3 = Zdx M1 (i * 5) (aD.toList.take (m * 5)):=⟨_,rfl⟩
  rw [<- hR3] at d9
  have b7:R3.length = c * 5:=by
    rw [hR3]; simp at cu; simp [Zdx]; omega
  have bk:R3.take ((n + m) * 5) = cur.toList.take (i * 5) ++ aD.toList.take (m * 5) ++ (cur.toList.drop (i * 5)).take ((n - i) * 5):=by
    have iw : M1.length = c * 5:=by simpa using cu
    have c4:(aD.toList.take (m * 5)).length = m * 5:=by simp; omega
    have gw:((cur.toList.drop (i * 5)).take ((n - i) * 5)).length = (n - i) * 5:=by simp; omega
    apply List.ext_getElem?
    intro k
    rw [List.getElem?_take]
    split
    . rename_i hk
      rw [hR3,Zfc _ _ _ (by rw [c4]; omega),fv,Zfc _ _ _ (by rw [gw]; simp; omega)]
      by_cases d:k < i * 5
      . rw [if_neg (by omega),if_neg (by omega),List.append_assoc,List.getElem?_append_left (by simp; omega),List.getElem?_take,if_pos d]
      . by_cases f:k < (i + m) * 5
        . rw [if_pos ⟨by omega,by rw [c4]; omega⟩,List.append_assoc,List.getElem?_append_right (by simp; omega),List.getElem?_append_left (by simp; omega)]
          congr 1; simp; omega
        . rw [if_neg (by rw [c4]; omega),if_pos ⟨by omega,by rw [gw]; omega⟩,List.getElem?_append_right (by rw [List.length_append,c4]; simp; omega)]
          congr 1; rw [List.length_append,c4]; simp; omega
    . rename_i hk
      rw [List.getElem?_eq_none (by rw [List.length_append,List.length_append,c4,gw]; simp; omega)]
  have iA:w.grownBy (W1.setRow b R3.toArray) (some b):=by
    rw [bJ]
    exact ⟨rfl,rfl,rfl,by simp,fun k _ hk =>by
      have hne:k ≠ b:=fun h =>hk (by rw [h])
      rw [setRow_other _ _ _ _ hne,setRow_other _ _ _ _ hne]
      rfl⟩
  have hat:=setRow_heap W1 b _ R3.toArray _ _ c9
  have HF:=Lib.hid bk; clear bk
  have HL:=Lib.hid b7; clear b7
  have cN:w.drawn<=(W1.setRow b R3.toArray).drawn:=by rw [bJ]; exact Nat.le_succ _
  have HG:=Lib.hid iA; clear iA
  have HD:=Lib.hid cN; clear cN
  have HA:=Lib.hid hat; clear hat
  clear cu c9 d8 bQ d6 aX hR3
  clear bJ
  clear fv
  have mixed:Tryz.prog.follows .mixedOrders = true:=by kernel_rfl
  go_enter Tryz.func187,Tryz.ntmps187
  go_wp2_with (simp only [hov])
  go_region_law_o (refine step_copy_runI rfl _ _ 30 30 rfl _ _ (by simp [Act.eval,Act.put]) (by simp [Act.eval,Act.put]) (d7 _ _ _) ?_)
  go_wp2_with (at_builtin; refine wpList_copy_runI _ rfl _ _ 30 30 rfl _ _ rfl rfl (d9 _ rfl _ _) ?_)
  go_ret
  exact ⟨R3.toArray,rfl,HD.out,HG.out,HA.out,HL.out,HF.out⟩
set_option maxHeartbeats 4000000 in
set_option maxRecDepth 100000 in
theorem ZBf (b n c i vb m vc : Nat) (cur aD : Array Value) (w : World) (hi : i < n) (hm : 0 < m) (fX : n <= c) (hroom : c < n + m) (eJ : (n + m) * 40 <= 140737488355328)
    (bt:w.heap[b]? = some (.cells cur 56 (0,0))) (dy:cur.size = c * 5) (a8:w.heap[vb]? = some (.cells aD 56 (0,0))) (je:m<=vc) (bY:aD.size = vc * 5)
    (bQ : ∀ v ∈ cur.toList.take (n * 5),v.oneCell' = true) (d6 : ∀ v ∈ aD.toList.take (m * 5),v.oneCell' = true) :
    Calls Tryz.prog 187 #[.slice (some ⟨b,0,none⟩) n c,.int .i64 i,.slice (some ⟨vb,0,none⟩) m vc] w fun e w' =>
      ∃ (G:Nat) (R:Array Value),e = .returned (.slice (some ⟨w.heap.size,0,none⟩) (n + m) G)/\w.drawn<=w'.drawn/\Below w.heap.size w w'/\w'.heap[w.heap.size]? = some (.cells R 56 (0,0))/\n + m<=G/\G<=maxLen/\R.size = G * 5 /\
        R.toList.take ((n + m) * 5) = cur.toList.take (i * 5) ++ aD.toList.take (m * 5) ++ (cur.toList.drop (i * 5)).take ((n - i) * 5):=by
  have hz1 : ¬ ((m:Int) = 0):=by omega
  have cg : ¬ ((i:Int) = (n:Int)):=by omega
  have hz3:(c:Int) < (n:Int) + (m:Int):=by omega
  have hC:(n:Int) + (m:Int) - (i:Int) = ((n + m - i:Nat):Int):=by omega
  have hik:i + (n + m - i) = n + m:=by omega
  have ka:b < w.heap.size:=(Array.getElem?_eq_some_iff.1 bt).1
  have kb:vb < w.heap.size:=(Array.getElem?_eq_some_iff.1 a8).1
  have iV:b ≠ w.heap.size:=by omega
  have hvN:vb ≠ w.heap.size:=by omega
  obtain ⟨i0,hi0,bV,db,dE⟩:=ZAz.info (t:=56) (show ZdS tab 56 = some _ from rfl)
  replace bV:i0.size = 5:=bV
  replace db:i0.bytes = 40:=db
  replace dE:i0.zero = some (.agg #[.bool false,.int .u64 (0),.int .u64 (0),.int .i64 (0),.int .i64 (0)]):=dE
  have aX:(Tryz.prog.info? 56).map (·.size) = some 5:=by kernel_rfl
  have bW:(Builtin.firstCells i0.size i (.slice (some ⟨b,0,none⟩) i c)).run Tryz.prog w.drew = .ok (cur.toList.take (i * 5)).toArray w.drew:=by
    rw [bV]
    exact run_firstCells_some w.drew 5 i ⟨b,0,none⟩ i c (cur.toList.take (i * 5)) (by simp; omega) (fun j v hj =>by
      rw [ZcS,Nat.zero_add]
      rw [List.getElem?_take] at hj
      split at hj
      . rw [show w.drew.cell? ⟨b,j,none⟩ = w.cell? ⟨b,j,none⟩ from rfl,cell_of_row w b _ cur 56 (0,0) bt]
        simpa using hj
      . cases hj)
  obtain ⟨G,hG⟩ : ∃ G,G = grownCap w (n + m) c 56:=⟨_,rfl⟩
  obtain ⟨cw,cy⟩ : ∃ cw:Array Value,cw = (cur.toList.take (i * 5)).toArray ++ Builtin.zeroCells (Value.cells (.agg #[.bool false,.int .u64 (0),.int .u64 (0),.int .i64 (0),.int .i64 (0)])) (n + m - i) ++ Builtin.zeroCells (Value.cells (.agg #[.bool false,.int .u64 (0),.int .u64 (0),.int .i64 (0),.int .i64 (0)])) (G - (n + m)):=⟨_,rfl⟩
  have iB : ∀ ty, (Builtin.append_ #[30, 3] ty #[.slice (some ⟨b, 0, none⟩) i c, .int .i64 ((n : Int) + (m : Int) - (i : Int))]).run Tryz.prog w =
      .ok (.slice (some ⟨w.heap.size,0,none⟩) (n + m) G) (w.drew.alloc (.cells cw 56)):=fun ty =>by
    have h:=Lib.run_append_grow_zeros w 30 3 ty 56 i0 _ .i64 .i64 Tryz.underlying30 Tryz.underlying3 hi0 dE (some ⟨b,0,none⟩) i c (cur.toList.take (i * 5)) bW (n + m - i) (by omega) (by omega) (by omega) (by omega) (by rw [db]; omega) (by rw [db,hik]; exact growslice_fits hroom eJ)
    rw [hik,<- hG,<- cy] at h
    rw [hC]
    exact h
  have hGn:n + m<=G:=by rw [hG]; exact grownCap_ge w _ _ _
  have hGm:G<=maxLen:=by rw [hG]; exact grownCap_le_maxLen w (n + m) c 56 (by unfold maxLen; omega)
  have hRs:cw.size = G * 5:=by
    rw [cy]
    simp [Builtin.zeroCells,Value.cells]
    omega
  have hRt:cw.toList.take (i * 5) = cur.toList.take (i * 5):=by
    rw [cy]
    simp only [Array.toList_append,List.append_assoc]
    rw [List.take_append_of_le_length (by simp; omega)]
    simp [List.take_take]
  clear cy hG bW
  obtain ⟨W1,bJ⟩ : ∃ W1,W1 = w.drew.alloc (.cells cw 56):=⟨_,rfl⟩
  have gx:W1.heap[w.heap.size]? = some (.cells cw 56 (0,0)):=by rw [bJ]; exact heap_alloc_new w.drew _
  have iC:W1.heap[b]? = some (.cells cur 56 (0,0)):=by rw [bJ,heap_alloc_old w.drew _ ka]; exact bt
  have iD:W1.heap[vb]? = some (.cells aD 56 (0,0)):=by rw [bJ,heap_alloc_old w.drew _ kb]; exact a8
  obtain ⟨V,hV⟩ : ∃ V,V = aD.toList.take (m * 5):=⟨_,rfl⟩
  have cz:V.length = m * 5:=by rw [hV]; simp; omega
  obtain ⟨D,hD⟩ : ∃ D,D = (cur.toList.drop (i * 5)).take ((n - i) * 5):=⟨_,rfl⟩
  have de:D.length = (n - i) * 5:=by rw [hD]; simp; omega
  obtain ⟨R2,hR2⟩ : ∃ R2,R2 = Zdx cw.toList (i * 5) V:=⟨_,rfl⟩
  have el:R2.length = G * 5:=by rw [hR2]; simp [Zdx,cz]; omega
  obtain ⟨R3,hR3⟩ : ∃ R3,R3 = Zdx R2 ((i + m) * 5) D:=⟨_,rfl⟩
  have b7:R3.length = G * 5:=by rw [hR3]; simp [Zdx,de]; omega
  have bk:R3.take ((n + m) * 5) = cur.toList.take (i * 5) ++ V ++ D:=by
    apply List.ext_getElem?
    intro k
    rw [List.getElem?_take]
    split
    . rename_i hk
      rw [hR3,Zfc _ _ _ (by rw [de]; omega),hR2,Zfc _ _ _ (by rw [cz]; simp; omega)]
      by_cases d:k < i * 5
      . rw [if_neg (by omega),if_neg (by omega),List.append_assoc,List.getElem?_append_left (by simp; omega),<- hRt,List.getElem?_take,if_pos d]
      . by_cases f:k < (i + m) * 5
        . rw [if_neg (by omega),if_pos ⟨by omega,by rw [cz]; omega⟩,List.append_assoc,List.getElem?_append_right (by simp; omega),List.getElem?_append_left (by simp; omega)]
          congr 1; simp; omega
        . rw [if_pos ⟨by omega,by rw [de]; omega⟩,List.getElem?_append_right (by simp [cz]; omega)]
          congr 1; simp [cz]; omega
    . rename_i hk
      rw [List.getElem?_eq_none (by simp [cz,de]; omega)]
  have gy : ∀ (W:World),W.heap = W1.heap->∀ ty dc,(Builtin.copy_ #[30,30] ty #[.slice (some ⟨w.heap.size,i * 5,none⟩) (n + m - i) dc,.slice (some ⟨vb,0,none⟩) m vc]).run Tryz.prog W = .ok (goInt (m:Int)) (W.setRow w.heap.size R2.toArray):=fun W eh ty dc =>by
    have h:=ZdL (P:=Tryz.prog) W 30 30 ty 56 5 w.heap.size (i * 5) (n + m - i) dc ⟨vb,0,none⟩ m vc cw 56 V Tryz.underlying30 aX
      (by have : Nat.min m (n + m - i) = m := by simp only [Nat.min_def]; split <;> omega
          rw [this,cz])
      (fun j v hj =>by
        rw [hV] at hj
        rw [ZcS,Nat.zero_add]
        rw [List.getElem?_take] at hj
        split at hj
        . rw [cell_of_row W vb _ aD 56 (0,0) (by rw [eh]; exact iD)]
          simpa using hj
        . cases hj)
      (by rw [eh]; exact gx) (by rw [cz,hRs]; omega) (by rw [hV]; exact d6)
    rw [show Nat.min m (n + m - i) = m by simp only [Nat.min_def]; split <;> omega,<- hR2] at h
    exact h
  have eo : ∀ (W:World),W.heap[w.heap.size]? = some (.cells R2.toArray 56 (0,0))->W.heap[b]? = some (.cells cur 56 (0,0))->∀ ty dc sc,(Builtin.copy_ #[30,30] ty #[.slice (some ⟨w.heap.size,(i + m) * 5,none⟩) (n + m - (i + m)) dc,.slice (some ⟨b,i * 5,none⟩) (n - i) sc]).run Tryz.prog W = .ok (goInt ((n - i:Nat):Int)) (W.setRow w.heap.size R3.toArray):=fun W hN hB ty dc sc =>by
    have h:=ZdL (P:=Tryz.prog) W 30 30 ty 56 5 w.heap.size ((i + m) * 5) (n + m - (i + m)) dc ⟨b,i * 5,none⟩ (n - i) sc R2.toArray 56 D Tryz.underlying30 aX
      (by have : Nat.min (n - i) (n + m - (i + m)) = n - i := by simp only [Nat.min_def]; split <;> omega
          rw [this,de])
      (fun j v hj =>by
        rw [hD] at hj
        rw [ZcS]
        rw [List.getElem?_take] at hj
        split at hj
        . rw [List.getElem?_drop] at hj
          rw [cell_of_row W b _ cur 56 (0,0) hB]
          simpa using hj
        . cases hj)
      hN (by simp [de,el]; omega) (fun v hv =>bQ v (by
        rw [hD] at hv
        obtain ⟨j,hj⟩:=List.getElem?_of_mem hv
        rw [List.getElem?_take] at hj
        split at hj
        . rw [List.getElem?_drop] at hj
          exact List.mem_of_getElem? (i:=i * 5 + j) (by rw [List.getElem?_take,if_pos (by omega)]; exact hj)
        . cases hj))
    rw [show Nat.min (n - i) (n + m - (i + m)) = n - i by simp only [Nat.min_def]; split <;> omega] at h
    rw [show R2.toArray.toList = R2 from rfl,<- hR3] at h
    exact h
  have df:(W1.setRow w.heap.size R2.toArray).heap[w.heap.size]? = some (.cells R2.toArray 56 (0,0)):=setRow_heap _ _ _ _ _ _ gx
  have eq:(W1.setRow w.heap.size R2.toArray).heap[b]? = some (.cells cur 56 (0,0)):=by rw [setRow_other _ _ _ _ iV]; exact iC
  have bG:Below w.heap.size w W1:=by
    rw [bJ]
    exact ⟨rfl,rfl,rfl,by simp,fun k hk =>heap_alloc_old w.drew _ hk⟩
  have mixed:Tryz.prog.follows .mixedOrders = true:=by kernel_rfl
  have cN:w.drawn<=W1.drawn:=by rw [bJ]; exact Nat.le_succ _
  have HW:=Lib.hid cN; clear cN
  have HF:=Lib.hid bk; clear bk
  have hGi : ¬ (G = i):=by omega
  have kc : ¬ (G = i + m):=by omega
  have hci : ¬ (c = i):=by omega
  have ke:=hGm
  unfold maxLen at ke
  have hin:i<=n:=by omega
  have j9:((i:Int) + (m:Int)).toNat = i + m:=by omega
  have eG:IntKind.i64.wrap ((i:Int) + (m:Int)) = (i:Int) + (m:Int):=by rw [IntKind.wrap_i64]; omega
  have bX:(0:Int)<=(i:Int) + (m:Int):=by omega
  have fM:(i:Int)<=(n:Int):=by omega
  rw [<- hV,<- hD]
  rw [<- bJ] at iB
  clear hV hD cz de hR2 el hR3 hRt hi0 db bV dE aX hRs hC hik gx iC iD dy bY bQ d6 bt a8 bJ
  have kh:=Lib.hid b7; clear b7
  go_enter Tryz.func187,Tryz.ntmps187
  go_wp2_with (first
    | (at_builtin; refine Lib.wpList_append_run _ rfl _ _ _ _ rfl _ _ rfl rfl _ _ (iB _) ?_)
    | (at_builtin; refine wpList_copy_runI _ rfl _ _ 30 30 rfl _ _ rfl rfl (gy _ rfl _ _) ?_)
    | (at_builtin; refine wpList_copy_runI _ rfl _ _ 30 30 rfl _ _ rfl rfl (eo _ (by first | exact df | assumption) (by first | exact eq | assumption) _ _ _) ?_))
  go_region_law_o (refine step_copy_runI rfl _ _ 30 30 rfl (.slice (some ⟨w.heap.size,(i + m) * 5,none⟩) (n + m - (i + m)) (G - (i + m))) (.slice (some ⟨b,i * 5,none⟩) (n - i) (c - i)) (by simp [Act.eval,Act.put]) (by simp [Act.eval,Act.put]) (eo (W1.setRow w.heap.size R2.toArray).drew df eq 3 (G - (i + m)) (c - i)) ?_)
  go_wp2
  go_ret
  exact ⟨G,R3.toArray,rfl,Nat.le_trans HW.out (by simp [World.setRow]),⟨bG.os,bG.tape,bG.output,by simpa using bG.size,fun k hk =>by rw [setRow_other _ _ _ _ (by omega)]; exact (setRow_other _ _ _ _ (by omega)).trans (bG.block k hk)⟩,setRow_heap _ _ _ _ _ _ df,hGn,hGm,kh.out,HF.out⟩
set_option maxHeartbeats 4000000 in
set_option maxRecDepth 100000 in
theorem ZEx(bc:Option Addr)(n c vb m vc:Nat)(w w':World)(v':Value)(fX:n<=c)(cr:c<=maxLen)(hm:0<m)(eY:bc=none->n=0)(gz:m<=maxLen)
  (hrun:∀ty,(Builtin.append_ #[30,30] ty #[.slice bc n c,.slice (some ⟨vb,0,none⟩) m vc]).run Tryz.prog w=.ok v' w') :
  Calls Tryz.prog 187 #[.slice bc n c,.int .i64 n,.slice (some ⟨vb,0,none⟩) m vc] w fun e b=>e=.returned v'/\w'=b:=by
 have hz1:¬((m:Int)=0):=by omega
 unfold maxLen at cr gz;cases bc with
 |none=>
  have h0:=eY rfl;subst h0
  go_enter Tryz.func187,Tryz.ntmps187
  go_wp2_with (at_builtin;refine Lib.wpList_append_run _ rfl _ _ _ _ rfl _ _ rfl rfl _ _ (hrun _) ?_)
  go_ret
  exact⟨rfl,rfl⟩
 |some a=>
  obtain⟨ab,ao,asp⟩:=a
  go_enter Tryz.func187,Tryz.ntmps187
  go_wp2_with (at_builtin;refine Lib.wpList_append_run _ rfl _ _ _ _ rfl _ _ rfl rfl _ _ (hrun _) ?_)
  all_goals (go_ret;exact⟨rfl,rfl⟩)
def ZaU(b:List Zac)(d:Int)(e:List Zac):Option (List Zac):=need (0<=d/\d.toNat<=b.length/\0<e.length/\(b.length+e.length) * 40<=140737488355328/\b.length+e.length<=maxLen)<|some (b.take d.toNat++e++b.drop d.toNat)
theorem ZfT(j:List Zac)(C:Int)(o r:List Zac)(D:ZaU j C o=some r) :
  Yp 187 [(mM 100000 56 5 Zac.c Zac.d j),(mM 100001 56 5 Zac.c Zac.d o)] [.one (.osl 100000 j.length),Yj C,.one (.osl 100001 o.length)]
   [(mM 99999 56 5 Zac.c Zac.d r)] (.one (.osl 99999 r.length)):=by
 obtain⟨⟨o1,I,J,L,M⟩,D⟩:=ZdI D;cases D;obtain⟨i0,hi0,bV,db,dE⟩:=ZAz.info (t:=56) (show ZdS tab 56=some _ from rfl);have h:=Zql (enc:=Zac.c) (d:=Zac.d) (F:=187) (BY:=40) (K:=5) ⟨_,Tryz.func187,rfl,rfl⟩ Tryz.underlying30 hi0 dE bV db rfl (by decide) (fun b n c i vb m vc cur aD w p u v y A B E G H e f g=>ZyZ b n c i vb m vc cur aD w p u v y A B E G H e f g)
  (fun b n c i vb m vc cur aD w p u v y A B E G H e f g=>ZBf b n c i vb m vc cur aD w p u v y A B E G H e f g)
  (fun bc n c vb m vc w w' v' p u v y A B=>ZEx bc n c vb m vc w w' v' p u v y A B) j o C.toNat I J L M
 rw[Int.toNat_of_nonneg o1]at h;exact h
instance Zmc (b:List Zac) (f:Int) (e:List Zac):ConH (ZaU b f e) (eH 187 [(100000,.rows 56 5 b.length (Zaj Zac.c Zac.d b)),(100001,.rows 56 5 e.length (Zaj Zac.c Zac.d e))] [.one (.osl 100000 b.length),Yj f,.one (.osl 100001 e.length)] (fun(r:List Zac)=>[(99999,.rows 56 5 r.length (Zaj Zac.c Zac.d r))]) m6):=ConH.of fun r g=>ZfT b f e r g
def Zpd(b c0:Zac):Option Bool:=(ZjU b.fNet c0.fNet).bind fun d=>some (decide (d>(0:Int)))
instance ZJE{b c0}:Con (Zpd b c0) (eS 186 [.agg (Zac.c b),.one (.rp false 5 (fun j=>(Zac.c c0:List C).getD (0+j) .junk))] Yk):=kS Tryz.func186 (kC fun _=>kR0)
def Zbn(f:List Zac)(b:Zac):Nat->Int->Int->Option Int|0,_,_=>none|fu+1,g,e=>bif(decide (e<g))then need (0<=e/\e<(f.length:Int))<|(Zpd (f.getD e.toNat Zac.d) b).bind fun h=>bif h then some e else Zbn f b fu g (Zan e 1)else some (-1:Int)
theorem Zhx{e b}:∀{d f g},LS z Tryz.f185 [1,0,1,0] (Zbn e b d f g) Yj ⟨[(0,(Yl e)),(1,.one (mO 186 0 1 [] [.rp false 5 (fun j=>(Zac.c b:List C).getD (0+j) .junk)])),(7,(Yj f)),(8,(Yj g))],[]⟩:=by
 intro d;induction d with
 |zero=>exact kZ
 |succ d h=>exact kB (kN<|kC fun _=>kB kR0 (kL 17 h)) kR0
def Zcy(d:List Zac)(b:Zac):Option Int:=Zbn d b (((d.length:Int)-(0:Int)).toNat+2) (d.length:Int) (0:Int)
instance ZoK{d b}:Con (Zcy d b) (eS 185 [Yl d,.one (.clo (.func 186) 0 1 (fun i=>([]:List C).getD i .junk) (fun i=>([.rp false 5 (fun j=>(Zac.c b:List C).getD (0+j) .junk)]:List C).getD i .junk))] Yj):=kS Tryz.func185 (kL 6 Zhx)
def ZnO(b:List Zac)(f:Zac)(i:Int):Option ((List Zac)×Int):=(ZmO f).bind fun j=>bif(!j)then some (([]:(List Zac)),(1:Int))else(ZaV b).bind fun g=>(ZmN b f.fNet).bind fun e=>bif(decide (e>=(0:Int)))then need (0<=e/\e<(b.length:Int))<|(Zsw (b.getD e.toNat Zac.d) f).bind fun n=>need (0<=e/\e<(g.length:Int))<|some ((g.set e.toNat n),(0:Int))else bif(decide ((b.length:Int)>=i))then some (([]:(List Zac)),(5:Int))else(Zcy b f).bind fun h=>bif(decide (h<(0:Int)))then(ZaU g (b.length:Int) ([f]:List Zac)).bind fun o=>some (o,(0:Int))else(ZaU g h ([f]:List Zac)).bind fun p=>some (p,(0:Int))
instance ZLX{f b g}:Con (ZnO f b g) (eS 130 [Yl f,.agg (Zac.c b),Yj g] fun r=>.tup [(false,(cLs 5 Zac.c Zac.d) r.1),(false,(cI .i64) r.2)]):=kS Tryz.func130 (kC fun _=>kB (kR [] [] [(6,[(0,cL 5 Zac.c Zac.d [])])]) (kD 2 1 [] [(99999,15)] fun h=>kC fun n=>kB (kN<|kC fun o=>kNq fun p=>kW 5 9 Zac.E h n.toNat o (ltOf p)<|kR [15] [] []) (kB (kR [] [] [(6,[(0,cL 5 Zac.c Zac.d [])])]) (kC fun _=>kB (kH (show ([b]:List Zac).length=1 from rfl)<|kH (show ∀i j,i<1->j<5->Zaj Zac.c Zac.d ([b]:List Zac) i j=(([b]:List Zac).flatMap Zac.c).getD (i * 5+j) .junk from(fun i j hi hj=>ZdG (sz:=5) (e:=Zac.c) (d:=Zac.d) (fun _=>rfl) ([b]:List Zac) i j hi hj))<|kD 9 4 [(100000,15),(100001,46)] [(99999,47)] fun _=>kX 6 ⟨[],[],[(1,[4])],[],[],[],[]⟩<|kX 9 (rA [(3,.c ([b]:List Zac).length (Zaj Zac.c Zac.d ([b]:List Zac)))])<|kR [47] [] []) (kH (show ([b]:List Zac).length=1 from rfl)<|kH (show ∀i j,i<1->j<5->Zaj Zac.c Zac.d ([b]:List Zac) i j=(([b]:List Zac).flatMap Zac.c).getD (i * 5+j) .junk from(fun i j hi hj=>ZdG (sz:=5) (e:=Zac.c) (d:=Zac.d) (fun _=>rfl) ([b]:List Zac) i j hi hj))<|kD 8 4 [(100000,15),(100001,46)] [(99999,47)] fun _=>kX 6 ⟨[],[],[(1,[4])],[],[],[],[]⟩<|kX 8 (rA [(3,.c ([b]:List Zac).length (Zaj Zac.c Zac.d ([b]:List Zac)))])<|kR [47] [] [])))))
def Zgr:Nat->(List Zaa)->Int->Int->(List Zaa)->(List Zaa)->Zae->Option ((List Zaa)×(List Zaa))|0,_,_,_,_,_,_=>none|fu+1,e,h,b,f,g,i=>bif(decide (b<h))then need (0<=b/\b<(e.length:Int))<|(Zln i (((e.getD b.toNat Zaa.d).fEnd).fAddr)).bind fun j=>bif j then need ((f++([(e.getD b.toNat Zaa.d)]:List Zaa)).length * 80<=140737488355328/\(f++([(e.getD b.toNat Zaa.d)]:List Zaa)).length<=maxLen)<|Zgr fu e h (Zan b 1) (f++([(e.getD b.toNat Zaa.d)]:List Zaa)) g i else need ((g++([(e.getD b.toNat Zaa.d)]:List Zaa)).length * 80<=140737488355328/\(g++([(e.getD b.toNat Zaa.d)]:List Zaa)).length<=maxLen)<|Zgr fu e h (Zan b 1) f (g++([(e.getD b.toNat Zaa.d)]:List Zaa)) i else some (f,g)
theorem Zqq:∀{i f j b g h e},LS z Tryz.f188 [1,0,1,0] (Zgr i f j b g h e) (fun r=>.tup [(false,(cLs 10 Zaa.c Zaa.d) r.1),(false,(cLs 10 Zaa.c Zaa.d) r.2)]) ⟨[(3,.one (.ptr 3 0)),(4,.one (.osl 4 g.length)),(5,.one (.osl 5 h.length)),(8,(Ym f)),(9,(Yj j)),(10,(Yj b))],[(mM 4 64 10 Zaa.c Zaa.d g),(mM 5 64 10 Zaa.c Zaa.d h),(3,.box (Zae.c e))]⟩:=by
 intro i;induction i with
 |zero=>exact kZ
 |succ i n=>intro f j b g h e;exact kB (kN<|kC fun _=>kB (kM 3 2 Zaa.E ([(f.getD b.toNat Zaa.d)]:List Zaa)<|kA 3 3 Zaa.E<|kLr 17 [(22,4)] n) (kM 3 2 Zaa.E ([(f.getD b.toNat Zaa.d)]:List Zaa)<|kA 3 3 Zaa.E<|kLr 17 [(26,5)] n)) (kR [4,5] [] [])
def Zok(b:List Zaa)(d:Zae):Option ((List Zaa)×(List Zaa)):=Zgr (((b.length:Int)-(0:Int)).toNat+2) b (b.length:Int) (0:Int) ([]) ([]) d
instance ZHd{b e}:Con (Zok b e) (eS 188 [Ym b,.agg (Zae.c e)] fun r=>.tup [(false,(cLs 10 Zaa.c Zaa.d) r.1),(false,(cLs 10 Zaa.c Zaa.d) r.2)]):=kS Tryz.func188 (kLx 6 [] [] [] [] [(4,4,64,10,Zaj Zaa.c Zaa.d []),(5,5,64,10,Zaj Zaa.c Zaa.d [])] [] Zqq)
def Zeo(f:Zap):Nat->(List Zaa)->(List Zaa)->(List Zaa)->Int->Int->(List Zah)->Option (Int×Zap)|0,_,_,_,_,_,_=>none|fu+1,i,j,e,g,b,h=>bif(decide (b<g))then need (0<=b/\b<(e.length:Int))<|need ((h++([(e.getD b.toNat Zaa.d).fEnd]:List Zah)).length * 32<=140737488355328/\(h++([(e.getD b.toNat Zaa.d).fEnd]:List Zah)).length<=maxLen)<|Zeo f fu i j e g (Zan b 1) (h++([(e.getD b.toNat Zaa.d).fEnd]:List Zah))else(Zlo f.fs.fBook h).bind fun n=>some ((i.length:Int),(Zap.mk f.fc (Zak.mk f.fs.fBans n j) f.fx))
theorem Zop{b}:∀{o p t f h g n},LH z Tryz.f131 [1,1,1,0,1,0] (Zeo b o p t f h g n) (fun r=>[(100000,.box (Zap.c r.2))]) (fun r=>(Yj r.1)) ⟨[(0,.one (.ptr 100000 0)),(5,(Ym p)),(6,(Ym t)),(7,.one (.osl 7 n.length)),(20,(Ym f)),(21,(Yj h)),(22,(Yj g))],[(mM 7 39 4 Zah.c Zah.d n),(100000,.box (Zap.c b))]⟩:=by
 intro o;induction o with
 |zero=>exact kZ
 |succ o v=>intro p t f h g n;exact kB (kN<|kM 2 3 Zah.E ([(f.getD g.toNat Zaa.d).fEnd]:List Zah)<|kA 2 4 Zah.E<|kLr 14 [(30,7)] v) (kD 1 9 [] [(99999,41)] fun u=>kH (show ∀i j,i<u.length->j<7->∃y,Zaj Zab.c Zab.d u i j=.lit y from(ZwG (sz:=7) (e:=Zab.c) (d:=Zab.d) (fun _=>rfl) (fun _=>rfl) _ _))<|kRH ⟨[41],[],[],[],[],[4],[100000],[]⟩ (some [100000]))
def ZeD(d:Zap)(e:Zae):Option (Int×Zap):=(Zok d.fs.fPeers e).bind fun b=>Zeo d ((((b.1.length:Nat):Int)-(0:Int)).toNat+2) b.1 b.2 b.1 ((b.1.length:Nat):Int) (0:Int) ([])
instance ZBp{b e}:ConH (ZeD b e) (eH 131 [(100000,.box (Zap.c b))] [.one (.ptr 100000 0),.agg (Zae.c e)] (fun r=>[(100000,.box (Zap.c r.2))]) fun r=>(Yj r.1)):=kHC Tryz.func131 (kC fun _=>kLx 10 [] [] [] [] [(7,7,39,4,Zaj Zah.c Zah.d [])] [] Zop)
def ZiC(b:Zap):Option (Zal×Zap):=(ZeO b.fs.fPeers b.fx.fEnd).bind fun i=>bif(decide (i<(0:Int)))then(ZbE (6:Int)).bind fun o=>some (o,b)else need (0<=i/\i<(b.fs.fPeers.length:Int))<|(Zhp b.fx.fNum).bind fun p=>(Zmg (b.fs.fPeers.getD i.toNat Zaa.d) p b.fc.fHalf b.fx.fNow).bind fun e=>(ZkK e.fScore b.fc.fLimit).bind fun r=>bif(!r)then(Zkj b.fs.fPeers e).bind fun t=>(Zjl e.fScore).bind fun u=>some ((Zal.mk 0 (Zah.mk (Zaf.mk false 0 0) 0) u 0 ([]:(List Zaa))),(Zap.mk b.fc (Zak.mk b.fs.fBans b.fs.fBook t) b.fx))else(Zou e.fEnd.fAddr).bind fun j=>(ZlD b.fx.fNow b.fc.fBanFor).bind fun n=>(ZnO b.fs.fBans (Zac.mk j n) b.fc.fMaxBans).bind fun f=>bif(f.2==(0:Int))then(ZeD (Zap.mk b.fc (Zak.mk f.1 b.fs.fBook b.fs.fPeers) b.fx) j).bind fun g=>some ((Zal.mk 0 e.fEnd g.1 n ([]:(List Zaa))),g.2)else(ZeD b j).bind fun h=>some ((Zal.mk 0 e.fEnd h.1 0 ([]:(List Zaa))),h.2)
instance ZAr{b}:ConH (ZiC b) (eH 52 [(100000,.box (Zap.c b))] [.one (.ptr 100000 0)] (fun r=>[(100000,.box (Zap.c r.2))]) fun r=>(.agg (Zal.c r.1))):=kHC Tryz.func52 (kC fun _=>kB (kC fun _=>kRH ⟨[],[],[],[],[],[2],[2,100000],[]⟩ (some [100000])) (kN<|kC fun _=>kC fun _=>kC fun _=>kB (kC fun _=>kC fun _=>kRH ⟨[],[(2,[(7,cL 10 Zaa.c Zaa.d [])])],[],[],[],[2],[2,100000],[]⟩ (some [100000])) (kC fun _=>kC fun _=>kC fun _=>kB (kD 10 5 [(100000,100000)] [] fun _=>kRH ⟨[],[(2,[(7,cL 10 Zaa.c Zaa.d [])])],[],[],[],[2],[2,100000],[]⟩ (some [100000])) (kD 9 5 [(100000,100000)] [] fun _=>kRH ⟨[],[(2,[(7,cL 10 Zaa.c Zaa.d [])])],[],[],[],[2],[2,100000],[]⟩ (some [100000])))))
def Zkd(b:Zap):Option (Zal×Zap):=bif(decide (b.fx.fNum<=b.fx.fNow))then(ZbE (3:Int)).bind fun f=>some (f,b)else(ZnO b.fs.fBans (Zac.mk b.fx.fNet b.fx.fNum) b.fc.fMaxBans).bind fun d=>bif(d.2 != (0:Int))then(ZbE d.2).bind fun g=>some (g,b)else(ZeD (Zap.mk b.fc (Zak.mk d.1 b.fs.fBook b.fs.fPeers) b.fx) b.fx.fNet).bind fun e=>some ((Zal.mk 0 (Zah.mk (Zaf.mk false 0 0) 0) e.1 0 ([]:(List Zaa))),e.2)
instance ZDe{b}:ConH (Zkd b) (eH 53 [(100000,.box (Zap.c b))] [.one (.ptr 100000 0)] (fun r=>[(100000,.box (Zap.c r.2))]) fun r=>(.agg (Zal.c r.1))):=kHC Tryz.func53 (kB (kC fun _=>kRH ⟨[],[],[],[],[],[2],[2,100000],[]⟩ (some [100000])) (kC fun _=>kB (kC fun _=>kRH ⟨[],[],[],[],[],[2],[2,100000],[]⟩ (some [100000])) (kD 5 6 [(100000,100000)] [] fun _=>kRH ⟨[],[(2,[(7,cL 10 Zaa.c Zaa.d [])])],[],[],[],[2],[2,100000],[]⟩ (some [100000]))))
def Zdr(b:List Zac)(f e:Int):Option (List Zac):=need (0<=f/\f<=e/\e<=(b.length:Int)/\(b.length:Int)<=(b.length:Int))<|bif(f==e)then some b else need (0<=(0:Int)/\(0:Int)<=f/\f<=(b.length:Int))<|need (0<=e/\e<=(b.length:Int)/\(b.length:Int)<=(b.length:Int))<|need (e.toNat+(b.length-e.toNat)<=b.length/\f.toNat+(b.length-e.toNat)<=b.length)<|need (0<=(((f.toNat+(b.length-e.toNat)):Nat):Int)/\(((f.toNat+(b.length-e.toNat)):Nat):Int)<=(b.length:Int)/\((0:Nat):Int)+(b.length:Int)<=(b.length:Int))<|need ((0+(((f.toNat+(b.length-e.toNat)):Nat):Int).toNat)+((b.length:Int).toNat-(((f.toNat+(b.length-e.toNat)):Nat):Int).toNat)<=(appL b f.toNat e.toNat (b.length-e.toNat)).length)<|need ((f.toNat+(b.length-e.toNat))<=(ZdA (appL b f.toNat e.toNat (b.length-e.toNat)) (0+(((f.toNat+(b.length-e.toNat)):Nat):Int).toNat) ((b.length:Int).toNat-(((f.toNat+(b.length-e.toNat)):Nat):Int).toNat) Zac.d).length)<|some ((ZdA (appL b f.toNat e.toNat (b.length-e.toNat)) (0+(((f.toNat+(b.length-e.toNat)):Nat):Int).toNat) ((b.length:Int).toNat-(((f.toNat+(b.length-e.toNat)):Nat):Int).toNat) Zac.d).take (f.toNat+(b.length-e.toNat)))
instance Zro{b f e}:ConH (Zdr b f e) (eH 189 [(100000,.rows 56 5 b.length (Zaj Zac.c Zac.d b))] [.one (.osl 100000 b.length),Yj f,Yj e] (fun r=>[(99999,.rows 56 5 r.length (Zaj Zac.c Zac.d r))]) m6):=kHC Tryz.func189 (kN<|kB (kRH ⟨[],[],[],[],[],[6],[100000],[(100000,99999)]⟩ none) (kN<|kN<|kNm fun g=>kH (show (appL b f.toNat e.toNat (b.length-e.toNat)).length=b.length from(ZxH _ _ _ _ g))<|kH (show 0=0 from rfl)<|kH g.2<|kH (show ∀p q,p<b.length->q<5->(p<f.toNat\/f.toNat+(b.length-e.toNat)<=p)->Zaj Zac.c Zac.d (appL b f.toNat e.toNat (b.length-e.toNat)) p q=Zaj Zac.c Zac.d b p q from(ZIT _ _ _ _ g))<|kH (show ∀p q,p<(b.length-e.toNat)->q<5->Zaj Zac.c Zac.d (appL b f.toNat e.toNat (b.length-e.toNat)) (f.toNat+p) q=Zaj Zac.c Zac.d b (e.toNat+p) q from(ZIU _ _ _ _ g))<|kN<|kNm fun h=>kH (show (ZdA (appL b f.toNat e.toNat (b.length-e.toNat)) (0+(((f.toNat+(b.length-e.toNat)):Nat):Int).toNat) ((b.length:Int).toNat-(((f.toNat+(b.length-e.toNat)):Nat):Int).toNat) Zac.d).length=(appL b f.toNat e.toNat (b.length-e.toNat)).length from(ZnS _ _ _ _ h))<|kH (show ∀i j,i<(appL b f.toNat e.toNat (b.length-e.toNat)).length->j<5->(i<(0+(((f.toNat+(b.length-e.toNat)):Nat):Int).toNat)\/(0+(((f.toNat+(b.length-e.toNat)):Nat):Int).toNat)+((b.length:Int).toNat-(((f.toNat+(b.length-e.toNat)):Nat):Int).toNat)<=i)->Zaj Zac.c Zac.d (ZdA (appL b f.toNat e.toNat (b.length-e.toNat)) (0+(((f.toNat+(b.length-e.toNat)):Nat):Int).toNat) ((b.length:Int).toNat-(((f.toNat+(b.length-e.toNat)):Nat):Int).toNat) Zac.d) i j=Zaj Zac.c Zac.d (appL b f.toNat e.toNat (b.length-e.toNat)) i j from(ZuT _ _ _ h))<|kH (show ∀i j,i<((b.length:Int).toNat-(((f.toNat+(b.length-e.toNat)):Nat):Int).toNat)->j<5->ZpO (([.lit (.bool false),.lit (.int .u64 (0)),.lit (.int .u64 (0)),.lit (.int .i64 (0)),.lit (.int .i64 (0))]:List C).getD j .junk) (Zaj Zac.c Zac.d (ZdA (appL b f.toNat e.toNat (b.length-e.toNat)) (0+(((f.toNat+(b.length-e.toNat)):Nat):Int).toNat) ((b.length:Int).toNat-(((f.toNat+(b.length-e.toNat)):Nat):Int).toNat) Zac.d) ((0+(((f.toNat+(b.length-e.toNat)):Nat):Int).toNat)+i) j)from(ZuU _ _ _ h (fun j hj=>.inl rfl)))<|kH (show 0=0 from rfl)<|kNm fun n=>kH (show ((ZdA (appL b f.toNat e.toNat (b.length-e.toNat)) (0+(((f.toNat+(b.length-e.toNat)):Nat):Int).toNat) ((b.length:Int).toNat-(((f.toNat+(b.length-e.toNat)):Nat):Int).toNat) Zac.d).take (f.toNat+(b.length-e.toNat))).length=(f.toNat+(b.length-e.toNat))from(ZtG _ _ n))<|kH (show ∀i j,i<(f.toNat+(b.length-e.toNat))->j<5->Zaj Zac.c Zac.d ((ZdA (appL b f.toNat e.toNat (b.length-e.toNat)) (0+(((f.toNat+(b.length-e.toNat)):Nat):Int).toNat) ((b.length:Int).toNat-(((f.toNat+(b.length-e.toNat)):Nat):Int).toNat) Zac.d).take (f.toNat+(b.length-e.toNat))) i j=Zaj Zac.c Zac.d (ZdA (appL b f.toNat e.toNat (b.length-e.toNat)) (0+(((f.toNat+(b.length-e.toNat)):Nat):Int).toNat) ((b.length:Int).toNat-(((f.toNat+(b.length-e.toNat)):Nat):Int).toNat) Zac.d) i j from(ZqU _ _))<|kX 4 (rA [(6,.r (.one (.sl 5 (appL b f.toNat e.toNat (b.length-e.toNat)).length (Zaj Zac.c Zac.d (appL b f.toNat e.toNat (b.length-e.toNat))))) [])])<|kX 5 (rA [(5,.c (ZdA (appL b f.toNat e.toNat (b.length-e.toNat)) (0+(((f.toNat+(b.length-e.toNat)):Nat):Int).toNat) ((b.length:Int).toNat-(((f.toNat+(b.length-e.toNat)):Nat):Int).toNat) Zac.d).length (Zaj Zac.c Zac.d (ZdA (appL b f.toNat e.toNat (b.length-e.toNat)) (0+(((f.toNat+(b.length-e.toNat)):Nat):Int).toNat) ((b.length:Int).toNat-(((f.toNat+(b.length-e.toNat)):Nat):Int).toNat) Zac.d)))])<|kX 6 (rA [(1,.c ((ZdA (appL b f.toNat e.toNat (b.length-e.toNat)) (0+(((f.toNat+(b.length-e.toNat)):Nat):Int).toNat) ((b.length:Int).toNat-(((f.toNat+(b.length-e.toNat)):Nat):Int).toNat) Zac.d).take (f.toNat+(b.length-e.toNat))).length (Zaj Zac.c Zac.d ((ZdA (appL b f.toNat e.toNat (b.length-e.toNat)) (0+(((f.toNat+(b.length-e.toNat)):Nat):Int).toNat) ((b.length:Int).toNat-(((f.toNat+(b.length-e.toNat)):Nat):Int).toNat) Zac.d).take (f.toNat+(b.length-e.toNat)))))])<|kRH ⟨[],[],[],[],[],[6],[6],[(6,99999)]⟩ none))
def Zox(d:List Zac)(e:Zae):Option ((List Zac)×Int):=(ZmN d e).bind fun b=>bif(decide (b<(0:Int)))then some (([]:(List Zac)),(6:Int))else(ZaV d).bind fun f=>(Zdr f b (Zan b 1)).bind fun g=>some (g,(0:Int))
instance ZKR{b e}:Con (Zox b e) (eS 132 [Yl b,.agg (Zae.c e)] fun r=>.tup [(false,(cLs 5 Zac.c Zac.d) r.1),(false,(cI .i64) r.2)]):=kS Tryz.func132 (kC fun _=>kB (kR [] [] [(4,[(0,cL 5 Zac.c Zac.d [])])]) (kD 3 1 [] [(99999,13)] fun _=>kD 3 5 [(100000,13)] [(99999,17)] fun _=>kR [17] [] []))
def ZiA(b:Zap):Option (Zal×Zap):=(Zox b.fs.fBans b.fx.fNet).bind fun d=>bif(d.2==(0:Int))then(ZbE d.2).bind fun e=>some (e,(Zap.mk b.fc (Zak.mk d.1 b.fs.fBook b.fs.fPeers) b.fx))else(ZbE d.2).bind fun f=>some (f,b)
instance ZAn{b}:ConH (ZiA b) (eH 54 [(100000,.box (Zap.c b))] [.one (.ptr 100000 0)] (fun r=>[(100000,.box (Zap.c r.2))]) fun r=>(.agg (Zal.c r.1))):=kHC Tryz.func54 (kC fun _=>kB (kC fun _=>kRH ⟨[],[],[],[],[],[2],[2,100000],[]⟩ (some [100000])) (kC fun _=>kRH ⟨[],[],[],[],[],[2],[2,100000],[]⟩ (some [100000])))
def Zht(h:List Zac)(i:Int):Nat->(List Zac)->Int->Int->(List Zac)->Option ((List Zac)×Int)|0,_,_,_,_=>none|fu+1,e,f,b,g=>bif(decide (b<f))then need (0<=b/\b<(e.length:Int))<|(Zoy (e.getD b.toNat Zac.d) i).bind fun j=>bif j then need ((g++([(e.getD b.toNat Zac.d)]:List Zac)).length * 40<=140737488355328/\(g++([(e.getD b.toNat Zac.d)]:List Zac)).length<=maxLen)<|Zht h i fu e f (Zan b 1) (g++([(e.getD b.toNat Zac.d)]:List Zac))else Zht h i fu e f (Zan b 1) g else some (g,(Zaz (h.length:Int) (g.length:Int)))
theorem ZrD{i j}:∀{g h e b f},LS z Tryz.f56 [1,1,0,1,0] (Zht i j g h e b f) (fun r=>.tup [(false,(cLs 5 Zac.c Zac.d) r.1),(false,mQ r.2)]) ⟨[(0,(Yl i)),(1,(Yj j)),(6,.one (.osl 6 f.length)),(9,(Yl h)),(10,(Yj e)),(11,(Yj b))],[(mM 6 56 5 Zac.c Zac.d f)]⟩:=by
 intro g;induction g with
 |zero=>exact kZ
 |succ g n=>intro h e b f;exact kB (kN<|kC fun _=>kB (kM 3 2 Zac.E ([(h.getD b.toNat Zac.d)]:List Zac)<|kA 3 3 Zac.E<|kLr 17 [(21,6)] n) (kL 17 n)) (kR [6] [] [])
def Znm(b:List Zac)(d:Int):Option ((List Zac)×Int):=Zht b d (((b.length:Int)-(0:Int)).toNat+2) b (b.length:Int) (0:Int) ([])
instance ZJC{b e}:Con (Znm b e) (eS 56 [Yl b,Yj e] fun r=>.tup [(false,(cLs 5 Zac.c Zac.d) r.1),(false,(cI .i64) r.2)]):=kS Tryz.func56 (kLx 8 [] [] [] [] [(6,6,56,5,Zaj Zac.c Zac.d [])] [] ZrD)
def ZaZ(g h f:Int)(ak:Int->(List Zaa)->Option (List Zaa)):Nat->Int->(List Zaa)->Option (List Zaa)|0,_,_=>none|fu+1,e,b=>bif(decide (e>g))then need (0<=e/\e<(b.length:Int))<|need (0<=(Zaz e (1:Int))/\(Zaz e (1:Int))<(b.length:Int))<|(ZeK (b.getD e.toNat Zaa.d) (b.getD ((Zaz e (1:Int)).toNat) Zaa.d)).bind fun i=>bif(decide (i<(0:Int)))then ZaZ g h f ak fu (Zaz e (1:Int)) ((b.set e.toNat (b.getD ((Zaz e (1:Int)).toNat) Zaa.d)).set ((Zaz e (1:Int)).toNat) (b.getD e.toNat Zaa.d))else ak (Zan f 1) b else ak (Zan f 1) b
theorem Zgx{n:Int}{o:Int}{p:Int}{ak:Int->(List Zaa)->Option (List Zaa)}(aN:∀{g e},LH z Tryz.f234 [1,0] (ak g e) (mN 100000 64 10 Zaa.c Zaa.d) (fun r=>(.tup [])) ⟨[(0,.one (.osl 100000 e.length)),(1,(Yj n)),(2,(Yj o)),(3,.one (.lit (.func (.func 101) #[] #[]))),(8,(Yj g))],[(mM 100000 64 10 Zaa.c Zaa.d e)]⟩):∀{j f b},LH z Tryz.f234 [1,0,0,1,0,0,1,0] (ZaZ n o p ak j f b) (mN 100000 64 10 Zaa.c Zaa.d) (fun r=>(.tup [])) ⟨[(0,.one (.osl 100000 b.length)),(1,(Yj n)),(2,(Yj o)),(3,.one (.lit (.func (.func 101) #[] #[]))),(8,(Yj p)),(9,(Yj f))],[(mM 100000 64 10 Zaa.c Zaa.d b)]⟩:=by
 intro j;induction j with
 |zero=>exact kZ
 |succ j t=>intro f b;exact kB (kNq fun h=>kH (ltOf h)<|kNq fun i=>kH (ltOf i)<|kC fun _=>kB (kH i<|kH (ltOf i)<|kH h<|kH (ltOf h)<|kH h<|kW 1 15 Zaa.E b f.toNat (b.getD ((Zaz f (1:Int)).toNat) Zaa.d) (ltOf h)<|kH i<|kW 1 17 Zaa.E (b.set f.toNat (b.getD ((Zaz f (1:Int)).toNat) Zaa.d)) ((Zaz f (1:Int)).toNat) (b.getD f.toNat Zaa.d) (by have:=ltOf i;simp at this ⊢;omega)<|kH (nt (((b.set f.toNat (b.getD ((Zaz f (1:Int)).toNat) Zaa.d)).set ((Zaz f (1:Int)).toNat) (b.getD f.toNat Zaa.d)).length))<|kLx 12 [] [] [] [(100000,(((b.set f.toNat (b.getD ((Zaz f (1:Int)).toNat) Zaa.d)).set ((Zaz f (1:Int)).toNat) (b.getD f.toNat Zaa.d)).length))] [] [] t) (kL 9 aN)) (kK false<|kL 9 aN)
def ZaI(e f:Int):Nat->Int->(List Zaa)->Option (List Zaa)|0,_,_=>none|fu+1,d,b=>bif(decide (d<f))then ZaZ e f d (ZaI e f fu) ((d-e).toNat+2) d b else some b
theorem Zgy{f g}:∀{e h b},LH z Tryz.f234 [1,0] (ZaI f g e h b) (mN 100000 64 10 Zaa.c Zaa.d) (fun r=>(.tup [])) ⟨[(0,.one (.osl 100000 b.length)),(1,(Yj f)),(2,(Yj g)),(3,.one (.lit (.func (.func 101) #[] #[]))),(8,(Yj h))],[(mM 100000 64 10 Zaa.c Zaa.d b)]⟩:=by
 intro e;induction e with
 |zero=>exact kZ
 |succ e i=>exact kB (kL 11 (Zgx i)) (kRH (mJ [] [100000]) (some [100000]))
def ZbG(e:List Zaa)(b d:Int):Option (List Zaa):=ZaI b d ((d-(Zan b 1)).toNat+2) (Zan b 1) e
instance ZnX{b e f}:ConH (ZbG b e f) (eH 234 [(100000,.rows 64 10 b.length (Zaj Zaa.c Zaa.d b))] [.one (.osl 100000 b.length),Yj e,Yj f,.one (.lit (.func (.func 101) #[] #[]))] (fun r=>[(100000,.rows 64 10 r.length (Zaj Zaa.c Zaa.d r))]) fun r=>(.tup [])):=kHC Tryz.func234 (kL 3 Zgy)
def Zbl(f g h:Int):Nat->Int->(List Zaa)->Option (List Zaa)|0,_,_=>none|fu+1,e,b=>bif(decide (e<h))then need (0<=(Zan g e)/\(Zan g e)<(b.length:Int))<|need (0<=(Zan f e)/\(Zan f e)<(b.length:Int))<|Zbl f g h fu (Zan e 1) ((b.set ((Zan f e).toNat) (b.getD ((Zan g e).toNat) Zaa.d)).set ((Zan g e).toNat) (b.getD ((Zan f e).toNat) Zaa.d))else some b
theorem Zhv{f g n}:∀{h e b},LH z Tryz.f282 [1,0] (Zbl f g n h e b) (mN 100000 64 10 Zaa.c Zaa.d) (fun r=>(.tup [])) ⟨[(0,.one (.osl 100000 b.length)),(1,(Yj f)),(2,(Yj g)),(3,(Yj n)),(10,(Yj e))],[(mM 100000 64 10 Zaa.c Zaa.d b)]⟩:=by
 intro h;induction h with
 |zero=>exact kZ
 |succ h o=>intro e b;exact kB (kNq fun i=>kH (ltOf i)<|kNq fun j=>kH (ltOf j)<|kH j<|kW 1 21 Zaa.E b ((Zan f e).toNat) (b.getD ((Zan g e).toNat) Zaa.d) (ltOf j)<|kH i<|kW 1 23 Zaa.E (b.set ((Zan f e).toNat) (b.getD ((Zan g e).toNat) Zaa.d)) ((Zan g e).toNat) (b.getD ((Zan f e).toNat) Zaa.d) (by have:=ltOf i;simp at this ⊢;omega)<|kH (nt (((b.set ((Zan f e).toNat) (b.getD ((Zan g e).toNat) Zaa.d)).set ((Zan g e).toNat) (b.getD ((Zan f e).toNat) Zaa.d)).length))<|kLx 12 [] [] [] [(100000,(((b.set ((Zan f e).toNat) (b.getD ((Zan g e).toNat) Zaa.d)).set ((Zan g e).toNat) (b.getD ((Zan f e).toNat) Zaa.d)).length))] [] [] o) (kRH (mJ [] [100000]) (some [100000]))
def ZbB(d:List Zaa)(e f b:Int):Option (List Zaa):=Zbl e f b ((b-(0:Int)).toNat+2) (0:Int) d
instance ZoL{b e f g}:ConH (ZbB b e f g) (eH 282 [(100000,.rows 64 10 b.length (Zaj Zaa.c Zaa.d b))] [.one (.osl 100000 b.length),Yj e,Yj f,Yj g,.one (.lit (.func (.func 101) #[] #[]))] (fun r=>[(100000,.rows 64 10 r.length (Zaj Zaa.c Zaa.d r))]) fun r=>(.tup [])):=kHC Tryz.func282 (kL 3 Zhv)
def ZbC(f:Int):Nat->Int->Int->(List Zaa)->Option (List Zaa)|0,_,_,_=>none|fu+1,b,e,d=>bif(b != e)then bif(decide (b>e))then(ZbB d (Zaz f b) f e).bind fun g=>ZbC f fu (Zaz b e) e g else(ZbB d (Zaz f b) (Zaz (Zan f e) b) b).bind fun h=>ZbC f fu b (Zaz e b) h else(ZbB d (Zaz f b) f b).bind fun i=>some i
theorem Zis{j}:∀{g e f b},LH z Tryz.f265 [1,1,0,0] (ZbC j g e f b) (mN 100000 64 10 Zaa.c Zaa.d) (fun r=>(.tup [])) ⟨[(0,.one (.osl 100000 b.length)),(2,(Yj j)),(4,.one (.lit (.func (.func 101) #[] #[]))),(10,(Yj e)),(11,(Yj f))],[(mM 100000 64 10 Zaa.c Zaa.d b)]⟩:=by
 intro g;induction g with
 |zero=>exact kZ
 |succ g n=>exact kB (kB (kD 2 7 [(100000,100000)] [] fun h=>kH (nt h.length)<|kLx 15 [] [] [] [(100000,h.length)] [] [] n) (kD 2 11 [(100000,100000)] [] fun i=>kH (nt i.length)<|kLx 15 [] [] [] [(100000,i.length)] [] [] n)) (kD 1 7 [(100000,100000)] [] fun _=>kRH (mJ [] [100000]) (some [100000]))
def Zck(d:List Zaa)(e b f:Int):Option (List Zaa):=ZbC b 1000000 (Zaz b e) (Zaz f b) d
instance ZpR{b e f g}:ConH (Zck b e f g) (eH 265 [(100000,.rows 64 10 b.length (Zaj Zaa.c Zaa.d b))] [.one (.osl 100000 b.length),Yj e,Yj f,Yj g,.one (.lit (.func (.func 101) #[] #[]))] (fun r=>[(100000,.rows 64 10 r.length (Zaj Zaa.c Zaa.d r))]) fun r=>(.tup [])):=kHC Tryz.func265 (kL 6 Zis)
def Zbr(h f g:Int)(az:Int->Int->(List Zaa)->Option (List Zaa)):Nat->Int->(List Zaa)->Option (List Zaa)|0,_,_=>none|fu+1,e,b=>bif(decide (e<(Zaz f (1:Int))))then need (0<=(Zan e 1)/\(Zan e 1)<(b.length:Int))<|need (0<=e/\e<(b.length:Int))<|Zbr h f g az fu (Zan e 1) ((b.set e.toNat (b.getD ((Zan e 1).toNat) Zaa.d)).set ((Zan e 1).toNat) (b.getD e.toNat Zaa.d))else some b
theorem ZhP{t:Int}{i:Int}{n:Int}{az:Int->Int->(List Zaa)->Option (List Zaa)}(bS:∀{g h f},LH z Tryz.f235 [0,1,0,1,1,0,0] (az g h f) (mN 100000 64 10 Zaa.c Zaa.d) (fun r=>(.tup [])) ⟨[(0,.one (.osl 100000 f.length)),(1,(Yj t)),(4,.one (.lit (.func (.func 101) #[] #[]))),(10,(Yj g)),(11,(Yj h))],[(mM 100000 64 10 Zaa.c Zaa.d f)]⟩):∀{j e b},LH z Tryz.f235 [0,1,0,1,1,1,0,1,0] (Zbr t i n az j e b) (mN 100000 64 10 Zaa.c Zaa.d) (fun r=>(.tup [])) ⟨[(0,.one (.osl 100000 b.length)),(10,(Yj i)),(13,(Yj e))],[(mM 100000 64 10 Zaa.c Zaa.d b)]⟩:=by
 intro j;induction j with
 |zero=>exact kZ
 |succ j u=>intro e b;exact kB (kNq fun o=>kH (ltOf o)<|kNq fun p=>kH (ltOf p)<|kH p<|kW 1 15 Zaa.E b e.toNat (b.getD ((Zan e 1).toNat) Zaa.d) (ltOf p)<|kH o<|kW 1 17 Zaa.E (b.set e.toNat (b.getD ((Zan e 1).toNat) Zaa.d)) ((Zan e 1).toNat) (b.getD e.toNat Zaa.d) (by have:=ltOf o;simp at this ⊢;omega)<|kH (nt (((b.set e.toNat (b.getD ((Zan e 1).toNat) Zaa.d)).set ((Zan e 1).toNat) (b.getD e.toNat Zaa.d)).length))<|kLx 12 [] [] [] [(100000,(((b.set e.toNat (b.getD ((Zan e 1).toNat) Zaa.d)).set ((Zan e 1).toNat) (b.getD e.toNat Zaa.d)).length))] [] [] u) (kRH (mJ [] [100000]) (some [100000]))
def ZaF(g:Int):Nat->Int->Int->(List Zaa)->Option (List Zaa)|0,_,_,_=>none|fu+1,e,f,b=>bif(decide (e<f))then need (0<=(IntKind.wrap .i64 (Int.fdiv (IntKind.wrap .u64 (Zan e f)) (2 ^ (min (1:Int).toNat (IntKind.bits .u64)))))/\(IntKind.wrap .i64 (Int.fdiv (IntKind.wrap .u64 (Zan e f)) (2 ^ (min (1:Int).toNat (IntKind.bits .u64)))))<(b.length:Int))<|need (0<=g/\g<(b.length:Int))<|(ZeK (b.getD ((IntKind.wrap .i64 (Int.fdiv (IntKind.wrap .u64 (Zan e f)) (2 ^ (min (1:Int).toNat (IntKind.bits .u64))))).toNat) Zaa.d) (b.getD g.toNat Zaa.d)).bind fun h=>bif(decide (h<(0:Int)))then ZaF g fu (Zan (IntKind.wrap .i64 (Int.fdiv (IntKind.wrap .u64 (Zan e f)) (2 ^ (min (1:Int).toNat (IntKind.bits .u64))))) (1:Int)) f b else ZaF g fu e (IntKind.wrap .i64 (Int.fdiv (IntKind.wrap .u64 (Zan e f)) (2 ^ (min (1:Int).toNat (IntKind.bits .u64))))) b else Zbr g e f (ZaF g fu) 1000000 g b
theorem ZhQ{i}:∀{g e f b},LH z Tryz.f235 [0,1,0,1,1,0,0] (ZaF i g e f b) (mN 100000 64 10 Zaa.c Zaa.d) (fun r=>(.tup [])) ⟨[(0,.one (.osl 100000 b.length)),(1,(Yj i)),(4,.one (.lit (.func (.func 101) #[] #[]))),(10,(Yj e)),(11,(Yj f))],[(mM 100000 64 10 Zaa.c Zaa.d b)]⟩:=by
 intro g;induction g with
 |zero=>exact kZ
 |succ g h=>exact kB (kH (nv (1:Int) rfl)<|kNq fun j=>kH (ltOf j)<|kNq fun n=>kH (ltOf n)<|kC fun _=>kB (kL 15 h) (kL 15 h)) (kL 10 (ZhP h))
def Zbq(h f g:Int)(aA:Int->Int->(List Zaa)->Option (List Zaa)):Nat->Int->(List Zaa)->Option (List Zaa)|0,_,_=>none|fu+1,e,b=>bif(decide (e>f))then need (0<=(Zaz e (1:Int))/\(Zaz e (1:Int))<(b.length:Int))<|need (0<=e/\e<(b.length:Int))<|Zbq h f g aA fu (Zaz e (1:Int)) ((b.set e.toNat (b.getD ((Zaz e (1:Int)).toNat) Zaa.d)).set ((Zaz e (1:Int)).toNat) (b.getD e.toNat Zaa.d))else some b
theorem ZhN{t:Int}{j:Int}{o:Int}{aA:Int->Int->(List Zaa)->Option (List Zaa)}(bT:∀{g h f},LH z Tryz.f235 [1,0,1,0,1,1,0,0] (aA g h f) (mN 100000 64 10 Zaa.c Zaa.d) (fun r=>(.tup [])) ⟨[(0,.one (.osl 100000 f.length)),(2,(Yj t)),(4,.one (.lit (.func (.func 101) #[] #[]))),(14,(Yj g)),(15,(Yj h))],[(mM 100000 64 10 Zaa.c Zaa.d f)]⟩):∀{n e b},LH z Tryz.f235 [1,0,1,0,1,1,1,0,1,0] (Zbq t j o aA n e b) (mN 100000 64 10 Zaa.c Zaa.d) (fun r=>(.tup [])) ⟨[(0,.one (.osl 100000 b.length)),(14,(Yj j)),(17,(Yj e))],[(mM 100000 64 10 Zaa.c Zaa.d b)]⟩:=by
 intro n;induction n with
 |zero=>exact kZ
 |succ n u=>intro e b;exact kB (kNq fun p=>kH (ltOf p)<|kNq fun i=>kH (ltOf i)<|kH i<|kW 1 15 Zaa.E b e.toNat (b.getD ((Zaz e (1:Int)).toNat) Zaa.d) (ltOf i)<|kH p<|kW 1 17 Zaa.E (b.set e.toNat (b.getD ((Zaz e (1:Int)).toNat) Zaa.d)) ((Zaz e (1:Int)).toNat) (b.getD e.toNat Zaa.d) (by have:=ltOf p;simp at this ⊢;omega)<|kH (nt (((b.set e.toNat (b.getD ((Zaz e (1:Int)).toNat) Zaa.d)).set ((Zaz e (1:Int)).toNat) (b.getD e.toNat Zaa.d)).length))<|kLx 12 [] [] [] [(100000,(((b.set e.toNat (b.getD ((Zaz e (1:Int)).toNat) Zaa.d)).set ((Zaz e (1:Int)).toNat) (b.getD e.toNat Zaa.d)).length))] [] [] u) (kRH (mJ [] [100000]) (some [100000]))
def ZaE(g:Int):Nat->Int->Int->(List Zaa)->Option (List Zaa)|0,_,_,_=>none|fu+1,e,f,b=>bif(decide (e<f))then need (0<=g/\g<(b.length:Int))<|need (0<=(IntKind.wrap .i64 (Int.fdiv (IntKind.wrap .u64 (Zan e f)) (2 ^ (min (1:Int).toNat (IntKind.bits .u64)))))/\(IntKind.wrap .i64 (Int.fdiv (IntKind.wrap .u64 (Zan e f)) (2 ^ (min (1:Int).toNat (IntKind.bits .u64)))))<(b.length:Int))<|(ZeK (b.getD g.toNat Zaa.d) (b.getD ((IntKind.wrap .i64 (Int.fdiv (IntKind.wrap .u64 (Zan e f)) (2 ^ (min (1:Int).toNat (IntKind.bits .u64))))).toNat) Zaa.d)).bind fun h=>bif(!(decide (h<(0:Int))))then ZaE g fu (Zan (IntKind.wrap .i64 (Int.fdiv (IntKind.wrap .u64 (Zan e f)) (2 ^ (min (1:Int).toNat (IntKind.bits .u64))))) (1:Int)) f b else ZaE g fu e (IntKind.wrap .i64 (Int.fdiv (IntKind.wrap .u64 (Zan e f)) (2 ^ (min (1:Int).toNat (IntKind.bits .u64))))) b else Zbq g e f (ZaE g fu) ((g-e).toNat+2) g b
theorem ZhO{i}:∀{g e f b},LH z Tryz.f235 [1,0,1,0,1,1,0,0] (ZaE i g e f b) (mN 100000 64 10 Zaa.c Zaa.d) (fun r=>(.tup [])) ⟨[(0,.one (.osl 100000 b.length)),(2,(Yj i)),(4,.one (.lit (.func (.func 101) #[] #[]))),(14,(Yj e)),(15,(Yj f))],[(mM 100000 64 10 Zaa.c Zaa.d b)]⟩:=by
 intro g;induction g with
 |zero=>exact kZ
 |succ g h=>exact kB (kH (nv (1:Int) rfl)<|kNq fun j=>kH (ltOf j)<|kNq fun n=>kH (ltOf n)<|kC fun _=>kB (kL 15 h) (kL 15 h)) (kL 10 (ZhN h))
def ZaY(o p f:Int)(gr:((List Zaa)->Int->Int->Int->Option (List Zaa)))(e g h i j d:Int)(ac:Int->Int->Int->(List Zaa)->Option (List Zaa))(b:List Zaa):Option (List Zaa):=bif(decide (e<d))then bif(decide (d<f))then(gr b e d f).bind fun n=>some n else some b else some b
theorem ZcN{n:Int}{o:Int}{j:Int}{gr:((List Zaa)->Int->Int->Int->Option (List Zaa))}{i:Int}{p:Int}{v:Int}{y:Int}{A:Int}{t:Int}[∀{u n o j},ConH (gr u n o j) (eH 235 [(mM 100000 64 10 Zaa.c Zaa.d u)] [.one (.osl 100000 u.length),Yj n,Yj o,Yj j,.one (.lit (.func (.func 101) #[] #[]))] (mN 100000 64 10 Zaa.c Zaa.d) fun r=>(.tup []))]{ac:Int->Int->Int->(List Zaa)->Option (List Zaa)}(aC:∀{f g h b},LH z Tryz.f235 [1,1,1,1,1,1,1,0,0] (ac f g h b) (mN 100000 64 10 Zaa.c Zaa.d) (fun r=>(.tup [])) ⟨[(0,.one (.osl 100000 b.length)),(1,(Yj n)),(2,(Yj o)),(3,(Yj j)),(4,.one (.lit (.func (.func 101) #[] #[]))),(18,(Yj i)),(19,(Yj p)),(20,(Yj f)),(21,(Yj g)),(22,(Yj h))],[(mM 100000 64 10 Zaa.c Zaa.d b)]⟩){e}:LH z Tryz.f235 [1,1,1,1,1,1,1,1,1,1,1] (ZaY n o j gr i p v y A t ac e) (mN 100000 64 10 Zaa.c Zaa.d) (fun r=>(.tup [])) ⟨[(0,.one (.osl 100000 e.length)),(3,(Yj j)),(4,.one (.lit (.func (.func 101) #[] #[]))),(18,(Yj i)),(24,(Yj t))],[(mM 100000 64 10 Zaa.c Zaa.d e)]⟩:=kB (kB (kD 1 5 [(100000,100000)] [] fun _=>kRH (mJ [] [100000]) (some [100000])) (kRH (mJ [] [100000]) (some [100000]))) (kK false<|kRH (mJ [] [100000]) (some [100000]))
def ZaJ(j n o:Int)(gr:((List Zaa)->Int->Int->Int->Option (List Zaa)))(e f d g h:Int)(ac:Int->Int->Int->(List Zaa)->Option (List Zaa))(i:Int)(b:List Zaa):Option (List Zaa):=bif(decide (j<d))then bif(decide (d<e))then(gr b j d e).bind fun p=>ZaY j n o gr e f d g h i ac p else ZaY j n o gr e f d g h i ac b else ZaY j n o gr e f d g h i ac b
theorem ZcO{j:Int}{o:Int}{n:Int}{gr:((List Zaa)->Int->Int->Int->Option (List Zaa))}{i:Int}{p:Int}{t:Int}{y:Int}{A:Int}[∀{v j o n},ConH (gr v j o n) (eH 235 [(mM 100000 64 10 Zaa.c Zaa.d v)] [.one (.osl 100000 v.length),Yj j,Yj o,Yj n,.one (.lit (.func (.func 101) #[] #[]))] (mN 100000 64 10 Zaa.c Zaa.d) fun r=>(.tup []))]{ac:Int->Int->Int->(List Zaa)->Option (List Zaa)}(aC:∀{f g h b},LH z Tryz.f235 [1,1,1,1,1,1,1,0,0] (ac f g h b) (mN 100000 64 10 Zaa.c Zaa.d) (fun r=>(.tup [])) ⟨[(0,.one (.osl 100000 b.length)),(1,(Yj j)),(2,(Yj o)),(3,(Yj n)),(4,.one (.lit (.func (.func 101) #[] #[]))),(18,(Yj i)),(19,(Yj p)),(20,(Yj f)),(21,(Yj g)),(22,(Yj h))],[(mM 100000 64 10 Zaa.c Zaa.d b)]⟩){u e}:LH z Tryz.f235 [1,1,1,1,1,1,1,1,1,1] (ZaJ j o n gr i p t y A ac u e) (mN 100000 64 10 Zaa.c Zaa.d) (fun r=>(.tup [])) ⟨[(0,.one (.osl 100000 e.length)),(1,(Yj j)),(3,(Yj n)),(4,.one (.lit (.func (.func 101) #[] #[]))),(18,(Yj i)),(20,(Yj t)),(24,(Yj u))],[(mM 100000 64 10 Zaa.c Zaa.d e)]⟩:=kB (kB (kD 1 5 [(100000,100000)] [] fun B=>kH (nt B.length)<|kLx 5 [] [] [] [(100000,B.length)] [] [] (ZcN aC)) (kL 5 (ZcN aC))) (kK false<|kL 5 (ZcN aC))
def ZaA(n j o:Int)(gr:((List Zaa)->Int->Int->Int->Option (List Zaa)))(h f:Int):Nat->Int->Int->Int->(List Zaa)->Option (List Zaa)|0,_,_,_,_=>none|fu+1,e,g,i,b=>bif(decide (e<g))then need (0<=(Zaz i (IntKind.wrap .i64 (Int.fdiv (IntKind.wrap .u64 (Zan e g)) (2 ^ (min (1:Int).toNat (IntKind.bits .u64))))))/\(Zaz i (IntKind.wrap .i64 (Int.fdiv (IntKind.wrap .u64 (Zan e g)) (2 ^ (min (1:Int).toNat (IntKind.bits .u64))))))<(b.length:Int))<|need (0<=(IntKind.wrap .i64 (Int.fdiv (IntKind.wrap .u64 (Zan e g)) (2 ^ (min (1:Int).toNat (IntKind.bits .u64)))))/\(IntKind.wrap .i64 (Int.fdiv (IntKind.wrap .u64 (Zan e g)) (2 ^ (min (1:Int).toNat (IntKind.bits .u64)))))<(b.length:Int))<|(ZeK (b.getD ((Zaz i (IntKind.wrap .i64 (Int.fdiv (IntKind.wrap .u64 (Zan e g)) (2 ^ (min (1:Int).toNat (IntKind.bits .u64)))))).toNat) Zaa.d) (b.getD ((IntKind.wrap .i64 (Int.fdiv (IntKind.wrap .u64 (Zan e g)) (2 ^ (min (1:Int).toNat (IntKind.bits .u64))))).toNat) Zaa.d)).bind fun p=>bif(!(decide (p<(0:Int))))then ZaA n j o gr h f fu (Zan (IntKind.wrap .i64 (Int.fdiv (IntKind.wrap .u64 (Zan e g)) (2 ^ (min (1:Int).toNat (IntKind.bits .u64))))) (1:Int)) g i b else ZaA n j o gr h f fu e (IntKind.wrap .i64 (Int.fdiv (IntKind.wrap .u64 (Zan e g)) (2 ^ (min (1:Int).toNat (IntKind.bits .u64))))) i b else bif(decide (e<j))then bif(decide (j<(Zaz f e)))then(Zck b e j (Zaz f e)).bind fun r=>ZaJ n j o gr h f e g i (ZaA n j o gr h f fu) (Zaz f e) r else ZaJ n j o gr h f e g i (ZaA n j o gr h f fu) (Zaz f e) b else ZaJ n j o gr h f e g i (ZaA n j o gr h f fu) (Zaz f e) b
theorem ZhM{e:Int}{f:Int}{g:Int}{gr:((List Zaa)->Int->Int->Int->Option (List Zaa))}{h:Int}{i:Int}[∀{t e f g},ConH (gr t e f g) (eH 235 [(mM 100000 64 10 Zaa.c Zaa.d t)] [.one (.osl 100000 t.length),Yj e,Yj f,Yj g,.one (.lit (.func (.func 101) #[] #[]))] (mN 100000 64 10 Zaa.c Zaa.d) fun r=>(.tup []))]:∀{u j n o b},LH z Tryz.f235 [1,1,1,1,1,1,1,0,0] (ZaA e f g gr h i u j n o b) (mN 100000 64 10 Zaa.c Zaa.d) (fun r=>(.tup [])) ⟨[(0,.one (.osl 100000 b.length)),(1,(Yj e)),(2,(Yj f)),(3,(Yj g)),(4,.one (.lit (.func (.func 101) #[] #[]))),(18,(Yj h)),(19,(Yj i)),(20,(Yj j)),(21,(Yj n)),(22,(Yj o))],[(mM 100000 64 10 Zaa.c Zaa.d b)]⟩:=by
 intro u;induction u with
 |zero=>exact kZ
 |succ u p=>exact kB (kH (nv (1:Int) rfl)<|kNq fun y=>kH (ltOf y)<|kNq fun A=>kH (ltOf A)<|kC fun _=>kB (kL 15 p) (kL 15 p)) (kB (kB (kD 3 5 [(100000,100000)] [] fun v=>kH (nt v.length)<|kLx 13 [] [] [] [(100000,v.length)] [] [] (ZcO p)) (kL 13 (ZcO p))) (kK false<|kL 13 (ZcO p)))
def ZbV(h i j:Int)(gr:((List Zaa)->Int->Int->Int->Option (List Zaa)))(g d e f:Int)(b:List Zaa):Option (List Zaa):=ZaA h i j gr g d ((f-e).toNat+2) e f (Zaz d (1:Int)) b
theorem Zee{e:Int}{f:Int}{g:Int}{gr:((List Zaa)->Int->Int->Int->Option (List Zaa))}[∀{o e f g},ConH (gr o e f g) (eH 235 [(mM 100000 64 10 Zaa.c Zaa.d o)] [.one (.osl 100000 o.length),Yj e,Yj f,Yj g,.one (.lit (.func (.func 101) #[] #[]))] (mN 100000 64 10 Zaa.c Zaa.d) fun r=>(.tup []))]{h i j n b}:LH z Tryz.f235 [1,1,1,1,1,1] (ZbV e f g gr h i j n b) (mN 100000 64 10 Zaa.c Zaa.d) (fun r=>(.tup [])) ⟨[(0,.one (.osl 100000 b.length)),(1,(Yj e)),(2,(Yj f)),(3,(Yj g)),(4,.one (.lit (.func (.func 101) #[] #[]))),(18,(Yj h)),(19,(Yj i)),(20,(Yj j)),(21,(Yj n))],[(mM 100000 64 10 Zaa.c Zaa.d b)]⟩:=kL 4 ZhM
def Zcs(gr:(List Zaa)->Int->Int->Int->Option (List Zaa))(f:List Zaa)(b d e:Int):Option (List Zaa):=bif((Zaz d b)==(1:Int))then ZaF b ((e-d).toNat+2) d e f else bif((Zaz e d)==(1:Int))then ZaE d ((d-b).toNat+2) b d f else bif(decide (d>(IntKind.wrap .i64 (Int.fdiv (IntKind.wrap .u64 (Zan b e)) (2 ^ (min (1:Int).toNat (IntKind.bits .u64)))))))then ZbV b d e gr (IntKind.wrap .i64 (Int.fdiv (IntKind.wrap .u64 (Zan b e)) (2 ^ (min (1:Int).toNat (IntKind.bits .u64))))) (Zan (IntKind.wrap .i64 (Int.fdiv (IntKind.wrap .u64 (Zan b e)) (2 ^ (min (1:Int).toNat (IntKind.bits .u64))))) d) (Zaz (Zan (IntKind.wrap .i64 (Int.fdiv (IntKind.wrap .u64 (Zan b e)) (2 ^ (min (1:Int).toNat (IntKind.bits .u64))))) d) e) (IntKind.wrap .i64 (Int.fdiv (IntKind.wrap .u64 (Zan b e)) (2 ^ (min (1:Int).toNat (IntKind.bits .u64))))) f else ZbV b d e gr (IntKind.wrap .i64 (Int.fdiv (IntKind.wrap .u64 (Zan b e)) (2 ^ (min (1:Int).toNat (IntKind.bits .u64))))) (Zan (IntKind.wrap .i64 (Int.fdiv (IntKind.wrap .u64 (Zan b e)) (2 ^ (min (1:Int).toNat (IntKind.bits .u64))))) d) b d f
theorem Zih{gr:(List Zaa)->Int->Int->Int->Option (List Zaa)}[∀{b e f g},ConH (gr b e f g) (eH 235 [(mM 100000 64 10 Zaa.c Zaa.d b)] [.one (.osl 100000 b.length),Yj e,Yj f,Yj g,.one (.lit (.func (.func 101) #[] #[]))] (mN 100000 64 10 Zaa.c Zaa.d) fun r=>(.tup []))]:∀{b e f g},ConH (Zcs gr b e f g) (eH 235 [(mM 100000 64 10 Zaa.c Zaa.d b)] [.one (.osl 100000 b.length),Yj e,Yj f,Yj g,.one (.lit (.func (.func 101) #[] #[]))] (mN 100000 64 10 Zaa.c Zaa.d) fun r=>(.tup [])):=kHC Tryz.func235 (kB (kL 10 ZhQ) (kB (kL 15 ZhO) (kH (nv (1:Int) rfl)<|kB (kL 23 Zee) (kL 23 Zee))))
def Zbi:Nat->(List Zaa)->Int->Int->Int->Option (List Zaa)|0,_,_,_,_=>none|fu+1,b,d,e,f=>Zcs (Zbi fu) b d e f
instance ZoX:∀{b},∀{e f g i},ConH (Zbi b e f g i) (eH 235 [(100000,.rows 64 10 e.length (Zaj Zaa.c Zaa.d e))] [.one (.osl 100000 e.length),Yj f,Yj g,Yj i,.one (.lit (.func (.func 101) #[] #[]))] (fun r=>[(100000,.rows 64 10 r.length (Zaj Zaa.c Zaa.d r))]) fun r=>(.tup [])):=by
 intro b;induction b with
 |zero=>exact⟨fun h=>by cases h⟩
 |succ b j=>exact Zih (gr:=Zbi b)
def Zbd(f d:Int)(ae:Int->Int->Int->(List Zaa)->Option (List Zaa))(aq:Int->(List Zaa)->Option (List Zaa)):Nat->Int->Int->(List Zaa)->Option (List Zaa)|0,_,_,_=>none|fu+1,e,g,b=>bif(decide (g<=f))then(Zbi 1000 b e (Zan e d) g).bind fun h=>Zbd f d ae aq fu g (Zan g (ZhI (2:Int) d)) h else bif(decide ((Zan e d)<f))then(Zbi 1000 b e (Zan e d) f).bind fun i=>aq (ZhI d (2:Int)) i else aq (ZhI d (2:Int)) b
theorem Zip{i:Int}{p:Int}{ae:Int->Int->Int->(List Zaa)->Option (List Zaa)}{aq:Int->(List Zaa)->Option (List Zaa)}(aT:∀{f g h b},LH z Tryz.f192 [1,1,0,0] (ae f g h b) (mN 100000 64 10 Zaa.c Zaa.d) (fun r=>(.tup [])) ⟨[(0,.one (.osl 100000 b.length)),(1,(Yj i)),(2,.one (.lit (.func (.func 101) #[] #[]))),(6,(Yj f)),(7,(Yj g)),(8,(Yj h))],[(mM 100000 64 10 Zaa.c Zaa.d b)]⟩)(aU:∀{f b},LH z Tryz.f192 [1,1,1,1,0] (aq f b) (mN 100000 64 10 Zaa.c Zaa.d) (fun r=>(.tup [])) ⟨[(0,.one (.osl 100000 b.length)),(1,(Yj i)),(2,.one (.lit (.func (.func 101) #[] #[]))),(6,(Yj f))],[(mM 100000 64 10 Zaa.c Zaa.d b)]⟩):∀{j t u e},LH z Tryz.f192 [1,1,1,1,0,0,1,0,1,0,0] (Zbd i p ae aq j t u e) (mN 100000 64 10 Zaa.c Zaa.d) (fun r=>(.tup [])) ⟨[(0,.one (.osl 100000 e.length)),(1,(Yj i)),(2,.one (.lit (.func (.func 101) #[] #[]))),(6,(Yj p)),(7,(Yj t)),(8,(Yj u))],[(mM 100000 64 10 Zaa.c Zaa.d e)]⟩:=by
 intro j;induction j with
 |zero=>exact kZ
 |succ j v=>exact kB (kD 1 7 [(100000,100000)] [] fun n=>kH (nt n.length)<|kLx 14 [] [] [] [(100000,n.length)] [] [] v) (kB (kD 3 5 [(100000,100000)] [] fun o=>kH (nt o.length)<|kLx 16 [] [] [] [(100000,o.length)] [] [] aU) (kL 16 aU))
def ZaT(d f g:Int)(ae:Int->Int->Int->(List Zaa)->Option (List Zaa)):Nat->Int->(List Zaa)->Option (List Zaa)|0,_,_=>none|fu+1,e,b=>bif(decide (e<d))then Zbd d e ae (ZaT d f g ae fu) ((d-(ZhI (2:Int) e)).toNat+2) (0:Int) (ZhI (2:Int) e) b else some b
theorem Ziq{j:Int}{o:Int}{p:Int}{ae:Int->Int->Int->(List Zaa)->Option (List Zaa)}(aT:∀{f g h b},LH z Tryz.f192 [1,1,0,0] (ae f g h b) (mN 100000 64 10 Zaa.c Zaa.d) (fun r=>(.tup [])) ⟨[(0,.one (.osl 100000 b.length)),(1,(Yj j)),(2,.one (.lit (.func (.func 101) #[] #[]))),(6,(Yj f)),(7,(Yj g)),(8,(Yj h))],[(mM 100000 64 10 Zaa.c Zaa.d b)]⟩):∀{i n e},LH z Tryz.f192 [1,1,1,1,0] (ZaT j o p ae i n e) (mN 100000 64 10 Zaa.c Zaa.d) (fun r=>(.tup [])) ⟨[(0,.one (.osl 100000 e.length)),(1,(Yj j)),(2,.one (.lit (.func (.func 101) #[] #[]))),(6,(Yj n))],[(mM 100000 64 10 Zaa.c Zaa.d e)]⟩:=by
 intro i;induction i with
 |zero=>exact kZ
 |succ i t=>exact kB (kL 11 (Zip aT t)) (kRH (mJ [] [100000]) (some [100000]))
def ZaN(d:Int):Nat->Int->Int->Int->(List Zaa)->Option (List Zaa)|0,_,_,_,_=>none|fu+1,f,g,e,b=>bif(decide (e<=d))then(ZbG b g e).bind fun h=>ZaN d fu f e (Zan e f) h else(ZbG b g d).bind fun i=>ZaT d g e (ZaN d fu) ((d-f).toNat+2) f i
theorem Zir{h}:∀{e i j n b},LH z Tryz.f192 [1,1,0,0] (ZaN h e i j n b) (mN 100000 64 10 Zaa.c Zaa.d) (fun r=>(.tup [])) ⟨[(0,.one (.osl 100000 b.length)),(1,(Yj h)),(2,.one (.lit (.func (.func 101) #[] #[]))),(6,(Yj i)),(7,(Yj j)),(8,(Yj n))],[(mM 100000 64 10 Zaa.c Zaa.d b)]⟩:=by
 intro e;induction e with
 |zero=>exact kZ
 |succ e o=>exact kB (kD 1 4 [(100000,100000)] [] fun f=>kH (nt f.length)<|kLx 14 [] [] [] [(100000,f.length)] [] [] o) (kD 1 4 [(100000,100000)] [] fun g=>kH (nt g.length)<|kLx 9 [] [] [] [(100000,g.length)] [] [] (Ziq o))
def ZdP(d:List Zaa)(b:Int):Option (List Zaa):=ZaN b ((b-(20:Int)).toNat+2) (20:Int) (0:Int) (20:Int) d
instance ZpQ{b e}:ConH (ZdP b e) (eH 192 [(100000,.rows 64 10 b.length (Zaj Zaa.c Zaa.d b))] [.one (.osl 100000 b.length),Yj e,.one (.lit (.func (.func 101) #[] #[]))] (fun r=>[(100000,.rows 64 10 r.length (Zaj Zaa.c Zaa.d r))]) fun r=>(.tup [])):=kHC Tryz.func192 (kL 6 Zir)
def Zcb(b:List Zaa):Option (List Zaa):=(ZdP b (b.length:Int)).bind fun d=>some d
instance Znr{b}:ConH (Zcb b) (eH 136 [(100000,.rows 64 10 b.length (Zaj Zaa.c Zaa.d b))] [.one (.osl 100000 b.length),.one (.lit (.func (.func 101) #[] #[]))] (fun r=>[(100000,.rows 64 10 r.length (Zaj Zaa.c Zaa.d r))]) fun r=>(.tup [])):=kHC Tryz.func136 (kD 0 4 [(100000,100000)] [] fun _=>kRH ⟨[],[],[],[],[],[],[100000],[]⟩ (some [100000]))
def ZjK(b:List Zaa):Option (List Zaa):=(Zav b).bind fun d=>(Zcb d).bind fun e=>some e
instance ZFD{e}:ConH (ZjK e) (eH 57 [] [Ym e] (fun r=>[(99999,.rows 64 10 r.length (Zaj Zaa.c Zaa.d r))]) m6):=kHC Tryz.func57 (kD 1 1 [] [(99999,5)] fun _=>kD 2 1 [(100000,5)] [] fun b=>kH (show b.length=b.length from rfl)<|kRH ⟨[],[],[],[(99999,b.length)],[],[2],[5],[(5,99999)]⟩ none)
instance ZFr{b}:Con (ZjK b) (eS 57 [Ym b] Ym):=Con.of fun r h=>(show ZdB _ _ _ _ _ _ from ConH.ok h).pure
def Zkk(b:Zaa)(d:Int):Option Zaa:=bif(decide (d>=(1:Int)))then bif(decide (d<=(1048576:Int)))then bif(b.fPing==(0:Int))then some (Zaa.mk b.fEnd b.fIn b.fSince b.fScore d b.fWork)else bif(decide (d<b.fPing))then some (Zaa.mk b.fEnd b.fIn b.fSince b.fScore d b.fWork)else some b else some b else some b
instance ZKC{b d}:Con (Zkk b d) (eS 137 [.agg (Zaa.c b),Yj d] (mR Zaa.c)):=kS Tryz.func137 (kB (kB (kB (kK true<|kR0) (kB kR0 kR0)) (kK false<|kR0)) (kK false<|kK false<|kR0))
def Zjo(b:Zap):Option (Zal×Zap):=(ZeO b.fs.fPeers b.fx.fEnd).bind fun e=>bif(decide (e<(0:Int)))then(ZbE (6:Int)).bind fun g=>some (g,b)else need (0<=e/\e<(b.fs.fPeers.length:Int))<|(Zkk (b.fs.fPeers.getD e.toNat Zaa.d) b.fx.fNum).bind fun f=>(Zkj b.fs.fPeers f).bind fun h=>some ((Zal.mk 0 (Zah.mk (Zaf.mk false 0 0) 0) f.fPing 0 ([]:(List Zaa))),(Zap.mk b.fc (Zak.mk b.fs.fBans b.fs.fBook h) b.fx))
instance ZBo{b}:ConH (Zjo b) (eH 58 [(100000,.box (Zap.c b))] [.one (.ptr 100000 0)] (fun r=>[(100000,.box (Zap.c r.2))]) fun r=>(.agg (Zal.c r.1))):=kHC Tryz.func58 (kC fun _=>kB (kC fun _=>kRH ⟨[],[],[],[],[],[2],[2,100000],[]⟩ (some [100000])) (kN<|kC fun _=>kC fun _=>kRH ⟨[],[(2,[(7,cL 10 Zaa.c Zaa.d [])])],[],[],[],[2],[2,100000],[]⟩ (some [100000])))
def ZhT(b:Zaa)(e:Int):Option Zaa:=(ZdU e).bind fun d=>some (Zaa.mk b.fEnd b.fIn b.fSince b.fScore b.fPing (if d>b.fWork then d else b.fWork))
instance ZHn{b d}:Con (ZhT b d) (eS 138 [.agg (Zaa.c b),Yj d] (mR Zaa.c)):=kS Tryz.func138 (kC fun _=>kR0)
def Zjn(b:Zap):Option (Zal×Zap):=(ZeO b.fs.fPeers b.fx.fEnd).bind fun e=>bif(decide (e<(0:Int)))then(ZbE (6:Int)).bind fun f=>some (f,b)else need (0<=e/\e<(b.fs.fPeers.length:Int))<|(ZhT (b.fs.fPeers.getD e.toNat Zaa.d) b.fx.fNow).bind fun g=>(Zkj b.fs.fPeers g).bind fun h=>some ((Zal.mk 0 (Zah.mk (Zaf.mk false 0 0) 0) 0 0 ([]:(List Zaa))),(Zap.mk b.fc (Zak.mk b.fs.fBans b.fs.fBook h) b.fx))
instance ZBn{b}:ConH (Zjn b) (eH 59 [(100000,.box (Zap.c b))] [.one (.ptr 100000 0)] (fun r=>[(100000,.box (Zap.c r.2))]) fun r=>(.agg (Zal.c r.1))):=kHC Tryz.func59 (kC fun _=>kB (kC fun _=>kRH ⟨[],[],[],[],[],[2],[2,100000],[]⟩ (some [100000])) (kN<|kC fun _=>kC fun _=>kRH ⟨[],[(2,[(7,cL 10 Zaa.c Zaa.d [])])],[],[],[],[2],[2,100000],[]⟩ (some [100000])))
def Zoq(b:Zah)(d:Int):Option Zab:=(ZdU d).bind fun e=>some (Zab.mk b 1 0 e)
instance ZKE{b d}:Con (Zoq b d) (eS 140 [.agg (Zah.c b),Yj d] (mR Zab.c)):=kS Tryz.func140 (kC fun _=>kR0)
end Go.Proofs.YtlpdogaifdeomaaGreat
