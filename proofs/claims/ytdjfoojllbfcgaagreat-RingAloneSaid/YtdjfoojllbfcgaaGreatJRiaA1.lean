import Derived.Test.YtdjfoojllbfcgaaGreatJRiaA0
namespace Go.Proofs.YtdjfoojllbfcgaaGreat
open Go.RowKit Go.Lib Go.Shelf
set_option linter.unusedVariables false
set_option maxRecDepth 100000
def Zdf(c:Int)(aF:Int->(List Zae)->Option (List Zae)):Nat->Int->Int->(List Zae)->Option (List Zae)|0,_,_,_=>none|fu+1,b,e,a=>bif(decide (e<=(ZaA (Ztp (2:Int) c) (2:Int))))then bif(decide (e<(a.length:Int)))then need (0<=e/\e<(a.length:Int))<|need (0<=b/\b<(a.length:Int))<|(ZlB (a.getD e.toNat Zae.d) (a.getD b.toNat Zae.d)).bind fun f=>bif f then Zdf c aF fu e (ZaA e 1) a else Zdf c aF fu b (ZaA e 1) a else bif(b==c)then some a else need (0<=b/\b<(a.length:Int))<|need (0<=c/\c<(a.length:Int))<|aF b ((a.set c.toNat (a.getD b.toNat Zae.d)).set b.toNat (a.getD c.toNat Zae.d))else bif(b==c)then some a else need (0<=b/\b<(a.length:Int))<|need (0<=c/\c<(a.length:Int))<|aF b ((a.set c.toNat (a.getD b.toNat Zae.d)).set b.toNat (a.getD c.toNat Zae.d))
theorem ZtB(S0:Nat->Prop)(w0:ZaW)(e:Int)(aF:Int->(List Zae)->Option (List Zae))(bz:∀(v1_:Int)(a8 r:List Zae),aF v1_ a8=some r->Yt 51 S0 w0 Tryz.f368 [(100000,.rows 341 5 r.length (Zap Zae.c Zae.d r))] (.tup []) [0] ⟨[(0,.one (.osl 100000 a8.length)),(1,(Yj v1_))],[(100000,.rows 341 5 a8.length (Zap Zae.c Zae.d a8))]⟩):∀(l:Nat)(b i:Int)(a r:List Zae),Zdf e aF l b i a=some r->Yt 51 S0 w0 Tryz.f368 [(100000,.rows 341 5 r.length (Zap Zae.c Zae.d r))] (.tup []) [0,0,0,1,0,1,0] ⟨[(0,.one (.osl 100000 a.length)),(1,(Yj e)),(4,(Yj b)),(5,(Yj i))],[(100000,.rows 341 5 a.length (Zap Zae.c Zae.d a))]⟩:=by
 intro l;induction l with
 |zero=>
  intro b i a r f;simp[Zdf]at f
 |succ l t=>
  intro b i a r f;unfold Zdf at f;obtain⟨k,f⟩|⟨k,f⟩:=Zaj f
  .obtain⟨m,f⟩|⟨m,f⟩:=Zaj f
   .obtain⟨u,v,f⟩:=Yu f;obtain⟨w,x,f⟩:=Zac f;have O1:Obl _:=(.c k (.c m (.c u (.c (show i.toNat<a.length from(ltOf u)) (.c v (.c (show b.toNat<a.length from(ltOf v)) (.c (ZvC _ _ _ x) .n)))))));obtain⟨q,f⟩|⟨q,f⟩:=Zaj f
    .exact Ye 15 [rB [(5,true)],rA [(8,aB w)],rz,rz] [true,true] ⟨[],[],[],[],[],[0,1,4,5],[100000],[]⟩ (O1.app (.c q .n)) (t i (ZaA i 1) a r f)
    .exact Ye 15 [rB [(5,true)],rA [(8,aB w)],rz] [true,false] ⟨[],[],[],[],[],[0,1,4,5],[100000],[]⟩ (O1.app (.c q .n)) (t b (ZaA i 1) a r f)
   .obtain⟨s,f⟩|⟨s,f⟩:=Zaj f
    .apply Yc f 10 [rB [(5,true)],rz] [false,true] ⟨[],[],[],[],[],[],[100000],[]⟩ (.c k (.c m (.c s .n)))
    .obtain⟨o,p,f⟩:=Yu f;exact Ye 16 [rB [(5,true)],rz,rA [(13,.c (a.set e.toNat (a.getD b.toNat Zae.d)).length (Zap Zae.c Zae.d (a.set e.toNat (a.getD b.toNat Zae.d)))),(15,.c ((a.set e.toNat (a.getD b.toNat Zae.d)).set b.toNat (a.getD e.toNat Zae.d)).length (Zap Zae.c Zae.d ((a.set e.toNat (a.getD b.toNat Zae.d)).set b.toNat (a.getD e.toNat Zae.d))))],rz] [false,false] ⟨[],[],[],[(100000,(((a.set e.toNat (a.getD b.toNat Zae.d)).set b.toNat (a.getD e.toNat Zae.d)).length))],[],[0,1],[100000],[]⟩ (.c k (.c m (.c s (.c o (.c (show b.toNat<a.length from(ltOf o)) (.c p (.c (show e.toNat<a.length from(ltOf p)) (.c p (.c (show (a.set e.toNat (a.getD b.toNat Zae.d)).length=a.length from List.length_set) (.c (show e.toNat<a.length from(ltOf p)) (.c (show ExtU 5 a.length (Zap Zae.c Zae.d a) e.toNat 0 (Zae.c (a.getD b.toNat Zae.d)) (Zap Zae.c Zae.d (a.set e.toNat (a.getD b.toNat Zae.d)))from(ZkK _ _ _ rfl)) (.c o (.c (show ((a.set e.toNat (a.getD b.toNat Zae.d)).set b.toNat (a.getD e.toNat Zae.d)).length=(a.set e.toNat (a.getD b.toNat Zae.d)).length from List.length_set) (.c (show b.toNat<(a.set e.toNat (a.getD b.toNat Zae.d)).length from(by have:=ltOf o;simp at this ⊢;omega)) (.c (show ExtU 5 ((a.set e.toNat (a.getD b.toNat Zae.d)).length) (Zap Zae.c Zae.d (a.set e.toNat (a.getD b.toNat Zae.d))) b.toNat 0 (Zae.c (a.getD e.toNat Zae.d)) (Zap Zae.c Zae.d ((a.set e.toNat (a.getD b.toNat Zae.d)).set b.toNat (a.getD e.toNat Zae.d)))from(ZkK _ _ _ rfl)) (.c (show ((a.set e.toNat (a.getD b.toNat Zae.d)).set b.toNat (a.getD e.toNat Zae.d)).length=((a.set e.toNat (a.getD b.toNat Zae.d)).set b.toNat (a.getD e.toNat Zae.d)).length from rfl) .n)))))))))))))))) (bz b ((a.set e.toNat (a.getD b.toNat Zae.d)).set b.toNat (a.getD e.toNat Zae.d)) r f)
  .obtain⟨j,f⟩|⟨j,f⟩:=Zaj f
   .apply Yc f 10 [rB [(5,false)],rz] [false,true] ⟨[],[],[],[],[],[],[100000],[]⟩ (.c k (.c (show false=false from rfl) (.c j .n)))
   .obtain⟨g,h,f⟩:=Yu f;exact Ye 16 [rB [(5,false)],rz,rA [(13,.c (a.set e.toNat (a.getD b.toNat Zae.d)).length (Zap Zae.c Zae.d (a.set e.toNat (a.getD b.toNat Zae.d)))),(15,.c ((a.set e.toNat (a.getD b.toNat Zae.d)).set b.toNat (a.getD e.toNat Zae.d)).length (Zap Zae.c Zae.d ((a.set e.toNat (a.getD b.toNat Zae.d)).set b.toNat (a.getD e.toNat Zae.d))))],rz] [false,false] ⟨[],[],[],[(100000,(((a.set e.toNat (a.getD b.toNat Zae.d)).set b.toNat (a.getD e.toNat Zae.d)).length))],[],[0,1],[100000],[]⟩ (.c k (.c (show false=false from rfl) (.c j (.c g (.c (show b.toNat<a.length from(ltOf g)) (.c h (.c (show e.toNat<a.length from(ltOf h)) (.c h (.c (show (a.set e.toNat (a.getD b.toNat Zae.d)).length=a.length from List.length_set) (.c (show e.toNat<a.length from(ltOf h)) (.c (show ExtU 5 a.length (Zap Zae.c Zae.d a) e.toNat 0 (Zae.c (a.getD b.toNat Zae.d)) (Zap Zae.c Zae.d (a.set e.toNat (a.getD b.toNat Zae.d)))from(ZkK _ _ _ rfl)) (.c g (.c (show ((a.set e.toNat (a.getD b.toNat Zae.d)).set b.toNat (a.getD e.toNat Zae.d)).length=(a.set e.toNat (a.getD b.toNat Zae.d)).length from List.length_set) (.c (show b.toNat<(a.set e.toNat (a.getD b.toNat Zae.d)).length from(by have:=ltOf g;simp at this ⊢;omega)) (.c (show ExtU 5 ((a.set e.toNat (a.getD b.toNat Zae.d)).length) (Zap Zae.c Zae.d (a.set e.toNat (a.getD b.toNat Zae.d))) b.toNat 0 (Zae.c (a.getD e.toNat Zae.d)) (Zap Zae.c Zae.d ((a.set e.toNat (a.getD b.toNat Zae.d)).set b.toNat (a.getD e.toNat Zae.d)))from(ZkK _ _ _ rfl)) (.c (show ((a.set e.toNat (a.getD b.toNat Zae.d)).set b.toNat (a.getD e.toNat Zae.d)).length=((a.set e.toNat (a.getD b.toNat Zae.d)).set b.toNat (a.getD e.toNat Zae.d)).length from rfl) .n)))))))))))))))) (bz b ((a.set e.toNat (a.getD b.toNat Zae.d)).set b.toNat (a.getD e.toNat Zae.d)) r f)
def Zeq:Nat->Int->(List Zae)->Option (List Zae)|0,_,_=>none|fu+1,b,a=>Zdf b (Zeq fu) (((a.length:Int)-(ZaA (Ztp (2:Int) b) (1:Int))).toNat+2) b (ZaA (Ztp (2:Int) b) (1:Int)) a
theorem ZtC(S0:Nat->Prop)(w0:ZaW):∀(e:Nat)(b:Int)(a r:List Zae),Zeq e b a=some r->Yt 51 S0 w0 Tryz.f368 [(100000,.rows 341 5 r.length (Zap Zae.c Zae.d r))] (.tup []) [0] ⟨[(0,.one (.osl 100000 a.length)),(1,(Yj b))],[(100000,.rows 341 5 a.length (Zap Zae.c Zae.d a))]⟩:=by
 intro e;induction e with
 |zero=>
  intro b a r f;simp[Zeq]at f
 |succ e g=>
  intro b a r f;unfold Zeq at f;exact Ye 8 [rz,rz] [] ⟨[],[],[],[],[],[0,1,4,5],[100000],[]⟩ .n (ZtB S0 w0 b (Zeq e) g (((a.length:Int)-(ZaA (Ztp (2:Int) b) (1:Int))).toNat+2) b (ZaA (Ztp (2:Int) b) (1:Int)) a r f)
def ZjF(a:List Zae)(b:Int):Option (List Zae):=Zeq 1000000 b a
theorem Zqo(a:List Zae)(b:Int)(r:List Zae)(e:ZjF a b=some r):Yq 368 [(100000,.rows 341 5 a.length (Zap Zae.c Zae.d a))] [.one (.osl 100000 a.length),Yj b] [(100000,.rows 341 5 r.length (Zap Zae.c Zae.d r))] (.tup []):=by
 refine Yx Tryz.func368 fun S0 w0=>?_;unfold ZjF at e;exact Ye 1 [] [] ⟨[],[],[],[],[],[0,1],[100000],[]⟩ .n (ZtC S0 w0 1000000 b a r e)
def Zhe:Nat->Int->(List Zae)->Option (List Zae)|0,_,_=>none|fu+1,a,b=>bif(decide (a>=(0:Int)))then(ZjF b a).bind fun c=>Zhe fu (ZbT a (1:Int)) c else some b
theorem ZtD(S0:Nat->Prop)(w0:ZaW):∀(g:Nat)(f:Int)(b r:List Zae),Zhe g f b=some r->Yt 19 S0 w0 Tryz.f366 [(99999,.rows 341 5 r.length (Zap Zae.c Zae.d r))] (.one (.osl 99999 r.length)) [1,1,0,1,0] ⟨[(3,.one (.osl 6 b.length)),(4,(Yj f))],[(6,.rows 341 5 b.length (Zap Zae.c Zae.d b))]⟩:=by
 intro g;induction g with
 |zero=>
  intro f b r a;simp[Zhe]at a
 |succ g i=>
  intro f b r a;unfold Zhe at a;obtain⟨h,a⟩|⟨h,a⟩:=Zaj a
  .obtain⟨e,j,a⟩:=Zac a;exact Ye 12 [rz,rH [] [(2,⟨[(100000,6)],[],[(100000,.rows 341 5 e.length (Zap Zae.c Zae.d e))],.tup []⟩)],rz] [true] ⟨[],[],[],[(6,e.length)],[],[3,4],[6],[]⟩ (.c h (.c (Zqo _ _ _ j) (.c (show e.length=e.length from rfl) .n))) (i (ZbT f (1:Int)) e r a)
  .apply Yc a 8 [rz,rz] [false] ⟨[],[],[],[],[],[2],[6],[(6,99999)]⟩ (.c h .n)
def Ziu(b:List Zae):Option (List Zae):=(Zbl b).bind fun a=>Zhe (((ZbT (IntKind.wrap .i64 (Int.tdiv (a.length:Int) (2:Int))) (1:Int))-(0:Int)).toNat+2) (ZbT (IntKind.wrap .i64 (Int.tdiv (a.length:Int) (2:Int))) (1:Int)) a
theorem Zqp(e r:List Zae)(b:Ziu e=some r):Yq 366 [] [Yo e] [(99999,.rows 341 5 r.length (Zap Zae.c Zae.d r))] (.one (.osl 99999 r.length)):=by
 refine Yx Tryz.func366 fun S0 w0=>?_;unfold Ziu at b;obtain⟨a,f,b⟩:=Zac b;exact Ye 8 [rz,rH [] [(1,⟨[],[(99999,6)],[(99999,.rows 341 5 a.length (Zap Zae.c Zae.d a))],.one (.osl 99999 a.length)⟩)],rz] [] ⟨[],[],[],[],[],[3,4],[6],[]⟩ (.c (Zdj _ _ f) (.c (show (2:Int)≠0 from(by decide)) .n)) (ZtD S0 w0 (((ZbT (IntKind.wrap .i64 (Int.tdiv (a.length:Int) (2:Int))) (1:Int))-(0:Int)).toNat+2) (ZbT (IntKind.wrap .i64 (Int.tdiv (a.length:Int) (2:Int))) (1:Int)) a r b)
def Zlg(b:List Zae):Option (Zae×(List Zae)×Bool):=bif((b.length:Int)==(0:Int))then some ((Zae.mk 0 (Zan.mk (Zai.mk false 0 0) 0)),([]:(List Zae)),false)else(Zbl b).bind fun a=>need (0<=(ZbT (a.length:Int) (1:Int))/\(ZbT (a.length:Int) (1:Int))<(a.length:Int))<|need (0<=(0:Int)/\(0:Int)<(a.length:Int))<|need (0<=(0:Int)/\(0:Int)<=(ZbT (a.length:Int) (1:Int))/\(ZbT (a.length:Int) (1:Int))<=(a.length:Int))<|need ((ZbT (a.length:Int) (1:Int)).toNat<=(a.set ((0:Int).toNat) (a.getD ((ZbT (a.length:Int) (1:Int)).toNat) Zae.d)).length)<|(ZjF ((a.set ((0:Int).toNat) (a.getD ((ZbT (a.length:Int) (1:Int)).toNat) Zae.d)).take ((ZbT (a.length:Int) (1:Int)).toNat)) (0:Int)).bind fun c=>need (0<=(0:Int)/\(0:Int)<(b.length:Int))<|some ((b.getD (0:Int).toNat Zae.d),c,true)
theorem ZoU(f:List Zae)(r:(Zae×(List Zae)×Bool))(b:Zlg f=some r):Yp 329 [Yo f] (.tup [(true,Zae.c r.1),(false,(cLs 5 Zae.c Zae.d) r.2.1),(false,cB r.2.2)]):=by
 refine Yw Tryz.func329 fun S0 w0=>?_;unfold Zlg at b;obtain⟨e,b⟩|⟨e,b⟩:=Zaj b
 .apply Yb b 8 [rz,rz,rz] [true] [] [] [(3,[(0,cL 5 Zae.c Zae.d [])])] (.c e .n)
 .obtain⟨a,l,b⟩:=Zac b;obtain⟨g,h,b⟩:=Yu b;obtain⟨m,o,b⟩:=Yu b;obtain⟨k,p,b⟩:=Zac b;obtain⟨q,b⟩:=Zar b;apply Yb b 19 [rz,rz,rH [] [(1,⟨[],[(99999,12)],[(99999,.rows 341 5 a.length (Zap Zae.c Zae.d a))],.one (.osl 99999 a.length)⟩)],rz,rA [(6,.c (a.set ((0:Int).toNat) (a.getD ((ZbT (a.length:Int) (1:Int)).toNat) Zae.d)).length (Zap Zae.c Zae.d (a.set ((0:Int).toNat) (a.getD ((ZbT (a.length:Int) (1:Int)).toNat) Zae.d))))],rA [(3,.c ((a.set ((0:Int).toNat) (a.getD ((ZbT (a.length:Int) (1:Int)).toNat) Zae.d)).take ((ZbT (a.length:Int) (1:Int)).toNat)).length (Zap Zae.c Zae.d ((a.set ((0:Int).toNat) (a.getD ((ZbT (a.length:Int) (1:Int)).toNat) Zae.d)).take ((ZbT (a.length:Int) (1:Int)).toNat))))],rH [] [(1,⟨[(100000,5)],[],[(100000,.rows 341 5 k.length (Zap Zae.c Zae.d k))],.tup []⟩)],rz] [false] [5] [] [] (.c e (.c (Zdj _ _ l) (.c g (.c (show (ZbT (a.length:Int) (1:Int)).toNat<a.length from(ltOf g)) (.c h (.c (show (a.set ((0:Int).toNat) (a.getD ((ZbT (a.length:Int) (1:Int)).toNat) Zae.d)).length=a.length from List.length_set) (.c (show (0:Int).toNat<a.length from(ltOf h)) (.c (show ExtU 5 a.length (Zap Zae.c Zae.d a) ((0:Int).toNat) 0 (Zae.c (a.getD ((ZbT (a.length:Int) (1:Int)).toNat) Zae.d)) (Zap Zae.c Zae.d (a.set ((0:Int).toNat) (a.getD ((ZbT (a.length:Int) (1:Int)).toNat) Zae.d)))from(ZkK _ _ _ rfl)) (.c m (.c (show 0=0 from rfl) (.c (show ((a.set ((0:Int).toNat) (a.getD ((ZbT (a.length:Int) (1:Int)).toNat) Zae.d)).take ((ZbT (a.length:Int) (1:Int)).toNat)).length=(ZbT (a.length:Int) (1:Int)).toNat from(ZFy _ _ o)) (.c (show ∀i j,i<(ZbT (a.length:Int) (1:Int)).toNat->j<5->Zap Zae.c Zae.d ((a.set ((0:Int).toNat) (a.getD ((ZbT (a.length:Int) (1:Int)).toNat) Zae.d)).take ((ZbT (a.length:Int) (1:Int)).toNat)) i j=Zap Zae.c Zae.d (a.set ((0:Int).toNat) (a.getD ((ZbT (a.length:Int) (1:Int)).toNat) Zae.d)) i j from(ZCD _ _)) (.c (Zqo _ _ _ p) (.c q .n))))))))))))))
def ZcL:Nat->(List Zab)->Int->Int->Zan->Option Bool|0,_,_,_,_=>none|fu+1,b,c,a,e=>bif(decide (a<c))then need (0<=a/\a<(b.length:Int))<|bif(decide ((b.getD a.toNat Zab.d).fEnd=e))then some true else ZcL fu b c (ZaA a 1) e else some false
theorem ZmH(S0:Nat->Prop)(w0:ZaW):∀(h:Nat)(f:List Zab)(g a:Int)(e:Zan)(r:Bool),ZcL h f g a e=some r->Ys 19 S0 w0 Tryz.f369 (Yk r) [1,0,1,0] ⟨[(3,.one (.ptr 3 0)),(8,(Yn f)),(9,(Yj g)),(10,(Yj a))],[(3,.box [.lit (.bool e.fAddr.fV6),.lit (.int .u64 e.fAddr.fHi),.lit (.int .u64 e.fAddr.fLo),.lit (.int .i64 e.fPort)])]⟩:=by
 intro h;induction h with
 |zero=>
  intro f g a e r b;simp[ZcL]at b
 |succ h k=>
  intro f g a e r b;unfold ZcL at b;obtain⟨i,b⟩|⟨i,b⟩:=Zaj b
  .obtain⟨o2,b⟩:=Zar b
   let R1:List RA:=[rz,rz,rA [(3,aB (decide ((f.getD a.toNat Zab.d).fEnd=e)))],rz]
   have O2:Obl _:=(.c i (.c o2 (.c (ZiP ((f.getD a.toNat Zab.d).fEnd) e (.tmp 15) (.tmp 16)) .n)));obtain⟨j,b⟩|⟨j,b⟩:=Zaj b
   .apply Ya b 15 R1 [true,true] (O2.app (.c j .n))
   .exact Ye 17 R1 [true,false] ⟨[],[],[],[],[],[3,8,9,10],[3],[]⟩ (O2.app (.c j .n)) (k f g (ZaA a 1) e r b)
  .apply Ya b 8 [rz,rz] [false] (.c i .n)
def ZfA(a:ZaF)(b:Zan):Option Bool:=ZcL (((a.fPeers.length:Int)-(0:Int)).toNat+2) a.fPeers (a.fPeers.length:Int) (0:Int) b
theorem ZjS(a:ZaF)(b:Zan)(r:Bool)(d:ZfA a b=some r):Yp 369 [.agg (ZaF.c a),.agg (Zan.c b)] (Yk r):=by
 refine Yw Tryz.func369 fun S0 w0=>?_;unfold ZfA at d;exact Ye 6 [rz,rz] [] ⟨[],[],[],[],[],[3,8,9,10],[3],[]⟩ .n (ZmH S0 w0 (((a.fPeers.length:Int)-(0:Int)).toNat+2) a.fPeers (a.fPeers.length:Int) (0:Int) b r d)
def Zof:Option ZaH:=some (ZaH.mk Zav.nil Zav.nil 0)
theorem ZsA(r:ZaH)(a:Zof=some r):Yp 310 [] (.one (ZaH.c r)):=by
 refine Yw Tryz.func310 fun S0 w0=>?_;unfold Zof at a;apply Yb a 4 [rz,⟨[],[],[],[],[(0,[(0,Zav.c Zav.nil),(1,Zav.c Zav.nil)])],[],[]⟩] [] [2] [] [] .n
def ZgF(a:Zai):Option Int:=bif a.fV6 then some (1:Int)else some (0:Int)
theorem ZeJ(d:Zai)(r:Int)(a:ZgF d=some r):Yp 314 [.agg (Zai.c d)] (Yj r):=by
 refine Yw Tryz.func314 fun S0 w0=>?_;unfold ZgF at a;obtain⟨b,a⟩|⟨b,a⟩:=Zaj a
 .apply Ya a 8 [rz,rz,rz] [true] (.c b .n)
 .apply Ya a 9 [rz,rz,rz] [false] (.c b .n)
def ZhF(c:Zai)(a:Int):Option Int:=(ZdR c).bind fun b=>bif(decide (a<(0:Int)))then some (0:Int)else bif(decide (a>=b))then some (0:Int)else bif(decide ((ZbT (ZbT b (1:Int)) a)>=(64:Int)))then need (0<=(ZbT (ZbT (ZbT b (1:Int)) a) (64:Int)))<|some (IntKind.wrap .i64 (IntKind.wrap .u64 (((BitVec.ofInt (IntKind.bits .u64) (Int.fdiv c.fHi (2 ^ (min (ZbT (ZbT (ZbT b (1:Int)) a) (64:Int)).toNat (IntKind.bits .u64))))) &&& (BitVec.ofInt (IntKind.bits .u64) (1:Int))).toNat:Int)))else need (0<=(ZbT (ZbT b (1:Int)) a))<|some (IntKind.wrap .i64 (IntKind.wrap .u64 (((BitVec.ofInt (IntKind.bits .u64) (Int.fdiv c.fLo (2 ^ (min (ZbT (ZbT b (1:Int)) a).toNat (IntKind.bits .u64))))) &&& (BitVec.ofInt (IntKind.bits .u64) (1:Int))).toNat:Int)))
theorem ZkI(h:Zai)(i r:Int)(a:ZhF h i=some r):Yp 315 [.agg (Zai.c h),Yj i] (Yj r):=by
 refine Yw Tryz.func315 fun S0 w0=>?_;unfold ZhF at a;obtain⟨d,e,a⟩:=Zac a;obtain⟨b,a⟩|⟨b,a⟩:=Zaj a
 .apply Ya a 10 [rz,rA [(1,aI d)],rB [(2,true)],rz] [true] (.c (Zhh _ _ e) (.c b (.c (show true=true from rfl) .n)))
 .obtain⟨f,a⟩|⟨f,a⟩:=Zaj a
  .apply Ya a 10 [rz,rA [(1,aI d)],rB [(2,false)],rz] [true] (.c (Zhh _ _ e) (.c b (.c f .n)))
  .let R1:List RA:=[rz,rA [(1,aI d)],rB [(2,false)],rz,rz,rz]
   have O2:Obl _:=(.c (Zhh _ _ e) (.c b (.c f .n)));obtain⟨g,a⟩|⟨g,a⟩:=Zaj a
   .obtain⟨j,a⟩:=Zar a;apply Ya a 17 R1 [false,true] (O2.app (.c g (.c j .n)))
   .obtain⟨k,a⟩:=Zar a;apply Ya a 18 R1 [false,false] (O2.app (.c g (.c k .n)))
def Zig(a:Zag)(b:Int):Option Int:=(ZhF a.fAddr b).bind fun c=>some c
theorem Zdr(b:Zag)(d r:Int)(a:Zig b d=some r):Yp 358 [.agg (Zag.c b),Yj d] (Yj r):=by
 refine Yw Tryz.func358 fun S0 w0=>?_;unfold Zig at a;obtain⟨e,f,a⟩:=Zac a;apply Ya a 4 [rz,rA [(3,aI e)]] [] (.c (ZkI _ _ _ f) .n)
def Zds:Nat->Zav->Zag->Option (Int×Bool)|0,_,_=>none|fu+1,g,b=>(match g with | .nil=>some ((0:Int),false) | .mk a c d e=>bif(decide (a.fNet.fBits<b.fBits))then(Zig b a.fNet.fBits).bind fun f=>need (0<=f/\f<((2:Nat):Int))<|ix2 f ( Zds fu d b) ( Zds fu e b)else bif(!c)then some ((0:Int),false)else bif(!(decide (a.fNet=b)))then some ((0:Int),false)else some (a.fV,true))
theorem Zly(S0:Nat->Prop)(w0:ZaW):∀(j:Nat)(f:Zav)(b:Zag)(r:(Int×Bool)),Zds j f b=some r->Ys 71 S0 w0 Tryz.f311 (.tup [(false,(cI .i64) r.1),(false,cB r.2)]) [1,1,1,0,0] ⟨[(3,.one (.ptr 3 0)),(6,.one (Zav.c f))],[(3,.box [.lit (.bool b.fAddr.fV6),.lit (.int .u64 b.fAddr.fHi),.lit (.int .u64 b.fAddr.fLo),.lit (.int .i64 b.fBits)])]⟩:=by
 intro j;induction j with
 |zero=>
  intro f b r a;simp[Zds]at a
 |succ j m=>
  intro f b r a;unfold Zds at a;cases f with
  |nil=>
   dsimp only at a;apply Ya a 12 [rz,rz,rz] [false,true] (.c (show false=false from rfl) (.c (show true=true from rfl) .n))
  |mk d o g h=>
   dsimp only at a;obtain⟨i,a⟩|⟨i,a⟩:=Zaj a
   .obtain⟨s,p,a⟩:=Zac a;obtain⟨q,a⟩:=Zar a;rcases Zjs q a with⟨e,a⟩|⟨e,a⟩
    .subst e;exact Ye 10 [rz,rA [(8,aI (0:Int))]] [true] ⟨[],[],[],[],[],[3,6],[3],[]⟩ (.c i (.c (Zdr _ _ _ p) (.c (show 0<=(0:Int)/\(0:Int)<((2:Nat):Int)from(by decide)) .n))) (m g b r a)
    .subst e;exact Ye 10 [rz,rA [(8,aI (1:Int))]] [true] ⟨[],[],[],[],[],[3,6],[3],[]⟩ (.c i (.c (Zdr _ _ _ p) (.c (show 0<=(1:Int)/\(1:Int)<((2:Nat):Int)from(by decide)) .n))) (m h b r a)
   .obtain⟨k,a⟩|⟨k,a⟩:=Zaj a
    .apply Ya a 12 [rz,rB [(9,true)],rz] [false,true] (.c i (.c k (.c (show true=true from rfl) .n)))
    .let R1:List RA:=[rz,⟨[(16,aB (!(decide (d.fNet=b))))],[(9,false)],[],[],[],[],[]⟩,rz]
     have O2:Obl _:=(.c i (.c k (.c (Zsn d.fNet b (.tmp 62) (.tmp 63)) .n)));obtain⟨l,a⟩|⟨l,a⟩:=Zaj a
     .apply Ya a 12 R1 [false,true] (O2.app (.c l .n))
     .apply Ya a 13 R1 [false,false] (O2.app (.c l .n))
def Zhv(f:ZaH)(c:Zag):Option (Int×Bool):=(match f with | .nil=>some ((0:Int),false) | .mk a b e=>(ZhG c).bind fun g=>bif(!g)then some ((0:Int),false)else(ZgF c.fAddr).bind fun d=>need (0<=d/\d<((2:Nat):Int))<|ix2 d ( Zds 1000000 a c) ( Zds 1000000 b c))
theorem ZgG(h:ZaH)(f:Zag)(r:(Int×Bool))(a:Zhv h f=some r):Yp 311 [.one (ZaH.c h),.agg (Zag.c f)] (.tup [(false,(cI .i64) r.1),(false,cB r.2)]):=by
 refine Yw Tryz.func311 fun S0 w0=>?_;unfold Zhv at a;cases h with
 |nil=>
  dsimp only at a;apply Ya a 8 [rz,rz,rz] [true] (.c (show true=true from rfl) .n)
 |mk b d k=>
  dsimp only at a;obtain⟨i,j,a⟩:=Zac a;obtain⟨g,a⟩|⟨g,a⟩:=Zaj a
  .apply Ya a 8 [rz,rA [(4,aB i)],rz] [true] (.c (ZdE _ _ j) (.c g .n))
  .obtain⟨o,l,a⟩:=Zac a;obtain⟨m,a⟩:=Zar a;rcases Zjs m a with⟨e,a⟩|⟨e,a⟩
   .subst e;exact Ye 11 [rz,rA [(4,aB i)],rA [(3,aI (0:Int))]] [false] ⟨[],[],[],[],[],[3,6],[3],[]⟩ (.c (ZdE _ _ j) (.c g (.c (ZeJ _ _ l) (.c (show 0<=(0:Int)/\(0:Int)<((2:Nat):Int)from(by decide)) .n)))) (Zly S0 w0 1000000 b f r a)
   .subst e;exact Ye 11 [rz,rA [(4,aB i)],rA [(3,aI (1:Int))]] [false] ⟨[],[],[],[],[],[3,6],[3],[]⟩ (.c (ZdE _ _ j) (.c g (.c (ZeJ _ _ l) (.c (show 0<=(1:Int)/\(1:Int)<((2:Nat):Int)from(by decide)) .n)))) (Zly S0 w0 1000000 d f r a)
def Zpo(a:Zaf)(b:Int):Option Bool:=some (decide (b<a.fUntil))
theorem ZwL(a:Zaf)(b:Int)(r:Bool)(d:Zpo a b=some r):Yp 312 [.agg (Zaf.c a),Yj b] (Yk r):=by
 refine Yw Tryz.func312 fun S0 w0=>?_;unfold Zpo at d;apply Ya d 4 [rz,rz] [] .n
def ZeB(a b:Int):Option Int:=bif(decide (a>=(256:Int)))then need (0<=(IntKind.wrap .u8 (Int.fdiv a (2 ^ (min (8:Int).toNat (IntKind.bits .u64)))))/\(IntKind.wrap .u8 (Int.fdiv a (2 ^ (min (8:Int).toNat (IntKind.bits .u64)))))<(((Yy : ByteArray).size:Nat):Int))<|some (ZaA (ZaA b 8) (IntKind.wrap .i64 ((ZkX (Yy : ByteArray) (IntKind.wrap .u8 (Int.fdiv a (2 ^ (min (8:Int).toNat (IntKind.bits .u64))))).toNat:Nat):Int)))else need (0<=(IntKind.wrap .u8 a)/\(IntKind.wrap .u8 a)<(((Yy : ByteArray).size:Nat):Int))<|some (ZaA b (IntKind.wrap .i64 ((ZkX (Yy : ByteArray) (IntKind.wrap .u8 a).toNat:Nat):Int)))
theorem Zkq(S0:Nat->Prop)(w0:ZaW)(d e r:Int)(a:ZeB d e=some r):Ys 25 S0 w0 Tryz.f416 (Yj r) [1,1,1] ⟨[(0,.one (.lit (.int .u64 d))),(2,(Yj e))],[]⟩:=by
 unfold ZeB at a;obtain⟨b,a⟩|⟨b,a⟩:=Zaj a
 .obtain⟨f,a⟩:=Zar a;apply Ya a 9 [rz,rz,rz,rz] [true] (.c b (.c (show 0<=(8:Int)from(by decide)) (.c f .n)))
 .obtain⟨g,a⟩:=Zar a;apply Ya a 7 [rz,rz] [false] (.c b (.c g .n))
def ZeC(a b:Int):Option Int:=bif(decide (a>=(65536:Int)))then ZeB (Int.fdiv a (2 ^ (min (16:Int).toNat (IntKind.bits .u64)))) (ZaA b 16)else ZeB a b
theorem Zkr(S0:Nat->Prop)(w0:ZaW)(b d r:Int)(a:ZeC b d=some r):Ys 25 S0 w0 Tryz.f416 (Yj r) [1,1] ⟨[(0,.one (.lit (.int .u64 b))),(2,(Yj d))],[]⟩:=by
 unfold ZeC at a;obtain⟨e,a⟩|⟨e,a⟩:=Zaj a
 .exact Ye 7 [rz,rz,rz] [true] (Yi [0,2]) (.c e (.c (show 0<=(16:Int)from(by decide)) .n)) (Zkq S0 w0 (Int.fdiv b (2 ^ (min (16:Int).toNat (IntKind.bits .u64)))) (ZaA d 16) r a)
 .exact Ye 5 [rz] [false] (Yi [0,2]) (.c e .n) (Zkq S0 w0 b d r a)
def ZhC(a:Int):Option Int:=bif(decide (a>=(4294967296:Int)))then ZeC (Int.fdiv a (2 ^ (min (32:Int).toNat (IntKind.bits .u64)))) (32:Int)else ZeC a (0:Int)
theorem Zrl(b r:Int)(a:ZhC b=some r):Yp 416 [.one (.lit (.int .u64 b))] (Yj r):=by
 refine Yw Tryz.func416 fun S0 w0=>?_;unfold ZhC at a;obtain⟨d,a⟩|⟨d,a⟩:=Zaj a
 .exact Ye 9 [rz,rz,rz,rz] [true] (Yi [0,2]) (.c d (.c (show 0<=(32:Int)from(by decide)) .n)) (Zkr S0 w0 (Int.fdiv b (2 ^ (min (32:Int).toNat (IntKind.bits .u64)))) (32:Int) r a)
 .exact Ye 7 [rz,rz] [false] (Yi [0,2]) (.c d .n) (Zkr S0 w0 b (0:Int) r a)
def ZcU(a:Int):Option Int:=(ZhC a).bind fun b=>some (ZbT (64:Int) b)
theorem Zid(b r:Int)(a:ZcU b=some r):Yp 402 [.one (.lit (.int .u64 b))] (Yj r):=by
 refine Yw Tryz.func402 fun S0 w0=>?_;unfold ZcU at a;obtain⟨d,e,a⟩:=Zac a;apply Ya a 4 [rz,rA [(1,aI d)]] [] (.c (Zrl _ _ e) .n)
def ZfG(a b:Int)(c:Zag):Option Int:=bif(!c.fAddr.fV6)then(ZdR c.fAddr).bind fun d=>some (if a<(ZbT b (ZbT (128:Int) d))then a else(ZbT b (ZbT (128:Int) d)))else some (if a<b then a else b)
theorem Zmt(S0:Nat->Prop)(w0:ZaW)(e f:Int)(b:Zag)(r:Int)(a:ZfG e f b=some r):Ys 48 S0 w0 Tryz.f384 (Yj r) [1,1,1,1,1] ⟨[(2,.one (.ptr 2 0)),(5,(Yj e)),(8,(Yj f))],[(2,.box [.lit (.bool b.fAddr.fV6),.lit (.int .u64 b.fAddr.fHi),.lit (.int .u64 b.fAddr.fLo),.lit (.int .i64 b.fBits)])]⟩:=by
 unfold ZfG at a;obtain⟨d,a⟩|⟨d,a⟩:=Zaj a
 .obtain⟨g,h,a⟩:=Zac a;apply Ya a 7 [rz,rA [(3,aI g)],rz] [true] (.c d (.c (Zhh _ _ h) .n))
 .apply Ya a 7 [rz,rz] [false] (.c d .n)
def Zkd(a b:Zag):Option Int:=(ZcU (IntKind.wrap .u64 (((BitVec.ofInt (IntKind.bits .u64) a.fAddr.fHi) ^^^ (BitVec.ofInt (IntKind.bits .u64) b.fAddr.fHi)).toNat:Int))).bind fun c=>bif((IntKind.wrap .u64 (((BitVec.ofInt (IntKind.bits .u64) a.fAddr.fHi) ^^^ (BitVec.ofInt (IntKind.bits .u64) b.fAddr.fHi)).toNat:Int))==(0:Int))then(ZcU (IntKind.wrap .u64 (((BitVec.ofInt (IntKind.bits .u64) a.fAddr.fLo) ^^^ (BitVec.ofInt (IntKind.bits .u64) b.fAddr.fLo)).toNat:Int))).bind fun d=>ZfG (if b.fBits<a.fBits then b.fBits else a.fBits) (ZaA (64:Int) d) a else ZfG (if b.fBits<a.fBits then b.fBits else a.fBits) c a
theorem Zjt(b d:Zag)(r:Int)(a:Zkd b d=some r):Yp 384 [.agg (Zag.c b),.agg (Zag.c d)] (Yj r):=by
 refine Yw Tryz.func384 fun S0 w0=>?_;unfold Zkd at a;obtain⟨e,h,a⟩:=Zac a;have O1:Obl _:=(.c (Zid _ _ h) .n);obtain⟨f,a⟩|⟨f,a⟩:=Zaj a
 .obtain⟨g,i,a⟩:=Zac a;exact Ye 13 [rz,rz,rz,rA [(1,aI e)],rz,rA [(1,aI g)]] [true] ⟨[],[],[],[],[],[2,5,8],[2],[]⟩ (O1.app (.c f (.c (Zid _ _ i) .n))) (Zmt S0 w0 (if d.fBits<b.fBits then d.fBits else b.fBits) (ZaA (64:Int) g) b r a)
 .exact Ye 13 [rz,rz,rz,rA [(1,aI e)],rz] [false] ⟨[],[],[],[],[],[2,5,8],[2],[]⟩ (O1.app (.c f .n)) (Zmt S0 w0 (if d.fBits<b.fBits then d.fBits else b.fBits) e b r a)
def Zke(p:Zav)(a:ZiF)(j:Int):Option Zav:=bif(j==a.fhit.fNet.fBits)then(match p with | .nil=>none | .mk b d e f=>(Zig b.fNet j).bind fun l=>need (0<=l/\l<((2:Nat):Int))<|ix2 l ( some (Zav.mk a.fhit a.fhas (Zav.mk b d e f) a.fkids.2)) ( some (Zav.mk a.fhit a.fhas a.fkids.1 (Zav.mk b d e f))))else(ZfH a.fhit.fNet.fAddr j).bind fun k=>(match p with | .nil=>none | .mk c g h i=>(Zig c.fNet j).bind fun m=>need (0<=m/\m<((2:Nat):Int))<|ix2 m ( (Zig a.fhit.fNet j).bind fun n=>need (0<=n/\n<((2:Nat):Int))<|ix2 n ( some (Zav.mk (Zaw.mk k.1 0) false (Zav.mk a.fhit a.fhas a.fkids.1 a.fkids.2) Zav.nil)) ( some (Zav.mk (Zaw.mk k.1 0) false (Zav.mk c g h i) (Zav.mk a.fhit a.fhas a.fkids.1 a.fkids.2)))) ( (Zig a.fhit.fNet j).bind fun o=>need (0<=o/\o<((2:Nat):Int))<|ix2 o ( some (Zav.mk (Zaw.mk k.1 0) false (Zav.mk a.fhit a.fhas a.fkids.1 a.fkids.2) (Zav.mk c g h i))) ( some (Zav.mk (Zaw.mk k.1 0) false Zav.nil (Zav.mk a.fhit a.fhas a.fkids.1 a.fkids.2)))))
theorem Ztu(f:Zav)(j:ZiF)(k:Int)(r:Zav)(a:Zke f j k=some r):Yq 385 [(100000,.box (ZiF.c j))] [.one (Zav.c f),.one (.ptr 100000 0),Yj k] [] (.one (Zav.c r)):=by
 refine Yx Tryz.func385 fun S0 w0=>?_;unfold Zke at a;obtain⟨d,a⟩|⟨d,a⟩:=Zaj a
 .cases f with
  |nil=>
   dsimp only at a;cases a
  |mk l m o p=>
   dsimp only at a;obtain⟨B,q,a⟩:=Zac a;obtain⟨y,a⟩:=Zar a;rcases Zjs y a with⟨e,a⟩|⟨e,a⟩
   .subst e;apply Yc a 10 [rz,rz,rA [(7,aI (0:Int))],rz] [true] ⟨[100000],[],[],[],[],[6],[],[]⟩ (.c d (.c (Zdr _ _ _ q) (.c (show 0<=(0:Int)/\(0:Int)<((2:Nat):Int)from(by decide)) .n)))
   .subst e;apply Yc a 10 [rz,rz,rA [(7,aI (1:Int))],rz] [true] ⟨[100000],[],[],[],[],[6],[],[]⟩ (.c d (.c (Zdr _ _ _ q) (.c (show 0<=(1:Int)/\(1:Int)<((2:Nat):Int)from(by decide)) .n)))
 .obtain⟨b,g,a⟩:=Zac a;cases f with
  |nil=>
   dsimp only at a;cases a
  |mk s t u v=>
   dsimp only at a;obtain⟨C,h,a⟩:=Zac a;obtain⟨z,a⟩:=Zar a;rcases Zjs z a with⟨e,a⟩|⟨e,a⟩
   .subst e;obtain⟨D,w,a⟩:=Zac a;obtain⟨A,a⟩:=Zar a;rcases Zjs A a with⟨e,a⟩|⟨e,a⟩
    .subst e;apply Yc a 17 [rz,rz,rA [(7,.r (.tup [(true,Zag.c b.1),(false,cB b.2)]) [])],⟨[],[],[],[],[(2,[(6,Zav.c Zav.nil),(7,Zav.c Zav.nil)])],[],[]⟩,rA [(7,aI (0:Int))],rA [(7,aI (0:Int))],rz] [false] ⟨[100000,45],[],[],[],[],[6],[],[]⟩ (.c d (.c (Zgh _ _ _ g) (.c (Zdr _ _ _ h) (.c (show 0<=(0:Int)/\(0:Int)<((2:Nat):Int)from(by decide)) (.c (Zdr _ _ _ w) (.c (show 0<=(0:Int)/\(0:Int)<((2:Nat):Int)from(by decide)) .n))))))
    .subst e;apply Yc a 17 [rz,rz,rA [(7,.r (.tup [(true,Zag.c b.1),(false,cB b.2)]) [])],⟨[],[],[],[],[(2,[(6,Zav.c Zav.nil),(7,Zav.c Zav.nil)])],[],[]⟩,rA [(7,aI (0:Int))],rA [(7,aI (1:Int))],rz] [false] ⟨[100000,45],[],[],[],[],[6],[],[]⟩ (.c d (.c (Zgh _ _ _ g) (.c (Zdr _ _ _ h) (.c (show 0<=(0:Int)/\(0:Int)<((2:Nat):Int)from(by decide)) (.c (Zdr _ _ _ w) (.c (show 0<=(1:Int)/\(1:Int)<((2:Nat):Int)from(by decide)) .n))))))
   .subst e;obtain⟨E,x,a⟩:=Zac a;obtain⟨i,a⟩:=Zar a;rcases Zjs i a with⟨e,a⟩|⟨e,a⟩
    .subst e;apply Yc a 17 [rz,rz,rA [(7,.r (.tup [(true,Zag.c b.1),(false,cB b.2)]) [])],⟨[],[],[],[],[(2,[(6,Zav.c Zav.nil),(7,Zav.c Zav.nil)])],[],[]⟩,rA [(7,aI (1:Int))],rA [(7,aI (0:Int))],rz] [false] ⟨[100000,45],[],[],[],[],[6],[],[]⟩ (.c d (.c (Zgh _ _ _ g) (.c (Zdr _ _ _ h) (.c (show 0<=(1:Int)/\(1:Int)<((2:Nat):Int)from(by decide)) (.c (Zdr _ _ _ x) (.c (show 0<=(0:Int)/\(0:Int)<((2:Nat):Int)from(by decide)) .n))))))
    .subst e;apply Yc a 17 [rz,rz,rA [(7,.r (.tup [(true,Zag.c b.1),(false,cB b.2)]) [])],⟨[],[],[],[],[(2,[(6,Zav.c Zav.nil),(7,Zav.c Zav.nil)])],[],[]⟩,rA [(7,aI (1:Int))],rA [(7,aI (1:Int))],rz] [false] ⟨[100000,45],[],[],[],[],[6],[],[]⟩ (.c d (.c (Zgh _ _ _ g) (.c (Zdr _ _ _ h) (.c (show 0<=(1:Int)/\(1:Int)<((2:Nat):Int)from(by decide)) (.c (Zdr _ _ _ x) (.c (show 0<=(1:Int)/\(1:Int)<((2:Nat):Int)from(by decide)) .n))))))
def ZeX:Nat->Zav->Zaw->Option Zav|0,_,_=>none|fu+1,h,e=>(match h with | .nil=>some (Zav.mk e true Zav.nil Zav.nil) | .mk a d b c=>(Zkd a.fNet e.fNet).bind fun f=>bif(decide (f<a.fNet.fBits))then(Zke (Zav.mk a d b c) (ZiF.mk e true (Zav.nil,Zav.nil)) f).bind fun i=>some i else bif(f==e.fNet.fBits)then some (Zav.mk e true b c)else(Zig e.fNet f).bind fun g=>need (0<=g/\g<((2:Nat):Int))<|ix2 g ( (ZeX fu b e).bind fun j=>some (Zav.mk a d j c)) ( (ZeX fu c e).bind fun k=>some (Zav.mk a d b k)))
theorem Zlk:∀(f:Nat)(b:Zav)(g:Zaw)(r:Zav)(a:ZeX f b g=some r),Yp 359 [.one (Zav.c b),.agg (Zaw.c g)] (.one (Zav.c r)):=by
 intro f;induction f with
 |zero=>
  intro b g r a;simp[ZeX]at a
 |succ f k=>
  intro b g r a;refine Yw Tryz.func359 fun S0 w0=>?_;unfold ZeX at a;cases b with
  |nil=>
   dsimp only at a;apply Yb a 8 [rz,rz,⟨[],[],[],[],[(1,[(6,Zav.c Zav.nil),(7,Zav.c Zav.nil)])],[],[]⟩] [true] [12] [] [] (.c (show true=true from rfl) .n)
  |mk l m o p=>
   dsimp only at a;obtain⟨h,i,a⟩:=Zac a;obtain⟨d,a⟩|⟨d,a⟩:=Zaj a
   .obtain⟨s,t,a⟩:=Zac a;apply Ya a 15 [rz,rz,rA [(7,aI h)],rz,⟨[],[],[],[],[(2,[(6,Zav.c Zav.nil),(7,Zav.c Zav.nil)])],[],[(5,⟨[(100000,32)],[],[],.one (Zav.c s)⟩)]⟩] [false,true] (.c (show false=false from rfl) (.c (Zjt _ _ _ i) (.c d (.c (Ztu _ _ _ _ t) .n))))
   .obtain⟨j,a⟩|⟨j,a⟩:=Zaj a
    .apply Yb a 24 [rz,rz,rA [(7,aI h)],rz,rz,rz,rz,rz] [false,false,true] [6] [] [] (.c (show false=false from rfl) (.c (Zjt _ _ _ i) (.c d (.c j .n))))
    .obtain⟨z,q,a⟩:=Zac a;obtain⟨u,a⟩:=Zar a;rcases Zjs u a with⟨e,a⟩|⟨e,a⟩
     .subst e;obtain⟨v,w,a⟩:=Zac a;apply Yb a 27 [rz,rz,rA [(7,aI h)],rz,rz,rz,rA [(3,aI (0:Int))],rA [(8,.r (.one (Zav.c v)) [])],rz] [false,false,false] [6] [] [] (.c (show false=false from rfl) (.c (Zjt _ _ _ i) (.c d (.c j (.c (Zdr _ _ _ q) (.c (show 0<=(0:Int)/\(0:Int)<((2:Nat):Int)from(by decide)) (.c (k _ _ _ w) (.c (show 0<=(0:Int)/\(0:Int)<((2:Nat):Int)from(by decide)) .n))))))))
     .subst e;obtain⟨x,y,a⟩:=Zac a;apply Yb a 27 [rz,rz,rA [(7,aI h)],rz,rz,rz,rA [(3,aI (1:Int))],rA [(8,.r (.one (Zav.c x)) [])],rz] [false,false,false] [6] [] [] (.c (show false=false from rfl) (.c (Zjt _ _ _ i) (.c d (.c j (.c (Zdr _ _ _ q) (.c (show 0<=(1:Int)/\(1:Int)<((2:Nat):Int)from(by decide)) (.c (k _ _ _ y) (.c (show 0<=(1:Int)/\(1:Int)<((2:Nat):Int)from(by decide)) .n))))))))
def ZeY(e:Int)(j:ZaH)(d:Zag):Option ZaH:=(match j with | .nil=>none | .mk a b c=>(ZhG d).bind fun k=>bif(!k)then some (ZaH.mk a b c)else(Zhv (ZaH.mk a b c) d).bind fun l=>bif(!l.2)then(ZgF d.fAddr).bind fun f=>need (0<=f/\f<((2:Nat):Int))<|ix2 f ( (ZeX 1000 a (Zaw.mk d e)).bind fun m=>some (ZaH.mk m b (ZaA c 1))) ( (ZeX 1000 b (Zaw.mk d e)).bind fun n=>some (ZaH.mk a n (ZaA c 1)))else(ZgF d.fAddr).bind fun g=>need (0<=g/\g<((2:Nat):Int))<|ix2 g ( (ZeX 1000 a (Zaw.mk d e)).bind fun h=>some (ZaH.mk h b c)) ( (ZeX 1000 b (Zaw.mk d e)).bind fun i=>some (ZaH.mk a i c)))
theorem ZkQ(S0:Nat->Prop)(w0:ZaW)(t:Int)(l:ZaH)(f:Zag)(r:ZaH)(a:ZeY t l f=some r):Ys 48 S0 w0 Tryz.f313 (.one (ZaH.c r)) [1,1] ⟨[(0,.one (ZaH.c l)),(2,(Yj t)),(4,.one (.ptr 4 0))],[(4,.box [.lit (.bool f.fAddr.fV6),.lit (.int .u64 f.fAddr.fHi),.lit (.int .u64 f.fAddr.fLo),.lit (.int .i64 f.fBits)])]⟩:=by
 unfold ZeY at a;cases l with
 |nil=>
  dsimp only at a;cases a
 |mk u v w=>
  dsimp only at a;obtain⟨g,h,a⟩:=Zac a;obtain⟨d,a⟩|⟨d,a⟩:=Zaj a
  .apply Yb a 8 [rz,rA [(1,aB g)],rz] [true] [7] [] [] (.c (ZdE _ _ h) (.c d .n))
  .obtain⟨b,k,a⟩:=Zac a;obtain⟨i,a⟩|⟨i,a⟩:=Zaj a
   .obtain⟨D,x,a⟩:=Zac a;obtain⟨y,a⟩:=Zar a;rcases Zjs y a with⟨e,a⟩|⟨e,a⟩
    .subst e;obtain⟨z,A,a⟩:=Zac a;apply Yb a 20 [rz,rA [(1,aB g)],rA [(2,.r (.tup [(false,(cI .i64) b.1),(false,cB b.2)]) [])],rz,rz,rA [(2,aI (0:Int))],rA [(10,.r (.one (Zav.c z)) [])],rz] [false,true] [7] [] [] (.c (ZdE _ _ h) (.c d (.c (ZgG _ _ _ k) (.c i (.c (ZeJ _ _ x) (.c (show 0<=(0:Int)/\(0:Int)<((2:Nat):Int)from(by decide)) (.c (Zlk 1000 _ _ _ A) (.c (show 0<=(0:Int)/\(0:Int)<((2:Nat):Int)from(by decide)) .n))))))))
    .subst e;obtain⟨B,C,a⟩:=Zac a;apply Yb a 20 [rz,rA [(1,aB g)],rA [(2,.r (.tup [(false,(cI .i64) b.1),(false,cB b.2)]) [])],rz,rz,rA [(2,aI (1:Int))],rA [(10,.r (.one (Zav.c B)) [])],rz] [false,true] [7] [] [] (.c (ZdE _ _ h) (.c d (.c (ZgG _ _ _ k) (.c i (.c (ZeJ _ _ x) (.c (show 0<=(1:Int)/\(1:Int)<((2:Nat):Int)from(by decide)) (.c (Zlk 1000 _ _ _ C) (.c (show 0<=(1:Int)/\(1:Int)<((2:Nat):Int)from(by decide)) .n))))))))
   .obtain⟨E,j,a⟩:=Zac a;obtain⟨m,a⟩:=Zar a;rcases Zjs m a with⟨e,a⟩|⟨e,a⟩
    .subst e;obtain⟨o,p,a⟩:=Zac a;apply Yb a 20 [rz,rA [(1,aB g)],rA [(2,.r (.tup [(false,(cI .i64) b.1),(false,cB b.2)]) [])],rz,rA [(2,aI (0:Int))],rA [(10,.r (.one (Zav.c o)) [])],rz] [false,false] [7] [] [] (.c (ZdE _ _ h) (.c d (.c (ZgG _ _ _ k) (.c i (.c (ZeJ _ _ j) (.c (show 0<=(0:Int)/\(0:Int)<((2:Nat):Int)from(by decide)) (.c (Zlk 1000 _ _ _ p) (.c (show 0<=(0:Int)/\(0:Int)<((2:Nat):Int)from(by decide)) .n))))))))
    .subst e;obtain⟨q,s,a⟩:=Zac a;apply Yb a 20 [rz,rA [(1,aB g)],rA [(2,.r (.tup [(false,(cI .i64) b.1),(false,cB b.2)]) [])],rz,rA [(2,aI (1:Int))],rA [(10,.r (.one (Zav.c q)) [])],rz] [false,false] [7] [] [] (.c (ZdE _ _ h) (.c d (.c (ZgG _ _ _ k) (.c i (.c (ZeJ _ _ j) (.c (show 0<=(1:Int)/\(1:Int)<((2:Nat):Int)from(by decide)) (.c (Zlk 1000 _ _ _ s) (.c (show 0<=(1:Int)/\(1:Int)<((2:Nat):Int)from(by decide)) .n))))))))
def ZeK(f:ZaH)(d:Zag)(e:Int):Option ZaH:=(match f with | .nil=>(Zof).bind fun g=>ZeY e g d | .mk a b c=>ZeY e (ZaH.mk a b c) d)
theorem Zmu(h:ZaH)(f:Zag)(g:Int)(r:ZaH)(a:ZeK h f g=some r):Yp 313 [.one (ZaH.c h),.agg (Zag.c f),Yj g] (.one (ZaH.c r)):=by
 refine Yw Tryz.func313 fun S0 w0=>?_;unfold ZeK at a;cases h with
 |nil=>
  dsimp only at a;obtain⟨i,j,a⟩:=Zac a;exact Ye 7 [rz,rz,rA [(0,.r (.one (ZaH.c i)) [])]] [true] ⟨[],[],[],[],[],[0,2,4],[4],[]⟩ (.c (show true=true from rfl) (.c (ZsA _ j) .n)) (ZkQ S0 w0 g i f r a)
 |mk b d e=>
  dsimp only at a;exact Ye 7 [rz,rz] [false] ⟨[],[],[],[],[],[0,2,4],[4],[]⟩ (.c (show false=false from rfl) .n) (ZkQ S0 w0 g (ZaH.mk b d e) f r a)
def ZdF(f:Int):Nat->ZaH->(List Zaf)->Int->Int->Option ZaH|0,_,_,_,_=>none|fu+1,e,b,c,a=>bif(decide (a<c))then need (0<=a/\a<(b.length:Int))<|(Zhv e ((b.getD a.toNat Zaf.d).fNet)).bind fun g=>(Zpo (b.getD a.toNat Zaf.d) f).bind fun h=>bif h then bif(!g.2)then(ZeK e ((b.getD a.toNat Zaf.d).fNet) ((b.getD a.toNat Zaf.d).fUntil)).bind fun i=>ZdF f fu i b c (ZaA a 1)else bif(decide (g.1<(b.getD a.toNat Zaf.d).fUntil))then(ZeK e ((b.getD a.toNat Zaf.d).fNet) ((b.getD a.toNat Zaf.d).fUntil)).bind fun j=>ZdF f fu j b c (ZaA a 1)else ZdF f fu e b c (ZaA a 1)else ZdF f fu e b c (ZaA a 1)else some e
theorem ZsK(S0:Nat->Prop)(w0:ZaW)(p:Int):∀(h:Nat)(f:ZaH)(b:List Zaf)(d e:Int)(r:ZaH),ZdF p h f b d e=some r->Ys 45 S0 w0 Tryz.f242 (.one (ZaH.c r)) [1,1,0,1,0] ⟨[(1,(Yj p)),(5,.one (ZaH.c f)),(11,(Yl b)),(12,(Yj d)),(13,(Yj e))],[]⟩:=by
 intro h;induction h with
 |zero=>
  intro f b d e r a;simp[ZdF]at a
 |succ h i=>
  intro f b d e r a;unfold ZdF at a;obtain⟨k,a⟩|⟨k,a⟩:=Zaj a
  .obtain⟨u,a⟩:=Zar a;obtain⟨q,v,a⟩:=Zac a;obtain⟨l,w,a⟩:=Zac a
   let R1:List RA:=[rz,rz,rA [(3,.r (.tup [(false,(cI .i64) q.1),(false,cB q.2)]) [])]]
   have O2:Obl _:=(.c k (.c u (.c (ZgG _ _ _ v) (.c (ZwL _ _ _ w) .n))));obtain⟨g,a⟩|⟨g,a⟩:=Zaj a
   .obtain⟨j,a⟩|⟨j,a⟩:=Zaj a
    .obtain⟨s,x,a⟩:=Zac a;exact Ye 19 (R1++[⟨[(2,aB l)],[(3,true),(6,true)],[],[],[],[],[]⟩,rA [(5,.r (.one (ZaH.c s)) [])],rz]) [true,true] (Yi [1,5,11,12,13]) (O2.app (.c g (.c j (.c (show true=true from rfl) (.c (Zmu _ _ _ _ x) .n))))) (i s b d (ZaA e 1) r a)
    .let R3:List RA:=(R1++[⟨[(2,aB l)],[(3,true),(6,false)],[],[],[],[],[]⟩])
     obtain⟨m,a⟩|⟨m,a⟩:=Zaj a
     .obtain⟨t,o,a⟩:=Zac a;exact Ye 19 (R3++[rA [(5,.r (.one (ZaH.c t)) [])],rz]) [true,true] (Yi [1,5,11,12,13]) (O2.app (.c g (.c j (.c m (.c (Zmu _ _ _ _ o) .n))))) (i t b d (ZaA e 1) r a)
     .exact Ye 19 (R3++[rz]) [true,false] (Yi [1,5,11,12,13]) (O2.app (.c g (.c j (.c m .n)))) (i f b d (ZaA e 1) r a)
   .exact Ye 19 (R1++[⟨[(2,aB l)],[(3,false)],[],[],[],[],[]⟩,rz]) [true,false] (Yi [1,5,11,12,13]) (O2.app (.c g (.c (show false=false from rfl) .n))) (i f b d (ZaA e 1) r a)
  .apply Ya a 8 [rz,rz] [false] (.c k .n)
def ZlK(a:List Zaf)(b:Int):Option ZaH:=(Zof).bind fun c=>ZdF b (((a.length:Int)-(0:Int)).toNat+2) c a (a.length:Int) (0:Int)
theorem ZvK(a:List Zaf)(d:Int)(r:ZaH)(b:ZlK a d=some r):Yp 242 [Yl a,Yj d] (.one (ZaH.c r)):=by
 refine Yw Tryz.func242 fun S0 w0=>?_;unfold ZlK at b;obtain⟨e,f,b⟩:=Zac b;exact Ye 8 [rz,rA [(0,.r (.one (ZaH.c e)) [])],rz] [] (Yi [1,5,11,12,13]) (.c (ZsA _ f) .n) (ZsK S0 w0 d (((a.length:Int)-(0:Int)).toNat+2) e a (a.length:Int) (0:Int) r b)
def Zoy(a:Zag)(b:Zai):Option Bool:=(ZhG a).bind fun c=>bif c then(ZeN b).bind fun d=>bif d then bif(a.fAddr.fV6==b.fV6)then(ZhV b a.fBits).bind fun e=>some (decide (e=a.fAddr))else some false else some false else some false
theorem ZkF(b:Zag)(j:Zai)(r:Bool)(a:Zoy b j=some r):Yp 296 [.agg (Zag.c b),.agg (Zai.c j)] (Yk r):=by
 refine Yw Tryz.func296 fun S0 w0=>?_;unfold Zoy at a;obtain⟨d,k,a⟩:=Zac a;obtain⟨f,a⟩|⟨f,a⟩:=Zaj a
 .obtain⟨g,l,a⟩:=Zac a;have O1:Obl _:=(.c (ZdE _ _ k) (.c f (.c (Zck _ _ l) .n)));obtain⟨e,a⟩|⟨e,a⟩:=Zaj a
  .obtain⟨h,a⟩|⟨h,a⟩:=Zaj a
   .obtain⟨i,m,a⟩:=Zac a;apply Ya a 4 [rz,⟨[(1,aB d),(4,aB g),(18,aG (Zai.c i)),(21,aB (decide (i=b.fAddr)))],[(2,true),(6,true),(14,true)],[],[],[],[],[]⟩] [] (O1.app (.c e (.c h (.c (ZrF _ _ _ m) (.c (Zlq i b.fAddr (.tmp 23) (.tmp 25)) .n)))))
   .apply Ya a 4 [rz,⟨[(1,aB d),(4,aB g)],[(2,true),(6,true),(14,false)],[],[],[],[],[]⟩] [] (O1.app (.c e (.c h .n)))
  .apply Ya a 4 [rz,⟨[(1,aB d),(4,aB g)],[(2,true),(6,false)],[],[],[],[],[]⟩] [] (O1.app (.c e .n))
 .apply Ya a 4 [rz,⟨[(1,aB d)],[(2,false)],[],[],[],[],[]⟩] [] (.c (ZdE _ _ k) (.c f .n))
def Zbv:Nat->Zav->(List Zaw)->Zai->Option (List Zaw)|0,_,_,_=>none|fu+1,i,b,e=>(match i with | .nil=>some b | .mk a f c d=>(Zoy a.fNet e).bind fun j=>bif j then bif f then need ((b++([a]:List Zaw)).length * 40<=140737488355328/\(b++([a]:List Zaw)).length<=maxLen)<|(ZhF e a.fNet.fBits).bind fun g=>need (0<=g/\g<((2:Nat):Int))<|ix2 g ( Zbv fu c (b++([a]:List Zaw)) e) ( Zbv fu d (b++([a]:List Zaw)) e)else(ZhF e a.fNet.fBits).bind fun h=>need (0<=h/\h<((2:Nat):Int))<|ix2 h ( Zbv fu c b e) ( Zbv fu d b e)else some b)
theorem Zkf(S0:Nat->Prop)(w0:ZaW):∀(t:Nat)(m:Zav)(f:List Zaw)(g:Zai)(r:List Zaw),Zbv t m f g=some r->Yt 57 S0 w0 Tryz.f243 [(99999,.rows 281 5 r.length (Zap Zaw.c Zaw.d r))] (.one (.osl 99999 r.length)) [1,1,1,1,0,0] ⟨[(3,.one (.ptr 3 0)),(5,.one (.osl 5 f.length)),(6,.one (Zav.c m))],[(5,.rows 281 5 f.length (Zap Zaw.c Zaw.d f)),(3,.box [.lit (.bool g.fV6),.lit (.int .u64 g.fHi),.lit (.int .u64 g.fLo)])]⟩:=by
 intro t;induction t with
 |zero=>
  intro m f g r b;simp[Zbv]at b
 |succ t u=>
  intro m f g r b;unfold Zbv at b;cases m with
  |nil=>
   dsimp only at b;apply Yc b 8 [rz,rz] [false] ⟨[],[],[],[],[],[4],[5],[(5,99999)]⟩ (.c (show false=false from rfl) .n)
  |mk a y h k=>
   dsimp only at b;obtain⟨o,p,b⟩:=Zac b;obtain⟨l,b⟩|⟨l,b⟩:=Zaj b
   .obtain⟨q,b⟩|⟨q,b⟩:=Zaj b
    .obtain⟨v,b⟩:=Zar b;obtain⟨A,z,b⟩:=Zac b;obtain⟨w,b⟩:=Zar b;rcases Zjs w b with⟨e,b⟩|⟨e,b⟩
     .subst e;exact Ye 15 [rA [(9,aB o)],rz,⟨[(6,.c ((f++([a]:List Zaw)).length) (Zap Zaw.c Zaw.d (f++([a]:List Zaw))))],[],[],[],[],[(5,(([a]:List Zaw).length,Zap Zaw.c Zaw.d ([a]:List Zaw)))],[]⟩,rA [(8,aI (0:Int))]] [true,true] ⟨[],[],[],[],[],[3,5,6],[42,3],[(42,5)]⟩ (.c (ZkF _ _ _ p) (.c l (.c q (.c (show ([a]:List Zaw).length=1/\∀i j,i<1->j<5->Zap Zaw.c Zaw.d ([a]:List Zaw) i j=(([a]:List Zaw).flatMap Zaw.c).getD (i * 5+j) .junk from⟨rfl,fun i j hi hj=>ZaO (sz:=5) (e:=Zaw.c) (d:=Zaw.d) (fun _=>rfl) ([a]:List Zaw) i j hi hj⟩) (.c (Zcy (sz:=5) (e:=Zaw.c) (d:=Zaw.d) f ([a]:List Zaw)) (.c v.1 (.c v.2 (.c (ZkI _ _ _ z) (.c (show 0<=(0:Int)/\(0:Int)<((2:Nat):Int)from(by decide)) .n))))))))) (u h (f++([a]:List Zaw)) g r b)
     .subst e;exact Ye 15 [rA [(9,aB o)],rz,⟨[(6,.c ((f++([a]:List Zaw)).length) (Zap Zaw.c Zaw.d (f++([a]:List Zaw))))],[],[],[],[],[(5,(([a]:List Zaw).length,Zap Zaw.c Zaw.d ([a]:List Zaw)))],[]⟩,rA [(8,aI (1:Int))]] [true,true] ⟨[],[],[],[],[],[3,5,6],[42,3],[(42,5)]⟩ (.c (ZkF _ _ _ p) (.c l (.c q (.c (show ([a]:List Zaw).length=1/\∀i j,i<1->j<5->Zap Zaw.c Zaw.d ([a]:List Zaw) i j=(([a]:List Zaw).flatMap Zaw.c).getD (i * 5+j) .junk from⟨rfl,fun i j hi hj=>ZaO (sz:=5) (e:=Zaw.c) (d:=Zaw.d) (fun _=>rfl) ([a]:List Zaw) i j hi hj⟩) (.c (Zcy (sz:=5) (e:=Zaw.c) (d:=Zaw.d) f ([a]:List Zaw)) (.c v.1 (.c v.2 (.c (ZkI _ _ _ z) (.c (show 0<=(1:Int)/\(1:Int)<((2:Nat):Int)from(by decide)) .n))))))))) (u k (f++([a]:List Zaw)) g r b)
    .obtain⟨B,s,b⟩:=Zac b;obtain⟨x,b⟩:=Zar b;rcases Zjs x b with⟨e,b⟩|⟨e,b⟩
     .subst e;exact Ye 15 [rA [(9,aB o)],rz,rA [(8,aI (0:Int))]] [true,false] ⟨[],[],[],[],[],[3,5,6],[5,3],[]⟩ (.c (ZkF _ _ _ p) (.c l (.c q (.c (ZkI _ _ _ s) (.c (show 0<=(0:Int)/\(0:Int)<((2:Nat):Int)from(by decide)) .n))))) (u h f g r b)
     .subst e;exact Ye 15 [rA [(9,aB o)],rz,rA [(8,aI (1:Int))]] [true,false] ⟨[],[],[],[],[],[3,5,6],[5,3],[]⟩ (.c (ZkF _ _ _ p) (.c l (.c q (.c (ZkI _ _ _ s) (.c (show 0<=(1:Int)/\(1:Int)<((2:Nat):Int)from(by decide)) .n))))) (u k f g r b)
   .apply Yc b 8 [rA [(9,aB o)],rz] [false] ⟨[],[],[],[],[],[4],[5],[(5,99999)]⟩ (.c (ZkF _ _ _ p) (.c l .n))
def Zgi(f:ZaH)(c:Zai):Option (List Zaw):=(match f with | .nil=>some ([]:List Zaw) | .mk a b e=>(ZeN c).bind fun g=>bif(!g)then some ([]:List Zaw)else(ZgF c).bind fun d=>need (0<=d/\d<((2:Nat):Int))<|ix2 d ( Zbv 1000000 a ([]) c) ( Zbv 1000000 b ([]) c))
theorem Zql(i:ZaH)(g:Zai)(r:List Zaw)(a:Zgi i g=some r):Yq 243 [] [.one (ZaH.c i),.agg (Zai.c g)] [(99999,.rows 281 5 r.length (Zap Zaw.c Zaw.d r))] (.one (.osl 99999 r.length)):=by
 refine Yx Tryz.func243 fun S0 w0=>?_;unfold Zgi at a;cases i with
 |nil=>
  dsimp only at a;apply Yc a 8 [rz,rz,rz] [true] ⟨[],[],[],[],[(4,99999,281,5,Zap Zaw.c Zaw.d [])],[4],[99999],[]⟩ (.c (show true=true from rfl) .n)
 |mk b f l=>
  dsimp only at a;obtain⟨j,k,a⟩:=Zac a;obtain⟨h,a⟩|⟨h,a⟩:=Zaj a
  .apply Yc a 8 [rz,rA [(4,aB j)],rz] [true] ⟨[],[],[],[],[(4,99999,281,5,Zap Zaw.c Zaw.d [])],[4],[99999],[]⟩ (.c (Zck _ _ k) (.c h .n))
  .obtain⟨p,m,a⟩:=Zac a;obtain⟨o,a⟩:=Zar a;rcases Zjs o a with⟨e,a⟩|⟨e,a⟩
   .subst e;exact Ye 13 [rz,rA [(4,aB j)],rz,rA [(2,aI (0:Int))]] [false] ⟨[],[],[],[],[(5,5,281,5,Zap Zaw.c Zaw.d [])],[3,5,6],[5,3],[]⟩ (.c (Zck _ _ k) (.c h (.c (ZeJ _ _ m) (.c (show 0<=(0:Int)/\(0:Int)<((2:Nat):Int)from(by decide)) .n)))) (Zkf S0 w0 1000000 b ([]) g r a)
   .subst e;exact Ye 13 [rz,rA [(4,aB j)],rz,rA [(2,aI (1:Int))]] [false] ⟨[],[],[],[],[(5,5,281,5,Zap Zaw.c Zaw.d [])],[3,5,6],[5,3],[]⟩ (.c (Zck _ _ k) (.c h (.c (ZeJ _ _ m) (.c (show 0<=(1:Int)/\(1:Int)<((2:Nat):Int)from(by decide)) .n)))) (Zkf S0 w0 1000000 f ([]) g r a)
theorem Zrf(a:ZaH)(b:Zai)(r:List Zaw)(e:Zgi a b=some r):Yp 243 [.one (ZaH.c a),.agg (Zai.c b)] (.one (cL 5 Zaw.c Zaw.d r)):=(Zql a b r e).pure
def Zgx:Nat->Int->(List Zaw)->Int->Int->Option Int|0,_,_,_,_=>none|fu+1,e,b,c,a=>bif(decide (a<c))then need (0<=a/\a<(b.length:Int))<|Zgx fu (if(b.getD a.toNat Zaw.d).fV>e then(b.getD a.toNat Zaw.d).fV else e) b c (ZaA a 1)else some e
theorem ZsL(S0:Nat->Prop)(w0:ZaW):∀(h:Nat)(g:Int)(a:List Zaw)(e b r:Int),Zgx h g a e b=some r->Ys 35 S0 w0 Tryz.f181 (Yj r) [1,1,1,1,0,1,0] ⟨[(8,(Yj g)),(23,.one (cL 5 Zaw.c Zaw.d a)),(24,(Yj e)),(25,(Yj b))],[]⟩:=by
 intro h;induction h with
 |zero=>
  intro g a e b r f;simp[Zgx]at f
 |succ h j=>
  intro g a e b r f;unfold Zgx at f;obtain⟨i,f⟩|⟨i,f⟩:=Zaj f
  .obtain⟨k,f⟩:=Zar f;exact Ye 14 [rz,rz,rz,rz] [true] (Yi [8,23,24,25]) (.c i (.c k .n)) (j (if(a.getD b.toNat Zaw.d).fV>g then(a.getD b.toNat Zaw.d).fV else g) a e (ZaA b 1) r f)
  .apply Ya f 8 [rz,rz] [false] (.c i .n)
def ZhH(b:List Zaf)(c:Zai)(e:Int):Option Int:=(ZlK b e).bind fun f=>(Zgi f c).bind fun a=>bif((a.length:Int)==(0:Int))then some (0:Int)else need (0<=(0:Int)/\(0:Int)<(a.length:Int))<|Zgx (((a.length:Int)-(0:Int)).toNat+2) ((a.getD (0:Int).toNat Zaw.d).fV) a (a.length:Int) (0:Int)
theorem ZqB(f:List Zaf)(g:Zai)(h r:Int)(a:ZhH f g h=some r):Yp 181 [Yl f,.agg (Zai.c g),Yj h] (Yj r):=by
 refine Yw Tryz.func181 fun S0 w0=>?_;unfold ZhH at a;obtain⟨i,j,a⟩:=Zac a;obtain⟨b,k,a⟩:=Zac a
 let R1:List RA:=[rz,rA [(2,.r (.one (ZaH.c i)) []),(4,.r (.one (cL 5 Zaw.c Zaw.d b)) [])],rz,rz]
 have O2:Obl _:=(.c (ZvK _ _ _ j) (.c (Zrf _ _ _ k) .n));obtain⟨e,a⟩|⟨e,a⟩:=Zaj a
 .apply Ya a 10 R1 [true] (O2.app (.c e .n))
 .obtain⟨l,a⟩:=Zar a;exact Ye 15 (R1++[rz]) [false] (Yi [8,23,24,25]) (O2.app (.c e (.c l .n))) (ZsL S0 w0 (((b.length:Int)-(0:Int)).toNat+2) ((b.getD (0:Int).toNat Zaw.d).fV) b (b.length:Int) (0:Int) r a)
def ZjR(a:Zai):Option Int:=bif a.fV6 then some (32:Int)else some (16:Int)
theorem ZvD(d:Zai)(r:Int)(a:ZjR d=some r):Yp 407 [.agg (Zai.c d)] (Yj r):=by
 refine Yw Tryz.func407 fun S0 w0=>?_;unfold ZjR at a;obtain⟨b,a⟩|⟨b,a⟩:=Zaj a
 .apply Ya a 8 [rz,rz,rz] [true] (.c b .n)
 .apply Ya a 9 [rz,rz,rz] [false] (.c b .n)
def ZiM(a:Zai):Option Zag:=(ZjR a).bind fun b=>(ZfH a b).bind fun c=>some c.1
theorem ZoV(b:Zai)(r:Zag)(a:ZiM b=some r):Yp 389 [.agg (Zai.c b)] (.agg (Zag.c r)):=by
 refine Yw Tryz.func389 fun S0 w0=>?_;unfold ZiM at a;obtain⟨e,d,f,g,a⟩:=Yv a;apply Ya a 6 [rz,rA [(2,aI e),(3,.r (.tup [(true,Zag.c d.1),(false,cB d.2)]) [])],rz] [] (.c (ZvD _ _ f) (.c (Zgh _ _ _ g) .n))
def Zlm(a b:Zag):Option Int:=(Zij a.fAddr b.fAddr).bind fun c=>(Zen a.fBits b.fBits).bind fun d=>(Zgg ([c,d]:List Int)).bind fun e=>some e
theorem ZtF(g h:Zag)(r:Int)(f:Zlm g h=some r):Yp 349 [.agg (Zag.c g),.agg (Zag.c h)] (Yj r):=by
 refine Yw Tryz.func349 fun S0 w0=>?_;unfold Zlm at f;obtain⟨a,b,k,l,f⟩:=Yv f;obtain⟨m,o,f⟩:=Zac f;apply Ya f 4 [rz,⟨[(4,aI a),(9,aI b),(11,aI m)],[],[],[],[],[(10,(([a,b]:List Int).length,Zap (cI .i64) (0:Int) ([a,b]:List Int)))],[]⟩] [] (.c (ZoB _ _ _ k) (.c (Zhp _ _ _ l) (.c (show ([a,b]:List Int).length=2/\∀i j,i<2->j<1->Zap (cI .i64) (0:Int) ([a,b]:List Int) i j=(([a,b]:List Int).flatMap (cI .i64)).getD (i * 1+j) .junk from⟨rfl,fun i j hi hj=>ZaO (sz:=1) (e:=(cI .i64)) (d:=(0:Int)) (fun _=>rfl) ([a,b]:List Int) i j hi hj⟩) (.c (ZkC _ _ o) .n))))
def cmpN(a b:Zag):Int:=orI (cmpA a.fAddr b.fAddr) (cmpI a.fBits b.fBits)
theorem ZID(a b:Zag):Zlm a b=some (cmpN a b):=by
 simp only[Zlm,ZDG,ZyR,or2,Option.bind_some,cmpN]
theorem ZHb{a b:Zag}:cmpN a b<0↔cmpA a.fAddr b.fAddr<0\/(a.fAddr=b.fAddr/\a.fBits<b.fBits):=by simp only[cmpN,ZzL,Zwb,ZoE]
theorem ZKy{a b:Zag}:0<cmpN a b↔0<cmpA a.fAddr b.fAddr\/(a.fAddr=b.fAddr/\b.fBits<a.fBits):=by simp only[cmpN,ZCQ,ZyS,ZoE]
theorem Zjr{a b:Zag}:cmpN a b=0↔a=b:=by
 simp only[cmpN,Zuq,ZlM,ZoE];obtain⟨x,p⟩:=a;obtain⟨y,q⟩:=b;simp
theorem ZqK{a b:Zag}:0<cmpN a b↔cmpN b a<0:=by
 rw[ZKy,ZHb,ZAK];constructor<;>rintro (h|⟨c,d⟩)<;>first|exact .inl h|exact .inr ⟨c.symm,d⟩
theorem ZoD{a b c:Zag}(d:cmpN a b<0)(e:cmpN b c<0):cmpN a c<0:=by
 rw[ZHb]at *
 rcases d with d|⟨d,f⟩<;>rcases e with e|⟨e,g⟩
 .exact .inl (ZxH d e)
 .exact .inl (e ▸ d)
 .exact .inl (d ▸ e)
 .exact .inr ⟨d.trans e,by omega⟩
theorem ltN(a b:Zag):Go.Proofs.ltOf cmpN a b=decide (cmpN a b<0):=by
 unfold Go.Proofs.ltOf;rfl
theorem ZDy:Go.Sort.SWO (Go.Proofs.ltOf cmpN) where
 irrefl x:=by rw[ltN];simp[(Zjr (a:=x) (b:=x)).2 rfl]
 trans x y z c d:=by
  rw[ltN,decide_eq_true_eq]at *
  exact ZoD c d
 ntrans x y z c d:=by
  rw[ltN,decide_eq_false_iff_not]at *
  intro h;have e1:cmpN x y=0\/0<cmpN x y:=by omega
  have e2:cmpN y z=0\/0<cmpN y z:=by omega
  rcases e1 with e1|e1
  .rw[Zjr]at e1;subst e1;omega
  .rcases e2 with e2|e2
   .rw[Zjr]at e2;subst e2;omega
   .have e:=ZoD (ZqK.1 e2) (ZqK.1 e1);have f:=ZqK.2 e;omega
theorem ZEU(x y:Zag)(b:Go.Proofs.ltOf cmpN x y=false)(a:Go.Proofs.ltOf cmpN y x=false):x=y:=by
 rw[ltN,decide_eq_false_iff_not]at *
 rw[<-Zjr];have:¬0<cmpN x y:=fun h=>a (ZqK.1 h);omega
def Zbi(ak:Int->(List Zag)->Option (List Zag)):Nat->Int->Nat->Nat->Nat->Int->(List Zag)->Option (List Zag)|0,_,_,_,_,_,_=>none|fu+1,b,vo4,eO,vn4,c,a=>bif(decide (c<((eO:Nat):Int)))then need (0<=c/\c<((eO:Nat):Int))<|need ((vo4+c.toNat)<a.length)<|need (0<=(ZbT c (1:Int))/\(ZbT c (1:Int))<((eO:Nat):Int))<|need ((vo4+(ZbT c (1:Int)).toNat)<a.length)<|bif(!(decide ((a.getD (vo4+c.toNat) Zag.d)=(a.getD (vo4+(ZbT c (1:Int)).toNat) Zag.d))))then need (0<=b/\b<(a.length:Int))<|Zbi ak fu (ZaA b 1) vo4 eO vn4 (ZaA c 1) (a.set b.toNat (a.getD (vo4+c.toNat) Zag.d))else Zbi ak fu b vo4 eO vn4 (ZaA c 1) a else need (0<=b/\b<=(a.length:Int)/\(a.length:Int)<=(a.length:Int))<|need (b.toNat+(a.length-b.toNat)<=a.length)<|need (0<=(0:Int)/\(0:Int)<=b/\b<=(a.length:Int))<|need (b.toNat<=(ZkO a b.toNat (a.length-b.toNat) Zag.d).length)<|some ((ZkO a b.toNat (a.length-b.toNat) Zag.d).take b.toNat)
theorem ZiJ(S0:Nat->Prop)(w0:ZaW)(ak:Int->(List Zag)->Option (List Zag))(bJ:∀(fG:Int)(a8 r:List Zag),ak fG a8=some r->Yt 61 S0 w0 Tryz.f412 [(99999,.rows 32 4 r.length (Zap Zag.c Zag.d r))] (.one (.osl 99999 r.length)) [1,1,0,1,0] ⟨[(0,.one (.osl 100000 a8.length)),(3,(Yj fG))],[(100000,.rows 32 4 a8.length (Zap Zag.c Zag.d a8))]⟩):∀(l:Nat)(b:Int)(vo4 eO vn4:Nat)(f:Int)(a r:List Zag),Zbi ak l b vo4 eO vn4 f a=some r->Yt 61 S0 w0 Tryz.f412 [(99999,.rows 32 4 r.length (Zap Zag.c Zag.d r))] (.one (.osl 99999 r.length)) [1,1,0,1,0,0,1,0,0,1,0,1,0,1,0] ⟨[(0,.one (.osl 100000 a.length)),(3,(Yj b)),(4,.one (.osub 100000 4 vo4 eO vn4)),(5,(Yj f))],[(100000,.rows 32 4 a.length (Zap Zag.c Zag.d a))]⟩:=by
 intro l;induction l with
 |zero=>
  intro b vo4 eO vn4 f a r e;simp[Zbi]at e
 |succ l u=>
  intro b vo4 eO vn4 f a r e;unfold Zbi at e;obtain⟨m,e⟩|⟨m,e⟩:=Zaj e
  .obtain⟨v,w,e⟩:=Yu e;obtain⟨o,e⟩:=Zar e;obtain⟨p,e⟩:=Zar e
   let R1:List RA:=[rz,rA [(9,aB (!(decide ((a.getD (vo4+f.toNat) Zag.d)=(a.getD (vo4+(ZbT f (1:Int)).toNat) Zag.d)))))]]
   have O2:Obl _:=(.c m (.c v (.c w (.c o (.c p (.c (Zsn (a.getD (vo4+f.toNat) Zag.d) (a.getD (vo4+(ZbT f (1:Int)).toNat) Zag.d) (.tmp 38) (.tmp 43)) .n))))));obtain⟨g,e⟩|⟨g,e⟩:=Zaj e
   .obtain⟨k,e⟩:=Zar e;exact Ye 17 (R1++[rA [(7,.c (a.set b.toNat (a.getD (vo4+f.toNat) Zag.d)).length (Zap Zag.c Zag.d (a.set b.toNat (a.getD (vo4+f.toNat) Zag.d))))],rz,rz]) [true,true] ⟨[],[],[],[(100000,((a.set b.toNat (a.getD (vo4+f.toNat) Zag.d)).length))],[],[0,3,4,5],[100000],[]⟩ (O2.app (.c g (.c v (.c w (.c k (.c (show (a.set b.toNat (a.getD (vo4+f.toNat) Zag.d)).length=a.length from List.length_set) (.c (show b.toNat<a.length from(ltOf k)) (.c (show ExtU 4 a.length (Zap Zag.c Zag.d a) b.toNat 0 (Zag.c (a.getD (vo4+f.toNat) Zag.d)) (Zap Zag.c Zag.d (a.set b.toNat (a.getD (vo4+f.toNat) Zag.d)))from(ZkK _ _ _ rfl)) (.c (show (a.set b.toNat (a.getD (vo4+f.toNat) Zag.d)).length=(a.set b.toNat (a.getD (vo4+f.toNat) Zag.d)).length from rfl) .n))))))))) (u (ZaA b 1) vo4 eO vn4 (ZaA f 1) (a.set b.toNat (a.getD (vo4+f.toNat) Zag.d)) r e)
   .exact Ye 15 (R1++[rz]) [true,false] ⟨[],[],[],[],[],[0,3,4,5],[100000],[]⟩ (O2.app (.c g .n)) (u b vo4 eO vn4 (ZaA f 1) a r e)
  .obtain⟨q,h,e⟩:=Yu e;obtain⟨s,t,e⟩:=Yu e;apply Yc e 10 [rz,rA [(3,.c (ZkO a b.toNat (a.length-b.toNat) Zag.d).length (Zap Zag.c Zag.d (ZkO a b.toNat (a.length-b.toNat) Zag.d)))],rA [(3,.c ((ZkO a b.toNat (a.length-b.toNat) Zag.d).take b.toNat).length (Zap Zag.c Zag.d ((ZkO a b.toNat (a.length-b.toNat) Zag.d).take b.toNat)))]] [false] ⟨[],[],[],[],[],[2],[2],[(2,99999)]⟩ (.c m (.c q (.c (show (ZkO a b.toNat (a.length-b.toNat) Zag.d).length=a.length from(ZAM _ _ _ _ h)) (.c (show ∀i j,i<a.length->j<4->(i<b.toNat\/b.toNat+(a.length-b.toNat)<=i)->Zap Zag.c Zag.d (ZkO a b.toNat (a.length-b.toNat) Zag.d) i j=Zap Zag.c Zag.d a i j from(ZHf _ _ _ h)) (.c (show ∀i j,i<(a.length-b.toNat)->j<4->Ztn (([.lit (.bool false),.lit (.int .u64 (0)),.lit (.int .u64 (0)),.lit (.int .i64 (0))]:List C).getD j .junk) (Zap Zag.c Zag.d (ZkO a b.toNat (a.length-b.toNat) Zag.d) (b.toNat+i) j)from(ZHg _ _ _ h (fun j hj=>.inl rfl))) (.c s (.c (show 0=0 from rfl) (.c (show ((ZkO a b.toNat (a.length-b.toNat) Zag.d).take b.toNat).length=b.toNat from(ZFy _ _ t)) (.c (show ∀i j,i<b.toNat->j<4->Zap Zag.c Zag.d ((ZkO a b.toNat (a.length-b.toNat) Zag.d).take b.toNat) i j=Zap Zag.c Zag.d (ZkO a b.toNat (a.length-b.toNat) Zag.d) i j from(ZCD _ _)) .n)))))))))
def ZaZ:Nat->Int->(List Zag)->Option (List Zag)|0,_,_=>none|fu+1,b,a=>bif(decide (b<(a.length:Int)))then need (0<=b/\b<(a.length:Int))<|need (0<=(ZbT b (1:Int))/\(ZbT b (1:Int))<(a.length:Int))<|bif(decide ((a.getD b.toNat Zag.d)=(a.getD ((ZbT b (1:Int)).toNat) Zag.d)))then need (0<=b/\b<=(a.length:Int)/\(a.length:Int)<=(a.length:Int))<|Zbi (ZaZ fu) 1000000 b b.toNat (a.length-b.toNat) a.length (1:Int) a else ZaZ fu (ZaA b 1) a else some a
theorem ZiK(S0:Nat->Prop)(w0:ZaW):∀(f:Nat)(e:Int)(a r:List Zag),ZaZ f e a=some r->Yt 61 S0 w0 Tryz.f412 [(99999,.rows 32 4 r.length (Zap Zag.c Zag.d r))] (.one (.osl 99999 r.length)) [1,1,0,1,0] ⟨[(0,.one (.osl 100000 a.length)),(3,(Yj e))],[(100000,.rows 32 4 a.length (Zap Zag.c Zag.d a))]⟩:=by
 intro f;induction f with
 |zero=>
  intro e a r b;simp[ZaZ]at b
 |succ f i=>
  intro e a r b;unfold ZaZ at b;obtain⟨g,b⟩|⟨g,b⟩:=Zaj b
  .obtain⟨j,b⟩:=Zar b;obtain⟨k,b⟩:=Zar b
   let R3:List RA:=[rz,rA [(9,aB (decide ((a.getD e.toNat Zag.d)=(a.getD ((ZbT e (1:Int)).toNat) Zag.d))))],rz]
   have O4:Obl _:=(.c g (.c j (.c (show e.toNat<a.length from(ltOf j)) (.c k (.c (show (ZbT e (1:Int)).toNat<a.length from(ltOf k)) (.c (Zpq (a.getD e.toNat Zag.d) (a.getD ((ZbT e (1:Int)).toNat) Zag.d) (.tmp 19) (.tmp 24)) .n))))));obtain⟨h,b⟩|⟨h,b⟩:=Zaj b
   .obtain⟨l,b⟩:=Zar b;exact Ye 17 (R3++[rz]) [true,true] ⟨[],[],[],[],[],[0,3,4,5],[100000],[]⟩ (O4.app (.c h (.c l .n))) (ZiJ S0 w0 (ZaZ f) i 1000000 e e.toNat (a.length-e.toNat) a.length (1:Int) a r b)
   .exact Ye 15 R3 [true,false] ⟨[],[],[],[],[],[0,3],[100000],[]⟩ (O4.app (.c h .n)) (i (ZaA e 1) a r b)
  .apply Yc b 8 [rz,rz] [false] ⟨[],[],[],[],[],[2],[100000],[(100000,99999)]⟩ (.c g .n)
def Zbs(a:List Zag):Option (List Zag):=bif(decide ((a.length:Int)<(2:Int)))then some a else ZaZ (((a.length:Int)-(1:Int)).toNat+2) (1:Int) a
theorem Zjl(a r:List Zag)(b:Zbs a=some r):Yq 412 [(100000,.rows 32 4 a.length (Zap Zag.c Zag.d a))] [.one (.osl 100000 a.length)] [(99999,.rows 32 4 r.length (Zap Zag.c Zag.d r))] (.one (.osl 99999 r.length)):=by
 refine Yx Tryz.func412 fun S0 w0=>?_;unfold Zbs at b;obtain⟨e,b⟩|⟨e,b⟩:=Zaj b
 .apply Yc b 8 [rz,rz,rz] [true] ⟨[],[],[],[],[],[2],[100000],[(100000,99999)]⟩ (.c e .n)
 .exact Ye 11 [rz,rz,rz] [false] ⟨[],[],[],[],[],[0,3],[100000],[]⟩ (.c e .n) (ZiK S0 w0 (((a.length:Int)-(1:Int)).toNat+2) (1:Int) a r b)
def Zhd(a:List Zag):Option (List Zag):=need (a.length<4611686018427387904)<|some (a.mergeSort fun x y=>!(Go.Proofs.ltOf cmpN) y x)
theorem ZsD(b r:List Zag)(e:Zhd b=some r):Yq 411 [(100000,.rows 32 4 b.length (Zap Zag.c Zag.d b))] [.one (.osl 100000 b.length),.one (.lit (.func (.func 349) #[] #[]))] [(100000,.rows 32 4 b.length (Zap Zag.c Zag.d r))] (.tup []):=by
 obtain⟨o1,e⟩:=Zar e;cases e
 haveI:Inhabited Zag:=⟨Zag.d⟩
 exact ZxS (ρ:=ZuH) (ev:=fun a=>(Zag.c a).map ZKI) ZJJ ⟨_,Tryz.func411,rfl,rfl⟩ ⟨_,Tryz.func349,rfl,rfl⟩ (by decide) (fun _=>rfl) (fun _=>rfl)
  (fun x v hv=>List.all_eq_true.1 (show ((Zag.c x).map ZKI).all (fun v=>v.oneCell')=true from rfl) v hv) Tryz.isAgg32 Tryz.sizeOf32 cmpN ZDy ZEU (fun x y=>ZtF x y _ (ZID x y)) b o1
theorem ZsE(a r:List Zag)(b:Zhd a=some r):r.length=a.length:=by
 obtain⟨o1,b⟩:=Zar b;cases b;exact List.length_mergeSort a
def Zej(j:List Zaa)(e:List Zab)(f g:Int)(aJ:(List Zab)->Int->Int->(List Zag)->Option (List Zag)):Nat->(List Zaa)->Int->Int->(List Zag)->Option (List Zag)|0,_,_,_,_=>none|fu+1,b,c,a,h=>bif(decide (a<c))then need (0<=a/\a<(b.length:Int))<|bif((b.getD a.toNat Zaa.d).fState==(2:Int))then(ZiM (((b.getD a.toNat Zaa.d).fEnd).fAddr)).bind fun i=>need ((h++([i]:List Zag)).length * 32<=140737488355328/\(h++([i]:List Zag)).length<=maxLen)<|Zej j e f g aJ fu b c (ZaA a 1) (h++([i]:List Zag))else Zej j e f g aJ fu b c (ZaA a 1) h else(Zhd h).bind fun k=>(Zbs k).bind fun l=>some l
theorem Zri(S0:Nat->Prop)(w0:ZaW)(y:List Zaa)(s:List Zab)(t u:Int)(aJ:(List Zab)->Int->Int->(List Zag)->Option (List Zag))(el:∀(dG:List Zab)(fI kc:Int)(kQ r:List Zag),aJ dG fI kc kQ=some r->Yt 48 S0 w0 Tryz.f395 [(99999,.rows 32 4 r.length (Zap Zag.c Zag.d r))] (.one (.osl 99999 r.length)) [1,1,0,1,0] ⟨[(1,(Ym y)),(5,.one (.osl 5 kQ.length)),(10,(Yn dG)),(11,(Yj fI)),(12,(Yj kc))],[(5,.rows 32 4 kQ.length (Zap Zag.c Zag.d kQ))]⟩):∀(p:Nat)(f:List Zaa)(g h:Int)(b r:List Zag),Zej y s t u aJ p f g h b=some r->Yt 48 S0 w0 Tryz.f395 [(99999,.rows 32 4 r.length (Zap Zag.c Zag.d r))] (.one (.osl 99999 r.length)) [1,1,1,0,1,0] ⟨[(5,.one (.osl 5 b.length)),(27,(Ym f)),(28,(Yj g)),(29,(Yj h))],[(5,.rows 32 4 b.length (Zap Zag.c Zag.d b))]⟩:=by
 intro p;induction p with
 |zero=>
  intro f g h b r a;simp[Zej]at a
 |succ p z=>
  intro f g h b r a;unfold Zej at a;obtain⟨q,a⟩|⟨q,a⟩:=Zaj a
  .obtain⟨A,a⟩:=Zar a;obtain⟨v,a⟩|⟨v,a⟩:=Zaj a
   .obtain⟨k,B,a⟩:=Zac a;obtain⟨m,a⟩:=Zar a;exact Ye 17 [rz,rz,rz,⟨[(4,aG (Zag.c k)),(6,.c ((b++([k]:List Zag)).length) (Zap Zag.c Zag.d (b++([k]:List Zag))))],[],[],[],[],[(5,(([k]:List Zag).length,Zap Zag.c Zag.d ([k]:List Zag)))],[]⟩,rz] [true,true] ⟨[],[],[],[],[],[5,27,28,29],[42],[(42,5)]⟩ (.c q (.c A (.c v (.c (ZoV _ _ B) (.c (show ([k]:List Zag).length=1/\∀i j,i<1->j<4->Zap Zag.c Zag.d ([k]:List Zag) i j=(([k]:List Zag).flatMap Zag.c).getD (i * 4+j) .junk from⟨rfl,fun i j hi hj=>ZaO (sz:=4) (e:=Zag.c) (d:=Zag.d) (fun _=>rfl) ([k]:List Zag) i j hi hj⟩) (.c (Zcy (sz:=4) (e:=Zag.c) (d:=Zag.d) b ([k]:List Zag)) (.c m.1 (.c m.2 .n)))))))) (z f g (ZaA h 1) (b++([k]:List Zag)) r a)
   .exact Ye 17 [rz,rz,rz,rz] [true,false] ⟨[],[],[],[],[],[5,27,28,29],[5],[]⟩ (.c q (.c A (.c v .n))) (z f g (ZaA h 1) b r a)
  .obtain⟨w,l,o,x,a⟩:=Yv a;apply Yc a 10 [rz,rH [] [(1,⟨[(100000,5)],[],[(100000,.rows 32 4 b.length (Zap Zag.c Zag.d w))],.tup []⟩)],rH [] [(1,⟨[(100000,5)],[(99999,47)],[(99999,.rows 32 4 l.length (Zap Zag.c Zag.d l))],.one (.osl 99999 l.length)⟩)]] [false] ⟨[],[],[],[],[],[4],[47],[(47,99999)]⟩ (.c q (.c (ZsD _ _ o) (.c (show Yq 412 [(100000,.rows 32 4 b.length (Zap Zag.c Zag.d w))] [.one (.osl 100000 b.length)] [(99999,.rows 32 4 l.length (Zap Zag.c Zag.d l))] (.one (.osl 99999 l.length))from(by rw[<-(ZsE b w o)];exact(Zjl _ _ x))) .n)))
def ZcI(e:List Zaa):Nat->(List Zab)->Int->Int->(List Zag)->Option (List Zag)|0,_,_,_,_=>none|fu+1,b,c,a,f=>bif(decide (a<c))then need (0<=a/\a<(b.length:Int))<|bif(!(b.getD a.toNat Zab.d).fIn)then(ZiM (((b.getD a.toNat Zab.d).fEnd).fAddr)).bind fun g=>need ((f++([g]:List Zag)).length * 32<=140737488355328/\(f++([g]:List Zag)).length<=maxLen)<|ZcI e fu b c (ZaA a 1) (f++([g]:List Zag))else ZcI e fu b c (ZaA a 1) f else Zej e b c a (ZcI e fu) (((e.length:Int)-(0:Int)).toNat+2) e (e.length:Int) (0:Int) f
theorem Zrj(S0:Nat->Prop)(w0:ZaW)(l:List Zaa):∀(m:Nat)(b:List Zab)(f g:Int)(h r:List Zag),ZcI l m b f g h=some r->Yt 48 S0 w0 Tryz.f395 [(99999,.rows 32 4 r.length (Zap Zag.c Zag.d r))] (.one (.osl 99999 r.length)) [1,1,0,1,0] ⟨[(1,(Ym l)),(5,.one (.osl 5 h.length)),(10,(Yn b)),(11,(Yj f)),(12,(Yj g))],[(5,.rows 32 4 h.length (Zap Zag.c Zag.d h))]⟩:=by
 intro m;induction m with
 |zero=>
  intro b f g h r a;simp[ZcI]at a
 |succ m p=>
  intro b f g h r a;unfold ZcI at a;obtain⟨o,a⟩|⟨o,a⟩:=Zaj a
  .obtain⟨o2,a⟩:=Zar a;obtain⟨q,a⟩|⟨q,a⟩:=Zaj a
   .obtain⟨k,t,a⟩:=Zac a;obtain⟨s,a⟩:=Zar a;exact Ye 17 [rz,rz,rz,⟨[(4,aG (Zag.c k)),(6,.c ((h++([k]:List Zag)).length) (Zap Zag.c Zag.d (h++([k]:List Zag))))],[],[],[],[],[(5,(([k]:List Zag).length,Zap Zag.c Zag.d ([k]:List Zag)))],[]⟩,rz] [true,true] ⟨[],[],[],[],[],[1,5,10,11,12],[25],[(25,5)]⟩ (.c o (.c o2 (.c q (.c (ZoV _ _ t) (.c (show ([k]:List Zag).length=1/\∀i j,i<1->j<4->Zap Zag.c Zag.d ([k]:List Zag) i j=(([k]:List Zag).flatMap Zag.c).getD (i * 4+j) .junk from⟨rfl,fun i j hi hj=>ZaO (sz:=4) (e:=Zag.c) (d:=Zag.d) (fun _=>rfl) ([k]:List Zag) i j hi hj⟩) (.c (Zcy (sz:=4) (e:=Zag.c) (d:=Zag.d) h ([k]:List Zag)) (.c s.1 (.c s.2 .n)))))))) (p b f (ZaA g 1) (h++([k]:List Zag)) r a)
   .exact Ye 17 [rz,rz,rz,rz] [true,false] ⟨[],[],[],[],[],[1,5,10,11,12],[5],[]⟩ (.c o (.c o2 (.c q .n))) (p b f (ZaA g 1) h r a)
  .exact Ye 10 [rz,rz] [false] ⟨[],[],[],[],[],[5,27,28,29],[5],[]⟩ (.c o .n) (Zri S0 w0 l b f g (ZcI l m) p (((l.length:Int)-(0:Int)).toNat+2) l (l.length:Int) (0:Int) h r a)
def Zih(a:List Zab)(b:List Zaa):Option (List Zag):=ZcI b (((a.length:Int)-(0:Int)).toNat+2) a (a.length:Int) (0:Int) ([])
theorem ZsC(a:List Zab)(b:List Zaa)(r:List Zag)(e:Zih a b=some r):Yq 395 [] [Yn a,Ym b] [(99999,.rows 32 4 r.length (Zap Zag.c Zag.d r))] (.one (.osl 99999 r.length)):=by
 refine Yx Tryz.func395 fun S0 w0=>?_;unfold Zih at e;exact Ye 8 [rz,rz,rz] [] ⟨[],[],[],[],[(5,5,32,4,Zap Zag.c Zag.d [])],[1,5,10,11,12],[5],[]⟩ .n (Zrj S0 w0 b (((a.length:Int)-(0:Int)).toNat+2) a (a.length:Int) (0:Int) ([]) r e)
theorem Zty(a:List Zab)(b:List Zaa)(r:List Zag)(e:Zih a b=some r):Yp 395 [Yn a,Ym b] (.one (cL 4 Zag.c Zag.d r)):=(ZsC a b r e).pure
def Zbo(b:List Zag):Nat->Int->Int->Zag->Option Int|0,_,_,_=>none|fu+1,c,a,e=>bif(decide (a<c))then need (0<=a/\a<(b.length:Int))<|bif(decide (e=(b.getD a.toNat Zag.d)))then some a else Zbo b fu c (ZaA a 1) e else some (-1:Int)
theorem Zjj(S0:Nat->Prop)(w0:ZaW)(g:List Zag):∀(h:Nat)(f e:Int)(b:Zag)(r:Int),Zbo g h f e b=some r->Ys 19 S0 w0 Tryz.f410 (Yj r) [1,0,1,0] ⟨[(0,.one (cL 4 Zag.c Zag.d g)),(3,.one (.ptr 3 0)),(7,(Yj f)),(8,(Yj e))],[(3,.box [.lit (.bool b.fAddr.fV6),.lit (.int .u64 b.fAddr.fHi),.lit (.int .u64 b.fAddr.fLo),.lit (.int .i64 b.fBits)])]⟩:=by
 intro h;induction h with
 |zero=>
  intro f e b r a;simp[Zbo]at a
 |succ h k=>
  intro f e b r a;unfold Zbo at a;obtain⟨i,a⟩|⟨i,a⟩:=Zaj a
  .obtain⟨o2,a⟩:=Zar a
   let R1:List RA:=[rz,rz,rA [(5,aB (decide (b=(g.getD e.toNat Zag.d))))],rz]
   have O2:Obl _:=(.c i (.c o2 (.c (Zpq b (g.getD e.toNat Zag.d) (.tmp 11) (.tmp 15)) .n)));obtain⟨j,a⟩|⟨j,a⟩:=Zaj a
   .apply Ya a 15 R1 [true,true] (O2.app (.c j .n))
   .exact Ye 17 R1 [true,false] ⟨[],[],[],[],[],[0,3,7,8],[3],[]⟩ (O2.app (.c j .n)) (k f (ZaA e 1) b r a)
  .apply Ya a 8 [rz,rz] [false] (.c i .n)
def ZdT(a:List Zag)(b:Zag):Option Int:=Zbo a (((a.length:Int)-(0:Int)).toNat+2) (a.length:Int) (0:Int) b
theorem Zko(a:List Zag)(b:Zag)(r:Int)(e:ZdT a b=some r):Yp 410 [.one (cL 4 Zag.c Zag.d a),.agg (Zag.c b)] (Yj r):=by
 refine Yw Tryz.func410 fun S0 w0=>?_;unfold ZdT at e;exact Ye 6 [rz,rz] [] ⟨[],[],[],[],[],[0,3,7,8],[3],[]⟩ .n (Zjj S0 w0 a (((a.length:Int)-(0:Int)).toNat+2) (a.length:Int) (0:Int) b r e)
def Zcq(a:List Zag)(b:Zag):Option Bool:=(ZdT a b).bind fun c=>some (decide (c>=(0:Int)))
theorem Zjk(b:List Zag)(e:Zag)(r:Bool)(a:Zcq b e=some r):Yp 394 [.one (cL 4 Zag.c Zag.d b),.agg (Zag.c e)] (Yk r):=by
 refine Yw Tryz.func394 fun S0 w0=>?_;unfold Zcq at a;obtain⟨f,g,a⟩:=Zac a;apply Ya a 4 [rz,rA [(2,aI f)]] [] (.c (Zko _ _ _ g) .n)
def Zkn(b:List Zab)(c:List Zaa)(a:Zai):Option Bool:=(ZeN a).bind fun d=>bif d then(Zih b c).bind fun e=>(ZiM a).bind fun f=>(Zcq e f).bind fun g=>some (!g)else some false
theorem Zuc(e:List Zab)(f:List Zaa)(g:Zai)(r:Bool)(a:Zkn e f g=some r):Yp 370 [Yn e,Ym f,.agg (Zai.c g)] (Yk r):=by
 refine Yw Tryz.func370 fun S0 w0=>?_;unfold Zkn at a;obtain⟨h,i,a⟩:=Zac a;obtain⟨b,a⟩|⟨b,a⟩:=Zaj a
 .obtain⟨j,k,l,m,a⟩:=Yv a;obtain⟨o,p,a⟩:=Zac a;apply Ya a 4 [rz,⟨[(1,aB h),(5,.r (.one (cL 4 Zag.c Zag.d j)) []),(7,aG (Zag.c k)),(8,aB o)],[(2,true)],[],[],[],[],[]⟩] [] (.c (Zck _ _ i) (.c b (.c (Zty _ _ _ l) (.c (ZoV _ _ m) (.c (Zjk _ _ _ p) .n)))))
 .apply Ya a 4 [rz,⟨[(1,aB h)],[(2,false)],[],[],[],[],[]⟩] [] (.c (Zck _ _ i) (.c b .n))
def ZeM(a:ZaF)(b:Zan)(c:Int):Option Bool:=(ZfA a b).bind fun d=>bif(!d)then(ZhH a.fBans b.fAddr c).bind fun e=>bif(e==(0:Int))then(Zkn a.fPeers a.fBook b.fAddr).bind fun f=>some f else some false else some false
theorem ZrM(f:ZaF)(g:Zan)(h:Int)(r:Bool)(a:ZeM f g h=some r):Yp 330 [.agg (ZaF.c f),.agg (Zan.c g),Yj h] (Yk r):=by
 refine Yw Tryz.func330 fun S0 w0=>?_;unfold ZeM at a;obtain⟨b,i,a⟩:=Zac a;obtain⟨d,a⟩|⟨d,a⟩:=Zaj a
 .obtain⟨j,k,a⟩:=Zac a;have O1:Obl _:=(.c (ZjS _ _ _ i) (.c d (.c (ZqB _ _ _ _ k) .n)));obtain⟨e,a⟩|⟨e,a⟩:=Zaj a
  .obtain⟨l,m,a⟩:=Zac a;apply Ya a 4 [rz,⟨[(2,aB b),(10,aI j),(20,aB l)],[(4,true),(13,true)],[],[],[],[],[]⟩] [] (O1.app (.c e (.c (Zuc _ _ _ _ m) .n)))
  .apply Ya a 4 [rz,⟨[(2,aB b),(10,aI j)],[(4,true),(13,false)],[],[],[],[],[]⟩] [] (O1.app (.c e .n))
 .apply Ya a 4 [rz,⟨[(2,aB b)],[(4,false)],[],[],[],[],[]⟩] [] (.c (ZjS _ _ _ i) (.c d .n))
def Zmb(a:Zaa)(c0:Int):Option Bool:=(ZmB a c0).bind fun b=>some b
theorem ZpA(b:Zaa)(c0:Int)(r:Bool)(a:Zmb b c0=some r):Yp 327 [.agg (Zaa.c b),.one (.rp false 1 (fun j=>([.lit (.int .i64 c0)]:List C).getD (0+j) .junk))] (Yk r):=by
 refine Yw Tryz.func327 fun S0 w0=>?_;unfold Zmb at a;obtain⟨d,e,a⟩:=Zac a;apply Ya a 4 [rz,rA [(2,aB d)]] [] (.c (ZwG _ _ _ e) .n)
def ZbV(b:Int):Nat->(List Zaa)->Int->Int->(List Zae)->Option (List Zae)|0,_,_,_,_=>none|fu+1,c,e,a,f=>bif(decide (a<e))then need (0<=a/\a<(c.length:Int))<|(ZhP (c.getD a.toNat Zaa.d)).bind fun g=>bif g then(Zmb (c.getD a.toNat Zaa.d) b).bind fun h=>bif h then need ((f++([(Zae.mk ((c.getD a.toNat Zaa.d).fNext) ((c.getD a.toNat Zaa.d).fEnd))]:List Zae)).length * 40<=140737488355328/\(f++([(Zae.mk ((c.getD a.toNat Zaa.d).fNext) ((c.getD a.toNat Zaa.d).fEnd))]:List Zae)).length<=maxLen)<|ZbV b fu c e (ZaA a 1) (f++([(Zae.mk ((c.getD a.toNat Zaa.d).fNext) ((c.getD a.toNat Zaa.d).fEnd))]:List Zae))else ZbV b fu c e (ZaA a 1) f else ZbV b fu c e (ZaA a 1) f else(Ziu f).bind fun i=>some i
theorem ZmG(S0:Nat->Prop)(w0:ZaW)(k:Int):∀(m:Nat)(b:List Zaa)(g a:Int)(h r:List Zae),ZbV k m b g a h=some r->Yt 33 S0 w0 Tryz.f326 [(99999,.rows 341 5 r.length (Zap Zae.c Zae.d r))] (.one (.osl 99999 r.length)) [1,1,0,1,0] ⟨[(1,.one (.clo (.func 327) 0 1 (fun i=>([]:List C).getD i .junk) (fun i=>([.rp false 1 (fun j=>([.lit (.int .i64 k)]:List C).getD (0+j) .junk)]:List C).getD i .junk))),(5,.one (.osl 5 h.length)),(9,(Ym b)),(10,(Yj g)),(11,(Yj a))],[(5,.rows 341 5 h.length (Zap Zae.c Zae.d h))]⟩:=by
 intro m;induction m with
 |zero=>
  intro b g a h r f;simp[ZbV]at f
 |succ m p=>
  intro b g a h r f;unfold ZbV at f;obtain⟨q,f⟩|⟨q,f⟩:=Zaj f
  .obtain⟨o2,f⟩:=Zar f;obtain⟨t,w,f⟩:=Zac f;have O1:Obl _:=(.c q (.c o2 (.c (Zjy _ _ w) .n)));obtain⟨o,f⟩|⟨o,f⟩:=Zaj f
   .obtain⟨x,u,f⟩:=Zac f
    let R2:List RA:=[rz,rz,⟨[(1,aB t),(5,aB x)],[(2,true)],[],[],[],[],[]⟩]
    obtain⟨s,f⟩|⟨s,f⟩:=Zaj f
    .obtain⟨v,f⟩:=Zar f;exact Ye 17 (R2++[⟨[(7,.c ((h++([(Zae.mk ((b.getD a.toNat Zaa.d).fNext) ((b.getD a.toNat Zaa.d).fEnd))]:List Zae)).length) (Zap Zae.c Zae.d (h++([(Zae.mk ((b.getD a.toNat Zaa.d).fNext) ((b.getD a.toNat Zaa.d).fEnd))]:List Zae))))],[],[],[],[],[(6,(([(Zae.mk ((b.getD a.toNat Zaa.d).fNext) ((b.getD a.toNat Zaa.d).fEnd))]:List Zae).length,Zap Zae.c Zae.d ([(Zae.mk ((b.getD a.toNat Zaa.d).fNext) ((b.getD a.toNat Zaa.d).fEnd))]:List Zae)))],[]⟩,rz]) [true,true] ⟨[],[],[],[],[],[1,5,9,10,11],[29],[(29,5)]⟩ (O1.app (.c o (.c (ZpA _ _ _ u) (.c s (.c (show ([(Zae.mk ((b.getD a.toNat Zaa.d).fNext) ((b.getD a.toNat Zaa.d).fEnd))]:List Zae).length=1/\∀i j,i<1->j<5->Zap Zae.c Zae.d ([(Zae.mk ((b.getD a.toNat Zaa.d).fNext) ((b.getD a.toNat Zaa.d).fEnd))]:List Zae) i j=(([(Zae.mk ((b.getD a.toNat Zaa.d).fNext) ((b.getD a.toNat Zaa.d).fEnd))]:List Zae).flatMap Zae.c).getD (i * 5+j) .junk from⟨rfl,fun i j hi hj=>ZaO (sz:=5) (e:=Zae.c) (d:=Zae.d) (fun _=>rfl) ([(Zae.mk ((b.getD a.toNat Zaa.d).fNext) ((b.getD a.toNat Zaa.d).fEnd))]:List Zae) i j hi hj⟩) (.c (Zcy (sz:=5) (e:=Zae.c) (d:=Zae.d) h ([(Zae.mk ((b.getD a.toNat Zaa.d).fNext) ((b.getD a.toNat Zaa.d).fEnd))]:List Zae)) (.c v.1 (.c v.2 .n)))))))) (p b g (ZaA a 1) (h++([(Zae.mk ((b.getD a.toNat Zaa.d).fNext) ((b.getD a.toNat Zaa.d).fEnd))]:List Zae)) r f)
    .exact Ye 17 (R2++[rz]) [true,false] ⟨[],[],[],[],[],[1,5,9,10,11],[5],[]⟩ (O1.app (.c o (.c (ZpA _ _ _ u) (.c s .n)))) (p b g (ZaA a 1) h r f)
   .exact Ye 17 [rz,rz,⟨[(1,aB t)],[(2,false)],[],[],[],[],[]⟩,rz] [true,false] ⟨[],[],[],[],[],[1,5,9,10,11],[5],[]⟩ (O1.app (.c o (.c (show false=false from rfl) .n))) (p b g (ZaA a 1) h r f)
  .obtain⟨l,z,f⟩:=Zac f;apply Yc f 8 [rz,rH [] [(1,⟨[],[(99999,32)],[(99999,.rows 341 5 l.length (Zap Zae.c Zae.d l))],.one (.osl 99999 l.length)⟩)]] [false] ⟨[],[],[],[],[],[4],[32],[(32,99999)]⟩ (.c q (.c (Zqp _ _ z) (.c (show ∀i j,i<l.length->j<5->∃y,Zap Zae.c Zae.d l i j=.lit y from(Zul (sz:=5) (e:=Zae.c) (d:=Zae.d) (fun _=>rfl) (fun _=>rfl) _ _)) .n)))
def Zem(b:ZaF)(a:Int):Option (List Zae):=ZbV a (((b.fBook.length:Int)-(0:Int)).toNat+2) b.fBook (b.fBook.length:Int) (0:Int) ([])
theorem ZnR(b:ZaF)(a:Int)(r:List Zae)(e:Zem b a=some r):Yq 326 [] [.agg (ZaF.c b),.one (.clo (.func 327) 0 1 (fun i=>([]:List C).getD i .junk) (fun i=>([.rp false 1 (fun j=>([.lit (.int .i64 a)]:List C).getD (0+j) .junk)]:List C).getD i .junk))] [(99999,.rows 341 5 r.length (Zap Zae.c Zae.d r))] (.one (.osl 99999 r.length)):=by
 refine Yx Tryz.func326 fun S0 w0=>?_;unfold Zem at e;exact Ye 8 [rz,rz,rz] [] ⟨[],[],[],[],[(5,5,341,5,Zap Zae.c Zae.d [])],[1,5,9,10,11],[5],[]⟩ .n (ZmG S0 w0 a (((b.fBook.length:Int)-(0:Int)).toNat+2) b.fBook (b.fBook.length:Int) (0:Int) ([]) r e)
theorem Zox(b:ZaF)(a:Int)(r:List Zae)(d:Zem b a=some r):Yp 326 [.agg (ZaF.c b),.one (.clo (.func 327) 0 1 (fun i=>([]:List C).getD i .junk) (fun i=>([.rp false 1 (fun j=>([.lit (.int .i64 a)]:List C).getD (0+j) .junk)]:List C).getD i .junk))] (Yo r):=(ZnR b a r d).pure
def Zhg(b:Int):Nat->(List Zae)->ZaF->Zan->Option (Zan×Bool)|0,_,_,_=>none|fu+1,d,c,e=>(Zlg d).bind fun a=>bif(!a.2.2)then some (a.1.fEnd,a.2.2)else(ZeM c a.1.fEnd b).bind fun f=>bif f then some (a.1.fEnd,a.2.2)else Zhg b fu a.2.1 c e
theorem ZtE(S0:Nat->Prop)(w0:ZaW)(l:Int):∀(f:Nat)(g:List Zae)(e:ZaF)(b:Zan)(r:(Zan×Bool)),Zhg l f g e b=some r->Ys 32 S0 w0 Tryz.f258 (.tup [(true,Zan.c r.1),(false,cB r.2)]) [1,1,0] ⟨[(2,.one (.ptr 2 0)),(3,.one (.rp false 1 (fun j=>([.lit (.int .i64 l)]:List C).getD (0+j) .junk))),(4,.one (.ptr 4 0)),(6,(Yo g))],[(2,.box [cL 7 Zaa.c Zaa.d e.fBook,cL 10 Zab.c Zab.d e.fPeers,cL 5 Zaf.c Zaf.d e.fBans]),(4,.box [.lit (.bool b.fAddr.fV6),.lit (.int .u64 b.fAddr.fHi),.lit (.int .u64 b.fAddr.fLo),.lit (.int .i64 b.fPort)])]⟩:=by
 intro f;induction f with
 |zero=>
  intro g e b r a;simp[Zhg]at a
 |succ f o=>
  intro g e b r a;unfold Zhg at a;obtain⟨h,m,a⟩:=Zac a
  let R1:List RA:=[rA [(1,.r (.tup [(true,Zae.c h.1),(false,(cLs 5 Zae.c Zae.d) h.2.1),(false,cB h.2.2)]) [])]]
  obtain⟨i,a⟩|⟨i,a⟩:=Zaj a
  .apply Ya a 10 (R1++[rB [(2,true)],rz]) [true] (.c (ZoU _ _ m) (.c i (.c (show true=true from rfl) .n)))
  .obtain⟨p,q,a⟩:=Zac a
   let R2:List RA:=(R1++[⟨[(7,aB p)],[(2,false)],[],[],[],[],[]⟩,rz])
   have O3:Obl _:=(.c (ZoU _ _ m) (.c i (.c (ZrM _ _ _ _ q) .n)));obtain⟨k,a⟩|⟨k,a⟩:=Zaj a
   .apply Ya a 10 R2 [true] (O3.app (.c k .n))
   .exact Ye 12 R2 [false] ⟨[],[],[],[],[],[2,3,4,6],[2,4],[]⟩ (O3.app (.c k .n)) (o h.2.1 e b r a)
def ZjH(a:ZaF)(b:Int):Option (Zan×Bool):=(Zem a b).bind fun c=>Zhg b 1000000 c a (Zan.mk (Zai.mk false 0 0) 0)
theorem ZrD(b:ZaF)(d:Int)(r:(Zan×Bool))(a:ZjH b d=some r):Yp 258 [.agg (ZaF.c b),Yj d] (.tup [(true,Zan.c r.1),(false,cB r.2)]):=by
 refine Yw Tryz.func258 fun S0 w0=>?_;unfold ZjH at a;obtain⟨e,f,a⟩:=Zac a;exact Ye 5 [rz,⟨[(2,.r (Yo e) [])],[],[(1,[3])],[],[],[],[]⟩] [] ⟨[],[],[],[],[],[2,3,4,6],[2,4],[]⟩ (.c (Zox _ _ _ f) .n) (ZtE S0 w0 d 1000000 e b (Zan.mk (Zai.mk false 0 0) 0) r a)
def ZkB(a:Zaa)(c0:Int):Option Bool:=bif(a.fState==(1:Int))then some (decide (a.fNext>c0))else some false
theorem Zpz(d:Zaa)(c0:Int)(r:Bool)(a:ZkB d c0=some r):Yp 331 [.agg (Zaa.c d),.one (.rp false 1 (fun j=>([.lit (.int .i64 c0)]:List C).getD (0+j) .junk))] (Yk r):=by
 refine Yw Tryz.func331 fun S0 w0=>?_;unfold ZkB at a;obtain⟨b,a⟩|⟨b,a⟩:=Zaj a
 .apply Ya a 4 [rz,rB [(3,true)]] [] (.c b .n)
 .apply Ya a 4 [rz,rB [(3,false)]] [] (.c b .n)
def ZbU(b:Int):Nat->(List Zaa)->Int->Int->(List Zae)->Option (List Zae)|0,_,_,_,_=>none|fu+1,c,e,a,f=>bif(decide (a<e))then need (0<=a/\a<(c.length:Int))<|(ZhP (c.getD a.toNat Zaa.d)).bind fun g=>bif g then(ZkB (c.getD a.toNat Zaa.d) b).bind fun h=>bif h then need ((f++([(Zae.mk ((c.getD a.toNat Zaa.d).fNext) ((c.getD a.toNat Zaa.d).fEnd))]:List Zae)).length * 40<=140737488355328/\(f++([(Zae.mk ((c.getD a.toNat Zaa.d).fNext) ((c.getD a.toNat Zaa.d).fEnd))]:List Zae)).length<=maxLen)<|ZbU b fu c e (ZaA a 1) (f++([(Zae.mk ((c.getD a.toNat Zaa.d).fNext) ((c.getD a.toNat Zaa.d).fEnd))]:List Zae))else ZbU b fu c e (ZaA a 1) f else ZbU b fu c e (ZaA a 1) f else(Ziu f).bind fun i=>some i
theorem ZmF(S0:Nat->Prop)(w0:ZaW)(k:Int):∀(m:Nat)(b:List Zaa)(g a:Int)(h r:List Zae),ZbU k m b g a h=some r->Yt 33 S0 w0 Tryz.f326 [(99999,.rows 341 5 r.length (Zap Zae.c Zae.d r))] (.one (.osl 99999 r.length)) [1,1,0,1,0] ⟨[(1,.one (.clo (.func 331) 0 1 (fun i=>([]:List C).getD i .junk) (fun i=>([.rp false 1 (fun j=>([.lit (.int .i64 k)]:List C).getD (0+j) .junk)]:List C).getD i .junk))),(5,.one (.osl 5 h.length)),(9,(Ym b)),(10,(Yj g)),(11,(Yj a))],[(5,.rows 341 5 h.length (Zap Zae.c Zae.d h))]⟩:=by
 intro m;induction m with
 |zero=>
  intro b g a h r f;simp[ZbU]at f
 |succ m p=>
  intro b g a h r f;unfold ZbU at f;obtain⟨q,f⟩|⟨q,f⟩:=Zaj f
  .obtain⟨o2,f⟩:=Zar f;obtain⟨t,w,f⟩:=Zac f;have O1:Obl _:=(.c q (.c o2 (.c (Zjy _ _ w) .n)));obtain⟨o,f⟩|⟨o,f⟩:=Zaj f
   .obtain⟨x,u,f⟩:=Zac f
    let R2:List RA:=[rz,rz,⟨[(1,aB t),(5,aB x)],[(2,true)],[],[],[],[],[]⟩]
    obtain⟨s,f⟩|⟨s,f⟩:=Zaj f
    .obtain⟨v,f⟩:=Zar f;exact Ye 17 (R2++[⟨[(7,.c ((h++([(Zae.mk ((b.getD a.toNat Zaa.d).fNext) ((b.getD a.toNat Zaa.d).fEnd))]:List Zae)).length) (Zap Zae.c Zae.d (h++([(Zae.mk ((b.getD a.toNat Zaa.d).fNext) ((b.getD a.toNat Zaa.d).fEnd))]:List Zae))))],[],[],[],[],[(6,(([(Zae.mk ((b.getD a.toNat Zaa.d).fNext) ((b.getD a.toNat Zaa.d).fEnd))]:List Zae).length,Zap Zae.c Zae.d ([(Zae.mk ((b.getD a.toNat Zaa.d).fNext) ((b.getD a.toNat Zaa.d).fEnd))]:List Zae)))],[]⟩,rz]) [true,true] ⟨[],[],[],[],[],[1,5,9,10,11],[29],[(29,5)]⟩ (O1.app (.c o (.c (Zpz _ _ _ u) (.c s (.c (show ([(Zae.mk ((b.getD a.toNat Zaa.d).fNext) ((b.getD a.toNat Zaa.d).fEnd))]:List Zae).length=1/\∀i j,i<1->j<5->Zap Zae.c Zae.d ([(Zae.mk ((b.getD a.toNat Zaa.d).fNext) ((b.getD a.toNat Zaa.d).fEnd))]:List Zae) i j=(([(Zae.mk ((b.getD a.toNat Zaa.d).fNext) ((b.getD a.toNat Zaa.d).fEnd))]:List Zae).flatMap Zae.c).getD (i * 5+j) .junk from⟨rfl,fun i j hi hj=>ZaO (sz:=5) (e:=Zae.c) (d:=Zae.d) (fun _=>rfl) ([(Zae.mk ((b.getD a.toNat Zaa.d).fNext) ((b.getD a.toNat Zaa.d).fEnd))]:List Zae) i j hi hj⟩) (.c (Zcy (sz:=5) (e:=Zae.c) (d:=Zae.d) h ([(Zae.mk ((b.getD a.toNat Zaa.d).fNext) ((b.getD a.toNat Zaa.d).fEnd))]:List Zae)) (.c v.1 (.c v.2 .n)))))))) (p b g (ZaA a 1) (h++([(Zae.mk ((b.getD a.toNat Zaa.d).fNext) ((b.getD a.toNat Zaa.d).fEnd))]:List Zae)) r f)
    .exact Ye 17 (R2++[rz]) [true,false] ⟨[],[],[],[],[],[1,5,9,10,11],[5],[]⟩ (O1.app (.c o (.c (Zpz _ _ _ u) (.c s .n)))) (p b g (ZaA a 1) h r f)
   .exact Ye 17 [rz,rz,⟨[(1,aB t)],[(2,false)],[],[],[],[],[]⟩,rz] [true,false] ⟨[],[],[],[],[],[1,5,9,10,11],[5],[]⟩ (O1.app (.c o (.c (show false=false from rfl) .n))) (p b g (ZaA a 1) h r f)
  .obtain⟨l,z,f⟩:=Zac f;apply Yc f 8 [rz,rH [] [(1,⟨[],[(99999,32)],[(99999,.rows 341 5 l.length (Zap Zae.c Zae.d l))],.one (.osl 99999 l.length)⟩)]] [false] ⟨[],[],[],[],[],[4],[32],[(32,99999)]⟩ (.c q (.c (Zqp _ _ z) (.c (show ∀i j,i<l.length->j<5->∃y,Zap Zae.c Zae.d l i j=.lit y from(Zul (sz:=5) (e:=Zae.c) (d:=Zae.d) (fun _=>rfl) (fun _=>rfl) _ _)) .n)))
def Zfz(b:ZaF)(a:Int):Option (List Zae):=ZbU a (((b.fBook.length:Int)-(0:Int)).toNat+2) b.fBook (b.fBook.length:Int) (0:Int) ([])
theorem ZnQ(b:ZaF)(a:Int)(r:List Zae)(e:Zfz b a=some r):Yq 326 [] [.agg (ZaF.c b),.one (.clo (.func 331) 0 1 (fun i=>([]:List C).getD i .junk) (fun i=>([.rp false 1 (fun j=>([.lit (.int .i64 a)]:List C).getD (0+j) .junk)]:List C).getD i .junk))] [(99999,.rows 341 5 r.length (Zap Zae.c Zae.d r))] (.one (.osl 99999 r.length)):=by
 refine Yx Tryz.func326 fun S0 w0=>?_;unfold Zfz at e;exact Ye 8 [rz,rz,rz] [] ⟨[],[],[],[],[(5,5,341,5,Zap Zae.c Zae.d [])],[1,5,9,10,11],[5],[]⟩ .n (ZmF S0 w0 a (((b.fBook.length:Int)-(0:Int)).toNat+2) b.fBook (b.fBook.length:Int) (0:Int) ([]) r e)
theorem Zow(b:ZaF)(a:Int)(r:List Zae)(d:Zfz b a=some r):Yp 326 [.agg (ZaF.c b),.one (.clo (.func 331) 0 1 (fun i=>([]:List C).getD i .junk) (fun i=>([.rp false 1 (fun j=>([.lit (.int .i64 a)]:List C).getD (0+j) .junk)]:List C).getD i .junk))] (Yo r):=(ZnQ b a r d).pure
def ZjG(a:ZaF)(b:Int):Option Int:=(Zfz a b).bind fun c=>(Zlg c).bind fun d=>some d.1.fKey
theorem ZwH(e:ZaF)(f r:Int)(a:ZjG e f=some r):Yp 259 [.agg (ZaF.c e),Yj f] (Yj r):=by
 refine Yw Tryz.func259 fun S0 w0=>?_;unfold ZjG at a;obtain⟨g,b,h,i,a⟩:=Yv a;apply Ya a 6 [rz,⟨[(2,.r (Yo g) []),(3,.r (.tup [(true,Zae.c b.1),(false,(cLs 5 Zae.c Zae.d) b.2.1),(false,cB b.2.2)]) [])],[],[(1,[3])],[],[],[],[]⟩,rz] [] (.c (Zow _ _ _ h) (.c (ZoU _ _ i) .n))
def Zju(e:Zao)(f:Zay)(g h:Int)(i:Bool):Option (Tout Bool):=(Zci e (ZaJ.mk 7 0 f g h (Zah.mk 0 (Zab.mk (Zan.mk (Zai.mk false 0 0) 0) false 0 (ZaD.mk 0 0) 0 0) ([]:(List Zaf)) ([]:(List Zaa))) i)).bind fun j=>(match j with | .ret a b=>some (Tout.ret (a.fN==(1:Int)) b) | .pan c=>some (Tout.pan c) | .bad d=>some (Tout.bad d))
theorem ZlU(g:Zao)(h:Zay)(i j:Int)(k:Bool)(r:(Tout Bool))(a:Zju g h i j k=some r):Yr 468 [(100000,.box (Zao.c g))] [.one (.ptr 100000 0),.agg (Zay.c h),Yj i,Yj j,Yk k] (oc (fun x=>(Yk x)) r):=by
 refine ZfZ.of Tryz.func468 rfl rfl rfl rfl fun S0 w0=>?_;unfold Zju at a;obtain⟨l,b,a⟩:=Zac a;cases l with
 |ret e f=>
  dsimp only at a;obtain rfl:=oi a;exact Yd 4 [rz,⟨[],[],[],[],[(5,[(18,cL 5 Zaf.c Zaf.d []),(19,cL 7 Zaa.c Zaa.d [])])],[],[(6,⟨[(100000,100000)],[],[(100000,.box (Zao.c f))],.agg (Zah.c e)⟩)]⟩] [] ⟨[],[],[],[],[],[10],[100000],[]⟩ (.c (Zbn _ _ _ b) .n)
 |_=>
  dsimp only at a;obtain rfl:=oi a;exact Yh 3 [rz] [] (⟨[],[],[],[],[(5,[(18,cL 5 Zaf.c Zaf.d []),(19,cL 7 Zaa.c Zaa.d [])])],[],[]⟩) 6 ⟨[(100000,100000)],pvOf b⟩ (.c (Zbn _ _ _ b) .n)
def Zhc(k:Int)(l:Bool):Nat->Zao->Zay->Option (Tout Unit)|0,_,_=>none|fu+1,a,d=>(ZcH a d false).bind fun m=>(match m with | .ret b e=>(Zju e d b.fN (ZaA b.fN k) l).bind fun n=>(match n with | .ret f c=>bif f then some (Tout.ret () c)else Zhc k l fu c d | .pan g=>some (Tout.pan g) | .bad h=>some (Tout.bad h)) | .pan i=>some (Tout.pan i) | .bad j=>some (Tout.bad j))
theorem Ztw(S0:Nat->Prop)(w0:ZaW)(o:Int)(p:Bool):∀(g:Nat)(a:Zao)(e:Zay)(r:(Tout Unit)),Zhc o p g a e=some r->Good Tryz.prog 24 S0 w0 (bodyPost Tryz.prog Tryz.f140 (Znm S0 w0 (oc (fun x=>.tup []) r))) (at_ [1,0] (Zbb Tryz.f140)) ⟨[(0,.one (.ifc 112 (.ptr 100000 0))),(2,(Yj o)),(3,(Yk p)),(8,.one (.ptr 8 0))],[(100000,.box [cLn 13 Zah.c Zah.d a.fgot]),(8,.box [.lit (.int .i64 e.fKind),.lit (.int .i64 e.fShard),.lit (.int .i64 e.fSlot)])]⟩:=by
 intro g;induction g with
 |zero=>
  intro a e r b;simp[Zhc]at b
 |succ g q=>
  intro a e r b;unfold Zhc at b;obtain⟨s,h,b⟩:=Zac b;cases s with
  |ret i j=>
   dsimp only at b
   let R1:List RA:=[rH [(2,.id 463)] [(2,⟨[(100000,100000)],[],[(100000,.box (Zao.c j))],.agg (Zah.c i)⟩)]]
   have O2:Obl _:=(.c (ZaX _ _ _ _ h) (.c ZeQ .n));obtain⟨t,k,b⟩:=Zac b;cases t with
   |ret l f=>
    dsimp only at b
    let R3:List RA:=(R1++[rH [(7,.id 468)] [(7,⟨[(100000,100000)],[],[(100000,.box (Zao.c f))],(Yk l)⟩)]])
    have O4:Obl _:=(O2.app (.c (ZlU _ _ _ _ _ _ k) (.c ZzT .n)));obtain⟨m,b⟩|⟨m,b⟩:=Zaj b
    .obtain rfl:=oi b;exact Yd 7 R3 [true] ⟨[],[],[],[],[],[],[100000],[]⟩ (O4.app (.c m .n))
    .exact Ye 10 R3 [false] ⟨[],[],[],[],[],[0,2,3,8],[100000,8],[]⟩ (O4.app (.c m .n)) (q f e r b)
   |_=>
    dsimp only at b;obtain rfl:=oi b;exact Yh 5 R1 [] (rA [(7,.id 468)]) 7 ⟨[(100000,100000)],pvOf k⟩ (O2.app (.c (ZlU _ _ _ _ _ _ k) (.c ZzT .n)))
  |_=>
   dsimp only at b;obtain rfl:=oi b;exact Yh 3 [] [] (rA [(2,.id 463)]) 2 ⟨[(100000,100000)],pvOf h⟩ (.c (ZaX _ _ _ _ h) (.c ZeQ .n))
def Zld(a:Zao)(b c:Int)(d:Bool):Option (Tout Unit):=Zhc c d 1000000 a (Zay.mk b 0 0)
theorem Zkk(a:Zao)(b d:Int)(e:Bool)(r:(Tout Unit))(f:Zld a b d e=some r):Yr 140 [(100000,.box (Zao.c a))] [.one (.ifc 112 (.ptr 100000 0)),Yj b,Yj d,Yk e] (oc (fun x=>.tup []) r):=by
 refine ZfZ.of Tryz.func140 rfl rfl rfl rfl fun S0 w0=>?_;unfold Zld at f;exact Ye 3 [rz] [] ⟨[],[],[],[],[],[0,2,3,8],[100000,8],[]⟩ .n (Ztw S0 w0 d e 1000000 a (Zay.mk b 0 0) r f)
def Zmc(a:Zaa)(c0:Zan):Option Bool:=some (decide (a.fEnd=c0))
theorem Zug(a:Zaa)(c0:Zan)(r:Bool)(b:Zmc a c0=some r):Yp 333 [.agg (Zaa.c a),.one (.rp false 4 (fun j=>(Zan.c c0:List C).getD (0+j) .junk))] (Yk r):=by
 refine Yw Tryz.func333 fun S0 w0=>?_;unfold Zmc at b;apply Ya b 4 [rz,rA [(3,aB (decide (a.fEnd=c0)))]] [] (.c (ZiP a.fEnd c0 (.tmp 5) (.tmp 6)) .n)
def ZaP(c:List Zaa)(a:Zan):Nat->Int->Int->Option Int|0,_,_=>none|fu+1,e,b=>bif(decide (b<e))then need (0<=b/\b<(c.length:Int))<|(Zmc (c.getD b.toNat Zaa.d) a).bind fun f=>bif f then some b else ZaP c a fu e (ZaA b 1)else some (-1:Int)
theorem ZgI(S0:Nat->Prop)(w0:ZaW)(k:List Zaa)(b:Zan):∀(f:Nat)(d e r:Int),ZaP k b f d e=some r->Ys 19 S0 w0 Tryz.f273 (Yj r) [1,0,1,0] ⟨[(0,(Ym k)),(1,.one (.clo (.func 333) 0 1 (fun i=>([]:List C).getD i .junk) (fun i=>([.rp false 4 (fun j=>(Zan.c b:List C).getD (0+j) .junk)]:List C).getD i .junk))),(7,(Yj d)),(8,(Yj e))],[]⟩:=by
 intro f;induction f with
 |zero=>
  intro d e r a;simp[ZaP]at a
 |succ f m=>
  intro d e r a;unfold ZaP at a;obtain⟨g,a⟩|⟨g,a⟩:=Zaj a
  .obtain⟨o2,a⟩:=Zar a;obtain⟨l,o,a⟩:=Zac a;have O1:Obl _:=(.c g (.c o2 (.c (Zug _ _ _ o) .n)));obtain⟨h,a⟩|⟨h,a⟩:=Zaj a
   .apply Ya a 15 [rz,rz,rA [(5,aB l)],rz] [true,true] (O1.app (.c h .n))
   .exact Ye 17 [rz,rz,rA [(5,aB l)],rz] [true,false] (Yi [0,1,7,8]) (O1.app (.c h .n)) (m d (ZaA e 1) r a)
  .apply Ya a 8 [rz,rz] [false] (.c g .n)
def Zch(b:List Zaa)(a:Zan):Option Int:=ZaP b a (((b.length:Int)-(0:Int)).toNat+2) (b.length:Int) (0:Int)
theorem Zhx(b:List Zaa)(a:Zan)(r:Int)(d:Zch b a=some r):Yp 273 [Ym b,.one (.clo (.func 333) 0 1 (fun i=>([]:List C).getD i .junk) (fun i=>([.rp false 4 (fun j=>(Zan.c a:List C).getD (0+j) .junk)]:List C).getD i .junk))] (Yj r):=by
 refine Yw Tryz.func273 fun S0 w0=>?_;unfold Zch at d;exact Ye 6 [rz,rz] [] (Yi [0,1,7,8]) .n (ZgI S0 w0 b a (((b.length:Int)-(0:Int)).toNat+2) (b.length:Int) (0:Int) r d)
def ZiC(a:List Zaa)(b:Zan):Option Int:=(Zch a b).bind fun c=>some c
theorem Zln(b:List Zaa)(d:Zan)(r:Int)(a:ZiC b d=some r):Yp 262 [Ym b,.agg (Zan.c d)] (Yj r):=by
 refine Yw Tryz.func262 fun S0 w0=>?_;unfold ZiC at a;obtain⟨e,f,a⟩:=Zac a;apply Ya a 4 [rz,⟨[(2,aI e)],[],[(1,[3])],[],[],[],[]⟩] [] (.c (Zhx _ _ _ f) .n)
def ZoW(a:Zaa):Option Zaa:=some (Zaa.mk a.fEnd 2 a.fFails a.fNext)
theorem ZwF(a r:Zaa)(b:ZoW a=some r):Yp 261 [.agg (Zaa.c a)] (.agg (Zaa.c r)):=by
 refine Yw Tryz.func261 fun S0 w0=>?_;unfold ZoW at b;apply Ya b 6 [rz,rz,rz] [] .n
def Zcf(a:List Zaa):Option (List Zaa):=need (0<a.length)<|need ((([]:List Zaa)++a).length * 56<=140737488355328/\(([]:List Zaa)++a).length<=maxLen)<|some (([]:List Zaa)++a)
theorem ZfD(a r:List Zaa)(b:Zcf a=some r):Yq 277 [] [Ym a] [(99999,.rows 106 7 r.length (Zap Zaa.c Zaa.d r))] (.one (.osl 99999 r.length)):=by
 refine Yx Tryz.func277 fun S0 w0=>?_;unfold Zcf at b;obtain⟨o1,o2,b⟩:=Yu b;apply Yc b 9 [rz,rz,rA [(0,.c ([]:List Zaa).length (Zap Zaa.c Zaa.d ([]:List Zaa))),(2,.c ((([]:List Zaa)++a).length) (Zap Zaa.c Zaa.d (([]:List Zaa)++a)))]] [false] ⟨[],[],[],[],[],[2],[7],[(7,99999)]⟩ (.c o1 (.c (show false=false from rfl) (.c (show ([]:List Zaa).length=0 from rfl) (.c (show ∀i j,i<0->j<7->Zap Zaa.c Zaa.d ([]:List Zaa) i j=(([]:List Zaa).flatMap Zaa.c).getD (i * 7+j) .junk from(fun i j hi hj=>ZaO (sz:=7) (e:=Zaa.c) (d:=Zaa.d) (fun _=>rfl) ([]:List Zaa) i j hi hj)) (.c (Zcy (sz:=7) (e:=Zaa.c) (d:=Zaa.d) ([]:List Zaa) a) (.c o2.1 (.c o2.2 .n)))))))
theorem ZfM(x:Addr)(cap:Nat)(c:Nat->Nat->C):Yq 277 [] [.one (.lit (.slice (some x) 0 cap))] [(99999,.rows 106 7 0 c)] (.one (.osl 99999 0)):=by
 refine Yx Tryz.func277 fun S0 w0=>?_;exact ZjA Zal 9 _ _ [⟨[],[],[],[],[],[],[]⟩,⟨[(1,.r (Yk false) [])],[],[],[],[],[],[]⟩,⟨[(0,.c 0 c),(2,.c 0 c)],[],[],[],[],[],[]⟩] [false] ⟨[],[],[],[],[],[2],[7],[(7,99999)]⟩
  [∀w,(do eqGuard .eql 46 (.tmp 3) (.const (.slice none 0 0)) (.slice (some x) 0 cap) (.slice none 0 0);binOp .eql 46 (.slice (some x) 0 cap) (.slice none 0 0):Sem Value).run Tryz.prog w=.ok (.bool false) w,false=false,0=0,∀i j,i<0->j<7->c i j=([]:List C).getD (i * 7+j) .junk,Ext 7 0 0 c (fun _ _=>.junk) 0 c,0 * 56<=140737488355328,0<=maxLen] (by kernel_rfl) ⟨fun w=>by
   have hg:(eqGuard .eql 46 (.tmp 3) (.const (.slice none 0 0)) (.slice (some x) 0 cap) (.slice none 0 0)).run Tryz.prog w=.ok () w:=by simp[eqGuard]
   rw[Sem.run_bind,hg,Result.andThen_ok];exact Go.run_eql_slice_nil w _ _ (some x) 0 cap Tryz.underlying46,rfl,rfl,fun i j h=>absurd h (Nat.not_lt_zero i),⟨rfl,fun _ _ h=>absurd h (Nat.not_lt_zero _),fun _ _ h=>absurd h (Nat.not_lt_zero _)⟩,by decide,by decide,trivial⟩
theorem ZfL(cap:Nat)(c:Nat->Nat->C):Yq 277 [] [.one (.lit (.slice none 0 cap))] [(99999,.rows 106 7 0 c)] (.one (.osl 99999 0)):=by
 refine Yx Tryz.func277 fun S0 w0=>?_;exact ZjA Zal 8 _ _ [⟨[],[],[],[],[],[],[]⟩,⟨[(1,.r (Yk true) [])],[],[],[],[],[],[]⟩,⟨[],[],[],[],[],[],[]⟩] [true] ⟨[],[],[],[],[(2,99999,106,7,c)],[2],[99999],[]⟩
  [∀w,(do eqGuard .eql 46 (.tmp 3) (.const (.slice none 0 0)) (.slice none 0 cap) (.slice none 0 0);binOp .eql 46 (.slice none 0 cap) (.slice none 0 0):Sem Value).run Tryz.prog w=.ok (.bool true) w,true=true] (by kernel_rfl) ⟨fun w=>by
   have hg:(eqGuard .eql 46 (.tmp 3) (.const (.slice none 0 0)) (.slice none 0 cap) (.slice none 0 0)).run Tryz.prog w=.ok () w:=by simp[eqGuard]
   rw[Sem.run_bind,hg,Result.andThen_ok];exact Go.run_eql_slice_nil w _ _ none 0 cap Tryz.underlying46,rfl,trivial⟩
def ZaU(a:List Zaa):Option (List Zaa):=need (a.length * 56<=140737488355328/\a.length<=maxLen)<|some a
theorem ZbW(a r:List Zaa)(b:ZaU a=some r):Yq 277 [] [Ym a] [(99999,.rows 106 7 r.length (Zap Zaa.c Zaa.d r))] (.one (.osl 99999 r.length)):=by
 obtain⟨o1,b⟩:=Zar b;cases b;refine ZrY ⟨_,Tryz.func277,rfl,rfl⟩ (fun h cap=>?_) (fun h x cap=>?_) (fun h=>?_)
 .rw[h];exact ZfL cap _
 .rw[h];exact ZfM x cap _
 .refine ZfD a a ?_;unfold Zcf;rw[ZqT h,ZqT (by simpa using o1)];simp
def Zmm(c:List Zaa)(d:Zaa):Option (List Zaa):=(ZaU c).bind fun b=>(ZiC c d.fEnd).bind fun a=>bif(decide (a>=(0:Int)))then need (0<=a/\a<(b.length:Int))<|some (b.set a.toNat d)else some b
theorem ZwK(h:List Zaa)(e:Zaa)(r:List Zaa)(b:Zmm h e=some r):Yq 332 [] [Ym h,.agg (Zaa.c e)] [(99999,.rows 106 7 r.length (Zap Zaa.c Zaa.d r))] (.one (.osl 99999 r.length)):=by
 refine Yx Tryz.func332 fun S0 w0=>?_;unfold Zmm at b;obtain⟨a,j,b⟩:=Zac b;obtain⟨f,k,b⟩:=Zac b
 let R1:List RA:=[rz,rH [] [(1,⟨[],[(99999,8)],[(99999,.rows 106 7 a.length (Zap Zaa.c Zaa.d a))],.one (.osl 99999 a.length)⟩)],rA [(3,aI f)],rz]
 have O2:Obl _:=(.c (ZbW _ _ j) (.c (Zln _ _ _ k) .n));obtain⟨g,b⟩|⟨g,b⟩:=Zaj b
 .obtain⟨i,b⟩:=Zar b;apply Yc b 13 (R1++[rA [(4,.c (a.set f.toNat e).length (Zap Zaa.c Zaa.d (a.set f.toNat e)))],rz]) [true] ⟨[],[],[],[(99999,(a.set f.toNat e).length)],[],[4],[8],[(8,99999)]⟩ (O2.app (.c g (.c i (.c (show (a.set f.toNat e).length=a.length from List.length_set) (.c (show f.toNat<a.length from(ltOf i)) (.c (show ExtU 7 a.length (Zap Zaa.c Zaa.d a) f.toNat 0 (Zaa.c e) (Zap Zaa.c Zaa.d (a.set f.toNat e))from(ZkK _ _ _ rfl)) (.c (show (a.set f.toNat e).length=(a.set f.toNat e).length from rfl) .n)))))))
 .apply Yc b 13 (R1++[rz]) [false] ⟨[],[],[],[],[],[4],[8],[(8,99999)]⟩ (O2.app (.c g .n))
theorem ZyF(a:List Zaa)(b:Zaa)(r:List Zaa)(d:Zmm a b=some r):Yp 332 [Ym a,.agg (Zaa.c b)] (Ym r):=(ZwK a b r d).pure
def ZeZ(d:Zao)(e:Zay)(f:Zah)(g:Bool):Option (Tout Unit):=(Zci d (ZaJ.mk 6 0 e 0 0 f g)).bind fun h=>(match h with | .ret i a=>some (Tout.ret () a) | .pan b=>some (Tout.pan b) | .bad c=>some (Tout.bad c))
theorem ZcP(f:Zao)(g:Zay)(h:Zah)(i:Bool)(r:(Tout Unit))(a:ZeZ f g h i=some r):Yr 467 [(100000,.box (Zao.c f))] [.one (.ptr 100000 0),.agg (Zay.c g),.agg (Zah.c h),Yk i] (oc (fun x=>.tup []) r):=by
 refine ZfZ.of Tryz.func467 rfl rfl rfl rfl fun S0 w0=>?_;unfold ZeZ at a;obtain⟨j,b,a⟩:=Zac a;cases j with
 |ret d e=>
  dsimp only at a;obtain rfl:=oi a;exact Yd 3 [rz,rH [] [(5,⟨[(100000,100000)],[],[(100000,.box (Zao.c e))],.agg (Zah.c d)⟩)]] [] ⟨[],[],[],[],[],[],[100000],[]⟩ (.c (Zbn _ _ _ b) .n)
 |_=>
  dsimp only at a;obtain rfl:=oi a;exact Yh 2 [rz] [] (rz) 5 ⟨[(100000,100000)],pvOf b⟩ (.c (Zbn _ _ _ b) .n)
def Zek(k:ZaI)(d:Zao)(e:List Zaa)(f:Zaa):Option (Tout Unit):=(Zjn).bind fun g=>(Zmm e f).bind fun h=>(ZeZ d g (Zah.mk 0 (Zab.mk (Zan.mk (Zai.mk false 0 0) 0) false 0 (ZaD.mk 0 0) 0 0) ([]:(List Zaf)) h) false).bind fun i=>(match i with | .ret j a=>some (Tout.ret () a) | .pan b=>some (Tout.pan b) | .bad c=>some (Tout.bad c))
theorem Zdx(f:ZaI)(g:Zao)(h:List Zaa)(i:Zaa)(r:(Tout Unit))(a:Zek f g h i=some r):Yr 260 [(100000,.box (Zao.c g))] [.agg (ZaI.c f),.one (.ifc 112 (.ptr 100000 0)),Ym h,.agg (Zaa.c i)] (oc (fun x=>.tup []) r):=by
 refine ZfZ.of Tryz.func260 rfl rfl rfl rfl fun S0 w0=>?_;unfold Zek at a;obtain⟨j,k,l,m,a⟩:=Yv a;have O1:Obl _:=(.c (ZjQ _ l) (.c (ZyF _ _ _ m) (.c ZoP .n)));obtain⟨o,b,a⟩:=Zac a;cases o with
 |ret p e=>
  dsimp only at a;obtain rfl:=oi a;exact Yd 3 [rz,⟨[(1,aG (Zay.c j)),(4,.r (Ym k) []),(9,.id 467)],[],[],[],[(5,[(11,cL 5 Zaf.c Zaf.d [])])],[],[(9,⟨[(100000,100000)],[],[(100000,.box (Zao.c e))],.tup []⟩)]⟩] [] ⟨[],[],[],[],[],[],[100000],[]⟩ (O1.app (.c (ZcP _ _ _ _ _ b) (.c ZjK .n)))
 |_=>
  dsimp only at a;obtain rfl:=oi a;exact Yh 2 [rz] [] (⟨[(1,aG (Zay.c j)),(4,.r (Ym k) []),(9,.id 467)],[],[],[],[(5,[(11,cL 5 Zaf.c Zaf.d [])])],[],[]⟩) 9 ⟨[(100000,100000)],pvOf b⟩ (O1.app (.c (ZcP _ _ _ _ _ b) (.c ZjK .n)))
def ZhA(c:ZaI)(s:Zao):Option (Tout (Zaq×Bool)):=(Zia c s).bind fun t=>(match t with | .ret a e=>(ZcH e (Zay.mk 2 0 0) false).bind fun u=>(match u with | .ret f b=>bif(decide (f.fN>=c.fc.fMaxOut))then(Zep (5:Int)).bind fun v=>some (Tout.ret (v,true) b)else(ZjH a c.fx.fNow).bind fun g=>bif(!g.2)then(ZjG a c.fx.fNow).bind fun w=>some (Tout.ret ((Zaq.mk 6 (Zan.mk (Zai.mk false 0 0) 0) 0 w ([]:(List Zab))),true) b)else(Zld b (2:Int) (1:Int) true).bind fun x=>(match x with | .ret y h=>(ZiC a.fBook g.1).bind fun i=>need (0<=i/\i<(a.fBook.length:Int))<|(ZoW (a.fBook.getD i.toNat Zaa.d)).bind fun z=>(Zek c h a.fBook z).bind fun A=>(match A with | .ret B j=>some (Tout.ret ((Zaq.mk 0 g.1 0 0 ([]:(List Zab))),false) j) | .pan k=>some (Tout.pan k) | .bad l=>some (Tout.bad l)) | .pan m=>some (Tout.pan m) | .bad n=>some (Tout.bad n)) | .pan o=>some (Tout.pan o) | .bad p=>some (Tout.bad p)) | .pan q=>some (Tout.pan q) | .bad r=>some (Tout.bad r))
theorem Zlz(t:ZaI)(u:Zao)(r:(Tout (Zaq×Bool)))(a:ZhA t u=some r):Yr 198 [(100000,.box (Zao.c u))] [.agg (ZaI.c t),.one (.ifc 112 (.ptr 100000 0))] (oc (fun x=>.tup [(true,Zaq.c x.1),(false,cB x.2)]) r):=by
 refine ZfZ.of Tryz.func198 rfl rfl rfl rfl fun S0 w0=>?_;unfold ZhA at a;obtain⟨A,e,a⟩:=Zac a;cases A with
 |ret g h=>
  dsimp only at a
  let R1:List RA:=[rz,rH [] [(2,⟨[(100000,100000)],[],[(100000,.box (Zao.c h))],.agg (ZaF.c g)⟩)]]
  obtain⟨B,i,a⟩:=Zac a;cases B with
  |ret j k=>
   dsimp only at a
   let R2:List RA:=(R1++[rH [(2,.id 463)] [(2,⟨[(100000,100000)],[],[(100000,.box (Zao.c k))],.agg (Zah.c j)⟩)]])
   have O3:Obl _:=(.c (ZiX _ _ _ e) (.c (ZaX _ _ _ _ i) (.c ZeQ .n)));obtain⟨f,a⟩|⟨f,a⟩:=Zaj a
   .obtain⟨C,D,a⟩:=Zac a;obtain rfl:=oi a;exact Yd 10 (R2++[rA [(0,aG (Zaq.c C))]]) [true] ⟨[],[],[],[],[],[4,5],[4,100000],[]⟩ (O3.app (.c f (.c (Zfa _ _ D) .n)))
   .obtain⟨v,w,a⟩:=Zac a
    let R4:List RA:=(R2++[rA [(4,.r (.tup [(true,Zan.c v.1),(false,cB v.2)]) [])],rz])
    obtain⟨l,a⟩|⟨l,a⟩:=Zaj a
    .obtain⟨E,F,a⟩:=Zac a;obtain rfl:=oi a;exact Yd 17 (R4++[rA [(4,aI E)]]) [false,true] ⟨[],[(4,[(7,cL 10 Zab.c Zab.d [])])],[],[],[],[4,5],[4,100000],[]⟩ (O3.app (.c f (.c (ZrD _ _ _ w) (.c l (.c (ZwH _ _ _ F) .n)))))
    .have O5:Obl _:=(O3.app (.c f (.c (ZrD _ _ _ w) (.c l .n))));obtain⟨G,m,a⟩:=Zac a;cases G with
     |ret H o=>
      dsimp only at a;obtain⟨y,I,a⟩:=Zac a;obtain⟨p,a⟩:=Zar a;obtain⟨z,q,a⟩:=Zac a
      let R6:List RA:=(R4++[rH [] [(1,⟨[(100000,100000)],[],[(100000,.box (Zao.c o))],.tup []⟩)]])
      have O7:Obl _:=(O5.app (.c (Zkk _ _ _ _ _ m) (.c (Zln _ _ _ I) (.c p (.c (ZwF _ _ q) .n)))));obtain⟨J,b,a⟩:=Zac a;cases J with
      |ret K s=>
       dsimp only at a;obtain rfl:=oi a;exact Yd 22 (R6++[rH [(9,aI y),(12,aG (Zaa.c z))] [(13,⟨[(100000,100000)],[],[(100000,.box (Zao.c s))],.tup []⟩)],rz]) [false,false] ⟨[],[(4,[(7,cL 10 Zab.c Zab.d [])])],[],[],[],[4,5],[4,100000],[]⟩ (O7.app (.c (Zdx _ _ _ _ _ b) .n))
      |_=>
       dsimp only at a;obtain rfl:=oi a;exact Yh 19 R6 [false,false] (rA [(9,aI y),(12,aG (Zaa.c z))]) 13 ⟨[(100000,100000)],pvOf b⟩ (O7.app (.c (Zdx _ _ _ _ _ b) .n))
     |_=>
      dsimp only at a;obtain rfl:=oi a;exact Yh 17 R4 [false,false] (rz) 1 ⟨[(100000,100000)],pvOf m⟩ (O5.app (.c (Zkk _ _ _ _ _ m) .n))
  |_=>
   dsimp only at a;obtain rfl:=oi a;exact Yh 6 R1 [] (rA [(2,.id 463)]) 2 ⟨[(100000,100000)],pvOf i⟩ (.c (ZiX _ _ _ e) (.c (ZaX _ _ _ _ i) (.c ZeQ .n)))
 |_=>
  dsimp only at a;obtain rfl:=oi a;exact Yh 3 [rz] [] (rz) 2 ⟨[(100000,100000)],pvOf e⟩ (.c (ZiX _ _ _ e) .n)
def Zdb(d:Zao)(e:Int)(f:Bool):Option (Tout Unit):=(Zci d (ZaJ.mk 3 e (Zay.mk 0 0 0) 0 0 (Zah.mk 0 (Zab.mk (Zan.mk (Zai.mk false 0 0) 0) false 0 (ZaD.mk 0 0) 0 0) ([]:(List Zaf)) ([]:(List Zaa))) f)).bind fun g=>(match g with | .ret h a=>some (Tout.ret () a) | .pan b=>some (Tout.pan b) | .bad c=>some (Tout.bad c))
theorem Zbw(g:Zao)(h:Int)(i:Bool)(r:(Tout Unit))(a:Zdb g h i=some r):Yr 462 [(100000,.box (Zao.c g))] [.one (.ptr 100000 0),Yj h,Yk i] (oc (fun x=>.tup []) r):=by
 refine ZfZ.of Tryz.func462 rfl rfl rfl rfl fun S0 w0=>?_;unfold Zdb at a;obtain⟨j,b,a⟩:=Zac a;cases j with
 |ret e f=>
  dsimp only at a;obtain rfl:=oi a;exact Yd 1 [⟨[],[],[],[],[(3,[(18,cL 5 Zaf.c Zaf.d []),(19,cL 7 Zaa.c Zaa.d [])])],[],[(4,⟨[(100000,100000)],[],[(100000,.box (Zao.c f))],.agg (Zah.c e)⟩)]⟩] [] ⟨[],[],[],[],[],[],[100000],[]⟩ (.c (Zbn _ _ _ b) .n)
 |_=>
  dsimp only at a;obtain rfl:=oi a;exact Yh 0 [] [] (⟨[],[],[],[],[(3,[(18,cL 5 Zaf.c Zaf.d []),(19,cL 7 Zaa.c Zaa.d [])])],[],[]⟩) 4 ⟨[(100000,100000)],pvOf b⟩ (.c (Zbn _ _ _ b) .n)
def Zdd(c:Int)(d:Bool):Nat->Int->Zao->Option (Tout Unit)|0,_,_=>none|fu+1,b,a=>bif(decide (b>=(0:Int)))then bif d then(Zip c).bind fun k=>(Zdb a (ZaA (2:Int) b) (b==(ZbT k (1:Int)))).bind fun l=>(match l with | .ret m e=>Zdd c d fu (ZbT b (1:Int)) e | .pan f=>some (Tout.pan f) | .bad g=>some (Tout.bad g))else(Zdb a (ZaA (2:Int) b) false).bind fun n=>(match n with | .ret o h=>Zdd c d fu (ZbT b (1:Int)) h | .pan i=>some (Tout.pan i) | .bad j=>some (Tout.bad j))else some (Tout.ret () a)
theorem Zrh(S0:Nat->Prop)(w0:ZaW)(m:Int)(o:Bool):∀(i:Nat)(e:Int)(a:Zao)(r:(Tout Unit)),Zdd m o i e a=some r->Good Tryz.prog 29 S0 w0 (bodyPost Tryz.prog Tryz.f199 (Znm S0 w0 (oc (fun x=>.tup []) r))) (at_ [1,0] (Zbb Tryz.f199)) ⟨[(0,.one (.ifc 112 (.ptr 100000 0))),(1,(Yj m)),(2,(Yk o)),(6,(Yj e))],[(100000,.box [cLn 13 Zah.c Zah.d a.fgot])]⟩:=by
 intro i;induction i with
 |zero=>
  intro e a r b;simp[Zdd]at b
 |succ i p=>
  intro e a r b;unfold Zdd at b;obtain⟨f,b⟩|⟨f,b⟩:=Zaj b
  .obtain⟨j,b⟩|⟨j,b⟩:=Zaj b
   .obtain⟨q,s,b⟩:=Zac b;have O1:Obl _:=(.c f (.c j (.c (Zmv _ _ s) (.c Zto .n))));obtain⟨t,k,b⟩:=Zac b;cases t with
    |ret u g=>
     dsimp only at b;exact Ye 12 [rz,⟨[(7,aI q),(14,.id 462)],[(4,true)],[],[],[],[],[(14,⟨[(100000,100000)],[],[(100000,.box (Zao.c g))],.tup []⟩)]⟩,rz] [true] ⟨[],[],[],[],[],[0,1,2,6],[100000],[]⟩ (O1.app (.c (Zbw _ _ _ _ k) (.c ZgE .n))) (p (ZbT e (1:Int)) g r b)
    |_=>
     dsimp only at b;obtain rfl:=oi b;exact Yh 8 [rz] [true] (⟨[(7,aI q),(14,.id 462)],[(4,true)],[],[],[],[],[]⟩) 14 ⟨[(100000,100000)],pvOf k⟩ (O1.app (.c (Zbw _ _ _ _ k) (.c ZgE .n)))
   .obtain⟨v,l,b⟩:=Zac b;cases v with
    |ret w h=>
     dsimp only at b;exact Ye 12 [rz,⟨[(14,.id 462)],[(4,false)],[],[],[],[],[(14,⟨[(100000,100000)],[],[(100000,.box (Zao.c h))],.tup []⟩)]⟩,rz] [true] ⟨[],[],[],[],[],[0,1,2,6],[100000],[]⟩ (.c f (.c j (.c Zto (.c (Zbw _ _ _ _ l) (.c ZgE .n))))) (p (ZbT e (1:Int)) h r b)
    |_=>
     dsimp only at b;obtain rfl:=oi b;exact Yh 8 [rz] [true] (⟨[(14,.id 462)],[(4,false)],[],[],[],[],[]⟩) 14 ⟨[(100000,100000)],pvOf l⟩ (.c f (.c j (.c Zto (.c (Zbw _ _ _ _ l) (.c ZgE .n)))))
  .obtain rfl:=oi b;exact Yd 6 [rz] [false] ⟨[],[],[],[],[],[],[100000],[]⟩ (.c f .n)
def Zji(c:Zao)(a:Int)(d:Bool):Option (Tout Unit):=(Zip a).bind fun b=>Zdd a d (((ZbT b (1:Int))-(0:Int)).toNat+2) (ZbT b (1:Int)) c
theorem Zkm(b:Zao)(d:Int)(e:Bool)(r:(Tout Unit))(a:Zji b d e=some r):Yr 199 [(100000,.box (Zao.c b))] [.one (.ifc 112 (.ptr 100000 0)),Yj d,Yk e] (oc (fun x=>.tup []) r):=by
 refine ZfZ.of Tryz.func199 rfl rfl rfl rfl fun S0 w0=>?_;unfold Zji at a;obtain⟨f,g,a⟩:=Zac a;exact Ye 3 [rA [(1,aI f)]] [] ⟨[],[],[],[],[],[0,1,2,6],[100000],[]⟩ (.c (Zmv _ _ g) .n) (Zrh S0 w0 d e (((ZbT f (1:Int))-(0:Int)).toNat+2) (ZbT f (1:Int)) b r a)
def ZhZ(d:Zao)(e:Int)(f:Bool):Option (Tout Unit):=(Zci d (ZaJ.mk 4 e (Zay.mk 0 0 0) 0 0 (Zah.mk 0 (Zab.mk (Zan.mk (Zai.mk false 0 0) 0) false 0 (ZaD.mk 0 0) 0 0) ([]:(List Zaf)) ([]:(List Zaa))) f)).bind fun g=>(match g with | .ret h a=>some (Tout.ret () a) | .pan b=>some (Tout.pan b) | .bad c=>some (Tout.bad c))
theorem Zhm(g:Zao)(h:Int)(i:Bool)(r:(Tout Unit))(a:ZhZ g h i=some r):Yr 461 [(100000,.box (Zao.c g))] [.one (.ptr 100000 0),Yj h,Yk i] (oc (fun x=>.tup []) r):=by
 refine ZfZ.of Tryz.func461 rfl rfl rfl rfl fun S0 w0=>?_;unfold ZhZ at a;obtain⟨j,b,a⟩:=Zac a;cases j with
 |ret e f=>
  dsimp only at a;obtain rfl:=oi a;exact Yd 1 [⟨[],[],[],[],[(3,[(18,cL 5 Zaf.c Zaf.d []),(19,cL 7 Zaa.c Zaa.d [])])],[],[(4,⟨[(100000,100000)],[],[(100000,.box (Zao.c f))],.agg (Zah.c e)⟩)]⟩] [] ⟨[],[],[],[],[],[],[100000],[]⟩ (.c (Zbn _ _ _ b) .n)
 |_=>
  dsimp only at a;obtain rfl:=oi a;exact Yh 0 [] [] (⟨[],[],[],[],[(3,[(18,cL 5 Zaf.c Zaf.d []),(19,cL 7 Zaa.c Zaa.d [])])],[],[]⟩) 4 ⟨[(100000,100000)],pvOf b⟩ (.c (Zbn _ _ _ b) .n)
def Zic(b:ZaI)(x:Zao):Option (Tout Zaq):=(Zhw x (0:Int) false).bind fun y=>(match y with | .ret z c=>(ZeL c (1:Int) false).bind fun A=>(match A with | .ret B d=>(Zjh d b.fc.fShards).bind fun C=>(match C with | .ret D e=>(ZhA b e).bind fun E=>(match E with | .ret a f=>(Zji f b.fc.fShards a.2).bind fun F=>(match F with | .ret G g=>(Zdb g (1:Int) false).bind fun H=>(match H with | .ret I h=>(ZhZ h (0:Int) false).bind fun J=>(match J with | .ret K i=>some (Tout.ret a.1 i) | .pan j=>some (Tout.pan j) | .bad k=>some (Tout.bad k)) | .pan l=>some (Tout.pan l) | .bad m=>some (Tout.bad m)) | .pan n=>some (Tout.pan n) | .bad o=>some (Tout.bad o)) | .pan p=>some (Tout.pan p) | .bad q=>some (Tout.bad q)) | .pan r=>some (Tout.pan r) | .bad s=>some (Tout.bad s)) | .pan t=>some (Tout.pan t) | .bad u=>some (Tout.bad u)) | .pan v=>some (Tout.pan v) | .bad w=>some (Tout.bad w))
theorem ZiZ(t:ZaI)(u:Zao)(r:(Tout Zaq))(a:Zic t u=some r):Yr 110 [(100000,.box (Zao.c u))] [.agg (ZaI.c t),.one (.ifc 112 (.ptr 100000 0))] (oc (fun x=>.agg (Zaq.c x)) r):=by
 refine ZfZ.of Tryz.func110 rfl rfl rfl rfl fun S0 w0=>?_;unfold Zic at a;obtain⟨v,f,a⟩:=Zac a;cases v with
 |ret w g=>
  dsimp only at a
  let R1:List RA:=[rz,rH [(1,.id 466)] [(1,⟨[(100000,100000)],[],[(100000,.box (Zao.c g))],.tup []⟩)]]
  have O2:Obl _:=(.c (ZgH _ _ _ _ f) (.c ZqU .n));obtain⟨y,h,a⟩:=Zac a;cases y with
  |ret z i=>
   dsimp only at a
   let R3:List RA:=(R1++[rH [(1,.id 464)] [(1,⟨[(100000,100000)],[],[(100000,.box (Zao.c i))],.tup []⟩)]])
   have O4:Obl _:=(O2.app (.c (Zco _ _ _ _ h) (.c Zjf .n)));obtain⟨A,d,a⟩:=Zac a;cases A with
   |ret B j=>
    dsimp only at a
    let R5:List RA:=(R3++[rH [] [(4,⟨[(100000,100000)],[],[(100000,.box (Zao.c j))],.tup []⟩)]])
    obtain⟨C,k,a⟩:=Zac a;cases C with
    |ret b l=>
     dsimp only at a
     let R6:List RA:=(R5++[rH [] [(2,⟨[(100000,100000)],[],[(100000,.box (Zao.c l))],.tup [(true,Zaq.c b.1),(false,cB b.2)]⟩)]])
     have O7:Obl _:=(O4.app (.c (Zkl _ _ _ d) (.c (Zlz _ _ _ k) .n)));obtain⟨D,e,a⟩:=Zac a;cases D with
     |ret E m=>
      dsimp only at a
      let R8:List RA:=(R6++[rH [] [(5,⟨[(100000,100000)],[],[(100000,.box (Zao.c m))],.tup []⟩)]])
      obtain⟨F,o,a⟩:=Zac a;cases F with
      |ret G p=>
       dsimp only at a
       let R9:List RA:=(R8++[rH [(1,.id 462)] [(1,⟨[(100000,100000)],[],[(100000,.box (Zao.c p))],.tup []⟩)]])
       have fH:Obl _:=(O7.app (.c (Zkm _ _ _ _ e) (.c (Zbw _ _ _ _ o) (.c ZgE .n))));obtain⟨H,q,a⟩:=Zac a;cases H with
       |ret I s=>
        dsimp only at a;obtain rfl:=oi a;exact Yd 18 (R9++[rH [(1,.id 461)] [(1,⟨[(100000,100000)],[],[(100000,.box (Zao.c s))],.tup []⟩)],rz]) [] ⟨[],[],[],[],[],[4],[4,100000],[]⟩ (fH.app (.c (Zhm _ _ _ _ q) (.c Zsp .n)))
       |_=>
        dsimp only at a;obtain rfl:=oi a;exact Yh 15 R9 [] (rA [(1,.id 461)]) 1 ⟨[(100000,100000)],pvOf q⟩ (fH.app (.c (Zhm _ _ _ _ q) (.c Zsp .n)))
      |_=>
       dsimp only at a;obtain rfl:=oi a;exact Yh 13 R8 [] (rA [(1,.id 462)]) 1 ⟨[(100000,100000)],pvOf o⟩ (O7.app (.c (Zkm _ _ _ _ e) (.c (Zbw _ _ _ _ o) (.c ZgE .n))))
     |_=>
      dsimp only at a;obtain rfl:=oi a;exact Yh 11 R6 [] (rz) 5 ⟨[(100000,100000)],pvOf e⟩ (O7.app (.c (Zkm _ _ _ _ e) .n))
    |_=>
     dsimp only at a;obtain rfl:=oi a;exact Yh 9 R5 [] (rz) 2 ⟨[(100000,100000)],pvOf k⟩ (O4.app (.c (Zkl _ _ _ d) (.c (Zlz _ _ _ k) .n)))
   |_=>
    dsimp only at a;obtain rfl:=oi a;exact Yh 7 R3 [] (rz) 4 ⟨[(100000,100000)],pvOf d⟩ (O4.app (.c (Zkl _ _ _ d) .n))
  |_=>
   dsimp only at a;obtain rfl:=oi a;exact Yh 5 R1 [] (rA [(1,.id 464)]) 1 ⟨[(100000,100000)],pvOf h⟩ (O2.app (.c (Zco _ _ _ _ h) (.c Zjf .n)))
 |_=>
  dsimp only at a;obtain rfl:=oi a;exact Yh 3 [rz] [] (rA [(1,.id 466)]) 1 ⟨[(100000,100000)],pvOf f⟩ (.c (ZgH _ _ _ _ f) (.c ZqU .n))
def ZmJ(a:Zai):Option Zag:=(ZdR a).bind fun b=>(ZfH a b).bind fun c=>some c.1
theorem ZwI(b:Zai)(r:Zag)(a:ZmJ b=some r):Yp 226 [.agg (Zai.c b)] (.agg (Zag.c r)):=by
 refine Yw Tryz.func226 fun S0 w0=>?_;unfold ZmJ at a;obtain⟨e,d,f,g,a⟩:=Yv a;apply Ya a 6 [rz,rA [(2,aI e),(3,.r (.tup [(true,Zag.c d.1),(false,cB d.2)]) [])],rz] [] (.c (Zhh _ _ f) (.c (Zgh _ _ _ g) .n))
def Zmx(a:Int):Option Int:=some (IntKind.wrap .u64 (((BitVec.ofInt (IntKind.bits .u64) (IntKind.wrap .u64 ((IntKind.wrap .u64 (((BitVec.ofInt (IntKind.bits .u64) (IntKind.wrap .u64 ((IntKind.wrap .u64 (((BitVec.ofInt (IntKind.bits .u64) a) ^^^ (BitVec.ofInt (IntKind.bits .u64) (Int.fdiv a (2 ^ (min (30:Int).toNat (IntKind.bits .u64)))))).toNat:Int))*(13787848793156543929:Int)))) ^^^ (BitVec.ofInt (IntKind.bits .u64) (Int.fdiv (IntKind.wrap .u64 ((IntKind.wrap .u64 (((BitVec.ofInt (IntKind.bits .u64) a) ^^^ (BitVec.ofInt (IntKind.bits .u64) (Int.fdiv a (2 ^ (min (30:Int).toNat (IntKind.bits .u64)))))).toNat:Int))*(13787848793156543929:Int))) (2 ^ (min (27:Int).toNat (IntKind.bits .u64)))))).toNat:Int))*(10723151780598845931:Int)))) ^^^ (BitVec.ofInt (IntKind.bits .u64) (Int.fdiv (IntKind.wrap .u64 ((IntKind.wrap .u64 (((BitVec.ofInt (IntKind.bits .u64) (IntKind.wrap .u64 ((IntKind.wrap .u64 (((BitVec.ofInt (IntKind.bits .u64) a) ^^^ (BitVec.ofInt (IntKind.bits .u64) (Int.fdiv a (2 ^ (min (30:Int).toNat (IntKind.bits .u64)))))).toNat:Int))*(13787848793156543929:Int)))) ^^^ (BitVec.ofInt (IntKind.bits .u64) (Int.fdiv (IntKind.wrap .u64 ((IntKind.wrap .u64 (((BitVec.ofInt (IntKind.bits .u64) a) ^^^ (BitVec.ofInt (IntKind.bits .u64) (Int.fdiv a (2 ^ (min (30:Int).toNat (IntKind.bits .u64)))))).toNat:Int))*(13787848793156543929:Int))) (2 ^ (min (27:Int).toNat (IntKind.bits .u64)))))).toNat:Int))*(10723151780598845931:Int))) (2 ^ (min (31:Int).toNat (IntKind.bits .u64)))))).toNat:Int))
theorem Zqm(a r:Int)(b:Zmx a=some r):Yp 371 [.one (.lit (.int .u64 a))] (.one (.lit (.int .u64 r))):=by
 refine Yw Tryz.func371 fun S0 w0=>?_;unfold Zmx at b;apply Ya b 8 [rz,rz,rz,rz] [] (.c (show 0<=(30:Int)from(by decide)) (.c (show 0<=(27:Int)from(by decide)) (.c (show 0<=(31:Int)from(by decide)) .n)))
def Zel(b a:Int):Option Int:=need (0<=(IntKind.wrap .u64 (((BitVec.ofInt (IntKind.bits .u64) (IntKind.wrap .u64 a)) &&& (BitVec.ofInt (IntKind.bits .u64) (63:Int))).toNat:Int)))<|need (0<=(IntKind.wrap .u64 ((64:Int)-(IntKind.wrap .u64 (((BitVec.ofInt (IntKind.bits .u64) (IntKind.wrap .u64 a)) &&& (BitVec.ofInt (IntKind.bits .u64) (63:Int))).toNat:Int)))))<|some (IntKind.wrap .u64 (((BitVec.ofInt (IntKind.bits .u64) (IntKind.wrap .u64 (b * 2 ^ (min (IntKind.wrap .u64 (((BitVec.ofInt (IntKind.bits .u64) (IntKind.wrap .u64 a)) &&& (BitVec.ofInt (IntKind.bits .u64) (63:Int))).toNat:Int)).toNat (IntKind.bits .u64))))) ||| (BitVec.ofInt (IntKind.bits .u64) (Int.fdiv b (2 ^ (min (IntKind.wrap .u64 ((64:Int)-(IntKind.wrap .u64 (((BitVec.ofInt (IntKind.bits .u64) (IntKind.wrap .u64 a)) &&& (BitVec.ofInt (IntKind.bits .u64) (63:Int))).toNat:Int)))).toNat (IntKind.bits .u64)))))).toNat:Int))
theorem Zmz(b d r:Int)(a:Zel b d=some r):Yp 372 [.one (.lit (.int .u64 b)),Yj d] (.one (.lit (.int .u64 r))):=by
 refine Yw Tryz.func372 fun S0 w0=>?_;unfold Zel at a;obtain⟨o1,o2,a⟩:=Yu a;apply Ya a 6 [rz,rz,rz] [] (.c o1 (.c o2 .n))
def ZjE:Nat->Int->(List Int)->Int->Int->Option Int|0,_,_,_,_=>none|fu+1,d,b,c,a=>bif(decide (a<c))then need (0<=a/\a<(b.length:Int))<|(Zel d (7:Int)).bind fun e=>(Zmx (IntKind.wrap .u64 ((b.getD a.toNat (0:Int))+(11400714819323198485:Int)))).bind fun f=>(Zmx (IntKind.wrap .u64 (((BitVec.ofInt (IntKind.bits .u64) e) ^^^ (BitVec.ofInt (IntKind.bits .u64) f)).toNat:Int))).bind fun g=>ZjE fu g b c (ZaA a 1)else some d
theorem ZwC(S0:Nat->Prop)(w0:ZaW):∀(f:Nat)(g:Int)(b:List Int)(d e r:Int),ZjE f g b d e=some r->Ys 26 S0 w0 Tryz.f334 (.one (.lit (.int .u64 r))) [1,1,0,1,0] ⟨[(5,.one (.lit (.int .u64 g))),(11,.one (cL 1 (cI .u64) (0:Int) b)),(12,(Yj d)),(13,(Yj e))],[]⟩:=by
 intro f;induction f with
 |zero=>
  intro g b d e r a;simp[ZjE]at a
 |succ f j=>
  intro g b d e r a;unfold ZjE at a;obtain⟨h,a⟩|⟨h,a⟩:=Zaj a
  .obtain⟨k,a⟩:=Zar a;obtain⟨l,m,o,p,a⟩:=Yv a;obtain⟨i,q,a⟩:=Zac a;exact Ye 14 [rz,rz,rA [(1,.r (.one (.lit (.int .u64 l))) []),(4,.r (.one (.lit (.int .u64 m))) []),(6,.r (.one (.lit (.int .u64 i))) [])],rz] [true] (Yi [5,11,12,13]) (.c h (.c k (.c (Zmz _ _ _ o) (.c (Zqm _ _ p) (.c (Zqm _ _ q) .n))))) (j i b d (ZaA e 1) r a)
  .apply Ya a 8 [rz,rz] [false] (.c h .n)
def ZqY(b:Int)(a:List Int):Option Int:=(Zmx (IntKind.wrap .u64 (b+(11400714819323198485:Int)))).bind fun c=>ZjE (((a.length:Int)-(0:Int)).toNat+2) c a (a.length:Int) (0:Int)
theorem ZvA(d:Int)(a:List Int)(r:Int)(b:ZqY d a=some r):Yp 334 [.one (.lit (.int .u64 d)),.one (cL 1 (cI .u64) (0:Int) a)] (.one (.lit (.int .u64 r))):=by
 refine Yw Tryz.func334 fun S0 w0=>?_;unfold ZqY at b;obtain⟨e,f,b⟩:=Zac b;exact Ye 8 [rz,rA [(2,.r (.one (.lit (.int .u64 e))) [])],rz] [] (Yi [5,11,12,13]) (.c (Zqm _ _ f) .n) (ZwC S0 w0 (((a.length:Int)-(0:Int)).toNat+2) e a (a.length:Int) (0:Int) r b)
def Zqn(b:Int)(a:Zag):Option Int:=bif a.fAddr.fV6 then(ZqY b ([(6:Int),a.fAddr.fHi,a.fAddr.fLo,(IntKind.wrap .u64 a.fBits)]:List Int)).bind fun c=>some c else(ZqY b ([(4:Int),a.fAddr.fHi,a.fAddr.fLo,(IntKind.wrap .u64 a.fBits)]:List Int)).bind fun d=>some d
theorem ZAk(g:Int)(a:Zag)(r:Int)(b:Zqn g a=some r):Yp 264 [.one (.lit (.int .u64 g)),.agg (Zag.c a)] (.one (.lit (.int .u64 r))):=by
 refine Yw Tryz.func264 fun S0 w0=>?_;unfold Zqn at b;obtain⟨f,b⟩|⟨f,b⟩:=Zaj b
 .obtain⟨h,k,b⟩:=Zac b;apply Ya b 11 [rz,rz,rz,rz,⟨[(12,.r (.one (.lit (.int .u64 h))) [])],[],[],[],[],[(11,(([(6:Int),a.fAddr.fHi,a.fAddr.fLo,(IntKind.wrap .u64 a.fBits)]:List Int).length,Zap (cI .u64) (0:Int) ([(6:Int),a.fAddr.fHi,a.fAddr.fLo,(IntKind.wrap .u64 a.fBits)]:List Int)))],[]⟩] [true] (.c f (.c (show ([(6:Int),a.fAddr.fHi,a.fAddr.fLo,(IntKind.wrap .u64 a.fBits)]:List Int).length=4/\∀i j,i<4->j<1->Zap (cI .u64) (0:Int) ([(6:Int),a.fAddr.fHi,a.fAddr.fLo,(IntKind.wrap .u64 a.fBits)]:List Int) i j=(([(6:Int),a.fAddr.fHi,a.fAddr.fLo,(IntKind.wrap .u64 a.fBits)]:List Int).flatMap (cI .u64)).getD (i * 1+j) .junk from⟨rfl,fun i j hi hj=>ZaO (sz:=1) (e:=(cI .u64)) (d:=(0:Int)) (fun _=>rfl) ([(6:Int),a.fAddr.fHi,a.fAddr.fLo,(IntKind.wrap .u64 a.fBits)]:List Int) i j hi hj⟩) (.c (ZvA _ _ _ k) .n)))
 .obtain⟨l,m,b⟩:=Zac b;apply Ya b 11 [rz,rz,rz,⟨[(12,.r (.one (.lit (.int .u64 l))) [])],[],[],[],[],[(11,(([(4:Int),a.fAddr.fHi,a.fAddr.fLo,(IntKind.wrap .u64 a.fBits)]:List Int).length,Zap (cI .u64) (0:Int) ([(4:Int),a.fAddr.fHi,a.fAddr.fLo,(IntKind.wrap .u64 a.fBits)]:List Int)))],[]⟩] [false] (.c f (.c (show ([(4:Int),a.fAddr.fHi,a.fAddr.fLo,(IntKind.wrap .u64 a.fBits)]:List Int).length=4/\∀i j,i<4->j<1->Zap (cI .u64) (0:Int) ([(4:Int),a.fAddr.fHi,a.fAddr.fLo,(IntKind.wrap .u64 a.fBits)]:List Int) i j=(([(4:Int),a.fAddr.fHi,a.fAddr.fLo,(IntKind.wrap .u64 a.fBits)]:List Int).flatMap (cI .u64)).getD (i * 1+j) .junk from⟨rfl,fun i j hi hj=>ZaO (sz:=1) (e:=(cI .u64)) (d:=(0:Int)) (fun _=>rfl) ([(4:Int),a.fAddr.fHi,a.fAddr.fLo,(IntKind.wrap .u64 a.fBits)]:List Int) i j hi hj⟩) (.c (ZvA _ _ _ m) .n)))
def Zkp(a:Int):Option Int:=some (if(8:Int)<(if(1:Int)>a then(1:Int)else a)then(8:Int)else(if(1:Int)>a then(1:Int)else a))
theorem Zud(a r:Int)(b:Zkp a=some r):Yp 265 [Yj a] (Yj r):=by
 refine Yw Tryz.func265 fun S0 w0=>?_;unfold Zkp at b;apply Ya b 4 [rz,rz] [] .n
def Zmy(b a:Int):Option Int:=bif(decide (a<(1:Int)))then some (0:Int)else bif(decide (a>(2147483648:Int)))then some (0:Int)else some (IntKind.wrap .i64 (Int.fdiv (IntKind.wrap .u64 ((Int.fdiv b (2 ^ (min (32:Int).toNat (IntKind.bits .u64))))*(IntKind.wrap .u64 a))) (2 ^ (min (32:Int).toNat (IntKind.bits .u64)))))
theorem ZwD(e f r:Int)(a:Zmy e f=some r):Yp 263 [.one (.lit (.int .u64 e)),Yj f] (Yj r):=by
 refine Yw Tryz.func263 fun S0 w0=>?_;unfold Zmy at a;obtain⟨b,a⟩|⟨b,a⟩:=Zaj a
 .apply Ya a 8 [rz,rB [(2,true)],rz] [true] (.c b (.c (show true=true from rfl) .n))
 .obtain⟨d,a⟩|⟨d,a⟩:=Zaj a
  .apply Ya a 8 [rz,rB [(2,false)],rz] [true] (.c b (.c d .n))
  .apply Ya a 9 [rz,rB [(2,false)],rz] [false] (.c b (.c d (.c (show 0<=(32:Int)from(by decide)) (.c (show 0<=(32:Int)from(by decide)) .n))))
def ZjP(a:Zai)(b c:Int):Option Int:=(ZmJ a).bind fun d=>(Zqn b d).bind fun e=>(Zkp c).bind fun f=>(Zmy e f).bind fun g=>some g
theorem ZsG(b:Zai)(d e r:Int)(a:ZjP b d e=some r):Yp 200 [.agg (Zai.c b),.one (.lit (.int .u64 d)),Yj e] (Yj r):=by
 refine Yw Tryz.func200 fun S0 w0=>?_;unfold ZjP at a;obtain⟨f,g,h,i,a⟩:=Yv a;obtain⟨j,k,l,m,a⟩:=Yv a;apply Ya a 4 [rz,rA [(2,aG (Zag.c f)),(3,.r (.one (.lit (.int .u64 g))) []),(5,aI j),(6,aI k)]] [] (.c (ZwI _ _ h) (.c (ZAk _ _ _ i) (.c (Zud _ _ l) (.c (ZwD _ _ _ m) .n))))
def Zge:Nat->Int->Int->Option Int|0,_,_=>none|fu+1,a,b=>bif(decide (b>(0:Int)))then bif(decide (a>(0:Int)))then bif(decide (a<(1099511627776:Int)))then(ZgL (Ztp (2:Int) a)).bind fun c=>Zge fu c (ZbT b (1:Int))else some a else some a else some a
theorem ZtA(S0:Nat->Prop)(w0:ZaW):∀(e:Nat)(f b r:Int),Zge e f b=some r->Ys 23 S0 w0 Tryz.f413 (Yj r) [1,1,0,0] ⟨[(0,(Yj f)),(1,(Yj b))],[]⟩:=by
 intro e;induction e with
 |zero=>
  intro f b r a;simp[Zge]at a
 |succ e j=>
  intro f b r a;unfold Zge at a;obtain⟨d,a⟩|⟨d,a⟩:=Zaj a
  .obtain⟨g,a⟩|⟨g,a⟩:=Zaj a
   .obtain⟨h,a⟩|⟨h,a⟩:=Zaj a
    .obtain⟨i,k,a⟩:=Zac a;exact Ye 12 [rB [(2,true),(6,true)],rA [(2,aI i)],rz] [true] (Yi [0,1]) (.c d (.c g (.c h (.c (ZgK _ _ k) .n)))) (j i (ZbT b (1:Int)) r a)
    .apply Ya a 8 [rB [(2,true),(6,true)],rz] [false] (.c d (.c g (.c h .n)))
   .apply Ya a 8 [rB [(2,true),(6,false)],rz] [false] (.c d (.c g (.c (show false=false from rfl) .n)))
  .apply Ya a 8 [rB [(2,false)],rz] [false] (.c d (.c (show false=false from rfl) .n))
def Zmw(b c:Int):Option Int:=(ZgL b).bind fun a=>Zge (((1099511627776:Int)-a).toNat+2) a c
theorem ZwB(e b r:Int)(a:Zmw e b=some r):Yp 413 [Yj e,Yj b] (Yj r):=by
 refine Yw Tryz.func413 fun S0 w0=>?_;unfold Zmw at a;obtain⟨d,f,a⟩:=Zac a;exact Ye 6 [rz,rA [(1,aI d)]] [] (Yi [0,1]) (.c (ZgK _ _ f) .n) (ZtA S0 w0 (((1099511627776:Int)-d).toNat+2) d b r a)
def ZiD(a:Zau)(b:Int):Option Int:=bif(decide (b<(1:Int)))then some (0:Int)else(ZgL a.fCap).bind fun c=>(Zmw a.fBase (ZbT b (1:Int))).bind fun d=>some (if d<c then d else c)
theorem ZsM(d:Zau)(e r:Int)(a:ZiD d e=some r):Yp 396 [.agg (Zau.c d),Yj e] (Yj r):=by
 refine Yw Tryz.func396 fun S0 w0=>?_;unfold ZiD at a;obtain⟨b,a⟩|⟨b,a⟩:=Zaj a
 .apply Ya a 8 [rz,rz,rz] [true] (.c b .n)
 .obtain⟨f,g,h,i,a⟩:=Yv a;apply Ya a 9 [rz,rz,rA [(2,aI f),(7,aI g)]] [false] (.c b (.c (ZgK _ _ h) (.c (ZwB _ _ _ i) .n)))
def Zog(a b:Int):Option Int:=(ZgL a).bind fun c=>(ZgL b).bind fun d=>(ZgL (ZaA c d)).bind fun e=>some e
theorem ZtU(b d r:Int)(a:Zog b d=some r):Yp 294 [Yj b,Yj d] (Yj r):=by
 refine Yw Tryz.func294 fun S0 w0=>?_;unfold Zog at a;obtain⟨e,f,g,h,a⟩:=Yv a;obtain⟨i,j,a⟩:=Zac a;apply Ya a 4 [rz,rA [(1,aI e),(3,aI f),(5,aI i)]] [] (.c (ZgK _ _ g) (.c (ZgK _ _ h) (.c (ZgK _ _ j) .n)))
def Zie(a:Zau)(b:Int):Option Int:=bif(decide (a.fJitter<(1:Int)))then some (0:Int)else need (a.fJitter≠0)<|bif(decide ((Int.tmod b a.fJitter)<(0:Int)))then some (ZaA (Int.tmod b a.fJitter) a.fJitter)else some (Int.tmod b a.fJitter)
theorem ZrN(e:Zau)(f r:Int)(a:Zie e f=some r):Yp 397 [.agg (Zau.c e),Yj f] (Yj r):=by
 refine Yw Tryz.func397 fun S0 w0=>?_;unfold Zie at a;obtain⟨b,a⟩|⟨b,a⟩:=Zaj a
 .apply Ya a 8 [rz,rz,rz] [true] (.c b .n)
 .obtain⟨o2,a⟩:=Zar a;obtain⟨d,a⟩|⟨d,a⟩:=Zaj a
  .apply Ya a 16 [rz,rz,rz,rz,rz,rz] [false,true] (.c b (.c o2 (.c d .n)))
  .apply Ya a 16 [rz,rz,rz,rz,rz] [false,false] (.c b (.c o2 (.c d .n)))
def Zjq(a:Zau)(b c d:Int):Option Int:=(ZiD a b).bind fun e=>(Zog c e).bind fun f=>(Zie a d).bind fun g=>(Zog f g).bind fun h=>some h
theorem ZtG(b:Zau)(d e f r:Int)(a:Zjq b d e f=some r):Yp 373 [.agg (Zau.c b),Yj d,Yj e,Yj f] (Yj r):=by
 refine Yw Tryz.func373 fun S0 w0=>?_;unfold Zjq at a;obtain⟨g,h,i,j,a⟩:=Yv a;obtain⟨k,l,m,o,a⟩:=Yv a;apply Ya a 4 [rz,rA [(3,aI g),(4,aI h),(7,aI k),(8,aI l)]] [] (.c (ZsM _ _ _ i) (.c (ZtU _ _ _ j) (.c (ZrN _ _ _ m) (.c (ZtU _ _ _ o) .n))))
def ZgP(b:Zau)(a:Zaa)(c d:Int):Option Zaa:=(Zjq b (ZaA (if(999:Int)<(if(0:Int)>a.fFails then(0:Int)else a.fFails)then(999:Int)else(if(0:Int)>a.fFails then(0:Int)else a.fFails)) (1:Int)) c d).bind fun e=>some (Zaa.mk a.fEnd 1 (ZaA (if(999:Int)<(if(0:Int)>a.fFails then(0:Int)else a.fFails)then(999:Int)else(if(0:Int)>a.fFails then(0:Int)else a.fFails)) (1:Int)) e)
theorem Zqq(b:Zau)(d:Zaa)(e f:Int)(r:Zaa)(a:ZgP b d e f=some r):Yp 335 [.agg (Zau.c b),.agg (Zaa.c d),Yj e,Yj f] (.agg (Zaa.c r)):=by
 refine Yw Tryz.func335 fun S0 w0=>?_;unfold ZgP at a;obtain⟨g,h,a⟩:=Zac a;apply Ya a 10 [rz,rz,rz,rA [(5,aI g)],rz] [] (.c (ZtG _ _ _ _ _ h) .n)
def Zfb(g:ZaI)(h:Zao)(i:List Zaa)(j:Zaa):Option (Tout Unit):=(Zek g h i j).bind fun k=>(match k with | .ret l a=>(Zld a (2:Int) (-1:Int) true).bind fun m=>(match m with | .ret n b=>some (Tout.ret () b) | .pan c=>some (Tout.pan c) | .bad d=>some (Tout.bad d)) | .pan e=>some (Tout.pan e) | .bad f=>some (Tout.bad f))
theorem ZgN(g:ZaI)(h:Zao)(i:List Zaa)(j:Zaa)(r:(Tout Unit))(a:Zfb g h i j=some r):Yr 267 [(100000,.box (Zao.c h))] [.agg (ZaI.c g),.one (.ifc 112 (.ptr 100000 0)),Ym i,.agg (Zaa.c j)] (oc (fun x=>.tup []) r):=by
 refine ZfZ.of Tryz.func267 rfl rfl rfl rfl fun S0 w0=>?_;unfold Zfb at a;obtain⟨k,b,a⟩:=Zac a;cases k with
 |ret l d=>
  dsimp only at a
  let R1:List RA:=[rz,rH [] [(4,⟨[(100000,100000)],[],[(100000,.box (Zao.c d))],.tup []⟩)]]
  obtain⟨m,e,a⟩:=Zac a;cases m with
  |ret o f=>
   dsimp only at a;obtain rfl:=oi a;exact Yd 5 (R1++[rH [] [(1,⟨[(100000,100000)],[],[(100000,.box (Zao.c f))],.tup []⟩)]]) [] ⟨[],[],[],[],[],[],[100000],[]⟩ (.c (Zdx _ _ _ _ _ b) (.c (Zkk _ _ _ _ _ e) .n))
  |_=>
   dsimp only at a;obtain rfl:=oi a;exact Yh 4 R1 [] (rz) 1 ⟨[(100000,100000)],pvOf e⟩ (.c (Zdx _ _ _ _ _ b) (.c (Zkk _ _ _ _ _ e) .n))
 |_=>
  dsimp only at a;obtain rfl:=oi a;exact Yh 3 [rz] [] (rz) 4 ⟨[(100000,100000)],pvOf b⟩ (.c (Zdx _ _ _ _ _ b) .n)
def Zgm(a:ZaI)(f:Zao)(g:List Zaa)(h:Zaa)(i:Int):Option (Tout (Zaq×Bool)):=(ZgP a.fc h a.fx.fNow a.fx.fNum).bind fun b=>(Zfb a f g b).bind fun j=>(match j with | .ret k c=>some (Tout.ret ((Zaq.mk i (Zan.mk (Zai.mk false 0 0) 0) b.fFails b.fNext ([]:(List Zab))),false) c) | .pan d=>some (Tout.pan d) | .bad e=>some (Tout.bad e))
theorem ZgO(f:ZaI)(g:Zao)(h:List Zaa)(i:Zaa)(j:Int)(r:(Tout (Zaq×Bool)))(a:Zgm f g h i j=some r):Yr 266 [(100000,.box (Zao.c g))] [.agg (ZaI.c f),.one (.ifc 112 (.ptr 100000 0)),Ym h,.agg (Zaa.c i),Yj j] (oc (fun x=>.tup [(true,Zaq.c x.1),(false,cB x.2)]) r):=by
 refine ZfZ.of Tryz.func266 rfl rfl rfl rfl fun S0 w0=>?_;unfold Zgm at a;obtain⟨k,m,l,b,a⟩:=Yv a;cases m with
 |ret o e=>
  dsimp only at a;obtain rfl:=oi a;exact Yd 8 [rz,rA [(9,aG (Zaa.c k))],rH [] [(4,⟨[(100000,100000)],[],[(100000,.box (Zao.c e))],.tup []⟩)],rz] [] ⟨[],[(10,[(7,cL 10 Zab.c Zab.d [])])],[],[],[],[10,11],[10,100000],[]⟩ (.c (Zqq _ _ _ _ _ l) (.c (ZgN _ _ _ _ _ b) .n))
 |_=>
  dsimp only at a;obtain rfl:=oi a;exact Yh 5 [rz,rA [(9,aG (Zaa.c k))]] [] (rz) 4 ⟨[(100000,100000)],pvOf b⟩ (.c (Zqq _ _ _ _ _ l) (.c (ZgN _ _ _ _ _ b) .n))
def Zll(a:Zab)(c0:Zan):Option Bool:=some (decide (a.fEnd=c0))
theorem Ztx(a:Zab)(c0:Zan)(r:Bool)(b:Zll a c0=some r):Yp 286 [.agg (Zab.c a),.one (.rp false 4 (fun j=>(Zan.c c0:List C).getD (0+j) .junk))] (Yk r):=by
 refine Yw Tryz.func286 fun S0 w0=>?_;unfold Zll at b;apply Ya b 4 [rz,rA [(3,aB (decide (a.fEnd=c0)))]] [] (.c (ZiP a.fEnd c0 (.tmp 5) (.tmp 6)) .n)
def ZaR(c:List Zab)(a:Zan):Nat->Int->Int->Option Int|0,_,_=>none|fu+1,e,b=>bif(decide (b<e))then need (0<=b/\b<(c.length:Int))<|(Zll (c.getD b.toNat Zab.d) a).bind fun f=>bif f then some b else ZaR c a fu e (ZaA b 1)else some (-1:Int)
theorem Zhl(S0:Nat->Prop)(w0:ZaW)(k:List Zab)(b:Zan):∀(f:Nat)(d e r:Int),ZaR k b f d e=some r->Ys 19 S0 w0 Tryz.f285 (Yj r) [1,0,1,0] ⟨[(0,(Yn k)),(1,.one (.clo (.func 286) 0 1 (fun i=>([]:List C).getD i .junk) (fun i=>([.rp false 4 (fun j=>(Zan.c b:List C).getD (0+j) .junk)]:List C).getD i .junk))),(7,(Yj d)),(8,(Yj e))],[]⟩:=by
 intro f;induction f with
 |zero=>
  intro d e r a;simp[ZaR]at a
 |succ f m=>
  intro d e r a;unfold ZaR at a;obtain⟨g,a⟩|⟨g,a⟩:=Zaj a
  .obtain⟨o2,a⟩:=Zar a;obtain⟨l,o,a⟩:=Zac a;have O1:Obl _:=(.c g (.c o2 (.c (Ztx _ _ _ o) .n)));obtain⟨h,a⟩|⟨h,a⟩:=Zaj a
   .apply Ya a 15 [rz,rz,rA [(5,aB l)],rz] [true,true] (O1.app (.c h .n))
   .exact Ye 17 [rz,rz,rA [(5,aB l)],rz] [true,false] (Yi [0,1,7,8]) (O1.app (.c h .n)) (m d (ZaA e 1) r a)
  .apply Ya a 8 [rz,rz] [false] (.c g .n)
def Zcp(b:List Zab)(a:Zan):Option Int:=ZaR b a (((b.length:Int)-(0:Int)).toNat+2) (b.length:Int) (0:Int)
theorem ZhL(b:List Zab)(a:Zan)(r:Int)(d:Zcp b a=some r):Yp 285 [Yn b,.one (.clo (.func 286) 0 1 (fun i=>([]:List C).getD i .junk) (fun i=>([.rp false 4 (fun j=>(Zan.c a:List C).getD (0+j) .junk)]:List C).getD i .junk))] (Yj r):=by
 refine Yw Tryz.func285 fun S0 w0=>?_;unfold Zcp at d;exact Ye 6 [rz,rz] [] (Yi [0,1,7,8]) .n (Zhl S0 w0 b a (((b.length:Int)-(0:Int)).toNat+2) (b.length:Int) (0:Int) r d)
def ZjO(a:List Zab)(b:Zan):Option Int:=(Zcp a b).bind fun c=>some c
theorem Zvz(b:List Zab)(d:Zan)(r:Int)(a:ZjO b d=some r):Yp 219 [Yn b,.agg (Zan.c d)] (Yj r):=by
 refine Yw Tryz.func219 fun S0 w0=>?_;unfold ZjO at a;obtain⟨e,f,a⟩:=Zac a;apply Ya a 4 [rz,⟨[(2,aI e)],[],[(1,[3])],[],[],[],[]⟩] [] (.c (ZhL _ _ _ f) .n)
def ZlD(a:Zaa):Option Zaa:=some (Zaa.mk a.fEnd 1 a.fFails a.fNext)
theorem ZvF(a r:Zaa)(b:ZlD a=some r):Yp 268 [.agg (Zaa.c a)] (.agg (Zaa.c r)):=by
 refine Yw Tryz.func268 fun S0 w0=>?_;unfold ZlD at b;apply Ya b 6 [rz,rz,rz] [] .n
def ZlC(a:Zaa):Option Zaa:=some (Zaa.mk a.fEnd 3 0 a.fNext)
theorem ZvE(a r:Zaa)(b:ZlC a=some r):Yp 269 [.agg (Zaa.c a)] (.agg (Zaa.c r)):=by
 refine Yw Tryz.func269 fun S0 w0=>?_;unfold ZlC at b;apply Ya b 6 [rz,rz,rz] [] .n
def Zcn(a:List Zab):Option (List Zab):=need (0<a.length)<|need ((([]:List Zab)++a).length * 80<=140737488355328/\(([]:List Zab)++a).length<=maxLen)<|some (([]:List Zab)++a)
theorem ZfK(a r:List Zab)(b:Zcn a=some r):Yq 270 [] [Yn a] [(99999,.rows 44 10 r.length (Zap Zab.c Zab.d r))] (.one (.osl 99999 r.length)):=by
 refine Yx Tryz.func270 fun S0 w0=>?_;unfold Zcn at b;obtain⟨o1,o2,b⟩:=Yu b;apply Yc b 9 [rz,rz,rA [(0,.c ([]:List Zab).length (Zap Zab.c Zab.d ([]:List Zab))),(2,.c ((([]:List Zab)++a).length) (Zap Zab.c Zab.d (([]:List Zab)++a)))]] [false] ⟨[],[],[],[],[],[2],[7],[(7,99999)]⟩ (.c o1 (.c (show false=false from rfl) (.c (show ([]:List Zab).length=0 from rfl) (.c (show ∀i j,i<0->j<10->Zap Zab.c Zab.d ([]:List Zab) i j=(([]:List Zab).flatMap Zab.c).getD (i * 10+j) .junk from(fun i j hi hj=>ZaO (sz:=10) (e:=Zab.c) (d:=Zab.d) (fun _=>rfl) ([]:List Zab) i j hi hj)) (.c (Zcy (sz:=10) (e:=Zab.c) (d:=Zab.d) ([]:List Zab) a) (.c o2.1 (.c o2.2 .n)))))))
theorem Zgl(x:Addr)(cap:Nat)(c:Nat->Nat->C):Yq 270 [] [.one (.lit (.slice (some x) 0 cap))] [(99999,.rows 44 10 0 c)] (.one (.osl 99999 0)):=by
 refine Yx Tryz.func270 fun S0 w0=>?_;exact ZjA Zal 9 _ _ [⟨[],[],[],[],[],[],[]⟩,⟨[(1,.r (Yk false) [])],[],[],[],[],[],[]⟩,⟨[(0,.c 0 c),(2,.c 0 c)],[],[],[],[],[],[]⟩] [false] ⟨[],[],[],[],[],[2],[7],[(7,99999)]⟩
  [∀w,(do eqGuard .eql 54 (.tmp 3) (.const (.slice none 0 0)) (.slice (some x) 0 cap) (.slice none 0 0);binOp .eql 54 (.slice (some x) 0 cap) (.slice none 0 0):Sem Value).run Tryz.prog w=.ok (.bool false) w,false=false,0=0,∀i j,i<0->j<10->c i j=([]:List C).getD (i * 10+j) .junk,Ext 10 0 0 c (fun _ _=>.junk) 0 c,0 * 80<=140737488355328,0<=maxLen] (by kernel_rfl) ⟨fun w=>by
   have hg:(eqGuard .eql 54 (.tmp 3) (.const (.slice none 0 0)) (.slice (some x) 0 cap) (.slice none 0 0)).run Tryz.prog w=.ok () w:=by simp[eqGuard]
   rw[Sem.run_bind,hg,Result.andThen_ok];exact Go.run_eql_slice_nil w _ _ (some x) 0 cap Tryz.underlying54,rfl,rfl,fun i j h=>absurd h (Nat.not_lt_zero i),⟨rfl,fun _ _ h=>absurd h (Nat.not_lt_zero _),fun _ _ h=>absurd h (Nat.not_lt_zero _)⟩,by decide,by decide,trivial⟩
theorem Zgk(cap:Nat)(c:Nat->Nat->C):Yq 270 [] [.one (.lit (.slice none 0 cap))] [(99999,.rows 44 10 0 c)] (.one (.osl 99999 0)):=by
 refine Yx Tryz.func270 fun S0 w0=>?_;exact ZjA Zal 8 _ _ [⟨[],[],[],[],[],[],[]⟩,⟨[(1,.r (Yk true) [])],[],[],[],[],[],[]⟩,⟨[],[],[],[],[],[],[]⟩] [true] ⟨[],[],[],[],[(2,99999,44,10,c)],[2],[99999],[]⟩
  [∀w,(do eqGuard .eql 54 (.tmp 3) (.const (.slice none 0 0)) (.slice none 0 cap) (.slice none 0 0);binOp .eql 54 (.slice none 0 cap) (.slice none 0 0):Sem Value).run Tryz.prog w=.ok (.bool true) w,true=true] (by kernel_rfl) ⟨fun w=>by
   have hg:(eqGuard .eql 54 (.tmp 3) (.const (.slice none 0 0)) (.slice none 0 cap) (.slice none 0 0)).run Tryz.prog w=.ok () w:=by simp[eqGuard]
   rw[Sem.run_bind,hg,Result.andThen_ok];exact Go.run_eql_slice_nil w _ _ none 0 cap Tryz.underlying54,rfl,trivial⟩
def Zbp(a:List Zab):Option (List Zab):=need (a.length * 80<=140737488355328/\a.length<=maxLen)<|some a
theorem Zgj(a r:List Zab)(b:Zbp a=some r):Yq 270 [] [Yn a] [(99999,.rows 44 10 r.length (Zap Zab.c Zab.d r))] (.one (.osl 99999 r.length)):=by
 obtain⟨o1,b⟩:=Zar b;cases b;refine ZrY ⟨_,Tryz.func270,rfl,rfl⟩ (fun h cap=>?_) (fun h x cap=>?_) (fun h=>?_)
 .rw[h];exact Zgk cap _
 .rw[h];exact Zgl x cap _
 .refine ZfK a a ?_;unfold Zcn;rw[ZqT h,ZqT (by simpa using o1)];simp
def Zml(b:Zan)(c:Bool)(d:Int):Option Zab:=(ZgL d).bind fun a=>some (Zab.mk b c a (ZaD.mk 0 a) 0 0)
theorem ZyC(b:Zan)(d:Bool)(e:Int)(r:Zab)(a:Zml b d e=some r):Yp 271 [.agg (Zan.c b),Yk d,Yj e] (.agg (Zab.c r)):=by
 refine Yw Tryz.func271 fun S0 w0=>?_;unfold Zml at a;obtain⟨f,g,a⟩:=Zac a;apply Ya a 6 [rz,rA [(1,aI f)],rz] [] (.c (ZgK _ _ g) .n)
def Zde(c:List Zab):Nat->(List Zab)->Int->Int->(List Int)->Option (List Int)|0,_,_,_,_=>none|fu+1,e,f,a,b=>bif(decide (a<f))then need (0<=a/\a<(e.length:Int))<|bif(decide (a>=(c.length:Int)))then need ((b++([a]:List Int)).length * 8<=140737488355328/\(b++([a]:List Int)).length<=maxLen)<|Zde c fu e f (ZaA a 1) (b++([a]:List Int))else need (0<=a/\a<(c.length:Int))<|bif(!(decide ((c.getD a.toNat Zab.d)=(e.getD a.toNat Zab.d))))then need ((b++([a]:List Int)).length * 8<=140737488355328/\(b++([a]:List Int)).length<=maxLen)<|Zde c fu e f (ZaA a 1) (b++([a]:List Int))else Zde c fu e f (ZaA a 1) b else some b
theorem Zrk(S0:Nat->Prop)(w0:ZaW)(k:List Zab):∀(l:Nat)(g:List Zab)(h a:Int)(f r:List Int),Zde k l g h a f=some r->Yt 33 S0 w0 Tryz.f287 [(99999,.rows 3 1 r.length (Zap (cI .i64) (0:Int) r))] (.one (.osl 99999 r.length)) [1,1,0,1,0] ⟨[(0,(Yn k)),(5,.one (.osl 5 f.length)),(8,(Yn g)),(9,(Yj h)),(10,(Yj a))],[(5,.rows 3 1 f.length (Zap (cI .i64) (0:Int) f))]⟩:=by
 intro l;induction l with
 |zero=>
  intro g h a f r b;simp[Zde]at b
 |succ l o=>
  intro g h a f r b;unfold Zde at b;obtain⟨m,b⟩|⟨m,b⟩:=Zaj b
  .obtain⟨o2,b⟩:=Zar b;obtain⟨p,b⟩|⟨p,b⟩:=Zaj b
   .obtain⟨s,b⟩:=Zar b;exact Ye 17 [rz,rz,rB [(4,true)],⟨[(3,.c ((f++([a]:List Int)).length) (Zap (cI .i64) (0:Int) (f++([a]:List Int))))],[],[],[],[],[(2,(([a]:List Int).length,Zap (cI .i64) (0:Int) ([a]:List Int)))],[]⟩,rz] [true,true] ⟨[],[],[],[],[],[0,5,8,9,10],[30],[(30,5)]⟩ (.c m (.c o2 (.c p (.c (show true=true from rfl) (.c (show ([a]:List Int).length=1/\∀i j,i<1->j<1->Zap (cI .i64) (0:Int) ([a]:List Int) i j=(([a]:List Int).flatMap (cI .i64)).getD (i * 1+j) .junk from⟨rfl,fun i j hi hj=>ZaO (sz:=1) (e:=(cI .i64)) (d:=(0:Int)) (fun _=>rfl) ([a]:List Int) i j hi hj⟩) (.c (Zcy (sz:=1) (e:=(cI .i64)) (d:=(0:Int)) f ([a]:List Int)) (.c s.1 (.c s.2 .n)))))))) (o g h (ZaA a 1) (f++([a]:List Int)) r b)
   .obtain⟨u,b⟩:=Zar b
    let R1:List RA:=[rz,rz,⟨[(10,aB (!(decide ((k.getD a.toNat Zab.d)=(g.getD a.toNat Zab.d)))))],[(4,false)],[],[],[],[],[]⟩]
    have O2:Obl _:=(.c m (.c o2 (.c p (.c u (.c (Zry (k.getD a.toNat Zab.d) (g.getD a.toNat Zab.d) (.tmp 23) (.tmp 24)) .n)))));obtain⟨q,b⟩|⟨q,b⟩:=Zaj b
    .obtain⟨t,b⟩:=Zar b;exact Ye 17 (R1++[⟨[(3,.c ((f++([a]:List Int)).length) (Zap (cI .i64) (0:Int) (f++([a]:List Int))))],[],[],[],[],[(2,(([a]:List Int).length,Zap (cI .i64) (0:Int) ([a]:List Int)))],[]⟩,rz]) [true,true] ⟨[],[],[],[],[],[0,5,8,9,10],[30],[(30,5)]⟩ (O2.app (.c q (.c (show ([a]:List Int).length=1/\∀i j,i<1->j<1->Zap (cI .i64) (0:Int) ([a]:List Int) i j=(([a]:List Int).flatMap (cI .i64)).getD (i * 1+j) .junk from⟨rfl,fun i j hi hj=>ZaO (sz:=1) (e:=(cI .i64)) (d:=(0:Int)) (fun _=>rfl) ([a]:List Int) i j hi hj⟩) (.c (Zcy (sz:=1) (e:=(cI .i64)) (d:=(0:Int)) f ([a]:List Int)) (.c t.1 (.c t.2 .n)))))) (o g h (ZaA a 1) (f++([a]:List Int)) r b)
    .exact Ye 17 (R1++[rz]) [true,false] ⟨[],[],[],[],[],[0,5,8,9,10],[5],[]⟩ (O2.app (.c q .n)) (o g h (ZaA a 1) f r b)
  .apply Yc b 8 [rz,rz] [false] ⟨[],[],[],[],[],[4],[5],[(5,99999)]⟩ (.c m .n)
def Zjm(b a:List Zab):Option (List Int):=Zde b (((a.length:Int)-(0:Int)).toNat+2) a (a.length:Int) (0:Int) ([])
theorem ZsF(b a:List Zab)(r:List Int)(c:Zjm b a=some r):Yq 287 [] [Yn b,Yn a] [(99999,.rows 3 1 r.length (Zap (cI .i64) (0:Int) r))] (.one (.osl 99999 r.length)):=by
 refine Yx Tryz.func287 fun S0 w0=>?_;unfold Zjm at c;exact Ye 8 [rz,rz,rz] [] ⟨[],[],[],[],[(5,5,3,1,Zap (cI .i64) (0:Int) [])],[0,5,8,9,10],[5],[]⟩ .n (Zrk S0 w0 b (((a.length:Int)-(0:Int)).toNat+2) a (a.length:Int) (0:Int) ([]) r c)
theorem Ztz(a b:List Zab)(r:List Int)(c:Zjm a b=some r):Yp 287 [Yn a,Yn b] (.one (cL 1 (cI .i64) (0:Int) r)):=(ZsF a b r c).pure
def Zft(g:Int)(n e:List Zab):Nat->(List Int)->Int->Int->Zao->Option (Tout Unit)|0,_,_,_,_=>none|fu+1,c,f,b,a=>bif(decide (b<f))then need (0<=b/\b<(c.length:Int))<|(Zlb g (c.getD b.toNat (0:Int))).bind fun o=>need (0<=(c.getD b.toNat (0:Int))/\(c.getD b.toNat (0:Int))<(e.length:Int))<|(ZeZ a o (Zah.mk 0 (e.getD (c.getD b.toNat (0:Int)).toNat Zab.d) ([]:(List Zaf)) ([]:(List Zaa))) false).bind fun p=>(match p with | .ret q h=>Zft g n e fu c f (ZaA b 1) h | .pan i=>some (Tout.pan i) | .bad j=>some (Tout.bad j))else bif((n.length:Int) != (e.length:Int))then(Zlc g).bind fun r=>(ZeZ a r (Zah.mk (e.length:Int) (Zab.mk (Zan.mk (Zai.mk false 0 0) 0) false 0 (ZaD.mk 0 0) 0 0) ([]:(List Zaf)) ([]:(List Zaa))) false).bind fun s=>(match s with | .ret t k=>some (Tout.ret () k) | .pan l=>some (Tout.pan l) | .bad m=>some (Tout.bad m))else some (Tout.ret () a)
theorem ZsB(S0:Nat->Prop)(w0:ZaW)(p:Int)(q s:List Zab):∀(i:Nat)(e:List Int)(f g:Int)(b:Zao)(r:(Tout Unit)),Zft p q s i e f g b=some r->Good Tryz.prog 47 S0 w0 (bodyPost Tryz.prog Tryz.f220 (Znm S0 w0 (oc (fun x=>.tup []) r))) (at_ [0,1,0] (Zbb Tryz.f220)) ⟨[(0,.one (.ifc 112 (.ptr 100000 0))),(1,(Yj p)),(2,(Yn q)),(3,(Yn s)),(12,.one (cL 1 (cI .i64) (0:Int) e)),(13,(Yj f)),(14,(Yj g))],[(100000,.box [cLn 13 Zah.c Zah.d b.fgot])]⟩:=by
 intro i;induction i with
 |zero=>
  intro e f g b r a;simp[Zft]at a
 |succ i v=>
  intro e f g b r a;unfold Zft at a;obtain⟨j,a⟩|⟨j,a⟩:=Zaj a
  .obtain⟨w,a⟩:=Zar a;obtain⟨t,y,a⟩:=Zac a;obtain⟨z,a⟩:=Zar a;have O1:Obl _:=(.c j (.c w (.c (ZrA _ _ _ y) (.c z (.c ZoP .n)))));obtain⟨A,k,a⟩:=Zac a;cases A with
   |ret B h=>
    dsimp only at a;exact Ye 14 [rz,rz,⟨[(3,aG (Zay.c t)),(12,.id 467)],[],[],[],[(8,[(11,cL 5 Zaf.c Zaf.d []),(12,cL 7 Zaa.c Zaa.d [])])],[],[(12,⟨[(100000,100000)],[],[(100000,.box (Zao.c h))],.tup []⟩)]⟩,rz] [true] ⟨[],[],[],[],[],[0,1,2,3,12,13,14],[100000],[]⟩ (O1.app (.c (ZcP _ _ _ _ _ k) (.c ZjK .n))) (v e f (ZaA g 1) h r a)
   |_=>
    dsimp only at a;obtain rfl:=oi a;exact Yh 10 [rz,rz] [true] (⟨[(3,aG (Zay.c t)),(12,.id 467)],[],[],[],[(8,[(11,cL 5 Zaf.c Zaf.d []),(12,cL 7 Zaa.c Zaa.d [])])],[],[]⟩) 12 ⟨[(100000,100000)],pvOf k⟩ (O1.app (.c (ZcP _ _ _ _ _ k) (.c ZjK .n)))
  .obtain⟨l,a⟩|⟨l,a⟩:=Zaj a
   .obtain⟨u,C,a⟩:=Zac a;have O2:Obl _:=(.c j (.c l (.c (ZrB _ _ C) (.c ZoP .n))));obtain⟨D,m,a⟩:=Zac a;cases D with
    |ret E o=>
     dsimp only at a;obtain rfl:=oi a;exact Yd 10 [rz,rz,⟨[(2,aG (Zay.c u)),(9,.id 467)],[],[],[],[(5,[(11,cL 5 Zaf.c Zaf.d []),(12,cL 7 Zaa.c Zaa.d [])])],[],[(9,⟨[(100000,100000)],[],[(100000,.box (Zao.c o))],.tup []⟩)]⟩] [false,true] ⟨[],[],[],[],[],[],[100000],[]⟩ (O2.app (.c (ZcP _ _ _ _ _ m) (.c ZjK .n)))
    |_=>
     dsimp only at a;obtain rfl:=oi a;exact Yh 9 [rz,rz] [false,true] (⟨[(2,aG (Zay.c u)),(9,.id 467)],[],[],[],[(5,[(11,cL 5 Zaf.c Zaf.d []),(12,cL 7 Zaa.c Zaa.d [])])],[],[]⟩) 9 ⟨[(100000,100000)],pvOf m⟩ (O2.app (.c (ZcP _ _ _ _ _ m) (.c ZjK .n)))
   .obtain rfl:=oi a;exact Yd 10 [rz,rz] [false,false] ⟨[],[],[],[],[],[],[100000],[]⟩ (.c j (.c l .n))
def ZjN(d:Zao)(e:Int)(b c:List Zab):Option (Tout Unit):=(Zjm b c).bind fun a=>Zft e b c (((a.length:Int)-(0:Int)).toNat+2) a (a.length:Int) (0:Int) d
theorem Zpy(d:Zao)(e:Int)(f g:List Zab)(r:(Tout Unit))(a:ZjN d e f g=some r):Yr 220 [(100000,.box (Zao.c d))] [.one (.ifc 112 (.ptr 100000 0)),Yj e,Yn f,Yn g] (oc (fun x=>.tup []) r):=by
 refine ZfZ.of Tryz.func220 rfl rfl rfl rfl fun S0 w0=>?_;unfold ZjN at a;obtain⟨b,h,a⟩:=Zac a;exact Ye 4 [rA [(2,.r (.one (cL 1 (cI .i64) (0:Int) b)) [])]] [] ⟨[],[],[],[],[],[0,1,2,3,12,13,14],[100000],[]⟩ (.c (Ztz _ _ _ h) .n) (ZsB S0 w0 e f g (((b.length:Int)-(0:Int)).toNat+2) b (b.length:Int) (0:Int) d r a)
end Go.Proofs.YtdjfoojllbfcgaaGreat
