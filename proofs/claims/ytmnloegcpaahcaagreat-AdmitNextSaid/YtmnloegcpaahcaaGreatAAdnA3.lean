import Derived.Test.YtmnloegcpaahcaaGreatAAdnA2
namespace Go.Proofs.YtmnloegcpaahcaaGreat
open Go.RowKit Go.Lib Go.Shelf
set_option linter.unusedVariables false
set_option maxRecDepth 100000
def ZbM:Nat->(List Zaa)->(List Bool)->Int->(List Zaa)->Option (List Zaa)|0,_,_,_,_=>none|fu+1,e,h,b,g=>bif(decide (b<(e.length:Int)))then need (0<=b/\b<(h.length:Int))<|bif(!(h.getD b.toNat false))then need (0<=b/\b<(e.length:Int))<|need ((g++([(e.getD b.toNat Zaa.d)]:List Zaa)).length * 80<=140737488355328/\(g++([(e.getD b.toNat Zaa.d)]:List Zaa)).length<=maxLen)<|ZbM fu e h (Zar b 1) (g++([(e.getD b.toNat Zaa.d)]:List Zaa))else ZbM fu e h (Zar b 1) g else some g
theorem ZkN(S0:Nat->Prop)(w0:Zba):∀(t:Nat)(g:List Zaa)(p:List Bool)(b:Int)(o r:List Zaa),ZbM t g p b o=some r->Ys 37 S0 w0 Tryz.f196 [(99999,.rows 44 10 r.length (Zam Zaa.c Zaa.d r))] (.one (.osl 99999 r.length)) [1,1,1,1,0,1,0] ⟨[(7,(Ym g)),(8,.one (cL 1 cB false p)),(9,.one (.osl 9 o.length)),(10,(Yj b))],[(9,.rows 44 10 o.length (Zam Zaa.c Zaa.d o))]⟩:=by
 intro t;induction t with
 |zero=>
  intro g p b o r h;simp[ZbM]at h
 |succ t y=>
  intro g p b o r h;unfold ZbM at h;obtain⟨u,h⟩|⟨u,h⟩:=Zaj h
  .obtain⟨z,h⟩:=Zat h;obtain⟨v,h⟩|⟨v,h⟩:=Zaj h
   .obtain⟨B,A,h⟩:=Yt h;exact Ye 15 [rz,rz,⟨[(6,.c ((o++([(g.getD b.toNat Zaa.d)]:List Zaa)).length) (Zam Zaa.c Zaa.d (o++([(g.getD b.toNat Zaa.d)]:List Zaa))))],[],[],[],[],[(5,(([(g.getD b.toNat Zaa.d)]:List Zaa).length,Zam Zaa.c Zaa.d ([(g.getD b.toNat Zaa.d)]:List Zaa)))],[]⟩,rz] [true,true] ⟨[],[],[],[],[],[7,8,9,10],[35],[(35,9)]⟩ (.c u (.c z (.c v (.c B (.c (show ([(g.getD b.toNat Zaa.d)]:List Zaa).length=1/\∀i j,i<1->j<10->Zam Zaa.c Zaa.d ([(g.getD b.toNat Zaa.d)]:List Zaa) i j=(([(g.getD b.toNat Zaa.d)]:List Zaa).flatMap Zaa.c).getD (i * 10+j) .junk from⟨rfl,fun i j hi hj=>Zbh (sz:=10) (e:=Zaa.c) (d:=Zaa.d) (fun _=>rfl) ([(g.getD b.toNat Zaa.d)]:List Zaa) i j hi hj⟩) (.c (Zgn (sz:=10) (e:=Zaa.c) (d:=Zaa.d) o ([(g.getD b.toNat Zaa.d)]:List Zaa)) (.c A.1 (.c A.2 .n)))))))) (y g p (Zar b 1) (o++([(g.getD b.toNat Zaa.d)]:List Zaa)) r h)
   .exact Ye 15 [rz,rz,rz] [true,false] ⟨[],[],[],[],[],[7,8,9,10],[9],[]⟩ (.c u (.c z (.c v .n))) (y g p (Zar b 1) o r h)
  .apply Yc h 8 [rz,rz] [false] ⟨[],[],[],[],[],[6],[9],[(9,99999)]⟩ (.c u .n)
def Zdi(d:List Zaa)(e:Zay)(g:Int):Option (List Zaa):=(Zfk d).bind fun b=>(ZeP b e g).bind fun h=>ZbM (((b.length:Int)-(0:Int)).toNat+2) b h (0:Int) ([]:List Zaa)
theorem Zlu(h:List Zaa)(o:Zay)(p:Int)(r:List Zaa)(b:Zdi h o p=some r):Yp 196 [] [Ym h,.agg (Zay.c o),.one (.lit (.int .u64 p))] [(99999,.rows 44 10 r.length (Zam Zaa.c Zaa.d r))] (.one (.osl 99999 r.length)):=by
 refine Yw Tryz.func196 fun S0 w0=>?_;unfold Zdi at b;obtain⟨g,t,u,v,b⟩:=Yu b;exact Ye 12 [rz,rA [(1,.r (Ym g) [])],rA [(3,.r (.one (cL 1 cB false t)) [])],rA [(0,.c ([]:List Zaa).length (Zam Zaa.c Zaa.d ([]:List Zaa)))],rz] [] ⟨[],[],[],[],[],[7,8,9,10],[17],[(17,9)]⟩ (.c (ZoN _ _ u) (.c (Zoq _ _ _ _ v) (.c (show ([]:List Zaa).length=0 from rfl) (.c (show ∀i j,i<0->j<10->Zam Zaa.c Zaa.d ([]:List Zaa) i j=(([]:List Zaa).flatMap Zaa.c).getD (i * 10+j) .junk from(fun i j hi hj=>Zbh (sz:=10) (e:=Zaa.c) (d:=Zaa.d) (fun _=>rfl) ([]:List Zaa) i j hi hj)) .n)))) (ZkN S0 w0 (((g.length:Int)-(0:Int)).toNat+2) g t (0:Int) ([]:List Zaa) r b)
theorem ZlH(b:List Zaa)(d:Zay)(e:Int)(r:List Zaa)(g:Zdi b d e=some r):Yo 196 [Ym b,.agg (Zay.c d),.one (.lit (.int .u64 e))] (Ym r):=(Zlu b d e r g).pure
def Zck(b:List Zaa)(g:Int):Nat->Int->Int->Option Int|0,_,_=>none|fu+1,h,e=>bif(decide (e<(b.length:Int)))then need (0<=e/\e<(b.length:Int))<|(Zdj (((b.getD e.toNat Zaa.d).fEnd).fAddr)).bind fun i=>need (0<=g/\g<(b.length:Int))<|(Zdj (((b.getD g.toNat Zaa.d).fEnd).fAddr)).bind fun j=>bif(decide (i=j))then Zck b g fu (Zar h 1) (Zar e 1)else Zck b g fu h (Zar e 1)else some h
theorem ZmA(S0:Nat->Prop)(w0:Zba)(p:List Zaa)(t:Int):∀(g:Nat)(d e r:Int),Zck p t g d e=some r->Yr 39 S0 w0 Tryz.f269 (Yj r) [1,1,1,0,1,0] ⟨[(0,(Ym p)),(1,(Yj t)),(5,(Yj d)),(6,(Yj e))],[]⟩:=by
 intro g;induction g with
 |zero=>
  intro d e r b;simp[Zck]at b
 |succ g u=>
  intro d e r b;unfold Zck at b;obtain⟨h,b⟩|⟨h,b⟩:=Zaj b
  .obtain⟨v,b⟩:=Zat b;obtain⟨i,y,b⟩:=Zae b;obtain⟨z,b⟩:=Zat b;obtain⟨j,A,b⟩:=Zae b
   let R1:List RA:=[rz,rA [(6,aG (Zap.c i)),(13,aG (Zap.c j)),(14,aB (decide (i=j)))],rz]
   have O2:Obl _:=(.c h (.c v (.c (Zhc _ _ y) (.c z (.c (Zhc _ _ A) (.c (ZrB i j (.tmp 27) (.tmp 34)) .n))))));obtain⟨o,b⟩|⟨o,b⟩:=Zaj b
   .exact Ye 15 (R1++[rz]) [true,true] (Yi [0,1,5,6]) (O2.app (.c o .n)) (u (Zar d 1) (Zar e 1) r b)
   .exact Ye 15 R1 [true,false] (Yi [0,1,5,6]) (O2.app (.c o .n)) (u d (Zar e 1) r b)
  .apply Ya b 8 [rz,rz] [false] (.c h .n)
def ZeO(b:List Zaa)(d:Int):Option Int:=bif(decide (d<(0:Int)))then some (0:Int)else bif(decide (d>=(b.length:Int)))then some (0:Int)else Zck b d (((b.length:Int)-(0:Int)).toNat+2) (0:Int) (0:Int)
theorem Zko(d:List Zaa)(g r:Int)(b:ZeO d g=some r):Yo 269 [Ym d,Yj g] (Yj r):=by
 refine Yv Tryz.func269 fun S0 w0=>?_;unfold ZeO at b;obtain⟨e,b⟩|⟨e,b⟩:=Zaj b
 .apply Ya b 8 [rz,rB [(2,true)],rz] [true] (.c e (.c (show true=true from rfl) .n))
 .obtain⟨h,b⟩|⟨h,b⟩:=Zaj b
  .apply Ya b 8 [rz,rB [(2,false)],rz] [true] (.c e (.c h .n))
  .exact Ye 13 [rz,rB [(2,false)],rz,rz] [false] (Yi [0,1,5,6]) (.c e (.c h .n)) (ZmA S0 w0 d g (((d.length:Int)-(0:Int)).toNat+2) (0:Int) (0:Int) r b)
def Zfd(b d:Zaa):Option Bool:=bif(b.fSince != d.fSince)then some (decide (b.fSince>d.fSince))else(Zea b.fEnd d.fEnd).bind fun e=>some (decide (e>(0:Int)))
theorem Znh(e g:Zaa)(r:Bool)(b:Zfd e g=some r):Yo 270 [.agg (Zaa.c e),.agg (Zaa.c g)] (Yk r):=by
 refine Yv Tryz.func270 fun S0 w0=>?_;unfold Zfd at b;obtain⟨d,b⟩|⟨d,b⟩:=Zaj b
 .apply Ya b 8 [rz,rz,rz] [true] (.c d .n)
 .obtain⟨h,i,b⟩:=Zae b;apply Ya b 9 [rz,rz,rA [(4,aI h)]] [false] (.c d (.c (Zjm _ _ _ i) .n))
def Zbj(b:List Zaa)(e:Int)(aq:Int->Option Int):Nat->Bool->Int->Option Int|0,_,_=>none|fu+1,h,g=>bif(decide (g<(b.length:Int)))then(ZeO b g).bind fun i=>(ZeO b e).bind fun j=>bif h then bif(decide (i<=j))then bif(decide (i<j))then Zbj b e aq fu true (Zar g 1)else need (0<=g/\g<(b.length:Int))<|need (0<=e/\e<(b.length:Int))<|(Zfd (b.getD g.toNat Zaa.d) (b.getD e.toNat Zaa.d)).bind fun n=>Zbj b e aq fu (!n) (Zar g 1)else Zbj b e aq fu false (Zar g 1)else Zbj b e aq fu false (Zar g 1)else bif h then some e else aq (Zar e 1)
theorem Zni(S0:Nat->Prop)(w0:Zba)(v:List Zaa)(y:Int)(aq:Int->Option Int)(br:∀(ix r:Int),aq ix=some r->Yr 51 S0 w0 Tryz.f197 (Yj r) [1,0,1,0] ⟨[(0,(Ym v)),(3,(Yj ix))],[]⟩):∀(h:Nat)(i:Bool)(d r:Int),Zbj v y aq h i d=some r->Yr 51 S0 w0 Tryz.f197 (Yj r) [1,0,1,0,0,1,0,0,1,0,1,0] ⟨[(0,(Ym v)),(3,(Yj y)),(4,(Yk i)),(5,(Yj d))],[]⟩:=by
 intro h;induction h with
 |zero=>
  intro i d r b;simp[Zbj]at b
 |succ h j=>
  intro i d r b;unfold Zbj at b;obtain⟨o,b⟩|⟨o,b⟩:=Zaj b
  .obtain⟨p,t,D,E,b⟩:=Yu b;have O1:Obl _:=(.c o (.c (Zko _ _ _ D) (.c (Zko _ _ _ E) .n)));obtain⟨g,b⟩|⟨g,b⟩:=Zaj b
   .obtain⟨u,b⟩|⟨u,b⟩:=Zaj b
    .obtain⟨z,b⟩|⟨z,b⟩:=Zaj b
     .exact Ye 14 [rz,rA [(2,aI p),(5,aI t)],rB [(1,true),(6,true),(10,true)],rz] [true] (Yi [0,3,4,5]) (O1.app (.c g (.c u (.c z .n)))) (j true (Zar d 1) r b)
     .obtain⟨F,G,b⟩:=Yt b;obtain⟨B,A,b⟩:=Zae b;exact Ye 14 [rz,rA [(2,aI p),(5,aI t)],⟨[(19,aB B)],[(1,true),(6,true),(10,false)],[],[],[],[],[]⟩,rz] [true] (Yi [0,3,4,5]) (O1.app (.c g (.c u (.c z (.c F (.c G (.c (Znh _ _ _ A) .n))))))) (j (!B) (Zar d 1) r b)
    .exact Ye 14 [rz,rA [(2,aI p),(5,aI t)],rB [(1,true),(6,false)],rz] [true] (Yi [0,3,4,5]) (O1.app (.c g (.c u .n))) (j false (Zar d 1) r b)
   .exact Ye 14 [rz,rA [(2,aI p),(5,aI t)],rB [(1,false)],rz] [true] (Yi [0,3,4,5]) (O1.app (.c g .n)) (j false (Zar d 1) r b)
  .obtain⟨e,b⟩|⟨e,b⟩:=Zaj b
   .apply Ya b 11 [rz,rz,rz] [false,true] (.c o (.c e .n))
   .exact Ye 13 [rz,rz,rz] [false,false] (Yi [0,3]) (.c o (.c e .n)) (br (Zar y 1) r b)
def ZbV(b:List Zaa):Nat->Int->Option Int|0,_=>none|fu+1,d=>bif(decide (d<(b.length:Int)))then Zbj b d (ZbV b fu) (((b.length:Int)-(0:Int)).toNat+2) true (0:Int)else some (-1:Int)
theorem Znj(S0:Nat->Prop)(w0:Zba)(d:List Zaa):∀(e:Nat)(g r:Int),ZbV d e g=some r->Yr 51 S0 w0 Tryz.f197 (Yj r) [1,0,1,0] ⟨[(0,(Ym d)),(3,(Yj g))],[]⟩:=by
 intro e;induction e with
 |zero=>
  intro g r b;simp[ZbV]at b
 |succ e i=>
  intro g r b;unfold ZbV at b;obtain⟨h,b⟩|⟨h,b⟩:=Zaj b
  .exact Ye 14 [rz,rz,rz] [true] (Yi [0,3,4,5]) (.c h .n) (Zni S0 w0 d g (ZbV d e) i (((d.length:Int)-(0:Int)).toNat+2) true (0:Int) r b)
  .apply Ya b 8 [rz,rz] [false] (.c h .n)
def Zgh(b:List Zaa):Option Int:=ZbV b (((b.length:Int)-(0:Int)).toNat+2) (0:Int)
theorem ZoO(b:List Zaa)(r:Int)(d:Zgh b=some r):Yo 197 [Ym b] (Yj r):=by
 refine Yv Tryz.func197 fun S0 w0=>?_;unfold Zgh at d;exact Ye 6 [rz,rz] [] (Yi [0,3]) .n (Znj S0 w0 b (((b.length:Int)-(0:Int)).toNat+2) (0:Int) r d)
def Zeq(g:List Zaa)(h:Zay)(i:Int):Option (Zah×Bool):=(Zdi g h i).bind fun e=>(Zgh e).bind fun b=>bif(decide (b<(0:Int)))then some ((Zah.mk (Zaf.mk false 0 0) 0),false)else need (0<=b/\b<(e.length:Int))<|some ((e.getD b.toNat Zaa.d).fEnd,true)
theorem ZnN(e:List Zaa)(g:Zay)(h:Int)(r:(Zah×Bool))(b:Zeq e g h=some r):Yo 119 [Ym e,.agg (Zay.c g),.one (.lit (.int .u64 h))] (.tup [(true,Zah.c r.1),(false,cB r.2)]):=by
 refine Yv Tryz.func119 fun S0 w0=>?_;unfold Zeq at b;obtain⟨i,j,b⟩:=Zae b;obtain⟨o,p,b⟩:=Zae b
 let R1:List RA:=[rz,rA [(3,.r (Ym i) [])],rA [(1,aI o)],rz,rz]
 have O2:Obl _:=(.c (ZlH _ _ _ _ j) (.c (ZoO _ _ p) .n));obtain⟨d,b⟩|⟨d,b⟩:=Zaj b
 .apply Ya b 12 R1 [true] (O2.app (.c d .n))
 .obtain⟨t,b⟩:=Zat b;apply Ya b 13 R1 [false] (O2.app (.c d (.c t .n)))
def ZcX(e:List Zah):Nat->Int->Zah->Option Bool|0,_,_=>none|fu+1,b,g=>bif(decide (b<(e.length:Int)))then need (0<=b/\b<(e.length:Int))<|bif(decide ((e.getD b.toNat Zah.d)=g))then some true else ZcX e fu (Zar b 1) g else some false
theorem ZnL(S0:Nat->Prop)(w0:Zba)(h:List Zah):∀(i:Nat)(g:Int)(e:Zah)(r:Bool),ZcX h i g e=some r->Yr 18 S0 w0 Tryz.f198 (Yk r) [1,0,1,0] ⟨[(0,(Yn h)),(3,.one (.ptr 3 0)),(5,(Yj g))],[(3,.box [.lit (.bool e.fAddr.fV6),.lit (.int .u64 e.fAddr.fHi),.lit (.int .u64 e.fAddr.fLo),.lit (.int .i64 e.fPort)])]⟩:=by
 intro i;induction i with
 |zero=>
  intro g e r b;simp[ZcX]at b
 |succ i p=>
  intro g e r b;unfold ZcX at b;obtain⟨j,b⟩|⟨j,b⟩:=Zaj b
  .obtain⟨o2,b⟩:=Zat b
   let R1:List RA:=[rz,rA [(5,aB (decide ((h.getD g.toNat Zah.d)=e)))],rz]
   have O2:Obl _:=(.c j (.c o2 (.c (Zkz (h.getD g.toNat Zah.d) e (.tmp 15) (.tmp 16)) .n)));obtain⟨o,b⟩|⟨o,b⟩:=Zaj b
   .apply Ya b 13 R1 [true,true] (O2.app (.c o .n))
   .exact Ye 15 R1 [true,false] ⟨[],[],[],[],[],[0,3,5],[3],[]⟩ (O2.app (.c o .n)) (p (Zar g 1) e r b)
  .apply Ya b 8 [rz,rz] [false] (.c j .n)
def ZgH(b:List Zah)(d:Zah):Option Bool:=ZcX b (((b.length:Int)-(0:Int)).toNat+2) (0:Int) d
theorem Zpo(b:List Zah)(d:Zah)(r:Bool)(e:ZgH b d=some r):Yo 198 [Yn b,.agg (Zah.c d)] (Yk r):=by
 refine Yv Tryz.func198 fun S0 w0=>?_;unfold ZgH at e;exact Ye 6 [rz,rz] [] ⟨[],[],[],[],[],[0,3,5],[3],[]⟩ .n (ZnL S0 w0 b (((b.length:Int)-(0:Int)).toNat+2) (0:Int) d r e)
def ZcM(e:List Zaa)(h:List Zah):Nat->Int->(List Zaa)->Option (List Zaa)|0,_,_=>none|fu+1,b,g=>bif(decide (b<(e.length:Int)))then need (0<=b/\b<(e.length:Int))<|(ZgH h ((e.getD b.toNat Zaa.d).fEnd)).bind fun i=>bif(!i)then need ((g++([(e.getD b.toNat Zaa.d)]:List Zaa)).length * 80<=140737488355328/\(g++([(e.getD b.toNat Zaa.d)]:List Zaa)).length<=maxLen)<|ZcM e h fu (Zar b 1) (g++([(e.getD b.toNat Zaa.d)]:List Zaa))else ZcM e h fu (Zar b 1) g else some g
theorem Znf(S0:Nat->Prop)(w0:Zba)(h:List Zaa)(v:List Zah):∀(p:Nat)(g:Int)(o r:List Zaa),ZcM h v p g o=some r->Ys 30 S0 w0 Tryz.f121 [(99999,.rows 44 10 r.length (Zam Zaa.c Zaa.d r))] (.one (.osl 99999 r.length)) [1,1,0,1,0] ⟨[(0,(Ym h)),(1,(Yn v)),(5,.one (.osl 5 o.length)),(6,(Yj g))],[(5,.rows 44 10 o.length (Zam Zaa.c Zaa.d o))]⟩:=by
 intro p;induction p with
 |zero=>
  intro g o r b;simp[ZcM]at b
 |succ p y=>
  intro g o r b;unfold ZcM at b;obtain⟨t,b⟩|⟨t,b⟩:=Zaj b
  .obtain⟨o2,b⟩:=Zat b;obtain⟨z,B,b⟩:=Zae b;have O1:Obl _:=(.c t (.c o2 (.c (Zpo _ _ _ B) .n)));obtain⟨u,b⟩|⟨u,b⟩:=Zaj b
   .obtain⟨A,b⟩:=Zat b;exact Ye 15 [rz,rA [(6,aB z)],⟨[(6,.c ((o++([(h.getD g.toNat Zaa.d)]:List Zaa)).length) (Zam Zaa.c Zaa.d (o++([(h.getD g.toNat Zaa.d)]:List Zaa))))],[],[],[],[],[(5,(([(h.getD g.toNat Zaa.d)]:List Zaa).length,Zam Zaa.c Zaa.d ([(h.getD g.toNat Zaa.d)]:List Zaa)))],[]⟩,rz] [true,true] ⟨[],[],[],[],[],[0,1,5,6],[28],[(28,5)]⟩ (O1.app (.c u (.c o2 (.c (show ([(h.getD g.toNat Zaa.d)]:List Zaa).length=1/\∀i j,i<1->j<10->Zam Zaa.c Zaa.d ([(h.getD g.toNat Zaa.d)]:List Zaa) i j=(([(h.getD g.toNat Zaa.d)]:List Zaa).flatMap Zaa.c).getD (i * 10+j) .junk from⟨rfl,fun i j hi hj=>Zbh (sz:=10) (e:=Zaa.c) (d:=Zaa.d) (fun _=>rfl) ([(h.getD g.toNat Zaa.d)]:List Zaa) i j hi hj⟩) (.c (Zgn (sz:=10) (e:=Zaa.c) (d:=Zaa.d) o ([(h.getD g.toNat Zaa.d)]:List Zaa)) (.c A.1 (.c A.2 .n))))))) (y (Zar g 1) (o++([(h.getD g.toNat Zaa.d)]:List Zaa)) r b)
   .exact Ye 15 [rz,rA [(6,aB z)],rz] [true,false] ⟨[],[],[],[],[],[0,1,5,6],[5],[]⟩ (O1.app (.c u .n)) (y (Zar g 1) o r b)
  .apply Yc b 8 [rz,rz] [false] ⟨[],[],[],[],[],[4],[5],[(5,99999)]⟩ (.c t .n)
def Zdv(b:List Zaa)(d:List Zah):Option (List Zaa):=ZcM b d (((b.length:Int)-(0:Int)).toNat+2) (0:Int) ([]:List Zaa)
theorem Zoo(b:List Zaa)(g:List Zah)(r:List Zaa)(h:Zdv b g=some r):Yp 121 [] [Ym b,Yn g] [(99999,.rows 44 10 r.length (Zam Zaa.c Zaa.d r))] (.one (.osl 99999 r.length)):=by
 refine Yw Tryz.func121 fun S0 w0=>?_;unfold Zdv at h;exact Ye 8 [rz,rA [(0,.c ([]:List Zaa).length (Zam Zaa.c Zaa.d ([]:List Zaa)))],rz] [] ⟨[],[],[],[],[],[0,1,5,6],[7],[(7,5)]⟩ (.c (show ([]:List Zaa).length=0 from rfl) (.c (show ∀i j,i<0->j<10->Zam Zaa.c Zaa.d ([]:List Zaa) i j=(([]:List Zaa).flatMap Zaa.c).getD (i * 10+j) .junk from(fun i j hi hj=>Zbh (sz:=10) (e:=Zaa.c) (d:=Zaa.d) (fun _=>rfl) ([]:List Zaa) i j hi hj)) .n)) (Znf S0 w0 b g (((b.length:Int)-(0:Int)).toNat+2) (0:Int) ([]:List Zaa) r h)
theorem ZkF(b:List Zaa)(d:List Zah)(r:List Zaa)(e:Zdv b d=some r):Yo 121 [Ym b,Yn d] (Ym r):=(Zoo b d r e).pure
def Zcf:Nat->Int->Int->(List (List Zaa))->ZaF->Zaz->Zab->Zab->Zao->Zah->Zao->Option (Zab×Zao)|0,_,_,_,_,_,_,_,_,_,_=>none|fu+1,g,b,d,j,n,o,H,I,e,p=>bif(decide ((Zar b 1)<(d.length:Int)))then need (0<=b/\b<(d.length:Int))<|(Zcx (d.getD b.toNat ([]:(List Zaa))) e).bind fun t=>bif(decide (t<(0:Int)))then Zcf fu g (Zar b 1) d j n o H I e p else(Zdv (d.getD b.toNat ([]:(List Zaa))) ([e]:List Zah)).bind fun h=>(ZaY o b (d.getD b.toNat ([]:(List Zaa))) h).bind fun u=>need (0<=g/\g<(d.length:Int))<|(ZbJ ((d.set b.toNat h).getD g.toNat ([]:(List Zaa))) n).bind fun v=>(ZaY u g ((d.set b.toNat h).getD g.toNat ([]:(List Zaa))) v).bind fun y=>(Zbx y j.fShards true).bind fun z=>(ZaB z (4:Int) (0:Int) false).bind fun A=>some (A,(Zao.mk 0 e 1 0 ([]:(List Zaa))))else need (0<=b/\b<(d.length:Int))<|(Zdv (d.getD b.toNat ([]:(List Zaa))) ([e]:List Zah)).bind fun i=>(ZaY o b (d.getD b.toNat ([]:(List Zaa))) i).bind fun B=>need (0<=g/\g<(d.length:Int))<|(ZbJ ((d.set b.toNat i).getD g.toNat ([]:(List Zaa))) n).bind fun D=>(ZaY B g ((d.set b.toNat i).getD g.toNat ([]:(List Zaa))) D).bind fun E=>(Zbx E j.fShards true).bind fun F=>(ZaB F (4:Int) (0:Int) false).bind fun G=>some (G,(Zao.mk 0 e 1 0 ([]:(List Zaa))))
theorem Zna(S0:Nat->Prop)(w0:Zba):∀(L:Nat)(F g:Int)(b:(List (List Zaa)))(v:ZaF)(B:Zaz)(p t:Zab)(E:Zao)(h:Zah)(u:Zao)(r:(Zab×Zao)),Zcf L F g b v B p t E h u=some r->Yr 155 S0 w0 Tryz.f53 (.tup [(true,Zab.c r.1),(true,Zao.c r.2)]) [1,1,1,1,1,1,1,1,1,1,1,0,1,0,1,0,0] ⟨[(3,.one (.ptr 3 0)),(4,.one (.ptr 4 0)),(5,.one (.ptr 5 0)),(6,.one (.ptr 6 0)),(7,.one (.ptr 7 0)),(8,.one (.osl 24 b.length)),(9,(Yj F)),(11,.one (.ptr 11 0)),(13,.one (.ptr 13 0)),(14,(Yj g))],[(24,.rows 54 1 b.length (Zam (cLs 10 Zaa.c Zaa.d) ([]:(List Zaa)) b)),(3,.box [.lit (.int .i64 v.fMaxIn),.lit (.int .i64 v.fMaxOut),.lit (.int .i64 v.fShards),.lit (.int .i64 v.fMaxBans),.lit (.int .i64 v.fMaxBook),.lit (.int .u64 v.fSecret),.lit (.int .i64 v.fQuota.fGroup),.lit (.int .i64 v.fQuota.fPing),.lit (.int .i64 v.fQuota.fWork),.lit (.int .i64 v.fQuota.fTime),.lit (.int .i64 v.fHalf),.lit (.int .i64 v.fLimit),.lit (.int .i64 v.fBanFor),.lit (.int .i64 v.fBase),.lit (.int .i64 v.fCap),.lit (.int .i64 v.fJitter)]),(4,.box [.lit (.int .i64 B.fKind),.lit (.bool B.fEnd.fAddr.fV6),.lit (.int .u64 B.fEnd.fAddr.fHi),.lit (.int .u64 B.fEnd.fAddr.fLo),.lit (.int .i64 B.fEnd.fPort),.lit (.bool B.fNet.fAddr.fV6),.lit (.int .u64 B.fNet.fAddr.fHi),.lit (.int .u64 B.fNet.fAddr.fLo),.lit (.int .i64 B.fNet.fBits),.lit (.int .i64 B.fNow),.lit (.int .i64 B.fNum),.lit (.bool B.fGood)]),(5,.box [cL 13 Zac.c Zac.d p.fGot,.lit (.int .i64 p.fAt),.lit (.int .i64 p.fOp.fKind),.lit (.int .i64 p.fOp.fLock),.lit (.int .i64 p.fOp.fLoc.fKind),.lit (.int .i64 p.fOp.fLoc.fShard),.lit (.int .i64 p.fOp.fLoc.fSlot),.lit (.int .i64 p.fOp.fOld),.lit (.int .i64 p.fOp.fNew),.lit (.int .i64 p.fOp.fVal.fN),.lit (.bool p.fOp.fVal.fPeer.fEnd.fAddr.fV6),.lit (.int .u64 p.fOp.fVal.fPeer.fEnd.fAddr.fHi),.lit (.int .u64 p.fOp.fVal.fPeer.fEnd.fAddr.fLo),.lit (.int .i64 p.fOp.fVal.fPeer.fEnd.fPort),.lit (.bool p.fOp.fVal.fPeer.fIn),.lit (.int .i64 p.fOp.fVal.fPeer.fSince),.lit (.int .i64 p.fOp.fVal.fPeer.fScore.fPoints),.lit (.int .i64 p.fOp.fVal.fPeer.fScore.fAt),.lit (.int .i64 p.fOp.fVal.fPeer.fPing),.lit (.int .i64 p.fOp.fVal.fPeer.fWork),cL 5 Zag.c Zag.d p.fOp.fVal.fBans,cL 7 Zad.c Zad.d p.fOp.fVal.fBook,.lit (.bool p.fOp.fMark),.lit (.bool p.fWait)]),(6,.box [cL 13 Zac.c Zac.d t.fGot,.lit (.int .i64 t.fAt),.lit (.int .i64 t.fOp.fKind),.lit (.int .i64 t.fOp.fLock),.lit (.int .i64 t.fOp.fLoc.fKind),.lit (.int .i64 t.fOp.fLoc.fShard),.lit (.int .i64 t.fOp.fLoc.fSlot),.lit (.int .i64 t.fOp.fOld),.lit (.int .i64 t.fOp.fNew),.lit (.int .i64 t.fOp.fVal.fN),.lit (.bool t.fOp.fVal.fPeer.fEnd.fAddr.fV6),.lit (.int .u64 t.fOp.fVal.fPeer.fEnd.fAddr.fHi),.lit (.int .u64 t.fOp.fVal.fPeer.fEnd.fAddr.fLo),.lit (.int .i64 t.fOp.fVal.fPeer.fEnd.fPort),.lit (.bool t.fOp.fVal.fPeer.fIn),.lit (.int .i64 t.fOp.fVal.fPeer.fSince),.lit (.int .i64 t.fOp.fVal.fPeer.fScore.fPoints),.lit (.int .i64 t.fOp.fVal.fPeer.fScore.fAt),.lit (.int .i64 t.fOp.fVal.fPeer.fPing),.lit (.int .i64 t.fOp.fVal.fPeer.fWork),cL 5 Zag.c Zag.d t.fOp.fVal.fBans,cL 7 Zad.c Zad.d t.fOp.fVal.fBook,.lit (.bool t.fOp.fMark),.lit (.bool t.fWait)]),(7,.box [.lit (.int .i64 E.fCode),.lit (.bool E.fEnd.fAddr.fV6),.lit (.int .u64 E.fEnd.fAddr.fHi),.lit (.int .u64 E.fEnd.fAddr.fLo),.lit (.int .i64 E.fEnd.fPort),.lit (.int .i64 E.fN),.lit (.int .i64 E.fUntil),cL 10 Zaa.c Zaa.d E.fPeers]),(11,.box [.lit (.bool h.fAddr.fV6),.lit (.int .u64 h.fAddr.fHi),.lit (.int .u64 h.fAddr.fLo),.lit (.int .i64 h.fPort)]),(13,.box [.lit (.int .i64 u.fCode),.lit (.bool u.fEnd.fAddr.fV6),.lit (.int .u64 u.fEnd.fAddr.fHi),.lit (.int .u64 u.fEnd.fAddr.fLo),.lit (.int .i64 u.fEnd.fPort),.lit (.int .i64 u.fN),.lit (.int .i64 u.fUntil),cL 10 Zaa.c Zaa.d u.fPeers])]⟩:=by
 intro L;induction L with
 |zero=>
  intro F g b v B p t E h u r o;simp[Zcf]at o
 |succ L ih=>
  intro F g b v B p t E h u r o;unfold Zcf at o;obtain⟨I,o⟩|⟨I,o⟩:=Zaj o
  .obtain⟨y,o⟩:=Zat o;obtain⟨M,O,o⟩:=Zae o
   let R1:List RA:=[⟨[(11,aI M)],[(5,true)],[],[],[],[],[]⟩]
   have O2:Obl _:=(.c I (.c y (.c (show g.toNat<b.length from(ltOf y)) (.c (ZhD _ _ _ O) .n))));obtain⟨J,o⟩|⟨J,o⟩:=Zaj o
   .exact Ye 10 (R1++[rz]) [true] ⟨[],[],[],[],[],[3,4,5,6,7,8,9,11,13,14],[24,3,4,5,6,7,11,13],[]⟩ (O2.app (.c J .n)) (ih F (Zar g 1) b v B p t E h u r o)
   .obtain⟨z,R,U,W,o⟩:=Yu o;obtain⟨G,o⟩:=Zat o;obtain⟨Z,gx,jQ,q28,o⟩:=Yu o;obtain⟨jU,jV,q29,q30,o⟩:=Yu o;apply Yb o 19 (R1++[⟨[(6,.r (Ym z) [])],[],[],[],[],[(5,(([h]:List Zah).length,Zam Zah.c Zah.d ([h]:List Zah)))],[]⟩,rA [(7,aG (Zab.c R))],rA [(4,.c (b.set g.toNat z).length (Zam (cLs 10 Zaa.c Zaa.d) ([]:(List Zaa)) (b.set g.toNat z)))],rA [(11,.r (Ym Z) []),(12,aG (Zab.c gx))],rz,rA [(3,aG (Zab.c jU))],rA [(1,aG (Zab.c jV))]]) [false] [] [(7,[(7,cL 10 Zaa.c Zaa.d [])])] [] (O2.app (.c J (.c y (.c (show g.toNat<b.length from(ltOf y)) (.c (show ([h]:List Zah).length=1/\∀i j,i<1->j<4->Zam Zah.c Zah.d ([h]:List Zah) i j=(([h]:List Zah).flatMap Zah.c).getD (i * 4+j) .junk from⟨rfl,fun i j hi hj=>Zbh (sz:=4) (e:=Zah.c) (d:=Zah.d) (fun _=>rfl) ([h]:List Zah) i j hi hj⟩) (.c (ZkF _ _ _ U) (.c y (.c (show g.toNat<b.length from(ltOf y)) (.c (Zdb _ _ _ _ _ W) (.c y (.c (show (b.set g.toNat z).length=b.length from List.length_set) (.c (show g.toNat<b.length from(ltOf y)) (.c (show ExtU 1 b.length (Zam (cLs 10 Zaa.c Zaa.d) ([]:(List Zaa)) b) g.toNat 0 ((cLs 10 Zaa.c Zaa.d) z) (Zam (cLs 10 Zaa.c Zaa.d) ([]:(List Zaa)) (b.set g.toNat z))from(Zjb _ _ _ rfl)) (.c G (.c (show F.toNat<(b.set g.toNat z).length from(by have:=ltOf G;simp at this ⊢;omega)) (.c G (.c (show F.toNat<(b.set g.toNat z).length from(by have:=ltOf G;simp at this ⊢;omega)) (.c (Zfc _ _ _ jQ) (.c (Zdb _ _ _ _ _ q28) (.c (Zec _ _ _ _ q29) (.c (Zbi _ _ _ _ _ q30) .n)))))))))))))))))))))
  .obtain⟨D,o⟩:=Zat o;obtain⟨A,x22,q32,q33,o⟩:=Yu o;obtain⟨H,o⟩:=Zat o;obtain⟨x23,x24,q35,q36,o⟩:=Yu o;obtain⟨x25,x26,q37,q38,o⟩:=Yu o;apply Yb o 19 [rB [(5,false)],⟨[(6,.r (Ym A) [])],[],[],[],[],[(5,(([h]:List Zah).length,Zam Zah.c Zah.d ([h]:List Zah)))],[]⟩,rA [(7,aG (Zab.c x22))],rA [(4,.c (b.set g.toNat A).length (Zam (cLs 10 Zaa.c Zaa.d) ([]:(List Zaa)) (b.set g.toNat A)))],rA [(11,.r (Ym x23) []),(12,aG (Zab.c x24))],rz,rA [(3,aG (Zab.c x25))],rA [(1,aG (Zab.c x26))]] [false] [] [(7,[(7,cL 10 Zaa.c Zaa.d [])])] [] (.c I (.c (show false=false from rfl) (.c D (.c (show g.toNat<b.length from(ltOf D)) (.c (show ([h]:List Zah).length=1/\∀i j,i<1->j<4->Zam Zah.c Zah.d ([h]:List Zah) i j=(([h]:List Zah).flatMap Zah.c).getD (i * 4+j) .junk from⟨rfl,fun i j hi hj=>Zbh (sz:=4) (e:=Zah.c) (d:=Zah.d) (fun _=>rfl) ([h]:List Zah) i j hi hj⟩) (.c (ZkF _ _ _ q32) (.c D (.c (show g.toNat<b.length from(ltOf D)) (.c (Zdb _ _ _ _ _ q33) (.c D (.c (show (b.set g.toNat A).length=b.length from List.length_set) (.c (show g.toNat<b.length from(ltOf D)) (.c (show ExtU 1 b.length (Zam (cLs 10 Zaa.c Zaa.d) ([]:(List Zaa)) b) g.toNat 0 ((cLs 10 Zaa.c Zaa.d) A) (Zam (cLs 10 Zaa.c Zaa.d) ([]:(List Zaa)) (b.set g.toNat A))from(Zjb _ _ _ rfl)) (.c H (.c (show F.toNat<(b.set g.toNat A).length from(by have:=ltOf H;simp at this ⊢;omega)) (.c H (.c (show F.toNat<(b.set g.toNat A).length from(by have:=ltOf H;simp at this ⊢;omega)) (.c (Zfc _ _ _ q35) (.c (Zdb _ _ _ _ _ q36) (.c (Zec _ _ _ _ q37) (.c (Zbi _ _ _ _ _ q38) .n)))))))))))))))))))))
def Zem(b:ZaF)(i:Zaz)(u:Zab):Option (Zab×Zao):=(ZcL u b.fShards).bind fun v=>(ZeC v b.fShards).bind fun d=>bif d.1.fWait then some (d.1,(Zao.mk 0 (Zah.mk (Zaf.mk false 0 0) 0) 0 0 ([]:(List Zaa))))else(Zdh i.fEnd.fAddr b.fSecret b.fShards).bind fun e=>need (0<=e/\e<((d.2.length:Nat):Int))<|(Zcx (d.2.getD e.toNat ([]:(List Zaa))) i.fEnd).bind fun y=>bif(decide (y>=(0:Int)))then(Zbx d.1 b.fShards true).bind fun z=>(ZaB z (4:Int) (0:Int) false).bind fun A=>some (A,(Zao.mk 7 (Zah.mk (Zaf.mk false 0 0) 0) 0 0 ([]:(List Zaa))))else(Zbw d.1 b.fMaxIn true).bind fun g=>bif g.1.fWait then some (g.1,(Zao.mk 0 (Zah.mk (Zaf.mk false 0 0) 0) 0 0 ([]:(List Zaa))))else bif g.2 then(ZbJ (d.2.getD e.toNat ([]:(List Zaa))) i).bind fun B=>(ZaY g.1 e (d.2.getD e.toNat ([]:(List Zaa))) B).bind fun D=>(Zbx D b.fShards false).bind fun j=>(ZaB j (4:Int) (0:Int) false).bind fun n=>some (n,(Zao.mk 0 (Zah.mk (Zaf.mk false 0 0) 0) 0 0 ([]:(List Zaa))))else(ZhC d.2).bind fun o=>(Zeq o b.fQuota b.fSecret).bind fun h=>bif h.2 then Zcf 1000000 e (0:Int) d.2 b i g.1 (Zab.mk ([]:(List Zac)) 0 (Zas.mk 0 0 (Zan.mk 0 0 0) 0 0 (Zac.mk 0 (Zaa.mk (Zah.mk (Zaf.mk false 0 0) 0) false 0 (Zau.mk 0 0) 0 0) ([]:(List Zag)) ([]:(List Zad))) false) false) (Zao.mk 0 (Zah.mk (Zaf.mk false 0 0) 0) 0 0 ([]:(List Zaa))) h.1 (Zao.mk 5 (Zah.mk (Zaf.mk false 0 0) 0) 0 0 ([]:(List Zaa)))else(Zbx g.1 b.fShards true).bind fun p=>(ZaB p (4:Int) (0:Int) false).bind fun t=>some (t,(Zao.mk 5 (Zah.mk (Zaf.mk false 0 0) 0) 0 0 ([]:(List Zaa))))
theorem ZoK(A:ZaF)(B:Zaz)(a2:Zab)(r:(Zab×Zao))(b:Zem A B a2=some r):Yo 53 [.agg (ZaF.c A),.agg (Zaz.c B),.agg (Zab.c a2)] (.tup [(true,Zab.c r.1),(true,Zao.c r.2)]):=by
 refine Yv Tryz.func53 fun S0 w0=>?_;unfold Zem at b;obtain⟨x1,q1,b⟩:=Zae b;obtain⟨o,q2,b⟩:=Zae b
 let R3:List RA:=[rz,rA [(3,aG (Zab.c x1))],rH [] [(3,⟨[],[(99999,24)],[(99999,.rows 54 1 o.2.length (Zam (cLs 10 Zaa.c Zaa.d) ([]:(List Zaa)) o.2))],(.tup [(true,Zab.c o.1),(false,[.osl 99999 o.2.length])])⟩)],rz]
 have O4:Obl _:=(.c (Znd _ _ _ q1) (.c (ZoL _ _ _ q2) .n));obtain⟨D,b⟩|⟨D,b⟩:=Zaj b
 .apply Yb b 12 (R3++[rz]) [true] [] [(7,[(7,cL 10 Zaa.c Zaa.d [])])] [] (O4.app (.c D .n))
 .obtain⟨v,q4,b⟩:=Zae b;obtain⟨z,b⟩:=Zat b;obtain⟨x4,q6,b⟩:=Zae b;have O5:Obl _:=(O4.app (.c D (.c (ZlA _ _ _ _ q4) (.c z (.c (show v.toNat<o.2.length from(ltOf z)) (.c (ZhD _ _ _ q6) .n))))));obtain⟨E,b⟩|⟨E,b⟩:=Zaj b
  .obtain⟨x5,x6,q8,q9,b⟩:=Yu b;apply Yb b 21 (R3++[rA [(7,aI v)],rA [(6,aI x4)],rA [(3,aG (Zab.c x5))],rA [(1,aG (Zab.c x6))]]) [false,true] [] [(7,[(7,cL 10 Zaa.c Zaa.d [])])] [] (O5.app (.c E (.c (Zec _ _ _ _ q8) (.c (Zbi _ _ _ _ _ q9) .n))))
  .obtain⟨F,G,b⟩:=Zae b
   let R6:List RA:=(R3++[rA [(7,aI v)],rA [(6,aI x4)],rA [(3,.r (.tup [(true,Zab.c F.1),(false,cB F.2)]) [])],rz,rz])
   have O7:Obl _:=(O5.app (.c E (.c (ZgT _ _ _ _ G) .n)));obtain⟨h,b⟩|⟨h,b⟩:=Zaj b
   .apply Yb b 26 R6 [false,false,true] [] [(7,[(7,cL 10 Zaa.c Zaa.d [])])] [] (O7.app (.c h .n))
   .obtain⟨p,b⟩|⟨p,b⟩:=Zaj b
    .obtain⟨x8,x9,H,I,b⟩:=Yu b;obtain⟨J,L,M,O,b⟩:=Yu b;apply Yb b 35 (R6++[rA [(11,.r (Ym x8) []),(12,aG (Zab.c x9))],rA [(3,aG (Zab.c J))],rA [(1,aG (Zab.c L))]]) [false,false,false,true] [] [(7,[(7,cL 10 Zaa.c Zaa.d [])])] [] (O7.app (.c h (.c p (.c z (.c (show v.toNat<o.2.length from(ltOf z)) (.c z (.c (show v.toNat<o.2.length from(ltOf z)) (.c (Zfc _ _ _ H) (.c (Zdb _ _ _ _ _ I) (.c (Zec _ _ _ _ M) (.c (Zbi _ _ _ _ _ O) .n)))))))))))
    .obtain⟨g,R,b⟩:=Zae b;obtain⟨t,U,b⟩:=Zae b
     let R8:List RA:=(R6++[rH [(6,.r (.tup [(true,Zah.c t.1),(false,cB t.2)]) [])] [(1,⟨[],[(99999,88)],[(99999,.rows 44 10 g.length (Zam Zaa.c Zaa.d g))],.one (.osl 99999 g.length)⟩),(1001,⟨[],[(99999,88)],[(99999,.rows 44 10 g.length (Zam Zaa.c Zaa.d g))],.one (.osl 99999 g.length)⟩)],rz,rz])
     have O9:Obl _:=(O7.app (.c h (.c p (.c (Zok _ _ R) (.c (show ∀i j,i<g.length->j<10->∃y,Zam Zaa.c Zaa.d g i j=.lit y from(ZAT (sz:=10) (e:=Zaa.c) (d:=Zaa.d) (fun _=>rfl) (fun _=>rfl) _ _)) (.c (ZnN _ _ _ _ U) .n))))));obtain⟨u,b⟩|⟨u,b⟩:=Zaj b
     .exact Ye 42 (R8++[rz]) [false,false,false,false,true] ⟨[],[(6,[(0,cL 13 Zac.c Zac.d []),(20,cL 5 Zag.c Zag.d []),(21,cL 7 Zad.c Zad.d [])]),(7,[(7,cL 10 Zaa.c Zaa.d [])]),(13,[(7,cL 10 Zaa.c Zaa.d [])])],[],[],[],[3,4,5,6,7,8,9,11,13,14],[24,3,4,5,6,7,11,13],[]⟩ (O9.app (.c u .n)) (Zna S0 w0 1000000 v (0:Int) o.2 A B F.1 (Zab.mk ([]:(List Zac)) 0 (Zas.mk 0 0 (Zan.mk 0 0 0) 0 0 (Zac.mk 0 (Zaa.mk (Zah.mk (Zaf.mk false 0 0) 0) false 0 (Zau.mk 0 0) 0 0) ([]:(List Zag)) ([]:(List Zad))) false) false) (Zao.mk 0 (Zah.mk (Zaf.mk false 0 0) 0) 0 0 ([]:(List Zaa))) t.1 (Zao.mk 5 (Zah.mk (Zaf.mk false 0 0) 0) 0 0 ([]:(List Zaa))) r b)
     .obtain⟨W,Z,q20,q21,b⟩:=Yu b;apply Yb b 43 (R8++[rA [(3,aG (Zab.c W))],rA [(1,aG (Zab.c Z))]]) [false,false,false,false,false] [] [(7,[(7,cL 10 Zaa.c Zaa.d [])])] [] (O9.app (.c u (.c (Zec _ _ _ _ q20) (.c (Zbi _ _ _ _ _ q21) .n))))
def ZaX(e:Int)(g:Bool)(i:ZaF)(j:Zaz)(o:Zab)(p:Zao)(n:Zab):Option (Zab×Zao):=(ZaB n (3:Int) (Zar (2:Int) e) false).bind fun b=>bif(!g)then(Zem i j b).bind fun d=>some (d.1,d.2)else(ZaB b (4:Int) (0:Int) false).bind fun h=>some (h,(Zao.mk 0 (Zah.mk (Zaf.mk false 0 0) 0) 0 0 ([]:(List Zaa))))
theorem ZeD(S0:Nat->Prop)(w0:Zba)(p:Int)(t:Bool)(g:ZaF)(h:Zaz)(b:Zab)(j:Zao)(e:Zab)(r:(Zab×Zao))(i:ZaX p t g h b j e=some r):Yr 113 S0 w0 Tryz.f12 (.tup [(true,Zab.c r.1),(true,Zao.c r.2)]) [1,1,1,1,1,1,1,1,1,1,1,1,1,1] ⟨[(3,.one (.ptr 3 0)),(4,.one (.ptr 4 0)),(6,.one (.ptr 6 0)),(7,.one (.ptr 7 0)),(8,.one (.ptr 8 0)),(11,(Yj p)),(13,(Yk t))],[(3,.box [.lit (.int .i64 g.fMaxIn),.lit (.int .i64 g.fMaxOut),.lit (.int .i64 g.fShards),.lit (.int .i64 g.fMaxBans),.lit (.int .i64 g.fMaxBook),.lit (.int .u64 g.fSecret),.lit (.int .i64 g.fQuota.fGroup),.lit (.int .i64 g.fQuota.fPing),.lit (.int .i64 g.fQuota.fWork),.lit (.int .i64 g.fQuota.fTime),.lit (.int .i64 g.fHalf),.lit (.int .i64 g.fLimit),.lit (.int .i64 g.fBanFor),.lit (.int .i64 g.fBase),.lit (.int .i64 g.fCap),.lit (.int .i64 g.fJitter)]),(4,.box [.lit (.int .i64 h.fKind),.lit (.bool h.fEnd.fAddr.fV6),.lit (.int .u64 h.fEnd.fAddr.fHi),.lit (.int .u64 h.fEnd.fAddr.fLo),.lit (.int .i64 h.fEnd.fPort),.lit (.bool h.fNet.fAddr.fV6),.lit (.int .u64 h.fNet.fAddr.fHi),.lit (.int .u64 h.fNet.fAddr.fLo),.lit (.int .i64 h.fNet.fBits),.lit (.int .i64 h.fNow),.lit (.int .i64 h.fNum),.lit (.bool h.fGood)]),(6,.box [cL 13 Zac.c Zac.d b.fGot,.lit (.int .i64 b.fAt),.lit (.int .i64 b.fOp.fKind),.lit (.int .i64 b.fOp.fLock),.lit (.int .i64 b.fOp.fLoc.fKind),.lit (.int .i64 b.fOp.fLoc.fShard),.lit (.int .i64 b.fOp.fLoc.fSlot),.lit (.int .i64 b.fOp.fOld),.lit (.int .i64 b.fOp.fNew),.lit (.int .i64 b.fOp.fVal.fN),.lit (.bool b.fOp.fVal.fPeer.fEnd.fAddr.fV6),.lit (.int .u64 b.fOp.fVal.fPeer.fEnd.fAddr.fHi),.lit (.int .u64 b.fOp.fVal.fPeer.fEnd.fAddr.fLo),.lit (.int .i64 b.fOp.fVal.fPeer.fEnd.fPort),.lit (.bool b.fOp.fVal.fPeer.fIn),.lit (.int .i64 b.fOp.fVal.fPeer.fSince),.lit (.int .i64 b.fOp.fVal.fPeer.fScore.fPoints),.lit (.int .i64 b.fOp.fVal.fPeer.fScore.fAt),.lit (.int .i64 b.fOp.fVal.fPeer.fPing),.lit (.int .i64 b.fOp.fVal.fPeer.fWork),cL 5 Zag.c Zag.d b.fOp.fVal.fBans,cL 7 Zad.c Zad.d b.fOp.fVal.fBook,.lit (.bool b.fOp.fMark),.lit (.bool b.fWait)]),(7,.box [.lit (.int .i64 j.fCode),.lit (.bool j.fEnd.fAddr.fV6),.lit (.int .u64 j.fEnd.fAddr.fHi),.lit (.int .u64 j.fEnd.fAddr.fLo),.lit (.int .i64 j.fEnd.fPort),.lit (.int .i64 j.fN),.lit (.int .i64 j.fUntil),cL 10 Zaa.c Zaa.d j.fPeers]),(8,.box [cL 13 Zac.c Zac.d e.fGot,.lit (.int .i64 e.fAt),.lit (.int .i64 e.fOp.fKind),.lit (.int .i64 e.fOp.fLock),.lit (.int .i64 e.fOp.fLoc.fKind),.lit (.int .i64 e.fOp.fLoc.fShard),.lit (.int .i64 e.fOp.fLoc.fSlot),.lit (.int .i64 e.fOp.fOld),.lit (.int .i64 e.fOp.fNew),.lit (.int .i64 e.fOp.fVal.fN),.lit (.bool e.fOp.fVal.fPeer.fEnd.fAddr.fV6),.lit (.int .u64 e.fOp.fVal.fPeer.fEnd.fAddr.fHi),.lit (.int .u64 e.fOp.fVal.fPeer.fEnd.fAddr.fLo),.lit (.int .i64 e.fOp.fVal.fPeer.fEnd.fPort),.lit (.bool e.fOp.fVal.fPeer.fIn),.lit (.int .i64 e.fOp.fVal.fPeer.fSince),.lit (.int .i64 e.fOp.fVal.fPeer.fScore.fPoints),.lit (.int .i64 e.fOp.fVal.fPeer.fScore.fAt),.lit (.int .i64 e.fOp.fVal.fPeer.fPing),.lit (.int .i64 e.fOp.fVal.fPeer.fWork),cL 5 Zag.c Zag.d e.fOp.fVal.fBans,cL 7 Zad.c Zad.d e.fOp.fVal.fBook,.lit (.bool e.fOp.fMark),.lit (.bool e.fWait)])]⟩:=by
 unfold ZaX at i;obtain⟨y,u,i⟩:=Zae i
 let R1:List RA:=[rA [(3,aG (Zab.c y))],rz]
 obtain⟨o,i⟩|⟨o,i⟩:=Zaj i
 .obtain⟨v,z,i⟩:=Zae i;apply Ya i 8 (R1++[rA [(3,.r (.tup [(true,Zab.c v.1),(true,Zao.c v.2)]) [])]]) [true] (.c (Zbi _ _ _ _ _ u) (.c o (.c (ZoK _ _ _ _ z) .n)))
 .obtain⟨A,B,i⟩:=Zae i;apply Yb i 9 (R1++[rA [(1,aG (Zab.c A))]]) [false] [] [(7,[(7,cL 10 Zaa.c Zaa.d [])])] [] (.c (Zbi _ _ _ _ _ u) (.c o (.c (Zbi _ _ _ _ _ B) .n)))
def Zfr(i:ZaF)(e:Zaz)(z:List Zac):Option (Zab×Zao):=(ZfJ e).bind fun B=>bif(!B)then(ZaB (Zab.mk z 0 (Zas.mk 0 0 (Zan.mk 0 0 0) 0 0 (Zac.mk 0 (Zaa.mk (Zah.mk (Zaf.mk false 0 0) 0) false 0 (Zau.mk 0 0) 0 0) ([]:(List Zag)) ([]:(List Zad))) false) false) (8:Int) (0:Int) true).bind fun D=>some (D,(Zao.mk 1 (Zah.mk (Zaf.mk false 0 0) 0) 0 0 ([]:(List Zaa))))else(ZaB (Zab.mk z 0 (Zas.mk 0 0 (Zan.mk 0 0 0) 0 0 (Zac.mk 0 (Zaa.mk (Zah.mk (Zaf.mk false 0 0) 0) false 0 (Zau.mk 0 0) 0 0) ([]:(List Zag)) ([]:(List Zad))) false) false) (2:Int) (0:Int) false).bind fun E=>(ZbP E (Zan.mk 3 0 0)).bind fun j=>(ZeQ j.2.fBans e.fEnd.fAddr e.fNow).bind fun A=>bif(decide (A>(0:Int)))then(ZaB j.1 (4:Int) (0:Int) true).bind fun F=>some (F,(Zao.mk 8 (Zah.mk (Zaf.mk false 0 0) 0) 0 A ([]:(List Zaa))))else(Zdh e.fEnd.fAddr i.fSecret i.fShards).bind fun g=>(ZaB j.1 (1:Int) (Zar (2:Int) g) false).bind fun G=>(Zcq G g).bind fun h=>bif(!h.1.fWait)then(Zcx h.2 e.fEnd).bind fun n=>bif(decide (n>=(0:Int)))then(ZaB h.1 (3:Int) (Zar (2:Int) g) true).bind fun o=>(ZaB o (4:Int) (0:Int) false).bind fun p=>some (p,(Zao.mk 7 (Zah.mk (Zaf.mk false 0 0) 0) 0 0 ([]:(List Zaa))))else(Zbw h.1 i.fMaxIn true).bind fun b=>bif b.1.fWait then some (b.1,(Zao.mk 0 (Zah.mk (Zaf.mk false 0 0) 0) 0 0 ([]:(List Zaa))))else bif b.2 then(ZbJ h.2 e).bind fun t=>(ZaY b.1 g h.2 t).bind fun u=>ZaX g b.2 i e (Zab.mk ([]:(List Zac)) 0 (Zas.mk 0 0 (Zan.mk 0 0 0) 0 0 (Zac.mk 0 (Zaa.mk (Zah.mk (Zaf.mk false 0 0) 0) false 0 (Zau.mk 0 0) 0 0) ([]:(List Zag)) ([]:(List Zad))) false) false) (Zao.mk 0 (Zah.mk (Zaf.mk false 0 0) 0) 0 0 ([]:(List Zaa))) u else ZaX g b.2 i e (Zab.mk ([]:(List Zac)) 0 (Zas.mk 0 0 (Zan.mk 0 0 0) 0 0 (Zac.mk 0 (Zaa.mk (Zah.mk (Zaf.mk false 0 0) 0) false 0 (Zau.mk 0 0) 0 0) ([]:(List Zag)) ([]:(List Zad))) false) false) (Zao.mk 0 (Zah.mk (Zaf.mk false 0 0) 0) 0 0 ([]:(List Zaa))) b.1 else(Zbw h.1 i.fMaxIn true).bind fun d=>bif d.1.fWait then some (d.1,(Zao.mk 0 (Zah.mk (Zaf.mk false 0 0) 0) 0 0 ([]:(List Zaa))))else bif d.2 then(ZbJ h.2 e).bind fun v=>(ZaY d.1 g h.2 v).bind fun y=>ZaX g d.2 i e (Zab.mk ([]:(List Zac)) 0 (Zas.mk 0 0 (Zan.mk 0 0 0) 0 0 (Zac.mk 0 (Zaa.mk (Zah.mk (Zaf.mk false 0 0) 0) false 0 (Zau.mk 0 0) 0 0) ([]:(List Zag)) ([]:(List Zad))) false) false) (Zao.mk 0 (Zah.mk (Zaf.mk false 0 0) 0) 0 0 ([]:(List Zaa))) y else ZaX g d.2 i e (Zab.mk ([]:(List Zac)) 0 (Zas.mk 0 0 (Zan.mk 0 0 0) 0 0 (Zac.mk 0 (Zaa.mk (Zah.mk (Zaf.mk false 0 0) 0) false 0 (Zau.mk 0 0) 0 0) ([]:(List Zag)) ([]:(List Zad))) false) false) (Zao.mk 0 (Zah.mk (Zaf.mk false 0 0) 0) 0 0 ([]:(List Zaa))) d.1
theorem ZnK(u:ZaF)(v:Zaz)(a2:List Zac)(r:(Zab×Zao))(b:Zfr u v a2=some r):Yo 12 [.agg (ZaF.c u),.agg (Zaz.c v),.one (cL 13 Zac.c Zac.d a2)] (.tup [(true,Zab.c r.1),(true,Zao.c r.2)]):=by
 refine Yv Tryz.func12 fun S0 w0=>?_;unfold Zfr at b;obtain⟨x1,q1,b⟩:=Zae b;obtain⟨B,b⟩|⟨B,b⟩:=Zaj b
 .obtain⟨x2,q3,b⟩:=Zae b;apply Yb b 10 [rz,rz,rA [(1,aB x1)],⟨[(1,aG (Zab.c x2))],[],[],[],[(0,[(20,cL 5 Zag.c Zag.d []),(21,cL 7 Zad.c Zad.d [])])],[],[]⟩] [true] [] [(7,[(7,cL 10 Zaa.c Zaa.d [])])] [] (.c (Zkl _ _ q1) (.c B (.c (Zbi _ _ _ _ _ q3) .n)))
 .obtain⟨x3,x4,q4,q5,b⟩:=Yu b;obtain⟨x5,q6,b⟩:=Zae b
  let R2:List RA:=[rz,rz,rA [(1,aB x1)],⟨[(1,aG (Zab.c x3))],[],[],[],[(0,[(20,cL 5 Zag.c Zag.d []),(21,cL 7 Zad.c Zad.d [])])],[],[]⟩,rA [(2,.r (.tup [(true,Zab.c x4.1),(true,Zac.c x4.2)]) [])],rA [(7,aI x5)],rz]
  have O3:Obl _:=(.c (Zkl _ _ q1) (.c B (.c (Zbi _ _ _ _ _ q4) (.c (Zgp _ _ _ q5) (.c (Zos _ _ _ _ q6) .n)))));obtain⟨D,b⟩|⟨D,b⟩:=Zaj b
  .obtain⟨x6,q8,b⟩:=Zae b;apply Yb b 21 (R2++[rA [(1,aG (Zab.c x6))]]) [false,true] [] [(7,[(7,cL 10 Zaa.c Zaa.d [])])] [] (O3.app (.c D (.c (Zbi _ _ _ _ _ q8) .n)))
  .obtain⟨y,x8,q9,E,b⟩:=Yu b;obtain⟨x9,F,b⟩:=Zae b
   let R4:List RA:=(R2++[rA [(7,aI y)],rA [(3,aG (Zab.c x8))],rA [(2,.r (.tup [(true,Zab.c x9.1),(false,(cLs 10 Zaa.c Zaa.d) x9.2)]) [])]])
   have O5:Obl _:=(O3.app (.c D (.c (ZlA _ _ _ _ q9) (.c (Zbi _ _ _ _ _ E) (.c (ZkE _ _ _ F) .n)))));obtain⟨j,b⟩|⟨j,b⟩:=Zaj b
   .obtain⟨G,H,b⟩:=Zae b
    let R6:List RA:=(R4++[⟨[(7,aI G)],[(3,true)],[],[],[],[],[]⟩])
    have O7:Obl _:=(O5.app (.c j (.c (ZhD _ _ _ H) .n)));obtain⟨o,b⟩|⟨o,b⟩:=Zaj b
    .obtain⟨I,J,L,M,b⟩:=Yu b;apply Yb b 34 (R6++[rA [(3,aG (Zab.c I))],rA [(1,aG (Zab.c J))]]) [false,false,true] [] [(7,[(7,cL 10 Zaa.c Zaa.d [])])] [] (O7.app (.c o (.c (Zbi _ _ _ _ _ L) (.c (Zbi _ _ _ _ _ M) .n))))
    .obtain⟨e,O,b⟩:=Zae b
     let R8:List RA:=(R6++[rA [(3,.r (.tup [(true,Zab.c e.1),(false,cB e.2)]) [])],rz,rz])
     have O9:Obl _:=(O7.app (.c o (.c (ZgT _ _ _ _ O) .n)));obtain⟨h,b⟩|⟨h,b⟩:=Zaj b
     .apply Yb b 39 R8 [false,false,false,true] [] [(7,[(7,cL 10 Zaa.c Zaa.d [])])] [] (O9.app (.c h .n))
     .obtain⟨p,b⟩|⟨p,b⟩:=Zaj b
      .obtain⟨R,z,U,W,b⟩:=Yu b;exact Ye 43 (R8++[rA [(5,.r (Ym R) []),(6,aG (Zab.c z))]]) [false,false,false,false,true] ⟨[],[(6,[(0,cL 13 Zac.c Zac.d []),(20,cL 5 Zag.c Zag.d []),(21,cL 7 Zad.c Zad.d [])]),(7,[(7,cL 10 Zaa.c Zaa.d [])])],[],[],[],[3,4,6,7,8,11,13],[3,4,6,7,8],[]⟩ (O9.app (.c h (.c p (.c (Zfc _ _ _ U) (.c (Zdb _ _ _ _ _ W) .n))))) (ZeD S0 w0 y e.2 u v (Zab.mk ([]:(List Zac)) 0 (Zas.mk 0 0 (Zan.mk 0 0 0) 0 0 (Zac.mk 0 (Zaa.mk (Zah.mk (Zaf.mk false 0 0) 0) false 0 (Zau.mk 0 0) 0 0) ([]:(List Zag)) ([]:(List Zad))) false) false) (Zao.mk 0 (Zah.mk (Zaf.mk false 0 0) 0) 0 0 ([]:(List Zaa))) z r b)
      .exact Ye 43 R8 [false,false,false,false,false] ⟨[],[(6,[(0,cL 13 Zac.c Zac.d []),(20,cL 5 Zag.c Zag.d []),(21,cL 7 Zad.c Zad.d [])]),(7,[(7,cL 10 Zaa.c Zaa.d [])])],[],[],[],[3,4,6,7,8,11,13],[3,4,6,7,8],[]⟩ (O9.app (.c h (.c p .n))) (ZeD S0 w0 y e.2 u v (Zab.mk ([]:(List Zac)) 0 (Zas.mk 0 0 (Zan.mk 0 0 0) 0 0 (Zac.mk 0 (Zaa.mk (Zah.mk (Zaf.mk false 0 0) 0) false 0 (Zau.mk 0 0) 0 0) ([]:(List Zag)) ([]:(List Zad))) false) false) (Zao.mk 0 (Zah.mk (Zaf.mk false 0 0) 0) 0 0 ([]:(List Zaa))) e.1 r b)
   .obtain⟨g,Z,b⟩:=Zae b
    let gw:List RA:=(R4++[rB [(3,false)],rA [(3,.r (.tup [(true,Zab.c g.1),(false,cB g.2)]) [])],rz,rz])
    have jW:Obl _:=(O5.app (.c j (.c (show false=false from rfl) (.c (ZgT _ _ _ _ Z) .n))));obtain⟨i,b⟩|⟨i,b⟩:=Zaj b
    .apply Yb b 39 gw [false,false,false,true] [] [(7,[(7,cL 10 Zaa.c Zaa.d [])])] [] (jW.app (.c i .n))
    .obtain⟨t,b⟩|⟨t,b⟩:=Zaj b
     .obtain⟨gy,A,q25,q26,b⟩:=Yu b;exact Ye 43 (gw++[rA [(5,.r (Ym gy) []),(6,aG (Zab.c A))]]) [false,false,false,false,true] ⟨[],[(6,[(0,cL 13 Zac.c Zac.d []),(20,cL 5 Zag.c Zag.d []),(21,cL 7 Zad.c Zad.d [])]),(7,[(7,cL 10 Zaa.c Zaa.d [])])],[],[],[],[3,4,6,7,8,11,13],[3,4,6,7,8],[]⟩ (jW.app (.c i (.c t (.c (Zfc _ _ _ q25) (.c (Zdb _ _ _ _ _ q26) .n))))) (ZeD S0 w0 y g.2 u v (Zab.mk ([]:(List Zac)) 0 (Zas.mk 0 0 (Zan.mk 0 0 0) 0 0 (Zac.mk 0 (Zaa.mk (Zah.mk (Zaf.mk false 0 0) 0) false 0 (Zau.mk 0 0) 0 0) ([]:(List Zag)) ([]:(List Zad))) false) false) (Zao.mk 0 (Zah.mk (Zaf.mk false 0 0) 0) 0 0 ([]:(List Zaa))) A r b)
     .exact Ye 43 gw [false,false,false,false,false] ⟨[],[(6,[(0,cL 13 Zac.c Zac.d []),(20,cL 5 Zag.c Zag.d []),(21,cL 7 Zad.c Zad.d [])]),(7,[(7,cL 10 Zaa.c Zaa.d [])])],[],[],[],[3,4,6,7,8,11,13],[3,4,6,7,8],[]⟩ (jW.app (.c i (.c t .n))) (ZeD S0 w0 y g.2 u v (Zab.mk ([]:(List Zac)) 0 (Zas.mk 0 0 (Zan.mk 0 0 0) 0 0 (Zac.mk 0 (Zaa.mk (Zah.mk (Zaf.mk false 0 0) 0) false 0 (Zau.mk 0 0) 0 0) ([]:(List Zag)) ([]:(List Zad))) false) false) (Zao.mk 0 (Zah.mk (Zaf.mk false 0 0) 0) 0 0 ([]:(List Zaa))) g.1 r b)
def ZcW(e g:List Zag):Nat->Int->Option Bool|0,_=>none|fu+1,b=>bif(decide (b<(e.length:Int)))then bif(decide (b<(g.length:Int)))then need (0<=b/\b<(e.length:Int))<|need (0<=b/\b<(g.length:Int))<|bif(!(decide ((e.getD b.toNat Zag.d)=(g.getD b.toNat Zag.d))))then some false else ZcW e g fu (Zar b 1)else some true else some true
theorem ZnI(S0:Nat->Prop)(w0:Zba)(g h:List Zag):∀(i:Nat)(e:Int)(r:Bool),ZcW g h i e=some r->Yr 32 S0 w0 Tryz.f74 (Yk r) [1,1,0,1,0] ⟨[(0,(Yl g)),(1,(Yl h)),(5,(Yj e))],[]⟩:=by
 intro i;induction i with
 |zero=>
  intro e r b;simp[ZcW]at b
 |succ i t=>
  intro e r b;unfold ZcW at b;obtain⟨j,b⟩|⟨j,b⟩:=Zaj b
  .obtain⟨o,b⟩|⟨o,b⟩:=Zaj b
   .obtain⟨u,b⟩:=Zat b;obtain⟨v,b⟩:=Zat b
    let R1:List RA:=[rB [(4,true)],rA [(8,aB (!(decide ((g.getD e.toNat Zag.d)=(h.getD e.toNat Zag.d)))))],rz]
    have O2:Obl _:=(.c j (.c o (.c u (.c v (.c (ZwE (g.getD e.toNat Zag.d) (h.getD e.toNat Zag.d) (.tmp 26) (.tmp 30)) .n)))));obtain⟨p,b⟩|⟨p,b⟩:=Zaj b
    .apply Ya b 13 R1 [true,true] (O2.app (.c p .n))
    .exact Ye 15 R1 [true,false] (Yi [0,1,5]) (O2.app (.c p .n)) (t (Zar e 1) r b)
   .apply Ya b 8 [rB [(4,true)],rz] [false] (.c j (.c o .n))
  .apply Ya b 8 [rB [(4,false)],rz] [false] (.c j (.c (show false=false from rfl) .n))
def ZgE(d b:List Zag):Option Bool:=bif((d.length:Int) != (b.length:Int))then some false else ZcW d b (((b.length:Int)-(0:Int)).toNat+2) (0:Int)
theorem Zpm(e d:List Zag)(r:Bool)(b:ZgE e d=some r):Yo 74 [Yl e,Yl d] (Yk r):=by
 refine Yv Tryz.func74 fun S0 w0=>?_;unfold ZgE at b;obtain⟨g,b⟩|⟨g,b⟩:=Zaj b
 .apply Ya b 8 [rz,rz,rz] [true] (.c g .n)
 .exact Ye 11 [rz,rz,rz] [false] (Yi [0,1,5]) (.c g .n) (ZnI S0 w0 e d (((d.length:Int)-(0:Int)).toNat+2) (0:Int) r b)
def ZcV(e g:List Zad):Nat->Int->Option Bool|0,_=>none|fu+1,b=>bif(decide (b<(e.length:Int)))then bif(decide (b<(g.length:Int)))then need (0<=b/\b<(e.length:Int))<|need (0<=b/\b<(g.length:Int))<|bif(!(decide ((e.getD b.toNat Zad.d)=(g.getD b.toNat Zad.d))))then some false else ZcV e g fu (Zar b 1)else some true else some true
theorem ZnH(S0:Nat->Prop)(w0:Zba)(g h:List Zad):∀(i:Nat)(e:Int)(r:Bool),ZcV g h i e=some r->Yr 32 S0 w0 Tryz.f75 (Yk r) [1,1,0,1,0] ⟨[(0,.one (cL 7 Zad.c Zad.d g)),(1,.one (cL 7 Zad.c Zad.d h)),(5,(Yj e))],[]⟩:=by
 intro i;induction i with
 |zero=>
  intro e r b;simp[ZcV]at b
 |succ i t=>
  intro e r b;unfold ZcV at b;obtain⟨j,b⟩|⟨j,b⟩:=Zaj b
  .obtain⟨o,b⟩|⟨o,b⟩:=Zaj b
   .obtain⟨u,b⟩:=Zat b;obtain⟨v,b⟩:=Zat b
    let R1:List RA:=[rB [(4,true)],rA [(8,aB (!(decide ((g.getD e.toNat Zad.d)=(h.getD e.toNat Zad.d)))))],rz]
    have O2:Obl _:=(.c j (.c o (.c u (.c v (.c (ZtO (g.getD e.toNat Zad.d) (h.getD e.toNat Zad.d) (.tmp 26) (.tmp 30)) .n)))));obtain⟨p,b⟩|⟨p,b⟩:=Zaj b
    .apply Ya b 13 R1 [true,true] (O2.app (.c p .n))
    .exact Ye 15 R1 [true,false] (Yi [0,1,5]) (O2.app (.c p .n)) (t (Zar e 1) r b)
   .apply Ya b 8 [rB [(4,true)],rz] [false] (.c j (.c o .n))
  .apply Ya b 8 [rB [(4,false)],rz] [false] (.c j (.c (show false=false from rfl) .n))
def ZgD(d b:List Zad):Option Bool:=bif((d.length:Int) != (b.length:Int))then some false else ZcV d b (((b.length:Int)-(0:Int)).toNat+2) (0:Int)
theorem Zpl(g e:List Zad)(r:Bool)(b:ZgD g e=some r):Yo 75 [.one (cL 7 Zad.c Zad.d g),.one (cL 7 Zad.c Zad.d e)] (Yk r):=by
 refine Yv Tryz.func75 fun S0 w0=>?_;unfold ZgD at b;obtain⟨h,b⟩|⟨h,b⟩:=Zaj b
 .apply Ya b 8 [rz,rz,rz] [true] (.c h .n)
 .exact Ye 11 [rz,rz,rz] [false] (Yi [0,1,5]) (.c h .n) (ZnH S0 w0 g e (((e.length:Int)-(0:Int)).toNat+2) (0:Int) r b)
def Zge(b d:Zac):Option Bool:=bif(b.fN==d.fN)then bif(decide (b.fPeer=d.fPeer))then(ZgE b.fBans d.fBans).bind fun e=>bif e then(ZgD b.fBook d.fBook).bind fun g=>some g else some false else some false else some false
theorem ZoI(d e:Zac)(r:Bool)(b:Zge d e=some r):Yo 122 [.agg (Zac.c d),.agg (Zac.c e)] (Yk r):=by
 refine Yv Tryz.func122 fun S0 w0=>?_;unfold Zge at b;obtain⟨g,b⟩|⟨g,b⟩:=Zaj b
 .have O1:Obl _:=(.c g (.c (Zvk d.fPeer e.fPeer (.tmp 12) (.tmp 14)) .n));obtain⟨h,b⟩|⟨h,b⟩:=Zaj b
  .obtain⟨j,o,b⟩:=Zae b;have O2:Obl _:=(O1.app (.c h (.c (Zpm _ _ _ o) .n)));obtain⟨i,b⟩|⟨i,b⟩:=Zaj b
   .obtain⟨p,t,b⟩:=Zae b;apply Ya b 4 [rz,⟨[(10,aB (decide (d.fPeer=e.fPeer))),(17,aB j),(24,aB p)],[(5,true),(12,true),(19,true)],[],[],[],[],[]⟩] [] (O2.app (.c i (.c (Zpl _ _ _ t) .n)))
   .apply Ya b 4 [rz,⟨[(10,aB (decide (d.fPeer=e.fPeer))),(17,aB j)],[(5,true),(12,true),(19,false)],[],[],[],[],[]⟩] [] (O2.app (.c i .n))
  .apply Ya b 4 [rz,⟨[(10,aB (decide (d.fPeer=e.fPeer)))],[(5,true),(12,false)],[],[],[],[],[]⟩] [] (O1.app (.c h .n))
 .apply Ya b 4 [rz,rB [(5,false)]] [] (.c g .n)
def Zej(b d:Zas):Option Bool:=bif(b.fKind==d.fKind)then bif(b.fLock==d.fLock)then bif(decide (b.fLoc=d.fLoc))then bif(b.fOld==d.fOld)then bif(b.fNew==d.fNew)then bif(b.fMark==d.fMark)then(Zge b.fVal d.fVal).bind fun e=>some e else some false else some false else some false else some false else some false else some false
theorem Zmi(d e:Zas)(r:Bool)(b:Zej d e=some r):Yo 54 [.agg (Zas.c d),.agg (Zas.c e)] (Yk r):=by
 refine Yv Tryz.func54 fun S0 w0=>?_;unfold Zej at b;obtain⟨i,b⟩|⟨i,b⟩:=Zaj b
 .obtain⟨o,b⟩|⟨o,b⟩:=Zaj b
  .have O1:Obl _:=(.c i (.c o (.c (Zxf d.fLoc e.fLoc (.tmp 19) (.tmp 21)) .n)));obtain⟨g,b⟩|⟨g,b⟩:=Zaj b
   .obtain⟨h,b⟩|⟨h,b⟩:=Zaj b
    .obtain⟨j,b⟩|⟨j,b⟩:=Zaj b
     .obtain⟨p,b⟩|⟨p,b⟩:=Zaj b
      .obtain⟨t,u,b⟩:=Zae b;apply Ya b 4 [rz,⟨[(17,aB (decide (d.fLoc=e.fLoc))),(45,aB t)],[(5,true),(12,true),(19,true),(26,true),(33,true),(40,true)],[],[],[],[],[]⟩] [] (O1.app (.c g (.c h (.c j (.c p (.c (ZoI _ _ _ u) .n))))))
      .apply Ya b 4 [rz,⟨[(17,aB (decide (d.fLoc=e.fLoc)))],[(5,true),(12,true),(19,true),(26,true),(33,true),(40,false)],[],[],[],[],[]⟩] [] (O1.app (.c g (.c h (.c j (.c p .n)))))
     .apply Ya b 4 [rz,⟨[(17,aB (decide (d.fLoc=e.fLoc)))],[(5,true),(12,true),(19,true),(26,true),(33,false)],[],[],[],[],[]⟩] [] (O1.app (.c g (.c h (.c j .n))))
    .apply Ya b 4 [rz,⟨[(17,aB (decide (d.fLoc=e.fLoc)))],[(5,true),(12,true),(19,true),(26,false)],[],[],[],[],[]⟩] [] (O1.app (.c g (.c h .n)))
   .apply Ya b 4 [rz,⟨[(17,aB (decide (d.fLoc=e.fLoc)))],[(5,true),(12,true),(19,false)],[],[],[],[],[]⟩] [] (O1.app (.c g .n))
  .apply Ya b 4 [rz,rB [(5,true),(12,false)]] [] (.c i (.c o .n))
 .apply Ya b 4 [rz,rB [(5,false)]] [] (.c i .n)
def ZcJ(e g:List Zaa):Nat->Int->Option Bool|0,_=>none|fu+1,b=>bif(decide (b<(e.length:Int)))then bif(decide (b<(g.length:Int)))then need (0<=b/\b<(e.length:Int))<|need (0<=b/\b<(g.length:Int))<|bif(!(decide ((e.getD b.toNat Zaa.d)=(g.getD b.toNat Zaa.d))))then some false else ZcJ e g fu (Zar b 1)else some true else some true
theorem ZmZ(S0:Nat->Prop)(w0:Zba)(g h:List Zaa):∀(i:Nat)(e:Int)(r:Bool),ZcJ g h i e=some r->Yr 32 S0 w0 Tryz.f73 (Yk r) [1,1,0,1,0] ⟨[(0,(Ym g)),(1,(Ym h)),(5,(Yj e))],[]⟩:=by
 intro i;induction i with
 |zero=>
  intro e r b;simp[ZcJ]at b
 |succ i t=>
  intro e r b;unfold ZcJ at b;obtain⟨j,b⟩|⟨j,b⟩:=Zaj b
  .obtain⟨o,b⟩|⟨o,b⟩:=Zaj b
   .obtain⟨u,b⟩:=Zat b;obtain⟨v,b⟩:=Zat b
    let R1:List RA:=[rB [(4,true)],rA [(8,aB (!(decide ((g.getD e.toNat Zaa.d)=(h.getD e.toNat Zaa.d)))))],rz]
    have O2:Obl _:=(.c j (.c o (.c u (.c v (.c (ZmW (g.getD e.toNat Zaa.d) (h.getD e.toNat Zaa.d) (.tmp 26) (.tmp 30)) .n)))));obtain⟨p,b⟩|⟨p,b⟩:=Zaj b
    .apply Ya b 13 R1 [true,true] (O2.app (.c p .n))
    .exact Ye 15 R1 [true,false] (Yi [0,1,5]) (O2.app (.c p .n)) (t (Zar e 1) r b)
   .apply Ya b 8 [rB [(4,true)],rz] [false] (.c j (.c o .n))
  .apply Ya b 8 [rB [(4,false)],rz] [false] (.c j (.c (show false=false from rfl) .n))
def Zgf(d b:List Zaa):Option Bool:=bif((d.length:Int) != (b.length:Int))then some false else ZcJ d b (((b.length:Int)-(0:Int)).toNat+2) (0:Int)
theorem ZoJ(e d:List Zaa)(r:Bool)(b:Zgf e d=some r):Yo 73 [Ym e,Ym d] (Yk r):=by
 refine Yv Tryz.func73 fun S0 w0=>?_;unfold Zgf at b;obtain⟨g,b⟩|⟨g,b⟩:=Zaj b
 .apply Ya b 8 [rz,rz,rz] [true] (.c g .n)
 .exact Ye 11 [rz,rz,rz] [false] (Yi [0,1,5]) (.c g .n) (ZmZ S0 w0 e d (((d.length:Int)-(0:Int)).toNat+2) (0:Int) r b)
def Zel(b d:Zao):Option Bool:=bif(b.fCode==d.fCode)then bif(decide (b.fEnd=d.fEnd))then bif(b.fN==d.fN)then bif(b.fUntil==d.fUntil)then(Zgf b.fPeers d.fPeers).bind fun e=>some e else some false else some false else some false else some false
theorem ZkD(d e:Zao)(r:Bool)(b:Zel d e=some r):Yo 21 [.agg (Zao.c d),.agg (Zao.c e)] (Yk r):=by
 refine Yv Tryz.func21 fun S0 w0=>?_;unfold Zel at b;obtain⟨i,b⟩|⟨i,b⟩:=Zaj b
 .have O1:Obl _:=(.c i (.c (Zkz d.fEnd e.fEnd (.tmp 12) (.tmp 14)) .n));obtain⟨g,b⟩|⟨g,b⟩:=Zaj b
  .obtain⟨h,b⟩|⟨h,b⟩:=Zaj b
   .obtain⟨j,b⟩|⟨j,b⟩:=Zaj b
    .obtain⟨o,p,b⟩:=Zae b;apply Ya b 4 [rz,⟨[(10,aB (decide (d.fEnd=e.fEnd))),(31,aB o)],[(5,true),(12,true),(19,true),(26,true)],[],[],[],[],[]⟩] [] (O1.app (.c g (.c h (.c j (.c (ZoJ _ _ _ p) .n)))))
    .apply Ya b 4 [rz,⟨[(10,aB (decide (d.fEnd=e.fEnd)))],[(5,true),(12,true),(19,true),(26,false)],[],[],[],[],[]⟩] [] (O1.app (.c g (.c h (.c j .n))))
   .apply Ya b 4 [rz,⟨[(10,aB (decide (d.fEnd=e.fEnd)))],[(5,true),(12,true),(19,false)],[],[],[],[],[]⟩] [] (O1.app (.c g (.c h .n)))
  .apply Ya b 4 [rz,⟨[(10,aB (decide (d.fEnd=e.fEnd)))],[(5,true),(12,false)],[],[],[],[],[]⟩] [] (O1.app (.c g .n))
 .apply Ya b 4 [rz,rB [(5,false)]] [] (.c i .n)
def Zgb(b:Zci)(d:Zab)(e:Zao):Option Bool:=bif d.fWait then bif(!b.fDone)then bif(!b.fBroken)then(Zej b.fOp d.fOp).bind fun g=>bif g then(Zel b.fReply (Zao.mk 0 (Zah.mk (Zaf.mk false 0 0) 0) 0 0 ([]:(List Zaa)))).bind fun h=>some h else some false else some false else some false else bif b.fDone then bif(!b.fBroken)then(Zej b.fOp (Zas.mk 0 0 (Zan.mk 0 0 0) 0 0 (Zac.mk 0 (Zaa.mk (Zah.mk (Zaf.mk false 0 0) 0) false 0 (Zau.mk 0 0) 0 0) ([]:(List Zag)) ([]:(List Zad))) false)).bind fun i=>bif i then(Zel b.fReply e).bind fun j=>some j else some false else some false else some false
theorem Zqd(u:Zci)(v:Zab)(y:Zao)(r:Bool)(b:Zgb u v y=some r):Yo 13 [.agg (Zci.c u),.agg (Zab.c v),.agg (Zao.c y)] (Yk r):=by
 refine Yv Tryz.func13 fun S0 w0=>?_;unfold Zgb at b;obtain⟨e,b⟩|⟨e,b⟩:=Zaj b
 .obtain⟨h,b⟩|⟨h,b⟩:=Zaj b
  .obtain⟨j,b⟩|⟨j,b⟩:=Zaj b
   .obtain⟨z,B,b⟩:=Zae b;have O1:Obl _:=(.c e (.c h (.c j (.c (Zmi _ _ _ B) .n))));obtain⟨o,b⟩|⟨o,b⟩:=Zaj b
    .obtain⟨D,E,b⟩:=Zae b;apply Ya b 8 [rz,rz,⟨[(13,aB z),(19,aB D)],[(3,true),(8,true),(15,true)],[],[],[(18,[(7,cL 10 Zaa.c Zaa.d [])])],[],[]⟩] [true] (O1.app (.c o (.c (ZkD _ _ _ E) .n)))
    .apply Ya b 8 [rz,rz,⟨[(13,aB z)],[(3,true),(8,true),(15,false)],[],[],[],[],[]⟩] [true] (O1.app (.c o .n))
   .apply Ya b 8 [rz,rz,rB [(3,true),(8,false)]] [true] (.c e (.c h (.c j .n)))
  .apply Ya b 8 [rz,rz,rB [(3,false)]] [true] (.c e (.c h .n))
 .obtain⟨i,b⟩|⟨i,b⟩:=Zaj b
  .obtain⟨p,b⟩|⟨p,b⟩:=Zaj b
   .obtain⟨A,F,b⟩:=Zae b;have O2:Obl _:=(.c e (.c i (.c p (.c (Zmi _ _ _ F) .n))));obtain⟨g,b⟩|⟨g,b⟩:=Zaj b
    .obtain⟨G,t,b⟩:=Zae b;apply Ya b 9 [rz,rz,⟨[(11,aB A),(17,aB G)],[(2,true),(7,true),(13,true)],[],[],[(10,[(18,cL 5 Zag.c Zag.d []),(19,cL 7 Zad.c Zad.d [])])],[],[]⟩] [false] (O2.app (.c g (.c (ZkD _ _ _ t) .n)))
    .apply Ya b 9 [rz,rz,⟨[(11,aB A)],[(2,true),(7,true),(13,false)],[],[],[(10,[(18,cL 5 Zag.c Zag.d []),(19,cL 7 Zad.c Zad.d [])])],[],[]⟩] [false] (O2.app (.c g .n))
   .apply Ya b 9 [rz,rz,rB [(2,true),(7,false)]] [false] (.c e (.c i (.c p .n)))
  .apply Ya b 9 [rz,rz,rB [(2,false)]] [false] (.c e (.c i .n))
def ZfA(b:ZaF)(d:Zaz)(e:List Zac):Option Bool:=(ZdO b).bind fun h=>bif(!h)then(ZdQ).bind fun i=>some i else(ZhZ e).bind fun j=>bif(!j)then(ZdQ).bind fun n=>some n else bif(d.fKind != (1:Int))then(ZdQ).bind fun o=>some o else(Zfr b d e).bind fun g=>(Ziw b d e).bind fun p=>(Zgb p g.1 g.2).bind fun t=>bif t then(ZdQ).bind fun u=>some u else some false
theorem Zmk(u:ZaF)(v:Zaz)(y:List Zac)(r:Bool)(b:ZfA u v y=some r):Yo 3 [.agg (ZaF.c u),.agg (Zaz.c v),.one (cL 13 Zac.c Zac.d y)] (Yk r):=by
 refine Yv Tryz.func3 fun S0 w0=>?_;unfold ZfA at b;obtain⟨h,z,b⟩:=Zae b;obtain⟨i,b⟩|⟨i,b⟩:=Zaj b
 .obtain⟨F,G,b⟩:=Zae b;apply Ya b 8 [rz,⟨[(1,aB h)],[(3,true)],[],[],[],[],[]⟩,rA [(0,aB F)]] [true] (.c (Zkm _ _ z) (.c i (.c (show true=true from rfl) (.c (ZfQ _ G) .n))))
 .obtain⟨A,H,b⟩:=Zae b;have O1:Obl _:=(.c (Zkm _ _ z) (.c i (.c (Zps _ _ H) .n)));obtain⟨g,b⟩|⟨g,b⟩:=Zaj b
  .obtain⟨I,J,b⟩:=Zae b;apply Ya b 8 [rz,⟨[(1,aB h),(5,aB A)],[(3,false),(8,true)],[],[],[],[],[]⟩,rA [(0,aB I)]] [true] (O1.app (.c g (.c (show true=true from rfl) (.c (ZfQ _ J) .n))))
  .let R2:List RA:=[rz,⟨[(1,aB h),(5,aB A)],[(3,false),(8,false)],[],[],[],[],[]⟩]
   obtain⟨j,b⟩|⟨j,b⟩:=Zaj b
   .obtain⟨L,M,b⟩:=Zae b;apply Ya b 8 (R2++[rA [(0,aB L)]]) [true] (O1.app (.c g (.c j (.c (ZfQ _ M) .n))))
   .obtain⟨B,D,O,o,b⟩:=Yu b;obtain⟨E,p,b⟩:=Zae b
    let R3:List RA:=(R2++[rA [(3,.r (.tup [(true,Zab.c B.1),(true,Zao.c B.2)]) [])]])
    have O4:Obl _:=(O1.app (.c g (.c j (.c (ZnK _ _ _ _ O) (.c (Zmn _ _ _ _ o) (.c (Zqd _ _ _ _ p) .n))))));obtain⟨e,b⟩|⟨e,b⟩:=Zaj b
    .obtain⟨R,t,b⟩:=Zae b;apply Ya b 11 (R3++[⟨[(3,aG (Zci.c D)),(6,aB E),(8,aB R)],[(7,true)],[],[],[],[],[]⟩]) [false] (O4.app (.c e (.c (ZfQ _ t) .n)))
    .apply Ya b 11 (R3++[⟨[(3,aG (Zci.c D)),(6,aB E)],[(7,false)],[],[],[],[],[]⟩]) [false] (O4.app (.c e .n))
end Go.Proofs.YtmnloegcpaahcaaGreat
