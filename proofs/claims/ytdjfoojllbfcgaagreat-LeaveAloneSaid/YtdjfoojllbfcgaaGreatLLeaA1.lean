import Derived.Test.YtdjfoojllbfcgaaGreatLLeaA0
namespace Go.Proofs.YtdjfoojllbfcgaaGreat
open Go.RowKit Go.Lib Go.Shelf
set_option linter.unusedVariables false
set_option maxRecDepth 100000
def ZaK(a1_0:List Zag):Nat→Int→Int→(List Zaa)→Option (List Zaa)|0,_,_,_=>none|fu+1,v5,v6,w100000=>bif(decide (v6<((w100000.length:Nat):Int)))then need (0≤v6∧v6<((w100000.length:Nat):Int))<|(Zhs (w100000.getD v6.toNat Zaa.d) a1_0).bind fun x2=>bif(!x2)then need (0≤v5∧v5<((w100000.length:Nat):Int))<|ZaK a1_0 fu (Zaw v5 (1:Int)) (Zaw v6 (1:Int)) (w100000.set v5.toNat (w100000.getD v6.toNat Zaa.d))else ZaK a1_0 fu v5 (Zaw v6 (1:Int)) w100000 else need (0≤v5∧v5≤((w100000.length:Nat):Int)∧((w100000.length:Nat):Int)≤((w100000.length:Nat):Int))<|need (v5.toNat+(w100000.length-v5.toNat)≤w100000.length)<|need (0≤(0:Int)∧(0:Int)≤v5∧v5≤((w100000.length:Nat):Int))<|need (v5.toNat≤(Zjl w100000 v5.toNat (w100000.length-v5.toNat) Zaa.d).length)<|some ((Zjl w100000 v5.toNat (w100000.length-v5.toNat) Zaa.d).take v5.toNat)
theorem Zgy(S0:Nat→Prop)(w0:ZaW)(a1_0:List Zag):∀(fu:Nat)(v5 v6:Int)(w100000 r:List Zaa),ZaK a1_0 fu v5 v6 w100000=some r→Good Tryz.prog 42 S0 w0 (bodyPost Tryz.prog Tryz.f288 (Zca S0 w0 [(99999,.rows 44 10 r.length (Zao Zaa.c Zaa.d r))] (.one (.osl 99999 r.length)))) (at_ [1,1,1,0,1,0] (Zbl Tryz.f288)) ⟨[(0,.one (.osl 100000 w100000.length)),(1,.one (.clo (.func 289) 0 1 (fun i=>([]:List C).getD i .junk) (fun i=>([.rp false 1 (fun j=>([cL 4 Zag.c Zag.d a1_0]:List C).getD (0+j) .junk)]:List C).getD i .junk))),(5,.one (.lit (.int .i64 v5))),(6,.one (.lit (.int .i64 v6)))],[(100000,.rows 44 10 w100000.length (Zao Zaa.c Zaa.d w100000))]⟩:=by
 intro fu;induction fu with
 |zero=>
  intro v5 v6 w100000 r hf;simp[ZaK]at hf
 |succ fu ih=>
  intro v5 v6 w100000 r hf;unfold ZaK at hf;rcases Zah hf with⟨h3,hf⟩|⟨h3,hf⟩
  ·obtain⟨o4,hf⟩:=Zar hf;obtain⟨x2,q5,hf⟩:=Zaf hf;have O1:Obl _:=(.c h3 (.c o4 (.c (show v6.toNat<w100000.length from(ltOf o4)) (.c (Zmt _ _ _ q5) .n))));rcases Zah hf with⟨h6,hf⟩|⟨h6,hf⟩
   ·obtain⟨o7,hf⟩:=Zar hf;exact ZaJ Zak Zca.ends 19 [rz,rz,rA [(2,aB x2)],rA [(4,.c (w100000.set v5.toNat (w100000.getD v6.toNat Zaa.d)).length (Zao Zaa.c Zaa.d (w100000.set v5.toNat (w100000.getD v6.toNat Zaa.d))))],rz,rz] [true,true] ⟨[],[],[],[(100000,((w100000.set v5.toNat (w100000.getD v6.toNat Zaa.d)).length))],[],[0,1,5,6],[100000],[]⟩ (O1.app (.c h6 (.c o7 (.c (show (w100000.set v5.toNat (w100000.getD v6.toNat Zaa.d)).length=w100000.length from List.length_set) (.c (show v5.toNat<w100000.length from(ltOf o7)) (.c (show ExtU 10 w100000.length (Zao Zaa.c Zaa.d w100000) v5.toNat 0 (Zaa.c (w100000.getD v6.toNat Zaa.d)) (Zao Zaa.c Zaa.d (w100000.set v5.toNat (w100000.getD v6.toNat Zaa.d)))from(Zmc _ _ _ rfl)) (.c (show (w100000.set v5.toNat (w100000.getD v6.toNat Zaa.d)).length=(w100000.set v5.toNat (w100000.getD v6.toNat Zaa.d)).length from rfl) .n))))))) (by kernel_rfl) (ih (Zaw v5 (1:Int)) (Zaw v6 (1:Int)) (w100000.set v5.toNat (w100000.getD v6.toNat Zaa.d)) r hf)
   ·exact ZaJ Zak Zca.ends 17 [rz,rz,rA [(2,aB x2)],rz] [true,false] ⟨[],[],[],[],[],[0,1,5,6],[100000],[]⟩ (O1.app (.c h6 .n)) (by kernel_rfl) (ih v5 (Zaw v6 (1:Int)) w100000 r hf)
  ·obtain⟨o8,hf⟩:=Zar hf;obtain⟨o9,hf⟩:=Zar hf;obtain⟨o10,hf⟩:=Zar hf;obtain⟨o11,hf⟩:=Zar hf;obtain rfl:=oi hf;exact Zcd Zak 10 [rz,rA [(3,.c (Zjl w100000 v5.toNat (w100000.length-v5.toNat) Zaa.d).length (Zao Zaa.c Zaa.d (Zjl w100000 v5.toNat (w100000.length-v5.toNat) Zaa.d)))],rA [(3,.c ((Zjl w100000 v5.toNat (w100000.length-v5.toNat) Zaa.d).take v5.toNat).length (Zao Zaa.c Zaa.d ((Zjl w100000 v5.toNat (w100000.length-v5.toNat) Zaa.d).take v5.toNat)))]] [false] ⟨[],[],[],[],[],[4],[4],[(4,99999)]⟩ (.c h3 (.c o8 (.c (show (Zjl w100000 v5.toNat (w100000.length-v5.toNat) Zaa.d).length=w100000.length from(Zxh _ _ _ _ o9)) (.c (show ∀i j,i<w100000.length→j<10→(i<v5.toNat∨v5.toNat+(w100000.length-v5.toNat)≤i)→Zao Zaa.c Zaa.d (Zjl w100000 v5.toNat (w100000.length-v5.toNat) Zaa.d) i j=Zao Zaa.c Zaa.d w100000 i j from(ZCP _ _ _ o9)) (.c (show ∀i j,i<(w100000.length-v5.toNat)→j<10→ZqK (([.lit (.bool false),.lit (.int .u64 (0)),.lit (.int .u64 (0)),.lit (.int .i64 (0)),.lit (.bool false),.lit (.int .i64 (0)),.lit (.int .i64 (0)),.lit (.int .i64 (0)),.lit (.int .i64 (0)),.lit (.int .i64 (0))]:List C).getD j .junk) (Zao Zaa.c Zaa.d (Zjl w100000 v5.toNat (w100000.length-v5.toNat) Zaa.d) (v5.toNat+i) j)from(ZCQ _ _ _ o9 (fun j hj=>.inl rfl))) (.c o10 (.c (show 0=0 from rfl) (.c (show ((Zjl w100000 v5.toNat (w100000.length-v5.toNat) Zaa.d).take v5.toNat).length=v5.toNat from(ZFi _ _ o11)) (.c (show ∀i j,i<v5.toNat→j<10→Zao Zaa.c Zaa.d ((Zjl w100000 v5.toNat (w100000.length-v5.toNat) Zaa.d).take v5.toNat) i j=Zao Zaa.c Zaa.d (Zjl w100000 v5.toNat (w100000.length-v5.toNat) Zaa.d) i j from(ZDu _ _)) .n))))))))) (by kernel_rfl)
def Zbp(a0:List Zaa)(a1_0:List Zag):Option (List Zaa):=(Zbt a0 a1_0).bind fun x1=>bif(x1==(-1:Int))then some a0 else ZaK a1_0 ((((a0.length:Nat):Int)-(Zaw x1 (1:Int))).toNat+2) x1 (Zaw x1 (1:Int)) a0
theorem ZgS(a0:List Zaa)(a1_0:List Zag)(r:List Zaa)(hf:Zbp a0 a1_0=some r):Zdn Tryz.prog 288 [(100000,.rows 44 10 a0.length (Zao Zaa.c Zaa.d a0))] [.one (.osl 100000 a0.length),.one (.clo (.func 289) 0 1 (fun i=>([]:List C).getD i .junk) (fun i=>([.rp false 1 (fun j=>([cL 4 Zag.c Zag.d a1_0]:List C).getD (0+j) .junk)]:List C).getD i .junk))] [(99999,.rows 44 10 r.length (Zao Zaa.c Zaa.d r))] (.one (.osl 99999 r.length)):=by
 refine Zdn.of Tryz.func288 rfl rfl rfl rfl fun S0 w0=>?_;unfold Zbp at hf;obtain⟨x1,q1,hf⟩:=Zaf hf;have O2:Obl _:=(.c (Zhf _ _ _ q1) .n);rcases Zah hf with⟨h2,hf⟩|⟨h2,hf⟩
 ·obtain rfl:=oi hf;exact Zcd Zak 10 [rz,rA [(2,aI x1)],rz,rz] [true] ⟨[],[],[],[],[],[4],[100000],[(100000,99999)]⟩ (O2.app (.c h2 .n)) (by kernel_rfl)
 ·exact ZaJ Zak Zca.ends 13 [rz,rA [(2,aI x1)],rz,rz] [false] ⟨[],[],[],[],[],[0,1,5,6],[100000],[]⟩ (O2.app (.c h2 .n)) (by kernel_rfl) (Zgy S0 w0 a1_0 ((((a0.length:Nat):Int)-(Zaw x1 (1:Int))).toNat+2) x1 (Zaw x1 (1:Int)) a0 r hf)
def ZiL(a0:List Zaa)(a1:List Zag):Option (List Zaa):=(Zce a0).bind fun x1=>(Zbp x1 a1).bind fun x2=>some x2
theorem Zrt(a0:List Zaa)(a1:List Zag)(r:List Zaa)(hf:ZiL a0 a1=some r):Zdn Tryz.prog 221 [] [.one (cL 10 Zaa.c Zaa.d a0),.one (cL 4 Zag.c Zag.d a1)] [(99999,.rows 44 10 r.length (Zao Zaa.c Zaa.d r))] (.one (.osl 99999 r.length)):=by
 refine Zdn.of Tryz.func221 rfl rfl rfl rfl fun S0 w0=>?_;unfold ZiL at hf;obtain⟨x1,q1,hf⟩:=Zaf hf;obtain⟨x2,q2,hf⟩:=Zaf hf;obtain rfl:=oi hf;exact Zcd Zak 4 [rz,⟨[],[],[(2,[3])],[],[],[],[(1,⟨[],[(99999,6)],[(99999,.rows 44 10 x1.length (Zao Zaa.c Zaa.d x1))],.one (.osl 99999 x1.length)⟩),(3,⟨[(100000,6)],[(99999,8)],[(99999,.rows 44 10 x2.length (Zao Zaa.c Zaa.d x2))],.one (.osl 99999 x2.length)⟩)]⟩] [] ⟨[],[],[],[],[],[4],[8],[(8,99999)]⟩ (.c (Zfs _ _ q1) (.c (ZgS _ _ _ q2) .n)) (by kernel_rfl)
theorem ZsP(a0:List Zaa)(a1:List Zag)(r:List Zaa)(hf:ZiL a0 a1=some r):Zaz Tryz.prog 221 [.one (cL 10 Zaa.c Zaa.d a0),.one (cL 4 Zag.c Zag.d a1)] (.one (cL 10 Zaa.c Zaa.d r)):=(Zrt a0 a1 r hf).pure
def ZcO(a0:List Zaa):Nat→(List Zaa)→Int→Int→(List Int)→Option (List Int)|0,_,_,_,_=>none|fu+1,v8,v9,v10,w5=>bif(decide (v10<v9))then need (0≤v10∧v10<((v8.length:Nat):Int))<|bif(decide (v10≥((a0.length:Nat):Int)))then need ((w5++([v10]:List Int)).length * 8≤140737488355328∧(w5++([v10]:List Int)).length≤maxLen)<|ZcO a0 fu v8 v9 (Zaw v10 (1:Int)) (w5++([v10]:List Int))else need (0≤v10∧v10<((a0.length:Nat):Int))<|bif(!(decide ((a0.getD v10.toNat Zaa.d)=(v8.getD v10.toNat Zaa.d))))then need ((w5++([v10]:List Int)).length * 8≤140737488355328∧(w5++([v10]:List Int)).length≤maxLen)<|ZcO a0 fu v8 v9 (Zaw v10 (1:Int)) (w5++([v10]:List Int))else ZcO a0 fu v8 v9 (Zaw v10 (1:Int)) w5 else some w5
theorem ZoV(S0:Nat→Prop)(w0:ZaW)(a0:List Zaa):∀(fu:Nat)(v8:List Zaa)(v9 v10:Int)(w5 r:List Int),ZcO a0 fu v8 v9 v10 w5=some r→Good Tryz.prog 33 S0 w0 (bodyPost Tryz.prog Tryz.f287 (Zca S0 w0 [(99999,.rows 3 1 r.length (Zao (cI .i64) (0:Int) r))] (.one (.osl 99999 r.length)))) (at_ [1,1,0,1,0] (Zbl Tryz.f287)) ⟨[(0,.one (cL 10 Zaa.c Zaa.d a0)),(5,.one (.osl 5 w5.length)),(8,.one (cL 10 Zaa.c Zaa.d v8)),(9,.one (.lit (.int .i64 v9))),(10,.one (.lit (.int .i64 v10)))],[(5,.rows 3 1 w5.length (Zao (cI .i64) (0:Int) w5))]⟩:=by
 intro fu;induction fu with
 |zero=>
  intro v8 v9 v10 w5 r hf;simp[ZcO]at hf
 |succ fu ih=>
  intro v8 v9 v10 w5 r hf;unfold ZcO at hf;rcases Zah hf with⟨h1,hf⟩|⟨h1,hf⟩
  ·obtain⟨o2,hf⟩:=Zar hf;rcases Zah hf with⟨h3,hf⟩|⟨h3,hf⟩
   ·obtain⟨o4,hf⟩:=Zar hf;exact ZaJ Zak Zca.ends 17 [rz,rz,rB [(4,true)],⟨[(3,.c ((w5++([v10]:List Int)).length) (Zao (cI .i64) (0:Int) (w5++([v10]:List Int))))],[],[],[],[],[(2,(([v10]:List Int).length,Zao (cI .i64) (0:Int) ([v10]:List Int)))],[]⟩,rz] [true,true] ⟨[],[],[],[],[],[0,5,8,9,10],[30],[(30,5)]⟩ (.c h1 (.c o2 (.c h3 (.c (show true=true from rfl) (.c (show ([v10]:List Int).length=1∧∀i j,i<1→j<1→Zao (cI .i64) (0:Int) ([v10]:List Int) i j=(([v10]:List Int).flatMap (cI .i64)).getD (i * 1+j) .junk from⟨rfl,fun i j hi hj=>ZaI (sz:=1) (e:=(cI .i64)) (d:=(0:Int)) (fun _=>rfl) ([v10]:List Int) i j hi hj⟩) (.c (ZbV (sz:=1) (e:=(cI .i64)) (d:=(0:Int)) w5 ([v10]:List Int)) (.c o4.1 (.c o4.2 .n)))))))) (by kernel_rfl) (ih v8 v9 (Zaw v10 (1:Int)) (w5++([v10]:List Int)) r hf)
   ·obtain⟨o5,hf⟩:=Zar hf
    let R1:List RA:=[rz,rz,⟨[(10,aB (!(decide ((a0.getD v10.toNat Zaa.d)=(v8.getD v10.toNat Zaa.d)))))],[(4,false)],[],[],[],[],[]⟩]
    have O2:Obl _:=(.c h1 (.c o2 (.c h3 (.c o5 (.c (Zpg (a0.getD v10.toNat Zaa.d) (v8.getD v10.toNat Zaa.d) (.tmp 23) (.tmp 24)) .n)))));rcases Zah hf with⟨h6,hf⟩|⟨h6,hf⟩
    ·obtain⟨o7,hf⟩:=Zar hf;exact ZaJ Zak Zca.ends 17 (R1++[⟨[(3,.c ((w5++([v10]:List Int)).length) (Zao (cI .i64) (0:Int) (w5++([v10]:List Int))))],[],[],[],[],[(2,(([v10]:List Int).length,Zao (cI .i64) (0:Int) ([v10]:List Int)))],[]⟩,rz]) [true,true] ⟨[],[],[],[],[],[0,5,8,9,10],[30],[(30,5)]⟩ (O2.app (.c h6 (.c (show ([v10]:List Int).length=1∧∀i j,i<1→j<1→Zao (cI .i64) (0:Int) ([v10]:List Int) i j=(([v10]:List Int).flatMap (cI .i64)).getD (i * 1+j) .junk from⟨rfl,fun i j hi hj=>ZaI (sz:=1) (e:=(cI .i64)) (d:=(0:Int)) (fun _=>rfl) ([v10]:List Int) i j hi hj⟩) (.c (ZbV (sz:=1) (e:=(cI .i64)) (d:=(0:Int)) w5 ([v10]:List Int)) (.c o7.1 (.c o7.2 .n)))))) (by kernel_rfl) (ih v8 v9 (Zaw v10 (1:Int)) (w5++([v10]:List Int)) r hf)
    ·exact ZaJ Zak Zca.ends 17 (R1++[rz]) [true,false] ⟨[],[],[],[],[],[0,5,8,9,10],[5],[]⟩ (O2.app (.c h6 .n)) (by kernel_rfl) (ih v8 v9 (Zaw v10 (1:Int)) w5 r hf)
  ·obtain rfl:=oi hf;exact Zcd Zak 8 [rz,rz] [false] ⟨[],[],[],[],[],[4],[5],[(5,99999)]⟩ (.c h1 .n) (by kernel_rfl)
def Zip(a0 a1:List Zaa):Option (List Int):=ZcO a0 ((((a1.length:Nat):Int)-(0:Int)).toNat+2) a1 ((a1.length:Nat):Int) (0:Int) ([])
theorem Zqe(a0 a1:List Zaa)(r:List Int)(hf:Zip a0 a1=some r):Zdn Tryz.prog 287 [] [.one (cL 10 Zaa.c Zaa.d a0),.one (cL 10 Zaa.c Zaa.d a1)] [(99999,.rows 3 1 r.length (Zao (cI .i64) (0:Int) r))] (.one (.osl 99999 r.length)):=by
 refine Zdn.of Tryz.func287 rfl rfl rfl rfl fun S0 w0=>?_;unfold Zip at hf;exact ZaJ Zak Zca.ends 8 [rz,rz,rz] [] ⟨[],[],[],[],[(5,5,3,1,Zao (cI .i64) (0:Int) [])],[0,5,8,9,10],[5],[]⟩ .n (by kernel_rfl) (ZoV S0 w0 a0 ((((a1.length:Nat):Int)-(0:Int)).toNat+2) a1 ((a1.length:Nat):Int) (0:Int) ([]) r hf)
theorem ZqV(a0 a1:List Zaa)(r:List Int)(hf:Zip a0 a1=some r):Zaz Tryz.prog 287 [.one (cL 10 Zaa.c Zaa.d a0),.one (cL 10 Zaa.c Zaa.d a1)] (.one (cL 1 (cI .i64) (0:Int) r)):=(Zqe a0 a1 r hf).pure
def ZdO(a0:Zan)(a1:Zav)(a2:Zae)(a3:Bool):Option (Tout Unit):=(Zcw a0 (ZaE.mk (6:Int) (0:Int) a1 (0:Int) (0:Int) a2 a3)).bind fun x1=>(match x1 with | .ret x1v x1g=>some (Tout.ret () x1g) | .pan x1o=>some (Tout.pan x1o) | .bad x1s=>some (Tout.bad x1s))
theorem ZbR(a0:Zan)(a1:Zav)(a2:Zae)(a3:Bool)(r:(Tout Unit))(hf:ZdO a0 a1 a2 a3=some r):ZfT Tryz.prog 467 [(100000,.box (Zan.c a0))] [.one (.ptr 100000 0),.agg (Zav.c a1),.agg (Zae.c a2),.one (.lit (.bool a3))] (oc (fun x=>.tup []) r):=by
 refine ZfT.of Tryz.func467 rfl rfl rfl rfl fun S0 w0=>?_;unfold ZdO at hf;obtain⟨x1,q1,hf⟩:=Zaf hf;cases x1 with
 |ret x1v x1g=>
  dsimp only at hf;obtain rfl:=oi hf;exact Zcc Zak 3 [rz,rH [] [(5,⟨[(100000,100000)],[],[(100000,.box (Zan.c x1g))],.agg (Zae.c x1v)⟩)]] [] ⟨[],[],[],[],[],[],[100000],[]⟩ [100000] (.c (ZbE _ _ _ q1) .n) (by kernel_rfl)
 |_=>
  dsimp only at hf;obtain rfl:=oi hf;exact ZaG Zak 2 _ _ [rz] [] (rz) 5 ⟨[(100000,100000)],pvOf q1⟩ (.c (ZbE _ _ _ q1) .n) (by kernel_rfl)
def ZeJ(a1:Int)(a2 a3:List Zaa):Nat→(List Int)→Int→Int→Zan→Option (Tout Unit)|0,_,_,_,_=>none|fu+1,v12,v13,v14,b100000=>bif(decide (v14<v13))then need (0≤v14∧v14<((v12.length:Nat):Int))<|(Zjy a1 (v12.getD v14.toNat (0:Int))).bind fun x2=>need (0≤(v12.getD v14.toNat (0:Int))∧(v12.getD v14.toNat (0:Int))<((a3.length:Nat):Int))<|(ZdO b100000 x2 (Zae.mk (0:Int) (a3.getD (v12.getD v14.toNat (0:Int)).toNat Zaa.d) ([]:(List Zab)) ([]:(List Zac))) false).bind fun x3=>(match x3 with | .ret x3v x3g=>ZeJ a1 a2 a3 fu v12 v13 (Zaw v14 (1:Int)) x3g | .pan x3o=>some (Tout.pan x3o) | .bad x3s=>some (Tout.bad x3s))else bif(((a2.length:Nat):Int) != ((a3.length:Nat):Int))then(Zjz a1).bind fun x4=>(ZdO b100000 x4 (Zae.mk ((a3.length:Nat):Int) (Zaa.mk (Zag.mk (Zaj.mk false (0:Int) (0:Int)) (0:Int)) false (0:Int) (Zam.mk (0:Int) (0:Int)) (0:Int) (0:Int)) ([]:(List Zab)) ([]:(List Zac))) false).bind fun x5=>(match x5 with | .ret x5v x5g=>some (Tout.ret () x5g) | .pan x5o=>some (Tout.pan x5o) | .bad x5s=>some (Tout.bad x5s))else some (Tout.ret () b100000)
theorem Zqd(S0:Nat→Prop)(w0:ZaW)(a1:Int)(a2 a3:List Zaa):∀(fu:Nat)(v12:List Int)(v13 v14:Int)(b100000:Zan)(r:(Tout Unit)),ZeJ a1 a2 a3 fu v12 v13 v14 b100000=some r→Good Tryz.prog 47 S0 w0 (bodyPost Tryz.prog Tryz.f220 (ZpG S0 w0 (oc (fun x=>.tup []) r))) (at_ [0,1,0] (Zbl Tryz.f220)) ⟨[(0,.one (.ifc 112 (.ptr 100000 0))),(1,.one (.lit (.int .i64 a1))),(2,.one (cL 10 Zaa.c Zaa.d a2)),(3,.one (cL 10 Zaa.c Zaa.d a3)),(12,.one (cL 1 (cI .i64) (0:Int) v12)),(13,.one (.lit (.int .i64 v13))),(14,.one (.lit (.int .i64 v14)))],[(100000,.box [cLn 13 Zae.c Zae.d b100000.fgot])]⟩:=by
 intro fu;induction fu with
 |zero=>
  intro v12 v13 v14 b100000 r hf;simp[ZeJ]at hf
 |succ fu ih=>
  intro v12 v13 v14 b100000 r hf;unfold ZeJ at hf;rcases Zah hf with⟨h2,hf⟩|⟨h2,hf⟩
  ·obtain⟨o3,hf⟩:=Zar hf;obtain⟨x2,q4,hf⟩:=Zaf hf;obtain⟨o5,hf⟩:=Zar hf;have O1:Obl _:=(.c h2 (.c o3 (.c (Zph _ _ _ q4) (.c o5 (.c ZmW .n)))));obtain⟨x3,q6,hf⟩:=Zaf hf;cases x3 with
   |ret x3v x3g=>
    dsimp only at hf;exact ZaJ Zak ZpG.ends 14 [rz,rz,⟨[(3,aG (Zav.c x2)),(12,.id 467)],[],[],[],[(8,[(11,cL 5 Zab.c Zab.d []),(12,cL 7 Zac.c Zac.d [])])],[],[(12,⟨[(100000,100000)],[],[(100000,.box (Zan.c x3g))],.tup []⟩)]⟩,rz] [true] ⟨[],[],[],[],[],[0,1,2,3,12,13,14],[100000],[]⟩ (O1.app (.c (ZbR _ _ _ _ _ q6) (.c Zhr .n))) (by kernel_rfl) (ih v12 v13 (Zaw v14 (1:Int)) x3g r hf)
   |_=>
    dsimp only at hf;obtain rfl:=oi hf;exact ZaG Zak 10 _ _ [rz,rz] [true] (⟨[(3,aG (Zav.c x2)),(12,.id 467)],[],[],[],[(8,[(11,cL 5 Zab.c Zab.d []),(12,cL 7 Zac.c Zac.d [])])],[],[]⟩) 12 ⟨[(100000,100000)],pvOf q6⟩ (O1.app (.c (ZbR _ _ _ _ _ q6) (.c Zhr .n))) (by kernel_rfl)
  ·rcases Zah hf with⟨h7,hf⟩|⟨h7,hf⟩
   ·obtain⟨x4,q8,hf⟩:=Zaf hf;have O2:Obl _:=(.c h2 (.c h7 (.c (Zpi _ _ q8) (.c ZmW .n))));obtain⟨x5,q9,hf⟩:=Zaf hf;cases x5 with
    |ret x5v x5g=>
     dsimp only at hf;obtain rfl:=oi hf;exact Zcc Zak 10 [rz,rz,⟨[(2,aG (Zav.c x4)),(9,.id 467)],[],[],[],[(5,[(11,cL 5 Zab.c Zab.d []),(12,cL 7 Zac.c Zac.d [])])],[],[(9,⟨[(100000,100000)],[],[(100000,.box (Zan.c x5g))],.tup []⟩)]⟩] [false,true] ⟨[],[],[],[],[],[],[100000],[]⟩ [100000] (O2.app (.c (ZbR _ _ _ _ _ q9) (.c Zhr .n))) (by kernel_rfl)
    |_=>
     dsimp only at hf;obtain rfl:=oi hf;exact ZaG Zak 9 _ _ [rz,rz] [false,true] (⟨[(2,aG (Zav.c x4)),(9,.id 467)],[],[],[],[(5,[(11,cL 5 Zab.c Zab.d []),(12,cL 7 Zac.c Zac.d [])])],[],[]⟩) 9 ⟨[(100000,100000)],pvOf q9⟩ (O2.app (.c (ZbR _ _ _ _ _ q9) (.c Zhr .n))) (by kernel_rfl)
   ·obtain rfl:=oi hf;exact Zcc Zak 10 [rz,rz] [false,false] ⟨[],[],[],[],[],[],[100000],[]⟩ [100000] (.c h2 (.c h7 .n)) (by kernel_rfl)
def ZjU(a0:Zan)(a1:Int)(a2 a3:List Zaa):Option (Tout Unit):=(Zip a2 a3).bind fun x1=>ZeJ a1 a2 a3 ((((x1.length:Nat):Int)-(0:Int)).toNat+2) x1 ((x1.length:Nat):Int) (0:Int) a0
theorem ZnC(a0:Zan)(a1:Int)(a2 a3:List Zaa)(r:(Tout Unit))(hf:ZjU a0 a1 a2 a3=some r):ZfT Tryz.prog 220 [(100000,.box (Zan.c a0))] [.one (.ifc 112 (.ptr 100000 0)),.one (.lit (.int .i64 a1)),.one (cL 10 Zaa.c Zaa.d a2),.one (cL 10 Zaa.c Zaa.d a3)] (oc (fun x=>.tup []) r):=by
 refine ZfT.of Tryz.func220 rfl rfl rfl rfl fun S0 w0=>?_;unfold ZjU at hf;obtain⟨x1,q1,hf⟩:=Zaf hf;exact ZaJ Zak ZpG.ends 4 [rA [(2,.r (.one (cL 1 (cI .i64) (0:Int) x1)) [])]] [] ⟨[],[],[],[],[],[0,1,2,3,12,13,14],[100000],[]⟩ (.c (ZqV _ _ _ q1) .n) (by kernel_rfl) (Zqd S0 w0 a1 a2 a3 ((((x1.length:Nat):Int)-(0:Int)).toNat+2) x1 ((x1.length:Nat):Int) (0:Int) a0 r hf)
def ZdZ(a0:Zax)(a1:Zan)(a2:List Zaa)(a3:List Zag):Option (Tout Unit):=(ZdQ a0).bind fun x1=>(ZiL a2 a3).bind fun x2=>(ZjU a1 x1 a2 x2).bind fun x3=>(match x3 with | .ret x3v x3g=>some (Tout.ret () x3g) | .pan x3o=>some (Tout.pan x3o) | .bad x3s=>some (Tout.bad x3s))
theorem ZcV(a0:Zax)(a1:Zan)(a2:List Zaa)(a3:List Zag)(r:(Tout Unit))(hf:ZdZ a0 a1 a2 a3=some r):ZfT Tryz.prog 139 [(100000,.box (Zan.c a1))] [.agg (Zax.c a0),.one (.ifc 112 (.ptr 100000 0)),.one (cL 10 Zaa.c Zaa.d a2),.one (cL 4 Zag.c Zag.d a3)] (oc (fun x=>.tup []) r):=by
 refine ZfT.of Tryz.func139 rfl rfl rfl rfl fun S0 w0=>?_;unfold ZdZ at hf;obtain⟨x1,q1,hf⟩:=Zaf hf;obtain⟨x2,q2,hf⟩:=Zaf hf;have O1:Obl _:=(.c (ZgH _ _ q1) (.c (ZsP _ _ _ q2) .n));obtain⟨x3,q3,hf⟩:=Zaf hf;cases x3 with
 |ret x3v x3g=>
  dsimp only at hf;obtain rfl:=oi hf;exact Zcc Zak 3 [rz,rH [(2,aI x1),(6,.r (.one (cL 10 Zaa.c Zaa.d x2)) [])] [(7,⟨[(100000,100000)],[],[(100000,.box (Zan.c x3g))],.tup []⟩)]] [] ⟨[],[],[],[],[],[],[100000],[]⟩ [100000] (O1.app (.c (ZnC _ _ _ _ _ q3) .n)) (by kernel_rfl)
 |_=>
  dsimp only at hf;obtain rfl:=oi hf;exact ZaG Zak 2 _ _ [rz] [] (rA [(2,aI x1),(6,.r (.one (cL 10 Zaa.c Zaa.d x2)) [])]) 7 ⟨[(100000,100000)],pvOf q3⟩ (O1.app (.c (ZnC _ _ _ _ _ q3) .n)) (by kernel_rfl)
def Zix(a0:Zan)(a1:Zav)(a2 a3:Int)(a4:Bool):Option (Tout Bool):=(Zcw a0 (ZaE.mk (7:Int) (0:Int) a1 a2 a3 (Zae.mk (0:Int) (Zaa.mk (Zag.mk (Zaj.mk false (0:Int) (0:Int)) (0:Int)) false (0:Int) (Zam.mk (0:Int) (0:Int)) (0:Int) (0:Int)) ([]:(List Zab)) ([]:(List Zac))) a4)).bind fun x1=>(match x1 with | .ret x1v x1g=>some (Tout.ret (x1v.fN==(1:Int)) x1g) | .pan x1o=>some (Tout.pan x1o) | .bad x1s=>some (Tout.bad x1s))
theorem Zkm(a0:Zan)(a1:Zav)(a2 a3:Int)(a4:Bool)(r:(Tout Bool))(hf:Zix a0 a1 a2 a3 a4=some r):ZfT Tryz.prog 468 [(100000,.box (Zan.c a0))] [.one (.ptr 100000 0),.agg (Zav.c a1),.one (.lit (.int .i64 a2)),.one (.lit (.int .i64 a3)),.one (.lit (.bool a4))] (oc (fun x=>.one (.lit (.bool x))) r):=by
 refine ZfT.of Tryz.func468 rfl rfl rfl rfl fun S0 w0=>?_;unfold Zix at hf;obtain⟨x1,q1,hf⟩:=Zaf hf;cases x1 with
 |ret x1v x1g=>
  dsimp only at hf;obtain rfl:=oi hf;exact Zcc Zak 4 [rz,⟨[],[],[],[],[(5,[(18,cL 5 Zab.c Zab.d []),(19,cL 7 Zac.c Zac.d [])])],[],[(6,⟨[(100000,100000)],[],[(100000,.box (Zan.c x1g))],.agg (Zae.c x1v)⟩)]⟩] [] ⟨[],[],[],[],[],[10],[100000],[]⟩ [100000] (.c (ZbE _ _ _ q1) .n) (by kernel_rfl)
 |_=>
  dsimp only at hf;obtain rfl:=oi hf;exact ZaG Zak 3 _ _ [rz] [] (⟨[],[],[],[],[(5,[(18,cL 5 Zab.c Zab.d []),(19,cL 7 Zac.c Zac.d [])])],[],[]⟩) 6 ⟨[(100000,100000)],pvOf q1⟩ (.c (ZbE _ _ _ q1) .n) (by kernel_rfl)
def Zgx(a2:Int)(a3:Bool):Nat→Zan→Zav→Option (Tout Unit)|0,_,_=>none|fu+1,b100000,b8=>(Zel b100000 b8 false).bind fun x1=>(match x1 with | .ret x1v x1g=>(Zix x1g b8 x1v.fN (Zaw x1v.fN a2) a3).bind fun x2=>(match x2 with | .ret x2v x2g=>bif x2v then some (Tout.ret () x2g)else Zgx a2 a3 fu x2g b8 | .pan x2o=>some (Tout.pan x2o) | .bad x2s=>some (Tout.bad x2s)) | .pan x1o=>some (Tout.pan x1o) | .bad x1s=>some (Tout.bad x1s))
theorem ZqT(S0:Nat→Prop)(w0:ZaW)(a2:Int)(a3:Bool):∀(fu:Nat)(b100000:Zan)(b8:Zav)(r:(Tout Unit)),Zgx a2 a3 fu b100000 b8=some r→Good Tryz.prog 24 S0 w0 (bodyPost Tryz.prog Tryz.f140 (ZpG S0 w0 (oc (fun x=>.tup []) r))) (at_ [1,0] (Zbl Tryz.f140)) ⟨[(0,.one (.ifc 112 (.ptr 100000 0))),(2,.one (.lit (.int .i64 a2))),(3,.one (.lit (.bool a3))),(8,.one (.ptr 8 0))],[(100000,.box [cLn 13 Zae.c Zae.d b100000.fgot]),(8,.box [.lit (.int .i64 b8.fKind),.lit (.int .i64 b8.fShard),.lit (.int .i64 b8.fSlot)])]⟩:=by
 intro fu;induction fu with
 |zero=>
  intro b100000 b8 r hf;simp[Zgx]at hf
 |succ fu ih=>
  intro b100000 b8 r hf;unfold Zgx at hf;obtain⟨x1,q1,hf⟩:=Zaf hf;cases x1 with
  |ret x1v x1g=>
   dsimp only at hf
   let R1:List RA:=[rH [(2,.id 463)] [(2,⟨[(100000,100000)],[],[(100000,.box (Zan.c x1g))],.agg (Zae.c x1v)⟩)]]
   have O2:Obl _:=(.c (ZbY _ _ _ _ q1) (.c Zik .n));obtain⟨x2,q2,hf⟩:=Zaf hf;cases x2 with
   |ret x2v x2g=>
    dsimp only at hf
    let R3:List RA:=(R1++[rH [(7,.id 468)] [(7,⟨[(100000,100000)],[],[(100000,.box (Zan.c x2g))],.one (.lit (.bool x2v))⟩)]])
    have O4:Obl _:=(O2.app (.c (Zkm _ _ _ _ _ _ q2) (.c ZwA .n)));rcases Zah hf with⟨h3,hf⟩|⟨h3,hf⟩
    ·obtain rfl:=oi hf;exact Zcc Zak 7 R3 [true] ⟨[],[],[],[],[],[],[100000],[]⟩ [100000] (O4.app (.c h3 .n)) (by kernel_rfl)
    ·exact ZaJ Zak ZpG.ends 10 R3 [false] ⟨[],[],[],[],[],[0,2,3,8],[100000,8],[]⟩ (O4.app (.c h3 .n)) (by kernel_rfl) (ih x2g b8 r hf)
   |_=>
    dsimp only at hf;obtain rfl:=oi hf;exact ZaG Zak 5 _ _ R1 [] (rA [(7,.id 468)]) 7 ⟨[(100000,100000)],pvOf q2⟩ (O2.app (.c (Zkm _ _ _ _ _ _ q2) (.c ZwA .n))) (by kernel_rfl)
  |_=>
   dsimp only at hf;obtain rfl:=oi hf;exact ZaG Zak 3 _ _ [] [] (rA [(2,.id 463)]) 2 ⟨[(100000,100000)],pvOf q1⟩ (.c (ZbY _ _ _ _ q1) (.c Zik .n)) (by kernel_rfl)
def Zhe(a0:Zan)(a1 a2:Int)(a3:Bool):Option (Tout Unit):=Zgx a2 a3 1000000 a0 (Zav.mk a1 (0:Int) (0:Int))
theorem ZdE(a0:Zan)(a1 a2:Int)(a3:Bool)(r:(Tout Unit))(hf:Zhe a0 a1 a2 a3=some r):ZfT Tryz.prog 140 [(100000,.box (Zan.c a0))] [.one (.ifc 112 (.ptr 100000 0)),.one (.lit (.int .i64 a1)),.one (.lit (.int .i64 a2)),.one (.lit (.bool a3))] (oc (fun x=>.tup []) r):=by
 refine ZfT.of Tryz.func140 rfl rfl rfl rfl fun S0 w0=>?_;unfold Zhe at hf;exact ZaJ Zak ZpG.ends 3 [rz] [] ⟨[],[],[],[],[],[0,2,3,8],[100000,8],[]⟩ .n (by kernel_rfl) (ZqT S0 w0 a2 a3 1000000 a0 (Zav.mk a1 (0:Int) (0:Int)) r hf)
def ZbS(a0:List Zac):Option (List Zac):=need (0<a0.length)<|need ((([]:List Zac)++a0).length * 56≤140737488355328∧(([]:List Zac)++a0).length≤maxLen)<|some (([]:List Zac)++a0)
theorem ZeO(a0 r:List Zac)(hf:ZbS a0=some r):Zdn Tryz.prog 277 [] [.one (cL 7 Zac.c Zac.d a0)] [(99999,.rows 106 7 r.length (Zao Zac.c Zac.d r))] (.one (.osl 99999 r.length)):=by
 refine Zdn.of Tryz.func277 rfl rfl rfl rfl fun S0 w0=>?_;unfold ZbS at hf;obtain⟨o1,hf⟩:=Zar hf;obtain⟨o2,hf⟩:=Zar hf;obtain rfl:=oi hf;exact Zcd Zak 9 [rz,rz,rA [(0,.c ([]:List Zac).length (Zao Zac.c Zac.d ([]:List Zac))),(2,.c ((([]:List Zac)++a0).length) (Zao Zac.c Zac.d (([]:List Zac)++a0)))]] [false] ⟨[],[],[],[],[],[2],[7],[(7,99999)]⟩ (.c o1 (.c (show false=false from rfl) (.c (show ([]:List Zac).length=0 from rfl) (.c (show ∀i j,i<0→j<7→Zao Zac.c Zac.d ([]:List Zac) i j=(([]:List Zac).flatMap Zac.c).getD (i * 7+j) .junk from(fun i j hi hj=>ZaI (sz:=7) (e:=Zac.c) (d:=Zac.d) (fun _=>rfl) ([]:List Zac) i j hi hj)) (.c (ZbV (sz:=7) (e:=Zac.c) (d:=Zac.d) ([]:List Zac) a0) (.c o2.1 (.c o2.2 .n))))))) (by kernel_rfl)
theorem ZeX(x:Addr)(cap:Nat)(c:Nat→Nat→C):Zdn Tryz.prog 277 [] [.one (.lit (.slice (some x) 0 cap))] [(99999,.rows 106 7 0 c)] (.one (.osl 99999 0)):=by
 refine Zdn.of Tryz.func277 rfl rfl rfl rfl fun S0 w0=>?_;exact ZiC Zak 9 _ _ [⟨[],[],[],[],[],[],[]⟩,⟨[(1,.r (.one (.lit (.bool false))) [])],[],[],[],[],[],[]⟩,⟨[(0,.c 0 c),(2,.c 0 c)],[],[],[],[],[],[]⟩] [false] ⟨[],[],[],[],[],[2],[7],[(7,99999)]⟩
  [∀w,(do eqGuard .eql 46 (.tmp 3) (.const (.slice none 0 0)) (.slice (some x) 0 cap) (.slice none 0 0);binOp .eql 46 (.slice (some x) 0 cap) (.slice none 0 0):Sem Value).run Tryz.prog w=.ok (.bool false) w,false=false,0=0,∀i j,i<0→j<7→c i j=([]:List C).getD (i * 7+j) .junk,Ext 7 0 0 c (fun _ _=>.junk) 0 c,0 * 56≤140737488355328,0≤maxLen] (by kernel_rfl) ⟨fun w=>by
   have hg:(eqGuard .eql 46 (.tmp 3) (.const (.slice none 0 0)) (.slice (some x) 0 cap) (.slice none 0 0)).run Tryz.prog w=.ok () w:=by simp[eqGuard]
   rw[Sem.run_bind,hg,Result.andThen_ok];exact Go.run_eql_slice_nil w _ _ (some x) 0 cap Tryz.underlying46,rfl,rfl,fun i j h=>absurd h (Nat.not_lt_zero i),⟨rfl,fun _ _ h=>absurd h (Nat.not_lt_zero _),fun _ _ h=>absurd h (Nat.not_lt_zero _)⟩,by decide,by decide,trivial⟩
theorem ZeW(cap:Nat)(c:Nat→Nat→C):Zdn Tryz.prog 277 [] [.one (.lit (.slice none 0 cap))] [(99999,.rows 106 7 0 c)] (.one (.osl 99999 0)):=by
 refine Zdn.of Tryz.func277 rfl rfl rfl rfl fun S0 w0=>?_;exact ZiC Zak 8 _ _ [⟨[],[],[],[],[],[],[]⟩,⟨[(1,.r (.one (.lit (.bool true))) [])],[],[],[],[],[],[]⟩,⟨[],[],[],[],[],[],[]⟩] [true] ⟨[],[],[],[],[(2,99999,106,7,c)],[2],[99999],[]⟩
  [∀w,(do eqGuard .eql 46 (.tmp 3) (.const (.slice none 0 0)) (.slice none 0 cap) (.slice none 0 0);binOp .eql 46 (.slice none 0 cap) (.slice none 0 0):Sem Value).run Tryz.prog w=.ok (.bool true) w,true=true] (by kernel_rfl) ⟨fun w=>by
   have hg:(eqGuard .eql 46 (.tmp 3) (.const (.slice none 0 0)) (.slice none 0 cap) (.slice none 0 0)).run Tryz.prog w=.ok () w:=by simp[eqGuard]
   rw[Sem.run_bind,hg,Result.andThen_ok];exact Go.run_eql_slice_nil w _ _ none 0 cap Tryz.underlying46,rfl,trivial⟩
def Zbn(a0:List Zac):Option (List Zac):=need (a0.length * 56≤140737488355328∧a0.length≤maxLen)<|some a0
theorem ZeV(a0 r:List Zac)(hf:Zbn a0=some r):Zdn Tryz.prog 277 [] [.one (cL 7 Zac.c Zac.d a0)] [(99999,.rows 106 7 r.length (Zao Zac.c Zac.d r))] (.one (.osl 99999 r.length)):=by
 obtain⟨o1,hf⟩:=Zar hf;cases hf;refine ZpF ⟨_,Tryz.func277,rfl,rfl⟩ (fun h cap=>?_) (fun h x cap=>?_) (fun h=>?_)
 ·rw[h];exact ZeW cap _
 ·rw[h];exact ZeX x cap _
 ·refine ZeO a0 a0 ?_;unfold ZbS;rw[ZoI h,ZoI (by simpa using o1)];simp
def ZlG(a0:Zac):Option Zac:=some (Zac.mk a0.fEnd (1:Int) a0.fFails a0.fNext)
theorem ZsS(a0 r:Zac)(hf:ZlG a0=some r):Zaz Tryz.prog 268 [.agg (Zac.c a0)] (.agg (Zac.c r)):=by
 refine Zaz.of Tryz.func268 rfl rfl rfl rfl fun S0 w0=>?_;unfold ZlG at hf;obtain rfl:=oi hf;exact Zai Zak 6 [rz,rz,rz] [] [] [] [] .n (by kernel_rfl) rfl
def ZdU(a1:List Zag):Nat→Int→Int→(List Zac)→Option (List Zac)|0,_,_,_=>none|fu+1,v11,v12,w9=>bif(decide (v12<v11))then need (0≤v12∧v12<((w9.length:Nat):Int))<|bif((w9.getD v12.toNat Zac.d).fState==(3:Int))then(ZbB a1 ((w9.getD v12.toNat Zac.d).fEnd)).bind fun x2=>bif x2 then(ZlG (w9.getD v12.toNat Zac.d)).bind fun x3=>ZdU a1 fu v11 (Zaw v12 (1:Int)) (w9.set v12.toNat x3)else ZdU a1 fu v11 (Zaw v12 (1:Int)) w9 else ZdU a1 fu v11 (Zaw v12 (1:Int)) w9 else some w9
theorem ZqX(S0:Nat→Prop)(w0:ZaW)(a1:List Zag):∀(fu:Nat)(v11 v12:Int)(w9 r:List Zac),ZdU a1 fu v11 v12 w9=some r→Good Tryz.prog 33 S0 w0 (bodyPost Tryz.prog Tryz.f291 (Zca S0 w0 [(99999,.rows 106 7 r.length (Zao Zac.c Zac.d r))] (.one (.osl 99999 r.length)))) (at_ [1,1,0,1,0] (Zbl Tryz.f291)) ⟨[(1,.one (cL 4 Zag.c Zag.d a1)),(5,.one (.osl 9 w9.length)),(10,.one (.osl 9 w9.length)),(11,.one (.lit (.int .i64 v11))),(12,.one (.lit (.int .i64 v12)))],[(9,.rows 106 7 w9.length (Zao Zac.c Zac.d w9))]⟩:=by
 intro fu;induction fu with
 |zero=>
  intro v11 v12 w9 r hf;simp[ZdU]at hf
 |succ fu ih=>
  intro v11 v12 w9 r hf;unfold ZdU at hf;rcases Zah hf with⟨h2,hf⟩|⟨h2,hf⟩
  ·obtain⟨o3,hf⟩:=Zar hf;have O1:Obl _:=(.c h2 (.c o3 (.c (show v12.toNat<w9.length from(ltOf o3)) .n)));rcases Zah hf with⟨h4,hf⟩|⟨h4,hf⟩
   ·obtain⟨x2,q5,hf⟩:=Zaf hf
    let R2:List RA:=[rz,rz,⟨[(7,aB x2)],[(3,true)],[],[],[],[],[]⟩]
    have O3:Obl _:=(O1.app (.c h4 (.c (Zfo _ _ _ q5) .n)));rcases Zah hf with⟨h6,hf⟩|⟨h6,hf⟩
    ·obtain⟨x3,q7,hf⟩:=Zaf hf;exact ZaJ Zak Zca.ends 17 (R2++[rA [(3,aG (Zac.c x3)),(5,.c (w9.set v12.toNat x3).length (Zao Zac.c Zac.d (w9.set v12.toNat x3)))],rz]) [true,true] ⟨[],[],[],[(9,((w9.set v12.toNat x3).length))],[],[1,5,10,11,12],[9],[]⟩ (O3.app (.c h6 (.c (ZsS _ _ q7) (.c o3 (.c (show (w9.set v12.toNat x3).length=w9.length from List.length_set) (.c (show v12.toNat<w9.length from(ltOf o3)) (.c (show ExtU 7 w9.length (Zao Zac.c Zac.d w9) v12.toNat 0 (Zac.c x3) (Zao Zac.c Zac.d (w9.set v12.toNat x3))from(Zmc _ _ _ rfl)) (.c (show (w9.set v12.toNat x3).length=(w9.set v12.toNat x3).length from rfl) .n)))))))) (by kernel_rfl) (ih v11 (Zaw v12 (1:Int)) (w9.set v12.toNat x3) r hf)
    ·exact ZaJ Zak Zca.ends 17 (R2++[rz]) [true,false] ⟨[],[],[],[],[],[1,5,10,11,12],[9],[]⟩ (O3.app (.c h6 .n)) (by kernel_rfl) (ih v11 (Zaw v12 (1:Int)) w9 r hf)
   ·exact ZaJ Zak Zca.ends 17 [rz,rz,rB [(3,false)],rz] [true,false] ⟨[],[],[],[],[],[1,5,10,11,12],[9],[]⟩ (O1.app (.c h4 (.c (show false=false from rfl) .n))) (by kernel_rfl) (ih v11 (Zaw v12 (1:Int)) w9 r hf)
  ·obtain rfl:=oi hf;exact Zcd Zak 8 [rz,rz] [false] ⟨[],[],[],[],[],[4],[9],[(9,99999)]⟩ (.c h2 .n) (by kernel_rfl)
def ZjG(a0:List Zac)(a1:List Zag):Option (List Zac):=(Zbn a0).bind fun x1=>ZdU a1 ((((x1.length:Nat):Int)-(0:Int)).toNat+2) ((x1.length:Nat):Int) (0:Int) x1
theorem ZsX(a0:List Zac)(a1:List Zag)(r:List Zac)(hf:ZjG a0 a1=some r):Zdn Tryz.prog 291 [] [.one (cL 7 Zac.c Zac.d a0),.one (cL 4 Zag.c Zag.d a1)] [(99999,.rows 106 7 r.length (Zao Zac.c Zac.d r))] (.one (.osl 99999 r.length)):=by
 refine Zdn.of Tryz.func291 rfl rfl rfl rfl fun S0 w0=>?_;unfold ZjG at hf;obtain⟨x1,q1,hf⟩:=Zaf hf;exact ZaJ Zak Zca.ends 8 [rz,rH [] [(1,⟨[],[(99999,9)],[(99999,.rows 106 7 x1.length (Zao Zac.c Zac.d x1))],.one (.osl 99999 x1.length)⟩)],rz] [] ⟨[],[],[],[],[],[1,5,10,11,12],[9],[]⟩ (.c (ZeV _ _ q1) .n) (by kernel_rfl) (ZqX S0 w0 a1 ((((x1.length:Nat):Int)-(0:Int)).toNat+2) ((x1.length:Nat):Int) (0:Int) x1 r hf)
theorem ZtQ(a0:List Zac)(a1:List Zag)(r:List Zac)(hf:ZjG a0 a1=some r):Zaz Tryz.prog 291 [.one (cL 7 Zac.c Zac.d a0),.one (cL 4 Zag.c Zag.d a1)] (.one (cL 7 Zac.c Zac.d r)):=(ZsX a0 a1 r hf).pure
def ZhU(a0:Zan)(a1:List Zag):Option (Tout Unit):=(Zel a0 (Zav.mk (4:Int) (0:Int) (0:Int)) false).bind fun x1=>(match x1 with | .ret x1v x1g=>(ZjG x1v.fBook a1).bind fun x2=>(ZdO x1g (Zav.mk (4:Int) (0:Int) (0:Int)) (Zae.mk (0:Int) (Zaa.mk (Zag.mk (Zaj.mk false (0:Int) (0:Int)) (0:Int)) false (0:Int) (Zam.mk (0:Int) (0:Int)) (0:Int) (0:Int)) ([]:(List Zab)) x2) false).bind fun x3=>(match x3 with | .ret x3v x3g=>some (Tout.ret () x3g) | .pan x3o=>some (Tout.pan x3o) | .bad x3s=>some (Tout.bad x3s)) | .pan x1o=>some (Tout.pan x1o) | .bad x1s=>some (Tout.bad x1s))
theorem Zfw(a0:Zan)(a1:List Zag)(r:(Tout Unit))(hf:ZhU a0 a1=some r):ZfT Tryz.prog 222 [(100000,.box (Zan.c a0))] [.one (.ifc 112 (.ptr 100000 0)),.one (cL 4 Zag.c Zag.d a1)] (oc (fun x=>.tup []) r):=by
 refine ZfT.of Tryz.func222 rfl rfl rfl rfl fun S0 w0=>?_;unfold ZhU at hf;obtain⟨x1,q1,hf⟩:=Zaf hf;cases x1 with
 |ret x1v x1g=>
  dsimp only at hf;obtain⟨x2,q2,hf⟩:=Zaf hf
  let R1:List RA:=[rz,rH [(2,.id 463)] [(2,⟨[(100000,100000)],[],[(100000,.box (Zan.c x1g))],.agg (Zae.c x1v)⟩)]]
  have O2:Obl _:=(.c (ZbY _ _ _ _ q1) (.c Zik (.c (ZtQ _ _ _ q2) (.c ZmW .n))));obtain⟨x3,q3,hf⟩:=Zaf hf;cases x3 with
  |ret x3v x3g=>
   dsimp only at hf;obtain rfl:=oi hf;exact Zcc Zak 5 (R1++[⟨[(4,.r (.one (cL 7 Zac.c Zac.d x2)) []),(9,.id 467)],[],[],[],[(5,[(11,cL 5 Zab.c Zab.d [])])],[],[(9,⟨[(100000,100000)],[],[(100000,.box (Zan.c x3g))],.tup []⟩)]⟩]) [] ⟨[],[],[],[],[],[],[100000],[]⟩ [100000] (O2.app (.c (ZbR _ _ _ _ _ q3) (.c Zhr .n))) (by kernel_rfl)
  |_=>
   dsimp only at hf;obtain rfl:=oi hf;exact ZaG Zak 4 _ _ R1 [] (⟨[(4,.r (.one (cL 7 Zac.c Zac.d x2)) []),(9,.id 467)],[],[],[],[(5,[(11,cL 5 Zab.c Zab.d [])])],[],[]⟩) 9 ⟨[(100000,100000)],pvOf q3⟩ (O2.app (.c (ZbR _ _ _ _ _ q3) (.c Zhr .n))) (by kernel_rfl)
 |_=>
  dsimp only at hf;obtain rfl:=oi hf;exact ZaG Zak 3 _ _ [rz] [] (rA [(2,.id 463)]) 2 ⟨[(100000,100000)],pvOf q1⟩ (.c (ZbY _ _ _ _ q1) (.c Zik .n)) (by kernel_rfl)
def Zge(a0:Zax)(a1:Zan):Option (Tout Zaq):=(Zdl a0 a1).bind fun x1=>(match x1 with | .ret x1v x1g=>bif(decide (x1v.2<(0:Int)))then(Zbd a0).bind fun x2=>(Zbb x1g x2 true).bind fun x3=>(match x3 with | .ret x3v x3g=>(ZdY (6:Int)).bind fun x4=>some (Tout.ret x4 x3g) | .pan x3o=>some (Tout.pan x3o) | .bad x3s=>some (Tout.bad x3s))else(ZdZ a0 x1g x1v.1 ([a0.fx.fEnd]:List Zag)).bind fun x5=>(match x5 with | .ret x5v x5g=>need (0≤x1v.2∧x1v.2<((x1v.1.length:Nat):Int))<|bif(x1v.1.getD x1v.2.toNat Zaa.d).fIn then(Zhe x5g (1:Int) (-1:Int) true).bind fun x6=>(match x6 with | .ret x6v x6g=>(Zbd a0).bind fun x7=>(Zbb x6g x7 false).bind fun x8=>(match x8 with | .ret x8v x8g=>some (Tout.ret (Zaq.mk (0:Int) (Zag.mk (Zaj.mk false (0:Int) (0:Int)) (0:Int)) (0:Int) (0:Int) ([]:(List Zaa))) x8g) | .pan x8o=>some (Tout.pan x8o) | .bad x8s=>some (Tout.bad x8s)) | .pan x6o=>some (Tout.pan x6o) | .bad x6s=>some (Tout.bad x6s))else(ZhU x5g ([a0.fx.fEnd]:List Zag)).bind fun x9=>(match x9 with | .ret x9v x9g=>(Zhe x9g (2:Int) (-1:Int) true).bind fun x10=>(match x10 with | .ret x10v x10g=>(Zbd a0).bind fun x11=>(Zbb x10g x11 false).bind fun x12=>(match x12 with | .ret x12v x12g=>some (Tout.ret (Zaq.mk (0:Int) (Zag.mk (Zaj.mk false (0:Int) (0:Int)) (0:Int)) (0:Int) (0:Int) ([]:(List Zaa))) x12g) | .pan x12o=>some (Tout.pan x12o) | .bad x12s=>some (Tout.bad x12s)) | .pan x10o=>some (Tout.pan x10o) | .bad x10s=>some (Tout.bad x10s)) | .pan x9o=>some (Tout.pan x9o) | .bad x9s=>some (Tout.bad x9s)) | .pan x5o=>some (Tout.pan x5o) | .bad x5s=>some (Tout.bad x5s)) | .pan x1o=>some (Tout.pan x1o) | .bad x1s=>some (Tout.bad x1s))
theorem Zhw(a0:Zax)(a1:Zan)(r:(Tout Zaq))(hf:Zge a0 a1=some r):ZfT Tryz.prog 141 [(100000,.box (Zan.c a1))] [.agg (Zax.c a0),.one (.ifc 112 (.ptr 100000 0))] (oc (fun x=>.agg (Zaq.c x)) r):=by
 refine ZfT.of Tryz.func141 rfl rfl rfl rfl fun S0 w0=>?_;unfold Zge at hf;obtain⟨x1,q1,hf⟩:=Zaf hf;cases x1 with
 |ret x1v x1g=>
  dsimp only at hf
  let R1:List RA:=[rz,rH [] [(2,⟨[(100000,100000)],[],[(100000,.box (Zan.c x1g))],.tup [(false,(cLs 10 Zaa.c Zaa.d) x1v.1),(false,(cI .i64) x1v.2)]⟩)],rz]
  rcases Zah hf with⟨h2,hf⟩|⟨h2,hf⟩
  ·obtain⟨x2,q3,hf⟩:=Zaf hf;have O2:Obl _:=(.c (ZaZ _ _ _ q1) (.c h2 (.c (Zbi _ _ q3) (.c Zfr .n))));obtain⟨x3,q4,hf⟩:=Zaf hf;cases x3 with
   |ret x3v x3g=>
    dsimp only at hf;obtain⟨x4,q5,hf⟩:=Zaf hf;obtain rfl:=oi hf;exact Zcc Zak 12 (R1++[rH [(2,aI x2),(6,.id 462)] [(6,⟨[(100000,100000)],[],[(100000,.box (Zan.c x3g))],.tup []⟩)],rA [(0,aG (Zaq.c x4))]]) [true] ⟨[],[],[],[],[],[4],[4,100000],[]⟩ [100000] (O2.app (.c (ZaD _ _ _ _ q4) (.c ZbQ (.c (ZeS _ _ q5) .n)))) (by kernel_rfl)
   |_=>
    dsimp only at hf;obtain rfl:=oi hf;exact ZaG Zak 9 _ _ R1 [true] (rA [(2,aI x2),(6,.id 462)]) 6 ⟨[(100000,100000)],pvOf q4⟩ (O2.app (.c (ZaD _ _ _ _ q4) (.c ZbQ .n))) (by kernel_rfl)
  ·let R3:List RA:=(R1++[⟨[],[],[],[],[],[(3,(([a0.fx.fEnd]:List Zag).length,Zao Zag.c Zag.d ([a0.fx.fEnd]:List Zag)))],[]⟩])
   have O4:Obl _:=(.c (ZaZ _ _ _ q1) (.c h2 (.c (show ([a0.fx.fEnd]:List Zag).length=1∧∀i j,i<1→j<4→Zao Zag.c Zag.d ([a0.fx.fEnd]:List Zag) i j=(([a0.fx.fEnd]:List Zag).flatMap Zag.c).getD (i * 4+j) .junk from⟨rfl,fun i j hi hj=>ZaI (sz:=4) (e:=Zag.c) (d:=Zag.d) (fun _=>rfl) ([a0.fx.fEnd]:List Zag) i j hi hj⟩) .n)));obtain⟨x5,q6,hf⟩:=Zaf hf;cases x5 with
   |ret x5v x5g=>
    dsimp only at hf;obtain⟨o7,hf⟩:=Zar hf
    let R5:List RA:=(R3++[rH [] [(4,⟨[(100000,100000)],[],[(100000,.box (Zan.c x5g))],.tup []⟩)],rz])
    have O6:Obl _:=(O4.app (.c (ZcV _ _ _ _ _ q6) (.c o7 .n)));rcases Zah hf with⟨h8,hf⟩|⟨h8,hf⟩
    ·obtain⟨x6,q9,hf⟩:=Zaf hf;cases x6 with
     |ret x6v x6g=>
      dsimp only at hf;obtain⟨x7,q10,hf⟩:=Zaf hf
      let R7:List RA:=(R5++[rH [] [(1,⟨[(100000,100000)],[],[(100000,.box (Zan.c x6g))],.tup []⟩)]])
      have O8:Obl _:=(O6.app (.c h8 (.c (ZdE _ _ _ _ _ q9) (.c (Zbi _ _ q10) (.c Zfr .n)))));obtain⟨x8,q11,hf⟩:=Zaf hf;cases x8 with
      |ret x8v x8g=>
       dsimp only at hf;obtain rfl:=oi hf;exact Zcc Zak 22 (R7++[rH [(2,aI x7),(6,.id 462)] [(6,⟨[(100000,100000)],[],[(100000,.box (Zan.c x8g))],.tup []⟩)],rz]) [false,true] ⟨[],[(4,[(7,cL 10 Zaa.c Zaa.d [])])],[],[],[],[4],[4,100000],[]⟩ [100000] (O8.app (.c (ZaD _ _ _ _ q11) (.c ZbQ .n))) (by kernel_rfl)
      |_=>
       dsimp only at hf;obtain rfl:=oi hf;exact ZaG Zak 19 _ _ R7 [false,true] (rA [(2,aI x7),(6,.id 462)]) 6 ⟨[(100000,100000)],pvOf q11⟩ (O8.app (.c (ZaD _ _ _ _ q11) (.c ZbQ .n))) (by kernel_rfl)
     |_=>
      dsimp only at hf;obtain rfl:=oi hf;exact ZaG Zak 17 _ _ R5 [false,true] (rz) 1 ⟨[(100000,100000)],pvOf q9⟩ (O6.app (.c h8 (.c (ZdE _ _ _ _ _ q9) .n))) (by kernel_rfl)
    ·obtain⟨x9,q12,hf⟩:=Zaf hf;cases x9 with
     |ret x9v x9g=>
      dsimp only at hf
      let R9:List RA:=(R5++[rH [] [(2,⟨[(100000,100000)],[],[(100000,.box (Zan.c x9g))],.tup []⟩)]])
      obtain⟨x10,q13,hf⟩:=Zaf hf;cases x10 with
      |ret x10v x10g=>
       dsimp only at hf;obtain⟨x11,q14,hf⟩:=Zaf hf
       let R10:List RA:=(R9++[rH [] [(1,⟨[(100000,100000)],[],[(100000,.box (Zan.c x10g))],.tup []⟩)]])
       have O11:Obl _:=(O6.app (.c h8 (.c (Zfw _ _ _ q12) (.c (ZdE _ _ _ _ _ q13) (.c (Zbi _ _ q14) (.c Zfr .n))))));obtain⟨x12,q15,hf⟩:=Zaf hf;cases x12 with
       |ret x12v x12g=>
        dsimp only at hf;obtain rfl:=oi hf;exact Zcc Zak 24 (R10++[rH [(2,aI x11),(6,.id 462)] [(6,⟨[(100000,100000)],[],[(100000,.box (Zan.c x12g))],.tup []⟩)],rz]) [false,false] ⟨[],[(4,[(7,cL 10 Zaa.c Zaa.d [])])],[],[],[],[4],[4,100000],[]⟩ [100000] (O11.app (.c (ZaD _ _ _ _ q15) (.c ZbQ .n))) (by kernel_rfl)
       |_=>
        dsimp only at hf;obtain rfl:=oi hf;exact ZaG Zak 21 _ _ R10 [false,false] (rA [(2,aI x11),(6,.id 462)]) 6 ⟨[(100000,100000)],pvOf q15⟩ (O11.app (.c (ZaD _ _ _ _ q15) (.c ZbQ .n))) (by kernel_rfl)
      |_=>
       dsimp only at hf;obtain rfl:=oi hf;exact ZaG Zak 19 _ _ R9 [false,false] (rz) 1 ⟨[(100000,100000)],pvOf q13⟩ (O6.app (.c h8 (.c (Zfw _ _ _ q12) (.c (ZdE _ _ _ _ _ q13) .n)))) (by kernel_rfl)
     |_=>
      dsimp only at hf;obtain rfl:=oi hf;exact ZaG Zak 18 _ _ R5 [false,false] (rz) 2 ⟨[(100000,100000)],pvOf q12⟩ (O6.app (.c h8 (.c (Zfw _ _ _ q12) .n))) (by kernel_rfl)
   |_=>
    dsimp only at hf;obtain rfl:=oi hf;exact ZaG Zak 12 _ _ R3 [false] (rz) 4 ⟨[(100000,100000)],pvOf q6⟩ (O4.app (.c (ZcV _ _ _ _ _ q6) .n)) (by kernel_rfl)
 |_=>
  dsimp only at hf;obtain rfl:=oi hf;exact ZaG Zak 3 _ _ [rz] [] (rz) 2 ⟨[(100000,100000)],pvOf q1⟩ (.c (ZaZ _ _ _ q1) .n) (by kernel_rfl)
def Zgf(a0:Zax)(a1:Zan):Option (Tout Zaq):=(Zdl a0 a1).bind fun x1=>(match x1 with | .ret x1v x1g=>bif(decide (x1v.2<(0:Int)))then(Zbd a0).bind fun x2=>(Zbb x1g x2 true).bind fun x3=>(match x3 with | .ret x3v x3g=>(ZdY (6:Int)).bind fun x4=>some (Tout.ret x4 x3g) | .pan x3o=>some (Tout.pan x3o) | .bad x3s=>some (Tout.bad x3s))else need (0≤x1v.2∧x1v.2<((x1v.1.length:Nat):Int))<|bif(x1v.1.getD x1v.2.toNat Zaa.d).fIn then(ZdZ a0 x1g x1v.1 ([a0.fx.fEnd]:List Zag)).bind fun x5=>(match x5 with | .ret x5v x5g=>(Zhe x5g (1:Int) (-1:Int) true).bind fun x6=>(match x6 with | .ret x6v x6g=>(Zbd a0).bind fun x7=>(Zbb x6g x7 false).bind fun x8=>(match x8 with | .ret x8v x8g=>some (Tout.ret (Zaq.mk (0:Int) (Zag.mk (Zaj.mk false (0:Int) (0:Int)) (0:Int)) (0:Int) (0:Int) ([]:(List Zaa))) x8g) | .pan x8o=>some (Tout.pan x8o) | .bad x8s=>some (Tout.bad x8s)) | .pan x6o=>some (Tout.pan x6o) | .bad x6s=>some (Tout.bad x6s)) | .pan x5o=>some (Tout.pan x5o) | .bad x5s=>some (Tout.bad x5s))else(Zbd a0).bind fun x9=>(Zbb x1g x9 false).bind fun x10=>(match x10 with | .ret x10v x10g=>(ZeT x10g (1:Int) false).bind fun x11=>(match x11 with | .ret x11v x11g=>(Zge a0 x11g).bind fun x12=>(match x12 with | .ret x12v x12g=>(Zbb x12g (1:Int) false).bind fun x13=>(match x13 with | .ret x13v x13g=>some (Tout.ret x12v x13g) | .pan x13o=>some (Tout.pan x13o) | .bad x13s=>some (Tout.bad x13s)) | .pan x12o=>some (Tout.pan x12o) | .bad x12s=>some (Tout.bad x12s)) | .pan x11o=>some (Tout.pan x11o) | .bad x11s=>some (Tout.bad x11s)) | .pan x10o=>some (Tout.pan x10o) | .bad x10s=>some (Tout.bad x10s)) | .pan x1o=>some (Tout.pan x1o) | .bad x1s=>some (Tout.bad x1s))
theorem Zhx(a0:Zax)(a1:Zan)(r:(Tout Zaq))(hf:Zgf a0 a1=some r):ZfT Tryz.prog 68 [(100000,.box (Zan.c a1))] [.agg (Zax.c a0),.one (.ifc 112 (.ptr 100000 0))] (oc (fun x=>.agg (Zaq.c x)) r):=by
 refine ZfT.of Tryz.func68 rfl rfl rfl rfl fun S0 w0=>?_;unfold Zgf at hf;obtain⟨x1,q1,hf⟩:=Zaf hf;cases x1 with
 |ret x1v x1g=>
  dsimp only at hf
  let R1:List RA:=[rz,rH [] [(2,⟨[(100000,100000)],[],[(100000,.box (Zan.c x1g))],.tup [(false,(cLs 10 Zaa.c Zaa.d) x1v.1),(false,(cI .i64) x1v.2)]⟩)],rz]
  rcases Zah hf with⟨h2,hf⟩|⟨h2,hf⟩
  ·obtain⟨x2,q3,hf⟩:=Zaf hf;have O2:Obl _:=(.c (ZaZ _ _ _ q1) (.c h2 (.c (Zbi _ _ q3) (.c Zfr .n))));obtain⟨x3,q4,hf⟩:=Zaf hf;cases x3 with
   |ret x3v x3g=>
    dsimp only at hf;obtain⟨x4,q5,hf⟩:=Zaf hf;obtain rfl:=oi hf;exact Zcc Zak 13 (R1++[rH [(2,aI x2),(6,.id 462)] [(6,⟨[(100000,100000)],[],[(100000,.box (Zan.c x3g))],.tup []⟩)],rA [(0,aG (Zaq.c x4))]]) [true] ⟨[],[],[],[],[],[4],[4,100000],[]⟩ [100000] (O2.app (.c (ZaD _ _ _ _ q4) (.c ZbQ (.c (ZeS _ _ q5) .n)))) (by kernel_rfl)
   |_=>
    dsimp only at hf;obtain rfl:=oi hf;exact ZaG Zak 10 _ _ R1 [true] (rA [(2,aI x2),(6,.id 462)]) 6 ⟨[(100000,100000)],pvOf q4⟩ (O2.app (.c (ZaD _ _ _ _ q4) (.c ZbQ .n))) (by kernel_rfl)
  ·obtain⟨o6,hf⟩:=Zar hf;have O3:Obl _:=(.c (ZaZ _ _ _ q1) (.c h2 (.c o6 .n)));rcases Zah hf with⟨h7,hf⟩|⟨h7,hf⟩
   ·have O4:Obl _:=(O3.app (.c h7 (.c (show ([a0.fx.fEnd]:List Zag).length=1∧∀i j,i<1→j<4→Zao Zag.c Zag.d ([a0.fx.fEnd]:List Zag) i j=(([a0.fx.fEnd]:List Zag).flatMap Zag.c).getD (i * 4+j) .junk from⟨rfl,fun i j hi hj=>ZaI (sz:=4) (e:=Zag.c) (d:=Zag.d) (fun _=>rfl) ([a0.fx.fEnd]:List Zag) i j hi hj⟩) .n)));obtain⟨x5,q8,hf⟩:=Zaf hf;cases x5 with
    |ret x5v x5g=>
     dsimp only at hf
     let R5:List RA:=(R1++[rz,⟨[],[],[],[],[],[(6,(([a0.fx.fEnd]:List Zag).length,Zao Zag.c Zag.d ([a0.fx.fEnd]:List Zag)))],[(7,⟨[(100000,100000)],[],[(100000,.box (Zan.c x5g))],.tup []⟩)]⟩])
     obtain⟨x6,q9,hf⟩:=Zaf hf;cases x6 with
     |ret x6v x6g=>
      dsimp only at hf;obtain⟨x7,q10,hf⟩:=Zaf hf
      let R6:List RA:=(R5++[rH [] [(1,⟨[(100000,100000)],[],[(100000,.box (Zan.c x6g))],.tup []⟩)]])
      have O7:Obl _:=(O4.app (.c (ZcV _ _ _ _ _ q8) (.c (ZdE _ _ _ _ _ q9) (.c (Zbi _ _ q10) (.c Zfr .n)))));obtain⟨x8,q11,hf⟩:=Zaf hf;cases x8 with
      |ret x8v x8g=>
       dsimp only at hf;obtain rfl:=oi hf;exact Zcc Zak 20 (R6++[rH [(2,aI x7),(6,.id 462)] [(6,⟨[(100000,100000)],[],[(100000,.box (Zan.c x8g))],.tup []⟩)],rz]) [false,true] ⟨[],[(4,[(7,cL 10 Zaa.c Zaa.d [])])],[],[],[],[4],[4,100000],[]⟩ [100000] (O7.app (.c (ZaD _ _ _ _ q11) (.c ZbQ .n))) (by kernel_rfl)
      |_=>
       dsimp only at hf;obtain rfl:=oi hf;exact ZaG Zak 17 _ _ R6 [false,true] (rA [(2,aI x7),(6,.id 462)]) 6 ⟨[(100000,100000)],pvOf q11⟩ (O7.app (.c (ZaD _ _ _ _ q11) (.c ZbQ .n))) (by kernel_rfl)
     |_=>
      dsimp only at hf;obtain rfl:=oi hf;exact ZaG Zak 15 _ _ R5 [false,true] (rz) 1 ⟨[(100000,100000)],pvOf q9⟩ (O4.app (.c (ZcV _ _ _ _ _ q8) (.c (ZdE _ _ _ _ _ q9) .n))) (by kernel_rfl)
    |_=>
     dsimp only at hf;obtain rfl:=oi hf;exact ZaG Zak 13 _ _ (R1++[rz]) [false,true] (⟨[],[],[],[],[],[(6,(([a0.fx.fEnd]:List Zag).length,Zao Zag.c Zag.d ([a0.fx.fEnd]:List Zag)))],[]⟩) 7 ⟨[(100000,100000)],pvOf q8⟩ (O4.app (.c (ZcV _ _ _ _ _ q8) .n)) (by kernel_rfl)
   ·obtain⟨x9,q12,hf⟩:=Zaf hf;have O8:Obl _:=(O3.app (.c h7 (.c (Zbi _ _ q12) (.c Zfr .n))));obtain⟨x10,q13,hf⟩:=Zaf hf;cases x10 with
    |ret x10v x10g=>
     dsimp only at hf
     let R9:List RA:=(R1++[rz,rH [(2,aI x9),(6,.id 462)] [(6,⟨[(100000,100000)],[],[(100000,.box (Zan.c x10g))],.tup []⟩)]])
     have O10:Obl _:=(O8.app (.c (ZaD _ _ _ _ q13) (.c ZbQ .n)));obtain⟨x11,q14,hf⟩:=Zaf hf;cases x11 with
     |ret x11v x11g=>
      dsimp only at hf
      let R11:List RA:=(R9++[rH [(1,.id 464)] [(1,⟨[(100000,100000)],[],[(100000,.box (Zan.c x11g))],.tup []⟩)]])
      have O12:Obl _:=(O10.app (.c (ZcQ _ _ _ _ q14) (.c ZjR .n)));obtain⟨x12,q15,hf⟩:=Zaf hf;cases x12 with
      |ret x12v x12g=>
       dsimp only at hf
       let R13:List RA:=(R11++[rH [] [(2,⟨[(100000,100000)],[],[(100000,.box (Zan.c x12g))],.agg (Zaq.c x12v)⟩)]])
       obtain⟨x13,q16,hf⟩:=Zaf hf;cases x13 with
       |ret x13v x13g=>
        dsimp only at hf;obtain rfl:=oi hf;exact Zcc Zak 24 (R13++[rH [(1,.id 462)] [(1,⟨[(100000,100000)],[],[(100000,.box (Zan.c x13g))],.tup []⟩)],rz]) [false,false] ⟨[],[],[],[],[],[4],[4,100000],[]⟩ [100000] (O12.app (.c (Zhw _ _ _ q15) (.c (ZaD _ _ _ _ q16) (.c ZbQ .n)))) (by kernel_rfl)
       |_=>
        dsimp only at hf;obtain rfl:=oi hf;exact ZaG Zak 21 _ _ R13 [false,false] (rA [(1,.id 462)]) 1 ⟨[(100000,100000)],pvOf q16⟩ (O12.app (.c (Zhw _ _ _ q15) (.c (ZaD _ _ _ _ q16) (.c ZbQ .n)))) (by kernel_rfl)
      |_=>
       dsimp only at hf;obtain rfl:=oi hf;exact ZaG Zak 19 _ _ R11 [false,false] (rz) 2 ⟨[(100000,100000)],pvOf q15⟩ (O12.app (.c (Zhw _ _ _ q15) .n)) (by kernel_rfl)
     |_=>
      dsimp only at hf;obtain rfl:=oi hf;exact ZaG Zak 17 _ _ R9 [false,false] (rA [(1,.id 464)]) 1 ⟨[(100000,100000)],pvOf q14⟩ (O10.app (.c (ZcQ _ _ _ _ q14) (.c ZjR .n))) (by kernel_rfl)
    |_=>
     dsimp only at hf;obtain rfl:=oi hf;exact ZaG Zak 15 _ _ (R1++[rz]) [false,false] (rA [(2,aI x9),(6,.id 462)]) 6 ⟨[(100000,100000)],pvOf q13⟩ (O8.app (.c (ZaD _ _ _ _ q13) (.c ZbQ .n))) (by kernel_rfl)
 |_=>
  dsimp only at hf;obtain rfl:=oi hf;exact ZaG Zak 3 _ _ [rz] [] (rz) 2 ⟨[(100000,100000)],pvOf q1⟩ (.c (ZaZ _ _ _ q1) .n) (by kernel_rfl)
def ZfC(a0:Int):Option Int:=bif(decide (a0<(0:Int)))then some (0:Int)else bif(decide (a0≥(6:Int)))then some (0:Int)else need (0≤a0∧a0<((6:Nat):Int))<|ix1 a0 0 ( some (0:Int))<|ix1 a0 1 ( some (1:Int))<|ix1 a0 2 ( some (10:Int))<|ix1 a0 3 ( some (20:Int))<|ix1 a0 4 ( some (50:Int))<|some (100:Int)
theorem Zqg(a0 r:Int)(hf:ZfC a0=some r):Zaz Tryz.prog 224 [.one (.lit (.int .i64 a0))] (.one (.lit (.int .i64 r))):=by
 refine Zaz.of Tryz.func224 rfl rfl rfl rfl fun S0 w0=>?_;unfold ZfC at hf;rcases Zah hf with⟨h1,hf⟩|⟨h1,hf⟩
 ·obtain rfl:=oi hf;exact Zai Zak 10 [rz,rz,rB [(2,true)],rz] [true] [] [] [] (.c h1 (.c (show true=true from rfl) .n)) (by kernel_rfl) rfl
 ·rcases Zah hf with⟨h2,hf⟩|⟨h2,hf⟩
  ·obtain rfl:=oi hf;exact Zai Zak 10 [rz,rz,rB [(2,false)],rz] [true] [] [] [] (.c h1 (.c h2 .n)) (by kernel_rfl) rfl
  ·obtain⟨o3,hf⟩:=Zar hf;rcases Zqa hf with⟨e,hf⟩|⟨o3_0,hf⟩
   ·subst e;obtain rfl:=oi hf;exact Zai Zak 11 [rz,rz,rB [(2,false)],rz] [false] [] [] [] (.c h1 (.c h2 (.c (show 0≤(0:Int)∧(0:Int)<((6:Nat):Int)from(by decide)) .n))) (by kernel_rfl) rfl
   rcases Zqa hf with⟨e,hf⟩|⟨o3_1,hf⟩
   ·subst e;obtain rfl:=oi hf;exact Zai Zak 11 [rz,rz,rB [(2,false)],rz] [false] [] [] [] (.c h1 (.c h2 (.c (show 0≤(1:Int)∧(1:Int)<((6:Nat):Int)from(by decide)) .n))) (by kernel_rfl) rfl
   rcases Zqa hf with⟨e,hf⟩|⟨o3_2,hf⟩
   ·subst e;obtain rfl:=oi hf;exact Zai Zak 11 [rz,rz,rB [(2,false)],rz] [false] [] [] [] (.c h1 (.c h2 (.c (show 0≤(2:Int)∧(2:Int)<((6:Nat):Int)from(by decide)) .n))) (by kernel_rfl) rfl
   rcases Zqa hf with⟨e,hf⟩|⟨o3_3,hf⟩
   ·subst e;obtain rfl:=oi hf;exact Zai Zak 11 [rz,rz,rB [(2,false)],rz] [false] [] [] [] (.c h1 (.c h2 (.c (show 0≤(3:Int)∧(3:Int)<((6:Nat):Int)from(by decide)) .n))) (by kernel_rfl) rfl
   rcases Zqa hf with⟨e,hf⟩|⟨o3_4,hf⟩
   ·subst e;obtain rfl:=oi hf;exact Zai Zak 11 [rz,rz,rB [(2,false)],rz] [false] [] [] [] (.c h1 (.c h2 (.c (show 0≤(4:Int)∧(4:Int)<((6:Nat):Int)from(by decide)) .n))) (by kernel_rfl) rfl
   obtain rfl:a0=5:=by omega
   obtain rfl:=oi hf;exact Zai Zak 11 [rz,rz,rB [(2,false)],rz] [false] [] [] [] (.c h1 (.c h2 (.c (show 0≤(5:Int)∧(5:Int)<((6:Nat):Int)from(by decide)) .n))) (by kernel_rfl) rfl
def Zgb(a0:Int):Option Int:=some (if(1099511627776:Int)<(if(0:Int)>a0 then(0:Int)else a0)then(1099511627776:Int)else(if(0:Int)>a0 then(0:Int)else a0))
theorem Zfp(a0 r:Int)(hf:Zgb a0=some r):Zaz Tryz.prog 230 [.one (.lit (.int .i64 a0))] (.one (.lit (.int .i64 r))):=by
 refine Zaz.of Tryz.func230 rfl rfl rfl rfl fun S0 w0=>?_;unfold Zgb at hf;obtain rfl:=oi hf;exact Zai Zak 4 [rz,rz] [] [] [] [] .n (by kernel_rfl) rfl
def ZoM(a0:Zam):Option Zam:=(Zgb a0.fAt).bind fun x1=>some (Zam.mk (if(1099511627776:Int)<(if(0:Int)>a0.fPoints then(0:Int)else a0.fPoints)then(1099511627776:Int)else(if(0:Int)>a0.fPoints then(0:Int)else a0.fPoints)) x1)
theorem Zvq(a0 r:Zam)(hf:ZoM a0=some r):Zaz Tryz.prog 380 [.agg (Zam.c a0)] (.agg (Zam.c r)):=by
 refine Zaz.of Tryz.func380 rfl rfl rfl rfl fun S0 w0=>?_;unfold ZoM at hf;obtain⟨x1,q1,hf⟩:=Zaf hf;obtain rfl:=oi hf;exact Zai Zak 4 [rz,rA [(6,aI x1)]] [] [] [] [] (.c (Zfp _ _ q1) .n) (by kernel_rfl) rfl
def Zqh(a0 a1:Int):Option Int:=(Zgb a0).bind fun x1=>(Zgb a1).bind fun x2=>(Zgb (Zli x1 x2)).bind fun x3=>some x3
theorem ZwK(a0 a1 r:Int)(hf:Zqh a0 a1=some r):Zaz Tryz.prog 381 [.one (.lit (.int .i64 a0)),.one (.lit (.int .i64 a1))] (.one (.lit (.int .i64 r))):=by
 refine Zaz.of Tryz.func381 rfl rfl rfl rfl fun S0 w0=>?_;unfold Zqh at hf;obtain⟨x1,q1,hf⟩:=Zaf hf;obtain⟨x2,q2,hf⟩:=Zaf hf;obtain⟨x3,q3,hf⟩:=Zaf hf;obtain rfl:=oi hf;exact Zai Zak 4 [rz,rA [(1,aI x1),(3,aI x2),(5,aI x3)]] [] [] [] [] (.c (Zfp _ _ q1) (.c (Zfp _ _ q2) (.c (Zfp _ _ q3) .n))) (by kernel_rfl) rfl
def ZjY(a0:Zam)(a1 a2:Int):Option Zam:=(ZoM a0).bind fun x1=>(Zqh a2 x1.fAt).bind fun x2=>need ((if(1073741824:Int)<(if(1:Int)>a1 then(1:Int)else a1)then(1073741824:Int)else(if(1:Int)>a1 then(1:Int)else a1))≠0)<|need (0≤(if(41:Int)<(IntKind.wrap .i64 (Int.tdiv x2 (if(1073741824:Int)<(if(1:Int)>a1 then(1:Int)else a1)then(1073741824:Int)else(if(1:Int)>a1 then(1:Int)else a1))))then(41:Int)else(IntKind.wrap .i64 (Int.tdiv x2 (if(1073741824:Int)<(if(1:Int)>a1 then(1:Int)else a1)then(1073741824:Int)else(if(1:Int)>a1 then(1:Int)else a1))))))<|some (Zam.mk (Int.fdiv x1.fPoints (2 ^ (min (if(41:Int)<(IntKind.wrap .i64 (Int.tdiv x2 (if(1073741824:Int)<(if(1:Int)>a1 then(1:Int)else a1)then(1073741824:Int)else(if(1:Int)>a1 then(1:Int)else a1))))then(41:Int)else(IntKind.wrap .i64 (Int.tdiv x2 (if(1073741824:Int)<(if(1:Int)>a1 then(1:Int)else a1)then(1073741824:Int)else(if(1:Int)>a1 then(1:Int)else a1))))).toNat (IntKind.bits .i64)))) (Zaw x1.fAt (Zro (IntKind.wrap .i64 (Int.tdiv x2 (if(1073741824:Int)<(if(1:Int)>a1 then(1:Int)else a1)then(1073741824:Int)else(if(1:Int)>a1 then(1:Int)else a1)))) (if(1073741824:Int)<(if(1:Int)>a1 then(1:Int)else a1)then(1073741824:Int)else(if(1:Int)>a1 then(1:Int)else a1)))))
theorem ZsR(a0:Zam)(a1 a2:Int)(r:Zam)(hf:ZjY a0 a1 a2=some r):Zaz Tryz.prog 343 [.agg (Zam.c a0),.one (.lit (.int .i64 a1)),.one (.lit (.int .i64 a2))] (.agg (Zam.c r)):=by
 refine Zaz.of Tryz.func343 rfl rfl rfl rfl fun S0 w0=>?_;unfold ZjY at hf;obtain⟨x1,q1,hf⟩:=Zaf hf;obtain⟨x2,q2,hf⟩:=Zaf hf;obtain⟨o3,hf⟩:=Zar hf;obtain⟨o4,hf⟩:=Zar hf;obtain rfl:=oi hf;exact Zai Zak 10 [rz,rA [(1,aG (Zam.c x1))],rz,rA [(3,aI x2)],rz] [] [] [] [] (.c (Zvq _ _ q1) (.c (ZwK _ _ _ q2) (.c o3 (.c o4 .n)))) (by kernel_rfl) rfl
def Zqi(a0 a1:Int):Option Int:=(Zgb a0).bind fun x1=>(Zgb a1).bind fun x2=>bif(decide (x1>(0:Int)))then need (x1≠0)<|bif(decide (x2>(IntKind.wrap .i64 (Int.tdiv (1099511627776:Int) x1))))then some (1099511627776:Int)else some (Zro x1 x2)else some (Zro x1 x2)
theorem ZwL(a0 a1 r:Int)(hf:Zqi a0 a1=some r):Zaz Tryz.prog 344 [.one (.lit (.int .i64 a0)),.one (.lit (.int .i64 a1))] (.one (.lit (.int .i64 r))):=by
 refine Zaz.of Tryz.func344 rfl rfl rfl rfl fun S0 w0=>?_;unfold Zqi at hf;obtain⟨x1,q1,hf⟩:=Zaf hf;obtain⟨x2,q2,hf⟩:=Zaf hf;have O1:Obl _:=(.c (Zfp _ _ q1) (.c (Zfp _ _ q2) .n));rcases Zah hf with⟨h3,hf⟩|⟨h3,hf⟩
 ·obtain⟨o4,hf⟩:=Zar hf
  let R2:List RA:=[rz,rA [(1,aI x1),(3,aI x2)],rB [(2,true)],rz]
  rcases Zah hf with⟨h5,hf⟩|⟨h5,hf⟩
  ·obtain rfl:=oi hf;exact Zai Zak 10 R2 [true] [] [] [] (O1.app (.c h3 (.c o4 (.c h5 .n)))) (by kernel_rfl) rfl
  ·obtain rfl:=oi hf;exact Zai Zak 11 R2 [false] [] [] [] (O1.app (.c h3 (.c o4 (.c h5 .n)))) (by kernel_rfl) rfl
 ·obtain rfl:=oi hf;exact Zai Zak 11 [rz,rA [(1,aI x1),(3,aI x2)],rB [(2,false)],rz] [false] [] [] [] (O1.app (.c h3 (.c (show false=false from rfl) .n))) (by kernel_rfl) rfl
def ZkR(a0 a1:Int):Option Int:=(Zgb a0).bind fun x1=>(Zgb a1).bind fun x2=>(Zgb (Zaw x1 x2)).bind fun x3=>some x3
theorem Zol(a0 a1 r:Int)(hf:ZkR a0 a1=some r):Zaz Tryz.prog 294 [.one (.lit (.int .i64 a0)),.one (.lit (.int .i64 a1))] (.one (.lit (.int .i64 r))):=by
 refine Zaz.of Tryz.func294 rfl rfl rfl rfl fun S0 w0=>?_;unfold ZkR at hf;obtain⟨x1,q1,hf⟩:=Zaf hf;obtain⟨x2,q2,hf⟩:=Zaf hf;obtain⟨x3,q3,hf⟩:=Zaf hf;obtain rfl:=oi hf;exact Zai Zak 4 [rz,rA [(1,aI x1),(3,aI x2),(5,aI x3)]] [] [] [] [] (.c (Zfp _ _ q1) (.c (Zfp _ _ q2) (.c (Zfp _ _ q3) .n))) (by kernel_rfl) rfl
def ZiE(a0:Zam)(a1 a2 a3:Int):Option Zam:=(ZjY a0 a2 a3).bind fun x1=>(Zqi a1 (65536:Int)).bind fun x2=>(ZkR x1.fPoints x2).bind fun x3=>some (Zam.mk x3 x1.fAt)
theorem ZtL(a0:Zam)(a1 a2 a3:Int)(r:Zam)(hf:ZiE a0 a1 a2 a3=some r):Zaz Tryz.prog 292 [.agg (Zam.c a0),.one (.lit (.int .i64 a1)),.one (.lit (.int .i64 a2)),.one (.lit (.int .i64 a3))] (.agg (Zam.c r)):=by
 refine Zaz.of Tryz.func292 rfl rfl rfl rfl fun S0 w0=>?_;unfold ZiE at hf;obtain⟨x1,q1,hf⟩:=Zaf hf;obtain⟨x2,q2,hf⟩:=Zaf hf;obtain⟨x3,q3,hf⟩:=Zaf hf;obtain rfl:=oi hf;exact Zai Zak 8 [rz,rA [(3,aG (Zam.c x1))],rA [(3,aI x2),(4,aI x3)],rz] [] [] [] [] (.c (ZsR _ _ _ _ q1) (.c (ZwL _ _ _ q2) (.c (Zol _ _ _ q3) .n))) (by kernel_rfl) rfl
def ZiW(a0:Zaa)(a1 a2 a3:Int):Option Zaa:=(ZiE a0.fScore a1 a2 a3).bind fun x1=>some (Zaa.mk a0.fEnd a0.fIn a0.fSince x1 a0.fPing a0.fWork)
theorem Zrv(a0:Zaa)(a1 a2 a3:Int)(r:Zaa)(hf:ZiW a0 a1 a2 a3=some r):Zaz Tryz.prog 223 [.agg (Zaa.c a0),.one (.lit (.int .i64 a1)),.one (.lit (.int .i64 a2)),.one (.lit (.int .i64 a3))] (.agg (Zaa.c r)):=by
 refine Zaz.of Tryz.func223 rfl rfl rfl rfl fun S0 w0=>?_;unfold ZiW at hf;obtain⟨x1,q1,hf⟩:=Zaf hf;obtain rfl:=oi hf;exact Zai Zak 6 [rz,rA [(5,aG (Zam.c x1))],rz] [] [] [] [] (.c (ZtL _ _ _ _ _ q1) .n) (by kernel_rfl) rfl
def ZhE(a0:Zam)(a1:Int):Option Bool:=some (decide (a0.fPoints≥(Zro (if(16777216:Int)<(if(1:Int)>a1 then(1:Int)else a1)then(16777216:Int)else(if(1:Int)>a1 then(1:Int)else a1)) (65536:Int))))
theorem Zqf(a0:Zam)(a1:Int)(r:Bool)(hf:ZhE a0 a1=some r):Zaz Tryz.prog 225 [.agg (Zam.c a0),.one (.lit (.int .i64 a1))] (.one (.lit (.bool r))):=by
 refine Zaz.of Tryz.func225 rfl rfl rfl rfl fun S0 w0=>?_;unfold ZhE at hf;obtain rfl:=oi hf;exact Zai Zak 4 [rz,rz] [] [] [] [] .n (by kernel_rfl) rfl
def Zev(a0:Zax)(a1:Zaa):Option (Zaa×Bool):=(ZfC a0.fx.fNum).bind fun x1=>(ZiW a1 x1 a0.fc.fHalf a0.fx.fNow).bind fun x2=>(ZhE x2.fScore a0.fc.fLimit).bind fun x3=>some (x2,x3)
theorem Zjo(a0:Zax)(a1:Zaa)(r:(Zaa×Bool))(hf:Zev a0 a1=some r):Zaz Tryz.prog 142 [.agg (Zax.c a0),.agg (Zaa.c a1)] (.tup [(true,Zaa.c r.1),(false,cB r.2)]):=by
 refine Zaz.of Tryz.func142 rfl rfl rfl rfl fun S0 w0=>?_;unfold Zev at hf;obtain⟨x1,q1,hf⟩:=Zaf hf;obtain⟨x2,q2,hf⟩:=Zaf hf;obtain⟨x3,q3,hf⟩:=Zaf hf;obtain rfl:=oi hf;exact Zai Zak 6 [rz,rA [(4,aI x1),(11,aG (Zaa.c x2))],rA [(6,aB x3)]] [] [] [] [] (.c (Zqg _ _ q1) (.c (Zrv _ _ _ _ _ q2) (.c (Zqf _ _ _ q3) .n))) (by kernel_rfl) rfl
def ZdR(a0:Zax)(a1:Zan)(a2:Int)(a3:Zaa):Option (Tout Unit):=(ZdQ a0).bind fun x1=>(ZdO a1 (Zav.mk (6:Int) x1 a2) (Zae.mk (0:Int) a3 ([]:(List Zab)) ([]:(List Zac))) true).bind fun x2=>(match x2 with | .ret x2v x2g=>some (Tout.ret () x2g) | .pan x2o=>some (Tout.pan x2o) | .bad x2s=>some (Tout.bad x2s))
theorem ZcB(a0:Zax)(a1:Zan)(a2:Int)(a3:Zaa)(r:(Tout Unit))(hf:ZdR a0 a1 a2 a3=some r):ZfT Tryz.prog 143 [(100000,.box (Zan.c a1))] [.agg (Zax.c a0),.one (.ifc 112 (.ptr 100000 0)),.one (.lit (.int .i64 a2)),.agg (Zaa.c a3)] (oc (fun x=>.tup []) r):=by
 refine ZfT.of Tryz.func143 rfl rfl rfl rfl fun S0 w0=>?_;unfold ZdR at hf;obtain⟨x1,q1,hf⟩:=Zaf hf;have O1:Obl _:=(.c (ZgH _ _ q1) (.c ZmW .n));obtain⟨x2,q2,hf⟩:=Zaf hf;cases x2 with
 |ret x2v x2g=>
  dsimp only at hf;obtain rfl:=oi hf;exact Zcc Zak 3 [rz,⟨[(2,aI x1),(10,.id 467)],[],[],[],[(6,[(11,cL 5 Zab.c Zab.d []),(12,cL 7 Zac.c Zac.d [])])],[],[(10,⟨[(100000,100000)],[],[(100000,.box (Zan.c x2g))],.tup []⟩)]⟩] [] ⟨[],[],[],[],[],[],[100000],[]⟩ [100000] (O1.app (.c (ZbR _ _ _ _ _ q2) (.c Zhr .n))) (by kernel_rfl)
 |_=>
  dsimp only at hf;obtain rfl:=oi hf;exact ZaG Zak 2 _ _ [rz] [] (⟨[(2,aI x1),(10,.id 467)],[],[],[],[(6,[(11,cL 5 Zab.c Zab.d []),(12,cL 7 Zac.c Zac.d [])])],[],[]⟩) 10 ⟨[(100000,100000)],pvOf q2⟩ (O1.app (.c (ZbR _ _ _ _ _ q2) (.c Zhr .n))) (by kernel_rfl)
def Zga(a0:Zam):Option Int:=some (IntKind.wrap .i64 (Int.tdiv (if(0:Int)>a0.fPoints then(0:Int)else a0.fPoints) (65536:Int)))
theorem ZnD(a0:Zam)(r:Int)(hf:Zga a0=some r):Zaz Tryz.prog 144 [.agg (Zam.c a0)] (.one (.lit (.int .i64 r))):=by
 refine Zaz.of Tryz.func144 rfl rfl rfl rfl fun S0 w0=>?_;unfold Zga at hf;obtain rfl:=oi hf;exact Zai Zak 4 [rz,rz] [] [] [] [] (.c (show (65536:Int)≠0 from(by decide)) .n) (by kernel_rfl) rfl
def Zlb(a0:Zab):Option Bool:=(ZhM a0.fNet).bind fun x1=>bif x1 then bif(decide (a0.fUntil≥(1:Int)))then some (decide (a0.fUntil≤(1099511627776:Int)))else some false else some false
theorem Zpl(a0:Zab)(r:Bool)(hf:Zlb a0=some r):Zaz Tryz.prog 345 [.agg (Zab.c a0)] (.one (.lit (.bool r))):=by
 refine Zaz.of Tryz.func345 rfl rfl rfl rfl fun S0 w0=>?_;unfold Zlb at hf;obtain⟨x1,q1,hf⟩:=Zaf hf;rcases Zah hf with⟨h2,hf⟩|⟨h2,hf⟩
 ·rcases Zah hf with⟨h3,hf⟩|⟨h3,hf⟩
  ·obtain rfl:=oi hf;exact Zai Zak 4 [rz,⟨[(2,aB x1)],[(3,true),(8,true)],[],[],[],[],[]⟩] [] [] [] [] (.c (ZgZ _ _ q1) (.c h2 (.c h3 .n))) (by kernel_rfl) rfl
  ·obtain rfl:=oi hf;exact Zai Zak 4 [rz,⟨[(2,aB x1)],[(3,true),(8,false)],[],[],[],[],[]⟩] [] [] [] [] (.c (ZgZ _ _ q1) (.c h2 (.c h3 .n))) (by kernel_rfl) rfl
 ·obtain rfl:=oi hf;exact Zai Zak 4 [rz,⟨[(2,aB x1)],[(3,false)],[],[],[],[],[]⟩] [] [] [] [] (.c (ZgZ _ _ q1) (.c h2 .n)) (by kernel_rfl) rfl
def Zcf(a0:List Zab):Option (List Zab):=need (0<a0.length)<|need ((([]:List Zab)++a0).length * 40≤140737488355328∧(([]:List Zab)++a0).length≤maxLen)<|some (([]:List Zab)++a0)
theorem Zfv(a0 r:List Zab)(hf:Zcf a0=some r):Zdn Tryz.prog 323 [] [.one (cL 5 Zab.c Zab.d a0)] [(99999,.rows 146 5 r.length (Zao Zab.c Zab.d r))] (.one (.osl 99999 r.length)):=by
 refine Zdn.of Tryz.func323 rfl rfl rfl rfl fun S0 w0=>?_;unfold Zcf at hf;obtain⟨o1,hf⟩:=Zar hf;obtain⟨o2,hf⟩:=Zar hf;obtain rfl:=oi hf;exact Zcd Zak 9 [rz,rz,rA [(0,.c ([]:List Zab).length (Zao Zab.c Zab.d ([]:List Zab))),(2,.c ((([]:List Zab)++a0).length) (Zao Zab.c Zab.d (([]:List Zab)++a0)))]] [false] ⟨[],[],[],[],[],[2],[7],[(7,99999)]⟩ (.c o1 (.c (show false=false from rfl) (.c (show ([]:List Zab).length=0 from rfl) (.c (show ∀i j,i<0→j<5→Zao Zab.c Zab.d ([]:List Zab) i j=(([]:List Zab).flatMap Zab.c).getD (i * 5+j) .junk from(fun i j hi hj=>ZaI (sz:=5) (e:=Zab.c) (d:=Zab.d) (fun _=>rfl) ([]:List Zab) i j hi hj)) (.c (ZbV (sz:=5) (e:=Zab.c) (d:=Zab.d) ([]:List Zab) a0) (.c o2.1 (.c o2.2 .n))))))) (by kernel_rfl)
theorem ZfS(x:Addr)(cap:Nat)(c:Nat→Nat→C):Zdn Tryz.prog 323 [] [.one (.lit (.slice (some x) 0 cap))] [(99999,.rows 146 5 0 c)] (.one (.osl 99999 0)):=by
 refine Zdn.of Tryz.func323 rfl rfl rfl rfl fun S0 w0=>?_;exact ZiC Zak 9 _ _ [⟨[],[],[],[],[],[],[]⟩,⟨[(1,.r (.one (.lit (.bool false))) [])],[],[],[],[],[],[]⟩,⟨[(0,.c 0 c),(2,.c 0 c)],[],[],[],[],[],[]⟩] [false] ⟨[],[],[],[],[],[2],[7],[(7,99999)]⟩
  [∀w,(do eqGuard .eql 45 (.tmp 3) (.const (.slice none 0 0)) (.slice (some x) 0 cap) (.slice none 0 0);binOp .eql 45 (.slice (some x) 0 cap) (.slice none 0 0):Sem Value).run Tryz.prog w=.ok (.bool false) w,false=false,0=0,∀i j,i<0→j<5→c i j=([]:List C).getD (i * 5+j) .junk,Ext 5 0 0 c (fun _ _=>.junk) 0 c,0 * 40≤140737488355328,0≤maxLen] (by kernel_rfl) ⟨fun w=>by
   have hg:(eqGuard .eql 45 (.tmp 3) (.const (.slice none 0 0)) (.slice (some x) 0 cap) (.slice none 0 0)).run Tryz.prog w=.ok () w:=by simp[eqGuard]
   rw[Sem.run_bind,hg,Result.andThen_ok];exact Go.run_eql_slice_nil w _ _ (some x) 0 cap Tryz.underlying45,rfl,rfl,fun i j h=>absurd h (Nat.not_lt_zero i),⟨rfl,fun _ _ h=>absurd h (Nat.not_lt_zero _),fun _ _ h=>absurd h (Nat.not_lt_zero _)⟩,by decide,by decide,trivial⟩
theorem ZfR(cap:Nat)(c:Nat→Nat→C):Zdn Tryz.prog 323 [] [.one (.lit (.slice none 0 cap))] [(99999,.rows 146 5 0 c)] (.one (.osl 99999 0)):=by
 refine Zdn.of Tryz.func323 rfl rfl rfl rfl fun S0 w0=>?_;exact ZiC Zak 8 _ _ [⟨[],[],[],[],[],[],[]⟩,⟨[(1,.r (.one (.lit (.bool true))) [])],[],[],[],[],[],[]⟩,⟨[],[],[],[],[],[],[]⟩] [true] ⟨[],[],[],[],[(2,99999,146,5,c)],[2],[99999],[]⟩
  [∀w,(do eqGuard .eql 45 (.tmp 3) (.const (.slice none 0 0)) (.slice none 0 cap) (.slice none 0 0);binOp .eql 45 (.slice none 0 cap) (.slice none 0 0):Sem Value).run Tryz.prog w=.ok (.bool true) w,true=true] (by kernel_rfl) ⟨fun w=>by
   have hg:(eqGuard .eql 45 (.tmp 3) (.const (.slice none 0 0)) (.slice none 0 cap) (.slice none 0 0)).run Tryz.prog w=.ok () w:=by simp[eqGuard]
   rw[Sem.run_bind,hg,Result.andThen_ok];exact Go.run_eql_slice_nil w _ _ none 0 cap Tryz.underlying45,rfl,trivial⟩
def Zbz(a0:List Zab):Option (List Zab):=need (a0.length * 40≤140737488355328∧a0.length≤maxLen)<|some a0
theorem ZfQ(a0 r:List Zab)(hf:Zbz a0=some r):Zdn Tryz.prog 323 [] [.one (cL 5 Zab.c Zab.d a0)] [(99999,.rows 146 5 r.length (Zao Zab.c Zab.d r))] (.one (.osl 99999 r.length)):=by
 obtain⟨o1,hf⟩:=Zar hf;cases hf;refine ZpF ⟨_,Tryz.func323,rfl,rfl⟩ (fun h cap=>?_) (fun h x cap=>?_) (fun h=>?_)
 ·rw[h];exact ZfR cap _
 ·rw[h];exact ZfS x cap _
 ·refine Zfv a0 a0 ?_;unfold Zcf;rw[ZoI h,ZoI (by simpa using o1)];simp
def Zky(a0:Zab)(c0:Zas):Option Bool:=some (decide (a0.fNet=c0))
theorem Zrz(a0:Zab)(c0:Zas)(r:Bool)(hf:Zky a0 c0=some r):Zaz Tryz.prog 364 [.agg (Zab.c a0),.one (.rp false 4 (fun j=>(Zas.c c0:List C).getD (0+j) .junk))] (.one (.lit (.bool r))):=by
 refine Zaz.of Tryz.func364 rfl rfl rfl rfl fun S0 w0=>?_;unfold Zky at hf;obtain rfl:=oi hf;exact Zai Zak 4 [rz,rA [(3,aB (decide (a0.fNet=c0)))]] [] [] [] [] (.c (ZkA a0.fNet c0 (.tmp 5) (.tmp 6)) .n) (by kernel_rfl) rfl
def ZaO(a0:List Zab)(a1_0:Zas):Nat→Int→Int→Option Int|0,_,_=>none|fu+1,v7,v8=>bif(decide (v8<v7))then need (0≤v8∧v8<((a0.length:Nat):Int))<|(Zky (a0.getD v8.toNat Zab.d) a1_0).bind fun x1=>bif x1 then some v8 else ZaO a0 a1_0 fu v7 (Zaw v8 (1:Int))else some (-1:Int)
theorem Zha(S0:Nat→Prop)(w0:ZaW)(a0:List Zab)(a1_0:Zas):∀(fu:Nat)(v7 v8 r:Int),ZaO a0 a1_0 fu v7 v8=some r→Good Tryz.prog 19 S0 w0 (bodyPost Tryz.prog Tryz.f347 (Post S0 w0 (.one (.lit (.int .i64 r))))) (at_ [1,0,1,0] (Zbl Tryz.f347)) ⟨[(0,.one (cL 5 Zab.c Zab.d a0)),(1,.one (.clo (.func 364) 0 1 (fun i=>([]:List C).getD i .junk) (fun i=>([.rp false 4 (fun j=>(Zas.c a1_0:List C).getD (0+j) .junk)]:List C).getD i .junk))),(7,.one (.lit (.int .i64 v7))),(8,.one (.lit (.int .i64 v8)))],[]⟩:=by
 intro fu;induction fu with
 |zero=>
  intro v7 v8 r hf;simp[ZaO]at hf
 |succ fu ih=>
  intro v7 v8 r hf;unfold ZaO at hf;rcases Zah hf with⟨h1,hf⟩|⟨h1,hf⟩
  ·obtain⟨o2,hf⟩:=Zar hf;obtain⟨x1,q3,hf⟩:=Zaf hf;have O1:Obl _:=(.c h1 (.c o2 (.c (Zrz _ _ _ q3) .n)));rcases Zah hf with⟨h4,hf⟩|⟨h4,hf⟩
   ·obtain rfl:=oi hf;exact Zai Zak 15 [rz,rz,rA [(5,aB x1)],rz] [true,true] [] [] [] (O1.app (.c h4 .n)) (by kernel_rfl) rfl
   ·exact ZaJ Zak Post.ends 17 [rz,rz,rA [(5,aB x1)],rz] [true,false] ⟨[],[],[],[],[],[0,1,7,8],[],[]⟩ (O1.app (.c h4 .n)) (by kernel_rfl) (ih v7 (Zaw v8 (1:Int)) r hf)
  ·obtain rfl:=oi hf;exact Zai Zak 8 [rz,rz] [false] [] [] [] (.c h1 .n) (by kernel_rfl) rfl
def Zcn(a0:List Zab)(a1_0:Zas):Option Int:=ZaO a0 a1_0 ((((a0.length:Nat):Int)-(0:Int)).toNat+2) ((a0.length:Nat):Int) (0:Int)
theorem Zht(a0:List Zab)(a1_0:Zas)(r:Int)(hf:Zcn a0 a1_0=some r):Zaz Tryz.prog 347 [.one (cL 5 Zab.c Zab.d a0),.one (.clo (.func 364) 0 1 (fun i=>([]:List C).getD i .junk) (fun i=>([.rp false 4 (fun j=>(Zas.c a1_0:List C).getD (0+j) .junk)]:List C).getD i .junk))] (.one (.lit (.int .i64 r))):=by
 refine Zaz.of Tryz.func347 rfl rfl rfl rfl fun S0 w0=>?_;unfold Zcn at hf;exact ZaJ Zak Post.ends 6 [rz,rz] [] ⟨[],[],[],[],[],[0,1,7,8],[],[]⟩ .n (by kernel_rfl) (Zha S0 w0 a0 a1_0 ((((a0.length:Nat):Int)-(0:Int)).toNat+2) ((a0.length:Nat):Int) (0:Int) r hf)
def Zla(a0:List Zab)(a1:Zas):Option Int:=(Zcn a0 a1).bind fun x1=>some x1
theorem ZtR(a0:List Zab)(a1:Zas)(r:Int)(hf:Zla a0 a1=some r):Zaz Tryz.prog 321 [.one (cL 5 Zab.c Zab.d a0),.agg (Zas.c a1)] (.one (.lit (.int .i64 r))):=by
 refine Zaz.of Tryz.func321 rfl rfl rfl rfl fun S0 w0=>?_;unfold Zla at hf;obtain⟨x1,q1,hf⟩:=Zaf hf;obtain rfl:=oi hf;exact Zai Zak 4 [rz,⟨[(2,aI x1)],[],[(1,[3])],[],[],[],[]⟩] [] [] [] [] (.c (Zht _ _ _ q1) .n) (by kernel_rfl) rfl
def ZoN(a0 a1:Zab):Option Zab:=bif(decide (a0.fNet=a1.fNet))then some (Zab.mk a0.fNet (if a1.fUntil>a0.fUntil then a1.fUntil else a0.fUntil))else some a0
theorem Zvt(a0 a1 r:Zab)(hf:ZoN a0 a1=some r):Zaz Tryz.prog 346 [.agg (Zab.c a0),.agg (Zab.c a1)] (.agg (Zab.c r)):=by
 refine Zaz.of Tryz.func346 rfl rfl rfl rfl fun S0 w0=>?_;unfold ZoN at hf
 let R1:List RA:=[rz,rA [(4,aB (decide (a0.fNet=a1.fNet)))],rz]
 have O2:Obl _:=(.c (ZkA a0.fNet a1.fNet (.tmp 6) (.tmp 8)) .n);rcases Zah hf with⟨h1,hf⟩|⟨h1,hf⟩
 ·obtain rfl:=oi hf;exact Zai Zak 9 (R1++[rz]) [true] [] [] [] (O2.app (.c h1 .n)) (by kernel_rfl) rfl
 ·obtain rfl:=oi hf;exact Zai Zak 9 R1 [false] [] [] [] (O2.app (.c h1 .n)) (by kernel_rfl) rfl
def ZhV(a0:Zaj):Option Int:=bif a0.fV6 then some (1:Int)else some (0:Int)
theorem ZnE(a0:Zaj)(r:Int)(hf:ZhV a0=some r):Zaz Tryz.prog 374 [.agg (Zaj.c a0)] (.one (.lit (.int .i64 r))):=by
 refine Zaz.of Tryz.func374 rfl rfl rfl rfl fun S0 w0=>?_;unfold ZhV at hf;rcases Zah hf with⟨h1,hf⟩|⟨h1,hf⟩
 ·obtain rfl:=oi hf;exact Zai Zak 8 [rz,rz,rz] [true] [] [] [] (.c h1 .n) (by kernel_rfl) rfl
 ·obtain rfl:=oi hf;exact Zai Zak 9 [rz,rz,rz] [false] [] [] [] (.c h1 .n) (by kernel_rfl) rfl
def ZhL(a0:Int):Option Bool:=some (a0 != a0)
theorem ZlI(a0:Int)(r:Bool)(hf:ZhL a0=some r):Zaz Tryz.prog 376 [.one (.lit (.int .i64 a0))] (.one (.lit (.bool r))):=by
 refine Zaz.of Tryz.func376 rfl rfl rfl rfl fun S0 w0=>?_;unfold ZhL at hf;obtain rfl:=oi hf;exact Zai Zak 4 [rz,rz] [] [] [] [] .n (by kernel_rfl) rfl
def ZfA(a0 a1:Int):Option Int:=(ZhL a0).bind fun x1=>(ZhL a1).bind fun x2=>bif x1 then bif x2 then some (0:Int)else some (-1:Int)else bif x2 then some (1:Int)else bif(decide (a0<a1))then some (-1:Int)else bif(decide (a0>a1))then some (1:Int)else some (0:Int)
theorem Zkq(a0 a1 r:Int)(hf:ZfA a0 a1=some r):Zaz Tryz.prog 338 [.one (.lit (.int .i64 a0)),.one (.lit (.int .i64 a1))] (.one (.lit (.int .i64 r))):=by
 refine Zaz.of Tryz.func338 rfl rfl rfl rfl fun S0 w0=>?_;unfold ZfA at hf;obtain⟨x1,q1,hf⟩:=Zaf hf;obtain⟨x2,q2,hf⟩:=Zaf hf
 let R1:List RA:=[rz,rA [(1,aB x1)],rA [(1,aB x2)],rz,rz,rz]
 have O2:Obl _:=(.c (ZlI _ _ q1) (.c (ZlI _ _ q2) .n));rcases Zah hf with⟨h3,hf⟩|⟨h3,hf⟩
 ·rcases Zah hf with⟨h4,hf⟩|⟨h4,hf⟩
  ·obtain rfl:=oi hf;exact Zai Zak 16 R1 [true,true] [] [] [] (O2.app (.c h3 (.c h4 .n))) (by kernel_rfl) rfl
  ·obtain rfl:=oi hf;exact Zai Zak 17 R1 [true,false] [] [] [] (O2.app (.c h3 (.c h4 .n))) (by kernel_rfl) rfl
 ·rcases Zah hf with⟨h5,hf⟩|⟨h5,hf⟩
  ·obtain rfl:=oi hf;exact Zai Zak 17 R1 [false,true] [] [] [] (O2.app (.c h3 (.c h5 .n))) (by kernel_rfl) rfl
  ·rcases Zah hf with⟨h6,hf⟩|⟨h6,hf⟩
   ·obtain rfl:=oi hf;exact Zai Zak 22 (R1++[rz]) [false,false,true] [] [] [] (O2.app (.c h3 (.c h5 (.c h6 .n)))) (by kernel_rfl) rfl
   ·rcases Zah hf with⟨h7,hf⟩|⟨h7,hf⟩
    ·obtain rfl:=oi hf;exact Zai Zak 27 (R1++[rz,rz]) [false,false,false,true] [] [] [] (O2.app (.c h3 (.c h5 (.c h6 (.c h7 .n))))) (by kernel_rfl) rfl
    ·obtain rfl:=oi hf;exact Zai Zak 28 (R1++[rz,rz]) [false,false,false,false] [] [] [] (O2.app (.c h3 (.c h5 (.c h6 (.c h7 .n))))) (by kernel_rfl) rfl
def Zgt(a0:Int):Option Bool:=some (a0 != a0)
theorem Zkc(a0:Int)(r:Bool)(hf:Zgt a0=some r):Zaz Tryz.prog 398 [.one (.lit (.int .u64 a0))] (.one (.lit (.bool r))):=by
 refine Zaz.of Tryz.func398 rfl rfl rfl rfl fun S0 w0=>?_;unfold Zgt at hf;obtain rfl:=oi hf;exact Zai Zak 4 [rz,rz] [] [] [] [] .n (by kernel_rfl) rfl
def Zej(a0 a1:Int):Option Int:=(Zgt a0).bind fun x1=>(Zgt a1).bind fun x2=>bif x1 then bif x2 then some (0:Int)else some (-1:Int)else bif x2 then some (1:Int)else bif(decide (a0<a1))then some (-1:Int)else bif(decide (a0>a1))then some (1:Int)else some (0:Int)
theorem Zjg(a0 a1 r:Int)(hf:Zej a0 a1=some r):Zaz Tryz.prog 375 [.one (.lit (.int .u64 a0)),.one (.lit (.int .u64 a1))] (.one (.lit (.int .i64 r))):=by
 refine Zaz.of Tryz.func375 rfl rfl rfl rfl fun S0 w0=>?_;unfold Zej at hf;obtain⟨x1,q1,hf⟩:=Zaf hf;obtain⟨x2,q2,hf⟩:=Zaf hf
 let R1:List RA:=[rz,rA [(1,aB x1)],rA [(1,aB x2)],rz,rz,rz]
 have O2:Obl _:=(.c (Zkc _ _ q1) (.c (Zkc _ _ q2) .n));rcases Zah hf with⟨h3,hf⟩|⟨h3,hf⟩
 ·rcases Zah hf with⟨h4,hf⟩|⟨h4,hf⟩
  ·obtain rfl:=oi hf;exact Zai Zak 16 R1 [true,true] [] [] [] (O2.app (.c h3 (.c h4 .n))) (by kernel_rfl) rfl
  ·obtain rfl:=oi hf;exact Zai Zak 17 R1 [true,false] [] [] [] (O2.app (.c h3 (.c h4 .n))) (by kernel_rfl) rfl
 ·rcases Zah hf with⟨h5,hf⟩|⟨h5,hf⟩
  ·obtain rfl:=oi hf;exact Zai Zak 17 R1 [false,true] [] [] [] (O2.app (.c h3 (.c h5 .n))) (by kernel_rfl) rfl
  ·rcases Zah hf with⟨h6,hf⟩|⟨h6,hf⟩
   ·obtain rfl:=oi hf;exact Zai Zak 22 (R1++[rz]) [false,false,true] [] [] [] (O2.app (.c h3 (.c h5 (.c h6 .n)))) (by kernel_rfl) rfl
   ·rcases Zah hf with⟨h7,hf⟩|⟨h7,hf⟩
    ·obtain rfl:=oi hf;exact Zai Zak 27 (R1++[rz,rz]) [false,false,false,true] [] [] [] (O2.app (.c h3 (.c h5 (.c h6 (.c h7 .n))))) (by kernel_rfl) rfl
    ·obtain rfl:=oi hf;exact Zai Zak 28 (R1++[rz,rz]) [false,false,false,false] [] [] [] (O2.app (.c h3 (.c h5 (.c h6 (.c h7 .n))))) (by kernel_rfl) rfl
def ZfJ:Nat→Int→(List Int)→Int→Int→Option Int|0,_,_,_,_=>none|fu+1,v3,v6,v7,v8=>bif(decide (v8<v7))then need (0≤v8∧v8<((v6.length:Nat):Int))<|bif((v6.getD v8.toNat (0:Int)) != v3)then some (v6.getD v8.toNat (0:Int))else ZfJ fu v3 v6 v7 (Zaw v8 (1:Int))else some v3
theorem Zql(S0:Nat→Prop)(w0:ZaW):∀(fu:Nat)(v3:Int)(v6:List Int)(v7 v8 r:Int),ZfJ fu v3 v6 v7 v8=some r→Good Tryz.prog 18 S0 w0 (bodyPost Tryz.prog Tryz.f336 (Post S0 w0 (.one (.lit (.int .i64 r))))) (at_ [1,1,0,1,0] (Zbl Tryz.f336)) ⟨[(3,.one (.lit (.int .i64 v3))),(6,.one (cL 1 (cI .i64) (0:Int) v6)),(7,.one (.lit (.int .i64 v7))),(8,.one (.lit (.int .i64 v8)))],[]⟩:=by
 intro fu;induction fu with
 |zero=>
  intro v3 v6 v7 v8 r hf;simp[ZfJ]at hf
 |succ fu ih=>
  intro v3 v6 v7 v8 r hf;unfold ZfJ at hf;rcases Zah hf with⟨h1,hf⟩|⟨h1,hf⟩
  ·obtain⟨o2,hf⟩:=Zar hf;rcases Zah hf with⟨h3,hf⟩|⟨h3,hf⟩
   ·obtain rfl:=oi hf;exact Zai Zak 15 [rz,rz,rz,rz] [true,true] [] [] [] (.c h1 (.c o2 (.c h3 .n))) (by kernel_rfl) rfl
   ·exact ZaJ Zak Post.ends 17 [rz,rz,rz,rz] [true,false] ⟨[],[],[],[],[],[3,6,7,8],[],[]⟩ (.c h1 (.c o2 (.c h3 .n))) (by kernel_rfl) (ih v3 v6 v7 (Zaw v8 (1:Int)) r hf)
  ·obtain rfl:=oi hf;exact Zai Zak 8 [rz,rz] [false] [] [] [] (.c h1 .n) (by kernel_rfl) rfl
def Zhc(a0:List Int):Option Int:=ZfJ ((((a0.length:Nat):Int)-(0:Int)).toNat+2) (0:Int) a0 ((a0.length:Nat):Int) (0:Int)
theorem Zoy(a0:List Int)(r:Int)(hf:Zhc a0=some r):Zaz Tryz.prog 336 [.one (cL 1 (cI .i64) (0:Int) a0)] (.one (.lit (.int .i64 r))):=by
 refine Zaz.of Tryz.func336 rfl rfl rfl rfl fun S0 w0=>?_;unfold Zhc at hf;exact ZaJ Zak Post.ends 8 [rz,rz,rz] [] ⟨[],[],[],[],[],[3,6,7,8],[],[]⟩ .n (by kernel_rfl) (Zql S0 w0 ((((a0.length:Nat):Int)-(0:Int)).toNat+2) (0:Int) a0 ((a0.length:Nat):Int) (0:Int) r hf)
def Ziu(a0 a1:Zaj):Option Int:=(ZhV a0).bind fun x1=>(ZhV a1).bind fun x2=>(ZfA x1 x2).bind fun x3=>(Zej a0.fHi a1.fHi).bind fun x4=>(Zej a0.fLo a1.fLo).bind fun x5=>(Zhc ([x3,x4,x5]:List Int)).bind fun x6=>some x6
theorem ZqY(a0 a1:Zaj)(r:Int)(hf:Ziu a0 a1=some r):Zaz Tryz.prog 337 [.agg (Zaj.c a0),.agg (Zaj.c a1)] (.one (.lit (.int .i64 r))):=by
 refine Zaz.of Tryz.func337 rfl rfl rfl rfl fun S0 w0=>?_;unfold Ziu at hf;obtain⟨x1,q1,hf⟩:=Zaf hf;obtain⟨x2,q2,hf⟩:=Zaf hf;obtain⟨x3,q3,hf⟩:=Zaf hf;obtain⟨x4,q4,hf⟩:=Zaf hf;obtain⟨x5,q5,hf⟩:=Zaf hf;obtain⟨x6,q6,hf⟩:=Zaf hf;obtain rfl:=oi hf;exact Zai Zak 4 [rz,⟨[(1,aI x1),(3,aI x2),(4,aI x3),(9,aI x4),(14,aI x5),(16,aI x6)],[],[],[],[],[(15,(([x3,x4,x5]:List Int).length,Zao (cI .i64) (0:Int) ([x3,x4,x5]:List Int)))],[]⟩] [] [] [] [] (.c (ZnE _ _ q1) (.c (ZnE _ _ q2) (.c (Zkq _ _ _ q3) (.c (Zjg _ _ _ q4) (.c (Zjg _ _ _ q5) (.c (show ([x3,x4,x5]:List Int).length=3∧∀i j,i<3→j<1→Zao (cI .i64) (0:Int) ([x3,x4,x5]:List Int) i j=(([x3,x4,x5]:List Int).flatMap (cI .i64)).getD (i * 1+j) .junk from⟨rfl,fun i j hi hj=>ZaI (sz:=1) (e:=(cI .i64)) (d:=(0:Int)) (fun _=>rfl) ([x3,x4,x5]:List Int) i j hi hj⟩) (.c (Zoy _ _ q6) .n))))))) (by kernel_rfl) rfl
def famA(a:Zaj):Int:=if a.fV6 then 1 else 0
def cmpA(a b:Zaj):Int:=orI (cmpI (famA a) (famA b)) (orI (cmpI a.fHi b.fHi) (cmpI a.fLo b.fLo))
theorem ZCJ(a b:Int):ZfA a b=some (cmpI a b):=by
 simp only[ZfA,ZhL,cmpI,bne_self_eq_false,Option.bind_some,cond_false];by_cases h1:a<b<;>by_cases h2:a>b<;>simp[h1,h2]<;>omega
theorem ZFR(a b:Int):Zej a b=some (cmpI a b):=by
 simp only[Zej,Zgt,cmpI,bne_self_eq_false,Option.bind_some,cond_false];by_cases h1:a<b<;>by_cases h2:a>b<;>simp[h1,h2]<;>omega
theorem or2(a b:Int):Zhc [a,b]=some (orI a b):=by
 unfold Zhc orI;simp only[List.length_cons,List.length_nil];rw[show (((0+1+1:Nat):Int)-0).toNat+2=4 from rfl];simp only[ZfJ,show Zaw 0 1=1 from rfl,show Zaw 1 1=2 from rfl];simp only[Bool.cond_eq_ite,bne_iff_ne,ne_eq,ite_not,need];by_cases h1:a=0<;>by_cases h2:b=0<;>simp[h1,h2]
theorem or3(a b c:Int):Zhc [a,b,c]=some (orI a (orI b c)):=by
 unfold Zhc orI;simp only[List.length_cons,List.length_nil];rw[show (((0+1+1+1:Nat):Int)-0).toNat+2=5 from rfl];simp only[ZfJ,show Zaw 0 1=1 from rfl,show Zaw 1 1=2 from rfl,show Zaw 2 1=3 from rfl];simp only[Bool.cond_eq_ite,bne_iff_ne,ne_eq,ite_not,need];by_cases h1:a=0<;>by_cases h2:b=0<;>by_cases h3:c=0<;>simp[h1,h2,h3]
theorem ZEs(a b:Zaj):Ziu a b=some (cmpA a b):=by
 have hf:∀c,ZhV c=some (famA c):=fun c=>by unfold ZhV famA;cases c.fV6<;>rfl
 simp only[Ziu,hf,ZCJ,ZFR,or3,Option.bind_some,cmpA]
theorem ZBM{a b:Int}:orI a b<0↔a<0∨(a=0∧b<0):=by unfold orI;constructor<;>intro h<;>(repeat' split at *)<;>omega
theorem ZEM{a b:Int}:0<orI a b↔0<a∨(a=0∧0<b):=by unfold orI;constructor<;>intro h<;>(repeat' split at *)<;>omega
theorem Zzr{a b:Int}:orI a b=0↔a=0∧b=0:=by unfold orI;constructor<;>intro h<;>(repeat' split at *)<;>omega
theorem ZFJ{a b:Zaj}:famA a=famA b↔a.fV6=b.fV6:=by unfold famA;cases a.fV6<;>cases b.fV6<;>simp
theorem ZCN{a b:Zaj}:cmpA a b<0↔famA a<famA b∨(famA a=famA b∧(a.fHi<b.fHi∨(a.fHi=b.fHi∧a.fLo<b.fLo))):=by simp only[cmpA,ZBM,ZyI,Zqw]
theorem ZFU{a b:Zaj}:0<cmpA a b↔famA b<famA a∨(famA a=famA b∧(b.fHi<a.fHi∨(a.fHi=b.fHi∧b.fLo<a.fLo))):=by simp only[cmpA,ZEM,ZCK,Zqw]
theorem Zqz{a b:Zaj}:cmpA a b=0↔a=b:=by
 simp only[cmpA,Zzr,Zqw,ZFJ];obtain⟨v,hi,lo⟩:=a;obtain⟨v',hi',lo'⟩:=b;simp
theorem ZuF{a b c:Zaj}(h1:cmpA a b<0)(h2:cmpA b c<0):cmpA a c<0:=by
 rw[ZCN]at *
 omega
theorem ZCM{a b:Zaj}:0<cmpA a b↔cmpA b a<0:=by
 rw[ZFU,ZCN];constructor<;>intro h<;>omega
def Zit(a0 a1:Zas):Option Int:=(Ziu a0.fAddr a1.fAddr).bind fun x1=>(ZfA a0.fBits a1.fBits).bind fun x2=>(Zhc ([x1,x2]:List Int)).bind fun x3=>some x3
theorem ZqW(a0 a1:Zas)(r:Int)(hf:Zit a0 a1=some r):Zaz Tryz.prog 349 [.agg (Zas.c a0),.agg (Zas.c a1)] (.one (.lit (.int .i64 r))):=by
 refine Zaz.of Tryz.func349 rfl rfl rfl rfl fun S0 w0=>?_;unfold Zit at hf;obtain⟨x1,q1,hf⟩:=Zaf hf;obtain⟨x2,q2,hf⟩:=Zaf hf;obtain⟨x3,q3,hf⟩:=Zaf hf;obtain rfl:=oi hf;exact Zai Zak 4 [rz,⟨[(4,aI x1),(9,aI x2),(11,aI x3)],[],[],[],[],[(10,(([x1,x2]:List Int).length,Zao (cI .i64) (0:Int) ([x1,x2]:List Int)))],[]⟩] [] [] [] [] (.c (ZqY _ _ _ q1) (.c (Zkq _ _ _ q2) (.c (show ([x1,x2]:List Int).length=2∧∀i j,i<2→j<1→Zao (cI .i64) (0:Int) ([x1,x2]:List Int) i j=(([x1,x2]:List Int).flatMap (cI .i64)).getD (i * 1+j) .junk from⟨rfl,fun i j hi hj=>ZaI (sz:=1) (e:=(cI .i64)) (d:=(0:Int)) (fun _=>rfl) ([x1,x2]:List Int) i j hi hj⟩) (.c (Zoy _ _ q3) .n)))) (by kernel_rfl) rfl
def cmpN(a b:Zas):Int:=orI (cmpA a.fAddr b.fAddr) (cmpI a.fBits b.fBits)
theorem ZEf(a b:Zas):Zit a b=some (cmpN a b):=by
 simp only[Zit,ZEs,ZCJ,or2,Option.bind_some,cmpN]
theorem ZFS{a b:Zas}:cmpN a b<0↔cmpA a.fAddr b.fAddr<0∨(a.fAddr=b.fAddr∧a.fBits<b.fBits):=by simp only[cmpN,ZBM,ZyI,Zqz]
theorem ZAX{a b c:Zas}(h1:cmpN a b<0)(h2:cmpN b c<0):cmpN a c<0:=by
 rw[ZFS]at *
 rcases h1 with h1|⟨h1,h3⟩<;>rcases h2 with h2|⟨h2,h4⟩
 ·exact .inl (ZuF h1 h2)
 ·exact .inl (h2 ▸ h1)
 ·exact .inl (h1 ▸ h2)
 ·exact .inr ⟨h1.trans h2,by omega⟩
set_option maxHeartbeats 4000000 in
set_option maxRecDepth 100000 in
theorem ZwG (b n c i vb m vc : Nat) (cur vcur : Array Value) (w : World) (hi : i < n) (hm : 0 < m) (hroom : n + m ≤ c) (hc63 : c ≤ maxLen) (hvb : vb ≠ b)
    (hcur:w.heap[b]? = some (.cells cur 146 (0,0))) (hcs:cur.size = c * 5) (hvcur:w.heap[vb]? = some (.cells vcur 146 (0,0))) (hvm:m≤vc) (hvs:vcur.size = vc * 5)
    (h1c : ∀ v ∈ cur.toList.take (n * 5),v.oneCell' = true) (h1v : ∀ v ∈ vcur.toList.take (m * 5),v.oneCell' = true) :
    Calls Tryz.prog 350 #[.slice (some ⟨b,0,none⟩) n c,.int .i64 i,.slice (some ⟨vb,0,none⟩) m vc] w fun e w' =>
      ∃ R:Array Value,e = .returned (.slice (some ⟨b,0,none⟩) (n + m) c)∧w.drawn≤w'.drawn∧w.grownBy w' (some b)∧w'.heap[b]? = some (.cells R 146 (0,0))∧R.size = c * 5 ∧
        R.toList.take ((n + m) * 5) = cur.toList.take (i * 5) ++ vcur.toList.take (m * 5) ++ (cur.toList.drop (i * 5)).take ((n - i) * 5):=by
  have hc63':=hc63
  unfold maxLen at hc63
  have hz1 : ¬ ((m:Int) = 0):=by omega
  have hz2 : ¬ ((i:Int) = (n:Int)):=by omega
  have hw1:IntKind.i64.wrap ((i:Int) + (m:Int)) = (i:Int) + (m:Int):=by rw [IntKind.wrap_i64]; omega
  have hw2:IntKind.i64.wrap ((n:Int) + (m:Int)) = (n:Int) + (m:Int):=by rw [IntKind.wrap_i64]; omega
  have hb1:(0:Int)≤(i:Int) + (m:Int):=by omega
  have hin:i≤n:=by omega
  have htn:((i:Int) + (m:Int)).toNat = i + m:=by omega
  have hb2 : ¬ (c = i + m):=by omega
  have hb3:(i:Int)≤(n:Int) + (m:Int):=by omega
  have hb4 : ¬ (c = i):=by omega
  have hov : ∀ o lb cb,(callFunc 382 #[.slice (some ⟨vb,0,none⟩) m vc,.slice (some ⟨b,o,none⟩) lb cb]).run Tryz.prog w = .ok (.value (.bool false)) w:=fun o lb cb =>by
    rw [run_callFunc_extern Tryz.func382 (by kernel_rfl) (by kernel_rfl) (by kernel_rfl) (e:=Extern.SlicesOverlaps.overlaps #[45,45] #[4]) (by kernel_rfl),
      Lib.run_overlaps_apart w 45 4 146 Tryz.underlying45 5 Tryz.sizeOf146 ⟨vb,0,none⟩ ⟨b,o,none⟩ m vc lb cb hvb 146 146 vcur.size cur.size (by simp [World.shape?,hvcur]) (by simp [World.shape?,hcur]) (by omega) (by simp [World.frozen?,hvcur]) (by simp [World.frozen?,hvcur])]
    rfl
  have hsz:(Tryz.prog.info? 146).map (·.size) = some 5:=by kernel_rfl
  obtain ⟨M1,hM1⟩ : ∃ M1,M1 = ZgC cur.toList ((i + m) * 5) ((cur.toList.drop (i * 5)).take ((n - i) * 5)):=⟨_,rfl⟩
  have hM1l:M1.toArray.size = c * 5:=by
    rw [hM1]; simp [ZgC]; omega
  have hcp1 : ∀ ty dc sc,(Builtin.copy_ #[45,45] ty #[.slice (some ⟨b,(i + m) * 5,none⟩) (n + m - (i + m)) dc,.slice (some ⟨b,i * 5,none⟩) (n + m - i) sc]).run Tryz.prog w.drew = .ok (goInt ((n - i:Nat):Int)) (w.drew.setRow b M1.toArray):=fun ty dc sc =>by
    have h:=Zkr (P:=Tryz.prog) w.drew 45 45 ty 146 5 b ((i + m) * 5) (n + m - (i + m)) dc ⟨b,i * 5,none⟩ (n + m - i) sc cur 146 ((cur.toList.drop (i * 5)).take ((n - i) * 5)) Tryz.underlying45 hsz
      (by have : Nat.min (n + m - i) (n + m - (i + m)) = n - i := by simp only [Nat.min_def]; split <;> omega
          rw [this]; simp; omega)
      (fun j v hj =>by
        rw [ZeF]
        rw [List.getElem?_take] at hj
        split at hj
        · rw [List.getElem?_drop] at hj
          rw [show w.drew.cell? ⟨b,i * 5 + j,none⟩ = w.cell? ⟨b,i * 5 + j,none⟩ from rfl,cell_of_row w b _ cur 146 (0,0) hcur]
          simpa using hj
        · cases hj)
      hcur (by simp; omega) (fun v hv =>h1c v (by
        obtain ⟨j,hj⟩:=List.getElem?_of_mem hv
        rw [List.getElem?_take] at hj
        split at hj
        · rw [List.getElem?_drop] at hj
          exact List.mem_of_getElem? (i:=i * 5 + j) (by rw [List.getElem?_take,if_pos (by omega)]; exact hj)
        · cases hj))
    rw [show Nat.min (n + m - i) (n + m - (i + m)) = n - i by simp only [Nat.min_def]; split <;> omega,← hM1] at h
    exact h
  obtain ⟨W1,hW1⟩ : ∃ W1,W1 = w.drew.setRow b M1.toArray:=⟨_,rfl⟩
  have hW1b:W1.heap[b]? = some (.cells M1.toArray 146 (0,0)):=by
    rw [hW1]; exact setRow_heap _ _ _ _ _ _ hcur
  have hW1v:W1.heap[vb]? = some (.cells vcur 146 (0,0)):=by
    rw [hW1,setRow_other _ _ _ _ hvb]; exact hvcur
  have hcp2 : ∀ (W:World),W.heap = W1.heap→∀ ty dc,(Builtin.copy_ #[45,45] ty #[.slice (some ⟨b,i * 5,none⟩) (n + m - i) dc,.slice (some ⟨vb,0,none⟩) m vc]).run Tryz.prog W = .ok (goInt (m:Int)) (W.setRow b (ZgC M1 (i * 5) (vcur.toList.take (m * 5))).toArray):=fun W hWh ty dc =>by
    have h:=Zkr (P:=Tryz.prog) W 45 45 ty 146 5 b (i * 5) (n + m - i) dc ⟨vb,0,none⟩ m vc M1.toArray 146 (vcur.toList.take (m * 5)) Tryz.underlying45 hsz
      (by have : Nat.min m (n + m - i) = m := by simp only [Nat.min_def]; split <;> omega
          rw [this]; simp; omega)
      (fun j v hj =>by
        rw [ZeF,Nat.zero_add]
        rw [List.getElem?_take] at hj
        split at hj
        · rw [cell_of_row W vb _ vcur 146 (0,0) (by rw [hWh]; exact hW1v)]
          simpa using hj
        · cases hj)
      (by rw [hWh]; exact hW1b) (by simp at hM1l ⊢; omega) h1v
    rw [show Nat.min m (n + m - i) = m by simp only [Nat.min_def]; split <;> omega] at h
    exact h
  rw [← hW1] at hcp1
  obtain ⟨R3,hR3⟩ : ∃ R3,R3 = ZgC M1 (i * 5) (vcur.toList.take (m * 5)):=⟨_,rfl⟩
  rw [← hR3] at hcp2
  have hR3l:R3.length = c * 5:=by
    rw [hR3]; simp at hM1l; simp [ZgC]; omega
  have hfin:R3.take ((n + m) * 5) = cur.toList.take (i * 5) ++ vcur.toList.take (m * 5) ++ (cur.toList.drop (i * 5)).take ((n - i) * 5):=by
    have hM1l' : M1.length = c * 5:=by simpa using hM1l
    have hvl:(vcur.toList.take (m * 5)).length = m * 5:=by simp; omega
    have hdl:((cur.toList.drop (i * 5)).take ((n - i) * 5)).length = (n - i) * 5:=by simp; omega
    apply List.ext_getElem?
    intro k
    rw [List.getElem?_take]
    split
    · rename_i hk
      rw [hR3,Zju _ _ _ (by rw [hvl]; omega),hM1,Zju _ _ _ (by rw [hdl]; simp; omega)]
      by_cases h1:k < i * 5
      · rw [if_neg (by omega),if_neg (by omega),List.append_assoc,List.getElem?_append_left (by simp; omega),List.getElem?_take,if_pos h1]
      · by_cases h2:k < (i + m) * 5
        · rw [if_pos ⟨by omega,by rw [hvl]; omega⟩,List.append_assoc,List.getElem?_append_right (by simp; omega),List.getElem?_append_left (by simp; omega)]
          congr 1; simp; omega
        · rw [if_neg (by rw [hvl]; omega),if_pos ⟨by omega,by rw [hdl]; omega⟩,List.getElem?_append_right (by rw [List.length_append,hvl]; simp; omega)]
          congr 1; rw [List.length_append,hvl]; simp; omega
    · rename_i hk
      rw [List.getElem?_eq_none (by rw [List.length_append,List.length_append,hvl,hdl]; simp; omega)]
  have hgb:w.grownBy (W1.setRow b R3.toArray) (some b):=by
    rw [hW1]
    exact ⟨rfl,rfl,rfl,by simp,fun k _ hk =>by
      have hne:k ≠ b:=fun h =>hk (by rw [h])
      rw [setRow_other _ _ _ _ hne,setRow_other _ _ _ _ hne]
      rfl⟩
  have hat:=setRow_heap W1 b _ R3.toArray _ _ hW1b
  have HF:=Lib.hid hfin; clear hfin
  have HL:=Lib.hid hR3l; clear hR3l
  have hdr:w.drawn≤(W1.setRow b R3.toArray).drawn:=by rw [hW1]; exact Nat.le_succ _
  have HG:=Lib.hid hgb; clear hgb
  have HD:=Lib.hid hdr; clear hdr
  have HA:=Lib.hid hat; clear hat
  clear hM1l hW1b hW1v h1c h1v hsz hR3
  clear hW1
  clear hM1
  have mixed:Tryz.prog.follows .mixedOrders = true:=by kernel_rfl
  go_enter Tryz.func350,Tryz.ntmps350
  go_wp2_with (simp only [hov])
  go_region_law_o (refine step_copy_runI rfl _ _ 45 45 rfl _ _ (by simp [Act.eval,Act.put]) (by simp [Act.eval,Act.put]) (hcp1 _ _ _) ?_)
  go_wp2_with (at_builtin; refine wpList_copy_runI _ rfl _ _ 45 45 rfl _ _ rfl rfl (hcp2 _ rfl _ _) ?_)
  go_ret
  exact ⟨R3.toArray,rfl,HD.out,HG.out,HA.out,HL.out,HF.out⟩
set_option maxHeartbeats 4000000 in
set_option maxRecDepth 100000 in
theorem Zyf (b n c i vb m vc : Nat) (cur vcur : Array Value) (w : World) (hi : i < n) (hm : 0 < m) (hnc : n ≤ c) (hroom : c < n + m) (hbig : (n + m) * 40 ≤ 140737488355328)
    (hcur:w.heap[b]? = some (.cells cur 146 (0,0))) (hcs:cur.size = c * 5) (hvcur:w.heap[vb]? = some (.cells vcur 146 (0,0))) (hvm:m≤vc) (hvs:vcur.size = vc * 5)
    (h1c : ∀ v ∈ cur.toList.take (n * 5),v.oneCell' = true) (h1v : ∀ v ∈ vcur.toList.take (m * 5),v.oneCell' = true) :
    Calls Tryz.prog 350 #[.slice (some ⟨b,0,none⟩) n c,.int .i64 i,.slice (some ⟨vb,0,none⟩) m vc] w fun e w' =>
      ∃ (G:Nat) (R:Array Value),e = .returned (.slice (some ⟨w.heap.size,0,none⟩) (n + m) G)∧w.drawn≤w'.drawn∧Below w.heap.size w w'∧w'.heap[w.heap.size]? = some (.cells R 146 (0,0))∧n + m≤G∧G≤maxLen∧R.size = G * 5 ∧
        R.toList.take ((n + m) * 5) = cur.toList.take (i * 5) ++ vcur.toList.take (m * 5) ++ (cur.toList.drop (i * 5)).take ((n - i) * 5):=by
  have hz1 : ¬ ((m:Int) = 0):=by omega
  have hz2 : ¬ ((i:Int) = (n:Int)):=by omega
  have hz3:(c:Int) < (n:Int) + (m:Int):=by omega
  have hkk:(n:Int) + (m:Int) - (i:Int) = ((n + m - i:Nat):Int):=by omega
  have hik:i + (n + m - i) = n + m:=by omega
  have hbw:b < w.heap.size:=(Array.getElem?_eq_some_iff.1 hcur).1
  have hvw:vb < w.heap.size:=(Array.getElem?_eq_some_iff.1 hvcur).1
  have hbN:b ≠ w.heap.size:=by omega
  have hvN:vb ≠ w.heap.size:=by omega
  obtain ⟨i0,hi0,hzs,hzb,hz0⟩:=ZFe.info (t:=146) (show Zek tab 146 = some _ from rfl)
  replace hzs:i0.size = 5:=hzs
  replace hzb:i0.bytes = 40:=hzb
  replace hz0:i0.zero = some (.agg #[.bool false,.int .u64 (0),.int .u64 (0),.int .i64 (0),.int .i64 (0)]):=hz0
  have hsz:(Tryz.prog.info? 146).map (·.size) = some 5:=by kernel_rfl
  have hold:(Builtin.firstCells i0.size i (.slice (some ⟨b,0,none⟩) i c)).run Tryz.prog w.drew = .ok (cur.toList.take (i * 5)).toArray w.drew:=by
    rw [hzs]
    exact run_firstCells_some w.drew 5 i ⟨b,0,none⟩ i c (cur.toList.take (i * 5)) (by simp; omega) (fun j v hj =>by
      rw [ZeF,Nat.zero_add]
      rw [List.getElem?_take] at hj
      split at hj
      · rw [show w.drew.cell? ⟨b,j,none⟩ = w.cell? ⟨b,j,none⟩ from rfl,cell_of_row w b _ cur 146 (0,0) hcur]
        simpa using hj
      · cases hj)
  obtain ⟨G,hG⟩ : ∃ G,G = grownCap w (n + m) c 146:=⟨_,rfl⟩
  obtain ⟨ROW,hROW⟩ : ∃ ROW:Array Value,ROW = (cur.toList.take (i * 5)).toArray ++ Builtin.zeroCells (Value.cells (.agg #[.bool false,.int .u64 (0),.int .u64 (0),.int .i64 (0),.int .i64 (0)])) (n + m - i) ++ Builtin.zeroCells (Value.cells (.agg #[.bool false,.int .u64 (0),.int .u64 (0),.int .i64 (0),.int .i64 (0)])) (G - (n + m)):=⟨_,rfl⟩
  have hrz : ∀ ty, (Builtin.append_ #[45, 3] ty #[.slice (some ⟨b, 0, none⟩) i c, .int .i64 ((n : Int) + (m : Int) - (i : Int))]).run Tryz.prog w =
      .ok (.slice (some ⟨w.heap.size,0,none⟩) (n + m) G) (w.drew.alloc (.cells ROW 146)):=fun ty =>by
    have h:=Lib.run_append_grow_zeros w 45 3 ty 146 i0 _ .i64 .i64 Tryz.underlying45 Tryz.underlying3 hi0 hz0 (some ⟨b,0,none⟩) i c (cur.toList.take (i * 5)) hold (n + m - i) (by omega) (by omega) (by omega) (by omega) (by rw [hzb]; omega) (by rw [hzb,hik]; exact growslice_fits hroom hbig)
    rw [hik,← hG,← hROW] at h
    rw [hkk]
    exact h
  have hGn:n + m≤G:=by rw [hG]; exact grownCap_ge w _ _ _
  have hGm:G≤maxLen:=by rw [hG]; exact grownCap_le_maxLen w (n + m) c 146 (by unfold maxLen; omega)
  have hRs:ROW.size = G * 5:=by
    rw [hROW]
    simp [Builtin.zeroCells,Value.cells]
    omega
  have hRt:ROW.toList.take (i * 5) = cur.toList.take (i * 5):=by
    rw [hROW]
    simp only [Array.toList_append,List.append_assoc]
    rw [List.take_append_of_le_length (by simp; omega)]
    simp [List.take_take]
  clear hROW hG hold
  obtain ⟨W1,hW1⟩ : ∃ W1,W1 = w.drew.alloc (.cells ROW 146):=⟨_,rfl⟩
  have hWN:W1.heap[w.heap.size]? = some (.cells ROW 146 (0,0)):=by rw [hW1]; exact heap_alloc_new w.drew _
  have hWb:W1.heap[b]? = some (.cells cur 146 (0,0)):=by rw [hW1,heap_alloc_old w.drew _ hbw]; exact hcur
  have hWv:W1.heap[vb]? = some (.cells vcur 146 (0,0)):=by rw [hW1,heap_alloc_old w.drew _ hvw]; exact hvcur
  obtain ⟨V,hV⟩ : ∃ V,V = vcur.toList.take (m * 5):=⟨_,rfl⟩
  have hVl:V.length = m * 5:=by rw [hV]; simp; omega
  obtain ⟨D,hD⟩ : ∃ D,D = (cur.toList.drop (i * 5)).take ((n - i) * 5):=⟨_,rfl⟩
  have hDl:D.length = (n - i) * 5:=by rw [hD]; simp; omega
  obtain ⟨R2,hR2⟩ : ∃ R2,R2 = ZgC ROW.toList (i * 5) V:=⟨_,rfl⟩
  have hR2l:R2.length = G * 5:=by rw [hR2]; simp [ZgC,hVl]; omega
  obtain ⟨R3,hR3⟩ : ∃ R3,R3 = ZgC R2 ((i + m) * 5) D:=⟨_,rfl⟩
  have hR3l:R3.length = G * 5:=by rw [hR3]; simp [ZgC,hDl]; omega
  have hfin:R3.take ((n + m) * 5) = cur.toList.take (i * 5) ++ V ++ D:=by
    apply List.ext_getElem?
    intro k
    rw [List.getElem?_take]
    split
    · rename_i hk
      rw [hR3,Zju _ _ _ (by rw [hDl]; omega),hR2,Zju _ _ _ (by rw [hVl]; simp; omega)]
      by_cases h1:k < i * 5
      · rw [if_neg (by omega),if_neg (by omega),List.append_assoc,List.getElem?_append_left (by simp; omega),← hRt,List.getElem?_take,if_pos h1]
      · by_cases h2:k < (i + m) * 5
        · rw [if_neg (by omega),if_pos ⟨by omega,by rw [hVl]; omega⟩,List.append_assoc,List.getElem?_append_right (by simp; omega),List.getElem?_append_left (by simp; omega)]
          congr 1; simp; omega
        · rw [if_pos ⟨by omega,by rw [hDl]; omega⟩,List.getElem?_append_right (by simp [hVl]; omega)]
          congr 1; simp [hVl]; omega
    · rename_i hk
      rw [List.getElem?_eq_none (by simp [hVl,hDl]; omega)]
  have hcpA : ∀ (W:World),W.heap = W1.heap→∀ ty dc,(Builtin.copy_ #[45,45] ty #[.slice (some ⟨w.heap.size,i * 5,none⟩) (n + m - i) dc,.slice (some ⟨vb,0,none⟩) m vc]).run Tryz.prog W = .ok (goInt (m:Int)) (W.setRow w.heap.size R2.toArray):=fun W hWh ty dc =>by
    have h:=Zkr (P:=Tryz.prog) W 45 45 ty 146 5 w.heap.size (i * 5) (n + m - i) dc ⟨vb,0,none⟩ m vc ROW 146 V Tryz.underlying45 hsz
      (by have : Nat.min m (n + m - i) = m := by simp only [Nat.min_def]; split <;> omega
          rw [this,hVl])
      (fun j v hj =>by
        rw [hV] at hj
        rw [ZeF,Nat.zero_add]
        rw [List.getElem?_take] at hj
        split at hj
        · rw [cell_of_row W vb _ vcur 146 (0,0) (by rw [hWh]; exact hWv)]
          simpa using hj
        · cases hj)
      (by rw [hWh]; exact hWN) (by rw [hVl,hRs]; omega) (by rw [hV]; exact h1v)
    rw [show Nat.min m (n + m - i) = m by simp only [Nat.min_def]; split <;> omega,← hR2] at h
    exact h
  have hcpB : ∀ (W:World),W.heap[w.heap.size]? = some (.cells R2.toArray 146 (0,0))→W.heap[b]? = some (.cells cur 146 (0,0))→∀ ty dc sc,(Builtin.copy_ #[45,45] ty #[.slice (some ⟨w.heap.size,(i + m) * 5,none⟩) (n + m - (i + m)) dc,.slice (some ⟨b,i * 5,none⟩) (n - i) sc]).run Tryz.prog W = .ok (goInt ((n - i:Nat):Int)) (W.setRow w.heap.size R3.toArray):=fun W hN hB ty dc sc =>by
    have h:=Zkr (P:=Tryz.prog) W 45 45 ty 146 5 w.heap.size ((i + m) * 5) (n + m - (i + m)) dc ⟨b,i * 5,none⟩ (n - i) sc R2.toArray 146 D Tryz.underlying45 hsz
      (by have : Nat.min (n - i) (n + m - (i + m)) = n - i := by simp only [Nat.min_def]; split <;> omega
          rw [this,hDl])
      (fun j v hj =>by
        rw [hD] at hj
        rw [ZeF]
        rw [List.getElem?_take] at hj
        split at hj
        · rw [List.getElem?_drop] at hj
          rw [cell_of_row W b _ cur 146 (0,0) hB]
          simpa using hj
        · cases hj)
      hN (by simp [hDl,hR2l]; omega) (fun v hv =>h1c v (by
        rw [hD] at hv
        obtain ⟨j,hj⟩:=List.getElem?_of_mem hv
        rw [List.getElem?_take] at hj
        split at hj
        · rw [List.getElem?_drop] at hj
          exact List.mem_of_getElem? (i:=i * 5 + j) (by rw [List.getElem?_take,if_pos (by omega)]; exact hj)
        · cases hj))
    rw [show Nat.min (n - i) (n + m - (i + m)) = n - i by simp only [Nat.min_def]; split <;> omega] at h
    rw [show R2.toArray.toList = R2 from rfl,← hR3] at h
    exact h
  have hW2N:(W1.setRow w.heap.size R2.toArray).heap[w.heap.size]? = some (.cells R2.toArray 146 (0,0)):=setRow_heap _ _ _ _ _ _ hWN
  have hW2b:(W1.setRow w.heap.size R2.toArray).heap[b]? = some (.cells cur 146 (0,0)):=by rw [setRow_other _ _ _ _ hbN]; exact hWb
  have hbel:Below w.heap.size w W1:=by
    rw [hW1]
    exact ⟨rfl,rfl,rfl,by simp,fun k hk =>heap_alloc_old w.drew _ hk⟩
  have mixed:Tryz.prog.follows .mixedOrders = true:=by kernel_rfl
  have hdr:w.drawn≤W1.drawn:=by rw [hW1]; exact Nat.le_succ _
  have HW:=Lib.hid hdr; clear hdr
  have HF:=Lib.hid hfin; clear hfin
  have hGi : ¬ (G = i):=by omega
  have hGim : ¬ (G = i + m):=by omega
  have hci : ¬ (c = i):=by omega
  have hGM:=hGm
  unfold maxLen at hGM
  have hin:i≤n:=by omega
  have htn:((i:Int) + (m:Int)).toNat = i + m:=by omega
  have hw1:IntKind.i64.wrap ((i:Int) + (m:Int)) = (i:Int) + (m:Int):=by rw [IntKind.wrap_i64]; omega
  have hb1:(0:Int)≤(i:Int) + (m:Int):=by omega
  have hb3:(i:Int)≤(n:Int):=by omega
  rw [← hV,← hD]
  rw [← hW1] at hrz
  clear hV hD hVl hDl hR2 hR2l hR3 hRt hi0 hzb hzs hz0 hsz hRs hkk hik hWN hWb hWv hcs hvs h1c h1v hcur hvcur hW1
  have HR3:=Lib.hid hR3l; clear hR3l
  go_enter Tryz.func350,Tryz.ntmps350
  go_wp2_with (first
    | (at_builtin; refine Lib.wpList_append_run _ rfl _ _ _ _ rfl _ _ rfl rfl _ _ (hrz _) ?_)
    | (at_builtin; refine wpList_copy_runI _ rfl _ _ 45 45 rfl _ _ rfl rfl (hcpA _ rfl _ _) ?_)
    | (at_builtin; refine wpList_copy_runI _ rfl _ _ 45 45 rfl _ _ rfl rfl (hcpB _ (by first | exact hW2N | assumption) (by first | exact hW2b | assumption) _ _ _) ?_))
  go_region_law_o (refine step_copy_runI rfl _ _ 45 45 rfl (.slice (some ⟨w.heap.size,(i + m) * 5,none⟩) (n + m - (i + m)) (G - (i + m))) (.slice (some ⟨b,i * 5,none⟩) (n - i) (c - i)) (by simp [Act.eval,Act.put]) (by simp [Act.eval,Act.put]) (hcpB (W1.setRow w.heap.size R2.toArray).drew hW2N hW2b 3 (G - (i + m)) (c - i)) ?_)
  go_wp2
  go_ret
  exact ⟨G,R3.toArray,rfl,Nat.le_trans HW.out (by simp [World.setRow]),⟨hbel.os,hbel.tape,hbel.output,by simpa using hbel.size,fun k hk =>by rw [setRow_other _ _ _ _ (by omega)]; exact (setRow_other _ _ _ _ (by omega)).trans (hbel.block k hk)⟩,setRow_heap _ _ _ _ _ _ hW2N,hGn,hGm,HR3.out,HF.out⟩
set_option maxHeartbeats 4000000 in
set_option maxRecDepth 100000 in
theorem ZAH(base:Option Addr)(n c vb m vc:Nat)(w w':World)(v':Value)(hnc:n≤c)(hc63:c≤maxLen)(hm:0<m)(hnil:base=none→n=0)(hm63:m≤maxLen)
  (hrun:∀ty,(Builtin.append_ #[45,45] ty #[.slice base n c,.slice (some ⟨vb,0,none⟩) m vc]).run Tryz.prog w=.ok v' w') :
  Calls Tryz.prog 350 #[.slice base n c,.int .i64 n,.slice (some ⟨vb,0,none⟩) m vc] w fun e w1=>e=.returned v'∧w'=w1:=by
 have hz1:¬((m:Int)=0):=by omega
 unfold maxLen at hc63 hm63;cases base with
 |none=>
  have h0:=hnil rfl;subst h0
  go_enter Tryz.func350,Tryz.ntmps350
  go_wp2_with (at_builtin;refine Lib.wpList_append_run _ rfl _ _ _ _ rfl _ _ rfl rfl _ _ (hrun _) ?_)
  go_ret
  exact⟨rfl,rfl⟩
 |some a=>
  obtain⟨ab,ao,asp⟩:=a
  go_enter Tryz.func350,Tryz.ntmps350
  go_wp2_with (at_builtin;refine Lib.wpList_append_run _ rfl _ _ _ _ rfl _ _ rfl rfl _ _ (hrun _) ?_)
  all_goals (go_ret;exact⟨rfl,rfl⟩)
def Zbe(a0:List Zab)(a1:Int)(a2:List Zab):Option (List Zab):=need (0≤a1∧a1.toNat≤a0.length∧0<a2.length∧(a0.length+a2.length) * 40≤140737488355328∧a0.length+a2.length≤maxLen)<|some (a0.take a1.toNat++a2++a0.drop a1.toNat)
theorem Zdb(a0:List Zab)(a1:Int)(a2 r:List Zab)(hf:Zbe a0 a1 a2=some r) :
  Zdn Tryz.prog 350 [(100000,.rows 146 5 a0.length (Zao Zab.c Zab.d a0)),(100001,.rows 146 5 a2.length (Zao Zab.c Zab.d a2))] [.one (.osl 100000 a0.length),.one (.lit (.int .i64 a1)),.one (.osl 100001 a2.length)]
   [(99999,.rows 146 5 r.length (Zao Zab.c Zab.d r))] (.one (.osl 99999 r.length)):=by
 obtain⟨⟨o1,o2,o3,o4,o5⟩,hf⟩:=Zar hf;cases hf;obtain⟨i0,hi0,hzs,hzb,hz0⟩:=ZFe.info (t:=146) (show Zek tab 146=some _ from rfl);have h:=Zye (enc:=Zab.c) (d:=Zab.d) (F:=350) (BY:=40) (K:=5) ⟨_,Tryz.func350,rfl,rfl⟩ Tryz.underlying45 hi0 hz0 hzs hzb rfl (by decide) (fun b n c i vb m vc cur vcur w h1 h2 h3 h4 h5 h6 h7 h8 h9 h10 h11 h12=>ZwG b n c i vb m vc cur vcur w h1 h2 h3 h4 h5 h6 h7 h8 h9 h10 h11 h12)
  (fun b n c i vb m vc cur vcur w h1 h2 h3 h4 h5 h6 h7 h8 h9 h10 h11 h12=>Zyf b n c i vb m vc cur vcur w h1 h2 h3 h4 h5 h6 h7 h8 h9 h10 h11 h12)
  (fun base n c vb m vc w w' v' h1 h2 h3 h4 h5 h6=>ZAH base n c vb m vc w w' v' h1 h2 h3 h4 h5 h6) a0 a2 a1.toNat o2 o3 o4 o5
 rw[Int.toNat_of_nonneg o1]at h;exact h
def ZlK(a0 c0:Zab):Option Bool:=(Zit a0.fNet c0.fNet).bind fun x1=>some (decide (x1>(0:Int)))
theorem ZsY(a0 c0:Zab)(r:Bool)(hf:ZlK a0 c0=some r):Zaz Tryz.prog 348 [.agg (Zab.c a0),.one (.rp false 5 (fun j=>(Zab.c c0:List C).getD (0+j) .junk))] (.one (.lit (.bool r))):=by
 refine Zaz.of Tryz.func348 rfl rfl rfl rfl fun S0 w0=>?_;unfold ZlK at hf;obtain⟨x1,q1,hf⟩:=Zaf hf;obtain rfl:=oi hf;exact Zai Zak 4 [rz,rA [(4,aI x1)]] [] [] [] [] (.c (ZqW _ _ _ q1) .n) (by kernel_rfl) rfl
def ZaP(a0:List Zab)(a1_0:Zab):Nat→Int→Int→Option Int|0,_,_=>none|fu+1,v7,v8=>bif(decide (v8<v7))then need (0≤v8∧v8<((a0.length:Nat):Int))<|(ZlK (a0.getD v8.toNat Zab.d) a1_0).bind fun x1=>bif x1 then some v8 else ZaP a0 a1_0 fu v7 (Zaw v8 (1:Int))else some (-1:Int)
theorem Zhb(S0:Nat→Prop)(w0:ZaW)(a0:List Zab)(a1_0:Zab):∀(fu:Nat)(v7 v8 r:Int),ZaP a0 a1_0 fu v7 v8=some r→Good Tryz.prog 19 S0 w0 (bodyPost Tryz.prog Tryz.f347 (Post S0 w0 (.one (.lit (.int .i64 r))))) (at_ [1,0,1,0] (Zbl Tryz.f347)) ⟨[(0,.one (cL 5 Zab.c Zab.d a0)),(1,.one (.clo (.func 348) 0 1 (fun i=>([]:List C).getD i .junk) (fun i=>([.rp false 5 (fun j=>(Zab.c a1_0:List C).getD (0+j) .junk)]:List C).getD i .junk))),(7,.one (.lit (.int .i64 v7))),(8,.one (.lit (.int .i64 v8)))],[]⟩:=by
 intro fu;induction fu with
 |zero=>
  intro v7 v8 r hf;simp[ZaP]at hf
 |succ fu ih=>
  intro v7 v8 r hf;unfold ZaP at hf;rcases Zah hf with⟨h1,hf⟩|⟨h1,hf⟩
  ·obtain⟨o2,hf⟩:=Zar hf;obtain⟨x1,q3,hf⟩:=Zaf hf;have O1:Obl _:=(.c h1 (.c o2 (.c (ZsY _ _ _ q3) .n)));rcases Zah hf with⟨h4,hf⟩|⟨h4,hf⟩
   ·obtain rfl:=oi hf;exact Zai Zak 15 [rz,rz,rA [(5,aB x1)],rz] [true,true] [] [] [] (O1.app (.c h4 .n)) (by kernel_rfl) rfl
   ·exact ZaJ Zak Post.ends 17 [rz,rz,rA [(5,aB x1)],rz] [true,false] ⟨[],[],[],[],[],[0,1,7,8],[],[]⟩ (O1.app (.c h4 .n)) (by kernel_rfl) (ih v7 (Zaw v8 (1:Int)) r hf)
  ·obtain rfl:=oi hf;exact Zai Zak 8 [rz,rz] [false] [] [] [] (.c h1 .n) (by kernel_rfl) rfl
def ZbA(a0:List Zab)(a1_0:Zab):Option Int:=ZaP a0 a1_0 ((((a0.length:Nat):Int)-(0:Int)).toNat+2) ((a0.length:Nat):Int) (0:Int)
theorem Zhu(a0:List Zab)(a1_0:Zab)(r:Int)(hf:ZbA a0 a1_0=some r):Zaz Tryz.prog 347 [.one (cL 5 Zab.c Zab.d a0),.one (.clo (.func 348) 0 1 (fun i=>([]:List C).getD i .junk) (fun i=>([.rp false 5 (fun j=>(Zab.c a1_0:List C).getD (0+j) .junk)]:List C).getD i .junk))] (.one (.lit (.int .i64 r))):=by
 refine Zaz.of Tryz.func347 rfl rfl rfl rfl fun S0 w0=>?_;unfold ZbA at hf;exact ZaJ Zak Post.ends 6 [rz,rz] [] ⟨[],[],[],[],[],[0,1,7,8],[],[]⟩ .n (by kernel_rfl) (Zhb S0 w0 a0 a1_0 ((((a0.length:Nat):Int)-(0:Int)).toNat+2) ((a0.length:Nat):Int) (0:Int) r hf)
def ZmJ(a0:List Zab)(a1:Zab)(a2:Int):Option ((List Zab)×Int):=(Zlb a1).bind fun x1=>bif(!x1)then some (([]:(List Zab)),(1:Int))else(Zbz a0).bind fun x2=>(Zla a0 a1.fNet).bind fun x3=>bif(decide (x3≥(0:Int)))then need (0≤x3∧x3<((a0.length:Nat):Int))<|(ZoN (a0.getD x3.toNat Zab.d) a1).bind fun x4=>need (0≤x3∧x3<((x2.length:Nat):Int))<|some ((x2.set x3.toNat x4),(0:Int))else bif(decide (((a0.length:Nat):Int)≥a2))then some (([]:(List Zab)),(5:Int))else(ZbA a0 a1).bind fun x5=>bif(decide (x5<(0:Int)))then(Zbe x2 ((a0.length:Nat):Int) ([a1]:List Zab)).bind fun x6=>some (x6,(0:Int))else(Zbe x2 x5 ([a1]:List Zab)).bind fun x7=>some (x7,(0:Int))
theorem Zvs(a0:List Zab)(a1:Zab)(a2:Int)(r:((List Zab)×Int))(hf:ZmJ a0 a1 a2=some r):Zaz Tryz.prog 295 [.one (cL 5 Zab.c Zab.d a0),.agg (Zab.c a1),.one (.lit (.int .i64 a2))] (.tup [(false,(cLs 5 Zab.c Zab.d) r.1),(false,(cI .i64) r.2)]):=by
 refine Zaz.of Tryz.func295 rfl rfl rfl rfl fun S0 w0=>?_;unfold ZmJ at hf;obtain⟨x1,q1,hf⟩:=Zaf hf;rcases Zah hf with⟨h2,hf⟩|⟨h2,hf⟩
 ·obtain rfl:=oi hf;exact Zai Zak 8 [rz,rA [(1,aB x1)],rz] [true] [] [] [(6,[(0,cL 5 Zab.c Zab.d [])])] (.c (Zpl _ _ q1) (.c h2 .n)) (by kernel_rfl) rfl
 ·obtain⟨x2,q3,hf⟩:=Zaf hf;obtain⟨x3,q4,hf⟩:=Zaf hf
  let R1:List RA:=[rz,rA [(1,aB x1)],rH [] [(1,⟨[],[(99999,15)],[(99999,.rows 146 5 x2.length (Zao Zab.c Zab.d x2))],.one (.osl 99999 x2.length)⟩)],rA [(3,aI x3)],rz]
  have O2:Obl _:=(.c (Zpl _ _ q1) (.c h2 (.c (ZfQ _ _ q3) (.c (ZtR _ _ _ q4) .n))));rcases Zah hf with⟨h5,hf⟩|⟨h5,hf⟩
  ·obtain⟨o6,hf⟩:=Zar hf;obtain⟨x4,q7,hf⟩:=Zaf hf;obtain⟨o8,hf⟩:=Zar hf;obtain rfl:=oi hf;exact Zai Zak 19 (R1++[rA [(7,aG (Zab.c x4)),(9,.c (x2.set x3.toNat x4).length (Zao Zab.c Zab.d (x2.set x3.toNat x4)))],rz]) [false,true] [15] [] [] (O2.app (.c h5 (.c o6 (.c (Zvt _ _ _ q7) (.c o8 (.c (show (x2.set x3.toNat x4).length=x2.length from List.length_set) (.c (show x3.toNat<x2.length from(ltOf o8)) (.c (show ExtU 5 x2.length (Zao Zab.c Zab.d x2) x3.toNat 0 (Zab.c x4) (Zao Zab.c Zab.d (x2.set x3.toNat x4))from(Zmc _ _ _ rfl)) .n)))))))) (by kernel_rfl) rfl
  ·rcases Zah hf with⟨h9,hf⟩|⟨h9,hf⟩
   ·obtain rfl:=oi hf;exact Zai Zak 22 (R1++[rz,rz]) [false,false,true] [] [] [(6,[(0,cL 5 Zab.c Zab.d [])])] (O2.app (.c h5 (.c h9 .n))) (by kernel_rfl) rfl
   ·obtain⟨x5,q10,hf⟩:=Zaf hf
    let R3:List RA:=(R1++[rz,⟨[(2,aI x5)],[],[(1,[4])],[],[],[],[]⟩,rz])
    have O4:Obl _:=(O2.app (.c h5 (.c h9 (.c (Zhu _ _ _ q10) .n))));rcases Zah hf with⟨h11,hf⟩|⟨h11,hf⟩
    ·obtain⟨x6,q12,hf⟩:=Zaf hf;obtain rfl:=oi hf;exact Zai Zak 30 (R3++[rz,rH [(3,.c ([a1]:List Zab).length (Zao Zab.c Zab.d ([a1]:List Zab)))] [(4,⟨[(100000,15),(100001,46)],[(99999,47)],[(99999,.rows 146 5 x6.length (Zao Zab.c Zab.d x6))],.one (.osl 99999 x6.length)⟩)]]) [false,false,false,true] [47] [] [] (O4.app (.c h11 (.c (show ([a1]:List Zab).length=1 from rfl) (.c (show ∀i j,i<1→j<5→Zao Zab.c Zab.d ([a1]:List Zab) i j=(([a1]:List Zab).flatMap Zab.c).getD (i * 5+j) .junk from(fun i j hi hj=>ZaI (sz:=5) (e:=Zab.c) (d:=Zab.d) (fun _=>rfl) ([a1]:List Zab) i j hi hj)) (.c (Zdb _ _ _ _ q12) .n))))) (by kernel_rfl) rfl
    ·obtain⟨x7,q13,hf⟩:=Zaf hf;obtain rfl:=oi hf;exact Zai Zak 30 (R3++[rH [(3,.c ([a1]:List Zab).length (Zao Zab.c Zab.d ([a1]:List Zab)))] [(4,⟨[(100000,15),(100001,46)],[(99999,47)],[(99999,.rows 146 5 x7.length (Zao Zab.c Zab.d x7))],.one (.osl 99999 x7.length)⟩)]]) [false,false,false,false] [47] [] [] (O4.app (.c h11 (.c (show ([a1]:List Zab).length=1 from rfl) (.c (show ∀i j,i<1→j<5→Zao Zab.c Zab.d ([a1]:List Zab) i j=(([a1]:List Zab).flatMap Zab.c).getD (i * 5+j) .junk from(fun i j hi hj=>ZaI (sz:=5) (e:=Zab.c) (d:=Zab.d) (fun _=>rfl) ([a1]:List Zab) i j hi hj)) (.c (Zdb _ _ _ _ q13) .n))))) (by kernel_rfl) rfl
def ZgU(a0:Zax)(a1:Zan)(a2:Zas):Option (Tout Int):=(ZkR a0.fx.fNow a0.fc.fBanFor).bind fun x1=>(Zel a1 (Zav.mk (3:Int) (0:Int) (0:Int)) false).bind fun x2=>(match x2 with | .ret x2v x2g=>(ZmJ x2v.fBans (Zab.mk a2 x1) a0.fc.fMaxBans).bind fun x3=>bif(x3.2 != (0:Int))then some (Tout.ret (0:Int) x2g)else(ZdO x2g (Zav.mk (3:Int) (0:Int) (0:Int)) (Zae.mk (0:Int) (Zaa.mk (Zag.mk (Zaj.mk false (0:Int) (0:Int)) (0:Int)) false (0:Int) (Zam.mk (0:Int) (0:Int)) (0:Int) (0:Int)) x3.1 ([]:(List Zac))) false).bind fun x4=>(match x4 with | .ret x4v x4g=>some (Tout.ret x1 x4g) | .pan x4o=>some (Tout.pan x4o) | .bad x4s=>some (Tout.bad x4s)) | .pan x2o=>some (Tout.pan x2o) | .bad x2s=>some (Tout.bad x2s))
theorem ZjW(a0:Zax)(a1:Zan)(a2:Zas)(r:(Tout Int))(hf:ZgU a0 a1 a2=some r):ZfT Tryz.prog 227 [(100000,.box (Zan.c a1))] [.agg (Zax.c a0),.one (.ifc 112 (.ptr 100000 0)),.agg (Zas.c a2)] (oc (fun x=>.one (.lit (.int .i64 x))) r):=by
 refine ZfT.of Tryz.func227 rfl rfl rfl rfl fun S0 w0=>?_;unfold ZgU at hf;obtain⟨x1,q1,hf⟩:=Zaf hf;obtain⟨x2,q2,hf⟩:=Zaf hf;cases x2 with
 |ret x2v x2g=>
  dsimp only at hf;obtain⟨x3,q3,hf⟩:=Zaf hf
  let R1:List RA:=[rz,rz,rA [(6,aI x1)],rH [(2,.id 463),(10,.r (.tup [(false,(cLs 5 Zab.c Zab.d) x3.1),(false,(cI .i64) x3.2)]) [])] [(2,⟨[(100000,100000)],[],[(100000,.box (Zan.c x2g))],.agg (Zae.c x2v)⟩)],rz]
  have O2:Obl _:=(.c (Zol _ _ _ q1) (.c (ZbY _ _ _ _ q2) (.c Zik (.c (Zvs _ _ _ _ q3) .n))));rcases Zah hf with⟨h4,hf⟩|⟨h4,hf⟩
  ·obtain rfl:=oi hf;exact Zcc Zak 14 (R1++[rz]) [true] ⟨[],[],[],[],[],[6],[100000],[]⟩ [100000] (O2.app (.c h4 .n)) (by kernel_rfl)
  ·obtain⟨x4,q5,hf⟩:=Zaf hf;cases x4 with
   |ret x4v x4g=>
    dsimp only at hf;obtain rfl:=oi hf;exact Zcc Zak 17 (R1++[⟨[(4,.id 467)],[],[],[],[(3,[(12,cL 7 Zac.c Zac.d [])])],[],[(4,⟨[(100000,100000)],[],[(100000,.box (Zan.c x4g))],.tup []⟩)]⟩,rz]) [false] ⟨[],[],[],[],[],[6],[100000],[]⟩ [100000] (O2.app (.c h4 (.c (ZbR _ _ _ _ _ q5) (.c Zhr .n)))) (by kernel_rfl)
   |_=>
    dsimp only at hf;obtain rfl:=oi hf;exact ZaG Zak 14 _ _ R1 [false] (⟨[(4,.id 467)],[],[],[],[(3,[(12,cL 7 Zac.c Zac.d [])])],[],[]⟩) 4 ⟨[(100000,100000)],pvOf q5⟩ (O2.app (.c h4 (.c (ZbR _ _ _ _ _ q5) (.c Zhr .n)))) (by kernel_rfl)
 |_=>
  dsimp only at hf;obtain rfl:=oi hf;exact ZaG Zak 7 _ _ [rz,rz,rA [(6,aI x1)]] [] (rA [(2,.id 463)]) 2 ⟨[(100000,100000)],pvOf q2⟩ (.c (Zol _ _ _ q1) (.c (ZbY _ _ _ _ q2) (.c Zik .n))) (by kernel_rfl)
def ZjE(a0:Zas)(a1:Zaj):Option Bool:=(ZhM a0).bind fun x1=>bif x1 then(Zfq a1).bind fun x2=>bif x2 then bif(a0.fAddr.fV6==a1.fV6)then(ZiG a1 a0.fBits).bind fun x3=>some (decide (x3=a0.fAddr))else some false else some false else some false
theorem Zvr(a0:Zas)(a1:Zaj)(r:Bool)(hf:ZjE a0 a1=some r):Zaz Tryz.prog 296 [.agg (Zas.c a0),.agg (Zaj.c a1)] (.one (.lit (.bool r))):=by
 refine Zaz.of Tryz.func296 rfl rfl rfl rfl fun S0 w0=>?_;unfold ZjE at hf;obtain⟨x1,q1,hf⟩:=Zaf hf;rcases Zah hf with⟨h2,hf⟩|⟨h2,hf⟩
 ·obtain⟨x2,q3,hf⟩:=Zaf hf;have O1:Obl _:=(.c (ZgZ _ _ q1) (.c h2 (.c (ZdJ _ _ q3) .n)));rcases Zah hf with⟨h4,hf⟩|⟨h4,hf⟩
  ·rcases Zah hf with⟨h5,hf⟩|⟨h5,hf⟩
   ·obtain⟨x3,q6,hf⟩:=Zaf hf;obtain rfl:=oi hf;exact Zai Zak 4 [rz,⟨[(1,aB x1),(4,aB x2),(18,aG (Zaj.c x3)),(21,aB (decide (x3=a0.fAddr)))],[(2,true),(6,true),(14,true)],[],[],[],[],[]⟩] [] [] [] [] (O1.app (.c h4 (.c h5 (.c (Zpk _ _ _ q6) (.c (ZjO x3 a0.fAddr (.tmp 23) (.tmp 25)) .n))))) (by kernel_rfl) rfl
   ·obtain rfl:=oi hf;exact Zai Zak 4 [rz,⟨[(1,aB x1),(4,aB x2)],[(2,true),(6,true),(14,false)],[],[],[],[],[]⟩] [] [] [] [] (O1.app (.c h4 (.c h5 .n))) (by kernel_rfl) rfl
  ·obtain rfl:=oi hf;exact Zai Zak 4 [rz,⟨[(1,aB x1),(4,aB x2)],[(2,true),(6,false)],[],[],[],[],[]⟩] [] [] [] [] (O1.app (.c h4 .n)) (by kernel_rfl) rfl
 ·obtain rfl:=oi hf;exact Zai Zak 4 [rz,⟨[(1,aB x1)],[(2,false)],[],[],[],[],[]⟩] [] [] [] [] (.c (ZgZ _ _ q1) (.c h2 .n)) (by kernel_rfl) rfl
def Zem:Nat→(List Zaa)→Int→Int→(List Zaa)→(List Zaa)→Zas→Option ((List Zaa)×(List Zaa))|0,_,_,_,_,_,_=>none|fu+1,v8,v9,v10,w4,w5,b3=>bif(decide (v10<v9))then need (0≤v10∧v10<((v8.length:Nat):Int))<|(ZjE b3 (((v8.getD v10.toNat Zaa.d).fEnd).fAddr)).bind fun x1=>bif x1 then need ((w4++([(v8.getD v10.toNat Zaa.d)]:List Zaa)).length * 80≤140737488355328∧(w4++([(v8.getD v10.toNat Zaa.d)]:List Zaa)).length≤maxLen)<|Zem fu v8 v9 (Zaw v10 (1:Int)) (w4++([(v8.getD v10.toNat Zaa.d)]:List Zaa)) w5 b3 else need ((w5++([(v8.getD v10.toNat Zaa.d)]:List Zaa)).length * 80≤140737488355328∧(w5++([(v8.getD v10.toNat Zaa.d)]:List Zaa)).length≤maxLen)<|Zem fu v8 v9 (Zaw v10 (1:Int)) w4 (w5++([(v8.getD v10.toNat Zaa.d)]:List Zaa)) b3 else some (w4,w5)
theorem Zpv(S0:Nat→Prop)(w0:ZaW):∀(fu:Nat)(v8:List Zaa)(v9 v10:Int)(w4 w5:List Zaa)(b3:Zas)(r:((List Zaa)×(List Zaa))),Zem fu v8 v9 v10 w4 w5 b3=some r→Good Tryz.prog 30 S0 w0 (bodyPost Tryz.prog Tryz.f228 (Post S0 w0 (.tup [(false,(cLs 10 Zaa.c Zaa.d) r.1),(false,(cLs 10 Zaa.c Zaa.d) r.2)]))) (at_ [1,0,1,0] (Zbl Tryz.f228)) ⟨[(3,.one (.ptr 3 0)),(4,.one (.osl 4 w4.length)),(5,.one (.osl 5 w5.length)),(8,.one (cL 10 Zaa.c Zaa.d v8)),(9,.one (.lit (.int .i64 v9))),(10,.one (.lit (.int .i64 v10)))],[(4,.rows 44 10 w4.length (Zao Zaa.c Zaa.d w4)),(5,.rows 44 10 w5.length (Zao Zaa.c Zaa.d w5)),(3,.box [.lit (.bool b3.fAddr.fV6),.lit (.int .u64 b3.fAddr.fHi),.lit (.int .u64 b3.fAddr.fLo),.lit (.int .i64 b3.fBits)])]⟩:=by
 intro fu;induction fu with
 |zero=>
  intro v8 v9 v10 w4 w5 b3 r hf;simp[Zem]at hf
 |succ fu ih=>
  intro v8 v9 v10 w4 w5 b3 r hf;unfold Zem at hf;rcases Zah hf with⟨h1,hf⟩|⟨h1,hf⟩
  ·obtain⟨o2,hf⟩:=Zar hf;obtain⟨x1,q3,hf⟩:=Zaf hf;have O1:Obl _:=(.c h1 (.c o2 (.c (Zvr _ _ _ q3) .n)));rcases Zah hf with⟨h4,hf⟩|⟨h4,hf⟩
   ·obtain⟨o5,hf⟩:=Zar hf;exact ZaJ Zak Post.ends 17 [rz,rz,rA [(4,aB x1)],⟨[(3,.c ((w4++([(v8.getD v10.toNat Zaa.d)]:List Zaa)).length) (Zao Zaa.c Zaa.d (w4++([(v8.getD v10.toNat Zaa.d)]:List Zaa))))],[],[],[],[],[(2,(([(v8.getD v10.toNat Zaa.d)]:List Zaa).length,Zao Zaa.c Zaa.d ([(v8.getD v10.toNat Zaa.d)]:List Zaa)))],[]⟩,rz] [true,true] ⟨[],[],[],[],[],[3,4,5,8,9,10],[22,5,3],[(22,4)]⟩ (O1.app (.c h4 (.c (show ([(v8.getD v10.toNat Zaa.d)]:List Zaa).length=1∧∀i j,i<1→j<10→Zao Zaa.c Zaa.d ([(v8.getD v10.toNat Zaa.d)]:List Zaa) i j=(([(v8.getD v10.toNat Zaa.d)]:List Zaa).flatMap Zaa.c).getD (i * 10+j) .junk from⟨rfl,fun i j hi hj=>ZaI (sz:=10) (e:=Zaa.c) (d:=Zaa.d) (fun _=>rfl) ([(v8.getD v10.toNat Zaa.d)]:List Zaa) i j hi hj⟩) (.c (ZbV (sz:=10) (e:=Zaa.c) (d:=Zaa.d) w4 ([(v8.getD v10.toNat Zaa.d)]:List Zaa)) (.c o5.1 (.c o5.2 .n)))))) (by kernel_rfl) (ih v8 v9 (Zaw v10 (1:Int)) (w4++([(v8.getD v10.toNat Zaa.d)]:List Zaa)) w5 b3 r hf)
   ·obtain⟨o6,hf⟩:=Zar hf;exact ZaJ Zak Post.ends 17 [rz,rz,rA [(4,aB x1)],⟨[(3,.c ((w5++([(v8.getD v10.toNat Zaa.d)]:List Zaa)).length) (Zao Zaa.c Zaa.d (w5++([(v8.getD v10.toNat Zaa.d)]:List Zaa))))],[],[],[],[],[(2,(([(v8.getD v10.toNat Zaa.d)]:List Zaa).length,Zao Zaa.c Zaa.d ([(v8.getD v10.toNat Zaa.d)]:List Zaa)))],[]⟩,rz] [true,false] ⟨[],[],[],[],[],[3,4,5,8,9,10],[4,26,3],[(26,5)]⟩ (O1.app (.c h4 (.c (show ([(v8.getD v10.toNat Zaa.d)]:List Zaa).length=1∧∀i j,i<1→j<10→Zao Zaa.c Zaa.d ([(v8.getD v10.toNat Zaa.d)]:List Zaa) i j=(([(v8.getD v10.toNat Zaa.d)]:List Zaa).flatMap Zaa.c).getD (i * 10+j) .junk from⟨rfl,fun i j hi hj=>ZaI (sz:=10) (e:=Zaa.c) (d:=Zaa.d) (fun _=>rfl) ([(v8.getD v10.toNat Zaa.d)]:List Zaa) i j hi hj⟩) (.c (ZbV (sz:=10) (e:=Zaa.c) (d:=Zaa.d) w5 ([(v8.getD v10.toNat Zaa.d)]:List Zaa)) (.c o6.1 (.c o6.2 .n)))))) (by kernel_rfl) (ih v8 v9 (Zaw v10 (1:Int)) w4 (w5++([(v8.getD v10.toNat Zaa.d)]:List Zaa)) b3 r hf)
  ·obtain rfl:=oi hf;exact Zai Zak 8 [rz,rz] [false] [4,5] [] [] (.c h1 .n) (by kernel_rfl) rfl
def Zku(a0:List Zaa)(a1:Zas):Option ((List Zaa)×(List Zaa)):=Zem ((((a0.length:Nat):Int)-(0:Int)).toNat+2) a0 ((a0.length:Nat):Int) (0:Int) ([]) ([]) a1
theorem Zrr(a0:List Zaa)(a1:Zas)(r:((List Zaa)×(List Zaa)))(hf:Zku a0 a1=some r):Zaz Tryz.prog 228 [.one (cL 10 Zaa.c Zaa.d a0),.agg (Zas.c a1)] (.tup [(false,(cLs 10 Zaa.c Zaa.d) r.1),(false,(cLs 10 Zaa.c Zaa.d) r.2)]):=by
 refine Zaz.of Tryz.func228 rfl rfl rfl rfl fun S0 w0=>?_;unfold Zku at hf;exact ZaJ Zak Post.ends 6 [rz,rz] [] ⟨[],[],[],[],[(4,4,44,10,Zao Zaa.c Zaa.d []),(5,5,44,10,Zao Zaa.c Zaa.d [])],[3,4,5,8,9,10],[4,5,3],[]⟩ .n (by kernel_rfl) (Zpv S0 w0 ((((a0.length:Nat):Int)-(0:Int)).toNat+2) a0 ((a0.length:Nat):Int) (0:Int) ([]) ([]) a1 r hf)
def ZfE:Nat→(List Zaa)→Int→Int→(List Zag)→Option (List Zag)|0,_,_,_,_=>none|fu+1,v6,v7,v8,w3=>bif(decide (v8<v7))then need (0≤v8∧v8<((v6.length:Nat):Int))<|need ((w3++([(v6.getD v8.toNat Zaa.d).fEnd]:List Zag)).length * 32≤140737488355328∧(w3++([(v6.getD v8.toNat Zaa.d).fEnd]:List Zag)).length≤maxLen)<|ZfE fu v6 v7 (Zaw v8 (1:Int)) (w3++([(v6.getD v8.toNat Zaa.d).fEnd]:List Zag))else some w3
theorem Zqj(S0:Nat→Prop)(w0:ZaW):∀(fu:Nat)(v6:List Zaa)(v7 v8:Int)(w3 r:List Zag),ZfE fu v6 v7 v8 w3=some r→Good Tryz.prog 19 S0 w0 (bodyPost Tryz.prog Tryz.f297 (Zca S0 w0 [(99999,.rows 30 4 r.length (Zao Zag.c Zag.d r))] (.one (.osl 99999 r.length)))) (at_ [1,1,0,1,0] (Zbl Tryz.f297)) ⟨[(3,.one (.osl 3 w3.length)),(6,.one (cL 10 Zaa.c Zaa.d v6)),(7,.one (.lit (.int .i64 v7))),(8,.one (.lit (.int .i64 v8)))],[(3,.rows 30 4 w3.length (Zao Zag.c Zag.d w3))]⟩:=by
 intro fu;induction fu with
 |zero=>
  intro v6 v7 v8 w3 r hf;simp[ZfE]at hf
 |succ fu ih=>
  intro v6 v7 v8 w3 r hf;unfold ZfE at hf;rcases Zah hf with⟨h1,hf⟩|⟨h1,hf⟩
  ·obtain⟨o2,hf⟩:=Zar hf;obtain⟨o3,hf⟩:=Zar hf;exact ZaJ Zak Zca.ends 14 [rz,rz,⟨[(4,.c ((w3++([(v6.getD v8.toNat Zaa.d).fEnd]:List Zag)).length) (Zao Zag.c Zag.d (w3++([(v6.getD v8.toNat Zaa.d).fEnd]:List Zag))))],[],[],[],[],[(3,(([(v6.getD v8.toNat Zaa.d).fEnd]:List Zag).length,Zao Zag.c Zag.d ([(v6.getD v8.toNat Zaa.d).fEnd]:List Zag)))],[]⟩,rz] [true] ⟨[],[],[],[],[],[3,6,7,8],[16],[(16,3)]⟩ (.c h1 (.c o2 (.c (show ([(v6.getD v8.toNat Zaa.d).fEnd]:List Zag).length=1∧∀i j,i<1→j<4→Zao Zag.c Zag.d ([(v6.getD v8.toNat Zaa.d).fEnd]:List Zag) i j=(([(v6.getD v8.toNat Zaa.d).fEnd]:List Zag).flatMap Zag.c).getD (i * 4+j) .junk from⟨rfl,fun i j hi hj=>ZaI (sz:=4) (e:=Zag.c) (d:=Zag.d) (fun _=>rfl) ([(v6.getD v8.toNat Zaa.d).fEnd]:List Zag) i j hi hj⟩) (.c (ZbV (sz:=4) (e:=Zag.c) (d:=Zag.d) w3 ([(v6.getD v8.toNat Zaa.d).fEnd]:List Zag)) (.c o3.1 (.c o3.2 .n)))))) (by kernel_rfl) (ih v6 v7 (Zaw v8 (1:Int)) (w3++([(v6.getD v8.toNat Zaa.d).fEnd]:List Zag)) r hf)
  ·obtain rfl:=oi hf;exact Zcd Zak 8 [rz,rz] [false] ⟨[],[],[],[],[],[2],[3],[(3,99999)]⟩ (.c h1 .n) (by kernel_rfl)
def ZiM(a0:List Zaa):Option (List Zag):=ZfE ((((a0.length:Nat):Int)-(0:Int)).toNat+2) a0 ((a0.length:Nat):Int) (0:Int) ([])
theorem Zrw(a0:List Zaa)(r:List Zag)(hf:ZiM a0=some r):Zdn Tryz.prog 297 [] [.one (cL 10 Zaa.c Zaa.d a0)] [(99999,.rows 30 4 r.length (Zao Zag.c Zag.d r))] (.one (.osl 99999 r.length)):=by
 refine Zdn.of Tryz.func297 rfl rfl rfl rfl fun S0 w0=>?_;unfold ZiM at hf;exact ZaJ Zak Zca.ends 8 [rz,rz,rz] [] ⟨[],[],[],[],[(3,3,30,4,Zao Zag.c Zag.d [])],[3,6,7,8],[3],[]⟩ .n (by kernel_rfl) (Zqj S0 w0 ((((a0.length:Nat):Int)-(0:Int)).toNat+2) a0 ((a0.length:Nat):Int) (0:Int) ([]) r hf)
theorem ZkV(a0:List Zaa)(r:List Zag)(hf:ZiM a0=some r):Zaz Tryz.prog 297 [.one (cL 10 Zaa.c Zaa.d a0)] (.one (cL 4 Zag.c Zag.d r)):=(Zrw a0 r hf).pure
def ZdL(a1:Bool):Nat→Int→(List Zaa)→Int→Int→Option Int|0,_,_,_,_=>none|fu+1,v5,v8,v9,v10=>bif(decide (v10<v9))then need (0≤v10∧v10<((v8.length:Nat):Int))<|bif((v8.getD v10.toNat Zaa.d).fIn==a1)then ZdL a1 fu (Zaw v5 (1:Int)) v8 v9 (Zaw v10 (1:Int))else ZdL a1 fu v5 v8 v9 (Zaw v10 (1:Int))else some v5
theorem Zpw(S0:Nat→Prop)(w0:ZaW)(a1:Bool):∀(fu:Nat)(v5:Int)(v8:List Zaa)(v9 v10 r:Int),ZdL a1 fu v5 v8 v9 v10=some r→Good Tryz.prog 22 S0 w0 (bodyPost Tryz.prog Tryz.f298 (Post S0 w0 (.one (.lit (.int .i64 r))))) (at_ [1,1,0,1,0] (Zbl Tryz.f298)) ⟨[(1,.one (.lit (.bool a1))),(5,.one (.lit (.int .i64 v5))),(8,.one (cL 10 Zaa.c Zaa.d v8)),(9,.one (.lit (.int .i64 v9))),(10,.one (.lit (.int .i64 v10)))],[]⟩:=by
 intro fu;induction fu with
 |zero=>
  intro v5 v8 v9 v10 r hf;simp[ZdL]at hf
 |succ fu ih=>
  intro v5 v8 v9 v10 r hf;unfold ZdL at hf;rcases Zah hf with⟨h1,hf⟩|⟨h1,hf⟩
  ·obtain⟨o2,hf⟩:=Zar hf;rcases Zah hf with⟨h3,hf⟩|⟨h3,hf⟩
   ·exact ZaJ Zak Post.ends 17 [rz,rz,rz,rz,rz] [true,true] ⟨[],[],[],[],[],[1,5,8,9,10],[],[]⟩ (.c h1 (.c o2 (.c h3 .n))) (by kernel_rfl) (ih (Zaw v5 (1:Int)) v8 v9 (Zaw v10 (1:Int)) r hf)
   ·exact ZaJ Zak Post.ends 17 [rz,rz,rz,rz] [true,false] ⟨[],[],[],[],[],[1,5,8,9,10],[],[]⟩ (.c h1 (.c o2 (.c h3 .n))) (by kernel_rfl) (ih v5 v8 v9 (Zaw v10 (1:Int)) r hf)
  ·obtain rfl:=oi hf;exact Zai Zak 8 [rz,rz] [false] [] [] [] (.c h1 .n) (by kernel_rfl) rfl
def ZhS(a0:List Zaa)(a1:Bool):Option Int:=ZdL a1 ((((a0.length:Nat):Int)-(0:Int)).toNat+2) (0:Int) a0 ((a0.length:Nat):Int) (0:Int)
theorem Zkh(a0:List Zaa)(a1:Bool)(r:Int)(hf:ZhS a0 a1=some r):Zaz Tryz.prog 298 [.one (cL 10 Zaa.c Zaa.d a0),.one (.lit (.bool a1))] (.one (.lit (.int .i64 r))):=by
 refine Zaz.of Tryz.func298 rfl rfl rfl rfl fun S0 w0=>?_;unfold ZhS at hf;exact ZaJ Zak Post.ends 8 [rz,rz,rz] [] ⟨[],[],[],[],[],[1,5,8,9,10],[],[]⟩ .n (by kernel_rfl) (Zpw S0 w0 a1 ((((a0.length:Nat):Int)-(0:Int)).toNat+2) (0:Int) a0 ((a0.length:Nat):Int) (0:Int) r hf)
def Zef(a3:List Zaa)(b100000:Zan):Option (Tout Unit):=(ZhS a3 false).bind fun x5=>bif(decide (x5>(0:Int)))then(ZiM a3).bind fun x6=>(ZhU b100000 x6).bind fun x7=>(match x7 with | .ret x7v x7g=>(Zhe x7g (2:Int) (IntKind.wrap .i64 (0-x5)) false).bind fun x8=>(match x8 with | .ret x8v x8g=>some (Tout.ret () x8g) | .pan x8o=>some (Tout.pan x8o) | .bad x8s=>some (Tout.bad x8s)) | .pan x7o=>some (Tout.pan x7o) | .bad x7s=>some (Tout.bad x7s))else some (Tout.ret () b100000)
theorem ZiY(S0:Nat→Prop)(w0:ZaW)(a3:List Zaa)(b100000:Zan)(r:(Tout Unit))(hf:Zef a3 b100000=some r):Good Tryz.prog 36 S0 w0 (bodyPost Tryz.prog Tryz.f229 (ZpG S0 w0 (oc (fun x=>.tup []) r))) (at_ [1,1,1] (Zbl Tryz.f229)) ⟨[(1,.one (.ifc 112 (.ptr 100000 0))),(3,.one (cL 10 Zaa.c Zaa.d a3))],[(100000,.box [cLn 13 Zae.c Zae.d b100000.fgot])]⟩:=by
 unfold Zef at hf;obtain⟨x5,q6,hf⟩:=Zaf hf;rcases Zah hf with⟨h7,hf⟩|⟨h7,hf⟩
 ·obtain⟨x6,q8,hf⟩:=Zaf hf;have O1:Obl _:=(.c (Zkh _ _ _ q6) (.c h7 (.c (ZkV _ _ q8) .n)));obtain⟨x7,q9,hf⟩:=Zaf hf;cases x7 with
  |ret x7v x7g=>
   dsimp only at hf
   let R2:List RA:=[rA [(1,aI x5)],rz,rH [(2,.r (.one (cL 4 Zag.c Zag.d x6)) [])] [(3,⟨[(100000,100000)],[],[(100000,.box (Zan.c x7g))],.tup []⟩)]]
   obtain⟨x8,q10,hf⟩:=Zaf hf;cases x8 with
   |ret x8v x8g=>
    dsimp only at hf;obtain rfl:=oi hf;exact Zcc Zak 8 (R2++[rH [] [(3,⟨[(100000,100000)],[],[(100000,.box (Zan.c x8g))],.tup []⟩)]]) [true] ⟨[],[],[],[],[],[],[100000],[]⟩ [100000] (O1.app (.c (Zfw _ _ _ q9) (.c (ZdE _ _ _ _ _ q10) .n))) (by kernel_rfl)
   |_=>
    dsimp only at hf;obtain rfl:=oi hf;exact ZaG Zak 7 _ _ R2 [true] (rz) 3 ⟨[(100000,100000)],pvOf q10⟩ (O1.app (.c (Zfw _ _ _ q9) (.c (ZdE _ _ _ _ _ q10) .n))) (by kernel_rfl)
  |_=>
   dsimp only at hf;obtain rfl:=oi hf;exact ZaG Zak 6 _ _ [rA [(1,aI x5)],rz] [true] (rA [(2,.r (.one (cL 4 Zag.c Zag.d x6)) [])]) 3 ⟨[(100000,100000)],pvOf q9⟩ (O1.app (.c (Zfw _ _ _ q9) .n)) (by kernel_rfl)
 ·obtain rfl:=oi hf;exact Zcc Zak 6 [rA [(1,aI x5)],rz] [false] ⟨[],[],[],[],[],[],[100000],[]⟩ [100000] (.c (Zkh _ _ _ q6) (.c h7 .n)) (by kernel_rfl)
def ZgV(a0:Zax)(a1:Zan)(a2 a3:List Zaa):Option (Tout Unit):=(ZiM a3).bind fun x1=>(ZdZ a0 a1 a2 x1).bind fun x2=>(match x2 with | .ret x2v x2g=>(ZhS a3 true).bind fun x3=>bif(decide (x3>(0:Int)))then(Zhe x2g (1:Int) (IntKind.wrap .i64 (0-x3)) false).bind fun x4=>(match x4 with | .ret x4v x4g=>Zef a3 x4g | .pan x4o=>some (Tout.pan x4o) | .bad x4s=>some (Tout.bad x4s))else Zef a3 x2g | .pan x2o=>some (Tout.pan x2o) | .bad x2s=>some (Tout.bad x2s))
theorem ZjX(a0:Zax)(a1:Zan)(a2 a3:List Zaa)(r:(Tout Unit))(hf:ZgV a0 a1 a2 a3=some r):ZfT Tryz.prog 229 [(100000,.box (Zan.c a1))] [.agg (Zax.c a0),.one (.ifc 112 (.ptr 100000 0)),.one (cL 10 Zaa.c Zaa.d a2),.one (cL 10 Zaa.c Zaa.d a3)] (oc (fun x=>.tup []) r):=by
 refine ZfT.of Tryz.func229 rfl rfl rfl rfl fun S0 w0=>?_;unfold ZgV at hf;obtain⟨x1,q1,hf⟩:=Zaf hf;obtain⟨x2,q2,hf⟩:=Zaf hf;cases x2 with
 |ret x2v x2g=>
  dsimp only at hf;obtain⟨x3,q3,hf⟩:=Zaf hf
  let R3:List RA:=[rz,rH [(4,.r (.one (cL 4 Zag.c Zag.d x1)) [])] [(5,⟨[(100000,100000)],[],[(100000,.box (Zan.c x2g))],.tup []⟩)],rA [(1,aI x3)],rz]
  have O4:Obl _:=(.c (ZkV _ _ q1) (.c (ZcV _ _ _ _ _ q2) (.c (Zkh _ _ _ q3) .n)));rcases Zah hf with⟨h4,hf⟩|⟨h4,hf⟩
  ·obtain⟨x4,q5,hf⟩:=Zaf hf;cases x4 with
   |ret x4v x4g=>
    dsimp only at hf;exact ZaJ Zak ZpG.ends 11 (R3++[rH [] [(3,⟨[(100000,100000)],[],[(100000,.box (Zan.c x4g))],.tup []⟩)]]) [true] ⟨[],[],[],[],[],[1,3],[100000],[]⟩ (O4.app (.c h4 (.c (ZdE _ _ _ _ _ q5) .n))) (by kernel_rfl) (ZiY S0 w0 a3 x4g r hf)
   |_=>
    dsimp only at hf;obtain rfl:=oi hf;exact ZaG Zak 10 _ _ R3 [true] (rz) 3 ⟨[(100000,100000)],pvOf q5⟩ (O4.app (.c h4 (.c (ZdE _ _ _ _ _ q5) .n))) (by kernel_rfl)
  ·exact ZaJ Zak ZpG.ends 11 R3 [false] ⟨[],[],[],[],[],[1,3],[100000],[]⟩ (O4.app (.c h4 .n)) (by kernel_rfl) (ZiY S0 w0 a3 x2g r hf)
 |_=>
  dsimp only at hf;obtain rfl:=oi hf;exact ZaG Zak 3 _ _ [rz] [] (rA [(4,.r (.one (cL 4 Zag.c Zag.d x1)) [])]) 5 ⟨[(100000,100000)],pvOf q2⟩ (.c (ZkV _ _ q1) (.c (ZcV _ _ _ _ _ q2) .n)) (by kernel_rfl)
def ZfD(a0:Zax)(a1:Zan):Option (Tout (Zaq×Bool)):=(Zdl a0 a1).bind fun x1=>(match x1 with | .ret x1v x1g=>bif(decide (x1v.2<(0:Int)))then(ZdY (6:Int)).bind fun x2=>some (Tout.ret (x2,true) x1g)else need (0≤x1v.2∧x1v.2<((x1v.1.length:Nat):Int))<|(Zev a0 (x1v.1.getD x1v.2.toNat Zaa.d)).bind fun x3=>bif(!x3.2)then(ZdR a0 x1g x1v.2 x3.1).bind fun x4=>(match x4 with | .ret x4v x4g=>(Zga x3.1.fScore).bind fun x5=>some (Tout.ret ((Zaq.mk (0:Int) (Zag.mk (Zaj.mk false (0:Int) (0:Int)) (0:Int)) x5 (0:Int) ([]:(List Zaa))),false) x4g) | .pan x4o=>some (Tout.pan x4o) | .bad x4s=>some (Tout.bad x4s))else(ZiH a0.fx.fEnd.fAddr).bind fun x6=>(ZgU a0 x1g x6).bind fun x7=>(match x7 with | .ret x7v x7g=>(Zku x1v.1 x6).bind fun x8=>(ZgV a0 x7g x1v.1 x8.1).bind fun x9=>(match x9 with | .ret x9v x9g=>some (Tout.ret ((Zaq.mk (0:Int) a0.fx.fEnd ((x8.1.length:Nat):Int) x7v ([]:(List Zaa))),true) x9g) | .pan x9o=>some (Tout.pan x9o) | .bad x9s=>some (Tout.bad x9s)) | .pan x7o=>some (Tout.pan x7o) | .bad x7s=>some (Tout.bad x7s)) | .pan x1o=>some (Tout.pan x1o) | .bad x1s=>some (Tout.bad x1s))
theorem ZiX(a0:Zax)(a1:Zan)(r:(Tout (Zaq×Bool)))(hf:ZfD a0 a1=some r):ZfT Tryz.prog 145 [(100000,.box (Zan.c a1))] [.agg (Zax.c a0),.one (.ifc 112 (.ptr 100000 0))] (oc (fun x=>.tup [(true,Zaq.c x.1),(false,cB x.2)]) r):=by
 refine ZfT.of Tryz.func145 rfl rfl rfl rfl fun S0 w0=>?_;unfold ZfD at hf;obtain⟨x1,q1,hf⟩:=Zaf hf;cases x1 with
 |ret x1v x1g=>
  dsimp only at hf
  let R1:List RA:=[rz,rH [] [(2,⟨[(100000,100000)],[],[(100000,.box (Zan.c x1g))],.tup [(false,(cLs 10 Zaa.c Zaa.d) x1v.1),(false,(cI .i64) x1v.2)]⟩)],rz]
  rcases Zah hf with⟨h2,hf⟩|⟨h2,hf⟩
  ·obtain⟨x2,q3,hf⟩:=Zaf hf;obtain rfl:=oi hf;exact Zcc Zak 10 (R1++[rA [(0,aG (Zaq.c x2))]]) [true] ⟨[],[],[],[],[],[4,5],[4,100000],[]⟩ [100000] (.c (ZaZ _ _ _ q1) (.c h2 (.c (ZeS _ _ q3) .n))) (by kernel_rfl)
  ·obtain⟨o4,hf⟩:=Zar hf;obtain⟨x3,q5,hf⟩:=Zaf hf
   let R2:List RA:=(R1++[rA [(5,.r (.tup [(true,Zaa.c x3.1),(false,cB x3.2)]) [])],rz])
   have O3:Obl _:=(.c (ZaZ _ _ _ q1) (.c h2 (.c o4 (.c (Zjo _ _ _ q5) .n))));rcases Zah hf with⟨h6,hf⟩|⟨h6,hf⟩
   ·obtain⟨x4,q7,hf⟩:=Zaf hf;cases x4 with
    |ret x4v x4g=>
     dsimp only at hf;obtain⟨x5,q8,hf⟩:=Zaf hf;obtain rfl:=oi hf;exact Zcc Zak 19 (R2++[rH [] [(4,⟨[(100000,100000)],[],[(100000,.box (Zan.c x4g))],.tup []⟩)],rA [(2,aI x5)]]) [false,true] ⟨[],[(4,[(7,cL 10 Zaa.c Zaa.d [])])],[],[],[],[4,5],[4,100000],[]⟩ [100000] (O3.app (.c h6 (.c (ZcB _ _ _ _ _ q7) (.c (ZnD _ _ q8) .n)))) (by kernel_rfl)
    |_=>
     dsimp only at hf;obtain rfl:=oi hf;exact ZaG Zak 16 _ _ R2 [false,true] (rz) 4 ⟨[(100000,100000)],pvOf q7⟩ (O3.app (.c h6 (.c (ZcB _ _ _ _ _ q7) .n))) (by kernel_rfl)
   ·obtain⟨x6,q9,hf⟩:=Zaf hf;obtain⟨x7,q10,hf⟩:=Zaf hf;cases x7 with
    |ret x7v x7g=>
     dsimp only at hf;obtain⟨x8,q11,hf⟩:=Zaf hf
     let R4:List RA:=(R2++[rA [(4,aG (Zas.c x6))],rH [] [(6,⟨[(100000,100000)],[],[(100000,.box (Zan.c x7g))],.one (.lit (.int .i64 x7v))⟩)],rA [(2,.r (.tup [(false,(cLs 10 Zaa.c Zaa.d) x8.1),(false,(cLs 10 Zaa.c Zaa.d) x8.2)]) [])]])
     have O5:Obl _:=(O3.app (.c h6 (.c (Zma _ _ q9) (.c (ZjW _ _ _ _ q10) (.c (Zrr _ _ _ q11) .n)))));obtain⟨x9,q12,hf⟩:=Zaf hf;cases x9 with
     |ret x9v x9g=>
      dsimp only at hf;obtain rfl:=oi hf;exact Zcc Zak 28 (R4++[rH [] [(4,⟨[(100000,100000)],[],[(100000,.box (Zan.c x9g))],.tup []⟩)],rz,rz]) [false,false] ⟨[],[(4,[(7,cL 10 Zaa.c Zaa.d [])])],[],[],[],[4,5],[4,100000],[]⟩ [100000] (O5.app (.c (ZjX _ _ _ _ _ q12) .n)) (by kernel_rfl)
     |_=>
      dsimp only at hf;obtain rfl:=oi hf;exact ZaG Zak 23 _ _ R4 [false,false] (rz) 4 ⟨[(100000,100000)],pvOf q12⟩ (O5.app (.c (ZjX _ _ _ _ _ q12) .n)) (by kernel_rfl)
    |_=>
     dsimp only at hf;obtain rfl:=oi hf;exact ZaG Zak 19 _ _ (R2++[rA [(4,aG (Zas.c x6))]]) [false,false] (rz) 6 ⟨[(100000,100000)],pvOf q10⟩ (O3.app (.c h6 (.c (Zma _ _ q9) (.c (ZjW _ _ _ _ q10) .n)))) (by kernel_rfl)
 |_=>
  dsimp only at hf;obtain rfl:=oi hf;exact ZaG Zak 3 _ _ [rz] [] (rz) 2 ⟨[(100000,100000)],pvOf q1⟩ (.c (ZaZ _ _ _ q1) .n) (by kernel_rfl)
def Zgg(a0:Zax)(a1:Zan):Option (Tout Zaq):=(Zdl a0 a1).bind fun x1=>(match x1 with | .ret x1v x1g=>bif(decide (x1v.2<(0:Int)))then(Zbd a0).bind fun x2=>(Zbb x1g x2 true).bind fun x3=>(match x3 with | .ret x3v x3g=>(ZdY (6:Int)).bind fun x4=>some (Tout.ret x4 x3g) | .pan x3o=>some (Tout.pan x3o) | .bad x3s=>some (Tout.bad x3s))else need (0≤x1v.2∧x1v.2<((x1v.1.length:Nat):Int))<|(Zev a0 (x1v.1.getD x1v.2.toNat Zaa.d)).bind fun x5=>bif(!x5.2)then(ZdR a0 x1g x1v.2 x5.1).bind fun x6=>(match x6 with | .ret x6v x6g=>(Zbd a0).bind fun x7=>(Zbb x6g x7 false).bind fun x8=>(match x8 with | .ret x8v x8g=>(Zga x5.1.fScore).bind fun x9=>some (Tout.ret (Zaq.mk (0:Int) (Zag.mk (Zaj.mk false (0:Int) (0:Int)) (0:Int)) x9 (0:Int) ([]:(List Zaa))) x8g) | .pan x8o=>some (Tout.pan x8o) | .bad x8s=>some (Tout.bad x8s)) | .pan x6o=>some (Tout.pan x6o) | .bad x6s=>some (Tout.bad x6s))else(Zbd a0).bind fun x10=>(Zbb x1g x10 false).bind fun x11=>(match x11 with | .ret x11v x11g=>(ZeT x11g (0:Int) false).bind fun x12=>(match x12 with | .ret x12v x12g=>(ZeT x12g (1:Int) false).bind fun x13=>(match x13 with | .ret x13v x13g=>(ZfD a0 x13g).bind fun x14=>(match x14 with | .ret x14v x14g=>(Zbb x14g x10 x14v.2).bind fun x15=>(match x15 with | .ret x15v x15g=>(Zbb x15g (1:Int) false).bind fun x16=>(match x16 with | .ret x16v x16g=>(Zbb x16g (0:Int) false).bind fun x17=>(match x17 with | .ret x17v x17g=>some (Tout.ret x14v.1 x17g) | .pan x17o=>some (Tout.pan x17o) | .bad x17s=>some (Tout.bad x17s)) | .pan x16o=>some (Tout.pan x16o) | .bad x16s=>some (Tout.bad x16s)) | .pan x15o=>some (Tout.pan x15o) | .bad x15s=>some (Tout.bad x15s)) | .pan x14o=>some (Tout.pan x14o) | .bad x14s=>some (Tout.bad x14s)) | .pan x13o=>some (Tout.pan x13o) | .bad x13s=>some (Tout.bad x13s)) | .pan x12o=>some (Tout.pan x12o) | .bad x12s=>some (Tout.bad x12s)) | .pan x11o=>some (Tout.pan x11o) | .bad x11s=>some (Tout.bad x11s)) | .pan x1o=>some (Tout.pan x1o) | .bad x1s=>some (Tout.bad x1s))
theorem Zhy(a0:Zax)(a1:Zan)(r:(Tout Zaq))(hf:Zgg a0 a1=some r):ZfT Tryz.prog 69 [(100000,.box (Zan.c a1))] [.agg (Zax.c a0),.one (.ifc 112 (.ptr 100000 0))] (oc (fun x=>.agg (Zaq.c x)) r):=by
 refine ZfT.of Tryz.func69 rfl rfl rfl rfl fun S0 w0=>?_;unfold Zgg at hf;obtain⟨x1,q1,hf⟩:=Zaf hf;cases x1 with
 |ret x1v x1g=>
  dsimp only at hf
  let R1:List RA:=[rz,rH [] [(2,⟨[(100000,100000)],[],[(100000,.box (Zan.c x1g))],.tup [(false,(cLs 10 Zaa.c Zaa.d) x1v.1),(false,(cI .i64) x1v.2)]⟩)],rz]
  rcases Zah hf with⟨h2,hf⟩|⟨h2,hf⟩
  ·obtain⟨x2,q3,hf⟩:=Zaf hf;have O2:Obl _:=(.c (ZaZ _ _ _ q1) (.c h2 (.c (Zbi _ _ q3) (.c Zfr .n))));obtain⟨x3,q4,hf⟩:=Zaf hf;cases x3 with
   |ret x3v x3g=>
    dsimp only at hf;obtain⟨x4,q5,hf⟩:=Zaf hf;obtain rfl:=oi hf;exact Zcc Zak 12 (R1++[rH [(2,aI x2),(6,.id 462)] [(6,⟨[(100000,100000)],[],[(100000,.box (Zan.c x3g))],.tup []⟩)],rA [(0,aG (Zaq.c x4))]]) [true] ⟨[],[],[],[],[],[4],[4,100000],[]⟩ [100000] (O2.app (.c (ZaD _ _ _ _ q4) (.c ZbQ (.c (ZeS _ _ q5) .n)))) (by kernel_rfl)
   |_=>
    dsimp only at hf;obtain rfl:=oi hf;exact ZaG Zak 9 _ _ R1 [true] (rA [(2,aI x2),(6,.id 462)]) 6 ⟨[(100000,100000)],pvOf q4⟩ (O2.app (.c (ZaD _ _ _ _ q4) (.c ZbQ .n))) (by kernel_rfl)
  ·obtain⟨o6,hf⟩:=Zar hf;obtain⟨x5,q7,hf⟩:=Zaf hf
   let R3:List RA:=(R1++[rA [(5,.r (.tup [(true,Zaa.c x5.1),(false,cB x5.2)]) [])],rz])
   have O4:Obl _:=(.c (ZaZ _ _ _ q1) (.c h2 (.c o6 (.c (Zjo _ _ _ q7) .n))));rcases Zah hf with⟨h8,hf⟩|⟨h8,hf⟩
   ·obtain⟨x6,q9,hf⟩:=Zaf hf;cases x6 with
    |ret x6v x6g=>
     dsimp only at hf;obtain⟨x7,q10,hf⟩:=Zaf hf
     let R5:List RA:=(R3++[rH [] [(4,⟨[(100000,100000)],[],[(100000,.box (Zan.c x6g))],.tup []⟩)]])
     have O6:Obl _:=(O4.app (.c h8 (.c (ZcB _ _ _ _ _ q9) (.c (Zbi _ _ q10) (.c Zfr .n)))));obtain⟨x8,q11,hf⟩:=Zaf hf;cases x8 with
     |ret x8v x8g=>
      dsimp only at hf;obtain⟨x9,q12,hf⟩:=Zaf hf;obtain rfl:=oi hf;exact Zcc Zak 21 (R5++[rH [(2,aI x7),(6,.id 462)] [(6,⟨[(100000,100000)],[],[(100000,.box (Zan.c x8g))],.tup []⟩)],rA [(2,aI x9)]]) [false,true] ⟨[],[(4,[(7,cL 10 Zaa.c Zaa.d [])])],[],[],[],[4],[4,100000],[]⟩ [100000] (O6.app (.c (ZaD _ _ _ _ q11) (.c ZbQ (.c (ZnD _ _ q12) .n)))) (by kernel_rfl)
     |_=>
      dsimp only at hf;obtain rfl:=oi hf;exact ZaG Zak 18 _ _ R5 [false,true] (rA [(2,aI x7),(6,.id 462)]) 6 ⟨[(100000,100000)],pvOf q11⟩ (O6.app (.c (ZaD _ _ _ _ q11) (.c ZbQ .n))) (by kernel_rfl)
    |_=>
     dsimp only at hf;obtain rfl:=oi hf;exact ZaG Zak 16 _ _ R3 [false,true] (rz) 4 ⟨[(100000,100000)],pvOf q9⟩ (O4.app (.c h8 (.c (ZcB _ _ _ _ _ q9) .n))) (by kernel_rfl)
   ·obtain⟨x10,q13,hf⟩:=Zaf hf;have O7:Obl _:=(O4.app (.c h8 (.c (Zbi _ _ q13) (.c Zfr .n))));obtain⟨x11,q14,hf⟩:=Zaf hf;cases x11 with
    |ret x11v x11g=>
     dsimp only at hf
     let R8:List RA:=(R3++[rH [(2,aI x10),(6,.id 462)] [(6,⟨[(100000,100000)],[],[(100000,.box (Zan.c x11g))],.tup []⟩)]])
     have O9:Obl _:=(O7.app (.c (ZaD _ _ _ _ q14) (.c ZbQ .n)));obtain⟨x12,q15,hf⟩:=Zaf hf;cases x12 with
     |ret x12v x12g=>
      dsimp only at hf
      let R10:List RA:=(R8++[rH [(1,.id 464)] [(1,⟨[(100000,100000)],[],[(100000,.box (Zan.c x12g))],.tup []⟩)]])
      have O11:Obl _:=(O9.app (.c (ZcQ _ _ _ _ q15) (.c ZjR .n)));obtain⟨x13,q16,hf⟩:=Zaf hf;cases x13 with
      |ret x13v x13g=>
       dsimp only at hf
       let R12:List RA:=(R10++[rH [(1,.id 464)] [(1,⟨[(100000,100000)],[],[(100000,.box (Zan.c x13g))],.tup []⟩)]])
       have O13:Obl _:=(O11.app (.c (ZcQ _ _ _ _ q16) (.c ZjR .n)));obtain⟨x14,q17,hf⟩:=Zaf hf;cases x14 with
       |ret x14v x14g=>
        dsimp only at hf
        let R14:List RA:=(R12++[rH [] [(2,⟨[(100000,100000)],[],[(100000,.box (Zan.c x14g))],.tup [(true,Zaq.c x14v.1),(false,cB x14v.2)]⟩)]])
        have O15:Obl _:=(O13.app (.c (ZiX _ _ _ q17) (.c (Zbi _ _ q13) (.c Zfr .n))));obtain⟨x15,q18,hf⟩:=Zaf hf;cases x15 with
        |ret x15v x15g=>
         dsimp only at hf
         let R16:List RA:=(R14++[rH [(2,aI x10),(7,.id 462)] [(7,⟨[(100000,100000)],[],[(100000,.box (Zan.c x15g))],.tup []⟩)]])
         have O17:Obl _:=(O15.app (.c (ZaD _ _ _ _ q18) (.c ZbQ .n)));obtain⟨x16,q19,hf⟩:=Zaf hf;cases x16 with
         |ret x16v x16g=>
          dsimp only at hf
          let R18:List RA:=(R16++[rH [(1,.id 462)] [(1,⟨[(100000,100000)],[],[(100000,.box (Zan.c x16g))],.tup []⟩)]])
          have O19:Obl _:=(O17.app (.c (ZaD _ _ _ _ q19) (.c ZbQ .n)));obtain⟨x17,q20,hf⟩:=Zaf hf;cases x17 with
          |ret x17v x17g=>
           dsimp only at hf;obtain rfl:=oi hf;exact Zcc Zak 32 (R18++[rH [(1,.id 462)] [(1,⟨[(100000,100000)],[],[(100000,.box (Zan.c x17g))],.tup []⟩)],rz]) [false,false] ⟨[],[],[],[],[],[4],[4,100000],[]⟩ [100000] (O19.app (.c (ZaD _ _ _ _ q20) (.c ZbQ .n))) (by kernel_rfl)
          |_=>
           dsimp only at hf;obtain rfl:=oi hf;exact ZaG Zak 29 _ _ R18 [false,false] (rA [(1,.id 462)]) 1 ⟨[(100000,100000)],pvOf q20⟩ (O19.app (.c (ZaD _ _ _ _ q20) (.c ZbQ .n))) (by kernel_rfl)
         |_=>
          dsimp only at hf;obtain rfl:=oi hf;exact ZaG Zak 27 _ _ R16 [false,false] (rA [(1,.id 462)]) 1 ⟨[(100000,100000)],pvOf q19⟩ (O17.app (.c (ZaD _ _ _ _ q19) (.c ZbQ .n))) (by kernel_rfl)
        |_=>
         dsimp only at hf;obtain rfl:=oi hf;exact ZaG Zak 25 _ _ R14 [false,false] (rA [(2,aI x10),(7,.id 462)]) 7 ⟨[(100000,100000)],pvOf q18⟩ (O15.app (.c (ZaD _ _ _ _ q18) (.c ZbQ .n))) (by kernel_rfl)
       |_=>
        dsimp only at hf;obtain rfl:=oi hf;exact ZaG Zak 23 _ _ R12 [false,false] (rz) 2 ⟨[(100000,100000)],pvOf q17⟩ (O13.app (.c (ZiX _ _ _ q17) .n)) (by kernel_rfl)
      |_=>
       dsimp only at hf;obtain rfl:=oi hf;exact ZaG Zak 21 _ _ R10 [false,false] (rA [(1,.id 464)]) 1 ⟨[(100000,100000)],pvOf q16⟩ (O11.app (.c (ZcQ _ _ _ _ q16) (.c ZjR .n))) (by kernel_rfl)
     |_=>
      dsimp only at hf;obtain rfl:=oi hf;exact ZaG Zak 19 _ _ R8 [false,false] (rA [(1,.id 464)]) 1 ⟨[(100000,100000)],pvOf q15⟩ (O9.app (.c (ZcQ _ _ _ _ q15) (.c ZjR .n))) (by kernel_rfl)
    |_=>
     dsimp only at hf;obtain rfl:=oi hf;exact ZaG Zak 17 _ _ R3 [false,false] (rA [(2,aI x10),(6,.id 462)]) 6 ⟨[(100000,100000)],pvOf q14⟩ (O7.app (.c (ZaD _ _ _ _ q14) (.c ZbQ .n))) (by kernel_rfl)
 |_=>
  dsimp only at hf;obtain rfl:=oi hf;exact ZaG Zak 3 _ _ [rz] [] (rz) 2 ⟨[(100000,100000)],pvOf q1⟩ (.c (ZaZ _ _ _ q1) .n) (by kernel_rfl)
def Zgc(a0:Zaa)(a1:Int):Option Zaa:=(Zgb a1).bind fun x1=>some (Zaa.mk a0.fEnd a0.fIn a0.fSince a0.fScore a0.fPing (if x1>a0.fWork then x1 else a0.fWork))
theorem Zru(a0:Zaa)(a1:Int)(r:Zaa)(hf:Zgc a0 a1=some r):Zaz Tryz.prog 146 [.agg (Zaa.c a0),.one (.lit (.int .i64 a1))] (.agg (Zaa.c r)):=by
 refine Zaz.of Tryz.func146 rfl rfl rfl rfl fun S0 w0=>?_;unfold Zgc at hf;obtain⟨x1,q1,hf⟩:=Zaf hf;obtain rfl:=oi hf;exact Zai Zak 6 [rz,rA [(3,aI x1)],rz] [] [] [] [] (.c (Zfp _ _ q1) .n) (by kernel_rfl) rfl
def ZhF(a0:Zaa)(a1:Int):Option Zaa:=bif(decide (a1≥(1:Int)))then bif(decide (a1≤(1048576:Int)))then bif(a0.fPing==(0:Int))then some (Zaa.mk a0.fEnd a0.fIn a0.fSince a0.fScore a1 a0.fWork)else bif(decide (a1<a0.fPing))then some (Zaa.mk a0.fEnd a0.fIn a0.fSince a0.fScore a1 a0.fWork)else some a0 else some a0 else some a0
theorem ZtM(a0:Zaa)(a1:Int)(r:Zaa)(hf:ZhF a0 a1=some r):Zaz Tryz.prog 147 [.agg (Zaa.c a0),.one (.lit (.int .i64 a1))] (.agg (Zaa.c r)):=by
 refine Zaz.of Tryz.func147 rfl rfl rfl rfl fun S0 w0=>?_;unfold ZhF at hf;rcases Zah hf with⟨h1,hf⟩|⟨h1,hf⟩
 ·rcases Zah hf with⟨h2,hf⟩|⟨h2,hf⟩
  ·rcases Zah hf with⟨h3,hf⟩|⟨h3,hf⟩
   ·obtain rfl:=oi hf;exact Zai Zak 9 [rz,rB [(2,true),(6,true),(10,true)],rz,rz] [true] [] [] [] (.c h1 (.c h2 (.c h3 (.c (show true=true from rfl) .n)))) (by kernel_rfl) rfl
   ·let R1:List RA:=[rz,rB [(2,true),(6,true),(10,false)],rz]
    rcases Zah hf with⟨h4,hf⟩|⟨h4,hf⟩
    ·obtain rfl:=oi hf;exact Zai Zak 9 (R1++[rz]) [true] [] [] [] (.c h1 (.c h2 (.c h3 (.c h4 .n)))) (by kernel_rfl) rfl
    ·obtain rfl:=oi hf;exact Zai Zak 9 R1 [false] [] [] [] (.c h1 (.c h2 (.c h3 (.c h4 .n)))) (by kernel_rfl) rfl
  ·obtain rfl:=oi hf;exact Zai Zak 9 [rz,rB [(2,true),(6,false)],rz] [false] [] [] [] (.c h1 (.c h2 (.c (show false=false from rfl) .n))) (by kernel_rfl) rfl
 ·obtain rfl:=oi hf;exact Zai Zak 9 [rz,rB [(2,false)],rz] [false] [] [] [] (.c h1 (.c (show false=false from rfl) .n)) (by kernel_rfl) rfl
def ZgT(a0:Zax)(a1:Zan):Option (Tout Zaq):=(Zdl a0 a1).bind fun x1=>(match x1 with | .ret x1v x1g=>bif(decide (x1v.2<(0:Int)))then(Zbd a0).bind fun x2=>(Zbb x1g x2 true).bind fun x3=>(match x3 with | .ret x3v x3g=>(ZdY (6:Int)).bind fun x4=>some (Tout.ret x4 x3g) | .pan x3o=>some (Tout.pan x3o) | .bad x3s=>some (Tout.bad x3s))else need (0≤x1v.2∧x1v.2<((x1v.1.length:Nat):Int))<|(Zgc (x1v.1.getD x1v.2.toNat Zaa.d) a0.fx.fNow).bind fun x5=>bif(a0.fx.fKind==(11:Int))then(ZhF (x1v.1.getD x1v.2.toNat Zaa.d) a0.fx.fNum).bind fun x6=>(ZdR a0 x1g x1v.2 x6).bind fun x7=>(match x7 with | .ret x7v x7g=>(Zbd a0).bind fun x8=>(Zbb x7g x8 false).bind fun x9=>(match x9 with | .ret x9v x9g=>some (Tout.ret (Zaq.mk (0:Int) (Zag.mk (Zaj.mk false (0:Int) (0:Int)) (0:Int)) x6.fPing (0:Int) ([]:(List Zaa))) x9g) | .pan x9o=>some (Tout.pan x9o) | .bad x9s=>some (Tout.bad x9s)) | .pan x7o=>some (Tout.pan x7o) | .bad x7s=>some (Tout.bad x7s))else(ZdR a0 x1g x1v.2 x5).bind fun x10=>(match x10 with | .ret x10v x10g=>(Zbd a0).bind fun x11=>(Zbb x10g x11 false).bind fun x12=>(match x12 with | .ret x12v x12g=>some (Tout.ret (Zaq.mk (0:Int) (Zag.mk (Zaj.mk false (0:Int) (0:Int)) (0:Int)) (0:Int) (0:Int) ([]:(List Zaa))) x12g) | .pan x12o=>some (Tout.pan x12o) | .bad x12s=>some (Tout.bad x12s)) | .pan x10o=>some (Tout.pan x10o) | .bad x10s=>some (Tout.bad x10s)) | .pan x1o=>some (Tout.pan x1o) | .bad x1s=>some (Tout.bad x1s))
theorem ZhH(a0:Zax)(a1:Zan)(r:(Tout Zaq))(hf:ZgT a0 a1=some r):ZfT Tryz.prog 70 [(100000,.box (Zan.c a1))] [.agg (Zax.c a0),.one (.ifc 112 (.ptr 100000 0))] (oc (fun x=>.agg (Zaq.c x)) r):=by
 refine ZfT.of Tryz.func70 rfl rfl rfl rfl fun S0 w0=>?_;unfold ZgT at hf;obtain⟨x1,q1,hf⟩:=Zaf hf;cases x1 with
 |ret x1v x1g=>
  dsimp only at hf
  let R1:List RA:=[rz,rH [] [(2,⟨[(100000,100000)],[],[(100000,.box (Zan.c x1g))],.tup [(false,(cLs 10 Zaa.c Zaa.d) x1v.1),(false,(cI .i64) x1v.2)]⟩)],rz]
  rcases Zah hf with⟨h2,hf⟩|⟨h2,hf⟩
  ·obtain⟨x2,q3,hf⟩:=Zaf hf;have O2:Obl _:=(.c (ZaZ _ _ _ q1) (.c h2 (.c (Zbi _ _ q3) (.c Zfr .n))));obtain⟨x3,q4,hf⟩:=Zaf hf;cases x3 with
   |ret x3v x3g=>
    dsimp only at hf;obtain⟨x4,q5,hf⟩:=Zaf hf;obtain rfl:=oi hf;exact Zcc Zak 12 (R1++[rH [(2,aI x2),(6,.id 462)] [(6,⟨[(100000,100000)],[],[(100000,.box (Zan.c x3g))],.tup []⟩)],rA [(0,aG (Zaq.c x4))]]) [true] ⟨[],[],[],[],[],[4],[4,100000],[]⟩ [100000] (O2.app (.c (ZaD _ _ _ _ q4) (.c ZbQ (.c (ZeS _ _ q5) .n)))) (by kernel_rfl)
   |_=>
    dsimp only at hf;obtain rfl:=oi hf;exact ZaG Zak 9 _ _ R1 [true] (rA [(2,aI x2),(6,.id 462)]) 6 ⟨[(100000,100000)],pvOf q4⟩ (O2.app (.c (ZaD _ _ _ _ q4) (.c ZbQ .n))) (by kernel_rfl)
  ·obtain⟨o6,hf⟩:=Zar hf;obtain⟨x5,q7,hf⟩:=Zaf hf;have O3:Obl _:=(.c (ZaZ _ _ _ q1) (.c h2 (.c o6 (.c (Zru _ _ _ q7) .n))));rcases Zah hf with⟨h8,hf⟩|⟨h8,hf⟩
   ·obtain⟨x6,q9,hf⟩:=Zaf hf
    let R4:List RA:=(R1++[rz,rA [(7,aG (Zaa.c x5))],rz,rA [(7,aG (Zaa.c x6))],rz])
    have O5:Obl _:=(O3.app (.c h8 (.c o6 (.c (ZtM _ _ _ q9) .n))));obtain⟨x7,q10,hf⟩:=Zaf hf;cases x7 with
    |ret x7v x7g=>
     dsimp only at hf;obtain⟨x8,q11,hf⟩:=Zaf hf
     let R6:List RA:=(R4++[rH [] [(4,⟨[(100000,100000)],[],[(100000,.box (Zan.c x7g))],.tup []⟩)]])
     have O7:Obl _:=(O5.app (.c (ZcB _ _ _ _ _ q10) (.c (Zbi _ _ q11) (.c Zfr .n))));obtain⟨x9,q12,hf⟩:=Zaf hf;cases x9 with
     |ret x9v x9g=>
      dsimp only at hf;obtain rfl:=oi hf;exact Zcc Zak 26 (R6++[rH [(2,aI x8),(6,.id 462)] [(6,⟨[(100000,100000)],[],[(100000,.box (Zan.c x9g))],.tup []⟩)],rz]) [false,true] ⟨[],[(4,[(7,cL 10 Zaa.c Zaa.d [])])],[],[],[],[4],[4,100000],[]⟩ [100000] (O7.app (.c (ZaD _ _ _ _ q12) (.c ZbQ .n))) (by kernel_rfl)
     |_=>
      dsimp only at hf;obtain rfl:=oi hf;exact ZaG Zak 23 _ _ R6 [false,true] (rA [(2,aI x8),(6,.id 462)]) 6 ⟨[(100000,100000)],pvOf q12⟩ (O7.app (.c (ZaD _ _ _ _ q12) (.c ZbQ .n))) (by kernel_rfl)
    |_=>
     dsimp only at hf;obtain rfl:=oi hf;exact ZaG Zak 21 _ _ R4 [false,true] (rz) 4 ⟨[(100000,100000)],pvOf q10⟩ (O5.app (.c (ZcB _ _ _ _ _ q10) .n)) (by kernel_rfl)
   ·obtain⟨x10,q13,hf⟩:=Zaf hf;cases x10 with
    |ret x10v x10g=>
     dsimp only at hf;obtain⟨x11,q14,hf⟩:=Zaf hf
     let R8:List RA:=(R1++[rz,rA [(7,aG (Zaa.c x5))],rz,rH [] [(4,⟨[(100000,100000)],[],[(100000,.box (Zan.c x10g))],.tup []⟩)]])
     have O9:Obl _:=(O3.app (.c h8 (.c (ZcB _ _ _ _ _ q13) (.c (Zbi _ _ q14) (.c Zfr .n)))));obtain⟨x12,q15,hf⟩:=Zaf hf;cases x12 with
     |ret x12v x12g=>
      dsimp only at hf;obtain rfl:=oi hf;exact Zcc Zak 24 (R8++[rH [(2,aI x11),(6,.id 462)] [(6,⟨[(100000,100000)],[],[(100000,.box (Zan.c x12g))],.tup []⟩)],rz]) [false,false] ⟨[],[(4,[(7,cL 10 Zaa.c Zaa.d [])])],[],[],[],[4],[4,100000],[]⟩ [100000] (O9.app (.c (ZaD _ _ _ _ q15) (.c ZbQ .n))) (by kernel_rfl)
     |_=>
      dsimp only at hf;obtain rfl:=oi hf;exact ZaG Zak 21 _ _ R8 [false,false] (rA [(2,aI x11),(6,.id 462)]) 6 ⟨[(100000,100000)],pvOf q15⟩ (O9.app (.c (ZaD _ _ _ _ q15) (.c ZbQ .n))) (by kernel_rfl)
    |_=>
     dsimp only at hf;obtain rfl:=oi hf;exact ZaG Zak 19 _ _ (R1++[rz,rA [(7,aG (Zaa.c x5))],rz]) [false,false] (rz) 4 ⟨[(100000,100000)],pvOf q13⟩ (O3.app (.c h8 (.c (ZcB _ _ _ _ _ q13) .n))) (by kernel_rfl)
 |_=>
  dsimp only at hf;obtain rfl:=oi hf;exact ZaG Zak 3 _ _ [rz] [] (rz) 2 ⟨[(100000,100000)],pvOf q1⟩ (.c (ZaZ _ _ _ q1) .n) (by kernel_rfl)
def ZiN(a0:ZaB)(a1:ZaA):Option ZgD:=(Zke a1).bind fun x1=>bif(!x1)then some (ZgD.c67 (Zax.mk a0 a1))else bif(a1.fKind==(2:Int))then some (ZgD.c68 (Zax.mk a0 a1))else bif(a1.fKind==(5:Int))then some (ZgD.c69 (Zax.mk a0 a1))else bif(a1.fKind==(11:Int))then bif(a1.fKind==(11:Int))then some (ZgD.c70 (Zax.mk a0 a1))else some (ZgD.c67 (Zax.mk a0 a1))else bif(a1.fKind==(12:Int))then some (ZgD.c70 (Zax.mk a0 a1))else some (ZgD.c67 (Zax.mk a0 a1))
theorem ZeK(a0:ZaB)(a1:ZaA)(r:ZgD)(hf:ZiN a0 a1=some r):Zaz Tryz.prog 22 [.agg (ZaB.c a0),.agg (ZaA.c a1)] (.one (ZgD.c r)):=by
 refine Zaz.of Tryz.func22 rfl rfl rfl rfl fun S0 w0=>?_;unfold ZiN at hf;obtain⟨x1,q1,hf⟩:=Zaf hf;rcases Zah hf with⟨h2,hf⟩|⟨h2,hf⟩
 ·obtain rfl:=oi hf;exact Zai Zak 10 [rz,rz,rA [(1,aB x1)],rz] [true] [] [] [] (.c (ZkZ _ _ q1) (.c h2 .n)) (by kernel_rfl) rfl
 ·rcases Zah hf with⟨h3,hf⟩|⟨h3,hf⟩
  ·obtain rfl:=oi hf;exact Zai Zak 18 [rz,rz,rA [(1,aB x1)],rz,rz,rz] [false,true] [] [] [] (.c (ZkZ _ _ q1) (.c h2 (.c h3 .n))) (by kernel_rfl) rfl
  ·have O1:Obl _:=(.c (ZkZ _ _ q1) (.c h2 (.c h3 .n)));rcases Zah hf with⟨h4,hf⟩|⟨h4,hf⟩
   ·obtain rfl:=oi hf;exact Zai Zak 21 [rz,rz,rA [(1,aB x1)],rz,rz,rz,rz] [false,false,true] [] [] [] (O1.app (.c h4 .n)) (by kernel_rfl) rfl
   ·rcases Zah hf with⟨h5,hf⟩|⟨h5,hf⟩
    ·rcases Zah hf with⟨h6,hf⟩|⟨h6,hf⟩
     ·obtain rfl:=oi hf;exact Zai Zak 27 [rz,rz,rA [(1,aB x1)],rz,rz,rz,rz,rz] [false,false,false,true,true] [] [] [] (O1.app (.c h4 (.c h5 (.c h6 .n)))) (by kernel_rfl) rfl
     ·obtain rfl:=oi hf;exact Zai Zak 29 [rz,rz,rA [(1,aB x1)],rz,rz,rz,rz,rz] [false,false,false,true,false] [] [] [] (O1.app (.c h4 (.c h5 (.c h6 .n)))) (by kernel_rfl) rfl
    ·let R2:List RA:=[rz,rz,rA [(1,aB x1)],rz,rz,rz,rz,rz,rz]
     rcases Zah hf with⟨h7,hf⟩|⟨h7,hf⟩
     ·obtain rfl:=oi hf;exact Zai Zak 27 R2 [false,false,false,false,true] [] [] [] (O1.app (.c h4 (.c h5 (.c h7 .n)))) (by kernel_rfl) rfl
     ·obtain rfl:=oi hf;exact Zai Zak 29 R2 [false,false,false,false,false] [] [] [] (O1.app (.c h4 (.c h5 (.c h7 .n)))) (by kernel_rfl) rfl
def ZuX:Tout Zaq→ZaT | .ret x _=>⟨ZaE.d,x,true,false⟩ | .pan op=>⟨op,Zaq.d,false,false⟩ | .bad _=>⟨ZaE.d,Zaq.d,false,true⟩
def ZEZ:List C:=[.lit (.int .i64 (0)),.lit (.int .i64 (0)),.lit (.int .i64 (0)),.lit (.int .i64 (0)),.lit (.int .i64 (0)),.lit (.int .i64 (0)),.lit (.int .i64 (0)),.lit (.int .i64 (0)),.lit (.bool false),.lit (.int .u64 (0)),.lit (.int .u64 (0)),.lit (.int .i64 (0)),.lit (.bool false),.lit (.int .i64 (0)),.lit (.int .i64 (0)),.lit (.int .i64 (0)),.lit (.int .i64 (0)),.lit (.int .i64 (0)),.lit (.slice none 0 0),.lit (.slice none 0 0),.lit (.bool false),.lit (.int .i64 (0)),.lit (.bool false),.lit (.int .u64 (0)),.lit (.int .u64 (0)),.lit (.int .i64 (0)),.lit (.int .i64 (0)),.lit (.int .i64 (0)),.lit (.slice none 0 0),.lit (.bool false),.lit (.bool false)]
def ZGp:List (Nat×C):=[(18,cL 5 Zab.c Zab.d []),(19,cL 7 Zac.c Zac.d [])]
def ZGo:List (Nat×C):=[(28,cL 10 Zaa.c Zaa.d [])]
theorem ZFt:∀w,(do eqGuard .eql 20 (.tmp 4) (.const .nilIface) .nilIface .nilIface;binOp .eql 20 .nilIface .nilIface:Sem Value).run Tryz.prog w=.ok (.bool true) w:=by
 intro w;have hg:(eqGuard .eql 20 (.tmp 4) (.const .nilIface) .nilIface .nilIface).run Tryz.prog w=.ok () w:=by simp[eqGuard]
 rw[Sem.run_bind,hg,Result.andThen_ok];have h:∀d:Nat,(Op.equalIn (d+1) 20 .nilIface .nilIface).run Tryz.prog w=.ok true w:=fun d=>by simp[Op.equalIn,run_underlying Tryz.underlying20]
 simp only[binOp];simp[Op.equal,Op.maxDepth,h 9999]
theorem ZpP(x:Zaq)(g:Zan):ZyW Tryz.prog 65 (ZEZ.take 21++Zaq.c x++[.lit (.bool true),.lit (.bool false)]) none (ZaT.c (ZuX (.ret x g))):=by
 intro no S m w hS hno hrep;refine Ztr (i:=0) (d:=4) (xv:=.one (.lit .nilIface)) (x:=.nilIface) (u':=.returning) Tryz.func65 rfl (fun ρ w=>by simp[go_sem]) rfl rfl rfl (by kernel_rfl) (by kernel_rfl) hS hno hrep (fun c₀ cs hu=>by cases c₀;cases hu;simp[recoverD]) RepC.lit rfl ?_;exact Zcd Zak 6 [rA [(0,.r (.one (.lit (.bool true))) [])],rz] [true] ⟨[],[(100000,ZGp)],[],[],[],[],[100000],[]⟩ (.c ZFt (.c (show true=true from rfl) .n)) (by kernel_rfl)
theorem ZrJ(op:ZaE):ZyW Tryz.prog 65 ZEZ (some (.one (.ifa 111 21 (fun i=>(ZaE.c op).getD i .junk)))) (ZaT.c (ZuX (.pan op))):=by
 intro no S m w hS hno hrep x hx;refine Ztr (i:=0) (d:=4) (xv:=_) (x:=x) (u':=.panicking [{ v:=x,recovered:=true }]) Tryz.func65 rfl (fun ρ w=>by simp[go_sem]) rfl rfl rfl (by kernel_rfl) (by kernel_rfl) hS hno hrep (fun c₀ cs hu=>by cases c₀;cases hu;simp[recoverD]) hx (by kernel_rfl) ?_;exact Zcd Zak 11 [rz,rz,rz,rz] [false,true] ⟨[],[(100000,ZGo)],[],[],[],[],[100000],[]⟩ (.c (show false=false from rfl) (.c (show true=true from rfl) .n)) (by kernel_rfl)
theorem ZrK(s:ByteArray):ZyW Tryz.prog 65 ZEZ (some (.one (.ifc 9 (.lit (.string s))))) (ZaT.c (ZuX (.bad s))):=by
 intro no S m w hS hno hrep x hx;refine Ztr (i:=0) (d:=4) (xv:=_) (x:=x) (u':=.panicking [{ v:=x,recovered:=true }]) Tryz.func65 rfl (fun ρ w=>by simp[go_sem]) rfl rfl rfl (by kernel_rfl) (by kernel_rfl) hS hno hrep (fun c₀ cs hu=>by cases c₀;cases hu;simp[recoverD]) hx (by kernel_rfl) ?_;exact Zcd Zak 11 [rz,rz,rz,rz] [false,false] ⟨[],[(100000,ZGp++ZGo)],[],[],[],[],[100000],[]⟩ (.c (show false=false from rfl) (.c (show false=false from rfl) .n)) (by kernel_rfl)
def Zin(c0:Zax)(a1:List Zae):Option ZaT:=(Zgd c0 ⟨a1⟩).map ZuX
theorem Zms(c0:Zax)(a1:List Zae)(r:ZaT)(hf:Zin c0 a1=some r):ZhP Tryz.prog 21 [.one (.clo (.func 67) 1 0 (fun i=>([.agv 28 (fun j=>(Zax.c c0).getD j .junk)]:List C).getD i .junk) (fun i=>([]:List C).getD i .junk)),.one (cLn 13 Zae.c Zae.d a1)] (.agg (ZaT.c r)):=by
 obtain⟨o,ho,rfl⟩:=Option.map_eq_some_iff.1 hf;have hinv:∀p w,(invoke (.fn (.func 65) #[p]) #[]).run Tryz.prog w=.ok (.enter 65 #[p]) w:=fun p w=>by simp[go_sem]
 cases o with
 |ret x g=>
  exact ZhP.defR rz rz (rH [] [(5,⟨[(100000,9)],[],[(100000,.box (Zan.c g))],.agg (Zaq.c x)⟩)]) 5 4 65 Zak Tryz.func21 rfl rfl rfl rfl rfl rfl (fun ρ w p h=>by simp[go_sem,h]) (by kernel_rfl) hinv rfl rfl
   (.c (show Tryz.prog.concrete 112=true from by kernel_rfl) (.c (Zhv c0 ⟨a1⟩ (.ret x g) ho) .n)) (by kernel_rfl) (ZpP x g) (by kernel_rfl) (by kernel_rfl) (by kernel_rfl)
 |pan op=>
  exact ZhP.defP rz rz rz 5 4 65 5 ⟨[(100000,9)],.one (.ifa 111 21 (fun i=>(ZaE.c op).getD i .junk))⟩ Zak Tryz.func21 rfl rfl rfl rfl rfl rfl (fun ρ w p h=>by simp[go_sem,h]) (by kernel_rfl) hinv rfl rfl
   (.c (show Tryz.prog.concrete 112=true from by kernel_rfl) (.c (Zhv c0 ⟨a1⟩ (.pan op) ho) .n)) (by kernel_rfl) (ZrJ op) (by kernel_rfl) (by kernel_rfl) (by kernel_rfl)
 |bad s=>
  exact ZhP.defP rz rz rz 5 4 65 5 ⟨[(100000,9)],.one (.ifc 9 (.lit (.string s)))⟩ Zak Tryz.func21 rfl rfl rfl rfl rfl rfl (fun ρ w p h=>by simp[go_sem,h]) (by kernel_rfl) hinv rfl rfl
   (.c (show Tryz.prog.concrete 112=true from by kernel_rfl) (.c (Zhv c0 ⟨a1⟩ (.bad s) ho) .n)) (by kernel_rfl) (ZrK s) (by kernel_rfl) (by kernel_rfl) (by kernel_rfl)
def ZjK(c0:Zax)(a1:List Zae):Option ZaT:=(Zgf c0 ⟨a1⟩).map ZuX
theorem Zmr(c0:Zax)(a1:List Zae)(r:ZaT)(hf:ZjK c0 a1=some r):ZhP Tryz.prog 21 [.one (.clo (.func 68) 1 0 (fun i=>([.agv 28 (fun j=>(Zax.c c0).getD j .junk)]:List C).getD i .junk) (fun i=>([]:List C).getD i .junk)),.one (cLn 13 Zae.c Zae.d a1)] (.agg (ZaT.c r)):=by
 obtain⟨o,ho,rfl⟩:=Option.map_eq_some_iff.1 hf;have hinv:∀p w,(invoke (.fn (.func 65) #[p]) #[]).run Tryz.prog w=.ok (.enter 65 #[p]) w:=fun p w=>by simp[go_sem]
 cases o with
 |ret x g=>
  exact ZhP.defR rz rz (rH [] [(5,⟨[(100000,9)],[],[(100000,.box (Zan.c g))],.agg (Zaq.c x)⟩)]) 5 4 65 Zak Tryz.func21 rfl rfl rfl rfl rfl rfl (fun ρ w p h=>by simp[go_sem,h]) (by kernel_rfl) hinv rfl rfl
   (.c (show Tryz.prog.concrete 112=true from by kernel_rfl) (.c (Zhx c0 ⟨a1⟩ (.ret x g) ho) .n)) (by kernel_rfl) (ZpP x g) (by kernel_rfl) (by kernel_rfl) (by kernel_rfl)
 |pan op=>
  exact ZhP.defP rz rz rz 5 4 65 5 ⟨[(100000,9)],.one (.ifa 111 21 (fun i=>(ZaE.c op).getD i .junk))⟩ Zak Tryz.func21 rfl rfl rfl rfl rfl rfl (fun ρ w p h=>by simp[go_sem,h]) (by kernel_rfl) hinv rfl rfl
   (.c (show Tryz.prog.concrete 112=true from by kernel_rfl) (.c (Zhx c0 ⟨a1⟩ (.pan op) ho) .n)) (by kernel_rfl) (ZrJ op) (by kernel_rfl) (by kernel_rfl) (by kernel_rfl)
 |bad s=>
  exact ZhP.defP rz rz rz 5 4 65 5 ⟨[(100000,9)],.one (.ifc 9 (.lit (.string s)))⟩ Zak Tryz.func21 rfl rfl rfl rfl rfl rfl (fun ρ w p h=>by simp[go_sem,h]) (by kernel_rfl) hinv rfl rfl
   (.c (show Tryz.prog.concrete 112=true from by kernel_rfl) (.c (Zhx c0 ⟨a1⟩ (.bad s) ho) .n)) (by kernel_rfl) (ZrK s) (by kernel_rfl) (by kernel_rfl) (by kernel_rfl)
def ZjJ(c0:Zax)(a1:List Zae):Option ZaT:=(Zgg c0 ⟨a1⟩).map ZuX
theorem Zmq(c0:Zax)(a1:List Zae)(r:ZaT)(hf:ZjJ c0 a1=some r):ZhP Tryz.prog 21 [.one (.clo (.func 69) 1 0 (fun i=>([.agv 28 (fun j=>(Zax.c c0).getD j .junk)]:List C).getD i .junk) (fun i=>([]:List C).getD i .junk)),.one (cLn 13 Zae.c Zae.d a1)] (.agg (ZaT.c r)):=by
 obtain⟨o,ho,rfl⟩:=Option.map_eq_some_iff.1 hf;have hinv:∀p w,(invoke (.fn (.func 65) #[p]) #[]).run Tryz.prog w=.ok (.enter 65 #[p]) w:=fun p w=>by simp[go_sem]
 cases o with
 |ret x g=>
  exact ZhP.defR rz rz (rH [] [(5,⟨[(100000,9)],[],[(100000,.box (Zan.c g))],.agg (Zaq.c x)⟩)]) 5 4 65 Zak Tryz.func21 rfl rfl rfl rfl rfl rfl (fun ρ w p h=>by simp[go_sem,h]) (by kernel_rfl) hinv rfl rfl
   (.c (show Tryz.prog.concrete 112=true from by kernel_rfl) (.c (Zhy c0 ⟨a1⟩ (.ret x g) ho) .n)) (by kernel_rfl) (ZpP x g) (by kernel_rfl) (by kernel_rfl) (by kernel_rfl)
 |pan op=>
  exact ZhP.defP rz rz rz 5 4 65 5 ⟨[(100000,9)],.one (.ifa 111 21 (fun i=>(ZaE.c op).getD i .junk))⟩ Zak Tryz.func21 rfl rfl rfl rfl rfl rfl (fun ρ w p h=>by simp[go_sem,h]) (by kernel_rfl) hinv rfl rfl
   (.c (show Tryz.prog.concrete 112=true from by kernel_rfl) (.c (Zhy c0 ⟨a1⟩ (.pan op) ho) .n)) (by kernel_rfl) (ZrJ op) (by kernel_rfl) (by kernel_rfl) (by kernel_rfl)
 |bad s=>
  exact ZhP.defP rz rz rz 5 4 65 5 ⟨[(100000,9)],.one (.ifc 9 (.lit (.string s)))⟩ Zak Tryz.func21 rfl rfl rfl rfl rfl rfl (fun ρ w p h=>by simp[go_sem,h]) (by kernel_rfl) hinv rfl rfl
   (.c (show Tryz.prog.concrete 112=true from by kernel_rfl) (.c (Zhy c0 ⟨a1⟩ (.bad s) ho) .n)) (by kernel_rfl) (ZrK s) (by kernel_rfl) (by kernel_rfl) (by kernel_rfl)
def Zim(c0:Zax)(a1:List Zae):Option ZaT:=(ZgT c0 ⟨a1⟩).map ZuX
theorem Zmp(c0:Zax)(a1:List Zae)(r:ZaT)(hf:Zim c0 a1=some r):ZhP Tryz.prog 21 [.one (.clo (.func 70) 1 0 (fun i=>([.agv 28 (fun j=>(Zax.c c0).getD j .junk)]:List C).getD i .junk) (fun i=>([]:List C).getD i .junk)),.one (cLn 13 Zae.c Zae.d a1)] (.agg (ZaT.c r)):=by
 obtain⟨o,ho,rfl⟩:=Option.map_eq_some_iff.1 hf;have hinv:∀p w,(invoke (.fn (.func 65) #[p]) #[]).run Tryz.prog w=.ok (.enter 65 #[p]) w:=fun p w=>by simp[go_sem]
 cases o with
 |ret x g=>
  exact ZhP.defR rz rz (rH [] [(5,⟨[(100000,9)],[],[(100000,.box (Zan.c g))],.agg (Zaq.c x)⟩)]) 5 4 65 Zak Tryz.func21 rfl rfl rfl rfl rfl rfl (fun ρ w p h=>by simp[go_sem,h]) (by kernel_rfl) hinv rfl rfl
   (.c (show Tryz.prog.concrete 112=true from by kernel_rfl) (.c (ZhH c0 ⟨a1⟩ (.ret x g) ho) .n)) (by kernel_rfl) (ZpP x g) (by kernel_rfl) (by kernel_rfl) (by kernel_rfl)
 |pan op=>
  exact ZhP.defP rz rz rz 5 4 65 5 ⟨[(100000,9)],.one (.ifa 111 21 (fun i=>(ZaE.c op).getD i .junk))⟩ Zak Tryz.func21 rfl rfl rfl rfl rfl rfl (fun ρ w p h=>by simp[go_sem,h]) (by kernel_rfl) hinv rfl rfl
   (.c (show Tryz.prog.concrete 112=true from by kernel_rfl) (.c (ZhH c0 ⟨a1⟩ (.pan op) ho) .n)) (by kernel_rfl) (ZrJ op) (by kernel_rfl) (by kernel_rfl) (by kernel_rfl)
 |bad s=>
  exact ZhP.defP rz rz rz 5 4 65 5 ⟨[(100000,9)],.one (.ifc 9 (.lit (.string s)))⟩ Zak Tryz.func21 rfl rfl rfl rfl rfl rfl (fun ρ w p h=>by simp[go_sem,h]) (by kernel_rfl) hinv rfl rfl
   (.c (show Tryz.prog.concrete 112=true from by kernel_rfl) (.c (ZhH c0 ⟨a1⟩ (.bad s) ho) .n)) (by kernel_rfl) (ZrK s) (by kernel_rfl) (by kernel_rfl) (by kernel_rfl)
def Zgh(a0:ZaB)(a1:ZaA)(a2:List Zae):Option ZaT:=(ZiN a0 a1).bind fun x1=>(match x1 with | .c67 p2_67=>(Zin p2_67 a2).bind fun x3=>some x3 | .c68 p3_68=>(ZjK p3_68 a2).bind fun x4=>some x4 | .c69 p4_69=>(ZjJ p4_69 a2).bind fun x5=>some x5 | .c70 p5_70=>(Zim p5_70 a2).bind fun x6=>some x6)
theorem Zoo(a0:ZaB)(a1:ZaA)(a2:List Zae)(r:ZaT)(hf:Zgh a0 a1 a2=some r):Zaz Tryz.prog 16 [.agg (ZaB.c a0),.agg (ZaA.c a1),.one (cL 13 Zae.c Zae.d a2)] (.agg (ZaT.c r)):=by
 refine Zaz.of Tryz.func16 rfl rfl rfl rfl fun S0 w0=>?_;unfold Zgh at hf;obtain⟨x1,q1,hf⟩:=Zaf hf;cases x1 with
 |c67 p2_67=>
  dsimp only at hf;obtain⟨x3,q2,hf⟩:=Zaf hf;obtain rfl:=oi hf;exact Zai Zak 4 [rz,rH [(2,.r (.one (ZgD.c (ZgD.c67 p2_67))) [])] [(4,⟨[(99997,99997)],[],[],.agg (ZaT.c x3)⟩)]] [] [] [] [] (.c (ZeK _ _ _ q1) (.c (Zms _ _ _ q2) .n)) (by kernel_rfl) rfl
 |c68 p3_68=>
  dsimp only at hf;obtain⟨x4,q3,hf⟩:=Zaf hf;obtain rfl:=oi hf;exact Zai Zak 4 [rz,rH [(2,.r (.one (ZgD.c (ZgD.c68 p3_68))) [])] [(4,⟨[(99997,99997)],[],[],.agg (ZaT.c x4)⟩)]] [] [] [] [] (.c (ZeK _ _ _ q1) (.c (Zmr _ _ _ q3) .n)) (by kernel_rfl) rfl
 |c69 p4_69=>
  dsimp only at hf;obtain⟨x5,q4,hf⟩:=Zaf hf;obtain rfl:=oi hf;exact Zai Zak 4 [rz,rH [(2,.r (.one (ZgD.c (ZgD.c69 p4_69))) [])] [(4,⟨[(99997,99997)],[],[],.agg (ZaT.c x5)⟩)]] [] [] [] [] (.c (ZeK _ _ _ q1) (.c (Zmq _ _ _ q4) .n)) (by kernel_rfl) rfl
 |c70 p5_70=>
  dsimp only at hf;obtain⟨x6,q5,hf⟩:=Zaf hf;obtain rfl:=oi hf;exact Zai Zak 4 [rz,rH [(2,.r (.one (ZgD.c (ZgD.c70 p5_70))) [])] [(4,⟨[(99997,99997)],[],[],.agg (ZaT.c x6)⟩)]] [] [] [] [] (.c (ZeK _ _ _ q1) (.c (Zmp _ _ _ q5) .n)) (by kernel_rfl) rfl
def ZbH:Option Bool:=(Zig).bind fun x1=>need (0≤(2:Int)∧(2:Int)≤(2:Int)∧(2:Int)≤140737488355328∧(2:Int) * 136≤140737488355328)<|(Zgh x1 (ZaA.mk (2:Int) (Zag.mk (Zaj.mk false (0:Int) (1:Int)) (80:Int)) (Zas.mk (Zaj.mk false (0:Int) (0:Int)) (0:Int)) (0:Int) (0:Int) false) (List.replicate (2:Int).toNat Zae.d)).bind fun x2=>need (0≤(3:Int)∧(3:Int)≤(3:Int)∧(3:Int)≤140737488355328∧(3:Int) * 136≤140737488355328)<|(Zgh x1 (ZaA.mk (2:Int) (Zag.mk (Zaj.mk false (0:Int) (1:Int)) (80:Int)) (Zas.mk (Zaj.mk false (0:Int) (0:Int)) (0:Int)) (0:Int) (0:Int) false) (List.replicate (3:Int).toNat Zae.d)).bind fun x3=>bif(x2.fOp.fKind==(3:Int))then bif x2.fOp.fMark then bif x3.fDone then some (x3.fReply.fCode==(6:Int))else some false else some false else some false
theorem ZcN(r:Bool)(hf:ZbH=some r):Zaz Tryz.prog 13 [] (.one (.lit (.bool r))):=by
 refine Zaz.of Tryz.func13 rfl rfl rfl rfl fun S0 w0=>?_;unfold ZbH at hf;obtain⟨x1,q1,hf⟩:=Zaf hf;obtain⟨o2,hf⟩:=Zar hf;obtain⟨x2,q3,hf⟩:=Zaf hf;obtain⟨o4,hf⟩:=Zar hf;obtain⟨x3,q5,hf⟩:=Zaf hf
 let R1:List RA:=[rz,rz,rA [(0,aG (ZaB.c x1)),(2,.r (.one (.sl 13 (List.replicate (2:Int).toNat Zae.d).length (Zao Zae.c Zae.d (List.replicate (2:Int).toNat Zae.d)))) []),(3,aG (ZaT.c x2))],rA [(0,aG (ZaB.c x1)),(2,.r (.one (.sl 13 (List.replicate (3:Int).toNat Zae.d).length (Zao Zae.c Zae.d (List.replicate (3:Int).toNat Zae.d)))) []),(3,aG (ZaT.c x3))]]
 have O2:Obl _:=(.c (Zjd _ q1) (.c (show (2:Int)=(((List.replicate (2:Int).toNat Zae.d).length:Nat):Int)from(by rw[List.length_replicate];exact(Int.toNat_of_nonneg o2.1).symm)) (.c (show (((List.replicate (2:Int).toNat Zae.d).length:Nat):Int)≤(2:Int)from(by rw[List.length_replicate];exact((Int.toNat_of_nonneg o2.1).symm ▸ o2.2.1))) (.c o2.2.2.1 (.c o2.2.2.2 (.c (show ∀i j,i<(List.replicate (2:Int).toNat Zae.d).length→j<13→ZqK (([.lit (.int .i64 (0)),.lit (.bool false),.lit (.int .u64 (0)),.lit (.int .u64 (0)),.lit (.int .i64 (0)),.lit (.bool false),.lit (.int .i64 (0)),.lit (.int .i64 (0)),.lit (.int .i64 (0)),.lit (.int .i64 (0)),.lit (.int .i64 (0)),.lit (.slice none 0 0),.lit (.slice none 0 0)]:List C).getD j .junk) (Zao Zae.c Zae.d (List.replicate (2:Int).toNat Zae.d) i j)from(by rw[List.length_replicate];exact(ZqP (fun j hj=>match j,hj with|0,_=>.inl rfl|1,_=>.inl rfl|2,_=>.inl rfl|3,_=>.inl rfl|4,_=>.inl rfl|5,_=>.inl rfl|6,_=>.inl rfl|7,_=>.inl rfl|8,_=>.inl rfl|9,_=>.inl rfl|10,_=>.inl rfl|11,_=>.inr ⟨rfl,_,_,rfl⟩|12,_=>.inr ⟨rfl,_,_,rfl⟩|j+13,h=>absurd h (by omega)) _))) (.c (Zoo _ _ _ _ q3) (.c (Zjd _ q1) (.c (show (3:Int)=(((List.replicate (3:Int).toNat Zae.d).length:Nat):Int)from(by rw[List.length_replicate];exact(Int.toNat_of_nonneg o4.1).symm)) (.c (show (((List.replicate (3:Int).toNat Zae.d).length:Nat):Int)≤(3:Int)from(by rw[List.length_replicate];exact((Int.toNat_of_nonneg o4.1).symm ▸ o4.2.1))) (.c o4.2.2.1 (.c o4.2.2.2 (.c (show ∀i j,i<(List.replicate (3:Int).toNat Zae.d).length→j<13→ZqK (([.lit (.int .i64 (0)),.lit (.bool false),.lit (.int .u64 (0)),.lit (.int .u64 (0)),.lit (.int .i64 (0)),.lit (.bool false),.lit (.int .i64 (0)),.lit (.int .i64 (0)),.lit (.int .i64 (0)),.lit (.int .i64 (0)),.lit (.int .i64 (0)),.lit (.slice none 0 0),.lit (.slice none 0 0)]:List C).getD j .junk) (Zao Zae.c Zae.d (List.replicate (3:Int).toNat Zae.d) i j)from(by rw[List.length_replicate];exact(ZqP (fun j hj=>match j,hj with|0,_=>.inl rfl|1,_=>.inl rfl|2,_=>.inl rfl|3,_=>.inl rfl|4,_=>.inl rfl|5,_=>.inl rfl|6,_=>.inl rfl|7,_=>.inl rfl|8,_=>.inl rfl|9,_=>.inl rfl|10,_=>.inl rfl|11,_=>.inr ⟨rfl,_,_,rfl⟩|12,_=>.inr ⟨rfl,_,_,rfl⟩|j+13,h=>absurd h (by omega)) _))) (.c (Zoo _ _ _ _ q5) .n))))))))))))))
 rcases Zah hf with⟨h6,hf⟩|⟨h6,hf⟩
 ·rcases Zah hf with⟨h7,hf⟩|⟨h7,hf⟩
  ·rcases Zah hf with⟨h8,hf⟩|⟨h8,hf⟩
   ·obtain rfl:=oi hf;exact Zai Zak 10 (R1++[rB [(4,true),(9,true),(13,true)]]) [] [] [] [] (O2.app (.c h6 (.c h7 (.c h8 .n)))) (by kernel_rfl) rfl
   ·obtain rfl:=oi hf;exact Zai Zak 10 (R1++[rB [(4,true),(9,true),(13,false)]]) [] [] [] [] (O2.app (.c h6 (.c h7 (.c h8 .n)))) (by kernel_rfl) rfl
  ·obtain rfl:=oi hf;exact Zai Zak 10 (R1++[rB [(4,true),(9,false)]]) [] [] [] [] (O2.app (.c h6 (.c h7 .n))) (by kernel_rfl) rfl
 ·obtain rfl:=oi hf;exact Zai Zak 10 (R1++[rB [(4,false)]]) [] [] [] [] (O2.app (.c h6 .n)) (by kernel_rfl) rfl
def ZcS(a0:Int):Option Int:=bif(decide (a0<(1:Int)))then some (1:Int)else bif(decide (a0>(8:Int)))then some (8:Int)else some a0
theorem Zhj(a0 r:Int)(hf:ZcS a0=some r):Zaz Tryz.prog 132 [.one (.lit (.int .i64 a0))] (.one (.lit (.int .i64 r))):=by
 refine Zaz.of Tryz.func132 rfl rfl rfl rfl fun S0 w0=>?_;unfold ZcS at hf;rcases Zah hf with⟨h1,hf⟩|⟨h1,hf⟩
 ·obtain rfl:=oi hf;exact Zai Zak 8 [rz,rz,rz] [true] [] [] [] (.c h1 .n) (by kernel_rfl) rfl
 ·rcases Zah hf with⟨h2,hf⟩|⟨h2,hf⟩
  ·obtain rfl:=oi hf;exact Zai Zak 13 [rz,rz,rz,rz] [false,true] [] [] [] (.c h1 (.c h2 .n)) (by kernel_rfl) rfl
  ·obtain rfl:=oi hf;exact Zai Zak 14 [rz,rz,rz,rz] [false,false] [] [] [] (.c h1 (.c h2 .n)) (by kernel_rfl) rfl
def Zdg(a0 a1 a2 v9 v10 v11:Int)(kg_doormanref07_Cut_c0:Int→Int→Int→Int→Option (Int×Int))(v8:Int):Option (Int×Int):=bif(decide ((Zaw v11 (64:Int))<a2))then need (v10≠0)<|bif((Int.tmod (IntKind.wrap .u64 (Int.tdiv a1 v10)) (2:Int))==(1:Int))then kg_doormanref07_Cut_c0 v8 (IntKind.wrap .u64 (v9+v10)) (IntKind.wrap .u64 (Int.tdiv v10 (2:Int))) (Zaw v11 (1:Int))else kg_doormanref07_Cut_c0 v8 v9 (IntKind.wrap .u64 (Int.tdiv v10 (2:Int))) (Zaw v11 (1:Int))else kg_doormanref07_Cut_c0 v8 v9 (IntKind.wrap .u64 (Int.tdiv v10 (2:Int))) (Zaw v11 (1:Int))
theorem ZgX(S0:Nat→Prop)(w0:ZaW)(a0 a1 a2 v9 v10 v11:Int)(kg_doormanref07_Cut_c0:Int→Int→Int→Int→Option (Int×Int))(hg_doormanref07_Cut_c0:∀(v8_ v9_ v10_ v11_:Int)(r:(Int×Int)),kg_doormanref07_Cut_c0 v8_ v9_ v10_ v11_=some r→Good Tryz.prog 47 S0 w0 (bodyPost Tryz.prog Tryz.f357 (Post S0 w0 (.tup [(false,(cI .u64) r.1),(false,(cI .u64) r.2)]))) (at_ [1,1,1,0,1,0] (Zbl Tryz.f357)) ⟨[(0,.one (.lit (.int .u64 a0))),(1,.one (.lit (.int .u64 a1))),(2,.one (.lit (.int .i64 a2))),(8,.one (.lit (.int .u64 v8_))),(9,.one (.lit (.int .u64 v9_))),(10,.one (.lit (.int .u64 v10_))),(11,.one (.lit (.int .i64 v11_)))],[]⟩)(v8:Int)(r:(Int×Int))(hf:Zdg a0 a1 a2 v9 v10 v11 kg_doormanref07_Cut_c0 v8=some r):Good Tryz.prog 47 S0 w0 (bodyPost Tryz.prog Tryz.f357 (Post S0 w0 (.tup [(false,(cI .u64) r.1),(false,(cI .u64) r.2)]))) (at_ [1,1,1,0,1,0,0,1,0,0,1] (Zbl Tryz.f357)) ⟨[(0,.one (.lit (.int .u64 a0))),(1,.one (.lit (.int .u64 a1))),(2,.one (.lit (.int .i64 a2))),(8,.one (.lit (.int .u64 v8))),(9,.one (.lit (.int .u64 v9))),(10,.one (.lit (.int .u64 v10))),(11,.one (.lit (.int .i64 v11)))],[]⟩:=by
 unfold Zdg at hf;rcases Zah hf with⟨h5,hf⟩|⟨h5,hf⟩
 ·obtain⟨o6,hf⟩:=Zar hf;have O1:Obl _:=(.c h5 (.c o6 (.c (show (2:Int)≠0 from(by decide)) .n)));rcases Zah hf with⟨h7,hf⟩|⟨h7,hf⟩
  ·exact ZaJ Zak Post.ends 9 [rB [(4,true)],rz,rz,rz] [true] ⟨[],[],[],[],[],[0,1,2,8,9,10,11],[],[]⟩ (O1.app (.c h7 (.c (show (2:Int)≠0 from(by decide)) .n))) (by kernel_rfl) (hg_doormanref07_Cut_c0 v8 (IntKind.wrap .u64 (v9+v10)) (IntKind.wrap .u64 (Int.tdiv v10 (2:Int))) (Zaw v11 (1:Int)) r hf)
  ·exact ZaJ Zak Post.ends 9 [rB [(4,true)],rz,rz] [false] ⟨[],[],[],[],[],[0,1,2,8,9,10,11],[],[]⟩ (O1.app (.c h7 (.c (show (2:Int)≠0 from(by decide)) .n))) (by kernel_rfl) (hg_doormanref07_Cut_c0 v8 v9 (IntKind.wrap .u64 (Int.tdiv v10 (2:Int))) (Zaw v11 (1:Int)) r hf)
 ·exact ZaJ Zak Post.ends 9 [rB [(4,false)],rz,rz] [false] ⟨[],[],[],[],[],[0,1,2,8,9,10,11],[],[]⟩ (.c h5 (.c (show false=false from rfl) (.c (show (2:Int)≠0 from(by decide)) .n))) (by kernel_rfl) (hg_doormanref07_Cut_c0 v8 v9 (IntKind.wrap .u64 (Int.tdiv v10 (2:Int))) (Zaw v11 (1:Int)) r hf)
def Zbk(a0 a1 a2:Int):Nat→Int→Int→Int→Int→Option (Int×Int)|0,_,_,_,_=>none|fu+1,v8,v9,v10,v11=>bif(decide (v11<(64:Int)))then bif(decide (v11<a2))then need (v10≠0)<|bif((Int.tmod (IntKind.wrap .u64 (Int.tdiv a0 v10)) (2:Int))==(1:Int))then Zdg a0 a1 a2 v9 v10 v11 (Zbk a0 a1 a2 fu) (IntKind.wrap .u64 (v8+v10))else Zdg a0 a1 a2 v9 v10 v11 (Zbk a0 a1 a2 fu) v8 else Zdg a0 a1 a2 v9 v10 v11 (Zbk a0 a1 a2 fu) v8 else some (v8,v9)
theorem ZmI(S0:Nat→Prop)(w0:ZaW)(a0 a1 a2:Int):∀(fu:Nat)(v8 v9 v10 v11:Int)(r:(Int×Int)),Zbk a0 a1 a2 fu v8 v9 v10 v11=some r→Good Tryz.prog 47 S0 w0 (bodyPost Tryz.prog Tryz.f357 (Post S0 w0 (.tup [(false,(cI .u64) r.1),(false,(cI .u64) r.2)]))) (at_ [1,1,1,0,1,0] (Zbl Tryz.f357)) ⟨[(0,.one (.lit (.int .u64 a0))),(1,.one (.lit (.int .u64 a1))),(2,.one (.lit (.int .i64 a2))),(8,.one (.lit (.int .u64 v8))),(9,.one (.lit (.int .u64 v9))),(10,.one (.lit (.int .u64 v10))),(11,.one (.lit (.int .i64 v11)))],[]⟩:=by
 intro fu;induction fu with
 |zero=>
  intro v8 v9 v10 v11 r hf;simp[Zbk]at hf
 |succ fu ih=>
  intro v8 v9 v10 v11 r hf;unfold Zbk at hf;rcases Zah hf with⟨h1,hf⟩|⟨h1,hf⟩
  ·rcases Zah hf with⟨h2,hf⟩|⟨h2,hf⟩
   ·obtain⟨o3,hf⟩:=Zar hf;have O2:Obl _:=(.c h1 (.c h2 (.c o3 (.c (show (2:Int)≠0 from(by decide)) .n))));rcases Zah hf with⟨h4,hf⟩|⟨h4,hf⟩
    ·exact ZaJ Zak Post.ends 13 [rz,rB [(3,true)],rz] [true,true] ⟨[],[],[],[],[],[0,1,2,8,9,10,11],[],[]⟩ (O2.app (.c h4 .n)) (by kernel_rfl) (ZgX S0 w0 a0 a1 a2 v9 v10 v11 (Zbk a0 a1 a2 fu) ih (IntKind.wrap .u64 (v8+v10)) r hf)
    ·exact ZaJ Zak Post.ends 13 [rz,rB [(3,true)]] [true,false] ⟨[],[],[],[],[],[0,1,2,8,9,10,11],[],[]⟩ (O2.app (.c h4 .n)) (by kernel_rfl) (ZgX S0 w0 a0 a1 a2 v9 v10 v11 (Zbk a0 a1 a2 fu) ih v8 r hf)
   ·exact ZaJ Zak Post.ends 13 [rz,rB [(3,false)]] [true,false] ⟨[],[],[],[],[],[0,1,2,8,9,10,11],[],[]⟩ (.c h1 (.c h2 (.c (show false=false from rfl) .n))) (by kernel_rfl) (ZgX S0 w0 a0 a1 a2 v9 v10 v11 (Zbk a0 a1 a2 fu) ih v8 r hf)
  ·obtain rfl:=oi hf;exact Zai Zak 8 [rz,rz] [false] [] [] [] (.c h1 .n) (by kernel_rfl) rfl
def Zdx(a0 a1 a2:Int):Option (Int×Int):=Zbk a0 a1 a2 (((64:Int)-(0:Int)).toNat+2) (0:Int) (0:Int) (9223372036854775808:Int) (0:Int)
theorem Zkb(a0 a1 a2:Int)(r:(Int×Int))(hf:Zdx a0 a1 a2=some r):Zaz Tryz.prog 357 [.one (.lit (.int .u64 a0)),.one (.lit (.int .u64 a1)),.one (.lit (.int .i64 a2))] (.tup [(false,(cI .u64) r.1),(false,(cI .u64) r.2)]):=by
 refine Zaz.of Tryz.func357 rfl rfl rfl rfl fun S0 w0=>?_;unfold Zdx at hf;exact ZaJ Zak Post.ends 10 [rz,rz,rz,rz] [] ⟨[],[],[],[],[],[0,1,2,8,9,10,11],[],[]⟩ .n (by kernel_rfl) (ZmI S0 w0 a0 a1 a2 (((64:Int)-(0:Int)).toNat+2) (0:Int) (0:Int) (9223372036854775808:Int) (0:Int) r hf)
def Zes(b2 b4:Zaj)(v1:Int):Option Zaj:=bif b2.fV6 then(Zdx b2.fHi b2.fLo v1).bind fun x3=>some (Zaj.mk true x3.1 x3.2)else(Zdx (0:Int) b2.fLo (Zaw (96:Int) v1)).bind fun x4=>some (Zaj.mk false (0:Int) x4.2)
theorem Ziq(S0:Nat→Prop)(w0:ZaW)(b2 b4:Zaj)(v1:Int)(r:Zaj)(hf:Zes b2 b4 v1=some r):Good Tryz.prog 45 S0 w0 (bodyPost Tryz.prog Tryz.f308 (Post S0 w0 (.agg (Zaj.c r)))) (at_ [1,1,1,1] (Zbl Tryz.f308)) ⟨[(1,.one (.lit (.int .i64 v1))),(2,.one (.ptr 2 0)),(4,.one (.ptr 4 0))],[(2,.box [.lit (.bool b2.fV6),.lit (.int .u64 b2.fHi),.lit (.int .u64 b2.fLo)]),(4,.box [.lit (.bool b4.fV6),.lit (.int .u64 b4.fHi),.lit (.int .u64 b4.fLo)])]⟩:=by
 unfold Zes at hf;rcases Zah hf with⟨h6,hf⟩|⟨h6,hf⟩
 ·obtain⟨x3,q7,hf⟩:=Zaf hf;obtain rfl:=oi hf;exact Zai Zak 8 [rz,rA [(5,.r (.tup [(false,(cI .u64) x3.1),(false,(cI .u64) x3.2)]) [])],rz] [true] [] [] [] (.c h6 (.c (Zkb _ _ _ _ q7) .n)) (by kernel_rfl) rfl
 ·obtain⟨x4,q8,hf⟩:=Zaf hf;obtain rfl:=oi hf;exact Zai Zak 9 [rz,rA [(4,.r (.tup [(false,(cI .u64) x4.1),(false,(cI .u64) x4.2)]) [])],rz] [false] [] [] [] (.c h6 (.c (Zkb _ _ _ _ q8) .n)) (by kernel_rfl) rfl
def Zet(v1:Int)(b2 b4:Zaj):Option Zaj:=(ZbF b2).bind fun x2=>bif(decide (v1>x2))then Zes b2 b4 x2 else Zes b2 b4 v1
theorem Zir(S0:Nat→Prop)(w0:ZaW)(v1:Int)(b2 b4 r:Zaj)(hf:Zet v1 b2 b4=some r):Good Tryz.prog 45 S0 w0 (bodyPost Tryz.prog Tryz.f308 (Post S0 w0 (.agg (Zaj.c r)))) (at_ [1,1,1] (Zbl Tryz.f308)) ⟨[(1,.one (.lit (.int .i64 v1))),(2,.one (.ptr 2 0)),(4,.one (.ptr 4 0))],[(2,.box [.lit (.bool b2.fV6),.lit (.int .u64 b2.fHi),.lit (.int .u64 b2.fLo)]),(4,.box [.lit (.bool b4.fV6),.lit (.int .u64 b4.fHi),.lit (.int .u64 b4.fLo)])]⟩:=by
 unfold Zet at hf;obtain⟨x2,q4,hf⟩:=Zaf hf;rcases Zah hf with⟨h5,hf⟩|⟨h5,hf⟩
 ·exact ZaJ Zak Post.ends 5 [rA [(2,aI x2)],rA [(1,aI x2)]] [true] ⟨[],[],[],[],[],[1,2,4],[2,4],[]⟩ (.c (ZbW _ _ q4) (.c h5 (.c (ZbW _ _ q4) .n))) (by kernel_rfl) (Ziq S0 w0 b2 b4 x2 r hf)
 ·exact ZaJ Zak Post.ends 5 [rA [(2,aI x2)]] [false] ⟨[],[],[],[],[],[1,2,4],[2,4],[]⟩ (.c (ZbW _ _ q4) (.c h5 .n)) (by kernel_rfl) (Ziq S0 w0 b2 b4 v1 r hf)
def Zhm(a0:Zaj)(a1:Int):Option Zaj:=(ZbG a0).bind fun x1=>bif(!x1)then some (Zaj.mk false (0:Int) (0:Int))else bif(decide (a1<(0:Int)))then Zet (0:Int) a0 (Zaj.mk false (0:Int) (0:Int))else Zet a1 a0 (Zaj.mk false (0:Int) (0:Int))
theorem ZnQ(a0:Zaj)(a1:Int)(r:Zaj)(hf:Zhm a0 a1=some r):Zaz Tryz.prog 308 [.agg (Zaj.c a0),.one (.lit (.int .i64 a1))] (.agg (Zaj.c r)):=by
 refine Zaz.of Tryz.func308 rfl rfl rfl rfl fun S0 w0=>?_;unfold Zhm at hf;obtain⟨x1,q1,hf⟩:=Zaf hf;rcases Zah hf with⟨h2,hf⟩|⟨h2,hf⟩
 ·obtain rfl:=oi hf;exact Zai Zak 8 [rz,rA [(1,aB x1)],rz] [true] [] [] [] (.c (Zbx _ _ q1) (.c h2 .n)) (by kernel_rfl) rfl
 ·have O1:Obl _:=(.c (Zbx _ _ q1) (.c h2 .n));rcases Zah hf with⟨h3,hf⟩|⟨h3,hf⟩
  ·exact ZaJ Zak Post.ends 12 [rz,rA [(1,aB x1)],rz,rz] [false,true] ⟨[],[],[],[],[],[1,2,4],[2,4],[]⟩ (O1.app (.c h3 .n)) (by kernel_rfl) (Zir S0 w0 (0:Int) a0 (Zaj.mk false (0:Int) (0:Int)) r hf)
  ·exact ZaJ Zak Post.ends 12 [rz,rA [(1,aB x1)],rz] [false,false] ⟨[],[],[],[],[],[1,2,4],[2,4],[]⟩ (O1.app (.c h3 .n)) (by kernel_rfl) (Zir S0 w0 a1 a0 (Zaj.mk false (0:Int) (0:Int)) r hf)
def Zhn(a0:Zaj)(a1:Int):Option (Zas×Bool):=(ZbG a0).bind fun x1=>bif(!x1)then some ((Zas.mk (Zaj.mk false (0:Int) (0:Int)) (0:Int)),false)else bif(decide (a1<(0:Int)))then some ((Zas.mk (Zaj.mk false (0:Int) (0:Int)) (0:Int)),false)else(ZbF a0).bind fun x2=>bif(decide (a1>x2))then some ((Zas.mk (Zaj.mk false (0:Int) (0:Int)) (0:Int)),false)else(Zhm a0 a1).bind fun x3=>some ((Zas.mk x3 a1),true)
theorem ZnR(a0:Zaj)(a1:Int)(r:(Zas×Bool))(hf:Zhn a0 a1=some r):Zaz Tryz.prog 236 [.agg (Zaj.c a0),.one (.lit (.int .i64 a1))] (.tup [(true,Zas.c r.1),(false,cB r.2)]):=by
 refine Zaz.of Tryz.func236 rfl rfl rfl rfl fun S0 w0=>?_;unfold Zhn at hf;obtain⟨x1,q1,hf⟩:=Zaf hf;rcases Zah hf with⟨h2,hf⟩|⟨h2,hf⟩
 ·obtain rfl:=oi hf;exact Zai Zak 8 [rz,⟨[(1,aB x1)],[(3,true)],[],[],[],[],[]⟩,rz] [true] [] [] [] (.c (Zbx _ _ q1) (.c h2 (.c (show true=true from rfl) .n))) (by kernel_rfl) rfl
 ·have O1:Obl _:=(.c (Zbx _ _ q1) (.c h2 .n));rcases Zah hf with⟨h3,hf⟩|⟨h3,hf⟩
  ·obtain rfl:=oi hf;exact Zai Zak 8 [rz,⟨[(1,aB x1)],[(3,false),(7,true)],[],[],[],[],[]⟩,rz] [true] [] [] [] (O1.app (.c h3 (.c (show true=true from rfl) .n))) (by kernel_rfl) rfl
  ·obtain⟨x2,q4,hf⟩:=Zaf hf
   let R2:List RA:=[rz,⟨[(1,aB x1),(10,aI x2)],[(3,false),(7,false)],[],[],[],[],[]⟩]
   have O3:Obl _:=(O1.app (.c h3 (.c (ZbW _ _ q4) .n)));rcases Zah hf with⟨h5,hf⟩|⟨h5,hf⟩
   ·obtain rfl:=oi hf;exact Zai Zak 8 (R2++[rz]) [true] [] [] [] (O3.app (.c h5 .n)) (by kernel_rfl) rfl
   ·obtain⟨x3,q6,hf⟩:=Zaf hf;obtain rfl:=oi hf;exact Zai Zak 9 (R2++[rA [(2,aG (Zaj.c x3))]]) [false] [] [] [] (O3.app (.c h5 (.c (ZnQ _ _ _ q6) .n))) (by kernel_rfl) rfl
end Go.Proofs.YtdjfoojllbfcgaaGreat
