import Derived.Test.YtdjfoojllbfcgaaGreatKRngA0
namespace Go.Proofs.YtdjfoojllbfcgaaGreat
open Go.RowKit Go.Lib Go.Shelf
set_option linter.unusedVariables false
set_option maxRecDepth 100000
def Znx(a0:Zai)(a1:Zag):Option Bool:=(Zhg a0).bind fun x1=>bif x1 then(Zen a1).bind fun x2=>bif x2 then bif(a0.fAddr.fV6==a1.fV6)then(Zhu a1 a0.fBits).bind fun x3=>some (decide (x3=a0.fAddr))else some false else some false else some false
theorem Zkb(a0:Zai)(a1:Zag)(r:Bool)(hf:Znx a0 a1=some r):Zay Tryz.prog 296 [.agg (Zai.c a0),.agg (Zag.c a1)] (.one (.lit (.bool r))):=by
 refine Zay.of Tryz.func296 rfl rfl rfl rfl fun S0 w0=>?_;unfold Znx at hf;obtain⟨x1,q1,hf⟩:=Zae hf;rcases Zal hf with⟨h2,hf⟩|⟨h2,hf⟩
 ·obtain⟨x2,q3,hf⟩:=Zae hf;have O1:Obl _:=(.c (Zdg _ _ q1) (.c h2 (.c (ZbY _ _ q3) .n)));rcases Zal hf with⟨h4,hf⟩|⟨h4,hf⟩
  ·rcases Zal hf with⟨h5,hf⟩|⟨h5,hf⟩
   ·obtain⟨x3,q6,hf⟩:=Zae hf;obtain rfl:=oi hf;exact Zak Zam 4 [rz,⟨[(1,aB x1),(4,aB x2),(18,aG (Zag.c x3)),(21,aB (decide (x3=a0.fAddr)))],[(2,true),(6,true),(14,true)],[],[],[],[],[]⟩] [] [] [] [] (O1.app (.c h4 (.c h5 (.c (Zqi _ _ _ q6) (.c (ZkC x3 a0.fAddr (.tmp 23) (.tmp 25)) .n))))) (by kernel_rfl) rfl
   ·obtain rfl:=oi hf;exact Zak Zam 4 [rz,⟨[(1,aB x1),(4,aB x2)],[(2,true),(6,true),(14,false)],[],[],[],[],[]⟩] [] [] [] [] (O1.app (.c h4 (.c h5 .n))) (by kernel_rfl) rfl
  ·obtain rfl:=oi hf;exact Zak Zam 4 [rz,⟨[(1,aB x1),(4,aB x2)],[(2,true),(6,false)],[],[],[],[],[]⟩] [] [] [] [] (O1.app (.c h4 .n)) (by kernel_rfl) rfl
 ·obtain rfl:=oi hf;exact Zak Zam 4 [rz,⟨[(1,aB x1)],[(2,false)],[],[],[],[],[]⟩] [] [] [] [] (.c (Zdg _ _ q1) (.c h2 .n)) (by kernel_rfl) rfl
def Zbs:Nat→Zau→(List Zav)→Zag→Option (List Zav)|0,_,_,_=>none|fu+1,v6,w5,b3=>(match v6 with | .nil=>some w5 | .mk p4_0 p4_1 p4_2 p4_3=>(Znx p4_0.fNet b3).bind fun x5=>bif x5 then bif p4_1 then need ((w5++([p4_0]:List Zav)).length * 40≤140737488355328∧(w5++([p4_0]:List Zav)).length≤maxLen)<|(Zhd b3 p4_0.fNet.fBits).bind fun x6=>need (0≤x6∧x6<((2:Nat):Int))<|ix2 x6 ( Zbs fu p4_2 (w5++([p4_0]:List Zav)) b3) ( Zbs fu p4_3 (w5++([p4_0]:List Zav)) b3)else(Zhd b3 p4_0.fNet.fBits).bind fun x7=>need (0≤x7∧x7<((2:Nat):Int))<|ix2 x7 ( Zbs fu p4_2 w5 b3) ( Zbs fu p4_3 w5 b3)else some w5)
theorem ZjG(S0:Nat→Prop)(w0:ZaV):∀(fu:Nat)(v6:Zau)(w5:List Zav)(b3:Zag)(r:List Zav),Zbs fu v6 w5 b3=some r→Good Tryz.prog 57 S0 w0 (bodyPost Tryz.prog Tryz.f243 (Zcf S0 w0 [(99999,.rows 281 5 r.length (Zar Zav.c Zav.d r))] (.one (.osl 99999 r.length)))) (at_ [1,1,1,1,0,0] (Zbo Tryz.f243)) ⟨[(3,.one (.ptr 3 0)),(5,.one (.osl 5 w5.length)),(6,.one (Zau.c v6))],[(5,.rows 281 5 w5.length (Zar Zav.c Zav.d w5)),(3,.box [.lit (.bool b3.fV6),.lit (.int .u64 b3.fHi),.lit (.int .u64 b3.fLo)])]⟩:=by
 intro fu;induction fu with
 |zero=>
  intro v6 w5 b3 r hf;simp[Zbs]at hf
 |succ fu ih=>
  intro v6 w5 b3 r hf;unfold Zbs at hf;cases v6 with
  |nil=>
   dsimp only at hf;obtain rfl:=oi hf;exact ZbO Zam 8 [rz,rz] [false] ⟨[],[],[],[],[],[4],[5],[(5,99999)]⟩ (.c (show false=false from rfl) .n) (by kernel_rfl)
  |mk p4_0 p4_1 p4_2 p4_3=>
   dsimp only at hf;obtain⟨x5,q5,hf⟩:=Zae hf;rcases Zal hf with⟨h6,hf⟩|⟨h6,hf⟩
   ·rcases Zal hf with⟨h7,hf⟩|⟨h7,hf⟩
    ·obtain⟨o8,hf⟩:=Zaw hf;obtain⟨x6,q9,hf⟩:=Zae hf;obtain⟨o10,hf⟩:=Zaw hf;rcases ZiX o10 hf with⟨e,hf⟩|⟨e,hf⟩
     ·subst e;exact ZaG Zam Zcf.ends 15 [rA [(9,aB x5)],rz,⟨[(6,.c ((w5++([p4_0]:List Zav)).length) (Zar Zav.c Zav.d (w5++([p4_0]:List Zav))))],[],[],[],[],[(5,(([p4_0]:List Zav).length,Zar Zav.c Zav.d ([p4_0]:List Zav)))],[]⟩,rA [(8,aI (0:Int))]] [true,true] ⟨[],[],[],[],[],[3,5,6],[42,3],[(42,5)]⟩ (.c (Zkb _ _ _ q5) (.c h6 (.c h7 (.c (show ([p4_0]:List Zav).length=1∧∀i j,i<1→j<5→Zar Zav.c Zav.d ([p4_0]:List Zav) i j=(([p4_0]:List Zav).flatMap Zav.c).getD (i * 5+j) .junk from⟨rfl,fun i j hi hj=>ZaY (sz:=5) (e:=Zav.c) (d:=Zav.d) (fun _=>rfl) ([p4_0]:List Zav) i j hi hj⟩) (.c (Zep (sz:=5) (e:=Zav.c) (d:=Zav.d) w5 ([p4_0]:List Zav)) (.c o8.1 (.c o8.2 (.c (Zke _ _ _ q9) (.c (show 0≤(0:Int)∧(0:Int)<((2:Nat):Int)from(by decide)) .n))))))))) (by kernel_rfl) (ih p4_2 (w5++([p4_0]:List Zav)) b3 r hf)
     ·subst e;exact ZaG Zam Zcf.ends 15 [rA [(9,aB x5)],rz,⟨[(6,.c ((w5++([p4_0]:List Zav)).length) (Zar Zav.c Zav.d (w5++([p4_0]:List Zav))))],[],[],[],[],[(5,(([p4_0]:List Zav).length,Zar Zav.c Zav.d ([p4_0]:List Zav)))],[]⟩,rA [(8,aI (1:Int))]] [true,true] ⟨[],[],[],[],[],[3,5,6],[42,3],[(42,5)]⟩ (.c (Zkb _ _ _ q5) (.c h6 (.c h7 (.c (show ([p4_0]:List Zav).length=1∧∀i j,i<1→j<5→Zar Zav.c Zav.d ([p4_0]:List Zav) i j=(([p4_0]:List Zav).flatMap Zav.c).getD (i * 5+j) .junk from⟨rfl,fun i j hi hj=>ZaY (sz:=5) (e:=Zav.c) (d:=Zav.d) (fun _=>rfl) ([p4_0]:List Zav) i j hi hj⟩) (.c (Zep (sz:=5) (e:=Zav.c) (d:=Zav.d) w5 ([p4_0]:List Zav)) (.c o8.1 (.c o8.2 (.c (Zke _ _ _ q9) (.c (show 0≤(1:Int)∧(1:Int)<((2:Nat):Int)from(by decide)) .n))))))))) (by kernel_rfl) (ih p4_3 (w5++([p4_0]:List Zav)) b3 r hf)
    ·obtain⟨x7,q11,hf⟩:=Zae hf;obtain⟨o12,hf⟩:=Zaw hf;rcases ZiX o12 hf with⟨e,hf⟩|⟨e,hf⟩
     ·subst e;exact ZaG Zam Zcf.ends 15 [rA [(9,aB x5)],rz,rA [(8,aI (0:Int))]] [true,false] ⟨[],[],[],[],[],[3,5,6],[5,3],[]⟩ (.c (Zkb _ _ _ q5) (.c h6 (.c h7 (.c (Zke _ _ _ q11) (.c (show 0≤(0:Int)∧(0:Int)<((2:Nat):Int)from(by decide)) .n))))) (by kernel_rfl) (ih p4_2 w5 b3 r hf)
     ·subst e;exact ZaG Zam Zcf.ends 15 [rA [(9,aB x5)],rz,rA [(8,aI (1:Int))]] [true,false] ⟨[],[],[],[],[],[3,5,6],[5,3],[]⟩ (.c (Zkb _ _ _ q5) (.c h6 (.c h7 (.c (Zke _ _ _ q11) (.c (show 0≤(1:Int)∧(1:Int)<((2:Nat):Int)from(by decide)) .n))))) (by kernel_rfl) (ih p4_3 w5 b3 r hf)
   ·obtain rfl:=oi hf;exact ZbO Zam 8 [rA [(9,aB x5)],rz] [false] ⟨[],[],[],[],[],[4],[5],[(5,99999)]⟩ (.c (Zkb _ _ _ q5) (.c h6 .n)) (by kernel_rfl)
def Zfz(a0:ZaE)(a1:Zag):Option (List Zav):=(match a0 with | .nil=>some ([]:List Zav) | .mk p1_0 p1_1 p1_2=>(Zen a1).bind fun x2=>bif(!x2)then some ([]:List Zav)else(Zgb a1).bind fun x3=>need (0≤x3∧x3<((2:Nat):Int))<|ix2 x3 ( Zbs 1000000 p1_0 ([]) a1) ( Zbs 1000000 p1_1 ([]) a1))
theorem ZoU(a0:ZaE)(a1:Zag)(r:List Zav)(hf:Zfz a0 a1=some r):Zdo Tryz.prog 243 [] [.one (ZaE.c a0),.agg (Zag.c a1)] [(99999,.rows 281 5 r.length (Zar Zav.c Zav.d r))] (.one (.osl 99999 r.length)):=by
 refine Zdo.of Tryz.func243 rfl rfl rfl rfl fun S0 w0=>?_;unfold Zfz at hf;cases a0 with
 |nil=>
  dsimp only at hf;obtain rfl:=oi hf;exact ZbO Zam 8 [rz,rz,rz] [true] ⟨[],[],[],[],[(4,99999,281,5,Zar Zav.c Zav.d [])],[4],[99999],[]⟩ (.c (show true=true from rfl) .n) (by kernel_rfl)
 |mk p1_0 p1_1 p1_2=>
  dsimp only at hf;obtain⟨x2,q1,hf⟩:=Zae hf;rcases Zal hf with⟨h2,hf⟩|⟨h2,hf⟩
  ·obtain rfl:=oi hf;exact ZbO Zam 8 [rz,rA [(4,aB x2)],rz] [true] ⟨[],[],[],[],[(4,99999,281,5,Zar Zav.c Zav.d [])],[4],[99999],[]⟩ (.c (ZbY _ _ q1) (.c h2 .n)) (by kernel_rfl)
  ·obtain⟨x3,q3,hf⟩:=Zae hf;obtain⟨o4,hf⟩:=Zaw hf;rcases ZiX o4 hf with⟨e,hf⟩|⟨e,hf⟩
   ·subst e;exact ZaG Zam Zcf.ends 13 [rz,rA [(4,aB x2)],rz,rA [(2,aI (0:Int))]] [false] ⟨[],[],[],[],[(5,5,281,5,Zar Zav.c Zav.d [])],[3,5,6],[5,3],[]⟩ (.c (ZbY _ _ q1) (.c h2 (.c (Zek _ _ q3) (.c (show 0≤(0:Int)∧(0:Int)<((2:Nat):Int)from(by decide)) .n)))) (by kernel_rfl) (ZjG S0 w0 1000000 p1_0 ([]) a1 r hf)
   ·subst e;exact ZaG Zam Zcf.ends 13 [rz,rA [(4,aB x2)],rz,rA [(2,aI (1:Int))]] [false] ⟨[],[],[],[],[(5,5,281,5,Zar Zav.c Zav.d [])],[3,5,6],[5,3],[]⟩ (.c (ZbY _ _ q1) (.c h2 (.c (Zek _ _ q3) (.c (show 0≤(1:Int)∧(1:Int)<((2:Nat):Int)from(by decide)) .n)))) (by kernel_rfl) (ZjG S0 w0 1000000 p1_1 ([]) a1 r hf)
theorem ZpN(a0:ZaE)(a1:Zag)(r:List Zav)(hf:Zfz a0 a1=some r):Zay Tryz.prog 243 [.one (ZaE.c a0),.agg (Zag.c a1)] (.one (cL 5 Zav.c Zav.d r)):=(ZoU a0 a1 r hf).pure
def ZfR:Nat→Int→(List Zav)→Int→Int→Option Int|0,_,_,_,_=>none|fu+1,v8,v23,v24,v25=>bif(decide (v25<v24))then need (0≤v25∧v25<((v23.length:Nat):Int))<|ZfR fu (if(v23.getD v25.toNat Zav.d).fV>v8 then(v23.getD v25.toNat Zav.d).fV else v8) v23 v24 (ZaC v25 (1:Int))else some v8
theorem Zrn(S0:Nat→Prop)(w0:ZaV):∀(fu:Nat)(v8:Int)(v23:List Zav)(v24 v25 r:Int),ZfR fu v8 v23 v24 v25=some r→Good Tryz.prog 35 S0 w0 (bodyPost Tryz.prog Tryz.f181 (Post S0 w0 (.one (.lit (.int .i64 r))))) (at_ [1,1,1,1,0,1,0] (Zbo Tryz.f181)) ⟨[(8,.one (.lit (.int .i64 v8))),(23,.one (cL 5 Zav.c Zav.d v23)),(24,.one (.lit (.int .i64 v24))),(25,.one (.lit (.int .i64 v25)))],[]⟩:=by
 intro fu;induction fu with
 |zero=>
  intro v8 v23 v24 v25 r hf;simp[ZfR]at hf
 |succ fu ih=>
  intro v8 v23 v24 v25 r hf;unfold ZfR at hf;rcases Zal hf with⟨h5,hf⟩|⟨h5,hf⟩
  ·obtain⟨o6,hf⟩:=Zaw hf;exact ZaG Zam Post.ends 14 [rz,rz,rz,rz] [true] ⟨[],[],[],[],[],[8,23,24,25],[],[]⟩ (.c h5 (.c o6 .n)) (by kernel_rfl) (ih (if(v23.getD v25.toNat Zav.d).fV>v8 then(v23.getD v25.toNat Zav.d).fV else v8) v23 v24 (ZaC v25 (1:Int)) r hf)
  ·obtain rfl:=oi hf;exact Zak Zam 8 [rz,rz] [false] [] [] [] (.c h5 .n) (by kernel_rfl) rfl
def Zhh(a0:List Zah)(a1:Zag)(a2:Int):Option Int:=(ZkU a0 a2).bind fun x1=>(Zfz x1 a1).bind fun x2=>bif(((x2.length:Nat):Int)==(0:Int))then some (0:Int)else need (0≤(0:Int)∧(0:Int)<((x2.length:Nat):Int))<|ZfR ((((x2.length:Nat):Int)-(0:Int)).toNat+2) ((x2.getD (0:Int).toNat Zav.d).fV) x2 ((x2.length:Nat):Int) (0:Int)
theorem Zpm(a0:List Zah)(a1:Zag)(a2 r:Int)(hf:Zhh a0 a1 a2=some r):Zay Tryz.prog 181 [.one (cL 5 Zah.c Zah.d a0),.agg (Zag.c a1),.one (.lit (.int .i64 a2))] (.one (.lit (.int .i64 r))):=by
 refine Zay.of Tryz.func181 rfl rfl rfl rfl fun S0 w0=>?_;unfold Zhh at hf;obtain⟨x1,q1,hf⟩:=Zae hf;obtain⟨x2,q2,hf⟩:=Zae hf
 let R1:List RA:=[rz,rA [(2,.r (.one (ZaE.c x1)) []),(4,.r (.one (cL 5 Zav.c Zav.d x2)) [])],rz,rz]
 have O2:Obl _:=(.c (ZtY _ _ _ q1) (.c (ZpN _ _ _ q2) .n));rcases Zal hf with⟨h3,hf⟩|⟨h3,hf⟩
 ·obtain rfl:=oi hf;exact Zak Zam 10 R1 [true] [] [] [] (O2.app (.c h3 .n)) (by kernel_rfl) rfl
 ·obtain⟨o4,hf⟩:=Zaw hf;exact ZaG Zam Post.ends 15 (R1++[rz]) [false] ⟨[],[],[],[],[],[8,23,24,25],[],[]⟩ (O2.app (.c h3 (.c o4 .n))) (by kernel_rfl) (Zrn S0 w0 ((((x2.length:Nat):Int)-(0:Int)).toNat+2) ((x2.getD (0:Int).toNat Zav.d).fV) x2 ((x2.length:Nat):Int) (0:Int) r hf)
def Zju(a0:Zag):Option Int:=bif a0.fV6 then some (32:Int)else some (16:Int)
theorem ZtR(a0:Zag)(r:Int)(hf:Zju a0=some r):Zay Tryz.prog 407 [.agg (Zag.c a0)] (.one (.lit (.int .i64 r))):=by
 refine Zay.of Tryz.func407 rfl rfl rfl rfl fun S0 w0=>?_;unfold Zju at hf;rcases Zal hf with⟨h1,hf⟩|⟨h1,hf⟩
 ·obtain rfl:=oi hf;exact Zak Zam 8 [rz,rz,rz] [true] [] [] [] (.c h1 .n) (by kernel_rfl) rfl
 ·obtain rfl:=oi hf;exact Zak Zam 9 [rz,rz,rz] [false] [] [] [] (.c h1 .n) (by kernel_rfl) rfl
def Ziu(a0:Zag):Option Zai:=(Zju a0).bind fun x1=>(Zfd a0 x1).bind fun x2=>some x2.1
theorem ZnS(a0:Zag)(r:Zai)(hf:Ziu a0=some r):Zay Tryz.prog 389 [.agg (Zag.c a0)] (.agg (Zai.c r)):=by
 refine Zay.of Tryz.func389 rfl rfl rfl rfl fun S0 w0=>?_;unfold Ziu at hf;obtain⟨x1,q1,hf⟩:=Zae hf;obtain⟨x2,q2,hf⟩:=Zae hf;obtain rfl:=oi hf;exact Zak Zam 6 [rz,rA [(2,aI x1),(3,.r (.tup [(true,Zai.c x2.1),(false,cB x2.2)]) [])],rz] [] [] [] [] (.c (ZtR _ _ q1) (.c (Zfy _ _ _ q2) .n)) (by kernel_rfl) rfl
def Zky(a0 a1:Zai):Option Int:=(ZhJ a0.fAddr a1.fAddr).bind fun x1=>(ZdL a0.fBits a1.fBits).bind fun x2=>(Zfx ([x1,x2]:List Int)).bind fun x3=>some x3
theorem Zsc(a0 a1:Zai)(r:Int)(hf:Zky a0 a1=some r):Zay Tryz.prog 349 [.agg (Zai.c a0),.agg (Zai.c a1)] (.one (.lit (.int .i64 r))):=by
 refine Zay.of Tryz.func349 rfl rfl rfl rfl fun S0 w0=>?_;unfold Zky at hf;obtain⟨x1,q1,hf⟩:=Zae hf;obtain⟨x2,q2,hf⟩:=Zae hf;obtain⟨x3,q3,hf⟩:=Zae hf;obtain rfl:=oi hf;exact Zak Zam 4 [rz,⟨[(4,aI x1),(9,aI x2),(11,aI x3)],[],[],[],[],[(10,(([x1,x2]:List Int).length,Zar (cI .i64) (0:Int) ([x1,x2]:List Int)))],[]⟩] [] [] [] [] (.c (ZnA _ _ _ q1) (.c (ZgK _ _ _ q2) (.c (show ([x1,x2]:List Int).length=2∧∀i j,i<2→j<1→Zar (cI .i64) (0:Int) ([x1,x2]:List Int) i j=(([x1,x2]:List Int).flatMap (cI .i64)).getD (i * 1+j) .junk from⟨rfl,fun i j hi hj=>ZaY (sz:=1) (e:=(cI .i64)) (d:=(0:Int)) (fun _=>rfl) ([x1,x2]:List Int) i j hi hj⟩) (.c (ZjY _ _ q3) .n)))) (by kernel_rfl) rfl
def cmpN(a b:Zai):Int:=orI (cmpA a.fAddr b.fAddr) (cmpI a.fBits b.fBits)
theorem ZFN(a b:Zai):Zky a b=some (cmpN a b):=by
 simp only[Zky,ZBq,ZwW,or2,Option.bind_some,cmpN]
theorem ZEw{a b:Zai}:cmpN a b<0↔cmpA a.fAddr b.fAddr<0∨(a.fAddr=b.fAddr∧a.fBits<b.fBits):=by simp only[cmpN,ZxM,Zul,ZnC]
theorem ZHw{a b:Zai}:0<cmpN a b↔0<cmpA a.fAddr b.fAddr∨(a.fAddr=b.fAddr∧b.fBits<a.fBits):=by simp only[cmpN,ZAE,ZwX,ZnC]
theorem ZiW{a b:Zai}:cmpN a b=0↔a=b:=by
 simp only[cmpN,ZsO,ZkX,ZnC];obtain⟨x,p⟩:=a;obtain⟨y,q⟩:=b;simp
theorem Zpt{a b:Zai}:0<cmpN a b↔cmpN b a<0:=by
 rw[ZHw,ZEw,ZyD];constructor<;>rintro (h|⟨h1,h2⟩)<;>first|exact .inl h|exact .inr ⟨h1.symm,h2⟩
theorem ZpJ{a b c:Zai}(h1:cmpN a b<0)(h2:cmpN b c<0):cmpN a c<0:=by
 rw[ZEw]at *
 rcases h1 with h1|⟨h1,h3⟩<;>rcases h2 with h2|⟨h2,h4⟩
 ·exact .inl (ZvO h1 h2)
 ·exact .inl (h2 ▸ h1)
 ·exact .inl (h1 ▸ h2)
 ·exact .inr ⟨h1.trans h2,by omega⟩
theorem ltN(a b:Zai):Go.Proofs.ltOf cmpN a b=decide (cmpN a b<0):=by
 unfold Go.Proofs.ltOf;rfl
theorem ZBi:Go.Sort.SWO (Go.Proofs.ltOf cmpN) where
 irrefl x:=by rw[ltN];simp[(ZiW (a:=x) (b:=x)).2 rfl]
 trans x y z h1 h2:=by
  rw[ltN,decide_eq_true_eq]at *
  exact ZpJ h1 h2
 ntrans x y z h1 h2:=by
  rw[ltN,decide_eq_false_iff_not]at *
  intro h;have e1:cmpN x y=0∨0<cmpN x y:=by omega
  have e2:cmpN y z=0∨0<cmpN y z:=by omega
  rcases e1 with e1|e1
  ·rw[ZiW]at e1;subst e1;omega
  ·rcases e2 with e2|e2
   ·rw[ZiW]at e2;subst e2;omega
   ·have h3:=ZpJ (Zpt.1 e2) (Zpt.1 e1);have h4:=Zpt.2 h3;omega
theorem ZCr(x y:Zai)(h1:Go.Proofs.ltOf cmpN x y=false)(h2:Go.Proofs.ltOf cmpN y x=false):x=y:=by
 rw[ltN,decide_eq_false_iff_not]at *
 rw[←ZiW];have:¬0<cmpN x y:=fun h=>h2 (Zpt.1 h);omega
def Zbd(kg_slices_Compact_api_Net_api_Net_c0:Int→(List Zai)→Option (List Zai)):Nat→Int→Nat→Nat→Nat→Int→(List Zai)→Option (List Zai)|0,_,_,_,_,_,_=>none|fu+1,v3,vo4,vl4,vn4,v5,w100000=>bif(decide (v5<((vl4:Nat):Int)))then need (0≤v5∧v5<((vl4:Nat):Int))<|need ((vo4+v5.toNat)<w100000.length)<|need (0≤(Zby v5 (1:Int))∧(Zby v5 (1:Int))<((vl4:Nat):Int))<|need ((vo4+(Zby v5 (1:Int)).toNat)<w100000.length)<|bif(!(decide ((w100000.getD (vo4+v5.toNat) Zai.d)=(w100000.getD (vo4+(Zby v5 (1:Int)).toNat) Zai.d))))then need (0≤v3∧v3<((w100000.length:Nat):Int))<|Zbd kg_slices_Compact_api_Net_api_Net_c0 fu (ZaC v3 (1:Int)) vo4 vl4 vn4 (ZaC v5 (1:Int)) (w100000.set v3.toNat (w100000.getD (vo4+v5.toNat) Zai.d))else Zbd kg_slices_Compact_api_Net_api_Net_c0 fu v3 vo4 vl4 vn4 (ZaC v5 (1:Int)) w100000 else need (0≤v3∧v3≤((w100000.length:Nat):Int)∧((w100000.length:Nat):Int)≤((w100000.length:Nat):Int))<|need (v3.toNat+(w100000.length-v3.toNat)≤w100000.length)<|need (0≤(0:Int)∧(0:Int)≤v3∧v3≤((w100000.length:Nat):Int))<|need (v3.toNat≤(Zkh w100000 v3.toNat (w100000.length-v3.toNat) Zai.d).length)<|some ((Zkh w100000 v3.toNat (w100000.length-v3.toNat) Zai.d).take v3.toNat)
theorem Zir(S0:Nat→Prop)(w0:ZaV)(kg_slices_Compact_api_Net_api_Net_c0:Int→(List Zai)→Option (List Zai))(hg_slices_Compact_api_Net_api_Net_c0:∀(v3_:Int)(w100000_ r:List Zai),kg_slices_Compact_api_Net_api_Net_c0 v3_ w100000_=some r→Good Tryz.prog 61 S0 w0 (bodyPost Tryz.prog Tryz.f412 (Zcf S0 w0 [(99999,.rows 32 4 r.length (Zar Zai.c Zai.d r))] (.one (.osl 99999 r.length)))) (at_ [1,1,0,1,0] (Zbo Tryz.f412)) ⟨[(0,.one (.osl 100000 w100000_.length)),(3,.one (.lit (.int .i64 v3_)))],[(100000,.rows 32 4 w100000_.length (Zar Zai.c Zai.d w100000_))]⟩):∀(fu:Nat)(v3:Int)(vo4 vl4 vn4:Nat)(v5:Int)(w100000 r:List Zai),Zbd kg_slices_Compact_api_Net_api_Net_c0 fu v3 vo4 vl4 vn4 v5 w100000=some r→Good Tryz.prog 61 S0 w0 (bodyPost Tryz.prog Tryz.f412 (Zcf S0 w0 [(99999,.rows 32 4 r.length (Zar Zai.c Zai.d r))] (.one (.osl 99999 r.length)))) (at_ [1,1,0,1,0,0,1,0,0,1,0,1,0,1,0] (Zbo Tryz.f412)) ⟨[(0,.one (.osl 100000 w100000.length)),(3,.one (.lit (.int .i64 v3))),(4,.one (.osub 100000 4 vo4 vl4 vn4)),(5,.one (.lit (.int .i64 v5)))],[(100000,.rows 32 4 w100000.length (Zar Zai.c Zai.d w100000))]⟩:=by
 intro fu;induction fu with
 |zero=>
  intro v3 vo4 vl4 vn4 v5 w100000 r hf;simp[Zbd]at hf
 |succ fu ih=>
  intro v3 vo4 vl4 vn4 v5 w100000 r hf;unfold Zbd at hf;rcases Zal hf with⟨h7,hf⟩|⟨h7,hf⟩
  ·obtain⟨o8,hf⟩:=Zaw hf;obtain⟨o9,hf⟩:=Zaw hf;obtain⟨o10,hf⟩:=Zaw hf;obtain⟨o11,hf⟩:=Zaw hf
   let R1:List RA:=[rz,rA [(9,aB (!(decide ((w100000.getD (vo4+v5.toNat) Zai.d)=(w100000.getD (vo4+(Zby v5 (1:Int)).toNat) Zai.d)))))]]
   have O2:Obl _:=(.c h7 (.c o8 (.c o9 (.c o10 (.c o11 (.c (ZqP (w100000.getD (vo4+v5.toNat) Zai.d) (w100000.getD (vo4+(Zby v5 (1:Int)).toNat) Zai.d) (.tmp 38) (.tmp 43)) .n))))));rcases Zal hf with⟨h12,hf⟩|⟨h12,hf⟩
   ·obtain⟨o13,hf⟩:=Zaw hf;exact ZaG Zam Zcf.ends 17 (R1++[rA [(7,.c (w100000.set v3.toNat (w100000.getD (vo4+v5.toNat) Zai.d)).length (Zar Zai.c Zai.d (w100000.set v3.toNat (w100000.getD (vo4+v5.toNat) Zai.d))))],rz,rz]) [true,true] ⟨[],[],[],[(100000,((w100000.set v3.toNat (w100000.getD (vo4+v5.toNat) Zai.d)).length))],[],[0,3,4,5],[100000],[]⟩ (O2.app (.c h12 (.c o8 (.c o9 (.c o13 (.c (show (w100000.set v3.toNat (w100000.getD (vo4+v5.toNat) Zai.d)).length=w100000.length from List.length_set) (.c (show v3.toNat<w100000.length from(ltOf o13)) (.c (show ExtU 4 w100000.length (Zar Zai.c Zai.d w100000) v3.toNat 0 (Zai.c (w100000.getD (vo4+v5.toNat) Zai.d)) (Zar Zai.c Zai.d (w100000.set v3.toNat (w100000.getD (vo4+v5.toNat) Zai.d)))from(Zpo _ _ _ rfl)) (.c (show (w100000.set v3.toNat (w100000.getD (vo4+v5.toNat) Zai.d)).length=(w100000.set v3.toNat (w100000.getD (vo4+v5.toNat) Zai.d)).length from rfl) .n))))))))) (by kernel_rfl) (ih (ZaC v3 (1:Int)) vo4 vl4 vn4 (ZaC v5 (1:Int)) (w100000.set v3.toNat (w100000.getD (vo4+v5.toNat) Zai.d)) r hf)
   ·exact ZaG Zam Zcf.ends 15 (R1++[rz]) [true,false] ⟨[],[],[],[],[],[0,3,4,5],[100000],[]⟩ (O2.app (.c h12 .n)) (by kernel_rfl) (ih v3 vo4 vl4 vn4 (ZaC v5 (1:Int)) w100000 r hf)
  ·obtain⟨o14,hf⟩:=Zaw hf;obtain⟨o15,hf⟩:=Zaw hf;obtain⟨o16,hf⟩:=Zaw hf;obtain⟨o17,hf⟩:=Zaw hf;obtain rfl:=oi hf;exact ZbO Zam 10 [rz,rA [(3,.c (Zkh w100000 v3.toNat (w100000.length-v3.toNat) Zai.d).length (Zar Zai.c Zai.d (Zkh w100000 v3.toNat (w100000.length-v3.toNat) Zai.d)))],rA [(3,.c ((Zkh w100000 v3.toNat (w100000.length-v3.toNat) Zai.d).take v3.toNat).length (Zar Zai.c Zai.d ((Zkh w100000 v3.toNat (w100000.length-v3.toNat) Zai.d).take v3.toNat)))]] [false] ⟨[],[],[],[],[],[2],[2],[(2,99999)]⟩ (.c h7 (.c o14 (.c (show (Zkh w100000 v3.toNat (w100000.length-v3.toNat) Zai.d).length=w100000.length from(ZyF _ _ _ _ o15)) (.c (show ∀i j,i<w100000.length→j<4→(i<v3.toNat∨v3.toNat+(w100000.length-v3.toNat)≤i)→Zar Zai.c Zai.d (Zkh w100000 v3.toNat (w100000.length-v3.toNat) Zai.d) i j=Zar Zai.c Zai.d w100000 i j from(ZEB _ _ _ o15)) (.c (show ∀i j,i<(w100000.length-v3.toNat)→j<4→Zsy (([.lit (.bool false),.lit (.int .u64 (0)),.lit (.int .u64 (0)),.lit (.int .i64 (0))]:List C).getD j .junk) (Zar Zai.c Zai.d (Zkh w100000 v3.toNat (w100000.length-v3.toNat) Zai.d) (v3.toNat+i) j)from(ZEC _ _ _ o15 (fun j hj=>.inl rfl))) (.c o16 (.c (show 0=0 from rfl) (.c (show ((Zkh w100000 v3.toNat (w100000.length-v3.toNat) Zai.d).take v3.toNat).length=v3.toNat from(ZCT _ _ o17)) (.c (show ∀i j,i<v3.toNat→j<4→Zar Zai.c Zai.d ((Zkh w100000 v3.toNat (w100000.length-v3.toNat) Zai.d).take v3.toNat) i j=Zar Zai.c Zai.d (Zkh w100000 v3.toNat (w100000.length-v3.toNat) Zai.d) i j from(ZAq _ _)) .n))))))))) (by kernel_rfl)
def ZaS:Nat→Int→(List Zai)→Option (List Zai)|0,_,_=>none|fu+1,v3,w100000=>bif(decide (v3<((w100000.length:Nat):Int)))then need (0≤v3∧v3<((w100000.length:Nat):Int))<|need (0≤(Zby v3 (1:Int))∧(Zby v3 (1:Int))<((w100000.length:Nat):Int))<|bif(decide ((w100000.getD v3.toNat Zai.d)=(w100000.getD ((Zby v3 (1:Int)).toNat) Zai.d)))then need (0≤v3∧v3≤((w100000.length:Nat):Int)∧((w100000.length:Nat):Int)≤((w100000.length:Nat):Int))<|Zbd (ZaS fu) 1000000 v3 v3.toNat (w100000.length-v3.toNat) w100000.length (1:Int) w100000 else ZaS fu (ZaC v3 (1:Int)) w100000 else some w100000
theorem Zis(S0:Nat→Prop)(w0:ZaV):∀(fu:Nat)(v3:Int)(w100000 r:List Zai),ZaS fu v3 w100000=some r→Good Tryz.prog 61 S0 w0 (bodyPost Tryz.prog Tryz.f412 (Zcf S0 w0 [(99999,.rows 32 4 r.length (Zar Zai.c Zai.d r))] (.one (.osl 99999 r.length)))) (at_ [1,1,0,1,0] (Zbo Tryz.f412)) ⟨[(0,.one (.osl 100000 w100000.length)),(3,.one (.lit (.int .i64 v3)))],[(100000,.rows 32 4 w100000.length (Zar Zai.c Zai.d w100000))]⟩:=by
 intro fu;induction fu with
 |zero=>
  intro v3 w100000 r hf;simp[ZaS]at hf
 |succ fu ih=>
  intro v3 w100000 r hf;unfold ZaS at hf;rcases Zal hf with⟨h2,hf⟩|⟨h2,hf⟩
  ·obtain⟨o3,hf⟩:=Zaw hf;obtain⟨o4,hf⟩:=Zaw hf
   let R3:List RA:=[rz,rA [(9,aB (decide ((w100000.getD v3.toNat Zai.d)=(w100000.getD ((Zby v3 (1:Int)).toNat) Zai.d))))],rz]
   have O4:Obl _:=(.c h2 (.c o3 (.c (show v3.toNat<w100000.length from(ltOf o3)) (.c o4 (.c (show (Zby v3 (1:Int)).toNat<w100000.length from(ltOf o4)) (.c (Zoh (w100000.getD v3.toNat Zai.d) (w100000.getD ((Zby v3 (1:Int)).toNat) Zai.d) (.tmp 19) (.tmp 24)) .n))))));rcases Zal hf with⟨h5,hf⟩|⟨h5,hf⟩
   ·obtain⟨o6,hf⟩:=Zaw hf;exact ZaG Zam Zcf.ends 17 (R3++[rz]) [true,true] ⟨[],[],[],[],[],[0,3,4,5],[100000],[]⟩ (O4.app (.c h5 (.c o6 .n))) (by kernel_rfl) (Zir S0 w0 (ZaS fu) ih 1000000 v3 v3.toNat (w100000.length-v3.toNat) w100000.length (1:Int) w100000 r hf)
   ·exact ZaG Zam Zcf.ends 15 R3 [true,false] ⟨[],[],[],[],[],[0,3],[100000],[]⟩ (O4.app (.c h5 .n)) (by kernel_rfl) (ih (ZaC v3 (1:Int)) w100000 r hf)
  ·obtain rfl:=oi hf;exact ZbO Zam 8 [rz,rz] [false] ⟨[],[],[],[],[],[2],[100000],[(100000,99999)]⟩ (.c h2 .n) (by kernel_rfl)
def Zbr(a0:List Zai):Option (List Zai):=bif(decide (((a0.length:Nat):Int)<(2:Int)))then some a0 else ZaS ((((a0.length:Nat):Int)-(1:Int)).toNat+2) (1:Int) a0
theorem ZiP(a0 r:List Zai)(hf:Zbr a0=some r):Zdo Tryz.prog 412 [(100000,.rows 32 4 a0.length (Zar Zai.c Zai.d a0))] [.one (.osl 100000 a0.length)] [(99999,.rows 32 4 r.length (Zar Zai.c Zai.d r))] (.one (.osl 99999 r.length)):=by
 refine Zdo.of Tryz.func412 rfl rfl rfl rfl fun S0 w0=>?_;unfold Zbr at hf;rcases Zal hf with⟨h1,hf⟩|⟨h1,hf⟩
 ·obtain rfl:=oi hf;exact ZbO Zam 8 [rz,rz,rz] [true] ⟨[],[],[],[],[],[2],[100000],[(100000,99999)]⟩ (.c h1 .n) (by kernel_rfl)
 ·exact ZaG Zam Zcf.ends 11 [rz,rz,rz] [false] ⟨[],[],[],[],[],[0,3],[100000],[]⟩ (.c h1 .n) (by kernel_rfl) (Zis S0 w0 ((((a0.length:Nat):Int)-(1:Int)).toNat+2) (1:Int) a0 r hf)
def ZgB(a0:List Zai):Option (List Zai):=need (a0.length<4611686018427387904)<|some (a0.mergeSort fun x y=>!(Go.Proofs.ltOf cmpN) y x)
theorem Zrf(a0 r:List Zai)(hf:ZgB a0=some r):Zdo Tryz.prog 411 [(100000,.rows 32 4 a0.length (Zar Zai.c Zai.d a0))] [.one (.osl 100000 a0.length),.one (.lit (.func (.func 349) #[] #[]))] [(100000,.rows 32 4 a0.length (Zar Zai.c Zai.d r))] (.tup []):=by
 obtain⟨o1,hf⟩:=Zaw hf;cases hf
 haveI:Inhabited Zai:=⟨Zai.d⟩
 exact ZvY (ρ:=Ztd) (ev:=fun a=>(Zai.c a).map ZHJ) ZGP ⟨_,Tryz.func411,rfl,rfl⟩ ⟨_,Tryz.func349,rfl,rfl⟩ (by decide) (fun _=>rfl) (fun _=>rfl)
  (fun x v hv=>List.all_eq_true.1 (show ((Zai.c x).map ZHJ).all (fun v=>v.oneCell')=true from rfl) v hv) Tryz.isAgg32 Tryz.sizeOf32 cmpN ZBi ZCr (fun x y=>Zsc x y _ (ZFN x y)) a0 o1
theorem Zrg(a0 r:List Zai)(hf:ZgB a0=some r):r.length=a0.length:=by
 obtain⟨o1,hf⟩:=Zaw hf;cases hf;exact List.length_mergeSort a0
def ZdH(a1:List Zaa)(v10:List Zab)(v11 v12:Int)(kg_spread_Taken_c0:(List Zab)→Int→Int→(List Zai)→Option (List Zai)):Nat→(List Zaa)→Int→Int→(List Zai)→Option (List Zai)|0,_,_,_,_=>none|fu+1,v27,v28,v29,w5=>bif(decide (v29<v28))then need (0≤v29∧v29<((v27.length:Nat):Int))<|bif((v27.getD v29.toNat Zaa.d).fState==(2:Int))then(Ziu (((v27.getD v29.toNat Zaa.d).fEnd).fAddr)).bind fun x2=>need ((w5++([x2]:List Zai)).length * 32≤140737488355328∧(w5++([x2]:List Zai)).length≤maxLen)<|ZdH a1 v10 v11 v12 kg_spread_Taken_c0 fu v27 v28 (ZaC v29 (1:Int)) (w5++([x2]:List Zai))else ZdH a1 v10 v11 v12 kg_spread_Taken_c0 fu v27 v28 (ZaC v29 (1:Int)) w5 else(ZgB w5).bind fun x3=>(Zbr x3).bind fun x4=>some x4
theorem ZpQ(S0:Nat→Prop)(w0:ZaV)(a1:List Zaa)(v10:List Zab)(v11 v12:Int)(kg_spread_Taken_c0:(List Zab)→Int→Int→(List Zai)→Option (List Zai))(hg_spread_Taken_c0:∀(v10_:List Zab)(v11_ v12_:Int)(w5_ r:List Zai),kg_spread_Taken_c0 v10_ v11_ v12_ w5_=some r→Good Tryz.prog 48 S0 w0 (bodyPost Tryz.prog Tryz.f395 (Zcf S0 w0 [(99999,.rows 32 4 r.length (Zar Zai.c Zai.d r))] (.one (.osl 99999 r.length)))) (at_ [1,1,0,1,0] (Zbo Tryz.f395)) ⟨[(1,.one (cL 7 Zaa.c Zaa.d a1)),(5,.one (.osl 5 w5_.length)),(10,.one (cL 10 Zab.c Zab.d v10_)),(11,.one (.lit (.int .i64 v11_))),(12,.one (.lit (.int .i64 v12_)))],[(5,.rows 32 4 w5_.length (Zar Zai.c Zai.d w5_))]⟩):∀(fu:Nat)(v27:List Zaa)(v28 v29:Int)(w5 r:List Zai),ZdH a1 v10 v11 v12 kg_spread_Taken_c0 fu v27 v28 v29 w5=some r→Good Tryz.prog 48 S0 w0 (bodyPost Tryz.prog Tryz.f395 (Zcf S0 w0 [(99999,.rows 32 4 r.length (Zar Zai.c Zai.d r))] (.one (.osl 99999 r.length)))) (at_ [1,1,1,0,1,0] (Zbo Tryz.f395)) ⟨[(5,.one (.osl 5 w5.length)),(27,.one (cL 7 Zaa.c Zaa.d v27)),(28,.one (.lit (.int .i64 v28))),(29,.one (.lit (.int .i64 v29)))],[(5,.rows 32 4 w5.length (Zar Zai.c Zai.d w5))]⟩:=by
 intro fu;induction fu with
 |zero=>
  intro v27 v28 v29 w5 r hf;simp[ZdH]at hf
 |succ fu ih=>
  intro v27 v28 v29 w5 r hf;unfold ZdH at hf;rcases Zal hf with⟨h6,hf⟩|⟨h6,hf⟩
  ·obtain⟨o7,hf⟩:=Zaw hf;rcases Zal hf with⟨h8,hf⟩|⟨h8,hf⟩
   ·obtain⟨x2,q9,hf⟩:=Zae hf;obtain⟨o10,hf⟩:=Zaw hf;exact ZaG Zam Zcf.ends 17 [rz,rz,rz,⟨[(4,aG (Zai.c x2)),(6,.c ((w5++([x2]:List Zai)).length) (Zar Zai.c Zai.d (w5++([x2]:List Zai))))],[],[],[],[],[(5,(([x2]:List Zai).length,Zar Zai.c Zai.d ([x2]:List Zai)))],[]⟩,rz] [true,true] ⟨[],[],[],[],[],[5,27,28,29],[42],[(42,5)]⟩ (.c h6 (.c o7 (.c h8 (.c (ZnS _ _ q9) (.c (show ([x2]:List Zai).length=1∧∀i j,i<1→j<4→Zar Zai.c Zai.d ([x2]:List Zai) i j=(([x2]:List Zai).flatMap Zai.c).getD (i * 4+j) .junk from⟨rfl,fun i j hi hj=>ZaY (sz:=4) (e:=Zai.c) (d:=Zai.d) (fun _=>rfl) ([x2]:List Zai) i j hi hj⟩) (.c (Zep (sz:=4) (e:=Zai.c) (d:=Zai.d) w5 ([x2]:List Zai)) (.c o10.1 (.c o10.2 .n)))))))) (by kernel_rfl) (ih v27 v28 (ZaC v29 (1:Int)) (w5++([x2]:List Zai)) r hf)
   ·exact ZaG Zam Zcf.ends 17 [rz,rz,rz,rz] [true,false] ⟨[],[],[],[],[],[5,27,28,29],[5],[]⟩ (.c h6 (.c o7 (.c h8 .n))) (by kernel_rfl) (ih v27 v28 (ZaC v29 (1:Int)) w5 r hf)
  ·obtain⟨x3,q11,hf⟩:=Zae hf;obtain⟨x4,q12,hf⟩:=Zae hf;obtain rfl:=oi hf;exact ZbO Zam 10 [rz,rH [] [(1,⟨[(100000,5)],[],[(100000,.rows 32 4 w5.length (Zar Zai.c Zai.d x3))],.tup []⟩)],rH [] [(1,⟨[(100000,5)],[(99999,47)],[(99999,.rows 32 4 x4.length (Zar Zai.c Zai.d x4))],.one (.osl 99999 x4.length)⟩)]] [false] ⟨[],[],[],[],[],[4],[47],[(47,99999)]⟩ (.c h6 (.c (Zrf _ _ q11) (.c (show Zdo Tryz.prog 412 [(100000,.rows 32 4 w5.length (Zar Zai.c Zai.d x3))] [.one (.osl 100000 w5.length)] [(99999,.rows 32 4 x4.length (Zar Zai.c Zai.d x4))] (.one (.osl 99999 x4.length))from(by rw[←(Zrg w5 x3 q11)];exact(ZiP _ _ q12))) .n))) (by kernel_rfl)
def Zcz(a1:List Zaa):Nat→(List Zab)→Int→Int→(List Zai)→Option (List Zai)|0,_,_,_,_=>none|fu+1,v10,v11,v12,w5=>bif(decide (v12<v11))then need (0≤v12∧v12<((v10.length:Nat):Int))<|bif(!(v10.getD v12.toNat Zab.d).fIn)then(Ziu (((v10.getD v12.toNat Zab.d).fEnd).fAddr)).bind fun x1=>need ((w5++([x1]:List Zai)).length * 32≤140737488355328∧(w5++([x1]:List Zai)).length≤maxLen)<|Zcz a1 fu v10 v11 (ZaC v12 (1:Int)) (w5++([x1]:List Zai))else Zcz a1 fu v10 v11 (ZaC v12 (1:Int)) w5 else ZdH a1 v10 v11 v12 (Zcz a1 fu) ((((a1.length:Nat):Int)-(0:Int)).toNat+2) a1 ((a1.length:Nat):Int) (0:Int) w5
theorem ZpR(S0:Nat→Prop)(w0:ZaV)(a1:List Zaa):∀(fu:Nat)(v10:List Zab)(v11 v12:Int)(w5 r:List Zai),Zcz a1 fu v10 v11 v12 w5=some r→Good Tryz.prog 48 S0 w0 (bodyPost Tryz.prog Tryz.f395 (Zcf S0 w0 [(99999,.rows 32 4 r.length (Zar Zai.c Zai.d r))] (.one (.osl 99999 r.length)))) (at_ [1,1,0,1,0] (Zbo Tryz.f395)) ⟨[(1,.one (cL 7 Zaa.c Zaa.d a1)),(5,.one (.osl 5 w5.length)),(10,.one (cL 10 Zab.c Zab.d v10)),(11,.one (.lit (.int .i64 v11))),(12,.one (.lit (.int .i64 v12)))],[(5,.rows 32 4 w5.length (Zar Zai.c Zai.d w5))]⟩:=by
 intro fu;induction fu with
 |zero=>
  intro v10 v11 v12 w5 r hf;simp[Zcz]at hf
 |succ fu ih=>
  intro v10 v11 v12 w5 r hf;unfold Zcz at hf;rcases Zal hf with⟨h1,hf⟩|⟨h1,hf⟩
  ·obtain⟨o2,hf⟩:=Zaw hf;rcases Zal hf with⟨h3,hf⟩|⟨h3,hf⟩
   ·obtain⟨x1,q4,hf⟩:=Zae hf;obtain⟨o5,hf⟩:=Zaw hf;exact ZaG Zam Zcf.ends 17 [rz,rz,rz,⟨[(4,aG (Zai.c x1)),(6,.c ((w5++([x1]:List Zai)).length) (Zar Zai.c Zai.d (w5++([x1]:List Zai))))],[],[],[],[],[(5,(([x1]:List Zai).length,Zar Zai.c Zai.d ([x1]:List Zai)))],[]⟩,rz] [true,true] ⟨[],[],[],[],[],[1,5,10,11,12],[25],[(25,5)]⟩ (.c h1 (.c o2 (.c h3 (.c (ZnS _ _ q4) (.c (show ([x1]:List Zai).length=1∧∀i j,i<1→j<4→Zar Zai.c Zai.d ([x1]:List Zai) i j=(([x1]:List Zai).flatMap Zai.c).getD (i * 4+j) .junk from⟨rfl,fun i j hi hj=>ZaY (sz:=4) (e:=Zai.c) (d:=Zai.d) (fun _=>rfl) ([x1]:List Zai) i j hi hj⟩) (.c (Zep (sz:=4) (e:=Zai.c) (d:=Zai.d) w5 ([x1]:List Zai)) (.c o5.1 (.c o5.2 .n)))))))) (by kernel_rfl) (ih v10 v11 (ZaC v12 (1:Int)) (w5++([x1]:List Zai)) r hf)
   ·exact ZaG Zam Zcf.ends 17 [rz,rz,rz,rz] [true,false] ⟨[],[],[],[],[],[1,5,10,11,12],[5],[]⟩ (.c h1 (.c o2 (.c h3 .n))) (by kernel_rfl) (ih v10 v11 (ZaC v12 (1:Int)) w5 r hf)
  ·exact ZaG Zam Zcf.ends 10 [rz,rz] [false] ⟨[],[],[],[],[],[5,27,28,29],[5],[]⟩ (.c h1 .n) (by kernel_rfl) (ZpQ S0 w0 a1 v10 v11 v12 (Zcz a1 fu) ih ((((a1.length:Nat):Int)-(0:Int)).toNat+2) a1 ((a1.length:Nat):Int) (0:Int) w5 r hf)
def ZhG(a0:List Zab)(a1:List Zaa):Option (List Zai):=Zcz a1 ((((a0.length:Nat):Int)-(0:Int)).toNat+2) a0 ((a0.length:Nat):Int) (0:Int) ([])
theorem Zre(a0:List Zab)(a1:List Zaa)(r:List Zai)(hf:ZhG a0 a1=some r):Zdo Tryz.prog 395 [] [.one (cL 10 Zab.c Zab.d a0),.one (cL 7 Zaa.c Zaa.d a1)] [(99999,.rows 32 4 r.length (Zar Zai.c Zai.d r))] (.one (.osl 99999 r.length)):=by
 refine Zdo.of Tryz.func395 rfl rfl rfl rfl fun S0 w0=>?_;unfold ZhG at hf;exact ZaG Zam Zcf.ends 8 [rz,rz,rz] [] ⟨[],[],[],[],[(5,5,32,4,Zar Zai.c Zai.d [])],[1,5,10,11,12],[5],[]⟩ .n (by kernel_rfl) (ZpR S0 w0 a1 ((((a0.length:Nat):Int)-(0:Int)).toNat+2) a0 ((a0.length:Nat):Int) (0:Int) ([]) r hf)
theorem ZrV(a0:List Zab)(a1:List Zaa)(r:List Zai)(hf:ZhG a0 a1=some r):Zay Tryz.prog 395 [.one (cL 10 Zab.c Zab.d a0),.one (cL 7 Zaa.c Zaa.d a1)] (.one (cL 4 Zai.c Zai.d r)):=(Zre a0 a1 r hf).pure
def Zbl(a0:List Zai):Nat→Int→Int→Zai→Option Int|0,_,_,_=>none|fu+1,v7,v8,b3=>bif(decide (v8<v7))then need (0≤v8∧v8<((a0.length:Nat):Int))<|bif(decide (b3=(a0.getD v8.toNat Zai.d)))then some v8 else Zbl a0 fu v7 (ZaC v8 (1:Int)) b3 else some (-1:Int)
theorem ZiN(S0:Nat→Prop)(w0:ZaV)(a0:List Zai):∀(fu:Nat)(v7 v8:Int)(b3:Zai)(r:Int),Zbl a0 fu v7 v8 b3=some r→Good Tryz.prog 19 S0 w0 (bodyPost Tryz.prog Tryz.f410 (Post S0 w0 (.one (.lit (.int .i64 r))))) (at_ [1,0,1,0] (Zbo Tryz.f410)) ⟨[(0,.one (cL 4 Zai.c Zai.d a0)),(3,.one (.ptr 3 0)),(7,.one (.lit (.int .i64 v7))),(8,.one (.lit (.int .i64 v8)))],[(3,.box [.lit (.bool b3.fAddr.fV6),.lit (.int .u64 b3.fAddr.fHi),.lit (.int .u64 b3.fAddr.fLo),.lit (.int .i64 b3.fBits)])]⟩:=by
 intro fu;induction fu with
 |zero=>
  intro v7 v8 b3 r hf;simp[Zbl]at hf
 |succ fu ih=>
  intro v7 v8 b3 r hf;unfold Zbl at hf;rcases Zal hf with⟨h1,hf⟩|⟨h1,hf⟩
  ·obtain⟨o2,hf⟩:=Zaw hf
   let R1:List RA:=[rz,rz,rA [(5,aB (decide (b3=(a0.getD v8.toNat Zai.d))))],rz]
   have O2:Obl _:=(.c h1 (.c o2 (.c (Zoh b3 (a0.getD v8.toNat Zai.d) (.tmp 11) (.tmp 15)) .n)));rcases Zal hf with⟨h3,hf⟩|⟨h3,hf⟩
   ·obtain rfl:=oi hf;exact Zak Zam 15 R1 [true,true] [] [] [] (O2.app (.c h3 .n)) (by kernel_rfl) rfl
   ·exact ZaG Zam Post.ends 17 R1 [true,false] ⟨[],[],[],[],[],[0,3,7,8],[3],[]⟩ (O2.app (.c h3 .n)) (by kernel_rfl) (ih v7 (ZaC v8 (1:Int)) b3 r hf)
  ·obtain rfl:=oi hf;exact Zak Zam 8 [rz,rz] [false] [] [] [] (.c h1 .n) (by kernel_rfl) rfl
def Zdv(a0:List Zai)(a1:Zai):Option Int:=Zbl a0 ((((a0.length:Nat):Int)-(0:Int)).toNat+2) ((a0.length:Nat):Int) (0:Int) a1
theorem ZjN(a0:List Zai)(a1:Zai)(r:Int)(hf:Zdv a0 a1=some r):Zay Tryz.prog 410 [.one (cL 4 Zai.c Zai.d a0),.agg (Zai.c a1)] (.one (.lit (.int .i64 r))):=by
 refine Zay.of Tryz.func410 rfl rfl rfl rfl fun S0 w0=>?_;unfold Zdv at hf;exact ZaG Zam Post.ends 6 [rz,rz] [] ⟨[],[],[],[],[],[0,3,7,8],[3],[]⟩ .n (by kernel_rfl) (ZiN S0 w0 a0 ((((a0.length:Nat):Int)-(0:Int)).toNat+2) ((a0.length:Nat):Int) (0:Int) a1 r hf)
def Zci(a0:List Zai)(a1:Zai):Option Bool:=(Zdv a0 a1).bind fun x1=>some (decide (x1≥(0:Int)))
theorem ZiO(a0:List Zai)(a1:Zai)(r:Bool)(hf:Zci a0 a1=some r):Zay Tryz.prog 394 [.one (cL 4 Zai.c Zai.d a0),.agg (Zai.c a1)] (.one (.lit (.bool r))):=by
 refine Zay.of Tryz.func394 rfl rfl rfl rfl fun S0 w0=>?_;unfold Zci at hf;obtain⟨x1,q1,hf⟩:=Zae hf;obtain rfl:=oi hf;exact Zak Zam 4 [rz,rA [(2,aI x1)]] [] [] [] [] (.c (ZjN _ _ _ q1) .n) (by kernel_rfl) rfl
def ZjM(a0:List Zab)(a1:List Zaa)(a2:Zag):Option Bool:=(Zen a2).bind fun x1=>bif x1 then(ZhG a0 a1).bind fun x2=>(Ziu a2).bind fun x3=>(Zci x2 x3).bind fun x4=>some (!x4)else some false
theorem ZsB(a0:List Zab)(a1:List Zaa)(a2:Zag)(r:Bool)(hf:ZjM a0 a1 a2=some r):Zay Tryz.prog 370 [.one (cL 10 Zab.c Zab.d a0),.one (cL 7 Zaa.c Zaa.d a1),.agg (Zag.c a2)] (.one (.lit (.bool r))):=by
 refine Zay.of Tryz.func370 rfl rfl rfl rfl fun S0 w0=>?_;unfold ZjM at hf;obtain⟨x1,q1,hf⟩:=Zae hf;rcases Zal hf with⟨h2,hf⟩|⟨h2,hf⟩
 ·obtain⟨x2,q3,hf⟩:=Zae hf;obtain⟨x3,q4,hf⟩:=Zae hf;obtain⟨x4,q5,hf⟩:=Zae hf;obtain rfl:=oi hf;exact Zak Zam 4 [rz,⟨[(1,aB x1),(5,.r (.one (cL 4 Zai.c Zai.d x2)) []),(7,aG (Zai.c x3)),(8,aB x4)],[(2,true)],[],[],[],[],[]⟩] [] [] [] [] (.c (ZbY _ _ q1) (.c h2 (.c (ZrV _ _ _ q3) (.c (ZnS _ _ q4) (.c (ZiO _ _ _ q5) .n))))) (by kernel_rfl) rfl
 ·obtain rfl:=oi hf;exact Zak Zam 4 [rz,⟨[(1,aB x1)],[(2,false)],[],[],[],[],[]⟩] [] [] [] [] (.c (ZbY _ _ q1) (.c h2 .n)) (by kernel_rfl) rfl
def Zem(a0:ZaD)(a1:Zaj)(a2:Int):Option Bool:=(ZeV a0 a1).bind fun x1=>bif(!x1)then(Zhh a0.fBans a1.fAddr a2).bind fun x2=>bif(x2==(0:Int))then(ZjM a0.fPeers a0.fBook a1.fAddr).bind fun x3=>some x3 else some false else some false
theorem Zqp(a0:ZaD)(a1:Zaj)(a2:Int)(r:Bool)(hf:Zem a0 a1 a2=some r):Zay Tryz.prog 330 [.agg (ZaD.c a0),.agg (Zaj.c a1),.one (.lit (.int .i64 a2))] (.one (.lit (.bool r))):=by
 refine Zay.of Tryz.func330 rfl rfl rfl rfl fun S0 w0=>?_;unfold Zem at hf;obtain⟨x1,q1,hf⟩:=Zae hf;rcases Zal hf with⟨h2,hf⟩|⟨h2,hf⟩
 ·obtain⟨x2,q3,hf⟩:=Zae hf;have O1:Obl _:=(.c (Zjw _ _ _ q1) (.c h2 (.c (Zpm _ _ _ _ q3) .n)));rcases Zal hf with⟨h4,hf⟩|⟨h4,hf⟩
  ·obtain⟨x3,q5,hf⟩:=Zae hf;obtain rfl:=oi hf;exact Zak Zam 4 [rz,⟨[(2,aB x1),(10,aI x2),(20,aB x3)],[(4,true),(13,true)],[],[],[],[],[]⟩] [] [] [] [] (O1.app (.c h4 (.c (ZsB _ _ _ _ q5) .n))) (by kernel_rfl) rfl
  ·obtain rfl:=oi hf;exact Zak Zam 4 [rz,⟨[(2,aB x1),(10,aI x2)],[(4,true),(13,false)],[],[],[],[],[]⟩] [] [] [] [] (O1.app (.c h4 .n)) (by kernel_rfl) rfl
 ·obtain rfl:=oi hf;exact Zak Zam 4 [rz,⟨[(2,aB x1)],[(4,false)],[],[],[],[],[]⟩] [] [] [] [] (.c (Zjw _ _ _ q1) (.c h2 .n)) (by kernel_rfl) rfl
def Zln(a0:Zaa)(c0:Int):Option Bool:=(ZlV a0 c0).bind fun x1=>some x1
theorem Zon(a0:Zaa)(c0:Int)(r:Bool)(hf:Zln a0 c0=some r):Zay Tryz.prog 327 [.agg (Zaa.c a0),.one (.rp false 1 (fun j=>([.lit (.int .i64 c0)]:List C).getD (0+j) .junk))] (.one (.lit (.bool r))):=by
 refine Zay.of Tryz.func327 rfl rfl rfl rfl fun S0 w0=>?_;unfold Zln at hf;obtain⟨x1,q1,hf⟩:=Zae hf;obtain rfl:=oi hf;exact Zak Zam 4 [rz,rA [(2,aB x1)]] [] [] [] [] (.c (ZuO _ _ _ q1) .n) (by kernel_rfl) rfl
def ZbM(a1_0:Int):Nat→(List Zaa)→Int→Int→(List Zaf)→Option (List Zaf)|0,_,_,_,_=>none|fu+1,v9,v10,v11,w5=>bif(decide (v11<v10))then need (0≤v11∧v11<((v9.length:Nat):Int))<|(Zhn (v9.getD v11.toNat Zaa.d)).bind fun x1=>bif x1 then(Zln (v9.getD v11.toNat Zaa.d) a1_0).bind fun x2=>bif x2 then need ((w5++([(Zaf.mk ((v9.getD v11.toNat Zaa.d).fNext) ((v9.getD v11.toNat Zaa.d).fEnd))]:List Zaf)).length * 40≤140737488355328∧(w5++([(Zaf.mk ((v9.getD v11.toNat Zaa.d).fNext) ((v9.getD v11.toNat Zaa.d).fEnd))]:List Zaf)).length≤maxLen)<|ZbM a1_0 fu v9 v10 (ZaC v11 (1:Int)) (w5++([(Zaf.mk ((v9.getD v11.toNat Zaa.d).fNext) ((v9.getD v11.toNat Zaa.d).fEnd))]:List Zaf))else ZbM a1_0 fu v9 v10 (ZaC v11 (1:Int)) w5 else ZbM a1_0 fu v9 v10 (ZaC v11 (1:Int)) w5 else(Zid w5).bind fun x3=>some x3
theorem ZlZ(S0:Nat→Prop)(w0:ZaV)(a1_0:Int):∀(fu:Nat)(v9:List Zaa)(v10 v11:Int)(w5 r:List Zaf),ZbM a1_0 fu v9 v10 v11 w5=some r→Good Tryz.prog 33 S0 w0 (bodyPost Tryz.prog Tryz.f326 (Zcf S0 w0 [(99999,.rows 341 5 r.length (Zar Zaf.c Zaf.d r))] (.one (.osl 99999 r.length)))) (at_ [1,1,0,1,0] (Zbo Tryz.f326)) ⟨[(1,.one (.clo (.func 327) 0 1 (fun i=>([]:List C).getD i .junk) (fun i=>([.rp false 1 (fun j=>([.lit (.int .i64 a1_0)]:List C).getD (0+j) .junk)]:List C).getD i .junk))),(5,.one (.osl 5 w5.length)),(9,.one (cL 7 Zaa.c Zaa.d v9)),(10,.one (.lit (.int .i64 v10))),(11,.one (.lit (.int .i64 v11)))],[(5,.rows 341 5 w5.length (Zar Zaf.c Zaf.d w5))]⟩:=by
 intro fu;induction fu with
 |zero=>
  intro v9 v10 v11 w5 r hf;simp[ZbM]at hf
 |succ fu ih=>
  intro v9 v10 v11 w5 r hf;unfold ZbM at hf;rcases Zal hf with⟨h1,hf⟩|⟨h1,hf⟩
  ·obtain⟨o2,hf⟩:=Zaw hf;obtain⟨x1,q3,hf⟩:=Zae hf;have O1:Obl _:=(.c h1 (.c o2 (.c (Zjc _ _ q3) .n)));rcases Zal hf with⟨h4,hf⟩|⟨h4,hf⟩
   ·obtain⟨x2,q5,hf⟩:=Zae hf
    let R2:List RA:=[rz,rz,⟨[(1,aB x1),(5,aB x2)],[(2,true)],[],[],[],[],[]⟩]
    rcases Zal hf with⟨h6,hf⟩|⟨h6,hf⟩
    ·obtain⟨o7,hf⟩:=Zaw hf;exact ZaG Zam Zcf.ends 17 (R2++[⟨[(7,.c ((w5++([(Zaf.mk ((v9.getD v11.toNat Zaa.d).fNext) ((v9.getD v11.toNat Zaa.d).fEnd))]:List Zaf)).length) (Zar Zaf.c Zaf.d (w5++([(Zaf.mk ((v9.getD v11.toNat Zaa.d).fNext) ((v9.getD v11.toNat Zaa.d).fEnd))]:List Zaf))))],[],[],[],[],[(6,(([(Zaf.mk ((v9.getD v11.toNat Zaa.d).fNext) ((v9.getD v11.toNat Zaa.d).fEnd))]:List Zaf).length,Zar Zaf.c Zaf.d ([(Zaf.mk ((v9.getD v11.toNat Zaa.d).fNext) ((v9.getD v11.toNat Zaa.d).fEnd))]:List Zaf)))],[]⟩,rz]) [true,true] ⟨[],[],[],[],[],[1,5,9,10,11],[29],[(29,5)]⟩ (O1.app (.c h4 (.c (Zon _ _ _ q5) (.c h6 (.c (show ([(Zaf.mk ((v9.getD v11.toNat Zaa.d).fNext) ((v9.getD v11.toNat Zaa.d).fEnd))]:List Zaf).length=1∧∀i j,i<1→j<5→Zar Zaf.c Zaf.d ([(Zaf.mk ((v9.getD v11.toNat Zaa.d).fNext) ((v9.getD v11.toNat Zaa.d).fEnd))]:List Zaf) i j=(([(Zaf.mk ((v9.getD v11.toNat Zaa.d).fNext) ((v9.getD v11.toNat Zaa.d).fEnd))]:List Zaf).flatMap Zaf.c).getD (i * 5+j) .junk from⟨rfl,fun i j hi hj=>ZaY (sz:=5) (e:=Zaf.c) (d:=Zaf.d) (fun _=>rfl) ([(Zaf.mk ((v9.getD v11.toNat Zaa.d).fNext) ((v9.getD v11.toNat Zaa.d).fEnd))]:List Zaf) i j hi hj⟩) (.c (Zep (sz:=5) (e:=Zaf.c) (d:=Zaf.d) w5 ([(Zaf.mk ((v9.getD v11.toNat Zaa.d).fNext) ((v9.getD v11.toNat Zaa.d).fEnd))]:List Zaf)) (.c o7.1 (.c o7.2 .n)))))))) (by kernel_rfl) (ih v9 v10 (ZaC v11 (1:Int)) (w5++([(Zaf.mk ((v9.getD v11.toNat Zaa.d).fNext) ((v9.getD v11.toNat Zaa.d).fEnd))]:List Zaf)) r hf)
    ·exact ZaG Zam Zcf.ends 17 (R2++[rz]) [true,false] ⟨[],[],[],[],[],[1,5,9,10,11],[5],[]⟩ (O1.app (.c h4 (.c (Zon _ _ _ q5) (.c h6 .n)))) (by kernel_rfl) (ih v9 v10 (ZaC v11 (1:Int)) w5 r hf)
   ·exact ZaG Zam Zcf.ends 17 [rz,rz,⟨[(1,aB x1)],[(2,false)],[],[],[],[],[]⟩,rz] [true,false] ⟨[],[],[],[],[],[1,5,9,10,11],[5],[]⟩ (O1.app (.c h4 (.c (show false=false from rfl) .n))) (by kernel_rfl) (ih v9 v10 (ZaC v11 (1:Int)) w5 r hf)
  ·obtain⟨x3,q8,hf⟩:=Zae hf;obtain rfl:=oi hf;exact ZbO Zam 8 [rz,rH [] [(1,⟨[],[(99999,32)],[(99999,.rows 341 5 x3.length (Zar Zaf.c Zaf.d x3))],.one (.osl 99999 x3.length)⟩)]] [false] ⟨[],[],[],[],[],[4],[32],[(32,99999)]⟩ (.c h1 (.c (ZoY _ _ q8) (.c (show ∀i j,i<x3.length→j<5→∃y,Zar Zaf.c Zaf.d x3 i j=.lit y from(ZAu (sz:=5) (e:=Zaf.c) (d:=Zaf.d) (fun _=>rfl) (fun _=>rfl) _ _)) .n))) (by kernel_rfl)
def ZdK(a0:ZaD)(a1_0:Int):Option (List Zaf):=ZbM a1_0 ((((a0.fBook.length:Nat):Int)-(0:Int)).toNat+2) a0.fBook ((a0.fBook.length:Nat):Int) (0:Int) ([])
theorem ZmV(a0:ZaD)(a1_0:Int)(r:List Zaf)(hf:ZdK a0 a1_0=some r):Zdo Tryz.prog 326 [] [.agg (ZaD.c a0),.one (.clo (.func 327) 0 1 (fun i=>([]:List C).getD i .junk) (fun i=>([.rp false 1 (fun j=>([.lit (.int .i64 a1_0)]:List C).getD (0+j) .junk)]:List C).getD i .junk))] [(99999,.rows 341 5 r.length (Zar Zaf.c Zaf.d r))] (.one (.osl 99999 r.length)):=by
 refine Zdo.of Tryz.func326 rfl rfl rfl rfl fun S0 w0=>?_;unfold ZdK at hf;exact ZaG Zam Zcf.ends 8 [rz,rz,rz] [] ⟨[],[],[],[],[(5,5,341,5,Zar Zaf.c Zaf.d [])],[1,5,9,10,11],[5],[]⟩ .n (by kernel_rfl) (ZlZ S0 w0 a1_0 ((((a0.fBook.length:Nat):Int)-(0:Int)).toNat+2) a0.fBook ((a0.fBook.length:Nat):Int) (0:Int) ([]) r hf)
theorem Znw(a0:ZaD)(a1_0:Int)(r:List Zaf)(hf:ZdK a0 a1_0=some r):Zay Tryz.prog 326 [.agg (ZaD.c a0),.one (.clo (.func 327) 0 1 (fun i=>([]:List C).getD i .junk) (fun i=>([.rp false 1 (fun j=>([.lit (.int .i64 a1_0)]:List C).getD (0+j) .junk)]:List C).getD i .junk))] (.one (cL 5 Zaf.c Zaf.d r)):=(ZmV a0 a1_0 r hf).pure
def ZgF(a1:Int):Nat→(List Zaf)→ZaD→Zaj→Option (Zaj×Bool)|0,_,_,_=>none|fu+1,v6,b2,b4=>(Zkt v6).bind fun x2=>bif(!x2.2.2)then some (x2.1.fEnd,x2.2.2)else(Zem b2 x2.1.fEnd a1).bind fun x3=>bif x3 then some (x2.1.fEnd,x2.2.2)else ZgF a1 fu x2.2.1 b2 b4
theorem Zsb(S0:Nat→Prop)(w0:ZaV)(a1:Int):∀(fu:Nat)(v6:List Zaf)(b2:ZaD)(b4:Zaj)(r:(Zaj×Bool)),ZgF a1 fu v6 b2 b4=some r→Good Tryz.prog 32 S0 w0 (bodyPost Tryz.prog Tryz.f258 (Post S0 w0 (.tup [(true,Zaj.c r.1),(false,cB r.2)]))) (at_ [1,1,0] (Zbo Tryz.f258)) ⟨[(2,.one (.ptr 2 0)),(3,.one (.rp false 1 (fun j=>([.lit (.int .i64 a1)]:List C).getD (0+j) .junk))),(4,.one (.ptr 4 0)),(6,.one (cL 5 Zaf.c Zaf.d v6))],[(2,.box [cL 7 Zaa.c Zaa.d b2.fBook,cL 10 Zab.c Zab.d b2.fPeers,cL 5 Zah.c Zah.d b2.fBans]),(4,.box [.lit (.bool b4.fAddr.fV6),.lit (.int .u64 b4.fAddr.fHi),.lit (.int .u64 b4.fAddr.fLo),.lit (.int .i64 b4.fPort)])]⟩:=by
 intro fu;induction fu with
 |zero=>
  intro v6 b2 b4 r hf;simp[ZgF]at hf
 |succ fu ih=>
  intro v6 b2 b4 r hf;unfold ZgF at hf;obtain⟨x2,q2,hf⟩:=Zae hf
  let R1:List RA:=[rA [(1,.r (.tup [(true,Zaf.c x2.1),(false,(cLs 5 Zaf.c Zaf.d) x2.2.1),(false,cB x2.2.2)]) [])]]
  rcases Zal hf with⟨h3,hf⟩|⟨h3,hf⟩
  ·obtain rfl:=oi hf;exact Zak Zam 10 (R1++[rB [(2,true)],rz]) [true] [] [] [] (.c (ZnR _ _ q2) (.c h3 (.c (show true=true from rfl) .n))) (by kernel_rfl) rfl
  ·obtain⟨x3,q4,hf⟩:=Zae hf
   let R2:List RA:=(R1++[⟨[(7,aB x3)],[(2,false)],[],[],[],[],[]⟩,rz])
   have O3:Obl _:=(.c (ZnR _ _ q2) (.c h3 (.c (Zqp _ _ _ _ q4) .n)));rcases Zal hf with⟨h5,hf⟩|⟨h5,hf⟩
   ·obtain rfl:=oi hf;exact Zak Zam 10 R2 [true] [] [] [] (O3.app (.c h5 .n)) (by kernel_rfl) rfl
   ·exact ZaG Zam Post.ends 12 R2 [false] ⟨[],[],[],[],[],[2,3,4,6],[2,4],[]⟩ (O3.app (.c h5 .n)) (by kernel_rfl) (ih x2.2.1 b2 b4 r hf)
def Zjm(a0:ZaD)(a1:Int):Option (Zaj×Bool):=(ZdK a0 a1).bind fun x1=>ZgF a1 1000000 x1 a0 (Zaj.mk (Zag.mk false (0:Int) (0:Int)) (0:Int))
theorem Zqg(a0:ZaD)(a1:Int)(r:(Zaj×Bool))(hf:Zjm a0 a1=some r):Zay Tryz.prog 258 [.agg (ZaD.c a0),.one (.lit (.int .i64 a1))] (.tup [(true,Zaj.c r.1),(false,cB r.2)]):=by
 refine Zay.of Tryz.func258 rfl rfl rfl rfl fun S0 w0=>?_;unfold Zjm at hf;obtain⟨x1,q1,hf⟩:=Zae hf;exact ZaG Zam Post.ends 5 [rz,⟨[(2,.r (.one (cL 5 Zaf.c Zaf.d x1)) [])],[],[(1,[3])],[],[],[],[]⟩] [] ⟨[],[],[],[],[],[2,3,4,6],[2,4],[]⟩ (.c (Znw _ _ _ q1) .n) (by kernel_rfl) (Zsb S0 w0 a1 1000000 x1 a0 (Zaj.mk (Zag.mk false (0:Int) (0:Int)) (0:Int)) r hf)
def ZjX(a0:Zaa)(c0:Int):Option Bool:=bif(a0.fState==(1:Int))then some (decide (a0.fNext>c0))else some false
theorem Zom(a0:Zaa)(c0:Int)(r:Bool)(hf:ZjX a0 c0=some r):Zay Tryz.prog 331 [.agg (Zaa.c a0),.one (.rp false 1 (fun j=>([.lit (.int .i64 c0)]:List C).getD (0+j) .junk))] (.one (.lit (.bool r))):=by
 refine Zay.of Tryz.func331 rfl rfl rfl rfl fun S0 w0=>?_;unfold ZjX at hf;rcases Zal hf with⟨h1,hf⟩|⟨h1,hf⟩
 ·obtain rfl:=oi hf;exact Zak Zam 4 [rz,rB [(3,true)]] [] [] [] [] (.c h1 .n) (by kernel_rfl) rfl
 ·obtain rfl:=oi hf;exact Zak Zam 4 [rz,rB [(3,false)]] [] [] [] [] (.c h1 .n) (by kernel_rfl) rfl
def ZbL(a1_0:Int):Nat→(List Zaa)→Int→Int→(List Zaf)→Option (List Zaf)|0,_,_,_,_=>none|fu+1,v9,v10,v11,w5=>bif(decide (v11<v10))then need (0≤v11∧v11<((v9.length:Nat):Int))<|(Zhn (v9.getD v11.toNat Zaa.d)).bind fun x1=>bif x1 then(ZjX (v9.getD v11.toNat Zaa.d) a1_0).bind fun x2=>bif x2 then need ((w5++([(Zaf.mk ((v9.getD v11.toNat Zaa.d).fNext) ((v9.getD v11.toNat Zaa.d).fEnd))]:List Zaf)).length * 40≤140737488355328∧(w5++([(Zaf.mk ((v9.getD v11.toNat Zaa.d).fNext) ((v9.getD v11.toNat Zaa.d).fEnd))]:List Zaf)).length≤maxLen)<|ZbL a1_0 fu v9 v10 (ZaC v11 (1:Int)) (w5++([(Zaf.mk ((v9.getD v11.toNat Zaa.d).fNext) ((v9.getD v11.toNat Zaa.d).fEnd))]:List Zaf))else ZbL a1_0 fu v9 v10 (ZaC v11 (1:Int)) w5 else ZbL a1_0 fu v9 v10 (ZaC v11 (1:Int)) w5 else(Zid w5).bind fun x3=>some x3
theorem ZlY(S0:Nat→Prop)(w0:ZaV)(a1_0:Int):∀(fu:Nat)(v9:List Zaa)(v10 v11:Int)(w5 r:List Zaf),ZbL a1_0 fu v9 v10 v11 w5=some r→Good Tryz.prog 33 S0 w0 (bodyPost Tryz.prog Tryz.f326 (Zcf S0 w0 [(99999,.rows 341 5 r.length (Zar Zaf.c Zaf.d r))] (.one (.osl 99999 r.length)))) (at_ [1,1,0,1,0] (Zbo Tryz.f326)) ⟨[(1,.one (.clo (.func 331) 0 1 (fun i=>([]:List C).getD i .junk) (fun i=>([.rp false 1 (fun j=>([.lit (.int .i64 a1_0)]:List C).getD (0+j) .junk)]:List C).getD i .junk))),(5,.one (.osl 5 w5.length)),(9,.one (cL 7 Zaa.c Zaa.d v9)),(10,.one (.lit (.int .i64 v10))),(11,.one (.lit (.int .i64 v11)))],[(5,.rows 341 5 w5.length (Zar Zaf.c Zaf.d w5))]⟩:=by
 intro fu;induction fu with
 |zero=>
  intro v9 v10 v11 w5 r hf;simp[ZbL]at hf
 |succ fu ih=>
  intro v9 v10 v11 w5 r hf;unfold ZbL at hf;rcases Zal hf with⟨h1,hf⟩|⟨h1,hf⟩
  ·obtain⟨o2,hf⟩:=Zaw hf;obtain⟨x1,q3,hf⟩:=Zae hf;have O1:Obl _:=(.c h1 (.c o2 (.c (Zjc _ _ q3) .n)));rcases Zal hf with⟨h4,hf⟩|⟨h4,hf⟩
   ·obtain⟨x2,q5,hf⟩:=Zae hf
    let R2:List RA:=[rz,rz,⟨[(1,aB x1),(5,aB x2)],[(2,true)],[],[],[],[],[]⟩]
    rcases Zal hf with⟨h6,hf⟩|⟨h6,hf⟩
    ·obtain⟨o7,hf⟩:=Zaw hf;exact ZaG Zam Zcf.ends 17 (R2++[⟨[(7,.c ((w5++([(Zaf.mk ((v9.getD v11.toNat Zaa.d).fNext) ((v9.getD v11.toNat Zaa.d).fEnd))]:List Zaf)).length) (Zar Zaf.c Zaf.d (w5++([(Zaf.mk ((v9.getD v11.toNat Zaa.d).fNext) ((v9.getD v11.toNat Zaa.d).fEnd))]:List Zaf))))],[],[],[],[],[(6,(([(Zaf.mk ((v9.getD v11.toNat Zaa.d).fNext) ((v9.getD v11.toNat Zaa.d).fEnd))]:List Zaf).length,Zar Zaf.c Zaf.d ([(Zaf.mk ((v9.getD v11.toNat Zaa.d).fNext) ((v9.getD v11.toNat Zaa.d).fEnd))]:List Zaf)))],[]⟩,rz]) [true,true] ⟨[],[],[],[],[],[1,5,9,10,11],[29],[(29,5)]⟩ (O1.app (.c h4 (.c (Zom _ _ _ q5) (.c h6 (.c (show ([(Zaf.mk ((v9.getD v11.toNat Zaa.d).fNext) ((v9.getD v11.toNat Zaa.d).fEnd))]:List Zaf).length=1∧∀i j,i<1→j<5→Zar Zaf.c Zaf.d ([(Zaf.mk ((v9.getD v11.toNat Zaa.d).fNext) ((v9.getD v11.toNat Zaa.d).fEnd))]:List Zaf) i j=(([(Zaf.mk ((v9.getD v11.toNat Zaa.d).fNext) ((v9.getD v11.toNat Zaa.d).fEnd))]:List Zaf).flatMap Zaf.c).getD (i * 5+j) .junk from⟨rfl,fun i j hi hj=>ZaY (sz:=5) (e:=Zaf.c) (d:=Zaf.d) (fun _=>rfl) ([(Zaf.mk ((v9.getD v11.toNat Zaa.d).fNext) ((v9.getD v11.toNat Zaa.d).fEnd))]:List Zaf) i j hi hj⟩) (.c (Zep (sz:=5) (e:=Zaf.c) (d:=Zaf.d) w5 ([(Zaf.mk ((v9.getD v11.toNat Zaa.d).fNext) ((v9.getD v11.toNat Zaa.d).fEnd))]:List Zaf)) (.c o7.1 (.c o7.2 .n)))))))) (by kernel_rfl) (ih v9 v10 (ZaC v11 (1:Int)) (w5++([(Zaf.mk ((v9.getD v11.toNat Zaa.d).fNext) ((v9.getD v11.toNat Zaa.d).fEnd))]:List Zaf)) r hf)
    ·exact ZaG Zam Zcf.ends 17 (R2++[rz]) [true,false] ⟨[],[],[],[],[],[1,5,9,10,11],[5],[]⟩ (O1.app (.c h4 (.c (Zom _ _ _ q5) (.c h6 .n)))) (by kernel_rfl) (ih v9 v10 (ZaC v11 (1:Int)) w5 r hf)
   ·exact ZaG Zam Zcf.ends 17 [rz,rz,⟨[(1,aB x1)],[(2,false)],[],[],[],[],[]⟩,rz] [true,false] ⟨[],[],[],[],[],[1,5,9,10,11],[5],[]⟩ (O1.app (.c h4 (.c (show false=false from rfl) .n))) (by kernel_rfl) (ih v9 v10 (ZaC v11 (1:Int)) w5 r hf)
  ·obtain⟨x3,q8,hf⟩:=Zae hf;obtain rfl:=oi hf;exact ZbO Zam 8 [rz,rH [] [(1,⟨[],[(99999,32)],[(99999,.rows 341 5 x3.length (Zar Zaf.c Zaf.d x3))],.one (.osl 99999 x3.length)⟩)]] [false] ⟨[],[],[],[],[],[4],[32],[(32,99999)]⟩ (.c h1 (.c (ZoY _ _ q8) (.c (show ∀i j,i<x3.length→j<5→∃y,Zar Zaf.c Zaf.d x3 i j=.lit y from(ZAu (sz:=5) (e:=Zaf.c) (d:=Zaf.d) (fun _=>rfl) (fun _=>rfl) _ _)) .n))) (by kernel_rfl)
def ZeU(a0:ZaD)(a1_0:Int):Option (List Zaf):=ZbL a1_0 ((((a0.fBook.length:Nat):Int)-(0:Int)).toNat+2) a0.fBook ((a0.fBook.length:Nat):Int) (0:Int) ([])
theorem ZmU(a0:ZaD)(a1_0:Int)(r:List Zaf)(hf:ZeU a0 a1_0=some r):Zdo Tryz.prog 326 [] [.agg (ZaD.c a0),.one (.clo (.func 331) 0 1 (fun i=>([]:List C).getD i .junk) (fun i=>([.rp false 1 (fun j=>([.lit (.int .i64 a1_0)]:List C).getD (0+j) .junk)]:List C).getD i .junk))] [(99999,.rows 341 5 r.length (Zar Zaf.c Zaf.d r))] (.one (.osl 99999 r.length)):=by
 refine Zdo.of Tryz.func326 rfl rfl rfl rfl fun S0 w0=>?_;unfold ZeU at hf;exact ZaG Zam Zcf.ends 8 [rz,rz,rz] [] ⟨[],[],[],[],[(5,5,341,5,Zar Zaf.c Zaf.d [])],[1,5,9,10,11],[5],[]⟩ .n (by kernel_rfl) (ZlY S0 w0 a1_0 ((((a0.fBook.length:Nat):Int)-(0:Int)).toNat+2) a0.fBook ((a0.fBook.length:Nat):Int) (0:Int) ([]) r hf)
theorem Znv(a0:ZaD)(a1_0:Int)(r:List Zaf)(hf:ZeU a0 a1_0=some r):Zay Tryz.prog 326 [.agg (ZaD.c a0),.one (.clo (.func 331) 0 1 (fun i=>([]:List C).getD i .junk) (fun i=>([.rp false 1 (fun j=>([.lit (.int .i64 a1_0)]:List C).getD (0+j) .junk)]:List C).getD i .junk))] (.one (cL 5 Zaf.c Zaf.d r)):=(ZmU a0 a1_0 r hf).pure
def Zjl(a0:ZaD)(a1:Int):Option Int:=(ZeU a0 a1).bind fun x1=>(Zkt x1).bind fun x2=>some x2.1.fKey
theorem ZuP(a0:ZaD)(a1 r:Int)(hf:Zjl a0 a1=some r):Zay Tryz.prog 259 [.agg (ZaD.c a0),.one (.lit (.int .i64 a1))] (.one (.lit (.int .i64 r))):=by
 refine Zay.of Tryz.func259 rfl rfl rfl rfl fun S0 w0=>?_;unfold Zjl at hf;obtain⟨x1,q1,hf⟩:=Zae hf;obtain⟨x2,q2,hf⟩:=Zae hf;obtain rfl:=oi hf;exact Zak Zam 6 [rz,⟨[(2,.r (.one (cL 5 Zaf.c Zaf.d x1)) []),(3,.r (.tup [(true,Zaf.c x2.1),(false,(cLs 5 Zaf.c Zaf.d) x2.2.1),(false,cB x2.2.2)]) [])],[],[(1,[3])],[],[],[],[]⟩,rz] [] [] [] [] (.c (Znv _ _ _ q1) (.c (ZnR _ _ q2) .n)) (by kernel_rfl) rfl
def ZfW(a0:Zan)(a1:Zap)(a2 a3:Int)(a4:Bool):Option (Tout Bool):=(ZbP a0 (Zas.mk (7:Int) (0:Int) a1 a2 a3 (Zad.mk (0:Int) (Zab.mk (Zaj.mk (Zag.mk false (0:Int) (0:Int)) (0:Int)) false (0:Int) (Zat.mk (0:Int) (0:Int)) (0:Int) (0:Int)) ([]:(List Zah)) ([]:(List Zaa))) a4)).bind fun x1=>(match x1 with | .ret x1v x1g=>some (Tout.ret (x1v.fN==(1:Int)) x1g) | .pan x1o=>some (Tout.pan x1o) | .bad x1s=>some (Tout.bad x1s))
theorem Zlg(a0:Zan)(a1:Zap)(a2 a3:Int)(a4:Bool)(r:(Tout Bool))(hf:ZfW a0 a1 a2 a3 a4=some r):Zfr Tryz.prog 468 [(100000,.box (Zan.c a0))] [.one (.ptr 100000 0),.agg (Zap.c a1),.one (.lit (.int .i64 a2)),.one (.lit (.int .i64 a3)),.one (.lit (.bool a4))] (oc (fun x=>.one (.lit (.bool x))) r):=by
 refine Zfr.of Tryz.func468 rfl rfl rfl rfl fun S0 w0=>?_;unfold ZfW at hf;obtain⟨x1,q1,hf⟩:=Zae hf;cases x1 with
 |ret x1v x1g=>
  dsimp only at hf;obtain rfl:=oi hf;exact Zcp Zam 4 [rz,⟨[],[],[],[],[(5,[(18,cL 5 Zah.c Zah.d []),(19,cL 7 Zaa.c Zaa.d [])])],[],[(6,⟨[(100000,100000)],[],[(100000,.box (Zan.c x1g))],.agg (Zad.c x1v)⟩)]⟩] [] ⟨[],[],[],[],[],[10],[100000],[]⟩ [100000] (.c (Zbj _ _ _ q1) .n) (by kernel_rfl)
 |_=>
  dsimp only at hf;obtain rfl:=oi hf;exact ZaK Zam 3 _ _ [rz] [] (⟨[],[],[],[],[(5,[(18,cL 5 Zah.c Zah.d []),(19,cL 7 Zaa.c Zaa.d [])])],[],[]⟩) 6 ⟨[(100000,100000)],pvOf q1⟩ (.c (Zbj _ _ _ q1) .n) (by kernel_rfl)
def ZeL(a2:Int)(a3:Bool):Nat→Zan→Zap→Option (Tout Unit)|0,_,_=>none|fu+1,b100000,b8=>(ZbU b100000 b8 false).bind fun x1=>(match x1 with | .ret x1v x1g=>(ZfW x1g b8 x1v.fN (ZaC x1v.fN a2) a3).bind fun x2=>(match x2 with | .ret x2v x2g=>bif x2v then some (Tout.ret () x2g)else ZeL a2 a3 fu x2g b8 | .pan x2o=>some (Tout.pan x2o) | .bad x2s=>some (Tout.bad x2s)) | .pan x1o=>some (Tout.pan x1o) | .bad x1s=>some (Tout.bad x1s))
theorem ZrT(S0:Nat→Prop)(w0:ZaV)(a2:Int)(a3:Bool):∀(fu:Nat)(b100000:Zan)(b8:Zap)(r:(Tout Unit)),ZeL a2 a3 fu b100000 b8=some r→Good Tryz.prog 24 S0 w0 (bodyPost Tryz.prog Tryz.f140 (Zms S0 w0 (oc (fun x=>.tup []) r))) (at_ [1,0] (Zbo Tryz.f140)) ⟨[(0,.one (.ifc 112 (.ptr 100000 0))),(2,.one (.lit (.int .i64 a2))),(3,.one (.lit (.bool a3))),(8,.one (.ptr 8 0))],[(100000,.box [cL 13 Zad.c Zad.d b100000.fgot]),(8,.box [.lit (.int .i64 b8.fKind),.lit (.int .i64 b8.fShard),.lit (.int .i64 b8.fSlot)])]⟩:=by
 intro fu;induction fu with
 |zero=>
  intro b100000 b8 r hf;simp[ZeL]at hf
 |succ fu ih=>
  intro b100000 b8 r hf;unfold ZeL at hf;obtain⟨x1,q1,hf⟩:=Zae hf;cases x1 with
  |ret x1v x1g=>
   dsimp only at hf
   let R1:List RA:=[rH [(2,.id 463)] [(2,⟨[(100000,100000)],[],[(100000,.box (Zan.c x1g))],.agg (Zad.c x1v)⟩)]]
   have O2:Obl _:=(.c (ZaQ _ _ _ _ q1) (.c Zet .n));obtain⟨x2,q2,hf⟩:=Zae hf;cases x2 with
   |ret x2v x2g=>
    dsimp only at hf
    let R3:List RA:=(R1++[rH [(7,.id 468)] [(7,⟨[(100000,100000)],[],[(100000,.box (Zan.c x2g))],.one (.lit (.bool x2v))⟩)]])
    have O4:Obl _:=(O2.app (.c (Zlg _ _ _ _ _ _ q2) (.c ZxT .n)));rcases Zal hf with⟨h3,hf⟩|⟨h3,hf⟩
    ·obtain rfl:=oi hf;exact Zcp Zam 7 R3 [true] ⟨[],[],[],[],[],[],[100000],[]⟩ [100000] (O4.app (.c h3 .n)) (by kernel_rfl)
    ·exact ZaG Zam Zms.ends 10 R3 [false] ⟨[],[],[],[],[],[0,2,3,8],[100000,8],[]⟩ (O4.app (.c h3 .n)) (by kernel_rfl) (ih x2g b8 r hf)
   |_=>
    dsimp only at hf;obtain rfl:=oi hf;exact ZaK Zam 5 _ _ R1 [] (rA [(7,.id 468)]) 7 ⟨[(100000,100000)],pvOf q2⟩ (O2.app (.c (Zlg _ _ _ _ _ _ q2) (.c ZxT .n))) (by kernel_rfl)
  |_=>
   dsimp only at hf;obtain rfl:=oi hf;exact ZaK Zam 3 _ _ [] [] (rA [(2,.id 463)]) 2 ⟨[(100000,100000)],pvOf q1⟩ (.c (ZaQ _ _ _ _ q1) (.c Zet .n)) (by kernel_rfl)
def ZhZ(a0:Zan)(a1 a2:Int)(a3:Bool):Option (Tout Unit):=ZeL a2 a3 1000000 a0 (Zap.mk a1 (0:Int) (0:Int))
theorem ZjJ(a0:Zan)(a1 a2:Int)(a3:Bool)(r:(Tout Unit))(hf:ZhZ a0 a1 a2 a3=some r):Zfr Tryz.prog 140 [(100000,.box (Zan.c a0))] [.one (.ifc 112 (.ptr 100000 0)),.one (.lit (.int .i64 a1)),.one (.lit (.int .i64 a2)),.one (.lit (.bool a3))] (oc (fun x=>.tup []) r):=by
 refine Zfr.of Tryz.func140 rfl rfl rfl rfl fun S0 w0=>?_;unfold ZhZ at hf;exact ZaG Zam Zms.ends 3 [rz] [] ⟨[],[],[],[],[],[0,2,3,8],[100000,8],[]⟩ .n (by kernel_rfl) (ZrT S0 w0 a2 a3 1000000 a0 (Zap.mk a1 (0:Int) (0:Int)) r hf)
def Zlo(a0:Zaa)(c0:Zaj):Option Bool:=some (decide (a0.fEnd=c0))
theorem ZsF(a0:Zaa)(c0:Zaj)(r:Bool)(hf:Zlo a0 c0=some r):Zay Tryz.prog 333 [.agg (Zaa.c a0),.one (.rp false 4 (fun j=>(Zaj.c c0:List C).getD (0+j) .junk))] (.one (.lit (.bool r))):=by
 refine Zay.of Tryz.func333 rfl rfl rfl rfl fun S0 w0=>?_;unfold Zlo at hf;obtain rfl:=oi hf;exact Zak Zam 4 [rz,rA [(3,aB (decide (a0.fEnd=c0)))]] [] [] [] [] (.c (Ziw a0.fEnd c0 (.tmp 5) (.tmp 6)) .n) (by kernel_rfl) rfl
def ZaL(a0:List Zaa)(a1_0:Zaj):Nat→Int→Int→Option Int|0,_,_=>none|fu+1,v7,v8=>bif(decide (v8<v7))then need (0≤v8∧v8<((a0.length:Nat):Int))<|(Zlo (a0.getD v8.toNat Zaa.d) a1_0).bind fun x1=>bif x1 then some v8 else ZaL a0 a1_0 fu v7 (ZaC v8 (1:Int))else some (-1:Int)
theorem Zge(S0:Nat→Prop)(w0:ZaV)(a0:List Zaa)(a1_0:Zaj):∀(fu:Nat)(v7 v8 r:Int),ZaL a0 a1_0 fu v7 v8=some r→Good Tryz.prog 19 S0 w0 (bodyPost Tryz.prog Tryz.f273 (Post S0 w0 (.one (.lit (.int .i64 r))))) (at_ [1,0,1,0] (Zbo Tryz.f273)) ⟨[(0,.one (cL 7 Zaa.c Zaa.d a0)),(1,.one (.clo (.func 333) 0 1 (fun i=>([]:List C).getD i .junk) (fun i=>([.rp false 4 (fun j=>(Zaj.c a1_0:List C).getD (0+j) .junk)]:List C).getD i .junk))),(7,.one (.lit (.int .i64 v7))),(8,.one (.lit (.int .i64 v8)))],[]⟩:=by
 intro fu;induction fu with
 |zero=>
  intro v7 v8 r hf;simp[ZaL]at hf
 |succ fu ih=>
  intro v7 v8 r hf;unfold ZaL at hf;rcases Zal hf with⟨h1,hf⟩|⟨h1,hf⟩
  ·obtain⟨o2,hf⟩:=Zaw hf;obtain⟨x1,q3,hf⟩:=Zae hf;have O1:Obl _:=(.c h1 (.c o2 (.c (ZsF _ _ _ q3) .n)));rcases Zal hf with⟨h4,hf⟩|⟨h4,hf⟩
   ·obtain rfl:=oi hf;exact Zak Zam 15 [rz,rz,rA [(5,aB x1)],rz] [true,true] [] [] [] (O1.app (.c h4 .n)) (by kernel_rfl) rfl
   ·exact ZaG Zam Post.ends 17 [rz,rz,rA [(5,aB x1)],rz] [true,false] ⟨[],[],[],[],[],[0,1,7,8],[],[]⟩ (O1.app (.c h4 .n)) (by kernel_rfl) (ih v7 (ZaC v8 (1:Int)) r hf)
  ·obtain rfl:=oi hf;exact Zak Zam 8 [rz,rz] [false] [] [] [] (.c h1 .n) (by kernel_rfl) rfl
def ZbW(a0:List Zaa)(a1_0:Zaj):Option Int:=ZaL a0 a1_0 ((((a0.length:Nat):Int)-(0:Int)).toNat+2) ((a0.length:Nat):Int) (0:Int)
theorem ZgV(a0:List Zaa)(a1_0:Zaj)(r:Int)(hf:ZbW a0 a1_0=some r):Zay Tryz.prog 273 [.one (cL 7 Zaa.c Zaa.d a0),.one (.clo (.func 333) 0 1 (fun i=>([]:List C).getD i .junk) (fun i=>([.rp false 4 (fun j=>(Zaj.c a1_0:List C).getD (0+j) .junk)]:List C).getD i .junk))] (.one (.lit (.int .i64 r))):=by
 refine Zay.of Tryz.func273 rfl rfl rfl rfl fun S0 w0=>?_;unfold ZbW at hf;exact ZaG Zam Post.ends 6 [rz,rz] [] ⟨[],[],[],[],[],[0,1,7,8],[],[]⟩ .n (by kernel_rfl) (Zge S0 w0 a0 a1_0 ((((a0.length:Nat):Int)-(0:Int)).toNat+2) ((a0.length:Nat):Int) (0:Int) r hf)
def Zik(a0:List Zaa)(a1:Zaj):Option Int:=(ZbW a0 a1).bind fun x1=>some x1
theorem Zkz(a0:List Zaa)(a1:Zaj)(r:Int)(hf:Zik a0 a1=some r):Zay Tryz.prog 262 [.one (cL 7 Zaa.c Zaa.d a0),.agg (Zaj.c a1)] (.one (.lit (.int .i64 r))):=by
 refine Zay.of Tryz.func262 rfl rfl rfl rfl fun S0 w0=>?_;unfold Zik at hf;obtain⟨x1,q1,hf⟩:=Zae hf;obtain rfl:=oi hf;exact Zak Zam 4 [rz,⟨[(2,aI x1)],[],[(1,[3])],[],[],[],[]⟩] [] [] [] [] (.c (ZgV _ _ _ q1) .n) (by kernel_rfl) rfl
def ZnT(a0:Zaa):Option Zaa:=some (Zaa.mk a0.fEnd (2:Int) a0.fFails a0.fNext)
theorem ZuN(a0 r:Zaa)(hf:ZnT a0=some r):Zay Tryz.prog 261 [.agg (Zaa.c a0)] (.agg (Zaa.c r)):=by
 refine Zay.of Tryz.func261 rfl rfl rfl rfl fun S0 w0=>?_;unfold ZnT at hf;obtain rfl:=oi hf;exact Zak Zam 6 [rz,rz,rz] [] [] [] [] .n (by kernel_rfl) rfl
def ZbS(a0:List Zaa):Option (List Zaa):=need (0<a0.length)<|need ((([]:List Zaa)++a0).length * 56≤140737488355328∧(([]:List Zaa)++a0).length≤maxLen)<|some (([]:List Zaa)++a0)
theorem ZeZ(a0 r:List Zaa)(hf:ZbS a0=some r):Zdo Tryz.prog 277 [] [.one (cL 7 Zaa.c Zaa.d a0)] [(99999,.rows 106 7 r.length (Zar Zaa.c Zaa.d r))] (.one (.osl 99999 r.length)):=by
 refine Zdo.of Tryz.func277 rfl rfl rfl rfl fun S0 w0=>?_;unfold ZbS at hf;obtain⟨o1,hf⟩:=Zaw hf;obtain⟨o2,hf⟩:=Zaw hf;obtain rfl:=oi hf;exact ZbO Zam 9 [rz,rz,rA [(0,.c ([]:List Zaa).length (Zar Zaa.c Zaa.d ([]:List Zaa))),(2,.c ((([]:List Zaa)++a0).length) (Zar Zaa.c Zaa.d (([]:List Zaa)++a0)))]] [false] ⟨[],[],[],[],[],[2],[7],[(7,99999)]⟩ (.c o1 (.c (show false=false from rfl) (.c (show ([]:List Zaa).length=0 from rfl) (.c (show ∀i j,i<0→j<7→Zar Zaa.c Zaa.d ([]:List Zaa) i j=(([]:List Zaa).flatMap Zaa.c).getD (i * 7+j) .junk from(fun i j hi hj=>ZaY (sz:=7) (e:=Zaa.c) (d:=Zaa.d) (fun _=>rfl) ([]:List Zaa) i j hi hj)) (.c (Zep (sz:=7) (e:=Zaa.c) (d:=Zaa.d) ([]:List Zaa) a0) (.c o2.1 (.c o2.2 .n))))))) (by kernel_rfl)
theorem Zfi(x:Addr)(cap:Nat)(c:Nat→Nat→C):Zdo Tryz.prog 277 [] [.one (.lit (.slice (some x) 0 cap))] [(99999,.rows 106 7 0 c)] (.one (.osl 99999 0)):=by
 refine Zdo.of Tryz.func277 rfl rfl rfl rfl fun S0 w0=>?_;exact Zje Zam 9 _ _ [⟨[],[],[],[],[],[],[]⟩,⟨[(1,.r (.one (.lit (.bool false))) [])],[],[],[],[],[],[]⟩,⟨[(0,.c 0 c),(2,.c 0 c)],[],[],[],[],[],[]⟩] [false] ⟨[],[],[],[],[],[2],[7],[(7,99999)]⟩
  [∀w,(do eqGuard .eql 46 (.tmp 3) (.const (.slice none 0 0)) (.slice (some x) 0 cap) (.slice none 0 0);binOp .eql 46 (.slice (some x) 0 cap) (.slice none 0 0):Sem Value).run Tryz.prog w=.ok (.bool false) w,false=false,0=0,∀i j,i<0→j<7→c i j=([]:List C).getD (i * 7+j) .junk,Ext 7 0 0 c (fun _ _=>.junk) 0 c,0 * 56≤140737488355328,0≤maxLen] (by kernel_rfl) ⟨fun w=>by
   have hg:(eqGuard .eql 46 (.tmp 3) (.const (.slice none 0 0)) (.slice (some x) 0 cap) (.slice none 0 0)).run Tryz.prog w=.ok () w:=by simp[eqGuard]
   rw[Sem.run_bind,hg,Result.andThen_ok];exact Go.run_eql_slice_nil w _ _ (some x) 0 cap Tryz.underlying46,rfl,rfl,fun i j h=>absurd h (Nat.not_lt_zero i),⟨rfl,fun _ _ h=>absurd h (Nat.not_lt_zero _),fun _ _ h=>absurd h (Nat.not_lt_zero _)⟩,by decide,by decide,trivial⟩
theorem Zfh(cap:Nat)(c:Nat→Nat→C):Zdo Tryz.prog 277 [] [.one (.lit (.slice none 0 cap))] [(99999,.rows 106 7 0 c)] (.one (.osl 99999 0)):=by
 refine Zdo.of Tryz.func277 rfl rfl rfl rfl fun S0 w0=>?_;exact Zje Zam 8 _ _ [⟨[],[],[],[],[],[],[]⟩,⟨[(1,.r (.one (.lit (.bool true))) [])],[],[],[],[],[],[]⟩,⟨[],[],[],[],[],[],[]⟩] [true] ⟨[],[],[],[],[(2,99999,106,7,c)],[2],[99999],[]⟩
  [∀w,(do eqGuard .eql 46 (.tmp 3) (.const (.slice none 0 0)) (.slice none 0 cap) (.slice none 0 0);binOp .eql 46 (.slice none 0 cap) (.slice none 0 0):Sem Value).run Tryz.prog w=.ok (.bool true) w,true=true] (by kernel_rfl) ⟨fun w=>by
   have hg:(eqGuard .eql 46 (.tmp 3) (.const (.slice none 0 0)) (.slice none 0 cap) (.slice none 0 0)).run Tryz.prog w=.ok () w:=by simp[eqGuard]
   rw[Sem.run_bind,hg,Result.andThen_ok];exact Go.run_eql_slice_nil w _ _ none 0 cap Tryz.underlying46,rfl,trivial⟩
def ZaP(a0:List Zaa):Option (List Zaa):=need (a0.length * 56≤140737488355328∧a0.length≤maxLen)<|some a0
theorem ZbQ(a0 r:List Zaa)(hf:ZaP a0=some r):Zdo Tryz.prog 277 [] [.one (cL 7 Zaa.c Zaa.d a0)] [(99999,.rows 106 7 r.length (Zar Zaa.c Zaa.d r))] (.one (.osl 99999 r.length)):=by
 obtain⟨o1,hf⟩:=Zaw hf;cases hf;refine ZqA ⟨_,Tryz.func277,rfl,rfl⟩ (fun h cap=>?_) (fun h x cap=>?_) (fun h=>?_)
 ·rw[h];exact Zfh cap _
 ·rw[h];exact Zfi x cap _
 ·refine ZeZ a0 a0 ?_;unfold ZbS;rw[ZpC h,ZpC (by simpa using o1)];simp
def ZlB(a0:List Zaa)(a1:Zaa):Option (List Zaa):=(ZaP a0).bind fun x1=>(Zik a0 a1.fEnd).bind fun x2=>bif(decide (x2≥(0:Int)))then need (0≤x2∧x2<((x1.length:Nat):Int))<|some (x1.set x2.toNat a1)else some x1
theorem ZuS(a0:List Zaa)(a1:Zaa)(r:List Zaa)(hf:ZlB a0 a1=some r):Zdo Tryz.prog 332 [] [.one (cL 7 Zaa.c Zaa.d a0),.agg (Zaa.c a1)] [(99999,.rows 106 7 r.length (Zar Zaa.c Zaa.d r))] (.one (.osl 99999 r.length)):=by
 refine Zdo.of Tryz.func332 rfl rfl rfl rfl fun S0 w0=>?_;unfold ZlB at hf;obtain⟨x1,q1,hf⟩:=Zae hf;obtain⟨x2,q2,hf⟩:=Zae hf
 let R1:List RA:=[rz,rH [] [(1,⟨[],[(99999,8)],[(99999,.rows 106 7 x1.length (Zar Zaa.c Zaa.d x1))],.one (.osl 99999 x1.length)⟩)],rA [(3,aI x2)],rz]
 have O2:Obl _:=(.c (ZbQ _ _ q1) (.c (Zkz _ _ _ q2) .n));rcases Zal hf with⟨h3,hf⟩|⟨h3,hf⟩
 ·obtain⟨o4,hf⟩:=Zaw hf;obtain rfl:=oi hf;exact ZbO Zam 13 (R1++[rA [(4,.c (x1.set x2.toNat a1).length (Zar Zaa.c Zaa.d (x1.set x2.toNat a1)))],rz]) [true] ⟨[],[],[],[(99999,(x1.set x2.toNat a1).length)],[],[4],[8],[(8,99999)]⟩ (O2.app (.c h3 (.c o4 (.c (show (x1.set x2.toNat a1).length=x1.length from List.length_set) (.c (show x2.toNat<x1.length from(ltOf o4)) (.c (show ExtU 7 x1.length (Zar Zaa.c Zaa.d x1) x2.toNat 0 (Zaa.c a1) (Zar Zaa.c Zaa.d (x1.set x2.toNat a1))from(Zpo _ _ _ rfl)) (.c (show (x1.set x2.toNat a1).length=(x1.set x2.toNat a1).length from rfl) .n))))))) (by kernel_rfl)
 ·obtain rfl:=oi hf;exact ZbO Zam 13 (R1++[rz]) [false] ⟨[],[],[],[],[],[4],[8],[(8,99999)]⟩ (O2.app (.c h3 .n)) (by kernel_rfl)
theorem ZwJ(a0:List Zaa)(a1:Zaa)(r:List Zaa)(hf:ZlB a0 a1=some r):Zay Tryz.prog 332 [.one (cL 7 Zaa.c Zaa.d a0),.agg (Zaa.c a1)] (.one (cL 7 Zaa.c Zaa.d r)):=(ZuS a0 a1 r hf).pure
def Zcx(a0:Zan)(a1:Zap)(a2:Zad)(a3:Bool):Option (Tout Unit):=(ZbP a0 (Zas.mk (6:Int) (0:Int) a1 (0:Int) (0:Int) a2 a3)).bind fun x1=>(match x1 with | .ret x1v x1g=>some (Tout.ret () x1g) | .pan x1o=>some (Tout.pan x1o) | .bad x1s=>some (Tout.bad x1s))
theorem ZcC(a0:Zan)(a1:Zap)(a2:Zad)(a3:Bool)(r:(Tout Unit))(hf:Zcx a0 a1 a2 a3=some r):Zfr Tryz.prog 467 [(100000,.box (Zan.c a0))] [.one (.ptr 100000 0),.agg (Zap.c a1),.agg (Zad.c a2),.one (.lit (.bool a3))] (oc (fun x=>.tup []) r):=by
 refine Zfr.of Tryz.func467 rfl rfl rfl rfl fun S0 w0=>?_;unfold Zcx at hf;obtain⟨x1,q1,hf⟩:=Zae hf;cases x1 with
 |ret x1v x1g=>
  dsimp only at hf;obtain rfl:=oi hf;exact Zcp Zam 3 [rz,rH [] [(5,⟨[(100000,100000)],[],[(100000,.box (Zan.c x1g))],.agg (Zad.c x1v)⟩)]] [] ⟨[],[],[],[],[],[],[100000],[]⟩ [100000] (.c (Zbj _ _ _ q1) .n) (by kernel_rfl)
 |_=>
  dsimp only at hf;obtain rfl:=oi hf;exact ZaK Zam 2 _ _ [rz] [] (rz) 5 ⟨[(100000,100000)],pvOf q1⟩ (.c (Zbj _ _ _ q1) .n) (by kernel_rfl)
def ZdI(a0:ZaF)(a1:Zan)(a2:List Zaa)(a3:Zaa):Option (Tout Unit):=(ZiQ).bind fun x1=>(ZlB a2 a3).bind fun x2=>(Zcx a1 x1 (Zad.mk (0:Int) (Zab.mk (Zaj.mk (Zag.mk false (0:Int) (0:Int)) (0:Int)) false (0:Int) (Zat.mk (0:Int) (0:Int)) (0:Int) (0:Int)) ([]:(List Zah)) x2) false).bind fun x3=>(match x3 with | .ret x3v x3g=>some (Tout.ret () x3g) | .pan x3o=>some (Tout.pan x3o) | .bad x3s=>some (Tout.bad x3s))
theorem Zda(a0:ZaF)(a1:Zan)(a2:List Zaa)(a3:Zaa)(r:(Tout Unit))(hf:ZdI a0 a1 a2 a3=some r):Zfr Tryz.prog 260 [(100000,.box (Zan.c a1))] [.agg (ZaF.c a0),.one (.ifc 112 (.ptr 100000 0)),.one (cL 7 Zaa.c Zaa.d a2),.agg (Zaa.c a3)] (oc (fun x=>.tup []) r):=by
 refine Zfr.of Tryz.func260 rfl rfl rfl rfl fun S0 w0=>?_;unfold ZdI at hf;obtain⟨x1,q1,hf⟩:=Zae hf;obtain⟨x2,q2,hf⟩:=Zae hf;have O1:Obl _:=(.c (Zjt _ q1) (.c (ZwJ _ _ _ q2) (.c ZnL .n)));obtain⟨x3,q3,hf⟩:=Zae hf;cases x3 with
 |ret x3v x3g=>
  dsimp only at hf;obtain rfl:=oi hf;exact Zcp Zam 3 [rz,⟨[(1,aG (Zap.c x1)),(4,.r (.one (cL 7 Zaa.c Zaa.d x2)) []),(9,.id 467)],[],[],[],[(5,[(11,cL 5 Zah.c Zah.d [])])],[],[(9,⟨[(100000,100000)],[],[(100000,.box (Zan.c x3g))],.tup []⟩)]⟩] [] ⟨[],[],[],[],[],[],[100000],[]⟩ [100000] (O1.app (.c (ZcC _ _ _ _ _ q3) (.c Zjo .n))) (by kernel_rfl)
 |_=>
  dsimp only at hf;obtain rfl:=oi hf;exact ZaK Zam 2 _ _ [rz] [] (⟨[(1,aG (Zap.c x1)),(4,.r (.one (cL 7 Zaa.c Zaa.d x2)) []),(9,.id 467)],[],[],[],[(5,[(11,cL 5 Zah.c Zah.d [])])],[],[]⟩) 9 ⟨[(100000,100000)],pvOf q3⟩ (O1.app (.c (ZcC _ _ _ _ _ q3) (.c Zjo .n))) (by kernel_rfl)
def ZgY(a0:ZaF)(a1:Zan):Option (Tout (Zaq×Bool)):=(Zhz a0 a1).bind fun x1=>(match x1 with | .ret x1v x1g=>(ZbU x1g (Zap.mk (2:Int) (0:Int) (0:Int)) false).bind fun x2=>(match x2 with | .ret x2v x2g=>bif(decide (x2v.fN≥a0.fc.fMaxOut))then(ZdN (5:Int)).bind fun x3=>some (Tout.ret (x3,true) x2g)else(Zjm x1v a0.fx.fNow).bind fun x4=>bif(!x4.2)then(Zjl x1v a0.fx.fNow).bind fun x5=>some (Tout.ret ((Zaq.mk (6:Int) (Zaj.mk (Zag.mk false (0:Int) (0:Int)) (0:Int)) (0:Int) x5 ([]:(List Zab))),true) x2g)else(ZhZ x2g (2:Int) (1:Int) true).bind fun x6=>(match x6 with | .ret x6v x6g=>(Zik x1v.fBook x4.1).bind fun x7=>need (0≤x7∧x7<((x1v.fBook.length:Nat):Int))<|(ZnT (x1v.fBook.getD x7.toNat Zaa.d)).bind fun x8=>(ZdI a0 x6g x1v.fBook x8).bind fun x9=>(match x9 with | .ret x9v x9g=>some (Tout.ret ((Zaq.mk (0:Int) x4.1 (0:Int) (0:Int) ([]:(List Zab))),false) x9g) | .pan x9o=>some (Tout.pan x9o) | .bad x9s=>some (Tout.bad x9s)) | .pan x6o=>some (Tout.pan x6o) | .bad x6s=>some (Tout.bad x6s)) | .pan x2o=>some (Tout.pan x2o) | .bad x2s=>some (Tout.bad x2s)) | .pan x1o=>some (Tout.pan x1o) | .bad x1s=>some (Tout.bad x1s))
theorem ZkL(a0:ZaF)(a1:Zan)(r:(Tout (Zaq×Bool)))(hf:ZgY a0 a1=some r):Zfr Tryz.prog 198 [(100000,.box (Zan.c a1))] [.agg (ZaF.c a0),.one (.ifc 112 (.ptr 100000 0))] (oc (fun x=>.tup [(true,Zaq.c x.1),(false,cB x.2)]) r):=by
 refine Zfr.of Tryz.func198 rfl rfl rfl rfl fun S0 w0=>?_;unfold ZgY at hf;obtain⟨x1,q1,hf⟩:=Zae hf;cases x1 with
 |ret x1v x1g=>
  dsimp only at hf
  let R1:List RA:=[rz,rH [] [(2,⟨[(100000,100000)],[],[(100000,.box (Zan.c x1g))],.agg (ZaD.c x1v)⟩)]]
  obtain⟨x2,q2,hf⟩:=Zae hf;cases x2 with
  |ret x2v x2g=>
   dsimp only at hf
   let R2:List RA:=(R1++[rH [(2,.id 463)] [(2,⟨[(100000,100000)],[],[(100000,.box (Zan.c x2g))],.agg (Zad.c x2v)⟩)]])
   have O3:Obl _:=(.c (ZiE _ _ _ q1) (.c (ZaQ _ _ _ _ q2) (.c Zet .n)));rcases Zal hf with⟨h3,hf⟩|⟨h3,hf⟩
   ·obtain⟨x3,q4,hf⟩:=Zae hf;obtain rfl:=oi hf;exact Zcp Zam 10 (R2++[rA [(0,aG (Zaq.c x3))]]) [true] ⟨[],[],[],[],[],[4,5],[4,100000],[]⟩ [100000] (O3.app (.c h3 (.c (ZeC _ _ q4) .n))) (by kernel_rfl)
   ·obtain⟨x4,q5,hf⟩:=Zae hf
    let R4:List RA:=(R2++[rA [(4,.r (.tup [(true,Zaj.c x4.1),(false,cB x4.2)]) [])],rz])
    rcases Zal hf with⟨h6,hf⟩|⟨h6,hf⟩
    ·obtain⟨x5,q7,hf⟩:=Zae hf;obtain rfl:=oi hf;exact Zcp Zam 17 (R4++[rA [(4,aI x5)]]) [false,true] ⟨[],[(4,[(7,cL 10 Zab.c Zab.d [])])],[],[],[],[4,5],[4,100000],[]⟩ [100000] (O3.app (.c h3 (.c (Zqg _ _ _ q5) (.c h6 (.c (ZuP _ _ _ q7) .n))))) (by kernel_rfl)
    ·have O5:Obl _:=(O3.app (.c h3 (.c (Zqg _ _ _ q5) (.c h6 .n))));obtain⟨x6,q8,hf⟩:=Zae hf;cases x6 with
     |ret x6v x6g=>
      dsimp only at hf;obtain⟨x7,q9,hf⟩:=Zae hf;obtain⟨o10,hf⟩:=Zaw hf;obtain⟨x8,q11,hf⟩:=Zae hf
      let R6:List RA:=(R4++[rH [] [(1,⟨[(100000,100000)],[],[(100000,.box (Zan.c x6g))],.tup []⟩)]])
      have O7:Obl _:=(O5.app (.c (ZjJ _ _ _ _ _ q8) (.c (Zkz _ _ _ q9) (.c o10 (.c (ZuN _ _ q11) .n)))));obtain⟨x9,q12,hf⟩:=Zae hf;cases x9 with
      |ret x9v x9g=>
       dsimp only at hf;obtain rfl:=oi hf;exact Zcp Zam 22 (R6++[rH [(9,aI x7),(12,aG (Zaa.c x8))] [(13,⟨[(100000,100000)],[],[(100000,.box (Zan.c x9g))],.tup []⟩)],rz]) [false,false] ⟨[],[(4,[(7,cL 10 Zab.c Zab.d [])])],[],[],[],[4,5],[4,100000],[]⟩ [100000] (O7.app (.c (Zda _ _ _ _ _ q12) .n)) (by kernel_rfl)
      |_=>
       dsimp only at hf;obtain rfl:=oi hf;exact ZaK Zam 19 _ _ R6 [false,false] (rA [(9,aI x7),(12,aG (Zaa.c x8))]) 13 ⟨[(100000,100000)],pvOf q12⟩ (O7.app (.c (Zda _ _ _ _ _ q12) .n)) (by kernel_rfl)
     |_=>
      dsimp only at hf;obtain rfl:=oi hf;exact ZaK Zam 17 _ _ R4 [false,false] (rz) 1 ⟨[(100000,100000)],pvOf q8⟩ (O5.app (.c (ZjJ _ _ _ _ _ q8) .n)) (by kernel_rfl)
  |_=>
   dsimp only at hf;obtain rfl:=oi hf;exact ZaK Zam 6 _ _ R1 [] (rA [(2,.id 463)]) 2 ⟨[(100000,100000)],pvOf q2⟩ (.c (ZiE _ _ _ q1) (.c (ZaQ _ _ _ _ q2) (.c Zet .n))) (by kernel_rfl)
 |_=>
  dsimp only at hf;obtain rfl:=oi hf;exact ZaK Zam 3 _ _ [rz] [] (rz) 2 ⟨[(100000,100000)],pvOf q1⟩ (.c (ZiE _ _ _ q1) .n) (by kernel_rfl)
def ZbV(a0:Zan)(a1:Int)(a2:Bool):Option (Tout Unit):=(ZbP a0 (Zas.mk (3:Int) a1 (Zap.mk (0:Int) (0:Int) (0:Int)) (0:Int) (0:Int) (Zad.mk (0:Int) (Zab.mk (Zaj.mk (Zag.mk false (0:Int) (0:Int)) (0:Int)) false (0:Int) (Zat.mk (0:Int) (0:Int)) (0:Int) (0:Int)) ([]:(List Zah)) ([]:(List Zaa))) a2)).bind fun x1=>(match x1 with | .ret x1v x1g=>some (Tout.ret () x1g) | .pan x1o=>some (Tout.pan x1o) | .bad x1s=>some (Tout.bad x1s))
theorem Zbt(a0:Zan)(a1:Int)(a2:Bool)(r:(Tout Unit))(hf:ZbV a0 a1 a2=some r):Zfr Tryz.prog 462 [(100000,.box (Zan.c a0))] [.one (.ptr 100000 0),.one (.lit (.int .i64 a1)),.one (.lit (.bool a2))] (oc (fun x=>.tup []) r):=by
 refine Zfr.of Tryz.func462 rfl rfl rfl rfl fun S0 w0=>?_;unfold ZbV at hf;obtain⟨x1,q1,hf⟩:=Zae hf;cases x1 with
 |ret x1v x1g=>
  dsimp only at hf;obtain rfl:=oi hf;exact Zcp Zam 1 [⟨[],[],[],[],[(3,[(18,cL 5 Zah.c Zah.d []),(19,cL 7 Zaa.c Zaa.d [])])],[],[(4,⟨[(100000,100000)],[],[(100000,.box (Zan.c x1g))],.agg (Zad.c x1v)⟩)]⟩] [] ⟨[],[],[],[],[],[],[100000],[]⟩ [100000] (.c (Zbj _ _ _ q1) .n) (by kernel_rfl)
 |_=>
  dsimp only at hf;obtain rfl:=oi hf;exact ZaK Zam 0 _ _ [] [] (⟨[],[],[],[],[(3,[(18,cL 5 Zah.c Zah.d []),(19,cL 7 Zaa.c Zaa.d [])])],[],[]⟩) 4 ⟨[(100000,100000)],pvOf q1⟩ (.c (Zbj _ _ _ q1) .n) (by kernel_rfl)
def ZbK(a1:Int)(a2:Bool):Nat→Int→Zan→Option (Tout Unit)|0,_,_=>none|fu+1,v6,b100000=>bif(decide (v6≥(0:Int)))then bif a2 then(ZhY a1).bind fun x2=>(ZbV b100000 (ZaC (2:Int) v6) (v6==(Zby x2 (1:Int)))).bind fun x3=>(match x3 with | .ret x3v x3g=>ZbK a1 a2 fu (Zby v6 (1:Int)) x3g | .pan x3o=>some (Tout.pan x3o) | .bad x3s=>some (Tout.bad x3s))else(ZbV b100000 (ZaC (2:Int) v6) false).bind fun x4=>(match x4 with | .ret x4v x4g=>ZbK a1 a2 fu (Zby v6 (1:Int)) x4g | .pan x4o=>some (Tout.pan x4o) | .bad x4s=>some (Tout.bad x4s))else some (Tout.ret () b100000)
theorem ZpP(S0:Nat→Prop)(w0:ZaV)(a1:Int)(a2:Bool):∀(fu:Nat)(v6:Int)(b100000:Zan)(r:(Tout Unit)),ZbK a1 a2 fu v6 b100000=some r→Good Tryz.prog 29 S0 w0 (bodyPost Tryz.prog Tryz.f199 (Zms S0 w0 (oc (fun x=>.tup []) r))) (at_ [1,0] (Zbo Tryz.f199)) ⟨[(0,.one (.ifc 112 (.ptr 100000 0))),(1,.one (.lit (.int .i64 a1))),(2,.one (.lit (.bool a2))),(6,.one (.lit (.int .i64 v6)))],[(100000,.box [cL 13 Zad.c Zad.d b100000.fgot])]⟩:=by
 intro fu;induction fu with
 |zero=>
  intro v6 b100000 r hf;simp[ZbK]at hf
 |succ fu ih=>
  intro v6 b100000 r hf;unfold ZbK at hf;rcases Zal hf with⟨h2,hf⟩|⟨h2,hf⟩
  ·rcases Zal hf with⟨h3,hf⟩|⟨h3,hf⟩
   ·obtain⟨x2,q4,hf⟩:=Zae hf;have O1:Obl _:=(.c h2 (.c h3 (.c (ZlM _ _ q4) (.c ZrM .n))));obtain⟨x3,q5,hf⟩:=Zae hf;cases x3 with
    |ret x3v x3g=>
     dsimp only at hf;exact ZaG Zam Zms.ends 12 [rz,⟨[(7,aI x2),(14,.id 462)],[(4,true)],[],[],[],[],[(14,⟨[(100000,100000)],[],[(100000,.box (Zan.c x3g))],.tup []⟩)]⟩,rz] [true] ⟨[],[],[],[],[],[0,1,2,6],[100000],[]⟩ (O1.app (.c (Zbt _ _ _ _ q5) (.c ZfZ .n))) (by kernel_rfl) (ih (Zby v6 (1:Int)) x3g r hf)
    |_=>
     dsimp only at hf;obtain rfl:=oi hf;exact ZaK Zam 8 _ _ [rz] [true] (⟨[(7,aI x2),(14,.id 462)],[(4,true)],[],[],[],[],[]⟩) 14 ⟨[(100000,100000)],pvOf q5⟩ (O1.app (.c (Zbt _ _ _ _ q5) (.c ZfZ .n))) (by kernel_rfl)
   ·obtain⟨x4,q6,hf⟩:=Zae hf;cases x4 with
    |ret x4v x4g=>
     dsimp only at hf;exact ZaG Zam Zms.ends 12 [rz,⟨[(14,.id 462)],[(4,false)],[],[],[],[],[(14,⟨[(100000,100000)],[],[(100000,.box (Zan.c x4g))],.tup []⟩)]⟩,rz] [true] ⟨[],[],[],[],[],[0,1,2,6],[100000],[]⟩ (.c h2 (.c h3 (.c ZrM (.c (Zbt _ _ _ _ q6) (.c ZfZ .n))))) (by kernel_rfl) (ih (Zby v6 (1:Int)) x4g r hf)
    |_=>
     dsimp only at hf;obtain rfl:=oi hf;exact ZaK Zam 8 _ _ [rz] [true] (⟨[(14,.id 462)],[(4,false)],[],[],[],[],[]⟩) 14 ⟨[(100000,100000)],pvOf q6⟩ (.c h2 (.c h3 (.c ZrM (.c (Zbt _ _ _ _ q6) (.c ZfZ .n))))) (by kernel_rfl)
  ·obtain rfl:=oi hf;exact Zcp Zam 6 [rz] [false] ⟨[],[],[],[],[],[],[100000],[]⟩ [100000] (.c h2 .n) (by kernel_rfl)
def ZgA(a0:Zan)(a1:Int)(a2:Bool):Option (Tout Unit):=(ZhY a1).bind fun x1=>ZbK a1 a2 (((Zby x1 (1:Int))-(0:Int)).toNat+2) (Zby x1 (1:Int)) a0
theorem ZjL(a0:Zan)(a1:Int)(a2:Bool)(r:(Tout Unit))(hf:ZgA a0 a1 a2=some r):Zfr Tryz.prog 199 [(100000,.box (Zan.c a0))] [.one (.ifc 112 (.ptr 100000 0)),.one (.lit (.int .i64 a1)),.one (.lit (.bool a2))] (oc (fun x=>.tup []) r):=by
 refine Zfr.of Tryz.func199 rfl rfl rfl rfl fun S0 w0=>?_;unfold ZgA at hf;obtain⟨x1,q1,hf⟩:=Zae hf;exact ZaG Zam Zms.ends 3 [rA [(1,aI x1)]] [] ⟨[],[],[],[],[],[0,1,2,6],[100000],[]⟩ (.c (ZlM _ _ q1) .n) (by kernel_rfl) (ZpP S0 w0 a1 a2 (((Zby x1 (1:Int))-(0:Int)).toNat+2) (Zby x1 (1:Int)) a0 r hf)
def Zhy(a0:Zan)(a1:Int)(a2:Bool):Option (Tout Unit):=(ZbP a0 (Zas.mk (4:Int) a1 (Zap.mk (0:Int) (0:Int) (0:Int)) (0:Int) (0:Int) (Zad.mk (0:Int) (Zab.mk (Zaj.mk (Zag.mk false (0:Int) (0:Int)) (0:Int)) false (0:Int) (Zat.mk (0:Int) (0:Int)) (0:Int) (0:Int)) ([]:(List Zah)) ([]:(List Zaa))) a2)).bind fun x1=>(match x1 with | .ret x1v x1g=>some (Tout.ret () x1g) | .pan x1o=>some (Tout.pan x1o) | .bad x1s=>some (Tout.bad x1s))
theorem ZgJ(a0:Zan)(a1:Int)(a2:Bool)(r:(Tout Unit))(hf:Zhy a0 a1 a2=some r):Zfr Tryz.prog 461 [(100000,.box (Zan.c a0))] [.one (.ptr 100000 0),.one (.lit (.int .i64 a1)),.one (.lit (.bool a2))] (oc (fun x=>.tup []) r):=by
 refine Zfr.of Tryz.func461 rfl rfl rfl rfl fun S0 w0=>?_;unfold Zhy at hf;obtain⟨x1,q1,hf⟩:=Zae hf;cases x1 with
 |ret x1v x1g=>
  dsimp only at hf;obtain rfl:=oi hf;exact Zcp Zam 1 [⟨[],[],[],[],[(3,[(18,cL 5 Zah.c Zah.d []),(19,cL 7 Zaa.c Zaa.d [])])],[],[(4,⟨[(100000,100000)],[],[(100000,.box (Zan.c x1g))],.agg (Zad.c x1v)⟩)]⟩] [] ⟨[],[],[],[],[],[],[100000],[]⟩ [100000] (.c (Zbj _ _ _ q1) .n) (by kernel_rfl)
 |_=>
  dsimp only at hf;obtain rfl:=oi hf;exact ZaK Zam 0 _ _ [] [] (⟨[],[],[],[],[(3,[(18,cL 5 Zah.c Zah.d []),(19,cL 7 Zaa.c Zaa.d [])])],[],[]⟩) 4 ⟨[(100000,100000)],pvOf q1⟩ (.c (Zbj _ _ _ q1) .n) (by kernel_rfl)
def ZhB(a0:ZaF)(a1:Zan):Option (Tout Zaq):=(ZgU a1 (0:Int) false).bind fun x1=>(match x1 with | .ret x1v x1g=>(Zdi x1g (1:Int) false).bind fun x2=>(match x2 with | .ret x2v x2g=>(Zgz x2g a0.fc.fShards).bind fun x3=>(match x3 with | .ret x3v x3g=>(ZgY a0 x3g).bind fun x4=>(match x4 with | .ret x4v x4g=>(ZgA x4g a0.fc.fShards x4v.2).bind fun x5=>(match x5 with | .ret x5v x5g=>(ZbV x5g (1:Int) false).bind fun x6=>(match x6 with | .ret x6v x6g=>(Zhy x6g (0:Int) false).bind fun x7=>(match x7 with | .ret x7v x7g=>some (Tout.ret x4v.1 x7g) | .pan x7o=>some (Tout.pan x7o) | .bad x7s=>some (Tout.bad x7s)) | .pan x6o=>some (Tout.pan x6o) | .bad x6s=>some (Tout.bad x6s)) | .pan x5o=>some (Tout.pan x5o) | .bad x5s=>some (Tout.bad x5s)) | .pan x4o=>some (Tout.pan x4o) | .bad x4s=>some (Tout.bad x4s)) | .pan x3o=>some (Tout.pan x3o) | .bad x3s=>some (Tout.bad x3s)) | .pan x2o=>some (Tout.pan x2o) | .bad x2s=>some (Tout.bad x2s)) | .pan x1o=>some (Tout.pan x1o) | .bad x1s=>some (Tout.bad x1s))
theorem ZiG(a0:ZaF)(a1:Zan)(r:(Tout Zaq))(hf:ZhB a0 a1=some r):Zfr Tryz.prog 110 [(100000,.box (Zan.c a1))] [.agg (ZaF.c a0),.one (.ifc 112 (.ptr 100000 0))] (oc (fun x=>.agg (Zaq.c x)) r):=by
 refine Zfr.of Tryz.func110 rfl rfl rfl rfl fun S0 w0=>?_;unfold ZhB at hf;obtain⟨x1,q1,hf⟩:=Zae hf;cases x1 with
 |ret x1v x1g=>
  dsimp only at hf
  let R1:List RA:=[rz,rH [(1,.id 466)] [(1,⟨[(100000,100000)],[],[(100000,.box (Zan.c x1g))],.tup []⟩)]]
  have O2:Obl _:=(.c (Zgd _ _ _ _ q1) (.c ZpD .n));obtain⟨x2,q2,hf⟩:=Zae hf;cases x2 with
  |ret x2v x2g=>
   dsimp only at hf
   let R3:List RA:=(R1++[rH [(1,.id 464)] [(1,⟨[(100000,100000)],[],[(100000,.box (Zan.c x2g))],.tup []⟩)]])
   have O4:Obl _:=(O2.app (.c (Zcg _ _ _ _ q2) (.c ZiL .n)));obtain⟨x3,q3,hf⟩:=Zae hf;cases x3 with
   |ret x3v x3g=>
    dsimp only at hf
    let R5:List RA:=(R3++[rH [] [(4,⟨[(100000,100000)],[],[(100000,.box (Zan.c x3g))],.tup []⟩)]])
    obtain⟨x4,q4,hf⟩:=Zae hf;cases x4 with
    |ret x4v x4g=>
     dsimp only at hf
     let R6:List RA:=(R5++[rH [] [(2,⟨[(100000,100000)],[],[(100000,.box (Zan.c x4g))],.tup [(true,Zaq.c x4v.1),(false,cB x4v.2)]⟩)]])
     have O7:Obl _:=(O4.app (.c (ZjK _ _ _ q3) (.c (ZkL _ _ _ q4) .n)));obtain⟨x5,q5,hf⟩:=Zae hf;cases x5 with
     |ret x5v x5g=>
      dsimp only at hf
      let R8:List RA:=(R6++[rH [] [(5,⟨[(100000,100000)],[],[(100000,.box (Zan.c x5g))],.tup []⟩)]])
      obtain⟨x6,q6,hf⟩:=Zae hf;cases x6 with
      |ret x6v x6g=>
       dsimp only at hf
       let R9:List RA:=(R8++[rH [(1,.id 462)] [(1,⟨[(100000,100000)],[],[(100000,.box (Zan.c x6g))],.tup []⟩)]])
       have O10:Obl _:=(O7.app (.c (ZjL _ _ _ _ q5) (.c (Zbt _ _ _ _ q6) (.c ZfZ .n))));obtain⟨x7,q7,hf⟩:=Zae hf;cases x7 with
       |ret x7v x7g=>
        dsimp only at hf;obtain rfl:=oi hf;exact Zcp Zam 18 (R9++[rH [(1,.id 461)] [(1,⟨[(100000,100000)],[],[(100000,.box (Zan.c x7g))],.tup []⟩)],rz]) [] ⟨[],[],[],[],[],[4],[4,100000],[]⟩ [100000] (O10.app (.c (ZgJ _ _ _ _ q7) (.c ZqR .n))) (by kernel_rfl)
       |_=>
        dsimp only at hf;obtain rfl:=oi hf;exact ZaK Zam 15 _ _ R9 [] (rA [(1,.id 461)]) 1 ⟨[(100000,100000)],pvOf q7⟩ (O10.app (.c (ZgJ _ _ _ _ q7) (.c ZqR .n))) (by kernel_rfl)
      |_=>
       dsimp only at hf;obtain rfl:=oi hf;exact ZaK Zam 13 _ _ R8 [] (rA [(1,.id 462)]) 1 ⟨[(100000,100000)],pvOf q6⟩ (O7.app (.c (ZjL _ _ _ _ q5) (.c (Zbt _ _ _ _ q6) (.c ZfZ .n)))) (by kernel_rfl)
     |_=>
      dsimp only at hf;obtain rfl:=oi hf;exact ZaK Zam 11 _ _ R6 [] (rz) 5 ⟨[(100000,100000)],pvOf q5⟩ (O7.app (.c (ZjL _ _ _ _ q5) .n)) (by kernel_rfl)
    |_=>
     dsimp only at hf;obtain rfl:=oi hf;exact ZaK Zam 9 _ _ R5 [] (rz) 2 ⟨[(100000,100000)],pvOf q4⟩ (O4.app (.c (ZjK _ _ _ q3) (.c (ZkL _ _ _ q4) .n))) (by kernel_rfl)
   |_=>
    dsimp only at hf;obtain rfl:=oi hf;exact ZaK Zam 7 _ _ R3 [] (rz) 4 ⟨[(100000,100000)],pvOf q3⟩ (O4.app (.c (ZjK _ _ _ q3) .n)) (by kernel_rfl)
  |_=>
   dsimp only at hf;obtain rfl:=oi hf;exact ZaK Zam 5 _ _ R1 [] (rA [(1,.id 464)]) 1 ⟨[(100000,100000)],pvOf q2⟩ (O2.app (.c (Zcg _ _ _ _ q2) (.c ZiL .n))) (by kernel_rfl)
 |_=>
  dsimp only at hf;obtain rfl:=oi hf;exact ZaK Zam 3 _ _ [rz] [] (rA [(1,.id 466)]) 1 ⟨[(100000,100000)],pvOf q1⟩ (.c (Zgd _ _ _ _ q1) (.c ZpD .n)) (by kernel_rfl)
def Zmc(a0:Zag):Option Zai:=(Zdt a0).bind fun x1=>(Zfd a0 x1).bind fun x2=>some x2.1
theorem ZuQ(a0:Zag)(r:Zai)(hf:Zmc a0=some r):Zay Tryz.prog 226 [.agg (Zag.c a0)] (.agg (Zai.c r)):=by
 refine Zay.of Tryz.func226 rfl rfl rfl rfl fun S0 w0=>?_;unfold Zmc at hf;obtain⟨x1,q1,hf⟩:=Zae hf;obtain⟨x2,q2,hf⟩:=Zae hf;obtain rfl:=oi hf;exact Zak Zam 6 [rz,rA [(2,aI x1),(3,.r (.tup [(true,Zai.c x2.1),(false,cB x2.2)]) [])],rz] [] [] [] [] (.c (ZgG _ _ q1) (.c (Zfy _ _ _ q2) .n)) (by kernel_rfl) rfl
def ZlR(a0:Int):Option Int:=some (IntKind.wrap .u64 (((BitVec.ofInt (IntKind.bits .u64) (IntKind.wrap .u64 ((IntKind.wrap .u64 (((BitVec.ofInt (IntKind.bits .u64) (IntKind.wrap .u64 ((IntKind.wrap .u64 (((BitVec.ofInt (IntKind.bits .u64) a0) ^^^ (BitVec.ofInt (IntKind.bits .u64) (Int.fdiv a0 (2 ^ (min (30:Int).toNat (IntKind.bits .u64)))))).toNat:Int))*(13787848793156543929:Int)))) ^^^ (BitVec.ofInt (IntKind.bits .u64) (Int.fdiv (IntKind.wrap .u64 ((IntKind.wrap .u64 (((BitVec.ofInt (IntKind.bits .u64) a0) ^^^ (BitVec.ofInt (IntKind.bits .u64) (Int.fdiv a0 (2 ^ (min (30:Int).toNat (IntKind.bits .u64)))))).toNat:Int))*(13787848793156543929:Int))) (2 ^ (min (27:Int).toNat (IntKind.bits .u64)))))).toNat:Int))*(10723151780598845931:Int)))) ^^^ (BitVec.ofInt (IntKind.bits .u64) (Int.fdiv (IntKind.wrap .u64 ((IntKind.wrap .u64 (((BitVec.ofInt (IntKind.bits .u64) (IntKind.wrap .u64 ((IntKind.wrap .u64 (((BitVec.ofInt (IntKind.bits .u64) a0) ^^^ (BitVec.ofInt (IntKind.bits .u64) (Int.fdiv a0 (2 ^ (min (30:Int).toNat (IntKind.bits .u64)))))).toNat:Int))*(13787848793156543929:Int)))) ^^^ (BitVec.ofInt (IntKind.bits .u64) (Int.fdiv (IntKind.wrap .u64 ((IntKind.wrap .u64 (((BitVec.ofInt (IntKind.bits .u64) a0) ^^^ (BitVec.ofInt (IntKind.bits .u64) (Int.fdiv a0 (2 ^ (min (30:Int).toNat (IntKind.bits .u64)))))).toNat:Int))*(13787848793156543929:Int))) (2 ^ (min (27:Int).toNat (IntKind.bits .u64)))))).toNat:Int))*(10723151780598845931:Int))) (2 ^ (min (31:Int).toNat (IntKind.bits .u64)))))).toNat:Int))
theorem ZoV(a0 r:Int)(hf:ZlR a0=some r):Zay Tryz.prog 371 [.one (.lit (.int .u64 a0))] (.one (.lit (.int .u64 r))):=by
 refine Zay.of Tryz.func371 rfl rfl rfl rfl fun S0 w0=>?_;unfold ZlR at hf;obtain rfl:=oi hf;exact Zak Zam 8 [rz,rz,rz,rz] [] [] [] [] (.c (show 0≤(30:Int)from(by decide)) (.c (show 0≤(27:Int)from(by decide)) (.c (show 0≤(31:Int)from(by decide)) .n))) (by kernel_rfl) rfl
def ZdJ(a0 a1:Int):Option Int:=need (0≤(IntKind.wrap .u64 (((BitVec.ofInt (IntKind.bits .u64) (IntKind.wrap .u64 a1)) &&& (BitVec.ofInt (IntKind.bits .u64) (63:Int))).toNat:Int)))<|need (0≤(IntKind.wrap .u64 ((64:Int)-(IntKind.wrap .u64 (((BitVec.ofInt (IntKind.bits .u64) (IntKind.wrap .u64 a1)) &&& (BitVec.ofInt (IntKind.bits .u64) (63:Int))).toNat:Int)))))<|some (IntKind.wrap .u64 (((BitVec.ofInt (IntKind.bits .u64) (IntKind.wrap .u64 (a0 * 2 ^ (min (IntKind.wrap .u64 (((BitVec.ofInt (IntKind.bits .u64) (IntKind.wrap .u64 a1)) &&& (BitVec.ofInt (IntKind.bits .u64) (63:Int))).toNat:Int)).toNat (IntKind.bits .u64))))) ||| (BitVec.ofInt (IntKind.bits .u64) (Int.fdiv a0 (2 ^ (min (IntKind.wrap .u64 ((64:Int)-(IntKind.wrap .u64 (((BitVec.ofInt (IntKind.bits .u64) (IntKind.wrap .u64 a1)) &&& (BitVec.ofInt (IntKind.bits .u64) (63:Int))).toNat:Int)))).toNat (IntKind.bits .u64)))))).toNat:Int))
theorem ZlT(a0 a1 r:Int)(hf:ZdJ a0 a1=some r):Zay Tryz.prog 372 [.one (.lit (.int .u64 a0)),.one (.lit (.int .i64 a1))] (.one (.lit (.int .u64 r))):=by
 refine Zay.of Tryz.func372 rfl rfl rfl rfl fun S0 w0=>?_;unfold ZdJ at hf;obtain⟨o1,hf⟩:=Zaw hf;obtain⟨o2,hf⟩:=Zaw hf;obtain rfl:=oi hf;exact Zak Zam 6 [rz,rz,rz] [] [] [] [] (.c o1 (.c o2 .n)) (by kernel_rfl) rfl
def Zjj:Nat→Int→(List Int)→Int→Int→Option Int|0,_,_,_,_=>none|fu+1,v5,v11,v12,v13=>bif(decide (v13<v12))then need (0≤v13∧v13<((v11.length:Nat):Int))<|(ZdJ v5 (7:Int)).bind fun x2=>(ZlR (IntKind.wrap .u64 ((v11.getD v13.toNat (0:Int))+(11400714819323198485:Int)))).bind fun x3=>(ZlR (IntKind.wrap .u64 (((BitVec.ofInt (IntKind.bits .u64) x2) ^^^ (BitVec.ofInt (IntKind.bits .u64) x3)).toNat:Int))).bind fun x4=>Zjj fu x4 v11 v12 (ZaC v13 (1:Int))else some v5
theorem ZuK(S0:Nat→Prop)(w0:ZaV):∀(fu:Nat)(v5:Int)(v11:List Int)(v12 v13 r:Int),Zjj fu v5 v11 v12 v13=some r→Good Tryz.prog 26 S0 w0 (bodyPost Tryz.prog Tryz.f334 (Post S0 w0 (.one (.lit (.int .u64 r))))) (at_ [1,1,0,1,0] (Zbo Tryz.f334)) ⟨[(5,.one (.lit (.int .u64 v5))),(11,.one (cL 1 (cI .u64) (0:Int) v11)),(12,.one (.lit (.int .i64 v12))),(13,.one (.lit (.int .i64 v13)))],[]⟩:=by
 intro fu;induction fu with
 |zero=>
  intro v5 v11 v12 v13 r hf;simp[Zjj]at hf
 |succ fu ih=>
  intro v5 v11 v12 v13 r hf;unfold Zjj at hf;rcases Zal hf with⟨h2,hf⟩|⟨h2,hf⟩
  ·obtain⟨o3,hf⟩:=Zaw hf;obtain⟨x2,q4,hf⟩:=Zae hf;obtain⟨x3,q5,hf⟩:=Zae hf;obtain⟨x4,q6,hf⟩:=Zae hf;exact ZaG Zam Post.ends 14 [rz,rz,rA [(1,.r (.one (.lit (.int .u64 x2))) []),(4,.r (.one (.lit (.int .u64 x3))) []),(6,.r (.one (.lit (.int .u64 x4))) [])],rz] [true] ⟨[],[],[],[],[],[5,11,12,13],[],[]⟩ (.c h2 (.c o3 (.c (ZlT _ _ _ q4) (.c (ZoV _ _ q5) (.c (ZoV _ _ q6) .n))))) (by kernel_rfl) (ih x4 v11 v12 (ZaC v13 (1:Int)) r hf)
  ·obtain rfl:=oi hf;exact Zak Zam 8 [rz,rz] [false] [] [] [] (.c h2 .n) (by kernel_rfl) rfl
def ZpG(a0:Int)(a1:List Int):Option Int:=(ZlR (IntKind.wrap .u64 (a0+(11400714819323198485:Int)))).bind fun x1=>Zjj ((((a1.length:Nat):Int)-(0:Int)).toNat+2) x1 a1 ((a1.length:Nat):Int) (0:Int)
theorem ZtO(a0:Int)(a1:List Int)(r:Int)(hf:ZpG a0 a1=some r):Zay Tryz.prog 334 [.one (.lit (.int .u64 a0)),.one (cL 1 (cI .u64) (0:Int) a1)] (.one (.lit (.int .u64 r))):=by
 refine Zay.of Tryz.func334 rfl rfl rfl rfl fun S0 w0=>?_;unfold ZpG at hf;obtain⟨x1,q1,hf⟩:=Zae hf;exact ZaG Zam Post.ends 8 [rz,rA [(2,.r (.one (.lit (.int .u64 x1))) [])],rz] [] ⟨[],[],[],[],[],[5,11,12,13],[],[]⟩ (.c (ZoV _ _ q1) .n) (by kernel_rfl) (ZuK S0 w0 ((((a1.length:Nat):Int)-(0:Int)).toNat+2) x1 a1 ((a1.length:Nat):Int) (0:Int) r hf)
def ZoW(a0:Int)(a1:Zai):Option Int:=bif a1.fAddr.fV6 then(ZpG a0 ([(6:Int),a1.fAddr.fHi,a1.fAddr.fLo,(IntKind.wrap .u64 a1.fBits)]:List Int)).bind fun x1=>some x1 else(ZpG a0 ([(4:Int),a1.fAddr.fHi,a1.fAddr.fLo,(IntKind.wrap .u64 a1.fBits)]:List Int)).bind fun x2=>some x2
theorem Zyh(a0:Int)(a1:Zai)(r:Int)(hf:ZoW a0 a1=some r):Zay Tryz.prog 264 [.one (.lit (.int .u64 a0)),.agg (Zai.c a1)] (.one (.lit (.int .u64 r))):=by
 refine Zay.of Tryz.func264 rfl rfl rfl rfl fun S0 w0=>?_;unfold ZoW at hf;rcases Zal hf with⟨h1,hf⟩|⟨h1,hf⟩
 ·obtain⟨x1,q2,hf⟩:=Zae hf;obtain rfl:=oi hf;exact Zak Zam 11 [rz,rz,rz,rz,⟨[(12,.r (.one (.lit (.int .u64 x1))) [])],[],[],[],[],[(11,(([(6:Int),a1.fAddr.fHi,a1.fAddr.fLo,(IntKind.wrap .u64 a1.fBits)]:List Int).length,Zar (cI .u64) (0:Int) ([(6:Int),a1.fAddr.fHi,a1.fAddr.fLo,(IntKind.wrap .u64 a1.fBits)]:List Int)))],[]⟩] [true] [] [] [] (.c h1 (.c (show ([(6:Int),a1.fAddr.fHi,a1.fAddr.fLo,(IntKind.wrap .u64 a1.fBits)]:List Int).length=4∧∀i j,i<4→j<1→Zar (cI .u64) (0:Int) ([(6:Int),a1.fAddr.fHi,a1.fAddr.fLo,(IntKind.wrap .u64 a1.fBits)]:List Int) i j=(([(6:Int),a1.fAddr.fHi,a1.fAddr.fLo,(IntKind.wrap .u64 a1.fBits)]:List Int).flatMap (cI .u64)).getD (i * 1+j) .junk from⟨rfl,fun i j hi hj=>ZaY (sz:=1) (e:=(cI .u64)) (d:=(0:Int)) (fun _=>rfl) ([(6:Int),a1.fAddr.fHi,a1.fAddr.fLo,(IntKind.wrap .u64 a1.fBits)]:List Int) i j hi hj⟩) (.c (ZtO _ _ _ q2) .n))) (by kernel_rfl) rfl
 ·obtain⟨x2,q3,hf⟩:=Zae hf;obtain rfl:=oi hf;exact Zak Zam 11 [rz,rz,rz,⟨[(12,.r (.one (.lit (.int .u64 x2))) [])],[],[],[],[],[(11,(([(4:Int),a1.fAddr.fHi,a1.fAddr.fLo,(IntKind.wrap .u64 a1.fBits)]:List Int).length,Zar (cI .u64) (0:Int) ([(4:Int),a1.fAddr.fHi,a1.fAddr.fLo,(IntKind.wrap .u64 a1.fBits)]:List Int)))],[]⟩] [false] [] [] [] (.c h1 (.c (show ([(4:Int),a1.fAddr.fHi,a1.fAddr.fLo,(IntKind.wrap .u64 a1.fBits)]:List Int).length=4∧∀i j,i<4→j<1→Zar (cI .u64) (0:Int) ([(4:Int),a1.fAddr.fHi,a1.fAddr.fLo,(IntKind.wrap .u64 a1.fBits)]:List Int) i j=(([(4:Int),a1.fAddr.fHi,a1.fAddr.fLo,(IntKind.wrap .u64 a1.fBits)]:List Int).flatMap (cI .u64)).getD (i * 1+j) .junk from⟨rfl,fun i j hi hj=>ZaY (sz:=1) (e:=(cI .u64)) (d:=(0:Int)) (fun _=>rfl) ([(4:Int),a1.fAddr.fHi,a1.fAddr.fLo,(IntKind.wrap .u64 a1.fBits)]:List Int) i j hi hj⟩) (.c (ZtO _ _ _ q3) .n))) (by kernel_rfl) rfl
def ZjO(a0:Int):Option Int:=some (if(8:Int)<(if(1:Int)>a0 then(1:Int)else a0)then(8:Int)else(if(1:Int)>a0 then(1:Int)else a0))
theorem ZsC(a0 r:Int)(hf:ZjO a0=some r):Zay Tryz.prog 265 [.one (.lit (.int .i64 a0))] (.one (.lit (.int .i64 r))):=by
 refine Zay.of Tryz.func265 rfl rfl rfl rfl fun S0 w0=>?_;unfold ZjO at hf;obtain rfl:=oi hf;exact Zak Zam 4 [rz,rz] [] [] [] [] .n (by kernel_rfl) rfl
def ZlS(a0 a1:Int):Option Int:=bif(decide (a1<(1:Int)))then some (0:Int)else bif(decide (a1>(2147483648:Int)))then some (0:Int)else some (IntKind.wrap .i64 (Int.fdiv (IntKind.wrap .u64 ((Int.fdiv a0 (2 ^ (min (32:Int).toNat (IntKind.bits .u64))))*(IntKind.wrap .u64 a1))) (2 ^ (min (32:Int).toNat (IntKind.bits .u64)))))
theorem ZuL(a0 a1 r:Int)(hf:ZlS a0 a1=some r):Zay Tryz.prog 263 [.one (.lit (.int .u64 a0)),.one (.lit (.int .i64 a1))] (.one (.lit (.int .i64 r))):=by
 refine Zay.of Tryz.func263 rfl rfl rfl rfl fun S0 w0=>?_;unfold ZlS at hf;rcases Zal hf with⟨h1,hf⟩|⟨h1,hf⟩
 ·obtain rfl:=oi hf;exact Zak Zam 8 [rz,rB [(2,true)],rz] [true] [] [] [] (.c h1 (.c (show true=true from rfl) .n)) (by kernel_rfl) rfl
 ·rcases Zal hf with⟨h2,hf⟩|⟨h2,hf⟩
  ·obtain rfl:=oi hf;exact Zak Zam 8 [rz,rB [(2,false)],rz] [true] [] [] [] (.c h1 (.c h2 .n)) (by kernel_rfl) rfl
  ·obtain rfl:=oi hf;exact Zak Zam 9 [rz,rB [(2,false)],rz] [false] [] [] [] (.c h1 (.c h2 (.c (show 0≤(32:Int)from(by decide)) (.c (show 0≤(32:Int)from(by decide)) .n)))) (by kernel_rfl) rfl
def Zjs(a0:Zag)(a1 a2:Int):Option Int:=(Zmc a0).bind fun x1=>(ZoW a1 x1).bind fun x2=>(ZjO a2).bind fun x3=>(ZlS x2 x3).bind fun x4=>some x4
theorem Zri(a0:Zag)(a1 a2 r:Int)(hf:Zjs a0 a1 a2=some r):Zay Tryz.prog 200 [.agg (Zag.c a0),.one (.lit (.int .u64 a1)),.one (.lit (.int .i64 a2))] (.one (.lit (.int .i64 r))):=by
 refine Zay.of Tryz.func200 rfl rfl rfl rfl fun S0 w0=>?_;unfold Zjs at hf;obtain⟨x1,q1,hf⟩:=Zae hf;obtain⟨x2,q2,hf⟩:=Zae hf;obtain⟨x3,q3,hf⟩:=Zae hf;obtain⟨x4,q4,hf⟩:=Zae hf;obtain rfl:=oi hf;exact Zak Zam 4 [rz,rA [(2,aG (Zai.c x1)),(3,.r (.one (.lit (.int .u64 x2))) []),(5,aI x3),(6,aI x4)]] [] [] [] [] (.c (ZuQ _ _ q1) (.c (Zyh _ _ _ q2) (.c (ZsC _ _ q3) (.c (ZuL _ _ _ q4) .n)))) (by kernel_rfl) rfl
def Zfw:Nat→Int→Int→Option Int|0,_,_=>none|fu+1,v0,v1=>bif(decide (v1>(0:Int)))then bif(decide (v0>(0:Int)))then bif(decide (v0<(1099511627776:Int)))then(Zgh (ZrN (2:Int) v0)).bind fun x2=>Zfw fu x2 (Zby v1 (1:Int))else some v0 else some v0 else some v0
theorem ZrX(S0:Nat→Prop)(w0:ZaV):∀(fu:Nat)(v0 v1 r:Int),Zfw fu v0 v1=some r→Good Tryz.prog 23 S0 w0 (bodyPost Tryz.prog Tryz.f413 (Post S0 w0 (.one (.lit (.int .i64 r))))) (at_ [1,1,0,0] (Zbo Tryz.f413)) ⟨[(0,.one (.lit (.int .i64 v0))),(1,.one (.lit (.int .i64 v1)))],[]⟩:=by
 intro fu;induction fu with
 |zero=>
  intro v0 v1 r hf;simp[Zfw]at hf
 |succ fu ih=>
  intro v0 v1 r hf;unfold Zfw at hf;rcases Zal hf with⟨h2,hf⟩|⟨h2,hf⟩
  ·rcases Zal hf with⟨h3,hf⟩|⟨h3,hf⟩
   ·rcases Zal hf with⟨h4,hf⟩|⟨h4,hf⟩
    ·obtain⟨x2,q5,hf⟩:=Zae hf;exact ZaG Zam Post.ends 12 [rB [(2,true),(6,true)],rA [(2,aI x2)],rz] [true] ⟨[],[],[],[],[],[0,1],[],[]⟩ (.c h2 (.c h3 (.c h4 (.c (Zgg _ _ q5) .n)))) (by kernel_rfl) (ih x2 (Zby v1 (1:Int)) r hf)
    ·obtain rfl:=oi hf;exact Zak Zam 8 [rB [(2,true),(6,true)],rz] [false] [] [] [] (.c h2 (.c h3 (.c h4 .n))) (by kernel_rfl) rfl
   ·obtain rfl:=oi hf;exact Zak Zam 8 [rB [(2,true),(6,false)],rz] [false] [] [] [] (.c h2 (.c h3 (.c (show false=false from rfl) .n))) (by kernel_rfl) rfl
  ·obtain rfl:=oi hf;exact Zak Zam 8 [rB [(2,false)],rz] [false] [] [] [] (.c h2 (.c (show false=false from rfl) .n)) (by kernel_rfl) rfl
def ZlQ(a0 a1:Int):Option Int:=(Zgh a0).bind fun x1=>Zfw (((1099511627776:Int)-x1).toNat+2) x1 a1
theorem ZuJ(a0 a1 r:Int)(hf:ZlQ a0 a1=some r):Zay Tryz.prog 413 [.one (.lit (.int .i64 a0)),.one (.lit (.int .i64 a1))] (.one (.lit (.int .i64 r))):=by
 refine Zay.of Tryz.func413 rfl rfl rfl rfl fun S0 w0=>?_;unfold ZlQ at hf;obtain⟨x1,q1,hf⟩:=Zae hf;exact ZaG Zam Post.ends 6 [rz,rA [(1,aI x1)]] [] ⟨[],[],[],[],[],[0,1],[],[]⟩ (.c (Zgg _ _ q1) .n) (by kernel_rfl) (ZrX S0 w0 (((1099511627776:Int)-x1).toNat+2) x1 a1 r hf)
def Zil(a0:Zax)(a1:Int):Option Int:=bif(decide (a1<(1:Int)))then some (0:Int)else(Zgh a0.fCap).bind fun x1=>(ZlQ a0.fBase (Zby a1 (1:Int))).bind fun x2=>some (if x2<x1 then x2 else x1)
theorem Zro(a0:Zax)(a1 r:Int)(hf:Zil a0 a1=some r):Zay Tryz.prog 396 [.agg (Zax.c a0),.one (.lit (.int .i64 a1))] (.one (.lit (.int .i64 r))):=by
 refine Zay.of Tryz.func396 rfl rfl rfl rfl fun S0 w0=>?_;unfold Zil at hf;rcases Zal hf with⟨h1,hf⟩|⟨h1,hf⟩
 ·obtain rfl:=oi hf;exact Zak Zam 8 [rz,rz,rz] [true] [] [] [] (.c h1 .n) (by kernel_rfl) rfl
 ·obtain⟨x1,q2,hf⟩:=Zae hf;obtain⟨x2,q3,hf⟩:=Zae hf;obtain rfl:=oi hf;exact Zak Zam 9 [rz,rz,rA [(2,aI x1),(7,aI x2)]] [false] [] [] [] (.c h1 (.c (Zgg _ _ q2) (.c (ZuJ _ _ _ q3) .n))) (by kernel_rfl) rfl
def Zng(a0 a1:Int):Option Int:=(Zgh a0).bind fun x1=>(Zgh a1).bind fun x2=>(Zgh (ZaC x1 x2)).bind fun x3=>some x3
theorem Zsq(a0 a1 r:Int)(hf:Zng a0 a1=some r):Zay Tryz.prog 294 [.one (.lit (.int .i64 a0)),.one (.lit (.int .i64 a1))] (.one (.lit (.int .i64 r))):=by
 refine Zay.of Tryz.func294 rfl rfl rfl rfl fun S0 w0=>?_;unfold Zng at hf;obtain⟨x1,q1,hf⟩:=Zae hf;obtain⟨x2,q2,hf⟩:=Zae hf;obtain⟨x3,q3,hf⟩:=Zae hf;obtain rfl:=oi hf;exact Zak Zam 4 [rz,rA [(1,aI x1),(3,aI x2),(5,aI x3)]] [] [] [] [] (.c (Zgg _ _ q1) (.c (Zgg _ _ q2) (.c (Zgg _ _ q3) .n))) (by kernel_rfl) rfl
def ZhD(a0:Zax)(a1:Int):Option Int:=bif(decide (a0.fJitter<(1:Int)))then some (0:Int)else need (a0.fJitter≠0)<|bif(decide ((Int.tmod a1 a0.fJitter)<(0:Int)))then some (ZaC (Int.tmod a1 a0.fJitter) a0.fJitter)else some (Int.tmod a1 a0.fJitter)
theorem Zqq(a0:Zax)(a1 r:Int)(hf:ZhD a0 a1=some r):Zay Tryz.prog 397 [.agg (Zax.c a0),.one (.lit (.int .i64 a1))] (.one (.lit (.int .i64 r))):=by
 refine Zay.of Tryz.func397 rfl rfl rfl rfl fun S0 w0=>?_;unfold ZhD at hf;rcases Zal hf with⟨h1,hf⟩|⟨h1,hf⟩
 ·obtain rfl:=oi hf;exact Zak Zam 8 [rz,rz,rz] [true] [] [] [] (.c h1 .n) (by kernel_rfl) rfl
 ·obtain⟨o2,hf⟩:=Zaw hf;rcases Zal hf with⟨h3,hf⟩|⟨h3,hf⟩
  ·obtain rfl:=oi hf;exact Zak Zam 16 [rz,rz,rz,rz,rz,rz] [false,true] [] [] [] (.c h1 (.c o2 (.c h3 .n))) (by kernel_rfl) rfl
  ·obtain rfl:=oi hf;exact Zak Zam 16 [rz,rz,rz,rz,rz] [false,false] [] [] [] (.c h1 (.c o2 (.c h3 .n))) (by kernel_rfl) rfl
def ZiV(a0:Zax)(a1 a2 a3:Int):Option Int:=(Zil a0 a1).bind fun x1=>(Zng a2 x1).bind fun x2=>(ZhD a0 a3).bind fun x3=>(Zng x2 x3).bind fun x4=>some x4
theorem Zsd(a0:Zax)(a1 a2 a3 r:Int)(hf:ZiV a0 a1 a2 a3=some r):Zay Tryz.prog 373 [.agg (Zax.c a0),.one (.lit (.int .i64 a1)),.one (.lit (.int .i64 a2)),.one (.lit (.int .i64 a3))] (.one (.lit (.int .i64 r))):=by
 refine Zay.of Tryz.func373 rfl rfl rfl rfl fun S0 w0=>?_;unfold ZiV at hf;obtain⟨x1,q1,hf⟩:=Zae hf;obtain⟨x2,q2,hf⟩:=Zae hf;obtain⟨x3,q3,hf⟩:=Zae hf;obtain⟨x4,q4,hf⟩:=Zae hf;obtain rfl:=oi hf;exact Zak Zam 4 [rz,rA [(3,aI x1),(4,aI x2),(7,aI x3),(8,aI x4)]] [] [] [] [] (.c (Zro _ _ _ q1) (.c (Zsq _ _ _ q2) (.c (Zqq _ _ _ q3) (.c (Zsq _ _ _ q4) .n)))) (by kernel_rfl) rfl
def Zhf(a0:Zax)(a1:Zaa)(a2 a3:Int):Option Zaa:=(ZiV a0 (ZaC (if(999:Int)<(if(0:Int)>a1.fFails then(0:Int)else a1.fFails)then(999:Int)else(if(0:Int)>a1.fFails then(0:Int)else a1.fFails)) (1:Int)) a2 a3).bind fun x1=>some (Zaa.mk a1.fEnd (1:Int) (ZaC (if(999:Int)<(if(0:Int)>a1.fFails then(0:Int)else a1.fFails)then(999:Int)else(if(0:Int)>a1.fFails then(0:Int)else a1.fFails)) (1:Int)) x1)
theorem ZoZ(a0:Zax)(a1:Zaa)(a2 a3:Int)(r:Zaa)(hf:Zhf a0 a1 a2 a3=some r):Zay Tryz.prog 335 [.agg (Zax.c a0),.agg (Zaa.c a1),.one (.lit (.int .i64 a2)),.one (.lit (.int .i64 a3))] (.agg (Zaa.c r)):=by
 refine Zay.of Tryz.func335 rfl rfl rfl rfl fun S0 w0=>?_;unfold Zhf at hf;obtain⟨x1,q1,hf⟩:=Zae hf;obtain rfl:=oi hf;exact Zak Zam 10 [rz,rz,rz,rA [(5,aI x1)],rz] [] [] [] [] (.c (Zsd _ _ _ _ _ q1) .n) (by kernel_rfl) rfl
def ZeD(a0:ZaF)(a1:Zan)(a2:List Zaa)(a3:Zaa):Option (Tout Unit):=(ZdI a0 a1 a2 a3).bind fun x1=>(match x1 with | .ret x1v x1g=>(ZhZ x1g (2:Int) (-1:Int) true).bind fun x2=>(match x2 with | .ret x2v x2g=>some (Tout.ret () x2g) | .pan x2o=>some (Tout.pan x2o) | .bad x2s=>some (Tout.bad x2s)) | .pan x1o=>some (Tout.pan x1o) | .bad x1s=>some (Tout.bad x1s))
theorem Zgj(a0:ZaF)(a1:Zan)(a2:List Zaa)(a3:Zaa)(r:(Tout Unit))(hf:ZeD a0 a1 a2 a3=some r):Zfr Tryz.prog 267 [(100000,.box (Zan.c a1))] [.agg (ZaF.c a0),.one (.ifc 112 (.ptr 100000 0)),.one (cL 7 Zaa.c Zaa.d a2),.agg (Zaa.c a3)] (oc (fun x=>.tup []) r):=by
 refine Zfr.of Tryz.func267 rfl rfl rfl rfl fun S0 w0=>?_;unfold ZeD at hf;obtain⟨x1,q1,hf⟩:=Zae hf;cases x1 with
 |ret x1v x1g=>
  dsimp only at hf
  let R1:List RA:=[rz,rH [] [(4,⟨[(100000,100000)],[],[(100000,.box (Zan.c x1g))],.tup []⟩)]]
  obtain⟨x2,q2,hf⟩:=Zae hf;cases x2 with
  |ret x2v x2g=>
   dsimp only at hf;obtain rfl:=oi hf;exact Zcp Zam 5 (R1++[rH [] [(1,⟨[(100000,100000)],[],[(100000,.box (Zan.c x2g))],.tup []⟩)]]) [] ⟨[],[],[],[],[],[],[100000],[]⟩ [100000] (.c (Zda _ _ _ _ _ q1) (.c (ZjJ _ _ _ _ _ q2) .n)) (by kernel_rfl)
  |_=>
   dsimp only at hf;obtain rfl:=oi hf;exact ZaK Zam 4 _ _ R1 [] (rz) 1 ⟨[(100000,100000)],pvOf q2⟩ (.c (Zda _ _ _ _ _ q1) (.c (ZjJ _ _ _ _ _ q2) .n)) (by kernel_rfl)
 |_=>
  dsimp only at hf;obtain rfl:=oi hf;exact ZaK Zam 3 _ _ [rz] [] (rz) 4 ⟨[(100000,100000)],pvOf q1⟩ (.c (Zda _ _ _ _ _ q1) .n) (by kernel_rfl)
def ZfD(a0:ZaF)(a1:Zan)(a2:List Zaa)(a3:Zaa)(a4:Int):Option (Tout (Zaq×Bool)):=(Zhf a0.fc a3 a0.fx.fNow a0.fx.fNum).bind fun x1=>(ZeD a0 a1 a2 x1).bind fun x2=>(match x2 with | .ret x2v x2g=>some (Tout.ret ((Zaq.mk a4 (Zaj.mk (Zag.mk false (0:Int) (0:Int)) (0:Int)) x1.fFails x1.fNext ([]:(List Zab))),false) x2g) | .pan x2o=>some (Tout.pan x2o) | .bad x2s=>some (Tout.bad x2s))
theorem Zgk(a0:ZaF)(a1:Zan)(a2:List Zaa)(a3:Zaa)(a4:Int)(r:(Tout (Zaq×Bool)))(hf:ZfD a0 a1 a2 a3 a4=some r):Zfr Tryz.prog 266 [(100000,.box (Zan.c a1))] [.agg (ZaF.c a0),.one (.ifc 112 (.ptr 100000 0)),.one (cL 7 Zaa.c Zaa.d a2),.agg (Zaa.c a3),.one (.lit (.int .i64 a4))] (oc (fun x=>.tup [(true,Zaq.c x.1),(false,cB x.2)]) r):=by
 refine Zfr.of Tryz.func266 rfl rfl rfl rfl fun S0 w0=>?_;unfold ZfD at hf;obtain⟨x1,q1,hf⟩:=Zae hf;obtain⟨x2,q2,hf⟩:=Zae hf;cases x2 with
 |ret x2v x2g=>
  dsimp only at hf;obtain rfl:=oi hf;exact Zcp Zam 8 [rz,rA [(9,aG (Zaa.c x1))],rH [] [(4,⟨[(100000,100000)],[],[(100000,.box (Zan.c x2g))],.tup []⟩)],rz] [] ⟨[],[(10,[(7,cL 10 Zab.c Zab.d [])])],[],[],[],[10,11],[10,100000],[]⟩ [100000] (.c (ZoZ _ _ _ _ _ q1) (.c (Zgj _ _ _ _ _ q2) .n)) (by kernel_rfl)
 |_=>
  dsimp only at hf;obtain rfl:=oi hf;exact ZaK Zam 5 _ _ [rz,rA [(9,aG (Zaa.c x1))]] [] (rz) 4 ⟨[(100000,100000)],pvOf q2⟩ (.c (ZoZ _ _ _ _ _ q1) (.c (Zgj _ _ _ _ _ q2) .n)) (by kernel_rfl)
def Zkw(a0:Zab)(c0:Zaj):Option Bool:=some (decide (a0.fEnd=c0))
theorem ZrU(a0:Zab)(c0:Zaj)(r:Bool)(hf:Zkw a0 c0=some r):Zay Tryz.prog 286 [.agg (Zab.c a0),.one (.rp false 4 (fun j=>(Zaj.c c0:List C).getD (0+j) .junk))] (.one (.lit (.bool r))):=by
 refine Zay.of Tryz.func286 rfl rfl rfl rfl fun S0 w0=>?_;unfold Zkw at hf;obtain rfl:=oi hf;exact Zak Zam 4 [rz,rA [(3,aB (decide (a0.fEnd=c0)))]] [] [] [] [] (.c (Ziw a0.fEnd c0 (.tmp 5) (.tmp 6)) .n) (by kernel_rfl) rfl
def ZaO(a0:List Zab)(a1_0:Zaj):Nat→Int→Int→Option Int|0,_,_=>none|fu+1,v7,v8=>bif(decide (v8<v7))then need (0≤v8∧v8<((a0.length:Nat):Int))<|(Zkw (a0.getD v8.toNat Zab.d) a1_0).bind fun x1=>bif x1 then some v8 else ZaO a0 a1_0 fu v7 (ZaC v8 (1:Int))else some (-1:Int)
theorem ZgI(S0:Nat→Prop)(w0:ZaV)(a0:List Zab)(a1_0:Zaj):∀(fu:Nat)(v7 v8 r:Int),ZaO a0 a1_0 fu v7 v8=some r→Good Tryz.prog 19 S0 w0 (bodyPost Tryz.prog Tryz.f285 (Post S0 w0 (.one (.lit (.int .i64 r))))) (at_ [1,0,1,0] (Zbo Tryz.f285)) ⟨[(0,.one (cL 10 Zab.c Zab.d a0)),(1,.one (.clo (.func 286) 0 1 (fun i=>([]:List C).getD i .junk) (fun i=>([.rp false 4 (fun j=>(Zaj.c a1_0:List C).getD (0+j) .junk)]:List C).getD i .junk))),(7,.one (.lit (.int .i64 v7))),(8,.one (.lit (.int .i64 v8)))],[]⟩:=by
 intro fu;induction fu with
 |zero=>
  intro v7 v8 r hf;simp[ZaO]at hf
 |succ fu ih=>
  intro v7 v8 r hf;unfold ZaO at hf;rcases Zal hf with⟨h1,hf⟩|⟨h1,hf⟩
  ·obtain⟨o2,hf⟩:=Zaw hf;obtain⟨x1,q3,hf⟩:=Zae hf;have O1:Obl _:=(.c h1 (.c o2 (.c (ZrU _ _ _ q3) .n)));rcases Zal hf with⟨h4,hf⟩|⟨h4,hf⟩
   ·obtain rfl:=oi hf;exact Zak Zam 15 [rz,rz,rA [(5,aB x1)],rz] [true,true] [] [] [] (O1.app (.c h4 .n)) (by kernel_rfl) rfl
   ·exact ZaG Zam Post.ends 17 [rz,rz,rA [(5,aB x1)],rz] [true,false] ⟨[],[],[],[],[],[0,1,7,8],[],[]⟩ (O1.app (.c h4 .n)) (by kernel_rfl) (ih v7 (ZaC v8 (1:Int)) r hf)
  ·obtain rfl:=oi hf;exact Zak Zam 8 [rz,rz] [false] [] [] [] (.c h1 .n) (by kernel_rfl) rfl
def Zch(a0:List Zab)(a1_0:Zaj):Option Int:=ZaO a0 a1_0 ((((a0.length:Nat):Int)-(0:Int)).toNat+2) ((a0.length:Nat):Int) (0:Int)
theorem Zhk(a0:List Zab)(a1_0:Zaj)(r:Int)(hf:Zch a0 a1_0=some r):Zay Tryz.prog 285 [.one (cL 10 Zab.c Zab.d a0),.one (.clo (.func 286) 0 1 (fun i=>([]:List C).getD i .junk) (fun i=>([.rp false 4 (fun j=>(Zaj.c a1_0:List C).getD (0+j) .junk)]:List C).getD i .junk))] (.one (.lit (.int .i64 r))):=by
 refine Zay.of Tryz.func285 rfl rfl rfl rfl fun S0 w0=>?_;unfold Zch at hf;exact ZaG Zam Post.ends 6 [rz,rz] [] ⟨[],[],[],[],[],[0,1,7,8],[],[]⟩ .n (by kernel_rfl) (ZgI S0 w0 a0 a1_0 ((((a0.length:Nat):Int)-(0:Int)).toNat+2) ((a0.length:Nat):Int) (0:Int) r hf)
def Zjr(a0:List Zab)(a1:Zaj):Option Int:=(Zch a0 a1).bind fun x1=>some x1
theorem ZtN(a0:List Zab)(a1:Zaj)(r:Int)(hf:Zjr a0 a1=some r):Zay Tryz.prog 219 [.one (cL 10 Zab.c Zab.d a0),.agg (Zaj.c a1)] (.one (.lit (.int .i64 r))):=by
 refine Zay.of Tryz.func219 rfl rfl rfl rfl fun S0 w0=>?_;unfold Zjr at hf;obtain⟨x1,q1,hf⟩:=Zae hf;obtain rfl:=oi hf;exact Zak Zam 4 [rz,⟨[(2,aI x1)],[],[(1,[3])],[],[],[],[]⟩] [] [] [] [] (.c (Zhk _ _ _ q1) .n) (by kernel_rfl) rfl
def ZkP(a0:Zaa):Option Zaa:=some (Zaa.mk a0.fEnd (1:Int) a0.fFails a0.fNext)
theorem ZtT(a0 r:Zaa)(hf:ZkP a0=some r):Zay Tryz.prog 268 [.agg (Zaa.c a0)] (.agg (Zaa.c r)):=by
 refine Zay.of Tryz.func268 rfl rfl rfl rfl fun S0 w0=>?_;unfold ZkP at hf;obtain rfl:=oi hf;exact Zak Zam 6 [rz,rz,rz] [] [] [] [] .n (by kernel_rfl) rfl
def ZkO(a0:Zaa):Option Zaa:=some (Zaa.mk a0.fEnd (3:Int) (0:Int) a0.fNext)
theorem ZtS(a0 r:Zaa)(hf:ZkO a0=some r):Zay Tryz.prog 269 [.agg (Zaa.c a0)] (.agg (Zaa.c r)):=by
 refine Zay.of Tryz.func269 rfl rfl rfl rfl fun S0 w0=>?_;unfold ZkO at hf;obtain rfl:=oi hf;exact Zak Zam 6 [rz,rz,rz] [] [] [] [] .n (by kernel_rfl) rfl
def Zce(a0:List Zab):Option (List Zab):=need (0<a0.length)<|need ((([]:List Zab)++a0).length * 80≤140737488355328∧(([]:List Zab)++a0).length≤maxLen)<|some (([]:List Zab)++a0)
theorem Zfg(a0 r:List Zab)(hf:Zce a0=some r):Zdo Tryz.prog 270 [] [.one (cL 10 Zab.c Zab.d a0)] [(99999,.rows 44 10 r.length (Zar Zab.c Zab.d r))] (.one (.osl 99999 r.length)):=by
 refine Zdo.of Tryz.func270 rfl rfl rfl rfl fun S0 w0=>?_;unfold Zce at hf;obtain⟨o1,hf⟩:=Zaw hf;obtain⟨o2,hf⟩:=Zaw hf;obtain rfl:=oi hf;exact ZbO Zam 9 [rz,rz,rA [(0,.c ([]:List Zab).length (Zar Zab.c Zab.d ([]:List Zab))),(2,.c ((([]:List Zab)++a0).length) (Zar Zab.c Zab.d (([]:List Zab)++a0)))]] [false] ⟨[],[],[],[],[],[2],[7],[(7,99999)]⟩ (.c o1 (.c (show false=false from rfl) (.c (show ([]:List Zab).length=0 from rfl) (.c (show ∀i j,i<0→j<10→Zar Zab.c Zab.d ([]:List Zab) i j=(([]:List Zab).flatMap Zab.c).getD (i * 10+j) .junk from(fun i j hi hj=>ZaY (sz:=10) (e:=Zab.c) (d:=Zab.d) (fun _=>rfl) ([]:List Zab) i j hi hj)) (.c (Zep (sz:=10) (e:=Zab.c) (d:=Zab.d) ([]:List Zab) a0) (.c o2.1 (.c o2.2 .n))))))) (by kernel_rfl)
theorem ZfC(x:Addr)(cap:Nat)(c:Nat→Nat→C):Zdo Tryz.prog 270 [] [.one (.lit (.slice (some x) 0 cap))] [(99999,.rows 44 10 0 c)] (.one (.osl 99999 0)):=by
 refine Zdo.of Tryz.func270 rfl rfl rfl rfl fun S0 w0=>?_;exact Zje Zam 9 _ _ [⟨[],[],[],[],[],[],[]⟩,⟨[(1,.r (.one (.lit (.bool false))) [])],[],[],[],[],[],[]⟩,⟨[(0,.c 0 c),(2,.c 0 c)],[],[],[],[],[],[]⟩] [false] ⟨[],[],[],[],[],[2],[7],[(7,99999)]⟩
  [∀w,(do eqGuard .eql 54 (.tmp 3) (.const (.slice none 0 0)) (.slice (some x) 0 cap) (.slice none 0 0);binOp .eql 54 (.slice (some x) 0 cap) (.slice none 0 0):Sem Value).run Tryz.prog w=.ok (.bool false) w,false=false,0=0,∀i j,i<0→j<10→c i j=([]:List C).getD (i * 10+j) .junk,Ext 10 0 0 c (fun _ _=>.junk) 0 c,0 * 80≤140737488355328,0≤maxLen] (by kernel_rfl) ⟨fun w=>by
   have hg:(eqGuard .eql 54 (.tmp 3) (.const (.slice none 0 0)) (.slice (some x) 0 cap) (.slice none 0 0)).run Tryz.prog w=.ok () w:=by simp[eqGuard]
   rw[Sem.run_bind,hg,Result.andThen_ok];exact Go.run_eql_slice_nil w _ _ (some x) 0 cap Tryz.underlying54,rfl,rfl,fun i j h=>absurd h (Nat.not_lt_zero i),⟨rfl,fun _ _ h=>absurd h (Nat.not_lt_zero _),fun _ _ h=>absurd h (Nat.not_lt_zero _)⟩,by decide,by decide,trivial⟩
theorem ZfB(cap:Nat)(c:Nat→Nat→C):Zdo Tryz.prog 270 [] [.one (.lit (.slice none 0 cap))] [(99999,.rows 44 10 0 c)] (.one (.osl 99999 0)):=by
 refine Zdo.of Tryz.func270 rfl rfl rfl rfl fun S0 w0=>?_;exact Zje Zam 8 _ _ [⟨[],[],[],[],[],[],[]⟩,⟨[(1,.r (.one (.lit (.bool true))) [])],[],[],[],[],[],[]⟩,⟨[],[],[],[],[],[],[]⟩] [true] ⟨[],[],[],[],[(2,99999,44,10,c)],[2],[99999],[]⟩
  [∀w,(do eqGuard .eql 54 (.tmp 3) (.const (.slice none 0 0)) (.slice none 0 cap) (.slice none 0 0);binOp .eql 54 (.slice none 0 cap) (.slice none 0 0):Sem Value).run Tryz.prog w=.ok (.bool true) w,true=true] (by kernel_rfl) ⟨fun w=>by
   have hg:(eqGuard .eql 54 (.tmp 3) (.const (.slice none 0 0)) (.slice none 0 cap) (.slice none 0 0)).run Tryz.prog w=.ok () w:=by simp[eqGuard]
   rw[Sem.run_bind,hg,Result.andThen_ok];exact Go.run_eql_slice_nil w _ _ none 0 cap Tryz.underlying54,rfl,trivial⟩
def Zbm(a0:List Zab):Option (List Zab):=need (a0.length * 80≤140737488355328∧a0.length≤maxLen)<|some a0
theorem ZfA(a0 r:List Zab)(hf:Zbm a0=some r):Zdo Tryz.prog 270 [] [.one (cL 10 Zab.c Zab.d a0)] [(99999,.rows 44 10 r.length (Zar Zab.c Zab.d r))] (.one (.osl 99999 r.length)):=by
 obtain⟨o1,hf⟩:=Zaw hf;cases hf;refine ZqA ⟨_,Tryz.func270,rfl,rfl⟩ (fun h cap=>?_) (fun h x cap=>?_) (fun h=>?_)
 ·rw[h];exact ZfB cap _
 ·rw[h];exact ZfC x cap _
 ·refine Zfg a0 a0 ?_;unfold Zce;rw[ZpC h,ZpC (by simpa using o1)];simp
def ZlA(a0:Zaj)(a1:Bool)(a2:Int):Option Zab:=(Zgh a2).bind fun x1=>some (Zab.mk a0 a1 x1 (Zat.mk (0:Int) x1) (0:Int) (0:Int))
theorem ZwG(a0:Zaj)(a1:Bool)(a2:Int)(r:Zab)(hf:ZlA a0 a1 a2=some r):Zay Tryz.prog 271 [.agg (Zaj.c a0),.one (.lit (.bool a1)),.one (.lit (.int .i64 a2))] (.agg (Zab.c r)):=by
 refine Zay.of Tryz.func271 rfl rfl rfl rfl fun S0 w0=>?_;unfold ZlA at hf;obtain⟨x1,q1,hf⟩:=Zae hf;obtain rfl:=oi hf;exact Zak Zam 6 [rz,rA [(1,aI x1)],rz] [] [] [] [] (.c (Zgg _ _ q1) .n) (by kernel_rfl) rfl
def ZbT(a0:List Zab):Nat→(List Zab)→Int→Int→(List Int)→Option (List Int)|0,_,_,_,_=>none|fu+1,v8,v9,v10,w5=>bif(decide (v10<v9))then need (0≤v10∧v10<((v8.length:Nat):Int))<|bif(decide (v10≥((a0.length:Nat):Int)))then need ((w5++([v10]:List Int)).length * 8≤140737488355328∧(w5++([v10]:List Int)).length≤maxLen)<|ZbT a0 fu v8 v9 (ZaC v10 (1:Int)) (w5++([v10]:List Int))else need (0≤v10∧v10<((a0.length:Nat):Int))<|bif(!(decide ((a0.getD v10.toNat Zab.d)=(v8.getD v10.toNat Zab.d))))then need ((w5++([v10]:List Int)).length * 8≤140737488355328∧(w5++([v10]:List Int)).length≤maxLen)<|ZbT a0 fu v8 v9 (ZaC v10 (1:Int)) (w5++([v10]:List Int))else ZbT a0 fu v8 v9 (ZaC v10 (1:Int)) w5 else some w5
theorem ZpS(S0:Nat→Prop)(w0:ZaV)(a0:List Zab):∀(fu:Nat)(v8:List Zab)(v9 v10:Int)(w5 r:List Int),ZbT a0 fu v8 v9 v10 w5=some r→Good Tryz.prog 33 S0 w0 (bodyPost Tryz.prog Tryz.f287 (Zcf S0 w0 [(99999,.rows 3 1 r.length (Zar (cI .i64) (0:Int) r))] (.one (.osl 99999 r.length)))) (at_ [1,1,0,1,0] (Zbo Tryz.f287)) ⟨[(0,.one (cL 10 Zab.c Zab.d a0)),(5,.one (.osl 5 w5.length)),(8,.one (cL 10 Zab.c Zab.d v8)),(9,.one (.lit (.int .i64 v9))),(10,.one (.lit (.int .i64 v10)))],[(5,.rows 3 1 w5.length (Zar (cI .i64) (0:Int) w5))]⟩:=by
 intro fu;induction fu with
 |zero=>
  intro v8 v9 v10 w5 r hf;simp[ZbT]at hf
 |succ fu ih=>
  intro v8 v9 v10 w5 r hf;unfold ZbT at hf;rcases Zal hf with⟨h1,hf⟩|⟨h1,hf⟩
  ·obtain⟨o2,hf⟩:=Zaw hf;rcases Zal hf with⟨h3,hf⟩|⟨h3,hf⟩
   ·obtain⟨o4,hf⟩:=Zaw hf;exact ZaG Zam Zcf.ends 17 [rz,rz,rB [(4,true)],⟨[(3,.c ((w5++([v10]:List Int)).length) (Zar (cI .i64) (0:Int) (w5++([v10]:List Int))))],[],[],[],[],[(2,(([v10]:List Int).length,Zar (cI .i64) (0:Int) ([v10]:List Int)))],[]⟩,rz] [true,true] ⟨[],[],[],[],[],[0,5,8,9,10],[30],[(30,5)]⟩ (.c h1 (.c o2 (.c h3 (.c (show true=true from rfl) (.c (show ([v10]:List Int).length=1∧∀i j,i<1→j<1→Zar (cI .i64) (0:Int) ([v10]:List Int) i j=(([v10]:List Int).flatMap (cI .i64)).getD (i * 1+j) .junk from⟨rfl,fun i j hi hj=>ZaY (sz:=1) (e:=(cI .i64)) (d:=(0:Int)) (fun _=>rfl) ([v10]:List Int) i j hi hj⟩) (.c (Zep (sz:=1) (e:=(cI .i64)) (d:=(0:Int)) w5 ([v10]:List Int)) (.c o4.1 (.c o4.2 .n)))))))) (by kernel_rfl) (ih v8 v9 (ZaC v10 (1:Int)) (w5++([v10]:List Int)) r hf)
   ·obtain⟨o5,hf⟩:=Zaw hf
    let R1:List RA:=[rz,rz,⟨[(10,aB (!(decide ((a0.getD v10.toNat Zab.d)=(v8.getD v10.toNat Zab.d)))))],[(4,false)],[],[],[],[],[]⟩]
    have O2:Obl _:=(.c h1 (.c o2 (.c h3 (.c o5 (.c (ZmF (a0.getD v10.toNat Zab.d) (v8.getD v10.toNat Zab.d) (.tmp 23) (.tmp 24)) .n)))));rcases Zal hf with⟨h6,hf⟩|⟨h6,hf⟩
    ·obtain⟨o7,hf⟩:=Zaw hf;exact ZaG Zam Zcf.ends 17 (R1++[⟨[(3,.c ((w5++([v10]:List Int)).length) (Zar (cI .i64) (0:Int) (w5++([v10]:List Int))))],[],[],[],[],[(2,(([v10]:List Int).length,Zar (cI .i64) (0:Int) ([v10]:List Int)))],[]⟩,rz]) [true,true] ⟨[],[],[],[],[],[0,5,8,9,10],[30],[(30,5)]⟩ (O2.app (.c h6 (.c (show ([v10]:List Int).length=1∧∀i j,i<1→j<1→Zar (cI .i64) (0:Int) ([v10]:List Int) i j=(([v10]:List Int).flatMap (cI .i64)).getD (i * 1+j) .junk from⟨rfl,fun i j hi hj=>ZaY (sz:=1) (e:=(cI .i64)) (d:=(0:Int)) (fun _=>rfl) ([v10]:List Int) i j hi hj⟩) (.c (Zep (sz:=1) (e:=(cI .i64)) (d:=(0:Int)) w5 ([v10]:List Int)) (.c o7.1 (.c o7.2 .n)))))) (by kernel_rfl) (ih v8 v9 (ZaC v10 (1:Int)) (w5++([v10]:List Int)) r hf)
    ·exact ZaG Zam Zcf.ends 17 (R1++[rz]) [true,false] ⟨[],[],[],[],[],[0,5,8,9,10],[5],[]⟩ (O2.app (.c h6 .n)) (by kernel_rfl) (ih v8 v9 (ZaC v10 (1:Int)) w5 r hf)
  ·obtain rfl:=oi hf;exact ZbO Zam 8 [rz,rz] [false] ⟨[],[],[],[],[],[4],[5],[(5,99999)]⟩ (.c h1 .n) (by kernel_rfl)
def ZhH(a0 a1:List Zab):Option (List Int):=ZbT a0 ((((a1.length:Nat):Int)-(0:Int)).toNat+2) a1 ((a1.length:Nat):Int) (0:Int) ([])
theorem Zrh(a0 a1:List Zab)(r:List Int)(hf:ZhH a0 a1=some r):Zdo Tryz.prog 287 [] [.one (cL 10 Zab.c Zab.d a0),.one (cL 10 Zab.c Zab.d a1)] [(99999,.rows 3 1 r.length (Zar (cI .i64) (0:Int) r))] (.one (.osl 99999 r.length)):=by
 refine Zdo.of Tryz.func287 rfl rfl rfl rfl fun S0 w0=>?_;unfold ZhH at hf;exact ZaG Zam Zcf.ends 8 [rz,rz,rz] [] ⟨[],[],[],[],[(5,5,3,1,Zar (cI .i64) (0:Int) [])],[0,5,8,9,10],[5],[]⟩ .n (by kernel_rfl) (ZpS S0 w0 a0 ((((a1.length:Nat):Int)-(0:Int)).toNat+2) a1 ((a1.length:Nat):Int) (0:Int) ([]) r hf)
theorem ZrW(a0 a1:List Zab)(r:List Int)(hf:ZhH a0 a1=some r):Zay Tryz.prog 287 [.one (cL 10 Zab.c Zab.d a0),.one (cL 10 Zab.c Zab.d a1)] (.one (cL 1 (cI .i64) (0:Int) r)):=(Zrh a0 a1 r hf).pure
def ZcZ(a1:Int)(a2 a3:List Zab):Nat→(List Int)→Int→Int→Zan→Option (Tout Unit)|0,_,_,_,_=>none|fu+1,v12,v13,v14,b100000=>bif(decide (v14<v13))then need (0≤v14∧v14<((v12.length:Nat):Int))<|(ZhW a1 (v12.getD v14.toNat (0:Int))).bind fun x2=>need (0≤(v12.getD v14.toNat (0:Int))∧(v12.getD v14.toNat (0:Int))<((a3.length:Nat):Int))<|(Zcx b100000 x2 (Zad.mk (0:Int) (a3.getD (v12.getD v14.toNat (0:Int)).toNat Zab.d) ([]:(List Zah)) ([]:(List Zaa))) false).bind fun x3=>(match x3 with | .ret x3v x3g=>ZcZ a1 a2 a3 fu v12 v13 (ZaC v14 (1:Int)) x3g | .pan x3o=>some (Tout.pan x3o) | .bad x3s=>some (Tout.bad x3s))else bif(((a2.length:Nat):Int) != ((a3.length:Nat):Int))then(ZhX a1).bind fun x4=>(Zcx b100000 x4 (Zad.mk ((a3.length:Nat):Int) (Zab.mk (Zaj.mk (Zag.mk false (0:Int) (0:Int)) (0:Int)) false (0:Int) (Zat.mk (0:Int) (0:Int)) (0:Int) (0:Int)) ([]:(List Zah)) ([]:(List Zaa))) false).bind fun x5=>(match x5 with | .ret x5v x5g=>some (Tout.ret () x5g) | .pan x5o=>some (Tout.pan x5o) | .bad x5s=>some (Tout.bad x5s))else some (Tout.ret () b100000)
theorem ZqZ(S0:Nat→Prop)(w0:ZaV)(a1:Int)(a2 a3:List Zab):∀(fu:Nat)(v12:List Int)(v13 v14:Int)(b100000:Zan)(r:(Tout Unit)),ZcZ a1 a2 a3 fu v12 v13 v14 b100000=some r→Good Tryz.prog 47 S0 w0 (bodyPost Tryz.prog Tryz.f220 (Zms S0 w0 (oc (fun x=>.tup []) r))) (at_ [0,1,0] (Zbo Tryz.f220)) ⟨[(0,.one (.ifc 112 (.ptr 100000 0))),(1,.one (.lit (.int .i64 a1))),(2,.one (cL 10 Zab.c Zab.d a2)),(3,.one (cL 10 Zab.c Zab.d a3)),(12,.one (cL 1 (cI .i64) (0:Int) v12)),(13,.one (.lit (.int .i64 v13))),(14,.one (.lit (.int .i64 v14)))],[(100000,.box [cL 13 Zad.c Zad.d b100000.fgot])]⟩:=by
 intro fu;induction fu with
 |zero=>
  intro v12 v13 v14 b100000 r hf;simp[ZcZ]at hf
 |succ fu ih=>
  intro v12 v13 v14 b100000 r hf;unfold ZcZ at hf;rcases Zal hf with⟨h2,hf⟩|⟨h2,hf⟩
  ·obtain⟨o3,hf⟩:=Zaw hf;obtain⟨x2,q4,hf⟩:=Zae hf;obtain⟨o5,hf⟩:=Zaw hf;have O1:Obl _:=(.c h2 (.c o3 (.c (Zqe _ _ _ q4) (.c o5 (.c ZnL .n)))));obtain⟨x3,q6,hf⟩:=Zae hf;cases x3 with
   |ret x3v x3g=>
    dsimp only at hf;exact ZaG Zam Zms.ends 14 [rz,rz,⟨[(3,aG (Zap.c x2)),(12,.id 467)],[],[],[],[(8,[(11,cL 5 Zah.c Zah.d []),(12,cL 7 Zaa.c Zaa.d [])])],[],[(12,⟨[(100000,100000)],[],[(100000,.box (Zan.c x3g))],.tup []⟩)]⟩,rz] [true] ⟨[],[],[],[],[],[0,1,2,3,12,13,14],[100000],[]⟩ (O1.app (.c (ZcC _ _ _ _ _ q6) (.c Zjo .n))) (by kernel_rfl) (ih v12 v13 (ZaC v14 (1:Int)) x3g r hf)
   |_=>
    dsimp only at hf;obtain rfl:=oi hf;exact ZaK Zam 10 _ _ [rz,rz] [true] (⟨[(3,aG (Zap.c x2)),(12,.id 467)],[],[],[],[(8,[(11,cL 5 Zah.c Zah.d []),(12,cL 7 Zaa.c Zaa.d [])])],[],[]⟩) 12 ⟨[(100000,100000)],pvOf q6⟩ (O1.app (.c (ZcC _ _ _ _ _ q6) (.c Zjo .n))) (by kernel_rfl)
  ·rcases Zal hf with⟨h7,hf⟩|⟨h7,hf⟩
   ·obtain⟨x4,q8,hf⟩:=Zae hf;have O2:Obl _:=(.c h2 (.c h7 (.c (Zqf _ _ q8) (.c ZnL .n))));obtain⟨x5,q9,hf⟩:=Zae hf;cases x5 with
    |ret x5v x5g=>
     dsimp only at hf;obtain rfl:=oi hf;exact Zcp Zam 10 [rz,rz,⟨[(2,aG (Zap.c x4)),(9,.id 467)],[],[],[],[(5,[(11,cL 5 Zah.c Zah.d []),(12,cL 7 Zaa.c Zaa.d [])])],[],[(9,⟨[(100000,100000)],[],[(100000,.box (Zan.c x5g))],.tup []⟩)]⟩] [false,true] ⟨[],[],[],[],[],[],[100000],[]⟩ [100000] (O2.app (.c (ZcC _ _ _ _ _ q9) (.c Zjo .n))) (by kernel_rfl)
    |_=>
     dsimp only at hf;obtain rfl:=oi hf;exact ZaK Zam 9 _ _ [rz,rz] [false,true] (⟨[(2,aG (Zap.c x4)),(9,.id 467)],[],[],[],[(5,[(11,cL 5 Zah.c Zah.d []),(12,cL 7 Zaa.c Zaa.d [])])],[],[]⟩) 9 ⟨[(100000,100000)],pvOf q9⟩ (O2.app (.c (ZcC _ _ _ _ _ q9) (.c Zjo .n))) (by kernel_rfl)
   ·obtain rfl:=oi hf;exact Zcp Zam 10 [rz,rz] [false,false] ⟨[],[],[],[],[],[],[100000],[]⟩ [100000] (.c h2 (.c h7 .n)) (by kernel_rfl)
def Zhe(a0:Zan)(a1:Int)(a2 a3:List Zab):Option (Tout Unit):=(ZhH a2 a3).bind fun x1=>ZcZ a1 a2 a3 ((((x1.length:Nat):Int)-(0:Int)).toNat+2) x1 ((x1.length:Nat):Int) (0:Int) a0
theorem Zol(a0:Zan)(a1:Int)(a2 a3:List Zab)(r:(Tout Unit))(hf:Zhe a0 a1 a2 a3=some r):Zfr Tryz.prog 220 [(100000,.box (Zan.c a0))] [.one (.ifc 112 (.ptr 100000 0)),.one (.lit (.int .i64 a1)),.one (cL 10 Zab.c Zab.d a2),.one (cL 10 Zab.c Zab.d a3)] (oc (fun x=>.tup []) r):=by
 refine Zfr.of Tryz.func220 rfl rfl rfl rfl fun S0 w0=>?_;unfold Zhe at hf;obtain⟨x1,q1,hf⟩:=Zae hf;exact ZaG Zam Zms.ends 4 [rA [(2,.r (.one (cL 1 (cI .i64) (0:Int) x1)) [])]] [] ⟨[],[],[],[],[],[0,1,2,3,12,13,14],[100000],[]⟩ (.c (ZrW _ _ _ q1) .n) (by kernel_rfl) (ZqZ S0 w0 a1 a2 a3 ((((x1.length:Nat):Int)-(0:Int)).toNat+2) x1 ((x1.length:Nat):Int) (0:Int) a0 r hf)
def ZhA(a0:ZaF)(a1:Zan)(a2:Int):Option (Tout (Zaq×Bool)):=(ZiQ).bind fun x1=>(ZbU a1 x1 false).bind fun x2=>(match x2 with | .ret x2v x2g=>(Zik x2v.fBook a0.fx.fEnd).bind fun x3=>bif(decide (x3<(0:Int)))then(ZdN (6:Int)).bind fun x4=>some (Tout.ret (x4,true) x2g)else need (0≤x3∧x3<((x2v.fBook.length:Nat):Int))<|bif((x2v.fBook.getD x3.toNat Zaa.d).fState != (2:Int))then(ZdN (6:Int)).bind fun x5=>some (Tout.ret (x5,true) x2g)else bif(!a0.fx.fGood)then(ZfD a0 x2g x2v.fBook (x2v.fBook.getD x3.toNat Zaa.d) (0:Int)).bind fun x6=>(match x6 with | .ret x6v x6g=>some (Tout.ret (x6v.1,x6v.2) x6g) | .pan x6o=>some (Tout.pan x6o) | .bad x6s=>some (Tout.bad x6s))else(ZbU x2g (Zap.mk (3:Int) (0:Int) (0:Int)) false).bind fun x7=>(match x7 with | .ret x7v x7g=>(Zhh x7v.fBans a0.fx.fEnd.fAddr a0.fx.fNow).bind fun x8=>bif(decide (x8>(0:Int)))then(ZfD a0 x7g x2v.fBook (x2v.fBook.getD x3.toNat Zaa.d) (8:Int)).bind fun x9=>(match x9 with | .ret x9v x9g=>some (Tout.ret (x9v.1,x9v.2) x9g) | .pan x9o=>some (Tout.pan x9o) | .bad x9s=>some (Tout.bad x9s))else(Zhj x7g a2).bind fun x10=>(match x10 with | .ret x10v x10g=>(Zjr x10v a0.fx.fEnd).bind fun x11=>bif(decide (x11≥(0:Int)))then(ZkP (x2v.fBook.getD x3.toNat Zaa.d)).bind fun x12=>(ZeD a0 x10g x2v.fBook x12).bind fun x13=>(match x13 with | .ret x13v x13g=>(ZdN (7:Int)).bind fun x14=>some (Tout.ret (x14,false) x13g) | .pan x13o=>some (Tout.pan x13o) | .bad x13s=>some (Tout.bad x13s))else(ZkO (x2v.fBook.getD x3.toNat Zaa.d)).bind fun x15=>(ZdI a0 x10g x2v.fBook x15).bind fun x16=>(match x16 with | .ret x16v x16g=>(Zbm x10v).bind fun x17=>(ZlA a0.fx.fEnd false a0.fx.fNow).bind fun x18=>need ((x17++([x18]:List Zab)).length * 80≤140737488355328∧(x17++([x18]:List Zab)).length≤maxLen)<|(Zhe x16g a2 x10v (x17++([x18]:List Zab))).bind fun x19=>(match x19 with | .ret x19v x19g=>some (Tout.ret ((Zaq.mk (0:Int) (Zaj.mk (Zag.mk false (0:Int) (0:Int)) (0:Int)) (0:Int) (0:Int) ([]:(List Zab))),true) x19g) | .pan x19o=>some (Tout.pan x19o) | .bad x19s=>some (Tout.bad x19s)) | .pan x16o=>some (Tout.pan x16o) | .bad x16s=>some (Tout.bad x16s)) | .pan x10o=>some (Tout.pan x10o) | .bad x10s=>some (Tout.bad x10s)) | .pan x7o=>some (Tout.pan x7o) | .bad x7s=>some (Tout.bad x7s)) | .pan x2o=>some (Tout.pan x2o) | .bad x2s=>some (Tout.bad x2s))
theorem ZiF(a0:ZaF)(a1:Zan)(a2:Int)(r:(Tout (Zaq×Bool)))(hf:ZhA a0 a1 a2=some r):Zfr Tryz.prog 201 [(100000,.box (Zan.c a1))] [.agg (ZaF.c a0),.one (.ifc 112 (.ptr 100000 0)),.one (.lit (.int .i64 a2))] (oc (fun x=>.tup [(true,Zaq.c x.1),(false,cB x.2)]) r):=by
 refine Zfr.of Tryz.func201 rfl rfl rfl rfl fun S0 w0=>?_;unfold ZhA at hf;obtain⟨x1,q1,hf⟩:=Zae hf;obtain⟨x2,q2,hf⟩:=Zae hf;cases x2 with
 |ret x2v x2g=>
  dsimp only at hf;obtain⟨x3,q3,hf⟩:=Zae hf
  let R1:List RA:=[rz,rH [(1,aG (Zap.c x1)),(5,.id 463)] [(5,⟨[(100000,100000)],[],[(100000,.box (Zan.c x2g))],.agg (Zad.c x2v)⟩)],rA [(4,aI x3)]]
  have O2:Obl _:=(.c (Zjt _ q1) (.c Zkr (.c (ZaQ _ _ _ _ q2) (.c Zet (.c (Zkz _ _ _ q3) .n)))));rcases Zal hf with⟨h4,hf⟩|⟨h4,hf⟩
  ·obtain⟨x4,q5,hf⟩:=Zae hf;obtain rfl:=oi hf;exact Zcp Zam 13 (R1++[rB [(2,true)],rA [(0,aG (Zaq.c x4))]]) [true] ⟨[],[],[],[],[],[6,7],[6,100000],[]⟩ [100000] (O2.app (.c h4 (.c (show true=true from rfl) (.c (ZeC _ _ q5) .n)))) (by kernel_rfl)
  ·obtain⟨o6,hf⟩:=Zaw hf;rcases Zal hf with⟨h7,hf⟩|⟨h7,hf⟩
   ·obtain⟨x5,q8,hf⟩:=Zae hf;obtain rfl:=oi hf;exact Zcp Zam 13 (R1++[rB [(2,false)],rA [(0,aG (Zaq.c x5))]]) [true] ⟨[],[],[],[],[],[6,7],[6,100000],[]⟩ [100000] (O2.app (.c h4 (.c o6 (.c h7 (.c (ZeC _ _ q8) .n))))) (by kernel_rfl)
   ·rcases Zal hf with⟨h9,hf⟩|⟨h9,hf⟩
    ·obtain⟨x6,q10,hf⟩:=Zae hf;cases x6 with
     |ret x6v x6g=>
      dsimp only at hf;obtain rfl:=oi hf;exact Zcp Zam 16 (R1++[rB [(2,false)],rz,rH [] [(7,⟨[(100000,100000)],[],[(100000,.box (Zan.c x6g))],.tup [(true,Zaq.c x6v.1),(false,cB x6v.2)]⟩)]]) [false,true] ⟨[],[],[],[],[],[6,7],[6,100000],[]⟩ [100000] (O2.app (.c h4 (.c o6 (.c h7 (.c h9 (.c o6 (.c (Zgk _ _ _ _ _ _ q10) .n))))))) (by kernel_rfl)
     |_=>
      dsimp only at hf;obtain rfl:=oi hf;exact ZaK Zam 15 _ _ (R1++[rB [(2,false)],rz]) [false,true] (rz) 7 ⟨[(100000,100000)],pvOf q10⟩ (O2.app (.c h4 (.c o6 (.c h7 (.c h9 (.c o6 (.c (Zgk _ _ _ _ _ _ q10) .n))))))) (by kernel_rfl)
    ·obtain⟨x7,q11,hf⟩:=Zae hf;cases x7 with
     |ret x7v x7g=>
      dsimp only at hf;obtain⟨x8,q12,hf⟩:=Zae hf
      let R3:List RA:=(R1++[rB [(2,false)],rz,rH [(2,.id 463),(11,aI x8)] [(2,⟨[(100000,100000)],[],[(100000,.box (Zan.c x7g))],.agg (Zad.c x7v)⟩)]])
      have O4:Obl _:=(O2.app (.c h4 (.c o6 (.c h7 (.c h9 (.c (ZaQ _ _ _ _ q11) (.c Zet (.c (Zpm _ _ _ _ q12) .n))))))));rcases Zal hf with⟨h13,hf⟩|⟨h13,hf⟩
      ·obtain⟨x9,q14,hf⟩:=Zae hf;cases x9 with
       |ret x9v x9g=>
        dsimp only at hf;obtain rfl:=oi hf;exact Zcp Zam 19 (R3++[rH [] [(7,⟨[(100000,100000)],[],[(100000,.box (Zan.c x9g))],.tup [(true,Zaq.c x9v.1),(false,cB x9v.2)]⟩)]]) [false,false,true] ⟨[],[],[],[],[],[6,7],[6,100000],[]⟩ [100000] (O4.app (.c h13 (.c o6 (.c (Zgk _ _ _ _ _ _ q14) .n)))) (by kernel_rfl)
       |_=>
        dsimp only at hf;obtain rfl:=oi hf;exact ZaK Zam 18 _ _ R3 [false,false,true] (rz) 7 ⟨[(100000,100000)],pvOf q14⟩ (O4.app (.c h13 (.c o6 (.c (Zgk _ _ _ _ _ _ q14) .n)))) (by kernel_rfl)
      ·obtain⟨x10,q15,hf⟩:=Zae hf;cases x10 with
       |ret x10v x10g=>
        dsimp only at hf;obtain⟨x11,q16,hf⟩:=Zae hf
        let R5:List RA:=(R3++[rH [] [(2,⟨[(100000,100000)],[],[(100000,.box (Zan.c x10g))],.one (cL 10 Zab.c Zab.d x10v)⟩)],rA [(4,aI x11)]])
        have O6:Obl _:=(O4.app (.c h13 (.c (ZjH _ _ _ q15) (.c (ZtN _ _ _ q16) .n))));rcases Zal hf with⟨h17,hf⟩|⟨h17,hf⟩
        ·obtain⟨x12,q18,hf⟩:=Zae hf;have O7:Obl _:=(O6.app (.c h17 (.c o6 (.c (ZtT _ _ q18) .n))));obtain⟨x13,q19,hf⟩:=Zae hf;cases x13 with
         |ret x13v x13g=>
          dsimp only at hf;obtain⟨x14,q20,hf⟩:=Zae hf;obtain rfl:=oi hf;exact Zcp Zam 29 (R5++[rH [(7,aG (Zaa.c x12))] [(8,⟨[(100000,100000)],[],[(100000,.box (Zan.c x13g))],.tup []⟩)],rA [(0,aG (Zaq.c x14))]]) [false,false,false,true] ⟨[],[],[],[],[],[6,7],[6,100000],[]⟩ [100000] (O7.app (.c (Zgj _ _ _ _ _ q19) (.c (ZeC _ _ q20) .n))) (by kernel_rfl)
         |_=>
          dsimp only at hf;obtain rfl:=oi hf;exact ZaK Zam 26 _ _ R5 [false,false,false,true] (rA [(7,aG (Zaa.c x12))]) 8 ⟨[(100000,100000)],pvOf q19⟩ (O7.app (.c (Zgj _ _ _ _ _ q19) .n)) (by kernel_rfl)
        ·obtain⟨x15,q21,hf⟩:=Zae hf;have O8:Obl _:=(O6.app (.c h17 (.c o6 (.c (ZtS _ _ q21) .n))));obtain⟨x16,q22,hf⟩:=Zae hf;cases x16 with
         |ret x16v x16g=>
          dsimp only at hf;obtain⟨x17,q23,hf⟩:=Zae hf;obtain⟨x18,q24,hf⟩:=Zae hf;obtain⟨o25,hf⟩:=Zaw hf
          let R9:List RA:=(R5++[rH [(7,aG (Zaa.c x15))] [(8,⟨[(100000,100000)],[],[(100000,.box (Zan.c x16g))],.tup []⟩)]])
          have O10:Obl _:=(O8.app (.c (Zda _ _ _ _ _ q22) (.c (ZfA _ _ q23) (.c (ZwG _ _ _ _ q24) (.c (show ([x18]:List Zab).length=1∧∀i j,i<1→j<10→Zar Zab.c Zab.d ([x18]:List Zab) i j=(([x18]:List Zab).flatMap Zab.c).getD (i * 10+j) .junk from⟨rfl,fun i j hi hj=>ZaY (sz:=10) (e:=Zab.c) (d:=Zab.d) (fun _=>rfl) ([x18]:List Zab) i j hi hj⟩) (.c (Zep (sz:=10) (e:=Zab.c) (d:=Zab.d) x17 ([x18]:List Zab)) (.c o25.1 (.c o25.2 .n))))))));obtain⟨x19,q26,hf⟩:=Zae hf;cases x19 with
          |ret x19v x19g=>
           dsimp only at hf;obtain rfl:=oi hf;exact Zcp Zam 32 (R9++[⟨[(11,aG (Zab.c x18)),(13,.r (.one (.sl 10 ((x17++([x18]:List Zab)).length) (Zar Zab.c Zab.d (x17++([x18]:List Zab))))) [])],[],[],[],[],[(12,(([x18]:List Zab).length,Zar Zab.c Zab.d ([x18]:List Zab)))],[(4,⟨[],[(99999,106)],[(99999,.rows 44 10 x17.length (Zar Zab.c Zab.d x17))],.one (.osl 99999 x17.length)⟩),(14,⟨[(100000,100000)],[],[(100000,.box (Zan.c x19g))],.tup []⟩)]⟩,rz]) [false,false,false,false] ⟨[],[(6,[(7,cL 10 Zab.c Zab.d [])])],[],[],[],[6,7],[6,100000],[]⟩ [100000] (O10.app (.c (Zol _ _ _ _ _ q26) .n)) (by kernel_rfl)
          |_=>
           dsimp only at hf;obtain rfl:=oi hf;exact ZaK Zam 29 _ _ R9 [false,false,false,false] (⟨[(11,aG (Zab.c x18)),(13,.r (.one (.sl 10 ((x17++([x18]:List Zab)).length) (Zar Zab.c Zab.d (x17++([x18]:List Zab))))) [])],[],[],[],[],[(12,(([x18]:List Zab).length,Zar Zab.c Zab.d ([x18]:List Zab)))],[(4,⟨[],[(99999,106)],[(99999,.rows 44 10 x17.length (Zar Zab.c Zab.d x17))],.one (.osl 99999 x17.length)⟩)]⟩) 14 ⟨[(100000,100000)],pvOf q26⟩ (O10.app (.c (Zol _ _ _ _ _ q26) .n)) (by kernel_rfl)
         |_=>
          dsimp only at hf;obtain rfl:=oi hf;exact ZaK Zam 27 _ _ R5 [false,false,false,false] (rA [(7,aG (Zaa.c x15))]) 8 ⟨[(100000,100000)],pvOf q22⟩ (O8.app (.c (Zda _ _ _ _ _ q22) .n)) (by kernel_rfl)
       |_=>
        dsimp only at hf;obtain rfl:=oi hf;exact ZaK Zam 20 _ _ R3 [false,false,false] (rz) 2 ⟨[(100000,100000)],pvOf q15⟩ (O4.app (.c h13 (.c (ZjH _ _ _ q15) .n))) (by kernel_rfl)
     |_=>
      dsimp only at hf;obtain rfl:=oi hf;exact ZaK Zam 15 _ _ (R1++[rB [(2,false)],rz]) [false,false] (rA [(2,.id 463)]) 2 ⟨[(100000,100000)],pvOf q11⟩ (O2.app (.c h4 (.c o6 (.c h7 (.c h9 (.c (ZaQ _ _ _ _ q11) (.c Zet .n))))))) (by kernel_rfl)
 |_=>
  dsimp only at hf;obtain rfl:=oi hf;exact ZaK Zam 3 _ _ [rz] [] (rA [(1,aG (Zap.c x1)),(5,.id 463)]) 5 ⟨[(100000,100000)],pvOf q2⟩ (.c (Zjt _ q1) (.c Zkr (.c (ZaQ _ _ _ _ q2) (.c Zet .n)))) (by kernel_rfl)
def Zgi(a0:ZaF)(a1:Zan):Option (Tout Zaq):=(Zjs a0.fx.fEnd.fAddr a0.fc.fSecret a0.fc.fShards).bind fun x1=>(ZgU a1 (0:Int) false).bind fun x2=>(match x2 with | .ret x2v x2g=>(Zdi x2g (1:Int) false).bind fun x3=>(match x3 with | .ret x3v x3g=>(Zdi x3g (ZaC (2:Int) x1) false).bind fun x4=>(match x4 with | .ret x4v x4g=>(ZhA a0 x4g x1).bind fun x5=>(match x5 with | .ret x5v x5g=>(ZbV x5g (ZaC (2:Int) x1) x5v.2).bind fun x6=>(match x6 with | .ret x6v x6g=>(ZbV x6g (1:Int) false).bind fun x7=>(match x7 with | .ret x7v x7g=>(Zhy x7g (0:Int) false).bind fun x8=>(match x8 with | .ret x8v x8g=>some (Tout.ret x5v.1 x8g) | .pan x8o=>some (Tout.pan x8o) | .bad x8s=>some (Tout.bad x8s)) | .pan x7o=>some (Tout.pan x7o) | .bad x7s=>some (Tout.bad x7s)) | .pan x6o=>some (Tout.pan x6o) | .bad x6s=>some (Tout.bad x6s)) | .pan x5o=>some (Tout.pan x5o) | .bad x5s=>some (Tout.bad x5s)) | .pan x4o=>some (Tout.pan x4o) | .bad x4s=>some (Tout.bad x4s)) | .pan x3o=>some (Tout.pan x3o) | .bad x3s=>some (Tout.bad x3s)) | .pan x2o=>some (Tout.pan x2o) | .bad x2s=>some (Tout.bad x2s))
theorem ZhL(a0:ZaF)(a1:Zan)(r:(Tout Zaq))(hf:Zgi a0 a1=some r):Zfr Tryz.prog 111 [(100000,.box (Zan.c a1))] [.agg (ZaF.c a0),.one (.ifc 112 (.ptr 100000 0))] (oc (fun x=>.agg (Zaq.c x)) r):=by
 refine Zfr.of Tryz.func111 rfl rfl rfl rfl fun S0 w0=>?_;unfold Zgi at hf;obtain⟨x1,q1,hf⟩:=Zae hf;obtain⟨x2,q2,hf⟩:=Zae hf;cases x2 with
 |ret x2v x2g=>
  dsimp only at hf
  let R1:List RA:=[rz,rA [(10,aI x1)],rH [(1,.id 466)] [(1,⟨[(100000,100000)],[],[(100000,.box (Zan.c x2g))],.tup []⟩)]]
  have O2:Obl _:=(.c (Zri _ _ _ _ q1) (.c (Zgd _ _ _ _ q2) (.c ZpD .n)));obtain⟨x3,q3,hf⟩:=Zae hf;cases x3 with
  |ret x3v x3g=>
   dsimp only at hf
   let R3:List RA:=(R1++[rH [(1,.id 464)] [(1,⟨[(100000,100000)],[],[(100000,.box (Zan.c x3g))],.tup []⟩)]])
   have O4:Obl _:=(O2.app (.c (Zcg _ _ _ _ q3) (.c ZiL .n)));obtain⟨x4,q4,hf⟩:=Zae hf;cases x4 with
   |ret x4v x4g=>
    dsimp only at hf
    let R5:List RA:=(R3++[rH [(3,.id 464)] [(3,⟨[(100000,100000)],[],[(100000,.box (Zan.c x4g))],.tup []⟩)]])
    have O6:Obl _:=(O4.app (.c (Zcg _ _ _ _ q4) (.c ZiL .n)));obtain⟨x5,q5,hf⟩:=Zae hf;cases x5 with
    |ret x5v x5g=>
     dsimp only at hf
     let R7:List RA:=(R5++[rH [] [(3,⟨[(100000,100000)],[],[(100000,.box (Zan.c x5g))],.tup [(true,Zaq.c x5v.1),(false,cB x5v.2)]⟩)]])
     obtain⟨x6,q6,hf⟩:=Zae hf;cases x6 with
     |ret x6v x6g=>
      dsimp only at hf
      let R8:List RA:=(R7++[rH [(4,.id 462)] [(4,⟨[(100000,100000)],[],[(100000,.box (Zan.c x6g))],.tup []⟩)]])
      have O9:Obl _:=(O6.app (.c (ZiF _ _ _ _ q5) (.c (Zbt _ _ _ _ q6) (.c ZfZ .n))));obtain⟨x7,q7,hf⟩:=Zae hf;cases x7 with
      |ret x7v x7g=>
       dsimp only at hf
       let R10:List RA:=(R8++[rH [(1,.id 462)] [(1,⟨[(100000,100000)],[],[(100000,.box (Zan.c x7g))],.tup []⟩)]])
       have O11:Obl _:=(O9.app (.c (Zbt _ _ _ _ q7) (.c ZfZ .n)));obtain⟨x8,q8,hf⟩:=Zae hf;cases x8 with
       |ret x8v x8g=>
        dsimp only at hf;obtain rfl:=oi hf;exact Zcp Zam 20 (R10++[rH [(1,.id 461)] [(1,⟨[(100000,100000)],[],[(100000,.box (Zan.c x8g))],.tup []⟩)],rz]) [] ⟨[],[],[],[],[],[4],[4,100000],[]⟩ [100000] (O11.app (.c (ZgJ _ _ _ _ q8) (.c ZqR .n))) (by kernel_rfl)
       |_=>
        dsimp only at hf;obtain rfl:=oi hf;exact ZaK Zam 17 _ _ R10 [] (rA [(1,.id 461)]) 1 ⟨[(100000,100000)],pvOf q8⟩ (O11.app (.c (ZgJ _ _ _ _ q8) (.c ZqR .n))) (by kernel_rfl)
      |_=>
       dsimp only at hf;obtain rfl:=oi hf;exact ZaK Zam 15 _ _ R8 [] (rA [(1,.id 462)]) 1 ⟨[(100000,100000)],pvOf q7⟩ (O9.app (.c (Zbt _ _ _ _ q7) (.c ZfZ .n))) (by kernel_rfl)
     |_=>
      dsimp only at hf;obtain rfl:=oi hf;exact ZaK Zam 13 _ _ R7 [] (rA [(4,.id 462)]) 4 ⟨[(100000,100000)],pvOf q6⟩ (O6.app (.c (ZiF _ _ _ _ q5) (.c (Zbt _ _ _ _ q6) (.c ZfZ .n)))) (by kernel_rfl)
    |_=>
     dsimp only at hf;obtain rfl:=oi hf;exact ZaK Zam 11 _ _ R5 [] (rz) 3 ⟨[(100000,100000)],pvOf q5⟩ (O6.app (.c (ZiF _ _ _ _ q5) .n)) (by kernel_rfl)
   |_=>
    dsimp only at hf;obtain rfl:=oi hf;exact ZaK Zam 9 _ _ R3 [] (rA [(3,.id 464)]) 3 ⟨[(100000,100000)],pvOf q4⟩ (O4.app (.c (Zcg _ _ _ _ q4) (.c ZiL .n))) (by kernel_rfl)
  |_=>
   dsimp only at hf;obtain rfl:=oi hf;exact ZaK Zam 7 _ _ R1 [] (rA [(1,.id 464)]) 1 ⟨[(100000,100000)],pvOf q3⟩ (O2.app (.c (Zcg _ _ _ _ q3) (.c ZiL .n))) (by kernel_rfl)
 |_=>
  dsimp only at hf;obtain rfl:=oi hf;exact ZaK Zam 5 _ _ [rz,rA [(10,aI x1)]] [] (rA [(1,.id 466)]) 1 ⟨[(100000,100000)],pvOf q2⟩ (.c (Zri _ _ _ _ q1) (.c (Zgd _ _ _ _ q2) (.c ZpD .n))) (by kernel_rfl)
def ZlU(a0:Zaj)(a1:Int):Option Zaa:=(Zgh a1).bind fun x1=>some (Zaa.mk a0 (1:Int) (0:Int) x1)
theorem ZuM(a0:Zaj)(a1:Int)(r:Zaa)(hf:ZlU a0 a1=some r):Zay Tryz.prog 204 [.agg (Zaj.c a0),.one (.lit (.int .i64 a1))] (.agg (Zaa.c r)):=by
 refine Zay.of Tryz.func204 rfl rfl rfl rfl fun S0 w0=>?_;unfold ZlU at hf;obtain⟨x1,q1,hf⟩:=Zae hf;obtain rfl:=oi hf;exact Zak Zam 4 [rz,rA [(2,aI x1)]] [] [] [] [] (.c (Zgg _ _ q1) .n) (by kernel_rfl) rfl
set_option maxHeartbeats 4000000 in
set_option maxRecDepth 100000 in
theorem Zya (b n c i vb m vc : Nat) (cur vcur : Array Value) (w : World) (hi : i < n) (hm : 0 < m) (hroom : n + m ≤ c) (hc63 : c ≤ maxLen) (hvb : vb ≠ b)
    (hcur:w.heap[b]? = some (.cells cur 106 (0,0))) (hcs:cur.size = c * 7) (hvcur:w.heap[vb]? = some (.cells vcur 106 (0,0))) (hvm:m≤vc) (hvs:vcur.size = vc * 7)
    (h1c : ∀ v ∈ cur.toList.take (n * 7),v.oneCell' = true) (h1v : ∀ v ∈ vcur.toList.take (m * 7),v.oneCell' = true) :
    Calls Tryz.prog 276 #[.slice (some ⟨b,0,none⟩) n c,.int .i64 i,.slice (some ⟨vb,0,none⟩) m vc] w fun e w' =>
      ∃ R:Array Value,e = .returned (.slice (some ⟨b,0,none⟩) (n + m) c)∧w.drawn≤w'.drawn∧w.grownBy w' (some b)∧w'.heap[b]? = some (.cells R 106 (0,0))∧R.size = c * 7 ∧
        R.toList.take ((n + m) * 7) = cur.toList.take (i * 7) ++ vcur.toList.take (m * 7) ++ (cur.toList.drop (i * 7)).take ((n - i) * 7):=by
  have hc63':=hc63
  unfold maxLen at hc63
  have hz1 : ¬ ((m:Int) = 0):=by omega
  have hz2 : ¬ ((i:Int) = (n:Int)):=by omega
  have hw1:IntKind.i64.wrap ((i:Int) + (m:Int)) = (i:Int) + (m:Int):=by rw [IntKind.wrap_i64]; omega
  have hw2:IntKind.i64.wrap ((n:Int) + (m:Int)) = (n:Int) + (m:Int):=by rw [IntKind.wrap_i64]; omega
  have hb1:(0:Int)≤(i:Int) + (m:Int):=by omega
  have hin:i≤n:=by omega
  have htn:((i:Int) + (m:Int)).toNat = i + m:=by omega
  have hb2 : ¬ (c = i + m):=by omega
  have hb3:(i:Int)≤(n:Int) + (m:Int):=by omega
  have hb4 : ¬ (c = i):=by omega
  have hov : ∀ o lb cb,(callFunc 339 #[.slice (some ⟨vb,0,none⟩) m vc,.slice (some ⟨b,o,none⟩) lb cb]).run Tryz.prog w = .ok (.value (.bool false)) w:=fun o lb cb =>by
    rw [run_callFunc_extern Tryz.func339 (by kernel_rfl) (by kernel_rfl) (by kernel_rfl) (e:=Extern.SlicesOverlaps.overlaps #[46,46] #[4]) (by kernel_rfl),
      Lib.run_overlaps_apart w 46 4 106 Tryz.underlying46 7 Tryz.sizeOf106 ⟨vb,0,none⟩ ⟨b,o,none⟩ m vc lb cb hvb 106 106 vcur.size cur.size (by simp [World.shape?,hvcur]) (by simp [World.shape?,hcur]) (by omega) (by simp [World.frozen?,hvcur]) (by simp [World.frozen?,hvcur])]
    rfl
  have hsz:(Tryz.prog.info? 106).map (·.size) = some 7:=by kernel_rfl
  obtain ⟨M1,hM1⟩ : ∃ M1,M1 = ZgN cur.toList ((i + m) * 7) ((cur.toList.drop (i * 7)).take ((n - i) * 7)):=⟨_,rfl⟩
  have hM1l:M1.toArray.size = c * 7:=by
    rw [hM1]; simp [ZgN]; omega
  have hcp1 : ∀ ty dc sc,(Builtin.copy_ #[46,46] ty #[.slice (some ⟨b,(i + m) * 7,none⟩) (n + m - (i + m)) dc,.slice (some ⟨b,i * 7,none⟩) (n + m - i) sc]).run Tryz.prog w.drew = .ok (goInt ((n - i:Nat):Int)) (w.drew.setRow b M1.toArray):=fun ty dc sc =>by
    have h:=Zlj (P:=Tryz.prog) w.drew 46 46 ty 106 7 b ((i + m) * 7) (n + m - (i + m)) dc ⟨b,i * 7,none⟩ (n + m - i) sc cur 106 ((cur.toList.drop (i * 7)).take ((n - i) * 7)) Tryz.underlying46 hsz
      (by have : Nat.min (n + m - i) (n + m - (i + m)) = n - i := by simp only [Nat.min_def]; split <;> omega
          rw [this]; simp; omega)
      (fun j v hj =>by
        rw [Zfv]
        rw [List.getElem?_take] at hj
        split at hj
        · rw [List.getElem?_drop] at hj
          rw [show w.drew.cell? ⟨b,i * 7 + j,none⟩ = w.cell? ⟨b,i * 7 + j,none⟩ from rfl,cell_of_row w b _ cur 106 (0,0) hcur]
          simpa using hj
        · cases hj)
      hcur (by simp; omega) (fun v hv =>h1c v (by
        obtain ⟨j,hj⟩:=List.getElem?_of_mem hv
        rw [List.getElem?_take] at hj
        split at hj
        · rw [List.getElem?_drop] at hj
          exact List.mem_of_getElem? (i:=i * 7 + j) (by rw [List.getElem?_take,if_pos (by omega)]; exact hj)
        · cases hj))
    rw [show Nat.min (n + m - i) (n + m - (i + m)) = n - i by simp only [Nat.min_def]; split <;> omega,← hM1] at h
    exact h
  obtain ⟨W1,hW1⟩ : ∃ W1,W1 = w.drew.setRow b M1.toArray:=⟨_,rfl⟩
  have hW1b:W1.heap[b]? = some (.cells M1.toArray 106 (0,0)):=by
    rw [hW1]; exact setRow_heap _ _ _ _ _ _ hcur
  have hW1v:W1.heap[vb]? = some (.cells vcur 106 (0,0)):=by
    rw [hW1,setRow_other _ _ _ _ hvb]; exact hvcur
  have hcp2 : ∀ (W:World),W.heap = W1.heap→∀ ty dc,(Builtin.copy_ #[46,46] ty #[.slice (some ⟨b,i * 7,none⟩) (n + m - i) dc,.slice (some ⟨vb,0,none⟩) m vc]).run Tryz.prog W = .ok (goInt (m:Int)) (W.setRow b (ZgN M1 (i * 7) (vcur.toList.take (m * 7))).toArray):=fun W hWh ty dc =>by
    have h:=Zlj (P:=Tryz.prog) W 46 46 ty 106 7 b (i * 7) (n + m - i) dc ⟨vb,0,none⟩ m vc M1.toArray 106 (vcur.toList.take (m * 7)) Tryz.underlying46 hsz
      (by have : Nat.min m (n + m - i) = m := by simp only [Nat.min_def]; split <;> omega
          rw [this]; simp; omega)
      (fun j v hj =>by
        rw [Zfv,Nat.zero_add]
        rw [List.getElem?_take] at hj
        split at hj
        · rw [cell_of_row W vb _ vcur 106 (0,0) (by rw [hWh]; exact hW1v)]
          simpa using hj
        · cases hj)
      (by rw [hWh]; exact hW1b) (by simp at hM1l ⊢; omega) h1v
    rw [show Nat.min m (n + m - i) = m by simp only [Nat.min_def]; split <;> omega] at h
    exact h
  rw [← hW1] at hcp1
  obtain ⟨R3,hR3⟩ : ∃ R3,R3 = ZgN M1 (i * 7) (vcur.toList.take (m * 7)):=⟨_,rfl⟩
  rw [← hR3] at hcp2
  have hR3l:R3.length = c * 7:=by
    rw [hR3]; simp at hM1l; simp [ZgN]; omega
  have hfin:R3.take ((n + m) * 7) = cur.toList.take (i * 7) ++ vcur.toList.take (m * 7) ++ (cur.toList.drop (i * 7)).take ((n - i) * 7):=by
    have hM1l' : M1.length = c * 7:=by simpa using hM1l
    have hvl:(vcur.toList.take (m * 7)).length = m * 7:=by simp; omega
    have hdl:((cur.toList.drop (i * 7)).take ((n - i) * 7)).length = (n - i) * 7:=by simp; omega
    apply List.ext_getElem?
    intro k
    rw [List.getElem?_take]
    split
    · rename_i hk
      rw [hR3,Zls _ _ _ (by rw [hvl]; omega),hM1,Zls _ _ _ (by rw [hdl]; simp; omega)]
      by_cases h1:k < i * 7
      · rw [if_neg (by omega),if_neg (by omega),List.append_assoc,List.getElem?_append_left (by simp; omega),List.getElem?_take,if_pos h1]
      · by_cases h2:k < (i + m) * 7
        · rw [if_pos ⟨by omega,by rw [hvl]; omega⟩,List.append_assoc,List.getElem?_append_right (by simp; omega),List.getElem?_append_left (by simp; omega)]
          congr 1; simp; omega
        · rw [if_neg (by rw [hvl]; omega),if_pos ⟨by omega,by rw [hdl]; omega⟩,List.getElem?_append_right (by rw [List.length_append,hvl]; simp; omega)]
          congr 1; rw [List.length_append,hvl]; simp; omega
    · rename_i hk
      rw [List.getElem?_eq_none (by rw [List.length_append,List.length_append,hvl,hdl]; simp; omega)]
  have hgb:w.grownBy (W1.setRow b R3.toArray) (some b):=by
    rw [hW1]
    exact ⟨rfl,rfl,rfl,by simp,fun k _ hk =>by
      have hne:k ≠ b:=fun h =>hk (by rw [h])
      rw [setRow_other _ _ _ _ hne,setRow_other _ _ _ _ hne]
      rfl⟩
  have hat:=setRow_heap W1 b _ R3.toArray _ _ hW1b
  have HF:=Lib.hid hfin; clear hfin
  have HL:=Lib.hid hR3l; clear hR3l
  have hdr:w.drawn≤(W1.setRow b R3.toArray).drawn:=by rw [hW1]; exact Nat.le_succ _
  have HG:=Lib.hid hgb; clear hgb
  have HD:=Lib.hid hdr; clear hdr
  have HA:=Lib.hid hat; clear hat
  clear hM1l hW1b hW1v h1c h1v hsz hR3
  clear hW1
  clear hM1
  have mixed:Tryz.prog.follows .mixedOrders = true:=by kernel_rfl
  go_enter Tryz.func276,Tryz.ntmps276
  go_wp2_with (simp only [hov])
  go_region_law_o (refine step_copy_runI rfl _ _ 46 46 rfl _ _ (by simp [Act.eval,Act.put]) (by simp [Act.eval,Act.put]) (hcp1 _ _ _) ?_)
  go_wp2_with (at_builtin; refine wpList_copy_runI _ rfl _ _ 46 46 rfl _ _ rfl rfl (hcp2 _ rfl _ _) ?_)
  go_ret
  exact ⟨R3.toArray,rfl,HD.out,HG.out,HA.out,HL.out,HF.out⟩
set_option maxHeartbeats 4000000 in
set_option maxRecDepth 100000 in
theorem ZzA (b n c i vb m vc : Nat) (cur vcur : Array Value) (w : World) (hi : i < n) (hm : 0 < m) (hnc : n ≤ c) (hroom : c < n + m) (hbig : (n + m) * 56 ≤ 140737488355328)
    (hcur:w.heap[b]? = some (.cells cur 106 (0,0))) (hcs:cur.size = c * 7) (hvcur:w.heap[vb]? = some (.cells vcur 106 (0,0))) (hvm:m≤vc) (hvs:vcur.size = vc * 7)
    (h1c : ∀ v ∈ cur.toList.take (n * 7),v.oneCell' = true) (h1v : ∀ v ∈ vcur.toList.take (m * 7),v.oneCell' = true) :
    Calls Tryz.prog 276 #[.slice (some ⟨b,0,none⟩) n c,.int .i64 i,.slice (some ⟨vb,0,none⟩) m vc] w fun e w' =>
      ∃ (G:Nat) (R:Array Value),e = .returned (.slice (some ⟨w.heap.size,0,none⟩) (n + m) G)∧w.drawn≤w'.drawn∧Below w.heap.size w w'∧w'.heap[w.heap.size]? = some (.cells R 106 (0,0))∧n + m≤G∧G≤maxLen∧R.size = G * 7 ∧
        R.toList.take ((n + m) * 7) = cur.toList.take (i * 7) ++ vcur.toList.take (m * 7) ++ (cur.toList.drop (i * 7)).take ((n - i) * 7):=by
  have hz1 : ¬ ((m:Int) = 0):=by omega
  have hz2 : ¬ ((i:Int) = (n:Int)):=by omega
  have hz3:(c:Int) < (n:Int) + (m:Int):=by omega
  have hkk:(n:Int) + (m:Int) - (i:Int) = ((n + m - i:Nat):Int):=by omega
  have hik:i + (n + m - i) = n + m:=by omega
  have hbw:b < w.heap.size:=(Array.getElem?_eq_some_iff.1 hcur).1
  have hvw:vb < w.heap.size:=(Array.getElem?_eq_some_iff.1 hvcur).1
  have hbN:b ≠ w.heap.size:=by omega
  have hvN:vb ≠ w.heap.size:=by omega
  obtain ⟨i0,hi0,hzs,hzb,hz0⟩:=ZGM.info (t:=106) (show Zeo tab 106 = some _ from rfl)
  replace hzs:i0.size = 7:=hzs
  replace hzb:i0.bytes = 56:=hzb
  replace hz0:i0.zero = some (.agg #[.bool false,.int .u64 (0),.int .u64 (0),.int .i64 (0),.int .i64 (0),.int .i64 (0),.int .i64 (0)]):=hz0
  have hsz:(Tryz.prog.info? 106).map (·.size) = some 7:=by kernel_rfl
  have hold:(Builtin.firstCells i0.size i (.slice (some ⟨b,0,none⟩) i c)).run Tryz.prog w.drew = .ok (cur.toList.take (i * 7)).toArray w.drew:=by
    rw [hzs]
    exact run_firstCells_some w.drew 7 i ⟨b,0,none⟩ i c (cur.toList.take (i * 7)) (by simp; omega) (fun j v hj =>by
      rw [Zfv,Nat.zero_add]
      rw [List.getElem?_take] at hj
      split at hj
      · rw [show w.drew.cell? ⟨b,j,none⟩ = w.cell? ⟨b,j,none⟩ from rfl,cell_of_row w b _ cur 106 (0,0) hcur]
        simpa using hj
      · cases hj)
  obtain ⟨G,hG⟩ : ∃ G,G = grownCap w (n + m) c 106:=⟨_,rfl⟩
  obtain ⟨ROW,hROW⟩ : ∃ ROW:Array Value,ROW = (cur.toList.take (i * 7)).toArray ++ Builtin.zeroCells (Value.cells (.agg #[.bool false,.int .u64 (0),.int .u64 (0),.int .i64 (0),.int .i64 (0),.int .i64 (0),.int .i64 (0)])) (n + m - i) ++ Builtin.zeroCells (Value.cells (.agg #[.bool false,.int .u64 (0),.int .u64 (0),.int .i64 (0),.int .i64 (0),.int .i64 (0),.int .i64 (0)])) (G - (n + m)):=⟨_,rfl⟩
  have hrz : ∀ ty, (Builtin.append_ #[46, 3] ty #[.slice (some ⟨b, 0, none⟩) i c, .int .i64 ((n : Int) + (m : Int) - (i : Int))]).run Tryz.prog w =
      .ok (.slice (some ⟨w.heap.size,0,none⟩) (n + m) G) (w.drew.alloc (.cells ROW 106)):=fun ty =>by
    have h:=Lib.run_append_grow_zeros w 46 3 ty 106 i0 _ .i64 .i64 Tryz.underlying46 Tryz.underlying3 hi0 hz0 (some ⟨b,0,none⟩) i c (cur.toList.take (i * 7)) hold (n + m - i) (by omega) (by omega) (by omega) (by omega) (by rw [hzb]; omega) (by rw [hzb,hik]; exact growslice_fits hroom hbig)
    rw [hik,← hG,← hROW] at h
    rw [hkk]
    exact h
  have hGn:n + m≤G:=by rw [hG]; exact grownCap_ge w _ _ _
  have hGm:G≤maxLen:=by rw [hG]; exact grownCap_le_maxLen w (n + m) c 106 (by unfold maxLen; omega)
  have hRs:ROW.size = G * 7:=by
    rw [hROW]
    simp [Builtin.zeroCells,Value.cells]
    omega
  have hRt:ROW.toList.take (i * 7) = cur.toList.take (i * 7):=by
    rw [hROW]
    simp only [Array.toList_append,List.append_assoc]
    rw [List.take_append_of_le_length (by simp; omega)]
    simp [List.take_take]
  clear hROW hG hold
  obtain ⟨W1,hW1⟩ : ∃ W1,W1 = w.drew.alloc (.cells ROW 106):=⟨_,rfl⟩
  have hWN:W1.heap[w.heap.size]? = some (.cells ROW 106 (0,0)):=by rw [hW1]; exact heap_alloc_new w.drew _
  have hWb:W1.heap[b]? = some (.cells cur 106 (0,0)):=by rw [hW1,heap_alloc_old w.drew _ hbw]; exact hcur
  have hWv:W1.heap[vb]? = some (.cells vcur 106 (0,0)):=by rw [hW1,heap_alloc_old w.drew _ hvw]; exact hvcur
  obtain ⟨V,hV⟩ : ∃ V,V = vcur.toList.take (m * 7):=⟨_,rfl⟩
  have hVl:V.length = m * 7:=by rw [hV]; simp; omega
  obtain ⟨D,hD⟩ : ∃ D,D = (cur.toList.drop (i * 7)).take ((n - i) * 7):=⟨_,rfl⟩
  have hDl:D.length = (n - i) * 7:=by rw [hD]; simp; omega
  obtain ⟨R2,hR2⟩ : ∃ R2,R2 = ZgN ROW.toList (i * 7) V:=⟨_,rfl⟩
  have hR2l:R2.length = G * 7:=by rw [hR2]; simp [ZgN,hVl]; omega
  obtain ⟨R3,hR3⟩ : ∃ R3,R3 = ZgN R2 ((i + m) * 7) D:=⟨_,rfl⟩
  have hR3l:R3.length = G * 7:=by rw [hR3]; simp [ZgN,hDl]; omega
  have hfin:R3.take ((n + m) * 7) = cur.toList.take (i * 7) ++ V ++ D:=by
    apply List.ext_getElem?
    intro k
    rw [List.getElem?_take]
    split
    · rename_i hk
      rw [hR3,Zls _ _ _ (by rw [hDl]; omega),hR2,Zls _ _ _ (by rw [hVl]; simp; omega)]
      by_cases h1:k < i * 7
      · rw [if_neg (by omega),if_neg (by omega),List.append_assoc,List.getElem?_append_left (by simp; omega),← hRt,List.getElem?_take,if_pos h1]
      · by_cases h2:k < (i + m) * 7
        · rw [if_neg (by omega),if_pos ⟨by omega,by rw [hVl]; omega⟩,List.append_assoc,List.getElem?_append_right (by simp; omega),List.getElem?_append_left (by simp; omega)]
          congr 1; simp; omega
        · rw [if_pos ⟨by omega,by rw [hDl]; omega⟩,List.getElem?_append_right (by simp [hVl]; omega)]
          congr 1; simp [hVl]; omega
    · rename_i hk
      rw [List.getElem?_eq_none (by simp [hVl,hDl]; omega)]
  have hcpA : ∀ (W:World),W.heap = W1.heap→∀ ty dc,(Builtin.copy_ #[46,46] ty #[.slice (some ⟨w.heap.size,i * 7,none⟩) (n + m - i) dc,.slice (some ⟨vb,0,none⟩) m vc]).run Tryz.prog W = .ok (goInt (m:Int)) (W.setRow w.heap.size R2.toArray):=fun W hWh ty dc =>by
    have h:=Zlj (P:=Tryz.prog) W 46 46 ty 106 7 w.heap.size (i * 7) (n + m - i) dc ⟨vb,0,none⟩ m vc ROW 106 V Tryz.underlying46 hsz
      (by have : Nat.min m (n + m - i) = m := by simp only [Nat.min_def]; split <;> omega
          rw [this,hVl])
      (fun j v hj =>by
        rw [hV] at hj
        rw [Zfv,Nat.zero_add]
        rw [List.getElem?_take] at hj
        split at hj
        · rw [cell_of_row W vb _ vcur 106 (0,0) (by rw [hWh]; exact hWv)]
          simpa using hj
        · cases hj)
      (by rw [hWh]; exact hWN) (by rw [hVl,hRs]; omega) (by rw [hV]; exact h1v)
    rw [show Nat.min m (n + m - i) = m by simp only [Nat.min_def]; split <;> omega,← hR2] at h
    exact h
  have hcpB : ∀ (W:World),W.heap[w.heap.size]? = some (.cells R2.toArray 106 (0,0))→W.heap[b]? = some (.cells cur 106 (0,0))→∀ ty dc sc,(Builtin.copy_ #[46,46] ty #[.slice (some ⟨w.heap.size,(i + m) * 7,none⟩) (n + m - (i + m)) dc,.slice (some ⟨b,i * 7,none⟩) (n - i) sc]).run Tryz.prog W = .ok (goInt ((n - i:Nat):Int)) (W.setRow w.heap.size R3.toArray):=fun W hN hB ty dc sc =>by
    have h:=Zlj (P:=Tryz.prog) W 46 46 ty 106 7 w.heap.size ((i + m) * 7) (n + m - (i + m)) dc ⟨b,i * 7,none⟩ (n - i) sc R2.toArray 106 D Tryz.underlying46 hsz
      (by have : Nat.min (n - i) (n + m - (i + m)) = n - i := by simp only [Nat.min_def]; split <;> omega
          rw [this,hDl])
      (fun j v hj =>by
        rw [hD] at hj
        rw [Zfv]
        rw [List.getElem?_take] at hj
        split at hj
        · rw [List.getElem?_drop] at hj
          rw [cell_of_row W b _ cur 106 (0,0) hB]
          simpa using hj
        · cases hj)
      hN (by simp [hDl,hR2l]; omega) (fun v hv =>h1c v (by
        rw [hD] at hv
        obtain ⟨j,hj⟩:=List.getElem?_of_mem hv
        rw [List.getElem?_take] at hj
        split at hj
        · rw [List.getElem?_drop] at hj
          exact List.mem_of_getElem? (i:=i * 7 + j) (by rw [List.getElem?_take,if_pos (by omega)]; exact hj)
        · cases hj))
    rw [show Nat.min (n - i) (n + m - (i + m)) = n - i by simp only [Nat.min_def]; split <;> omega] at h
    rw [show R2.toArray.toList = R2 from rfl,← hR3] at h
    exact h
  have hW2N:(W1.setRow w.heap.size R2.toArray).heap[w.heap.size]? = some (.cells R2.toArray 106 (0,0)):=setRow_heap _ _ _ _ _ _ hWN
  have hW2b:(W1.setRow w.heap.size R2.toArray).heap[b]? = some (.cells cur 106 (0,0)):=by rw [setRow_other _ _ _ _ hbN]; exact hWb
  have hbel:Below w.heap.size w W1:=by
    rw [hW1]
    exact ⟨rfl,rfl,rfl,by simp,fun k hk =>heap_alloc_old w.drew _ hk⟩
  have mixed:Tryz.prog.follows .mixedOrders = true:=by kernel_rfl
  have hdr:w.drawn≤W1.drawn:=by rw [hW1]; exact Nat.le_succ _
  have HW:=Lib.hid hdr; clear hdr
  have HF:=Lib.hid hfin; clear hfin
  have hGi : ¬ (G = i):=by omega
  have hGim : ¬ (G = i + m):=by omega
  have hci : ¬ (c = i):=by omega
  have hGM:=hGm
  unfold maxLen at hGM
  have hin:i≤n:=by omega
  have htn:((i:Int) + (m:Int)).toNat = i + m:=by omega
  have hw1:IntKind.i64.wrap ((i:Int) + (m:Int)) = (i:Int) + (m:Int):=by rw [IntKind.wrap_i64]; omega
  have hb1:(0:Int)≤(i:Int) + (m:Int):=by omega
  have hb3:(i:Int)≤(n:Int):=by omega
  rw [← hV,← hD]
  rw [← hW1] at hrz
  clear hV hD hVl hDl hR2 hR2l hR3 hRt hi0 hzb hzs hz0 hsz hRs hkk hik hWN hWb hWv hcs hvs h1c h1v hcur hvcur hW1
  have HR3:=Lib.hid hR3l; clear hR3l
  go_enter Tryz.func276,Tryz.ntmps276
  go_wp2_with (first
    | (at_builtin; refine Lib.wpList_append_run _ rfl _ _ _ _ rfl _ _ rfl rfl _ _ (hrz _) ?_)
    | (at_builtin; refine wpList_copy_runI _ rfl _ _ 46 46 rfl _ _ rfl rfl (hcpA _ rfl _ _) ?_)
    | (at_builtin; refine wpList_copy_runI _ rfl _ _ 46 46 rfl _ _ rfl rfl (hcpB _ (by first | exact hW2N | assumption) (by first | exact hW2b | assumption) _ _ _) ?_))
  go_region_law_o (refine step_copy_runI rfl _ _ 46 46 rfl (.slice (some ⟨w.heap.size,(i + m) * 7,none⟩) (n + m - (i + m)) (G - (i + m))) (.slice (some ⟨b,i * 7,none⟩) (n - i) (c - i)) (by simp [Act.eval,Act.put]) (by simp [Act.eval,Act.put]) (hcpB (W1.setRow w.heap.size R2.toArray).drew hW2N hW2b 3 (G - (i + m)) (c - i)) ?_)
  go_wp2
  go_ret
  exact ⟨G,R3.toArray,rfl,Nat.le_trans HW.out (by simp [World.setRow]),⟨hbel.os,hbel.tape,hbel.output,by simpa using hbel.size,fun k hk =>by rw [setRow_other _ _ _ _ (by omega)]; exact (setRow_other _ _ _ _ (by omega)).trans (hbel.block k hk)⟩,setRow_heap _ _ _ _ _ _ hW2N,hGn,hGm,HR3.out,HF.out⟩
set_option maxHeartbeats 4000000 in
set_option maxRecDepth 100000 in
theorem ZCb(base:Option Addr)(n c vb m vc:Nat)(w w':World)(v':Value)(hnc:n≤c)(hc63:c≤maxLen)(hm:0<m)(hnil:base=none→n=0)(hm63:m≤maxLen)
  (hrun:∀ty,(Builtin.append_ #[46,46] ty #[.slice base n c,.slice (some ⟨vb,0,none⟩) m vc]).run Tryz.prog w=.ok v' w') :
  Calls Tryz.prog 276 #[.slice base n c,.int .i64 n,.slice (some ⟨vb,0,none⟩) m vc] w fun e w1=>e=.returned v'∧w'=w1:=by
 have hz1:¬((m:Int)=0):=by omega
 unfold maxLen at hc63 hm63;cases base with
 |none=>
  have h0:=hnil rfl;subst h0
  go_enter Tryz.func276,Tryz.ntmps276
  go_wp2_with (at_builtin;refine Lib.wpList_append_run _ rfl _ _ _ _ rfl _ _ rfl rfl _ _ (hrun _) ?_)
  go_ret
  exact⟨rfl,rfl⟩
 |some a=>
  obtain⟨ab,ao,asp⟩:=a
  go_enter Tryz.func276,Tryz.ntmps276
  go_wp2_with (at_builtin;refine Lib.wpList_append_run _ rfl _ _ _ _ rfl _ _ rfl rfl _ _ (hrun _) ?_)
  all_goals (go_ret;exact⟨rfl,rfl⟩)
def Zbc(a0:List Zaa)(a1:Int)(a2:List Zaa):Option (List Zaa):=need (0≤a1∧a1.toNat≤a0.length∧0<a2.length∧(a0.length+a2.length) * 56≤140737488355328∧a0.length+a2.length≤maxLen)<|some (a0.take a1.toNat++a2++a0.drop a1.toNat)
theorem ZcQ(a0:List Zaa)(a1:Int)(a2 r:List Zaa)(hf:Zbc a0 a1 a2=some r) :
  Zdo Tryz.prog 276 [(100000,.rows 106 7 a0.length (Zar Zaa.c Zaa.d a0)),(100001,.rows 106 7 a2.length (Zar Zaa.c Zaa.d a2))] [.one (.osl 100000 a0.length),.one (.lit (.int .i64 a1)),.one (.osl 100001 a2.length)]
   [(99999,.rows 106 7 r.length (Zar Zaa.c Zaa.d r))] (.one (.osl 99999 r.length)):=by
 obtain⟨⟨o1,o2,o3,o4,o5⟩,hf⟩:=Zaw hf;cases hf;obtain⟨i0,hi0,hzs,hzb,hz0⟩:=ZGM.info (t:=106) (show Zeo tab 106=some _ from rfl);have h:=Zzz (enc:=Zaa.c) (d:=Zaa.d) (F:=276) (BY:=56) (K:=7) ⟨_,Tryz.func276,rfl,rfl⟩ Tryz.underlying46 hi0 hz0 hzs hzb rfl (by decide) (fun b n c i vb m vc cur vcur w h1 h2 h3 h4 h5 h6 h7 h8 h9 h10 h11 h12=>Zya b n c i vb m vc cur vcur w h1 h2 h3 h4 h5 h6 h7 h8 h9 h10 h11 h12)
  (fun b n c i vb m vc cur vcur w h1 h2 h3 h4 h5 h6 h7 h8 h9 h10 h11 h12=>ZzA b n c i vb m vc cur vcur w h1 h2 h3 h4 h5 h6 h7 h8 h9 h10 h11 h12)
  (fun base n c vb m vc w w' v' h1 h2 h3 h4 h5 h6=>ZCb base n c vb m vc w w' v' h1 h2 h3 h4 h5 h6) a0 a2 a1.toNat o2 o3 o4 o5
 rw[Int.toNat_of_nonneg o1]at h;exact h
def ZmC(a0 c0:Zaa):Option Bool:=(ZhI a0.fEnd c0.fEnd).bind fun x1=>some (decide (x1>(0:Int)))
theorem ZtX(a0 c0:Zaa)(r:Bool)(hf:ZmC a0 c0=some r):Zay Tryz.prog 274 [.agg (Zaa.c a0),.one (.rp false 7 (fun j=>(Zaa.c c0:List C).getD (0+j) .junk))] (.one (.lit (.bool r))):=by
 refine Zay.of Tryz.func274 rfl rfl rfl rfl fun S0 w0=>?_;unfold ZmC at hf;obtain⟨x1,q1,hf⟩:=Zae hf;obtain rfl:=oi hf;exact Zak Zam 4 [rz,rA [(4,aI x1)]] [] [] [] [] (.c (Znk _ _ _ q1) .n) (by kernel_rfl) rfl
def ZaM(a0:List Zaa)(a1_0:Zaa):Nat→Int→Int→Option Int|0,_,_=>none|fu+1,v7,v8=>bif(decide (v8<v7))then need (0≤v8∧v8<((a0.length:Nat):Int))<|(ZmC (a0.getD v8.toNat Zaa.d) a1_0).bind fun x1=>bif x1 then some v8 else ZaM a0 a1_0 fu v7 (ZaC v8 (1:Int))else some (-1:Int)
theorem Zgf(S0:Nat→Prop)(w0:ZaV)(a0:List Zaa)(a1_0:Zaa):∀(fu:Nat)(v7 v8 r:Int),ZaM a0 a1_0 fu v7 v8=some r→Good Tryz.prog 19 S0 w0 (bodyPost Tryz.prog Tryz.f273 (Post S0 w0 (.one (.lit (.int .i64 r))))) (at_ [1,0,1,0] (Zbo Tryz.f273)) ⟨[(0,.one (cL 7 Zaa.c Zaa.d a0)),(1,.one (.clo (.func 274) 0 1 (fun i=>([]:List C).getD i .junk) (fun i=>([.rp false 7 (fun j=>(Zaa.c a1_0:List C).getD (0+j) .junk)]:List C).getD i .junk))),(7,.one (.lit (.int .i64 v7))),(8,.one (.lit (.int .i64 v8)))],[]⟩:=by
 intro fu;induction fu with
 |zero=>
  intro v7 v8 r hf;simp[ZaM]at hf
 |succ fu ih=>
  intro v7 v8 r hf;unfold ZaM at hf;rcases Zal hf with⟨h1,hf⟩|⟨h1,hf⟩
  ·obtain⟨o2,hf⟩:=Zaw hf;obtain⟨x1,q3,hf⟩:=Zae hf;have O1:Obl _:=(.c h1 (.c o2 (.c (ZtX _ _ _ q3) .n)));rcases Zal hf with⟨h4,hf⟩|⟨h4,hf⟩
   ·obtain rfl:=oi hf;exact Zak Zam 15 [rz,rz,rA [(5,aB x1)],rz] [true,true] [] [] [] (O1.app (.c h4 .n)) (by kernel_rfl) rfl
   ·exact ZaG Zam Post.ends 17 [rz,rz,rA [(5,aB x1)],rz] [true,false] ⟨[],[],[],[],[],[0,1,7,8],[],[]⟩ (O1.app (.c h4 .n)) (by kernel_rfl) (ih v7 (ZaC v8 (1:Int)) r hf)
  ·obtain rfl:=oi hf;exact Zak Zam 8 [rz,rz] [false] [] [] [] (.c h1 .n) (by kernel_rfl) rfl
def Zbz(a0:List Zaa)(a1_0:Zaa):Option Int:=ZaM a0 a1_0 ((((a0.length:Nat):Int)-(0:Int)).toNat+2) ((a0.length:Nat):Int) (0:Int)
theorem ZgW(a0:List Zaa)(a1_0:Zaa)(r:Int)(hf:Zbz a0 a1_0=some r):Zay Tryz.prog 273 [.one (cL 7 Zaa.c Zaa.d a0),.one (.clo (.func 274) 0 1 (fun i=>([]:List C).getD i .junk) (fun i=>([.rp false 7 (fun j=>(Zaa.c a1_0:List C).getD (0+j) .junk)]:List C).getD i .junk))] (.one (.lit (.int .i64 r))):=by
 refine Zay.of Tryz.func273 rfl rfl rfl rfl fun S0 w0=>?_;unfold Zbz at hf;exact ZaG Zam Post.ends 6 [rz,rz] [] ⟨[],[],[],[],[],[0,1,7,8],[],[]⟩ .n (by kernel_rfl) (Zgf S0 w0 a0 a1_0 ((((a0.length:Nat):Int)-(0:Int)).toNat+2) ((a0.length:Nat):Int) (0:Int) r hf)
def Zny(a0:List Zaa)(a1:Zaa)(a2:Int):Option ((List Zaa)×Int):=(Zhn a1).bind fun x1=>bif(!x1)then some (([]:(List Zaa)),(1:Int))else(Zik a0 a1.fEnd).bind fun x2=>bif(decide (x2≥(0:Int)))then some (([]:(List Zaa)),(7:Int))else bif(decide (((a0.length:Nat):Int)≥a2))then some (([]:(List Zaa)),(5:Int))else(Zbz a0 a1).bind fun x3=>bif(decide (x3<(0:Int)))then(ZaP a0).bind fun x4=>(Zbc x4 ((a0.length:Nat):Int) ([a1]:List Zaa)).bind fun x5=>some (x5,(0:Int))else(ZaP a0).bind fun x6=>(Zbc x6 x3 ([a1]:List Zaa)).bind fun x7=>some (x7,(0:Int))
theorem ZwK(a0:List Zaa)(a1:Zaa)(a2:Int)(r:((List Zaa)×Int))(hf:Zny a0 a1 a2=some r):Zay Tryz.prog 202 [.one (cL 7 Zaa.c Zaa.d a0),.agg (Zaa.c a1),.one (.lit (.int .i64 a2))] (.tup [(false,(cLs 7 Zaa.c Zaa.d) r.1),(false,(cI .i64) r.2)]):=by
 refine Zay.of Tryz.func202 rfl rfl rfl rfl fun S0 w0=>?_;unfold Zny at hf;obtain⟨x1,q1,hf⟩:=Zae hf;rcases Zal hf with⟨h2,hf⟩|⟨h2,hf⟩
 ·obtain rfl:=oi hf;exact Zak Zam 9 [rz,rA [(1,aB x1)],rz] [true] [] [] [(6,[(0,cL 7 Zaa.c Zaa.d [])])] (.c (Zjc _ _ q1) (.c h2 .n)) (by kernel_rfl) rfl
 ·obtain⟨x2,q3,hf⟩:=Zae hf;have O1:Obl _:=(.c (Zjc _ _ q1) (.c h2 (.c (Zkz _ _ _ q3) .n)));rcases Zal hf with⟨h4,hf⟩|⟨h4,hf⟩
  ·obtain rfl:=oi hf;exact Zak Zam 12 [rz,rA [(1,aB x1)],rA [(3,aI x2)],rz] [false,true] [] [] [(6,[(0,cL 7 Zaa.c Zaa.d [])])] (O1.app (.c h4 .n)) (by kernel_rfl) rfl
  ·rcases Zal hf with⟨h5,hf⟩|⟨h5,hf⟩
   ·obtain rfl:=oi hf;exact Zak Zam 15 [rz,rA [(1,aB x1)],rA [(3,aI x2)],rz,rz] [false,false,true] [] [] [(6,[(0,cL 7 Zaa.c Zaa.d [])])] (O1.app (.c h4 (.c h5 .n))) (by kernel_rfl) rfl
   ·obtain⟨x3,q6,hf⟩:=Zae hf
    let R2:List RA:=[rz,rA [(1,aB x1)],rA [(3,aI x2)],rz,⟨[(2,aI x3)],[],[(1,[4])],[],[],[],[]⟩,rz]
    have O3:Obl _:=(O1.app (.c h4 (.c h5 (.c (ZgW _ _ _ q6) .n))));rcases Zal hf with⟨h7,hf⟩|⟨h7,hf⟩
    ·obtain⟨x4,q8,hf⟩:=Zae hf;obtain⟨x5,q9,hf⟩:=Zae hf;obtain rfl:=oi hf;exact Zak Zam 24 (R2++[rz,rH [(4,.c ([a1]:List Zaa).length (Zar Zaa.c Zaa.d ([a1]:List Zaa)))] [(1,⟨[],[(99999,32)],[(99999,.rows 106 7 x4.length (Zar Zaa.c Zaa.d x4))],.one (.osl 99999 x4.length)⟩),(5,⟨[(100000,32),(100001,35)],[(99999,36)],[(99999,.rows 106 7 x5.length (Zar Zaa.c Zaa.d x5))],.one (.osl 99999 x5.length)⟩)]]) [false,false,false,true] [36] [] [] (O3.app (.c h7 (.c (ZbQ _ _ q8) (.c (show ([a1]:List Zaa).length=1 from rfl) (.c (show ∀i j,i<1→j<7→Zar Zaa.c Zaa.d ([a1]:List Zaa) i j=(([a1]:List Zaa).flatMap Zaa.c).getD (i * 7+j) .junk from(fun i j hi hj=>ZaY (sz:=7) (e:=Zaa.c) (d:=Zaa.d) (fun _=>rfl) ([a1]:List Zaa) i j hi hj)) (.c (ZcQ _ _ _ _ q9) .n)))))) (by kernel_rfl) rfl
    ·obtain⟨x6,q10,hf⟩:=Zae hf;obtain⟨x7,q11,hf⟩:=Zae hf;obtain rfl:=oi hf;exact Zak Zam 24 (R2++[rH [(4,.c ([a1]:List Zaa).length (Zar Zaa.c Zaa.d ([a1]:List Zaa)))] [(1,⟨[],[(99999,32)],[(99999,.rows 106 7 x6.length (Zar Zaa.c Zaa.d x6))],.one (.osl 99999 x6.length)⟩),(5,⟨[(100000,32),(100001,35)],[(99999,36)],[(99999,.rows 106 7 x7.length (Zar Zaa.c Zaa.d x7))],.one (.osl 99999 x7.length)⟩)]]) [false,false,false,false] [36] [] [] (O3.app (.c h7 (.c (ZbQ _ _ q10) (.c (show ([a1]:List Zaa).length=1 from rfl) (.c (show ∀i j,i<1→j<7→Zar Zaa.c Zaa.d ([a1]:List Zaa) i j=(([a1]:List Zaa).flatMap Zaa.c).getD (i * 7+j) .junk from(fun i j hi hj=>ZaY (sz:=7) (e:=Zaa.c) (d:=Zaa.d) (fun _=>rfl) ([a1]:List Zaa) i j hi hj)) (.c (ZcQ _ _ _ _ q11) .n)))))) (by kernel_rfl) rfl
def ZgZ(a0:ZaF)(a1:Zan):Option (Tout Zaq):=(Zdi a1 (1:Int) false).bind fun x1=>(match x1 with | .ret x1v x1g=>(ZiQ).bind fun x2=>(ZbU x1g x2 false).bind fun x3=>(match x3 with | .ret x3v x3g=>(ZlU a0.fx.fEnd a0.fx.fNow).bind fun x4=>(Zny x3v.fBook x4 a0.fc.fMaxBook).bind fun x5=>bif(x5.2==(0:Int))then(Zcx x3g x2 (Zad.mk (0:Int) (Zab.mk (Zaj.mk (Zag.mk false (0:Int) (0:Int)) (0:Int)) false (0:Int) (Zat.mk (0:Int) (0:Int)) (0:Int) (0:Int)) ([]:(List Zah)) x5.1) true).bind fun x6=>(match x6 with | .ret x6v x6g=>(ZbV x6g (1:Int) (x5.2 != (0:Int))).bind fun x7=>(match x7 with | .ret x7v x7g=>(ZdN x5.2).bind fun x8=>some (Tout.ret x8 x7g) | .pan x7o=>some (Tout.pan x7o) | .bad x7s=>some (Tout.bad x7s)) | .pan x6o=>some (Tout.pan x6o) | .bad x6s=>some (Tout.bad x6s))else(ZbV x3g (1:Int) (x5.2 != (0:Int))).bind fun x9=>(match x9 with | .ret x9v x9g=>(ZdN x5.2).bind fun x10=>some (Tout.ret x10 x9g) | .pan x9o=>some (Tout.pan x9o) | .bad x9s=>some (Tout.bad x9s)) | .pan x3o=>some (Tout.pan x3o) | .bad x3s=>some (Tout.bad x3s)) | .pan x1o=>some (Tout.pan x1o) | .bad x1s=>some (Tout.bad x1s))
theorem Zib(a0:ZaF)(a1:Zan)(r:(Tout Zaq))(hf:ZgZ a0 a1=some r):Zfr Tryz.prog 112 [(100000,.box (Zan.c a1))] [.agg (ZaF.c a0),.one (.ifc 112 (.ptr 100000 0))] (oc (fun x=>.agg (Zaq.c x)) r):=by
 refine Zfr.of Tryz.func112 rfl rfl rfl rfl fun S0 w0=>?_;unfold ZgZ at hf;obtain⟨x1,q1,hf⟩:=Zae hf;cases x1 with
 |ret x1v x1g=>
  dsimp only at hf;obtain⟨x2,q2,hf⟩:=Zae hf
  let R1:List RA:=[rz,rH [(1,.id 464)] [(1,⟨[(100000,100000)],[],[(100000,.box (Zan.c x1g))],.tup []⟩)]]
  have O2:Obl _:=(.c (Zcg _ _ _ _ q1) (.c ZiL (.c (Zjt _ q2) (.c Zkr .n))));obtain⟨x3,q3,hf⟩:=Zae hf;cases x3 with
  |ret x3v x3g=>
   dsimp only at hf;obtain⟨x4,q4,hf⟩:=Zae hf;obtain⟨x5,q5,hf⟩:=Zae hf
   let R3:List RA:=(R1++[rH [(1,aG (Zap.c x2)),(5,.id 463),(13,aG (Zaa.c x4)),(17,.r (.tup [(false,(cLs 7 Zaa.c Zaa.d) x5.1),(false,(cI .i64) x5.2)]) [])] [(5,⟨[(100000,100000)],[],[(100000,.box (Zan.c x3g))],.agg (Zad.c x3v)⟩)],rz])
   have O4:Obl _:=(O2.app (.c (ZaQ _ _ _ _ q3) (.c Zet (.c (ZuM _ _ _ q4) (.c (ZwK _ _ _ _ q5) .n)))));rcases Zal hf with⟨h6,hf⟩|⟨h6,hf⟩
   ·have O5:Obl _:=(O4.app (.c h6 (.c (Zjt _ q2) (.c ZnL .n))));obtain⟨x6,q7,hf⟩:=Zae hf;cases x6 with
    |ret x6v x6g=>
     dsimp only at hf
     let R6:List RA:=(R3++[⟨[(1,aG (Zap.c x2)),(7,.id 467)],[],[],[],[(3,[(11,cL 5 Zah.c Zah.d [])])],[],[(7,⟨[(100000,100000)],[],[(100000,.box (Zan.c x6g))],.tup []⟩)]⟩])
     have O7:Obl _:=(O5.app (.c (ZcC _ _ _ _ _ q7) (.c Zjo .n)));obtain⟨x7,q8,hf⟩:=Zae hf;cases x7 with
     |ret x7v x7g=>
      dsimp only at hf;obtain⟨x8,q9,hf⟩:=Zae hf;obtain rfl:=oi hf;exact Zcp Zam 15 (R6++[rH [(3,.id 462)] [(3,⟨[(100000,100000)],[],[(100000,.box (Zan.c x7g))],.tup []⟩)],rA [(1,aG (Zaq.c x8))]]) [true] ⟨[],[],[],[],[],[4],[4,100000],[]⟩ [100000] (O7.app (.c (Zbt _ _ _ _ q8) (.c ZfZ (.c (ZeC _ _ q9) .n)))) (by kernel_rfl)
     |_=>
      dsimp only at hf;obtain rfl:=oi hf;exact ZaK Zam 12 _ _ R6 [true] (rA [(3,.id 462)]) 3 ⟨[(100000,100000)],pvOf q8⟩ (O7.app (.c (Zbt _ _ _ _ q8) (.c ZfZ .n))) (by kernel_rfl)
    |_=>
     dsimp only at hf;obtain rfl:=oi hf;exact ZaK Zam 10 _ _ R3 [true] (⟨[(1,aG (Zap.c x2)),(7,.id 467)],[],[],[],[(3,[(11,cL 5 Zah.c Zah.d [])])],[],[]⟩) 7 ⟨[(100000,100000)],pvOf q7⟩ (O5.app (.c (ZcC _ _ _ _ _ q7) (.c Zjo .n))) (by kernel_rfl)
   ·obtain⟨x9,q10,hf⟩:=Zae hf;cases x9 with
    |ret x9v x9g=>
     dsimp only at hf;obtain⟨x10,q11,hf⟩:=Zae hf;obtain rfl:=oi hf;exact Zcp Zam 15 (R3++[rH [(3,.id 462)] [(3,⟨[(100000,100000)],[],[(100000,.box (Zan.c x9g))],.tup []⟩)],rA [(1,aG (Zaq.c x10))]]) [false] ⟨[],[],[],[],[],[4],[4,100000],[]⟩ [100000] (O4.app (.c h6 (.c (Zbt _ _ _ _ q10) (.c ZfZ (.c (ZeC _ _ q11) .n))))) (by kernel_rfl)
    |_=>
     dsimp only at hf;obtain rfl:=oi hf;exact ZaK Zam 12 _ _ R3 [false] (rA [(3,.id 462)]) 3 ⟨[(100000,100000)],pvOf q10⟩ (O4.app (.c h6 (.c (Zbt _ _ _ _ q10) (.c ZfZ .n)))) (by kernel_rfl)
  |_=>
   dsimp only at hf;obtain rfl:=oi hf;exact ZaK Zam 5 _ _ R1 [] (rA [(1,aG (Zap.c x2)),(5,.id 463)]) 5 ⟨[(100000,100000)],pvOf q3⟩ (O2.app (.c (ZaQ _ _ _ _ q3) (.c Zet .n))) (by kernel_rfl)
 |_=>
  dsimp only at hf;obtain rfl:=oi hf;exact ZaK Zam 3 _ _ [rz] [] (rA [(1,.id 464)]) 1 ⟨[(100000,100000)],pvOf q1⟩ (.c (Zcg _ _ _ _ q1) (.c ZiL .n)) (by kernel_rfl)
def ZnP(a0:Zax)(a1:ZaB):Option Zkq:=(ZkT a1).bind fun x1=>bif(!x1)then some (Zkq.c109 (ZaF.mk a0 a1))else bif(a1.fKind==(3:Int))then some (Zkq.c110 (ZaF.mk a0 a1))else bif(a1.fKind==(4:Int))then some (Zkq.c111 (ZaF.mk a0 a1))else bif(a1.fKind==(13:Int))then some (Zkq.c112 (ZaF.mk a0 a1))else some (Zkq.c109 (ZaF.mk a0 a1))
theorem Zkx(a0:Zax)(a1:ZaB)(r:Zkq)(hf:ZnP a0 a1=some r):Zay Tryz.prog 44 [.agg (Zax.c a0),.agg (ZaB.c a1)] (.one (Zkq.c r)):=by
 refine Zay.of Tryz.func44 rfl rfl rfl rfl fun S0 w0=>?_;unfold ZnP at hf;obtain⟨x1,q1,hf⟩:=Zae hf;rcases Zal hf with⟨h2,hf⟩|⟨h2,hf⟩
 ·obtain rfl:=oi hf;exact Zak Zam 10 [rz,rz,rA [(1,aB x1)],rz] [true] [] [] [] (.c (Zmd _ _ q1) (.c h2 .n)) (by kernel_rfl) rfl
 ·rcases Zal hf with⟨h3,hf⟩|⟨h3,hf⟩
  ·obtain rfl:=oi hf;exact Zak Zam 18 [rz,rz,rA [(1,aB x1)],rz,rz,rz] [false,true] [] [] [] (.c (Zmd _ _ q1) (.c h2 (.c h3 .n))) (by kernel_rfl) rfl
  ·have O1:Obl _:=(.c (Zmd _ _ q1) (.c h2 (.c h3 .n)));rcases Zal hf with⟨h4,hf⟩|⟨h4,hf⟩
   ·obtain rfl:=oi hf;exact Zak Zam 21 [rz,rz,rA [(1,aB x1)],rz,rz,rz,rz] [false,false,true] [] [] [] (O1.app (.c h4 .n)) (by kernel_rfl) rfl
   ·rcases Zal hf with⟨h5,hf⟩|⟨h5,hf⟩
    ·obtain rfl:=oi hf;exact Zak Zam 24 [rz,rz,rA [(1,aB x1)],rz,rz,rz,rz,rz] [false,false,false,true] [] [] [] (O1.app (.c h4 (.c h5 .n))) (by kernel_rfl) rfl
    ·obtain rfl:=oi hf;exact Zak Zam 26 [rz,rz,rA [(1,aB x1)],rz,rz,rz,rz,rz] [false,false,false,false] [] [] [] (O1.app (.c h4 (.c h5 .n))) (by kernel_rfl) rfl
def Ztt:Tout Zaq→ZaX | .ret x _=>⟨Zas.d,x,true,false⟩ | .pan op=>⟨op,Zaq.d,false,false⟩ | .bad _=>⟨Zas.d,Zaq.d,false,true⟩
def ZGH:List C:=[.lit (.int .i64 (0)),.lit (.int .i64 (0)),.lit (.int .i64 (0)),.lit (.int .i64 (0)),.lit (.int .i64 (0)),.lit (.int .i64 (0)),.lit (.int .i64 (0)),.lit (.int .i64 (0)),.lit (.bool false),.lit (.int .u64 (0)),.lit (.int .u64 (0)),.lit (.int .i64 (0)),.lit (.bool false),.lit (.int .i64 (0)),.lit (.int .i64 (0)),.lit (.int .i64 (0)),.lit (.int .i64 (0)),.lit (.int .i64 (0)),.lit (.slice none 0 0),.lit (.slice none 0 0),.lit (.bool false),.lit (.int .i64 (0)),.lit (.bool false),.lit (.int .u64 (0)),.lit (.int .u64 (0)),.lit (.int .i64 (0)),.lit (.int .i64 (0)),.lit (.int .i64 (0)),.lit (.slice none 0 0),.lit (.bool false),.lit (.bool false)]
def ZHT:List (Nat×C):=[(18,cL 5 Zah.c Zah.d []),(19,cL 7 Zaa.c Zaa.d [])]
def ZHS:List (Nat×C):=[(28,cL 10 Zab.c Zab.d [])]
theorem ZHa:∀w,(do eqGuard .eql 20 (.tmp 4) (.const .nilIface) .nilIface .nilIface;binOp .eql 20 .nilIface .nilIface:Sem Value).run Tryz.prog w=.ok (.bool true) w:=by
 intro w;have hg:(eqGuard .eql 20 (.tmp 4) (.const .nilIface) .nilIface .nilIface).run Tryz.prog w=.ok () w:=by simp[eqGuard]
 rw[Sem.run_bind,hg,Result.andThen_ok];have h:∀d:Nat,(Op.equalIn (d+1) 20 .nilIface .nilIface).run Tryz.prog w=.ok true w:=fun d=>by simp[Op.equalIn,run_underlying Tryz.underlying20]
 simp only[binOp];simp[Op.equal,Op.maxDepth,h 9999]
theorem ZqK(x:Zaq)(g:Zan):ZAn Tryz.prog 65 (ZGH.take 21++Zaq.c x++[.lit (.bool true),.lit (.bool false)]) none (ZaX.c (Ztt (.ret x g))):=by
 intro no S m w hS hno hrep;refine Zup (i:=0) (d:=4) (xv:=.one (.lit .nilIface)) (x:=.nilIface) (u':=.returning) Tryz.func65 rfl (fun ρ w=>by simp[go_sem]) rfl rfl rfl (by kernel_rfl) (by kernel_rfl) hS hno hrep (fun c₀ cs hu=>by cases c₀;cases hu;simp[recoverD]) RepC.lit rfl ?_;exact ZbO Zam 6 [rA [(0,.r (.one (.lit (.bool true))) [])],rz] [true] ⟨[],[(100000,ZHT)],[],[],[],[],[100000],[]⟩ (.c ZHa (.c (show true=true from rfl) .n)) (by kernel_rfl)
theorem ZsM(op:Zas):ZAn Tryz.prog 65 ZGH (some (.one (.ifa 111 21 (fun i=>(Zas.c op).getD i .junk)))) (ZaX.c (Ztt (.pan op))):=by
 intro no S m w hS hno hrep x hx;refine Zup (i:=0) (d:=4) (xv:=_) (x:=x) (u':=.panicking [{ v:=x,recovered:=true }]) Tryz.func65 rfl (fun ρ w=>by simp[go_sem]) rfl rfl rfl (by kernel_rfl) (by kernel_rfl) hS hno hrep (fun c₀ cs hu=>by cases c₀;cases hu;simp[recoverD]) hx (by kernel_rfl) ?_;exact ZbO Zam 11 [rz,rz,rz,rz] [false,true] ⟨[],[(100000,ZHS)],[],[],[],[],[100000],[]⟩ (.c (show false=false from rfl) (.c (show true=true from rfl) .n)) (by kernel_rfl)
theorem ZsN(s:ByteArray):ZAn Tryz.prog 65 ZGH (some (.one (.ifc 9 (.lit (.string s))))) (ZaX.c (Ztt (.bad s))):=by
 intro no S m w hS hno hrep x hx;refine Zup (i:=0) (d:=4) (xv:=_) (x:=x) (u':=.panicking [{ v:=x,recovered:=true }]) Tryz.func65 rfl (fun ρ w=>by simp[go_sem]) rfl rfl rfl (by kernel_rfl) (by kernel_rfl) hS hno hrep (fun c₀ cs hu=>by cases c₀;cases hu;simp[recoverD]) hx (by kernel_rfl) ?_;exact ZbO Zam 11 [rz,rz,rz,rz] [false,false] ⟨[],[(100000,ZHT++ZHS)],[],[],[],[],[100000],[]⟩ (.c (show false=false from rfl) (.c (show false=false from rfl) .n)) (by kernel_rfl)
def ZjI(c0:ZaF)(a1:List Zad):Option ZaX:=(ZgX c0 ⟨a1⟩).map Ztt
theorem Zrd(c0:ZaF)(a1:List Zad)(r:ZaX)(hf:ZjI c0 a1=some r):Zay Tryz.prog 21 [.one (.clo (.func 109) 1 0 (fun i=>([.agv 28 (fun j=>(ZaF.c c0).getD j .junk)]:List C).getD i .junk) (fun i=>([]:List C).getD i .junk)),.one (cL 13 Zad.c Zad.d a1)] (.agg (ZaX.c r)):=by
 obtain⟨o,ho,rfl⟩:=Option.map_eq_some_iff.1 hf;have hinv:∀p w,(invoke (.fn (.func 65) #[p]) #[]).run Tryz.prog w=.ok (.enter 65 #[p]) w:=fun p w=>by simp[go_sem]
 cases o with
 |ret x g=>
  exact Zay.defR rz rz (rH [] [(5,⟨[(100000,9)],[],[(100000,.box (Zan.c g))],.agg (Zaq.c x)⟩)]) 5 4 65 Zam Tryz.func21 rfl rfl rfl rfl rfl rfl (fun ρ w p h=>by simp[go_sem,h]) (by kernel_rfl) hinv rfl rfl
   (.c (show Tryz.prog.concrete 112=true from by kernel_rfl) (.c (Zia c0 ⟨a1⟩ (.ret x g) ho) .n)) (by kernel_rfl) (ZqK x g) (by kernel_rfl) (by kernel_rfl) (by kernel_rfl)
 |pan op=>
  exact Zay.defP rz rz rz 5 4 65 5 ⟨[(100000,9)],.one (.ifa 111 21 (fun i=>(Zas.c op).getD i .junk))⟩ Zam Tryz.func21 rfl rfl rfl rfl rfl rfl (fun ρ w p h=>by simp[go_sem,h]) (by kernel_rfl) hinv rfl rfl
   (.c (show Tryz.prog.concrete 112=true from by kernel_rfl) (.c (Zia c0 ⟨a1⟩ (.pan op) ho) .n)) (by kernel_rfl) (ZsM op) (by kernel_rfl) (by kernel_rfl) (by kernel_rfl)
 |bad s=>
  exact Zay.defP rz rz rz 5 4 65 5 ⟨[(100000,9)],.one (.ifc 9 (.lit (.string s)))⟩ Zam Tryz.func21 rfl rfl rfl rfl rfl rfl (fun ρ w p h=>by simp[go_sem,h]) (by kernel_rfl) hinv rfl rfl
   (.c (show Tryz.prog.concrete 112=true from by kernel_rfl) (.c (Zia c0 ⟨a1⟩ (.bad s) ho) .n)) (by kernel_rfl) (ZsN s) (by kernel_rfl) (by kernel_rfl) (by kernel_rfl)
def ZlP(c0:ZaF)(a1:List Zad):Option ZaX:=(ZhB c0 ⟨a1⟩).map Ztt
theorem Zrc(c0:ZaF)(a1:List Zad)(r:ZaX)(hf:ZlP c0 a1=some r):Zay Tryz.prog 21 [.one (.clo (.func 110) 1 0 (fun i=>([.agv 28 (fun j=>(ZaF.c c0).getD j .junk)]:List C).getD i .junk) (fun i=>([]:List C).getD i .junk)),.one (cL 13 Zad.c Zad.d a1)] (.agg (ZaX.c r)):=by
 obtain⟨o,ho,rfl⟩:=Option.map_eq_some_iff.1 hf;have hinv:∀p w,(invoke (.fn (.func 65) #[p]) #[]).run Tryz.prog w=.ok (.enter 65 #[p]) w:=fun p w=>by simp[go_sem]
 cases o with
 |ret x g=>
  exact Zay.defR rz rz (rH [] [(5,⟨[(100000,9)],[],[(100000,.box (Zan.c g))],.agg (Zaq.c x)⟩)]) 5 4 65 Zam Tryz.func21 rfl rfl rfl rfl rfl rfl (fun ρ w p h=>by simp[go_sem,h]) (by kernel_rfl) hinv rfl rfl
   (.c (show Tryz.prog.concrete 112=true from by kernel_rfl) (.c (ZiG c0 ⟨a1⟩ (.ret x g) ho) .n)) (by kernel_rfl) (ZqK x g) (by kernel_rfl) (by kernel_rfl) (by kernel_rfl)
 |pan op=>
  exact Zay.defP rz rz rz 5 4 65 5 ⟨[(100000,9)],.one (.ifa 111 21 (fun i=>(Zas.c op).getD i .junk))⟩ Zam Tryz.func21 rfl rfl rfl rfl rfl rfl (fun ρ w p h=>by simp[go_sem,h]) (by kernel_rfl) hinv rfl rfl
   (.c (show Tryz.prog.concrete 112=true from by kernel_rfl) (.c (ZiG c0 ⟨a1⟩ (.pan op) ho) .n)) (by kernel_rfl) (ZsM op) (by kernel_rfl) (by kernel_rfl) (by kernel_rfl)
 |bad s=>
  exact Zay.defP rz rz rz 5 4 65 5 ⟨[(100000,9)],.one (.ifc 9 (.lit (.string s)))⟩ Zam Tryz.func21 rfl rfl rfl rfl rfl rfl (fun ρ w p h=>by simp[go_sem,h]) (by kernel_rfl) hinv rfl rfl
   (.c (show Tryz.prog.concrete 112=true from by kernel_rfl) (.c (ZiG c0 ⟨a1⟩ (.bad s) ho) .n)) (by kernel_rfl) (ZsN s) (by kernel_rfl) (by kernel_rfl) (by kernel_rfl)
end Go.Proofs.YtdjfoojllbfcgaaGreat
