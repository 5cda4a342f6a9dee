import Derived.Test.YtdjfoojllbfcgaaGreatQLevA0
namespace Go.Proofs.YtdjfoojllbfcgaaGreat
open Go.RowKit Go.Lib Go.Shelf
set_option linter.unusedVariables false
set_option maxRecDepth 100000
def Zfy (a0:Int):Option Int :=
  bif (decide (a0 < (0:Int))) then
    some (0:Int)
  else
    bif (decide (a0 ≥ (6:Int))) then
      some (0:Int)
    else
      need (0≤a0∧a0 < ((6:Nat):Int)) <|
      ix1 a0 0 (
        some (0:Int)) <|
      ix1 a0 1 (
        some (1:Int)) <|
      ix1 a0 2 (
        some (10:Int)) <|
      ix1 a0 3 (
        some (20:Int)) <|
      ix1 a0 4 (
        some (50:Int)) <|
      some (100:Int)
theorem Zpa (a0:Int) (r:Int) (hf:Zfy a0 = some r):Zat Tryz.prog 224 [.one (.lit (.int .i64 a0))] (.one (.lit (.int .i64 r))):=by
  refine Zat.of Tryz.func224 rfl rfl rfl rfl fun S0 w0 =>?_
  unfold Zfy at hf
  rcases Zaj hf with ⟨h1,hf⟩ | ⟨h1,hf⟩
  · obtain rfl:=oi hf
    exact Zai Zak 10 [rz,rz,rB [(2,true)],rz] [true] [] [] [] (.c h1 (.c (show true = true from rfl) .n)) (by kernel_rfl) rfl
  · rcases Zaj hf with ⟨h2,hf⟩ | ⟨h2,hf⟩
    · obtain rfl:=oi hf
      exact Zai Zak 10 [rz,rz,rB [(2,false)],rz] [true] [] [] [] (.c h1 (.c h2 .n)) (by kernel_rfl) rfl
    · obtain ⟨o3,hf⟩:=Zas hf
      rcases ZoV hf with ⟨e,hf⟩ | ⟨o3_0,hf⟩
      · subst e
        obtain rfl:=oi hf
        exact Zai Zak 11 [rz,rz,rB [(2,false)],rz] [false] [] [] [] (.c h1 (.c h2 (.c (show 0≤(0:Int)∧(0:Int) < ((6:Nat):Int) from (by decide)) .n))) (by kernel_rfl) rfl
      rcases ZoV hf with ⟨e,hf⟩ | ⟨o3_1,hf⟩
      · subst e
        obtain rfl:=oi hf
        exact Zai Zak 11 [rz,rz,rB [(2,false)],rz] [false] [] [] [] (.c h1 (.c h2 (.c (show 0≤(1:Int)∧(1:Int) < ((6:Nat):Int) from (by decide)) .n))) (by kernel_rfl) rfl
      rcases ZoV hf with ⟨e,hf⟩ | ⟨o3_2,hf⟩
      · subst e
        obtain rfl:=oi hf
        exact Zai Zak 11 [rz,rz,rB [(2,false)],rz] [false] [] [] [] (.c h1 (.c h2 (.c (show 0≤(2:Int)∧(2:Int) < ((6:Nat):Int) from (by decide)) .n))) (by kernel_rfl) rfl
      rcases ZoV hf with ⟨e,hf⟩ | ⟨o3_3,hf⟩
      · subst e
        obtain rfl:=oi hf
        exact Zai Zak 11 [rz,rz,rB [(2,false)],rz] [false] [] [] [] (.c h1 (.c h2 (.c (show 0≤(3:Int)∧(3:Int) < ((6:Nat):Int) from (by decide)) .n))) (by kernel_rfl) rfl
      rcases ZoV hf with ⟨e,hf⟩ | ⟨o3_4,hf⟩
      · subst e
        obtain rfl:=oi hf
        exact Zai Zak 11 [rz,rz,rB [(2,false)],rz] [false] [] [] [] (.c h1 (.c h2 (.c (show 0≤(4:Int)∧(4:Int) < ((6:Nat):Int) from (by decide)) .n))) (by kernel_rfl) rfl
      obtain rfl:a0 = 5:=by omega
      obtain rfl:=oi hf
      exact Zai Zak 11 [rz,rz,rB [(2,false)],rz] [false] [] [] [] (.c h1 (.c h2 (.c (show 0≤(5:Int)∧(5:Int) < ((6:Nat):Int) from (by decide)) .n))) (by kernel_rfl) rfl
def ZfY (a0:Int):Option Int :=
  some (if (1099511627776:Int) < (if (0:Int) > a0 then (0:Int) else a0) then (1099511627776:Int) else (if (0:Int) > a0 then (0:Int) else a0))
theorem Zfk (a0:Int) (r:Int) (hf:ZfY a0 = some r):Zat Tryz.prog 230 [.one (.lit (.int .i64 a0))] (.one (.lit (.int .i64 r))):=by
  refine Zat.of Tryz.func230 rfl rfl rfl rfl fun S0 w0 =>?_
  unfold ZfY at hf
  obtain rfl:=oi hf
  exact Zai Zak 4 [rz,rz] [] [] [] [] .n (by kernel_rfl) rfl
def ZnH (a0:Zah):Option Zah :=
  (ZfY a0.fAt).bind fun x1 =>
  some (Zah.mk (if (1099511627776:Int) < (if (0:Int) > a0.fPoints then (0:Int) else a0.fPoints) then (1099511627776:Int) else (if (0:Int) > a0.fPoints then (0:Int) else a0.fPoints)) x1)
theorem ZtN (a0:Zah) (r:Zah) (hf:ZnH a0 = some r):Zat Tryz.prog 380 [.agg (Zah.c a0)] (.agg (Zah.c r)):=by
  refine Zat.of Tryz.func380 rfl rfl rfl rfl fun S0 w0 =>?_
  unfold ZnH at hf
  obtain ⟨x1,q1,hf⟩:=bind_some' hf
  obtain rfl:=oi hf
  exact Zai Zak 4 [rz,rA [(6,aI x1)]] [] [] [] [] (.c (Zfk _ _ q1) .n) (by kernel_rfl) rfl
def Zpb (a0:Int) (a1:Int):Option Int :=
  (ZfY a0).bind fun x1 =>
  (ZfY a1).bind fun x2 =>
  (ZfY (Zja x1 x2)).bind fun x3 =>
  some x3
theorem ZuU (a0:Int) (a1:Int) (r:Int) (hf:Zpb a0 a1 = some r):Zat Tryz.prog 381 [.one (.lit (.int .i64 a0)),.one (.lit (.int .i64 a1))] (.one (.lit (.int .i64 r))):=by
  refine Zat.of Tryz.func381 rfl rfl rfl rfl fun S0 w0 =>?_
  unfold Zpb at hf
  obtain ⟨x1,q1,hf⟩:=bind_some' hf
  obtain ⟨x2,q2,hf⟩:=bind_some' hf
  obtain ⟨x3,q3,hf⟩:=bind_some' hf
  obtain rfl:=oi hf
  exact Zai Zak 4 [rz,rA [(1,aI x1),(3,aI x2),(5,aI x3)]] [] [] [] [] (.c (Zfk _ _ q1) (.c (Zfk _ _ q2) (.c (Zfk _ _ q3) .n))) (by kernel_rfl) rfl
def Zjx (a0:Zah) (a1:Int) (a2:Int):Option Zah :=
  (ZnH a0).bind fun x1 =>
  (Zpb a2 x1.fAt).bind fun x2 =>
  need ((if (1073741824:Int) < (if (1:Int) > a1 then (1:Int) else a1) then (1073741824:Int) else (if (1:Int) > a1 then (1:Int) else a1)) ≠ 0) <|
  need (0≤(if (41:Int) < (IntKind.wrap .i64 (Int.tdiv x2 (if (1073741824:Int) < (if (1:Int) > a1 then (1:Int) else a1) then (1073741824:Int) else (if (1:Int) > a1 then (1:Int) else a1)))) then (41:Int) else (IntKind.wrap .i64 (Int.tdiv x2 (if (1073741824:Int) < (if (1:Int) > a1 then (1:Int) else a1) then (1073741824:Int) else (if (1:Int) > a1 then (1:Int) else a1)))))) <|
  some (Zah.mk (Int.fdiv x1.fPoints (2 ^ (min (if (41:Int) < (IntKind.wrap .i64 (Int.tdiv x2 (if (1073741824:Int) < (if (1:Int) > a1 then (1:Int) else a1) then (1073741824:Int) else (if (1:Int) > a1 then (1:Int) else a1)))) then (41:Int) else (IntKind.wrap .i64 (Int.tdiv x2 (if (1073741824:Int) < (if (1:Int) > a1 then (1:Int) else a1) then (1073741824:Int) else (if (1:Int) > a1 then (1:Int) else a1))))).toNat (IntKind.bits .i64)))) (ZaD x1.fAt (Zqe (IntKind.wrap .i64 (Int.tdiv x2 (if (1073741824:Int) < (if (1:Int) > a1 then (1:Int) else a1) then (1073741824:Int) else (if (1:Int) > a1 then (1:Int) else a1)))) (if (1073741824:Int) < (if (1:Int) > a1 then (1:Int) else a1) then (1073741824:Int) else (if (1:Int) > a1 then (1:Int) else a1)))))
theorem ZrA (a0:Zah) (a1:Int) (a2:Int) (r:Zah) (hf:Zjx a0 a1 a2 = some r):Zat Tryz.prog 343 [.agg (Zah.c a0),.one (.lit (.int .i64 a1)),.one (.lit (.int .i64 a2))] (.agg (Zah.c r)):=by
  refine Zat.of Tryz.func343 rfl rfl rfl rfl fun S0 w0 =>?_
  unfold Zjx at hf
  obtain ⟨x1,q1,hf⟩:=bind_some' hf
  obtain ⟨x2,q2,hf⟩:=bind_some' hf
  obtain ⟨o3,hf⟩:=Zas hf
  obtain ⟨o4,hf⟩:=Zas hf
  obtain rfl:=oi hf
  exact Zai Zak 10 [rz,rA [(1,aG (Zah.c x1))],rz,rA [(3,aI x2)],rz] [] [] [] [] (.c (ZtN _ _ q1) (.c (ZuU _ _ _ q2) (.c o3 (.c o4 .n)))) (by kernel_rfl) rfl
def Zpc (a0:Int) (a1:Int):Option Int :=
  (ZfY a0).bind fun x1 =>
  (ZfY a1).bind fun x2 =>
  bif (decide (x1 > (0:Int))) then
    need (x1 ≠ 0) <|
    bif (decide (x2 > (IntKind.wrap .i64 (Int.tdiv (1099511627776:Int) x1)))) then
      some (1099511627776:Int)
    else
      some (Zqe x1 x2)
  else
    some (Zqe x1 x2)
theorem ZuV (a0:Int) (a1:Int) (r:Int) (hf:Zpc a0 a1 = some r):Zat Tryz.prog 344 [.one (.lit (.int .i64 a0)),.one (.lit (.int .i64 a1))] (.one (.lit (.int .i64 r))):=by
  refine Zat.of Tryz.func344 rfl rfl rfl rfl fun S0 w0 =>?_
  unfold Zpc at hf
  obtain ⟨x1,q1,hf⟩:=bind_some' hf
  obtain ⟨x2,q2,hf⟩:=bind_some' hf
  have O1:Obl _:=(.c (Zfk _ _ q1) (.c (Zfk _ _ q2) .n))
  rcases Zaj hf with ⟨h3,hf⟩ | ⟨h3,hf⟩
  · obtain ⟨o4,hf⟩:=Zas hf
    let R2:List RA:=[rz,rA [(1,aI x1),(3,aI x2)],rB [(2,true)],rz]
    rcases Zaj hf with ⟨h5,hf⟩ | ⟨h5,hf⟩
    · obtain rfl:=oi hf
      exact Zai Zak 10 R2 [true] [] [] [] (O1.app (.c h3 (.c o4 (.c h5 .n)))) (by kernel_rfl) rfl
    · obtain rfl:=oi hf
      exact Zai Zak 11 R2 [false] [] [] [] (O1.app (.c h3 (.c o4 (.c h5 .n)))) (by kernel_rfl) rfl
  · obtain rfl:=oi hf
    exact Zai Zak 11 [rz,rA [(1,aI x1),(3,aI x2)],rB [(2,false)],rz] [false] [] [] [] (O1.app (.c h3 (.c (show false = false from rfl) .n))) (by kernel_rfl) rfl
def Zkl (a0:Int) (a1:Int):Option Int :=
  (ZfY a0).bind fun x1 =>
  (ZfY a1).bind fun x2 =>
  (ZfY (ZaD x1 x2)).bind fun x3 =>
  some x3
theorem ZmZ (a0:Int) (a1:Int) (r:Int) (hf:Zkl a0 a1 = some r):Zat Tryz.prog 294 [.one (.lit (.int .i64 a0)),.one (.lit (.int .i64 a1))] (.one (.lit (.int .i64 r))):=by
  refine Zat.of Tryz.func294 rfl rfl rfl rfl fun S0 w0 =>?_
  unfold Zkl at hf
  obtain ⟨x1,q1,hf⟩:=bind_some' hf
  obtain ⟨x2,q2,hf⟩:=bind_some' hf
  obtain ⟨x3,q3,hf⟩:=bind_some' hf
  obtain rfl:=oi hf
  exact Zai Zak 4 [rz,rA [(1,aI x1),(3,aI x2),(5,aI x3)]] [] [] [] [] (.c (Zfk _ _ q1) (.c (Zfk _ _ q2) (.c (Zfk _ _ q3) .n))) (by kernel_rfl) rfl
def Zii (a0:Zah) (a1:Int) (a2:Int) (a3:Int):Option Zah :=
  (Zjx a0 a2 a3).bind fun x1 =>
  (Zpc a1 (65536:Int)).bind fun x2 =>
  (Zkl x1.fPoints x2).bind fun x3 =>
  some (Zah.mk x3 x1.fAt)
theorem Zsm (a0:Zah) (a1:Int) (a2:Int) (a3:Int) (r:Zah) (hf:Zii a0 a1 a2 a3 = some r):Zat Tryz.prog 292 [.agg (Zah.c a0),.one (.lit (.int .i64 a1)),.one (.lit (.int .i64 a2)),.one (.lit (.int .i64 a3))] (.agg (Zah.c r)):=by
  refine Zat.of Tryz.func292 rfl rfl rfl rfl fun S0 w0 =>?_
  unfold Zii at hf
  obtain ⟨x1,q1,hf⟩:=bind_some' hf
  obtain ⟨x2,q2,hf⟩:=bind_some' hf
  obtain ⟨x3,q3,hf⟩:=bind_some' hf
  obtain rfl:=oi hf
  exact Zai Zak 8 [rz,rA [(3,aG (Zah.c x1))],rA [(3,aI x2),(4,aI x3)],rz] [] [] [] [] (.c (ZrA _ _ _ _ q1) (.c (ZuV _ _ _ q2) (.c (ZmZ _ _ _ q3) .n))) (by kernel_rfl) rfl
def ZiC (a0:Zaa) (a1:Int) (a2:Int) (a3:Int):Option Zaa :=
  (Zii a0.fScore a1 a2 a3).bind fun x1 =>
  some (Zaa.mk a0.fEnd a0.fIn a0.fSince x1 a0.fPing a0.fWork)
theorem Zqj (a0:Zaa) (a1:Int) (a2:Int) (a3:Int) (r:Zaa) (hf:ZiC a0 a1 a2 a3 = some r):Zat Tryz.prog 223 [.agg (Zaa.c a0),.one (.lit (.int .i64 a1)),.one (.lit (.int .i64 a2)),.one (.lit (.int .i64 a3))] (.agg (Zaa.c r)):=by
  refine Zat.of Tryz.func223 rfl rfl rfl rfl fun S0 w0 =>?_
  unfold ZiC at hf
  obtain ⟨x1,q1,hf⟩:=bind_some' hf
  obtain rfl:=oi hf
  exact Zai Zak 6 [rz,rA [(5,aG (Zah.c x1))],rz] [] [] [] [] (.c (Zsm _ _ _ _ _ q1) .n) (by kernel_rfl) rfl
def Zhq (a0:Zah) (a1:Int):Option Bool :=
  some (decide (a0.fPoints ≥ (Zqe (if (16777216:Int) < (if (1:Int) > a1 then (1:Int) else a1) then (16777216:Int) else (if (1:Int) > a1 then (1:Int) else a1)) (65536:Int))))
theorem ZoZ (a0:Zah) (a1:Int) (r:Bool) (hf:Zhq a0 a1 = some r):Zat Tryz.prog 225 [.agg (Zah.c a0),.one (.lit (.int .i64 a1))] (.one (.lit (.bool r))):=by
  refine Zat.of Tryz.func225 rfl rfl rfl rfl fun S0 w0 =>?_
  unfold Zhq at hf
  obtain rfl:=oi hf
  exact Zai Zak 4 [rz,rz] [] [] [] [] .n (by kernel_rfl) rfl
def Zes (a0:Zav) (a1:Zaa):Option (Zaa × Bool) :=
  (Zfy a0.fx.fNum).bind fun x1 =>
  (ZiC a1 x1 a0.fc.fHalf a0.fx.fNow).bind fun x2 =>
  (Zhq x2.fScore a0.fc.fLimit).bind fun x3 =>
  some (x2,x3)
theorem ZiV (a0:Zav) (a1:Zaa) (r:(Zaa × Bool)) (hf:Zes a0 a1 = some r):Zat Tryz.prog 142 [.agg (Zav.c a0),.agg (Zaa.c a1)] (.tup [(true,Zaa.c r.1),(false,cB r.2)]):=by
  refine Zat.of Tryz.func142 rfl rfl rfl rfl fun S0 w0 =>?_
  unfold Zes at hf
  obtain ⟨x1,q1,hf⟩:=bind_some' hf
  obtain ⟨x2,q2,hf⟩:=bind_some' hf
  obtain ⟨x3,q3,hf⟩:=bind_some' hf
  obtain rfl:=oi hf
  exact Zai Zak 6 [rz,rA [(4,aI x1),(11,aG (Zaa.c x2))],rA [(6,aB x3)]] [] [] [] [] (.c (Zpa _ _ q1) (.c (Zqj _ _ _ _ _ q2) (.c (ZoZ _ _ _ q3) .n))) (by kernel_rfl) rfl
def ZdJ (a0:Zav) (a1:Zal) (a2:Int) (a3:Zaa):Option (Tout Unit) :=
  (ZdI a0).bind fun x1 =>
  (Zcf a1 (Zan.mk (6:Int) x1 a2) (Zae.mk (0:Int) a3 ([]:(List Zab)) ([]:(List Zac))) true).bind fun x2 =>
  (match x2 with
  | .ret x2v x2g =>
    some (Tout.ret () x2g)
  | .pan x2o =>
    some (Tout.pan x2o)
  | .bad x2s =>
    some (Tout.bad x2s))
theorem Zcz (a0:Zav) (a1:Zal) (a2:Int) (a3:Zaa) (r:(Tout Unit)) (hf:ZdJ a0 a1 a2 a3 = some r):ZfM Tryz.prog 143 [(100000,.box (Zal.c a1))] [.agg (Zav.c a0),.one (.ifc 112 (.ptr 100000 0)),.one (.lit (.int .i64 a2)),.agg (Zaa.c a3)] (oc (fun x =>.tup []) r):=by
  refine ZfM.of Tryz.func143 rfl rfl rfl rfl fun S0 w0 =>?_
  unfold ZdJ at hf
  obtain ⟨x1,q1,hf⟩:=bind_some' hf
  have O1:Obl _:=(.c (Zgu _ _ q1) (.c ZlV .n))
  obtain ⟨x2,q2,hf⟩:=bind_some' hf
  cases x2 with
  | ret x2v x2g =>
    dsimp only at hf
    obtain rfl:=oi hf
    exact Zcg Zak 3 [rz,⟨[(2,aI x1),(10,.id 467)],[],[],[],[(6,[(11,cL 5 Zab.c Zab.d []),(12,cL 7 Zac.c Zac.d [])])],[],[(10,⟨[(100000,100000)],[],[(100000,.box (Zal.c x2g))],.tup []⟩)]⟩] [] ⟨[],[],[],[],[],[],[100000],[]⟩ [100000] (O1.app (.c (ZbS _ _ _ _ _ q2) (.c ZgY .n))) (by kernel_rfl)
  | _ =>
    dsimp only at hf
    obtain rfl:=oi hf
    exact ZaC Zak 2 _ _ [rz] [] (⟨[(2,aI x1),(10,.id 467)],[],[],[],[(6,[(11,cL 5 Zab.c Zab.d []),(12,cL 7 Zac.c Zac.d [])])],[],[]⟩) 10 ⟨[(100000,100000)],pvOf q2⟩ (O1.app (.c (ZbS _ _ _ _ _ q2) (.c ZgY .n))) (by kernel_rfl)
def ZfX (a0:Zah):Option Int :=
  some (IntKind.wrap .i64 (Int.tdiv (if (0:Int) > a0.fPoints then (0:Int) else a0.fPoints) (65536:Int)))
theorem Zmv (a0:Zah) (r:Int) (hf:ZfX a0 = some r):Zat Tryz.prog 144 [.agg (Zah.c a0)] (.one (.lit (.int .i64 r))):=by
  refine Zat.of Tryz.func144 rfl rfl rfl rfl fun S0 w0 =>?_
  unfold ZfX at hf
  obtain rfl:=oi hf
  exact Zai Zak 4 [rz,rz] [] [] [] [] (.c (show (65536:Int) ≠ 0 from (by decide)) .n) (by kernel_rfl) rfl
def Zkx (a0:Zab):Option Bool :=
  (Zhx a0.fNet).bind fun x1 =>
  bif x1 then
    bif (decide (a0.fUntil ≥ (1:Int))) then
      some (decide (a0.fUntil≤(1099511627776:Int)))
    else
      some false
  else
    some false
theorem Zof (a0:Zab) (r:Bool) (hf:Zkx a0 = some r):Zat Tryz.prog 345 [.agg (Zab.c a0)] (.one (.lit (.bool r))):=by
  refine Zat.of Tryz.func345 rfl rfl rfl rfl fun S0 w0 =>?_
  unfold Zkx at hf
  obtain ⟨x1,q1,hf⟩:=bind_some' hf
  rcases Zaj hf with ⟨h2,hf⟩ | ⟨h2,hf⟩
  · rcases Zaj hf with ⟨h3,hf⟩ | ⟨h3,hf⟩
    · obtain rfl:=oi hf
      exact Zai Zak 4 [rz,⟨[(2,aB x1)],[(3,true),(8,true)],[],[],[],[],[]⟩] [] [] [] [] (.c (ZgG _ _ q1) (.c h2 (.c h3 .n))) (by kernel_rfl) rfl
    · obtain rfl:=oi hf
      exact Zai Zak 4 [rz,⟨[(2,aB x1)],[(3,true),(8,false)],[],[],[],[],[]⟩] [] [] [] [] (.c (ZgG _ _ q1) (.c h2 (.c h3 .n))) (by kernel_rfl) rfl
  · obtain rfl:=oi hf
    exact Zai Zak 4 [rz,⟨[(2,aB x1)],[(3,false)],[],[],[],[],[]⟩] [] [] [] [] (.c (ZgG _ _ q1) (.c h2 .n)) (by kernel_rfl) rfl
def Zcj (a0:(List Zab)):Option (List Zab) :=
  need (0 < a0.length) <|
  need ((([]:List Zab) ++ a0).length * 40≤140737488355328∧(([]:List Zab) ++ a0).length≤maxLen) <|
  some (([]:List Zab) ++ a0)
theorem Zfq (a0:(List Zab)) (r:(List Zab)) (hf:Zcj a0 = some r):ZdL Tryz.prog 323 [] [.one (cL 5 Zab.c Zab.d a0)] [(99999,.rows 146 5 r.length (Zaq Zab.c Zab.d r))] (.one (.osl 99999 r.length)):=by
  refine ZdL.of Tryz.func323 rfl rfl rfl rfl fun S0 w0 =>?_
  unfold Zcj at hf
  obtain ⟨o1,hf⟩:=Zas hf
  obtain ⟨o2,hf⟩:=Zas hf
  obtain rfl:=oi hf
  exact Zdc Zak 9 [rz,rz,rA [(0,.c ([]:List Zab).length (Zaq Zab.c Zab.d ([]:List Zab))),(2,.c ((([]:List Zab) ++ a0).length) (Zaq Zab.c Zab.d (([]:List Zab) ++ a0)))]] [false] ⟨[],[],[],[],[],[2],[7],[(7,99999)]⟩ (.c o1 (.c (show false = false from rfl) (.c (show ([]:List Zab).length = 0 from rfl) (.c (show ∀ i j,i < 0→j < 5→Zaq Zab.c Zab.d ([]:List Zab) i j = (([]:List Zab).flatMap Zab.c).getD (i * 5 + j) .junk from (fun i j hi hj =>ZaS (sz:=5) (e:=Zab.c) (d:=Zab.d) (fun _ =>rfl) ([]:List Zab) i j hi hj)) (.c (ZfF (sz:=5) (e:=Zab.c) (d:=Zab.d) ([]:List Zab) a0) (.c o2.1 (.c o2.2 .n))))))) (by kernel_rfl)
theorem ZfL (x:Addr) (cap:Nat) (c:Nat→Nat→C):ZdL Tryz.prog 323 [] [.one (.lit (.slice (some x) 0 cap))] [(99999,.rows 146 5 0 c)] (.one (.osl 99999 0)):=by
  refine ZdL.of Tryz.func323 rfl rfl rfl rfl fun S0 w0 =>?_
  exact Zif Zak 9 _ _ [⟨[],[],[],[],[],[],[]⟩,⟨[(1,.r (.one (.lit (.bool false))) [])],[],[],[],[],[],[]⟩,⟨[(0,.c 0 c),(2,.c 0 c)],[],[],[],[],[],[]⟩] [false] ⟨[],[],[],[],[],[2],[7],[(7,99999)]⟩
    [∀ w,(do eqGuard .eql 45 (.tmp 3) (.const (.slice none 0 0)) (.slice (some x) 0 cap) (.slice none 0 0); binOp .eql 45 (.slice (some x) 0 cap) (.slice none 0 0):Sem Value).run Tryz.prog w = .ok (.bool false) w,false = false,0 = 0,∀ i j,i < 0→j < 5→c i j = ([]:List C).getD (i * 5 + j) .junk,Ext 5 0 0 c (fun _ _ =>.junk) 0 c,0 * 40≤140737488355328,0≤maxLen] (by kernel_rfl) ⟨fun w =>by
      have hg:(eqGuard .eql 45 (.tmp 3) (.const (.slice none 0 0)) (.slice (some x) 0 cap) (.slice none 0 0)).run Tryz.prog w = .ok () w:=by simp [eqGuard]
      rw [Sem.run_bind,hg,Result.andThen_ok]
      exact Go.run_eql_slice_nil w _ _ (some x) 0 cap Tryz.underlying45,rfl,rfl,fun i j h =>absurd h (Nat.not_lt_zero i),⟨rfl,fun _ _ h =>absurd h (Nat.not_lt_zero _),fun _ _ h =>absurd h (Nat.not_lt_zero _)⟩,by decide,by decide,trivial⟩
theorem ZfK (cap:Nat) (c:Nat→Nat→C):ZdL Tryz.prog 323 [] [.one (.lit (.slice none 0 cap))] [(99999,.rows 146 5 0 c)] (.one (.osl 99999 0)):=by
  refine ZdL.of Tryz.func323 rfl rfl rfl rfl fun S0 w0 =>?_
  exact Zif Zak 8 _ _ [⟨[],[],[],[],[],[],[]⟩,⟨[(1,.r (.one (.lit (.bool true))) [])],[],[],[],[],[],[]⟩,⟨[],[],[],[],[],[],[]⟩] [true] ⟨[],[],[],[],[(2,99999,146,5,c)],[2],[99999],[]⟩
    [∀ w,(do eqGuard .eql 45 (.tmp 3) (.const (.slice none 0 0)) (.slice none 0 cap) (.slice none 0 0); binOp .eql 45 (.slice none 0 cap) (.slice none 0 0):Sem Value).run Tryz.prog w = .ok (.bool true) w,true = true] (by kernel_rfl) ⟨fun w =>by
      have hg:(eqGuard .eql 45 (.tmp 3) (.const (.slice none 0 0)) (.slice none 0 cap) (.slice none 0 0)).run Tryz.prog w = .ok () w:=by simp [eqGuard]
      rw [Sem.run_bind,hg,Result.andThen_ok]
      exact Go.run_eql_slice_nil w _ _ none 0 cap Tryz.underlying45,rfl,trivial⟩
def ZbE (a0:List Zab):Option (List Zab) :=
  need (a0.length * 40≤140737488355328∧a0.length≤maxLen) <|
  some a0
theorem ZfJ (a0:List Zab) (r:List Zab) (hf:ZbE a0 = some r):ZdL Tryz.prog 323 [] [.one (cL 5 Zab.c Zab.d a0)] [(99999,.rows 146 5 r.length (Zaq Zab.c Zab.d r))] (.one (.osl 99999 r.length)):=by
  obtain ⟨o1,hf⟩:=Zas hf
  cases hf
  refine ZoA ⟨_,Tryz.func323,rfl,rfl⟩ (fun h cap =>?_) (fun h x cap =>?_) (fun h =>?_)
  · rw [h]; exact ZfK cap _
  · rw [h]; exact ZfL x cap _
  · refine Zfq a0 a0 ?_
    unfold Zcj
    rw [ZnD h,ZnD (by simpa using o1)]
    simp
def ZjV (a0:Zab) (c0:Zap):Option Bool :=
  some (decide (a0.fNet = c0))
theorem Zqn (a0:Zab) (c0:Zap) (r:Bool) (hf:ZjV a0 c0 = some r):Zat Tryz.prog 364 [.agg (Zab.c a0),.one (.rp false 4 (fun j =>(Zap.c c0:List C).getD (0 + j) .junk))] (.one (.lit (.bool r))):=by
  refine Zat.of Tryz.func364 rfl rfl rfl rfl fun S0 w0 =>?_
  unfold ZjV at hf
  obtain rfl:=oi hf
  exact Zai Zak 4 [rz,rA [(3,aB (decide (a0.fNet = c0)))]] [] [] [] [] (.c (ZjX a0.fNet c0 (.tmp 5) (.tmp 6)) .n) (by kernel_rfl) rfl
def ZaJ (a0:(List Zab)) (a1_0:Zap)  : Nat→Int→Int→Option Int
  | 0,_,_ =>none
  | fu + 1,v7,v8 =>
    bif (decide (v8 < v7)) then
      need (0≤v8∧v8 < ((a0.length:Nat):Int)) <|
      (ZjV (a0.getD v8.toNat Zab.d) a1_0).bind fun x1 =>
      bif x1 then
        some v8
      else
        ZaJ a0 a1_0  fu v7 (ZaD v8 (1:Int))
    else
      some (-1:Int)
theorem ZgH (S0:Nat→Prop) (w0:Zbh) (a0:(List Zab)) (a1_0:Zap)  : ∀ (fu:Nat) (v7:Int) (v8:Int) (r:Int),ZaJ a0 a1_0  fu v7 v8 = some r→Good Tryz.prog 19 S0 w0 (bodyPost Tryz.prog Tryz.f347 (Post S0 w0 (.one (.lit (.int .i64 r))))) (at_ [1,0,1,0] (ZbM Tryz.f347)) ⟨[(0,.one (cL 5 Zab.c Zab.d a0)),(1,.one (.clo (.func 364) 0 1 (fun i =>([]:List C).getD i .junk) (fun i =>([.rp false 4 (fun j =>(Zap.c a1_0:List C).getD (0 + j) .junk)]:List C).getD i .junk))),(7,.one (.lit (.int .i64 v7))),(8,.one (.lit (.int .i64 v8)))],[]⟩:=by
  intro fu
  induction fu with
  | zero =>
    intro v7 v8 r hf
    simp [ZaJ] at hf
  | succ fu ih =>
    intro v7 v8 r hf
    unfold ZaJ at hf
    rcases Zaj hf with ⟨h1,hf⟩ | ⟨h1,hf⟩
    · obtain ⟨o2,hf⟩:=Zas hf
      obtain ⟨x1,q3,hf⟩:=bind_some' hf
      have O1:Obl _:=(.c h1 (.c o2 (.c (Zqn _ _ _ q3) .n)))
      rcases Zaj hf with ⟨h4,hf⟩ | ⟨h4,hf⟩
      · obtain rfl:=oi hf
        exact Zai Zak 15 [rz,rz,rA [(5,aB x1)],rz] [true,true] [] [] [] (O1.app (.c h4 .n)) (by kernel_rfl) rfl
      · exact ZaI Zak Post.ends 17 [rz,rz,rA [(5,aB x1)],rz] [true,false] ⟨[],[],[],[],[],[0,1,7,8],[],[]⟩ (O1.app (.c h4 .n)) (by kernel_rfl) (ih v7 (ZaD v8 (1:Int)) r hf)
    · obtain rfl:=oi hf
      exact Zai Zak 8 [rz,rz] [false] [] [] [] (.c h1 .n) (by kernel_rfl) rfl
def Zcr (a0:(List Zab)) (a1_0:Zap):Option Int :=
  ZaJ a0 a1_0  ((((a0.length:Nat):Int) - (0:Int)).toNat + 2) ((a0.length:Nat):Int) (0:Int)
theorem Zhc (a0:(List Zab)) (a1_0:Zap) (r:Int) (hf:Zcr a0 a1_0 = some r):Zat Tryz.prog 347 [.one (cL 5 Zab.c Zab.d a0),.one (.clo (.func 364) 0 1 (fun i =>([]:List C).getD i .junk) (fun i =>([.rp false 4 (fun j =>(Zap.c a1_0:List C).getD (0 + j) .junk)]:List C).getD i .junk))] (.one (.lit (.int .i64 r))):=by
  refine Zat.of Tryz.func347 rfl rfl rfl rfl fun S0 w0 =>?_
  unfold Zcr at hf
  exact ZaI Zak Post.ends 6 [rz,rz] [] ⟨[],[],[],[],[],[0,1,7,8],[],[]⟩ .n (by kernel_rfl) (ZgH S0 w0 a0 a1_0   ((((a0.length:Nat):Int) - (0:Int)).toNat + 2) ((a0.length:Nat):Int) (0:Int) r hf)
def Zkw (a0:(List Zab)) (a1:Zap):Option Int :=
  (Zcr a0 a1).bind fun x1 =>
  some x1
theorem Zss (a0:(List Zab)) (a1:Zap) (r:Int) (hf:Zkw a0 a1 = some r):Zat Tryz.prog 321 [.one (cL 5 Zab.c Zab.d a0),.agg (Zap.c a1)] (.one (.lit (.int .i64 r))):=by
  refine Zat.of Tryz.func321 rfl rfl rfl rfl fun S0 w0 =>?_
  unfold Zkw at hf
  obtain ⟨x1,q1,hf⟩:=bind_some' hf
  obtain rfl:=oi hf
  exact Zai Zak 4 [rz,⟨[(2,aI x1)],[],[(1,[3])],[],[],[],[]⟩] [] [] [] [] (.c (Zhc _ _ _ q1) .n) (by kernel_rfl) rfl
def ZnI (a0:Zab) (a1:Zab):Option Zab :=
  bif (decide (a0.fNet = a1.fNet)) then
    some (Zab.mk a0.fNet (if a1.fUntil > a0.fUntil then a1.fUntil else a0.fUntil))
  else
    some a0
theorem ZtQ (a0:Zab) (a1:Zab) (r:Zab) (hf:ZnI a0 a1 = some r):Zat Tryz.prog 346 [.agg (Zab.c a0),.agg (Zab.c a1)] (.agg (Zab.c r)):=by
  refine Zat.of Tryz.func346 rfl rfl rfl rfl fun S0 w0 =>?_
  unfold ZnI at hf
  let R1:List RA:=[rz,rA [(4,aB (decide (a0.fNet = a1.fNet)))],rz]
  have O2:Obl _:=(.c (ZjX a0.fNet a1.fNet (.tmp 6) (.tmp 8)) .n)
  rcases Zaj hf with ⟨h1,hf⟩ | ⟨h1,hf⟩
  · obtain rfl:=oi hf
    exact Zai Zak 9 (R1 ++ [rz]) [true] [] [] [] (O2.app (.c h1 .n)) (by kernel_rfl) rfl
  · obtain rfl:=oi hf
    exact Zai Zak 9 R1 [false] [] [] [] (O2.app (.c h1 .n)) (by kernel_rfl) rfl
def ZhE (a0:Zag):Option Int :=
  bif a0.fV6 then
    some (1:Int)
  else
    some (0:Int)
theorem Zmw (a0:Zag) (r:Int) (hf:ZhE a0 = some r):Zat Tryz.prog 374 [.agg (Zag.c a0)] (.one (.lit (.int .i64 r))):=by
  refine Zat.of Tryz.func374 rfl rfl rfl rfl fun S0 w0 =>?_
  unfold ZhE at hf
  rcases Zaj hf with ⟨h1,hf⟩ | ⟨h1,hf⟩
  · obtain rfl:=oi hf
    exact Zai Zak 8 [rz,rz,rz] [true] [] [] [] (.c h1 .n) (by kernel_rfl) rfl
  · obtain rfl:=oi hf
    exact Zai Zak 9 [rz,rz,rz] [false] [] [] [] (.c h1 .n) (by kernel_rfl) rfl
def Zhw (a0:Int):Option Bool :=
  some (a0 != a0)
theorem ZkS (a0:Int) (r:Bool) (hf:Zhw a0 = some r):Zat Tryz.prog 376 [.one (.lit (.int .i64 a0))] (.one (.lit (.bool r))):=by
  refine Zat.of Tryz.func376 rfl rfl rfl rfl fun S0 w0 =>?_
  unfold Zhw at hf
  obtain rfl:=oi hf
  exact Zai Zak 4 [rz,rz] [] [] [] [] .n (by kernel_rfl) rfl
def Zfv (a0:Int) (a1:Int):Option Int :=
  (Zhw a0).bind fun x1 =>
  (Zhw a1).bind fun x2 =>
  bif x1 then
    bif x2 then
      some (0:Int)
    else
      some (-1:Int)
  else
    bif x2 then
      some (1:Int)
    else
      bif (decide (a0 < a1)) then
        some (-1:Int)
      else
        bif (decide (a0 > a1)) then
          some (1:Int)
        else
          some (0:Int)
theorem ZjR (a0:Int) (a1:Int) (r:Int) (hf:Zfv a0 a1 = some r):Zat Tryz.prog 338 [.one (.lit (.int .i64 a0)),.one (.lit (.int .i64 a1))] (.one (.lit (.int .i64 r))):=by
  refine Zat.of Tryz.func338 rfl rfl rfl rfl fun S0 w0 =>?_
  unfold Zfv at hf
  obtain ⟨x1,q1,hf⟩:=bind_some' hf
  obtain ⟨x2,q2,hf⟩:=bind_some' hf
  let R1:List RA:=[rz,rA [(1,aB x1)],rA [(1,aB x2)],rz,rz,rz]
  have O2:Obl _:=(.c (ZkS _ _ q1) (.c (ZkS _ _ q2) .n))
  rcases Zaj hf with ⟨h3,hf⟩ | ⟨h3,hf⟩
  · rcases Zaj hf with ⟨h4,hf⟩ | ⟨h4,hf⟩
    · obtain rfl:=oi hf
      exact Zai Zak 16 R1 [true,true] [] [] [] (O2.app (.c h3 (.c h4 .n))) (by kernel_rfl) rfl
    · obtain rfl:=oi hf
      exact Zai Zak 17 R1 [true,false] [] [] [] (O2.app (.c h3 (.c h4 .n))) (by kernel_rfl) rfl
  · rcases Zaj hf with ⟨h5,hf⟩ | ⟨h5,hf⟩
    · obtain rfl:=oi hf
      exact Zai Zak 17 R1 [false,true] [] [] [] (O2.app (.c h3 (.c h5 .n))) (by kernel_rfl) rfl
    · rcases Zaj hf with ⟨h6,hf⟩ | ⟨h6,hf⟩
      · obtain rfl:=oi hf
        exact Zai Zak 22 (R1 ++ [rz]) [false,false,true] [] [] [] (O2.app (.c h3 (.c h5 (.c h6 .n)))) (by kernel_rfl) rfl
      · rcases Zaj hf with ⟨h7,hf⟩ | ⟨h7,hf⟩
        · obtain rfl:=oi hf
          exact Zai Zak 27 (R1 ++ [rz,rz]) [false,false,false,true] [] [] [] (O2.app (.c h3 (.c h5 (.c h6 (.c h7 .n))))) (by kernel_rfl) rfl
        · obtain rfl:=oi hf
          exact Zai Zak 28 (R1 ++ [rz,rz]) [false,false,false,false] [] [] [] (O2.app (.c h3 (.c h5 (.c h6 (.c h7 .n))))) (by kernel_rfl) rfl
def Zgn (a0:Int):Option Bool :=
  some (a0 != a0)
theorem ZjA (a0:Int) (r:Bool) (hf:Zgn a0 = some r):Zat Tryz.prog 398 [.one (.lit (.int .u64 a0))] (.one (.lit (.bool r))):=by
  refine Zat.of Tryz.func398 rfl rfl rfl rfl fun S0 w0 =>?_
  unfold Zgn at hf
  obtain rfl:=oi hf
  exact Zai Zak 4 [rz,rz] [] [] [] [] .n (by kernel_rfl) rfl
def Zef (a0:Int) (a1:Int):Option Int :=
  (Zgn a0).bind fun x1 =>
  (Zgn a1).bind fun x2 =>
  bif x1 then
    bif x2 then
      some (0:Int)
    else
      some (-1:Int)
  else
    bif x2 then
      some (1:Int)
    else
      bif (decide (a0 < a1)) then
        some (-1:Int)
      else
        bif (decide (a0 > a1)) then
          some (1:Int)
        else
          some (0:Int)
theorem ZiM (a0:Int) (a1:Int) (r:Int) (hf:Zef a0 a1 = some r):Zat Tryz.prog 375 [.one (.lit (.int .u64 a0)),.one (.lit (.int .u64 a1))] (.one (.lit (.int .i64 r))):=by
  refine Zat.of Tryz.func375 rfl rfl rfl rfl fun S0 w0 =>?_
  unfold Zef at hf
  obtain ⟨x1,q1,hf⟩:=bind_some' hf
  obtain ⟨x2,q2,hf⟩:=bind_some' hf
  let R1:List RA:=[rz,rA [(1,aB x1)],rA [(1,aB x2)],rz,rz,rz]
  have O2:Obl _:=(.c (ZjA _ _ q1) (.c (ZjA _ _ q2) .n))
  rcases Zaj hf with ⟨h3,hf⟩ | ⟨h3,hf⟩
  · rcases Zaj hf with ⟨h4,hf⟩ | ⟨h4,hf⟩
    · obtain rfl:=oi hf
      exact Zai Zak 16 R1 [true,true] [] [] [] (O2.app (.c h3 (.c h4 .n))) (by kernel_rfl) rfl
    · obtain rfl:=oi hf
      exact Zai Zak 17 R1 [true,false] [] [] [] (O2.app (.c h3 (.c h4 .n))) (by kernel_rfl) rfl
  · rcases Zaj hf with ⟨h5,hf⟩ | ⟨h5,hf⟩
    · obtain rfl:=oi hf
      exact Zai Zak 17 R1 [false,true] [] [] [] (O2.app (.c h3 (.c h5 .n))) (by kernel_rfl) rfl
    · rcases Zaj hf with ⟨h6,hf⟩ | ⟨h6,hf⟩
      · obtain rfl:=oi hf
        exact Zai Zak 22 (R1 ++ [rz]) [false,false,true] [] [] [] (O2.app (.c h3 (.c h5 (.c h6 .n)))) (by kernel_rfl) rfl
      · rcases Zaj hf with ⟨h7,hf⟩ | ⟨h7,hf⟩
        · obtain rfl:=oi hf
          exact Zai Zak 27 (R1 ++ [rz,rz]) [false,false,false,true] [] [] [] (O2.app (.c h3 (.c h5 (.c h6 (.c h7 .n))))) (by kernel_rfl) rfl
        · obtain rfl:=oi hf
          exact Zai Zak 28 (R1 ++ [rz,rz]) [false,false,false,false] [] [] [] (O2.app (.c h3 (.c h5 (.c h6 (.c h7 .n))))) (by kernel_rfl) rfl
def ZfE   : Nat→Int→(List Int)→Int→Int→Option Int
  | 0,_,_,_,_ =>none
  | fu + 1,v3,v6,v7,v8 =>
    bif (decide (v8 < v7)) then
      need (0≤v8∧v8 < ((v6.length:Nat):Int)) <|
      bif ((v6.getD v8.toNat (0:Int)) != v3) then
        some (v6.getD v8.toNat (0:Int))
      else
        ZfE   fu v3 v6 v7 (ZaD v8 (1:Int))
    else
      some v3
theorem Zpf (S0:Nat→Prop) (w0:Zbh)   : ∀ (fu:Nat) (v3:Int) (v6:(List Int)) (v7:Int) (v8:Int) (r:Int),ZfE   fu v3 v6 v7 v8 = some r→Good Tryz.prog 18 S0 w0 (bodyPost Tryz.prog Tryz.f336 (Post S0 w0 (.one (.lit (.int .i64 r))))) (at_ [1,1,0,1,0] (ZbM Tryz.f336)) ⟨[(3,.one (.lit (.int .i64 v3))),(6,.one (cL 1 (cI .i64) (0:Int) v6)),(7,.one (.lit (.int .i64 v7))),(8,.one (.lit (.int .i64 v8)))],[]⟩:=by
  intro fu
  induction fu with
  | zero =>
    intro v3 v6 v7 v8 r hf
    simp [ZfE] at hf
  | succ fu ih =>
    intro v3 v6 v7 v8 r hf
    unfold ZfE at hf
    rcases Zaj hf with ⟨h1,hf⟩ | ⟨h1,hf⟩
    · obtain ⟨o2,hf⟩:=Zas hf
      rcases Zaj hf with ⟨h3,hf⟩ | ⟨h3,hf⟩
      · obtain rfl:=oi hf
        exact Zai Zak 15 [rz,rz,rz,rz] [true,true] [] [] [] (.c h1 (.c o2 (.c h3 .n))) (by kernel_rfl) rfl
      · exact ZaI Zak Post.ends 17 [rz,rz,rz,rz] [true,false] ⟨[],[],[],[],[],[3,6,7,8],[],[]⟩ (.c h1 (.c o2 (.c h3 .n))) (by kernel_rfl) (ih v3 v6 v7 (ZaD v8 (1:Int)) r hf)
    · obtain rfl:=oi hf
      exact Zai Zak 8 [rz,rz] [false] [] [] [] (.c h1 .n) (by kernel_rfl) rfl
def ZgJ (a0:(List Int)):Option Int :=
  ZfE   ((((a0.length:Nat):Int) - (0:Int)).toNat + 2) (0:Int) a0 ((a0.length:Nat):Int) (0:Int)
theorem Zno (a0:(List Int)) (r:Int) (hf:ZgJ a0 = some r):Zat Tryz.prog 336 [.one (cL 1 (cI .i64) (0:Int) a0)] (.one (.lit (.int .i64 r))):=by
  refine Zat.of Tryz.func336 rfl rfl rfl rfl fun S0 w0 =>?_
  unfold ZgJ at hf
  exact ZaI Zak Post.ends 8 [rz,rz,rz] [] ⟨[],[],[],[],[],[3,6,7,8],[],[]⟩ .n (by kernel_rfl) (Zpf S0 w0    ((((a0.length:Nat):Int) - (0:Int)).toNat + 2) (0:Int) a0 ((a0.length:Nat):Int) (0:Int) r hf)
def Zia (a0:Zag) (a1:Zag):Option Int :=
  (ZhE a0).bind fun x1 =>
  (ZhE a1).bind fun x2 =>
  (Zfv x1 x2).bind fun x3 =>
  (Zef a0.fHi a1.fHi).bind fun x4 =>
  (Zef a0.fLo a1.fLo).bind fun x5 =>
  (ZgJ ([x3,x4,x5]:List Int)).bind fun x6 =>
  some x6
theorem ZpQ (a0:Zag) (a1:Zag) (r:Int) (hf:Zia a0 a1 = some r):Zat Tryz.prog 337 [.agg (Zag.c a0),.agg (Zag.c a1)] (.one (.lit (.int .i64 r))):=by
  refine Zat.of Tryz.func337 rfl rfl rfl rfl fun S0 w0 =>?_
  unfold Zia at hf
  obtain ⟨x1,q1,hf⟩:=bind_some' hf
  obtain ⟨x2,q2,hf⟩:=bind_some' hf
  obtain ⟨x3,q3,hf⟩:=bind_some' hf
  obtain ⟨x4,q4,hf⟩:=bind_some' hf
  obtain ⟨x5,q5,hf⟩:=bind_some' hf
  obtain ⟨x6,q6,hf⟩:=bind_some' hf
  obtain rfl:=oi hf
  exact Zai Zak 4 [rz,⟨[(1,aI x1),(3,aI x2),(4,aI x3),(9,aI x4),(14,aI x5),(16,aI x6)],[],[],[],[],[(15,(([x3,x4,x5]:List Int).length,Zaq (cI .i64) (0:Int) ([x3,x4,x5]:List Int)))],[]⟩] [] [] [] [] (.c (Zmw _ _ q1) (.c (Zmw _ _ q2) (.c (ZjR _ _ _ q3) (.c (ZiM _ _ _ q4) (.c (ZiM _ _ _ q5) (.c (show ([x3,x4,x5]:List Int).length = 3∧∀ i j,i < 3→j < 1→Zaq (cI .i64) (0:Int) ([x3,x4,x5]:List Int) i j = (([x3,x4,x5]:List Int).flatMap (cI .i64)).getD (i * 1 + j) .junk from ⟨rfl,fun i j hi hj =>ZaS (sz:=1) (e:=(cI .i64)) (d:=(0:Int)) (fun _ =>rfl) ([x3,x4,x5]:List Int) i j hi hj⟩) (.c (Zno _ _ q6) .n))))))) (by kernel_rfl) rfl
def famA (a:Zag):Int:=if a.fV6 then 1 else 0
def cmpA (a b:Zag):Int:=orI (cmpI (famA a) (famA b)) (orI (cmpI a.fHi b.fHi) (cmpI a.fLo b.fLo))
theorem ZAd (a b:Int):Zfv a b = some (cmpI a b):=by
  simp only [Zfv,Zhw,cmpI,bne_self_eq_false,Option.bind_some,cond_false]
  by_cases h1:a < b <;> by_cases h2:a > b <;> simp [h1,h2] <;> omega
theorem ZCx (a b:Int):Zef a b = some (cmpI a b):=by
  simp only [Zef,Zgn,cmpI,bne_self_eq_false,Option.bind_some,cond_false]
  by_cases h1:a < b <;> by_cases h2:a > b <;> simp [h1,h2] <;> omega
theorem or2 (a b:Int):ZgJ [a,b] = some (orI a b):=by
  unfold ZgJ orI
  simp only [List.length_cons,List.length_nil]
  rw [show (((0 + 1 + 1:Nat):Int) - 0).toNat + 2 = 4 from rfl]
  simp only [ZfE,show ZaD 0 1 = 1 from rfl,show ZaD 1 1 = 2 from rfl]
  simp only [Bool.cond_eq_ite,bne_iff_ne,ne_eq,ite_not,need]
  by_cases h1:a = 0 <;> by_cases h2:b = 0 <;> simp [h1,h2]
theorem or3 (a b c:Int):ZgJ [a,b,c] = some (orI a (orI b c)):=by
  unfold ZgJ orI
  simp only [List.length_cons,List.length_nil]
  rw [show (((0 + 1 + 1 + 1:Nat):Int) - 0).toNat + 2 = 5 from rfl]
  simp only [ZfE,show ZaD 0 1 = 1 from rfl,show ZaD 1 1 = 2 from rfl,show ZaD 2 1 = 3 from rfl]
  simp only [Bool.cond_eq_ite,bne_iff_ne,ne_eq,ite_not,need]
  by_cases h1:a = 0 <;> by_cases h2:b = 0 <;> by_cases h3:c = 0 <;> simp [h1,h2,h3]
theorem ZBu (a b:Zag):Zia a b = some (cmpA a b):=by
  have hf : ∀ c,ZhE c = some (famA c):=fun c =>by unfold ZhE famA; cases c.fV6 <;> rfl
  simp only [Zia,hf,ZAd,ZCx,or3,Option.bind_some,cmpA]
def ZhZ (a0:Zap) (a1:Zap):Option Int :=
  (Zia a0.fAddr a1.fAddr).bind fun x1 =>
  (Zfv a0.fBits a1.fBits).bind fun x2 =>
  (ZgJ ([x1,x2]:List Int)).bind fun x3 =>
  some x3
theorem ZpO (a0:Zap) (a1:Zap) (r:Int) (hf:ZhZ a0 a1 = some r):Zat Tryz.prog 349 [.agg (Zap.c a0),.agg (Zap.c a1)] (.one (.lit (.int .i64 r))):=by
  refine Zat.of Tryz.func349 rfl rfl rfl rfl fun S0 w0 =>?_
  unfold ZhZ at hf
  obtain ⟨x1,q1,hf⟩:=bind_some' hf
  obtain ⟨x2,q2,hf⟩:=bind_some' hf
  obtain ⟨x3,q3,hf⟩:=bind_some' hf
  obtain rfl:=oi hf
  exact Zai Zak 4 [rz,⟨[(4,aI x1),(9,aI x2),(11,aI x3)],[],[],[],[],[(10,(([x1,x2]:List Int).length,Zaq (cI .i64) (0:Int) ([x1,x2]:List Int)))],[]⟩] [] [] [] [] (.c (ZpQ _ _ _ q1) (.c (ZjR _ _ _ q2) (.c (show ([x1,x2]:List Int).length = 2∧∀ i j,i < 2→j < 1→Zaq (cI .i64) (0:Int) ([x1,x2]:List Int) i j = (([x1,x2]:List Int).flatMap (cI .i64)).getD (i * 1 + j) .junk from ⟨rfl,fun i j hi hj =>ZaS (sz:=1) (e:=(cI .i64)) (d:=(0:Int)) (fun _ =>rfl) ([x1,x2]:List Int) i j hi hj⟩) (.c (Zno _ _ q3) .n)))) (by kernel_rfl) rfl
def cmpN (a b:Zap):Int:=orI (cmpA a.fAddr b.fAddr) (cmpI a.fBits b.fBits)
theorem ZBj (a b:Zap):ZhZ a b = some (cmpN a b):=by
  simp only [ZhZ,ZBu,ZAd,or2,Option.bind_some,cmpN]
set_option maxHeartbeats 4000000 in
set_option maxRecDepth 100000 in
theorem ZuQ (b n c i vb m vc : Nat) (cur vcur : Array Value) (w : World) (hi : i < n) (hm : 0 < m) (hroom : n + m ≤ c) (hc63 : c ≤ maxLen) (hvb : vb ≠ b)
    (hcur:w.heap[b]? = some (.cells cur 146 (0,0))) (hcs:cur.size = c * 5) (hvcur:w.heap[vb]? = some (.cells vcur 146 (0,0))) (hvm:m≤vc) (hvs:vcur.size = vc * 5)
    (h1c : ∀ v ∈ cur.toList.take (n * 5),v.oneCell' = true) (h1v : ∀ v ∈ vcur.toList.take (m * 5),v.oneCell' = true) :
    Calls Tryz.prog 350 #[.slice (some ⟨b,0,none⟩) n c,.int .i64 i,.slice (some ⟨vb,0,none⟩) m vc] w fun e w' =>
      ∃ R:Array Value,e = .returned (.slice (some ⟨b,0,none⟩) (n + m) c)∧w.drawn≤w'.drawn∧w.grownBy w' (some b)∧w'.heap[b]? = some (.cells R 146 (0,0))∧R.size = c * 5 ∧
        R.toList.take ((n + m) * 5) = cur.toList.take (i * 5) ++ vcur.toList.take (m * 5) ++ (cur.toList.drop (i * 5)).take ((n - i) * 5):=by
  have hc63':=hc63
  unfold maxLen at hc63
  have hz1 : ¬ ((m:Int) = 0):=by omega
  have hz2 : ¬ ((i:Int) = (n:Int)):=by omega
  have hw1:IntKind.i64.wrap ((i:Int) + (m:Int)) = (i:Int) + (m:Int):=by rw [IntKind.wrap_i64]; omega
  have hw2:IntKind.i64.wrap ((n:Int) + (m:Int)) = (n:Int) + (m:Int):=by rw [IntKind.wrap_i64]; omega
  have hb1:(0:Int)≤(i:Int) + (m:Int):=by omega
  have hin:i≤n:=by omega
  have htn:((i:Int) + (m:Int)).toNat = i + m:=by omega
  have hb2 : ¬ (c = i + m):=by omega
  have hb3:(i:Int)≤(n:Int) + (m:Int):=by omega
  have hb4 : ¬ (c = i):=by omega
  have hov : ∀ o lb cb,(callFunc 382 #[.slice (some ⟨vb,0,none⟩) m vc,.slice (some ⟨b,o,none⟩) lb cb]).run Tryz.prog w = .ok (.value (.bool false)) w:=fun o lb cb =>by
    rw [run_callFunc_extern Tryz.func382 (by kernel_rfl) (by kernel_rfl) (by kernel_rfl) (e:=Extern.SlicesOverlaps.overlaps #[45,45] #[4]) (by kernel_rfl),
      Lib.run_overlaps_apart w 45 4 146 Tryz.underlying45 5 Tryz.sizeOf146 ⟨vb,0,none⟩ ⟨b,o,none⟩ m vc lb cb hvb 146 146 vcur.size cur.size (by simp [World.shape?,hvcur]) (by simp [World.shape?,hcur]) (by omega) (by simp [World.frozen?,hvcur]) (by simp [World.frozen?,hvcur])]
    rfl
  have hsz:(Tryz.prog.info? 146).map (·.size) = some 5:=by kernel_rfl
  obtain ⟨M1,hM1⟩ : ∃ M1,M1 = Zgq cur.toList ((i + m) * 5) ((cur.toList.drop (i * 5)).take ((n - i) * 5)):=⟨_,rfl⟩
  have hM1l:M1.toArray.size = c * 5:=by
    rw [hM1]; simp [Zgq]; omega
  have hcp1 : ∀ ty dc sc,(Builtin.copy_ #[45,45] ty #[.slice (some ⟨b,(i + m) * 5,none⟩) (n + m - (i + m)) dc,.slice (some ⟨b,i * 5,none⟩) (n + m - i) sc]).run Tryz.prog w.drew = .ok (goInt ((n - i:Nat):Int)) (w.drew.setRow b M1.toArray):=fun ty dc sc =>by
    have h:=ZjS (P:=Tryz.prog) w.drew 45 45 ty 146 5 b ((i + m) * 5) (n + m - (i + m)) dc ⟨b,i * 5,none⟩ (n + m - i) sc cur 146 ((cur.toList.drop (i * 5)).take ((n - i) * 5)) Tryz.underlying45 hsz
      (by have : Nat.min (n + m - i) (n + m - (i + m)) = n - i := by simp only [Nat.min_def]; split <;> omega
          rw [this]; simp; omega)
      (fun j v hj =>by
        rw [Zfi]
        rw [List.getElem?_take] at hj
        split at hj
        · rw [List.getElem?_drop] at hj
          rw [show w.drew.cell? ⟨b,i * 5 + j,none⟩ = w.cell? ⟨b,i * 5 + j,none⟩ from rfl,cell_of_row w b _ cur 146 (0,0) hcur]
          simpa using hj
        · cases hj)
      hcur (by simp; omega) (fun v hv =>h1c v (by
        obtain ⟨j,hj⟩:=List.getElem?_of_mem hv
        rw [List.getElem?_take] at hj
        split at hj
        · rw [List.getElem?_drop] at hj
          exact List.mem_of_getElem? (i:=i * 5 + j) (by rw [List.getElem?_take,if_pos (by omega)]; exact hj)
        · cases hj))
    rw [show Nat.min (n + m - i) (n + m - (i + m)) = n - i by simp only [Nat.min_def]; split <;> omega,← hM1] at h
    exact h
  obtain ⟨W1,hW1⟩ : ∃ W1,W1 = w.drew.setRow b M1.toArray:=⟨_,rfl⟩
  have hW1b:W1.heap[b]? = some (.cells M1.toArray 146 (0,0)):=by
    rw [hW1]; exact setRow_heap _ _ _ _ _ _ hcur
  have hW1v:W1.heap[vb]? = some (.cells vcur 146 (0,0)):=by
    rw [hW1,setRow_other _ _ _ _ hvb]; exact hvcur
  have hcp2 : ∀ (W:World),W.heap = W1.heap→∀ ty dc,(Builtin.copy_ #[45,45] ty #[.slice (some ⟨b,i * 5,none⟩) (n + m - i) dc,.slice (some ⟨vb,0,none⟩) m vc]).run Tryz.prog W = .ok (goInt (m:Int)) (W.setRow b (Zgq M1 (i * 5) (vcur.toList.take (m * 5))).toArray):=fun W hWh ty dc =>by
    have h:=ZjS (P:=Tryz.prog) W 45 45 ty 146 5 b (i * 5) (n + m - i) dc ⟨vb,0,none⟩ m vc M1.toArray 146 (vcur.toList.take (m * 5)) Tryz.underlying45 hsz
      (by have : Nat.min m (n + m - i) = m := by simp only [Nat.min_def]; split <;> omega
          rw [this]; simp; omega)
      (fun j v hj =>by
        rw [Zfi,Nat.zero_add]
        rw [List.getElem?_take] at hj
        split at hj
        · rw [cell_of_row W vb _ vcur 146 (0,0) (by rw [hWh]; exact hW1v)]
          simpa using hj
        · cases hj)
      (by rw [hWh]; exact hW1b) (by simp at hM1l ⊢; omega) h1v
    rw [show Nat.min m (n + m - i) = m by simp only [Nat.min_def]; split <;> omega] at h
    exact h
  rw [← hW1] at hcp1
  obtain ⟨R3,hR3⟩ : ∃ R3,R3 = Zgq M1 (i * 5) (vcur.toList.take (m * 5)):=⟨_,rfl⟩
  rw [← hR3] at hcp2
  have hR3l:R3.length = c * 5:=by
    rw [hR3]; simp at hM1l; simp [Zgq]; omega
  have hfin:R3.take ((n + m) * 5) = cur.toList.take (i * 5) ++ vcur.toList.take (m * 5) ++ (cur.toList.drop (i * 5)).take ((n - i) * 5):=by
    have hM1l' : M1.length = c * 5:=by simpa using hM1l
    have hvl:(vcur.toList.take (m * 5)).length = m * 5:=by simp; omega
    have hdl:((cur.toList.drop (i * 5)).take ((n - i) * 5)).length = (n - i) * 5:=by simp; omega
    apply List.ext_getElem?
    intro k
    rw [List.getElem?_take]
    split
    · rename_i hk
      rw [hR3,Zjb _ _ _ (by rw [hvl]; omega),hM1,Zjb _ _ _ (by rw [hdl]; simp; omega)]
      by_cases h1:k < i * 5
      · rw [if_neg (by omega),if_neg (by omega),List.append_assoc,List.getElem?_append_left (by simp; omega),List.getElem?_take,if_pos h1]
      · by_cases h2:k < (i + m) * 5
        · rw [if_pos ⟨by omega,by rw [hvl]; omega⟩,List.append_assoc,List.getElem?_append_right (by simp; omega),List.getElem?_append_left (by simp; omega)]
          congr 1; simp; omega
        · rw [if_neg (by rw [hvl]; omega),if_pos ⟨by omega,by rw [hdl]; omega⟩,List.getElem?_append_right (by rw [List.length_append,hvl]; simp; omega)]
          congr 1; rw [List.length_append,hvl]; simp; omega
    · rename_i hk
      rw [List.getElem?_eq_none (by rw [List.length_append,List.length_append,hvl,hdl]; simp; omega)]
  have hgb:w.grownBy (W1.setRow b R3.toArray) (some b):=by
    rw [hW1]
    exact ⟨rfl,rfl,rfl,by simp,fun k _ hk =>by
      have hne:k ≠ b:=fun h =>hk (by rw [h])
      rw [setRow_other _ _ _ _ hne,setRow_other _ _ _ _ hne]
      rfl⟩
  have hat:=setRow_heap W1 b _ R3.toArray _ _ hW1b
  have HF:=Lib.hid hfin; clear hfin
  have HL:=Lib.hid hR3l; clear hR3l
  have hdr:w.drawn≤(W1.setRow b R3.toArray).drawn:=by rw [hW1]; exact Nat.le_succ _
  have HG:=Lib.hid hgb; clear hgb
  have HD:=Lib.hid hdr; clear hdr
  have HA:=Lib.hid hat; clear hat
  clear hM1l hW1b hW1v h1c h1v hsz hR3
  clear hW1
  clear hM1
  have mixed:Tryz.prog.follows .mixedOrders = true:=by kernel_rfl
  go_enter Tryz.func350,Tryz.ntmps350
  go_wp2_with (simp only [hov])
  go_region_law_o (refine step_copy_runI rfl _ _ 45 45 rfl _ _ (by simp [Act.eval,Act.put]) (by simp [Act.eval,Act.put]) (hcp1 _ _ _) ?_)
  go_wp2_with (at_builtin; refine wpList_copy_runI _ rfl _ _ 45 45 rfl _ _ rfl rfl (hcp2 _ rfl _ _) ?_)
  go_ret
  exact ⟨R3.toArray,rfl,HD.out,HG.out,HA.out,HL.out,HF.out⟩
set_option maxHeartbeats 4000000 in
set_option maxRecDepth 100000 in
theorem Zwl (b n c i vb m vc : Nat) (cur vcur : Array Value) (w : World) (hi : i < n) (hm : 0 < m) (hnc : n ≤ c) (hroom : c < n + m) (hbig : (n + m) * 40 ≤ 140737488355328)
    (hcur:w.heap[b]? = some (.cells cur 146 (0,0))) (hcs:cur.size = c * 5) (hvcur:w.heap[vb]? = some (.cells vcur 146 (0,0))) (hvm:m≤vc) (hvs:vcur.size = vc * 5)
    (h1c : ∀ v ∈ cur.toList.take (n * 5),v.oneCell' = true) (h1v : ∀ v ∈ vcur.toList.take (m * 5),v.oneCell' = true) :
    Calls Tryz.prog 350 #[.slice (some ⟨b,0,none⟩) n c,.int .i64 i,.slice (some ⟨vb,0,none⟩) m vc] w fun e w' =>
      ∃ (G:Nat) (R:Array Value),e = .returned (.slice (some ⟨w.heap.size,0,none⟩) (n + m) G)∧w.drawn≤w'.drawn∧Below w.heap.size w w'∧w'.heap[w.heap.size]? = some (.cells R 146 (0,0))∧n + m≤G∧G≤maxLen∧R.size = G * 5 ∧
        R.toList.take ((n + m) * 5) = cur.toList.take (i * 5) ++ vcur.toList.take (m * 5) ++ (cur.toList.drop (i * 5)).take ((n - i) * 5):=by
  have hz1 : ¬ ((m:Int) = 0):=by omega
  have hz2 : ¬ ((i:Int) = (n:Int)):=by omega
  have hz3:(c:Int) < (n:Int) + (m:Int):=by omega
  have hkk:(n:Int) + (m:Int) - (i:Int) = ((n + m - i:Nat):Int):=by omega
  have hik:i + (n + m - i) = n + m:=by omega
  have hbw:b < w.heap.size:=(Array.getElem?_eq_some_iff.1 hcur).1
  have hvw:vb < w.heap.size:=(Array.getElem?_eq_some_iff.1 hvcur).1
  have hbN:b ≠ w.heap.size:=by omega
  have hvN:vb ≠ w.heap.size:=by omega
  obtain ⟨i0,hi0,hzs,hzb,hz0⟩:=ZBX.info (t:=146) (show Zeh tab 146 = some _ from rfl)
  replace hzs:i0.size = 5:=hzs
  replace hzb:i0.bytes = 40:=hzb
  replace hz0:i0.zero = some (.agg #[.bool false,.int .u64 (0),.int .u64 (0),.int .i64 (0),.int .i64 (0)]):=hz0
  have hsz:(Tryz.prog.info? 146).map (·.size) = some 5:=by kernel_rfl
  have hold:(Builtin.firstCells i0.size i (.slice (some ⟨b,0,none⟩) i c)).run Tryz.prog w.drew = .ok (cur.toList.take (i * 5)).toArray w.drew:=by
    rw [hzs]
    exact run_firstCells_some w.drew 5 i ⟨b,0,none⟩ i c (cur.toList.take (i * 5)) (by simp; omega) (fun j v hj =>by
      rw [Zfi,Nat.zero_add]
      rw [List.getElem?_take] at hj
      split at hj
      · rw [show w.drew.cell? ⟨b,j,none⟩ = w.cell? ⟨b,j,none⟩ from rfl,cell_of_row w b _ cur 146 (0,0) hcur]
        simpa using hj
      · cases hj)
  obtain ⟨G,hG⟩ : ∃ G,G = grownCap w (n + m) c 146:=⟨_,rfl⟩
  obtain ⟨ROW,hROW⟩ : ∃ ROW:Array Value,ROW = (cur.toList.take (i * 5)).toArray ++ Builtin.zeroCells (Value.cells (.agg #[.bool false,.int .u64 (0),.int .u64 (0),.int .i64 (0),.int .i64 (0)])) (n + m - i) ++ Builtin.zeroCells (Value.cells (.agg #[.bool false,.int .u64 (0),.int .u64 (0),.int .i64 (0),.int .i64 (0)])) (G - (n + m)):=⟨_,rfl⟩
  have hrz : ∀ ty, (Builtin.append_ #[45, 3] ty #[.slice (some ⟨b, 0, none⟩) i c, .int .i64 ((n : Int) + (m : Int) - (i : Int))]).run Tryz.prog w =
      .ok (.slice (some ⟨w.heap.size,0,none⟩) (n + m) G) (w.drew.alloc (.cells ROW 146)):=fun ty =>by
    have h:=Lib.run_append_grow_zeros w 45 3 ty 146 i0 _ .i64 .i64 Tryz.underlying45 Tryz.underlying3 hi0 hz0 (some ⟨b,0,none⟩) i c (cur.toList.take (i * 5)) hold (n + m - i) (by omega) (by omega) (by omega) (by omega) (by rw [hzb]; omega) (by rw [hzb,hik]; exact growslice_fits hroom hbig)
    rw [hik,← hG,← hROW] at h
    rw [hkk]
    exact h
  have hGn:n + m≤G:=by rw [hG]; exact grownCap_ge w _ _ _
  have hGm:G≤maxLen:=by rw [hG]; exact grownCap_le_maxLen w (n + m) c 146 (by unfold maxLen; omega)
  have hRs:ROW.size = G * 5:=by
    rw [hROW]
    simp [Builtin.zeroCells,Value.cells]
    omega
  have hRt:ROW.toList.take (i * 5) = cur.toList.take (i * 5):=by
    rw [hROW]
    simp only [Array.toList_append,List.append_assoc]
    rw [List.take_append_of_le_length (by simp; omega)]
    simp [List.take_take]
  clear hROW hG hold
  obtain ⟨W1,hW1⟩ : ∃ W1,W1 = w.drew.alloc (.cells ROW 146):=⟨_,rfl⟩
  have hWN:W1.heap[w.heap.size]? = some (.cells ROW 146 (0,0)):=by rw [hW1]; exact heap_alloc_new w.drew _
  have hWb:W1.heap[b]? = some (.cells cur 146 (0,0)):=by rw [hW1,heap_alloc_old w.drew _ hbw]; exact hcur
  have hWv:W1.heap[vb]? = some (.cells vcur 146 (0,0)):=by rw [hW1,heap_alloc_old w.drew _ hvw]; exact hvcur
  obtain ⟨V,hV⟩ : ∃ V,V = vcur.toList.take (m * 5):=⟨_,rfl⟩
  have hVl:V.length = m * 5:=by rw [hV]; simp; omega
  obtain ⟨D,hD⟩ : ∃ D,D = (cur.toList.drop (i * 5)).take ((n - i) * 5):=⟨_,rfl⟩
  have hDl:D.length = (n - i) * 5:=by rw [hD]; simp; omega
  obtain ⟨R2,hR2⟩ : ∃ R2,R2 = Zgq ROW.toList (i * 5) V:=⟨_,rfl⟩
  have hR2l:R2.length = G * 5:=by rw [hR2]; simp [Zgq,hVl]; omega
  obtain ⟨R3,hR3⟩ : ∃ R3,R3 = Zgq R2 ((i + m) * 5) D:=⟨_,rfl⟩
  have hR3l:R3.length = G * 5:=by rw [hR3]; simp [Zgq,hDl]; omega
  have hfin:R3.take ((n + m) * 5) = cur.toList.take (i * 5) ++ V ++ D:=by
    apply List.ext_getElem?
    intro k
    rw [List.getElem?_take]
    split
    · rename_i hk
      rw [hR3,Zjb _ _ _ (by rw [hDl]; omega),hR2,Zjb _ _ _ (by rw [hVl]; simp; omega)]
      by_cases h1:k < i * 5
      · rw [if_neg (by omega),if_neg (by omega),List.append_assoc,List.getElem?_append_left (by simp; omega),← hRt,List.getElem?_take,if_pos h1]
      · by_cases h2:k < (i + m) * 5
        · rw [if_neg (by omega),if_pos ⟨by omega,by rw [hVl]; omega⟩,List.append_assoc,List.getElem?_append_right (by simp; omega),List.getElem?_append_left (by simp; omega)]
          congr 1; simp; omega
        · rw [if_pos ⟨by omega,by rw [hDl]; omega⟩,List.getElem?_append_right (by simp [hVl]; omega)]
          congr 1; simp [hVl]; omega
    · rename_i hk
      rw [List.getElem?_eq_none (by simp [hVl,hDl]; omega)]
  have hcpA : ∀ (W:World),W.heap = W1.heap→∀ ty dc,(Builtin.copy_ #[45,45] ty #[.slice (some ⟨w.heap.size,i * 5,none⟩) (n + m - i) dc,.slice (some ⟨vb,0,none⟩) m vc]).run Tryz.prog W = .ok (goInt (m:Int)) (W.setRow w.heap.size R2.toArray):=fun W hWh ty dc =>by
    have h:=ZjS (P:=Tryz.prog) W 45 45 ty 146 5 w.heap.size (i * 5) (n + m - i) dc ⟨vb,0,none⟩ m vc ROW 146 V Tryz.underlying45 hsz
      (by have : Nat.min m (n + m - i) = m := by simp only [Nat.min_def]; split <;> omega
          rw [this,hVl])
      (fun j v hj =>by
        rw [hV] at hj
        rw [Zfi,Nat.zero_add]
        rw [List.getElem?_take] at hj
        split at hj
        · rw [cell_of_row W vb _ vcur 146 (0,0) (by rw [hWh]; exact hWv)]
          simpa using hj
        · cases hj)
      (by rw [hWh]; exact hWN) (by rw [hVl,hRs]; omega) (by rw [hV]; exact h1v)
    rw [show Nat.min m (n + m - i) = m by simp only [Nat.min_def]; split <;> omega,← hR2] at h
    exact h
  have hcpB : ∀ (W:World),W.heap[w.heap.size]? = some (.cells R2.toArray 146 (0,0))→W.heap[b]? = some (.cells cur 146 (0,0))→∀ ty dc sc,(Builtin.copy_ #[45,45] ty #[.slice (some ⟨w.heap.size,(i + m) * 5,none⟩) (n + m - (i + m)) dc,.slice (some ⟨b,i * 5,none⟩) (n - i) sc]).run Tryz.prog W = .ok (goInt ((n - i:Nat):Int)) (W.setRow w.heap.size R3.toArray):=fun W hN hB ty dc sc =>by
    have h:=ZjS (P:=Tryz.prog) W 45 45 ty 146 5 w.heap.size ((i + m) * 5) (n + m - (i + m)) dc ⟨b,i * 5,none⟩ (n - i) sc R2.toArray 146 D Tryz.underlying45 hsz
      (by have : Nat.min (n - i) (n + m - (i + m)) = n - i := by simp only [Nat.min_def]; split <;> omega
          rw [this,hDl])
      (fun j v hj =>by
        rw [hD] at hj
        rw [Zfi]
        rw [List.getElem?_take] at hj
        split at hj
        · rw [List.getElem?_drop] at hj
          rw [cell_of_row W b _ cur 146 (0,0) hB]
          simpa using hj
        · cases hj)
      hN (by simp [hDl,hR2l]; omega) (fun v hv =>h1c v (by
        rw [hD] at hv
        obtain ⟨j,hj⟩:=List.getElem?_of_mem hv
        rw [List.getElem?_take] at hj
        split at hj
        · rw [List.getElem?_drop] at hj
          exact List.mem_of_getElem? (i:=i * 5 + j) (by rw [List.getElem?_take,if_pos (by omega)]; exact hj)
        · cases hj))
    rw [show Nat.min (n - i) (n + m - (i + m)) = n - i by simp only [Nat.min_def]; split <;> omega] at h
    rw [show R2.toArray.toList = R2 from rfl,← hR3] at h
    exact h
  have hW2N:(W1.setRow w.heap.size R2.toArray).heap[w.heap.size]? = some (.cells R2.toArray 146 (0,0)):=setRow_heap _ _ _ _ _ _ hWN
  have hW2b:(W1.setRow w.heap.size R2.toArray).heap[b]? = some (.cells cur 146 (0,0)):=by rw [setRow_other _ _ _ _ hbN]; exact hWb
  have hbel:Below w.heap.size w W1:=by
    rw [hW1]
    exact ⟨rfl,rfl,rfl,by simp,fun k hk =>heap_alloc_old w.drew _ hk⟩
  have mixed:Tryz.prog.follows .mixedOrders = true:=by kernel_rfl
  have hdr:w.drawn≤W1.drawn:=by rw [hW1]; exact Nat.le_succ _
  have HW:=Lib.hid hdr; clear hdr
  have HF:=Lib.hid hfin; clear hfin
  have hGi : ¬ (G = i):=by omega
  have hGim : ¬ (G = i + m):=by omega
  have hci : ¬ (c = i):=by omega
  have hGM:=hGm
  unfold maxLen at hGM
  have hin:i≤n:=by omega
  have htn:((i:Int) + (m:Int)).toNat = i + m:=by omega
  have hw1:IntKind.i64.wrap ((i:Int) + (m:Int)) = (i:Int) + (m:Int):=by rw [IntKind.wrap_i64]; omega
  have hb1:(0:Int)≤(i:Int) + (m:Int):=by omega
  have hb3:(i:Int)≤(n:Int):=by omega
  rw [← hV,← hD]
  rw [← hW1] at hrz
  clear hV hD hVl hDl hR2 hR2l hR3 hRt hi0 hzb hzs hz0 hsz hRs hkk hik hWN hWb hWv hcs hvs h1c h1v hcur hvcur hW1
  have HR3:=Lib.hid hR3l; clear hR3l
  go_enter Tryz.func350,Tryz.ntmps350
  go_wp2_with (first
    | (at_builtin; refine Lib.wpList_append_run _ rfl _ _ _ _ rfl _ _ rfl rfl _ _ (hrz _) ?_)
    | (at_builtin; refine wpList_copy_runI _ rfl _ _ 45 45 rfl _ _ rfl rfl (hcpA _ rfl _ _) ?_)
    | (at_builtin; refine wpList_copy_runI _ rfl _ _ 45 45 rfl _ _ rfl rfl (hcpB _ (by first | exact hW2N | assumption) (by first | exact hW2b | assumption) _ _ _) ?_))
  go_region_law_o (refine step_copy_runI rfl _ _ 45 45 rfl (.slice (some ⟨w.heap.size,(i + m) * 5,none⟩) (n + m - (i + m)) (G - (i + m))) (.slice (some ⟨b,i * 5,none⟩) (n - i) (c - i)) (by simp [Act.eval,Act.put]) (by simp [Act.eval,Act.put]) (hcpB (W1.setRow w.heap.size R2.toArray).drew hW2N hW2b 3 (G - (i + m)) (c - i)) ?_)
  go_wp2
  go_ret
  exact ⟨G,R3.toArray,rfl,Nat.le_trans HW.out (by simp [World.setRow]),⟨hbel.os,hbel.tape,hbel.output,by simpa using hbel.size,fun k hk =>by rw [setRow_other _ _ _ _ (by omega)]; exact (setRow_other _ _ _ _ (by omega)).trans (hbel.block k hk)⟩,setRow_heap _ _ _ _ _ _ hW2N,hGn,hGm,HR3.out,HF.out⟩
set_option maxHeartbeats 4000000 in
set_option maxRecDepth 100000 in
theorem Zyr (base : Option Addr) (n c vb m vc : Nat) (w w' : World) (v' : Value) (hnc : n ≤ c) (hc63 : c ≤ maxLen) (hm : 0 < m) (hnil : base = none → n = 0) (hm63 : m ≤ maxLen)
    (hrun : ∀ ty,(Builtin.append_ #[45,45] ty #[.slice base n c,.slice (some ⟨vb,0,none⟩) m vc]).run Tryz.prog w = .ok v' w') :
    Calls Tryz.prog 350 #[.slice base n c,.int .i64 n,.slice (some ⟨vb,0,none⟩) m vc] w fun e w1 =>e = .returned v'∧w' = w1:=by
  have hz1 : ¬ ((m:Int) = 0):=by omega
  unfold maxLen at hc63 hm63
  cases base with
  | none =>
    have h0:=hnil rfl
    subst h0
    go_enter Tryz.func350,Tryz.ntmps350
    go_wp2_with (at_builtin; refine Lib.wpList_append_run _ rfl _ _ _ _ rfl _ _ rfl rfl _ _ (hrun _) ?_)
    go_ret
    exact ⟨rfl,rfl⟩
  | some a =>
    obtain ⟨ab,ao,asp⟩:=a
    go_enter Tryz.func350,Tryz.ntmps350
    go_wp2_with (at_builtin; refine Lib.wpList_append_run _ rfl _ _ _ _ rfl _ _ rfl rfl _ _ (hrun _) ?_)
    all_goals (go_ret; exact ⟨rfl,rfl⟩)
def Zbj (a0:List Zab) (a1:Int) (a2:List Zab):Option (List Zab) :=
  need (0≤a1∧a1.toNat≤a0.length∧0 < a2.length∧(a0.length + a2.length) * 40≤140737488355328∧a0.length + a2.length≤maxLen) <|
  some (a0.take a1.toNat ++ a2 ++ a0.drop a1.toNat)
theorem ZcU (a0 : List Zab) (a1 : Int) (a2 : List Zab) (r : List Zab) (hf : Zbj a0 a1 a2 = some r) :
    ZdL Tryz.prog 350 [(100000,.rows 146 5 a0.length (Zaq Zab.c Zab.d a0)),(100001,.rows 146 5 a2.length (Zaq Zab.c Zab.d a2))] [.one (.osl 100000 a0.length),.one (.lit (.int .i64 a1)),.one (.osl 100001 a2.length)]
      [(99999,.rows 146 5 r.length (Zaq Zab.c Zab.d r))] (.one (.osl 99999 r.length)):=by
  obtain ⟨⟨o1,o2,o3,o4,o5⟩,hf⟩:=Zas hf
  cases hf
  obtain ⟨i0,hi0,hzs,hzb,hz0⟩:=ZBX.info (t:=146) (show Zeh tab 146 = some _ from rfl)
  have h:=Zwk (enc:=Zab.c) (d:=Zab.d) (F:=350) (BY:=40) (K:=5) ⟨_,Tryz.func350,rfl,rfl⟩ Tryz.underlying45 hi0 hz0 hzs hzb rfl (by decide) (fun b n c i vb m vc cur vcur w h1 h2 h3 h4 h5 h6 h7 h8 h9 h10 h11 h12 =>ZuQ b n c i vb m vc cur vcur w h1 h2 h3 h4 h5 h6 h7 h8 h9 h10 h11 h12)
    (fun b n c i vb m vc cur vcur w h1 h2 h3 h4 h5 h6 h7 h8 h9 h10 h11 h12 =>Zwl b n c i vb m vc cur vcur w h1 h2 h3 h4 h5 h6 h7 h8 h9 h10 h11 h12)
    (fun base n c vb m vc w w' v' h1 h2 h3 h4 h5 h6 =>Zyr base n c vb m vc w w' v' h1 h2 h3 h4 h5 h6) a0 a2 a1.toNat o2 o3 o4 o5
  rw [Int.toNat_of_nonneg o1] at h
  exact h
def ZkU (a0:Zab) (c0:Zab):Option Bool :=
  (ZhZ a0.fNet c0.fNet).bind fun x1 =>
  some (decide (x1 > (0:Int)))
theorem ZrH (a0:Zab) (c0:Zab) (r:Bool) (hf:ZkU a0 c0 = some r):Zat Tryz.prog 348 [.agg (Zab.c a0),.one (.rp false 5 (fun j =>(Zab.c c0:List C).getD (0 + j) .junk))] (.one (.lit (.bool r))):=by
  refine Zat.of Tryz.func348 rfl rfl rfl rfl fun S0 w0 =>?_
  unfold ZkU at hf
  obtain ⟨x1,q1,hf⟩:=bind_some' hf
  obtain rfl:=oi hf
  exact Zai Zak 4 [rz,rA [(4,aI x1)]] [] [] [] [] (.c (ZpO _ _ _ q1) .n) (by kernel_rfl) rfl
def ZaK (a0:(List Zab)) (a1_0:Zab)  : Nat→Int→Int→Option Int
  | 0,_,_ =>none
  | fu + 1,v7,v8 =>
    bif (decide (v8 < v7)) then
      need (0≤v8∧v8 < ((a0.length:Nat):Int)) <|
      (ZkU (a0.getD v8.toNat Zab.d) a1_0).bind fun x1 =>
      bif x1 then
        some v8
      else
        ZaK a0 a1_0  fu v7 (ZaD v8 (1:Int))
    else
      some (-1:Int)
theorem ZgI (S0:Nat→Prop) (w0:Zbh) (a0:(List Zab)) (a1_0:Zab)  : ∀ (fu:Nat) (v7:Int) (v8:Int) (r:Int),ZaK a0 a1_0  fu v7 v8 = some r→Good Tryz.prog 19 S0 w0 (bodyPost Tryz.prog Tryz.f347 (Post S0 w0 (.one (.lit (.int .i64 r))))) (at_ [1,0,1,0] (ZbM Tryz.f347)) ⟨[(0,.one (cL 5 Zab.c Zab.d a0)),(1,.one (.clo (.func 348) 0 1 (fun i =>([]:List C).getD i .junk) (fun i =>([.rp false 5 (fun j =>(Zab.c a1_0:List C).getD (0 + j) .junk)]:List C).getD i .junk))),(7,.one (.lit (.int .i64 v7))),(8,.one (.lit (.int .i64 v8)))],[]⟩:=by
  intro fu
  induction fu with
  | zero =>
    intro v7 v8 r hf
    simp [ZaK] at hf
  | succ fu ih =>
    intro v7 v8 r hf
    unfold ZaK at hf
    rcases Zaj hf with ⟨h1,hf⟩ | ⟨h1,hf⟩
    · obtain ⟨o2,hf⟩:=Zas hf
      obtain ⟨x1,q3,hf⟩:=bind_some' hf
      have O1:Obl _:=(.c h1 (.c o2 (.c (ZrH _ _ _ q3) .n)))
      rcases Zaj hf with ⟨h4,hf⟩ | ⟨h4,hf⟩
      · obtain rfl:=oi hf
        exact Zai Zak 15 [rz,rz,rA [(5,aB x1)],rz] [true,true] [] [] [] (O1.app (.c h4 .n)) (by kernel_rfl) rfl
      · exact ZaI Zak Post.ends 17 [rz,rz,rA [(5,aB x1)],rz] [true,false] ⟨[],[],[],[],[],[0,1,7,8],[],[]⟩ (O1.app (.c h4 .n)) (by kernel_rfl) (ih v7 (ZaD v8 (1:Int)) r hf)
    · obtain rfl:=oi hf
      exact Zai Zak 8 [rz,rz] [false] [] [] [] (.c h1 .n) (by kernel_rfl) rfl
def ZbF (a0:(List Zab)) (a1_0:Zab):Option Int :=
  ZaK a0 a1_0  ((((a0.length:Nat):Int) - (0:Int)).toNat + 2) ((a0.length:Nat):Int) (0:Int)
theorem Zhd (a0:(List Zab)) (a1_0:Zab) (r:Int) (hf:ZbF a0 a1_0 = some r):Zat Tryz.prog 347 [.one (cL 5 Zab.c Zab.d a0),.one (.clo (.func 348) 0 1 (fun i =>([]:List C).getD i .junk) (fun i =>([.rp false 5 (fun j =>(Zab.c a1_0:List C).getD (0 + j) .junk)]:List C).getD i .junk))] (.one (.lit (.int .i64 r))):=by
  refine Zat.of Tryz.func347 rfl rfl rfl rfl fun S0 w0 =>?_
  unfold ZbF at hf
  exact ZaI Zak Post.ends 6 [rz,rz] [] ⟨[],[],[],[],[],[0,1,7,8],[],[]⟩ .n (by kernel_rfl) (ZgI S0 w0 a0 a1_0   ((((a0.length:Nat):Int) - (0:Int)).toNat + 2) ((a0.length:Nat):Int) (0:Int) r hf)
def ZlJ (a0:(List Zab)) (a1:Zab) (a2:Int):Option ((List Zab) × Int) :=
  (Zkx a1).bind fun x1 =>
  bif (!x1) then
    some (([]:(List Zab)),(1:Int))
  else
    (ZbE a0).bind fun x2 =>
    (Zkw a0 a1.fNet).bind fun x3 =>
    bif (decide (x3 ≥ (0:Int))) then
      need (0≤x3∧x3 < ((a0.length:Nat):Int)) <|
      (ZnI (a0.getD x3.toNat Zab.d) a1).bind fun x4 =>
      need (0≤x3∧x3 < ((x2.length:Nat):Int)) <|
      some ((x2.set x3.toNat x4),(0:Int))
    else
      bif (decide (((a0.length:Nat):Int) ≥ a2)) then
        some (([]:(List Zab)),(5:Int))
      else
        (ZbF a0 a1).bind fun x5 =>
        bif (decide (x5 < (0:Int))) then
          (Zbj x2 ((a0.length:Nat):Int) ([a1]:List Zab)).bind fun x6 =>
          some (x6,(0:Int))
        else
          (Zbj x2 x5 ([a1]:List Zab)).bind fun x7 =>
          some (x7,(0:Int))
theorem ZtP (a0:(List Zab)) (a1:Zab) (a2:Int) (r:((List Zab) × Int)) (hf:ZlJ a0 a1 a2 = some r):Zat Tryz.prog 295 [.one (cL 5 Zab.c Zab.d a0),.agg (Zab.c a1),.one (.lit (.int .i64 a2))] (.tup [(false,(cLs 5 Zab.c Zab.d) r.1),(false,(cI .i64) r.2)]):=by
  refine Zat.of Tryz.func295 rfl rfl rfl rfl fun S0 w0 =>?_
  unfold ZlJ at hf
  obtain ⟨x1,q1,hf⟩:=bind_some' hf
  rcases Zaj hf with ⟨h2,hf⟩ | ⟨h2,hf⟩
  · obtain rfl:=oi hf
    exact Zai Zak 8 [rz,rA [(1,aB x1)],rz] [true] [] [] [(6,[(0,cL 5 Zab.c Zab.d [])])] (.c (Zof _ _ q1) (.c h2 .n)) (by kernel_rfl) rfl
  · obtain ⟨x2,q3,hf⟩:=bind_some' hf
    obtain ⟨x3,q4,hf⟩:=bind_some' hf
    let R1:List RA:=[rz,rA [(1,aB x1)],rH [] [(1,⟨[],[(99999,15)],[(99999,.rows 146 5 x2.length (Zaq Zab.c Zab.d x2))],.one (.osl 99999 x2.length)⟩)],rA [(3,aI x3)],rz]
    have O2:Obl _:=(.c (Zof _ _ q1) (.c h2 (.c (ZfJ _ _ q3) (.c (Zss _ _ _ q4) .n))))
    rcases Zaj hf with ⟨h5,hf⟩ | ⟨h5,hf⟩
    · obtain ⟨o6,hf⟩:=Zas hf
      obtain ⟨x4,q7,hf⟩:=bind_some' hf
      obtain ⟨o8,hf⟩:=Zas hf
      obtain rfl:=oi hf
      exact Zai Zak 19 (R1 ++ [rA [(7,aG (Zab.c x4)),(9,.c (x2.set x3.toNat x4).length (Zaq Zab.c Zab.d (x2.set x3.toNat x4)))],rz]) [false,true] [15] [] [] (O2.app (.c h5 (.c o6 (.c (ZtQ _ _ _ q7) (.c o8 (.c (show (x2.set x3.toNat x4).length = x2.length from List.length_set) (.c (show x3.toNat < x2.length from (ltOf o8)) (.c (show ExtU 5 x2.length (Zaq Zab.c Zab.d x2) x3.toNat 0 (Zab.c x4) (Zaq Zab.c Zab.d (x2.set x3.toNat x4)) from (Zwn _ _ _ rfl)) .n)))))))) (by kernel_rfl) rfl
    · rcases Zaj hf with ⟨h9,hf⟩ | ⟨h9,hf⟩
      · obtain rfl:=oi hf
        exact Zai Zak 22 (R1 ++ [rz,rz]) [false,false,true] [] [] [(6,[(0,cL 5 Zab.c Zab.d [])])] (O2.app (.c h5 (.c h9 .n))) (by kernel_rfl) rfl
      · obtain ⟨x5,q10,hf⟩:=bind_some' hf
        let R3:List RA:=(R1 ++ [rz,⟨[(2,aI x5)],[],[(1,[4])],[],[],[],[]⟩,rz])
        have O4:Obl _:=(O2.app (.c h5 (.c h9 (.c (Zhd _ _ _ q10) .n))))
        rcases Zaj hf with ⟨h11,hf⟩ | ⟨h11,hf⟩
        · obtain ⟨x6,q12,hf⟩:=bind_some' hf
          obtain rfl:=oi hf
          exact Zai Zak 30 (R3 ++ [rz,rH [(3,.c ([a1]:List Zab).length (Zaq Zab.c Zab.d ([a1]:List Zab)))] [(4,⟨[(100000,15),(100001,46)],[(99999,47)],[(99999,.rows 146 5 x6.length (Zaq Zab.c Zab.d x6))],.one (.osl 99999 x6.length)⟩)]]) [false,false,false,true] [47] [] [] (O4.app (.c h11 (.c (show ([a1]:List Zab).length = 1 from rfl) (.c (show ∀ i j,i < 1→j < 5→Zaq Zab.c Zab.d ([a1]:List Zab) i j = (([a1]:List Zab).flatMap Zab.c).getD (i * 5 + j) .junk from (fun i j hi hj =>ZaS (sz:=5) (e:=Zab.c) (d:=Zab.d) (fun _ =>rfl) ([a1]:List Zab) i j hi hj)) (.c (ZcU _ _ _ _ q12) .n))))) (by kernel_rfl) rfl
        · obtain ⟨x7,q13,hf⟩:=bind_some' hf
          obtain rfl:=oi hf
          exact Zai Zak 30 (R3 ++ [rH [(3,.c ([a1]:List Zab).length (Zaq Zab.c Zab.d ([a1]:List Zab)))] [(4,⟨[(100000,15),(100001,46)],[(99999,47)],[(99999,.rows 146 5 x7.length (Zaq Zab.c Zab.d x7))],.one (.osl 99999 x7.length)⟩)]]) [false,false,false,false] [47] [] [] (O4.app (.c h11 (.c (show ([a1]:List Zab).length = 1 from rfl) (.c (show ∀ i j,i < 1→j < 5→Zaq Zab.c Zab.d ([a1]:List Zab) i j = (([a1]:List Zab).flatMap Zab.c).getD (i * 5 + j) .junk from (fun i j hi hj =>ZaS (sz:=5) (e:=Zab.c) (d:=Zab.d) (fun _ =>rfl) ([a1]:List Zab) i j hi hj)) (.c (ZcU _ _ _ _ q13) .n))))) (by kernel_rfl) rfl
def ZgC (a0:Zav) (a1:Zal) (a2:Zap):Option (Tout Int) :=
  (Zkl a0.fx.fNow a0.fc.fBanFor).bind fun x1 =>
  (Zdb a1 (Zan.mk (3:Int) (0:Int) (0:Int)) false).bind fun x2 =>
  (match x2 with
  | .ret x2v x2g =>
    (ZlJ x2v.fBans (Zab.mk a2 x1) a0.fc.fMaxBans).bind fun x3 =>
    bif (x3.2 != (0:Int)) then
      some (Tout.ret (0:Int) x2g)
    else
      (Zcf x2g (Zan.mk (3:Int) (0:Int) (0:Int)) (Zae.mk (0:Int) (Zaa.mk (Zaf.mk (Zag.mk false (0:Int) (0:Int)) (0:Int)) false (0:Int) (Zah.mk (0:Int) (0:Int)) (0:Int) (0:Int)) x3.1 ([]:(List Zac))) false).bind fun x4 =>
      (match x4 with
      | .ret x4v x4g =>
        some (Tout.ret x1 x4g)
      | .pan x4o =>
        some (Tout.pan x4o)
      | .bad x4s =>
        some (Tout.bad x4s))
  | .pan x2o =>
    some (Tout.pan x2o)
  | .bad x2s =>
    some (Tout.bad x2s))
theorem Zjv (a0:Zav) (a1:Zal) (a2:Zap) (r:(Tout Int)) (hf:ZgC a0 a1 a2 = some r):ZfM Tryz.prog 227 [(100000,.box (Zal.c a1))] [.agg (Zav.c a0),.one (.ifc 112 (.ptr 100000 0)),.agg (Zap.c a2)] (oc (fun x =>.one (.lit (.int .i64 x))) r):=by
  refine ZfM.of Tryz.func227 rfl rfl rfl rfl fun S0 w0 =>?_
  unfold ZgC at hf
  obtain ⟨x1,q1,hf⟩:=bind_some' hf
  obtain ⟨x2,q2,hf⟩:=bind_some' hf
  cases x2 with
  | ret x2v x2g =>
    dsimp only at hf
    obtain ⟨x3,q3,hf⟩:=bind_some' hf
    let R1:List RA:=[rz,rz,rA [(6,aI x1)],rH [(2,.id 463),(10,.r (.tup [(false,(cLs 5 Zab.c Zab.d) x3.1),(false,(cI .i64) x3.2)]) [])] [(2,⟨[(100000,100000)],[],[(100000,.box (Zal.c x2g))],.agg (Zae.c x2v)⟩)],rz]
    have O2:Obl _:=(.c (ZmZ _ _ _ q1) (.c (Zcd _ _ _ _ q2) (.c ZhR (.c (ZtP _ _ _ _ q3) .n))))
    rcases Zaj hf with ⟨h4,hf⟩ | ⟨h4,hf⟩
    · obtain rfl:=oi hf
      exact Zcg Zak 14 (R1 ++ [rz]) [true] ⟨[],[],[],[],[],[6],[100000],[]⟩ [100000] (O2.app (.c h4 .n)) (by kernel_rfl)
    · obtain ⟨x4,q5,hf⟩:=bind_some' hf
      cases x4 with
      | ret x4v x4g =>
        dsimp only at hf
        obtain rfl:=oi hf
        exact Zcg Zak 17 (R1 ++ [⟨[(4,.id 467)],[],[],[],[(3,[(12,cL 7 Zac.c Zac.d [])])],[],[(4,⟨[(100000,100000)],[],[(100000,.box (Zal.c x4g))],.tup []⟩)]⟩,rz]) [false] ⟨[],[],[],[],[],[6],[100000],[]⟩ [100000] (O2.app (.c h4 (.c (ZbS _ _ _ _ _ q5) (.c ZgY .n)))) (by kernel_rfl)
      | _ =>
        dsimp only at hf
        obtain rfl:=oi hf
        exact ZaC Zak 14 _ _ R1 [false] (⟨[(4,.id 467)],[],[],[],[(3,[(12,cL 7 Zac.c Zac.d [])])],[],[]⟩) 4 ⟨[(100000,100000)],pvOf q5⟩ (O2.app (.c h4 (.c (ZbS _ _ _ _ _ q5) (.c ZgY .n)))) (by kernel_rfl)
  | _ =>
    dsimp only at hf
    obtain rfl:=oi hf
    exact ZaC Zak 7 _ _ [rz,rz,rA [(6,aI x1)]] [] (rA [(2,.id 463)]) 2 ⟨[(100000,100000)],pvOf q2⟩ (.c (ZmZ _ _ _ q1) (.c (Zcd _ _ _ _ q2) (.c ZhR .n))) (by kernel_rfl)
def Zjf (a0:Zap) (a1:Zag):Option Bool :=
  (Zhx a0).bind fun x1 =>
  bif x1 then
    (Zfl a1).bind fun x2 =>
    bif x2 then
      bif (a0.fAddr.fV6 == a1.fV6) then
        (Zil a1 a0.fBits).bind fun x3 =>
        some (decide (x3 = a0.fAddr))
      else
        some false
    else
      some false
  else
    some false
theorem ZtO (a0:Zap) (a1:Zag) (r:Bool) (hf:Zjf a0 a1 = some r):Zat Tryz.prog 296 [.agg (Zap.c a0),.agg (Zag.c a1)] (.one (.lit (.bool r))):=by
  refine Zat.of Tryz.func296 rfl rfl rfl rfl fun S0 w0 =>?_
  unfold Zjf at hf
  obtain ⟨x1,q1,hf⟩:=bind_some' hf
  rcases Zaj hf with ⟨h2,hf⟩ | ⟨h2,hf⟩
  · obtain ⟨x2,q3,hf⟩:=bind_some' hf
    have O1:Obl _:=(.c (ZgG _ _ q1) (.c h2 (.c (ZdA _ _ q3) .n)))
    rcases Zaj hf with ⟨h4,hf⟩ | ⟨h4,hf⟩
    · rcases Zaj hf with ⟨h5,hf⟩ | ⟨h5,hf⟩
      · obtain ⟨x3,q6,hf⟩:=bind_some' hf
        obtain rfl:=oi hf
        exact Zai Zak 4 [rz,⟨[(1,aB x1),(4,aB x2),(18,aG (Zag.c x3)),(21,aB (decide (x3 = a0.fAddr)))],[(2,true),(6,true),(14,true)],[],[],[],[],[]⟩] [] [] [] [] (O1.app (.c h4 (.c h5 (.c (Zoe _ _ _ q6) (.c (Zjp x3 a0.fAddr (.tmp 23) (.tmp 25)) .n))))) (by kernel_rfl) rfl
      · obtain rfl:=oi hf
        exact Zai Zak 4 [rz,⟨[(1,aB x1),(4,aB x2)],[(2,true),(6,true),(14,false)],[],[],[],[],[]⟩] [] [] [] [] (O1.app (.c h4 (.c h5 .n))) (by kernel_rfl) rfl
    · obtain rfl:=oi hf
      exact Zai Zak 4 [rz,⟨[(1,aB x1),(4,aB x2)],[(2,true),(6,false)],[],[],[],[],[]⟩] [] [] [] [] (O1.app (.c h4 .n)) (by kernel_rfl) rfl
  · obtain rfl:=oi hf
    exact Zai Zak 4 [rz,⟨[(1,aB x1)],[(2,false)],[],[],[],[],[]⟩] [] [] [] [] (.c (ZgG _ _ q1) (.c h2 .n)) (by kernel_rfl) rfl
def Zeg   : Nat→(List Zaa)→Int→Int→(List Zaa)→(List Zaa)→Zap→Option ((List Zaa) × (List Zaa))
  | 0,_,_,_,_,_,_ =>none
  | fu + 1,v8,v9,v10,w4,w5,b3 =>
    bif (decide (v10 < v9)) then
      need (0≤v10∧v10 < ((v8.length:Nat):Int)) <|
      (Zjf b3 (((v8.getD v10.toNat Zaa.d).fEnd).fAddr)).bind fun x1 =>
      bif x1 then
        need ((w4 ++ ([(v8.getD v10.toNat Zaa.d)]:List Zaa)).length * 80≤140737488355328∧(w4 ++ ([(v8.getD v10.toNat Zaa.d)]:List Zaa)).length≤maxLen) <|
        Zeg   fu v8 v9 (ZaD v10 (1:Int)) (w4 ++ ([(v8.getD v10.toNat Zaa.d)]:List Zaa)) w5 b3
      else
        need ((w5 ++ ([(v8.getD v10.toNat Zaa.d)]:List Zaa)).length * 80≤140737488355328∧(w5 ++ ([(v8.getD v10.toNat Zaa.d)]:List Zaa)).length≤maxLen) <|
        Zeg   fu v8 v9 (ZaD v10 (1:Int)) w4 (w5 ++ ([(v8.getD v10.toNat Zaa.d)]:List Zaa)) b3
    else
      some (w4,w5)
theorem Zoo (S0:Nat→Prop) (w0:Zbh)   : ∀ (fu:Nat) (v8:(List Zaa)) (v9:Int) (v10:Int) (w4:(List Zaa)) (w5:(List Zaa)) (b3:Zap) (r:((List Zaa) × (List Zaa))),Zeg   fu v8 v9 v10 w4 w5 b3 = some r→Good Tryz.prog 30 S0 w0 (bodyPost Tryz.prog Tryz.f228 (Post S0 w0 (.tup [(false,(cLs 10 Zaa.c Zaa.d) r.1),(false,(cLs 10 Zaa.c Zaa.d) r.2)]))) (at_ [1,0,1,0] (ZbM Tryz.f228)) ⟨[(3,.one (.ptr 3 0)),(4,.one (.osl 4 w4.length)),(5,.one (.osl 5 w5.length)),(8,.one (cL 10 Zaa.c Zaa.d v8)),(9,.one (.lit (.int .i64 v9))),(10,.one (.lit (.int .i64 v10)))],[(4,.rows 44 10 w4.length (Zaq Zaa.c Zaa.d w4)),(5,.rows 44 10 w5.length (Zaq Zaa.c Zaa.d w5)),(3,.box [.lit (.bool b3.fAddr.fV6),.lit (.int .u64 b3.fAddr.fHi),.lit (.int .u64 b3.fAddr.fLo),.lit (.int .i64 b3.fBits)])]⟩:=by
  intro fu
  induction fu with
  | zero =>
    intro v8 v9 v10 w4 w5 b3 r hf
    simp [Zeg] at hf
  | succ fu ih =>
    intro v8 v9 v10 w4 w5 b3 r hf
    unfold Zeg at hf
    rcases Zaj hf with ⟨h1,hf⟩ | ⟨h1,hf⟩
    · obtain ⟨o2,hf⟩:=Zas hf
      obtain ⟨x1,q3,hf⟩:=bind_some' hf
      have O1:Obl _:=(.c h1 (.c o2 (.c (ZtO _ _ _ q3) .n)))
      rcases Zaj hf with ⟨h4,hf⟩ | ⟨h4,hf⟩
      · obtain ⟨o5,hf⟩:=Zas hf
        exact ZaI Zak Post.ends 17 [rz,rz,rA [(4,aB x1)],⟨[(3,.c ((w4 ++ ([(v8.getD v10.toNat Zaa.d)]:List Zaa)).length) (Zaq Zaa.c Zaa.d (w4 ++ ([(v8.getD v10.toNat Zaa.d)]:List Zaa))))],[],[],[],[],[(2,(([(v8.getD v10.toNat Zaa.d)]:List Zaa).length,Zaq Zaa.c Zaa.d ([(v8.getD v10.toNat Zaa.d)]:List Zaa)))],[]⟩,rz] [true,true] ⟨[],[],[],[],[],[3,4,5,8,9,10],[22,5,3],[(22,4)]⟩ (O1.app (.c h4 (.c (show ([(v8.getD v10.toNat Zaa.d)]:List Zaa).length = 1∧∀ i j,i < 1→j < 10→Zaq Zaa.c Zaa.d ([(v8.getD v10.toNat Zaa.d)]:List Zaa) i j = (([(v8.getD v10.toNat Zaa.d)]:List Zaa).flatMap Zaa.c).getD (i * 10 + j) .junk from ⟨rfl,fun i j hi hj =>ZaS (sz:=10) (e:=Zaa.c) (d:=Zaa.d) (fun _ =>rfl) ([(v8.getD v10.toNat Zaa.d)]:List Zaa) i j hi hj⟩) (.c (ZfF (sz:=10) (e:=Zaa.c) (d:=Zaa.d) w4 ([(v8.getD v10.toNat Zaa.d)]:List Zaa)) (.c o5.1 (.c o5.2 .n)))))) (by kernel_rfl) (ih v8 v9 (ZaD v10 (1:Int)) (w4 ++ ([(v8.getD v10.toNat Zaa.d)]:List Zaa)) w5 b3 r hf)
      · obtain ⟨o6,hf⟩:=Zas hf
        exact ZaI Zak Post.ends 17 [rz,rz,rA [(4,aB x1)],⟨[(3,.c ((w5 ++ ([(v8.getD v10.toNat Zaa.d)]:List Zaa)).length) (Zaq Zaa.c Zaa.d (w5 ++ ([(v8.getD v10.toNat Zaa.d)]:List Zaa))))],[],[],[],[],[(2,(([(v8.getD v10.toNat Zaa.d)]:List Zaa).length,Zaq Zaa.c Zaa.d ([(v8.getD v10.toNat Zaa.d)]:List Zaa)))],[]⟩,rz] [true,false] ⟨[],[],[],[],[],[3,4,5,8,9,10],[4,26,3],[(26,5)]⟩ (O1.app (.c h4 (.c (show ([(v8.getD v10.toNat Zaa.d)]:List Zaa).length = 1∧∀ i j,i < 1→j < 10→Zaq Zaa.c Zaa.d ([(v8.getD v10.toNat Zaa.d)]:List Zaa) i j = (([(v8.getD v10.toNat Zaa.d)]:List Zaa).flatMap Zaa.c).getD (i * 10 + j) .junk from ⟨rfl,fun i j hi hj =>ZaS (sz:=10) (e:=Zaa.c) (d:=Zaa.d) (fun _ =>rfl) ([(v8.getD v10.toNat Zaa.d)]:List Zaa) i j hi hj⟩) (.c (ZfF (sz:=10) (e:=Zaa.c) (d:=Zaa.d) w5 ([(v8.getD v10.toNat Zaa.d)]:List Zaa)) (.c o6.1 (.c o6.2 .n)))))) (by kernel_rfl) (ih v8 v9 (ZaD v10 (1:Int)) w4 (w5 ++ ([(v8.getD v10.toNat Zaa.d)]:List Zaa)) b3 r hf)
    · obtain rfl:=oi hf
      exact Zai Zak 8 [rz,rz] [false] [4,5] [] [] (.c h1 .n) (by kernel_rfl) rfl
def ZjT (a0:(List Zaa)) (a1:Zap):Option ((List Zaa) × (List Zaa)) :=
  Zeg   ((((a0.length:Nat):Int) - (0:Int)).toNat + 2) a0 ((a0.length:Nat):Int) (0:Int) ([]) ([]) a1
theorem Zqf (a0:(List Zaa)) (a1:Zap) (r:((List Zaa) × (List Zaa))) (hf:ZjT a0 a1 = some r):Zat Tryz.prog 228 [.one (cL 10 Zaa.c Zaa.d a0),.agg (Zap.c a1)] (.tup [(false,(cLs 10 Zaa.c Zaa.d) r.1),(false,(cLs 10 Zaa.c Zaa.d) r.2)]):=by
  refine Zat.of Tryz.func228 rfl rfl rfl rfl fun S0 w0 =>?_
  unfold ZjT at hf
  exact ZaI Zak Post.ends 6 [rz,rz] [] ⟨[],[],[],[],[(4,4,44,10,Zaq Zaa.c Zaa.d []),(5,5,44,10,Zaq Zaa.c Zaa.d [])],[3,4,5,8,9,10],[4,5,3],[]⟩ .n (by kernel_rfl) (Zoo S0 w0    ((((a0.length:Nat):Int) - (0:Int)).toNat + 2) a0 ((a0.length:Nat):Int) (0:Int) ([]) ([]) a1 r hf)
def ZfA   : Nat→(List Zaa)→Int→Int→(List Zaf)→Option (List Zaf)
  | 0,_,_,_,_ =>none
  | fu + 1,v6,v7,v8,w3 =>
    bif (decide (v8 < v7)) then
      need (0≤v8∧v8 < ((v6.length:Nat):Int)) <|
      need ((w3 ++ ([(v6.getD v8.toNat Zaa.d).fEnd]:List Zaf)).length * 32≤140737488355328∧(w3 ++ ([(v6.getD v8.toNat Zaa.d).fEnd]:List Zaf)).length≤maxLen) <|
      ZfA   fu v6 v7 (ZaD v8 (1:Int)) (w3 ++ ([(v6.getD v8.toNat Zaa.d).fEnd]:List Zaf))
    else
      some w3
theorem Zpd (S0:Nat→Prop) (w0:Zbh)   : ∀ (fu:Nat) (v6:(List Zaa)) (v7:Int) (v8:Int) (w3:(List Zaf)) (r:(List Zaf)),ZfA   fu v6 v7 v8 w3 = some r→Good Tryz.prog 19 S0 w0 (bodyPost Tryz.prog Tryz.f297 (Zdj S0 w0 [(99999,.rows 30 4 r.length (Zaq Zaf.c Zaf.d r))] (.one (.osl 99999 r.length)))) (at_ [1,1,0,1,0] (ZbM Tryz.f297)) ⟨[(3,.one (.osl 3 w3.length)),(6,.one (cL 10 Zaa.c Zaa.d v6)),(7,.one (.lit (.int .i64 v7))),(8,.one (.lit (.int .i64 v8)))],[(3,.rows 30 4 w3.length (Zaq Zaf.c Zaf.d w3))]⟩:=by
  intro fu
  induction fu with
  | zero =>
    intro v6 v7 v8 w3 r hf
    simp [ZfA] at hf
  | succ fu ih =>
    intro v6 v7 v8 w3 r hf
    unfold ZfA at hf
    rcases Zaj hf with ⟨h1,hf⟩ | ⟨h1,hf⟩
    · obtain ⟨o2,hf⟩:=Zas hf
      obtain ⟨o3,hf⟩:=Zas hf
      exact ZaI Zak Zdj.ends 14 [rz,rz,⟨[(4,.c ((w3 ++ ([(v6.getD v8.toNat Zaa.d).fEnd]:List Zaf)).length) (Zaq Zaf.c Zaf.d (w3 ++ ([(v6.getD v8.toNat Zaa.d).fEnd]:List Zaf))))],[],[],[],[],[(3,(([(v6.getD v8.toNat Zaa.d).fEnd]:List Zaf).length,Zaq Zaf.c Zaf.d ([(v6.getD v8.toNat Zaa.d).fEnd]:List Zaf)))],[]⟩,rz] [true] ⟨[],[],[],[],[],[3,6,7,8],[16],[(16,3)]⟩ (.c h1 (.c o2 (.c (show ([(v6.getD v8.toNat Zaa.d).fEnd]:List Zaf).length = 1∧∀ i j,i < 1→j < 4→Zaq Zaf.c Zaf.d ([(v6.getD v8.toNat Zaa.d).fEnd]:List Zaf) i j = (([(v6.getD v8.toNat Zaa.d).fEnd]:List Zaf).flatMap Zaf.c).getD (i * 4 + j) .junk from ⟨rfl,fun i j hi hj =>ZaS (sz:=4) (e:=Zaf.c) (d:=Zaf.d) (fun _ =>rfl) ([(v6.getD v8.toNat Zaa.d).fEnd]:List Zaf) i j hi hj⟩) (.c (ZfF (sz:=4) (e:=Zaf.c) (d:=Zaf.d) w3 ([(v6.getD v8.toNat Zaa.d).fEnd]:List Zaf)) (.c o3.1 (.c o3.2 .n)))))) (by kernel_rfl) (ih v6 v7 (ZaD v8 (1:Int)) (w3 ++ ([(v6.getD v8.toNat Zaa.d).fEnd]:List Zaf)) r hf)
    · obtain rfl:=oi hf
      exact Zdc Zak 8 [rz,rz] [false] ⟨[],[],[],[],[],[2],[3],[(3,99999)]⟩ (.c h1 .n) (by kernel_rfl)
def Zir (a0:(List Zaa)):Option (List Zaf) :=
  ZfA   ((((a0.length:Nat):Int) - (0:Int)).toNat + 2) a0 ((a0.length:Nat):Int) (0:Int) ([])
theorem Zqk (a0:(List Zaa)) (r:(List Zaf)) (hf:Zir a0 = some r):ZdL Tryz.prog 297 [] [.one (cL 10 Zaa.c Zaa.d a0)] [(99999,.rows 30 4 r.length (Zaq Zaf.c Zaf.d r))] (.one (.osl 99999 r.length)):=by
  refine ZdL.of Tryz.func297 rfl rfl rfl rfl fun S0 w0 =>?_
  unfold Zir at hf
  exact ZaI Zak Zdj.ends 8 [rz,rz,rz] [] ⟨[],[],[],[],[(3,3,30,4,Zaq Zaf.c Zaf.d [])],[3,6,7,8],[3],[]⟩ .n (by kernel_rfl) (Zpd S0 w0    ((((a0.length:Nat):Int) - (0:Int)).toNat + 2) a0 ((a0.length:Nat):Int) (0:Int) ([]) r hf)
theorem Zkp (a0:(List Zaa)) (r:(List Zaf)) (hf:Zir a0 = some r):Zat Tryz.prog 297 [.one (cL 10 Zaa.c Zaa.d a0)] (.one (cL 4 Zaf.c Zaf.d r)):=(Zqk a0 r hf).pure
def ZdB (a1:Bool)  : Nat→Int→(List Zaa)→Int→Int→Option Int
  | 0,_,_,_,_ =>none
  | fu + 1,v5,v8,v9,v10 =>
    bif (decide (v10 < v9)) then
      need (0≤v10∧v10 < ((v8.length:Nat):Int)) <|
      bif ((v8.getD v10.toNat Zaa.d).fIn == a1) then
        ZdB a1  fu (ZaD v5 (1:Int)) v8 v9 (ZaD v10 (1:Int))
      else
        ZdB a1  fu v5 v8 v9 (ZaD v10 (1:Int))
    else
      some v5
theorem Zop (S0:Nat→Prop) (w0:Zbh) (a1:Bool)  : ∀ (fu:Nat) (v5:Int) (v8:(List Zaa)) (v9:Int) (v10:Int) (r:Int),ZdB a1  fu v5 v8 v9 v10 = some r→Good Tryz.prog 22 S0 w0 (bodyPost Tryz.prog Tryz.f298 (Post S0 w0 (.one (.lit (.int .i64 r))))) (at_ [1,1,0,1,0] (ZbM Tryz.f298)) ⟨[(1,.one (.lit (.bool a1))),(5,.one (.lit (.int .i64 v5))),(8,.one (cL 10 Zaa.c Zaa.d v8)),(9,.one (.lit (.int .i64 v9))),(10,.one (.lit (.int .i64 v10)))],[]⟩:=by
  intro fu
  induction fu with
  | zero =>
    intro v5 v8 v9 v10 r hf
    simp [ZdB] at hf
  | succ fu ih =>
    intro v5 v8 v9 v10 r hf
    unfold ZdB at hf
    rcases Zaj hf with ⟨h1,hf⟩ | ⟨h1,hf⟩
    · obtain ⟨o2,hf⟩:=Zas hf
      rcases Zaj hf with ⟨h3,hf⟩ | ⟨h3,hf⟩
      · exact ZaI Zak Post.ends 17 [rz,rz,rz,rz,rz] [true,true] ⟨[],[],[],[],[],[1,5,8,9,10],[],[]⟩ (.c h1 (.c o2 (.c h3 .n))) (by kernel_rfl) (ih (ZaD v5 (1:Int)) v8 v9 (ZaD v10 (1:Int)) r hf)
      · exact ZaI Zak Post.ends 17 [rz,rz,rz,rz] [true,false] ⟨[],[],[],[],[],[1,5,8,9,10],[],[]⟩ (.c h1 (.c o2 (.c h3 .n))) (by kernel_rfl) (ih v5 v8 v9 (ZaD v10 (1:Int)) r hf)
    · obtain rfl:=oi hf
      exact Zai Zak 8 [rz,rz] [false] [] [] [] (.c h1 .n) (by kernel_rfl) rfl
def ZhB (a0:(List Zaa)) (a1:Bool):Option Int :=
  ZdB a1  ((((a0.length:Nat):Int) - (0:Int)).toNat + 2) (0:Int) a0 ((a0.length:Nat):Int) (0:Int)
theorem ZjI (a0:(List Zaa)) (a1:Bool) (r:Int) (hf:ZhB a0 a1 = some r):Zat Tryz.prog 298 [.one (cL 10 Zaa.c Zaa.d a0),.one (.lit (.bool a1))] (.one (.lit (.int .i64 r))):=by
  refine Zat.of Tryz.func298 rfl rfl rfl rfl fun S0 w0 =>?_
  unfold ZhB at hf
  exact ZaI Zak Post.ends 8 [rz,rz,rz] [] ⟨[],[],[],[],[],[1,5,8,9,10],[],[]⟩ .n (by kernel_rfl) (Zop S0 w0 a1   ((((a0.length:Nat):Int) - (0:Int)).toNat + 2) (0:Int) a0 ((a0.length:Nat):Int) (0:Int) r hf)
def Zeb (a3:(List Zaa))  (b100000:Zal):Option (Tout Unit) :=
  (ZhB a3 false).bind fun x5 =>
  bif (decide (x5 > (0:Int))) then
    (Zir a3).bind fun x6 =>
    (ZhD b100000 x6).bind fun x7 =>
    (match x7 with
    | .ret x7v x7g =>
      (Zfx x7g (2:Int) (IntKind.wrap .i64 (0 - x5)) false).bind fun x8 =>
      (match x8 with
      | .ret x8v x8g =>
        some (Tout.ret () x8g)
      | .pan x8o =>
        some (Tout.pan x8o)
      | .bad x8s =>
        some (Tout.bad x8s))
    | .pan x7o =>
      some (Tout.pan x7o)
    | .bad x7s =>
      some (Tout.bad x7s))
  else
    some (Tout.ret () b100000)
theorem ZiE (S0:Nat→Prop) (w0:Zbh) (a3:(List Zaa))  (b100000:Zal) (r:(Tout Unit)) (hf:Zeb a3  b100000 = some r):Good Tryz.prog 36 S0 w0 (bodyPost Tryz.prog Tryz.f229 (ZoC S0 w0 (oc (fun x =>.tup []) r))) (at_ [1,1,1] (ZbM Tryz.f229)) ⟨[(1,.one (.ifc 112 (.ptr 100000 0))),(3,.one (cL 10 Zaa.c Zaa.d a3))],[(100000,.box [cL 13 Zae.c Zae.d b100000.fgot])]⟩:=by
  unfold Zeb at hf
  obtain ⟨x5,q6,hf⟩:=bind_some' hf
  rcases Zaj hf with ⟨h7,hf⟩ | ⟨h7,hf⟩
  · obtain ⟨x6,q8,hf⟩:=bind_some' hf
    have O1:Obl _:=(.c (ZjI _ _ _ q6) (.c h7 (.c (Zkp _ _ q8) .n)))
    obtain ⟨x7,q9,hf⟩:=bind_some' hf
    cases x7 with
    | ret x7v x7g =>
      dsimp only at hf
      let R2:List RA:=[rA [(1,aI x5)],rz,rH [(2,.r (.one (cL 4 Zaf.c Zaf.d x6)) [])] [(3,⟨[(100000,100000)],[],[(100000,.box (Zal.c x7g))],.tup []⟩)]]
      obtain ⟨x8,q10,hf⟩:=bind_some' hf
      cases x8 with
      | ret x8v x8g =>
        dsimp only at hf
        obtain rfl:=oi hf
        exact Zcg Zak 8 (R2 ++ [rH [] [(3,⟨[(100000,100000)],[],[(100000,.box (Zal.c x8g))],.tup []⟩)]]) [true] ⟨[],[],[],[],[],[],[100000],[]⟩ [100000] (O1.app (.c (Zfr _ _ _ q9) (.c (Zdw _ _ _ _ _ q10) .n))) (by kernel_rfl)
      | _ =>
        dsimp only at hf
        obtain rfl:=oi hf
        exact ZaC Zak 7 _ _ R2 [true] (rz) 3 ⟨[(100000,100000)],pvOf q10⟩ (O1.app (.c (Zfr _ _ _ q9) (.c (Zdw _ _ _ _ _ q10) .n))) (by kernel_rfl)
    | _ =>
      dsimp only at hf
      obtain rfl:=oi hf
      exact ZaC Zak 6 _ _ [rA [(1,aI x5)],rz] [true] (rA [(2,.r (.one (cL 4 Zaf.c Zaf.d x6)) [])]) 3 ⟨[(100000,100000)],pvOf q9⟩ (O1.app (.c (Zfr _ _ _ q9) .n)) (by kernel_rfl)
  · obtain rfl:=oi hf
    exact Zcg Zak 6 [rA [(1,aI x5)],rz] [false] ⟨[],[],[],[],[],[],[100000],[]⟩ [100000] (.c (ZjI _ _ _ q6) (.c h7 .n)) (by kernel_rfl)
def ZgD (a0:Zav) (a1:Zal) (a2:(List Zaa)) (a3:(List Zaa)):Option (Tout Unit) :=
  (Zir a3).bind fun x1 =>
  (ZdS a0 a1 a2 x1).bind fun x2 =>
  (match x2 with
  | .ret x2v x2g =>
    (ZhB a3 true).bind fun x3 =>
    bif (decide (x3 > (0:Int))) then
      (Zfx x2g (1:Int) (IntKind.wrap .i64 (0 - x3)) false).bind fun x4 =>
      (match x4 with
      | .ret x4v x4g =>
        Zeb a3  x4g
      | .pan x4o =>
        some (Tout.pan x4o)
      | .bad x4s =>
        some (Tout.bad x4s))
    else
      Zeb a3  x2g
  | .pan x2o =>
    some (Tout.pan x2o)
  | .bad x2s =>
    some (Tout.bad x2s))
theorem Zjw (a0:Zav) (a1:Zal) (a2:(List Zaa)) (a3:(List Zaa)) (r:(Tout Unit)) (hf:ZgD a0 a1 a2 a3 = some r):ZfM Tryz.prog 229 [(100000,.box (Zal.c a1))] [.agg (Zav.c a0),.one (.ifc 112 (.ptr 100000 0)),.one (cL 10 Zaa.c Zaa.d a2),.one (cL 10 Zaa.c Zaa.d a3)] (oc (fun x =>.tup []) r):=by
  refine ZfM.of Tryz.func229 rfl rfl rfl rfl fun S0 w0 =>?_
  unfold ZgD at hf
  obtain ⟨x1,q1,hf⟩:=bind_some' hf
  obtain ⟨x2,q2,hf⟩:=bind_some' hf
  cases x2 with
  | ret x2v x2g =>
    dsimp only at hf
    obtain ⟨x3,q3,hf⟩:=bind_some' hf
    let R3:List RA:=[rz,rH [(4,.r (.one (cL 4 Zaf.c Zaf.d x1)) [])] [(5,⟨[(100000,100000)],[],[(100000,.box (Zal.c x2g))],.tup []⟩)],rA [(1,aI x3)],rz]
    have O4:Obl _:=(.c (Zkp _ _ q1) (.c (ZcP _ _ _ _ _ q2) (.c (ZjI _ _ _ q3) .n)))
    rcases Zaj hf with ⟨h4,hf⟩ | ⟨h4,hf⟩
    · obtain ⟨x4,q5,hf⟩:=bind_some' hf
      cases x4 with
      | ret x4v x4g =>
        dsimp only at hf
        exact ZaI Zak ZoC.ends 11 (R3 ++ [rH [] [(3,⟨[(100000,100000)],[],[(100000,.box (Zal.c x4g))],.tup []⟩)]]) [true] ⟨[],[],[],[],[],[1,3],[100000],[]⟩ (O4.app (.c h4 (.c (Zdw _ _ _ _ _ q5) .n))) (by kernel_rfl) (ZiE S0 w0 a3   x4g r hf)
      | _ =>
        dsimp only at hf
        obtain rfl:=oi hf
        exact ZaC Zak 10 _ _ R3 [true] (rz) 3 ⟨[(100000,100000)],pvOf q5⟩ (O4.app (.c h4 (.c (Zdw _ _ _ _ _ q5) .n))) (by kernel_rfl)
    · exact ZaI Zak ZoC.ends 11 R3 [false] ⟨[],[],[],[],[],[1,3],[100000],[]⟩ (O4.app (.c h4 .n)) (by kernel_rfl) (ZiE S0 w0 a3   x2g r hf)
  | _ =>
    dsimp only at hf
    obtain rfl:=oi hf
    exact ZaC Zak 3 _ _ [rz] [] (rA [(4,.r (.one (cL 4 Zaf.c Zaf.d x1)) [])]) 5 ⟨[(100000,100000)],pvOf q2⟩ (.c (Zkp _ _ q1) (.c (ZcP _ _ _ _ _ q2) .n)) (by kernel_rfl)
def Zfz (a0:Zav) (a1:Zal):Option (Tout (Zam × Bool)) :=
  (Zde a0 a1).bind fun x1 =>
  (match x1 with
  | .ret x1v x1g =>
    bif (decide (x1v.2 < (0:Int))) then
      (ZdR (6:Int)).bind fun x2 =>
      some (Tout.ret (x2,true) x1g)
    else
      need (0≤x1v.2∧x1v.2 < ((x1v.1.length:Nat):Int)) <|
      (Zes a0 (x1v.1.getD x1v.2.toNat Zaa.d)).bind fun x3 =>
      bif (!x3.2) then
        (ZdJ a0 x1g x1v.2 x3.1).bind fun x4 =>
        (match x4 with
        | .ret x4v x4g =>
          (ZfX x3.1.fScore).bind fun x5 =>
          some (Tout.ret ((Zam.mk (0:Int) (Zaf.mk (Zag.mk false (0:Int) (0:Int)) (0:Int)) x5 (0:Int) ([]:(List Zaa))),false) x4g)
        | .pan x4o =>
          some (Tout.pan x4o)
        | .bad x4s =>
          some (Tout.bad x4s))
      else
        (Zim a0.fx.fEnd.fAddr).bind fun x6 =>
        (ZgC a0 x1g x6).bind fun x7 =>
        (match x7 with
        | .ret x7v x7g =>
          (ZjT x1v.1 x6).bind fun x8 =>
          (ZgD a0 x7g x1v.1 x8.1).bind fun x9 =>
          (match x9 with
          | .ret x9v x9g =>
            some (Tout.ret ((Zam.mk (0:Int) a0.fx.fEnd ((x8.1.length:Nat):Int) x7v ([]:(List Zaa))),true) x9g)
          | .pan x9o =>
            some (Tout.pan x9o)
          | .bad x9s =>
            some (Tout.bad x9s))
        | .pan x7o =>
          some (Tout.pan x7o)
        | .bad x7s =>
          some (Tout.bad x7s))
  | .pan x1o =>
    some (Tout.pan x1o)
  | .bad x1s =>
    some (Tout.bad x1s))
theorem ZiD (a0:Zav) (a1:Zal) (r:(Tout (Zam × Bool))) (hf:Zfz a0 a1 = some r):ZfM Tryz.prog 145 [(100000,.box (Zal.c a1))] [.agg (Zav.c a0),.one (.ifc 112 (.ptr 100000 0))] (oc (fun x =>.tup [(true,Zam.c x.1),(false,cB x.2)]) r):=by
  refine ZfM.of Tryz.func145 rfl rfl rfl rfl fun S0 w0 =>?_
  unfold Zfz at hf
  obtain ⟨x1,q1,hf⟩:=bind_some' hf
  cases x1 with
  | ret x1v x1g =>
    dsimp only at hf
    let R1:List RA:=[rz,rH [] [(2,⟨[(100000,100000)],[],[(100000,.box (Zal.c x1g))],.tup [(false,(cLs 10 Zaa.c Zaa.d) x1v.1),(false,(cI .i64) x1v.2)]⟩)],rz]
    rcases Zaj hf with ⟨h2,hf⟩ | ⟨h2,hf⟩
    · obtain ⟨x2,q3,hf⟩:=bind_some' hf
      obtain rfl:=oi hf
      exact Zcg Zak 10 (R1 ++ [rA [(0,aG (Zam.c x2))]]) [true] ⟨[],[],[],[],[],[4,5],[4,100000],[]⟩ [100000] (.c (Zbd _ _ _ q1) (.c h2 (.c (ZeJ _ _ q3) .n))) (by kernel_rfl)
    · obtain ⟨o4,hf⟩:=Zas hf
      obtain ⟨x3,q5,hf⟩:=bind_some' hf
      let R2:List RA:=(R1 ++ [rA [(5,.r (.tup [(true,Zaa.c x3.1),(false,cB x3.2)]) [])],rz])
      have O3:Obl _:=(.c (Zbd _ _ _ q1) (.c h2 (.c o4 (.c (ZiV _ _ _ q5) .n))))
      rcases Zaj hf with ⟨h6,hf⟩ | ⟨h6,hf⟩
      · obtain ⟨x4,q7,hf⟩:=bind_some' hf
        cases x4 with
        | ret x4v x4g =>
          dsimp only at hf
          obtain ⟨x5,q8,hf⟩:=bind_some' hf
          obtain rfl:=oi hf
          exact Zcg Zak 19 (R2 ++ [rH [] [(4,⟨[(100000,100000)],[],[(100000,.box (Zal.c x4g))],.tup []⟩)],rA [(2,aI x5)]]) [false,true] ⟨[],[(4,[(7,cL 10 Zaa.c Zaa.d [])])],[],[],[],[4,5],[4,100000],[]⟩ [100000] (O3.app (.c h6 (.c (Zcz _ _ _ _ _ q7) (.c (Zmv _ _ q8) .n)))) (by kernel_rfl)
        | _ =>
          dsimp only at hf
          obtain rfl:=oi hf
          exact ZaC Zak 16 _ _ R2 [false,true] (rz) 4 ⟨[(100000,100000)],pvOf q7⟩ (O3.app (.c h6 (.c (Zcz _ _ _ _ _ q7) .n))) (by kernel_rfl)
      · obtain ⟨x6,q9,hf⟩:=bind_some' hf
        obtain ⟨x7,q10,hf⟩:=bind_some' hf
        cases x7 with
        | ret x7v x7g =>
          dsimp only at hf
          obtain ⟨x8,q11,hf⟩:=bind_some' hf
          let R4:List RA:=(R2 ++ [rA [(4,aG (Zap.c x6))],rH [] [(6,⟨[(100000,100000)],[],[(100000,.box (Zal.c x7g))],.one (.lit (.int .i64 x7v))⟩)],rA [(2,.r (.tup [(false,(cLs 10 Zaa.c Zaa.d) x8.1),(false,(cLs 10 Zaa.c Zaa.d) x8.2)]) [])]])
          have O5:Obl _:=(O3.app (.c h6 (.c (Zlk _ _ q9) (.c (Zjv _ _ _ _ q10) (.c (Zqf _ _ _ q11) .n)))))
          obtain ⟨x9,q12,hf⟩:=bind_some' hf
          cases x9 with
          | ret x9v x9g =>
            dsimp only at hf
            obtain rfl:=oi hf
            exact Zcg Zak 28 (R4 ++ [rH [] [(4,⟨[(100000,100000)],[],[(100000,.box (Zal.c x9g))],.tup []⟩)],rz,rz]) [false,false] ⟨[],[(4,[(7,cL 10 Zaa.c Zaa.d [])])],[],[],[],[4,5],[4,100000],[]⟩ [100000] (O5.app (.c (Zjw _ _ _ _ _ q12) .n)) (by kernel_rfl)
          | _ =>
            dsimp only at hf
            obtain rfl:=oi hf
            exact ZaC Zak 23 _ _ R4 [false,false] (rz) 4 ⟨[(100000,100000)],pvOf q12⟩ (O5.app (.c (Zjw _ _ _ _ _ q12) .n)) (by kernel_rfl)
        | _ =>
          dsimp only at hf
          obtain rfl:=oi hf
          exact ZaC Zak 19 _ _ (R2 ++ [rA [(4,aG (Zap.c x6))]]) [false,false] (rz) 6 ⟨[(100000,100000)],pvOf q10⟩ (O3.app (.c h6 (.c (Zlk _ _ q9) (.c (Zjv _ _ _ _ q10) .n)))) (by kernel_rfl)
  | _ =>
    dsimp only at hf
    obtain rfl:=oi hf
    exact ZaC Zak 3 _ _ [rz] [] (rz) 2 ⟨[(100000,100000)],pvOf q1⟩ (.c (Zbd _ _ _ q1) .n) (by kernel_rfl)
def Zgc (a0:Zav) (a1:Zal):Option (Tout Zam) :=
  (Zde a0 a1).bind fun x1 =>
  (match x1 with
  | .ret x1v x1g =>
    bif (decide (x1v.2 < (0:Int))) then
      (Zbi a0).bind fun x2 =>
      (Zbf x1g x2 true).bind fun x3 =>
      (match x3 with
      | .ret x3v x3g =>
        (ZdR (6:Int)).bind fun x4 =>
        some (Tout.ret x4 x3g)
      | .pan x3o =>
        some (Tout.pan x3o)
      | .bad x3s =>
        some (Tout.bad x3s))
    else
      need (0≤x1v.2∧x1v.2 < ((x1v.1.length:Nat):Int)) <|
      (Zes a0 (x1v.1.getD x1v.2.toNat Zaa.d)).bind fun x5 =>
      bif (!x5.2) then
        (ZdJ a0 x1g x1v.2 x5.1).bind fun x6 =>
        (match x6 with
        | .ret x6v x6g =>
          (Zbi a0).bind fun x7 =>
          (Zbf x6g x7 false).bind fun x8 =>
          (match x8 with
          | .ret x8v x8g =>
            (ZfX x5.1.fScore).bind fun x9 =>
            some (Tout.ret (Zam.mk (0:Int) (Zaf.mk (Zag.mk false (0:Int) (0:Int)) (0:Int)) x9 (0:Int) ([]:(List Zaa))) x8g)
          | .pan x8o =>
            some (Tout.pan x8o)
          | .bad x8s =>
            some (Tout.bad x8s))
        | .pan x6o =>
          some (Tout.pan x6o)
        | .bad x6s =>
          some (Tout.bad x6s))
      else
        (Zbi a0).bind fun x10 =>
        (Zbf x1g x10 false).bind fun x11 =>
        (match x11 with
        | .ret x11v x11g =>
          (ZeN x11g (0:Int) false).bind fun x12 =>
          (match x12 with
          | .ret x12v x12g =>
            (ZeN x12g (1:Int) false).bind fun x13 =>
            (match x13 with
            | .ret x13v x13g =>
              (Zfz a0 x13g).bind fun x14 =>
              (match x14 with
              | .ret x14v x14g =>
                (Zbf x14g x10 x14v.2).bind fun x15 =>
                (match x15 with
                | .ret x15v x15g =>
                  (Zbf x15g (1:Int) false).bind fun x16 =>
                  (match x16 with
                  | .ret x16v x16g =>
                    (Zbf x16g (0:Int) false).bind fun x17 =>
                    (match x17 with
                    | .ret x17v x17g =>
                      some (Tout.ret x14v.1 x17g)
                    | .pan x17o =>
                      some (Tout.pan x17o)
                    | .bad x17s =>
                      some (Tout.bad x17s))
                  | .pan x16o =>
                    some (Tout.pan x16o)
                  | .bad x16s =>
                    some (Tout.bad x16s))
                | .pan x15o =>
                  some (Tout.pan x15o)
                | .bad x15s =>
                  some (Tout.bad x15s))
              | .pan x14o =>
                some (Tout.pan x14o)
              | .bad x14s =>
                some (Tout.bad x14s))
            | .pan x13o =>
              some (Tout.pan x13o)
            | .bad x13s =>
              some (Tout.bad x13s))
          | .pan x12o =>
            some (Tout.pan x12o)
          | .bad x12s =>
            some (Tout.bad x12s))
        | .pan x11o =>
          some (Tout.pan x11o)
        | .bad x11s =>
          some (Tout.bad x11s))
  | .pan x1o =>
    some (Tout.pan x1o)
  | .bad x1s =>
    some (Tout.bad x1s))
theorem Zhh (a0:Zav) (a1:Zal) (r:(Tout Zam)) (hf:Zgc a0 a1 = some r):ZfM Tryz.prog 69 [(100000,.box (Zal.c a1))] [.agg (Zav.c a0),.one (.ifc 112 (.ptr 100000 0))] (oc (fun x =>.agg (Zam.c x)) r):=by
  refine ZfM.of Tryz.func69 rfl rfl rfl rfl fun S0 w0 =>?_
  unfold Zgc at hf
  obtain ⟨x1,q1,hf⟩:=bind_some' hf
  cases x1 with
  | ret x1v x1g =>
    dsimp only at hf
    let R1:List RA:=[rz,rH [] [(2,⟨[(100000,100000)],[],[(100000,.box (Zal.c x1g))],.tup [(false,(cLs 10 Zaa.c Zaa.d) x1v.1),(false,(cI .i64) x1v.2)]⟩)],rz]
    rcases Zaj hf with ⟨h2,hf⟩ | ⟨h2,hf⟩
    · obtain ⟨x2,q3,hf⟩:=bind_some' hf
      have O2:Obl _:=(.c (Zbd _ _ _ q1) (.c h2 (.c (Zbn _ _ q3) (.c Zfm .n))))
      obtain ⟨x3,q4,hf⟩:=bind_some' hf
      cases x3 with
      | ret x3v x3g =>
        dsimp only at hf
        obtain ⟨x4,q5,hf⟩:=bind_some' hf
        obtain rfl:=oi hf
        exact Zcg Zak 12 (R1 ++ [rH [(2,aI x2),(6,.id 462)] [(6,⟨[(100000,100000)],[],[(100000,.box (Zal.c x3g))],.tup []⟩)],rA [(0,aG (Zam.c x4))]]) [true] ⟨[],[],[],[],[],[4],[4,100000],[]⟩ [100000] (O2.app (.c (Zax _ _ _ _ q4) (.c ZbR (.c (ZeJ _ _ q5) .n)))) (by kernel_rfl)
      | _ =>
        dsimp only at hf
        obtain rfl:=oi hf
        exact ZaC Zak 9 _ _ R1 [true] (rA [(2,aI x2),(6,.id 462)]) 6 ⟨[(100000,100000)],pvOf q4⟩ (O2.app (.c (Zax _ _ _ _ q4) (.c ZbR .n))) (by kernel_rfl)
    · obtain ⟨o6,hf⟩:=Zas hf
      obtain ⟨x5,q7,hf⟩:=bind_some' hf
      let R3:List RA:=(R1 ++ [rA [(5,.r (.tup [(true,Zaa.c x5.1),(false,cB x5.2)]) [])],rz])
      have O4:Obl _:=(.c (Zbd _ _ _ q1) (.c h2 (.c o6 (.c (ZiV _ _ _ q7) .n))))
      rcases Zaj hf with ⟨h8,hf⟩ | ⟨h8,hf⟩
      · obtain ⟨x6,q9,hf⟩:=bind_some' hf
        cases x6 with
        | ret x6v x6g =>
          dsimp only at hf
          obtain ⟨x7,q10,hf⟩:=bind_some' hf
          let R5:List RA:=(R3 ++ [rH [] [(4,⟨[(100000,100000)],[],[(100000,.box (Zal.c x6g))],.tup []⟩)]])
          have O6:Obl _:=(O4.app (.c h8 (.c (Zcz _ _ _ _ _ q9) (.c (Zbn _ _ q10) (.c Zfm .n)))))
          obtain ⟨x8,q11,hf⟩:=bind_some' hf
          cases x8 with
          | ret x8v x8g =>
            dsimp only at hf
            obtain ⟨x9,q12,hf⟩:=bind_some' hf
            obtain rfl:=oi hf
            exact Zcg Zak 21 (R5 ++ [rH [(2,aI x7),(6,.id 462)] [(6,⟨[(100000,100000)],[],[(100000,.box (Zal.c x8g))],.tup []⟩)],rA [(2,aI x9)]]) [false,true] ⟨[],[(4,[(7,cL 10 Zaa.c Zaa.d [])])],[],[],[],[4],[4,100000],[]⟩ [100000] (O6.app (.c (Zax _ _ _ _ q11) (.c ZbR (.c (Zmv _ _ q12) .n)))) (by kernel_rfl)
          | _ =>
            dsimp only at hf
            obtain rfl:=oi hf
            exact ZaC Zak 18 _ _ R5 [false,true] (rA [(2,aI x7),(6,.id 462)]) 6 ⟨[(100000,100000)],pvOf q11⟩ (O6.app (.c (Zax _ _ _ _ q11) (.c ZbR .n))) (by kernel_rfl)
        | _ =>
          dsimp only at hf
          obtain rfl:=oi hf
          exact ZaC Zak 16 _ _ R3 [false,true] (rz) 4 ⟨[(100000,100000)],pvOf q9⟩ (O4.app (.c h8 (.c (Zcz _ _ _ _ _ q9) .n))) (by kernel_rfl)
      · obtain ⟨x10,q13,hf⟩:=bind_some' hf
        have O7:Obl _:=(O4.app (.c h8 (.c (Zbn _ _ q13) (.c Zfm .n))))
        obtain ⟨x11,q14,hf⟩:=bind_some' hf
        cases x11 with
        | ret x11v x11g =>
          dsimp only at hf
          let R8:List RA:=(R3 ++ [rH [(2,aI x10),(6,.id 462)] [(6,⟨[(100000,100000)],[],[(100000,.box (Zal.c x11g))],.tup []⟩)]])
          have O9:Obl _:=(O7.app (.c (Zax _ _ _ _ q14) (.c ZbR .n)))
          obtain ⟨x12,q15,hf⟩:=bind_some' hf
          cases x12 with
          | ret x12v x12g =>
            dsimp only at hf
            let R10:List RA:=(R8 ++ [rH [(1,.id 464)] [(1,⟨[(100000,100000)],[],[(100000,.box (Zal.c x12g))],.tup []⟩)]])
            have O11:Obl _:=(O9.app (.c (ZcN _ _ _ _ q15) (.c Zjs .n)))
            obtain ⟨x13,q16,hf⟩:=bind_some' hf
            cases x13 with
            | ret x13v x13g =>
              dsimp only at hf
              let R12:List RA:=(R10 ++ [rH [(1,.id 464)] [(1,⟨[(100000,100000)],[],[(100000,.box (Zal.c x13g))],.tup []⟩)]])
              have O13:Obl _:=(O11.app (.c (ZcN _ _ _ _ q16) (.c Zjs .n)))
              obtain ⟨x14,q17,hf⟩:=bind_some' hf
              cases x14 with
              | ret x14v x14g =>
                dsimp only at hf
                let R14:List RA:=(R12 ++ [rH [] [(2,⟨[(100000,100000)],[],[(100000,.box (Zal.c x14g))],.tup [(true,Zam.c x14v.1),(false,cB x14v.2)]⟩)]])
                have O15:Obl _:=(O13.app (.c (ZiD _ _ _ q17) (.c (Zbn _ _ q13) (.c Zfm .n))))
                obtain ⟨x15,q18,hf⟩:=bind_some' hf
                cases x15 with
                | ret x15v x15g =>
                  dsimp only at hf
                  let R16:List RA:=(R14 ++ [rH [(2,aI x10),(7,.id 462)] [(7,⟨[(100000,100000)],[],[(100000,.box (Zal.c x15g))],.tup []⟩)]])
                  have O17:Obl _:=(O15.app (.c (Zax _ _ _ _ q18) (.c ZbR .n)))
                  obtain ⟨x16,q19,hf⟩:=bind_some' hf
                  cases x16 with
                  | ret x16v x16g =>
                    dsimp only at hf
                    let R18:List RA:=(R16 ++ [rH [(1,.id 462)] [(1,⟨[(100000,100000)],[],[(100000,.box (Zal.c x16g))],.tup []⟩)]])
                    have O19:Obl _:=(O17.app (.c (Zax _ _ _ _ q19) (.c ZbR .n)))
                    obtain ⟨x17,q20,hf⟩:=bind_some' hf
                    cases x17 with
                    | ret x17v x17g =>
                      dsimp only at hf
                      obtain rfl:=oi hf
                      exact Zcg Zak 32 (R18 ++ [rH [(1,.id 462)] [(1,⟨[(100000,100000)],[],[(100000,.box (Zal.c x17g))],.tup []⟩)],rz]) [false,false] ⟨[],[],[],[],[],[4],[4,100000],[]⟩ [100000] (O19.app (.c (Zax _ _ _ _ q20) (.c ZbR .n))) (by kernel_rfl)
                    | _ =>
                      dsimp only at hf
                      obtain rfl:=oi hf
                      exact ZaC Zak 29 _ _ R18 [false,false] (rA [(1,.id 462)]) 1 ⟨[(100000,100000)],pvOf q20⟩ (O19.app (.c (Zax _ _ _ _ q20) (.c ZbR .n))) (by kernel_rfl)
                  | _ =>
                    dsimp only at hf
                    obtain rfl:=oi hf
                    exact ZaC Zak 27 _ _ R16 [false,false] (rA [(1,.id 462)]) 1 ⟨[(100000,100000)],pvOf q19⟩ (O17.app (.c (Zax _ _ _ _ q19) (.c ZbR .n))) (by kernel_rfl)
                | _ =>
                  dsimp only at hf
                  obtain rfl:=oi hf
                  exact ZaC Zak 25 _ _ R14 [false,false] (rA [(2,aI x10),(7,.id 462)]) 7 ⟨[(100000,100000)],pvOf q18⟩ (O15.app (.c (Zax _ _ _ _ q18) (.c ZbR .n))) (by kernel_rfl)
              | _ =>
                dsimp only at hf
                obtain rfl:=oi hf
                exact ZaC Zak 23 _ _ R12 [false,false] (rz) 2 ⟨[(100000,100000)],pvOf q17⟩ (O13.app (.c (ZiD _ _ _ q17) .n)) (by kernel_rfl)
            | _ =>
              dsimp only at hf
              obtain rfl:=oi hf
              exact ZaC Zak 21 _ _ R10 [false,false] (rA [(1,.id 464)]) 1 ⟨[(100000,100000)],pvOf q16⟩ (O11.app (.c (ZcN _ _ _ _ q16) (.c Zjs .n))) (by kernel_rfl)
          | _ =>
            dsimp only at hf
            obtain rfl:=oi hf
            exact ZaC Zak 19 _ _ R8 [false,false] (rA [(1,.id 464)]) 1 ⟨[(100000,100000)],pvOf q15⟩ (O9.app (.c (ZcN _ _ _ _ q15) (.c Zjs .n))) (by kernel_rfl)
        | _ =>
          dsimp only at hf
          obtain rfl:=oi hf
          exact ZaC Zak 17 _ _ R3 [false,false] (rA [(2,aI x10),(6,.id 462)]) 6 ⟨[(100000,100000)],pvOf q14⟩ (O7.app (.c (Zax _ _ _ _ q14) (.c ZbR .n))) (by kernel_rfl)
  | _ =>
    dsimp only at hf
    obtain rfl:=oi hf
    exact ZaC Zak 3 _ _ [rz] [] (rz) 2 ⟨[(100000,100000)],pvOf q1⟩ (.c (Zbd _ _ _ q1) .n) (by kernel_rfl)
def ZgN (a0:Zaa) (a1:Int):Option Zaa :=
  (ZfY a1).bind fun x1 =>
  some (Zaa.mk a0.fEnd a0.fIn a0.fSince a0.fScore a0.fPing (if x1 > a0.fWork then x1 else a0.fWork))
theorem Zqi (a0:Zaa) (a1:Int) (r:Zaa) (hf:ZgN a0 a1 = some r):Zat Tryz.prog 146 [.agg (Zaa.c a0),.one (.lit (.int .i64 a1))] (.agg (Zaa.c r)):=by
  refine Zat.of Tryz.func146 rfl rfl rfl rfl fun S0 w0 =>?_
  unfold ZgN at hf
  obtain ⟨x1,q1,hf⟩:=bind_some' hf
  obtain rfl:=oi hf
  exact Zai Zak 6 [rz,rA [(3,aI x1)],rz] [] [] [] [] (.c (Zfk _ _ q1) .n) (by kernel_rfl) rfl
def Zij (a0:Zaa) (a1:Int):Option Zaa :=
  bif (decide (a1 ≥ (1:Int))) then
    bif (decide (a1≤(1048576:Int))) then
      bif (a0.fPing == (0:Int)) then
        some (Zaa.mk a0.fEnd a0.fIn a0.fSince a0.fScore a1 a0.fWork)
      else
        bif (decide (a1 < a0.fPing)) then
          some (Zaa.mk a0.fEnd a0.fIn a0.fSince a0.fScore a1 a0.fWork)
        else
          some a0
    else
      some a0
  else
    some a0
theorem Zsn (a0:Zaa) (a1:Int) (r:Zaa) (hf:Zij a0 a1 = some r):Zat Tryz.prog 147 [.agg (Zaa.c a0),.one (.lit (.int .i64 a1))] (.agg (Zaa.c r)):=by
  refine Zat.of Tryz.func147 rfl rfl rfl rfl fun S0 w0 =>?_
  unfold Zij at hf
  rcases Zaj hf with ⟨h1,hf⟩ | ⟨h1,hf⟩
  · rcases Zaj hf with ⟨h2,hf⟩ | ⟨h2,hf⟩
    · rcases Zaj hf with ⟨h3,hf⟩ | ⟨h3,hf⟩
      · obtain rfl:=oi hf
        exact Zai Zak 9 [rz,rB [(2,true),(6,true),(10,true)],rz,rz] [true] [] [] [] (.c h1 (.c h2 (.c h3 (.c (show true = true from rfl) .n)))) (by kernel_rfl) rfl
      · let R1:List RA:=[rz,rB [(2,true),(6,true),(10,false)],rz]
        rcases Zaj hf with ⟨h4,hf⟩ | ⟨h4,hf⟩
        · obtain rfl:=oi hf
          exact Zai Zak 9 (R1 ++ [rz]) [true] [] [] [] (.c h1 (.c h2 (.c h3 (.c h4 .n)))) (by kernel_rfl) rfl
        · obtain rfl:=oi hf
          exact Zai Zak 9 R1 [false] [] [] [] (.c h1 (.c h2 (.c h3 (.c h4 .n)))) (by kernel_rfl) rfl
    · obtain rfl:=oi hf
      exact Zai Zak 9 [rz,rB [(2,true),(6,false)],rz] [false] [] [] [] (.c h1 (.c h2 (.c (show false = false from rfl) .n))) (by kernel_rfl) rfl
  · obtain rfl:=oi hf
    exact Zai Zak 9 [rz,rB [(2,false)],rz] [false] [] [] [] (.c h1 (.c (show false = false from rfl) .n)) (by kernel_rfl) rfl
def ZgB (a0:Zav) (a1:Zal):Option (Tout Zam) :=
  (Zde a0 a1).bind fun x1 =>
  (match x1 with
  | .ret x1v x1g =>
    bif (decide (x1v.2 < (0:Int))) then
      (Zbi a0).bind fun x2 =>
      (Zbf x1g x2 true).bind fun x3 =>
      (match x3 with
      | .ret x3v x3g =>
        (ZdR (6:Int)).bind fun x4 =>
        some (Tout.ret x4 x3g)
      | .pan x3o =>
        some (Tout.pan x3o)
      | .bad x3s =>
        some (Tout.bad x3s))
    else
      need (0≤x1v.2∧x1v.2 < ((x1v.1.length:Nat):Int)) <|
      (ZgN (x1v.1.getD x1v.2.toNat Zaa.d) a0.fx.fNow).bind fun x5 =>
      bif (a0.fx.fKind == (11:Int)) then
        (Zij (x1v.1.getD x1v.2.toNat Zaa.d) a0.fx.fNum).bind fun x6 =>
        (ZdJ a0 x1g x1v.2 x6).bind fun x7 =>
        (match x7 with
        | .ret x7v x7g =>
          (Zbi a0).bind fun x8 =>
          (Zbf x7g x8 false).bind fun x9 =>
          (match x9 with
          | .ret x9v x9g =>
            some (Tout.ret (Zam.mk (0:Int) (Zaf.mk (Zag.mk false (0:Int) (0:Int)) (0:Int)) x6.fPing (0:Int) ([]:(List Zaa))) x9g)
          | .pan x9o =>
            some (Tout.pan x9o)
          | .bad x9s =>
            some (Tout.bad x9s))
        | .pan x7o =>
          some (Tout.pan x7o)
        | .bad x7s =>
          some (Tout.bad x7s))
      else
        (ZdJ a0 x1g x1v.2 x5).bind fun x10 =>
        (match x10 with
        | .ret x10v x10g =>
          (Zbi a0).bind fun x11 =>
          (Zbf x10g x11 false).bind fun x12 =>
          (match x12 with
          | .ret x12v x12g =>
            some (Tout.ret (Zam.mk (0:Int) (Zaf.mk (Zag.mk false (0:Int) (0:Int)) (0:Int)) (0:Int) (0:Int) ([]:(List Zaa))) x12g)
          | .pan x12o =>
            some (Tout.pan x12o)
          | .bad x12s =>
            some (Tout.bad x12s))
        | .pan x10o =>
          some (Tout.pan x10o)
        | .bad x10s =>
          some (Tout.bad x10s))
  | .pan x1o =>
    some (Tout.pan x1o)
  | .bad x1s =>
    some (Tout.bad x1s))
theorem Zhs (a0:Zav) (a1:Zal) (r:(Tout Zam)) (hf:ZgB a0 a1 = some r):ZfM Tryz.prog 70 [(100000,.box (Zal.c a1))] [.agg (Zav.c a0),.one (.ifc 112 (.ptr 100000 0))] (oc (fun x =>.agg (Zam.c x)) r):=by
  refine ZfM.of Tryz.func70 rfl rfl rfl rfl fun S0 w0 =>?_
  unfold ZgB at hf
  obtain ⟨x1,q1,hf⟩:=bind_some' hf
  cases x1 with
  | ret x1v x1g =>
    dsimp only at hf
    let R1:List RA:=[rz,rH [] [(2,⟨[(100000,100000)],[],[(100000,.box (Zal.c x1g))],.tup [(false,(cLs 10 Zaa.c Zaa.d) x1v.1),(false,(cI .i64) x1v.2)]⟩)],rz]
    rcases Zaj hf with ⟨h2,hf⟩ | ⟨h2,hf⟩
    · obtain ⟨x2,q3,hf⟩:=bind_some' hf
      have O2:Obl _:=(.c (Zbd _ _ _ q1) (.c h2 (.c (Zbn _ _ q3) (.c Zfm .n))))
      obtain ⟨x3,q4,hf⟩:=bind_some' hf
      cases x3 with
      | ret x3v x3g =>
        dsimp only at hf
        obtain ⟨x4,q5,hf⟩:=bind_some' hf
        obtain rfl:=oi hf
        exact Zcg Zak 12 (R1 ++ [rH [(2,aI x2),(6,.id 462)] [(6,⟨[(100000,100000)],[],[(100000,.box (Zal.c x3g))],.tup []⟩)],rA [(0,aG (Zam.c x4))]]) [true] ⟨[],[],[],[],[],[4],[4,100000],[]⟩ [100000] (O2.app (.c (Zax _ _ _ _ q4) (.c ZbR (.c (ZeJ _ _ q5) .n)))) (by kernel_rfl)
      | _ =>
        dsimp only at hf
        obtain rfl:=oi hf
        exact ZaC Zak 9 _ _ R1 [true] (rA [(2,aI x2),(6,.id 462)]) 6 ⟨[(100000,100000)],pvOf q4⟩ (O2.app (.c (Zax _ _ _ _ q4) (.c ZbR .n))) (by kernel_rfl)
    · obtain ⟨o6,hf⟩:=Zas hf
      obtain ⟨x5,q7,hf⟩:=bind_some' hf
      have O3:Obl _:=(.c (Zbd _ _ _ q1) (.c h2 (.c o6 (.c (Zqi _ _ _ q7) .n))))
      rcases Zaj hf with ⟨h8,hf⟩ | ⟨h8,hf⟩
      · obtain ⟨x6,q9,hf⟩:=bind_some' hf
        let R4:List RA:=(R1 ++ [rz,rA [(7,aG (Zaa.c x5))],rz,rA [(7,aG (Zaa.c x6))],rz])
        have O5:Obl _:=(O3.app (.c h8 (.c o6 (.c (Zsn _ _ _ q9) .n))))
        obtain ⟨x7,q10,hf⟩:=bind_some' hf
        cases x7 with
        | ret x7v x7g =>
          dsimp only at hf
          obtain ⟨x8,q11,hf⟩:=bind_some' hf
          let R6:List RA:=(R4 ++ [rH [] [(4,⟨[(100000,100000)],[],[(100000,.box (Zal.c x7g))],.tup []⟩)]])
          have O7:Obl _:=(O5.app (.c (Zcz _ _ _ _ _ q10) (.c (Zbn _ _ q11) (.c Zfm .n))))
          obtain ⟨x9,q12,hf⟩:=bind_some' hf
          cases x9 with
          | ret x9v x9g =>
            dsimp only at hf
            obtain rfl:=oi hf
            exact Zcg Zak 26 (R6 ++ [rH [(2,aI x8),(6,.id 462)] [(6,⟨[(100000,100000)],[],[(100000,.box (Zal.c x9g))],.tup []⟩)],rz]) [false,true] ⟨[],[(4,[(7,cL 10 Zaa.c Zaa.d [])])],[],[],[],[4],[4,100000],[]⟩ [100000] (O7.app (.c (Zax _ _ _ _ q12) (.c ZbR .n))) (by kernel_rfl)
          | _ =>
            dsimp only at hf
            obtain rfl:=oi hf
            exact ZaC Zak 23 _ _ R6 [false,true] (rA [(2,aI x8),(6,.id 462)]) 6 ⟨[(100000,100000)],pvOf q12⟩ (O7.app (.c (Zax _ _ _ _ q12) (.c ZbR .n))) (by kernel_rfl)
        | _ =>
          dsimp only at hf
          obtain rfl:=oi hf
          exact ZaC Zak 21 _ _ R4 [false,true] (rz) 4 ⟨[(100000,100000)],pvOf q10⟩ (O5.app (.c (Zcz _ _ _ _ _ q10) .n)) (by kernel_rfl)
      · obtain ⟨x10,q13,hf⟩:=bind_some' hf
        cases x10 with
        | ret x10v x10g =>
          dsimp only at hf
          obtain ⟨x11,q14,hf⟩:=bind_some' hf
          let R8:List RA:=(R1 ++ [rz,rA [(7,aG (Zaa.c x5))],rz,rH [] [(4,⟨[(100000,100000)],[],[(100000,.box (Zal.c x10g))],.tup []⟩)]])
          have O9:Obl _:=(O3.app (.c h8 (.c (Zcz _ _ _ _ _ q13) (.c (Zbn _ _ q14) (.c Zfm .n)))))
          obtain ⟨x12,q15,hf⟩:=bind_some' hf
          cases x12 with
          | ret x12v x12g =>
            dsimp only at hf
            obtain rfl:=oi hf
            exact Zcg Zak 24 (R8 ++ [rH [(2,aI x11),(6,.id 462)] [(6,⟨[(100000,100000)],[],[(100000,.box (Zal.c x12g))],.tup []⟩)],rz]) [false,false] ⟨[],[(4,[(7,cL 10 Zaa.c Zaa.d [])])],[],[],[],[4],[4,100000],[]⟩ [100000] (O9.app (.c (Zax _ _ _ _ q15) (.c ZbR .n))) (by kernel_rfl)
          | _ =>
            dsimp only at hf
            obtain rfl:=oi hf
            exact ZaC Zak 21 _ _ R8 [false,false] (rA [(2,aI x11),(6,.id 462)]) 6 ⟨[(100000,100000)],pvOf q15⟩ (O9.app (.c (Zax _ _ _ _ q15) (.c ZbR .n))) (by kernel_rfl)
        | _ =>
          dsimp only at hf
          obtain rfl:=oi hf
          exact ZaC Zak 19 _ _ (R1 ++ [rz,rA [(7,aG (Zaa.c x5))],rz]) [false,false] (rz) 4 ⟨[(100000,100000)],pvOf q13⟩ (O3.app (.c h8 (.c (Zcz _ _ _ _ _ q13) .n))) (by kernel_rfl)
  | _ =>
    dsimp only at hf
    obtain rfl:=oi hf
    exact ZaC Zak 3 _ _ [rz] [] (rz) 2 ⟨[(100000,100000)],pvOf q1⟩ (.c (Zbd _ _ _ q1) .n) (by kernel_rfl)
def ZkP (a0:Zaz) (a1:Zaw):Option Ziv :=
  (ZjC a1).bind fun x1 =>
  bif (!x1) then
    some (Ziv.c67 (Zav.mk a0 a1))
  else
    bif (a1.fKind == (2:Int)) then
      some (Ziv.c68 (Zav.mk a0 a1))
    else
      bif (a1.fKind == (5:Int)) then
        some (Ziv.c69 (Zav.mk a0 a1))
      else
        bif (a1.fKind == (11:Int)) then
          bif (a1.fKind == (11:Int)) then
            some (Ziv.c70 (Zav.mk a0 a1))
          else
            some (Ziv.c67 (Zav.mk a0 a1))
        else
          bif (a1.fKind == (12:Int)) then
            some (Ziv.c70 (Zav.mk a0 a1))
          else
            some (Ziv.c67 (Zav.mk a0 a1))
theorem ZiF (a0:Zaz) (a1:Zaw) (r:Ziv) (hf:ZkP a0 a1 = some r):Zat Tryz.prog 22 [.agg (Zaz.c a0),.agg (Zaw.c a1)] (.one (Ziv.c r)):=by
  refine Zat.of Tryz.func22 rfl rfl rfl rfl fun S0 w0 =>?_
  unfold ZkP at hf
  obtain ⟨x1,q1,hf⟩:=bind_some' hf
  rcases Zaj hf with ⟨h2,hf⟩ | ⟨h2,hf⟩
  · obtain rfl:=oi hf
    exact Zai Zak 10 [rz,rz,rA [(1,aB x1)],rz] [true] [] [] [] (.c (Zkv _ _ q1) (.c h2 .n)) (by kernel_rfl) rfl
  · rcases Zaj hf with ⟨h3,hf⟩ | ⟨h3,hf⟩
    · obtain rfl:=oi hf
      exact Zai Zak 18 [rz,rz,rA [(1,aB x1)],rz,rz,rz] [false,true] [] [] [] (.c (Zkv _ _ q1) (.c h2 (.c h3 .n))) (by kernel_rfl) rfl
    · have O1:Obl _:=(.c (Zkv _ _ q1) (.c h2 (.c h3 .n)))
      rcases Zaj hf with ⟨h4,hf⟩ | ⟨h4,hf⟩
      · obtain rfl:=oi hf
        exact Zai Zak 21 [rz,rz,rA [(1,aB x1)],rz,rz,rz,rz] [false,false,true] [] [] [] (O1.app (.c h4 .n)) (by kernel_rfl) rfl
      · rcases Zaj hf with ⟨h5,hf⟩ | ⟨h5,hf⟩
        · rcases Zaj hf with ⟨h6,hf⟩ | ⟨h6,hf⟩
          · obtain rfl:=oi hf
            exact Zai Zak 27 [rz,rz,rA [(1,aB x1)],rz,rz,rz,rz,rz] [false,false,false,true,true] [] [] [] (O1.app (.c h4 (.c h5 (.c h6 .n)))) (by kernel_rfl) rfl
          · obtain rfl:=oi hf
            exact Zai Zak 29 [rz,rz,rA [(1,aB x1)],rz,rz,rz,rz,rz] [false,false,false,true,false] [] [] [] (O1.app (.c h4 (.c h5 (.c h6 .n)))) (by kernel_rfl) rfl
        · let R2:List RA:=[rz,rz,rA [(1,aB x1)],rz,rz,rz,rz,rz,rz]
          rcases Zaj hf with ⟨h7,hf⟩ | ⟨h7,hf⟩
          · obtain rfl:=oi hf
            exact Zai Zak 27 R2 [false,false,false,false,true] [] [] [] (O1.app (.c h4 (.c h5 (.c h7 .n)))) (by kernel_rfl) rfl
          · obtain rfl:=oi hf
            exact Zai Zak 29 R2 [false,false,false,false,false] [] [] [] (O1.app (.c h4 (.c h5 (.c h7 .n)))) (by kernel_rfl) rfl
def Zre:Tout Zam→ZaM
  | .ret x _ =>⟨Zao.d,x,true,false⟩
  | .pan op =>⟨op,Zam.d,false,false⟩
  | .bad _ =>⟨Zao.d,Zam.d,false,true⟩
def ZBS:List C:=[.lit (.int .i64 (0)),.lit (.int .i64 (0)),.lit (.int .i64 (0)),.lit (.int .i64 (0)),.lit (.int .i64 (0)),.lit (.int .i64 (0)),.lit (.int .i64 (0)),.lit (.int .i64 (0)),.lit (.bool false),.lit (.int .u64 (0)),.lit (.int .u64 (0)),.lit (.int .i64 (0)),.lit (.bool false),.lit (.int .i64 (0)),.lit (.int .i64 (0)),.lit (.int .i64 (0)),.lit (.int .i64 (0)),.lit (.int .i64 (0)),.lit (.slice none 0 0),.lit (.slice none 0 0),.lit (.bool false),.lit (.int .i64 (0)),.lit (.bool false),.lit (.int .u64 (0)),.lit (.int .u64 (0)),.lit (.int .i64 (0)),.lit (.int .i64 (0)),.lit (.int .i64 (0)),.lit (.slice none 0 0),.lit (.bool false),.lit (.bool false)]
def ZCO:List (Nat × C):=[(18,cL 5 Zab.c Zab.d []),(19,cL 7 Zac.c Zac.d [])]
def ZCN:List (Nat × C):=[(28,cL 10 Zaa.c Zaa.d [])]
theorem ZCg : ∀ w,(do eqGuard .eql 20 (.tmp 4) (.const .nilIface) .nilIface .nilIface; binOp .eql 20 .nilIface .nilIface:Sem Value).run Tryz.prog w = .ok (.bool true) w:=by
  intro w
  have hg:(eqGuard .eql 20 (.tmp 4) (.const .nilIface) .nilIface .nilIface).run Tryz.prog w = .ok () w:=by simp [eqGuard]
  rw [Sem.run_bind,hg,Result.andThen_ok]
  have h : ∀ d:Nat,(Op.equalIn (d + 1) 20 .nilIface .nilIface).run Tryz.prog w = .ok true w:=fun d =>by simp [Op.equalIn,run_underlying Tryz.underlying20]
  simp only [binOp]
  simp [Op.equal,Op.maxDepth,h 9999]
theorem ZoM (x:Zam) (g:Zal):ZwY Tryz.prog 65 (ZBS.take 21 ++ Zam.c x ++ [.lit (.bool true),.lit (.bool false)]) none (ZaM.c (Zre (.ret x g))):=by
  intro no S m w hS hno hrep
  refine ZrU (i:=0) (d:=4) (xv:=.one (.lit .nilIface)) (x:=.nilIface) (u':=.returning) Tryz.func65 rfl (fun ρ w =>by simp [go_sem]) rfl rfl rfl (by kernel_rfl) (by kernel_rfl) hS hno hrep (fun c₀ cs hu =>by cases c₀; cases hu; simp [recoverD]) RepC.lit rfl ?_
  exact Zdc Zak 6 [rA [(0,.r (.one (.lit (.bool true))) [])],rz] [true] ⟨[],[(100000,ZCO)],[],[],[],[],[100000],[]⟩ (.c ZCg (.c (show true = true from rfl) .n)) (by kernel_rfl)
theorem Zqw (op:Zao):ZwY Tryz.prog 65 ZBS (some (.one (.ifa 111 21 (fun i =>(Zao.c op).getD i .junk)))) (ZaM.c (Zre (.pan op))):=by
  intro no S m w hS hno hrep x hx
  refine ZrU (i:=0) (d:=4) (xv:=_) (x:=x) (u':=.panicking [{ v:=x,recovered:=true }]) Tryz.func65 rfl (fun ρ w =>by simp [go_sem]) rfl rfl rfl (by kernel_rfl) (by kernel_rfl) hS hno hrep (fun c₀ cs hu =>by cases c₀; cases hu; simp [recoverD]) hx (by kernel_rfl) ?_
  exact Zdc Zak 11 [rz,rz,rz,rz] [false,true] ⟨[],[(100000,ZCN)],[],[],[],[],[100000],[]⟩ (.c (show false = false from rfl) (.c (show true = true from rfl) .n)) (by kernel_rfl)
theorem Zqx (s:ByteArray):ZwY Tryz.prog 65 ZBS (some (.one (.ifc 9 (.lit (.string s))))) (ZaM.c (Zre (.bad s))):=by
  intro no S m w hS hno hrep x hx
  refine ZrU (i:=0) (d:=4) (xv:=_) (x:=x) (u':=.panicking [{ v:=x,recovered:=true }]) Tryz.func65 rfl (fun ρ w =>by simp [go_sem]) rfl rfl rfl (by kernel_rfl) (by kernel_rfl) hS hno hrep (fun c₀ cs hu =>by cases c₀; cases hu; simp [recoverD]) hx (by kernel_rfl) ?_
  exact Zdc Zak 11 [rz,rz,rz,rz] [false,false] ⟨[],[(100000,ZCO ++ ZCN)],[],[],[],[],[100000],[]⟩ (.c (show false = false from rfl) (.c (show false = false from rfl) .n)) (by kernel_rfl)
def Zjm (c0:Zav) (a1:List Zae):Option ZaM:=(ZfZ c0 ⟨a1⟩).map Zre
theorem ZpK (c0:Zav) (a1:List Zae) (r:ZaM) (hf:Zjm c0 a1 = some r):Zat Tryz.prog 21 [.one (.clo (.func 67) 1 0 (fun i =>([.agv 28 (fun j =>(Zav.c c0).getD j .junk)]:List C).getD i .junk) (fun i =>([]:List C).getD i .junk)),.one (cL 13 Zae.c Zae.d a1)] (.agg (ZaM.c r)):=by
  obtain ⟨o,ho,rfl⟩:=Option.map_eq_some_iff.1 hf
  have hinv : ∀ p w,(invoke (.fn (.func 65) #[p]) #[]).run Tryz.prog w = .ok (.enter 65 #[p]) w:=fun p w =>by simp [go_sem]
  cases o with
  | ret x g =>
    exact Zat.defR rz rz (rH [] [(5,⟨[(100000,9)],[],[(100000,.box (Zal.c g))],.agg (Zam.c x)⟩)]) 5 4 65 Zak Tryz.func21 rfl rfl rfl rfl rfl rfl (fun ρ w p h =>by simp [go_sem,h]) (by kernel_rfl) hinv rfl rfl
      (.c (show Tryz.prog.concrete 112 = true from by kernel_rfl) (.c (Zhe c0 ⟨a1⟩ (.ret x g) ho) .n)) (by kernel_rfl) (ZoM x g) (by kernel_rfl) (by kernel_rfl) (by kernel_rfl)
  | pan op =>
    exact Zat.defP rz rz rz 5 4 65 5 ⟨[(100000,9)],.one (.ifa 111 21 (fun i =>(Zao.c op).getD i .junk))⟩ Zak Tryz.func21 rfl rfl rfl rfl rfl rfl (fun ρ w p h =>by simp [go_sem,h]) (by kernel_rfl) hinv rfl rfl
      (.c (show Tryz.prog.concrete 112 = true from by kernel_rfl) (.c (Zhe c0 ⟨a1⟩ (.pan op) ho) .n)) (by kernel_rfl) (Zqw op) (by kernel_rfl) (by kernel_rfl) (by kernel_rfl)
  | bad s =>
    exact Zat.defP rz rz rz 5 4 65 5 ⟨[(100000,9)],.one (.ifc 9 (.lit (.string s)))⟩ Zak Tryz.func21 rfl rfl rfl rfl rfl rfl (fun ρ w p h =>by simp [go_sem,h]) (by kernel_rfl) hinv rfl rfl
      (.c (show Tryz.prog.concrete 112 = true from by kernel_rfl) (.c (Zhe c0 ⟨a1⟩ (.bad s) ho) .n)) (by kernel_rfl) (Zqx s) (by kernel_rfl) (by kernel_rfl) (by kernel_rfl)
def ZkZ (c0:Zav) (a1:List Zae):Option ZaM:=(Zgb c0 ⟨a1⟩).map Zre
theorem ZpJ (c0:Zav) (a1:List Zae) (r:ZaM) (hf:ZkZ c0 a1 = some r):Zat Tryz.prog 21 [.one (.clo (.func 68) 1 0 (fun i =>([.agv 28 (fun j =>(Zav.c c0).getD j .junk)]:List C).getD i .junk) (fun i =>([]:List C).getD i .junk)),.one (cL 13 Zae.c Zae.d a1)] (.agg (ZaM.c r)):=by
  obtain ⟨o,ho,rfl⟩:=Option.map_eq_some_iff.1 hf
  have hinv : ∀ p w,(invoke (.fn (.func 65) #[p]) #[]).run Tryz.prog w = .ok (.enter 65 #[p]) w:=fun p w =>by simp [go_sem]
  cases o with
  | ret x g =>
    exact Zat.defR rz rz (rH [] [(5,⟨[(100000,9)],[],[(100000,.box (Zal.c g))],.agg (Zam.c x)⟩)]) 5 4 65 Zak Tryz.func21 rfl rfl rfl rfl rfl rfl (fun ρ w p h =>by simp [go_sem,h]) (by kernel_rfl) hinv rfl rfl
      (.c (show Tryz.prog.concrete 112 = true from by kernel_rfl) (.c (Zhg c0 ⟨a1⟩ (.ret x g) ho) .n)) (by kernel_rfl) (ZoM x g) (by kernel_rfl) (by kernel_rfl) (by kernel_rfl)
  | pan op =>
    exact Zat.defP rz rz rz 5 4 65 5 ⟨[(100000,9)],.one (.ifa 111 21 (fun i =>(Zao.c op).getD i .junk))⟩ Zak Tryz.func21 rfl rfl rfl rfl rfl rfl (fun ρ w p h =>by simp [go_sem,h]) (by kernel_rfl) hinv rfl rfl
      (.c (show Tryz.prog.concrete 112 = true from by kernel_rfl) (.c (Zhg c0 ⟨a1⟩ (.pan op) ho) .n)) (by kernel_rfl) (Zqw op) (by kernel_rfl) (by kernel_rfl) (by kernel_rfl)
  | bad s =>
    exact Zat.defP rz rz rz 5 4 65 5 ⟨[(100000,9)],.one (.ifc 9 (.lit (.string s)))⟩ Zak Tryz.func21 rfl rfl rfl rfl rfl rfl (fun ρ w p h =>by simp [go_sem,h]) (by kernel_rfl) hinv rfl rfl
      (.c (show Tryz.prog.concrete 112 = true from by kernel_rfl) (.c (Zhg c0 ⟨a1⟩ (.bad s) ho) .n)) (by kernel_rfl) (Zqx s) (by kernel_rfl) (by kernel_rfl) (by kernel_rfl)
def ZkY (c0:Zav) (a1:List Zae):Option ZaM:=(Zgc c0 ⟨a1⟩).map Zre
theorem ZpI (c0:Zav) (a1:List Zae) (r:ZaM) (hf:ZkY c0 a1 = some r):Zat Tryz.prog 21 [.one (.clo (.func 69) 1 0 (fun i =>([.agv 28 (fun j =>(Zav.c c0).getD j .junk)]:List C).getD i .junk) (fun i =>([]:List C).getD i .junk)),.one (cL 13 Zae.c Zae.d a1)] (.agg (ZaM.c r)):=by
  obtain ⟨o,ho,rfl⟩:=Option.map_eq_some_iff.1 hf
  have hinv : ∀ p w,(invoke (.fn (.func 65) #[p]) #[]).run Tryz.prog w = .ok (.enter 65 #[p]) w:=fun p w =>by simp [go_sem]
  cases o with
  | ret x g =>
    exact Zat.defR rz rz (rH [] [(5,⟨[(100000,9)],[],[(100000,.box (Zal.c g))],.agg (Zam.c x)⟩)]) 5 4 65 Zak Tryz.func21 rfl rfl rfl rfl rfl rfl (fun ρ w p h =>by simp [go_sem,h]) (by kernel_rfl) hinv rfl rfl
      (.c (show Tryz.prog.concrete 112 = true from by kernel_rfl) (.c (Zhh c0 ⟨a1⟩ (.ret x g) ho) .n)) (by kernel_rfl) (ZoM x g) (by kernel_rfl) (by kernel_rfl) (by kernel_rfl)
  | pan op =>
    exact Zat.defP rz rz rz 5 4 65 5 ⟨[(100000,9)],.one (.ifa 111 21 (fun i =>(Zao.c op).getD i .junk))⟩ Zak Tryz.func21 rfl rfl rfl rfl rfl rfl (fun ρ w p h =>by simp [go_sem,h]) (by kernel_rfl) hinv rfl rfl
      (.c (show Tryz.prog.concrete 112 = true from by kernel_rfl) (.c (Zhh c0 ⟨a1⟩ (.pan op) ho) .n)) (by kernel_rfl) (Zqw op) (by kernel_rfl) (by kernel_rfl) (by kernel_rfl)
  | bad s =>
    exact Zat.defP rz rz rz 5 4 65 5 ⟨[(100000,9)],.one (.ifc 9 (.lit (.string s)))⟩ Zak Tryz.func21 rfl rfl rfl rfl rfl rfl (fun ρ w p h =>by simp [go_sem,h]) (by kernel_rfl) hinv rfl rfl
      (.c (show Tryz.prog.concrete 112 = true from by kernel_rfl) (.c (Zhh c0 ⟨a1⟩ (.bad s) ho) .n)) (by kernel_rfl) (Zqx s) (by kernel_rfl) (by kernel_rfl) (by kernel_rfl)
def Zjl (c0:Zav) (a1:List Zae):Option ZaM:=(ZgB c0 ⟨a1⟩).map Zre
theorem ZpH (c0:Zav) (a1:List Zae) (r:ZaM) (hf:Zjl c0 a1 = some r):Zat Tryz.prog 21 [.one (.clo (.func 70) 1 0 (fun i =>([.agv 28 (fun j =>(Zav.c c0).getD j .junk)]:List C).getD i .junk) (fun i =>([]:List C).getD i .junk)),.one (cL 13 Zae.c Zae.d a1)] (.agg (ZaM.c r)):=by
  obtain ⟨o,ho,rfl⟩:=Option.map_eq_some_iff.1 hf
  have hinv : ∀ p w,(invoke (.fn (.func 65) #[p]) #[]).run Tryz.prog w = .ok (.enter 65 #[p]) w:=fun p w =>by simp [go_sem]
  cases o with
  | ret x g =>
    exact Zat.defR rz rz (rH [] [(5,⟨[(100000,9)],[],[(100000,.box (Zal.c g))],.agg (Zam.c x)⟩)]) 5 4 65 Zak Tryz.func21 rfl rfl rfl rfl rfl rfl (fun ρ w p h =>by simp [go_sem,h]) (by kernel_rfl) hinv rfl rfl
      (.c (show Tryz.prog.concrete 112 = true from by kernel_rfl) (.c (Zhs c0 ⟨a1⟩ (.ret x g) ho) .n)) (by kernel_rfl) (ZoM x g) (by kernel_rfl) (by kernel_rfl) (by kernel_rfl)
  | pan op =>
    exact Zat.defP rz rz rz 5 4 65 5 ⟨[(100000,9)],.one (.ifa 111 21 (fun i =>(Zao.c op).getD i .junk))⟩ Zak Tryz.func21 rfl rfl rfl rfl rfl rfl (fun ρ w p h =>by simp [go_sem,h]) (by kernel_rfl) hinv rfl rfl
      (.c (show Tryz.prog.concrete 112 = true from by kernel_rfl) (.c (Zhs c0 ⟨a1⟩ (.pan op) ho) .n)) (by kernel_rfl) (Zqw op) (by kernel_rfl) (by kernel_rfl) (by kernel_rfl)
  | bad s =>
    exact Zat.defP rz rz rz 5 4 65 5 ⟨[(100000,9)],.one (.ifc 9 (.lit (.string s)))⟩ Zak Tryz.func21 rfl rfl rfl rfl rfl rfl (fun ρ w p h =>by simp [go_sem,h]) (by kernel_rfl) hinv rfl rfl
      (.c (show Tryz.prog.concrete 112 = true from by kernel_rfl) (.c (Zhs c0 ⟨a1⟩ (.bad s) ho) .n)) (by kernel_rfl) (Zqx s) (by kernel_rfl) (by kernel_rfl) (by kernel_rfl)
def Zht (a0:Zaz) (a1:Zaw) (a2:(List Zae)):Option ZaM :=
  (ZkP a0 a1).bind fun x1 =>
  (match x1 with
  | .c67 p2_67 =>
    (Zjm p2_67 a2).bind fun x3 =>
    some x3
  | .c68 p3_68 =>
    (ZkZ p3_68 a2).bind fun x4 =>
    some x4
  | .c69 p4_69 =>
    (ZkY p4_69 a2).bind fun x5 =>
    some x5
  | .c70 p5_70 =>
    (Zjl p5_70 a2).bind fun x6 =>
    some x6)
theorem Zkq (a0:Zaz) (a1:Zaw) (a2:(List Zae)) (r:ZaM) (hf:Zht a0 a1 a2 = some r):Zat Tryz.prog 16 [.agg (Zaz.c a0),.agg (Zaw.c a1),.one (cL 13 Zae.c Zae.d a2)] (.agg (ZaM.c r)):=by
  refine Zat.of Tryz.func16 rfl rfl rfl rfl fun S0 w0 =>?_
  unfold Zht at hf
  obtain ⟨x1,q1,hf⟩:=bind_some' hf
  cases x1 with
  | c67 p2_67 =>
    dsimp only at hf
    obtain ⟨x3,q2,hf⟩:=bind_some' hf
    obtain rfl:=oi hf
    exact Zai Zak 4 [rz,rA [(2,.r (.one (Ziv.c (Ziv.c67 p2_67))) []),(4,aG (ZaM.c x3))]] [] [] [] [] (.c (ZiF _ _ _ q1) (.c (ZpK _ _ _ q2) .n)) (by kernel_rfl) rfl
  | c68 p3_68 =>
    dsimp only at hf
    obtain ⟨x4,q3,hf⟩:=bind_some' hf
    obtain rfl:=oi hf
    exact Zai Zak 4 [rz,rA [(2,.r (.one (Ziv.c (Ziv.c68 p3_68))) []),(4,aG (ZaM.c x4))]] [] [] [] [] (.c (ZiF _ _ _ q1) (.c (ZpJ _ _ _ q3) .n)) (by kernel_rfl) rfl
  | c69 p4_69 =>
    dsimp only at hf
    obtain ⟨x5,q4,hf⟩:=bind_some' hf
    obtain rfl:=oi hf
    exact Zai Zak 4 [rz,rA [(2,.r (.one (Ziv.c (Ziv.c69 p4_69))) []),(4,aG (ZaM.c x5))]] [] [] [] [] (.c (ZiF _ _ _ q1) (.c (ZpI _ _ _ q4) .n)) (by kernel_rfl) rfl
  | c70 p5_70 =>
    dsimp only at hf
    obtain ⟨x6,q5,hf⟩:=bind_some' hf
    obtain rfl:=oi hf
    exact Zai Zak 4 [rz,rA [(2,.r (.one (Ziv.c (Ziv.c70 p5_70))) []),(4,aG (ZaM.c x6))]] [] [] [] [] (.c (ZiF _ _ _ q1) (.c (ZpH _ _ _ q5) .n)) (by kernel_rfl) rfl
def Zee  : Option Bool :=
  (ZhP).bind fun x1 =>
  need (0≤(2:Int)∧(2:Int)≤(2:Int)∧(2:Int)≤140737488355328∧(2:Int) * 136≤140737488355328) <|
  (Zht x1 (Zaw.mk (2:Int) (Zaf.mk (Zag.mk false (0:Int) (1:Int)) (80:Int)) (Zap.mk (Zag.mk false (0:Int) (0:Int)) (0:Int)) (0:Int) (0:Int) false) (List.replicate (2:Int).toNat Zae.d)).bind fun x2 =>
  need (0≤(3:Int)∧(3:Int)≤(3:Int)∧(3:Int)≤140737488355328∧(3:Int) * 136≤140737488355328) <|
  (Zht x1 (Zaw.mk (2:Int) (Zaf.mk (Zag.mk false (0:Int) (1:Int)) (80:Int)) (Zap.mk (Zag.mk false (0:Int) (0:Int)) (0:Int)) (0:Int) (0:Int) false) (List.replicate (3:Int).toNat Zae.d)).bind fun x3 =>
  bif (x2.fOp.fKind == (3:Int)) then
    bif x2.fOp.fMark then
      bif x3.fDone then
        some (x3.fReply.fCode == (6:Int))
      else
        some false
    else
      some false
  else
    some false
theorem ZgS  (r:Bool) (hf:Zee  = some r):Zat Tryz.prog 13 [] (.one (.lit (.bool r))):=by
  refine Zat.of Tryz.func13 rfl rfl rfl rfl fun S0 w0 =>?_
  unfold Zee at hf
  obtain ⟨x1,q1,hf⟩:=bind_some' hf
  obtain ⟨o2,hf⟩:=Zas hf
  obtain ⟨x2,q3,hf⟩:=bind_some' hf
  obtain ⟨o4,hf⟩:=Zas hf
  obtain ⟨x3,q5,hf⟩:=bind_some' hf
  let R1:List RA:=[rz,rz,rA [(0,aG (Zaz.c x1)),(2,.r (.one (.sl 13 (List.replicate (2:Int).toNat Zae.d).length (Zaq Zae.c Zae.d (List.replicate (2:Int).toNat Zae.d)))) []),(3,aG (ZaM.c x2))],rA [(0,aG (Zaz.c x1)),(2,.r (.one (.sl 13 (List.replicate (3:Int).toNat Zae.d).length (Zaq Zae.c Zae.d (List.replicate (3:Int).toNat Zae.d)))) []),(3,aG (ZaM.c x3))]]
  have O2:Obl _:=(.c (ZiK  _ q1) (.c (show (2:Int) = (((List.replicate (2:Int).toNat Zae.d).length:Nat):Int) from (by rw [List.length_replicate]; exact (Int.toNat_of_nonneg o2.1).symm)) (.c (show (((List.replicate (2:Int).toNat Zae.d).length:Nat):Int)≤(2:Int) from (by rw [List.length_replicate]; exact ((Int.toNat_of_nonneg o2.1).symm ▸ o2.2.1))) (.c o2.2.2.1 (.c o2.2.2.2 (.c (show ∀ i j,i < (List.replicate (2:Int).toNat Zae.d).length→j < 13→Zqc (([.lit (.int .i64 (0)),.lit (.bool false),.lit (.int .u64 (0)),.lit (.int .u64 (0)),.lit (.int .i64 (0)),.lit (.bool false),.lit (.int .i64 (0)),.lit (.int .i64 (0)),.lit (.int .i64 (0)),.lit (.int .i64 (0)),.lit (.int .i64 (0)),.lit (.slice none 0 0),.lit (.slice none 0 0)]:List C).getD j .junk) (Zaq Zae.c Zae.d (List.replicate (2:Int).toNat Zae.d) i j) from (by rw [List.length_replicate]; exact (ZsQ (fun j hj =>match j,hj with | 0,_ =>.inl rfl | 1,_ =>.inl rfl | 2,_ =>.inl rfl | 3,_ =>.inl rfl | 4,_ =>.inl rfl | 5,_ =>.inl rfl | 6,_ =>.inl rfl | 7,_ =>.inl rfl | 8,_ =>.inl rfl | 9,_ =>.inl rfl | 10,_ =>.inl rfl | 11,_ =>.inr ⟨rfl,_,_,rfl⟩ | 12,_ =>.inr ⟨rfl,_,_,rfl⟩ | j + 13,h =>absurd h (by omega)) _))) (.c (Zkq _ _ _ _ q3) (.c (ZiK  _ q1) (.c (show (3:Int) = (((List.replicate (3:Int).toNat Zae.d).length:Nat):Int) from (by rw [List.length_replicate]; exact (Int.toNat_of_nonneg o4.1).symm)) (.c (show (((List.replicate (3:Int).toNat Zae.d).length:Nat):Int)≤(3:Int) from (by rw [List.length_replicate]; exact ((Int.toNat_of_nonneg o4.1).symm ▸ o4.2.1))) (.c o4.2.2.1 (.c o4.2.2.2 (.c (show ∀ i j,i < (List.replicate (3:Int).toNat Zae.d).length→j < 13→Zqc (([.lit (.int .i64 (0)),.lit (.bool false),.lit (.int .u64 (0)),.lit (.int .u64 (0)),.lit (.int .i64 (0)),.lit (.bool false),.lit (.int .i64 (0)),.lit (.int .i64 (0)),.lit (.int .i64 (0)),.lit (.int .i64 (0)),.lit (.int .i64 (0)),.lit (.slice none 0 0),.lit (.slice none 0 0)]:List C).getD j .junk) (Zaq Zae.c Zae.d (List.replicate (3:Int).toNat Zae.d) i j) from (by rw [List.length_replicate]; exact (ZsQ (fun j hj =>match j,hj with | 0,_ =>.inl rfl | 1,_ =>.inl rfl | 2,_ =>.inl rfl | 3,_ =>.inl rfl | 4,_ =>.inl rfl | 5,_ =>.inl rfl | 6,_ =>.inl rfl | 7,_ =>.inl rfl | 8,_ =>.inl rfl | 9,_ =>.inl rfl | 10,_ =>.inl rfl | 11,_ =>.inr ⟨rfl,_,_,rfl⟩ | 12,_ =>.inr ⟨rfl,_,_,rfl⟩ | j + 13,h =>absurd h (by omega)) _))) (.c (Zkq _ _ _ _ q5) .n))))))))))))))
  rcases Zaj hf with ⟨h6,hf⟩ | ⟨h6,hf⟩
  · rcases Zaj hf with ⟨h7,hf⟩ | ⟨h7,hf⟩
    · rcases Zaj hf with ⟨h8,hf⟩ | ⟨h8,hf⟩
      · obtain rfl:=oi hf
        exact Zai Zak 10 (R1 ++ [rB [(4,true),(9,true),(13,true)]]) [] [] [] [] (O2.app (.c h6 (.c h7 (.c h8 .n)))) (by kernel_rfl) rfl
      · obtain rfl:=oi hf
        exact Zai Zak 10 (R1 ++ [rB [(4,true),(9,true),(13,false)]]) [] [] [] [] (O2.app (.c h6 (.c h7 (.c h8 .n)))) (by kernel_rfl) rfl
    · obtain rfl:=oi hf
      exact Zai Zak 10 (R1 ++ [rB [(4,true),(9,false)]]) [] [] [] [] (O2.app (.c h6 (.c h7 .n))) (by kernel_rfl) rfl
  · obtain rfl:=oi hf
    exact Zai Zak 10 (R1 ++ [rB [(4,false)]]) [] [] [] [] (O2.app (.c h6 .n)) (by kernel_rfl) rfl
def ZeU (a0:Int):Option ByteArray :=
  bif (decide (a0 < (1:Int))) then
    some (⟨#[]⟩ : ByteArray)
  else
    bif (decide (a0 > (13:Int))) then
      some (⟨#[]⟩ : ByteArray)
    else
      need (0≤a0∧a0 < ((([(⟨#[]⟩ : ByteArray),(⟨#[101,116]⟩ : ByteArray),(⟨#[101]⟩ : ByteArray),(⟨#[116]⟩ : ByteArray),(⟨#[101,103,116,107]⟩ : ByteArray),(⟨#[101,107,116]⟩ : ByteArray),(⟨#[110,107,116]⟩ : ByteArray),(⟨#[110]⟩ : ByteArray),(⟨#[97,116]⟩ : ByteArray),(⟨#[116]⟩ : ByteArray),(⟨#[]⟩ : ByteArray),(⟨#[101,107]⟩ : ByteArray),(⟨#[101,116]⟩ : ByteArray),(⟨#[101,116]⟩ : ByteArray)]:List ByteArray).length:Nat):Int)) <|
      some (([(⟨#[]⟩ : ByteArray),(⟨#[101,116]⟩ : ByteArray),(⟨#[101]⟩ : ByteArray),(⟨#[116]⟩ : ByteArray),(⟨#[101,103,116,107]⟩ : ByteArray),(⟨#[101,107,116]⟩ : ByteArray),(⟨#[110,107,116]⟩ : ByteArray),(⟨#[110]⟩ : ByteArray),(⟨#[97,116]⟩ : ByteArray),(⟨#[116]⟩ : ByteArray),(⟨#[]⟩ : ByteArray),(⟨#[101,107]⟩ : ByteArray),(⟨#[101,116]⟩ : ByteArray),(⟨#[101,116]⟩ : ByteArray)]:List ByteArray).getD a0.toNat ByteArray.empty)
theorem Zme (a0:Int) (r:ByteArray) (hf:ZeU a0 = some r):Zat Tryz.prog 113 [.one (.lit (.int .i64 a0))] (.one (.lit (.string r))):=by
  refine Zat.of Tryz.func113 rfl rfl rfl rfl fun S0 w0 =>?_
  unfold ZeU at hf
  let R1:List RA:=[rz,⟨[],[],[],[],[],[(0,(([(⟨#[]⟩ : ByteArray),(⟨#[101,116]⟩ : ByteArray),(⟨#[101]⟩ : ByteArray),(⟨#[116]⟩ : ByteArray),(⟨#[101,103,116,107]⟩ : ByteArray),(⟨#[101,107,116]⟩ : ByteArray),(⟨#[110,107,116]⟩ : ByteArray),(⟨#[110]⟩ : ByteArray),(⟨#[97,116]⟩ : ByteArray),(⟨#[116]⟩ : ByteArray),(⟨#[]⟩ : ByteArray),(⟨#[101,107]⟩ : ByteArray),(⟨#[101,116]⟩ : ByteArray),(⟨#[101,116]⟩ : ByteArray)]:List ByteArray).length,Zaq cS ByteArray.empty ([(⟨#[]⟩ : ByteArray),(⟨#[101,116]⟩ : ByteArray),(⟨#[101]⟩ : ByteArray),(⟨#[116]⟩ : ByteArray),(⟨#[101,103,116,107]⟩ : ByteArray),(⟨#[101,107,116]⟩ : ByteArray),(⟨#[110,107,116]⟩ : ByteArray),(⟨#[110]⟩ : ByteArray),(⟨#[97,116]⟩ : ByteArray),(⟨#[116]⟩ : ByteArray),(⟨#[]⟩ : ByteArray),(⟨#[101,107]⟩ : ByteArray),(⟨#[101,116]⟩ : ByteArray),(⟨#[101,116]⟩ : ByteArray)]:List ByteArray)))],[]⟩]
  have O2:Obl _:=(.c (show ([(⟨#[]⟩ : ByteArray),(⟨#[101,116]⟩ : ByteArray),(⟨#[101]⟩ : ByteArray),(⟨#[116]⟩ : ByteArray),(⟨#[101,103,116,107]⟩ : ByteArray),(⟨#[101,107,116]⟩ : ByteArray),(⟨#[110,107,116]⟩ : ByteArray),(⟨#[110]⟩ : ByteArray),(⟨#[97,116]⟩ : ByteArray),(⟨#[116]⟩ : ByteArray),(⟨#[]⟩ : ByteArray),(⟨#[101,107]⟩ : ByteArray),(⟨#[101,116]⟩ : ByteArray),(⟨#[101,116]⟩ : ByteArray)]:List ByteArray).length = 14∧∀ i j,i < 14→j < 1→Zaq cS ByteArray.empty ([(⟨#[]⟩ : ByteArray),(⟨#[101,116]⟩ : ByteArray),(⟨#[101]⟩ : ByteArray),(⟨#[116]⟩ : ByteArray),(⟨#[101,103,116,107]⟩ : ByteArray),(⟨#[101,107,116]⟩ : ByteArray),(⟨#[110,107,116]⟩ : ByteArray),(⟨#[110]⟩ : ByteArray),(⟨#[97,116]⟩ : ByteArray),(⟨#[116]⟩ : ByteArray),(⟨#[]⟩ : ByteArray),(⟨#[101,107]⟩ : ByteArray),(⟨#[101,116]⟩ : ByteArray),(⟨#[101,116]⟩ : ByteArray)]:List ByteArray) i j = (([(⟨#[]⟩ : ByteArray),(⟨#[101,116]⟩ : ByteArray),(⟨#[101]⟩ : ByteArray),(⟨#[116]⟩ : ByteArray),(⟨#[101,103,116,107]⟩ : ByteArray),(⟨#[101,107,116]⟩ : ByteArray),(⟨#[110,107,116]⟩ : ByteArray),(⟨#[110]⟩ : ByteArray),(⟨#[97,116]⟩ : ByteArray),(⟨#[116]⟩ : ByteArray),(⟨#[]⟩ : ByteArray),(⟨#[101,107]⟩ : ByteArray),(⟨#[101,116]⟩ : ByteArray),(⟨#[101,116]⟩ : ByteArray)]:List ByteArray).flatMap cS).getD (i * 1 + j) .junk from ⟨rfl,fun i j hi hj =>ZaS (sz:=1) (e:=cS) (d:=ByteArray.empty) (fun _ =>rfl) ([(⟨#[]⟩ : ByteArray),(⟨#[101,116]⟩ : ByteArray),(⟨#[101]⟩ : ByteArray),(⟨#[116]⟩ : ByteArray),(⟨#[101,103,116,107]⟩ : ByteArray),(⟨#[101,107,116]⟩ : ByteArray),(⟨#[110,107,116]⟩ : ByteArray),(⟨#[110]⟩ : ByteArray),(⟨#[97,116]⟩ : ByteArray),(⟨#[116]⟩ : ByteArray),(⟨#[]⟩ : ByteArray),(⟨#[101,107]⟩ : ByteArray),(⟨#[101,116]⟩ : ByteArray),(⟨#[101,116]⟩ : ByteArray)]:List ByteArray) i j hi hj⟩) .n)
  rcases Zaj hf with ⟨h1,hf⟩ | ⟨h1,hf⟩
  · obtain rfl:=oi hf
    exact Zai Zak 10 (R1 ++ [rB [(2,true)],rz]) [true] [] [] [] (O2.app (.c h1 (.c (show true = true from rfl) .n))) (by kernel_rfl) rfl
  · rcases Zaj hf with ⟨h2,hf⟩ | ⟨h2,hf⟩
    · obtain rfl:=oi hf
      exact Zai Zak 10 (R1 ++ [rB [(2,false)],rz]) [true] [] [] [] (O2.app (.c h1 (.c h2 .n))) (by kernel_rfl) rfl
    · obtain ⟨o3,hf⟩:=Zas hf
      obtain rfl:=oi hf
      exact Zai Zak 11 (R1 ++ [rB [(2,false)],rz]) [false] [] [] [] (O2.app (.c h1 (.c h2 (.c o3 .n)))) (by kernel_rfl) rfl
def ZbP (a0:Zag):Option Bool :=
  bif (!a0.fV6) then
    bif (a0.fHi == (0:Int)) then
      some (decide (a0.fLo < (4294967296:Int)))
    else
      some false
  else
    bif (a0.fHi != (0:Int)) then
      some true
    else
      some ((IntKind.wrap .u64 (Int.tdiv a0.fLo (4294967296:Int))) != (65535:Int))
theorem ZbC (a0:Zag) (r:Bool) (hf:ZbP a0 = some r):Zat Tryz.prog 116 [.agg (Zag.c a0)] (.one (.lit (.bool r))):=by
  refine Zat.of Tryz.func116 rfl rfl rfl rfl fun S0 w0 =>?_
  unfold ZbP at hf
  rcases Zaj hf with ⟨h1,hf⟩ | ⟨h1,hf⟩
  · rcases Zaj hf with ⟨h2,hf⟩ | ⟨h2,hf⟩
    · obtain rfl:=oi hf
      exact Zai Zak 8 [rz,rz,rB [(3,true)]] [true] [] [] [] (.c h1 (.c h2 .n)) (by kernel_rfl) rfl
    · obtain rfl:=oi hf
      exact Zai Zak 8 [rz,rz,rB [(3,false)]] [true] [] [] [] (.c h1 (.c h2 .n)) (by kernel_rfl) rfl
  · rcases Zaj hf with ⟨h3,hf⟩ | ⟨h3,hf⟩
    · obtain rfl:=oi hf
      exact Zai Zak 9 [rz,rz,rB [(3,true)]] [false] [] [] [] (.c h1 (.c h3 .n)) (by kernel_rfl) rfl
    · obtain rfl:=oi hf
      exact Zai Zak 9 [rz,rz,rB [(3,false)]] [false] [] [] [] (.c h1 (.c h3 (.c (show (4294967296:Int) ≠ 0 from (by decide)) .n))) (by kernel_rfl) rfl
def Zfc (a0:Zaf):Option Bool :=
  (ZbP a0.fAddr).bind fun x1 =>
  bif x1 then
    bif (decide (a0.fPort > (0:Int))) then
      some (decide (a0.fPort < (65536:Int)))
    else
      some false
  else
    some false
theorem Zmn (a0:Zaf) (r:Bool) (hf:Zfc a0 = some r):Zat Tryz.prog 114 [.agg (Zaf.c a0)] (.one (.lit (.bool r))):=by
  refine Zat.of Tryz.func114 rfl rfl rfl rfl fun S0 w0 =>?_
  unfold Zfc at hf
  obtain ⟨x1,q1,hf⟩:=bind_some' hf
  rcases Zaj hf with ⟨h2,hf⟩ | ⟨h2,hf⟩
  · have O1:Obl _:=(.c (ZbC _ _ q1) (.c h2 .n))
    rcases Zaj hf with ⟨h3,hf⟩ | ⟨h3,hf⟩
    · obtain rfl:=oi hf
      exact Zai Zak 4 [rz,⟨[(2,aB x1)],[(3,true),(8,true)],[],[],[],[],[]⟩] [] [] [] [] (O1.app (.c h3 .n)) (by kernel_rfl) rfl
    · obtain rfl:=oi hf
      exact Zai Zak 4 [rz,⟨[(2,aB x1)],[(3,true),(8,false)],[],[],[],[],[]⟩] [] [] [] [] (O1.app (.c h3 .n)) (by kernel_rfl) rfl
  · obtain rfl:=oi hf
    exact Zai Zak 4 [rz,⟨[(2,aB x1)],[(3,false)],[],[],[],[],[]⟩] [] [] [] [] (.c (ZbC _ _ q1) (.c h2 .n)) (by kernel_rfl) rfl
def ZbL (a0:Zag):Option Int :=
  bif a0.fV6 then
    some (128:Int)
  else
    some (32:Int)
theorem Zca (a0:Zag) (r:Int) (hf:ZbL a0 = some r):Zat Tryz.prog 205 [.agg (Zag.c a0)] (.one (.lit (.int .i64 r))):=by
  refine Zat.of Tryz.func205 rfl rfl rfl rfl fun S0 w0 =>?_
  unfold ZbL at hf
  rcases Zaj hf with ⟨h1,hf⟩ | ⟨h1,hf⟩
  · obtain rfl:=oi hf
    exact Zai Zak 8 [rz,rz,rz] [true] [] [] [] (.c h1 .n) (by kernel_rfl) rfl
  · obtain rfl:=oi hf
    exact Zai Zak 9 [rz,rz,rz] [false] [] [] [] (.c h1 .n) (by kernel_rfl) rfl
def ZcZ (a1:Int)  (v5:Int) (b2:Zag):Option Int :=
  bif (!b2.fV6) then
    need (0≤(IntKind.wrap .u64 (Zja (31:Int) a1))) <|
    some (IntKind.wrap .i64 (IntKind.wrap .u64 (((BitVec.ofInt (IntKind.bits .u64) (Int.fdiv v5 (2 ^ (min (IntKind.wrap .u64 (Zja (31:Int) a1)).toNat (IntKind.bits .u64))))) &&& (BitVec.ofInt (IntKind.bits .u64) (1:Int))).toNat:Int)))
  else
    need (0≤(IntKind.wrap .u64 (Zja (63:Int) (Int.tmod a1 (64:Int))))) <|
    some (IntKind.wrap .i64 (IntKind.wrap .u64 (((BitVec.ofInt (IntKind.bits .u64) (Int.fdiv v5 (2 ^ (min (IntKind.wrap .u64 (Zja (63:Int) (Int.tmod a1 (64:Int)))).toNat (IntKind.bits .u64))))) &&& (BitVec.ofInt (IntKind.bits .u64) (1:Int))).toNat:Int)))
theorem ZgF (S0:Nat→Prop) (w0:Zbh) (a1:Int)  (v5:Int) (b2:Zag) (r:Int) (hf:ZcZ a1  v5 b2 = some r):Good Tryz.prog 39 S0 w0 (bodyPost Tryz.prog Tryz.f206 (Post S0 w0 (.one (.lit (.int .i64 r))))) (at_ [1,1,1,1] (ZbM Tryz.f206)) ⟨[(1,.one (.lit (.int .i64 a1))),(2,.one (.ptr 2 0)),(5,.one (.lit (.int .u64 v5)))],[(2,.box [.lit (.bool b2.fV6),.lit (.int .u64 b2.fHi),.lit (.int .u64 b2.fLo)])]⟩:=by
  unfold ZcZ at hf
  have O1:Obl _:=(.c (show (64:Int) ≠ 0 from (by decide)) .n)
  rcases Zaj hf with ⟨h6,hf⟩ | ⟨h6,hf⟩
  · obtain ⟨o7,hf⟩:=Zas hf
    obtain rfl:=oi hf
    exact Zai Zak 9 [rz,rz,rz,rz] [true] [] [] [] (O1.app (.c h6 (.c o7 .n))) (by kernel_rfl) rfl
  · obtain ⟨o8,hf⟩:=Zas hf
    obtain rfl:=oi hf
    exact Zai Zak 9 [rz,rz,rz] [false] [] [] [] (O1.app (.c h6 (.c o8 .n))) (by kernel_rfl) rfl
def Zdr (a0:Zag) (a1:Int):Option Int :=
  bif (decide (a1 < (0:Int))) then
    some (0:Int)
  else
    (ZbL a0).bind fun x1 =>
    bif (decide (a1 ≥ x1)) then
      some (0:Int)
    else
      bif a0.fV6 then
        bif (decide (a1 < (64:Int))) then
          ZcZ a1  a0.fHi a0
        else
          ZcZ a1  a0.fLo a0
      else
        ZcZ a1  a0.fLo a0
theorem Zhv (a0:Zag) (a1:Int) (r:Int) (hf:Zdr a0 a1 = some r):Zat Tryz.prog 206 [.agg (Zag.c a0),.one (.lit (.int .i64 a1))] (.one (.lit (.int .i64 r))):=by
  refine Zat.of Tryz.func206 rfl rfl rfl rfl fun S0 w0 =>?_
  unfold Zdr at hf
  rcases Zaj hf with ⟨h1,hf⟩ | ⟨h1,hf⟩
  · obtain rfl:=oi hf
    exact Zai Zak 8 [rz,rB [(2,true)],rz] [true] [] [] [] (.c h1 (.c (show true = true from rfl) .n)) (by kernel_rfl) rfl
  · obtain ⟨x1,q2,hf⟩:=bind_some' hf
    let R2:List RA:=[rz,⟨[(5,aI x1)],[(2,false)],[],[],[],[],[]⟩,rz]
    have O3:Obl _:=(.c h1 (.c (Zca _ _ q2) .n))
    rcases Zaj hf with ⟨h3,hf⟩ | ⟨h3,hf⟩
    · obtain rfl:=oi hf
      exact Zai Zak 8 R2 [true] [] [] [] (O3.app (.c h3 .n)) (by kernel_rfl) rfl
    · rcases Zaj hf with ⟨h4,hf⟩ | ⟨h4,hf⟩
      · rcases Zaj hf with ⟨h5,hf⟩ | ⟨h5,hf⟩
        · exact ZaI Zak Post.ends 14 (R2 ++ [rB [(2,true)],rz]) [false,true] ⟨[],[],[],[],[],[1,2,5],[2],[]⟩ (O3.app (.c h3 (.c h4 (.c h5 .n)))) (by kernel_rfl) (ZgF S0 w0 a1   a0.fHi a0 r hf)
        · exact ZaI Zak Post.ends 14 (R2 ++ [rB [(2,true)]]) [false,false] ⟨[],[],[],[],[],[1,2,5],[2],[]⟩ (O3.app (.c h3 (.c h4 (.c h5 .n)))) (by kernel_rfl) (ZgF S0 w0 a1   a0.fLo a0 r hf)
      · exact ZaI Zak Post.ends 14 (R2 ++ [rB [(2,false)]]) [false,false] ⟨[],[],[],[],[],[1,2,5],[2],[]⟩ (O3.app (.c h3 (.c h4 (.c (show false = false from rfl) .n)))) (by kernel_rfl) (ZgF S0 w0 a1   a0.fLo a0 r hf)
def ZcK   : Nat→Int→Zap→Option Bool
  | 0,_,_ =>none
  | fu + 1,v3,b1 =>
    (ZbL b1.fAddr).bind fun x3 =>
    bif (decide (v3 < x3)) then
      (Zdr b1.fAddr v3).bind fun x4 =>
      bif (x4 == (1:Int)) then
        some false
      else
        ZcK   fu (ZaD v3 (1:Int)) b1
    else
      some true
theorem ZkK (S0:Nat→Prop) (w0:Zbh)   : ∀ (fu:Nat) (v3:Int) (b1:Zap) (r:Bool),ZcK   fu v3 b1 = some r→Good Tryz.prog 35 S0 w0 (bodyPost Tryz.prog Tryz.f115 (Post S0 w0 (.one (.lit (.bool r))))) (at_ [1,1,0,1,0] (ZbM Tryz.f115)) ⟨[(1,.one (.ptr 1 0)),(3,.one (.lit (.int .i64 v3)))],[(1,.box [.lit (.bool b1.fAddr.fV6),.lit (.int .u64 b1.fAddr.fHi),.lit (.int .u64 b1.fAddr.fLo),.lit (.int .i64 b1.fBits)])]⟩:=by
  intro fu
  induction fu with
  | zero =>
    intro v3 b1 r hf
    simp [ZcK] at hf
  | succ fu ih =>
    intro v3 b1 r hf
    unfold ZcK at hf
    obtain ⟨x3,q6,hf⟩:=bind_some' hf
    rcases Zaj hf with ⟨h7,hf⟩ | ⟨h7,hf⟩
    · obtain ⟨x4,q8,hf⟩:=bind_some' hf
      have O1:Obl _:=(.c (Zca _ _ q6) (.c h7 (.c (Zhv _ _ _ q8) .n)))
      rcases Zaj hf with ⟨h9,hf⟩ | ⟨h9,hf⟩
      · obtain rfl:=oi hf
        exact Zai Zak 13 [rA [(3,aI x3)],rA [(3,aI x4)],rz] [true,true] [] [] [] (O1.app (.c h9 .n)) (by kernel_rfl) rfl
      · exact ZaI Zak Post.ends 15 [rA [(3,aI x3)],rA [(3,aI x4)],rz] [true,false] ⟨[],[],[],[],[],[1,3],[1],[]⟩ (O1.app (.c h9 .n)) (by kernel_rfl) (ih (ZaD v3 (1:Int)) b1 r hf)
    · obtain rfl:=oi hf
      exact Zai Zak 8 [rA [(3,aI x3)],rz] [false] [] [] [] (.c (Zca _ _ q6) (.c h7 .n)) (by kernel_rfl) rfl
def Zdo (a0:Zap):Option Bool :=
  (ZbP a0.fAddr).bind fun x1 =>
  bif (!x1) then
    some false
  else
    bif (decide (a0.fBits < (0:Int))) then
      some false
    else
      (ZbL a0.fAddr).bind fun x2 =>
      bif (decide (a0.fBits > x2)) then
        some false
      else
        ZcK   1000000 a0.fBits a0
theorem ZdZ (a0:Zap) (r:Bool) (hf:Zdo a0 = some r):Zat Tryz.prog 115 [.agg (Zap.c a0)] (.one (.lit (.bool r))):=by
  refine Zat.of Tryz.func115 rfl rfl rfl rfl fun S0 w0 =>?_
  unfold Zdo at hf
  obtain ⟨x1,q1,hf⟩:=bind_some' hf
  rcases Zaj hf with ⟨h2,hf⟩ | ⟨h2,hf⟩
  · obtain rfl:=oi hf
    exact Zai Zak 8 [rz,⟨[(2,aB x1)],[(4,true)],[],[],[],[],[]⟩,rz] [true] [] [] [] (.c (ZbC _ _ q1) (.c h2 (.c (show true = true from rfl) .n))) (by kernel_rfl) rfl
  · have O2:Obl _:=(.c (ZbC _ _ q1) (.c h2 .n))
    rcases Zaj hf with ⟨h3,hf⟩ | ⟨h3,hf⟩
    · obtain rfl:=oi hf
      exact Zai Zak 8 [rz,⟨[(2,aB x1)],[(4,false),(9,true)],[],[],[],[],[]⟩,rz] [true] [] [] [] (O2.app (.c h3 (.c (show true = true from rfl) .n))) (by kernel_rfl) rfl
    · obtain ⟨x2,q4,hf⟩:=bind_some' hf
      let R3:List RA:=[rz,⟨[(2,aB x1),(14,aI x2)],[(4,false),(9,false)],[],[],[],[],[]⟩,rz]
      have O4:Obl _:=(O2.app (.c h3 (.c (Zca _ _ q4) .n)))
      rcases Zaj hf with ⟨h5,hf⟩ | ⟨h5,hf⟩
      · obtain rfl:=oi hf
        exact Zai Zak 8 R3 [true] [] [] [] (O4.app (.c h5 .n)) (by kernel_rfl) rfl
      · exact ZaI Zak Post.ends 11 R3 [false] ⟨[],[],[],[],[],[1,3],[1],[]⟩ (O4.app (.c h5 .n)) (by kernel_rfl) (ZkK S0 w0    1000000 a0.fBits a0 r hf)
def ZaQ (v3:Int) (v4:Int) (b1:Zaw)  : Nat→ByteArray→Int→Option Bool
  | 0,_,_ =>none
  | fu + 1,v5,v6 =>
    bif (decide (v6 < ((v5.size:Nat):Int))) then
      need (0≤v6∧v6 < ((v5.size:Nat):Int)) <|
      bif (((Zpr v5 v6.toNat:Nat):Int) == (101:Int)) then
        (Zfc b1.fEnd).bind fun x2 =>
        bif (!x2) then
          some false
        else
          ZaQ v3 v4 b1  fu v5 (ZaD v6 (1:Int))
      else
        bif (((Zpr v5 v6.toNat:Nat):Int) == (110:Int)) then
          (Zdo b1.fNet).bind fun x3 =>
          bif (!x3) then
            some false
          else
            ZaQ v3 v4 b1  fu v5 (ZaD v6 (1:Int))
        else
          bif (((Zpr v5 v6.toNat:Nat):Int) == (97:Int)) then
            (ZbP b1.fEnd.fAddr).bind fun x4 =>
            bif (!x4) then
              some false
            else
              ZaQ v3 v4 b1  fu v5 (ZaD v6 (1:Int))
          else
            bif (((Zpr v5 v6.toNat:Nat):Int) == (116:Int)) then
              bif (decide (b1.fNow < (0:Int))) then
                some false
              else
                bif (decide (b1.fNow > (1099511627776:Int))) then
                  some false
                else
                  ZaQ v3 v4 b1  fu v5 (ZaD v6 (1:Int))
            else
              bif (((Zpr v5 v6.toNat:Nat):Int) == (107:Int)) then
                bif (decide (b1.fNum < v3)) then
                  some false
                else
                  bif (decide (b1.fNum > v4)) then
                    some false
                  else
                    ZaQ v3 v4 b1  fu v5 (ZaD v6 (1:Int))
              else
                ZaQ v3 v4 b1  fu v5 (ZaD v6 (1:Int))
    else
      some true
theorem ZkF (S0:Nat→Prop) (w0:Zbh) (v3:Int) (v4:Int) (b1:Zaw)  : ∀ (fu:Nat) (v5:ByteArray) (v6:Int) (r:Bool),ZaQ v3 v4 b1  fu v5 v6 = some r→Good Tryz.prog 76 S0 w0 (bodyPost Tryz.prog Tryz.f47 (Post S0 w0 (.one (.lit (.bool r))))) (at_ [1,1,1,1,1,0,1,0] (ZbM Tryz.f47)) ⟨[(1,.one (.ptr 1 0)),(3,.one (.lit (.int .i64 v3))),(4,.one (.lit (.int .i64 v4))),(5,.one (.lit (.string v5))),(6,.one (.lit (.int .i64 v6)))],[(1,.box [.lit (.int .i64 b1.fKind),.lit (.bool b1.fEnd.fAddr.fV6),.lit (.int .u64 b1.fEnd.fAddr.fHi),.lit (.int .u64 b1.fEnd.fAddr.fLo),.lit (.int .i64 b1.fEnd.fPort),.lit (.bool b1.fNet.fAddr.fV6),.lit (.int .u64 b1.fNet.fAddr.fHi),.lit (.int .u64 b1.fNet.fAddr.fLo),.lit (.int .i64 b1.fNet.fBits),.lit (.int .i64 b1.fNow),.lit (.int .i64 b1.fNum),.lit (.bool b1.fGood)])]⟩:=by
  intro fu
  induction fu with
  | zero =>
    intro v5 v6 r hf
    simp [ZaQ] at hf
  | succ fu ih =>
    intro v5 v6 r hf
    unfold ZaQ at hf
    rcases Zaj hf with ⟨h5,hf⟩ | ⟨h5,hf⟩
    · obtain ⟨o6,hf⟩:=Zas hf
      rcases Zaj hf with ⟨h7,hf⟩ | ⟨h7,hf⟩
      · obtain ⟨x2,q8,hf⟩:=bind_some' hf
        have O1:Obl _:=(.c h5 (.c o6 (.c h7 (.c (Zmn _ _ q8) .n))))
        rcases Zaj hf with ⟨h9,hf⟩ | ⟨h9,hf⟩
        · obtain rfl:=oi hf
          exact Zai Zak 19 [rz,rz,rz,rA [(2,aB x2)],rz] [true,true,true] [] [] [] (O1.app (.c h9 .n)) (by kernel_rfl) rfl
        · exact ZaI Zak Post.ends 22 [rz,rz,rz,rA [(2,aB x2)],rz] [true,true,false] ⟨[],[],[],[],[],[1,3,4,5,6],[1],[]⟩ (O1.app (.c h9 .n)) (by kernel_rfl) (ih v5 (ZaD v6 (1:Int)) r hf)
      · rcases Zaj hf with ⟨h10,hf⟩ | ⟨h10,hf⟩
        · obtain ⟨x3,q11,hf⟩:=bind_some' hf
          have O2:Obl _:=(.c h5 (.c o6 (.c h7 (.c h10 (.c (ZdZ _ _ q11) .n)))))
          rcases Zaj hf with ⟨h12,hf⟩ | ⟨h12,hf⟩
          · obtain rfl:=oi hf
            exact Zai Zak 22 [rz,rz,rz,rz,rA [(2,aB x3)],rz] [true,false,true,true] [] [] [] (O2.app (.c h12 .n)) (by kernel_rfl) rfl
          · exact ZaI Zak Post.ends 25 [rz,rz,rz,rz,rA [(2,aB x3)],rz] [true,false,true,false] ⟨[],[],[],[],[],[1,3,4,5,6],[1],[]⟩ (O2.app (.c h12 .n)) (by kernel_rfl) (ih v5 (ZaD v6 (1:Int)) r hf)
        · rcases Zaj hf with ⟨h13,hf⟩ | ⟨h13,hf⟩
          · obtain ⟨x4,q14,hf⟩:=bind_some' hf
            have O3:Obl _:=(.c h5 (.c o6 (.c h7 (.c h10 (.c h13 (.c (ZbC _ _ q14) .n))))))
            rcases Zaj hf with ⟨h15,hf⟩ | ⟨h15,hf⟩
            · obtain rfl:=oi hf
              exact Zai Zak 25 [rz,rz,rz,rz,rz,rA [(3,aB x4)],rz] [true,false,false,true,true] [] [] [] (O3.app (.c h15 .n)) (by kernel_rfl) rfl
            · exact ZaI Zak Post.ends 28 [rz,rz,rz,rz,rz,rA [(3,aB x4)],rz] [true,false,false,true,false] ⟨[],[],[],[],[],[1,3,4,5,6],[1],[]⟩ (O3.app (.c h15 .n)) (by kernel_rfl) (ih v5 (ZaD v6 (1:Int)) r hf)
          · rcases Zaj hf with ⟨h16,hf⟩ | ⟨h16,hf⟩
            · have O4:Obl _:=(.c h5 (.c o6 (.c h7 (.c h10 (.c h13 (.c h16 .n))))))
              rcases Zaj hf with ⟨h17,hf⟩ | ⟨h17,hf⟩
              · obtain rfl:=oi hf
                exact Zai Zak 28 [rz,rz,rz,rz,rz,rz,rB [(3,true)],rz] [true,false,false,false,true,true] [] [] [] (O4.app (.c h17 (.c (show true = true from rfl) .n))) (by kernel_rfl) rfl
              · rcases Zaj hf with ⟨h18,hf⟩ | ⟨h18,hf⟩
                · obtain rfl:=oi hf
                  exact Zai Zak 28 [rz,rz,rz,rz,rz,rz,rB [(3,false)],rz] [true,false,false,false,true,true] [] [] [] (O4.app (.c h17 (.c h18 .n))) (by kernel_rfl) rfl
                · exact ZaI Zak Post.ends 31 [rz,rz,rz,rz,rz,rz,rB [(3,false)],rz] [true,false,false,false,true,false] ⟨[],[],[],[],[],[1,3,4,5,6],[1],[]⟩ (O4.app (.c h17 (.c h18 .n))) (by kernel_rfl) (ih v5 (ZaD v6 (1:Int)) r hf)
            · have O5:Obl _:=(.c h5 (.c o6 (.c h7 (.c h10 (.c h13 (.c h16 .n))))))
              rcases Zaj hf with ⟨h19,hf⟩ | ⟨h19,hf⟩
              · rcases Zaj hf with ⟨h20,hf⟩ | ⟨h20,hf⟩
                · obtain rfl:=oi hf
                  exact Zai Zak 31 [rz,rz,rz,rz,rz,rz,rz,rB [(4,true)],rz] [true,false,false,false,false,true,true] [] [] [] (O5.app (.c h19 (.c h20 (.c (show true = true from rfl) .n)))) (by kernel_rfl) rfl
                · let R6:List RA:=[rz,rz,rz,rz,rz,rz,rz,rB [(4,false)],rz]
                  rcases Zaj hf with ⟨h21,hf⟩ | ⟨h21,hf⟩
                  · obtain rfl:=oi hf
                    exact Zai Zak 31 R6 [true,false,false,false,false,true,true] [] [] [] (O5.app (.c h19 (.c h20 (.c h21 .n)))) (by kernel_rfl) rfl
                  · exact ZaI Zak Post.ends 34 R6 [true,false,false,false,false,true,false] ⟨[],[],[],[],[],[1,3,4,5,6],[1],[]⟩ (O5.app (.c h19 (.c h20 (.c h21 .n)))) (by kernel_rfl) (ih v5 (ZaD v6 (1:Int)) r hf)
              · exact ZaI Zak Post.ends 31 [rz,rz,rz,rz,rz,rz,rz,rz] [true,false,false,false,false,false] ⟨[],[],[],[],[],[1,3,4,5,6],[1],[]⟩ (O5.app (.c h19 .n)) (by kernel_rfl) (ih v5 (ZaD v6 (1:Int)) r hf)
    · obtain rfl:=oi hf
      exact Zai Zak 8 [rz,rz] [false] [] [] [] (.c h5 .n) (by kernel_rfl) rfl
def ZcI   (v3:Int) (v4:Int) (b1:Zaw):Option Bool :=
  (ZeU b1.fKind).bind fun x1 =>
  ZaQ v3 v4 b1  ((((x1.size:Nat):Int) - (0:Int)).toNat + 2) x1 (0:Int)
theorem Zej (S0:Nat→Prop) (w0:Zbh)   (v3:Int) (v4:Int) (b1:Zaw) (r:Bool) (hf:ZcI   v3 v4 b1 = some r):Good Tryz.prog 76 S0 w0 (bodyPost Tryz.prog Tryz.f47 (Post S0 w0 (.one (.lit (.bool r))))) (at_ [1,1,1,1] (ZbM Tryz.f47)) ⟨[(1,.one (.ptr 1 0)),(3,.one (.lit (.int .i64 v3))),(4,.one (.lit (.int .i64 v4)))],[(1,.box [.lit (.int .i64 b1.fKind),.lit (.bool b1.fEnd.fAddr.fV6),.lit (.int .u64 b1.fEnd.fAddr.fHi),.lit (.int .u64 b1.fEnd.fAddr.fLo),.lit (.int .i64 b1.fEnd.fPort),.lit (.bool b1.fNet.fAddr.fV6),.lit (.int .u64 b1.fNet.fAddr.fHi),.lit (.int .u64 b1.fNet.fAddr.fLo),.lit (.int .i64 b1.fNet.fBits),.lit (.int .i64 b1.fNow),.lit (.int .i64 b1.fNum),.lit (.bool b1.fGood)])]⟩:=by
  unfold ZcI at hf
  obtain ⟨x1,q4,hf⟩:=bind_some' hf
  exact ZaI Zak Post.ends 6 [rA [(2,.r (.one (.lit (.string x1))) [])],rz] [] ⟨[],[],[],[],[],[1,3,4,5,6],[1],[]⟩ (.c (Zme _ _ q4) .n) (by kernel_rfl) (ZkF S0 w0 v3 v4 b1   ((((x1.size:Nat):Int) - (0:Int)).toNat + 2) x1 (0:Int) r hf)
def ZeV (a0:Zaw):Option Bool :=
  bif (decide (a0.fKind < (1:Int))) then
    some false
  else
    bif (decide (a0.fKind > (13:Int))) then
      some false
    else
      bif (a0.fKind == (5:Int)) then
        ZcI   (1:Int) (5:Int) a0
      else
        bif (a0.fKind == (6:Int)) then
          ZcI   (1:Int) (1099511627776:Int) a0
        else
          bif (a0.fKind == (11:Int)) then
            ZcI   (1:Int) (1048576:Int) a0
          else
            ZcI   (0:Int) (1073741824:Int) a0
theorem ZiH (a0:Zaw) (r:Bool) (hf:ZeV a0 = some r):Zat Tryz.prog 47 [.agg (Zaw.c a0)] (.one (.lit (.bool r))):=by
  refine Zat.of Tryz.func47 rfl rfl rfl rfl fun S0 w0 =>?_
  unfold ZeV at hf
  rcases Zaj hf with ⟨h1,hf⟩ | ⟨h1,hf⟩
  · obtain rfl:=oi hf
    exact Zai Zak 8 [rz,rB [(3,true)],rz] [true] [] [] [] (.c h1 (.c (show true = true from rfl) .n)) (by kernel_rfl) rfl
  · rcases Zaj hf with ⟨h2,hf⟩ | ⟨h2,hf⟩
    · obtain rfl:=oi hf
      exact Zai Zak 8 [rz,rB [(3,false)],rz] [true] [] [] [] (.c h1 (.c h2 .n)) (by kernel_rfl) rfl
    · rcases Zaj hf with ⟨h3,hf⟩ | ⟨h3,hf⟩
      · exact ZaI Zak Post.ends 20 [rz,rB [(3,false)],rz,rz,rz,rz,rz] [false,true] ⟨[],[],[],[],[],[1,3,4],[1],[]⟩ (.c h1 (.c h2 (.c h3 .n))) (by kernel_rfl) (Zej S0 w0    (1:Int) (5:Int) a0 r hf)
      · rcases Zaj hf with ⟨h4,hf⟩ | ⟨h4,hf⟩
        · exact ZaI Zak Post.ends 23 [rz,rB [(3,false)],rz,rz,rz,rz,rz,rz] [false,false,true] ⟨[],[],[],[],[],[1,3,4],[1],[]⟩ (.c h1 (.c h2 (.c h3 (.c h4 .n)))) (by kernel_rfl) (Zej S0 w0    (1:Int) (1099511627776:Int) a0 r hf)
        · rcases Zaj hf with ⟨h5,hf⟩ | ⟨h5,hf⟩
          · exact ZaI Zak Post.ends 26 [rz,rB [(3,false)],rz,rz,rz,rz,rz,rz,rz] [false,false,false,true] ⟨[],[],[],[],[],[1,3,4],[1],[]⟩ (.c h1 (.c h2 (.c h3 (.c h4 (.c h5 .n))))) (by kernel_rfl) (Zej S0 w0    (1:Int) (1048576:Int) a0 r hf)
          · exact ZaI Zak Post.ends 24 [rz,rB [(3,false)],rz,rz,rz,rz,rz] [false,false,false,false] ⟨[],[],[],[],[],[1,3,4],[1],[]⟩ (.c h1 (.c h2 (.c h3 (.c h4 (.c h5 .n))))) (by kernel_rfl) (Zej S0 w0    (0:Int) (1073741824:Int) a0 r hf)
def ZeC   (b1:Zan) (b2:Zan):Option Zan :=
  bif (decide (b1.fKind < (6:Int))) then
    some (Zan.mk b1.fKind b1.fShard (0:Int))
  else
    some b1
theorem Zis (S0:Nat→Prop) (w0:Zbh)   (b1:Zan) (b2:Zan) (r:Zan) (hf:ZeC   b1 b2 = some r):Good Tryz.prog 21 S0 w0 (bodyPost Tryz.prog Tryz.f278 (Post S0 w0 (.agg (Zan.c r)))) (at_ [1,1,1] (ZbM Tryz.f278)) ⟨[(1,.one (.ptr 1 0)),(2,.one (.ptr 2 0))],[(1,.box [.lit (.int .i64 b1.fKind),.lit (.int .i64 b1.fShard),.lit (.int .i64 b1.fSlot)]),(2,.box [.lit (.int .i64 b2.fKind),.lit (.int .i64 b2.fShard),.lit (.int .i64 b2.fSlot)])]⟩:=by
  unfold ZeC at hf
  rcases Zaj hf with ⟨h4,hf⟩ | ⟨h4,hf⟩
  · obtain rfl:=oi hf
    exact Zai Zak 7 [rz,rz,rz] [true] [] [] [] (.c h4 .n) (by kernel_rfl) rfl
  · obtain rfl:=oi hf
    exact Zai Zak 7 [rz,rz] [false] [] [] [] (.c h4 .n) (by kernel_rfl) rfl
def Zgg (a0:Zan):Option Zan :=
  bif (decide (a0.fKind < (1:Int))) then
    some (Zan.mk (0:Int) (0:Int) (0:Int))
  else
    bif (decide (a0.fKind > (6:Int))) then
      some (Zan.mk (0:Int) (0:Int) (0:Int))
    else
      bif (decide (a0.fKind < (5:Int))) then
        ZeC   (Zan.mk a0.fKind (0:Int) a0.fSlot) (Zan.mk (0:Int) (0:Int) (0:Int))
      else
        ZeC   a0 (Zan.mk (0:Int) (0:Int) (0:Int))
theorem Zne (a0:Zan) (r:Zan) (hf:Zgg a0 = some r):Zat Tryz.prog 278 [.agg (Zan.c a0)] (.agg (Zan.c r)):=by
  refine Zat.of Tryz.func278 rfl rfl rfl rfl fun S0 w0 =>?_
  unfold Zgg at hf
  rcases Zaj hf with ⟨h1,hf⟩ | ⟨h1,hf⟩
  · obtain rfl:=oi hf
    exact Zai Zak 8 [rz,rB [(3,true)],rz] [true] [] [] [] (.c h1 (.c (show true = true from rfl) .n)) (by kernel_rfl) rfl
  · rcases Zaj hf with ⟨h2,hf⟩ | ⟨h2,hf⟩
    · obtain rfl:=oi hf
      exact Zai Zak 8 [rz,rB [(3,false)],rz] [true] [] [] [] (.c h1 (.c h2 .n)) (by kernel_rfl) rfl
    · rcases Zaj hf with ⟨h3,hf⟩ | ⟨h3,hf⟩
      · exact ZaI Zak Post.ends 12 [rz,rB [(3,false)],rz,rz] [false,true] ⟨[],[],[],[],[],[1,2],[1,2],[]⟩ (.c h1 (.c h2 (.c h3 .n))) (by kernel_rfl) (Zis S0 w0    (Zan.mk a0.fKind (0:Int) a0.fSlot) (Zan.mk (0:Int) (0:Int) (0:Int)) r hf)
      · exact ZaI Zak Post.ends 12 [rz,rB [(3,false)],rz] [false,false] ⟨[],[],[],[],[],[1,2],[1,2],[]⟩ (.c h1 (.c h2 (.c h3 .n))) (by kernel_rfl) (Zis S0 w0    a0 (Zan.mk (0:Int) (0:Int) (0:Int)) r hf)
def ZdT (a0:Int) (b3:Zae) (b4:Zae)  (b5:Zae):Option Zae :=
  bif (a0 == (6:Int)) then
    some (Zae.mk b5.fN b3.fPeer b5.fBans b5.fBook)
  else
    some b5
theorem ZhH (S0:Nat→Prop) (w0:Zbh) (a0:Int) (b3:Zae) (b4:Zae)  (b5:Zae) (r:Zae) (hf:ZdT a0 b3 b4  b5 = some r):Good Tryz.prog 36 S0 w0 (bodyPost Tryz.prog Tryz.f279 (Post S0 w0 (.agg (Zae.c r)))) (at_ [1,1,1,1,1] (ZbM Tryz.f279)) ⟨[(0,.one (.lit (.int .i64 a0))),(3,.one (.ptr 3 0)),(4,.one (.ptr 4 0)),(5,.one (.ptr 5 0))],[(3,.box [.lit (.int .i64 b3.fN),.lit (.bool b3.fPeer.fEnd.fAddr.fV6),.lit (.int .u64 b3.fPeer.fEnd.fAddr.fHi),.lit (.int .u64 b3.fPeer.fEnd.fAddr.fLo),.lit (.int .i64 b3.fPeer.fEnd.fPort),.lit (.bool b3.fPeer.fIn),.lit (.int .i64 b3.fPeer.fSince),.lit (.int .i64 b3.fPeer.fScore.fPoints),.lit (.int .i64 b3.fPeer.fScore.fAt),.lit (.int .i64 b3.fPeer.fPing),.lit (.int .i64 b3.fPeer.fWork),cL 5 Zab.c Zab.d b3.fBans,cL 7 Zac.c Zac.d b3.fBook]),(4,.box [.lit (.int .i64 b4.fN),.lit (.bool b4.fPeer.fEnd.fAddr.fV6),.lit (.int .u64 b4.fPeer.fEnd.fAddr.fHi),.lit (.int .u64 b4.fPeer.fEnd.fAddr.fLo),.lit (.int .i64 b4.fPeer.fEnd.fPort),.lit (.bool b4.fPeer.fIn),.lit (.int .i64 b4.fPeer.fSince),.lit (.int .i64 b4.fPeer.fScore.fPoints),.lit (.int .i64 b4.fPeer.fScore.fAt),.lit (.int .i64 b4.fPeer.fPing),.lit (.int .i64 b4.fPeer.fWork),cL 5 Zab.c Zab.d b4.fBans,cL 7 Zac.c Zac.d b4.fBook]),(5,.box [.lit (.int .i64 b5.fN),.lit (.bool b5.fPeer.fEnd.fAddr.fV6),.lit (.int .u64 b5.fPeer.fEnd.fAddr.fHi),.lit (.int .u64 b5.fPeer.fEnd.fAddr.fLo),.lit (.int .i64 b5.fPeer.fEnd.fPort),.lit (.bool b5.fPeer.fIn),.lit (.int .i64 b5.fPeer.fSince),.lit (.int .i64 b5.fPeer.fScore.fPoints),.lit (.int .i64 b5.fPeer.fScore.fAt),.lit (.int .i64 b5.fPeer.fPing),.lit (.int .i64 b5.fPeer.fWork),cL 5 Zab.c Zab.d b5.fBans,cL 7 Zac.c Zac.d b5.fBook])]⟩:=by
  unfold ZdT at hf
  rcases Zaj hf with ⟨h4,hf⟩ | ⟨h4,hf⟩
  · obtain rfl:=oi hf
    exact Zai Zak 7 [rz,rz,rz] [true] [] [] [] (.c h4 .n) (by kernel_rfl) rfl
  · obtain rfl:=oi hf
    exact Zai Zak 7 [rz,rz] [false] [] [] [] (.c h4 .n) (by kernel_rfl) rfl
def ZdU (a0:Int) (b3:Zae) (b4:Zae)  (b5:Zae):Option Zae :=
  bif (a0 == (4:Int)) then
    ZdT a0 b3 b4  (Zae.mk b5.fN b5.fPeer b5.fBans b3.fBook)
  else
    ZdT a0 b3 b4  b5
theorem ZhI (S0:Nat→Prop) (w0:Zbh) (a0:Int) (b3:Zae) (b4:Zae)  (b5:Zae) (r:Zae) (hf:ZdU a0 b3 b4  b5 = some r):Good Tryz.prog 36 S0 w0 (bodyPost Tryz.prog Tryz.f279 (Post S0 w0 (.agg (Zae.c r)))) (at_ [1,1,1,1] (ZbM Tryz.f279)) ⟨[(0,.one (.lit (.int .i64 a0))),(3,.one (.ptr 3 0)),(4,.one (.ptr 4 0)),(5,.one (.ptr 5 0))],[(3,.box [.lit (.int .i64 b3.fN),.lit (.bool b3.fPeer.fEnd.fAddr.fV6),.lit (.int .u64 b3.fPeer.fEnd.fAddr.fHi),.lit (.int .u64 b3.fPeer.fEnd.fAddr.fLo),.lit (.int .i64 b3.fPeer.fEnd.fPort),.lit (.bool b3.fPeer.fIn),.lit (.int .i64 b3.fPeer.fSince),.lit (.int .i64 b3.fPeer.fScore.fPoints),.lit (.int .i64 b3.fPeer.fScore.fAt),.lit (.int .i64 b3.fPeer.fPing),.lit (.int .i64 b3.fPeer.fWork),cL 5 Zab.c Zab.d b3.fBans,cL 7 Zac.c Zac.d b3.fBook]),(4,.box [.lit (.int .i64 b4.fN),.lit (.bool b4.fPeer.fEnd.fAddr.fV6),.lit (.int .u64 b4.fPeer.fEnd.fAddr.fHi),.lit (.int .u64 b4.fPeer.fEnd.fAddr.fLo),.lit (.int .i64 b4.fPeer.fEnd.fPort),.lit (.bool b4.fPeer.fIn),.lit (.int .i64 b4.fPeer.fSince),.lit (.int .i64 b4.fPeer.fScore.fPoints),.lit (.int .i64 b4.fPeer.fScore.fAt),.lit (.int .i64 b4.fPeer.fPing),.lit (.int .i64 b4.fPeer.fWork),cL 5 Zab.c Zab.d b4.fBans,cL 7 Zac.c Zac.d b4.fBook]),(5,.box [.lit (.int .i64 b5.fN),.lit (.bool b5.fPeer.fEnd.fAddr.fV6),.lit (.int .u64 b5.fPeer.fEnd.fAddr.fHi),.lit (.int .u64 b5.fPeer.fEnd.fAddr.fLo),.lit (.int .i64 b5.fPeer.fEnd.fPort),.lit (.bool b5.fPeer.fIn),.lit (.int .i64 b5.fPeer.fSince),.lit (.int .i64 b5.fPeer.fScore.fPoints),.lit (.int .i64 b5.fPeer.fScore.fAt),.lit (.int .i64 b5.fPeer.fPing),.lit (.int .i64 b5.fPeer.fWork),cL 5 Zab.c Zab.d b5.fBans,cL 7 Zac.c Zac.d b5.fBook])]⟩:=by
  unfold ZdU at hf
  rcases Zaj hf with ⟨h3,hf⟩ | ⟨h3,hf⟩
  · exact ZaI Zak Post.ends 5 [rz,rz] [true] ⟨[],[],[],[],[],[0,3,4,5],[3,4,5],[]⟩ (.c h3 .n) (by kernel_rfl) (ZhH S0 w0 a0 b3 b4   (Zae.mk b5.fN b5.fPeer b5.fBans b3.fBook) r hf)
  · exact ZaI Zak Post.ends 5 [rz] [false] ⟨[],[],[],[],[],[0,3,4,5],[3,4,5],[]⟩ (.c h3 .n) (by kernel_rfl) (ZhH S0 w0 a0 b3 b4   b5 r hf)
def ZcH (a0:Int)  (b3:Zae) (b4:Zae) (b5:Zae):Option Zae :=
  bif (a0 == (3:Int)) then
    ZdU a0 b3 b4  (Zae.mk b5.fN b5.fPeer b3.fBans b5.fBook)
  else
    ZdU a0 b3 b4  b5
theorem Zei (S0:Nat→Prop) (w0:Zbh) (a0:Int)  (b3:Zae) (b4:Zae) (b5:Zae) (r:Zae) (hf:ZcH a0  b3 b4 b5 = some r):Good Tryz.prog 36 S0 w0 (bodyPost Tryz.prog Tryz.f279 (Post S0 w0 (.agg (Zae.c r)))) (at_ [1,1,1] (ZbM Tryz.f279)) ⟨[(0,.one (.lit (.int .i64 a0))),(3,.one (.ptr 3 0)),(4,.one (.ptr 4 0)),(5,.one (.ptr 5 0))],[(3,.box [.lit (.int .i64 b3.fN),.lit (.bool b3.fPeer.fEnd.fAddr.fV6),.lit (.int .u64 b3.fPeer.fEnd.fAddr.fHi),.lit (.int .u64 b3.fPeer.fEnd.fAddr.fLo),.lit (.int .i64 b3.fPeer.fEnd.fPort),.lit (.bool b3.fPeer.fIn),.lit (.int .i64 b3.fPeer.fSince),.lit (.int .i64 b3.fPeer.fScore.fPoints),.lit (.int .i64 b3.fPeer.fScore.fAt),.lit (.int .i64 b3.fPeer.fPing),.lit (.int .i64 b3.fPeer.fWork),cL 5 Zab.c Zab.d b3.fBans,cL 7 Zac.c Zac.d b3.fBook]),(4,.box [.lit (.int .i64 b4.fN),.lit (.bool b4.fPeer.fEnd.fAddr.fV6),.lit (.int .u64 b4.fPeer.fEnd.fAddr.fHi),.lit (.int .u64 b4.fPeer.fEnd.fAddr.fLo),.lit (.int .i64 b4.fPeer.fEnd.fPort),.lit (.bool b4.fPeer.fIn),.lit (.int .i64 b4.fPeer.fSince),.lit (.int .i64 b4.fPeer.fScore.fPoints),.lit (.int .i64 b4.fPeer.fScore.fAt),.lit (.int .i64 b4.fPeer.fPing),.lit (.int .i64 b4.fPeer.fWork),cL 5 Zab.c Zab.d b4.fBans,cL 7 Zac.c Zac.d b4.fBook]),(5,.box [.lit (.int .i64 b5.fN),.lit (.bool b5.fPeer.fEnd.fAddr.fV6),.lit (.int .u64 b5.fPeer.fEnd.fAddr.fHi),.lit (.int .u64 b5.fPeer.fEnd.fAddr.fLo),.lit (.int .i64 b5.fPeer.fEnd.fPort),.lit (.bool b5.fPeer.fIn),.lit (.int .i64 b5.fPeer.fSince),.lit (.int .i64 b5.fPeer.fScore.fPoints),.lit (.int .i64 b5.fPeer.fScore.fAt),.lit (.int .i64 b5.fPeer.fPing),.lit (.int .i64 b5.fPeer.fWork),cL 5 Zab.c Zab.d b5.fBans,cL 7 Zac.c Zac.d b5.fBook])]⟩:=by
  unfold ZcH at hf
  rcases Zaj hf with ⟨h2,hf⟩ | ⟨h2,hf⟩
  · exact ZaI Zak Post.ends 5 [rz,rz] [true] ⟨[],[],[],[],[],[0,3,4,5],[3,4,5],[]⟩ (.c h2 .n) (by kernel_rfl) (ZhI S0 w0 a0 b3 b4   (Zae.mk b5.fN b5.fPeer b3.fBans b5.fBook) r hf)
  · exact ZaI Zak Post.ends 5 [rz] [false] ⟨[],[],[],[],[],[0,3,4,5],[3,4,5],[]⟩ (.c h2 .n) (by kernel_rfl) (ZhI S0 w0 a0 b3 b4   b5 r hf)
def ZeS (a0:Int) (a1:Zae):Option Zae :=
  bif (a0 == (1:Int)) then
    ZcH a0  a1 (Zae.mk (0:Int) (Zaa.mk (Zaf.mk (Zag.mk false (0:Int) (0:Int)) (0:Int)) false (0:Int) (Zah.mk (0:Int) (0:Int)) (0:Int) (0:Int)) ([]:(List Zab)) ([]:(List Zac))) (Zae.mk a1.fN (Zaa.mk (Zaf.mk (Zag.mk false (0:Int) (0:Int)) (0:Int)) false (0:Int) (Zah.mk (0:Int) (0:Int)) (0:Int) (0:Int)) ([]:(List Zab)) ([]:(List Zac)))
  else
    bif (a0 == (2:Int)) then
      ZcH a0  a1 (Zae.mk (0:Int) (Zaa.mk (Zaf.mk (Zag.mk false (0:Int) (0:Int)) (0:Int)) false (0:Int) (Zah.mk (0:Int) (0:Int)) (0:Int) (0:Int)) ([]:(List Zab)) ([]:(List Zac))) (Zae.mk a1.fN (Zaa.mk (Zaf.mk (Zag.mk false (0:Int) (0:Int)) (0:Int)) false (0:Int) (Zah.mk (0:Int) (0:Int)) (0:Int) (0:Int)) ([]:(List Zab)) ([]:(List Zac)))
    else
      bif (a0 == (5:Int)) then
        ZcH a0  a1 (Zae.mk (0:Int) (Zaa.mk (Zaf.mk (Zag.mk false (0:Int) (0:Int)) (0:Int)) false (0:Int) (Zah.mk (0:Int) (0:Int)) (0:Int) (0:Int)) ([]:(List Zab)) ([]:(List Zac))) (Zae.mk a1.fN (Zaa.mk (Zaf.mk (Zag.mk false (0:Int) (0:Int)) (0:Int)) false (0:Int) (Zah.mk (0:Int) (0:Int)) (0:Int) (0:Int)) ([]:(List Zab)) ([]:(List Zac)))
      else
        ZcH a0  a1 (Zae.mk (0:Int) (Zaa.mk (Zaf.mk (Zag.mk false (0:Int) (0:Int)) (0:Int)) false (0:Int) (Zah.mk (0:Int) (0:Int)) (0:Int) (0:Int)) ([]:(List Zab)) ([]:(List Zac))) (Zae.mk (0:Int) (Zaa.mk (Zaf.mk (Zag.mk false (0:Int) (0:Int)) (0:Int)) false (0:Int) (Zah.mk (0:Int) (0:Int)) (0:Int) (0:Int)) ([]:(List Zab)) ([]:(List Zac)))
theorem Zmc (a0:Int) (a1:Zae) (r:Zae) (hf:ZeS a0 a1 = some r):Zat Tryz.prog 279 [.one (.lit (.int .i64 a0)),.agg (Zae.c a1)] (.agg (Zae.c r)):=by
  refine Zat.of Tryz.func279 rfl rfl rfl rfl fun S0 w0 =>?_
  unfold ZeS at hf
  rcases Zaj hf with ⟨h1,hf⟩ | ⟨h1,hf⟩
  · exact ZaI Zak Post.ends 9 [rz,rz,rB [(2,true)],rz] [true] ⟨[],[(4,[(11,cL 5 Zab.c Zab.d []),(12,cL 7 Zac.c Zac.d [])]),(5,[(11,cL 5 Zab.c Zab.d []),(12,cL 7 Zac.c Zac.d [])])],[],[],[],[0,3,4,5],[3,4,5],[]⟩ (.c h1 (.c (show true = true from rfl) .n)) (by kernel_rfl) (Zei S0 w0 a0   a1 (Zae.mk (0:Int) (Zaa.mk (Zaf.mk (Zag.mk false (0:Int) (0:Int)) (0:Int)) false (0:Int) (Zah.mk (0:Int) (0:Int)) (0:Int) (0:Int)) ([]:(List Zab)) ([]:(List Zac))) (Zae.mk a1.fN (Zaa.mk (Zaf.mk (Zag.mk false (0:Int) (0:Int)) (0:Int)) false (0:Int) (Zah.mk (0:Int) (0:Int)) (0:Int) (0:Int)) ([]:(List Zab)) ([]:(List Zac))) r hf)
  · rcases Zaj hf with ⟨h2,hf⟩ | ⟨h2,hf⟩
    · exact ZaI Zak Post.ends 9 [rz,rz,rB [(2,false),(6,true)],rz] [true] ⟨[],[(4,[(11,cL 5 Zab.c Zab.d []),(12,cL 7 Zac.c Zac.d [])]),(5,[(11,cL 5 Zab.c Zab.d []),(12,cL 7 Zac.c Zac.d [])])],[],[],[],[0,3,4,5],[3,4,5],[]⟩ (.c h1 (.c h2 (.c (show true = true from rfl) .n))) (by kernel_rfl) (Zei S0 w0 a0   a1 (Zae.mk (0:Int) (Zaa.mk (Zaf.mk (Zag.mk false (0:Int) (0:Int)) (0:Int)) false (0:Int) (Zah.mk (0:Int) (0:Int)) (0:Int) (0:Int)) ([]:(List Zab)) ([]:(List Zac))) (Zae.mk a1.fN (Zaa.mk (Zaf.mk (Zag.mk false (0:Int) (0:Int)) (0:Int)) false (0:Int) (Zah.mk (0:Int) (0:Int)) (0:Int) (0:Int)) ([]:(List Zab)) ([]:(List Zac))) r hf)
    · rcases Zaj hf with ⟨h3,hf⟩ | ⟨h3,hf⟩
      · exact ZaI Zak Post.ends 9 [rz,rz,rB [(2,false),(6,false)],rz] [true] ⟨[],[(4,[(11,cL 5 Zab.c Zab.d []),(12,cL 7 Zac.c Zac.d [])]),(5,[(11,cL 5 Zab.c Zab.d []),(12,cL 7 Zac.c Zac.d [])])],[],[],[],[0,3,4,5],[3,4,5],[]⟩ (.c h1 (.c h2 (.c h3 .n))) (by kernel_rfl) (Zei S0 w0 a0   a1 (Zae.mk (0:Int) (Zaa.mk (Zaf.mk (Zag.mk false (0:Int) (0:Int)) (0:Int)) false (0:Int) (Zah.mk (0:Int) (0:Int)) (0:Int) (0:Int)) ([]:(List Zab)) ([]:(List Zac))) (Zae.mk a1.fN (Zaa.mk (Zaf.mk (Zag.mk false (0:Int) (0:Int)) (0:Int)) false (0:Int) (Zah.mk (0:Int) (0:Int)) (0:Int) (0:Int)) ([]:(List Zab)) ([]:(List Zac))) r hf)
      · exact ZaI Zak Post.ends 9 [rz,rz,rB [(2,false),(6,false)]] [false] ⟨[],[(4,[(11,cL 5 Zab.c Zab.d []),(12,cL 7 Zac.c Zac.d [])]),(5,[(11,cL 5 Zab.c Zab.d []),(12,cL 7 Zac.c Zac.d [])])],[],[],[],[0,3,4,5],[3,4,5],[]⟩ (.c h1 (.c h2 (.c h3 .n))) (by kernel_rfl) (Zei S0 w0 a0   a1 (Zae.mk (0:Int) (Zaa.mk (Zaf.mk (Zag.mk false (0:Int) (0:Int)) (0:Int)) false (0:Int) (Zah.mk (0:Int) (0:Int)) (0:Int) (0:Int)) ([]:(List Zab)) ([]:(List Zac))) (Zae.mk (0:Int) (Zaa.mk (Zaf.mk (Zag.mk false (0:Int) (0:Int)) (0:Int)) false (0:Int) (Zah.mk (0:Int) (0:Int)) (0:Int) (0:Int)) ([]:(List Zab)) ([]:(List Zac))) r hf)
def ZdV (b1:Zao) (b2:Zao)  (b3:Zao):Option Zao :=
  bif (b1.fKind == (7:Int)) then
    some (Zao.mk b3.fKind b3.fLock b3.fLoc b1.fOld b1.fNew b3.fVal b3.fMark)
  else
    some b3
theorem ZhJ (S0:Nat→Prop) (w0:Zbh) (b1:Zao) (b2:Zao)  (b3:Zao) (r:Zao) (hf:ZdV b1 b2  b3 = some r):Good Tryz.prog 56 S0 w0 (bodyPost Tryz.prog Tryz.f207 (Post S0 w0 (.agg (Zao.c r)))) (at_ [1,1,1,1,1,1] (ZbM Tryz.f207)) ⟨[(1,.one (.ptr 1 0)),(2,.one (.ptr 2 0)),(3,.one (.ptr 3 0))],[(1,.box [.lit (.int .i64 b1.fKind),.lit (.int .i64 b1.fLock),.lit (.int .i64 b1.fLoc.fKind),.lit (.int .i64 b1.fLoc.fShard),.lit (.int .i64 b1.fLoc.fSlot),.lit (.int .i64 b1.fOld),.lit (.int .i64 b1.fNew),.lit (.int .i64 b1.fVal.fN),.lit (.bool b1.fVal.fPeer.fEnd.fAddr.fV6),.lit (.int .u64 b1.fVal.fPeer.fEnd.fAddr.fHi),.lit (.int .u64 b1.fVal.fPeer.fEnd.fAddr.fLo),.lit (.int .i64 b1.fVal.fPeer.fEnd.fPort),.lit (.bool b1.fVal.fPeer.fIn),.lit (.int .i64 b1.fVal.fPeer.fSince),.lit (.int .i64 b1.fVal.fPeer.fScore.fPoints),.lit (.int .i64 b1.fVal.fPeer.fScore.fAt),.lit (.int .i64 b1.fVal.fPeer.fPing),.lit (.int .i64 b1.fVal.fPeer.fWork),cL 5 Zab.c Zab.d b1.fVal.fBans,cL 7 Zac.c Zac.d b1.fVal.fBook,.lit (.bool b1.fMark)]),(2,.box [.lit (.int .i64 b2.fKind),.lit (.int .i64 b2.fLock),.lit (.int .i64 b2.fLoc.fKind),.lit (.int .i64 b2.fLoc.fShard),.lit (.int .i64 b2.fLoc.fSlot),.lit (.int .i64 b2.fOld),.lit (.int .i64 b2.fNew),.lit (.int .i64 b2.fVal.fN),.lit (.bool b2.fVal.fPeer.fEnd.fAddr.fV6),.lit (.int .u64 b2.fVal.fPeer.fEnd.fAddr.fHi),.lit (.int .u64 b2.fVal.fPeer.fEnd.fAddr.fLo),.lit (.int .i64 b2.fVal.fPeer.fEnd.fPort),.lit (.bool b2.fVal.fPeer.fIn),.lit (.int .i64 b2.fVal.fPeer.fSince),.lit (.int .i64 b2.fVal.fPeer.fScore.fPoints),.lit (.int .i64 b2.fVal.fPeer.fScore.fAt),.lit (.int .i64 b2.fVal.fPeer.fPing),.lit (.int .i64 b2.fVal.fPeer.fWork),cL 5 Zab.c Zab.d b2.fVal.fBans,cL 7 Zac.c Zac.d b2.fVal.fBook,.lit (.bool b2.fMark)]),(3,.box [.lit (.int .i64 b3.fKind),.lit (.int .i64 b3.fLock),.lit (.int .i64 b3.fLoc.fKind),.lit (.int .i64 b3.fLoc.fShard),.lit (.int .i64 b3.fLoc.fSlot),.lit (.int .i64 b3.fOld),.lit (.int .i64 b3.fNew),.lit (.int .i64 b3.fVal.fN),.lit (.bool b3.fVal.fPeer.fEnd.fAddr.fV6),.lit (.int .u64 b3.fVal.fPeer.fEnd.fAddr.fHi),.lit (.int .u64 b3.fVal.fPeer.fEnd.fAddr.fLo),.lit (.int .i64 b3.fVal.fPeer.fEnd.fPort),.lit (.bool b3.fVal.fPeer.fIn),.lit (.int .i64 b3.fVal.fPeer.fSince),.lit (.int .i64 b3.fVal.fPeer.fScore.fPoints),.lit (.int .i64 b3.fVal.fPeer.fScore.fAt),.lit (.int .i64 b3.fVal.fPeer.fPing),.lit (.int .i64 b3.fVal.fPeer.fWork),cL 5 Zab.c Zab.d b3.fVal.fBans,cL 7 Zac.c Zac.d b3.fVal.fBook,.lit (.bool b3.fMark)])]⟩:=by
  unfold ZdV at hf
  rcases Zaj hf with ⟨h9,hf⟩ | ⟨h9,hf⟩
  · obtain rfl:=oi hf
    exact Zai Zak 9 [rz,rz,rz,rz] [true] [] [] [] (.c h9 .n) (by kernel_rfl) rfl
  · obtain rfl:=oi hf
    exact Zai Zak 7 [rz,rz] [false] [] [] [] (.c h9 .n) (by kernel_rfl) rfl
def Zdf (b1:Zao) (b2:Zao)  (b3:Zao):Option Zao :=
  bif (b1.fKind == (6:Int)) then
    (ZeS b1.fLoc.fKind b1.fVal).bind fun x2 =>
    ZdV b1 b2  (Zao.mk b3.fKind b3.fLock b3.fLoc b3.fOld b3.fNew x2 b3.fMark)
  else
    ZdV b1 b2  b3
theorem ZfP (S0:Nat→Prop) (w0:Zbh) (b1:Zao) (b2:Zao)  (b3:Zao) (r:Zao) (hf:Zdf b1 b2  b3 = some r):Good Tryz.prog 56 S0 w0 (bodyPost Tryz.prog Tryz.f207 (Post S0 w0 (.agg (Zao.c r)))) (at_ [1,1,1,1,1] (ZbM Tryz.f207)) ⟨[(1,.one (.ptr 1 0)),(2,.one (.ptr 2 0)),(3,.one (.ptr 3 0))],[(1,.box [.lit (.int .i64 b1.fKind),.lit (.int .i64 b1.fLock),.lit (.int .i64 b1.fLoc.fKind),.lit (.int .i64 b1.fLoc.fShard),.lit (.int .i64 b1.fLoc.fSlot),.lit (.int .i64 b1.fOld),.lit (.int .i64 b1.fNew),.lit (.int .i64 b1.fVal.fN),.lit (.bool b1.fVal.fPeer.fEnd.fAddr.fV6),.lit (.int .u64 b1.fVal.fPeer.fEnd.fAddr.fHi),.lit (.int .u64 b1.fVal.fPeer.fEnd.fAddr.fLo),.lit (.int .i64 b1.fVal.fPeer.fEnd.fPort),.lit (.bool b1.fVal.fPeer.fIn),.lit (.int .i64 b1.fVal.fPeer.fSince),.lit (.int .i64 b1.fVal.fPeer.fScore.fPoints),.lit (.int .i64 b1.fVal.fPeer.fScore.fAt),.lit (.int .i64 b1.fVal.fPeer.fPing),.lit (.int .i64 b1.fVal.fPeer.fWork),cL 5 Zab.c Zab.d b1.fVal.fBans,cL 7 Zac.c Zac.d b1.fVal.fBook,.lit (.bool b1.fMark)]),(2,.box [.lit (.int .i64 b2.fKind),.lit (.int .i64 b2.fLock),.lit (.int .i64 b2.fLoc.fKind),.lit (.int .i64 b2.fLoc.fShard),.lit (.int .i64 b2.fLoc.fSlot),.lit (.int .i64 b2.fOld),.lit (.int .i64 b2.fNew),.lit (.int .i64 b2.fVal.fN),.lit (.bool b2.fVal.fPeer.fEnd.fAddr.fV6),.lit (.int .u64 b2.fVal.fPeer.fEnd.fAddr.fHi),.lit (.int .u64 b2.fVal.fPeer.fEnd.fAddr.fLo),.lit (.int .i64 b2.fVal.fPeer.fEnd.fPort),.lit (.bool b2.fVal.fPeer.fIn),.lit (.int .i64 b2.fVal.fPeer.fSince),.lit (.int .i64 b2.fVal.fPeer.fScore.fPoints),.lit (.int .i64 b2.fVal.fPeer.fScore.fAt),.lit (.int .i64 b2.fVal.fPeer.fPing),.lit (.int .i64 b2.fVal.fPeer.fWork),cL 5 Zab.c Zab.d b2.fVal.fBans,cL 7 Zac.c Zac.d b2.fVal.fBook,.lit (.bool b2.fMark)]),(3,.box [.lit (.int .i64 b3.fKind),.lit (.int .i64 b3.fLock),.lit (.int .i64 b3.fLoc.fKind),.lit (.int .i64 b3.fLoc.fShard),.lit (.int .i64 b3.fLoc.fSlot),.lit (.int .i64 b3.fOld),.lit (.int .i64 b3.fNew),.lit (.int .i64 b3.fVal.fN),.lit (.bool b3.fVal.fPeer.fEnd.fAddr.fV6),.lit (.int .u64 b3.fVal.fPeer.fEnd.fAddr.fHi),.lit (.int .u64 b3.fVal.fPeer.fEnd.fAddr.fLo),.lit (.int .i64 b3.fVal.fPeer.fEnd.fPort),.lit (.bool b3.fVal.fPeer.fIn),.lit (.int .i64 b3.fVal.fPeer.fSince),.lit (.int .i64 b3.fVal.fPeer.fScore.fPoints),.lit (.int .i64 b3.fVal.fPeer.fScore.fAt),.lit (.int .i64 b3.fVal.fPeer.fPing),.lit (.int .i64 b3.fVal.fPeer.fWork),cL 5 Zab.c Zab.d b3.fVal.fBans,cL 7 Zac.c Zac.d b3.fVal.fBook,.lit (.bool b3.fMark)])]⟩:=by
  unfold Zdf at hf
  rcases Zaj hf with ⟨h7,hf⟩ | ⟨h7,hf⟩
  · obtain ⟨x2,q8,hf⟩:=bind_some' hf
    exact ZaI Zak Post.ends 5 [rz,rA [(5,aG (Zae.c x2))]] [true] ⟨[],[],[],[],[],[1,2,3],[1,2,3],[]⟩ (.c h7 (.c (Zmc _ _ _ q8) .n)) (by kernel_rfl) (ZhJ S0 w0 b1 b2   (Zao.mk b3.fKind b3.fLock b3.fLoc b3.fOld b3.fNew x2 b3.fMark) r hf)
  · exact ZaI Zak Post.ends 5 [rz] [false] ⟨[],[],[],[],[],[1,2,3],[1,2,3],[]⟩ (.c h7 .n) (by kernel_rfl) (ZhJ S0 w0 b1 b2   b3 r hf)
def ZdW   (b1:Zao) (b2:Zao) (b3:Zao):Option Zao :=
  bif (decide (b1.fKind > (4:Int))) then
    bif (decide (b1.fKind < (8:Int))) then
      (Zgg b1.fLoc).bind fun x1 =>
      Zdf b1 b2  (Zao.mk b3.fKind b3.fLock x1 b3.fOld b3.fNew b3.fVal b3.fMark)
    else
      Zdf b1 b2  b3
  else
    Zdf b1 b2  b3
theorem ZhK (S0:Nat→Prop) (w0:Zbh)   (b1:Zao) (b2:Zao) (b3:Zao) (r:Zao) (hf:ZdW   b1 b2 b3 = some r):Good Tryz.prog 56 S0 w0 (bodyPost Tryz.prog Tryz.f207 (Post S0 w0 (.agg (Zao.c r)))) (at_ [1,1,1,1] (ZbM Tryz.f207)) ⟨[(1,.one (.ptr 1 0)),(2,.one (.ptr 2 0)),(3,.one (.ptr 3 0))],[(1,.box [.lit (.int .i64 b1.fKind),.lit (.int .i64 b1.fLock),.lit (.int .i64 b1.fLoc.fKind),.lit (.int .i64 b1.fLoc.fShard),.lit (.int .i64 b1.fLoc.fSlot),.lit (.int .i64 b1.fOld),.lit (.int .i64 b1.fNew),.lit (.int .i64 b1.fVal.fN),.lit (.bool b1.fVal.fPeer.fEnd.fAddr.fV6),.lit (.int .u64 b1.fVal.fPeer.fEnd.fAddr.fHi),.lit (.int .u64 b1.fVal.fPeer.fEnd.fAddr.fLo),.lit (.int .i64 b1.fVal.fPeer.fEnd.fPort),.lit (.bool b1.fVal.fPeer.fIn),.lit (.int .i64 b1.fVal.fPeer.fSince),.lit (.int .i64 b1.fVal.fPeer.fScore.fPoints),.lit (.int .i64 b1.fVal.fPeer.fScore.fAt),.lit (.int .i64 b1.fVal.fPeer.fPing),.lit (.int .i64 b1.fVal.fPeer.fWork),cL 5 Zab.c Zab.d b1.fVal.fBans,cL 7 Zac.c Zac.d b1.fVal.fBook,.lit (.bool b1.fMark)]),(2,.box [.lit (.int .i64 b2.fKind),.lit (.int .i64 b2.fLock),.lit (.int .i64 b2.fLoc.fKind),.lit (.int .i64 b2.fLoc.fShard),.lit (.int .i64 b2.fLoc.fSlot),.lit (.int .i64 b2.fOld),.lit (.int .i64 b2.fNew),.lit (.int .i64 b2.fVal.fN),.lit (.bool b2.fVal.fPeer.fEnd.fAddr.fV6),.lit (.int .u64 b2.fVal.fPeer.fEnd.fAddr.fHi),.lit (.int .u64 b2.fVal.fPeer.fEnd.fAddr.fLo),.lit (.int .i64 b2.fVal.fPeer.fEnd.fPort),.lit (.bool b2.fVal.fPeer.fIn),.lit (.int .i64 b2.fVal.fPeer.fSince),.lit (.int .i64 b2.fVal.fPeer.fScore.fPoints),.lit (.int .i64 b2.fVal.fPeer.fScore.fAt),.lit (.int .i64 b2.fVal.fPeer.fPing),.lit (.int .i64 b2.fVal.fPeer.fWork),cL 5 Zab.c Zab.d b2.fVal.fBans,cL 7 Zac.c Zac.d b2.fVal.fBook,.lit (.bool b2.fMark)]),(3,.box [.lit (.int .i64 b3.fKind),.lit (.int .i64 b3.fLock),.lit (.int .i64 b3.fLoc.fKind),.lit (.int .i64 b3.fLoc.fShard),.lit (.int .i64 b3.fLoc.fSlot),.lit (.int .i64 b3.fOld),.lit (.int .i64 b3.fNew),.lit (.int .i64 b3.fVal.fN),.lit (.bool b3.fVal.fPeer.fEnd.fAddr.fV6),.lit (.int .u64 b3.fVal.fPeer.fEnd.fAddr.fHi),.lit (.int .u64 b3.fVal.fPeer.fEnd.fAddr.fLo),.lit (.int .i64 b3.fVal.fPeer.fEnd.fPort),.lit (.bool b3.fVal.fPeer.fIn),.lit (.int .i64 b3.fVal.fPeer.fSince),.lit (.int .i64 b3.fVal.fPeer.fScore.fPoints),.lit (.int .i64 b3.fVal.fPeer.fScore.fAt),.lit (.int .i64 b3.fVal.fPeer.fPing),.lit (.int .i64 b3.fVal.fPeer.fWork),cL 5 Zab.c Zab.d b3.fVal.fBans,cL 7 Zac.c Zac.d b3.fVal.fBook,.lit (.bool b3.fMark)])]⟩:=by
  unfold ZdW at hf
  rcases Zaj hf with ⟨h4,hf⟩ | ⟨h4,hf⟩
  · rcases Zaj hf with ⟨h5,hf⟩ | ⟨h5,hf⟩
    · obtain ⟨x1,q6,hf⟩:=bind_some' hf
      exact ZaI Zak Post.ends 5 [rB [(3,true)],rA [(2,aG (Zan.c x1))]] [true] ⟨[],[],[],[],[],[1,2,3],[1,2,3],[]⟩ (.c h4 (.c h5 (.c (Zne _ _ q6) .n))) (by kernel_rfl) (ZfP S0 w0 b1 b2   (Zao.mk b3.fKind b3.fLock x1 b3.fOld b3.fNew b3.fVal b3.fMark) r hf)
    · exact ZaI Zak Post.ends 5 [rB [(3,true)]] [false] ⟨[],[],[],[],[],[1,2,3],[1,2,3],[]⟩ (.c h4 (.c h5 .n)) (by kernel_rfl) (ZfP S0 w0 b1 b2   b3 r hf)
  · exact ZaI Zak Post.ends 5 [rB [(3,false)]] [false] ⟨[],[],[],[],[],[1,2,3],[1,2,3],[]⟩ (.c h4 (.c (show false = false from rfl) .n)) (by kernel_rfl) (ZfP S0 w0 b1 b2   b3 r hf)
def ZeT (a0:Zao):Option Zao :=
  bif (decide (a0.fKind < (1:Int))) then
    some (Zao.mk (0:Int) (0:Int) (Zan.mk (0:Int) (0:Int) (0:Int)) (0:Int) (0:Int) (Zae.mk (0:Int) (Zaa.mk (Zaf.mk (Zag.mk false (0:Int) (0:Int)) (0:Int)) false (0:Int) (Zah.mk (0:Int) (0:Int)) (0:Int) (0:Int)) ([]:(List Zab)) ([]:(List Zac))) false)
  else
    bif (decide (a0.fKind > (8:Int))) then
      some (Zao.mk (0:Int) (0:Int) (Zan.mk (0:Int) (0:Int) (0:Int)) (0:Int) (0:Int) (Zae.mk (0:Int) (Zaa.mk (Zaf.mk (Zag.mk false (0:Int) (0:Int)) (0:Int)) false (0:Int) (Zah.mk (0:Int) (0:Int)) (0:Int) (0:Int)) ([]:(List Zab)) ([]:(List Zac))) false)
    else
      bif (decide (a0.fKind < (5:Int))) then
        ZdW   a0 (Zao.mk (0:Int) (0:Int) (Zan.mk (0:Int) (0:Int) (0:Int)) (0:Int) (0:Int) (Zae.mk (0:Int) (Zaa.mk (Zaf.mk (Zag.mk false (0:Int) (0:Int)) (0:Int)) false (0:Int) (Zah.mk (0:Int) (0:Int)) (0:Int) (0:Int)) ([]:(List Zab)) ([]:(List Zac))) false) (Zao.mk a0.fKind a0.fLock (Zan.mk (0:Int) (0:Int) (0:Int)) (0:Int) (0:Int) (Zae.mk (0:Int) (Zaa.mk (Zaf.mk (Zag.mk false (0:Int) (0:Int)) (0:Int)) false (0:Int) (Zah.mk (0:Int) (0:Int)) (0:Int) (0:Int)) ([]:(List Zab)) ([]:(List Zac))) a0.fMark)
      else
        ZdW   a0 (Zao.mk (0:Int) (0:Int) (Zan.mk (0:Int) (0:Int) (0:Int)) (0:Int) (0:Int) (Zae.mk (0:Int) (Zaa.mk (Zaf.mk (Zag.mk false (0:Int) (0:Int)) (0:Int)) false (0:Int) (Zah.mk (0:Int) (0:Int)) (0:Int) (0:Int)) ([]:(List Zab)) ([]:(List Zac))) false) (Zao.mk a0.fKind (0:Int) (Zan.mk (0:Int) (0:Int) (0:Int)) (0:Int) (0:Int) (Zae.mk (0:Int) (Zaa.mk (Zaf.mk (Zag.mk false (0:Int) (0:Int)) (0:Int)) false (0:Int) (Zah.mk (0:Int) (0:Int)) (0:Int) (0:Int)) ([]:(List Zab)) ([]:(List Zac))) a0.fMark)
theorem Zmd (a0:Zao) (r:Zao) (hf:ZeT a0 = some r):Zat Tryz.prog 207 [.agg (Zao.c a0)] (.agg (Zao.c r)):=by
  refine Zat.of Tryz.func207 rfl rfl rfl rfl fun S0 w0 =>?_
  unfold ZeT at hf
  rcases Zaj hf with ⟨h1,hf⟩ | ⟨h1,hf⟩
  · obtain rfl:=oi hf
    exact Zai Zak 8 [rz,rB [(3,true)],rz] [true] [] [(2,[(18,cL 5 Zab.c Zab.d []),(19,cL 7 Zac.c Zac.d [])])] [] (.c h1 (.c (show true = true from rfl) .n)) (by kernel_rfl) rfl
  · rcases Zaj hf with ⟨h2,hf⟩ | ⟨h2,hf⟩
    · obtain rfl:=oi hf
      exact Zai Zak 8 [rz,rB [(3,false)],rz] [true] [] [(2,[(18,cL 5 Zab.c Zab.d []),(19,cL 7 Zac.c Zac.d [])])] [] (.c h1 (.c h2 .n)) (by kernel_rfl) rfl
    · rcases Zaj hf with ⟨h3,hf⟩ | ⟨h3,hf⟩
      · exact ZaI Zak Post.ends 14 [rz,rB [(3,false)],rz,rz,rz] [false,true] ⟨[],[(2,[(18,cL 5 Zab.c Zab.d []),(19,cL 7 Zac.c Zac.d [])]),(3,[(18,cL 5 Zab.c Zab.d []),(19,cL 7 Zac.c Zac.d [])])],[],[],[],[1,2,3],[1,2,3],[]⟩ (.c h1 (.c h2 (.c h3 .n))) (by kernel_rfl) (ZhK S0 w0    a0 (Zao.mk (0:Int) (0:Int) (Zan.mk (0:Int) (0:Int) (0:Int)) (0:Int) (0:Int) (Zae.mk (0:Int) (Zaa.mk (Zaf.mk (Zag.mk false (0:Int) (0:Int)) (0:Int)) false (0:Int) (Zah.mk (0:Int) (0:Int)) (0:Int) (0:Int)) ([]:(List Zab)) ([]:(List Zac))) false) (Zao.mk a0.fKind a0.fLock (Zan.mk (0:Int) (0:Int) (0:Int)) (0:Int) (0:Int) (Zae.mk (0:Int) (Zaa.mk (Zaf.mk (Zag.mk false (0:Int) (0:Int)) (0:Int)) false (0:Int) (Zah.mk (0:Int) (0:Int)) (0:Int) (0:Int)) ([]:(List Zab)) ([]:(List Zac))) a0.fMark) r hf)
      · exact ZaI Zak Post.ends 14 [rz,rB [(3,false)],rz,rz] [false,false] ⟨[],[(2,[(18,cL 5 Zab.c Zab.d []),(19,cL 7 Zac.c Zac.d [])]),(3,[(18,cL 5 Zab.c Zab.d []),(19,cL 7 Zac.c Zac.d [])])],[],[],[],[1,2,3],[1,2,3],[]⟩ (.c h1 (.c h2 (.c h3 .n))) (by kernel_rfl) (ZhK S0 w0    a0 (Zao.mk (0:Int) (0:Int) (Zan.mk (0:Int) (0:Int) (0:Int)) (0:Int) (0:Int) (Zae.mk (0:Int) (Zaa.mk (Zaf.mk (Zag.mk false (0:Int) (0:Int)) (0:Int)) false (0:Int) (Zah.mk (0:Int) (0:Int)) (0:Int) (0:Int)) ([]:(List Zab)) ([]:(List Zac))) false) (Zao.mk a0.fKind (0:Int) (Zan.mk (0:Int) (0:Int) (0:Int)) (0:Int) (0:Int) (Zae.mk (0:Int) (Zaa.mk (Zaf.mk (Zag.mk false (0:Int) (0:Int)) (0:Int)) false (0:Int) (Zah.mk (0:Int) (0:Int)) (0:Int) (0:Int)) ([]:(List Zab)) ([]:(List Zac))) a0.fMark) r hf)
def Zck (a0:Zad) (a1:Zao):Option (Zad × Zae) :=
  bif a0.fWait then
    some (a0,(Zae.mk (0:Int) (Zaa.mk (Zaf.mk (Zag.mk false (0:Int) (0:Int)) (0:Int)) false (0:Int) (Zah.mk (0:Int) (0:Int)) (0:Int) (0:Int)) ([]:(List Zab)) ([]:(List Zac))))
  else
    bif (decide (a0.fAt < ((a0.fGot.length:Nat):Int))) then
      need (0≤(Zja (ZaD a0.fAt (1:Int)) (1:Int))∧(Zja (ZaD a0.fAt (1:Int)) (1:Int)) < ((a0.fGot.length:Nat):Int)) <|
      some ((Zad.mk a0.fGot (ZaD a0.fAt (1:Int)) a0.fOp a0.fWait),(a0.fGot.getD (Zja (ZaD a0.fAt (1:Int)) (1:Int)).toNat Zae.d))
    else
      (ZeT a1).bind fun x1 =>
      some ((Zad.mk a0.fGot a0.fAt x1 true),(Zae.mk (0:Int) (Zaa.mk (Zaf.mk (Zag.mk false (0:Int) (0:Int)) (0:Int)) false (0:Int) (Zah.mk (0:Int) (0:Int)) (0:Int) (0:Int)) ([]:(List Zab)) ([]:(List Zac))))
theorem Zgf (a0:Zad) (a1:Zao) (r:(Zad × Zae)) (hf:Zck a0 a1 = some r):Zat Tryz.prog 117 [.agg (Zad.c a0),.agg (Zao.c a1)] (.tup [(true,Zad.c r.1),(true,Zae.c r.2)]):=by
  refine Zat.of Tryz.func117 rfl rfl rfl rfl fun S0 w0 =>?_
  unfold Zck at hf
  rcases Zaj hf with ⟨h1,hf⟩ | ⟨h1,hf⟩
  · obtain rfl:=oi hf
    exact Zai Zak 8 [rz,rz,rz] [true] [] [(5,[(11,cL 5 Zab.c Zab.d []),(12,cL 7 Zac.c Zac.d [])])] [] (.c h1 .n) (by kernel_rfl) rfl
  · rcases Zaj hf with ⟨h2,hf⟩ | ⟨h2,hf⟩
    · obtain ⟨o3,hf⟩:=Zas hf
      obtain rfl:=oi hf
      exact Zai Zak 15 [rz,rz,rz,rz,rz] [false,true] [] [] [] (.c h1 (.c h2 (.c o3 .n))) (by kernel_rfl) rfl
    · obtain ⟨x1,q4,hf⟩:=bind_some' hf
      obtain rfl:=oi hf
      exact Zai Zak 18 [rz,rz,rz,rA [(1,aG (Zao.c x1))],rz,rz] [false,false] [] [(5,[(11,cL 5 Zab.c Zab.d []),(12,cL 7 Zac.c Zac.d [])])] [] (.c h1 (.c h2 (.c (Zmd _ _ q4) .n))) (by kernel_rfl) rfl
def Zar (a0:Zad) (a1:Int) (a2:Int) (a3:Bool):Option Zad :=
  (Zck a0 (Zao.mk a1 a2 (Zan.mk (0:Int) (0:Int) (0:Int)) (0:Int) (0:Int) (Zae.mk (0:Int) (Zaa.mk (Zaf.mk (Zag.mk false (0:Int) (0:Int)) (0:Int)) false (0:Int) (Zah.mk (0:Int) (0:Int)) (0:Int) (0:Int)) ([]:(List Zab)) ([]:(List Zac))) a3)).bind fun x1 =>
  some x1.1
theorem Zau (a0:Zad) (a1:Int) (a2:Int) (a3:Bool) (r:Zad) (hf:Zar a0 a1 a2 a3 = some r):Zat Tryz.prog 48 [.agg (Zad.c a0),.one (.lit (.int .i64 a1)),.one (.lit (.int .i64 a2)),.one (.lit (.bool a3))] (.agg (Zad.c r)):=by
  refine Zat.of Tryz.func48 rfl rfl rfl rfl fun S0 w0 =>?_
  unfold Zar at hf
  obtain ⟨x1,q1,hf⟩:=bind_some' hf
  obtain rfl:=oi hf
  exact Zai Zak 6 [rz,⟨[(5,.r (.tup [(true,Zad.c x1.1),(true,Zae.c x1.2)]) [])],[],[],[],[(4,[(18,cL 5 Zab.c Zab.d []),(19,cL 7 Zac.c Zac.d [])])],[],[]⟩,rz] [] [] [] [] (.c (Zgf _ _ _ q1) .n) (by kernel_rfl) rfl
def ZcY (a0:Int) (a1:Int) (a2:Int) (v9:Int) (v10:Int) (v11:Int) (kg_doormanref07_Cut_c0:Int→Int→Int→Int→Option (Int × Int)) (v8:Int):Option (Int × Int) :=
  bif (decide ((ZaD v11 (64:Int)) < a2)) then
    need (v10 ≠ 0) <|
    bif ((Int.tmod (IntKind.wrap .u64 (Int.tdiv a1 v10)) (2:Int)) == (1:Int)) then
      kg_doormanref07_Cut_c0 v8 (IntKind.wrap .u64 (v9 + v10)) (IntKind.wrap .u64 (Int.tdiv v10 (2:Int))) (ZaD v11 (1:Int))
    else
      kg_doormanref07_Cut_c0 v8 v9 (IntKind.wrap .u64 (Int.tdiv v10 (2:Int))) (ZaD v11 (1:Int))
  else
    kg_doormanref07_Cut_c0 v8 v9 (IntKind.wrap .u64 (Int.tdiv v10 (2:Int))) (ZaD v11 (1:Int))
theorem ZgE (S0:Nat→Prop) (w0:Zbh) (a0:Int) (a1:Int) (a2:Int) (v9:Int) (v10:Int) (v11:Int) (kg_doormanref07_Cut_c0:Int→Int→Int→Int→Option (Int × Int)) (hg_doormanref07_Cut_c0 : ∀ (v8_:Int) (v9_:Int) (v10_:Int) (v11_:Int) (r:(Int × Int)),kg_doormanref07_Cut_c0 v8_ v9_ v10_ v11_ = some r→Good Tryz.prog 47 S0 w0 (bodyPost Tryz.prog Tryz.f357 (Post S0 w0 (.tup [(false,(cI .u64) r.1),(false,(cI .u64) r.2)]))) (at_ [1,1,1,0,1,0] (ZbM Tryz.f357)) ⟨[(0,.one (.lit (.int .u64 a0))),(1,.one (.lit (.int .u64 a1))),(2,.one (.lit (.int .i64 a2))),(8,.one (.lit (.int .u64 v8_))),(9,.one (.lit (.int .u64 v9_))),(10,.one (.lit (.int .u64 v10_))),(11,.one (.lit (.int .i64 v11_)))],[]⟩) (v8:Int) (r:(Int × Int)) (hf:ZcY a0 a1 a2 v9 v10 v11 kg_doormanref07_Cut_c0 v8 = some r):Good Tryz.prog 47 S0 w0 (bodyPost Tryz.prog Tryz.f357 (Post S0 w0 (.tup [(false,(cI .u64) r.1),(false,(cI .u64) r.2)]))) (at_ [1,1,1,0,1,0,0,1,0,0,1] (ZbM Tryz.f357)) ⟨[(0,.one (.lit (.int .u64 a0))),(1,.one (.lit (.int .u64 a1))),(2,.one (.lit (.int .i64 a2))),(8,.one (.lit (.int .u64 v8))),(9,.one (.lit (.int .u64 v9))),(10,.one (.lit (.int .u64 v10))),(11,.one (.lit (.int .i64 v11)))],[]⟩:=by
  unfold ZcY at hf
  rcases Zaj hf with ⟨h5,hf⟩ | ⟨h5,hf⟩
  · obtain ⟨o6,hf⟩:=Zas hf
    have O1:Obl _:=(.c h5 (.c o6 (.c (show (2:Int) ≠ 0 from (by decide)) .n)))
    rcases Zaj hf with ⟨h7,hf⟩ | ⟨h7,hf⟩
    · exact ZaI Zak Post.ends 9 [rB [(4,true)],rz,rz,rz] [true] ⟨[],[],[],[],[],[0,1,2,8,9,10,11],[],[]⟩ (O1.app (.c h7 (.c (show (2:Int) ≠ 0 from (by decide)) .n))) (by kernel_rfl) (hg_doormanref07_Cut_c0 v8 (IntKind.wrap .u64 (v9 + v10)) (IntKind.wrap .u64 (Int.tdiv v10 (2:Int))) (ZaD v11 (1:Int)) r hf)
    · exact ZaI Zak Post.ends 9 [rB [(4,true)],rz,rz] [false] ⟨[],[],[],[],[],[0,1,2,8,9,10,11],[],[]⟩ (O1.app (.c h7 (.c (show (2:Int) ≠ 0 from (by decide)) .n))) (by kernel_rfl) (hg_doormanref07_Cut_c0 v8 v9 (IntKind.wrap .u64 (Int.tdiv v10 (2:Int))) (ZaD v11 (1:Int)) r hf)
  · exact ZaI Zak Post.ends 9 [rB [(4,false)],rz,rz] [false] ⟨[],[],[],[],[],[0,1,2,8,9,10,11],[],[]⟩ (.c h5 (.c (show false = false from rfl) (.c (show (2:Int) ≠ 0 from (by decide)) .n))) (by kernel_rfl) (hg_doormanref07_Cut_c0 v8 v9 (IntKind.wrap .u64 (Int.tdiv v10 (2:Int))) (ZaD v11 (1:Int)) r hf)
def Zbo (a0:Int) (a1:Int) (a2:Int)  : Nat→Int→Int→Int→Int→Option (Int × Int)
  | 0,_,_,_,_ =>none
  | fu + 1,v8,v9,v10,v11 =>
    bif (decide (v11 < (64:Int))) then
      bif (decide (v11 < a2)) then
        need (v10 ≠ 0) <|
        bif ((Int.tmod (IntKind.wrap .u64 (Int.tdiv a0 v10)) (2:Int)) == (1:Int)) then
          ZcY a0 a1 a2 v9 v10 v11 (Zbo a0 a1 a2  fu) (IntKind.wrap .u64 (v8 + v10))
        else
          ZcY a0 a1 a2 v9 v10 v11 (Zbo a0 a1 a2  fu) v8
      else
        ZcY a0 a1 a2 v9 v10 v11 (Zbo a0 a1 a2  fu) v8
    else
      some (v8,v9)
theorem ZlH (S0:Nat→Prop) (w0:Zbh) (a0:Int) (a1:Int) (a2:Int)  : ∀ (fu:Nat) (v8:Int) (v9:Int) (v10:Int) (v11:Int) (r:(Int × Int)),Zbo a0 a1 a2  fu v8 v9 v10 v11 = some r→Good Tryz.prog 47 S0 w0 (bodyPost Tryz.prog Tryz.f357 (Post S0 w0 (.tup [(false,(cI .u64) r.1),(false,(cI .u64) r.2)]))) (at_ [1,1,1,0,1,0] (ZbM Tryz.f357)) ⟨[(0,.one (.lit (.int .u64 a0))),(1,.one (.lit (.int .u64 a1))),(2,.one (.lit (.int .i64 a2))),(8,.one (.lit (.int .u64 v8))),(9,.one (.lit (.int .u64 v9))),(10,.one (.lit (.int .u64 v10))),(11,.one (.lit (.int .i64 v11)))],[]⟩:=by
  intro fu
  induction fu with
  | zero =>
    intro v8 v9 v10 v11 r hf
    simp [Zbo] at hf
  | succ fu ih =>
    intro v8 v9 v10 v11 r hf
    unfold Zbo at hf
    rcases Zaj hf with ⟨h1,hf⟩ | ⟨h1,hf⟩
    · rcases Zaj hf with ⟨h2,hf⟩ | ⟨h2,hf⟩
      · obtain ⟨o3,hf⟩:=Zas hf
        have O2:Obl _:=(.c h1 (.c h2 (.c o3 (.c (show (2:Int) ≠ 0 from (by decide)) .n))))
        rcases Zaj hf with ⟨h4,hf⟩ | ⟨h4,hf⟩
        · exact ZaI Zak Post.ends 13 [rz,rB [(3,true)],rz] [true,true] ⟨[],[],[],[],[],[0,1,2,8,9,10,11],[],[]⟩ (O2.app (.c h4 .n)) (by kernel_rfl) (ZgE S0 w0 a0 a1 a2 v9 v10 v11 (Zbo a0 a1 a2  fu) ih (IntKind.wrap .u64 (v8 + v10)) r hf)
        · exact ZaI Zak Post.ends 13 [rz,rB [(3,true)]] [true,false] ⟨[],[],[],[],[],[0,1,2,8,9,10,11],[],[]⟩ (O2.app (.c h4 .n)) (by kernel_rfl) (ZgE S0 w0 a0 a1 a2 v9 v10 v11 (Zbo a0 a1 a2  fu) ih v8 r hf)
      · exact ZaI Zak Post.ends 13 [rz,rB [(3,false)]] [true,false] ⟨[],[],[],[],[],[0,1,2,8,9,10,11],[],[]⟩ (.c h1 (.c h2 (.c (show false = false from rfl) .n))) (by kernel_rfl) (ZgE S0 w0 a0 a1 a2 v9 v10 v11 (Zbo a0 a1 a2  fu) ih v8 r hf)
    · obtain rfl:=oi hf
      exact Zai Zak 8 [rz,rz] [false] [] [] [] (.c h1 .n) (by kernel_rfl) rfl
def Zdq (a0:Int) (a1:Int) (a2:Int):Option (Int × Int) :=
  Zbo a0 a1 a2  (((64:Int) - (0:Int)).toNat + 2) (0:Int) (0:Int) (9223372036854775808:Int) (0:Int)
theorem Zjz (a0:Int) (a1:Int) (a2:Int) (r:(Int × Int)) (hf:Zdq a0 a1 a2 = some r):Zat Tryz.prog 357 [.one (.lit (.int .u64 a0)),.one (.lit (.int .u64 a1)),.one (.lit (.int .i64 a2))] (.tup [(false,(cI .u64) r.1),(false,(cI .u64) r.2)]):=by
  refine Zat.of Tryz.func357 rfl rfl rfl rfl fun S0 w0 =>?_
  unfold Zdq at hf
  exact ZaI Zak Post.ends 10 [rz,rz,rz,rz] [] ⟨[],[],[],[],[],[0,1,2,8,9,10,11],[],[]⟩ .n (by kernel_rfl) (ZlH S0 w0 a0 a1 a2   (((64:Int) - (0:Int)).toNat + 2) (0:Int) (0:Int) (9223372036854775808:Int) (0:Int) r hf)
def Zen (b2:Zag) (b4:Zag)  (v1:Int):Option Zag :=
  bif b2.fV6 then
    (Zdq b2.fHi b2.fLo v1).bind fun x3 =>
    some (Zag.mk true x3.1 x3.2)
  else
    (Zdq (0:Int) b2.fLo (ZaD (96:Int) v1)).bind fun x4 =>
    some (Zag.mk false (0:Int) x4.2)
theorem ZhW (S0:Nat→Prop) (w0:Zbh) (b2:Zag) (b4:Zag)  (v1:Int) (r:Zag) (hf:Zen b2 b4  v1 = some r):Good Tryz.prog 45 S0 w0 (bodyPost Tryz.prog Tryz.f308 (Post S0 w0 (.agg (Zag.c r)))) (at_ [1,1,1,1] (ZbM Tryz.f308)) ⟨[(1,.one (.lit (.int .i64 v1))),(2,.one (.ptr 2 0)),(4,.one (.ptr 4 0))],[(2,.box [.lit (.bool b2.fV6),.lit (.int .u64 b2.fHi),.lit (.int .u64 b2.fLo)]),(4,.box [.lit (.bool b4.fV6),.lit (.int .u64 b4.fHi),.lit (.int .u64 b4.fLo)])]⟩:=by
  unfold Zen at hf
  rcases Zaj hf with ⟨h6,hf⟩ | ⟨h6,hf⟩
  · obtain ⟨x3,q7,hf⟩:=bind_some' hf
    obtain rfl:=oi hf
    exact Zai Zak 8 [rz,rA [(5,.r (.tup [(false,(cI .u64) x3.1),(false,(cI .u64) x3.2)]) [])],rz] [true] [] [] [] (.c h6 (.c (Zjz _ _ _ _ q7) .n)) (by kernel_rfl) rfl
  · obtain ⟨x4,q8,hf⟩:=bind_some' hf
    obtain rfl:=oi hf
    exact Zai Zak 9 [rz,rA [(4,.r (.tup [(false,(cI .u64) x4.1),(false,(cI .u64) x4.2)]) [])],rz] [false] [] [] [] (.c h6 (.c (Zjz _ _ _ _ q8) .n)) (by kernel_rfl) rfl
def Zeo   (v1:Int) (b2:Zag) (b4:Zag):Option Zag :=
  (ZbL b2).bind fun x2 =>
  bif (decide (v1 > x2)) then
    Zen b2 b4  x2
  else
    Zen b2 b4  v1
theorem ZhX (S0:Nat→Prop) (w0:Zbh)   (v1:Int) (b2:Zag) (b4:Zag) (r:Zag) (hf:Zeo   v1 b2 b4 = some r):Good Tryz.prog 45 S0 w0 (bodyPost Tryz.prog Tryz.f308 (Post S0 w0 (.agg (Zag.c r)))) (at_ [1,1,1] (ZbM Tryz.f308)) ⟨[(1,.one (.lit (.int .i64 v1))),(2,.one (.ptr 2 0)),(4,.one (.ptr 4 0))],[(2,.box [.lit (.bool b2.fV6),.lit (.int .u64 b2.fHi),.lit (.int .u64 b2.fLo)]),(4,.box [.lit (.bool b4.fV6),.lit (.int .u64 b4.fHi),.lit (.int .u64 b4.fLo)])]⟩:=by
  unfold Zeo at hf
  obtain ⟨x2,q4,hf⟩:=bind_some' hf
  rcases Zaj hf with ⟨h5,hf⟩ | ⟨h5,hf⟩
  · exact ZaI Zak Post.ends 5 [rA [(2,aI x2)],rA [(1,aI x2)]] [true] ⟨[],[],[],[],[],[1,2,4],[2,4],[]⟩ (.c (Zca _ _ q4) (.c h5 (.c (Zca _ _ q4) .n))) (by kernel_rfl) (ZhW S0 w0 b2 b4   x2 r hf)
  · exact ZaI Zak Post.ends 5 [rA [(2,aI x2)]] [false] ⟨[],[],[],[],[],[1,2,4],[2,4],[]⟩ (.c (Zca _ _ q4) (.c h5 .n)) (by kernel_rfl) (ZhW S0 w0 b2 b4   v1 r hf)
def ZgQ (a0:Zag) (a1:Int):Option Zag :=
  (ZbP a0).bind fun x1 =>
  bif (!x1) then
    some (Zag.mk false (0:Int) (0:Int))
  else
    bif (decide (a1 < (0:Int))) then
      Zeo   (0:Int) a0 (Zag.mk false (0:Int) (0:Int))
    else
      Zeo   a1 a0 (Zag.mk false (0:Int) (0:Int))
theorem ZmF (a0:Zag) (a1:Int) (r:Zag) (hf:ZgQ a0 a1 = some r):Zat Tryz.prog 308 [.agg (Zag.c a0),.one (.lit (.int .i64 a1))] (.agg (Zag.c r)):=by
  refine Zat.of Tryz.func308 rfl rfl rfl rfl fun S0 w0 =>?_
  unfold ZgQ at hf
  obtain ⟨x1,q1,hf⟩:=bind_some' hf
  rcases Zaj hf with ⟨h2,hf⟩ | ⟨h2,hf⟩
  · obtain rfl:=oi hf
    exact Zai Zak 8 [rz,rA [(1,aB x1)],rz] [true] [] [] [] (.c (ZbC _ _ q1) (.c h2 .n)) (by kernel_rfl) rfl
  · have O1:Obl _:=(.c (ZbC _ _ q1) (.c h2 .n))
    rcases Zaj hf with ⟨h3,hf⟩ | ⟨h3,hf⟩
    · exact ZaI Zak Post.ends 12 [rz,rA [(1,aB x1)],rz,rz] [false,true] ⟨[],[],[],[],[],[1,2,4],[2,4],[]⟩ (O1.app (.c h3 .n)) (by kernel_rfl) (ZhX S0 w0    (0:Int) a0 (Zag.mk false (0:Int) (0:Int)) r hf)
    · exact ZaI Zak Post.ends 12 [rz,rA [(1,aB x1)],rz] [false,false] ⟨[],[],[],[],[],[1,2,4],[2,4],[]⟩ (O1.app (.c h3 .n)) (by kernel_rfl) (ZhX S0 w0    a1 a0 (Zag.mk false (0:Int) (0:Int)) r hf)
def ZgR (a0:Zag) (a1:Int):Option (Zap × Bool) :=
  (ZbP a0).bind fun x1 =>
  bif (!x1) then
    some ((Zap.mk (Zag.mk false (0:Int) (0:Int)) (0:Int)),false)
  else
    bif (decide (a1 < (0:Int))) then
      some ((Zap.mk (Zag.mk false (0:Int) (0:Int)) (0:Int)),false)
    else
      (ZbL a0).bind fun x2 =>
      bif (decide (a1 > x2)) then
        some ((Zap.mk (Zag.mk false (0:Int) (0:Int)) (0:Int)),false)
      else
        (ZgQ a0 a1).bind fun x3 =>
        some ((Zap.mk x3 a1),true)
theorem ZmG (a0:Zag) (a1:Int) (r:(Zap × Bool)) (hf:ZgR a0 a1 = some r):Zat Tryz.prog 236 [.agg (Zag.c a0),.one (.lit (.int .i64 a1))] (.tup [(true,Zap.c r.1),(false,cB r.2)]):=by
  refine Zat.of Tryz.func236 rfl rfl rfl rfl fun S0 w0 =>?_
  unfold ZgR at hf
  obtain ⟨x1,q1,hf⟩:=bind_some' hf
  rcases Zaj hf with ⟨h2,hf⟩ | ⟨h2,hf⟩
  · obtain rfl:=oi hf
    exact Zai Zak 8 [rz,⟨[(1,aB x1)],[(3,true)],[],[],[],[],[]⟩,rz] [true] [] [] [] (.c (ZbC _ _ q1) (.c h2 (.c (show true = true from rfl) .n))) (by kernel_rfl) rfl
  · have O1:Obl _:=(.c (ZbC _ _ q1) (.c h2 .n))
    rcases Zaj hf with ⟨h3,hf⟩ | ⟨h3,hf⟩
    · obtain rfl:=oi hf
      exact Zai Zak 8 [rz,⟨[(1,aB x1)],[(3,false),(7,true)],[],[],[],[],[]⟩,rz] [true] [] [] [] (O1.app (.c h3 (.c (show true = true from rfl) .n))) (by kernel_rfl) rfl
    · obtain ⟨x2,q4,hf⟩:=bind_some' hf
      let R2:List RA:=[rz,⟨[(1,aB x1),(10,aI x2)],[(3,false),(7,false)],[],[],[],[],[]⟩]
      have O3:Obl _:=(O1.app (.c h3 (.c (Zca _ _ q4) .n)))
      rcases Zaj hf with ⟨h5,hf⟩ | ⟨h5,hf⟩
      · obtain rfl:=oi hf
        exact Zai Zak 8 (R2 ++ [rz]) [true] [] [] [] (O3.app (.c h5 .n)) (by kernel_rfl) rfl
      · obtain ⟨x3,q6,hf⟩:=bind_some' hf
        obtain rfl:=oi hf
        exact Zai Zak 9 (R2 ++ [rA [(2,aG (Zag.c x3))]]) [false] [] [] [] (O3.app (.c h5 (.c (ZmF _ _ _ q6) .n))) (by kernel_rfl) rfl
def ZdF (a0:Zag):Option Zap :=
  (ZbL a0).bind fun x1 =>
  (ZgR a0 x1).bind fun x2 =>
  some x2.1
theorem ZiZ (a0:Zag) (r:Zap) (hf:ZdF a0 = some r):Zat Tryz.prog 161 [.agg (Zag.c a0)] (.agg (Zap.c r)):=by
  refine Zat.of Tryz.func161 rfl rfl rfl rfl fun S0 w0 =>?_
  unfold ZdF at hf
  obtain ⟨x1,q1,hf⟩:=bind_some' hf
  obtain ⟨x2,q2,hf⟩:=bind_some' hf
  obtain rfl:=oi hf
  exact Zai Zak 6 [rz,rA [(2,aI x1),(3,.r (.tup [(true,Zap.c x2.1),(false,cB x2.2)]) [])],rz] [] [] [] [] (.c (Zca _ _ q1) (.c (ZmG _ _ _ q2) .n)) (by kernel_rfl) rfl
end Go.Proofs.YtdjfoojllbfcgaaGreat
