import Derived.Test.YtdjfoojllbfcgaaGreatQLevA1
namespace Go.Proofs.YtdjfoojllbfcgaaGreat
open Go.RowKit Go.Lib Go.Shelf
set_option linter.unusedVariables false
set_option maxRecDepth 100000
def ZdY (a0:Int):Option Int :=
  some (IntKind.wrap .u64 (((BitVec.ofInt (IntKind.bits .u64) (IntKind.wrap .u64 ((IntKind.wrap .u64 (((BitVec.ofInt (IntKind.bits .u64) (IntKind.wrap .u64 ((IntKind.wrap .u64 (((BitVec.ofInt (IntKind.bits .u64) a0) ^^^ (BitVec.ofInt (IntKind.bits .u64) (IntKind.wrap .u64 (Int.tdiv a0 (1073741824:Int))))).toNat:Int)) * (13787848793156543929:Int)))) ^^^ (BitVec.ofInt (IntKind.bits .u64) (IntKind.wrap .u64 (Int.tdiv (IntKind.wrap .u64 ((IntKind.wrap .u64 (((BitVec.ofInt (IntKind.bits .u64) a0) ^^^ (BitVec.ofInt (IntKind.bits .u64) (IntKind.wrap .u64 (Int.tdiv a0 (1073741824:Int))))).toNat:Int)) * (13787848793156543929:Int))) (134217728:Int))))).toNat:Int)) * (10723151780598845931:Int)))) ^^^ (BitVec.ofInt (IntKind.bits .u64) (IntKind.wrap .u64 (Int.tdiv (IntKind.wrap .u64 ((IntKind.wrap .u64 (((BitVec.ofInt (IntKind.bits .u64) (IntKind.wrap .u64 ((IntKind.wrap .u64 (((BitVec.ofInt (IntKind.bits .u64) a0) ^^^ (BitVec.ofInt (IntKind.bits .u64) (IntKind.wrap .u64 (Int.tdiv a0 (1073741824:Int))))).toNat:Int)) * (13787848793156543929:Int)))) ^^^ (BitVec.ofInt (IntKind.bits .u64) (IntKind.wrap .u64 (Int.tdiv (IntKind.wrap .u64 ((IntKind.wrap .u64 (((BitVec.ofInt (IntKind.bits .u64) a0) ^^^ (BitVec.ofInt (IntKind.bits .u64) (IntKind.wrap .u64 (Int.tdiv a0 (1073741824:Int))))).toNat:Int)) * (13787848793156543929:Int))) (134217728:Int))))).toNat:Int)) * (10723151780598845931:Int))) (2147483648:Int))))).toNat:Int))
theorem Zhu (a0:Int) (r:Int) (hf:ZdY a0 = some r):Zat Tryz.prog 309 [.one (.lit (.int .u64 a0))] (.one (.lit (.int .u64 r))):=by
  refine Zat.of Tryz.func309 rfl rfl rfl rfl fun S0 w0 =>?_
  unfold ZdY at hf
  obtain rfl:=oi hf
  exact Zai Zak 8 [rz,rz,rz,rz] [] [] [] [] (.c (show (1073741824:Int) ≠ 0 from (by decide)) (.c (show (134217728:Int) ≠ 0 from (by decide)) (.c (show (2147483648:Int) ≠ 0 from (by decide)) .n))) (by kernel_rfl) rfl
def Zdn (a1:(List Int))  : Nat→Int→Int→Option Int
  | 0,_,_ =>none
  | fu + 1,v5,v6 =>
    bif (decide (v6 < ((a1.length:Nat):Int))) then
      need (0≤v6∧v6 < ((a1.length:Nat):Int)) <|
      (ZdY (IntKind.wrap .u64 ((a1.getD v6.toNat (0:Int)) + (11400714819323198485:Int)))).bind fun x2 =>
      (ZdY (IntKind.wrap .u64 (((BitVec.ofInt (IntKind.bits .u64) (IntKind.wrap .u64 ((IntKind.wrap .u64 (v5 * (128:Int))) + (IntKind.wrap .u64 (Int.tdiv v5 (144115188075855872:Int)))))) ^^^ (BitVec.ofInt (IntKind.bits .u64) x2)).toNat:Int))).bind fun x3 =>
      Zdn a1  fu x3 (ZaD v6 (1:Int))
    else
      some v5
theorem Zml (S0:Nat→Prop) (w0:Zbh) (a1:(List Int))  : ∀ (fu:Nat) (v5:Int) (v6:Int) (r:Int),Zdn a1  fu v5 v6 = some r→Good Tryz.prog 30 S0 w0 (bodyPost Tryz.prog Tryz.f241 (Post S0 w0 (.one (.lit (.int .u64 r))))) (at_ [1,1,0,1,0] (ZbM Tryz.f241)) ⟨[(1,.one (cL 1 (cI .u64) (0:Int) a1)),(5,.one (.lit (.int .u64 v5))),(6,.one (.lit (.int .i64 v6)))],[]⟩:=by
  intro fu
  induction fu with
  | zero =>
    intro v5 v6 r hf
    simp [Zdn] at hf
  | succ fu ih =>
    intro v5 v6 r hf
    unfold Zdn at hf
    rcases Zaj hf with ⟨h2,hf⟩ | ⟨h2,hf⟩
    · obtain ⟨o3,hf⟩:=Zas hf
      obtain ⟨x2,q4,hf⟩:=bind_some' hf
      obtain ⟨x3,q5,hf⟩:=bind_some' hf
      exact ZaI Zak Post.ends 12 [rz,rA [(10,.r (.one (.lit (.int .u64 x2))) []),(12,.r (.one (.lit (.int .u64 x3))) [])],rz] [true] ⟨[],[],[],[],[],[1,5,6],[],[]⟩ (.c h2 (.c (show (144115188075855872:Int) ≠ 0 from (by decide)) (.c o3 (.c (Zhu _ _ q4) (.c (Zhu _ _ q5) .n))))) (by kernel_rfl) (ih x3 (ZaD v6 (1:Int)) r hf)
    · obtain rfl:=oi hf
      exact Zai Zak 8 [rz,rz] [false] [] [] [] (.c h2 .n) (by kernel_rfl) rfl
def Zft (a0:Int) (a1:(List Int)):Option Int :=
  (ZdY (IntKind.wrap .u64 (a0 + (11400714819323198485:Int)))).bind fun x1 =>
  Zdn a1  ((((a1.length:Nat):Int) - (0:Int)).toNat + 2) x1 (0:Int)
theorem ZjQ (a0:Int) (a1:(List Int)) (r:Int) (hf:Zft a0 a1 = some r):Zat Tryz.prog 241 [.one (.lit (.int .u64 a0)),.one (cL 1 (cI .u64) (0:Int) a1)] (.one (.lit (.int .u64 r))):=by
  refine Zat.of Tryz.func241 rfl rfl rfl rfl fun S0 w0 =>?_
  unfold Zft at hf
  obtain ⟨x1,q1,hf⟩:=bind_some' hf
  exact ZaI Zak Post.ends 8 [rz,rA [(2,.r (.one (.lit (.int .u64 x1))) [])],rz] [] ⟨[],[],[],[],[],[1,5,6],[],[]⟩ (.c (Zhu _ _ q1) .n) (by kernel_rfl) (Zml S0 w0 a1   ((((a1.length:Nat):Int) - (0:Int)).toNat + 2) x1 (0:Int) r hf)
def Zgl (a0:Int) (a1:Zap):Option Int :=
  bif a1.fAddr.fV6 then
    (Zft a0 ([(6:Int),a1.fAddr.fHi,a1.fAddr.fLo,(IntKind.wrap .u64 a1.fBits)]:List Int)).bind fun x1 =>
    some x1
  else
    (Zft a0 ([(4:Int),a1.fAddr.fHi,a1.fAddr.fLo,(IntKind.wrap .u64 a1.fBits)]:List Int)).bind fun x2 =>
    some x2
theorem Znk (a0:Int) (a1:Zap) (r:Int) (hf:Zgl a0 a1 = some r):Zat Tryz.prog 173 [.one (.lit (.int .u64 a0)),.agg (Zap.c a1)] (.one (.lit (.int .u64 r))):=by
  refine Zat.of Tryz.func173 rfl rfl rfl rfl fun S0 w0 =>?_
  unfold Zgl at hf
  rcases Zaj hf with ⟨h1,hf⟩ | ⟨h1,hf⟩
  · obtain ⟨x1,q2,hf⟩:=bind_some' hf
    obtain rfl:=oi hf
    exact Zai Zak 11 [rz,rz,rz,rz,⟨[(12,.r (.one (.lit (.int .u64 x1))) [])],[],[],[],[],[(11,(([(6:Int),a1.fAddr.fHi,a1.fAddr.fLo,(IntKind.wrap .u64 a1.fBits)]:List Int).length,Zaq (cI .u64) (0:Int) ([(6:Int),a1.fAddr.fHi,a1.fAddr.fLo,(IntKind.wrap .u64 a1.fBits)]:List Int)))],[]⟩] [true] [] [] [] (.c h1 (.c (show ([(6:Int),a1.fAddr.fHi,a1.fAddr.fLo,(IntKind.wrap .u64 a1.fBits)]:List Int).length = 4∧∀ i j,i < 4→j < 1→Zaq (cI .u64) (0:Int) ([(6:Int),a1.fAddr.fHi,a1.fAddr.fLo,(IntKind.wrap .u64 a1.fBits)]:List Int) i j = (([(6:Int),a1.fAddr.fHi,a1.fAddr.fLo,(IntKind.wrap .u64 a1.fBits)]:List Int).flatMap (cI .u64)).getD (i * 1 + j) .junk from ⟨rfl,fun i j hi hj =>ZaS (sz:=1) (e:=(cI .u64)) (d:=(0:Int)) (fun _ =>rfl) ([(6:Int),a1.fAddr.fHi,a1.fAddr.fLo,(IntKind.wrap .u64 a1.fBits)]:List Int) i j hi hj⟩) (.c (ZjQ _ _ _ q2) .n))) (by kernel_rfl) rfl
  · obtain ⟨x2,q3,hf⟩:=bind_some' hf
    obtain rfl:=oi hf
    exact Zai Zak 11 [rz,rz,rz,⟨[(12,.r (.one (.lit (.int .u64 x2))) [])],[],[],[],[],[(11,(([(4:Int),a1.fAddr.fHi,a1.fAddr.fLo,(IntKind.wrap .u64 a1.fBits)]:List Int).length,Zaq (cI .u64) (0:Int) ([(4:Int),a1.fAddr.fHi,a1.fAddr.fLo,(IntKind.wrap .u64 a1.fBits)]:List Int)))],[]⟩] [false] [] [] [] (.c h1 (.c (show ([(4:Int),a1.fAddr.fHi,a1.fAddr.fLo,(IntKind.wrap .u64 a1.fBits)]:List Int).length = 4∧∀ i j,i < 4→j < 1→Zaq (cI .u64) (0:Int) ([(4:Int),a1.fAddr.fHi,a1.fAddr.fLo,(IntKind.wrap .u64 a1.fBits)]:List Int) i j = (([(4:Int),a1.fAddr.fHi,a1.fAddr.fLo,(IntKind.wrap .u64 a1.fBits)]:List Int).flatMap (cI .u64)).getD (i * 1 + j) .junk from ⟨rfl,fun i j hi hj =>ZaS (sz:=1) (e:=(cI .u64)) (d:=(0:Int)) (fun _ =>rfl) ([(4:Int),a1.fAddr.fHi,a1.fAddr.fLo,(IntKind.wrap .u64 a1.fBits)]:List Int) i j hi hj⟩) (.c (ZjQ _ _ _ q3) .n))) (by kernel_rfl) rfl
def ZeW (a0:Int):Option Int :=
  bif (decide (a0 < (1:Int))) then
    some (1:Int)
  else
    bif (decide (a0 > (8:Int))) then
      some (8:Int)
    else
      some a0
theorem Zmg (a0:Int) (r:Int) (hf:ZeW a0 = some r):Zat Tryz.prog 132 [.one (.lit (.int .i64 a0))] (.one (.lit (.int .i64 r))):=by
  refine Zat.of Tryz.func132 rfl rfl rfl rfl fun S0 w0 =>?_
  unfold ZeW at hf
  rcases Zaj hf with ⟨h1,hf⟩ | ⟨h1,hf⟩
  · obtain rfl:=oi hf
    exact Zai Zak 8 [rz,rz,rz] [true] [] [] [] (.c h1 .n) (by kernel_rfl) rfl
  · rcases Zaj hf with ⟨h2,hf⟩ | ⟨h2,hf⟩
    · obtain rfl:=oi hf
      exact Zai Zak 13 [rz,rz,rz,rz] [false,true] [] [] [] (.c h1 (.c h2 .n)) (by kernel_rfl) rfl
    · obtain rfl:=oi hf
      exact Zai Zak 14 [rz,rz,rz,rz] [false,false] [] [] [] (.c h1 (.c h2 .n)) (by kernel_rfl) rfl
def Zfb (a0:Int) (a1:Int):Option Int :=
  bif (decide (a1 < (1:Int))) then
    some (0:Int)
  else
    bif (decide (a1 > (2147483648:Int))) then
      some (0:Int)
    else
      some (IntKind.wrap .i64 (IntKind.wrap .u64 (Int.tdiv (IntKind.wrap .u64 ((IntKind.wrap .u64 (Int.tdiv a0 (4294967296:Int))) * (IntKind.wrap .u64 a1))) (4294967296:Int))))
theorem Zmm (a0:Int) (a1:Int) (r:Int) (hf:Zfb a0 a1 = some r):Zat Tryz.prog 172 [.one (.lit (.int .u64 a0)),.one (.lit (.int .i64 a1))] (.one (.lit (.int .i64 r))):=by
  refine Zat.of Tryz.func172 rfl rfl rfl rfl fun S0 w0 =>?_
  unfold Zfb at hf
  rcases Zaj hf with ⟨h1,hf⟩ | ⟨h1,hf⟩
  · obtain rfl:=oi hf
    exact Zai Zak 8 [rz,rB [(2,true)],rz] [true] [] [] [] (.c h1 (.c (show true = true from rfl) .n)) (by kernel_rfl) rfl
  · rcases Zaj hf with ⟨h2,hf⟩ | ⟨h2,hf⟩
    · obtain rfl:=oi hf
      exact Zai Zak 8 [rz,rB [(2,false)],rz] [true] [] [] [] (.c h1 (.c h2 .n)) (by kernel_rfl) rfl
    · obtain rfl:=oi hf
      exact Zai Zak 9 [rz,rB [(2,false)],rz] [false] [] [] [] (.c h1 (.c h2 (.c (show (4294967296:Int) ≠ 0 from (by decide)) (.c (show (4294967296:Int) ≠ 0 from (by decide)) .n)))) (by kernel_rfl) rfl
def Zfs (a0:Zag) (a1:Int) (a2:Int):Option Int :=
  (ZdF a0).bind fun x1 =>
  (Zgl a1 x1).bind fun x2 =>
  (ZeW a2).bind fun x3 =>
  (Zfb x2 x3).bind fun x4 =>
  some x4
theorem ZnQ (a0:Zag) (a1:Int) (a2:Int) (r:Int) (hf:Zfs a0 a1 a2 = some r):Zat Tryz.prog 93 [.agg (Zag.c a0),.one (.lit (.int .u64 a1)),.one (.lit (.int .i64 a2))] (.one (.lit (.int .i64 r))):=by
  refine Zat.of Tryz.func93 rfl rfl rfl rfl fun S0 w0 =>?_
  unfold Zfs at hf
  obtain ⟨x1,q1,hf⟩:=bind_some' hf
  obtain ⟨x2,q2,hf⟩:=bind_some' hf
  obtain ⟨x3,q3,hf⟩:=bind_some' hf
  obtain ⟨x4,q4,hf⟩:=bind_some' hf
  obtain rfl:=oi hf
  exact Zai Zak 4 [rz,rA [(2,aG (Zap.c x1)),(3,.r (.one (.lit (.int .u64 x2))) []),(5,aI x3),(6,aI x4)]] [] [] [] [] (.c (ZiZ _ _ q1) (.c (Znk _ _ _ q2) (.c (Zmg _ _ q3) (.c (Zmm _ _ _ q4) .n)))) (by kernel_rfl) rfl
def ZcF (a0:Zaz) (a1:Zaw):Option Int :=
  (Zfs a1.fEnd.fAddr a0.fSecret a0.fShards).bind fun x1 =>
  some x1
theorem ZfG (a0:Zaz) (a1:Zaw) (r:Int) (hf:ZcF a0 a1 = some r):Zat Tryz.prog 49 [.agg (Zaz.c a0),.agg (Zaw.c a1)] (.one (.lit (.int .i64 r))):=by
  refine Zat.of Tryz.func49 rfl rfl rfl rfl fun S0 w0 =>?_
  unfold ZcF at hf
  obtain ⟨x1,q1,hf⟩:=bind_some' hf
  obtain rfl:=oi hf
  exact Zai Zak 4 [rz,rA [(7,aI x1)]] [] [] [] [] (.c (ZnQ _ _ _ _ q1) .n) (by kernel_rfl) rfl
def Zbq (a0:Zad) (a1:Zan):Option (Zad × Zae) :=
  (Zck a0 (Zao.mk (5:Int) (0:Int) a1 (0:Int) (0:Int) (Zae.mk (0:Int) (Zaa.mk (Zaf.mk (Zag.mk false (0:Int) (0:Int)) (0:Int)) false (0:Int) (Zah.mk (0:Int) (0:Int)) (0:Int) (0:Int)) ([]:(List Zab)) ([]:(List Zac))) false)).bind fun x1 =>
  some (x1.1,x1.2)
theorem Zem (a0:Zad) (a1:Zan) (r:(Zad × Zae)) (hf:Zbq a0 a1 = some r):Zat Tryz.prog 91 [.agg (Zad.c a0),.agg (Zan.c a1)] (.tup [(true,Zad.c r.1),(true,Zae.c r.2)]):=by
  refine Zat.of Tryz.func91 rfl rfl rfl rfl fun S0 w0 =>?_
  unfold Zbq at hf
  obtain ⟨x1,q1,hf⟩:=bind_some' hf
  obtain rfl:=oi hf
  exact Zai Zak 4 [rz,⟨[(3,.r (.tup [(true,Zad.c x1.1),(true,Zae.c x1.2)]) [])],[],[],[],[(2,[(18,cL 5 Zab.c Zab.d []),(19,cL 7 Zac.c Zac.d [])])],[],[]⟩] [] [] [] [] (.c (Zgf _ _ _ q1) .n) (by kernel_rfl) rfl
def ZbH (a1:Int)  : Nat→Int→(List Zaa)→Zad→Zad→Zae→Option (Zad × (List Zaa))
  | 0,_,_,_,_,_ =>none
  | fu + 1,v9,w8,b4,b6,b7 =>
    bif (decide (v9 < b7.fN)) then
      bif (!b6.fWait) then
        (Zbq b6 (Zan.mk (6:Int) a1 v9)).bind fun x2 =>
        need ((w8 ++ ([x2.2.fPeer]:List Zaa)).length * 80≤140737488355328∧(w8 ++ ([x2.2.fPeer]:List Zaa)).length≤maxLen) <|
        ZbH a1  fu (ZaD v9 (1:Int)) (w8 ++ ([x2.2.fPeer]:List Zaa)) b4 x2.1 b7
      else
        some (b6,w8)
    else
      some (b6,w8)
theorem Zlc (S0:Nat→Prop) (w0:Zbh) (a1:Int)  : ∀ (fu:Nat) (v9:Int) (w8:(List Zaa)) (b4:Zad) (b6:Zad) (b7:Zae) (r:(Zad × (List Zaa))),ZbH a1  fu v9 w8 b4 b6 b7 = some r→Good Tryz.prog 47 S0 w0 (bodyPost Tryz.prog Tryz.f94 (Post S0 w0 (.tup [(true,Zad.c r.1),(false,(cLs 10 Zaa.c Zaa.d) r.2)]))) (at_ [1,1,1,0,1,0] (ZbM Tryz.f94)) ⟨[(1,.one (.lit (.int .i64 a1))),(4,.one (.ptr 4 0)),(6,.one (.ptr 6 0)),(7,.one (.ptr 7 0)),(8,.one (.osl 8 w8.length)),(9,.one (.lit (.int .i64 v9)))],[(8,.rows 44 10 w8.length (Zaq Zaa.c Zaa.d w8)),(4,.box [cL 13 Zae.c Zae.d b4.fGot,.lit (.int .i64 b4.fAt),.lit (.int .i64 b4.fOp.fKind),.lit (.int .i64 b4.fOp.fLock),.lit (.int .i64 b4.fOp.fLoc.fKind),.lit (.int .i64 b4.fOp.fLoc.fShard),.lit (.int .i64 b4.fOp.fLoc.fSlot),.lit (.int .i64 b4.fOp.fOld),.lit (.int .i64 b4.fOp.fNew),.lit (.int .i64 b4.fOp.fVal.fN),.lit (.bool b4.fOp.fVal.fPeer.fEnd.fAddr.fV6),.lit (.int .u64 b4.fOp.fVal.fPeer.fEnd.fAddr.fHi),.lit (.int .u64 b4.fOp.fVal.fPeer.fEnd.fAddr.fLo),.lit (.int .i64 b4.fOp.fVal.fPeer.fEnd.fPort),.lit (.bool b4.fOp.fVal.fPeer.fIn),.lit (.int .i64 b4.fOp.fVal.fPeer.fSince),.lit (.int .i64 b4.fOp.fVal.fPeer.fScore.fPoints),.lit (.int .i64 b4.fOp.fVal.fPeer.fScore.fAt),.lit (.int .i64 b4.fOp.fVal.fPeer.fPing),.lit (.int .i64 b4.fOp.fVal.fPeer.fWork),cL 5 Zab.c Zab.d b4.fOp.fVal.fBans,cL 7 Zac.c Zac.d b4.fOp.fVal.fBook,.lit (.bool b4.fOp.fMark),.lit (.bool b4.fWait)]),(6,.box [cL 13 Zae.c Zae.d b6.fGot,.lit (.int .i64 b6.fAt),.lit (.int .i64 b6.fOp.fKind),.lit (.int .i64 b6.fOp.fLock),.lit (.int .i64 b6.fOp.fLoc.fKind),.lit (.int .i64 b6.fOp.fLoc.fShard),.lit (.int .i64 b6.fOp.fLoc.fSlot),.lit (.int .i64 b6.fOp.fOld),.lit (.int .i64 b6.fOp.fNew),.lit (.int .i64 b6.fOp.fVal.fN),.lit (.bool b6.fOp.fVal.fPeer.fEnd.fAddr.fV6),.lit (.int .u64 b6.fOp.fVal.fPeer.fEnd.fAddr.fHi),.lit (.int .u64 b6.fOp.fVal.fPeer.fEnd.fAddr.fLo),.lit (.int .i64 b6.fOp.fVal.fPeer.fEnd.fPort),.lit (.bool b6.fOp.fVal.fPeer.fIn),.lit (.int .i64 b6.fOp.fVal.fPeer.fSince),.lit (.int .i64 b6.fOp.fVal.fPeer.fScore.fPoints),.lit (.int .i64 b6.fOp.fVal.fPeer.fScore.fAt),.lit (.int .i64 b6.fOp.fVal.fPeer.fPing),.lit (.int .i64 b6.fOp.fVal.fPeer.fWork),cL 5 Zab.c Zab.d b6.fOp.fVal.fBans,cL 7 Zac.c Zac.d b6.fOp.fVal.fBook,.lit (.bool b6.fOp.fMark),.lit (.bool b6.fWait)]),(7,.box [.lit (.int .i64 b7.fN),.lit (.bool b7.fPeer.fEnd.fAddr.fV6),.lit (.int .u64 b7.fPeer.fEnd.fAddr.fHi),.lit (.int .u64 b7.fPeer.fEnd.fAddr.fLo),.lit (.int .i64 b7.fPeer.fEnd.fPort),.lit (.bool b7.fPeer.fIn),.lit (.int .i64 b7.fPeer.fSince),.lit (.int .i64 b7.fPeer.fScore.fPoints),.lit (.int .i64 b7.fPeer.fScore.fAt),.lit (.int .i64 b7.fPeer.fPing),.lit (.int .i64 b7.fPeer.fWork),cL 5 Zab.c Zab.d b7.fBans,cL 7 Zac.c Zac.d b7.fBook])]⟩:=by
  intro fu
  induction fu with
  | zero =>
    intro v9 w8 b4 b6 b7 r hf
    simp [ZbH] at hf
  | succ fu ih =>
    intro v9 w8 b4 b6 b7 r hf
    unfold ZbH at hf
    rcases Zaj hf with ⟨h2,hf⟩ | ⟨h2,hf⟩
    · rcases Zaj hf with ⟨h3,hf⟩ | ⟨h3,hf⟩
      · obtain ⟨x2,q4,hf⟩:=bind_some' hf
        obtain ⟨o5,hf⟩:=Zas hf
        exact ZaI Zak Post.ends 16 [rB [(4,true)],rA [(4,.r (.tup [(true,Zad.c x2.1),(true,Zae.c x2.2)]) [])],rz,⟨[(4,.c ((w8 ++ ([x2.2.fPeer]:List Zaa)).length) (Zaq Zaa.c Zaa.d (w8 ++ ([x2.2.fPeer]:List Zaa))))],[],[],[],[],[(3,(([x2.2.fPeer]:List Zaa).length,Zaq Zaa.c Zaa.d ([x2.2.fPeer]:List Zaa)))],[]⟩,rz] [true] ⟨[],[],[],[],[],[1,4,6,7,8,9],[44,4,6,7],[(44,8)]⟩ (.c h2 (.c h3 (.c (Zem _ _ _ q4) (.c (show ([x2.2.fPeer]:List Zaa).length = 1∧∀ i j,i < 1→j < 10→Zaq Zaa.c Zaa.d ([x2.2.fPeer]:List Zaa) i j = (([x2.2.fPeer]:List Zaa).flatMap Zaa.c).getD (i * 10 + j) .junk from ⟨rfl,fun i j hi hj =>ZaS (sz:=10) (e:=Zaa.c) (d:=Zaa.d) (fun _ =>rfl) ([x2.2.fPeer]:List Zaa) i j hi hj⟩) (.c (ZfF (sz:=10) (e:=Zaa.c) (d:=Zaa.d) w8 ([x2.2.fPeer]:List Zaa)) (.c o5.1 (.c o5.2 .n))))))) (by kernel_rfl) (ih (ZaD v9 (1:Int)) (w8 ++ ([x2.2.fPeer]:List Zaa)) b4 x2.1 b7 r hf)
      · obtain rfl:=oi hf
        exact Zai Zak 8 [rB [(4,true)],rz] [false] [8] [] [] (.c h2 (.c h3 .n)) (by kernel_rfl) rfl
    · obtain rfl:=oi hf
      exact Zai Zak 8 [rB [(4,false)],rz] [false] [8] [] [] (.c h2 (.c (show false = false from rfl) .n)) (by kernel_rfl) rfl
def ZcW (a0:Zad) (a1:Int):Option (Zad × (List Zaa)) :=
  (Zbq a0 (Zan.mk (5:Int) a1 (0:Int))).bind fun x1 =>
  ZbH a1  1000000 (0:Int) ([]:List Zaa) (Zad.mk ([]:(List Zae)) (0:Int) (Zao.mk (0:Int) (0:Int) (Zan.mk (0:Int) (0:Int) (0:Int)) (0:Int) (0:Int) (Zae.mk (0:Int) (Zaa.mk (Zaf.mk (Zag.mk false (0:Int) (0:Int)) (0:Int)) false (0:Int) (Zah.mk (0:Int) (0:Int)) (0:Int) (0:Int)) ([]:(List Zab)) ([]:(List Zac))) false) false) x1.1 x1.2
theorem ZmD (a0:Zad) (a1:Int) (r:(Zad × (List Zaa))) (hf:ZcW a0 a1 = some r):Zat Tryz.prog 94 [.agg (Zad.c a0),.one (.lit (.int .i64 a1))] (.tup [(true,Zad.c r.1),(false,(cLs 10 Zaa.c Zaa.d) r.2)]):=by
  refine Zat.of Tryz.func94 rfl rfl rfl rfl fun S0 w0 =>?_
  unfold ZcW at hf
  obtain ⟨x1,q1,hf⟩:=bind_some' hf
  exact ZaI Zak Post.ends 10 [rz,rA [(3,.r (.tup [(true,Zad.c x1.1),(true,Zae.c x1.2)]) [])],rA [(0,.c ([]:List Zaa).length (Zaq Zaa.c Zaa.d ([]:List Zaa)))],rz] [] ⟨[],[(4,[(0,cL 13 Zae.c Zae.d []),(20,cL 5 Zab.c Zab.d []),(21,cL 7 Zac.c Zac.d [])])],[],[],[],[1,4,6,7,8,9],[19,4,6,7],[(19,8)]⟩ (.c (Zem _ _ _ q1) (.c (show ([]:List Zaa).length = 0 from rfl) (.c (show ∀ i j,i < 0→j < 10→Zaq Zaa.c Zaa.d ([]:List Zaa) i j = (([]:List Zaa).flatMap Zaa.c).getD (i * 10 + j) .junk from (fun i j hi hj =>ZaS (sz:=10) (e:=Zaa.c) (d:=Zaa.d) (fun _ =>rfl) ([]:List Zaa) i j hi hj)) .n))) (by kernel_rfl) (Zlc S0 w0 a1   1000000 (0:Int) ([]:List Zaa) (Zad.mk ([]:(List Zae)) (0:Int) (Zao.mk (0:Int) (0:Int) (Zan.mk (0:Int) (0:Int) (0:Int)) (0:Int) (0:Int) (Zae.mk (0:Int) (Zaa.mk (Zaf.mk (Zag.mk false (0:Int) (0:Int)) (0:Int)) false (0:Int) (Zah.mk (0:Int) (0:Int)) (0:Int) (0:Int)) ([]:(List Zab)) ([]:(List Zac))) false) false) x1.1 x1.2 r hf)
def Zbp (a0:Zad) (a1:Int):Option (Zad × (List Zaa)) :=
  (Zar a0 (1:Int) (ZaD (2:Int) a1) false).bind fun x1 =>
  (ZcW x1 a1).bind fun x2 =>
  some (x2.1,x2.2)
theorem Zds (a0:Zad) (a1:Int) (r:(Zad × (List Zaa))) (hf:Zbp a0 a1 = some r):Zat Tryz.prog 50 [.agg (Zad.c a0),.one (.lit (.int .i64 a1))] (.tup [(true,Zad.c r.1),(false,(cLs 10 Zaa.c Zaa.d) r.2)]):=by
  refine Zat.of Tryz.func50 rfl rfl rfl rfl fun S0 w0 =>?_
  unfold Zbp at hf
  obtain ⟨x1,q1,hf⟩:=bind_some' hf
  obtain ⟨x2,q2,hf⟩:=bind_some' hf
  obtain rfl:=oi hf
  exact Zai Zak 4 [rz,rA [(3,aG (Zad.c x1)),(5,.r (.tup [(true,Zad.c x2.1),(false,(cLs 10 Zaa.c Zaa.d) x2.2)]) [])]] [] [] [] [] (.c (Zau _ _ _ _ _ q1) (.c (ZmD _ _ _ q2) .n)) (by kernel_rfl) rfl
def Zcm (a0:(List Zaa))  : Nat→Int→Zaf→Option Int
  | 0,_,_ =>none
  | fu + 1,v5,b3 =>
    bif (decide (v5 < ((a0.length:Nat):Int))) then
      need (0≤v5∧v5 < ((a0.length:Nat):Int)) <|
      bif (decide ((a0.getD v5.toNat Zaa.d).fEnd = b3)) then
        some v5
      else
        Zcm a0  fu (ZaD v5 (1:Int)) b3
    else
      some (-1:Int)
theorem ZkH (S0:Nat→Prop) (w0:Zbh) (a0:(List Zaa))  : ∀ (fu:Nat) (v5:Int) (b3:Zaf) (r:Int),Zcm a0  fu v5 b3 = some r→Good Tryz.prog 20 S0 w0 (bodyPost Tryz.prog Tryz.f51 (Post S0 w0 (.one (.lit (.int .i64 r))))) (at_ [1,0,1,0] (ZbM Tryz.f51)) ⟨[(0,.one (cL 10 Zaa.c Zaa.d a0)),(3,.one (.ptr 3 0)),(5,.one (.lit (.int .i64 v5)))],[(3,.box [.lit (.bool b3.fAddr.fV6),.lit (.int .u64 b3.fAddr.fHi),.lit (.int .u64 b3.fAddr.fLo),.lit (.int .i64 b3.fPort)])]⟩:=by
  intro fu
  induction fu with
  | zero =>
    intro v5 b3 r hf
    simp [Zcm] at hf
  | succ fu ih =>
    intro v5 b3 r hf
    unfold Zcm at hf
    rcases Zaj hf with ⟨h1,hf⟩ | ⟨h1,hf⟩
    · obtain ⟨o2,hf⟩:=Zas hf
      let R1:List RA:=[rz,rA [(6,aB (decide ((a0.getD v5.toNat Zaa.d).fEnd = b3)))],rz]
      have O2:Obl _:=(.c h1 (.c o2 (.c (ZhF ((a0.getD v5.toNat Zaa.d).fEnd) b3 (.tmp 16) (.tmp 17)) .n)))
      rcases Zaj hf with ⟨h3,hf⟩ | ⟨h3,hf⟩
      · obtain rfl:=oi hf
        exact Zai Zak 13 R1 [true,true] [] [] [] (O2.app (.c h3 .n)) (by kernel_rfl) rfl
      · exact ZaI Zak Post.ends 15 R1 [true,false] ⟨[],[],[],[],[],[0,3,5],[3],[]⟩ (O2.app (.c h3 .n)) (by kernel_rfl) (ih (ZaD v5 (1:Int)) b3 r hf)
    · obtain rfl:=oi hf
      exact Zai Zak 8 [rz,rz] [false] [] [] [] (.c h1 .n) (by kernel_rfl) rfl
def ZbN (a0:(List Zaa)) (a1:Zaf):Option Int :=
  Zcm a0  ((((a0.length:Nat):Int) - (0:Int)).toNat + 2) (0:Int) a1
theorem Zdg (a0:(List Zaa)) (a1:Zaf) (r:Int) (hf:ZbN a0 a1 = some r):Zat Tryz.prog 51 [.one (cL 10 Zaa.c Zaa.d a0),.agg (Zaf.c a1)] (.one (.lit (.int .i64 r))):=by
  refine Zat.of Tryz.func51 rfl rfl rfl rfl fun S0 w0 =>?_
  unfold ZbN at hf
  exact ZaI Zak Post.ends 6 [rz,rz] [] ⟨[],[],[],[],[],[0,3,5],[3],[]⟩ .n (by kernel_rfl) (ZkH S0 w0 a0   ((((a0.length:Nat):Int) - (0:Int)).toNat + 2) (0:Int) a1 r hf)
def ZcC (a0:(List Zaf))  : Nat→Int→Zaf→Option Bool
  | 0,_,_ =>none
  | fu + 1,v5,b3 =>
    bif (decide (v5 < ((a0.length:Nat):Int))) then
      need (0≤v5∧v5 < ((a0.length:Nat):Int)) <|
      bif (decide ((a0.getD v5.toNat Zaf.d) = b3)) then
        some true
      else
        ZcC a0  fu (ZaD v5 (1:Int)) b3
    else
      some false
theorem ZlB (S0:Nat→Prop) (w0:Zbh) (a0:(List Zaf))  : ∀ (fu:Nat) (v5:Int) (b3:Zaf) (r:Bool),ZcC a0  fu v5 b3 = some r→Good Tryz.prog 18 S0 w0 (bodyPost Tryz.prog Tryz.f208 (Post S0 w0 (.one (.lit (.bool r))))) (at_ [1,0,1,0] (ZbM Tryz.f208)) ⟨[(0,.one (cL 4 Zaf.c Zaf.d a0)),(3,.one (.ptr 3 0)),(5,.one (.lit (.int .i64 v5)))],[(3,.box [.lit (.bool b3.fAddr.fV6),.lit (.int .u64 b3.fAddr.fHi),.lit (.int .u64 b3.fAddr.fLo),.lit (.int .i64 b3.fPort)])]⟩:=by
  intro fu
  induction fu with
  | zero =>
    intro v5 b3 r hf
    simp [ZcC] at hf
  | succ fu ih =>
    intro v5 b3 r hf
    unfold ZcC at hf
    rcases Zaj hf with ⟨h1,hf⟩ | ⟨h1,hf⟩
    · obtain ⟨o2,hf⟩:=Zas hf
      let R1:List RA:=[rz,rA [(5,aB (decide ((a0.getD v5.toNat Zaf.d) = b3)))],rz]
      have O2:Obl _:=(.c h1 (.c o2 (.c (ZhF (a0.getD v5.toNat Zaf.d) b3 (.tmp 15) (.tmp 16)) .n)))
      rcases Zaj hf with ⟨h3,hf⟩ | ⟨h3,hf⟩
      · obtain rfl:=oi hf
        exact Zai Zak 13 R1 [true,true] [] [] [] (O2.app (.c h3 .n)) (by kernel_rfl) rfl
      · exact ZaI Zak Post.ends 15 R1 [true,false] ⟨[],[],[],[],[],[0,3,5],[3],[]⟩ (O2.app (.c h3 .n)) (by kernel_rfl) (ih (ZaD v5 (1:Int)) b3 r hf)
    · obtain rfl:=oi hf
      exact Zai Zak 8 [rz,rz] [false] [] [] [] (.c h1 .n) (by kernel_rfl) rfl
def Zgh (a0:(List Zaf)) (a1:Zaf):Option Bool :=
  ZcC a0  ((((a0.length:Nat):Int) - (0:Int)).toNat + 2) (0:Int) a1
theorem Znf (a0:(List Zaf)) (a1:Zaf) (r:Bool) (hf:Zgh a0 a1 = some r):Zat Tryz.prog 208 [.one (cL 4 Zaf.c Zaf.d a0),.agg (Zaf.c a1)] (.one (.lit (.bool r))):=by
  refine Zat.of Tryz.func208 rfl rfl rfl rfl fun S0 w0 =>?_
  unfold Zgh at hf
  exact ZaI Zak Post.ends 6 [rz,rz] [] ⟨[],[],[],[],[],[0,3,5],[3],[]⟩ .n (by kernel_rfl) (ZlB S0 w0 a0   ((((a0.length:Nat):Int) - (0:Int)).toNat + 2) (0:Int) a1 r hf)
def Zcu (a0:(List Zaa)) (a1:(List Zaf))  : Nat→Int→(List Zaa)→Option (List Zaa)
  | 0,_,_ =>none
  | fu + 1,v6,w5 =>
    bif (decide (v6 < ((a0.length:Nat):Int))) then
      need (0≤v6∧v6 < ((a0.length:Nat):Int)) <|
      (Zgh a1 ((a0.getD v6.toNat Zaa.d).fEnd)).bind fun x1 =>
      bif (!x1) then
        need ((w5 ++ ([(a0.getD v6.toNat Zaa.d)]:List Zaa)).length * 80≤140737488355328∧(w5 ++ ([(a0.getD v6.toNat Zaa.d)]:List Zaa)).length≤maxLen) <|
        Zcu a0 a1  fu (ZaD v6 (1:Int)) (w5 ++ ([(a0.getD v6.toNat Zaa.d)]:List Zaa))
      else
        Zcu a0 a1  fu (ZaD v6 (1:Int)) w5
    else
      some w5
theorem Zlf (S0:Nat→Prop) (w0:Zbh) (a0:(List Zaa)) (a1:(List Zaf))  : ∀ (fu:Nat) (v6:Int) (w5:(List Zaa)) (r:(List Zaa)),Zcu a0 a1  fu v6 w5 = some r→Good Tryz.prog 30 S0 w0 (bodyPost Tryz.prog Tryz.f118 (Zdj S0 w0 [(99999,.rows 44 10 r.length (Zaq Zaa.c Zaa.d r))] (.one (.osl 99999 r.length)))) (at_ [1,1,0,1,0] (ZbM Tryz.f118)) ⟨[(0,.one (cL 10 Zaa.c Zaa.d a0)),(1,.one (cL 4 Zaf.c Zaf.d a1)),(5,.one (.osl 5 w5.length)),(6,.one (.lit (.int .i64 v6)))],[(5,.rows 44 10 w5.length (Zaq Zaa.c Zaa.d w5))]⟩:=by
  intro fu
  induction fu with
  | zero =>
    intro v6 w5 r hf
    simp [Zcu] at hf
  | succ fu ih =>
    intro v6 w5 r hf
    unfold Zcu at hf
    rcases Zaj hf with ⟨h1,hf⟩ | ⟨h1,hf⟩
    · obtain ⟨o2,hf⟩:=Zas hf
      obtain ⟨x1,q3,hf⟩:=bind_some' hf
      have O1:Obl _:=(.c h1 (.c o2 (.c (Znf _ _ _ q3) .n)))
      rcases Zaj hf with ⟨h4,hf⟩ | ⟨h4,hf⟩
      · obtain ⟨o5,hf⟩:=Zas hf
        exact ZaI Zak Zdj.ends 15 [rz,rA [(6,aB x1)],⟨[(6,.c ((w5 ++ ([(a0.getD v6.toNat Zaa.d)]:List Zaa)).length) (Zaq Zaa.c Zaa.d (w5 ++ ([(a0.getD v6.toNat Zaa.d)]:List Zaa))))],[],[],[],[],[(5,(([(a0.getD v6.toNat Zaa.d)]:List Zaa).length,Zaq Zaa.c Zaa.d ([(a0.getD v6.toNat Zaa.d)]:List Zaa)))],[]⟩,rz] [true,true] ⟨[],[],[],[],[],[0,1,5,6],[28],[(28,5)]⟩ (O1.app (.c h4 (.c o2 (.c (show ([(a0.getD v6.toNat Zaa.d)]:List Zaa).length = 1∧∀ i j,i < 1→j < 10→Zaq Zaa.c Zaa.d ([(a0.getD v6.toNat Zaa.d)]:List Zaa) i j = (([(a0.getD v6.toNat Zaa.d)]:List Zaa).flatMap Zaa.c).getD (i * 10 + j) .junk from ⟨rfl,fun i j hi hj =>ZaS (sz:=10) (e:=Zaa.c) (d:=Zaa.d) (fun _ =>rfl) ([(a0.getD v6.toNat Zaa.d)]:List Zaa) i j hi hj⟩) (.c (ZfF (sz:=10) (e:=Zaa.c) (d:=Zaa.d) w5 ([(a0.getD v6.toNat Zaa.d)]:List Zaa)) (.c o5.1 (.c o5.2 .n))))))) (by kernel_rfl) (ih (ZaD v6 (1:Int)) (w5 ++ ([(a0.getD v6.toNat Zaa.d)]:List Zaa)) r hf)
      · exact ZaI Zak Zdj.ends 15 [rz,rA [(6,aB x1)],rz] [true,false] ⟨[],[],[],[],[],[0,1,5,6],[5],[]⟩ (O1.app (.c h4 .n)) (by kernel_rfl) (ih (ZaD v6 (1:Int)) w5 r hf)
    · obtain rfl:=oi hf
      exact Zdc Zak 8 [rz,rz] [false] ⟨[],[],[],[],[],[4],[5],[(5,99999)]⟩ (.c h1 .n) (by kernel_rfl)
def ZbX (a0:(List Zaa)) (a1:(List Zaf)):Option (List Zaa) :=
  Zcu a0 a1  ((((a0.length:Nat):Int) - (0:Int)).toNat + 2) (0:Int) ([]:List Zaa)
theorem Zmf (a0:(List Zaa)) (a1:(List Zaf)) (r:(List Zaa)) (hf:ZbX a0 a1 = some r):ZdL Tryz.prog 118 [] [.one (cL 10 Zaa.c Zaa.d a0),.one (cL 4 Zaf.c Zaf.d a1)] [(99999,.rows 44 10 r.length (Zaq Zaa.c Zaa.d r))] (.one (.osl 99999 r.length)):=by
  refine ZdL.of Tryz.func118 rfl rfl rfl rfl fun S0 w0 =>?_
  unfold ZbX at hf
  exact ZaI Zak Zdj.ends 8 [rz,rA [(0,.c ([]:List Zaa).length (Zaq Zaa.c Zaa.d ([]:List Zaa)))],rz] [] ⟨[],[],[],[],[],[0,1,5,6],[7],[(7,5)]⟩ (.c (show ([]:List Zaa).length = 0 from rfl) (.c (show ∀ i j,i < 0→j < 10→Zaq Zaa.c Zaa.d ([]:List Zaa) i j = (([]:List Zaa).flatMap Zaa.c).getD (i * 10 + j) .junk from (fun i j hi hj =>ZaS (sz:=10) (e:=Zaa.c) (d:=Zaa.d) (fun _ =>rfl) ([]:List Zaa) i j hi hj)) .n)) (by kernel_rfl) (Zlf S0 w0 a0 a1   ((((a0.length:Nat):Int) - (0:Int)).toNat + 2) (0:Int) ([]:List Zaa) r hf)
theorem ZfH (a0:(List Zaa)) (a1:(List Zaf)) (r:(List Zaa)) (hf:ZbX a0 a1 = some r):Zat Tryz.prog 118 [.one (cL 10 Zaa.c Zaa.d a0),.one (cL 4 Zaf.c Zaf.d a1)] (.one (cL 10 Zaa.c Zaa.d r)):=(Zmf a0 a1 r hf).pure
def Zbt (a0:(List Zaa)) (a1:(List Zaa))  : Nat→Int→(List Int)→Option (List Int)
  | 0,_,_ =>none
  | fu + 1,v6,w5 =>
    bif (decide (v6 < ((a1.length:Nat):Int))) then
      bif (decide (v6 ≥ ((a0.length:Nat):Int))) then
        need ((w5 ++ ([v6]:List Int)).length * 8≤140737488355328∧(w5 ++ ([v6]:List Int)).length≤maxLen) <|
        Zbt a0 a1  fu (ZaD v6 (1:Int)) (w5 ++ ([v6]:List Int))
      else
        need (0≤v6∧v6 < ((a0.length:Nat):Int)) <|
        need (0≤v6∧v6 < ((a1.length:Nat):Int)) <|
        bif (!(decide ((a0.getD v6.toNat Zaa.d) = (a1.getD v6.toNat Zaa.d)))) then
          need ((w5 ++ ([v6]:List Int)).length * 8≤140737488355328∧(w5 ++ ([v6]:List Int)).length≤maxLen) <|
          Zbt a0 a1  fu (ZaD v6 (1:Int)) (w5 ++ ([v6]:List Int))
        else
          Zbt a0 a1  fu (ZaD v6 (1:Int)) w5
    else
      some w5
theorem Zks (S0:Nat→Prop) (w0:Zbh) (a0:(List Zaa)) (a1:(List Zaa))  : ∀ (fu:Nat) (v6:Int) (w5:(List Int)) (r:(List Int)),Zbt a0 a1  fu v6 w5 = some r→Good Tryz.prog 34 S0 w0 (bodyPost Tryz.prog Tryz.f175 (Zdj S0 w0 [(99999,.rows 3 1 r.length (Zaq (cI .i64) (0:Int) r))] (.one (.osl 99999 r.length)))) (at_ [1,1,0,1,0] (ZbM Tryz.f175)) ⟨[(0,.one (cL 10 Zaa.c Zaa.d a0)),(1,.one (cL 10 Zaa.c Zaa.d a1)),(5,.one (.osl 5 w5.length)),(6,.one (.lit (.int .i64 v6)))],[(5,.rows 3 1 w5.length (Zaq (cI .i64) (0:Int) w5))]⟩:=by
  intro fu
  induction fu with
  | zero =>
    intro v6 w5 r hf
    simp [Zbt] at hf
  | succ fu ih =>
    intro v6 w5 r hf
    unfold Zbt at hf
    rcases Zaj hf with ⟨h1,hf⟩ | ⟨h1,hf⟩
    · rcases Zaj hf with ⟨h2,hf⟩ | ⟨h2,hf⟩
      · obtain ⟨o3,hf⟩:=Zas hf
        exact ZaI Zak Zdj.ends 15 [rz,rB [(4,true)],⟨[(3,.c ((w5 ++ ([v6]:List Int)).length) (Zaq (cI .i64) (0:Int) (w5 ++ ([v6]:List Int))))],[],[],[],[],[(2,(([v6]:List Int).length,Zaq (cI .i64) (0:Int) ([v6]:List Int)))],[]⟩,rz] [true,true] ⟨[],[],[],[],[],[0,1,5,6],[32],[(32,5)]⟩ (.c h1 (.c h2 (.c (show true = true from rfl) (.c (show ([v6]:List Int).length = 1∧∀ i j,i < 1→j < 1→Zaq (cI .i64) (0:Int) ([v6]:List Int) i j = (([v6]:List Int).flatMap (cI .i64)).getD (i * 1 + j) .junk from ⟨rfl,fun i j hi hj =>ZaS (sz:=1) (e:=(cI .i64)) (d:=(0:Int)) (fun _ =>rfl) ([v6]:List Int) i j hi hj⟩) (.c (ZfF (sz:=1) (e:=(cI .i64)) (d:=(0:Int)) w5 ([v6]:List Int)) (.c o3.1 (.c o3.2 .n))))))) (by kernel_rfl) (ih (ZaD v6 (1:Int)) (w5 ++ ([v6]:List Int)) r hf)
      · obtain ⟨o4,hf⟩:=Zas hf
        obtain ⟨o5,hf⟩:=Zas hf
        let R1:List RA:=[rz,⟨[(13,aB (!(decide ((a0.getD v6.toNat Zaa.d) = (a1.getD v6.toNat Zaa.d)))))],[(4,false)],[],[],[],[],[]⟩]
        have O2:Obl _:=(.c h1 (.c h2 (.c o4 (.c o5 (.c (ZkW (a0.getD v6.toNat Zaa.d) (a1.getD v6.toNat Zaa.d) (.tmp 22) (.tmp 26)) .n)))))
        rcases Zaj hf with ⟨h6,hf⟩ | ⟨h6,hf⟩
        · obtain ⟨o7,hf⟩:=Zas hf
          exact ZaI Zak Zdj.ends 15 (R1 ++ [⟨[(3,.c ((w5 ++ ([v6]:List Int)).length) (Zaq (cI .i64) (0:Int) (w5 ++ ([v6]:List Int))))],[],[],[],[],[(2,(([v6]:List Int).length,Zaq (cI .i64) (0:Int) ([v6]:List Int)))],[]⟩,rz]) [true,true] ⟨[],[],[],[],[],[0,1,5,6],[32],[(32,5)]⟩ (O2.app (.c h6 (.c (show ([v6]:List Int).length = 1∧∀ i j,i < 1→j < 1→Zaq (cI .i64) (0:Int) ([v6]:List Int) i j = (([v6]:List Int).flatMap (cI .i64)).getD (i * 1 + j) .junk from ⟨rfl,fun i j hi hj =>ZaS (sz:=1) (e:=(cI .i64)) (d:=(0:Int)) (fun _ =>rfl) ([v6]:List Int) i j hi hj⟩) (.c (ZfF (sz:=1) (e:=(cI .i64)) (d:=(0:Int)) w5 ([v6]:List Int)) (.c o7.1 (.c o7.2 .n)))))) (by kernel_rfl) (ih (ZaD v6 (1:Int)) (w5 ++ ([v6]:List Int)) r hf)
        · exact ZaI Zak Zdj.ends 15 (R1 ++ [rz]) [true,false] ⟨[],[],[],[],[],[0,1,5,6],[5],[]⟩ (O2.app (.c h6 .n)) (by kernel_rfl) (ih (ZaD v6 (1:Int)) w5 r hf)
    · obtain rfl:=oi hf
      exact Zdc Zak 8 [rz,rz] [false] ⟨[],[],[],[],[],[4],[5],[(5,99999)]⟩ (.c h1 .n) (by kernel_rfl)
def ZeD (a0:(List Zaa)) (a1:(List Zaa)):Option (List Int) :=
  Zbt a0 a1  ((((a1.length:Nat):Int) - (0:Int)).toNat + 2) (0:Int) ([]:List Int)
theorem Zle (a0:(List Zaa)) (a1:(List Zaa)) (r:(List Int)) (hf:ZeD a0 a1 = some r):ZdL Tryz.prog 175 [] [.one (cL 10 Zaa.c Zaa.d a0),.one (cL 10 Zaa.c Zaa.d a1)] [(99999,.rows 3 1 r.length (Zaq (cI .i64) (0:Int) r))] (.one (.osl 99999 r.length)):=by
  refine ZdL.of Tryz.func175 rfl rfl rfl rfl fun S0 w0 =>?_
  unfold ZeD at hf
  exact ZaI Zak Zdj.ends 8 [rz,rA [(0,.c ([]:List Int).length (Zaq (cI .i64) (0:Int) ([]:List Int)))],rz] [] ⟨[],[],[],[],[],[0,1,5,6],[7],[(7,5)]⟩ (.c (show ([]:List Int).length = 0 from rfl) (.c (show ∀ i j,i < 0→j < 1→Zaq (cI .i64) (0:Int) ([]:List Int) i j = (([]:List Int).flatMap (cI .i64)).getD (i * 1 + j) .junk from (fun i j hi hj =>ZaS (sz:=1) (e:=(cI .i64)) (d:=(0:Int)) (fun _ =>rfl) ([]:List Int) i j hi hj)) .n)) (by kernel_rfl) (Zks S0 w0 a0 a1   ((((a1.length:Nat):Int) - (0:Int)).toNat + 2) (0:Int) ([]:List Int) r hf)
theorem ZlC (a0:(List Zaa)) (a1:(List Zaa)) (r:(List Int)) (hf:ZeD a0 a1 = some r):Zat Tryz.prog 175 [.one (cL 10 Zaa.c Zaa.d a0),.one (cL 10 Zaa.c Zaa.d a1)] (.one (cL 1 (cI .i64) (0:Int) r)):=(Zle a0 a1 r hf).pure
def ZaB (a0:Zad) (a1:Zan) (a2:Zae) (a3:Bool):Option Zad :=
  (Zck a0 (Zao.mk (6:Int) (0:Int) a1 (0:Int) (0:Int) a2 a3)).bind fun x1 =>
  some x1.1
theorem ZaP (a0:Zad) (a1:Zan) (a2:Zae) (a3:Bool) (r:Zad) (hf:ZaB a0 a1 a2 a3 = some r):Zat Tryz.prog 56 [.agg (Zad.c a0),.agg (Zan.c a1),.agg (Zae.c a2),.one (.lit (.bool a3))] (.agg (Zad.c r)):=by
  refine Zat.of Tryz.func56 rfl rfl rfl rfl fun S0 w0 =>?_
  unfold ZaB at hf
  obtain ⟨x1,q1,hf⟩:=bind_some' hf
  obtain rfl:=oi hf
  exact Zai Zak 6 [rz,rA [(5,.r (.tup [(true,Zad.c x1.1),(true,Zae.c x1.2)]) [])],rz] [] [] [] [] (.c (Zgf _ _ _ q1) .n) (by kernel_rfl) rfl
def ZaO (a1:Int) (a2:(List Zaa)) (a3:(List Zaa))  : Nat→(List Int)→Int→Zad→Zad→Option Zad
  | 0,_,_,_,_ =>none
  | fu + 1,v9,v10,b4,b8 =>
    bif (decide (v10 < ((v9.length:Nat):Int))) then
      need (0≤v10∧v10 < ((v9.length:Nat):Int)) <|
      need (0≤(v9.getD v10.toNat (0:Int))∧(v9.getD v10.toNat (0:Int)) < ((a3.length:Nat):Int)) <|
      (ZaB b4 (Zan.mk (6:Int) a1 (v9.getD v10.toNat (0:Int))) (Zae.mk (0:Int) (a3.getD (v9.getD v10.toNat (0:Int)).toNat Zaa.d) ([]:(List Zab)) ([]:(List Zac))) false).bind fun x2 =>
      ZaO a1 a2 a3  fu v9 (ZaD v10 (1:Int)) x2 b8
    else
      bif (((a2.length:Nat):Int) != ((a3.length:Nat):Int)) then
        (ZaB b4 (Zan.mk (5:Int) a1 (0:Int)) (Zae.mk ((a3.length:Nat):Int) (Zaa.mk (Zaf.mk (Zag.mk false (0:Int) (0:Int)) (0:Int)) false (0:Int) (Zah.mk (0:Int) (0:Int)) (0:Int) (0:Int)) ([]:(List Zab)) ([]:(List Zac))) false).bind fun x3 =>
        some x3
      else
        some b4
theorem ZkE (S0:Nat→Prop) (w0:Zbh) (a1:Int) (a2:(List Zaa)) (a3:(List Zaa))  : ∀ (fu:Nat) (v9:(List Int)) (v10:Int) (b4:Zad) (b8:Zad) (r:Zad),ZaO a1 a2 a3  fu v9 v10 b4 b8 = some r→Good Tryz.prog 49 S0 w0 (bodyPost Tryz.prog Tryz.f96 (Post S0 w0 (.agg (Zad.c r)))) (at_ [1,1,0,1,0] (ZbM Tryz.f96)) ⟨[(1,.one (.lit (.int .i64 a1))),(2,.one (cL 10 Zaa.c Zaa.d a2)),(3,.one (cL 10 Zaa.c Zaa.d a3)),(4,.one (.ptr 4 0)),(8,.one (.ptr 8 0)),(9,.one (cL 1 (cI .i64) (0:Int) v9)),(10,.one (.lit (.int .i64 v10)))],[(4,.box [cL 13 Zae.c Zae.d b4.fGot,.lit (.int .i64 b4.fAt),.lit (.int .i64 b4.fOp.fKind),.lit (.int .i64 b4.fOp.fLock),.lit (.int .i64 b4.fOp.fLoc.fKind),.lit (.int .i64 b4.fOp.fLoc.fShard),.lit (.int .i64 b4.fOp.fLoc.fSlot),.lit (.int .i64 b4.fOp.fOld),.lit (.int .i64 b4.fOp.fNew),.lit (.int .i64 b4.fOp.fVal.fN),.lit (.bool b4.fOp.fVal.fPeer.fEnd.fAddr.fV6),.lit (.int .u64 b4.fOp.fVal.fPeer.fEnd.fAddr.fHi),.lit (.int .u64 b4.fOp.fVal.fPeer.fEnd.fAddr.fLo),.lit (.int .i64 b4.fOp.fVal.fPeer.fEnd.fPort),.lit (.bool b4.fOp.fVal.fPeer.fIn),.lit (.int .i64 b4.fOp.fVal.fPeer.fSince),.lit (.int .i64 b4.fOp.fVal.fPeer.fScore.fPoints),.lit (.int .i64 b4.fOp.fVal.fPeer.fScore.fAt),.lit (.int .i64 b4.fOp.fVal.fPeer.fPing),.lit (.int .i64 b4.fOp.fVal.fPeer.fWork),cL 5 Zab.c Zab.d b4.fOp.fVal.fBans,cL 7 Zac.c Zac.d b4.fOp.fVal.fBook,.lit (.bool b4.fOp.fMark),.lit (.bool b4.fWait)]),(8,.box [cL 13 Zae.c Zae.d b8.fGot,.lit (.int .i64 b8.fAt),.lit (.int .i64 b8.fOp.fKind),.lit (.int .i64 b8.fOp.fLock),.lit (.int .i64 b8.fOp.fLoc.fKind),.lit (.int .i64 b8.fOp.fLoc.fShard),.lit (.int .i64 b8.fOp.fLoc.fSlot),.lit (.int .i64 b8.fOp.fOld),.lit (.int .i64 b8.fOp.fNew),.lit (.int .i64 b8.fOp.fVal.fN),.lit (.bool b8.fOp.fVal.fPeer.fEnd.fAddr.fV6),.lit (.int .u64 b8.fOp.fVal.fPeer.fEnd.fAddr.fHi),.lit (.int .u64 b8.fOp.fVal.fPeer.fEnd.fAddr.fLo),.lit (.int .i64 b8.fOp.fVal.fPeer.fEnd.fPort),.lit (.bool b8.fOp.fVal.fPeer.fIn),.lit (.int .i64 b8.fOp.fVal.fPeer.fSince),.lit (.int .i64 b8.fOp.fVal.fPeer.fScore.fPoints),.lit (.int .i64 b8.fOp.fVal.fPeer.fScore.fAt),.lit (.int .i64 b8.fOp.fVal.fPeer.fPing),.lit (.int .i64 b8.fOp.fVal.fPeer.fWork),cL 5 Zab.c Zab.d b8.fOp.fVal.fBans,cL 7 Zac.c Zac.d b8.fOp.fVal.fBook,.lit (.bool b8.fOp.fMark),.lit (.bool b8.fWait)])]⟩:=by
  intro fu
  induction fu with
  | zero =>
    intro v9 v10 b4 b8 r hf
    simp [ZaO] at hf
  | succ fu ih =>
    intro v9 v10 b4 b8 r hf
    unfold ZaO at hf
    rcases Zaj hf with ⟨h2,hf⟩ | ⟨h2,hf⟩
    · obtain ⟨o3,hf⟩:=Zas hf
      obtain ⟨o4,hf⟩:=Zas hf
      obtain ⟨x2,q5,hf⟩:=bind_some' hf
      exact ZaI Zak Post.ends 12 [rz,⟨[(15,aG (Zad.c x2))],[],[],[],[(14,[(11,cL 5 Zab.c Zab.d []),(12,cL 7 Zac.c Zac.d [])])],[],[]⟩,rz] [true] ⟨[],[],[],[],[],[1,2,3,4,8,9,10],[4,8],[]⟩ (.c h2 (.c o3 (.c o3 (.c o4 (.c (ZaP _ _ _ _ _ q5) .n))))) (by kernel_rfl) (ih v9 (ZaD v10 (1:Int)) x2 b8 r hf)
    · rcases Zaj hf with ⟨h6,hf⟩ | ⟨h6,hf⟩
      · obtain ⟨x3,q7,hf⟩:=bind_some' hf
        obtain rfl:=oi hf
        exact Zai Zak 13 [rz,rz,⟨[(6,aG (Zad.c x3))],[],[],[],[(5,[(11,cL 5 Zab.c Zab.d []),(12,cL 7 Zac.c Zac.d [])])],[],[]⟩,rz] [false,true] [] [] [] (.c h2 (.c h6 (.c (ZaP _ _ _ _ _ q7) .n))) (by kernel_rfl) rfl
      · obtain rfl:=oi hf
        exact Zai Zak 13 [rz,rz,rz] [false,false] [] [] [] (.c h2 (.c h6 .n)) (by kernel_rfl) rfl
def Zbr (a0:Zad) (a1:Int) (a2:(List Zaa)) (a3:(List Zaa)):Option Zad :=
  (ZeD a2 a3).bind fun x1 =>
  ZaO a1 a2 a3  ((((x1.length:Nat):Int) - (0:Int)).toNat + 2) x1 (0:Int) a0 (Zad.mk ([]:(List Zae)) (0:Int) (Zao.mk (0:Int) (0:Int) (Zan.mk (0:Int) (0:Int) (0:Int)) (0:Int) (0:Int) (Zae.mk (0:Int) (Zaa.mk (Zaf.mk (Zag.mk false (0:Int) (0:Int)) (0:Int)) false (0:Int) (Zah.mk (0:Int) (0:Int)) (0:Int) (0:Int)) ([]:(List Zab)) ([]:(List Zac))) false) false)
theorem Zff (a0:Zad) (a1:Int) (a2:(List Zaa)) (a3:(List Zaa)) (r:Zad) (hf:Zbr a0 a1 a2 a3 = some r):Zat Tryz.prog 96 [.agg (Zad.c a0),.one (.lit (.int .i64 a1)),.one (cL 10 Zaa.c Zaa.d a2),.one (cL 10 Zaa.c Zaa.d a3)] (.agg (Zad.c r)):=by
  refine Zat.of Tryz.func96 rfl rfl rfl rfl fun S0 w0 =>?_
  unfold Zbr at hf
  obtain ⟨x1,q1,hf⟩:=bind_some' hf
  exact ZaI Zak Post.ends 8 [rz,rA [(2,.r (.one (cL 1 (cI .i64) (0:Int) x1)) [])],rz] [] ⟨[],[(8,[(0,cL 13 Zae.c Zae.d []),(20,cL 5 Zab.c Zab.d []),(21,cL 7 Zac.c Zac.d [])])],[],[],[],[1,2,3,4,8,9,10],[4,8],[]⟩ (.c (ZlC _ _ _ q1) .n) (by kernel_rfl) (ZkE S0 w0 a1 a2 a3   ((((x1.length:Nat):Int) - (0:Int)).toNat + 2) x1 (0:Int) a0 (Zad.mk ([]:(List Zae)) (0:Int) (Zao.mk (0:Int) (0:Int) (Zan.mk (0:Int) (0:Int) (0:Int)) (0:Int) (0:Int) (Zae.mk (0:Int) (Zaa.mk (Zaf.mk (Zag.mk false (0:Int) (0:Int)) (0:Int)) false (0:Int) (Zah.mk (0:Int) (0:Int)) (0:Int) (0:Int)) ([]:(List Zab)) ([]:(List Zac))) false) false) r hf)
def ZdE (a0:Zad) (a1:Int) (a2:Int) (a3:Int) (a4:Bool):Option (Zad × Bool) :=
  (Zck a0 (Zao.mk (7:Int) (0:Int) (Zan.mk a1 (0:Int) (0:Int)) a2 a3 (Zae.mk (0:Int) (Zaa.mk (Zaf.mk (Zag.mk false (0:Int) (0:Int)) (0:Int)) false (0:Int) (Zah.mk (0:Int) (0:Int)) (0:Int) (0:Int)) ([]:(List Zab)) ([]:(List Zac))) a4)).bind fun x1 =>
  some (x1.1,(x1.2.fN == (1:Int)))
theorem ZmC (a0:Zad) (a1:Int) (a2:Int) (a3:Int) (a4:Bool) (r:(Zad × Bool)) (hf:ZdE a0 a1 a2 a3 a4 = some r):Zat Tryz.prog 174 [.agg (Zad.c a0),.one (.lit (.int .i64 a1)),.one (.lit (.int .i64 a2)),.one (.lit (.int .i64 a3)),.one (.lit (.bool a4))] (.tup [(true,Zad.c r.1),(false,cB r.2)]):=by
  refine Zat.of Tryz.func174 rfl rfl rfl rfl fun S0 w0 =>?_
  unfold ZdE at hf
  obtain ⟨x1,q1,hf⟩:=bind_some' hf
  obtain rfl:=oi hf
  exact Zai Zak 6 [rz,⟨[(7,.r (.tup [(true,Zad.c x1.1),(true,Zae.c x1.2)]) [])],[],[],[],[(6,[(18,cL 5 Zab.c Zab.d []),(19,cL 7 Zac.c Zac.d [])])],[],[]⟩,rz] [] [] [] [] (.c (Zgf _ _ _ q1) .n) (by kernel_rfl) rfl
def ZbZ (a1:Int) (a2:Int) (a3:Bool)  : Nat→Zad→Zad→Option Zad
  | 0,_,_ =>none
  | fu + 1,b4,b8 =>
    bif (!b4.fWait) then
      (Zbq b4 (Zan.mk a1 (0:Int) (0:Int))).bind fun x1 =>
      (ZdE x1.1 a1 x1.2.fN (ZaD x1.2.fN a2) a3).bind fun x2 =>
      bif x2.2 then
        some x2.1
      else
        ZbZ a1 a2 a3  fu x2.1 b8
    else
      some b4
theorem Zld (S0:Nat→Prop) (w0:Zbh) (a1:Int) (a2:Int) (a3:Bool)  : ∀ (fu:Nat) (b4:Zad) (b8:Zad) (r:Zad),ZbZ a1 a2 a3  fu b4 b8 = some r→Good Tryz.prog 40 S0 w0 (bodyPost Tryz.prog Tryz.f119 (Post S0 w0 (.agg (Zad.c r)))) (at_ [1,0,0] (ZbM Tryz.f119)) ⟨[(1,.one (.lit (.int .i64 a1))),(2,.one (.lit (.int .i64 a2))),(3,.one (.lit (.bool a3))),(4,.one (.ptr 4 0)),(8,.one (.ptr 8 0))],[(4,.box [cL 13 Zae.c Zae.d b4.fGot,.lit (.int .i64 b4.fAt),.lit (.int .i64 b4.fOp.fKind),.lit (.int .i64 b4.fOp.fLock),.lit (.int .i64 b4.fOp.fLoc.fKind),.lit (.int .i64 b4.fOp.fLoc.fShard),.lit (.int .i64 b4.fOp.fLoc.fSlot),.lit (.int .i64 b4.fOp.fOld),.lit (.int .i64 b4.fOp.fNew),.lit (.int .i64 b4.fOp.fVal.fN),.lit (.bool b4.fOp.fVal.fPeer.fEnd.fAddr.fV6),.lit (.int .u64 b4.fOp.fVal.fPeer.fEnd.fAddr.fHi),.lit (.int .u64 b4.fOp.fVal.fPeer.fEnd.fAddr.fLo),.lit (.int .i64 b4.fOp.fVal.fPeer.fEnd.fPort),.lit (.bool b4.fOp.fVal.fPeer.fIn),.lit (.int .i64 b4.fOp.fVal.fPeer.fSince),.lit (.int .i64 b4.fOp.fVal.fPeer.fScore.fPoints),.lit (.int .i64 b4.fOp.fVal.fPeer.fScore.fAt),.lit (.int .i64 b4.fOp.fVal.fPeer.fPing),.lit (.int .i64 b4.fOp.fVal.fPeer.fWork),cL 5 Zab.c Zab.d b4.fOp.fVal.fBans,cL 7 Zac.c Zac.d b4.fOp.fVal.fBook,.lit (.bool b4.fOp.fMark),.lit (.bool b4.fWait)]),(8,.box [cL 13 Zae.c Zae.d b8.fGot,.lit (.int .i64 b8.fAt),.lit (.int .i64 b8.fOp.fKind),.lit (.int .i64 b8.fOp.fLock),.lit (.int .i64 b8.fOp.fLoc.fKind),.lit (.int .i64 b8.fOp.fLoc.fShard),.lit (.int .i64 b8.fOp.fLoc.fSlot),.lit (.int .i64 b8.fOp.fOld),.lit (.int .i64 b8.fOp.fNew),.lit (.int .i64 b8.fOp.fVal.fN),.lit (.bool b8.fOp.fVal.fPeer.fEnd.fAddr.fV6),.lit (.int .u64 b8.fOp.fVal.fPeer.fEnd.fAddr.fHi),.lit (.int .u64 b8.fOp.fVal.fPeer.fEnd.fAddr.fLo),.lit (.int .i64 b8.fOp.fVal.fPeer.fEnd.fPort),.lit (.bool b8.fOp.fVal.fPeer.fIn),.lit (.int .i64 b8.fOp.fVal.fPeer.fSince),.lit (.int .i64 b8.fOp.fVal.fPeer.fScore.fPoints),.lit (.int .i64 b8.fOp.fVal.fPeer.fScore.fAt),.lit (.int .i64 b8.fOp.fVal.fPeer.fPing),.lit (.int .i64 b8.fOp.fVal.fPeer.fWork),cL 5 Zab.c Zab.d b8.fOp.fVal.fBans,cL 7 Zac.c Zac.d b8.fOp.fVal.fBook,.lit (.bool b8.fOp.fMark),.lit (.bool b8.fWait)])]⟩:=by
  intro fu
  induction fu with
  | zero =>
    intro b4 b8 r hf
    simp [ZbZ] at hf
  | succ fu ih =>
    intro b4 b8 r hf
    unfold ZbZ at hf
    rcases Zaj hf with ⟨h1,hf⟩ | ⟨h1,hf⟩
    · obtain ⟨x1,q2,hf⟩:=bind_some' hf
      obtain ⟨x2,q3,hf⟩:=bind_some' hf
      let R1:List RA:=[rz,rA [(3,.r (.tup [(true,Zad.c x1.1),(true,Zae.c x1.2)]) [])],rA [(9,.r (.tup [(true,Zad.c x2.1),(false,cB x2.2)]) [])],rz,rz]
      have O2:Obl _:=(.c h1 (.c (Zem _ _ _ q2) (.c (ZmC _ _ _ _ _ _ q3) .n)))
      rcases Zaj hf with ⟨h4,hf⟩ | ⟨h4,hf⟩
      · obtain rfl:=oi hf
        exact Zai Zak 18 (R1 ++ [rz]) [true,true] [] [] [] (O2.app (.c h4 .n)) (by kernel_rfl) rfl
      · exact ZaI Zak Post.ends 19 R1 [true,false] ⟨[],[],[],[],[],[1,2,3,4,8],[4,8],[]⟩ (O2.app (.c h4 .n)) (by kernel_rfl) (ih x2.1 b8 r hf)
    · obtain rfl:=oi hf
      exact Zai Zak 8 [rz,rz] [false] [] [] [] (.c h1 .n) (by kernel_rfl) rfl
def ZbK (a0:Zad) (a1:Int) (a2:Int) (a3:Bool):Option Zad :=
  ZbZ a1 a2 a3  1000000 a0 (Zad.mk ([]:(List Zae)) (0:Int) (Zao.mk (0:Int) (0:Int) (Zan.mk (0:Int) (0:Int) (0:Int)) (0:Int) (0:Int) (Zae.mk (0:Int) (Zaa.mk (Zaf.mk (Zag.mk false (0:Int) (0:Int)) (0:Int)) false (0:Int) (Zah.mk (0:Int) (0:Int)) (0:Int) (0:Int)) ([]:(List Zab)) ([]:(List Zac))) false) false)
theorem Zel (a0:Zad) (a1:Int) (a2:Int) (a3:Bool) (r:Zad) (hf:ZbK a0 a1 a2 a3 = some r):Zat Tryz.prog 119 [.agg (Zad.c a0),.one (.lit (.int .i64 a1)),.one (.lit (.int .i64 a2)),.one (.lit (.bool a3))] (.agg (Zad.c r)):=by
  refine Zat.of Tryz.func119 rfl rfl rfl rfl fun S0 w0 =>?_
  unfold ZbK at hf
  exact ZaI Zak Post.ends 4 [rz] [] ⟨[],[(8,[(0,cL 13 Zae.c Zae.d []),(20,cL 5 Zab.c Zab.d []),(21,cL 7 Zac.c Zac.d [])])],[],[],[],[1,2,3,4,8],[4,8],[]⟩ .n (by kernel_rfl) (Zld S0 w0 a1 a2 a3   1000000 a0 (Zad.mk ([]:(List Zae)) (0:Int) (Zao.mk (0:Int) (0:Int) (Zan.mk (0:Int) (0:Int) (0:Int)) (0:Int) (0:Int) (Zae.mk (0:Int) (Zaa.mk (Zaf.mk (Zag.mk false (0:Int) (0:Int)) (0:Int)) false (0:Int) (Zah.mk (0:Int) (0:Int)) (0:Int) (0:Int)) ([]:(List Zab)) ([]:(List Zac))) false) false) r hf)
def ZcD (a0:(List Zaf))  : Nat→Int→Zaf→Option Bool
  | 0,_,_ =>none
  | fu + 1,v5,b3 =>
    bif (decide (v5 < ((a0.length:Nat):Int))) then
      need (0≤v5∧v5 < ((a0.length:Nat):Int)) <|
      bif (decide ((a0.getD v5.toNat Zaf.d) = b3)) then
        some true
      else
        ZcD a0  fu (ZaD v5 (1:Int)) b3
    else
      some false
theorem ZlD (S0:Nat→Prop) (w0:Zbh) (a0:(List Zaf))  : ∀ (fu:Nat) (v5:Int) (b3:Zaf) (r:Bool),ZcD a0  fu v5 b3 = some r→Good Tryz.prog 18 S0 w0 (bodyPost Tryz.prog Tryz.f239 (Post S0 w0 (.one (.lit (.bool r))))) (at_ [1,0,1,0] (ZbM Tryz.f239)) ⟨[(0,.one (cL 4 Zaf.c Zaf.d a0)),(3,.one (.ptr 3 0)),(5,.one (.lit (.int .i64 v5)))],[(3,.box [.lit (.bool b3.fAddr.fV6),.lit (.int .u64 b3.fAddr.fHi),.lit (.int .u64 b3.fAddr.fLo),.lit (.int .i64 b3.fPort)])]⟩:=by
  intro fu
  induction fu with
  | zero =>
    intro v5 b3 r hf
    simp [ZcD] at hf
  | succ fu ih =>
    intro v5 b3 r hf
    unfold ZcD at hf
    rcases Zaj hf with ⟨h1,hf⟩ | ⟨h1,hf⟩
    · obtain ⟨o2,hf⟩:=Zas hf
      let R1:List RA:=[rz,rA [(5,aB (decide ((a0.getD v5.toNat Zaf.d) = b3)))],rz]
      have O2:Obl _:=(.c h1 (.c o2 (.c (ZhF (a0.getD v5.toNat Zaf.d) b3 (.tmp 15) (.tmp 16)) .n)))
      rcases Zaj hf with ⟨h3,hf⟩ | ⟨h3,hf⟩
      · obtain rfl:=oi hf
        exact Zai Zak 13 R1 [true,true] [] [] [] (O2.app (.c h3 .n)) (by kernel_rfl) rfl
      · exact ZaI Zak Post.ends 15 R1 [true,false] ⟨[],[],[],[],[],[0,3,5],[3],[]⟩ (O2.app (.c h3 .n)) (by kernel_rfl) (ih (ZaD v5 (1:Int)) b3 r hf)
    · obtain rfl:=oi hf
      exact Zai Zak 8 [rz,rz] [false] [] [] [] (.c h1 .n) (by kernel_rfl) rfl
def Zgi (a0:(List Zaf)) (a1:Zaf):Option Bool :=
  ZcD a0  ((((a0.length:Nat):Int) - (0:Int)).toNat + 2) (0:Int) a1
theorem Znh (a0:(List Zaf)) (a1:Zaf) (r:Bool) (hf:Zgi a0 a1 = some r):Zat Tryz.prog 239 [.one (cL 4 Zaf.c Zaf.d a0),.agg (Zaf.c a1)] (.one (.lit (.bool r))):=by
  refine Zat.of Tryz.func239 rfl rfl rfl rfl fun S0 w0 =>?_
  unfold Zgi at hf
  exact ZaI Zak Post.ends 6 [rz,rz] [] ⟨[],[],[],[],[],[0,3,5],[3],[]⟩ .n (by kernel_rfl) (ZlD S0 w0 a0   ((((a0.length:Nat):Int) - (0:Int)).toNat + 2) (0:Int) a1 r hf)
def ZbI (a1:(List Zaf))  : Nat→Int→(List Zac)→Option (List Zac)
  | 0,_,_ =>none
  | fu + 1,v6,w9 =>
    bif (decide (v6 < ((w9.length:Nat):Int))) then
      need (0≤v6∧v6 < ((w9.length:Nat):Int)) <|
      bif ((w9.getD v6.toNat Zac.d).fState == (3:Int)) then
        (Zgi a1 ((w9.getD v6.toNat Zac.d).fEnd)).bind fun x1 =>
        bif x1 then
          ZbI a1  fu (ZaD v6 (1:Int)) (w9.set v6.toNat (Zac.mk ((w9.getD v6.toNat Zac.d).fEnd) (1:Int) ((w9.getD v6.toNat Zac.d).fFails) ((w9.getD v6.toNat Zac.d).fNext)))
        else
          ZbI a1  fu (ZaD v6 (1:Int)) w9
      else
        ZbI a1  fu (ZaD v6 (1:Int)) w9
    else
      some w9
theorem Zlg (S0:Nat→Prop) (w0:Zbh) (a1:(List Zaf))  : ∀ (fu:Nat) (v6:Int) (w9:(List Zac)) (r:(List Zac)),ZbI a1  fu v6 w9 = some r→Good Tryz.prog 36 S0 w0 (bodyPost Tryz.prog Tryz.f167 (Zdj S0 w0 [(99999,.rows 106 7 r.length (Zaq Zac.c Zac.d r))] (.one (.osl 99999 r.length)))) (at_ [1,1,0,1,0] (ZbM Tryz.f167)) ⟨[(1,.one (cL 4 Zaf.c Zaf.d a1)),(5,.one (.osl 9 w9.length)),(6,.one (.lit (.int .i64 v6)))],[(9,.rows 106 7 w9.length (Zaq Zac.c Zac.d w9))]⟩:=by
  intro fu
  induction fu with
  | zero =>
    intro v6 w9 r hf
    simp [ZbI] at hf
  | succ fu ih =>
    intro v6 w9 r hf
    unfold ZbI at hf
    rcases Zaj hf with ⟨h2,hf⟩ | ⟨h2,hf⟩
    · obtain ⟨o3,hf⟩:=Zas hf
      have O1:Obl _:=(.c h2 (.c o3 (.c (show v6.toNat < w9.length from (ltOf o3)) .n)))
      rcases Zaj hf with ⟨h4,hf⟩ | ⟨h4,hf⟩
      · obtain ⟨x1,q5,hf⟩:=bind_some' hf
        let R2:List RA:=[rz,⟨[(13,aB x1)],[(6,true)],[],[],[],[],[]⟩]
        have O3:Obl _:=(O1.app (.c h4 (.c o3 (.c (show v6.toNat < w9.length from (ltOf o3)) (.c (Znh _ _ _ q5) .n)))))
        rcases Zaj hf with ⟨h6,hf⟩ | ⟨h6,hf⟩
        · exact ZaI Zak Zdj.ends 15 (R2 ++ [rA [(4,.c (w9.set v6.toNat (Zac.mk ((w9.getD v6.toNat Zac.d).fEnd) (1:Int) ((w9.getD v6.toNat Zac.d).fFails) ((w9.getD v6.toNat Zac.d).fNext))).length (Zaq Zac.c Zac.d (w9.set v6.toNat (Zac.mk ((w9.getD v6.toNat Zac.d).fEnd) (1:Int) ((w9.getD v6.toNat Zac.d).fFails) ((w9.getD v6.toNat Zac.d).fNext)))))],rz]) [true,true] ⟨[],[],[],[(9,((w9.set v6.toNat (Zac.mk ((w9.getD v6.toNat Zac.d).fEnd) (1:Int) ((w9.getD v6.toNat Zac.d).fFails) ((w9.getD v6.toNat Zac.d).fNext))).length))],[],[1,5,6],[9],[]⟩ (O3.app (.c h6 (.c o3 (.c (show (w9.set v6.toNat (Zac.mk ((w9.getD v6.toNat Zac.d).fEnd) (1:Int) ((w9.getD v6.toNat Zac.d).fFails) ((w9.getD v6.toNat Zac.d).fNext))).length = w9.length from List.length_set) (.c (show v6.toNat < w9.length from (ltOf o3)) (.c (show ExtU 7 w9.length (Zaq Zac.c Zac.d w9) v6.toNat 4 [.lit (.int .i64 (1:Int))] (Zaq Zac.c Zac.d (w9.set v6.toNat (Zac.mk ((w9.getD v6.toNat Zac.d).fEnd) (1:Int) ((w9.getD v6.toNat Zac.d).fFails) ((w9.getD v6.toNat Zac.d).fNext)))) from (ZxC _ _ _ _ _ rfl (Nat.le_of_ble_eq_true rfl))) (.c (show (w9.set v6.toNat (Zac.mk ((w9.getD v6.toNat Zac.d).fEnd) (1:Int) ((w9.getD v6.toNat Zac.d).fFails) ((w9.getD v6.toNat Zac.d).fNext))).length = (w9.set v6.toNat (Zac.mk ((w9.getD v6.toNat Zac.d).fEnd) (1:Int) ((w9.getD v6.toNat Zac.d).fFails) ((w9.getD v6.toNat Zac.d).fNext))).length from rfl) .n))))))) (by kernel_rfl) (ih (ZaD v6 (1:Int)) (w9.set v6.toNat (Zac.mk ((w9.getD v6.toNat Zac.d).fEnd) (1:Int) ((w9.getD v6.toNat Zac.d).fFails) ((w9.getD v6.toNat Zac.d).fNext))) r hf)
        · exact ZaI Zak Zdj.ends 15 (R2 ++ [rz]) [true,false] ⟨[],[],[],[],[],[1,5,6],[9],[]⟩ (O3.app (.c h6 .n)) (by kernel_rfl) (ih (ZaD v6 (1:Int)) w9 r hf)
      · exact ZaI Zak Zdj.ends 15 [rz,rB [(6,false)],rz] [true,false] ⟨[],[],[],[],[],[1,5,6],[9],[]⟩ (O1.app (.c h4 (.c (show false = false from rfl) .n))) (by kernel_rfl) (ih (ZaD v6 (1:Int)) w9 r hf)
    · obtain rfl:=oi hf
      exact Zdc Zak 8 [rz,rz] [false] ⟨[],[],[],[],[],[4],[9],[(9,99999)]⟩ (.c h2 .n) (by kernel_rfl)
def Zet (a0:(List Zac)) (a1:(List Zaf)):Option (List Zac) :=
  need ((([]:List Zac) ++ a0).length * 56≤140737488355328∧(([]:List Zac) ++ a0).length≤maxLen) <|
  ZbI a1  (((((([]:List Zac) ++ a0).length:Nat):Int) - (0:Int)).toNat + 2) (0:Int) (([]:List Zac) ++ a0)
theorem Zmi (a0:(List Zac)) (a1:(List Zaf)) (r:(List Zac)) (hf:Zet a0 a1 = some r):ZdL Tryz.prog 167 [] [.one (cL 7 Zac.c Zac.d a0),.one (cL 4 Zaf.c Zaf.d a1)] [(99999,.rows 106 7 r.length (Zaq Zac.c Zac.d r))] (.one (.osl 99999 r.length)):=by
  refine ZdL.of Tryz.func167 rfl rfl rfl rfl fun S0 w0 =>?_
  unfold Zet at hf
  obtain ⟨o1,hf⟩:=Zas hf
  exact ZaI Zak Zdj.ends 8 [rz,rA [(0,.c ([]:List Zac).length (Zaq Zac.c Zac.d ([]:List Zac))),(2,.c ((([]:List Zac) ++ a0).length) (Zaq Zac.c Zac.d (([]:List Zac) ++ a0)))],rz] [] ⟨[],[],[],[],[],[1,5,6],[9],[]⟩ (.c (show ([]:List Zac).length = 0 from rfl) (.c (show ∀ i j,i < 0→j < 7→Zaq Zac.c Zac.d ([]:List Zac) i j = (([]:List Zac).flatMap Zac.c).getD (i * 7 + j) .junk from (fun i j hi hj =>ZaS (sz:=7) (e:=Zac.c) (d:=Zac.d) (fun _ =>rfl) ([]:List Zac) i j hi hj)) (.c (ZfF (sz:=7) (e:=Zac.c) (d:=Zac.d) ([]:List Zac) a0) (.c o1.1 (.c o1.2 .n))))) (by kernel_rfl) (Zlg S0 w0 a1   (((((([]:List Zac) ++ a0).length:Nat):Int) - (0:Int)).toNat + 2) (0:Int) (([]:List Zac) ++ a0) r hf)
theorem ZmE (a0:(List Zac)) (a1:(List Zaf)) (r:(List Zac)) (hf:Zet a0 a1 = some r):Zat Tryz.prog 167 [.one (cL 7 Zac.c Zac.d a0),.one (cL 4 Zaf.c Zaf.d a1)] (.one (cL 7 Zac.c Zac.d r)):=(Zmi a0 a1 r hf).pure
def ZcV (a0:Zad) (a1:(List Zaf)):Option Zad :=
  (Zbq a0 (Zan.mk (4:Int) (0:Int) (0:Int))).bind fun x1 =>
  (Zet x1.2.fBook a1).bind fun x2 =>
  (ZaB x1.1 (Zan.mk (4:Int) (0:Int) (0:Int)) (Zae.mk (0:Int) (Zaa.mk (Zaf.mk (Zag.mk false (0:Int) (0:Int)) (0:Int)) false (0:Int) (Zah.mk (0:Int) (0:Int)) (0:Int) (0:Int)) ([]:(List Zab)) x2) false).bind fun x3 =>
  some x3
theorem ZiX (a0:Zad) (a1:(List Zaf)) (r:Zad) (hf:ZcV a0 a1 = some r):Zat Tryz.prog 120 [.agg (Zad.c a0),.one (cL 4 Zaf.c Zaf.d a1)] (.agg (Zad.c r)):=by
  refine Zat.of Tryz.func120 rfl rfl rfl rfl fun S0 w0 =>?_
  unfold ZcV at hf
  obtain ⟨x1,q1,hf⟩:=bind_some' hf
  obtain ⟨x2,q2,hf⟩:=bind_some' hf
  obtain ⟨x3,q3,hf⟩:=bind_some' hf
  obtain rfl:=oi hf
  exact Zai Zak 6 [rz,rA [(2,.r (.tup [(true,Zad.c x1.1),(true,Zae.c x1.2)]) [])],⟨[(5,.r (.one (cL 7 Zac.c Zac.d x2)) []),(7,aG (Zad.c x3))],[],[],[],[(6,[(11,cL 5 Zab.c Zab.d [])])],[],[]⟩] [] [] [] [] (.c (Zem _ _ _ q1) (.c (ZmE _ _ _ q2) (.c (ZaP _ _ _ _ _ q3) .n))) (by kernel_rfl) rfl
def Zcv (a0:Zaw) (a1:Zad) (a2:Int) (a3:(List Zaa)) (a4:Int):Option (Zad × Zam) :=
  need (0≤a4∧a4 < ((a3.length:Nat):Int)) <|
  bif (a3.getD a4.toNat Zaa.d).fIn then
    (ZbX a3 ([a0.fEnd]:List Zaf)).bind fun x1 =>
    (Zbr a1 a2 a3 x1).bind fun x2 =>
    (ZbK x2 (1:Int) (-1:Int) true).bind fun x3 =>
    (Zar x3 (3:Int) (ZaD (2:Int) a2) false).bind fun x4 =>
    some (x4,(Zam.mk (0:Int) (Zaf.mk (Zag.mk false (0:Int) (0:Int)) (0:Int)) (0:Int) (0:Int) ([]:(List Zaa))))
  else
    (Zar a1 (3:Int) (ZaD (2:Int) a2) false).bind fun x5 =>
    (Zar x5 (1:Int) (1:Int) false).bind fun x6 =>
    (Zbp x6 a2).bind fun x7 =>
    bif x7.1.fWait then
      some (x7.1,(Zam.mk (0:Int) (Zaf.mk (Zag.mk false (0:Int) (0:Int)) (0:Int)) (0:Int) (0:Int) ([]:(List Zaa))))
    else
      (ZbN x7.2 a0.fEnd).bind fun x8 =>
      bif (decide (x8 < (0:Int))) then
        (Zar x7.1 (3:Int) (ZaD (2:Int) a2) true).bind fun x9 =>
        (Zar x9 (3:Int) (1:Int) false).bind fun x10 =>
        some (x10,(Zam.mk (6:Int) (Zaf.mk (Zag.mk false (0:Int) (0:Int)) (0:Int)) (0:Int) (0:Int) ([]:(List Zaa))))
      else
        (ZbX x7.2 ([a0.fEnd]:List Zaf)).bind fun x11 =>
        (Zbr x7.1 a2 x7.2 x11).bind fun x12 =>
        need (0≤x8∧x8 < ((x7.2.length:Nat):Int)) <|
        bif (x7.2.getD x8.toNat Zaa.d).fIn then
          (ZbK x12 (1:Int) (-1:Int) true).bind fun x13 =>
          (Zar x13 (3:Int) (ZaD (2:Int) a2) false).bind fun x14 =>
          (Zar x14 (3:Int) (1:Int) false).bind fun x15 =>
          some (x15,(Zam.mk (0:Int) (Zaf.mk (Zag.mk false (0:Int) (0:Int)) (0:Int)) (0:Int) (0:Int) ([]:(List Zaa))))
        else
          (ZcV x12 ([a0.fEnd]:List Zaf)).bind fun x16 =>
          (ZbK x16 (2:Int) (-1:Int) true).bind fun x17 =>
          (Zar x17 (3:Int) (ZaD (2:Int) a2) false).bind fun x18 =>
          (Zar x18 (3:Int) (1:Int) false).bind fun x19 =>
          some (x19,(Zam.mk (0:Int) (Zaf.mk (Zag.mk false (0:Int) (0:Int)) (0:Int)) (0:Int) (0:Int) ([]:(List Zaa))))
theorem Zfd (a0:Zaw) (a1:Zad) (a2:Int) (a3:(List Zaa)) (a4:Int) (r:(Zad × Zam)) (hf:Zcv a0 a1 a2 a3 a4 = some r):Zat Tryz.prog 52 [.agg (Zaw.c a0),.agg (Zad.c a1),.one (.lit (.int .i64 a2)),.one (cL 10 Zaa.c Zaa.d a3),.one (.lit (.int .i64 a4))] (.tup [(true,Zad.c r.1),(true,Zam.c r.2)]):=by
  refine Zat.of Tryz.func52 rfl rfl rfl rfl fun S0 w0 =>?_
  unfold Zcv at hf
  obtain ⟨o1,hf⟩:=Zas hf
  let R1:List RA:=[rz,⟨[],[],[],[],[],[(2,(([a0.fEnd]:List Zaf).length,Zaq Zaf.c Zaf.d ([a0.fEnd]:List Zaf)))],[]⟩,rz]
  have O2:Obl _:=(.c (show ([a0.fEnd]:List Zaf).length = 1∧∀ i j,i < 1→j < 4→Zaq Zaf.c Zaf.d ([a0.fEnd]:List Zaf) i j = (([a0.fEnd]:List Zaf).flatMap Zaf.c).getD (i * 4 + j) .junk from ⟨rfl,fun i j hi hj =>ZaS (sz:=4) (e:=Zaf.c) (d:=Zaf.d) (fun _ =>rfl) ([a0.fEnd]:List Zaf) i j hi hj⟩) (.c o1 .n))
  rcases Zaj hf with ⟨h2,hf⟩ | ⟨h2,hf⟩
  · obtain ⟨x1,q3,hf⟩:=bind_some' hf
    obtain ⟨x2,q4,hf⟩:=bind_some' hf
    obtain ⟨x3,q5,hf⟩:=bind_some' hf
    obtain ⟨x4,q6,hf⟩:=bind_some' hf
    obtain rfl:=oi hf
    exact Zai Zak 14 (R1 ++ [rA [(5,.r (.one (cL 10 Zaa.c Zaa.d x1)) []),(6,aG (Zad.c x2))],rA [(1,aG (Zad.c x3))],rA [(3,aG (Zad.c x4))]]) [true] [] [(11,[(7,cL 10 Zaa.c Zaa.d [])])] [] (O2.app (.c h2 (.c (ZfH _ _ _ q3) (.c (Zff _ _ _ _ _ q4) (.c (Zel _ _ _ _ _ q5) (.c (Zau _ _ _ _ _ q6) .n)))))) (by kernel_rfl) rfl
  · obtain ⟨x5,q7,hf⟩:=bind_some' hf
    obtain ⟨x6,q8,hf⟩:=bind_some' hf
    obtain ⟨x7,q9,hf⟩:=bind_some' hf
    let R3:List RA:=(R1 ++ [rA [(3,aG (Zad.c x5))],rA [(1,aG (Zad.c x6))],rA [(2,.r (.tup [(true,Zad.c x7.1),(false,(cLs 10 Zaa.c Zaa.d) x7.2)]) [])],rz])
    have O4:Obl _:=(O2.app (.c h2 (.c (Zau _ _ _ _ _ q7) (.c (Zau _ _ _ _ _ q8) (.c (Zds _ _ _ q9) .n)))))
    rcases Zaj hf with ⟨h10,hf⟩ | ⟨h10,hf⟩
    · obtain rfl:=oi hf
      exact Zai Zak 21 (R3 ++ [rz]) [false,true] [] [(11,[(7,cL 10 Zaa.c Zaa.d [])])] [] (O4.app (.c h10 .n)) (by kernel_rfl) rfl
    · obtain ⟨x8,q11,hf⟩:=bind_some' hf
      have O5:Obl _:=(O4.app (.c h10 (.c (Zdg _ _ _ q11) .n)))
      rcases Zaj hf with ⟨h12,hf⟩ | ⟨h12,hf⟩
      · obtain ⟨x9,q13,hf⟩:=bind_some' hf
        obtain ⟨x10,q14,hf⟩:=bind_some' hf
        obtain rfl:=oi hf
        exact Zai Zak 30 (R3 ++ [rA [(3,aI x8)],rz,rA [(3,aG (Zad.c x9))],rA [(1,aG (Zad.c x10))]]) [false,false,true] [] [(11,[(7,cL 10 Zaa.c Zaa.d [])])] [] (O5.app (.c h12 (.c (Zau _ _ _ _ _ q13) (.c (Zau _ _ _ _ _ q14) .n)))) (by kernel_rfl) rfl
      · obtain ⟨x11,q15,hf⟩:=bind_some' hf
        obtain ⟨x12,q16,hf⟩:=bind_some' hf
        obtain ⟨o17,hf⟩:=Zas hf
        let R6:List RA:=(R3 ++ [rA [(3,aI x8)],rz,rA [(5,.r (.one (cL 10 Zaa.c Zaa.d x11)) []),(6,aG (Zad.c x12))],rz])
        have O7:Obl _:=(O5.app (.c h12 (.c (ZfH _ _ _ q15) (.c (Zff _ _ _ _ _ q16) (.c o17 .n)))))
        rcases Zaj hf with ⟨h18,hf⟩ | ⟨h18,hf⟩
        · obtain ⟨x13,q19,hf⟩:=bind_some' hf
          obtain ⟨x14,q20,hf⟩:=bind_some' hf
          obtain ⟨x15,q21,hf⟩:=bind_some' hf
          obtain rfl:=oi hf
          exact Zai Zak 38 (R6 ++ [rA [(1,aG (Zad.c x13))],rA [(3,aG (Zad.c x14))],rA [(1,aG (Zad.c x15))]]) [false,false,false,true] [] [(11,[(7,cL 10 Zaa.c Zaa.d [])])] [] (O7.app (.c h18 (.c (Zel _ _ _ _ _ q19) (.c (Zau _ _ _ _ _ q20) (.c (Zau _ _ _ _ _ q21) .n))))) (by kernel_rfl) rfl
        · obtain ⟨x16,q22,hf⟩:=bind_some' hf
          obtain ⟨x17,q23,hf⟩:=bind_some' hf
          obtain ⟨x18,q24,hf⟩:=bind_some' hf
          obtain ⟨x19,q25,hf⟩:=bind_some' hf
          obtain rfl:=oi hf
          exact Zai Zak 40 (R6 ++ [rA [(2,aG (Zad.c x16))],rA [(1,aG (Zad.c x17))],rA [(3,aG (Zad.c x18))],rA [(1,aG (Zad.c x19))]]) [false,false,false,false] [] [(11,[(7,cL 10 Zaa.c Zaa.d [])])] [] (O7.app (.c h18 (.c (ZiX _ _ _ q22) (.c (Zel _ _ _ _ _ q23) (.c (Zau _ _ _ _ _ q24) (.c (Zau _ _ _ _ _ q25) .n)))))) (by kernel_rfl) rfl
def Zdu (a0:Int):Option Int :=
  bif (a0 == (1:Int)) then
    some (1:Int)
  else
    bif (a0 == (2:Int)) then
      some (10:Int)
    else
      bif (a0 == (3:Int)) then
        some (20:Int)
      else
        bif (a0 == (4:Int)) then
          some (50:Int)
        else
          bif (a0 == (5:Int)) then
            some (100:Int)
          else
            some (0:Int)
theorem Zlh (a0:Int) (r:Int) (hf:Zdu a0 = some r):Zat Tryz.prog 159 [.one (.lit (.int .i64 a0))] (.one (.lit (.int .i64 r))):=by
  refine Zat.of Tryz.func159 rfl rfl rfl rfl fun S0 w0 =>?_
  unfold Zdu at hf
  rcases Zaj hf with ⟨h1,hf⟩ | ⟨h1,hf⟩
  · obtain rfl:=oi hf
    exact Zai Zak 11 [rz,rz,rz,rz] [true] [] [] [] (.c h1 .n) (by kernel_rfl) rfl
  · rcases Zaj hf with ⟨h2,hf⟩ | ⟨h2,hf⟩
    · obtain rfl:=oi hf
      exact Zai Zak 14 [rz,rz,rz,rz,rz] [false,true] [] [] [] (.c h1 (.c h2 .n)) (by kernel_rfl) rfl
    · rcases Zaj hf with ⟨h3,hf⟩ | ⟨h3,hf⟩
      · obtain rfl:=oi hf
        exact Zai Zak 17 [rz,rz,rz,rz,rz,rz] [false,false,true] [] [] [] (.c h1 (.c h2 (.c h3 .n))) (by kernel_rfl) rfl
      · rcases Zaj hf with ⟨h4,hf⟩ | ⟨h4,hf⟩
        · obtain rfl:=oi hf
          exact Zai Zak 20 [rz,rz,rz,rz,rz,rz,rz] [false,false,false,true] [] [] [] (.c h1 (.c h2 (.c h3 (.c h4 .n)))) (by kernel_rfl) rfl
        · rcases Zaj hf with ⟨h5,hf⟩ | ⟨h5,hf⟩
          · obtain rfl:=oi hf
            exact Zai Zak 23 [rz,rz,rz,rz,rz,rz,rz,rz] [false,false,false,false,true] [] [] [] (.c h1 (.c h2 (.c h3 (.c h4 (.c h5 .n))))) (by kernel_rfl) rfl
          · obtain rfl:=oi hf
            exact Zai Zak 25 [rz,rz,rz,rz,rz,rz,rz,rz] [false,false,false,false,false] [] [] [] (.c h1 (.c h2 (.c h3 (.c h4 (.c h5 .n))))) (by kernel_rfl) rfl
def Zbw (a0:Int):Option Int :=
  bif (decide (a0 < (0:Int))) then
    some (0:Int)
  else
    bif (decide (a0 > (1099511627776:Int))) then
      some (1099511627776:Int)
    else
      some a0
theorem ZbD (a0:Int) (r:Int) (hf:Zbw a0 = some r):Zat Tryz.prog 125 [.one (.lit (.int .i64 a0))] (.one (.lit (.int .i64 r))):=by
  refine Zat.of Tryz.func125 rfl rfl rfl rfl fun S0 w0 =>?_
  unfold Zbw at hf
  rcases Zaj hf with ⟨h1,hf⟩ | ⟨h1,hf⟩
  · obtain rfl:=oi hf
    exact Zai Zak 8 [rz,rz,rz] [true] [] [] [] (.c h1 .n) (by kernel_rfl) rfl
  · rcases Zaj hf with ⟨h2,hf⟩ | ⟨h2,hf⟩
    · obtain rfl:=oi hf
      exact Zai Zak 13 [rz,rz,rz,rz] [false,true] [] [] [] (.c h1 (.c h2 .n)) (by kernel_rfl) rfl
    · obtain rfl:=oi hf
      exact Zai Zak 14 [rz,rz,rz,rz] [false,false] [] [] [] (.c h1 (.c h2 .n)) (by kernel_rfl) rfl
def Zcn (v1:Int) (b6:Zah)  : Nat→Int→Zah→Option Zah
  | 0,_,_ =>none
  | fu + 1,v2,b3 =>
    bif (decide (b3.fPoints > (0:Int))) then
      bif (decide ((Zja v2 b3.fAt) ≥ v1)) then
        Zcn v1 b6  fu v2 (Zah.mk (IntKind.wrap .i64 (Int.tdiv b3.fPoints (2:Int))) (ZaD b3.fAt v1))
      else
        bif (decide ((Zja v2 b3.fAt) ≥ v1)) then
          need (v1 ≠ 0) <|
          some (Zah.mk b3.fPoints (Zja v2 (Int.tmod (Zja v2 b3.fAt) v1)))
        else
          some b3
    else
      bif (decide ((Zja v2 b3.fAt) ≥ v1)) then
        need (v1 ≠ 0) <|
        some (Zah.mk b3.fPoints (Zja v2 (Int.tmod (Zja v2 b3.fAt) v1)))
      else
        some b3
theorem ZkI (S0:Nat→Prop) (w0:Zbh) (v1:Int) (b6:Zah)  : ∀ (fu:Nat) (v2:Int) (b3:Zah) (r:Zah),Zcn v1 b6  fu v2 b3 = some r→Good Tryz.prog 57 S0 w0 (bodyPost Tryz.prog Tryz.f307 (Post S0 w0 (.agg (Zah.c r)))) (at_ [1,1,1,1,1,1,0,0] (ZbM Tryz.f307)) ⟨[(1,.one (.lit (.int .i64 v1))),(2,.one (.lit (.int .i64 v2))),(3,.one (.ptr 3 0)),(6,.one (.ptr 6 0))],[(3,.box [.lit (.int .i64 b3.fPoints),.lit (.int .i64 b3.fAt)]),(6,.box [.lit (.int .i64 b6.fPoints),.lit (.int .i64 b6.fAt)])]⟩:=by
  intro fu
  induction fu with
  | zero =>
    intro v2 b3 r hf
    simp [Zcn] at hf
  | succ fu ih =>
    intro v2 b3 r hf
    unfold Zcn at hf
    rcases Zaj hf with ⟨h6,hf⟩ | ⟨h6,hf⟩
    · rcases Zaj hf with ⟨h7,hf⟩ | ⟨h7,hf⟩
      · exact ZaI Zak Post.ends 12 [rB [(3,true)],rz,rz] [true] ⟨[],[],[],[],[],[1,2,3,6],[3,6],[]⟩ (.c h6 (.c h7 (.c (show (2:Int) ≠ 0 from (by decide)) .n))) (by kernel_rfl) (ih v2 (Zah.mk (IntKind.wrap .i64 (Int.tdiv b3.fPoints (2:Int))) (ZaD b3.fAt v1)) r hf)
      · rcases Zaj hf with ⟨h8,hf⟩ | ⟨h8,hf⟩
        · obtain ⟨o9,hf⟩:=Zas hf
          obtain rfl:=oi hf
          exact Zai Zak 13 [rB [(3,true)],rz,rz,rz] [false,true] [] [] [] (.c h6 (.c h7 (.c h8 (.c o9 .n)))) (by kernel_rfl) rfl
        · obtain rfl:=oi hf
          exact Zai Zak 13 [rB [(3,true)],rz,rz] [false,false] [] [] [] (.c h6 (.c h7 (.c h8 .n))) (by kernel_rfl) rfl
    · rcases Zaj hf with ⟨h10,hf⟩ | ⟨h10,hf⟩
      · obtain ⟨o11,hf⟩:=Zas hf
        obtain rfl:=oi hf
        exact Zai Zak 13 [rB [(3,false)],rz,rz,rz] [false,true] [] [] [] (.c h6 (.c (show false = false from rfl) (.c h10 (.c o11 .n)))) (by kernel_rfl) rfl
      · obtain rfl:=oi hf
        exact Zai Zak 13 [rB [(3,false)],rz,rz] [false,false] [] [] [] (.c h6 (.c (show false = false from rfl) (.c h10 .n))) (by kernel_rfl) rfl
def Zdh (a2:Int) (b3:Zah) (b6:Zah)  (v1:Int):Option Zah :=
  (Zbw b3.fAt).bind fun x1 =>
  (Zbw a2).bind fun x2 =>
  (Zbw b3.fPoints).bind fun x3 =>
  Zcn v1 b6  1000000 x2 (Zah.mk x3 x1)
theorem ZhL (S0:Nat→Prop) (w0:Zbh) (a2:Int) (b3:Zah) (b6:Zah)  (v1:Int) (r:Zah) (hf:Zdh a2 b3 b6  v1 = some r):Good Tryz.prog 57 S0 w0 (bodyPost Tryz.prog Tryz.f307 (Post S0 w0 (.agg (Zah.c r)))) (at_ [1,1,1] (ZbM Tryz.f307)) ⟨[(1,.one (.lit (.int .i64 v1))),(2,.one (.lit (.int .i64 a2))),(3,.one (.ptr 3 0)),(6,.one (.ptr 6 0))],[(3,.box [.lit (.int .i64 b3.fPoints),.lit (.int .i64 b3.fAt)]),(6,.box [.lit (.int .i64 b6.fPoints),.lit (.int .i64 b6.fAt)])]⟩:=by
  unfold Zdh at hf
  obtain ⟨x1,q3,hf⟩:=bind_some' hf
  obtain ⟨x2,q4,hf⟩:=bind_some' hf
  obtain ⟨x3,q5,hf⟩:=bind_some' hf
  exact ZaI Zak Post.ends 8 [rA [(2,aI x1)],rA [(1,aI x2)],rA [(2,aI x3)]] [] ⟨[],[],[],[],[],[1,2,3,6],[3,6],[]⟩ (.c (ZbD _ _ q3) (.c (ZbD _ _ q4) (.c (ZbD _ _ q5) .n))) (by kernel_rfl) (ZkI S0 w0 v1 b6   1000000 x2 (Zah.mk x3 x1) r hf)
def ZdX (a2:Int)  (v1:Int) (b3:Zah) (b6:Zah):Option Zah :=
  bif (decide (v1 > (1073741824:Int))) then
    Zdh a2 b3 b6  (1073741824:Int)
  else
    Zdh a2 b3 b6  v1
theorem ZhM (S0:Nat→Prop) (w0:Zbh) (a2:Int)  (v1:Int) (b3:Zah) (b6:Zah) (r:Zah) (hf:ZdX a2  v1 b3 b6 = some r):Good Tryz.prog 57 S0 w0 (bodyPost Tryz.prog Tryz.f307 (Post S0 w0 (.agg (Zah.c r)))) (at_ [1,1] (ZbM Tryz.f307)) ⟨[(1,.one (.lit (.int .i64 v1))),(2,.one (.lit (.int .i64 a2))),(3,.one (.ptr 3 0)),(6,.one (.ptr 6 0))],[(3,.box [.lit (.int .i64 b3.fPoints),.lit (.int .i64 b3.fAt)]),(6,.box [.lit (.int .i64 b6.fPoints),.lit (.int .i64 b6.fAt)])]⟩:=by
  unfold ZdX at hf
  rcases Zaj hf with ⟨h2,hf⟩ | ⟨h2,hf⟩
  · exact ZaI Zak Post.ends 5 [rz,rz] [true] ⟨[],[],[],[],[],[1,2,3,6],[3,6],[]⟩ (.c h2 .n) (by kernel_rfl) (ZhL S0 w0 a2 b3 b6   (1073741824:Int) r hf)
  · exact ZaI Zak Post.ends 5 [rz] [false] ⟨[],[],[],[],[],[1,2,3,6],[3,6],[]⟩ (.c h2 .n) (by kernel_rfl) (ZhL S0 w0 a2 b3 b6   v1 r hf)
def ZeY (a0:Zah) (a1:Int) (a2:Int):Option Zah :=
  bif (decide (a1 < (1:Int))) then
    ZdX a2  (1:Int) a0 (Zah.mk (0:Int) (0:Int))
  else
    ZdX a2  a1 a0 (Zah.mk (0:Int) (0:Int))
theorem Zmj (a0:Zah) (a1:Int) (a2:Int) (r:Zah) (hf:ZeY a0 a1 a2 = some r):Zat Tryz.prog 307 [.agg (Zah.c a0),.one (.lit (.int .i64 a1)),.one (.lit (.int .i64 a2))] (.agg (Zah.c r)):=by
  refine Zat.of Tryz.func307 rfl rfl rfl rfl fun S0 w0 =>?_
  unfold ZeY at hf
  rcases Zaj hf with ⟨h1,hf⟩ | ⟨h1,hf⟩
  · exact ZaI Zak Post.ends 7 [rz,rz,rz] [true] ⟨[],[],[],[],[],[1,2,3,6],[3,6],[]⟩ (.c h1 .n) (by kernel_rfl) (ZhM S0 w0 a2   (1:Int) a0 (Zah.mk (0:Int) (0:Int)) r hf)
  · exact ZaI Zak Post.ends 7 [rz,rz] [false] ⟨[],[],[],[],[],[1,2,3,6],[3,6],[]⟩ (.c h1 .n) (by kernel_rfl) (ZhM S0 w0 a2   a1 a0 (Zah.mk (0:Int) (0:Int)) r hf)
def Zgj (a0:Zah) (a1:Int) (a2:Int) (a3:Int):Option Zah :=
  (ZeY a0 a2 a3).bind fun x1 =>
  (Zbw a1).bind fun x2 =>
  bif (decide (x2 > (16777216:Int))) then
    (Zbw (ZaD x1.fPoints (Zqe (16777216:Int) (65536:Int)))).bind fun x3 =>
    some (Zah.mk x3 x1.fAt)
  else
    (Zbw (ZaD x1.fPoints (Zqe x2 (65536:Int)))).bind fun x4 =>
    some (Zah.mk x4 x1.fAt)
theorem Zni (a0:Zah) (a1:Int) (a2:Int) (a3:Int) (r:Zah) (hf:Zgj a0 a1 a2 a3 = some r):Zat Tryz.prog 235 [.agg (Zah.c a0),.one (.lit (.int .i64 a1)),.one (.lit (.int .i64 a2)),.one (.lit (.int .i64 a3))] (.agg (Zah.c r)):=by
  refine Zat.of Tryz.func235 rfl rfl rfl rfl fun S0 w0 =>?_
  unfold Zgj at hf
  obtain ⟨x1,q1,hf⟩:=bind_some' hf
  obtain ⟨x2,q2,hf⟩:=bind_some' hf
  let R1:List RA:=[rz,rA [(3,aG (Zah.c x1))],rA [(1,aI x2)],rz]
  have O2:Obl _:=(.c (Zmj _ _ _ _ q1) (.c (ZbD _ _ q2) .n))
  rcases Zaj hf with ⟨h3,hf⟩ | ⟨h3,hf⟩
  · obtain ⟨x3,q4,hf⟩:=bind_some' hf
    obtain rfl:=oi hf
    exact Zai Zak 15 (R1 ++ [rz,rA [(5,aI x3)],rz]) [true] [] [] [] (O2.app (.c h3 (.c (ZbD _ _ q4) .n))) (by kernel_rfl) rfl
  · obtain ⟨x4,q5,hf⟩:=bind_some' hf
    obtain rfl:=oi hf
    exact Zai Zak 15 (R1 ++ [rA [(5,aI x4)],rz]) [false] [] [] [] (O2.app (.c h3 (.c (ZbD _ _ q5) .n))) (by kernel_rfl) rfl
def ZeE (a0:Zaa) (a1:Int) (a2:Int) (a3:Int):Option Zaa :=
  (Zgj a0.fScore a1 a2 a3).bind fun x1 =>
  some (Zaa.mk a0.fEnd a0.fIn a0.fSince x1 a0.fPing a0.fWork)
theorem ZlE (a0:Zaa) (a1:Int) (a2:Int) (a3:Int) (r:Zaa) (hf:ZeE a0 a1 a2 a3 = some r):Zat Tryz.prog 158 [.agg (Zaa.c a0),.one (.lit (.int .i64 a1)),.one (.lit (.int .i64 a2)),.one (.lit (.int .i64 a3))] (.agg (Zaa.c r)):=by
  refine Zat.of Tryz.func158 rfl rfl rfl rfl fun S0 w0 =>?_
  unfold ZeE at hf
  obtain ⟨x1,q1,hf⟩:=bind_some' hf
  obtain rfl:=oi hf
  exact Zai Zak 6 [rz,rA [(5,aG (Zah.c x1))],rz] [] [] [] [] (.c (Zni _ _ _ _ _ q1) .n) (by kernel_rfl) rfl
def Zec (a0:Zaz) (a1:Zaw) (a2:Zaa):Option Zaa :=
  (Zdu a1.fNum).bind fun x1 =>
  (ZeE a2 x1 a0.fHalf a1.fNow).bind fun x2 =>
  some x2
theorem ZiG (a0:Zaz) (a1:Zaw) (a2:Zaa) (r:Zaa) (hf:Zec a0 a1 a2 = some r):Zat Tryz.prog 121 [.agg (Zaz.c a0),.agg (Zaw.c a1),.agg (Zaa.c a2)] (.agg (Zaa.c r)):=by
  refine Zat.of Tryz.func121 rfl rfl rfl rfl fun S0 w0 =>?_
  unfold Zec at hf
  obtain ⟨x1,q1,hf⟩:=bind_some' hf
  obtain ⟨x2,q2,hf⟩:=bind_some' hf
  obtain rfl:=oi hf
  exact Zai Zak 4 [rz,rA [(3,aI x1),(8,aG (Zaa.c x2))]] [] [] [] [] (.c (Zlh _ _ q1) (.c (ZlE _ _ _ _ _ q2) .n)) (by kernel_rfl) rfl
def ZbO (a0:Zah):Option Int :=
  bif (decide (a0.fPoints < (0:Int))) then
    some (0:Int)
  else
    some (IntKind.wrap .i64 (Int.tdiv a0.fPoints (65536:Int)))
theorem Zfg (a0:Zah) (r:Int) (hf:ZbO a0 = some r):Zat Tryz.prog 123 [.agg (Zah.c a0)] (.one (.lit (.int .i64 r))):=by
  refine Zat.of Tryz.func123 rfl rfl rfl rfl fun S0 w0 =>?_
  unfold ZbO at hf
  rcases Zaj hf with ⟨h1,hf⟩ | ⟨h1,hf⟩
  · obtain rfl:=oi hf
    exact Zai Zak 8 [rz,rz,rz] [true] [] [] [] (.c h1 .n) (by kernel_rfl) rfl
  · obtain rfl:=oi hf
    exact Zai Zak 9 [rz,rz,rz] [false] [] [] [] (.c h1 (.c (show (65536:Int) ≠ 0 from (by decide)) .n)) (by kernel_rfl) rfl
def Zdx   (v1:Int) (b2:Zah):Option Bool :=
  bif (decide (v1 > (16777216:Int))) then
    (ZbO b2).bind fun x1 =>
    some (decide (x1 ≥ (16777216:Int)))
  else
    (ZbO b2).bind fun x2 =>
    some (decide (x2 ≥ v1))
theorem Zhj (S0:Nat→Prop) (w0:Zbh)   (v1:Int) (b2:Zah) (r:Bool) (hf:Zdx   v1 b2 = some r):Good Tryz.prog 13 S0 w0 (bodyPost Tryz.prog Tryz.f122 (Post S0 w0 (.one (.lit (.bool r))))) (at_ [1,1] (ZbM Tryz.f122)) ⟨[(1,.one (.lit (.int .i64 v1))),(2,.one (.ptr 2 0))],[(2,.box [.lit (.int .i64 b2.fPoints),.lit (.int .i64 b2.fAt)])]⟩:=by
  unfold Zdx at hf
  rcases Zaj hf with ⟨h2,hf⟩ | ⟨h2,hf⟩
  · obtain ⟨x1,q3,hf⟩:=bind_some' hf
    obtain rfl:=oi hf
    exact Zai Zak 7 [rz,rz,rA [(1,aI x1)]] [true] [] [] [] (.c h2 (.c (Zfg _ _ q3) .n)) (by kernel_rfl) rfl
  · obtain ⟨x2,q4,hf⟩:=bind_some' hf
    obtain rfl:=oi hf
    exact Zai Zak 7 [rz,rA [(1,aI x2)]] [false] [] [] [] (.c h2 (.c (Zfg _ _ q4) .n)) (by kernel_rfl) rfl
def Zdt (a0:Zah) (a1:Int):Option Bool :=
  bif (decide (a1 < (1:Int))) then
    Zdx   (1:Int) a0
  else
    Zdx   a1 a0
theorem ZhV (a0:Zah) (a1:Int) (r:Bool) (hf:Zdt a0 a1 = some r):Zat Tryz.prog 122 [.agg (Zah.c a0),.one (.lit (.int .i64 a1))] (.one (.lit (.bool r))):=by
  refine Zat.of Tryz.func122 rfl rfl rfl rfl fun S0 w0 =>?_
  unfold Zdt at hf
  rcases Zaj hf with ⟨h1,hf⟩ | ⟨h1,hf⟩
  · exact ZaI Zak Post.ends 7 [rz,rz,rz] [true] ⟨[],[],[],[],[],[1,2],[2],[]⟩ (.c h1 .n) (by kernel_rfl) (Zhj S0 w0    (1:Int) a0 r hf)
  · exact ZaI Zak Post.ends 7 [rz,rz] [false] ⟨[],[],[],[],[],[1,2],[2],[]⟩ (.c h1 .n) (by kernel_rfl) (Zhj S0 w0    a1 a0 r hf)
def ZeL (a0:Int) (a1:Int):Option Int :=
  (Zbw a0).bind fun x1 =>
  (Zbw a1).bind fun x2 =>
  (Zbw (ZaD x1 x2)).bind fun x3 =>
  some x3
theorem Znm (a0:Int) (a1:Int) (r:Int) (hf:ZeL a0 a1 = some r):Zat Tryz.prog 162 [.one (.lit (.int .i64 a0)),.one (.lit (.int .i64 a1))] (.one (.lit (.int .i64 r))):=by
  refine Zat.of Tryz.func162 rfl rfl rfl rfl fun S0 w0 =>?_
  unfold ZeL at hf
  obtain ⟨x1,q1,hf⟩:=bind_some' hf
  obtain ⟨x2,q2,hf⟩:=bind_some' hf
  obtain ⟨x3,q3,hf⟩:=bind_some' hf
  obtain rfl:=oi hf
  exact Zai Zak 4 [rz,rA [(1,aI x1),(3,aI x2),(5,aI x3)]] [] [] [] [] (.c (ZbD _ _ q1) (.c (ZbD _ _ q2) (.c (ZbD _ _ q3) .n))) (by kernel_rfl) rfl
def Zfa (a0:Zab):Option Bool :=
  (Zdo a0.fNet).bind fun x1 =>
  bif x1 then
    bif (decide (a0.fUntil > (0:Int))) then
      some (decide (a0.fUntil≤(1099511627776:Int)))
    else
      some false
  else
    some false
theorem ZiL (a0:Zab) (r:Bool) (hf:Zfa a0 = some r):Zat Tryz.prog 127 [.agg (Zab.c a0)] (.one (.lit (.bool r))):=by
  refine Zat.of Tryz.func127 rfl rfl rfl rfl fun S0 w0 =>?_
  unfold Zfa at hf
  obtain ⟨x1,q1,hf⟩:=bind_some' hf
  rcases Zaj hf with ⟨h2,hf⟩ | ⟨h2,hf⟩
  · have O1:Obl _:=(.c (ZdZ _ _ q1) (.c h2 .n))
    rcases Zaj hf with ⟨h3,hf⟩ | ⟨h3,hf⟩
    · obtain rfl:=oi hf
      exact Zai Zak 4 [rz,⟨[(2,aB x1)],[(3,true),(8,true)],[],[],[],[],[]⟩] [] [] [] [] (O1.app (.c h3 .n)) (by kernel_rfl) rfl
    · obtain rfl:=oi hf
      exact Zai Zak 4 [rz,⟨[(2,aB x1)],[(3,true),(8,false)],[],[],[],[],[]⟩] [] [] [] [] (O1.app (.c h3 .n)) (by kernel_rfl) rfl
  · obtain rfl:=oi hf
    exact Zai Zak 4 [rz,⟨[(2,aB x1)],[(3,false)],[],[],[],[],[]⟩] [] [] [] [] (.c (ZdZ _ _ q1) (.c h2 .n)) (by kernel_rfl) rfl
def Zco (a0:(List Zab))  : Nat→Int→Zap→Option Int
  | 0,_,_ =>none
  | fu + 1,v5,b3 =>
    bif (decide (v5 < ((a0.length:Nat):Int))) then
      need (0≤v5∧v5 < ((a0.length:Nat):Int)) <|
      bif (decide ((a0.getD v5.toNat Zab.d).fNet = b3)) then
        some v5
      else
        Zco a0  fu (ZaD v5 (1:Int)) b3
    else
      some (-1:Int)
theorem ZkJ (S0:Nat→Prop) (w0:Zbh) (a0:(List Zab))  : ∀ (fu:Nat) (v5:Int) (b3:Zap) (r:Int),Zco a0  fu v5 b3 = some r→Good Tryz.prog 20 S0 w0 (bodyPost Tryz.prog Tryz.f237 (Post S0 w0 (.one (.lit (.int .i64 r))))) (at_ [1,0,1,0] (ZbM Tryz.f237)) ⟨[(0,.one (cL 5 Zab.c Zab.d a0)),(3,.one (.ptr 3 0)),(5,.one (.lit (.int .i64 v5)))],[(3,.box [.lit (.bool b3.fAddr.fV6),.lit (.int .u64 b3.fAddr.fHi),.lit (.int .u64 b3.fAddr.fLo),.lit (.int .i64 b3.fBits)])]⟩:=by
  intro fu
  induction fu with
  | zero =>
    intro v5 b3 r hf
    simp [Zco] at hf
  | succ fu ih =>
    intro v5 b3 r hf
    unfold Zco at hf
    rcases Zaj hf with ⟨h1,hf⟩ | ⟨h1,hf⟩
    · obtain ⟨o2,hf⟩:=Zas hf
      let R1:List RA:=[rz,rA [(6,aB (decide ((a0.getD v5.toNat Zab.d).fNet = b3)))],rz]
      have O2:Obl _:=(.c h1 (.c o2 (.c (ZjX ((a0.getD v5.toNat Zab.d).fNet) b3 (.tmp 16) (.tmp 17)) .n)))
      rcases Zaj hf with ⟨h3,hf⟩ | ⟨h3,hf⟩
      · obtain rfl:=oi hf
        exact Zai Zak 13 R1 [true,true] [] [] [] (O2.app (.c h3 .n)) (by kernel_rfl) rfl
      · exact ZaI Zak Post.ends 15 R1 [true,false] ⟨[],[],[],[],[],[0,3,5],[3],[]⟩ (O2.app (.c h3 .n)) (by kernel_rfl) (ih (ZaD v5 (1:Int)) b3 r hf)
    · obtain rfl:=oi hf
      exact Zai Zak 8 [rz,rz] [false] [] [] [] (.c h1 .n) (by kernel_rfl) rfl
def ZeZ (a0:(List Zab)) (a1:Zap):Option Int :=
  Zco a0  ((((a0.length:Nat):Int) - (0:Int)).toNat + 2) (0:Int) a1
theorem Zmk (a0:(List Zab)) (a1:Zap) (r:Int) (hf:ZeZ a0 a1 = some r):Zat Tryz.prog 237 [.one (cL 5 Zab.c Zab.d a0),.agg (Zap.c a1)] (.one (.lit (.int .i64 r))):=by
  refine Zat.of Tryz.func237 rfl rfl rfl rfl fun S0 w0 =>?_
  unfold ZeZ at hf
  exact ZaI Zak Post.ends 6 [rz,rz] [] ⟨[],[],[],[],[],[0,3,5],[3],[]⟩ .n (by kernel_rfl) (ZkJ S0 w0 a0   ((((a0.length:Nat):Int) - (0:Int)).toNat + 2) (0:Int) a1 r hf)
def Zdy   (v5:Bool):Option Int :=
  bif v5 then
    some (-1:Int)
  else
    some (1:Int)
theorem Zhk (S0:Nat→Prop) (w0:Zbh)   (v5:Bool) (r:Int) (hf:Zdy   v5 = some r):Good Tryz.prog 33 S0 w0 (bodyPost Tryz.prog Tryz.f210 (Post S0 w0 (.one (.lit (.int .i64 r))))) (at_ [1,1,1,1,1] (ZbM Tryz.f210)) ⟨[(5,.one (.lit (.bool v5)))],[]⟩:=by
  unfold Zdy at hf
  rcases Zaj hf with ⟨h4,hf⟩ | ⟨h4,hf⟩
  · obtain rfl:=oi hf
    exact Zai Zak 6 [rz,rz] [true] [] [] [] (.c h4 .n) (by kernel_rfl) rfl
  · obtain rfl:=oi hf
    exact Zai Zak 7 [rz,rz] [false] [] [] [] (.c h4 .n) (by kernel_rfl) rfl
def Zdz   (v5:Bool) (b2:Zag) (b3:Zag):Option Int :=
  bif (!(b2.fV6 == b3.fV6)) then
    Zdy   (!b2.fV6)
  else
    Zdy   v5
theorem Zhl (S0:Nat→Prop) (w0:Zbh)   (v5:Bool) (b2:Zag) (b3:Zag) (r:Int) (hf:Zdz   v5 b2 b3 = some r):Good Tryz.prog 33 S0 w0 (bodyPost Tryz.prog Tryz.f210 (Post S0 w0 (.one (.lit (.int .i64 r))))) (at_ [1,1,1,1] (ZbM Tryz.f210)) ⟨[(2,.one (.ptr 2 0)),(3,.one (.ptr 3 0)),(5,.one (.lit (.bool v5)))],[(2,.box [.lit (.bool b2.fV6),.lit (.int .u64 b2.fHi),.lit (.int .u64 b2.fLo)]),(3,.box [.lit (.bool b3.fV6),.lit (.int .u64 b3.fHi),.lit (.int .u64 b3.fLo)])]⟩:=by
  unfold Zdz at hf
  rcases Zaj hf with ⟨h3,hf⟩ | ⟨h3,hf⟩
  · exact ZaI Zak Post.ends 5 [rz,rz] [true] ⟨[],[],[],[],[],[5],[],[]⟩ (.c h3 .n) (by kernel_rfl) (Zhk S0 w0    (!b2.fV6) r hf)
  · exact ZaI Zak Post.ends 5 [rz] [false] ⟨[],[],[],[],[],[5],[],[]⟩ (.c h3 .n) (by kernel_rfl) (Zhk S0 w0    v5 r hf)
def Zeq (a0:Zag) (a1:Zag):Option Int :=
  bif (decide (a0 = a1)) then
    some (0:Int)
  else
    bif (a0.fHi != a1.fHi) then
      Zdz   (decide (a0.fHi < a1.fHi)) a0 a1
    else
      Zdz   (decide (a0.fLo < a1.fLo)) a0 a1
theorem ZhY (a0:Zag) (a1:Zag) (r:Int) (hf:Zeq a0 a1 = some r):Zat Tryz.prog 210 [.agg (Zag.c a0),.agg (Zag.c a1)] (.one (.lit (.int .i64 r))):=by
  refine Zat.of Tryz.func210 rfl rfl rfl rfl fun S0 w0 =>?_
  unfold Zeq at hf
  have O1:Obl _:=(.c (Zjp a0 a1 (.tmp 6) (.tmp 7)) .n)
  rcases Zaj hf with ⟨h1,hf⟩ | ⟨h1,hf⟩
  · obtain rfl:=oi hf
    exact Zai Zak 8 [rz,rA [(2,aB (decide (a0 = a1)))],rz] [true] [] [] [] (O1.app (.c h1 .n)) (by kernel_rfl) rfl
  · rcases Zaj hf with ⟨h2,hf⟩ | ⟨h2,hf⟩
    · exact ZaI Zak Post.ends 14 [rz,rA [(2,aB (decide (a0 = a1)))],rz,rz,rz] [false,true] ⟨[],[],[],[],[],[2,3,5],[2,3],[]⟩ (O1.app (.c h1 (.c h2 .n))) (by kernel_rfl) (Zhl S0 w0    (decide (a0.fHi < a1.fHi)) a0 a1 r hf)
    · exact ZaI Zak Post.ends 14 [rz,rA [(2,aB (decide (a0 = a1)))],rz,rz] [false,false] ⟨[],[],[],[],[],[2,3,5],[2,3],[]⟩ (O1.app (.c h1 (.c h2 .n))) (by kernel_rfl) (Zhl S0 w0    (decide (a0.fLo < a1.fLo)) a0 a1 r hf)
def Zep (a0:Zap) (a1:Zap):Option Int :=
  (Zeq a0.fAddr a1.fAddr).bind fun x1 =>
  bif (x1 != (0:Int)) then
    some x1
  else
    bif (a0.fBits == a1.fBits) then
      some x1
    else
      bif (decide (a0.fBits < a1.fBits)) then
        some (-1:Int)
      else
        some (1:Int)
theorem Zli (a0:Zap) (a1:Zap) (r:Int) (hf:Zep a0 a1 = some r):Zat Tryz.prog 128 [.agg (Zap.c a0),.agg (Zap.c a1)] (.one (.lit (.int .i64 r))):=by
  refine Zat.of Tryz.func128 rfl rfl rfl rfl fun S0 w0 =>?_
  unfold Zep at hf
  obtain ⟨x1,q1,hf⟩:=bind_some' hf
  rcases Zaj hf with ⟨h2,hf⟩ | ⟨h2,hf⟩
  · obtain rfl:=oi hf
    exact Zai Zak 10 [rz,rA [(4,aI x1)],rB [(2,true)],rz] [true] [] [] [] (.c (ZhY _ _ _ q1) (.c h2 (.c (show true = true from rfl) .n))) (by kernel_rfl) rfl
  · have O1:Obl _:=(.c (ZhY _ _ _ q1) (.c h2 .n))
    rcases Zaj hf with ⟨h3,hf⟩ | ⟨h3,hf⟩
    · obtain rfl:=oi hf
      exact Zai Zak 10 [rz,rA [(4,aI x1)],rB [(2,false)],rz] [true] [] [] [] (O1.app (.c h3 .n)) (by kernel_rfl) rfl
    · let R2:List RA:=[rz,rA [(4,aI x1)],rB [(2,false)],rz,rz]
      rcases Zaj hf with ⟨h4,hf⟩ | ⟨h4,hf⟩
      · obtain rfl:=oi hf
        exact Zai Zak 15 R2 [false,true] [] [] [] (O1.app (.c h3 (.c h4 .n))) (by kernel_rfl) rfl
      · obtain rfl:=oi hf
        exact Zai Zak 16 R2 [false,false] [] [] [] (O1.app (.c h3 (.c h4 .n))) (by kernel_rfl) rfl
def ZcX (a0:(List Zab))  : Nat→Int→Zab→Option ((List Zab) × Int)
  | 0,_,_ =>none
  | fu + 1,v10,b4 =>
    bif (decide (v10 < ((a0.length:Nat):Int))) then
      need (0≤v10∧v10 < ((a0.length:Nat):Int)) <|
      (Zep ((a0.getD v10.toNat Zab.d).fNet) b4.fNet).bind fun x3 =>
      bif (decide (x3≤(0:Int))) then
        ZcX a0  fu (ZaD v10 (1:Int)) b4
      else
        need (0≤v10∧v10≤((a0.length:Nat):Int)) <|
        need ((([]:List Zab) ++ (a0.take v10.toNat)).length * 40≤140737488355328∧(([]:List Zab) ++ (a0.take v10.toNat)).length≤maxLen) <|
        need (((([]:List Zab) ++ (a0.take v10.toNat)) ++ ([b4]:List Zab)).length * 40≤140737488355328∧((([]:List Zab) ++ (a0.take v10.toNat)) ++ ([b4]:List Zab)).length≤maxLen) <|
        need ((((([]:List Zab) ++ (a0.take v10.toNat)) ++ ([b4]:List Zab)) ++ (a0.drop v10.toNat)).length * 40≤140737488355328∧(((([]:List Zab) ++ (a0.take v10.toNat)) ++ ([b4]:List Zab)) ++ (a0.drop v10.toNat)).length≤maxLen) <|
        some ((((([]:List Zab) ++ (a0.take v10.toNat)) ++ ([b4]:List Zab)) ++ (a0.drop v10.toNat)),(0:Int))
    else
      need (0≤v10∧v10≤((a0.length:Nat):Int)) <|
      need ((([]:List Zab) ++ (a0.take v10.toNat)).length * 40≤140737488355328∧(([]:List Zab) ++ (a0.take v10.toNat)).length≤maxLen) <|
      need (((([]:List Zab) ++ (a0.take v10.toNat)) ++ ([b4]:List Zab)).length * 40≤140737488355328∧((([]:List Zab) ++ (a0.take v10.toNat)) ++ ([b4]:List Zab)).length≤maxLen) <|
      need ((((([]:List Zab) ++ (a0.take v10.toNat)) ++ ([b4]:List Zab)) ++ (a0.drop v10.toNat)).length * 40≤140737488355328∧(((([]:List Zab) ++ (a0.take v10.toNat)) ++ ([b4]:List Zab)) ++ (a0.drop v10.toNat)).length≤maxLen) <|
      some ((((([]:List Zab) ++ (a0.take v10.toNat)) ++ ([b4]:List Zab)) ++ (a0.drop v10.toNat)),(0:Int))
theorem ZlF (S0:Nat→Prop) (w0:Zbh) (a0:(List Zab))  : ∀ (fu:Nat) (v10:Int) (b4:Zab) (r:((List Zab) × Int)),ZcX a0  fu v10 b4 = some r→Good Tryz.prog 73 S0 w0 (bodyPost Tryz.prog Tryz.f163 (Post S0 w0 (.tup [(false,(cLs 5 Zab.c Zab.d) r.1),(false,(cI .i64) r.2)]))) (at_ [1,1,1,1,1,1,0,0] (ZbM Tryz.f163)) ⟨[(0,.one (cL 5 Zab.c Zab.d a0)),(4,.one (.ptr 4 0)),(10,.one (.lit (.int .i64 v10)))],[(4,.box [.lit (.bool b4.fNet.fAddr.fV6),.lit (.int .u64 b4.fNet.fAddr.fHi),.lit (.int .u64 b4.fNet.fAddr.fLo),.lit (.int .i64 b4.fNet.fBits),.lit (.int .i64 b4.fUntil)])]⟩:=by
  intro fu
  induction fu with
  | zero =>
    intro v10 b4 r hf
    simp [ZcX] at hf
  | succ fu ih =>
    intro v10 b4 r hf
    unfold ZcX at hf
    rcases Zaj hf with ⟨h9,hf⟩ | ⟨h9,hf⟩
    · obtain ⟨o10,hf⟩:=Zas hf
      obtain ⟨x3,q11,hf⟩:=bind_some' hf
      let R1:List RA:=[⟨[(12,aI x3)],[(4,true)],[],[],[],[],[]⟩]
      have O2:Obl _:=(.c h9 (.c o10 (.c (Zli _ _ _ q11) .n)))
      rcases Zaj hf with ⟨h12,hf⟩ | ⟨h12,hf⟩
      · exact ZaI Zak Post.ends 10 (R1 ++ [rz]) [true] ⟨[],[],[],[],[],[0,4,10],[4],[]⟩ (O2.app (.c h12 .n)) (by kernel_rfl) (ih (ZaD v10 (1:Int)) b4 r hf)
      · obtain ⟨o13,hf⟩:=Zas hf
        obtain ⟨o14,hf⟩:=Zas hf
        obtain ⟨o15,hf⟩:=Zas hf
        obtain ⟨o16,hf⟩:=Zas hf
        obtain rfl:=oi hf
        exact Zai Zak 10 (R1 ++ [⟨[(0,.c ([]:List Zab).length (Zaq Zab.c Zab.d ([]:List Zab))),(4,.c ((([]:List Zab) ++ (a0.take v10.toNat)).length) (Zaq Zab.c Zab.d (([]:List Zab) ++ (a0.take v10.toNat)))),(7,.c (((([]:List Zab) ++ (a0.take v10.toNat)) ++ ([b4]:List Zab)).length) (Zaq Zab.c Zab.d ((([]:List Zab) ++ (a0.take v10.toNat)) ++ ([b4]:List Zab))))],[],[],[],[],[(3,((a0.take v10.toNat).length,Zaq Zab.c Zab.d (a0.take v10.toNat))),(6,(([b4]:List Zab).length,Zaq Zab.c Zab.d ([b4]:List Zab)))],[]⟩,⟨[(4,.c ((((([]:List Zab) ++ (a0.take v10.toNat)) ++ ([b4]:List Zab)) ++ (a0.drop v10.toNat)).length) (Zaq Zab.c Zab.d (((([]:List Zab) ++ (a0.take v10.toNat)) ++ ([b4]:List Zab)) ++ (a0.drop v10.toNat))))],[],[],[],[],[(3,((a0.drop v10.toNat).length,Zaq Zab.c Zab.d (a0.drop v10.toNat)))],[]⟩]) [false] [72] [] [] (O2.app (.c h12 (.c (show ([]:List Zab).length = 0 from rfl) (.c (show ∀ i j,i < 0→j < 5→Zaq Zab.c Zab.d ([]:List Zab) i j = (([]:List Zab).flatMap Zab.c).getD (i * 5 + j) .junk from (fun i j hi hj =>ZaS (sz:=5) (e:=Zab.c) (d:=Zab.d) (fun _ =>rfl) ([]:List Zab) i j hi hj)) (.c (show (a0.take v10.toNat).length = v10.toNat∧∀ i j,i < v10.toNat→j < 5→Zaq Zab.c Zab.d (a0.take v10.toNat) i j = Zaq Zab.c Zab.d a0 i j from (ZsK _ _ o13)) (.c o13 (.c (ZfF (sz:=5) (e:=Zab.c) (d:=Zab.d) ([]:List Zab) (a0.take v10.toNat)) (.c o14.1 (.c o14.2 (.c (show ([b4]:List Zab).length = 1∧∀ i j,i < 1→j < 5→Zaq Zab.c Zab.d ([b4]:List Zab) i j = (([b4]:List Zab).flatMap Zab.c).getD (i * 5 + j) .junk from ⟨rfl,fun i j hi hj =>ZaS (sz:=5) (e:=Zab.c) (d:=Zab.d) (fun _ =>rfl) ([b4]:List Zab) i j hi hj⟩) (.c (ZfF (sz:=5) (e:=Zab.c) (d:=Zab.d) (([]:List Zab) ++ (a0.take v10.toNat)) ([b4]:List Zab)) (.c o15.1 (.c o15.2 (.c (show (a0.drop v10.toNat).length = a0.length - v10.toNat∧∀ i j,i < a0.length - v10.toNat→j < 5→Zaq Zab.c Zab.d (a0.drop v10.toNat) i j = Zaq Zab.c Zab.d a0 (v10.toNat + i) j from (ZpB _ _)) (.c o13 (.c (ZfF (sz:=5) (e:=Zab.c) (d:=Zab.d) ((([]:List Zab) ++ (a0.take v10.toNat)) ++ ([b4]:List Zab)) (a0.drop v10.toNat)) (.c o16.1 (.c o16.2 .n)))))))))))))))))) (by kernel_rfl) rfl
    · obtain ⟨o17,hf⟩:=Zas hf
      obtain ⟨o18,hf⟩:=Zas hf
      obtain ⟨o19,hf⟩:=Zas hf
      obtain ⟨o20,hf⟩:=Zas hf
      obtain rfl:=oi hf
      exact Zai Zak 10 [rB [(4,false)],⟨[(0,.c ([]:List Zab).length (Zaq Zab.c Zab.d ([]:List Zab))),(4,.c ((([]:List Zab) ++ (a0.take v10.toNat)).length) (Zaq Zab.c Zab.d (([]:List Zab) ++ (a0.take v10.toNat)))),(7,.c (((([]:List Zab) ++ (a0.take v10.toNat)) ++ ([b4]:List Zab)).length) (Zaq Zab.c Zab.d ((([]:List Zab) ++ (a0.take v10.toNat)) ++ ([b4]:List Zab))))],[],[],[],[],[(3,((a0.take v10.toNat).length,Zaq Zab.c Zab.d (a0.take v10.toNat))),(6,(([b4]:List Zab).length,Zaq Zab.c Zab.d ([b4]:List Zab)))],[]⟩,⟨[(4,.c ((((([]:List Zab) ++ (a0.take v10.toNat)) ++ ([b4]:List Zab)) ++ (a0.drop v10.toNat)).length) (Zaq Zab.c Zab.d (((([]:List Zab) ++ (a0.take v10.toNat)) ++ ([b4]:List Zab)) ++ (a0.drop v10.toNat))))],[],[],[],[],[(3,((a0.drop v10.toNat).length,Zaq Zab.c Zab.d (a0.drop v10.toNat)))],[]⟩] [false] [72] [] [] (.c h9 (.c (show false = false from rfl) (.c (show ([]:List Zab).length = 0 from rfl) (.c (show ∀ i j,i < 0→j < 5→Zaq Zab.c Zab.d ([]:List Zab) i j = (([]:List Zab).flatMap Zab.c).getD (i * 5 + j) .junk from (fun i j hi hj =>ZaS (sz:=5) (e:=Zab.c) (d:=Zab.d) (fun _ =>rfl) ([]:List Zab) i j hi hj)) (.c (show (a0.take v10.toNat).length = v10.toNat∧∀ i j,i < v10.toNat→j < 5→Zaq Zab.c Zab.d (a0.take v10.toNat) i j = Zaq Zab.c Zab.d a0 i j from (ZsK _ _ o17)) (.c o17 (.c (ZfF (sz:=5) (e:=Zab.c) (d:=Zab.d) ([]:List Zab) (a0.take v10.toNat)) (.c o18.1 (.c o18.2 (.c (show ([b4]:List Zab).length = 1∧∀ i j,i < 1→j < 5→Zaq Zab.c Zab.d ([b4]:List Zab) i j = (([b4]:List Zab).flatMap Zab.c).getD (i * 5 + j) .junk from ⟨rfl,fun i j hi hj =>ZaS (sz:=5) (e:=Zab.c) (d:=Zab.d) (fun _ =>rfl) ([b4]:List Zab) i j hi hj⟩) (.c (ZfF (sz:=5) (e:=Zab.c) (d:=Zab.d) (([]:List Zab) ++ (a0.take v10.toNat)) ([b4]:List Zab)) (.c o19.1 (.c o19.2 (.c (show (a0.drop v10.toNat).length = a0.length - v10.toNat∧∀ i j,i < a0.length - v10.toNat→j < 5→Zaq Zab.c Zab.d (a0.drop v10.toNat) i j = Zaq Zab.c Zab.d a0 (v10.toNat + i) j from (ZpB _ _)) (.c o17 (.c (ZfF (sz:=5) (e:=Zab.c) (d:=Zab.d) ((([]:List Zab) ++ (a0.take v10.toNat)) ++ ([b4]:List Zab)) (a0.drop v10.toNat)) (.c o20.1 (.c o20.2 .n)))))))))))))))))) (by kernel_rfl) rfl
def Zgk (a0:(List Zab)) (a1:Zab) (a2:Int):Option ((List Zab) × Int) :=
  (Zfa a1).bind fun x1 =>
  bif (!x1) then
    some (([]:(List Zab)),(1:Int))
  else
    (ZeZ a0 a1.fNet).bind fun x2 =>
    bif (decide (x2 ≥ (0:Int))) then
      need ((([]:List Zab) ++ a0).length * 40≤140737488355328∧(([]:List Zab) ++ a0).length≤maxLen) <|
      need (0≤x2∧x2 < (((([]:List Zab) ++ a0).length:Nat):Int)) <|
      bif (decide (a1.fUntil > ((([]:List Zab) ++ a0).getD x2.toNat Zab.d).fUntil)) then
        some (((([]:List Zab) ++ a0).set x2.toNat (Zab.mk (((([]:List Zab) ++ a0).getD x2.toNat Zab.d).fNet) a1.fUntil)),(0:Int))
      else
        some ((([]:List Zab) ++ a0),(0:Int))
    else
      bif (decide (((a0.length:Nat):Int) ≥ a2)) then
        some (([]:(List Zab)),(5:Int))
      else
        ZcX a0  ((((a0.length:Nat):Int) - (0:Int)).toNat + 2) (0:Int) a1
theorem Znj (a0:(List Zab)) (a1:Zab) (a2:Int) (r:((List Zab) × Int)) (hf:Zgk a0 a1 a2 = some r):Zat Tryz.prog 163 [.one (cL 5 Zab.c Zab.d a0),.agg (Zab.c a1),.one (.lit (.int .i64 a2))] (.tup [(false,(cLs 5 Zab.c Zab.d) r.1),(false,(cI .i64) r.2)]):=by
  refine Zat.of Tryz.func163 rfl rfl rfl rfl fun S0 w0 =>?_
  unfold Zgk at hf
  obtain ⟨x1,q1,hf⟩:=bind_some' hf
  rcases Zaj hf with ⟨h2,hf⟩ | ⟨h2,hf⟩
  · obtain rfl:=oi hf
    exact Zai Zak 8 [rz,rA [(1,aB x1)],rz] [true] [] [] [(6,[(0,cL 5 Zab.c Zab.d [])])] (.c (ZiL _ _ q1) (.c h2 .n)) (by kernel_rfl) rfl
  · obtain ⟨x2,q3,hf⟩:=bind_some' hf
    have O3:Obl _:=(.c (ZiL _ _ q1) (.c h2 (.c (Zmk _ _ _ q3) .n)))
    rcases Zaj hf with ⟨h4,hf⟩ | ⟨h4,hf⟩
    · obtain ⟨o5,hf⟩:=Zas hf
      obtain ⟨o6,hf⟩:=Zas hf
      let R4:List RA:=[rz,rA [(1,aB x1)],rA [(3,aI x2)],rz,rA [(0,.c ([]:List Zab).length (Zaq Zab.c Zab.d ([]:List Zab))),(2,.c ((([]:List Zab) ++ a0).length) (Zaq Zab.c Zab.d (([]:List Zab) ++ a0)))],rz]
      have O5:Obl _:=(O3.app (.c h4 (.c (show ([]:List Zab).length = 0 from rfl) (.c (show ∀ i j,i < 0→j < 5→Zaq Zab.c Zab.d ([]:List Zab) i j = (([]:List Zab).flatMap Zab.c).getD (i * 5 + j) .junk from (fun i j hi hj =>ZaS (sz:=5) (e:=Zab.c) (d:=Zab.d) (fun _ =>rfl) ([]:List Zab) i j hi hj)) (.c (ZfF (sz:=5) (e:=Zab.c) (d:=Zab.d) ([]:List Zab) a0) (.c o5.1 (.c o5.2 (.c o6 (.c (show x2.toNat < (([]:List Zab) ++ a0).length from (ltOf o6)) .n)))))))))
      rcases Zaj hf with ⟨h7,hf⟩ | ⟨h7,hf⟩
      · obtain rfl:=oi hf
        exact Zai Zak 22 (R4 ++ [rA [(6,.c ((([]:List Zab) ++ a0).set x2.toNat (Zab.mk (((([]:List Zab) ++ a0).getD x2.toNat Zab.d).fNet) a1.fUntil)).length (Zaq Zab.c Zab.d ((([]:List Zab) ++ a0).set x2.toNat (Zab.mk (((([]:List Zab) ++ a0).getD x2.toNat Zab.d).fNet) a1.fUntil))))],rz]) [false,true,true] [23] [] [] (O5.app (.c h7 (.c o6 (.c (show ((([]:List Zab) ++ a0).set x2.toNat (Zab.mk (((([]:List Zab) ++ a0).getD x2.toNat Zab.d).fNet) a1.fUntil)).length = (([]:List Zab) ++ a0).length from List.length_set) (.c (show x2.toNat < (([]:List Zab) ++ a0).length from (ltOf o6)) (.c (show ExtU 5 ((([]:List Zab) ++ a0).length) (Zaq Zab.c Zab.d (([]:List Zab) ++ a0)) x2.toNat 4 [.lit (.int .i64 a1.fUntil)] (Zaq Zab.c Zab.d ((([]:List Zab) ++ a0).set x2.toNat (Zab.mk (((([]:List Zab) ++ a0).getD x2.toNat Zab.d).fNet) a1.fUntil))) from (ZxC _ _ _ _ _ rfl (Nat.le_of_ble_eq_true rfl))) .n)))))) (by kernel_rfl) rfl
      · obtain rfl:=oi hf
        exact Zai Zak 22 (R4 ++ [rz]) [false,true,false] [23] [] [] (O5.app (.c h7 .n)) (by kernel_rfl) rfl
    · let R6:List RA:=[rz,rA [(1,aB x1)],rA [(3,aI x2)],rz,rz,rz]
      rcases Zaj hf with ⟨h8,hf⟩ | ⟨h8,hf⟩
      · obtain rfl:=oi hf
        exact Zai Zak 20 R6 [false,false,true] [] [] [(6,[(0,cL 5 Zab.c Zab.d [])])] (O3.app (.c h4 (.c h8 .n))) (by kernel_rfl) rfl
      · exact ZaI Zak Post.ends 23 R6 [false,false,false] ⟨[],[],[],[],[],[0,4,10],[4],[]⟩ (O3.app (.c h4 (.c h8 .n))) (by kernel_rfl) (ZlF S0 w0 a0   ((((a0.length:Nat):Int) - (0:Int)).toNat + 2) (0:Int) a1 r hf)
def ZcE   : Nat→Int→Zap→Zag→Option Bool
  | 0,_,_,_ =>none
  | fu + 1,v5,b2,b3 =>
    bif (decide (v5 < b2.fBits)) then
      (Zdr b2.fAddr v5).bind fun x3 =>
      (Zdr b3 v5).bind fun x4 =>
      bif (x3 != x4) then
        some false
      else
        ZcE   fu (ZaD v5 (1:Int)) b2 b3
    else
      some true
theorem ZlG (S0:Nat→Prop) (w0:Zbh)   : ∀ (fu:Nat) (v5:Int) (b2:Zap) (b3:Zag) (r:Bool),ZcE   fu v5 b2 b3 = some r→Good Tryz.prog 36 S0 w0 (bodyPost Tryz.prog Tryz.f240 (Post S0 w0 (.one (.lit (.bool r))))) (at_ [1,1,0,1,0] (ZbM Tryz.f240)) ⟨[(2,.one (.ptr 2 0)),(3,.one (.ptr 3 0)),(5,.one (.lit (.int .i64 v5)))],[(2,.box [.lit (.bool b2.fAddr.fV6),.lit (.int .u64 b2.fAddr.fHi),.lit (.int .u64 b2.fAddr.fLo),.lit (.int .i64 b2.fBits)]),(3,.box [.lit (.bool b3.fV6),.lit (.int .u64 b3.fHi),.lit (.int .u64 b3.fLo)])]⟩:=by
  intro fu
  induction fu with
  | zero =>
    intro v5 b2 b3 r hf
    simp [ZcE] at hf
  | succ fu ih =>
    intro v5 b2 b3 r hf
    unfold ZcE at hf
    rcases Zaj hf with ⟨h6,hf⟩ | ⟨h6,hf⟩
    · obtain ⟨x3,q7,hf⟩:=bind_some' hf
      obtain ⟨x4,q8,hf⟩:=bind_some' hf
      have O1:Obl _:=(.c h6 (.c (Zhv _ _ _ q7) (.c (Zhv _ _ _ q8) .n)))
      rcases Zaj hf with ⟨h9,hf⟩ | ⟨h9,hf⟩
      · obtain rfl:=oi hf
        exact Zai Zak 13 [rz,rA [(3,aI x3),(6,aI x4)],rz] [true,true] [] [] [] (O1.app (.c h9 .n)) (by kernel_rfl) rfl
      · exact ZaI Zak Post.ends 15 [rz,rA [(3,aI x3),(6,aI x4)],rz] [true,false] ⟨[],[],[],[],[],[2,3,5],[2,3],[]⟩ (O1.app (.c h9 .n)) (by kernel_rfl) (ih (ZaD v5 (1:Int)) b2 b3 r hf)
    · obtain rfl:=oi hf
      exact Zai Zak 8 [rz,rz] [false] [] [] [] (.c h6 .n) (by kernel_rfl) rfl
def Zgm (a0:Zap) (a1:Zag):Option Bool :=
  (Zdo a0).bind fun x1 =>
  bif (!x1) then
    some false
  else
    (ZbP a1).bind fun x2 =>
    bif (!x2) then
      some false
    else
      bif (!(a0.fAddr.fV6 == a1.fV6)) then
        some false
      else
        ZcE   1000000 (0:Int) a0 a1
theorem Znl (a0:Zap) (a1:Zag) (r:Bool) (hf:Zgm a0 a1 = some r):Zat Tryz.prog 240 [.agg (Zap.c a0),.agg (Zag.c a1)] (.one (.lit (.bool r))):=by
  refine Zat.of Tryz.func240 rfl rfl rfl rfl fun S0 w0 =>?_
  unfold Zgm at hf
  obtain ⟨x1,q1,hf⟩:=bind_some' hf
  rcases Zaj hf with ⟨h2,hf⟩ | ⟨h2,hf⟩
  · obtain rfl:=oi hf
    exact Zai Zak 8 [rz,⟨[(1,aB x1)],[(3,true)],[],[],[],[],[]⟩,rz] [true] [] [] [] (.c (ZdZ _ _ q1) (.c h2 (.c (show true = true from rfl) .n))) (by kernel_rfl) rfl
  · obtain ⟨x2,q3,hf⟩:=bind_some' hf
    have O2:Obl _:=(.c (ZdZ _ _ q1) (.c h2 (.c (ZbC _ _ q3) .n)))
    rcases Zaj hf with ⟨h4,hf⟩ | ⟨h4,hf⟩
    · obtain rfl:=oi hf
      exact Zai Zak 8 [rz,⟨[(1,aB x1),(5,aB x2)],[(3,false),(8,true)],[],[],[],[],[]⟩,rz] [true] [] [] [] (O2.app (.c h4 (.c (show true = true from rfl) .n))) (by kernel_rfl) rfl
    · let R3:List RA:=[rz,⟨[(1,aB x1),(5,aB x2)],[(3,false),(8,false)],[],[],[],[],[]⟩,rz]
      rcases Zaj hf with ⟨h5,hf⟩ | ⟨h5,hf⟩
      · obtain rfl:=oi hf
        exact Zai Zak 8 R3 [true] [] [] [] (O2.app (.c h4 (.c h5 .n))) (by kernel_rfl) rfl
      · exact ZaI Zak Post.ends 11 R3 [false] ⟨[],[],[],[],[],[2,3,5],[2,3],[]⟩ (O2.app (.c h4 (.c h5 .n))) (by kernel_rfl) (ZlG S0 w0    1000000 (0:Int) a0 a1 r hf)
def ZcO (a0:(List Zaa)) (a2:Bool)  : Nat→Int→(List Zaa)→Zap→Option (List Zaa)
  | 0,_,_,_ =>none
  | fu + 1,v8,w7,b4 =>
    bif (decide (v8 < ((a0.length:Nat):Int))) then
      need (0≤v8∧v8 < ((a0.length:Nat):Int)) <|
      (Zgm b4 (((a0.getD v8.toNat Zaa.d).fEnd).fAddr)).bind fun x1 =>
      bif (x1 == a2) then
        need ((w7 ++ ([(a0.getD v8.toNat Zaa.d)]:List Zaa)).length * 80≤140737488355328∧(w7 ++ ([(a0.getD v8.toNat Zaa.d)]:List Zaa)).length≤maxLen) <|
        ZcO a0 a2  fu (ZaD v8 (1:Int)) (w7 ++ ([(a0.getD v8.toNat Zaa.d)]:List Zaa)) b4
      else
        ZcO a0 a2  fu (ZaD v8 (1:Int)) w7 b4
    else
      some w7
theorem Zmh (S0:Nat→Prop) (w0:Zbh) (a0:(List Zaa)) (a2:Bool)  : ∀ (fu:Nat) (v8:Int) (w7:(List Zaa)) (b4:Zap) (r:(List Zaa)),ZcO a0 a2  fu v8 w7 b4 = some r→Good Tryz.prog 34 S0 w0 (bodyPost Tryz.prog Tryz.f185 (Zdj S0 w0 [(99999,.rows 44 10 r.length (Zaq Zaa.c Zaa.d r))] (.one (.osl 99999 r.length)))) (at_ [1,1,0,1,0] (ZbM Tryz.f185)) ⟨[(0,.one (cL 10 Zaa.c Zaa.d a0)),(2,.one (.lit (.bool a2))),(4,.one (.ptr 4 0)),(7,.one (.osl 7 w7.length)),(8,.one (.lit (.int .i64 v8)))],[(7,.rows 44 10 w7.length (Zaq Zaa.c Zaa.d w7)),(4,.box [.lit (.bool b4.fAddr.fV6),.lit (.int .u64 b4.fAddr.fHi),.lit (.int .u64 b4.fAddr.fLo),.lit (.int .i64 b4.fBits)])]⟩:=by
  intro fu
  induction fu with
  | zero =>
    intro v8 w7 b4 r hf
    simp [ZcO] at hf
  | succ fu ih =>
    intro v8 w7 b4 r hf
    unfold ZcO at hf
    rcases Zaj hf with ⟨h1,hf⟩ | ⟨h1,hf⟩
    · obtain ⟨o2,hf⟩:=Zas hf
      obtain ⟨x1,q3,hf⟩:=bind_some' hf
      have O1:Obl _:=(.c h1 (.c o2 (.c (Znl _ _ _ q3) .n)))
      rcases Zaj hf with ⟨h4,hf⟩ | ⟨h4,hf⟩
      · obtain ⟨o5,hf⟩:=Zas hf
        exact ZaI Zak Zdj.ends 15 [rz,rA [(7,aB x1)],⟨[(6,.c ((w7 ++ ([(a0.getD v8.toNat Zaa.d)]:List Zaa)).length) (Zaq Zaa.c Zaa.d (w7 ++ ([(a0.getD v8.toNat Zaa.d)]:List Zaa))))],[],[],[],[],[(5,(([(a0.getD v8.toNat Zaa.d)]:List Zaa).length,Zaq Zaa.c Zaa.d ([(a0.getD v8.toNat Zaa.d)]:List Zaa)))],[]⟩,rz] [true,true] ⟨[],[],[],[],[],[0,2,4,7,8],[32,4],[(32,7)]⟩ (O1.app (.c h4 (.c o2 (.c (show ([(a0.getD v8.toNat Zaa.d)]:List Zaa).length = 1∧∀ i j,i < 1→j < 10→Zaq Zaa.c Zaa.d ([(a0.getD v8.toNat Zaa.d)]:List Zaa) i j = (([(a0.getD v8.toNat Zaa.d)]:List Zaa).flatMap Zaa.c).getD (i * 10 + j) .junk from ⟨rfl,fun i j hi hj =>ZaS (sz:=10) (e:=Zaa.c) (d:=Zaa.d) (fun _ =>rfl) ([(a0.getD v8.toNat Zaa.d)]:List Zaa) i j hi hj⟩) (.c (ZfF (sz:=10) (e:=Zaa.c) (d:=Zaa.d) w7 ([(a0.getD v8.toNat Zaa.d)]:List Zaa)) (.c o5.1 (.c o5.2 .n))))))) (by kernel_rfl) (ih (ZaD v8 (1:Int)) (w7 ++ ([(a0.getD v8.toNat Zaa.d)]:List Zaa)) b4 r hf)
      · exact ZaI Zak Zdj.ends 15 [rz,rA [(7,aB x1)],rz] [true,false] ⟨[],[],[],[],[],[0,2,4,7,8],[7,4],[]⟩ (O1.app (.c h4 .n)) (by kernel_rfl) (ih (ZaD v8 (1:Int)) w7 b4 r hf)
    · obtain rfl:=oi hf
      exact Zdc Zak 8 [rz,rz] [false] ⟨[],[],[],[],[],[6],[7],[(7,99999)]⟩ (.c h1 .n) (by kernel_rfl)
def ZdK (a0:(List Zaa)) (a1:Zap) (a2:Bool):Option (List Zaa) :=
  ZcO a0 a2  ((((a0.length:Nat):Int) - (0:Int)).toNat + 2) (0:Int) ([]:List Zaa) a1
theorem Zng (a0:(List Zaa)) (a1:Zap) (a2:Bool) (r:(List Zaa)) (hf:ZdK a0 a1 a2 = some r):ZdL Tryz.prog 185 [] [.one (cL 10 Zaa.c Zaa.d a0),.agg (Zap.c a1),.one (.lit (.bool a2))] [(99999,.rows 44 10 r.length (Zaq Zaa.c Zaa.d r))] (.one (.osl 99999 r.length)):=by
  refine ZdL.of Tryz.func185 rfl rfl rfl rfl fun S0 w0 =>?_
  unfold ZdK at hf
  exact ZaI Zak Zdj.ends 8 [rz,rA [(0,.c ([]:List Zaa).length (Zaq Zaa.c Zaa.d ([]:List Zaa)))],rz] [] ⟨[],[],[],[],[],[0,2,4,7,8],[9,4],[(9,7)]⟩ (.c (show ([]:List Zaa).length = 0 from rfl) (.c (show ∀ i j,i < 0→j < 10→Zaq Zaa.c Zaa.d ([]:List Zaa) i j = (([]:List Zaa).flatMap Zaa.c).getD (i * 10 + j) .junk from (fun i j hi hj =>ZaS (sz:=10) (e:=Zaa.c) (d:=Zaa.d) (fun _ =>rfl) ([]:List Zaa) i j hi hj)) .n)) (by kernel_rfl) (Zmh S0 w0 a0 a2   ((((a0.length:Nat):Int) - (0:Int)).toNat + 2) (0:Int) ([]:List Zaa) a1 r hf)
theorem ZjP (a0:(List Zaa)) (a1:Zap) (a2:Bool) (r:(List Zaa)) (hf:ZdK a0 a1 a2 = some r):Zat Tryz.prog 185 [.one (cL 10 Zaa.c Zaa.d a0),.agg (Zap.c a1),.one (.lit (.bool a2))] (.one (cL 10 Zaa.c Zaa.d r)):=(Zng a0 a1 a2 r hf).pure
def ZcQ (a0:(List Zaa))  : Nat→Int→(List Zaf)→Option (List Zaf)
  | 0,_,_ =>none
  | fu + 1,v4,w3 =>
    bif (decide (v4 < ((a0.length:Nat):Int))) then
      need (0≤v4∧v4 < ((a0.length:Nat):Int)) <|
      need ((w3 ++ ([(a0.getD v4.toNat Zaa.d).fEnd]:List Zaf)).length * 32≤140737488355328∧(w3 ++ ([(a0.getD v4.toNat Zaa.d).fEnd]:List Zaf)).length≤maxLen) <|
      ZcQ a0  fu (ZaD v4 (1:Int)) (w3 ++ ([(a0.getD v4.toNat Zaa.d).fEnd]:List Zaf))
    else
      some w3
theorem Zlb (S0:Nat→Prop) (w0:Zbh) (a0:(List Zaa))  : ∀ (fu:Nat) (v4:Int) (w3:(List Zaf)) (r:(List Zaf)),ZcQ a0  fu v4 w3 = some r→Good Tryz.prog 21 S0 w0 (bodyPost Tryz.prog Tryz.f209 (Zdj S0 w0 [(99999,.rows 30 4 r.length (Zaq Zaf.c Zaf.d r))] (.one (.osl 99999 r.length)))) (at_ [1,1,0,1,0] (ZbM Tryz.f209)) ⟨[(0,.one (cL 10 Zaa.c Zaa.d a0)),(3,.one (.osl 3 w3.length)),(4,.one (.lit (.int .i64 v4)))],[(3,.rows 30 4 w3.length (Zaq Zaf.c Zaf.d w3))]⟩:=by
  intro fu
  induction fu with
  | zero =>
    intro v4 w3 r hf
    simp [ZcQ] at hf
  | succ fu ih =>
    intro v4 w3 r hf
    unfold ZcQ at hf
    rcases Zaj hf with ⟨h1,hf⟩ | ⟨h1,hf⟩
    · obtain ⟨o2,hf⟩:=Zas hf
      obtain ⟨o3,hf⟩:=Zas hf
      exact ZaI Zak Zdj.ends 12 [rz,⟨[(7,.c ((w3 ++ ([(a0.getD v4.toNat Zaa.d).fEnd]:List Zaf)).length) (Zaq Zaf.c Zaf.d (w3 ++ ([(a0.getD v4.toNat Zaa.d).fEnd]:List Zaf))))],[],[],[],[],[(6,(([(a0.getD v4.toNat Zaa.d).fEnd]:List Zaf).length,Zaq Zaf.c Zaf.d ([(a0.getD v4.toNat Zaa.d).fEnd]:List Zaf)))],[]⟩,rz] [true] ⟨[],[],[],[],[],[0,3,4],[19],[(19,3)]⟩ (.c h1 (.c o2 (.c (show ([(a0.getD v4.toNat Zaa.d).fEnd]:List Zaf).length = 1∧∀ i j,i < 1→j < 4→Zaq Zaf.c Zaf.d ([(a0.getD v4.toNat Zaa.d).fEnd]:List Zaf) i j = (([(a0.getD v4.toNat Zaa.d).fEnd]:List Zaf).flatMap Zaf.c).getD (i * 4 + j) .junk from ⟨rfl,fun i j hi hj =>ZaS (sz:=4) (e:=Zaf.c) (d:=Zaf.d) (fun _ =>rfl) ([(a0.getD v4.toNat Zaa.d).fEnd]:List Zaf) i j hi hj⟩) (.c (ZfF (sz:=4) (e:=Zaf.c) (d:=Zaf.d) w3 ([(a0.getD v4.toNat Zaa.d).fEnd]:List Zaf)) (.c o3.1 (.c o3.2 .n)))))) (by kernel_rfl) (ih (ZaD v4 (1:Int)) (w3 ++ ([(a0.getD v4.toNat Zaa.d).fEnd]:List Zaf)) r hf)
    · obtain rfl:=oi hf
      exact Zdc Zak 8 [rz,rz] [false] ⟨[],[],[],[],[],[2],[3],[(3,99999)]⟩ (.c h1 .n) (by kernel_rfl)
def ZcG (a0:(List Zaa)):Option (List Zaf) :=
  ZcQ a0  ((((a0.length:Nat):Int) - (0:Int)).toNat + 2) (0:Int) ([]:List Zaf)
theorem Zmb (a0:(List Zaa)) (r:(List Zaf)) (hf:ZcG a0 = some r):ZdL Tryz.prog 209 [] [.one (cL 10 Zaa.c Zaa.d a0)] [(99999,.rows 30 4 r.length (Zaq Zaf.c Zaf.d r))] (.one (.osl 99999 r.length)):=by
  refine ZdL.of Tryz.func209 rfl rfl rfl rfl fun S0 w0 =>?_
  unfold ZcG at hf
  exact ZaI Zak Zdj.ends 8 [rz,rA [(0,.c ([]:List Zaf).length (Zaq Zaf.c Zaf.d ([]:List Zaf)))],rz] [] ⟨[],[],[],[],[],[0,3,4],[5],[(5,3)]⟩ (.c (show ([]:List Zaf).length = 0 from rfl) (.c (show ∀ i j,i < 0→j < 4→Zaq Zaf.c Zaf.d ([]:List Zaf) i j = (([]:List Zaf).flatMap Zaf.c).getD (i * 4 + j) .junk from (fun i j hi hj =>ZaS (sz:=4) (e:=Zaf.c) (d:=Zaf.d) (fun _ =>rfl) ([]:List Zaf) i j hi hj)) .n)) (by kernel_rfl) (Zlb S0 w0 a0   ((((a0.length:Nat):Int) - (0:Int)).toNat + 2) (0:Int) ([]:List Zaf) r hf)
theorem Zhi (a0:(List Zaa)) (r:(List Zaf)) (hf:ZcG a0 = some r):Zat Tryz.prog 209 [.one (cL 10 Zaa.c Zaa.d a0)] (.one (cL 4 Zaf.c Zaf.d r)):=(Zmb a0 r hf).pure
def ZbQ (a0:(List Zaa)) (a1:Bool)  : Nat→Int→Int→Option Int
  | 0,_,_ =>none
  | fu + 1,v5,v6 =>
    bif (decide (v6 < ((a0.length:Nat):Int))) then
      need (0≤v6∧v6 < ((a0.length:Nat):Int)) <|
      bif ((a0.getD v6.toNat Zaa.d).fIn == a1) then
        ZbQ a0 a1  fu (ZaD v5 (1:Int)) (ZaD v6 (1:Int))
      else
        ZbQ a0 a1  fu v5 (ZaD v6 (1:Int))
    else
      some v5
theorem ZkG (S0:Nat→Prop) (w0:Zbh) (a0:(List Zaa)) (a1:Bool)  : ∀ (fu:Nat) (v5:Int) (v6:Int) (r:Int),ZbQ a0 a1  fu v5 v6 = some r→Good Tryz.prog 23 S0 w0 (bodyPost Tryz.prog Tryz.f61 (Post S0 w0 (.one (.lit (.int .i64 r))))) (at_ [1,1,0,1,0] (ZbM Tryz.f61)) ⟨[(0,.one (cL 10 Zaa.c Zaa.d a0)),(1,.one (.lit (.bool a1))),(5,.one (.lit (.int .i64 v5))),(6,.one (.lit (.int .i64 v6)))],[]⟩:=by
  intro fu
  induction fu with
  | zero =>
    intro v5 v6 r hf
    simp [ZbQ] at hf
  | succ fu ih =>
    intro v5 v6 r hf
    unfold ZbQ at hf
    rcases Zaj hf with ⟨h1,hf⟩ | ⟨h1,hf⟩
    · obtain ⟨o2,hf⟩:=Zas hf
      rcases Zaj hf with ⟨h3,hf⟩ | ⟨h3,hf⟩
      · exact ZaI Zak Post.ends 15 [rz,rz,rz,rz] [true,true] ⟨[],[],[],[],[],[0,1,5,6],[],[]⟩ (.c h1 (.c o2 (.c h3 .n))) (by kernel_rfl) (ih (ZaD v5 (1:Int)) (ZaD v6 (1:Int)) r hf)
      · exact ZaI Zak Post.ends 15 [rz,rz,rz] [true,false] ⟨[],[],[],[],[],[0,1,5,6],[],[]⟩ (.c h1 (.c o2 (.c h3 .n))) (by kernel_rfl) (ih v5 (ZaD v6 (1:Int)) r hf)
    · obtain rfl:=oi hf
      exact Zai Zak 8 [rz,rz] [false] [] [] [] (.c h1 .n) (by kernel_rfl) rfl
def Zed (a0:(List Zaa)) (a1:Bool):Option Int :=
  ZbQ a0 a1  ((((a0.length:Nat):Int) - (0:Int)).toNat + 2) (0:Int) (0:Int)
theorem ZiI (a0:(List Zaa)) (a1:Bool) (r:Int) (hf:Zed a0 a1 = some r):Zat Tryz.prog 61 [.one (cL 10 Zaa.c Zaa.d a0),.one (.lit (.bool a1))] (.one (.lit (.int .i64 r))):=by
  refine Zat.of Tryz.func61 rfl rfl rfl rfl fun S0 w0 =>?_
  unfold Zed at hf
  exact ZaI Zak Post.ends 8 [rz,rz,rz] [] ⟨[],[],[],[],[],[0,1,5,6],[],[]⟩ .n (by kernel_rfl) (ZkG S0 w0 a0 a1   ((((a0.length:Nat):Int) - (0:Int)).toNat + 2) (0:Int) (0:Int) r hf)
def Zct (a1:(List Zaa))  (v6:Int) (b2:Zad) (b4:Zad):Option Zad :=
  bif (decide (v6 > (0:Int))) then
    (ZcG a1).bind fun x4 =>
    (ZcV b2 x4).bind fun x5 =>
    (ZbK x5 (2:Int) (IntKind.wrap .i64 (0 - v6)) false).bind fun x6 =>
    some x6
  else
    some b2
theorem ZhU (S0:Nat→Prop) (w0:Zbh) (a1:(List Zaa))  (v6:Int) (b2:Zad) (b4:Zad) (r:Zad) (hf:Zct a1  v6 b2 b4 = some r):Good Tryz.prog 28 S0 w0 (bodyPost Tryz.prog Tryz.f186 (Post S0 w0 (.agg (Zad.c r)))) (at_ [1,1,1,1] (ZbM Tryz.f186)) ⟨[(1,.one (cL 10 Zaa.c Zaa.d a1)),(2,.one (.ptr 2 0)),(4,.one (.ptr 4 0)),(6,.one (.lit (.int .i64 v6)))],[(2,.box [cL 13 Zae.c Zae.d b2.fGot,.lit (.int .i64 b2.fAt),.lit (.int .i64 b2.fOp.fKind),.lit (.int .i64 b2.fOp.fLock),.lit (.int .i64 b2.fOp.fLoc.fKind),.lit (.int .i64 b2.fOp.fLoc.fShard),.lit (.int .i64 b2.fOp.fLoc.fSlot),.lit (.int .i64 b2.fOp.fOld),.lit (.int .i64 b2.fOp.fNew),.lit (.int .i64 b2.fOp.fVal.fN),.lit (.bool b2.fOp.fVal.fPeer.fEnd.fAddr.fV6),.lit (.int .u64 b2.fOp.fVal.fPeer.fEnd.fAddr.fHi),.lit (.int .u64 b2.fOp.fVal.fPeer.fEnd.fAddr.fLo),.lit (.int .i64 b2.fOp.fVal.fPeer.fEnd.fPort),.lit (.bool b2.fOp.fVal.fPeer.fIn),.lit (.int .i64 b2.fOp.fVal.fPeer.fSince),.lit (.int .i64 b2.fOp.fVal.fPeer.fScore.fPoints),.lit (.int .i64 b2.fOp.fVal.fPeer.fScore.fAt),.lit (.int .i64 b2.fOp.fVal.fPeer.fPing),.lit (.int .i64 b2.fOp.fVal.fPeer.fWork),cL 5 Zab.c Zab.d b2.fOp.fVal.fBans,cL 7 Zac.c Zac.d b2.fOp.fVal.fBook,.lit (.bool b2.fOp.fMark),.lit (.bool b2.fWait)]),(4,.box [cL 13 Zae.c Zae.d b4.fGot,.lit (.int .i64 b4.fAt),.lit (.int .i64 b4.fOp.fKind),.lit (.int .i64 b4.fOp.fLock),.lit (.int .i64 b4.fOp.fLoc.fKind),.lit (.int .i64 b4.fOp.fLoc.fShard),.lit (.int .i64 b4.fOp.fLoc.fSlot),.lit (.int .i64 b4.fOp.fOld),.lit (.int .i64 b4.fOp.fNew),.lit (.int .i64 b4.fOp.fVal.fN),.lit (.bool b4.fOp.fVal.fPeer.fEnd.fAddr.fV6),.lit (.int .u64 b4.fOp.fVal.fPeer.fEnd.fAddr.fHi),.lit (.int .u64 b4.fOp.fVal.fPeer.fEnd.fAddr.fLo),.lit (.int .i64 b4.fOp.fVal.fPeer.fEnd.fPort),.lit (.bool b4.fOp.fVal.fPeer.fIn),.lit (.int .i64 b4.fOp.fVal.fPeer.fSince),.lit (.int .i64 b4.fOp.fVal.fPeer.fScore.fPoints),.lit (.int .i64 b4.fOp.fVal.fPeer.fScore.fAt),.lit (.int .i64 b4.fOp.fVal.fPeer.fPing),.lit (.int .i64 b4.fOp.fVal.fPeer.fWork),cL 5 Zab.c Zab.d b4.fOp.fVal.fBans,cL 7 Zac.c Zac.d b4.fOp.fVal.fBook,.lit (.bool b4.fOp.fMark),.lit (.bool b4.fWait)])]⟩:=by
  unfold Zct at hf
  rcases Zaj hf with ⟨h5,hf⟩ | ⟨h5,hf⟩
  · obtain ⟨x4,q6,hf⟩:=bind_some' hf
    obtain ⟨x5,q7,hf⟩:=bind_some' hf
    obtain ⟨x6,q8,hf⟩:=bind_some' hf
    obtain rfl:=oi hf
    exact Zai Zak 9 [rz,rA [(2,.r (.one (cL 4 Zaf.c Zaf.d x4)) []),(3,aG (Zad.c x5))],rA [(3,aG (Zad.c x6))],rz] [true] [] [] [] (.c h5 (.c (Zhi _ _ q6) (.c (ZiX _ _ _ q7) (.c (Zel _ _ _ _ _ q8) .n)))) (by kernel_rfl) rfl
  · obtain rfl:=oi hf
    exact Zai Zak 7 [rz,rz] [false] [] [] [] (.c h5 .n) (by kernel_rfl) rfl
def Zcp (a0:Zad) (a1:(List Zaa)):Option Zad :=
  (Zed a1 true).bind fun x1 =>
  (Zed a1 false).bind fun x2 =>
  bif (decide (x1 > (0:Int))) then
    (ZbK a0 (1:Int) (IntKind.wrap .i64 (0 - x1)) false).bind fun x3 =>
    Zct a1  x2 x3 (Zad.mk ([]:(List Zae)) (0:Int) (Zao.mk (0:Int) (0:Int) (Zan.mk (0:Int) (0:Int) (0:Int)) (0:Int) (0:Int) (Zae.mk (0:Int) (Zaa.mk (Zaf.mk (Zag.mk false (0:Int) (0:Int)) (0:Int)) false (0:Int) (Zah.mk (0:Int) (0:Int)) (0:Int) (0:Int)) ([]:(List Zab)) ([]:(List Zac))) false) false)
  else
    Zct a1  x2 a0 (Zad.mk ([]:(List Zae)) (0:Int) (Zao.mk (0:Int) (0:Int) (Zan.mk (0:Int) (0:Int) (0:Int)) (0:Int) (0:Int) (Zae.mk (0:Int) (Zaa.mk (Zaf.mk (Zag.mk false (0:Int) (0:Int)) (0:Int)) false (0:Int) (Zah.mk (0:Int) (0:Int)) (0:Int) (0:Int)) ([]:(List Zab)) ([]:(List Zac))) false) false)
theorem ZiY (a0:Zad) (a1:(List Zaa)) (r:Zad) (hf:Zcp a0 a1 = some r):Zat Tryz.prog 186 [.agg (Zad.c a0),.one (cL 10 Zaa.c Zaa.d a1)] (.agg (Zad.c r)):=by
  refine Zat.of Tryz.func186 rfl rfl rfl rfl fun S0 w0 =>?_
  unfold Zcp at hf
  obtain ⟨x1,q1,hf⟩:=bind_some' hf
  obtain ⟨x2,q2,hf⟩:=bind_some' hf
  have O1:Obl _:=(.c (ZiI _ _ _ q1) (.c (ZiI _ _ _ q2) .n))
  rcases Zaj hf with ⟨h3,hf⟩ | ⟨h3,hf⟩
  · obtain ⟨x3,q4,hf⟩:=bind_some' hf
    exact ZaI Zak Post.ends 11 [rz,rA [(1,aI x1)],rA [(1,aI x2)],rz,rA [(3,aG (Zad.c x3))]] [true] ⟨[],[(4,[(0,cL 13 Zae.c Zae.d []),(20,cL 5 Zab.c Zab.d []),(21,cL 7 Zac.c Zac.d [])])],[],[],[],[1,2,4,6],[2,4],[]⟩ (O1.app (.c h3 (.c (Zel _ _ _ _ _ q4) .n))) (by kernel_rfl) (ZhU S0 w0 a1   x2 x3 (Zad.mk ([]:(List Zae)) (0:Int) (Zao.mk (0:Int) (0:Int) (Zan.mk (0:Int) (0:Int) (0:Int)) (0:Int) (0:Int) (Zae.mk (0:Int) (Zaa.mk (Zaf.mk (Zag.mk false (0:Int) (0:Int)) (0:Int)) false (0:Int) (Zah.mk (0:Int) (0:Int)) (0:Int) (0:Int)) ([]:(List Zab)) ([]:(List Zac))) false) false) r hf)
  · exact ZaI Zak Post.ends 11 [rz,rA [(1,aI x1)],rA [(1,aI x2)],rz] [false] ⟨[],[(4,[(0,cL 13 Zae.c Zae.d []),(20,cL 5 Zab.c Zab.d []),(21,cL 7 Zac.c Zac.d [])])],[],[],[],[1,2,4,6],[2,4],[]⟩ (O1.app (.c h3 .n)) (by kernel_rfl) (ZhU S0 w0 a1   x2 a0 (Zad.mk ([]:(List Zae)) (0:Int) (Zao.mk (0:Int) (0:Int) (Zan.mk (0:Int) (0:Int) (0:Int)) (0:Int) (0:Int) (Zae.mk (0:Int) (Zaa.mk (Zaf.mk (Zag.mk false (0:Int) (0:Int)) (0:Int)) false (0:Int) (Zah.mk (0:Int) (0:Int)) (0:Int) (0:Int)) ([]:(List Zab)) ([]:(List Zac))) false) false) r hf)
def ZeB (a0:Zaz) (a1:Zaw) (a2:Zad) (a3:Int) (a4:(List Zaa)):Option (Zad × Zam) :=
  (ZdF a1.fEnd.fAddr).bind fun x1 =>
  (ZeL a1.fNow a0.fBanFor).bind fun x2 =>
  (Zbq a2 (Zan.mk (3:Int) (0:Int) (0:Int))).bind fun x3 =>
  (Zgk x3.2.fBans (Zab.mk x1 x2) a0.fMaxBans).bind fun x4 =>
  bif (x4.2 == (0:Int)) then
    (ZaB x3.1 (Zan.mk (3:Int) (0:Int) (0:Int)) (Zae.mk (0:Int) (Zaa.mk (Zaf.mk (Zag.mk false (0:Int) (0:Int)) (0:Int)) false (0:Int) (Zah.mk (0:Int) (0:Int)) (0:Int) (0:Int)) x4.1 ([]:(List Zac))) false).bind fun x5 =>
    (ZdK a4 x1 true).bind fun x6 =>
    (ZcG x6).bind fun x7 =>
    (ZbX a4 x7).bind fun x8 =>
    (Zbr x5 a3 a4 x8).bind fun x9 =>
    (Zcp x9 x6).bind fun x10 =>
    some (x10,(Zam.mk (0:Int) a1.fEnd ((x6.length:Nat):Int) x2 ([]:(List Zaa))))
  else
    (ZdK a4 x1 true).bind fun x11 =>
    (ZcG x11).bind fun x12 =>
    (ZbX a4 x12).bind fun x13 =>
    (Zbr x3.1 a3 a4 x13).bind fun x14 =>
    (Zcp x14 x11).bind fun x15 =>
    some (x15,(Zam.mk (0:Int) a1.fEnd ((x11.length:Nat):Int) (0:Int) ([]:(List Zaa))))
theorem ZlA (a0:Zaz) (a1:Zaw) (a2:Zad) (a3:Int) (a4:(List Zaa)) (r:(Zad × Zam)) (hf:ZeB a0 a1 a2 a3 a4 = some r):Zat Tryz.prog 124 [.agg (Zaz.c a0),.agg (Zaw.c a1),.agg (Zad.c a2),.one (.lit (.int .i64 a3)),.one (cL 10 Zaa.c Zaa.d a4)] (.tup [(true,Zad.c r.1),(true,Zam.c r.2)]):=by
  refine Zat.of Tryz.func124 rfl rfl rfl rfl fun S0 w0 =>?_
  unfold ZeB at hf
  obtain ⟨x1,q1,hf⟩:=bind_some' hf
  obtain ⟨x2,q2,hf⟩:=bind_some' hf
  obtain ⟨x3,q3,hf⟩:=bind_some' hf
  obtain ⟨x4,q4,hf⟩:=bind_some' hf
  let R1:List RA:=[rz,rA [(3,aG (Zap.c x1)),(8,aI x2)],rA [(2,.r (.tup [(true,Zad.c x3.1),(true,Zae.c x3.2)]) [])],rz,rA [(5,.r (.tup [(false,(cLs 5 Zab.c Zab.d) x4.1),(false,(cI .i64) x4.2)]) [])],rz]
  have O2:Obl _:=(.c (ZiZ _ _ q1) (.c (Znm _ _ _ q2) (.c (Zem _ _ _ q3) (.c (Znj _ _ _ _ q4) .n))))
  rcases Zaj hf with ⟨h5,hf⟩ | ⟨h5,hf⟩
  · obtain ⟨x5,q6,hf⟩:=bind_some' hf
    obtain ⟨x6,q7,hf⟩:=bind_some' hf
    obtain ⟨x7,q8,hf⟩:=bind_some' hf
    obtain ⟨x8,q9,hf⟩:=bind_some' hf
    obtain ⟨x9,q10,hf⟩:=bind_some' hf
    obtain ⟨x10,q11,hf⟩:=bind_some' hf
    obtain rfl:=oi hf
    exact Zai Zak 25 (R1 ++ [⟨[(4,aG (Zad.c x5))],[],[],[],[(3,[(12,cL 7 Zac.c Zac.d [])])],[],[]⟩,rz,rA [(3,.r (.one (cL 10 Zaa.c Zaa.d x6)) [])],rz,rA [(5,.r (.one (cL 4 Zaf.c Zaf.d x7)) []),(6,.r (.one (cL 10 Zaa.c Zaa.d x8)) []),(7,aG (Zad.c x9))],rA [(2,aG (Zad.c x10))]]) [true] [] [(11,[(7,cL 10 Zaa.c Zaa.d [])])] [] (O2.app (.c h5 (.c (ZaP _ _ _ _ _ q6) (.c (ZjP _ _ _ _ q7) (.c (Zhi _ _ q8) (.c (ZfH _ _ _ q9) (.c (Zff _ _ _ _ _ q10) (.c (ZiY _ _ _ q11) .n)))))))) (by kernel_rfl) rfl
  · obtain ⟨x11,q12,hf⟩:=bind_some' hf
    obtain ⟨x12,q13,hf⟩:=bind_some' hf
    obtain ⟨x13,q14,hf⟩:=bind_some' hf
    obtain ⟨x14,q15,hf⟩:=bind_some' hf
    obtain ⟨x15,q16,hf⟩:=bind_some' hf
    obtain rfl:=oi hf
    exact Zai Zak 23 (R1 ++ [rA [(3,.r (.one (cL 10 Zaa.c Zaa.d x11)) [])],rz,rA [(5,.r (.one (cL 4 Zaf.c Zaf.d x12)) []),(6,.r (.one (cL 10 Zaa.c Zaa.d x13)) []),(7,aG (Zad.c x14))],rA [(2,aG (Zad.c x15))]]) [false] [] [(11,[(7,cL 10 Zaa.c Zaa.d [])])] [] (O2.app (.c h5 (.c (ZjP _ _ _ _ q12) (.c (Zhi _ _ q13) (.c (ZfH _ _ _ q14) (.c (Zff _ _ _ _ _ q15) (.c (ZiY _ _ _ q16) .n))))))) (by kernel_rfl) rfl
def Zcw (a0:Zaz) (a1:Zaw) (a2:Zad) (a3:Int) (a4:Zaa) (a5:Int):Option (Zad × Zam) :=
  (Zec a0 a1 a4).bind fun x1 =>
  (Zdt x1.fScore a0.fLimit).bind fun x2 =>
  bif (!x2) then
    (ZaB a2 (Zan.mk (6:Int) a3 a5) (Zae.mk (0:Int) x1 ([]:(List Zab)) ([]:(List Zac))) true).bind fun x3 =>
    (Zar x3 (3:Int) (ZaD (2:Int) a3) false).bind fun x4 =>
    (ZbO x1.fScore).bind fun x5 =>
    some (x4,(Zam.mk (0:Int) (Zaf.mk (Zag.mk false (0:Int) (0:Int)) (0:Int)) x5 (0:Int) ([]:(List Zaa))))
  else
    (Zar a2 (3:Int) (ZaD (2:Int) a3) false).bind fun x6 =>
    (Zar x6 (1:Int) (0:Int) false).bind fun x7 =>
    (Zar x7 (1:Int) (1:Int) false).bind fun x8 =>
    (Zbp x8 a3).bind fun x9 =>
    bif x9.1.fWait then
      some (x9.1,(Zam.mk (0:Int) (Zaf.mk (Zag.mk false (0:Int) (0:Int)) (0:Int)) (0:Int) (0:Int) ([]:(List Zaa))))
    else
      (ZbN x9.2 a1.fEnd).bind fun x10 =>
      bif (decide (x10 ≥ (0:Int))) then
        need (0≤x10∧x10 < ((x9.2.length:Nat):Int)) <|
        (Zec a0 a1 (x9.2.getD x10.toNat Zaa.d)).bind fun x11 =>
        (Zdt x11.fScore a0.fLimit).bind fun x12 =>
        bif x12 then
          (ZeB a0 a1 x9.1 a3 x9.2).bind fun x13 =>
          (Zar x13.1 (3:Int) (ZaD (2:Int) a3) true).bind fun x14 =>
          (Zar x14 (3:Int) (1:Int) false).bind fun x15 =>
          (Zar x15 (3:Int) (0:Int) false).bind fun x16 =>
          some (x16,x13.2)
        else
          (ZaB x9.1 (Zan.mk (6:Int) a3 x10) (Zae.mk (0:Int) x11 ([]:(List Zab)) ([]:(List Zac))) true).bind fun x17 =>
          (ZbO x11.fScore).bind fun x18 =>
          (Zar x17 (3:Int) (ZaD (2:Int) a3) false).bind fun x19 =>
          (Zar x19 (3:Int) (1:Int) false).bind fun x20 =>
          (Zar x20 (3:Int) (0:Int) false).bind fun x21 =>
          some (x21,(Zam.mk (0:Int) (Zaf.mk (Zag.mk false (0:Int) (0:Int)) (0:Int)) x18 (0:Int) ([]:(List Zaa))))
      else
        (Zar x9.1 (3:Int) (ZaD (2:Int) a3) true).bind fun x22 =>
        (Zar x22 (3:Int) (1:Int) false).bind fun x23 =>
        (Zar x23 (3:Int) (0:Int) false).bind fun x24 =>
        some (x24,(Zam.mk (6:Int) (Zaf.mk (Zag.mk false (0:Int) (0:Int)) (0:Int)) (0:Int) (0:Int) ([]:(List Zaa))))
theorem Zfe (a0:Zaz) (a1:Zaw) (a2:Zad) (a3:Int) (a4:Zaa) (a5:Int) (r:(Zad × Zam)) (hf:Zcw a0 a1 a2 a3 a4 a5 = some r):Zat Tryz.prog 53 [.agg (Zaz.c a0),.agg (Zaw.c a1),.agg (Zad.c a2),.one (.lit (.int .i64 a3)),.agg (Zaa.c a4),.one (.lit (.int .i64 a5))] (.tup [(true,Zad.c r.1),(true,Zam.c r.2)]):=by
  refine Zat.of Tryz.func53 rfl rfl rfl rfl fun S0 w0 =>?_
  unfold Zcw at hf
  obtain ⟨x1,q1,hf⟩:=bind_some' hf
  obtain ⟨x2,q2,hf⟩:=bind_some' hf
  let R1:List RA:=[rz,rA [(3,aG (Zaa.c x1))],rA [(4,aB x2)]]
  have O2:Obl _:=(.c (ZiG _ _ _ _ q1) (.c (ZhV _ _ _ q2) .n))
  rcases Zaj hf with ⟨h3,hf⟩ | ⟨h3,hf⟩
  · obtain ⟨x3,q4,hf⟩:=bind_some' hf
    obtain ⟨x4,q5,hf⟩:=bind_some' hf
    obtain ⟨x5,q6,hf⟩:=bind_some' hf
    obtain rfl:=oi hf
    exact Zai Zak 12 (R1 ++ [⟨[(6,aG (Zad.c x3))],[],[],[],[(5,[(11,cL 5 Zab.c Zab.d []),(12,cL 7 Zac.c Zac.d [])])],[],[]⟩,rA [(3,aG (Zad.c x4)),(6,aI x5)]]) [true] [] [(13,[(7,cL 10 Zaa.c Zaa.d [])])] [] (O2.app (.c h3 (.c (ZaP _ _ _ _ _ q4) (.c (Zau _ _ _ _ _ q5) (.c (Zfg _ _ q6) .n))))) (by kernel_rfl) rfl
  · obtain ⟨x6,q7,hf⟩:=bind_some' hf
    obtain ⟨x7,q8,hf⟩:=bind_some' hf
    obtain ⟨x8,q9,hf⟩:=bind_some' hf
    obtain ⟨x9,q10,hf⟩:=bind_some' hf
    let R3:List RA:=(R1 ++ [rA [(3,aG (Zad.c x6))],rA [(1,aG (Zad.c x7))],rA [(1,aG (Zad.c x8))],rA [(2,.r (.tup [(true,Zad.c x9.1),(false,(cLs 10 Zaa.c Zaa.d) x9.2)]) [])],rz,rz])
    have O4:Obl _:=(O2.app (.c h3 (.c (Zau _ _ _ _ _ q7) (.c (Zau _ _ _ _ _ q8) (.c (Zau _ _ _ _ _ q9) (.c (Zds _ _ _ q10) .n))))))
    rcases Zaj hf with ⟨h11,hf⟩ | ⟨h11,hf⟩
    · obtain rfl:=oi hf
      exact Zai Zak 23 R3 [false,true] [] [(13,[(7,cL 10 Zaa.c Zaa.d [])])] [] (O4.app (.c h11 .n)) (by kernel_rfl) rfl
    · obtain ⟨x10,q12,hf⟩:=bind_some' hf
      have O5:Obl _:=(O4.app (.c h11 (.c (Zdg _ _ _ q12) .n)))
      rcases Zaj hf with ⟨h13,hf⟩ | ⟨h13,hf⟩
      · obtain ⟨o14,hf⟩:=Zas hf
        obtain ⟨x11,q15,hf⟩:=bind_some' hf
        obtain ⟨x12,q16,hf⟩:=bind_some' hf
        let R6:List RA:=(R3 ++ [rz,rA [(3,aI x10)],rz,rA [(6,aG (Zaa.c x11))],rA [(4,aB x12)]])
        have O7:Obl _:=(O5.app (.c h13 (.c o14 (.c (ZiG _ _ _ _ q15) (.c (ZhV _ _ _ q16) .n)))))
        rcases Zaj hf with ⟨h17,hf⟩ | ⟨h17,hf⟩
        · obtain ⟨x13,q18,hf⟩:=bind_some' hf
          obtain ⟨x14,q19,hf⟩:=bind_some' hf
          obtain ⟨x15,q20,hf⟩:=bind_some' hf
          obtain ⟨x16,q21,hf⟩:=bind_some' hf
          obtain rfl:=oi hf
          exact Zai Zak 48 (R6 ++ [rA [(5,.r (.tup [(true,Zad.c x13.1),(true,Zam.c x13.2)]) [])],rz,rz,rA [(4,aG (Zad.c x14))],rA [(1,aG (Zad.c x15))],rA [(1,aG (Zad.c x16))]]) [false,false,true,true] [] [] [] (O7.app (.c h17 (.c (ZlA _ _ _ _ _ _ q18) (.c (Zau _ _ _ _ _ q19) (.c (Zau _ _ _ _ _ q20) (.c (Zau _ _ _ _ _ q21) .n)))))) (by kernel_rfl) rfl
        · obtain ⟨x17,q22,hf⟩:=bind_some' hf
          obtain ⟨x18,q23,hf⟩:=bind_some' hf
          obtain ⟨x19,q24,hf⟩:=bind_some' hf
          obtain ⟨x20,q25,hf⟩:=bind_some' hf
          obtain ⟨x21,q26,hf⟩:=bind_some' hf
          obtain rfl:=oi hf
          exact Zai Zak 48 (R6 ++ [⟨[(6,aG (Zad.c x17))],[],[],[],[(5,[(11,cL 5 Zab.c Zab.d []),(12,cL 7 Zac.c Zac.d [])])],[],[]⟩,rA [(2,aI x18)],rz,rA [(4,aG (Zad.c x19))],rA [(1,aG (Zad.c x20))],rA [(1,aG (Zad.c x21))]]) [false,false,true,false] [] [(13,[(7,cL 10 Zaa.c Zaa.d [])])] [] (O7.app (.c h17 (.c (ZaP _ _ _ _ _ q22) (.c (Zfg _ _ q23) (.c (Zau _ _ _ _ _ q24) (.c (Zau _ _ _ _ _ q25) (.c (Zau _ _ _ _ _ q26) .n))))))) (by kernel_rfl) rfl
      · obtain ⟨x22,q27,hf⟩:=bind_some' hf
        obtain ⟨x23,q28,hf⟩:=bind_some' hf
        obtain ⟨x24,q29,hf⟩:=bind_some' hf
        obtain rfl:=oi hf
        exact Zai Zak 39 (R3 ++ [rz,rA [(3,aI x10)],rz,rA [(4,aG (Zad.c x22))],rA [(1,aG (Zad.c x23))],rA [(1,aG (Zad.c x24))]]) [false,false,false] [] [(13,[(7,cL 10 Zaa.c Zaa.d [])])] [] (O5.app (.c h13 (.c (Zau _ _ _ _ _ q27) (.c (Zau _ _ _ _ _ q28) (.c (Zau _ _ _ _ _ q29) .n))))) (by kernel_rfl) rfl
def ZbT (a0:Zaa) (a1:Int):Option Zaa :=
  (Zbw a1).bind fun x1 =>
  bif (decide (x1 > a0.fWork)) then
    some (Zaa.mk a0.fEnd a0.fIn a0.fSince a0.fScore a0.fPing x1)
  else
    some a0
theorem ZeK (a0:Zaa) (a1:Int) (r:Zaa) (hf:ZbT a0 a1 = some r):Zat Tryz.prog 54 [.agg (Zaa.c a0),.one (.lit (.int .i64 a1))] (.agg (Zaa.c r)):=by
  refine Zat.of Tryz.func54 rfl rfl rfl rfl fun S0 w0 =>?_
  unfold ZbT at hf
  obtain ⟨x1,q1,hf⟩:=bind_some' hf
  rcases Zaj hf with ⟨h2,hf⟩ | ⟨h2,hf⟩
  · obtain rfl:=oi hf
    exact Zai Zak 11 [rz,rA [(1,aI x1)],rz,rz,rz] [true] [] [] [] (.c (ZbD _ _ q1) (.c h2 .n)) (by kernel_rfl) rfl
  · obtain rfl:=oi hf
    exact Zai Zak 11 [rz,rA [(1,aI x1)],rz,rz] [false] [] [] [] (.c (ZbD _ _ q1) (.c h2 .n)) (by kernel_rfl) rfl
def Zcq (a0:Zaa) (a1:Int):Option Zaa :=
  bif (decide (a1 < (1:Int))) then
    some a0
  else
    bif (decide (a1 > (1048576:Int))) then
      some a0
    else
      bif (a0.fPing != (0:Int)) then
        bif (decide (a0.fPing≤a1)) then
          some a0
        else
          some (Zaa.mk a0.fEnd a0.fIn a0.fSince a0.fScore a1 a0.fWork)
      else
        some (Zaa.mk a0.fEnd a0.fIn a0.fSince a0.fScore a1 a0.fWork)
theorem ZfI (a0:Zaa) (a1:Int) (r:Zaa) (hf:Zcq a0 a1 = some r):Zat Tryz.prog 55 [.agg (Zaa.c a0),.one (.lit (.int .i64 a1))] (.agg (Zaa.c r)):=by
  refine Zat.of Tryz.func55 rfl rfl rfl rfl fun S0 w0 =>?_
  unfold Zcq at hf
  rcases Zaj hf with ⟨h1,hf⟩ | ⟨h1,hf⟩
  · obtain rfl:=oi hf
    exact Zai Zak 8 [rz,rB [(2,true)],rz] [true] [] [] [] (.c h1 (.c (show true = true from rfl) .n)) (by kernel_rfl) rfl
  · rcases Zaj hf with ⟨h2,hf⟩ | ⟨h2,hf⟩
    · obtain rfl:=oi hf
      exact Zai Zak 8 [rz,rB [(2,false),(6,true)],rz] [true] [] [] [] (.c h1 (.c h2 (.c (show true = true from rfl) .n))) (by kernel_rfl) rfl
    · rcases Zaj hf with ⟨h3,hf⟩ | ⟨h3,hf⟩
      · let R1:List RA:=[rz,rB [(2,false),(6,false),(10,true)],rz]
        rcases Zaj hf with ⟨h4,hf⟩ | ⟨h4,hf⟩
        · obtain rfl:=oi hf
          exact Zai Zak 8 R1 [true] [] [] [] (.c h1 (.c h2 (.c h3 (.c h4 .n)))) (by kernel_rfl) rfl
        · obtain rfl:=oi hf
          exact Zai Zak 11 (R1 ++ [rz]) [false] [] [] [] (.c h1 (.c h2 (.c h3 (.c h4 .n)))) (by kernel_rfl) rfl
      · obtain rfl:=oi hf
        exact Zai Zak 11 [rz,rB [(2,false),(6,false),(10,false)],rz,rz] [false] [] [] [] (.c h1 (.c h2 (.c h3 (.c (show false = false from rfl) .n)))) (by kernel_rfl) rfl
def ZfD (a0:Zaz) (a1:Zaw) (a2:(List Zae)):Option (Zad × Zam) :=
  (ZeV a1).bind fun x1 =>
  bif (!x1) then
    (Zar (Zad.mk a2 (0:Int) (Zao.mk (0:Int) (0:Int) (Zan.mk (0:Int) (0:Int) (0:Int)) (0:Int) (0:Int) (Zae.mk (0:Int) (Zaa.mk (Zaf.mk (Zag.mk false (0:Int) (0:Int)) (0:Int)) false (0:Int) (Zah.mk (0:Int) (0:Int)) (0:Int) (0:Int)) ([]:(List Zab)) ([]:(List Zac))) false) false) (8:Int) (0:Int) true).bind fun x2 =>
    some (x2,(Zam.mk (1:Int) (Zaf.mk (Zag.mk false (0:Int) (0:Int)) (0:Int)) (0:Int) (0:Int) ([]:(List Zaa))))
  else
    bif (a1.fKind != (2:Int)) then
      bif (a1.fKind != (5:Int)) then
        bif (a1.fKind != (11:Int)) then
          bif (a1.fKind != (12:Int)) then
            (Zar (Zad.mk a2 (0:Int) (Zao.mk (0:Int) (0:Int) (Zan.mk (0:Int) (0:Int) (0:Int)) (0:Int) (0:Int) (Zae.mk (0:Int) (Zaa.mk (Zaf.mk (Zag.mk false (0:Int) (0:Int)) (0:Int)) false (0:Int) (Zah.mk (0:Int) (0:Int)) (0:Int) (0:Int)) ([]:(List Zab)) ([]:(List Zac))) false) false) (8:Int) (0:Int) true).bind fun x3 =>
            some (x3,(Zam.mk (1:Int) (Zaf.mk (Zag.mk false (0:Int) (0:Int)) (0:Int)) (0:Int) (0:Int) ([]:(List Zaa))))
          else
            (ZcF a0 a1).bind fun x4 =>
            (Zbp (Zad.mk a2 (0:Int) (Zao.mk (0:Int) (0:Int) (Zan.mk (0:Int) (0:Int) (0:Int)) (0:Int) (0:Int) (Zae.mk (0:Int) (Zaa.mk (Zaf.mk (Zag.mk false (0:Int) (0:Int)) (0:Int)) false (0:Int) (Zah.mk (0:Int) (0:Int)) (0:Int) (0:Int)) ([]:(List Zab)) ([]:(List Zac))) false) false) x4).bind fun x5 =>
            bif x5.1.fWait then
              some (x5.1,(Zam.mk (0:Int) (Zaf.mk (Zag.mk false (0:Int) (0:Int)) (0:Int)) (0:Int) (0:Int) ([]:(List Zaa))))
            else
              (ZbN x5.2 a1.fEnd).bind fun x6 =>
              bif (decide (x6 < (0:Int))) then
                (Zar x5.1 (3:Int) (ZaD (2:Int) x4) true).bind fun x7 =>
                some (x7,(Zam.mk (6:Int) (Zaf.mk (Zag.mk false (0:Int) (0:Int)) (0:Int)) (0:Int) (0:Int) ([]:(List Zaa))))
              else
                bif (a1.fKind == (2:Int)) then
                  (Zcv a1 x5.1 x4 x5.2 x6).bind fun x8 =>
                  some (x8.1,x8.2)
                else
                  bif (a1.fKind == (5:Int)) then
                    need (0≤x6∧x6 < ((x5.2.length:Nat):Int)) <|
                    (Zcw a0 a1 x5.1 x4 (x5.2.getD x6.toNat Zaa.d) x6).bind fun x9 =>
                    some (x9.1,x9.2)
                  else
                    need (0≤x6∧x6 < ((x5.2.length:Nat):Int)) <|
                    (ZbT (x5.2.getD x6.toNat Zaa.d) a1.fNow).bind fun x10 =>
                    bif (a1.fKind == (11:Int)) then
                      (Zcq (x5.2.getD x6.toNat Zaa.d) a1.fNum).bind fun x11 =>
                      (ZaB x5.1 (Zan.mk (6:Int) x4 x6) (Zae.mk (0:Int) x11 ([]:(List Zab)) ([]:(List Zac))) true).bind fun x12 =>
                      (Zar x12 (3:Int) (ZaD (2:Int) x4) false).bind fun x13 =>
                      some (x13,(Zam.mk (0:Int) (Zaf.mk (Zag.mk false (0:Int) (0:Int)) (0:Int)) x11.fPing (0:Int) ([]:(List Zaa))))
                    else
                      (ZaB x5.1 (Zan.mk (6:Int) x4 x6) (Zae.mk (0:Int) x10 ([]:(List Zab)) ([]:(List Zac))) true).bind fun x14 =>
                      (Zar x14 (3:Int) (ZaD (2:Int) x4) false).bind fun x15 =>
                      some (x15,(Zam.mk (0:Int) (Zaf.mk (Zag.mk false (0:Int) (0:Int)) (0:Int)) (0:Int) (0:Int) ([]:(List Zaa))))
        else
          (ZcF a0 a1).bind fun x16 =>
          (Zbp (Zad.mk a2 (0:Int) (Zao.mk (0:Int) (0:Int) (Zan.mk (0:Int) (0:Int) (0:Int)) (0:Int) (0:Int) (Zae.mk (0:Int) (Zaa.mk (Zaf.mk (Zag.mk false (0:Int) (0:Int)) (0:Int)) false (0:Int) (Zah.mk (0:Int) (0:Int)) (0:Int) (0:Int)) ([]:(List Zab)) ([]:(List Zac))) false) false) x16).bind fun x17 =>
          bif x17.1.fWait then
            some (x17.1,(Zam.mk (0:Int) (Zaf.mk (Zag.mk false (0:Int) (0:Int)) (0:Int)) (0:Int) (0:Int) ([]:(List Zaa))))
          else
            (ZbN x17.2 a1.fEnd).bind fun x18 =>
            bif (decide (x18 < (0:Int))) then
              (Zar x17.1 (3:Int) (ZaD (2:Int) x16) true).bind fun x19 =>
              some (x19,(Zam.mk (6:Int) (Zaf.mk (Zag.mk false (0:Int) (0:Int)) (0:Int)) (0:Int) (0:Int) ([]:(List Zaa))))
            else
              bif (a1.fKind == (2:Int)) then
                (Zcv a1 x17.1 x16 x17.2 x18).bind fun x20 =>
                some (x20.1,x20.2)
              else
                bif (a1.fKind == (5:Int)) then
                  need (0≤x18∧x18 < ((x17.2.length:Nat):Int)) <|
                  (Zcw a0 a1 x17.1 x16 (x17.2.getD x18.toNat Zaa.d) x18).bind fun x21 =>
                  some (x21.1,x21.2)
                else
                  need (0≤x18∧x18 < ((x17.2.length:Nat):Int)) <|
                  (ZbT (x17.2.getD x18.toNat Zaa.d) a1.fNow).bind fun x22 =>
                  bif (a1.fKind == (11:Int)) then
                    (Zcq (x17.2.getD x18.toNat Zaa.d) a1.fNum).bind fun x23 =>
                    (ZaB x17.1 (Zan.mk (6:Int) x16 x18) (Zae.mk (0:Int) x23 ([]:(List Zab)) ([]:(List Zac))) true).bind fun x24 =>
                    (Zar x24 (3:Int) (ZaD (2:Int) x16) false).bind fun x25 =>
                    some (x25,(Zam.mk (0:Int) (Zaf.mk (Zag.mk false (0:Int) (0:Int)) (0:Int)) x23.fPing (0:Int) ([]:(List Zaa))))
                  else
                    (ZaB x17.1 (Zan.mk (6:Int) x16 x18) (Zae.mk (0:Int) x22 ([]:(List Zab)) ([]:(List Zac))) true).bind fun x26 =>
                    (Zar x26 (3:Int) (ZaD (2:Int) x16) false).bind fun x27 =>
                    some (x27,(Zam.mk (0:Int) (Zaf.mk (Zag.mk false (0:Int) (0:Int)) (0:Int)) (0:Int) (0:Int) ([]:(List Zaa))))
      else
        (ZcF a0 a1).bind fun x28 =>
        (Zbp (Zad.mk a2 (0:Int) (Zao.mk (0:Int) (0:Int) (Zan.mk (0:Int) (0:Int) (0:Int)) (0:Int) (0:Int) (Zae.mk (0:Int) (Zaa.mk (Zaf.mk (Zag.mk false (0:Int) (0:Int)) (0:Int)) false (0:Int) (Zah.mk (0:Int) (0:Int)) (0:Int) (0:Int)) ([]:(List Zab)) ([]:(List Zac))) false) false) x28).bind fun x29 =>
        bif x29.1.fWait then
          some (x29.1,(Zam.mk (0:Int) (Zaf.mk (Zag.mk false (0:Int) (0:Int)) (0:Int)) (0:Int) (0:Int) ([]:(List Zaa))))
        else
          (ZbN x29.2 a1.fEnd).bind fun x30 =>
          bif (decide (x30 < (0:Int))) then
            (Zar x29.1 (3:Int) (ZaD (2:Int) x28) true).bind fun x31 =>
            some (x31,(Zam.mk (6:Int) (Zaf.mk (Zag.mk false (0:Int) (0:Int)) (0:Int)) (0:Int) (0:Int) ([]:(List Zaa))))
          else
            bif (a1.fKind == (2:Int)) then
              (Zcv a1 x29.1 x28 x29.2 x30).bind fun x32 =>
              some (x32.1,x32.2)
            else
              bif (a1.fKind == (5:Int)) then
                need (0≤x30∧x30 < ((x29.2.length:Nat):Int)) <|
                (Zcw a0 a1 x29.1 x28 (x29.2.getD x30.toNat Zaa.d) x30).bind fun x33 =>
                some (x33.1,x33.2)
              else
                need (0≤x30∧x30 < ((x29.2.length:Nat):Int)) <|
                (ZbT (x29.2.getD x30.toNat Zaa.d) a1.fNow).bind fun x34 =>
                bif (a1.fKind == (11:Int)) then
                  (Zcq (x29.2.getD x30.toNat Zaa.d) a1.fNum).bind fun x35 =>
                  (ZaB x29.1 (Zan.mk (6:Int) x28 x30) (Zae.mk (0:Int) x35 ([]:(List Zab)) ([]:(List Zac))) true).bind fun x36 =>
                  (Zar x36 (3:Int) (ZaD (2:Int) x28) false).bind fun x37 =>
                  some (x37,(Zam.mk (0:Int) (Zaf.mk (Zag.mk false (0:Int) (0:Int)) (0:Int)) x35.fPing (0:Int) ([]:(List Zaa))))
                else
                  (ZaB x29.1 (Zan.mk (6:Int) x28 x30) (Zae.mk (0:Int) x34 ([]:(List Zab)) ([]:(List Zac))) true).bind fun x38 =>
                  (Zar x38 (3:Int) (ZaD (2:Int) x28) false).bind fun x39 =>
                  some (x39,(Zam.mk (0:Int) (Zaf.mk (Zag.mk false (0:Int) (0:Int)) (0:Int)) (0:Int) (0:Int) ([]:(List Zaa))))
    else
      (ZcF a0 a1).bind fun x40 =>
      (Zbp (Zad.mk a2 (0:Int) (Zao.mk (0:Int) (0:Int) (Zan.mk (0:Int) (0:Int) (0:Int)) (0:Int) (0:Int) (Zae.mk (0:Int) (Zaa.mk (Zaf.mk (Zag.mk false (0:Int) (0:Int)) (0:Int)) false (0:Int) (Zah.mk (0:Int) (0:Int)) (0:Int) (0:Int)) ([]:(List Zab)) ([]:(List Zac))) false) false) x40).bind fun x41 =>
      bif x41.1.fWait then
        some (x41.1,(Zam.mk (0:Int) (Zaf.mk (Zag.mk false (0:Int) (0:Int)) (0:Int)) (0:Int) (0:Int) ([]:(List Zaa))))
      else
        (ZbN x41.2 a1.fEnd).bind fun x42 =>
        bif (decide (x42 < (0:Int))) then
          (Zar x41.1 (3:Int) (ZaD (2:Int) x40) true).bind fun x43 =>
          some (x43,(Zam.mk (6:Int) (Zaf.mk (Zag.mk false (0:Int) (0:Int)) (0:Int)) (0:Int) (0:Int) ([]:(List Zaa))))
        else
          bif (a1.fKind == (2:Int)) then
            (Zcv a1 x41.1 x40 x41.2 x42).bind fun x44 =>
            some (x44.1,x44.2)
          else
            bif (a1.fKind == (5:Int)) then
              need (0≤x42∧x42 < ((x41.2.length:Nat):Int)) <|
              (Zcw a0 a1 x41.1 x40 (x41.2.getD x42.toNat Zaa.d) x42).bind fun x45 =>
              some (x45.1,x45.2)
            else
              need (0≤x42∧x42 < ((x41.2.length:Nat):Int)) <|
              (ZbT (x41.2.getD x42.toNat Zaa.d) a1.fNow).bind fun x46 =>
              bif (a1.fKind == (11:Int)) then
                (Zcq (x41.2.getD x42.toNat Zaa.d) a1.fNum).bind fun x47 =>
                (ZaB x41.1 (Zan.mk (6:Int) x40 x42) (Zae.mk (0:Int) x47 ([]:(List Zab)) ([]:(List Zac))) true).bind fun x48 =>
                (Zar x48 (3:Int) (ZaD (2:Int) x40) false).bind fun x49 =>
                some (x49,(Zam.mk (0:Int) (Zaf.mk (Zag.mk false (0:Int) (0:Int)) (0:Int)) x47.fPing (0:Int) ([]:(List Zaa))))
              else
                (ZaB x41.1 (Zan.mk (6:Int) x40 x42) (Zae.mk (0:Int) x46 ([]:(List Zab)) ([]:(List Zac))) true).bind fun x50 =>
                (Zar x50 (3:Int) (ZaD (2:Int) x40) false).bind fun x51 =>
                some (x51,(Zam.mk (0:Int) (Zaf.mk (Zag.mk false (0:Int) (0:Int)) (0:Int)) (0:Int) (0:Int) ([]:(List Zaa))))
theorem ZmB (a0:Zaz) (a1:Zaw) (a2:(List Zae)) (r:(Zad × Zam)) (hf:ZfD a0 a1 a2 = some r):Zat Tryz.prog 14 [.agg (Zaz.c a0),.agg (Zaw.c a1),.one (cL 13 Zae.c Zae.d a2)] (.tup [(true,Zad.c r.1),(true,Zam.c r.2)]):=by
  refine Zat.of Tryz.func14 rfl rfl rfl rfl fun S0 w0 =>?_
  unfold ZfD at hf
  obtain ⟨x1,q1,hf⟩:=bind_some' hf
  rcases Zaj hf with ⟨h2,hf⟩ | ⟨h2,hf⟩
  · obtain ⟨x2,q3,hf⟩:=bind_some' hf
    obtain rfl:=oi hf
    exact Zai Zak 10 [rz,rz,⟨[(1,aB x1)],[(3,true)],[],[],[],[],[]⟩,⟨[(1,aG (Zad.c x2))],[],[],[],[(0,[(20,cL 5 Zab.c Zab.d []),(21,cL 7 Zac.c Zac.d [])])],[],[]⟩] [true] [] [(7,[(7,cL 10 Zaa.c Zaa.d [])])] [] (.c (ZiH _ _ q1) (.c h2 (.c (show true = true from rfl) (.c (Zau _ _ _ _ _ q3) .n)))) (by kernel_rfl) rfl
  · have O1:Obl _:=(.c (ZiH _ _ q1) (.c h2 .n))
    rcases Zaj hf with ⟨h4,hf⟩ | ⟨h4,hf⟩
    · rcases Zaj hf with ⟨h5,hf⟩ | ⟨h5,hf⟩
      · rcases Zaj hf with ⟨h6,hf⟩ | ⟨h6,hf⟩
        · let R2:List RA:=[rz,rz,⟨[(1,aB x1)],[(3,false),(7,true),(12,true),(17,true)],[],[],[],[],[]⟩]
          rcases Zaj hf with ⟨h7,hf⟩ | ⟨h7,hf⟩
          · obtain ⟨x3,q8,hf⟩:=bind_some' hf
            obtain rfl:=oi hf
            exact Zai Zak 10 (R2 ++ [⟨[(1,aG (Zad.c x3))],[],[],[],[(0,[(20,cL 5 Zab.c Zab.d []),(21,cL 7 Zac.c Zac.d [])])],[],[]⟩]) [true] [] [(7,[(7,cL 10 Zaa.c Zaa.d [])])] [] (O1.app (.c h4 (.c h5 (.c h6 (.c h7 (.c (Zau _ _ _ _ _ q8) .n)))))) (by kernel_rfl) rfl
          · obtain ⟨x4,q9,hf⟩:=bind_some' hf
            obtain ⟨x5,q10,hf⟩:=bind_some' hf
            let R3:List RA:=(R2 ++ [rA [(2,aI x4)],⟨[(2,.r (.tup [(true,Zad.c x5.1),(false,(cLs 10 Zaa.c Zaa.d) x5.2)]) [])],[],[],[],[(0,[(20,cL 5 Zab.c Zab.d []),(21,cL 7 Zac.c Zac.d [])])],[],[]⟩,rz])
            have O4:Obl _:=(O1.app (.c h4 (.c h5 (.c h6 (.c h7 (.c (ZfG _ _ _ q9) (.c (Zds _ _ _ q10) .n)))))))
            rcases Zaj hf with ⟨h11,hf⟩ | ⟨h11,hf⟩
            · obtain rfl:=oi hf
              exact Zai Zak 19 (R3 ++ [rz]) [false,true] [] [(7,[(7,cL 10 Zaa.c Zaa.d [])])] [] (O4.app (.c h11 .n)) (by kernel_rfl) rfl
            · obtain ⟨x6,q12,hf⟩:=bind_some' hf
              have O5:Obl _:=(O4.app (.c h11 (.c (Zdg _ _ _ q12) .n)))
              rcases Zaj hf with ⟨h13,hf⟩ | ⟨h13,hf⟩
              · obtain ⟨x7,q14,hf⟩:=bind_some' hf
                obtain rfl:=oi hf
                exact Zai Zak 26 (R3 ++ [rA [(3,aI x6)],rz,rA [(3,aG (Zad.c x7))]]) [false,false,true] [] [(7,[(7,cL 10 Zaa.c Zaa.d [])])] [] (O5.app (.c h13 (.c (Zau _ _ _ _ _ q14) .n))) (by kernel_rfl) rfl
              · rcases Zaj hf with ⟨h15,hf⟩ | ⟨h15,hf⟩
                · obtain ⟨x8,q16,hf⟩:=bind_some' hf
                  obtain rfl:=oi hf
                  exact Zai Zak 34 (R3 ++ [rA [(3,aI x6)],rz,rz,rz,rA [(5,.r (.tup [(true,Zad.c x8.1),(true,Zam.c x8.2)]) [])]]) [false,false,false,true] [] [] [] (O5.app (.c h13 (.c h15 (.c (Zfd _ _ _ _ _ _ q16) .n)))) (by kernel_rfl) rfl
                · rcases Zaj hf with ⟨h17,hf⟩ | ⟨h17,hf⟩
                  · obtain ⟨o18,hf⟩:=Zas hf
                    obtain ⟨x9,q19,hf⟩:=bind_some' hf
                    obtain rfl:=oi hf
                    exact Zai Zak 37 (R3 ++ [rA [(3,aI x6)],rz,rz,rz,rz,rA [(9,.r (.tup [(true,Zad.c x9.1),(true,Zam.c x9.2)]) [])]]) [false,false,false,false,true] [] [] [] (O5.app (.c h13 (.c h15 (.c h17 (.c o18 (.c (Zfe _ _ _ _ _ _ _ q19) .n)))))) (by kernel_rfl) rfl
                  · obtain ⟨o20,hf⟩:=Zas hf
                    obtain ⟨x10,q21,hf⟩:=bind_some' hf
                    let R6:List RA:=(R3 ++ [rA [(3,aI x6)],rz,rz,rz,rz,rz,rA [(6,aG (Zaa.c x10))],rz])
                    have O7:Obl _:=(O5.app (.c h13 (.c h15 (.c h17 (.c o20 (.c (ZeK _ _ _ q21) .n))))))
                    rcases Zaj hf with ⟨h22,hf⟩ | ⟨h22,hf⟩
                    · obtain ⟨x11,q23,hf⟩:=bind_some' hf
                      obtain ⟨x12,q24,hf⟩:=bind_some' hf
                      obtain ⟨x13,q25,hf⟩:=bind_some' hf
                      obtain rfl:=oi hf
                      exact Zai Zak 52 (R6 ++ [rA [(6,aG (Zaa.c x11))],rz,⟨[(6,aG (Zad.c x12))],[],[],[],[(5,[(11,cL 5 Zab.c Zab.d []),(12,cL 7 Zac.c Zac.d [])])],[],[]⟩,rA [(3,aG (Zad.c x13))]]) [false,false,false,false,false,true] [] [(7,[(7,cL 10 Zaa.c Zaa.d [])])] [] (O7.app (.c h22 (.c o20 (.c (ZfI _ _ _ q23) (.c (ZaP _ _ _ _ _ q24) (.c (Zau _ _ _ _ _ q25) .n)))))) (by kernel_rfl) rfl
                    · obtain ⟨x14,q26,hf⟩:=bind_some' hf
                      obtain ⟨x15,q27,hf⟩:=bind_some' hf
                      obtain rfl:=oi hf
                      exact Zai Zak 50 (R6 ++ [⟨[(6,aG (Zad.c x14))],[],[],[],[(5,[(11,cL 5 Zab.c Zab.d []),(12,cL 7 Zac.c Zac.d [])])],[],[]⟩,rA [(3,aG (Zad.c x15))]]) [false,false,false,false,false,false] [] [(7,[(7,cL 10 Zaa.c Zaa.d [])])] [] (O7.app (.c h22 (.c (ZaP _ _ _ _ _ q26) (.c (Zau _ _ _ _ _ q27) .n)))) (by kernel_rfl) rfl
        · obtain ⟨x16,q28,hf⟩:=bind_some' hf
          obtain ⟨x17,q29,hf⟩:=bind_some' hf
          let R8:List RA:=[rz,rz,⟨[(1,aB x1)],[(3,false),(7,true),(12,true),(17,false)],[],[],[],[],[]⟩,rA [(2,aI x16)],⟨[(2,.r (.tup [(true,Zad.c x17.1),(false,(cLs 10 Zaa.c Zaa.d) x17.2)]) [])],[],[],[],[(0,[(20,cL 5 Zab.c Zab.d []),(21,cL 7 Zac.c Zac.d [])])],[],[]⟩,rz]
          have O9:Obl _:=(O1.app (.c h4 (.c h5 (.c h6 (.c (show false = false from rfl) (.c (ZfG _ _ _ q28) (.c (Zds _ _ _ q29) .n)))))))
          rcases Zaj hf with ⟨h30,hf⟩ | ⟨h30,hf⟩
          · obtain rfl:=oi hf
            exact Zai Zak 19 (R8 ++ [rz]) [false,true] [] [(7,[(7,cL 10 Zaa.c Zaa.d [])])] [] (O9.app (.c h30 .n)) (by kernel_rfl) rfl
          · obtain ⟨x18,q31,hf⟩:=bind_some' hf
            have O10:Obl _:=(O9.app (.c h30 (.c (Zdg _ _ _ q31) .n)))
            rcases Zaj hf with ⟨h32,hf⟩ | ⟨h32,hf⟩
            · obtain ⟨x19,q33,hf⟩:=bind_some' hf
              obtain rfl:=oi hf
              exact Zai Zak 26 (R8 ++ [rA [(3,aI x18)],rz,rA [(3,aG (Zad.c x19))]]) [false,false,true] [] [(7,[(7,cL 10 Zaa.c Zaa.d [])])] [] (O10.app (.c h32 (.c (Zau _ _ _ _ _ q33) .n))) (by kernel_rfl) rfl
            · rcases Zaj hf with ⟨h34,hf⟩ | ⟨h34,hf⟩
              · obtain ⟨x20,q35,hf⟩:=bind_some' hf
                obtain rfl:=oi hf
                exact Zai Zak 34 (R8 ++ [rA [(3,aI x18)],rz,rz,rz,rA [(5,.r (.tup [(true,Zad.c x20.1),(true,Zam.c x20.2)]) [])]]) [false,false,false,true] [] [] [] (O10.app (.c h32 (.c h34 (.c (Zfd _ _ _ _ _ _ q35) .n)))) (by kernel_rfl) rfl
              · rcases Zaj hf with ⟨h36,hf⟩ | ⟨h36,hf⟩
                · obtain ⟨o37,hf⟩:=Zas hf
                  obtain ⟨x21,q38,hf⟩:=bind_some' hf
                  obtain rfl:=oi hf
                  exact Zai Zak 37 (R8 ++ [rA [(3,aI x18)],rz,rz,rz,rz,rA [(9,.r (.tup [(true,Zad.c x21.1),(true,Zam.c x21.2)]) [])]]) [false,false,false,false,true] [] [] [] (O10.app (.c h32 (.c h34 (.c h36 (.c o37 (.c (Zfe _ _ _ _ _ _ _ q38) .n)))))) (by kernel_rfl) rfl
                · obtain ⟨o39,hf⟩:=Zas hf
                  obtain ⟨x22,q40,hf⟩:=bind_some' hf
                  let R11:List RA:=(R8 ++ [rA [(3,aI x18)],rz,rz,rz,rz,rz,rA [(6,aG (Zaa.c x22))],rz])
                  have O12:Obl _:=(O10.app (.c h32 (.c h34 (.c h36 (.c o39 (.c (ZeK _ _ _ q40) .n))))))
                  rcases Zaj hf with ⟨h41,hf⟩ | ⟨h41,hf⟩
                  · obtain ⟨x23,q42,hf⟩:=bind_some' hf
                    obtain ⟨x24,q43,hf⟩:=bind_some' hf
                    obtain ⟨x25,q44,hf⟩:=bind_some' hf
                    obtain rfl:=oi hf
                    exact Zai Zak 52 (R11 ++ [rA [(6,aG (Zaa.c x23))],rz,⟨[(6,aG (Zad.c x24))],[],[],[],[(5,[(11,cL 5 Zab.c Zab.d []),(12,cL 7 Zac.c Zac.d [])])],[],[]⟩,rA [(3,aG (Zad.c x25))]]) [false,false,false,false,false,true] [] [(7,[(7,cL 10 Zaa.c Zaa.d [])])] [] (O12.app (.c h41 (.c o39 (.c (ZfI _ _ _ q42) (.c (ZaP _ _ _ _ _ q43) (.c (Zau _ _ _ _ _ q44) .n)))))) (by kernel_rfl) rfl
                  · obtain ⟨x26,q45,hf⟩:=bind_some' hf
                    obtain ⟨x27,q46,hf⟩:=bind_some' hf
                    obtain rfl:=oi hf
                    exact Zai Zak 50 (R11 ++ [⟨[(6,aG (Zad.c x26))],[],[],[],[(5,[(11,cL 5 Zab.c Zab.d []),(12,cL 7 Zac.c Zac.d [])])],[],[]⟩,rA [(3,aG (Zad.c x27))]]) [false,false,false,false,false,false] [] [(7,[(7,cL 10 Zaa.c Zaa.d [])])] [] (O12.app (.c h41 (.c (ZaP _ _ _ _ _ q45) (.c (Zau _ _ _ _ _ q46) .n)))) (by kernel_rfl) rfl
      · obtain ⟨x28,q47,hf⟩:=bind_some' hf
        obtain ⟨x29,q48,hf⟩:=bind_some' hf
        let R13:List RA:=[rz,rz,⟨[(1,aB x1)],[(3,false),(7,true),(12,false)],[],[],[],[],[]⟩,rA [(2,aI x28)],⟨[(2,.r (.tup [(true,Zad.c x29.1),(false,(cLs 10 Zaa.c Zaa.d) x29.2)]) [])],[],[],[],[(0,[(20,cL 5 Zab.c Zab.d []),(21,cL 7 Zac.c Zac.d [])])],[],[]⟩,rz]
        have O14:Obl _:=(O1.app (.c h4 (.c h5 (.c (show false = false from rfl) (.c (ZfG _ _ _ q47) (.c (Zds _ _ _ q48) .n))))))
        rcases Zaj hf with ⟨h49,hf⟩ | ⟨h49,hf⟩
        · obtain rfl:=oi hf
          exact Zai Zak 19 (R13 ++ [rz]) [false,true] [] [(7,[(7,cL 10 Zaa.c Zaa.d [])])] [] (O14.app (.c h49 .n)) (by kernel_rfl) rfl
        · obtain ⟨x30,q50,hf⟩:=bind_some' hf
          have O15:Obl _:=(O14.app (.c h49 (.c (Zdg _ _ _ q50) .n)))
          rcases Zaj hf with ⟨h51,hf⟩ | ⟨h51,hf⟩
          · obtain ⟨x31,q52,hf⟩:=bind_some' hf
            obtain rfl:=oi hf
            exact Zai Zak 26 (R13 ++ [rA [(3,aI x30)],rz,rA [(3,aG (Zad.c x31))]]) [false,false,true] [] [(7,[(7,cL 10 Zaa.c Zaa.d [])])] [] (O15.app (.c h51 (.c (Zau _ _ _ _ _ q52) .n))) (by kernel_rfl) rfl
          · rcases Zaj hf with ⟨h53,hf⟩ | ⟨h53,hf⟩
            · obtain ⟨x32,q54,hf⟩:=bind_some' hf
              obtain rfl:=oi hf
              exact Zai Zak 34 (R13 ++ [rA [(3,aI x30)],rz,rz,rz,rA [(5,.r (.tup [(true,Zad.c x32.1),(true,Zam.c x32.2)]) [])]]) [false,false,false,true] [] [] [] (O15.app (.c h51 (.c h53 (.c (Zfd _ _ _ _ _ _ q54) .n)))) (by kernel_rfl) rfl
            · rcases Zaj hf with ⟨h55,hf⟩ | ⟨h55,hf⟩
              · obtain ⟨o56,hf⟩:=Zas hf
                obtain ⟨x33,q57,hf⟩:=bind_some' hf
                obtain rfl:=oi hf
                exact Zai Zak 37 (R13 ++ [rA [(3,aI x30)],rz,rz,rz,rz,rA [(9,.r (.tup [(true,Zad.c x33.1),(true,Zam.c x33.2)]) [])]]) [false,false,false,false,true] [] [] [] (O15.app (.c h51 (.c h53 (.c h55 (.c o56 (.c (Zfe _ _ _ _ _ _ _ q57) .n)))))) (by kernel_rfl) rfl
              · obtain ⟨o58,hf⟩:=Zas hf
                obtain ⟨x34,q59,hf⟩:=bind_some' hf
                let R16:List RA:=(R13 ++ [rA [(3,aI x30)],rz,rz,rz,rz,rz,rA [(6,aG (Zaa.c x34))],rz])
                have O17:Obl _:=(O15.app (.c h51 (.c h53 (.c h55 (.c o58 (.c (ZeK _ _ _ q59) .n))))))
                rcases Zaj hf with ⟨h60,hf⟩ | ⟨h60,hf⟩
                · obtain ⟨x35,q61,hf⟩:=bind_some' hf
                  obtain ⟨x36,q62,hf⟩:=bind_some' hf
                  obtain ⟨x37,q63,hf⟩:=bind_some' hf
                  obtain rfl:=oi hf
                  exact Zai Zak 52 (R16 ++ [rA [(6,aG (Zaa.c x35))],rz,⟨[(6,aG (Zad.c x36))],[],[],[],[(5,[(11,cL 5 Zab.c Zab.d []),(12,cL 7 Zac.c Zac.d [])])],[],[]⟩,rA [(3,aG (Zad.c x37))]]) [false,false,false,false,false,true] [] [(7,[(7,cL 10 Zaa.c Zaa.d [])])] [] (O17.app (.c h60 (.c o58 (.c (ZfI _ _ _ q61) (.c (ZaP _ _ _ _ _ q62) (.c (Zau _ _ _ _ _ q63) .n)))))) (by kernel_rfl) rfl
                · obtain ⟨x38,q64,hf⟩:=bind_some' hf
                  obtain ⟨x39,q65,hf⟩:=bind_some' hf
                  obtain rfl:=oi hf
                  exact Zai Zak 50 (R16 ++ [⟨[(6,aG (Zad.c x38))],[],[],[],[(5,[(11,cL 5 Zab.c Zab.d []),(12,cL 7 Zac.c Zac.d [])])],[],[]⟩,rA [(3,aG (Zad.c x39))]]) [false,false,false,false,false,false] [] [(7,[(7,cL 10 Zaa.c Zaa.d [])])] [] (O17.app (.c h60 (.c (ZaP _ _ _ _ _ q64) (.c (Zau _ _ _ _ _ q65) .n)))) (by kernel_rfl) rfl
    · obtain ⟨x40,q66,hf⟩:=bind_some' hf
      obtain ⟨x41,q67,hf⟩:=bind_some' hf
      let R18:List RA:=[rz,rz,⟨[(1,aB x1)],[(3,false),(7,false)],[],[],[],[],[]⟩,rA [(2,aI x40)],⟨[(2,.r (.tup [(true,Zad.c x41.1),(false,(cLs 10 Zaa.c Zaa.d) x41.2)]) [])],[],[],[],[(0,[(20,cL 5 Zab.c Zab.d []),(21,cL 7 Zac.c Zac.d [])])],[],[]⟩,rz]
      have O19:Obl _:=(O1.app (.c h4 (.c (show false = false from rfl) (.c (ZfG _ _ _ q66) (.c (Zds _ _ _ q67) .n)))))
      rcases Zaj hf with ⟨h68,hf⟩ | ⟨h68,hf⟩
      · obtain rfl:=oi hf
        exact Zai Zak 19 (R18 ++ [rz]) [false,true] [] [(7,[(7,cL 10 Zaa.c Zaa.d [])])] [] (O19.app (.c h68 .n)) (by kernel_rfl) rfl
      · obtain ⟨x42,q69,hf⟩:=bind_some' hf
        have O20:Obl _:=(O19.app (.c h68 (.c (Zdg _ _ _ q69) .n)))
        rcases Zaj hf with ⟨h70,hf⟩ | ⟨h70,hf⟩
        · obtain ⟨x43,q71,hf⟩:=bind_some' hf
          obtain rfl:=oi hf
          exact Zai Zak 26 (R18 ++ [rA [(3,aI x42)],rz,rA [(3,aG (Zad.c x43))]]) [false,false,true] [] [(7,[(7,cL 10 Zaa.c Zaa.d [])])] [] (O20.app (.c h70 (.c (Zau _ _ _ _ _ q71) .n))) (by kernel_rfl) rfl
        · rcases Zaj hf with ⟨h72,hf⟩ | ⟨h72,hf⟩
          · obtain ⟨x44,q73,hf⟩:=bind_some' hf
            obtain rfl:=oi hf
            exact Zai Zak 34 (R18 ++ [rA [(3,aI x42)],rz,rz,rz,rA [(5,.r (.tup [(true,Zad.c x44.1),(true,Zam.c x44.2)]) [])]]) [false,false,false,true] [] [] [] (O20.app (.c h70 (.c h72 (.c (Zfd _ _ _ _ _ _ q73) .n)))) (by kernel_rfl) rfl
          · rcases Zaj hf with ⟨h74,hf⟩ | ⟨h74,hf⟩
            · obtain ⟨o75,hf⟩:=Zas hf
              obtain ⟨x45,q76,hf⟩:=bind_some' hf
              obtain rfl:=oi hf
              exact Zai Zak 37 (R18 ++ [rA [(3,aI x42)],rz,rz,rz,rz,rA [(9,.r (.tup [(true,Zad.c x45.1),(true,Zam.c x45.2)]) [])]]) [false,false,false,false,true] [] [] [] (O20.app (.c h70 (.c h72 (.c h74 (.c o75 (.c (Zfe _ _ _ _ _ _ _ q76) .n)))))) (by kernel_rfl) rfl
            · obtain ⟨o77,hf⟩:=Zas hf
              obtain ⟨x46,q78,hf⟩:=bind_some' hf
              let R21:List RA:=(R18 ++ [rA [(3,aI x42)],rz,rz,rz,rz,rz,rA [(6,aG (Zaa.c x46))],rz])
              have O22:Obl _:=(O20.app (.c h70 (.c h72 (.c h74 (.c o77 (.c (ZeK _ _ _ q78) .n))))))
              rcases Zaj hf with ⟨h79,hf⟩ | ⟨h79,hf⟩
              · obtain ⟨x47,q80,hf⟩:=bind_some' hf
                obtain ⟨x48,q81,hf⟩:=bind_some' hf
                obtain ⟨x49,q82,hf⟩:=bind_some' hf
                obtain rfl:=oi hf
                exact Zai Zak 52 (R21 ++ [rA [(6,aG (Zaa.c x47))],rz,⟨[(6,aG (Zad.c x48))],[],[],[],[(5,[(11,cL 5 Zab.c Zab.d []),(12,cL 7 Zac.c Zac.d [])])],[],[]⟩,rA [(3,aG (Zad.c x49))]]) [false,false,false,false,false,true] [] [(7,[(7,cL 10 Zaa.c Zaa.d [])])] [] (O22.app (.c h79 (.c o77 (.c (ZfI _ _ _ q80) (.c (ZaP _ _ _ _ _ q81) (.c (Zau _ _ _ _ _ q82) .n)))))) (by kernel_rfl) rfl
              · obtain ⟨x50,q83,hf⟩:=bind_some' hf
                obtain ⟨x51,q84,hf⟩:=bind_some' hf
                obtain rfl:=oi hf
                exact Zai Zak 50 (R21 ++ [⟨[(6,aG (Zad.c x50))],[],[],[],[(5,[(11,cL 5 Zab.c Zab.d []),(12,cL 7 Zac.c Zac.d [])])],[],[]⟩,rA [(3,aG (Zad.c x51))]]) [false,false,false,false,false,false] [] [(7,[(7,cL 10 Zaa.c Zaa.d [])])] [] (O22.app (.c h79 (.c (ZaP _ _ _ _ _ q83) (.c (Zau _ _ _ _ _ q84) .n)))) (by kernel_rfl) rfl
def ZcB (a0:(List Zab)) (a1:(List Zab))  : Nat→Int→Option Bool
  | 0,_ =>none
  | fu + 1,v5 =>
    bif (decide (v5 < ((a0.length:Nat):Int))) then
      bif (decide (v5 < ((a1.length:Nat):Int))) then
        need (0≤v5∧v5 < ((a0.length:Nat):Int)) <|
        need (0≤v5∧v5 < ((a1.length:Nat):Int)) <|
        bif (!(decide ((a0.getD v5.toNat Zab.d) = (a1.getD v5.toNat Zab.d)))) then
          some false
        else
          ZcB a0 a1  fu (ZaD v5 (1:Int))
      else
        some true
    else
      some true
theorem Zlz (S0:Nat→Prop) (w0:Zbh) (a0:(List Zab)) (a1:(List Zab))  : ∀ (fu:Nat) (v5:Int) (r:Bool),ZcB a0 a1  fu v5 = some r→Good Tryz.prog 32 S0 w0 (bodyPost Tryz.prog Tryz.f81 (Post S0 w0 (.one (.lit (.bool r))))) (at_ [1,1,0,1,0] (ZbM Tryz.f81)) ⟨[(0,.one (cL 5 Zab.c Zab.d a0)),(1,.one (cL 5 Zab.c Zab.d a1)),(5,.one (.lit (.int .i64 v5)))],[]⟩:=by
  intro fu
  induction fu with
  | zero =>
    intro v5 r hf
    simp [ZcB] at hf
  | succ fu ih =>
    intro v5 r hf
    unfold ZcB at hf
    rcases Zaj hf with ⟨h2,hf⟩ | ⟨h2,hf⟩
    · rcases Zaj hf with ⟨h3,hf⟩ | ⟨h3,hf⟩
      · obtain ⟨o4,hf⟩:=Zas hf
        obtain ⟨o5,hf⟩:=Zas hf
        let R1:List RA:=[rB [(4,true)],rA [(8,aB (!(decide ((a0.getD v5.toNat Zab.d) = (a1.getD v5.toNat Zab.d)))))],rz]
        have O2:Obl _:=(.c h2 (.c h3 (.c o4 (.c o5 (.c (ZtE (a0.getD v5.toNat Zab.d) (a1.getD v5.toNat Zab.d) (.tmp 26) (.tmp 30)) .n)))))
        rcases Zaj hf with ⟨h6,hf⟩ | ⟨h6,hf⟩
        · obtain rfl:=oi hf
          exact Zai Zak 13 R1 [true,true] [] [] [] (O2.app (.c h6 .n)) (by kernel_rfl) rfl
        · exact ZaI Zak Post.ends 15 R1 [true,false] ⟨[],[],[],[],[],[0,1,5],[],[]⟩ (O2.app (.c h6 .n)) (by kernel_rfl) (ih (ZaD v5 (1:Int)) r hf)
      · obtain rfl:=oi hf
        exact Zai Zak 8 [rB [(4,true)],rz] [false] [] [] [] (.c h2 (.c h3 .n)) (by kernel_rfl) rfl
    · obtain rfl:=oi hf
      exact Zai Zak 8 [rB [(4,false)],rz] [false] [] [] [] (.c h2 (.c (show false = false from rfl) .n)) (by kernel_rfl) rfl
def Zge (a0:(List Zab)) (a1:(List Zab)):Option Bool :=
  bif (((a0.length:Nat):Int) != ((a1.length:Nat):Int)) then
    some false
  else
    ZcB a0 a1  ((((a1.length:Nat):Int) - (0:Int)).toNat + 2) (0:Int)
theorem Znd (a0:(List Zab)) (a1:(List Zab)) (r:Bool) (hf:Zge a0 a1 = some r):Zat Tryz.prog 81 [.one (cL 5 Zab.c Zab.d a0),.one (cL 5 Zab.c Zab.d a1)] (.one (.lit (.bool r))):=by
  refine Zat.of Tryz.func81 rfl rfl rfl rfl fun S0 w0 =>?_
  unfold Zge at hf
  rcases Zaj hf with ⟨h1,hf⟩ | ⟨h1,hf⟩
  · obtain rfl:=oi hf
    exact Zai Zak 8 [rz,rz,rz] [true] [] [] [] (.c h1 .n) (by kernel_rfl) rfl
  · exact ZaI Zak Post.ends 11 [rz,rz,rz] [false] ⟨[],[],[],[],[],[0,1,5],[],[]⟩ (.c h1 .n) (by kernel_rfl) (Zlz S0 w0 a0 a1   ((((a1.length:Nat):Int) - (0:Int)).toNat + 2) (0:Int) r hf)
def ZcA (a0:(List Zac)) (a1:(List Zac))  : Nat→Int→Option Bool
  | 0,_ =>none
  | fu + 1,v5 =>
    bif (decide (v5 < ((a0.length:Nat):Int))) then
      bif (decide (v5 < ((a1.length:Nat):Int))) then
        need (0≤v5∧v5 < ((a0.length:Nat):Int)) <|
        need (0≤v5∧v5 < ((a1.length:Nat):Int)) <|
        bif (!(decide ((a0.getD v5.toNat Zac.d) = (a1.getD v5.toNat Zac.d)))) then
          some false
        else
          ZcA a0 a1  fu (ZaD v5 (1:Int))
      else
        some true
    else
      some true
theorem Zly (S0:Nat→Prop) (w0:Zbh) (a0:(List Zac)) (a1:(List Zac))  : ∀ (fu:Nat) (v5:Int) (r:Bool),ZcA a0 a1  fu v5 = some r→Good Tryz.prog 32 S0 w0 (bodyPost Tryz.prog Tryz.f82 (Post S0 w0 (.one (.lit (.bool r))))) (at_ [1,1,0,1,0] (ZbM Tryz.f82)) ⟨[(0,.one (cL 7 Zac.c Zac.d a0)),(1,.one (cL 7 Zac.c Zac.d a1)),(5,.one (.lit (.int .i64 v5)))],[]⟩:=by
  intro fu
  induction fu with
  | zero =>
    intro v5 r hf
    simp [ZcA] at hf
  | succ fu ih =>
    intro v5 r hf
    unfold ZcA at hf
    rcases Zaj hf with ⟨h2,hf⟩ | ⟨h2,hf⟩
    · rcases Zaj hf with ⟨h3,hf⟩ | ⟨h3,hf⟩
      · obtain ⟨o4,hf⟩:=Zas hf
        obtain ⟨o5,hf⟩:=Zas hf
        let R1:List RA:=[rB [(4,true)],rA [(8,aB (!(decide ((a0.getD v5.toNat Zac.d) = (a1.getD v5.toNat Zac.d)))))],rz]
        have O2:Obl _:=(.c h2 (.c h3 (.c o4 (.c o5 (.c (Zro (a0.getD v5.toNat Zac.d) (a1.getD v5.toNat Zac.d) (.tmp 26) (.tmp 30)) .n)))))
        rcases Zaj hf with ⟨h6,hf⟩ | ⟨h6,hf⟩
        · obtain rfl:=oi hf
          exact Zai Zak 13 R1 [true,true] [] [] [] (O2.app (.c h6 .n)) (by kernel_rfl) rfl
        · exact ZaI Zak Post.ends 15 R1 [true,false] ⟨[],[],[],[],[],[0,1,5],[],[]⟩ (O2.app (.c h6 .n)) (by kernel_rfl) (ih (ZaD v5 (1:Int)) r hf)
      · obtain rfl:=oi hf
        exact Zai Zak 8 [rB [(4,true)],rz] [false] [] [] [] (.c h2 (.c h3 .n)) (by kernel_rfl) rfl
    · obtain rfl:=oi hf
      exact Zai Zak 8 [rB [(4,false)],rz] [false] [] [] [] (.c h2 (.c (show false = false from rfl) .n)) (by kernel_rfl) rfl
def Zgd (a0:(List Zac)) (a1:(List Zac)):Option Bool :=
  bif (((a0.length:Nat):Int) != ((a1.length:Nat):Int)) then
    some false
  else
    ZcA a0 a1  ((((a1.length:Nat):Int) - (0:Int)).toNat + 2) (0:Int)
theorem Znc (a0:(List Zac)) (a1:(List Zac)) (r:Bool) (hf:Zgd a0 a1 = some r):Zat Tryz.prog 82 [.one (cL 7 Zac.c Zac.d a0),.one (cL 7 Zac.c Zac.d a1)] (.one (.lit (.bool r))):=by
  refine Zat.of Tryz.func82 rfl rfl rfl rfl fun S0 w0 =>?_
  unfold Zgd at hf
  rcases Zaj hf with ⟨h1,hf⟩ | ⟨h1,hf⟩
  · obtain rfl:=oi hf
    exact Zai Zak 8 [rz,rz,rz] [true] [] [] [] (.c h1 .n) (by kernel_rfl) rfl
  · exact ZaI Zak Post.ends 11 [rz,rz,rz] [false] ⟨[],[],[],[],[],[0,1,5],[],[]⟩ (.c h1 .n) (by kernel_rfl) (Zly S0 w0 a0 a1   ((((a1.length:Nat):Int) - (0:Int)).toNat + 2) (0:Int) r hf)
def ZfB (a0:Zae) (a1:Zae):Option Bool :=
  bif (a0.fN == a1.fN) then
    bif (decide (a0.fPeer = a1.fPeer)) then
      (Zge a0.fBans a1.fBans).bind fun x1 =>
      bif x1 then
        (Zgd a0.fBook a1.fBook).bind fun x2 =>
        some x2
      else
        some false
    else
      some false
  else
    some false
theorem Zmz (a0:Zae) (a1:Zae) (r:Bool) (hf:ZfB a0 a1 = some r):Zat Tryz.prog 126 [.agg (Zae.c a0),.agg (Zae.c a1)] (.one (.lit (.bool r))):=by
  refine Zat.of Tryz.func126 rfl rfl rfl rfl fun S0 w0 =>?_
  unfold ZfB at hf
  rcases Zaj hf with ⟨h1,hf⟩ | ⟨h1,hf⟩
  · have O1:Obl _:=(.c h1 (.c (Zsu a0.fPeer a1.fPeer (.tmp 12) (.tmp 14)) .n))
    rcases Zaj hf with ⟨h2,hf⟩ | ⟨h2,hf⟩
    · obtain ⟨x1,q3,hf⟩:=bind_some' hf
      have O2:Obl _:=(O1.app (.c h2 (.c (Znd _ _ _ q3) .n)))
      rcases Zaj hf with ⟨h4,hf⟩ | ⟨h4,hf⟩
      · obtain ⟨x2,q5,hf⟩:=bind_some' hf
        obtain rfl:=oi hf
        exact Zai Zak 4 [rz,⟨[(10,aB (decide (a0.fPeer = a1.fPeer))),(17,aB x1),(24,aB x2)],[(5,true),(12,true),(19,true)],[],[],[],[],[]⟩] [] [] [] [] (O2.app (.c h4 (.c (Znc _ _ _ q5) .n))) (by kernel_rfl) rfl
      · obtain rfl:=oi hf
        exact Zai Zak 4 [rz,⟨[(10,aB (decide (a0.fPeer = a1.fPeer))),(17,aB x1)],[(5,true),(12,true),(19,false)],[],[],[],[],[]⟩] [] [] [] [] (O2.app (.c h4 .n)) (by kernel_rfl) rfl
    · obtain rfl:=oi hf
      exact Zai Zak 4 [rz,⟨[(10,aB (decide (a0.fPeer = a1.fPeer)))],[(5,true),(12,false)],[],[],[],[],[]⟩] [] [] [] [] (O1.app (.c h2 .n)) (by kernel_rfl) rfl
  · obtain rfl:=oi hf
    exact Zai Zak 4 [rz,rB [(5,false)]] [] [] [] [] (.c h1 .n) (by kernel_rfl) rfl
def ZdC (a0:Zao) (a1:Zao):Option Bool :=
  bif (a0.fKind == a1.fKind) then
    bif (a0.fLock == a1.fLock) then
      bif (decide (a0.fLoc = a1.fLoc)) then
        bif (a0.fOld == a1.fOld) then
          bif (a0.fNew == a1.fNew) then
            bif (a0.fMark == a1.fMark) then
              (ZfB a0.fVal a1.fVal).bind fun x1 =>
              some x1
            else
              some false
          else
            some false
        else
          some false
      else
        some false
    else
      some false
  else
    some false
theorem Zkr (a0:Zao) (a1:Zao) (r:Bool) (hf:ZdC a0 a1 = some r):Zat Tryz.prog 57 [.agg (Zao.c a0),.agg (Zao.c a1)] (.one (.lit (.bool r))):=by
  refine Zat.of Tryz.func57 rfl rfl rfl rfl fun S0 w0 =>?_
  unfold ZdC at hf
  rcases Zaj hf with ⟨h1,hf⟩ | ⟨h1,hf⟩
  · rcases Zaj hf with ⟨h2,hf⟩ | ⟨h2,hf⟩
    · have O1:Obl _:=(.c h1 (.c h2 (.c (ZtZ a0.fLoc a1.fLoc (.tmp 19) (.tmp 21)) .n)))
      rcases Zaj hf with ⟨h3,hf⟩ | ⟨h3,hf⟩
      · rcases Zaj hf with ⟨h4,hf⟩ | ⟨h4,hf⟩
        · rcases Zaj hf with ⟨h5,hf⟩ | ⟨h5,hf⟩
          · rcases Zaj hf with ⟨h6,hf⟩ | ⟨h6,hf⟩
            · obtain ⟨x1,q7,hf⟩:=bind_some' hf
              obtain rfl:=oi hf
              exact Zai Zak 4 [rz,⟨[(17,aB (decide (a0.fLoc = a1.fLoc))),(45,aB x1)],[(5,true),(12,true),(19,true),(26,true),(33,true),(40,true)],[],[],[],[],[]⟩] [] [] [] [] (O1.app (.c h3 (.c h4 (.c h5 (.c h6 (.c (Zmz _ _ _ q7) .n)))))) (by kernel_rfl) rfl
            · obtain rfl:=oi hf
              exact Zai Zak 4 [rz,⟨[(17,aB (decide (a0.fLoc = a1.fLoc)))],[(5,true),(12,true),(19,true),(26,true),(33,true),(40,false)],[],[],[],[],[]⟩] [] [] [] [] (O1.app (.c h3 (.c h4 (.c h5 (.c h6 .n))))) (by kernel_rfl) rfl
          · obtain rfl:=oi hf
            exact Zai Zak 4 [rz,⟨[(17,aB (decide (a0.fLoc = a1.fLoc)))],[(5,true),(12,true),(19,true),(26,true),(33,false)],[],[],[],[],[]⟩] [] [] [] [] (O1.app (.c h3 (.c h4 (.c h5 .n)))) (by kernel_rfl) rfl
        · obtain rfl:=oi hf
          exact Zai Zak 4 [rz,⟨[(17,aB (decide (a0.fLoc = a1.fLoc)))],[(5,true),(12,true),(19,true),(26,false)],[],[],[],[],[]⟩] [] [] [] [] (O1.app (.c h3 (.c h4 .n))) (by kernel_rfl) rfl
      · obtain rfl:=oi hf
        exact Zai Zak 4 [rz,⟨[(17,aB (decide (a0.fLoc = a1.fLoc)))],[(5,true),(12,true),(19,false)],[],[],[],[],[]⟩] [] [] [] [] (O1.app (.c h3 .n)) (by kernel_rfl) rfl
    · obtain rfl:=oi hf
      exact Zai Zak 4 [rz,rB [(5,true),(12,false)]] [] [] [] [] (.c h1 (.c h2 .n)) (by kernel_rfl) rfl
  · obtain rfl:=oi hf
    exact Zai Zak 4 [rz,rB [(5,false)]] [] [] [] [] (.c h1 .n) (by kernel_rfl) rfl
def Zcs (a0:(List Zaa)) (a1:(List Zaa))  : Nat→Int→Option Bool
  | 0,_ =>none
  | fu + 1,v5 =>
    bif (decide (v5 < ((a0.length:Nat):Int))) then
      bif (decide (v5 < ((a1.length:Nat):Int))) then
        need (0≤v5∧v5 < ((a0.length:Nat):Int)) <|
        need (0≤v5∧v5 < ((a1.length:Nat):Int)) <|
        bif (!(decide ((a0.getD v5.toNat Zaa.d) = (a1.getD v5.toNat Zaa.d)))) then
          some false
        else
          Zcs a0 a1  fu (ZaD v5 (1:Int))
      else
        some true
    else
      some true
theorem Zla (S0:Nat→Prop) (w0:Zbh) (a0:(List Zaa)) (a1:(List Zaa))  : ∀ (fu:Nat) (v5:Int) (r:Bool),Zcs a0 a1  fu v5 = some r→Good Tryz.prog 32 S0 w0 (bodyPost Tryz.prog Tryz.f80 (Post S0 w0 (.one (.lit (.bool r))))) (at_ [1,1,0,1,0] (ZbM Tryz.f80)) ⟨[(0,.one (cL 10 Zaa.c Zaa.d a0)),(1,.one (cL 10 Zaa.c Zaa.d a1)),(5,.one (.lit (.int .i64 v5)))],[]⟩:=by
  intro fu
  induction fu with
  | zero =>
    intro v5 r hf
    simp [Zcs] at hf
  | succ fu ih =>
    intro v5 r hf
    unfold Zcs at hf
    rcases Zaj hf with ⟨h2,hf⟩ | ⟨h2,hf⟩
    · rcases Zaj hf with ⟨h3,hf⟩ | ⟨h3,hf⟩
      · obtain ⟨o4,hf⟩:=Zas hf
        obtain ⟨o5,hf⟩:=Zas hf
        let R1:List RA:=[rB [(4,true)],rA [(8,aB (!(decide ((a0.getD v5.toNat Zaa.d) = (a1.getD v5.toNat Zaa.d)))))],rz]
        have O2:Obl _:=(.c h2 (.c h3 (.c o4 (.c o5 (.c (ZkW (a0.getD v5.toNat Zaa.d) (a1.getD v5.toNat Zaa.d) (.tmp 26) (.tmp 30)) .n)))))
        rcases Zaj hf with ⟨h6,hf⟩ | ⟨h6,hf⟩
        · obtain rfl:=oi hf
          exact Zai Zak 13 R1 [true,true] [] [] [] (O2.app (.c h6 .n)) (by kernel_rfl) rfl
        · exact ZaI Zak Post.ends 15 R1 [true,false] ⟨[],[],[],[],[],[0,1,5],[],[]⟩ (O2.app (.c h6 .n)) (by kernel_rfl) (ih (ZaD v5 (1:Int)) r hf)
      · obtain rfl:=oi hf
        exact Zai Zak 8 [rB [(4,true)],rz] [false] [] [] [] (.c h2 (.c h3 .n)) (by kernel_rfl) rfl
    · obtain rfl:=oi hf
      exact Zai Zak 8 [rB [(4,false)],rz] [false] [] [] [] (.c h2 (.c (show false = false from rfl) .n)) (by kernel_rfl) rfl
def ZfC (a0:(List Zaa)) (a1:(List Zaa)):Option Bool :=
  bif (((a0.length:Nat):Int) != ((a1.length:Nat):Int)) then
    some false
  else
    Zcs a0 a1  ((((a1.length:Nat):Int) - (0:Int)).toNat + 2) (0:Int)
theorem ZmA (a0:(List Zaa)) (a1:(List Zaa)) (r:Bool) (hf:ZfC a0 a1 = some r):Zat Tryz.prog 80 [.one (cL 10 Zaa.c Zaa.d a0),.one (cL 10 Zaa.c Zaa.d a1)] (.one (.lit (.bool r))):=by
  refine Zat.of Tryz.func80 rfl rfl rfl rfl fun S0 w0 =>?_
  unfold ZfC at hf
  rcases Zaj hf with ⟨h1,hf⟩ | ⟨h1,hf⟩
  · obtain rfl:=oi hf
    exact Zai Zak 8 [rz,rz,rz] [true] [] [] [] (.c h1 .n) (by kernel_rfl) rfl
  · exact ZaI Zak Post.ends 11 [rz,rz,rz] [false] ⟨[],[],[],[],[],[0,1,5],[],[]⟩ (.c h1 .n) (by kernel_rfl) (Zla S0 w0 a0 a1   ((((a1.length:Nat):Int) - (0:Int)).toNat + 2) (0:Int) r hf)
def ZdD (a0:Zam) (a1:Zam):Option Bool :=
  bif (a0.fCode == a1.fCode) then
    bif (decide (a0.fEnd = a1.fEnd)) then
      bif (a0.fN == a1.fN) then
        bif (a0.fUntil == a1.fUntil) then
          (ZfC a0.fPeers a1.fPeers).bind fun x1 =>
          some x1
        else
          some false
      else
        some false
    else
      some false
  else
    some false
theorem ZiW (a0:Zam) (a1:Zam) (r:Bool) (hf:ZdD a0 a1 = some r):Zat Tryz.prog 24 [.agg (Zam.c a0),.agg (Zam.c a1)] (.one (.lit (.bool r))):=by
  refine Zat.of Tryz.func24 rfl rfl rfl rfl fun S0 w0 =>?_
  unfold ZdD at hf
  rcases Zaj hf with ⟨h1,hf⟩ | ⟨h1,hf⟩
  · have O1:Obl _:=(.c h1 (.c (ZhF a0.fEnd a1.fEnd (.tmp 12) (.tmp 14)) .n))
    rcases Zaj hf with ⟨h2,hf⟩ | ⟨h2,hf⟩
    · rcases Zaj hf with ⟨h3,hf⟩ | ⟨h3,hf⟩
      · rcases Zaj hf with ⟨h4,hf⟩ | ⟨h4,hf⟩
        · obtain ⟨x1,q5,hf⟩:=bind_some' hf
          obtain rfl:=oi hf
          exact Zai Zak 4 [rz,⟨[(10,aB (decide (a0.fEnd = a1.fEnd))),(31,aB x1)],[(5,true),(12,true),(19,true),(26,true)],[],[],[],[],[]⟩] [] [] [] [] (O1.app (.c h2 (.c h3 (.c h4 (.c (ZmA _ _ _ q5) .n))))) (by kernel_rfl) rfl
        · obtain rfl:=oi hf
          exact Zai Zak 4 [rz,⟨[(10,aB (decide (a0.fEnd = a1.fEnd)))],[(5,true),(12,true),(19,true),(26,false)],[],[],[],[],[]⟩] [] [] [] [] (O1.app (.c h2 (.c h3 (.c h4 .n)))) (by kernel_rfl) rfl
      · obtain rfl:=oi hf
        exact Zai Zak 4 [rz,⟨[(10,aB (decide (a0.fEnd = a1.fEnd)))],[(5,true),(12,true),(19,false)],[],[],[],[],[]⟩] [] [] [] [] (O1.app (.c h2 (.c h3 .n))) (by kernel_rfl) rfl
    · obtain rfl:=oi hf
      exact Zai Zak 4 [rz,⟨[(10,aB (decide (a0.fEnd = a1.fEnd)))],[(5,true),(12,false)],[],[],[],[],[]⟩] [] [] [] [] (O1.app (.c h2 .n)) (by kernel_rfl) rfl
  · obtain rfl:=oi hf
    exact Zai Zak 4 [rz,rB [(5,false)]] [] [] [] [] (.c h1 .n) (by kernel_rfl) rfl
def Zfu (a0:ZaM) (a1:Zad) (a2:Zam):Option Bool :=
  bif a1.fWait then
    bif (!a0.fDone) then
      bif (!a0.fBroken) then
        (ZdC a0.fOp a1.fOp).bind fun x1 =>
        bif x1 then
          (ZdD a0.fReply (Zam.mk (0:Int) (Zaf.mk (Zag.mk false (0:Int) (0:Int)) (0:Int)) (0:Int) (0:Int) ([]:(List Zaa)))).bind fun x2 =>
          some x2
        else
          some false
      else
        some false
    else
      some false
  else
    bif a0.fDone then
      bif (!a0.fBroken) then
        (ZdC a0.fOp (Zao.mk (0:Int) (0:Int) (Zan.mk (0:Int) (0:Int) (0:Int)) (0:Int) (0:Int) (Zae.mk (0:Int) (Zaa.mk (Zaf.mk (Zag.mk false (0:Int) (0:Int)) (0:Int)) false (0:Int) (Zah.mk (0:Int) (0:Int)) (0:Int) (0:Int)) ([]:(List Zab)) ([]:(List Zac))) false)).bind fun x3 =>
        bif x3 then
          (ZdD a0.fReply a2).bind fun x4 =>
          some x4
        else
          some false
      else
        some false
    else
      some false
theorem ZnR (a0:ZaM) (a1:Zad) (a2:Zam) (r:Bool) (hf:Zfu a0 a1 a2 = some r):Zat Tryz.prog 15 [.agg (ZaM.c a0),.agg (Zad.c a1),.agg (Zam.c a2)] (.one (.lit (.bool r))):=by
  refine Zat.of Tryz.func15 rfl rfl rfl rfl fun S0 w0 =>?_
  unfold Zfu at hf
  rcases Zaj hf with ⟨h1,hf⟩ | ⟨h1,hf⟩
  · rcases Zaj hf with ⟨h2,hf⟩ | ⟨h2,hf⟩
    · rcases Zaj hf with ⟨h3,hf⟩ | ⟨h3,hf⟩
      · obtain ⟨x1,q4,hf⟩:=bind_some' hf
        have O1:Obl _:=(.c h1 (.c h2 (.c h3 (.c (Zkr _ _ _ q4) .n))))
        rcases Zaj hf with ⟨h5,hf⟩ | ⟨h5,hf⟩
        · obtain ⟨x2,q6,hf⟩:=bind_some' hf
          obtain rfl:=oi hf
          exact Zai Zak 8 [rz,rz,⟨[(13,aB x1),(19,aB x2)],[(3,true),(8,true),(15,true)],[],[],[(18,[(7,cL 10 Zaa.c Zaa.d [])])],[],[]⟩] [true] [] [] [] (O1.app (.c h5 (.c (ZiW _ _ _ q6) .n))) (by kernel_rfl) rfl
        · obtain rfl:=oi hf
          exact Zai Zak 8 [rz,rz,⟨[(13,aB x1)],[(3,true),(8,true),(15,false)],[],[],[],[],[]⟩] [true] [] [] [] (O1.app (.c h5 .n)) (by kernel_rfl) rfl
      · obtain rfl:=oi hf
        exact Zai Zak 8 [rz,rz,rB [(3,true),(8,false)]] [true] [] [] [] (.c h1 (.c h2 (.c h3 .n))) (by kernel_rfl) rfl
    · obtain rfl:=oi hf
      exact Zai Zak 8 [rz,rz,rB [(3,false)]] [true] [] [] [] (.c h1 (.c h2 .n)) (by kernel_rfl) rfl
  · rcases Zaj hf with ⟨h7,hf⟩ | ⟨h7,hf⟩
    · rcases Zaj hf with ⟨h8,hf⟩ | ⟨h8,hf⟩
      · obtain ⟨x3,q9,hf⟩:=bind_some' hf
        have O2:Obl _:=(.c h1 (.c h7 (.c h8 (.c (Zkr _ _ _ q9) .n))))
        rcases Zaj hf with ⟨h10,hf⟩ | ⟨h10,hf⟩
        · obtain ⟨x4,q11,hf⟩:=bind_some' hf
          obtain rfl:=oi hf
          exact Zai Zak 9 [rz,rz,⟨[(11,aB x3),(17,aB x4)],[(2,true),(7,true),(13,true)],[],[],[(10,[(18,cL 5 Zab.c Zab.d []),(19,cL 7 Zac.c Zac.d [])])],[],[]⟩] [false] [] [] [] (O2.app (.c h10 (.c (ZiW _ _ _ q11) .n))) (by kernel_rfl) rfl
        · obtain rfl:=oi hf
          exact Zai Zak 9 [rz,rz,⟨[(11,aB x3)],[(2,true),(7,true),(13,false)],[],[],[(10,[(18,cL 5 Zab.c Zab.d []),(19,cL 7 Zac.c Zac.d [])])],[],[]⟩] [false] [] [] [] (O2.app (.c h10 .n)) (by kernel_rfl) rfl
      · obtain rfl:=oi hf
        exact Zai Zak 9 [rz,rz,rB [(2,true),(7,false)]] [false] [] [] [] (.c h1 (.c h7 (.c h8 .n))) (by kernel_rfl) rfl
    · obtain rfl:=oi hf
      exact Zai Zak 9 [rz,rz,rB [(2,false)]] [false] [] [] [] (.c h1 (.c h7 .n)) (by kernel_rfl) rfl
def ZeM (a0:Zaz) (a1:Zaw) (a2:(List Zae)):Option Bool :=
  (ZeX a0).bind fun x1 =>
  bif (!x1) then
    (Zee).bind fun x2 =>
    some x2
  else
    (Zhm a2).bind fun x3 =>
    bif (!x3) then
      (Zee).bind fun x4 =>
      some x4
    else
      (ZfD a0 a1 a2).bind fun x5 =>
      (Zht a0 a1 a2).bind fun x6 =>
      (Zfu x6 x5.1 x5.2).bind fun x7 =>
      bif x7 then
        (Zee).bind fun x8 =>
        some x8
      else
        some false
theorem Zkt (a0:Zaz) (a1:Zaw) (a2:(List Zae)) (r:Bool) (hf:ZeM a0 a1 a2 = some r):Zat Tryz.prog 3 [.agg (Zaz.c a0),.agg (Zaw.c a1),.one (cL 13 Zae.c Zae.d a2)] (.one (.lit (.bool r))):=by
  refine Zat.of Tryz.func3 rfl rfl rfl rfl fun S0 w0 =>?_
  unfold ZeM at hf
  obtain ⟨x1,q1,hf⟩:=bind_some' hf
  rcases Zaj hf with ⟨h2,hf⟩ | ⟨h2,hf⟩
  · obtain ⟨x2,q3,hf⟩:=bind_some' hf
    obtain rfl:=oi hf
    exact Zai Zak 8 [rz,⟨[(1,aB x1)],[(3,true)],[],[],[],[],[]⟩,rA [(0,aB x2)]] [true] [] [] [] (.c (ZiJ _ _ q1) (.c h2 (.c (show true = true from rfl) (.c (ZgS  _ q3) .n)))) (by kernel_rfl) rfl
  · obtain ⟨x3,q4,hf⟩:=bind_some' hf
    let R1:List RA:=[rz,⟨[(1,aB x1),(5,aB x3)],[(3,false)],[],[],[],[],[]⟩]
    have O2:Obl _:=(.c (ZiJ _ _ q1) (.c h2 (.c (Znn _ _ q4) .n)))
    rcases Zaj hf with ⟨h5,hf⟩ | ⟨h5,hf⟩
    · obtain ⟨x4,q6,hf⟩:=bind_some' hf
      obtain rfl:=oi hf
      exact Zai Zak 8 (R1 ++ [rA [(0,aB x4)]]) [true] [] [] [] (O2.app (.c h5 (.c (ZgS  _ q6) .n))) (by kernel_rfl) rfl
    · obtain ⟨x5,q7,hf⟩:=bind_some' hf
      obtain ⟨x6,q8,hf⟩:=bind_some' hf
      obtain ⟨x7,q9,hf⟩:=bind_some' hf
      let R3:List RA:=(R1 ++ [rA [(3,.r (.tup [(true,Zad.c x5.1),(true,Zam.c x5.2)]) [])]])
      have O4:Obl _:=(O2.app (.c h5 (.c (ZmB _ _ _ _ q7) (.c (Zkq _ _ _ _ q8) (.c (ZnR _ _ _ _ q9) .n)))))
      rcases Zaj hf with ⟨h10,hf⟩ | ⟨h10,hf⟩
      · obtain ⟨x8,q11,hf⟩:=bind_some' hf
        obtain rfl:=oi hf
        exact Zai Zak 11 (R3 ++ [⟨[(3,aG (ZaM.c x6)),(6,aB x7),(8,aB x8)],[(7,true)],[],[],[],[],[]⟩]) [false] [] [] [] (O4.app (.c h10 (.c (ZgS  _ q11) .n))) (by kernel_rfl) rfl
      · obtain rfl:=oi hf
        exact Zai Zak 11 (R3 ++ [⟨[(3,aG (ZaM.c x6)),(6,aB x7)],[(7,false)],[],[],[],[],[]⟩]) [false] [] [] [] (O4.app (.c h10 .n)) (by kernel_rfl) rfl
end Go.Proofs.YtdjfoojllbfcgaaGreat
