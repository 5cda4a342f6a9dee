import Derived.Test.YtdjfoojllbfcgaaGreatLLeaA2
namespace Go.Proofs.YtdjfoojllbfcgaaGreat
open Go.RowKit Go.Lib Go.Shelf
set_option linter.unusedVariables false
set_option maxRecDepth 100000
def ZaR(a0:ZaC)(a1:ZaE)(a2:Int):Option (ZaC×Zae):=(ZaS a0 a1).bind fun x1=>bif(!x1)then some (a0,(Zae.mk (0:Int) (Zaa.mk (Zag.mk (Zaj.mk false (0:Int) (0:Int)) (0:Int)) false (0:Int) (Zam.mk (0:Int) (0:Int)) (0:Int) (0:Int)) ([]:(List Zab)) ([]:(List Zac))))else(ZbU a0 a1.fLock).bind fun x2=>bif(a1.fKind==(1:Int))then(ZcI a0 a1.fLock (Zat.mk (Zaw a2 (1:Int)) x2.fShare)).bind fun x3=>some (x3,(Zae.mk (0:Int) (Zaa.mk (Zag.mk (Zaj.mk false (0:Int) (0:Int)) (0:Int)) false (0:Int) (Zam.mk (0:Int) (0:Int)) (0:Int) (0:Int)) ([]:(List Zab)) ([]:(List Zac))))else bif(a1.fKind==(2:Int))then(Zgk x2.fShare a2).bind fun x4=>(ZcI a0 a1.fLock (Zat.mk x2.fBy x4)).bind fun x5=>some (x5,(Zae.mk (0:Int) (Zaa.mk (Zag.mk (Zaj.mk false (0:Int) (0:Int)) (0:Int)) false (0:Int) (Zam.mk (0:Int) (0:Int)) (0:Int) (0:Int)) ([]:(List Zab)) ([]:(List Zac))))else bif(a1.fKind==(3:Int))then bif(x2.fBy==(Zaw a2 (1:Int)))then(ZcI a0 a1.fLock (Zat.mk (0:Int) x2.fShare)).bind fun x6=>some (x6,(Zae.mk (0:Int) (Zaa.mk (Zag.mk (Zaj.mk false (0:Int) (0:Int)) (0:Int)) false (0:Int) (Zam.mk (0:Int) (0:Int)) (0:Int) (0:Int)) ([]:(List Zab)) ([]:(List Zac))))else(ZcI a0 a1.fLock x2).bind fun x7=>some (x7,(Zae.mk (0:Int) (Zaa.mk (Zag.mk (Zaj.mk false (0:Int) (0:Int)) (0:Int)) false (0:Int) (Zam.mk (0:Int) (0:Int)) (0:Int) (0:Int)) ([]:(List Zab)) ([]:(List Zac))))else bif(a1.fKind==(4:Int))then(ZfN x2.fShare a2).bind fun x8=>(ZcI a0 a1.fLock (Zat.mk x2.fBy x8)).bind fun x9=>some (x9,(Zae.mk (0:Int) (Zaa.mk (Zag.mk (Zaj.mk false (0:Int) (0:Int)) (0:Int)) false (0:Int) (Zam.mk (0:Int) (0:Int)) (0:Int) (0:Int)) ([]:(List Zab)) ([]:(List Zac))))else bif(a1.fKind==(5:Int))then(Zdc a0 a1.fLoc).bind fun x10=>some (a0,x10)else bif(a1.fKind==(6:Int))then(ZcR a0 a1.fLoc a1.fVal).bind fun x11=>some (x11,(Zae.mk (0:Int) (Zaa.mk (Zag.mk (Zaj.mk false (0:Int) (0:Int)) (0:Int)) false (0:Int) (Zam.mk (0:Int) (0:Int)) (0:Int) (0:Int)) ([]:(List Zab)) ([]:(List Zac))))else bif(a1.fKind==(7:Int))then bif(a1.fLoc.fKind==(1:Int))then bif(a0.fIn==a1.fOld)then some ((ZaC.mk a1.fNew a0.fOut a0.fBans a0.fBook a0.fShards a0.fLocks),(Zae.mk (1:Int) (Zaa.mk (Zag.mk (Zaj.mk false (0:Int) (0:Int)) (0:Int)) false (0:Int) (Zam.mk (0:Int) (0:Int)) (0:Int) (0:Int)) ([]:(List Zab)) ([]:(List Zac))))else bif(a1.fLoc.fKind==(2:Int))then bif(a0.fOut==a1.fOld)then some ((ZaC.mk a0.fIn a1.fNew a0.fBans a0.fBook a0.fShards a0.fLocks),(Zae.mk (1:Int) (Zaa.mk (Zag.mk (Zaj.mk false (0:Int) (0:Int)) (0:Int)) false (0:Int) (Zam.mk (0:Int) (0:Int)) (0:Int) (0:Int)) ([]:(List Zab)) ([]:(List Zac))))else some (a0,(Zae.mk (0:Int) (Zaa.mk (Zag.mk (Zaj.mk false (0:Int) (0:Int)) (0:Int)) false (0:Int) (Zam.mk (0:Int) (0:Int)) (0:Int) (0:Int)) ([]:(List Zab)) ([]:(List Zac))))else some (a0,(Zae.mk (0:Int) (Zaa.mk (Zag.mk (Zaj.mk false (0:Int) (0:Int)) (0:Int)) false (0:Int) (Zam.mk (0:Int) (0:Int)) (0:Int) (0:Int)) ([]:(List Zab)) ([]:(List Zac))))else bif(a1.fLoc.fKind==(2:Int))then bif(a0.fOut==a1.fOld)then some ((ZaC.mk a0.fIn a1.fNew a0.fBans a0.fBook a0.fShards a0.fLocks),(Zae.mk (1:Int) (Zaa.mk (Zag.mk (Zaj.mk false (0:Int) (0:Int)) (0:Int)) false (0:Int) (Zam.mk (0:Int) (0:Int)) (0:Int) (0:Int)) ([]:(List Zab)) ([]:(List Zac))))else some (a0,(Zae.mk (0:Int) (Zaa.mk (Zag.mk (Zaj.mk false (0:Int) (0:Int)) (0:Int)) false (0:Int) (Zam.mk (0:Int) (0:Int)) (0:Int) (0:Int)) ([]:(List Zab)) ([]:(List Zac))))else some (a0,(Zae.mk (0:Int) (Zaa.mk (Zag.mk (Zaj.mk false (0:Int) (0:Int)) (0:Int)) false (0:Int) (Zam.mk (0:Int) (0:Int)) (0:Int) (0:Int)) ([]:(List Zab)) ([]:(List Zac))))else some (a0,(Zae.mk (0:Int) (Zaa.mk (Zag.mk (Zaj.mk false (0:Int) (0:Int)) (0:Int)) false (0:Int) (Zam.mk (0:Int) (0:Int)) (0:Int) (0:Int)) ([]:(List Zab)) ([]:(List Zac))))
theorem ZgI(a0:ZaC)(a1:ZaE)(a2:Int)(r:(ZaC×Zae))(hf:ZaR a0 a1 a2=some r):Zaz Tryz.prog 30 [.agg (ZaC.c a0),.agg (ZaE.c a1),.one (.lit (.int .i64 a2))] (.tup [(true,ZaC.c r.1),(true,Zae.c r.2)]):=by
 refine Zaz.of Tryz.func30 rfl rfl rfl rfl fun S0 w0=>?_;unfold ZaR at hf;obtain⟨x1,q1,hf⟩:=Zaf hf;rcases Zah hf with⟨h2,hf⟩|⟨h2,hf⟩
 ·obtain rfl:=oi hf;exact Zai Zak 8 [rz,rA [(2,aB x1)],rz] [true] [] [(7,[(11,cL 5 Zab.c Zab.d []),(12,cL 7 Zac.c Zac.d [])])] [] (.c (ZdS _ _ _ q1) (.c h2 .n)) (by kernel_rfl) rfl
 ·obtain⟨x2,q3,hf⟩:=Zaf hf
  let R1:List RA:=[rz,rA [(2,aB x1)],rA [(3,aG (Zat.c x2))],rz,rz,rz]
  have O2:Obl _:=(.c (ZdS _ _ _ q1) (.c h2 (.c (Zjq _ _ _ q3) .n)));rcases Zah hf with⟨h4,hf⟩|⟨h4,hf⟩
  ·obtain⟨x3,q5,hf⟩:=Zaf hf;obtain rfl:=oi hf;exact Zai Zak 20 (R1++[rA [(4,aG (ZaC.c x3))]]) [false,true] [] [(7,[(11,cL 5 Zab.c Zab.d []),(12,cL 7 Zac.c Zac.d [])])] [] (O2.app (.c h4 (.c (Zeq _ _ _ _ q5) .n))) (by kernel_rfl) rfl
  ·rcases Zah hf with⟨h6,hf⟩|⟨h6,hf⟩
   ·obtain⟨x4,q7,hf⟩:=Zaf hf;obtain⟨x5,q8,hf⟩:=Zaf hf;obtain rfl:=oi hf;exact Zai Zak 23 (R1++[rA [(3,.r (.one (cL 1 (cI .i64) (0:Int) x4)) [])],rA [(4,aG (ZaC.c x5))]]) [false,false,true] [] [(7,[(11,cL 5 Zab.c Zab.d []),(12,cL 7 Zac.c Zac.d [])])] [] (O2.app (.c h4 (.c h6 (.c (Zmz _ _ _ q7) (.c (Zeq _ _ _ _ q8) .n))))) (by kernel_rfl) rfl
   ·rcases Zah hf with⟨h9,hf⟩|⟨h9,hf⟩
    ·rcases Zah hf with⟨h10,hf⟩|⟨h10,hf⟩
     ·obtain⟨x6,q11,hf⟩:=Zaf hf;obtain rfl:=oi hf;exact Zai Zak 29 (R1++[rz,rz,rz,rA [(4,aG (ZaC.c x6))]]) [false,false,false,true,true] [] [(7,[(11,cL 5 Zab.c Zab.d []),(12,cL 7 Zac.c Zac.d [])])] [] (O2.app (.c h4 (.c h6 (.c h9 (.c h10 (.c (Zeq _ _ _ _ q11) .n)))))) (by kernel_rfl) rfl
     ·obtain⟨x7,q12,hf⟩:=Zaf hf;obtain rfl:=oi hf;exact Zai Zak 29 (R1++[rz,rz,rA [(4,aG (ZaC.c x7))]]) [false,false,false,true,false] [] [(7,[(11,cL 5 Zab.c Zab.d []),(12,cL 7 Zac.c Zac.d [])])] [] (O2.app (.c h4 (.c h6 (.c h9 (.c h10 (.c (Zeq _ _ _ _ q12) .n)))))) (by kernel_rfl) rfl
    ·rcases Zah hf with⟨h13,hf⟩|⟨h13,hf⟩
     ·obtain⟨x8,q14,hf⟩:=Zaf hf;obtain⟨x9,q15,hf⟩:=Zaf hf;obtain rfl:=oi hf;exact Zai Zak 29 (R1++[rz,rz,rA [(3,.r (.one (cL 1 (cI .i64) (0:Int) x8)) [])],rA [(4,aG (ZaC.c x9))]]) [false,false,false,false,true] [] [(7,[(11,cL 5 Zab.c Zab.d []),(12,cL 7 Zac.c Zac.d [])])] [] (O2.app (.c h4 (.c h6 (.c h9 (.c h13 (.c (ZlO _ _ _ q14) (.c (Zeq _ _ _ _ q15) .n))))))) (by kernel_rfl) rfl
     ·rcases Zah hf with⟨h16,hf⟩|⟨h16,hf⟩
      ·obtain⟨x10,q17,hf⟩:=Zaf hf;obtain rfl:=oi hf;exact Zai Zak 30 (R1++[rz,rz,rz,rA [(4,aG (Zae.c x10))]]) [false,false,false,false,false,true] [] [] [] (O2.app (.c h4 (.c h6 (.c h9 (.c h13 (.c h16 (.c (ZnJ _ _ _ q17) .n))))))) (by kernel_rfl) rfl
      ·rcases Zah hf with⟨h18,hf⟩|⟨h18,hf⟩
       ·obtain⟨x11,q19,hf⟩:=Zaf hf;obtain rfl:=oi hf;exact Zai Zak 33 (R1++[rz,rz,rz,rz,rA [(5,aG (ZaC.c x11))]]) [false,false,false,false,false,false,true] [] [(7,[(11,cL 5 Zab.c Zab.d []),(12,cL 7 Zac.c Zac.d [])])] [] (O2.app (.c h4 (.c h6 (.c h9 (.c h13 (.c h16 (.c h18 (.c (Znb _ _ _ _ q19) .n)))))))) (by kernel_rfl) rfl
       ·have O3:Obl _:=(O2.app (.c h4 (.c h6 (.c h9 (.c h13 (.c h16 (.c h18 .n)))))));rcases Zah hf with⟨h20,hf⟩|⟨h20,hf⟩
        ·rcases Zah hf with⟨h21,hf⟩|⟨h21,hf⟩
         ·rcases Zah hf with⟨h22,hf⟩|⟨h22,hf⟩
          ·obtain rfl:=oi hf;exact Zai Zak 42 (R1++[rz,rz,rz,rz,rz,rB [(4,true)],rz,rz]) [false,false,false,false,false,false,false,true,true] [] [(7,[(11,cL 5 Zab.c Zab.d []),(12,cL 7 Zac.c Zac.d [])])] [] (O3.app (.c h20 (.c h21 (.c h22 .n)))) (by kernel_rfl) rfl
          ·rcases Zah hf with⟨h23,hf⟩|⟨h23,hf⟩
           ·let R4:List RA:=(R1++[rz,rz,rz,rz,rz,rB [(4,true)],rB [(4,true)],rz])
            rcases Zah hf with⟨h24,hf⟩|⟨h24,hf⟩
            ·obtain rfl:=oi hf;exact Zai Zak 46 (R4++[rz]) [false,false,false,false,false,false,false,true,false,true] [] [(7,[(11,cL 5 Zab.c Zab.d []),(12,cL 7 Zac.c Zac.d [])])] [] (O3.app (.c h20 (.c h21 (.c h22 (.c h23 (.c h24 .n)))))) (by kernel_rfl) rfl
            ·obtain rfl:=oi hf;exact Zai Zak 46 R4 [false,false,false,false,false,false,false,true,false,false] [] [(7,[(11,cL 5 Zab.c Zab.d []),(12,cL 7 Zac.c Zac.d [])])] [] (O3.app (.c h20 (.c h21 (.c h22 (.c h23 (.c h24 .n)))))) (by kernel_rfl) rfl
           ·obtain rfl:=oi hf;exact Zai Zak 46 (R1++[rz,rz,rz,rz,rz,rB [(4,true)],rB [(4,false)],rz]) [false,false,false,false,false,false,false,true,false,false] [] [(7,[(11,cL 5 Zab.c Zab.d []),(12,cL 7 Zac.c Zac.d [])])] [] (O3.app (.c h20 (.c h21 (.c h22 (.c h23 (.c (show false=false from rfl) .n)))))) (by kernel_rfl) rfl
         ·have O5:Obl _:=(O3.app (.c h20 (.c h21 (.c (show false=false from rfl) .n))));rcases Zah hf with⟨h25,hf⟩|⟨h25,hf⟩
          ·let R6:List RA:=(R1++[rz,rz,rz,rz,rz,rB [(4,false)],rB [(4,true)],rz])
           rcases Zah hf with⟨h26,hf⟩|⟨h26,hf⟩
           ·obtain rfl:=oi hf;exact Zai Zak 46 (R6++[rz]) [false,false,false,false,false,false,false,true,false,true] [] [(7,[(11,cL 5 Zab.c Zab.d []),(12,cL 7 Zac.c Zac.d [])])] [] (O5.app (.c h25 (.c h26 .n))) (by kernel_rfl) rfl
           ·obtain rfl:=oi hf;exact Zai Zak 46 R6 [false,false,false,false,false,false,false,true,false,false] [] [(7,[(11,cL 5 Zab.c Zab.d []),(12,cL 7 Zac.c Zac.d [])])] [] (O5.app (.c h25 (.c h26 .n))) (by kernel_rfl) rfl
          ·obtain rfl:=oi hf;exact Zai Zak 46 (R1++[rz,rz,rz,rz,rz,rB [(4,false)],rB [(4,false)],rz]) [false,false,false,false,false,false,false,true,false,false] [] [(7,[(11,cL 5 Zab.c Zab.d []),(12,cL 7 Zac.c Zac.d [])])] [] (O5.app (.c h25 (.c (show false=false from rfl) .n))) (by kernel_rfl) rfl
        ·obtain rfl:=oi hf;exact Zai Zak 38 (R1++[rz,rz,rz,rz,rz,rz]) [false,false,false,false,false,false,false,false] [] [(7,[(11,cL 5 Zab.c Zab.d []),(12,cL 7 Zac.c Zac.d [])])] [] (O3.app (.c h20 .n)) (by kernel_rfl) rfl
def Zau:Nat→Int→Int→(List Zae)→ZaB→Zap→ZaA→ZaC→Option Bool|0,_,_,_,_,_,_,_=>none|fu+1,v9,v10,w8,b3,b4,b5,b7=>bif(decide (v10<(400:Int)))then(ZiN b3 b5).bind fun x8=>(match x8 with | .c67 p9_67=>(Zin p9_67 w8).bind fun x10=>bif x10.fDone then(ZaX b3 b4 b5).bind fun x11=>bif(v9==(1:Int))then(ZcH x10.fReply x11.2).bind fun x12=>bif x12 then(Zct b7).bind fun x13=>(ZcG x13 x11.1).bind fun x14=>bif x14 then(ZbC x11.1).bind fun x15=>(Zdi b7 x11.1 x15).bind fun x16=>bif x16 then(ZbH).bind fun x17=>some x17 else some false else some false else some false else some false else bif x10.fBroken then some false else(ZaS b7 x10.fOp).bind fun x18=>bif(!x18)then some false else(ZaR b7 x10.fOp (0:Int)).bind fun x19=>need ((w8++([x19.2]:List Zae)).length * 136≤140737488355328∧(w8++([x19.2]:List Zae)).length≤maxLen)<|bif x10.fOp.fMark then bif(x10.fOp.fKind != (7:Int))then Zau fu (Zaw v9 (1:Int)) (Zaw v10 (1:Int)) (w8++([x19.2]:List Zae)) b3 b4 b5 x19.1 else bif(x19.2.fN==(1:Int))then Zau fu (Zaw v9 (1:Int)) (Zaw v10 (1:Int)) (w8++([x19.2]:List Zae)) b3 b4 b5 x19.1 else Zau fu v9 (Zaw v10 (1:Int)) (w8++([x19.2]:List Zae)) b3 b4 b5 x19.1 else Zau fu v9 (Zaw v10 (1:Int)) (w8++([x19.2]:List Zae)) b3 b4 b5 x19.1 | .c68 p19_68=>(ZjK p19_68 w8).bind fun x20=>bif x20.fDone then(ZaX b3 b4 b5).bind fun x21=>bif(v9==(1:Int))then(ZcH x20.fReply x21.2).bind fun x22=>bif x22 then(Zct b7).bind fun x23=>(ZcG x23 x21.1).bind fun x24=>bif x24 then(ZbC x21.1).bind fun x25=>(Zdi b7 x21.1 x25).bind fun x26=>bif x26 then(ZbH).bind fun x27=>some x27 else some false else some false else some false else some false else bif x20.fBroken then some false else(ZaS b7 x20.fOp).bind fun x28=>bif(!x28)then some false else(ZaR b7 x20.fOp (0:Int)).bind fun x29=>need ((w8++([x29.2]:List Zae)).length * 136≤140737488355328∧(w8++([x29.2]:List Zae)).length≤maxLen)<|bif x20.fOp.fMark then bif(x20.fOp.fKind != (7:Int))then Zau fu (Zaw v9 (1:Int)) (Zaw v10 (1:Int)) (w8++([x29.2]:List Zae)) b3 b4 b5 x29.1 else bif(x29.2.fN==(1:Int))then Zau fu (Zaw v9 (1:Int)) (Zaw v10 (1:Int)) (w8++([x29.2]:List Zae)) b3 b4 b5 x29.1 else Zau fu v9 (Zaw v10 (1:Int)) (w8++([x29.2]:List Zae)) b3 b4 b5 x29.1 else Zau fu v9 (Zaw v10 (1:Int)) (w8++([x29.2]:List Zae)) b3 b4 b5 x29.1 | .c69 p29_69=>(ZjJ p29_69 w8).bind fun x30=>bif x30.fDone then(ZaX b3 b4 b5).bind fun x31=>bif(v9==(1:Int))then(ZcH x30.fReply x31.2).bind fun x32=>bif x32 then(Zct b7).bind fun x33=>(ZcG x33 x31.1).bind fun x34=>bif x34 then(ZbC x31.1).bind fun x35=>(Zdi b7 x31.1 x35).bind fun x36=>bif x36 then(ZbH).bind fun x37=>some x37 else some false else some false else some false else some false else bif x30.fBroken then some false else(ZaS b7 x30.fOp).bind fun x38=>bif(!x38)then some false else(ZaR b7 x30.fOp (0:Int)).bind fun x39=>need ((w8++([x39.2]:List Zae)).length * 136≤140737488355328∧(w8++([x39.2]:List Zae)).length≤maxLen)<|bif x30.fOp.fMark then bif(x30.fOp.fKind != (7:Int))then Zau fu (Zaw v9 (1:Int)) (Zaw v10 (1:Int)) (w8++([x39.2]:List Zae)) b3 b4 b5 x39.1 else bif(x39.2.fN==(1:Int))then Zau fu (Zaw v9 (1:Int)) (Zaw v10 (1:Int)) (w8++([x39.2]:List Zae)) b3 b4 b5 x39.1 else Zau fu v9 (Zaw v10 (1:Int)) (w8++([x39.2]:List Zae)) b3 b4 b5 x39.1 else Zau fu v9 (Zaw v10 (1:Int)) (w8++([x39.2]:List Zae)) b3 b4 b5 x39.1 | .c70 p39_70=>(Zim p39_70 w8).bind fun x40=>bif x40.fDone then(ZaX b3 b4 b5).bind fun x41=>bif(v9==(1:Int))then(ZcH x40.fReply x41.2).bind fun x42=>bif x42 then(Zct b7).bind fun x43=>(ZcG x43 x41.1).bind fun x44=>bif x44 then(ZbC x41.1).bind fun x45=>(Zdi b7 x41.1 x45).bind fun x46=>bif x46 then(ZbH).bind fun x47=>some x47 else some false else some false else some false else some false else bif x40.fBroken then some false else(ZaS b7 x40.fOp).bind fun x48=>bif(!x48)then some false else(ZaR b7 x40.fOp (0:Int)).bind fun x49=>need ((w8++([x49.2]:List Zae)).length * 136≤140737488355328∧(w8++([x49.2]:List Zae)).length≤maxLen)<|bif x40.fOp.fMark then bif(x40.fOp.fKind != (7:Int))then Zau fu (Zaw v9 (1:Int)) (Zaw v10 (1:Int)) (w8++([x49.2]:List Zae)) b3 b4 b5 x49.1 else bif(x49.2.fN==(1:Int))then Zau fu (Zaw v9 (1:Int)) (Zaw v10 (1:Int)) (w8++([x49.2]:List Zae)) b3 b4 b5 x49.1 else Zau fu v9 (Zaw v10 (1:Int)) (w8++([x49.2]:List Zae)) b3 b4 b5 x49.1 else Zau fu v9 (Zaw v10 (1:Int)) (w8++([x49.2]:List Zae)) b3 b4 b5 x49.1)else some false
theorem ZjC(S0:Nat→Prop)(w0:ZaW):∀(fu:Nat)(v9 v10:Int)(w8:List Zae)(b3:ZaB)(b4:Zap)(b5:ZaA)(b7:ZaC)(r:Bool),Zau fu v9 v10 w8 b3 b4 b5 b7=some r→Good Tryz.prog 113 S0 w0 (bodyPost Tryz.prog Tryz.f4 (Post S0 w0 (.one (.lit (.bool r))))) (at_ [1,1,1,1,1,0,1,0] (Zbl Tryz.f4)) ⟨[(3,.one (.ptr 3 0)),(4,.one (.ptr 4 0)),(5,.one (.ptr 5 0)),(7,.one (.ptr 7 0)),(8,.one (.osl 8 w8.length)),(9,.one (.lit (.int .i64 v9))),(10,.one (.lit (.int .i64 v10)))],[(8,.rows 48 13 w8.length (Zao Zae.c Zae.d w8)),(3,.box [.lit (.int .i64 b3.fMaxIn),.lit (.int .i64 b3.fMaxOut),.lit (.int .i64 b3.fShards),.lit (.int .i64 b3.fMaxBans),.lit (.int .i64 b3.fMaxBook),.lit (.int .u64 b3.fSecret),.lit (.int .i64 b3.fQuota.fGroup),.lit (.int .i64 b3.fQuota.fPing),.lit (.int .i64 b3.fQuota.fWork),.lit (.int .i64 b3.fQuota.fTime),.lit (.int .i64 b3.fHalf),.lit (.int .i64 b3.fLimit),.lit (.int .i64 b3.fBanFor),.lit (.int .i64 b3.fBase),.lit (.int .i64 b3.fCap),.lit (.int .i64 b3.fJitter)]),(4,.box [cL 5 Zab.c Zab.d b4.fBans,cL 7 Zac.c Zac.d b4.fBook,cL 10 Zaa.c Zaa.d b4.fPeers]),(5,.box [.lit (.int .i64 b5.fKind),.lit (.bool b5.fEnd.fAddr.fV6),.lit (.int .u64 b5.fEnd.fAddr.fHi),.lit (.int .u64 b5.fEnd.fAddr.fLo),.lit (.int .i64 b5.fEnd.fPort),.lit (.bool b5.fNet.fAddr.fV6),.lit (.int .u64 b5.fNet.fAddr.fHi),.lit (.int .u64 b5.fNet.fAddr.fLo),.lit (.int .i64 b5.fNet.fBits),.lit (.int .i64 b5.fNow),.lit (.int .i64 b5.fNum),.lit (.bool b5.fGood)]),(7,.box [.lit (.int .i64 b7.fIn),.lit (.int .i64 b7.fOut),cL 5 Zab.c Zab.d b7.fBans,cL 7 Zac.c Zac.d b7.fBook,cL 2 Zad.c Zad.d b7.fShards,cL 2 Zat.c Zat.d b7.fLocks])]⟩:=by
 intro fu;induction fu with
 |zero=>
  intro v9 v10 w8 b3 b4 b5 b7 r hf;simp[Zau]at hf
 |succ fu ih=>
  intro v9 v10 w8 b3 b4 b5 b7 r hf;unfold Zau at hf;rcases Zah hf with⟨h11,hf⟩|⟨h11,hf⟩
  ·obtain⟨x8,q12,hf⟩:=Zaf hf;cases x8 with
   |c67 p9_67=>
    dsimp only at hf;obtain⟨x10,q13,hf⟩:=Zaf hf
    let R1:List RA:=[rz,rH [(2,.r (.one (ZgD.c (ZgD.c67 p9_67))) [])] [(4,⟨[(99997,99997)],[],[],.agg (ZaT.c x10)⟩)],rz]
    have O2:Obl _:=(.c h11 (.c (ZeK _ _ _ q12) (.c (Zms _ _ _ q13) .n)));rcases Zah hf with⟨h14,hf⟩|⟨h14,hf⟩
    ·obtain⟨x11,q15,hf⟩:=Zaf hf
     let R3:List RA:=(R1++[rA [(3,.r (.tup [(true,Zap.c x11.1),(true,Zaq.c x11.2)]) [])]])
     have O4:Obl _:=(O2.app (.c h14 (.c (ZgJ _ _ _ _ q15) .n)));rcases Zah hf with⟨h16,hf⟩|⟨h16,hf⟩
     ·obtain⟨x12,q17,hf⟩:=Zaf hf;have O5:Obl _:=(O4.app (.c h16 (.c (ZfM _ _ _ q17) .n)));rcases Zah hf with⟨h18,hf⟩|⟨h18,hf⟩
      ·obtain⟨x13,q19,hf⟩:=Zaf hf;obtain⟨x14,q20,hf⟩:=Zaf hf;have O6:Obl _:=(O5.app (.c h18 (.c (Zfk _ _ q19) (.c (ZfL _ _ _ q20) .n))));rcases Zah hf with⟨h21,hf⟩|⟨h21,hf⟩
       ·obtain⟨x15,q22,hf⟩:=Zaf hf;obtain⟨x16,q23,hf⟩:=Zaf hf;have O7:Obl _:=(O6.app (.c h21 (.c (ZdF _ _ q22) (.c (ZfO _ _ _ _ q23) .n))));rcases Zah hf with⟨h24,hf⟩|⟨h24,hf⟩
        ·obtain⟨x17,q25,hf⟩:=Zaf hf;obtain rfl:=oi hf;exact Zai Zak 18 (R3++[⟨[(6,aB x12),(10,aG (Zap.c x13)),(12,aB x14),(18,aI x15),(19,aB x16),(22,aB x17)],[(2,true),(8,true),(14,true),(21,true)],[],[],[],[],[]⟩]) [true,true] [] [] [] (O7.app (.c h24 (.c (ZcN _ q25) .n))) (by kernel_rfl) rfl
        ·obtain rfl:=oi hf;exact Zai Zak 18 (R3++[⟨[(6,aB x12),(10,aG (Zap.c x13)),(12,aB x14),(18,aI x15),(19,aB x16)],[(2,true),(8,true),(14,true),(21,false)],[],[],[],[],[]⟩]) [true,true] [] [] [] (O7.app (.c h24 .n)) (by kernel_rfl) rfl
       ·obtain rfl:=oi hf;exact Zai Zak 18 (R3++[⟨[(6,aB x12),(10,aG (Zap.c x13)),(12,aB x14)],[(2,true),(8,true),(14,false)],[],[],[],[],[]⟩]) [true,true] [] [] [] (O6.app (.c h21 .n)) (by kernel_rfl) rfl
      ·obtain rfl:=oi hf;exact Zai Zak 18 (R3++[⟨[(6,aB x12)],[(2,true),(8,false)],[],[],[],[],[]⟩]) [true,true] [] [] [] (O5.app (.c h18 .n)) (by kernel_rfl) rfl
     ·obtain rfl:=oi hf;exact Zai Zak 18 (R3++[rB [(2,false)]]) [true,true] [] [] [] (O4.app (.c h16 .n)) (by kernel_rfl) rfl
    ·rcases Zah hf with⟨h26,hf⟩|⟨h26,hf⟩
     ·obtain rfl:=oi hf;exact Zai Zak 21 (R1++[rB [(2,true)],rz]) [true,false,true] [] [] [] (O2.app (.c h14 (.c h26 (.c (show true=true from rfl) .n)))) (by kernel_rfl) rfl
     ·obtain⟨x18,q27,hf⟩:=Zaf hf
      let R8:List RA:=(R1++[⟨[(6,aB x18)],[(2,false)],[],[],[],[],[]⟩])
      have O9:Obl _:=(O2.app (.c h14 (.c h26 (.c (ZdS _ _ _ q27) .n))));rcases Zah hf with⟨h28,hf⟩|⟨h28,hf⟩
      ·obtain rfl:=oi hf;exact Zai Zak 21 (R8++[rz]) [true,false,true] [] [] [] (O9.app (.c h28 .n)) (by kernel_rfl) rfl
      ·obtain⟨x19,q29,hf⟩:=Zaf hf;obtain⟨o30,hf⟩:=Zar hf
       let R10:List RA:=(R8++[rA [(3,.r (.tup [(true,ZaC.c x19.1),(true,Zae.c x19.2)]) [])],rz,⟨[(3,.c ((w8++([x19.2]:List Zae)).length) (Zao Zae.c Zae.d (w8++([x19.2]:List Zae))))],[],[],[],[],[(2,(([x19.2]:List Zae).length,Zao Zae.c Zae.d ([x19.2]:List Zae)))],[]⟩])
       have O11:Obl _:=(O9.app (.c h28 (.c (ZgI _ _ _ _ q29) (.c (show ([x19.2]:List Zae).length=1∧∀i j,i<1→j<13→Zao Zae.c Zae.d ([x19.2]:List Zae) i j=(([x19.2]:List Zae).flatMap Zae.c).getD (i * 13+j) .junk from⟨rfl,fun i j hi hj=>ZaI (sz:=13) (e:=Zae.c) (d:=Zae.d) (fun _=>rfl) ([x19.2]:List Zae) i j hi hj⟩) (.c (ZbV (sz:=13) (e:=Zae.c) (d:=Zae.d) w8 ([x19.2]:List Zae)) (.c o30.1 (.c o30.2 .n)))))));rcases Zah hf with⟨h31,hf⟩|⟨h31,hf⟩
       ·rcases Zah hf with⟨h32,hf⟩|⟨h32,hf⟩
        ·exact ZaJ Zak Post.ends 33 (R10++[rB [(3,true),(8,true)],rz,rz]) [true,false,false,true] ⟨[],[],[],[],[],[3,4,5,7,8,9,10],[96,3,4,5,7],[(96,8)]⟩ (O11.app (.c h31 (.c h32 (.c (show true=true from rfl) .n)))) (by kernel_rfl) (ih (Zaw v9 (1:Int)) (Zaw v10 (1:Int)) (w8++([x19.2]:List Zae)) b3 b4 b5 x19.1 r hf)
        ·rcases Zah hf with⟨h33,hf⟩|⟨h33,hf⟩
         ·exact ZaJ Zak Post.ends 33 (R10++[rB [(3,true),(8,false)],rz,rz]) [true,false,false,true] ⟨[],[],[],[],[],[3,4,5,7,8,9,10],[96,3,4,5,7],[(96,8)]⟩ (O11.app (.c h31 (.c h32 (.c h33 .n)))) (by kernel_rfl) (ih (Zaw v9 (1:Int)) (Zaw v10 (1:Int)) (w8++([x19.2]:List Zae)) b3 b4 b5 x19.1 r hf)
         ·exact ZaJ Zak Post.ends 33 (R10++[rB [(3,true),(8,false)],rz]) [true,false,false,false] ⟨[],[],[],[],[],[3,4,5,7,8,9,10],[96,3,4,5,7],[(96,8)]⟩ (O11.app (.c h31 (.c h32 (.c h33 .n)))) (by kernel_rfl) (ih v9 (Zaw v10 (1:Int)) (w8++([x19.2]:List Zae)) b3 b4 b5 x19.1 r hf)
       ·exact ZaJ Zak Post.ends 33 (R10++[rB [(3,false)],rz]) [true,false,false,false] ⟨[],[],[],[],[],[3,4,5,7,8,9,10],[96,3,4,5,7],[(96,8)]⟩ (O11.app (.c h31 (.c (show false=false from rfl) .n))) (by kernel_rfl) (ih v9 (Zaw v10 (1:Int)) (w8++([x19.2]:List Zae)) b3 b4 b5 x19.1 r hf)
   |c68 p19_68=>
    dsimp only at hf;obtain⟨x20,q34,hf⟩:=Zaf hf
    let R12:List RA:=[rz,rH [(2,.r (.one (ZgD.c (ZgD.c68 p19_68))) [])] [(4,⟨[(99997,99997)],[],[],.agg (ZaT.c x20)⟩)],rz]
    have O13:Obl _:=(.c h11 (.c (ZeK _ _ _ q12) (.c (Zmr _ _ _ q34) .n)));rcases Zah hf with⟨h35,hf⟩|⟨h35,hf⟩
    ·obtain⟨x21,q36,hf⟩:=Zaf hf
     let R14:List RA:=(R12++[rA [(3,.r (.tup [(true,Zap.c x21.1),(true,Zaq.c x21.2)]) [])]])
     have O15:Obl _:=(O13.app (.c h35 (.c (ZgJ _ _ _ _ q36) .n)));rcases Zah hf with⟨h37,hf⟩|⟨h37,hf⟩
     ·obtain⟨x22,q38,hf⟩:=Zaf hf;have O16:Obl _:=(O15.app (.c h37 (.c (ZfM _ _ _ q38) .n)));rcases Zah hf with⟨h39,hf⟩|⟨h39,hf⟩
      ·obtain⟨x23,q40,hf⟩:=Zaf hf;obtain⟨x24,q41,hf⟩:=Zaf hf;have O17:Obl _:=(O16.app (.c h39 (.c (Zfk _ _ q40) (.c (ZfL _ _ _ q41) .n))));rcases Zah hf with⟨h42,hf⟩|⟨h42,hf⟩
       ·obtain⟨x25,q43,hf⟩:=Zaf hf;obtain⟨x26,q44,hf⟩:=Zaf hf;have O18:Obl _:=(O17.app (.c h42 (.c (ZdF _ _ q43) (.c (ZfO _ _ _ _ q44) .n))));rcases Zah hf with⟨h45,hf⟩|⟨h45,hf⟩
        ·obtain⟨x27,q46,hf⟩:=Zaf hf;obtain rfl:=oi hf;exact Zai Zak 18 (R14++[⟨[(6,aB x22),(10,aG (Zap.c x23)),(12,aB x24),(18,aI x25),(19,aB x26),(22,aB x27)],[(2,true),(8,true),(14,true),(21,true)],[],[],[],[],[]⟩]) [true,true] [] [] [] (O18.app (.c h45 (.c (ZcN _ q46) .n))) (by kernel_rfl) rfl
        ·obtain rfl:=oi hf;exact Zai Zak 18 (R14++[⟨[(6,aB x22),(10,aG (Zap.c x23)),(12,aB x24),(18,aI x25),(19,aB x26)],[(2,true),(8,true),(14,true),(21,false)],[],[],[],[],[]⟩]) [true,true] [] [] [] (O18.app (.c h45 .n)) (by kernel_rfl) rfl
       ·obtain rfl:=oi hf;exact Zai Zak 18 (R14++[⟨[(6,aB x22),(10,aG (Zap.c x23)),(12,aB x24)],[(2,true),(8,true),(14,false)],[],[],[],[],[]⟩]) [true,true] [] [] [] (O17.app (.c h42 .n)) (by kernel_rfl) rfl
      ·obtain rfl:=oi hf;exact Zai Zak 18 (R14++[⟨[(6,aB x22)],[(2,true),(8,false)],[],[],[],[],[]⟩]) [true,true] [] [] [] (O16.app (.c h39 .n)) (by kernel_rfl) rfl
     ·obtain rfl:=oi hf;exact Zai Zak 18 (R14++[rB [(2,false)]]) [true,true] [] [] [] (O15.app (.c h37 .n)) (by kernel_rfl) rfl
    ·rcases Zah hf with⟨h47,hf⟩|⟨h47,hf⟩
     ·obtain rfl:=oi hf;exact Zai Zak 21 (R12++[rB [(2,true)],rz]) [true,false,true] [] [] [] (O13.app (.c h35 (.c h47 (.c (show true=true from rfl) .n)))) (by kernel_rfl) rfl
     ·obtain⟨x28,q48,hf⟩:=Zaf hf
      let R19:List RA:=(R12++[⟨[(6,aB x28)],[(2,false)],[],[],[],[],[]⟩])
      have O20:Obl _:=(O13.app (.c h35 (.c h47 (.c (ZdS _ _ _ q48) .n))));rcases Zah hf with⟨h49,hf⟩|⟨h49,hf⟩
      ·obtain rfl:=oi hf;exact Zai Zak 21 (R19++[rz]) [true,false,true] [] [] [] (O20.app (.c h49 .n)) (by kernel_rfl) rfl
      ·obtain⟨x29,q50,hf⟩:=Zaf hf;obtain⟨o51,hf⟩:=Zar hf
       let R21:List RA:=(R19++[rA [(3,.r (.tup [(true,ZaC.c x29.1),(true,Zae.c x29.2)]) [])],rz,⟨[(3,.c ((w8++([x29.2]:List Zae)).length) (Zao Zae.c Zae.d (w8++([x29.2]:List Zae))))],[],[],[],[],[(2,(([x29.2]:List Zae).length,Zao Zae.c Zae.d ([x29.2]:List Zae)))],[]⟩])
       have O22:Obl _:=(O20.app (.c h49 (.c (ZgI _ _ _ _ q50) (.c (show ([x29.2]:List Zae).length=1∧∀i j,i<1→j<13→Zao Zae.c Zae.d ([x29.2]:List Zae) i j=(([x29.2]:List Zae).flatMap Zae.c).getD (i * 13+j) .junk from⟨rfl,fun i j hi hj=>ZaI (sz:=13) (e:=Zae.c) (d:=Zae.d) (fun _=>rfl) ([x29.2]:List Zae) i j hi hj⟩) (.c (ZbV (sz:=13) (e:=Zae.c) (d:=Zae.d) w8 ([x29.2]:List Zae)) (.c o51.1 (.c o51.2 .n)))))));rcases Zah hf with⟨h52,hf⟩|⟨h52,hf⟩
       ·rcases Zah hf with⟨h53,hf⟩|⟨h53,hf⟩
        ·exact ZaJ Zak Post.ends 33 (R21++[rB [(3,true),(8,true)],rz,rz]) [true,false,false,true] ⟨[],[],[],[],[],[3,4,5,7,8,9,10],[96,3,4,5,7],[(96,8)]⟩ (O22.app (.c h52 (.c h53 (.c (show true=true from rfl) .n)))) (by kernel_rfl) (ih (Zaw v9 (1:Int)) (Zaw v10 (1:Int)) (w8++([x29.2]:List Zae)) b3 b4 b5 x29.1 r hf)
        ·rcases Zah hf with⟨h54,hf⟩|⟨h54,hf⟩
         ·exact ZaJ Zak Post.ends 33 (R21++[rB [(3,true),(8,false)],rz,rz]) [true,false,false,true] ⟨[],[],[],[],[],[3,4,5,7,8,9,10],[96,3,4,5,7],[(96,8)]⟩ (O22.app (.c h52 (.c h53 (.c h54 .n)))) (by kernel_rfl) (ih (Zaw v9 (1:Int)) (Zaw v10 (1:Int)) (w8++([x29.2]:List Zae)) b3 b4 b5 x29.1 r hf)
         ·exact ZaJ Zak Post.ends 33 (R21++[rB [(3,true),(8,false)],rz]) [true,false,false,false] ⟨[],[],[],[],[],[3,4,5,7,8,9,10],[96,3,4,5,7],[(96,8)]⟩ (O22.app (.c h52 (.c h53 (.c h54 .n)))) (by kernel_rfl) (ih v9 (Zaw v10 (1:Int)) (w8++([x29.2]:List Zae)) b3 b4 b5 x29.1 r hf)
       ·exact ZaJ Zak Post.ends 33 (R21++[rB [(3,false)],rz]) [true,false,false,false] ⟨[],[],[],[],[],[3,4,5,7,8,9,10],[96,3,4,5,7],[(96,8)]⟩ (O22.app (.c h52 (.c (show false=false from rfl) .n))) (by kernel_rfl) (ih v9 (Zaw v10 (1:Int)) (w8++([x29.2]:List Zae)) b3 b4 b5 x29.1 r hf)
   |c69 p29_69=>
    dsimp only at hf;obtain⟨x30,q55,hf⟩:=Zaf hf
    let R23:List RA:=[rz,rH [(2,.r (.one (ZgD.c (ZgD.c69 p29_69))) [])] [(4,⟨[(99997,99997)],[],[],.agg (ZaT.c x30)⟩)],rz]
    have O24:Obl _:=(.c h11 (.c (ZeK _ _ _ q12) (.c (Zmq _ _ _ q55) .n)));rcases Zah hf with⟨h56,hf⟩|⟨h56,hf⟩
    ·obtain⟨x31,q57,hf⟩:=Zaf hf
     let R25:List RA:=(R23++[rA [(3,.r (.tup [(true,Zap.c x31.1),(true,Zaq.c x31.2)]) [])]])
     have O26:Obl _:=(O24.app (.c h56 (.c (ZgJ _ _ _ _ q57) .n)));rcases Zah hf with⟨h58,hf⟩|⟨h58,hf⟩
     ·obtain⟨x32,q59,hf⟩:=Zaf hf;have O27:Obl _:=(O26.app (.c h58 (.c (ZfM _ _ _ q59) .n)));rcases Zah hf with⟨h60,hf⟩|⟨h60,hf⟩
      ·obtain⟨x33,q61,hf⟩:=Zaf hf;obtain⟨x34,q62,hf⟩:=Zaf hf;have O28:Obl _:=(O27.app (.c h60 (.c (Zfk _ _ q61) (.c (ZfL _ _ _ q62) .n))));rcases Zah hf with⟨h63,hf⟩|⟨h63,hf⟩
       ·obtain⟨x35,q64,hf⟩:=Zaf hf;obtain⟨x36,q65,hf⟩:=Zaf hf;have O29:Obl _:=(O28.app (.c h63 (.c (ZdF _ _ q64) (.c (ZfO _ _ _ _ q65) .n))));rcases Zah hf with⟨h66,hf⟩|⟨h66,hf⟩
        ·obtain⟨x37,q67,hf⟩:=Zaf hf;obtain rfl:=oi hf;exact Zai Zak 18 (R25++[⟨[(6,aB x32),(10,aG (Zap.c x33)),(12,aB x34),(18,aI x35),(19,aB x36),(22,aB x37)],[(2,true),(8,true),(14,true),(21,true)],[],[],[],[],[]⟩]) [true,true] [] [] [] (O29.app (.c h66 (.c (ZcN _ q67) .n))) (by kernel_rfl) rfl
        ·obtain rfl:=oi hf;exact Zai Zak 18 (R25++[⟨[(6,aB x32),(10,aG (Zap.c x33)),(12,aB x34),(18,aI x35),(19,aB x36)],[(2,true),(8,true),(14,true),(21,false)],[],[],[],[],[]⟩]) [true,true] [] [] [] (O29.app (.c h66 .n)) (by kernel_rfl) rfl
       ·obtain rfl:=oi hf;exact Zai Zak 18 (R25++[⟨[(6,aB x32),(10,aG (Zap.c x33)),(12,aB x34)],[(2,true),(8,true),(14,false)],[],[],[],[],[]⟩]) [true,true] [] [] [] (O28.app (.c h63 .n)) (by kernel_rfl) rfl
      ·obtain rfl:=oi hf;exact Zai Zak 18 (R25++[⟨[(6,aB x32)],[(2,true),(8,false)],[],[],[],[],[]⟩]) [true,true] [] [] [] (O27.app (.c h60 .n)) (by kernel_rfl) rfl
     ·obtain rfl:=oi hf;exact Zai Zak 18 (R25++[rB [(2,false)]]) [true,true] [] [] [] (O26.app (.c h58 .n)) (by kernel_rfl) rfl
    ·rcases Zah hf with⟨h68,hf⟩|⟨h68,hf⟩
     ·obtain rfl:=oi hf;exact Zai Zak 21 (R23++[rB [(2,true)],rz]) [true,false,true] [] [] [] (O24.app (.c h56 (.c h68 (.c (show true=true from rfl) .n)))) (by kernel_rfl) rfl
     ·obtain⟨x38,q69,hf⟩:=Zaf hf
      let R30:List RA:=(R23++[⟨[(6,aB x38)],[(2,false)],[],[],[],[],[]⟩])
      have O31:Obl _:=(O24.app (.c h56 (.c h68 (.c (ZdS _ _ _ q69) .n))));rcases Zah hf with⟨h70,hf⟩|⟨h70,hf⟩
      ·obtain rfl:=oi hf;exact Zai Zak 21 (R30++[rz]) [true,false,true] [] [] [] (O31.app (.c h70 .n)) (by kernel_rfl) rfl
      ·obtain⟨x39,q71,hf⟩:=Zaf hf;obtain⟨o72,hf⟩:=Zar hf
       let R32:List RA:=(R30++[rA [(3,.r (.tup [(true,ZaC.c x39.1),(true,Zae.c x39.2)]) [])],rz,⟨[(3,.c ((w8++([x39.2]:List Zae)).length) (Zao Zae.c Zae.d (w8++([x39.2]:List Zae))))],[],[],[],[],[(2,(([x39.2]:List Zae).length,Zao Zae.c Zae.d ([x39.2]:List Zae)))],[]⟩])
       have O33:Obl _:=(O31.app (.c h70 (.c (ZgI _ _ _ _ q71) (.c (show ([x39.2]:List Zae).length=1∧∀i j,i<1→j<13→Zao Zae.c Zae.d ([x39.2]:List Zae) i j=(([x39.2]:List Zae).flatMap Zae.c).getD (i * 13+j) .junk from⟨rfl,fun i j hi hj=>ZaI (sz:=13) (e:=Zae.c) (d:=Zae.d) (fun _=>rfl) ([x39.2]:List Zae) i j hi hj⟩) (.c (ZbV (sz:=13) (e:=Zae.c) (d:=Zae.d) w8 ([x39.2]:List Zae)) (.c o72.1 (.c o72.2 .n)))))));rcases Zah hf with⟨h73,hf⟩|⟨h73,hf⟩
       ·rcases Zah hf with⟨h74,hf⟩|⟨h74,hf⟩
        ·exact ZaJ Zak Post.ends 33 (R32++[rB [(3,true),(8,true)],rz,rz]) [true,false,false,true] ⟨[],[],[],[],[],[3,4,5,7,8,9,10],[96,3,4,5,7],[(96,8)]⟩ (O33.app (.c h73 (.c h74 (.c (show true=true from rfl) .n)))) (by kernel_rfl) (ih (Zaw v9 (1:Int)) (Zaw v10 (1:Int)) (w8++([x39.2]:List Zae)) b3 b4 b5 x39.1 r hf)
        ·rcases Zah hf with⟨h75,hf⟩|⟨h75,hf⟩
         ·exact ZaJ Zak Post.ends 33 (R32++[rB [(3,true),(8,false)],rz,rz]) [true,false,false,true] ⟨[],[],[],[],[],[3,4,5,7,8,9,10],[96,3,4,5,7],[(96,8)]⟩ (O33.app (.c h73 (.c h74 (.c h75 .n)))) (by kernel_rfl) (ih (Zaw v9 (1:Int)) (Zaw v10 (1:Int)) (w8++([x39.2]:List Zae)) b3 b4 b5 x39.1 r hf)
         ·exact ZaJ Zak Post.ends 33 (R32++[rB [(3,true),(8,false)],rz]) [true,false,false,false] ⟨[],[],[],[],[],[3,4,5,7,8,9,10],[96,3,4,5,7],[(96,8)]⟩ (O33.app (.c h73 (.c h74 (.c h75 .n)))) (by kernel_rfl) (ih v9 (Zaw v10 (1:Int)) (w8++([x39.2]:List Zae)) b3 b4 b5 x39.1 r hf)
       ·exact ZaJ Zak Post.ends 33 (R32++[rB [(3,false)],rz]) [true,false,false,false] ⟨[],[],[],[],[],[3,4,5,7,8,9,10],[96,3,4,5,7],[(96,8)]⟩ (O33.app (.c h73 (.c (show false=false from rfl) .n))) (by kernel_rfl) (ih v9 (Zaw v10 (1:Int)) (w8++([x39.2]:List Zae)) b3 b4 b5 x39.1 r hf)
   |c70 p39_70=>
    dsimp only at hf;obtain⟨x40,q76,hf⟩:=Zaf hf
    let R34:List RA:=[rz,rH [(2,.r (.one (ZgD.c (ZgD.c70 p39_70))) [])] [(4,⟨[(99997,99997)],[],[],.agg (ZaT.c x40)⟩)],rz]
    have O35:Obl _:=(.c h11 (.c (ZeK _ _ _ q12) (.c (Zmp _ _ _ q76) .n)));rcases Zah hf with⟨h77,hf⟩|⟨h77,hf⟩
    ·obtain⟨x41,q78,hf⟩:=Zaf hf
     let R36:List RA:=(R34++[rA [(3,.r (.tup [(true,Zap.c x41.1),(true,Zaq.c x41.2)]) [])]])
     have O37:Obl _:=(O35.app (.c h77 (.c (ZgJ _ _ _ _ q78) .n)));rcases Zah hf with⟨h79,hf⟩|⟨h79,hf⟩
     ·obtain⟨x42,q80,hf⟩:=Zaf hf;have O38:Obl _:=(O37.app (.c h79 (.c (ZfM _ _ _ q80) .n)));rcases Zah hf with⟨h81,hf⟩|⟨h81,hf⟩
      ·obtain⟨x43,q82,hf⟩:=Zaf hf;obtain⟨x44,q83,hf⟩:=Zaf hf;have O39:Obl _:=(O38.app (.c h81 (.c (Zfk _ _ q82) (.c (ZfL _ _ _ q83) .n))));rcases Zah hf with⟨h84,hf⟩|⟨h84,hf⟩
       ·obtain⟨x45,q85,hf⟩:=Zaf hf;obtain⟨x46,q86,hf⟩:=Zaf hf;have O40:Obl _:=(O39.app (.c h84 (.c (ZdF _ _ q85) (.c (ZfO _ _ _ _ q86) .n))));rcases Zah hf with⟨h87,hf⟩|⟨h87,hf⟩
        ·obtain⟨x47,q88,hf⟩:=Zaf hf;obtain rfl:=oi hf;exact Zai Zak 18 (R36++[⟨[(6,aB x42),(10,aG (Zap.c x43)),(12,aB x44),(18,aI x45),(19,aB x46),(22,aB x47)],[(2,true),(8,true),(14,true),(21,true)],[],[],[],[],[]⟩]) [true,true] [] [] [] (O40.app (.c h87 (.c (ZcN _ q88) .n))) (by kernel_rfl) rfl
        ·obtain rfl:=oi hf;exact Zai Zak 18 (R36++[⟨[(6,aB x42),(10,aG (Zap.c x43)),(12,aB x44),(18,aI x45),(19,aB x46)],[(2,true),(8,true),(14,true),(21,false)],[],[],[],[],[]⟩]) [true,true] [] [] [] (O40.app (.c h87 .n)) (by kernel_rfl) rfl
       ·obtain rfl:=oi hf;exact Zai Zak 18 (R36++[⟨[(6,aB x42),(10,aG (Zap.c x43)),(12,aB x44)],[(2,true),(8,true),(14,false)],[],[],[],[],[]⟩]) [true,true] [] [] [] (O39.app (.c h84 .n)) (by kernel_rfl) rfl
      ·obtain rfl:=oi hf;exact Zai Zak 18 (R36++[⟨[(6,aB x42)],[(2,true),(8,false)],[],[],[],[],[]⟩]) [true,true] [] [] [] (O38.app (.c h81 .n)) (by kernel_rfl) rfl
     ·obtain rfl:=oi hf;exact Zai Zak 18 (R36++[rB [(2,false)]]) [true,true] [] [] [] (O37.app (.c h79 .n)) (by kernel_rfl) rfl
    ·rcases Zah hf with⟨h89,hf⟩|⟨h89,hf⟩
     ·obtain rfl:=oi hf;exact Zai Zak 21 (R34++[rB [(2,true)],rz]) [true,false,true] [] [] [] (O35.app (.c h77 (.c h89 (.c (show true=true from rfl) .n)))) (by kernel_rfl) rfl
     ·obtain⟨x48,q90,hf⟩:=Zaf hf
      let R41:List RA:=(R34++[⟨[(6,aB x48)],[(2,false)],[],[],[],[],[]⟩])
      have O42:Obl _:=(O35.app (.c h77 (.c h89 (.c (ZdS _ _ _ q90) .n))));rcases Zah hf with⟨h91,hf⟩|⟨h91,hf⟩
      ·obtain rfl:=oi hf;exact Zai Zak 21 (R41++[rz]) [true,false,true] [] [] [] (O42.app (.c h91 .n)) (by kernel_rfl) rfl
      ·obtain⟨x49,q92,hf⟩:=Zaf hf;obtain⟨o93,hf⟩:=Zar hf
       let R43:List RA:=(R41++[rA [(3,.r (.tup [(true,ZaC.c x49.1),(true,Zae.c x49.2)]) [])],rz,⟨[(3,.c ((w8++([x49.2]:List Zae)).length) (Zao Zae.c Zae.d (w8++([x49.2]:List Zae))))],[],[],[],[],[(2,(([x49.2]:List Zae).length,Zao Zae.c Zae.d ([x49.2]:List Zae)))],[]⟩])
       have O44:Obl _:=(O42.app (.c h91 (.c (ZgI _ _ _ _ q92) (.c (show ([x49.2]:List Zae).length=1∧∀i j,i<1→j<13→Zao Zae.c Zae.d ([x49.2]:List Zae) i j=(([x49.2]:List Zae).flatMap Zae.c).getD (i * 13+j) .junk from⟨rfl,fun i j hi hj=>ZaI (sz:=13) (e:=Zae.c) (d:=Zae.d) (fun _=>rfl) ([x49.2]:List Zae) i j hi hj⟩) (.c (ZbV (sz:=13) (e:=Zae.c) (d:=Zae.d) w8 ([x49.2]:List Zae)) (.c o93.1 (.c o93.2 .n)))))));rcases Zah hf with⟨h94,hf⟩|⟨h94,hf⟩
       ·rcases Zah hf with⟨h95,hf⟩|⟨h95,hf⟩
        ·exact ZaJ Zak Post.ends 33 (R43++[rB [(3,true),(8,true)],rz,rz]) [true,false,false,true] ⟨[],[],[],[],[],[3,4,5,7,8,9,10],[96,3,4,5,7],[(96,8)]⟩ (O44.app (.c h94 (.c h95 (.c (show true=true from rfl) .n)))) (by kernel_rfl) (ih (Zaw v9 (1:Int)) (Zaw v10 (1:Int)) (w8++([x49.2]:List Zae)) b3 b4 b5 x49.1 r hf)
        ·rcases Zah hf with⟨h96,hf⟩|⟨h96,hf⟩
         ·exact ZaJ Zak Post.ends 33 (R43++[rB [(3,true),(8,false)],rz,rz]) [true,false,false,true] ⟨[],[],[],[],[],[3,4,5,7,8,9,10],[96,3,4,5,7],[(96,8)]⟩ (O44.app (.c h94 (.c h95 (.c h96 .n)))) (by kernel_rfl) (ih (Zaw v9 (1:Int)) (Zaw v10 (1:Int)) (w8++([x49.2]:List Zae)) b3 b4 b5 x49.1 r hf)
         ·exact ZaJ Zak Post.ends 33 (R43++[rB [(3,true),(8,false)],rz]) [true,false,false,false] ⟨[],[],[],[],[],[3,4,5,7,8,9,10],[96,3,4,5,7],[(96,8)]⟩ (O44.app (.c h94 (.c h95 (.c h96 .n)))) (by kernel_rfl) (ih v9 (Zaw v10 (1:Int)) (w8++([x49.2]:List Zae)) b3 b4 b5 x49.1 r hf)
       ·exact ZaJ Zak Post.ends 33 (R43++[rB [(3,false)],rz]) [true,false,false,false] ⟨[],[],[],[],[],[3,4,5,7,8,9,10],[96,3,4,5,7],[(96,8)]⟩ (O44.app (.c h94 (.c (show false=false from rfl) .n))) (by kernel_rfl) (ih v9 (Zaw v10 (1:Int)) (w8++([x49.2]:List Zae)) b3 b4 b5 x49.1 r hf)
  ·obtain rfl:=oi hf;exact Zai Zak 8 [rz,rz] [false] [] [] [] (.c h11 .n) (by kernel_rfl) rfl
def ZeD(a0:ZaB)(a1:Zap)(a2:ZaA):Option Bool:=(Zfj a1).bind fun x1=>bif(!x1)then(ZbH).bind fun x2=>some x2 else(ZeY a0 a1).bind fun x3=>bif(!x3)then(ZbH).bind fun x4=>some x4 else(ZfI a2).bind fun x5=>bif(!x5)then(ZbH).bind fun x6=>some x6 else(Zgl a0 a1).bind fun x7=>Zau (((400:Int)-(0:Int)).toNat+2) (0:Int) (0:Int) ([]) a0 a1 a2 x7
theorem Zkw(a0:ZaB)(a1:Zap)(a2:ZaA)(r:Bool)(hf:ZeD a0 a1 a2=some r):Zaz Tryz.prog 4 [.agg (ZaB.c a0),.agg (Zap.c a1),.agg (ZaA.c a2)] (.one (.lit (.bool r))):=by
 refine Zaz.of Tryz.func4 rfl rfl rfl rfl fun S0 w0=>?_;unfold ZeD at hf;obtain⟨x1,q1,hf⟩:=Zaf hf;rcases Zah hf with⟨h2,hf⟩|⟨h2,hf⟩
 ·obtain⟨x2,q3,hf⟩:=Zaf hf;obtain rfl:=oi hf;exact Zai Zak 8 [rz,⟨[(1,aB x1)],[(3,true)],[],[],[],[],[]⟩,rA [(0,aB x2)]] [true] [] [] [] (.c (Zjf _ _ q1) (.c h2 (.c (show true=true from rfl) (.c (ZcN _ q3) .n)))) (by kernel_rfl) rfl
 ·obtain⟨x3,q4,hf⟩:=Zaf hf;have O45:Obl _:=(.c (Zjf _ _ q1) (.c h2 (.c (Znf _ _ _ q4) .n)));rcases Zah hf with⟨h5,hf⟩|⟨h5,hf⟩
  ·obtain⟨x4,q6,hf⟩:=Zaf hf;obtain rfl:=oi hf;exact Zai Zak 8 [rz,⟨[(1,aB x1),(6,aB x3)],[(3,false),(9,true)],[],[],[],[],[]⟩,rA [(0,aB x4)]] [true] [] [] [] (O45.app (.c h5 (.c (show true=true from rfl) (.c (ZcN _ q6) .n)))) (by kernel_rfl) rfl
  ·obtain⟨x5,q7,hf⟩:=Zaf hf
   let R46:List RA:=[rz,⟨[(1,aB x1),(6,aB x3),(11,aB x5)],[(3,false),(9,false)],[],[],[],[],[]⟩]
   have O47:Obl _:=(O45.app (.c h5 (.c (ZnS _ _ q7) .n)));rcases Zah hf with⟨h8,hf⟩|⟨h8,hf⟩
   ·obtain⟨x6,q9,hf⟩:=Zaf hf;obtain rfl:=oi hf;exact Zai Zak 8 (R46++[rA [(0,aB x6)]]) [true] [] [] [] (O47.app (.c h8 (.c (ZcN _ q9) .n))) (by kernel_rfl) rfl
   ·obtain⟨x7,q10,hf⟩:=Zaf hf;exact ZaJ Zak Post.ends 17 (R46++[rA [(2,aG (ZaC.c x7))],rz,rz,rz]) [false] ⟨[],[],[],[],[(8,8,48,13,Zao Zae.c Zae.d [])],[3,4,5,7,8,9,10],[8,3,4,5,7],[]⟩ (O47.app (.c h8 (.c (Zoq _ _ _ q10) .n))) (by kernel_rfl) (ZjC S0 w0 (((400:Int)-(0:Int)).toNat+2) (0:Int) (0:Int) ([]) a0 a1 a2 x7 r hf)
end Go.Proofs.YtdjfoojllbfcgaaGreat
