import Derived.Test.YtmnloegcpaahcaaGreatAAdnA1
namespace Go.Proofs.YtmnloegcpaahcaaGreat
open Go.RowKit Go.Lib Go.Shelf
set_option linter.unusedVariables false
set_option maxRecDepth 100000
def Zce(e:Int)(g:Bool):Nat->Int->Zaq->Option (Tout Unit)|0,_,_=>none|fu+1,d,b=>bif(decide (d>=(0:Int)))then bif g then(Zih e).bind fun t=>(ZcP b (Zar (2:Int) d) (d==(ZaQ t (1:Int)))).bind fun u=>(match u with | .ret v h=>Zce e g fu (ZaQ d (1:Int)) h | .pan i=>some (Tout.pan i) | .bad j=>some (Tout.bad j))else(ZcP b (Zar (2:Int) d) false).bind fun y=>(match y with | .ret z n=>Zce e g fu (ZaQ d (1:Int)) n | .pan o=>some (Tout.pan o) | .bad p=>some (Tout.bad p))else some (Tout.ret () b)
theorem Zqa(S0:Nat->Prop)(w0:Zba)(v:Int)(y:Bool):∀(o:Nat)(g:Int)(b:Zaq)(r:(Tout Unit)),Zce v y o g b=some r->Good Tryz.prog 29 S0 w0 (bodyPost Tryz.prog Tryz.f210 (ZmG S0 w0 (oc (fun x=>.tup []) r))) (at_ [1,0] (ZaS Tryz.f210)) ⟨[(0,.one (.ifc 140 (.ptr 100000 0))),(1,(Yj v)),(2,(Yk y)),(6,(Yj g))],[(100000,.box [cLn 13 Zac.c Zac.d b.fgot])]⟩:=by
 intro o;induction o with
 |zero=>
  intro g b r e;simp[Zce]at e
 |succ o z=>
  intro g b r e;unfold Zce at e;obtain⟨h,e⟩|⟨h,e⟩:=Zaj e
  .obtain⟨p,e⟩|⟨p,e⟩:=Zaj e
   .obtain⟨A,B,e⟩:=Zae e;have O1:Obl _:=(.c h (.c p (.c (Zma _ _ B) (.c ZrU .n))));obtain⟨D,t,e⟩:=Zae e;cases D with
    |ret E i=>
     dsimp only at e;exact Ye 12 [rz,⟨[(7,aI A),(14,.id 424)],[(4,true)],[],[],[],[],[(14,⟨[(100000,100000)],[],[(100000,.box (Zaq.c i))],.tup []⟩)]⟩,rz] [true] ⟨[],[],[],[],[],[0,1,2,6],[100000],[]⟩ (O1.app (.c (Zcv _ _ _ _ t) (.c Zjd .n))) (z (ZaQ g (1:Int)) i r e)
    |_=>
     dsimp only at e;obtain rfl:=oi e;exact Yh 8 [rz] [true] (⟨[(7,aI A),(14,.id 424)],[(4,true)],[],[],[],[],[]⟩) 14 ⟨[(100000,100000)],pvOf t⟩ (O1.app (.c (Zcv _ _ _ _ t) (.c Zjd .n)))
   .obtain⟨F,u,e⟩:=Zae e;cases F with
    |ret G j=>
     dsimp only at e;exact Ye 12 [rz,⟨[(14,.id 424)],[(4,false)],[],[],[],[],[(14,⟨[(100000,100000)],[],[(100000,.box (Zaq.c j))],.tup []⟩)]⟩,rz] [true] ⟨[],[],[],[],[],[0,1,2,6],[100000],[]⟩ (.c h (.c p (.c ZrU (.c (Zcv _ _ _ _ u) (.c Zjd .n))))) (z (ZaQ g (1:Int)) j r e)
    |_=>
     dsimp only at e;obtain rfl:=oi e;exact Yh 8 [rz] [true] (⟨[(14,.id 424)],[(4,false)],[],[],[],[],[]⟩) 14 ⟨[(100000,100000)],pvOf u⟩ (.c h (.c p (.c ZrU (.c (Zcv _ _ _ _ u) (.c Zjd .n)))))
  .obtain rfl:=oi e;exact Yd 6 [rz] [false] ⟨[],[],[],[],[],[],[100000],[]⟩ (.c h .n)
def ZgQ(e:Zaq)(b:Int)(g:Bool):Option (Tout Unit):=(Zih b).bind fun d=>Zce b g (((ZaQ d (1:Int))-(0:Int)).toNat+2) (ZaQ d (1:Int)) e
theorem ZmO(d:Zaq)(e:Int)(g:Bool)(r:(Tout Unit))(b:ZgQ d e g=some r):Yq 210 [(100000,.box (Zaq.c d))] [.one (.ifc 140 (.ptr 100000 0)),Yj e,Yk g] (oc (fun x=>.tup []) r):=by
 refine ZhO.of Tryz.func210 rfl rfl rfl rfl fun S0 w0=>?_;unfold ZgQ at b;obtain⟨h,i,b⟩:=Zae b;exact Ye 3 [rA [(1,aI h)]] [] ⟨[],[],[],[],[],[0,1,2,6],[100000],[]⟩ (.c (Zma _ _ i) .n) (Zqa S0 w0 e g (((ZaQ h (1:Int))-(0:Int)).toNat+2) (ZaQ h (1:Int)) d r b)
def Zdl:Nat->Int->Int->(List (List Zaa))->Zaq->Zbg->Zao->Option (Tout Zao)|0,_,_,_,_,_,_=>none|fu+1,g,d,e,b,i,B=>bif(decide (d<g))then(Zii b d).bind fun D=>(match D with | .ret j n=>need (0<=d/\d<(e.length:Int))<|Zdl fu g (Zar d 1) (e.set d.toNat j) n i B | .pan o=>some (Tout.pan o) | .bad p=>some (Tout.bad p))else(ZfN i b e).bind fun E=>(match E with | .ret h t=>(ZgQ t i.fc.fShards h.2).bind fun F=>(match F with | .ret G u=>some (Tout.ret h.1 u) | .pan v=>some (Tout.pan v) | .bad y=>some (Tout.bad y)) | .pan z=>some (Tout.pan z) | .bad A=>some (Tout.bad A))
theorem Zoy(S0:Nat->Prop)(w0:Zba):∀(y:Nat)(p g:Int)(b:(List (List Zaa)))(h:Zaq)(e:Zbg)(o:Zao)(r:(Tout Zao)),Zdl y p g b h e o=some r->Good Tryz.prog 44 S0 w0 (bodyPost Tryz.prog Tryz.f130 (ZmG S0 w0 (oc (fun x=>.agg (Zao.c x)) r))) (at_ [1,1,1,0,1,0] (ZaS Tryz.f130)) ⟨[(1,.one (.ifc 140 (.ptr 100000 0))),(2,.one (.ptr 2 0)),(4,.one (.ptr 4 0)),(5,.one (.osl 17 b.length)),(19,(Yj p)),(20,(Yj g))],[(17,.rows 54 1 b.length (Zam (cLs 10 Zaa.c Zaa.d) ([]:(List Zaa)) b)),(100000,.box [cLn 13 Zac.c Zac.d h.fgot]),(2,.box [.lit (.int .i64 e.fc.fMaxIn),.lit (.int .i64 e.fc.fMaxOut),.lit (.int .i64 e.fc.fShards),.lit (.int .i64 e.fc.fMaxBans),.lit (.int .i64 e.fc.fMaxBook),.lit (.int .u64 e.fc.fSecret),.lit (.int .i64 e.fc.fQuota.fGroup),.lit (.int .i64 e.fc.fQuota.fPing),.lit (.int .i64 e.fc.fQuota.fWork),.lit (.int .i64 e.fc.fQuota.fTime),.lit (.int .i64 e.fc.fHalf),.lit (.int .i64 e.fc.fLimit),.lit (.int .i64 e.fc.fBanFor),.lit (.int .i64 e.fc.fBase),.lit (.int .i64 e.fc.fCap),.lit (.int .i64 e.fc.fJitter),.lit (.int .i64 e.fx.fKind),.lit (.bool e.fx.fEnd.fAddr.fV6),.lit (.int .u64 e.fx.fEnd.fAddr.fHi),.lit (.int .u64 e.fx.fEnd.fAddr.fLo),.lit (.int .i64 e.fx.fEnd.fPort),.lit (.bool e.fx.fNet.fAddr.fV6),.lit (.int .u64 e.fx.fNet.fAddr.fHi),.lit (.int .u64 e.fx.fNet.fAddr.fLo),.lit (.int .i64 e.fx.fNet.fBits),.lit (.int .i64 e.fx.fNow),.lit (.int .i64 e.fx.fNum),.lit (.bool e.fx.fGood)]),(4,.box [.lit (.int .i64 o.fCode),.lit (.bool o.fEnd.fAddr.fV6),.lit (.int .u64 o.fEnd.fAddr.fHi),.lit (.int .u64 o.fEnd.fAddr.fLo),.lit (.int .i64 o.fEnd.fPort),.lit (.int .i64 o.fN),.lit (.int .i64 o.fUntil),cL 10 Zaa.c Zaa.d o.fPeers])]⟩:=by
 intro y;induction y with
 |zero=>
  intro p g b h e o r i;simp[Zdl]at i
 |succ y G=>
  intro p g b h e o r i;unfold Zdl at i;obtain⟨t,i⟩|⟨t,i⟩:=Zaj i
  .obtain⟨H,z,i⟩:=Zae i;cases H with
   |ret j u=>
    dsimp only at i;obtain⟨F,i⟩:=Zat i;exact Ye 14 [rz,rz,rH [(6,.c (b.set g.toNat j).length (Zam (cLs 10 Zaa.c Zaa.d) ([]:(List Zaa)) (b.set g.toNat j)))] [(4,⟨[(100000,100000)],[],[(100000,.box (Zaq.c u))],(Ym j)⟩)],rz] [true] ⟨[],[],[],[(17,((b.set g.toNat j).length))],[],[1,2,4,5,19,20],[17,100000,2,4],[]⟩ (.c t (.c (Zkd _ _ _ z) (.c F (.c (show (b.set g.toNat j).length=b.length from List.length_set) (.c (show g.toNat<b.length from(ltOf F)) (.c (show ExtU 1 b.length (Zam (cLs 10 Zaa.c Zaa.d) ([]:(List Zaa)) b) g.toNat 0 ((cLs 10 Zaa.c Zaa.d) j) (Zam (cLs 10 Zaa.c Zaa.d) ([]:(List Zaa)) (b.set g.toNat j))from(Zjb _ _ _ rfl)) (.c (show (b.set g.toNat j).length=(b.set g.toNat j).length from rfl) .n))))))) (G p (Zar g 1) (b.set g.toNat j) u e o r i)
   |_=>
    dsimp only at i;obtain rfl:=oi i;exact Yh 10 [rz,rz] [true] (rz) 4 ⟨[(100000,100000)],pvOf z⟩ (.c t (.c (Zkd _ _ _ z) .n))
  .obtain⟨I,A,i⟩:=Zae i;cases I with
   |ret v B=>
    dsimp only at i
    let R1:List RA:=[rz,rH [] [(3,⟨[(100000,100000),(100001,17)],[],[(100000,.box (Zaq.c B))],.tup [(true,Zao.c v.1),(false,cB v.2)]⟩)]]
    have O2:Obl _:=(.c t (.c (ZjR _ _ _ _ A) .n));obtain⟨J,D,i⟩:=Zae i;cases J with
    |ret L E=>
     dsimp only at i;obtain rfl:=oi i;exact Yd 12 (R1++[rH [] [(5,⟨[(100000,100000)],[],[(100000,.box (Zaq.c E))],.tup []⟩)],rz]) [false] ⟨[],[],[],[],[],[4],[4,100000],[]⟩ (O2.app (.c (ZmO _ _ _ _ D) .n))
    |_=>
     dsimp only at i;obtain rfl:=oi i;exact Yh 9 R1 [false] (rz) 5 ⟨[(100000,100000)],pvOf D⟩ (O2.app (.c (ZmO _ _ _ _ D) .n))
   |_=>
    dsimp only at i;obtain rfl:=oi i;exact Yh 7 [rz] [false] (rz) 3 ⟨[(100000,100000),(100001,17)],pvOf A⟩ (.c t (.c (ZjR _ _ _ _ A) .n))
def Zho(b:Zbg)(h:Zaq):Option (Tout Zao):=(ZgP h b.fc.fShards).bind fun i=>(match i with | .ret j d=>need (0<=b.fc.fShards/\b.fc.fShards<=b.fc.fShards/\b.fc.fShards<=140737488355328/\b.fc.fShards * 24<=140737488355328)<|Zdl ((((b.fc.fShards.toNat:Nat):Int)-(0:Int)).toNat+2) ((b.fc.fShards.toNat:Nat):Int) (0:Int) (List.replicate b.fc.fShards.toNat ([]:(List Zaa))) d b (Zao.mk 0 (Zah.mk (Zaf.mk false 0 0) 0) 0 0 ([]:(List Zaa))) | .pan e=>some (Tout.pan e) | .bad g=>some (Tout.bad g))
theorem Zln(b:Zbg)(p:Zaq)(r:(Tout Zao))(e:Zho b p=some r):Yq 130 [(100000,.box (Zaq.c p))] [.agg (Zbg.c b),.one (.ifc 140 (.ptr 100000 0))] (oc (fun x=>.agg (Zao.c x)) r):=by
 refine ZhO.of Tryz.func130 rfl rfl rfl rfl fun S0 w0=>?_;unfold Zho at e;obtain⟨t,o,e⟩:=Zae e;cases t with
 |ret u g=>
  dsimp only at e;obtain⟨o2,e⟩:=Zat e;exact Ye 10 [rz,rH [] [(4,⟨[(100000,100000)],[],[(100000,.box (Zaq.c g))],.tup []⟩)],rA [(3,.c b.fc.fShards.toNat (Zam (cLs 10 Zaa.c Zaa.d) ([]:(List Zaa)) (List.replicate b.fc.fShards.toNat ([]:(List Zaa)))))],rz] [] ⟨[],[(4,[(7,cL 10 Zaa.c Zaa.d [])])],[],[(17,((List.replicate b.fc.fShards.toNat ([]:(List Zaa))).length))],[],[1,2,4,5,19,20],[17,100000,2,4],[]⟩ (.c (ZmN _ _ _ o) (.c (show b.fc.fShards=((b.fc.fShards.toNat:Nat):Int)from(Int.toNat_of_nonneg o2.1).symm) (.c (show ((b.fc.fShards.toNat:Nat):Int)<=b.fc.fShards from((Int.toNat_of_nonneg o2.1).symm ▸ o2.2.1)) (.c o2.2.2.1 (.c o2.2.2.2 (.c (show ∀i j,i<b.fc.fShards.toNat->j<1->Zpb (([.lit (.slice none 0 0)]:List C).getD j .junk) (Zam (cLs 10 Zaa.c Zaa.d) ([]:(List Zaa)) (List.replicate b.fc.fShards.toNat ([]:(List Zaa))) i j)from(Znv (fun j hj=>match j,hj with|0,_=>.inr ⟨rfl,_,_,rfl⟩|j+1,h=>absurd h (by omega)) _)) (.c (show (List.replicate b.fc.fShards.toNat ([]:(List Zaa))).length=b.fc.fShards.toNat from List.length_replicate) .n))))))) (Zoy S0 w0 ((((b.fc.fShards.toNat:Nat):Int)-(0:Int)).toNat+2) ((b.fc.fShards.toNat:Nat):Int) (0:Int) (List.replicate b.fc.fShards.toNat ([]:(List Zaa))) g b (Zao.mk 0 (Zah.mk (Zaf.mk false 0 0) 0) 0 0 ([]:(List Zaa))) r e)
 |_=>
  dsimp only at e;obtain rfl:=oi e;exact Yh 3 [rz] [] (rz) 4 ⟨[(100000,100000)],pvOf o⟩ (.c (ZmN _ _ _ o) .n)
def Zgm(b:Zbg)(Z:Zaq):Option (Tout Zao):=(Zll b.fx).bind fun x1=>bif(!x1)then(Zjx Z true).bind fun x2=>(match x2 with | .ret x2v t=>(Zhn (1:Int)).bind fun x3=>some (Tout.ret x3 t) | .pan u=>some (Tout.pan u) | .bad v=>some (Tout.bad v))else(ZiC Z (0:Int) false).bind fun x4=>(match x4 with | .ret x4v y=>(Zeg y (Zan.mk 3 0 0) false).bind fun x5=>(match x5 with | .ret z d=>(Ziv z.fBans b.fx.fEnd.fAddr b.fx.fNow).bind fun x6=>bif(decide (x6>(0:Int)))then(Zgy d (0:Int) true).bind fun x7=>(match x7 with | .ret x7v A=>some (Tout.ret (Zao.mk 8 (Zah.mk (Zaf.mk false 0 0) 0) 0 x6 ([]:(List Zaa))) A) | .pan B=>some (Tout.pan B) | .bad D=>some (Tout.bad D))else(ZgM b d).bind fun x8=>(match x8 with | .ret e g=>bif(!e.2)then(Zho b g).bind fun x9=>(match x9 with | .ret E F=>(Zgy F (0:Int) false).bind fun G=>(match G with | .ret x10v h=>some (Tout.ret E h) | .pan i=>some (Tout.pan i) | .bad j=>some (Tout.bad j)) | .pan H=>some (Tout.pan H) | .bad I=>some (Tout.bad I))else(Zgy g (0:Int) false).bind fun J=>(match J with | .ret x11v n=>some (Tout.ret e.1 n) | .pan o=>some (Tout.pan o) | .bad p=>some (Tout.bad p)) | .pan L=>some (Tout.pan L) | .bad M=>some (Tout.bad M)) | .pan O=>some (Tout.pan O) | .bad R=>some (Tout.bad R)) | .pan U=>some (Tout.pan U) | .bad W=>some (Tout.bad W))
theorem ZhJ(W:Zbg)(Z:Zaq)(r:(Tout Zao))(b:Zgm W Z=some r):Yq 63 [(100000,.box (Zaq.c Z))] [.agg (Zbg.c W),.one (.ifc 140 (.ptr 100000 0))] (oc (fun x=>.agg (Zao.c x)) r):=by
 refine ZhO.of Tryz.func63 rfl rfl rfl rfl fun S0 w0=>?_;unfold Zgm at b;obtain⟨y,z,b⟩:=Zae b;obtain⟨o,b⟩|⟨o,b⟩:=Zaj b
 .obtain⟨x2,A,b⟩:=Zae b;cases x2 with
  |ret x2v B=>
   dsimp only at b;obtain⟨x3,q4,b⟩:=Zae b;obtain rfl:=oi b;exact Yd 10 [rz,rA [(2,aB y)],rH [(1,.id 427)] [(1,⟨[(100000,100000)],[],[(100000,.box (Zaq.c B))],.tup []⟩)],rA [(0,aG (Zao.c x3))]] [true] ⟨[],[],[],[],[],[4],[4,100000],[]⟩ (.c (Zkw _ _ z) (.c o (.c (Zlz _ _ _ A) (.c Zyi (.c (Zia _ _ q4) .n)))))
  |_=>
   dsimp only at b;obtain rfl:=oi b;exact Yh 7 [rz,rA [(2,aB y)]] [true] (rA [(1,.id 427)]) 1 ⟨[(100000,100000)],pvOf A⟩ (.c (Zkw _ _ z) (.c o (.c (Zlz _ _ _ A) (.c Zyi .n))))
 .obtain⟨x4,D,b⟩:=Zae b;cases x4 with
  |ret x4v E=>
   dsimp only at b
   let R1:List RA:=[rz,rA [(2,aB y)],rH [(1,.id 428)] [(1,⟨[(100000,100000)],[],[(100000,.box (Zaq.c E))],.tup []⟩)]]
   have O2:Obl _:=(.c (Zkw _ _ z) (.c o (.c (Zlg _ _ _ _ D) (.c ZvJ .n))));obtain⟨x5,F,b⟩:=Zae b;cases x5 with
   |ret G H=>
    dsimp only at b;obtain⟨x6,q7,b⟩:=Zae b
    let R3:List RA:=(R1++[rH [(2,.id 425)] [(2,⟨[(100000,100000)],[],[(100000,.box (Zaq.c H))],.agg (Zac.c G)⟩)],rA [(8,aI x6)],rz])
    have O4:Obl _:=(O2.app (.c (Zdk _ _ _ _ F) (.c Zlc (.c (Zuj _ _ _ _ q7) .n))));obtain⟨p,b⟩|⟨p,b⟩:=Zaj b
    .obtain⟨x7,I,b⟩:=Zae b;cases x7 with
     |ret x7v J=>
      dsimp only at b;obtain rfl:=oi b;exact Yd 21 (R3++[rH [(1,.id 423)] [(1,⟨[(100000,100000)],[],[(100000,.box (Zaq.c J))],.tup []⟩)],rz]) [false,true] ⟨[],[(4,[(7,cL 10 Zaa.c Zaa.d [])])],[],[],[],[4],[4,100000],[]⟩ (O4.app (.c p (.c (ZeL _ _ _ _ I) (.c Znu .n))))
     |_=>
      dsimp only at b;obtain rfl:=oi b;exact Yh 18 R3 [false,true] (rA [(1,.id 423)]) 1 ⟨[(100000,100000)],pvOf I⟩ (O4.app (.c p (.c (ZeL _ _ _ _ I) (.c Znu .n))))
    .obtain⟨x8,g,b⟩:=Zae b;cases x8 with
     |ret t L=>
      dsimp only at b
      let R5:List RA:=(R3++[rH [] [(2,⟨[(100000,100000)],[],[(100000,.box (Zaq.c L))],.tup [(true,Zao.c t.1),(false,cB t.2)]⟩)],rz])
      have O6:Obl _:=(O4.app (.c p (.c (ZkG _ _ _ g) .n)));obtain⟨e,b⟩|⟨e,b⟩:=Zaj b
      .obtain⟨x9,h,b⟩:=Zae b;cases x9 with
       |ret M O=>
        dsimp only at b
        let R7:List RA:=(R5++[rH [] [(2,⟨[(100000,100000)],[],[(100000,.box (Zaq.c O))],.agg (Zao.c M)⟩)]])
        have O8:Obl _:=(O6.app (.c e (.c (Zln _ _ _ h) .n)));obtain⟨R,i,b⟩:=Zae b;cases R with
        |ret x10v u=>
         dsimp only at b;obtain rfl:=oi b;exact Yd 29 (R7++[rH [(1,.id 423)] [(1,⟨[(100000,100000)],[],[(100000,.box (Zaq.c u))],.tup []⟩)],rz]) [false,false,true] ⟨[],[],[],[],[],[4],[4,100000],[]⟩ (O8.app (.c (ZeL _ _ _ _ i) (.c Znu .n)))
        |_=>
         dsimp only at b;obtain rfl:=oi b;exact Yh 26 R7 [false,false,true] (rA [(1,.id 423)]) 1 ⟨[(100000,100000)],pvOf i⟩ (O8.app (.c (ZeL _ _ _ _ i) (.c Znu .n)))
       |_=>
        dsimp only at b;obtain rfl:=oi b;exact Yh 24 R5 [false,false,true] (rz) 2 ⟨[(100000,100000)],pvOf h⟩ (O6.app (.c e (.c (Zln _ _ _ h) .n)))
      .obtain⟨U,j,b⟩:=Zae b;cases U with
       |ret x11v v=>
        dsimp only at b;obtain rfl:=oi b;exact Yd 29 (R5++[rH [(1,.id 423)] [(1,⟨[(100000,100000)],[],[(100000,.box (Zaq.c v))],.tup []⟩)],rz]) [false,false,false] ⟨[],[],[],[],[],[4],[4,100000],[]⟩ (O6.app (.c e (.c (ZeL _ _ _ _ j) (.c Znu .n))))
       |_=>
        dsimp only at b;obtain rfl:=oi b;exact Yh 26 R5 [false,false,false] (rA [(1,.id 423)]) 1 ⟨[(100000,100000)],pvOf j⟩ (O6.app (.c e (.c (ZeL _ _ _ _ j) (.c Znu .n))))
     |_=>
      dsimp only at b;obtain rfl:=oi b;exact Yh 19 R3 [false,false] (rz) 2 ⟨[(100000,100000)],pvOf g⟩ (O4.app (.c p (.c (ZkG _ _ _ g) .n)))
   |_=>
    dsimp only at b;obtain rfl:=oi b;exact Yh 10 R1 [false] (rA [(2,.id 425)]) 2 ⟨[(100000,100000)],pvOf F⟩ (O2.app (.c (Zdk _ _ _ _ F) (.c Zlc .n)))
  |_=>
   dsimp only at b;obtain rfl:=oi b;exact Yh 8 [rz,rA [(2,aB y)]] [false] (rA [(1,.id 428)]) 1 ⟨[(100000,100000)],pvOf D⟩ (.c (Zkw _ _ z) (.c o (.c (Zlg _ _ _ _ D) (.c ZvJ .n))))
def ZmS(b:ZaF)(d:Zaz):Option Zsz:=some (Zsz.c63 (Zbg.mk b d))
theorem Zuk(b:ZaF)(d:Zaz)(r:Zsz)(e:ZmS b d=some r):Yo 19 [.agg (ZaF.c b),.agg (Zaz.c d)] (.one (Zsz.c r)):=by
 refine Yv Tryz.func19 fun S0 w0=>?_;unfold ZmS at e;apply Ya e 4 [rz,rz] [] .n
def Zwt:Tout Zao->Zci | .ret x _=>⟨Zas.d,x,true,false⟩ | .pan op=>⟨op,Zao.d,false,false⟩ | .bad _=>⟨Zas.d,Zao.d,false,true⟩
def ZGK:List C:=[.lit (.int .i64 (0)),.lit (.int .i64 (0)),.lit (.int .i64 (0)),.lit (.int .i64 (0)),.lit (.int .i64 (0)),.lit (.int .i64 (0)),.lit (.int .i64 (0)),.lit (.int .i64 (0)),.lit (.bool false),.lit (.int .u64 (0)),.lit (.int .u64 (0)),.lit (.int .i64 (0)),.lit (.bool false),.lit (.int .i64 (0)),.lit (.int .i64 (0)),.lit (.int .i64 (0)),.lit (.int .i64 (0)),.lit (.int .i64 (0)),.lit (.slice none 0 0),.lit (.slice none 0 0),.lit (.bool false),.lit (.int .i64 (0)),.lit (.bool false),.lit (.int .u64 (0)),.lit (.int .u64 (0)),.lit (.int .i64 (0)),.lit (.int .i64 (0)),.lit (.int .i64 (0)),.lit (.slice none 0 0),.lit (.bool false),.lit (.bool false)]
def ZHR:List (Nat×C):=[(18,cL 5 Zag.c Zag.d []),(19,cL 7 Zad.c Zad.d [])]
def ZHQ:List (Nat×C):=[(28,cL 10 Zaa.c Zaa.d [])]
theorem ZHa:∀w,(do eqGuard .eql 20 (.tmp 4) (.const .nilIface) .nilIface .nilIface;binOp .eql 20 .nilIface .nilIface:Sem Value).run Tryz.prog w=.ok (.bool true) w:=by
 intro w;have hg:(eqGuard .eql 20 (.tmp 4) (.const .nilIface) .nilIface .nilIface).run Tryz.prog w=.ok () w:=by simp[eqGuard]
 rw[Sem.run_bind,hg,Result.andThen_ok];have h:∀d:Nat,(Op.equalIn (d+1) 20 .nilIface .nilIface).run Tryz.prog w=.ok true w:=fun d=>by simp[Op.equalIn,run_underlying Tryz.underlying20]
 simp only[binOp];simp[Op.equal,Op.maxDepth,h 9999]
theorem ZDI(x:Zao)(g:Zaq):ZAM Tryz.prog 62 (ZGK.take 21++Zao.c x++[.lit (.bool true),.lit (.bool false)]) none (Zci.c (Zwt (.ret x g))):=by
 intro no S m w hS aT hrep;refine ZuE (i:=0) (d:=4) (xv:=.one (.lit .nilIface)) (x:=.nilIface) (u':=.returning) Tryz.func62 rfl (fun ρ w=>by simp[go_sem]) rfl rfl rfl (by kernel_rfl) (by kernel_rfl) hS aT hrep (fun c₀ cs hu=>by cases c₀;cases hu;simp[recoverD]) RepC.lit rfl ?_;exact ZbA Zak 6 [rA [(0,.r (Yk true) [])],rz] [true] ⟨[],[(100000,ZHR)],[],[],[],[],[100000],[]⟩ (.c ZHa (.c (show true=true from rfl) .n)) (by kernel_rfl)
theorem ZFI(op:Zas):ZAM Tryz.prog 62 ZGK (some (.one (.ifa 139 21 (fun i=>(Zas.c op).getD i .junk)))) (Zci.c (Zwt (.pan op))):=by
 intro no S m w hS aT hrep x hx;refine ZuE (i:=0) (d:=4) (xv:=_) (x:=x) (u':=.panicking [{ v:=x,recovered:=true }]) Tryz.func62 rfl (fun ρ w=>by simp[go_sem]) rfl rfl rfl (by kernel_rfl) (by kernel_rfl) hS aT hrep (fun c₀ cs hu=>by cases c₀;cases hu;simp[recoverD]) hx (by kernel_rfl) ?_;exact ZbA Zak 11 [rz,rz,rz,rz] [false,true] ⟨[],[(100000,ZHQ)],[],[],[],[],[100000],[]⟩ (.c (show false=false from rfl) (.c (show true=true from rfl) .n)) (by kernel_rfl)
theorem ZFJ(s:ByteArray):ZAM Tryz.prog 62 ZGK (some (.one (.ifc 9 (.lit (.string s))))) (Zci.c (Zwt (.bad s))):=by
 intro no S m w hS aT hrep x hx;refine ZuE (i:=0) (d:=4) (xv:=_) (x:=x) (u':=.panicking [{ v:=x,recovered:=true }]) Tryz.func62 rfl (fun ρ w=>by simp[go_sem]) rfl rfl rfl (by kernel_rfl) (by kernel_rfl) hS aT hrep (fun c₀ cs hu=>by cases c₀;cases hu;simp[recoverD]) hx (by kernel_rfl) ?_;exact ZbA Zak 11 [rz,rz,rz,rz] [false,false] ⟨[],[(100000,ZHR++ZHQ)],[],[],[],[],[100000],[]⟩ (.c (show false=false from rfl) (.c (show false=false from rfl) .n)) (by kernel_rfl)
def ZmY(c0:Zbg)(b:List Zac):Option Zci:=(Zgm c0 ⟨b⟩).map Zwt
theorem ZrZ(c0:Zbg)(b:List Zac)(r:Zci)(e:ZmY c0 b=some r):Zmt Tryz.prog 18 [.one (.clo (.func 63) 1 0 (fun i=>([.agv 28 (fun j=>(Zbg.c c0).getD j .junk)]:List C).getD i .junk) (fun i=>([]:List C).getD i .junk)),.one (cLn 13 Zac.c Zac.d b)] (.agg (Zci.c r)):=by
 obtain⟨o,ho,rfl⟩:=Option.map_eq_some_iff.1 e;have bW:∀p w,(invoke (.fn (.func 62) #[p]) #[]).run Tryz.prog w=.ok (.enter 62 #[p]) w:=fun p w=>by simp[go_sem]
 cases o with
 |ret x g=>
  exact Zmt.defR rz rz (rH [] [(5,⟨[(100000,9)],[],[(100000,.box (Zaq.c g))],.agg (Zao.c x)⟩)]) 5 4 62 Zak Tryz.func18 rfl rfl rfl rfl rfl rfl (fun ρ w p h=>by simp[go_sem,h]) (by kernel_rfl) bW rfl rfl
   (.c (show Tryz.prog.concrete 140=true from by kernel_rfl) (.c (ZhJ c0 ⟨b⟩ (.ret x g) ho) .n)) (by kernel_rfl) (ZDI x g) (by kernel_rfl) (by kernel_rfl) (by kernel_rfl)
 |pan op=>
  exact Zmt.defP rz rz rz 5 4 62 5 ⟨[(100000,9)],.one (.ifa 139 21 (fun i=>(Zas.c op).getD i .junk))⟩ Zak Tryz.func18 rfl rfl rfl rfl rfl rfl (fun ρ w p h=>by simp[go_sem,h]) (by kernel_rfl) bW rfl rfl
   (.c (show Tryz.prog.concrete 140=true from by kernel_rfl) (.c (ZhJ c0 ⟨b⟩ (.pan op) ho) .n)) (by kernel_rfl) (ZFI op) (by kernel_rfl) (by kernel_rfl) (by kernel_rfl)
 |bad s=>
  exact Zmt.defP rz rz rz 5 4 62 5 ⟨[(100000,9)],.one (.ifc 9 (.lit (.string s)))⟩ Zak Tryz.func18 rfl rfl rfl rfl rfl rfl (fun ρ w p h=>by simp[go_sem,h]) (by kernel_rfl) bW rfl rfl
   (.c (show Tryz.prog.concrete 140=true from by kernel_rfl) (.c (ZhJ c0 ⟨b⟩ (.bad s) ho) .n)) (by kernel_rfl) (ZFJ s) (by kernel_rfl) (by kernel_rfl) (by kernel_rfl)
def Ziw(d:ZaF)(e:Zaz)(g:List Zac):Option Zci:=(ZmS d e).bind fun h=>(match h with | .c63 b=>(ZmY b g).bind fun i=>some i)
theorem Zmn(g:ZaF)(h:Zaz)(i:List Zac)(r:Zci)(b:Ziw g h i=some r):Yo 14 [.agg (ZaF.c g),.agg (Zaz.c h),.one (cL 13 Zac.c Zac.d i)] (.agg (Zci.c r)):=by
 refine Yv Tryz.func14 fun S0 w0=>?_;unfold Ziw at b;obtain⟨j,o,b⟩:=Zae b;cases j with
 |c63 e=>
  dsimp only at b;obtain⟨p,t,b⟩:=Zae b;apply Ya b 4 [rz,rH [(2,.r (.one (Zsz.c (Zsz.c63 e))) [])] [(4,⟨[(99997,99997)],[],[],.agg (Zci.c p)⟩)]] [] (.c (Zuk _ _ _ o) (.c (ZrZ _ _ _ t) .n))
def ZdQ:Option Bool:=(ZiY).bind fun b=>(Ziw b (Zaz.mk 1 (Zah.mk (Zaf.mk false 0 1) 80) (Zap.mk (Zaf.mk false 0 0) 0) 0 0 false) ([]:(List Zac))).bind fun e=>need (0<=(1:Int)/\(1:Int)<=(1:Int)/\(1:Int)<=140737488355328/\(1:Int) * 136<=140737488355328)<|(Ziw b (Zaz.mk 1 (Zah.mk (Zaf.mk false 0 0) 0) (Zap.mk (Zaf.mk false 0 0) 0) 0 0 false) (List.replicate (1:Int).toNat Zac.d)).bind fun g=>bif(e.fOp.fKind==(2:Int))then bif(!e.fDone)then bif g.fDone then some (g.fReply.fCode==(1:Int))else some false else some false else some false
theorem ZfQ(r:Bool)(b:ZdQ=some r):Yo 11 [] (Yk r):=by
 refine Yv Tryz.func11 fun S0 w0=>?_;unfold ZdQ at b;obtain⟨p,u,v,y,b⟩:=Yu b;obtain⟨e,b⟩:=Zat b;obtain⟨z,A,b⟩:=Zae b
 let R1:List RA:=[rz,rz,rA [(0,aG (ZaF.c p)),(2,aG (Zci.c u))],rA [(0,aG (ZaF.c p)),(2,.r (.one (.sl 13 (List.replicate (1:Int).toNat Zac.d).length (Zam Zac.c Zac.d (List.replicate (1:Int).toNat Zac.d)))) []),(3,aG (Zci.c z))]]
 have O2:Obl _:=(.c (Zkn _ v) (.c (show Yo 14 [.agg (ZaF.c p),.agg (Zaz.c (Zaz.mk 1 (Zah.mk (Zaf.mk false 0 1) 80) (Zap.mk (Zaf.mk false 0 0) 0) 0 0 false)),.one (.lit (.slice none 0 0))] (.agg (Zci.c u))from((Zmn _ _ _ _ y).weak (.cons (.refl _) (.cons (.refl _) (.cons (.one (.nul _ _)) .nil))))) (.c (Zkn _ v) (.c (show (1:Int)=(((List.replicate (1:Int).toNat Zac.d).length:Nat):Int)from(by rw[List.length_replicate];exact(Int.toNat_of_nonneg e.1).symm)) (.c (show (((List.replicate (1:Int).toNat Zac.d).length:Nat):Int)<=(1:Int)from(by rw[List.length_replicate];exact((Int.toNat_of_nonneg e.1).symm ▸ e.2.1))) (.c e.2.2.1 (.c e.2.2.2 (.c (show ∀i j,i<(List.replicate (1:Int).toNat Zac.d).length->j<13->Zpb (([.lit (.int .i64 (0)),.lit (.bool false),.lit (.int .u64 (0)),.lit (.int .u64 (0)),.lit (.int .i64 (0)),.lit (.bool false),.lit (.int .i64 (0)),.lit (.int .i64 (0)),.lit (.int .i64 (0)),.lit (.int .i64 (0)),.lit (.int .i64 (0)),.lit (.slice none 0 0),.lit (.slice none 0 0)]:List C).getD j .junk) (Zam Zac.c Zac.d (List.replicate (1:Int).toNat Zac.d) i j)from(by rw[List.length_replicate];exact(Znv (fun j hj=>match j,hj with|0,_=>.inl rfl|1,_=>.inl rfl|2,_=>.inl rfl|3,_=>.inl rfl|4,_=>.inl rfl|5,_=>.inl rfl|6,_=>.inl rfl|7,_=>.inl rfl|8,_=>.inl rfl|9,_=>.inl rfl|10,_=>.inl rfl|11,_=>.inr ⟨rfl,_,_,rfl⟩|12,_=>.inr ⟨rfl,_,_,rfl⟩|j+13,h=>absurd h (by omega)) _))) (.c (Zmn _ _ _ _ A) .n)))))))))
 obtain⟨g,b⟩|⟨g,b⟩:=Zaj b
 .obtain⟨o,b⟩|⟨o,b⟩:=Zaj b
  .obtain⟨t,b⟩|⟨t,b⟩:=Zaj b
   .apply Ya b 10 (R1++[rB [(4,true),(9,true),(13,true)]]) [] (O2.app (.c g (.c o (.c t .n))))
   .apply Ya b 10 (R1++[rB [(4,true),(9,true),(13,false)]]) [] (O2.app (.c g (.c o (.c t .n))))
  .apply Ya b 10 (R1++[rB [(4,true),(9,false)]]) [] (O2.app (.c g (.c o .n)))
 .apply Ya b 10 (R1++[rB [(4,false)]]) [] (O2.app (.c g .n))
def ZfI(b:Int):Option ByteArray:=bif(decide (b<(1:Int)))then some (⟨#[]⟩ : ByteArray)else bif(decide (b>(13:Int)))then some (⟨#[]⟩ : ByteArray)else need (0<=b/\b<((([(⟨#[]⟩ : ByteArray),(⟨#[101,116]⟩ : ByteArray),(⟨#[101]⟩ : ByteArray),(⟨#[116]⟩ : ByteArray),(⟨#[101,103,116,107]⟩ : ByteArray),(⟨#[101,107,116]⟩ : ByteArray),(⟨#[110,107,116]⟩ : ByteArray),(⟨#[110]⟩ : ByteArray),(⟨#[97,116]⟩ : ByteArray),(⟨#[116]⟩ : ByteArray),(⟨#[]⟩ : ByteArray),(⟨#[101,107]⟩ : ByteArray),(⟨#[101,116]⟩ : ByteArray),(⟨#[101,116]⟩ : ByteArray)]:List ByteArray).length:Nat):Int))<|some (([(⟨#[]⟩ : ByteArray),(⟨#[101,116]⟩ : ByteArray),(⟨#[101]⟩ : ByteArray),(⟨#[116]⟩ : ByteArray),(⟨#[101,103,116,107]⟩ : ByteArray),(⟨#[101,107,116]⟩ : ByteArray),(⟨#[110,107,116]⟩ : ByteArray),(⟨#[110]⟩ : ByteArray),(⟨#[97,116]⟩ : ByteArray),(⟨#[116]⟩ : ByteArray),(⟨#[]⟩ : ByteArray),(⟨#[101,107]⟩ : ByteArray),(⟨#[101,116]⟩ : ByteArray),(⟨#[101,116]⟩ : ByteArray)]:List ByteArray).getD b.toNat ByteArray.empty)
theorem Zon(o:Int)(r:ByteArray)(b:ZfI o=some r):Yo 105 [Yj o] (.one (.lit (.string r))):=by
 refine Yv Tryz.func105 fun S0 w0=>?_;unfold ZfI at b
 let R1:List RA:=[rz,⟨[],[],[],[],[],[(0,(([(⟨#[]⟩ : ByteArray),(⟨#[101,116]⟩ : ByteArray),(⟨#[101]⟩ : ByteArray),(⟨#[116]⟩ : ByteArray),(⟨#[101,103,116,107]⟩ : ByteArray),(⟨#[101,107,116]⟩ : ByteArray),(⟨#[110,107,116]⟩ : ByteArray),(⟨#[110]⟩ : ByteArray),(⟨#[97,116]⟩ : ByteArray),(⟨#[116]⟩ : ByteArray),(⟨#[]⟩ : ByteArray),(⟨#[101,107]⟩ : ByteArray),(⟨#[101,116]⟩ : ByteArray),(⟨#[101,116]⟩ : ByteArray)]:List ByteArray).length,Zam cS ByteArray.empty ([(⟨#[]⟩ : ByteArray),(⟨#[101,116]⟩ : ByteArray),(⟨#[101]⟩ : ByteArray),(⟨#[116]⟩ : ByteArray),(⟨#[101,103,116,107]⟩ : ByteArray),(⟨#[101,107,116]⟩ : ByteArray),(⟨#[110,107,116]⟩ : ByteArray),(⟨#[110]⟩ : ByteArray),(⟨#[97,116]⟩ : ByteArray),(⟨#[116]⟩ : ByteArray),(⟨#[]⟩ : ByteArray),(⟨#[101,107]⟩ : ByteArray),(⟨#[101,116]⟩ : ByteArray),(⟨#[101,116]⟩ : ByteArray)]:List ByteArray)))],[]⟩]
 have O2:Obl _:=(.c (show ([(⟨#[]⟩ : ByteArray),(⟨#[101,116]⟩ : ByteArray),(⟨#[101]⟩ : ByteArray),(⟨#[116]⟩ : ByteArray),(⟨#[101,103,116,107]⟩ : ByteArray),(⟨#[101,107,116]⟩ : ByteArray),(⟨#[110,107,116]⟩ : ByteArray),(⟨#[110]⟩ : ByteArray),(⟨#[97,116]⟩ : ByteArray),(⟨#[116]⟩ : ByteArray),(⟨#[]⟩ : ByteArray),(⟨#[101,107]⟩ : ByteArray),(⟨#[101,116]⟩ : ByteArray),(⟨#[101,116]⟩ : ByteArray)]:List ByteArray).length=14/\∀i j,i<14->j<1->Zam cS ByteArray.empty ([(⟨#[]⟩ : ByteArray),(⟨#[101,116]⟩ : ByteArray),(⟨#[101]⟩ : ByteArray),(⟨#[116]⟩ : ByteArray),(⟨#[101,103,116,107]⟩ : ByteArray),(⟨#[101,107,116]⟩ : ByteArray),(⟨#[110,107,116]⟩ : ByteArray),(⟨#[110]⟩ : ByteArray),(⟨#[97,116]⟩ : ByteArray),(⟨#[116]⟩ : ByteArray),(⟨#[]⟩ : ByteArray),(⟨#[101,107]⟩ : ByteArray),(⟨#[101,116]⟩ : ByteArray),(⟨#[101,116]⟩ : ByteArray)]:List ByteArray) i j=(([(⟨#[]⟩ : ByteArray),(⟨#[101,116]⟩ : ByteArray),(⟨#[101]⟩ : ByteArray),(⟨#[116]⟩ : ByteArray),(⟨#[101,103,116,107]⟩ : ByteArray),(⟨#[101,107,116]⟩ : ByteArray),(⟨#[110,107,116]⟩ : ByteArray),(⟨#[110]⟩ : ByteArray),(⟨#[97,116]⟩ : ByteArray),(⟨#[116]⟩ : ByteArray),(⟨#[]⟩ : ByteArray),(⟨#[101,107]⟩ : ByteArray),(⟨#[101,116]⟩ : ByteArray),(⟨#[101,116]⟩ : ByteArray)]:List ByteArray).flatMap cS).getD (i * 1+j) .junk from⟨rfl,fun i j hi hj=>Zbh (sz:=1) (e:=cS) (d:=ByteArray.empty) (fun _=>rfl) ([(⟨#[]⟩ : ByteArray),(⟨#[101,116]⟩ : ByteArray),(⟨#[101]⟩ : ByteArray),(⟨#[116]⟩ : ByteArray),(⟨#[101,103,116,107]⟩ : ByteArray),(⟨#[101,107,116]⟩ : ByteArray),(⟨#[110,107,116]⟩ : ByteArray),(⟨#[110]⟩ : ByteArray),(⟨#[97,116]⟩ : ByteArray),(⟨#[116]⟩ : ByteArray),(⟨#[]⟩ : ByteArray),(⟨#[101,107]⟩ : ByteArray),(⟨#[101,116]⟩ : ByteArray),(⟨#[101,116]⟩ : ByteArray)]:List ByteArray) i j hi hj⟩) .n);obtain⟨g,b⟩|⟨g,b⟩:=Zaj b
 .apply Ya b 10 (R1++[rB [(2,true)],rz]) [true] (O2.app (.c g (.c (show true=true from rfl) .n)))
 .obtain⟨h,b⟩|⟨h,b⟩:=Zaj b
  .apply Ya b 10 (R1++[rB [(2,false)],rz]) [true] (O2.app (.c g (.c h .n)))
  .obtain⟨p,b⟩:=Zat b;apply Ya b 11 (R1++[rB [(2,false)],rz]) [false] (O2.app (.c g (.c h (.c p .n))))
def Zca(b:Zaf):Option Bool:=bif(!b.fV6)then bif(b.fHi==(0:Int))then some (decide (b.fLo<(4294967296:Int)))else some false else bif(b.fHi != (0:Int))then some true else some ((IntKind.wrap .u64 (Int.tdiv b.fLo (4294967296:Int))) != (65535:Int))
theorem ZbI(h:Zaf)(r:Bool)(b:Zca h=some r):Yo 95 [.agg (Zaf.c h)] (Yk r):=by
 refine Yv Tryz.func95 fun S0 w0=>?_;unfold Zca at b;obtain⟨d,b⟩|⟨d,b⟩:=Zaj b
 .obtain⟨e,b⟩|⟨e,b⟩:=Zaj b
  .apply Ya b 8 [rz,rz,rB [(3,true)]] [true] (.c d (.c e .n))
  .apply Ya b 8 [rz,rz,rB [(3,false)]] [true] (.c d (.c e .n))
 .obtain⟨g,b⟩|⟨g,b⟩:=Zaj b
  .apply Ya b 9 [rz,rz,rB [(3,true)]] [false] (.c d (.c g .n))
  .apply Ya b 9 [rz,rz,rB [(3,false)]] [false] (.c d (.c g (.c (show (4294967296:Int)≠0 from(by decide)) .n)))
def ZfM(b:Zah):Option Bool:=(Zca b.fAddr).bind fun d=>bif d then bif(decide (b.fPort>(0:Int)))then some (decide (b.fPort<(65536:Int)))else some false else some false
theorem Zov(h:Zah)(r:Bool)(b:ZfM h=some r):Yo 106 [.agg (Zah.c h)] (Yk r):=by
 refine Yv Tryz.func106 fun S0 w0=>?_;unfold ZfM at b;obtain⟨d,i,b⟩:=Zae b;obtain⟨e,b⟩|⟨e,b⟩:=Zaj b
 .have O1:Obl _:=(.c (ZbI _ _ i) (.c e .n));obtain⟨g,b⟩|⟨g,b⟩:=Zaj b
  .apply Ya b 4 [rz,⟨[(2,aB d)],[(3,true),(8,true)],[],[],[],[],[]⟩] [] (O1.app (.c g .n))
  .apply Ya b 4 [rz,⟨[(2,aB d)],[(3,true),(8,false)],[],[],[],[],[]⟩] [] (O1.app (.c g .n))
 .apply Ya b 4 [rz,⟨[(2,aB d)],[(3,false)],[],[],[],[],[]⟩] [] (.c (ZbI _ _ i) (.c e .n))
def Zch(b:Zaf):Option Int:=bif b.fV6 then some (128:Int)else some (32:Int)
theorem Zcs(e:Zaf)(r:Int)(b:Zch e=some r):Yo 180 [.agg (Zaf.c e)] (Yj r):=by
 refine Yv Tryz.func180 fun S0 w0=>?_;unfold Zch at b;obtain⟨d,b⟩|⟨d,b⟩:=Zaj b
 .apply Ya b 8 [rz,rz,rz] [true] (.c d .n)
 .apply Ya b 9 [rz,rz,rz] [false] (.c d .n)
def Zdx(b d:Int)(e:Zaf):Option Int:=bif(!e.fV6)then need (0<=(IntKind.wrap .u64 (ZaQ (31:Int) b)))<|some (IntKind.wrap .i64 (IntKind.wrap .u64 (((BitVec.ofInt (IntKind.bits .u64) (Int.fdiv d (2 ^ (min (IntKind.wrap .u64 (ZaQ (31:Int) b)).toNat (IntKind.bits .u64))))) &&& (BitVec.ofInt (IntKind.bits .u64) (1:Int))).toNat:Int)))else need (0<=(IntKind.wrap .u64 (ZaQ (63:Int) (Int.tmod b (64:Int)))))<|some (IntKind.wrap .i64 (IntKind.wrap .u64 (((BitVec.ofInt (IntKind.bits .u64) (Int.fdiv d (2 ^ (min (IntKind.wrap .u64 (ZaQ (63:Int) (Int.tmod b (64:Int)))).toNat (IntKind.bits .u64))))) &&& (BitVec.ofInt (IntKind.bits .u64) (1:Int))).toNat:Int)))
theorem Zhm(S0:Nat->Prop)(w0:Zba)(g h:Int)(d:Zaf)(r:Int)(b:Zdx g h d=some r):Yr 39 S0 w0 Tryz.f96 (Yj r) [1,1,1,1] ⟨[(1,(Yj g)),(2,.one (.ptr 2 0)),(5,.one (.lit (.int .u64 h)))],[(2,.box [.lit (.bool d.fV6),.lit (.int .u64 d.fHi),.lit (.int .u64 d.fLo)])]⟩:=by
 unfold Zdx at b;have O1:Obl _:=(.c (show (64:Int)≠0 from(by decide)) .n);obtain⟨e,b⟩|⟨e,b⟩:=Zaj b
 .obtain⟨i,b⟩:=Zat b;apply Ya b 9 [rz,rz,rz,rz] [true] (O1.app (.c e (.c i .n)))
 .obtain⟨j,b⟩:=Zat b;apply Ya b 9 [rz,rz,rz] [false] (O1.app (.c e (.c j .n)))
def ZdZ(b:Zaf)(d:Int):Option Int:=bif(decide (d<(0:Int)))then some (0:Int)else(Zch b).bind fun e=>bif(decide (d>=e))then some (0:Int)else bif b.fV6 then bif(decide (d<(64:Int)))then Zdx d b.fHi b else Zdx d b.fLo b else Zdx d b.fLo b
theorem Zir(d:Zaf)(e r:Int)(b:ZdZ d e=some r):Yo 96 [.agg (Zaf.c d),Yj e] (Yj r):=by
 refine Yv Tryz.func96 fun S0 w0=>?_;unfold ZdZ at b;obtain⟨i,b⟩|⟨i,b⟩:=Zaj b
 .apply Ya b 8 [rz,rB [(2,true)],rz] [true] (.c i (.c (show true=true from rfl) .n))
 .obtain⟨o,p,b⟩:=Zae b
  let R2:List RA:=[rz,⟨[(5,aI o)],[(2,false)],[],[],[],[],[]⟩,rz]
  have O3:Obl _:=(.c i (.c (Zcs _ _ p) .n));obtain⟨g,b⟩|⟨g,b⟩:=Zaj b
  .apply Ya b 8 R2 [true] (O3.app (.c g .n))
  .obtain⟨h,b⟩|⟨h,b⟩:=Zaj b
   .obtain⟨j,b⟩|⟨j,b⟩:=Zaj b
    .exact Ye 14 (R2++[rB [(2,true)],rz]) [false,true] ⟨[],[],[],[],[],[1,2,5],[2],[]⟩ (O3.app (.c g (.c h (.c j .n)))) (Zhm S0 w0 e d.fHi d r b)
    .exact Ye 14 (R2++[rB [(2,true)]]) [false,false] ⟨[],[],[],[],[],[1,2,5],[2],[]⟩ (O3.app (.c g (.c h (.c j .n)))) (Zhm S0 w0 e d.fLo d r b)
   .exact Ye 14 (R2++[rB [(2,false)]]) [false,false] ⟨[],[],[],[],[],[1,2,5],[2],[]⟩ (O3.app (.c g (.c h (.c (show false=false from rfl) .n)))) (Zhm S0 w0 e d.fLo d r b)
def Zde:Nat->Int->Zap->Option Bool|0,_,_=>none|fu+1,b,d=>(Zch d.fAddr).bind fun e=>bif(decide (b<e))then(ZdZ d.fAddr b).bind fun g=>bif(g==(1:Int))then some false else Zde fu (Zar b 1) d else some true
theorem ZmF(S0:Nat->Prop)(w0:Zba):∀(g:Nat)(e:Int)(d:Zap)(r:Bool),Zde g e d=some r->Yr 35 S0 w0 Tryz.f94 (Yk r) [1,1,0,1,0] ⟨[(1,.one (.ptr 1 0)),(3,(Yj e))],[(1,.box [.lit (.bool d.fAddr.fV6),.lit (.int .u64 d.fAddr.fHi),.lit (.int .u64 d.fAddr.fLo),.lit (.int .i64 d.fBits)])]⟩:=by
 intro g;induction g with
 |zero=>
  intro e d r b;simp[Zde]at b
 |succ g t=>
  intro e d r b;unfold Zde at b;obtain⟨h,o,b⟩:=Zae b;obtain⟨i,b⟩|⟨i,b⟩:=Zaj b
  .obtain⟨p,u,b⟩:=Zae b;have O1:Obl _:=(.c (Zcs _ _ o) (.c i (.c (Zir _ _ _ u) .n)));obtain⟨j,b⟩|⟨j,b⟩:=Zaj b
   .apply Ya b 13 [rA [(3,aI h)],rA [(3,aI p)],rz] [true,true] (O1.app (.c j .n))
   .exact Ye 15 [rA [(3,aI h)],rA [(3,aI p)],rz] [true,false] ⟨[],[],[],[],[],[1,3],[1],[]⟩ (O1.app (.c j .n)) (t (Zar e 1) d r b)
  .apply Ya b 8 [rA [(3,aI h)],rz] [false] (.c (Zcs _ _ o) (.c i .n))
def ZeR(b:Zap):Option Bool:=(Zca b.fAddr).bind fun d=>bif(!d)then some false else bif(decide (b.fBits<(0:Int)))then some false else(Zch b.fAddr).bind fun e=>bif(decide (b.fBits>e))then some false else Zde 1000000 b.fBits b
theorem ZhE(d:Zap)(r:Bool)(b:ZeR d=some r):Yo 94 [.agg (Zap.c d)] (Yk r):=by
 refine Yv Tryz.func94 fun S0 w0=>?_;unfold ZeR at b;obtain⟨e,j,b⟩:=Zae b;obtain⟨g,b⟩|⟨g,b⟩:=Zaj b
 .apply Ya b 8 [rz,⟨[(2,aB e)],[(4,true)],[],[],[],[],[]⟩,rz] [true] (.c (ZbI _ _ j) (.c g (.c (show true=true from rfl) .n)))
 .have O2:Obl _:=(.c (ZbI _ _ j) (.c g .n));obtain⟨h,b⟩|⟨h,b⟩:=Zaj b
  .apply Ya b 8 [rz,⟨[(2,aB e)],[(4,false),(9,true)],[],[],[],[],[]⟩,rz] [true] (O2.app (.c h (.c (show true=true from rfl) .n)))
  .obtain⟨o,p,b⟩:=Zae b
   let R3:List RA:=[rz,⟨[(2,aB e),(14,aI o)],[(4,false),(9,false)],[],[],[],[],[]⟩,rz]
   have O4:Obl _:=(O2.app (.c h (.c (Zcs _ _ p) .n)));obtain⟨i,b⟩|⟨i,b⟩:=Zaj b
   .apply Ya b 8 R3 [true] (O4.app (.c i .n))
   .exact Ye 11 R3 [false] ⟨[],[],[],[],[],[1,3],[1],[]⟩ (O4.app (.c i .n)) (ZmF S0 w0 1000000 d.fBits d r b)
def Zbm(g h:Int)(d:Zaz):Nat->ByteArray->Int->Option Bool|0,_,_=>none|fu+1,e,b=>bif(decide (b<((e.size:Nat):Int)))then need (0<=b/\b<((e.size:Nat):Int))<|bif(((ZkH e b.toNat:Nat):Int)==(101:Int))then(ZfM d.fEnd).bind fun i=>bif(!i)then some false else Zbm g h d fu e (Zar b 1)else bif(((ZkH e b.toNat:Nat):Int)==(110:Int))then(ZeR d.fNet).bind fun j=>bif(!j)then some false else Zbm g h d fu e (Zar b 1)else bif(((ZkH e b.toNat:Nat):Int)==(97:Int))then(Zca d.fEnd.fAddr).bind fun n=>bif(!n)then some false else Zbm g h d fu e (Zar b 1)else bif(((ZkH e b.toNat:Nat):Int)==(116:Int))then bif(decide (d.fNow<(0:Int)))then some false else bif(decide (d.fNow>(1099511627776:Int)))then some false else Zbm g h d fu e (Zar b 1)else bif(((ZkH e b.toNat:Nat):Int)==(107:Int))then bif(decide (d.fNum<g))then some false else bif(decide (d.fNum>h))then some false else Zbm g h d fu e (Zar b 1)else Zbm g h d fu e (Zar b 1)else some true
theorem Zmy(S0:Nat->Prop)(w0:Zba)(J L:Int)(d:Zaz):∀(F:Nat)(h:ByteArray)(i:Int)(r:Bool),Zbm J L d F h i=some r->Yr 76 S0 w0 Tryz.f45 (Yk r) [1,1,1,1,1,0,1,0] ⟨[(1,.one (.ptr 1 0)),(3,(Yj J)),(4,(Yj L)),(5,.one (.lit (.string h))),(6,(Yj i))],[(1,.box [.lit (.int .i64 d.fKind),.lit (.bool d.fEnd.fAddr.fV6),.lit (.int .u64 d.fEnd.fAddr.fHi),.lit (.int .u64 d.fEnd.fAddr.fLo),.lit (.int .i64 d.fEnd.fPort),.lit (.bool d.fNet.fAddr.fV6),.lit (.int .u64 d.fNet.fAddr.fHi),.lit (.int .u64 d.fNet.fAddr.fLo),.lit (.int .i64 d.fNet.fBits),.lit (.int .i64 d.fNow),.lit (.int .i64 d.fNum),.lit (.bool d.fGood)])]⟩:=by
 intro F;induction F with
 |zero=>
  intro h i r b;simp[Zbm]at b
 |succ F B=>
  intro h i r b;unfold Zbm at b;obtain⟨t,b⟩|⟨t,b⟩:=Zaj b
  .obtain⟨E,b⟩:=Zat b;obtain⟨D,b⟩|⟨D,b⟩:=Zaj b
   .obtain⟨M,U,b⟩:=Zae b;have O1:Obl _:=(.c t (.c E (.c D (.c (Zov _ _ U) .n))));obtain⟨G,b⟩|⟨G,b⟩:=Zaj b
    .apply Ya b 19 [rz,rz,rz,rA [(2,aB M)],rz] [true,true,true] (O1.app (.c G .n))
    .exact Ye 22 [rz,rz,rz,rA [(2,aB M)],rz] [true,true,false] ⟨[],[],[],[],[],[1,3,4,5,6],[1],[]⟩ (O1.app (.c G .n)) (B h (Zar i 1) r b)
   .obtain⟨e,b⟩|⟨e,b⟩:=Zaj b
    .obtain⟨O,H,b⟩:=Zae b;have O2:Obl _:=(.c t (.c E (.c D (.c e (.c (ZhE _ _ H) .n)))));obtain⟨u,b⟩|⟨u,b⟩:=Zaj b
     .apply Ya b 22 [rz,rz,rz,rz,rA [(2,aB O)],rz] [true,false,true,true] (O2.app (.c u .n))
     .exact Ye 25 [rz,rz,rz,rz,rA [(2,aB O)],rz] [true,false,true,false] ⟨[],[],[],[],[],[1,3,4,5,6],[1],[]⟩ (O2.app (.c u .n)) (B h (Zar i 1) r b)
    .obtain⟨j,b⟩|⟨j,b⟩:=Zaj b
     .obtain⟨R,I,b⟩:=Zae b;have O3:Obl _:=(.c t (.c E (.c D (.c e (.c j (.c (ZbI _ _ I) .n))))));obtain⟨v,b⟩|⟨v,b⟩:=Zaj b
      .apply Ya b 25 [rz,rz,rz,rz,rz,rA [(3,aB R)],rz] [true,false,false,true,true] (O3.app (.c v .n))
      .exact Ye 28 [rz,rz,rz,rz,rz,rA [(3,aB R)],rz] [true,false,false,true,false] ⟨[],[],[],[],[],[1,3,4,5,6],[1],[]⟩ (O3.app (.c v .n)) (B h (Zar i 1) r b)
     .obtain⟨y,b⟩|⟨y,b⟩:=Zaj b
      .have O4:Obl _:=(.c t (.c E (.c D (.c e (.c j (.c y .n))))));obtain⟨o,b⟩|⟨o,b⟩:=Zaj b
       .apply Ya b 28 [rz,rz,rz,rz,rz,rz,rB [(3,true)],rz] [true,false,false,false,true,true] (O4.app (.c o (.c (show true=true from rfl) .n)))
       .obtain⟨z,b⟩|⟨z,b⟩:=Zaj b
        .apply Ya b 28 [rz,rz,rz,rz,rz,rz,rB [(3,false)],rz] [true,false,false,false,true,true] (O4.app (.c o (.c z .n)))
        .exact Ye 31 [rz,rz,rz,rz,rz,rz,rB [(3,false)],rz] [true,false,false,false,true,false] ⟨[],[],[],[],[],[1,3,4,5,6],[1],[]⟩ (O4.app (.c o (.c z .n))) (B h (Zar i 1) r b)
      .have O5:Obl _:=(.c t (.c E (.c D (.c e (.c j (.c y .n))))));obtain⟨g,b⟩|⟨g,b⟩:=Zaj b
       .obtain⟨p,b⟩|⟨p,b⟩:=Zaj b
        .apply Ya b 31 [rz,rz,rz,rz,rz,rz,rz,rB [(4,true)],rz] [true,false,false,false,false,true,true] (O5.app (.c g (.c p (.c (show true=true from rfl) .n))))
        .let R6:List RA:=[rz,rz,rz,rz,rz,rz,rz,rB [(4,false)],rz]
         obtain⟨A,b⟩|⟨A,b⟩:=Zaj b
         .apply Ya b 31 R6 [true,false,false,false,false,true,true] (O5.app (.c g (.c p (.c A .n))))
         .exact Ye 34 R6 [true,false,false,false,false,true,false] ⟨[],[],[],[],[],[1,3,4,5,6],[1],[]⟩ (O5.app (.c g (.c p (.c A .n)))) (B h (Zar i 1) r b)
       .exact Ye 31 [rz,rz,rz,rz,rz,rz,rz,rz] [true,false,false,false,false,false] ⟨[],[],[],[],[],[1,3,4,5,6],[1],[]⟩ (O5.app (.c g .n)) (B h (Zar i 1) r b)
  .apply Ya b 8 [rz,rz] [false] (.c t .n)
def Zdd(e g:Int)(b:Zaz):Option Bool:=(ZfI b.fKind).bind fun d=>Zbm e g b ((((d.size:Nat):Int)-(0:Int)).toNat+2) d (0:Int)
theorem ZeY(S0:Nat->Prop)(w0:Zba)(e g:Int)(b:Zaz)(r:Bool)(d:Zdd e g b=some r):Yr 76 S0 w0 Tryz.f45 (Yk r) [1,1,1,1] ⟨[(1,.one (.ptr 1 0)),(3,(Yj e)),(4,(Yj g))],[(1,.box [.lit (.int .i64 b.fKind),.lit (.bool b.fEnd.fAddr.fV6),.lit (.int .u64 b.fEnd.fAddr.fHi),.lit (.int .u64 b.fEnd.fAddr.fLo),.lit (.int .i64 b.fEnd.fPort),.lit (.bool b.fNet.fAddr.fV6),.lit (.int .u64 b.fNet.fAddr.fHi),.lit (.int .u64 b.fNet.fAddr.fLo),.lit (.int .i64 b.fNet.fBits),.lit (.int .i64 b.fNow),.lit (.int .i64 b.fNum),.lit (.bool b.fGood)])]⟩:=by
 unfold Zdd at d;obtain⟨h,i,d⟩:=Zae d;exact Ye 6 [rA [(2,.r (.one (.lit (.string h))) [])],rz] [] ⟨[],[],[],[],[],[1,3,4,5,6],[1],[]⟩ (.c (Zon _ _ i) .n) (Zmy S0 w0 e g b ((((h.size:Nat):Int)-(0:Int)).toNat+2) h (0:Int) r d)
def ZfJ(b:Zaz):Option Bool:=bif(decide (b.fKind<(1:Int)))then some false else bif(decide (b.fKind>(13:Int)))then some false else bif(b.fKind==(5:Int))then Zdd (1:Int) (5:Int) b else bif(b.fKind==(6:Int))then Zdd (1:Int) (1099511627776:Int) b else bif(b.fKind==(11:Int))then Zdd (1:Int) (1048576:Int) b else Zdd (0:Int) (1073741824:Int) b
theorem Zkl(e:Zaz)(r:Bool)(b:ZfJ e=some r):Yo 45 [.agg (Zaz.c e)] (Yk r):=by
 refine Yv Tryz.func45 fun S0 w0=>?_;unfold ZfJ at b;obtain⟨d,b⟩|⟨d,b⟩:=Zaj b
 .apply Ya b 8 [rz,rB [(3,true)],rz] [true] (.c d (.c (show true=true from rfl) .n))
 .obtain⟨g,b⟩|⟨g,b⟩:=Zaj b
  .apply Ya b 8 [rz,rB [(3,false)],rz] [true] (.c d (.c g .n))
  .obtain⟨h,b⟩|⟨h,b⟩:=Zaj b
   .exact Ye 20 [rz,rB [(3,false)],rz,rz,rz,rz,rz] [false,true] ⟨[],[],[],[],[],[1,3,4],[1],[]⟩ (.c d (.c g (.c h .n))) (ZeY S0 w0 (1:Int) (5:Int) e r b)
   .obtain⟨i,b⟩|⟨i,b⟩:=Zaj b
    .exact Ye 23 [rz,rB [(3,false)],rz,rz,rz,rz,rz,rz] [false,false,true] ⟨[],[],[],[],[],[1,3,4],[1],[]⟩ (.c d (.c g (.c h (.c i .n)))) (ZeY S0 w0 (1:Int) (1099511627776:Int) e r b)
    .obtain⟨j,b⟩|⟨j,b⟩:=Zaj b
     .exact Ye 26 [rz,rB [(3,false)],rz,rz,rz,rz,rz,rz,rz] [false,false,false,true] ⟨[],[],[],[],[],[1,3,4],[1],[]⟩ (.c d (.c g (.c h (.c i (.c j .n))))) (ZeY S0 w0 (1:Int) (1048576:Int) e r b)
     .exact Ye 24 [rz,rB [(3,false)],rz,rz,rz,rz,rz] [false,false,false,false] ⟨[],[],[],[],[],[1,3,4],[1],[]⟩ (.c d (.c g (.c h (.c i (.c j .n))))) (ZeY S0 w0 (0:Int) (1073741824:Int) e r b)
def Zfs(b d:Zan):Option Zan:=bif(decide (b.fKind<(6:Int)))then some (Zan.mk b.fKind b.fShard 0)else some b
theorem ZjO(S0:Nat->Prop)(w0:Zba)(d e r:Zan)(b:Zfs d e=some r):Yr 21 S0 w0 Tryz.f264 (.agg (Zan.c r)) [1,1,1] ⟨[(1,.one (.ptr 1 0)),(2,.one (.ptr 2 0))],[(1,.box [.lit (.int .i64 d.fKind),.lit (.int .i64 d.fShard),.lit (.int .i64 d.fSlot)]),(2,.box [.lit (.int .i64 e.fKind),.lit (.int .i64 e.fShard),.lit (.int .i64 e.fSlot)])]⟩:=by
 unfold Zfs at b;obtain⟨g,b⟩|⟨g,b⟩:=Zaj b
 .apply Ya b 7 [rz,rz,rz] [true] (.c g .n)
 .apply Ya b 7 [rz,rz] [false] (.c g .n)
def ZgG(b:Zan):Option Zan:=bif(decide (b.fKind<(1:Int)))then some (Zan.mk 0 0 0)else bif(decide (b.fKind>(6:Int)))then some (Zan.mk 0 0 0)else bif(decide (b.fKind<(5:Int)))then Zfs (Zan.mk b.fKind 0 b.fSlot) (Zan.mk 0 0 0)else Zfs b (Zan.mk 0 0 0)
theorem Zpn(d r:Zan)(b:ZgG d=some r):Yo 264 [.agg (Zan.c d)] (.agg (Zan.c r)):=by
 refine Yv Tryz.func264 fun S0 w0=>?_;unfold ZgG at b;obtain⟨e,b⟩|⟨e,b⟩:=Zaj b
 .apply Ya b 8 [rz,rB [(3,true)],rz] [true] (.c e (.c (show true=true from rfl) .n))
 .obtain⟨g,b⟩|⟨g,b⟩:=Zaj b
  .apply Ya b 8 [rz,rB [(3,false)],rz] [true] (.c e (.c g .n))
  .obtain⟨h,b⟩|⟨h,b⟩:=Zaj b
   .exact Ye 12 [rz,rB [(3,false)],rz,rz] [false,true] ⟨[],[],[],[],[],[1,2],[1,2],[]⟩ (.c e (.c g (.c h .n))) (ZjO S0 w0 (Zan.mk d.fKind 0 d.fSlot) (Zan.mk 0 0 0) r b)
   .exact Ye 12 [rz,rB [(3,false)],rz] [false,false] ⟨[],[],[],[],[],[1,2],[1,2],[]⟩ (.c e (.c g (.c h .n))) (ZjO S0 w0 d (Zan.mk 0 0 0) r b)
def ZeE(d:Int)(e g b:Zac):Option Zac:=bif(d==(6:Int))then some (Zac.mk b.fN e.fPeer b.fBans b.fBook)else some b
theorem ZiP(S0:Nat->Prop)(w0:Zba)(j:Int)(b e g r:Zac)(h:ZeE j b e g=some r):Yr 36 S0 w0 Tryz.f265 (.agg (Zac.c r)) [1,1,1,1,1] ⟨[(0,(Yj j)),(3,.one (.ptr 3 0)),(4,.one (.ptr 4 0)),(5,.one (.ptr 5 0))],[(3,.box [.lit (.int .i64 b.fN),.lit (.bool b.fPeer.fEnd.fAddr.fV6),.lit (.int .u64 b.fPeer.fEnd.fAddr.fHi),.lit (.int .u64 b.fPeer.fEnd.fAddr.fLo),.lit (.int .i64 b.fPeer.fEnd.fPort),.lit (.bool b.fPeer.fIn),.lit (.int .i64 b.fPeer.fSince),.lit (.int .i64 b.fPeer.fScore.fPoints),.lit (.int .i64 b.fPeer.fScore.fAt),.lit (.int .i64 b.fPeer.fPing),.lit (.int .i64 b.fPeer.fWork),cL 5 Zag.c Zag.d b.fBans,cL 7 Zad.c Zad.d b.fBook]),(4,.box [.lit (.int .i64 e.fN),.lit (.bool e.fPeer.fEnd.fAddr.fV6),.lit (.int .u64 e.fPeer.fEnd.fAddr.fHi),.lit (.int .u64 e.fPeer.fEnd.fAddr.fLo),.lit (.int .i64 e.fPeer.fEnd.fPort),.lit (.bool e.fPeer.fIn),.lit (.int .i64 e.fPeer.fSince),.lit (.int .i64 e.fPeer.fScore.fPoints),.lit (.int .i64 e.fPeer.fScore.fAt),.lit (.int .i64 e.fPeer.fPing),.lit (.int .i64 e.fPeer.fWork),cL 5 Zag.c Zag.d e.fBans,cL 7 Zad.c Zad.d e.fBook]),(5,.box [.lit (.int .i64 g.fN),.lit (.bool g.fPeer.fEnd.fAddr.fV6),.lit (.int .u64 g.fPeer.fEnd.fAddr.fHi),.lit (.int .u64 g.fPeer.fEnd.fAddr.fLo),.lit (.int .i64 g.fPeer.fEnd.fPort),.lit (.bool g.fPeer.fIn),.lit (.int .i64 g.fPeer.fSince),.lit (.int .i64 g.fPeer.fScore.fPoints),.lit (.int .i64 g.fPeer.fScore.fAt),.lit (.int .i64 g.fPeer.fPing),.lit (.int .i64 g.fPeer.fWork),cL 5 Zag.c Zag.d g.fBans,cL 7 Zad.c Zad.d g.fBook])]⟩:=by
 unfold ZeE at h;obtain⟨i,h⟩|⟨i,h⟩:=Zaj h
 .apply Ya h 7 [rz,rz,rz] [true] (.c i .n)
 .apply Ya h 7 [rz,rz] [false] (.c i .n)
def ZeF(d:Int)(e g b:Zac):Option Zac:=bif(d==(4:Int))then ZeE d e g (Zac.mk b.fN b.fPeer b.fBans e.fBook)else ZeE d e g b
theorem ZiQ(S0:Nat->Prop)(w0:Zba)(i:Int)(e g b r:Zac)(h:ZeF i e g b=some r):Yr 36 S0 w0 Tryz.f265 (.agg (Zac.c r)) [1,1,1,1] ⟨[(0,(Yj i)),(3,.one (.ptr 3 0)),(4,.one (.ptr 4 0)),(5,.one (.ptr 5 0))],[(3,.box [.lit (.int .i64 e.fN),.lit (.bool e.fPeer.fEnd.fAddr.fV6),.lit (.int .u64 e.fPeer.fEnd.fAddr.fHi),.lit (.int .u64 e.fPeer.fEnd.fAddr.fLo),.lit (.int .i64 e.fPeer.fEnd.fPort),.lit (.bool e.fPeer.fIn),.lit (.int .i64 e.fPeer.fSince),.lit (.int .i64 e.fPeer.fScore.fPoints),.lit (.int .i64 e.fPeer.fScore.fAt),.lit (.int .i64 e.fPeer.fPing),.lit (.int .i64 e.fPeer.fWork),cL 5 Zag.c Zag.d e.fBans,cL 7 Zad.c Zad.d e.fBook]),(4,.box [.lit (.int .i64 g.fN),.lit (.bool g.fPeer.fEnd.fAddr.fV6),.lit (.int .u64 g.fPeer.fEnd.fAddr.fHi),.lit (.int .u64 g.fPeer.fEnd.fAddr.fLo),.lit (.int .i64 g.fPeer.fEnd.fPort),.lit (.bool g.fPeer.fIn),.lit (.int .i64 g.fPeer.fSince),.lit (.int .i64 g.fPeer.fScore.fPoints),.lit (.int .i64 g.fPeer.fScore.fAt),.lit (.int .i64 g.fPeer.fPing),.lit (.int .i64 g.fPeer.fWork),cL 5 Zag.c Zag.d g.fBans,cL 7 Zad.c Zad.d g.fBook]),(5,.box [.lit (.int .i64 b.fN),.lit (.bool b.fPeer.fEnd.fAddr.fV6),.lit (.int .u64 b.fPeer.fEnd.fAddr.fHi),.lit (.int .u64 b.fPeer.fEnd.fAddr.fLo),.lit (.int .i64 b.fPeer.fEnd.fPort),.lit (.bool b.fPeer.fIn),.lit (.int .i64 b.fPeer.fSince),.lit (.int .i64 b.fPeer.fScore.fPoints),.lit (.int .i64 b.fPeer.fScore.fAt),.lit (.int .i64 b.fPeer.fPing),.lit (.int .i64 b.fPeer.fWork),cL 5 Zag.c Zag.d b.fBans,cL 7 Zad.c Zad.d b.fBook])]⟩:=by
 unfold ZeF at h;obtain⟨j,h⟩|⟨j,h⟩:=Zaj h
 .exact Ye 5 [rz,rz] [true] ⟨[],[],[],[],[],[0,3,4,5],[3,4,5],[]⟩ (.c j .n) (ZiP S0 w0 i e g (Zac.mk b.fN b.fPeer b.fBans e.fBook) r h)
 .exact Ye 5 [rz] [false] ⟨[],[],[],[],[],[0,3,4,5],[3,4,5],[]⟩ (.c j .n) (ZiP S0 w0 i e g b r h)
def Zdc(d:Int)(e g b:Zac):Option Zac:=bif(d==(3:Int))then ZeF d e g (Zac.mk b.fN b.fPeer e.fBans b.fBook)else ZeF d e g b
theorem ZeX(S0:Nat->Prop)(w0:Zba)(i:Int)(e g b r:Zac)(h:Zdc i e g b=some r):Yr 36 S0 w0 Tryz.f265 (.agg (Zac.c r)) [1,1,1] ⟨[(0,(Yj i)),(3,.one (.ptr 3 0)),(4,.one (.ptr 4 0)),(5,.one (.ptr 5 0))],[(3,.box [.lit (.int .i64 e.fN),.lit (.bool e.fPeer.fEnd.fAddr.fV6),.lit (.int .u64 e.fPeer.fEnd.fAddr.fHi),.lit (.int .u64 e.fPeer.fEnd.fAddr.fLo),.lit (.int .i64 e.fPeer.fEnd.fPort),.lit (.bool e.fPeer.fIn),.lit (.int .i64 e.fPeer.fSince),.lit (.int .i64 e.fPeer.fScore.fPoints),.lit (.int .i64 e.fPeer.fScore.fAt),.lit (.int .i64 e.fPeer.fPing),.lit (.int .i64 e.fPeer.fWork),cL 5 Zag.c Zag.d e.fBans,cL 7 Zad.c Zad.d e.fBook]),(4,.box [.lit (.int .i64 g.fN),.lit (.bool g.fPeer.fEnd.fAddr.fV6),.lit (.int .u64 g.fPeer.fEnd.fAddr.fHi),.lit (.int .u64 g.fPeer.fEnd.fAddr.fLo),.lit (.int .i64 g.fPeer.fEnd.fPort),.lit (.bool g.fPeer.fIn),.lit (.int .i64 g.fPeer.fSince),.lit (.int .i64 g.fPeer.fScore.fPoints),.lit (.int .i64 g.fPeer.fScore.fAt),.lit (.int .i64 g.fPeer.fPing),.lit (.int .i64 g.fPeer.fWork),cL 5 Zag.c Zag.d g.fBans,cL 7 Zad.c Zad.d g.fBook]),(5,.box [.lit (.int .i64 b.fN),.lit (.bool b.fPeer.fEnd.fAddr.fV6),.lit (.int .u64 b.fPeer.fEnd.fAddr.fHi),.lit (.int .u64 b.fPeer.fEnd.fAddr.fLo),.lit (.int .i64 b.fPeer.fEnd.fPort),.lit (.bool b.fPeer.fIn),.lit (.int .i64 b.fPeer.fSince),.lit (.int .i64 b.fPeer.fScore.fPoints),.lit (.int .i64 b.fPeer.fScore.fAt),.lit (.int .i64 b.fPeer.fPing),.lit (.int .i64 b.fPeer.fWork),cL 5 Zag.c Zag.d b.fBans,cL 7 Zad.c Zad.d b.fBook])]⟩:=by
 unfold Zdc at h;obtain⟨j,h⟩|⟨j,h⟩:=Zaj h
 .exact Ye 5 [rz,rz] [true] ⟨[],[],[],[],[],[0,3,4,5],[3,4,5],[]⟩ (.c j .n) (ZiQ S0 w0 i e g (Zac.mk b.fN b.fPeer e.fBans b.fBook) r h)
 .exact Ye 5 [rz] [false] ⟨[],[],[],[],[],[0,3,4,5],[3,4,5],[]⟩ (.c j .n) (ZiQ S0 w0 i e g b r h)
def ZfG(b:Int)(d:Zac):Option Zac:=bif(b==(1:Int))then Zdc b d (Zac.mk 0 (Zaa.mk (Zah.mk (Zaf.mk false 0 0) 0) false 0 (Zau.mk 0 0) 0 0) ([]:(List Zag)) ([]:(List Zad))) (Zac.mk d.fN (Zaa.mk (Zah.mk (Zaf.mk false 0 0) 0) false 0 (Zau.mk 0 0) 0 0) ([]:(List Zag)) ([]:(List Zad)))else bif(b==(2:Int))then Zdc b d (Zac.mk 0 (Zaa.mk (Zah.mk (Zaf.mk false 0 0) 0) false 0 (Zau.mk 0 0) 0 0) ([]:(List Zag)) ([]:(List Zad))) (Zac.mk d.fN (Zaa.mk (Zah.mk (Zaf.mk false 0 0) 0) false 0 (Zau.mk 0 0) 0 0) ([]:(List Zag)) ([]:(List Zad)))else bif(b==(5:Int))then Zdc b d (Zac.mk 0 (Zaa.mk (Zah.mk (Zaf.mk false 0 0) 0) false 0 (Zau.mk 0 0) 0 0) ([]:(List Zag)) ([]:(List Zad))) (Zac.mk d.fN (Zaa.mk (Zah.mk (Zaf.mk false 0 0) 0) false 0 (Zau.mk 0 0) 0 0) ([]:(List Zag)) ([]:(List Zad)))else Zdc b d (Zac.mk 0 (Zaa.mk (Zah.mk (Zaf.mk false 0 0) 0) false 0 (Zau.mk 0 0) 0 0) ([]:(List Zag)) ([]:(List Zad))) (Zac.mk 0 (Zaa.mk (Zah.mk (Zaf.mk false 0 0) 0) false 0 (Zau.mk 0 0) 0 0) ([]:(List Zag)) ([]:(List Zad)))
theorem Zol(g:Int)(e r:Zac)(b:ZfG g e=some r):Yo 265 [Yj g,.agg (Zac.c e)] (.agg (Zac.c r)):=by
 refine Yv Tryz.func265 fun S0 w0=>?_;unfold ZfG at b;obtain⟨h,b⟩|⟨h,b⟩:=Zaj b
 .exact Ye 9 [rz,rz,rB [(2,true)],rz] [true] ⟨[],[(4,[(11,cL 5 Zag.c Zag.d []),(12,cL 7 Zad.c Zad.d [])]),(5,[(11,cL 5 Zag.c Zag.d []),(12,cL 7 Zad.c Zad.d [])])],[],[],[],[0,3,4,5],[3,4,5],[]⟩ (.c h (.c (show true=true from rfl) .n)) (ZeX S0 w0 g e (Zac.mk 0 (Zaa.mk (Zah.mk (Zaf.mk false 0 0) 0) false 0 (Zau.mk 0 0) 0 0) ([]:(List Zag)) ([]:(List Zad))) (Zac.mk e.fN (Zaa.mk (Zah.mk (Zaf.mk false 0 0) 0) false 0 (Zau.mk 0 0) 0 0) ([]:(List Zag)) ([]:(List Zad))) r b)
 .obtain⟨i,b⟩|⟨i,b⟩:=Zaj b
  .exact Ye 9 [rz,rz,rB [(2,false),(6,true)],rz] [true] ⟨[],[(4,[(11,cL 5 Zag.c Zag.d []),(12,cL 7 Zad.c Zad.d [])]),(5,[(11,cL 5 Zag.c Zag.d []),(12,cL 7 Zad.c Zad.d [])])],[],[],[],[0,3,4,5],[3,4,5],[]⟩ (.c h (.c i (.c (show true=true from rfl) .n))) (ZeX S0 w0 g e (Zac.mk 0 (Zaa.mk (Zah.mk (Zaf.mk false 0 0) 0) false 0 (Zau.mk 0 0) 0 0) ([]:(List Zag)) ([]:(List Zad))) (Zac.mk e.fN (Zaa.mk (Zah.mk (Zaf.mk false 0 0) 0) false 0 (Zau.mk 0 0) 0 0) ([]:(List Zag)) ([]:(List Zad))) r b)
  .obtain⟨j,b⟩|⟨j,b⟩:=Zaj b
   .exact Ye 9 [rz,rz,rB [(2,false),(6,false)],rz] [true] ⟨[],[(4,[(11,cL 5 Zag.c Zag.d []),(12,cL 7 Zad.c Zad.d [])]),(5,[(11,cL 5 Zag.c Zag.d []),(12,cL 7 Zad.c Zad.d [])])],[],[],[],[0,3,4,5],[3,4,5],[]⟩ (.c h (.c i (.c j .n))) (ZeX S0 w0 g e (Zac.mk 0 (Zaa.mk (Zah.mk (Zaf.mk false 0 0) 0) false 0 (Zau.mk 0 0) 0 0) ([]:(List Zag)) ([]:(List Zad))) (Zac.mk e.fN (Zaa.mk (Zah.mk (Zaf.mk false 0 0) 0) false 0 (Zau.mk 0 0) 0 0) ([]:(List Zag)) ([]:(List Zad))) r b)
   .exact Ye 9 [rz,rz,rB [(2,false),(6,false)]] [false] ⟨[],[(4,[(11,cL 5 Zag.c Zag.d []),(12,cL 7 Zad.c Zad.d [])]),(5,[(11,cL 5 Zag.c Zag.d []),(12,cL 7 Zad.c Zad.d [])])],[],[],[],[0,3,4,5],[3,4,5],[]⟩ (.c h (.c i (.c j .n))) (ZeX S0 w0 g e (Zac.mk 0 (Zaa.mk (Zah.mk (Zaf.mk false 0 0) 0) false 0 (Zau.mk 0 0) 0 0) ([]:(List Zag)) ([]:(List Zad))) (Zac.mk 0 (Zaa.mk (Zah.mk (Zaf.mk false 0 0) 0) false 0 (Zau.mk 0 0) 0 0) ([]:(List Zag)) ([]:(List Zad))) r b)
def ZeG(d e b:Zas):Option Zas:=bif(d.fKind==(7:Int))then some (Zas.mk b.fKind b.fLock b.fLoc d.fOld d.fNew b.fVal b.fMark)else some b
theorem ZiR(S0:Nat->Prop)(w0:Zba)(b e g r:Zas)(h:ZeG b e g=some r):Yr 56 S0 w0 Tryz.f193 (.agg (Zas.c r)) [1,1,1,1,1,1] ⟨[(1,.one (.ptr 1 0)),(2,.one (.ptr 2 0)),(3,.one (.ptr 3 0))],[(1,.box [.lit (.int .i64 b.fKind),.lit (.int .i64 b.fLock),.lit (.int .i64 b.fLoc.fKind),.lit (.int .i64 b.fLoc.fShard),.lit (.int .i64 b.fLoc.fSlot),.lit (.int .i64 b.fOld),.lit (.int .i64 b.fNew),.lit (.int .i64 b.fVal.fN),.lit (.bool b.fVal.fPeer.fEnd.fAddr.fV6),.lit (.int .u64 b.fVal.fPeer.fEnd.fAddr.fHi),.lit (.int .u64 b.fVal.fPeer.fEnd.fAddr.fLo),.lit (.int .i64 b.fVal.fPeer.fEnd.fPort),.lit (.bool b.fVal.fPeer.fIn),.lit (.int .i64 b.fVal.fPeer.fSince),.lit (.int .i64 b.fVal.fPeer.fScore.fPoints),.lit (.int .i64 b.fVal.fPeer.fScore.fAt),.lit (.int .i64 b.fVal.fPeer.fPing),.lit (.int .i64 b.fVal.fPeer.fWork),cL 5 Zag.c Zag.d b.fVal.fBans,cL 7 Zad.c Zad.d b.fVal.fBook,.lit (.bool b.fMark)]),(2,.box [.lit (.int .i64 e.fKind),.lit (.int .i64 e.fLock),.lit (.int .i64 e.fLoc.fKind),.lit (.int .i64 e.fLoc.fShard),.lit (.int .i64 e.fLoc.fSlot),.lit (.int .i64 e.fOld),.lit (.int .i64 e.fNew),.lit (.int .i64 e.fVal.fN),.lit (.bool e.fVal.fPeer.fEnd.fAddr.fV6),.lit (.int .u64 e.fVal.fPeer.fEnd.fAddr.fHi),.lit (.int .u64 e.fVal.fPeer.fEnd.fAddr.fLo),.lit (.int .i64 e.fVal.fPeer.fEnd.fPort),.lit (.bool e.fVal.fPeer.fIn),.lit (.int .i64 e.fVal.fPeer.fSince),.lit (.int .i64 e.fVal.fPeer.fScore.fPoints),.lit (.int .i64 e.fVal.fPeer.fScore.fAt),.lit (.int .i64 e.fVal.fPeer.fPing),.lit (.int .i64 e.fVal.fPeer.fWork),cL 5 Zag.c Zag.d e.fVal.fBans,cL 7 Zad.c Zad.d e.fVal.fBook,.lit (.bool e.fMark)]),(3,.box [.lit (.int .i64 g.fKind),.lit (.int .i64 g.fLock),.lit (.int .i64 g.fLoc.fKind),.lit (.int .i64 g.fLoc.fShard),.lit (.int .i64 g.fLoc.fSlot),.lit (.int .i64 g.fOld),.lit (.int .i64 g.fNew),.lit (.int .i64 g.fVal.fN),.lit (.bool g.fVal.fPeer.fEnd.fAddr.fV6),.lit (.int .u64 g.fVal.fPeer.fEnd.fAddr.fHi),.lit (.int .u64 g.fVal.fPeer.fEnd.fAddr.fLo),.lit (.int .i64 g.fVal.fPeer.fEnd.fPort),.lit (.bool g.fVal.fPeer.fIn),.lit (.int .i64 g.fVal.fPeer.fSince),.lit (.int .i64 g.fVal.fPeer.fScore.fPoints),.lit (.int .i64 g.fVal.fPeer.fScore.fAt),.lit (.int .i64 g.fVal.fPeer.fPing),.lit (.int .i64 g.fVal.fPeer.fWork),cL 5 Zag.c Zag.d g.fVal.fBans,cL 7 Zad.c Zad.d g.fVal.fBook,.lit (.bool g.fMark)])]⟩:=by
 unfold ZeG at h;obtain⟨i,h⟩|⟨i,h⟩:=Zaj h
 .apply Ya h 9 [rz,rz,rz,rz] [true] (.c i .n)
 .apply Ya h 7 [rz,rz] [false] (.c i .n)
def ZdI(d e b:Zas):Option Zas:=bif(d.fKind==(6:Int))then(ZfG d.fLoc.fKind d.fVal).bind fun g=>ZeG d e (Zas.mk b.fKind b.fLock b.fLoc b.fOld b.fNew g b.fMark)else ZeG d e b
theorem Zgt(S0:Nat->Prop)(w0:Zba)(e g b r:Zas)(h:ZdI e g b=some r):Yr 56 S0 w0 Tryz.f193 (.agg (Zas.c r)) [1,1,1,1,1] ⟨[(1,.one (.ptr 1 0)),(2,.one (.ptr 2 0)),(3,.one (.ptr 3 0))],[(1,.box [.lit (.int .i64 e.fKind),.lit (.int .i64 e.fLock),.lit (.int .i64 e.fLoc.fKind),.lit (.int .i64 e.fLoc.fShard),.lit (.int .i64 e.fLoc.fSlot),.lit (.int .i64 e.fOld),.lit (.int .i64 e.fNew),.lit (.int .i64 e.fVal.fN),.lit (.bool e.fVal.fPeer.fEnd.fAddr.fV6),.lit (.int .u64 e.fVal.fPeer.fEnd.fAddr.fHi),.lit (.int .u64 e.fVal.fPeer.fEnd.fAddr.fLo),.lit (.int .i64 e.fVal.fPeer.fEnd.fPort),.lit (.bool e.fVal.fPeer.fIn),.lit (.int .i64 e.fVal.fPeer.fSince),.lit (.int .i64 e.fVal.fPeer.fScore.fPoints),.lit (.int .i64 e.fVal.fPeer.fScore.fAt),.lit (.int .i64 e.fVal.fPeer.fPing),.lit (.int .i64 e.fVal.fPeer.fWork),cL 5 Zag.c Zag.d e.fVal.fBans,cL 7 Zad.c Zad.d e.fVal.fBook,.lit (.bool e.fMark)]),(2,.box [.lit (.int .i64 g.fKind),.lit (.int .i64 g.fLock),.lit (.int .i64 g.fLoc.fKind),.lit (.int .i64 g.fLoc.fShard),.lit (.int .i64 g.fLoc.fSlot),.lit (.int .i64 g.fOld),.lit (.int .i64 g.fNew),.lit (.int .i64 g.fVal.fN),.lit (.bool g.fVal.fPeer.fEnd.fAddr.fV6),.lit (.int .u64 g.fVal.fPeer.fEnd.fAddr.fHi),.lit (.int .u64 g.fVal.fPeer.fEnd.fAddr.fLo),.lit (.int .i64 g.fVal.fPeer.fEnd.fPort),.lit (.bool g.fVal.fPeer.fIn),.lit (.int .i64 g.fVal.fPeer.fSince),.lit (.int .i64 g.fVal.fPeer.fScore.fPoints),.lit (.int .i64 g.fVal.fPeer.fScore.fAt),.lit (.int .i64 g.fVal.fPeer.fPing),.lit (.int .i64 g.fVal.fPeer.fWork),cL 5 Zag.c Zag.d g.fVal.fBans,cL 7 Zad.c Zad.d g.fVal.fBook,.lit (.bool g.fMark)]),(3,.box [.lit (.int .i64 b.fKind),.lit (.int .i64 b.fLock),.lit (.int .i64 b.fLoc.fKind),.lit (.int .i64 b.fLoc.fShard),.lit (.int .i64 b.fLoc.fSlot),.lit (.int .i64 b.fOld),.lit (.int .i64 b.fNew),.lit (.int .i64 b.fVal.fN),.lit (.bool b.fVal.fPeer.fEnd.fAddr.fV6),.lit (.int .u64 b.fVal.fPeer.fEnd.fAddr.fHi),.lit (.int .u64 b.fVal.fPeer.fEnd.fAddr.fLo),.lit (.int .i64 b.fVal.fPeer.fEnd.fPort),.lit (.bool b.fVal.fPeer.fIn),.lit (.int .i64 b.fVal.fPeer.fSince),.lit (.int .i64 b.fVal.fPeer.fScore.fPoints),.lit (.int .i64 b.fVal.fPeer.fScore.fAt),.lit (.int .i64 b.fVal.fPeer.fPing),.lit (.int .i64 b.fVal.fPeer.fWork),cL 5 Zag.c Zag.d b.fVal.fBans,cL 7 Zad.c Zad.d b.fVal.fBook,.lit (.bool b.fMark)])]⟩:=by
 unfold ZdI at h;obtain⟨i,h⟩|⟨i,h⟩:=Zaj h
 .obtain⟨j,o,h⟩:=Zae h;exact Ye 5 [rz,rA [(5,aG (Zac.c j))]] [true] ⟨[],[],[],[],[],[1,2,3],[1,2,3],[]⟩ (.c i (.c (Zol _ _ _ o) .n)) (ZiR S0 w0 e g (Zas.mk b.fKind b.fLock b.fLoc b.fOld b.fNew j b.fMark) r h)
 .exact Ye 5 [rz] [false] ⟨[],[],[],[],[],[1,2,3],[1,2,3],[]⟩ (.c i .n) (ZiR S0 w0 e g b r h)
def ZeH(d e b:Zas):Option Zas:=bif(decide (d.fKind>(4:Int)))then bif(decide (d.fKind<(8:Int)))then(ZgG d.fLoc).bind fun g=>ZdI d e (Zas.mk b.fKind b.fLock g b.fOld b.fNew b.fVal b.fMark)else ZdI d e b else ZdI d e b
theorem ZiS(S0:Nat->Prop)(w0:Zba)(e g b r:Zas)(h:ZeH e g b=some r):Yr 56 S0 w0 Tryz.f193 (.agg (Zas.c r)) [1,1,1,1] ⟨[(1,.one (.ptr 1 0)),(2,.one (.ptr 2 0)),(3,.one (.ptr 3 0))],[(1,.box [.lit (.int .i64 e.fKind),.lit (.int .i64 e.fLock),.lit (.int .i64 e.fLoc.fKind),.lit (.int .i64 e.fLoc.fShard),.lit (.int .i64 e.fLoc.fSlot),.lit (.int .i64 e.fOld),.lit (.int .i64 e.fNew),.lit (.int .i64 e.fVal.fN),.lit (.bool e.fVal.fPeer.fEnd.fAddr.fV6),.lit (.int .u64 e.fVal.fPeer.fEnd.fAddr.fHi),.lit (.int .u64 e.fVal.fPeer.fEnd.fAddr.fLo),.lit (.int .i64 e.fVal.fPeer.fEnd.fPort),.lit (.bool e.fVal.fPeer.fIn),.lit (.int .i64 e.fVal.fPeer.fSince),.lit (.int .i64 e.fVal.fPeer.fScore.fPoints),.lit (.int .i64 e.fVal.fPeer.fScore.fAt),.lit (.int .i64 e.fVal.fPeer.fPing),.lit (.int .i64 e.fVal.fPeer.fWork),cL 5 Zag.c Zag.d e.fVal.fBans,cL 7 Zad.c Zad.d e.fVal.fBook,.lit (.bool e.fMark)]),(2,.box [.lit (.int .i64 g.fKind),.lit (.int .i64 g.fLock),.lit (.int .i64 g.fLoc.fKind),.lit (.int .i64 g.fLoc.fShard),.lit (.int .i64 g.fLoc.fSlot),.lit (.int .i64 g.fOld),.lit (.int .i64 g.fNew),.lit (.int .i64 g.fVal.fN),.lit (.bool g.fVal.fPeer.fEnd.fAddr.fV6),.lit (.int .u64 g.fVal.fPeer.fEnd.fAddr.fHi),.lit (.int .u64 g.fVal.fPeer.fEnd.fAddr.fLo),.lit (.int .i64 g.fVal.fPeer.fEnd.fPort),.lit (.bool g.fVal.fPeer.fIn),.lit (.int .i64 g.fVal.fPeer.fSince),.lit (.int .i64 g.fVal.fPeer.fScore.fPoints),.lit (.int .i64 g.fVal.fPeer.fScore.fAt),.lit (.int .i64 g.fVal.fPeer.fPing),.lit (.int .i64 g.fVal.fPeer.fWork),cL 5 Zag.c Zag.d g.fVal.fBans,cL 7 Zad.c Zad.d g.fVal.fBook,.lit (.bool g.fMark)]),(3,.box [.lit (.int .i64 b.fKind),.lit (.int .i64 b.fLock),.lit (.int .i64 b.fLoc.fKind),.lit (.int .i64 b.fLoc.fShard),.lit (.int .i64 b.fLoc.fSlot),.lit (.int .i64 b.fOld),.lit (.int .i64 b.fNew),.lit (.int .i64 b.fVal.fN),.lit (.bool b.fVal.fPeer.fEnd.fAddr.fV6),.lit (.int .u64 b.fVal.fPeer.fEnd.fAddr.fHi),.lit (.int .u64 b.fVal.fPeer.fEnd.fAddr.fLo),.lit (.int .i64 b.fVal.fPeer.fEnd.fPort),.lit (.bool b.fVal.fPeer.fIn),.lit (.int .i64 b.fVal.fPeer.fSince),.lit (.int .i64 b.fVal.fPeer.fScore.fPoints),.lit (.int .i64 b.fVal.fPeer.fScore.fAt),.lit (.int .i64 b.fVal.fPeer.fPing),.lit (.int .i64 b.fVal.fPeer.fWork),cL 5 Zag.c Zag.d b.fVal.fBans,cL 7 Zad.c Zad.d b.fVal.fBook,.lit (.bool b.fMark)])]⟩:=by
 unfold ZeH at h;obtain⟨i,h⟩|⟨i,h⟩:=Zaj h
 .obtain⟨j,h⟩|⟨j,h⟩:=Zaj h
  .obtain⟨o,p,h⟩:=Zae h;exact Ye 5 [rB [(3,true)],rA [(2,aG (Zan.c o))]] [true] ⟨[],[],[],[],[],[1,2,3],[1,2,3],[]⟩ (.c i (.c j (.c (Zpn _ _ p) .n))) (Zgt S0 w0 e g (Zas.mk b.fKind b.fLock o b.fOld b.fNew b.fVal b.fMark) r h)
  .exact Ye 5 [rB [(3,true)]] [false] ⟨[],[],[],[],[],[1,2,3],[1,2,3],[]⟩ (.c i (.c j .n)) (Zgt S0 w0 e g b r h)
 .exact Ye 5 [rB [(3,false)]] [false] ⟨[],[],[],[],[],[1,2,3],[1,2,3],[]⟩ (.c i (.c (show false=false from rfl) .n)) (Zgt S0 w0 e g b r h)
def ZfH(b:Zas):Option Zas:=bif(decide (b.fKind<(1:Int)))then some (Zas.mk 0 0 (Zan.mk 0 0 0) 0 0 (Zac.mk 0 (Zaa.mk (Zah.mk (Zaf.mk false 0 0) 0) false 0 (Zau.mk 0 0) 0 0) ([]:(List Zag)) ([]:(List Zad))) false)else bif(decide (b.fKind>(8:Int)))then some (Zas.mk 0 0 (Zan.mk 0 0 0) 0 0 (Zac.mk 0 (Zaa.mk (Zah.mk (Zaf.mk false 0 0) 0) false 0 (Zau.mk 0 0) 0 0) ([]:(List Zag)) ([]:(List Zad))) false)else bif(decide (b.fKind<(5:Int)))then ZeH b (Zas.mk 0 0 (Zan.mk 0 0 0) 0 0 (Zac.mk 0 (Zaa.mk (Zah.mk (Zaf.mk false 0 0) 0) false 0 (Zau.mk 0 0) 0 0) ([]:(List Zag)) ([]:(List Zad))) false) (Zas.mk b.fKind b.fLock (Zan.mk 0 0 0) 0 0 (Zac.mk 0 (Zaa.mk (Zah.mk (Zaf.mk false 0 0) 0) false 0 (Zau.mk 0 0) 0 0) ([]:(List Zag)) ([]:(List Zad))) b.fMark)else ZeH b (Zas.mk 0 0 (Zan.mk 0 0 0) 0 0 (Zac.mk 0 (Zaa.mk (Zah.mk (Zaf.mk false 0 0) 0) false 0 (Zau.mk 0 0) 0 0) ([]:(List Zag)) ([]:(List Zad))) false) (Zas.mk b.fKind 0 (Zan.mk 0 0 0) 0 0 (Zac.mk 0 (Zaa.mk (Zah.mk (Zaf.mk false 0 0) 0) false 0 (Zau.mk 0 0) 0 0) ([]:(List Zag)) ([]:(List Zad))) b.fMark)
theorem Zom(e r:Zas)(b:ZfH e=some r):Yo 193 [.agg (Zas.c e)] (.agg (Zas.c r)):=by
 refine Yv Tryz.func193 fun S0 w0=>?_;unfold ZfH at b;obtain⟨g,b⟩|⟨g,b⟩:=Zaj b
 .apply Yb b 8 [rz,rB [(3,true)],rz] [true] [] [(2,[(18,cL 5 Zag.c Zag.d []),(19,cL 7 Zad.c Zad.d [])])] [] (.c g (.c (show true=true from rfl) .n))
 .obtain⟨h,b⟩|⟨h,b⟩:=Zaj b
  .apply Yb b 8 [rz,rB [(3,false)],rz] [true] [] [(2,[(18,cL 5 Zag.c Zag.d []),(19,cL 7 Zad.c Zad.d [])])] [] (.c g (.c h .n))
  .obtain⟨i,b⟩|⟨i,b⟩:=Zaj b
   .exact Ye 14 [rz,rB [(3,false)],rz,rz,rz] [false,true] ⟨[],[(2,[(18,cL 5 Zag.c Zag.d []),(19,cL 7 Zad.c Zad.d [])]),(3,[(18,cL 5 Zag.c Zag.d []),(19,cL 7 Zad.c Zad.d [])])],[],[],[],[1,2,3],[1,2,3],[]⟩ (.c g (.c h (.c i .n))) (ZiS S0 w0 e (Zas.mk 0 0 (Zan.mk 0 0 0) 0 0 (Zac.mk 0 (Zaa.mk (Zah.mk (Zaf.mk false 0 0) 0) false 0 (Zau.mk 0 0) 0 0) ([]:(List Zag)) ([]:(List Zad))) false) (Zas.mk e.fKind e.fLock (Zan.mk 0 0 0) 0 0 (Zac.mk 0 (Zaa.mk (Zah.mk (Zaf.mk false 0 0) 0) false 0 (Zau.mk 0 0) 0 0) ([]:(List Zag)) ([]:(List Zad))) e.fMark) r b)
   .exact Ye 14 [rz,rB [(3,false)],rz,rz] [false,false] ⟨[],[(2,[(18,cL 5 Zag.c Zag.d []),(19,cL 7 Zad.c Zad.d [])]),(3,[(18,cL 5 Zag.c Zag.d []),(19,cL 7 Zad.c Zad.d [])])],[],[],[],[1,2,3],[1,2,3],[]⟩ (.c g (.c h (.c i .n))) (ZiS S0 w0 e (Zas.mk 0 0 (Zan.mk 0 0 0) 0 0 (Zac.mk 0 (Zaa.mk (Zah.mk (Zaf.mk false 0 0) 0) false 0 (Zau.mk 0 0) 0 0) ([]:(List Zag)) ([]:(List Zad))) false) (Zas.mk e.fKind 0 (Zan.mk 0 0 0) 0 0 (Zac.mk 0 (Zaa.mk (Zah.mk (Zaf.mk false 0 0) 0) false 0 (Zau.mk 0 0) 0 0) ([]:(List Zag)) ([]:(List Zad))) e.fMark) r b)
def ZcD(b:Zab)(e:Zas):Option (Zab×Zac):=bif b.fWait then some (b,(Zac.mk 0 (Zaa.mk (Zah.mk (Zaf.mk false 0 0) 0) false 0 (Zau.mk 0 0) 0 0) ([]:(List Zag)) ([]:(List Zad))))else bif(decide (b.fAt<(b.fGot.length:Int)))then need (0<=(ZaQ (Zar b.fAt (1:Int)) (1:Int))/\(ZaQ (Zar b.fAt (1:Int)) (1:Int))<(b.fGot.length:Int))<|some ((Zab.mk b.fGot (Zar b.fAt (1:Int)) b.fOp b.fWait),(b.fGot.getD (ZaQ (Zar b.fAt (1:Int)) (1:Int)).toNat Zac.d))else(ZfH e).bind fun g=>some ((Zab.mk b.fGot b.fAt g true),(Zac.mk 0 (Zaa.mk (Zah.mk (Zaf.mk false 0 0) 0) false 0 (Zau.mk 0 0) 0 0) ([]:(List Zag)) ([]:(List Zad))))
theorem ZgF(h:Zab)(i:Zas)(r:(Zab×Zac))(b:ZcD h i=some r):Yo 107 [.agg (Zab.c h),.agg (Zas.c i)] (.tup [(true,Zab.c r.1),(true,Zac.c r.2)]):=by
 refine Yv Tryz.func107 fun S0 w0=>?_;unfold ZcD at b;obtain⟨e,b⟩|⟨e,b⟩:=Zaj b
 .apply Yb b 8 [rz,rz,rz] [true] [] [(5,[(11,cL 5 Zag.c Zag.d []),(12,cL 7 Zad.c Zad.d [])])] [] (.c e .n)
 .obtain⟨g,b⟩|⟨g,b⟩:=Zaj b
  .obtain⟨j,b⟩:=Zat b;apply Ya b 15 [rz,rz,rz,rz,rz] [false,true] (.c e (.c g (.c j .n)))
  .obtain⟨o,p,b⟩:=Zae b;apply Yb b 18 [rz,rz,rz,rA [(1,aG (Zas.c o))],rz,rz] [false,false] [] [(5,[(11,cL 5 Zag.c Zag.d []),(12,cL 7 Zad.c Zad.d [])])] [] (.c e (.c g (.c (Zom _ _ p) .n)))
def ZaB(b:Zab)(d e:Int)(g:Bool):Option Zab:=(ZcD b (Zas.mk d e (Zan.mk 0 0 0) 0 0 (Zac.mk 0 (Zaa.mk (Zah.mk (Zaf.mk false 0 0) 0) false 0 (Zau.mk 0 0) 0 0) ([]:(List Zag)) ([]:(List Zad))) g)).bind fun h=>some h.1
theorem Zbi(e:Zab)(g h:Int)(i:Bool)(r:Zab)(b:ZaB e g h i=some r):Yo 46 [.agg (Zab.c e),Yj g,Yj h,Yk i] (.agg (Zab.c r)):=by
 refine Yv Tryz.func46 fun S0 w0=>?_;unfold ZaB at b;obtain⟨j,o,b⟩:=Zae b;apply Ya b 6 [rz,⟨[(5,.r (.tup [(true,Zab.c j.1),(true,Zac.c j.2)]) [])],[],[],[],[(4,[(18,cL 5 Zag.c Zag.d []),(19,cL 7 Zad.c Zad.d [])])],[],[]⟩,rz] [] (.c (ZgF _ _ _ o) .n)
def ZbP(d:Zab)(e:Zan):Option (Zab×Zac):=(ZcD d (Zas.mk 5 0 e 0 0 (Zac.mk 0 (Zaa.mk (Zah.mk (Zaf.mk false 0 0) 0) false 0 (Zau.mk 0 0) 0 0) ([]:(List Zag)) ([]:(List Zad))) false)).bind fun b=>some (b.1,b.2)
theorem Zgp(e:Zab)(g:Zan)(r:(Zab×Zac))(b:ZbP e g=some r):Yo 47 [.agg (Zab.c e),.agg (Zan.c g)] (.tup [(true,Zab.c r.1),(true,Zac.c r.2)]):=by
 refine Yv Tryz.func47 fun S0 w0=>?_;unfold ZbP at b;obtain⟨h,i,b⟩:=Zae b;apply Ya b 4 [rz,⟨[(3,.r (.tup [(true,Zab.c h.1),(true,Zac.c h.2)]) [])],[],[],[],[(2,[(18,cL 5 Zag.c Zag.d []),(19,cL 7 Zad.c Zad.d [])])],[],[]⟩] [] (.c (ZgF _ _ _ i) .n)
def ZcY:Nat->Int->Zap->Zaf->Option Bool|0,_,_,_=>none|fu+1,b,d,e=>bif(decide (b<d.fBits))then(ZdZ d.fAddr b).bind fun g=>(ZdZ e b).bind fun h=>bif(g != h)then some false else ZcY fu (Zar b 1) d e else some true
theorem ZnQ(S0:Nat->Prop)(w0:Zba):∀(h:Nat)(g:Int)(d:Zap)(e:Zaf)(r:Bool),ZcY h g d e=some r->Yr 36 S0 w0 Tryz.f33 (Yk r) [1,1,0,1,0] ⟨[(2,.one (.ptr 2 0)),(3,.one (.ptr 3 0)),(5,(Yj g))],[(2,.box [.lit (.bool d.fAddr.fV6),.lit (.int .u64 d.fAddr.fHi),.lit (.int .u64 d.fAddr.fLo),.lit (.int .i64 d.fBits)]),(3,.box [.lit (.bool e.fV6),.lit (.int .u64 e.fHi),.lit (.int .u64 e.fLo)])]⟩:=by
 intro h;induction h with
 |zero=>
  intro g d e r b;simp[ZcY]at b
 |succ h t=>
  intro g d e r b;unfold ZcY at b;obtain⟨i,b⟩|⟨i,b⟩:=Zaj b
  .obtain⟨o,p,u,v,b⟩:=Yu b;have O1:Obl _:=(.c i (.c (Zir _ _ _ u) (.c (Zir _ _ _ v) .n)));obtain⟨j,b⟩|⟨j,b⟩:=Zaj b
   .apply Ya b 13 [rz,rA [(3,aI o),(6,aI p)],rz] [true,true] (O1.app (.c j .n))
   .exact Ye 15 [rz,rA [(3,aI o),(6,aI p)],rz] [true,false] ⟨[],[],[],[],[],[2,3,5],[2,3],[]⟩ (O1.app (.c j .n)) (t (Zar g 1) d e r b)
  .apply Ya b 8 [rz,rz] [false] (.c i .n)
def ZgJ(b:Zap)(d:Zaf):Option Bool:=(ZeR b).bind fun e=>bif(!e)then some false else(Zca d).bind fun g=>bif(!g)then some false else bif(!(b.fAddr.fV6==d.fV6))then some false else ZcY 1000000 (0:Int) b d
theorem Zpq(e:Zap)(g:Zaf)(r:Bool)(b:ZgJ e g=some r):Yo 33 [.agg (Zap.c e),.agg (Zaf.c g)] (Yk r):=by
 refine Yv Tryz.func33 fun S0 w0=>?_;unfold ZgJ at b;obtain⟨h,o,b⟩:=Zae b;obtain⟨i,b⟩|⟨i,b⟩:=Zaj b
 .apply Ya b 8 [rz,⟨[(1,aB h)],[(3,true)],[],[],[],[],[]⟩,rz] [true] (.c (ZhE _ _ o) (.c i (.c (show true=true from rfl) .n)))
 .obtain⟨p,t,b⟩:=Zae b;have O2:Obl _:=(.c (ZhE _ _ o) (.c i (.c (ZbI _ _ t) .n)));obtain⟨d,b⟩|⟨d,b⟩:=Zaj b
  .apply Ya b 8 [rz,⟨[(1,aB h),(5,aB p)],[(3,false),(8,true)],[],[],[],[],[]⟩,rz] [true] (O2.app (.c d (.c (show true=true from rfl) .n)))
  .let R3:List RA:=[rz,⟨[(1,aB h),(5,aB p)],[(3,false),(8,false)],[],[],[],[],[]⟩,rz]
   obtain⟨j,b⟩|⟨j,b⟩:=Zaj b
   .apply Ya b 8 R3 [true] (O2.app (.c d (.c j .n)))
   .exact Ye 11 R3 [false] ⟨[],[],[],[],[],[2,3,5],[2,3],[]⟩ (O2.app (.c d (.c j .n))) (ZnQ S0 w0 1000000 (0:Int) e g r b)
def Zgi(b:Zag)(d:Zaf)(e:Int):Option Bool:=bif(decide (b.fUntil>e))then(ZgJ b.fNet d).bind fun g=>some g else some false
theorem ZoP(e:Zag)(g:Zaf)(h:Int)(r:Bool)(b:Zgi e g h=some r):Yo 35 [.agg (Zag.c e),.agg (Zaf.c g),Yj h] (Yk r):=by
 refine Yv Tryz.func35 fun S0 w0=>?_;unfold Zgi at b;obtain⟨d,b⟩|⟨d,b⟩:=Zaj b
 .obtain⟨i,j,b⟩:=Zae b;apply Ya b 4 [rz,⟨[(8,aB i)],[(4,true)],[],[],[],[],[]⟩] [] (.c d (.c (Zpq _ _ _ j) .n))
 .apply Ya b 4 [rz,rB [(4,false)]] [] (.c d .n)
def ZbQ(e:List Zag)(g:Int):Nat->Int->Bool->Int->Zaf->Option Int|0,_,_,_,_=>none|fu+1,i,j,b,h=>bif(decide (b<(e.length:Int)))then need (0<=b/\b<(e.length:Int))<|(Zgi (e.getD b.toNat Zag.d) h g).bind fun n=>bif n then bif(!j)then ZbQ e g fu ((e.getD b.toNat Zag.d).fUntil) true (Zar b 1) h else bif(decide ((e.getD b.toNat Zag.d).fUntil>i))then ZbQ e g fu ((e.getD b.toNat Zag.d).fUntil) true (Zar b 1) h else ZbQ e g fu i j (Zar b 1) h else ZbQ e g fu i j (Zar b 1) h else some i
theorem ZmE(S0:Nat->Prop)(w0:Zba)(o:List Zag)(A:Int):∀(p:Nat)(h:Int)(i:Bool)(e:Int)(g:Zaf)(r:Int),ZbQ o A p h i e g=some r->Yr 42 S0 w0 Tryz.f42 (Yj r) [1,1,0,1,0] ⟨[(0,(Yl o)),(2,(Yj A)),(4,.one (.ptr 4 0)),(7,(Yj h)),(8,(Yk i)),(9,(Yj e))],[(4,.box [.lit (.bool g.fV6),.lit (.int .u64 g.fHi),.lit (.int .u64 g.fLo)])]⟩:=by
 intro p;induction p with
 |zero=>
  intro h i e g r b;simp[ZbQ]at b
 |succ p t=>
  intro h i e g r b;unfold ZbQ at b;obtain⟨v,b⟩|⟨v,b⟩:=Zaj b
  .obtain⟨o2,b⟩:=Zat b;obtain⟨y,B,b⟩:=Zae b;have O1:Obl _:=(.c v (.c o2 (.c (ZoP _ _ _ _ B) .n)));obtain⟨j,b⟩|⟨j,b⟩:=Zaj b
   .obtain⟨u,b⟩|⟨u,b⟩:=Zaj b
    .exact Ye 17 [rz,⟨[(6,aB y)],[(7,true),(10,true)],[],[],[],[],[]⟩,rz,rz,rz] [true,true] ⟨[],[],[],[],[],[0,2,4,7,8,9],[4],[]⟩ (O1.app (.c j (.c u (.c (show true=true from rfl) (.c o2 .n))))) (t ((o.getD e.toNat Zag.d).fUntil) true (Zar e 1) g r b)
    .let R2:List RA:=[rz,⟨[(6,aB y)],[(7,true),(10,false)],[],[],[],[],[]⟩,rz]
     obtain⟨z,b⟩|⟨z,b⟩:=Zaj b
     .exact Ye 17 (R2++[rz,rz]) [true,true] ⟨[],[],[],[],[],[0,2,4,7,8,9],[4],[]⟩ (O1.app (.c j (.c u (.c o2 (.c z (.c o2 .n)))))) (t ((o.getD e.toNat Zag.d).fUntil) true (Zar e 1) g r b)
     .exact Ye 15 R2 [true,false] ⟨[],[],[],[],[],[0,2,4,7,8,9],[4],[]⟩ (O1.app (.c j (.c u (.c o2 (.c z .n))))) (t h i (Zar e 1) g r b)
   .exact Ye 15 [rz,⟨[(6,aB y)],[(7,false)],[],[],[],[],[]⟩,rz] [true,false] ⟨[],[],[],[],[],[0,2,4,7,8,9],[4],[]⟩ (O1.app (.c j (.c (show false=false from rfl) .n))) (t h i (Zar e 1) g r b)
  .apply Ya b 8 [rz,rz] [false] (.c v .n)
def ZeQ(b:List Zag)(d:Zaf)(e:Int):Option Int:=ZbQ b e (((b.length:Int)-(0:Int)).toNat+2) (0:Int) false (0:Int) d
theorem Zos(b:List Zag)(d:Zaf)(e r:Int)(g:ZeQ b d e=some r):Yo 42 [Yl b,.agg (Zaf.c d),Yj e] (Yj r):=by
 refine Yv Tryz.func42 fun S0 w0=>?_;unfold ZeQ at g;exact Ye 8 [rz,rz,rz] [] ⟨[],[],[],[],[],[0,2,4,7,8,9],[4],[]⟩ .n (ZmE S0 w0 b e (((b.length:Int)-(0:Int)).toNat+2) (0:Int) false (0:Int) d r g)
def Zdw(j h i e b d:Int)(ay:Int->Int->Int->Int->Option (Int×Int))(g:Int):Option (Int×Int):=bif(decide ((Zar d 64)<i))then need (b≠0)<|bif((Int.tmod (IntKind.wrap .u64 (Int.tdiv h b)) (2:Int))==(1:Int))then ay g (IntKind.wrap .u64 (e+b)) (IntKind.wrap .u64 (Int.tdiv b (2:Int))) (Zar d 1)else ay g e (IntKind.wrap .u64 (Int.tdiv b (2:Int))) (Zar d 1)else ay g e (IntKind.wrap .u64 (Int.tdiv b (2:Int))) (Zar d 1)
theorem Zhl(S0:Nat->Prop)(w0:Zba)(i j o g b e:Int)(ay:Int->Int->Int->Int->Option (Int×Int))(aM:∀(df gg db de:Int)(r:(Int×Int)),ay df gg db de=some r->Yr 47 S0 w0 Tryz.f328 (.tup [(false,(cI .u64) r.1),(false,(cI .u64) r.2)]) [1,1,1,0,1,0] ⟨[(0,.one (.lit (.int .u64 i))),(1,.one (.lit (.int .u64 j))),(2,(Yj o)),(8,.one (.lit (.int .u64 df))),(9,.one (.lit (.int .u64 gg))),(10,.one (.lit (.int .u64 db))),(11,(Yj de))],[]⟩)(h:Int)(r:(Int×Int))(d:Zdw i j o g b e ay h=some r):Yr 47 S0 w0 Tryz.f328 (.tup [(false,(cI .u64) r.1),(false,(cI .u64) r.2)]) [1,1,1,0,1,0,0,1,0,0,1] ⟨[(0,.one (.lit (.int .u64 i))),(1,.one (.lit (.int .u64 j))),(2,(Yj o)),(8,.one (.lit (.int .u64 h))),(9,.one (.lit (.int .u64 g))),(10,.one (.lit (.int .u64 b))),(11,(Yj e))],[]⟩:=by
 unfold Zdw at d;obtain⟨p,d⟩|⟨p,d⟩:=Zaj d
 .obtain⟨u,d⟩:=Zat d;have O1:Obl _:=(.c p (.c u (.c (show (2:Int)≠0 from(by decide)) .n)));obtain⟨t,d⟩|⟨t,d⟩:=Zaj d
  .exact Ye 9 [rB [(4,true)],rz,rz,rz] [true] (Yi [0,1,2,8,9,10,11]) (O1.app (.c t (.c (show (2:Int)≠0 from(by decide)) .n))) (aM h (IntKind.wrap .u64 (g+b)) (IntKind.wrap .u64 (Int.tdiv b (2:Int))) (Zar e 1) r d)
  .exact Ye 9 [rB [(4,true)],rz,rz] [false] (Yi [0,1,2,8,9,10,11]) (O1.app (.c t (.c (show (2:Int)≠0 from(by decide)) .n))) (aM h g (IntKind.wrap .u64 (Int.tdiv b (2:Int))) (Zar e 1) r d)
 .exact Ye 9 [rB [(4,false)],rz,rz] [false] (Yi [0,1,2,8,9,10,11]) (.c p (.c (show false=false from rfl) (.c (show (2:Int)≠0 from(by decide)) .n))) (aM h g (IntKind.wrap .u64 (Int.tdiv b (2:Int))) (Zar e 1) r d)
def ZbL(e h g:Int):Nat->Int->Int->Int->Int->Option (Int×Int)|0,_,_,_,_=>none|fu+1,i,j,b,d=>bif(decide (d<(64:Int)))then bif(decide (d<g))then need (b≠0)<|bif((Int.tmod (IntKind.wrap .u64 (Int.tdiv e b)) (2:Int))==(1:Int))then Zdw e h g j b d (ZbL e h g fu) (IntKind.wrap .u64 (i+b))else Zdw e h g j b d (ZbL e h g fu) i else Zdw e h g j b d (ZbL e h g fu) i else some (i,j)
theorem ZnR(S0:Nat->Prop)(w0:Zba)(g h i:Int):∀(j:Nat)(o p d e:Int)(r:(Int×Int)),ZbL g h i j o p d e=some r->Yr 47 S0 w0 Tryz.f328 (.tup [(false,(cI .u64) r.1),(false,(cI .u64) r.2)]) [1,1,1,0,1,0] ⟨[(0,.one (.lit (.int .u64 g))),(1,.one (.lit (.int .u64 h))),(2,(Yj i)),(8,.one (.lit (.int .u64 o))),(9,.one (.lit (.int .u64 p))),(10,.one (.lit (.int .u64 d))),(11,(Yj e))],[]⟩:=by
 intro j;induction j with
 |zero=>
  intro o p d e r b;simp[ZbL]at b
 |succ j u=>
  intro o p d e r b;unfold ZbL at b;obtain⟨t,b⟩|⟨t,b⟩:=Zaj b
  .obtain⟨v,b⟩|⟨v,b⟩:=Zaj b
   .obtain⟨z,b⟩:=Zat b;have O2:Obl _:=(.c t (.c v (.c z (.c (show (2:Int)≠0 from(by decide)) .n))));obtain⟨y,b⟩|⟨y,b⟩:=Zaj b
    .exact Ye 13 [rz,rB [(3,true)],rz] [true,true] (Yi [0,1,2,8,9,10,11]) (O2.app (.c y .n)) (Zhl S0 w0 g h i p d e (ZbL g h i j) u (IntKind.wrap .u64 (o+d)) r b)
    .exact Ye 13 [rz,rB [(3,true)]] [true,false] (Yi [0,1,2,8,9,10,11]) (O2.app (.c y .n)) (Zhl S0 w0 g h i p d e (ZbL g h i j) u o r b)
   .exact Ye 13 [rz,rB [(3,false)]] [true,false] (Yi [0,1,2,8,9,10,11]) (.c t (.c v (.c (show false=false from rfl) .n))) (Zhl S0 w0 g h i p d e (ZbL g h i j) u o r b)
  .apply Ya b 8 [rz,rz] [false] (.c t .n)
def ZdY(b d e:Int):Option (Int×Int):=ZbL b d e (((64:Int)-(0:Int)).toNat+2) (0:Int) (0:Int) (9223372036854775808:Int) (0:Int)
theorem Zli(b d e:Int)(r:(Int×Int))(g:ZdY b d e=some r):Yo 328 [.one (.lit (.int .u64 b)),.one (.lit (.int .u64 d)),Yj e] (.tup [(false,(cI .u64) r.1),(false,(cI .u64) r.2)]):=by
 refine Yv Tryz.func328 fun S0 w0=>?_;unfold ZdY at g;exact Ye 10 [rz,rz,rz,rz] [] (Yi [0,1,2,8,9,10,11]) .n (ZnR S0 w0 b d e (((64:Int)-(0:Int)).toNat+2) (0:Int) (0:Int) (9223372036854775808:Int) (0:Int) r g)
def Zfe(b h:Zaf)(d:Int):Option Zaf:=bif b.fV6 then(ZdY b.fHi b.fLo d).bind fun e=>some (Zaf.mk true e.1 e.2)else(ZdY (0:Int) b.fLo (Zar (96:Int) d)).bind fun g=>some (Zaf.mk false 0 g.2)
theorem Zjn(S0:Nat->Prop)(w0:Zba)(d e:Zaf)(h:Int)(r:Zaf)(b:Zfe d e h=some r):Yr 45 S0 w0 Tryz.f267 (.agg (Zaf.c r)) [1,1,1,1] ⟨[(1,(Yj h)),(2,.one (.ptr 2 0)),(4,.one (.ptr 4 0))],[(2,.box [.lit (.bool d.fV6),.lit (.int .u64 d.fHi),.lit (.int .u64 d.fLo)]),(4,.box [.lit (.bool e.fV6),.lit (.int .u64 e.fHi),.lit (.int .u64 e.fLo)])]⟩:=by
 unfold Zfe at b;obtain⟨g,b⟩|⟨g,b⟩:=Zaj b
 .obtain⟨i,o,b⟩:=Zae b;apply Ya b 8 [rz,rA [(5,.r (.tup [(false,(cI .u64) i.1),(false,(cI .u64) i.2)]) [])],rz] [true] (.c g (.c (Zli _ _ _ _ o) .n))
 .obtain⟨j,p,b⟩:=Zae b;apply Ya b 9 [rz,rA [(4,.r (.tup [(false,(cI .u64) j.1),(false,(cI .u64) j.2)]) [])],rz] [false] (.c g (.c (Zli _ _ _ _ p) .n))
def Zff(d:Int)(b e:Zaf):Option Zaf:=(Zch b).bind fun g=>bif(decide (d>g))then Zfe b e g else Zfe b e d
theorem Zjo(S0:Nat->Prop)(w0:Zba)(h:Int)(d e r:Zaf)(b:Zff h d e=some r):Yr 45 S0 w0 Tryz.f267 (.agg (Zaf.c r)) [1,1,1] ⟨[(1,(Yj h)),(2,.one (.ptr 2 0)),(4,.one (.ptr 4 0))],[(2,.box [.lit (.bool d.fV6),.lit (.int .u64 d.fHi),.lit (.int .u64 d.fLo)]),(4,.box [.lit (.bool e.fV6),.lit (.int .u64 e.fHi),.lit (.int .u64 e.fLo)])]⟩:=by
 unfold Zff at b;obtain⟨g,i,b⟩:=Zae b;obtain⟨j,b⟩|⟨j,b⟩:=Zaj b
 .exact Ye 5 [rA [(2,aI g)],rA [(1,aI g)]] [true] ⟨[],[],[],[],[],[1,2,4],[2,4],[]⟩ (.c (Zcs _ _ i) (.c j (.c (Zcs _ _ i) .n))) (Zjn S0 w0 d e g r b)
 .exact Ye 5 [rA [(2,aI g)]] [false] ⟨[],[],[],[],[],[1,2,4],[2,4],[]⟩ (.c (Zcs _ _ i) (.c j .n)) (Zjn S0 w0 d e h r b)
def ZhF(b:Zaf)(d:Int):Option Zaf:=(Zca b).bind fun e=>bif(!e)then some (Zaf.mk false 0 0)else bif(decide (d<(0:Int)))then Zff (0:Int) b (Zaf.mk false 0 0)else Zff d b (Zaf.mk false 0 0)
theorem ZoQ(d:Zaf)(e:Int)(r:Zaf)(b:ZhF d e=some r):Yo 267 [.agg (Zaf.c d),Yj e] (.agg (Zaf.c r)):=by
 refine Yv Tryz.func267 fun S0 w0=>?_;unfold ZhF at b;obtain⟨g,j,b⟩:=Zae b;obtain⟨h,b⟩|⟨h,b⟩:=Zaj b
 .apply Ya b 8 [rz,rA [(1,aB g)],rz] [true] (.c (ZbI _ _ j) (.c h .n))
 .have O1:Obl _:=(.c (ZbI _ _ j) (.c h .n));obtain⟨i,b⟩|⟨i,b⟩:=Zaj b
  .exact Ye 12 [rz,rA [(1,aB g)],rz,rz] [false,true] ⟨[],[],[],[],[],[1,2,4],[2,4],[]⟩ (O1.app (.c i .n)) (Zjo S0 w0 (0:Int) d (Zaf.mk false 0 0) r b)
  .exact Ye 12 [rz,rA [(1,aB g)],rz] [false,false] ⟨[],[],[],[],[],[1,2,4],[2,4],[]⟩ (O1.app (.c i .n)) (Zjo S0 w0 e d (Zaf.mk false 0 0) r b)
def ZhG(d:Zaf)(b:Int):Option (Zap×Bool):=(Zca d).bind fun e=>bif(!e)then some ((Zap.mk (Zaf.mk false 0 0) 0),false)else bif(decide (b<(0:Int)))then some ((Zap.mk (Zaf.mk false 0 0) 0),false)else(Zch d).bind fun g=>bif(decide (b>g))then some ((Zap.mk (Zaf.mk false 0 0) 0),false)else(ZhF d b).bind fun h=>some ((Zap.mk h b),true)
theorem ZoR(i:Zaf)(j:Int)(r:(Zap×Bool))(b:ZhG i j=some r):Yo 195 [.agg (Zaf.c i),Yj j] (.tup [(true,Zap.c r.1),(false,cB r.2)]):=by
 refine Yv Tryz.func195 fun S0 w0=>?_;unfold ZhG at b;obtain⟨d,o,b⟩:=Zae b;obtain⟨e,b⟩|⟨e,b⟩:=Zaj b
 .apply Ya b 8 [rz,⟨[(1,aB d)],[(3,true)],[],[],[],[],[]⟩,rz] [true] (.c (ZbI _ _ o) (.c e (.c (show true=true from rfl) .n)))
 .have O1:Obl _:=(.c (ZbI _ _ o) (.c e .n));obtain⟨g,b⟩|⟨g,b⟩:=Zaj b
  .apply Ya b 8 [rz,⟨[(1,aB d)],[(3,false),(7,true)],[],[],[],[],[]⟩,rz] [true] (O1.app (.c g (.c (show true=true from rfl) .n)))
  .obtain⟨p,t,b⟩:=Zae b
   let R2:List RA:=[rz,⟨[(1,aB d),(10,aI p)],[(3,false),(7,false)],[],[],[],[],[]⟩]
   have O3:Obl _:=(O1.app (.c g (.c (Zcs _ _ t) .n)));obtain⟨h,b⟩|⟨h,b⟩:=Zaj b
   .apply Ya b 8 (R2++[rz]) [true] (O3.app (.c h .n))
   .obtain⟨u,v,b⟩:=Zae b;apply Ya b 9 (R2++[rA [(2,aG (Zaf.c u))]]) [false] (O3.app (.c h (.c (ZoQ _ _ _ v) .n)))
def Zgj(b:Zaf):Option Zap:=(Zch b).bind fun d=>(ZhG b d).bind fun e=>some e.1
theorem ZoS(d:Zaf)(r:Zap)(b:Zgj d=some r):Yo 110 [.agg (Zaf.c d)] (.agg (Zap.c r)):=by
 refine Yv Tryz.func110 fun S0 w0=>?_;unfold Zgj at b;obtain⟨g,e,h,i,b⟩:=Yu b;apply Ya b 6 [rz,rA [(2,aI g),(3,.r (.tup [(true,Zap.c e.1),(false,cB e.2)]) [])],rz] [] (.c (Zcs _ _ h) (.c (ZoR _ _ _ i) .n))
def ZeI(b:Int):Option Int:=some (IntKind.wrap .u64 (((BitVec.ofInt (IntKind.bits .u64) (IntKind.wrap .u64 ((IntKind.wrap .u64 (((BitVec.ofInt (IntKind.bits .u64) (IntKind.wrap .u64 ((IntKind.wrap .u64 (((BitVec.ofInt (IntKind.bits .u64) b) ^^^ (BitVec.ofInt (IntKind.bits .u64) (IntKind.wrap .u64 (Int.tdiv b (1073741824:Int))))).toNat:Int))*(13787848793156543929:Int)))) ^^^ (BitVec.ofInt (IntKind.bits .u64) (IntKind.wrap .u64 (Int.tdiv (IntKind.wrap .u64 ((IntKind.wrap .u64 (((BitVec.ofInt (IntKind.bits .u64) b) ^^^ (BitVec.ofInt (IntKind.bits .u64) (IntKind.wrap .u64 (Int.tdiv b (1073741824:Int))))).toNat:Int))*(13787848793156543929:Int))) (134217728:Int))))).toNat:Int))*(10723151780598845931:Int)))) ^^^ (BitVec.ofInt (IntKind.bits .u64) (IntKind.wrap .u64 (Int.tdiv (IntKind.wrap .u64 ((IntKind.wrap .u64 (((BitVec.ofInt (IntKind.bits .u64) (IntKind.wrap .u64 ((IntKind.wrap .u64 (((BitVec.ofInt (IntKind.bits .u64) b) ^^^ (BitVec.ofInt (IntKind.bits .u64) (IntKind.wrap .u64 (Int.tdiv b (1073741824:Int))))).toNat:Int))*(13787848793156543929:Int)))) ^^^ (BitVec.ofInt (IntKind.bits .u64) (IntKind.wrap .u64 (Int.tdiv (IntKind.wrap .u64 ((IntKind.wrap .u64 (((BitVec.ofInt (IntKind.bits .u64) b) ^^^ (BitVec.ofInt (IntKind.bits .u64) (IntKind.wrap .u64 (Int.tdiv b (1073741824:Int))))).toNat:Int))*(13787848793156543929:Int))) (134217728:Int))))).toNat:Int))*(10723151780598845931:Int))) (2147483648:Int))))).toNat:Int))
theorem Zip(b r:Int)(d:ZeI b=some r):Yo 266 [.one (.lit (.int .u64 b))] (.one (.lit (.int .u64 r))):=by
 refine Yv Tryz.func266 fun S0 w0=>?_;unfold ZeI at d;apply Ya d 8 [rz,rz,rz,rz] [] (.c (show (1073741824:Int)≠0 from(by decide)) (.c (show (134217728:Int)≠0 from(by decide)) (.c (show (2147483648:Int)≠0 from(by decide)) .n)))
def ZdP(d:List Int):Nat->Int->Int->Option Int|0,_,_=>none|fu+1,e,b=>bif(decide (b<(d.length:Int)))then need (0<=b/\b<(d.length:Int))<|(ZeI (IntKind.wrap .u64 ((d.getD b.toNat (0:Int))+(11400714819323198485:Int)))).bind fun g=>(ZeI (IntKind.wrap .u64 (((BitVec.ofInt (IntKind.bits .u64) (IntKind.wrap .u64 ((IntKind.wrap .u64 (e*(128:Int)))+(IntKind.wrap .u64 (Int.tdiv e (144115188075855872:Int)))))) ^^^ (BitVec.ofInt (IntKind.bits .u64) g)).toNat:Int))).bind fun h=>ZdP d fu h (Zar b 1)else some e
theorem Zot(S0:Nat->Prop)(w0:Zba)(i:List Int):∀(e:Nat)(g d r:Int),ZdP i e g d=some r->Yr 30 S0 w0 Tryz.f194 (.one (.lit (.int .u64 r))) [1,1,0,1,0] ⟨[(1,.one (cL 1 (cI .u64) (0:Int) i)),(5,.one (.lit (.int .u64 g))),(6,(Yj d))],[]⟩:=by
 intro e;induction e with
 |zero=>
  intro g d r b;simp[ZdP]at b
 |succ e o=>
  intro g d r b;unfold ZdP at b;obtain⟨h,b⟩|⟨h,b⟩:=Zaj b
  .obtain⟨p,b⟩:=Zat b;obtain⟨t,j,u,v,b⟩:=Yu b;exact Ye 12 [rz,rA [(10,.r (.one (.lit (.int .u64 t))) []),(12,.r (.one (.lit (.int .u64 j))) [])],rz] [true] (Yi [1,5,6]) (.c h (.c (show (144115188075855872:Int)≠0 from(by decide)) (.c p (.c (Zip _ _ u) (.c (Zip _ _ v) .n))))) (o j (Zar d 1) r b)
  .apply Ya b 8 [rz,rz] [false] (.c h .n)
def Zga(d:Int)(b:List Int):Option Int:=(ZeI (IntKind.wrap .u64 (d+(11400714819323198485:Int)))).bind fun e=>ZdP b (((b.length:Int)-(0:Int)).toNat+2) e (0:Int)
theorem ZlB(e:Int)(b:List Int)(r:Int)(d:Zga e b=some r):Yo 194 [.one (.lit (.int .u64 e)),.one (cL 1 (cI .u64) (0:Int) b)] (.one (.lit (.int .u64 r))):=by
 refine Yv Tryz.func194 fun S0 w0=>?_;unfold Zga at d;obtain⟨g,h,d⟩:=Zae d;exact Ye 8 [rz,rA [(2,.r (.one (.lit (.int .u64 g))) [])],rz] [] (Yi [1,5,6]) (.c (Zip _ _ h) .n) (Zot S0 w0 b (((b.length:Int)-(0:Int)).toNat+2) g (0:Int) r d)
def ZdX(d:Int)(b:Zap):Option Int:=bif b.fAddr.fV6 then(Zga d ([(6:Int),b.fAddr.fHi,b.fAddr.fLo,(IntKind.wrap .u64 b.fBits)]:List Int)).bind fun e=>some e else(Zga d ([(4:Int),b.fAddr.fHi,b.fAddr.fLo,(IntKind.wrap .u64 b.fBits)]:List Int)).bind fun g=>some g
theorem Ziq(o:Int)(b:Zap)(r:Int)(g:ZdX o b=some r):Yo 109 [.one (.lit (.int .u64 o)),.agg (Zap.c b)] (.one (.lit (.int .u64 r))):=by
 refine Yv Tryz.func109 fun S0 w0=>?_;unfold ZdX at g;obtain⟨h,g⟩|⟨h,g⟩:=Zaj g
 .obtain⟨p,t,g⟩:=Zae g;apply Ya g 11 [rz,rz,rz,rz,⟨[(12,.r (.one (.lit (.int .u64 p))) [])],[],[],[],[],[(11,(([(6:Int),b.fAddr.fHi,b.fAddr.fLo,(IntKind.wrap .u64 b.fBits)]:List Int).length,Zam (cI .u64) (0:Int) ([(6:Int),b.fAddr.fHi,b.fAddr.fLo,(IntKind.wrap .u64 b.fBits)]:List Int)))],[]⟩] [true] (.c h (.c (show ([(6:Int),b.fAddr.fHi,b.fAddr.fLo,(IntKind.wrap .u64 b.fBits)]:List Int).length=4/\∀i j,i<4->j<1->Zam (cI .u64) (0:Int) ([(6:Int),b.fAddr.fHi,b.fAddr.fLo,(IntKind.wrap .u64 b.fBits)]:List Int) i j=(([(6:Int),b.fAddr.fHi,b.fAddr.fLo,(IntKind.wrap .u64 b.fBits)]:List Int).flatMap (cI .u64)).getD (i * 1+j) .junk from⟨rfl,fun i j hi hj=>Zbh (sz:=1) (e:=(cI .u64)) (d:=(0:Int)) (fun _=>rfl) ([(6:Int),b.fAddr.fHi,b.fAddr.fLo,(IntKind.wrap .u64 b.fBits)]:List Int) i j hi hj⟩) (.c (ZlB _ _ _ t) .n)))
 .obtain⟨u,v,g⟩:=Zae g;apply Ya g 11 [rz,rz,rz,⟨[(12,.r (.one (.lit (.int .u64 u))) [])],[],[],[],[],[(11,(([(4:Int),b.fAddr.fHi,b.fAddr.fLo,(IntKind.wrap .u64 b.fBits)]:List Int).length,Zam (cI .u64) (0:Int) ([(4:Int),b.fAddr.fHi,b.fAddr.fLo,(IntKind.wrap .u64 b.fBits)]:List Int)))],[]⟩] [false] (.c h (.c (show ([(4:Int),b.fAddr.fHi,b.fAddr.fLo,(IntKind.wrap .u64 b.fBits)]:List Int).length=4/\∀i j,i<4->j<1->Zam (cI .u64) (0:Int) ([(4:Int),b.fAddr.fHi,b.fAddr.fLo,(IntKind.wrap .u64 b.fBits)]:List Int) i j=(([(4:Int),b.fAddr.fHi,b.fAddr.fLo,(IntKind.wrap .u64 b.fBits)]:List Int).flatMap (cI .u64)).getD (i * 1+j) .junk from⟨rfl,fun i j hi hj=>Zbh (sz:=1) (e:=(cI .u64)) (d:=(0:Int)) (fun _=>rfl) ([(4:Int),b.fAddr.fHi,b.fAddr.fLo,(IntKind.wrap .u64 b.fBits)]:List Int) i j hi hj⟩) (.c (ZlB _ _ _ v) .n)))
def ZcN(b:Int):Option Int:=bif(decide (b<(1:Int)))then some (1:Int)else bif(decide (b>(8:Int)))then some (8:Int)else some b
theorem ZfP(g r:Int)(b:ZcN g=some r):Yo 111 [Yj g] (Yj r):=by
 refine Yv Tryz.func111 fun S0 w0=>?_;unfold ZcN at b;obtain⟨d,b⟩|⟨d,b⟩:=Zaj b
 .apply Ya b 8 [rz,rz,rz] [true] (.c d .n)
 .obtain⟨e,b⟩|⟨e,b⟩:=Zaj b
  .apply Ya b 13 [rz,rz,rz,rz] [false,true] (.c d (.c e .n))
  .apply Ya b 14 [rz,rz,rz,rz] [false,false] (.c d (.c e .n))
def ZfL(d b:Int):Option Int:=bif(decide (b<(1:Int)))then some (0:Int)else bif(decide (b>(2147483648:Int)))then some (0:Int)else some (IntKind.wrap .i64 (IntKind.wrap .u64 (Int.tdiv (IntKind.wrap .u64 ((IntKind.wrap .u64 (Int.tdiv d (4294967296:Int)))*(IntKind.wrap .u64 b))) (4294967296:Int))))
theorem Zou(g h r:Int)(b:ZfL g h=some r):Yo 108 [.one (.lit (.int .u64 g)),Yj h] (Yj r):=by
 refine Yv Tryz.func108 fun S0 w0=>?_;unfold ZfL at b;obtain⟨d,b⟩|⟨d,b⟩:=Zaj b
 .apply Ya b 8 [rz,rB [(2,true)],rz] [true] (.c d (.c (show true=true from rfl) .n))
 .obtain⟨e,b⟩|⟨e,b⟩:=Zaj b
  .apply Ya b 8 [rz,rB [(2,false)],rz] [true] (.c d (.c e .n))
  .apply Ya b 9 [rz,rB [(2,false)],rz] [false] (.c d (.c e (.c (show (4294967296:Int)≠0 from(by decide)) (.c (show (4294967296:Int)≠0 from(by decide)) .n))))
def Zdh(b:Zaf)(d e:Int):Option Int:=(Zgj b).bind fun g=>(ZdX d g).bind fun h=>(ZcN e).bind fun i=>(ZfL h i).bind fun j=>some j
theorem ZlA(d:Zaf)(e g r:Int)(b:Zdh d e g=some r):Yo 48 [.agg (Zaf.c d),.one (.lit (.int .u64 e)),Yj g] (Yj r):=by
 refine Yv Tryz.func48 fun S0 w0=>?_;unfold Zdh at b;obtain⟨h,i,j,o,b⟩:=Yu b;obtain⟨p,t,u,v,b⟩:=Yu b;apply Ya b 4 [rz,rA [(2,aG (Zap.c h)),(3,.r (.one (.lit (.int .u64 i))) []),(5,aI p),(6,aI t)]] [] (.c (ZoS _ _ j) (.c (Ziq _ _ _ o) (.c (ZfP _ _ u) (.c (Zou _ _ _ v) .n))))
def Zcg(h:Int):Nat->Int->(List Zaa)->Zab->Zab->Zac->Option (Zab×(List Zaa))|0,_,_,_,_,_=>none|fu+1,g,b,j,d,i=>bif(decide (g<i.fN))then bif(!d.fWait)then(ZbP d (Zan.mk 6 h g)).bind fun e=>need ((b++([e.2.fPeer]:List Zaa)).length * 80<=140737488355328/\(b++([e.2.fPeer]:List Zaa)).length<=maxLen)<|Zcg h fu (Zar g 1) (b++([e.2.fPeer]:List Zaa)) j e.1 i else some (d,b)else some (d,b)
theorem Znc(S0:Nat->Prop)(w0:Zba)(A:Int):∀(v:Nat)(u:Int)(t:List Zaa)(b g:Zab)(h:Zac)(r:(Zab×(List Zaa))),Zcg A v u t b g h=some r->Yr 47 S0 w0 Tryz.f49 (.tup [(true,Zab.c r.1),(false,(cLs 10 Zaa.c Zaa.d) r.2)]) [1,1,1,0,1,0] ⟨[(1,(Yj A)),(4,.one (.ptr 4 0)),(6,.one (.ptr 6 0)),(7,.one (.ptr 7 0)),(8,.one (.osl 8 t.length)),(9,(Yj u))],[(8,.rows 44 10 t.length (Zam Zaa.c Zaa.d t)),(4,.box [cL 13 Zac.c Zac.d b.fGot,.lit (.int .i64 b.fAt),.lit (.int .i64 b.fOp.fKind),.lit (.int .i64 b.fOp.fLock),.lit (.int .i64 b.fOp.fLoc.fKind),.lit (.int .i64 b.fOp.fLoc.fShard),.lit (.int .i64 b.fOp.fLoc.fSlot),.lit (.int .i64 b.fOp.fOld),.lit (.int .i64 b.fOp.fNew),.lit (.int .i64 b.fOp.fVal.fN),.lit (.bool b.fOp.fVal.fPeer.fEnd.fAddr.fV6),.lit (.int .u64 b.fOp.fVal.fPeer.fEnd.fAddr.fHi),.lit (.int .u64 b.fOp.fVal.fPeer.fEnd.fAddr.fLo),.lit (.int .i64 b.fOp.fVal.fPeer.fEnd.fPort),.lit (.bool b.fOp.fVal.fPeer.fIn),.lit (.int .i64 b.fOp.fVal.fPeer.fSince),.lit (.int .i64 b.fOp.fVal.fPeer.fScore.fPoints),.lit (.int .i64 b.fOp.fVal.fPeer.fScore.fAt),.lit (.int .i64 b.fOp.fVal.fPeer.fPing),.lit (.int .i64 b.fOp.fVal.fPeer.fWork),cL 5 Zag.c Zag.d b.fOp.fVal.fBans,cL 7 Zad.c Zad.d b.fOp.fVal.fBook,.lit (.bool b.fOp.fMark),.lit (.bool b.fWait)]),(6,.box [cL 13 Zac.c Zac.d g.fGot,.lit (.int .i64 g.fAt),.lit (.int .i64 g.fOp.fKind),.lit (.int .i64 g.fOp.fLock),.lit (.int .i64 g.fOp.fLoc.fKind),.lit (.int .i64 g.fOp.fLoc.fShard),.lit (.int .i64 g.fOp.fLoc.fSlot),.lit (.int .i64 g.fOp.fOld),.lit (.int .i64 g.fOp.fNew),.lit (.int .i64 g.fOp.fVal.fN),.lit (.bool g.fOp.fVal.fPeer.fEnd.fAddr.fV6),.lit (.int .u64 g.fOp.fVal.fPeer.fEnd.fAddr.fHi),.lit (.int .u64 g.fOp.fVal.fPeer.fEnd.fAddr.fLo),.lit (.int .i64 g.fOp.fVal.fPeer.fEnd.fPort),.lit (.bool g.fOp.fVal.fPeer.fIn),.lit (.int .i64 g.fOp.fVal.fPeer.fSince),.lit (.int .i64 g.fOp.fVal.fPeer.fScore.fPoints),.lit (.int .i64 g.fOp.fVal.fPeer.fScore.fAt),.lit (.int .i64 g.fOp.fVal.fPeer.fPing),.lit (.int .i64 g.fOp.fVal.fPeer.fWork),cL 5 Zag.c Zag.d g.fOp.fVal.fBans,cL 7 Zad.c Zad.d g.fOp.fVal.fBook,.lit (.bool g.fOp.fMark),.lit (.bool g.fWait)]),(7,.box [.lit (.int .i64 h.fN),.lit (.bool h.fPeer.fEnd.fAddr.fV6),.lit (.int .u64 h.fPeer.fEnd.fAddr.fHi),.lit (.int .u64 h.fPeer.fEnd.fAddr.fLo),.lit (.int .i64 h.fPeer.fEnd.fPort),.lit (.bool h.fPeer.fIn),.lit (.int .i64 h.fPeer.fSince),.lit (.int .i64 h.fPeer.fScore.fPoints),.lit (.int .i64 h.fPeer.fScore.fAt),.lit (.int .i64 h.fPeer.fPing),.lit (.int .i64 h.fPeer.fWork),cL 5 Zag.c Zag.d h.fBans,cL 7 Zad.c Zad.d h.fBook])]⟩:=by
 intro v;induction v with
 |zero=>
  intro u t b g h r o;simp[Zcg]at o
 |succ v D=>
  intro u t b g h r o;unfold Zcg at o;obtain⟨y,o⟩|⟨y,o⟩:=Zaj o
  .obtain⟨z,o⟩|⟨z,o⟩:=Zaj o
   .obtain⟨p,E,o⟩:=Zae o;obtain⟨B,o⟩:=Zat o;exact Ye 16 [rB [(4,true)],rA [(4,.r (.tup [(true,Zab.c p.1),(true,Zac.c p.2)]) [])],rz,⟨[(4,.c ((t++([p.2.fPeer]:List Zaa)).length) (Zam Zaa.c Zaa.d (t++([p.2.fPeer]:List Zaa))))],[],[],[],[],[(3,(([p.2.fPeer]:List Zaa).length,Zam Zaa.c Zaa.d ([p.2.fPeer]:List Zaa)))],[]⟩,rz] [true] ⟨[],[],[],[],[],[1,4,6,7,8,9],[44,4,6,7],[(44,8)]⟩ (.c y (.c z (.c (Zgp _ _ _ E) (.c (show ([p.2.fPeer]:List Zaa).length=1/\∀i j,i<1->j<10->Zam Zaa.c Zaa.d ([p.2.fPeer]:List Zaa) i j=(([p.2.fPeer]:List Zaa).flatMap Zaa.c).getD (i * 10+j) .junk from⟨rfl,fun i j hi hj=>Zbh (sz:=10) (e:=Zaa.c) (d:=Zaa.d) (fun _=>rfl) ([p.2.fPeer]:List Zaa) i j hi hj⟩) (.c (Zgn (sz:=10) (e:=Zaa.c) (d:=Zaa.d) t ([p.2.fPeer]:List Zaa)) (.c B.1 (.c B.2 .n))))))) (D (Zar u 1) (t++([p.2.fPeer]:List Zaa)) b p.1 h r o)
   .apply Yb o 8 [rB [(4,true)],rz] [false] [8] [] [] (.c y (.c z .n))
  .apply Yb o 8 [rB [(4,false)],rz] [false] [8] [] [] (.c y (.c (show false=false from rfl) .n))
def Zcq(e:Zab)(b:Int):Option (Zab×(List Zaa)):=(ZbP e (Zan.mk 5 b 0)).bind fun d=>Zcg b 1000000 (0:Int) ([]:List Zaa) (Zab.mk ([]:(List Zac)) 0 (Zas.mk 0 0 (Zan.mk 0 0 0) 0 0 (Zac.mk 0 (Zaa.mk (Zah.mk (Zaf.mk false 0 0) 0) false 0 (Zau.mk 0 0) 0 0) ([]:(List Zag)) ([]:(List Zad))) false) false) d.1 d.2
theorem ZkE(o:Zab)(h:Int)(r:(Zab×(List Zaa)))(b:Zcq o h=some r):Yo 49 [.agg (Zab.c o),Yj h] (.tup [(true,Zab.c r.1),(false,(cLs 10 Zaa.c Zaa.d) r.2)]):=by
 refine Yv Tryz.func49 fun S0 w0=>?_;unfold Zcq at b;obtain⟨g,p,b⟩:=Zae b;exact Ye 10 [rz,rA [(3,.r (.tup [(true,Zab.c g.1),(true,Zac.c g.2)]) [])],rA [(0,.c ([]:List Zaa).length (Zam Zaa.c Zaa.d ([]:List Zaa)))],rz] [] ⟨[],[(4,[(0,cL 13 Zac.c Zac.d []),(20,cL 5 Zag.c Zag.d []),(21,cL 7 Zad.c Zad.d [])])],[],[],[],[1,4,6,7,8,9],[19,4,6,7],[(19,8)]⟩ (.c (Zgp _ _ _ p) (.c (show ([]:List Zaa).length=0 from rfl) (.c (show ∀i j,i<0->j<10->Zam Zaa.c Zaa.d ([]:List Zaa) i j=(([]:List Zaa).flatMap Zaa.c).getD (i * 10+j) .junk from(fun i j hi hj=>Zbh (sz:=10) (e:=Zaa.c) (d:=Zaa.d) (fun _=>rfl) ([]:List Zaa) i j hi hj)) .n))) (Znc S0 w0 h 1000000 (0:Int) ([]:List Zaa) (Zab.mk ([]:(List Zac)) 0 (Zas.mk 0 0 (Zan.mk 0 0 0) 0 0 (Zac.mk 0 (Zaa.mk (Zah.mk (Zaf.mk false 0 0) 0) false 0 (Zau.mk 0 0) 0 0) ([]:(List Zag)) ([]:(List Zad))) false) false) g.1 g.2 r b)
def ZcF(e:List Zaa):Nat->Int->Zah->Option Int|0,_,_=>none|fu+1,b,g=>bif(decide (b<(e.length:Int)))then need (0<=b/\b<(e.length:Int))<|bif(decide ((e.getD b.toNat Zaa.d).fEnd=g))then some b else ZcF e fu (Zar b 1) g else some (-1:Int)
theorem Zmz(S0:Nat->Prop)(w0:Zba)(h:List Zaa):∀(i:Nat)(g:Int)(e:Zah)(r:Int),ZcF h i g e=some r->Yr 20 S0 w0 Tryz.f39 (Yj r) [1,0,1,0] ⟨[(0,(Ym h)),(3,.one (.ptr 3 0)),(5,(Yj g))],[(3,.box [.lit (.bool e.fAddr.fV6),.lit (.int .u64 e.fAddr.fHi),.lit (.int .u64 e.fAddr.fLo),.lit (.int .i64 e.fPort)])]⟩:=by
 intro i;induction i with
 |zero=>
  intro g e r b;simp[ZcF]at b
 |succ i p=>
  intro g e r b;unfold ZcF at b;obtain⟨j,b⟩|⟨j,b⟩:=Zaj b
  .obtain⟨o2,b⟩:=Zat b
   let R1:List RA:=[rz,rA [(6,aB (decide ((h.getD g.toNat Zaa.d).fEnd=e)))],rz]
   have O2:Obl _:=(.c j (.c o2 (.c (Zkz ((h.getD g.toNat Zaa.d).fEnd) e (.tmp 16) (.tmp 17)) .n)));obtain⟨o,b⟩|⟨o,b⟩:=Zaj b
   .apply Ya b 13 R1 [true,true] (O2.app (.c o .n))
   .exact Ye 15 R1 [true,false] ⟨[],[],[],[],[],[0,3,5],[3],[]⟩ (O2.app (.c o .n)) (p (Zar g 1) e r b)
  .apply Ya b 8 [rz,rz] [false] (.c j .n)
def Zcx(b:List Zaa)(d:Zah):Option Int:=ZcF b (((b.length:Int)-(0:Int)).toNat+2) (0:Int) d
theorem ZhD(b:List Zaa)(d:Zah)(r:Int)(e:Zcx b d=some r):Yo 39 [Ym b,.agg (Zah.c d)] (Yj r):=by
 refine Yv Tryz.func39 fun S0 w0=>?_;unfold Zcx at e;exact Ye 6 [rz,rz] [] ⟨[],[],[],[],[],[0,3,5],[3],[]⟩ .n (Zmz S0 w0 b (((b.length:Int)-(0:Int)).toNat+2) (0:Int) d r e)
def Zgg(d:Zab)(e g h:Int)(i:Bool):Option (Zab×Bool):=(ZcD d (Zas.mk 7 0 (Zan.mk e 0 0) g h (Zac.mk 0 (Zaa.mk (Zah.mk (Zaf.mk false 0 0) 0) false 0 (Zau.mk 0 0) 0 0) ([]:(List Zag)) ([]:(List Zad))) i)).bind fun b=>some (b.1,(b.2.fN==(1:Int)))
theorem ZoM(e:Zab)(g h i:Int)(j:Bool)(r:(Zab×Bool))(b:Zgg e g h i j=some r):Yo 112 [.agg (Zab.c e),Yj g,Yj h,Yj i,Yk j] (.tup [(true,Zab.c r.1),(false,cB r.2)]):=by
 refine Yv Tryz.func112 fun S0 w0=>?_;unfold Zgg at b;obtain⟨o,p,b⟩:=Zae b;apply Ya b 6 [rz,⟨[(7,.r (.tup [(true,Zab.c o.1),(true,Zac.c o.2)]) [])],[],[],[],[(6,[(18,cL 5 Zag.c Zag.d []),(19,cL 7 Zad.c Zad.d [])])],[],[]⟩,rz] [] (.c (ZgF _ _ _ p) .n)
def ZbN(g:Int)(h:Bool):Nat->Zab->Zab->Option (Zab×Bool)|0,_,_=>none|fu+1,d,i=>bif(!d.fWait)then(ZbP d (Zan.mk 1 0 0)).bind fun b=>bif b.1.fWait then some (b.1,false)else bif(decide (b.2.fN>=g))then some (b.1,false)else(Zgg b.1 (1:Int) b.2.fN (Zar b.2.fN (1:Int)) h).bind fun e=>bif e.2 then some (e.1,true)else ZbN g h fu e.1 i else some (d,false)
theorem ZlE(S0:Nat->Prop)(w0:Zba)(u:Int)(v:Bool):∀(h:Nat)(e b:Zab)(r:(Zab×Bool)),ZbN u v h e b=some r->Yr 45 S0 w0 Tryz.f50 (.tup [(true,Zab.c r.1),(false,cB r.2)]) [1,0,0] ⟨[(1,(Yj u)),(2,(Yk v)),(3,.one (.ptr 3 0)),(6,.one (.ptr 6 0))],[(3,.box [cL 13 Zac.c Zac.d e.fGot,.lit (.int .i64 e.fAt),.lit (.int .i64 e.fOp.fKind),.lit (.int .i64 e.fOp.fLock),.lit (.int .i64 e.fOp.fLoc.fKind),.lit (.int .i64 e.fOp.fLoc.fShard),.lit (.int .i64 e.fOp.fLoc.fSlot),.lit (.int .i64 e.fOp.fOld),.lit (.int .i64 e.fOp.fNew),.lit (.int .i64 e.fOp.fVal.fN),.lit (.bool e.fOp.fVal.fPeer.fEnd.fAddr.fV6),.lit (.int .u64 e.fOp.fVal.fPeer.fEnd.fAddr.fHi),.lit (.int .u64 e.fOp.fVal.fPeer.fEnd.fAddr.fLo),.lit (.int .i64 e.fOp.fVal.fPeer.fEnd.fPort),.lit (.bool e.fOp.fVal.fPeer.fIn),.lit (.int .i64 e.fOp.fVal.fPeer.fSince),.lit (.int .i64 e.fOp.fVal.fPeer.fScore.fPoints),.lit (.int .i64 e.fOp.fVal.fPeer.fScore.fAt),.lit (.int .i64 e.fOp.fVal.fPeer.fPing),.lit (.int .i64 e.fOp.fVal.fPeer.fWork),cL 5 Zag.c Zag.d e.fOp.fVal.fBans,cL 7 Zad.c Zad.d e.fOp.fVal.fBook,.lit (.bool e.fOp.fMark),.lit (.bool e.fWait)]),(6,.box [cL 13 Zac.c Zac.d b.fGot,.lit (.int .i64 b.fAt),.lit (.int .i64 b.fOp.fKind),.lit (.int .i64 b.fOp.fLock),.lit (.int .i64 b.fOp.fLoc.fKind),.lit (.int .i64 b.fOp.fLoc.fShard),.lit (.int .i64 b.fOp.fLoc.fSlot),.lit (.int .i64 b.fOp.fOld),.lit (.int .i64 b.fOp.fNew),.lit (.int .i64 b.fOp.fVal.fN),.lit (.bool b.fOp.fVal.fPeer.fEnd.fAddr.fV6),.lit (.int .u64 b.fOp.fVal.fPeer.fEnd.fAddr.fHi),.lit (.int .u64 b.fOp.fVal.fPeer.fEnd.fAddr.fLo),.lit (.int .i64 b.fOp.fVal.fPeer.fEnd.fPort),.lit (.bool b.fOp.fVal.fPeer.fIn),.lit (.int .i64 b.fOp.fVal.fPeer.fSince),.lit (.int .i64 b.fOp.fVal.fPeer.fScore.fPoints),.lit (.int .i64 b.fOp.fVal.fPeer.fScore.fAt),.lit (.int .i64 b.fOp.fVal.fPeer.fPing),.lit (.int .i64 b.fOp.fVal.fPeer.fWork),cL 5 Zag.c Zag.d b.fOp.fVal.fBans,cL 7 Zad.c Zad.d b.fOp.fVal.fBook,.lit (.bool b.fOp.fMark),.lit (.bool b.fWait)])]⟩:=by
 intro h;induction h with
 |zero=>
  intro e b r g;simp[ZbN]at g
 |succ h z=>
  intro e b r g;unfold ZbN at g;obtain⟨j,g⟩|⟨j,g⟩:=Zaj g
  .obtain⟨y,A,g⟩:=Zae g
   let R1:List RA:=[rz,rA [(2,.r (.tup [(true,Zab.c y.1),(true,Zac.c y.2)]) [])]]
   have O2:Obl _:=(.c j (.c (Zgp _ _ _ A) .n));obtain⟨i,g⟩|⟨i,g⟩:=Zaj g
   .apply Ya g 15 (R1++[rB [(2,true)],rz]) [true,true] (O2.app (.c i (.c (show true=true from rfl) .n)))
   .obtain⟨o,g⟩|⟨o,g⟩:=Zaj g
    .apply Ya g 15 (R1++[rB [(2,false)],rz]) [true,true] (O2.app (.c i (.c o .n)))
    .obtain⟨p,B,g⟩:=Zae g
     let R3:List RA:=(R1++[rB [(2,false)],rA [(7,.r (.tup [(true,Zab.c p.1),(false,cB p.2)]) [])],rz,rz])
     have O4:Obl _:=(O2.app (.c i (.c o (.c (ZoM _ _ _ _ _ _ B) .n))));obtain⟨t,g⟩|⟨t,g⟩:=Zaj g
     .apply Ya g 23 (R3++[rz]) [true,false,true] (O4.app (.c t .n))
     .exact Ye 24 R3 [true,false,false] ⟨[],[],[],[],[],[1,2,3,6],[3,6],[]⟩ (O4.app (.c t .n)) (z p.1 b r g)
  .apply Ya g 8 [rz,rz] [false] (.c j .n)
def Zbw(b:Zab)(d:Int)(e:Bool):Option (Zab×Bool):=ZbN d e 1000000 b (Zab.mk ([]:(List Zac)) 0 (Zas.mk 0 0 (Zan.mk 0 0 0) 0 0 (Zac.mk 0 (Zaa.mk (Zah.mk (Zaf.mk false 0 0) 0) false 0 (Zau.mk 0 0) 0 0) ([]:(List Zag)) ([]:(List Zad))) false) false)
theorem ZgT(b:Zab)(e:Int)(g:Bool)(r:(Zab×Bool))(h:Zbw b e g=some r):Yo 50 [.agg (Zab.c b),Yj e,Yk g] (.tup [(true,Zab.c r.1),(false,cB r.2)]):=by
 refine Yv Tryz.func50 fun S0 w0=>?_;unfold Zbw at h;exact Ye 4 [rz] [] ⟨[],[(6,[(0,cL 13 Zac.c Zac.d []),(20,cL 5 Zag.c Zag.d []),(21,cL 7 Zad.c Zad.d [])])],[],[],[],[1,2,3,6],[3,6],[]⟩ .n (ZlE S0 w0 e g 1000000 b (Zab.mk ([]:(List Zac)) 0 (Zas.mk 0 0 (Zan.mk 0 0 0) 0 0 (Zac.mk 0 (Zaa.mk (Zah.mk (Zaf.mk false 0 0) 0) false 0 (Zau.mk 0 0) 0 0) ([]:(List Zag)) ([]:(List Zad))) false) false) r h)
def ZgK(b:Int):Option Int:=bif(decide (b<(0:Int)))then some (0:Int)else bif(decide (b>(1099511627776:Int)))then some (1099511627776:Int)else some b
theorem Zpr(g r:Int)(b:ZgK g=some r):Yo 149 [Yj g] (Yj r):=by
 refine Yv Tryz.func149 fun S0 w0=>?_;unfold ZgK at b;obtain⟨d,b⟩|⟨d,b⟩:=Zaj b
 .apply Ya b 8 [rz,rz,rz] [true] (.c d .n)
 .obtain⟨e,b⟩|⟨e,b⟩:=Zaj b
  .apply Ya b 13 [rz,rz,rz,rz] [false,true] (.c d (.c e .n))
  .apply Ya b 14 [rz,rz,rz,rz] [false,false] (.c d (.c e .n))
def ZgI(d:Zah)(e:Bool)(g:Int):Option Zaa:=(ZgK g).bind fun b=>some (Zaa.mk d e b (Zau.mk 0 b) 0 0)
theorem Zpp(d:Zah)(e:Bool)(g:Int)(r:Zaa)(b:ZgI d e g=some r):Yo 115 [.agg (Zah.c d),Yk e,Yj g] (.agg (Zaa.c r)):=by
 refine Yv Tryz.func115 fun S0 w0=>?_;unfold ZgI at b;obtain⟨h,i,b⟩:=Zae b;apply Ya b 6 [rz,rA [(1,aI h)],rz] [] (.c (Zpr _ _ i) .n)
def ZbJ(b:List Zaa)(e:Zaz):Option (List Zaa):=need ((([]:List Zaa)++b).length * 80<=140737488355328/\(([]:List Zaa)++b).length<=maxLen)<|(ZgI e.fEnd true e.fNow).bind fun d=>need (((([]:List Zaa)++b)++([d]:List Zaa)).length * 80<=140737488355328/\((([]:List Zaa)++b)++([d]:List Zaa)).length<=maxLen)<|some ((([]:List Zaa)++b)++([d]:List Zaa))
theorem Zoj(g:List Zaa)(o:Zaz)(r:List Zaa)(h:ZbJ g o=some r):Yp 52 [] [Ym g,.agg (Zaz.c o)] [(99999,.rows 44 10 r.length (Zam Zaa.c Zaa.d r))] (.one (.osl 99999 r.length)):=by
 refine Yw Tryz.func52 fun S0 w0=>?_;unfold ZbJ at h;obtain⟨o1,h⟩:=Zat h;obtain⟨b,t,h⟩:=Zae h;obtain⟨p,h⟩:=Zat h;apply Yc h 4 [rz,⟨[(0,.c ([]:List Zaa).length (Zam Zaa.c Zaa.d ([]:List Zaa))),(2,.c ((([]:List Zaa)++g).length) (Zam Zaa.c Zaa.d (([]:List Zaa)++g))),(7,aG (Zaa.c b)),(9,.c (((([]:List Zaa)++g)++([b]:List Zaa)).length) (Zam Zaa.c Zaa.d ((([]:List Zaa)++g)++([b]:List Zaa))))],[],[],[],[],[(8,(([b]:List Zaa).length,Zam Zaa.c Zaa.d ([b]:List Zaa)))],[]⟩] [] ⟨[],[],[],[],[],[4],[14],[(14,99999)]⟩ (.c (show ([]:List Zaa).length=0 from rfl) (.c (show ∀i j,i<0->j<10->Zam Zaa.c Zaa.d ([]:List Zaa) i j=(([]:List Zaa).flatMap Zaa.c).getD (i * 10+j) .junk from(fun i j hi hj=>Zbh (sz:=10) (e:=Zaa.c) (d:=Zaa.d) (fun _=>rfl) ([]:List Zaa) i j hi hj)) (.c (Zgn (sz:=10) (e:=Zaa.c) (d:=Zaa.d) ([]:List Zaa) g) (.c o1.1 (.c o1.2 (.c (Zpp _ _ _ _ t) (.c (show ([b]:List Zaa).length=1/\∀i j,i<1->j<10->Zam Zaa.c Zaa.d ([b]:List Zaa) i j=(([b]:List Zaa).flatMap Zaa.c).getD (i * 10+j) .junk from⟨rfl,fun i j hi hj=>Zbh (sz:=10) (e:=Zaa.c) (d:=Zaa.d) (fun _=>rfl) ([b]:List Zaa) i j hi hj⟩) (.c (Zgn (sz:=10) (e:=Zaa.c) (d:=Zaa.d) (([]:List Zaa)++g) ([b]:List Zaa)) (.c p.1 (.c p.2 .n))))))))))
theorem Zfc(b:List Zaa)(d:Zaz)(r:List Zaa)(e:ZbJ b d=some r):Yo 52 [Ym b,.agg (Zaz.c d)] (Ym r):=(Zoj b d r e).pure
def ZbT(g h:List Zaa):Nat->Int->(List Int)->Option (List Int)|0,_,_=>none|fu+1,b,e=>bif(decide (b<(h.length:Int)))then bif(decide (b>=(g.length:Int)))then need ((e++([b]:List Int)).length * 8<=140737488355328/\(e++([b]:List Int)).length<=maxLen)<|ZbT g h fu (Zar b 1) (e++([b]:List Int))else need (0<=b/\b<(g.length:Int))<|need (0<=b/\b<(h.length:Int))<|bif(!(decide ((g.getD b.toNat Zaa.d)=(h.getD b.toNat Zaa.d))))then need ((e++([b]:List Int)).length * 8<=140737488355328/\(e++([b]:List Int)).length<=maxLen)<|ZbT g h fu (Zar b 1) (e++([b]:List Int))else ZbT g h fu (Zar b 1) e else some e
theorem Zmj(S0:Nat->Prop)(w0:Zba)(o p:List Zaa):∀(t:Nat)(b:Int)(h r:List Int),ZbT o p t b h=some r->Ys 34 S0 w0 Tryz.f113 [(99999,.rows 3 1 r.length (Zam (cI .i64) (0:Int) r))] (.one (.osl 99999 r.length)) [1,1,0,1,0] ⟨[(0,(Ym o)),(1,(Ym p)),(5,.one (.osl 5 h.length)),(6,(Yj b))],[(5,.rows 3 1 h.length (Zam (cI .i64) (0:Int) h))]⟩:=by
 intro t;induction t with
 |zero=>
  intro b h r g;simp[ZbT]at g
 |succ t v=>
  intro b h r g;unfold ZbT at g;obtain⟨u,g⟩|⟨u,g⟩:=Zaj g
  .obtain⟨y,g⟩|⟨y,g⟩:=Zaj g
   .obtain⟨A,g⟩:=Zat g;exact Ye 15 [rz,rB [(4,true)],⟨[(3,.c ((h++([b]:List Int)).length) (Zam (cI .i64) (0:Int) (h++([b]:List Int))))],[],[],[],[],[(2,(([b]:List Int).length,Zam (cI .i64) (0:Int) ([b]:List Int)))],[]⟩,rz] [true,true] ⟨[],[],[],[],[],[0,1,5,6],[32],[(32,5)]⟩ (.c u (.c y (.c (show true=true from rfl) (.c (show ([b]:List Int).length=1/\∀i j,i<1->j<1->Zam (cI .i64) (0:Int) ([b]:List Int) i j=(([b]:List Int).flatMap (cI .i64)).getD (i * 1+j) .junk from⟨rfl,fun i j hi hj=>Zbh (sz:=1) (e:=(cI .i64)) (d:=(0:Int)) (fun _=>rfl) ([b]:List Int) i j hi hj⟩) (.c (Zgn (sz:=1) (e:=(cI .i64)) (d:=(0:Int)) h ([b]:List Int)) (.c A.1 (.c A.2 .n))))))) (v (Zar b 1) (h++([b]:List Int)) r g)
   .obtain⟨D,g⟩:=Zat g;obtain⟨E,g⟩:=Zat g
    let R1:List RA:=[rz,⟨[(13,aB (!(decide ((o.getD b.toNat Zaa.d)=(p.getD b.toNat Zaa.d)))))],[(4,false)],[],[],[],[],[]⟩]
    have O2:Obl _:=(.c u (.c y (.c D (.c E (.c (ZmW (o.getD b.toNat Zaa.d) (p.getD b.toNat Zaa.d) (.tmp 22) (.tmp 26)) .n)))));obtain⟨z,g⟩|⟨z,g⟩:=Zaj g
    .obtain⟨B,g⟩:=Zat g;exact Ye 15 (R1++[⟨[(3,.c ((h++([b]:List Int)).length) (Zam (cI .i64) (0:Int) (h++([b]:List Int))))],[],[],[],[],[(2,(([b]:List Int).length,Zam (cI .i64) (0:Int) ([b]:List Int)))],[]⟩,rz]) [true,true] ⟨[],[],[],[],[],[0,1,5,6],[32],[(32,5)]⟩ (O2.app (.c z (.c (show ([b]:List Int).length=1/\∀i j,i<1->j<1->Zam (cI .i64) (0:Int) ([b]:List Int) i j=(([b]:List Int).flatMap (cI .i64)).getD (i * 1+j) .junk from⟨rfl,fun i j hi hj=>Zbh (sz:=1) (e:=(cI .i64)) (d:=(0:Int)) (fun _=>rfl) ([b]:List Int) i j hi hj⟩) (.c (Zgn (sz:=1) (e:=(cI .i64)) (d:=(0:Int)) h ([b]:List Int)) (.c B.1 (.c B.2 .n)))))) (v (Zar b 1) (h++([b]:List Int)) r g)
    .exact Ye 15 (R1++[rz]) [true,false] ⟨[],[],[],[],[],[0,1,5,6],[5],[]⟩ (O2.app (.c z .n)) (v (Zar b 1) h r g)
  .apply Yc g 8 [rz,rz] [false] ⟨[],[],[],[],[],[4],[5],[(5,99999)]⟩ (.c u .n)
def Zft(d b:List Zaa):Option (List Int):=ZbT d b (((b.length:Int)-(0:Int)).toNat+2) (0:Int) ([]:List Int)
theorem Zne(g b:List Zaa)(r:List Int)(h:Zft g b=some r):Yp 113 [] [Ym g,Ym b] [(99999,.rows 3 1 r.length (Zam (cI .i64) (0:Int) r))] (.one (.osl 99999 r.length)):=by
 refine Yw Tryz.func113 fun S0 w0=>?_;unfold Zft at h;exact Ye 8 [rz,rA [(0,.c ([]:List Int).length (Zam (cI .i64) (0:Int) ([]:List Int)))],rz] [] ⟨[],[],[],[],[],[0,1,5,6],[7],[(7,5)]⟩ (.c (show ([]:List Int).length=0 from rfl) (.c (show ∀i j,i<0->j<1->Zam (cI .i64) (0:Int) ([]:List Int) i j=(([]:List Int).flatMap (cI .i64)).getD (i * 1+j) .junk from(fun i j hi hj=>Zbh (sz:=1) (e:=(cI .i64)) (d:=(0:Int)) (fun _=>rfl) ([]:List Int) i j hi hj)) .n)) (Zmj S0 w0 g b (((b.length:Int)-(0:Int)).toNat+2) (0:Int) ([]:List Int) r h)
theorem ZnM(b d:List Zaa)(r:List Int)(e:Zft b d=some r):Yo 113 [Ym b,Ym d] (.one (cL 1 (cI .i64) (0:Int) r)):=(Zne b d r e).pure
def Zcw(b:Zab)(d:Zan)(e:Zac)(g:Bool):Option Zab:=(ZcD b (Zas.mk 6 0 d 0 0 e g)).bind fun h=>some h.1
theorem Zkk(d:Zab)(e:Zan)(g:Zac)(h:Bool)(r:Zab)(b:Zcw d e g h=some r):Yo 114 [.agg (Zab.c d),.agg (Zan.c e),.agg (Zac.c g),Yk h] (.agg (Zab.c r)):=by
 refine Yv Tryz.func114 fun S0 w0=>?_;unfold Zcw at b;obtain⟨i,j,b⟩:=Zae b;apply Ya b 6 [rz,rA [(5,.r (.tup [(true,Zab.c i.1),(true,Zac.c i.2)]) [])],rz] [] (.c (ZgF _ _ _ j) .n)
def Zbl(h:Int)(j g:List Zaa):Nat->(List Int)->Int->Zab->Zab->Option Zab|0,_,_,_,_=>none|fu+1,e,b,i,n=>bif(decide (b<(e.length:Int)))then need (0<=b/\b<(e.length:Int))<|need (0<=(e.getD b.toNat (0:Int))/\(e.getD b.toNat (0:Int))<(g.length:Int))<|(Zcw i (Zan.mk 6 h (e.getD b.toNat (0:Int))) (Zac.mk 0 (g.getD (e.getD b.toNat (0:Int)).toNat Zaa.d) ([]:(List Zag)) ([]:(List Zad))) false).bind fun o=>Zbl h j g fu e (Zar b 1) o n else bif((j.length:Int) != (g.length:Int))then(Zcw i (Zan.mk 5 h 0) (Zac.mk (g.length:Int) (Zaa.mk (Zah.mk (Zaf.mk false 0 0) 0) false 0 (Zau.mk 0 0) 0 0) ([]:(List Zag)) ([]:(List Zad))) false).bind fun p=>some p else some i
theorem Zmx(S0:Nat->Prop)(w0:Zba)(t:Int)(u v:List Zaa):∀(j:Nat)(i:List Int)(h:Int)(e b r:Zab),Zbl t u v j i h e b=some r->Yr 49 S0 w0 Tryz.f51 (.agg (Zab.c r)) [1,1,0,1,0] ⟨[(1,(Yj t)),(2,(Ym u)),(3,(Ym v)),(4,.one (.ptr 4 0)),(8,.one (.ptr 8 0)),(9,.one (cL 1 (cI .i64) (0:Int) i)),(10,(Yj h))],[(4,.box [cL 13 Zac.c Zac.d e.fGot,.lit (.int .i64 e.fAt),.lit (.int .i64 e.fOp.fKind),.lit (.int .i64 e.fOp.fLock),.lit (.int .i64 e.fOp.fLoc.fKind),.lit (.int .i64 e.fOp.fLoc.fShard),.lit (.int .i64 e.fOp.fLoc.fSlot),.lit (.int .i64 e.fOp.fOld),.lit (.int .i64 e.fOp.fNew),.lit (.int .i64 e.fOp.fVal.fN),.lit (.bool e.fOp.fVal.fPeer.fEnd.fAddr.fV6),.lit (.int .u64 e.fOp.fVal.fPeer.fEnd.fAddr.fHi),.lit (.int .u64 e.fOp.fVal.fPeer.fEnd.fAddr.fLo),.lit (.int .i64 e.fOp.fVal.fPeer.fEnd.fPort),.lit (.bool e.fOp.fVal.fPeer.fIn),.lit (.int .i64 e.fOp.fVal.fPeer.fSince),.lit (.int .i64 e.fOp.fVal.fPeer.fScore.fPoints),.lit (.int .i64 e.fOp.fVal.fPeer.fScore.fAt),.lit (.int .i64 e.fOp.fVal.fPeer.fPing),.lit (.int .i64 e.fOp.fVal.fPeer.fWork),cL 5 Zag.c Zag.d e.fOp.fVal.fBans,cL 7 Zad.c Zad.d e.fOp.fVal.fBook,.lit (.bool e.fOp.fMark),.lit (.bool e.fWait)]),(8,.box [cL 13 Zac.c Zac.d b.fGot,.lit (.int .i64 b.fAt),.lit (.int .i64 b.fOp.fKind),.lit (.int .i64 b.fOp.fLock),.lit (.int .i64 b.fOp.fLoc.fKind),.lit (.int .i64 b.fOp.fLoc.fShard),.lit (.int .i64 b.fOp.fLoc.fSlot),.lit (.int .i64 b.fOp.fOld),.lit (.int .i64 b.fOp.fNew),.lit (.int .i64 b.fOp.fVal.fN),.lit (.bool b.fOp.fVal.fPeer.fEnd.fAddr.fV6),.lit (.int .u64 b.fOp.fVal.fPeer.fEnd.fAddr.fHi),.lit (.int .u64 b.fOp.fVal.fPeer.fEnd.fAddr.fLo),.lit (.int .i64 b.fOp.fVal.fPeer.fEnd.fPort),.lit (.bool b.fOp.fVal.fPeer.fIn),.lit (.int .i64 b.fOp.fVal.fPeer.fSince),.lit (.int .i64 b.fOp.fVal.fPeer.fScore.fPoints),.lit (.int .i64 b.fOp.fVal.fPeer.fScore.fAt),.lit (.int .i64 b.fOp.fVal.fPeer.fPing),.lit (.int .i64 b.fOp.fVal.fPeer.fWork),cL 5 Zag.c Zag.d b.fOp.fVal.fBans,cL 7 Zad.c Zad.d b.fOp.fVal.fBook,.lit (.bool b.fOp.fMark),.lit (.bool b.fWait)])]⟩:=by
 intro j;induction j with
 |zero=>
  intro i h e b r g;simp[Zbl]at g
 |succ j A=>
  intro i h e b r g;unfold Zbl at g;obtain⟨o,g⟩|⟨o,g⟩:=Zaj g
  .obtain⟨y,B,g⟩:=Yt g;obtain⟨z,D,g⟩:=Zae g;exact Ye 12 [rz,⟨[(15,aG (Zab.c z))],[],[],[],[(14,[(11,cL 5 Zag.c Zag.d []),(12,cL 7 Zad.c Zad.d [])])],[],[]⟩,rz] [true] ⟨[],[],[],[],[],[1,2,3,4,8,9,10],[4,8],[]⟩ (.c o (.c y (.c y (.c B (.c (Zkk _ _ _ _ _ D) .n))))) (A i (Zar h 1) z b r g)
  .obtain⟨p,g⟩|⟨p,g⟩:=Zaj g
   .obtain⟨E,F,g⟩:=Zae g;apply Ya g 13 [rz,rz,⟨[(6,aG (Zab.c E))],[],[],[],[(5,[(11,cL 5 Zag.c Zag.d []),(12,cL 7 Zad.c Zad.d [])])],[],[]⟩,rz] [false,true] (.c o (.c p (.c (Zkk _ _ _ _ _ F) .n)))
   .apply Ya g 13 [rz,rz,rz] [false,false] (.c o (.c p .n))
def ZaY(g:Zab)(h:Int)(b d:List Zaa):Option Zab:=(Zft b d).bind fun e=>Zbl h b d (((e.length:Int)-(0:Int)).toNat+2) e (0:Int) g (Zab.mk ([]:(List Zac)) 0 (Zas.mk 0 0 (Zan.mk 0 0 0) 0 0 (Zac.mk 0 (Zaa.mk (Zah.mk (Zaf.mk false 0 0) 0) false 0 (Zau.mk 0 0) 0 0) ([]:(List Zag)) ([]:(List Zad))) false) false)
theorem Zdb(e:Zab)(g:Int)(h i:List Zaa)(r:Zab)(b:ZaY e g h i=some r):Yo 51 [.agg (Zab.c e),Yj g,Ym h,Ym i] (.agg (Zab.c r)):=by
 refine Yv Tryz.func51 fun S0 w0=>?_;unfold ZaY at b;obtain⟨j,o,b⟩:=Zae b;exact Ye 8 [rz,rA [(2,.r (.one (cL 1 (cI .i64) (0:Int) j)) [])],rz] [] ⟨[],[(8,[(0,cL 13 Zac.c Zac.d []),(20,cL 5 Zag.c Zag.d []),(21,cL 7 Zad.c Zad.d [])])],[],[],[],[1,2,3,4,8,9,10],[4,8],[]⟩ (.c (ZnM _ _ _ o) .n) (Zmx S0 w0 g h i (((j.length:Int)-(0:Int)).toNat+2) j (0:Int) e (Zab.mk ([]:(List Zac)) 0 (Zas.mk 0 0 (Zan.mk 0 0 0) 0 0 (Zac.mk 0 (Zaa.mk (Zah.mk (Zaf.mk false 0 0) 0) false 0 (Zau.mk 0 0) 0 0) ([]:(List Zag)) ([]:(List Zad))) false) false) r b)
def ZbF(d:Int):Nat->Int->Zab->Zab->Option Zab|0,_,_,_=>none|fu+1,b,e,g=>(ZcN d).bind fun h=>bif(decide (b<h))then(ZaB e (1:Int) (Zar (2:Int) b) false).bind fun i=>ZbF d fu (Zar b 1) i g else some e
theorem ZlF(S0:Nat->Prop)(w0:Zba)(o:Int):∀(i:Nat)(h:Int)(e b r:Zab),ZbF o i h e b=some r->Yr 17 S0 w0 Tryz.f116 (.agg (Zab.c r)) [1,0,1,0] ⟨[(1,(Yj o)),(2,.one (.ptr 2 0)),(4,.one (.ptr 4 0)),(5,(Yj h))],[(2,.box [cL 13 Zac.c Zac.d e.fGot,.lit (.int .i64 e.fAt),.lit (.int .i64 e.fOp.fKind),.lit (.int .i64 e.fOp.fLock),.lit (.int .i64 e.fOp.fLoc.fKind),.lit (.int .i64 e.fOp.fLoc.fShard),.lit (.int .i64 e.fOp.fLoc.fSlot),.lit (.int .i64 e.fOp.fOld),.lit (.int .i64 e.fOp.fNew),.lit (.int .i64 e.fOp.fVal.fN),.lit (.bool e.fOp.fVal.fPeer.fEnd.fAddr.fV6),.lit (.int .u64 e.fOp.fVal.fPeer.fEnd.fAddr.fHi),.lit (.int .u64 e.fOp.fVal.fPeer.fEnd.fAddr.fLo),.lit (.int .i64 e.fOp.fVal.fPeer.fEnd.fPort),.lit (.bool e.fOp.fVal.fPeer.fIn),.lit (.int .i64 e.fOp.fVal.fPeer.fSince),.lit (.int .i64 e.fOp.fVal.fPeer.fScore.fPoints),.lit (.int .i64 e.fOp.fVal.fPeer.fScore.fAt),.lit (.int .i64 e.fOp.fVal.fPeer.fPing),.lit (.int .i64 e.fOp.fVal.fPeer.fWork),cL 5 Zag.c Zag.d e.fOp.fVal.fBans,cL 7 Zad.c Zad.d e.fOp.fVal.fBook,.lit (.bool e.fOp.fMark),.lit (.bool e.fWait)]),(4,.box [cL 13 Zac.c Zac.d b.fGot,.lit (.int .i64 b.fAt),.lit (.int .i64 b.fOp.fKind),.lit (.int .i64 b.fOp.fLock),.lit (.int .i64 b.fOp.fLoc.fKind),.lit (.int .i64 b.fOp.fLoc.fShard),.lit (.int .i64 b.fOp.fLoc.fSlot),.lit (.int .i64 b.fOp.fOld),.lit (.int .i64 b.fOp.fNew),.lit (.int .i64 b.fOp.fVal.fN),.lit (.bool b.fOp.fVal.fPeer.fEnd.fAddr.fV6),.lit (.int .u64 b.fOp.fVal.fPeer.fEnd.fAddr.fHi),.lit (.int .u64 b.fOp.fVal.fPeer.fEnd.fAddr.fLo),.lit (.int .i64 b.fOp.fVal.fPeer.fEnd.fPort),.lit (.bool b.fOp.fVal.fPeer.fIn),.lit (.int .i64 b.fOp.fVal.fPeer.fSince),.lit (.int .i64 b.fOp.fVal.fPeer.fScore.fPoints),.lit (.int .i64 b.fOp.fVal.fPeer.fScore.fAt),.lit (.int .i64 b.fOp.fVal.fPeer.fPing),.lit (.int .i64 b.fOp.fVal.fPeer.fWork),cL 5 Zag.c Zag.d b.fOp.fVal.fBans,cL 7 Zad.c Zad.d b.fOp.fVal.fBook,.lit (.bool b.fOp.fMark),.lit (.bool b.fWait)])]⟩:=by
 intro i;induction i with
 |zero=>
  intro h e b r g;simp[ZbF]at g
 |succ i v=>
  intro h e b r g;unfold ZbF at g;obtain⟨p,t,g⟩:=Zae g;obtain⟨j,g⟩|⟨j,g⟩:=Zaj g
  .obtain⟨u,y,g⟩:=Zae g;exact Ye 12 [rA [(2,aI p)],rA [(3,aG (Zab.c u))],rz] [true] ⟨[],[],[],[],[],[1,2,4,5],[2,4],[]⟩ (.c (ZfP _ _ t) (.c j (.c (Zbi _ _ _ _ _ y) .n))) (v (Zar h 1) u b r g)
  .apply Ya g 8 [rA [(2,aI p)],rz] [false] (.c (ZfP _ _ t) (.c j .n))
def ZcL(b:Zab)(d:Int):Option Zab:=ZbF d 1000000 (0:Int) b (Zab.mk ([]:(List Zac)) 0 (Zas.mk 0 0 (Zan.mk 0 0 0) 0 0 (Zac.mk 0 (Zaa.mk (Zah.mk (Zaf.mk false 0 0) 0) false 0 (Zau.mk 0 0) 0 0) ([]:(List Zag)) ([]:(List Zad))) false) false)
theorem Znd(b:Zab)(e:Int)(r:Zab)(g:ZcL b e=some r):Yo 116 [.agg (Zab.c b),Yj e] (.agg (Zab.c r)):=by
 refine Yv Tryz.func116 fun S0 w0=>?_;unfold ZcL at g;exact Ye 6 [rz,rz] [] ⟨[],[(4,[(0,cL 13 Zac.c Zac.d []),(20,cL 5 Zag.c Zag.d []),(21,cL 7 Zad.c Zad.d [])])],[],[],[],[1,2,4,5],[2,4],[]⟩ .n (ZlF S0 w0 e 1000000 (0:Int) b (Zab.mk ([]:(List Zac)) 0 (Zas.mk 0 0 (Zan.mk 0 0 0) 0 0 (Zac.mk 0 (Zaa.mk (Zah.mk (Zaf.mk false 0 0) 0) false 0 (Zau.mk 0 0) 0 0) ([]:(List Zag)) ([]:(List Zad))) false) false) r g)
def Zcd(g:Int):Nat->Int->(List (List Zaa))->Zab->Zab->Option (Zab×(List (List Zaa)))|0,_,_,_,_=>none|fu+1,e,b,h,i=>bif(decide (e<g))then(Zcq h e).bind fun d=>need ((b++([d.2]:List (List Zaa))).length * 24<=140737488355328/\(b++([d.2]:List (List Zaa))).length<=maxLen)<|Zcd g fu (Zar e 1) (b++([d.2]:List (List Zaa))) d.1 i else some (h,b)
theorem ZnJ(S0:Nat->Prop)(w0:Zba)(y:Int):∀(u:Nat)(t:Int)(p:(List (List Zaa)))(g b:Zab)(r:(Zab×(List (List Zaa)))),Zcd y u t p g b=some r->Ys 29 S0 w0 Tryz.f117 [(99999,.rows 54 1 r.2.length (Zam (cLs 10 Zaa.c Zaa.d) ([]:(List Zaa)) r.2))] (.tup [(true,Zab.c r.1),(false,[.osl 99999 r.2.length])]) [1,1,0,1,0] ⟨[(1,(Yj y)),(2,.one (.ptr 2 0)),(4,.one (.ptr 4 0)),(6,.one (.osl 6 p.length)),(7,(Yj t))],[(6,.rows 54 1 p.length (Zam (cLs 10 Zaa.c Zaa.d) ([]:(List Zaa)) p)),(2,.box [cL 13 Zac.c Zac.d g.fGot,.lit (.int .i64 g.fAt),.lit (.int .i64 g.fOp.fKind),.lit (.int .i64 g.fOp.fLock),.lit (.int .i64 g.fOp.fLoc.fKind),.lit (.int .i64 g.fOp.fLoc.fShard),.lit (.int .i64 g.fOp.fLoc.fSlot),.lit (.int .i64 g.fOp.fOld),.lit (.int .i64 g.fOp.fNew),.lit (.int .i64 g.fOp.fVal.fN),.lit (.bool g.fOp.fVal.fPeer.fEnd.fAddr.fV6),.lit (.int .u64 g.fOp.fVal.fPeer.fEnd.fAddr.fHi),.lit (.int .u64 g.fOp.fVal.fPeer.fEnd.fAddr.fLo),.lit (.int .i64 g.fOp.fVal.fPeer.fEnd.fPort),.lit (.bool g.fOp.fVal.fPeer.fIn),.lit (.int .i64 g.fOp.fVal.fPeer.fSince),.lit (.int .i64 g.fOp.fVal.fPeer.fScore.fPoints),.lit (.int .i64 g.fOp.fVal.fPeer.fScore.fAt),.lit (.int .i64 g.fOp.fVal.fPeer.fPing),.lit (.int .i64 g.fOp.fVal.fPeer.fWork),cL 5 Zag.c Zag.d g.fOp.fVal.fBans,cL 7 Zad.c Zad.d g.fOp.fVal.fBook,.lit (.bool g.fOp.fMark),.lit (.bool g.fWait)]),(4,.box [cL 13 Zac.c Zac.d b.fGot,.lit (.int .i64 b.fAt),.lit (.int .i64 b.fOp.fKind),.lit (.int .i64 b.fOp.fLock),.lit (.int .i64 b.fOp.fLoc.fKind),.lit (.int .i64 b.fOp.fLoc.fShard),.lit (.int .i64 b.fOp.fLoc.fSlot),.lit (.int .i64 b.fOp.fOld),.lit (.int .i64 b.fOp.fNew),.lit (.int .i64 b.fOp.fVal.fN),.lit (.bool b.fOp.fVal.fPeer.fEnd.fAddr.fV6),.lit (.int .u64 b.fOp.fVal.fPeer.fEnd.fAddr.fHi),.lit (.int .u64 b.fOp.fVal.fPeer.fEnd.fAddr.fLo),.lit (.int .i64 b.fOp.fVal.fPeer.fEnd.fPort),.lit (.bool b.fOp.fVal.fPeer.fIn),.lit (.int .i64 b.fOp.fVal.fPeer.fSince),.lit (.int .i64 b.fOp.fVal.fPeer.fScore.fPoints),.lit (.int .i64 b.fOp.fVal.fPeer.fScore.fAt),.lit (.int .i64 b.fOp.fVal.fPeer.fPing),.lit (.int .i64 b.fOp.fVal.fPeer.fWork),cL 5 Zag.c Zag.d b.fOp.fVal.fBans,cL 7 Zad.c Zad.d b.fOp.fVal.fBook,.lit (.bool b.fOp.fMark),.lit (.bool b.fWait)])]⟩:=by
 intro u;induction u with
 |zero=>
  intro t p g b r o;simp[Zcd]at o
 |succ u A=>
  intro t p g b r o;unfold Zcd at o;obtain⟨v,o⟩|⟨v,o⟩:=Zaj o
  .obtain⟨h,B,o⟩:=Zae o;obtain⟨z,o⟩:=Zat o;exact Ye 16 [rz,rA [(2,.r (.tup [(true,Zab.c h.1),(false,(cLs 10 Zaa.c Zaa.d) h.2)]) [])],rz,⟨[(3,.c ((p++([h.2]:List (List Zaa))).length) (Zam (cLs 10 Zaa.c Zaa.d) ([]:(List Zaa)) (p++([h.2]:List (List Zaa)))))],[],[],[],[],[(2,(([h.2]:List (List Zaa)).length,Zam (cLs 10 Zaa.c Zaa.d) ([]:(List Zaa)) ([h.2]:List (List Zaa))))],[]⟩,rz] [true] ⟨[],[],[],[],[],[1,2,4,6,7],[26,2,4],[(26,6)]⟩ (.c v (.c (ZkE _ _ _ B) (.c (show ([h.2]:List (List Zaa)).length=1/\∀i j,i<1->j<1->Zam (cLs 10 Zaa.c Zaa.d) ([]:(List Zaa)) ([h.2]:List (List Zaa)) i j=(([h.2]:List (List Zaa)).flatMap (cLs 10 Zaa.c Zaa.d)).getD (i * 1+j) .junk from⟨rfl,fun i j hi hj=>Zbh (sz:=1) (e:=(cLs 10 Zaa.c Zaa.d)) (d:=([]:(List Zaa))) (fun _=>rfl) ([h.2]:List (List Zaa)) i j hi hj⟩) (.c (Zgn (sz:=1) (e:=(cLs 10 Zaa.c Zaa.d)) (d:=([]:(List Zaa))) p ([h.2]:List (List Zaa))) (.c z.1 (.c z.2 .n)))))) (A (Zar t 1) (p++([h.2]:List (List Zaa))) h.1 b r o)
  .obtain rfl:=oi o;exact Zdm Zak 8 [rz,rz] [false] ⟨[],[],[],[],[],[4,5],[4,6],[(6,99999)]⟩ [99999] (.c v .n) (by kernel_rfl)
def ZeC(d:Zab)(b:Int):Option (Zab×(List (List Zaa))):=Zcd b ((b-(0:Int)).toNat+2) (0:Int) ([]:List (List Zaa)) d (Zab.mk ([]:(List Zac)) 0 (Zas.mk 0 0 (Zan.mk 0 0 0) 0 0 (Zac.mk 0 (Zaa.mk (Zah.mk (Zaf.mk false 0 0) 0) false 0 (Zau.mk 0 0) 0 0) ([]:(List Zag)) ([]:(List Zad))) false) false)
theorem ZoL(g:Zab)(b:Int)(r:(Zab×(List (List Zaa))))(h:ZeC g b=some r):Yp 117 [] [.agg (Zab.c g),Yj b] [(99999,.rows 54 1 r.2.length (Zam (cLs 10 Zaa.c Zaa.d) ([]:(List Zaa)) r.2))] (.tup [(true,Zab.c r.1),(false,[.osl 99999 r.2.length])]):=by
 refine Yw Tryz.func117 fun S0 w0=>?_;unfold ZeC at h;exact Ye 8 [rz,rA [(0,.c ([]:List (List Zaa)).length (Zam (cLs 10 Zaa.c Zaa.d) ([]:(List Zaa)) ([]:List (List Zaa))))],rz] [] ⟨[],[(4,[(0,cL 13 Zac.c Zac.d []),(20,cL 5 Zag.c Zag.d []),(21,cL 7 Zad.c Zad.d [])])],[],[],[],[1,2,4,6,7],[10,2,4],[(10,6)]⟩ (.c (show ([]:List (List Zaa)).length=0 from rfl) (.c (show ∀i j,i<0->j<1->Zam (cLs 10 Zaa.c Zaa.d) ([]:(List Zaa)) ([]:List (List Zaa)) i j=(([]:List (List Zaa)).flatMap (cLs 10 Zaa.c Zaa.d)).getD (i * 1+j) .junk from(fun i j hi hj=>Zbh (sz:=1) (e:=(cLs 10 Zaa.c Zaa.d)) (d:=([]:(List Zaa))) (fun _=>rfl) ([]:List (List Zaa)) i j hi hj)) .n)) (ZnJ S0 w0 b ((b-(0:Int)).toNat+2) (0:Int) ([]:List (List Zaa)) g (Zab.mk ([]:(List Zac)) 0 (Zas.mk 0 0 (Zan.mk 0 0 0) 0 0 (Zac.mk 0 (Zaa.mk (Zah.mk (Zaf.mk false 0 0) 0) false 0 (Zau.mk 0 0) 0 0) ([]:(List Zag)) ([]:(List Zad))) false) false) r h)
def Zbv:Nat->Bool->Int->Zab->Zab->Option Zab|0,_,_,_,_=>none|fu+1,e,b,d,g=>bif(decide (b>=(0:Int)))then(ZaB d (3:Int) (Zar (2:Int) b) e).bind fun h=>Zbv fu false (ZaQ b (1:Int)) h g else some d
theorem ZlG(S0:Nat->Prop)(w0:Zba):∀(i:Nat)(j:Bool)(h:Int)(e b r:Zab),Zbv i j h e b=some r->Yr 21 S0 w0 Tryz.f118 (.agg (Zab.c r)) [1,0,1,0] ⟨[(2,(Yk j)),(3,.one (.ptr 3 0)),(6,.one (.ptr 6 0)),(7,(Yj h))],[(3,.box [cL 13 Zac.c Zac.d e.fGot,.lit (.int .i64 e.fAt),.lit (.int .i64 e.fOp.fKind),.lit (.int .i64 e.fOp.fLock),.lit (.int .i64 e.fOp.fLoc.fKind),.lit (.int .i64 e.fOp.fLoc.fShard),.lit (.int .i64 e.fOp.fLoc.fSlot),.lit (.int .i64 e.fOp.fOld),.lit (.int .i64 e.fOp.fNew),.lit (.int .i64 e.fOp.fVal.fN),.lit (.bool e.fOp.fVal.fPeer.fEnd.fAddr.fV6),.lit (.int .u64 e.fOp.fVal.fPeer.fEnd.fAddr.fHi),.lit (.int .u64 e.fOp.fVal.fPeer.fEnd.fAddr.fLo),.lit (.int .i64 e.fOp.fVal.fPeer.fEnd.fPort),.lit (.bool e.fOp.fVal.fPeer.fIn),.lit (.int .i64 e.fOp.fVal.fPeer.fSince),.lit (.int .i64 e.fOp.fVal.fPeer.fScore.fPoints),.lit (.int .i64 e.fOp.fVal.fPeer.fScore.fAt),.lit (.int .i64 e.fOp.fVal.fPeer.fPing),.lit (.int .i64 e.fOp.fVal.fPeer.fWork),cL 5 Zag.c Zag.d e.fOp.fVal.fBans,cL 7 Zad.c Zad.d e.fOp.fVal.fBook,.lit (.bool e.fOp.fMark),.lit (.bool e.fWait)]),(6,.box [cL 13 Zac.c Zac.d b.fGot,.lit (.int .i64 b.fAt),.lit (.int .i64 b.fOp.fKind),.lit (.int .i64 b.fOp.fLock),.lit (.int .i64 b.fOp.fLoc.fKind),.lit (.int .i64 b.fOp.fLoc.fShard),.lit (.int .i64 b.fOp.fLoc.fSlot),.lit (.int .i64 b.fOp.fOld),.lit (.int .i64 b.fOp.fNew),.lit (.int .i64 b.fOp.fVal.fN),.lit (.bool b.fOp.fVal.fPeer.fEnd.fAddr.fV6),.lit (.int .u64 b.fOp.fVal.fPeer.fEnd.fAddr.fHi),.lit (.int .u64 b.fOp.fVal.fPeer.fEnd.fAddr.fLo),.lit (.int .i64 b.fOp.fVal.fPeer.fEnd.fPort),.lit (.bool b.fOp.fVal.fPeer.fIn),.lit (.int .i64 b.fOp.fVal.fPeer.fSince),.lit (.int .i64 b.fOp.fVal.fPeer.fScore.fPoints),.lit (.int .i64 b.fOp.fVal.fPeer.fScore.fAt),.lit (.int .i64 b.fOp.fVal.fPeer.fPing),.lit (.int .i64 b.fOp.fVal.fPeer.fWork),cL 5 Zag.c Zag.d b.fOp.fVal.fBans,cL 7 Zad.c Zad.d b.fOp.fVal.fBook,.lit (.bool b.fOp.fMark),.lit (.bool b.fWait)])]⟩:=by
 intro i;induction i with
 |zero=>
  intro j h e b r g;simp[Zbv]at g
 |succ i t=>
  intro j h e b r g;unfold Zbv at g;obtain⟨o,g⟩|⟨o,g⟩:=Zaj g
  .obtain⟨p,u,g⟩:=Zae g;exact Ye 14 [rz,rA [(4,aG (Zab.c p))],rz,rz] [true] ⟨[],[],[],[],[],[2,3,6,7],[3,6],[]⟩ (.c o (.c (Zbi _ _ _ _ _ u) .n)) (t false (ZaQ h (1:Int)) p b r g)
  .apply Ya g 8 [rz,rz] [false] (.c o .n)
def Zbx(d:Zab)(e:Int)(g:Bool):Option Zab:=(ZcN e).bind fun b=>Zbv (((ZaQ b (1:Int))-(0:Int)).toNat+2) g (ZaQ b (1:Int)) d (Zab.mk ([]:(List Zac)) 0 (Zas.mk 0 0 (Zan.mk 0 0 0) 0 0 (Zac.mk 0 (Zaa.mk (Zah.mk (Zaf.mk false 0 0) 0) false 0 (Zau.mk 0 0) 0 0) ([]:(List Zag)) ([]:(List Zad))) false) false)
theorem Zec(e:Zab)(i:Int)(g:Bool)(r:Zab)(b:Zbx e i g=some r):Yo 118 [.agg (Zab.c e),Yj i,Yk g] (.agg (Zab.c r)):=by
 refine Yv Tryz.func118 fun S0 w0=>?_;unfold Zbx at b;obtain⟨h,j,b⟩:=Zae b;exact Ye 6 [rz,rA [(1,aI h)]] [] ⟨[],[(6,[(0,cL 13 Zac.c Zac.d []),(20,cL 5 Zag.c Zag.d []),(21,cL 7 Zad.c Zad.d [])])],[],[],[],[2,3,6,7],[3,6],[]⟩ (.c (ZfP _ _ j) .n) (ZlG S0 w0 (((ZaQ h (1:Int))-(0:Int)).toNat+2) g (ZaQ h (1:Int)) e (Zab.mk ([]:(List Zac)) 0 (Zas.mk 0 0 (Zan.mk 0 0 0) 0 0 (Zac.mk 0 (Zaa.mk (Zah.mk (Zaf.mk false 0 0) 0) false 0 (Zau.mk 0 0) 0 0) ([]:(List Zag)) ([]:(List Zad))) false) false) r b)
def ZcK(d:(List (List Zaa))):Nat->Int->(List Zaa)->Option (List Zaa)|0,_,_=>none|fu+1,b,e=>bif(decide (b<(d.length:Int)))then need (0<=b/\b<(d.length:Int))<|need ((e++(d.getD b.toNat ([]:(List Zaa)))).length * 80<=140737488355328/\(e++(d.getD b.toNat ([]:(List Zaa)))).length<=maxLen)<|ZcK d fu (Zar b 1) (e++(d.getD b.toNat ([]:(List Zaa))))else some e
theorem Znb(S0:Nat->Prop)(w0:Zba)(i:(List (List Zaa))):∀(j:Nat)(h:Int)(b r:List Zaa),ZcK i j h b=some r->Ys 19 S0 w0 Tryz.f120 [(99999,.rows 44 10 r.length (Zam Zaa.c Zaa.d r))] (.one (.osl 99999 r.length)) [1,1,0,1,0] ⟨[(0,.one (cL 1 (cLs 10 Zaa.c Zaa.d) ([]:(List Zaa)) i)),(3,.one (.osl 3 b.length)),(4,(Yj h))],[(3,.rows 44 10 b.length (Zam Zaa.c Zaa.d b))]⟩:=by
 intro j;induction j with
 |zero=>
  intro h b r g;simp[ZcK]at g
 |succ j t=>
  intro h b r g;unfold ZcK at g;obtain⟨o,g⟩|⟨o,g⟩:=Zaj g
  .obtain⟨o2,p,g⟩:=Yt g;exact Ye 12 [rz,rA [(5,.c ((b++(i.getD h.toNat ([]:(List Zaa)))).length) (Zam Zaa.c Zaa.d (b++(i.getD h.toNat ([]:(List Zaa))))))],rz] [true] ⟨[],[],[],[],[],[0,3,4],[17],[(17,3)]⟩ (.c o (.c o2 (.c (Zgn (sz:=10) (e:=Zaa.c) (d:=Zaa.d) b (i.getD h.toNat ([]:(List Zaa)))) (.c p.1 (.c p.2 .n))))) (t (Zar h 1) (b++(i.getD h.toNat ([]:(List Zaa)))) r g)
  .apply Yc g 8 [rz,rz] [false] ⟨[],[],[],[],[],[2],[3],[(3,99999)]⟩ (.c o .n)
def ZhC(b:(List (List Zaa))):Option (List Zaa):=ZcK b (((b.length:Int)-(0:Int)).toNat+2) (0:Int) ([]:List Zaa)
theorem Zok(b:(List (List Zaa)))(r:List Zaa)(g:ZhC b=some r):Yp 120 [] [.one (cL 1 (cLs 10 Zaa.c Zaa.d) ([]:(List Zaa)) b)] [(99999,.rows 44 10 r.length (Zam Zaa.c Zaa.d r))] (.one (.osl 99999 r.length)):=by
 refine Yw Tryz.func120 fun S0 w0=>?_;unfold ZhC at g;exact Ye 8 [rz,rA [(0,.c ([]:List Zaa).length (Zam Zaa.c Zaa.d ([]:List Zaa)))],rz] [] ⟨[],[],[],[],[],[0,3,4],[5],[(5,3)]⟩ (.c (show ([]:List Zaa).length=0 from rfl) (.c (show ∀i j,i<0->j<10->Zam Zaa.c Zaa.d ([]:List Zaa) i j=(([]:List Zaa).flatMap Zaa.c).getD (i * 10+j) .junk from(fun i j hi hj=>Zbh (sz:=10) (e:=Zaa.c) (d:=Zaa.d) (fun _=>rfl) ([]:List Zaa) i j hi hj)) .n)) (Znb S0 w0 b (((b.length:Int)-(0:Int)).toNat+2) (0:Int) ([]:List Zaa) r g)
def Zcr(e:List Zaa):Nat->Int->(List Zaa)->Option (List Zaa)|0,_,_=>none|fu+1,b,g=>bif(decide (b<(e.length:Int)))then need (0<=b/\b<(e.length:Int))<|bif(e.getD b.toNat Zaa.d).fIn then need ((g++([(e.getD b.toNat Zaa.d)]:List Zaa)).length * 80<=140737488355328/\(g++([(e.getD b.toNat Zaa.d)]:List Zaa)).length<=maxLen)<|Zcr e fu (Zar b 1) (g++([(e.getD b.toNat Zaa.d)]:List Zaa))else Zcr e fu (Zar b 1) g else some g
theorem Zng(S0:Nat->Prop)(w0:Zba)(h:List Zaa):∀(p:Nat)(b:Int)(o r:List Zaa),Zcr h p b o=some r->Ys 25 S0 w0 Tryz.f37 [(99999,.rows 44 10 r.length (Zam Zaa.c Zaa.d r))] (.one (.osl 99999 r.length)) [1,1,0,1,0] ⟨[(0,(Ym h)),(3,.one (.osl 3 o.length)),(4,(Yj b))],[(3,.rows 44 10 o.length (Zam Zaa.c Zaa.d o))]⟩:=by
 intro p;induction p with
 |zero=>
  intro b o r g;simp[Zcr]at g
 |succ p v=>
  intro b o r g;unfold Zcr at g;obtain⟨t,g⟩|⟨t,g⟩:=Zaj g
  .obtain⟨o2,g⟩:=Zat g;obtain⟨u,g⟩|⟨u,g⟩:=Zaj g
   .obtain⟨y,g⟩:=Zat g;exact Ye 15 [rz,rz,⟨[(6,.c ((o++([(h.getD b.toNat Zaa.d)]:List Zaa)).length) (Zam Zaa.c Zaa.d (o++([(h.getD b.toNat Zaa.d)]:List Zaa))))],[],[],[],[],[(5,(([(h.getD b.toNat Zaa.d)]:List Zaa).length,Zam Zaa.c Zaa.d ([(h.getD b.toNat Zaa.d)]:List Zaa)))],[]⟩,rz] [true,true] ⟨[],[],[],[],[],[0,3,4],[23],[(23,3)]⟩ (.c t (.c o2 (.c u (.c o2 (.c (show ([(h.getD b.toNat Zaa.d)]:List Zaa).length=1/\∀i j,i<1->j<10->Zam Zaa.c Zaa.d ([(h.getD b.toNat Zaa.d)]:List Zaa) i j=(([(h.getD b.toNat Zaa.d)]:List Zaa).flatMap Zaa.c).getD (i * 10+j) .junk from⟨rfl,fun i j hi hj=>Zbh (sz:=10) (e:=Zaa.c) (d:=Zaa.d) (fun _=>rfl) ([(h.getD b.toNat Zaa.d)]:List Zaa) i j hi hj⟩) (.c (Zgn (sz:=10) (e:=Zaa.c) (d:=Zaa.d) o ([(h.getD b.toNat Zaa.d)]:List Zaa)) (.c y.1 (.c y.2 .n)))))))) (v (Zar b 1) (o++([(h.getD b.toNat Zaa.d)]:List Zaa)) r g)
   .exact Ye 15 [rz,rz,rz] [true,false] ⟨[],[],[],[],[],[0,3,4],[3],[]⟩ (.c t (.c o2 (.c u .n))) (v (Zar b 1) o r g)
  .apply Yc g 8 [rz,rz] [false] ⟨[],[],[],[],[],[2],[3],[(3,99999)]⟩ (.c t .n)
def Zfk(b:List Zaa):Option (List Zaa):=Zcr b (((b.length:Int)-(0:Int)).toNat+2) (0:Int) ([]:List Zaa)
theorem Zop(b r:List Zaa)(g:Zfk b=some r):Yp 37 [] [Ym b] [(99999,.rows 44 10 r.length (Zam Zaa.c Zaa.d r))] (.one (.osl 99999 r.length)):=by
 refine Yw Tryz.func37 fun S0 w0=>?_;unfold Zfk at g;exact Ye 8 [rz,rA [(0,.c ([]:List Zaa).length (Zam Zaa.c Zaa.d ([]:List Zaa)))],rz] [] ⟨[],[],[],[],[],[0,3,4],[5],[(5,3)]⟩ (.c (show ([]:List Zaa).length=0 from rfl) (.c (show ∀i j,i<0->j<10->Zam Zaa.c Zaa.d ([]:List Zaa) i j=(([]:List Zaa).flatMap Zaa.c).getD (i * 10+j) .junk from(fun i j hi hj=>Zbh (sz:=10) (e:=Zaa.c) (d:=Zaa.d) (fun _=>rfl) ([]:List Zaa) i j hi hj)) .n)) (Zng S0 w0 b (((b.length:Int)-(0:Int)).toNat+2) (0:Int) ([]:List Zaa) r g)
theorem ZoN(b r:List Zaa)(d:Zfk b=some r):Yo 37 [Ym b] (Ym r):=(Zop b r d).pure
def ZcO(b:Zay)(d:Int):Option Int:=bif(d==(1:Int))then some b.fGroup else bif(d==(2:Int))then some b.fPing else bif(d==(3:Int))then some b.fWork else some b.fTime
theorem Zkp(h:Zay)(i r:Int)(b:ZcO h i=some r):Yo 101 [.agg (Zay.c h),Yj i] (Yj r):=by
 refine Yv Tryz.func101 fun S0 w0=>?_;unfold ZcO at b;obtain⟨d,b⟩|⟨d,b⟩:=Zaj b
 .apply Ya b 11 [rz,rz,rz,rz] [true] (.c d .n)
 .obtain⟨e,b⟩|⟨e,b⟩:=Zaj b
  .apply Ya b 14 [rz,rz,rz,rz,rz] [false,true] (.c d (.c e .n))
  .obtain⟨g,b⟩|⟨g,b⟩:=Zaj b
   .apply Ya b 17 [rz,rz,rz,rz,rz,rz] [false,false,true] (.c d (.c e (.c g .n)))
   .apply Ya b 19 [rz,rz,rz,rz,rz,rz] [false,false,false] (.c d (.c e (.c g .n)))
def Zfu(d:Zaa)(b:Int):Option Bool:=bif(b==(1:Int))then some true else bif(b==(4:Int))then some true else bif(b==(2:Int))then bif(decide (d.fPing>(0:Int)))then some true else bif(b==(3:Int))then some (decide (d.fWork>(0:Int)))else some false else bif(b==(3:Int))then some (decide (d.fWork>(0:Int)))else some false
theorem ZnP(o:Zaa)(p:Int)(r:Bool)(b:Zfu o p=some r):Yo 99 [.agg (Zaa.c o),Yj p] (Yk r):=by
 refine Yv Tryz.func99 fun S0 w0=>?_;unfold Zfu at b;obtain⟨d,b⟩|⟨d,b⟩:=Zaj b
 .apply Ya b 4 [rz,rB [(2,true)]] [] (.c d .n)
 .obtain⟨e,b⟩|⟨e,b⟩:=Zaj b
  .apply Ya b 4 [rz,rB [(2,false),(6,true)]] [] (.c d (.c e .n))
  .obtain⟨g,b⟩|⟨g,b⟩:=Zaj b
   .obtain⟨h,b⟩|⟨h,b⟩:=Zaj b
    .apply Ya b 4 [rz,rB [(2,false),(6,false),(9,true),(15,true)]] [] (.c d (.c e (.c g (.c h .n))))
    .obtain⟨i,b⟩|⟨i,b⟩:=Zaj b
     .apply Ya b 4 [rz,rB [(2,false),(6,false),(9,true),(15,false),(18,true)]] [] (.c d (.c e (.c g (.c h (.c i .n)))))
     .apply Ya b 4 [rz,rB [(2,false),(6,false),(9,true),(15,false),(18,false)]] [] (.c d (.c e (.c g (.c h (.c i .n)))))
   .obtain⟨j,b⟩|⟨j,b⟩:=Zaj b
    .apply Ya b 4 [rz,rB [(2,false),(6,false),(9,false),(18,true)]] [] (.c d (.c e (.c g (.c j .n))))
    .apply Ya b 4 [rz,rB [(2,false),(6,false),(9,false),(18,false)]] [] (.c d (.c e (.c g (.c j .n))))
def Zdj(b:Zaf):Option Zap:=(Zca b).bind fun d=>bif(!d)then some (Zap.mk (Zaf.mk false 0 0) 0)else bif b.fV6 then some (Zap.mk (Zaf.mk true (IntKind.wrap .u64 (b.fHi-(Int.tmod b.fHi (4294967296:Int)))) 0) 32)else some (Zap.mk (Zaf.mk false 0 (IntKind.wrap .u64 (b.fLo-(Int.tmod b.fLo (65536:Int))))) 16)
theorem Zhc(h:Zaf)(r:Zap)(b:Zdj h=some r):Yo 261 [.agg (Zaf.c h)] (.agg (Zap.c r)):=by
 refine Yv Tryz.func261 fun S0 w0=>?_;unfold Zdj at b;obtain⟨d,i,b⟩:=Zae b;obtain⟨e,b⟩|⟨e,b⟩:=Zaj b
 .apply Ya b 8 [rz,rA [(1,aB d)],rz] [true] (.c (ZbI _ _ i) (.c e .n))
 .have O1:Obl _:=(.c (ZbI _ _ i) (.c e .n));obtain⟨g,b⟩|⟨g,b⟩:=Zaj b
  .apply Ya b 13 [rz,rA [(1,aB d)],rz,rz] [false,true] (O1.app (.c g (.c (show (4294967296:Int)≠0 from(by decide)) .n)))
  .apply Ya b 14 [rz,rA [(1,aB d)],rz,rz] [false,false] (O1.app (.c g (.c (show (65536:Int)≠0 from(by decide)) .n)))
def Zed(b:Bool):Option Int:=bif b then some (-1:Int)else some (1:Int)
theorem ZhX(S0:Nat->Prop)(w0:Zba)(e:Bool)(r:Int)(b:Zed e=some r):Yr 33 S0 w0 Tryz.f199 (Yj r) [1,1,1,1,1] ⟨[(5,(Yk e))],[]⟩:=by
 unfold Zed at b;obtain⟨d,b⟩|⟨d,b⟩:=Zaj b
 .apply Ya b 6 [rz,rz] [true] (.c d .n)
 .apply Ya b 7 [rz,rz] [false] (.c d .n)
def Zee(d:Bool)(b e:Zaf):Option Int:=bif(!(b.fV6==e.fV6))then Zed (!b.fV6)else Zed d
theorem ZhY(S0:Nat->Prop)(w0:Zba)(g:Bool)(d e:Zaf)(r:Int)(b:Zee g d e=some r):Yr 33 S0 w0 Tryz.f199 (Yj r) [1,1,1,1] ⟨[(2,.one (.ptr 2 0)),(3,.one (.ptr 3 0)),(5,(Yk g))],[(2,.box [.lit (.bool d.fV6),.lit (.int .u64 d.fHi),.lit (.int .u64 d.fLo)]),(3,.box [.lit (.bool e.fV6),.lit (.int .u64 e.fHi),.lit (.int .u64 e.fLo)])]⟩:=by
 unfold Zee at b;obtain⟨h,b⟩|⟨h,b⟩:=Zaj b
 .exact Ye 5 [rz,rz] [true] (Yi [5]) (.c h .n) (ZhX S0 w0 (!d.fV6) r b)
 .exact Ye 5 [rz] [false] (Yi [5]) (.c h .n) (ZhX S0 w0 g r b)
def Zfg(b d:Zaf):Option Int:=bif(decide (b=d))then some (0:Int)else bif(b.fHi != d.fHi)then Zee (decide (b.fHi<d.fHi)) b d else Zee (decide (b.fLo<d.fLo)) b d
theorem Zjp(b d:Zaf)(r:Int)(e:Zfg b d=some r):Yo 199 [.agg (Zaf.c b),.agg (Zaf.c d)] (Yj r):=by
 refine Yv Tryz.func199 fun S0 w0=>?_;unfold Zfg at e;have O1:Obl _:=(.c (ZkX b d (.tmp 6) (.tmp 7)) .n);obtain⟨g,e⟩|⟨g,e⟩:=Zaj e
 .apply Ya e 8 [rz,rA [(2,aB (decide (b=d)))],rz] [true] (O1.app (.c g .n))
 .obtain⟨h,e⟩|⟨h,e⟩:=Zaj e
  .exact Ye 14 [rz,rA [(2,aB (decide (b=d)))],rz,rz,rz] [false,true] ⟨[],[],[],[],[],[2,3,5],[2,3],[]⟩ (O1.app (.c g (.c h .n))) (ZhY S0 w0 (decide (b.fHi<d.fHi)) b d r e)
  .exact Ye 14 [rz,rA [(2,aB (decide (b=d)))],rz,rz] [false,false] ⟨[],[],[],[],[],[2,3,5],[2,3],[]⟩ (O1.app (.c g (.c h .n))) (ZhY S0 w0 (decide (b.fLo<d.fLo)) b d r e)
def Zea(b d:Zah):Option Int:=(Zfg b.fAddr d.fAddr).bind fun e=>bif(e != (0:Int))then some e else bif(b.fPort==d.fPort)then some e else bif(decide (b.fPort<d.fPort))then some (-1:Int)else some (1:Int)
theorem Zjm(i j:Zah)(r:Int)(b:Zea i j=some r):Yo 125 [.agg (Zah.c i),.agg (Zah.c j)] (Yj r):=by
 refine Yv Tryz.func125 fun S0 w0=>?_;unfold Zea at b;obtain⟨e,o,b⟩:=Zae b;obtain⟨g,b⟩|⟨g,b⟩:=Zaj b
 .apply Ya b 10 [rz,rA [(4,aI e)],rB [(2,true)],rz] [true] (.c (Zjp _ _ _ o) (.c g (.c (show true=true from rfl) .n)))
 .have O1:Obl _:=(.c (Zjp _ _ _ o) (.c g .n));obtain⟨d,b⟩|⟨d,b⟩:=Zaj b
  .apply Ya b 10 [rz,rA [(4,aI e)],rB [(2,false)],rz] [true] (O1.app (.c d .n))
  .let R2:List RA:=[rz,rA [(4,aI e)],rB [(2,false)],rz,rz]
   obtain⟨h,b⟩|⟨h,b⟩:=Zaj b
   .apply Ya b 15 R2 [false,true] (O1.app (.c d (.c h .n)))
   .apply Ya b 16 R2 [false,false] (O1.app (.c d (.c h .n)))
def ZcG(d b:Int)(e g:Zaa):Option Bool:=bif(d != b)then some (decide (d<b))else(Zea e.fEnd g.fEnd).bind fun h=>some (decide (h<(0:Int)))
theorem Zfa(S0:Nat->Prop)(w0:Zba)(i g:Int)(b d:Zaa)(r:Bool)(e:ZcG i g b d=some r):Yr 64 S0 w0 Tryz.f188 (Yk r) [1,1,1] ⟨[(4,.one (.ptr 4 0)),(5,.one (.ptr 5 0)),(9,(Yj i)),(10,(Yj g))],[(4,.box [.lit (.bool b.fEnd.fAddr.fV6),.lit (.int .u64 b.fEnd.fAddr.fHi),.lit (.int .u64 b.fEnd.fAddr.fLo),.lit (.int .i64 b.fEnd.fPort),.lit (.bool b.fIn),.lit (.int .i64 b.fSince),.lit (.int .i64 b.fScore.fPoints),.lit (.int .i64 b.fScore.fAt),.lit (.int .i64 b.fPing),.lit (.int .i64 b.fWork)]),(5,.box [.lit (.bool d.fEnd.fAddr.fV6),.lit (.int .u64 d.fEnd.fAddr.fHi),.lit (.int .u64 d.fEnd.fAddr.fLo),.lit (.int .i64 d.fEnd.fPort),.lit (.bool d.fIn),.lit (.int .i64 d.fSince),.lit (.int .i64 d.fScore.fPoints),.lit (.int .i64 d.fScore.fAt),.lit (.int .i64 d.fPing),.lit (.int .i64 d.fWork)])]⟩:=by
 unfold ZcG at e;obtain⟨h,e⟩|⟨h,e⟩:=Zaj e
 .apply Ya e 6 [rz,rz] [true] (.c h .n)
 .obtain⟨j,o,e⟩:=Zae e;apply Ya e 7 [rz,rA [(4,aI j)]] [false] (.c h (.c (Zjm _ _ _ o) .n))
def ZfK(b d:Zaa)(e g:Int):Option Bool:=bif(e==(1:Int))then(Zdj b.fEnd.fAddr).bind fun j=>(ZdX g j).bind fun h=>(Zdj d.fEnd.fAddr).bind fun n=>(ZdX g n).bind fun i=>bif(h != i)then some (decide (h>i))else ZcG (0:Int) (0:Int) b d else bif(e==(2:Int))then ZcG b.fPing d.fPing b d else bif(e==(3:Int))then ZcG d.fWork b.fWork b d else bif(e==(4:Int))then ZcG b.fSince d.fSince b d else some false
theorem Zor(d e:Zaa)(p t:Int)(r:Bool)(b:ZfK d e p t=some r):Yo 188 [.agg (Zaa.c d),.agg (Zaa.c e),Yj p,.one (.lit (.int .u64 t))] (Yk r):=by
 refine Yv Tryz.func188 fun S0 w0=>?_;unfold ZfK at b;obtain⟨g,b⟩|⟨g,b⟩:=Zaj b
 .obtain⟨u,v,y,z,b⟩:=Yu b;obtain⟨A,B,b⟩:=Zae b;obtain⟨D,E,b⟩:=Zae b
  let R1:List RA:=[rz,rz,rz,rz,rA [(4,aG (Zap.c u)),(5,.r (.one (.lit (.int .u64 v))) [])],rA [(4,aG (Zap.c A)),(5,.r (.one (.lit (.int .u64 D))) [])],rz]
  have O2:Obl _:=(.c g (.c (Zhc _ _ y) (.c (Ziq _ _ _ z) (.c (Zhc _ _ B) (.c (Ziq _ _ _ E) .n)))));obtain⟨j,b⟩|⟨j,b⟩:=Zaj b
  .apply Ya b 20 (R1++[rz]) [true,true] (O2.app (.c j .n))
  .exact Ye 20 R1 [true,false] ⟨[],[],[],[],[],[4,5,9,10],[4,5],[]⟩ (O2.app (.c j .n)) (Zfa S0 w0 (0:Int) (0:Int) d e r b)
 .obtain⟨h,b⟩|⟨h,b⟩:=Zaj b
  .exact Ye 18 [rz,rz,rz,rz,rz,rz,rz] [false,true] ⟨[],[],[],[],[],[4,5,9,10],[4,5],[]⟩ (.c g (.c h .n)) (Zfa S0 w0 d.fPing e.fPing d e r b)
  .obtain⟨i,b⟩|⟨i,b⟩:=Zaj b
   .exact Ye 21 [rz,rz,rz,rz,rz,rz,rz,rz] [false,false,true] ⟨[],[],[],[],[],[4,5,9,10],[4,5],[]⟩ (.c g (.c h (.c i .n))) (Zfa S0 w0 e.fWork d.fWork d e r b)
   .obtain⟨o,b⟩|⟨o,b⟩:=Zaj b
    .exact Ye 24 [rz,rz,rz,rz,rz,rz,rz,rz,rz] [false,false,false,true] ⟨[],[],[],[],[],[4,5,9,10],[4,5],[]⟩ (.c g (.c h (.c i (.c o .n)))) (Zfa S0 w0 d.fSince e.fSince d e r b)
    .apply Ya b 22 [rz,rz,rz,rz,rz,rz,rz,rz] [false,false,false,false] (.c g (.c h (.c i (.c o .n))))
def Zbz(h:List Zaa)(n i:Int)(o:Zay)(j:Int)(ae:Int->(List Bool)->Zay->Option (List Bool))(ak:Int->(List Bool)->Option (List Bool)):Nat->Int->Int->(List Bool)->Option (List Bool)|0,_,_,_=>none|fu+1,e,b,g=>bif(decide (b<(h.length:Int)))then need (0<=b/\b<(g.length:Int))<|bif(!(g.getD b.toNat false))then need (0<=b/\b<(h.length:Int))<|(Zfu (h.getD b.toNat Zaa.d) i).bind fun p=>bif p then bif(decide (e<(0:Int)))then Zbz h n i o j ae ak fu b (Zar b 1) g else need (0<=e/\e<(h.length:Int))<|(ZfK (h.getD b.toNat Zaa.d) (h.getD e.toNat Zaa.d) i n).bind fun t=>bif t then Zbz h n i o j ae ak fu b (Zar b 1) g else Zbz h n i o j ae ak fu e (Zar b 1) g else Zbz h n i o j ae ak fu e (Zar b 1) g else Zbz h n i o j ae ak fu e (Zar b 1) g else bif(decide (e>=(0:Int)))then need (0<=e/\e<(g.length:Int))<|ak (Zar j 1) (g.set e.toNat true)else ak (Zar j 1) g
theorem ZmB(S0:Nat->Prop)(w0:Zba)(v:List Zaa)(y D:Int)(h:Zay)(z:Int)(ae:Int->(List Bool)->Zay->Option (List Bool))(ak:Int->(List Bool)->Option (List Bool))(aH:∀(df:Int)(bS:List Bool)(dg:Zay)(r:List Bool),ae df bS dg=some r->Ys 75 S0 w0 Tryz.f268 [(99999,.rows 4 1 r.length (Zam cB false r))] (.one (.osl 99999 r.length)) [1,1,0,1,0] ⟨[(0,(Ym v)),(2,.one (.lit (.int .u64 y))),(4,.one (.ptr 4 0)),(7,.one (.osl 14 bS.length)),(8,(Yj df))],[(14,.rows 4 1 bS.length (Zam cB false bS)),(4,.box [.lit (.int .i64 dg.fGroup),.lit (.int .i64 dg.fPing),.lit (.int .i64 dg.fWork),.lit (.int .i64 dg.fTime)])]⟩)(aQ:∀(gg:Int)(bS r:List Bool),ak gg bS=some r->Ys 75 S0 w0 Tryz.f268 [(99999,.rows 4 1 r.length (Zam cB false r))] (.one (.osl 99999 r.length)) [1,1,0,1,0,0,1,0,0,1,0] ⟨[(0,(Ym v)),(2,.one (.lit (.int .u64 y))),(4,.one (.ptr 4 0)),(7,.one (.osl 14 bS.length)),(8,(Yj D)),(9,(Yj gg))],[(14,.rows 4 1 bS.length (Zam cB false bS)),(4,.box [.lit (.int .i64 h.fGroup),.lit (.int .i64 h.fPing),.lit (.int .i64 h.fWork),.lit (.int .i64 h.fTime)])]⟩):∀(A:Nat)(e g:Int)(b r:List Bool),Zbz v y D h z ae ak A e g b=some r->Ys 75 S0 w0 Tryz.f268 [(99999,.rows 4 1 r.length (Zam cB false r))] (.one (.osl 99999 r.length)) [1,1,0,1,0,0,1,0,0,1,0,0,1,0,0,1,0,1,0] ⟨[(0,(Ym v)),(2,.one (.lit (.int .u64 y))),(4,.one (.ptr 4 0)),(7,.one (.osl 14 b.length)),(8,(Yj D)),(9,(Yj z)),(10,(Yj e)),(11,(Yj g))],[(14,.rows 4 1 b.length (Zam cB false b)),(4,.box [.lit (.int .i64 h.fGroup),.lit (.int .i64 h.fPing),.lit (.int .i64 h.fWork),.lit (.int .i64 h.fTime)])]⟩:=by
 intro A;induction A with
 |zero=>
  intro e g b r d;simp[Zbz]at d
 |succ A t=>
  intro e g b r d;unfold Zbz at d;obtain⟨B,d⟩|⟨B,d⟩:=Zaj d
  .obtain⟨J,d⟩:=Zat d;have O1:Obl _:=(.c B (.c J (.c (show g.toNat<b.length from(ltOf J)) .n)));obtain⟨E,d⟩|⟨E,d⟩:=Zaj d
   .obtain⟨L,d⟩:=Zat d;obtain⟨F,G,d⟩:=Zae d;have O2:Obl _:=(O1.app (.c E (.c L (.c (ZnP _ _ _ G) .n))));obtain⟨i,d⟩|⟨i,d⟩:=Zaj d
    .obtain⟨j,d⟩|⟨j,d⟩:=Zaj d
     .exact Ye 15 [rz,⟨[(11,aB F)],[(5,true),(13,true),(16,true)],[],[],[],[],[]⟩,rz,rz] [true,true] ⟨[],[],[],[],[],[0,2,4,7,8,9,10,11],[14,4],[]⟩ (O2.app (.c i (.c j (.c (show true=true from rfl) .n)))) (t g (Zar g 1) b r d)
     .obtain⟨H,d⟩:=Zat d;obtain⟨M,I,d⟩:=Zae d
      let R3:List RA:=[rz,⟨[(11,aB F),(27,aB M)],[(5,true),(13,true),(16,false)],[],[],[],[],[]⟩,rz]
      have O4:Obl _:=(O2.app (.c i (.c j (.c L (.c H (.c (Zor _ _ _ _ _ I) .n))))));obtain⟨o,d⟩|⟨o,d⟩:=Zaj d
      .exact Ye 15 (R3++[rz]) [true,true] ⟨[],[],[],[],[],[0,2,4,7,8,9,10,11],[14,4],[]⟩ (O4.app (.c o .n)) (t g (Zar g 1) b r d)
      .exact Ye 15 R3 [true,false] ⟨[],[],[],[],[],[0,2,4,7,8,9,10,11],[14,4],[]⟩ (O4.app (.c o .n)) (t e (Zar g 1) b r d)
    .exact Ye 15 [rz,⟨[(11,aB F)],[(5,true),(13,false)],[],[],[],[],[]⟩,rz] [true,false] ⟨[],[],[],[],[],[0,2,4,7,8,9,10,11],[14,4],[]⟩ (O2.app (.c i (.c (show false=false from rfl) .n))) (t e (Zar g 1) b r d)
   .exact Ye 15 [rz,rB [(5,false)],rz] [true,false] ⟨[],[],[],[],[],[0,2,4,7,8,9,10,11],[14,4],[]⟩ (O1.app (.c E (.c (show false=false from rfl) .n))) (t e (Zar g 1) b r d)
  .obtain⟨p,d⟩|⟨p,d⟩:=Zaj d
   .obtain⟨u,d⟩:=Zat d;exact Ye 13 [rz,rz,rA [(3,.c (b.set e.toNat true).length (Zam cB false (b.set e.toNat true)))],rz] [false,true] ⟨[],[],[],[(14,((b.set e.toNat true).length))],[],[0,2,4,7,8,9],[14,4],[]⟩ (.c B (.c p (.c u (.c (show (b.set e.toNat true).length=b.length from List.length_set) (.c (show e.toNat<b.length from(ltOf u)) (.c (show ExtU 1 b.length (Zam cB false b) e.toNat 0 (cB true) (Zam cB false (b.set e.toNat true))from(Zjb _ _ _ rfl)) (.c (show (b.set e.toNat true).length=(b.set e.toNat true).length from rfl) .n))))))) (aQ (Zar z 1) (b.set e.toNat true) r d)
   .exact Ye 13 [rz,rz,rz] [false,false] ⟨[],[],[],[],[],[0,2,4,7,8,9],[14,4],[]⟩ (.c B (.c p .n)) (aQ (Zar z 1) b r d)
def ZbH(g:List Zaa)(i d:Int)(e:Zay)(ae:Int->(List Bool)->Zay->Option (List Bool)):Nat->Int->(List Bool)->Option (List Bool)|0,_,_=>none|fu+1,h,b=>(ZcO e d).bind fun j=>bif(decide (h<j))then bif(decide (h<(g.length:Int)))then Zbz g i d e h ae (ZbH g i d e ae fu) (((g.length:Int)-(0:Int)).toNat+2) (-1:Int) (0:Int) b else ae (Zar d 1) b e else ae (Zar d 1) b e
theorem ZmC(S0:Nat->Prop)(w0:Zba)(g:List Zaa)(i h:Int)(e:Zay)(ae:Int->(List Bool)->Zay->Option (List Bool))(aH:∀(df:Int)(bS:List Bool)(dg:Zay)(r:List Bool),ae df bS dg=some r->Ys 75 S0 w0 Tryz.f268 [(99999,.rows 4 1 r.length (Zam cB false r))] (.one (.osl 99999 r.length)) [1,1,0,1,0] ⟨[(0,(Ym g)),(2,.one (.lit (.int .u64 i))),(4,.one (.ptr 4 0)),(7,.one (.osl 14 bS.length)),(8,(Yj df))],[(14,.rows 4 1 bS.length (Zam cB false bS)),(4,.box [.lit (.int .i64 dg.fGroup),.lit (.int .i64 dg.fPing),.lit (.int .i64 dg.fWork),.lit (.int .i64 dg.fTime)])]⟩):∀(j:Nat)(o:Int)(b r:List Bool),ZbH g i h e ae j o b=some r->Ys 75 S0 w0 Tryz.f268 [(99999,.rows 4 1 r.length (Zam cB false r))] (.one (.osl 99999 r.length)) [1,1,0,1,0,0,1,0,0,1,0] ⟨[(0,(Ym g)),(2,.one (.lit (.int .u64 i))),(4,.one (.ptr 4 0)),(7,.one (.osl 14 b.length)),(8,(Yj h)),(9,(Yj o))],[(14,.rows 4 1 b.length (Zam cB false b)),(4,.box [.lit (.int .i64 e.fGroup),.lit (.int .i64 e.fPing),.lit (.int .i64 e.fWork),.lit (.int .i64 e.fTime)])]⟩:=by
 intro j;induction j with
 |zero=>
  intro o b r d;simp[ZbH]at d
 |succ j y=>
  intro o b r d;unfold ZbH at d;obtain⟨u,v,d⟩:=Zae d;obtain⟨p,d⟩|⟨p,d⟩:=Zaj d
  .let R5:List RA:=[⟨[(3,aI u)],[(5,true)],[],[],[],[],[]⟩,rz]
   have O6:Obl _:=(.c (Zkp _ _ _ v) (.c p .n));obtain⟨t,d⟩|⟨t,d⟩:=Zaj d
   .exact Ye 14 (R5++[rz]) [true] ⟨[],[],[],[],[],[0,2,4,7,8,9,10,11],[14,4],[]⟩ (O6.app (.c t .n)) (ZmB S0 w0 g i h e o ae (ZbH g i h e ae j) aH y (((g.length:Int)-(0:Int)).toNat+2) (-1:Int) (0:Int) b r d)
   .exact Ye 9 R5 [false] ⟨[],[],[],[],[],[0,2,4,7,8],[14,4],[]⟩ (O6.app (.c t .n)) (aH (Zar h 1) b e r d)
  .exact Ye 9 [⟨[(3,aI u)],[(5,false)],[],[],[],[],[]⟩,rz] [false] ⟨[],[],[],[],[],[0,2,4,7,8],[14,4],[]⟩ (.c (Zkp _ _ _ v) (.c p (.c (show false=false from rfl) .n))) (aH (Zar h 1) b e r d)
def ZaP(d:List Zaa)(e:Int):Nat->Int->(List Bool)->Zay->Option (List Bool)|0,_,_,_=>none|fu+1,g,b,h=>bif(decide (g<=(4:Int)))then ZbH d e g h (ZaP d e fu) (((d.length:Int)-(0:Int)).toNat+2) (0:Int) b else some b
theorem ZmD(S0:Nat->Prop)(w0:Zba)(g:List Zaa)(j:Int):∀(h:Nat)(i:Int)(b:List Bool)(d:Zay)(r:List Bool),ZaP g j h i b d=some r->Ys 75 S0 w0 Tryz.f268 [(99999,.rows 4 1 r.length (Zam cB false r))] (.one (.osl 99999 r.length)) [1,1,0,1,0] ⟨[(0,(Ym g)),(2,.one (.lit (.int .u64 j))),(4,.one (.ptr 4 0)),(7,.one (.osl 14 b.length)),(8,(Yj i))],[(14,.rows 4 1 b.length (Zam cB false b)),(4,.box [.lit (.int .i64 d.fGroup),.lit (.int .i64 d.fPing),.lit (.int .i64 d.fWork),.lit (.int .i64 d.fTime)])]⟩:=by
 intro h;induction h with
 |zero=>
  intro i b d r e;simp[ZaP]at e
 |succ h p=>
  intro i b d r e;unfold ZaP at e;obtain⟨o,e⟩|⟨o,e⟩:=Zaj e
  .exact Ye 11 [rz,rz] [true] ⟨[],[],[],[],[],[0,2,4,7,8,9],[14,4],[]⟩ (.c o .n) (ZmC S0 w0 g j i d (ZaP g j h) p (((g.length:Int)-(0:Int)).toNat+2) (0:Int) b r e)
  .apply Yc e 8 [rz,rz] [false] ⟨[],[],[],[],[],[6],[14],[(14,99999)]⟩ (.c o .n)
def ZeP(b:List Zaa)(d:Zay)(e:Int):Option (List Bool):=need (0<=(b.length:Int)/\(b.length:Int)<=(b.length:Int)/\(b.length:Int)<=140737488355328/\(b.length:Int) * 1<=140737488355328)<|ZaP b e (((4:Int)-(1:Int)).toNat+2) (1:Int) (List.replicate (b.length:Int).toNat false) d
theorem ZnO(b:List Zaa)(e:Zay)(g:Int)(r:List Bool)(d:ZeP b e g=some r):Yp 268 [] [Ym b,.agg (Zay.c e),.one (.lit (.int .u64 g))] [(99999,.rows 4 1 r.length (Zam cB false r))] (.one (.osl 99999 r.length)):=by
 refine Yw Tryz.func268 fun S0 w0=>?_;unfold ZeP at d;obtain⟨o1,d⟩:=Zat d;exact Ye 8 [rz,rA [(2,.c ((b.length:Int).toNat) (Zam cB false (List.replicate (b.length:Int).toNat false)))],rz] [] ⟨[],[],[],[(14,((List.replicate (b.length:Int).toNat false).length))],[],[0,2,4,7,8],[14,4],[]⟩ (.c (show (b.length:Int)=(((b.length:Int).toNat:Nat):Int)from(Int.toNat_of_nonneg o1.1).symm) (.c (show (((b.length:Int).toNat:Nat):Int)<=(b.length:Int)from((Int.toNat_of_nonneg o1.1).symm ▸ o1.2.1)) (.c o1.2.2.1 (.c o1.2.2.2 (.c (show ∀i j,i<(b.length:Int).toNat->j<1->Zpb (([.lit (.bool false)]:List C).getD j .junk) (Zam cB false (List.replicate (b.length:Int).toNat false) i j)from(Znv (fun j hj=>.inl rfl) _)) (.c (show (List.replicate (b.length:Int).toNat false).length=(b.length:Int).toNat from List.length_replicate) .n)))))) (ZmD S0 w0 b g (((4:Int)-(1:Int)).toNat+2) (1:Int) (List.replicate (b.length:Int).toNat false) e r d)
theorem Zoq(b:List Zaa)(d:Zay)(e:Int)(r:List Bool)(g:ZeP b d e=some r):Yo 268 [Ym b,.agg (Zay.c d),.one (.lit (.int .u64 e))] (.one (cL 1 cB false r)):=(ZnO b d e r g).pure
end Go.Proofs.YtmnloegcpaahcaaGreat
