import Derived.Test.YtdjfoojllbfcgaaGreatJRiaA1
namespace Go.Proofs.YtdjfoojllbfcgaaGreat
open Go.RowKit Go.Lib Go.Shelf
set_option linter.unusedVariables false
set_option maxRecDepth 100000
def Zib(b:ZaI)(U:Zao)(Q:Int):Option (Tout (Zaq×Bool)):=(Zjn).bind fun V=>(ZcH U V false).bind fun W=>(match W with | .ret a e=>(ZiC a.fBook b.fx.fEnd).bind fun f=>bif(decide (f<(0:Int)))then(Zep (6:Int)).bind fun X=>some (Tout.ret (X,true) e)else need (0<=f/\f<(a.fBook.length:Int))<|bif((a.fBook.getD f.toNat Zaa.d).fState != (2:Int))then(Zep (6:Int)).bind fun Y=>some (Tout.ret (Y,true) e)else bif(!b.fx.fGood)then(Zgm b e a.fBook (a.fBook.getD f.toNat Zaa.d) (0:Int)).bind fun Z=>(match Z with | .ret j x=>some (Tout.ret (j.1,j.2) x) | .pan y=>some (Tout.pan y) | .bad z=>some (Tout.bad z))else(ZcH e (Zay.mk 3 0 0) false).bind fun x7=>(match x7 with | .ret A k=>(ZhH A.fBans b.fx.fEnd.fAddr b.fx.fNow).bind fun x8=>bif(decide (x8>(0:Int)))then(Zgm b k a.fBook (a.fBook.getD f.toNat Zaa.d) (8:Int)).bind fun x9=>(match x9 with | .ret l B=>some (Tout.ret (l.1,l.2) B) | .pan C=>some (Tout.pan C) | .bad D=>some (Tout.bad D))else(ZjD k Q).bind fun E=>(match E with | .ret c g=>(ZjO c b.fx.fEnd).bind fun F=>bif(decide (F>=(0:Int)))then(ZlD (a.fBook.getD f.toNat Zaa.d)).bind fun G=>(Zfb b g a.fBook G).bind fun H=>(match H with | .ret R m=>(Zep (7:Int)).bind fun I=>some (Tout.ret (I,false) m) | .pan n=>some (Tout.pan n) | .bad o=>some (Tout.bad o))else(ZlC (a.fBook.getD f.toNat Zaa.d)).bind fun J=>(Zek b g a.fBook J).bind fun K=>(match K with | .ret S p=>(Zbp c).bind fun h=>(Zml b.fx.fEnd false b.fx.fNow).bind fun i=>need ((h++([i]:List Zab)).length * 80<=140737488355328/\(h++([i]:List Zab)).length<=maxLen)<|(ZjN p Q c (h++([i]:List Zab))).bind fun L=>(match L with | .ret T q=>some (Tout.ret ((Zaq.mk 0 (Zan.mk (Zai.mk false 0 0) 0) 0 0 ([]:(List Zab))),true) q) | .pan r=>some (Tout.pan r) | .bad s=>some (Tout.bad s)) | .pan t=>some (Tout.pan t) | .bad u=>some (Tout.bad u)) | .pan v=>some (Tout.pan v) | .bad w=>some (Tout.bad w)) | .pan M=>some (Tout.pan M) | .bad N=>some (Tout.bad N)) | .pan O=>some (Tout.pan O) | .bad P=>some (Tout.bad P))
theorem ZiY(a0:ZaI)(a1:Zao)(a2:Int)(r:(Tout (Zaq×Bool)))(a:Zib a0 a1 a2=some r):Yr 201 [(100000,.box (Zao.c a1))] [.agg (ZaI.c a0),.one (.ifc 112 (.ptr 100000 0)),Yj a2] (oc (fun x=>.tup [(true,Zaq.c x.1),(false,cB x.2)]) r):=by
 refine ZfZ.of Tryz.func201 rfl rfl rfl rfl fun S0 w0=>?_;unfold Zib at a;obtain⟨x1,x2,q1,I,a⟩:=Yv a;cases x2 with
 |ret J K=>
  dsimp only at a;obtain⟨x3,q3,a⟩:=Zac a
  let R1:List RA:=[rz,rH [(1,aG (Zay.c x1)),(5,.id 463)] [(5,⟨[(100000,100000)],[],[(100000,.box (Zao.c K))],.agg (Zah.c J)⟩)],rA [(4,aI x3)]]
  have O2:Obl _:=(.c (ZjQ _ q1) (.c Zla (.c (ZaX _ _ _ _ I) (.c ZeQ (.c (Zln _ _ _ q3) .n)))));obtain⟨k,a⟩|⟨k,a⟩:=Zaj a
  .obtain⟨x4,q5,a⟩:=Zac a;obtain rfl:=oi a;exact Yd 13 (R1++[rB [(2,true)],rA [(0,aG (Zaq.c x4))]]) [true] ⟨[],[],[],[],[],[6,7],[6,100000],[]⟩ (O2.app (.c k (.c (show true=true from rfl) (.c (Zfa _ _ q5) .n))))
  .obtain⟨g,a⟩:=Zar a;obtain⟨v,a⟩|⟨v,a⟩:=Zaj a
   .obtain⟨x5,q8,a⟩:=Zac a;obtain rfl:=oi a;exact Yd 13 (R1++[rB [(2,false)],rA [(0,aG (Zaq.c x5))]]) [true] ⟨[],[],[],[],[],[6,7],[6,100000],[]⟩ (O2.app (.c k (.c g (.c v (.c (Zfa _ _ q8) .n)))))
   .obtain⟨w,a⟩|⟨w,a⟩:=Zaj a
    .obtain⟨x6,l,a⟩:=Zac a;cases x6 with
     |ret y L=>
      dsimp only at a;obtain rfl:=oi a;exact Yd 16 (R1++[rB [(2,false)],rz,rH [] [(7,⟨[(100000,100000)],[],[(100000,.box (Zao.c L))],.tup [(true,Zaq.c y.1),(false,cB y.2)]⟩)]]) [false,true] ⟨[],[],[],[],[],[6,7],[6,100000],[]⟩ (O2.app (.c k (.c g (.c v (.c w (.c g (.c (ZgO _ _ _ _ _ _ l) .n)))))))
     |_=>
      dsimp only at a;obtain rfl:=oi a;exact Yh 15 (R1++[rB [(2,false)],rz]) [false,true] (rz) 7 ⟨[(100000,100000)],pvOf l⟩ (O2.app (.c k (.c g (.c v (.c w (.c g (.c (ZgO _ _ _ _ _ _ l) .n)))))))
    .obtain⟨x7,m,a⟩:=Zac a;cases x7 with
     |ret M N=>
      dsimp only at a;obtain⟨x8,O,a⟩:=Zac a
      let R3:List RA:=(R1++[rB [(2,false)],rz,rH [(2,.id 463),(11,aI x8)] [(2,⟨[(100000,100000)],[],[(100000,.box (Zao.c N))],.agg (Zah.c M)⟩)]])
      have O4:Obl _:=(O2.app (.c k (.c g (.c v (.c w (.c (ZaX _ _ _ _ m) (.c ZeQ (.c (ZqB _ _ _ _ O) .n))))))));obtain⟨h,a⟩|⟨h,a⟩:=Zaj a
      .obtain⟨x9,o,a⟩:=Zac a;cases x9 with
       |ret z P=>
        dsimp only at a;obtain rfl:=oi a;exact Yd 19 (R3++[rH [] [(7,⟨[(100000,100000)],[],[(100000,.box (Zao.c P))],.tup [(true,Zaq.c z.1),(false,cB z.2)]⟩)]]) [false,false,true] ⟨[],[],[],[],[],[6,7],[6,100000],[]⟩ (O4.app (.c h (.c g (.c (ZgO _ _ _ _ _ _ o) .n))))
       |_=>
        dsimp only at a;obtain rfl:=oi a;exact Yh 18 R3 [false,false,true] (rz) 7 ⟨[(100000,100000)],pvOf o⟩ (O4.app (.c h (.c g (.c (ZgO _ _ _ _ _ _ o) .n))))
      .obtain⟨Q,p,a⟩:=Zac a;cases Q with
       |ret A B=>
        dsimp only at a;obtain⟨R,S,a⟩:=Zac a
        let R5:List RA:=(R3++[rH [] [(2,⟨[(100000,100000)],[],[(100000,.box (Zao.c B))],(Yn A)⟩)],rA [(4,aI R)]])
        have O6:Obl _:=(O4.app (.c h (.c (Zkg _ _ _ p) (.c (Zvz _ _ _ S) .n))));obtain⟨q,a⟩|⟨q,a⟩:=Zaj a
        .obtain⟨C,T,a⟩:=Zac a;have O7:Obl _:=(O6.app (.c q (.c g (.c (ZvF _ _ T) .n))));obtain⟨U,s,a⟩:=Zac a;cases U with
         |ret x13v D=>
          dsimp only at a;obtain⟨V,W,a⟩:=Zac a;obtain rfl:=oi a;exact Yd 29 (R5++[rH [(7,aG (Zaa.c C))] [(8,⟨[(100000,100000)],[],[(100000,.box (Zao.c D))],.tup []⟩)],rA [(0,aG (Zaq.c V))]]) [false,false,false,true] ⟨[],[],[],[],[],[6,7],[6,100000],[]⟩ (O7.app (.c (ZgN _ _ _ _ _ s) (.c (Zfa _ _ W) .n)))
         |_=>
          dsimp only at a;obtain rfl:=oi a;exact Yh 26 R5 [false,false,false,true] (rA [(7,aG (Zaa.c C))]) 8 ⟨[(100000,100000)],pvOf s⟩ (O7.app (.c (ZgN _ _ _ _ _ s) .n))
        .obtain⟨E,X,a⟩:=Zac a;have O8:Obl _:=(O6.app (.c q (.c g (.c (ZvE _ _ X) .n))));obtain⟨Y,t,a⟩:=Zac a;cases Y with
         |ret x16v F=>
          dsimp only at a;obtain⟨f,b,Z,q24,a⟩:=Yv a;obtain⟨G,a⟩:=Zar a
          let R9:List RA:=(R5++[rH [(7,aG (Zaa.c E))] [(8,⟨[(100000,100000)],[],[(100000,.box (Zao.c F))],.tup []⟩)]])
          have fH:Obl _:=(O8.app (.c (Zdx _ _ _ _ _ t) (.c (Zgj _ _ Z) (.c (ZyC _ _ _ _ q24) (.c (show ([b]:List Zab).length=1/\∀i j,i<1->j<10->Zap Zab.c Zab.d ([b]:List Zab) i j=(([b]:List Zab).flatMap Zab.c).getD (i * 10+j) .junk from⟨rfl,fun i j hi hj=>ZaO (sz:=10) (e:=Zab.c) (d:=Zab.d) (fun _=>rfl) ([b]:List Zab) i j hi hj⟩) (.c (Zcy (sz:=10) (e:=Zab.c) (d:=Zab.d) f ([b]:List Zab)) (.c G.1 (.c G.2 .n))))))));obtain⟨b5,u,a⟩:=Zac a;cases b5 with
          |ret x19v H=>
           dsimp only at a;obtain rfl:=oi a;exact Yd 32 (R9++[⟨[(11,aG (Zab.c b)),(13,.r (.one (.sl 10 ((f++([b]:List Zab)).length) (Zap Zab.c Zab.d (f++([b]:List Zab))))) [])],[],[],[],[],[(12,(([b]:List Zab).length,Zap Zab.c Zab.d ([b]:List Zab)))],[(4,⟨[],[(99999,106)],[(99999,.rows 44 10 f.length (Zap Zab.c Zab.d f))],.one (.osl 99999 f.length)⟩),(14,⟨[(100000,100000)],[],[(100000,.box (Zao.c H))],.tup []⟩)]⟩,rz]) [false,false,false,false] ⟨[],[(6,[(7,cL 10 Zab.c Zab.d [])])],[],[],[],[6,7],[6,100000],[]⟩ (fH.app (.c (Zpy _ _ _ _ _ u) .n))
          |_=>
           dsimp only at a;obtain rfl:=oi a;exact Yh 29 R9 [false,false,false,false] (⟨[(11,aG (Zab.c b)),(13,.r (.one (.sl 10 ((f++([b]:List Zab)).length) (Zap Zab.c Zab.d (f++([b]:List Zab))))) [])],[],[],[],[],[(12,(([b]:List Zab).length,Zap Zab.c Zab.d ([b]:List Zab)))],[(4,⟨[],[(99999,106)],[(99999,.rows 44 10 f.length (Zap Zab.c Zab.d f))],.one (.osl 99999 f.length)⟩)]⟩) 14 ⟨[(100000,100000)],pvOf u⟩ (fH.app (.c (Zpy _ _ _ _ _ u) .n))
         |_=>
          dsimp only at a;obtain rfl:=oi a;exact Yh 27 R5 [false,false,false,false] (rA [(7,aG (Zaa.c E))]) 8 ⟨[(100000,100000)],pvOf t⟩ (O8.app (.c (Zdx _ _ _ _ _ t) .n))
       |_=>
        dsimp only at a;obtain rfl:=oi a;exact Yh 20 R3 [false,false,false] (rz) 2 ⟨[(100000,100000)],pvOf p⟩ (O4.app (.c h (.c (Zkg _ _ _ p) .n)))
     |_=>
      dsimp only at a;obtain rfl:=oi a;exact Yh 15 (R1++[rB [(2,false)],rz]) [false,false] (rA [(2,.id 463)]) 2 ⟨[(100000,100000)],pvOf m⟩ (O2.app (.c k (.c g (.c v (.c w (.c (ZaX _ _ _ _ m) (.c ZeQ .n)))))))
 |_=>
  dsimp only at a;obtain rfl:=oi a;exact Yh 3 [rz] [] (rA [(1,aG (Zay.c x1)),(5,.id 463)]) 5 ⟨[(100000,100000)],pvOf I⟩ (.c (ZjQ _ q1) (.c Zla (.c (ZaX _ _ _ _ I) (.c ZeQ .n))))
def ZgM(b:ZaI)(y:Zao):Option (Tout Zaq):=(ZjP b.fx.fEnd.fAddr b.fc.fSecret b.fc.fShards).bind fun c=>(Zhw y (0:Int) false).bind fun z=>(match z with | .ret A d=>(ZeL d (1:Int) false).bind fun B=>(match B with | .ret C e=>(ZeL e (ZaA (2:Int) c) false).bind fun D=>(match D with | .ret E f=>(Zib b f c).bind fun F=>(match F with | .ret a g=>(Zdb g (ZaA (2:Int) c) a.2).bind fun G=>(match G with | .ret H h=>(Zdb h (1:Int) false).bind fun I=>(match I with | .ret J i=>(ZhZ i (0:Int) false).bind fun K=>(match K with | .ret L j=>some (Tout.ret a.1 j) | .pan k=>some (Tout.pan k) | .bad l=>some (Tout.bad l)) | .pan m=>some (Tout.pan m) | .bad n=>some (Tout.bad n)) | .pan o=>some (Tout.pan o) | .bad p=>some (Tout.bad p)) | .pan q=>some (Tout.pan q) | .bad r=>some (Tout.bad r)) | .pan s=>some (Tout.pan s) | .bad t=>some (Tout.bad t)) | .pan u=>some (Tout.pan u) | .bad v=>some (Tout.bad v)) | .pan w=>some (Tout.pan w) | .bad x=>some (Tout.bad x))
theorem Zik(t:ZaI)(u:Zao)(r:(Tout Zaq))(a:ZgM t u=some r):Yr 111 [(100000,.box (Zao.c u))] [.agg (ZaI.c t),.one (.ifc 112 (.ptr 100000 0))] (oc (fun x=>.agg (Zaq.c x)) r):=by
 refine ZfZ.of Tryz.func111 rfl rfl rfl rfl fun S0 w0=>?_;unfold ZgM at a;obtain⟨v,y,w,e,a⟩:=Yv a;cases y with
 |ret z f=>
  dsimp only at a
  let R1:List RA:=[rz,rA [(10,aI v)],rH [(1,.id 466)] [(1,⟨[(100000,100000)],[],[(100000,.box (Zao.c f))],.tup []⟩)]]
  have O2:Obl _:=(.c (ZsG _ _ _ _ w) (.c (ZgH _ _ _ _ e) (.c ZqU .n)));obtain⟨A,g,a⟩:=Zac a;cases A with
  |ret B h=>
   dsimp only at a
   let R3:List RA:=(R1++[rH [(1,.id 464)] [(1,⟨[(100000,100000)],[],[(100000,.box (Zao.c h))],.tup []⟩)]])
   have O4:Obl _:=(O2.app (.c (Zco _ _ _ _ g) (.c Zjf .n)));obtain⟨C,i,a⟩:=Zac a;cases C with
   |ret D j=>
    dsimp only at a
    let R5:List RA:=(R3++[rH [(3,.id 464)] [(3,⟨[(100000,100000)],[],[(100000,.box (Zao.c j))],.tup []⟩)]])
    have O6:Obl _:=(O4.app (.c (Zco _ _ _ _ i) (.c Zjf .n)));obtain⟨E,d,a⟩:=Zac a;cases E with
    |ret b k=>
     dsimp only at a
     let R7:List RA:=(R5++[rH [] [(3,⟨[(100000,100000)],[],[(100000,.box (Zao.c k))],.tup [(true,Zaq.c b.1),(false,cB b.2)]⟩)]])
     obtain⟨F,l,a⟩:=Zac a;cases F with
     |ret G m=>
      dsimp only at a
      let R8:List RA:=(R7++[rH [(4,.id 462)] [(4,⟨[(100000,100000)],[],[(100000,.box (Zao.c m))],.tup []⟩)]])
      have O9:Obl _:=(O6.app (.c (ZiY _ _ _ _ d) (.c (Zbw _ _ _ _ l) (.c ZgE .n))));obtain⟨H,o,a⟩:=Zac a;cases H with
      |ret I p=>
       dsimp only at a
       let jl:List RA:=(R8++[rH [(1,.id 462)] [(1,⟨[(100000,100000)],[],[(100000,.box (Zao.c p))],.tup []⟩)]])
       have O11:Obl _:=(O9.app (.c (Zbw _ _ _ _ o) (.c ZgE .n)));obtain⟨J,q,a⟩:=Zac a;cases J with
       |ret K s=>
        dsimp only at a;obtain rfl:=oi a;exact Yd 20 (jl++[rH [(1,.id 461)] [(1,⟨[(100000,100000)],[],[(100000,.box (Zao.c s))],.tup []⟩)],rz]) [] ⟨[],[],[],[],[],[4],[4,100000],[]⟩ (O11.app (.c (Zhm _ _ _ _ q) (.c Zsp .n)))
       |_=>
        dsimp only at a;obtain rfl:=oi a;exact Yh 17 jl [] (rA [(1,.id 461)]) 1 ⟨[(100000,100000)],pvOf q⟩ (O11.app (.c (Zhm _ _ _ _ q) (.c Zsp .n)))
      |_=>
       dsimp only at a;obtain rfl:=oi a;exact Yh 15 R8 [] (rA [(1,.id 462)]) 1 ⟨[(100000,100000)],pvOf o⟩ (O9.app (.c (Zbw _ _ _ _ o) (.c ZgE .n)))
     |_=>
      dsimp only at a;obtain rfl:=oi a;exact Yh 13 R7 [] (rA [(4,.id 462)]) 4 ⟨[(100000,100000)],pvOf l⟩ (O6.app (.c (ZiY _ _ _ _ d) (.c (Zbw _ _ _ _ l) (.c ZgE .n))))
    |_=>
     dsimp only at a;obtain rfl:=oi a;exact Yh 11 R5 [] (rz) 3 ⟨[(100000,100000)],pvOf d⟩ (O6.app (.c (ZiY _ _ _ _ d) .n))
   |_=>
    dsimp only at a;obtain rfl:=oi a;exact Yh 9 R3 [] (rA [(3,.id 464)]) 3 ⟨[(100000,100000)],pvOf i⟩ (O4.app (.c (Zco _ _ _ _ i) (.c Zjf .n)))
  |_=>
   dsimp only at a;obtain rfl:=oi a;exact Yh 7 R1 [] (rA [(1,.id 464)]) 1 ⟨[(100000,100000)],pvOf g⟩ (O2.app (.c (Zco _ _ _ _ g) (.c Zjf .n)))
 |_=>
  dsimp only at a;obtain rfl:=oi a;exact Yh 5 [rz,rA [(10,aI v)]] [] (rA [(1,.id 466)]) 1 ⟨[(100000,100000)],pvOf e⟩ (.c (ZsG _ _ _ _ w) (.c (ZgH _ _ _ _ e) (.c ZqU .n)))
def ZmA(a:Zan)(b:Int):Option Zaa:=(ZgL b).bind fun c=>some (Zaa.mk a 1 0 c)
theorem ZwE(b:Zan)(d:Int)(r:Zaa)(a:ZmA b d=some r):Yp 204 [.agg (Zan.c b),Yj d] (.agg (Zaa.c r)):=by
 refine Yw Tryz.func204 fun S0 w0=>?_;unfold ZmA at a;obtain⟨e,f,a⟩:=Zac a;apply Ya a 4 [rz,rA [(2,aI e)]] [] (.c (ZgK _ _ f) .n)
set_option maxHeartbeats 4000000 in
set_option maxRecDepth 100000 in
theorem ZAd (b n c i vb m vc : Nat) (cur aL : Array Value) (w : World) (hi : i < n) (hm : 0 < m) (hroom : n + m <= c) (gw : c <= maxLen) (hvb : vb ≠ b)
    (dl:w.heap[b]? = some (.cells cur 106 (0,0))) (dJ:cur.size = c * 7) (ce:w.heap[vb]? = some (.cells aL 106 (0,0))) (lK:m<=vc) (bM:aL.size = vc * 7)
    (b6 : ∀ v ∈ cur.toList.take (n * 7),v.oneCell' = true) (ke : ∀ v ∈ aL.toList.take (m * 7),v.oneCell' = true) :
    Calls Tryz.prog 276 #[.slice (some ⟨b,0,none⟩) n c,.int .i64 i,.slice (some ⟨vb,0,none⟩) m vc] w fun e w' =>
      ∃ R:Array Value,e = .returned (.slice (some ⟨b,0,none⟩) (n + m) c)/\w.drawn<=w'.drawn/\w.grownBy w' (some b)/\w'.heap[b]? = some (.cells R 106 (0,0))/\R.size = c * 7 /\
        R.toList.take ((n + m) * 7) = cur.toList.take (i * 7) ++ aL.toList.take (m * 7) ++ (cur.toList.drop (i * 7)).take ((n - i) * 7):=by
  have hc63':=gw
  unfold maxLen at gw
  have hz1 : ¬ ((m:Int) = 0):=by omega
  have cK : ¬ ((i:Int) = (n:Int)):=by omega
  have k6:IntKind.i64.wrap ((i:Int) + (m:Int)) = (i:Int) + (m:Int):=by rw [IntKind.wrap_i64]; omega
  have kz:IntKind.i64.wrap ((n:Int) + (m:Int)) = (n:Int) + (m:Int):=by rw [IntKind.wrap_i64]; omega
  have bk:(0:Int)<=(i:Int) + (m:Int):=by omega
  have hin:i<=n:=by omega
  have htn:((i:Int) + (m:Int)).toNat = i + m:=by omega
  have bi : ¬ (c = i + m):=by omega
  have hb3:(i:Int)<=(n:Int) + (m:Int):=by omega
  have hb4 : ¬ (c = i):=by omega
  have hov : ∀ o lb cb,(callFunc 339 #[.slice (some ⟨vb,0,none⟩) m vc,.slice (some ⟨b,o,none⟩) lb cb]).run Tryz.prog w = .ok (.value (.bool false)) w:=fun o lb cb =>by
    rw [run_callFunc_extern Tryz.func339 (by kernel_rfl) (by kernel_rfl) (by kernel_rfl) (e:=Extern.SlicesOverlaps.overlaps #[46,46] #[4]) (by kernel_rfl),
      Lib.run_overlaps_apart w 46 4 106 Tryz.underlying46 7 Tryz.sizeOf106 ⟨vb,0,none⟩ ⟨b,o,none⟩ m vc lb cb hvb 106 106 aL.size cur.size (by simp [World.shape?,ce]) (by simp [World.shape?,dl]) (by omega) (by simp [World.frozen?,ce]) (by simp [World.frozen?,ce])]
    rfl
  have aM:(Tryz.prog.info? 106).map (·.size) = some 7:=by kernel_rfl
  obtain ⟨M1,kR⟩ : ∃ M1,M1 = Zhq cur.toList ((i + m) * 7) ((cur.toList.drop (i * 7)).take ((n - i) * 7)):=⟨_,rfl⟩
  have gx:M1.toArray.size = c * 7:=by
    rw [kR]; simp [Zhq]; omega
  have kf : ∀ ty dc sc,(Builtin.copy_ #[46,46] ty #[.slice (some ⟨b,(i + m) * 7,none⟩) (n + m - (i + m)) dc,.slice (some ⟨b,i * 7,none⟩) (n + m - i) sc]).run Tryz.prog w.drew = .ok (goInt ((n - i:Nat):Int)) (w.drew.setRow b M1.toArray):=fun ty dc sc =>by
    have h:=ZlX (P:=Tryz.prog) w.drew 46 46 ty 106 7 b ((i + m) * 7) (n + m - (i + m)) dc ⟨b,i * 7,none⟩ (n + m - i) sc cur 106 ((cur.toList.drop (i * 7)).take ((n - i) * 7)) Tryz.underlying46 aM
      (by have : Nat.min (n + m - i) (n + m - (i + m)) = n - i := by simp only [Nat.min_def]; split <;> omega
          rw [this]; simp; omega)
      (fun j v hj =>by
        rw [Zfp]
        rw [List.getElem?_take] at hj
        split at hj
        . rw [List.getElem?_drop] at hj
          rw [show w.drew.cell? ⟨b,i * 7 + j,none⟩ = w.cell? ⟨b,i * 7 + j,none⟩ from rfl,cell_of_row w b _ cur 106 (0,0) dl]
          simpa using hj
        . cases hj)
      dl (by simp; omega) (fun v hv =>b6 v (by
        obtain ⟨j,hj⟩:=List.getElem?_of_mem hv
        rw [List.getElem?_take] at hj
        split at hj
        . rw [List.getElem?_drop] at hj
          exact List.mem_of_getElem? (i:=i * 7 + j) (by rw [List.getElem?_take,if_pos (by omega)]; exact hj)
        . cases hj))
    rw [show Nat.min (n + m - i) (n + m - (i + m)) = n - i by simp only [Nat.min_def]; split <;> omega,<- kR] at h
    exact h
  obtain ⟨W1,eA⟩ : ∃ W1,W1 = w.drew.setRow b M1.toArray:=⟨_,rfl⟩
  have iR:W1.heap[b]? = some (.cells M1.toArray 106 (0,0)):=by
    rw [eA]; exact setRow_heap _ _ _ _ _ _ dl
  have kh:W1.heap[vb]? = some (.cells aL 106 (0,0)):=by
    rw [eA,setRow_other _ _ _ _ hvb]; exact ce
  have ki : ∀ (W:World),W.heap = W1.heap->∀ ty dc,(Builtin.copy_ #[46,46] ty #[.slice (some ⟨b,i * 7,none⟩) (n + m - i) dc,.slice (some ⟨vb,0,none⟩) m vc]).run Tryz.prog W = .ok (goInt (m:Int)) (W.setRow b (Zhq M1 (i * 7) (aL.toList.take (m * 7))).toArray):=fun W kj ty dc =>by
    have h:=ZlX (P:=Tryz.prog) W 46 46 ty 106 7 b (i * 7) (n + m - i) dc ⟨vb,0,none⟩ m vc M1.toArray 106 (aL.toList.take (m * 7)) Tryz.underlying46 aM
      (by have : Nat.min m (n + m - i) = m := by simp only [Nat.min_def]; split <;> omega
          rw [this]; simp; omega)
      (fun j v hj =>by
        rw [Zfp,Nat.zero_add]
        rw [List.getElem?_take] at hj
        split at hj
        . rw [cell_of_row W vb _ aL 106 (0,0) (by rw [kj]; exact kh)]
          simpa using hj
        . cases hj)
      (by rw [kj]; exact iR) (by simp at gx ⊢; omega) ke
    rw [show Nat.min m (n + m - i) = m by simp only [Nat.min_def]; split <;> omega] at h
    exact h
  rw [<- eA] at kf
  obtain ⟨R3,hR3⟩ : ∃ R3,R3 = Zhq M1 (i * 7) (aL.toList.take (m * 7)):=⟨_,rfl⟩
  rw [<- hR3] at ki
  have fJ:R3.length = c * 7:=by
    rw [hR3]; simp at gx; simp [Zhq]; omega
  have bw:R3.take ((n + m) * 7) = cur.toList.take (i * 7) ++ aL.toList.take (m * 7) ++ (cur.toList.drop (i * 7)).take ((n - i) * 7):=by
    have hM1l' : M1.length = c * 7:=by simpa using gx
    have f7:(aL.toList.take (m * 7)).length = m * 7:=by simp; omega
    have mh:((cur.toList.drop (i * 7)).take ((n - i) * 7)).length = (n - i) * 7:=by simp; omega
    apply List.ext_getElem?
    intro k
    rw [List.getElem?_take]
    split
    . rename_i hk
      rw [hR3,Zmf _ _ _ (by rw [f7]; omega),kR,Zmf _ _ _ (by rw [mh]; simp; omega)]
      by_cases a:k < i * 7
      . rw [if_neg (by omega),if_neg (by omega),List.append_assoc,List.getElem?_append_left (by simp; omega),List.getElem?_take,if_pos a]
      . by_cases d:k < (i + m) * 7
        . rw [if_pos ⟨by omega,by rw [f7]; omega⟩,List.append_assoc,List.getElem?_append_right (by simp; omega),List.getElem?_append_left (by simp; omega)]
          congr 1; simp; omega
        . rw [if_neg (by rw [f7]; omega),if_pos ⟨by omega,by rw [mh]; omega⟩,List.getElem?_append_right (by rw [List.length_append,f7]; simp; omega)]
          congr 1; rw [List.length_append,f7]; simp; omega
    . rename_i hk
      rw [List.getElem?_eq_none (by rw [List.length_append,List.length_append,f7,mh]; simp; omega)]
  have hgb:w.grownBy (W1.setRow b R3.toArray) (some b):=by
    rw [eA]
    exact ⟨rfl,rfl,rfl,by simp,fun k _ hk =>by
      have hne:k ≠ b:=fun h =>hk (by rw [h])
      rw [setRow_other _ _ _ _ hne,setRow_other _ _ _ _ hne]
      rfl⟩
  have hat:=setRow_heap W1 b _ R3.toArray _ _ iR
  have HF:=Lib.hid bw; clear bw
  have HL:=Lib.hid fJ; clear fJ
  have eE:w.drawn<=(W1.setRow b R3.toArray).drawn:=by rw [eA]; exact Nat.le_succ _
  have HG:=Lib.hid hgb; clear hgb
  have HD:=Lib.hid eE; clear eE
  have HA:=Lib.hid hat; clear hat
  clear gx iR kh b6 ke aM hR3
  clear eA
  clear kR
  have mixed:Tryz.prog.follows .mixedOrders = true:=by kernel_rfl
  go_enter Tryz.func276,Tryz.ntmps276
  go_wp2_with (simp only [hov])
  go_region_law_o (refine step_copy_runI rfl _ _ 46 46 rfl _ _ (by simp [Act.eval,Act.put]) (by simp [Act.eval,Act.put]) (kf _ _ _) ?_)
  go_wp2_with (at_builtin; refine wpList_copy_runI _ rfl _ _ 46 46 rfl _ _ rfl rfl (ki _ rfl _ _) ?_)
  go_ret
  exact ⟨R3.toArray,rfl,HD.out,HG.out,HA.out,HL.out,HF.out⟩
set_option maxHeartbeats 4000000 in
set_option maxRecDepth 100000 in
theorem ZBG (b n c i vb m vc : Nat) (cur aL : Array Value) (w : World) (hi : i < n) (hm : 0 < m) (gZ : n <= c) (hroom : c < n + m) (hI : (n + m) * 56 <= 140737488355328)
    (dl:w.heap[b]? = some (.cells cur 106 (0,0))) (dJ:cur.size = c * 7) (ce:w.heap[vb]? = some (.cells aL 106 (0,0))) (lK:m<=vc) (bM:aL.size = vc * 7)
    (b6 : ∀ v ∈ cur.toList.take (n * 7),v.oneCell' = true) (ke : ∀ v ∈ aL.toList.take (m * 7),v.oneCell' = true) :
    Calls Tryz.prog 276 #[.slice (some ⟨b,0,none⟩) n c,.int .i64 i,.slice (some ⟨vb,0,none⟩) m vc] w fun e w' =>
      ∃ (G:Nat) (R:Array Value),e = .returned (.slice (some ⟨w.heap.size,0,none⟩) (n + m) G)/\w.drawn<=w'.drawn/\Below w.heap.size w w'/\w'.heap[w.heap.size]? = some (.cells R 106 (0,0))/\n + m<=G/\G<=maxLen/\R.size = G * 7 /\
        R.toList.take ((n + m) * 7) = cur.toList.take (i * 7) ++ aL.toList.take (m * 7) ++ (cur.toList.drop (i * 7)).take ((n - i) * 7):=by
  have hz1 : ¬ ((m:Int) = 0):=by omega
  have cK : ¬ ((i:Int) = (n:Int)):=by omega
  have hz3:(c:Int) < (n:Int) + (m:Int):=by omega
  have lU:(n:Int) + (m:Int) - (i:Int) = ((n + m - i:Nat):Int):=by omega
  have hik:i + (n + m - i) = n + m:=by omega
  have hbw:b < w.heap.size:=(Array.getElem?_eq_some_iff.1 dl).1
  have hvw:vb < w.heap.size:=(Array.getElem?_eq_some_iff.1 ce).1
  have ly:b ≠ w.heap.size:=by omega
  have hvN:vb ≠ w.heap.size:=by omega
  obtain ⟨i0,hi0,cy,iS,jo⟩:=ZJE.info (t:=106) (show ZeI tab 106 = some _ from rfl)
  replace cy:i0.size = 7:=cy
  replace iS:i0.bytes = 56:=iS
  replace jo:i0.zero = some (.agg #[.bool false,.int .u64 (0),.int .u64 (0),.int .i64 (0),.int .i64 (0),.int .i64 (0),.int .i64 (0)]):=jo
  have aM:(Tryz.prog.info? 106).map (·.size) = some 7:=by kernel_rfl
  have ck:(Builtin.firstCells i0.size i (.slice (some ⟨b,0,none⟩) i c)).run Tryz.prog w.drew = .ok (cur.toList.take (i * 7)).toArray w.drew:=by
    rw [cy]
    exact run_firstCells_some w.drew 7 i ⟨b,0,none⟩ i c (cur.toList.take (i * 7)) (by simp; omega) (fun j v hj =>by
      rw [Zfp,Nat.zero_add]
      rw [List.getElem?_take] at hj
      split at hj
      . rw [show w.drew.cell? ⟨b,j,none⟩ = w.cell? ⟨b,j,none⟩ from rfl,cell_of_row w b _ cur 106 (0,0) dl]
        simpa using hj
      . cases hj)
  obtain ⟨G,hG⟩ : ∃ G,G = grownCap w (n + m) c 106:=⟨_,rfl⟩
  obtain ⟨gy,gz⟩ : ∃ gy:Array Value,gy = (cur.toList.take (i * 7)).toArray ++ Builtin.zeroCells (Value.cells (.agg #[.bool false,.int .u64 (0),.int .u64 (0),.int .i64 (0),.int .i64 (0),.int .i64 (0),.int .i64 (0)])) (n + m - i) ++ Builtin.zeroCells (Value.cells (.agg #[.bool false,.int .u64 (0),.int .u64 (0),.int .i64 (0),.int .i64 (0),.int .i64 (0),.int .i64 (0)])) (G - (n + m)):=⟨_,rfl⟩
  have hrz : ∀ ty, (Builtin.append_ #[46, 3] ty #[.slice (some ⟨b, 0, none⟩) i c, .int .i64 ((n : Int) + (m : Int) - (i : Int))]).run Tryz.prog w =
      .ok (.slice (some ⟨w.heap.size,0,none⟩) (n + m) G) (w.drew.alloc (.cells gy 106)):=fun ty =>by
    have h:=Lib.run_append_grow_zeros w 46 3 ty 106 i0 _ .i64 .i64 Tryz.underlying46 Tryz.underlying3 hi0 jo (some ⟨b,0,none⟩) i c (cur.toList.take (i * 7)) ck (n + m - i) (by omega) (by omega) (by omega) (by omega) (by rw [iS]; omega) (by rw [iS,hik]; exact growslice_fits hroom hI)
    rw [hik,<- hG,<- gz] at h
    rw [lU]
    exact h
  have hGn:n + m<=G:=by rw [hG]; exact grownCap_ge w _ _ _
  have hGm:G<=maxLen:=by rw [hG]; exact grownCap_le_maxLen w (n + m) c 106 (by unfold maxLen; omega)
  have hRs:gy.size = G * 7:=by
    rw [gz]
    simp [Builtin.zeroCells,Value.cells]
    omega
  have hRt:gy.toList.take (i * 7) = cur.toList.take (i * 7):=by
    rw [gz]
    simp only [Array.toList_append,List.append_assoc]
    rw [List.take_append_of_le_length (by simp; omega)]
    simp [List.take_take]
  clear gz hG ck
  obtain ⟨W1,eA⟩ : ∃ W1,W1 = w.drew.alloc (.cells gy 106):=⟨_,rfl⟩
  have mi:W1.heap[w.heap.size]? = some (.cells gy 106 (0,0)):=by rw [eA]; exact heap_alloc_new w.drew _
  have hWb:W1.heap[b]? = some (.cells cur 106 (0,0)):=by rw [eA,heap_alloc_old w.drew _ hbw]; exact dl
  have hWv:W1.heap[vb]? = some (.cells aL 106 (0,0)):=by rw [eA,heap_alloc_old w.drew _ hvw]; exact ce
  obtain ⟨V,hV⟩ : ∃ V,V = aL.toList.take (m * 7):=⟨_,rfl⟩
  have gA:V.length = m * 7:=by rw [hV]; simp; omega
  obtain ⟨D,hD⟩ : ∃ D,D = (cur.toList.drop (i * 7)).take ((n - i) * 7):=⟨_,rfl⟩
  have iT:D.length = (n - i) * 7:=by rw [hD]; simp; omega
  obtain ⟨R2,hR2⟩ : ∃ R2,R2 = Zhq gy.toList (i * 7) V:=⟨_,rfl⟩
  have kl:R2.length = G * 7:=by rw [hR2]; simp [Zhq,gA]; omega
  obtain ⟨R3,hR3⟩ : ∃ R3,R3 = Zhq R2 ((i + m) * 7) D:=⟨_,rfl⟩
  have fJ:R3.length = G * 7:=by rw [hR3]; simp [Zhq,iT]; omega
  have bw:R3.take ((n + m) * 7) = cur.toList.take (i * 7) ++ V ++ D:=by
    apply List.ext_getElem?
    intro k
    rw [List.getElem?_take]
    split
    . rename_i hk
      rw [hR3,Zmf _ _ _ (by rw [iT]; omega),hR2,Zmf _ _ _ (by rw [gA]; simp; omega)]
      by_cases a:k < i * 7
      . rw [if_neg (by omega),if_neg (by omega),List.append_assoc,List.getElem?_append_left (by simp; omega),<- hRt,List.getElem?_take,if_pos a]
      . by_cases d:k < (i + m) * 7
        . rw [if_neg (by omega),if_pos ⟨by omega,by rw [gA]; omega⟩,List.append_assoc,List.getElem?_append_right (by simp; omega),List.getElem?_append_left (by simp; omega)]
          congr 1; simp; omega
        . rw [if_pos ⟨by omega,by rw [iT]; omega⟩,List.getElem?_append_right (by simp [gA]; omega)]
          congr 1; simp [gA]; omega
    . rename_i hk
      rw [List.getElem?_eq_none (by simp [gA,iT]; omega)]
  have mj : ∀ (W:World),W.heap = W1.heap->∀ ty dc,(Builtin.copy_ #[46,46] ty #[.slice (some ⟨w.heap.size,i * 7,none⟩) (n + m - i) dc,.slice (some ⟨vb,0,none⟩) m vc]).run Tryz.prog W = .ok (goInt (m:Int)) (W.setRow w.heap.size R2.toArray):=fun W kj ty dc =>by
    have h:=ZlX (P:=Tryz.prog) W 46 46 ty 106 7 w.heap.size (i * 7) (n + m - i) dc ⟨vb,0,none⟩ m vc gy 106 V Tryz.underlying46 aM
      (by have : Nat.min m (n + m - i) = m := by simp only [Nat.min_def]; split <;> omega
          rw [this,gA])
      (fun j v hj =>by
        rw [hV] at hj
        rw [Zfp,Nat.zero_add]
        rw [List.getElem?_take] at hj
        split at hj
        . rw [cell_of_row W vb _ aL 106 (0,0) (by rw [kj]; exact hWv)]
          simpa using hj
        . cases hj)
      (by rw [kj]; exact mi) (by rw [gA,hRs]; omega) (by rw [hV]; exact ke)
    rw [show Nat.min m (n + m - i) = m by simp only [Nat.min_def]; split <;> omega,<- hR2] at h
    exact h
  have km : ∀ (W:World),W.heap[w.heap.size]? = some (.cells R2.toArray 106 (0,0))->W.heap[b]? = some (.cells cur 106 (0,0))->∀ ty dc sc,(Builtin.copy_ #[46,46] ty #[.slice (some ⟨w.heap.size,(i + m) * 7,none⟩) (n + m - (i + m)) dc,.slice (some ⟨b,i * 7,none⟩) (n - i) sc]).run Tryz.prog W = .ok (goInt ((n - i:Nat):Int)) (W.setRow w.heap.size R3.toArray):=fun W hN hB ty dc sc =>by
    have h:=ZlX (P:=Tryz.prog) W 46 46 ty 106 7 w.heap.size ((i + m) * 7) (n + m - (i + m)) dc ⟨b,i * 7,none⟩ (n - i) sc R2.toArray 106 D Tryz.underlying46 aM
      (by have : Nat.min (n - i) (n + m - (i + m)) = n - i := by simp only [Nat.min_def]; split <;> omega
          rw [this,iT])
      (fun j v hj =>by
        rw [hD] at hj
        rw [Zfp]
        rw [List.getElem?_take] at hj
        split at hj
        . rw [List.getElem?_drop] at hj
          rw [cell_of_row W b _ cur 106 (0,0) hB]
          simpa using hj
        . cases hj)
      hN (by simp [iT,kl]; omega) (fun v hv =>b6 v (by
        rw [hD] at hv
        obtain ⟨j,hj⟩:=List.getElem?_of_mem hv
        rw [List.getElem?_take] at hj
        split at hj
        . rw [List.getElem?_drop] at hj
          exact List.mem_of_getElem? (i:=i * 7 + j) (by rw [List.getElem?_take,if_pos (by omega)]; exact hj)
        . cases hj))
    rw [show Nat.min (n - i) (n + m - (i + m)) = n - i by simp only [Nat.min_def]; split <;> omega] at h
    rw [show R2.toArray.toList = R2 from rfl,<- hR3] at h
    exact h
  have iU:(W1.setRow w.heap.size R2.toArray).heap[w.heap.size]? = some (.cells R2.toArray 106 (0,0)):=setRow_heap _ _ _ _ _ _ mi
  have ko:(W1.setRow w.heap.size R2.toArray).heap[b]? = some (.cells cur 106 (0,0)):=by rw [setRow_other _ _ _ _ ly]; exact hWb
  have cq:Below w.heap.size w W1:=by
    rw [eA]
    exact ⟨rfl,rfl,rfl,by simp,fun k hk =>heap_alloc_old w.drew _ hk⟩
  have mixed:Tryz.prog.follows .mixedOrders = true:=by kernel_rfl
  have eE:w.drawn<=W1.drawn:=by rw [eA]; exact Nat.le_succ _
  have HW:=Lib.hid eE; clear eE
  have HF:=Lib.hid bw; clear bw
  have hGi : ¬ (G = i):=by omega
  have hGim : ¬ (G = i + m):=by omega
  have hci : ¬ (c = i):=by omega
  have hGM:=hGm
  unfold maxLen at hGM
  have hin:i<=n:=by omega
  have htn:((i:Int) + (m:Int)).toNat = i + m:=by omega
  have k6:IntKind.i64.wrap ((i:Int) + (m:Int)) = (i:Int) + (m:Int):=by rw [IntKind.wrap_i64]; omega
  have bk:(0:Int)<=(i:Int) + (m:Int):=by omega
  have hb3:(i:Int)<=(n:Int):=by omega
  rw [<- hV,<- hD]
  rw [<- eA] at hrz
  clear hV hD gA iT hR2 kl hR3 hRt hi0 iS cy jo aM hRs lU hik mi hWb hWv dJ bM b6 ke dl ce eA
  have HR3:=Lib.hid fJ; clear fJ
  go_enter Tryz.func276,Tryz.ntmps276
  go_wp2_with (first
    | (at_builtin; refine Lib.wpList_append_run _ rfl _ _ _ _ rfl _ _ rfl rfl _ _ (hrz _) ?_)
    | (at_builtin; refine wpList_copy_runI _ rfl _ _ 46 46 rfl _ _ rfl rfl (mj _ rfl _ _) ?_)
    | (at_builtin; refine wpList_copy_runI _ rfl _ _ 46 46 rfl _ _ rfl rfl (km _ (by first | exact iU | assumption) (by first | exact ko | assumption) _ _ _) ?_))
  go_region_law_o (refine step_copy_runI rfl _ _ 46 46 rfl (.slice (some ⟨w.heap.size,(i + m) * 7,none⟩) (n + m - (i + m)) (G - (i + m))) (.slice (some ⟨b,i * 7,none⟩) (n - i) (c - i)) (by simp [Act.eval,Act.put]) (by simp [Act.eval,Act.put]) (km (W1.setRow w.heap.size R2.toArray).drew iU ko 3 (G - (i + m)) (c - i)) ?_)
  go_wp2
  go_ret
  exact ⟨G,R3.toArray,rfl,Nat.le_trans HW.out (by simp [World.setRow]),⟨cq.os,cq.tape,cq.output,by simpa using cq.size,fun k hk =>by rw [setRow_other _ _ _ _ (by omega)]; exact (setRow_other _ _ _ _ (by omega)).trans (cq.block k hk)⟩,setRow_heap _ _ _ _ _ _ iU,hGn,hGm,HR3.out,HF.out⟩
set_option maxHeartbeats 4000000 in
set_option maxRecDepth 100000 in
theorem ZEB(bh:Option Addr)(n c vb m vc:Nat)(w w':World)(v':Value)(gZ:n<=c)(gw:c<=maxLen)(hm:0<m)(iD:bh=none->n=0)(ml:m<=maxLen)
  (hrun:∀ty,(Builtin.append_ #[46,46] ty #[.slice bh n c,.slice (some ⟨vb,0,none⟩) m vc]).run Tryz.prog w=.ok v' w') :
  Calls Tryz.prog 276 #[.slice bh n c,.int .i64 n,.slice (some ⟨vb,0,none⟩) m vc] w fun e b=>e=.returned v'/\w'=b:=by
 have hz1:¬((m:Int)=0):=by omega
 unfold maxLen at gw ml;cases bh with
 |none=>
  have d:=iD rfl;subst d
  go_enter Tryz.func276,Tryz.ntmps276
  go_wp2_with (at_builtin;refine Lib.wpList_append_run _ rfl _ _ _ _ rfl _ _ rfl rfl _ _ (hrun _) ?_)
  go_ret
  exact⟨rfl,rfl⟩
 |some a=>
  obtain⟨ab,ao,asp⟩:=a
  go_enter Tryz.func276,Tryz.ntmps276
  go_wp2_with (at_builtin;refine Lib.wpList_append_run _ rfl _ _ _ _ rfl _ _ rfl rfl _ _ (hrun _) ?_)
  all_goals (go_ret;exact⟨rfl,rfl⟩)
def Zbh(a:List Zaa)(b:Int)(c:List Zaa):Option (List Zaa):=need (0<=b/\b.toNat<=a.length/\0<c.length/\(a.length+c.length) * 56<=140737488355328/\a.length+c.length<=maxLen)<|some (a.take b.toNat++c++a.drop b.toNat)
theorem Zdc(g:List Zaa)(u:Int)(j r:List Zaa)(v:Zbh g u j=some r) :
  Yq 276 [(100000,.rows 106 7 g.length (Zap Zaa.c Zaa.d g)),(100001,.rows 106 7 j.length (Zap Zaa.c Zaa.d j))] [.one (.osl 100000 g.length),Yj u,.one (.osl 100001 j.length)]
   [(99999,.rows 106 7 r.length (Zap Zaa.c Zaa.d r))] (.one (.osl 99999 r.length)):=by
 obtain⟨⟨o1,o2,A,B,C⟩,v⟩:=Zar v;cases v;obtain⟨i0,hi0,cy,iS,jo⟩:=ZJE.info (t:=106) (show ZeI tab 106=some _ from rfl);have h:=ZBF (enc:=Zaa.c) (d:=Zaa.d) (F:=276) (BY:=56) (K:=7) ⟨_,Tryz.func276,rfl,rfl⟩ Tryz.underlying46 hi0 jo cy iS rfl (by decide) (fun b n c i vb m vc cur aL w k l o p q s x y z a e f=>ZAd b n c i vb m vc cur aL w k l o p q s x y z a e f)
  (fun b n c i vb m vc cur aL w k l o p q s x y z a e f=>ZBG b n c i vb m vc cur aL w k l o p q s x y z a e f)
  (fun bh n c vb m vc w w' v' k l o p q s=>ZEB bh n c vb m vc w w' v' k l o p q s) g j u.toNat o2 A B C
 rw[Int.toNat_of_nonneg o1]at h;exact h
def Znz(a c0:Zaa):Option Bool:=(Zii a.fEnd c0.fEnd).bind fun b=>some (decide (b>(0:Int)))
theorem ZvJ(b c0:Zaa)(r:Bool)(a:Znz b c0=some r):Yp 274 [.agg (Zaa.c b),.one (.rp false 7 (fun j=>(Zaa.c c0:List C).getD (0+j) .junk))] (Yk r):=by
 refine Yw Tryz.func274 fun S0 w0=>?_;unfold Znz at a;obtain⟨d,e,a⟩:=Zac a;apply Ya a 4 [rz,rA [(4,aI d)]] [] (.c (Zok _ _ _ e) .n)
def ZaQ(c:List Zaa)(a:Zaa):Nat->Int->Int->Option Int|0,_,_=>none|fu+1,e,b=>bif(decide (b<e))then need (0<=b/\b<(c.length:Int))<|(Znz (c.getD b.toNat Zaa.d) a).bind fun f=>bif f then some b else ZaQ c a fu e (ZaA b 1)else some (-1:Int)
theorem ZgJ(S0:Nat->Prop)(w0:ZaW)(k:List Zaa)(b:Zaa):∀(f:Nat)(d e r:Int),ZaQ k b f d e=some r->Ys 19 S0 w0 Tryz.f273 (Yj r) [1,0,1,0] ⟨[(0,(Ym k)),(1,.one (.clo (.func 274) 0 1 (fun i=>([]:List C).getD i .junk) (fun i=>([.rp false 7 (fun j=>(Zaa.c b:List C).getD (0+j) .junk)]:List C).getD i .junk))),(7,(Yj d)),(8,(Yj e))],[]⟩:=by
 intro f;induction f with
 |zero=>
  intro d e r a;simp[ZaQ]at a
 |succ f m=>
  intro d e r a;unfold ZaQ at a;obtain⟨g,a⟩|⟨g,a⟩:=Zaj a
  .obtain⟨o2,a⟩:=Zar a;obtain⟨l,o,a⟩:=Zac a;have O1:Obl _:=(.c g (.c o2 (.c (ZvJ _ _ _ o) .n)));obtain⟨h,a⟩|⟨h,a⟩:=Zaj a
   .apply Ya a 15 [rz,rz,rA [(5,aB l)],rz] [true,true] (O1.app (.c h .n))
   .exact Ye 17 [rz,rz,rA [(5,aB l)],rz] [true,false] (Yi [0,1,7,8]) (O1.app (.c h .n)) (m d (ZaA e 1) r a)
  .apply Ya a 8 [rz,rz] [false] (.c g .n)
def ZbF(b:List Zaa)(a:Zaa):Option Int:=ZaQ b a (((b.length:Int)-(0:Int)).toNat+2) (b.length:Int) (0:Int)
theorem Zhy(b:List Zaa)(a:Zaa)(r:Int)(d:ZbF b a=some r):Yp 273 [Ym b,.one (.clo (.func 274) 0 1 (fun i=>([]:List C).getD i .junk) (fun i=>([.rp false 7 (fun j=>(Zaa.c a:List C).getD (0+j) .junk)]:List C).getD i .junk))] (Yj r):=by
 refine Yw Tryz.func273 fun S0 w0=>?_;unfold ZbF at d;exact Ye 6 [rz,rz] [] (Yi [0,1,7,8]) .n (ZgJ S0 w0 b a (((b.length:Int)-(0:Int)).toNat+2) (b.length:Int) (0:Int) r d)
def Zoz(a:List Zaa)(b:Zaa)(d:Int):Option ((List Zaa)×Int):=(ZhP b).bind fun e=>bif(!e)then some (([]:(List Zaa)),(1:Int))else(ZiC a b.fEnd).bind fun f=>bif(decide (f>=(0:Int)))then some (([]:(List Zaa)),(7:Int))else bif(decide ((a.length:Int)>=d))then some (([]:(List Zaa)),(5:Int))else(ZbF a b).bind fun c=>bif(decide (c<(0:Int)))then(ZaU a).bind fun g=>(Zbh g (a.length:Int) ([b]:List Zaa)).bind fun h=>some (h,(0:Int))else(ZaU a).bind fun i=>(Zbh i c ([b]:List Zaa)).bind fun j=>some (j,(0:Int))
theorem ZyG(v:List Zaa)(b:Zaa)(w:Int)(r:((List Zaa)×Int))(a:Zoz v b w=some r):Yp 202 [Ym v,.agg (Zaa.c b),Yj w] (.tup [(false,(cLs 7 Zaa.c Zaa.d) r.1),(false,(cI .i64) r.2)]):=by
 refine Yw Tryz.func202 fun S0 w0=>?_;unfold Zoz at a;obtain⟨f,x,a⟩:=Zac a;obtain⟨h,a⟩|⟨h,a⟩:=Zaj a
 .apply Yb a 9 [rz,rA [(1,aB f)],rz] [true] [] [] [(6,[(0,cL 7 Zaa.c Zaa.d [])])] (.c (Zjy _ _ x) (.c h .n))
 .obtain⟨k,y,a⟩:=Zac a;have O1:Obl _:=(.c (Zjy _ _ x) (.c h (.c (Zln _ _ _ y) .n)));obtain⟨g,a⟩|⟨g,a⟩:=Zaj a
  .apply Yb a 12 [rz,rA [(1,aB f)],rA [(3,aI k)],rz] [false,true] [] [] [(6,[(0,cL 7 Zaa.c Zaa.d [])])] (O1.app (.c g .n))
  .obtain⟨l,a⟩|⟨l,a⟩:=Zaj a
   .apply Yb a 15 [rz,rA [(1,aB f)],rA [(3,aI k)],rz,rz] [false,false,true] [] [] [(6,[(0,cL 7 Zaa.c Zaa.d [])])] (O1.app (.c g (.c l .n)))
   .obtain⟨z,A,a⟩:=Zac a
    let R2:List RA:=[rz,rA [(1,aB f)],rA [(3,aI k)],rz,⟨[(2,aI z)],[],[(1,[4])],[],[],[],[]⟩,rz]
    have O3:Obl _:=(O1.app (.c g (.c l (.c (Zhy _ _ _ A) .n))));obtain⟨m,a⟩|⟨m,a⟩:=Zaj a
    .obtain⟨o,p,B,C,a⟩:=Yv a;apply Yb a 24 (R2++[rz,rH [(4,.c ([b]:List Zaa).length (Zap Zaa.c Zaa.d ([b]:List Zaa)))] [(1,⟨[],[(99999,32)],[(99999,.rows 106 7 o.length (Zap Zaa.c Zaa.d o))],.one (.osl 99999 o.length)⟩),(5,⟨[(100000,32),(100001,35)],[(99999,36)],[(99999,.rows 106 7 p.length (Zap Zaa.c Zaa.d p))],.one (.osl 99999 p.length)⟩)]]) [false,false,false,true] [36] [] [] (O3.app (.c m (.c (ZbW _ _ B) (.c (show ([b]:List Zaa).length=1 from rfl) (.c (show ∀i j,i<1->j<7->Zap Zaa.c Zaa.d ([b]:List Zaa) i j=(([b]:List Zaa).flatMap Zaa.c).getD (i * 7+j) .junk from(fun i j hi hj=>ZaO (sz:=7) (e:=Zaa.c) (d:=Zaa.d) (fun _=>rfl) ([b]:List Zaa) i j hi hj)) (.c (Zdc _ _ _ _ C) .n))))))
    .obtain⟨q,s,t,u,a⟩:=Yv a;apply Yb a 24 (R2++[rH [(4,.c ([b]:List Zaa).length (Zap Zaa.c Zaa.d ([b]:List Zaa)))] [(1,⟨[],[(99999,32)],[(99999,.rows 106 7 q.length (Zap Zaa.c Zaa.d q))],.one (.osl 99999 q.length)⟩),(5,⟨[(100000,32),(100001,35)],[(99999,36)],[(99999,.rows 106 7 s.length (Zap Zaa.c Zaa.d s))],.one (.osl 99999 s.length)⟩)]]) [false,false,false,false] [36] [] [] (O3.app (.c m (.c (ZbW _ _ t) (.c (show ([b]:List Zaa).length=1 from rfl) (.c (show ∀i j,i<1->j<7->Zap Zaa.c Zaa.d ([b]:List Zaa) i j=(([b]:List Zaa).flatMap Zaa.c).getD (i * 7+j) .junk from(fun i j hi hj=>ZaO (sz:=7) (e:=Zaa.c) (d:=Zaa.d) (fun _=>rfl) ([b]:List Zaa) i j hi hj)) (.c (Zdc _ _ _ _ u) .n))))))
def ZhB(c:ZaI)(u:Zao):Option (Tout Zaq):=(ZeL u (1:Int) false).bind fun v=>(match v with | .ret w d=>(Zjn).bind fun t=>(ZcH d t false).bind fun x=>(match x with | .ret e b=>(ZmA c.fx.fEnd c.fx.fNow).bind fun y=>(Zoz e.fBook y c.fc.fMaxBook).bind fun a=>bif(a.2==(0:Int))then(ZeZ b t (Zah.mk 0 (Zab.mk (Zan.mk (Zai.mk false 0 0) 0) false 0 (ZaD.mk 0 0) 0 0) ([]:(List Zaf)) a.1) true).bind fun z=>(match z with | .ret A f=>(Zdb f (1:Int) (a.2 != (0:Int))).bind fun B=>(match B with | .ret C g=>(Zep a.2).bind fun D=>some (Tout.ret D g) | .pan h=>some (Tout.pan h) | .bad i=>some (Tout.bad i)) | .pan j=>some (Tout.pan j) | .bad k=>some (Tout.bad k))else(Zdb b (1:Int) (a.2 != (0:Int))).bind fun E=>(match E with | .ret F l=>(Zep a.2).bind fun m=>some (Tout.ret m l) | .pan n=>some (Tout.pan n) | .bad o=>some (Tout.bad o)) | .pan p=>some (Tout.pan p) | .bad q=>some (Tout.bad q)) | .pan r=>some (Tout.pan r) | .bad s=>some (Tout.bad s))
theorem Zis(u:ZaI)(v:Zao)(r:(Tout Zaq))(a:ZhB u v=some r):Yr 112 [(100000,.box (Zao.c v))] [.agg (ZaI.c u),.one (.ifc 112 (.ptr 100000 0))] (oc (fun x=>.agg (Zaq.c x)) r):=by
 refine ZfZ.of Tryz.func112 rfl rfl rfl rfl fun S0 w0=>?_;unfold ZhB at a;obtain⟨z,g,a⟩:=Zac a;cases z with
 |ret A h=>
  dsimp only at a;obtain⟨e,w,a⟩:=Zac a
  let R1:List RA:=[rz,rH [(1,.id 464)] [(1,⟨[(100000,100000)],[],[(100000,.box (Zao.c h))],.tup []⟩)]]
  have O2:Obl _:=(.c (Zco _ _ _ _ g) (.c Zjf (.c (ZjQ _ w) (.c Zla .n))));obtain⟨B,i,a⟩:=Zac a;cases B with
  |ret j k=>
   dsimp only at a;obtain⟨C,D,a⟩:=Zac a;obtain⟨y,E,a⟩:=Zac a
   let R3:List RA:=(R1++[rH [(1,aG (Zay.c e)),(5,.id 463),(13,aG (Zaa.c C)),(17,.r (.tup [(false,(cLs 7 Zaa.c Zaa.d) y.1),(false,(cI .i64) y.2)]) [])] [(5,⟨[(100000,100000)],[],[(100000,.box (Zao.c k))],.agg (Zah.c j)⟩)],rz])
   have O4:Obl _:=(O2.app (.c (ZaX _ _ _ _ i) (.c ZeQ (.c (ZwE _ _ _ D) (.c (ZyG _ _ _ _ E) .n)))));obtain⟨f,a⟩|⟨f,a⟩:=Zaj a
   .have O5:Obl _:=(O4.app (.c f (.c (ZjQ _ w) (.c ZoP .n))));obtain⟨F,l,a⟩:=Zac a;cases F with
    |ret G m=>
     dsimp only at a
     let R6:List RA:=(R3++[⟨[(1,aG (Zay.c e)),(7,.id 467)],[],[],[],[(3,[(11,cL 5 Zaf.c Zaf.d [])])],[],[(7,⟨[(100000,100000)],[],[(100000,.box (Zao.c m))],.tup []⟩)]⟩])
     have O7:Obl _:=(O5.app (.c (ZcP _ _ _ _ _ l) (.c ZjK .n)));obtain⟨H,o,a⟩:=Zac a;cases H with
     |ret I p=>
      dsimp only at a;obtain⟨J,K,a⟩:=Zac a;obtain rfl:=oi a;exact Yd 15 (R6++[rH [(3,.id 462)] [(3,⟨[(100000,100000)],[],[(100000,.box (Zao.c p))],.tup []⟩)],rA [(1,aG (Zaq.c J))]]) [true] ⟨[],[],[],[],[],[4],[4,100000],[]⟩ (O7.app (.c (Zbw _ _ _ _ o) (.c ZgE (.c (Zfa _ _ K) .n))))
     |_=>
      dsimp only at a;obtain rfl:=oi a;exact Yh 12 R6 [true] (rA [(3,.id 462)]) 3 ⟨[(100000,100000)],pvOf o⟩ (O7.app (.c (Zbw _ _ _ _ o) (.c ZgE .n)))
    |_=>
     dsimp only at a;obtain rfl:=oi a;exact Yh 10 R3 [true] (⟨[(1,aG (Zay.c e)),(7,.id 467)],[],[],[],[(3,[(11,cL 5 Zaf.c Zaf.d [])])],[],[]⟩) 7 ⟨[(100000,100000)],pvOf l⟩ (O5.app (.c (ZcP _ _ _ _ _ l) (.c ZjK .n)))
   .obtain⟨L,b,a⟩:=Zac a;cases L with
    |ret M q=>
     dsimp only at a;obtain⟨s,t,a⟩:=Zac a;obtain rfl:=oi a;exact Yd 15 (R3++[rH [(3,.id 462)] [(3,⟨[(100000,100000)],[],[(100000,.box (Zao.c q))],.tup []⟩)],rA [(1,aG (Zaq.c s))]]) [false] ⟨[],[],[],[],[],[4],[4,100000],[]⟩ (O4.app (.c f (.c (Zbw _ _ _ _ b) (.c ZgE (.c (Zfa _ _ t) .n)))))
    |_=>
     dsimp only at a;obtain rfl:=oi a;exact Yh 12 R3 [false] (rA [(3,.id 462)]) 3 ⟨[(100000,100000)],pvOf b⟩ (O4.app (.c f (.c (Zbw _ _ _ _ b) (.c ZgE .n))))
  |_=>
   dsimp only at a;obtain rfl:=oi a;exact Yh 5 R1 [] (rA [(1,aG (Zay.c e)),(5,.id 463)]) 5 ⟨[(100000,100000)],pvOf i⟩ (O2.app (.c (ZaX _ _ _ _ i) (.c ZeQ .n)))
 |_=>
  dsimp only at a;obtain rfl:=oi a;exact Yh 3 [rz] [] (rA [(1,.id 464)]) 1 ⟨[(100000,100000)],pvOf g⟩ (.c (Zco _ _ _ _ g) (.c Zjf .n))
def Zle(b:Zau)(a:ZaB):Option ZhI:=(ZlJ a).bind fun c=>bif(!c)then some (ZhI.c109 (ZaI.mk b a))else bif(a.fKind==(3:Int))then some (ZhI.c110 (ZaI.mk b a))else bif(a.fKind==(4:Int))then some (ZhI.c111 (ZaI.mk b a))else bif(a.fKind==(13:Int))then some (ZhI.c112 (ZaI.mk b a))else some (ZhI.c109 (ZaI.mk b a))
theorem Zgf(i:Zau)(j:ZaB)(r:ZhI)(a:Zle i j=some r):Yp 44 [.agg (Zau.c i),.agg (ZaB.c j)] (.one (ZhI.c r)):=by
 refine Yw Tryz.func44 fun S0 w0=>?_;unfold Zle at a;obtain⟨b,f,a⟩:=Zac a;obtain⟨d,a⟩|⟨d,a⟩:=Zaj a
 .apply Ya a 10 [rz,rz,rA [(1,aB b)],rz] [true] (.c (ZmK _ _ f) (.c d .n))
 .obtain⟨g,a⟩|⟨g,a⟩:=Zaj a
  .apply Ya a 18 [rz,rz,rA [(1,aB b)],rz,rz,rz] [false,true] (.c (ZmK _ _ f) (.c d (.c g .n)))
  .have O1:Obl _:=(.c (ZmK _ _ f) (.c d (.c g .n)));obtain⟨e,a⟩|⟨e,a⟩:=Zaj a
   .apply Ya a 21 [rz,rz,rA [(1,aB b)],rz,rz,rz,rz] [false,false,true] (O1.app (.c e .n))
   .obtain⟨h,a⟩|⟨h,a⟩:=Zaj a
    .apply Ya a 24 [rz,rz,rA [(1,aB b)],rz,rz,rz,rz,rz] [false,false,false,true] (O1.app (.c e (.c h .n)))
    .apply Ya a 26 [rz,rz,rA [(1,aB b)],rz,rz,rz,rz,rz] [false,false,false,false] (O1.app (.c e (.c h .n)))
def Zyi:Tout Zaq->ZaV | .ret x _=>⟨ZaJ.d,x,true,false⟩ | .pan op=>⟨op,Zaq.d,false,false⟩ | .bad _=>⟨ZaJ.d,Zaq.d,false,true⟩
def ZJz:List C:=[.lit (.int .i64 (0)),.lit (.int .i64 (0)),.lit (.int .i64 (0)),.lit (.int .i64 (0)),.lit (.int .i64 (0)),.lit (.int .i64 (0)),.lit (.int .i64 (0)),.lit (.int .i64 (0)),.lit (.bool false),.lit (.int .u64 (0)),.lit (.int .u64 (0)),.lit (.int .i64 (0)),.lit (.bool false),.lit (.int .i64 (0)),.lit (.int .i64 (0)),.lit (.int .i64 (0)),.lit (.int .i64 (0)),.lit (.int .i64 (0)),.lit (.slice none 0 0),.lit (.slice none 0 0),.lit (.bool false),.lit (.int .i64 (0)),.lit (.bool false),.lit (.int .u64 (0)),.lit (.int .u64 (0)),.lit (.int .i64 (0)),.lit (.int .i64 (0)),.lit (.int .i64 (0)),.lit (.slice none 0 0),.lit (.bool false),.lit (.bool false)]
def ZKV:List (Nat×C):=[(18,cL 5 Zaf.c Zaf.d []),(19,cL 7 Zaa.c Zaa.d [])]
def ZKU:List (Nat×C):=[(28,cL 10 Zab.c Zab.d [])]
theorem ZJY:∀w,(do eqGuard .eql 20 (.tmp 4) (.const .nilIface) .nilIface .nilIface;binOp .eql 20 .nilIface .nilIface:Sem Value).run Tryz.prog w=.ok (.bool true) w:=by
 intro w;have hg:(eqGuard .eql 20 (.tmp 4) (.const .nilIface) .nilIface .nilIface).run Tryz.prog w=.ok () w:=by simp[eqGuard]
 rw[Sem.run_bind,hg,Result.andThen_ok];have h:∀d:Nat,(Op.equalIn (d+1) 20 .nilIface .nilIface).run Tryz.prog w=.ok true w:=fun d=>by simp[Op.equalIn,run_underlying Tryz.underlying20]
 simp only[binOp];simp[Op.equal,Op.maxDepth,h 9999]
theorem Zsj(x:Zaq)(g:Zao):ZCz Tryz.prog 65 (ZJz.take 21++Zaq.c x++[.lit (.bool true),.lit (.bool false)]) none (ZaV.c (Zyi (.ret x g))):=by
 intro no S m w hS aT hrep;refine Zwf (i:=0) (d:=4) (xv:=.one (.lit .nilIface)) (x:=.nilIface) (u':=.returning) Tryz.func65 rfl (fun ρ w=>by simp[go_sem]) rfl rfl rfl (by kernel_rfl) (by kernel_rfl) hS aT hrep (fun c₀ cs hu=>by cases c₀;cases hu;simp[recoverD]) RepC.lit rfl ?_;exact Zbz Zal 6 [rA [(0,.r (Yk true) [])],rz] [true] ⟨[],[(100000,ZKV)],[],[],[],[],[100000],[]⟩ (.c ZJY (.c (show true=true from rfl) .n)) (by kernel_rfl)
theorem Zuo(op:ZaJ):ZCz Tryz.prog 65 ZJz (some (.one (.ifa 111 21 (fun i=>(ZaJ.c op).getD i .junk)))) (ZaV.c (Zyi (.pan op))):=by
 intro no S m w hS aT hrep x hx;refine Zwf (i:=0) (d:=4) (xv:=_) (x:=x) (u':=.panicking [{ v:=x,recovered:=true }]) Tryz.func65 rfl (fun ρ w=>by simp[go_sem]) rfl rfl rfl (by kernel_rfl) (by kernel_rfl) hS aT hrep (fun c₀ cs hu=>by cases c₀;cases hu;simp[recoverD]) hx (by kernel_rfl) ?_;exact Zbz Zal 11 [rz,rz,rz,rz] [false,true] ⟨[],[(100000,ZKU)],[],[],[],[],[100000],[]⟩ (.c (show false=false from rfl) (.c (show true=true from rfl) .n)) (by kernel_rfl)
theorem Zup(s:ByteArray):ZCz Tryz.prog 65 ZJz (some (.one (.ifc 9 (.lit (.string s))))) (ZaV.c (Zyi (.bad s))):=by
 intro no S m w hS aT hrep x hx;refine Zwf (i:=0) (d:=4) (xv:=_) (x:=x) (u':=.panicking [{ v:=x,recovered:=true }]) Tryz.func65 rfl (fun ρ w=>by simp[go_sem]) rfl rfl rfl (by kernel_rfl) (by kernel_rfl) hS aT hrep (fun c₀ cs hu=>by cases c₀;cases hu;simp[recoverD]) hx (by kernel_rfl) ?_;exact Zbz Zal 11 [rz,rz,rz,rz] [false,false] ⟨[],[(100000,ZKV++ZKU)],[],[],[],[],[100000],[]⟩ (.c (show false=false from rfl) (.c (show false=false from rfl) .n)) (by kernel_rfl)
def Ziq(c0:ZaI)(a:List Zah):Option ZaV:=(Zhz c0 ⟨a⟩).map Zyi
theorem Znv(c0:ZaI)(a:List Zah)(r:ZaV)(b:Ziq c0 a=some r):ZiG Tryz.prog 21 [.one (.clo (.func 109) 1 0 (fun i=>([.agv 28 (fun j=>(ZaI.c c0).getD j .junk)]:List C).getD i .junk) (fun i=>([]:List C).getD i .junk)),.one (cLn 13 Zah.c Zah.d a)] (.agg (ZaV.c r)):=by
 obtain⟨o,ho,rfl⟩:=Option.map_eq_some_iff.1 b;have bf:∀p w,(invoke (.fn (.func 65) #[p]) #[]).run Tryz.prog w=.ok (.enter 65 #[p]) w:=fun p w=>by simp[go_sem]
 cases o with
 |ret x g=>
  exact ZiG.defR rz rz (rH [] [(5,⟨[(100000,9)],[],[(100000,.box (Zao.c g))],.agg (Zaq.c x)⟩)]) 5 4 65 Zal Tryz.func21 rfl rfl rfl rfl rfl rfl (fun ρ w p h=>by simp[go_sem,h]) (by kernel_rfl) bf rfl rfl
   (.c (show Tryz.prog.concrete 112=true from by kernel_rfl) (.c (Zir c0 ⟨a⟩ (.ret x g) ho) .n)) (by kernel_rfl) (Zsj x g) (by kernel_rfl) (by kernel_rfl) (by kernel_rfl)
 |pan op=>
  exact ZiG.defP rz rz rz 5 4 65 5 ⟨[(100000,9)],.one (.ifa 111 21 (fun i=>(ZaJ.c op).getD i .junk))⟩ Zal Tryz.func21 rfl rfl rfl rfl rfl rfl (fun ρ w p h=>by simp[go_sem,h]) (by kernel_rfl) bf rfl rfl
   (.c (show Tryz.prog.concrete 112=true from by kernel_rfl) (.c (Zir c0 ⟨a⟩ (.pan op) ho) .n)) (by kernel_rfl) (Zuo op) (by kernel_rfl) (by kernel_rfl) (by kernel_rfl)
 |bad s=>
  exact ZiG.defP rz rz rz 5 4 65 5 ⟨[(100000,9)],.one (.ifc 9 (.lit (.string s)))⟩ Zal Tryz.func21 rfl rfl rfl rfl rfl rfl (fun ρ w p h=>by simp[go_sem,h]) (by kernel_rfl) bf rfl rfl
   (.c (show Tryz.prog.concrete 112=true from by kernel_rfl) (.c (Zir c0 ⟨a⟩ (.bad s) ho) .n)) (by kernel_rfl) (Zup s) (by kernel_rfl) (by kernel_rfl) (by kernel_rfl)
def Zkj(c0:ZaI)(a:List Zah):Option ZaV:=(Zic c0 ⟨a⟩).map Zyi
theorem Znu(c0:ZaI)(a:List Zah)(r:ZaV)(b:Zkj c0 a=some r):ZiG Tryz.prog 21 [.one (.clo (.func 110) 1 0 (fun i=>([.agv 28 (fun j=>(ZaI.c c0).getD j .junk)]:List C).getD i .junk) (fun i=>([]:List C).getD i .junk)),.one (cLn 13 Zah.c Zah.d a)] (.agg (ZaV.c r)):=by
 obtain⟨o,ho,rfl⟩:=Option.map_eq_some_iff.1 b;have bf:∀p w,(invoke (.fn (.func 65) #[p]) #[]).run Tryz.prog w=.ok (.enter 65 #[p]) w:=fun p w=>by simp[go_sem]
 cases o with
 |ret x g=>
  exact ZiG.defR rz rz (rH [] [(5,⟨[(100000,9)],[],[(100000,.box (Zao.c g))],.agg (Zaq.c x)⟩)]) 5 4 65 Zal Tryz.func21 rfl rfl rfl rfl rfl rfl (fun ρ w p h=>by simp[go_sem,h]) (by kernel_rfl) bf rfl rfl
   (.c (show Tryz.prog.concrete 112=true from by kernel_rfl) (.c (ZiZ c0 ⟨a⟩ (.ret x g) ho) .n)) (by kernel_rfl) (Zsj x g) (by kernel_rfl) (by kernel_rfl) (by kernel_rfl)
 |pan op=>
  exact ZiG.defP rz rz rz 5 4 65 5 ⟨[(100000,9)],.one (.ifa 111 21 (fun i=>(ZaJ.c op).getD i .junk))⟩ Zal Tryz.func21 rfl rfl rfl rfl rfl rfl (fun ρ w p h=>by simp[go_sem,h]) (by kernel_rfl) bf rfl rfl
   (.c (show Tryz.prog.concrete 112=true from by kernel_rfl) (.c (ZiZ c0 ⟨a⟩ (.pan op) ho) .n)) (by kernel_rfl) (Zuo op) (by kernel_rfl) (by kernel_rfl) (by kernel_rfl)
 |bad s=>
  exact ZiG.defP rz rz rz 5 4 65 5 ⟨[(100000,9)],.one (.ifc 9 (.lit (.string s)))⟩ Zal Tryz.func21 rfl rfl rfl rfl rfl rfl (fun ρ w p h=>by simp[go_sem,h]) (by kernel_rfl) bf rfl rfl
   (.c (show Tryz.prog.concrete 112=true from by kernel_rfl) (.c (ZiZ c0 ⟨a⟩ (.bad s) ho) .n)) (by kernel_rfl) (Zup s) (by kernel_rfl) (by kernel_rfl) (by kernel_rfl)
def Zki(c0:ZaI)(a:List Zah):Option ZaV:=(ZgM c0 ⟨a⟩).map Zyi
theorem Znt(c0:ZaI)(a:List Zah)(r:ZaV)(b:Zki c0 a=some r):ZiG Tryz.prog 21 [.one (.clo (.func 111) 1 0 (fun i=>([.agv 28 (fun j=>(ZaI.c c0).getD j .junk)]:List C).getD i .junk) (fun i=>([]:List C).getD i .junk)),.one (cLn 13 Zah.c Zah.d a)] (.agg (ZaV.c r)):=by
 obtain⟨o,ho,rfl⟩:=Option.map_eq_some_iff.1 b;have bf:∀p w,(invoke (.fn (.func 65) #[p]) #[]).run Tryz.prog w=.ok (.enter 65 #[p]) w:=fun p w=>by simp[go_sem]
 cases o with
 |ret x g=>
  exact ZiG.defR rz rz (rH [] [(5,⟨[(100000,9)],[],[(100000,.box (Zao.c g))],.agg (Zaq.c x)⟩)]) 5 4 65 Zal Tryz.func21 rfl rfl rfl rfl rfl rfl (fun ρ w p h=>by simp[go_sem,h]) (by kernel_rfl) bf rfl rfl
   (.c (show Tryz.prog.concrete 112=true from by kernel_rfl) (.c (Zik c0 ⟨a⟩ (.ret x g) ho) .n)) (by kernel_rfl) (Zsj x g) (by kernel_rfl) (by kernel_rfl) (by kernel_rfl)
 |pan op=>
  exact ZiG.defP rz rz rz 5 4 65 5 ⟨[(100000,9)],.one (.ifa 111 21 (fun i=>(ZaJ.c op).getD i .junk))⟩ Zal Tryz.func21 rfl rfl rfl rfl rfl rfl (fun ρ w p h=>by simp[go_sem,h]) (by kernel_rfl) bf rfl rfl
   (.c (show Tryz.prog.concrete 112=true from by kernel_rfl) (.c (Zik c0 ⟨a⟩ (.pan op) ho) .n)) (by kernel_rfl) (Zuo op) (by kernel_rfl) (by kernel_rfl) (by kernel_rfl)
 |bad s=>
  exact ZiG.defP rz rz rz 5 4 65 5 ⟨[(100000,9)],.one (.ifc 9 (.lit (.string s)))⟩ Zal Tryz.func21 rfl rfl rfl rfl rfl rfl (fun ρ w p h=>by simp[go_sem,h]) (by kernel_rfl) bf rfl rfl
   (.c (show Tryz.prog.concrete 112=true from by kernel_rfl) (.c (Zik c0 ⟨a⟩ (.bad s) ho) .n)) (by kernel_rfl) (Zup s) (by kernel_rfl) (by kernel_rfl) (by kernel_rfl)
def Zkh(c0:ZaI)(a:List Zah):Option ZaV:=(ZhB c0 ⟨a⟩).map Zyi
theorem Zns(c0:ZaI)(a:List Zah)(r:ZaV)(b:Zkh c0 a=some r):ZiG Tryz.prog 21 [.one (.clo (.func 112) 1 0 (fun i=>([.agv 28 (fun j=>(ZaI.c c0).getD j .junk)]:List C).getD i .junk) (fun i=>([]:List C).getD i .junk)),.one (cLn 13 Zah.c Zah.d a)] (.agg (ZaV.c r)):=by
 obtain⟨o,ho,rfl⟩:=Option.map_eq_some_iff.1 b;have bf:∀p w,(invoke (.fn (.func 65) #[p]) #[]).run Tryz.prog w=.ok (.enter 65 #[p]) w:=fun p w=>by simp[go_sem]
 cases o with
 |ret x g=>
  exact ZiG.defR rz rz (rH [] [(5,⟨[(100000,9)],[],[(100000,.box (Zao.c g))],.agg (Zaq.c x)⟩)]) 5 4 65 Zal Tryz.func21 rfl rfl rfl rfl rfl rfl (fun ρ w p h=>by simp[go_sem,h]) (by kernel_rfl) bf rfl rfl
   (.c (show Tryz.prog.concrete 112=true from by kernel_rfl) (.c (Zis c0 ⟨a⟩ (.ret x g) ho) .n)) (by kernel_rfl) (Zsj x g) (by kernel_rfl) (by kernel_rfl) (by kernel_rfl)
 |pan op=>
  exact ZiG.defP rz rz rz 5 4 65 5 ⟨[(100000,9)],.one (.ifa 111 21 (fun i=>(ZaJ.c op).getD i .junk))⟩ Zal Tryz.func21 rfl rfl rfl rfl rfl rfl (fun ρ w p h=>by simp[go_sem,h]) (by kernel_rfl) bf rfl rfl
   (.c (show Tryz.prog.concrete 112=true from by kernel_rfl) (.c (Zis c0 ⟨a⟩ (.pan op) ho) .n)) (by kernel_rfl) (Zuo op) (by kernel_rfl) (by kernel_rfl) (by kernel_rfl)
 |bad s=>
  exact ZiG.defP rz rz rz 5 4 65 5 ⟨[(100000,9)],.one (.ifc 9 (.lit (.string s)))⟩ Zal Tryz.func21 rfl rfl rfl rfl rfl rfl (fun ρ w p h=>by simp[go_sem,h]) (by kernel_rfl) bf rfl rfl
   (.c (show Tryz.prog.concrete 112=true from by kernel_rfl) (.c (Zis c0 ⟨a⟩ (.bad s) ho) .n)) (by kernel_rfl) (Zup s) (by kernel_rfl) (by kernel_rfl) (by kernel_rfl)
def ZhM(f:Zau)(g:ZaB)(e:List Zah):Option ZaV:=(Zle f g).bind fun h=>(match h with | .c109 a=>(Ziq a e).bind fun i=>some i | .c110 b=>(Zkj b e).bind fun j=>some j | .c111 c=>(Zki c e).bind fun k=>some k | .c112 d=>(Zkh d e).bind fun l=>some l)
theorem ZrC(i:Zau)(j:ZaB)(k:List Zah)(r:ZaV)(a:ZhM i j k=some r):Yp 42 [.agg (Zau.c i),.agg (ZaB.c j),.one (cL 13 Zah.c Zah.d k)] (.agg (ZaV.c r)):=by
 refine Yw Tryz.func42 fun S0 w0=>?_;unfold ZhM at a;obtain⟨l,h,a⟩:=Zac a;cases l with
 |c109 b=>
  dsimp only at a;obtain⟨m,o,a⟩:=Zac a;apply Ya a 4 [rz,rH [(2,.r (.one (ZhI.c (ZhI.c109 b))) [])] [(4,⟨[(99997,99997)],[],[],.agg (ZaV.c m)⟩)]] [] (.c (Zgf _ _ _ h) (.c (Znv _ _ _ o) .n))
 |c110 e=>
  dsimp only at a;obtain⟨p,q,a⟩:=Zac a;apply Ya a 4 [rz,rH [(2,.r (.one (ZhI.c (ZhI.c110 e))) [])] [(4,⟨[(99997,99997)],[],[],.agg (ZaV.c p)⟩)]] [] (.c (Zgf _ _ _ h) (.c (Znu _ _ _ q) .n))
 |c111 f=>
  dsimp only at a;obtain⟨s,t,a⟩:=Zac a;apply Ya a 4 [rz,rH [(2,.r (.one (ZhI.c (ZhI.c111 f))) [])] [(4,⟨[(99997,99997)],[],[],.agg (ZaV.c s)⟩)]] [] (.c (Zgf _ _ _ h) (.c (Znt _ _ _ t) .n))
 |c112 g=>
  dsimp only at a;obtain⟨u,v,a⟩:=Zac a;apply Ya a 4 [rz,rH [(2,.r (.one (ZhI.c (ZhI.c112 g))) [])] [(4,⟨[(99997,99997)],[],[],.agg (ZaV.c u)⟩)]] [] (.c (Zgf _ _ _ h) (.c (Zns _ _ _ v) .n))
def Zdp:Option Bool:=(Zja).bind fun b=>need (0<=(2:Int)/\(2:Int)<=(2:Int)/\(2:Int)<=140737488355328/\(2:Int) * 136<=140737488355328)<|(ZhM b (ZaB.mk 13 (Zan.mk (Zai.mk false 0 1) 80) (Zag.mk (Zai.mk false 0 0) 0) 0 0 false) (List.replicate (2:Int).toNat Zah.d)).bind fun a=>need (0<=(4:Int)/\(4:Int)<=(4:Int)/\(4:Int)<=140737488355328/\(4:Int) * 136<=140737488355328)<|(ZhM b (ZaB.mk 13 (Zan.mk (Zai.mk false 0 1) 80) (Zag.mk (Zai.mk false 0 0) 0) 0 0 false) (List.replicate (4:Int).toNat Zah.d)).bind fun c=>bif(a.fOp.fKind==(6:Int))then bif a.fOp.fMark then bif((a.fOp.fVal.fBook.length:Int)==(1:Int))then bif c.fDone then some (c.fReply.fCode==(0:Int))else some false else some false else some false else some false
theorem Zgc(r:Bool)(a:Zdp=some r):Yp 40 [] (Yk r):=by
 refine Yw Tryz.func40 fun S0 w0=>?_;unfold Zdp at a;obtain⟨l,m,a⟩:=Zac a;obtain⟨o2,a⟩:=Zar a;obtain⟨o,p,a⟩:=Zac a;obtain⟨e,a⟩:=Zar a;obtain⟨q,s,a⟩:=Zac a
 let R1:List RA:=[rz,rz,rA [(0,aG (Zau.c l)),(2,.r (.one (.sl 13 (List.replicate (2:Int).toNat Zah.d).length (Zap Zah.c Zah.d (List.replicate (2:Int).toNat Zah.d)))) []),(3,aG (ZaV.c o))],rA [(0,aG (Zau.c l)),(2,.r (.one (.sl 13 (List.replicate (4:Int).toNat Zah.d).length (Zap Zah.c Zah.d (List.replicate (4:Int).toNat Zah.d)))) []),(3,aG (ZaV.c q))]]
 have O2:Obl _:=(.c (Zkw _ m) (.c (show (2:Int)=(((List.replicate (2:Int).toNat Zah.d).length:Nat):Int)from(by rw[List.length_replicate];exact(Int.toNat_of_nonneg o2.1).symm)) (.c (show (((List.replicate (2:Int).toNat Zah.d).length:Nat):Int)<=(2:Int)from(by rw[List.length_replicate];exact((Int.toNat_of_nonneg o2.1).symm ▸ o2.2.1))) (.c o2.2.2.1 (.c o2.2.2.2 (.c (show ∀i j,i<(List.replicate (2:Int).toNat Zah.d).length->j<13->Ztn (([.lit (.int .i64 (0)),.lit (.bool false),.lit (.int .u64 (0)),.lit (.int .u64 (0)),.lit (.int .i64 (0)),.lit (.bool false),.lit (.int .i64 (0)),.lit (.int .i64 (0)),.lit (.int .i64 (0)),.lit (.int .i64 (0)),.lit (.int .i64 (0)),.lit (.slice none 0 0),.lit (.slice none 0 0)]:List C).getD j .junk) (Zap Zah.c Zah.d (List.replicate (2:Int).toNat Zah.d) i j)from(by rw[List.length_replicate];exact(Ztr (fun j hj=>match j,hj with|0,_=>.inl rfl|1,_=>.inl rfl|2,_=>.inl rfl|3,_=>.inl rfl|4,_=>.inl rfl|5,_=>.inl rfl|6,_=>.inl rfl|7,_=>.inl rfl|8,_=>.inl rfl|9,_=>.inl rfl|10,_=>.inl rfl|11,_=>.inr ⟨rfl,_,_,rfl⟩|12,_=>.inr ⟨rfl,_,_,rfl⟩|j+13,h=>absurd h (by omega)) _))) (.c (ZrC _ _ _ _ p) (.c (Zkw _ m) (.c (show (4:Int)=(((List.replicate (4:Int).toNat Zah.d).length:Nat):Int)from(by rw[List.length_replicate];exact(Int.toNat_of_nonneg e.1).symm)) (.c (show (((List.replicate (4:Int).toNat Zah.d).length:Nat):Int)<=(4:Int)from(by rw[List.length_replicate];exact((Int.toNat_of_nonneg e.1).symm ▸ e.2.1))) (.c e.2.2.1 (.c e.2.2.2 (.c (show ∀i j,i<(List.replicate (4:Int).toNat Zah.d).length->j<13->Ztn (([.lit (.int .i64 (0)),.lit (.bool false),.lit (.int .u64 (0)),.lit (.int .u64 (0)),.lit (.int .i64 (0)),.lit (.bool false),.lit (.int .i64 (0)),.lit (.int .i64 (0)),.lit (.int .i64 (0)),.lit (.int .i64 (0)),.lit (.int .i64 (0)),.lit (.slice none 0 0),.lit (.slice none 0 0)]:List C).getD j .junk) (Zap Zah.c Zah.d (List.replicate (4:Int).toNat Zah.d) i j)from(by rw[List.length_replicate];exact(Ztr (fun j hj=>match j,hj with|0,_=>.inl rfl|1,_=>.inl rfl|2,_=>.inl rfl|3,_=>.inl rfl|4,_=>.inl rfl|5,_=>.inl rfl|6,_=>.inl rfl|7,_=>.inl rfl|8,_=>.inl rfl|9,_=>.inl rfl|10,_=>.inl rfl|11,_=>.inr ⟨rfl,_,_,rfl⟩|12,_=>.inr ⟨rfl,_,_,rfl⟩|j+13,h=>absurd h (by omega)) _))) (.c (ZrC _ _ _ _ s) .n))))))))))))))
 obtain⟨b,a⟩|⟨b,a⟩:=Zaj a
 .obtain⟨f,a⟩|⟨f,a⟩:=Zaj a
  .obtain⟨g,a⟩|⟨g,a⟩:=Zaj a
   .obtain⟨k,a⟩|⟨k,a⟩:=Zaj a
    .apply Ya a 10 (R1++[rB [(4,true),(9,true),(17,true),(21,true)]]) [] (O2.app (.c b (.c f (.c g (.c k .n)))))
    .apply Ya a 10 (R1++[rB [(4,true),(9,true),(17,true),(21,false)]]) [] (O2.app (.c b (.c f (.c g (.c k .n)))))
   .apply Ya a 10 (R1++[rB [(4,true),(9,true),(17,false)]]) [] (O2.app (.c b (.c f (.c g .n))))
  .apply Ya a 10 (R1++[rB [(4,true),(9,false)]]) [] (O2.app (.c b (.c f .n)))
 .apply Ya a 10 (R1++[rB [(4,false)]]) [] (O2.app (.c b .n))
def Zdl(a:Int):Option Int:=bif(decide (a<(1:Int)))then some (1:Int)else bif(decide (a>(8:Int)))then some (8:Int)else some a
theorem ZhQ(e r:Int)(a:Zdl e=some r):Yp 132 [Yj e] (Yj r):=by
 refine Yw Tryz.func132 fun S0 w0=>?_;unfold Zdl at a;obtain⟨b,a⟩|⟨b,a⟩:=Zaj a
 .apply Ya a 8 [rz,rz,rz] [true] (.c b .n)
 .obtain⟨d,a⟩|⟨d,a⟩:=Zaj a
  .apply Ya a 13 [rz,rz,rz,rz] [false,true] (.c b (.c d .n))
  .apply Ya a 14 [rz,rz,rz,rz] [false,false] (.c b (.c d .n))
def ZdC(g e f c a b:Int)(am:Int->Int->Int->Int->Option (Int×Int))(d:Int):Option (Int×Int):=bif(decide ((ZaA b 64)<f))then need (a≠0)<|bif((Int.tmod (IntKind.wrap .u64 (Int.tdiv e a)) (2:Int))==(1:Int))then am d (IntKind.wrap .u64 (c+a)) (IntKind.wrap .u64 (Int.tdiv a (2:Int))) (ZaA b 1)else am d c (IntKind.wrap .u64 (Int.tdiv a (2:Int))) (ZaA b 1)else am d c (IntKind.wrap .u64 (Int.tdiv a (2:Int))) (ZaA b 1)
theorem ZhD(S0:Nat->Prop)(w0:ZaW)(g h i e a d:Int)(am:Int->Int->Int->Int->Option (Int×Int))(aN:∀(gV kp dG fI:Int)(r:(Int×Int)),am gV kp dG fI=some r->Ys 47 S0 w0 Tryz.f357 (.tup [(false,(cI .u64) r.1),(false,(cI .u64) r.2)]) [1,1,1,0,1,0] ⟨[(0,.one (.lit (.int .u64 g))),(1,.one (.lit (.int .u64 h))),(2,(Yj i)),(8,.one (.lit (.int .u64 gV))),(9,.one (.lit (.int .u64 kp))),(10,.one (.lit (.int .u64 dG))),(11,(Yj fI))],[]⟩)(f:Int)(r:(Int×Int))(b:ZdC g h i e a d am f=some r):Ys 47 S0 w0 Tryz.f357 (.tup [(false,(cI .u64) r.1),(false,(cI .u64) r.2)]) [1,1,1,0,1,0,0,1,0,0,1] ⟨[(0,.one (.lit (.int .u64 g))),(1,.one (.lit (.int .u64 h))),(2,(Yj i)),(8,.one (.lit (.int .u64 f))),(9,.one (.lit (.int .u64 e))),(10,.one (.lit (.int .u64 a))),(11,(Yj d))],[]⟩:=by
 unfold ZdC at b;obtain⟨j,b⟩|⟨j,b⟩:=Zaj b
 .obtain⟨l,b⟩:=Zar b;have O1:Obl _:=(.c j (.c l (.c (show (2:Int)≠0 from(by decide)) .n)));obtain⟨k,b⟩|⟨k,b⟩:=Zaj b
  .exact Ye 9 [rB [(4,true)],rz,rz,rz] [true] (Yi [0,1,2,8,9,10,11]) (O1.app (.c k (.c (show (2:Int)≠0 from(by decide)) .n))) (aN f (IntKind.wrap .u64 (e+a)) (IntKind.wrap .u64 (Int.tdiv a (2:Int))) (ZaA d 1) r b)
  .exact Ye 9 [rB [(4,true)],rz,rz] [false] (Yi [0,1,2,8,9,10,11]) (O1.app (.c k (.c (show (2:Int)≠0 from(by decide)) .n))) (aN f e (IntKind.wrap .u64 (Int.tdiv a (2:Int))) (ZaA d 1) r b)
 .exact Ye 9 [rB [(4,false)],rz,rz] [false] (Yi [0,1,2,8,9,10,11]) (.c j (.c (show false=false from rfl) (.c (show (2:Int)≠0 from(by decide)) .n))) (aN f e (IntKind.wrap .u64 (Int.tdiv a (2:Int))) (ZaA d 1) r b)
def Zby(c e d:Int):Nat->Int->Int->Int->Int->Option (Int×Int)|0,_,_,_,_=>none|fu+1,f,g,a,b=>bif(decide (b<(64:Int)))then bif(decide (b<d))then need (a≠0)<|bif((Int.tmod (IntKind.wrap .u64 (Int.tdiv c a)) (2:Int))==(1:Int))then ZdC c e d g a b (Zby c e d fu) (IntKind.wrap .u64 (f+a))else ZdC c e d g a b (Zby c e d fu) f else ZdC c e d g a b (Zby c e d fu) f else some (f,g)
theorem Zov(S0:Nat->Prop)(w0:ZaW)(e f g:Int):∀(h:Nat)(i j b d:Int)(r:(Int×Int)),Zby e f g h i j b d=some r->Ys 47 S0 w0 Tryz.f357 (.tup [(false,(cI .u64) r.1),(false,(cI .u64) r.2)]) [1,1,1,0,1,0] ⟨[(0,.one (.lit (.int .u64 e))),(1,.one (.lit (.int .u64 f))),(2,(Yj g)),(8,.one (.lit (.int .u64 i))),(9,.one (.lit (.int .u64 j))),(10,.one (.lit (.int .u64 b))),(11,(Yj d))],[]⟩:=by
 intro h;induction h with
 |zero=>
  intro i j b d r a;simp[Zby]at a
 |succ h l=>
  intro i j b d r a;unfold Zby at a;obtain⟨k,a⟩|⟨k,a⟩:=Zaj a
  .obtain⟨m,a⟩|⟨m,a⟩:=Zaj a
   .obtain⟨p,a⟩:=Zar a;have O2:Obl _:=(.c k (.c m (.c p (.c (show (2:Int)≠0 from(by decide)) .n))));obtain⟨o,a⟩|⟨o,a⟩:=Zaj a
    .exact Ye 13 [rz,rB [(3,true)],rz] [true,true] (Yi [0,1,2,8,9,10,11]) (O2.app (.c o .n)) (ZhD S0 w0 e f g j b d (Zby e f g h) l (IntKind.wrap .u64 (i+b)) r a)
    .exact Ye 13 [rz,rB [(3,true)]] [true,false] (Yi [0,1,2,8,9,10,11]) (O2.app (.c o .n)) (ZhD S0 w0 e f g j b d (Zby e f g h) l i r a)
   .exact Ye 13 [rz,rB [(3,false)]] [true,false] (Yi [0,1,2,8,9,10,11]) (.c k (.c m (.c (show false=false from rfl) .n))) (ZhD S0 w0 e f g j b d (Zby e f g h) l i r a)
  .apply Ya a 8 [rz,rz] [false] (.c k .n)
def ZdV(a b c:Int):Option (Int×Int):=Zby a b c (((64:Int)-(0:Int)).toNat+2) (0:Int) (0:Int) (9223372036854775808:Int) (0:Int)
theorem ZlF(a b c:Int)(r:(Int×Int))(d:ZdV a b c=some r):Yp 357 [.one (.lit (.int .u64 a)),.one (.lit (.int .u64 b)),Yj c] (.tup [(false,(cI .u64) r.1),(false,(cI .u64) r.2)]):=by
 refine Yw Tryz.func357 fun S0 w0=>?_;unfold ZdV at d;exact Ye 10 [rz,rz,rz,rz] [] (Yi [0,1,2,8,9,10,11]) .n (Zov S0 w0 a b c (((64:Int)-(0:Int)).toNat+2) (0:Int) (0:Int) (9223372036854775808:Int) (0:Int) r d)
def ZeT(a e:Zai)(b:Int):Option Zai:=bif a.fV6 then(ZdV a.fHi a.fLo b).bind fun c=>some (Zai.mk true c.1 c.2)else(ZdV (0:Int) a.fLo (ZaA (96:Int) b)).bind fun d=>some (Zai.mk false 0 d.2)
theorem Zjo(S0:Nat->Prop)(w0:ZaW)(b d:Zai)(f:Int)(r:Zai)(a:ZeT b d f=some r):Ys 45 S0 w0 Tryz.f308 (.agg (Zai.c r)) [1,1,1,1] ⟨[(1,(Yj f)),(2,.one (.ptr 2 0)),(4,.one (.ptr 4 0))],[(2,.box [.lit (.bool b.fV6),.lit (.int .u64 b.fHi),.lit (.int .u64 b.fLo)]),(4,.box [.lit (.bool d.fV6),.lit (.int .u64 d.fHi),.lit (.int .u64 d.fLo)])]⟩:=by
 unfold ZeT at a;obtain⟨e,a⟩|⟨e,a⟩:=Zaj a
 .obtain⟨g,i,a⟩:=Zac a;apply Ya a 8 [rz,rA [(5,.r (.tup [(false,(cI .u64) g.1),(false,(cI .u64) g.2)]) [])],rz] [true] (.c e (.c (ZlF _ _ _ _ i) .n))
 .obtain⟨h,j,a⟩:=Zac a;apply Ya a 9 [rz,rA [(4,.r (.tup [(false,(cI .u64) h.1),(false,(cI .u64) h.2)]) [])],rz] [false] (.c e (.c (ZlF _ _ _ _ j) .n))
def ZeU(b:Int)(a c:Zai):Option Zai:=(ZbC a).bind fun d=>bif(decide (b>d))then ZeT a c d else ZeT a c b
theorem Zjp(S0:Nat->Prop)(w0:ZaW)(f:Int)(b d r:Zai)(a:ZeU f b d=some r):Ys 45 S0 w0 Tryz.f308 (.agg (Zai.c r)) [1,1,1] ⟨[(1,(Yj f)),(2,.one (.ptr 2 0)),(4,.one (.ptr 4 0))],[(2,.box [.lit (.bool b.fV6),.lit (.int .u64 b.fHi),.lit (.int .u64 b.fLo)]),(4,.box [.lit (.bool d.fV6),.lit (.int .u64 d.fHi),.lit (.int .u64 d.fLo)])]⟩:=by
 unfold ZeU at a;obtain⟨e,g,a⟩:=Zac a;obtain⟨h,a⟩|⟨h,a⟩:=Zaj a
 .exact Ye 5 [rA [(2,aI e)],rA [(1,aI e)]] [true] ⟨[],[],[],[],[],[1,2,4],[2,4],[]⟩ (.c (Zcm _ _ g) (.c h (.c (Zcm _ _ g) .n))) (Zjo S0 w0 b d e r a)
 .exact Ye 5 [rA [(2,aI e)]] [false] ⟨[],[],[],[],[],[1,2,4],[2,4],[]⟩ (.c (Zcm _ _ g) (.c h .n)) (Zjo S0 w0 b d f r a)
def ZhT(a:Zai)(b:Int):Option Zai:=(Zbx a).bind fun c=>bif(!c)then some (Zai.mk false 0 0)else bif(decide (b<(0:Int)))then ZeU (0:Int) a (Zai.mk false 0 0)else ZeU b a (Zai.mk false 0 0)
theorem ZpQ(b:Zai)(d:Int)(r:Zai)(a:ZhT b d=some r):Yp 308 [.agg (Zai.c b),Yj d] (.agg (Zai.c r)):=by
 refine Yw Tryz.func308 fun S0 w0=>?_;unfold ZhT at a;obtain⟨e,h,a⟩:=Zac a;obtain⟨f,a⟩|⟨f,a⟩:=Zaj a
 .apply Ya a 8 [rz,rA [(1,aB e)],rz] [true] (.c (Zba _ _ h) (.c f .n))
 .have O1:Obl _:=(.c (Zba _ _ h) (.c f .n));obtain⟨g,a⟩|⟨g,a⟩:=Zaj a
  .exact Ye 12 [rz,rA [(1,aB e)],rz,rz] [false,true] ⟨[],[],[],[],[],[1,2,4],[2,4],[]⟩ (O1.app (.c g .n)) (Zjp S0 w0 (0:Int) b (Zai.mk false 0 0) r a)
  .exact Ye 12 [rz,rA [(1,aB e)],rz] [false,false] ⟨[],[],[],[],[],[1,2,4],[2,4],[]⟩ (O1.app (.c g .n)) (Zjp S0 w0 d b (Zai.mk false 0 0) r a)
def ZhU(b:Zai)(a:Int):Option (Zag×Bool):=(Zbx b).bind fun c=>bif(!c)then some ((Zag.mk (Zai.mk false 0 0) 0),false)else bif(decide (a<(0:Int)))then some ((Zag.mk (Zai.mk false 0 0) 0),false)else(ZbC b).bind fun d=>bif(decide (a>d))then some ((Zag.mk (Zai.mk false 0 0) 0),false)else(ZhT b a).bind fun e=>some ((Zag.mk e a),true)
theorem ZpR(g:Zai)(h:Int)(r:(Zag×Bool))(a:ZhU g h=some r):Yp 236 [.agg (Zai.c g),Yj h] (.tup [(true,Zag.c r.1),(false,cB r.2)]):=by
 refine Yw Tryz.func236 fun S0 w0=>?_;unfold ZhU at a;obtain⟨b,i,a⟩:=Zac a;obtain⟨d,a⟩|⟨d,a⟩:=Zaj a
 .apply Ya a 8 [rz,⟨[(1,aB b)],[(3,true)],[],[],[],[],[]⟩,rz] [true] (.c (Zba _ _ i) (.c d (.c (show true=true from rfl) .n)))
 .have O1:Obl _:=(.c (Zba _ _ i) (.c d .n));obtain⟨e,a⟩|⟨e,a⟩:=Zaj a
  .apply Ya a 8 [rz,⟨[(1,aB b)],[(3,false),(7,true)],[],[],[],[],[]⟩,rz] [true] (O1.app (.c e (.c (show true=true from rfl) .n)))
  .obtain⟨j,k,a⟩:=Zac a
   let R2:List RA:=[rz,⟨[(1,aB b),(10,aI j)],[(3,false),(7,false)],[],[],[],[],[]⟩]
   have O3:Obl _:=(O1.app (.c e (.c (Zcm _ _ k) .n)));obtain⟨f,a⟩|⟨f,a⟩:=Zaj a
   .apply Ya a 8 (R2++[rz]) [true] (O3.app (.c f .n))
   .obtain⟨l,m,a⟩:=Zac a;apply Ya a 9 (R2++[rA [(2,aG (Zai.c l))]]) [false] (O3.app (.c f (.c (ZpQ _ _ _ m) .n)))
def Zgt(a:Zai):Option Zag:=(ZbC a).bind fun b=>(ZhU a b).bind fun c=>some c.1
theorem ZpS(b:Zai)(r:Zag)(a:Zgt b=some r):Yp 161 [.agg (Zai.c b)] (.agg (Zag.c r)):=by
 refine Yw Tryz.func161 fun S0 w0=>?_;unfold Zgt at a;obtain⟨e,d,f,g,a⟩:=Yv a;apply Ya a 6 [rz,rA [(2,aI e),(3,.r (.tup [(true,Zag.c d.1),(false,cB d.2)]) [])],rz] [] (.c (Zcm _ _ f) (.c (ZpR _ _ _ g) .n))
def Zew(a:Int):Option Int:=some (IntKind.wrap .u64 (((BitVec.ofInt (IntKind.bits .u64) (IntKind.wrap .u64 ((IntKind.wrap .u64 (((BitVec.ofInt (IntKind.bits .u64) (IntKind.wrap .u64 ((IntKind.wrap .u64 (((BitVec.ofInt (IntKind.bits .u64) a) ^^^ (BitVec.ofInt (IntKind.bits .u64) (IntKind.wrap .u64 (Int.tdiv a (1073741824:Int))))).toNat:Int))*(13787848793156543929:Int)))) ^^^ (BitVec.ofInt (IntKind.bits .u64) (IntKind.wrap .u64 (Int.tdiv (IntKind.wrap .u64 ((IntKind.wrap .u64 (((BitVec.ofInt (IntKind.bits .u64) a) ^^^ (BitVec.ofInt (IntKind.bits .u64) (IntKind.wrap .u64 (Int.tdiv a (1073741824:Int))))).toNat:Int))*(13787848793156543929:Int))) (134217728:Int))))).toNat:Int))*(10723151780598845931:Int)))) ^^^ (BitVec.ofInt (IntKind.bits .u64) (IntKind.wrap .u64 (Int.tdiv (IntKind.wrap .u64 ((IntKind.wrap .u64 (((BitVec.ofInt (IntKind.bits .u64) (IntKind.wrap .u64 ((IntKind.wrap .u64 (((BitVec.ofInt (IntKind.bits .u64) a) ^^^ (BitVec.ofInt (IntKind.bits .u64) (IntKind.wrap .u64 (Int.tdiv a (1073741824:Int))))).toNat:Int))*(13787848793156543929:Int)))) ^^^ (BitVec.ofInt (IntKind.bits .u64) (IntKind.wrap .u64 (Int.tdiv (IntKind.wrap .u64 ((IntKind.wrap .u64 (((BitVec.ofInt (IntKind.bits .u64) a) ^^^ (BitVec.ofInt (IntKind.bits .u64) (IntKind.wrap .u64 (Int.tdiv a (1073741824:Int))))).toNat:Int))*(13787848793156543929:Int))) (134217728:Int))))).toNat:Int))*(10723151780598845931:Int))) (2147483648:Int))))).toNat:Int))
theorem Ziy(a r:Int)(b:Zew a=some r):Yp 309 [.one (.lit (.int .u64 a))] (.one (.lit (.int .u64 r))):=by
 refine Yw Tryz.func309 fun S0 w0=>?_;unfold Zew at b;apply Ya b 8 [rz,rz,rz,rz] [] (.c (show (1073741824:Int)≠0 from(by decide)) (.c (show (134217728:Int)≠0 from(by decide)) (.c (show (2147483648:Int)≠0 from(by decide)) .n)))
def ZdO(b:List Int):Nat->Int->Int->Option Int|0,_,_=>none|fu+1,c,a=>bif(decide (a<(b.length:Int)))then need (0<=a/\a<(b.length:Int))<|(Zew (IntKind.wrap .u64 ((b.getD a.toNat (0:Int))+(11400714819323198485:Int)))).bind fun d=>(Zew (IntKind.wrap .u64 (((BitVec.ofInt (IntKind.bits .u64) (IntKind.wrap .u64 ((IntKind.wrap .u64 (c*(128:Int)))+(IntKind.wrap .u64 (Int.tdiv c (144115188075855872:Int)))))) ^^^ (BitVec.ofInt (IntKind.bits .u64) d)).toNat:Int))).bind fun e=>ZdO b fu e (ZaA a 1)else some c
theorem Zpk(S0:Nat->Prop)(w0:ZaW)(g:List Int):∀(d:Nat)(e b r:Int),ZdO g d e b=some r->Ys 30 S0 w0 Tryz.f241 (.one (.lit (.int .u64 r))) [1,1,0,1,0] ⟨[(1,.one (cL 1 (cI .u64) (0:Int) g)),(5,.one (.lit (.int .u64 e))),(6,(Yj b))],[]⟩:=by
 intro d;induction d with
 |zero=>
  intro e b r a;simp[ZdO]at a
 |succ d i=>
  intro e b r a;unfold ZdO at a;obtain⟨f,a⟩|⟨f,a⟩:=Zaj a
  .obtain⟨j,a⟩:=Zar a;obtain⟨k,h,l,m,a⟩:=Yv a;exact Ye 12 [rz,rA [(10,.r (.one (.lit (.int .u64 k))) []),(12,.r (.one (.lit (.int .u64 h))) [])],rz] [true] (Yi [1,5,6]) (.c f (.c (show (144115188075855872:Int)≠0 from(by decide)) (.c j (.c (Ziy _ _ l) (.c (Ziy _ _ m) .n))))) (i h (ZaA b 1) r a)
  .apply Ya a 8 [rz,rz] [false] (.c f .n)
def Zgo(b:Int)(a:List Int):Option Int:=(Zew (IntKind.wrap .u64 (b+(11400714819323198485:Int)))).bind fun c=>ZdO a (((a.length:Int)-(0:Int)).toNat+2) c (0:Int)
theorem ZlW(d:Int)(a:List Int)(r:Int)(b:Zgo d a=some r):Yp 241 [.one (.lit (.int .u64 d)),.one (cL 1 (cI .u64) (0:Int) a)] (.one (.lit (.int .u64 r))):=by
 refine Yw Tryz.func241 fun S0 w0=>?_;unfold Zgo at b;obtain⟨e,f,b⟩:=Zac b;exact Ye 8 [rz,rA [(2,.r (.one (.lit (.int .u64 e))) [])],rz] [] (Yi [1,5,6]) (.c (Ziy _ _ f) .n) (Zpk S0 w0 a (((a.length:Int)-(0:Int)).toNat+2) e (0:Int) r b)
def ZgX(b:Int)(a:Zag):Option Int:=bif a.fAddr.fV6 then(Zgo b ([(6:Int),a.fAddr.fHi,a.fAddr.fLo,(IntKind.wrap .u64 a.fBits)]:List Int)).bind fun c=>some c else(Zgo b ([(4:Int),a.fAddr.fHi,a.fAddr.fLo,(IntKind.wrap .u64 a.fBits)]:List Int)).bind fun d=>some d
theorem Zqz(g:Int)(a:Zag)(r:Int)(b:ZgX g a=some r):Yp 173 [.one (.lit (.int .u64 g)),.agg (Zag.c a)] (.one (.lit (.int .u64 r))):=by
 refine Yw Tryz.func173 fun S0 w0=>?_;unfold ZgX at b;obtain⟨f,b⟩|⟨f,b⟩:=Zaj b
 .obtain⟨h,k,b⟩:=Zac b;apply Ya b 11 [rz,rz,rz,rz,⟨[(12,.r (.one (.lit (.int .u64 h))) [])],[],[],[],[],[(11,(([(6:Int),a.fAddr.fHi,a.fAddr.fLo,(IntKind.wrap .u64 a.fBits)]:List Int).length,Zap (cI .u64) (0:Int) ([(6:Int),a.fAddr.fHi,a.fAddr.fLo,(IntKind.wrap .u64 a.fBits)]:List Int)))],[]⟩] [true] (.c f (.c (show ([(6:Int),a.fAddr.fHi,a.fAddr.fLo,(IntKind.wrap .u64 a.fBits)]:List Int).length=4/\∀i j,i<4->j<1->Zap (cI .u64) (0:Int) ([(6:Int),a.fAddr.fHi,a.fAddr.fLo,(IntKind.wrap .u64 a.fBits)]:List Int) i j=(([(6:Int),a.fAddr.fHi,a.fAddr.fLo,(IntKind.wrap .u64 a.fBits)]:List Int).flatMap (cI .u64)).getD (i * 1+j) .junk from⟨rfl,fun i j hi hj=>ZaO (sz:=1) (e:=(cI .u64)) (d:=(0:Int)) (fun _=>rfl) ([(6:Int),a.fAddr.fHi,a.fAddr.fLo,(IntKind.wrap .u64 a.fBits)]:List Int) i j hi hj⟩) (.c (ZlW _ _ _ k) .n)))
 .obtain⟨l,m,b⟩:=Zac b;apply Ya b 11 [rz,rz,rz,⟨[(12,.r (.one (.lit (.int .u64 l))) [])],[],[],[],[],[(11,(([(4:Int),a.fAddr.fHi,a.fAddr.fLo,(IntKind.wrap .u64 a.fBits)]:List Int).length,Zap (cI .u64) (0:Int) ([(4:Int),a.fAddr.fHi,a.fAddr.fLo,(IntKind.wrap .u64 a.fBits)]:List Int)))],[]⟩] [false] (.c f (.c (show ([(4:Int),a.fAddr.fHi,a.fAddr.fLo,(IntKind.wrap .u64 a.fBits)]:List Int).length=4/\∀i j,i<4->j<1->Zap (cI .u64) (0:Int) ([(4:Int),a.fAddr.fHi,a.fAddr.fLo,(IntKind.wrap .u64 a.fBits)]:List Int) i j=(([(4:Int),a.fAddr.fHi,a.fAddr.fLo,(IntKind.wrap .u64 a.fBits)]:List Int).flatMap (cI .u64)).getD (i * 1+j) .junk from⟨rfl,fun i j hi hj=>ZaO (sz:=1) (e:=(cI .u64)) (d:=(0:Int)) (fun _=>rfl) ([(4:Int),a.fAddr.fHi,a.fAddr.fLo,(IntKind.wrap .u64 a.fBits)]:List Int) i j hi hj⟩) (.c (ZlW _ _ _ m) .n)))
def ZfW(b a:Int):Option Int:=bif(decide (a<(1:Int)))then some (0:Int)else bif(decide (a>(2147483648:Int)))then some (0:Int)else some (IntKind.wrap .i64 (IntKind.wrap .u64 (Int.tdiv (IntKind.wrap .u64 ((IntKind.wrap .u64 (Int.tdiv b (4294967296:Int)))*(IntKind.wrap .u64 a))) (4294967296:Int))))
theorem Zpl(e f r:Int)(a:ZfW e f=some r):Yp 172 [.one (.lit (.int .u64 e)),Yj f] (Yj r):=by
 refine Yw Tryz.func172 fun S0 w0=>?_;unfold ZfW at a;obtain⟨b,a⟩|⟨b,a⟩:=Zaj a
 .apply Ya a 8 [rz,rB [(2,true)],rz] [true] (.c b (.c (show true=true from rfl) .n))
 .obtain⟨d,a⟩|⟨d,a⟩:=Zaj a
  .apply Ya a 8 [rz,rB [(2,false)],rz] [true] (.c b (.c d .n))
  .apply Ya a 9 [rz,rB [(2,false)],rz] [false] (.c b (.c d (.c (show (4294967296:Int)≠0 from(by decide)) (.c (show (4294967296:Int)≠0 from(by decide)) .n))))
def Zgn(a:Zai)(b c:Int):Option Int:=(Zgt a).bind fun d=>(ZgX b d).bind fun e=>(Zdl c).bind fun f=>(ZfW e f).bind fun g=>some g
theorem Zro(b:Zai)(d e r:Int)(a:Zgn b d e=some r):Yp 93 [.agg (Zai.c b),.one (.lit (.int .u64 d)),Yj e] (Yj r):=by
 refine Yw Tryz.func93 fun S0 w0=>?_;unfold Zgn at a;obtain⟨f,g,h,i,a⟩:=Yv a;obtain⟨j,k,l,m,a⟩:=Yv a;apply Ya a 4 [rz,rA [(2,aG (Zag.c f)),(3,.r (.one (.lit (.int .u64 g))) []),(5,aI j),(6,aI k)]] [] (.c (ZpS _ _ h) (.c (Zqz _ _ _ i) (.c (ZhQ _ _ l) (.c (Zpl _ _ _ m) .n))))
def ZbZ(e:List Zab)(h i g:Int)(al:Int->(List Zad)->Option (List Zad)):Nat->Int->(List Zad)->Int->(List Zab)->Option (List Zad)|0,_,_,_,_=>none|fu+1,b,f,c,a=>bif(decide (b<(e.length:Int)))then need (0<=b/\b<(e.length:Int))<|(Zgn (((e.getD b.toNat Zab.d).fEnd).fAddr) h i).bind fun j=>bif(j==g)then need ((a++([(e.getD b.toNat Zab.d)]:List Zab)).length * 80<=140737488355328/\(a++([(e.getD b.toNat Zab.d)]:List Zab)).length<=maxLen)<|ZbZ e h i g al fu (ZaA b 1) f (ZaA c 1) (a++([(e.getD b.toNat Zab.d)]:List Zab))else ZbZ e h i g al fu (ZaA b 1) f c a else need ((f++([(Zad.mk c a)]:List Zad)).length * 32<=140737488355328/\(f++([(Zad.mk c a)]:List Zad)).length<=maxLen)<|al (ZaA g 1) (f++([(Zad.mk c a)]:List Zad))
theorem ZmX(S0:Nat->Prop)(w0:ZaW)(h:List Zab)(m o p:Int)(al:Int->(List Zad)->Option (List Zad))(bt:∀(gV:Int)(kS r:List Zad),al gV kS=some r->Yt 54 S0 w0 Tryz.f64 [(99999,.rows 178 2 r.length (Zap Zad.c Zad.d r))] (.one (.osl 99999 r.length)) [1,1,0,1,0] ⟨[(0,(Yn h)),(1,.one (.lit (.int .u64 m))),(2,(Yj o)),(7,.one (.osl 7 kS.length)),(8,(Yj gV))],[(7,.rows 178 2 kS.length (Zap Zad.c Zad.d kS))]⟩):∀(l:Nat)(f:Int)(k:List Zad)(b:Int)(a:List Zab)(r:List Zad),ZbZ h m o p al l f k b a=some r->Yt 54 S0 w0 Tryz.f64 [(99999,.rows 178 2 r.length (Zap Zad.c Zad.d r))] (.one (.osl 99999 r.length)) [1,1,0,1,0,0,1,0,0,1,0,1,0] ⟨[(0,(Yn h)),(1,.one (.lit (.int .u64 m))),(2,(Yj o)),(7,.one (.osl 7 k.length)),(8,(Yj p)),(9,.one (.ptr 9 0)),(10,(Yj f))],[(7,.rows 178 2 k.length (Zap Zad.c Zad.d k)),(80901,.rows 44 10 a.length (Zap Zab.c Zab.d a)),(9,.box [.lit (.int .i64 b),.osl 80901 a.length])]⟩:=by
 intro l;induction l with
 |zero=>
  intro f k b a r g;simp[ZbZ]at g
 |succ l t=>
  intro f k b a r g;unfold ZbZ at g;obtain⟨q,g⟩|⟨q,g⟩:=Zaj g
  .obtain⟨u,g⟩:=Zar g;obtain⟨v,y,g⟩:=Zac g;have O1:Obl _:=(.c q (.c u (.c (Zro _ _ _ _ y) .n)));obtain⟨s,g⟩|⟨s,g⟩:=Zaj g
   .obtain⟨w,g⟩:=Zar g;exact Ye 17 [rz,rA [(8,aI v)],⟨[(7,.c ((a++([(h.getD f.toNat Zab.d)]:List Zab)).length) (Zap Zab.c Zab.d (a++([(h.getD f.toNat Zab.d)]:List Zab))))],[],[],[],[],[(6,(([(h.getD f.toNat Zab.d)]:List Zab).length,Zap Zab.c Zab.d ([(h.getD f.toNat Zab.d)]:List Zab)))],[]⟩,rz,rz] [true,true] ⟨[],[],[],[],[],[0,1,2,7,8,9,10],[7,43,9],[(43,80901)]⟩ (O1.app (.c s (.c u (.c (show ([(h.getD f.toNat Zab.d)]:List Zab).length=1/\∀i j,i<1->j<10->Zap Zab.c Zab.d ([(h.getD f.toNat Zab.d)]:List Zab) i j=(([(h.getD f.toNat Zab.d)]:List Zab).flatMap Zab.c).getD (i * 10+j) .junk from⟨rfl,fun i j hi hj=>ZaO (sz:=10) (e:=Zab.c) (d:=Zab.d) (fun _=>rfl) ([(h.getD f.toNat Zab.d)]:List Zab) i j hi hj⟩) (.c (Zcy (sz:=10) (e:=Zab.c) (d:=Zab.d) a ([(h.getD f.toNat Zab.d)]:List Zab)) (.c w.1 (.c w.2 .n))))))) (t (ZaA f 1) k (ZaA b 1) (a++([(h.getD f.toNat Zab.d)]:List Zab)) r g)
   .exact Ye 15 [rz,rA [(8,aI v)],rz] [true,false] ⟨[],[],[],[],[],[0,1,2,7,8,9,10],[7,80901,9],[]⟩ (O1.app (.c s .n)) (t (ZaA f 1) k b a r g)
  .obtain⟨x,g⟩:=Zar g;exact Ye 10 [rz,⟨[(3,.c ((k++([(Zad.mk b a)]:List Zad)).length) (Zap Zad.c Zad.d (k++([(Zad.mk b a)]:List Zad))))],[],[(2,[80901])],[],[],[(2,(([(Zad.mk b a)]:List Zad).length,Zap Zad.c Zad.d ([(Zad.mk b a)]:List Zad)))],[]⟩,rz] [false] ⟨[],[],[],[],[],[0,1,2,7,8],[52],[(52,7)]⟩ (.c q (.c (show ([(Zad.mk b a)]:List Zad).length=1/\∀i j,i<1->j<2->Zap Zad.c Zad.d ([(Zad.mk b a)]:List Zad) i j=(([(Zad.mk b a)]:List Zad).flatMap Zad.c).getD (i * 2+j) .junk from⟨rfl,fun i j hi hj=>ZaO (sz:=2) (e:=Zad.c) (d:=Zad.d) (fun _=>rfl) ([(Zad.mk b a)]:List Zad) i j hi hj⟩) (.c (Zcy (sz:=2) (e:=Zad.c) (d:=Zad.d) k ([(Zad.mk b a)]:List Zad)) (.c x.1 (.c x.2 .n))))) (bt (ZaA p 1) (k++([(Zad.mk b a)]:List Zad)) r g)
def ZbO(a:List Zab)(c b:Int):Nat->Int->(List Zad)->Option (List Zad)|0,_,_=>none|fu+1,d,e=>(Zdl b).bind fun f=>bif(decide (d<f))then ZbZ a c b d (ZbO a c b fu) (((a.length:Int)-(0:Int)).toNat+2) (0:Int) e (0:Int) ([])else some e
theorem ZmY(S0:Nat->Prop)(w0:ZaW)(e:List Zab)(h i:Int):∀(f:Nat)(g:Int)(b r:List Zad),ZbO e h i f g b=some r->Yt 54 S0 w0 Tryz.f64 [(99999,.rows 178 2 r.length (Zap Zad.c Zad.d r))] (.one (.osl 99999 r.length)) [1,1,0,1,0] ⟨[(0,(Yn e)),(1,.one (.lit (.int .u64 h))),(2,(Yj i)),(7,.one (.osl 7 b.length)),(8,(Yj g))],[(7,.rows 178 2 b.length (Zap Zad.c Zad.d b))]⟩:=by
 intro f;induction f with
 |zero=>
  intro g b r a;simp[ZbO]at a
 |succ f m=>
  intro g b r a;unfold ZbO at a;obtain⟨k,l,a⟩:=Zac a;obtain⟨j,a⟩|⟨j,a⟩:=Zaj a
  .exact Ye 14 [rA [(2,aI k)],rz,rz] [true] ⟨[],[],[],[],[(209001,80901,44,10,Zap Zab.c Zab.d [])],[0,1,2,7,8,9,10],[7,80901,9],[]⟩ (.c (ZhQ _ _ l) (.c j .n)) (ZmX S0 w0 e h i g (ZbO e h i f) m (((e.length:Int)-(0:Int)).toNat+2) (0:Int) b (0:Int) ([]) r a)
  .apply Yc a 8 [rA [(2,aI k)],rz] [false] ⟨[],[],[],[],[],[6],[7],[(7,99999)]⟩ (.c (ZhQ _ _ l) (.c j .n))
def ZfQ(a:List Zab)(b c:Int):Option (List Zad):=ZbO a b c 1000000 (0:Int) ([]:List Zad)
theorem Zop(a:List Zab)(b f:Int)(r:List Zad)(g:ZfQ a b f=some r):Yq 64 [] [Yn a,.one (.lit (.int .u64 b)),Yj f] [(99999,.rows 178 2 r.length (Zap Zad.c Zad.d r))] (.one (.osl 99999 r.length)):=by
 refine Yx Tryz.func64 fun S0 w0=>?_;unfold ZfQ at g;exact Ye 8 [rz,rA [(0,.c ([]:List Zad).length (Zap Zad.c Zad.d ([]:List Zad)))],rz] [] ⟨[],[],[],[],[],[0,1,2,7,8],[11],[(11,7)]⟩ (.c (show ([]:List Zad).length=0 from rfl) (.c (show ∀i j,i<0->j<2->Zap Zad.c Zad.d ([]:List Zad) i j=(([]:List Zad).flatMap Zad.c).getD (i * 2+j) .junk from(fun i j hi hj=>ZaO (sz:=2) (e:=Zad.c) (d:=Zad.d) (fun _=>rfl) ([]:List Zad) i j hi hj)) .n)) (ZmY S0 w0 a b f 1000000 (0:Int) ([]:List Zad) r g)
theorem Zpb(a:List Zab)(b e:Int)(r:List Zad)(f:ZfQ a b e=some r):Yp 64 [Yn a,.one (.lit (.int .u64 b)),Yj e] (.one (cL 2 Zad.c Zad.d r)):=(Zop a b e r f).pure
def ZgS(c:Zau)(b:Zas):Option ZaC:=(Zdm b.fPeers true).bind fun e=>(Zdm b.fPeers false).bind fun f=>(ZeE b.fBook (2:Int)).bind fun g=>(ZfQ b.fPeers c.fSecret c.fShards).bind fun a=>need (0<=(ZaA (a.length:Int) (2:Int))/\(ZaA (a.length:Int) (2:Int))<=(ZaA (a.length:Int) (2:Int))/\(ZaA (a.length:Int) (2:Int))<=140737488355328/\(ZaA (a.length:Int) (2:Int)) * 32<=140737488355328)<|some (ZaC.mk e (ZaA f g) b.fBans b.fBook a (List.replicate (ZaA (a.length:Int) (2:Int)).toNat Zat.d))
theorem Zqs(f:Zau)(g:Zas)(r:ZaC)(b:ZgS f g=some r):Yp 20 [.agg (Zau.c f),.agg (Zas.c g)] (.agg (ZaC.c r)):=by
 refine Yw Tryz.func20 fun S0 w0=>?_;unfold ZgS at b;obtain⟨k,l,m,o,b⟩:=Yv b;obtain⟨p,a,q,s,b⟩:=Yv b;obtain⟨e,b⟩:=Zar b;apply Ya b 10 [rz,rA [(2,aI k),(5,aI l),(8,aI p)],rA [(6,.r (.one (cL 2 Zad.c Zad.d a)) [])],rA [(4,.r (.one (.sl 2 (List.replicate (ZaA (a.length:Int) (2:Int)).toNat Zat.d).length (Zap Zat.c Zat.d (List.replicate (ZaA (a.length:Int) (2:Int)).toNat Zat.d)))) [])],rz] [] (.c (Zgb _ _ _ m) (.c (Zgb _ _ _ o) (.c (Zkx _ _ _ q) (.c (Zpb _ _ _ _ s) (.c (show (ZaA (a.length:Int) (2:Int))=(((List.replicate (ZaA (a.length:Int) (2:Int)).toNat Zat.d).length:Nat):Int)from(by rw[List.length_replicate];exact(Int.toNat_of_nonneg e.1).symm)) (.c (show (((List.replicate (ZaA (a.length:Int) (2:Int)).toNat Zat.d).length:Nat):Int)<=(ZaA (a.length:Int) (2:Int))from(by rw[List.length_replicate];exact((Int.toNat_of_nonneg e.1).symm ▸ e.2.1))) (.c e.2.2.1 (.c e.2.2.2 (.c (show ∀i j,i<(List.replicate (ZaA (a.length:Int) (2:Int)).toNat Zat.d).length->j<2->Ztn (([.lit (.int .i64 (0)),.lit (.slice none 0 0)]:List C).getD j .junk) (Zap Zat.c Zat.d (List.replicate (ZaA (a.length:Int) (2:Int)).toNat Zat.d) i j)from(by rw[List.length_replicate];exact(Ztr (fun j hj=>match j,hj with|0,_=>.inl rfl|1,_=>.inr ⟨rfl,_,_,rfl⟩|j+2,h=>absurd h (by omega)) _))) .n)))))))))
def ZfO(a:Int):Option ByteArray:=bif(decide (a<(1:Int)))then some (⟨#[]⟩ : ByteArray)else bif(decide (a>(13:Int)))then some (⟨#[]⟩ : ByteArray)else need (0<=a/\a<((([(⟨#[]⟩ : ByteArray),(⟨#[101,116]⟩ : ByteArray),(⟨#[101]⟩ : ByteArray),(⟨#[116]⟩ : ByteArray),(⟨#[101,103,116,107]⟩ : ByteArray),(⟨#[101,107,116]⟩ : ByteArray),(⟨#[110,107,116]⟩ : ByteArray),(⟨#[110]⟩ : ByteArray),(⟨#[97,116]⟩ : ByteArray),(⟨#[116]⟩ : ByteArray),(⟨#[]⟩ : ByteArray),(⟨#[101,107]⟩ : ByteArray),(⟨#[101,116]⟩ : ByteArray),(⟨#[101,116]⟩ : ByteArray)]:List ByteArray).length:Nat):Int))<|some (([(⟨#[]⟩ : ByteArray),(⟨#[101,116]⟩ : ByteArray),(⟨#[101]⟩ : ByteArray),(⟨#[116]⟩ : ByteArray),(⟨#[101,103,116,107]⟩ : ByteArray),(⟨#[101,107,116]⟩ : ByteArray),(⟨#[110,107,116]⟩ : ByteArray),(⟨#[110]⟩ : ByteArray),(⟨#[97,116]⟩ : ByteArray),(⟨#[116]⟩ : ByteArray),(⟨#[]⟩ : ByteArray),(⟨#[101,107]⟩ : ByteArray),(⟨#[101,116]⟩ : ByteArray),(⟨#[101,116]⟩ : ByteArray)]:List ByteArray).getD a.toNat ByteArray.empty)
theorem Zpa(g:Int)(r:ByteArray)(a:ZfO g=some r):Yp 113 [Yj g] (.one (.lit (.string r))):=by
 refine Yw Tryz.func113 fun S0 w0=>?_;unfold ZfO at a
 let R1:List RA:=[rz,⟨[],[],[],[],[],[(0,(([(⟨#[]⟩ : ByteArray),(⟨#[101,116]⟩ : ByteArray),(⟨#[101]⟩ : ByteArray),(⟨#[116]⟩ : ByteArray),(⟨#[101,103,116,107]⟩ : ByteArray),(⟨#[101,107,116]⟩ : ByteArray),(⟨#[110,107,116]⟩ : ByteArray),(⟨#[110]⟩ : ByteArray),(⟨#[97,116]⟩ : ByteArray),(⟨#[116]⟩ : ByteArray),(⟨#[]⟩ : ByteArray),(⟨#[101,107]⟩ : ByteArray),(⟨#[101,116]⟩ : ByteArray),(⟨#[101,116]⟩ : ByteArray)]:List ByteArray).length,Zap cS ByteArray.empty ([(⟨#[]⟩ : ByteArray),(⟨#[101,116]⟩ : ByteArray),(⟨#[101]⟩ : ByteArray),(⟨#[116]⟩ : ByteArray),(⟨#[101,103,116,107]⟩ : ByteArray),(⟨#[101,107,116]⟩ : ByteArray),(⟨#[110,107,116]⟩ : ByteArray),(⟨#[110]⟩ : ByteArray),(⟨#[97,116]⟩ : ByteArray),(⟨#[116]⟩ : ByteArray),(⟨#[]⟩ : ByteArray),(⟨#[101,107]⟩ : ByteArray),(⟨#[101,116]⟩ : ByteArray),(⟨#[101,116]⟩ : ByteArray)]:List ByteArray)))],[]⟩]
 have O2:Obl _:=(.c (show ([(⟨#[]⟩ : ByteArray),(⟨#[101,116]⟩ : ByteArray),(⟨#[101]⟩ : ByteArray),(⟨#[116]⟩ : ByteArray),(⟨#[101,103,116,107]⟩ : ByteArray),(⟨#[101,107,116]⟩ : ByteArray),(⟨#[110,107,116]⟩ : ByteArray),(⟨#[110]⟩ : ByteArray),(⟨#[97,116]⟩ : ByteArray),(⟨#[116]⟩ : ByteArray),(⟨#[]⟩ : ByteArray),(⟨#[101,107]⟩ : ByteArray),(⟨#[101,116]⟩ : ByteArray),(⟨#[101,116]⟩ : ByteArray)]:List ByteArray).length=14/\∀i j,i<14->j<1->Zap cS ByteArray.empty ([(⟨#[]⟩ : ByteArray),(⟨#[101,116]⟩ : ByteArray),(⟨#[101]⟩ : ByteArray),(⟨#[116]⟩ : ByteArray),(⟨#[101,103,116,107]⟩ : ByteArray),(⟨#[101,107,116]⟩ : ByteArray),(⟨#[110,107,116]⟩ : ByteArray),(⟨#[110]⟩ : ByteArray),(⟨#[97,116]⟩ : ByteArray),(⟨#[116]⟩ : ByteArray),(⟨#[]⟩ : ByteArray),(⟨#[101,107]⟩ : ByteArray),(⟨#[101,116]⟩ : ByteArray),(⟨#[101,116]⟩ : ByteArray)]:List ByteArray) i j=(([(⟨#[]⟩ : ByteArray),(⟨#[101,116]⟩ : ByteArray),(⟨#[101]⟩ : ByteArray),(⟨#[116]⟩ : ByteArray),(⟨#[101,103,116,107]⟩ : ByteArray),(⟨#[101,107,116]⟩ : ByteArray),(⟨#[110,107,116]⟩ : ByteArray),(⟨#[110]⟩ : ByteArray),(⟨#[97,116]⟩ : ByteArray),(⟨#[116]⟩ : ByteArray),(⟨#[]⟩ : ByteArray),(⟨#[101,107]⟩ : ByteArray),(⟨#[101,116]⟩ : ByteArray),(⟨#[101,116]⟩ : ByteArray)]:List ByteArray).flatMap cS).getD (i * 1+j) .junk from⟨rfl,fun i j hi hj=>ZaO (sz:=1) (e:=cS) (d:=ByteArray.empty) (fun _=>rfl) ([(⟨#[]⟩ : ByteArray),(⟨#[101,116]⟩ : ByteArray),(⟨#[101]⟩ : ByteArray),(⟨#[116]⟩ : ByteArray),(⟨#[101,103,116,107]⟩ : ByteArray),(⟨#[101,107,116]⟩ : ByteArray),(⟨#[110,107,116]⟩ : ByteArray),(⟨#[110]⟩ : ByteArray),(⟨#[97,116]⟩ : ByteArray),(⟨#[116]⟩ : ByteArray),(⟨#[]⟩ : ByteArray),(⟨#[101,107]⟩ : ByteArray),(⟨#[101,116]⟩ : ByteArray),(⟨#[101,116]⟩ : ByteArray)]:List ByteArray) i j hi hj⟩) .n);obtain⟨b,a⟩|⟨b,a⟩:=Zaj a
 .apply Ya a 10 (R1++[rB [(2,true)],rz]) [true] (O2.app (.c b (.c (show true=true from rfl) .n)))
 .obtain⟨f,a⟩|⟨f,a⟩:=Zaj a
  .apply Ya a 10 (R1++[rB [(2,false)],rz]) [true] (O2.app (.c b (.c f .n)))
  .obtain⟨h,a⟩:=Zar a;apply Ya a 11 (R1++[rB [(2,false)],rz]) [false] (O2.app (.c b (.c f (.c h .n))))
def Zbe(d e:Int)(b:ZaB):Nat->ByteArray->Int->Option Bool|0,_,_=>none|fu+1,c,a=>bif(decide (a<((c.size:Nat):Int)))then need (0<=a/\a<((c.size:Nat):Int))<|bif(((ZkX c a.toNat:Nat):Int)==(101:Int))then(ZdP b.fEnd).bind fun f=>bif(!f)then some false else Zbe d e b fu c (ZaA a 1)else bif(((ZkX c a.toNat:Nat):Int)==(110:Int))then(ZdQ b.fNet).bind fun g=>bif(!g)then some false else Zbe d e b fu c (ZaA a 1)else bif(((ZkX c a.toNat:Nat):Int)==(97:Int))then(Zbx b.fEnd.fAddr).bind fun h=>bif(!h)then some false else Zbe d e b fu c (ZaA a 1)else bif(((ZkX c a.toNat:Nat):Int)==(116:Int))then bif(decide (b.fNow<(0:Int)))then some false else bif(decide (b.fNow>(1099511627776:Int)))then some false else Zbe d e b fu c (ZaA a 1)else bif(((ZkX c a.toNat:Nat):Int)==(107:Int))then bif(decide (b.fNum<d))then some false else bif(decide (b.fNum>e))then some false else Zbe d e b fu c (ZaA a 1)else Zbe d e b fu c (ZaA a 1)else some true
theorem ZmW(S0:Nat->Prop)(w0:ZaW)(y z:Int)(b:ZaB):∀(u:Nat)(f:ByteArray)(g:Int)(r:Bool),Zbe y z b u f g=some r->Ys 76 S0 w0 Tryz.f47 (Yk r) [1,1,1,1,1,0,1,0] ⟨[(1,.one (.ptr 1 0)),(3,(Yj y)),(4,(Yj z)),(5,.one (.lit (.string f))),(6,(Yj g))],[(1,.box [.lit (.int .i64 b.fKind),.lit (.bool b.fEnd.fAddr.fV6),.lit (.int .u64 b.fEnd.fAddr.fHi),.lit (.int .u64 b.fEnd.fAddr.fLo),.lit (.int .i64 b.fEnd.fPort),.lit (.bool b.fNet.fAddr.fV6),.lit (.int .u64 b.fNet.fAddr.fHi),.lit (.int .u64 b.fNet.fAddr.fLo),.lit (.int .i64 b.fNet.fBits),.lit (.int .i64 b.fNow),.lit (.int .i64 b.fNum),.lit (.bool b.fGood)])]⟩:=by
 intro u;induction u with
 |zero=>
  intro f g r a;simp[Zbe]at a
 |succ u q=>
  intro f g r a;unfold Zbe at a;obtain⟨j,a⟩|⟨j,a⟩:=Zaj a
  .obtain⟨t,a⟩:=Zar a;obtain⟨s,a⟩|⟨s,a⟩:=Zaj a
   .obtain⟨A,D,a⟩:=Zac a;have O1:Obl _:=(.c j (.c t (.c s (.c (Zex _ _ D) .n))));obtain⟨v,a⟩|⟨v,a⟩:=Zaj a
    .apply Ya a 19 [rz,rz,rz,rA [(2,aB A)],rz] [true,true,true] (O1.app (.c v .n))
    .exact Ye 22 [rz,rz,rz,rA [(2,aB A)],rz] [true,true,false] ⟨[],[],[],[],[],[1,3,4,5,6],[1],[]⟩ (O1.app (.c v .n)) (q f (ZaA g 1) r a)
   .obtain⟨d,a⟩|⟨d,a⟩:=Zaj a
    .obtain⟨B,w,a⟩:=Zac a;have O2:Obl _:=(.c j (.c t (.c s (.c d (.c (Zey _ _ w) .n)))));obtain⟨k,a⟩|⟨k,a⟩:=Zaj a
     .apply Ya a 22 [rz,rz,rz,rz,rA [(2,aB B)],rz] [true,false,true,true] (O2.app (.c k .n))
     .exact Ye 25 [rz,rz,rz,rz,rA [(2,aB B)],rz] [true,false,true,false] ⟨[],[],[],[],[],[1,3,4,5,6],[1],[]⟩ (O2.app (.c k .n)) (q f (ZaA g 1) r a)
    .obtain⟨h,a⟩|⟨h,a⟩:=Zaj a
     .obtain⟨C,x,a⟩:=Zac a;have O3:Obl _:=(.c j (.c t (.c s (.c d (.c h (.c (Zba _ _ x) .n))))));obtain⟨l,a⟩|⟨l,a⟩:=Zaj a
      .apply Ya a 25 [rz,rz,rz,rz,rz,rA [(3,aB C)],rz] [true,false,false,true,true] (O3.app (.c l .n))
      .exact Ye 28 [rz,rz,rz,rz,rz,rA [(3,aB C)],rz] [true,false,false,true,false] ⟨[],[],[],[],[],[1,3,4,5,6],[1],[]⟩ (O3.app (.c l .n)) (q f (ZaA g 1) r a)
     .obtain⟨m,a⟩|⟨m,a⟩:=Zaj a
      .have O4:Obl _:=(.c j (.c t (.c s (.c d (.c h (.c m .n))))));obtain⟨i,a⟩|⟨i,a⟩:=Zaj a
       .apply Ya a 28 [rz,rz,rz,rz,rz,rz,rB [(3,true)],rz] [true,false,false,false,true,true] (O4.app (.c i (.c (show true=true from rfl) .n)))
       .obtain⟨o,a⟩|⟨o,a⟩:=Zaj a
        .apply Ya a 28 [rz,rz,rz,rz,rz,rz,rB [(3,false)],rz] [true,false,false,false,true,true] (O4.app (.c i (.c o .n)))
        .exact Ye 31 [rz,rz,rz,rz,rz,rz,rB [(3,false)],rz] [true,false,false,false,true,false] ⟨[],[],[],[],[],[1,3,4,5,6],[1],[]⟩ (O4.app (.c i (.c o .n))) (q f (ZaA g 1) r a)
      .have O5:Obl _:=(.c j (.c t (.c s (.c d (.c h (.c m .n))))));obtain⟨e,a⟩|⟨e,a⟩:=Zaj a
       .obtain⟨aQ,a⟩|⟨aQ,a⟩:=Zaj a
        .apply Ya a 31 [rz,rz,rz,rz,rz,rz,rz,rB [(4,true)],rz] [true,false,false,false,false,true,true] (O5.app (.c e (.c aQ (.c (show true=true from rfl) .n))))
        .let R6:List RA:=[rz,rz,rz,rz,rz,rz,rz,rB [(4,false)],rz]
         obtain⟨p,a⟩|⟨p,a⟩:=Zaj a
         .apply Ya a 31 R6 [true,false,false,false,false,true,true] (O5.app (.c e (.c aQ (.c p .n))))
         .exact Ye 34 R6 [true,false,false,false,false,true,false] ⟨[],[],[],[],[],[1,3,4,5,6],[1],[]⟩ (O5.app (.c e (.c aQ (.c p .n)))) (q f (ZaA g 1) r a)
       .exact Ye 31 [rz,rz,rz,rz,rz,rz,rz,rz] [true,false,false,false,false,false] ⟨[],[],[],[],[],[1,3,4,5,6],[1],[]⟩ (O5.app (.c e .n)) (q f (ZaA g 1) r a)
  .apply Ya a 8 [rz,rz] [false] (.c j .n)
def ZcW(c d:Int)(a:ZaB):Option Bool:=(ZfO a.fKind).bind fun b=>Zbe c d a ((((b.size:Nat):Int)-(0:Int)).toNat+2) b (0:Int)
theorem ZeO(S0:Nat->Prop)(w0:ZaW)(d e:Int)(a:ZaB)(r:Bool)(b:ZcW d e a=some r):Ys 76 S0 w0 Tryz.f47 (Yk r) [1,1,1,1] ⟨[(1,.one (.ptr 1 0)),(3,(Yj d)),(4,(Yj e))],[(1,.box [.lit (.int .i64 a.fKind),.lit (.bool a.fEnd.fAddr.fV6),.lit (.int .u64 a.fEnd.fAddr.fHi),.lit (.int .u64 a.fEnd.fAddr.fLo),.lit (.int .i64 a.fEnd.fPort),.lit (.bool a.fNet.fAddr.fV6),.lit (.int .u64 a.fNet.fAddr.fHi),.lit (.int .u64 a.fNet.fAddr.fLo),.lit (.int .i64 a.fNet.fBits),.lit (.int .i64 a.fNow),.lit (.int .i64 a.fNum),.lit (.bool a.fGood)])]⟩:=by
 unfold ZcW at b;obtain⟨f,g,b⟩:=Zac b;exact Ye 6 [rA [(2,.r (.one (.lit (.string f))) [])],rz] [] ⟨[],[],[],[],[],[1,3,4,5,6],[1],[]⟩ (.c (Zpa _ _ g) .n) (ZmW S0 w0 d e a ((((f.size:Nat):Int)-(0:Int)).toNat+2) f (0:Int) r b)
def ZfP(a:ZaB):Option Bool:=bif(decide (a.fKind<(1:Int)))then some false else bif(decide (a.fKind>(13:Int)))then some false else bif(a.fKind==(5:Int))then ZcW (1:Int) (5:Int) a else bif(a.fKind==(6:Int))then ZcW (1:Int) (1099511627776:Int) a else bif(a.fKind==(11:Int))then ZcW (1:Int) (1048576:Int) a else ZcW (0:Int) (1073741824:Int) a
theorem Zku(d:ZaB)(r:Bool)(a:ZfP d=some r):Yp 47 [.agg (ZaB.c d)] (Yk r):=by
 refine Yw Tryz.func47 fun S0 w0=>?_;unfold ZfP at a;obtain⟨b,a⟩|⟨b,a⟩:=Zaj a
 .apply Ya a 8 [rz,rB [(3,true)],rz] [true] (.c b (.c (show true=true from rfl) .n))
 .obtain⟨e,a⟩|⟨e,a⟩:=Zaj a
  .apply Ya a 8 [rz,rB [(3,false)],rz] [true] (.c b (.c e .n))
  .obtain⟨f,a⟩|⟨f,a⟩:=Zaj a
   .exact Ye 20 [rz,rB [(3,false)],rz,rz,rz,rz,rz] [false,true] ⟨[],[],[],[],[],[1,3,4],[1],[]⟩ (.c b (.c e (.c f .n))) (ZeO S0 w0 (1:Int) (5:Int) d r a)
   .obtain⟨g,a⟩|⟨g,a⟩:=Zaj a
    .exact Ye 23 [rz,rB [(3,false)],rz,rz,rz,rz,rz,rz] [false,false,true] ⟨[],[],[],[],[],[1,3,4],[1],[]⟩ (.c b (.c e (.c f (.c g .n)))) (ZeO S0 w0 (1:Int) (1099511627776:Int) d r a)
    .obtain⟨h,a⟩|⟨h,a⟩:=Zaj a
     .exact Ye 26 [rz,rB [(3,false)],rz,rz,rz,rz,rz,rz,rz] [false,false,false,true] ⟨[],[],[],[],[],[1,3,4],[1],[]⟩ (.c b (.c e (.c f (.c g (.c h .n))))) (ZeO S0 w0 (1:Int) (1048576:Int) d r a)
     .exact Ye 24 [rz,rB [(3,false)],rz,rz,rz,rz,rz] [false,false,false,false] ⟨[],[],[],[],[],[1,3,4],[1],[]⟩ (.c b (.c e (.c f (.c g (.c h .n))))) (ZeO S0 w0 (0:Int) (1073741824:Int) d r a)
def Zdh(a:Int):Option Zaq:=some (Zaq.mk a (Zan.mk (Zai.mk false 0 0) 0) 0 0 ([]:(List Zab)))
theorem ZdL(a:Int)(r:Zaq)(b:Zdh a=some r):Yp 71 [Yj a] (.agg (Zaq.c r)):=by
 refine Yw Tryz.func71 fun S0 w0=>?_;unfold Zdh at b;apply Yb b 4 [rz,rz] [] [] [(2,[(7,cL 10 Zab.c Zab.d [])])] [] .n
def ZgV(a:Zaa)(b:Int):Option Bool:=bif(a.fState==(1:Int))then some (decide (a.fNext<=b))else some false
theorem Zqx(d:Zaa)(e:Int)(r:Bool)(a:ZgV d e=some r):Yp 303 [.agg (Zaa.c d),Yj e] (Yk r):=by
 refine Yw Tryz.func303 fun S0 w0=>?_;unfold ZgV at a;obtain⟨b,a⟩|⟨b,a⟩:=Zaj a
 .apply Ya a 4 [rz,rB [(3,true)]] [] (.c b .n)
 .apply Ya a 4 [rz,rB [(3,false)]] [] (.c b .n)
def ZcS:Nat->Int->Zag->Zai->Option Bool|0,_,_,_=>none|fu+1,a,b,c=>bif(decide (a<b.fBits))then(Zbq b.fAddr a).bind fun d=>(Zbq c a).bind fun e=>bif(d != e)then some false else ZcS fu (ZaA a 1) b c else some true
theorem Zou(S0:Nat->Prop)(w0:ZaW):∀(f:Nat)(e:Int)(b:Zag)(d:Zai)(r:Bool),ZcS f e b d=some r->Ys 36 S0 w0 Tryz.f240 (Yk r) [1,1,0,1,0] ⟨[(2,.one (.ptr 2 0)),(3,.one (.ptr 3 0)),(5,(Yj e))],[(2,.box [.lit (.bool b.fAddr.fV6),.lit (.int .u64 b.fAddr.fHi),.lit (.int .u64 b.fAddr.fLo),.lit (.int .i64 b.fBits)]),(3,.box [.lit (.bool d.fV6),.lit (.int .u64 d.fHi),.lit (.int .u64 d.fLo)])]⟩:=by
 intro f;induction f with
 |zero=>
  intro e b d r a;simp[ZcS]at a
 |succ f k=>
  intro e b d r a;unfold ZcS at a;obtain⟨g,a⟩|⟨g,a⟩:=Zaj a
  .obtain⟨i,j,l,m,a⟩:=Yv a;have O1:Obl _:=(.c g (.c (ZdD _ _ _ l) (.c (ZdD _ _ _ m) .n)));obtain⟨h,a⟩|⟨h,a⟩:=Zaj a
   .apply Ya a 13 [rz,rA [(3,aI i),(6,aI j)],rz] [true,true] (O1.app (.c h .n))
   .exact Ye 15 [rz,rA [(3,aI i),(6,aI j)],rz] [true,false] ⟨[],[],[],[],[],[2,3,5],[2,3],[]⟩ (O1.app (.c h .n)) (k (ZaA e 1) b d r a)
  .apply Ya a 8 [rz,rz] [false] (.c g .n)
def ZgY(a:Zag)(b:Zai):Option Bool:=(ZdQ a).bind fun c=>bif(!c)then some false else(Zbx b).bind fun d=>bif(!d)then some false else bif(!(a.fAddr.fV6==b.fV6))then some false else ZcS 1000000 (0:Int) a b
theorem ZqA(d:Zag)(e:Zai)(r:Bool)(a:ZgY d e=some r):Yp 240 [.agg (Zag.c d),.agg (Zai.c e)] (Yk r):=by
 refine Yw Tryz.func240 fun S0 w0=>?_;unfold ZgY at a;obtain⟨f,i,a⟩:=Zac a;obtain⟨g,a⟩|⟨g,a⟩:=Zaj a
 .apply Ya a 8 [rz,⟨[(1,aB f)],[(3,true)],[],[],[],[],[]⟩,rz] [true] (.c (Zey _ _ i) (.c g (.c (show true=true from rfl) .n)))
 .obtain⟨j,k,a⟩:=Zac a;have O2:Obl _:=(.c (Zey _ _ i) (.c g (.c (Zba _ _ k) .n)));obtain⟨b,a⟩|⟨b,a⟩:=Zaj a
  .apply Ya a 8 [rz,⟨[(1,aB f),(5,aB j)],[(3,false),(8,true)],[],[],[],[],[]⟩,rz] [true] (O2.app (.c b (.c (show true=true from rfl) .n)))
  .let R3:List RA:=[rz,⟨[(1,aB f),(5,aB j)],[(3,false),(8,false)],[],[],[],[],[]⟩,rz]
   obtain⟨h,a⟩|⟨h,a⟩:=Zaj a
   .apply Ya a 8 R3 [true] (O2.app (.c b (.c h .n)))
   .exact Ye 11 R3 [false] ⟨[],[],[],[],[],[2,3,5],[2,3],[]⟩ (O2.app (.c b (.c h .n))) (Zou S0 w0 1000000 (0:Int) d e r a)
def Zgs(a:Zaf)(b:Zai)(c:Int):Option Bool:=bif(decide (a.fUntil>c))then(ZgY a.fNet b).bind fun d=>some d else some false
theorem ZpP(d:Zaf)(e:Zai)(f:Int)(r:Bool)(a:Zgs d e f=some r):Yp 171 [.agg (Zaf.c d),.agg (Zai.c e),Yj f] (Yk r):=by
 refine Yw Tryz.func171 fun S0 w0=>?_;unfold Zgs at a;obtain⟨b,a⟩|⟨b,a⟩:=Zaj a
 .obtain⟨g,h,a⟩:=Zac a;apply Ya a 4 [rz,⟨[(8,aB g)],[(4,true)],[],[],[],[],[]⟩] [] (.c b (.c (ZqA _ _ _ h) .n))
 .apply Ya a 4 [rz,rB [(4,false)]] [] (.c b .n)
def ZbB(b:List Zaf)(c:Int):Nat->Int->Bool->Int->Zai->Option Int|0,_,_,_,_=>none|fu+1,f,g,a,e=>bif(decide (a<(b.length:Int)))then need (0<=a/\a<(b.length:Int))<|(Zgs (b.getD a.toNat Zaf.d) e c).bind fun h=>bif h then bif(!g)then ZbB b c fu ((b.getD a.toNat Zaf.d).fUntil) true (ZaA a 1) e else bif(decide ((b.getD a.toNat Zaf.d).fUntil>f))then ZbB b c fu ((b.getD a.toNat Zaf.d).fUntil) true (ZaA a 1) e else ZbB b c fu f g (ZaA a 1) e else ZbB b c fu f g (ZaA a 1) e else some f
theorem Znh(S0:Nat->Prop)(w0:ZaW)(i:List Zaf)(q:Int):∀(j:Nat)(f:Int)(g:Bool)(b:Int)(e:Zai)(r:Int),ZbB i q j f g b e=some r->Ys 42 S0 w0 Tryz.f92 (Yj r) [1,1,0,1,0] ⟨[(0,(Yl i)),(2,(Yj q)),(4,.one (.ptr 4 0)),(7,(Yj f)),(8,(Yk g)),(9,(Yj b))],[(4,.box [.lit (.bool e.fV6),.lit (.int .u64 e.fHi),.lit (.int .u64 e.fLo)])]⟩:=by
 intro j;induction j with
 |zero=>
  intro f g b e r a;simp[ZbB]at a
 |succ j k=>
  intro f g b e r a;unfold ZbB at a;obtain⟨m,a⟩|⟨m,a⟩:=Zaj a
  .obtain⟨o2,a⟩:=Zar a;obtain⟨o,s,a⟩:=Zac a;have O1:Obl _:=(.c m (.c o2 (.c (ZpP _ _ _ _ s) .n)));obtain⟨h,a⟩|⟨h,a⟩:=Zaj a
   .obtain⟨l,a⟩|⟨l,a⟩:=Zaj a
    .exact Ye 17 [rz,⟨[(6,aB o)],[(7,true),(10,true)],[],[],[],[],[]⟩,rz,rz,rz] [true,true] ⟨[],[],[],[],[],[0,2,4,7,8,9],[4],[]⟩ (O1.app (.c h (.c l (.c (show true=true from rfl) (.c o2 .n))))) (k ((i.getD b.toNat Zaf.d).fUntil) true (ZaA b 1) e r a)
    .let R2:List RA:=[rz,⟨[(6,aB o)],[(7,true),(10,false)],[],[],[],[],[]⟩,rz]
     obtain⟨p,a⟩|⟨p,a⟩:=Zaj a
     .exact Ye 17 (R2++[rz,rz]) [true,true] ⟨[],[],[],[],[],[0,2,4,7,8,9],[4],[]⟩ (O1.app (.c h (.c l (.c o2 (.c p (.c o2 .n)))))) (k ((i.getD b.toNat Zaf.d).fUntil) true (ZaA b 1) e r a)
     .exact Ye 15 R2 [true,false] ⟨[],[],[],[],[],[0,2,4,7,8,9],[4],[]⟩ (O1.app (.c h (.c l (.c o2 (.c p .n))))) (k f g (ZaA b 1) e r a)
   .exact Ye 15 [rz,⟨[(6,aB o)],[(7,false)],[],[],[],[],[]⟩,rz] [true,false] ⟨[],[],[],[],[],[0,2,4,7,8,9],[4],[]⟩ (O1.app (.c h (.c (show false=false from rfl) .n))) (k f g (ZaA b 1) e r a)
  .apply Ya a 8 [rz,rz] [false] (.c m .n)
def ZeG(a:List Zaf)(b:Zai)(c:Int):Option Int:=ZbB a c (((a.length:Int)-(0:Int)).toNat+2) (0:Int) false (0:Int) b
theorem Zkz(a:List Zaf)(b:Zai)(d r:Int)(e:ZeG a b d=some r):Yp 92 [Yl a,.agg (Zai.c b),Yj d] (Yj r):=by
 refine Yw Tryz.func92 fun S0 w0=>?_;unfold ZeG at e;exact Ye 8 [rz,rz,rz] [] ⟨[],[],[],[],[],[0,2,4,7,8,9],[4],[]⟩ .n (Znh S0 w0 a d (((a.length:Int)-(0:Int)).toNat+2) (0:Int) false (0:Int) b r e)
def ZbK:Nat->Int->Zai->Zai->Option Bool|0,_,_,_=>none|fu+1,a,b,c=>bif(decide (a<(32:Int)))then bif b.fV6 then(Zbq b a).bind fun d=>(Zbq c a).bind fun e=>bif(d != e)then some false else ZbK fu (ZaA a 1) b c else bif(decide (a<(16:Int)))then(Zbq b a).bind fun f=>(Zbq c a).bind fun g=>bif(f != g)then some false else ZbK fu (ZaA a 1) b c else ZbK fu (ZaA a 1) b c else some true
theorem ZnM(S0:Nat->Prop)(w0:ZaW):∀(j:Nat)(e:Int)(b d:Zai)(r:Bool),ZbK j e b d=some r->Ys 40 S0 w0 Tryz.f355 (Yk r) [1,1,0,1,0] ⟨[(2,.one (.ptr 2 0)),(3,.one (.ptr 3 0)),(5,(Yj e))],[(2,.box [.lit (.bool b.fV6),.lit (.int .u64 b.fHi),.lit (.int .u64 b.fLo)]),(3,.box [.lit (.bool d.fV6),.lit (.int .u64 d.fHi),.lit (.int .u64 d.fLo)])]⟩:=by
 intro j;induction j with
 |zero=>
  intro e b d r a;simp[ZbK]at a
 |succ j l=>
  intro e b d r a;unfold ZbK at a;obtain⟨i,a⟩|⟨i,a⟩:=Zaj a
  .obtain⟨k,a⟩|⟨k,a⟩:=Zaj a
   .obtain⟨p,q,a⟩:=Zac a;obtain⟨s,t,a⟩:=Zac a
    let R1:List RA:=[rz,⟨[(9,aI p),(12,aI s)],[(2,true)],[],[],[],[],[]⟩,rz]
    have O2:Obl _:=(.c i (.c k (.c (ZdD _ _ _ q) (.c (ZdD _ _ _ t) .n))));obtain⟨f,a⟩|⟨f,a⟩:=Zaj a
    .apply Ya a 13 R1 [true,true] (O2.app (.c f .n))
    .exact Ye 15 R1 [true,false] ⟨[],[],[],[],[],[2,3,5],[2,3],[]⟩ (O2.app (.c f .n)) (l (ZaA e 1) b d r a)
   .obtain⟨g,a⟩|⟨g,a⟩:=Zaj a
    .obtain⟨u,m,a⟩:=Zac a;obtain⟨v,o,a⟩:=Zac a
     let R3:List RA:=[rz,⟨[(9,aI u),(12,aI v)],[(2,false),(6,true)],[],[],[],[],[]⟩,rz]
     have O4:Obl _:=(.c i (.c k (.c g (.c (ZdD _ _ _ m) (.c (ZdD _ _ _ o) .n)))));obtain⟨h,a⟩|⟨h,a⟩:=Zaj a
     .apply Ya a 13 R3 [true,true] (O4.app (.c h .n))
     .exact Ye 15 R3 [true,false] ⟨[],[],[],[],[],[2,3,5],[2,3],[]⟩ (O4.app (.c h .n)) (l (ZaA e 1) b d r a)
    .exact Ye 15 [rz,rB [(2,false),(6,false)],rz] [true,false] ⟨[],[],[],[],[],[2,3,5],[2,3],[]⟩ (.c i (.c k (.c g (.c (show false=false from rfl) .n)))) (l (ZaA e 1) b d r a)
  .apply Ya a 8 [rz,rz] [false] (.c i .n)
def Zfh(a b:Zai):Option Bool:=(Zbx a).bind fun c=>bif(!c)then some false else(Zbx b).bind fun d=>bif(!d)then some false else bif(!(a.fV6==b.fV6))then some false else ZbK (((32:Int)-(0:Int)).toNat+2) (0:Int) a b
theorem ZkW(d e:Zai)(r:Bool)(a:Zfh d e=some r):Yp 355 [.agg (Zai.c d),.agg (Zai.c e)] (Yk r):=by
 refine Yw Tryz.func355 fun S0 w0=>?_;unfold Zfh at a;obtain⟨f,i,a⟩:=Zac a;obtain⟨g,a⟩|⟨g,a⟩:=Zaj a
 .apply Ya a 8 [rz,⟨[(1,aB f)],[(3,true)],[],[],[],[],[]⟩,rz] [true] (.c (Zba _ _ i) (.c g (.c (show true=true from rfl) .n)))
 .obtain⟨j,k,a⟩:=Zac a;have O5:Obl _:=(.c (Zba _ _ i) (.c g (.c (Zba _ _ k) .n)));obtain⟨b,a⟩|⟨b,a⟩:=Zaj a
  .apply Ya a 8 [rz,⟨[(1,aB f),(5,aB j)],[(3,false),(8,true)],[],[],[],[],[]⟩,rz] [true] (O5.app (.c b (.c (show true=true from rfl) .n)))
  .let R6:List RA:=[rz,⟨[(1,aB f),(5,aB j)],[(3,false),(8,false)],[],[],[],[],[]⟩,rz]
   obtain⟨h,a⟩|⟨h,a⟩:=Zaj a
   .apply Ya a 8 R6 [true] (O5.app (.c b (.c h .n)))
   .exact Ye 11 R6 [false] ⟨[],[],[],[],[],[2,3,5],[2,3],[]⟩ (O5.app (.c b (.c h .n))) (ZnM S0 w0 (((32:Int)-(0:Int)).toNat+2) (0:Int) d e r a)
def ZcD(e:List Zab)(b:List Zaa)(f:Int)(c:Zai)(ax:Int->Zai->Option Bool):Nat->Int->Option Bool|0,_=>none|fu+1,a=>bif(decide (a<(b.length:Int)))then need (0<=a/\a<(b.length:Int))<|bif((b.getD a.toNat Zaa.d).fState==(2:Int))then(Zfh (((b.getD a.toNat Zaa.d).fEnd).fAddr) c).bind fun g=>bif g then some false else ZcD e b f c ax fu (ZaA a 1)else ZcD e b f c ax fu (ZaA a 1)else some true
theorem ZnJ(S0:Nat->Prop)(w0:ZaW)(l:List Zab)(i:List Zaa)(o:Int)(f:Zai)(ax:Int->Zai->Option Bool)(c9:∀(kq:Int)(dy:Zai)(r:Bool),ax kq dy=some r->Ys 56 S0 w0 Tryz.f304 (Yk r) [1,1,0,1,0] ⟨[(0,(Yn l)),(1,(Ym i)),(5,.one (.ptr 5 0)),(7,(Yj kq))],[(5,.box [.lit (.bool dy.fV6),.lit (.int .u64 dy.fHi),.lit (.int .u64 dy.fLo)])]⟩):∀(g:Nat)(e:Int)(r:Bool),ZcD l i o f ax g e=some r->Ys 56 S0 w0 Tryz.f304 (Yk r) [1,1,1,0,1,0] ⟨[(1,(Ym i)),(5,.one (.ptr 5 0)),(8,(Yj e))],[(5,.box [.lit (.bool f.fV6),.lit (.int .u64 f.fHi),.lit (.int .u64 f.fLo)])]⟩:=by
 intro g;induction g with
 |zero=>
  intro e r a;simp[ZcD]at a
 |succ g m=>
  intro e r a;unfold ZcD at a;obtain⟨h,a⟩|⟨h,a⟩:=Zaj a
  .obtain⟨j,a⟩:=Zar a;obtain⟨b,a⟩|⟨b,a⟩:=Zaj a
   .obtain⟨p,k,a⟩:=Zac a
    let R1:List RA:=[rz,⟨[(14,aB p)],[(6,true)],[],[],[],[],[]⟩,rz]
    have O2:Obl _:=(.c h (.c j (.c b (.c j (.c (ZkW _ _ _ k) .n)))));obtain⟨d,a⟩|⟨d,a⟩:=Zaj a
    .apply Ya a 13 R1 [true,true] (O2.app (.c d .n))
    .exact Ye 15 R1 [true,false] ⟨[],[],[],[],[],[1,5,8],[5],[]⟩ (O2.app (.c d .n)) (m (ZaA e 1) r a)
   .exact Ye 15 [rz,rB [(6,false)],rz] [true,false] ⟨[],[],[],[],[],[1,5,8],[5],[]⟩ (.c h (.c j (.c b (.c (show false=false from rfl) .n)))) (m (ZaA e 1) r a)
  .apply Ya a 8 [rz,rz] [false] (.c h .n)
def ZbJ(a:List Zab)(c:List Zaa):Nat->Int->Zai->Option Bool|0,_,_=>none|fu+1,b,e=>bif(decide (b<(a.length:Int)))then need (0<=b/\b<(a.length:Int))<|bif(!(a.getD b.toNat Zab.d).fIn)then(Zfh (((a.getD b.toNat Zab.d).fEnd).fAddr) e).bind fun f=>bif f then some false else ZbJ a c fu (ZaA b 1) e else ZbJ a c fu (ZaA b 1) e else ZcD a c b e (ZbJ a c fu) (((c.length:Int)-(0:Int)).toNat+2) (0:Int)
theorem ZnK(S0:Nat->Prop)(w0:ZaW)(g:List Zab)(e:List Zaa):∀(f:Nat)(d:Int)(b:Zai)(r:Bool),ZbJ g e f d b=some r->Ys 56 S0 w0 Tryz.f304 (Yk r) [1,1,0,1,0] ⟨[(0,(Yn g)),(1,(Ym e)),(5,.one (.ptr 5 0)),(7,(Yj d))],[(5,.box [.lit (.bool b.fV6),.lit (.int .u64 b.fHi),.lit (.int .u64 b.fLo)])]⟩:=by
 intro f;induction f with
 |zero=>
  intro d b r a;simp[ZbJ]at a
 |succ f i=>
  intro d b r a;unfold ZbJ at a;obtain⟨h,a⟩|⟨h,a⟩:=Zaj a
  .obtain⟨j,a⟩:=Zar a;obtain⟨k,a⟩|⟨k,a⟩:=Zaj a
   .obtain⟨m,o,a⟩:=Zac a
    let R3:List RA:=[rz,⟨[(14,aB m)],[(6,true)],[],[],[],[],[]⟩,rz]
    have O4:Obl _:=(.c h (.c j (.c k (.c j (.c (ZkW _ _ _ o) .n)))));obtain⟨l,a⟩|⟨l,a⟩:=Zaj a
    .apply Ya a 13 R3 [true,true] (O4.app (.c l .n))
    .exact Ye 15 R3 [true,false] ⟨[],[],[],[],[],[0,1,5,7],[5],[]⟩ (O4.app (.c l .n)) (i (ZaA d 1) b r a)
   .exact Ye 15 [rz,rB [(6,false)],rz] [true,false] ⟨[],[],[],[],[],[0,1,5,7],[5],[]⟩ (.c h (.c j (.c k (.c (show false=false from rfl) .n)))) (i (ZaA d 1) b r a)
  .exact Ye 10 [rz,rz] [false] ⟨[],[],[],[],[],[1,5,8],[5],[]⟩ (.c h .n) (ZnJ S0 w0 g e d b (ZbJ g e f) i (((e.length:Int)-(0:Int)).toNat+2) (0:Int) r a)
def Zgr(a:List Zab)(c:List Zaa)(b:Zai):Option Bool:=(Zbx b).bind fun d=>bif(!d)then some false else ZbJ a c (((a.length:Int)-(0:Int)).toNat+2) (0:Int) b
theorem ZpN(b:List Zab)(d:List Zaa)(e:Zai)(r:Bool)(a:Zgr b d e=some r):Yp 304 [Yn b,Ym d,.agg (Zai.c e)] (Yk r):=by
 refine Yw Tryz.func304 fun S0 w0=>?_;unfold Zgr at a;obtain⟨g,h,a⟩:=Zac a;obtain⟨f,a⟩|⟨f,a⟩:=Zaj a
 .apply Ya a 8 [rz,rA [(1,aB g)],rz] [true] (.c (Zba _ _ h) (.c f .n))
 .exact Ye 11 [rz,rA [(1,aB g)],rz] [false] ⟨[],[],[],[],[],[0,1,5,7],[5],[]⟩ (.c (Zba _ _ h) (.c f .n)) (ZnK S0 w0 b d (((b.length:Int)-(0:Int)).toNat+2) (0:Int) e r a)
def ZdU(d:List Zaa)(b:List Zab)(e:List Zaf)(a:Zaa)(c:Int):Option Bool:=(Zdo a).bind fun f=>bif f then(ZgV a c).bind fun g=>bif g then(ZeG e a.fEnd.fAddr c).bind fun h=>bif(h==(0:Int))then(ZdN b a.fEnd).bind fun i=>bif(decide (i<(0:Int)))then(Zgr b d a.fEnd.fAddr).bind fun j=>some j else some false else some false else some false else some false
theorem Zqu(j:List Zaa)(k:List Zab)(l:List Zaf)(m:Zaa)(o:Int)(r:Bool)(a:ZdU j k l m o=some r):Yp 233 [Ym j,Yn k,Yl l,.agg (Zaa.c m),Yj o] (Yk r):=by
 refine Yw Tryz.func233 fun S0 w0=>?_;unfold ZdU at a;obtain⟨b,p,a⟩:=Zac a;obtain⟨e,a⟩|⟨e,a⟩:=Zaj a
 .obtain⟨d,s,a⟩:=Zac a;have O1:Obl _:=(.c (ZdH _ _ p) (.c e (.c (Zqx _ _ _ s) .n)));obtain⟨f,a⟩|⟨f,a⟩:=Zaj a
  .obtain⟨g,t,a⟩:=Zac a;have O2:Obl _:=(O1.app (.c f (.c (Zkz _ _ _ _ t) .n)));obtain⟨h,a⟩|⟨h,a⟩:=Zaj a
   .obtain⟨q,u,a⟩:=Zac a;have O3:Obl _:=(O2.app (.c h (.c (ZhS _ _ _ u) .n)));obtain⟨i,a⟩|⟨i,a⟩:=Zaj a
    .obtain⟨v,w,a⟩:=Zac a;apply Ya a 4 [rz,⟨[(1,aB b),(5,aB d),(13,aI g),(20,aI q),(29,aB v)],[(2,true),(7,true),(16,true),(23,true)],[],[],[],[],[]⟩] [] (O3.app (.c i (.c (ZpN _ _ _ _ w) .n)))
    .apply Ya a 4 [rz,⟨[(1,aB b),(5,aB d),(13,aI g),(20,aI q)],[(2,true),(7,true),(16,true),(23,false)],[],[],[],[],[]⟩] [] (O3.app (.c i .n))
   .apply Ya a 4 [rz,⟨[(1,aB b),(5,aB d),(13,aI g)],[(2,true),(7,true),(16,false)],[],[],[],[],[]⟩] [] (O2.app (.c h .n))
  .apply Ya a 4 [rz,⟨[(1,aB b),(5,aB d)],[(2,true),(7,false)],[],[],[],[],[]⟩] [] (O1.app (.c f .n))
 .apply Ya a 4 [rz,⟨[(1,aB b)],[(2,false)],[],[],[],[],[]⟩] [] (.c (ZdH _ _ p) (.c e .n))
def Zbk(c:List Zaa)(e:List Zab)(f:List Zaf)(g:Int):Nat->Int->Int->Zan->Option (Zan×Bool)|0,_,_,_=>none|fu+1,b,a,h=>bif(decide (a<(c.length:Int)))then need (0<=a/\a<(c.length:Int))<|(ZdU c e f (c.getD a.toNat Zaa.d) g).bind fun i=>bif(!i)then Zbk c e f g fu b (ZaA a 1) h else bif(decide (b<(0:Int)))then Zbk c e f g fu a (ZaA a 1) h else need (0<=b/\b<(c.length:Int))<|bif(decide ((c.getD a.toNat Zaa.d).fNext<(c.getD b.toNat Zaa.d).fNext))then Zbk c e f g fu a (ZaA a 1) h else bif((c.getD a.toNat Zaa.d).fNext==(c.getD b.toNat Zaa.d).fNext)then(Zcl ((c.getD a.toNat Zaa.d).fEnd) ((c.getD b.toNat Zaa.d).fEnd)).bind fun j=>bif(decide (j<(0:Int)))then Zbk c e f g fu a (ZaA a 1) h else Zbk c e f g fu b (ZaA a 1) h else Zbk c e f g fu b (ZaA a 1) h else bif(decide (b<(0:Int)))then some ((Zan.mk (Zai.mk false 0 0) 0),false)else need (0<=b/\b<(c.length:Int))<|some ((c.getD b.toNat Zaa.d).fEnd,true)
theorem ZnI(S0:Nat->Prop)(w0:ZaW)(t:List Zaa)(u:List Zab)(v:List Zaf)(w:Int):∀(k:Nat)(d b:Int)(e:Zan)(r:(Zan×Bool)),Zbk t u v w k d b e=some r->Ys 79 S0 w0 Tryz.f152 (.tup [(true,Zan.c r.1),(false,cB r.2)]) [1,1,0,1,0] ⟨[(0,(Ym t)),(1,(Yn u)),(2,(Yl v)),(3,(Yj w)),(8,.one (.ptr 8 0)),(10,(Yj d)),(11,(Yj b))],[(8,.box [.lit (.bool e.fAddr.fV6),.lit (.int .u64 e.fAddr.fHi),.lit (.int .u64 e.fAddr.fLo),.lit (.int .i64 e.fPort)])]⟩:=by
 intro k;induction k with
 |zero=>
  intro d b e r a;simp[Zbk]at a
 |succ k h=>
  intro d b e r a;unfold Zbk at a;obtain⟨l,a⟩|⟨l,a⟩:=Zaj a
  .obtain⟨o2,a⟩:=Zar a;obtain⟨i,x,a⟩:=Zac a;have O1:Obl _:=(.c l (.c o2 (.c (Zqu _ _ _ _ _ _ x) .n)));obtain⟨j,a⟩|⟨j,a⟩:=Zaj a
   .exact Ye 15 [rz,rA [(8,aB i)],rz] [true,true] ⟨[],[],[],[],[],[0,1,2,3,8,10,11],[8],[]⟩ (O1.app (.c j .n)) (h d (ZaA b 1) e r a)
   .obtain⟨m,a⟩|⟨m,a⟩:=Zaj a
    .exact Ye 20 [rz,rA [(8,aB i)],rB [(2,true)],rz,rz] [true,false,true] ⟨[],[],[],[],[],[0,1,2,3,8,10,11],[8],[]⟩ (O1.app (.c j (.c m (.c (show true=true from rfl) .n)))) (h b (ZaA b 1) e r a)
    .obtain⟨o,a⟩:=Zar a;obtain⟨p,a⟩|⟨p,a⟩:=Zaj a
     .exact Ye 20 [rz,rA [(8,aB i)],rB [(2,false),(15,true)],rz,rz] [true,false,true] ⟨[],[],[],[],[],[0,1,2,3,8,10,11],[8],[]⟩ (O1.app (.c j (.c m (.c o2 (.c o (.c p (.c (show true=true from rfl) .n))))))) (h b (ZaA b 1) e r a)
     .have O2:Obl _:=(O1.app (.c j (.c m (.c o2 (.c o (.c p (.c o2 (.c o .n))))))));obtain⟨q,a⟩|⟨q,a⟩:=Zaj a
      .obtain⟨y,z,a⟩:=Zac a
       let R3:List RA:=[rz,rA [(8,aB i)],⟨[(38,aI y)],[(2,false),(15,false),(27,true)],[],[],[],[],[]⟩,rz]
       have O4:Obl _:=(O2.app (.c q (.c o2 (.c o (.c (Zeb _ _ _ z) .n)))));obtain⟨f,a⟩|⟨f,a⟩:=Zaj a
       .exact Ye 20 (R3++[rz]) [true,false,true] ⟨[],[],[],[],[],[0,1,2,3,8,10,11],[8],[]⟩ (O4.app (.c f .n)) (h b (ZaA b 1) e r a)
       .exact Ye 20 R3 [true,false,false] ⟨[],[],[],[],[],[0,1,2,3,8,10,11],[8],[]⟩ (O4.app (.c f .n)) (h d (ZaA b 1) e r a)
      .exact Ye 20 [rz,rA [(8,aB i)],rB [(2,false),(15,false),(27,false)],rz] [true,false,false] ⟨[],[],[],[],[],[0,1,2,3,8,10,11],[8],[]⟩ (O2.app (.c q (.c (show false=false from rfl) .n))) (h d (ZaA b 1) e r a)
  .obtain⟨g,a⟩|⟨g,a⟩:=Zaj a
   .apply Ya a 12 [rz,rz,rz] [false,true] (.c l (.c g .n))
   .obtain⟨s,a⟩:=Zar a;apply Ya a 13 [rz,rz,rz] [false,false] (.c l (.c g (.c s .n)))
def Zfg(a:List Zaa)(b:List Zab)(c:List Zaf)(d:Int):Option (Zan×Bool):=Zbk a b c d (((a.length:Int)-(0:Int)).toNat+2) (-1:Int) (0:Int) (Zan.mk (Zai.mk false 0 0) 0)
theorem ZpM(a:List Zaa)(b:List Zab)(d:List Zaf)(e:Int)(r:(Zan×Bool))(f:Zfg a b d e=some r):Yp 152 [Ym a,Yn b,Yl d,Yj e] (.tup [(true,Zan.c r.1),(false,cB r.2)]):=by
 refine Yw Tryz.func152 fun S0 w0=>?_;unfold Zfg at f;exact Ye 8 [rz,rz,rz] [] ⟨[],[],[],[],[],[0,1,2,3,8,10,11],[8],[]⟩ .n (ZnI S0 w0 a b d e (((a.length:Int)-(0:Int)).toNat+2) (-1:Int) (0:Int) (Zan.mk (Zai.mk false 0 0) 0) r f)
def Zbj(b:List Zaa)(c:Int):Nat->Int->Bool->Int->Option Int|0,_,_,_=>none|fu+1,e,f,a=>bif(decide (a<(b.length:Int)))then need (0<=a/\a<(b.length:Int))<|(Zdo (b.getD a.toNat Zaa.d)).bind fun g=>bif g then bif((b.getD a.toNat Zaa.d).fState==(1:Int))then bif(decide ((b.getD a.toNat Zaa.d).fNext>c))then bif(!f)then Zbj b c fu ((b.getD a.toNat Zaa.d).fNext) true (ZaA a 1)else bif(decide ((b.getD a.toNat Zaa.d).fNext<e))then Zbj b c fu ((b.getD a.toNat Zaa.d).fNext) true (ZaA a 1)else Zbj b c fu e f (ZaA a 1)else Zbj b c fu e f (ZaA a 1)else Zbj b c fu e f (ZaA a 1)else Zbj b c fu e f (ZaA a 1)else some e
theorem ZnH(S0:Nat->Prop)(w0:ZaW)(l:List Zaa)(s:Int):∀(m:Nat)(e:Int)(f:Bool)(b r:Int),Zbj l s m e f b=some r->Ys 45 S0 w0 Tryz.f153 (Yj r) [1,1,1,0,1,0] ⟨[(0,(Ym l)),(1,(Yj s)),(5,(Yj e)),(6,(Yk f)),(7,(Yj b))],[]⟩:=by
 intro m;induction m with
 |zero=>
  intro e f b r a;simp[Zbj]at a
 |succ m h=>
  intro e f b r a;unfold Zbj at a;obtain⟨p,a⟩|⟨p,a⟩:=Zaj a
  .obtain⟨o2,a⟩:=Zar a;obtain⟨j,t,a⟩:=Zac a;have O1:Obl _:=(.c p (.c o2 (.c (ZdH _ _ t) .n)));obtain⟨g,a⟩|⟨g,a⟩:=Zaj a
   .obtain⟨i,a⟩|⟨i,a⟩:=Zaj a
    .obtain⟨k,a⟩|⟨k,a⟩:=Zaj a
     .obtain⟨o,a⟩|⟨o,a⟩:=Zaj a
      .exact Ye 19 [rz,rz,⟨[(1,aB j)],[(2,true),(7,true),(13,true),(16,true)],[],[],[],[],[]⟩,rz,rz,rz] [true,true] (Yi [0,1,5,6,7]) (O1.app (.c g (.c i (.c k (.c o (.c (show true=true from rfl) .n)))))) (h ((l.getD b.toNat Zaa.d).fNext) true (ZaA b 1) r a)
      .let R2:List RA:=[rz,rz,⟨[(1,aB j)],[(2,true),(7,true),(13,true),(16,false)],[],[],[],[],[]⟩,rz]
       obtain⟨q,a⟩|⟨q,a⟩:=Zaj a
       .exact Ye 19 (R2++[rz,rz]) [true,true] (Yi [0,1,5,6,7]) (O1.app (.c g (.c i (.c k (.c o (.c q .n)))))) (h ((l.getD b.toNat Zaa.d).fNext) true (ZaA b 1) r a)
       .exact Ye 17 R2 [true,false] (Yi [0,1,5,6,7]) (O1.app (.c g (.c i (.c k (.c o (.c q .n)))))) (h e f (ZaA b 1) r a)
     .exact Ye 17 [rz,rz,⟨[(1,aB j)],[(2,true),(7,true),(13,false)],[],[],[],[],[]⟩,rz] [true,false] (Yi [0,1,5,6,7]) (O1.app (.c g (.c i (.c k (.c (show false=false from rfl) .n))))) (h e f (ZaA b 1) r a)
    .exact Ye 17 [rz,rz,⟨[(1,aB j)],[(2,true),(7,false)],[],[],[],[],[]⟩,rz] [true,false] (Yi [0,1,5,6,7]) (O1.app (.c g (.c i (.c (show false=false from rfl) .n)))) (h e f (ZaA b 1) r a)
   .exact Ye 17 [rz,rz,⟨[(1,aB j)],[(2,false)],[],[],[],[],[]⟩,rz] [true,false] (Yi [0,1,5,6,7]) (O1.app (.c g (.c (show false=false from rfl) .n))) (h e f (ZaA b 1) r a)
  .apply Ya a 8 [rz,rz] [false] (.c p .n)
def Zff(a:List Zaa)(b:Int):Option Int:=Zbj a b (((a.length:Int)-(0:Int)).toNat+2) (0:Int) false (0:Int)
theorem ZpL(a:List Zaa)(b r:Int)(c:Zff a b=some r):Yp 153 [Ym a,Yj b] (Yj r):=by
 refine Yw Tryz.func153 fun S0 w0=>?_;unfold Zff at c;exact Ye 10 [rz,rz,rz,rz] [] (Yi [0,1,5,6,7]) .n (ZnH S0 w0 a b (((a.length:Int)-(0:Int)).toNat+2) (0:Int) false (0:Int) r c)
def ZeF(a:Zaa)(b:Int):Option Zaa:=some (Zaa.mk a.fEnd b a.fFails a.fNext)
theorem Zky(a:Zaa)(b:Int)(r:Zaa)(d:ZeF a b=some r):Yp 155 [.agg (Zaa.c a),Yj b] (.agg (Zaa.c r)):=by
 refine Yw Tryz.func155 fun S0 w0=>?_;unfold ZeF at d;apply Ya d 6 [rz,rz,rz] [] .n
def Zdt(a:List Zaa)(c:Zaa):Option (List Zaa):=(ZcY a c.fEnd).bind fun b=>bif(decide (b<(0:Int)))then some a else need ((([]:List Zaa)++a).length * 56<=140737488355328/\(([]:List Zaa)++a).length<=maxLen)<|need (0<=b/\b<(((([]:List Zaa)++a).length:Nat):Int))<|some ((([]:List Zaa)++a).set b.toNat c)
theorem Zfx(a:List Zaa)(g:Zaa)(r:List Zaa)(b:Zdt a g=some r):Yp 154 [Ym a,.agg (Zaa.c g)] (Ym r):=by
 refine Yw Tryz.func154 fun S0 w0=>?_;unfold Zdt at b;obtain⟨f,k,b⟩:=Zac b;obtain⟨h,b⟩|⟨h,b⟩:=Zaj b
 .apply Ya b 10 [rz,rA [(3,aI f)],rz,rz] [true] (.c (Zdq _ _ _ k) (.c h .n))
 .obtain⟨l,m,b⟩:=Yu b;apply Yb b 15 [rz,rA [(3,aI f)],rz,rA [(0,.c ([]:List Zaa).length (Zap Zaa.c Zaa.d ([]:List Zaa))),(2,.c ((([]:List Zaa)++a).length) (Zap Zaa.c Zaa.d (([]:List Zaa)++a)))],rA [(4,.c ((([]:List Zaa)++a).set f.toNat g).length (Zap Zaa.c Zaa.d ((([]:List Zaa)++a).set f.toNat g)))],rz] [false] [16] [] [] (.c (Zdq _ _ _ k) (.c h (.c (show ([]:List Zaa).length=0 from rfl) (.c (show ∀i j,i<0->j<7->Zap Zaa.c Zaa.d ([]:List Zaa) i j=(([]:List Zaa).flatMap Zaa.c).getD (i * 7+j) .junk from(fun i j hi hj=>ZaO (sz:=7) (e:=Zaa.c) (d:=Zaa.d) (fun _=>rfl) ([]:List Zaa) i j hi hj)) (.c (Zcy (sz:=7) (e:=Zaa.c) (d:=Zaa.d) ([]:List Zaa) a) (.c l.1 (.c l.2 (.c m (.c (show ((([]:List Zaa)++a).set f.toNat g).length=(([]:List Zaa)++a).length from List.length_set) (.c (show f.toNat<(([]:List Zaa)++a).length from(ltOf m)) (.c (show ExtU 7 ((([]:List Zaa)++a).length) (Zap Zaa.c Zaa.d (([]:List Zaa)++a)) f.toNat 0 (Zaa.c g) (Zap Zaa.c Zaa.d ((([]:List Zaa)++a).set f.toNat g))from(ZkK _ _ _ rfl)) .n)))))))))))
def Zgq(f:Zau)(a:Zas)(e:ZaB):Option (Zas×Zaq):=(ZcB a).bind fun g=>bif(decide (g>=f.fMaxOut))then(Zdh (5:Int)).bind fun h=>some (a,h)else(Zfg a.fBook a.fPeers a.fBans e.fNow).bind fun b=>bif(!b.2)then(Zff a.fBook e.fNow).bind fun i=>some (a,(Zaq.mk 6 (Zan.mk (Zai.mk false 0 0) 0) 0 i ([]:(List Zab))))else(ZcY a.fBook b.1).bind fun c=>need (0<=c/\c<(a.fBook.length:Int))<|(ZeF (a.fBook.getD c.toNat Zaa.d) (2:Int)).bind fun j=>(Zdt a.fBook j).bind fun k=>some ((Zas.mk a.fBans k a.fPeers),(Zaq.mk 0 b.1 0 0 ([]:(List Zab))))
theorem ZpJ(g:Zau)(h:Zas)(i:ZaB)(r:(Zas×Zaq))(a:Zgq g h i=some r):Yp 73 [.agg (Zau.c g),.agg (Zas.c h),.agg (ZaB.c i)] (.tup [(true,Zas.c r.1),(true,Zaq.c r.2)]):=by
 refine Yw Tryz.func73 fun S0 w0=>?_;unfold Zgq at a;obtain⟨j,k,a⟩:=Zac a;obtain⟨b,a⟩|⟨b,a⟩:=Zaj a
 .obtain⟨m,o,a⟩:=Zac a;apply Ya a 8 [rz,rA [(1,aI j)],rA [(1,aG (Zaq.c m))]] [true] (.c (Zfm _ _ k) (.c b (.c (ZdL _ _ o) .n)))
 .obtain⟨l,p,a⟩:=Zac a
  let R1:List RA:=[rz,rA [(1,aI j)],rA [(8,.r (.tup [(true,Zan.c l.1),(false,cB l.2)]) [])],rz]
  have O2:Obl _:=(.c (Zfm _ _ k) (.c b (.c (ZpM _ _ _ _ _ p) .n)));obtain⟨e,a⟩|⟨e,a⟩:=Zaj a
  .obtain⟨q,s,a⟩:=Zac a;apply Yb a 15 (R1++[rA [(5,aI q)]]) [false,true] [] [(7,[(7,cL 10 Zab.c Zab.d [])])] [] (O2.app (.c e (.c (ZpL _ _ _ s) .n)))
  .obtain⟨t,u,a⟩:=Zac a;obtain⟨v,a⟩:=Zar a;obtain⟨w,x,y,f,a⟩:=Yv a;apply Yb a 18 (R1++[rA [(7,aI t),(10,aG (Zaa.c w)),(11,.r (Ym x) [])],rz]) [false,false] [] [(7,[(7,cL 10 Zab.c Zab.d [])])] [] (O2.app (.c e (.c (Zdq _ _ _ u) (.c v (.c (Zky _ _ _ y) (.c (Zfx _ _ _ f) .n))))))
def Zcx(a:Int):Option Int:=bif(decide (a<(0:Int)))then some (0:Int)else bif(decide (a>(1099511627776:Int)))then some (1099511627776:Int)else some a
theorem ZcT(e r:Int)(a:Zcx e=some r):Yp 125 [Yj e] (Yj r):=by
 refine Yw Tryz.func125 fun S0 w0=>?_;unfold Zcx at a;obtain⟨b,a⟩|⟨b,a⟩:=Zaj a
 .apply Ya a 8 [rz,rz,rz] [true] (.c b .n)
 .obtain⟨d,a⟩|⟨d,a⟩:=Zaj a
  .apply Ya a 13 [rz,rz,rz,rz] [false,true] (.c b (.c d .n))
  .apply Ya a 14 [rz,rz,rz,rz] [false,false] (.c b (.c d .n))
def Zez(a b:Int):Option Int:=(Zcx a).bind fun c=>(Zcx b).bind fun d=>(Zcx (ZaA c d)).bind fun e=>some e
theorem Ziz(b d r:Int)(a:Zez b d=some r):Yp 162 [Yj b,Yj d] (Yj r):=by
 refine Yw Tryz.func162 fun S0 w0=>?_;unfold Zez at a;obtain⟨e,f,g,h,a⟩:=Yv a;obtain⟨i,j,a⟩:=Zac a;apply Ya a 4 [rz,rA [(1,aI e),(3,aI f),(5,aI i)]] [] (.c (ZcT _ _ g) (.c (ZcT _ _ h) (.c (ZcT _ _ j) .n)))
def Zcw(c:Int):Nat->Int->Int->Option Int|0,_,_=>none|fu+1,a,b=>bif(decide (b<c))then bif(decide (b<(41:Int)))then(Zez a a).bind fun d=>Zcw c fu d (ZaA b 1)else some a else some a
theorem Znl(S0:Nat->Prop)(w0:ZaW)(h:Int):∀(d:Nat)(e b r:Int),Zcw h d e b=some r->Ys 21 S0 w0 Tryz.f356 (Yj r) [1,1,0,1,0] ⟨[(0,(Yj e)),(1,(Yj h)),(5,(Yj b))],[]⟩:=by
 intro d;induction d with
 |zero=>
  intro e b r a;simp[Zcw]at a
 |succ d j=>
  intro e b r a;unfold Zcw at a;obtain⟨f,a⟩|⟨f,a⟩:=Zaj a
  .obtain⟨g,a⟩|⟨g,a⟩:=Zaj a
   .obtain⟨i,k,a⟩:=Zac a;exact Ye 12 [rB [(3,true)],rA [(2,aI i)],rz] [true] (Yi [0,1,5]) (.c f (.c g (.c (Ziz _ _ _ k) .n))) (j i (ZaA b 1) r a)
   .apply Ya a 8 [rB [(3,true)],rz] [false] (.c f (.c g .n))
  .apply Ya a 8 [rB [(3,false)],rz] [false] (.c f (.c (show false=false from rfl) .n))
def ZfX(a b:Int):Option Int:=(Zcx a).bind fun c=>Zcw b (((41:Int)-(0:Int)).toNat+2) c (0:Int)
theorem Zpm(d b r:Int)(a:ZfX d b=some r):Yp 356 [Yj d,Yj b] (Yj r):=by
 refine Yw Tryz.func356 fun S0 w0=>?_;unfold ZfX at a;obtain⟨e,f,a⟩:=Zac a;exact Ye 8 [rz,rA [(1,aI e)],rz] [] (Yi [0,1,5]) (.c (ZcT _ _ f) .n) (Znl S0 w0 b (((41:Int)-(0:Int)).toNat+2) e (0:Int) r a)
def ZfT(a:Zau)(b:Int):Option Int:=bif(decide (b<(1:Int)))then some (0:Int)else(ZfX a.fBase (ZbT b (1:Int))).bind fun c=>(Zcx a.fCap).bind fun d=>bif(decide (d<c))then some d else some c
theorem Zpg(f:Zau)(g r:Int)(a:ZfT f g=some r):Yp 305 [.agg (Zau.c f),Yj g] (Yj r):=by
 refine Yw Tryz.func305 fun S0 w0=>?_;unfold ZfT at a;obtain⟨b,a⟩|⟨b,a⟩:=Zaj a
 .apply Ya a 8 [rz,rz,rz] [true] (.c b .n)
 .obtain⟨h,d,j,i,a⟩:=Yv a;have O1:Obl _:=(.c b (.c (Zpm _ _ _ j) (.c (ZcT _ _ i) .n)));obtain⟨e,a⟩|⟨e,a⟩:=Zaj a
  .apply Ya a 15 [rz,rz,rA [(4,aI h)],rA [(2,aI d)],rA [(2,aI d)]] [false,true] (O1.app (.c e (.c (ZcT _ _ i) .n)))
  .apply Ya a 16 [rz,rz,rA [(4,aI h)],rA [(2,aI d)],rz] [false,false] (O1.app (.c e .n))
def Zfy(a:Zau)(b:Int):Option Int:=bif(decide (a.fJitter<(1:Int)))then some (0:Int)else need (a.fJitter≠0)<|bif(decide ((Int.tmod b a.fJitter)<(0:Int)))then some (ZaA (Int.tmod b a.fJitter) a.fJitter)else some (Int.tmod b a.fJitter)
theorem Zot(e:Zau)(f r:Int)(a:Zfy e f=some r):Yp 306 [.agg (Zau.c e),Yj f] (Yj r):=by
 refine Yw Tryz.func306 fun S0 w0=>?_;unfold Zfy at a;obtain⟨b,a⟩|⟨b,a⟩:=Zaj a
 .apply Ya a 8 [rz,rz,rz] [true] (.c b .n)
 .obtain⟨o2,a⟩:=Zar a;obtain⟨d,a⟩|⟨d,a⟩:=Zaj a
  .apply Ya a 16 [rz,rz,rz,rz,rz,rz] [false,true] (.c b (.c o2 (.c d .n)))
  .apply Ya a 16 [rz,rz,rz,rz,rz] [false,false] (.c b (.c o2 (.c d .n)))
def Zeh(a:Zau)(b c d:Int):Option Int:=(ZfT a b).bind fun e=>(Zez c e).bind fun f=>(Zfy a d).bind fun g=>(Zez f g).bind fun h=>some h
theorem ZkV(b:Zau)(d e f r:Int)(a:Zeh b d e f=some r):Yp 234 [.agg (Zau.c b),Yj d,Yj e,Yj f] (Yj r):=by
 refine Yw Tryz.func234 fun S0 w0=>?_;unfold Zeh at a;obtain⟨g,h,i,j,a⟩:=Yv a;obtain⟨k,l,m,o,a⟩:=Yv a;apply Ya a 4 [rz,rA [(3,aI g),(4,aI h),(7,aI k),(8,aI l)]] [] (.c (Zpg _ _ _ i) (.c (Ziz _ _ _ j) (.c (Zot _ _ _ m) (.c (Ziz _ _ _ o) .n))))
def ZdX(b c d:Int)(e:Zau)(a h:Zaa):Option Zaa:=bif(decide (a.fFails>=(1000:Int)))then(Zeh e (1000:Int) b c).bind fun f=>some (Zaa.mk a.fEnd 1 1000 f)else(Zeh e d b c).bind fun g=>some (Zaa.mk a.fEnd 1 d g)
theorem Zhf(S0:Nat->Prop)(w0:ZaW)(g h i:Int)(a:Zau)(d e r:Zaa)(b:ZdX g h i a d e=some r):Ys 33 S0 w0 Tryz.f156 (.agg (Zaa.c r)) [1,1,1] ⟨[(2,(Yj g)),(3,(Yj h)),(4,.one (.ptr 4 0)),(5,.one (.ptr 5 0)),(8,.one (.ptr 8 0)),(9,(Yj i))],[(4,.box [.lit (.int .i64 a.fMaxIn),.lit (.int .i64 a.fMaxOut),.lit (.int .i64 a.fShards),.lit (.int .i64 a.fMaxBans),.lit (.int .i64 a.fMaxBook),.lit (.int .u64 a.fSecret),.lit (.int .i64 a.fQuota.fGroup),.lit (.int .i64 a.fQuota.fPing),.lit (.int .i64 a.fQuota.fWork),.lit (.int .i64 a.fQuota.fTime),.lit (.int .i64 a.fHalf),.lit (.int .i64 a.fLimit),.lit (.int .i64 a.fBanFor),.lit (.int .i64 a.fBase),.lit (.int .i64 a.fCap),.lit (.int .i64 a.fJitter)]),(5,.box [.lit (.bool d.fEnd.fAddr.fV6),.lit (.int .u64 d.fEnd.fAddr.fHi),.lit (.int .u64 d.fEnd.fAddr.fLo),.lit (.int .i64 d.fEnd.fPort),.lit (.int .i64 d.fState),.lit (.int .i64 d.fFails),.lit (.int .i64 d.fNext)]),(8,.box [.lit (.bool e.fEnd.fAddr.fV6),.lit (.int .u64 e.fEnd.fAddr.fHi),.lit (.int .u64 e.fEnd.fAddr.fLo),.lit (.int .i64 e.fEnd.fPort),.lit (.int .i64 e.fState),.lit (.int .i64 e.fFails),.lit (.int .i64 e.fNext)])]⟩:=by
 unfold ZdX at b;obtain⟨f,b⟩|⟨f,b⟩:=Zaj b
 .obtain⟨j,k,b⟩:=Zac b;apply Ya b 7 [rz,rz,rA [(7,aI j)]] [true] (.c f (.c (ZkV _ _ _ _ _ k) .n))
 .obtain⟨l,m,b⟩:=Zac b;apply Ya b 7 [rz,rA [(7,aI l)]] [false] (.c f (.c (ZkV _ _ _ _ _ m) .n))
def ZdB(b:Zau)(a:Zaa)(c d:Int):Option Zaa:=bif(decide (a.fFails>(0:Int)))then bif(decide (a.fFails<(1000:Int)))then ZdX c d (ZaA a.fFails (1:Int)) b a (Zaa.mk (Zan.mk (Zai.mk false 0 0) 0) 0 0 0)else ZdX c d (1:Int) b a (Zaa.mk (Zan.mk (Zai.mk false 0 0) 0) 0 0 0)else ZdX c d (1:Int) b a (Zaa.mk (Zan.mk (Zai.mk false 0 0) 0) 0 0 0)
theorem ZkU(d:Zau)(b:Zaa)(e f:Int)(r:Zaa)(a:ZdB d b e f=some r):Yp 156 [.agg (Zau.c d),.agg (Zaa.c b),Yj e,Yj f] (.agg (Zaa.c r)):=by
 refine Yw Tryz.func156 fun S0 w0=>?_;unfold ZdB at a;obtain⟨g,a⟩|⟨g,a⟩:=Zaj a
 .obtain⟨h,a⟩|⟨h,a⟩:=Zaj a
  .exact Ye 9 [rz,rz,rB [(3,true)],rz] [true] ⟨[],[],[],[],[],[2,3,4,5,8,9],[4,5,8],[]⟩ (.c g (.c h .n)) (Zhf S0 w0 e f (ZaA b.fFails (1:Int)) d b (Zaa.mk (Zan.mk (Zai.mk false 0 0) 0) 0 0 0) r a)
  .exact Ye 9 [rz,rz,rB [(3,true)]] [false] ⟨[],[],[],[],[],[2,3,4,5,8,9],[4,5,8],[]⟩ (.c g (.c h .n)) (Zhf S0 w0 e f (1:Int) d b (Zaa.mk (Zan.mk (Zai.mk false 0 0) 0) 0 0 0) r a)
 .exact Ye 9 [rz,rz,rB [(3,false)]] [false] ⟨[],[],[],[],[],[2,3,4,5,8,9],[4,5,8],[]⟩ (.c g (.c (show false=false from rfl) .n)) (Zhf S0 w0 e f (1:Int) d b (Zaa.mk (Zan.mk (Zai.mk false 0 0) 0) 0 0 0) r a)
def ZhR(a:Zaa):Option Zaa:=some (Zaa.mk a.fEnd 3 0 a.fNext)
theorem ZpO(a r:Zaa)(b:ZhR a=some r):Yp 157 [.agg (Zaa.c a)] (.agg (Zaa.c r)):=by
 refine Yw Tryz.func157 fun S0 w0=>?_;unfold ZhR at b;apply Ya b 4 [rz,rz] [] .n
def ZgW(b:Zan)(c:Bool)(d:Int):Option Zab:=(Zcx d).bind fun a=>some (Zab.mk b c a (ZaD.mk 0 a) 0 0)
theorem Zqy(b:Zan)(d:Bool)(e:Int)(r:Zab)(a:ZgW b d e=some r):Yp 148 [.agg (Zan.c b),Yk d,Yj e] (.agg (Zab.c r)):=by
 refine Yw Tryz.func148 fun S0 w0=>?_;unfold ZgW at a;obtain⟨f,g,a⟩:=Zac a;apply Ya a 6 [rz,rA [(1,aI f)],rz] [] (.c (ZcT _ _ g) .n)
def Zdz(b:List Zab):Nat->Int->Zab->Option (List Zab)|0,_,_=>none|fu+1,a,c=>bif(decide (a<(b.length:Int)))then need (0<=a/\a<(b.length:Int))<|(Zcl ((b.getD a.toNat Zab.d).fEnd) c.fEnd).bind fun e=>bif(decide (e<=(0:Int)))then Zdz b fu (ZaA a 1) c else need (0<=a/\a<=(b.length:Int))<|need ((([]:List Zab)++(b.take a.toNat)).length * 80<=140737488355328/\(([]:List Zab)++(b.take a.toNat)).length<=maxLen)<|need (((([]:List Zab)++(b.take a.toNat))++([c]:List Zab)).length * 80<=140737488355328/\((([]:List Zab)++(b.take a.toNat))++([c]:List Zab)).length<=maxLen)<|need ((((([]:List Zab)++(b.take a.toNat))++([c]:List Zab))++(b.drop a.toNat)).length * 80<=140737488355328/\(((([]:List Zab)++(b.take a.toNat))++([c]:List Zab))++(b.drop a.toNat)).length<=maxLen)<|some (((([]:List Zab)++(b.take a.toNat))++([c]:List Zab))++(b.drop a.toNat))else need (0<=a/\a<=(b.length:Int))<|need ((([]:List Zab)++(b.take a.toNat)).length * 80<=140737488355328/\(([]:List Zab)++(b.take a.toNat)).length<=maxLen)<|need (((([]:List Zab)++(b.take a.toNat))++([c]:List Zab)).length * 80<=140737488355328/\((([]:List Zab)++(b.take a.toNat))++([c]:List Zab)).length<=maxLen)<|need ((((([]:List Zab)++(b.take a.toNat))++([c]:List Zab))++(b.drop a.toNat)).length * 80<=140737488355328/\(((([]:List Zab)++(b.take a.toNat))++([c]:List Zab))++(b.drop a.toNat)).length<=maxLen)<|some (((([]:List Zab)++(b.take a.toNat))++([c]:List Zab))++(b.drop a.toNat))
theorem Zor(S0:Nat->Prop)(w0:ZaW)(b:List Zab):∀(m:Nat)(a:Int)(f:Zab)(r:List Zab),Zdz b m a f=some r->Yt 37 S0 w0 Tryz.f151 [(99999,.rows 44 10 r.length (Zap Zab.c Zab.d r))] (.one (.osl 99999 r.length)) [1,1,0,0] ⟨[(0,(Yn b)),(3,.one (.ptr 3 0)),(5,(Yj a))],[(3,.box [.lit (.bool f.fEnd.fAddr.fV6),.lit (.int .u64 f.fEnd.fAddr.fHi),.lit (.int .u64 f.fEnd.fAddr.fLo),.lit (.int .i64 f.fEnd.fPort),.lit (.bool f.fIn),.lit (.int .i64 f.fSince),.lit (.int .i64 f.fScore.fPoints),.lit (.int .i64 f.fScore.fAt),.lit (.int .i64 f.fPing),.lit (.int .i64 f.fWork)])]⟩:=by
 intro m;induction m with
 |zero=>
  intro a f r g;simp[Zdz]at g
 |succ m w=>
  intro a f r g;unfold Zdz at g;obtain⟨o,g⟩|⟨o,g⟩:=Zaj g
  .obtain⟨o2,g⟩:=Zar g;obtain⟨x,y,g⟩:=Zac g
   let R1:List RA:=[⟨[(12,aI x)],[(4,true)],[],[],[],[],[]⟩]
   have O2:Obl _:=(.c o (.c o2 (.c (Zeb _ _ _ y) .n)));obtain⟨p,g⟩|⟨p,g⟩:=Zaj g
   .exact Ye 10 (R1++[rz]) [true] ⟨[],[],[],[],[],[0,3,5],[3],[]⟩ (O2.app (.c p .n)) (w (ZaA a 1) f r g)
   .obtain⟨q,t,g⟩:=Yu g;obtain⟨u,v,g⟩:=Yu g;apply Yc g 10 (R1++[⟨[(0,.c ([]:List Zab).length (Zap Zab.c Zab.d ([]:List Zab))),(4,.c ((([]:List Zab)++(b.take a.toNat)).length) (Zap Zab.c Zab.d (([]:List Zab)++(b.take a.toNat)))),(7,.c (((([]:List Zab)++(b.take a.toNat))++([f]:List Zab)).length) (Zap Zab.c Zab.d ((([]:List Zab)++(b.take a.toNat))++([f]:List Zab))))],[],[],[],[],[(3,((b.take a.toNat).length,Zap Zab.c Zab.d (b.take a.toNat))),(6,(([f]:List Zab).length,Zap Zab.c Zab.d ([f]:List Zab)))],[]⟩,⟨[(4,.c ((((([]:List Zab)++(b.take a.toNat))++([f]:List Zab))++(b.drop a.toNat)).length) (Zap Zab.c Zab.d (((([]:List Zab)++(b.take a.toNat))++([f]:List Zab))++(b.drop a.toNat))))],[],[],[],[],[(3,((b.drop a.toNat).length,Zap Zab.c Zab.d (b.drop a.toNat)))],[]⟩]) [false] ⟨[],[],[],[],[],[4],[36],[(36,99999)]⟩ (O2.app (.c p (.c (show ([]:List Zab).length=0 from rfl) (.c (show ∀i j,i<0->j<10->Zap Zab.c Zab.d ([]:List Zab) i j=(([]:List Zab).flatMap Zab.c).getD (i * 10+j) .junk from(fun i j hi hj=>ZaO (sz:=10) (e:=Zab.c) (d:=Zab.d) (fun _=>rfl) ([]:List Zab) i j hi hj)) (.c (show (b.take a.toNat).length=a.toNat/\∀i j,i<a.toNat->j<10->Zap Zab.c Zab.d (b.take a.toNat) i j=Zap Zab.c Zab.d b i j from(ZqR _ _ q)) (.c q (.c (Zcy (sz:=10) (e:=Zab.c) (d:=Zab.d) ([]:List Zab) (b.take a.toNat)) (.c t.1 (.c t.2 (.c (show ([f]:List Zab).length=1/\∀i j,i<1->j<10->Zap Zab.c Zab.d ([f]:List Zab) i j=(([f]:List Zab).flatMap Zab.c).getD (i * 10+j) .junk from⟨rfl,fun i j hi hj=>ZaO (sz:=10) (e:=Zab.c) (d:=Zab.d) (fun _=>rfl) ([f]:List Zab) i j hi hj⟩) (.c (Zcy (sz:=10) (e:=Zab.c) (d:=Zab.d) (([]:List Zab)++(b.take a.toNat)) ([f]:List Zab)) (.c u.1 (.c u.2 (.c (show (b.drop a.toNat).length=b.length-a.toNat/\∀i j,i<b.length-a.toNat->j<10->Zap Zab.c Zab.d (b.drop a.toNat) i j=Zap Zab.c Zab.d b (a.toNat+i) j from(ZnY _ _)) (.c q (.c (Zcy (sz:=10) (e:=Zab.c) (d:=Zab.d) ((([]:List Zab)++(b.take a.toNat))++([f]:List Zab)) (b.drop a.toNat)) (.c v.1 (.c v.2 .n))))))))))))))))))
  .obtain⟨s,h,g⟩:=Yu g;obtain⟨k,l,g⟩:=Yu g;apply Yc g 10 [rB [(4,false)],⟨[(0,.c ([]:List Zab).length (Zap Zab.c Zab.d ([]:List Zab))),(4,.c ((([]:List Zab)++(b.take a.toNat)).length) (Zap Zab.c Zab.d (([]:List Zab)++(b.take a.toNat)))),(7,.c (((([]:List Zab)++(b.take a.toNat))++([f]:List Zab)).length) (Zap Zab.c Zab.d ((([]:List Zab)++(b.take a.toNat))++([f]:List Zab))))],[],[],[],[],[(3,((b.take a.toNat).length,Zap Zab.c Zab.d (b.take a.toNat))),(6,(([f]:List Zab).length,Zap Zab.c Zab.d ([f]:List Zab)))],[]⟩,⟨[(4,.c ((((([]:List Zab)++(b.take a.toNat))++([f]:List Zab))++(b.drop a.toNat)).length) (Zap Zab.c Zab.d (((([]:List Zab)++(b.take a.toNat))++([f]:List Zab))++(b.drop a.toNat))))],[],[],[],[],[(3,((b.drop a.toNat).length,Zap Zab.c Zab.d (b.drop a.toNat)))],[]⟩] [false] ⟨[],[],[],[],[],[4],[36],[(36,99999)]⟩ (.c o (.c (show false=false from rfl) (.c (show ([]:List Zab).length=0 from rfl) (.c (show ∀i j,i<0->j<10->Zap Zab.c Zab.d ([]:List Zab) i j=(([]:List Zab).flatMap Zab.c).getD (i * 10+j) .junk from(fun i j hi hj=>ZaO (sz:=10) (e:=Zab.c) (d:=Zab.d) (fun _=>rfl) ([]:List Zab) i j hi hj)) (.c (show (b.take a.toNat).length=a.toNat/\∀i j,i<a.toNat->j<10->Zap Zab.c Zab.d (b.take a.toNat) i j=Zap Zab.c Zab.d b i j from(ZqR _ _ s)) (.c s (.c (Zcy (sz:=10) (e:=Zab.c) (d:=Zab.d) ([]:List Zab) (b.take a.toNat)) (.c h.1 (.c h.2 (.c (show ([f]:List Zab).length=1/\∀i j,i<1->j<10->Zap Zab.c Zab.d ([f]:List Zab) i j=(([f]:List Zab).flatMap Zab.c).getD (i * 10+j) .junk from⟨rfl,fun i j hi hj=>ZaO (sz:=10) (e:=Zab.c) (d:=Zab.d) (fun _=>rfl) ([f]:List Zab) i j hi hj⟩) (.c (Zcy (sz:=10) (e:=Zab.c) (d:=Zab.d) (([]:List Zab)++(b.take a.toNat)) ([f]:List Zab)) (.c k.1 (.c k.2 (.c (show (b.drop a.toNat).length=b.length-a.toNat/\∀i j,i<b.length-a.toNat->j<10->Zap Zab.c Zab.d (b.drop a.toNat) i j=Zap Zab.c Zab.d b (a.toNat+i) j from(ZnY _ _)) (.c s (.c (Zcy (sz:=10) (e:=Zab.c) (d:=Zab.d) ((([]:List Zab)++(b.take a.toNat))++([f]:List Zab)) (b.drop a.toNat)) (.c l.1 (.c l.2 .n))))))))))))))))))
def Zev(a:List Zab)(b:Zab):Option (List Zab):=Zdz a (((a.length:Int)-(0:Int)).toNat+2) (0:Int) b
theorem ZkT(a:List Zab)(b:Zab)(r:List Zab)(e:Zev a b=some r):Yq 151 [] [Yn a,.agg (Zab.c b)] [(99999,.rows 44 10 r.length (Zap Zab.c Zab.d r))] (.one (.osl 99999 r.length)):=by
 refine Yx Tryz.func151 fun S0 w0=>?_;unfold Zev at e;exact Ye 6 [rz,rz] [] ⟨[],[],[],[],[],[0,3,5],[3],[]⟩ .n (Zor S0 w0 a (((a.length:Int)-(0:Int)).toNat+2) (0:Int) b r e)
theorem Zqt(a:List Zab)(b:Zab)(r:List Zab)(d:Zev a b=some r):Yp 151 [Yn a,.agg (Zab.c b)] (Yn r):=(ZkT a b r d).pure
def Zfv(n:Zau)(a:Zas)(b:ZaB):Option (Zas×Zaq):=(ZcY a.fBook b.fEnd).bind fun c=>bif(decide (c<(0:Int)))then(Zdh (6:Int)).bind fun q=>some (a,q)else need (0<=c/\c<(a.fBook.length:Int))<|bif((a.fBook.getD c.toNat Zaa.d).fState != (2:Int))then(Zdh (6:Int)).bind fun r=>some (a,r)else(ZeG a.fBans b.fEnd.fAddr b.fNow).bind fun s=>bif(!b.fGood)then(ZdB n (a.fBook.getD c.toNat Zaa.d) b.fNow b.fNum).bind fun e=>(Zdt a.fBook e).bind fun o=>bif b.fGood then some ((Zas.mk a.fBans o a.fPeers),(Zaq.mk 8 (Zan.mk (Zai.mk false 0 0) 0) e.fFails e.fNext ([]:(List Zab))))else some ((Zas.mk a.fBans o a.fPeers),(Zaq.mk 0 (Zan.mk (Zai.mk false 0 0) 0) e.fFails e.fNext ([]:(List Zab))))else bif(decide (s>(0:Int)))then(ZdB n (a.fBook.getD c.toNat Zaa.d) b.fNow b.fNum).bind fun f=>(Zdt a.fBook f).bind fun p=>bif b.fGood then some ((Zas.mk a.fBans p a.fPeers),(Zaq.mk 8 (Zan.mk (Zai.mk false 0 0) 0) f.fFails f.fNext ([]:(List Zab))))else some ((Zas.mk a.fBans p a.fPeers),(Zaq.mk 0 (Zan.mk (Zai.mk false 0 0) 0) f.fFails f.fNext ([]:(List Zab))))else(ZdN a.fPeers b.fEnd).bind fun t=>bif(decide (t>=(0:Int)))then(ZeF (a.fBook.getD c.toNat Zaa.d) (1:Int)).bind fun g=>(Zdt a.fBook g).bind fun h=>(Zdh (7:Int)).bind fun i=>some ((Zas.mk a.fBans h a.fPeers),i)else(ZhR (a.fBook.getD c.toNat Zaa.d)).bind fun j=>(Zdt a.fBook j).bind fun k=>(ZgW b.fEnd false b.fNow).bind fun l=>(Zev a.fPeers l).bind fun m=>some ((Zas.mk a.fBans k m),(Zaq.mk 0 (Zan.mk (Zai.mk false 0 0) 0) 0 0 ([]:(List Zab))))
theorem Zoo(F:Zau)(G:Zas)(H:ZaB)(r:(Zas×Zaq))(a:Zfv F G H=some r):Yp 74 [.agg (Zau.c F),.agg (Zas.c G),.agg (ZaB.c H)] (.tup [(true,Zas.c r.1),(true,Zaq.c r.2)]):=by
 refine Yw Tryz.func74 fun S0 w0=>?_;unfold Zfv at a;obtain⟨i,I,a⟩:=Zac a;obtain⟨j,a⟩|⟨j,a⟩:=Zaj a
 .obtain⟨L,M,a⟩:=Zac a;apply Ya a 10 [rz,rA [(4,aI i)],rB [(2,true)],rA [(1,aG (Zaq.c L))]] [true] (.c (Zdq _ _ _ I) (.c j (.c (show true=true from rfl) (.c (ZdL _ _ M) .n))))
 .obtain⟨J,a⟩:=Zar a;have O1:Obl _:=(.c (Zdq _ _ _ I) (.c j (.c J .n)));obtain⟨k,a⟩|⟨k,a⟩:=Zaj a
  .obtain⟨N,O,a⟩:=Zac a;apply Ya a 10 [rz,rA [(4,aI i)],rB [(2,false)],rA [(1,aG (Zaq.c N))]] [true] (O1.app (.c k (.c (ZdL _ _ O) .n)))
  .obtain⟨P,Q,a⟩:=Zac a
   let R2:List RA:=[rz,rA [(4,aI i)],rB [(2,false)],rz,rA [(7,aI P)]]
   have O3:Obl _:=(O1.app (.c k (.c J (.c (Zkz _ _ _ _ Q) .n))));obtain⟨h,a⟩|⟨h,a⟩:=Zaj a
   .obtain⟨R,S,a⟩:=Zac a;obtain⟨T,l,a⟩:=Zac a
    let R4:List RA:=(R2++[rB [(3,true)],rA [(6,aG (Zaa.c R))],rA [(3,.r (Ym T) [])],rz,rz,rz])
    have O5:Obl _:=(O3.app (.c h (.c (show true=true from rfl) (.c (ZkU _ _ _ _ _ S) (.c (Zfx _ _ _ l) .n)))));obtain⟨b,a⟩|⟨b,a⟩:=Zaj a
    .apply Yb a 30 (R4++[rz]) [false,true,true] [] [(7,[(7,cL 10 Zab.c Zab.d [])])] [] (O5.app (.c b .n))
    .apply Yb a 30 R4 [false,true,false] [] [(7,[(7,cL 10 Zab.c Zab.d [])])] [] (O5.app (.c b .n))
   .obtain⟨e,a⟩|⟨e,a⟩:=Zaj a
    .obtain⟨U,m,a⟩:=Zac a;obtain⟨V,o,a⟩:=Zac a
     let R6:List RA:=(R2++[rB [(3,false)],rA [(6,aG (Zaa.c U))],rA [(3,.r (Ym V) [])],rz,rz,rz])
     have O7:Obl _:=(O3.app (.c h (.c e (.c (ZkU _ _ _ _ _ m) (.c (Zfx _ _ _ o) .n)))));obtain⟨f,a⟩|⟨f,a⟩:=Zaj a
     .apply Yb a 30 (R6++[rz]) [false,true,true] [] [(7,[(7,cL 10 Zab.c Zab.d [])])] [] (O7.app (.c f .n))
     .apply Yb a 30 R6 [false,true,false] [] [(7,[(7,cL 10 Zab.c Zab.d [])])] [] (O7.app (.c f .n))
    .obtain⟨K,p,a⟩:=Zac a;have O8:Obl _:=(O3.app (.c h (.c e (.c (ZhS _ _ _ p) .n))));obtain⟨g,a⟩|⟨g,a⟩:=Zaj a
     .obtain⟨q,s,t,u,a⟩:=Yv a;obtain⟨v,w,a⟩:=Zac a;apply Ya a 26 (R2++[rB [(3,false)],rA [(4,aI K)],rA [(3,aG (Zaa.c q)),(4,.r (Ym s) [])],rA [(1,aG (Zaq.c v))]]) [false,false,true] (O8.app (.c g (.c (Zky _ _ _ t) (.c (Zfx _ _ _ u) (.c (ZdL _ _ w) .n)))))
     .obtain⟨x,y,z,A,a⟩:=Yv a;obtain⟨B,C,D,E,a⟩:=Yv a;apply Yb a 29 (R2++[rB [(3,false)],rA [(4,aI K)],rA [(3,aG (Zaa.c x)),(4,.r (Ym y) [])],rA [(6,aG (Zab.c B)),(7,.r (Yn C) [])],rz]) [false,false,false] [] [(7,[(7,cL 10 Zab.c Zab.d [])])] [] (O8.app (.c g (.c (ZpO _ _ z) (.c (Zfx _ _ _ A) (.c (Zqy _ _ _ _ D) (.c (Zqt _ _ _ E) .n))))))
def ZgU(a:Zan)(b:Int):Option Zaa:=(Zcx b).bind fun c=>some (Zaa.mk a 1 0 c)
theorem Zqw(b:Zan)(d:Int)(r:Zaa)(a:ZgU b d=some r):Yp 78 [.agg (Zan.c b),Yj d] (.agg (Zaa.c r)):=by
 refine Yw Tryz.func78 fun S0 w0=>?_;unfold ZgU at a;obtain⟨e,f,a⟩:=Zac a;apply Ya a 4 [rz,rA [(2,aI e)]] [] (.c (ZcT _ _ f) .n)
def ZdA(b:List Zaa):Nat->Int->Zaa->Option ((List Zaa)×Int)|0,_,_=>none|fu+1,a,c=>bif(decide (a<(b.length:Int)))then need (0<=a/\a<(b.length:Int))<|(Zcl ((b.getD a.toNat Zaa.d).fEnd) c.fEnd).bind fun e=>bif(decide (e<=(0:Int)))then ZdA b fu (ZaA a 1) c else need (0<=a/\a<=(b.length:Int))<|need ((([]:List Zaa)++(b.take a.toNat)).length * 56<=140737488355328/\(([]:List Zaa)++(b.take a.toNat)).length<=maxLen)<|need (((([]:List Zaa)++(b.take a.toNat))++([c]:List Zaa)).length * 56<=140737488355328/\((([]:List Zaa)++(b.take a.toNat))++([c]:List Zaa)).length<=maxLen)<|need ((((([]:List Zaa)++(b.take a.toNat))++([c]:List Zaa))++(b.drop a.toNat)).length * 56<=140737488355328/\(((([]:List Zaa)++(b.take a.toNat))++([c]:List Zaa))++(b.drop a.toNat)).length<=maxLen)<|some ((((([]:List Zaa)++(b.take a.toNat))++([c]:List Zaa))++(b.drop a.toNat)),(0:Int))else need (0<=a/\a<=(b.length:Int))<|need ((([]:List Zaa)++(b.take a.toNat)).length * 56<=140737488355328/\(([]:List Zaa)++(b.take a.toNat)).length<=maxLen)<|need (((([]:List Zaa)++(b.take a.toNat))++([c]:List Zaa)).length * 56<=140737488355328/\((([]:List Zaa)++(b.take a.toNat))++([c]:List Zaa)).length<=maxLen)<|need ((((([]:List Zaa)++(b.take a.toNat))++([c]:List Zaa))++(b.drop a.toNat)).length * 56<=140737488355328/\(((([]:List Zaa)++(b.take a.toNat))++([c]:List Zaa))++(b.drop a.toNat)).length<=maxLen)<|some ((((([]:List Zaa)++(b.take a.toNat))++([c]:List Zaa))++(b.drop a.toNat)),(0:Int))
theorem Zos(S0:Nat->Prop)(w0:ZaW)(b:List Zaa):∀(t:Nat)(a:Int)(f:Zaa)(r:((List Zaa)×Int)),ZdA b t a f=some r->Ys 52 S0 w0 Tryz.f77 (.tup [(false,(cLs 7 Zaa.c Zaa.d) r.1),(false,(cI .i64) r.2)]) [1,1,1,1,1,0,0] ⟨[(0,(Ym b)),(4,.one (.ptr 4 0)),(8,(Yj a))],[(4,.box [.lit (.bool f.fEnd.fAddr.fV6),.lit (.int .u64 f.fEnd.fAddr.fHi),.lit (.int .u64 f.fEnd.fAddr.fLo),.lit (.int .i64 f.fEnd.fPort),.lit (.int .i64 f.fState),.lit (.int .i64 f.fFails),.lit (.int .i64 f.fNext)])]⟩:=by
 intro t;induction t with
 |zero=>
  intro a f r g;simp[ZdA]at g
 |succ t w=>
  intro a f r g;unfold ZdA at g;obtain⟨u,g⟩|⟨u,g⟩:=Zaj g
  .obtain⟨x,g⟩:=Zar g;obtain⟨y,z,g⟩:=Zac g
   let R1:List RA:=[⟨[(12,aI y)],[(4,true)],[],[],[],[],[]⟩]
   have O2:Obl _:=(.c u (.c x (.c (Zeb _ _ _ z) .n)));obtain⟨v,g⟩|⟨v,g⟩:=Zaj g
   .exact Ye 10 (R1++[rz]) [true] ⟨[],[],[],[],[],[0,4,8],[4],[]⟩ (O2.app (.c v .n)) (w (ZaA a 1) f r g)
   .obtain⟨h,l,g⟩:=Yu g;obtain⟨m,o,g⟩:=Yu g;apply Yb g 10 (R1++[⟨[(0,.c ([]:List Zaa).length (Zap Zaa.c Zaa.d ([]:List Zaa))),(4,.c ((([]:List Zaa)++(b.take a.toNat)).length) (Zap Zaa.c Zaa.d (([]:List Zaa)++(b.take a.toNat)))),(7,.c (((([]:List Zaa)++(b.take a.toNat))++([f]:List Zaa)).length) (Zap Zaa.c Zaa.d ((([]:List Zaa)++(b.take a.toNat))++([f]:List Zaa))))],[],[],[],[],[(3,((b.take a.toNat).length,Zap Zaa.c Zaa.d (b.take a.toNat))),(6,(([f]:List Zaa).length,Zap Zaa.c Zaa.d ([f]:List Zaa)))],[]⟩,⟨[(4,.c ((((([]:List Zaa)++(b.take a.toNat))++([f]:List Zaa))++(b.drop a.toNat)).length) (Zap Zaa.c Zaa.d (((([]:List Zaa)++(b.take a.toNat))++([f]:List Zaa))++(b.drop a.toNat))))],[],[],[],[],[(3,((b.drop a.toNat).length,Zap Zaa.c Zaa.d (b.drop a.toNat)))],[]⟩]) [false] [51] [] [] (O2.app (.c v (.c (show ([]:List Zaa).length=0 from rfl) (.c (show ∀i j,i<0->j<7->Zap Zaa.c Zaa.d ([]:List Zaa) i j=(([]:List Zaa).flatMap Zaa.c).getD (i * 7+j) .junk from(fun i j hi hj=>ZaO (sz:=7) (e:=Zaa.c) (d:=Zaa.d) (fun _=>rfl) ([]:List Zaa) i j hi hj)) (.c (show (b.take a.toNat).length=a.toNat/\∀i j,i<a.toNat->j<7->Zap Zaa.c Zaa.d (b.take a.toNat) i j=Zap Zaa.c Zaa.d b i j from(ZqR _ _ h)) (.c h (.c (Zcy (sz:=7) (e:=Zaa.c) (d:=Zaa.d) ([]:List Zaa) (b.take a.toNat)) (.c l.1 (.c l.2 (.c (show ([f]:List Zaa).length=1/\∀i j,i<1->j<7->Zap Zaa.c Zaa.d ([f]:List Zaa) i j=(([f]:List Zaa).flatMap Zaa.c).getD (i * 7+j) .junk from⟨rfl,fun i j hi hj=>ZaO (sz:=7) (e:=Zaa.c) (d:=Zaa.d) (fun _=>rfl) ([f]:List Zaa) i j hi hj⟩) (.c (Zcy (sz:=7) (e:=Zaa.c) (d:=Zaa.d) (([]:List Zaa)++(b.take a.toNat)) ([f]:List Zaa)) (.c m.1 (.c m.2 (.c (show (b.drop a.toNat).length=b.length-a.toNat/\∀i j,i<b.length-a.toNat->j<7->Zap Zaa.c Zaa.d (b.drop a.toNat) i j=Zap Zaa.c Zaa.d b (a.toNat+i) j from(ZnY _ _)) (.c h (.c (Zcy (sz:=7) (e:=Zaa.c) (d:=Zaa.d) ((([]:List Zaa)++(b.take a.toNat))++([f]:List Zaa)) (b.drop a.toNat)) (.c o.1 (.c o.2 .n))))))))))))))))))
  .obtain⟨k,p,g⟩:=Yu g;obtain⟨q,s,g⟩:=Yu g;apply Yb g 10 [rB [(4,false)],⟨[(0,.c ([]:List Zaa).length (Zap Zaa.c Zaa.d ([]:List Zaa))),(4,.c ((([]:List Zaa)++(b.take a.toNat)).length) (Zap Zaa.c Zaa.d (([]:List Zaa)++(b.take a.toNat)))),(7,.c (((([]:List Zaa)++(b.take a.toNat))++([f]:List Zaa)).length) (Zap Zaa.c Zaa.d ((([]:List Zaa)++(b.take a.toNat))++([f]:List Zaa))))],[],[],[],[],[(3,((b.take a.toNat).length,Zap Zaa.c Zaa.d (b.take a.toNat))),(6,(([f]:List Zaa).length,Zap Zaa.c Zaa.d ([f]:List Zaa)))],[]⟩,⟨[(4,.c ((((([]:List Zaa)++(b.take a.toNat))++([f]:List Zaa))++(b.drop a.toNat)).length) (Zap Zaa.c Zaa.d (((([]:List Zaa)++(b.take a.toNat))++([f]:List Zaa))++(b.drop a.toNat))))],[],[],[],[],[(3,((b.drop a.toNat).length,Zap Zaa.c Zaa.d (b.drop a.toNat)))],[]⟩] [false] [51] [] [] (.c u (.c (show false=false from rfl) (.c (show ([]:List Zaa).length=0 from rfl) (.c (show ∀i j,i<0->j<7->Zap Zaa.c Zaa.d ([]:List Zaa) i j=(([]:List Zaa).flatMap Zaa.c).getD (i * 7+j) .junk from(fun i j hi hj=>ZaO (sz:=7) (e:=Zaa.c) (d:=Zaa.d) (fun _=>rfl) ([]:List Zaa) i j hi hj)) (.c (show (b.take a.toNat).length=a.toNat/\∀i j,i<a.toNat->j<7->Zap Zaa.c Zaa.d (b.take a.toNat) i j=Zap Zaa.c Zaa.d b i j from(ZqR _ _ k)) (.c k (.c (Zcy (sz:=7) (e:=Zaa.c) (d:=Zaa.d) ([]:List Zaa) (b.take a.toNat)) (.c p.1 (.c p.2 (.c (show ([f]:List Zaa).length=1/\∀i j,i<1->j<7->Zap Zaa.c Zaa.d ([f]:List Zaa) i j=(([f]:List Zaa).flatMap Zaa.c).getD (i * 7+j) .junk from⟨rfl,fun i j hi hj=>ZaO (sz:=7) (e:=Zaa.c) (d:=Zaa.d) (fun _=>rfl) ([f]:List Zaa) i j hi hj⟩) (.c (Zcy (sz:=7) (e:=Zaa.c) (d:=Zaa.d) (([]:List Zaa)++(b.take a.toNat)) ([f]:List Zaa)) (.c q.1 (.c q.2 (.c (show (b.drop a.toNat).length=b.length-a.toNat/\∀i j,i<b.length-a.toNat->j<7->Zap Zaa.c Zaa.d (b.drop a.toNat) i j=Zap Zaa.c Zaa.d b (a.toNat+i) j from(ZnY _ _)) (.c k (.c (Zcy (sz:=7) (e:=Zaa.c) (d:=Zaa.d) ((([]:List Zaa)++(b.take a.toNat))++([f]:List Zaa)) (b.drop a.toNat)) (.c s.1 (.c s.2 .n))))))))))))))))))
def ZgT(a:List Zaa)(b:Zaa)(c:Int):Option ((List Zaa)×Int):=(Zdo b).bind fun d=>bif(!d)then some (([]:(List Zaa)),(1:Int))else(ZcY a b.fEnd).bind fun e=>bif(decide (e>=(0:Int)))then some (([]:(List Zaa)),(7:Int))else bif(decide ((a.length:Int)>=c))then some (([]:(List Zaa)),(5:Int))else ZdA a (((a.length:Int)-(0:Int)).toNat+2) (0:Int) b
theorem Zqv(b:List Zaa)(f:Zaa)(j:Int)(r:((List Zaa)×Int))(a:ZgT b f j=some r):Yp 77 [Ym b,.agg (Zaa.c f),Yj j] (.tup [(false,(cLs 7 Zaa.c Zaa.d) r.1),(false,(cI .i64) r.2)]):=by
 refine Yw Tryz.func77 fun S0 w0=>?_;unfold ZgT at a;obtain⟨g,k,a⟩:=Zac a;obtain⟨h,a⟩|⟨h,a⟩:=Zaj a
 .apply Yb a 8 [rz,rA [(1,aB g)],rz] [true] [] [] [(6,[(0,cL 7 Zaa.c Zaa.d [])])] (.c (ZdH _ _ k) (.c h .n))
 .obtain⟨l,m,a⟩:=Zac a;have O3:Obl _:=(.c (ZdH _ _ k) (.c h (.c (Zdq _ _ _ m) .n)));obtain⟨e,a⟩|⟨e,a⟩:=Zaj a
  .apply Yb a 13 [rz,rA [(1,aB g)],rA [(3,aI l)],rz] [false,true] [] [] [(6,[(0,cL 7 Zaa.c Zaa.d [])])] (O3.app (.c e .n))
  .let R4:List RA:=[rz,rA [(1,aB g)],rA [(3,aI l)],rz,rz]
   obtain⟨i,a⟩|⟨i,a⟩:=Zaj a
   .apply Yb a 18 R4 [false,false,true] [] [] [(6,[(0,cL 7 Zaa.c Zaa.d [])])] (O3.app (.c e (.c i .n)))
   .exact Ye 21 R4 [false,false,false] ⟨[],[],[],[],[],[0,4,8],[4],[]⟩ (O3.app (.c e (.c i .n))) (Zos S0 w0 b (((b.length:Int)-(0:Int)).toNat+2) (0:Int) f r a)
end Go.Proofs.YtdjfoojllbfcgaaGreat
