import Derived.Test.YtmcnjofonpkfmaaGreatHTskA1
open BitVec renaming ofInt->Tz
open Bool renaming false->Tm,true->Tl
open Int renaming fdiv->Xo,tdiv->Yc,tmod->XZ,toNat_of_nonneg->Xw
open Go.IntKind renaming wrap->US,bits->UB
open List renaming length->S7
open Option renaming some->S8,none->S_,map_eq_some_iff->TD
open Go.Proofs.Tryz renaming prog->W8,f357->Yg,f9->Yi,func9->Yt,f333->Yx,f239->Yy,func27->Yz,f298->YA,f235->YB,f160->YC,f155->YD,func36->YE,func35->YF,f244->YG,f237->YH,f37->YI
namespace Go.Proofs.YtmcnjofonpkfmaaGreat
open Go.RowKit Go.Lib Go.Shelf
set_option linter.unusedSimpArgs false
set_option linter.unusedVariables false
set_option maxRecDepth 100000
variable {z:Zw}
def QC(o h j:Int)(az:Int->Int->(S5 a_)->S6 (S5 a_)):Nat->Int->(S5 a_)->S6 (S5 a_)|0,_,_=>S_|fu+1,g,e=>bif(decide (g<(pR h (1:Int))))then f_ (0<=(n_ g 1)/\(n_ g 1)<(S7 e:Int))<|f_ (0<=g/\g<(S7 e:Int))<|QC o h j az fu (n_ g 1) ((e.set g.toNat (e.getD ((n_ g 1).toNat) a_.d)).set ((n_ g 1).toNat) (e.getD g.toNat a_.d))else S8 e
abbrev abX(a:S5 a_)(b:Int):Nat:=((a.set b.toNat (a.getD (zb b) a_.d)).set (zb b) (uJ a b)).length
variable{t u y A D H g h j I:Int}
theorem ZkF{az:Int->Int->re->S6 re}(bS:∀{j o h},LH z Yg [0,1,0,1,1,0,0] (az j o h) xH tO ⟨[(uW h),(q7 D),zV,(sN j),(uH o)],(w5 h)⟩):∀{u g e},LH z Yg [0,1,0,1,1,1,0,1,0] (QC D t y az u g e) xH tO ⟨[(uW e),(sN t),(13,(Yj g))],(w5 e)⟩:=@qv _ kZ λF=>by intro g e;exact kB (sB λA=>kH (ltOf A)<|sB λB=>kH (ltOf B)<|kH B<|kW 1 15 a_.E e g.toNat (e.getD (zb g) a_.d) (ltOf B)<|kH A<|kW 1 17 a_.E (e.set g.toNat (e.getD (zb g) a_.d)) (zb g) (uJ e g) (by have:=ltOf A;simp at this ⊢;omega)<|kH (oW (abX e g))<|rj 12 [] [] [] [(100000,(abX e g))] [] [] F) (yD [] [] [] [100000])
def GJ(j:Int):Nat->Int->Int->(S5 a_)->S6 (S5 a_)|0,_,_,_=>S_|fu+1,g,h,e=>bif(decide (g<h))then f_ (0<=(US .i64 (Xo (US .u64 (n_ g h)) (2 ^ (min (1:Int).toNat (UB .u64)))))/\(US .i64 (Xo (US .u64 (n_ g h)) (2 ^ (min (1:Int).toNat (UB .u64)))))<(S7 e:Int))<|f_ (0<=j/\j<(S7 e:Int))<|(LR (e.getD ((US .i64 (Xo (US .u64 (n_ g h)) (2 ^ (min (1:Int).toNat (UB .u64))))).toNat) a_.d) (e.getD j.toNat a_.d)).bind λo=>bif(decide (o<0))then GJ j fu (n_ (US .i64 (Xo (US .u64 (n_ g h)) (2 ^ (min (1:Int).toNat (UB .u64))))) (1:Int)) h e else GJ j fu g (US .i64 (Xo (US .u64 (n_ g h)) (2 ^ (min (1:Int).toNat (UB .u64))))) e else QC j g h (GJ j fu) 1000000 j e
theorem ZkG{t}:∀{j g h e},LH z Yg [0,1,0,1,1,0,0] (GJ t j g h e) xH tO ⟨[(uW e),(q7 t),zV,(sN g),(uH h)],(w5 e)⟩:=@qv _ kZ λo=>kB (kH (oY (1:Int) rfl)<|zl<|zl<|f'<|kB (kL 15 o) (kL 15 o)) (kL 10 (ZkF o))
def QD(o h j:Int)(aA:Int->Int->(S5 a_)->S6 (S5 a_)):Nat->Int->(S5 a_)->S6 (S5 a_)|0,_,_=>S_|fu+1,g,e=>bif(decide (g>h))then f_ (0<=(pR g (1:Int))/\(pR g (1:Int))<(S7 e:Int))<|f_ (0<=g/\g<(S7 e:Int))<|QD o h j aA fu (pR g (1:Int)) ((e.set g.toNat (e.getD ((pR g (1:Int)).toNat) a_.d)).set ((pR g (1:Int)).toNat) (e.getD g.toNat a_.d))else S8 e
theorem ZkD{aA:Int->Int->re->S6 re}(bT:∀{j o h},LH z Yg Ih (aA j o h) xH tO ⟨[(uW h),(sV D),zV,(14,(Yj j)),(15,(Yj o))],(w5 h)⟩):∀{y g e},LH z Yg [1,0,1,0,1,1,1,0,1,0] (QD D u A aA y g e) xH tO ⟨[(uW e),(14,(Yj u)),(17,(Yj g))],(w5 e)⟩:=@qv _ kZ λF=>by intro g e;exact kB (sB λB=>kH (ltOf B)<|sB λt=>kH (ltOf t)<|kH t<|kW 1 15 a_.E e g.toNat (e.getD (w6 g) a_.d) (ltOf t)<|kH B<|kW 1 17 a_.E (e.set g.toNat (e.getD (w6 g) a_.d)) (w6 g) (uJ e g) (by have:=ltOf B;simp at this ⊢;omega)<|kH (oW (IU e g))<|rj 12 [] [] [] [(100000,(IU e g))] [] [] F) (yD [] [] [] [100000])
def GK(j:Int):Nat->Int->Int->(S5 a_)->S6 (S5 a_)|0,_,_,_=>S_|fu+1,g,h,e=>bif(decide (g<h))then f_ (0<=j/\j<(S7 e:Int))<|f_ (0<=(US .i64 (Xo (US .u64 (n_ g h)) (2 ^ (min (1:Int).toNat (UB .u64)))))/\(US .i64 (Xo (US .u64 (n_ g h)) (2 ^ (min (1:Int).toNat (UB .u64)))))<(S7 e:Int))<|(LR (e.getD j.toNat a_.d) (e.getD ((US .i64 (Xo (US .u64 (n_ g h)) (2 ^ (min (1:Int).toNat (UB .u64))))).toNat) a_.d)).bind λo=>bif(!(decide (o<0)))then GK j fu (n_ (US .i64 (Xo (US .u64 (n_ g h)) (2 ^ (min (1:Int).toNat (UB .u64))))) (1:Int)) h e else GK j fu g (US .i64 (Xo (US .u64 (n_ g h)) (2 ^ (min (1:Int).toNat (UB .u64))))) e else QD j g h (GK j fu) ((j-g).toNat+2) j e
theorem ZkE{t}:∀{j g h e},LH z Yg Ih (GK t j g h e) xH tO ⟨[(uW e),(sV t),zV,(14,(Yj g)),(15,(Yj h))],(w5 e)⟩:=@qv _ kZ λo=>kB (kH (oY (1:Int) rfl)<|zl<|zl<|f'<|kB (kL 15 o) (kL 15 o)) (kL 10 (ZkD o))
def MD(A B h:Int)(gr:((S5 a_)->Int->Int->Int->S6 (S5 a_)))(g j o t u e:Int)(ae:Int->Int->Int->(S5 a_)->S6 (S5 a_))(d:S5 a_):S6 (S5 a_):=bif(decide (g<e))then bif(decide (e<h))then(gr d g e h).bind λy=>S8 y else S8 d else S8 d
abbrev DS(a:S5 a_)(b e f:Int):S5 a_ → Ev:=eH 357 (xJ a) (Ix a b e f) xK λr=>ue
abbrev II:Type:=re->Int->Int->Int->S6 re
abbrev M5(a:S5 a_)(b c d f g i k l:Int):S5 (Nat × V):=[(uW a),(q7 b),(sV c),(sO d),zV,(18,(Yj f)),(19,(Yj g)),(20,(Yj i)),(21,(Yj k)),(22,(Yj l))]
theorem ZdX{gr:II}{B:Int}{G:Int}[∀{F y A u},pC (gr F y A u) (DS F y A u)]{ae:Int->Int->Int->re->S6 re}(aC:∀{h j o e},LH z Yg DM (ae h j o e) xK tO ⟨(M5 e y A u t B h j o),(xJ e)⟩){g}:LH z Yg [1,1,1,1,1,1,1,1,1,1,1] (MD y A u gr t B G H I D ae g) xK tO ⟨[(uW g),(sO u),zV,(18,(Yj t)),(24,(Yj D))],(xJ g)⟩:=kB (kB (kD 1 5 ud [] λ_=>yD [] [] [] [100000]) (yD [] [] [] [100000])) (kK Tm<|yD [] [] [] [100000])
def HU(u y A:Int)(gr:((S5 a_)->Int->Int->Int->S6 (S5 a_)))(g h e j o:Int)(ae:Int->Int->Int->(S5 a_)->S6 (S5 a_))(t:Int)(d:S5 a_):S6 (S5 a_):=bif(decide (u<e))then bif(decide (e<g))then(gr d u e g).bind λB=>MD u y A gr g h e j o t ae B else MD u y A gr g h e j o t ae d else MD u y A gr g h e j o t ae d
theorem ZdY{gr:II}{B:Int}[∀{G u A y},pC (gr G u A y) (DS G u A y)]{ae:Int->Int->Int->re->S6 re}(aC:∀{h j o e},LH z Yg DM (ae h j o e) xK tO ⟨(M5 e u A y t B h j o),(xJ e)⟩){F g}:LH z Yg [1,1,1,1,1,1,1,1,1,1] (HU u A y gr t B D H I ae F g) xK tO ⟨[(uW g),(q7 u),(sO y),zV,(18,(Yj t)),(20,(Yj D)),(24,(Yj F))],(xJ g)⟩:=kB (kB (kD 1 5 ud [] λJ=>kH (oW J.length)<|rj 5 [] [] [] (AJ J) [] [] (ZdX aC)) (kL 5 (ZdX aC))) (kK Tm<|kL 5 (ZdX aC))
def Fh(y u A:Int)(gr:((S5 a_)->Int->Int->Int->S6 (S5 a_)))(o h:Int):Nat->Int->Int->Int->(S5 a_)->S6 (S5 a_)|0,_,_,_,_=>S_|fu+1,g,j,t,e=>bif(decide (g<j))then f_ (0<=(pR t (US .i64 (Xo (US .u64 (n_ g j)) (2 ^ (min (1:Int).toNat (UB .u64))))))/\(pR t (US .i64 (Xo (US .u64 (n_ g j)) (2 ^ (min (1:Int).toNat (UB .u64))))))<(S7 e:Int))<|f_ (0<=(US .i64 (Xo (US .u64 (n_ g j)) (2 ^ (min (1:Int).toNat (UB .u64)))))/\(US .i64 (Xo (US .u64 (n_ g j)) (2 ^ (min (1:Int).toNat (UB .u64)))))<(S7 e:Int))<|(LR (e.getD ((pR t (US .i64 (Xo (US .u64 (n_ g j)) (2 ^ (min (1:Int).toNat (UB .u64)))))).toNat) a_.d) (e.getD ((US .i64 (Xo (US .u64 (n_ g j)) (2 ^ (min (1:Int).toNat (UB .u64))))).toNat) a_.d)).bind λB=>bif(!(decide (B<0)))then Fh y u A gr o h fu (n_ (US .i64 (Xo (US .u64 (n_ g j)) (2 ^ (min (1:Int).toNat (UB .u64))))) (1:Int)) j t e else Fh y u A gr o h fu g (US .i64 (Xo (US .u64 (n_ g j)) (2 ^ (min (1:Int).toNat (UB .u64))))) t e else bif(decide (g<u))then bif(decide (u<(pR h g)))then(Zdg e g u (pR h g)).bind λD=>HU y u A gr o h g j t (Fh y u A gr o h fu) (pR h g) D else HU y u A gr o h g j t (Fh y u A gr o h fu) (pR h g) e else HU y u A gr o h g j t (Fh y u A gr o h fu) (pR h g) e
theorem ZkC{gr:II}{o:Int}[∀{D g h j},pC (gr D g h j) (DS D g h j)]:∀{F u y A e},LH z Yg DM (Fh g h j gr o t F u y A e) xH tO ⟨(M5 e g h j o t u y A),(w5 e)⟩:=@qv _ kZ λB=>kB (kH (oY (1:Int) rfl)<|zl<|zl<|f'<|kB (kL 15 B) (kL 15 B)) (kB (kB (kD 3 5 ud [] λG=>kH (oW G.length)<|rj 13 [] [] [] (AJ G) [] [] (ZdY B)) (kL 13 (ZdY B))) (kK Tm<|kL 13 (ZdY B)))
def ZcC(o t u:Int)(gr:((S5 a_)->Int->Int->Int->S6 (S5 a_)))(j e g h:Int)(d:S5 a_):S6 (S5 a_):=Fh o t u gr j e ((h-g).toNat+2) g h (pR e (1:Int)) d
theorem Zga{gr:II}[∀{A g h j},pC (gr A g h j) (DS A g h j)]{o t u y e}:LH z Yg [1,1,1,1,1,1] (ZcC g h j gr o t u y e) xH tO ⟨[(uW e),(q7 g),(sV h),(sO j),zV,(18,(Yj o)),(19,(Yj t)),(20,(Yj u)),(21,(Yj y))],(w5 e)⟩:=kL 4 ZkC
def Zdx(gr:(S5 a_)->Int->Int->Int->S6 (S5 a_))(h:S5 a_)(d e g:Int):S6 (S5 a_):=bif((pR e d)==(1:Int))then GJ d ((g-e).toNat+2) e g h else bif((pR g e)==(1:Int))then GK e ((e-d).toNat+2) d e h else bif(decide (e>(US .i64 (Xo (US .u64 (n_ d g)) (2 ^ (min (1:Int).toNat (UB .u64)))))))then ZcC d e g gr (US .i64 (Xo (US .u64 (n_ d g)) (2 ^ (min (1:Int).toNat (UB .u64))))) (n_ (US .i64 (Xo (US .u64 (n_ d g)) (2 ^ (min (1:Int).toNat (UB .u64))))) e) (pR (n_ (US .i64 (Xo (US .u64 (n_ d g)) (2 ^ (min (1:Int).toNat (UB .u64))))) e) g) (US .i64 (Xo (US .u64 (n_ d g)) (2 ^ (min (1:Int).toNat (UB .u64))))) h else ZcC d e g gr (US .i64 (Xo (US .u64 (n_ d g)) (2 ^ (min (1:Int).toNat (UB .u64))))) (n_ (US .i64 (Xo (US .u64 (n_ d g)) (2 ^ (min (1:Int).toNat (UB .u64))))) e) d e h
theorem Zlg{gr:re->Int->Int->Int->S6 re}[∀{e g h j},pC (gr e g h j) (DS e g h j)]:∀{e g h j},pC (Zdx gr e g h j) (DS e g h j):=sE Tryz.func357 (kB (kL 10 ZkG) (kB (kL 15 ZkE) (kH (oY (1:Int) rfl)<|kB (kL 23 Zga) (kL 23 Zga))))
def MH:Nat->(S5 a_)->Int->Int->Int->S6 (S5 a_)|0,_,_,_,_=>S_|fu+1,d,e,g,h=>Zdx (MH fu) d e g h
instance:∀{e},∀{g j o t},pC (MH e g j o t) (eH 357 (AZ g) (Ix g j o t) DA λr=>ue):=by
 intro e;induction e with
 |zero=>exact⟨λh=>by cases h⟩
 |succ e u=>exact Zlg (gr:=MH e)
def MC(h e:Int)(ag:Int->Int->Int->(S5 a_)->S6 (S5 a_))(ar:Int->(S5 a_)->S6 (S5 a_)):Nat->Int->Int->(S5 a_)->S6 (S5 a_)|0,_,_,_=>S_|fu+1,g,j,d=>bif(decide (j<=h))then(MH 1000 d g (n_ g e) j).bind λo=>MC h e ag ar fu j (n_ j (u6 (2:Int) e)) o else bif(decide ((n_ g e)<h))then(MH 1000 d g (n_ g e) h).bind λt=>ar (u6 e (2:Int)) t else ar (u6 e (2:Int)) d
abbrev IE(a:S5 a_)(b c d f:Int):S5 (Nat × V):=[(uW a),(q7 b),(2,.one yl),(uV c),(tG d),(sG f)]
theorem Zlt{B:Int}{ag:Int->Int->Int->re->S6 re}{ar:Int->re->S6 re}(aT:∀{h j o e},LH z Yx y0 (ag h j o e) xK tO ⟨(IE e t h j o),(xJ e)⟩)(aU:∀{h e},LH z Yx [1,1,1,1,0] (ar h e) xK tO ⟨[(uW e),(q7 t),(2,.one yl),(uV h)],(xJ e)⟩):∀{u D F g},LH z Yx [1,1,1,1,0,0,1,0,1,0,0] (MC t B ag ar u D F g) xK tO ⟨(IE g t B D F),(xJ g)⟩:=@qv _ kZ λG=>kB (kD 1 7 ud [] λy=>kH (oW y.length)<|rj 14 [] [] [] (AJ y) [] [] G) (kB (kD 3 5 ud [] λA=>kH (oW A.length)<|rj 16 [] [] [] (AJ A) [] [] aU) (kL 16 aU))
def Kr(e h j:Int)(ag:Int->Int->Int->(S5 a_)->S6 (S5 a_)):Nat->Int->(S5 a_)->S6 (S5 a_)|0,_,_=>S_|fu+1,g,d=>bif(decide (g<e))then MC e g ag (Kr e h j ag fu) ((e-(u6 (2:Int) g)).toNat+2) (0:Int) (u6 (2:Int) g) d else S8 d
theorem Zlu{B:Int}{ag:Int->Int->Int->re->S6 re}(aT:∀{h j o e},LH z Yx y0 (ag h j o e) xK tO ⟨(IE e u h j o),(xJ e)⟩):∀{t y g},LH z Yx [1,1,1,1,0] (Kr u A B ag t y g) xK tO ⟨[(uW g),(q7 u),(2,.one yl),(uV y)],(xJ g)⟩:=@qv _ kZ λD=>kB (kL 11 (Zlt aT D)) (yD [] [] [] [100000])
def HT(e:Int):Nat->Int->Int->Int->(S5 a_)->S6 (S5 a_)|0,_,_,_,_=>S_|fu+1,h,j,g,d=>bif(decide (g<=e))then(Zcn d j g).bind λo=>HT e fu h g (n_ g h) o else(Zcn d j e).bind λt=>Kr e j g (HT e fu) ((e-h).toNat+2) h t
theorem Zlv{o}:∀{g t u y e},LH z Yx y0 (HT o g t u y e) xH tO ⟨(IE e o t u y),(w5 e)⟩:=@qv _ kZ λA=>kB (kD 1 4 ud [] λh=>kH (oW h.length)<|rj 14 [] [] [] (AJ h) [] [] A) (kD 1 4 ud [] λj=>kH (oW j.length)<|rj 9 [] [] [] (AJ j) [] [] (Zlu A))
def Zfz(e:S5 a_)(d:Int):S6 (S5 a_):=HT d ((d-(20:Int)).toNat+2) (20:Int) (0:Int) (20:Int) e
instance{e g}:pC (Zfz e g) (eH 333 (AZ e) [.one (DO e),Yj g,.one yl] DA λr=>ue):=sE Tryz.func333 (kL 6 Zlv)
def ZcJ(d:S5 a_):S6 (S5 a_):=(Zfz d (S7 d:Int)).bind λe=>S8 e
instance{e}:pC (ZcJ e) (eH 288 (AZ e) [.one (DO e),.one yl] DA λr=>ue):=sE Tryz.func288 (kD 0 4 ud [] λ_=>yD [] [] [] [100000])
def ZpM(d:S5 a_):S6 (S5 a_):=(Du d).bind λe=>(ZcJ e).bind λg=>S8 g
instance{g}:pC (ZpM g) (eH 224 [] [Yn g] vp oH):=sE Tryz.func224 (kD 1 1 [] [(99999,5)] λ_=>kD 2 1 [(100000,5)] [] λe=>kH (show e.length=e.length from rfl)<|r7 ⟨[],[],[],[(99999,S7 e)],[],[2],[5],[(5,99999)]⟩ S_)
def PV:Nat->(S5 (S5 a_))->Int->Int->qA->wj->oZ->Int->l_->Int->Int->(S5 a_)->S6 (o7 oZ)|0,_,_,_,_,_,_,_,_,_,_,_=>S_|fu+1,h,y,g,e,G,H,j,o,t,u,d=>bif(decide (g<y))then f_ (0<=g/\g<(S7 h:Int))<|f_ ((d++(h.getD g.toNat [])).length * 80<=140737488355328/\(d++(h.getD g.toNat [])).length<=maxLen)<|PV fu h y (n_ g 1) e G H j o t u (d++(h.getD g.toNat []))else tb (Hs e G.fc.e_ Tl) λI A=>tb (uT A (1:Int) Tm) λJ B=>tb (Hu B (0:Int) Tm) λL D=>(ZpM d).bind λF=>S8 (o7.ret (oZ.mk j o t u F) D)
theorem Zvn:∀{J F G H o g u A t B D h},LO z Tryz.f140 [1,1,1,1,1,0,1,0] (PV J F G H o g u A t B D h) tu ⟨[Ft,tH,sQ,zS,(28,.one (wm F)),(29,(Yj G)),(30,(Yj H))],[(100000,.box (qA.c o)),(2,.box (wj.c g)),(4,.box (oZ.c u)),(oj 80507 41 10 a_.c a_.d h),(5,.box [.lit (.int .i64 A),.lit (.bool t.b_.qt),.lit (.int .u64 t.b_.rk),.lit (.int .u64 t.b_.qX),.lit (.int .i64 t.qE),.lit (.int .i64 B),.lit (.int .i64 D),.p8 80507 h.length])]⟩:=@qv _ kZ λL=>kB (kN<|kA 2 3 a_.E<|tA 14 [(37,80507)] L) (rI λ_ _=>ri λ_ _=>ri λ_ _=>kD 4 2 [] [(99999,51)] λI=>kH (show ∀i j,i<S7 I->j<10->∃y,pw a_.c a_.d I i j=.lit y from(On (sz:=10) (e:=a_.c) (d:=a_.d) (λ_=>rfl) (λ_=>rfl) _ _))<|ya [51] [] [])
def ZnR(e:wj)(B:qA):S6 (o7 oZ):=tb (Mh B (0:Int) Tm) λD g=>tb (zN g (1:Int) Tm) λF h=>tb (Ht h e.fc.e_) λG j=>tb (JQ j) λo t=>tb (zu t (pM.mk 4 0 0) Tm) λu y=>tb (Zkk e y) λd A=>PV (((S7 d:Int)-(0:Int)).toNat+2) d (S7 d:Int) (0:Int) A e (oZ.mk 0 (l_.mk (oV.mk Tm 0 0) 0) 0 0 []) (0:Int) (l_.mk (oV.mk Tm 0 0) 0) (S7 o:Int) (S7 u.j_:Int) ([])
instance{e g}:qg (ZnR e g) 140 (qF g) (AR e) tu:=kO Tryz.func140 (ri λ_ _=>ri λ_ _=>rI λ_ _=>rI λ_ _=>ri λ_ _=>rI λ_ _=>rj 14 [] uI [] [] [(205007,80507,41,10,pw a_.c a_.d [])] [] Zvn)
def ZvO(d:pD):S6 xk:=(LJ d).bind λe=>bif(!e)then S8 xk.A_ else bif(d.d_==(6:Int))then S8 xk.Cz else bif(d.d_==(7:Int))then S8 xk.Cy else bif(d.d_==(8:Int))then S8 xk.Cw else bif(d.d_==(9:Int))then S8 xk.Cv else bif(d.d_==(10:Int))then S8 xk.Cu else S8 xk.A_
instance{d}:o0 (ZvO d) (eS 69 [.agg (pD.c d)] λr=>.one (xk.c r)):=kS Tryz.func69 (f'<|kB i_ (kB i_ (kB i_ (kB i_ (kB i_ (kB i_ i_))))))
def Hl(e:p5)(d:pD):S6 vo:=(ZvO d).bind λg=>(match g with | .A_=>S8 (vo.Eb xk.A_ e d) | .Cz=>S8 (vo.Eb xk.Cz e d) | .Cy=>S8 (vo.Eb xk.Cy e d) | .Cw=>S8 (vo.Eb xk.Cw e d) | .Cv=>S8 (vo.Eb xk.Cv e d) | .Cu=>S8 (vo.Eb xk.Cu e d))
instance{d e}:o0 (Hl d e) (eS 30 [.agg (p5.c d),.agg (pD.c e)] λr=>.one (vo.c r)):=kS Tryz.func30 (by
 unfold Hl
 exact kC λg=>(by cases g with|A_=>exact kX 2 ⟨[],[],[(0,[5,2,3])],[],[],[],[]⟩<|i_|Cz=>exact kX 2 ⟨[],[],[(0,[5,2,3])],[],[],[],[]⟩<|i_|Cy=>exact kX 2 ⟨[],[],[(0,[5,2,3])],[],[],[],[]⟩<|i_|Cw=>exact kX 2 ⟨[],[],[(0,[5,2,3])],[],[],[],[]⟩<|i_|Cv=>exact kX 2 ⟨[],[],[(0,[5,2,3])],[],[],[],[]⟩<|i_|Cu=>exact kX 2 ⟨[],[],[(0,[5,2,3])],[],[],[],[]⟩<|i_))
def J0(d:Int):S6 oZ:=S8 (oZ.mk d (l_.mk (oV.mk Tm 0 0) 0) 0 0 [])
instance{e}:o0 (J0 e) (eS 141 [Yj e] tu):=kS Tryz.func141 (kR [] [(2,uc)] [])
def ZlC(j:sq)(e:qA):S6 (o7 oZ):=tb (L9 e Tl) λg d=>(J0 (1:Int)).bind λh=>S8 (o7.ret h d)
abbrev Cg(a:sq):S5 V:=[.agg (sq.c a),.one tc]
instance{d e}:qg (ZlC d e) 71 (qF e) (Cg d) tu:=kO Tryz.func71 (ri λ_ _=>f'<|qy)
def Md(d:sq):S6 Int:=(Hh d.fx.c_.b_ d.fc.pX d.fc.e_).bind λe=>S8 e
instance{d}:o0 (Md d) (eS 225 [.agg (sq.c d)] Yj):=kS Tryz.func225 (f'<|i_)
def AB(d:sq):S6 Int:=(Md d).bind λe=>S8 (n_ (2:Int) e)
instance{d}:o0 (AB d) (eS 143 [.agg (sq.c d)] Yj):=kS Tryz.func143 (f'<|i_)
def J5(e:sq)(j:qA):S6 (o7 ((S5 a_)×Int)):=(AB e).bind λo=>tb (zN j o Tm) λt g=>(Md e).bind λu=>tb (El g u) λd h=>(Hp d e.fx.c_).bind λy=>S8 (o7.ret (d,y) h)
instance{e g}:qg (J5 e g) 142 (qF g) (Cg e) (λr=>.qw [(Tm,tv r.1),(Tm,uf r.2)]):=kO Tryz.func142 (f'<|kH ZRF<|ri λ_ _=>f'<|rI λ_ _=>f'<|qy)
def PD(g:sq)(h:qA)(e:S5 a_)(j:S5 l_):S6 (o7 Unit):=(Md g).bind λo=>(OW e j).bind λt=>tb (Dp h o e t) λu d=>S8 (o7.ret () d)
instance{d e g h}:qg (PD d e g h) 144 (qF e) [.agg (sq.c d),.one tc,Yn g,Yo h] tQ:=kO Tryz.func144 (f'<|f'<|rI λ_ _=>qy)
def SD(h:qA)(j:S5 l_):S6 (o7 Unit):=tb (zu h (pM.mk 4 0 0) Tm) λd e=>(OS d.j_ j).bind λo=>tb (AD e (pM.mk 4 0 0) (oM.mk 0 (a_.mk (l_.mk (oV.mk Tm 0 0) 0) Tm 0 (pW.mk 0 0) 0 0) [] o) Tm) λt g=>S8 (o7.ret () g)
instance{e g}:qg (SD e g) 227 (qF e) [.one tc,Yo g] tQ:=kO Tryz.func227 (ri λ_ _=>f'<|kH Gw<|kX 2 Nf<|ri λ_ _=>qy)
def ZlD(g:sq)(H:qA):S6 (o7 oZ):=tb (J5 g H) λe h=>bif(decide (e.2<(0:Int)))then(AB g).bind λI=>tb (uT h I Tl) λJ u=>(J0 (6:Int)).bind λL=>S8 (o7.ret L u)else tb (PD g h e.1 ([g.fx.c_]:S5 l_)) λM j=>f_ (0<=e.2/\e.2<((e.1.length:Nat):Int))<|bif(e.1.getD e.2.toNat a_.d).tL then tb (CR j (1:Int) (-1:Int) Tl) λO y=>(AB g).bind λU=>tb (uT y U Tm) λW A=>S8 (o7.ret (oZ.mk 0 (l_.mk (oV.mk Tm 0 0) 0) 0 0 []) A)else tb (SD j ([g.fx.c_]:S5 l_)) λZ B=>tb (CR B (2:Int) (-1:Int) Tl) λF o=>(AB g).bind λD=>tb (uT o D Tm) λG t=>S8 (o7.ret (oZ.mk 0 (l_.mk (oV.mk Tm 0 0) 0) 0 0 []) t)
instance{e g}:qg (ZlD e g) 146 (qF g) (Cg e) tu:=kO Tryz.func146 (rI λ_ _=>kB (f'<|kH BZ<|ri λ_ _=>f'<|qy) (kM 3 3 l_.E ([e.fx.c_]:S5 l_)<|rI λ_ _=>kN<|kB (rI λ_ _=>f'<|kH BZ<|ri λ_ _=>ya [] uI []) (rI λ_ _=>rI λ_ _=>f'<|kH BZ<|ri λ_ _=>ya [] uI [])))
def ZlE(g:sq)(J:qA):S6 (o7 oZ):=tb (J5 g J) λe h=>bif(decide (e.2<(0:Int)))then(AB g).bind λL=>tb (uT h L Tl) λM A=>(J0 (6:Int)).bind λO=>S8 (o7.ret O A)else f_ (0<=e.2/\e.2<((e.1.length:Nat):Int))<|bif(e.1.getD e.2.toNat a_.d).tL then tb (PD g h e.1 ([g.fx.c_]:S5 l_)) λU B=>tb (CR B (1:Int) (-1:Int) Tl) λW D=>(AB g).bind λZ=>tb (uT D Z Tm) λx8v F=>S8 (o7.ret (oZ.mk 0 (l_.mk (oV.mk Tm 0 0) 0) 0 0 []) F)else(AB g).bind λx9=>tb (uT h x9 Tm) λG j=>tb (zN j (1:Int) Tm) λH o=>tb (ZlD g o) λt u=>tb (uT u (1:Int) Tm) λI y=>S8 (o7.ret t y)
instance{e g}:qg (ZlE e g) 72 (qF g) (Cg e) tu:=kO Tryz.func72 (rI λ_ _=>kB (f'<|kH BZ<|ri λ_ _=>f'<|qy) (kN<|kB (kM 4 6 l_.E ([e.fx.c_]:S5 l_)<|rI λ_ _=>rI λ_ _=>f'<|kH BZ<|ri λ_ _=>ya [] uI []) (f'<|kH BZ<|ri λ_ _=>ri λ_ _=>rI λ_ _=>ri λ_ _=>qy)))
def Pp(d:Int):S6 Int:=bif(decide (d<0))then S8 (0:Int)else bif(decide (d>=(6:Int)))then S8 (0:Int)else f_ (0<=d/\d<((6:Nat):Int))<|BH d 0 ( S8 (0:Int))<|BH d 1 ( S8 (1:Int))<|BH d 2 ( S8 (10:Int))<|BH d 3 ( S8 (20:Int))<|BH d 4 ( S8 (50:Int))<|some (100:Int)
instance{d}:o0 (Pp d) (eS 229 [Yj d] Yj):=kS Tryz.func229 (kB (kK Tl<|i_) (kB i_ (uU λu=>kI (λe=>by subst e;exact uP 0 6<|i_) λg=>kI (λe=>by subst e;exact uP 1 6<|i_) λh=>kI (λe=>by subst e;exact uP 2 6<|i_) λj=>kI (λe=>by subst e;exact uP 3 6<|i_) λo=>kI (λe=>by subst e;exact uP 4 6<|i_) λt=>by obtain rfl:d=5:=(by omega);exact uP 5 6<|i_)))
def ZAf(d:pW):S6 pW:=(zt d.tZ).bind λe=>S8 (pW.mk (if(1099511627776:Int)<(if(0:Int)>d.pB then(0:Int)else d.pB)then(1099511627776:Int)else(if(0:Int)>d.pB then(0:Int)else d.pB)) e)
abbrev AM:pW → V:=ov pW.c
instance{d}:o0 (ZAf d) (eS 358 [.agg (pW.c d)] AM):=kS Tryz.func358 (f'<|i_)
def ZCD(d e:Int):S6 Int:=(zt d).bind λg=>(zt e).bind λh=>(zt (pR g h)).bind λj=>S8 j
instance{d e}:o0 (ZCD d e) (eS 359 [Yj d,Yj e] Yj):=kS Tryz.func359 (f'<|f'<|f'<|i_)
def Zsz(h:pW)(d j:Int):S6 pW:=(ZAf h).bind λg=>(ZCD j g.tZ).bind λe=>f_ ((if(1073741824:Int)<(if(1:Int)>d then(1:Int)else d)then(1073741824:Int)else(if(1:Int)>d then(1:Int)else d))≠0)<|f_ (0<=(if(41:Int)<(US .i64 (Yc e (if(1073741824:Int)<(if(1:Int)>d then(1:Int)else d)then(1073741824:Int)else(if(1:Int)>d then(1:Int)else d))))then(41:Int)else(US .i64 (Yc e (if(1073741824:Int)<(if(1:Int)>d then(1:Int)else d)then(1073741824:Int)else(if(1:Int)>d then(1:Int)else d))))))<|some (pW.mk (Xo g.pB (2 ^ (min (if(41:Int)<(US .i64 (Yc e (if(1073741824:Int)<(if(1:Int)>d then(1:Int)else d)then(1073741824:Int)else(if(1:Int)>d then(1:Int)else d))))then(41:Int)else(US .i64 (Yc e (if(1073741824:Int)<(if(1:Int)>d then(1:Int)else d)then(1073741824:Int)else(if(1:Int)>d then(1:Int)else d))))).toNat (UB .i64)))) (n_ g.tZ (u6 (US .i64 (Yc e (if(1073741824:Int)<(if(1:Int)>d then(1:Int)else d)then(1073741824:Int)else(if(1:Int)>d then(1:Int)else d)))) (if(1073741824:Int)<(if(1:Int)>d then(1:Int)else d)then(1073741824:Int)else(if(1:Int)>d then(1:Int)else d)))))
instance{d e g}:o0 (Zsz d e g) (eS 335 [.agg (pW.c d),Yj e,Yj g] AM):=kS Tryz.func335 (f'<|f'<|kN<|kN<|i_)
def ZCE(g h:Int):S6 Int:=(zt g).bind λd=>(zt h).bind λe=>bif(decide (d>0))then f_ (d≠0)<|bif(decide (e>(US .i64 (Yc (1099511627776:Int) d))))then S8 (1099511627776:Int)else S8 (u6 d e)else S8 (u6 d e)
instance{d e}:o0 (ZCE d e) (eS 336 [Yj d,Yj e] Yj):=kS Tryz.func336 (f'<|f'<|kB (kN<|kB i_ i_) (kK Tm<|i_))
def OP(e:pW)(g h j:Int):S6 pW:=(Zsz e h j).bind λd=>(ZCE g (65536:Int)).bind λo=>(JE d.pB o).bind λt=>S8 (pW.mk t d.tZ)
instance{d e g h}:o0 (OP d e g h) (eS 294 [.agg (pW.c d),Yj e,Yj g,Yj h] AM):=kS Tryz.func294 (f'<|f'<|f'<|i_)
def ZqN(d:a_)(e g h:Int):S6 a_:=(OP d.qa e g h).bind λj=>S8 (a_.mk d.c_ d.tL d.pK j d.p_ d.qo)
instance{d e g h}:o0 (ZqN d e g h) (eS 228 [.agg (si d),Yj e,Yj g,Yj h] zP):=kS Tryz.func228 (f'<|i_)
def ZoV(e:pW)(d:Int):S6 Bool:=S8 (decide (e.pB>=(u6 (if(16777216:Int)<(if(1:Int)>d then(1:Int)else d)then(16777216:Int)else(if(1:Int)>d then(1:Int)else d)) (65536:Int))))
instance{d e}:o0 (ZoV d e) (eS 230 [.agg (pW.c d),Yj e] Yk):=kS Tryz.func230 (i_)
def Zis(d:sq)(g:a_):S6 (a_×Bool):=(Pp d.fx.qz).bind λh=>(ZqN g h d.fc.uM d.fx.pE).bind λe=>(ZoV e.qa d.fc.rS).bind λj=>S8 (e,j)
instance{d e}:o0 (Zis d e) (eS 147 [.agg (sq.c d),.agg (si e)] λr=>.qw [(Tl,a_.c r.1),(Tm,cB r.2)]):=kS Tryz.func147 (f'<|f'<|f'<|i_)
def Mc(e:sq)(g:qA)(h:Int)(j:a_):S6 (o7 Unit):=(Md e).bind λo=>tb (AD g (pM.mk 6 o h) (oM.mk 0 j [] []) Tl) λt d=>S8 (o7.ret () d)
instance{e g h j}:qg (Mc e g h j) 148 (qF g) [.agg (sq.c e),.one tc,Yj h,.agg (si j)] tQ:=kO Tryz.func148 (f'<|kH Gw<|kX 1 ⟨[],[],[],[],[(6,xE)],[],[]⟩<|ri λ_ _=>qy)
def LP(d:pW):S6 Int:=S8 (US .i64 (Yc (if(0:Int)>d.pB then(0:Int)else d.pB) (65536:Int)))
instance{d}:o0 (LP d) (eS 149 [.agg (pW.c d)] Yj):=kS Tryz.func149 (kH (show (65536:Int)≠0 from(by decide))<|i_)
def ZmU(e:sq)(t:qA)(u:pn):S6 (o7 Int):=(JE e.fx.pE e.fc.sn).bind λj=>tb (zu t (pM.mk 3 0 0) Tm) λg d=>(Sh g.po (oD.mk u j) e.fc.qc).bind λo=>bif(o.2 != (0:Int))then S8 (o7.ret (0:Int) d)else tb (AD d (pM.mk 3 0 0) (oM.mk 0 (a_.mk (l_.mk (oV.mk Tm 0 0) 0) Tm 0 (pW.mk 0 0) 0 0) o.1 []) Tm) λy h=>S8 (o7.ret j h)
instance{e g h}:qg (ZmU e g h) 231 (qF g) [.agg (sq.c e),.one tc,.agg (sj h)] Yj:=kO Tryz.func231 (f'<|ri λ_ _=>f'<|kB qy (kX 5 AY<|ri λ_ _=>qy))
def SY:Nat->(S5 a_)->Int->Int->(S5 l_)->S6 (S5 l_)|0,_,_,_,_=>S_|fu+1,g,j,e,h=>bif(decide (e<j))then f_ (0<=e/\e<(S7 g:Int))<|f_ ((h++([(g.getD e.toNat a_.d).c_]:S5 l_)).length * 32<=140737488355328/\(h++([(g.getD e.toNat a_.d).c_]:S5 l_)).length<=maxLen)<|SY fu g j (n_ e 1) (h++([(g.getD e.toNat a_.d).c_]:S5 l_))else S8 h
theorem ZyP:∀{g h o j e},LH z Tryz.f296 qJ (SY g h o j e) (ol 99999 37 4 l_.c l_.d) oH ⟨[(3,.one (.p8 3 e.length)),(6,(Yn h)),(tG o),(sG j)],[(oj 3 37 4 l_.c l_.d e)]⟩:=@qv _ kZ λt=>by intro h o j e;exact kB (kN<|kM 2 3 l_.E ([(uJ h j).c_]:S5 l_)<|kA 2 4 l_.E<|tA 14 [(16,3)] t) (r7 Ce S_)
def SB(d:S5 a_):S6 (S5 l_):=SY (((S7 d:Int)-(0:Int)).toNat+2) d (S7 d:Int) (0:Int) ([])
instance{e}:pC (SB e) (eH 296 [] [Yn e] Nh oH):=sE Tryz.func296 (rj 8 [] [] [] [] [(3,3,37,4,pw l_.c l_.d [])] [] ZyP)
instance{d}:o0 (SB d) (eS 296 [Yn d] Yo):=o0.of λr h=>(show rX _ _ _ _ _ _ from pC.ok h).pure
def ZhO(h:S5 a_)(d:qA):S6 (o7 Unit):=(LQ h Tm).bind λj=>bif(decide (j>0))then(SB h).bind λo=>tb (SD d o) λt e=>tb (CR e (2:Int) (US .i64 (0-j)) Tm) λu g=>S8 (o7.ret () g)else S8 (o7.ret () d)
theorem Zpc{g}{e}:LO z Tryz.f233 [1,1,1] (ZhO g e) tQ ⟨[Ft,(3,(Yn g))],(qF e)⟩:=f'<|kB (f'<|rI λ_ _=>rI λ_ _=>qy) qy
def ZmV(j:sq)(o:qA)(t e:S5 a_):S6 (o7 Unit):=(SB e).bind λu=>tb (PD j o t u) λy d=>(LQ e Tl).bind λh=>bif(decide (h>0))then tb (CR d (1:Int) (US .i64 (0-h)) Tm) λA g=>ZhO e g else ZhO e d
instance{d e g h}:qg (ZmV d e g h) 233 (qF e) [.agg (sq.c d),.one tc,Yn g,Yn h] tQ:=kO Tryz.func233 (f'<|rI λ_ _=>f'<|kB (rI λ_ _=>kL 11 Zpc) (kL 11 Zpc))
def ZkL(g:sq)(D:qA):S6 (o7 (oZ×Bool)):=tb (J5 g D) λe h=>bif(decide (e.2<(0:Int)))then(J0 (6:Int)).bind λF=>S8 (o7.ret (F,Tl) h)else f_ (0<=e.2/\e.2<((e.1.length:Nat):Int))<|(Zis g (e.1.getD e.2.toNat a_.d)).bind λj=>bif(!j.2)then tb (Mc g h e.2 j.1) λG o=>(LP j.1.qa).bind λH=>S8 (o7.ret ((oZ.mk 0 (l_.mk (oV.mk Tm 0 0) 0) H 0 []),Tm) o)else(OT g.fx.c_.b_).bind λA=>tb (ZmU g h A) λt u=>(ZqJ e.1 A).bind λB=>tb (ZmV g u e.1 B.1) λI y=>S8 (o7.ret ((oZ.mk 0 g.fx.c_ ((B.1.length:Nat):Int) t []),Tl) y)
instance{e g}:qg (ZkL e g) 150 (qF g) (Cg e) Fx:=kO Tryz.func150 (rI λ_ _=>kB (f'<|qy) (kN<|f'<|kB (rI λ_ _=>f'<|ya [] uI []) (f'<|rI λ_ _=>f'<|rI λ_ _=>ya [] uI [])))
def ZlF(h:sq)(a1:qA):S6 (o7 oZ):=tb (J5 h a1) λe j=>bif(decide (e.2<(0:Int)))then(AB h).bind λx2=>tb (uT j x2 Tl) λm7 G=>(J0 (6:Int)).bind λx4=>S8 (o7.ret x4 G)else f_ (0<=e.2/\e.2<((e.1.length:Nat):Int))<|(Zis h (e.1.getD e.2.toNat a_.d)).bind λH=>bif(!H.2)then tb (Mc h j e.2 H.1) λx6v I=>(AB h).bind λx7=>tb (uT I x7 Tm) λx8v J=>(LP H.1.qa).bind λx9=>S8 (o7.ret (oZ.mk 0 (l_.mk (oV.mk Tm 0 0) 0) x9 0 []) J)else(AB h).bind λo=>tb (uT j o Tm) λL t=>tb (zN t (0:Int) Tm) λM u=>tb (zN u (1:Int) Tm) λO y=>tb (ZkL h y) λg A=>tb (uT A o g.2) λU B=>tb (uT B (1:Int) Tm) λW D=>tb (uT D (0:Int) Tm) λZ F=>S8 (o7.ret g.1 F)
instance{g h}:qg (ZlF g h) 73 (qF h) (Cg g) tu:=kO Tryz.func73 (rI λ_ _=>kB (f'<|kH BZ<|ri λ_ _=>f'<|qy) (kN<|f'<|kB (rI λ_ _=>f'<|kH BZ<|ri λ_ _=>f'<|ya [] uI []) (kCq λ_ e=>kH BZ<|ri λ_ _=>ri λ_ _=>ri λ_ _=>rI λ_ _=>kJ e<|kH BZ<|ri λ_ _=>ri λ_ _=>ri λ_ _=>qy)))
def Pc(d:a_)(g:Int):S6 a_:=(zt g).bind λe=>S8 (a_.mk d.c_ d.tL d.pK d.qa d.p_ (if e>d.qo then e else d.qo))
instance{d e}:o0 (Pc d e) (eS 151 [.agg (si d),Yj e] zP):=kS Tryz.func151 (f'<|i_)
def OO(d:a_)(e:Int):S6 a_:=bif(decide (e>=(1:Int)))then bif(decide (e<=(1048576:Int)))then bif(d.p_==(0:Int))then S8 (a_.mk d.c_ d.tL d.pK d.qa e d.qo)else bif(decide (e<d.p_))then S8 (a_.mk d.c_ d.tL d.pK d.qa e d.qo)else S8 d else S8 d else S8 d
instance{d e}:o0 (OO d e) (eS 152 [.agg (si d),Yj e] zP):=kS Tryz.func152 (kB (kB (kB (kK Tl<|i_) (kB i_ i_)) (kK Tm<|i_)) (kK Tm<|kK Tm<|i_))
def ZmT(g:sq)(G:qA):S6 (o7 oZ):=tb (J5 g G) λe h=>bif(decide (e.2<(0:Int)))then(AB g).bind λH=>tb (uT h H Tl) λI t=>(J0 (6:Int)).bind λJ=>S8 (o7.ret J t)else f_ (0<=e.2/\e.2<((e.1.length:Nat):Int))<|(Pc (e.1.getD e.2.toNat a_.d) g.fx.pE).bind λL=>bif(g.fx.d_==(11:Int))then(OO (e.1.getD e.2.toNat a_.d) g.fx.qz).bind λB=>tb (Mc g h e.2 B) λM u=>(AB g).bind λO=>tb (uT u O Tm) λU y=>S8 (o7.ret (oZ.mk 0 (l_.mk (oV.mk Tm 0 0) 0) B.p_ 0 []) y)else tb (Mc g h e.2 L) λD j=>(AB g).bind λA=>tb (uT j A Tm) λF o=>S8 (o7.ret (oZ.mk 0 (l_.mk (oV.mk Tm 0 0) 0) 0 0 []) o)
instance{e g}:qg (ZmT e g) 74 (qF g) (Cg e) tu:=kO Tryz.func74 (rI λ_ _=>kB (f'<|kH BZ<|ri λ_ _=>f'<|qy) (sB λh=>f'<|kB (kH h<|f'<|rI λ_ _=>f'<|kH BZ<|ri λ_ _=>ya [] uI []) (rI λ_ _=>f'<|kH BZ<|ri λ_ _=>ya [] uI [])))
def JU(e:p5)(d:pD):S6 vo:=(LJ d).bind λg=>bif(!g)then S8 (vo.GU (sq.mk e d))else bif(d.d_==(2:Int))then S8 (vo.KW (sq.mk e d))else bif(d.d_==(5:Int))then S8 (vo.KV (sq.mk e d))else bif(d.d_==(11:Int))then bif(d.d_==(11:Int))then S8 (vo.Js (sq.mk e d))else S8 (vo.GU (sq.mk e d))else bif(d.d_==(12:Int))then S8 (vo.Js (sq.mk e d))else S8 (vo.GU (sq.mk e d))
instance{d e}:o0 (JU d e) (eS 31 (Ij d e) λr=>.one (vo.c r)):=kS Tryz.func31 (f'<|kB i_ (kB i_ (kB i_ (kB (kB i_ i_) (kB i_ i_)))))
def Pn(g:Int)(h:Bool)(d:p5)(e:pD):S6 vo:=bif h then(ZuJ d e).bind λu=>S8 u else bif(g==(6:Int))then bif(g==(6:Int))then(Hl d e).bind λy=>S8 y else(JU d e).bind λA=>S8 A else bif(g==(7:Int))then bif(g==(7:Int))then(Hl d e).bind λB=>S8 B else(JU d e).bind λD=>S8 D else bif(g==(8:Int))then bif(g==(8:Int))then(Hl d e).bind λF=>S8 F else(JU d e).bind λG=>S8 G else bif(g==(9:Int))then bif(g==(9:Int))then(Hl d e).bind λH=>S8 H else(JU d e).bind λj=>S8 j else bif(g==(10:Int))then(Hl d e).bind λo=>S8 o else(JU d e).bind λt=>S8 t
theorem Zpv{t g d e}:LS z Tryz.f10 [1,0,1,0,1,1,1] (Pn t g d e) (λr=>.one (vo.c r)) ⟨[(2,.one (.ptr 2 0)),(3,.one (.ptr 3 0)),(6,(Yj t)),(12,(Yk g))],[(2,.box (p5.c d)),(3,.box (pD.c e))]⟩:=by
 unfold Pn;exact kB (kC λu=>(by cases u<;>exact i_)) (kB (kB (kC λy=>(by cases y<;>exact i_)) (kC λA=>(by cases A<;>exact i_))) (kB (kB (kC λB=>(by cases B<;>exact i_)) (kC λD=>(by cases D<;>exact i_))) (kB (kB (kC λF=>(by cases F<;>exact i_)) (kC λG=>(by cases G<;>exact i_))) (kB (kB (kC λH=>(by cases H<;>exact i_)) (kC λh=>(by cases h<;>exact i_))) (kB (kC λj=>(by cases j<;>exact i_)) (kC λo=>(by cases o<;>exact i_)))))))
def JR(e:p5)(d:pD):S6 vo:=bif(d.d_==(1:Int))then(ZsF e d).bind λg=>S8 g else bif(d.d_==(3:Int))then Pn d.d_ (d.d_==(3:Int)) e d else bif(d.d_==(4:Int))then Pn d.d_ (d.d_==(4:Int)) e d else Pn d.d_ (d.d_==(13:Int)) e d
instance{d e}:o0 (JR d e) (eS 10 [.agg (p5.c d),.agg (pD.c e)] λr=>.one (vo.c r)):=kS Tryz.func10 (by
 unfold JR
 exact kB (kC λg=>(by cases g<;>exact i_)) (kB (kL 14 Zpv) (kB (kL 17 Zpv) (kL 17 Zpv))))
def yI:o7 oZ->s8 | .ret x _=>⟨pU.d,x,Tl,Tm⟩ | .uF op=>⟨op,oZ.d,Tm,Tm⟩ | .bad _=>⟨pU.d,oZ.d,Tm,Tl⟩
def ZTj:S5 C:=[.lit (.int .i64 (0)),.lit (.int .i64 (0)),.lit (.int .i64 (0)),.lit (.int .i64 (0)),.lit (.int .i64 (0)),.lit (.int .i64 (0)),.lit (.int .i64 (0)),.lit (.int .i64 (0)),.lit (.bool Tm),.lit (.int .u64 (0)),.lit (.int .u64 (0)),.lit (.int .i64 (0)),.lit (.bool Tm),.lit (.int .i64 (0)),.lit (.int .i64 (0)),.lit (.int .i64 (0)),.lit (.int .i64 (0)),.lit (.int .i64 (0)),.lit (.slice S_ 0 0),.lit (.slice S_ 0 0),.lit (.bool Tm),.lit (.int .i64 (0)),.lit (.bool Tm),.lit (.int .u64 (0)),.lit (.int .u64 (0)),.lit (.int .i64 (0)),.lit (.int .i64 (0)),.lit (.int .i64 (0)),.lit (.slice S_ 0 0),.lit (.bool Tm),.lit (.bool Tm)]
def acz:S5 (Nat×C):=[(18,cL 5 oD.c oD.d []),(19,cL 7 k_.c k_.d [])]
def acA:S5 (Nat×C):=[(28,cL 10 a_.c a_.d [])]
theorem al8:∀w,(do eqGuard .eql 20 (.tmp 4) (.const .nilIface) .nilIface .nilIface;binOp .eql 20 .nilIface .nilIface:Sem Value).run W8 w=.ok (.bool Tl) w:=by
 intro w;have hg:(eqGuard .eql 20 (.tmp 4) (.const .nilIface) .nilIface .nilIface).run W8 w=.ok () w:=by simp[eqGuard]
 rw[Sem.run_bind,hg,Result.andThen_ok];have h:∀d:Nat,(Op.equalIn (d+1) 20 .nilIface .nilIface).run W8 w=.ok Tl w:=λd=>by simp[Op.equalIn,run_underlying Tryz.underlying20]
 simp only[binOp];simp[Op.equal,Op.maxDepth,h 9999]
theorem ZIu(x:oZ)(g:qA):MJ W8 27 (ZTj.take 21++oZ.c x++[.lit (.bool Tl),.lit AO]) S_ (s8.c (yI (.ret x g))):=by
 intro no S m w hS bu pQ;refine ZDf (i:=0) (d:=4) (xv:=.one (.lit .nilIface)) (x:=.nilIface) (u':=.returning) Yz rfl (λρ w=>by simp[go_sem]) rfl rfl rfl (by kernel_rfl) (by kernel_rfl) hS bu pQ (λc₀ cs hu=>by cases c₀;cases hu;simp[recoverD]) oI.lit rfl ?_;exact ZFn BV 6 [rA [(0,.r (Yk Tl) [])],rz] [Tl] (og [(100000,acz)] [] [100000]) (oy al8 (oW Tl)) (by kernel_rfl)
theorem ZPy(op:pU):MJ W8 27 ZTj (S8 (.one (.ve 83 21 (λi=>(pU.c op).getD i .oF)))) (s8.c (yI (.uF op))):=by
 intro no S m w hS bu pQ x hx;refine ZDf (i:=0) (d:=4) (xv:=_) (x:=x) (u':=.panicking [{ v:=x,recovered:=Tl }]) Yz rfl (λρ w=>by simp[go_sem]) rfl rfl rfl (by kernel_rfl) (by kernel_rfl) hS bu pQ (λc₀ cs hu=>by cases c₀;cases hu;simp[recoverD]) hx (by kernel_rfl) ?_;exact ZFn BV 11 [rz,rz,rz,rz] [Tm,Tl] (og [(100000,acA)] [] [100000]) (oy (oW Tm) (oW Tl)) (by kernel_rfl)
theorem ZPz(s:ByteArray):MJ W8 27 ZTj (S8 (.one (.th 9 (Dx s)))) (s8.c (yI (.bad s))):=by
 intro no S m w hS bu pQ x hx;refine ZDf (i:=0) (d:=4) (xv:=_) (x:=x) (u':=.panicking [{ v:=x,recovered:=Tl }]) Yz rfl (λρ w=>by simp[go_sem]) rfl rfl rfl (by kernel_rfl) (by kernel_rfl) hS bu pQ (λc₀ cs hu=>by cases c₀;cases hu;simp[recoverD]) hx (by kernel_rfl) ?_;exact ZFn BV 11 [rz,rz,rz,rz] [Tm,Tm] (og [(100000,acz++acA)] [] [100000]) (oy (oW Tm) (oW Tm)) (by kernel_rfl)
def KL(f:Func)(n:Nat):Array Oper:=match f.body with
 |some (.seq (.region _ a _) (.seq (.region _ b _) (.seq (.region _ c _) .ret)))=>([a,b,c]:S5 (Array Oper)).getD n #[]
 |_=>#[]
def acB(c:C)(d:S5 oM):S5 V:=[.one c,Yl d]
abbrev uu(a:s8):V:=.agg (s8.c a)
theorem G3{k:Nat}{c:C}{o:S6 (o7 oZ)}{args:S5 V}(d:S5 oM)(ho:∀{x},o=S8 x->Fi W8 k [(100000,.box (qA.c ⟨d⟩))] args (oc (λx=>.agg (oZ.c x)) x))(r:s8)(j:o.map yI=S8 r)
  (t:∀x g,ZMz W8 Yi.ntmps tab (KL Yi 0) (KL Yi 1) (KL Yi 2) (KL Yi 1)[0]! rz rz (rH [] [(5,⟨[(100000,9)],[],(qF g),.agg (oZ.c x)⟩)]) (acB c d) 5 4 27=S8 (ZTj.take 21++oZ.c x++[.lit (.bool Tl),.lit AO],[W8.concrete 84=Tl,rX W8 k [(100000,.box (qA.c ⟨d⟩))] args (qF g) (.agg (oZ.c x))]):=by intros;kernel_rfl)
  (e:∀pv,ZMA W8 Yi.ntmps tab (KL Yi 0) (KL Yi 1) (KL Yi 2) (KL Yi 1)[0]! rz rz rz (acB c d) 5 4 27 5 ⟨[(100000,9)],pv⟩=S8 (ZTj,[W8.concrete 84=Tl,Ao W8 k [(100000,.box (qA.c ⟨d⟩))] args pv]):=by intros;kernel_rfl):wc W8 9 [.one c,Yl d] (uu r):=by
 obtain⟨o',h,rfl⟩:=TD.1 j;have ho:=ho h;have bW:∀p w,(invoke (.fn (.func 27) #[p]) #[]).run W8 w=.ok (.enter 27 #[p]) w:=λp w=>by simp[go_sem]
 have cc:W8.concrete 84=Tl:=by kernel_rfl
 cases o' with
 |ret x g=>exact wc.acp _ _ _ 5 4 27 BV Yt rfl rfl rfl rfl rfl rfl (λρ w p h=>by simp[go_sem,h]) (by kernel_rfl) bW rfl rfl (oy cc ho) (t x g) (ZIu x g) (by kernel_rfl) (by kernel_rfl) (by kernel_rfl)
 |uF op=>exact wc.Ja _ _ _ 5 4 27 5 _ BV Yt rfl rfl rfl rfl rfl rfl (λρ w p h=>by simp[go_sem,h]) (by kernel_rfl) bW rfl rfl (oy cc ho) (e _) (ZPy op) (by kernel_rfl) (by kernel_rfl) (by kernel_rfl)
 |bad s=>exact wc.Ja _ _ _ 5 4 27 5 _ BV Yt rfl rfl rfl rfl rfl rfl (λρ w p h=>by simp[go_sem,h]) (by kernel_rfl) bW rfl rfl (oy cc ho) (e _) (ZPz s) (by kernel_rfl) (by kernel_rfl) (by kernel_rfl)
def Gx(d:qA)(c0:xk)(c1:p5)(c2:pD):S6 (o7 oZ):=(match c0 with | .A_=>tb (ZmK (wj.mk c1 c2) d) λe g=>S8 (o7.ret e g) | .Cz=>tb (ZoW (wj.mk c1 c2) d) λh j=>S8 (o7.ret h j) | .Cy=>tb (ZmL (wj.mk c1 c2) d) λo t=>S8 (o7.ret o t) | .Cw=>tb (ZlA (wj.mk c1 c2) d) λu y=>S8 (o7.ret u y) | .Cv=>tb (ZnQ (wj.mk c1 c2) d) λA B=>S8 (o7.ret A B) | .Cu=>tb (ZnR (wj.mk c1 c2) d) λD F=>S8 (o7.ret D F))
instance{d c0 c1 c2}:qg (Gx d c0 c1 c2) 70 [(100000,.box (qA.c d))] [.one (.th 84 (.ptr 100000 0)),.one (.rp Tm 1 (λj=>([xk.c c0]:S5 C).getD (0+j) .oF)),.one (.rp Tm 16 (λj=>(p5.c c1:S5 C).getD (0+j) .oF)),.one (.rp Tm 12 (λj=>(pD.c c2:S5 C).getD (0+j) .oF))] (ov oZ.c):=kO Tryz.func70 (by
 unfold Gx
 exact(by cases c0 with|A_=>exact rI λ_ _=>qy|Cz=>exact rI λ_ _=>qy|Cy=>exact rI λ_ _=>qy|Cw=>exact rI λ_ _=>qy|Cv=>exact rI λ_ _=>qy|Cu=>exact rI λ_ _=>qy))
def En(c0:xk)(c1:p5)(c2:pD)(d:S5 oM):S6 s8:=(Gx ⟨d⟩ c0 c1 c2).map yI
theorem ZzT(c0:xk)(c1:p5)(c2:pD)(d:S5 oM)(r:s8)(e:En c0 c1 c2 d=S8 r):Yq 9 [.one (oq 70 0 3 [] [ot [xk.c c0],.rp Tm 16 (λj=>(p5.c c1:S5 C).getD (0+j) .oF),.rp Tm 12 (λj=>(pD.c c2:S5 C).getD (0+j) .oF)]),Yl d] (uu r):=by
 obtain⟨o,ho,rfl⟩:=TD.1 e;have bW:∀p w,(invoke (.fn (.func 27) #[p]) #[]).run W8 w=.ok (.enter 27 #[p]) w:=λp w=>by simp[go_sem]
 cases o with
 |ret x g=>
  refine wc.u9 ?_;exact wc.acp rz rz (rH [] [(5,⟨[(100000,9)],[],(qF g),.agg (oZ.c x)⟩)]) 5 4 27 BV Yt rfl rfl rfl rfl rfl rfl (λρ w p h=>by simp[go_sem,h]) (by kernel_rfl) bW rfl rfl
   (oy (show W8.concrete 84=Tl from by kernel_rfl) (qg.ok ho)) (by kernel_rfl) (ZIu x g) (by kernel_rfl) (by kernel_rfl) (by kernel_rfl)
 |uF op=>
  refine wc.u9 ?_;exact wc.Ja rz rz rz 5 4 27 5 ⟨[(100000,9)],.one (.ve 83 21 (λi=>(pU.c op).getD i .oF))⟩ BV Yt rfl rfl rfl rfl rfl rfl (λρ w p h=>by simp[go_sem,h]) (by kernel_rfl) bW rfl rfl
   (oy (show W8.concrete 84=Tl from by kernel_rfl) (qg.ok ho)) (by kernel_rfl) (ZPy op) (by kernel_rfl) (by kernel_rfl) (by kernel_rfl)
 |bad s=>
  refine wc.u9 ?_;exact wc.Ja rz rz rz 5 4 27 5 ⟨[(100000,9)],.one (.th 9 (Dx s))⟩ BV Yt rfl rfl rfl rfl rfl rfl (λρ w p h=>by simp[go_sem,h]) (by kernel_rfl) bW rfl rfl
   (oy (show W8.concrete 84=Tl from by kernel_rfl) (qg.ok ho)) (by kernel_rfl) (ZPz s) (by kernel_rfl) (by kernel_rfl) (by kernel_rfl)
instance (c0:xk) (c1:p5) (c2:pD) (d:S5 oM):o0 (En c0 c1 c2 d) (eS 9 [.one (.qs (.func 70) 0 3 ub (λi=>([.rp Tm 1 (λj=>([xk.c c0]:S5 C).getD (0+j) .oF),.rp Tm 16 (λj=>(p5.c c1:S5 C).getD (0+j) .oF),.rp Tm 12 (λj=>(pD.c c2:S5 C).getD (0+j) .oF)]:S5 C).getD i .oF)),Yl d] λ(r:s8)=>(uu r)):=o0.of λr e=>ZzT c0 c1 c2 d r e
def LX(c0:uS)(d:S5 oM):S6 s8:=(ZkV c0 ⟨d⟩).map yI
theorem ZzY(c0:uS)(d:S5 oM)(r:s8)(e:LX c0 d=S8 r):Yq 9 [.one (oq 63 1 0 [.uR 28 (λj=>(uS.c c0).getD j .oF)] []),Yl d] (uu r):=
 (G3 d (λh=>qg.ok h) r e).u9
instance (c0:uS) (d:S5 oM):o0 (LX c0 d) (eS 9 [.one (.qs (.func 63) 1 0 (λi=>([.uR 28 (λj=>(uS.c c0).getD j .oF)]:S5 C).getD i .oF) ub),Yl d] λ(r:s8)=>(uu r)):=o0.of λr e=>ZzY c0 d r e
def LY(c0:sM)(d:S5 oM):S6 s8:=(ZmM c0 ⟨d⟩).map yI
abbrev FB(a:sM):S5 C:=[.uR 28 (λj=>(sM.c a).getD j .oF)]
theorem ZzX(c0:sM)(d:S5 oM)(r:s8)(e:LY c0 d=S8 r):Yq 9 [.one (oq 65 1 0 (FB c0) []),Yl d] (uu r):=
 (G3 d (λh=>qg.ok h) r e).u9
abbrev IQ(a:sM):Nat → C:=λi=>((FB a):S5 C).getD i .oF
instance (c0:sM) (d:S5 oM):o0 (LY c0 d) (eS 9 [.one (.qs (.func 65) 1 0 (IQ c0) ub),Yl d] λ(r:s8)=>(uu r)):=o0.of λr e=>ZzX c0 d r e
def Pg(c0:sM)(d:S5 oM):S6 s8:=(ZnU c0 ⟨d⟩).map yI
theorem ZzW(c0:sM)(d:S5 oM)(r:s8)(e:Pg c0 d=S8 r):Yq 9 [.one (oq 66 1 0 (FB c0) []),Yl d] (uu r):=
 (G3 d (λh=>qg.ok h) r e).u9
instance (c0:sM) (d:S5 oM):o0 (Pg c0 d) (eS 9 [.one (.qs (.func 66) 1 0 (IQ c0) ub),Yl d] λ(r:s8)=>(uu r)):=o0.of λr e=>ZzW c0 d r e
def Ph(c0:sM)(d:S5 oM):S6 s8:=(ZlB c0 ⟨d⟩).map yI
theorem ZzV(c0:sM)(d:S5 oM)(r:s8)(e:Ph c0 d=S8 r):Yq 9 [.one (oq 67 1 0 (FB c0) []),Yl d] (uu r):=
 (G3 d (λh=>qg.ok h) r e).u9
instance (c0:sM) (d:S5 oM):o0 (Ph c0 d) (eS 9 [.one (.qs (.func 67) 1 0 (IQ c0) ub),Yl d] λ(r:s8)=>(uu r)):=o0.of λr e=>ZzV c0 d r e
def Pj(c0:sM)(d:S5 oM):S6 s8:=(ZmO c0 ⟨d⟩).map yI
theorem ZzU(c0:sM)(d:S5 oM)(r:s8)(e:Pj c0 d=S8 r):Yq 9 [.one (oq 68 1 0 (FB c0) []),Yl d] (uu r):=
 (G3 d (λh=>qg.ok h) r e).u9
instance (c0:sM) (d:S5 oM):o0 (Pj c0 d) (eS 9 [.one (.qs (.func 68) 1 0 (IQ c0) ub),Yl d] λ(r:s8)=>(uu r)):=o0.of λr e=>ZzU c0 d r e
def LZ(c0:sq)(d:S5 oM):S6 s8:=(ZlC c0 ⟨d⟩).map yI
abbrev FA(a:sq):S5 C:=[.uR 28 (λj=>(sq.c a).getD j .oF)]
theorem ZzS(c0:sq)(d:S5 oM)(r:s8)(e:LZ c0 d=S8 r):Yq 9 [.one (oq 71 1 0 (FA c0) []),Yl d] (uu r):=
 (G3 d (λh=>qg.ok h) r e).u9
abbrev IP(a:sq):Nat → C:=λi=>((FA a):S5 C).getD i .oF
instance (c0:sq) (d:S5 oM):o0 (LZ c0 d) (eS 9 [.one (.qs (.func 71) 1 0 (IP c0) ub),Yl d] λ(r:s8)=>(uu r)):=o0.of λr e=>ZzS c0 d r e
def Pk(c0:sq)(d:S5 oM):S6 s8:=(ZlE c0 ⟨d⟩).map yI
theorem ZzR(c0:sq)(d:S5 oM)(r:s8)(e:Pk c0 d=S8 r):Yq 9 [.one (oq 72 1 0 (FA c0) []),Yl d] (uu r):=
 (G3 d (λh=>qg.ok h) r e).u9
instance (c0:sq) (d:S5 oM):o0 (Pk c0 d) (eS 9 [.one (.qs (.func 72) 1 0 (IP c0) ub),Yl d] λ(r:s8)=>(uu r)):=o0.of λr e=>ZzR c0 d r e
def Pm(c0:sq)(d:S5 oM):S6 s8:=(ZlF c0 ⟨d⟩).map yI
theorem ZzQ(c0:sq)(d:S5 oM)(r:s8)(e:Pm c0 d=S8 r):Yq 9 [.one (oq 73 1 0 (FA c0) []),Yl d] (uu r):=
 (G3 d (λh=>qg.ok h) r e).u9
instance (c0:sq) (d:S5 oM):o0 (Pm c0 d) (eS 9 [.one (.qs (.func 73) 1 0 (IP c0) ub),Yl d] λ(r:s8)=>(uu r)):=o0.of λr e=>ZzQ c0 d r e
def L0(c0:sq)(d:S5 oM):S6 s8:=(ZmT c0 ⟨d⟩).map yI
theorem ZzP(c0:sq)(d:S5 oM)(r:s8)(e:L0 c0 d=S8 r):Yq 9 [.one (oq 74 1 0 (FA c0) []),Yl d] (uu r):=
 (G3 d (λh=>qg.ok h) r e).u9
instance (c0:sq) (d:S5 oM):o0 (L0 c0 d) (eS 9 [.one (.qs (.func 74) 1 0 (IP c0) ub),Yl d] λ(r:s8)=>(uu r)):=o0.of λr e=>ZzP c0 d r e
def Hj(L:p5)(e:rU):S6 s8:=f_ (0<=e.qM/\e.qM<(S7 e.pZ:Int))<|(JR L (e.pZ.getD e.qM.toNat pD.d)).bind λM=>(match M with | .Eb g h j=>(En g h j e.qm).bind λO=>S8 O | .K2 u=>(LX u e.qm).bind λU=>S8 U | .Jt y=>(LY y e.qm).bind λW=>S8 W | .KZ A=>(Pg A e.qm).bind λZ=>S8 Z | .KY B=>(Ph B e.qm).bind λx7=>S8 x7 | .KX D=>(Pj D e.qm).bind λx8=>S8 x8 | .GU F=>(LZ F e.qm).bind λx9=>S8 x9 | .KW G=>(Pk G e.qm).bind λH=>S8 H | .KV o=>(Pm o e.qm).bind λI=>S8 I | .Js t=>(L0 t e.qm).bind λJ=>S8 J)
instance{F G}:o0 (Hj F G) (eS 33 [.agg (p5.c F),.agg (rU.c G)] (ov s8.c)):=kS Tryz.func33 (by
 unfold Hj
 exact kN<|kC λH=>(by cases H with|Eb d e g=>exact f'<|i_|K2 o=>exact f'<|i_|Jt t=>exact f'<|i_|KZ u=>exact f'<|i_|KY y=>exact f'<|i_|KX A=>exact f'<|i_|GU B=>exact f'<|i_|KW D=>exact f'<|i_|KV h=>exact f'<|i_|Js j=>exact f'<|i_))
def LD(g:p5)(e:rU):S6 (pU×Bool):=(LF e).bind λh=>bif h then S8 ((pU.mk 0 0 (pM.mk 0 0 0) 0 0 (oM.mk 0 (a_.mk (l_.mk (oV.mk Tm 0 0) 0) Tm 0 (pW.mk 0 0) 0 0) [] []) Tm),Tm)else(Hj g e).bind λd=>bif(!d.zx)then S8 (d.s',(!d.qC))else S8 (d.s',Tm)
instance{e g}:o0 (LD e g) (eS 12 [.agg (sg e),.agg (rU.c g)] λr=>.qw [(Tl,pU.c r.1),(Tm,cB r.2)]):=kS Tryz.func12 (f'<|kB (kR [] [(4,wZ)] []) (f'<|kB i_ i_))
def Zda(d:S5 oM):S6 (S5 oM):=f_ (0<S7 d)<|f_ ((([]:S5 oM)++d).length * 136<=140737488355328/\(([]:S5 oM)++d).length<=maxLen)<|some (([]:S5 oM)++d)
abbrev Fm:S5 oM:=([]:S5 oM)
abbrev Np:RA:=rA [(0,.c (Fm).length (pw oM.c oM.d []))]
instance{g}:pC (Zda g) (eH 35 [] [Yl g] (λr=>[(99999,.rows 45 13 r.length (pw oM.c oM.d r))]) oH):=sE YF (kN<|kK Tm<|kH (show (Fm).length=0 from rfl)<|kH (show ∀i j,i<0->j<13->pw oM.c oM.d [] i j=((Fm).flatMap oM.c).getD (i * 13+j) .oF from(λi j hi hj=>vJ (sz:=13) (e:=oM.c) (d:=oM.d) (λ_=>rfl) [] i j hi hj))<|kA 2 2 oM.E<|kX 2 Np<|r7 Ci S_)
def Zcl(d:S5 oM):S6 (S5 oM):=f_ (S7 d * 136<=140737488355328/\S7 d<=maxLen)<|some d
instance{e}:pC (Zcl e) (eH 35 [] [Yl e] (λr=>[(99999,.rows 45 13 r.length (pw oM.c oM.d r))]) λr=>.one (.p8 99999 r.length)):=pC.of (Lp (gn:=Zda) YF (by kernel_rfl) Tryz.underlying28 (λ_ _ _=>by kernel_rfl) (λ_ _=>by kernel_rfl) (λ_ _ h=>show rX _ _ _ _ _ _ from pC.ok h) (λl h o=>by unfold Zda;rw[CO h,CO (by simpa using o)];simp) e)
def Zdb(d:S5 oZ):S6 (S5 oZ):=f_ (0<S7 d)<|f_ ((([]:S5 oZ)++d).length * 80<=140737488355328/\(([]:S5 oZ)++d).length<=maxLen)<|some (([]:S5 oZ)++d)
abbrev Fl:S5 oZ:=([]:S5 oZ)
abbrev ab0:RA:=rA [(0,.c (Fl).length (pw oZ.c oZ.d []))]
instance{g}:pC (Zdb g) (eH 36 [] [.one (cL 8 oZ.c oZ.d g)] (λr=>[(99999,.rows 53 8 r.length (pw oZ.c oZ.d r))]) oH):=sE YE (kN<|kK Tm<|kH (show (Fl).length=0 from rfl)<|kH (show ∀i j,i<0->j<8->pw oZ.c oZ.d [] i j=((Fl).flatMap oZ.c).getD (i * 8+j) .oF from(λi j hi hj=>vJ (sz:=8) (e:=oZ.c) (d:=oZ.d) (λ_=>rfl) [] i j hi hj))<|kA 2 2 oZ.E<|kX 2 ab0<|r7 Ci S_)
def Zcm(d:S5 oZ):S6 (S5 oZ):=f_ (S7 d * 80<=140737488355328/\S7 d<=maxLen)<|some d
instance{e}:pC (Zcm e) (eH 36 [] [.one (cL 8 oZ.c oZ.d e)] (λr=>[(99999,.rows 53 8 r.length (pw oZ.c oZ.d r))]) λr=>.one (.p8 99999 r.length)):=pC.of (Lp (gn:=Zdb) YE (by kernel_rfl) Tryz.underlying67 (λ_ _ _=>by kernel_rfl) (λ_ _=>by kernel_rfl) (λ_ _ h=>show rX _ _ _ _ _ _ from pC.ok h) (λl h o=>by unfold Zdb;rw[CO h,CO (by simpa using o)];simp) e)
def JS(o:p5)(d:rU)(e:oM):S6 (rU×Bool):=(LF d).bind λt=>bif t then S8 (d,Tm)else(Zcl d.qm).bind λg=>f_ ((g++([e]:S5 oM)).length * 136<=140737488355328/\(g++([e]:S5 oM)).length<=maxLen)<|(Hj o (rU.mk d.pZ d.qM (g++([e]:S5 oM)) d.pA d.qC)).bind λh=>bif h.qC then S8 ((rU.mk d.pZ d.qM (g++([e]:S5 oM)) d.pA Tl),Tm)else bif(!h.zx)then S8 ((rU.mk d.pZ d.qM (g++([e]:S5 oM)) d.pA d.qC),Tm)else(Zcm d.pA).bind λj=>f_ ((j++([h.ss]:S5 oZ)).length * 80<=140737488355328/\(j++([h.ss]:S5 oZ)).length<=maxLen)<|some ((rU.mk d.pZ (n_ d.qM (1:Int)) [] (j++([h.ss]:S5 oZ)) d.qC),Tl)
abbrev Ni:RA:=⟨[],[],[(2,[17])],[],[],[],[]⟩
instance{g h e}:o0 (JS g h e) (eS 17 [.agg (sg g),.agg (rU.c h),.agg (oM.c e)] λr=>.qw [(Tl,rU.c r.1),(Tm,cB r.2)]):=kS Tryz.func17 (f'<|kB i_ (kD 2 2 [] [(99999,14)] λ_=>kM 2 4 oM.E ([e]:S5 oM)<|kA 2 5 oM.E<|kC λj=>kB (kX 3 Ni<|i_) (kB (kX 3 Ni<|i_) (kD 6 2 [] [(99999,34)] λ_=>kM 6 5 oZ.E ([j.ss]:S5 oZ)<|kA 6 6 oZ.E<|kX 3 Ni<|kR [38] [(6,[Il])] []))))
def PH:S6 Bool:=(ZqB).bind λg=>(ZwD ([(pD.mk 1 (l_.mk (oV.mk Tm 0 0) 0) (pn.mk (oV.mk Tm 0 0) 0) 0 0 Tm),(pD.mk 0 (l_.mk (oV.mk Tm 0 0) 0) (pn.mk (oV.mk Tm 0 0) 0) 0 0 Tm)]:S5 pD)).bind λh=>(LD g h).bind λj=>(JS g h (oM.mk 0 (a_.mk (l_.mk (oV.mk Tm 0 0) 0) Tm 0 (pW.mk 0 0) 0 0) [] [])).bind λe=>bif(j.1.d_==(8:Int))then bif j.2 then bif e.2 then bif(e.1.qM==(1:Int))then bif(((e.1.pA.length:Nat):Int)==(1:Int))then f_ (0<=(0:Int)/\(0:Int)<((e.1.pA.length:Nat):Int))<|bif((e.1.pA.getD (0:Int).toNat oZ.d).vX==(1:Int))then(LF e.1).bind λo=>S8 (!o)else S8 Tm else S8 Tm else S8 Tm else S8 Tm else S8 Tm else S8 Tm
abbrev Cd:RA:=⟨[],[],[],[],[(2,xE)],[],[]⟩
abbrev Ip:oV:=oV.mk Tm 0 0
instance:o0 (PH) (eS 6 [] Yk):=kS Tryz.func6 (f'<|kM 2 2 pD.E ([(pD.mk 1 (l_.mk Ip 0) (pn.mk Ip 0) 0 0 Tm),(pD.mk 0 (l_.mk Ip 0) (pn.mk Ip 0) 0 0 Tm)]:S5 pD)<|f'<|f'<|f'<|kB (kB (kB (kB (kB (kN<|kB (f'<|kX 4 Cd<|i_) (kX 4 Cd<|i_)) (kK Tm<|kX 4 Cd<|i_)) (kK Tm<|kK Tm<|kX 4 Cd<|i_)) (kK Tm<|kK Tm<|kK Tm<|kX 4 Cd<|i_)) (kK Tm<|kK Tm<|kK Tm<|kK Tm<|kX 4 Cd<|i_)) (kK Tm<|kK Tm<|kK Tm<|kK Tm<|kK Tm<|kX 4 Cd<|i_))
def ZjV(d:Int):S6 ByteArray:=bif(decide (d<1))then S8 (⟨#[]⟩ : ByteArray)else bif(decide (d>13))then S8 (⟨#[]⟩ : ByteArray)else f_ (0<=d/\d<((([(⟨#[]⟩ : ByteArray),(⟨#[101,116]⟩ : ByteArray),(⟨#[101]⟩ : ByteArray),(⟨#[116]⟩ : ByteArray),(⟨#[101,103,116,107]⟩ : ByteArray),(⟨#[101,107,116]⟩ : ByteArray),(⟨#[110,107,116]⟩ : ByteArray),(⟨#[110]⟩ : ByteArray),(⟨#[97,116]⟩ : ByteArray),(⟨#[116]⟩ : ByteArray),(⟨#[]⟩ : ByteArray),(⟨#[101,107]⟩ : ByteArray),(⟨#[101,116]⟩ : ByteArray),(⟨#[101,116]⟩ : ByteArray)]:S5 ByteArray).length:Nat):Int))<|some (([(⟨#[]⟩ : ByteArray),(⟨#[101,116]⟩ : ByteArray),(⟨#[101]⟩ : ByteArray),(⟨#[116]⟩ : ByteArray),(⟨#[101,103,116,107]⟩ : ByteArray),(⟨#[101,107,116]⟩ : ByteArray),(⟨#[110,107,116]⟩ : ByteArray),(⟨#[110]⟩ : ByteArray),(⟨#[97,116]⟩ : ByteArray),(⟨#[116]⟩ : ByteArray),(⟨#[]⟩ : ByteArray),(⟨#[101,107]⟩ : ByteArray),(⟨#[101,116]⟩ : ByteArray),(⟨#[101,116]⟩ : ByteArray)]:S5 ByteArray).getD d.toNat ByteArray.empty)
abbrev M6:ByteArray:=(⟨#[101,116]⟩ : ByteArray)
instance{d}:o0 (ZjV d) (eS 77 [Yj d] λr=>.one (Dx r)):=kS Tryz.func77 (kM 1 0 ⟨1,cS,ByteArray.empty⟩ ([(⟨#[]⟩ : ByteArray),M6,(⟨#[101]⟩ : ByteArray),(⟨#[116]⟩ : ByteArray),(⟨#[101,103,116,107]⟩ : ByteArray),(⟨#[101,107,116]⟩ : ByteArray),(⟨#[110,107,116]⟩ : ByteArray),(⟨#[110]⟩ : ByteArray),(⟨#[97,116]⟩ : ByteArray),(⟨#[116]⟩ : ByteArray),(⟨#[]⟩ : ByteArray),(⟨#[101,107]⟩ : ByteArray),M6,M6]:S5 ByteArray)<|kB (kK Tl<|i_) (kB i_ (kN<|i_)))
def CV(d:oV):S6 Bool:=bif(!d.qt)then bif(d.rk==(0:Int))then S8 (decide (d.qX<4294967296))else S8 Tm else bif(d.rk != (0:Int))then S8 Tl else S8 ((US .u64 (Yc d.qX (4294967296:Int))) != (65535:Int))
abbrev Ii:Int:=(4294967296:Int)
instance{d}:o0 (CV d) (eS 80 (yj d) Yk):=kS Tryz.func80 (kB (kB i_ i_) (kB i_ (kH (show Ii≠0 from(by decide))<|i_)))
def ZhX(d:l_):S6 Bool:=(CV d.b_).bind λe=>bif e then bif(decide (d.qE>0))then S8 (decide (d.qE<65536))else S8 Tm else S8 Tm
instance{d}:o0 (ZhX d) (eS 78 [.agg (l_.c d)] Yk):=kS Tryz.func78 (f'<|kB (kB i_ i_) (kK Tm<|i_))
def Dr(d:oV):S6 Int:=bif d.qt then S8 (128:Int)else S8 (32:Int)
instance{d}:o0 (Dr d) (eS 153 (yj d) Yj):=kS Tryz.func153 (kB i_ i_)
def Kh(d e:Int)(g:oV):S6 Int:=bif(!g.qt)then f_ (0<=(US .u64 (pR (31:Int) d)))<|some (US .i64 (US .u64 (((Tz (UB .u64) (Xo e (2 ^ (min (US .u64 (pR (31:Int) d)).toNat (UB .u64))))) &&& (Tz (UB .u64) (1:Int))).toNat:Int)))else f_ (0<=(US .u64 (pR (63:Int) (XZ d (64:Int)))))<|some (US .i64 (US .u64 (((Tz (UB .u64) (Xo e (2 ^ (min (US .u64 (pR (63:Int) (XZ d (64:Int)))).toNat (UB .u64))))) &&& (Tz (UB .u64) (1:Int))).toNat:Int)))
theorem Zko{e}{g d}:LS z Tryz.f154 [1,1,1,1] (Kh e g d) Yj ⟨[(q7 e),tH,(5,.one (qT g))],[(2,.box (rR d))]⟩:=kH (show (64:Int)≠0 from(by decide))<|kB (kN<|i_) (kN<|i_)
def CT(d:oV)(e:Int):S6 Int:=bif(decide (e<0))then S8 (0:Int)else(Dr d).bind λg=>bif(decide (e>=g))then S8 (0:Int)else bif d.qt then bif(decide (e<64))then Kh e d.rk d else Kh e d.qX d else Kh e d.qX d
instance{d e}:o0 (CT d e) (eS 154 [.agg (rR d),Yj e] Yj):=kS Tryz.func154 (kB (kK Tl<|i_) (f'<|kB i_ (kB (kB (kL 14 Zko) (kL 14 Zko)) (kK Tm<|kL 14 Zko))))
def Zgh:Nat->Int->pn->S6 Bool|0,_,_=>S_|fu+1,d,e=>(Dr e.b_).bind λg=>bif(decide (d<g))then(CT e.b_ d).bind λh=>bif(h==(1:Int))then S8 Tm else Zgh fu (n_ d 1) e else S8 Tl
theorem Zso:∀{e g d},LS z Tryz.f79 qJ (Zgh e g d) Yk ⟨[y_,(sO g)],[(1,.box (sj d))]⟩:=@qv _ kZ λh=>f'<|kB (f'<|kB i_ (kL 15 h)) i_
def PI(d:pn):S6 Bool:=(CV d.b_).bind λe=>bif(!e)then S8 Tm else bif(decide (d.oR<0))then S8 Tm else(Dr d.b_).bind λg=>bif(decide (d.oR>g))then S8 Tm else Zgh 1000000 d.oR d
instance{d}:o0 (PI d) (eS 79 [.agg (sj d)] Yk):=kS Tryz.func79 (f'<|kB (kK Tl<|kK Tl<|i_) (kB (kK Tl<|i_) (f'<|kB i_ (kL 11 Zso))))
def Ex(h j:Int)(e:pD):Nat->ByteArray->Int->S6 Bool|0,_,_=>S_|fu+1,g,d=>bif(decide (d<((g.size:Nat):Int)))then f_ (0<=d/\d<((g.size:Nat):Int))<|bif(((Ai g d.toNat:Nat):Int)==(101:Int))then(ZhX e.c_).bind λo=>bif(!o)then S8 Tm else Ex h j e fu g (n_ d 1)else bif(((Ai g d.toNat:Nat):Int)==(110:Int))then(PI e.g_).bind λt=>bif(!t)then S8 Tm else Ex h j e fu g (n_ d 1)else bif(((Ai g d.toNat:Nat):Int)==(97:Int))then(CV e.c_.b_).bind λu=>bif(!u)then S8 Tm else Ex h j e fu g (n_ d 1)else bif(((Ai g d.toNat:Nat):Int)==(116:Int))then bif(decide (e.pE<0))then S8 Tm else bif(decide (e.pE>1099511627776))then S8 Tm else Ex h j e fu g (n_ d 1)else bif(((Ai g d.toNat:Nat):Int)==(107:Int))then bif(decide (e.qz<h))then S8 Tm else bif(decide (e.qz>j))then S8 Tm else Ex h j e fu g (n_ d 1)else Ex h j e fu g (n_ d 1)else S8 Tl
theorem Zsd{h j d}:∀{g o t},LS z YI [1,1,1,1,1,0,1,0] (Ex h j d g o t) Yk ⟨[y_,(sO h),(4,(Yj j)),(5,.one (Dx o)),(uV t)],[(1,.box (pD.c d))]⟩:=@qv _ kZ λe=>kB (kN<|kB (f'<|kB i_ (kL 22 e)) (kB (f'<|kB i_ (kL 25 e)) (kB (f'<|kB i_ (kL 28 e)) (kB (kB (kK Tl<|i_) (kB i_ (kL 31 e))) (kB (kB (kK Tl<|i_) (kB i_ (kL 34 e))) (kL 31 e)))))) i_
def Qf(g h:Int)(d:pD):S6 Bool:=(ZjV d.d_).bind λe=>Ex g h d ((((e.size:Nat):Int)-(0:Int)).toNat+2) e (0:Int)
theorem Zgw{e g d}:LS z YI [1,1,1,1] (Qf e g d) Yk ⟨[y_,(sO e),(4,(Yj g))],[(1,.box (pD.c d))]⟩:=f'<|kL 6 Zsd
def Mi(d:pD):S6 Bool:=bif(decide (d.d_<1))then S8 Tm else bif(decide (d.d_>13))then S8 Tm else bif(d.d_==(5:Int))then Qf (1:Int) (5:Int) d else bif(d.d_==(6:Int))then Qf (1:Int) (1099511627776:Int) d else bif(d.d_==(11:Int))then Qf (1:Int) (1048576:Int) d else Qf (0:Int) (1073741824:Int) d
instance{d}:o0 (Mi d) (eS 37 [.agg (pD.c d)] Yk):=kS Tryz.func37 (kB (kK Tl<|i_) (kB i_ (kB (kL 20 Zgw) (kB (kL 23 Zgw) (kB (kL 26 Zgw) (kL 24 Zgw))))))
def Zjg(d e:pM):S6 pM:=bif(decide (d.d_<6))then S8 (pM.mk d.d_ d.uZ 0)else S8 d
theorem ZoC{d e}:LS z Tryz.f234 [1,1,1] (Zjg d e) AL ⟨[y_,tH],[(1,.box (pM.c d)),(2,.box (pM.c e))]⟩:=kB i_ i_
def ZlJ(d:pM):S6 pM:=bif(decide (d.d_<1))then S8 (pM.mk 0 0 0)else bif(decide (d.d_>6))then S8 (pM.mk 0 0 0)else bif(decide (d.d_<5))then Zjg (pM.mk d.d_ 0 d.yy) (pM.mk 0 0 0)else Zjg d (pM.mk 0 0 0)
instance{d}:o0 (ZlJ d) (eS 234 [.agg (pM.c d)] AL):=kS Tryz.func234 (kB (kK Tl<|i_) (kB i_ (kB (kL 12 ZoC) (kL 12 ZoC))))
def ZhY(e:Int)(g h d:oM):S6 oM:=bif(e==(6:Int))then S8 (oM.mk d.fN g.pN d.po d.j_)else S8 d
abbrev Nk(a:Int)(b d f:oM):St:=⟨[(0,(Yj a)),sH,sQ,zS],[(3,.box (oM.c b)),(4,.box (oM.c d)),(5,.box (oM.c f))]⟩
theorem Zna{j e g}{h}:LS z YB [1,1,1,1,1] (ZhY j e g h) B5 (Nk j e g h):=kB i_ i_
def ZhZ(e:Int)(g h d:oM):S6 oM:=bif(e==(4:Int))then ZhY e g h (oM.mk d.fN d.pN d.po g.j_)else ZhY e g h d
theorem Znb{j e g}{h}:LS z YB [1,1,1,1] (ZhZ j e g h) B5 (Nk j e g h):=kB (kL 5 Zna) (kL 5 Zna)
def Qg(e:Int)(g h d:oM):S6 oM:=bif(e==(3:Int))then ZhZ e g h (oM.mk d.fN d.pN g.po d.j_)else ZhZ e g h d
theorem Zgv{j}{e g h}:LS z YB [1,1,1] (Qg j e g h) B5 (Nk j e g h):=kB (kL 5 Znb) (kL 5 Znb)
def ZjT(d:Int)(e:oM):S6 oM:=bif(d==(1:Int))then Qg d e (oM.mk 0 (a_.mk (l_.mk (oV.mk Tm 0 0) 0) Tm 0 (pW.mk 0 0) 0 0) [] []) (oM.mk e.fN (a_.mk (l_.mk (oV.mk Tm 0 0) 0) Tm 0 (pW.mk 0 0) 0 0) [] [])else bif(d==(2:Int))then Qg d e (oM.mk 0 (a_.mk (l_.mk (oV.mk Tm 0 0) 0) Tm 0 (pW.mk 0 0) 0 0) [] []) (oM.mk e.fN (a_.mk (l_.mk (oV.mk Tm 0 0) 0) Tm 0 (pW.mk 0 0) 0 0) [] [])else bif(d==(5:Int))then Qg d e (oM.mk 0 (a_.mk (l_.mk (oV.mk Tm 0 0) 0) Tm 0 (pW.mk 0 0) 0 0) [] []) (oM.mk e.fN (a_.mk (l_.mk (oV.mk Tm 0 0) 0) Tm 0 (pW.mk 0 0) 0 0) [] [])else Qg d e (oM.mk 0 (a_.mk (l_.mk (oV.mk Tm 0 0) 0) Tm 0 (pW.mk 0 0) 0 0) [] []) (oM.mk 0 (a_.mk (l_.mk (oV.mk Tm 0 0) 0) Tm 0 (pW.mk 0 0) 0 0) [] [])
instance{e g}:o0 (ZjT e g) (eS 235 [Yj e,.agg (oM.c g)] B5):=kS Tryz.func235 (kB (kK Tl<|kK Tl<|rj 9 [] [yY,(5,xE)] [] [] [] [] Zgv) (kB (kK Tl<|rj 9 [] [yY,(5,xE)] [] [] [] [] Zgv) (kB (rj 9 [] [yY,(5,xE)] [] [] [] [] Zgv) (rj 9 [] [yY,(5,xE)] [] [] [] [] Zgv))))
def Zia(e g d:pU):S6 pU:=bif(e.d_==(7:Int))then S8 (pU.mk d.d_ d.tT d.s6 e.wI e.wJ d.qL d.rV)else S8 d
abbrev Nn(a b d:pU):St:=⟨[y_,tH,sH],[(1,.box (pU.c a)),(2,.box (pU.c b)),(3,.box (pU.c d))]⟩
theorem Znc{e g}{h}:LS z YD [1,1,1,1,1,1] (Zia e g h) (ov pU.c) (Nn e g h):=kB i_ i_
def Zgd(e g d:pU):S6 pU:=bif(e.d_==(6:Int))then(ZjT e.s6.d_ e.qL).bind λh=>Zia e g (pU.mk d.d_ d.tT d.s6 d.wI d.wJ h d.rV)else Zia e g d
theorem ZiL{e g}{h}:LS z YD [1,1,1,1,1] (Zgd e g h) (ov pU.c) (Nn e g h):=kB (f'<|kL 5 Znc) (kL 5 Znc)
def Zib(e g d:pU):S6 pU:=bif(decide (e.d_>4))then bif(decide (e.d_<8))then(ZlJ e.s6).bind λh=>Zgd e g (pU.mk d.d_ d.tT h d.wI d.wJ d.qL d.rV)else Zgd e g d else Zgd e g d
theorem Znd{e g h}:LS z YD [1,1,1,1] (Zib e g h) (ov pU.c) (Nn e g h):=kB (kB (f'<|kL 5 ZiL) (kL 5 ZiL)) (kK Tm<|kL 5 ZiL)
def ZjU(d:pU):S6 pU:=bif(decide (d.d_<1))then S8 (pU.mk 0 0 (pM.mk 0 0 0) 0 0 (oM.mk 0 (a_.mk (l_.mk (oV.mk Tm 0 0) 0) Tm 0 (pW.mk 0 0) 0 0) [] []) Tm)else bif(decide (d.d_>8))then S8 (pU.mk 0 0 (pM.mk 0 0 0) 0 0 (oM.mk 0 (a_.mk (l_.mk (oV.mk Tm 0 0) 0) Tm 0 (pW.mk 0 0) 0 0) [] []) Tm)else bif(decide (d.d_<5))then Zib d (pU.mk 0 0 (pM.mk 0 0 0) 0 0 (oM.mk 0 (a_.mk (l_.mk (oV.mk Tm 0 0) 0) Tm 0 (pW.mk 0 0) 0 0) [] []) Tm) (pU.mk d.d_ d.tT (pM.mk 0 0 0) 0 0 (oM.mk 0 (a_.mk (l_.mk (oV.mk Tm 0 0) 0) Tm 0 (pW.mk 0 0) 0 0) [] []) d.rV)else Zib d (pU.mk 0 0 (pM.mk 0 0 0) 0 0 (oM.mk 0 (a_.mk (l_.mk (oV.mk Tm 0 0) 0) Tm 0 (pW.mk 0 0) 0 0) [] []) Tm) (pU.mk d.d_ 0 (pM.mk 0 0 0) 0 0 (oM.mk 0 (a_.mk (l_.mk (oV.mk Tm 0 0) 0) Tm 0 (pW.mk 0 0) 0 0) [] []) d.rV)
instance{e}:o0 (ZjU e) (eS 155 [.agg (pU.c e)] (ov pU.c)):=kS Tryz.func155 (kB (kK Tl<|kR [] [(2,wZ)] []) (kB (kR [] [(2,wZ)] []) (kB (rj 14 [] DL [] [] [] [] Znd) (rj 14 [] DL [] [] [] [] Znd))))
def J4(e:pz)(g:pU):S6 (pz×oM):=bif e.qQ then S8 (e,(oM.mk 0 (a_.mk (l_.mk (oV.mk Tm 0 0) 0) Tm 0 (pW.mk 0 0) 0 0) [] []))else bif(decide (e.tZ<(S7 e.qm:Int)))then f_ (0<=(pR (n_ e.tZ (1:Int)) (1:Int))/\(pR (n_ e.tZ (1:Int)) (1:Int))<(S7 e.qm:Int))<|some ((pz.mk e.qm (n_ e.tZ (1:Int)) e.s' e.qQ),(e.qm.getD (pR (n_ e.tZ (1:Int)) (1:Int)).toNat oM.d))else(ZjU g).bind λh=>S8 ((pz.mk e.qm e.tZ h Tl),(oM.mk 0 (a_.mk (l_.mk (oV.mk Tm 0 0) 0) Tm 0 (pW.mk 0 0) 0 0) [] []))
abbrev rJ(a:pz):S5 C:=pz.c a
instance{e g}:o0 (J4 e g) (eS 81 [.agg (rJ e),.agg (pU.c g)] λr=>.qw [(Tl,pz.c r.1),(Tl,oM.c r.2)]):=kS Tryz.func81 (kB (kR [] [(5,xE)] []) (kB (kN<|i_) (f'<|kR [] [(5,xE)] [])))
def qn(d:pz)(e g:Int)(h:Bool):S6 pz:=(J4 d (pU.mk e g (pM.mk 0 0 0) 0 0 (oM.mk 0 (a_.mk (l_.mk (oV.mk Tm 0 0) 0) Tm 0 (pW.mk 0 0) 0 0) [] []) h)).bind λj=>S8 j.1
abbrev vK:pz → V:=ov pz.c
instance{e g h j}:o0 (qn e g h j) (eS 38 [.agg (rJ e),Yj g,Yj h,Yk j] vK):=kS Tryz.func38 (f'<|kX 1 ⟨[],[],[],[],[(4,wZ)],[],[]⟩<|i_)
def wR(e:pz)(g:pM):S6 (pz×oM):=(J4 e (pU.mk 5 0 g 0 0 (oM.mk 0 (a_.mk (l_.mk (oV.mk Tm 0 0) 0) Tm 0 (pW.mk 0 0) 0 0) [] []) Tm)).bind λd=>S8 (d.1,d.2)
instance{e g}:o0 (wR e g) (eS 39 [.agg (rJ e),.agg (pM.c g)] λr=>.qw [(Tl,pz.c r.1),(Tl,oM.c r.2)]):=kS Tryz.func39 (f'<|kX 1 abZ<|i_)
def P9:Nat->Int->pn->oV->S6 Bool|0,_,_,_=>S_|fu+1,d,e,g=>bif(decide (d<e.oR))then(CT e.b_ d).bind λh=>(CT g d).bind λj=>bif(h != j)then S8 Tm else P9 fu (n_ d 1) e g else S8 Tl
theorem ZtP:∀{e h d g},LS z Tryz.f156 qJ (P9 e h d g) Yk ⟨[tH,sH,(tt h)],[(2,.box (sj d)),(3,.box (rR g))]⟩:=@qv _ kZ λj=>kB (f'<|f'<|kB i_ (kL 15 j)) i_
def Zjn(d:pn)(e:oV):S6 Bool:=(PI d).bind λg=>bif(!g)then S8 Tm else(CV e).bind λh=>bif(!h)then S8 Tm else bif(!(d.b_.qt==e.qt))then S8 Tm else P9 1000000 (0:Int) d e
instance{d e}:o0 (Zjn d e) (eS 156 [.agg (sj d),.agg (rR e)] Yk):=kS Tryz.func156 (f'<|kB (kK Tl<|kK Tl<|i_) (f'<|kB (kK Tl<|i_) (kB i_ (kL 11 ZtP))))
def ZkU(d:oD)(e:oV)(g:Int):S6 Bool:=bif(decide (d.pq>g))then(Zjn d.g_ e).bind λh=>S8 h else S8 Tm
instance{d e g}:o0 (ZkU d e g) (eS 82 [.agg (oD.c d),.agg (rR e),Yj g] Yk):=kS Tryz.func82 (kB (f'<|i_) i_)
def HK(g:S5 oD)(h:Int):Nat->Int->Bool->Int->oV->S6 Int|0,_,_,_,_=>S_|fu+1,o,t,e,j=>bif(decide (e<(S7 g:Int)))then f_ (0<=e/\e<(S7 g:Int))<|(ZkU (g.getD e.toNat oD.d) j h).bind λu=>bif u then bif(!t)then HK g h fu ((g.getD e.toNat oD.d).pq) Tl (n_ e 1) j else bif(decide ((g.getD e.toNat oD.d).pq>o))then HK g h fu ((g.getD e.toNat oD.d).pq) Tl (n_ e 1) j else HK g h fu o t (n_ e 1) j else HK g h fu o t (n_ e 1) j else S8 o
theorem Zsl{h j}:∀{d o t u e},LS z Tryz.f40 qJ (HK h j d o t u e) Yj ⟨[(0,(Ym h)),(sV j),sQ,(tG o),(8,(Yk t)),(9,(Yj u))],[(4,.box (rR e))]⟩:=@qv _ kZ λg=>kB (sB λo2=>f'<|kB (kB (kK Tl<|kH o2<|kL 17 g) (kH o2<|kB (kH o2<|kL 17 g) (kL 15 g))) (kK Tm<|kL 15 g)) i_
def GA(d:S5 oD)(e:oV)(g:Int):S6 Int:=HK d g (((S7 d:Int)-(0:Int)).toNat+2) (0:Int) Tm (0:Int) e
instance{d e g}:o0 (GA d e g) (eS 40 [Ym d,.agg (rR e),Yj g] Yj):=kS Tryz.func40 (kL 8 Zsl)
def P8(t j o g d e:Int)(aO:Int->Int->Int->Int->S6 (Int×Int))(h:Int):S6 (Int×Int):=bif(decide ((n_ e 64)<o))then f_ (d≠0)<|bif((XZ (US .u64 (Yc j d)) (2:Int))==(1:Int))then aO h (US .u64 (g+d)) (US .u64 (Yc d (2:Int))) (n_ e 1)else aO h g (US .u64 (Yc d (2:Int))) (n_ e 1)else aO h g (US .u64 (Yc d (2:Int))) (n_ e 1)
abbrev No(a b c f g h i:Int):St:=⟨[(0,.one (qT a)),(1,.one (qT b)),(sV c),(8,.one (qT f)),(9,.one (qT g)),(10,.one (qT h)),(uH i)],[]⟩
theorem Zkn{aO:Int->Int->Int->Int->S6 (Int×Int)}(bj:∀{j o d e},LS z YA wB (aO j o d e) (λr=>.qw (FC r)) (No t u y j o d e)){B}:LS z YA [1,1,1,0,1,0,0,1,0,0,1] (P8 t u y A g h aO B) (λr=>.qw (FC r)) (No t u y B A g h):=kB (kN<|kH (show (2:Int)≠0 from(by decide))<|kB (kH (show (2:Int)≠0 from(by decide))<|kL 9 bj) (kH (show (2:Int)≠0 from(by decide))<|kL 9 bj)) (kK Tm<|kH (show (2:Int)≠0 from(by decide))<|kL 9 bj)
def Ki(g j h:Int):Nat->Int->Int->Int->Int->S6 (Int×Int)|0,_,_,_,_=>S_|fu+1,o,t,d,e=>bif(decide (e<64))then bif(decide (e<h))then f_ (d≠0)<|bif((XZ (US .u64 (Yc g d)) (2:Int))==(1:Int))then P8 g j h t d e (Ki g j h fu) (US .u64 (o+d))else P8 g j h t d e (Ki g j h fu) o else P8 g j h t d e (Ki g j h fu) o else S8 (o,t)
theorem ZtQ{j o t}:∀{g u y d e},LS z YA wB (Ki j o t g u y d e) (λr=>.qw (FC r)) (No j o t u y d e):=@qv _ kZ λh=>kB (kB (kN<|kH (show (2:Int)≠0 from(by decide))<|kB (kL 13 (Zkn h)) (kL 13 (Zkn h))) (kK Tm<|kL 13 (Zkn h))) i_
def Zjo(d e g:Int):S6 (Int×Int):=Ki d e g (((64:Int)-(0:Int)).toNat+2) (0:Int) (0:Int) (9223372036854775808:Int) (0:Int)
instance{d e g}:o0 (Zjo d e g) (eS 298 [.one (qT d),.one (qT e),Yj g] λr=>.qw (FC r)):=kS Tryz.func298 (kL 10 ZtQ)
def ZiG(d j:oV)(e:Int):S6 oV:=bif d.qt then(Zjo d.rk d.qX e).bind λg=>S8 (oV.mk Tl g.1 g.2)else(Zjo (0:Int) d.qX (n_ (96:Int) e)).bind λh=>S8 (oV.mk Tm 0 h.2)
theorem ZnG{d e}{g}:LS z YH [1,1,1,1] (ZiG d e g) (ov oV.c) ⟨[(q7 g),tH,sQ],[(2,.box (rR d)),(4,.box (rR e))]⟩:=kB (f'<|i_) (f'<|i_)
def ZiH(e:Int)(d g:oV):S6 oV:=(Dr d).bind λh=>bif(decide (e>h))then ZiG d g h else ZiG d g e
theorem ZnH{g d e}:LS z YH [1,1,1] (ZiH g d e) (ov oV.c) ⟨[(q7 g),tH,sQ],[(2,.box (rR d)),(4,.box (rR e))]⟩:=kCq λ_ h=>kB (kJ h<|kL 5 ZnG) (kL 5 ZnG)
def Zoh(d:oV)(e:Int):S6 oV:=(CV d).bind λg=>bif(!g)then S8 (oV.mk Tm 0 0)else bif(decide (e<0))then ZiH (0:Int) d (oV.mk Tm 0 0)else ZiH e d (oV.mk Tm 0 0)
instance{d e}:o0 (Zoh d e) (eS 237 [.agg (rR d),Yj e] (ov oV.c)):=kS Tryz.func237 (f'<|kB i_ (kB (kL 12 ZnH) (kL 12 ZnH)))
def Zoi(e:oV)(d:Int):S6 (pn×Bool):=(CV e).bind λg=>bif(!g)then S8 ((pn.mk (oV.mk Tm 0 0) 0),Tm)else bif(decide (d<0))then S8 ((pn.mk (oV.mk Tm 0 0) 0),Tm)else(Dr e).bind λh=>bif(decide (d>h))then S8 ((pn.mk (oV.mk Tm 0 0) 0),Tm)else(Zoh e d).bind λj=>S8 ((pn.mk j d),Tl)
instance{d e}:o0 (Zoi d e) (eS 158 [.agg (rR d),Yj e] λr=>.qw [(Tl,pn.c r.1),(Tm,cB r.2)]):=kS Tryz.func158 (f'<|kB (kK Tl<|kK Tl<|i_) (kB (kK Tl<|i_) (f'<|kB i_ (f'<|i_))))
def PN(d:oV):S6 pn:=(Dr d).bind λe=>(Zoi d e).bind λg=>S8 g.1
instance{d}:o0 (PN d) (eS 85 (yj d) (ov pn.c)):=kS Tryz.func85 (f'<|f'<|i_)
def PC(d:Int):S6 Int:=S8 (US .u64 (((Tz (UB .u64) (US .u64 ((US .u64 (((Tz (UB .u64) (US .u64 ((US .u64 (((Tz (UB .u64) d) ^^^ (Tz (UB .u64) (US .u64 (Yc d (1073741824:Int))))).toNat:Int))*(13787848793156543929:Int)))) ^^^ (Tz (UB .u64) (US .u64 (Yc (US .u64 ((US .u64 (((Tz (UB .u64) d) ^^^ (Tz (UB .u64) (US .u64 (Yc d (1073741824:Int))))).toNat:Int))*(13787848793156543929:Int))) (134217728:Int))))).toNat:Int))*(10723151780598845931:Int)))) ^^^ (Tz (UB .u64) (US .u64 (Yc (US .u64 ((US .u64 (((Tz (UB .u64) (US .u64 ((US .u64 (((Tz (UB .u64) d) ^^^ (Tz (UB .u64) (US .u64 (Yc d (1073741824:Int))))).toNat:Int))*(13787848793156543929:Int)))) ^^^ (Tz (UB .u64) (US .u64 (Yc (US .u64 ((US .u64 (((Tz (UB .u64) d) ^^^ (Tz (UB .u64) (US .u64 (Yc d (1073741824:Int))))).toNat:Int))*(13787848793156543929:Int))) (134217728:Int))))).toNat:Int))*(10723151780598845931:Int))) (2147483648:Int))))).toNat:Int))
instance{d}:o0 (PC d) (eS 236 (B6 d) λr=>.one (qT r)):=kS Tryz.func236 (kH (show (1073741824:Int)≠0 from(by decide))<|kH (show (134217728:Int)≠0 from(by decide))<|kH (show (2147483648:Int)≠0 from(by decide))<|i_)
def ZhW(e:S5 Int):Nat->Int->Int->S6 Int|0,_,_=>S_|fu+1,g,d=>bif(decide (d<(S7 e:Int)))then f_ (0<=d/\d<(S7 e:Int))<|(PC (US .u64 ((e.getD d.toNat 0)+(11400714819323198485:Int)))).bind λh=>(PC (US .u64 (((Tz (UB .u64) (US .u64 ((US .u64 (g*(128:Int)))+(US .u64 (Yc g (144115188075855872:Int)))))) ^^^ (Tz (UB .u64) h)).toNat:Int))).bind λj=>ZhW e fu j (n_ d 1)else S8 g
theorem ZuP{e}:∀{d g h},LS z Tryz.f157 qJ (ZhW e d g h) (λr=>.one (qT r)) ⟨[(1,.one (Io e)),(5,.one (qT g)),(uV h)],[]⟩:=@qv _ kZ λj=>kB (kH (show (144115188075855872:Int)≠0 from(by decide))<|kN<|f'<|f'<|kL 12 j) i_
def S4(e:Int)(d:S5 Int):S6 Int:=(PC (US .u64 (e+(11400714819323198485:Int)))).bind λg=>ZhW d (((S7 d:Int)-(0:Int)).toNat+2) g (0:Int)
instance{d e}:o0 (S4 d e) (eS 157 [.one (qT d),.one (Io e)] λr=>.one (qT r)):=kS Tryz.func157 (f'<|kL 8 ZuP)
def L_(e:Int)(d:pn):S6 Int:=bif d.b_.qt then(S4 e ([(6:Int),d.b_.rk,d.b_.qX,(US .u64 d.oR)]:S5 Int)).bind λg=>S8 g else(S4 e ([(4:Int),d.b_.rk,d.b_.qX,(US .u64 d.oR)]:S5 Int)).bind λh=>S8 h
instance{e d}:o0 (L_ e d) (eS 84 [.one (qT e),.agg (sj d)] λr=>.one (qT r)):=kS Tryz.func84 (kB (kM 4 11 (eI .u64) (ab' d)<|f'<|i_) (kM 3 11 (eI .u64) (ab9 d)<|f'<|i_))
def J8(d:Int):S6 Int:=bif(decide (d<1))then S8 (1:Int)else bif(decide (d>8))then S8 (8:Int)else S8 d
instance{d}:o0 (J8 d) (eS 86 [Yj d] Yj):=kS Tryz.func86 (kB i_ (kB i_ i_))
def Zka(e d:Int):S6 Int:=bif(decide (d<1))then S8 (0:Int)else bif(decide (d>2147483648))then S8 (0:Int)else S8 (US .i64 (US .u64 (Yc (US .u64 ((US .u64 (Yc e (4294967296:Int)))*(US .u64 d))) (4294967296:Int))))
instance{d e}:o0 (Zka d e) (eS 83 [.one (qT d),Yj e] Yj):=kS Tryz.func83 (kB (kK Tl<|i_) (kB i_ (kH (show Ii≠0 from(by decide))<|kH (show Ii≠0 from(by decide))<|i_)))
def Ep(d:oV)(e g:Int):S6 Int:=(PN d).bind λh=>(L_ e h).bind λj=>(J8 g).bind λo=>(Zka j o).bind λt=>S8 t
instance{d e g}:o0 (Ep d e g) (eS 41 [.agg (rR d),.one (qT e),Yj g] Yj):=kS Tryz.func41 (f'<|f'<|f'<|f'<|i_)
def Kp(j:Int):Nat->Int->(S5 a_)->pz->pz->oM->S6 (pz×(S5 a_))|0,_,_,_,_,_=>S_|fu+1,h,d,t,e,o=>bif(decide (h<o.fN))then bif(!e.qQ)then(wR e (pM.mk 6 j h)).bind λg=>f_ ((d++([g.2.pN]:S5 a_)).length * 80<=140737488355328/\(d++([g.2.pN]:S5 a_)).length<=maxLen)<|Kp j fu (n_ h 1) (d++([g.2.pN]:S5 a_)) t g.1 o else S8 (e,d)else S8 (e,d)
abbrev AU:Nat × V:=(6,.one (.ptr 6 0))
abbrev Dz(a:pz):Nat × B:=(4,.box (rJ a))
abbrev Dy(a:pz):Nat × B:=(6,.box (rJ a))
theorem ZsS{t}:∀{j u o e g h},LS z Tryz.f42 wB (Kp t j u o e g h) (λr=>.qw [(Tl,pz.c r.1),(Tm,tv r.2)]) ⟨[(q7 t),sQ,AU,Cb,(8,.one (.p8 8 o.length)),(9,(Yj u))],[(oj 8 41 10 a_.c a_.d o),(Dz e),(Dy g),(7,.box (oM.c h))]⟩:=@qv _ kZ λy=>kB (kB (kC λA=>kM 3 3 a_.E ([A.2.pN]:S5 a_)<|kA 3 4 a_.E<|tA 16 [(44,8)] y) (kR [8] [] [])) (kK Tm<|kR [8] [] [])
def E_(g:pz)(d:Int):S6 (pz×(S5 a_)):=(wR g (pM.mk 5 d 0)).bind λe=>Kp d 1000000 (0:Int) [] (pz.mk [] 0 (pU.mk 0 0 (pM.mk 0 0 0) 0 0 (oM.mk 0 (a_.mk (l_.mk (oV.mk Tm 0 0) 0) Tm 0 (pW.mk 0 0) 0 0) [] []) Tm) Tm) e.1 e.2
abbrev ym:S5 (Nat × C):=[(0,cL 13 oM.c oM.d []),(20,cL 5 oD.c oD.d []),(21,cL 7 k_.c k_.d [])]
instance{g h}:o0 (E_ g h) (eS 42 [.agg (rJ g),Yj h] λr=>.qw [(Tl,pz.c r.1),(Tm,tv r.2)]):=kS Tryz.func42 (f'<|kH (show (vN).length=0 from rfl)<|kH (show ∀i j,i<0->j<10->pw a_.c a_.d [] i j=(zT).getD (i * 10+j) .oF from(λi j hi hj=>vJ (sz:=10) (e:=a_.c) (d:=a_.d) (λ_=>rfl) [] i j hi hj))<|kX 2 y9<|rj 10 [] [(4,ym)] [] [] [] [(19,8)] ZsS)
def P7(g:S5 a_):Nat->Int->l_->S6 Int|0,_,_=>S_|fu+1,e,h=>bif(decide (e<(S7 g:Int)))then f_ (0<=e/\e<(S7 g:Int))<|bif(decide ((g.getD e.toNat a_.d).c_=h))then S8 e else P7 g fu (n_ e 1) h else S8 (-1:Int)
theorem Zsf{j}:∀{g h e},LS z Tryz.f43 uv (P7 j g h e) Yj ⟨[(sX j),sH,(tt h)],(DG e)⟩:=@qv _ kZ λo=>by intro h e;exact kB (kN<|kQ 1 6 (Ho ((uJ j h).c_) e AI (.tmp 17))<|kB i_ (kL 15 o)) i_
def Al(d:S5 a_)(e:l_):S6 Int:=P7 d (((S7 d:Int)-(0:Int)).toNat+2) (0:Int) e
instance{d e}:o0 (Al d e) (eS 43 [Yn d,.agg (l_.c e)] Yj):=kS Tryz.func43 (kL 6 Zsf)
def PQ(e:pz)(g h j:Int)(o:Bool):S6 (pz×Bool):=(J4 e (pU.mk 7 0 (pM.mk g 0 0) h j (oM.mk 0 (a_.mk (l_.mk (oV.mk Tm 0 0) 0) Tm 0 (pW.mk 0 0) 0 0) [] []) o)).bind λd=>S8 (d.1,(d.2.fN==(1:Int)))
instance{e g h j o}:o0 (PQ e g h j o) (eS 87 [.agg (rJ e),Yj g,Yj h,Yj j,Yk o] λr=>.qw [(Tl,pz.c r.1),(Tm,cB r.2)]):=kS Tryz.func87 (f'<|kX 1 ⟨[],[],[],[],[(6,wZ)],[],[]⟩<|i_)
def Qe(h:Int)(j:Bool):Nat->pz->pz->S6 (pz×Bool)|0,_,_=>S_|fu+1,e,o=>bif(!e.qQ)then(wR e (pM.mk 1 0 0)).bind λd=>bif d.1.qQ then S8 (d.1,Tm)else bif(decide (d.2.fN>=h))then S8 (d.1,Tm)else(PQ d.1 (1:Int) d.2.fN (n_ d.2.fN (1:Int)) j).bind λg=>bif g.2 then S8 (g.1,Tl)else Qe h j fu g.1 o else S8 (e,Tm)
theorem ZqO{j o}:∀{h e g},LS z Tryz.f44 [1,0,0] (Qe j o h e g) (λr=>.qw [(Tl,pz.c r.1),(Tm,cB r.2)]) ⟨[(q7 j),(2,(Yk o)),sH,AU],[(3,.box (rJ e)),(Dy g)]⟩:=@qv _ kZ λt=>kB (f'<|kB (kK Tl<|i_) (kB i_ (f'<|kB i_ (kL 24 t)))) i_
def Et(d:pz)(e:Int)(g:Bool):S6 (pz×Bool):=Qe e g 1000000 d (pz.mk [] 0 (pU.mk 0 0 (pM.mk 0 0 0) 0 0 (oM.mk 0 (a_.mk (l_.mk (oV.mk Tm 0 0) 0) Tm 0 (pW.mk 0 0) 0 0) [] []) Tm) Tm)
instance{e g h}:o0 (Et e g h) (eS 44 [.agg (rJ e),Yj g,Yk h] λr=>.qw [(Tl,pz.c r.1),(Tm,cB r.2)]):=kS Tryz.func44 (rj 4 [] [(6,ym)] [] [] [] [] ZqO)
def AG(d:Int):S6 Int:=bif(decide (d<0))then S8 (0:Int)else bif(decide (d>1099511627776))then S8 (1099511627776:Int)else S8 d
instance{d}:o0 (AG d) (eS 118 [Yj d] Yj):=kS Tryz.func118 (kB i_ (kB i_ i_))
def Ma(e:l_)(g:Bool)(h:Int):S6 a_:=(AG h).bind λd=>S8 (a_.mk e g d (pW.mk 0 d) 0 0)
instance{d e g}:o0 (Ma d e g) (eS 89 [.agg (l_.c d),Yk e,Yj g] zP):=kS Tryz.func89 (f'<|i_)
def CU(d:S5 a_)(g:pD):S6 (S5 a_):=f_ ((([]:S5 a_)++d).length * 80<=140737488355328/\(([]:S5 a_)++d).length<=maxLen)<|(Ma g.c_ Tl g.pE).bind λe=>f_ (((([]:S5 a_)++d)++([e]:S5 a_)).length * 80<=140737488355328/\((([]:S5 a_)++d)++([e]:S5 a_)).length<=maxLen)<|some ((([]:S5 a_)++d)++([e]:S5 a_))
instance{g h}:pC (CU g h) (eH 46 [] [Yn g,.agg (pD.c h)] vp oH):=sE Tryz.func46 (kH (show (vN).length=0 from rfl)<|kH (show ∀i j,i<0->j<10->pw a_.c a_.d [] i j=(zT).getD (i * 10+j) .oF from(λi j hi hj=>vJ (sz:=10) (e:=a_.c) (d:=a_.d) (λ_=>rfl) [] i j hi hj))<|kA 1 2 a_.E<|kC λo=>kM 1 8 a_.E (zO o)<|kA 1 9 a_.E<|kX 1 y9<|r7 ⟨[],[],[],[],[],[4],[14],[(14,99999)]⟩ S_)
instance{d e}:o0 (CU d e) (eS 46 [Yn d,.agg (pD.c e)] Yn):=o0.of λr h=>(show rX _ _ _ _ _ _ from pC.ok h).pure
def Kg(h j:S5 a_):Nat->Int->(S5 Int)->S6 (S5 Int)|0,_,_=>S_|fu+1,e,g=>bif(decide (e<(S7 j:Int)))then bif(decide (e>=(S7 h:Int)))then f_ ((g++([e]:S5 Int)).length * 8<=140737488355328/\(g++([e]:S5 Int)).length<=maxLen)<|Kg h j fu (n_ e 1) (g++([e]:S5 Int))else f_ (0<=e/\e<(S7 h:Int))<|f_ (0<=e/\e<(S7 j:Int))<|bif(!(decide ((h.getD e.toNat a_.d)=(j.getD e.toNat a_.d))))then f_ ((g++([e]:S5 Int)).length * 8<=140737488355328/\(g++([e]:S5 Int)).length<=maxLen)<|Kg h j fu (n_ e 1) (g++([e]:S5 Int))else Kg h j fu (n_ e 1) g else S8 g
theorem Zrx{j o}:∀{h e g},LH z Tryz.f88 qJ (Kg j o h e g) Fw oH ⟨[(sX j),(1,(Yn o)),(5,.one (.p8 5 g.length)),(uV e)],[(oj 5 3 1 ou (0:Int) g)]⟩:=@qv _ kZ λt=>by intro e g;exact kB (kB (kK Tl<|kM 2 2 sP ([e]:S5 Int)<|kA 2 3 sP<|tA 15 [(32,5)] t) (kN<|kN<|kQ 1 13 (ZsJ (uJ j e) (uJ o e) (.tmp 22) (.tmp 26))<|kB (kM 2 2 sP ([e]:S5 Int)<|kA 2 3 sP<|tA 15 [(32,5)] t) (kL 15 t))) (r7 Fu S_)
def Zjh(e d:S5 a_):S6 (S5 Int):=Kg e d (((S7 d:Int)-(0:Int)).toNat+2) (0:Int) ([]:S5 Int)
instance{g h}:pC (Zjh g h) (eH 88 [] [Yn g,Yn h] Fz oH):=sE Tryz.func88 (kH (show (Fo).length=0 from rfl)<|kH (show ∀i j,i<0->j<1->pw uf (0:Int) [] i j=((Fo).flatMap uf).getD (i * 1+j) .oF from(λi j hi hj=>vJ (sz:=1) (e:=uf) (d:=(0:Int)) (λ_=>rfl) [] i j hi hj))<|kX 1 (rA [(0,.c (Fo).length (pw uf (0:Int) []))])<|tA 8 [(7,5)] Zrx)
instance{d e}:o0 (Zjh d e) (eS 88 [Yn d,Yn e] λr=>.one (zc r)):=o0.of λr h=>(show rX _ _ _ _ _ _ from pC.ok h).pure
def vV(d:pz)(e:pM)(g:oM)(h:Bool):S6 pz:=(J4 d (pU.mk 6 0 e 0 0 g h)).bind λj=>S8 j.1
instance{d e g h}:o0 (vV d e g h) (eS 61 [.agg (rJ d),.agg (pM.c e),.agg (oM.c g),Yk h] vK):=kS Tryz.func61 (f'<|i_)
def Ey(j:Int)(t h:S5 a_):Nat->(S5 Int)->Int->pz->pz->S6 pz|0,_,_,_,_=>S_|fu+1,g,e,o,u=>bif(decide (e<(S7 g:Int)))then f_ (0<=e/\e<(S7 g:Int))<|f_ (0<=(g.getD e.toNat 0)/\(g.getD e.toNat 0)<(S7 h:Int))<|(vV o (pM.mk 6 j (g.getD e.toNat 0)) (oM.mk 0 (h.getD (g.getD e.toNat 0).toNat a_.d) [] []) Tm).bind λy=>Ey j t h fu g (n_ e 1) y u else bif((S7 t:Int) != (S7 h:Int))then(vV o (pM.mk 5 j 0) (oM.mk (S7 h:Int) (a_.mk (l_.mk (oV.mk Tm 0 0) 0) Tm 0 (pW.mk 0 0) 0 0) [] []) Tm).bind λA=>S8 A else S8 o
theorem Zsc{o t u}:∀{j y h e g},LS z Tryz.f45 qJ (Ey o t u j y h e g) vK ⟨[(q7 o),(2,(Yn t)),(3,(Yn u)),sQ,Ca,(9,.one (zU y)),(sN h)],[(Dz e),(8,.box (rJ g))]⟩:=@qv _ kZ λA=>kB (sB λB=>kH B<|kN<|f'<|kX 1 ⟨[],[],[],[],[(14,xE)],[],[]⟩<|kL 12 A) (kB (f'<|kX 2 xI<|i_) i_)
def wW(h:pz)(j:Int)(d e:S5 a_):S6 pz:=(Zjh d e).bind λg=>Ey j d e (((S7 g:Int)-(0:Int)).toNat+2) g (0:Int) h (pz.mk [] 0 (pU.mk 0 0 (pM.mk 0 0 0) 0 0 (oM.mk 0 (a_.mk (l_.mk (oV.mk Tm 0 0) 0) Tm 0 (pW.mk 0 0) 0 0) [] []) Tm) Tm)
instance{e g h j}:o0 (wW e g h j) (eS 45 [.agg (rJ e),Yj g,Yn h,Yn j] vK):=kS Tryz.func45 (f'<|rj 8 [] [(8,ym)] [] [] [] [] Zsc)
def HP(e:Int):Nat->Int->pz->pz->S6 pz|0,_,_,_=>S_|fu+1,d,g,h=>(J8 e).bind λj=>bif(decide (d<j))then(qn g (1:Int) (n_ (2:Int) d) Tm).bind λo=>HP e fu (n_ d 1) o h else S8 g
theorem ZqP{j}:∀{h o e g},LS z Tryz.f90 uv (HP j h o e g) vK ⟨[(q7 j),tH,sQ,(tt o)],[(2,.box (rJ e)),(Dz g)]⟩:=@qv _ kZ λt=>f'<|kB (f'<|kL 12 t) i_
def GF(d:pz)(e:Int):S6 pz:=HP e 1000000 (0:Int) d (pz.mk [] 0 (pU.mk 0 0 (pM.mk 0 0 0) 0 0 (oM.mk 0 (a_.mk (l_.mk (oV.mk Tm 0 0) 0) Tm 0 (pW.mk 0 0) 0 0) [] []) Tm) Tm)
instance{e g}:o0 (GF e g) (eS 90 [.agg (rJ e),Yj g] vK):=kS Tryz.func90 (rj 6 [] [(4,ym)] [] [] [] [] ZqP)
def B2(h:Int):Nat->Int->(S5 (S5 a_))->pz->pz->S6 (pz×(S5 (S5 a_)))|0,_,_,_,_=>S_|fu+1,g,d,j,o=>bif(decide (g<h))then(E_ j g).bind λe=>f_ ((d++([e.2]:S5 (S5 a_))).length * 24<=140737488355328/\(d++([e.2]:S5 (S5 a_))).length<=maxLen)<|B2 h fu (n_ g 1) (d++([e.2]:S5 (S5 a_))) e.1 o else S8 (j,d)
theorem ZtJ{o}:∀{h t j e g},LH z Tryz.f91 qJ (B2 o h t j e g) (λr=>[(oj 99999 51 1 tv [] r.2)]) (λr=>(.qw [(Tl,pz.c r.1),(Tm,[.p8 99999 r.2.length])])) ⟨[(q7 o),tH,sQ,(6,.one (.p8 6 j.length)),(tG t)],[(oj 6 51 1 tv [] j),(2,.box (rJ e)),(Dz g)]⟩:=@qv _ kZ λu=>kB (kC λy=>kM 3 2 Im ([y.2]:S5 re)<|kA 3 3 Im<|tA 16 [(26,6)] u) (r7 (oh [4,5] [4,6] [(6,99999)]) (S8 [99999]))
def Dq(e:pz)(d:Int):S6 (pz×(S5 (S5 a_))):=B2 d ((d-(0:Int)).toNat+2) (0:Int) ([]:S5 (S5 a_)) e (pz.mk [] 0 (pU.mk 0 0 (pM.mk 0 0 0) 0 0 (oM.mk 0 (a_.mk (l_.mk (oV.mk Tm 0 0) 0) Tm 0 (pW.mk 0 0) 0 0) [] []) Tm) Tm)
abbrev DC:S5 (S5 a_):=([]:S5 re)
instance{g h}:pC (Dq g h) (eH 91 [] [.agg (rJ g),Yj h] (λr=>[(99999,.rows 51 1 r.2.length (pw tv [] r.2))]) λr=>(.qw [(Tl,pz.c r.1),(Tm,[.p8 99999 r.2.length])])):=sE Tryz.func91 (kH (show (DC).length=0 from rfl)<|kH (show ∀i j,i<0->j<1->pw tv [] DC i j=((DC).flatMap tv).getD (i * 1+j) .oF from(λi j hi hj=>vJ (sz:=1) (e:=tv) (d:=([]:re)) (λ_=>rfl) DC i j hi hj))<|kX 1 (rA [(0,.c (DC).length (pw tv [] DC))])<|rj 8 [] [(4,ym)] [] [] [] [(10,6)] ZtJ)
def HO:Nat->Bool->Int->pz->pz->S6 pz|0,_,_,_,_=>S_|fu+1,g,d,e,h=>bif(decide (d>=(0:Int)))then(qn e (3:Int) (n_ (2:Int) d) g).bind λj=>HO fu Tm (pR d (1:Int)) j h else S8 e
theorem ZqQ:∀{h j o e g},LS z Tryz.f92 uv (HO h j o e g) vK ⟨[(2,(Yk j)),sH,AU,(tG o)],[(3,.box (rJ e)),(Dy g)]⟩:=@qv _ kZ λt=>kB (f'<|kL 14 t) i_
def AF(e:pz)(g:Int)(h:Bool):S6 pz:=(J8 g).bind λd=>HO (((pR d (1:Int))-(0:Int)).toNat+2) h (pR d (1:Int)) e (pz.mk [] 0 (pU.mk 0 0 (pM.mk 0 0 0) 0 0 (oM.mk 0 (a_.mk (l_.mk (oV.mk Tm 0 0) 0) Tm 0 (pW.mk 0 0) 0 0) [] []) Tm) Tm)
instance{e g h}:o0 (AF e g h) (eS 92 [.agg (rJ e),Yj g,Yk h] vK):=kS Tryz.func92 (f'<|rj 6 [] [(6,ym)] [] [] [] [] ZqQ)
def P1(e:(S5 (S5 a_))):Nat->Int->(S5 a_)->S6 (S5 a_)|0,_,_=>S_|fu+1,d,g=>bif(decide (d<(S7 e:Int)))then f_ (0<=d/\d<(S7 e:Int))<|f_ ((g++(e.getD d.toNat [])).length * 80<=140737488355328/\(g++(e.getD d.toNat [])).length<=maxLen)<|P1 e fu (n_ d 1) (g++(e.getD d.toNat []))else S8 g
theorem ZsR{h}:∀{e j g},LH z Tryz.f94 qJ (P1 h e j g) xG oH ⟨[(0,.one (wm h)),(Ic g),(4,(Yj j))],[(Ib g)]⟩:=@qv _ kZ λo=>kB (kN<|kA 1 5 a_.E<|tA 12 [(17,3)] o) (r7 Ce S_)
def HC(d:(S5 (S5 a_))):S6 (S5 a_):=P1 d (((S7 d:Int)-(0:Int)).toNat+2) (0:Int) ([]:S5 a_)
instance{g}:pC (HC g) (eH 94 [] [.one (wm g)] vp oH):=sE Tryz.func94 (kH (show (vN).length=0 from rfl)<|kH (show ∀i j,i<0->j<10->pw a_.c a_.d [] i j=(zT).getD (i * 10+j) .oF from(λi j hi hj=>vJ (sz:=10) (e:=a_.c) (d:=a_.d) (λ_=>rfl) [] i j hi hj))<|kX 1 y9<|tA 8 [(5,3)] ZsR)
instance{e}:o0 (HC e) (eS 94 [.one (wm e)] Yn):=o0.of λr h=>(show rX _ _ _ _ _ _ from pC.ok h).pure
def Mo(g:S5 a_):Nat->Int->(S5 a_)->S6 (S5 a_)|0,_,_=>S_|fu+1,e,h=>bif(decide (e<(S7 g:Int)))then f_ (0<=e/\e<(S7 g:Int))<|bif(g.getD e.toNat a_.d).tL then f_ ((h++([(g.getD e.toNat a_.d)]:S5 a_)).length * 80<=140737488355328/\(h++([(g.getD e.toNat a_.d)]:S5 a_)).length<=maxLen)<|Mo g fu (n_ e 1) (h++([(g.getD e.toNat a_.d)]:S5 a_))else Mo g fu (n_ e 1) h else S8 h
theorem Ztb{j}:∀{g h e},LH z Tryz.f238 qJ (Mo j g h e) xG oH ⟨[(sX j),(Ic e),(4,(Yj h))],[(Ib e)]⟩:=@qv _ kZ λo=>by intro h e;exact kB (sB λo2=>kB (kH o2<|kM 2 5 a_.E (B8 j h)<|kA 2 6 a_.E<|tA 15 [(23,3)] o) (kL 15 o)) (r7 Ce S_)
def Ziy(d:S5 a_):S6 (S5 a_):=Mo d (((S7 d:Int)-(0:Int)).toNat+2) (0:Int) ([]:S5 a_)
instance{g}:pC (Ziy g) (eH 238 [] [Yn g] vp oH):=sE Tryz.func238 (kH (show (vN).length=0 from rfl)<|kH (show ∀i j,i<0->j<10->pw a_.c a_.d [] i j=(zT).getD (i * 10+j) .oF from(λi j hi hj=>vJ (sz:=10) (e:=a_.c) (d:=a_.d) (λ_=>rfl) [] i j hi hj))<|kX 1 y9<|tA 8 [(5,3)] Ztb)
instance{d}:o0 (Ziy d) (eS 238 [Yn d] Yn):=o0.of λr h=>(show rX _ _ _ _ _ _ from pC.ok h).pure
def J7(d:rY)(e:Int):S6 Int:=bif(e==(1:Int))then S8 d.qW else bif(e==(2:Int))then S8 d.p_ else bif(e==(3:Int))then S8 d.qo else S8 d.tE
instance{d e}:o0 (J7 d e) (eS 299 [.agg (rY.c d),Yj e] Yj):=kS Tryz.func299 (kB i_ (kB i_ (kB i_ i_)))
def Zjk(e:a_)(d:Int):S6 Bool:=bif(d==(1:Int))then S8 Tl else bif(d==(4:Int))then S8 Tl else bif(d==(2:Int))then bif(decide (e.p_>0))then S8 Tl else bif(d==(3:Int))then S8 (decide (e.qo>0))else S8 Tm else bif(d==(3:Int))then S8 (decide (e.qo>0))else S8 Tm
instance{d e}:o0 (Zjk d e) (eS 300 [.agg (si d),Yj e] Yk):=kS Tryz.func300 (kB (kK Tl<|kK Tl<|i_) (kB (kK Tl<|i_) (kB (kB i_ (kB i_ i_)) (kK Tm<|kB i_ i_))))
def Hv(d:oV):S6 pn:=(CV d).bind λe=>bif(!e)then S8 (pn.mk (oV.mk Tm 0 0) 0)else bif d.qt then S8 (pn.mk (oV.mk Tl (US .u64 (d.rk-(XZ d.rk (4294967296:Int)))) 0) 32)else S8 (pn.mk (oV.mk Tm 0 (US .u64 (d.qX-(XZ d.qX (65536:Int))))) 16)
instance{d}:o0 (Hv d) (eS 302 (yj d) (ov pn.c)):=kS Tryz.func302 (f'<|kB i_ (kB (kH (show Ii≠0 from(by decide))<|i_) (kH (show (65536:Int)≠0 from(by decide))<|i_)))
def Zhe(d:Bool):S6 Int:=bif d then S8 (-1:Int)else S8 (1:Int)
theorem ZlT{d}:LS z YG [1,1,1,1,1] (Zhe d) Yj ⟨[(5,(Yk d))],[]⟩:=kB i_ i_
def Zhf(e:Bool)(d g:oV):S6 Int:=bif(!(d.qt==g.qt))then Zhe (!d.qt)else Zhe e
theorem ZlU{g d e}:LS z YG [1,1,1,1] (Zhf g d e) Yj ⟨[tH,sH,(5,(Yk g))],[(2,.box (rR d)),(3,.box (rR e))]⟩:=kB (kL 5 ZlT) (kL 5 ZlT)
def ZgE(d e:oV):S6 Int:=bif(decide (d=e))then S8 (0:Int)else bif(d.rk != e.rk)then Zhf (decide (d.rk<e.rk)) d e else Zhf (decide (d.qX<e.qX)) d e
instance{d e}:o0 (ZgE d e) (eS 244 [.agg (rR d),.agg (rR e)] Yj):=kS Tryz.func244 (kQ 1 2 (ZpT d e (.tmp 6) (.tmp 7))<|kB i_ (kB (kL 14 ZlU) (kL 14 ZlU)))
def Kl(d e:l_):S6 Int:=(ZgE d.b_ e.b_).bind λg=>bif(g != (0:Int))then S8 g else bif(d.qE==e.qE)then S8 g else bif(decide (d.qE<e.qE))then S8 (-1:Int)else S8 (1:Int)
instance{d e}:o0 (Kl d e) (eS 163 [.agg (l_.c d),.agg (l_.c e)] Yj):=kS Tryz.func163 (f'<|kB (kK Tl<|i_) (kB i_ (kB i_ i_)))
def Mr(e d:Int)(g h:a_):S6 Bool:=bif(e != d)then S8 (decide (e<d))else(Kl g.c_ h.c_).bind λj=>S8 (decide (j<0))
theorem Zgy{h g d e}:LS z Tryz.f301 [1,1,1] (Mr h g d e) Yk ⟨[sQ,zS,(9,(Yj h)),(sN g)],[(4,.box (si d)),(5,.box (si e))]⟩:=kB i_ (f'<|i_)
def ZjX(d e:a_)(g h:Int):S6 Bool:=bif(g==(1:Int))then(Hv d.c_.b_).bind λt=>(L_ h t).bind λj=>(Hv e.c_.b_).bind λu=>(L_ h u).bind λo=>bif(j != o)then S8 (decide (j>o))else Mr (0:Int) (0:Int) d e else bif(g==(2:Int))then Mr d.p_ e.p_ d e else bif(g==(3:Int))then Mr e.qo d.qo d e else bif(g==(4:Int))then Mr d.pK e.pK d e else S8 Tm
instance{d e g h}:o0 (ZjX d e g h) (eS 301 [.agg (si d),.agg (si e),Yj g,.one (qT h)] Yk):=kS Tryz.func301 (kB (f'<|f'<|f'<|f'<|kB i_ (kL 20 Zgy)) (kB (kL 18 Zgy) (kB (kL 21 Zgy) (kB (kL 24 Zgy) i_))))
def Fe(j:S5 a_)(u o:Int)(y:rY)(t:Int)(ai:Int->(S5 Bool)->rY->S6 (S5 Bool))(au:Int->(S5 Bool)->S6 (S5 Bool)):Nat->Int->Int->(S5 Bool)->S6 (S5 Bool)|0,_,_,_=>S_|fu+1,g,e,h=>bif(decide (e<(S7 j:Int)))then f_ (0<=e/\e<(S7 h:Int))<|bif(!(h.getD e.toNat Tm))then f_ (0<=e/\e<(S7 j:Int))<|(Zjk (j.getD e.toNat a_.d) o).bind λA=>bif A then bif(decide (g<0))then Fe j u o y t ai au fu e (n_ e 1) h else f_ (0<=g/\g<(S7 j:Int))<|(ZjX (j.getD e.toNat a_.d) (j.getD g.toNat a_.d) o u).bind λB=>bif B then Fe j u o y t ai au fu e (n_ e 1) h else Fe j u o y t ai au fu g (n_ e 1) h else Fe j u o y t ai au fu g (n_ e 1) h else Fe j u o y t ai au fu g (n_ e 1) h else bif(decide (g>=(0:Int)))then f_ (0<=g/\g<(S7 h:Int))<|au (n_ t 1) (h.set g.toNat Tl)else au (n_ t 1) h
abbrev Nl(a:S5 a_)(b:Int)(e:S5 Bool)(f:Int)(g:rY):St:=⟨[(sX a),(2,.one (qT b)),sQ,(7,.one (.p8 14 e.length)),(sG f)],[(oj 14 4 1 cB Tm e),(4,.box (rY.c g))]⟩
abbrev ab_(a:S5 a_)(b:Int)(e:S5 Bool)(f g:Int)(h:rY):St:=⟨[(sX a),(2,.one (qT b)),sQ,(7,.one (.p8 14 e.length)),(sG f),(9,(Yj g))],[(oj 14 4 1 cB Tm e),(4,.box (rY.c h))]⟩
theorem Zsh{A:re}{B:Int}{F:Int}{j:rY}{ai:Int->B'->rY->S6 B'}{au:Int->B'->S6 B'}(aV:∀{t d h},LH z Yy qJ (ai t d h) (ol 99999 4 1 cB Tm) oH (Nl A B d t h))(bq:∀{u d},LH z Yy [1,1,0,1,0,0,1,0,0,1,0] (au u d) (ol 99999 4 1 cB Tm) oH (ab_ A B d F u j)):∀{D g o e},LH z Yy [1,1,0,1,0,0,1,0,0,1,0,0,1,0,0,1,0,1,0] (Fe A B F j H ai au D g o e) (ol 99999 4 1 cB Tm) oH ⟨[(sX A),(2,.one (qT B)),sQ,(7,.one (.p8 14 e.length)),(sG F),(9,(Yj H)),(sN g),(uH o)],[(oj 14 4 1 cB Tm e),(4,.box (rY.c j))]⟩:=@qv _ kZ λy=>by intro g o e;exact kB (zl<|kB (sB λJ=>f'<|kB (kB (kK Tl<|kL 15 y) (kH J<|kN<|f'<|kB (kL 15 y) (kL 15 y))) (kK Tm<|kL 15 y)) (kK Tm<|kK Tm<|kL 15 y)) (kB (sB λG=>kW 2 3 eB e g.toNat Tl (ltOf G)<|kH (oW ((e.set g.toNat Tl).length))<|rj 13 [] [] [] [(14,((e.set g.toNat Tl).length))] [] [] bq) (kL 13 bq))
def HM(h:S5 a_)(o e:Int)(g:rY)(ai:Int->(S5 Bool)->rY->S6 (S5 Bool)):Nat->Int->(S5 Bool)->S6 (S5 Bool)|0,_,_=>S_|fu+1,j,d=>(J7 g e).bind λt=>bif(decide (j<t))then bif(decide (j<(S7 h:Int)))then Fe h o e g j ai (HM h o e g ai fu) (((S7 h:Int)-(0:Int)).toNat+2) (-1:Int) (0:Int) d else ai (n_ e 1) d g else ai (n_ e 1) d g
theorem Zsi{t:re}{h:rY}{ai:Int->B'->rY->S6 B'}(aV:∀{j d e},LH z Yy qJ (ai j d e) (ol 99999 4 1 cB Tm) oH (Nl t u d j e)):∀{o A g},LH z Yy [1,1,0,1,0,0,1,0,0,1,0] (HM t u y h ai o A g) (ol 99999 4 1 cB Tm) oH (ab_ t u g y A h):=@qv _ kZ λB=>f'<|kB (kB (kL 14 (Zsh aV B)) (kL 9 aV)) (kK Tm<|kL 9 aV)
def B3(e:S5 a_)(g:Int):Nat->Int->(S5 Bool)->rY->S6 (S5 Bool)|0,_,_,_=>S_|fu+1,h,d,j=>bif(decide (h<=(4:Int)))then HM e g h j (B3 e g fu) (((S7 e:Int)-(0:Int)).toNat+2) (0:Int) d else S8 d
theorem Zsj{h j}:∀{g o d e},LH z Yy qJ (B3 h j g o d e) (ol 99999 4 1 cB Tm) oH (Nl h j d o e):=@qv _ kZ λt=>kB (kL 11 (Zsi t)) (r7 (oh [6] [14] [(14,99999)]) S_)
def ZhT(d:S5 a_)(e:rY)(g:Int):S6 (S5 Bool):=f_ (0<=(S7 d:Int)/\(S7 d:Int)<=(S7 d:Int)/\(S7 d:Int)<=140737488355328/\(S7 d:Int) * 1<=140737488355328)<|B3 d g (((4:Int)-(1:Int)).toNat+2) (1:Int) (List.replicate (S7 d:Int).toNat Tm) e
abbrev IS(a:S5 a_):S5 Bool:=List.replicate (wX a).toNat Tm
instance{d e g}:pC (ZhT d e g) (eH 239 [] (za d e g) (λr=>[(99999,.rows 4 1 r.length (pw cB Tm r))]) oH):=sE Tryz.func239 (uU λo1=>kH (show (wX d)=(Iy d)from(Xw o1.1).symm)<|kH (show (Iy d)<=(wX d)from(Int.le_trans (Int.le_of_eq (Xw o1.1)) o1.2.1))<|kH o1.2.2.1<|kH o1.2.2.2<|kH (show ∀i j,i<(wX d).toNat->j<1->zJ (([.lit AO]:S5 C).getD j .oF) (pw cB Tm (IS d) i j)from(R_ (λj hj=>.inl rfl) _))<|kH (show (IS d).length=(wX d).toNat from List.length_replicate)<|kX 1 (rA [(2,.c ((wX d).toNat) (pw cB Tm (IS d)))])<|rj 8 [] [] [] [(14,((IS d).length))] [] [] Zsj)
instance{d e g}:o0 (ZhT d e g) (eS 239 (za d e g) λr=>.one (cL 1 cB Tm r)):=o0.of λr h=>(show rX _ _ _ _ _ _ from pC.ok h).pure
def MB:Nat->(S5 a_)->(S5 Bool)->Int->(S5 a_)->S6 (S5 a_)|0,_,_,_,_=>S_|fu+1,g,j,e,h=>bif(decide (e<(S7 g:Int)))then f_ (0<=e/\e<(S7 j:Int))<|bif(!(j.getD e.toNat Tm))then f_ (0<=e/\e<(S7 g:Int))<|f_ ((h++([(g.getD e.toNat a_.d)]:S5 a_)).length * 80<=140737488355328/\(h++([(g.getD e.toNat a_.d)]:S5 a_)).length<=maxLen)<|MB fu g j (n_ e 1) (h++([(g.getD e.toNat a_.d)]:S5 a_))else MB fu g j (n_ e 1) h else S8 h
theorem Zpz:∀{h j o e g},LH z Tryz.f159 DD (MB h j o e g) xG oH ⟨[(7,(Yn j)),(8,.one (cL 1 cB Tm o)),(9,.one (.p8 9 g.length)),(sN e)],[(oj 9 41 10 a_.c a_.d g)]⟩:=@qv _ kZ λt=>by intro j o e g;exact kB (kN<|kB (kN<|kM 2 5 a_.E (B8 j e)<|kA 2 6 a_.E<|tA 15 [(35,9)] t) (kL 15 t)) (r7 (oh [6] [9] [(9,99999)]) S_)
def Zfv(e:S5 a_)(g:rY)(h:Int):S6 (S5 a_):=(Ziy e).bind λd=>(ZhT d g h).bind λj=>MB (((S7 d:Int)-(0:Int)).toNat+2) d j (0:Int) ([]:S5 a_)
instance{g h o}:pC (Zfv g h o) (eH 159 [] (za g h o) vp oH):=sE Tryz.func159 (f'<|f'<|kH (show (vN).length=0 from rfl)<|kH (show ∀i j,i<0->j<10->pw a_.c a_.d [] i j=(zT).getD (i * 10+j) .oF from(λi j hi hj=>vJ (sz:=10) (e:=a_.c) (d:=a_.d) (λ_=>rfl) [] i j hi hj))<|kX 3 y9<|tA 12 [(17,9)] Zpz)
instance{d e g}:o0 (Zfv d e g) (eS 159 (za d e g) Yn):=o0.of λr h=>(show rX _ _ _ _ _ _ from pC.ok h).pure
def Ms(e:S5 a_)(h:Int):Nat->Int->Int->S6 Int|0,_,_=>S_|fu+1,j,g=>bif(decide (g<(S7 e:Int)))then f_ (0<=g/\g<(S7 e:Int))<|(Hv (((e.getD g.toNat a_.d).c_).b_)).bind λo=>f_ (0<=h/\h<(S7 e:Int))<|(Hv (((e.getD h.toNat a_.d).c_).b_)).bind λt=>bif(decide (o=t))then Ms e h fu (n_ j 1) (n_ g 1)else Ms e h fu j (n_ g 1)else S8 j
theorem Zsg{e g}:∀{d h j},LS z Tryz.f240 wB (Ms e g d h j) Yj ⟨[(sX e),(q7 g),(tt h),(uV j)],[]⟩:=@qv _ kZ λo=>kB (kN<|kC λt=>kN<|kC λu=>kQ 1 14 (LN t u (.tmp 27) (.tmp 34))<|kB (kL 15 o) (kL 15 o)) i_
def ZhS(d:S5 a_)(e:Int):S6 Int:=bif(decide (e<0))then S8 (0:Int)else bif(decide (e>=(S7 d:Int)))then S8 (0:Int)else Ms d e (((S7 d:Int)-(0:Int)).toNat+2) (0:Int) (0:Int)
instance{d e}:o0 (ZhS d e) (eS 240 [Yn d,Yj e] Yj):=kS Tryz.func240 (kB (kK Tl<|i_) (kB i_ (kL 13 Zsg)))
def ZiF(d e:a_):S6 Bool:=bif(d.pK != e.pK)then S8 (decide (d.pK>e.pK))else(Kl d.c_ e.c_).bind λg=>S8 (decide (g>0))
instance{d e}:o0 (ZiF d e) (eS 241 [.agg (si d),.agg (si e)] Yk):=kS Tryz.func241 (kB i_ (f'<|i_))
def Dt(e:S5 a_)(g:Int)(aD:Int->S6 Int):Nat->Bool->Int->S6 Int|0,_,_=>S_|fu+1,j,h=>bif(decide (h<(S7 e:Int)))then(ZhS e h).bind λo=>(ZhS e g).bind λt=>bif j then bif(decide (o<=t))then bif(decide (o<t))then Dt e g aD fu Tl (n_ h 1)else f_ (0<=h/\h<(S7 e:Int))<|f_ (0<=g/\g<(S7 e:Int))<|(ZiF (e.getD h.toNat a_.d) (e.getD g.toNat a_.d)).bind λu=>Dt e g aD fu (!u) (n_ h 1)else Dt e g aD fu Tm (n_ h 1)else Dt e g aD fu Tm (n_ h 1)else bif j then S8 g else aD (n_ g 1)
theorem Ztc{h:re}{aD:Int->S6 Int}(bP:∀{d},LS z YC uv (aD d) Yj ⟨[(sX h),(sO d)],[]⟩):∀{e o t},LS z YC [1,0,1,0,0,1,0,0,1,0,1,0] (Dt h j aD e o t) Yj ⟨[(sX h),(sO j),(4,(Yk o)),(tt t)],[]⟩:=@qv _ kZ λg=>kB (f'<|f'<|kB (kB (kB (kL 14 g) (kN<|kN<|f'<|kL 14 g)) (kL 14 g)) (kK Tm<|kL 14 g)) (kB i_ (kL 13 bP))
def Km(d:S5 a_):Nat->Int->S6 Int|0,_=>S_|fu+1,e=>bif(decide (e<(S7 d:Int)))then Dt d e (Km d fu) (((S7 d:Int)-(0:Int)).toNat+2) Tl (0:Int)else S8 (-1:Int)
theorem Ztd{e}:∀{d g},LS z YC uv (Km e d g) Yj ⟨[(sX e),(sO g)],[]⟩:=@qv _ kZ λh=>kB (kL 14 (Ztc h)) i_
def ZkT(d:S5 a_):S6 Int:=Km d (((S7 d:Int)-(0:Int)).toNat+2) (0:Int)
instance{d}:o0 (ZkT d) (eS 160 [Yn d] Yj):=kS Tryz.func160 (kL 6 Ztd)
def Zho(h:S5 a_)(j:rY)(o:Int):S6 (l_×Bool):=(Zfv h j o).bind λg=>(ZkT g).bind λe=>bif(decide (e<0))then S8 ((l_.mk (oV.mk Tm 0 0) 0),Tm)else f_ (0<=e/\e<(S7 g:Int))<|some ((g.getD e.toNat a_.d).c_,Tl)
instance{d e g}:o0 (Zho d e g) (eS 93 (za d e g) λr=>.qw (DJ r)):=kS Tryz.func93 (f'<|f'<|kB i_ (kN<|i_))
def Qa(g:S5 l_):Nat->Int->l_->S6 Bool|0,_,_=>S_|fu+1,e,h=>bif(decide (e<(S7 g:Int)))then f_ (0<=e/\e<(S7 g:Int))<|bif(decide ((g.getD e.toNat l_.d)=h))then S8 Tl else Qa g fu (n_ e 1) h else S8 Tm
theorem ZtK{j}:∀{g h e},LS z Tryz.f161 uv (Qa j g h e) Yk ⟨[(0,(Yo j)),sH,(tt h)],(DG e)⟩:=@qv _ kZ λo=>by intro h e;exact kB (kN<|kQ 1 5 (Ho (j.getD h.toNat l_.d) e (.tmp 15) AI)<|kB i_ (kL 15 o)) i_
def ZlK(d:S5 l_)(e:l_):S6 Bool:=Qa d (((S7 d:Int)-(0:Int)).toNat+2) (0:Int) e
instance{d e}:o0 (ZlK d e) (eS 161 [Yo d,.agg (l_.c e)] Yk):=kS Tryz.func161 (kL 6 ZtK)
def PZ(g:S5 a_)(j:S5 l_):Nat->Int->(S5 a_)->S6 (S5 a_)|0,_,_=>S_|fu+1,e,h=>bif(decide (e<(S7 g:Int)))then f_ (0<=e/\e<(S7 g:Int))<|(ZlK j ((g.getD e.toNat a_.d).c_)).bind λo=>bif(!o)then f_ ((h++([(g.getD e.toNat a_.d)]:S5 a_)).length * 80<=140737488355328/\(h++([(g.getD e.toNat a_.d)]:S5 a_)).length<=maxLen)<|PZ g j fu (n_ e 1) (h++([(g.getD e.toNat a_.d)]:S5 a_))else PZ g j fu (n_ e 1) h else S8 h
theorem ZsU{j o}:∀{g h e},LH z Tryz.f95 qJ (PZ j o g h e) xG oH ⟨[(sX j),(1,(Yo o)),(Ig e),(uV h)],[(Ie e)]⟩:=@qv _ kZ λt=>by intro h e;exact kB (sB λo2=>f'<|kB (kH o2<|kM 2 5 a_.E (B8 j h)<|kA 2 6 a_.E<|tA 15 [(28,5)] t) (kL 15 t)) (r7 Fu S_)
def Ds(d:S5 a_)(e:S5 l_):S6 (S5 a_):=PZ d e (((S7 d:Int)-(0:Int)).toNat+2) (0:Int) ([]:S5 a_)
instance{g h}:pC (Ds g h) (eH 95 [] [Yn g,Yo h] vp oH):=sE Tryz.func95 (kH (show (vN).length=0 from rfl)<|kH (show ∀i j,i<0->j<10->pw a_.c a_.d [] i j=(zT).getD (i * 10+j) .oF from(λi j hi hj=>vJ (sz:=10) (e:=a_.c) (d:=a_.d) (λ_=>rfl) [] i j hi hj))<|kX 1 y9<|tA 8 [(7,5)] ZsU)
instance{d e}:o0 (Ds d e) (eS 95 [Yn d,Yo e] Yn):=o0.of λr h=>(show rX _ _ _ _ _ _ from pC.ok h).pure
end Go.Proofs.YtmcnjofonpkfmaaGreat
