import Derived.Test.YtmcnjofonpkfmaaGreatHTskA0
open Go.Act renaming eval->XL,put->UJ
open Array renaming getElem?_eq_some_iff->V5
open Bool renaming false->Tm,true->Tl
open Go.Extern.SlicesOverlaps renaming overlaps->XK
open Go.Proofs renaming ltOf->Wo
open Int renaming toNat_of_nonneg->Xw,tmod->XZ,tdiv->Yc
open Go.IntKind renaming wrap->US
open Go.Lib renaming wpList_append_run->XI,hid->XJ,run_overlaps_apart->XT
open List renaming replicate->V6,length_replicate->XO,length->S7
open Option renaming some->S8,none->S_
open Go.Proofs.Tryz renaming prog->W8,underlying43->Xg,underlying42->Xh,func330->XM,func214->XN,ntmps330->XQ,ntmps214->XR,underlying3->WK,f370->XU,f356->XV,f349->XW,f343->XX,f315->XY,func329->X0,func327->X3,func314->X4,func287->X5,func267->X6,func215->X7,func211->X8,f327->X9,f267->X',f211->X_,f194->Ya
open Go.World renaming frozen?->XP,shape?->XS
namespace Go.Proofs.YtmcnjofonpkfmaaGreat
open Go.RowKit Go.Lib Go.Shelf
set_option linter.unusedSimpArgs false
set_option linter.unusedVariables false
set_option maxRecDepth 100000
variable (S0:Nat->Prop)(w0:t_)
variable {z:Zw}
def E'(t:S5 a_)(u g h:Int)(j:S5 Int)(y:rY)(aR:Int->Int->(S5 Int)->rY->S6 (S5 Int)):Nat->(xl×xl×xl×xl)->Int->(S5 Int)->S6 (S5 Int)|0,_,_,_=>S_|fu+1,d,e,o=>bif(decide (e<4))then f_ (0<=e/\e<((4:Nat):Int))<|BH e 0 ( (E8 t o).bind λG=>(E7 G d.1.Ga d.1.fn u).bind λH=>(Gy o H).bind λI=>E' t u g h j y aR fu d (n_ (0:Int) (1:Int)) I)<|BH e 1 ( (E8 t o).bind λJ=>(E7 J d.2.1.Ga d.2.1.fn u).bind λL=>(Gy o L).bind λM=>E' t u g h j y aR fu d (n_ (1:Int) (1:Int)) M)<|BH e 2 ( (E8 t o).bind λO=>(E7 O d.2.2.1.Ga d.2.2.1.fn u).bind λU=>(Gy o U).bind λA=>E' t u g h j y aR fu d (n_ (2:Int) (1:Int)) A)<|(E8 t o).bind λB=>(E7 B d.2.2.2.Ga d.2.2.2.fn u).bind λD=>(Gy o D).bind λF=>E' t u g h j y aR fu d (n_ (3:Int) (1:Int)) F else S8 o
abbrev IB:RA:=⟨[],[],[(0,[7])],[],[],[],[]⟩
abbrev ab4(a:S5 a_)(b:Int)(d:S5 Int)(e f:Int)(i:rY):St:=⟨[(sX a),(2,.one (qT b)),sQ,(7,.one (.p8 13 d.length)),(15,(Yj e)),(16,(Yj f))],[(oj 13 3 1 ou (0:Int) d),(4,.box (rY.c i))]⟩
abbrev M_:NA:=oh [6] [7] [(7,99999)]
variable{a b:pn}{F G:Int}
theorem ZxI{B:re}{D:Int}{H:sI}{M:rY}{aR:Int->Int->sI->rY->S6 sI}(fw:∀{o t g h},LH z XX qJ (aR o t g h) (ol 99999 3 1 ou (0:Int)) oH (ab4 B D g o t h)):∀{y d j u},LH z XX wB (E' B D F G H M aR y d j u) (ol 99999 3 1 ou (0:Int)) oH ⟨[(sX B),(2,.one (qT D)),(7,.one (.p8 7 u.length)),(25,.agg [.lit (.int .i64 d.1.Ga),.lit (.int .i64 d.1.fn),.lit (.int .i64 d.2.1.Ga),.lit (.int .i64 d.2.1.fn),.lit (.int .i64 d.2.2.1.Ga),.lit (.int .i64 d.2.2.1.fn),.lit (.int .i64 d.2.2.2.Ga),.lit (.int .i64 d.2.2.2.fn)]),(26,(Yj j))],[(oj 7 3 1 ou (0:Int) u)]⟩:=@qv _ kZ λA=>by intro d j u;exact kB (uU λO=>kI (λe=>by subst e;exact uP 0 4<|f'<|f'<|kD 2 10 [] [(99999,39)] λ_=>kX 2 IB<|tA 14 [(39,7)] A) λI=>kI (λe=>by subst e;exact uP 1 4<|f'<|f'<|kD 2 10 [] [(99999,39)] λ_=>kX 2 IB<|tA 14 [(39,7)] A) λJ=>kI (λe=>by subst e;exact uP 2 4<|f'<|f'<|kD 2 10 [] [(99999,39)] λ_=>kX 2 IB<|tA 14 [(39,7)] A) λL=>by obtain rfl:j=3:=(by omega);exact uP 3 4<|f'<|f'<|kD 2 10 [] [(99999,39)] λ_=>kX 2 IB<|tA 14 [(39,7)] A) (r7 M_ S_)
def L5(h:S5 a_)(j:Int):Nat->Int->Int->(S5 Int)->rY->S6 (S5 Int)|0,_,_,_,_=>S_|fu+1,g,d,e,o=>bif(decide (d<g))then f_ (0<=d/\d<(S7 e:Int))<|L5 h j fu g (n_ d 1) (e.set d.toNat d) o else(ZsN o).bind λt=>E' h j g d e o (L5 h j fu) (((4:Int)-(0:Int)).toNat+2) t (0:Int) e
theorem ZxJ{o t}:∀{j g d e h},LH z XX qJ (L5 o t j g d e h) Fw oH (ab4 o t e g d h):=@qv _ kZ λu=>by intro g d e h;exact kB (sB λy=>kW 2 4 sP e d.toNat d (ltOf y)<|kH (oW ((e.set d.toNat d).length))<|rj 14 [] [] [] [(13,((e.set d.toNat d).length))] [] [] u) (f'<|tA 10 [(13,7)] (ZxI u))
def SF(d:S5 a_)(e:rY)(g:Int):S6 (S5 Int):=f_ (0<=(S7 d:Int)/\(S7 d:Int)<=(S7 d:Int)/\(S7 d:Int)<=140737488355328/\(S7 d:Int) * 8<=140737488355328)<|L5 d g (((((S7 d:Int).toNat:Nat):Int)-(0:Int)).toNat+2) (((S7 d:Int).toNat:Nat):Int) (0:Int) (V6 (S7 d:Int).toNat (0:Int)) e
abbrev za(a:S5 a_)(b:rY)(f:Int):S5 V:=[Yn a,.agg (rY.c b),.one (qT f)]
abbrev wX(a:S5 a_):Int:=(S7 a:Int)
abbrev IN(a:S5 a_):S5 Int:=V6 (wX a).toNat (0:Int)
abbrev Iy(a:S5 a_):Int:=(((wX a).toNat:Nat):Int)
instance{d e g}:pC (SF d e g) (eH 343 [] (za d e g) Fz oH):=sE Tryz.func343 (uU λo1=>kH (show (wX d)=(Iy d)from(Xw o1.1).symm)<|kH (show (Iy d)<=(wX d)from(Int.le_trans (Int.le_of_eq (Xw o1.1)) o1.2.1))<|kH o1.2.2.1<|kH o1.2.2.2<|kH (show ∀i j,i<(wX d).toNat->j<1->zJ (([.lit wo]:S5 C).getD j .oF) (pw uf (0:Int) (IN d) i j)from(R_ (λj hj=>.inl rfl) _))<|kH (show (IN d).length=(wX d).toNat from XO)<|kX 1 (rA [(2,.c ((wX d).toNat) (pw uf (0:Int) (IN d)))])<|rj 8 [] [] [] [(13,((IN d).length))] [] [] ZxJ)
instance{d e g}:o0 (SF d e g) (eS 343 (za d e g) λr=>.one (zc r)):=o0.of λr h=>(show rX _ _ _ _ _ _ from pC.ok h).pure
def Qd:Nat->(S5 a_)->(S5 Int)->Int->Int->(S5 a_)->S6 (S5 a_)|0,_,_,_,_,_=>S_|fu+1,h,g,j,e,o=>bif(decide (e<j))then f_ (0<=e/\e<(S7 g:Int))<|f_ (0<=(g.getD e.toNat 0)/\(g.getD e.toNat 0)<(S7 h:Int))<|f_ ((o++([(h.getD (g.getD e.toNat 0).toNat a_.d)]:S5 a_)).length * 80<=140737488355328/\(o++([(h.getD (g.getD e.toNat 0).toNat a_.d)]:S5 a_)).length<=maxLen)<|Qd fu h g j (n_ e 1) (o++([(h.getD (g.getD e.toNat 0).toNat a_.d)]:S5 a_))else S8 o
theorem ZtF:∀{o t e h g j},LH z Tryz.f310 wB (Qd o t e h g j) xG oH ⟨[(sX t),(7,.one (.p8 7 j.length)),(15,.one (zU e)),(16,(Yj h)),(17,(Yj g))],[(oj 7 41 10 a_.c a_.d j)]⟩:=@qv _ kZ λu=>by intro t e h g j;exact kB (kN<|kN<|kM 2 5 a_.E ([(t.getD (yi e g).toNat a_.d)]:S5 a_)<|kA 2 6 a_.E<|tA 14 [(27,7)] u) (r7 M_ S_)
def Zjc(g:S5 a_)(h:rY)(j:Int):S6 (S5 a_):=(Sz g).bind λe=>(SF e h j).bind λd=>Qd (((S7 d:Int)-(0:Int)).toNat+2) e d (S7 d:Int) (0:Int) ([])
instance{e g h}:pC (Zjc e g h) (eH 310 [] (za e g h) vp oH):=sE Tryz.func310 (f'<|f'<|rj 10 [] [] [] [] [(7,7,41,10,pw a_.c a_.d [])] [] ZtF)
instance{d e g}:o0 (Zjc d e g) (eS 310 (za d e g) Yn):=o0.of λr h=>(show rX _ _ _ _ _ _ from pC.ok h).pure
def Pv:Nat->(S5 a_)->Int->Int->(S5 (pn×Int))->S6 (S5 (pn×Int))|0,_,_,_,_=>S_|fu+1,h,g,e,m8=>bif(decide (e<g))then f_ (0<=e/\e<(S7 h:Int))<|(Ej (((h.getD e.toNat a_.d).c_).b_)).bind λj=>Pv fu h g (n_ e 1) (zZ m8 j (n_ (vi m8 j (0:Int)) (1:Int)))else S8 m8
abbrev xC:Int → V:=λv=>(Yj v)
abbrev xD(a:S5 (pn × Int)):S5 (Value × V):=sJ xF xC a
abbrev xB(a:S5 (pn × Int))(b:pn):Int:=vi a b (0:Int)
theorem ZxL:∀{h j e g m8},LH z Tryz.f344 qJ (Pv h j e g m8) (λr=>[(99999,.map 57 (xD r))]) (λr=>(.one (.mp 99999))) ⟨[(3,.one (.mp 8)),(9,(Yn j)),(sN e),(uH g)],[(8,.map 57 (xD m8))]⟩:=@qv _ kZ λo=>by intro j e g m8;exact kB (kN<|kC λd=>kH (show xU W8 57 (yk d) ((xD m8).map (·.1))from(ZoQ d m8))<|kH (show Ez (xD m8) (yk d) wo ((Yj (xB m8 d)))from(ZFZ (kv:=xF) (vv:=xC) SZ (λS w m=>oI.lit) d m8))<|kH (show xU W8 57 (yk d) ((yk d) :: (xD m8).map (·.1))from(ZoQ (vv:=xC) d ((d,(0:Int)) :: m8)))<|kH (show Aa (xD m8) (yk d) wo ((A8 m8 d:Nat):Int) (sJ xF xC (A7 m8 d (0:Int)))from(ac0 (kv:=xF) (vv:=xC) SZ (λS w m=>oI.lit) (al9 _) d m8))<|kH (show MSt (sJ xF xC (A7 m8 d (0:Int))) ((A8 m8 d:Nat):Int) ((Yj (n_ (xB m8 d) (1:Int)))) (sJ xF xC (zZ m8 d (n_ (xB m8 d) (1:Int))))from(ac2 (kv:=xF) (vv:=xC) d (0:Int) (n_ (xB m8 d) (1:Int)) m8))<|kX 2 (rA [(5,aI (xB m8 d)),(7,.m ((.int .i64 ((A8 m8 d:Nat):Int),.one .oF) :: sJ xF xC (A7 m8 d (0:Int)))),(9,.m (sJ xF xC (zZ m8 d (n_ (xB m8 d) (1:Int)))))])<|kL 14 o) (r7 (oh [2] [8] [(8,99999)]) S_)
def ZqT(d:S5 a_):S6 (S5 (pn×Int)):=Pv (((S7 d:Int)-(0:Int)).toNat+2) d (S7 d:Int) (0:Int) ([]:(S5 (pn×Int)))
instance{d}:pC (ZqT d) (eH 344 [] [Yn d] (λr=>[(99999,.map 57 (xD r))]) λr=>(.one (.mp 99999))):=sE Tryz.func344 (kL 8 ZxL)
def ZqS(d e:a_):S6 Int:=(Eo d.pK e.pK).bind λg=>(JW d.c_ e.c_).bind λh=>(Em ([g,h]:S5 Int)).bind λj=>S8 j
instance{d e}:o0 (ZqS d e) (eS 346 [.agg (si d),.agg (si e)] Yj):=kS Tryz.func346 (kC λg=>kC λh=>kM 1 10 sP ([g,h]:S5 Int)<|f'<|i_)
def JZ(j:S5 a_):Nat->Int->(S5 a_)->Int->Int->(S5 (pn×Int))->S6 Int|0,_,_,_,_,_=>S_|fu+1,h,o,g,e,m8=>bif(decide (e<g))then f_ (0<=e/\e<(S7 o:Int))<|bif(decide (h<0))then JZ j fu e o g (n_ e 1) m8 else(Ej (((o.getD e.toNat a_.d).c_).b_)).bind λt=>f_ (0<=h/\h<(S7 j:Int))<|(Ej (((j.getD h.toNat a_.d).c_).b_)).bind λu=>(Eo (vi m8 t (0:Int)) (vi m8 u (0:Int))).bind λy=>(ZqS (o.getD e.toNat a_.d) (j.getD h.toNat a_.d)).bind λA=>(Em ([y,A]:S5 Int)).bind λB=>bif(decide (B>0))then JZ j fu e o g (n_ e 1) m8 else JZ j fu h o g (n_ e 1) m8 else S8 h
theorem ZyR{y}:∀{j o t g h m8},LS z Tryz.f311 qJ (JZ y j o t g h m8) Yj ⟨[(sX y),(3,.one (.mp 8)),(4,(Yj o)),(9,(Yn t)),(sN g),(uH h)],[(8,.map 57 (xD m8))]⟩:=@qv _ kZ λu=>by intro o t g h m8;exact kB (kN<|kB (kK Tl<|kL 17 u) (kC λd=>kH (show xU W8 57 (yk d) ((xD m8).map (·.1))from(ZoQ d m8))<|kH (show Ez (xD m8) (yk d) wo ((Yj (xB m8 d)))from(ZFZ (kv:=xF) (vv:=xC) SZ (λS w m=>oI.lit) d m8))<|sB λA=>kC λe=>kH (show xU W8 57 (yk e) ((xD m8).map (·.1))from(ZoQ e m8))<|kH (show Ez (xD m8) (yk e) wo ((Yj (xB m8 e)))from(ZFZ (kv:=xF) (vv:=xC) SZ (λS w m=>oI.lit) e m8))<|kC λB=>kH A<|kC λD=>kM 2 25 sP ([B,D]:S5 Int)<|f'<|kB (kX 2 (rA [(8,aI (xB m8 d)),(17,aI (xB m8 e))])<|kL 17 u) (kX 2 (rA [(8,aI (xB m8 d)),(17,aI (xB m8 e))])<|kL 17 u))) i_
def Sy(d:S5 a_):S6 Int:=(ZqT d).bind λe=>JZ d (((S7 d:Int)-(0:Int)).toNat+2) (-1:Int) d (S7 d:Int) (0:Int) e
instance{d}:o0 (Sy d) (eS 311 [Yn d] Yj):=kS Tryz.func311 (kD 1 1 [] [(99999,8)] λ_=>kL 8 ZyR)
def Pd(h:S5 a_)(j:rY)(o:Int):S6 (l_×Bool):=(Zjc h j o).bind λg=>(Sy g).bind λe=>bif(decide (e<0))then S8 ((l_.mk (oV.mk Tm 0 0) 0),Tm)else f_ (0<=e/\e<(S7 g:Int))<|some ((g.getD e.toNat a_.d).c_,Tl)
abbrev DJ(a:l_ × Bool):S5 (Bool × S5 C):=[(Tl,l_.c a.1),(Tm,cB a.2)]
instance{d e g}:o0 (Pd d e g) (eS 260 (za d e g) λr=>.qw (DJ r)):=kS Tryz.func260 (f'<|f'<|kB i_ (kN<|i_))
def Qq(g:S5 l_):Nat->Int->Int->l_->S6 Int|0,_,_,_=>S_|fu+1,h,e,j=>bif(decide (e<h))then f_ (0<=e/\e<(S7 g:Int))<|bif(decide (j=(g.getD e.toNat l_.d)))then S8 e else Qq g fu h (n_ e 1) j else S8 (-1:Int)
abbrev DG(a:l_):S5 (Nat × B):=[(3,.box (l_.c a))]
theorem Zny{j}:∀{g o h e},LS z Tryz.f334 uv (Qq j g o h e) Yj ⟨[(0,(Yo j)),sH,(tG o),(sG h)],(DG e)⟩:=@qv _ kZ λt=>by intro o h e;exact kB (kN<|kQ 2 5 (Ho e (j.getD h.toNat l_.d) (.tmp 11) (.tmp 15))<|kB i_ (kL 17 t)) i_
def Zhj(d:S5 l_)(e:l_):S6 Int:=Qq d (((S7 d:Int)-(0:Int)).toNat+2) (S7 d:Int) (0:Int) e
instance{d e}:o0 (Zhj d e) (eS 334 [Yo d,.agg (l_.c e)] Yj):=kS Tryz.func334 (kL 6 Zny)
def Zdy(d:S5 l_)(e:l_):S6 Bool:=(Zhj d e).bind λg=>S8 (decide (g>=(0:Int)))
instance{d e}:o0 (Zdy d e) (eS 292 [Yo d,.agg (l_.c e)] Yk):=kS Tryz.func292 (f'<|i_)
def SS(d:a_)(c0:S5 l_):S6 Bool:=(Zdy c0 d.c_).bind λe=>S8 e
instance{e c0}:o0 (SS e c0) (eS 291 [.agg (si e),.one (.rp Tm 1 (λj=>([cL 4 l_.c l_.d c0]:S5 C).getD (0+j) .oF))] Yk):=kS Tryz.func291 (f'<|i_)
def Qv(h:S5 a_)(e:S5 l_):Nat->Int->Int->S6 Int|0,_,_=>S_|fu+1,j,g=>bif(decide (g<j))then f_ (0<=g/\g<(S7 h:Int))<|(SS (h.getD g.toNat a_.d) e).bind λo=>bif o then S8 g else Qv h e fu j (n_ g 1)else S8 (-1:Int)
theorem ZjM{h e}:∀{g o t},LS z Tryz.f257 uv (Qv h e g o t) Yj ⟨[(sX h),(1,.one (oq 291 0 1 [] [ot [cL 4 l_.c l_.d e]])),(tG o),(sG t)],[]⟩:=@qv _ kZ λu=>kB (kN<|f'<|kB i_ (kL 17 u)) i_
def Zdr(e:S5 a_)(d:S5 l_):S6 Int:=Qv e d (((S7 e:Int)-(0:Int)).toNat+2) (S7 e:Int) (0:Int)
abbrev acd(a:S5 l_):C:=.qs (.func 291) 0 1 ub (λi=>([.rp Tm 1 (λj=>([cL 4 l_.c l_.d a]:S5 C).getD (0+j) .oF)]:S5 C).getD i .oF)
instance{g e}:o0 (Zdr g e) (eS 257 [Yn g,.one (acd e)] Yj):=kS Tryz.func257 (kL 6 ZjM)
def ME(h:S5 l_):Nat->Int->Int->(S5 a_)->S6 (S5 a_)|0,_,_,_=>S_|fu+1,g,j,e=>bif(decide (j<(S7 e:Int)))then f_ (0<=j/\j<(S7 e:Int))<|(SS (e.getD j.toNat a_.d) h).bind λo=>bif(!o)then f_ (0<=g/\g<(S7 e:Int))<|ME h fu (n_ g 1) (n_ j 1) (e.set g.toNat (e.getD j.toNat a_.d))else ME h fu g (n_ j 1) e else f_ (0<=g/\g<=(S7 e:Int)/\(S7 e:Int)<=(S7 e:Int))<|f_ (g.toNat+(S7 e-g.toNat)<=S7 e)<|f_ (0<=(0:Int)/\(0:Int)<=g/\g<=(S7 e:Int))<|f_ (g.toNat<=(Ak e g.toNat (S7 e-g.toNat) a_.d).length)<|some ((Ak e g.toNat (S7 e-g.toNat) a_.d).take g.toNat)
abbrev DO(b:S5 a_):C:=.p8 100000 b.length
abbrev uW(a:S5 a_):Nat × V:=(0,.one (DO a))
abbrev w5(a:S5 a_):S5 (Nat × B):=[(oj 100000 41 10 a_.c a_.d a)]
abbrev zf(a:S5 a_)(b:Int):S5 a_:=Ak a b.toNat (S7 a-b.toNat) a_.d
theorem ZjF{h}:∀{t g o e},LH z Tryz.f290 wB (ME h t g o e) xG oH ⟨[(uW e),(1,.one (oq 291 0 1 [] [ot [cL 4 l_.c l_.d h]])),(tt g),(uV o)],(w5 e)⟩:=@qv _ kZ λA=>by intro g o e;exact kB (zl<|f'<|kB (sB λD=>kW 3 4 a_.E e g.toNat (uJ e o) (ltOf D)<|kH (oW ((e.set g.toNat (uJ e o)).length))<|rj 19 [] [] [] [(100000,((e.set g.toNat (uJ e o)).length))] [] [] A) (kL 17 A)) (kN<|uU λu=>kH (show (zf e g).length=e.length from(Oz _ _ _ _ u))<|kH (show ∀i j,i<S7 e->j<10->(i<g.toNat\/g.toNat+(S7 e-g.toNat)<=i)->pw a_.c a_.d (zf e g) i j=pw a_.c a_.d e i j from(ZDc _ _ _ u))<|kH (show ∀i j,i<(S7 e-g.toNat)->j<10->zJ (acf j) (pw a_.c a_.d (zf e g) (g.toNat+i) j)from(ZDd _ _ _ u (λj hj=>.inl rfl)))<|kN<|kH (oW 0)<|uU λy=>kH (show ((zf e g).take g.toNat).length=g.toNat from(ZBL _ _ y))<|kH (show ∀i j,i<g.toNat->j<10->pw a_.c a_.d ((zf e g).take g.toNat) i j=pw a_.c a_.d (zf e g) i j from(RD _ _))<|kX 1 (rA [(3,.c (zf e g).length (pw a_.c a_.d (zf e g)))])<|kX 2 (rA [(3,.c ((zf e g).take g.toNat).length (pw a_.c a_.d ((zf e g).take g.toNat)))])<|r7 (oh [4] [4] [(4,99999)]) S_)
def Zdk(e:S5 a_)(d:S5 l_):S6 (S5 a_):=(Zdr e d).bind λg=>bif(g==(-1:Int))then S8 e else ME d (((S7 e:Int)-(n_ g 1)).toNat+2) g (n_ g 1) e
abbrev AZ(a:S5 a_):S5 (Nat × B):=[(100000,.rows 41 10 a.length (pw a_.c a_.d a))]
instance{g e}:pC (Zdk g e) (eH 290 (AZ g) [.one (DO g),.one (acd e)] vp oH):=sE Tryz.func290 (f'<|kB (r7 ⟨[],[],[],[],[],[4],[100000],[(100000,99999)]⟩ S_) (kL 13 ZjF))
def OW(d:S5 a_)(e:S5 l_):S6 (S5 a_):=(Du d).bind λg=>(Zdk g e).bind λh=>S8 h
abbrev abU:NA:=⟨[],[],[],[],[],[4],[8],[(8,99999)]⟩
instance{e g}:pC (OW e g) (eH 226 [] [Yn e,Yo g] vp oH):=sE Tryz.func226 (kD 1 1 [] [(99999,6)] λ_=>kD 1 3 [(100000,6)] [(99999,8)] λ_=>kX 1 ⟨[],[],[(2,[3])],[],[],[],[]⟩<|r7 abU S_)
instance{d e}:o0 (OW d e) (eS 226 [Yn d,Yo e] Yn):=o0.of λr h=>(show rX _ _ _ _ _ _ from pC.ok h).pure
def Zlx(d:S5 a_)(c0:l_):S6 Bool:=(Hp d c0).bind λe=>S8 (decide (e>=(0:Int)))
instance{d c0}:o0 (Zlx d c0) (eS 263 [Yn d,.one (.rp Tm 4 (Cj c0))] Yk):=kS Tryz.func263 (f'<|i_)
def Qu(g:(S5 (S5 a_)))(d:l_):Nat->Int->Int->S6 Int|0,_,_=>S_|fu+1,h,e=>bif(decide (e<h))then f_ (0<=e/\e<(S7 g:Int))<|(Zlx (g.getD e.toNat []) d).bind λj=>bif j then S8 e else Qu g d fu h (n_ e 1)else S8 (-1:Int)
theorem ZjN{h e}:∀{g o t},LS z Tryz.f262 uv (Qu h e g o t) Yj ⟨[(0,.one (wm h)),(1,.one (oq 263 0 1 [] [.rp Tm 4 (Cj e)])),(tG o),(sG t)],[]⟩:=@qv _ kZ λu=>kB (kN<|f'<|kB i_ (kL 17 u)) i_
def Zds(e:(S5 (S5 a_)))(d:l_):S6 Int:=Qu e d (((S7 e:Int)-(0:Int)).toNat+2) (S7 e:Int) (0:Int)
instance{g e}:o0 (Zds g e) (eS 262 [.one (wm g),.one (.qs (.func 263) 0 1 ub (Ng e))] Yj):=kS Tryz.func262 (kL 6 ZjN)
def PF(h:uS)(F:qA)(e:(S5 (S5 a_))):S6 (o7 (oZ×Bool)):=(S3 h).bind λg=>f_ (0<=g/\g<(S7 e:Int))<|(Hp (e.getD g.toNat []) h.fx.c_).bind λI=>bif(decide (I>=(0:Int)))then(SU (7:Int)).bind λJ=>S8 (o7.ret (J,Tl) F)else tb (LU F h.fc.rf Tl) λA j=>bif A then(Mb h (e.getD g.toNat [])).bind λL=>tb (Dp j g (e.getD g.toNat []) L) λM B=>S8 (o7.ret ((oZ.mk 0 (l_.mk (oV.mk Tm 0 0) 0) 0 0 []),Tm) B)else(ZeB e).bind λO=>(Pd O h.fc.qu h.fc.pX).bind λy=>bif(!y.2)then(SU (5:Int)).bind λU=>S8 (o7.ret (U,Tl) j)else(Zds e y.1).bind λd=>f_ (0<=d/\d<(S7 e:Int))<|(OW (e.getD d.toNat []) ([y.1]:S5 l_)).bind λo=>tb (Dp j d (e.getD d.toNat []) o) λG t=>(Mb h ((e.set d.toNat o).getD g.toNat [])).bind λD=>tb (Dp t g ((e.set d.toNat o).getD g.toNat []) D) λH u=>S8 (o7.ret ((oZ.mk 0 y.1 1 0 []),Tl) u)
theorem ZtU(F:uS)(a1:qA)(o:(S5 (S5 a_)))(r:(o7 (oZ×Bool)))(g:PF F a1 o=S8 r):Fi W8 186 [(100000,.box (qA.c a1)),(oj 100001 51 1 (wa 10 a_.c a_.d) [] o)] [.agg (uS.c F),.one (.th 84 (.ptr 100000 0)),.one (.p8 100001 o.length)] (oc (λx=>.qw [(Tl,oZ.c x.1),(Tm,cB x.2)]) r):=by
 refine Fi.of Tryz.func186 rfl rfl rfl rfl λS0 w0=>?_;unfold PF at g;obtain⟨A,q1,g⟩:=vC g;obtain⟨o2,g⟩:=yg g;obtain⟨U,q3,g⟩:=vC g;have O1:=(oA (show Yq 180 [.agg (uS.c F)] (Yj A)from(o0.ok q1)) o2 (ltOf o2) (show Yq 182 [(Yn (o.getD A.toNat [])),.agg (l_.c F.fx.c_)] (Yj U)from(o0.ok q3)));obtain⟨L,g⟩|⟨L,g⟩:=Dk g
 .obtain⟨x3,q5,g⟩:=vC g;obtain rfl:=oi g;exact Yd 10 [rz,rA [(1,aI A)],rA [(7,aI U)],rA [(0,aG (oZ.c x3))]] [Tl] (oe [6,7] [6,100000]) (oK O1 L (show Yq 119 [Yj (7:Int)] (.agg (oZ.c x3))from(o0.ok q5)))
 .obtain⟨x4,W,g⟩:=vC g;cases x4 with
  |ret Z x4g=>
   dsimp only at g
   let R2:S5 RA:=[rz,rA [(1,aI A)],rA [(7,aI U)],rH [] [(4,⟨[(100000,100000)],[],[(100000,.box (qA.c x4g))],(Yk Z)⟩)]]
   obtain⟨h7,g⟩|⟨h7,g⟩:=Dk g
   .obtain⟨x5,q8,g⟩:=vC g;have O3:=(oQ O1 L (qg.ok W) h7 o2 (ltOf o2) o2 (ltOf o2) (show Yq 185 [.agg (uS.c F),(Yn (o.getD A.toNat []))] (Yn x5)from(o0.ok q8)));obtain⟨x6,q9,g⟩:=vC g;cases x6 with
    |ret x6v x6g=>
     dsimp only at g;obtain rfl:=oi g;exact Yd 17 (R2++[rH [(11,.r (Yn x5) [])] [(12,⟨[(100000,100000)],[],[(100000,.box (qA.c x6g))],.qw []⟩)],rz]) [Tm,Tl] (og [(6,[(7,cL 10 a_.c a_.d [])])] [6,7] [6,100000]) (oJ O3 (qg.ok q9))
    |_=>
     dsimp only at g;obtain rfl:=oi g;exact Yh 14 R2 [Tm,Tl] (rA [(11,.r (Yn x5) [])]) 12 ⟨[(100000,100000)],Co q9⟩ (oJ O3 (qg.ok q9))
   .obtain⟨B,nW,g⟩:=vC g;obtain⟨D,q11,g⟩:=vC g
    let R4:S5 RA:=(R2++[rH [(8,.r (.qw [(Tl,l_.c D.1),(Tm,cB D.2)]) [])] [(1,⟨[],[(99999,46)],[(oj 99999 41 10 a_.c a_.d B)],.one (.p8 99999 B.length)⟩),(1001,⟨[],[(99999,46)],[(oj 99999 41 10 a_.c a_.d B)],.one (.p8 99999 B.length)⟩)],rz])
    have O5:=(oO O1 L (qg.ok W) h7 (show Yr 261 [] [.one (cL 1 (wa 10 a_.c a_.d) [] o)] [(oj 99999 41 10 a_.c a_.d B)] (.one (.p8 99999 B.length))from(pC.ok nW)) (show ∀i j,i<S7 B->j<10->∃y,pw a_.c a_.d B i j=.lit y from(On (sz:=10) (e:=a_.c) (d:=a_.d) (λ_=>rfl) (λ_=>rfl) _ _)) (show Yq 260 [Yn B,.agg (rY.c F.fc.qu),.one (.lit (.int .u64 F.fc.pX))] (.qw [(Tl,l_.c D.1),(Tm,cB D.2)])from(o0.ok q11)));obtain⟨G,g⟩|⟨G,g⟩:=Dk g
    .obtain⟨x9,nX,g⟩:=vC g;obtain rfl:=oi g;exact Yd 22 (R4++[rA [(0,aG (oZ.c x9))]]) [Tm,Tm,Tl] (oe [6,7] [6,100000]) (oK O5 G (show Yq 119 [Yj (5:Int)] (.agg (oZ.c x9))from(o0.ok nX)))
    .obtain⟨h,nY,g⟩:=vC g;obtain⟨u,g⟩:=yg g;obtain⟨t,nZ,g⟩:=vC g
     let R6:S5 RA:=(R4++[⟨[(2,aI h)],[],[(1,[9])],[],[],[],[]⟩,⟨[(6,.r (Yn t) [])],[],[],[],[],[(5,(([D.1]:S5 l_).length,pw l_.c l_.d ([D.1]:S5 l_)))],[]⟩])
     have O7:=(oQ O5 G (show Yq 262 [.one (cL 1 (wa 10 a_.c a_.d) [] o),.one (oq 263 0 1 [] [.rp Tm 4 (λj=>(l_.c D.1:S5 C).getD (0+j) .oF)])] (Yj h)from(o0.ok nY)) u (ltOf u) (oU (e:=l_.c) l_.d 4 (λ_=>rfl) ([D.1]:S5 l_)) (show Yq 226 [(Yn (o.getD h.toNat [])),Yo ([D.1]:S5 l_)] (Yn t)from(o0.ok nZ)) u (ltOf u));obtain⟨eN,H,g⟩:=vC g;cases eN with
     |ret aD7 M=>
      dsimp only at g;obtain⟨I,n5,g⟩:=vC g
      let R8:S5 RA:=(R6++[rH [] [(7,⟨[(100000,100000)],[],[(100000,.box (qA.c M))],.qw []⟩)],rA [(4,.c (o.set h.toNat t).length (pw (wa 10 a_.c a_.d) [] (o.set h.toNat t)))]])
      have O9:=(oS O7 (qg.ok H) u (show (o.set h.toNat t).length=o.length from List.length_set) (ltOf u) (show zj 1 o.length (pw (wa 10 a_.c a_.d) [] o) h.toNat 0 ((wa 10 a_.c a_.d) t) (pw (wa 10 a_.c a_.d) [] (o.set h.toNat t))from(ZGB _ _ _ rfl)) o2 (show A.toNat<(o.set h.toNat t).length from(by have:=ltOf o2;simp at this ⊢;omega)) o2 (show A.toNat<(o.set h.toNat t).length from(by have:=ltOf o2;simp at this ⊢;omega)) (show Yq 185 [.agg (uS.c F),(Yn ((o.set h.toNat t).getD A.toNat []))] (Yn I)from(o0.ok n5)));obtain⟨ej,J,g⟩:=vC g;cases ej with
      |ret aD6 O=>
       dsimp only at g;obtain rfl:=oi g;exact Yd 33 (R8++[rH [(11,.r (Yn I) [])] [(12,⟨[(100000,100000)],[],[(100000,.box (qA.c O))],.qw []⟩)],rz]) [Tm,Tm,Tm] (og [(6,[(7,cL 10 a_.c a_.d [])])] [6,7] [6,100000]) (oJ O9 (qg.ok J))
      |_=>
       dsimp only at g;obtain rfl:=oi g;exact Yh 30 R8 [Tm,Tm,Tm] (rA [(11,.r (Yn I) [])]) 12 ⟨[(100000,100000)],Co J⟩ (oJ O9 (qg.ok J))
     |_=>
      dsimp only at g;obtain rfl:=oi g;exact Yh 26 R6 [Tm,Tm,Tm] (rz) 7 ⟨[(100000,100000)],Co H⟩ (oJ O7 (qg.ok H))
  |_=>
   dsimp only at g;obtain rfl:=oi g;exact Yh 11 [rz,rA [(1,aI A)],rA [(7,aI U)]] [Tm] (rz) 4 ⟨[(100000,100000)],Co W⟩ (oK O1 L (qg.ok W))
instance (g:uS) (h:qA) (e:(S5 re)):qg (PF g h e) 186 [(AW h),(100001,.rows 51 1 e.length (pw tv [] e))] [.agg (uS.c g),.one tc,.one (.p8 100001 e.length)] (λx=>.qw [(Tl,oZ.c x.1),(Tm,cB x.2)]):=⟨λ{r} j=>ZtU g h e r j⟩
def Fc(g:Int)(h:Bool):Nat->Int->qA->S6 (o7 Unit)|0,_,_=>S_|fu+1,e,d=>bif(decide (e>=(0:Int)))then bif h then(OX g).bind λt=>tb (uT d (n_ (2:Int) e) (e==(pR t (1:Int)))) λu j=>Fc g h fu (pR e (1:Int)) j else tb (uT d (n_ (2:Int) e) Tm) λy o=>Fc g h fu (pR e (1:Int)) o else S8 (o7.ret () d)
theorem ZwY{h j}:∀{g o e},LO z Tryz.f129 [1,0] (Fc h j g o e) tQ ⟨[Cc,(q7 h),(2,(Yk j)),(uV o)],(qF e)⟩:=@qv _ kZ λt=>kB (kB (f'<|kH BZ<|ri λ_ _=>kL 12 t) (kH BZ<|ri λ_ _=>kL 12 t)) qy
def Hs(g:qA)(d:Int)(h:Bool):S6 (o7 Unit):=(OX d).bind λe=>Fc d h (((pR e (1:Int))-(0:Int)).toNat+2) (pR e (1:Int)) g
instance{d e g}:qg (Hs d e g) 129 (qF d) [.one tc,Yj e,Yk g] tQ:=kO Tryz.func129 (f'<|kL 3 ZwY)
def PE:Nat->Int->Int->(S5 (S5 a_))->qA->uS->oZ->S6 (o7 oZ)|0,_,_,_,_,_,_=>S_|fu+1,h,e,g,d,o,B=>bif(decide (e<h))then tb (El d e) λt u=>f_ (0<=e/\e<(S7 g:Int))<|PE fu h (n_ e 1) (g.set e.toNat t) u o B else tb (PF o d g) λj y=>tb (Hs y o.fc.e_ j.2) λD A=>S8 (o7.ret j.1 A)
abbrev Im:Ec (S5 a_):=⟨1,tv,([]:re)⟩
abbrev Ft:Nat × V:=(1,.one tc)
theorem ZuX:∀{y u j h g e o},LO z Tryz.f122 wB (PE y u j h g e o) tu ⟨[Ft,tH,sQ,(5,.one (.p8 17 h.length)),(19,(Yj u)),(20,(Yj j))],[(oj 17 51 1 tv [] h),(AW g),(2,.box (uS.c e)),(4,.box (oZ.c o))]⟩:=@qv _ kZ λA=>by intro u j h g e o;exact kB (rI λt _=>sB λB=>kW 2 6 Im h j.toNat t (ltOf B)<|kH (oW ((h.set j.toNat t).length))<|rj 14 [] [] [] [(17,((h.set j.toNat t).length))] [] [] A) (kX 1 (rH [] [(3,⟨[(100000,100000),(100001,17)],[],[],.one .oF⟩)])<|rI λ_ _=>rI λ_ _=>qy)
def ZmX(d:uS)(g:qA):S6 (o7 oZ):=tb (Ht g d.fc.e_) λh e=>f_ (0<=d.fc.e_/\d.fc.e_<=d.fc.e_/\d.fc.e_<=140737488355328/\d.fc.e_ * 24<=140737488355328)<|PE ((((d.fc.e_.toNat:Nat):Int)-(0:Int)).toNat+2) ((d.fc.e_.toNat:Nat):Int) (0:Int) (V6 d.fc.e_.toNat ([]:(S5 a_))) e d (oZ.mk 0 (l_.mk (oV.mk Tm 0 0) 0) 0 0 [])
abbrev IG(a:uS):S5 (S5 a_):=V6 a.fc.e_.toNat ([]:re)
instance{e g}:qg (ZmX e g) 122 (qF g) [.agg (uS.c e),.one tc] tu:=kO Tryz.func122 (rI λ_ _=>uU λo2=>kH (show e.fc.e_=((e.fc.e_.toNat:Nat):Int)from(Xw o2.1).symm)<|kH (show ((e.fc.e_.toNat:Nat):Int)<=e.fc.e_ from(Int.le_trans (Int.le_of_eq (Xw o2.1)) o2.2.1))<|kH o2.2.2.1<|kH o2.2.2.2<|kH (show ∀i j,i<e.fc.e_.toNat->j<1->zJ (([.lit (.slice S_ 0 0)]:S5 C).getD j .oF) (pw tv [] (IG e) i j)from(R_ (λj hj=>match j,hj with|0,_=>.inr ⟨rfl,_,_,rfl⟩|j+1,h=>aFe h (by omega)) _))<|kH (show (IG e).length=e.fc.e_.toNat from XO)<|kX 2 (rA [(3,.c e.fc.e_.toNat (pw tv [] (IG e)))])<|rj 10 [] uI [] [(17,((IG e).length))] [] [] ZuX)
def ZkV(d:uS)(F:qA):S6 (o7 oZ):=(LJ d.fx).bind λJ=>bif(!J)then tb (L9 F Tl) λL t=>(SU (1:Int)).bind λM=>S8 (o7.ret M t)else tb (Mh F (0:Int) Tm) λO u=>tb (zu u (pM.mk 3 0 0) Tm) λy e=>(Hn y.po d.fx.c_.b_ d.fx.pE).bind λG=>bif(decide (G>0))then tb (Hu e (0:Int) Tl) λU A=>S8 (o7.ret (oZ.mk 8 (l_.mk (oV.mk Tm 0 0) 0) 0 G []) A)else tb (ZlW d e) λg h=>bif(!g.2)then tb (ZmX d h) λB D=>tb (Hu D (0:Int) Tm) λH j=>S8 (o7.ret B j)else tb (Hu h (0:Int) Tm) λI o=>S8 (o7.ret g.1 o)
instance{e g}:qg (ZkV e g) 63 (qF g) [.agg (uS.c e),.one tc] tu:=kO Tryz.func63 (f'<|kB (ri λ_ _=>f'<|qy) (ri λ_ _=>ri λ_ _=>f'<|kB (ri λ_ _=>ya [] uI []) (rI λ_ _=>kB (rI λ_ _=>ri λ_ _=>qy) (ri λ_ _=>qy))))
def ZsF(d:p5)(e:pD):S6 vo:=S8 (vo.K2 (uS.mk d e))
abbrev Ij(a:p5)(b:pD):S5 V:=[.agg (sg a),.agg (pD.c b)]
instance{d e}:o0 (ZsF d e) (eS 28 (Ij d e) λr=>.one (vo.c r)):=kS Tryz.func28 (i_)
def Hq(d:Int):S6 oZ:=S8 (oZ.mk d (l_.mk (oV.mk Tm 0 0) 0) 0 0 [])
instance{e}:o0 (Hq e) (eS 126 [Yj e] tu):=kS Tryz.func126 (kR [] [(2,uc)] [])
def ZmM(j:sM)(e:qA):S6 (o7 oZ):=tb (L9 e Tl) λg d=>(Hq (1:Int)).bind λh=>S8 (o7.ret h d)
abbrev DI(a:sM):S5 V:=[.agg (sM.c a),.one tc]
instance{d e}:qg (ZmM d e) 65 (qF e) (DI d) tu:=kO Tryz.func65 (ri λ_ _=>f'<|qy)
def G9:S6 pM:=S8 (pM.mk 4 0 0)
instance:o0 (G9) (eS 133 [] AL):=kS Tryz.func133 (i_)
def HE:Nat->Int->Int->qA->tr->(S5 k_)->(S5 a_)->(S5 oD)->S6 (o7 tr)|0,_,_,_,_,_,_,_=>S_|fu+1,t,j,e,y,g,d,h=>bif(decide (j<t))then tb (El e j) λo u=>f_ ((d++o).length * 80<=140737488355328/\(d++o).length<=maxLen)<|HE fu t (n_ j 1) u y g (d++o) h else S8 (o7.ret (tr.mk g d h) e)
theorem Zvp:∀(F:Nat)(u y:Int)(h:qA)(B:tr)(j:S5 k_)(g:S5 a_)(o:S5 oD)(r:(o7 tr)),HE F u y h B j g o=S8 r->Good W8 34 S0 w0 (bodyPost W8 Ya (MU S0 w0 (oc (λx=>.agg (tr.c x)) r))) (at_ [1,1,0,1,0] (Ed Ya)) ⟨[(1,.one (.th 84 (.ptr 100000 0))),(4,.one (.ptr 4 0)),(5,.one (.ptr 5 0)),(21,(Yj u)),(22,(Yj y))],[(100000,.box (qA.c h)),(4,.box (tr.c B)),(oj 80501 41 10 a_.c a_.d g),(5,.box [cL 7 k_.c k_.d j,.p8 80501 g.length,cL 5 oD.c oD.d o])]⟩:=by
 intro F;induction F with
 |zero=>
  intro u y h B j g o r t;simp[HE]at t
 |succ F J=>
  intro u y h B j g o r t;unfold HE at t;obtain⟨G,t⟩|⟨G,t⟩:=Dk t
  .obtain⟨L,H,t⟩:=vC t;cases L with
   |ret A D=>
    dsimp only at t;obtain⟨I,t⟩:=yg t;exact Ye 14 [rz,rz,rH [(5,.c ((g++A).length) (pw a_.c a_.d (g++A)))] [(4,⟨[(100000,100000)],[],[(100000,.box (qA.c D))],(Yn A)⟩)],rz] [Tl] (oh [1,4,5,21,22] [100000,4,30,5] [(30,80501)]) (oB G (qg.ok H) (ZCJ (sz:=10) (e:=a_.c) (d:=a_.d) g A) I.1 I.2) (J u (n_ y 1) D B j (g++A) o r t)
   |_=>
    dsimp only at t;obtain rfl:=oi t;exact Yh 10 [rz,rz] [Tl] (rz) 4 ⟨[(100000,100000)],Co H⟩ (oy G (qg.ok H))
  .obtain rfl:=oi t;exact Yd 8 [rz,rz] [Tm] ⟨[80501],[],[],[],[],[4],[4,100000],[]⟩ (ow G)
def Pw(j:sM)(o:qA):S6 (o7 tr):=tb (zu o (pM.mk 3 0 0) Tm) λd e=>(G9).bind λt=>tb (zu e t Tm) λg h=>HE ((j.fc.e_-(0:Int)).toNat+2) j.fc.e_ (0:Int) h (tr.mk [] [] []) g.j_ ([]) d.po
theorem Zxc(t:sM)(B:qA)(r:(o7 tr))(e:Pw t B=S8 r):Fi W8 194 [(100000,.box (qA.c B))] [.agg (sM.c t),.one (.th 84 (.ptr 100000 0))] (oc (λx=>.agg (tr.c x)) r):=by
 refine Fi.of Tryz.func194 rfl rfl rfl rfl λS0 w0=>?_;unfold Pw at e;obtain⟨D,u,e⟩:=vC e;cases D with
 |ret g h=>
  dsimp only at e;obtain⟨y,F,e⟩:=vC e;have O1:=(oA (qg.ok u) RY (show Yq 133 [] (.agg (pM.c y))from(o0.ok F)) Ls);obtain⟨G,A,e⟩:=vC e;cases G with
  |ret j o=>
   dsimp only at e;exact Ye 8 [rz,rH [(2,.id 423),(5,aG (pM.c y)),(9,.id 423)] [(2,⟨[(100000,100000)],[],[(100000,.box (qA.c h))],.agg (oM.c g)⟩),(9,⟨[(100000,100000)],[],[(100000,.box (qA.c o))],.agg (oM.c j)⟩)],rz] [] ⟨[],[(4,[(0,cL 7 k_.c k_.d []),(1,cL 10 a_.c a_.d []),(2,cL 5 oD.c oD.d [])])],[],[],[(205001,80501,41,10,pw a_.c a_.d [])],[1,4,5,21,22],[100000,4,80501,5],[]⟩ (oK O1 (qg.ok A) RY) (Zvp S0 w0 ((t.fc.e_-(0:Int)).toNat+2) t.fc.e_ (0:Int) o tr.d j.j_ ([]) g.po r e)
  |_=>
   dsimp only at e;obtain rfl:=oi e;exact Yh 3 [rz] [] (rH [(2,.id 423),(5,aG (pM.c y)),(9,.id 423)] [(2,⟨[(100000,100000)],[],[(100000,.box (qA.c h))],.agg (oM.c g)⟩)]) 9 ⟨[(100000,100000)],Co A⟩ (oK O1 (qg.ok A) RY)
 |_=>
  dsimp only at e;obtain rfl:=oi e;exact Yh 3 [rz] [] (rA [(2,.id 423)]) 2 ⟨[(100000,100000)],Co u⟩ (oz Ls (qg.ok u) RY)
instance (d:sM) (e:qA):qg (Pw d e) 194 (qF e) (DI d) (λx=>.agg (tr.c x)):=⟨λ{r} g=>Zxc d e r g⟩
def ZuN(d:k_)(e:Int):S6 Bool:=bif(d.ql==(1:Int))then S8 (decide (d.pS<=e))else S8 Tm
abbrev sA(a:k_):S5 C:=k_.c a
instance{d e}:o0 (ZuN d e) (eS 269 [.agg (sA d),Yj e] Yk):=kS Tryz.func269 (kB i_ i_)
def O'(d:k_):S6 Bool:=bif(decide (d.ql>=(1:Int)))then(O6 d.c_).bind λe=>bif e then bif(decide (d.ql<=(3:Int)))then bif(decide (d.p6>=(0:Int)))then bif(decide (d.p6<=(1000:Int)))then(zt d.pS).bind λg=>S8 (d.pS==g)else S8 Tm else S8 Tm else S8 Tm else S8 Tm else(O6 d.c_).bind λh=>bif h then S8 Tm else S8 Tm
instance{d}:o0 (O' d) (eS 210 [.agg (sA d)] Yk):=kS Tryz.func210 (kB (f'<|kB (kB (kB (kB (f'<|i_) i_) (kK Tm<|i_)) (kK Tm<|kK Tm<|i_)) (kK Tm<|kK Tm<|kK Tm<|i_)) (f'<|kB (kK Tm<|kK Tm<|kK Tm<|i_) (kK Tm<|kK Tm<|kK Tm<|i_)))
def ZcZ(d:S5 qd):S6 (S5 qd):=f_ (0<S7 d)<|f_ ((([]:S5 qd)++d).length * 40<=140737488355328/\(([]:S5 qd)++d).length<=maxLen)<|some (([]:S5 qd)++d)
abbrev IZ:S5 qd → S5 (Nat × B):=λr=>[(99999,.rows 306 5 r.length (pw qd.c qd.d r))]
abbrev DB(a:S5 qd):C:=cL 5 qd.c qd.d a
instance{g}:pC (ZcZ g) (eH 314 [] [.one (DB g)] IZ oH):=sE X4 (kN<|kK Tm<|kH (show ([]:S5 qd).length=0 from rfl)<|kH (show ∀i j,i<0->j<5->pw qd.c qd.d [] i j=(([]:S5 qd).flatMap qd.c).getD (i * 5+j) .oF from(λi j hi hj=>vJ (sz:=5) (e:=qd.c) (d:=qd.d) (λ_=>rfl) [] i j hi hj))<|kA 2 2 qd.E<|kX 2 (rA [(0,.c ([]:S5 qd).length (pw qd.c qd.d []))])<|r7 Ci S_)
def Zbw(d:S5 qd):S6 (S5 qd):=f_ (S7 d * 40<=140737488355328/\S7 d<=maxLen)<|some d
instance{e}:pC (Zbw e) (eH 314 [] [.one (cL 5 qd.c qd.d e)] (λr=>[(99999,.rows 306 5 r.length (pw qd.c qd.d r))]) λr=>.one (.p8 99999 r.length)):=pC.of (Lp (gn:=ZcZ) X4 (by kernel_rfl) Tryz.underlying303 (λ_ _ _=>by kernel_rfl) (λ_ _=>by kernel_rfl) (λ_ _ h=>show rX _ _ _ _ _ _ from pC.ok h) (λl h o=>by unfold ZcZ;rw[CO h,CO (by simpa using o)];simp) e)
def Zsx(d e:qd):S6 Int:=(Eo d.yp e.yp).bind λg=>(JW d.c_ e.c_).bind λh=>(Em ([g,h]:S5 Int)).bind λj=>S8 j
instance{d e}:o0 (Zsx d e) (eS 367 [.agg (qd.c d),.agg (qd.c e)] Yj):=kS Tryz.func367 (kC λg=>kC λh=>kM 1 10 sP ([g,h]:S5 Int)<|f'<|i_)
def Zsy(d e:qd):S6 Bool:=(Zsx d e).bind λg=>S8 (decide (g<0))
instance{d e}:o0 (Zsy d e) (eS 347 [.agg (qd.c d),.agg (qd.c e)] Yk):=kS Tryz.func347 (f'<|i_)
def E9(h:Int)(aX:Int->(S5 qd)->S6 (S5 qd)):Nat->Int->Int->(S5 qd)->S6 (S5 qd)|0,_,_,_=>S_|fu+1,g,j,e=>bif(decide (j<=(n_ (u6 (2:Int) h) (2:Int))))then bif(decide (j<(S7 e:Int)))then f_ (0<=j/\j<(S7 e:Int))<|f_ (0<=g/\g<(S7 e:Int))<|(Zsy (e.getD j.toNat qd.d) (e.getD g.toNat qd.d)).bind λo=>bif o then E9 h aX fu j (n_ j 1) e else E9 h aX fu g (n_ j 1) e else bif(g==h)then S8 e else f_ (0<=g/\g<(S7 e:Int))<|f_ (0<=h/\h<(S7 e:Int))<|aX g ((e.set h.toNat (e.getD g.toNat qd.d)).set g.toNat (e.getD h.toNat qd.d))else bif(g==h)then S8 e else f_ (0<=g/\g<(S7 e:Int))<|f_ (0<=h/\h<(S7 e:Int))<|aX g ((e.set h.toNat (e.getD g.toNat qd.d)).set g.toNat (e.getD h.toNat qd.d))
abbrev AQ(b:S5 qd)(e:Int):qd:=b.getD e.toNat qd.d
abbrev IW(a:S5 qd)(b c:Int):Nat:=((a.set b.toNat (AQ a c)).set c.toNat (AQ a b)).length
abbrev ab8(a:S5 qd)(b:Int):St:=⟨[(0,.one (.p8 100000 a.length)),(q7 b)],[(oj 100000 306 5 qd.c qd.d a)]⟩
theorem ZAc{j:Int}{aX:Int->(S5 qd)->S6 (S5 qd)}(bR:∀{u g},LH z XY [0] (aX u g) (ol 100000 306 5 qd.c qd.d) (λr=>ue) (ab8 g u)):∀{y h A e},LH z XY [0,0,0,1,0,1,0] (E9 j aX y h A e) (ol 100000 306 5 qd.c qd.d) (λr=>ue) ⟨[(0,.one (.p8 100000 e.length)),(q7 j),(4,(Yj h)),(tt A)],[(oj 100000 306 5 qd.c qd.d e)]⟩:=@qv _ kZ λF=>by intro h A e;exact kB (kB (zl<|zl<|f'<|kB (kL 15 F) (kL 15 F)) (kB (yD [] [] [] [100000]) (sB λB=>kH (ltOf B)<|sB λD=>kH (ltOf D)<|kH D<|kW 2 13 qd.E e j.toNat (AQ e h) (ltOf D)<|kH B<|kW 2 15 qd.E (e.set j.toNat (AQ e h)) h.toNat (AQ e j) (by have:=ltOf B;simp at this ⊢;omega)<|kH (oW (IW e j h))<|rj 16 [] [] [] [(100000,(IW e j h))] [] [] bR))) (kK Tm<|kB (yD [] [] [] [100000]) (sB λo=>kH (ltOf o)<|sB λt=>kH (ltOf t)<|kH t<|kW 2 13 qd.E e j.toNat (AQ e h) (ltOf t)<|kH o<|kW 2 15 qd.E (e.set j.toNat (AQ e h)) h.toNat (AQ e j) (by have:=ltOf o;simp at this ⊢;omega)<|kH (oW (IW e j h))<|rj 16 [] [] [] [(100000,(IW e j h))] [] [] bR))
def SP:Nat->Int->(S5 qd)->S6 (S5 qd)|0,_,_=>S_|fu+1,e,d=>E9 e (SP fu) (((S7 d:Int)-(n_ (u6 (2:Int) e) (1:Int))).toNat+2) e (n_ (u6 (2:Int) e) (1:Int)) d
theorem ZAd:∀{g h e},LH z XY [0] (SP g h e) (ol 100000 306 5 qd.c qd.d) (λr=>ue) (ab8 e h):=@qv _ kZ λj=>kL 8 (ZAc j)
def ON(d:S5 qd)(e:Int):S6 (S5 qd):=SP 1000000 e d
instance{e g}:pC (ON e g) (eH 315 [(100000,.rows 306 5 e.length (pw qd.c qd.d e))] [.one (.p8 100000 e.length),Yj g] (λr=>[(100000,.rows 306 5 r.length (pw qd.c qd.d r))]) λr=>ue):=sE Tryz.func315 (kL 1 ZAd)
def SO:Nat->Int->(S5 qd)->S6 (S5 qd)|0,_,_=>S_|fu+1,d,e=>bif(decide (d>=(0:Int)))then(ON e d).bind λg=>SO fu (pR d (1:Int)) g else S8 e
theorem ZAe:∀{e j g},LH z Tryz.f313 qJ (SO e j g) (ol 99999 306 5 qd.c qd.d) oH ⟨[(3,.one (.p8 6 g.length)),(4,(Yj j))],[(oj 6 306 5 qd.c qd.d g)]⟩:=@qv _ kZ λo=>kB (kD 1 2 [(100000,6)] [] λh=>kH (oW h.length)<|rj 12 [] [] [] [(6,S7 h)] [] [] o) (r7 (oh [2] [6] [(6,99999)]) S_)
def LA(e:S5 qd):S6 (S5 qd):=(Zbw e).bind λd=>SO (((pR (US .i64 (Yc (S7 d:Int) (2:Int))) (1:Int))-(0:Int)).toNat+2) (pR (US .i64 (Yc (S7 d:Int) (2:Int))) (1:Int)) d
instance{e}:pC (LA e) (eH 313 [] [.one (DB e)] IZ oH):=sE Tryz.func313 (kD 1 1 [] [(99999,6)] λ_=>kH (show (2:Int)≠0 from(by decide))<|kL 8 ZAe)
def OG(g:S5 qd):S6 (qd×(S5 qd)×Bool):=bif((S7 g:Int)==(0:Int))then S8 ((qd.mk 0 (l_.mk (oV.mk Tm 0 0) 0)),([]:(S5 qd)),Tm)else(Zbw g).bind λe=>f_ (0<=(pR (S7 e:Int) (1:Int))/\(pR (S7 e:Int) (1:Int))<(S7 e:Int))<|f_ (0<=(0:Int)/\(0:Int)<(S7 e:Int))<|f_ (0<=(0:Int)/\(0:Int)<=(pR (S7 e:Int) (1:Int))/\(pR (S7 e:Int) (1:Int))<=(S7 e:Int))<|f_ ((pR (S7 e:Int) (1:Int)).toNat<=(e.set ((0:Int).toNat) (e.getD ((pR (S7 e:Int) (1:Int)).toNat) qd.d)).length)<|(ON ((e.set ((0:Int).toNat) (e.getD ((pR (S7 e:Int) (1:Int)).toNat) qd.d)).take ((pR (S7 e:Int) (1:Int)).toNat)) (0:Int)).bind λh=>f_ (0<=(0:Int)/\(0:Int)<(S7 g:Int))<|some ((g.getD (0:Int).toNat qd.d),h,Tl)
abbrev DH(b:S5 qd):Int:=pR (S7 b:Int) (1:Int)
abbrev I1(a:S5 qd):S5 qd:=(a.set ((0:Int).toNat) (a.getD ((DH a).toNat) qd.d)).take ((DH a).toNat)
instance{g}:o0 (OG g) (eS 270 [.one (DB g)] λr=>.qw [(Tl,qd.c r.1),(Tm,(wa 5 qd.c qd.d) r.2.1),(Tm,cB r.2.2)]):=kS Tryz.func270 (kB (kR [] [] [(3,[(0,cL 5 qd.c qd.d [])])]) (kD 2 1 [] [(99999,12)] λe=>zl<|sB λo=>kW 4 6 qd.E e ((0:Int).toNat) (e.getD ((DH e).toNat) qd.d) (ltOf o)<|kN<|kH (show 0=0 from rfl)<|uU λt=>kH (show (I1 e).length=(DH e).toNat from(ZBL _ _ t))<|kH (show ∀i j,i<(DH e).toNat->j<5->pw qd.c qd.d (I1 e) i j=pw qd.c qd.d (e.set ((0:Int).toNat) (e.getD ((DH e).toNat) qd.d)) i j from(RD _ _))<|kD 6 1 [(100000,5)] [] λ_=>kN<|kX 5 (rA [(3,.c (I1 e).length (pw qd.c qd.d (I1 e)))])<|kR [5] [] []))
def ZfT:Nat->(S5 a_)->Int->Int->l_->S6 Bool|0,_,_,_,_=>S_|fu+1,g,h,e,j=>bif(decide (e<h))then f_ (0<=e/\e<(S7 g:Int))<|bif(decide ((g.getD e.toNat a_.d).c_=j))then S8 Tl else ZfT fu g h (n_ e 1) j else S8 Tm
theorem ZrB:∀{h j o e g},LS z Tryz.f316 uv (ZfT h j o e g) Yk ⟨[sH,(8,(Yn j)),(9,(Yj o)),(sN e)],(DG g)⟩:=@qv _ kZ λt=>by intro j o e g;exact kB (kN<|kQ 2 3 (Ho ((uJ j e).c_) g (.tmp 15) AI)<|kB i_ (kL 17 t)) i_
def Zjq(d:tr)(e:l_):S6 Bool:=ZfT (((S7 d.pG:Int)-(0:Int)).toNat+2) d.pG (S7 d.pG:Int) (0:Int) e
instance{d e}:o0 (Zjq d e) (eS 316 [.agg (tr.c d),.agg (l_.c e)] Yk):=kS Tryz.func316 (kL 6 ZrB)
def ZpO(d e:pn):S6 Int:=(SM d.b_ e.b_).bind λg=>(Eo d.oR e.oR).bind λh=>(Em ([g,h]:S5 Int)).bind λj=>S8 j
instance{d e}:o0 (ZpO d e) (eS 329 [.agg (sj d),.agg (sj e)] Yj):=kS X0 (kC λg=>kC λh=>kM 1 10 sP ([g,h]:S5 Int)<|f'<|i_)
def rb(a b:pn):Int:=xm (uy a.b_ b.b_) (sK a.oR b.oR)
theorem ZQI(a b:pn):ZpO a b=S8 (rb a b):=by
 simp only[ZpO,ZQT,K7,N_,Option.bind_some,rb]
theorem ZWy:rb a b<0↔uy a.b_ b.b_<0\/(a.b_=b.b_/\a.oR<b.oR):=by simp only[rb,QY,Q3,OA]
theorem alP:0<rb a b↔0<uy a.b_ b.b_\/(a.b_=b.b_/\b.oR<a.oR):=by simp only[rb,QX,Q2,OA]
theorem Gt:rb a b=0↔a=b:=by
 simp only[rb,ZBf,EX,OA];obtain⟨x,p⟩:=a;obtain⟨y,q⟩:=b;simp
theorem RP:0<rb a b↔rb b a<0:=by
 rw[alP,ZWy,ZKL];constructor<;>rintro (h|⟨d,e⟩)<;>first|exact .inl h|exact .inr ⟨d.symm,e⟩
theorem ZwK{c:pn}(d:rb a b<0)(e:rb b c<0):rb a c<0:=by
 rw[ZWy]at *
 rcases d with d|⟨d,g⟩<;>rcases e with e|⟨e,h⟩
 .exact .inl (ZEW d e)
 .exact .inl (e ▸ d)
 .exact .inl (d ▸ e)
 .exact .inr ⟨d.trans e,by omega⟩
theorem KS(a b:pn):Wo rb a b=decide (rb a b<0):=by
 unfold Wo;rfl
theorem ZQF:Go.Sort.SWO (Wo rb) where
 irrefl x:=by rw[KS];simp[(Gt (a:=x) (b:=x)).2 rfl]
 trans x y z d e:=by
  rw[KS,aFl]at *
  exact ZwK d e
 ntrans x y z d e:=by
  rw[KS,aFm]at *
  intro h;have e1:rb x y=0\/0<rb x y:=by omega
  have e2:rb y z=0\/0<rb y z:=by omega
  rcases e1 with e1|e1
  .rw[Gt]at e1;subst e1;omega
  .rcases e2 with e2|e2
   .rw[Gt]at e2;subst e2;omega
   .have g:=ZwK (RP.1 e2) (RP.1 e1);have j:=RP.2 g;omega
theorem ZSx(x y:pn)(e:Wo rb x y=Tm)(d:Wo rb y x=Tm):x=y:=by
 rw[KS,aFm]at *
 rw[<-Gt];have:¬0<rb x y:=λh=>d (RP.1 h);omega
def Qj(ay:Int->(S5 pn)->S6 (S5 pn)):Nat->Int->Nat->Nat->Nat->Int->(S5 pn)->S6 (S5 pn)|0,_,_,_,_,_,_=>S_|fu+1,g,Bk,ir,N9,h,e=>bif(decide (h<((ir:Nat):Int)))then f_ (0<=h/\h<((ir:Nat):Int))<|f_ ((Bk+h.toNat)<S7 e)<|f_ (0<=(pR h (1:Int))/\(pR h (1:Int))<((ir:Nat):Int))<|f_ ((Bk+(pR h (1:Int)).toNat)<S7 e)<|bif(!(decide ((e.getD (Bk+h.toNat) pn.d)=(e.getD (Bk+(pR h (1:Int)).toNat) pn.d))))then f_ (0<=g/\g<(S7 e:Int))<|Qj ay fu (n_ g 1) Bk ir N9 (n_ h 1) (e.set g.toNat (e.getD (Bk+h.toNat) pn.d))else Qj ay fu g Bk ir N9 (n_ h 1) e else f_ (0<=g/\g<=(S7 e:Int)/\(S7 e:Int)<=(S7 e:Int))<|f_ (g.toNat+(S7 e-g.toNat)<=S7 e)<|f_ (0<=(0:Int)/\(0:Int)<=g/\g<=(S7 e:Int))<|f_ (g.toNat<=(Ak e g.toNat (S7 e-g.toNat) pn.d).length)<|some ((Ak e g.toNat (S7 e-g.toNat) pn.d).take g.toNat)
abbrev ze(a:S5 pn)(b:Int):S5 pn:=Ak a b.toNat (S7 a-b.toNat) pn.d
abbrev DF(a:S5 pn):C:=.p8 100000 a.length
abbrev Iv(a:S5 pn):Nat × B:=oj 100000 57 4 pn.c pn.d a
abbrev Iu:S5 pn → S5 (Nat × B):=ol 99999 57 4 pn.c pn.d
theorem ZmH{ay:Int->(S5 pn)->S6 (S5 pn)}(cm:∀{u h},LH z XU qJ (ay u h) Iu oH ⟨[(0,.one (DF h)),(sO u)],[(Iv h)]⟩):∀{y g Bk ir N9 o e},LH z XU [1,1,0,1,0,0,1,0,0,1,0,1,0,1,0] (Qj ay y g Bk ir N9 o e) Iu oH ⟨[(0,.one (DF e)),(sO g),(4,.one (.rL 100000 4 Bk ir N9)),(tt o)],[(Iv e)]⟩:=@qv _ kZ λD=>by intro g Bk ir N9 o e;exact kB (sB λF=>sB λG=>kN<|kN<|kQ 1 9 (Zyx (e.getD (Bk+o.toNat) pn.d) (e.getD (Bk+(pR o (1:Int)).toNat) pn.d) (.tmp 38) (.tmp 43))<|kB (kH F<|kH G<|sB λA=>kW 2 7 pn.E e g.toNat (e.getD (Bk+o.toNat) pn.d) (ltOf A)<|kH (oW ((e.set g.toNat (e.getD (Bk+o.toNat) pn.d)).length))<|rj 17 [] [] [] [(100000,((e.set g.toNat (e.getD (Bk+o.toNat) pn.d)).length))] [] [] D) (kL 15 D)) (kN<|uU λt=>kH (show (ze e g).length=e.length from(Oz _ _ _ _ t))<|kH (show ∀i j,i<S7 e->j<4->(i<g.toNat\/g.toNat+(S7 e-g.toNat)<=i)->pw pn.c pn.d (ze e g) i j=pw pn.c pn.d e i j from(ZDc _ _ _ t))<|kH (show ∀i j,i<(S7 e-g.toNat)->j<4->zJ (([.lit AO,.lit DE,.lit DE,.lit wo]:S5 C).getD j .oF) (pw pn.c pn.d (ze e g) (g.toNat+i) j)from(ZDd _ _ _ t (λj hj=>.inl rfl)))<|kN<|kH (oW 0)<|uU λB=>kH (show ((ze e g).take g.toNat).length=g.toNat from(ZBL _ _ B))<|kH (show ∀i j,i<g.toNat->j<4->pw pn.c pn.d ((ze e g).take g.toNat) i j=pw pn.c pn.d (ze e g) i j from(RD _ _))<|kX 1 (rA [(3,.c (ze e g).length (pw pn.c pn.d (ze e g)))])<|kX 2 (rA [(3,.c ((ze e g).take g.toNat).length (pw pn.c pn.d ((ze e g).take g.toNat)))])<|r7 (oh [2] [2] [(2,99999)]) S_)
def Qi:Nat->Int->(S5 pn)->S6 (S5 pn)|0,_,_=>S_|fu+1,g,e=>bif(decide (g<(S7 e:Int)))then f_ (0<=g/\g<(S7 e:Int))<|f_ (0<=(pR g (1:Int))/\(pR g (1:Int))<(S7 e:Int))<|bif(decide ((e.getD g.toNat pn.d)=(e.getD ((pR g (1:Int)).toNat) pn.d)))then f_ (0<=g/\g<=(S7 e:Int)/\(S7 e:Int)<=(S7 e:Int))<|Qj (Qi fu) 1000000 g g.toNat (S7 e-g.toNat) e.length (1:Int) e else Qi fu (n_ g 1) e else S8 e
theorem ZmI:∀{h g e},LH z XU qJ (Qi h g e) Iu oH ⟨[(0,.one (DF e)),(sO g)],[(Iv e)]⟩:=@qv _ kZ λj=>by intro g e;exact kB (zl<|zl<|kQ 1 9 (LN (e.getD g.toNat pn.d) (e.getD (w6 g) pn.d) (.tmp 19) (.tmp 24))<|kB (kN<|kL 17 (ZmH j)) (kL 15 j)) (r7 (oh [2] [100000] [(100000,99999)]) S_)
def My(d:S5 pn):S6 (S5 pn):=bif(decide ((S7 d:Int)<(2:Int)))then S8 d else Qi (((S7 d:Int)-(1:Int)).toNat+2) (1:Int) d
instance{e}:pC (My e) (eH 370 [(100000,.rows 57 4 e.length (pw pn.c pn.d e))] [.one (DF e)] (λr=>[(99999,.rows 57 4 r.length (pw pn.c pn.d r))]) oH):=sE Tryz.func370 (kB (r7 ⟨[],[],[],[],[],[2],[100000],[(100000,99999)]⟩ S_) (kL 11 ZmI))
def JX(d:S5 pn):S6 (S5 pn):=f_ (S7 d<4611686018427387904)<|some (d.mergeSort λx y=>!(Wo rb) y x)
abbrev abY:C:=.lit (.func (.func 329) #[] #[])
theorem ZyL(e r:S5 pn)(g:JX e=S8 r):Yr 369 [(Iv e)] [.one (DF e),.one abY] [(100000,.rows 57 4 e.length (pw pn.c pn.d r))] ue:=by
 obtain⟨o1,g⟩:=yg g;cases g
 haveI:Inhabited pn:=⟨pn.d⟩
 exact ZFr (ρ:=ZBK) (ev:=λa=>(sj a).map acH) amn ⟨_,Tryz.func369,rfl,rfl⟩ ⟨_,X0,rfl,rfl⟩ (by decide) (λ_=>rfl) (λ_=>rfl)
  (λx v hv=>List.all_eq_true.1 (show ((sj x).map acH).all (λv=>v.oneCell')=Tl from rfl) v hv) Tryz.isAgg57 Tryz.sizeOf57 rb ZQF ZSx (λx y=>o0.ok (ZQI x y)) e o1
theorem ZyM(d r:S5 pn)(e:JX d=S8 r):S7 r=S7 d:=by
 obtain⟨o1,e⟩:=yg e;cases e;exact List.length_mergeSort d
instance (e:S5 pn):pC (JX e) (eH 369 [(100000,.rows 57 4 e.length (pw pn.c pn.d e))] [.one (DF e),.one abY] (λ(r:S5 pn)=>[(100000,.rows 57 4 e.length (pw pn.c pn.d r))]) λr=>ue):=pC.of λr g=>ZyL e r g
def Pt(A:S5 k_)(j:S5 a_)(o t:Int)(a8:(S5 a_)->Int->Int->(S5 pn)->S6 (S5 pn)):Nat->(S5 k_)->Int->Int->(S5 pn)->S6 (S5 pn)|0,_,_,_,_=>S_|fu+1,g,h,e,u=>bif(decide (e<h))then f_ (0<=e/\e<(S7 g:Int))<|bif((g.getD e.toNat k_.d).ql==(2:Int))then(Ej (((g.getD e.toNat k_.d).c_).b_)).bind λy=>f_ ((u++([y]:S5 pn)).length * 32<=140737488355328/\(u++([y]:S5 pn)).length<=maxLen)<|Pt A j o t a8 fu g h (n_ e 1) (u++([y]:S5 pn))else Pt A j o t a8 fu g h (n_ e 1) u else(JX u).bind λB=>(My B).bind λD=>S8 D
theorem ZwZ{J:(S5 k_)}{D:(S5 a_)}{a8:(S5 a_)->Int->Int->(S5 pn)->S6 (S5 pn)}(eX:∀{g h j e},LH z XW [1,1,0,1,0] (a8 g h j e) (ol 99999 57 4 pn.c pn.d) oH ⟨[(1,(Yp J)),(5,.one (.p8 5 e.length)),(10,(Yn g)),(11,(Yj h)),(12,(Yj j))],[(oj 5 57 4 pn.c pn.d e)]⟩):∀{B t u y o},LH z XW [1,1,1,0,1,0] (Pt J D F G a8 B t u y o) (ol 99999 57 4 pn.c pn.d) oH ⟨[(5,.one (.p8 5 o.length)),(27,(Yp t)),(28,(Yj u)),(29,(Yj y))],[(oj 5 57 4 pn.c pn.d o)]⟩:=@qv _ kZ λL=>by intro t u y o;exact kB (kN<|kB (kC λO=>kM 3 5 pn.E ([O]:S5 pn)<|kA 3 6 pn.E<|tA 17 [(42,5)] L) (kL 17 L)) (kDq 1 1 [(100000,5)] [] λM H=>kE λA I=>kU [(oj 99999 57 4 pn.c pn.d A)] (.one (.p8 99999 A.length)) (show Yr 370 [(100000,.rows 57 4 o.length (pw pn.c pn.d M))] [.one (.p8 100000 o.length)] [(oj 99999 57 4 pn.c pn.d A)] (.one (.p8 99999 A.length))from(by rw[<-(ZyM o M H)];exact(pC.ok I)))<|kX 2 (rH [] [(1,⟨[(100000,5)],[(99999,47)],[],.one .oF⟩)])<|r7 (oh [4] [47] [(47,99999)]) S_)
def J6(j:S5 k_):Nat->(S5 a_)->Int->Int->(S5 pn)->S6 (S5 pn)|0,_,_,_,_=>S_|fu+1,g,h,e,o=>bif(decide (e<h))then f_ (0<=e/\e<(S7 g:Int))<|bif(!(g.getD e.toNat a_.d).tL)then(Ej (((g.getD e.toNat a_.d).c_).b_)).bind λt=>f_ ((o++([t]:S5 pn)).length * 32<=140737488355328/\(o++([t]:S5 pn)).length<=maxLen)<|J6 j fu g h (n_ e 1) (o++([t]:S5 pn))else J6 j fu g h (n_ e 1) o else Pt j g h e (J6 j fu) (((S7 j:Int)-(0:Int)).toNat+2) j (S7 j:Int) (0:Int) o
theorem Zxa{u}:∀{j e g h o},LH z XW qJ (J6 u j e g h o) Iu oH ⟨[(1,(Yp u)),(5,.one (.p8 5 o.length)),(10,(Yn e)),(uH g),(12,(Yj h))],[(oj 5 57 4 pn.c pn.d o)]⟩:=@qv _ kZ λt=>kB (kN<|kB (kC λy=>kM 3 5 pn.E ([y]:S5 pn)<|kA 3 6 pn.E<|tA 17 [(25,5)] t) (kL 17 t)) (kL 10 (ZwZ t))
def SI(d:S5 a_)(e:S5 k_):S6 (S5 pn):=J6 e (((S7 d:Int)-(0:Int)).toNat+2) d (S7 d:Int) (0:Int) ([])
instance{e g}:pC (SI e g) (eH 349 [] [Yn e,Yp g] (λr=>[(99999,.rows 57 4 r.length (pw pn.c pn.d r))]) oH):=sE Tryz.func349 (rj 8 [] [] [] [] [(5,5,57,4,pw pn.c pn.d [])] [] Zxa)
instance{e g}:o0 (SI e g) (eS 349 [Yn e,Yp g] λr=>.one (cL 4 pn.c pn.d r)):=o0.of λr h=>(show rX _ _ _ _ _ _ from pC.ok h).pure
def Qr(g:S5 pn):Nat->Int->Int->pn->S6 Int|0,_,_,_=>S_|fu+1,h,e,j=>bif(decide (e<h))then f_ (0<=e/\e<(S7 g:Int))<|bif(decide (j=(g.getD e.toNat pn.d)))then S8 e else Qr g fu h (n_ e 1) j else S8 (-1:Int)
theorem Znx{j}:∀{g o h e},LS z Tryz.f368 uv (Qr j g o h e) Yj ⟨[(0,.one (cL 4 pn.c pn.d j)),sH,(tG o),(sG h)],[(3,.box (sj e))]⟩:=@qv _ kZ λt=>by intro o h e;exact kB (kN<|kQ 2 5 (LN e (j.getD h.toNat pn.d) (.tmp 11) (.tmp 15))<|kB i_ (kL 17 t)) i_
def Zhi(d:S5 pn)(e:pn):S6 Int:=Qr d (((S7 d:Int)-(0:Int)).toNat+2) (S7 d:Int) (0:Int) e
instance{e g}:o0 (Zhi e g) (eS 368 [.one (cL 4 pn.c pn.d e),.agg (sj g)] Yj):=kS Tryz.func368 (kL 6 Znx)
def ZeA(d:S5 pn)(e:pn):S6 Bool:=(Zhi d e).bind λg=>S8 (decide (g>=(0:Int)))
instance{e g}:o0 (ZeA e g) (eS 348 [.one (cL 4 pn.c pn.d e),.agg (sj g)] Yk):=kS Tryz.func348 (f'<|i_)
def ZqK(e:S5 a_)(g:S5 k_)(d:oV):S6 Bool:=(E6 d).bind λh=>bif h then(SI e g).bind λj=>(Ej d).bind λo=>(ZeA j o).bind λt=>S8 (!t)else S8 Tm
instance{d e g}:o0 (ZqK d e g) (eS 317 [Yn d,Yp e,.agg (rR g)] Yk):=kS Tryz.func317 (f'<|kB (f'<|f'<|f'<|i_) i_)
def L4(d:tr)(e:l_)(g:Int):S6 Bool:=(Zjq d e).bind λh=>bif(!h)then(Hn d.po e.b_ g).bind λj=>bif(j==(0:Int))then(ZqK d.pG d.j_ e.b_).bind λo=>S8 o else S8 Tm else S8 Tm
instance{d e g}:o0 (L4 d e g) (eS 271 [.agg (tr.c d),.agg (l_.c e),Yj g] Yk):=kS Tryz.func271 (f'<|kB (f'<|kB (f'<|i_) i_) (kK Tm<|i_))
def ZuQ(d:k_)(c0:Int):S6 Bool:=(ZuN d c0).bind λe=>S8 e
instance{d c0}:o0 (ZuQ d c0) (eS 268 [.agg (sA d),.one (Ia c0)] Yk):=kS Tryz.func268 (f'<|i_)
def Mw(g:Int):Nat->(S5 k_)->Int->Int->(S5 qd)->S6 (S5 qd)|0,_,_,_,_=>S_|fu+1,h,j,e,o=>bif(decide (e<j))then f_ (0<=e/\e<(S7 h:Int))<|(O' (h.getD e.toNat k_.d)).bind λt=>bif t then(ZuQ (h.getD e.toNat k_.d) g).bind λu=>bif u then f_ ((o++([(qd.mk ((h.getD e.toNat k_.d).pS) ((h.getD e.toNat k_.d).c_))]:S5 qd)).length * 40<=140737488355328/\(o++([(qd.mk ((h.getD e.toNat k_.d).pS) ((h.getD e.toNat k_.d).c_))]:S5 qd)).length<=maxLen)<|Mw g fu h j (n_ e 1) (o++([(qd.mk ((h.getD e.toNat k_.d).pS) ((h.getD e.toNat k_.d).c_))]:S5 qd))else Mw g fu h j (n_ e 1) o else Mw g fu h j (n_ e 1) o else(LA o).bind λy=>S8 y
abbrev y4(a:S5 k_)(b:Int):k_:=a.getD b.toNat k_.d
theorem ZrA{h}:∀{A t o g u},LH z X' qJ (Mw h A t o g u) (ol 99999 306 5 qd.c qd.d) oH ⟨[(1,.one (oq 268 0 1 [] [ot (Fp h)])),(5,.one (.p8 5 u.length)),(9,(Yp t)),(sN o),(uH g)],[(oj 5 306 5 qd.c qd.d u)]⟩:=@qv _ kZ λB=>by intro t o g u;exact kB (kN<|f'<|kB (f'<|kB (kM 3 6 qd.E ([(qd.mk ((y4 t g).pS) ((y4 t g).c_))]:S5 qd)<|kA 3 7 qd.E<|tA 17 [(29,5)] B) (kL 17 B)) (kK Tm<|kL 17 B)) (kD 1 1 [] [(99999,32)] λD=>kH (show ∀i j,i<S7 D->j<5->∃y,pw qd.c qd.d D i j=.lit y from(On (sz:=5) (e:=qd.c) (d:=qd.d) (λ_=>rfl) (λ_=>rfl) _ _))<|r7 (oh [4] [32] [(32,99999)]) S_)
def Zhr(e:tr)(d:Int):S6 (S5 qd):=Mw d (((S7 e.j_:Int)-(0:Int)).toNat+2) e.j_ (S7 e.j_:Int) (0:Int) ([])
abbrev I0(a:Int):Nat → C:=λi=>([.rp Tm 1 (Nr a)]:S5 C).getD i .oF
instance{g e}:pC (Zhr g e) (eH 267 [] [.agg (tr.c g),.one (.qs (.func 268) 0 1 ub (I0 e))] IZ oH):=sE X6 (rj 8 [] [] [] [] [(5,5,306,5,pw qd.c qd.d [])] [] ZrA)
instance{g e}:o0 (Zhr g e) (eS 267 [.agg (tr.c g),.one (.qs (.func 268) 0 1 ub (I0 e))] λr=>.one (DB r)):=o0.of λr h=>(show rX _ _ _ _ _ _ from pC.ok h).pure
def SN(e:Int):Nat->(S5 qd)->tr->l_->S6 (l_×Bool)|0,_,_,_=>S_|fu+1,h,g,j=>(OG h).bind λd=>bif(!d.2.2)then S8 (d.1.c_,d.2.2)else(L4 g d.1.c_ e).bind λo=>bif o then S8 (d.1.c_,d.2.2)else SN e fu d.2.1 g j
theorem ZAg{o}:∀{g t h e},LS z Tryz.f195 [1,1,0] (SN o g t h e) (λr=>.qw (DJ r)) ⟨[tH,(3,.one (Ia o)),sQ,(6,.one (DB t))],[(2,.box (tr.c h)),(4,.box (l_.c e))]⟩:=@qv _ kZ λu=>f'<|kB (kK Tl<|i_) (f'<|kB i_ (kL 12 u))
def OU(d:tr)(e:Int):S6 (l_×Bool):=(Zhr d e).bind λg=>SN e 1000000 g d (l_.mk (oV.mk Tm 0 0) 0)
instance{d e}:o0 (OU d e) (eS 195 [.agg (tr.c d),Yj e] λr=>.qw (DJ r)):=kS Tryz.func195 (f'<|kX 1 FD<|kL 5 ZAg)
def ZqR(d:k_)(c0:Int):S6 Bool:=bif(d.ql==(1:Int))then S8 (decide (d.pS>c0))else S8 Tm
instance{d c0}:o0 (ZqR d c0) (eS 272 [.agg (sA d),.one (Ia c0)] Yk):=kS Tryz.func272 (kB i_ i_)
def Mx(g:Int):Nat->(S5 k_)->Int->Int->(S5 qd)->S6 (S5 qd)|0,_,_,_,_=>S_|fu+1,h,j,e,o=>bif(decide (e<j))then f_ (0<=e/\e<(S7 h:Int))<|(O' (h.getD e.toNat k_.d)).bind λt=>bif t then(ZqR (h.getD e.toNat k_.d) g).bind λu=>bif u then f_ ((o++([(qd.mk ((h.getD e.toNat k_.d).pS) ((h.getD e.toNat k_.d).c_))]:S5 qd)).length * 40<=140737488355328/\(o++([(qd.mk ((h.getD e.toNat k_.d).pS) ((h.getD e.toNat k_.d).c_))]:S5 qd)).length<=maxLen)<|Mx g fu h j (n_ e 1) (o++([(qd.mk ((h.getD e.toNat k_.d).pS) ((h.getD e.toNat k_.d).c_))]:S5 qd))else Mx g fu h j (n_ e 1) o else Mx g fu h j (n_ e 1) o else(LA o).bind λy=>S8 y
theorem Zrz{h}:∀{A t o g u},LH z X' qJ (Mx h A t o g u) (ol 99999 306 5 qd.c qd.d) oH ⟨[(1,.one (oq 272 0 1 [] [ot (Fp h)])),(5,.one (.p8 5 u.length)),(9,(Yp t)),(sN o),(uH g)],[(oj 5 306 5 qd.c qd.d u)]⟩:=@qv _ kZ λB=>by intro t o g u;exact kB (kN<|f'<|kB (f'<|kB (kM 3 6 qd.E ([(qd.mk ((y4 t g).pS) ((y4 t g).c_))]:S5 qd)<|kA 3 7 qd.E<|tA 17 [(29,5)] B) (kL 17 B)) (kK Tm<|kL 17 B)) (kD 1 1 [] [(99999,32)] λD=>kH (show ∀i j,i<S7 D->j<5->∃y,pw qd.c qd.d D i j=.lit y from(On (sz:=5) (e:=qd.c) (d:=qd.d) (λ_=>rfl) (λ_=>rfl) _ _))<|r7 (oh [4] [32] [(32,99999)]) S_)
def Zjp(e:tr)(d:Int):S6 (S5 qd):=Mx d (((S7 e.j_:Int)-(0:Int)).toNat+2) e.j_ (S7 e.j_:Int) (0:Int) ([])
instance{g e}:pC (Zjp g e) (eH 267 [] [.agg (tr.c g),.one (.qs (.func 272) 0 1 ub (I0 e))] IZ oH):=sE X6 (rj 8 [] [] [] [] [(5,5,306,5,pw qd.c qd.d [])] [] Zrz)
instance{g e}:o0 (Zjp g e) (eS 267 [.agg (tr.c g),.one (.qs (.func 272) 0 1 ub (I0 e))] λr=>.one (DB r)):=o0.of λr h=>(show rX _ _ _ _ _ _ from pC.ok h).pure
def OV(d:tr)(e:Int):S6 Int:=(Zjp d e).bind λg=>(OG g).bind λh=>S8 h.1.yp
instance{d e}:o0 (OV d e) (eS 196 [.agg (tr.c d),Yj e] Yj):=kS Tryz.func196 (f'<|f'<|kX 1 FD<|i_)
def LW(t:Int)(u:Bool):Nat->qA->pM->S6 (o7 Unit)|0,_,_=>S_|fu+1,d,h=>tb (zu d h Tm) λe j=>tb (Pz j h e.fN (n_ e.fN t) u) λo g=>bif o then S8 (o7.ret () g)else LW t u fu g h
abbrev Ca:Nat × V:=(8,.one (.ptr 8 0))
theorem ZzZ{j o}:∀{g e h},LO z Tryz.f145 [1,0] (LW j o g e h) tQ ⟨[Cc,(sV j),(3,(Yk o)),Ca],[(AW e),(8,.box (pM.c h))]⟩:=@qv _ kZ λt=>ri λ_ _=>ri λ_ _=>kB qy (kL 10 t)
def CR(d:qA)(e g:Int)(h:Bool):S6 (o7 Unit):=LW g h 1000000 d (pM.mk e 0 0)
instance{d e g h}:qg (CR d e g h) 145 (qF d) [.one tc,Yj e,Yj g,Yk h] tQ:=kO Tryz.func145 (kL 3 ZzZ)
def ZuS(d:k_)(c0:l_):S6 Bool:=S8 (decide (d.c_=c0))
instance{d c0}:o0 (ZuS d c0) (eS 274 [.agg (sA d),.one (.rp Tm 4 (Cj c0))] Yk):=kS Tryz.func274 (kQ 1 3 (Ho d.c_ c0 (.tmp 5) (.tmp 6))<|i_)
def Qx(h:S5 k_)(e:l_):Nat->Int->Int->S6 Int|0,_,_=>S_|fu+1,j,g=>bif(decide (g<j))then f_ (0<=g/\g<(S7 h:Int))<|(ZuS (h.getD g.toNat k_.d) e).bind λo=>bif o then S8 g else Qx h e fu j (n_ g 1)else S8 (-1:Int)
theorem Zja{g d}:∀{e h o},LS z X_ uv (Qx g d e h o) Yj ⟨[(0,(Yp g)),(1,.one (oq 274 0 1 [] [.rp Tm 4 (Cj d)])),(tG h),(sG o)],[]⟩:=@qv _ kZ λt=>kB (kN<|f'<|kB i_ (kL 17 t)) i_
def Zej(e:S5 k_)(d:l_):S6 Int:=Qx e d (((S7 e:Int)-(0:Int)).toNat+2) (S7 e:Int) (0:Int)
instance{e d}:o0 (Zej e d) (eS 211 [Yp e,.one (.qs (.func 274) 0 1 ub (Ng d))] Yj):=kS X8 (kL 6 Zja)
def Ly(d:S5 k_)(e:l_):S6 Int:=(Zej d e).bind λg=>S8 g
instance{d e}:o0 (Ly d e) (eS 199 [Yp d,.agg (l_.c e)] Yj):=kS Tryz.func199 (f'<|kX 1 FD<|i_)
def ZxK(d:k_):S6 k_:=S8 (k_.mk d.c_ 2 d.p6 d.pS)
abbrev yX:k_ → V:=ov k_.c
instance{d}:o0 (ZxK d) (eS 198 [.agg (sA d)] yX):=kS Tryz.func198 (i_)
def Zdc(d:S5 k_):S6 (S5 k_):=f_ (0<S7 d)<|f_ ((([]:S5 k_)++d).length * 56<=140737488355328/\(([]:S5 k_)++d).length<=maxLen)<|some (([]:S5 k_)++d)
abbrev AP:S5 k_:=([]:S5 k_)
abbrev IV:S5 (Nat × sF):=[(0,.c (AP).length (pw k_.c k_.d []))]
abbrev FF(a:S5 k_):S5 (Nat × B):=[(99999,.rows 160 7 a.length (pw k_.c k_.d a))]
abbrev M3:S5 C:=(AP).flatMap k_.c
instance{g}:pC (Zdc g) (eH 215 [] [Yp g] (λr=>(FF r)) oH):=sE X7 (kN<|kK Tm<|kH (show (AP).length=0 from rfl)<|kH (show ∀i j,i<0->j<7->pw k_.c k_.d [] i j=(M3).getD (i * 7+j) .oF from(λi j hi hj=>vJ (sz:=7) (e:=k_.c) (d:=k_.d) (λ_=>rfl) [] i j hi hj))<|kA 2 2 k_.E<|kX 2 (rA IV)<|r7 Ci S_)
def MI(d:S5 k_):S6 (S5 k_):=f_ (S7 d * 56<=140737488355328/\S7 d<=maxLen)<|some d
instance{e}:pC (MI e) (eH 215 [] [Yp e] (λr=>[(99999,.rows 160 7 r.length (pw k_.c k_.d r))]) λr=>.one (.p8 99999 r.length)):=pC.of (Lp (gn:=Zdc) X7 (by kernel_rfl) Xg (λ_ _ _=>by kernel_rfl) (λ_ _=>by kernel_rfl) (λ_ _ h=>show rX _ _ _ _ _ _ from pC.ok h) (λl h o=>by unfold Zdc;rw[CO h,CO (by simpa using o)];simp) e)
def Si(g:S5 k_)(h:k_):S6 (S5 k_):=(MI g).bind λe=>(Ly g h.c_).bind λd=>bif(decide (d>=(0:Int)))then f_ (0<=d/\d<(S7 e:Int))<|some (e.set d.toNat h)else S8 e
instance{j e}:pC (Si j e) (eH 273 [] [Yp j,.agg (sA e)] (λr=>(FF r)) oH):=sE Tryz.func273 (kD 1 1 [] [(99999,8)] λg=>kC λh=>kB (sB λo=>kW 4 4 k_.E g h.toNat e (ltOf o)<|kH (show (g.set h.toNat e).length=(g.set h.toNat e).length from rfl)<|r7 ⟨[],[],[],[(99999,(g.set h.toNat e).length)],[],[4],[8],[(8,99999)]⟩ S_) (r7 abU S_))
instance{d e}:o0 (Si d e) (eS 273 [Yp d,.agg (sA e)] Yp):=o0.of λr h=>(show rX _ _ _ _ _ _ from pC.ok h).pure
def Me(u:sM)(e:qA)(g:S5 k_)(h:k_):S6 (o7 Unit):=(G9).bind λj=>(Si g h).bind λo=>tb (AD e j (oM.mk 0 (a_.mk (l_.mk (oV.mk Tm 0 0) 0) Tm 0 (pW.mk 0 0) 0 0) [] o) Tm) λt d=>S8 (o7.ret () d)
abbrev Nf:RA:=⟨[],[],[],[],[(5,[Fy])],[],[]⟩
instance{e g h j}:qg (Me e g h j) 197 (qF g) [.agg (sM.c e),.one tc,Yp h,.agg (sA j)] tQ:=kO Tryz.func197 (f'<|f'<|kH Gw<|kX 1 Nf<|ri λ_ _=>qy)
def ZmN(h:sM)(B:qA):S6 (o7 (oZ×Bool)):=tb (Pw h B) λe j=>tb (zu j (pM.mk 2 0 0) Tm) λo g=>bif(decide (o.fN>=h.fc.rW))then(Hq (5:Int)).bind λD=>S8 (o7.ret (D,Tl) g)else(OU e h.fx.pE).bind λt=>bif(!t.2)then(OV e h.fx.pE).bind λF=>S8 (o7.ret ((oZ.mk 6 (l_.mk (oV.mk Tm 0 0) 0) 0 F []),Tl) g)else tb (CR g (2:Int) (1:Int) Tl) λG u=>(Ly e.j_ t.1).bind λy=>f_ (0<=y/\y<(S7 e.j_:Int))<|(ZxK (e.j_.getD y.toNat k_.d)).bind λH=>tb (Me h u e.j_ H) λI A=>S8 (o7.ret ((oZ.mk 0 t.1 0 0 []),Tm) A)
instance{e g}:qg (ZmN e g) 128 (qF g) (DI e) Fx:=kO Tryz.func128 (rI λ_ _=>ri λ_ _=>kB (f'<|qy) (f'<|kB (f'<|ya [] uI []) (rI λ_ _=>f'<|kN<|f'<|rI λ_ _=>ya [] uI [])))
def ZnU(e:sM)(A:qA):S6 (o7 oZ):=tb (Mh A (0:Int) Tm) λB g=>tb (zN g (1:Int) Tm) λD h=>tb (Ht h e.fc.e_) λF j=>tb (ZmN e j) λd o=>tb (Hs o e.fc.e_ d.2) λG t=>tb (uT t (1:Int) Tm) λH u=>tb (Hu u (0:Int) Tm) λI y=>S8 (o7.ret d.1 y)
instance{d e}:qg (ZnU d e) 66 (qF e) (DI d) tu:=kO Tryz.func66 (ri λ_ _=>ri λ_ _=>rI λ_ _=>rI λ_ _=>rI λ_ _=>ri λ_ _=>ri λ_ _=>qy)
def Pf:Nat->Int->Int->S6 Int|0,_,_=>S_|fu+1,d,e=>bif(decide (e>0))then bif(decide (d>0))then bif(decide (d<1099511627776))then(zt (u6 (2:Int) d)).bind λg=>Pf fu g (pR e (1:Int))else S8 d else S8 d else S8 d
theorem ZAa:∀{d e g},LS z Tryz.f371 y0 (Pf d e g) Yj ⟨[(0,(Yj e)),(q7 g)],[]⟩:=@qv _ kZ λh=>kB (kB (kB (f'<|kL 12 h) i_) (kK Tm<|i_)) (kK Tm<|kK Tm<|i_)
def ZuF(e g:Int):S6 Int:=(zt e).bind λd=>Pf (((1099511627776:Int)-d).toNat+2) d g
instance{d e}:o0 (ZuF d e) (eS 371 [Yj d,Yj e] Yj):=kS Tryz.func371 (f'<|kL 6 ZAa)
def Zpi(d:p5)(e:Int):S6 Int:=bif(decide (e<1))then S8 (0:Int)else(zt d.z8).bind λg=>(ZuF d.vY (pR e (1:Int))).bind λh=>S8 (if h<g then h else g)
instance{d e}:o0 (Zpi d e) (eS 350 [.agg (sg d),Yj e] Yj):=kS Tryz.func350 (kB i_ (f'<|f'<|i_))
def JE(d e:Int):S6 Int:=(zt d).bind λg=>(zt e).bind λh=>(zt (n_ g h)).bind λj=>S8 j
instance{d e}:o0 (JE d e) (eS 295 [Yj d,Yj e] Yj):=kS Tryz.func295 (f'<|f'<|f'<|i_)
def ZnY(d:p5)(e:Int):S6 Int:=bif(decide (d.qV<1))then S8 (0:Int)else f_ (d.qV≠0)<|bif(decide ((XZ e d.qV)<(0:Int)))then S8 (n_ (XZ e d.qV) d.qV)else S8 (XZ e d.qV)
instance{d e}:o0 (ZnY d e) (eS 351 [.agg (sg d),Yj e] Yj):=kS Tryz.func351 (kB i_ (kN<|kB i_ i_))
def ZpP(d:p5)(e g h:Int):S6 Int:=(Zpi d e).bind λj=>(JE g j).bind λo=>(ZnY d h).bind λt=>(JE o t).bind λu=>S8 u
instance{d e g h}:o0 (ZpP d e g h) (eS 320 [.agg (sg d),Yj e,Yj g,Yj h] Yj):=kS Tryz.func320 (f'<|f'<|f'<|f'<|i_)
def LK(e:p5)(d:k_)(g h:Int):S6 k_:=(ZpP e (n_ (if(999:Int)<(if(0:Int)>d.p6 then(0:Int)else d.p6)then(999:Int)else(if(0:Int)>d.p6 then(0:Int)else d.p6)) (1:Int)) g h).bind λj=>S8 (k_.mk d.c_ 1 (n_ (if(999:Int)<(if(0:Int)>d.p6 then(0:Int)else d.p6)then(999:Int)else(if(0:Int)>d.p6 then(0:Int)else d.p6)) (1:Int)) j)
instance{d e g h}:o0 (LK d e g h) (eS 277 [.agg (sg d),.agg (sA e),Yj g,Yj h] yX):=kS Tryz.func277 (f'<|i_)
def Ps(g:sM)(h:qA)(j:S5 k_)(o:k_):S6 (o7 Unit):=tb (Me g h j o) λt d=>tb (CR d (2:Int) (-1:Int) Tl) λu e=>S8 (o7.ret () e)
instance{d e g h}:qg (Ps d e g h) 205 (qF e) [.agg (sM.c d),.one tc,Yp g,.agg (sA h)] tQ:=kO Tryz.func205 (rI λ_ _=>rI λ_ _=>qy)
def Zkl(d:sM)(h:qA)(j:S5 k_)(o:k_)(t:Int):S6 (o7 (oZ×Bool)):=(LK d.fc o d.fx.pE d.fx.qz).bind λe=>tb (Ps d h j e) λu g=>S8 (o7.ret ((oZ.mk t (l_.mk (oV.mk Tm 0 0) 0) e.p6 e.pS []),Tm) g)
instance{e g h j o}:qg (Zkl e g h j o) 204 (qF g) [.agg (sM.c e),.one tc,Yp h,.agg (sA j),Yj o] Fx:=kO Tryz.func204 (f'<|rI λ_ _=>ya [] [(10,uc)] [])
def O8(d:k_):S6 k_:=S8 (k_.mk d.c_ 1 d.p6 d.pS)
instance{d}:o0 (O8 d) (eS 206 [.agg (sA d)] yX):=kS Tryz.func206 (i_)
def ZsA(d:k_):S6 k_:=S8 (k_.mk d.c_ 3 0 d.pS)
instance{d}:o0 (ZsA d) (eS 207 [.agg (sA d)] yX):=kS Tryz.func207 (i_)
def ZnT(g:sM)(a1:qA)(Z:Int):S6 (o7 (oZ×Bool)):=(G9).bind λx1=>tb (zu a1 x1 Tm) λe j=>(Ly e.j_ g.fx.c_).bind λo=>bif(decide (o<0))then(Hq (6:Int)).bind λx4=>S8 (o7.ret (x4,Tl) j)else f_ (0<=o/\o<(S7 e.j_:Int))<|bif((e.j_.getD o.toNat k_.d).ql != (2:Int))then(Hq (6:Int)).bind λx5=>S8 (o7.ret (x5,Tl) j)else bif(!g.fx.uq)then tb (Zkl g j e.j_ (e.j_.getD o.toNat k_.d) (0:Int)) λA I=>S8 (o7.ret (A.1,A.2) I)else tb (zu j (pM.mk 3 0 0) Tm) λJ B=>(Hn J.po g.fx.c_.b_ g.fx.pE).bind λx8=>bif(decide (x8>(0:Int)))then tb (Zkl g B e.j_ (e.j_.getD o.toNat k_.d) (8:Int)) λD L=>S8 (o7.ret (D.1,D.2) L)else tb (El B Z) λh t=>(Hp h g.fx.c_).bind λM=>bif(decide (M>=(0:Int)))then(O8 (e.j_.getD o.toNat k_.d)).bind λO=>tb (Ps g t e.j_ O) λnJ F=>(Hq (7:Int)).bind λU=>S8 (o7.ret (U,Tm) F)else(ZsA (e.j_.getD o.toNat k_.d)).bind λW=>tb (Me g t e.j_ W) λnL G=>(Du h).bind λu=>(JI g.fx.c_ Tm g.fx.pE).bind λy=>f_ ((u++([y]:S5 a_)).length * 80<=140737488355328/\(u++([y]:S5 a_)).length<=maxLen)<|tb (Dp G Z h (u++([y]:S5 a_))) λnN H=>S8 (o7.ret ((oZ.mk 0 (l_.mk (oV.mk Tm 0 0) 0) 0 0 []),Tl) H)
instance{t u y}:qg (ZnT t u y) 131 (qF u) [.agg (sM.c t),.one tc,Yj y] Fx:=kO Tryz.func131 (f'<|kH Ls<|ri λ_ _=>f'<|kB (kK Tl<|f'<|qy) (sB λo=>kB (f'<|qy) (kB (kH o<|rI λ_ _=>qy) (ri λ_ _=>f'<|kB (kH o<|rI λ_ _=>qy) (rI λ_ _=>f'<|kB (kH o<|f'<|rI λ_ _=>f'<|qy) (kH o<|f'<|rI λ_ _=>kD 9 4 [] [(99999,106)] λh=>kC λg=>kM 9 12 a_.E (zO g)<|kH (ZCJ (sz:=10) (e:=a_.c) (d:=a_.d) h (zO g))<|uU λj=>kH j.1<|kH j.2<|kX 9 (rA [(13,.r (.one (.sl 10 ((h++(zO g)).length) (pw a_.c a_.d (h++(zO g))))) [])])<|rI λ_ _=>ya [] [(6,uc)] []))))))
def ZlB(e:sM)(B:qA):S6 (o7 oZ):=(Hh e.fx.c_.b_ e.fc.pX e.fc.e_).bind λg=>tb (Mh B (0:Int) Tm) λD h=>tb (zN h (1:Int) Tm) λF j=>tb (zN j (n_ (2:Int) g) Tm) λG o=>tb (ZnT e o g) λd t=>tb (uT t (n_ (2:Int) g) d.2) λH u=>tb (uT u (1:Int) Tm) λI y=>tb (Hu y (0:Int) Tm) λJ A=>S8 (o7.ret d.1 A)
instance{d e}:qg (ZlB d e) 67 (qF e) (DI d) tu:=kO Tryz.func67 (f'<|ri λ_ _=>ri λ_ _=>ri λ_ _=>rI λ_ _=>ri λ_ _=>ri λ_ _=>ri λ_ _=>qy)
def ZuM(d:l_)(e:Int):S6 k_:=(zt e).bind λg=>S8 (k_.mk d 1 0 g)
instance{d e}:o0 (ZuM d e) (eS 134 [.agg (l_.c d),Yj e] yX):=kS Tryz.func134 (f'<|i_)
set_option maxHeartbeats 4000000 in
set_option maxRecDepth 100000 in
theorem ZIW:N2 W8 214 160 7:=λb n c i vb m vc cur bi w hi hm rP cR iX uw xq r9 C9 tV vS BJ=>by
 have lw:=cR
 unfold maxLen at cR
 obtain⟨BI,cJ,fU,fW,bL,uQ,n7,bF,dg,hb4⟩:=ZQe hi hm rP cR
 have fR:∀o lb cb,(callFunc 281 #[.slice (S8 ⟨vb,0,S_⟩) m vc,.slice (S8 ⟨b,o,S_⟩) lb cb]).run W8 w=.ok (.value (.bool Tm)) w:=λo lb cb=>by
  rw[run_callFunc_extern Tryz.func281 (by kernel_rfl) (by kernel_rfl) (by kernel_rfl) (e:=XK #[43,43] #[4]) (by kernel_rfl),
   XT w 43 4 160 Xg 7 Tryz.sizeOf160 ⟨vb,0,S_⟩ ⟨b,o,S_⟩ m vc lb cb iX 160 160 bi.size cur.size (by simp[XS,r9]) (by simp[XS,uw]) (by omega) (by simp[XP,r9]) (by simp[XP,r9])]
  rfl
 obtain⟨M1,R,jx,jy,HD,HG,HA,HL,HF⟩:=Zxo Xg (by kernel_rfl) hi hm uw xq r9 C9 tV vS BJ rP iX
 replace HD:=XJ HD;replace HG:=XJ HG;replace HA:=XJ HA;replace HL:=XJ HL;replace HF:=XJ HF
 clear vS BJ
 have mixed:W8.follows .mixedOrders=Tl:=by kernel_rfl
 go_enter XN,XR
 go_wp2_with (simp only[fR])
 go_region_law_o (refine step_copy_runI rfl _ _ 43 43 rfl _ _ (by simp[XL,UJ]) (by simp[XL,UJ]) (jx _ _ _) ?_)
 go_wp2_with (at_builtin;refine wpList_copy_runI _ rfl _ _ 43 43 rfl _ _ rfl rfl (jy _ rfl _ _) ?_)
 go_ret
 exact⟨R,rfl,HD.out,HG.out,HA.out,HL.out,HF.out⟩
set_option maxHeartbeats 4000000 in
set_option maxRecDepth 100000 in
theorem ZNr:N3 W8 214 160 7 56:=λb n c i vb m vc cur bi w hi hm d7 rP dC uw xq r9 C9 tV vS BJ=>by
 have jG:b<w.heap.size:=(V5.1 uw).1
 have jH:vb<w.heap.size:=(V5.1 r9).1
 obtain⟨i0,vR,cu,fe,fD⟩:=QO.info (t:=160) (show sv tab 160=S8 _ from rfl)
 obtain⟨G,W1,R2,R,n8,jz,gM,eY,gN,cd,fC,C_,Da,HR,HF⟩:=ZyG Xg (by kernel_rfl) hi hm uw xq r9 C9 tV vS BJ (by decide) (by decide) vR fD cu fe rfl WK d7 rP dC
 have HW:=XJ fC;clear fC
 replace HF:=XJ HF;replace HR:=XJ HR
 have mixed:W8.follows .mixedOrders=Tl:=by kernel_rfl
 obtain⟨BI,cJ,hz3,hbN,hvN,hGi,n9,hci,mh,uQ,n7,fU,bL,dg⟩:=ZIU hi hm rP d7 C_ Da jG jH
 clear vR fe cu fD xq tV vS BJ uw r9
 go_enter XN,XR
 go_wp2_with (first
  | (at_builtin;refine XI _ rfl _ _ _ _ rfl _ _ rfl rfl _ _ (n8 _) ?_)
  | (at_builtin;refine wpList_copy_runI _ rfl _ _ 43 43 rfl _ _ rfl rfl (jz _ rfl _ _) ?_)
  | (at_builtin;refine wpList_copy_runI _ rfl _ _ 43 43 rfl _ _ rfl rfl (gM _ (by first|exact eY|assumption) (by first|exact gN|assumption) _ _ _) ?_))
 go_region_law_o (refine step_copy_runI rfl _ _ 43 43 rfl (.slice (S8 ⟨w.heap.size,(i+m) * 7,S_⟩) (n+m-(i+m)) (G-(i+m))) (.slice (S8 ⟨b,i * 7,S_⟩) (n-i) (c-i)) (by simp[XL,UJ]) (by simp[XL,UJ]) (gM (W1.setRow w.heap.size R2).drew eY gN 3 (G-(i+m)) (c-i)) ?_)
 go_wp2
 go_ret
 exact ZUV HW.out cd eY C_ Da HR.out HF.out
set_option maxHeartbeats 4000000 in
set_option maxRecDepth 100000 in
theorem ZRT:N4 W8 214 43:=λbK n c vb m vc w w' v' d7 cR hm eF jA uL=>by
 have BI:¬((m:Int)=0):=by omega
 unfold maxLen at cR jA
 cases bK with
 |none=>
  have h0:=eF rfl
  subst h0
  go_enter XN,XR
  go_wp2_with (at_builtin;refine XI _ rfl _ _ _ _ rfl _ _ rfl rfl _ _ (uL _) ?_)
  go_ret
  exact⟨rfl,rfl⟩
 |some a=>
  obtain⟨ab,ao,asp⟩:=a
  go_enter XN,XR
  go_wp2_with (at_builtin;refine XI _ rfl _ _ _ _ rfl _ _ rfl rfl _ _ (uL _) ?_)
  all_goals (go_ret;exact⟨rfl,rfl⟩)
def QA(d:S5 k_)(e:Int)(g:S5 k_):S6 (S5 k_):=f_ (0<=e/\e.toNat<=S7 d/\0<S7 g/\(S7 d+S7 g) * 56<=140737488355328/\S7 d+S7 g<=maxLen)<|some (d.take e.toNat++g++d.drop e.toNat)
theorem ZhG(e:S5 k_)(j:Int)(g r:S5 k_)(o:QA e j g=S8 r) :
  Yr 214 [(oj 100000 160 7 k_.c k_.d e),(oj 100001 160 7 k_.c k_.d g)] [.one (.p8 100000 e.length),Yj j,.one (.p8 100001 g.length)]
   [(oj 99999 160 7 k_.c k_.d r)] (.one (.p8 99999 r.length)):=by
 obtain⟨⟨o1,o2,u,y,A⟩,o⟩:=yg o;cases o;obtain⟨i0,vR,cu,fe,fD⟩:=QO.info (t:=160) (show sv tab 160=S8 _ from rfl);have h:=ZCw (enc:=k_.c) (d:=k_.d) (F:=214) (BY:=56) (K:=7) ⟨_,XN,rfl,rfl⟩ Xg vR fD cu fe rfl (by decide) ZIW ZNr ZRT e g j.toNat o2 u y A;rw[Xw o1]at h;exact h
instance (e:S5 k_) (h:Int) (g:S5 k_):pC (QA e h g) (eH 214 [(100000,.rows 160 7 e.length (pw k_.c k_.d e)),(100001,.rows 160 7 g.length (pw k_.c k_.d g))] [.one (.p8 100000 e.length),Yj h,.one (.p8 100001 g.length)] (λ(r:S5 k_)=>(FF r)) oH):=pC.of λr j=>ZhG e h g r j
def ZvQ(d c0:k_):S6 Bool:=(JW d.c_ c0.c_).bind λe=>S8 (decide (e>0))
abbrev M9(a:k_):Nat → C:=λj=>(k_.c a:S5 C).getD (0+j) .oF
instance{d c0}:o0 (ZvQ d c0) (eS 212 [.agg (sA d),.one (.rp Tm 7 (M9 c0))] Yk):=kS Tryz.func212 (f'<|i_)
def Qw(h:S5 k_)(e:k_):Nat->Int->Int->S6 Int|0,_,_=>S_|fu+1,j,g=>bif(decide (g<j))then f_ (0<=g/\g<(S7 h:Int))<|(ZvQ (h.getD g.toNat k_.d) e).bind λo=>bif o then S8 g else Qw h e fu j (n_ g 1)else S8 (-1:Int)
theorem Zjb{g d}:∀{e h o},LS z X_ uv (Qw g d e h o) Yj ⟨[(0,(Yp g)),(1,.one (oq 212 0 1 [] [.rp Tm 7 (M9 d)])),(tG h),(sG o)],[]⟩:=@qv _ kZ λt=>kB (kN<|f'<|kB i_ (kL 17 t)) i_
def Zdd(e:S5 k_)(d:k_):S6 Int:=Qw e d (((S7 e:Int)-(0:Int)).toNat+2) (S7 e:Int) (0:Int)
instance{e d}:o0 (Zdd e d) (eS 211 [Yp e,.one (.qs (.func 212) 0 1 ub (λi=>([.rp Tm 7 (M9 d)]:S5 C).getD i .oF))] Yj):=kS X8 (kL 6 Zjb)
def ZwG(d:S5 k_)(e:k_)(h:Int):S6 ((S5 k_)×Int):=(O' e).bind λj=>bif(!j)then S8 (([]:(S5 k_)),(1:Int))else(Ly d e.c_).bind λo=>bif(decide (o>=(0:Int)))then S8 (([]:(S5 k_)),(7:Int))else bif(decide ((S7 d:Int)>=h))then S8 (([]:(S5 k_)),(5:Int))else(Zdd d e).bind λg=>bif(decide (g<0))then(MI d).bind λt=>(QA t (S7 d:Int) ([e]:S5 k_)).bind λu=>S8 (u,(0:Int))else(MI d).bind λy=>(QA y g ([e]:S5 k_)).bind λA=>S8 (A,(0:Int))
abbrev DP:S5 (Nat × S5 (Nat × C)):=[(6,[(0,cL 7 k_.c k_.d [])])]
abbrev IA:RA:=⟨[],[],[(1,[4])],[],[],[],[]⟩
abbrev xA(a:k_):S5 k_:=([a]:S5 k_)
abbrev abW(a:k_):RA:=rA [(4,.c (xA a).length (pw k_.c k_.d (xA a)))]
instance{h g o}:o0 (ZwG h g o) (eS 132 [Yp h,.agg (sA g),Yj o] λr=>.qw [(Tm,(wa 7 k_.c k_.d) r.1),(Tm,uf r.2)]):=kS Tryz.func132 (f'<|kB (kR [] [] DP) (f'<|kB (kR [] [] DP) (kB (kR [] [] DP) (f'<|kB (kD 7 1 [] [(99999,32)] λ_=>kH (show (xA g).length=1 from rfl)<|kH (show ∀i j,i<1->j<7->pw k_.c k_.d (xA g) i j=((xA g).flatMap k_.c).getD (i * 7+j) .oF from(λi j hi hj=>vJ (sz:=7) (e:=k_.c) (d:=k_.d) (λ_=>rfl) (xA g) i j hi hj))<|kD 7 5 [(100000,32),(100001,35)] [(99999,36)] λ_=>kX 4 IA<|kX 7 (abW g)<|kR [36] [] []) (kD 6 1 [] [(99999,32)] λ_=>kH (show (xA g).length=1 from rfl)<|kH (show ∀i j,i<1->j<7->pw k_.c k_.d (xA g) i j=((xA g).flatMap k_.c).getD (i * 7+j) .oF from(λi j hi hj=>vJ (sz:=7) (e:=k_.c) (d:=k_.d) (λ_=>rfl) (xA g) i j hi hj))<|kD 6 5 [(100000,32),(100001,35)] [(99999,36)] λ_=>kX 4 IA<|kX 6 (abW g)<|kR [36] [] [])))))
def ZmO(g:sM)(B:qA):S6 (o7 oZ):=tb (zN B (1:Int) Tm) λD h=>(G9).bind λA=>tb (zu h A Tm) λj e=>(ZuM g.fx.c_ g.fx.pE).bind λF=>(ZwG j.j_ F g.fc.qq).bind λd=>bif(d.2==(0:Int))then tb (AD e A (oM.mk 0 (a_.mk (l_.mk (oV.mk Tm 0 0) 0) Tm 0 (pW.mk 0 0) 0 0) [] d.1) Tl) λG o=>tb (uT o (1:Int) (d.2 != (0:Int))) λH t=>(Hq d.2).bind λI=>S8 (o7.ret I t)else tb (uT e (1:Int) (d.2 != (0:Int))) λJ u=>(Hq d.2).bind λy=>S8 (o7.ret y u)
abbrev abT:RA:=⟨[],[],[],[],[(3,[Fy])],[],[]⟩
instance{e g}:qg (ZmO e g) 68 (qF g) (DI e) tu:=kO Tryz.func68 (ri λ_ _=>kCq λ_ h=>kH Ls<|ri λ_ _=>f'<|f'<|kB (kJ h<|kH Gw<|kX 4 abT<|ri λ_ _=>ri λ_ _=>f'<|qy) (ri λ_ _=>f'<|qy))
def ZuJ(e:p5)(d:pD):S6 vo:=(LJ d).bind λg=>bif(!g)then S8 (vo.Jt (sM.mk e d))else bif(d.d_==(3:Int))then S8 (vo.KZ (sM.mk e d))else bif(d.d_==(4:Int))then S8 (vo.KY (sM.mk e d))else bif(d.d_==(13:Int))then S8 (vo.KX (sM.mk e d))else S8 (vo.Jt (sM.mk e d))
instance{d e}:o0 (ZuJ d e) (eS 29 (Ij d e) λr=>.one (vo.c r)):=kS Tryz.func29 (f'<|kB i_ (kB i_ (kB i_ (kB i_ i_))))
def Pe(d:Int):S6 oZ:=S8 (oZ.mk d (l_.mk (oV.mk Tm 0 0) 0) 0 0 [])
instance{e}:o0 (Pe e) (eS 217 [Yj e] tu):=kS Tryz.func217 (kR [] [(2,uc)] [])
def ZmK(j:wj)(e:qA):S6 (o7 oZ):=tb (L9 e Tl) λg d=>(Pe (1:Int)).bind λh=>S8 (o7.ret h d)
abbrev AR(a:wj):S5 V:=[.agg (wj.c a),.one tc]
instance{d e}:qg (ZmK d e) 135 (qF e) (AR d) tu:=kO Tryz.func135 (ri λ_ _=>f'<|qy)
def G_:S6 pM:=S8 (pM.mk 3 0 0)
instance:o0 (G_) (eS 221 [] AL):=kS Tryz.func221 (i_)
def JQ(g:qA):S6 (o7 (S5 oD)):=(G_).bind λh=>tb (zu g h Tm) λd e=>S8 (o7.ret d.po e)
instance{d}:qg (JQ d) 220 (qF d) [.one tc] Ym:=kO Tryz.func220 (f'<|kH Ls<|ri λ_ _=>qy)
def ZuV(d:oD):S6 Bool:=(JT d.g_).bind λe=>bif e then bif(decide (d.pq>=(1:Int)))then S8 (decide (d.pq<=(1099511627776:Int)))else S8 Tm else S8 Tm
instance{d}:o0 (ZuV d) (eS 325 [.agg (oD.c d)] Yk):=kS Tryz.func325 (f'<|kB (kB i_ i_) (kK Tm<|i_))
def Zdz(d:S5 oD):S6 (S5 oD):=f_ (0<S7 d)<|f_ ((([]:S5 oD)++d).length * 40<=140737488355328/\(([]:S5 oD)++d).length<=maxLen)<|some (([]:S5 oD)++d)
abbrev wY:S5 oD:=([]:S5 oD)
abbrev DU:S5 (Nat × sF):=[(0,.c (wY).length (pw oD.c oD.d []))]
abbrev M4(a:S5 oD):Nat × B:=(99999,.rows 136 5 a.length (pw oD.c oD.d a))
abbrev Ik:S5 C:=(wY).flatMap oD.c
instance{g}:pC (Zdz g) (eH 287 [] [Ym g] (λr=>[(M4 r)]) oH):=sE X5 (kN<|kK Tm<|kH (show (wY).length=0 from rfl)<|kH (show ∀i j,i<0->j<5->pw oD.c oD.d [] i j=(Ik).getD (i * 5+j) .oF from(λi j hi hj=>vJ (sz:=5) (e:=oD.c) (d:=oD.d) (λ_=>rfl) [] i j hi hj))<|kA 2 2 oD.E<|kX 2 (rA DU)<|r7 Ci S_)
def ZbX(d:S5 oD):S6 (S5 oD):=f_ (S7 d * 40<=140737488355328/\S7 d<=maxLen)<|some d
instance{e}:pC (ZbX e) (eH 287 [] [Ym e] (λr=>[(99999,.rows 136 5 r.length (pw oD.c oD.d r))]) λr=>.one (.p8 99999 r.length)):=pC.of (Lp (gn:=Zdz) X5 (by kernel_rfl) Xh (λ_ _ _=>by kernel_rfl) (λ_ _=>by kernel_rfl) (λ_ _ h=>show rX _ _ _ _ _ _ from pC.ok h) (λl h o=>by unfold Zdz;rw[CO h,CO (by simpa using o)];simp) e)
def ZuT(d:oD)(c0:pn):S6 Bool:=S8 (decide (d.g_=c0))
abbrev M8(a:pn):Nat → C:=λj=>(pn.c a:S5 C).getD (0+j) .oF
instance{d c0}:o0 (ZuT d c0) (eS 332 [.agg (oD.c d),.one (.rp Tm 4 (M8 c0))] Yk):=kS Tryz.func332 (kQ 1 3 (LN d.g_ c0 (.tmp 5) (.tmp 6))<|i_)
def QF(h:S5 oD)(e:pn):Nat->Int->Int->S6 Int|0,_,_=>S_|fu+1,j,g=>bif(decide (g<j))then f_ (0<=g/\g<(S7 h:Int))<|(ZuT (h.getD g.toNat oD.d) e).bind λo=>bif o then S8 g else QF h e fu j (n_ g 1)else S8 (-1:Int)
theorem Zks{g d}:∀{e h o},LS z X9 uv (QF g d e h o) Yj ⟨[(0,(Ym g)),(1,.one (oq 332 0 1 [] [.rp Tm 4 (M8 d)])),(tG h),(sG o)],[]⟩:=@qv _ kZ λt=>kB (kN<|f'<|kB i_ (kL 17 t)) i_
def ZeW(e:S5 oD)(d:pn):S6 Int:=QF e d (((S7 e:Int)-(0:Int)).toNat+2) (S7 e:Int) (0:Int)
instance{e d}:o0 (ZeW e d) (eS 327 [Ym e,.one (.qs (.func 332) 0 1 ub (λi=>([.rp Tm 4 (M8 d)]:S5 C).getD i .oF))] Yj):=kS X3 (kL 6 Zks)
def Sv(d:S5 oD)(e:pn):S6 Int:=(ZeW d e).bind λg=>S8 g
instance{d e}:o0 (Sv d e) (eS 285 [Ym d,.agg (sj e)] Yj):=kS Tryz.func285 (f'<|kX 1 FD<|i_)
def ZAi(d e:oD):S6 oD:=bif(decide (d.g_=e.g_))then S8 (oD.mk d.g_ (if e.pq>d.pq then e.pq else d.pq))else S8 d
instance{d e}:o0 (ZAi d e) (eS 326 [.agg (oD.c d),.agg (oD.c e)] (ov oD.c)):=kS Tryz.func326 (kQ 1 4 (LN d.g_ e.g_ (.tmp 6) (.tmp 8))<|kB i_ i_)
set_option maxHeartbeats 4000000 in
set_option maxRecDepth 100000 in
theorem ZIV:N2 W8 330 136 5:=λb n c i vb m vc cur bi w hi hm rP cR iX uw xq r9 C9 tV vS BJ=>by
 have lw:=cR
 unfold maxLen at cR
 obtain⟨BI,cJ,fU,fW,bL,uQ,n7,bF,dg,hb4⟩:=ZQe hi hm rP cR
 have fR:∀o lb cb,(callFunc 354 #[.slice (S8 ⟨vb,0,S_⟩) m vc,.slice (S8 ⟨b,o,S_⟩) lb cb]).run W8 w=.ok (.value (.bool Tm)) w:=λo lb cb=>by
  rw[run_callFunc_extern Tryz.func354 (by kernel_rfl) (by kernel_rfl) (by kernel_rfl) (e:=XK #[42,42] #[4]) (by kernel_rfl),
   XT w 42 4 136 Xh 5 Tryz.sizeOf136 ⟨vb,0,S_⟩ ⟨b,o,S_⟩ m vc lb cb iX 136 136 bi.size cur.size (by simp[XS,r9]) (by simp[XS,uw]) (by omega) (by simp[XP,r9]) (by simp[XP,r9])]
  rfl
 obtain⟨M1,R,jx,jy,HD,HG,HA,HL,HF⟩:=Zxo Xh (by kernel_rfl) hi hm uw xq r9 C9 tV vS BJ rP iX
 replace HD:=XJ HD;replace HG:=XJ HG;replace HA:=XJ HA;replace HL:=XJ HL;replace HF:=XJ HF
 clear vS BJ
 have mixed:W8.follows .mixedOrders=Tl:=by kernel_rfl
 go_enter XM,XQ
 go_wp2_with (simp only[fR])
 go_region_law_o (refine step_copy_runI rfl _ _ 42 42 rfl _ _ (by simp[XL,UJ]) (by simp[XL,UJ]) (jx _ _ _) ?_)
 go_wp2_with (at_builtin;refine wpList_copy_runI _ rfl _ _ 42 42 rfl _ _ rfl rfl (jy _ rfl _ _) ?_)
 go_ret
 exact⟨R,rfl,HD.out,HG.out,HA.out,HL.out,HF.out⟩
set_option maxHeartbeats 4000000 in
set_option maxRecDepth 100000 in
theorem ZNq:N3 W8 330 136 5 40:=λb n c i vb m vc cur bi w hi hm d7 rP dC uw xq r9 C9 tV vS BJ=>by
 have jG:b<w.heap.size:=(V5.1 uw).1
 have jH:vb<w.heap.size:=(V5.1 r9).1
 obtain⟨i0,vR,cu,fe,fD⟩:=QO.info (t:=136) (show sv tab 136=S8 _ from rfl)
 obtain⟨G,W1,R2,R,n8,jz,gM,eY,gN,cd,fC,C_,Da,HR,HF⟩:=ZyG Xh (by kernel_rfl) hi hm uw xq r9 C9 tV vS BJ (by decide) (by decide) vR fD cu fe rfl WK d7 rP dC
 have HW:=XJ fC;clear fC
 replace HF:=XJ HF;replace HR:=XJ HR
 have mixed:W8.follows .mixedOrders=Tl:=by kernel_rfl
 obtain⟨BI,cJ,hz3,hbN,hvN,hGi,n9,hci,mh,uQ,n7,fU,bL,dg⟩:=ZIU hi hm rP d7 C_ Da jG jH
 clear vR fe cu fD xq tV vS BJ uw r9
 go_enter XM,XQ
 go_wp2_with (first
  | (at_builtin;refine XI _ rfl _ _ _ _ rfl _ _ rfl rfl _ _ (n8 _) ?_)
  | (at_builtin;refine wpList_copy_runI _ rfl _ _ 42 42 rfl _ _ rfl rfl (jz _ rfl _ _) ?_)
  | (at_builtin;refine wpList_copy_runI _ rfl _ _ 42 42 rfl _ _ rfl rfl (gM _ (by first|exact eY|assumption) (by first|exact gN|assumption) _ _ _) ?_))
 go_region_law_o (refine step_copy_runI rfl _ _ 42 42 rfl (.slice (S8 ⟨w.heap.size,(i+m) * 5,S_⟩) (n+m-(i+m)) (G-(i+m))) (.slice (S8 ⟨b,i * 5,S_⟩) (n-i) (c-i)) (by simp[XL,UJ]) (by simp[XL,UJ]) (gM (W1.setRow w.heap.size R2).drew eY gN 3 (G-(i+m)) (c-i)) ?_)
 go_wp2
 go_ret
 exact ZUV HW.out cd eY C_ Da HR.out HF.out
set_option maxHeartbeats 4000000 in
set_option maxRecDepth 100000 in
theorem ZRS:N4 W8 330 42:=λbK n c vb m vc w w' v' d7 cR hm eF jA uL=>by
 have BI:¬((m:Int)=0):=by omega
 unfold maxLen at cR jA
 cases bK with
 |none=>
  have h0:=eF rfl
  subst h0
  go_enter XM,XQ
  go_wp2_with (at_builtin;refine XI _ rfl _ _ _ _ rfl _ _ rfl rfl _ _ (uL _) ?_)
  go_ret
  exact⟨rfl,rfl⟩
 |some a=>
  obtain⟨ab,ao,asp⟩:=a
  go_enter XM,XQ
  go_wp2_with (at_builtin;refine XI _ rfl _ _ _ _ rfl _ _ rfl rfl _ _ (uL _) ?_)
  all_goals (go_ret;exact⟨rfl,rfl⟩)
def Qz(d:S5 oD)(e:Int)(g:S5 oD):S6 (S5 oD):=f_ (0<=e/\e.toNat<=S7 d/\0<S7 g/\(S7 d+S7 g) * 40<=140737488355328/\S7 d+S7 g<=maxLen)<|some (d.take e.toNat++g++d.drop e.toNat)
theorem Zip(e:S5 oD)(j:Int)(g r:S5 oD)(o:Qz e j g=S8 r) :
  Yr 330 [(oj 100000 136 5 oD.c oD.d e),(oj 100001 136 5 oD.c oD.d g)] [.one (.p8 100000 e.length),Yj j,.one (.p8 100001 g.length)]
   [(oj 99999 136 5 oD.c oD.d r)] (.one (.p8 99999 r.length)):=by
 obtain⟨⟨o1,o2,u,y,A⟩,o⟩:=yg o;cases o;obtain⟨i0,vR,cu,fe,fD⟩:=QO.info (t:=136) (show sv tab 136=S8 _ from rfl);have h:=ZCw (enc:=oD.c) (d:=oD.d) (F:=330) (BY:=40) (K:=5) ⟨_,XM,rfl,rfl⟩ Xh vR fD cu fe rfl (by decide) ZIV ZNq ZRS e g j.toNat o2 u y A;rw[Xw o1]at h;exact h
instance (e:S5 oD) (h:Int) (g:S5 oD):pC (Qz e h g) (eH 330 [(100000,.rows 136 5 e.length (pw oD.c oD.d e)),(100001,.rows 136 5 g.length (pw oD.c oD.d g))] [.one (.p8 100000 e.length),Yj h,.one (.p8 100001 g.length)] (λ(r:S5 oD)=>[(M4 r)]) oH):=pC.of λr j=>Zip e h g r j
def ZvR(d c0:oD):S6 Bool:=(ZpO d.g_ c0.g_).bind λe=>S8 (decide (e>0))
abbrev M7(a:oD):Nat → C:=λj=>(oD.c a:S5 C).getD (0+j) .oF
instance{d c0}:o0 (ZvR d c0) (eS 328 [.agg (oD.c d),.one (.rp Tm 5 (M7 c0))] Yk):=kS Tryz.func328 (f'<|i_)
def QE(h:S5 oD)(e:oD):Nat->Int->Int->S6 Int|0,_,_=>S_|fu+1,j,g=>bif(decide (g<j))then f_ (0<=g/\g<(S7 h:Int))<|(ZvR (h.getD g.toNat oD.d) e).bind λo=>bif o then S8 g else QE h e fu j (n_ g 1)else S8 (-1:Int)
theorem Zkt{g d}:∀{e h o},LS z X9 uv (QE g d e h o) Yj ⟨[(0,(Ym g)),(1,.one (oq 328 0 1 [] [.rp Tm 5 (M7 d)])),(tG h),(sG o)],[]⟩:=@qv _ kZ λt=>kB (kN<|f'<|kB i_ (kL 17 t)) i_
def ZdF(e:S5 oD)(d:oD):S6 Int:=QE e d (((S7 e:Int)-(0:Int)).toNat+2) (S7 e:Int) (0:Int)
instance{e d}:o0 (ZdF e d) (eS 327 [Ym e,.one (.qs (.func 328) 0 1 ub (λi=>([.rp Tm 5 (M7 d)]:S5 C).getD i .oF))] Yj):=kS X3 (kL 6 Zkt)
def Sh(e:S5 oD)(h:oD)(t:Int):S6 ((S5 oD)×Int):=(ZuV h).bind λu=>bif(!u)then S8 (([]:(S5 oD)),(1:Int))else(ZbX e).bind λj=>(Sv e h.g_).bind λg=>bif(decide (g>=(0:Int)))then f_ (0<=g/\g<(S7 e:Int))<|(ZAi (e.getD g.toNat oD.d) h).bind λy=>f_ (0<=g/\g<(S7 j:Int))<|some ((j.set g.toNat y),(0:Int))else bif(decide ((S7 e:Int)>=t))then S8 (([]:(S5 oD)),(5:Int))else(ZdF e h).bind λo=>bif(decide (o<0))then(Qz j (S7 e:Int) ([h]:S5 oD)).bind λA=>S8 (A,(0:Int))else(Qz j o ([h]:S5 oD)).bind λB=>S8 (B,(0:Int))
abbrev DN(a:S5 oD × Int):S5 (Bool × S5 C):=[(Tm,(wa 5 oD.c oD.d) a.1),(Tm,uf a.2)]
abbrev DK:S5 (Nat × C):=[(0,cL 5 oD.c oD.d [])]
abbrev xz(a:oD):S5 oD:=([a]:S5 oD)
abbrev abV(a:oD):RA:=rA [(3,.c (xz a).length (pw oD.c oD.d (xz a)))]
instance{h g o}:o0 (Sh h g o) (eS 283 [Ym h,.agg (oD.c g),Yj o] λr=>.qw (DN r)):=kS Tryz.func283 (f'<|kB (kR [] [] [(6,DK)]) (kD 2 1 [] [(99999,15)] λt=>kC λu=>kB (kN<|kC λy=>sB λA=>kW 5 9 oD.E t u.toNat y (ltOf A)<|kR [15] [] []) (kB (kR [] [] [(6,DK)]) (f'<|kB (kH (show (xz g).length=1 from rfl)<|kH (show ∀i j,i<1->j<5->pw oD.c oD.d (xz g) i j=((xz g).flatMap oD.c).getD (i * 5+j) .oF from(λi j hi hj=>vJ (sz:=5) (e:=oD.c) (d:=oD.d) (λ_=>rfl) (xz g) i j hi hj))<|kD 9 4 [(100000,15),(100001,46)] [(99999,47)] λ_=>kX 6 IA<|kX 9 (abV g)<|kR [47] [] []) (kH (show (xz g).length=1 from rfl)<|kH (show ∀i j,i<1->j<5->pw oD.c oD.d (xz g) i j=((xz g).flatMap oD.c).getD (i * 5+j) .oF from(λi j hi hj=>vJ (sz:=5) (e:=oD.c) (d:=oD.d) (λ_=>rfl) (xz g) i j hi hj))<|kD 8 4 [(100000,15),(100001,46)] [(99999,47)] λ_=>kX 6 IA<|kX 8 (abV g)<|kR [47] [] [])))))
def PM:Nat->Int->Int->(S5 (S5 a_))->qA->S6 (o7 (S5 (S5 a_)))|0,_,_,_,_=>S_|fu+1,h,e,g,d=>bif(decide (e<h))then tb (El d e) λj o=>f_ (0<=e/\e<(S7 g:Int))<|PM fu h (n_ e 1) (g.set e.toNat j) o else S8 (o7.ret g d)
theorem ZuG:∀{t o h g e},LO z Tryz.f223 qJ (PM t o h g e) (λr=>.one (wm r)) ⟨[Ft,(5,.one (.p8 10 g.length)),(12,(Yj o)),(13,(Yj h))],[(oj 10 51 1 tv [] g),(AW e)]⟩:=@qv _ kZ λu=>by intro o h g e;exact kB (rI λj _=>sB λy=>kW 2 6 Im g h.toNat j (ltOf y)<|kH (oW ((g.set h.toNat j).length))<|rj 14 [] [] [] [(10,((g.set h.toNat j).length))] [] [] u) (ya [10] [] [])
def Zkk(d:wj)(e:qA):S6 (o7 (S5 (S5 a_))):=f_ (0<=d.fc.e_/\d.fc.e_<=d.fc.e_/\d.fc.e_<=140737488355328/\d.fc.e_ * 24<=140737488355328)<|PM ((((d.fc.e_.toNat:Nat):Int)-(0:Int)).toNat+2) ((d.fc.e_.toNat:Nat):Int) (0:Int) (V6 d.fc.e_.toNat ([]:(S5 a_))) e
abbrev IF(a:wj):S5 (S5 a_):=V6 a.fc.e_.toNat ([]:re)
instance{e g}:qg (Zkk e g) 223 (qF g) (AR e) (λr=>.one (wm r)):=kO Tryz.func223 (uU λo1=>kH (show e.fc.e_=((e.fc.e_.toNat:Nat):Int)from(Xw o1.1).symm)<|kH (show ((e.fc.e_.toNat:Nat):Int)<=e.fc.e_ from(Int.le_trans (Int.le_of_eq (Xw o1.1)) o1.2.1))<|kH o1.2.2.1<|kH o1.2.2.2<|kH (show ∀i j,i<e.fc.e_.toNat->j<1->zJ (([.lit (.slice S_ 0 0)]:S5 C).getD j .oF) (pw tv [] (IF e) i j)from(R_ (λj hj=>match j,hj with|0,_=>.inr ⟨rfl,_,_,rfl⟩|j+1,h=>aFe h (by omega)) _))<|kH (show (IF e).length=e.fc.e_.toNat from XO)<|kX 1 (rA [(3,.c e.fc.e_.toNat (pw tv [] (IF e)))])<|rj 8 [] [] [] [(10,((IF e).length))] [] [] ZuG)
def Py:Nat->(S5 a_)->Int->Int->(S5 a_)->(S5 a_)->pn->S6 ((S5 a_)×(S5 a_))|0,_,_,_,_,_,_=>S_|fu+1,g,o,e,h,j,t=>bif(decide (e<o))then f_ (0<=e/\e<(S7 g:Int))<|(Lx t (((g.getD e.toNat a_.d).c_).b_)).bind λu=>bif u then f_ ((h++([(g.getD e.toNat a_.d)]:S5 a_)).length * 80<=140737488355328/\(h++([(g.getD e.toNat a_.d)]:S5 a_)).length<=maxLen)<|Py fu g o (n_ e 1) (h++([(g.getD e.toNat a_.d)]:S5 a_)) j t else f_ ((j++([(g.getD e.toNat a_.d)]:S5 a_)).length * 80<=140737488355328/\(j++([(g.getD e.toNat a_.d)]:S5 a_)).length<=maxLen)<|Py fu g o (n_ e 1) h (j++([(g.getD e.toNat a_.d)]:S5 a_)) t else S8 (h,j)
theorem ZxD:∀{t h u e j o g},LS z Tryz.f232 uv (Py t h u e j o g) (λr=>.qw [(Tm,tv r.1),(Tm,tv r.2)]) ⟨[sH,(4,.one (.p8 4 j.length)),(Ig o),(8,(Yn h)),(9,(Yj u)),(sN e)],[(oj 4 41 10 a_.c a_.d j),(Ie o),(3,.box (sj g))]⟩:=@qv _ kZ λy=>by intro h u e j o g;exact kB (kN<|f'<|kB (kM 3 2 a_.E (B8 h e)<|kA 3 3 a_.E<|tA 17 [(22,4)] y) (kM 3 2 a_.E (B8 h e)<|kA 3 3 a_.E<|tA 17 [(26,5)] y)) (kR [4,5] [] [])
def ZqJ(d:S5 a_)(e:pn):S6 ((S5 a_)×(S5 a_)):=Py (((S7 d:Int)-(0:Int)).toNat+2) d (S7 d:Int) (0:Int) ([]) ([]) e
instance{e g}:o0 (ZqJ e g) (eS 232 [Yn e,.agg (sj g)] λr=>.qw [(Tm,tv r.1),(Tm,tv r.2)]):=kS Tryz.func232 (rj 6 [] [] [] [] [(4,4,41,10,pw a_.c a_.d []),(5,5,41,10,pw a_.c a_.d [])] [] ZxD)
def L8(h:Bool):Nat->Int->(S5 a_)->Int->Int->S6 Int|0,_,_,_,_=>S_|fu+1,j,g,o,e=>bif(decide (e<o))then f_ (0<=e/\e<(S7 g:Int))<|bif((g.getD e.toNat a_.d).tL==h)then L8 h fu (n_ j 1) g o (n_ e 1)else L8 h fu j g o (n_ e 1)else S8 j
theorem ZxE{g}:∀{e h j o d},LS z Tryz.f297 qJ (L8 g e h j o d) Yj ⟨[(1,(Yk g)),(tt h),(8,(Yn j)),(9,(Yj o)),(sN d)],[]⟩:=@qv _ kZ λt=>kB (kN<|kB (kL 17 t) (kL 17 t)) i_
def LQ(d:S5 a_)(e:Bool):S6 Int:=L8 e (((S7 d:Int)-(0:Int)).toNat+2) (0:Int) d (S7 d:Int) (0:Int)
instance{d e}:o0 (LQ d e) (eS 297 [Yn d,Yk e] Yj):=kS Tryz.func297 (kL 8 ZxE)
def SR:Nat->(S5 a_)->Int->Int->(S5 l_)->S6 (S5 l_)|0,_,_,_,_=>S_|fu+1,g,j,e,h=>bif(decide (e<j))then f_ (0<=e/\e<(S7 g:Int))<|f_ ((h++([(g.getD e.toNat a_.d).c_]:S5 l_)).length * 32<=140737488355328/\(h++([(g.getD e.toNat a_.d).c_]:S5 l_)).length<=maxLen)<|SR fu g j (n_ e 1) (h++([(g.getD e.toNat a_.d).c_]:S5 l_))else S8 h
theorem ZAb:∀{g h o j e},LH z Tryz.f331 qJ (SR g h o j e) (ol 99999 37 4 l_.c l_.d) oH ⟨[(3,.one (.p8 3 e.length)),(6,(Yn h)),(tG o),(sG j)],[(oj 3 37 4 l_.c l_.d e)]⟩:=@qv _ kZ λt=>by intro h o j e;exact kB (kN<|kM 2 3 l_.E ([(uJ h j).c_]:S5 l_)<|kA 2 4 l_.E<|tA 14 [(16,3)] t) (r7 Ce S_)
def ZuH(d:S5 a_):S6 (S5 l_):=SR (((S7 d:Int)-(0:Int)).toNat+2) d (S7 d:Int) (0:Int) ([])
abbrev Nh:S5 l_ → S5 (Nat × B):=λr=>[(99999,.rows 37 4 r.length (pw l_.c l_.d r))]
instance{e}:pC (ZuH e) (eH 331 [] [Yn e] Nh oH):=sE Tryz.func331 (rj 8 [] [] [] [] [(3,3,37,4,pw l_.c l_.d [])] [] ZAb)
instance{d}:o0 (ZuH d) (eS 331 [Yn d] Yo):=o0.of λr h=>(show rX _ _ _ _ _ _ from pC.ok h).pure
def JV(j:S5 l_):Nat->Int->Int->(S5 k_)->S6 (S5 k_)|0,_,_,_=>S_|fu+1,g,e,h=>bif(decide (e<g))then f_ (0<=e/\e<(S7 h:Int))<|bif((h.getD e.toNat k_.d).ql==(3:Int))then(Zdy j ((h.getD e.toNat k_.d).c_)).bind λo=>bif o then(O8 (h.getD e.toNat k_.d)).bind λt=>JV j fu g (n_ e 1) (h.set e.toNat t)else JV j fu g (n_ e 1) h else JV j fu g (n_ e 1) h else S8 h
theorem ZAh{y}:∀{j h e g},LH z Tryz.f293 qJ (JV y j h e g) (ol 99999 160 7 k_.c k_.d) oH ⟨[(1,(Yo y)),(5,.one (.p8 9 g.length)),(10,.one (.p8 9 g.length)),(uH h),(12,(Yj e))],[(oj 9 160 7 k_.c k_.d g)]⟩:=@qv _ kZ λt=>by intro h e g;exact kB (sB λu=>kH (ltOf u)<|kB (f'<|kB (kC λo=>kH u<|kW 3 5 k_.E g e.toNat o (ltOf u)<|kH (oW ((g.set e.toNat o).length))<|rj 17 [] [] [] [(9,((g.set e.toNat o).length))] [] [] t) (kL 17 t)) (kK Tm<|kL 17 t)) (r7 (oh [4] [9] [(9,99999)]) S_)
def OS(e:S5 k_)(g:S5 l_):S6 (S5 k_):=(MI e).bind λd=>JV g (((S7 d:Int)-(0:Int)).toNat+2) (S7 d:Int) (0:Int) d
instance{e g}:pC (OS e g) (eH 293 [] [Yp e,Yo g] (λr=>(FF r)) oH):=sE Tryz.func293 (kD 1 1 [] [(99999,9)] λ_=>kL 8 ZAh)
instance{d e}:o0 (OS d e) (eS 293 [Yp d,Yo e] Yp):=o0.of λr h=>(show rX _ _ _ _ _ _ from pC.ok h).pure
def SQ(o:S5 a_)(d:qA):S6 (o7 Unit):=(LQ o Tm).bind λt=>bif(t==(0:Int))then S8 (o7.ret () d)else tb (zu d (pM.mk 4 0 0) Tm) λe g=>(ZuH o).bind λu=>(OS e.j_ u).bind λy=>tb (AD g (pM.mk 4 0 0) (oM.mk 0 (a_.mk (l_.mk (oV.mk Tm 0 0) 0) Tm 0 (pW.mk 0 0) 0 0) [] y) Tm) λA h=>tb (CR h (2:Int) (US .i64 (0-t)) Tm) λB j=>S8 (o7.ret () j)
abbrev abS:RA:=⟨[],[],[],[],[(6,[Fy])],[],[]⟩
theorem ZtB{g}{e}:LO z Tryz.f284 [1] (SQ g e) tQ ⟨[Cc,(1,(Yn g))],(qF e)⟩:=f'<|kB qy (ri λ_ _=>f'<|f'<|kH Gw<|kX 3 abS<|ri λ_ _=>rI λ_ _=>qy)
def ZuI(g:qA)(d:S5 a_):S6 (o7 Unit):=(LQ d Tl).bind λh=>bif(decide (h>0))then tb (CR g (1:Int) (US .i64 (0-h)) Tm) λj e=>SQ d e else SQ d g
instance{d e}:qg (ZuI d e) 284 (qF d) [.one tc,Yn e] tQ:=kO Tryz.func284 (f'<|kB (rI λ_ _=>kL 7 ZtB) (kL 7 ZtB))
def Mm:Nat->(S5 (S5 a_))->Int->Int->(S5 a_)->qA->wj->oZ->S6 (o7 oZ)|0,_,_,_,_,_,_,_=>S_|fu+1,g,h,e,j,d,t,A=>bif(decide (e<h))then f_ (0<=e/\e<(S7 g:Int))<|(ZqJ (g.getD e.toNat []) t.fx.g_).bind λo=>bif(decide (((o.1.length:Nat):Int)>(0:Int)))then tb (Dp d e (g.getD e.toNat []) o.2) λB u=>f_ ((j++o.1).length * 80<=140737488355328/\(j++o.1).length<=maxLen)<|Mm fu g h (n_ e 1) (j++o.1) u t A else Mm fu g h (n_ e 1) j d t A else tb (ZuI d j) λD y=>S8 (o7.ret (oZ.mk 0 (l_.mk (oV.mk Tm 0 0) 0) (S7 j:Int) 0 []) y)
theorem Zvo:∀{u j o t y g e h},LO z Tryz.f218 [1,1,1,1,1,1,0,1,0] (Mm u j o t y g e h) tu ⟨[Ft,tH,sQ,(8,.one (.p8 8 y.length)),(44,.one (wm j)),(45,(Yj o)),(46,(Yj t))],[(oj 8 41 10 a_.c a_.d y),(AW g),(2,.box (wj.c e)),(4,.box (oZ.c h))]⟩:=@qv _ kZ λA=>kB (kN<|f'<|kB (rI λ_ _=>kA 5 2 a_.E<|tA 21 [(69,8)] A) (kL 19 A)) (kX 1 ⟨[],[],[(2,[8])],[],[],[],[]⟩<|rI λ_ _=>ya [] uI [])
def ZnS(e:wj)(u:qA):S6 (o7 oZ):=tb (JQ u) λh g=>(Sh h (oD.mk e.fx.g_ e.fx.qz) e.fc.qc).bind λj=>bif(j.2 != (0:Int))then(Pe j.2).bind λy=>S8 (o7.ret y g)else tb (Zkk e g) λd o=>(G_).bind λA=>tb (AD o A (oM.mk 0 (a_.mk (l_.mk (oV.mk Tm 0 0) 0) Tm 0 (pW.mk 0 0) 0 0) j.1 []) Tm) λB t=>Mm (((S7 d:Int)-(0:Int)).toNat+2) d (S7 d:Int) (0:Int) ([]) t e (oZ.mk 0 (l_.mk (oV.mk Tm 0 0) 0) 0 0 [])
abbrev AY:RA:=⟨[],[],[],[],[(3,[M0])],[],[]⟩
instance{e g}:qg (ZnS e g) 218 (qF g) (AR e) tu:=kO Tryz.func218 (rI λ_ _=>f'<|kB (f'<|qy) (rI λ_ _=>f'<|kH Gw<|kX 4 AY<|ri λ_ _=>rj 19 [] uI [] [] [(8,8,41,10,pw a_.c a_.d [])] [] Zvo))
def ZoW(d:wj)(B:qA):S6 (o7 oZ):=bif(decide (d.fx.qz<=d.fx.pE))then tb (L9 B Tl) λD e=>(Pe (3:Int)).bind λF=>S8 (o7.ret F e)else tb (zN B (0:Int) Tm) λG g=>tb (zN g (1:Int) Tm) λH h=>tb (Ht h d.fc.e_) λI j=>tb (ZnS d j) λo t=>tb (Hs t d.fc.e_ Tl) λJ u=>tb (uT u (1:Int) Tm) λL y=>tb (uT y (0:Int) Tm) λM A=>S8 (o7.ret o A)
instance{d e}:qg (ZoW d e) 136 (qF e) (AR d) tu:=kO Tryz.func136 (kB (ri λ_ _=>f'<|qy) (ri λ_ _=>ri λ_ _=>rI λ_ _=>rI λ_ _=>rI λ_ _=>ri λ_ _=>ri λ_ _=>qy))
def ZeX(e:S5 oD)(h g:Int):S6 (S5 oD):=f_ (0<=h/\h<=g/\g<=(S7 e:Int)/\(S7 e:Int)<=(S7 e:Int))<|bif(h==g)then S8 e else f_ (0<=(0:Int)/\(0:Int)<=h/\h<=(S7 e:Int))<|f_ (0<=g/\g<=(S7 e:Int)/\(S7 e:Int)<=(S7 e:Int))<|f_ (g.toNat+(S7 e-g.toNat)<=S7 e/\h.toNat+(S7 e-g.toNat)<=S7 e)<|f_ (0<=(((h.toNat+(S7 e-g.toNat)):Nat):Int)/\(((h.toNat+(S7 e-g.toNat)):Nat):Int)<=(S7 e:Int)/\((0:Nat):Int)+(S7 e:Int)<=(S7 e:Int))<|f_ ((0+(((h.toNat+(S7 e-g.toNat)):Nat):Int).toNat)+((S7 e:Int).toNat-(((h.toNat+(S7 e-g.toNat)):Nat):Int).toNat)<=(xP e h.toNat g.toNat (S7 e-g.toNat)).length)<|f_ ((h.toNat+(S7 e-g.toNat))<=(Ak (xP e h.toNat g.toNat (S7 e-g.toNat)) (0+(((h.toNat+(S7 e-g.toNat)):Nat):Int).toNat) ((S7 e:Int).toNat-(((h.toNat+(S7 e-g.toNat)):Nat):Int).toNat) oD.d).length)<|some ((Ak (xP e h.toNat g.toNat (S7 e-g.toNat)) (0+(((h.toNat+(S7 e-g.toNat)):Nat):Int).toNat) ((S7 e:Int).toNat-(((h.toNat+(S7 e-g.toNat)):Nat):Int).toNat) oD.d).take (h.toNat+(S7 e-g.toNat)))
abbrev zR(d:S5 oD)(e f:Int):S5 oD:=xP d e.toNat f.toNat (S7 d-f.toNat)
abbrev Cf(d:Int)(e:S5 oD)(f:Int):Int:=(((d.toNat+(S7 e-f.toNat)):Nat):Int)
abbrev Ch(a:S5 oD)(b c:Int):S5 oD:=Ak (zR a b c) (0+(Cf b a c).toNat) ((S7 a:Int).toNat-(Cf b a c).toNat) oD.d
abbrev IM(a:S5 oD)(b c:Int):S5 oD:=(Ch a b c).take (b.toNat+(S7 a-c.toNat))
instance{e h g}:pC (ZeX e h g) (eH 286 [(100000,.rows 136 5 e.length (pw oD.c oD.d e))] [.one (.p8 100000 e.length),Yj h,Yj g] (λr=>[(M4 r)]) oH):=sE Tryz.func286 (kN<|kB (r7 ⟨[],[],[],[],[],[6],[100000],[(100000,99999)]⟩ S_) (kN<|kN<|uU λo=>kH (show (zR e h g).length=e.length from(ZWT _ _ _ _ o))<|kH (show 0=0 from rfl)<|kH o.2<|kH (show ∀p q,p<S7 e->q<5->(p<h.toNat\/h.toNat+(S7 e-g.toNat)<=p)->pw oD.c oD.d (zR e h g) p q=pw oD.c oD.d e p q from(alI _ _ _ _ o))<|kH (show ∀p q,p<(S7 e-g.toNat)->q<5->pw oD.c oD.d (zR e h g) (h.toNat+p) q=pw oD.c oD.d e (g.toNat+p) q from(alH _ _ _ _ o))<|kN<|uU λt=>kH (show (Ch e h g).length=(zR e h g).length from(Oz _ _ _ _ t))<|kH (show ∀i j,i<(zR e h g).length->j<5->(i<(0+(Cf h e g).toNat)\/(0+(Cf h e g).toNat)+((S7 e:Int).toNat-(Cf h e g).toNat)<=i)->pw oD.c oD.d (Ch e h g) i j=pw oD.c oD.d (zR e h g) i j from(ZDc _ _ _ t))<|kH (show ∀i j,i<((S7 e:Int).toNat-(Cf h e g).toNat)->j<5->zJ (([.lit AO,.lit DE,.lit DE,.lit wo,.lit wo]:S5 C).getD j .oF) (pw oD.c oD.d (Ch e h g) ((0+(Cf h e g).toNat)+i) j)from(ZDd _ _ _ t (λj hj=>.inl rfl)))<|kH (show 0=0 from rfl)<|uU λu=>kH (show (IM e h g).length=(h.toNat+(S7 e-g.toNat))from(ZBL _ _ u))<|kH (show ∀i j,i<(h.toNat+(S7 e-g.toNat))->j<5->pw oD.c oD.d (IM e h g) i j=pw oD.c oD.d (Ch e h g) i j from(RD _ _))<|kX 4 (rA [(6,.r (.one (.sl 5 (zR e h g).length (pw oD.c oD.d (zR e h g)))) [])])<|kX 5 (rA [(5,.c (Ch e h g).length (pw oD.c oD.d (Ch e h g)))])<|kX 6 (rA [(1,.c (IM e h g).length (pw oD.c oD.d (IM e h g)))])<|r7 ⟨[],[],[],[],[],[6],[6],[(6,99999)]⟩ S_))
def ZuU(e:S5 oD)(g:pn):S6 ((S5 oD)×Int):=(Sv e g).bind λd=>bif(decide (d<0))then S8 (([]:(S5 oD)),(6:Int))else(ZbX e).bind λh=>(ZeX h d (n_ d 1)).bind λj=>S8 (j,(0:Int))
instance{e g}:o0 (ZuU e g) (eS 219 [Ym e,.agg (sj g)] λr=>.qw (DN r)):=kS Tryz.func219 (f'<|kB (kR [] [] [(4,DK)]) (kD 3 1 [] [(99999,13)] λ_=>kD 3 5 [(100000,13)] [(99999,17)] λ_=>kR [17] [] []))
def ZmL(u:wj)(y:qA):S6 (o7 oZ):=tb (zN y (0:Int) Tm) λA g=>tb (JQ g) λh e=>(ZuU h u.fx.g_).bind λd=>bif(d.2==(0:Int))then(G_).bind λB=>tb (AD e B (oM.mk 0 (a_.mk (l_.mk (oV.mk Tm 0 0) 0) Tm 0 (pW.mk 0 0) 0 0) d.1 []) Tl) λD j=>tb (uT j (0:Int) (d.2 != (0:Int))) λF o=>(Pe d.2).bind λG=>S8 (o7.ret G o)else tb (uT e (0:Int) (d.2 != (0:Int))) λH t=>(Pe d.2).bind λI=>S8 (o7.ret I t)
instance{e g}:qg (ZmL e g) 137 (qF g) (AR e) tu:=kO Tryz.func137 (ri λ_ _=>rI λ_ _=>f'<|kB (f'<|kH Gw<|kX 4 AY<|ri λ_ _=>ri λ_ _=>f'<|qy) (ri λ_ _=>f'<|qy))
def ZlA(j:wj)(o:qA):S6 (o7 oZ):=tb (Mh o (0:Int) Tm) λt d=>tb (JQ d) λe g=>(Hn e j.fx.c_.b_ j.fx.pE).bind λu=>tb (Hu g (0:Int) Tl) λy h=>S8 (o7.ret (oZ.mk 0 (l_.mk (oV.mk Tm 0 0) 0) 0 u []) h)
instance{e g}:qg (ZlA e g) 138 (qF g) (AR e) tu:=kO Tryz.func138 (ri λ_ _=>rI λ_ _=>f'<|ri λ_ _=>ya [] uI [])
def Po(o:S5 oD)(t:Int):Nat->(S5 oD)->Int->Int->(S5 oD)->S6 ((S5 oD)×Int)|0,_,_,_,_=>S_|fu+1,g,h,e,j=>bif(decide (e<h))then f_ (0<=e/\e<(S7 g:Int))<|(ZuW (g.getD e.toNat oD.d) t).bind λu=>bif u then f_ ((j++([(g.getD e.toNat oD.d)]:S5 oD)).length * 40<=140737488355328/\(j++([(g.getD e.toNat oD.d)]:S5 oD)).length<=maxLen)<|Po o t fu g h (n_ e 1) (j++([(g.getD e.toNat oD.d)]:S5 oD))else Po o t fu g h (n_ e 1) j else S8 (j,(pR (S7 o:Int) (S7 j:Int)))
abbrev Nb:S5 oD × Int → V:=λr=>.qw [(Tm,(wa 5 oD.c oD.d) r.1),(Tm,ou r.2)]
theorem ZyW{t u}:∀{j o g e h},LS z Tryz.f222 qJ (Po t u j o g e h) Nb ⟨[(0,(Ym t)),(q7 u),(6,.one (.p8 6 h.length)),(9,(Ym o)),(sN g),(uH e)],[(oj 6 136 5 oD.c oD.d h)]⟩:=@qv _ kZ λy=>by intro o g e h;exact kB (kN<|f'<|kB (kM 3 2 oD.E ([(o.getD e.toNat oD.d)]:S5 oD)<|kA 3 3 oD.E<|tA 17 [(21,6)] y) (kL 17 y)) (kR [6] [] [])
def ZsE(d:S5 oD)(e:Int):S6 ((S5 oD)×Int):=Po d e (((S7 d:Int)-(0:Int)).toNat+2) d (S7 d:Int) (0:Int) ([])
instance{e g}:o0 (ZsE e g) (eS 222 [Ym e,Yj g] λr=>.qw (DN r)):=kS Tryz.func222 (rj 8 [] [] [] [] [(6,6,136,5,pw oD.c oD.d [])] [] ZyW)
def ZnQ(u:wj)(y:qA):S6 (o7 oZ):=tb (zN y (0:Int) Tm) λA g=>tb (JQ g) λh e=>(ZsE h u.fx.pE).bind λd=>bif(decide (d.2>(0:Int)))then(G_).bind λB=>tb (AD e B (oM.mk 0 (a_.mk (l_.mk (oV.mk Tm 0 0) 0) Tm 0 (pW.mk 0 0) 0 0) d.1 []) Tl) λD j=>tb (uT j (0:Int) (d.2==(0:Int))) λF o=>S8 (o7.ret (oZ.mk 0 (l_.mk (oV.mk Tm 0 0) 0) d.2 0 []) o)else tb (uT e (0:Int) (d.2==(0:Int))) λG t=>S8 (o7.ret (oZ.mk 0 (l_.mk (oV.mk Tm 0 0) 0) d.2 0 []) t)
instance{e g}:qg (ZnQ e g) 139 (qF g) (AR e) tu:=kO Tryz.func139 (ri λ_ _=>rI λ_ _=>f'<|kB (f'<|kH Gw<|kX 4 AY<|ri λ_ _=>ri λ_ _=>ya [] uI []) (ri λ_ _=>ya [] uI []))
def LR(d e:a_):S6 Int:=(JW d.c_ e.c_).bind λg=>S8 g
instance{d e}:o0 (LR d e) (eS 289 [.agg (si d),.agg (si e)] Yj):=kS Tryz.func289 (f'<|i_)
def Qy(j o h:Int)(ak:Int->(S5 a_)->S6 (S5 a_)):Nat->Int->(S5 a_)->S6 (S5 a_)|0,_,_=>S_|fu+1,g,e=>bif(decide (g>j))then f_ (0<=g/\g<(S7 e:Int))<|f_ (0<=(pR g (1:Int))/\(pR g (1:Int))<(S7 e:Int))<|(LR (e.getD g.toNat a_.d) (e.getD ((pR g (1:Int)).toNat) a_.d)).bind λt=>bif(decide (t<0))then Qy j o h ak fu (pR g (1:Int)) ((e.set g.toNat (e.getD ((pR g (1:Int)).toNat) a_.d)).set ((pR g (1:Int)).toNat) (e.getD g.toNat a_.d))else ak (n_ h 1) e else ak (n_ h 1) e
abbrev yl:C:=.lit (.func (.func 289) #[] #[])
abbrev xK:S5 a_ → S5 (Nat × YtmcnjofonpkfmaaGreat.B):=ol 100000 41 10 a_.c a_.d
abbrev xJ(a:S5 a_):S5 (Nat × YtmcnjofonpkfmaaGreat.B):=[(oj 100000 41 10 a_.c a_.d a)]
abbrev tO:S5 a_ → V:=λr=>ue
abbrev IU(a:S5 a_)(b:Int):Nat:=((a.set b.toNat (a.getD (w6 b) a_.d)).set (w6 b) (uJ a b)).length
theorem ZiY{y:Int}{A:Int}{B:Int}{ak:Int->re->S6 re}(aP:∀{j g},LH z XV [1,0] (ak j g) xK tO ⟨[(uW g),(q7 y),(sV A),(3,.one yl),(sG j)],(xJ g)⟩):∀{u h e},LH z XV [1,0,0,1,0,0,1,0] (Qy y A B ak u h e) xK tO ⟨[(uW e),(q7 y),(sV A),(3,.one yl),(sG B),(9,(Yj h))],(xJ e)⟩:=@qv _ kZ λD=>by intro h e;exact kB (sB λo=>kH (ltOf o)<|sB λt=>kH (ltOf t)<|f'<|kB (kH t<|kH (ltOf t)<|kH o<|kH (ltOf o)<|kH o<|kW 1 15 a_.E e h.toNat (e.getD (w6 h) a_.d) (ltOf o)<|kH t<|kW 1 17 a_.E (e.set h.toNat (e.getD (w6 h) a_.d)) (w6 h) (uJ e h) (by have:=ltOf t;simp at this ⊢;omega)<|kH (oW (IU e h))<|rj 12 [] [] [] [(100000,(IU e h))] [] [] D) (kL 9 aP)) (kK Tm<|kL 9 aP)
def Ku(g h:Int):Nat->Int->(S5 a_)->S6 (S5 a_)|0,_,_=>S_|fu+1,e,d=>bif(decide (e<h))then Qy g h e (Ku g h fu) ((e-g).toNat+2) e d else S8 d
abbrev xH:S5 a_ → S5 (Nat × B):=ol 100000 41 10 a_.c a_.d
theorem ZiZ{h j}:∀{g o e},LH z XV [1,0] (Ku h j g o e) xH tO ⟨[(uW e),(q7 h),(sV j),(3,.one yl),(sG o)],(w5 e)⟩:=@qv _ kZ λt=>kB (kL 11 (ZiY t)) (yD [] [] [] [100000])
def Zcn(g:S5 a_)(d e:Int):S6 (S5 a_):=Ku d e ((e-(n_ d 1)).toNat+2) (n_ d 1) g
abbrev DA:S5 a_ → S5 (Nat × B):=λr=>(AZ r)
instance{e g h}:pC (Zcn e g h) (eH 356 (AZ e) [.one (DO e),Yj g,Yj h,.one yl] DA λr=>ue):=sE Tryz.func356 (kL 3 ZiZ)
def QG(h j o:Int):Nat->Int->(S5 a_)->S6 (S5 a_)|0,_,_=>S_|fu+1,g,e=>bif(decide (g<o))then f_ (0<=(n_ j g)/\(n_ j g)<(S7 e:Int))<|f_ (0<=(n_ h g)/\(n_ h g)<(S7 e:Int))<|QG h j o fu (n_ g 1) ((e.set ((n_ h g).toNat) (e.getD ((n_ j g).toNat) a_.d)).set ((n_ j g).toNat) (e.getD ((n_ h g).toNat) a_.d))else S8 e
abbrev B_(a:S5 a_)(b c:Int):a_:=a.getD (vL b c) a_.d
theorem Zkr{h j u}:∀{o g e},LH z Tryz.f383 [1,0] (QG h j u o g e) xH tO ⟨[(uW e),(q7 h),(sV j),(sO u),(sN g)],(w5 e)⟩:=@qv _ kZ λy=>by intro g e;exact kB (sB λo2=>kH (ltOf o2)<|sB λt=>kH (ltOf t)<|kH t<|kW 1 21 a_.E e (vL h g) (B_ e j g) (ltOf t)<|kH o2<|kW 1 23 a_.E (e.set (vL h g) (B_ e j g)) (vL j g) (B_ e h g) (by have:=ltOf o2;simp at this ⊢;omega)<|kH (oW (((e.set (vL h g) (B_ e j g)).set (vL j g) (B_ e h g)).length))<|rj 12 [] [] [] [(100000,(((e.set (vL h g) (B_ e j g)).set (vL j g) (B_ e h g)).length))] [] [] y) (yD [] [] [] [100000])
def Qp(e:S5 a_)(g h d:Int):S6 (S5 a_):=QG g h d ((d-(0:Int)).toNat+2) (0:Int) e
abbrev Ix(a:S5 a_)(b c d:Int):S5 V:=[.one (DO a),Yj b,Yj c,Yj d,.one yl]
instance{e g h j}:pC (Qp e g h j) (eH 383 (AZ e) (Ix e g h j) DA λr=>ue):=sE Tryz.func383 (kL 3 Zkr)
def Qo(h:Int):Nat->Int->Int->(S5 a_)->S6 (S5 a_)|0,_,_,_=>S_|fu+1,d,g,e=>bif(d != g)then bif(decide (d>g))then(Qp e (pR h d) h g).bind λj=>Qo h fu (pR d g) g j else(Qp e (pR h d) (pR (n_ h g) d) d).bind λo=>Qo h fu d (pR g d) o else(Qp e (pR h d) h d).bind λt=>S8 t
abbrev zV:Nat × V:=(4,.one yl)
abbrev AJ(a:S5 a_):S5 (Nat × Nat):=[(100000,S7 a)]
theorem Zlw{u}:∀{j g h e},LH z Tryz.f373 y0 (Qo u j g h e) xH tO ⟨[(uW e),(sV u),zV,(sN g),(uH h)],(w5 e)⟩:=@qv _ kZ λy=>kB (kB (kD 2 7 ud [] λo=>kH (oW o.length)<|rj 15 [] [] [] (AJ o) [] [] y) (kD 2 11 ud [] λt=>kH (oW t.length)<|rj 15 [] [] [] (AJ t) [] [] y)) (kD 1 7 ud [] λ_=>yD [] [] [] [100000])
def Zdg(e:S5 a_)(g d h:Int):S6 (S5 a_):=Qo d 1000000 (pR d g) (pR h d) e
instance{e g h j}:pC (Zdg e g h j) (eH 373 (AZ e) (Ix e g h j) DA λr=>ue):=sE Tryz.func373 (kL 6 Zlw)
end Go.Proofs.YtmcnjofonpkfmaaGreat
