import Derived.Test.YtmcnjofonpkfmaaGreatHPlEe
open Bool renaming false->Tm,true->Tl,not_true->YP,not_false->YT
open Int renaming toNat_natCast->YO,natCast_zero->YX,tdiv->Yc
open Go.IntKind renaming wrap->US,bits->UB,signed->Ut,i64->TZ
open List renaming eq_nil_of_length_eq_zero->ZN,take_append_drop->WE,take_succ_eq_append_getElem->YR,length_append->TL,nil_append->YY,length_cons->Uw,append_assoc->Vl,length_nil->XB,cons_append->Wf,drop_eq_nil_of_le->Y_,append_nil->Zz,length_singleton->ZO,pairwise_cons->V_,drop_zero->YZ,length_take->TQ,getElem_of_mem->UZ,mem_cons->VJ,singleton_append->ZU,pairwise_append->Y4,flatten_append->Z0,flatten_cons->Ww,drop_sublist->aE7,mem_flatten->aE8,length_drop->Uv,flatten_nil->Z8,drop_length->Zx,mem_append->T9,length_map->Vo,length->S7
open List.Pairwise renaming sublist->ZS
open List.Perm renaming refl->Z_,cons->aE9
open Nat renaming le_refl->Tq,zero_le->UK,zero_add->TX,min_eq_left->Wi,add_zero->TY
open Option renaming some->S8,bind_some->Xt
namespace Go.Proofs.YtmcnjofonpkfmaaGreat
set_option linter.unusedSectionVars false
set_option linter.unusedSimpArgs false
set_option linter.unusedVariables false
theorem ZTD(all:S5 (S5 a_))(e:l_)(K:Nat)(g:yS all e=(K:Int))(t:S7 all<=1000)(u:S7 all.flatten<=900000)(v9:Int)(c:p5)(x:pD)(w b6:pz)(b7 nB:oZ):∀(m k fu:Nat),K-k=m->k<=K->m+1<=fu ->
  GG fu v9 (k:Int) all c x w b6 b7 e nB=(Ds (all.getD K []) [e]).bind λeK=>(wW w (K:Int) (all.getD K []) eK).bind λdr=>f_ (0<=v9/\v9<((S7 all:Nat):Int)) <|
   (CU ((all.set K eK).getD v9.toNat []) x).bind λeP=>(wW dr v9 ((all.set K eK).getD v9.toNat []) eP).bind λeQ=>
   (AF eQ c.e_ Tl).bind λiq=>(qn iq 4 0 Tm).bind λjW=>S8 (jW,(⟨0,e,1,0,[]⟩ : oZ)):=by
 have qI:=ZFj all e;have ip:0<=rM (λl=>decide (r5 l e>=0)) all 0:=by have:rM (λl=>decide (r5 l e>=0)) all 0=(K:Int):=g;omega
 obtain⟨k',A,B,⟨y,D,F⟩,h⟩:=ZBk (λl=>decide (r5 l e>=0)) all 0 ip;have hKK:k'=K:=by have:rM (λl=>decide (r5 l e>=0)) all 0=(K:Int):=g;omega
 subst hKK;have hix:∀i,i<S7 all->Al (all.getD i []) e=S8 (r5 (all.getD i []) e):=λi hi=>Dm _ _ (by have:=ZFJ (wy all [] i hi);unfold maxLen;omega);intro m;induction m with
 |zero=>
  intro k fu hm j o;obtain⟨fu,rfl⟩:=sC fu;obtain rfl:k=k':=by omega
  have d:n_ (k:Int) 1=((k+1:Nat):Int):=pY (n:=k+1) (by omega) (by simp only[maxLen];omega);unfold GG;simp only[YO];rw[d,o8,o9 (by omega)];split
  .grind
  .rw[o9 (by omega)]
 |succ m ih=>
  intro k fu hm j o;obtain⟨fu,rfl⟩:=sC fu;have d:n_ (k:Int) 1=((k+1:Nat):Int):=pY (n:=k+1) (by omega) (by simp only[maxLen];omega);obtain⟨z,z1,z2⟩:=h k (by omega);have G:all.getD k []=z:=by simp_all
  have hfz:r5 (all.getD k []) e<0:=by simp_all
  rw[<-ih (k+1) fu (by omega) (by omega) (by omega)]
  conv=>lhs;unfold GG
  simp only[YO];rw[d,o8,p7,o9 (by omega),hix k (by omega),oT,o8,aFa hfz]
section
variable {c:p5} {x:pD} (hx:x.ok) (bZ:1<=c.e_) (hs:c.e_<=8) {m_:S5 oM} (hG:Gl m_) {a:Nat} (ha:a<=S7 m_)
include hx bZ hs hG ha
omit bZ hs ha in
theorem Rq{a:Nat}(ha:a<=S7 m_)(k l:Int)(m:Bool)(v:oZ):pL m_ a tX qh ((pV k l m).bind λ_=>.ret v) ((qn (wk m_ a) k l m).bind λy=>S8 (y,v)):=ET hx hG.gd ha k l m v
omit bZ hs ha in
theorem Zzs{a:Nat}(ha:a<=S7 m_)(m:Bool)(v:oZ):pL m_ a tX qh ((Gm c.e_ m).bind λ_=>(pV 4 0 Tm).bind λ_=>.ret v) ((AF (wk m_ a) c.e_ m).bind λz=>(qn z 4 0 Tm).bind λy=>S8 (y,v)):=by
 have hL:=hG.len;refine pL.qj (Zzw (by omega) ha c.e_ m) (λ_ e g d _=>Rq hx hG d 4 0 Tm v) (λq=>?_);rw[r_];exact⟨_,rfl,trivial⟩
theorem alG:pL m_ a tX qh ((KF c x).bind λr=>(pV 4 0 Tm).bind λ_=>.ret r) (Ka c x (wk m_ a)):=by
 have hL:=hG.len;have eR:S7 m_<=1000000:=by omega
 have hp:=acC hx bZ hs;unfold KF Ka;rw[Pr.bind_assoc];refine pL.qj (Zzv (by omega) ha c.e_) (λ_ H _ u _=>?_) (λq=>?_);rotate_left
 .obtain⟨ls,cV,_⟩:=ZDt (m_:=m_) (c:=c) (by omega) (by omega) q;rw[cV,oT];simp only[wv,aFc];exact⟨_,rfl,trivial⟩
 rw[Pr.bind_assoc];have bH:=pL.run (ZXs (c:=c) (by omega) (by omega) hG u);refine pL.sr bH (λall b I _ t d=>?_) (λq b _=>?_);rotate_left
 .simp only[wv,aFc];exact⟨_,rfl,trivial⟩
 obtain⟨⟨rfl,bL,bF,dg⟩,g,hg⟩:=d;obtain⟨cn,_,_⟩:=OQ _ _ _ _ _ _ hg;simp only[XB,TX]at cn;have hle:=λ(i:Nat) (hi:i<S7 all)=>ZFJ (wy all [] i hi);have kc:=hle (pt c x).toNat (by omega);have aD':(xw all (pt c x)).length<=S7 all.flatten:=kc;have y:all.getD (pt c x).toNat ([]:S5 a_)=xw all (pt c x):=rfl;simp only[yK,aFb];rw[(G8 x.c_.b_ hx.2.1.1 c.pX c.e_).2.1,oT];have hpd:Kz x.c_.b_ c.pX c.e_=pt c x:=rfl;rw[hpd,o9 (by omega),y,Dm _ _ (by unfold maxLen;omega),oT,o8];unfold ZBa RE;by_cases h0:r5 (xw all (pt c x)) x.c_>=0
 .rw[aFa h0,aFa h0];simp only[Pr.pP,Pr.bind_assoc];exact Zzs hx hG t Tl (wV 7)
 .rw[aE_ h0,aE_ h0];simp only[Pr.bind_assoc];refine pL.sr (ZLn (by omega) t c.rf Tl) (λok b e _ d qb=>?_) (λq b _=>?_);rotate_left
  .simp only[wv,aFc];exact⟨_,rfl,trivial⟩
  cases qb;simp only[yK,aFb];cases ok with
  |true=>
   rw[aFc,aFa rfl,Zwu x _,oT];simp only[Pr.pP,Pr.bind_assoc];refine pL.qj (G0 (by omega) d _ _ _ (by rw[He];omega)) (λ_ A _ j _=>Zzs hx hG j Tm sY) (λq=>?_);rw[OZ m_ eR,oT,r_];exact⟨_,rfl,trivial⟩
  |false=>
   obtain⟨J,B,D⟩:=ZKR c all bF dg;rw[aFb,aE_ (by decide),Jy all bL,oT,B,oT];cases F:(u7 c all).2 with
   |false=>
    rw[aFb,aE_ (by decide)];simp only[Pr.pP,Pr.bind_assoc];exact Zzs hx hG d Tl (wV 5)
   |true=>
    have L:=D F;have sR:=ZFj all (u7 c all).1;obtain⟨K,o⟩ : ∃K:Nat,yS all (u7 c all).1=(K:Int):=⟨(yS all (u7 c all).1).toNat,by omega⟩;have k9:=hle K (by omega);have M:=Lm (all.getD K []) [(u7 c all).1];have O:((all.set K (zK (all.getD K []) [(u7 c all).1])).getD (pt c x).toNat []).length<=800:=by
     grind
    have kq:xw all (K:Int)=all.getD K []:=rfl;have bk:xw (Lh all (u7 c all).1) (pt c x)=(all.set K (zK (all.getD K []) [(u7 c all).1])).getD (pt c x).toNat []:=by unfold Lh;rw[o];rfl
    have lm:=ZTD all (u7 c all).1 K o bL (by omega) (pt c x) c x (wk m_ e) (pz.mk ([]:(S5 oM)) (0:Int) (pU.mk (0:Int) (0:Int) (pM.mk (0:Int) (0:Int) (0:Int)) (0:Int) (0:Int) (oM.mk (0:Int) (a_.mk (l_.mk (oV.mk Tm (0:Int) (0:Int)) (0:Int)) Tm (0:Int) (pW.mk (0:Int) (0:Int)) (0:Int) (0:Int)) ([]:(S5 oD)) ([]:(S5 k_))) Tm) Tm) (oZ.mk (0:Int) (l_.mk (oV.mk Tm (0:Int) (0:Int)) (0:Int)) (0:Int) (0:Int) ([]:(S5 a_))) (oZ.mk (5:Int) (l_.mk (oV.mk Tm (0:Int) (0:Int)) (0:Int)) (0:Int) (0:Int) ([]:(S5 a_))) K 0 1000000 rfl (UK _) (by omega);have jr:∀r,GG 1000000 (pt c x) ((0:Nat):Int) all c x (wk m_ e) (pz.mk ([]:(S5 oM)) (0:Int) (pU.mk (0:Int) (0:Int) (pM.mk (0:Int) (0:Int) (0:Int)) (0:Int) (0:Int) (oM.mk (0:Int) (a_.mk (l_.mk (oV.mk Tm (0:Int) (0:Int)) (0:Int)) Tm (0:Int) (pW.mk (0:Int) (0:Int)) (0:Int) (0:Int)) ([]:(S5 oD)) ([]:(S5 k_))) Tm) Tm) (oZ.mk (0:Int) (l_.mk (oV.mk Tm (0:Int) (0:Int)) (0:Int)) (0:Int) (0:Int) ([]:(S5 a_))) (u7 c all).1 (oZ.mk (5:Int) (l_.mk (oV.mk Tm (0:Int) (0:Int)) (0:Int)) (0:Int) (0:Int) ([]:(S5 a_)))=r->GG 1000000 (pt c x) 0 all c x (wk m_ e) (pz.mk ([]:(S5 oM)) (0:Int) (pU.mk (0:Int) (0:Int) (pM.mk (0:Int) (0:Int) (0:Int)) (0:Int) (0:Int) (oM.mk (0:Int) (a_.mk (l_.mk (oV.mk Tm (0:Int) (0:Int)) (0:Int)) Tm (0:Int) (pW.mk (0:Int) (0:Int)) (0:Int) (0:Int)) ([]:(S5 oD)) ([]:(S5 k_))) Tm) Tm) (oZ.mk (0:Int) (l_.mk (oV.mk Tm (0:Int) (0:Int)) (0:Int)) (0:Int) (0:Int) ([]:(S5 a_))) (u7 c all).1 (oZ.mk (5:Int) (l_.mk (oV.mk Tm (0:Int) (0:Int)) (0:Int)) (0:Int) (0:Int) ([]:(S5 a_)))=r:=λr h=>h;rw[aFc,aFa rfl,jr _ lm,RB _ _ (by omega) (by simp[maxLen]),oT,o,kq,bk];simp only[Pr.pP,Pr.bind_assoc];refine pL.qj (G0 (by omega) d _ _ _ (by omega)) (λ_ A _ j _=>?_) (λq=>?_);rotate_left
    .rw[o9 (by omega),Zwu x _,oT,ZwO m_ _ _ _ _ (by rw[He];omega),oT,OZ m_ eR,oT,r_];exact⟨_,rfl,trivial⟩
    rw[o9 (by omega),Zwu x _,oT];refine pL.qj (G0 (by omega) j _ _ _ (by rw[He];omega)) (λ_ U _ G _=>Zzs hx hG G Tl _) (λq=>?_);rw[OZ m_ eR,oT,r_];exact⟨_,rfl,trivial⟩
omit ha in
theorem amW:pL m_ 0 tX qh (GV c x) (Zjf c x m_):=by
  have hL:=hG.len
  have eR : m_.length<=1000000:=by omega
  have lF:(pz.mk m_ (0:Int) xS Tm) = wk m_ 0:=rfl
  unfold GV Zjf
  rw [Zul x hx,oT]
  cases vn x with
  | false =>
    rw [YT,aFc,aE_ (by decide)]
    exact Rq hx hG (UK _) 8 0 Tl (wV 1)
  | true =>
    rw [YP,aFb,aFa rfl]
    have body : pL m_ 0 tX qh ((pV 2 0 Tm).bind λ_ => (wO ⟨3, 0, 0⟩).bind λv => if Di v.po x.c_.b_ x.pE > 0 then (pV 4 0 Tl).bind λ_ => .ret ⟨8, sd, 0, Di v.po x.c_.b_ x.pE, []⟩
        else (ZIs c x).bind λq =>if q.2 = Tl then (pV 4 0 Tm).bind λ_ =>.ret q.1 else (KF c x).bind λr =>(pV 4 0 Tm).bind λ_ =>.ret r)
        ((qn (wk m_ 0) 2 0 Tm).bind λx3 =>(wR x3 ⟨3,0,0⟩).bind λx4 =>(GA x4.2.po x.c_.b_ x.pE).bind λx5 =>
          bif (decide (x5 > (0:Int))) then (qn x4.1 (4:Int) (0:Int) Tl).bind λx6 =>S8 (x6,(⟨8,sd,0,x5,[]⟩ : oZ))
          else (Ep x.c_.b_ c.pX c.e_).bind λx7 =>(qn x4.1 (1:Int) (n_ (2:Int) x7) Tm).bind λx8 =>(E_ x8 x7).bind λx9 =>
            bif (!x9.1.qQ) then
              (Al x9.2 x.c_).bind λdq =>
              bif (decide (dq >= (0:Int))) then
                (qn x9.1 (3:Int) (n_ (2:Int) x7) Tl).bind λfZ =>(qn fZ (4:Int) (0:Int) Tm).bind λeN =>S8 (eN,wV 7)
              else
                (Et x9.1 c.rf Tl).bind λdJ =>
                bif dJ.1.qQ then S8 (dJ.1,sY)
                else
                  bif dJ.2 then
                    (CU x9.2 x).bind λej =>(wW dJ.1 x7 x9.2 ej).bind λeK =>
                    B4 x7 dJ.2 c x ⟨[],0,xS,Tm⟩ sY eK
                  else B4 x7 dJ.2 c x ⟨[],0,xS,Tm⟩ sY dJ.1
            else
              (Et x9.1 c.rf Tl).bind λdr =>
              bif dr.1.qQ then S8 (dr.1,sY)
              else
                bif dr.2 then
                  (CU x9.2 x).bind λeP =>(wW dr.1 x7 x9.2 eP).bind λeQ =>
                  B4 x7 dr.2 c x ⟨[],0,xS,Tm⟩ sY eQ
                else B4 x7 dr.2 c x ⟨[],0,xS,Tm⟩ sY dr.1):=by
      have jE:Ep x.c_.b_ c.pX c.e_ = S8 (pt c x):=(G8 x.c_.b_ hx.2.1.1 c.pX c.e_).2.1
      have h:rE.po = []:=rfl
      have u0:=(JG [] x.c_.b_ x.pE (by simp) (by simp) hx.2.1.1).2
      -- behind a wait ahead of the part
      have w1 : ∀ q, ∃ d, ((Ep x.c_.b_ c.pX c.e_).bind λx7 => (qn (wt m_ q) (1 : Int) (n_ (2 : Int) x7) Tm).bind λx8 => (E_ x8 x7).bind λx9 =>
            bif (!x9.1.qQ) then
              (Al x9.2 x.c_).bind λdq =>
              bif (decide (dq >= (0:Int))) then
                (qn x9.1 (3:Int) (n_ (2:Int) x7) Tl).bind λfZ =>(qn fZ (4:Int) (0:Int) Tm).bind λeN =>S8 (eN,wV 7)
              else
                (Et x9.1 c.rf Tl).bind λdJ =>
                bif dJ.1.qQ then S8 (dJ.1,sY)
                else
                  bif dJ.2 then
                    (CU x9.2 x).bind λej =>(wW dJ.1 x7 x9.2 ej).bind λeK =>
                    B4 x7 dJ.2 c x ⟨[],0,xS,Tm⟩ sY eK
                  else B4 x7 dJ.2 c x ⟨[],0,xS,Tm⟩ sY dJ.1
            else
              (Et x9.1 c.rf Tl).bind λdr =>
              bif dr.1.qQ then S8 (dr.1,sY)
              else
                bif dr.2 then
                  (CU x9.2 x).bind λeP =>(wW dr.1 x7 x9.2 eP).bind λeQ =>
                  B4 x7 dr.2 c x ⟨[],0,xS,Tm⟩ sY eQ
                else B4 x7 dr.2 c x ⟨[],0,xS,Tm⟩ sY dr.1) = S8 (wt m_ q,d)/\qh d:=λq =>by
        rw [jE,oT,r_,oT,RM,oT]
        simp only [wv,YP,aFb,Zwg,oT,aFc]
        exact ⟨_,rfl,trivial⟩
      refine pL.qj (vk (by omega) (UK _) 2 0 Tm) (λ_ I _ t _ =>?_) (λq =>?_)
      rotate_left
      . rw [yV,oT]
        simp only [h]
        rw [u0,oT,o8]
        split
        . rw [r_]; exact ⟨_,rfl,trivial⟩
        . exact w1 q
      refine pL.sr (BN (by omega) t _) (λv b J _ j u =>?_) (λq b hb =>?_)
      rotate_left
      . subst hb
        simp only [h]
        rw [u0,oT,o8]
        split
        . rw [r_]; exact ⟨_,rfl,trivial⟩
        . exact w1 q
      obtain ⟨rfl,hm⟩:=u
      have lI:=hG.val v hm
      dsimp only
      rw [(JG v.po x.c_.b_ x.pE (by unfold maxLen; omega) lI.1.2.2.1.2 hx.2.1.1).2,oT,o8]
      by_cases h0:Di v.po x.c_.b_ x.pE > 0
      . rw [aFa h0,aFa h0]
        exact Rq hx hG j 4 0 Tl _
      . rw [aE_ h0,aE_ h0,jE,oT,CJ hx]
        unfold ZIs
        simp only [Pr.bind_assoc]
        refine pL.qj (vk (by omega) j 1 (2 + pt c x) Tm) (λ_ L _ A _ =>?_) (λq =>?_)
        rotate_left
        . rw [RM,oT]
          simp only [wv,YP,aFb,Zwg,oT,aFc]
          exact ⟨_,rfl,trivial⟩
        refine pL.sr (ZLp (by omega) A (pt c x)) (λw b M _ o B =>?_) (λq b _ =>?_)
        rotate_left
        . simp only [wv,YP,aFb,Zwg,oT,aFc]
          exact ⟨_,rfl,trivial⟩
        obtain ⟨rfl,k8,_⟩:=B
        simp only [yK,YT,aFc]
        rw [Dm _ _ (by unfold maxLen; omega),oT,o8]
        by_cases e:r5 w x.c_ >= 0
        . rw [aFa e,aFa e]
          simp only [Pr.bind_assoc,Pr.pP,aFg]
          refine pL.qj (vk (by omega) o 3 (2 + pt c x) Tl) (λ_ D _ h6 _ =>Rq hx hG h6 4 0 Tm (wV 7)) (λq =>?_)
          rw [r_]; exact ⟨_,rfl,trivial⟩
        . rw [aE_ e,aE_ e]
          simp only [Pr.bind_assoc]
          refine pL.sr (ZLn (by omega) o c.rf Tl) (λok b D _ h6 qb =>?_) (λq b _ =>?_)
          rotate_left
          . simp only [wv,aFc]
            exact ⟨_,rfl,trivial⟩
          cases qb
          simp only [yK,aFb]
          have sW : ∀ q,∃ d,Ka c x (wt m_ q) = S8 (wt m_ q,d):=λq =>by
            unfold Ka
            obtain ⟨ls,cV,_⟩:=ZDt (m_:=m_) (c:=c) (by omega) (by omega) q
            rw [LG m_ eR,oT,cV,oT]
            simp only [wv,aFc]
            exact ⟨_,rfl⟩
          cases ok with
          | true =>
            rw [aFc,aFa rfl,Zwu x _,oT]
            simp only [Pr.bind_assoc,Pr.pP,aFg]
            unfold B4
            simp only [YP,aFb,CJ hx]
            refine pL.qj (G0 (by omega) h6 _ _ _ (by rw [He]; omega)) (λ_ O _ F _ =>?_) (λq =>?_)
            rotate_left
            . rw [r_,oT,r_]; exact ⟨_,rfl,trivial⟩
            refine pL.qj (vk (by omega) F 3 (2 + pt c x) Tm) (λ_ G _ g _ =>Rq hx hG g 4 0 Tm sY) (λq =>?_)
            rw [r_]; exact ⟨_,rfl,trivial⟩
          | false =>
            rw [aFb,aE_ (by decide)]
            simp only [Pr.bind_assoc,Pr.pP,Bool.false_eq_true,aFi]
            unfold B4
            simp only [YT,aFc,CJ hx]
            refine pL.qj (vk (by omega) h6 3 (2 + pt c x) Tm) (λ_ G _ g _ =>?_) (λq =>?_)
            rotate_left
            . obtain ⟨d,H⟩:=sW q
              rw [H,oT]; exact ⟨_,rfl,trivial⟩
            have cH : ∀ r:S6 (pz × oZ),(r.bind λy =>S8 (y.1,y.2)) = r:=λr =>by cases r <;> rfl
            rw [cH]
            exact alG hx bZ hs hG g
    exact body
end
variable{x y z:a_}{k i N:Nat}{α:Type}{l L R:S5 α}
theorem amm(L R:S5 α)(x y:α):(L++x :: R).set L.length y=L++y :: R:=by
 simp_all
theorem ZVM(L R:S5 α)(x d:α):(L++x :: R).getD L.length d=x:=by
 simp_all
theorem acS{x y:α}(h:l=L++x :: R)(d:k=S7 L):l.set k y=L++y :: R:=by rw[h,d,amm]
theorem GY{x d:α}(h:l=L++x :: R)(e:k=S7 L):l.getD k d=x:=by rw[h,e,ZVM]
abbrev aZ:=S5 a_
theorem ZTx(P B Q:aZ):∀(k:Nat)(A1 A2 C1 C2:aZ)(fu:Nat),S7 A2=k->S7 C2=k->S7 A1=S7 C1->k+1<=fu->S7 P+S7 B+S7 Q+2*(S7 A1+k)<=1000000 ->
  QG (S7 P:Int) ((S7 P+(S7 A1+k)+S7 B:Nat):Int) ((S7 A1+k:Nat):Int) fu (S7 A1:Int) (P++(C1++(A2++(B++(A1++(C2++Q))))))=S8 (P++(C1++(C2++(B++(A1++(A2++Q)))))):=by
 intro k;induction k with
 |zero=>
  intro A1 A2 C1 C2 fu e g h j hb;obtain⟨fu,rfl⟩:=sC fu;obtain rfl:=ZN e;obtain rfl:=ZN g;unfold QG;rw[o8,pO]
 |succ k ih=>
  intro A1 A2 C1 C2 fu e g h j hb;obtain⟨fu,rfl⟩:=sC fu;cases A2 with
  |nil=>cases e
  |cons a A2=>
   cases C2 with
   |nil=>cases g
   |cons c C2=>
    simp only[Uw,Nat.add_right_cancel_iff]at e g;unfold QG;have o:n_ (S7 P:Int) (S7 A1:Int)=((S7 P+S7 A1:Nat):Int):=by rw[s_ (by omega) (by omega)];omega
    have t:n_ ((S7 P+(S7 A1+(k+1))+S7 B:Nat):Int) (S7 A1:Int)=((S7 P+(S7 A1+(k+1))+S7 B+S7 A1:Nat):Int):=by rw[s_ (by omega) (by omega)];omega
    have u:n_ (S7 A1:Int) 1=((S7 A1+1:Nat):Int):=by rw[s_ (by omega) (by omega)];omega
    have hl:(P++(C1++(a :: A2++(B++(A1++(c :: C2++Q)))))).length=S7 P+S7 B+S7 Q+2*(S7 A1+(k+1)):=by simp;omega
    rw[o8,p7,o,t,u,o9 (by rw[hl];omega),o9 (by rw[hl];omega)];simp only[YO];have y:(P++(C1++(a :: A2++(B++(A1++(c :: C2++Q)))))).getD (S7 P+(S7 A1+(k+1))+S7 B+S7 A1) a_.d=c:=
     GY (L:=P++(C1++(a :: A2++(B++A1)))) (R:=C2++Q) (by simp) (by simp;omega)
    have A:(P++(C1++(a :: A2++(B++(A1++(c :: C2++Q)))))).getD (S7 P+S7 A1) a_.d=a:=
     GY (L:=P++C1) (R:=A2++(B++(A1++(c :: C2++Q)))) (by simp) (by simp;omega)
    have s1:(P++(C1++(a :: A2++(B++(A1++(c :: C2++Q)))))).set (S7 P+S7 A1) c=P++(C1++(c :: A2++(B++(A1++(c :: C2++Q))))):=by
     simp_all
    have s2:(P++(C1++(c :: A2++(B++(A1++(c :: C2++Q)))))).set (S7 P+(S7 A1+(k+1))+S7 B+S7 A1) a=P++(C1++(c :: A2++(B++(A1++(a :: C2++Q))))):=by
     rw[acS (L:=P++(C1++(c :: A2++(B++A1)))) (x:=c) (R:=C2++Q) (by simp) (by simp;omega)];simp
    rw[y,A,s1,s2];have:=ih (A1++[a]) A2 (C1++[c]) C2 fu e g (by simp;omega) (by omega) (by simp;omega);simp only[TL,ZO,Vl,ZU,Wf]at this ⊢
    grind
theorem ZMn(P A B C Q:aZ)(h:S7 A=S7 C)(hb:S7 P+S7 B+S7 Q+2*S7 A<=1000000)(a b n:Int)(ha:a=(S7 P:Int))(fK:b=((S7 P+S7 A+S7 B:Nat):Int))(d:n=(S7 A:Int)) :
  Qp (P++(A++(B++(C++Q)))) a b n=S8 (P++(C++(B++(A++Q)))):=by
 subst ha fK d;unfold Qp;have:=ZTx P B Q A.length [] A [] C (((S7 A:Int)-0).toNat+2) rfl h.symm rfl (by omega) (by simpa using hb);simpa using this
theorem ZYx(m:Nat):∀(s:Nat)(P X Y Q:aZ)(fu:Nat),S7 X+S7 Y<=s->0<S7 X->0<S7 Y->m=S7 P+S7 X->S7 P+S7 X+S7 Y+S7 Q<=1000000->s+1<=fu ->
  Qo (m:Int) fu (S7 X:Int) (S7 Y:Int) (P++(X++(Y++Q)))=S8 (P++(Y++(X++Q))):=by
 intro s;induction s with
 |zero=>omega
 |succ s ih=>
  intro P X Y Q fu u y A hm hb B;obtain⟨fu,rfl⟩:=sC fu;unfold Qo;have g:pR (m:Int) (S7 X:Int)=(S7 P:Int):=by rw[tq (by omega) (by omega)];omega
  by_cases h:S7 X=S7 Y
  .have d:((S7 X:Int) != (S7 Y:Int))=Tm:=by rw[h];simp
   rw[d,aFb,g];have:=ZMn P X [] Y Q h (by simp;omega) (S7 P:Int) (m:Int) (S7 X:Int) rfl (by simp[hm]) rfl;simp_all
  .have d:((S7 X:Int) != (S7 Y:Int))=Tl:=by rw[aFt];omega
   rw[d,aFc,o8,g];by_cases hg:S7 Y<S7 X
   .obtain⟨X1,X2,rfl,hx⟩ : ∃X1 X2,X=X1++X2/\S7 X1=S7 Y:=⟨X.take Y.length,X.drop Y.length,(WE ..).symm,by simp;omega⟩;simp only[TL]at *
    have e:pR ((S7 X1+S7 X2:Nat):Int) (S7 Y:Int)=(S7 X2:Int):=by rw[tq (by omega) (by omega)];omega
    rw[p7,e];have:=ZMn P X1 X2 Y Q hx (by omega) (S7 P:Int) (m:Int) (S7 Y:Int) rfl (by omega) (by omega)
    grind
   .obtain⟨Y1,Y2,rfl,j⟩ : ∃Y1 Y2,Y=Y1++Y2/\S7 Y2=S7 X:=⟨Y.take (S7 Y-S7 X),Y.drop (S7 Y-S7 X),(WE ..).symm,by simp;omega⟩;simp only[TL]at *
    have e:pR ((S7 Y1+S7 Y2:Nat):Int) (S7 X:Int)=(S7 Y1:Int):=by rw[tq (by omega) (by omega)];omega
    have o:n_ (m:Int) ((S7 Y1+S7 Y2:Nat):Int)=((m+S7 Y1+S7 Y2:Nat):Int):=by rw[s_ (by omega) (by omega)];omega
    have t:pR ((m+S7 Y1+S7 Y2:Nat):Int) (S7 X:Int)=((S7 P+S7 X+S7 Y1:Nat):Int):=by rw[tq (by omega) (by omega)];omega
    rw[pO,e,o,t];have:=ZMn P X Y1 Y2 Q j.symm (by omega) (S7 P:Int) ((S7 P+S7 X+S7 Y1:Nat):Int) (S7 X:Int) rfl rfl rfl
    grind
theorem alZ(P X Y Q:aZ)(d:0<S7 X)(e:0<S7 Y)(hb:S7 P+S7 X+S7 Y+S7 Q<=900000)(a m b:Int)(ha:a=(S7 P:Int))(hm:m=((S7 P+S7 X:Nat):Int))(fK:b=((S7 P+S7 X+S7 Y:Nat):Int)) :
  Zdg (P++(X++(Y++Q))) a m b=S8 (P++(Y++(X++Q))):=by
 subst ha hm fK;unfold Zdg;have g:pR ((S7 P+S7 X:Nat):Int) (S7 P:Int)=(S7 X:Int):=by rw[tq (by omega) (by omega)];omega
 have h:pR ((S7 P+S7 X+S7 Y:Nat):Int) ((S7 P+S7 X:Nat):Int)=(S7 Y:Int):=by rw[tq (by omega) (by omega)];omega
 rw[g,h];exact ZYx _ (S7 X+S7 Y) P X Y Q 1000000 (Tq _) d e rfl (by omega) (by omega)
def sD(x y:a_):Bool:=decide (qK x.c_ y.c_<0)
theorem K4:sD x y=Tl↔qK x.c_ y.c_<0:=by unfold sD;simp
theorem KK:sD x y=Tm↔¬qK x.c_ y.c_<0:=by unfold sD;simp
theorem ZUI(d:sD x y=Tl)(e:sD y z=Tl):sD x z=Tl:=by
 rw[K4]at *
 exact OE d e
theorem EO(g:sD x y=Tm)(d:sD y z=Tm):sD x z=Tm:=by
 rw[KK]at *
 intro h;have e:qK x.c_ y.c_=0\/0<qK x.c_ y.c_:=by omega
 rcases e with e|e
 .rw[JC.1 e]at h;exact d h
 .exact d (OE (Eh.1 e) h)
theorem ZFY(d:sD z x=Tl)(e:sD y x=Tm):sD z y=Tl:=by
 cases h:sD z y with
 |true=>rfl
 |false=>rw[EO h e]at d;cases d
theorem ZBe(a b:a_):LR a b=S8 (qK a.c_ b.c_):=by
 unfold LR;rw[Rs];rfl
def s9:aZ->aZ->aZ | [],ys=>ys|x :: xs,[]=>x :: xs|x :: xs,y :: ys=>if sD y x=Tl then y :: s9 (x :: xs) ys else x :: s9 xs (y :: ys)
termination_by xs ys=>S7 xs+S7 ys
theorem CN(xs:aZ):s9 xs []=xs:=by cases xs<;>simp[s9]
theorem yT(xs:aZ):s9 [] xs=xs:=by simp[s9]
theorem By(xs ys:aZ)(h:sD y x=Tl):s9 (x :: xs) (y :: ys)=y :: s9 (x :: xs) ys:=by rw[s9,aFa h]
theorem CI(xs ys:aZ)(h:sD y x=Tm):s9 (x :: xs) (y :: ys)=x :: s9 xs (y :: ys):=by rw[s9,aE_ (by simp[h])]
theorem ZUz:∀(n:Nat)(a b c:aZ),S7 a+S7 b+S7 c<=n->s9 (s9 a b) c=s9 a (s9 b c):=by
 intro n;induction n with
 |zero=>
  intro a b c h;obtain rfl:=ZN (show a.length=0 by omega);rw[yT,yT]
 |succ n ih=>
  intro a b c h;cases a with
  |nil=>rw[yT,yT]
  |cons x a=>
   cases b with
   |nil=>rw[CN,yT]
   |cons y b=>
    cases c with
    |nil=>rw[CN,CN]
    |cons z c=>
     simp only[Uw]at h;cases e:sD y x with
     |true=>
      rw[By _ _ e];cases d:sD z y with
      |true=>
       rw[By _ _ d,By _ _ d,By _ _ (ZUI d e),<-By a b e,ih (x :: a) (y :: b) c (by grind)]
      |false=>
       rw[CI _ _ d,CI _ _ d,By _ _ e,ih (x :: a) b (z :: c) (by grind)]
     |false=>
      rw[CI _ _ e];cases g:sD z x with
      |true=>
       have d:=ZFY g e;rw[By _ _ g,By _ _ d,By _ _ g,<-CI a b e,ih (x :: a) (y :: b) c (by grind)]
      |false=>
       rw[CI _ _ g,ih a (y :: b) (z :: c) (by grind)];cases d:sD z y with
       |true=>rw[By _ _ d,CI _ _ g]
       |false=>rw[CI _ _ d,CI _ _ e]
theorem RZ:∀(n:Nat)(x1 x2 y1 y2:aZ),S7 x1+S7 y1<=n->(∀y∈y1,∀x∈x2,sD y x=Tl)->(∀x∈x1,∀y∈y2,sD y x=Tm)->s9 (x1++x2) (y1++y2)=s9 x1 y1++s9 x2 y2:=by
 intro n;induction n with
 |zero=>
  intro x1 x2 y1 y2 h _ _;obtain rfl:=ZN (show x1.length=0 by omega);obtain rfl:=ZN (show y1.length=0 by omega);simp[yT]
 |succ n ih=>
  intro x1 x2 y1 y2 h d e;cases x1 with
  |nil=>
   cases y1 with
   |nil=>simp[yT]
   |cons y y1=>
    cases x2 with
    |nil=>simp[yT]
    |cons x x2=>
     simp only[Uw,XB]at h;rw[YY,Wf,By _ _ (d y (by simp) x (by simp)),yT];have:=ih [] (x :: x2) y1 y2 (by simp_all) (λy' gU=>d y' (by simp[gU])) (by simp);rw[YY,yT]at this;rw[this];rfl
  |cons x x1=>
   cases y1 with
   |nil=>
    cases y2 with
    |nil=>simp[CN]
    |cons y y2=>
     simp only[Uw,XB]at h;rw[YY,Wf,CI _ _ (e x (by simp) y (by simp)),CN];have:=ih x1 x2 [] (y :: y2) (by simp_all) (by simp) (λx' gW=>e x' (by simp[gW]));rw[YY,CN]at this;rw[this];rfl
   |cons y y1=>
    simp only[Uw]at h;rw[Wf,Wf];cases g:sD y x with
    |true=>
     rw[By _ _ g,By _ _ g,<-Wf,ih (x :: x1) x2 y1 y2 (by grind) (λy' gU=>d y' (by simp[gU])) e];rfl
    |false=>
     have:=ih x1 x2 (y :: y1) y2 (by grind) d (λx' gW=>e x' (by simp[gW]));rw[Wf]at this;rw[CI _ _ g,CI _ _ g,this];rfl
theorem ZUy:∀(n:Nat)(a b:aZ),S7 a+S7 b<=n->(s9 a b).length=S7 a+S7 b:=by
 intro n;induction n with
 |zero=>
  intro a b h;obtain rfl:=ZN (show a.length=0 by omega);simp[yT]
 |succ n ih=>
  intro a b h;cases a with
  |nil=>simp[yT]
  |cons x a=>
   cases b with
   |nil=>simp[CN]
   |cons y b=>
    simp only[Uw]at h ⊢;cases d:sD y x with
    |true=>rw[By _ _ d,Uw,ih _ _ (by grind)];rfl
    |false=>rw[CI _ _ d,Uw,ih _ _ (by grind)];grind
theorem ZUx:∀(n:Nat)(a b:aZ),S7 a+S7 b<=n->∀z∈s9 a b,z∈a\/z∈b:=by
 intro n;induction n with
 |zero=>
  intro a b h z d;obtain rfl:=ZN (show a.length=0 by omega);rw[yT]at d;exact .inr d
 |succ n ih=>
  intro a b h z d;cases a with
  |nil=>rw[yT]at d;exact .inr d
  |cons x a=>
   cases b with
   |nil=>rw[CN]at d;exact .inl d
   |cons y b=>
    simp only[Uw]at h;cases e:sD y x with
    |true=>
     rw[By _ _ e]at d
     grind
    |false=>
     rw[CI _ _ e]at d
     grind
def bp(l:aZ):Prop:=l.Pairwise λx y=>sD y x=Tm
theorem ZZg(h:sD x y=Tl):sD y x=Tm:=by
 rw[K4]at h;rw[KK];intro d;have:=Eh.2 d;omega
theorem al6:∀(n:Nat)(a b:aZ),S7 a+S7 b<=n->bp a->bp b->bp (s9 a b):=by
 intro n;induction n with
 |zero=>
  intro a b h ha hb;obtain rfl:=ZN (show a.length=0 by omega);rw[yT];exact hb
 |succ n ih=>
  intro a b h ha hb;cases a with
  |nil=>rw[yT];exact hb
  |cons x a=>
   cases b with
   |nil=>rw[CN];exact ha
   |cons y b=>
    simp only[Uw]at h;have fL:=V_.1 ha;have bg:=V_.1 hb;cases d:sD y x with
    |true=>
     rw[By _ _ d];refine V_.2 ⟨λz e=>?_,ih _ _ (by grind) ha bg.2⟩;rcases ZUx _ _ _ (Tq _) z e with q|q
     .have:sD x y=Tm:=ZZg d;rcases VJ.1 q with q|q
      .rw[q];exact this
      .exact EO (fL.1 z q) this
     .exact bg.1 z q
    |false=>
     rw[CI _ _ d];refine V_.2 ⟨λz e=>?_,ih _ _ (by grind) fL.2 hb⟩;rcases ZUx _ _ _ (Tq _) z e with q|q
     .exact fL.1 z q
     .rcases VJ.1 q with q|q
      .rw[q];exact d
      .exact EO (bg.1 z q) d
def s7(l:aZ):aZ:=l.foldl (λo x=>s9 o [x]) []
theorem Ov(l:aZ)(x:a_):s7 (l++[x])=s9 (s7 l) [x]:=by unfold s7;simp_all
theorem ZAF(xs ys:aZ):s7 (xs++ys)=s9 (s7 xs) (s7 ys):=by
 have:∀n,n<=S7 ys->s7 (xs++ys.take n)=s9 (s7 xs) (s7 (ys.take n)):=by
  intro n;induction n with
  |zero=>intro _;simp[s7,CN]
  |succ n ih=>
   intro h;rw[YR (show n<ys.length by omega),<-Vl,Ov,Ov,ih (by omega),ZUz _ _ _ _ (Tq _)]
 have h:=this ys.length (Tq _);simp_all
theorem EY(l:aZ):(s7 l).length=S7 l:=by
 have:∀n,n<=S7 l->(s7 (l.take n)).length=n:=by
  intro n;induction n with
  |zero=>intro _;simp[s7]
  |succ n ih=>
   intro h;rw[YR (show n<l.length by omega),Ov,ZUy _ _ _ (Tq _),ih (by omega)];rfl
 have h:=this l.length (Tq _);simp_all
theorem Ow(l:aZ):bp (s7 l):=by
 have:∀n,n<=S7 l->bp (s7 (l.take n)):=by
  intro n;induction n with
  |zero=>intro _;simp[s7,bp]
  |succ n ih=>
   intro h;rw[YR (show n<l.length by omega),Ov];exact al6 _ _ _ (Tq _) (ih (by omega)) (by simp[bp])
 have h:=this l.length (Tq _);simp_all
theorem ZFU{o1 o2:aZ}(g:∀y∈o1,sD x y=Tm)(h:∀y∈o2,sD x y=Tl):s9 (o1++o2) [x]=o1++x :: o2:=by
 have a:=RZ _ o1 o2 [x] [] (Tq _) (λy d z e=>by simp_all) (by simp);have b:=RZ _ o1 [] [] [x] (Tq _) (by simp) (λz e y d=>by simp_all);simp only[Zz,YY,CN,yT]at a b;rw[a,b];simp
theorem al'{o1 o2:aZ}(g:∀y∈o1,sD y x=Tl)(h:∀y∈o2,sD y x=Tm):s9 [x] (o1++o2)=o1++x :: o2:=by
 have a:=RZ _ [] [x] o1 o2 (Tq _) (λy d z e=>by simp_all) (by simp);have b:=RZ _ [x] [] [] o2 (Tq _) (by simp) (λz e y d=>by simp_all);simp only[Zz,YY,CN,yT]at a b;rw[a,b];simp
theorem ZYH(o:aZ)(x:a_)(hs:bp o)(hl:S7 o<=900000):ZlL o x=S8 (s9 o [x]):=by
 have hm:S7 o<=maxLen:=by unfold maxLen;omega
 have aF:∀(fu i:Nat),i<=S7 o->S7 o-i<fu->(∀y∈o.take i,sD x y=Tm)->Zhm o fu (i:Int) x=S8 (s9 o [x]):=by
  intro fu;induction fu with
  |zero=>intro _ _ h;omega
  |succ fu ih=>
   intro i hi A bH;unfold Zhm;have bD:(∀y∈o.drop i,sD x y=Tl)->o.take i++[x]++o.drop i=s9 o [x]:=λh=>by
    have:=ZFU bH h;simp_all
   have lt:(o.take i).length=i:=by simp;omega
   have ld:(o.drop i).length=S7 o-i:=by simp
   have n1:(o.take i).length * 80<=140737488355328/\(o.take i).length<=maxLen:=by omega
   have n2:(o.take i++[x]).length * 80<=140737488355328/\(o.take i++[x]).length<=maxLen:=by simp only[TL,lt,ZO,maxLen];omega
   have n3:(o.take i++[x]++o.drop i).length * 80<=140737488355328/\(o.take i++[x]++o.drop i).length<=maxLen:=by simp only[TL,lt,ld,ZO,maxLen];omega
   simp only[o8,YO,YY,o9 n1,o9 n2,o9 n3];by_cases h:i<S7 o
   .rw[p7,o9 ⟨by omega,by omega⟩,Rz,oT];have t:n_ (i:Int) 1=((i+1:Nat):Int):=pY h hm;have g:=xZ o a_.d i h;by_cases j:qK (o.getD i a_.d).c_ x.c_<=0
    .rw[aFa j,t];refine ih (i+1) (by omega) (by omega) λy e=>?_;rw[YR h,<-ua o a_.d i h]at e;rcases T9.1 e with q|q
     .exact bH y q
     .rw[List.mem_singleton.1 q,KK];intro u;have:=Eh.2 u;omega
    .rw[aE_ j,o9 ⟨by omega,by omega⟩,bD];intro y e;have hx:sD x (o.getD i a_.d)=Tl:=by rw[K4];exact Eh.1 (by omega)
     rw[g]at e;have hp:bp (o.drop i):=ZS (aE7 i o) hs;rw[g]at hp;rcases VJ.1 e with q|q
     .rw[q];exact hx
     .exact ZFY hx ((V_.1 hp).1 y q)
   .rw[pO,o9 ⟨by omega,by omega⟩,bD]
    grind
 unfold ZlL
 grind
theorem Zws(l:aZ)(hl:S7 l<=900000):Mv l=S8 (s7 l):=by
 have hm:S7 l<=maxLen:=by unfold maxLen;omega
 have aF:∀(fu i:Nat),i<=S7 l->S7 l-i<fu->ZfP l fu (i:Int) (s7 (l.take i))=S8 (s7 l):=by
  intro fu;induction fu with
  |zero=>intro _ _ h;omega
  |succ fu ih=>
   intro i hi e;unfold ZfP;simp only[o8,YO];by_cases h:i<S7 l
   .have d:n_ (i:Int) 1=((i+1:Nat):Int):=pY h hm;rw[p7,o9 ⟨by omega,by omega⟩,ZYH _ _ (Ow _) (by rw[EY];simp;omega),oT,d,<-Ov,ua l _ i h,<-YR h]
    grind
   grind
 unfold Mv;have:=aF ((((S7 l:Nat):Int)-(0:Int)).toNat+2) 0 (by omega) (by omega);exact this
theorem snoc{α:Type}:∀(l:S5 α),S7 l≠0->∃T s,l=T++[s]
 | [x],_=>⟨[],x,rfl⟩
 |x :: y :: l,_=>by
  obtain⟨T,s,h⟩:=snoc (y :: l) (by simp)
  grind
theorem ZYo{T:aZ}{s:a_}(h:bp (T++[s]))(hx:sD x s=Tm):∀y∈T++[s],sD x y=Tm:=by
 intro y d;rcases T9.1 d with q|q
 .exact EO hx ((Y4.1 h).2.2 y q s (by simp))
 simp_all
theorem ZUU(P:aZ)(x:a_)(R:aZ)(j v8:Int)(k:Int->aZ->S6 aZ):∀(n:Nat)(S1 S2:aZ)(fu:Nat),S7 S1=n->bp S1->(∀y∈S2,sD x y=Tl)->n+1<=fu->S7 P+S7 S1+S7 S2+S7 R<=900000 ->
  Qy (S7 P:Int) j v8 k fu ((S7 P+n:Nat):Int) (P++(S1++(x :: (S2++R))))=k (n_ v8 1) (P++(s9 (S1++S2) [x]++R)):=by
 intro n;induction n with
 |zero=>
  intro S1 S2 fu g hs h o hb;obtain⟨fu,rfl⟩:=sC fu;obtain rfl:=ZN g;unfold Qy;rw[o8,pO,ZFU (o1:=[]) (by simp) h];simp
 |succ n ih=>
  intro S1 S2 fu g hs h o hb;obtain⟨fu,rfl⟩:=sC fu;obtain⟨T,s,rfl⟩:=snoc S1 (by omega);have t:S7 T=n:=by simpa using g
  have u:pR ((S7 P+(n+1):Nat):Int) 1=((S7 P+n:Nat):Int):=by rw[tq (by omega) (by omega)];omega
  have hl:(P++(T++[s]++(x :: (S2++R)))).length=S7 P+(n+1)+1+S7 S2+S7 R:=by simp;omega
  unfold Qy;rw[o8,p7,u,o9 (by rw[hl];omega),o9 (by rw[hl];omega)];simp only[YO];have A:(P++(T++[s]++(x :: (S2++R)))).getD (S7 P+(n+1)) a_.d=x:=GY (L:=P++(T++[s])) (R:=S2++R) (by simp) (by simp;omega);have B:(P++(T++[s]++(x :: (S2++R)))).getD (S7 P+n) a_.d=s:=GY (L:=P++T) (R:=x :: (S2++R)) (by simp) (by simp;omega);rw[A,B,ZBe,oT,o8];by_cases e:qK x.c_ s.c_<0
  .have hx:sD x s=Tl:=K4.2 e;have s1:(P++(T++[s]++(x :: (S2++R)))).set (S7 P+(n+1)) s=P++(T++(s :: (s :: (S2++R)))):=by
    simp_all
   have s2:(P++(T++(s :: (s :: (S2++R))))).set (S7 P+n) x=P++(T++(x :: (s :: S2++R))):=by
    simp_all
   rw[aFa e,s1,s2];have:=ih T (s :: S2) fu t (Y4.1 hs).1 (λy D=>by
    grind) (by omega) (by grind)
   rw[this];simp
  .rw[aE_ e,ZFU (ZYo hs (KK.2 e)) h];simp
theorem acL(P L Q:aZ)(hb:S7 P+S7 L+S7 Q<=900000)(a b:Int)(ha:a=(S7 P:Int))(fK:b=((S7 P+S7 L:Nat):Int)) :
  Zcn (P++(L++Q)) a b=S8 (P++(s7 L++Q)):=by
 subst ha fK;have h:n_ (S7 P:Int) 1=((S7 P+1:Nat):Int):=by rw[s_ (by omega) (by omega)];omega
 unfold Zcn;rw[h];cases hL:L with
 |nil=>
  unfold Ku;rw[o8,if_neg (by simp;omega)];simp[s7]
 |cons z Z=>
  rw[<-hL];have fI:1<=S7 L:=by rw[hL];simp
  have aF:∀(j k fu:Nat),S7 L-k=j->1<=k->k<=S7 L->j+1<=fu->Ku (S7 P:Int) ((S7 P+S7 L:Nat):Int) fu ((S7 P+k:Nat):Int) (P++(s7 (L.take k)++(L.drop k++Q)))=S8 (P++(s7 L++Q)):=by
   intro j;induction j with
   |zero=>
    intro k fu o e g t;obtain⟨fu,rfl⟩:=sC fu;unfold Ku
    grind
   |succ j ih=>
    intro k fu o e g t;obtain⟨fu,rfl⟩:=sC fu;unfold Ku;have il:=EY (L.take k);rw[TQ,Wi g]at il;have u:n_ ((S7 P+k:Nat):Int) 1=((S7 P+(k+1):Nat):Int):=by rw[s_ (by omega) (by omega)];omega
    rw[o8,p7,xZ L a_.d k];have:=ZUU P (L.getD k a_.d) (L.drop (k+1)++Q) ((S7 P+S7 L:Nat):Int) ((S7 P+k:Nat):Int) (Ku (S7 P:Int) ((S7 P+S7 L:Nat):Int) fu) k (s7 (L.take k)) [] ((((S7 P+k:Nat):Int)-(S7 P:Int)).toNat+2) il (Ow _) (by simp) (by omega) (by simp[il];omega);simp only[YY,Zz,Wf]at this ⊢;rw[this,u,<-Ov,ua L _ k,<-YR (by omega)];exact ih (k+1) fu (by omega) (by omega) (by omega) (by omega)
  have e:s7 (L.take 1)=L.take 1:=by rw[hL];simp[s7,yT]
  have:=aF (S7 L-1) 1 ((((S7 P+S7 L:Nat):Int)-((S7 P+1:Nat):Int)).toNat+2) rfl (Tq _) fI (by omega);simp_all
theorem ZGs(i j:Nat)(h:i+j<=10000000:=by omega):US .i64 (Int.fdiv (US .u64 (n_ (i:Int) (j:Int))) (2 ^ (min (1:Int).toNat (UB .u64))))=(((i+j) / 2:Nat):Int):=by
 have d:n_ (i:Int) (j:Int)=((i+j:Nat):Int):=by rw[s_ (by omega) (by omega)];omega
 have e:US .u64 ((i+j:Nat):Int)=((i+j:Nat):Int):=by
  simp only[US,UB,Ut];simp;omega
 have g:(2:Int) ^ (min (1:Int).toNat (UB .u64))=2:=rfl;rw[d,e,g,Int.fdiv_eq_ediv_of_nonneg _ (by omega),B0];omega
theorem ZPT(d:sD z x=Tl)(e:sD z y=Tm):sD y x=Tl:=by
 cases h:sD y x with
 |true=>rfl
 |false=>rw[EO e h]at d;cases d
theorem amz(x:a_):sD x x=Tm:=by rw[KK,JC.2 rfl];omega
theorem Gf{Y:aZ}(h:bp Y){j:Nat}(hi:i<=j:=by omega)(g:j<S7 Y:=by omega):sD (Y.getD j a_.d) (Y.getD i a_.d)=Tm:=by
 by_cases e:i=j
 .rw[e];exact amz _
 .rw[ua Y _ j g,ua Y _ i];exact List.pairwise_iff_getElem.1 h i j (by omega) g (by omega)
theorem ZAZ{Y:aZ}(h:y∈Y.take k):∃i,i<k/\i<S7 Y/\y=Y.getD i a_.d:=by
 obtain⟨i,hi,rfl⟩:=UZ h;rw[TQ]at hi;exact⟨i,by omega,by omega,by grind⟩
theorem ZBu{Y:aZ}(h:y∈Y.drop k):∃i,k<=i/\i<S7 Y/\y=Y.getD i a_.d:=by
 obtain⟨i,hi,rfl⟩:=UZ h;rw[Uv]at hi;exact⟨k+i,by omega,by omega,by grind⟩
theorem ac5{P Y Q:aZ}(e:k=S7 P+i)(hi:i<S7 Y):(P++(Y++Q)).getD k a_.d=Y.getD i a_.d:=by
 grind
theorem mv1(P R:aZ)(x:a_)(iI:Int)(k:Int->Int->aZ->S6 aZ):∀(Y2 Y1:aZ)(fu:Nat),S7 Y2+1<=fu->S7 P+S7 Y1+S7 Y2+S7 R<=900000 ->
  QC (S7 P:Int) ((S7 P+S7 Y1+S7 Y2+1:Nat):Int) iI k fu ((S7 P+S7 Y1:Nat):Int) (P++(Y1++(x :: (Y2++R))))=S8 (P++(Y1++(Y2++(x :: R)))):=by
 intro Y2;induction Y2 with
 |nil=>
  intro Y1 fu e hb;obtain⟨fu,rfl⟩:=sC fu;unfold QC;simp only[XB,TY];rw[o8,aE_ (by rw[tq (by omega) (by omega)];omega)];rfl
 |cons y Y2 ih=>
  intro Y1 fu e hb;obtain⟨fu,rfl⟩:=sC fu;simp only[Uw]at e hb ⊢;have g:n_ ((S7 P+S7 Y1:Nat):Int) 1=((S7 P+S7 Y1+1:Nat):Int):=by rw[s_ (by omega) (by omega)];omega
  have hl:(P++(Y1++(x :: (y :: Y2++R)))).length=S7 P+S7 Y1+S7 Y2+S7 R+2:=by simp;omega
  unfold QC;rw[o8,if_pos (by rw[tq (by omega) (by omega)];omega),g,o9 (by rw[hl];omega),o9 (by rw[hl];omega)];simp only[YO];have h:(P++(Y1++(x :: (y :: Y2++R)))).getD (S7 P+S7 Y1+1) a_.d=y:=GY (L:=P++(Y1++[x])) (R:=Y2++R) (by simp) (by simp;omega);have j:(P++(Y1++(x :: (y :: Y2++R)))).getD (S7 P+S7 Y1) a_.d=x:=GY (L:=P++Y1) (R:=y :: (Y2++R)) (by simp) (by simp);have s1:(P++(Y1++(x :: (y :: Y2++R)))).set (S7 P+S7 Y1) y=P++(Y1++(y :: (y :: Y2++R))):=by
   simp_all
  have s2:(P++(Y1++(y :: (y :: Y2++R)))).set (S7 P+S7 Y1+1) x=P++(Y1++(y :: (x :: (Y2++R)))):=by
   rw[acS (L:=P++(Y1++[y])) (x:=y) (R:=Y2++R) (by simp) (by simp;omega)];simp
  rw[h,j,s1,s2];have:=ih (Y1++[y]) fu (by omega) (by grind);simp only[TL,ZO,Vl,ZU]at this
  grind
theorem K3(P Y Q:aZ)(x:a_)(hs:bp Y)(hb:S7 P+S7 Y+S7 Q<=800000):∀(s lo hi fu:Nat),hi-lo<=s->lo<=hi->hi<=S7 Y->s+1<=fu->(∀y∈Y.take lo,sD y x=Tl)->(∀y∈Y.drop hi,sD y x=Tm) ->
  GJ (S7 P:Int) fu ((S7 P+1+lo:Nat):Int) ((S7 P+1+hi:Nat):Int) (P++(x :: (Y++Q)))=S8 (P++(s9 [x] Y++Q)):=by
 intro s;have bD:∀(lo hi fu:Nat),lo=hi->hi<=S7 Y->(∀y∈Y.take lo,sD y x=Tl)->(∀y∈Y.drop hi,sD y x=Tm) ->
   GJ (S7 P:Int) (fu+1) ((S7 P+1+lo:Nat):Int) ((S7 P+1+hi:Nat):Int) (P++(x :: (Y++Q)))=S8 (P++(s9 [x] Y++Q)):=by
  intro lo hi fu e A j g;subst e;unfold GJ;rw[o8,pO];have ho:=al' j g;rw[WE]at ho;have:=mv1 P (Y.drop lo++Q) x ((S7 P+1+lo:Nat):Int) (GJ (S7 P:Int) fu) (Y.take lo) [] 1000000 (by simp;omega) (by simp;omega);simp only[TQ,Wi A,XB,TY,YY]at this;rw[<-Vl (Y.take lo),WE,show P.length+lo+1=S7 P+1+lo by omega]at this;rw[this,ho];simp
 induction s with
 |zero=>
  intro lo hi fu h0 j g B t u;obtain⟨fu,rfl⟩:=sC fu
  grind
 |succ s ih=>
  intro lo hi fu h0 j g B t u;obtain⟨fu,rfl⟩:=sC fu;by_cases e:lo=hi
  .simp_all
  .have hm:(S7 P+1+lo+(S7 P+1+hi)) / 2=S7 P+1+(lo+hi) / 2:=by omega
   have D:(lo+hi) / 2<S7 Y:=by omega
   have hl:(P++(x :: (Y++Q))).length=S7 P+1+S7 Y+S7 Q:=by simp;omega
   unfold GJ;rw[o8,p7,ZGs _ _,hm,o9 (by rw[hl];omega),o9 (by rw[hl];omega)];simp only[YO];have F:(P++(x :: (Y++Q))).getD (S7 P+1+(lo+hi) / 2) a_.d=Y.getD ((lo+hi) / 2) a_.d:=by
    grind
   rw[F,ZVM,ZBe,oT,o8];have G:n_ ((S7 P+1+(lo+hi) / 2:Nat):Int) 1=((S7 P+1+((lo+hi) / 2+1):Nat):Int):=by rw[s_ (by omega) (by omega)];omega
   by_cases h:qK (Y.getD ((lo+hi) / 2) a_.d).c_ x.c_<0
   .rw[aFa h,G];refine ih _ _ fu (by omega) (by omega) g (by omega) (λy o=>?_) u;obtain⟨i,i1,i2,rfl⟩:=ZAZ o;exact ZPT (K4.2 h) (Gf hs (by omega) D)
   .rw[aE_ h];refine ih _ _ fu (by omega) (by omega) (by omega) (by omega) t (λy o=>?_);obtain⟨i,i1,i2,rfl⟩:=ZBu o;exact EO (Gf hs i1 i2) (KK.2 h)
theorem mv2(P Q:aZ)(y:a_)(g nC:Int)(k:Int->Int->aZ->S6 aZ):∀(n:Nat)(T U:aZ)(fu:Nat),S7 T=n->n+1<=fu->S7 P+S7 T+S7 U+S7 Q<=900000 ->
  QD g (S7 P:Int) nC k fu ((S7 P+n:Nat):Int) (P++(T++(y :: (U++Q))))=S8 (P++(y :: (T++(U++Q)))):=by
 intro n;induction n with
 |zero=>
  intro T U fu e h hb;obtain⟨fu,rfl⟩:=sC fu;obtain rfl:=ZN e;unfold QD;rw[o8,pO];rfl
 |succ n ih=>
  intro T U fu e h hb;obtain⟨fu,rfl⟩:=sC fu;obtain⟨T,s,rfl⟩:=snoc T (by omega);have o:S7 T=n:=by simpa using e
  simp only[TL,ZO]at hb;have j:pR ((S7 P+(n+1):Nat):Int) 1=((S7 P+n:Nat):Int):=by rw[tq (by omega) (by omega)];omega
  have hl:(P++(T++[s]++(y :: (U++Q)))).length=S7 P+(n+1)+1+S7 U+S7 Q:=by simp;omega
  unfold QD;rw[o8,p7,j,o9 (by rw[hl];omega),o9 (by rw[hl];omega)];simp only[YO];have t:(P++(T++[s]++(y :: (U++Q)))).getD (S7 P+(n+1)) a_.d=y:=GY (L:=P++(T++[s])) (R:=U++Q) (by simp) (by simp;omega);have u:(P++(T++[s]++(y :: (U++Q)))).getD (S7 P+n) a_.d=s:=GY (L:=P++T) (R:=y :: (U++Q)) (by simp) (by simp;omega);have s1:(P++(T++[s]++(y :: (U++Q)))).set (S7 P+(n+1)) s=P++(T++(s :: (s :: (U++Q)))):=by
   simp_all
  have s2:(P++(T++(s :: (s :: (U++Q))))).set (S7 P+n) y=P++(T++(y :: (s :: U++Q))):=by
   simp_all
  grind
theorem bs2(P X Q:aZ)(y:a_)(hs:bp X)(hb:S7 P+S7 X+S7 Q<=800000):∀(s lo hi fu:Nat),hi-lo<=s->lo<=hi->hi<=S7 X->s+1<=fu->(∀x∈X.take lo,sD y x=Tm)->(∀x∈X.drop hi,sD y x=Tl) ->
  GK ((S7 P+S7 X:Nat):Int) fu ((S7 P+lo:Nat):Int) ((S7 P+hi:Nat):Int) (P++(X++(y :: Q)))=S8 (P++(s9 X [y]++Q)):=by
 intro s;have bD:∀(lo hi fu:Nat),lo=hi->hi<=S7 X->(∀x∈X.take lo,sD y x=Tm)->(∀x∈X.drop hi,sD y x=Tl) ->
   GK ((S7 P+S7 X:Nat):Int) (fu+1) ((S7 P+lo:Nat):Int) ((S7 P+hi:Nat):Int) (P++(X++(y :: Q)))=S8 (P++(s9 X [y]++Q)):=by
  intro lo hi fu e A j g;subst e;unfold GK;rw[o8,pO];have ho:=ZFU j g;rw[WE]at ho;have:=mv2 (P++X.take lo) Q y ((S7 P+S7 X:Nat):Int) ((S7 P+lo:Nat):Int) (GK ((S7 P+S7 X:Nat):Int) fu) (S7 X-lo) (X.drop lo) [] ((((S7 P+S7 X:Nat):Int)-((S7 P+lo:Nat):Int)).toNat+2) (by simp) (by omega) (by simp;omega);simp only[TL,TQ,Wi A,YY,Vl]at this;rw[<-Vl (X.take lo) (X.drop lo),WE,show P.length+lo+(S7 X-lo)=S7 P+X.length by omega]at this;rw[this,ho];simp
 induction s with
 |zero=>
  intro lo hi fu h0 j g B o t;obtain⟨fu,rfl⟩:=sC fu
  grind
 |succ s ih=>
  intro lo hi fu h0 j g B o t;obtain⟨fu,rfl⟩:=sC fu;by_cases e:lo=hi
  .simp_all
  .have hm:(S7 P+lo+(S7 P+hi)) / 2=S7 P+(lo+hi) / 2:=by omega
   have u:(lo+hi) / 2<S7 X:=by omega
   have hl:(P++(X++(y :: Q))).length=S7 P+S7 X+1+S7 Q:=by simp;omega
   unfold GK;rw[o8,p7,ZGs _ _,hm,o9 (by rw[hl];omega),o9 (by rw[hl];omega)];simp only[YO];have D:(P++(X++(y :: Q))).getD (S7 P+(lo+hi) / 2) a_.d=X.getD ((lo+hi) / 2) a_.d:=ac5 rfl u;have F:(P++(X++(y :: Q))).getD (S7 P+S7 X) a_.d=y:=GY (L:=P++X) (R:=Q) (by simp) (by simp);rw[D,F,ZBe,oT];have G:n_ ((S7 P+(lo+hi) / 2:Nat):Int) 1=((S7 P+((lo+hi) / 2+1):Nat):Int):=by rw[s_ (by omega) (by omega)];omega
   by_cases h:qK y.c_ (X.getD ((lo+hi) / 2) a_.d).c_<0
   .rw[aFk h,YP,aFb];refine ih _ _ fu (by omega) (by omega) (by omega) (by omega) o (λx hx=>?_);obtain⟨i,i1,i2,rfl⟩:=ZBu hx;exact ZFY (K4.2 h) (Gf hs i1 i2)
   .rw[aFo h,YT,aFc,G];refine ih _ _ fu (by omega) (by omega) g (by omega) (λx hx=>?_) t;obtain⟨i,i1,i2,rfl⟩:=ZAZ hx;exact EO (KK.2 h) (Gf hs (by omega) u)
def Mg(gr:aZ->Int->Int->Int->S6 aZ)(N:Nat):Prop:=∀(P X Y Q:aZ),0<S7 X->0<S7 Y->bp X->bp Y->S7 X+S7 Y<=N->S7 P+S7 X+S7 Y+S7 Q<=700000->gr (P++(X++(Y++Q))) (S7 P:Int) ((S7 P+S7 X:Nat):Int) ((S7 P+S7 X+S7 Y:Nat):Int)=S8 (P++(s9 X Y++Q))
theorem adl{gr:aZ->Int->Int->Int->S6 aZ}(bJ:Mg gr N)(P X Y Q:aZ)(hX:bp X)(hY:bp Y)(hN:S7 X+S7 Y<=N)(hb:S7 P+S7 X+S7 Y+S7 Q<=700000)(d e gI v20 du v22:Int)(k:Int->Int->Int->aZ->S6 aZ) :
  MD d e ((S7 P+S7 X+S7 Y:Nat):Int) gr (S7 P:Int) gI v20 du v22 ((S7 P+S7 X:Nat):Int) k (P++(X++(Y++Q)))=S8 (P++(s9 X Y++Q)):=by
 unfold MD;rw[o8,o8];by_cases g:S7 X=0
 .rw[pO];obtain rfl:=ZN g;rw[yT];rfl
 .rw[p7];by_cases h:S7 Y=0
  .rw[pO];obtain rfl:=ZN h;rw[CN];rfl
  .rw[p7,bJ P X Y Q (by omega) (by omega) hX hY hN hb];rfl
theorem adm{gr:aZ->Int->Int->Int->S6 aZ}(bJ:Mg gr N)(P X1 Y1 X2 Y2 Q:aZ)(nD:bp X1)(nE:bp Y1)(db:bp X2)(de:bp Y2)(nF:S7 X1+S7 Y1<=N)(nG:S7 X2+S7 Y2<=N)
  (hb:S7 P+S7 X1+S7 Y1+S7 X2+S7 Y2+S7 Q<=700000) (d gI du v22:Int) (k:Int->Int->Int->aZ->S6 aZ) :
  HU (S7 P:Int) d ((S7 P+S7 X1+S7 Y1+S7 X2+S7 Y2:Nat):Int) gr ((S7 P+S7 X1+S7 Y1:Nat):Int) gI ((S7 P+S7 X1:Nat):Int) du v22 k ((S7 P+S7 X1+S7 Y1+S7 X2:Nat):Int) (P++(X1++(Y1++(X2++(Y2++Q))))) =
   S8 (P++(s9 X1 Y1++(s9 X2 Y2++Q))):=by
 have hm:=ZUy _ X1 Y1 (Tq _);have next:MD (S7 P:Int) d ((S7 P+S7 X1+S7 Y1+S7 X2+S7 Y2:Nat):Int) gr ((S7 P+S7 X1+S7 Y1:Nat):Int) gI ((S7 P+S7 X1:Nat):Int) du v22 ((S7 P+S7 X1+S7 Y1+S7 X2:Nat):Int) k (P++(s9 X1 Y1++(X2++(Y2++Q)))) =
   S8 (P++(s9 X1 Y1++(s9 X2 Y2++Q))):=by
  have:=adl bJ (P++s9 X1 Y1) X2 Y2 Q db de nG (by grind) (S7 P:Int) d gI ((S7 P+S7 X1:Nat):Int) du v22 k
  grind
 unfold HU;rw[o8,o8];by_cases e:S7 X1=0
 .rw[pO];obtain rfl:=ZN e;rw[yT]at next ⊢
  exact next
 .rw[p7];by_cases g:S7 Y1=0
  .rw[pO];obtain rfl:=ZN g;rw[CN]at next ⊢
   exact next
  .rw[p7,bJ P X1 Y1 (X2++(Y2++Q)) (by omega) (by omega) nD nE nF (by grind),oT];exact next
theorem bp.take{l:aZ}(h:bp l)(k:Nat):bp (l.take k):=ZS (List.take_sublist k l) h
theorem bp.drop{l:aZ}(h:bp l)(k:Nat):bp (l.drop k):=ZS (aE7 k l) h
section
variable {gr:aZ->Int->Int->Int->S6 aZ} {N:Nat} (bJ:Mg gr N) (P X Y Q:aZ) (hX:bp X) (hY:bp Y) (db:0 < X.length) (de:0 < Y.length) (hN:S7 X + Y.length<=N + 1) (hb:S7 P + X.length + Y.length + Q.length<=700000)
 (mid s0 r0:Nat) (tJ:mid=(S7 P+(S7 P+S7 X+S7 Y)) / 2)
 (h0:(mid<S7 P+S7 X/\s0+(S7 P+S7 X+S7 Y)=mid+(S7 P+S7 X)/\r0=mid)\/(S7 P+S7 X<=mid/\s0=S7 P/\r0=S7 P+S7 X))
include bJ hX hY db de hN hb tJ h0
def wF(P X Y:aZ)(mid c:Nat):Bool:=sD (Y.getD (mid-1-c) a_.d) (X.getD (c-S7 P) a_.d)
theorem alp(st:Nat)(D:s0<=st)(F:st<=r0)(zC:∀c,s0<=c->c<st->wF P X Y mid c=Tm)(zD:∀c,st<=c->c<r0->wF P X Y mid c=Tl)(du v22:Int)(k:Int->Int->Int->aZ->S6 aZ) :
  (bif(decide ((st:Int)<((S7 P+S7 X:Nat):Int)))then
    bif(decide (((S7 P+S7 X:Nat):Int)<(pR ((mid+(S7 P+S7 X):Nat):Int) (st:Int))))then
     (Zdg (P++(X++(Y++Q))) (st:Int) ((S7 P+S7 X:Nat):Int) (pR ((mid+(S7 P+S7 X):Nat):Int) (st:Int))).bind λx2=>
     HU (S7 P:Int) ((S7 P+S7 X:Nat):Int) ((S7 P+S7 X+S7 Y:Nat):Int) gr (mid:Int) ((mid+(S7 P+S7 X):Nat):Int) (st:Int) du v22 k (pR ((mid+(S7 P+S7 X):Nat):Int) (st:Int)) x2
    else
     HU (S7 P:Int) ((S7 P+S7 X:Nat):Int) ((S7 P+S7 X+S7 Y:Nat):Int) gr (mid:Int) ((mid+(S7 P+S7 X):Nat):Int) (st:Int) du v22 k (pR ((mid+(S7 P+S7 X):Nat):Int) (st:Int)) (P++(X++(Y++Q)))
   else
    HU (S7 P:Int) ((S7 P+S7 X:Nat):Int) ((S7 P+S7 X+S7 Y:Nat):Int) gr (mid:Int) ((mid+(S7 P+S7 X):Nat):Int) (st:Int) du v22 k (pR ((mid+(S7 P+S7 X):Nat):Int) (st:Int)) (P++(X++(Y++Q))))=S8 (P++(s9 X Y++Q)):=by
 have ha:S7 P<=st:=by omega
 have hmm:st<=mid:=by omega
 have cC:st-S7 P<=S7 X:=by omega
 have sR:mid-st<=S7 Y:=by omega
 obtain⟨e,o⟩ : ∃e,st=S7 P+e:=⟨st-S7 P,by omega⟩;obtain⟨d,G⟩ : ∃d,mid=st+d:=⟨mid-st,by omega⟩;have ee:pR ((mid+(S7 P+S7 X):Nat):Int) (st:Int)=((S7 P+S7 X+d:Nat):Int):=by rw[tq (by omega) (by omega)];omega
 have t:∀y∈Y.take d,∀x∈X.drop e,sD y x=Tl:=by
  intro y g x hx;obtain⟨i,i1,i2,rfl⟩:=ZAZ g;obtain⟨j,j1,j2,rfl⟩:=ZBu hx;have h:=zD st (Tq _) (by omega);unfold wF at h;rw[show mid-1-st=d-1 by omega,show st-S7 P=e by omega]at h;exact ZFY (ZPT h (Gf hY)) (Gf hX j1 j2)
 have u:∀x∈X.take e,∀y∈Y.drop d,sD y x=Tm:=by
  intro x hx y g;obtain⟨i,i1,i2,rfl⟩:=ZAZ hx;obtain⟨j,j1,j2,rfl⟩:=ZBu g;have h:=zC (st-1) (by omega) (by omega);unfold wF at h;rw[show mid-1-(st-1)=d by omega,show st-1-S7 P=e-1 by omega]at h;exact EO (EO (Gf hY j1 j2) h) (Gf hX)
 have H:s9 X Y=s9 (X.take e) (Y.take d)++s9 (X.drop e) (Y.drop d):=by
  have:=RZ _ (X.take e) (X.drop e) (Y.take d) (Y.drop d) (Tq _) t u;simp_all
 have l1:(X.take e).length=e:=by simp;omega
 have l2:(Y.take d).length=d:=by simp;omega
 have l3:(X.drop e).length=S7 X-e:=by simp
 have l4:(Y.drop d).length=S7 Y-d:=by simp
 have last:=adm bJ P (X.take e) (Y.take d) (X.drop e) (Y.drop d) Q (hX.take _) (hY.take _) (hX.drop _) (hY.drop _) (by omega) (by omega) (by omega) ((S7 P+S7 X:Nat):Int) ((mid+(S7 P+S7 X):Nat):Int) du v22 k;rw[l1,l2,l3,l4,show P.length+e+d+(S7 X-e)+(S7 Y-d)=S7 P+S7 X+Y.length by omega,show P.length+e+d+(S7 X-e)=S7 P+S7 X+d by omega,show P.length+e+d=mid by omega,<-o]at last;have A:P++(X++(Y++Q))=P++X.take e++(X.drop e++(Y.take d++(Y.drop d++Q))):=by
  rw[<-Vl (Y.take d),WE,Vl,<-Vl (X.take e),WE]
 have B:S8 (P++(s9 (X.take e) (Y.take d)++(s9 (X.drop e) (Y.drop d)++Q)))=S8 (P++(s9 X Y++Q)):=by simp_all
 rw[B]at last;rw[ee,o8,o8];by_cases I:e<S7 X
 .rw[p7];by_cases J:0<d
  .rw[p7,A,alZ (P++X.take e) (X.drop e) (Y.take d) (Y.drop d++Q) (by omega) (by omega) (by grind) _ _ _ (by simp_all) (by grind) (by grind),oT];simp_all
  simp_all
 grind
end
section
variable {gr:aZ->Int->Int->Int->S6 aZ} {N:Nat} (bJ:Mg gr N) (P X Y Q:aZ) (hX:bp X) (hY:bp Y) (db:0 < X.length) (de:0 < Y.length) (hN:S7 X + Y.length<=N + 1) (hb:S7 P + X.length + Y.length + Q.length<=700000)
 (mid s0 r0:Nat) (tJ:mid=(S7 P+(S7 P+S7 X+S7 Y)) / 2)
 (h0:(mid<S7 P+S7 X/\s0+(S7 P+S7 X+S7 Y)=mid+(S7 P+S7 X)/\r0=mid)\/(S7 P+S7 X<=mid/\s0=S7 P/\r0=S7 P+S7 X))
include bJ hX hY db de hN hb tJ h0
omit bJ hN hb in
theorem ZIF{c c':Nat}(d:s0<=c')(e:c'<=c)(g:c<r0)(h:wF P X Y mid c=Tm):wF P X Y mid c'=Tm:=by
 unfold wF at *
 exact EO (EO (Gf hY) h) (Gf hX)
theorem ZWF:∀(s lo hi fu:Nat),hi-lo<=s->s0<=lo->lo<=hi->hi<=r0->s+1<=fu->(∀c,s0<=c->c<lo->wF P X Y mid c=Tm)->(∀c,hi<=c->c<r0->wF P X Y mid c=Tl) ->
  Fh (S7 P:Int) ((S7 P+S7 X:Nat):Int) ((S7 P+S7 X+S7 Y:Nat):Int) gr (mid:Int) ((mid+(S7 P+S7 X):Nat):Int) fu (lo:Int) (hi:Int) ((mid+(S7 P+S7 X)-1:Nat):Int) (P++(X++(Y++Q)))=S8 (P++(s9 X Y++Q)):=by
 intro s;have bD:∀(lo fu:Nat),s0<=lo->lo<=r0->(∀c,s0<=c->c<lo->wF P X Y mid c=Tm)->(∀c,lo<=c->c<r0->wF P X Y mid c=Tl) ->
   Fh (S7 P:Int) ((S7 P+S7 X:Nat):Int) ((S7 P+S7 X+S7 Y:Nat):Int) gr (mid:Int) ((mid+(S7 P+S7 X):Nat):Int) (fu+1) (lo:Int) (lo:Int) ((mid+(S7 P+S7 X)-1:Nat):Int) (P++(X++(Y++Q)))=S8 (P++(s9 X Y++Q)):=by
  intro lo fu g h A B;unfold Fh;rw[o8,pO];exact alp bJ P X Y Q hX hY db de hN hb mid s0 r0 tJ h0 lo g h A B _ _ _
 induction s with
 |zero=>
  intro lo hi fu D t F u G g h;obtain⟨fu,rfl⟩:=sC fu
  grind
 |succ s ih=>
  intro lo hi fu D t F u G g h;obtain⟨fu,rfl⟩:=sC fu;by_cases e:lo=hi
  .simp_all
  .have t1:(lo+hi) / 2<r0:=by omega
   have t2:s0<=(lo+hi) / 2:=by omega
   have ep:pR ((mid+(S7 P+S7 X)-1:Nat):Int) (((lo+hi) / 2:Nat):Int)=((S7 P+S7 X+(mid-1-(lo+hi) / 2):Nat):Int):=by rw[tq (by omega) (by omega)];omega
   have hl:(P++(X++(Y++Q))).length=S7 P+S7 X+S7 Y+S7 Q:=by simp;omega
   have nH:n_ (((lo+hi) / 2:Nat):Int) 1=(((lo+hi) / 2+1:Nat):Int):=by rw[s_ (by omega) (by omega)];omega
   unfold Fh;rw[o8,p7,ZGs _ _,ep,o9 (by rw[hl];omega),o9 (by rw[hl];omega)];simp only[YO];have H:(P++(X++(Y++Q))).getD (S7 P+S7 X+(mid-1-(lo+hi) / 2)) a_.d=Y.getD (mid-1-(lo+hi) / 2) a_.d:=by
    grind
   have I:(P++(X++(Y++Q))).getD ((lo+hi) / 2) a_.d=X.getD ((lo+hi) / 2-S7 P) a_.d:=ac5 (by omega) (by omega);rw[H,I,ZBe,oT,nH];by_cases j:qK (Y.getD (mid-1-(lo+hi) / 2) a_.d).c_ (X.getD ((lo+hi) / 2-S7 P) a_.d).c_<0
   .have ok:wF P X Y mid ((lo+hi) / 2)=Tl:=K4.2 j;rw[aFk j,YP,aFb];refine ih lo _ fu (by omega) t (by omega) (by omega) (by omega) g (λc o y=>?_);cases q:wF P X Y mid c with
    |true=>rfl
    |false=>
     have:=ZIF P X Y hX hY db de mid s0 r0 tJ h0 t2 o y q;simp_all
   .have ok:wF P X Y mid ((lo+hi) / 2)=Tm:=KK.2 j;rw[aFo j,YT,aFc];exact ih _ hi fu (by omega) (by omega) (by omega) u (by omega) (λc o y=>ZIF P X Y hX hY db de mid s0 r0 tJ h0 o (by omega) t1 ok) h
end
theorem alD{gr:aZ->Int->Int->Int->S6 aZ}(bJ:Mg gr N):Mg (Zdx gr) (N+1):=by
 intro P X Y Q db de hX hY hN hb;unfold Zdx;have g:pR ((S7 P+S7 X:Nat):Int) (S7 P:Int)=(S7 X:Int):=by rw[tq (by omega) (by omega)];omega
 have h:pR ((S7 P+S7 X+S7 Y:Nat):Int) ((S7 P+S7 X:Nat):Int)=(S7 Y:Int):=by rw[tq (by omega) (by omega)];omega
 rw[g,h,uo,uo];by_cases j:S7 X=1
 .rw[p7];obtain⟨x,rfl⟩ : ∃x,X=[x]:=by
   cases X with
   |nil=>cases j
   |cons x X=>simp_all
  have:=K3 P Y Q x hY (by omega) Y.length 0 Y.length ((((S7 P+[x].length+S7 Y:Nat):Int)-((S7 P+[x].length:Nat):Int)).toNat+2) (by omega) (by omega) (Tq _) (by omega) (by simp) (by simp);exact this
 .rw[pO];by_cases o:S7 Y=1
  .rw[p7];obtain⟨y,rfl⟩ : ∃y,Y=[y]:=by
    cases Y with
    |nil=>cases o
    |cons y Y=>simp_all
   have:=bs2 P X Q y hX (by omega) X.length 0 X.length ((((S7 P+S7 X:Nat):Int)-(S7 P:Int)).toNat+2) (by omega) (by omega) (Tq _) (by omega) (by simp) (by simp);exact this
  .rw[pO];rw[ZGs _ _];obtain⟨mid,tJ⟩ : ∃mid,mid=(S7 P+(S7 P+S7 X+S7 Y)) / 2:=⟨_,rfl⟩;rw[<-tJ];have en:n_ (mid:Int) ((S7 P+S7 X:Nat):Int)=((mid+(S7 P+S7 X):Nat):Int):=by rw[s_ (by omega) (by omega)];omega
   have ep:pR ((mid+(S7 P+S7 X):Nat):Int) 1=((mid+(S7 P+S7 X)-1:Nat):Int):=by rw[tq (by omega) (by omega)];omega
   rw[en,o8];by_cases t:mid<S7 P+S7 X
   .have es:pR ((mid+(S7 P+S7 X):Nat):Int) ((S7 P+S7 X+S7 Y:Nat):Int)=((mid+(S7 P+S7 X)-(S7 P+S7 X+S7 Y):Nat):Int):=by rw[tq (by omega) (by omega)];omega
    rw[p7,es];unfold ZcC;rw[ep];exact ZWF bJ P X Y Q hX hY db de hN hb mid (mid+(S7 P+S7 X)-(S7 P+S7 X+S7 Y)) mid tJ (.inl ⟨t,by omega,rfl⟩) _ _ _ _ (Tq _) (Tq _) (by omega) (Tq _) (by omega) (λc d e=>by omega) (λc d e=>by omega)
   .rw[pO];unfold ZcC;rw[ep];exact ZWF bJ P X Y Q hX hY db de hN hb mid P.length (S7 P+S7 X) tJ (.inr ⟨by omega,rfl,rfl⟩) _ _ _ _ (Tq _) (Tq _) (by omega) (Tq _) (by omega) (λc d e=>by omega) (λc d e=>by omega)
theorem ZXl:∀fu,Mg (MH fu) fu
 | 0=>λP X Y Q d e _ _ g=>by omega
 |fu+1=>λP X Y Q d e g h j h6=>by
  unfold MH
  exact alD (ZXl fu) P X Y Q d e g h j h6
inductive yM (B:Nat):aZ->aZ->Prop
 |last (L:aZ) (h:S7 L<=B):yM B L (s7 L)
 |more (L D:aZ) (h:B<=S7 L) (r:yM B (L.drop B) D):yM B L (s7 (L.take B)++D)
theorem yM.len{B:Nat}{L D:aZ}(h:yM B L D):S7 D=S7 L:=by
 induction h with
 |last L h=>exact EY L
 |more L D h r ih=>rw[TL,EY,ih];simp;omega
theorem yM.one{B:Nat}(d:0<B){L D:aZ}(h:yM B L D)(hl:S7 L<=B):D=s7 L:=by
 cases h with
 |last _ h=>rfl
 |more _ D h r=>
  have:S7 L=B:=by omega
  have e:L.drop B=[]:=Y_ (by omega);have g:=r.len
  grind
theorem yM.split{B:Nat}{L D:aZ}(h:yM B L D)(hl:B<=S7 L):∃D1,D=s7 (L.take B)++D1/\yM B (L.drop B) D1:=by
 cases h with
 |last _ h=>
  have e:S7 L=B:=by omega
  refine⟨[],by grind,?_⟩;rw[Y_ (by omega)];exact yM.last [] (by simp)
 |more _ D h r=>exact⟨D,rfl,r⟩
theorem ac_(B:Nat)(o:0<B)(ln:B<=800)(y:Int->Int->Int->aZ->S6 aZ)(t:Int->aZ->S6 aZ):∀(s:Nat)(L P D:aZ)(fu:Nat),S7 L<2*B*(s+1)->s+1<=fu->S7 P+S7 L<=900->yM B L D ->
  ∃D',yM (2*B) L D'/\MC ((S7 P+S7 L:Nat):Int) (B:Int) y t fu (S7 P:Int) ((S7 P+2*B:Nat):Int) (P++D)=t ((2*B:Nat):Int) (P++D'):=by
 intro s;induction s with
 |zero=>
  intro L P D fu u A hb h;obtain⟨fu,rfl⟩:=sC fu;have d:n_ (S7 P:Int) (B:Int)=((S7 P+B:Nat):Int):=by rw[s_ (by omega) (by omega)];omega
  have F:u6 (B:Int) 2=((2*B:Nat):Int):=by rw[La];omega
  unfold MC;rw[o8,pO,d,F,o8];refine⟨s7 L,yM.last L (by omega),?_⟩;by_cases J:B<S7 L
  .obtain⟨D1,rfl,g⟩:=h.split (by omega);have e:=g.one o (by simp;omega);subst e;have l1:(s7 (L.take B)).length=B:=by rw[EY];simp;omega
   have l2:(s7 (L.drop B)).length=S7 L-B:=by rw[EY];simp
   have hm:=ZXl 1000 P (s7 (L.take B)) (s7 (L.drop B)) [] (by omega) (by omega) (Ow _) (Ow _) (by omega) (by simp;omega);rw[l1,l2,show P.length+B+(S7 L-B)=S7 P+L.length by omega,<-ZAF,WE,Zz,Zz]at hm;simp_all
  .rw[pO,h.one o (by omega)]
 |succ s ih=>
  intro L P D fu u A hb h;rw[Nat.mul_succ]at u;by_cases G:2*B<=S7 L
  .obtain⟨fu,rfl⟩:=sC fu;have d:n_ (S7 P:Int) (B:Int)=((S7 P+B:Nat):Int):=by rw[s_ (by omega) (by omega)];omega
   have H:u6 (2:Int) (B:Int)=((2*B:Nat):Int):=by rw[La];omega
   have I:n_ ((S7 P+2*B:Nat):Int) ((2*B:Nat):Int)=((S7 P+2*B+2*B:Nat):Int):=by rw[s_ (by omega) (by omega)];omega
   unfold MC;rw[o8,d,H,I];obtain⟨D1,rfl,g⟩:=h.split (by omega);obtain⟨D2,rfl,j⟩:=g.split (by simp;omega);have l1:(s7 (L.take B)).length=B:=by rw[EY];simp;omega
   have l2:(s7 ((L.drop B).take B)).length=B:=by rw[EY];simp;omega
   have lD:=j.len;simp only[Uv]at lD;have hm:=ZXl 1000 P (s7 (L.take B)) (s7 ((L.drop B).take B)) D2 (by omega) (by omega) (Ow _) (Ow _) (by omega) (by omega);rw[l1,l2,show P.length+B+B=S7 P+2*B by omega,<-ZAF]at hm;have et:L.take B++(L.drop B).take B=L.take (2*B):=by rw[show 2*B=B+B by omega,List.take_add]
   have ed:(L.drop B).drop B=L.drop (2*B):=by simp_all;omega
   rw[et]at hm;rw[ed]at j;rw[p7,hm,oT];have lt:(s7 (L.take (2*B))).length=2*B:=by rw[EY];simp;omega
   obtain⟨D',d1,d2⟩:=ih (L.drop (2*B)) (P++s7 (L.take (2*B))) D2 fu (by grind) (by omega) (by grind) j;refine⟨s7 (L.take (2*B))++D',yM.more L D' G d1,?_⟩
   grind
  .obtain⟨fu,rfl⟩:=sC fu;have hp:S7 L<2*B*(s+1):=by
    grind
   exact ih L P D (fu+1) hp (by omega) hb h
theorem ada(v7 v8:Int)(d:Int->Int->Int->aZ->S6 aZ)(L:aZ)(hL:S7 L<=800):∀(s B:Nat)(D:aZ)(fu:Nat),S7 L-B<=s->0<B->B<=1600->s+1<=fu->yM B L D ->
  Kr (S7 L:Int) v7 v8 d fu (B:Int) D=S8 (s7 L):=by
 intro s;induction s with
 |zero=>
  intro B D fu g e ln j h;obtain⟨fu,rfl⟩:=sC fu;unfold Kr;rw[o8,pO,h.one e (by omega)]
 |succ s ih=>
  intro B D fu g e ln j h;obtain⟨fu,rfl⟩:=sC fu;unfold Kr;rw[o8];by_cases y:B<S7 L
  .have o:u6 (2:Int) (B:Int)=((2*B:Nat):Int):=by rw[La];omega
   rw[p7,o];have t:S7 L / (2*B)+1<=(((S7 L:Nat):Int)-((2*B:Nat):Int)).toNat+2:=by
    by_cases u:S7 L<2*B
    .rw[Nat.div_eq_of_lt u];omega
    .rw[Nat.div_eq_sub_div (by omega) (by omega)];have:=Nat.div_le_self (S7 L-2*B) (2*B);omega
   obtain⟨D',d1,d2⟩:=ac_ B e (by omega) d (Kr (S7 L:Int) v7 v8 d fu) (S7 L / (2*B)) L [] D _ (Nat.lt_mul_div_succ _ (by omega)) t (by simp;omega) h;simp only[XB,TX,YY]at d2;have nI:MC (S7 L:Int) (B:Int) d (Kr (S7 L:Int) v7 v8 d fu) ((((S7 L:Nat):Int)-((2*B:Nat):Int)).toNat+2) 0 ((2*B:Nat):Int) D=_:=d2;rw[nI];exact ih (2*B) D' fu (by omega) (by omega) (by omega) (by omega) d1
  .rw[pO,h.one e (by omega)]
theorem adb(A:aZ)(g:S7 A<=800):∀(s:Nat)(L P:aZ)(fu:Nat),S7 L<20*(s+1)->s+1<=fu->S7 P+S7 L=S7 A->(∀D,yM 20 L D->yM 20 A (P++D)) ->
  HT (S7 A:Int) fu 20 (S7 P:Int) ((S7 P+20:Nat):Int) (P++L)=S8 (s7 A):=by
 intro s;have bD:∀(L P:aZ)(fu:Nat),S7 L<20->S7 P+S7 L=S7 A->(∀D,yM 20 L D->yM 20 A (P++D)) ->
   HT (S7 A:Int) (fu+1) 20 (S7 P:Int) ((S7 P+20:Nat):Int) (P++L)=S8 (s7 A):=by
  intro L P fu e hl d;unfold HT;have hi:=acL P L [] (by simp;omega) (S7 P:Int) (S7 A:Int) rfl (by omega);simp only[Zz]at hi;rw[o8,pO,hi,oT];exact ada _ _ _ A g (S7 A-20) 20 _ _ (Tq _) (by omega) (by omega) (by omega) (d _ (yM.last L (by omega)))
 induction s with
 |zero=>
  intro L P fu e h hl d;obtain⟨fu,rfl⟩:=sC fu;simp_all
 |succ s ih=>
  intro L P fu e h hl d;obtain⟨fu,rfl⟩:=sC fu;by_cases t:S7 L<20
  .simp_all
  .unfold HT;have lt:(L.take 20).length=20:=by simp;omega
   have hi:=acL P (L.take 20) (L.drop 20) (by simp;omega) (S7 P:Int) ((S7 P+20:Nat):Int) rfl (by rw[lt]);rw[WE]at hi;have j:n_ ((S7 P+20:Nat):Int) 20=((S7 P+20+20:Nat):Int):=by rw[s_ (by omega) (by omega)];omega
   rw[o8,p7,hi,oT,j];have li:(s7 (L.take 20)).length=20:=by rw[EY,lt]
   have:=ih (L.drop 20) (P++s7 (L.take 20)) fu (by grind) (by omega) (by grind) (λD o=>by
    have:=d _ (yM.more L D (by omega) o);simp_all)
   simp_all
theorem ZMu(A:aZ)(d:S7 A<=800):ZcJ A=S8 (s7 A):=by
 unfold ZcJ Zfz;have e:S7 A / 20+1<=(((S7 A:Nat):Int)-(20:Int)).toNat+2:=by omega
 have:=adb A d (S7 A / 20) A [] ((((S7 A:Nat):Int)-(20:Int)).toNat+2) (by omega) e (by simp) (λD h=>h);simp only[XB,TX,YY]at this;have d6:HT (S7 A:Int) ((((S7 A:Nat):Int)-(20:Int)).toNat+2) 20 0 20 A=S8 (s7 A):=this;rw[d6];rfl
theorem ZHU(A:aZ)(d:S7 A<=800):ZpM A=S8 (s7 A):=by
 unfold ZpM;have ec:Du A=S8 A:=by
  unfold Du;rw[o9 ⟨by omega,by unfold maxLen;omega⟩]
 rw[ec,oT,ZMu A d];rfl
theorem ZTJ(l:S5 a_)(hl:S7 l<=1000000):ZuH l=S8 (yP l):=by
 have hL:S7 l<=maxLen:=by unfold maxLen;omega
 have aF:∀fu (i:Nat) w,i<=S7 l->S7 l-i<fu->w=yP (l.take i)->SR fu l (S7 l:Int) (i:Int) w=S8 (yP l):=by
  intro fu;induction fu with
  |zero=>intro i w _ h;omega
  |succ fu ih=>
   intro i w hi e d;unfold SR;simp only[o8];by_cases h:i<S7 l
   .have k8:S7 w<=1000000:=by rw[d];unfold yP;simp;omega
    rw[p7,o9 ⟨by omega,by omega⟩,pY h hL,o9 ⟨by simp;omega,by simp[maxLen];omega⟩];refine ih (i+1) _ (by omega) (by omega) ?_;rw[d];unfold yP;rw[YR h,List.map_append,YO,ua l _ i h];rfl
   grind
 exact aF _ 0 [] (by omega) (by omega) rfl
def EB:Pr (S5 oD):=(wO ⟨3,0,0⟩).bind λv=>.ret v.po
def ZPa(x:pD):Pr oZ:=(pV 1 0 Tm).bind λ_=>EB.bind λl=>if(Ap l x.g_).2=0 then(yR ⟨3,0,0⟩ ⟨0,wT,(Ap l x.g_).1,[]⟩ Tl).bind λ_=>(pV 3 0 Tm).bind λ_=>.ret (wV 0)else(pV 3 0 Tl).bind λ_=>.ret (wV (Ap l x.g_).2)
def ZGR(x:pD):Pr oZ:=(pV 2 0 Tm).bind λ_=>EB.bind λl=>(pV 4 0 Tl).bind λ_=>.ret ⟨0,sd,0,Di l x.c_.b_ x.pE,[]⟩
def ZYm(x:pD):Pr oZ:=(pV 1 0 Tm).bind λ_=>EB.bind λl=>if(S7 l:Int)-((xy l x.pE).length:Int)>0 then(yR ⟨3,0,0⟩ ⟨0,wT,xy l x.pE,[]⟩ Tl).bind λ_=>(pV 3 0 Tm).bind λ_=>.ret ⟨0,sd,(S7 l:Int)-((xy l x.pE).length:Int),0,[]⟩else(pV 3 0 Tl).bind λ_=>.ret ⟨0,sd,(S7 l:Int)-((xy l x.pE).length:Int),0,[]⟩
def ZZj(c:p5):Pr oZ:=(pV 2 0 Tm).bind λ_=>(pV 1 1 Tm).bind λ_=>(Oi c.e_).bind λ_=>EB.bind λb=>(wO ⟨4,0,0⟩).bind λv=>(Bp c.e_.toNat 0 []).bind λall=>(Gm c.e_ Tl).bind λ_=>(pV 3 1 Tm).bind λ_=>(pV 4 0 Tm).bind λ_=>.ret ⟨0,sd,(S7 b:Int),(S7 v.j_:Int),s7 all.flatten⟩
theorem RL(l:S5 oM):JQ ⟨l⟩=runT EB l:=by
 unfold JQ;have e:G_=S8 ⟨3,0,0⟩:=rfl;rw[e,oT,BE];exact qi (λ_ _ _ _=>rfl) (λ_=>rfl)
theorem ZBj{l:S5 oM}{b:S5 oD}{g:qA}(h:runT EB l=S8 (.ret b g))(hl:Gl l):S7 b<=800/\∀x∈b,x.ok:=by
 obtain⟨v,o,j,d⟩:=K5 h;have e:=Of j hl;simp only[runT,Option.some.injEq,o7.ret.injEq]at d;rw[<-d.1];exact⟨e.2.1,e.1.2.2.1.2⟩
section
variable {c:p5} {x:pD} (hx:x.ok) {l:S5 oM} (hl:Gl l)
include hx hl
theorem ZXc:ZmL ⟨c,x⟩ ⟨l⟩=runT (ZPa x) l:=by
 have _u:=hx;unfold ZmL;rw[BW];refine qi (λ_ a ha _=>?_) (λ_=>rfl);dsimp only;rw[RL];refine qi (λv d j h=>?_) (λ_=>rfl);have o:=ZBj h (hl.drop a);dsimp only;have e:G_=S8 ⟨3,0,0⟩:=rfl;rw[ZWP _ _ (by omega),oT,uo];by_cases h0:(Ap v x.g_).2=0
 .have g:((Ap v x.g_).2 != 0)=Tm:=by rw[h0];rfl
  rw[aFa h0,aFa h0,e,oT,EW];refine qi (p:=yR ⟨3,0,0⟩ ⟨0,wT,(Ap v x.g_).1,[]⟩ Tl) (λ_ _ _ _=>?_) (λ_=>rfl);dsimp only;rw[g,wz];refine qi (λ_ _ _ _=>?_) (λ_=>rfl);dsimp only;rw[h0];rfl
 .have g:((Ap v x.g_).2 != 0)=Tl:=by simp_all
  rw[aE_ h0,aE_ h0,g,wz];exact qi (λ_ _ _ _=>rfl) (λ_=>rfl)
theorem ZSM:ZlA ⟨c,x⟩ ⟨l⟩=runT (ZGR x) l:=by
 unfold ZlA;rw[RO];refine qi (λ_ a ha _=>?_) (λ_=>rfl);dsimp only;rw[RL];refine qi (λv d g h=>?_) (λ_=>rfl);have e:=ZBj h (hl.drop a);dsimp only;rw[(JG v x.c_.b_ x.pE (by unfold maxLen;omega) e.2 hx.2.1.1).1,oT,K8];exact qi (λ_ _ _ _=>rfl) (λ_=>rfl)
theorem anc:ZnQ ⟨c,x⟩ ⟨l⟩=runT (ZYm x) l:=by
 have _u:=hx;unfold ZnQ;rw[BW];refine qi (λ_ a ha _=>?_) (λ_=>rfl);dsimp only;rw[RL];refine qi (λv d j h=>?_) (λ_=>rfl);have o:=ZBj h (hl.drop a);have jT:=ZDV v x.pE;dsimp only;have e:G_=S8 ⟨3,0,0⟩:=rfl;rw[ZSB _ _ (by omega),oT,o8];generalize xy v x.pE=sw at jT;by_cases h0:(S7 v:Int)-(S7 sw:Int)>0
 .have g:((S7 v:Int)-(S7 sw:Int)==0)=Tm:=beq_false_of_ne (by omega);rw[aFa h0,aFa h0,e,oT,EW];refine qi (p:=yR ⟨3,0,0⟩ ⟨0,wT,sw,[]⟩ Tl) (λ_ _ _ _=>?_) (λ_=>rfl);dsimp only;rw[g,wz];exact qi (λ_ _ _ _=>rfl) (λ_=>rfl)
 .have g:((S7 v:Int)-(S7 sw:Int)==0)=Tl:=by rw[aFv];omega
  rw[aE_ h0,aE_ h0,g,wz];exact qi (λ_ _ _ _=>rfl) (λ_=>rfl)
omit hl in
theorem ZOV(all:S5 (S5 a_))(bH:S7 all<=1000)(b4:oZ)(p0:Int)(p1:l_)(p2 p3:Int)(l:S5 oM):∀(k i fu:Nat)(w:S5 a_),S7 all-i=k->i<=S7 all->k+1<=fu->S7 w+(all.drop i).flatten.length<=800 ->
  PV fu all (S7 all:Int) (i:Int) ⟨l⟩ ⟨c,x⟩ b4 p0 p1 p2 p3 w=runT ((Gm c.e_ Tl).bind λ_=>(pV 3 1 Tm).bind λ_=>(pV 4 0 Tm).bind λ_=>.ret (⟨p0,p1,p2,p3,s7 (w++(all.drop i).flatten)⟩ : oZ)) l:=by
 have _u:=hx;intro k;induction k with
 |zero=>
  intro i fu w e hi g hb;obtain⟨fu,rfl⟩:=sC fu;unfold PV;rw[o8,pO,Y_ (by omega),Sp];refine qi (λ_ _ _ _=>?_) (λ_=>rfl);dsimp only;rw[wz];refine qi (λ_ _ _ _=>?_) (λ_=>rfl);dsimp only;rw[K8];refine qi (λ_ _ _ _=>?_) (λ_=>rfl);dsimp only;rw[ZHU _ (by omega)];simp[runT]
 |succ k ih=>
  intro i fu w e hi g hb;obtain⟨fu,rfl⟩:=sC fu;unfold PV;have h:n_ (i:Int) 1=((i+1:Nat):Int):=pY (n:=i+1) (by omega) (by simp only[maxLen];omega);have d:=xZ all [] i;rw[d,Ww,TL]at hb;rw[o8,p7,o9 ⟨by omega,by omega⟩];simp only[YO];rw[o9 ⟨by grind,by rw[TL];unfold maxLen;omega⟩,h,ih (i+1) fu _ (by omega) (by omega) (by omega) (by grind),d,Ww,Vl]
theorem am6(bN:0<=c.e_)(hs:c.e_<=1000):ZnR ⟨c,x⟩ ⟨l⟩=runT (ZZj c) l:=by
 unfold ZnR;rw[RO];refine qi (λ_ d _ _=>?_) (λ_=>rfl);dsimp only;rw[BW];refine qi (λ_ e _ _=>?_) (λ_=>rfl);dsimp only;rw[Sq];refine qi (λ_ g _ _=>?_) (λ_=>rfl);dsimp only;rw[RL];refine qi (λb j _ _=>?_) (λ_=>rfl);dsimp only;rw[BE];refine qi (λv o _ _=>?_) (λ_=>rfl);dsimp only;have hl5:=((((hl.drop d).drop e).drop g).drop j).drop o;rw[ZDZ c x bN hs _ hl5.len];refine qi (λall u _ h=>?_) (λ_=>rfl);obtain⟨f1,f2,_⟩:=OQ _ _ _ _ _ _ h;have:=hl5.len;simp only[XB,Z8,TX]at f1 f2;dsimp only;have t:=ZOV hx (c:=c) all (by omega) ⟨0,sd,0,0,[]⟩ 0 sd (S7 b:Int) (S7 v.j_:Int) ((((((l.drop d).drop e).drop g).drop j).drop o).drop u) all.length 0 ((((S7 all:Nat):Int)-(0:Int)).toNat+2) [] (by omega) (by omega) (by omega) (by grind);rw[YZ,YY]at t;exact t
end
theorem ZFf{l:S5 oM}(hl:Gl l)(aw:S5 a_)(hg:S7 aw<=800):SQ aw ⟨l⟩=runT (MM aw) l:=by
 have d:=Q4 aw Tm;have e:=OB aw;unfold SQ MM;rw[Zug _ _ (by unfold maxLen;omega),oT,uo];by_cases h0:vj aw Tm=0
 .rw[aFa h0,pO];rfl
 .rw[aE_ h0,p7,BE];unfold QI;rw[Pr.bind_assoc];refine qi (λv a ha h=>?_) (λ_=>rfl);have g:=Of h hl;dsimp only;rw[ZTJ _ (by omega),oT,ZKZ _ _ (by omega) (by unfold maxLen;omega),oT,EW];refine qi (p:=yR ⟨4,0,0⟩ ⟨0,wT,[],v.j_.map (H4 (yP aw))⟩ Tm) (λ_ _ _ _=>?_) (λ_=>rfl);dsimp only;rw[Gh,Oj];exact Hc (λ_ _=>rfl) (λ_=>rfl)
theorem ZXq{l:S5 oM}(hl:Gl l)(aw:S5 a_)(hg:S7 aw<=800):ZuI ⟨l⟩ aw=runT (HZ aw) l:=by
 have d:=Q4 aw Tl;unfold ZuI HZ;rw[Zug _ _ (by unfold maxLen;omega),oT,o8];by_cases h0:vj aw Tl>0
 .rw[aFa h0,aFa h0,Gh,Oj];refine qi (λ_ e g _=>?_) (λ_=>rfl);dsimp only;exact ZFf (hl.drop e) aw hg
 .rw[aE_ h0,aE_ h0,Pr.pP];exact ZFf hl aw hg
def MS(n:pn):Nat->S5 (S5 a_)->Pr Unit|_,[]=>.ret ()|i,rF :: r=>(if 0<(sy rF n Tl).length then Dj (i:Int) rF (sy rF n Tm)else .ret ()).bind λ_=>MS n (i+1) r
theorem ZRD(a b:S5 a_)(n:pn)(t:Bool):sy (a++b) n t=sy a n t++sy b n t:=by unfold sy;rw[List.filter_append]
theorem ZBg(a:S5 a_)(n:pn):(sy a n Tl).length+(sy a n Tm).length=S7 a:=by
 unfold sy;induction a with
 |nil=>rfl
 |cons x a ih=>
  grind
def NL(c:p5)(x:pD):Pr oZ:=EB.bind λl=>if(uA l ⟨x.g_,x.qz⟩ c.qc).2=0 then(Bp c.e_.toNat 0 []).bind λall=>(yR ⟨3,0,0⟩ ⟨0,wT,(uA l ⟨x.g_,x.qz⟩ c.qc).1,[]⟩ Tm).bind λ_=>(MS x.g_ 0 all).bind λ_=>(HZ (sy all.flatten x.g_ Tl)).bind λ_=>.ret ⟨0,sd,((sy all.flatten x.g_ Tl).length:Int),0,[]⟩else .ret (wV (uA l ⟨x.g_,x.qz⟩ c.qc).2)
def CC(c:p5)(x:pD):Pr oZ:=if x.qz<=x.pE then(pV 8 0 Tl).bind λ_=>.ret (wV 3)else(pV 1 0 Tm).bind λ_=>(pV 1 1 Tm).bind λ_=>(Oi c.e_).bind λ_=>(NL c x).bind λr=>(Gm c.e_ Tl).bind λ_=>(pV 3 1 Tm).bind λ_=>(pV 3 0 Tm).bind λ_=>.ret r
theorem ZOY{c:p5}{x:pD}(hx:x.ok)(all:S5 (S5 a_))(bH:S7 all<=1000)(qb:∀p∈all.flatten,p.c_.b_.ok)(lp:S7 all.flatten<=800)(b4:oZ):∀(k i fu:Nat)(l:S5 oM),Gl l->S7 all-i=k->i<=S7 all->k+1<=fu ->
  Mm fu all (S7 all:Int) (i:Int) (sy (all.take i).flatten x.g_ Tl) ⟨l⟩ ⟨c,x⟩ b4=runT ((MS x.g_ i (all.drop i)).bind λ_=>(HZ (sy all.flatten x.g_ Tl)).bind λ_=>.ret (⟨0,sd,((sy all.flatten x.g_ Tl).length:Int),0,[]⟩ : oZ)) l:=by
 intro k;induction k with
 |zero=>
  intro i fu l hl e hi g;obtain⟨fu,rfl⟩:=sC fu;have hb:=ZBg all.flatten x.g_;unfold Mm;rw[o8,pO,List.take_of_length_le (by omega),Y_ (by omega),ZXq hl _ (by omega)];exact qi (λ_ _ _ _=>rfl) (λ_=>rfl)
 |succ k ih=>
  intro i fu l hl e hi g;obtain⟨fu,rfl⟩:=sC fu;have qI:i<S7 all:=by omega
  have cA:all.getD i []∈all:=wy all [] i qI;have cG:∀p∈all.getD i [],p∈all.flatten:=λp hp=>aE8.2 ⟨_,cA,hp⟩;have h:=xZ all [] i qI;have dB:all.take (i+1)=all.take i++[all.getD i []]:=by simp_all
  have o:all.flatten=(all.take (i+1)).flatten++(all.drop (i+1)).flatten:=by rw[<-Z0,WE]
  have hle:(all.take i).flatten.length+(all.getD i []).length<=800:=by
   grind
  have t:=ZBg (all.take i).flatten x.g_;have u:=ZBg (all.getD i []) x.g_;have d:n_ (i:Int) 1=((i+1:Nat):Int):=pY (n:=i+1) (by omega) (by simp only[maxLen];omega);have gJ:sy (all.take i).flatten x.g_ Tl++sy (all.getD i []) x.g_ Tl=sy (all.take (i+1)).flatten x.g_ Tl:=by
   rw[dB,Z0,ZRD];simp
  unfold Mm;rw[o8,p7,o9 ⟨by omega,by omega⟩];simp only[YO];rw[ZBH _ _ hx.2.2.1.1 (by omega) (λp hp=>qb p (cG p hp)),oT,o8,h];simp only[MS];by_cases h0:0<(sy (all.getD i []) x.g_ Tl).length
  .rw[p7,aFa h0,JB _ _ _ _,Pr.bind_assoc];refine qi (λ_ a ha _=>?_) (λ_=>rfl);dsimp only;rw[o9 ⟨by grind,by rw[TL];unfold maxLen;omega⟩,d,gJ];exact ih (i+1) fu _ (hl.drop a) (by omega) (by omega) (by omega)
  .have j:sy (all.getD i []) x.g_ Tl=[]:=ZN (by omega);rw[j,Zz]at gJ;rw[pO,aE_ h0,Pr.bind_assoc,Pr.pP,d,gJ]
   grind
section
variable {c:p5} {x:pD} (hx:x.ok) (bN:0<=c.e_) (hs:c.e_<=1000) {l:S5 oM} (hl:Gl l)
include hx bN hs hl
theorem ZXp:ZnS ⟨c,x⟩ ⟨l⟩=runT (NL c x) l:=by
 have js:(⟨x.g_,x.qz⟩ : oD).ok:=⟨hx.2.2.1,hx.2.2.2.2.1,trivial⟩;unfold ZnS;rw[RL];refine qi (λb a _ h=>?_) (λ_=>rfl);have j:=ZBj h hl;dsimp only;rw[ZQP _ _ _ (by omega) js,oT];by_cases h0:(uA b ⟨x.g_,x.qz⟩ c.qc).2=0
 .have g:((uA b ⟨x.g_,x.qz⟩ c.qc).2 != 0)=Tm:=by rw[h0];rfl
  rw[aFa h0,g,aFb,ZDZ c x bN hs _ (hl.drop a).len];refine qi (λall d _ t=>?_) (λ_=>rfl);obtain⟨f1,f2,f3⟩:=OQ _ _ _ _ _ _ t;have hlen:=(hl.drop a).len;simp only[XB,Z8,TX]at f1 f2;have e:G_=S8 ⟨3,0,0⟩:=rfl;dsimp only;rw[e,oT,EW];refine qi (p:=yR ⟨3,0,0⟩ ⟨0,wT,(uA b ⟨x.g_,x.qz⟩ c.qc).1,[]⟩ Tm) (λ_ e u _=>?_) (λ_=>rfl);dsimp only;have o:=ZOY hx (c:=c) all (by omega) (f3 (λp=>p.c_.b_.ok) (by simp) λv j=>((hl.drop a).val v j).1.2.1.1.1) (by omega) ⟨0,sd,0,0,[]⟩ all.length 0 ((((S7 all:Nat):Int)-(0:Int)).toNat+2) _ (((hl.drop a).drop d).drop e) (by omega) (by omega) (by omega);rw[List.take_zero,YZ]at o;exact o
 .have g:((uA b ⟨x.g_,x.qz⟩ c.qc).2 != 0)=Tl:=by simp_all
  rw[aE_ h0,g,aFc];rfl
theorem am1:ZoW ⟨c,x⟩ ⟨l⟩=runT (CC c x) l:=by
 unfold ZoW CC;rw[o8];by_cases h0:x.qz<=x.pE
 .rw[aFa h0,aFa h0,Rp];exact qi (λ_ _ _ _=>rfl) (λ_=>rfl)
 .rw[aE_ h0,aE_ h0,BW];refine qi (λ_ a _ _=>?_) (λ_=>rfl);dsimp only;rw[BW];refine qi (λ_ b _ _=>?_) (λ_=>rfl);dsimp only;rw[Sq];refine qi (λ_ d _ _=>?_) (λ_=>rfl);dsimp only;rw[ZXp hx bN hs (((hl.drop a).drop b).drop d)];refine qi (λ_ _ _ _=>?_) (λ_=>rfl);dsimp only;rw[Sp];refine qi (λ_ _ _ _=>?_) (λ_=>rfl);dsimp only;rw[wz];refine qi (λ_ _ _ _=>?_) (λ_=>rfl);dsimp only;rw[wz];exact qi (λ_ _ _ _=>rfl) (λ_=>rfl)
omit hx bN hs hl in
theorem ZFc(c:p5)(x:pD)(l:S5 oM):ZmK ⟨c,x⟩ ⟨l⟩=runT BA l:=by
 unfold ZmK;rw[Rp];exact qi (λ_ _ _ _=>rfl) (λ_=>rfl)
def KD(c:p5)(x:pD):Pr oZ:=if vn x=Tl then(if x.d_=6 then CC c x else if x.d_=7 then ZPa x else if x.d_=8 then ZGR x else if x.d_=9 then ZYm x else if x.d_=10 then ZZj c else BA)else BA
end
section
variable {c:p5} {x:pD} (hx:x.ok) {m_:S5 oM} (hG:Gl m_) {a:Nat} (ha:a<=S7 m_)
include hx hG ha
theorem ZYh:pL m_ a tX qh (ZPa x) (ZjR x (wk m_ a)):=by
 have _u:=hx;have hL:=hG.len;unfold ZPa EB ZjR;simp only[Pr.bind_assoc,Pr.pP];have bD:∀(q:pU)(v:oM),S7 v.po<=10000->∀K:(S5 oD×Int)->S6 (pz×oZ),(∀r,∃d,K r=S8 (wt m_ q,d))->∃d,((Ziz v.po x.g_).bind K)=S8 (wt m_ q,d)/\qh d:=λq v e K j=>by
  rw[ZIm _ _ e,oT];obtain⟨d,o⟩:=j (Ap v.po x.g_);exact⟨d,o,trivial⟩
 have kk:∀(q:pU)(r:S5 oD×Int),∃d,(bif(r.2==(0:Int))then(vV (wt m_ q) ⟨3,0,0⟩ ⟨0,wT,r.1,[]⟩ Tl).bind λx4=>(qn x4 3 0 (r.2 != (0:Int))).bind λx5=>S8 (x5,(⟨r.2,sd,0,0,[]⟩ : oZ))
   else(qn (wt m_ q) 3 0 (r.2 != (0:Int))).bind λx6=>S8 (x6,(⟨r.2,sd,0,0,[]⟩ : oZ)))=S8 (wt m_ q,d):=λq r=>by
  simp only[Hg,r_,oT];simp_all
 refine pL.qj (vk (by omega) ha _ _ _) (λ_ y _ t _=>?_) (λq=>?_);rotate_left
 .rw[yV,oT];exact bD q rE (by simp[rE]) _ (kk q)
 refine pL.sr (BN (by omega) t _) (λv v' A _ h e=>?_) (λq b hb=>?_);rotate_left
 .rw[hb];exact bD q rE (by simp[rE]) _ (kk q)
 obtain⟨rfl,e⟩:=e;have jX:=hG.val v e;have hdl:=ZWj v.po x.g_;dsimp only;rw[ZIm _ _ (by omega),oT,uo];by_cases h0:(Ap v.po x.g_).2=0
 .have g:((Ap v.po x.g_).2 != 0)=Tm:=by rw[h0];rfl
  rw[aFa h0,aFa h0,g];refine pL.qj (EP (by omega) h _ _ _ ⟨by grind,UK _⟩) (λ_ B _ u _=>?_) (λq=>?_)
  .rw[h0];exact CK hG u _ _ _ _
  .rw[r_];exact⟨_,rfl,trivial⟩
 .have g:((Ap v.po x.g_).2 != 0)=Tl:=by simp_all
  rw[aE_ h0,aE_ h0,g];exact CK hG h _ _ _ _
theorem amD:pL m_ a tX qh (ZYm x) (ZkN x (wk m_ a)):=by
 have _u:=hx;have hL:=hG.len;unfold ZYm EB ZkN;simp only[Pr.bind_assoc,Pr.pP];have bD:∀(q:pU)(K:(S5 oD×Int)->S6 (pz×oZ)),(∀r,∃d,K r=S8 (wt m_ q,d))->∃d,((ZhU rE.po x.pE).bind K)=S8 (wt m_ q,d)/\qh d:=λq K j=>by
  rw[ZIk _ _ (by simp[rE]),oT];obtain⟨d,o⟩:=j (xy rE.po x.pE,((S7 rE.po:Int)-((xy rE.po x.pE).length:Int)));exact⟨d,o,trivial⟩
 have kk:∀(q:pU)(r:S5 oD×Int),∃d,(bif decide (r.2>(0:Int))then(vV (wt m_ q) ⟨3,0,0⟩ ⟨0,wT,r.1,[]⟩ Tl).bind λx4=>(qn x4 3 0 (r.2==(0:Int))).bind λx5=>S8 (x5,(⟨0,sd,r.2,0,[]⟩ : oZ))
   else(qn (wt m_ q) 3 0 (r.2==(0:Int))).bind λx6=>S8 (x6,(⟨0,sd,r.2,0,[]⟩ : oZ)))=S8 (wt m_ q,d):=λq r=>by
  simp only[Hg,r_,oT];simp_all
 refine pL.qj (vk (by omega) ha _ _ _) (λ_ y _ t _=>?_) (λq=>?_);rotate_left
 .rw[yV,oT];exact bD q _ (kk q)
 refine pL.sr (BN (by omega) t _) (λv v' A _ h e=>?_) (λq b hb=>?_);rotate_left
 .rw[hb];exact bD q _ (kk q)
 obtain⟨rfl,e⟩:=e;have jX:=hG.val v e;have jT:=ZDV v.po x.pE;dsimp only;rw[ZIk _ _ (by omega),oT,o8];dsimp only;generalize xy v.po x.pE=sw at jT;by_cases h0:(S7 v.po:Int)-(S7 sw:Int)>0
 .have g:((S7 v.po:Int)-(S7 sw:Int)==0)=Tm:=beq_false_of_ne (by omega);rw[aFa h0,aFa h0,g];refine pL.qj (EP (by omega) h _ _ _ ⟨by grind,UK _⟩) (λ_ B _ u _=>?_) (λq=>?_)
  .exact CK hG u _ _ _ _
  .rw[r_];exact⟨_,rfl,trivial⟩
 .have g:((S7 v.po:Int)-(S7 sw:Int)==0)=Tl:=by rw[aFv];omega
  rw[aE_ h0,aE_ h0,g];exact CK hG h _ _ _ _
theorem ZTs:pL m_ a tX qh (ZGR x) ((qn (wk m_ a) 2 0 Tm).bind λx7=>(wR x7 ⟨3,0,0⟩).bind λx8=>(qn x8.1 4 0 Tl).bind λx9=>(GA x8.2.po x.c_.b_ x.pE).bind λdq=>S8 (x9,(⟨0,sd,0,dq,[]⟩ : oZ))):=by
 have hL:=hG.len;unfold ZGR EB;simp only[Pr.bind_assoc,Pr.pP];have bD:∀(q:pU),∃d,((qn (wt m_ q) 4 0 Tl).bind λx9=>(GA rE.po x.c_.b_ x.pE).bind λdq=>S8 (x9,(⟨0,sd,0,dq,[]⟩ : oZ)))=S8 (wt m_ q,d)/\qh d:=λq=>by
  rw[r_,oT,(JG rE.po x.c_.b_ x.pE (by simp[rE,maxLen]) (by simp[rE]) hx.2.1.1).2];exact⟨_,rfl,trivial⟩
 refine pL.qj (vk (by omega) ha _ _ _) (λ_ o _ g _=>?_) (λq=>?_);rotate_left
 .rw[yV,oT];exact bD q
 refine pL.sr (BN (by omega) g _) (λv v' t _ h e=>?_) (λq b hb=>?_);rotate_left
 .rw[hb];exact bD q
 obtain⟨rfl,e⟩:=e;have jX:=hG.val v e;have j:=(JG v.po x.c_.b_ x.pE (by unfold maxLen;omega) jX.1.2.2.1.2 hx.2.1.1).2;simp only[j,oT];exact CK hG h _ _ _ _
omit hx in
theorem ZTr(c:p5)(v:oZ):pL m_ a tX qh ((Gm c.e_ Tl).bind λ_=>(pV 3 1 Tm).bind λ_=>(pV 3 0 Tm).bind λ_=>.ret v) ((Mk c (wk m_ a)).bind λy=>S8 (y,v)):=by
 have hL:=hG.len;unfold Mk;simp only[Option.bind_assoc,oT];refine pL.qj (Zzw (by omega) ha _ _) (λ_ g h d _=>?_) (λq=>?_)
 .refine pL.qj (vk (by omega) d _ _ _) (λ_ j o e _=>?_) (λq=>?_)
  .exact CK hG e _ _ _ _
  .simp only[r_,oT];exact⟨_,rfl,trivial⟩
 .simp only[r_,oT];exact⟨_,rfl,trivial⟩
omit hx ha in
theorem ZDT(c:p5)(q:pU):Mk c (wt m_ q)=S8 (wt m_ q):=by
 have hL:=hG.len;unfold Mk;simp only[OZ m_ (by omega),r_,oT]
end
section
variable {c:p5} {x:pD} (hx:x.ok) (bN:0<=c.e_) (hs:c.e_<=1000) {m_:S5 oM} (hG:Gl m_) {a:Nat} (ha:a<=S7 m_)
include bN hs hG ha
theorem amC:pL m_ a tX qh (ZZj c) (ZkO c (wk m_ a)):=by
 have hL:=hG.len;have eR:S7 m_<=1000000:=by omega
 have wA:=λq=>ZDt (m_:=m_) bN hs q;have dI:∀(q:pU)(ls:S5 (S5 a_))(nb nv:Int),DZ ls->∃d,((AF (wt m_ q) c.e_ Tl).bind λx7=>(qn x7 3 1 Tm).bind λx8=>(qn x8 4 0 Tm).bind λdq=>
   (HC ls).bind λfZ=>(Mv fZ).bind λeN=>S8 (dq,(⟨0,sd,nb,nv,eN⟩ : oZ)))=S8 (wt m_ q,d)/\qh d:=λq ls nb nv h=>by
  simp only[OZ m_ eR,r_,oT,Jy ls h.1 h.2,Zws _ h.2];exact⟨_,rfl,trivial⟩
 have bD:∀(q:pU)(ls:S5 (S5 a_))(nb nv:Int),DZ ls->∃d,((qn (wt m_ q) 3 1 Tm).bind λx8=>(qn x8 4 0 Tm).bind λdq=>
   (HC ls).bind λfZ=>(Mv fZ).bind λeN=>S8 (dq,(⟨0,sd,nb,nv,eN⟩ : oZ)))=S8 (wt m_ q,d)/\qh d:=λq ls nb nv h=>by
  simp only[r_,oT,Jy ls h.1 h.2,Zws _ h.2];exact⟨_,rfl,trivial⟩
 unfold ZZj EB ZkO;simp only[Pr.bind_assoc,Pr.pP];refine pL.qj (vk (by omega) ha _ _ _) (λ_ D _ g _=>?_) (λq=>?_);rotate_left
 .obtain⟨ls,cV,dL⟩:=wA q;simp only[r_,LG m_ eR,yV,oT,cV];exact dI q ls _ _ dL
 refine pL.qj (vk (by omega) g _ _ _) (λ_ F _ j _=>?_) (λq=>?_);rotate_left
 .obtain⟨ls,cV,dL⟩:=wA q;simp only[LG m_ eR,yV,oT,cV];exact dI q ls _ _ dL
 refine pL.qj (Zzv (by omega) j _) (λ_ G _ o _=>?_) (λq=>?_);rotate_left
 .obtain⟨ls,cV,dL⟩:=wA q;simp only[yV,oT,cV];exact dI q ls _ _ dL
 refine pL.sr (BN (by omega) o _) (λb b' H _ t hb=>?_) (λq b _=>?_);rotate_left
 .obtain⟨ls,cV,dL⟩:=wA q;simp only[yV,oT,cV];exact dI q ls _ _ dL
 obtain⟨rfl,hb⟩:=hb;refine pL.sr (BN (by omega) t _) (λv v' I _ u e=>?_) (λq v _=>?_);rotate_left
 .obtain⟨ls,cV,dL⟩:=wA q;simp only[oT,cV];exact dI q ls _ _ dL
 obtain⟨rfl,e⟩:=e;refine pL.sr (ZXs bN hs hG u) (λw ls J _ h6 y=>?_) (λq ls dL=>dI q ls _ _ dL);obtain⟨rfl,fU,fW,lW⟩:=y;have dL:DZ w:=⟨fU,by omega⟩;refine pL.qj (Zzw (by omega) h6 _ _) (λ_ L _ A _=>?_) (λq=>bD q w _ _ dL);refine pL.qj (vk (by omega) A _ _ _) (λ_ M _ B _=>?_) (λq=>?_)
 .have:=CK hG B (4:Int) 0 Tm (⟨0,sd,((S7 b.po:Nat):Int),((S7 v.j_:Nat):Int),s7 w.flatten⟩ : oZ);rw[Jy w dL.1 dL.2];simp only[oT,Zws _ dL.2];exact this
 .simp only[r_,oT,Jy w dL.1 dL.2,Zws _ dL.2];exact⟨_,rfl,trivial⟩
end
section
variable {c:p5} {x:pD} (hx:x.ok) {m_:S5 oM} (hG:Gl m_) (all:S5 (S5 a_)) (bH:S7 all<=1000) (qb : ∀ p ∈ all.flatten,p.c_.b_.ok) (lp:S7 all.flatten<=800)
include hx hG bH qb lp
omit hG in
theorem acG(i:Nat)(qI:i<S7 all):Gz (all.getD i []) x.g_ Tm=S8 (sy (all.getD i []) x.g_ Tm)/\(all.getD i []).length<=800:=by
 have _u:=bH;have cA:all.getD i []∈all:=wy all [] i qI;have cG:∀p∈all.getD i [],p∈all.flatten:=λp hp=>aE8.2 ⟨_,cA,hp⟩;have hle:(all.getD i []).length<=S7 all.flatten:=(List.sublist_flatten_of_mem cA).length_le;exact⟨Ry _ _ _ hx.2.2.1.1 (by omega) λp hp=>qb p (cG p hp),by omega⟩
theorem ZAx(q:pU)(b6:pz)(b7:oZ):∀(k i fu:Nat),S7 all-i=k->i<=S7 all->k+1<=fu->∃d,GD fu (i:Int) all c x (wt m_ q) b6 b7=S8 (wt m_ q,d):=by
 have gK:(sy all.flatten x.g_ Tl).length<=400000:=by have:=Og all.flatten x.g_ Tl;omega
 intro k;induction k with
 |zero=>
  intro i fu e hi g;obtain⟨fu,rfl⟩:=sC fu;unfold GD;rw[o8,pO,Jy all bH,oT,Ry _ _ _ hx.2.2.1.1 (by omega) qb,oT,ZzI q _ gK,oT,ZDT hG,oT];exact⟨_,rfl⟩
 |succ k ih=>
  intro i fu e hi g;obtain⟨fu,rfl⟩:=sC fu;obtain⟨p1,p2⟩:=acG hx all bH qb lp i (by omega);have p3:=Og (all.getD i []) x.g_ Tm;have h:n_ (i:Int) 1=((i+1:Nat):Int):=pY (n:=i+1) (by omega) (by simp only[maxLen];omega);unfold GD;rw[o8,p7,o9 ⟨by omega,by omega⟩];simp only[YO,p1,oT,h,ZwO m_ q (i:Int) (all.getD i []) (sy (all.getD i []) x.g_ Tm)]
  grind
theorem ZTt(b6:pz)(b7:oZ):∀(k i fu a:Nat),S7 all-i=k->i<=S7 all->k+1<=fu->a<=S7 m_ ->
  pL m_ a tX qh ((MS x.g_ i (all.drop i)).bind λ_=>(HZ (sy all.flatten x.g_ Tl)).bind λ_=>(Gm c.e_ Tl).bind λ_=>(pV 3 1 Tm).bind λ_=>(pV 3 0 Tm).bind λ_=>.ret (⟨0,sd,((sy all.flatten x.g_ Tl).length:Int),0,[]⟩ : oZ))
   (GD fu (i:Int) all c x (wk m_ a) b6 b7):=by
 have hL:=hG.len;have gK:(sy all.flatten x.g_ Tl).length<=400000:=by have:=Og all.flatten x.g_ Tl;omega
 intro k;induction k with
 |zero=>
  intro i fu a g hi h ha;obtain⟨fu,rfl⟩:=sC fu;unfold GD;rw[o8,pO,Jy all bH,oT,Ry _ _ _ hx.2.2.1.1 (by omega) qb,oT,Y_ (by omega)];simp only[MS,Pr.pP];refine pL.qj (ZUi hG.gd ha _ gK) (λ_ j _ e _=>?_) (λq=>?_)
  .exact ZTr hG e c _
  .rw[ZDT hG,oT];exact⟨_,rfl,trivial⟩
 |succ k ih=>
  intro i fu a g hi h ha;obtain⟨fu,rfl⟩:=sC fu;obtain⟨p1,p2⟩:=acG hx all bH qb lp i (by omega);have p3:=Og (all.getD i []) x.g_ Tm;have p4:=ZBg (all.getD i []) x.g_;have o:n_ (i:Int) 1=((i+1:Nat):Int):=pY (n:=i+1) (by omega) (by simp only[maxLen];omega);unfold GD;rw[o8,p7,o9 ⟨by omega,by omega⟩,xZ all [] i];simp only[YO,p1,oT,o,MS,Pr.bind_assoc];rw[o8];by_cases h0:0<(sy (all.getD i []) x.g_ Tl).length
  .rw[aFa h0,p7];refine pL.qj (G0 (by omega) ha _ _ _ (by omega)) (λ_ j _ e _=>?_) (λq=>?_)
   .grind
   .obtain⟨d,t⟩:=ZAx hx hG all bH qb lp q b6 b7 k (i+1) fu (by omega) (by omega) (by omega);exact⟨d,t,trivial⟩
  .rw[aE_ h0,pO,Pr.pP]
   grind
end
section
variable {c:p5} {x:pD} (hx:x.ok) (bN:0<=c.e_) (hs:c.e_<=1000) {m_:S5 oM} (hG:Gl m_) {a:Nat} (ha:a<=S7 m_)
include hx bN hs hG ha
theorem al4:pL m_ a tX qh (CC c x) (ZlI c x (wk m_ a)):=by
 have hL:=hG.len;have eR:S7 m_<=1000000:=by omega
 have js:(⟨x.g_,x.qz⟩ : oD).ok:=⟨hx.2.2.1,hx.2.2.2.2.1,trivial⟩;unfold CC ZlI;rw[o8];by_cases e:x.qz<=x.pE
 .rw[aFa e,aFa e];exact CK hG ha _ _ _ _
 rw[aE_ e,aE_ e];unfold NL EB;simp only[Pr.bind_assoc,Pr.pP];refine pL.qj (vk (by omega) ha _ _ _) (λ_ F _ o _=>?_) (λq=>?_);rotate_left
 .simp only[r_,LG m_ eR,yV,oT,wv,aFc];exact⟨_,rfl,trivial⟩
 refine pL.qj (vk (by omega) o _ _ _) (λ_ G _ t _=>?_) (λq=>?_);rotate_left
 .simp only[LG m_ eR,yV,oT,wv,aFc];exact⟨_,rfl,trivial⟩
 refine pL.qj (Zzv (by omega) t _) (λ_ H _ u _=>?_) (λq=>?_);rotate_left
 .simp only[yV,oT,wv,aFc];exact⟨_,rfl,trivial⟩
 refine pL.sr (BN (by omega) u _) (λv v' I _ j g=>?_) (λq b _=>?_);rotate_left
 .simp only[wv,aFc];exact⟨_,rfl,trivial⟩
 obtain⟨rfl,g⟩:=g;have jX:=hG.val v g;have iJ:=ZQU v.po ⟨x.g_,x.qz⟩ c.qc;simp only[yK,aFb];rw[ZFD _ _ _ (by omega) js,oT];generalize uA v.po ⟨x.g_,x.qz⟩ c.qc=ad at iJ ⊢;by_cases h0:ad.2=0;rotate_left
 .have h:(ad.2 != 0)=Tl:=by simp_all
  rw[aE_ h0,h,aFc,Pr.pP];exact ZTr hG j c _
 have h:(ad.2 != 0)=Tm:=by rw[h0];rfl
 rw[aFa h0,h,aFb];simp only[Pr.bind_assoc,Pr.pP];refine pL.sr (ZXs bN hs hG j) (λw ls J _ y A=>?_) (λq ls _=>?_);rotate_left
 .simp only[wv,aFc];exact⟨_,rfl,trivial⟩
 obtain⟨rfl,fU,fW,lW⟩:=A;have qb:∀p∈w.flatten,p.c_.b_.ok:=λp hp=>(lW p hp).1.1;simp only[yK,aFb];refine pL.qj (EP (by omega) y _ _ _ ⟨by grind,UK _⟩) (λ_ B _ h6 _=>?_) (λq=>?_)
 .exact ZTt hx hG w fU qb fW _ _ w.length 0 _ B (by omega) (by omega) (by omega) h6
 .obtain⟨d,D⟩:=ZAx hx hG w fU qb fW q _ _ w.length 0 ((((S7 w:Nat):Int)-(0:Int)).toNat+2) (by omega) (by omega) (by omega);exact⟨d,D,trivial⟩
end
section
variable {c:p5} {x:pD} (hx:x.ok) (bN:0<=c.e_) (hs:c.e_<=1000) {m_:S5 oM} (hG:Gl m_)
include hx bN hs hG
theorem am':pL m_ 0 tX qh (KD c x) (Kf c x m_):=by
 have bw:pL m_ 0 tX qh BA ((qn (wk m_ 0) (8:Int) (0:Int) Tl).bind λx2=>S8 (x2,wV 1)):=CK hG (UK _) _ _ _ _;have cH:∀r:S6 (pz×oZ),(r.bind λy=>S8 (y.1,y.2))=r:=λr=>by cases r<;>rfl
 unfold KD Kf;rw[Zul x hx,oT];cases vn x with
 |false=>
  rw[YT,aFc,aE_ (by decide)];exact bw
 |true=>
  rw[YP,aFb,aFa rfl,o8,o8,uo,uo,uo,uo];by_cases zC:x.d_<6
  .rw[aFa zC,pO,pO,pO,pO,pO];exact bw
  rw[aE_ zC];by_cases zD:x.d_>10
  .rw[aFa zD,pO,pO,pO,pO,pO];exact bw
  rw[aE_ zD];by_cases h6:x.d_=6
  .rw[aFa h6,aFa h6,cH];exact al4 hx bN hs hG (UK _)
  rw[aE_ h6,aE_ h6];by_cases d:x.d_=7
  .rw[aFa d,aFa d,cH];exact ZYh hx hG (UK _)
  rw[aE_ d,aE_ d];by_cases e:x.d_=8
  .rw[aFa e,aFa e];exact ZTs hx hG (UK _)
  rw[aE_ e,aE_ e];by_cases g:x.d_=9
  .rw[aFa g,aFa g,cH];exact amD hx hG (UK _)
  rw[aE_ g,aE_ g,aFa (show x.d_=10 by omega),cH];exact amC bN hs hG (UK _)
end
theorem ZRk{n:Nat}(h:n<=1000000):n<=maxLen:=by simp only[maxLen];omega
theorem ZHM{a:Int}(h : -1000000000000000000<=a:=by omega)(h':a<=1000000000000000000:=by omega):TZ.wrap a=a:=by
 simp only[US,UB,Ut];simp;omega
abbrev tY:=qd
def sL(a b:tY):Int:=xm (sK a.yp b.yp) (qK a.c_ b.c_)
theorem ZSd(a b:tY):Zsx a b=S8 (sL a b):=by
 simp only[Zsx,K7,Rs,N_,Xt,sL]
theorem ZEH(a b:tY):Zsy a b=S8 (decide (sL a b<0)):=by
 simp only[Zsy,ZSd,Xt]
theorem ZWz{a b:tY}:sL a b<0↔a.yp<b.yp\/(a.yp=b.yp/\qK a.c_ b.c_<0):=by simp only[sL,QY,Q3,EX]
theorem ZCZ{a b:tY}:0<sL a b↔sL b a<0:=by
 simp only[sL,QY,QX,Q3,Q2,EX,Eh];omega
theorem ZCY{a b:tY}:sL a b=0↔a=b:=by
 simp only[sL,ZBf,EX,JC];obtain⟨x,p⟩:=a;obtain⟨y,q⟩:=b;simp
theorem ZEV{a b c:tY}(d:sL a b<0)(e:sL b c<0):sL a c<0:=by
 rw[ZWz]at *
 rcases d with d|⟨d,g⟩<;>rcases e with e|⟨e,h⟩
 .exact .inl (by omega)
 .exact .inl (by omega)
 .exact .inl (by omega)
 .exact .inr ⟨by omega,OE g h⟩
def xT(a b:tY):Prop:=¬sL b a<0
theorem RJ(a:tY):xT a a:=by unfold xT;rw[ZCY.2 rfl];omega
theorem ZCv{a b:tY}(h:sL a b<0):xT a b:=by
 unfold xT;intro d;have:=ZCZ.2 d;omega
theorem ZCu{a b c:tY}(e:xT a b)(d:xT b c):xT a c:=by
 unfold xT at *
 intro h;have g:sL a b<=0:=by
  by_cases q:0<sL a b
  .exact aFe (ZCZ.1 q) e
  .omega
 by_cases q:sL a b=0
 .have:=ZCY.1 q;subst this;exact d h
 .exact d (ZEV h (by omega))
theorem ZyB{a b:tY}(h:¬sL a b<0):xT b a:=h
abbrev uG(h:S5 tY)(i:Nat):tY:=h.getD i qd.d
def HF(lo:Nat)(h:S5 tY):Prop:=∀k,0<k->k<S7 h->lo<=(k-1) / 2->xT (uG h ((k-1) / 2)) (uG h k)
structure HB (lo i:Nat) (h:List tY):Prop where
 ge:lo<=i
 up:∀k,0<k->k<S7 h->lo<=(k-1) / 2->(k-1) / 2≠i->xT (uG h ((k-1) / 2)) (uG h k)
 over:∀k,0<k->k<S7 h->(k-1) / 2=i->0<i->lo<=(i-1) / 2->xT (uG h ((i-1) / 2)) (uG h k)
def H3(h:S5 tY)(i b:Nat):Nat:=if 2*i+2<S7 h/\sL (uG h (2*i+2)) (uG h b)<0 then 2*i+2 else b
def yc(h:S5 tY)(i:Nat):Nat:=H3 h i (if 2*i+1<S7 h/\sL (uG h (2*i+1)) (uG h i)<0 then 2*i+1 else i)
theorem ZLc(h:S5 tY)(i:Nat)(e:¬2*i+1<S7 h):yc h i=i:=by
 unfold yc H3
 grind
theorem ZDj(h:S5 tY)(i:Nat)(hi:i<S7 h):(yc h i=i\/(yc h i=2*i+1\/yc h i=2*i+2)/\yc h i<S7 h/\sL (uG h (yc h i)) (uG h i)<0)/\yc h i<S7 h /\
  ∀k,k<S7 h->0<k->(k-1) / 2=i->xT (uG h (yc h i)) (uG h k):=by
 have u:∀k,0<k->(k-1) / 2=i->k=2*i+1\/k=2*i+2:=by intro k g j;omega
 unfold yc H3;by_cases o:2*i+1<S7 h/\sL (uG h (2*i+1)) (uG h i)<0
 .rw[aFa o];by_cases d:2*i+2<S7 h/\sL (uG h (2*i+2)) (uG h (2*i+1))<0
  .rw[aFa d];refine⟨.inr ⟨.inr rfl,d.1,ZEV d.2 o.2⟩,d.1,λk g j t=>?_⟩;rcases u k j t with e|e
   .subst e;exact ZCv d.2
   .subst e;exact RJ _
  .rw[aE_ d];refine⟨.inr ⟨.inl rfl,o.1,o.2⟩,o.1,λk g j t=>?_⟩;rcases u k j t with e|e
   .subst e;exact RJ _
   .subst e;exact ZyB λq=>d ⟨g,q⟩
 .rw[aE_ o];by_cases d:2*i+2<S7 h/\sL (uG h (2*i+2)) (uG h i)<0
  .rw[aFa d];refine⟨.inr ⟨.inr rfl,d.1,d.2⟩,d.1,λk g j t=>?_⟩;rcases u k j t with e|e
   .subst e;exact ZCu (ZCv d.2) (ZyB λq=>o ⟨g,q⟩)
   .subst e;exact RJ _
  .rw[aE_ d];refine⟨.inl rfl,hi,λk g j t=>?_⟩;rcases u k j t with e|e
   .subst e;exact ZyB λq=>o ⟨g,q⟩
   .subst e;exact ZyB λq=>d ⟨g,q⟩
def EF(h:S5 tY)(i b:Nat):S5 tY:=(h.set i (uG h b)).set b (uG h i)
theorem RQ(h:S5 tY)(i b:Nat):(EF h i b).length=S7 h:=by simp[EF]
theorem Zye(h:S5 tY)(i b k:Nat)(hi:i<S7 h)(hb:b<S7 h):uG (EF h i b) k=if k=b then uG h i else if k=i then uG h b else uG h k:=by
 simp only[uG,EF,List.getD_eq_getElem?_getD,List.getElem?_set,List.length_set]
 grind
theorem ZRh(h:S5 tY)(i b:Nat)(hi:i<S7 h)(hb:b<S7 h):(EF h i b).Perm h:=by
 rw[List.perm_iff_count];intro a;unfold EF
 grind
variable{lo:Nat}
theorem HB.step{h:S5 tY}(H:HB lo i h)(hi:i<S7 h)(qN:yc h i≠i):HB lo (yc h i) (EF h i (yc h i)):=by
 obtain⟨c,hb,hm⟩:=ZDj h i hi;generalize hbe:yc h i=b at *
 rcases c with c|⟨c,_,qI⟩
 .exact aFe c qN
 have lq:(b-1) / 2=i:=by omega
 have hib:i<b:=by omega
 refine⟨by have:=H.ge;omega,λk g d j t=>?_,λk g d j t u=>?_⟩
 .rw[RQ]at d;rw[Zye h i b _ hi hb,Zye h i b _ hi hb,aE_ t];by_cases o:(k-1) / 2=i
  .rw[aFa o];by_cases e:k=b
   .rw[aFa e];exact ZCv qI
   grind
  .rw[aE_ o,aE_ (by omega:k≠b)];by_cases e:k=i
   .rw[aFa e];subst e;exact H.over b (by omega) hb lq g j
   .rw[aE_ e];exact H.up k g d j o
 .rw[RQ]at d;rw[Zye h i b _ hi hb,Zye h i b _ hi hb,pO,aFa lq,pO,pO];have:=H.up k g d (by have:=H.ge;omega) (by omega);simp_all
theorem HB.done{h:S5 tY}(H:HB lo i h)(hi:i<S7 h)(o:yc h i=i):HF lo h:=by
 obtain⟨c,hb,hm⟩:=ZDj h i hi;intro k d g j;by_cases e:(k-1) / 2=i
 .simp_all
 .exact H.up k d g j e
theorem NC(h:i<=1000000:=by omega):u6 (2:Int) (i:Int)=((2*i:Nat):Int):=by
 simp only[u6];rw[show (2:Int)*(i:Int)=((2*i:Nat):Int)by omega];exact ZHM
theorem FP(h:i<=3000000)(d:k<=2):n_ (i:Int) (k:Int)=((i+k:Nat):Int):=by rw[s_ (by omega) (by omega)];omega
theorem alR(i:Nat)(h:S5 tY)(hi:i<S7 h)(hl:S7 h<=1000000)(kk:Int->S5 tY->S6 (S5 tY))(fu:Nat)(g:3<=fu) :
  E9 (i:Int) kk fu (i:Int) ((2*i+1:Nat):Int) h=if yc h i=i then S8 h else kk ((yc h i:Nat):Int) (EF h i (yc h i)):=by
 obtain⟨fu,rfl⟩ : ∃n,fu=n+3:=⟨fu-3,by omega⟩;have two:n_ (u6 (2:Int) (i:Int)) (2:Int)=((2*i+2:Nat):Int):=by rw[NC];exact FP (k:=2) (by omega) (by omega)
 have ends:∀b:Nat,b<S7 h->(bif((b:Int)==(i:Int))then S8 h else f_ (0<=(b:Int)/\(b:Int)<((S7 h:Nat):Int))<|f_ (0<=(i:Int)/\(i:Int)<((S7 h:Nat):Int))<|kk (b:Int) ((h.set (i:Int).toNat (h.getD (b:Int).toNat qd.d)).set (b:Int).toNat (h.getD (i:Int).toNat qd.d))) =
   if b=i then S8 h else kk ((b:Nat):Int) (EF h i b):=by
  intro b hb;by_cases e:b=i
  .subst e;simp
  .rw[show ((b:Int)==(i:Int))=Tm by grind,aFb,o9 ⟨by omega,by omega⟩,o9 ⟨by omega,by omega⟩,aE_ e];rfl
 -- the dK one below,or none
 have dK:∀(b fu:Nat),b<S7 h->E9 (i:Int) kk (fu+2) (b:Int) ((2*i+2:Nat):Int) h=if H3 h i b=i then S8 h else kk ((H3 h i b:Nat):Int) (EF h i (H3 h i b)):=by
  intro b fu hb;have iL:∀c:Nat,c<S7 h->E9 (i:Int) kk (fu+1) (c:Int) ((2*i+3:Nat):Int) h=if c=i then S8 h else kk ((c:Nat):Int) (EF h i c):=by
   intro c j;simp only[E9,o8,two];simp_all
  unfold E9;simp only[o8,two];rw[p7];by_cases e:2*i+2<S7 h
  .rw[p7,o9 ⟨by omega,by omega⟩,o9 ⟨by omega,by omega⟩,ZEH];simp only[Xt,YO,o8];rw[show n_ ((2*i+2:Nat):Int) (1:Int)=((2*i+3:Nat):Int)from FP (i:=2*i+2) (k:=1) (by omega) (by omega)];by_cases q:sL (uG h (2*i+2)) (uG h b)<0
   .rw[aFa q,show H3 h i b=2*i+2 from aFa ⟨e,q⟩];exact iL _ e
   .rw[aE_ q,show H3 h i b=b from aE_ (λx=>q x.2)];exact iL _ hb
  .rw[pO,show H3 h i b=b from aE_ (λx=>e x.1)];exact ends b hb
 unfold E9;simp only[o8,two];rw[p7];by_cases e:2*i+1<S7 h
 .rw[p7,o9 ⟨by omega,by omega⟩,o9 ⟨by omega,by omega⟩,ZEH];simp only[Xt,YO,o8];rw[show n_ ((2*i+1:Nat):Int) (1:Int)=((2*i+2:Nat):Int)from FP (i:=2*i+1) (k:=1) (by omega) (by omega)];by_cases q:sL (uG h (2*i+1)) (uG h i)<0
  .rw[aFa q,dK _ fu e];unfold yc;simp_all
  .rw[aE_ q,dK _ fu hi];unfold yc
   grind
 .rw[pO,ends i hi,ZLc h i e]
theorem ZWk:∀fu (lo i:Nat) (h:S5 tY),i<S7 h->S7 h<=1000000->HB lo i h->S7 h-i<fu->∃h',SP fu (i:Int) h=S8 h'/\h'.Perm h/\HF lo h':=by
 intro fu;induction fu with
 |zero=>omega
 |succ fu ih=>
  intro lo i h hi hl H y;simp only[SP];have d:n_ (u6 (2:Int) (i:Int)) (1:Int)=((2*i+1:Nat):Int):=by rw[NC];exact FP (k:=1) (by omega) (by omega)
  obtain⟨c,hb,_⟩:=ZDj h i hi;rw[d];by_cases g:2*i+1<S7 h
  .rw[alR i h hi hl _ _ (by omega)];by_cases e:yc h i=i
   .rw[aFa e];exact⟨h,rfl,Z_ _,H.done hi e⟩
   .rw[aE_ e];obtain⟨h',j,o,t⟩:=ih lo (yc h i) (EF h i (yc h i)) (by rw[RQ];exact hb) (by rw[RQ];exact hl) (H.step hi e) (by rw[RQ];omega);exact⟨h',j,o.trans (ZRh h i _ hi hb),t⟩
  .-- no kids: the fuel is small
   have e:=ZLc h i g;refine⟨h,?_,Z_ _,H.done hi e⟩;have two:n_ (u6 (2:Int) (i:Int)) (2:Int)=((2*i+2:Nat):Int):=by rw[NC];exact FP (k:=2) (by omega) (by omega)
   obtain⟨n,u⟩ : ∃n,((((S7 h:Nat):Int)-((2*i+1:Nat):Int)).toNat+2)=n+1:=⟨_,rfl⟩;rw[u];simp only[E9,o8,two]
   grind
theorem ZJY(lo i:Nat)(h:S5 tY)(hi:i<S7 h)(hl:S7 h<=900000)(H:HB lo i h):∃h',ON h (i:Int)=S8 h'/\h'.Perm h/\HF lo h':=
 ZWk 1000000 lo i h hi (by omega) H (by omega)
theorem amP:ON [] 0=S8 []:=by
 rfl
theorem ZKN(l:S5 tY)(h:S7 l<=1000000:=by omega):Zbw l=S8 l:=by
 unfold Zbw;rw[o9 ⟨by omega,ZRk h⟩]
theorem ZUH:∀fu (i:Nat) (h:S5 tY),i<=S7 h / 2->S7 h<=900000->HF i h->i<fu->∃h',SO fu ((i:Int)-1) h=S8 h'/\h'.Perm h/\HF 0 h':=by
 intro fu;induction fu with
 |zero=>omega
 |succ fu ih=>
  intro i h hi hl H u;simp only[SO,o8];by_cases e:i=0
  .simp_all
  .rw[p7];obtain⟨j,rfl⟩ : ∃j,i=j+1:=⟨i-1,by omega⟩;rw[show ((j+1:Nat):Int)-1=(j:Int)by omega];have HBj:HB j j h:=⟨Tq _,λk d g o t=>H k d g (by omega),λk d g o t y=>by omega⟩;obtain⟨h',d1,d2,d3⟩:=ZJY j j h (by omega) hl HBj;rw[d1];simp only[Xt];rw[show pR (j:Int) (1:Int)=(j:Int)-1 from tq (by omega) (by omega)];obtain⟨h'',m1,m2,m3⟩:=ih j h' (by rw[d2.length_eq];omega) (by rw[d2.length_eq];exact hl) d3 (by omega)
   grind
theorem ac'(n:Nat)(h:n<=1000000):US .i64 (Yc (n:Int) (2:Int))=((n / 2:Nat):Int):=by
 rw[show Yc (n:Int) (2:Int)=((n / 2:Nat):Int)by rfl];exact ZHM
theorem ZJX(l:S5 tY)(hl:S7 l<=900000):∃h,LA l=S8 h/\h.Perm l/\HF 0 h:=by
 simp only[LA,ZKN l,Xt];rw[ac' _ (by omega),show pR ((S7 l / 2:Nat):Int) (1:Int)=((S7 l / 2:Nat):Int)-1 from tq (by omega) (by omega)];exact ZUH _ (S7 l / 2) l (Tq _) hl (λk d e g=>by omega) (by omega)
theorem amV{h:S5 tY}(H:HF 0 h):∀n k,k<=n->k<S7 h->xT (uG h 0) (uG h k):=by
 intro n;induction n with
 |zero=>intro k g d;rw[show k=0 by omega];exact RJ _
 |succ n ih=>
  intro k g d;by_cases e:k=0
  .simp_all
  .exact ZCu (ih ((k-1) / 2) (by omega) (by omega)) (H k (by omega) d (UK _))
theorem ZAG:OG []=S8 (⟨0,⟨⟨Tm,0,0⟩,0⟩⟩,[],Tm):=rfl
theorem ZQm(h:S5 tY)(hl:S7 h<=900000)(H:HF 0 h)(qN:h≠[]):∃x r,OG h=S8 (x,r,Tl)/\h.Perm (x :: r)/\HF 0 r/\∀y∈h,xT x y:=by
 have ip:0<S7 h:=List.length_pos_iff.2 qN;have es:pR ((S7 h:Nat):Int) (1:Int)=((S7 h-1:Nat):Int):=by rw[tq (by omega) (by omega)];omega
 -- the rest ahead of sinking
 have hx:∀(l:S5 tY),(hlp:0<S7 l)->l.Perm (uG l 0 :: (l.set 0 (uG l (S7 l-1))).take (S7 l-1)):=by
  intro l hlp;cases l with
  |nil=>simp at hlp
  |cons a t=>
   simp only[uG,List.getD_cons_zero,Uw,Nat.add_sub_cancel,List.set_cons_zero];rcases t.eq_nil_or_concat with e|⟨t',z,e⟩
   all_goals simp_all
 have uQ:∀y∈h,xT (uG h 0) y:=by
  intro y B;obtain⟨k,o,g⟩:=UZ B;have:=amV H k k (Tq _) o;simp_all
 let r0:=(h.set 0 (uG h (S7 h-1))).take (S7 h-1)
 have jo:S7 r0=S7 h-1:=by simp[r0]
 have D:∃r,ON r0 (0:Int)=S8 r/\r.Perm r0/\HF 0 r:=by
  by_cases e:S7 h=1
  .have:r0=[]:=ZN (by omega);rw[this];exact⟨[],amP,Z_ _,λk _ g=>by simp at g⟩
  .refine ZJY 0 0 r0 (by omega) (by omega) ⟨Tq _,λk o g u F=>?_,λk o g u F=>by omega⟩;have A:∀j,0<j->j<S7 r0->uG r0 j=uG h j:=by
    grind
   rw[A k o g,A _ (by omega) (by omega)];exact H k o (by rw[jo]at g;omega) u
 obtain⟨r,d1,d2,d3⟩:=D;refine⟨uG h 0,r,?_,(hx h ip).trans (aE9 _ d2.symm),d3,uQ⟩;simp only[OG];rw[show (((S7 h:Nat):Int)==(0:Int))=Tm by simp_all,aFb,ZKN h];simp only[Xt,es,YO];rw[o9 ⟨by omega,by omega⟩,o9 ⟨by omega,by omega⟩,o9 ⟨by omega,by omega,by omega⟩,o9 (by simp)];rw[show (h.set ((0:Int).toNat) (h.getD (S7 h-1) qd.d)).take (S7 h-1)=r0 from rfl,d1];simp only[Xt];rw[o9 ⟨by omega,by omega⟩];rfl
def I7(p:a_):Bool:=!p.tL
def I8(e:k_):Bool:=e.ql==2
def Dc(l:S5 a_):S5 pn:=(l.filter I7).map λp=>vf p.c_.b_
def BK(l:S5 k_):S5 pn:=(l.filter I8).map λe=>vf e.c_.b_
theorem ZTC(n:Nat)(h:n<999999):n * 32<=140737488355328/\n<=maxLen:=⟨by omega,by unfold maxLen;omega⟩
theorem ZVD(l:S5 k_):(BK l).length<=S7 l:=by simp only[BK,Vo];grind
theorem ZVC(l:S5 a_):(Dc l).length<=S7 l:=by simp only[Dc,Vo];grind
theorem ZQp(l:S5 k_)(i:Nat)(h:i<S7 l):BK (l.drop i)=(if I8 (l.getD i k_.d)then[vf (l.getD i k_.d).c_.b_]else[])++BK (l.drop (i+1)):=by
 rw[xZ l k_.d i h];unfold BK
 grind
theorem ZQo(l:S5 a_)(i:Nat)(h:i<S7 l):Dc (l.drop i)=(if I7 (l.getD i a_.d)then[vf (l.getD i a_.d).c_.b_]else[])++Dc (l.drop (i+1)):=by
 rw[xZ l a_.d i h];unfold Dc
 grind
theorem ZYn(es:S5 k_)(gL:S7 es<=1000)(qb:∀e∈es,e.ok)(lS:S5 a_)(iI v12:Int)(k:S5 a_->Int->Int->S5 pn->S6 (S5 pn)) :
  ∀fu (i:Nat) (w:S5 pn),i<=S7 es->S7 es-i<fu->S7 w<=1000+i ->
   Pt es lS iI v12 k fu es (S7 es:Int) (i:Int) w=(JX (w++BK (es.drop i))).bind My:=by
 have hm:S7 es<=maxLen:=by unfold maxLen;omega
 intro fu;induction fu with
 |zero=>intro _ _ _ h;omega
 |succ fu ih=>
  intro i w hi j o;simp only[Pt,o8];by_cases h:i<S7 es
  .rw[p7,o9 ⟨by omega,by omega⟩,ZQp es i h];simp only[YO];have dt:=qb _ (wy es k_.d i h);cases g:I8 (es.getD i k_.d)
   .have cZ:((es.getD i k_.d).ql==(2:Int))=Tm:=g;rw[cZ,aFb,pY h hm,ih (i+1) w (by omega) (by omega) (by omega)];simp
   .have cZ:((es.getD i k_.d).ql==(2:Int))=Tl:=g;rw[cZ,aFc,Li _ dt.1.1];simp only[Xt];rw[o9 (ZTC _ (by simp;omega)),pY h hm,ih (i+1) _ (by omega) (by omega) (by simp;omega)];simp
  .have e:i=S7 es:=by omega
   rw[pO,e,Zx];simp[BK]
theorem ZTw(ps:S5 a_)(es:S5 k_)(b9:S7 ps<=1000)(gL:S7 es<=1000)(dM:∀p∈ps,p.ok)(qb:∀e∈es,e.ok) :
  ∀fu (i:Nat) (w:S5 pn),i<=S7 ps->S7 ps-i<fu->S7 w<=i ->
   J6 es fu ps (S7 ps:Int) (i:Int) w=(JX (w++Dc (ps.drop i)++BK es)).bind My:=by
 have hm:S7 ps<=maxLen:=by unfold maxLen;omega
 intro fu;induction fu with
 |zero=>intro _ _ _ h;omega
 |succ fu ih=>
  intro i w hi j o;simp only[J6,o8];by_cases h:i<S7 ps
  .rw[p7,o9 ⟨by omega,by omega⟩,ZQo ps i h];simp only[YO];have dt:=dM _ (wy ps a_.d i h);cases g:I7 (ps.getD i a_.d)
   .have cZ:(!(ps.getD i a_.d).tL)=Tm:=g;rw[cZ,aFb,pY h hm,ih (i+1) w (by omega) (by omega) (by omega)];simp
   .have cZ:(!(ps.getD i a_.d).tL)=Tl:=g;rw[cZ,aFc,Li _ dt.1.1];simp only[Xt];rw[o9 (ZTC _ (by simp;omega)),pY h hm,ih (i+1) _ (by omega) (by omega) (by simp;omega)];simp
  .have e:i=S7 ps:=by omega
   rw[pO,e,Zx];have:=ZYn es gL qb ps (S7 ps:Int) (S7 ps:Int) (J6 es fu) ((((S7 es:Nat):Int)-(0:Int)).toNat+2) 0 w (by omega) (by omega) (by omega);simp only[YX,YZ]at this;rw[this];simp[Dc]
theorem ZHW(ps:S5 a_)(es:S5 k_)(b9:S7 ps<=1000)(gL:S7 es<=1000)(dM:∀p∈ps,p.ok)(qb:∀e∈es,e.ok) :
  ∃L,SI ps es=S8 L/\MY L/\∀x,x∈L↔x∈Dc ps++BK es:=by
 have h:=ZTw ps es b9 gL dM qb ((((S7 ps:Nat):Int)-(0:Int)).toNat+2) 0 [] (by omega) (by omega) (by simp);simp only[YX,YZ,YY]at h;unfold SI;rw[h];refine ZYp _ ?_;have:=ZVD es;have:=ZVC ps
 grind
theorem ZKK(l:S5 pn)(e:pn)(hl:S7 l<=maxLen):ZeA l e=S8 (l.contains e):=by
 simp only[ZeA,Zhi];have:=CM l pn.d (λx=>decide (e=x)) hl (λfu i=>Qr l fu (S7 l:Int) i e) (λi=>i) (λfu i hi=>by
   simp only[Qr,o8];rw[p7,o9 ⟨by omega,by omega⟩];simp) (λfu=>by
   simp only[Qr,o8];rw[pO]) ((((S7 l:Nat):Int)-(0:Int)).toNat+2) 0 (by omega) (by omega)
 simp only[YX,YZ]at this;rw[this];simp only[Xt,Option.some.injEq];rw[Bool.eq_iff_iff,aFl,List.contains_iff_mem];have g:=Gn (λx=>decide (e=x)) l 0
 grind
theorem ZIK{α:Type}[DecidableEq α]:∀(L l:S5 α),L.Nodup->(∀x∈L,x∈l)->S7 L<=S7 l
 | [],_,_,_=>by simp
 |a :: r,l,d,hs=>by
  have dS:=List.nodup_cons.1 d
  have ha:=hs a (by simp)
  have:=ZIK r (l.erase a) dS.2 λx hx=>(List.mem_erase_of_ne (show x≠a from λe=>dS.1 (e ▸ hx))).2 (hs x (by simp[hx]))
  grind
theorem amo{L:S5 pn}(hs:MY L){l:S5 pn}(h:∀x,x∈L↔x∈l):S7 L<=S7 l:=
 ZIK L l hs.nodup λx hx=>(h x).1 hx
theorem ZBJ(ps:S5 a_)(es:S5 k_)(a:oV)(b9:S7 ps<=1000)(gL:S7 es<=1000)(dM:∀p∈ps,p.ok)(qb:∀e∈es,e.ok)(ha:a.ok) :
  ZqK ps es a=S8 (tC a && !decide (vf a∈Dc ps++BK es)):=by
 obtain⟨L,d,g,h⟩:=ZHW ps es b9 gL dM qb;have hl:S7 L<=2000:=by
  have:=amo g h;have:=ZVD es;have:=ZVC ps
  grind
 simp only[ZqK,JO a ha,d,Li a ha,Xt,ZKK L _ (by unfold maxLen;omega)]
 grind
end Go.Proofs.YtmcnjofonpkfmaaGreat
