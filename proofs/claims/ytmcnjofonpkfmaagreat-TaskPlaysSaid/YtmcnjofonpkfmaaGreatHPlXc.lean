import Derived.Test.YtmcnjofonpkfmaaGreatHPlG
open Bool renaming false->Tm,true->Tl,not_false->YT,not_true->YP,false_eq_true->YQ
open Int renaming toNat_natCast->YO
open Go.IntKind renaming wrap->US,bits->UB,i64->TZ,signed->Ut
open List renaming eq_nil_of_length_eq_zero->ZN,take_succ_eq_append_getElem->YR,length_append->TL,length_singleton->ZO,take_append_drop->WE,length_cons->Uw,take_of_length_le->TV,nil_append->YY,append_assoc->Vl,mem_filter->VU,getElem_mem->ZP,cons_append->Wf,mem_singleton->Y9,filter_append->Wa,length_filter_le->Zn,length_take->TQ,length_nil->XB,append_nil->Zz,map_append->Vn,filter_sublist->ZQ,pairwise_cons->V_,filter_filter->VY,map_cons->UG,filter_cons->We,drop_eq_nil_of_le->Y_,filter_nil->Zy,mem_of_mem_take->Un,filter_eq_self->VX,map_singleton->ZR,replicate->V6,mem_cons->VJ,mem_map->Uf,singleton_append->ZU,pairwise_append->Y4,getElem_of_mem->UZ,nodup_append->Vk,filter_congr->V0,length_drop->Uv,getElem_map->ZV,range_succ->ZW,mem_append->T9,map_map->ZX,range->Tr,length->S7
open Nat renaming le_refl->Tq,zero_le->UK,strongRecOn->ZT,min_eq_left->Wi,zero_add->TX,add_zero->TY
open Option renaming bind_some->Xt,some->S8,map_some->TT
namespace Go.Proofs.YtmcnjofonpkfmaaGreat
set_option linter.unusedSectionVars false
set_option linter.unusedSimpArgs false
set_option linter.unusedVariables false
def wT:a_:=⟨⟨⟨Tm,0,0⟩,0⟩,Tm,0,⟨0,0⟩,0,0⟩
def rE:oM:=⟨0,wT,[],[]⟩
def yn:pM:=⟨0,0,0⟩
def xS:pU:=⟨0,0,yn,0,0,rE,Tm⟩
def sd:l_:=⟨⟨Tm,0,0⟩,0⟩
def sY:oZ:=⟨0,sd,0,0,[]⟩
def Cr(l:pM):pM:=if l.d_=1\/l.d_=2\/l.d_=3\/l.d_=4 then⟨l.d_,0,0⟩else if l.d_=5 then⟨l.d_,l.uZ,0⟩else if l.d_=6 then l else yn
def Ck(k:Int)(v:oM):oM:=if k=1\/k=2\/k=5 then⟨v.fN,wT,[],[]⟩else if k=3 then⟨0,wT,v.po,[]⟩else if k=4 then⟨0,wT,[],v.j_⟩else if k=6 then⟨0,v.pN,[],[]⟩else rE
def F5(o:pU):pU:=if o.d_=1\/o.d_=2\/o.d_=3\/o.d_=4 then⟨o.d_,o.tT,yn,0,0,rE,o.rV⟩else if o.d_=5 then⟨o.d_,0,Cr o.s6,0,0,rE,o.rV⟩else if o.d_=6 then⟨o.d_,0,Cr o.s6,0,0,Ck o.s6.d_ o.qL,o.rV⟩else if o.d_=7 then⟨o.d_,0,Cr o.s6,o.wI,o.wJ,rE,o.rV⟩else if o.d_=8 then⟨o.d_,0,yn,0,0,rE,o.rV⟩else xS
variable{α β:Type}
theorem uo(a b:Int)(x y:α):(bif a==b then x else y)=if a=b then x else y:=by
 simp_all
theorem ZRw(l:pM):OH l=S8 (Cr l):=by
 obtain⟨k,s,t⟩:=l;unfold OH Pb Cr;simp only[uo]
 repeat' split
 all_goals first|rfl | (simp_all [yn];done) | (exfalso;omega)
theorem ZRa(k:Int)(v:oM):ZwE k v=S8 (Ck k v):=by
 unfold ZwE SE Ck;simp only[uo]
 repeat' split
 all_goals first|rfl | (simp_all [rE,wT];done) | (exfalso;omega)
theorem ZSz(o:pU):ZwF o=S8 (F5 o):=by
 unfold ZwF O_ F5;simp only[uo,ZRw,ZRa,Xt]
 repeat' split
 all_goals first|rfl | (simp_all [xS,yn,rE,wT];done) | (exfalso;omega)
theorem ZMC(l:pM):ZlJ l=S8 (Cr l):=by
 obtain⟨k,s,t⟩:=l;unfold ZlJ Zjg Cr;simp only[o8]
 repeat' split
 all_goals first|rfl | (simp_all [yn];done) | (exfalso;omega) | (simp only[Option.some.injEq,pM.mk.injEq,yn];omega)
theorem ZFE(k:Int)(v:oM):ZjT k v=S8 (Ck k v):=by
 unfold ZjT Qg ZhZ ZhY Ck;simp only[uo]
 repeat' split
 all_goals first|rfl | (simp_all [rE,wT];done) | (exfalso;omega)
theorem ZFH(o:pU):ZjU o=S8 (F5 o):=by
 unfold ZjU Zib Zgd Zia F5;simp only[o8,uo,ZMC,ZFE,Xt]
 repeat' split
 all_goals first|rfl | (exfalso;omega)
def C5(v:oM):Prop:=S7 v.po<=1000000/\S7 v.j_<=1000000
theorem GN:C5 rE:=⟨by simp[rE],by simp[rE]⟩
theorem adg{k:Int}{v:oM}(h:C5 v):C5 (Ck k v):=by
 unfold Ck
 repeat' split
 all_goals first|exact GN|exact⟨UK _,UK _⟩|exact⟨h.1,UK _⟩|exact⟨UK _,h.2⟩
theorem QW{o:pU}(h:C5 o.qL):C5 (F5 o).qL:=by
 unfold F5
 repeat' split
 all_goals first|exact GN|exact adg h
theorem oT(x:α)(f:α->S6 β):(S8 x).bind f=f x:=by simp
def wk(m_:S5 oM)(a:Nat):pz:=⟨m_,(a:Int),xS,Tm⟩
def wt(m_:S5 oM)(o:pU):pz:=⟨m_,(S7 m_:Int),o,Tl⟩
theorem ZWS(o:pU):AE ⟨[]⟩ o=S8 (.uF (F5 o)):=by
 simp[AE,ZSz]
theorem ZQQ(v:oM)(r:S5 oM)(o:pU):AE ⟨v :: r⟩ o=S8 (.ret v ⟨r⟩):=by
 have h:(((v :: r).length:Nat):Int)≠0:=by grind
 unfold AE;simp only[uo,if_neg h];rw[o9 (by omega),o9 (by omega)];rfl
theorem ZLh(m_:S5 oM)(a:Nat)(o:pU):AE ⟨m_.drop a⟩ o=S8 (if a<m_.length then .ret (m_.getD a oM.d) ⟨m_.drop (a+1)⟩else .uF (F5 o)):=by
 split
 .rename_i h;rw[xZ m_ oM.d a h,ZQQ]
 .rename_i h;rw[Y_ (by omega),ZWS]
theorem Ll(m_:S5 oM)(a:Nat)(o:pU)(hL:S7 m_<=1000000)(ha:a<=S7 m_):J4 (wk m_ a) o=S8 (if a<m_.length then(wk m_ (a+1),m_.getD a oM.d)else(wt m_ (F5 o),rE)):=by
 unfold J4 wk;simp only[cond_false,o8,ZFH,Xt];by_cases h:a<S7 m_
 .rw[p7,aFa h];have e:n_ (a:Int) 1=((a+1:Nat):Int):=pY (n:=S7 m_) h (by simp only[maxLen];omega);have g:pR ((a+1:Nat):Int) 1=(a:Int):=by
   unfold pR;have:TZ.wrap (((a+1:Nat):Int)-1)=((a+1:Nat):Int)-1:=B0;omega
  rw[e,g,o9 (by omega)];rfl
 .rw[pO,aE_ h];have:a=S7 m_:=by omega
  subst this;rfl
def yL{α β:Type}(m_:S5 oM)(a0:Nat)(P:α->β->Prop)(W:β->Prop)(t:S6 (o7 α))(r:S6 (pz×β)):Prop:=(∃v b a,t=S8 (.ret v ⟨m_.drop a⟩)/\r=S8 (wk m_ a,b)/\a0<=a/\a<=S7 m_/\P v b)\/∃q b,t=S8 (.uF q)/\r=S8 (wt m_ q,b)/\C5 q.qL/\W b
def tX{α:Type}:α->α->Prop:=λx y=>x=y
def uh{α β:Type}:α->β->Prop:=λ_ _=>True
def qh{β:Type}:β->Prop:=λ_=>True
theorem yL.ak7{m_:S5 oM}{d e:Nat}{P:α->β->Prop}{W:β->Prop}{t:S6 (o7 α)}{r:S6 (pz×β)}(h:yL m_ e P W t r)(ha:d<=e):yL m_ d P W t r:=by
 rcases h with⟨v,b,a,g,j,y,o,u⟩|h
 .exact .inl ⟨v,b,a,g,j,by omega,o,u⟩
 .exact .inr h
section
variable {m_:S5 oM} (hL:S7 m_<=1000000) {a:Nat} (ha:a<=S7 m_)
include hL ha
theorem ZGY(l:pM)(hl:True):yL m_ (a+1) tX qh (zu ⟨m_.drop a⟩ l Tm) (wR (wk m_ a) l):=by
 unfold zu wR;rw[ZLh,Ll _ _ _ hL ha];by_cases h:a<S7 m_
 .simp only[aFa h,Xt];exact .inl ⟨_,_,a+1,rfl,rfl,Tq _,h,rfl⟩
 .simp only[aE_ h,Xt];exact .inr ⟨_,_,rfl,rfl,QW GN,trivial⟩
theorem ZXe(k wM ac:Int)(am:Bool):yL m_ (a+1) tX qh (Pz ⟨m_.drop a⟩ ⟨k,0,0⟩ wM ac am) (PQ (wk m_ a) k wM ac am):=by
 unfold Pz PQ;rw[ZLh,Ll _ _ _ hL ha];by_cases h:a<S7 m_
 .simp only[aFa h,Xt];exact .inl ⟨_,_,a+1,rfl,rfl,Tq _,h,rfl⟩
 .simp only[aE_ h,Xt];exact .inr ⟨_,_,rfl,rfl,QW GN,trivial⟩
theorem ZQW(l:pM)(v:oM)(am:Bool)(d:C5 v):yL m_ (a+1) uh qh (AD ⟨m_.drop a⟩ l v am) ((vV (wk m_ a) l v am).map λw=>(w,())):=by
 unfold AD vV;rw[ZLh,Ll _ _ _ hL ha];by_cases h:a<S7 m_
 .simp only[aFa h,Xt,TT];exact .inl ⟨_,_,a+1,rfl,rfl,Tq _,h,trivial⟩
 .simp only[aE_ h,Xt,TT];exact .inr ⟨_,_,rfl,rfl,QW d,trivial⟩
theorem alC(k:Int)(am:Bool):yL m_ (a+1) uh qh (zN ⟨m_.drop a⟩ k am) ((qn (wk m_ a) 1 k am).map λw=>(w,())):=by
 unfold zN qn;rw[ZLh,Ll _ _ _ hL ha];by_cases h:a<S7 m_
 .simp only[aFa h,Xt,TT];exact .inl ⟨_,_,a+1,rfl,rfl,Tq _,h,trivial⟩
 .simp only[aE_ h,Xt,TT];exact .inr ⟨_,_,rfl,rfl,QW GN,trivial⟩
theorem alB(k:Int)(am:Bool):yL m_ (a+1) uh qh (uT ⟨m_.drop a⟩ k am) ((qn (wk m_ a) 3 k am).map λw=>(w,())):=by
 unfold uT qn;rw[ZLh,Ll _ _ _ hL ha];by_cases h:a<S7 m_
 .simp only[aFa h,Xt,TT];exact .inl ⟨_,_,a+1,rfl,rfl,Tq _,h,trivial⟩
 .simp only[aE_ h,Xt,TT];exact .inr ⟨_,_,rfl,rfl,QW GN,trivial⟩
end
theorem yV(m_:S5 oM)(q:pU)(l:pM):wR (wt m_ q) l=S8 (wt m_ q,rE):=by
 rfl
theorem ZXd(m_:S5 oM)(q:pU)(k wM ac:Int)(am:Bool):PQ (wt m_ q) k wM ac am=S8 (wt m_ q,Tm):=by
 rfl
theorem Hg(m_:S5 oM)(q:pU)(l:pM)(v:oM)(am:Bool):vV (wt m_ q) l v am=S8 (wt m_ q):=by
 rfl
theorem r_(m_:S5 oM)(q:pU)(k l:Int)(am:Bool):qn (wt m_ q) k l am=S8 (wt m_ q):=by
 rfl
theorem JA{r:S6 pz}{w:pz}{b:Unit}(h:r.map (λw=>(w,()))=S8 (w,b)):r=S8 w:=by
 simp_all
theorem wv(m_:S5 oM)(q:pU):(wt m_ q).qQ=Tl:=rfl
theorem yK(m_:S5 oM)(a:Nat):(wk m_ a).qQ=Tm:=rfl
variable{x y z:Int}{m_:S5 oM}{a k i N:Nat}{l:S5 Int}{p q r:a_}
theorem ZXf(hL:S7 m_<=1000000)(part n:Int)(b4:pz)(b7:oM)(j:∀i:Nat,(i:Int)<n↔(i:Int)<b7.fN):∀(k a i:Nat)(w:S5 a_)(fu F:Nat),S7 m_-a=k->a<=S7 m_->i<=a->S7 w=i ->
  (n-(i:Int)).toNat+1<=fu->k+3<=F->yL m_ a (λx y=>x=y/\S7 x<=S7 m_) (λb=>S7 b<=S7 m_+1) (JY part fu n i w ⟨m_.drop a⟩) (Kp part F i w b4 (wk m_ a) b7):=by
 intro k;induction k using ZT with
 |ind k ih=>
  intro a i w fu F I ha hi t lU J;obtain⟨fu,rfl⟩:=sC fu;obtain⟨F,rfl⟩:=sC F;unfold JY Kp;simp only[o8,yK,YT,aFc];by_cases h:(i:Int)<n
  .rw[aFa h,aFa ((j i).1 h)];have e:LC part i=S8 ⟨6,part,i⟩:=rfl;simp only[e,Xt];have hlen:∀p:a_,(w++[p]).length * 80<=140737488355328/\(w++[p]).length<=maxLen:=λp=>by simp only[TL,ZO,maxLen];omega
   have o:n_ (i:Int) 1=((i+1:Nat):Int):=pY (n:=i+1) (by omega) (by simp only[maxLen];omega);rcases ZGY hL ha ⟨6,part,i⟩ trivial with⟨v,b,a',d,g,L,u,rfl⟩|⟨q,b,d,g,hq,M⟩
   .simp only[d,g,Xt];rw[o9 (hlen _),o9 (hlen _),o];rcases ih (S7 m_-a') (by omega) a' (i+1) (w++[v.pN]) fu F rfl u (by omega) (by simp[t]) (by omega) (by omega)with⟨x,y,A,B,D,O,G,H⟩|hq
    .exact .inl ⟨x,y,A,B,D,by omega,G,H⟩
    .exact .inr hq
   .simp only[d,g,Xt];rw[o9 (hlen _),o];obtain⟨F,rfl⟩:=sC F;unfold Kp;simp only[o8,wv,YP,aFb];refine .inr ⟨q,w++[b.pN],rfl,?_,hq,by grind⟩;split<;>rfl
  .rw[aE_ h,aE_ (λh'=>h ((j i).2 h'))];exact .inl ⟨w,w,a,rfl,rfl,Tq _,ha,rfl,by omega⟩
theorem ZLo(m_:S5 oM)(q:pU)(part i:Int)(w:S5 a_)(b4:pz)(b7:oM)(F:Nat)(d:1<=F):Kp part F i w b4 (wt m_ q) b7=S8 (wt m_ q,w):=by
 obtain⟨F,rfl⟩:=sC F;unfold Kp;simp only[o8,wv,YP,aFb];split<;>rfl
theorem alF(hL:S7 m_<=900000)(ha:a<=S7 m_)(part:Int):yL m_ a (λx y=>x=y/\S7 x<=S7 m_) (λb=>S7 b<=S7 m_+1) (El ⟨m_.drop a⟩ part) (E_ (wk m_ a) part):=by
 unfold El E_;have e:LB part=S8 ⟨5,part,0⟩:=rfl;simp only[e,oT];rcases ZGY (by omega) ha ⟨5,part,0⟩ trivial with⟨v,b,a',g,d,D,j,rfl⟩|⟨q,b,g,d,hq,F⟩
 .simp only[g,d,oT];rcases ZXf (by omega) part (if(0:Int)>v.fN then 0 else v.fN) ⟨[],0,⟨0,0,⟨0,0,0⟩,0,0,⟨0,⟨⟨⟨Tm,0,0⟩,0⟩,Tm,0,⟨0,0⟩,0,0⟩,[],[]⟩,Tm⟩,Tm⟩ v (λi=>by split<;>omega) (S7 m_-a') a' 0 [] _ 1000000 rfl j (by omega) rfl (Nat.le_succ _) (by omega)with⟨x,y,o,t,u,G,A,B⟩|hq
  .exact .inl ⟨x,y,o,t,u,by omega,A,B⟩
  .exact .inr hq
 .simp only[g,d,oT];have hb:b=rE:=by
   unfold wR at d;rw[Ll _ _ _ (by omega) ha]at d;by_cases h:a<S7 m_
   .simp only[aFa h,oT,Option.some.injEq,Prod.mk.injEq]at d;exact aFe d.1 (by simp[wk,wt])
   simp_all
  subst hb;exact .inr ⟨q,[],rfl,ZLo m_ q part 0 [] _ rE 1000000 (by omega),hq,UK _⟩
theorem RM(m_:S5 oM)(q:pU)(part:Int):E_ (wt m_ q) part=S8 (wt m_ q,[]):=by
 rfl
theorem ZOQ(rF ac:S5 a_)(A:S7 ac<=1000000):∀(k i:Nat)(w:S5 Int)(f g:Nat),S7 ac-i=k->i<=S7 ac->S7 w<=i->(∀x∈w,0<=x/\x<(S7 ac:Int))->k+1<=f->k+1<=g ->
  ∃l:S5 Int,Fb rF f ac (S7 ac:Int) i w=S8 l/\Kg rF ac g i w=S8 l/\S7 l<=S7 ac/\∀x∈l,0<=x/\x<(S7 ac:Int):=by
 intro k;induction k with
 |zero=>
  intro i w f g o hi t hx u hg;obtain⟨f,rfl⟩:=sC f;obtain⟨g,rfl⟩:=sC g;unfold Fb Kg
  grind
 |succ k ih=>
  intro i w f g o hi t hx u hg;obtain⟨f,rfl⟩:=sC f;obtain⟨g,rfl⟩:=sC g;unfold Fb Kg;simp only[o8];have e:(i:Int)<(S7 ac:Int):=by omega
  rw[aFa e,aFa e,o9 (by omega)];have j:n_ (i:Int) 1=((i+1:Nat):Int):=pY (n:=i+1) (by omega) (by simp only[maxLen];omega);have hlen:(w++[(i:Int)]).length * 8<=140737488355328/\(w++[(i:Int)]).length<=maxLen:=by simp only[TL,ZO,maxLen];omega
  have dQ:∀x∈w++[(i:Int)],0<=x/\x<(S7 ac:Int):=λx hm=>by
   grind
  have gF:=ih (i+1) (w++[(i:Int)]) f g (by omega) (by omega) (by simp_all) dQ (by omega) (by omega);have c6:=ih (i+1) w f g (by omega) (by omega) (by omega) hx (by omega) (by omega);by_cases h:(i:Int)>=(S7 rF:Int)
  .rw[aFa h,aFa h,o9 hlen,j,o9 hlen];exact gF
  .rw[aE_ h,aE_ h,o9 (show 0<=(i:Int)/\(i:Int)<(S7 rF:Int)by omega),o9 (show 0<=(i:Int)/\(i:Int)<(S7 rF:Int)by omega),o9 (show 0<=(i:Int)/\(i:Int)<(S7 ac:Int)by omega)];by_cases y:rF.getD ((i:Int)).toNat a_.d=ac.getD ((i:Int)).toNat a_.d
   .simp_all
   .simp only[y,decide_false,YT,aFc];rw[o9 hlen,o9 hlen,j];exact gF
theorem ZLl(rF ac:S5 a_)(d:S7 ac<=1000000):∃l:S5 Int,SH rF ac=S8 l/\Zjh rF ac=S8 l/\S7 l<=S7 ac/\∀x∈l,0<=x/\x<(S7 ac:Int):=
 ZOQ rF ac d ac.length 0 [] _ _ (by omega) (by omega) (by simp) (by simp) (by omega) (by omega)
theorem ZwO(m_:S5 oM)(q:pU)(part:Int)(rF ac:S5 a_)(d:S7 ac<=1000000:=by omega):wW (wt m_ q) part rF ac=S8 (wt m_ q):=by
 obtain⟨l,-,e,t,g⟩:=ZLl rF ac d;unfold wW;rw[e];simp only[Xt];generalize hb:(pz.mk _ _ _ _)=b8;have aF:∀(k i f:Nat),S7 l-i=k->i<=S7 l->k+1<=f->Ey part rF ac f l i (wt m_ q) b8=S8 (wt m_ q):=by
  intro k;induction k with
  |zero=>
   intro i f h hi j;obtain⟨f,rfl⟩:=sC f;unfold Ey;simp only[o8,Hg,Xt]
   grind
  |succ k ih=>
   intro i f h hi j;obtain⟨f,rfl⟩:=sC f;unfold Ey;simp only[o8,Hg,Xt];have o:n_ (i:Int) 1=((i+1:Nat):Int):=pY (n:=i+1) (by omega) (by simp only[maxLen];omega);have hm:=g _ (wy l (0:Int) i);rw[p7,o9 (by omega),o9 (by simpa using hm),o]
   grind
 grind
theorem ane(hL:S7 m_<=1000000)(ha:a<=S7 m_)(part:Int)(rF ac:S5 a_)(D:S7 ac<=1000000) :
  yL m_ a uh qh (Dp ⟨m_.drop a⟩ part rF ac) ((wW (wk m_ a) part rF ac).map λw=>(w,())):=by
 obtain⟨l,F,G,Z,B⟩:=ZLl rF ac D;unfold Dp wW;rw[F,G];simp only[Xt];generalize hb:(pz.mk _ _ _ _)=b8;have aF:∀(k i f g a:Nat),a<=S7 m_->S7 l-i=k->i<=S7 l->k+1<=f->k+1<=g ->
   yL m_ a uh qh (Hw part rF ac f l (S7 l:Int) i ⟨m_.drop a⟩) ((Ey part rF ac g l i (wk m_ a) b8).map λw=>(w,())):=by
  intro k;induction k with
  |zero=>
   intro i f g a ha t hi u hg;obtain⟨f,rfl⟩:=sC f;obtain⟨g,rfl⟩:=sC g;unfold Hw Ey;simp only[o8];rw[pO,pO];have e:LB part=S8 ⟨5,part,0⟩:=rfl;simp only[e,Xt];cases hc:(((S7 rF:Nat):Int) != ((S7 ac:Nat):Int))with
   |false=>
    simp only[aFb];exact .inl ⟨(),(),a,rfl,rfl,Tq _,ha,trivial⟩
   |true=>
    simp only[aFc];rcases ZQW hL ha ⟨5,part,0⟩ ⟨(S7 ac:Int),wT,[],[]⟩ Tm ⟨UK _,UK _⟩with⟨v,b,a',j,h,H,A,-⟩|⟨q,b,j,h,hq,I⟩
    .have h:=JA h;have nR:AD ⟨m_.drop a⟩ ⟨5,part,0⟩ ⟨(S7 ac:Int),⟨⟨⟨Tm,0,0⟩,0⟩,Tm,0,⟨0,0⟩,0,0⟩,[],[]⟩ Tm=_:=j;have nS:vV (wk m_ a) ⟨5,part,0⟩ ⟨(S7 ac:Int),⟨⟨⟨Tm,0,0⟩,0⟩,Tm,0,⟨0,0⟩,0,0⟩,[],[]⟩ Tm=_:=h;simp only[nR,nS,Xt,TT];exact .inl ⟨(),(),a',rfl,rfl,by omega,A,trivial⟩
    .have h:=JA h;have nR:AD ⟨m_.drop a⟩ ⟨5,part,0⟩ ⟨(S7 ac:Int),⟨⟨⟨Tm,0,0⟩,0⟩,Tm,0,⟨0,0⟩,0,0⟩,[],[]⟩ Tm=_:=j;have nS:vV (wk m_ a) ⟨5,part,0⟩ ⟨(S7 ac:Int),⟨⟨⟨Tm,0,0⟩,0⟩,Tm,0,⟨0,0⟩,0,0⟩,[],[]⟩ Tm=_:=h;simp only[nR,nS,Xt,TT];exact .inr ⟨q,(),rfl,rfl,hq,trivial⟩
  |succ k ih=>
   intro i f g a ha t hi u hg;obtain⟨f,rfl⟩:=sC f;obtain⟨g,rfl⟩:=sC g;unfold Hw Ey;simp only[o8];have o:n_ (i:Int) 1=((i+1:Nat):Int):=pY (n:=i+1) (by omega) (by simp only[maxLen];omega);have hm:=B _ (wy l (0:Int) i);have zB:0<=l.getD ((i:Int)).toNat (0:Int)/\l.getD ((i:Int)).toNat (0:Int)<(S7 ac:Int):=by simpa using hm
   have e:∀x,LC part x=S8 ⟨6,part,x⟩:=λ_=>rfl;rw[p7,p7,o9 (by omega),o9 (by omega)];simp only[e,Xt];rw[o9 zB,o9 zB];rcases ZQW hL ha ⟨6,part,l.getD ((i:Int)).toNat (0:Int)⟩ ⟨0,ac.getD (l.getD ((i:Int)).toNat (0:Int)).toNat a_.d,[],[]⟩ Tm ⟨UK _,UK _⟩with⟨v,b,a',j,h,H,A,-⟩|⟨q,b,j,h,hq,I⟩
   .have h:=JA h;simp only[j,h,Xt,o];rcases ih (i+1) f g a' A (by omega) (by omega) (by omega) (by omega)with⟨x,y,J,L,M,r3,O,U⟩|hq
    .exact .inl ⟨x,y,J,L,M,by omega,O,U⟩
    .exact .inr hq
   .have h:=JA h;simp only[j,h,Xt,o];have W:∀(k i f:Nat),S7 l-i=k->i<=S7 l->k+1<=f->Ey part rF ac f l i (wt m_ q) b8=S8 (wt m_ q):=by
     intro k;induction k with
     |zero=>
      intro i f t hi u;obtain⟨f,rfl⟩:=sC f;unfold Ey;simp only[o8,Hg,Xt];rw[pO];simp
     |succ k ih=>
      intro i f t hi u;obtain⟨f,rfl⟩:=sC f;unfold Ey;simp only[o8,Hg,Xt];have o:n_ (i:Int) 1=((i+1:Nat):Int):=pY (n:=i+1) (by omega) (by simp only[maxLen];omega);have hm:=B _ (wy l (0:Int) i);rw[p7,o9 (by omega),o9 (by simpa using hm),o];exact ih (i+1) f (by omega) (by omega) (by omega)
    rw[W k (i+1) g (by omega) (by omega) (by omega)];exact .inr ⟨q,(),rfl,rfl,hq,trivial⟩
 grind
def tN(p:Int):Nat:=if p<1 then 1 else if p>8 then 8 else p.toNat
theorem JF(p:Int):1<=tN p/\tN p<=8:=by unfold tN;grind
theorem OF(p:Int):OX p=S8 (tN p:Int):=by
 unfold OX tN
 grind
theorem OL(p:Int):J8 p=S8 (tN p:Int):=by
 unfold J8 tN
 grind
theorem ZAJ(hL:S7 m_<=1000000)(p:Int)(b:pz):∀(k i a f g:Nat),tN p-i=k->i<=tN p->a<=S7 m_->k+1<=f->k+1<=g ->
  yL m_ a uh qh (HH f (tN p:Int) i ⟨m_.drop a⟩) ((HP p g i (wk m_ a) b).map λw=>(w,()))/\∀q,HP p g i (wt m_ q) b=S8 (wt m_ q):=by
 have H:=(JF p).2;intro k;induction k with
 |zero=>
  intro i a f g o hi ha t hg;obtain⟨f,rfl⟩:=sC f;obtain⟨g,rfl⟩:=sC g;have e:¬((i:Int)<(tN p:Int)):=by omega
  refine⟨?_,λq=>?_⟩
  .unfold HH HP;simp only[o8,OL,oT,aE_ e];exact .inl ⟨(),(),a,rfl,rfl,Tq _,ha,trivial⟩
  .unfold HP;simp only[o8,OL,oT,aE_ e]
 |succ k ih=>
  intro i a f g o hi ha t hg;obtain⟨f,rfl⟩:=sC f;obtain⟨g,rfl⟩:=sC g;have e:(i:Int)<(tN p:Int):=by omega
  have j:n_ (i:Int) 1=((i+1:Nat):Int):=pY (n:=i+1) (by omega) (by simp only[maxLen];omega);refine⟨?_,λq=>?_⟩
  .unfold HH HP;simp only[o8,OL,oT,aFa e,j];rcases alC hL ha (n_ 2 (i:Int)) Tm with⟨v,b',a',h,d,I,u,-⟩|⟨q,b',h,d,hq,J⟩
   .have d:=JA d;simp only[h,d,oT];rcases(ih (i+1) a' f g (by omega) (by omega) u (by omega) (by omega)).1 with⟨x,y,A,B,D,L,F,G⟩|hq
    .exact .inl ⟨x,y,A,B,D,by omega,F,G⟩
    .exact .inr hq
   .have d:=JA d;simp only[h,d,oT];rw[(ih (i+1) a f g (by omega) (by omega) ha (by omega) (by omega)).2 q];exact .inr ⟨q,(),rfl,rfl,hq,trivial⟩
  .unfold HP;simp only[o8,OL,oT,aFa e,j,r_];exact(ih (i+1) a f g (by omega) (by omega) ha (by omega) (by omega)).2 q
theorem ZSJ(hL:S7 m_<=1000000)(ha:a<=S7 m_)(p:Int):yL m_ a uh qh (Ht ⟨m_.drop a⟩ p) ((GF (wk m_ a) p).map λw=>(w,())):=by
 have d:=(JF p).2;unfold Ht GF;rw[OF,oT];exact(ZAJ hL p _ (tN p) 0 a _ 1000000 (by omega) (by omega) ha (by omega) (by omega)).1
theorem LG(m_:S5 oM)(hL:S7 m_<=1000000)(q:pU)(p:Int):GF (wt m_ q) p=S8 (wt m_ q):=by
 have d:=(JF p).2;unfold GF;exact(ZAJ hL p _ (tN p) 0 0 (tN p+1) 1000000 (by omega) (by omega) (by omega) (by omega) (by omega)).2 q
theorem ZLm(hL:S7 m_<=900000)(aY:Int)(am:Bool)(b6:pz):∀(k a f g:Nat),S7 m_-a=k->a<=S7 m_->k+1<=f->k+2<=g ->
  yL m_ a tX qh (Mf aY am f ⟨m_.drop a⟩ ⟨1,0,0⟩) (Qe aY am g (wk m_ a) b6):=by
 intro k;induction k using ZT with
 |ind k ih=>
  intro a f g D ha F hg;obtain⟨f,rfl⟩:=sC f;obtain⟨g,rfl⟩:=sC g;unfold Mf Qe;simp only[yK,YT,aFc];rcases ZGY (by omega) ha ⟨1,0,0⟩ trivial with⟨v,b,a',d,e,G,t,rfl⟩|⟨q,b,d,e,hq,A⟩
  .simp only[d,e,oT,yK,aFb,o8];split
   .exact .inl ⟨Tm,Tm,a',rfl,rfl,by omega,t,rfl⟩
   .rcases ZXe (by omega) t 1 v.fN (n_ v.fN 1) am with⟨v2,b2,h,j,o,H,u,rfl⟩|⟨q,b2,j,o,hq,A⟩
    .simp only[j,o,oT];cases v2 with
     |true=>exact .inl ⟨Tl,Tl,h,rfl,rfl,by omega,u,rfl⟩
     |false=>
      simp only[aFb];rcases ih (S7 m_-h) (by omega) h f g rfl u (by omega) (by omega)with⟨x,y,B,s1,s2,s3,s4,s5⟩|hq
      .exact .inl ⟨x,y,B,s1,s2,by omega,s4,s5⟩
      .exact .inr hq
    .simp only[j,o,oT];cases b2 with
     |true=>exact .inr ⟨q,Tl,rfl,rfl,hq,trivial⟩
     |false=>
      simp only[aFb];obtain⟨g,rfl⟩:=sC g;unfold Qe;simp only[wv,YP,aFb];exact .inr ⟨q,Tm,rfl,rfl,hq,trivial⟩
  .simp only[d,e,oT,wv,aFc];exact .inr ⟨q,Tm,rfl,rfl,hq,trivial⟩
theorem ZSH(hL:S7 m_<=900000)(ha:a<=S7 m_)(aY:Int)(am:Bool):yL m_ a tX qh (LU ⟨m_.drop a⟩ aY am) (Et (wk m_ a) aY am):=by
 unfold LU Et;exact ZLm hL aY am _ _ a 1000000 1000000 rfl ha (by omega) (by omega)
theorem Zwg(m_:S5 oM)(q:pU)(aY:Int)(am:Bool):Et (wt m_ q) aY am=S8 (wt m_ q,Tm):=by
 rfl
theorem ZAI(m_:S5 oM)(q:pU)(k c9:Int)(am:Bool)(b8:pz)(g:Nat)(hg:1<=g:=by omega):P0 k c9 am g (wt m_ q) b8=S8 (wt m_ q):=by
 obtain⟨g,rfl⟩:=sC g;rfl
theorem Lo(m_:S5 oM)(q:pU)(k c9:Int)(am:Bool):BG (wt m_ q) k c9 am=S8 (wt m_ q):=by
 rfl
theorem ZXk(hL:S7 m_<=900000)(dv c9:Int)(am:Bool)(b8:pz):∀(k a f g:Nat),S7 m_-a=k->a<=S7 m_->k+1<=f->k+2<=g ->
  yL m_ a uh qh (LW c9 am f ⟨m_.drop a⟩ ⟨dv,0,0⟩) ((P0 dv c9 am g (wk m_ a) b8).map λw=>(w,())):=by
 intro k;induction k using ZT with
 |ind k ih=>
  intro a f g D ha F hg;obtain⟨f,rfl⟩:=sC f;obtain⟨g,rfl⟩:=sC g;unfold LW P0;simp only[yK,YT,aFc];rcases ZGY (by omega) ha ⟨dv,0,0⟩ trivial with⟨v,b,a',d,e,G,u,rfl⟩|⟨q,b,d,e,hq,A⟩
  .simp only[d,e,oT];rcases ZXe (by omega) u dv v.fN (n_ v.fN c9) am with⟨v2,b2,h,j,o,H,t,rfl⟩|⟨q,b2,j,o,hq,A⟩
   .simp only[j,o,oT];cases v2 with
    |true=>exact .inl ⟨(),(),h,rfl,rfl,by omega,t,trivial⟩
    |false=>
     simp only[aFb];rcases ih (S7 m_-h) (by omega) h f g rfl t (by omega) (by omega)with⟨x,y,B,s1,s2,s3,s4,s5⟩|hq
     .exact .inl ⟨x,y,B,s1,s2,by omega,s4,s5⟩
     .exact .inr hq
   .simp only[j,o,oT];cases b2 with
    |true=>exact .inr ⟨q,(),rfl,rfl,hq,trivial⟩
    |false=>
     simp only[aFb];rw[ZAI m_ q dv c9 am b8 g];exact .inr ⟨q,(),rfl,rfl,hq,trivial⟩
  .simp only[d,e,oT,ZXd,aFb];rw[ZAI m_ q dv c9 am b8 g];exact .inr ⟨q,(),rfl,rfl,hq,trivial⟩
theorem alE(hL:S7 m_<=900000)(ha:a<=S7 m_)(dv c9:Int)(am:Bool):yL m_ a uh qh (CR ⟨m_.drop a⟩ dv c9 am) ((BG (wk m_ a) dv c9 am).map λw=>(w,())):=by
 unfold CR BG;exact ZXk hL dv c9 am _ _ a 1000000 1000000 rfl ha (by omega) (by omega)
theorem H6(h:i<=1000000:=by omega):pR ((i+1:Nat):Int) 1=(i:Int):=by
 unfold pR;have:TZ.wrap (((i+1:Nat):Int)-1)=((i+1:Nat):Int)-1:=B0;omega
theorem acj:pR 0 1 = -1:=by decide
theorem ZAK(hL:S7 m_<=1000000)(p:Int)(am:Bool)(b6:pz):∀(n a f g:Nat)(m:Bool),n<=tN p->a<=S7 m_->n+1<=f->n+1<=g->(0<n->m=(am&&decide (n=tN p))) ->
  yL m_ a uh qh (Fc p am f ((n:Int)-1) ⟨m_.drop a⟩) ((HO g m ((n:Int)-1) (wk m_ a) b6).map λw=>(w,()))/\∀q m,HO g m ((n:Int)-1) (wt m_ q) b6=S8 (wt m_ q):=by
 have J:=JF p;intro n;induction n with
 |zero=>
  intro a f g m o ha t hg hm;obtain⟨f,rfl⟩:=sC f;obtain⟨g,rfl⟩:=sC g;have e:¬(((0:Nat):Int)-1>=0):=by omega
  refine⟨?_,λq m=>?_⟩
  .unfold Fc HO;simp only[o8,aE_ e];exact .inl ⟨(),(),a,rfl,rfl,Tq _,ha,trivial⟩
  rfl
 |succ n ih=>
  intro a f g m o ha t hg hm;obtain⟨f,rfl⟩:=sC f;obtain⟨g,rfl⟩:=sC g;have hm:=hm (by omega);have e:(n:Int)>=0:=by omega
  have u:(((n+1:Nat):Int)-1)=(n:Int):=by omega
  have j:pR (n:Int) 1=((n:Int)-1):=by
   cases n with
   |zero=>exact acj
   |succ n=>rw[H6];omega
  rw[u];refine⟨?_,λq m=>?_⟩
  .unfold Fc HO;simp only[o8,aFa e,j];have hp:∃c:Nat,tN p=c+1:=⟨tN p-1,by omega⟩;obtain⟨c,hcp⟩:=hp;have A:∀(v:Unit)(k:Bool),m=k->yL m_ a uh qh
     (tb (uT ⟨m_.drop a⟩ (n_ 2 (n:Int)) k) λm7 k7=>Fc p am f ((n:Int)-1) k7)
     (Option.map (λw=>(w,())) ((qn (wk m_ a) 3 (n_ 2 (n:Int)) m).bind λx2=>HO g Tm ((n:Int)-1) x2 b6)):=by
    rintro v k rfl;rcases alB hL ha (n_ 2 (n:Int)) m with⟨v,b',a',h,d,L,B,-⟩|⟨q,b',h,d,hq,M⟩
    .have d:=JA d;simp only[h,d,oT];rcases(ih a' f g Tm (by omega) B (by omega) (by omega) (λ_=>by grind)).1 with⟨x,y,D,F,G,O,H,I⟩|hq
     .exact .inl ⟨x,y,D,F,G,by omega,H,I⟩
     .exact .inr hq
    .have d:=JA d;simp only[h,d,oT];rw[(ih a f g Tm (by omega) ha (by omega) (by omega) (λ_=>by grind)).2 q Tm];exact .inr ⟨q,(),rfl,rfl,hq,trivial⟩
   cases am with
   |true=>
    simp only[aFc,OF,oT];refine A () _ ?_;rw[hm,hcp,H6]
    grind
   |false=>
    simp_all
  .unfold HO;simp only[o8,aFa e,j,r_,oT];exact(ih 0 (n+1) g (am&&decide (n=tN p)) (by omega) (by omega) (by omega) (by omega) (λ_=>rfl)).2 q Tm
theorem ZSK(hL:S7 m_<=1000000)(ha:a<=S7 m_)(p:Int)(am:Bool):yL m_ a uh qh (Hs ⟨m_.drop a⟩ p am) ((AF (wk m_ a) p am).map λw=>(w,())):=by
 have g:=JF p;unfold Hs AF;rw[OF,OL,oT,oT];have e:pR (tN p:Int) 1=(tN p:Int)-1:=by
  obtain⟨c,d⟩ : ∃c:Nat,tN p=c+1:=⟨tN p-1,by omega⟩;rw[d,H6];omega
 rw[e];exact(ZAK hL p am _ (tN p) a _ _ am (by omega) ha (by omega) (by omega) (λ_=>by simp)).1
theorem OZ(m_:S5 oM)(hL:S7 m_<=1000000)(q:pU)(p:Int)(am:Bool):AF (wt m_ q) p am=S8 (wt m_ q):=by
 have g:=JF p;unfold AF;rw[OL,oT];have e:pR (tN p:Int) 1=(tN p:Int)-1:=by
  obtain⟨c,d⟩ : ∃c:Nat,tN p=c+1:=⟨tN p-1,by omega⟩;rw[d,H6];omega
 rw[e];exact(ZAK hL p am _ (tN p) 0 (tN p+1) _ am (by omega) (by omega) (by omega) (by omega) (λ_=>by simp)).2 q am
theorem ZFw(l:S5 oD)(h:S7 l<=1000000):ZlH l l=S8 Tl:=by
 have aF:∀(k i f:Nat),S7 l-i=k->i<=S7 l->k+1<=f->Qb l l f i=S8 Tl:=by
  intro k;induction k with
  |zero=>
   intro i f e hi g;obtain⟨f,rfl⟩:=sC f;have d:¬((i:Int)<(S7 l:Int)):=by omega
   unfold Qb
   grind
  |succ k ih=>
   intro i f e hi g;obtain⟨f,rfl⟩:=sC f;have d:(i:Int)<(S7 l:Int):=by omega
   have j:n_ (i:Int) 1=((i+1:Nat):Int):=pY (n:=i+1) (by omega) (by simp only[maxLen];omega);unfold Qb;simp only[o8,aFa d,j,aFr,YP,aFb];rw[o9 (by omega),o9 (by omega)];exact ih (i+1) f (by omega) (by omega) (by omega)
 unfold ZlH
 grind
theorem ZFv(l:S5 k_)(h:S7 l<=1000000):ZlG l l=S8 Tl:=by
 have aF:∀(k i f:Nat),S7 l-i=k->i<=S7 l->k+1<=f->Qc l l f i=S8 Tl:=by
  intro k;induction k with
  |zero=>
   intro i f e hi g;obtain⟨f,rfl⟩:=sC f;have d:¬((i:Int)<(S7 l:Int)):=by omega
   unfold Qc
   grind
  |succ k ih=>
   intro i f e hi g;obtain⟨f,rfl⟩:=sC f;have d:(i:Int)<(S7 l:Int):=by omega
   have j:n_ (i:Int) 1=((i+1:Nat):Int):=pY (n:=i+1) (by omega) (by simp only[maxLen];omega);unfold Qc;simp only[o8,aFa d,j,aFr,YP,aFb];rw[o9 (by omega),o9 (by omega)];exact ih (i+1) f (by omega) (by omega) (by omega)
 unfold ZlG
 grind
theorem ZDz(l:S5 a_)(h:S7 l<=1000000):ZkM l l=S8 Tl:=by
 have aF:∀(k i f:Nat),S7 l-i=k->i<=S7 l->k+1<=f->P2 l l f i=S8 Tl:=by
  intro k;induction k with
  |zero=>
   intro i f e hi g;obtain⟨f,rfl⟩:=sC f;have d:¬((i:Int)<(S7 l:Int)):=by omega
   unfold P2
   grind
  |succ k ih=>
   intro i f e hi g;obtain⟨f,rfl⟩:=sC f;have d:(i:Int)<(S7 l:Int):=by omega
   have j:n_ (i:Int) 1=((i+1:Nat):Int):=pY (n:=i+1) (by omega) (by simp only[maxLen];omega);unfold P2;simp only[o8,aFa d,j,aFr,YP,aFb];rw[o9 (by omega),o9 (by omega)];exact ih (i+1) f (by omega) (by omega) (by omega)
 unfold ZkM
 grind
theorem Zxi(v:oM)(h:C5 v):Ziu v v=S8 Tl:=by
 unfold Ziu;simp only[beq_self_eq_true,decide_true,cond_true,ZFw _ h.1,ZFv _ h.2,oT]
theorem Zui(o:pU)(h:C5 o.qL):J1 o o=S8 Tl:=by
 unfold J1;simp only[beq_self_eq_true,decide_true,cond_true,Zxi _ h,oT]
theorem Zxj(r:oZ)(h:S7 r.pG<=1000000):PU r r=S8 Tl:=by
 unfold PU;simp only[beq_self_eq_true,decide_true,cond_true,ZDz _ h,oT]
structure Cx where
 c:List a_
 b:Int
 s:Int
def MZ(K:Cx)(x:Int):Prop:=(0<=x/\x<((S7 K.c:Nat):Int))/\(K.c.getD x.toNat a_.d).c_.b_.ok
def Rg(K:Cx)(l:S5 Int):Prop:=∀x∈l,MZ K x
theorem Rg.app{K:Cx}{r:S5 Int}(h:Rg K l)(d:Rg K r):Rg K (l++r):=λx hx=>(T9.1 hx).elim (h x) (d x)
theorem Rg.take{K:Cx}(h:Rg K l)(k:Nat):Rg K (l.take k):=λx hx=>h x (Un hx)
theorem Rg.drop{K:Cx}(h:Rg K l)(k:Nat):Rg K (l.drop k):=λx hx=>h x (List.mem_of_mem_drop hx)
theorem Rg.get{K:Cx}(h:Rg K l)(hi:i<S7 l):MZ K (l.getD i 0):=by rw[ua l _ i hi];exact h _ (ZP hi)
def z6(s:Int)(p:a_):Int:=(OC s (vf p.c_.b_)).getD 0
def kv(b s:Int)(p:a_):Int:=if b=1 then-z6 s p else if b=2 then p.p_ else if b=3 then-p.qo else if b=4 then p.pK else 0
def Ar(b s:Int)(p q:a_):Int:=xm (sK (kv b s p) (kv b s q)) (qK p.c_ q.c_)
theorem ZBq{b s:Int}:Ar b s p q<0↔kv b s p<kv b s q\/(kv b s p=kv b s q/\qK p.c_ q.c_<0):=by simp only[Ar,QY,Q3,EX]
theorem ZQG(a b:Int):sK b a=sK (-a) (-b):=by
 unfold sK;omega
theorem ZPs(p:a_)(s:Int)(h:p.c_.b_.ok):Sj p s=S8 (z6 s p):=by
 obtain⟨m,d,_,_⟩:=ZNl s (vf p.c_.b_);unfold Sj z6;rw[Li _ h,oT,d,oT];rfl
theorem ZIp(p q:a_)(b s:Int)(hp:p.c_.b_.ok)(j:q.c_.b_.ok):ZpN p q b s=S8 (sK (kv b s p) (kv b s q)):=by
 unfold ZpN kv;simp only[ZPs _ _ hp,ZPs _ _ j,ZWx,K7,oT,uo];by_cases d:b=1
 .simp only[aFa d,<-ZQG]
 .simp only[aE_ d];by_cases e:b=2
  .simp only[aFa e]
  .simp only[aE_ e];by_cases g:b=3
   .simp only[aFa g,<-ZQG]
   .simp only[aE_ g];by_cases h:b=4
    .simp only[aFa h]
    .simp only[aE_ h];rfl
theorem ZUe(p q:a_)(b s:Int)(hp:p.c_.b_.ok)(d:q.c_.b_.ok):ZuK p q b s=S8 (Ar b s p q):=by
 unfold ZuK Ar;simp only[ZIp _ _ _ _ hp d,Rs,N_,oT]
def yu(K:Cx)(x y:Int):Int:=Ar K.b K.s (K.c.getD x.toNat a_.d) (K.c.getD y.toNat a_.d)
def r8(K:Cx)(x y:Int):Bool:=decide (yu K x y<0)
theorem ZCq{K:Cx}:r8 K x y=Tl↔yu K x y<0:=by unfold r8;simp
theorem QV{K:Cx}:r8 K x y=Tm↔¬yu K x y<0:=by unfold r8;simp
theorem ZBr{K:Cx}(hx:MZ K x)(d:MZ K y):LV x y K.c K.b K.s=S8 (yu K x y):=by
 unfold LV yu;rw[o9 hx.1,o9 d.1,ZUe _ _ _ _ hx.2 d.2];rfl
theorem ZNV{b s:Int}(d:Ar b s p q<0)(e:Ar b s q r<0):Ar b s p r<0:=by
 rw[ZBq]at *
 rcases d with d|⟨d,g⟩
 .omega
 .rcases e with e|⟨e,h⟩
  .left;omega
  .right;exact⟨by omega,OE g h⟩
theorem ZVO{b s:Int}(g:¬Ar b s p q<0)(j:¬Ar b s q r<0):¬Ar b s p r<0:=by
 rw[ZBq]at *
 rintro (h|⟨h,d⟩)
 .omega
 .by_cases e:kv b s p=kv b s q
  .have n1:¬qK p.c_ q.c_<0:=λx=>g (.inr ⟨e,x⟩);have n2:¬qK q.c_ r.c_<0:=λx=>j (.inr ⟨by omega,x⟩);have e4:qK p.c_ q.c_=0\/0<qK p.c_ q.c_:=by omega
   rcases e4 with e4|e4
   .rw[JC.1 e4]at d;exact n2 d
   .exact n2 (OE (Eh.1 e4) d)
  omega
theorem ZVP(b s:Int)(p:a_):¬Ar b s p p<0:=by
 rw[ZBq];rintro (h|⟨_,h⟩)
 .omega
 .rw[JC.2 rfl]at h;omega
theorem ZIN{K:Cx}(d:r8 K x y=Tl)(e:r8 K y z=Tl):r8 K x z=Tl:=by
 rw[ZCq]at *;exact ZNV d e
theorem EN{K:Cx}(d:r8 K x y=Tm)(e:r8 K y z=Tm):r8 K x z=Tm:=by
 rw[QV]at *;exact ZVO d e
theorem ZUJ{K:Cx}(x:Int):r8 K x x=Tm:=by rw[QV];exact ZVP _ _ _
theorem ZZh{K:Cx}(h:r8 K x y=Tl):r8 K y x=Tm:=by
 cases d:r8 K y x with
 |false=>rfl
 |true=>have:=ZIN h d;rw[ZUJ]at this;cases this
theorem ZYq(L R:S5 α)(x y:α):(L++x :: R).set L.length y=L++y :: R:=by
 simp_all
theorem ZQq(L R:S5 α)(x d:α):(L++x :: R).getD L.length d=x:=by
 simp_all
theorem ZTE{l L R:S5 α}{x y:α}(h:l=L++x :: R)(d:k=S7 L):l.set k y=L++y :: R:=by rw[h,d,ZYq]
theorem G6{l L R:S5 α}{x d:α}(h:l=L++x :: R)(e:k=S7 L):l.getD k d=x:=by rw[h,e,ZQq]
abbrev aN:=S5 Int
variable {K:Cx}
theorem ZRg(P B Q:aN):∀(k:Nat)(A1 A2 C1 C2:aN)(fu:Nat),S7 A2=k->S7 C2=k->S7 A1=S7 C1->k+1<=fu->S7 P+S7 B+S7 Q+2*(S7 A1+k)<=1000000 ->
  Qn (S7 P:Int) ((S7 P+(S7 A1+k)+S7 B:Nat):Int) ((S7 A1+k:Nat):Int) fu (S7 A1:Int) (P++(C1++(A2++(B++(A1++(C2++Q))))))=S8 (P++(C1++(C2++(B++(A1++(A2++Q)))))):=by
 intro k;induction k with
 |zero=>
  intro A1 A2 C1 C2 fu d e g h hb;obtain⟨fu,rfl⟩:=sC fu;obtain rfl:=ZN d;obtain rfl:=ZN e;unfold Qn;rw[o8,pO]
 |succ k ih=>
  intro A1 A2 C1 C2 fu d e g h hb;obtain⟨fu,rfl⟩:=sC fu;cases A2 with
  |nil=>cases d
  |cons a A2=>
   cases C2 with
   |nil=>cases e
   |cons c C2=>
    simp only[Uw,Nat.add_right_cancel_iff]at d e;unfold Qn;have j:n_ (S7 P:Int) (S7 A1:Int)=((S7 P+S7 A1:Nat):Int):=by rw[s_ (by omega) (by omega)];omega
    have o:n_ ((S7 P+(S7 A1+(k+1))+S7 B:Nat):Int) (S7 A1:Int)=((S7 P+(S7 A1+(k+1))+S7 B+S7 A1:Nat):Int):=by rw[s_ (by omega) (by omega)];omega
    have t:n_ (S7 A1:Int) 1=((S7 A1+1:Nat):Int):=by rw[s_ (by omega) (by omega)];omega
    have hl:(P++(C1++(a :: A2++(B++(A1++(c :: C2++Q)))))).length=S7 P+S7 B+S7 Q+2*(S7 A1+(k+1)):=by simp;omega
    rw[o8,p7,j,o,t,o9 (by rw[hl];omega),o9 (by rw[hl];omega)];simp only[YO];have u:(P++(C1++(a :: A2++(B++(A1++(c :: C2++Q)))))).getD (S7 P+(S7 A1+(k+1))+S7 B+S7 A1) 0=c:=
     G6 (L:=P++(C1++(a :: A2++(B++A1)))) (R:=C2++Q) (by simp) (by simp;omega)
    have y:(P++(C1++(a :: A2++(B++(A1++(c :: C2++Q)))))).getD (S7 P+S7 A1) 0=a:=
     G6 (L:=P++C1) (R:=A2++(B++(A1++(c :: C2++Q)))) (by simp) (by simp;omega)
    have s1:(P++(C1++(a :: A2++(B++(A1++(c :: C2++Q)))))).set (S7 P+S7 A1) c=P++(C1++(c :: A2++(B++(A1++(c :: C2++Q))))):=by
     simp_all
    have s2:(P++(C1++(c :: A2++(B++(A1++(c :: C2++Q)))))).set (S7 P+(S7 A1+(k+1))+S7 B+S7 A1) a=P++(C1++(c :: A2++(B++(A1++(a :: C2++Q))))):=by
     rw[ZTE (L:=P++(C1++(c :: A2++(B++A1)))) (x:=c) (R:=C2++Q) (by simp) (by simp;omega)];simp
    rw[u,y,s1,s2];have:=ih (A1++[a]) A2 (C1++[c]) C2 fu d e (by simp;omega) (by omega) (by simp;omega);simp only[TL,ZO,Vl,ZU,Wf]at this ⊢
    grind
theorem ZFp(P A B C Q:aN)(h:S7 A=S7 C)(hb:S7 P+S7 B+S7 Q+2*S7 A<=1000000)(a b n:Int)(ha:a=(S7 P:Int))(fK:b=((S7 P+S7 A+S7 B:Nat):Int))(d:n=(S7 A:Int)) :
  Qt (P++(A++(B++(C++Q)))) a b n K.c K.b K.s=S8 (P++(C++(B++(A++Q)))):=by
 subst ha fK d;unfold Qt;have:=ZRg P B Q A.length [] A [] C (((S7 A:Int)-0).toNat+2) rfl h.symm rfl (by omega) (by simpa using hb);simpa using this
theorem ZTK(m:Nat):∀(s:Nat)(P X Y Q:aN)(fu:Nat),S7 X+S7 Y<=s->0<S7 X->0<S7 Y->m=S7 P+S7 X->S7 P+S7 X+S7 Y+S7 Q<=1000000->s+1<=fu ->
  Qs (m:Int) K.c K.b K.s fu (S7 X:Int) (S7 Y:Int) (P++(X++(Y++Q)))=S8 (P++(Y++(X++Q))):=by
 intro s;induction s with
 |zero=>omega
 |succ s ih=>
  intro P X Y Q fu u y A hm hb B;obtain⟨fu,rfl⟩:=sC fu;unfold Qs;have g:pR (m:Int) (S7 X:Int)=(S7 P:Int):=by rw[tq (by omega) (by omega)];omega
  by_cases h:S7 X=S7 Y
  .have d:((S7 X:Int) != (S7 Y:Int))=Tm:=by rw[h];simp
   rw[d,aFb,g];have:=ZFp (K:=K) P X [] Y Q h (by simp;omega) (S7 P:Int) (m:Int) (S7 X:Int) rfl (by simp[hm]) rfl;simp_all
  .have d:((S7 X:Int) != (S7 Y:Int))=Tl:=by rw[aFt];omega
   rw[d,aFc,o8,g];by_cases hg:S7 Y<S7 X
   .obtain⟨X1,X2,rfl,hx⟩ : ∃X1 X2,X=X1++X2/\S7 X1=S7 Y:=⟨X.take Y.length,X.drop Y.length,(WE ..).symm,by simp;omega⟩;simp only[TL]at *
    have e:pR ((S7 X1+S7 X2:Nat):Int) (S7 Y:Int)=(S7 X2:Int):=by rw[tq (by omega) (by omega)];omega
    rw[p7,e];have:=ZFp (K:=K) P X1 X2 Y Q hx (by omega) (S7 P:Int) (m:Int) (S7 Y:Int) rfl (by omega) (by omega)
    grind
   .obtain⟨Y1,Y2,rfl,j⟩ : ∃Y1 Y2,Y=Y1++Y2/\S7 Y2=S7 X:=⟨Y.take (S7 Y-S7 X),Y.drop (S7 Y-S7 X),(WE ..).symm,by simp;omega⟩;simp only[TL]at *
    have e:pR ((S7 Y1+S7 Y2:Nat):Int) (S7 X:Int)=(S7 Y1:Int):=by rw[tq (by omega) (by omega)];omega
    have o:n_ (m:Int) ((S7 Y1+S7 Y2:Nat):Int)=((m+S7 Y1+S7 Y2:Nat):Int):=by rw[s_ (by omega) (by omega)];omega
    have t:pR ((m+S7 Y1+S7 Y2:Nat):Int) (S7 X:Int)=((S7 P+S7 X+S7 Y1:Nat):Int):=by rw[tq (by omega) (by omega)];omega
    rw[pO,e,o,t];have:=ZFp (K:=K) P X Y1 Y2 Q j.symm (by omega) (S7 P:Int) ((S7 P+S7 X+S7 Y1:Nat):Int) (S7 X:Int) rfl rfl rfl
    grind
theorem amk(P X Y Q:aN)(d:0<S7 X)(e:0<S7 Y)(hb:S7 P+S7 X+S7 Y+S7 Q<=900000)(a m b:Int)(ha:a=(S7 P:Int))(hm:m=((S7 P+S7 X:Nat):Int))(fK:b=((S7 P+S7 X+S7 Y:Nat):Int)) :
  ZdU (P++(X++(Y++Q))) a m b K.c K.b K.s=S8 (P++(Y++(X++Q))):=by
 subst ha hm fK;unfold ZdU;have g:pR ((S7 P+S7 X:Nat):Int) (S7 P:Int)=(S7 X:Int):=by rw[tq (by omega) (by omega)];omega
 have h:pR ((S7 P+S7 X+S7 Y:Nat):Int) ((S7 P+S7 X:Nat):Int)=(S7 Y:Int):=by rw[tq (by omega) (by omega)];omega
 rw[g,h];exact ZTK _ (S7 X+S7 Y) P X Y Q 1000000 (Tq _) d e rfl (by omega) (by omega)
theorem ZNo(d:r8 K z x=Tl)(e:r8 K y x=Tm):r8 K z y=Tl:=by
 cases h:r8 K z y with
 |true=>rfl
 |false=>rw[EN h e]at d;cases d
def qU(K:Cx):aN->aN->aN | [],ys=>ys|x :: xs,[]=>x :: xs|x :: xs,y :: ys=>if r8 K y x=Tl then y :: qU K (x :: xs) ys else x :: qU K xs (y :: ys)
termination_by xs ys=>S7 xs+S7 ys
theorem BF(xs:aN):qU K xs []=xs:=by cases xs<;>simp[qU]
theorem xY(xs:aN):qU K [] xs=xs:=by simp[qU]
theorem zL(xs ys:aN)(h:r8 K y x=Tl):qU K (x :: xs) (y :: ys)=y :: qU K (x :: xs) ys:=by rw[qU,aFa h]
theorem Av(xs ys:aN)(h:r8 K y x=Tm):qU K (x :: xs) (y :: ys)=x :: qU K xs (y :: ys):=by rw[qU,aE_ (by simp[h])]
theorem ZRI:∀(n:Nat)(a b c:aN),S7 a+S7 b+S7 c<=n->qU K (qU K a b) c=qU K a (qU K b c):=by
 intro n;induction n with
 |zero=>
  intro a b c h;obtain rfl:=ZN (show a.length=0 by omega);rw[xY,xY]
 |succ n ih=>
  intro a b c h;cases a with
  |nil=>rw[xY,xY]
  |cons x a=>
   cases b with
   |nil=>rw[BF,xY]
   |cons y b=>
    cases c with
    |nil=>rw[BF,BF]
    |cons z c=>
     simp only[Uw]at h;cases e:r8 K y x with
     |true=>
      rw[zL _ _ e];cases d:r8 K z y with
      |true=>
       rw[zL _ _ d,zL _ _ d,zL _ _ (ZIN d e),<-zL a b e,ih (x :: a) (y :: b) c (by grind)]
      |false=>
       rw[Av _ _ d,Av _ _ d,zL _ _ e,ih (x :: a) b (z :: c) (by grind)]
     |false=>
      rw[Av _ _ e];cases g:r8 K z x with
      |true=>
       have d:=ZNo g e;rw[zL _ _ g,zL _ _ d,zL _ _ g,<-Av a b e,ih (x :: a) (y :: b) c (by grind)]
      |false=>
       rw[Av _ _ g,ih a (y :: b) (z :: c) (by grind)];cases d:r8 K z y with
       |true=>rw[zL _ _ d,Av _ _ g]
       |false=>rw[Av _ _ d,Av _ _ e]
theorem Sa:∀(n:Nat)(x1 x2 y1 y2:aN),S7 x1+S7 y1<=n->(∀y∈y1,∀x∈x2,r8 K y x=Tl)->(∀x∈x1,∀y∈y2,r8 K y x=Tm)->qU K (x1++x2) (y1++y2)=qU K x1 y1++qU K x2 y2:=by
 intro n;induction n with
 |zero=>
  intro x1 x2 y1 y2 h _ _;obtain rfl:=ZN (show x1.length=0 by omega);obtain rfl:=ZN (show y1.length=0 by omega);simp[xY]
 |succ n ih=>
  intro x1 x2 y1 y2 h d e;cases x1 with
  |nil=>
   cases y1 with
   |nil=>simp[xY]
   |cons y y1=>
    cases x2 with
    |nil=>simp[xY]
    |cons x x2=>
     simp only[Uw,XB]at h;rw[YY,Wf,zL _ _ (d y (by simp) x (by simp)),xY];have:=ih [] (x :: x2) y1 y2 (by simp_all) (λy' gU=>d y' (by simp[gU])) (by simp);rw[YY,xY]at this;rw[this];rfl
  |cons x x1=>
   cases y1 with
   |nil=>
    cases y2 with
    |nil=>simp[BF]
    |cons y y2=>
     simp only[Uw,XB]at h;rw[YY,Wf,Av _ _ (e x (by simp) y (by simp)),BF];have:=ih x1 x2 [] (y :: y2) (by simp_all) (by simp) (λx' gW=>e x' (by simp[gW]));rw[YY,BF]at this;rw[this];rfl
   |cons y y1=>
    simp only[Uw]at h;rw[Wf,Wf];cases g:r8 K y x with
    |true=>
     rw[zL _ _ g,zL _ _ g,<-Wf,ih (x :: x1) x2 y1 y2 (by grind) (λy' gU=>d y' (by simp[gU])) e];rfl
    |false=>
     have:=ih x1 x2 (y :: y1) y2 (by grind) d (λx' gW=>e x' (by simp[gW]));rw[Wf]at this;rw[Av _ _ g,Av _ _ g,this];rfl
theorem ZPQ:∀(n:Nat)(a b:aN),S7 a+S7 b<=n->(qU K a b).length=S7 a+S7 b:=by
 intro n;induction n with
 |zero=>
  intro a b h;obtain rfl:=ZN (show a.length=0 by omega);simp[xY]
 |succ n ih=>
  intro a b h;cases a with
  |nil=>simp[xY]
  |cons x a=>
   cases b with
   |nil=>simp[BF]
   |cons y b=>
    simp only[Uw]at h ⊢;cases d:r8 K y x with
    |true=>rw[zL _ _ d,Uw,ih _ _ (by grind)];rfl
    |false=>rw[Av _ _ d,Uw,ih _ _ (by grind)];grind
theorem ZBh:∀(n:Nat)(a b:aN),S7 a+S7 b<=n->∀z∈qU K a b,z∈a\/z∈b:=by
 intro n;induction n with
 |zero=>
  intro a b h z d;obtain rfl:=ZN (show a.length=0 by omega);rw[xY]at d;exact .inr d
 |succ n ih=>
  intro a b h z d;cases a with
  |nil=>rw[xY]at d;exact .inr d
  |cons x a=>
   cases b with
   |nil=>rw[BF]at d;exact .inl d
   |cons y b=>
    simp only[Uw]at h;cases e:r8 K y x with
    |true=>
     rw[zL _ _ e]at d
     grind
    |false=>
     rw[Av _ _ e]at d
     grind
def bv(K:Cx)(l:aN):Prop:=l.Pairwise λx y=>r8 K y x=Tm
theorem ZZe:∀(n:Nat)(a b:aN),S7 a+S7 b<=n->bv K a->bv K b->bv K (qU K a b):=by
 intro n;induction n with
 |zero=>
  intro a b h ha hb;obtain rfl:=ZN (show a.length=0 by omega);rw[xY];exact hb
 |succ n ih=>
  intro a b h ha hb;cases a with
  |nil=>rw[xY];exact hb
  |cons x a=>
   cases b with
   |nil=>rw[BF];exact ha
   |cons y b=>
    simp only[Uw]at h;have fL:=V_.1 ha;have bg:=V_.1 hb;cases d:r8 K y x with
    |true=>
     rw[zL _ _ d];refine V_.2 ⟨λz e=>?_,ih _ _ (by grind) ha bg.2⟩;rcases ZBh _ _ _ (Tq _) z e with q|q
     .have:r8 K x y=Tm:=ZZh d;rcases VJ.1 q with q|q
      .rw[q];exact this
      .exact EN (fL.1 z q) this
     .exact bg.1 z q
    |false=>
     rw[Av _ _ d];refine V_.2 ⟨λz e=>?_,ih _ _ (by grind) fL.2 hb⟩;rcases ZBh _ _ _ (Tq _) z e with q|q
     .exact fL.1 z q
     .rcases VJ.1 q with q|q
      .rw[q];exact d
      .exact EN (bg.1 z q) d
def rT(K:Cx)(l:aN):aN:=l.foldl (λo x=>qU K o [x]) []
theorem E0(l:aN)(x:Int):rT K (l++[x])=qU K (rT K l) [x]:=by unfold rT;simp_all
theorem ZyE(xs ys:aN):rT K (xs++ys)=qU K (rT K xs) (rT K ys):=by
 have:∀n,n<=S7 ys->rT K (xs++ys.take n)=qU K (rT K xs) (rT K (ys.take n)):=by
  intro n;induction n with
  |zero=>intro _;simp[rT,BF]
  |succ n ih=>
   intro h;rw[YR (show n<ys.length by omega),<-Vl,E0,E0,ih (by omega),ZRI _ _ _ _ (Tq _)]
 have h:=this ys.length (Tq _);simp_all
theorem Ek(l:aN):(rT K l).length=S7 l:=by
 have:∀n,n<=S7 l->(rT K (l.take n)).length=n:=by
  intro n;induction n with
  |zero=>intro _;simp[rT]
  |succ n ih=>
   intro h;rw[YR (show n<l.length by omega),E0,ZPQ _ _ _ (Tq _),ih (by omega)];rfl
 have h:=this l.length (Tq _);simp_all
theorem RV{l:aN}(h:Rg K l):Rg K (rT K l):=by
 have:∀n,n<=S7 l->Rg K (rT K (l.take n)):=by
  intro n;induction n with
  |zero=>intro _;simp[rT,Rg]
  |succ n ih=>
   intro d;rw[YR (show n<l.length by omega),E0];intro x hx;rcases ZBh _ _ _ (Tq _) x hx with q|q
   .exact ih (by omega) x q
   .rw[Y9.1 q];exact h _ (ZP _)
 have e:=this l.length (Tq _);simp_all
theorem R9(l:aN):bv K (rT K l):=by
 have:∀n,n<=S7 l->bv K (rT K (l.take n)):=by
  intro n;induction n with
  |zero=>intro _;simp[rT,bv]
  |succ n ih=>
   intro h;rw[YR (show n<l.length by omega),E0];exact ZZe _ _ _ (Tq _) (ih (by omega)) (by simp[bv])
 have h:=this l.length (Tq _);simp_all
theorem ZFV{o1 o2:aN}(g:∀y∈o1,r8 K x y=Tm)(h:∀y∈o2,r8 K x y=Tl):qU K (o1++o2) [x]=o1++x :: o2:=by
 have a:=Sa _ o1 o2 [x] [] (Tq _) (λy d z e=>by rw[Y9.1 d];exact h z e) (by simp);have b:=Sa _ o1 [] [] [x] (Tq _) (by simp) (λz e y d=>by rw[Y9.1 d];exact g z e);simp only[Zz,YY,BF,xY]at a b;rw[a,b];simp
theorem ZYX{o1 o2:aN}(g:∀y∈o1,r8 K y x=Tl)(h:∀y∈o2,r8 K y x=Tm):qU K [x] (o1++o2)=o1++x :: o2:=by
 have a:=Sa _ [] [x] o1 o2 (Tq _) (λy d z e=>by rw[Y9.1 e];exact g y d) (by simp);have b:=Sa _ [x] [] [] o2 (Tq _) (by simp) (λz e y d=>by rw[Y9.1 e];exact h y d);simp only[Zz,YY,BF,xY]at a b;rw[a,b];simp
theorem NS{α:Type}:∀(l:S5 α),S7 l≠0->∃T s,l=T++[s]
 | [x],_=>⟨[],x,rfl⟩
 |x :: y :: l,_=>by
  obtain⟨T,s,h⟩:=NS (y :: l) (by simp)
  grind
theorem ZTA{K:Cx}{T:aN}{s:Int}(h:bv K (T++[s]))(hx:r8 K x s=Tm):∀y∈T++[s],r8 K x y=Tm:=by
 intro y d;rcases T9.1 d with q|q
 .exact EN hx ((Y4.1 h).2.2 y q s (by simp))
 simp_all
theorem ZRR{K:Cx}(P:aN)(x:Int)(hx:MZ K x)(R:aN)(o v8:Int)(k:Int->aN->S6 aN):∀(n:Nat)(S1 S2:aN)(fu:Nat),S7 S1=n->bv K S1->Rg K S1->(∀y∈S2,r8 K x y=Tl)->n+1<=fu->S7 P+S7 S1+S7 S2+S7 R<=900000 ->
  QB (S7 P:Int) o K.c K.b K.s v8 k fu ((S7 P+n:Nat):Int) (P++(S1++(x :: (S2++R))))=k (n_ v8 1) (P++(qU K (S1++S2) [x]++R)):=by
 intro n;induction n with
 |zero=>
  intro S1 S2 fu e hs g h t hb;obtain⟨fu,rfl⟩:=sC fu;obtain rfl:=ZN e;unfold QB;rw[o8,pO,ZFV (o1:=[]) (by simp) h];simp
 |succ n ih=>
  intro S1 S2 fu e hs g h t hb;obtain⟨fu,rfl⟩:=sC fu;obtain⟨T,s,rfl⟩:=NS S1 (by omega);have u:S7 T=n:=by simpa using e
  have A:pR ((S7 P+(n+1):Nat):Int) 1=((S7 P+n:Nat):Int):=by rw[tq (by omega) (by omega)];omega
  have hl:(P++(T++[s]++(x :: (S2++R)))).length=S7 P+(n+1)+1+S7 S2+S7 R:=by simp;omega
  unfold QB;rw[o8,p7,A,o9 (by rw[hl];omega),o9 (by rw[hl];omega)];simp only[YO];have B:(P++(T++[s]++(x :: (S2++R)))).getD (S7 P+(n+1)) 0=x:=G6 (L:=P++(T++[s])) (R:=S2++R) (by simp) (by simp;omega);have D:(P++(T++[s]++(x :: (S2++R)))).getD (S7 P+n) 0=s:=G6 (L:=P++T) (R:=x :: (S2++R)) (by simp) (by simp;omega);rw[B,D,ZBr hx (g s (by simp)),oT,o8];by_cases d:yu K x s<0
  .have gS:r8 K x s=Tl:=ZCq.2 d;have s1:(P++(T++[s]++(x :: (S2++R)))).set (S7 P+(n+1)) s=P++(T++(s :: (s :: (S2++R)))):=by
    simp_all
   have s2:(P++(T++(s :: (s :: (S2++R))))).set (S7 P+n) x=P++(T++(x :: (s :: S2++R))):=by
    simp_all
   rw[aFa d,s1,s2];have:=ih T (s :: S2) fu u (Y4.1 hs).1 (λy j=>g y (by simp[j])) (λy j=>by
    grind) (by omega) (by grind)
   rw[this];simp
  .rw[aE_ d,ZFV (ZTA hs (QV.2 d)) h];simp
theorem ZUW{K:Cx}(P L Q:aN)(d:Rg K L)(hb:S7 P+S7 L+S7 Q<=900000)(a b:Int)(ha:a=(S7 P:Int))(fK:b=((S7 P+S7 L:Nat):Int)) :
  ZcS (P++(L++Q)) a b K.c K.b K.s=S8 (P++(rT K L++Q)):=by
 subst ha fK;have h:n_ (S7 P:Int) 1=((S7 P+1:Nat):Int):=by rw[s_ (by omega) (by omega)];omega
 unfold ZcS;rw[h];cases hL:L with
 |nil=>
  unfold Ks;rw[o8,if_neg (by simp;omega)];simp[rT]
 |cons z Z=>
  rw[<-hL];have fI:1<=S7 L:=by rw[hL];simp
  have aF:∀(j k fu:Nat),S7 L-k=j->1<=k->k<=S7 L->j+1<=fu->Ks (S7 P:Int) ((S7 P+S7 L:Nat):Int) K.c K.b K.s fu ((S7 P+k:Nat):Int) (P++(rT K (L.take k)++(L.drop k++Q)))=S8 (P++(rT K L++Q)):=by
   intro j;induction j with
   |zero=>
    intro k fu o e g t;obtain⟨fu,rfl⟩:=sC fu;unfold Ks
    grind
   |succ j ih=>
    intro k fu o e g t;obtain⟨fu,rfl⟩:=sC fu;unfold Ks;have il:=Ek (K:=K) (L.take k);rw[TQ,Wi g]at il;have u:n_ ((S7 P+k:Nat):Int) 1=((S7 P+(k+1):Nat):Int):=by rw[s_ (by omega) (by omega)];omega
    rw[o8,p7,xZ L 0 k];have:=ZRR (K:=K) P (L.getD k 0) (d.get (by omega)) (L.drop (k+1)++Q) ((S7 P+S7 L:Nat):Int) ((S7 P+k:Nat):Int) (Ks (S7 P:Int) ((S7 P+S7 L:Nat):Int) K.c K.b K.s fu) k (rT K (L.take k)) [] ((((S7 P+k:Nat):Int)-(S7 P:Int)).toNat+2) il (R9 _) (RV (d.take k)) (by simp) (by omega) (by simp[il];omega);simp only[YY,Zz,Wf]at this ⊢;rw[this,u,<-E0,ua L _ k,<-YR (by omega)];exact ih (k+1) fu (by omega) (by omega) (by omega) (by omega)
  have e:rT K (L.take 1)=L.take 1:=by rw[hL];simp[rT,xY]
  have:=aF (S7 L-1) 1 ((((S7 P+S7 L:Nat):Int)-((S7 P+1:Nat):Int)).toNat+2) rfl (Tq _) fI (by omega);simp_all
theorem ZBp(i j:Nat)(h:i+j<=10000000:=by omega):US .i64 (Int.fdiv (US .u64 (n_ (i:Int) (j:Int))) (2 ^ (min (1:Int).toNat (UB .u64))))=(((i+j) / 2:Nat):Int):=by
 have d:n_ (i:Int) (j:Int)=((i+j:Nat):Int):=by rw[s_ (by omega) (by omega)];omega
 have e:US .u64 ((i+j:Nat):Int)=((i+j:Nat):Int):=by
  simp only[US,UB,Ut];simp;omega
 have g:(2:Int) ^ (min (1:Int).toNat (UB .u64))=2:=rfl;rw[d,e,g,Int.fdiv_eq_ediv_of_nonneg _ (by omega),B0];omega
theorem ZPU{K:Cx}(d:r8 K z x=Tl)(e:r8 K z y=Tm):r8 K y x=Tl:=by
 cases h:r8 K y x with
 |true=>rfl
 |false=>rw[EN e h]at d;cases d
theorem Gp{K:Cx}{Y:aN}(h:bv K Y){j:Nat}(hi:i<=j:=by omega)(d:j<S7 Y:=by omega):r8 K (Y.getD j 0) (Y.getD i 0)=Tm:=by
 by_cases e:i=j
 .rw[e];exact ZUJ _
 .rw[ua Y _ j d,ua Y _ i];exact List.pairwise_iff_getElem.1 h i j (by omega) d (by omega)
theorem Zyd{Y:aN}(h:y∈Y.take k):∃i,i<k/\i<S7 Y/\y=Y.getD i 0:=by
 obtain⟨i,hi,rfl⟩:=UZ h;rw[TQ]at hi;exact⟨i,by omega,by omega,by grind⟩
theorem Zzk{Y:aN}(h:y∈Y.drop k):∃i,k<=i/\i<S7 Y/\y=Y.getD i 0:=by
 obtain⟨i,hi,rfl⟩:=UZ h;rw[Uv]at hi;exact⟨k+i,by omega,by omega,by grind⟩
theorem ZVN{P Y Q:aN}(d:k=S7 P+i)(hi:i<S7 Y):(P++(Y++Q)).getD k 0=Y.getD i 0:=by
 grind
theorem alg{K:Cx}(P R:aN)(x iI:Int)(k:Int->Int->aN->S6 aN):∀(Y2 Y1:aN)(fu:Nat),S7 Y2+1<=fu->S7 P+S7 Y1+S7 Y2+S7 R<=900000 ->
  Qk (S7 P:Int) K.c K.b K.s ((S7 P+S7 Y1+S7 Y2+1:Nat):Int) iI k fu ((S7 P+S7 Y1:Nat):Int) (P++(Y1++(x :: (Y2++R))))=S8 (P++(Y1++(Y2++(x :: R)))):=by
 intro Y2;induction Y2 with
 |nil=>
  intro Y1 fu d hb;obtain⟨fu,rfl⟩:=sC fu;unfold Qk;simp only[XB,TY];rw[o8,aE_ (by rw[tq (by omega) (by omega)];omega)];rfl
 |cons y Y2 ih=>
  intro Y1 fu d hb;obtain⟨fu,rfl⟩:=sC fu;simp only[Uw]at d hb ⊢;have e:n_ ((S7 P+S7 Y1:Nat):Int) 1=((S7 P+S7 Y1+1:Nat):Int):=by rw[s_ (by omega) (by omega)];omega
  have hl:(P++(Y1++(x :: (y :: Y2++R)))).length=S7 P+S7 Y1+S7 Y2+S7 R+2:=by simp;omega
  unfold Qk;rw[o8,if_pos (by rw[tq (by omega) (by omega)];omega),e,o9 (by rw[hl];omega),o9 (by rw[hl];omega)];simp only[YO];have g:(P++(Y1++(x :: (y :: Y2++R)))).getD (S7 P+S7 Y1+1) 0=y:=G6 (L:=P++(Y1++[x])) (R:=Y2++R) (by simp) (by simp;omega);have h:(P++(Y1++(x :: (y :: Y2++R)))).getD (S7 P+S7 Y1) 0=x:=G6 (L:=P++Y1) (R:=y :: (Y2++R)) (by simp) (by simp);have s1:(P++(Y1++(x :: (y :: Y2++R)))).set (S7 P+S7 Y1) y=P++(Y1++(y :: (y :: Y2++R))):=by
   simp_all
  have s2:(P++(Y1++(y :: (y :: Y2++R)))).set (S7 P+S7 Y1+1) x=P++(Y1++(y :: (x :: (Y2++R)))):=by
   rw[ZTE (L:=P++(Y1++[y])) (x:=y) (R:=Y2++R) (by simp) (by simp;omega)];simp
  rw[g,h,s1,s2];have:=ih (Y1++[y]) fu (by omega) (by grind);simp only[TL,ZO,Vl,ZU]at this
  grind
theorem alm{K:Cx}(P Y Q:aN)(x:Int)(hs:bv K Y)(hxR:MZ K x)(A:Rg K Y)(hb:S7 P+S7 Y+S7 Q<=800000):∀(s lo hi fu:Nat),hi-lo<=s->lo<=hi->hi<=S7 Y->s+1<=fu->(∀y∈Y.take lo,r8 K y x=Tl)->(∀y∈Y.drop hi,r8 K y x=Tm) ->
  GH (S7 P:Int) K.c K.b K.s fu ((S7 P+1+lo:Nat):Int) ((S7 P+1+hi:Nat):Int) (P++(x :: (Y++Q)))=S8 (P++(qU K [x] Y++Q)):=by
 intro s;have bD:∀(lo hi fu:Nat),lo=hi->hi<=S7 Y->(∀y∈Y.take lo,r8 K y x=Tl)->(∀y∈Y.drop hi,r8 K y x=Tm) ->
   GH (S7 P:Int) K.c K.b K.s (fu+1) ((S7 P+1+lo:Nat):Int) ((S7 P+1+hi:Nat):Int) (P++(x :: (Y++Q)))=S8 (P++(qU K [x] Y++Q)):=by
  intro lo hi fu e B h d;subst e;unfold GH;rw[o8,pO];have ho:=ZYX h d;rw[WE]at ho;have:=alg (K:=K) P (Y.drop lo++Q) x ((S7 P+1+lo:Nat):Int) (GH (S7 P:Int) K.c K.b K.s fu) (Y.take lo) [] 1000000 (by simp;omega) (by simp;omega);simp only[TQ,Wi B,XB,TY,YY]at this;rw[<-Vl (Y.take lo),WE,show P.length+lo+1=S7 P+1+lo by omega]at this;rw[this,ho];simp
 induction s with
 |zero=>
  intro lo hi fu h0 h d D o t;obtain⟨fu,rfl⟩:=sC fu
  grind
 |succ s ih=>
  intro lo hi fu h0 h d D o t;obtain⟨fu,rfl⟩:=sC fu;by_cases e:lo=hi
  .simp_all
  .have hm:(S7 P+1+lo+(S7 P+1+hi)) / 2=S7 P+1+(lo+hi) / 2:=by omega
   have u:(lo+hi) / 2<S7 Y:=by omega
   have hl:(P++(x :: (Y++Q))).length=S7 P+1+S7 Y+S7 Q:=by simp;omega
   unfold GH;rw[o8,p7,ZBp _ _,hm,o9 (by rw[hl];omega),o9 (by rw[hl];omega)];simp only[YO];have F:(P++(x :: (Y++Q))).getD (S7 P+1+(lo+hi) / 2) 0=Y.getD ((lo+hi) / 2) 0:=by
    grind
   rw[F,ZQq,ZBr (A.get u) hxR,oT,o8];have G:n_ ((S7 P+1+(lo+hi) / 2:Nat):Int) 1=((S7 P+1+((lo+hi) / 2+1):Nat):Int):=by rw[s_ (by omega) (by omega)];omega
   by_cases g:yu K (Y.getD ((lo+hi) / 2) 0) x<0
   .rw[aFa g,G];refine ih _ _ fu (by omega) (by omega) d (by omega) (λy j=>?_) t;obtain⟨i,i1,i2,rfl⟩:=Zyd j;exact ZPU (ZCq.2 g) (Gp hs (by omega) u)
   .rw[aE_ g];refine ih _ _ fu (by omega) (by omega) (by omega) (by omega) o (λy j=>?_);obtain⟨i,i1,i2,rfl⟩:=Zzk j;exact EN (Gp hs i1 i2) (QV.2 g)
theorem alf{K:Cx}(P Q:aN)(y e nC:Int)(k:Int->Int->aN->S6 aN):∀(n:Nat)(T U:aN)(fu:Nat),S7 T=n->n+1<=fu->S7 P+S7 T+S7 U+S7 Q<=900000 ->
  Ql e K.c K.b K.s (S7 P:Int) nC k fu ((S7 P+n:Nat):Int) (P++(T++(y :: (U++Q))))=S8 (P++(y :: (T++(U++Q)))):=by
 intro n;induction n with
 |zero=>
  intro T U fu d g hb;obtain⟨fu,rfl⟩:=sC fu;obtain rfl:=ZN d;unfold Ql;rw[o8,pO];rfl
 |succ n ih=>
  intro T U fu d g hb;obtain⟨fu,rfl⟩:=sC fu;obtain⟨T,s,rfl⟩:=NS T (by omega);have j:S7 T=n:=by simpa using d
  simp only[TL,ZO]at hb;have h:pR ((S7 P+(n+1):Nat):Int) 1=((S7 P+n:Nat):Int):=by rw[tq (by omega) (by omega)];omega
  have hl:(P++(T++[s]++(y :: (U++Q)))).length=S7 P+(n+1)+1+S7 U+S7 Q:=by simp;omega
  unfold Ql;rw[o8,p7,h,o9 (by rw[hl];omega),o9 (by rw[hl];omega)];simp only[YO];have o:(P++(T++[s]++(y :: (U++Q)))).getD (S7 P+(n+1)) 0=y:=G6 (L:=P++(T++[s])) (R:=U++Q) (by simp) (by simp;omega);have t:(P++(T++[s]++(y :: (U++Q)))).getD (S7 P+n) 0=s:=G6 (L:=P++T) (R:=y :: (U++Q)) (by simp) (by simp;omega);have s1:(P++(T++[s]++(y :: (U++Q)))).set (S7 P+(n+1)) s=P++(T++(s :: (s :: (U++Q)))):=by
   simp_all
  have s2:(P++(T++(s :: (s :: (U++Q))))).set (S7 P+n) y=P++(T++(y :: (s :: U++Q))):=by
   simp_all
  grind
theorem alk{K:Cx}(P X Q:aN)(y:Int)(hs:bv K X)(hyR:MZ K y)(u:Rg K X)(hb:S7 P+S7 X+S7 Q<=800000):∀(s lo hi fu:Nat),hi-lo<=s->lo<=hi->hi<=S7 X->s+1<=fu->(∀x∈X.take lo,r8 K y x=Tm)->(∀x∈X.drop hi,r8 K y x=Tl) ->
  GI ((S7 P+S7 X:Nat):Int) K.c K.b K.s fu ((S7 P+lo:Nat):Int) ((S7 P+hi:Nat):Int) (P++(X++(y :: Q)))=S8 (P++(qU K X [y]++Q)):=by
 intro s;have bD:∀(lo hi fu:Nat),lo=hi->hi<=S7 X->(∀x∈X.take lo,r8 K y x=Tm)->(∀x∈X.drop hi,r8 K y x=Tl) ->
   GI ((S7 P+S7 X:Nat):Int) K.c K.b K.s (fu+1) ((S7 P+lo:Nat):Int) ((S7 P+hi:Nat):Int) (P++(X++(y :: Q)))=S8 (P++(qU K X [y]++Q)):=by
  intro lo hi fu e A h d;subst e;unfold GI;rw[o8,pO];have ho:=ZFV h d;rw[WE]at ho;have:=alf (K:=K) (P++X.take lo) Q y ((S7 P+S7 X:Nat):Int) ((S7 P+lo:Nat):Int) (GI ((S7 P+S7 X:Nat):Int) K.c K.b K.s fu) (S7 X-lo) (X.drop lo) [] ((((S7 P+S7 X:Nat):Int)-((S7 P+lo:Nat):Int)).toNat+2) (by simp) (by omega) (by simp;omega);simp only[TL,TQ,Wi A,YY,Vl]at this;rw[<-Vl (X.take lo) (X.drop lo),WE,show P.length+lo+(S7 X-lo)=S7 P+X.length by omega]at this;rw[this,ho];simp
 induction s with
 |zero=>
  intro lo hi fu h0 h d B o t;obtain⟨fu,rfl⟩:=sC fu
  grind
 |succ s ih=>
  intro lo hi fu h0 h d B o t;obtain⟨fu,rfl⟩:=sC fu;by_cases e:lo=hi
  .simp_all
  .have hm:(S7 P+lo+(S7 P+hi)) / 2=S7 P+(lo+hi) / 2:=by omega
   have j:(lo+hi) / 2<S7 X:=by omega
   have hl:(P++(X++(y :: Q))).length=S7 P+S7 X+1+S7 Q:=by simp;omega
   unfold GI;rw[o8,p7,ZBp _ _,hm,o9 (by rw[hl];omega),o9 (by rw[hl];omega)];simp only[YO];have D:(P++(X++(y :: Q))).getD (S7 P+(lo+hi) / 2) 0=X.getD ((lo+hi) / 2) 0:=ZVN rfl j;have F:(P++(X++(y :: Q))).getD (S7 P+S7 X) 0=y:=G6 (L:=P++X) (R:=Q) (by simp) (by simp);rw[D,F,ZBr hyR (u.get j),oT];have G:n_ ((S7 P+(lo+hi) / 2:Nat):Int) 1=((S7 P+((lo+hi) / 2+1):Nat):Int):=by rw[s_ (by omega) (by omega)];omega
   by_cases g:yu K y (X.getD ((lo+hi) / 2) 0)<0
   .rw[aFk g,YP,aFb];refine ih _ _ fu (by omega) (by omega) (by omega) (by omega) o (λx hx=>?_);obtain⟨i,i1,i2,rfl⟩:=Zzk hx;exact ZNo (ZCq.2 g) (Gp hs i1 i2)
   .rw[aFo g,YT,aFc,G];refine ih _ _ fu (by omega) (by omega) d (by omega) (λx hx=>?_) t;obtain⟨i,i1,i2,rfl⟩:=Zyd hx;exact EN (QV.2 g) (Gp hs (by omega) j)
def jw(K:Cx)(gr:aN->Int->Int->Int->S5 a_->Int->Int->S6 aN)(N:Nat):Prop:=∀(P X Y Q:aN),0<S7 X->0<S7 Y->bv K X->bv K Y->Rg K X->Rg K Y->S7 X+S7 Y<=N->S7 P+S7 X+S7 Y+S7 Q<=700000->gr (P++(X++(Y++Q))) (S7 P:Int) ((S7 P+S7 X:Nat):Int) ((S7 P+S7 X+S7 Y:Nat):Int) K.c K.b K.s=S8 (P++(qU K X Y++Q))
theorem alr{K:Cx}{gr:aN->Int->Int->Int->S5 a_->Int->Int->S6 aN}(bJ:jw K gr N)(P X Y Q:aN)(hX:bv K X)(hY:bv K Y)(eV:Rg K X)(eW:Rg K Y)(hN:S7 X+S7 Y<=N)(hb:S7 P+S7 X+S7 Y+S7 Q<=700000)(d e gI v20 du v22:Int)(k:Int->Int->Int->aN->S6 aN) :
  MF d e ((S7 P+S7 X+S7 Y:Nat):Int) K.c K.b K.s gr (S7 P:Int) gI v20 du v22 ((S7 P+S7 X:Nat):Int) k (P++(X++(Y++Q)))=S8 (P++(qU K X Y++Q)):=by
 unfold MF;rw[o8,o8];by_cases g:S7 X=0
 .rw[pO];obtain rfl:=ZN g;rw[xY];rfl
 .rw[p7];by_cases h:S7 Y=0
  .rw[pO];obtain rfl:=ZN h;rw[BF];rfl
  .rw[p7,bJ P X Y Q (by omega) (by omega) hX hY eV eW hN hb];rfl
theorem alq{K:Cx}{gr:aN->Int->Int->Int->S5 a_->Int->Int->S6 aN}(bJ:jw K gr N)(P X1 Y1 X2 Y2 Q:aN)(nD:bv K X1)(nE:bv K Y1)(db:bv K X2)(de:bv K Y2)(hR1:Rg K X1)(Jr:Rg K Y1)(EI:Rg K X2)(hR4:Rg K Y2)(nF:S7 X1+S7 Y1<=N)(nG:S7 X2+S7 Y2<=N)
  (hb:S7 P+S7 X1+S7 Y1+S7 X2+S7 Y2+S7 Q<=700000) (d gI du v22:Int) (k:Int->Int->Int->aN->S6 aN) :
  HS (S7 P:Int) d ((S7 P+S7 X1+S7 Y1+S7 X2+S7 Y2:Nat):Int) K.c K.b K.s gr ((S7 P+S7 X1+S7 Y1:Nat):Int) gI ((S7 P+S7 X1:Nat):Int) du v22 k ((S7 P+S7 X1+S7 Y1+S7 X2:Nat):Int) (P++(X1++(Y1++(X2++(Y2++Q))))) =
   S8 (P++(qU K X1 Y1++(qU K X2 Y2++Q))):=by
 have hm:=ZPQ (K:=K) _ X1 Y1 (Tq _);have next:MF (S7 P:Int) d ((S7 P+S7 X1+S7 Y1+S7 X2+S7 Y2:Nat):Int) K.c K.b K.s gr ((S7 P+S7 X1+S7 Y1:Nat):Int) gI ((S7 P+S7 X1:Nat):Int) du v22 ((S7 P+S7 X1+S7 Y1+S7 X2:Nat):Int) k (P++(qU K X1 Y1++(X2++(Y2++Q)))) =
   S8 (P++(qU K X1 Y1++(qU K X2 Y2++Q))):=by
  have:=alr bJ (P++qU K X1 Y1) X2 Y2 Q db de EI hR4 nG (by grind) (S7 P:Int) d gI ((S7 P+S7 X1:Nat):Int) du v22 k
  grind
 unfold HS;rw[o8,o8];by_cases e:S7 X1=0
 .rw[pO];obtain rfl:=ZN e;rw[xY]at next ⊢
  exact next
 .rw[p7];by_cases g:S7 Y1=0
  .rw[pO];obtain rfl:=ZN g;rw[BF]at next ⊢
   exact next
  .rw[p7,bJ P X1 Y1 (X2++(Y2++Q)) (by omega) (by omega) nD nE hR1 Jr nF (by grind),oT];exact next
theorem bv.take{K:Cx}{l:aN}(h:bv K l)(k:Nat):bv K (l.take k):=List.Pairwise.sublist (List.take_sublist k l) h
theorem bv.drop{K:Cx}{l:aN}(h:bv K l)(k:Nat):bv K (l.drop k):=List.Pairwise.sublist (List.drop_sublist k l) h
section
variable {K:Cx} {gr:aN->Int->Int->Int->S5 a_->Int->Int->S6 aN} {N:Nat} (bJ:jw K gr N) (P X Y Q:aN) (hX:bv K X) (hY:bv K Y) (eV:Rg K X) (eW:Rg K Y) (db:0 < X.length) (de:0 < Y.length) (hN:S7 X + Y.length<=N + 1) (hb:S7 P + X.length + Y.length + Q.length<=700000)
 (mid s0 r0:Nat) (tJ:mid=(S7 P+(S7 P+S7 X+S7 Y)) / 2)
 (h0:(mid<S7 P+S7 X/\s0+(S7 P+S7 X+S7 Y)=mid+(S7 P+S7 X)/\r0=mid)\/(S7 P+S7 X<=mid/\s0=S7 P/\r0=S7 P+S7 X))
include bJ hX hY eV eW db de hN hb tJ h0
def CH(K:Cx)(P X Y:aN)(mid c:Nat):Bool:=r8 K (Y.getD (mid-1-c) 0) (X.getD (c-S7 P) 0)
theorem alK(st:Nat)(D:s0<=st)(F:st<=r0)(zC:∀c,s0<=c->c<st->CH K P X Y mid c=Tm)(zD:∀c,st<=c->c<r0->CH K P X Y mid c=Tl)(du v22:Int)(k:Int->Int->Int->aN->S6 aN) :
  (bif(decide ((st:Int)<((S7 P+S7 X:Nat):Int)))then
    bif(decide (((S7 P+S7 X:Nat):Int)<(pR ((mid+(S7 P+S7 X):Nat):Int) (st:Int))))then
     (ZdU (P++(X++(Y++Q))) (st:Int) ((S7 P+S7 X:Nat):Int) (pR ((mid+(S7 P+S7 X):Nat):Int) (st:Int)) K.c K.b K.s).bind λx2=>
     HS (S7 P:Int) ((S7 P+S7 X:Nat):Int) ((S7 P+S7 X+S7 Y:Nat):Int) K.c K.b K.s gr (mid:Int) ((mid+(S7 P+S7 X):Nat):Int) (st:Int) du v22 k (pR ((mid+(S7 P+S7 X):Nat):Int) (st:Int)) x2
    else
     HS (S7 P:Int) ((S7 P+S7 X:Nat):Int) ((S7 P+S7 X+S7 Y:Nat):Int) K.c K.b K.s gr (mid:Int) ((mid+(S7 P+S7 X):Nat):Int) (st:Int) du v22 k (pR ((mid+(S7 P+S7 X):Nat):Int) (st:Int)) (P++(X++(Y++Q)))
   else
    HS (S7 P:Int) ((S7 P+S7 X:Nat):Int) ((S7 P+S7 X+S7 Y:Nat):Int) K.c K.b K.s gr (mid:Int) ((mid+(S7 P+S7 X):Nat):Int) (st:Int) du v22 k (pR ((mid+(S7 P+S7 X):Nat):Int) (st:Int)) (P++(X++(Y++Q))))=S8 (P++(qU K X Y++Q)):=by
 have ha:S7 P<=st:=by omega
 have hmm:st<=mid:=by omega
 have cC:st-S7 P<=S7 X:=by omega
 have sR:mid-st<=S7 Y:=by omega
 obtain⟨e,o⟩ : ∃e,st=S7 P+e:=⟨st-S7 P,by omega⟩;obtain⟨d,G⟩ : ∃d,mid=st+d:=⟨mid-st,by omega⟩;have ee:pR ((mid+(S7 P+S7 X):Nat):Int) (st:Int)=((S7 P+S7 X+d:Nat):Int):=by rw[tq (by omega) (by omega)];omega
 have t:∀y∈Y.take d,∀x∈X.drop e,r8 K y x=Tl:=by
  intro y g x hx;obtain⟨i,i1,i2,rfl⟩:=Zyd g;obtain⟨j,j1,j2,rfl⟩:=Zzk hx;have h:=zD st (Tq _) (by omega);unfold CH at h;rw[show mid-1-st=d-1 by omega,show st-S7 P=e by omega]at h;exact ZNo (ZPU h (Gp hY)) (Gp hX j1 j2)
 have u:∀x∈X.take e,∀y∈Y.drop d,r8 K y x=Tm:=by
  intro x hx y g;obtain⟨i,i1,i2,rfl⟩:=Zyd hx;obtain⟨j,j1,j2,rfl⟩:=Zzk g;have h:=zC (st-1) (by omega) (by omega);unfold CH at h;rw[show mid-1-(st-1)=d by omega,show st-1-S7 P=e-1 by omega]at h;exact EN (EN (Gp hY j1 j2) h) (Gp hX)
 have H:qU K X Y=qU K (X.take e) (Y.take d)++qU K (X.drop e) (Y.drop d):=by
  have:=Sa (K:=K) _ (X.take e) (X.drop e) (Y.take d) (Y.drop d) (Tq _) t u;simp_all
 have l1:(X.take e).length=e:=by simp;omega
 have l2:(Y.take d).length=d:=by simp;omega
 have l3:(X.drop e).length=S7 X-e:=by simp
 have l4:(Y.drop d).length=S7 Y-d:=by simp
 have last:=alq bJ P (X.take e) (Y.take d) (X.drop e) (Y.drop d) Q (hX.take _) (hY.take _) (hX.drop _) (hY.drop _) (eV.take _) (eW.take _) (eV.drop _) (eW.drop _) (by omega) (by omega) (by omega) ((S7 P+S7 X:Nat):Int) ((mid+(S7 P+S7 X):Nat):Int) du v22 k;rw[l1,l2,l3,l4,show P.length+e+d+(S7 X-e)+(S7 Y-d)=S7 P+S7 X+Y.length by omega,show P.length+e+d+(S7 X-e)=S7 P+S7 X+d by omega,show P.length+e+d=mid by omega,<-o]at last;have A:P++(X++(Y++Q))=P++X.take e++(X.drop e++(Y.take d++(Y.drop d++Q))):=by
  rw[<-Vl (Y.take d),WE,Vl,<-Vl (X.take e),WE]
 have B:S8 (P++(qU K (X.take e) (Y.take d)++(qU K (X.drop e) (Y.drop d)++Q)))=S8 (P++(qU K X Y++Q)):=by simp_all
 rw[B]at last;rw[ee,o8,o8];by_cases I:e<S7 X
 .rw[p7];by_cases J:0<d
  .rw[p7,A,amk (P++X.take e) (X.drop e) (Y.take d) (Y.drop d++Q) (by omega) (by omega) (by grind) _ _ _ (by simp_all) (by grind) (by grind),oT];simp_all
  simp_all
 grind
end
section
variable {K:Cx} {gr:aN->Int->Int->Int->S5 a_->Int->Int->S6 aN} {N:Nat} (bJ:jw K gr N) (P X Y Q:aN) (hX:bv K X) (hY:bv K Y) (eV:Rg K X) (eW:Rg K Y) (db:0 < X.length) (de:0 < Y.length) (hN:S7 X + Y.length<=N + 1) (hb:S7 P + X.length + Y.length + Q.length<=700000)
 (mid s0 r0:Nat) (tJ:mid=(S7 P+(S7 P+S7 X+S7 Y)) / 2)
 (h0:(mid<S7 P+S7 X/\s0+(S7 P+S7 X+S7 Y)=mid+(S7 P+S7 X)/\r0=mid)\/(S7 P+S7 X<=mid/\s0=S7 P/\r0=S7 P+S7 X))
include bJ hX hY eV eW db de hN hb tJ h0
omit bJ hN hb eV eW in
theorem ZEl{c c':Nat}(d:s0<=c')(e:c'<=c)(g:c<r0)(h:CH K P X Y mid c=Tm):CH K P X Y mid c'=Tm:=by
 unfold CH at *
 exact EN (EN (Gp hY) h) (Gp hX)
theorem ZQK:∀(s lo hi fu:Nat),hi-lo<=s->s0<=lo->lo<=hi->hi<=r0->s+1<=fu->(∀c,s0<=c->c<lo->CH K P X Y mid c=Tm)->(∀c,hi<=c->c<r0->CH K P X Y mid c=Tl) ->
  Fg (S7 P:Int) ((S7 P+S7 X:Nat):Int) ((S7 P+S7 X+S7 Y:Nat):Int) K.c K.b K.s gr (mid:Int) ((mid+(S7 P+S7 X):Nat):Int) fu (lo:Int) (hi:Int) ((mid+(S7 P+S7 X)-1:Nat):Int) (P++(X++(Y++Q)))=S8 (P++(qU K X Y++Q)):=by
 intro s;have bD:∀(lo fu:Nat),s0<=lo->lo<=r0->(∀c,s0<=c->c<lo->CH K P X Y mid c=Tm)->(∀c,lo<=c->c<r0->CH K P X Y mid c=Tl) ->
   Fg (S7 P:Int) ((S7 P+S7 X:Nat):Int) ((S7 P+S7 X+S7 Y:Nat):Int) K.c K.b K.s gr (mid:Int) ((mid+(S7 P+S7 X):Nat):Int) (fu+1) (lo:Int) (lo:Int) ((mid+(S7 P+S7 X)-1:Nat):Int) (P++(X++(Y++Q)))=S8 (P++(qU K X Y++Q)):=by
  intro lo fu d g y A;unfold Fg;rw[o8,pO];exact alK bJ P X Y Q hX hY eV eW db de hN hb mid s0 r0 tJ h0 lo d g y A _ _ _
 induction s with
 |zero=>
  intro lo hi fu B o D t F d g;obtain⟨fu,rfl⟩:=sC fu
  grind
 |succ s ih=>
  intro lo hi fu B o D t F d g;obtain⟨fu,rfl⟩:=sC fu;by_cases e:lo=hi
  .simp_all
  .have t1:(lo+hi) / 2<r0:=by omega
   have t2:s0<=(lo+hi) / 2:=by omega
   have ep:pR ((mid+(S7 P+S7 X)-1:Nat):Int) (((lo+hi) / 2:Nat):Int)=((S7 P+S7 X+(mid-1-(lo+hi) / 2):Nat):Int):=by rw[tq (by omega) (by omega)];omega
   have hl:(P++(X++(Y++Q))).length=S7 P+S7 X+S7 Y+S7 Q:=by simp;omega
   have nH:n_ (((lo+hi) / 2:Nat):Int) 1=(((lo+hi) / 2+1:Nat):Int):=by rw[s_ (by omega) (by omega)];omega
   unfold Fg;rw[o8,p7,ZBp _ _,ep,o9 (by rw[hl];omega),o9 (by rw[hl];omega)];simp only[YO];have G:(P++(X++(Y++Q))).getD (S7 P+S7 X+(mid-1-(lo+hi) / 2)) 0=Y.getD (mid-1-(lo+hi) / 2) 0:=by
    grind
   have H:(P++(X++(Y++Q))).getD ((lo+hi) / 2) 0=X.getD ((lo+hi) / 2-S7 P) 0:=ZVN (by omega) (by omega);rw[G,H,ZBr (eW.get (by omega)) (eV.get (by omega)),oT,nH];by_cases h:yu K (Y.getD (mid-1-(lo+hi) / 2) 0) (X.getD ((lo+hi) / 2-S7 P) 0)<0
   .have ok:CH K P X Y mid ((lo+hi) / 2)=Tl:=ZCq.2 h;rw[aFk h,YP,aFb];refine ih lo _ fu (by omega) o (by omega) (by omega) (by omega) d (λc j u=>?_);cases q:CH K P X Y mid c with
    |true=>rfl
    |false=>
     have:=ZEl P X Y hX hY db de mid s0 r0 tJ h0 t2 j u q;simp_all
   .have ok:CH K P X Y mid ((lo+hi) / 2)=Tm:=QV.2 h;rw[aFo h,YT,aFc];exact ih _ hi fu (by omega) (by omega) (by omega) t (by omega) (λc j u=>ZEl P X Y hX hY db de mid s0 r0 tJ h0 j (by omega) t1 ok) g
end
theorem am7{K:Cx}{gr:aN->Int->Int->Int->S5 a_->Int->Int->S6 aN}(bJ:jw K gr N):jw K (Zem gr) (N+1):=by
 intro P X Y Q db de hX hY eV eW hN hb;unfold Zem;have g:pR ((S7 P+S7 X:Nat):Int) (S7 P:Int)=(S7 X:Int):=by rw[tq (by omega) (by omega)];omega
 have h:pR ((S7 P+S7 X+S7 Y:Nat):Int) ((S7 P+S7 X:Nat):Int)=(S7 Y:Int):=by rw[tq (by omega) (by omega)];omega
 rw[g,h,uo,uo];by_cases j:S7 X=1
 .rw[p7];obtain⟨x,rfl⟩ : ∃x,X=[x]:=by
   cases X with
   |nil=>cases j
   |cons x X=>simp_all
  have:=alm P Y Q x hY (eV x (by simp)) eW (by omega) Y.length 0 Y.length ((((S7 P+[x].length+S7 Y:Nat):Int)-((S7 P+[x].length:Nat):Int)).toNat+2) (by omega) (by omega) (Tq _) (by omega) (by simp) (by simp);exact this
 .rw[pO];by_cases o:S7 Y=1
  .rw[p7];obtain⟨y,rfl⟩ : ∃y,Y=[y]:=by
    cases Y with
    |nil=>cases o
    |cons y Y=>simp_all
   have:=alk P X Q y hX (eW y (by simp)) eV (by omega) X.length 0 X.length ((((S7 P+S7 X:Nat):Int)-(S7 P:Int)).toNat+2) (by omega) (by omega) (Tq _) (by omega) (by simp) (by simp);exact this
  .rw[pO];rw[ZBp _ _];obtain⟨mid,tJ⟩ : ∃mid,mid=(S7 P+(S7 P+S7 X+S7 Y)) / 2:=⟨_,rfl⟩;rw[<-tJ];have en:n_ (mid:Int) ((S7 P+S7 X:Nat):Int)=((mid+(S7 P+S7 X):Nat):Int):=by rw[s_ (by omega) (by omega)];omega
   have ep:pR ((mid+(S7 P+S7 X):Nat):Int) 1=((mid+(S7 P+S7 X)-1:Nat):Int):=by rw[tq (by omega) (by omega)];omega
   rw[en,o8];by_cases t:mid<S7 P+S7 X
   .have es:pR ((mid+(S7 P+S7 X):Nat):Int) ((S7 P+S7 X+S7 Y:Nat):Int)=((mid+(S7 P+S7 X)-(S7 P+S7 X+S7 Y):Nat):Int):=by rw[tq (by omega) (by omega)];omega
    rw[p7,es];unfold Zdf;rw[ep];exact ZQK bJ P X Y Q hX hY eV eW db de hN hb mid (mid+(S7 P+S7 X)-(S7 P+S7 X+S7 Y)) mid tJ (.inl ⟨t,by omega,rfl⟩) _ _ _ _ (Tq _) (Tq _) (by omega) (Tq _) (by omega) (λc d e=>by omega) (λc d e=>by omega)
   .rw[pO];unfold Zdf;rw[ep];exact ZQK bJ P X Y Q hX hY eV eW db de hN hb mid P.length (S7 P+S7 X) tJ (.inr ⟨by omega,rfl,rfl⟩) _ _ _ _ (Tq _) (Tq _) (by omega) (Tq _) (by omega) (λc d e=>by omega) (λc d e=>by omega)
theorem ZOU{K:Cx}:∀fu,jw K (Mz fu) fu
 | 0=>λP X Y Q d e _ _ _ _ g=>by omega
 |fu+1=>λP X Y Q d e g h j h6 o t=>by
  unfold Mz
  exact am7 (ZOU fu) P X Y Q d e g h j h6 o t
inductive ui (K:Cx) (B:Nat):aN->aN->Prop
 |last (L:aN) (h:S7 L<=B):ui K B L (rT K L)
 |more (L D:aN) (h:B<=S7 L) (r:ui K B (L.drop B) D):ui K B L (rT K (L.take B)++D)
theorem ui.len{K:Cx}{B:Nat}{L D:aN}(h:ui K B L D):S7 D=S7 L:=by
 induction h with
 |last L h=>exact Ek L
 |more L D h r ih=>rw[TL,Ek,ih];simp;omega
theorem ui.one{K:Cx}{B:Nat}(d:0<B){L D:aN}(h:ui K B L D)(hl:S7 L<=B):D=rT K L:=by
 cases h with
 |last _ h=>rfl
 |more _ D h r=>
  have:S7 L=B:=by omega
  have e:L.drop B=[]:=Y_ (by omega);have g:=r.len
  grind
theorem ui.split{K:Cx}{B:Nat}{L D:aN}(h:ui K B L D)(hl:B<=S7 L):∃D1,D=rT K (L.take B)++D1/\ui K B (L.drop B) D1:=by
 cases h with
 |last _ h=>
  have e:S7 L=B:=by omega
  refine⟨[],by grind,?_⟩;rw[Y_ (by omega)];exact ui.last [] (by simp)
 |more _ D h r=>exact⟨D,rfl,r⟩
theorem al2{K:Cx}(B:Nat)(t:0<B)(ln:B<=800)(A:Int->Int->Int->aN->S6 aN)(u:Int->aN->S6 aN):∀(s:Nat)(L P D:aN)(fu:Nat),S7 L<2*B*(s+1)->s+1<=fu->S7 P+S7 L<=900->Rg K L->ui K B L D ->
  ∃D',ui K (2*B) L D'/\MA ((S7 P+S7 L:Nat):Int) K.c K.b K.s (B:Int) A u fu (S7 P:Int) ((S7 P+2*B:Nat):Int) (P++D)=u ((2*B:Nat):Int) (P++D'):=by
 intro s;induction s with
 |zero=>
  intro L P D fu y F hb d h;obtain⟨fu,rfl⟩:=sC fu;have g:n_ (S7 P:Int) (B:Int)=((S7 P+B:Nat):Int):=by rw[s_ (by omega) (by omega)];omega
  have G:u6 (B:Int) 2=((2*B:Nat):Int):=by rw[La];omega
  unfold MA;rw[o8,pO,g,G,o8];refine⟨rT K L,ui.last L (by omega),?_⟩;by_cases M:B<S7 L
  .obtain⟨D1,rfl,j⟩:=h.split (by omega);have e:=j.one t (by simp;omega);subst e;have l1:(rT K (L.take B)).length=B:=by rw[Ek];simp;omega
   have l2:(rT K (L.drop B)).length=S7 L-B:=by rw[Ek];simp
   have hm:=ZOU (K:=K) 1000 P (rT K (L.take B)) (rT K (L.drop B)) [] (by omega) (by omega) (R9 _) (R9 _) (RV (d.take _)) (RV (d.drop _)) (by omega) (by simp;omega);rw[l1,l2,show P.length+B+(S7 L-B)=S7 P+L.length by omega,<-ZyE,WE,Zz,Zz]at hm;simp_all
  .rw[pO,h.one t (by omega)]
 |succ s ih=>
  intro L P D fu y F hb d h;rw[Nat.mul_succ]at y;by_cases H:2*B<=S7 L
  .obtain⟨fu,rfl⟩:=sC fu;have g:n_ (S7 P:Int) (B:Int)=((S7 P+B:Nat):Int):=by rw[s_ (by omega) (by omega)];omega
   have I:u6 (2:Int) (B:Int)=((2*B:Nat):Int):=by rw[La];omega
   have J:n_ ((S7 P+2*B:Nat):Int) ((2*B:Nat):Int)=((S7 P+2*B+2*B:Nat):Int):=by rw[s_ (by omega) (by omega)];omega
   unfold MA;rw[o8,g,I,J];obtain⟨D1,rfl,j⟩:=h.split (by omega);obtain⟨D2,rfl,o⟩:=j.split (by simp;omega);have l1:(rT K (L.take B)).length=B:=by rw[Ek];simp;omega
   have l2:(rT K ((L.drop B).take B)).length=B:=by rw[Ek];simp;omega
   have lD:=o.len;simp only[Uv]at lD;have hm:=ZOU (K:=K) 1000 P (rT K (L.take B)) (rT K ((L.drop B).take B)) D2 (by omega) (by omega) (R9 _) (R9 _) (RV (d.take _)) (RV ((d.drop _).take _)) (by omega) (by omega);rw[l1,l2,show P.length+B+B=S7 P+2*B by omega,<-ZyE]at hm;have et:L.take B++(L.drop B).take B=L.take (2*B):=by rw[show 2*B=B+B by omega,List.take_add]
   have ed:(L.drop B).drop B=L.drop (2*B):=by simp_all;omega
   rw[et]at hm;rw[ed]at o;rw[p7,hm,oT];have lt:(rT K (L.take (2*B))).length=2*B:=by rw[Ek];simp;omega
   obtain⟨D',d1,d2⟩:=ih (L.drop (2*B)) (P++rT K (L.take (2*B))) D2 fu (by grind) (by omega) (by grind) (d.drop _) o;refine⟨rT K (L.take (2*B))++D',ui.more L D' H d1,?_⟩
   grind
  .obtain⟨fu,rfl⟩:=sC fu;have hp:S7 L<2*B*(s+1):=by
    grind
   exact ih L P D (fu+1) hp (by omega) hb d h
theorem al1{K:Cx}(v7 v8:Int)(d:Int->Int->Int->aN->S6 aN)(L:aN)(hL:S7 L<=800)(g:Rg K L):∀(s B:Nat)(D:aN)(fu:Nat),S7 L-B<=s->0<B->B<=1600->s+1<=fu->ui K B L D ->
  Kt (S7 L:Int) K.c K.b K.s v7 v8 d fu (B:Int) D=S8 (rT K L):=by
 intro s;induction s with
 |zero=>
  intro B D fu j e ln o h;obtain⟨fu,rfl⟩:=sC fu;unfold Kt;rw[o8,pO,h.one e (by omega)]
 |succ s ih=>
  intro B D fu j e ln o h;obtain⟨fu,rfl⟩:=sC fu;unfold Kt;rw[o8];by_cases A:B<S7 L
  .have t:u6 (2:Int) (B:Int)=((2*B:Nat):Int):=by rw[La];omega
   rw[p7,t];have u:S7 L / (2*B)+1<=(((S7 L:Nat):Int)-((2*B:Nat):Int)).toNat+2:=by
    by_cases y:S7 L<2*B
    .rw[Nat.div_eq_of_lt y];omega
    .rw[Nat.div_eq_sub_div (by omega) (by omega)];have:=Nat.div_le_self (S7 L-2*B) (2*B);omega
   obtain⟨D',d1,d2⟩:=al2 B e (by omega) d (Kt (S7 L:Int) K.c K.b K.s v7 v8 d fu) (S7 L / (2*B)) L [] D _ (Nat.lt_mul_div_succ _ (by omega)) u (by simp;omega) g h;simp only[XB,TX,YY]at d2;have nI:MA (S7 L:Int) K.c K.b K.s (B:Int) d (Kt (S7 L:Int) K.c K.b K.s v7 v8 d fu) ((((S7 L:Nat):Int)-((2*B:Nat):Int)).toNat+2) 0 ((2*B:Nat):Int) D=_:=d2;rw[nI];exact ih (2*B) D' fu (by omega) (by omega) (by omega) (by omega) d1
  .rw[pO,h.one e (by omega)]
theorem al0{K:Cx}(A:aN)(g:S7 A<=800)(h:Rg K A):∀(s:Nat)(L P:aN)(fu:Nat),S7 L<20*(s+1)->s+1<=fu->S7 P+S7 L=S7 A->Rg K L->(∀D,ui K 20 L D->ui K 20 A (P++D)) ->
  HQ (S7 A:Int) K.c K.b K.s fu 20 (S7 P:Int) ((S7 P+20:Nat):Int) (P++L)=S8 (rT K A):=by
 intro s;have bD:∀(L P:aN)(fu:Nat),S7 L<20->S7 P+S7 L=S7 A->Rg K L->(∀D,ui K 20 L D->ui K 20 A (P++D)) ->
   HQ (S7 A:Int) K.c K.b K.s (fu+1) 20 (S7 P:Int) ((S7 P+20:Nat):Int) (P++L)=S8 (rT K A):=by
  intro L P fu e hl lv d;unfold HQ;have hi:=ZUW (K:=K) P L [] lv (by simp;omega) (S7 P:Int) (S7 A:Int) rfl (by omega);simp only[Zz]at hi;rw[o8,pO,hi,oT];exact al1 _ _ _ A g h (S7 A-20) 20 _ _ (Tq _) (by omega) (by omega) (by omega) (d _ (ui.last L (by omega)))
 induction s with
 |zero=>
  intro L P fu e j hl lv d;obtain⟨fu,rfl⟩:=sC fu;simp_all
 |succ s ih=>
  intro L P fu e j hl lv d;obtain⟨fu,rfl⟩:=sC fu;by_cases u:S7 L<20
  .simp_all
  .unfold HQ;have lt:(L.take 20).length=20:=by simp;omega
   have hi:=ZUW (K:=K) P (L.take 20) (L.drop 20) (lv.take _) (by simp;omega) (S7 P:Int) ((S7 P+20:Nat):Int) rfl (by rw[lt]);rw[WE]at hi;have o:n_ ((S7 P+20:Nat):Int) 20=((S7 P+20+20:Nat):Int):=by rw[s_ (by omega) (by omega)];omega
   rw[o8,p7,hi,oT,o];have li:(rT K (L.take 20)).length=20:=by rw[Ek,lt]
   have:=ih (L.drop 20) (P++rT K (L.take 20)) fu (by grind) (by omega) (by grind) (lv.drop _) (λD t=>by
    have:=d _ (ui.more L D (by omega) t);simp_all)
   simp_all
theorem ZHX{K:Cx}(A:aN)(e:S7 A<=800)(d:Rg K A):ZdZ A K.c K.b K.s=S8 (rT K A):=by
 unfold ZdZ Zhh;have g:S7 A / 20+1<=(((S7 A:Nat):Int)-(20:Int)).toNat+2:=by omega
 have:=al0 (K:=K) A e d (S7 A / 20) A [] ((((S7 A:Nat):Int)-(20:Int)).toNat+2) (by omega) g (by simp) d (λD h=>h);simp only[XB,TX,YY]at this;have d6:HQ (S7 A:Int) K.c K.b K.s ((((S7 A:Nat):Int)-(20:Int)).toNat+2) 20 0 20 A=S8 (rT K A):=this;rw[d6];rfl
def uz(K:Cx):Int->aN->Int|b,[]=>b|b,y :: r=>if r8 K y b=Tl then uz K y r else uz K b r
theorem ZGP{K:Cx}(y:Int):∀(l:aN)(b:Int),uz K b (l++[y])=if r8 K y (uz K b l)=Tl then y else uz K b l
 | [],b=>rfl
 |x :: r,b=>by
  simp only[Wf,uz]
  split
  .exact ZGP y r x
  .exact ZGP y r b
theorem ZGO{K:Cx}:∀(l:aN)(b:Int),uz K b l∈b :: l
 | [],b=>by simp[uz]
 |x :: r,b=>by
  simp only[uz]
  split
  .exact List.mem_cons_of_mem _ (ZGO r x)
  .rcases VJ.1 (ZGO (K:=K) r b)with h|h
   all_goals simp_all
theorem amq{l:aN}(h:y ∉ l):l.filter (λx=>x != y)=l:=VX.2 λx hx=>by
 grind
theorem ZRQ{K:Cx}(b:Int)(l:aN)(g:(b :: l).Nodup):rT K (b :: l)=uz K b l :: rT K ((b :: l).filter λx=>x != uz K b l):=by
 have aF:∀n,n<=S7 l->rT K (b :: l.take n)=uz K b (l.take n) :: rT K ((b :: l.take n).filter λx=>x != uz K b (l.take n)):=by
  intro n;induction n with
  |zero=>intro _;simp[rT,uz,xY]
  |succ n ih=>
   intro h;have d:l.take (n+1)=l.take n++[l[n]]:=YR (show n<l.length by omega);have hn2:(b :: l.take n++[l[n]]).Nodup:=by
    grind
   have co:l[n] ∉ b :: l.take n:=λhm=>(Vk.1 hn2).2.2 _ hm _ (by simp) rfl;have e:b :: l.take (n+1)=(b :: l.take n)++[l[n]]:=by rw[d];rfl
   have hm:=ZGO (K:=K) (l.take n) b;rw[e,E0,ih (by omega),d,ZGP];cases qI:r8 K l[n] (uz K b (l.take n))with
   |true=>
    rw[aFa rfl,zL _ _ qI,BF,<-ih (by omega),Wa,amq co];simp
   |false=>
    have qN:l[n]≠uz K b (l.take n):=λh=>co (h ▸ hm);rw[aE_ (by decide),Av _ _ qI,Wa,<-E0]
    grind
 have:=aF l.length (Tq _);simp_all
def A0(K:Cx):Nat->aN->aN|0,_=>[]|_+1,[]=>[]|n+1,b :: l=>uz K b l :: A0 K n ((b :: l).filter λx=>x != uz K b l)
theorem ZPh{K:Cx}:∀(n:Nat)(L:aN),L.Nodup->A0 K n L=(rT K L).take n
 | 0,_,_=>by simp[A0]
 |n+1,[],_=>by simp[A0,rT]
 |n+1,b :: l,h=>by
  rw[A0,ZRQ b l h,List.take_succ_cons,ZPh n _ (h.sublist ZQ)]
theorem al5{K K':Cx}(f:Int->Int):∀(n:Nat)(a b:aN),S7 a+S7 b<=n->(∀x∈a,∀y∈b,r8 K' (f y) (f x)=r8 K y x)->qU K' (a.map f) (b.map f)=(qU K a b).map f:=by
 intro n;induction n with
 |zero=>
  intro a b h _;obtain rfl:=ZN (show a.length=0 by omega);simp[xY]
 |succ n ih=>
  intro a b h g;cases a with
  |nil=>simp[xY]
  |cons x a=>
   cases b with
   |nil=>simp[BF]
   |cons y b=>
    simp only[Uw]at h;have e:=g x (by simp) y (by simp);simp only[UG];cases d:r8 K y x with
    |true=>
     rw[d]at e;have:=ih (x :: a) b (by grind) λx' hx y' j=>g x' hx y' (by simp[j]);simp only[UG]at this;rw[zL _ _ e,zL _ _ d,UG,this]
    |false=>
     rw[d]at e;have:=ih a (y :: b) (by grind) λx' hx y' j=>g x' (by simp[hx]) y' j;simp only[UG]at this;rw[Av _ _ e,Av _ _ d,UG,this]
theorem ZIS{K:Cx}(l:aN):∀x∈rT K l,x∈l:=by
 have:∀n,n<=S7 l->∀x∈rT K (l.take n),x∈l.take n:=by
  intro n;induction n with
  |zero=>intro _;simp[rT]
  |succ n ih=>
   intro h;rw[YR (show n<l.length by omega),E0];intro x hx;rcases ZBh _ _ _ (Tq _) x hx with q|q
   all_goals grind
 have h:=this l.length (Tq _);simp_all
theorem ZUR{K K':Cx}(f:Int->Int)(C:aN)(d:∀x∈C,∀y∈C,r8 K' (f y) (f x)=r8 K y x):rT K' (C.map f)=(rT K C).map f:=by
 have:∀n,n<=S7 C->rT K' ((C.take n).map f)=(rT K (C.take n)).map f:=by
  intro n;induction n with
  |zero=>intro _;simp[rT]
  |succ n ih=>
   intro h;rw[YR (show n<C.length by omega),E0,Vn,ZR,E0,ih (by omega)];have:=al5 (K:=K) (K':=K') f _ (rT K (C.take n)) [C[n]] (Tq _) λx hx y e=>d x (Un (ZIS _ x hx)) y (by simp_all);simpa using this
 have h:=this C.length (Tq _);simp_all
def gP(l:S5 a_)(i:Int):a_:=l.getD i.toNat a_.d
def vh(l:S5 a_):Prop:=∀p∈l,p.c_.b_.ok
def z_(b:Int)(p:a_):Bool:=if b=1 then Tl else if b=4 then Tl else if b=2 then decide (p.p_>0)else if b=3 then decide (p.qo>0)else Tm
def upto(n:Nat):aN:=(Tr n).map λ(i:Nat)=>(i:Int)
def uk(l:S5 a_)(b:Int)(at_:aN):aN:=at_.filter λi=>z_ b (gP l i)
def Jp(l:S5 a_)(at_:aN):Prop:=∀i∈at_,0<=i/\i<((S7 l:Nat):Int)
theorem ZMF(p:a_)(b:Int):ZqM p b=S8 (z_ b p):=by
 unfold ZqM ZnV z_
 grind
theorem ZRr(p:a_)(b:Int):Zjk p b=S8 (z_ b p):=by
 unfold Zjk z_
 grind
theorem Zyc(n:Nat):upto (n+1)=upto n++[(n:Int)]:=by simp[upto,ZW]
theorem Lf(n:Nat):(upto n).length=n:=by simp[upto]
theorem EV{n:Nat}:x∈upto n↔0<=x/\x<(n:Int):=by
 simp only[upto,Uf,List.mem_range];constructor
 .omega
 .rintro ⟨d,e⟩;exact⟨x.toNat,by omega,by omega⟩
theorem Sf(n:Nat):(upto n).Nodup:=by
 induction n with
 |zero=>simp[upto]
 |succ n ih=>
  rw[Zyc,Vk];refine⟨ih,by simp,λa ha b hb=>?_⟩;rw[Y9.1 hb];have:=EV.1 ha;omega
theorem ZQJ(l:S5 a_)(b:Int)(X Y:aN):uk l b (X++Y)=uk l b X++uk l b Y:=Wa ..
theorem ZBw(l:S5 a_)(b:Int)(X:aN):(uk l b X).length<=S7 X:=Zn ..
theorem rg_of{l:S5 a_}{b s:Int}{at_:aN}(ho:vh l)(h:Jp l at_):Rg ⟨l,b,s⟩ at_:=λx hx=>by
 obtain⟨d,e⟩:=h x hx
 refine⟨⟨d,e⟩,?_⟩
 rw[ua l _ x.toNat]
 exact ho _ (ZP _)
variable{n:Int}
theorem ZRd{S:aN}{m:Int}(hm:(S7 S:Int)=m):S.take ((if m<(if(0:Int)>n then 0 else n)then m else(if(0:Int)>n then 0 else n)).toNat)=S.take n.toNat:=by
 simp_all;omega
theorem ZRt(l:S5 a_)(b n s:Int)(hl:S7 l<=800)(ho:vh l):E7 l b n s=S8 ((rT ⟨l,b,s⟩ (uk l b (upto l.length))).take n.toNat):=by
 have aF:∀(k i fu:Nat),S7 l-i=k->i<=S7 l->k+1<=fu->L2 n fu l (S7 l:Int) (i:Int) (uk l b (upto i)) l b s=S8 ((rT ⟨l,b,s⟩ (uk l b (upto l.length))).take n.toNat):=by
  intro k;induction k with
  |zero=>
   intro i fu h hi j;obtain⟨fu,rfl⟩:=sC fu;obtain rfl:i=S7 l:=by omega
   unfold L2;have g:=ZBw l b (upto l.length);rw[Lf]at g;have uQ:Jp l (uk l b (upto l.length)):=λx hx=>EV.1 (VU.1 hx).1;have e:=ZHX (K:=⟨l,b,s⟩) (uk l b (upto l.length)) (by omega) (rg_of ho uQ);dsimp only at e;have hs:=Ek (K:=⟨l,b,s⟩) (uk l b (upto l.length));rw[o8,pO,e,oT,o9 (by omega),o9 (by omega),ZRd (by rw[hs])]
  |succ k ih=>
   intro i fu h hi j;obtain⟨fu,rfl⟩:=sC fu;unfold L2;have g:=ZBw l b (upto i);rw[Lf]at g;have o:n_ (i:Int) 1=((i+1:Nat):Int):=pY (n:=i+1) (by omega) (by simp only[maxLen];omega);rw[o8,p7,o9 (by omega),ZMF,oT,o];have cj:=ih (i+1) fu (by omega) (by omega) (by omega);rw[Zyc,ZQJ]at cj;cases hb:z_ b (l.getD ((i:Int)).toNat a_.d)with
   |true=>
    have:uk l b [(i:Int)]=[(i:Int)]:=by simp only[uk,gP,We,hb,aFg,Zy]
    rw[this]at cj;rw[aFc,o9 (by simp only[TL,ZO,maxLen];omega)];exact cj
   |false=>
    have:uk l b [(i:Int)]=[]:=by simp only[uk,gP,We,hb,YQ,aFi,Zy]
    simp_all
 have:=aF l.length 0 _ (by omega) (by omega) (Tq _);unfold E7;exact aF l.length 0 _ (by omega) (by omega) (by omega)
theorem ZMv(l:S5 a_)(at_:aN)(hl:S7 at_<=800)(d:Jp l at_):E8 l at_=S8 (at_.map (gP l)):=by
 have aF:∀(k i fu:Nat),S7 at_-i=k->i<=S7 at_->k+1<=fu->Px l fu at_ (S7 at_:Int) (i:Int) ((at_.take i).map (gP l))=S8 (at_.map (gP l)):=by
  intro k;induction k with
  |zero=>
   intro i fu e hi g;obtain⟨fu,rfl⟩:=sC fu;unfold Px;rw[o8,pO,TV (by omega)]
  |succ k ih=>
   intro i fu e hi g;obtain⟨fu,rfl⟩:=sC fu;unfold Px;have h:n_ (i:Int) 1=((i+1:Nat):Int):=pY (n:=i+1) (by omega) (by simp only[maxLen];omega);have bE:i<S7 at_:=by omega
   have hm:=d _ (ZP bE);have hg:at_.getD ((i:Int)).toNat 0=at_[i]:=ua at_ 0 i bE;have qI:((at_.take i).map (gP l)).length=i:=by simp;omega
   rw[o8,p7,o9 (by omega),hg,o9 hm,o9 (by simp only[TL,qI,ZO,maxLen];omega),h];have:=ih (i+1) fu (by omega) (by omega) (by omega);rw[YR bE,Vn,ZR]at this;exact this
 unfold E8;rw[o9 (by omega)];exact aF at_.length 0 _ (by omega) (by omega) (by omega)
def GM(at_ aw:aN)(i:Nat):aN:=((Tr i).filter λ(j:Nat)=>!decide ((j:Int)∈aw)).map λ(j:Nat)=>at_.getD j 0
theorem ZMx(at_ aw:aN)(hl:S7 at_<=800)(hg:S7 aw<=800)(o:∀k∈aw,0<=k/\k<((S7 at_:Nat):Int)):Gy at_ aw=S8 (GM at_ aw at_.length):=by
 have fo:∀(a b:Int)(v w:aN)(kk:aN->Int->Int->aN->S5 Bool->S6 aN)(fl:S5 Bool),S7 fl=S7 at_->(∀i,i<S7 at_->fl.getD i Tm=decide ((i:Int)∈aw))->∀(k i fu:Nat),S7 at_-i=k->i<=S7 at_->k+1<=fu ->
   L7 at_ v a b w kk fu at_ (S7 at_:Int) (i:Int) (GM at_ aw i) fl=S8 (GM at_ aw at_.length):=by
  intro a b v w kk fl fX dx k;induction k with
  |zero=>
   intro i fu d hi e;obtain⟨fu,rfl⟩:=sC fu;obtain rfl:i=S7 at_:=by omega
   unfold L7;simp_all
  |succ k ih=>
   intro i fu d hi e;obtain⟨fu,rfl⟩:=sC fu;unfold L7;have g:n_ (i:Int) 1=((i+1:Nat):Int):=pY (n:=i+1) (by omega) (by simp only[maxLen];omega);have sR:(GM at_ aw i).length<=i:=by
    unfold GM
    grind
   have cj:=ih (i+1) fu (by omega) (by omega) (by omega);have hfi:fl.getD ((i:Int)).toNat Tm=decide ((i:Int)∈aw):=dx i (by omega);rw[o8,p7,o9 (by omega),o9 (by rw[fX];omega),hfi,g];have hs:GM at_ aw (i+1)=GM at_ aw i++(if(i:Int)∈aw then[]else[at_.getD i 0]):=by
    unfold GM;rw[ZW,Wa,Vn];congr 1;by_cases h:(i:Int)∈aw<;>simp[h]
   rw[hs]at cj;by_cases h:(i:Int)∈aw
   .simp_all
   .rw[aE_ h]at cj;rw[aFo h,YT,aFc,o9 (by simp only[TL,ZO,maxLen];omega)];exact cj
 have ft:∀(k i fu:Nat)(fl:S5 Bool),S7 aw-i=k->i<=S7 aw->k+1<=fu->S7 fl=S7 at_->(∀j,j<S7 at_->fl.getD j Tm=decide ((j:Int)∈aw.take i)) ->
   L6 at_ fu aw (S7 aw:Int) (i:Int) [] fl=S8 (GM at_ aw at_.length):=by
  intro k;induction k with
  |zero=>
   intro i fu fl d hi e fX dx;obtain⟨fu,rfl⟩:=sC fu;unfold L6;rw[o8,pO];rw[TV (by omega)]at dx;exact fo _ _ _ _ _ fl fX dx at_.length 0 _ (by omega) (by omega) (by omega)
  |succ k ih=>
   intro i fu fl d hi e fX dx;obtain⟨fu,rfl⟩:=sC fu;unfold L6;have g:n_ (i:Int) 1=((i+1:Nat):Int):=pY (n:=i+1) (by omega) (by simp only[maxLen];omega);have bE:i<S7 aw:=by omega
   have hm:=o _ (ZP bE);have bY:aw.getD ((i:Int)).toNat 0=aw[i]:=ua aw 0 i bE;rw[o8,p7,o9 (by omega),bY,o9 (by rw[fX];exact hm),g];refine ih (i+1) fu _ (by omega) (by omega) (by omega) (by simpa using fX) λj t=>?_;rw[YR bE];have hx:=dx j t;simp only[List.getD_eq_getElem?_getD]at hx ⊢;rw[List.getElem?_set]
   grind
 unfold Gy;rw[o9 (by omega),o9 (by omega)]
 grind
def zo(l:S5 a_)(s b n:Int)(at_:aN):aN:=at_.filter λi=>!decide (i∈(rT ⟨l,b,s⟩ (uk l b at_)).take n.toNat)
theorem Gg{l:S5 a_}{s b:Int}{at_:aN}(h:Jp l at_):Jp l (zo l s b n at_):=λi hi=>h i (VU.1 hi).1
theorem OM{l:S5 a_}{s b:Int}{at_:aN}(h:at_.Nodup):(zo l s b n at_).Nodup:=h.sublist ZQ
theorem Le(l:S5 a_)(s b n:Int)(at_:aN):(zo l s b n at_).length<=S7 at_:=Zn ..
theorem ZNW(f:α->β)(p:β->Bool)(q:α->Bool)(l:S5 α)(h:∀x∈l,p (f x)=q x):(l.map f).filter p=(l.filter q).map f:=by
 rw[List.filter_map];congr 1;exact V0 h
theorem ZFl(l:S5 a_)(at_:aN)(b n s:Int)(hl:S7 at_<=800)(ho:vh l)(t:Jp l at_)(u:at_.Nodup) :
  ((E8 l at_).bind λx=>(E7 x b n s).bind λy=>Gy at_ y)=S8 (zo l s b n at_):=by
 rw[ZMv l at_ hl t,oT];have cM:vh (at_.map (gP l)):=λp hp=>by
  obtain⟨i,hi,rfl⟩:=Uf.1 hp;have:=t i hi;unfold gP;rw[ua l _ i.toNat];exact ho _ (ZP _)
 rw[ZRt _ b n s (by simpa using hl) cM,oT];obtain⟨f,o⟩ : ∃f:Int->Int,f=λp=>at_.getD p.toNat 0:=⟨_,rfl⟩;have hfp:∀i:Nat,f (i:Int)=at_.getD i 0:=λi=>by rw[o];rfl
 have hlen:(at_.map (gP l)).length=S7 at_:=by simp
 rw[hlen];have hg:∀p:Int,0<=p->p<(S7 at_:Int)->gP (at_.map (gP l)) p=gP l (f p):=λp d g=>by
  have hp:p.toNat<S7 at_:=by omega
  rw[o];simp only[gP];rw[ua _ _ p.toNat (by simpa using hp),ZV,ua at_ 0 p.toNat hp];rfl
 have GR:(upto at_.length).map f=at_:=by
  apply List.ext_getElem
  .simp[upto]
  .intro i d g;simp only[upto,ZX,ZV,List.getElem_range,Function.comp];simp_all
 have A:(uk (at_.map (gP l)) b (upto at_.length)).map f=uk l b at_:=by
  have:uk l b at_=((upto at_.length).map f).filter λi=>z_ b (gP l i):=by rw[GR];rfl
  rw[this,ZNW f _ (λp=>z_ b (gP (at_.map (gP l)) p))]
  .rfl
  .intro p hp;obtain⟨d,g⟩:=EV.1 hp;rw[hg p d g]
 have hS:rT ⟨l,b,s⟩ (uk l b at_)=(rT ⟨at_.map (gP l),b,s⟩ (uk (at_.map (gP l)) b (upto at_.length))).map f:=by
  rw[<-A];refine ZUR f _ λx hx y B=>?_;obtain⟨x1,x2⟩:=EV.1 (VU.1 hx).1;obtain⟨y1,y2⟩:=EV.1 (VU.1 B).1;have e:yu ⟨l,b,s⟩ (f y) (f x)=yu ⟨at_.map (gP l),b,s⟩ y x:=by
   show Ar b s (gP l (f y)) (gP l (f x))=Ar b s (gP (at_.map (gP l)) y) (gP (at_.map (gP l)) x);simp_all
  unfold r8;rw[e]
 obtain⟨S,nT⟩ : ∃S,S=rT ⟨at_.map (gP l),b,s⟩ (uk (at_.map (gP l)) b (upto at_.length)):=⟨_,rfl⟩;have hSm:∀x∈S,0<=x/\x<(S7 at_:Int):=λx hx=>by
  rw[nT]at hx;exact EV.1 (VU.1 (ZIS _ x hx)).1
 have hSl:S7 S<=S7 at_:=by
  rw[nT,Ek];have:=ZBw (at_.map (gP l)) b (upto at_.length)
  grind
 rw[<-nT]at hS ⊢;rw[ZMx at_ _ hl (by simp_all;omega) λk D=>hSm k (Un D)];have mP:∀x y:Int,0<=x->x<(S7 at_:Int)->0<=y->y<(S7 at_:Int)->f x=f y->x=y:=λx y x1 x2 y1 y2 h=>by
  rw[o]at h;simp only at h;rw[ua at_ 0 x.toNat,ua at_ 0 y.toNat]at h;have:=Ol u (i:=x.toNat) (j:=y.toNat) (a:=at_[y.toNat]'(by omega)) (by rw[<-h];simp) (by simp);omega
 congr 1;unfold zo;rw[hS,<-List.map_take];have F:∀p:Int->Bool,at_.filter p=((upto at_.length).map f).filter p:=λp=>by rw[GR]
 rw[F,ZNW f _ (λp=>!decide (p∈S.take n.toNat))]
 .unfold GM upto;rw[ZNW (λ(i:Nat)=>(i:Int)) _ (λj=>!decide ((j:Int)∈S.take n.toNat)) _ (λ_ _=>rfl),ZX];simp_all
 .intro p hp;obtain⟨d,g⟩:=EV.1 hp;congr 1;rw[decide_eq_decide];constructor
  .intro h;obtain⟨q,G,e⟩:=Uf.1 h
   grind
  grind
def HX(l:S5 a_)(q:rY)(s:Int):aN:=zo l s 4 q.tE (zo l s 3 q.qo (zo l s 2 q.p_ (zo l s 1 q.qW (upto l.length))))
theorem ZMw(l:S5 a_)(q:rY)(s:Int)(hl:S7 l<=800)(ho:vh l):SF l q s=S8 (HX l q s):=by
 have fo:∀(a b:Int)(w:aN)(q':rY)(kk:Int->Int->aN->rY->S6 aN)(fu:Nat),E' l s a b w q' kk (fu+5) (⟨1,q.qW⟩,⟨2,q.p_⟩,⟨3,q.qo⟩,⟨4,q.tE⟩) 0 (upto l.length)=S8 (HX l q s):=by
  intro a b w q' kk fu;have h0:Jp l (upto l.length):=λi hi=>EV.1 hi;have t1:=ZFl l (upto l.length) 1 q.qW s (by rw[Lf];exact hl) ho h0 (Sf _);have l1:=Le l s 1 q.qW (upto l.length);rw[Lf]at l1;have t2:=ZFl l _ 2 q.p_ s (by omega) ho (Gg (s:=s) (b:=1) (n:=q.qW) h0) (OM (Sf _));have l2:=Le l s 2 q.p_ (zo l s 1 q.qW (upto l.length));have t3:=ZFl l _ 3 q.qo s (by omega) ho (Gg (s:=s) (b:=2) (n:=q.p_) (Gg (s:=s) (b:=1) (n:=q.qW) h0)) (OM (OM (Sf _)));have l3:=Le l s 3 q.qo (zo l s 2 q.p_ (zo l s 1 q.qW (upto l.length)));have t4:=ZFl l _ 4 q.tE s (by omega) ho (Gg (s:=s) (b:=3) (n:=q.qo) (Gg (s:=s) (b:=2) (n:=q.p_) (Gg (s:=s) (b:=1) (n:=q.qW) h0))) (OM (OM (OM (Sf _))));have bd:∀{α β γ δ:Type}(r:S6 α)(g:α->S6 β)(h:β->S6 γ)(k:γ->S6 δ)(z:γ),(r.bind λx=>(g x).bind λy=>h y)=S8 z->(r.bind λx=>(g x).bind λy=>(h y).bind k)=k z:=by
   intro α β γ δ r g h k z e;cases r with
   |none=>cases e
   |some x=>
    simp only[Xt]at e ⊢;cases hg:g x with
    |none=>rw[hg]at e;cases e
    |some y=>simp_all
  have lX:∀{δ:Type}(X:aN)(b n:Int)(k:aN->S6 δ)(z:aN),((E8 l X).bind λx=>(E7 x b n s).bind λy=>Gy X y)=S8 z->((E8 l X).bind λx=>(E7 x b n s).bind λy=>(Gy X y).bind k)=k z:=by
   simp_all
  have o:n_ (0:Int) 1=1:=rfl;have t:n_ (1:Int) 1=2:=rfl;have u:n_ (2:Int) 1=3:=rfl;have A:n_ (3:Int) 1=4:=rfl;unfold E';rw[o8,p7,o9 (by omega)];simp only[BH,aFg,o];rw[lX _ _ _ _ _ t1];unfold E';rw[o8,p7,o9 (by omega)];simp only[BH,aFg,t,show ¬((1:Int)=0)by omega,aFi];rw[lX _ _ _ _ _ t2];unfold E';rw[o8,p7,o9 (by omega)];simp only[BH,aFg,u,show ¬((2:Int)=0)by omega,show ¬((2:Int)=1)by omega,aFi];rw[lX _ _ _ _ _ t3];unfold E';rw[o8,p7,o9 (by omega)];simp only[BH,aFg,A,show ¬((3:Int)=0)by omega,show ¬((3:Int)=1)by omega,show ¬((3:Int)=2)by omega,aFi];rw[lX _ _ _ _ _ t4];rfl
 have ft:∀(k i fu:Nat)(w:aN),S7 l-i=k->i<=S7 l->k+1<=fu->S7 w=S7 l->w.take i=upto i->L5 l s fu (S7 l:Int) (i:Int) w q=S8 (HX l q s):=by
  intro k;induction k with
  |zero=>
   intro i fu w B hi D j d;obtain⟨fu,rfl⟩:=sC fu;obtain rfl:i=S7 l:=by omega
   rw[TV (by omega)]at d;unfold L5;have e:ZsN q=S8 (⟨1,q.qW⟩,⟨2,q.p_⟩,⟨3,q.qo⟩,⟨4,q.tE⟩):=rfl;simp_all
  |succ k ih=>
   intro i fu w B hi D j d;obtain⟨fu,rfl⟩:=sC fu;unfold L5;have F:n_ (i:Int) 1=((i+1:Nat):Int):=pY (n:=i+1) (by omega) (by simp only[maxLen];omega);rw[o8,p7,o9 (by omega),F];refine ih (i+1) fu _ (by omega) (by omega) (by omega) (by simpa using j) ?_;rw[Zyc,<-d];simp only[YO];rw[YR (by simp;omega),List.take_set_of_le (Tq _)];simp
 unfold SF;rw[o9 (by omega)];simp only[YO];exact ft l.length 0 _ _ (by omega) (by omega) (by omega) (by simp) (by simp[upto])
theorem ame(p:a_)(s:Int):L_ s (vf p.c_.b_)=S8 (z6 s p):=by
 obtain⟨m,d,e,_⟩:=ZNl s (vf p.c_.b_);unfold z6;rw[d,e];rfl
theorem ang(a b:Int)(p q:a_):Mr a b p q=S8 (decide (a<b\/(a=b/\qK p.c_ q.c_<0))):=by
 unfold Mr;rw[Rz,oT]
 grind
theorem ZUa(p q:a_)(b s:Int)(hp:p.c_.b_.ok)(j:q.c_.b_.ok)(hb:1<=b/\b<=4):ZjX p q b s=S8 (decide (Ar b s p q<0)):=by
 have o:decide (Ar b s p q<0)=decide (kv b s p<kv b s q\/(kv b s p=kv b s q/\qK p.c_ q.c_<0)):=by rw[decide_eq_decide];exact ZBq
 rw[o];unfold ZjX;simp only[ZPo _ hp,ZPo _ j,oT,ame,ang,uo];by_cases d:b=1
 .subst d;simp only[aFg,kv];by_cases h:z6 s p=z6 s q
  .simp_all
  .have e:(z6 s p != z6 s q)=Tl:=by simp_all
   rw[e,aFc];simp_all
 .by_cases g:b=2
  .subst g;simp[kv]
  .by_cases t:b=3
   .subst t;simp only[kv,aE_ d,aE_ g,aFg];congr 1
    grind
   .obtain rfl:b=4:=by omega
    simp[kv]
def vm(w:S5 Bool)(i:Nat):aN:=(upto i).filter λj=>!(w.getD j.toNat Tm)
def EA(K:Cx):aN->Int | []=>-1|b :: r=>uz K b r
theorem ZWO{K:Cx}(C:aN)(y:Int):EA K (C++[y])=if C=[]then y else if r8 K y (EA K C)=Tl then y else EA K C:=by
 cases C with
 |nil=>simp[EA,uz]
 |cons b r=>
  rw[aE_ (by simp)];exact ZGP y r b
theorem ZDk{K:Cx}{C:aN}(h:C≠[]):EA K C∈C:=by
 cases C with
 |nil=>exact aFe rfl h
 |cons b r=>exact ZGO r b
theorem ZPb(w:S5 Bool)(i:Nat):vm w (i+1)=vm w i++if w.getD i Tm=Tl then[]else[(i:Int)]:=by
 unfold vm;rw[Zyc,Wa]
 grind
theorem ZMl{w:S5 Bool}(h:x∈vm w i):0<=x/\x<(i:Int)/\w.getD x.toNat Tm=Tm:=by
 obtain⟨d,e⟩:=VU.1 h;have:=EV.1 d;simp_all
theorem ZTq(w:S5 Bool)(i:Nat):(vm w i).Nodup:=(Sf i).sublist ZQ
theorem amE(w:S5 Bool)(n:Nat)(m:Int)(h0:0<=m)(hm:m<(S7 w:Int)):vm (w.set m.toNat Tl) n=(vm w n).filter λx=>x != m:=by
 unfold vm;rw[VY];refine V0 λx hx=>?_;obtain⟨x1,x2⟩:=EV.1 hx
 grind
theorem ZOJ(l:S5 a_)(b:Int)(X:aN)(p:Int->Bool):uk l b (X.filter p)=(uk l b X).filter p:=by
 unfold uk;rw[VY,VY]
 grind
section
variable {l:S5 a_} (hl:S7 l<=800) (ho:vh l) {s:Int} {q:rY}
include hl ho
theorem ZYt(b:Int)(hb:1<=b/\b<=4)(v9:Int)(t:Int->S5 Bool->rY->S6 (S5 Bool))(h:Int->S5 Bool->S6 (S5 Bool))(w:S5 Bool)(j:S7 w=S7 l):∀(k i fu:Nat),S7 l-i=k->i<=S7 l->k+1<=fu ->
  Fe l s b q v9 t h fu (EA ⟨l,b,s⟩ (uk l b (vm w i))) (i:Int) w=if uk l b (vm w l.length)=[]then h (n_ v9 1) w else h (n_ v9 1) (w.set (EA ⟨l,b,s⟩ (uk l b (vm w l.length))).toNat Tl):=by
 intro k;induction k with
 |zero=>
  intro i fu u hi y;obtain⟨fu,rfl⟩:=sC fu;obtain rfl:i=S7 l:=by omega
  unfold Fe;rw[o8,pO,o8];by_cases g:uk l b (vm w l.length)=[]
  .rw[aFa g,g];rfl
  .have hm:=ZDk (K:=⟨l,b,s⟩) g;obtain⟨m1,m2,_⟩:=ZMl (VU.1 hm).1;rw[aE_ g,p7,o9 (by rw[j];omega)]
 |succ k ih=>
  intro i fu u hi y;obtain⟨fu,rfl⟩:=sC fu;have A:n_ (i:Int) 1=((i+1:Nat):Int):=pY (n:=i+1) (by omega) (by simp only[maxLen];omega);have cj:=ih (i+1) fu (by omega) (by omega) (by omega);rw[ZPb,ZQJ]at cj;unfold Fe;rw[o8,p7,o9 (by rw[j];omega),A];simp only[YO];cases hwi:w.getD i Tm with
  |true=>
   rw[hwi,aFa rfl]at cj;have:uk l b []=[]:=rfl;simp_all
  |false=>
   rw[hwi,aE_ (by decide)]at cj;rw[YT,aFc,o9 (by omega),ZRr,oT];cases o:z_ b (l.getD i a_.d)with
   |false=>
    have:uk l b [(i:Int)]=[]:=by simp only[uk,gP,YO,We,o,YQ,aFi,Zy]
    simp_all
   |true=>
    have:uk l b [(i:Int)]=[(i:Int)]:=by simp only[uk,gP,YO,We,o,aFg,Zy]
    rw[this,ZWO]at cj;rw[aFc,o8];by_cases g:uk l b (vm w i)=[]
    .rw[aFa g]at cj;rw[g,aFa (by simp[EA])];exact cj
    .have hm:=ZDk (K:=⟨l,b,s⟩) g;obtain⟨m1,m2,_⟩:=ZMl (VU.1 hm).1;rw[aE_ g]at cj;rw[pO,o9 (by omega),ZUa _ _ _ _ (by rw[ua l _ i];exact ho _ (ZP _)) (by rw[ua l _ _];exact ho _ (ZP _)) hb,oT];have e:decide (Ar b s (l.getD i a_.d) (l.getD (EA ⟨l,b,s⟩ (uk l b (vm w i))).toNat a_.d)<0)=r8 ⟨l,b,s⟩ (i:Int) (EA ⟨l,b,s⟩ (uk l b (vm w i))):=rfl
     grind
theorem ZYu(b n:Int)(hb:1<=b/\b<=4)(u:J7 q b=S8 n)(d:Int->S5 Bool->rY->S6 (S5 Bool)):∀(r v9 fu:Nat)(w:S5 Bool),(if n<(S7 l:Int)then n.toNat else l.length)-v9=r->v9<=S7 l->r+1<=fu->S7 w=S7 l ->
  ∃w',S7 w'=S7 l/\vm w' l.length=(vm w l.length).filter (λi=>!decide (i∈A0 ⟨l,b,s⟩ r (uk l b (vm w l.length))))/\HM l s b q d fu (v9:Int) w=d (n_ b 1) w' q:=by
 intro r;induction r with
 |zero=>
  intro v9 fu w t y A e;obtain⟨fu,rfl⟩:=sC fu;refine⟨w,e,by simp only[A0];exact(VX.2 λx _=>by simp).symm,?_⟩;unfold HM
  grind
 |succ r ih=>
  intro v9 fu w t y A e;obtain⟨fu,rfl⟩:=sC fu;have B:v9<S7 l/\(v9:Int)<n:=by split at t<;>omega
  have D:n_ (v9:Int) 1=((v9+1:Nat):Int):=pY (n:=v9+1) (by omega) (by simp only[maxLen];omega);unfold HM;have zF:=ZYt hl ho (s:=s) (q:=q) b hb (v9:Int) d (HM l s b q d fu) w e l.length 0 ((((S7 l:Nat):Int)-(0:Int)).toNat+2) (by omega) (by omega) (by omega);have nU:Fe l s b q (v9:Int) d (HM l s b q d fu) ((((S7 l:Nat):Int)-(0:Int)).toNat+2) (-1) 0 w=_:=zF;rw[u,oT,o8,aFa B.2,o8,p7,nU,D];by_cases g:uk l b (vm w l.length)=[]
  .rw[aFa g];obtain⟨w',h,j,o⟩:=ih (v9+1) fu w (by omega) (by omega) (by omega) e;refine⟨w',h,?_,o⟩;rw[j,g];cases r<;>rfl
  .have hm:=ZDk (K:=⟨l,b,s⟩) g;obtain⟨m1,m2,_⟩:=ZMl (VU.1 hm).1;rw[aE_ g];obtain⟨w',h,j,o⟩:=ih (v9+1) fu (w.set (EA ⟨l,b,s⟩ (uk l b (vm w l.length))).toNat Tl) (by omega) (by omega) (by omega) (by simpa using e);refine⟨w',h,?_,o⟩;rw[j,amE w _ _ m1 (by rw[e];exact m2)];cases hCC:uk l b (vm w l.length)with
   |nil=>exact aFe hCC g
   |cons x X=>
    have bF:EA ⟨l,b,s⟩ (x :: X)=uz ⟨l,b,s⟩ x X:=rfl;rw[ZOJ,hCC,bF,VY,A0]
    grind
theorem Zwo(b n:Int)(hb:1<=b/\b<=4)(e:J7 q b=S8 n)(d:Int->S5 Bool->rY->S6 (S5 Bool))(w:S5 Bool)(g:S7 w=S7 l) :
  ∃w',S7 w'=S7 l/\vm w' l.length=zo l s b n (vm w l.length)/\HM l s b q d ((((S7 l:Nat):Int)-(0:Int)).toNat+2) 0 w=d (n_ b 1) w' q:=by
 obtain⟨w',o,t,u⟩:=ZYu hl ho (s:=s) b n hb e d _ 0 ((((S7 l:Nat):Int)-(0:Int)).toNat+2) w rfl (by omega) (by split<;>omega) g;refine⟨w',o,?_,u⟩;have iE:(uk l b (vm w l.length)).Nodup:=(ZTq w _).sublist ZQ;have hlen:(rT ⟨l,b,s⟩ (uk l b (vm w l.length))).length<=S7 l:=by
  rw[Ek];have y:=ZBw l b (vm w l.length);have A:(vm w l.length).length<=S7 l:=by
   have:=Zn (λj:Int=>!(w.getD j.toNat Tm)) (upto l.length);rw[Lf]at this;exact this
  omega
 rw[t,ZPh _ _ iE];unfold zo;have:(rT ⟨l,b,s⟩ (uk l b (vm w l.length))).take ((if n<(S7 l:Int)then n.toNat else l.length)-0)=(rT ⟨l,b,s⟩ (uk l b (vm w l.length))).take n.toNat:=by
  by_cases h:n<(S7 l:Int)
  .rw[aFa h];rfl
  .rw[aE_ h,TV (by omega),TV (by omega)]
 rw[this]
theorem ZTW:∃w,ZhT l q s=S8 w/\S7 w=S7 l/\vm w l.length=HX l q s:=by
 have d:J7 q 1=S8 q.qW:=rfl;have e:J7 q 2=S8 q.p_:=rfl;have g:J7 q 3=S8 q.qo:=rfl;have h:J7 q 4=S8 q.tE:=rfl;have w0:(V6 ((S7 l:Nat):Int).toNat Tm).length=S7 l:=by simp
 have u0:vm (V6 ((S7 l:Nat):Int).toNat Tm) l.length=upto l.length:=by
  unfold vm;refine VX.2 λx hx=>?_
  grind
 obtain⟨w1,j,b1,o⟩:=Zwo hl ho (s:=s) 1 _ (by omega) d (B3 l s 4) _ w0;obtain⟨w2,t,b2,u⟩:=Zwo hl ho (s:=s) 2 _ (by omega) e (B3 l s 3) w1 j;obtain⟨w3,y,b3,A⟩:=Zwo hl ho (s:=s) 3 _ (by omega) g (B3 l s 2) w2 t;obtain⟨w4,B,b4,D⟩:=Zwo hl ho (s:=s) 4 _ (by omega) h (B3 l s 1) w3 y;refine⟨w4,?_,B,by rw[b4,b3,b2,b1,u0];rfl⟩;have d1:B3 l s 5 1 (V6 ((S7 l:Nat):Int).toNat Tm) q=B3 l s 4 2 w1 q:=o;have d2:B3 l s 4 2 w1 q=B3 l s 3 3 w2 q:=u;have d3:B3 l s 3 3 w2 q=B3 l s 2 4 w3 q:=A;have d4:B3 l s 2 4 w3 q=B3 l s 1 5 w4 q:=D;unfold ZhT;rw[o9 (by omega)];have f:(((4:Int)-(1:Int)).toNat+2)=5:=rfl;rw[f,d1,d2,d3,d4];rfl
end
def vT(l:S5 a_):S5 a_:=l.filter λp=>p.tL
def Gb(l:S5 a_)(q:rY)(s:Int):S5 a_:=(HX (vT l) q s).map (gP (vT l))
theorem ZKS(l:S5 a_)(i:Nat)(h:i<S7 l):vT (l.take (i+1))=vT (l.take i)++if l[i].tL=Tl then[l[i]]else[]:=by
 unfold vT;rw[YR h,Wa]
 grind
theorem ZDe(l:S5 a_):(vT l).length<=S7 l:=Zn ..
theorem ZSi(l:S5 a_)(hl:S7 l<=100000):Sz l=S8 (vT l):=by
 have aF:∀(k i fu:Nat),S7 l-i=k->i<=S7 l->k+1<=fu->L1 fu l (S7 l:Int) (i:Int) (vT (l.take i))=S8 (vT l):=by
  intro k;induction k with
  |zero=>
   intro i fu e hi g;obtain⟨fu,rfl⟩:=sC fu;unfold L1;rw[o8,pO,TV (by omega)]
  |succ k ih=>
   intro i fu e hi g;obtain⟨fu,rfl⟩:=sC fu;unfold L1;have bE:i<S7 l:=by omega
   have h:n_ (i:Int) 1=((i+1:Nat):Int):=pY (n:=i+1) (by omega) (by simp only[maxLen];omega);have j:=ZDe (l.take i);simp only[TQ]at j;have cj:=ih (i+1) fu (by omega) (by omega) (by omega);rw[ZKS l i bE]at cj;have hg:l.getD ((i:Int)).toNat a_.d=l[i]:=ua l _ i bE;rw[o8,p7,o9 (by omega),hg,h];cases uQ:l[i].tL with
   |true=>
    rw[uQ,aFa rfl]at cj;rw[aFc,o9 (by simp only[TL,ZO,maxLen];omega)];exact cj
   |false=>
    simp_all
 unfold Sz;exact aF l.length 0 _ (by omega) (by omega) (by omega)
theorem ZYN(l:S5 a_)(hl:S7 l<=100000):Ziy l=S8 (vT l):=by
 have aF:∀(k i fu:Nat),S7 l-i=k->i<=S7 l->k+1<=fu->Mo l fu (i:Int) (vT (l.take i))=S8 (vT l):=by
  intro k;induction k with
  |zero=>
   intro i fu e hi g;obtain⟨fu,rfl⟩:=sC fu;unfold Mo;rw[o8,pO,TV (by omega)]
  |succ k ih=>
   intro i fu e hi g;obtain⟨fu,rfl⟩:=sC fu;unfold Mo;have bE:i<S7 l:=by omega
   have h:n_ (i:Int) 1=((i+1:Nat):Int):=pY (n:=i+1) (by omega) (by simp only[maxLen];omega);have j:=ZDe (l.take i);simp only[TQ]at j;have cj:=ih (i+1) fu (by omega) (by omega) (by omega);rw[ZKS l i bE]at cj;have hg:l.getD ((i:Int)).toNat a_.d=l[i]:=ua l _ i bE;rw[o8,p7,o9 (by omega),hg,h];cases uQ:l[i].tL with
   |true=>
    rw[uQ,aFa rfl]at cj;rw[aFc,o9 (by simp only[TL,ZO,maxLen];omega)];exact cj
   |false=>
    simp_all
 unfold Ziy;exact aF l.length 0 _ (by omega) (by omega) (by omega)
theorem ZUN(l:S5 a_)(q:rY)(s:Int):Jp l (HX l q s):=Gg (Gg (Gg (Gg λi hi=>EV.1 hi)))
theorem ZQa(l:S5 a_)(q:rY)(s:Int):(HX l q s).length<=S7 l:=by
 have d:=Le l s 1 q.qW (upto l.length);have e:=Le l s 2 q.p_ (zo l s 1 q.qW (upto l.length));have g:=Le l s 3 q.qo (zo l s 2 q.p_ (zo l s 1 q.qW (upto l.length)));have h:=Le l s 4 q.tE (zo l s 3 q.qo (zo l s 2 q.p_ (zo l s 1 q.qW (upto l.length))));rw[Lf]at d;unfold HX;omega
theorem ZIE{l:S5 a_}(h:vh l):vh (vT l):=λp hp=>h p (VU.1 hp).1
theorem ZNX(l:S5 a_)(q:rY)(s:Int)(hl:S7 l<=800)(ho:vh l):Zjc l q s=S8 (Gb l q s):=by
 have j:=ZDe l;have hi:=ZUN (vT l) q s;have hle:=ZQa (vT l) q s;unfold Zjc Gb;rw[ZSi l (by omega),oT,ZMw _ q s (by omega) (ZIE ho),oT];obtain⟨A,d⟩ : ∃A,A=HX (vT l) q s:=⟨_,rfl⟩;rw[<-d]at hi hle ⊢;have aF:∀(k i fu:Nat),S7 A-i=k->i<=S7 A->k+1<=fu->Qd fu (vT l) A (S7 A:Int) (i:Int) ((A.take i).map (gP (vT l)))=S8 (A.map (gP (vT l))):=by
  intro k;induction k with
  |zero=>
   intro i fu e hi g;obtain⟨fu,rfl⟩:=sC fu;unfold Qd;rw[o8,pO,TV (by omega)]
  |succ k ih=>
   intro i fu e cO g;obtain⟨fu,rfl⟩:=sC fu;unfold Qd;have bE:i<S7 A:=by omega
   have h:n_ (i:Int) 1=((i+1:Nat):Int):=pY (n:=i+1) (by omega) (by simp only[maxLen];omega);have hm:=hi _ (ZP bE);have hg:A.getD ((i:Int)).toNat 0=A[i]:=ua A 0 i bE;have qI:((A.take i).map (gP (vT l))).length=i:=by simp;omega
   rw[o8,p7,o9 (by omega),hg,o9 hm,o9 (by simp only[TL,qI,ZO,maxLen];omega),h];have:=ih (i+1) fu (by omega) (by omega) (by omega);rw[YR bE,Vn,ZR]at this;exact this
 exact aF A.length 0 _ (by omega) (by omega) (by omega)
theorem ZTZ(l:S5 a_)(q:rY)(s:Int)(hl:S7 l<=800)(ho:vh l):Zfv l q s=S8 (Gb l q s):=by
 have y:=ZDe l;unfold Zfv Gb;obtain⟨w,d,e,g⟩:=ZTW (l:=vT l) (q:=q) (s:=s) (by omega) (ZIE ho);rw[ZYN l (by omega),oT,d,oT,<-g];have aF:∀(k i fu:Nat),(vT l).length-i=k->i<=(vT l).length->k+1<=fu->MB fu (vT l) w (i:Int) ((vm w i).map (gP (vT l)))=S8 ((vm w (vT l).length).map (gP (vT l))):=by
  intro k;induction k with
  |zero=>
   intro i fu h hi o;obtain⟨fu,rfl⟩:=sC fu;obtain rfl:i=(vT l).length:=by omega
   unfold MB;simp_all
  |succ k ih=>
   intro i fu h hi o;obtain⟨fu,rfl⟩:=sC fu;unfold MB;have t:n_ (i:Int) 1=((i+1:Nat):Int):=pY (n:=i+1) (by omega) (by simp only[maxLen];omega);have A:(vm w i).length<=i:=by
    have:=Zn (λj:Int=>!(w.getD j.toNat Tm)) (upto i);rw[Lf]at this;exact this
   have cj:=ih (i+1) fu (by omega) (by omega) (by omega);rw[ZPb,Vn]at cj;rw[o8,p7,o9 (by rw[e];omega),t];simp only[YO];cases u:w.getD i Tm with
   |true=>
    simp_all
   |false=>
    rw[u,aE_ (by decide)]at cj;rw[YT,aFc,o9 (by omega),o9 (by simp only[TL,List.length_map,ZO,maxLen];omega)];exact cj
 exact aF (vT l).length 0 _ (by omega) (by omega) (by omega)
end Go.Proofs.YtmcnjofonpkfmaaGreat
