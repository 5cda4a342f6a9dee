import Derived.Test.YtmcnjofonpkfmaaGreatHPlXc
open Bool renaming false->Tm,true->Tl,not_false->YT,not_true->YP
open Int renaming toNat_natCast->YO,ofNat_tdiv->Z3,tdiv->Yc,natCast_zero->YX,natCast_nonneg->Z7
open Go.IntKind renaming wrap->US,bits->UB,signed->Ut,min->ZB,max->UT
open List renaming take_succ_eq_append_getElem->YR,length_singleton->ZO,length_append->TL,mem_of_mem_drop->ZZ,flatten_append->Z0,range->Tr,filter_append->Wa,take_of_length_le->TV,replicate->V6,length_filter_le->Zn,getD->Z1,length_take->TQ,getElem_mem->ZP,mem_append->T9,map_append->Vn,mem_cons_of_mem->U1,drop_zero->YZ,append_nil->Zz,filter_cons_of_pos->Z4,take_append_drop->WE,set_append_right->Z5,replicate_succ->Z6,flatten_cons->Ww,length_cons->Uw,flatten_nil->Z8,range_succ->ZW,all_cons->Z9,length->S7
open Nat renaming zero_le->UK,div_eq_of_lt->Z2,le_refl->Tq,div_le_self->ZA,zero_div->Z'
open Option renaming some->S8,bind_some->Xt
open Option.some renaming injEq->S9
namespace Go.Proofs.YtmcnjofonpkfmaaGreat
set_option linter.unusedSectionVars false
set_option linter.unusedSimpArgs false
set_option linter.unusedVariables false
def sm(p:a_):pn:=vf p.c_.b_
def wx(l:S5 a_)(g:pn):Nat:=(l.filter λp=>decide (sm p=g)).length
theorem ZIM{κ ν:Type}[DecidableEq κ](k g:κ)(v z:ν):∀l:S5 (κ×ν),vi (zZ l k v) g z=if k=g then v else vi l g z
 | []=>by
  simp only[zZ,vi]
 |p :: r=>by
  simp only[zZ]
  by_cases h:p.1=k
  .rw[aFa h]
   simp only[vi]
   simp_all
  .rw[aE_ h]
   simp only[vi]
   rw[ZIM k g v z r]
   grind
theorem ZES(l:S5 a_)(i:Nat)(h:i<S7 l)(g:pn):wx (l.take (i+1)) g=wx (l.take i) g+if sm l[i]=g then 1 else 0:=by
 unfold wx;rw[YR h,Wa,TL]
 grind
theorem ZQE(l:S5 a_)(g:pn):wx l g<=S7 l:=Zn ..
variable{α β γ δ:Type}{m_ l:S5 oM}{a i k:Nat}{P:α->β->Prop}{W:β->Prop}{r:S6 (pz×β)}{P':γ->δ->Prop}{W':δ->Prop}{g:qA}{part:Int}{x:S5 a_}
theorem ZFR{l:S5 a_}(h:vh l)(hi:i<S7 l:=by omega):(l.getD i a_.d).c_.b_.ok:=by rw[ua l _ i hi];exact h _ (ZP hi)
theorem ZOG(l:S5 a_)(hl:S7 l<=800)(ho:vh l):∃m,ZqT l=S8 m/\∀g,vi m g 0=(wx l g:Int):=by
 have aF:∀(k i fu:Nat)(m:S5 (pn×Int)),S7 l-i=k->i<=S7 l->k+1<=fu->(∀g,vi m g 0=(wx (l.take i) g:Int))->∃m',Pv fu l (S7 l:Int) (i:Int) m=S8 m'/\∀g,vi m' g 0=(wx l g:Int):=by
  intro k;induction k with
  |zero=>
   intro i fu m e hi j hm;obtain⟨fu,rfl⟩:=sC fu;unfold Pv;rw[TV (by omega)]at hm;exact⟨m,by grind,hm⟩
  |succ k ih=>
   intro i fu m e hi j hm;obtain⟨fu,rfl⟩:=sC fu;unfold Pv;have bE:i<S7 l:=by omega
   have o:n_ (i:Int) 1=((i+1:Nat):Int):=pY (n:=i+1) (by omega) (by simp only[maxLen];omega);have hg:l.getD ((i:Int)).toNat a_.d=l[i]:=ua l _ i bE;have t:=ZQE (l.take i) (sm l[i]);simp only[TQ]at t;rw[o8,p7,o9 (by omega),hg,Li _ (ho _ (ZP bE)),oT,o];refine ih (i+1) fu _ (by omega) (by omega) (by omega) λg=>?_;rw[ZIM,ZES l i bE,hm g];have bJ:vf l[i].c_.b_=sm l[i]:=rfl;rw[bJ,hm (sm l[i])];by_cases h:sm l[i]=g
   .subst h;rw[aFa rfl,aFa rfl,s_ (by omega) (by omega)];omega
   simp_all
 unfold ZqT;exact aF l.length 0 _ [] (by omega) (by omega) (by omega) (λg=>by simp[vi,wx])
def Bm(l:S5 a_)(i j:Nat):Int:=xm (sK (wx l (sm (l.getD i a_.d)):Int) (wx l (sm (l.getD j a_.d)):Int)) (xm (sK (l.getD i a_.d).pK (l.getD j a_.d).pK) (qK (l.getD i a_.d).c_ (l.getD j a_.d).c_))
theorem ZCB{l:S5 a_}{j:Nat}:0<Bm l i j↔wx l (sm (l.getD j a_.d))<wx l (sm (l.getD i a_.d))\/(wx l (sm (l.getD i a_.d))=wx l (sm (l.getD j a_.d)) /\
  ((l.getD j a_.d).pK<(l.getD i a_.d).pK\/((l.getD i a_.d).pK=(l.getD j a_.d).pK/\0<qK (l.getD i a_.d).c_ (l.getD j a_.d).c_))):=by
 unfold Bm;rw[QX,QX,Q2,EX,Q2,EX];omega
theorem ZVB{l:S5 a_}{b:Nat}(t:0<Bm l i b)(e:¬0<Bm l k b):0<Bm l i k:=by
 rw[ZCB]at *
 obtain⟨I,g⟩ : ∃x,x=l.getD i a_.d:=⟨_,rfl⟩;obtain⟨B,j⟩ : ∃x,x=l.getD b a_.d:=⟨_,rfl⟩;obtain⟨K,o⟩ : ∃x,x=l.getD k a_.d:=⟨_,rfl⟩;rw[<-g,<-j]at t;rw[<-o,<-j]at e;rw[<-g,<-o];by_cases u:wx l (sm K)<wx l (sm I)
 .exact .inl u
 .have y:wx l (sm I)=wx l (sm K)/\wx l (sm B)=wx l (sm K):=by
   omega
  refine .inr ⟨y.1,?_⟩;have Oc:B.pK<I.pK\/(I.pK=B.pK/\0<qK I.c_ B.c_):=by
   omega
  have i3:¬(B.pK<K.pK\/(K.pK=B.pK/\0<qK K.c_ B.c_)):=λh=>e (.inr ⟨by omega,h⟩);by_cases s1:K.pK<I.pK
  .exact .inl s1
  .have s2:I.pK=K.pK/\I.pK=B.pK:=by
    omega
   refine .inr ⟨s2.1,?_⟩;have A:0<qK I.c_ B.c_:=by
    omega
   have F:¬0<qK K.c_ B.c_:=λh=>i3 (.inr ⟨by omega,h⟩);have c2':=Eh.1 A;rw[Eh];by_cases D:qK K.c_ B.c_=0
   .rw[JC.1 D];exact c2'
   .exact OE (show qK K.c_ B.c_<0 by omega) c2'
theorem amR{l:S5 a_}(d:0<Bm l i k):¬0<Bm l k i:=by
 intro e;rw[ZCB]at d e;rcases d with h|⟨j,h|⟨o,h⟩⟩<;>rcases e with g|⟨t,g|⟨u,g⟩⟩<;>first|omega|skip
 have:=Eh.1 h;omega
theorem ZOF(p q:a_):ZqS p q=S8 (xm (sK p.pK q.pK) (qK p.c_ q.c_)):=by
 unfold ZqS;simp only[K7,Rs,N_,oT]
structure NY (l:List a_) (n b:Nat):Prop where
 lt:b<n
 top:∀k,k<n->¬0<Bm l k b
 fst:∀k,k<b->0<Bm l b k
theorem ZET(l:S5 a_)(hl:S7 l<=800)(ho:vh l):∃b:Int,Sy l=S8 b/\((l=[]/\b = -1)\/∃n:Nat,b=(n:Int)/\NY l l.length n):=by
 obtain⟨m,hm,hg⟩:=ZOG l hl ho;have aF:∀(k i fu:Nat)(b:Int),S7 l-i=k->i<=S7 l->k+1<=fu->((i=0/\b = -1)\/∃n:Nat,b=(n:Int)/\NY l i n)->∃z:Int,JZ l fu b l (S7 l:Int) (i:Int) m=S8 z/\((S7 l=0/\z = -1)\/∃n:Nat,z=(n:Int)/\NY l l.length n):=by
  intro k;induction k with
  |zero=>
   intro i fu b g hi o hb;obtain⟨fu,rfl⟩:=sC fu;obtain rfl:i=S7 l:=by omega
   unfold JZ;simp_all
  |succ k ih=>
   intro i fu b g hi o hb;obtain⟨fu,rfl⟩:=sC fu;have bE:i<S7 l:=by omega
   have t:n_ (i:Int) 1=((i+1:Nat):Int):=pY (n:=i+1) (by omega) (by simp only[maxLen];omega);unfold JZ;rw[o8,p7,o9 (by omega),o8,t];rcases hb with⟨h0,rfl⟩|⟨n,rfl,j⟩
   .subst h0;rw[p7];refine ih 1 fu _ (by omega) (by omega) (by omega) (.inr ⟨0,rfl,by omega,λk g=>?_,λk g=>by omega⟩);obtain rfl:k=0:=by omega
    rw[ZCB];rintro (h|⟨_,h|⟨_,h⟩⟩)
    .omega
    .omega
    .rw[JC.2 rfl]at h;omega
   .have u:=j.lt;rw[pO,Li _ (ZFR ho),oT,o9 (by omega),Li _ (ZFR ho),oT,K7,oT,ZOF,oT,N_,oT];have e:xm (sK (vi m (vf (l.getD ((i:Int)).toNat a_.d).c_.b_) 0) (vi m (vf (l.getD ((n:Int)).toNat a_.d).c_.b_) 0)) (xm (sK (l.getD ((i:Int)).toNat a_.d).pK (l.getD ((n:Int)).toNat a_.d).pK) (qK (l.getD ((i:Int)).toNat a_.d).c_ (l.getD ((n:Int)).toNat a_.d).c_))=Bm l i n:=by
     rw[hg,hg];rfl
    rw[e,o8];by_cases h:Bm l i n>0
    .rw[aFa h];refine ih (i+1) fu _ (by omega) (by omega) (by omega) (.inr ⟨i,rfl,by omega,λk g=>?_,λk g=>ZVB h (j.top k g)⟩);by_cases C':k=i
     .subst C';rw[ZCB];rintro (h|⟨_,h|⟨_,h⟩⟩)
      .omega
      .omega
      .rw[JC.2 rfl]at h;omega
     .exact amR (ZVB h (j.top k (by omega)))
    .rw[aE_ h];refine ih (i+1) fu _ (by omega) (by omega) (by omega) (.inr ⟨n,rfl,by omega,λk g=>?_,j.fst⟩);by_cases C':k=i
     .subst C';exact h
     .exact j.top k (by omega)
 unfold Sy;obtain⟨b',Oc,i3⟩:=aF l.length 0 ((((S7 l:Nat):Int)-(0:Int)).toNat+2) (-1) (by omega) (by omega) (by omega) (.inl ⟨rfl,rfl⟩);simp_all
theorem ZIl(l:S5 a_)(hl:S7 l<=800)(ho:vh l)(i:Nat)(hi:i<S7 l):ZhS l (i:Int)=S8 (wx l (sm (l.getD i a_.d)):Int):=by
 have aF:∀(k j fu:Nat),S7 l-j=k->j<=S7 l->k+1<=fu->Ms l (i:Int) fu (wx (l.take j) (sm (l.getD i a_.d)):Int) (j:Int)=S8 (wx l (sm (l.getD i a_.d)):Int):=by
  intro k;induction k with
  |zero=>
   intro j fu e g o;obtain⟨fu,rfl⟩:=sC fu;unfold Ms;rw[o8,pO,TV (by omega)]
  |succ k ih=>
   intro j fu e g o;obtain⟨fu,rfl⟩:=sC fu;have xp:j<S7 l:=by omega
   have t:n_ (j:Int) 1=((j+1:Nat):Int):=pY (n:=j+1) (by omega) (by simp only[maxLen];omega);have u:=ZQE (l.take j) (sm (l.getD i a_.d));simp only[TQ]at u;have hg:l.getD ((j:Int)).toNat a_.d=l[j]:=ua l _ j xp;have cj:=ih (j+1) fu (by omega) (by omega) (by omega);rw[ZES l j xp]at cj;unfold Ms;rw[o8,p7,o9 (by omega),hg,ZPo _ (ho _ (ZP xp)),oT,o9 (by omega),ZPo _ (ZFR ho),oT,o8,t];have y:vf l[j].c_.b_=sm l[j]:=rfl;have A:vf (l.getD ((i:Int)).toNat a_.d).c_.b_=sm (l.getD i a_.d):=rfl;rw[y,A];by_cases h:sm l[j]=sm (l.getD i a_.d)
   .rw[aFa h]at cj ⊢;have B:n_ (wx (l.take j) (sm (l.getD i a_.d)):Int) 1=((wx (l.take j) (sm (l.getD i a_.d))+1:Nat):Int):=by rw[s_ (by omega) (by omega)];omega
    simp_all
   simp_all
 unfold ZhS;rw[o8,pO,o8,pO];exact aF l.length 0 _ (by omega) (by omega) (by omega)
theorem ZMB(p q:a_):ZiF p q=S8 (decide (p.pK>q.pK\/(p.pK=q.pK/\0<qK p.c_ q.c_))):=by
 unfold ZiF;rw[Rz,oT]
 grind
theorem ZBW(l:S5 a_)(hl:S7 l<=800)(ho:vh l)(i:Nat)(hi:i<S7 l)(e:Int->S6 Int):∀(k j fu:Nat),S7 l-j=k->j<=S7 l->k+1<=fu->∀v:Bool,(v=Tl↔∀x,x<j->¬0<Bm l x i) ->
  ((∀x,x<S7 l->¬0<Bm l x i)->Dt l (i:Int) e fu v (j:Int)=S8 (i:Int))/\((∃x,x<S7 l/\0<Bm l x i)->Dt l (i:Int) e fu v (j:Int)=e (n_ (i:Int) 1)):=by
 intro k;induction k with
 |zero=>
  intro j fu h o t v g;obtain⟨fu,rfl⟩:=sC fu;obtain rfl:j=S7 l:=by omega
  unfold Dt
  grind
 |succ k ih=>
  intro j fu h o t v g;obtain⟨fu,rfl⟩:=sC fu;have u:n_ (j:Int) 1=((j+1:Nat):Int):=pY (n:=j+1) (by omega) (by simp only[maxLen];omega);have hb:∀b:Bool,(b=Tl↔∀x,x<j+1->¬0<Bm l x i)->Dt l (i:Int) e (fu+1) v (j:Int)=Dt l (i:Int) e fu b ((j+1:Nat):Int):=by
   intro b hb
   conv=>lhs;unfold Dt
   rw[o8,p7,ZIl l hl ho j (by omega),oT,ZIl l hl ho i hi,oT,u];cases v with
   |false=>
    grind
   |true=>
    have dA:=g.1 rfl;rw[aFc,o8,o8];have Jq:=ZCB (l:=l) (i:=j) (j:=i);by_cases y:(wx l (sm (l.getD j a_.d)):Int)<=(wx l (sm (l.getD i a_.d)):Int)
    .rw[aFa y];by_cases A:(wx l (sm (l.getD j a_.d)):Int)<(wx l (sm (l.getD i a_.d)):Int)
     .grind
     .rw[aE_ A,o9 (by omega),o9 (by omega),ZMB,oT];simp only[YO]
      grind
    grind
  by_cases B:∀x,x<j+1->¬0<Bm l x i
  .rw[hb Tl (by simp_all)];exact ih (j+1) fu (by omega) (by omega) (by omega) Tl (by simp_all)
  .rw[hb Tm (by simp_all)];exact ih (j+1) fu (by omega) (by omega) (by omega) Tm (by simp_all)
theorem ZYI(l:S5 a_)(hl:S7 l<=800)(ho:vh l):ZkT l=Sy l:=by
 obtain⟨b,hb,e⟩:=ZET l hl ho;rw[hb];rcases e with⟨rfl,rfl⟩|⟨n,rfl,d⟩
 .rfl
 .have g:=d.lt;have aF:∀(k i fu:Nat),n-i=k->i<=n->k+1<=fu->Km l fu (i:Int)=S8 (n:Int):=by
   intro k;induction k with
   |zero=>
    intro i fu h hi j;obtain⟨fu,rfl⟩:=sC fu;obtain rfl:i=n:=by omega
    unfold Km;rw[o8,p7];exact(ZBW l hl ho i (by omega) _ l.length 0 ((((S7 l:Nat):Int)-(0:Int)).toNat+2) (by omega) (by omega) (by omega) Tl (by simp)).1 d.top
   |succ k ih=>
    intro i fu h hi j;obtain⟨fu,rfl⟩:=sC fu;have o:n_ (i:Int) 1=((i+1:Nat):Int):=pY (n:=i+1) (by omega) (by simp only[maxLen];omega);unfold Km;rw[o8,p7];have:=(ZBW l hl ho i (by omega) (Km l fu) l.length 0 ((((S7 l:Nat):Int)-(0:Int)).toNat+2) (by omega) (by omega) (by omega) Tl (by simp)).2 ⟨n,g,d.fst i (by omega)⟩;have d6:Dt l (i:Int) (Km l fu) ((((S7 l:Nat):Int)-(0:Int)).toNat+2) Tl 0=_:=this;rw[d6,o];exact ih (i+1) fu (by omega) (by omega) (by omega)
  unfold ZkT
  grind
theorem ZWE(l:S5 a_)(q:rY)(s:Int):(Gb l q s).length<=S7 l:=by
 have d:=ZQa (vT l) q s;have e:=ZDe l;unfold Gb
 grind
theorem ZWD(l:S5 a_)(q:rY)(s:Int):∀p∈Gb l q s,p∈l/\p.tL=Tl:=λp hp=>by
 obtain⟨i,hi,rfl⟩:=List.mem_map.1 hp
 have:=ZUN (vT l) q s i hi
 unfold gP
 rw[ua _ _ i.toNat]
 have hm:=List.mem_filter.1 (ZP (l:=vT l) (n:=i.toNat) (by omega))
 exact hm
theorem ZKo(l:S5 a_)(q:rY)(s:Int)(hl:S7 l<=800)(ho:vh l) :
  ∃r:l_×Bool,Pd l q s=S8 r/\Zho l q s=S8 r/\(r.2=Tl->∃p∈l,p.c_=r.1/\p.tL=Tl):=by
 have e:=ZWE l q s;have hm:=ZWD l q s;have hoc:vh (Gb l q s):=λp hp=>ho p (hm p hp).1;obtain⟨b,hb,gw⟩:=ZET (Gb l q s) (by omega) hoc;have bF:=ZYI (Gb l q s) (by omega) hoc;unfold Pd Zho;rw[ZNX l q s hl ho,ZTZ l q s hl ho,oT,oT,bF,hb,oT,o8];rcases gw with⟨g,rfl⟩|⟨n,rfl,d⟩
 .simp_all
 .have h:=d.lt;rw[pO,o9 (by omega)]
  grind
inductive Pr (α:Type) where
 |ret (x:α)
 |ask (o:pU) (k:oM->Pr α)
 |no
def Pr.bind{α β:Type}:Pr α->(α->Pr β)->Pr β | .ret x,f=>f x | .ask o k,f=>.ask o λv=>(k v).bind f | .no,_=>.no
theorem Pr.pP(x:α)(f:α->Pr β):(Pr.ret x).bind f=f x:=rfl
theorem Pr.F3(o:pU)(k:oM->Pr α)(f:α->Pr β):(Pr.ask o k).bind f=.ask o λv=>(k v).bind f:=rfl
theorem Pr.bind_assoc(p:Pr α)(f:α->Pr β)(g:β->Pr γ):(p.bind f).bind g=p.bind λx=>(f x).bind g:=by
 induction p with
 |ret x=>rfl
 |ask o k ih=>simp only[Pr.F3,ih]
 |no=>rfl
def runT{α:Type}:Pr α->S5 oM->S6 (o7 α) | .ret x,l=>S8 (.ret x ⟨l⟩) | .ask o _,[]=>S8 (.uF (F5 o)) | .ask _ k,v :: l=>runT (k v) l | .no,_=>none
theorem ZYv(p:Pr α):∀(l:S5 oM)(s:ByteArray),runT p l≠S8 (.bad s):=by
 induction p with
 |ret x=>intro l s h;simp[runT]at h
 |ask o k ih=>
  intro l s;cases l with
  |nil=>simp[runT]
  |cons v l=>exact ih v l s
 |no=>intro l s h;simp[runT]at h
theorem ZBP(p:Pr α):∀(l:S5 oM)(x:α)(g:qA),runT p l=S8 (.ret x g)->∃a,a<=S7 l/\g=⟨l.drop a⟩:=by
 induction p with
 |ret y=>intro l x g h;simp[runT]at h;exact⟨0,UK _,by rw[<-h.2];rfl⟩
 |ask o k ih=>
  intro l x g h;cases l with
  |nil=>simp[runT]at h
  |cons v l=>
   obtain⟨a,e,d⟩:=ih v l x g h;exact⟨a+1,by simp_all,d⟩
 |no=>intro l x g h;simp[runT]at h
theorem qi{p:Pr α}{f:α->Pr β}{F:o7 α->S6 (o7 β)}(d:∀x a,a<=S7 l->runT p l=S8 (.ret x ⟨l.drop a⟩)->F (.ret x ⟨l.drop a⟩)=runT (f x) (l.drop a))(e:∀o,F (.uF o)=S8 (.uF o)) :
  (runT p l).bind F=runT (p.bind f) l:=by
 induction p generalizing l with
 |ret x=>
  have:=d x 0 (UK _) rfl;simpa[runT,Pr.bind]using this
 |ask o k ih=>
  cases l with
  |nil=>simp only[runT,Pr.bind,Xt,e]
  |cons v l=>
   simp only[runT,Pr.bind];refine ih v λx a ha h=>?_;exact d x (a+1) (by simp_all) h
 |no=>rfl
theorem Hc{p:Pr α}{F:o7 α->S6 (o7 α)}(d:∀x g,F (.ret x g)=S8 (.ret x g))(e:∀o,F (.uF o)=S8 (.uF o)):(runT p l).bind F=runT p l:=by
 cases h:runT p l with
 |none=>rfl
 |some t=>
  cases t with
  |ret x g=>exact d x g
  |uF o=>exact e o
  |bad s=>exact aFe h (ZYv p l s)
abbrev pL{α β:Type}(m_:S5 oM)(a:Nat)(P:α->β->Prop)(W:β->Prop)(p:Pr α)(r:S6 (pz×β)):Prop:=yL m_ a P W (runT p (m_.drop a)) r
theorem pL.seq{p:Pr α}(h:pL m_ a P W p r){f:α->Pr γ}{K:pz->β->S6 (pz×δ)}
  (B:∀x b a',a<=a'->a'<=S7 m_->P x b->pL m_ a' P' W' (f x) (K (wk m_ a') b)) (D:∀q b,W b->∃d,K (wt m_ q) b=S8 (wt m_ q,d)/\W' d) :
  pL m_ a P' W' (p.bind f) (r.bind λx=>K x.1 x.2):=by
 unfold pL;rw[<-qi (p:=p) (f:=f) (l:=m_.drop a) (F:=λt=>match t with | .ret x g=>runT (f x) g.tz | .uF o=>S8 (.uF o) | .bad s=>S8 (.bad s)) (λx a _ _=>rfl) (λo=>rfl)]
 rcases h with⟨v,b,a',j,u,e,y,A⟩|⟨q,b,j,u,e,y⟩
 .rw[j,u];exact(B v b a' e y A).ak7 e
 .rw[j,u];obtain⟨d,A,G⟩:=D q b y;simp only[Xt,A];exact .inr ⟨q,d,rfl,rfl,e,G⟩
def wO(l:pM):Pr oM:=.ask ⟨5,0,l,0,0,rE,Tm⟩ .ret
def yR(l:pM)(v:oM)(am:Bool):Pr Unit:=.ask ⟨6,0,l,0,0,v,am⟩ λ_=>.ret ()
def pV(k fP:Int)(am:Bool):Pr Unit:=.ask ⟨k,fP,yn,0,0,rE,am⟩ λ_=>.ret ()
def NX(k wM ac:Int)(am:Bool):Pr Bool:=.ask ⟨7,0,⟨k,0,0⟩,wM,ac,rE,am⟩ λv=>.ret (v.fN==1)
theorem Jv(f:oM->α)(o:pU)(l:S5 oM):(tb (AE ⟨l⟩ o) λv g=>S8 (o7.ret (f v) g))=runT (.ask o λv=>.ret (f v)) l:=by
 cases l with
 |nil=>rw[ZWS];rfl
 |cons v r=>rw[ZQQ];rfl
theorem BE(l:S5 oM)(c:pM):zu ⟨l⟩ c Tm=runT (wO c) l:=Jv id _ l
theorem EW(l:S5 oM)(c:pM)(v:oM)(am:Bool):AD ⟨l⟩ c v am=runT (yR c v am) l:=Jv (λ_=>()) _ l
theorem ZQV(l:S5 oM)(k wM ac:Int)(am:Bool):Pz ⟨l⟩ ⟨k,0,0⟩ wM ac am=runT (NX k wM ac am) l:=Jv (λv=>v.fN==1) _ l
theorem BW(l:S5 oM)(k:Int)(am:Bool):zN ⟨l⟩ k am=runT (pV 1 k am) l:=Jv (λ_=>()) _ l
theorem RO(l:S5 oM)(k:Int)(am:Bool):Mh ⟨l⟩ k am=runT (pV 2 k am) l:=Jv (λ_=>()) _ l
theorem wz(l:S5 oM)(k:Int)(am:Bool):uT ⟨l⟩ k am=runT (pV 3 k am) l:=Jv (λ_=>()) _ l
theorem K8(l:S5 oM)(k:Int)(am:Bool):Hu ⟨l⟩ k am=runT (pV 4 k am) l:=Jv (λ_=>()) _ l
theorem Rp(l:S5 oM)(am:Bool):L9 ⟨l⟩ am=runT (pV 8 0 am) l:=Jv (λ_=>()) _ l
theorem Oh{c:pM}{x:oM}(h:runT (wO c) l=S8 (.ret x g)):∃r,l=x :: r/\g=⟨r⟩:=by
 cases l with
 |nil=>simp[runT,wO]at h
 |cons v r=>
  simp only[runT,wO,S9,o7.ret.injEq]at h;simp_all
def GX(part:Int):Nat->Nat->S5 a_->Pr (S5 a_)|0,_,w=>.ret w|k+1,i,w=>(wO ⟨6,part,i⟩).bind λv=>GX part k (i+1) (w++[v.pN])
def Bw(part:Int):Pr (S5 a_):=(wO ⟨5,part,0⟩).bind λv=>GX part v.fN.toNat 0 []
theorem ZUd(part n:Int):∀(k:Nat)(w:S5 a_)(l:S5 oM)(fu:Nat),(n-(S7 w:Int)).toNat=k->S7 w+S7 l<=900000->k+1<=fu->JY part fu n (S7 w:Int) w ⟨l⟩=runT (GX part k w.length w) l:=by
 intro k;induction k with
 |zero=>
  intro w l fu g hl j;obtain⟨fu,rfl⟩:=sC fu;unfold JY;simp only[o8];rw[pO];rfl
 |succ k ih=>
  intro w l fu g hl j;obtain⟨fu,rfl⟩:=sC fu;unfold JY;simp only[o8];have e:LC part (S7 w:Int)=S8 ⟨6,part,(S7 w:Int)⟩:=rfl;rw[p7,e,oT,BE];refine qi (λx a ha h=>?_) (λo=>rfl);obtain⟨r,rfl,d⟩:=Oh h;simp only[qA.mk.injEq]at d;rw[d];simp only[Uw]at hl;dsimp only;rw[o9 (by simp only[TL,ZO,maxLen];omega)];have t:n_ (S7 w:Int) 1=(((w++[x.pN]).length:Nat):Int):=by
   rw[pY (n:=S7 w+1) (by omega) (by simp only[maxLen];omega)];simp
  grind
theorem K9(part:Int)(l:S5 oM)(hl:S7 l<=900000:=by omega):El ⟨l⟩ part=runT (Bw part) l:=by
 unfold El;have e:LB part=S8 ⟨5,part,0⟩:=rfl;rw[e,oT,BE];refine qi (λx a ha h=>?_) (λo=>rfl);obtain⟨r,rfl,d⟩:=Oh h;simp only[qA.mk.injEq]at d;rw[d];simp only[Uw]at hl;dsimp only;have:=ZUd part (if(0:Int)>x.fN then 0 else x.fN) x.fN.toNat [] r ((((if(0:Int)>x.fN then 0 else x.fN))-(0:Int)).toNat+2) (by grind) (by grind) (by split<;>omega);exact this
theorem ZBY(part:Int):∀(k i:Nat)(w:S5 a_)(l:S5 oM)(x:S5 a_)(g:qA),runT (GX part k i w) l=S8 (.ret x g)->S7 x+S7 g.tz=S7 w+S7 l
 | 0,i,w,l,x,g,h=>by simp[GX,runT]at h;rw[<-h.1,<-h.2]
 |k+1,i,w,[],x,g,h=>by simp[GX,runT,wO,Pr.bind]at h
 |k+1,i,w,v :: l,x,g,h=>by
  have:=ZBY part k (i+1) (w++[v.pN]) l x g h
  grind
theorem ZBc(h:runT (Bw part) l=S8 (.ret x g)):S7 x<=S7 l:=by
 cases l with
 |nil=>simp[Bw,runT,wO,Pr.bind]at h
 |cons v l=>
  have:=ZBY part _ _ _ l x g h
  grind
theorem ZIo(part:Int)(Q:a_->Prop):∀(k i:Nat)(w:S5 a_)(l:S5 oM)(x:S5 a_)(g:qA),runT (GX part k i w) l=S8 (.ret x g)->(∀p∈w,Q p)->(∀v∈l,Q v.pN)->∀p∈x,Q p
 | 0,i,w,l,x,g,h,d,hl=>by simp[GX,runT]at h;rw[<-h.1];exact d
 |k+1,i,w,[],x,g,h,d,hl=>by simp[GX,runT,wO,Pr.bind]at h
 |k+1,i,w,v :: l,x,g,h,d,hl=>by
  refine ZIo part Q k (i+1) (w++[v.pN]) l x g h (λp hp=>?_) (λv' e=>hl v' (U1 _ e))
  rcases T9.1 hp with hp|hp
  .exact d p hp
  .rw[List.mem_singleton.1 hp];exact hl v (by simp)
theorem Rx{Q:a_->Prop}(h:runT (Bw part) l=S8 (.ret x g))(hl:∀v∈l,Q v.pN):∀p∈x,Q p:=by
 cases l with
 |nil=>simp[Bw,runT,wO,Pr.bind]at h
 |cons v l=>exact ZIo part Q _ _ _ l x g h (by simp) λv' d=>hl v' (U1 _ d)
def An(rF ac:S5 a_)(i:Nat):Bool:=decide (S7 rF<=i) || !decide (rF.getD i a_.d=ac.getD i a_.d)
def Ad(rF ac:S5 a_):S5 Int:=((Tr ac.length).filter (An rF ac)).map λ(i:Nat)=>(i:Int)
theorem ZOP(rF ac:S5 a_)(t:S7 ac<=1000000):SH rF ac=S8 (Ad rF ac):=by
 have aF:∀(k i f:Nat),S7 ac-i=k->i<=S7 ac->k+1<=f->Fb rF f ac (S7 ac:Int) i (((Tr i).filter (An rF ac)).map λ(i:Nat)=>(i:Int))=S8 (Ad rF ac):=by
  intro k;induction k with
  |zero=>
   intro i f g hi j;obtain⟨f,rfl⟩:=sC f;unfold Fb;simp only[o8];rw[pO];have:i=S7 ac:=by omega
   rw[this];rfl
  |succ k ih=>
   intro i f g hi j;obtain⟨f,rfl⟩:=sC f;unfold Fb;simp only[o8];have e:n_ (i:Int) 1=((i+1:Nat):Int):=pY (n:=i+1) (by omega) (by simp only[maxLen];omega);have hl:((Tr i).filter (An rF ac)).length<=i:=by
    grind
   have hlen:((((Tr i).filter (An rF ac)).map λ(i:Nat)=>(i:Int))++[(i:Int)]).length * 8<=140737488355328/\((((Tr i).filter (An rF ac)).map λ(i:Nat)=>(i:Int))++[(i:Int)]).length<=maxLen:=by
    simp only[TL,ZO,List.length_map,maxLen];omega
   have gF:An rF ac i=Tl->(((Tr i).filter (An rF ac)).map λ(i:Nat)=>(i:Int))++[(i:Int)]=((Tr (i+1)).filter (An rF ac)).map λ(i:Nat)=>(i:Int):=λh=>by
    rw[ZW,Wa,Vn,Z4 (by rw[h])];rfl
   have c6:An rF ac i=Tm->(((Tr i).filter (An rF ac)).map λ(i:Nat)=>(i:Int))=((Tr (i+1)).filter (An rF ac)).map λ(i:Nat)=>(i:Int):=λh=>by
    rw[ZW,Wa,Vn,List.filter_cons_of_neg (by rw[h];decide)];simp
   have cj:=ih (i+1) f (by omega) (by omega) (by omega);rw[p7,o9 (by omega)];by_cases h:(i:Int)>=(S7 rF:Int)
   .have hb:An rF ac i=Tl:=by unfold An;simp_all
    rw[aFa h,o9 hlen,e,gF hb];exact cj
   .rw[aE_ h,o9 (show 0<=(i:Int)/\(i:Int)<(S7 rF:Int)by omega)];have h0:decide (S7 rF<=i)=Tm:=aFo (by omega);by_cases o:rF.getD ((i:Int)).toNat a_.d=ac.getD ((i:Int)).toNat a_.d
    .have hb:An rF ac i=Tm:=by
      unfold An;simp_all
     simp_all
    .have hb:An rF ac i=Tl:=by
      unfold An;simp_all
     simp only[o,decide_false,YT,aFc];rw[o9 hlen,e,gF hb];exact cj
 exact aF ac.length 0 _ (by omega) (by omega) (by omega)
theorem amG{rF ac:S5 a_}{x:Int}(h:x∈Ad rF ac):0<=x/\x<(S7 ac:Int):=by
 unfold Ad at h
 grind
theorem amF(rF ac:S5 a_):(Ad rF ac).length<=S7 ac:=by
 unfold Ad
 grind
def ZBD(part:Int)(ac:S5 a_):S5 Int->Pr Unit | []=>.ret ()|i :: r=>(yR ⟨6,part,i⟩ ⟨0,ac.getD i.toNat a_.d,[],[]⟩ Tm).bind λ_=>ZBD part ac r
def Dj(part:Int)(rF ac:S5 a_):Pr Unit:=(ZBD part ac (Ad rF ac)).bind λ_=>if rF.length=ac.length then .ret ()else yR ⟨5,part,0⟩ ⟨(S7 ac:Int),wT,[],[]⟩ Tm
theorem JB(part:Int)(rF ac:S5 a_)(l:S5 oM)(j:S7 ac<=1000000:=by omega):Dp ⟨l⟩ part rF ac=runT (Dj part rF ac) l:=by
 unfold Dp;rw[ZOP rF ac j,oT];have hlen:=amF rF ac;have aF:∀(k i f:Nat)(l:S5 oM),(Ad rF ac).length-i=k->i<=(Ad rF ac).length->k+1<=f->Hw part rF ac f (Ad rF ac) ((Ad rF ac).length:Int) i ⟨l⟩=runT ((ZBD part ac ((Ad rF ac).drop i)).bind λ_=>if rF.length=ac.length then .ret ()else yR ⟨5,part,0⟩ ⟨(S7 ac:Int),wT,[],[]⟩ Tm) l:=by
  intro k;induction k with
  |zero=>
   intro i f l t hi u;obtain⟨f,rfl⟩:=sC f;unfold Hw;simp only[o8];rw[pO,List.drop_of_length_le (by omega)];have e:LB part=S8 ⟨5,part,0⟩:=rfl;simp only[e,Xt,ZBD,Pr.pP];by_cases d:S7 rF=S7 ac
   .have g:(((S7 rF:Nat):Int) != ((S7 ac:Nat):Int))=Tm:=by simp[d]
    rw[aFa d,g,aFb];rfl
   .have g:(((S7 rF:Nat):Int) != ((S7 ac:Nat):Int))=Tl:=by
     rw[aFt];omega
    rw[aE_ d,g,aFc,EW];exact Hc (p:=yR ⟨5,part,0⟩ ⟨(S7 ac:Int),wT,[],[]⟩ Tm) (λ_ _=>rfl) (λ_=>rfl)
  |succ k ih=>
   intro i f l t hi u;obtain⟨f,rfl⟩:=sC f;unfold Hw;simp only[o8];have y:n_ (i:Int) 1=((i+1:Nat):Int):=pY (n:=i+1) (by omega) (by simp only[maxLen];omega);have hm:=amG (wy (Ad rF ac) (0:Int) i);have zB:0<=(Ad rF ac).getD ((i:Int)).toNat (0:Int)/\(Ad rF ac).getD ((i:Int)).toNat (0:Int)<(S7 ac:Int):=by simpa using hm
   have e:∀x,LC part x=S8 ⟨6,part,x⟩:=λ_=>rfl;rw[p7,o9 (by omega)];simp only[e,Xt];rw[o9 zB,xZ (Ad rF ac) (0:Int) i];simp only[ZBD,Pr.bind_assoc,YO,EW];refine qi (λx a ha h=>?_) (λo=>rfl)
   grind
 have:=aF (Ad rF ac).length 0 ((((Ad rF ac).length:Int)-(0:Int)).toNat+2) l (by omega) (by omega) (by omega);rw[YZ]at this;exact this
def EC(k c9:Int)(am:Bool):Nat->Pr Unit|0=>.no|n+1=>(wO ⟨k,0,0⟩).bind λv=>(NX k v.fN (n_ v.fN c9) am).bind λb=>bif b then .ret ()else EC k c9 am n
theorem ZOT(k c9:Int)(am:Bool):∀(f:Nat)(l:S5 oM),LW c9 am f ⟨l⟩ ⟨k,0,0⟩=runT (EC k c9 am f) l:=by
 intro f;induction f with
 |zero=>intro l;rfl
 |succ f ih=>
  intro l;unfold LW;rw[BE];refine qi (λx a ha h=>?_) (λo=>rfl);dsimp only;rw[ZQV];refine qi (λb a ha h=>?_) (λo=>rfl);dsimp only;cases b with
  |true=>rfl
  |false=>exact ih _
theorem Gh(k c9:Int)(am:Bool)(l:S5 oM):CR ⟨l⟩ k c9 am=runT (EC k c9 am 1000000) l:=by
 unfold CR;exact ZOT k c9 am 1000000 l
def Om(aY:Int)(am:Bool):Nat->Pr Bool|0=>.no|n+1=>(wO ⟨1,0,0⟩).bind λv=>if v.fN>=aY then .ret Tm else(NX 1 v.fN (n_ v.fN 1) am).bind λb=>bif b then .ret Tl else Om aY am n
theorem ZDR(aY:Int)(am:Bool):∀(f:Nat)(l:S5 oM),Mf aY am f ⟨l⟩ ⟨1,0,0⟩=runT (Om aY am f) l:=by
 intro f;induction f with
 |zero=>intro l;rfl
 |succ f ih=>
  intro l;unfold Mf;rw[BE];refine qi (λx a ha h=>?_) (λo=>rfl);dsimp only;rw[o8];by_cases d:x.fN>=aY
  .rw[aFa d,aFa d];rfl
  .rw[aE_ d,aE_ d,ZQV];refine qi (λb a ha h=>?_) (λo=>rfl);dsimp only;cases b with
   |true=>rfl
   |false=>exact ih _
theorem ZxY(aY:Int)(am:Bool)(l:S5 oM):LU ⟨l⟩ aY am=runT (Om aY am 1000000) l:=by
 unfold LU;exact ZDR aY am 1000000 l
def ZUL:Nat->Nat->Pr Unit|_,0=>.ret ()|i,k+1=>(pV 1 (2+(i:Int)) Tm).bind λ_=>ZUL (i+1) k
def Oi(p:Int):Pr Unit:=ZUL 0 (tN p)
theorem acF(h:i<=1000:=by omega):n_ 2 (i:Int)=2+(i:Int):=s_ (by omega) (by omega)
theorem Sq(p:Int)(l:S5 oM):Ht ⟨l⟩ p=runT (Oi p) l:=by
 have j:=(JF p).2;unfold Ht;rw[OF,oT];have aF:∀(k i f:Nat)(l:S5 oM),tN p-i=k->i<=tN p->k+1<=f->HH f (tN p:Int) i ⟨l⟩=runT (ZUL i k) l:=by
  intro k;induction k with
  |zero=>
   intro i f l d hi e;obtain⟨f,rfl⟩:=sC f;unfold HH;simp only[o8];rw[pO];rfl
  |succ k ih=>
   intro i f l d hi e;obtain⟨f,rfl⟩:=sC f;unfold HH;simp only[o8];have g:n_ (i:Int) 1=((i+1:Nat):Int):=pY (n:=i+1) (by omega) (by simp only[maxLen];omega);rw[p7,acF,BW];refine qi (λx a ha h=>?_) (λo=>rfl);dsimp only;rw[g];exact ih (i+1) f _ (by omega) (by omega) (by omega)
 exact aF (tN p) 0 _ l (by omega) (by omega) (by omega)
def ZQs(am:Bool)(m:Nat):Nat->Pr Unit|0=>.ret ()|n+1=>(pV 3 (2+(n:Int)) (am&&decide (n+1=m))).bind λ_=>ZQs am m n
def Gm(p:Int)(am:Bool):Pr Unit:=ZQs am (tN p) (tN p)
theorem Sp(p:Int)(am:Bool)(l:S5 oM):Hs ⟨l⟩ p am=runT (Gm p am) l:=by
 have y:=JF p;unfold Hs;rw[OF,oT];obtain⟨c,d⟩ : ∃c:Nat,tN p=c+1:=⟨tN p-1,by omega⟩;have aF:∀(n f:Nat)(l:S5 oM),n<=tN p->n+1<=f->Fc p am f ((n:Int)-1) ⟨l⟩=runT (ZQs am (tN p) n) l:=by
  intro n;induction n with
  |zero=>
   intro f l g j;obtain⟨f,rfl⟩:=sC f;rfl
  |succ n ih=>
   intro f l g j;obtain⟨f,rfl⟩:=sC f;unfold Fc;simp only[o8];have t:(((n+1:Nat):Int)-1)=(n:Int):=by omega
   have u:pR (n:Int) 1=((n:Int)-1):=by
    cases n with
    |zero=>exact acj
    |succ n=>rw[H6];omega
   rw[t,p7,acF,OF];simp only[oT,u];have hm:∀m:Bool,m=(am&&decide (n+1=tN p))->(tb (uT ⟨l⟩ (2+(n:Int)) m) λm7 k7=>Fc p am f ((n:Int)-1) k7)=runT (ZQs am (tN p) (n+1)) l:=by
    rintro m rfl;rw[wz];refine qi (λx a ha h=>?_) (λo=>rfl)
    grind
   cases am with
   |true=>
    simp only[aFc];refine hm _ ?_;rw[d,H6]
    grind
   |false=>
    simp_all
 have e:pR (tN p:Int) 1=(tN p:Int)-1:=by rw[d,H6];omega
 rw[e];exact aF (tN p) _ l (Tq _) (by omega)
theorem pL.ret(ha:a<=S7 m_){x:α}{b:β}(h:P x b):pL m_ a P W (.ret x) (S8 (wk m_ a,b)):=
 .inl ⟨x,b,a,rfl,rfl,Tq _,ha,h⟩
theorem pL.mono{P':α->β->Prop}{W':β->Prop}{p:Pr α}(h:pL m_ a P W p r)(o:∀x b,P x b->P' x b)(t:∀b,W b->W' b):pL m_ a P' W' p r:=by
 rcases h with⟨v,b,a',d,e,g,j,u⟩|⟨q,b,d,e,g,j⟩
 .exact .inl ⟨v,b,a',d,e,g,j,o _ _ u⟩
 .exact .inr ⟨q,b,d,e,g,t _ j⟩
theorem pL.sr{p:Pr α}(h:pL m_ a P W p r){f:α->Pr γ}{K:pz×β->S6 (pz×δ)}
  (e:∀x b a',a<=a'->a'<=S7 m_->P x b->pL m_ a' P' W' (f x) (K (wk m_ a',b))) (g:∀q b,W b->∃d,K (wt m_ q,b)=S8 (wt m_ q,d)/\W' d):pL m_ a P' W' (p.bind f) (r.bind K):=by
 have:=pL.seq h (f:=f) (K:=λw b=>K (w,b)) e g;omega
theorem pL.qj{P:α->Unit->Prop}{W:Unit->Prop}{p:Pr α}{r:S6 pz}(h:pL m_ a P W p (r.map λw=>(w,()))){f:α->Pr γ}{K:pz->S6 (pz×δ)}
  (e:∀x a',a<=a'->a'<=S7 m_->P x ()->pL m_ a' P' W' (f x) (K (wk m_ a'))) (g:∀q,∃d,K (wt m_ q)=S8 (wt m_ q,d)/\W' d):pL m_ a P' W' (p.bind f) (r.bind K):=by
 have:=pL.seq h (f:=f) (K:=λw _=>K w) (λx b=>e x) (λq b _=>g q);cases r with
 |none=>exact this
 |some x=>exact this
theorem pL.KM{P:α->Unit->Prop}{W:Unit->Prop}{p:Pr α}{r:S6 pz}(h:pL m_ a P W p (r.map λw=>(w,()))){f:α->Pr γ}{P':γ->Unit->Prop}{W':Unit->Prop}{K:pz->S6 pz}
  (d:∀x a',a<=a'->a'<=S7 m_->P x ()->pL m_ a' P' W' (f x) ((K (wk m_ a')).map λw=>(w,()))) (e:∀q,K (wt m_ q)=S8 (wt m_ q)) (g:W' ()):pL m_ a P' W' (p.bind f) ((r.bind K).map λw=>(w,())):=by
 have:=pL.qj h (f:=f) (K:=λw=>(K w).map λw=>(w,())) d (λq=>⟨(),by rw[e q];rfl,g⟩);cases r with
 |none=>exact this
 |some x=>exact this
theorem pL.FU{p:Pr α}(h:pL m_ a P W p r){f:α->Pr γ}{P':γ->Unit->Prop}{W':Unit->Prop}{K:pz×β->S6 pz}
  (d:∀x b a',a<=a'->a'<=S7 m_->P x b->pL m_ a' P' W' (f x) ((K (wk m_ a',b)).map λw=>(w,()))) (e:∀q b,W b->K (wt m_ q,b)=S8 (wt m_ q)) (g:W' ()):pL m_ a P' W' (p.bind f) ((r.bind K).map λw=>(w,())):=by
 have:=pL.sr h (f:=f) (K:=λw=>(K w).map λw=>(w,())) d (λq b hb=>⟨(),by rw[e q b hb];rfl,g⟩);cases r with
 |none=>exact this
 |some x=>exact this
theorem ZBy(r:S6 α):(r.bind λx=>S8 x)=r:=by cases r<;>rfl
section
variable {m_:S5 oM} (hL:S7 m_<=900000) {a:Nat} (ha:a<=S7 m_)
include hL ha
theorem NJ(o:pU)(ho:C5 o.qL):pL m_ a (λx b=>x=b/\x∈m_) (λb=>b=rE) (.ask o .ret) (J4 (wk m_ a) o):=by
 unfold pL;rw[Ll _ _ _ (by omega) ha];by_cases h:a<S7 m_
 .rw[aFa h,xZ m_ oM.d a h];exact .inl ⟨_,_,a+1,rfl,rfl,by omega,h,rfl,wy m_ oM.d a h⟩
 .rw[aE_ h,List.drop_eq_nil_of_le (by omega)];exact .inr ⟨_,_,rfl,rfl,QW ho,rfl⟩
theorem BN(c:pM):pL m_ a (λx b=>x=b/\x∈m_) (λb=>b=rE) (wO c) (wR (wk m_ a) c):=by
 unfold wR;have:=NJ hL ha ⟨5,0,c,0,0,rE,Tm⟩ GN;have e:∀r:S6 (pz×oM),(r.bind λx=>S8 (x.1,x.2))=r:=λr=>by cases r<;>rfl
 exact(e _).symm ▸ this
theorem vk(k fP:Int)(am:Bool):pL m_ a uh qh (pV k fP am) ((qn (wk m_ a) k fP am).map λw=>(w,())):=by
 unfold qn;exact pL.FU (p:=.ask ⟨k,fP,yn,0,0,rE,am⟩ .ret) (NJ hL ha ⟨k,fP,yn,0,0,rE,am⟩ GN) (f:=λ_=>.ret ()) (λx b a' e d g=>pL.ret d trivial) (λq b _=>rfl) trivial
theorem EP(c:pM)(v:oM)(am:Bool)(d:C5 v):pL m_ a uh qh (yR c v am) ((vV (wk m_ a) c v am).map λw=>(w,())):=by
 unfold vV;exact pL.FU (p:=.ask ⟨6,0,c,0,0,v,am⟩ .ret) (NJ hL ha ⟨6,0,c,0,0,v,am⟩ d) (f:=λ_=>.ret ()) (λx b a' g e h=>pL.ret e trivial) (λq b _=>rfl) trivial
theorem ZLp(n:Int):pL m_ a (λx b=>x=b/\S7 x<=S7 m_/\∀Q:a_->Prop,(∀v∈m_,Q v.pN)->∀p∈x,Q p) (λb=>S7 b<=S7 m_+1) (Bw n) (E_ (wk m_ a) n):=by
 have h:=alF hL ha n;rw[K9 n (m_.drop a) (by simp;omega)]at h;rcases h with⟨v,b,a',d,e,g,j,o⟩|⟨q,b,d,e,g,j⟩
 .exact .inl ⟨v,b,a',d,e,g,j,o.1,o.2,λQ t=>Rx d λv u=>t v (ZZ u)⟩
 .exact .inr ⟨q,b,d,e,g,j⟩
theorem G0(n:Int)(rF ac:S5 a_)(d:S7 ac<=1000000):pL m_ a uh qh (Dj n rF ac) ((wW (wk m_ a) n rF ac).map λw=>(w,())):=by
 have h:=ane (by omega) ha n rF ac d;rw[JB n rF ac (m_.drop a) d]at h;exact h
theorem MV(k b:Int)(am:Bool):pL m_ a uh qh (EC k b am 1000000) ((BG (wk m_ a) k b am).map λw=>(w,())):=by
 have h:=alE hL ha k b am;rw[Gh k b am (m_.drop a)]at h;exact h
theorem ZLn(aY:Int)(am:Bool):pL m_ a tX qh (Om aY am 1000000) (Et (wk m_ a) aY am):=by
 have h:=ZSH hL ha aY am;rw[ZxY aY am (m_.drop a)]at h;exact h
theorem Zzv(p:Int):pL m_ a uh qh (Oi p) ((GF (wk m_ a) p).map λw=>(w,())):=by
 have h:=ZSJ (by omega) ha p;rw[Sq p (m_.drop a)]at h;exact h
theorem Zzw(p:Int)(am:Bool):pL m_ a uh qh (Gm p am) ((AF (wk m_ a) p am).map λw=>(w,())):=by
 have h:=ZSK (by omega) ha p am;rw[Sp p am (m_.drop a)]at h;exact h
end
structure Gl (l:List oM):Prop where
 len:S7 l<=800
 val:∀v∈l,v.ok/\S7 v.po<=800/\S7 v.j_<=800
theorem Gl.drop(h:Gl l)(a:Nat):Gl (l.drop a):=⟨by have:=h.len;simp;omega,λv d=>h.val v (ZZ d)⟩
theorem Of{c:pM}{x:oM}(h:runT (wO c) l=S8 (.ret x g))(hl:Gl l):x.ok/\S7 x.po<=800/\S7 x.j_<=800:=by
 obtain⟨r,rfl,_⟩:=Oh h;exact hl.val x (by simp)
variable{p:Pr α}
theorem K5{f:α->Pr β}:∀{l:S5 oM}{y:β}{g:qA},runT (p.bind f) l=S8 (.ret y g)->∃x d,runT p l=S8 (.ret x d)/\runT (f x) d.tz=S8 (.ret y g):=by
 induction p with
 |ret x=>intro l y g h;exact⟨x,⟨l⟩,rfl,h⟩
 |ask o k ih=>
  intro l y g h;cases l with
  |nil=>simp[Pr.bind,runT]at h
  |cons v l=>exact ih v h
 |no=>intro l y g h;simp[Pr.bind,runT]at h
def HY:Nat->Nat->S5 a_->Pr (S5 a_)|0,_,w=>.ret w|k+1,i,w=>(Bw (i:Int)).bind λx=>HY k (i+1) (w++x)
theorem Zyo(h:runT (Bw part) l=S8 (.ret x g)):S7 x+S7 g.tz<=S7 l:=by
 cases l with
 |nil=>simp[Bw,runT,wO,Pr.bind]at h
 |cons v l=>
  have:=ZBY part _ _ _ l x g h;simp_all
theorem ZAv:∀(k i:Nat)(w:S5 a_)(l:S5 oM)(x:S5 a_)(g:qA),runT (HY k i w) l=S8 (.ret x g)->S7 x+S7 g.tz<=S7 w+S7 l/\∀Q:a_->Prop,(∀p∈w,Q p)->(∀v∈l,Q v.pN)->∀p∈x,Q p
 | 0,i,w,l,x,g,h=>by
  simp only[HY,runT,S9,o7.ret.injEq]at h
  grind
 |k+1,i,w,l,x,g,h=>by
  obtain⟨y,e,d,j⟩:=K5 h
  have o:=Zyo d
  obtain⟨t,u⟩:=ZAv k (i+1) (w++y) e.tz x g j
  obtain⟨a,ha,rfl⟩:=ZBP _ _ _ _ d
  simp only at o t
  refine⟨by grind,λQ A hl=>u Q (λp hp=>?_) (λv B=>hl v (ZZ B))⟩
  rcases T9.1 hp with hp|hp
  .exact A p hp
  .exact Rx d hl p hp
theorem pL.run(h:pL m_ a P W p r):pL m_ a (λx b=>P x b/\∃g,runT p (m_.drop a)=S8 (.ret x g)) W p r:=by
 rcases h with⟨v,b,a',d,e,j,o,t⟩|⟨q,b,d,e,j,o⟩
 .exact .inl ⟨v,b,a',d,e,j,o,t,_,d⟩
 .exact .inr ⟨q,b,d,e,j,o⟩
theorem ZDu(q:pU)(n:Nat)(h:n<=1000)(b4:pz):∀(k i fu:Nat)(ls:S5 (S5 a_)),n-i=k->i<=n->k+1<=fu->S7 ls<=i->∃gZ,B2 (n:Int) fu (i:Int) ls (wt m_ q) b4=S8 (wt m_ q,gZ):=by
 intro k;induction k with
 |zero=>
  intro i fu ls d hi e hl;obtain⟨fu,rfl⟩:=sC fu;unfold B2;rw[o8,pO];exact⟨_,rfl⟩
 |succ k ih=>
  intro i fu ls d hi e hl;obtain⟨fu,rfl⟩:=sC fu;unfold B2;have g:n_ (i:Int) 1=((i+1:Nat):Int):=pY (n:=i+1) (by omega) (by simp only[maxLen];omega);rw[o8,p7,RM,oT,o9 ⟨by grind,by simp only[TL,ZO,maxLen];omega⟩,g];exact ih (i+1) fu _ (by omega) (by omega) (by omega) (by simp_all)
theorem amX(hL:S7 m_<=800)(n:Nat)(d:n<=1000)(b4:pz):∀(k i fu a:Nat)(ls:S5 (S5 a_)),n-i=k->i<=n->k+1<=fu->S7 ls=i->a<=S7 m_ ->
  pL m_ a (λx b=>x=b.flatten/\S7 b=n) qh (HY k i ls.flatten) (B2 (n:Int) fu (i:Int) ls (wk m_ a) b4):=by
 intro k;induction k with
 |zero=>
  intro i fu a ls e hi g hl ha;obtain⟨fu,rfl⟩:=sC fu;unfold B2;rw[o8,pO];exact pL.ret ha ⟨rfl,by omega⟩
 |succ k ih=>
  intro i fu a ls e hi g hl ha;obtain⟨fu,rfl⟩:=sC fu;unfold B2 HY;have j:n_ (i:Int) 1=((i+1:Nat):Int):=pY (n:=i+1) (by omega) (by simp only[maxLen];omega);rw[o8,p7,j];refine pL.sr (ZLp (by omega) ha _) (λx b a' u o t=>?_) (λq b _=>?_)
  .obtain⟨rfl,_⟩:=t;dsimp only;rw[o9 ⟨by grind,by simp only[TL,ZO,maxLen];omega⟩];have:=ih (i+1) fu a' (ls++[x]) (by omega) (by omega) (by omega) (by simp_all) o;simp_all
  .dsimp only;rw[o9 ⟨by grind,by simp only[TL,ZO,maxLen];omega⟩];obtain⟨gZ,h⟩:=ZDu (m_:=m_) q n d b4 k (i+1) fu (ls++[b]) (by omega) (by omega) (by omega) (by simp_all);exact⟨gZ,h,trivial⟩
theorem Jy(ls:S5 (S5 a_))(j:S7 ls<=1000)(o:S7 ls.flatten<=900000:=by omega):HC ls=S8 ls.flatten:=by
 have aF:∀(k i fu:Nat),S7 ls-i=k->i<=S7 ls->k+1<=fu->P1 ls fu (i:Int) (ls.take i).flatten=S8 ls.flatten:=by
  intro k;induction k with
  |zero=>
   intro i fu d hi e;obtain⟨fu,rfl⟩:=sC fu;unfold P1;rw[o8,pO,TV (by omega)]
  |succ k ih=>
   intro i fu d hi e;obtain⟨fu,rfl⟩:=sC fu;unfold P1;have g:n_ (i:Int) 1=((i+1:Nat):Int):=pY (n:=i+1) (by omega) (by simp only[maxLen];omega);have h:(ls.take i).flatten++ls.getD i []=(ls.take (i+1)).flatten:=by
    rw[YR (show i<ls.length by omega),Z0,ua ls _ i];simp
   have t:ls.flatten=(ls.take (i+1)).flatten++(ls.drop (i+1)).flatten:=by rw[<-Z0,WE]
   have hle:(ls.take (i+1)).flatten.length<=S7 ls.flatten:=by
    simp_all
   rw[o8,p7,o9 ⟨by omega,by omega⟩];simp only[YO,h];rw[o9 ⟨by omega,by unfold maxLen;omega⟩,g]
   grind
 exact aF ls.length 0 _ (by omega) (by omega) (by omega)
section
variable {c:p5} {x:pD} (hx:x.ok) (bN:0<=c.e_) (hs:c.e_<=1000) {m_:S5 oM} (hG:Gl m_) {a:Nat} (ha:a<=S7 m_)
include bN hs hG
omit hG in
theorem amY(q:pU):∃ls,Dq (wt m_ q) c.e_=S8 (wt m_ q,ls):=by
 obtain⟨n,d⟩ : ∃n:Nat,c.e_=(n:Int):=⟨c.e_.toNat,by omega⟩;unfold Dq;rw[d];exact ZDu q n (by omega) _ n 0 _ [] (by omega) (by omega) (by omega) (by simp)
include ha in
theorem adp:pL m_ a (λx b=>x=b.flatten/\S7 b<=1000/\S7 x<=800/\∀p∈x,p.ok) qh (HY c.e_.toNat 0 []) (Dq (wk m_ a) c.e_):=by
 have hL:=hG.len;obtain⟨n,d⟩ : ∃n:Nat,c.e_=(n:Int):=⟨c.e_.toNat,by omega⟩;unfold Dq;rw[d,YO];have h:=pL.run (amX hL n (by omega) ⟨[],0,xS,Tm⟩ n 0 (((n:Int)-(0:Int)).toNat+2) a [] (by omega) (by omega) (by omega) rfl ha);refine pL.mono h (λy b e=>?_) (λb hb=>hb);obtain⟨⟨j,A⟩,g,o⟩:=e;obtain⟨B,t⟩:=ZAv _ _ _ _ _ _ o;refine⟨j,by omega,?_,t a_.ok (by simp) λv u=>(hG.val v (ZZ u)).1.2.1⟩
 grind
end
section
variable {m_:S5 oM} (hG:Gl m_) {a:Nat} (ha:a<=S7 m_)
include hG ha
theorem CK(k l:Int)(m:Bool)(v:β):pL m_ a tX qh ((pV k l m).bind λ_=>.ret v) ((qn (wk m_ a) k l m).bind λy=>S8 (y,v)):=by
 have hL:=hG.len;exact pL.qj (vk (by omega) ha k l m) (λ_ a' e d _=>pL.ret d rfl) (λq=>⟨_,rfl,trivial⟩)
end
def Bp:Nat->Nat->S5 (S5 a_)->Pr (S5 (S5 a_))|0,_,w=>.ret w|k+1,i,w=>(Bw (i:Int)).bind λx=>Bp k (i+1) (w++[x])
theorem OQ:∀(k i:Nat)(w:S5 (S5 a_))(l:S5 oM)(x:S5 (S5 a_))(g:qA),runT (Bp k i w) l=S8 (.ret x g)->S7 x=S7 w+k/\S7 x.flatten+S7 g.tz<=S7 w.flatten+S7 l/\∀Q:a_->Prop,(∀p∈w.flatten,Q p)->(∀v∈l,Q v.pN)->∀p∈x.flatten,Q p
 | 0,i,w,l,x,g,h=>by
  simp only[Bp,runT,S9,o7.ret.injEq]at h
  grind
 |k+1,i,w,l,x,g,h=>by
  obtain⟨y,e,d,j⟩:=K5 h
  have o:=Zyo d
  obtain⟨h0,t,u⟩:=OQ k (i+1) (w++[y]) e.tz x g j
  obtain⟨a,ha,rfl⟩:=ZBP _ _ _ _ d
  simp only at o t
  refine⟨by rw[h0];simp;omega,by grind,λQ A hl=>u Q (λp hp=>?_) (λv B=>hl v (ZZ B))⟩
  simp only[Z0,Ww,Z8,Zz,T9]at hp
  rcases hp with hp|hp
  .exact A p hp
  .exact Rx d hl p hp
theorem ZDZ(c:p5)(x:pD)(bN:0<=c.e_)(hs:c.e_<=1000)(l:S5 oM)(hl:S7 l<=800):Zkk ⟨c,x⟩ ⟨l⟩=runT (Bp c.e_.toNat 0 []) l:=by
 obtain⟨n,e⟩ : ∃n:Nat,c.e_=(n:Int):=⟨c.e_.toNat,by omega⟩;have aF:∀(k i fu:Nat)(w:S5 (S5 a_))(l:S5 oM),n-i=k->i<=n->k+1<=fu->S7 w=i->S7 l<=800 ->
   PM fu (n:Int) (i:Int) (w++V6 k []) ⟨l⟩=runT (Bp k i w) l:=by
  intro k;induction k with
  |zero=>
   intro i fu w l g hi j d hl;obtain⟨fu,rfl⟩:=sC fu;unfold PM;rw[o8,pO];simp[Bp,runT]
  |succ k ih=>
   intro i fu w l g hi j d hl;obtain⟨fu,rfl⟩:=sC fu;unfold PM Bp;have o:n_ (i:Int) 1=((i+1:Nat):Int):=pY (n:=i+1) (by omega) (by simp only[maxLen];omega);rw[o8,p7,K9 _ _];refine qi (λy a ha h=>?_) (λ_=>rfl);dsimp only;have es:(w++V6 (k+1) []).set (i:Int).toNat y=w++[y]++V6 k []:=by
    rw[YO,<-d,Z6,Z5 _ _ (Tq _)];simp
   rw[o9 ⟨by omega,by simp;omega⟩,o,es];exact ih (i+1) fu (w++[y]) (l.drop a) (by omega) (by omega) (by omega) (by simp;omega) (by simp;omega)
 unfold Zkk;simp only[e,YO];rw[o9 ⟨by omega,by omega,by omega,by omega⟩];have:=aF n 0 (((n:Int)-(0:Int)).toNat+2) [] l (by omega) (by omega) (by omega) rfl hl;simp_all
def Ah(h:Int):Int:=if h<1 then 1 else if h>1073741824 then 1073741824 else h
def QU(s:pW)(h ac:Int):Nat:=(qp ac-qp s.tZ).toNat / (Ah h).toNat
def xO(s:pW)(h ac:Int):pW:=⟨(((qp s.pB).toNat / 2 ^ QU s h ac:Nat):Int),qp s.tZ+((QU s h ac*(Ah h).toNat:Nat):Int)⟩
theorem ZPf(h:Int):1<=Ah h/\Ah h<=1073741824:=by
 unfold Ah;omega
theorem amt(x:Int)(h:x<=1099511627776):qp x=((x.toNat:Nat):Int):=by
 unfold qp;omega
theorem ZSu(h:Nat)(h0:1<=h)(y:h<=1073741824)(t:Int)(A:0<=t/\t<=1099511627776)(b6:pW):∀(m fu p a:Nat),p<2 ^ m->m+1<=fu->a<=2199023255552->p<=1099511627776 ->
  P6 (h:Int) b6 fu t ⟨(p:Int),(a:Int)⟩=S8 ⟨((p / 2 ^ ((t-(a:Int)).toNat / h):Nat):Int),(a:Int)+(((t-(a:Int)).toNat / h*h:Nat):Int)⟩:=by
 intro m;have sub:∀a:Nat,a<=2199023255552->pR t (a:Int)=t-(a:Int):=λa ha=>by
  exact tq (by omega) (by omega)
 have last:∀(a:Nat),a<=2199023255552->t-(a:Int)>=(h:Int)->pR t (Int.tmod (t-(a:Int)) (h:Int))=(a:Int)+(((t-(a:Int)).toNat / h*h:Nat):Int):=λa ha e=>by
  obtain⟨d,fQ⟩ : ∃d:Nat,t-(a:Int)=(d:Int):=⟨(t-(a:Int)).toNat,by omega⟩;have hd4:t=(d:Int)+(a:Int):=by omega
  rw[fQ,YO,<-Int.ofNat_tmod];have hm:d % h<=d:=Nat.mod_le _ _;have hdm:=Nat.div_add_mod d h
  grind
 induction m with
 |zero=>
  intro fu p a hp g ha c5;obtain⟨fu,rfl⟩:=sC fu;have io:p=0:=by simpa using hp
  subst io;unfold P6;simp only[o8,sub a ha];rw[pO,Z'];by_cases e:t-(a:Int)>=(h:Int)
  .rw[aFa e,o9 (by omega),last a ha e]
  .have h0:(t-(a:Int)).toNat / h=0:=Z2 (by omega);rw[aE_ e,h0];simp
 |succ m ih=>
  intro fu p a hp g ha c5;obtain⟨fu,rfl⟩:=sC fu;unfold P6;simp only[o8,sub a ha];by_cases io:(p:Int)>0
  .rw[aFa io];by_cases e:t-(a:Int)>=(h:Int)
   .rw[aFa e];have j:US .i64 (Yc (p:Int) 2)=((p / 2:Nat):Int):=by
     have:Yc (p:Int) 2=((p / 2:Nat):Int):=(Z3 p 2).symm;rw[this];exact B0
    have o:n_ (a:Int) (h:Int)=((a+h:Nat):Int):=by rw[s_ (by omega) (by omega)];omega
    rw[j,o,ih fu (p / 2) (a+h) (by omega) (by omega) (by omega) (by omega)];obtain⟨d,fQ⟩ : ∃d:Nat,t-(a:Int)=((d+h:Nat):Int):=⟨(t-(a:Int)).toNat-h,by omega⟩;have m9:t-((a+h:Nat):Int)=(d:Int):=by omega
    have u:(d+h) / h=d / h+1:=Nat.add_div_right d (by omega);rw[fQ,m9,YO,YO,u,Nat.pow_succ,Nat.mul_comm (2 ^ (d / h)) 2,<-Nat.div_div_eq_div_mul,Nat.add_mul,Nat.one_mul]
    grind
   .have h0:(t-(a:Int)).toNat / h=0:=Z2 (by omega);rw[aE_ e,aE_ e,h0];simp
  .have io:p=0:=by omega
   subst io;rw[aE_ io,Z'];by_cases e:t-(a:Int)>=(h:Int)
   .rw[aFa e,o9 (by omega),last a ha e]
   .rw[aE_ e,Z2 (by omega)];simp
theorem ZTX(s:pW)(h ac:Int):ZjY s h ac=S8 (xO s h ac):=by
 have hs:=ZPf h;have o:=BU s.tZ;have hp:=BU s.pB;have g:=BU ac;obtain⟨k,j⟩ : ∃k:Nat,Ah h=k:=⟨(Ah h).toNat,by omega⟩;obtain⟨a,ha⟩ : ∃k:Nat,qp s.tZ=k:=⟨(qp s.tZ).toNat,by omega⟩;obtain⟨p,iD⟩ : ∃k:Nat,qp s.pB=k:=⟨(qp s.pB).toNat,by omega⟩;have aF:∀b:pW,Zgf ac s b (Ah h)=S8 (xO s h ac):=λb=>by
  unfold Zgf xO QU;simp only[Hb,Xt,j,ha,iD,YO];rw[ZSu k (by omega) (by omega) (qp ac) g b 41 1000000 p a (by omega) (by omega) (by omega) (by omega)]
 unfold ZjY Zic;simp only[o8];by_cases d:h<1
 .rw[aFa d,pO];have:=aF ⟨0,0⟩;rwa [show Ah h=1 by unfold Ah;rw[aFa d]]at this
 .rw[aE_ d];by_cases e:h>1073741824
  .rw[aFa e];have:=aF ⟨0,0⟩;rwa [show Ah h=1073741824 by unfold Ah;omega]at this
  .rw[aE_ e];have:=aF ⟨0,0⟩;rwa [show Ah h=h by unfold Ah;omega]at this
theorem ZSe(s:pW)(h ac:Int):Zsz s h ac=S8 (xO s h ac):=by
 have hs:=ZPf h;have g:=BU s.tZ;have hp:=BU s.pB;have J:=BU ac;unfold Zsz ZAf ZCD;have y:(if(1073741824:Int)<(if(1:Int)>h then(1:Int)else h)then(1073741824:Int)else(if(1:Int)>h then(1:Int)else h))=Ah h:=by
  unfold Ah;omega
 have A:(if(1099511627776:Int)<(if(0:Int)>s.pB then(0:Int)else s.pB)then(1099511627776:Int)else(if(0:Int)>s.pB then(0:Int)else s.pB))=qp s.pB:=by
  unfold qp;omega
 have B:∀n,0<=n->n<=1099511627776->qp n=n:=λn j o=>by unfold qp;omega
 have D:pR (qp ac) (qp s.tZ)=qp ac-qp s.tZ:=tq (by omega) (by omega);simp only[Gs,Xt,y,A,B (qp s.tZ) g.1 g.2,D];obtain⟨k,t⟩ : ∃k:Nat,Ah h=k:=⟨(Ah h).toNat,by omega⟩;obtain⟨a,ha⟩ : ∃k:Nat,qp s.tZ=k:=⟨(qp s.tZ).toNat,by omega⟩;obtain⟨p,iD⟩ : ∃k:Nat,qp s.pB=k:=⟨(qp s.pB).toNat,by omega⟩;obtain⟨d,F⟩ : ∃d:Nat,(qp ac-qp s.tZ).toNat=d:=⟨_,rfl⟩;have fQ:qp (qp ac-qp s.tZ)=(d:Int):=by rw[amt _ (by omega),F]
 have hdk:d / k<=d:=ZA _ _;have G:US .i64 (Yc (d:Int) (k:Int))=((d / k:Nat):Int):=by
  rw[<-Z3];exact B0 (Z7 _)
 have hnn:(0:Int)<=((d / k:Nat):Int):=Z7 _;rw[fQ,t,G,o9 (by omega),o9 (by split<;>omega),iD,ha];have hl:QU s h ac=d / k:=by unfold QU;simp_all
 unfold xO;rw[hl,iD,ha,t,YO,YO];have hdm:d / k*k<=d:=Nat.div_mul_le_self d k;have H:u6 ((d / k:Nat):Int) (k:Int)=((d / k*k:Nat):Int):=by
  unfold u6;rw[<-Int.natCast_mul];exact B0
 have I:n_ (a:Int) ((d / k*k:Nat):Int)=(a:Int)+((d / k*k:Nat):Int):=s_ (by omega) (by omega);rw[H,I];congr 2
 -- the points
 have u:∀c:Nat,c<=41->Int.fdiv (p:Int) (2 ^ (min ((c:Nat):Int).toNat (UB .i64)))=((p / 2 ^ c:Nat):Int):=λc e=>by
  have:min ((c:Nat):Int).toNat (UB .i64)=c:=by
   rw[YO];show min c 64=c;omega
  grind
 by_cases e:(41:Int)<((d / k:Nat):Int)
 .rw[aFa e];have:=u 41 (by omega);rw[show (((41:Nat):Int))=(41:Int)from rfl]at this;rw[this];have j:p / 2 ^ 41=0:=Z2 (by omega);have o:p / 2 ^ (d / k)=0:=Z2 (Nat.lt_of_lt_of_le (show p<2 ^ 41 by omega) (Nat.pow_le_pow_right (by omega) (by omega)));rw[j,o]
 .rw[aE_ e,u (d / k) (by omega)]
theorem alQ(s:pW)(h ac:Int):0<=(xO s h ac).pB/\(xO s h ac).pB<=1099511627776:=by
 have hp:=BU s.pB;unfold xO;have:=ZA (qp s.pB).toNat (2 ^ QU s h ac)
 grind
def ZXa(s:pW)(points h ac:Int):pW:=⟨qp ((xO s h ac).pB+points * 65536),(xO s h ac).tZ⟩
theorem ZTF(s:pW)(points h ac:Int)(h0:0<=points)(j:points<=100):OP s points h ac=S8 (ZXa s points h ac)/\ZlS s points h ac=S8 (ZXa s points h ac):=by
 have g:=alQ s h ac;have d:∀n,0<=n->n<=1099511627776->qp n=n:=λn j o=>by unfold qp;omega
 have em:u6 points 65536=points * 65536:=by unfold u6;exact B0
 have ea:n_ (xO s h ac).pB (points * 65536)=(xO s h ac).pB+points * 65536:=s_ (by omega) (by omega);constructor
 .unfold OP ZCE JE ZXa;simp only[ZSe,Gs,Xt,o8,d points h0 (by omega),d 65536 (by omega) (by omega),d _ g.1 g.2];have t:(OP s points h ac=OP s points h ac):=rfl;by_cases hp:points>0
  .rw[aFa hp,o9 (by omega)];have u:¬((65536:Int)>US .i64 (Yc 1099511627776 points)):=by
    obtain⟨n,rfl⟩ : ∃n:Nat,points=n:=⟨points.toNat,by omega⟩;have e:Yc (1099511627776:Int) (n:Int)=((1099511627776 / n:Nat):Int):=(Z3 1099511627776 n).symm;have hle:1099511627776 / n<=1099511627776:=ZA _ _;have hge:1099511627776 / 100<=1099511627776 / n:=Nat.div_le_div_left (by omega) (by omega);rw[e,B0];omega
   grind
  grind
 .unfold ZlS ZXa;simp only[ZTX,Hb,Xt,o8,d points h0 (by omega)]
  grind
theorem ZMy(s:pW):∃r,LP s=S8 r/\GB s=S8 r:=by
 unfold LP GB;simp only[o8];by_cases h:s.pB<0
 .rw[p7,aFa h];exact⟨_,rfl,rfl⟩
 grind
def Q0(s:pW):Int:=(LP s).getD 0
theorem ZAX(s:pW):LP s=S8 (Q0 s)/\GB s=S8 (Q0 s):=by
 obtain⟨r,d,e⟩:=ZMy s;unfold Q0;simp_all
def Ee(s:pW)(bo:Int):Bool:=decide (s.pB>=(if bo<1 then 1 else if bo>16777216 then 16777216 else bo) * 65536)
theorem ZzH(s:pW)(bo:Int)(h0:0<=s.pB)(d:s.pB<=1099511627776):ZoV s bo=S8 (Ee s bo)/\ZgC s bo=S8 (Ee s bo):=by
 obtain⟨p,hp⟩ : ∃k:Nat,s.pB=k:=⟨s.pB.toNat,by omega⟩;have h:GB s=S8 ((p / 65536:Nat):Int):=by
  unfold GB;simp only[o8];have e:Yc (p:Int) 65536=((p / 65536:Nat):Int):=(Z3 p 65536).symm;rw[pO,hp,e,B0]
 have key:∀L:Int,1<=L->L<=16777216->decide (((p / 65536:Nat):Int)>=L)=decide (s.pB>=L * 65536):=λL d g=>by
  grind
 have atg:(if(16777216:Int)<(if(1:Int)>bo then(1:Int)else bo)then(16777216:Int)else(if(1:Int)>bo then(1:Int)else bo))=(if bo<1 then 1 else if bo>16777216 then 16777216 else bo):=by
  omega
 have j:1<=(if bo<1 then(1:Int)else if bo>16777216 then 16777216 else bo)/\(if bo<1 then(1:Int)else if bo>16777216 then 16777216 else bo)<=16777216:=by
  omega
 have em:∀L:Int,1<=L->L<=16777216->u6 L 65536=L * 65536:=λL d g=>by unfold u6;exact B0
 constructor
 .unfold ZoV Ee;simp_all
 .unfold ZgC Zhd Ee
  grind
def zY(k:Int):Int:=(Pp k).getD 0
theorem ZUp(k:Int):Pp k=S8 (zY k)/\ZgD k=S8 (zY k)/\0<=zY k/\zY k<=100:=by
 obtain⟨q,d,e,g,h⟩:=ZRy k;unfold zY;simp_all
def zq(c:p5)(x:pD)(p:a_):a_:=⟨p.c_,p.tL,p.pK,ZXa p.qa (zY x.qz) c.uM x.pE,p.p_,p.qo⟩
theorem ZLa(c:p5)(x:pD)(p:a_):ZqN p (zY x.qz) c.uM x.pE=S8 (zq c x p)/\Zjl p (zY x.qz) c.uM x.pE=S8 (zq c x p):=by
 obtain⟨_,_,d,e⟩:=ZUp x.qz;obtain⟨g,h⟩:=ZTF p.qa (zY x.qz) c.uM x.pE d e;unfold ZqN Zjl;rw[g,h];exact⟨rfl,rfl⟩
theorem ZFh(c:p5)(x:pD)(p:a_):0<=(zq c x p).qa.pB/\(zq c x p).qa.pB<=1099511627776:=BU _
def sy(l:S5 a_)(n:pn)(b:Bool):S5 a_:=l.filter λp=>uY n p.c_.b_==b
theorem ZWC(p:pn)(a:oV)(hp:p.b_.ok)(ha:a.ok):Lx p a=S8 (uY p a):=by
 unfold uY;cases d:xx p with
 |true=>
  have eJ:=(MW hp).1 d;rw[ac6 p a eJ ha,Bool.true_and]
 |false=>
  unfold Lx;simp only[Lw p hp,d,Xt,cond_false,Bool.false_and]
theorem ZBH(l:S5 a_)(n:pn)(j:n.b_.ok)(hl:S7 l<=1000000)(qb:∀p∈l,p.c_.b_.ok):ZqJ l n=S8 (sy l n Tl,sy l n Tm):=by
 have hL:S7 l<=maxLen:=by unfold maxLen;omega
 have aF:∀fu (i:Nat) w u,i<=S7 l->S7 l-i<fu->w=sy (l.take i) n Tl->u=sy (l.take i) n Tm->Py fu l (S7 l:Int) (i:Int) w u n=S8 (sy l n Tl,sy l n Tm):=by
  intro fu;induction fu with
  |zero=>intro i w u _ h;omega
  |succ fu ih=>
   intro i w u hi o e g;unfold Py;simp only[o8];by_cases h:i<S7 l
   .have hm:=wy l a_.d i h;rw[p7,o9 ⟨by omega,by omega⟩,pY h hL];simp only[YO,ZWC n _ j (qb _ hm),Xt];have cD:∀b,sy (l.take (i+1)) n b=sy (l.take i) n b++[l.getD i a_.d].filter (λp=>uY n p.c_.b_==b):=λb=>by
     unfold sy;rw[YR h,Wa,ua l _ i h]
    have hlen:∀b,(sy (l.take i) n b).length<=1000000:=λb=>by
     have:=Zn (λp:a_=>uY n p.c_.b_==b) (l.take i);simp only[TQ]at this;unfold sy;omega
    have hlw:=hlen Tl;have hlu:=hlen Tm;cases t:uY n (l.getD i a_.d).c_.b_ with
    |true=>
     simp only[aFc];rw[o9 ⟨by rw[e];simp;omega,by rw[e];simp[maxLen];omega⟩]
     grind
    |false=>
     simp only[aFb];rw[o9 ⟨by rw[g];simp;omega,by rw[g];simp[maxLen];omega⟩]
     grind
   grind
 exact aF _ 0 [] [] (by omega) (by omega) rfl rfl
theorem Ry(l:S5 a_)(n:pn)(b:Bool)(g:n.b_.ok)(hl:S7 l<=1000000)(qb:∀p∈l,p.c_.b_.ok):Gz l n b=S8 (sy l n b):=by
 have hL:S7 l<=maxLen:=by unfold maxLen;omega
 have aF:∀fu (i:Nat) w,i<=S7 l->S7 l-i<fu->w=sy (l.take i) n b->PL l b fu (i:Int) w n=S8 (sy l n b):=by
  intro fu;induction fu with
  |zero=>intro i w _ h;omega
  |succ fu ih=>
   intro i w hi o e;unfold PL;simp only[o8];by_cases h:i<S7 l
   .have hm:=wy l a_.d i h;rw[p7,o9 ⟨by omega,by omega⟩,pY h hL];simp only[YO,ZPr n _ g (qb _ hm),Xt];have cD:sy (l.take (i+1)) n b=w++[l.getD i a_.d].filter (λp=>uY n p.c_.b_==b):=by
     rw[e];unfold sy;rw[YR h,Wa,ua l _ i h]
    have k8:S7 w<=1000000:=by
     rw[e];have:=Zn (λp:a_=>uY n p.c_.b_==b) (l.take i);simp only[TQ]at this;unfold sy;omega
    cases j:uY n (l.getD i a_.d).c_.b_==b with
    |true=>
     rw[Z4 (by rw[j])]at cD;simp only[aFc];rw[o9 ⟨by simp;omega,by simp[maxLen];omega⟩]
     grind
    |false=>
     grind
   grind
 exact aF _ 0 [] (by omega) (by omega) rfl
theorem Og(l:S5 a_)(n:pn)(b:Bool):(sy l n b).length<=S7 l:=Zn _ _
def vj(l:S5 a_)(b:Bool):Int:=((l.countP λp=>p.tL==b:Nat):Int)
theorem Zug(l:S5 a_)(b:Bool)(hl:S7 l<=maxLen):LQ l b=S8 (vj l b):=by
 simp only[LQ];have:=ZEn l a_.d (λp=>p.tL==b) hl (λfu n i=>L8 b fu n l (S7 l:Int) i) (λfu i n hi=>by
   simp only[L8,o8];rw[p7,o9 ⟨by omega,by omega⟩];simp_all) (λfu n=>by
   simp only[L8,o8];rw[pO]) ((((S7 l:Nat):Int)-(0:Int)).toNat+2) 0 0 (by omega) (by omega) (by omega)
 simp only[YX,YZ]at this;rw[this];unfold vj;congr 2;omega
theorem Zum(l:S5 a_)(b:Bool)(hl:S7 l<=maxLen):ZhQ l b=S8 (vj l b):=by
 simp only[ZhQ];have:=ZEn l a_.d (λp=>p.tL==b) hl (λfu n i=>Mu l b fu n i) (λfu i n hi=>by
   simp only[Mu,o8];rw[p7,o9 ⟨by omega,by omega⟩];simp_all) (λfu n=>by
   simp only[Mu,o8];rw[pO]) ((((S7 l:Nat):Int)-(0:Int)).toNat+2) 0 0 (by omega) (by omega) (by omega)
 simp only[YX,YZ]at this;rw[this];unfold vj;congr 2;omega
theorem Q4(l:S5 a_)(b:Bool):0<=vj l b/\vj l b<=(S7 l:Int):=by
 unfold vj
 grind
def yP(l:S5 a_):S5 l_:=l.map (·.c_)
theorem ZEt(l:S5 a_)(hl:S7 l<=1000000:=by omega):SB l=S8 (yP l):=by
 have hL:S7 l<=maxLen:=by unfold maxLen;omega
 have aF:∀fu (i:Nat) w,i<=S7 l->S7 l-i<fu->w=yP (l.take i)->SY fu l (S7 l:Int) (i:Int) w=S8 (yP l):=by
  intro fu;induction fu with
  |zero=>intro i w _ h;omega
  |succ fu ih=>
   intro i w hi e d;unfold SY;simp only[o8];by_cases h:i<S7 l
   .have k8:S7 w<=1000000:=by rw[d];unfold yP;simp;omega
    rw[p7,o9 ⟨by omega,by omega⟩,pY h hL,o9 ⟨by simp;omega,by simp[maxLen];omega⟩];refine ih (i+1) _ (by omega) (by omega) ?_;rw[d];unfold yP;rw[YR h,Vn,YO,ua l _ i h];rfl
   grind
 exact aF _ 0 [] (by omega) (by omega) rfl
theorem Zwt(l:S5 a_)(hl:S7 l<=1000000:=by omega):Kb l=S8 (yP l):=by
 have hL:S7 l<=maxLen:=by unfold maxLen;omega
 have aF:∀fu (i:Nat) w,i<=S7 l->S7 l-i<fu->w=yP (l.take i)->ZgA l fu (i:Int) w=S8 (yP l):=by
  intro fu;induction fu with
  |zero=>intro i w _ h;omega
  |succ fu ih=>
   intro i w hi e d;unfold ZgA;simp only[o8];by_cases h:i<S7 l
   .have k8:S7 w<=1000000:=by rw[d];unfold yP;simp;omega
    rw[p7,o9 ⟨by omega,by omega⟩,pY h hL,o9 ⟨by simp;omega,by simp[maxLen];omega⟩];refine ih (i+1) _ (by omega) (by omega) ?_;rw[d];unfold yP;rw[YR h,Vn,YO,ua l _ i h];rfl
   grind
 exact aF _ 0 [] (by omega) (by omega) rfl
def zi(a b:Int):Int:=qp (qp a+qp b)
theorem ZBM(a b:Int):JE a b=S8 (zi a b)/\J3 a b=S8 (zi a b):=by
 have d:=BU a;have g:=BU b;have e:n_ (qp a) (qp b)=qp a+qp b:=s_ (by omega) (by omega);constructor
 .unfold JE zi;simp only[Gs,Xt,e]
 .unfold J3 zi;simp only[Hb,Xt,e]
def C8(n a b:Int):Bool:=decide (a<=n)&&decide (n<=b)
def w7(x:pD):Bool:=C8 x.pE 0 1099511627776
def vn(x:pD):Bool:=if x.d_=1\/x.d_=12\/x.d_=13 then BM x.c_&&w7 x else if x.d_=2 then BM x.c_ else if x.d_=3\/x.d_=9 then w7 x else if x.d_=4 then BM x.c_&&(w7 x&&C8 x.qz 0 1073741824)else if x.d_=5 then BM x.c_&&(C8 x.qz 1 5&&w7 x)else if x.d_=6 then xx x.g_&&(C8 x.qz 1 1099511627776&&w7 x)else if x.d_=7 then xx x.g_ else if x.d_=8 then tC x.c_.b_&&w7 x else if x.d_=10 then Tl else if x.d_=11 then BM x.c_&&C8 x.qz 1 1048576 else Tm
def MT(x:pD)(s:Int×Int)(p:Int):Bool:=if p=0 then BM x.c_ else if p=1 then xx x.g_ else if p=2 then tC x.c_.b_ else if p=3 then w7 x else if p=4 then C8 x.qz s.1 s.2 else Tl
theorem ZOK(x:pD)(hx:x.ok)(s:Int×Int)(hs:Sw x.d_=S8 s)(p:Int):ZsB x p=S8 (MT x s p):=by
 have d:x.c_.ok:=hx.2.1;have e:x.g_.ok:=hx.2.2.1;unfold ZsB MT;simp only[uo,ZEQ _ d,Lw _ e.1,JO _ d.1,hs,Xt,w7,C8,o8]
 grind
theorem ZOL(x:pD)(hx:x.ok)(s:Int×Int)(hs:Sw x.d_=S8 s)(l:S5 Int)(hl:S7 l<=100):L3 ((((S7 l:Nat):Int)-(0:Int)).toNat+2) l (S7 l:Int) 0 x=S8 (l.all (MT x s)):=by
 have hL:S7 l<=maxLen:=by unfold maxLen;omega
 have aF:∀fu (i:Nat),i<=S7 l->S7 l-i<fu->L3 fu l (S7 l:Int) (i:Int) x=S8 ((l.drop i).all (MT x s)):=by
  intro fu;induction fu with
  |zero=>intro i _ h;omega
  |succ fu ih=>
   intro i hi d;unfold L3;simp only[o8];by_cases h:i<S7 l
   .rw[p7,o9 ⟨by omega,by omega⟩,ZOK x hx s hs,Xt,pY h hL,xZ l (0:Int) i h,Z9,YO];cases MT x s (l.getD i 0)with
    |true=>grind
    |false=>rfl
   grind
 grind
theorem ZWw(k:Int):∃t,ZuR k=S8 t/\((t.toList==(⟨#[]⟩ : ByteArray).toList) = !(decide (1<=k)&&decide (k<=13))):=by
 unfold ZuR ZvP ZCF;simp only[Xt,o8];by_cases h0:k<0
 .simp_all;omega
 .rw[aE_ h0];by_cases d:k>=14
  .simp_all;omega
  .obtain h|h|h|h|h|h|h|h|h|h|h|h|h|h:k=0\/k=1\/k=2\/k=3\/k=4\/k=5\/k=6\/k=7\/k=8\/k=9\/k=10\/k=11\/k=12\/k=13:=by omega
   all_goals subst h;exact⟨_,rfl,by decide +kernel⟩
theorem ZwM(x:pD)(hx:x.ok):LJ x=S8 (vn x):=by
 obtain⟨t,g,j⟩:=ZWw x.d_;unfold LJ;rw[g,Xt,j];by_cases d:1<=x.d_/\x.d_<=13
 .rw[aFk d.1,aFk d.2];simp only[Bool.and_self,YP,aFb];have key:∀(k:Int)(l:S5 Int)(s:Int×Int),x.d_=k->Sx k=S8 l->Sw k=S8 s->S7 l<=100->l.all (MT x s)=vn x->((Sx x.d_).bind λx2=>L3 ((((S7 x2:Nat):Int)-(0:Int)).toNat+2) x2 ((S7 x2:Nat):Int) (0:Int) x)=S8 (vn x):=by
   intro k l s e o u y h6;rw[e,o,Xt,ZOL x hx s (by rw[e];exact u) l y,h6]
  obtain h|h|h|h|h|h|h|h|h|h|h|h|h:x.d_=1\/x.d_=2\/x.d_=3\/x.d_=4\/x.d_=5\/x.d_=6\/x.d_=7\/x.d_=8\/x.d_=9\/x.d_=10\/x.d_=11\/x.d_=12\/x.d_=13:=by omega
  all_goals exact key _ _ _ h rfl rfl (by simp) (by simp[vn,h,MT])
 .have A:(decide (1<=x.d_)&&decide (x.d_<=13))=Tm:=by
   simp_all
  rw[A];simp only[YT,aFc];unfold vn
  repeat' rw[pO]
theorem ZRs(x:pD)(hx:x.ok)(a b:Int)(s:ByteArray)(L:S5 Int)(hL:S7 L=s.size)(h:∀i:Nat,i<s.size->((Ai s i:Nat):Int)=L.getD i 0)(hs:s.size<=100) :
  Ex a b x ((((s.size:Nat):Int)-(0:Int)).toNat+2) s 0=S8 (L.all λc=>if c=101 then BM x.c_ else if c=110 then xx x.g_ else if c=97 then tC x.c_.b_ else if c=116 then w7 x else if c=107 then C8 x.qz a b else Tl):=by
 have d:x.c_.ok:=hx.2.1;have e:x.g_.ok:=hx.2.2.1;have aF:∀fu (i:Nat),i<=s.size->s.size-i<fu->Ex a b x fu s (i:Int)=S8 ((L.drop i).all λc=>if c=101 then BM x.c_ else if c=110 then xx x.g_ else if c=97 then tC x.c_.b_ else if c=116 then w7 x else if c=107 then C8 x.qz a b else Tl):=by
  intro fu;induction fu with
  |zero=>intro i _ h;omega
  |succ fu ih=>
   intro i hi g;unfold Ex;simp only[o8,uo,ZAA _ d,ZzG _ e.1,Gq _ d.1,Xt];by_cases qI:i<s.size
   .rw[p7,o9 ⟨by omega,by omega⟩,pY (n:=s.size) qI (by unfold maxLen;omega),xZ L (0:Int) i,Z9,YO,h i qI,ih (i+1) (by omega) (by omega)];generalize j:((L.drop (i+1)).all λc=>if c=101 then BM x.c_ else if c=110 then xx x.g_ else if c=97 then tC x.c_.b_ else if c=116 then w7 x else if c=107 then C8 x.qz a b else Tl)=R;have two:∀q:Bool,(bif !q then S8 Tm else S8 R)=S8 (q&&R):=λq=>by cases q<;>rfl
    simp only[two];have rng:∀n lo hi:Int,(if n<lo then S8 Tm else if n>hi then S8 Tm else S8 R)=S8 (C8 n lo hi&&R):=λn lo hi=>by
     unfold C8
     grind
    simp only[rng];unfold w7
    repeat' split
    all_goals rfl
   grind
 grind
theorem Zul(x:pD)(hx:x.ok):Mi x=S8 (vn x):=by
 unfold Mi Qf;simp only[o8,uo];by_cases d:x.d_<1
 .rw[aFa d];unfold vn
  repeat' rw[pO]
 .rw[aE_ d];by_cases g:x.d_>13
  .rw[aFa g];unfold vn
   repeat' rw[pO]
  .rw[aE_ g];have key:∀(k a b:Int)(s:ByteArray)(L:S5 Int),x.d_=k->ZjV k=S8 s->S7 L=s.size->(∀i:Nat,i<s.size->((Ai s i:Nat):Int)=L.getD i 0)->s.size<=100 ->
     (L.all λc=>if c=101 then BM x.c_ else if c=110 then xx x.g_ else if c=97 then tC x.c_.b_ else if c=116 then w7 x else if c=107 then C8 x.qz a b else Tl)=vn x ->
     ((ZjV x.d_).bind λx1=>Ex a b x ((((x1.size:Nat):Int)-(0:Int)).toNat+2) x1 (0:Int))=S8 (vn x):=by
    intro k a b s L e j o t h6 u;rw[e,j,Xt,ZRs x hx a b s L o t h6,u]
   obtain h|h|h|h|h|h|h|h|h|h|h|h|h:x.d_=1\/x.d_=2\/x.d_=3\/x.d_=4\/x.d_=5\/x.d_=6\/x.d_=7\/x.d_=8\/x.d_=9\/x.d_=10\/x.d_=11\/x.d_=12\/x.d_=13:=by omega
   .rw[pO,pO,pO];exact key 1 _ _ _ [101,116] h rfl rfl (by decide) (by decide) (by simp[vn,h])
   .rw[pO,pO,pO];exact key 2 _ _ _ [101] h rfl rfl (by decide) (by decide) (by simp[vn,h])
   .rw[pO,pO,pO];exact key 3 _ _ _ [116] h rfl rfl (by decide) (by decide) (by simp[vn,h])
   .rw[pO,pO,pO];exact key 4 _ _ _ [101,103,116,107] h rfl rfl (by decide) (by decide) (by simp[vn,h])
   .rw[aFa h];exact key 5 _ _ _ [101,107,116] h rfl rfl (by decide) (by decide) (by simp[vn,h])
   .rw[pO,aFa h];exact key 6 _ _ _ [110,107,116] h rfl rfl (by decide) (by decide) (by simp[vn,h])
   .rw[pO,pO,pO];exact key 7 _ _ _ [110] h rfl rfl (by decide) (by decide) (by simp[vn,h])
   .rw[pO,pO,pO];exact key 8 _ _ _ [97,116] h rfl rfl (by decide) (by decide) (by simp[vn,h])
   .rw[pO,pO,pO];exact key 9 _ _ _ [116] h rfl rfl (by decide) (by decide) (by simp[vn,h])
   .rw[pO,pO,pO];exact key 10 _ _ _ [] h rfl rfl (by decide) (by decide) (by simp[vn,h])
   .rw[pO,pO,aFa h];exact key 11 _ _ _ [101,107] h rfl rfl (by decide) (by decide) (by simp[vn,h])
   .rw[pO,pO,pO];exact key 12 _ _ _ [101,116] h rfl rfl (by decide) (by decide) (by simp[vn,h])
   .rw[pO,pO,pO];exact key 13 _ _ _ [101,116] h rfl rfl (by decide) (by decide) (by simp[vn,h])
def gv(v:oM):Prop:=v.ok/\S7 v.po<=5000/\S7 v.j_<=5000
structure Gd (l:List oM):Prop where
 len:S7 l<=400000
 val:∀v∈l,gv v
theorem Gd.drop(h:Gd l)(a:Nat):Gd (l.drop a):=⟨by have:=h.len;simp;omega,λv d=>h.val v (ZZ d)⟩
theorem ZUM{c:pM}{x:oM}(h:runT (wO c) l=S8 (.ret x g))(hl:Gd l):gv x:=by
 obtain⟨r,rfl,_⟩:=Oh h;exact hl.val x (by simp)
def wV(k:Int):oZ:=⟨k,sd,0,0,[]⟩
def pt(c:p5)(x:pD):Int:=Kz x.c_.b_ c.pX c.e_
section
variable {c:p5} {x:pD} (hx:x.ok)
include hx
theorem adf:0<=pt c x/\pt c x<=7:=by
 obtain⟨_,_,d,e⟩:=G8 x.c_.b_ hx.2.1.1 c.pX c.e_;have:Dh c.e_<=8:=by
  unfold Dh;omega
 unfold pt;omega
theorem CJ:n_ 2 (pt c x)=2+pt c x:=by
 have:=adf (c:=c) hx;exact s_ (by omega) (by omega)
theorem ZFK:Md ⟨c,x⟩=S8 (pt c x):=by
 unfold Md;rw[(G8 x.c_.b_ hx.2.1.1 c.pX c.e_).1];rfl
theorem Ge:AB ⟨c,x⟩=S8 (2+pt c x):=by
 unfold AB;rw[ZFK hx,oT,CJ hx]
end
def Fj(n:Int)(e:l_):Pr (S5 a_×Int):=(pV 1 (2+n) Tm).bind λ_=>(Bw n).bind λl=>.ret (l,r5 l e)
theorem R5{n:Int}{e:l_}{r:S5 a_×Int}(h:runT (Fj n e) l=S8 (.ret r g)):r.2=r5 r.1 e/\r.1.length<=S7 l/\∀Q:a_->Prop,(∀v∈l,Q v.pN)->∀p∈r.1,Q p:=by
 cases l with
 |nil=>simp[Fj,pV,Pr.bind,runT]at h
 |cons v l=>
  have d:runT ((Bw n).bind λw=>Pr.ret (w,r5 w e)) l=S8 (.ret r g):=h;rw[<-qi (p:=Bw n) (l:=l) (F:=λt=>match t with | .ret x g=>runT (Pr.ret (x,r5 x e)) g.tz | .uF o=>S8 (.uF o) | .bad s=>S8 (.bad s)) (λ_ _ _ _=>rfl) (λ_=>rfl)]at d
  cases j:runT (Bw n) l with
  |none=>rw[j]at d;cases d
  |some t=>
   rw[j]at d;cases t with
   |ret w A=>
    simp only[Xt,runT,S9,o7.ret.injEq]at d;obtain⟨rfl,rfl⟩:=d;have:=ZBc j;exact⟨rfl,by grind,λQ u=>Rx j λv' y=>u v' (U1 _ y)⟩
   |uF o=>simp at d
   |bad s=>simp at d
def ZYd(p:a_)(ac:Int):a_:=(Pc p ac).getD p
theorem ZOZ(p:a_)(ac:Int):Pc p ac=S8 (ZYd p ac)/\HJ p ac=S8 (ZYd p ac):=by
 obtain⟨q,d,e⟩:=ZTn p ac;unfold ZYd;simp_all
def ZUk(p:a_)(ms:Int):a_:=(OO p ms).getD p
theorem ZPx(p:a_)(ms:Int):OO p ms=S8 (ZUk p ms)/\Hz p ms=S8 (ZUk p ms):=by
 obtain⟨q,d,e⟩:=al_ p ms;unfold ZUk;simp_all
def KE(n:Int):Pr oZ:=(pV 3 (2+n) Tl).bind λ_=>.ret (wV 6)
def MN(n i:Int)(p:a_):Pr Unit:=yR ⟨6,n,i⟩ ⟨0,p,[],[]⟩ Tl
def vB(r:S5 a_×Int):a_:=r.1.getD r.2.toNat a_.d
def NQ(n:Int)(x:pD):Pr oZ:=(Fj n x.c_).bind λr=>if r.2<0 then KE n else if x.d_=11 then(MN n r.2 (ZUk (vB r) x.qz)).bind λ_=>(pV 3 (2+n) Tm).bind λ_=>.ret ⟨0,sd,(ZUk (vB r) x.qz).p_,0,[]⟩else(MN n r.2 (ZYd (vB r) x.pE)).bind λ_=>(pV 3 (2+n) Tm).bind λ_=>.ret sY
def QI(aw:S5 l_):Pr Unit:=(wO ⟨4,0,0⟩).bind λv=>yR ⟨4,0,0⟩ ⟨0,wT,[],v.j_.map (H4 aw)⟩ Tm
def ZIw(n:Int)(e:l_):Pr oZ:=(Fj n e).bind λr=>if r.2<0 then KE n else(Dj n r.1 (zK r.1 [e])).bind λ_=>(if(vB r).tL=Tl then EC 1 (-1) Tl 1000000 else(QI [e]).bind λ_=>EC 2 (-1) Tl 1000000).bind λ_=>(pV 3 (2+n) Tm).bind λ_=>.ret sY
def ZUO(n:Int)(e:l_):Pr oZ:=(Fj n e).bind λr=>if r.2<0 then KE n else if(vB r).tL=Tl then(Dj n r.1 (zK r.1 [e])).bind λ_=>(EC 1 (-1) Tl 1000000).bind λ_=>(pV 3 (2+n) Tm).bind λ_=>.ret sY else(pV 3 (2+n) Tm).bind λ_=>(pV 1 1 Tm).bind λ_=>(ZIw n e).bind λq=>(pV 3 1 Tm).bind λ_=>.ret q
def MM(aw:S5 a_):Pr Unit:=if vj aw Tm>0 then(QI (yP aw)).bind λ_=>EC 2 (-(vj aw Tm)) Tm 1000000 else .ret ()
def HZ(aw:S5 a_):Pr Unit:=(if vj aw Tl>0 then EC 1 (-(vj aw Tl)) Tm 1000000 else .ret ()).bind λ_=>MM aw
def H0(n:Int)(l aw:S5 a_):Pr Unit:=(Dj n l (zK l (yP aw))).bind λ_=>HZ aw
def uj(c:p5)(x:pD):oD:=⟨Kx x.c_.b_,zi x.pE c.sn⟩
def Kw(c:p5)(x:pD):Pr Int:=(wO ⟨3,0,0⟩).bind λv=>if(uA v.po (uj c x) c.qc).2=0 then(yR ⟨3,0,0⟩ ⟨0,wT,(uA v.po (uj c x) c.qc).1,[]⟩ Tm).bind λ_=>.ret (uj c x).pq else .ret 0
def ZCe(n:Int)(c:p5)(x:pD):Pr (oZ×Bool):=(Fj n x.c_).bind λr=>if r.2<0 then .ret (wV 6,Tl)else if Ee (zq c x (vB r)).qa c.rS=Tl then(Kw c x).bind λu=>(H0 n r.1 (sy r.1 (uj c x).g_ Tl)).bind λ_=>.ret (⟨0,x.c_,((sy r.1 (uj c x).g_ Tl).length:Int),u,[]⟩,Tl)else(MN n r.2 (zq c x (vB r))).bind λ_=>.ret (⟨0,sd,Q0 (zq c x (vB r)).qa,0,[]⟩,Tm)
def ZWN(n:Int)(c:p5)(x:pD):Pr oZ:=(Fj n x.c_).bind λr=>if r.2<0 then KE n else if Ee (zq c x (vB r)).qa c.rS=Tl then(pV 3 (2+n) Tm).bind λ_=>(pV 1 0 Tm).bind λ_=>(pV 1 1 Tm).bind λ_=>(ZCe n c x).bind λq=>(pV 3 (2+n) q.2).bind λ_=>(pV 3 1 Tm).bind λ_=>(pV 3 0 Tm).bind λ_=>.ret q.1 else(MN n r.2 (zq c x (vB r))).bind λ_=>(pV 3 (2+n) Tm).bind λ_=>.ret ⟨0,sd,Q0 (zq c x (vB r)).qa,0,[]⟩
def BA:Pr oZ:=(pV 8 0 Tl).bind λ_=>.ret (wV 1)
def KJ(c:p5)(x:pD):Pr oZ:=if vn x=Tl then(if x.d_=2 then ZUO (pt c x) x.c_ else if x.d_=5 then ZWN (pt c x) c x else if x.d_=11\/x.d_=12 then NQ (pt c x) x else BA)else BA
section
variable {c:p5} {x:pD} (hx:x.ok) {l:S5 oM} (hl:Gd l)
include hx hl
theorem Ro:J5 ⟨c,x⟩ ⟨l⟩=runT (Fj (pt c x) x.c_) l:=by
 unfold J5;rw[Ge hx,oT,BW];refine qi (λ_ a ha h=>?_) (λ_=>rfl);dsimp only;have e:=(hl.drop a).len;rw[ZFK hx,oT,K9 _ _];refine qi (λw b hb d=>?_) (λ_=>rfl);dsimp only;have:=ZBc d;rw[Se _ _ (by unfold maxLen;omega)];rfl
theorem ZBA(i:Int)(p:a_):Mc ⟨c,x⟩ ⟨l⟩ i p=runT (MN (pt c x) i p) l:=by
 have _u:=hl;unfold Mc;rw[ZFK hx,oT,EW];exact Hc (p:=MN (pt c x) i p) (λ_ _=>rfl) (λ_=>rfl)
theorem ZBz:((AB ⟨c,x⟩).bind λx2=>tb (uT ⟨l⟩ x2 Tl) λm7 k7=>(J0 (6:Int)).bind λx4=>S8 (o7.ret x4 k7))=runT (KE (pt c x)) l:=by
 have _u:=hl;rw[Ge hx,oT,wz];exact qi (λ_ a ha h=>rfl) (λ_=>rfl)
theorem ZDs(w:S5 a_)(aw:S5 l_)(d:S7 w<=400000)(hg:S7 aw<=400000):PD ⟨c,x⟩ ⟨l⟩ w aw=runT (Dj (pt c x) w (zK w aw)) l:=by
 have _u:=hl;unfold PD;have:=Lm w aw;rw[ZFK hx,oT,ZDX w aw (by omega) (by unfold maxLen;omega),oT,JB _ _ _ _];exact Hc (λ_ _=>rfl) (λ_=>rfl)
omit hx in
theorem ZLu(aw:S5 l_)(hg:S7 aw<=400000):SD ⟨l⟩ aw=runT (QI aw) l:=by
 unfold SD;rw[BE];refine qi (λv a ha h=>?_) (λ_=>rfl);dsimp only;have d:=ZUM h hl;rw[ZKZ _ _ (by have:=d.2.2;omega) (by unfold maxLen;omega),oT,EW];exact Hc (p:=yR ⟨4,0,0⟩ ⟨0,wT,[],v.j_.map (H4 aw)⟩ Tm) (λ_ _=>rfl) (λ_=>rfl)
theorem ZQX:ZmT ⟨c,x⟩ ⟨l⟩=runT (NQ (pt c x) x) l:=by
 unfold ZmT;rw[Ro hx hl];refine qi (λr a ha h=>?_) (λ_=>rfl);obtain⟨e,g,_⟩:=R5 h;have qI:=ES r.1 x.c_;dsimp only;rw[o8];by_cases h0:r.2<0
 .rw[aFa h0,aFa h0];exact ZBz hx (hl.drop a)
 .rw[aE_ h0,aE_ h0,o9 (by omega),(ZOZ _ _).1,oT,uo];by_cases d:x.d_=11
  .rw[aFa d,aFa d,(ZPx _ _).1,oT,ZBA hx (hl.drop a)];refine qi (λ_ b hb _=>?_) (λ_=>rfl);dsimp only;rw[Ge hx,oT,wz];exact qi (λ_ _ _ _=>rfl) (λ_=>rfl)
  .rw[aE_ d,aE_ d,ZBA hx (hl.drop a)];refine qi (λ_ b hb _=>?_) (λ_=>rfl);dsimp only;rw[Ge hx,oT,wz];exact qi (λ_ _ _ _=>rfl) (λ_=>rfl)
theorem ZXi:ZlD ⟨c,x⟩ ⟨l⟩=runT (ZIw (pt c x) x.c_) l:=by
 unfold ZlD;rw[Ro hx hl];refine qi (λr a ha h=>?_) (λ_=>rfl);obtain⟨g,j,_⟩:=R5 h;have qI:=ES r.1 x.c_;have hlen:=hl.len;dsimp only;rw[o8];by_cases h0:r.2<0
 .rw[aFa h0,aFa h0];exact ZBz hx (hl.drop a)
 .rw[aE_ h0,aE_ h0,ZDs hx (hl.drop a) _ _ (by omega) (by simp)];refine qi (λ_ b hb _=>?_) (λ_=>rfl);dsimp only;rw[o9 (by omega)];have e:(Z1 r.1 r.2.toNat a_.d)=vB r:=rfl;rw[e];cases uQ:(vB r).tL with
  |true=>
   rw[aFc,aFa rfl,Gh];refine qi (λ_ d e _=>?_) (λ_=>rfl);dsimp only;rw[Ge hx,oT,wz];exact qi (λ_ _ _ _=>rfl) (λ_=>rfl)
  |false=>
   rw[aFb,aE_ (by decide),Pr.bind_assoc,ZLu ((hl.drop a).drop b) _ (by simp)];refine qi (λ_ d e _=>?_) (λ_=>rfl);dsimp only;rw[Gh];refine qi (λ_ d e _=>?_) (λ_=>rfl);dsimp only;rw[Ge hx,oT,wz];exact qi (λ_ _ _ _=>rfl) (λ_=>rfl)
theorem ZXm:ZlE ⟨c,x⟩ ⟨l⟩=runT (ZUO (pt c x) x.c_) l:=by
 unfold ZlE;rw[Ro hx hl];refine qi (λr a ha h=>?_) (λ_=>rfl);obtain⟨j,o,_⟩:=R5 h;have qI:=ES r.1 x.c_;have hlen:=hl.len;dsimp only;rw[o8];by_cases h0:r.2<0
 .rw[aFa h0,aFa h0];exact ZBz hx (hl.drop a)
 .rw[aE_ h0,aE_ h0,o9 (by omega)];have g:(Z1 r.1 r.2.toNat a_.d)=vB r:=rfl;rw[g];cases uQ:(vB r).tL with
  |true=>
   rw[aFc,aFa rfl,ZDs hx (hl.drop a) _ _ (by omega) (by simp)];refine qi (λ_ d g _=>?_) (λ_=>rfl);dsimp only;rw[Gh];refine qi (λ_ d g _=>?_) (λ_=>rfl);dsimp only;rw[Ge hx,oT,wz];exact qi (λ_ _ _ _=>rfl) (λ_=>rfl)
  |false=>
   rw[aFb,aE_ (by decide),Ge hx,oT,wz];refine qi (λ_ b hb _=>?_) (λ_=>rfl);dsimp only;rw[BW];refine qi (λ_ d g _=>?_) (λ_=>rfl);dsimp only;rw[ZXi hx (((hl.drop a).drop b).drop d)];refine qi (λ_ e t _=>?_) (λ_=>rfl);dsimp only;rw[wz];exact qi (λ_ _ _ _=>rfl) (λ_=>rfl)
end
theorem Oj{n:Int}(h0:0<=n:=by omega)(d:n<=1000000:=by omega):US .i64 (0-n) = -n:=by
 have:=tq (a:=0) (b:=n) (by omega) (by omega);unfold pR at this;omega
theorem OB(l:S5 a_):(yP l).length=S7 l:=by simp[yP]
theorem ZLw(hl:Gd l)(aw:S5 a_)(hg:S7 aw<=400000):ZhO aw ⟨l⟩=runT (MM aw) l:=by
 have e:=Q4 aw Tm;have g:=OB aw;unfold ZhO MM;rw[Zug _ _ (by unfold maxLen;omega),oT,o8];by_cases h0:vj aw Tm>0
 .rw[aFa h0,aFa h0,ZEt _,oT,ZLu hl _ (by omega)];refine qi (λ_ d h _=>?_) (λ_=>rfl);dsimp only;rw[Gh,Oj];exact Hc (λ_ _=>rfl) (λ_=>rfl)
 .rw[aE_ h0,aE_ h0];rfl
section
variable {c:p5} {x:pD} (hx:x.ok) {l:S5 oM} (hl:Gd l)
include hx hl
theorem am0(w aw:S5 a_)(g:S7 w<=400000)(hg:S7 aw<=400000):ZmV ⟨c,x⟩ ⟨l⟩ w aw=runT (H0 (pt c x) w aw) l:=by
 have j:=Q4 aw Tl;have h:=OB aw;unfold ZmV;rw[ZEt _,oT,ZDs hx hl _ _ g (by omega)];refine qi (λ_ d o _=>?_) (λ_=>rfl);dsimp only;rw[Zug _ _ (by unfold maxLen;omega),oT,o8];unfold HZ;by_cases h0:vj aw Tl>0
 .rw[aFa h0,aFa h0,Gh,Oj];refine qi (λ_ e h _=>?_) (λ_=>rfl);dsimp only;exact ZLw ((hl.drop d).drop e) aw hg
 .rw[aE_ h0,aE_ h0,Pr.pP];exact ZLw (hl.drop d) aw hg
omit hx hl in
theorem ZWZ(a b:Int):rn .i64 (zi a b):=by
 have:=BU (qp a+qp b);unfold zi;simp only[rn,Lit.wf,ZB,UT,UB,Ut];simp;omega
omit hx hl in
theorem RG(a:oV)(h:a.ok):(Kx a).ok:=by
 unfold Kx;split
 .refine⟨h,?_,trivial⟩;have:wid a<=128:=KI a;simp only[rn,Lit.wf,ZB,UT,UB,Ut];simp;omega
 .exact⟨⟨trivial,rfl,rfl,trivial⟩,rfl,trivial⟩
theorem am2:ZmU ⟨c,x⟩ ⟨l⟩ (uj c x).g_=runT (Kw c x) l:=by
 unfold ZmU;rw[(ZBM _ _).1,oT,BE];refine qi (λv d o h=>?_) (λ_=>rfl);dsimp only;have j:=ZUM h hl;have hb:(uj c x).ok:=⟨RG _ hx.2.1.1,ZWZ _ _,trivial⟩;have e:oD.mk (uj c x).g_ (zi x.pE c.sn)=uj c x:=rfl;rw[e,ZQP _ _ _ (by have:=j.2.1;omega) hb,oT];by_cases h0:(uA v.po (uj c x) c.qc).2=0
 .have g:((uA v.po (uj c x) c.qc).2 != 0)=Tm:=by rw[h0];rfl
  rw[aFa h0,g,aFb,EW];exact qi (p:=yR ⟨3,0,0⟩ ⟨0,wT,(uA v.po (uj c x) c.qc).1,[]⟩ Tm) (λ_ _ _ _=>rfl) (λ_=>rfl)
 .have g:((uA v.po (uj c x) c.qc).2 != 0)=Tl:=by simp_all
  rw[aE_ h0,g,aFc];rfl
omit hl in
theorem ZLv(p:a_):Zis ⟨c,x⟩ p=S8 (zq c x p,Ee (zq c x p).qa c.rS):=by
 have _u:=hx;unfold Zis;have d:=ZFh c x p;rw[(ZUp x.qz).1,oT,(ZLa c x p).1,oT,(ZzH _ _ d.1 d.2).1];rfl
theorem ZSI:ZkL ⟨c,x⟩ ⟨l⟩=runT (ZCe (pt c x) c x) l:=by
 unfold ZkL;rw[Ro hx hl];refine qi (λr a ha h=>?_) (λ_=>rfl);obtain⟨t,y,j⟩:=R5 h;have qI:=ES r.1 x.c_;have hlen:=hl.len;dsimp only;rw[o8];by_cases h0:r.2<0
 .rw[aFa h0,aFa h0];rfl
 .rw[aE_ h0,aE_ h0,o9 (by omega),ZLv hx,oT];have g:(Z1 r.1 r.2.toNat a_.d)=vB r:=rfl;rw[g];dsimp only;cases uQ:Ee (zq c x (vB r)).qa c.rS with
  |false=>
   rw[YT,aFc,aE_ (by decide),ZBA hx (hl.drop a)];refine qi (λ_ d g _=>?_) (λ_=>rfl);rfl
  |true=>
   have jE:=Og r.1 (uj c x).g_ Tl;have e:OT x.c_.b_=S8 (uj c x).g_:=ZKQ _ hx.2.1.1;rw[YP,aFb,aFa rfl,e,oT,am2 hx (hl.drop a)];refine qi (λu d g _=>?_) (λ_=>rfl);dsimp only;rw[ZBH r.1 (uj c x).g_ (RG _ hx.2.1.1).1 (by omega) (j (λp=>p.c_.b_.ok) λv o=>(hl.val v o).1.2.1.1.1),oT];dsimp only;rw[am0 hx ((hl.drop a).drop d) _ _ (by omega) (by omega)];exact qi (λ_ _ _ _=>rfl) (λ_=>rfl)
theorem ZXo:ZlF ⟨c,x⟩ ⟨l⟩=runT (ZWN (pt c x) c x) l:=by
 unfold ZlF;rw[Ro hx hl];refine qi (λr a ha h=>?_) (λ_=>rfl);obtain⟨j,o,t⟩:=R5 h;have qI:=ES r.1 x.c_;have hlen:=hl.len;dsimp only;rw[o8];by_cases h0:r.2<0
 .rw[aFa h0,aFa h0];exact ZBz hx (hl.drop a)
 .rw[aE_ h0,aE_ h0,o9 (by omega),ZLv hx,oT];have g:(Z1 r.1 r.2.toNat a_.d)=vB r:=rfl;rw[g];dsimp only;cases uQ:Ee (zq c x (vB r)).qa c.rS with
  |false=>
   rw[YT,aFc,aE_ (by decide),ZBA hx (hl.drop a)];refine qi (λ_ d g _=>?_) (λ_=>rfl);dsimp only;rw[Ge hx,oT,wz];refine qi (λ_ d g _=>?_) (λ_=>rfl);rfl
  |true=>
   rw[YP,aFb,aFa rfl,Ge hx,oT,wz];refine qi (λ_ b hb _=>?_) (λ_=>rfl);dsimp only;rw[BW];refine qi (λ_ d g _=>?_) (λ_=>rfl);dsimp only;rw[BW];refine qi (λ_ e u _=>?_) (λ_=>rfl);dsimp only;rw[ZSI hx ((((hl.drop a).drop b).drop d).drop e)];refine qi (λq _ _ _=>?_) (λ_=>rfl);dsimp only;rw[wz];refine qi (λ_ _ _ _=>?_) (λ_=>rfl);dsimp only;rw[wz];refine qi (λ_ _ _ _=>?_) (λ_=>rfl);dsimp only;rw[wz];exact qi (λ_ _ _ _=>rfl) (λ_=>rfl)
omit hx hl in
theorem ZLk(l:S5 oM):ZlC ⟨c,x⟩ ⟨l⟩=runT BA l:=by
 unfold ZlC;rw[Rp];exact qi (λ_ _ _ _=>rfl) (λ_=>rfl)
end
def Di(l:S5 oD)(a:oV)(ac:Int):Int:=(Hn l a ac).getD 0
theorem JG(l:S5 oD)(a:oV)(ac:Int)(hl:S7 l<=maxLen)(qb:∀b∈l,b.ok)(ha:a.ok):Hn l a ac=S8 (Di l a ac)/\GA l a ac=S8 (Di l a ac):=by
 obtain⟨r,u1,u2⟩:=ZFk l a ac hl qb ha;obtain⟨s,u3,u4⟩:=ZBX l a ac hl qb ha;have nc:r=s:=ZEp u2 u4 λb=>Iff.rfl;subst nc;unfold Di;simp_all
def ZWl(x:pD):a_:=⟨x.c_,Tl,qp x.pE,⟨0,qp x.pE⟩,0,0⟩
def H7(x:pD)(l:S5 a_):S5 a_:=l++[ZWl x]
theorem He(x:pD)(l:S5 a_):(H7 x l).length=S7 l+1:=by simp[H7]
theorem ZCV(c:p5)(x:pD)(l:S5 a_)(hl:S7 l<=900000):Mb ⟨c,x⟩ l=S8 (H7 x l):=by
 unfold Mb;have ec:Du l=S8 l:=by
  unfold Du;rw[o9 ⟨by omega,by unfold maxLen;omega⟩]
 have en:JI x.c_ Tl x.pE=S8 (ZWl x):=by unfold JI;rw[Gs];rfl
 have d:=He x l;unfold H7 at d;rw[ec,oT,en,oT,o9 ⟨by omega,by unfold maxLen;omega⟩];rfl
theorem Zwu(x:pD)(l:S5 a_)(hl:S7 l<=900000:=by omega):CU l x=S8 (H7 x l):=by
 unfold CU;have en:Ma x.c_ Tl x.pE=S8 (ZWl x):=by unfold Ma;rw[Hb];rfl
 have d:=He x l;unfold H7 at d;rw[en,oT,List.nil_append,o9 ⟨by omega,by unfold maxLen;omega⟩,o9 ⟨by omega,by unfold maxLen;omega⟩];rfl
variable{all:S5 (S5 a_)}
theorem ZFJ{l:S5 a_}(h:l∈all):S7 l<=S7 all.flatten:=by
 induction all with
 |nil=>cases h
 |cons y r ih=>
  grind
theorem ZKi(all:S5 (S5 a_))(i:Nat)(h:i<S7 all):(all.take (i+1)).flatten=(all.take i).flatten++all[i]:=by
 rw[YR h,Z0];simp
theorem ZCH(all:S5 (S5 a_))(i:Nat):(all.take i).flatten.length<=S7 all.flatten:=by
 have:all.flatten=(all.take i).flatten++(all.drop i).flatten:=by rw[<-Z0,WE]
 simp_all
theorem ZWu(all:S5 (S5 a_))(t:S7 all<=1000)(u:S7 all.flatten<=900000):ZeB all=S8 all.flatten:=by
 have fo:∀(v3:Int)(v9:S5 (S5 a_))(lS iI:Int)(h:Int->S5 (S5 a_)->Int->Int->S6 (S5 a_))(k i fu:Nat),S7 all-i=k->i<=S7 all->k+1<=fu ->
   Qm all v3 v9 lS iI h fu all (S7 all:Int) (i:Int) (all.take i).flatten=S8 all.flatten:=by
  intro v3 v9 lS iI h k;induction k with
  |zero=>
   intro i fu d hi e;obtain⟨fu,rfl⟩:=sC fu;unfold Qm;rw[o8,pO,TV (by omega)]
  |succ k ih=>
   intro i fu d hi e;obtain⟨fu,rfl⟩:=sC fu;have bE:i<S7 all:=by omega
   have g:n_ (i:Int) 1=((i+1:Nat):Int):=pY (n:=i+1) (by omega) (by simp only[maxLen];omega);have hg:all.getD ((i:Int)).toNat []=all[i]:=ua all [] i bE;have j:=ZCH all (i+1);have hs:=ZKi all i bE;unfold Qm;rw[o8,p7,o9 (by omega),hg,<-hs,o9 ⟨by omega,by unfold maxLen;omega⟩,g]
   grind
 have ft:∀(k i fu:Nat),S7 all-i=k->i<=S7 all->k+1<=fu->MG all fu ((all.take i).flatten.length:Int) all (S7 all:Int) (i:Int)=S8 all.flatten:=by
  intro k;induction k with
  |zero=>
   intro i fu d hi e;obtain⟨fu,rfl⟩:=sC fu;have j:=ZCH all i;have eg:ZbO ((all.take i).flatten.length:Int)=S8 []:=by
    unfold ZbO;rw[o9 ⟨by omega,by omega,by omega⟩]
   unfold MG;rw[o8,pO,eg,oT];exact fo _ _ _ _ _ all.length 0 _ (by omega) (by omega) (by omega)
  |succ k ih=>
   intro i fu d hi e;obtain⟨fu,rfl⟩:=sC fu;have bE:i<S7 all:=by omega
   have g:n_ (i:Int) 1=((i+1:Nat):Int):=pY (n:=i+1) (by omega) (by simp only[maxLen];omega);have hg:all.getD ((i:Int)).toNat []=all[i]:=ua all [] i bE;have j:=ZCH all (i+1);have hs:=ZKi all i bE;have hl:(all.take (i+1)).flatten.length=(all.take i).flatten.length+all[i].length:=by simp_all
   have o:n_ ((all.take i).flatten.length:Int) (all[i].length:Int)=((all.take (i+1)).flatten.length:Int):=by rw[s_ (by omega) (by omega)];omega
   unfold MG;rw[o8,p7,o9 (by omega),hg,o,o8,pO,g]
   grind
 unfold ZeB;exact ft all.length 0 _ (by omega) (by omega) (by omega)
def yS(all:S5 (S5 a_))(e:l_):Int:=rM (λl=>decide (r5 l e>=0)) all 0
theorem ZYf(all:S5 (S5 a_))(e:l_)(d:S7 all<=1000)(g:S7 all.flatten<=900000):Zds all e=S8 (yS all e):=by
 simp only[Zds];have:=CM all ([]:S5 a_) (λl=>decide (r5 l e>=0)) (by unfold maxLen;omega) (λfu i=>Qu all e fu (S7 all:Int) i) (λi=>i) (λfu i hi=>by
   have hle:=ZFJ (wy all [] i hi);simp only[Qu,Zlx,o8,YO];rw[p7,o9 ⟨by omega,by omega⟩,Se _ _ (by unfold maxLen;omega)];simp_all) (λfu=>by
   simp only[Qu,o8];rw[pO]) ((((S7 all:Nat):Int)-(0:Int)).toNat+2) 0 (by omega) (by omega)
 simp only[YX,YZ]at this;exact this
theorem ZFj(all:S5 (S5 a_))(e:l_):yS all e<(S7 all:Int):=by
 have:=Oe (λl=>decide (r5 l e>=0)) all 0;unfold yS;omega
theorem ZYe{e:l_}(h:∃p∈all.flatten,p.c_=e):0<=yS all e:=by
 by_cases d:yS all e<0
 .exfalso;obtain⟨p,hp,j⟩:=h;obtain⟨l,hl,fS⟩:=List.mem_flatten.1 hp;have o:=(Gn (λl=>decide (r5 l e>=0)) all 0).1 d l hl;have g:r5 l e<0:=by
   simp_all
  have t:=(Gn (λx:a_=>decide (x.c_=e)) l 0).1 g p fS;simp_all
 .omega
def u7(c:p5)(all:S5 (S5 a_)):l_×Bool:=(Pd all.flatten c.qu c.pX).getD (sd,Tm)
theorem ZKR(c:p5)(all:S5 (S5 a_))(g:S7 all.flatten<=800)(ho:∀p∈all.flatten,p.ok) :
  Pd all.flatten c.qu c.pX=S8 (u7 c all)/\Zho all.flatten c.qu c.pX=S8 (u7 c all)/\((u7 c all).2=Tl->0<=yS all (u7 c all).1):=by
 obtain⟨r,d,j,o⟩:=ZKo all.flatten c.qu c.pX g λp hp=>(ho p hp).1.1;have e:u7 c all=r:=by unfold u7;rw[d];rfl
 rw[e];refine⟨d,j,λh=>ZYe ?_⟩
 grind
def ZIs(c:p5)(x:pD):Pr (oZ×Bool):=(pV 1 (2+pt c x) Tm).bind λ_=>(Bw (pt c x)).bind λl=>if r5 l x.c_>=0 then(pV 3 (2+pt c x) Tl).bind λ_=>.ret (wV 7,Tl)else(Om c.rf Tl 1000000).bind λb=>if b=Tl then(Dj (pt c x) l (H7 x l)).bind λ_=>(pV 3 (2+pt c x) Tm).bind λ_=>.ret (sY,Tl)else(pV 3 (2+pt c x) Tm).bind λ_=>.ret (sY,Tm)
def xw(all:S5 (S5 a_))(i:Int):S5 a_:=all.getD i.toNat []
def Lh(all:S5 (S5 a_))(e:l_):S5 (S5 a_):=all.set (yS all e).toNat (zK (xw all (yS all e)) [e])
def RE(c:p5)(x:pD)(all:S5 (S5 a_)):Pr (oZ×Bool):=if r5 (xw all (pt c x)) x.c_>=0 then .ret (wV 7,Tl)else(Om c.rf Tl 1000000).bind λb=>if b=Tl then(Dj (pt c x) (xw all (pt c x)) (H7 x (xw all (pt c x)))).bind λ_=>.ret (sY,Tm)else if(u7 c all).2=Tl then(Dj (yS all (u7 c all).1) (xw all (yS all (u7 c all).1)) (zK (xw all (yS all (u7 c all).1)) [(u7 c all).1])).bind λ_=>(Dj (pt c x) (xw (Lh all (u7 c all).1) (pt c x)) (H7 x (xw (Lh all (u7 c all).1) (pt c x)))).bind λ_=>.ret (⟨0,(u7 c all).1,1,0,[]⟩,Tl)else .ret (wV 5,Tl)
def ZBa(c:p5)(x:pD)(all:S5 (S5 a_)):Pr oZ:=(RE c x all).bind λq=>(Gm c.e_ q.2).bind λ_=>.ret q.1
def KF(c:p5)(x:pD):Pr oZ:=(Oi c.e_).bind λ_=>(Bp c.e_.toNat 0 []).bind λall=>ZBa c x all
def GV(c:p5)(x:pD):Pr oZ:=if vn x=Tl then(pV 2 0 Tm).bind λ_=>(wO ⟨3,0,0⟩).bind λv=>if Di v.po x.c_.b_ x.pE>0 then(pV 4 0 Tl).bind λ_=>.ret ⟨8,sd,0,Di v.po x.c_.b_ x.pE,[]⟩else(ZIs c x).bind λq=>if q.2=Tl then(pV 4 0 Tm).bind λ_=>.ret q.1 else(KF c x).bind λr=>(pV 4 0 Tm).bind λ_=>.ret r else BA
section
variable {c:p5} {x:pD} (hx:x.ok) {l:S5 oM} (hl:Gl l)
include hx hl
omit hl in
theorem ZKG:S3 ⟨c,x⟩=S8 (pt c x):=by
 unfold S3;rw[(G8 x.c_.b_ hx.2.1.1 c.pX c.e_).1];rfl
theorem ZXg:ZlW ⟨c,x⟩ ⟨l⟩=runT (ZIs c x) l:=by
 unfold ZlW;rw[ZKG hx,oT];simp only[CJ hx];rw[BW];refine qi (λ_ a ha h=>?_) (λ_=>rfl);dsimp only;have j:=(hl.drop a).len;rw[K9 _ _];refine qi (λw b hb g=>?_) (λ_=>rfl);dsimp only;have o:=ZBc g;rw[Se _ _ (by unfold maxLen;omega),oT,o8];by_cases h0:r5 w x.c_>=0
 .rw[aFa h0,aFa h0,wz];exact qi (λ_ _ _ _=>rfl) (λ_=>rfl)
 .rw[aE_ h0,aE_ h0,ZxY];refine qi (λok d t u=>?_) (λ_=>rfl);dsimp only;cases ok with
  |true=>
   rw[aFc,aFa rfl,ZCV c x w (by omega),oT,JB _ _ _ _ (by rw[He];omega)];refine qi (λ_ e y _=>?_) (λ_=>rfl);dsimp only;rw[wz];exact qi (λ_ _ _ _=>rfl) (λ_=>rfl)
  |false=>
   rw[aFb,aE_ (by decide),wz];exact qi (λ_ _ _ _=>rfl) (λ_=>rfl)
variable (bZ:1<=c.e_) (hs:c.e_<=8)
include bZ hs
omit hl in
theorem acC:0<=pt c x/\pt c x<c.e_:=by
 obtain⟨_,_,d,e⟩:=G8 x.c_.b_ hx.2.1.1 c.pX c.e_;have:Dh c.e_=c.e_:=by unfold Dh;omega
 unfold pt;omega
theorem ZOR(all:S5 (S5 a_))(ha:(S7 all:Int)=c.e_)(h:S7 all.flatten<=800)(qb:∀p∈all.flatten,p.ok):PF ⟨c,x⟩ ⟨l⟩ all=runT (RE c x all) l:=by
 have hp:=acC hx bZ hs;obtain⟨j,_,o⟩:=ZKR c all h qb;have hle:=λ(i:Nat) (hi:i<S7 all)=>ZFJ (wy all [] i hi);have kc:=hle (pt c x).toNat (by omega);unfold PF RE;have g:all.getD (pt c x).toNat ([]:S5 a_)=xw all (pt c x):=rfl;rw[ZKG hx,oT,o9 (by omega),g,Se _ _ (by unfold maxLen;unfold xw;omega),oT,o8];by_cases h0:r5 (xw all (pt c x)) x.c_>=0
 .rw[aFa h0,aFa h0];rfl
 .rw[aE_ h0,aE_ h0,ZxY];refine qi (λok d g u=>?_) (λ_=>rfl);dsimp only;cases ok with
  |true=>
   rw[aFc,aFa rfl,ZCV c x _ (by unfold xw;omega),oT,JB _ _ _ _ (by rw[He];unfold xw;omega)];exact qi (λ_ _ _ _=>rfl) (λ_=>rfl)
  |false=>
   rw[aFb,aE_ (by decide),ZWu all (by omega) (by omega),oT,j,oT];cases t:(u7 c all).2 with
   |false=>
    rfl
   |true=>
    have y:=o t;have sR:=ZFj all (u7 c all).1;have k9:=hle (yS all (u7 c all).1).toNat (by omega);have A:=Lm (xw all (yS all (u7 c all).1)) [(u7 c all).1];have gY:(xw all (yS all (u7 c all).1)).length<=S7 all.flatten:=k9;have B:((Lh all (u7 c all).1).getD (pt c x).toNat []).length<=800:=by
     unfold Lh
     grind
    have fQ:all.getD (yS all (u7 c all).1).toNat ([]:S5 a_)=xw all (yS all (u7 c all).1):=rfl;have m9:(all.set (yS all (u7 c all).1).toNat (zK (xw all (yS all (u7 c all).1)) [(u7 c all).1])).getD (pt c x).toNat ([]:S5 a_)=xw (Lh all (u7 c all).1) (pt c x):=rfl;rw[YP,aFb,aFa rfl,ZYf all _ (by omega) (by omega),oT,o9 (by omega),fQ,ZDX _ _ (by omega) (by simp[maxLen]),oT,JB _ _ _ _,m9];refine qi (λ_ e he' _=>?_) (λ_=>rfl);dsimp only;rw[ZCV c x _ (by unfold xw;omega),oT,JB _ _ _ _ (by rw[He];unfold xw;omega)];exact qi (λ_ _ _ _=>rfl) (λ_=>rfl)
theorem anb:ZmX ⟨c,x⟩ ⟨l⟩=runT (KF c x) l:=by
 obtain⟨n,e⟩ : ∃n:Nat,c.e_=(n:Int):=⟨c.e_.toNat,by omega⟩;have aF:∀(k i fu:Nat)(w:S5 (S5 a_))(l:S5 oM)(b4:oZ),n-i=k->i<=n->k+1<=fu->S7 w=i->Gl l->S7 w.flatten+S7 l<=800->(∀p∈w.flatten,p.ok) ->
   PE fu (n:Int) (i:Int) (w++V6 k []) ⟨l⟩ ⟨c,x⟩ b4=runT ((Bp k i w).bind λall=>ZBa c x all) l:=by
  intro k;induction k with
  |zero=>
   intro i fu w l b4 g hi j d hl fX qb;obtain⟨fu,rfl⟩:=sC fu;unfold PE;rw[o8,pO,List.replicate_zero,Zz,ZOR hx hl bZ hs w (by omega) (by omega) qb];simp only[Bp,Pr.pP];refine qi (λq a ha h=>?_) (λ_=>rfl);dsimp only;rw[Sp];exact qi (λ_ _ _ _=>rfl) (λ_=>rfl)
  |succ k ih=>
   intro i fu w l b4 g hi j d hl fX qb;obtain⟨fu,rfl⟩:=sC fu;have hlen:=hl.len;unfold PE Bp;have o:n_ (i:Int) 1=((i+1:Nat):Int):=pY (n:=i+1) (by omega) (by simp only[maxLen];omega);rw[o8,p7,K9 _ _,Pr.bind_assoc];refine qi (λy a ha h=>?_) (λ_=>rfl);dsimp only;have es:(w++V6 (k+1) []).set (i:Int).toNat y=w++[y]++V6 k []:=by
    rw[YO,<-d,Z6,Z5 _ _ (Tq _)];simp
   have t:=Zyo h;simp only at t;rw[o9 ⟨by omega,by simp;omega⟩,o,es];refine ih (i+1) fu (w++[y]) (l.drop a) b4 (by omega) (by omega) (by omega) (by simp;omega) (hl.drop a) ?_ ?_
   .grind
   .intro p hp;simp only[Z0,Ww,Z8,Zz,T9]at hp;rcases hp with hp|hp
    .exact qb p hp
    .exact Rx h (Q:=a_.ok) (λv u=>(hl.val v u).1.2.1) p hp
 unfold ZmX KF;rw[Sq];refine qi (λ_ a ha h=>?_) (λ_=>rfl);dsimp only;have A:=(hl.drop a).len;simp only[e,YO];rw[o9 ⟨by omega,by omega,by omega,by omega⟩];have:=aF n 0 (((n:Int)-(0:Int)).toNat+2) [] (l.drop a) (oZ.mk (0:Int) (l_.mk (oV.mk Tm (0:Int) (0:Int)) (0:Int)) (0:Int) (0:Int) ([]:(S5 a_))) (by omega) (by omega) (by omega) rfl (hl.drop a) (by simpa using A) (by simp);simp_all
theorem ZSN:ZkV ⟨c,x⟩ ⟨l⟩=runT (GV c x) l:=by
 unfold ZkV GV;rw[ZwM x hx,oT];cases vn x with
 |false=>
  rw[YT,aFc,aE_ (by decide),Rp];exact qi (λ_ _ _ _=>rfl) (λ_=>rfl)
 |true=>
  rw[YP,aFb,aFa rfl,RO];refine qi (λ_ a ha h=>?_) (λ_=>rfl);dsimp only;rw[BE];refine qi (λv b hb g=>?_) (λ_=>rfl);dsimp only;have j:=Of g (hl.drop a);rw[(JG v.po x.c_.b_ x.pE (by unfold maxLen;omega) (j.1.2.2.1.2) hx.2.1.1).1,oT,o8];by_cases h0:Di v.po x.c_.b_ x.pE>0
  .rw[aFa h0,aFa h0,K8];exact qi (λ_ _ _ _=>rfl) (λ_=>rfl)
  .rw[aE_ h0,aE_ h0,ZXg hx ((hl.drop a).drop b)];refine qi (λq d o _=>?_) (λ_=>rfl);dsimp only;cases t:q.2 with
   |true=>
    rw[YP,aFb,aFa rfl,K8];exact qi (λ_ _ _ _=>rfl) (λ_=>rfl)
   |false=>
    rw[YT,aFc,aE_ (by decide),anb hx (((hl.drop a).drop b).drop d) bZ hs];refine qi (λr e u _=>?_) (λ_=>rfl);dsimp only;rw[K8];exact qi (λ_ _ _ _=>rfl) (λ_=>rfl)
end
theorem Gl.gd(h:Gl l):Gd l:=⟨by have:=h.len;omega,λv d=>⟨(h.val v d).1,by have:=(h.val v d).2.1;omega,by have:=(h.val v d).2.2;omega⟩⟩
def DZ(b:S5 (S5 a_)):Prop:=S7 b<=1000/\S7 b.flatten<=900000
theorem ZAL(q:pU)(n:Nat)(h:n<=1000)(b4:pz):∀(k i fu:Nat)(ls:S5 (S5 a_)),n-i=k->i<=n->k+1<=fu->S7 ls<=i->∃gZ,B2 (n:Int) fu (i:Int) ls (wt m_ q) b4=S8 (wt m_ q,gZ)/\S7 gZ<=n/\gZ.flatten=ls.flatten:=by
 intro k;induction k with
 |zero=>
  intro i fu ls d hi e hl;obtain⟨fu,rfl⟩:=sC fu;unfold B2
  grind
 |succ k ih=>
  intro i fu ls d hi e hl;obtain⟨fu,rfl⟩:=sC fu;unfold B2;have g:n_ (i:Int) 1=((i+1:Nat):Int):=pY (n:=i+1) (by omega) (by simp only[maxLen];omega);rw[o8,p7,RM,oT,o9 ⟨by grind,by simp only[TL,ZO,maxLen];omega⟩,g];obtain⟨gZ,j,o,t⟩:=ih (i+1) fu (ls++[[]]) (by omega) (by omega) (by omega) (by simp_all);simp_all
theorem ZXr(hL:S7 m_<=800)(n:Nat)(d:n<=1000)(b4:pz):∀(k i fu a:Nat)(ls:S5 (S5 a_)),n-i=k->i<=n->k+1<=fu->S7 ls=i->S7 ls.flatten<=i * 801->a<=S7 m_ ->
  pL m_ a tX DZ (Bp k i ls) (B2 (n:Int) fu (i:Int) ls (wk m_ a) b4):=by
 intro k;induction k with
 |zero=>
  intro i fu a ls e hi g hl hs ha;obtain⟨fu,rfl⟩:=sC fu;unfold B2;rw[o8,pO];exact pL.ret ha rfl
 |succ k ih=>
  intro i fu a ls e hi g hl hs ha;obtain⟨fu,rfl⟩:=sC fu;unfold B2 Bp;have j:n_ (i:Int) 1=((i+1:Nat):Int):=pY (n:=i+1) (by omega) (by simp only[maxLen];omega);rw[o8,p7,j];refine pL.sr (ZLp (by omega) ha _) (λx b a' u o t=>?_) (λq b hb=>?_)
  .obtain⟨rfl,y,_⟩:=t;dsimp only;rw[o9 ⟨by grind,by simp only[TL,ZO,maxLen];omega⟩];refine ih (i+1) fu a' (ls++[x]) (by omega) (by omega) (by omega) (by simp_all) ?_ o
   grind
  .dsimp only;rw[o9 ⟨by grind,by simp only[TL,ZO,maxLen];omega⟩];obtain⟨gZ,h,A,h6⟩:=ZAL (m_:=m_) q n d b4 k (i+1) fu (ls++[b]) (by omega) (by omega) (by omega) (by simp_all);refine⟨gZ,h,by omega,?_⟩
   grind
section
variable {c:p5} {x:pD} (bN:0<=c.e_) (hs:c.e_<=1000) {m_:S5 oM} (hG:Gl m_) {a:Nat} (ha:a<=S7 m_)
include bN hs hG ha
omit hG ha in
theorem ZDt(q:pU):∃ls,Dq (wt m_ q) c.e_=S8 (wt m_ q,ls)/\DZ ls:=by
 obtain⟨n,d⟩ : ∃n:Nat,c.e_=(n:Int):=⟨c.e_.toNat,by omega⟩;unfold Dq;rw[d];obtain⟨ls,e,h,g⟩:=ZAL (m_:=m_) q n (by omega) ⟨[],0,xS,Tm⟩ n 0 (((n:Int)-(0:Int)).toNat+2) [] (by omega) (by omega) (by omega) (by simp);exact⟨ls,e,by omega,by rw[g];simp⟩
theorem ZXs:pL m_ a (λx b=>x=b/\S7 b<=1000/\S7 b.flatten<=800/\∀p∈b.flatten,p.ok) DZ (Bp c.e_.toNat 0 []) (Dq (wk m_ a) c.e_):=by
 have hL:=hG.len;obtain⟨n,d⟩ : ∃n:Nat,c.e_=(n:Int):=⟨c.e_.toNat,by omega⟩;unfold Dq;rw[d,YO];have h:=pL.run (ZXr hL n (by omega) ⟨[],0,xS,Tm⟩ n 0 (((n:Int)-(0:Int)).toNat+2) a [] (by omega) (by omega) (by omega) rfl (by simp) ha);refine pL.mono h (λy b e=>?_) (λb hb=>hb);obtain⟨j,g,o⟩:=e;cases j;obtain⟨h0,A,t⟩:=OQ _ _ _ _ _ _ o;simp only[List.length_nil]at h0;refine⟨rfl,by omega,?_,t a_.ok (by simp) λv u=>(hG.val v (ZZ u)).1.2.1⟩
 grind
end
section
variable {m_:S5 oM} (hG:Gd m_) {a:Nat} (ha:a<=S7 m_)
include hG ha
def ale(m_:S5 oM)(e:l_)(r:S5 a_×Int)(b:S5 a_):Prop:=r=(b,r5 b e)/\S7 b<=S7 m_/\∀Q:a_->Prop,(∀v∈m_,Q v.pN)->∀p∈b,Q p
theorem ZMG(n:Int)(e:l_)(d:n_ 2 n=2+n):pL m_ a (ale m_ e) qh (Fj n e) (Eu (wk m_ a) n):=by
 have hL:=hG.len;unfold Eu Fj;rw[d];refine pL.qj (vk (by omega) ha 1 (2+n) Tm) (λ_ a' t g _=>?_) (λq=>?_)
 .refine pL.sr (ZLp (by omega) g n) (λx b jO u h j=>?_) (λq b _=>⟨_,rfl,trivial⟩);obtain⟨rfl,h6,o⟩:=j;exact pL.ret h ⟨rfl,h6,o⟩
 .rw[RM];exact⟨_,rfl,trivial⟩
omit hG ha in
theorem Sc(q:pU)(n:Int):Eu (wt m_ q) n=S8 (wt m_ q,[]):=by
 rfl
theorem ZUh(aw:S5 l_)(hg:S7 aw<=400000):pL m_ a uh qh (QI aw) ((PR (wk m_ a) aw).map λw=>(w,())):=by
 have hL:=hG.len;unfold PR QI;refine pL.FU (BN (by omega) ha _) (λx b a' h g d=>?_) (λq b hb=>?_) trivial
 .obtain⟨rfl,d⟩:=d;have e:=hG.val _ d;dsimp only;rw[ZYL _ _ (by have:=e.2.2;omega) (by unfold maxLen;omega),oT,ZBy];exact EP (by omega) g _ _ _ ⟨by simp,by have:=e.2.2;simp;omega⟩
 .subst hb;rfl
omit hG ha in
theorem ZEb(q:pU)(aw:S5 l_)(hg:S7 aw<=400000):PR (wt m_ q) aw=S8 (wt m_ q):=by
 rfl
theorem ZPv(aw:S5 a_)(hg:S7 aw<=400000)(b4:pz):pL m_ a uh qh (MM aw) ((Mq aw (vj aw Tm) (wk m_ a) b4).map λw=>(w,())):=by
 have hL:=hG.len;have e:=Q4 aw Tm;have g:=OB aw;unfold Mq MM;rw[o8];by_cases h0:vj aw Tm>0
 .rw[aFa h0,aFa h0,Zwt _,oT];refine pL.KM (ZUh hG ha _ (by omega)) (λ_ a' h d _=>?_) (λq=>?_) trivial
  .rw[ZBy,Oj];exact MV (by omega) d _ _ _
  rfl
 .rw[aE_ h0,aE_ h0];exact pL.ret ha trivial
omit hG ha in
theorem ZBZ(q:pU)(aw:S5 a_)(hg:S7 aw<=400000)(n:Int)(b4:pz):Mq aw n (wt m_ q) b4=S8 (wt m_ q):=by
 have d:=OB aw;unfold Mq;rw[o8,Zwt _,oT,ZEb q _ (by omega),oT,ZBy,Lo];split<;>rfl
theorem ZUi(aw:S5 a_)(hg:S7 aw<=400000):pL m_ a uh qh (HZ aw) ((GC (wk m_ a) aw).map λw=>(w,())):=by
 have hL:=hG.len;have e:=Q4 aw Tl;unfold GC HZ;rw[Zum _ _ (by unfold maxLen;omega),oT,Zum _ _ (by unfold maxLen;omega),oT,o8];by_cases h0:vj aw Tl>0
 .rw[aFa h0,aFa h0,Oj];refine pL.KM (MV (by omega) ha _ _ _) (λ_ a' g d _=>?_) (λq=>?_) trivial
  .exact ZPv hG d aw hg _
  .exact ZBZ q aw hg _ _
 .rw[aE_ h0,aE_ h0,Pr.pP];exact ZPv hG ha aw hg _
omit hG ha in
theorem ZzI(q:pU)(aw:S5 a_)(hg:S7 aw<=400000:=by omega):GC (wt m_ q) aw=S8 (wt m_ q):=by
 unfold GC;rw[Zum _ _ (by unfold maxLen;omega),oT,Zum _ _ (by unfold maxLen;omega),oT,o8,Lo,oT,ZBZ q aw hg];split<;>rfl
end
theorem ZYJ{c:p5}{x:pD}(hx:x.ok):Kd c x=S8 (pt c x):=by
 unfold Kd;rw[(G8 x.c_.b_ hx.2.1.1 c.pX c.e_).2.1];rfl
section
variable {c:p5} {x:pD} (hx:x.ok) {m_:S5 oM} (hG:Gd m_) {a:Nat} (ha:a<=S7 m_)
include hx hG ha
theorem ET(k l:Int)(m:Bool)(v:oZ):pL m_ a tX qh ((pV k l m).bind λ_=>.ret v) ((qn (wk m_ a) k l m).bind λy=>S8 (y,v)):=by
 have _u:=hx;have hL:=hG.len;exact pL.qj (vk (by omega) ha k l m) (λ_ a' e d _=>pL.ret d rfl) (λq=>⟨_,rfl,trivial⟩)
theorem ZYP(r:S5 a_)(F:S7 r<=S7 m_)(h0:0<=r5 r x.c_):pL m_ a tX qh
  (if(vB (r,r5 r x.c_)).tL=Tl then(Dj (pt c x) r (zK r [x.c_])).bind λ_=>(EC 1 (-1) Tl 1000000).bind λ_=>(pV 3 (2+pt c x) Tm).bind λ_=>.ret sY
   else(pV 3 (2+pt c x) Tm).bind λ_=>(pV 1 1 Tm).bind λ_=>(ZIw (pt c x) x.c_).bind λq=>(pV 3 1 Tm).bind λ_=>.ret q)
  (J' x (wk m_ a) (pt c x) r (r5 r x.c_)):=by
 have hL:=hG.len;have qI:=ES r x.c_;unfold J';have j:(Z1 r (r5 r x.c_).toNat a_.d)=vB (r,r5 r x.c_):=rfl;rw[o9 (by omega),j,CJ hx];have cN:=Lm r [x.c_];cases uQ:(vB (r,r5 r x.c_)).tL with
 |true=>
  rw[aFc,aFa rfl,RB r [x.c_] (by omega) (by unfold maxLen;simp),oT];refine pL.qj (G0 (by omega) ha _ _ _ (by omega)) (λ_ a' o g _=>?_) (λq=>?_)
  .refine pL.qj (MV (by omega) g _ _ _) (λ_ jO t h _=>?_) (λq=>?_)
   .exact ET hx hG h _ _ _ _
   .rw[r_];exact⟨_,rfl,trivial⟩
  .rw[Lo,oT,r_];exact⟨_,rfl,trivial⟩
 |false=>
  rw[aFb,aE_ (by decide)];refine pL.qj (vk (by omega) ha _ _ _) (λ_ G o g _=>?_) (λq=>?_);rotate_left
  .rw[r_,oT,Sc];exact⟨_,rfl,trivial⟩
  refine pL.qj (vk (by omega) g _ _ _) (λ_ H t h _=>?_) (λq=>?_);rotate_left
  .rw[Sc];exact⟨_,rfl,trivial⟩
  unfold ZIw;rw[Pr.bind_assoc];refine pL.sr (ZMG hG h _ x.c_ (CJ hx)) (λq b I J h6 u=>?_) (λq b _=>⟨_,rfl,trivial⟩);obtain⟨rfl,L,M⟩:=u;have w8:=ES b x.c_;have nf:=Lm b [x.c_];simp only[yK,cond_false];rw[Dm _ _ (by unfold maxLen;omega),oT,o8];by_cases e:r5 b x.c_<0
  .rw[aFa e,aFa e];unfold KE;rw[Pr.bind_assoc];refine pL.qj (vk (by omega) h6 _ _ _) (λ_ y A Db _=>?_) (λq=>?_)
   .exact ET hx hG Db _ _ _ _
   .rw[r_];exact⟨_,rfl,trivial⟩
  .rw[aE_ e,aE_ e,RB b [x.c_] (by omega) (by unfold maxLen;simp),oT,Pr.bind_assoc];have fQ:(Z1 b (r5 b x.c_).toNat a_.d)=vB (b,r5 b x.c_):=rfl;refine pL.qj (G0 (by omega) h6 _ _ _ (by omega)) (λ_ y A Db _=>?_) (λq=>?_)
   .rw[o9 (by omega),fQ,Pr.bind_assoc];cases ali:(vB (b,r5 b x.c_)).tL with
    |true=>
     rw[aFc,aFa rfl];refine pL.qj (MV (by omega) Db _ _ _) (λ_ B wN zm _=>?_) (λq=>?_)
     .rw[Pr.bind_assoc];refine pL.qj (vk (by omega) zm _ _ _) (λ_ D EJ ng _=>?_) (λq=>?_)
      .exact ET hx hG ng _ _ _ _
      .rw[r_];exact⟨_,rfl,trivial⟩
     .rw[r_,oT,r_];exact⟨_,rfl,trivial⟩
    |false=>
     rw[aFb,aE_ (by decide),Pr.bind_assoc];refine pL.qj (ZUh hG Db _ (by simp)) (λ_ B wN zm _=>?_) (λq=>?_)
     .refine pL.qj (MV (by omega) zm _ _ _) (λ_ D EJ ng _=>?_) (λq=>?_)
      .rw[Pr.bind_assoc];refine pL.qj (vk (by omega) ng _ _ _) (λ_ O h15 h16 _=>?_) (λq=>?_)
       .exact ET hx hG h16 _ _ _ _
       .rw[r_];exact⟨_,rfl,trivial⟩
      .rw[r_,oT,r_];exact⟨_,rfl,trivial⟩
     .rw[Lo,oT,r_,oT,r_];exact⟨_,rfl,trivial⟩
   .rw[o9 (by omega),ZEb q _ (by simp),oT,Lo,Lo,oT,r_,oT,r_];cases(Z1 b (r5 b x.c_).toNat a_.d).tL<;>exact⟨_,rfl,trivial⟩
theorem ZUg (r : S5 a_) (F : r.length <= m_.length) (qb : ∀ p ∈ r, p.c_.b_.ok) : pL m_ a tX qh
    ((Kw c x).bind λu =>(H0 (pt c x) r (sy r (uj c x).g_ Tl)).bind λ_ =>.ret (⟨0,x.c_,((sy r (uj c x).g_ Tl).length:Int),u,[]⟩ : oZ))
    (Zje c x (wk m_ a) (pt c x) r):=by
  have hL:=hG.len
  have jE:=Og r (uj c x).g_ Tl
  have cN:=Lm r (yP (sy r (uj c x).g_ Tl))
  have hel:=OB (sy r (uj c x).g_ Tl)
  have hb:(uj c x).ok:=⟨RG _ hx.2.1.1,ZWZ _ _,trivial⟩
  have B:PN x.c_.b_ = S8 (uj c x).g_:=ZPp _ hx.2.1.1
  have D:J3 x.pE c.sn = S8 (uj c x).pq:=(ZBM _ _).2
  have h:oD.mk (uj c x).g_ (uj c x).pq = uj c x:=rfl
  unfold Zje Kw
  rw [B,oT,D,oT,Pr.bind_assoc]
  have dI : ∀ (a' : Nat), a' <= m_.length -> ∀ u : Int, pL m_ a' tX qh ((H0 (pt c x) r (sy r (uj c x).g_ Tl)).bind λ_ => .ret (⟨0, x.c_, ((sy r (uj c x).g_ Tl).length : Int), u, []⟩ : oZ))
      ((Gz r (uj c x).g_ Tl).bind λx6 =>(Kb x6).bind λx7 =>(Ds r x7).bind λx8 =>(wW (wk m_ a') (pt c x) r x8).bind λx9 =>(GC x9 x6).bind λdq =>
        S8 (dq,(oZ.mk (0:Int) x.c_ ((S7 x6:Nat):Int) u ([]:(S5 a_))))):=by
    intro a' d u
    rw [Ry r (uj c x).g_ Tl (RG _ hx.2.1.1).1 (by omega) qb,oT,Zwt _,oT,RB r _ (by omega) (by unfold maxLen; omega),oT]
    unfold H0
    rw [Pr.bind_assoc]
    refine pL.qj (G0 (by omega) d _ _ _ (by omega)) (λ_ j e o _ =>?_) (λq =>?_)
    . exact pL.qj (ZUi hG o _ (by omega)) (λ_ t y h6 _ =>pL.ret h6 rfl) (λq =>⟨_,rfl,trivial⟩)
    . rw [ZzI q _]; exact ⟨_,rfl,trivial⟩
  have gG : ∀ (q : pU) (u : Int), ((Gz r (uj c x).g_ Tl).bind λx6 => (Kb x6).bind λx7 => (Ds r x7).bind λx8 => (wW (wt m_ q) (pt c x) r x8).bind λx9 => (GC x9 x6).bind λdq =>
        S8 (dq,(oZ.mk (0:Int) x.c_ ((S7 x6:Nat):Int) u ([]:(S5 a_))))) = S8 (wt m_ q,⟨0,x.c_,((sy r (uj c x).g_ Tl).length:Int),u,[]⟩):=by
    intro q u
    rw [Ry r (uj c x).g_ Tl (RG _ hx.2.1.1).1 (by omega) qb,oT,Zwt _,oT,RB r _ (by omega) (by unfold maxLen; omega),oT,ZwO m_ q _ _ _,oT,ZzI q _]
    rfl
  refine pL.sr (BN (by omega) ha _) (λv b j G d e =>?_) (λq b hbz =>?_)
  . obtain ⟨rfl,e⟩:=e
    have A:=hG.val _ e
    have iJ:=ZQU v.po (uj c x) c.qc
    dsimp only
    rw [h,ZFD _ _ _ (by have:=A.2.1; omega) hb,oT,uo]
    by_cases g:(uA v.po (uj c x) c.qc).2 = 0
    . rw [aFa g,aFa g,Pr.bind_assoc]
      refine pL.qj (EP (by omega) d _ _ _ ⟨by have:=A.2.1; grind,UK _⟩) (λ_ t o y _ =>?_) (λq =>?_)
      . exact dI t y _
      . exact ⟨_,gG q _,trivial⟩
    . rw [aE_ g,aE_ g,Pr.pP]
      exact dI j d 0
  . subst hbz
    dsimp only
    rw [h,ZFD _ _ _ (by simp [rE]) hb,oT,uo,Hg]
    split
    . exact ⟨_,gG q _,trivial⟩
    . exact ⟨_,gG q _,trivial⟩
omit hG ha in
theorem ZIj(p:a_):ZhP c x p=S8 (zq c x p):=by
 have _u:=hx;unfold ZhP;rw[(ZUp x.qz).2.1,oT,(ZLa c x p).2];rfl
theorem ZYR (r : S5 a_) (L : r.length <= m_.length) (h0 : 0 <= r5 r x.c_) : pL m_ a tX qh
    (if Ee (zq c x (vB (r, r5 r x.c_))).qa c.rS = Tl then (pV 3 (2 + pt c x) Tm).bind λ_ => (pV 1 0 Tm).bind λ_ => (pV 1 1 Tm).bind λ_ => (ZCe (pt c x) c x).bind λq =>
        (pV 3 (2 + pt c x) q.2).bind λ_ =>(pV 3 1 Tm).bind λ_ =>(pV 3 0 Tm).bind λ_ =>.ret q.1
      else (MN (pt c x) (r5 r x.c_) (zq c x (vB (r,r5 r x.c_)))).bind λ_ =>(pV 3 (2 + pt c x) Tm).bind λ_ =>.ret ⟨0,sd,Q0 (zq c x (vB (r,r5 r x.c_))).qa,0,[]⟩)
    (J9 c x (wk m_ a) (pt c x) (vB (r,r5 r x.c_)) (r5 r x.c_)):=by
  have hL:=hG.len
  have qI:=ES r x.c_
  have o:=ZFh c x (vB (r,r5 r x.c_))
  unfold J9
  rw [ZIj hx,oT,(ZzH _ _ o.1 o.2).2,oT,CJ hx]
  have keys : ∀ (a' : Nat), a' <= m_.length -> ∀ (m : Bool) (v : oZ), pL m_ a' tX qh ((pV 3 (2 + pt c x) m).bind λ_ => (pV 3 1 Tm).bind λ_ => (pV 3 0 Tm).bind λ_ => .ret v)
      ((qn (wk m_ a') 3 (2 + pt c x) m).bind λej =>(qn ej 3 1 Tm).bind λeK =>(qn eK 3 0 Tm).bind λdr =>S8 (dr,v)):=by
    intro a' e m v
    refine pL.qj (vk (by omega) e _ _ _) (λ_ t B g _ =>?_) (λq =>?_)
    . refine pL.qj (vk (by omega) g _ _ _) (λ_ D F h6 _ =>?_) (λq =>?_)
      . exact ET hx hG h6 _ _ _ _
      . rw [r_]; exact ⟨_,rfl,trivial⟩
    . rw [r_,oT,r_]; exact ⟨_,rfl,trivial⟩
  cases uQ:Ee (zq c x (vB (r,r5 r x.c_))).qa c.rS with
  | false =>
    rw [YT,aFc,aE_ (by decide)]
    refine pL.qj (EP (by omega) ha _ _ _ ⟨UK _,UK _⟩) (λ_ t G e _ =>?_) (λq =>?_)
    . rw [(ZAX _).2]
      exact ET hx hG e _ _ _ _
    . rw [r_,oT,(ZAX _).2]; exact ⟨_,rfl,trivial⟩
  | true =>
    rw [YP,aFb,aFa rfl]
    refine pL.qj (vk (by omega) ha _ _ _) (λ_ t G e _ =>?_) (λq =>?_)
    rotate_left
    . rw [r_,oT,r_,oT,Sc]; exact ⟨_,rfl,trivial⟩
    refine pL.qj (vk (by omega) e _ _ _) (λ_ D B g _ =>?_) (λq =>?_)
    rotate_left
    . rw [r_,oT,Sc]; exact ⟨_,rfl,trivial⟩
    refine pL.qj (vk (by omega) g _ _ _) (λ_ M F h6 _ =>?_) (λq =>?_)
    rotate_left
    . rw [Sc]; exact ⟨_,rfl,trivial⟩
    unfold ZCe
    rw [Pr.bind_assoc]
    refine pL.sr (ZMG hG h6 _ x.c_ (CJ hx)) (λq b H O h I =>?_) (λq b _ =>⟨_,rfl,trivial⟩)
    obtain ⟨rfl,J,Db⟩:=I
    have w8:=ES b x.c_
    simp only [yK,aFb]
    rw [Dm _ _ (by unfold maxLen; omega),oT,o8]
    by_cases y:r5 b x.c_ < 0
    . rw [aE_ (show ¬ (r5 b x.c_ >= 0) by omega),aFa y,Pr.pP]
      exact keys H h Tl _
    . rw [aFa (show r5 b x.c_ >= 0 by omega),aE_ y,o9 (by omega)]
      have fQ:(Z1 b (r5 b x.c_).toNat a_.d) = vB (b,r5 b x.c_):=rfl
      have fW:=ZFh c x (vB (b,r5 b x.c_))
      rw [fQ,ZIj hx,oT,(ZzH _ _ fW.1 fW.2).2,oT]
      cases ali:Ee (zq c x (vB (b,r5 b x.c_))).qa c.rS with
      | true =>
        rw [aFc,aFa rfl,Pr.bind_assoc]
        have hp:=ZUg hx hG h (c:=c) b J (Db (λp =>p.c_.b_.ok) λv j =>(hG.val v j).1.2.1.1.1)
        have aD9 : ∀ {f : oZ -> Pr oZ} , ((Kw c x).bind λu => ((H0 (pt c x) b (sy b (uj c x).g_ Tl)).bind λ_ => Pr.ret ((⟨0, x.c_, ((sy b (uj c x).g_ Tl).length : Int), u, []⟩ : oZ), Tl)).bind λq => f q.1) =
            (((Kw c x).bind λu =>(H0 (pt c x) b (sy b (uj c x).g_ Tl)).bind λ_ =>.ret (⟨0,x.c_,((sy b (uj c x).g_ Tl).length:Int),u,[]⟩ : oZ)).bind f):=by
          intro f
          simp only [Pr.bind_assoc,Pr.pP]
        have nj : ((Kw c x).bind λu => ((H0 (pt c x) b (sy b (uj c x).g_ Tl)).bind λ_ => Pr.ret ((⟨0, x.c_, ((sy b (uj c x).g_ Tl).length : Int), u, []⟩ : oZ), Tl)).bind λq =>
              (pV 3 (2 + pt c x) q.2).bind λ_ =>(pV 3 1 Tm).bind λ_ =>(pV 3 0 Tm).bind λ_ =>.ret q.1) =
            (((Kw c x).bind λu =>(H0 (pt c x) b (sy b (uj c x).g_ Tl)).bind λ_ =>.ret (⟨0,x.c_,((sy b (uj c x).g_ Tl).length:Int),u,[]⟩ : oZ)).bind λv =>
              (pV 3 (2 + pt c x) Tl).bind λ_ =>(pV 3 1 Tm).bind λ_ =>(pV 3 0 Tm).bind λ_ =>.ret v):=by
          simp only [Pr.bind_assoc,Pr.pP]
        rw [nj]
        refine pL.sr hp (λv w A wN zm j =>?_) (λq b _ =>?_)
        . cases j
          simp_all
        . dsimp only
          rw [r_,oT,r_,oT,r_]; simp_all
      | false =>
        rw [aFb,aE_ (by decide),Pr.bind_assoc]
        refine pL.qj (EP (by omega) h _ _ _ ⟨UK _,UK _⟩) (λ_ A wN zm _ =>?_) (λq =>?_)
        . rw [(ZAX _).2,oT,Pr.pP]
          exact keys A zm Tm _
        . rw [(ZAX _).2,oT,r_,oT,r_,oT,r_]; exact ⟨_,rfl,trivial⟩
end
section
variable {c:p5} {x:pD} (hx:x.ok) {m_:S5 oM} (hG:Gd m_)
include hx hG
theorem am8:pL m_ 0 tX qh (KJ c x) (Kc c x m_):=by
 have hL:=hG.len;have bw:pL m_ 0 tX qh BA ((qn (wk m_ 0) (8:Int) (0:Int) Tl).bind λx2=>S8 (x2,wV 1)):=ET hx hG (UK _) _ _ _ _;have lF:(pz.mk m_ (0:Int) xS Tm)=wk m_ 0:=rfl;unfold KJ Kc;rw[Zul x hx,oT];cases vn x with
 |false=>
  rw[YT,aFc,aE_ (by decide)];exact bw
 |true=>
  rw[YP,aFb,aFa rfl]
  -- the body of all that are not bw
  have body:∀(P:Pr oZ)(u A nk:Bool),(u=(x.d_==2))->(A=(x.d_==5))->(nk=(x.d_==11))->(P=if x.d_=2 then ZUO (pt c x) x.c_ else if x.d_=5 then ZWN (pt c x) c x else NQ (pt c x) x) ->
    pL m_ 0 tX qh P ((Kd c x).bind λx4=>(Eu (wk m_ 0) x4).bind λx5=>
      bif x5.1.qQ then S8 (x5.1,sY)
      else(Al x5.2 x.c_).bind λx6=>
       bif(decide (x6<(0:Int)))then
        (qn x5.1 (3:Int) (n_ (2:Int) x4) Tl).bind λx7=>S8 (x7,wV 6)
       else
        bif u then(J' x x5.1 x4 x5.2 x6).bind λx8=>S8 (x8.1,x8.2)
        else
         bif A then
          f_ (0<=x6/\x6<((x5.2.length:Nat):Int)) <|
          (J9 c x x5.1 x4 (x5.2.getD x6.toNat a_.d) x6).bind λx9=>S8 (x9.1,x9.2)
         else
          f_ (0<=x6/\x6<((x5.2.length:Nat):Int)) <|
          (HJ (x5.2.getD x6.toNat a_.d) x.pE).bind λdq=>
          bif nk then
           (Hz (x5.2.getD x6.toNat a_.d) x.qz).bind λfZ=>
           (vV x5.1 (pM.mk (6:Int) x4 x6) (oM.mk (0:Int) fZ ([]:(S5 oD)) ([]:(S5 k_))) Tl).bind λeN=>
           (qn eN (3:Int) (n_ (2:Int) x4) Tm).bind λdJ=>S8 (dJ,(oZ.mk (0:Int) sd fZ.p_ (0:Int) ([]:(S5 a_))))
          else
           (vV x5.1 (pM.mk (6:Int) x4 x6) (oM.mk (0:Int) dq ([]:(S5 oD)) ([]:(S5 k_))) Tl).bind λej=>
           (qn ej (3:Int) (n_ (2:Int) x4) Tm).bind λeK=>S8 (eK,sY)):=by
   rintro P u A nk rfl rfl rfl rfl;rw[ZYJ hx,oT];have cH:∀r:S6 (pz×oZ),(r.bind λy=>S8 (y.1,y.2))=r:=λr=>by cases r<;>rfl
   have first:∀(f:S5 a_×Int->Pr oZ)(K:pz×S5 a_->S6 (pz×oZ)),(∀q b,K (wt m_ q,b)=S8 (wt m_ q,sY)) ->
     (∀b e,e<=S7 m_->S7 b<=S7 m_->(r5 b x.c_<0->pL m_ e tX qh (f (b,r5 b x.c_)) (K (wk m_ e,b)))/\(0<=r5 b x.c_->pL m_ e tX qh (f (b,r5 b x.c_)) (K (wk m_ e,b)))) ->
     pL m_ 0 tX qh ((Fj (pt c x) x.c_).bind f) ((Eu (wk m_ 0) (pt c x)).bind K):=by
    intro f K G hb;refine pL.sr (ZMG hG (UK _) _ x.c_ (CJ hx)) (λq b e L j H=>?_) (λq b _=>⟨_,G q b,trivial⟩);obtain⟨rfl,o,_⟩:=H
    grind
   have eO:∀e,e<=S7 m_->pL m_ e tX qh (KE (pt c x)) ((qn (wk m_ e) (3:Int) (n_ (2:Int) (pt c x)) Tl).bind λx7=>S8 (x7,wV 6)):=λe h=>by
    rw[CJ hx];exact ET hx hG h _ _ _ _
   by_cases j:x.d_=2
   .rw[aFa j];refine first _ _ (λq b=>rfl) λb e o t=>⟨λg=>?_,λg=>?_⟩
    .simp only[yK,aFb];rw[Dm _ _ (by unfold maxLen;omega),oT,o8,aFa g,aFa g];exact eO e o
    .simp only[yK,aFb];rw[Dm _ _ (by unfold maxLen;omega),oT,o8,aE_ (show ¬(r5 b x.c_<0)by omega),aE_ (show ¬(r5 b x.c_<0)by omega),uo,aFa j,cH];exact ZYP hx hG o b t g
   .rw[aE_ j];by_cases h5':x.d_=5
    .rw[aFa h5'];refine first _ _ (λq b=>rfl) λb e o t=>⟨λg=>?_,λg=>?_⟩
     .simp only[yK,aFb];rw[Dm _ _ (by unfold maxLen;omega),oT,o8,aFa g,aFa g];exact eO e o
     .have qI:=ES b x.c_;simp only[yK,aFb];rw[Dm _ _ (by unfold maxLen;omega),oT,o8,aE_ (show ¬(r5 b x.c_<0)by omega),aE_ (show ¬(r5 b x.c_<0)by omega),uo,aE_ j,uo,aFa h5',o9 (by omega),cH];exact ZYR hx hG o b t g
    .rw[aE_ h5'];refine first _ _ (λq b=>rfl) λb e o t=>⟨λg=>?_,λg=>?_⟩
     .simp only[yK,aFb];rw[Dm _ _ (by unfold maxLen;omega),oT,o8,aFa g,aFa g];exact eO e o
     .have qI:=ES b x.c_;have I:(Z1 b (r5 b x.c_).toNat a_.d)=vB (b,r5 b x.c_):=rfl;simp only[yK,aFb];rw[Dm _ _ (by unfold maxLen;omega),oT,o8,aE_ (show ¬(r5 b x.c_<0)by omega),aE_ (show ¬(r5 b x.c_<0)by omega),uo,aE_ j,uo,aE_ h5',o9 (by omega),I,(ZOZ _ _).2,oT,uo,(ZPx _ _).2,oT,CJ hx];by_cases wN:x.d_=11
      .rw[aFa wN,aFa wN];refine pL.qj (EP (by omega) o _ _ _ ⟨UK _,UK _⟩) (λ_ J h6 B _=>?_) (λq=>?_)
       .exact ET hx hG B _ _ _ _
       .rw[r_];exact⟨_,rfl,trivial⟩
      .rw[aE_ wN,aE_ wN];refine pL.qj (EP (by omega) o _ _ _ ⟨UK _,UK _⟩) (λ_ J h6 B _=>?_) (λq=>?_)
       .exact ET hx hG B _ _ _ _
       .rw[r_];exact⟨_,rfl,trivial⟩
  by_cases j:x.d_=2
  .have D:(x.d_ != 2)=Tm:=by simp[j]
   rw[D,aFb];exact body _ _ _ _ rfl rfl rfl (by simp_all)
  .have D:(x.d_ != 2)=Tl:=by simp[j]
   rw[D,aFc];by_cases g:x.d_=5
   .have F:(x.d_ != 5)=Tm:=by simp[g]
    rw[F,aFb];exact body _ _ _ _ rfl rfl rfl (by simp_all)
   .have F:(x.d_ != 5)=Tl:=by simp[g]
    rw[F,aFc];by_cases wN:x.d_=11
    .have nl:(x.d_ != 11)=Tm:=by simp[wN]
     rw[nl,aFb];exact body _ _ _ _ rfl rfl rfl (by simp_all)
    .have nl:(x.d_ != 11)=Tl:=by simp[wN]
     rw[nl,aFc];by_cases zm:x.d_=12
     .have np:(x.d_ != 12)=Tm:=by simp[zm]
      rw[np,aFb];exact body _ _ _ _ rfl rfl rfl (by simp_all)
     .have np:(x.d_ != 12)=Tl:=by simp[zm]
      rw[np,aFc,aE_ j,aE_ g,aE_ (by simp[wN,zm])];exact bw
end
end Go.Proofs.YtmcnjofonpkfmaaGreat
