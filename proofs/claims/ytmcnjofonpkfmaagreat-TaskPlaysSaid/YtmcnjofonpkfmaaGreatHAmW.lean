import Derived.Test.YtmcnjofonpkfmaaGreatHAmQ
import Derived.Orders
import Derived.KernelRfl
import Derived.IntWalk
open Array renaming getD_eq_getD_getElem?->T',replicate->VH,all_eq_true_iff_forall_mem->V4,getElem?_eq_some_iff->V5,getElem?_replicate->V7
open BitVec renaming ofInt->Tz
open Bool renaming true->Tl,false->Tm,and_eq_true->VQ,not_eq_true'->VR,or_eq_true->VT
open Go.IntKind renaming i64->TZ,bits->UB,wrap->US,u64->Wn,signed->Ut
open List renaming mem_append->T9,getD_eq_getElem?_getD->Ty,all_eq_true->Tt,mem_range->Ua,mem_filter->VU,mem_cons->VJ,map_cons->UG,filter_eq_self->VX,range->Tr,filter_filter->VY,pairwise_lt_range->VZ,filter_congr->V0,mem_cons_of_mem->U1,Pairwise->V2,replicate->V6,getElem?_append_left->Ud,getElem?_set_ne->V8,getElem?_append->V9,getD_cons_succ->V',pairwise_cons->V_,mem_cons_self->U0,getElem?_take->Ur,filter_append->Wa,append_of_mem->Wb,nodup_append->Vk,flatMap_cons->Wc,nodup_range->Wd,filter_cons->We,cons_append->Wf,any_eq_true->Wg,nodup_cons->Wh,mem_map->Uf,map_nil->Ve,length->S7
open List.Pairwise renaming filter->VS
open Nat renaming beq->Tg,eq_of_beq_eq_true->TF,ne_of_beq_eq_false->Tn,le_of_ble_eq_true->Td,ble->TB,beq_refl->V1,blt->T6,le_refl->Tq,min_eq_left->Wi,zero_add->TX,le_succ->UN
open Ne renaming symm->T0
open Option renaming some->S8,none->S_,isNone_iff_eq_none->VV,map_some->TT,getD_some->T4
open Prod.mk renaming injEq->Tc
open Go.Region renaming ready->VW,binds->V3
namespace Go.Proofs.YtmcnjofonpkfmaaGreat
open Go.RowKit
set_option linter.unusedSimpArgs false
set_option linter.unusedVariables false
section
def KH:S5 Operand->S5 Nat | []=>[] | .tmp t :: l=>t :: KH l|_ :: l=>KH l
def tl(ops:Array Oper)(o:Oper):S5 Nat:=KH (rC o.op)++match o.guard with
 |none=>[]
 |some (j,_)=>match (ops[j]?).bind (·.dst)with
  |some t=>[t]
  |none=>[]
theorem ZzC{t:Nat}:∀{l:S5 Operand},Operand.tmp t∈l->t∈KH l
 | [],h=>by cases h
 |x :: l,h=>by
  rcases VJ.1 h with rfl|h
  .simp[KH]
  .have:=ZzC h
   cases x<;>simp[KH,this]
variable{st st1 st2:St}{N i d e t:Nat}{o:Oper}{P:Program}{v:V}{o_:S5 Prop}{ops:Array Oper}{ra:RA}{T:qP}{an:S6 sF}{ha:HA}{c:Callee}{args:Array Operand}{bA:Array TypeId}{b:B}
theorem Gk(h:∀t∈tl ops o,st2.get t=st.get t):∀x∈rC o.op,pT st2 x=pT st x:=by
 intro x hx;cases x with
 |tmp t=>exact h t (T9.2 (.inl (ZzC hx)))
 |_=>rfl
theorem OY(h:∀t∈tl ops o,st2.get t=st.get t):yf ops st2 o=yf ops st o:=by
 grind[yf,tl]
theorem ZwI{p:V×S5 Prop×St}(hc:uD ra i o.op=3)(h:qf P N T o st (rD ra.an i)=S8 p):so N (o.dst.getD 0) st=Tl:=by
 obtain⟨dst,op,type,ff,after,guard⟩:=o;have eD:∀{l},Aq N st (dst.getD 0) l=S8 p->so N (dst.getD 0) st=Tl:=by
  intro l hb;unfold Aq at hb
  grind
 cases op<;>(try (simp only[uD]at hc))<;>(try (exact aFe hc (by decide)))
 case move x=>grind
 case assign x=>grind
 case alloc e=>
  simp only[qf]at h
  grind
 case box e x=>
  simp only[qf]at h
  grind
 case makeSlice t l c=>
  split at hc
  .cases hc
  rename_i hx;simp only[qf]at h;split at h
  .simp_all
  .cases h
  unfold BQ at h
  repeat' split at h
  all_goals simp_all
 case buildSlice t n ps=>
  split at hc
  .rename_i n' c' bu;simp only[qf]at h;unfold BX at h;rw[bu]at h
   repeat' split at h
   all_goals simp_all
  .cases hc
 case call c=>
  obtain⟨callee,args,bA⟩:=c;cases callee with
  |value f=>simp_all
  |invoke r n=>simp_all
  |builtin b=>
   cases b<;>(try (simp only[uD]at hc))<;>(try (exact aFe hc (by decide)))
   case append=>
    split at hc
    .cases hc
    rename_i bu;simp only[qf]at h;split at h;rotate_left
    .cases h
    split at h;rotate_left
    .cases h
    unfold Eg at h
    grind
theorem ZMP(hc:uD ra i o.op<=3)(hu:∀t∈tl ops o,st2.get t=st.get t)
  (hh:uD ra i o.op≠0->st2.heap=st.heap) (hq:uD ra i o.op=3->so N (o.dst.getD 0) st=Tl->so N (o.dst.getD 0) st2=Tl) (h:yH P N T ops ra i o st=S8 (v,o_,st1)) :
  st1.env=st.env/\(uD ra i o.op<=1->st1.heap=st.heap)/\yH P N T ops ra i o st2=S8 (v,o_,⟨st2.env,if uD ra i o.op<=1 then st2.heap else st1.heap⟩):=by
 unfold yH at h ⊢;rw[OY hu];split at h
 .cases h
 .cases h;refine⟨rfl,λ_=>rfl,?_⟩;split
  .rfl
  .rw[<-hh (by omega)]
 .have he:=Gk hu;split at h
  .cases h
  rename_i v0 ce xf bk;split at h
  .cases h
  rename_i v' tw hd;split at h;rotate_left
  .cases h
  rename_i v'' jK;split at h;rotate_left
  .cases h
  rename_i v3 Cq g8;cases h;refine⟨ZQx bk,?_⟩;have gw:uD ra i o.op=0\/uD ra i o.op=1\/uD ra i o.op=2\/uD ra i o.op=3:=by omega
  rcases gw with yO|yO|yO|yO
  .have e1:=ac4 (P:=P) (N:=N) (T:=T) (st:=st) (st2:=st) yO (λx _=>rfl);have e2:=ac4 (P:=P) (N:=N) (T:=T) (st:=st) (st2:=st2) yO he;rw[bk]at e1 e2;simp only[TT,Option.some.injEq,Tc,aFn]at e1;simp_all
  .have e1:=ac3 (P:=P) (N:=N) (T:=T) (st:=st) (st2:=st) yO (λx _=>rfl) rfl;have e2:=ac3 (P:=P) (N:=N) (T:=T) (st:=st) (st2:=st2) yO he (hh (by omega));rw[bk]at e1 e2;simp only[TT,Option.some.injEq,Tc,aFn]at e1;subst e1;refine⟨λ_=>rfl,?_⟩;rw[e2];simp only[TT,hd,jK,g8,yO];rfl
  .have e2:=aly (P:=P) (N:=N) (T:=T) (st:=st) (st2:=st2) yO he (hh (by omega));simp_all
  .have hqq:=ZwI yO bk;have e2:=alx (P:=P) (N:=N) (T:=T) (st:=st) (st2:=st2) yO he (hh (by omega)) ((hq yO hqq).trans hqq.symm);simp_all
theorem ZRA(hc:uD ra i o.op=1)(hu:∀t∈tl ops o,st2.get t=st.get t)
  (hm:∀x∈rC o.op,Has st st2 λid=>(pT st x).pI id) (h:yH P N T ops ra i o st=S8 (v,o_,st1)):yH P N T ops ra i o st2=S8 (v,o_,st2):=by
 unfold yH at h ⊢;rw[OY hu];split at h
 .cases h
 .cases h;rfl
 .have he:=Gk hu;split at h
  .cases h
  rename_i v0 ce xf bk;split at h
  .cases h
  split at h;rotate_left
  .cases h
  split at h;rotate_left
  .cases h
  have e2:=alw (P:=P) (N:=N) (T:=T) (st:=st) (st2:=st2) hc he hm bk;simp_all
theorem ZUr(hc:uD ra i o.op=3)(h:yH P N T ops ra i o st=S8 (v,o_,st1)) :
  st1=st\/(so N (o.dst.getD 0) st=Tl/\∀id b,oP st1.heap id=S8 b->id=o.dst.getD 0\/oP st.heap id=S8 b):=by
 unfold yH at h;split at h
 .cases h
 .grind
 grind[ZwI,ZOc]
theorem AA(h:so N d st=Tl):wP st d N=Tl/\xW d st.heap=Tl:=by
 unfold so at h
 grind
theorem ZMQ(hc:uD ra i o.op=3)(hk:ZPP o.op=Tl)(h:yH P N T ops ra i o st=S8 (v,o_,st1)) :
  ∀id b,oP st.heap id=S8 b->oP st1.heap id=S8 b:=by
 unfold yH at h;split at h
 .cases h
 .simp_all
 .split at h
  .cases h
  rename_i v0 ce xf bk;split at h
  .cases h
  split at h;rotate_left
  .cases h
  split at h;rotate_left
  .cases h
  cases h;exact ZKs hc hk (JM (AA (ZwI hc bk)).2).1 bk
def Dn(o:Oper)(ha:HA):Bool:=match ha.qD,ha.new,ha.h1,o.guard with
 | [],[(c,d)],[(c',.rows _ _ _ _)],S_=>Tg d (o.dst.getD 0)&&Tg c c'&&Tg c 99999
 |_,_,_,_=>Tm
def qG(ra:RA)(i:Nat)(o:Oper):Nat:=match rD ra.hc i with
 |none=>uD ra i o.op
 |some ha=>match Dn o ha with
  |true=>3
  |false=>match rD ra.hc (i+1000)with
   |some _=>5
   |none=>match ha.new with
    | []=>2
    |_ :: _=>4
def ZNi(ra:RA)(i:Nat)(o:Oper):Bool:=match rD ra.hc i with
 |none=>ZPP o.op
 |some _=>Tl
def zM(P:Program)(N:Nat)(ops:Array Oper)(ha:HA)(an:S6 sF)(o:Oper)(st:St):S6 (V×S5 Prop×St):=match yf ops st o with
 |some Tl=>match o.op with
  | .call { callee:=c,args:=args,argTypes:=_ }=>yU P N st c args.toList ha an
  |_=>S_
 |some Tm=>S8 (.one (.lit undef),[],st)
 |none=>S_
def E1(P:Program)(N:Nat)(ops:Array Oper)(ha:HA)(an:S6 sF)(o:Oper)(st:St):S6 (V×S5 Prop×St):=match yf ops st o with
 |some Tl=>match o.op with
  | .call { callee:=c,args:=args,argTypes:=_ }=>Aw P N st c args.toList ha an
  |_=>S_
 |some Tm=>S8 (.one (.lit undef),[],st)
 |none=>S_
def tB(P:Program)(N:Nat)(T:qP)(ops:Array Oper)(ra:RA)(i:Nat)(o:Oper)(st:St):S6 (V×S5 Prop×St):=match rD ra.hc i with
 |none=>yH P N T ops ra i o st
 |some ha=>match rD ra.hc (i+1000)with
  |none=>zM P N ops ha (rD ra.an i) o st
  |some _=>E1 P N ops ha (rD ra.an i) o st
theorem ZEh(h:tB P N T ops ra i o st=S8 (v,o_,st1))(hp:wq N st1 o.dst v=S8 st2):Ef P N T ops ra i o st=S8 (st2,o_):=by
 grind[ZOn,ZCP,tB,Ef,ZPB,zM,ZPD,E1]
theorem ZxP{args:S5 Operand}(h:yU P N st c args ha an=S8 (v,o_,st1)):st1.env=st.env:=by
 unfold yU at h
 grind
theorem ZKz{args:S5 Operand}(h:Aw P N st c args ha an=S8 (v,o_,st1)):st1.env=st.env:=by
 unfold Aw at h;split at h
 .grind[ZxP]
 .unfold JD at h;split at h
  .unfold Gj at h
   grind
  .unfold Rt at h
   grind
theorem JK(h:tB P N T ops ra i o st=S8 (v,o_,st1)):st1.env=st.env:=by
 unfold tB at h;split at h
 .unfold yH at h;split at h
  .cases h
  .cases h;rfl
  grind[ZQx]
 grind[ZxP,ZKz,zM,E1]
theorem Hk(h:∀x∈rC (.call { callee:=c,args:=args,argTypes:=bA }),pT st2 x=pT st x):BS P st2 c an=BS P st c an:=by
 cases c with
 |value f=>simp_all[BS,ER,rC]
 |invoke r n=>simp_all[BS,rC]
 |builtin b=>rfl
theorem Ln:∀x∈args.toList,x∈rC (.call { callee:=c,args:=args,argTypes:=bA }):=by
 cases c<;>simp only[rC]<;>first|exact _|simp_all
theorem amw(hn:ha.new=[])(h:zM P N ops ha an o st=S8 (v,o_,st1)) :
  st1.env=st.env/\∀st2:St,(∀t∈tl ops o,st2.get t=st.get t)->st2.heap=st.heap->zM P N ops ha an o st2=S8 (v,o_,⟨st2.env,st1.heap⟩):=by
 unfold zM at h;split at h
 .rename_i bY;split at h
  .rename_i c args bA cM;refine⟨ZxP h,λst2 hu hh=>?_⟩;unfold zM;rw[OY hu,bY];have he:=Gk hu;rw[cM]at he ⊢;simp only;unfold yU at h ⊢;rw[Hk he];have qb:sZ N st2 ha=sZ N st ha:=by
    unfold sZ;rw[hn];rfl
   split at h;rotate_left
   .cases h
   rename_i g a b om wH;rw[Hm (λx hx=>he x (Ln x hx)) a b,qb,hh];split at h
   all_goals grind
  .cases h
 .rename_i bY;cases h;refine⟨rfl,λst2 hu hh=>?_⟩;unfold zM;rw[OY hu,bY];simp only[<-hh]
 .cases h
theorem ZMJ(qN:e≠d)(hb:b.pI d=Tm):∀{h:S5 (Nat×B)},xW d h=Tl->xW d (q_ h e b)=Tl:=by
 have hf:Tg e d=Tm:=by
  cases hx:Tg e d
  all_goals simp_all
 intro h;induction h with
 |nil=>grind[q_,xW]
 |cons p r ih=>
  grind[xW,q_]
theorem Zxl{d e:Nat}{b:B}:∀{h:S5 (Nat×B)},oP h e=S_->xW d (q_ h e b)=Tl->xW d h=Tl
 | [],_,_=>rfl
 | (k,v) :: r,hn,hq=>by
  rw[tD]at hn
  split at hn
  .cases hn
  rename_i hke
  have hf:Tg k e=Tm:=by
   cases hx:Tg k e
   all_goals simp_all
  simp only[q_,hf]at hq;split at hq
  .simp only[xW]at hq;split at hq
   .simp only[xW];exact hq
   .cases hq
  .simp only[xW]at hq ⊢;split at hq
   .rename_i h1 h2;exact Zxl hn hq
   .cases hq
theorem ZQn(hs:Dn o ha=Tl)(h:zM P N ops ha an o st=S8 (v,o_,st1)) :
  ∃b:B,(∀k,b.pI k=Tm)/\so N (o.dst.getD 0) st=Tl/\st1=⟨st.env,q_ st.heap (o.dst.getD 0) b⟩/\∀st2,(∀t∈tl ops o,st2.get t=st.get t)->so N (o.dst.getD 0) st2=Tl ->
   zM P N ops ha an o st2=S8 (v,o_,⟨st2.env,q_ st2.heap (o.dst.getD 0) b⟩):=by
 unfold Dn at hs;split at hs;rotate_left
 .cases hs
 rename_i c d c' e sz len cc hl hn jd bY;simp only[VQ]at hs;obtain⟨⟨e1,e2⟩,e3⟩:=hs;have e1:=TF e1;have e2:=TF e2;subst e2;obtain⟨qD,new,h1,res⟩:=ha;simp only at hl hn jd;subst hl hn jd;subst e1;have hg:∀st:St,yf ops st o=S8 Tl:=λst=>by unfold yf;rw[bY]
 unfold zM at h;rw[hg]at h;simp only at h;split at h;rotate_left
 .cases h
 rename_i f args bA cM;unfold yU at h;split at h;rotate_left
 .cases h
 rename_i g a b om wH;split at h;rotate_left
 .cases h
 rename_i h0 vs hp r qb zD tV eh hr;cases h;have hq:so N (o.dst.getD 0) st=Tl:=by
  unfold sZ at qb
  grind
 have jP:hp=[(o.dst.getD 0,.rows e sz len cc)]:=by
  have:tx ⟨[],[(c,o.dst.getD 0)],[(c,.rows e sz len cc)],res⟩ c=S8 (o.dst.getD 0):=by
   simp only[tx,As,V1]
  simp only[De,this,vq]at eh;simp_all
 subst jP;refine⟨.rows e sz len cc,λ_=>rfl,hq,rfl,λst2 hu dw=>?_⟩;have he:∀x∈rC (.call { callee:=f,args:=args,argTypes:=bA }),pT st2 x=pT st x:=λx hx=>Gk hu x (by rw[cM];exact hx);have ia:vU st2 args.toList a b=vU st args.toList a b:=Hm (λx hx=>he x (Ln x hx)) a b;have eE:sZ N st2 ⟨[],[(c,o.dst.getD 0)],[(c,.rows e sz len cc)],res⟩=Tl:=by
  unfold sZ at qb ⊢;simp_all
 have je:hIn (bwd ([]:S5 (Nat×Nat))) st2.heap ([]:S5 (Nat×Nat))=S8 h0:=zD;unfold zM;rw[hg];simp only[cM];unfold yU;rw[Hk he,wH];simp only[eE,je,ia,tV,eh,hr];rfl
theorem ZWI(hh:st2.heap=st.heap)(v:V):CA st2 v=CA st v:=by
 unfold CA NI;simp[funext (ZDi hh),ZKV hh]
theorem ZWJ(hh:st2.heap=st.heap)(g:Nat->S6 Nat)(l:S5 V):CB st2 g l=CB st g l:=by
 unfold CB;simp[ZWI hh]
theorem ZGG(he:∀x∈rC (.call { callee:=c,args:=args,argTypes:=bA }),pT st2 x=pT st x)(hh:st2.heap=st.heap)(qb:sZ N st2 ha=sZ N st ha) :
  Aw P N st2 c args.toList ha an=(Aw P N st c args.toList ha an).map λr=>(r.1,r.2.1,⟨st2.env,r.2.2.heap⟩):=by
 have ia:∀a b,vU st2 args.toList a b=vU st args.toList a b:=λa b=>Hm (λx hx=>he x (Ln x hx)) a b;have e1:yU P N st2 c args.toList ha an=(yU P N st c args.toList ha an).map λr=>(r.1,r.2.1,⟨st2.env,r.2.2.heap⟩):=by
  unfold yU;rw[Hk he,qb,hh]
  grind
 have e2:JD P N st2 c args.toList ha an=(JD P N st c args.toList ha an).map λr=>(r.1,r.2.1,⟨st2.env,r.2.2.heap⟩):=by
  obtain⟨qD,new,h1,res⟩:=ha;have hbA:∀l,yw st2 l=yw st l:=ZKY hh;have hb:∀g l,CB ⟨st2.env,Au st.heap qD⟩ g l=CB ⟨st.env,Au st.heap qD⟩ g l:=ZWJ rfl;unfold JD;cases qD with
  |nil=>
   simp only;unfold Gj;rw[Hk he,qb,hh];simp only[ia,hbA];cases BS P st c an with
   |none=>split<;>rfl
   |some q=>
    grind
  |cons p0 qD=>
   simp only;unfold Rt;rw[Hk he,qb,hh]
   grind
 unfold Aw
 grind
theorem amv(hs:Dn o ha=Tl)(h:E1 P N ops ha an o st=S8 (v,o_,st1)) :
  ∃b:B,so N (o.dst.getD 0) st=Tl/\st1=⟨st.env,q_ st.heap (o.dst.getD 0) b⟩/\∀st2,(∀t∈tl ops o,st2.get t=st.get t)->st2.heap=st.heap->so N (o.dst.getD 0) st2=Tl ->
   E1 P N ops ha an o st2=S8 (v,o_,⟨st2.env,st1.heap⟩):=by
 unfold Dn at hs;split at hs;rotate_left
 .cases hs
 rename_i c d c' e sz len cc hl hn jd bY;simp only[VQ]at hs;obtain⟨⟨e1,e2⟩,e3⟩:=hs;have e1:=TF e1;have e2:=TF e2;subst e2;obtain⟨qD,new,h1,res⟩:=ha;subst hl hn jd;subst e1;have hg:∀st:St,yf ops st o=S8 Tl:=λst=>by unfold yf;rw[bY]
 unfold E1 at h;rw[hg]at h;simp only at h;split at h;rotate_left
 .cases h
 rename_i f args bA cM;have jP:∀hp,De (tx ⟨[],[(c,o.dst.getD 0)],[(c,.rows e sz len cc)],res⟩) [(c,.rows e sz len cc)]=S8 hp->hp=[(o.dst.getD 0,.rows e sz len cc)]:=λhp eh=>by
  have:tx ⟨[],[(c,o.dst.getD 0)],[(c,.rows e sz len cc)],res⟩ c=S8 (o.dst.getD 0):=by
   simp only[tx,As,V1]
  simp only[De,this,vq]at eh;simp_all
 have gx:sZ N st ⟨[],[(c,o.dst.getD 0)],[(c,.rows e sz len cc)],res⟩=Tl/\st1=⟨st.env,q_ st.heap (o.dst.getD 0) (.rows e sz len cc)⟩:=by
  have h':=h;unfold Aw at h';split at h'
  .rename_i r hr;cases h';unfold yU at hr;split at hr;rotate_left
   .cases hr
   split at hr;rotate_left
   .cases hr
   rename_i h0 vs hp r qb zD tV eh fH;cases hr;rw[jP _ eh];exact⟨qb,rfl⟩
  .rw[Zvb rfl]at h';unfold Gj at h';split at h';rotate_left
   .cases h'
   split at h';rotate_left
   .cases h'
   split at h';rotate_left
   .cases h'
   rename_i vs hp r ps qb tV eh fH b9;cases h';rw[jP _ eh];exact⟨qb,rfl⟩
 obtain⟨qb,mA⟩:=gx;have hq:so N (o.dst.getD 0) st=Tl:=by
  have dX:=qb;unfold sZ at dX
  grind
 refine⟨.rows e sz len cc,hq,mA,λst2 hu hh dw=>?_⟩;have he:∀x∈rC (.call { callee:=f,args:=args,argTypes:=bA }),pT st2 x=pT st x:=λx hx=>Gk hu x (by rw[cM];exact hx);have eE:sZ N st2 ⟨[],[(c,o.dst.getD 0)],[(c,.rows e sz len cc)],res⟩=Tl:=by
  have dX:=qb;unfold sZ at dX ⊢;simp_all
 unfold E1;rw[hg];simp only[cM];rw[ZGG he hh (eE.trans qb.symm),h];rfl
def acR:Op->Bool | .makeSlice .. | .buildSlice .. | .alloc _=>Tl|_=>Tm
theorem ZQZ{ti:TI}{l:S5 C}(h:Fk ti=S8 l)(k:Nat):l.any (C.pI k)=Tm:=by
 unfold Fk at h;split at h;rotate_left
 .cases h
 rename_i z hz;have lits:∀xs:S5 Value,(xs.map C.lit).any (C.pI k)=Tm:=λxs=>by
  grind[C.pI]
 cases z with
 |agg cs=>
  simp only[V.vW]at h;split at h
  .cases h;exact lits _
  .cases h
 |_=>
  simp only[V.vW,V.cells]at h
  first | (cases h;rfl) | (split at h<;>cases h;rfl)
def ED(ra:RA)(i:Nat)(o:Oper):Bool:=match rD ra.hc i with
 |some ha=>match rD ra.hc (i+1000)with
  |none=>Tl
  |some _=>Dn o ha
 |none=>TB (uD ra i o.op) 3
def GZ(ra:RA)(i:Nat)(o:Oper):Bool:=match rD ra.hc i with
 |some ha=>match rD ra.hc (i+1000)with
  |none=>Dn o ha
  |some _=>Tm
 |none=>match o.guard with
  |none=>acR o.op&&Tg (uD ra i o.op) 3
  |some _=>Tm
theorem ZOe{x y:V}(h:BQ N T st d t x y an=S8 (v,o_,st1)) :
  ∃b:B,(∀k,b.pI k=Tm)/\so N d st=Tl/\st1=⟨st.env,q_ st.heap d b⟩/\∀st2,so N d st2=Tl->BQ N T st2 d t x y an=S8 (v,o_,⟨st2.env,q_ st2.heap d b⟩):=by
 unfold BQ at h
 repeat' split at h
 all_goals first | (cases h;done)|skip
 all_goals
  cases h;refine⟨_,λ_=>rfl,by assumption,rfl,λst2 hq=>?_⟩;unfold BQ;simp[*,St.new]
theorem ZCN{n:Nat}{ps:S5 (Nat×V)}{k:Nat}{c:Nat->Nat->C}(h:BX N T st d t n ps (S8 (.c k c))=S8 (v,o_,st1)) :
  ∃b:B,(∀k,b.pI k=Tm)/\so N d st=Tl/\st1=⟨st.env,q_ st.heap d b⟩/\∀st2,so N d st2=Tl->BX N T st2 d t n ps (S8 (.c k c))=S8 (v,o_,⟨st2.env,q_ st2.heap d b⟩):=by
 unfold BX at h ⊢;split at h<;>try (cases h;done)
 split at h<;>try (cases h;done)
 split at h<;>try (cases h;done)
 split at h<;>try (cases h;done)
 split at h<;>try (cases h;done)
 split at h<;>try (cases h;done)
 simp only at h;split at h
 .cases h
 .rename_i hq;cases h;refine⟨_,λ_=>rfl,hq,rfl,λst2 dw=>?_⟩;simp only[*,St.new]
theorem Zxv(hs:GZ ra i o=Tl)(h:tB P N T ops ra i o st=S8 (v,o_,st1)) :
  ∃b:B,(∀k,b.pI k=Tm)/\so N (o.dst.getD 0) st=Tl/\st1=⟨st.env,q_ st.heap (o.dst.getD 0) b⟩/\∀st2,(∀t∈tl ops o,st2.get t=st.get t)->so N (o.dst.getD 0) st2=Tl ->
   tB P N T ops ra i o st2=S8 (v,o_,⟨st2.env,q_ st2.heap (o.dst.getD 0) b⟩):=by
 unfold GZ at hs;unfold tB at h ⊢;split at hs
 .grind[ZQn]
 .rename_i hk;rw[hk]at h ⊢;simp only at h ⊢;split at hs;rotate_left
  .cases hs
  rename_i bY;have hg:∀st:St,yf ops st o=S8 Tl:=λst=>by unfold yf;rw[bY]
  simp only[VQ]at hs;obtain⟨hr,cE⟩:=hs;have cE:=TF cE;unfold yH at h;rw[hg]at h;simp only at h;split at h
  .cases h
  rename_i v0 ce xf bk;split at h
  .cases h
  rename_i v' tw hd;split at h;rotate_left
  .cases h
  rename_i v'' jK;split at h;rotate_left
  .cases h
  rename_i v3 Cq g8;cases h;have gx:∃b:B,(∀k,b.pI k=Tm)/\so N (o.dst.getD 0) st=Tl/\st1=⟨st.env,q_ st.heap (o.dst.getD 0) b⟩/\∀st2,(∀x∈rC o.op,pT st2 x=pT st x)->so N (o.dst.getD 0) st2=Tl ->
    qf P N T o st2 (rD ra.an i)=S8 (v0,ce,⟨st2.env,q_ st2.heap (o.dst.getD 0) b⟩):=by
   obtain⟨dst,op,type,ff,after,guard⟩:=o;simp only at hr cE bY ⊢;cases op<;>simp only[acR]at hr<;>try (cases hr;done)
   case alloc t0 _=>
    simp only[qf]at bk;split at bk;rotate_left
    .cases bk
    rename_i te bU;split at bk;rotate_left
    .cases bk
    rename_i l hl;unfold Aq at bk;split at bk;rotate_left
    .cases bk
    rename_i hq mB;cases bk;refine⟨.box l,λk=>ZQZ hl k,hq,rfl,λst2 he dw=>?_⟩;simp only[qf,bU,hl];unfold Aq;rw[dw,mB];rfl
   case makeSlice t0 x y _=>
    simp only[uD]at cE;split at cE
    .cases cE
    rename_i hx;simp only[qf]at bk;split at bk
    .simp_all
    .cases bk
    obtain⟨b,h1,h2,h3,h4⟩:=ZOe bk;refine⟨b,h1,h2,h3,λst2 he hq=>?_⟩;simp only[qf];rw[he x (by simp[rC]),he y (by simp[rC])];exact h4 st2 hq
   case buildSlice t n ps _=>
    simp only[uD]at cE;split at cE;rotate_left
    .cases cE
    rename_i k c hka;simp only[qf,hka]at bk;obtain⟨b,h1,h2,h3,h4⟩:=ZCN bk;refine⟨b,h1,h2,h3,λst2 he hq=>?_⟩;simp only[qf,hka];rw[Zyr (λx hx=>he x (by simpa[rC]using hx))];exact h4 st2 hq
  obtain⟨b,h1,h2,h3,h4⟩:=gx;refine⟨b,h1,h2,h3,λst2 hu hq=>?_⟩;unfold yH;rw[hg];simp only[h4 st2 (Gk hu) hq,hd,jK,g8]
theorem Lq(h:rD ra.hc i=S_):qG ra i o=uD ra i o.op:=by unfold qG;rw[h]
theorem ZKM(h:rD ra.hc i=S8 ha)(hc:qG ra i o<=3):(Dn o ha=Tl/\qG ra i o=3)\/(ha.new=[]/\qG ra i o=2/\rD ra.hc (i+1000)=S_):=by
 unfold qG at hc ⊢
 grind
theorem ZCm(hk:rD ra.hc i=S8 ha)(hs:Dn o ha=Tl)(h:tB P N T ops ra i o st=S8 (v,o_,st1)) :
  ∃b:B,so N (o.dst.getD 0) st=Tl/\st1=⟨st.env,q_ st.heap (o.dst.getD 0) b⟩/\∀st2,(∀t∈tl ops o,st2.get t=st.get t)->st2.heap=st.heap->so N (o.dst.getD 0) st2=Tl ->
   tB P N T ops ra i o st2=S8 (v,o_,⟨st2.env,st1.heap⟩):=by
 unfold tB at h ⊢;cases sR:rD ra.hc (i+1000)with
 |none=>
  grind[ZQn]
 |some x=>
  simp only[hk,sR]at h ⊢;exact amv hs h
theorem LL(hc:qG ra i o<=3)(hu:∀t∈tl ops o,st2.get t=st.get t)
  (hh:qG ra i o≠0->st2.heap=st.heap) (hq:qG ra i o=3->so N (o.dst.getD 0) st=Tl->so N (o.dst.getD 0) st2=Tl) (h:tB P N T ops ra i o st=S8 (v,o_,st1)) :
  st1.env=st.env/\(qG ra i o<=1->st1.heap=st.heap)/\tB P N T ops ra i o st2=S8 (v,o_,⟨st2.env,if qG ra i o<=1 then st2.heap else st1.heap⟩):=by
 cases hk:rD ra.hc i with
 |none=>
  grind[Lq,ZMP,tB]
 |some ha=>
  rcases ZKM hk hc with⟨hs,e3⟩|⟨hn,e3,sR⟩
  .grind[ZCm]
  grind[amw,tB]
theorem Zut(hc:qG ra i o=1)(hu:∀t∈tl ops o,st2.get t=st.get t)
  (hm:∀x∈rC o.op,Has st st2 λid=>(pT st x).pI id) (h:tB P N T ops ra i o st=S8 (v,o_,st1)):tB P N T ops ra i o st2=S8 (v,o_,st2):=by
 grind[ZRA,tB,qG]
theorem ZEi(hc:qG ra i o=3)(h:tB P N T ops ra i o st=S8 (v,o_,st1)) :
  st1=st\/(so N (o.dst.getD 0) st=Tl/\∀id b,oP st1.heap id=S8 b->id=o.dst.getD 0\/oP st.heap id=S8 b):=by
 cases hk:rD ra.hc i with
 |none=>
  grind[Lq,ZUr,tB]
 |some ha=>
  grind[ZCm,Az,qG]
theorem ZID(hc:qG ra i o=3)(hk:ZNi ra i o=Tl)(h:tB P N T ops ra i o st=S8 (v,o_,st1)) :
  ∀id b,oP st.heap id=S8 b->oP st1.heap id=S8 b:=by
 unfold ZNi at hk;cases ur:rD ra.hc i with
 |none=>
  grind[Lq,ZMQ,tB]
 |some ha=>
  obtain⟨hs,e3⟩ : Dn o ha=Tl/\qG ra i o=3:=(ZKM ur (Nat.le_of_eq hc)).resolve_right λh=>by omega
  obtain⟨b,h2,rfl,h4⟩:=ZCm ur hs h;simp[Az];have:=(JM (AA h2).2).1
  grind
def DX(ra:RA)(i:Nat)(o:Oper):Bool:=match rD ra.hc i,rD ra.hc (i+1000),o.op with
 |some ha,S8 _,.call { callee:=.value (.func _),args:=_,argTypes:=_ }=>Dn o ha
 |_,_,_=>Tm
theorem amT{g:FuncId}(hs:Dn o ha=Tl)
  (cM:o.op=.call { callee:=.value (.func g),args:=args,argTypes:=bA }) (h:E1 P N ops ha an o st=S8 (v,o_,st1)) :
  ∃b:B,(∀k,b.pI k=Tm)/\so N (o.dst.getD 0) st=Tl/\st1=⟨st.env,q_ st.heap (o.dst.getD 0) b⟩/\∀st2,(∀t∈tl ops o,st2.get t=st.get t)->(∀x∈rC o.op,Has st st2 λid=>(pT st x).pI id)->so N (o.dst.getD 0) st2=Tl ->
   E1 P N ops ha an o st2=S8 (v,o_,⟨st2.env,q_ st2.heap (o.dst.getD 0) b⟩):=by
 have bN:=hs;unfold Dn at hs;split at hs;rotate_left
 .cases hs
 rename_i c d c' e sz len cc hl hn jd bY;simp only[VQ]at hs;obtain⟨⟨e1,e2⟩,e3⟩:=hs;have e1:=TF e1;have e2:=TF e2;subst e2;obtain⟨qD,new,h1,res⟩:=ha;simp only at hl hn jd;subst hl hn jd;subst e1;have hg:∀st:St,yf ops st o=S8 Tl:=λst=>by unfold yf;rw[bY]
 have kA:∀st,zM P N ops ⟨[],[(c,o.dst.getD 0)],[(c,.rows e sz len cc)],res⟩ an o st=yU P N st (.value (.func g)) args.toList ⟨[],[(c,o.dst.getD 0)],[(c,.rows e sz len cc)],res⟩ an:=λst=>by
  unfold zM;simp_all
 have kB:∀st,E1 P N ops ⟨[],[(c,o.dst.getD 0)],[(c,.rows e sz len cc)],res⟩ an o st=Aw P N st (.value (.func g)) args.toList ⟨[],[(c,o.dst.getD 0)],[(c,.rows e sz len cc)],res⟩ an:=λst=>by
  unfold E1;simp_all
 rw[kB]at h;cases hE:yU P N st (.value (.func g)) args.toList ⟨[],[(c,o.dst.getD 0)],[(c,.rows e sz len cc)],res⟩ an with
 |some r=>
  unfold Aw at h;rw[hE]at h;simp only at h;cases h;obtain⟨b,q1,q2,q3,q4⟩:=ZQn bN ((kA st).trans hE);refine⟨b,q1,q2,q3,λst2 hu hm hq=>?_⟩;rw[kB];exact ZCP ((kA st2).symm.trans (q4 st2 hu hq))
 |none=>
  unfold Aw at h;rw[hE]at h;simp only at h;have jP:∀hp,De (tx ⟨[],[(c,o.dst.getD 0)],[(c,.rows e sz len cc)],res⟩) [(c,.rows e sz len cc)]=S8 hp->hp=[(o.dst.getD 0,.rows e sz len cc)]:=λhp eh=>by
   have:tx ⟨[],[(c,o.dst.getD 0)],[(c,.rows e sz len cc)],res⟩ c=S8 (o.dst.getD 0):=by
    simp only[tx,As,V1]
   simp only[De,this,vq]at eh;simp_all
  rw[Zvb rfl]at h;obtain⟨k0,n0,rfl⟩ : ∃k n,res=.one (.p8 k n):=by
   unfold Gj at h
   grind
  unfold Gj at h;simp only at h;split at h;rotate_left
  .cases h
  rename_i g' a b om wH;split at h;rotate_left
  .cases h
  rename_i vs hp r ps qb tV eh fH b9;cases h;obtain rfl:=jP _ eh;have hq:so N (o.dst.getD 0) st=Tl:=by
   have dX:=qb;unfold sZ at dX
   grind
  refine⟨.rows e sz len cc,λ_=>rfl,hq,rfl,λst2 hu hm dw=>?_⟩;have he:∀x∈rC (.call { callee:=.value (.func g),args:=args,argTypes:=bA }),pT st2 x=pT st x:=λx hx=>Gk hu x (by rw[cM];exact hx);have eE:sZ N st2 ⟨[],[(c,o.dst.getD 0)],[(c,.rows e sz len cc)],.one (.p8 k0 n0)⟩=Tl:=by
   have dX:=qb;unfold sZ at dX ⊢;simp_all
  have mC:a=[]/\b=[]:=by
   simp only[BS,ER,pT,V.vW]at wH;simp_all
  obtain⟨rfl,rfl⟩:=mC;have ia:vU st2 args.toList [] []=vU st args.toList [] []:=Hm (λx hx=>he x (Ln x hx)) [] [];have hbm:yw st2 (vU st args.toList [] [])=S8 vs:=by
   refine ZKX (λv hv=>?_) tV;unfold vU at hv;simp only[Ve,List.nil_append,List.append_nil,Uf]at hv;obtain⟨x,hx,rfl⟩:=hv;exact hm x (by rw[cM];exact Ln x hx)
  have mD:yU P N st2 (.value (.func g)) args.toList ⟨[],[(c,o.dst.getD 0)],[(c,.rows e sz len cc)],.one (.p8 k0 n0)⟩ an=S_:=by
   cases mD:yU P N st2 (.value (.func g)) args.toList ⟨[],[(c,o.dst.getD 0)],[(c,.rows e sz len cc)],.one (.p8 k0 n0)⟩ an with
   |none=>rfl
   |some r2=>
    obtain⟨b2,_,_,_,q4⟩:=ZQn bN ((kA st2).trans mD);simp_all
  rw[kB];unfold Aw;rw[mD];simp only;rw[Zvb rfl];unfold Gj;simp only;rw[Hk he,wH];simp only[eE,ia,hbm,eh,fH,b9];rfl
theorem ZIC(hs:(GZ ra i o||DX ra i o)=Tl)(h:tB P N T ops ra i o st=S8 (v,o_,st1)) :
  ∃b:B,(∀k,b.pI k=Tm)/\so N (o.dst.getD 0) st=Tl/\st1=⟨st.env,q_ st.heap (o.dst.getD 0) b⟩/\∀st2,(∀t∈tl ops o,st2.get t=st.get t)->(∀x∈rC o.op,Has st st2 λid=>(pT st x).pI id)->so N (o.dst.getD 0) st2=Tl ->
   tB P N T ops ra i o st2=S8 (v,o_,⟨st2.env,q_ st2.heap (o.dst.getD 0) b⟩):=by
 rw[VT]at hs;rcases hs with hs|hs
 .grind[Zxv]
 .unfold DX at hs
  grind[amT,tB]
theorem ZQc(hs:DX ra i o=Tl):qG ra i o=3:=by
 grind[DX,qG]
theorem amU{c:Nat}{res:V}(bY:o.guard=S_)
  (h:zM P N ops ⟨[(c,e)],[],[(c,b)],res⟩ an o st=S8 (v,o_,st1)) :
  ∃b',vq (tx ⟨[(c,e)],[],[(c,b)],res⟩) b=S8 b'/\st1=⟨st.env,pQ st.heap e b'⟩/\(∃b0 b1,oP st.heap e=S8 b0/\vq (bwd [(c,e)]) b0=S8 b1) /\
   ∀st2,(∀t∈tl ops o,st2.get t=st.get t)->oP st2.heap e=oP st.heap e->zM P N ops ⟨[(c,e)],[],[(c,b)],res⟩ an o st2=S8 (v,o_,⟨st2.env,pQ st2.heap e b'⟩):=by
 have hg:∀st:St,yf ops st o=S8 Tl:=λst=>by unfold yf;rw[bY]
 unfold zM at h;rw[hg]at h;simp only at h;split at h;rotate_left
 .cases h
 rename_i f args bA cM;unfold yU at h;split at h;rotate_left
 .cases h
 rename_i g a b1 om wH;split at h;rotate_left
 .cases h
 rename_i h0 vs hp r qb zD tV eh hr;cases h;have dV:tx ⟨[(c,e)],[],[(c,b)],res⟩ c=S8 e:=by simp only[tx,As,V1]
 obtain⟨b',bg,rfl⟩ : ∃b',vq (tx ⟨[(c,e)],[],[(c,b)],res⟩) b=S8 b'/\hp=[(e,b')]:=by
  simp only[De,dV]at eh
  grind
 have fS:∀hh,ZIt [(e,b')] [(c,e)] hh=pQ hh e b':=λhh=>by
  unfold ZIt;simp only[ZBN,V1,ZIf]
 refine⟨b',bg,by rw[fS],?_,λst2 hu hh=>?_⟩
 .simp only[hIn]at zD
  grind
 .have he:∀x∈rC (.call { callee:=f,args:=args,argTypes:=bA }),pT st2 x=pT st x:=λx hx=>Gk hu x (by rw[cM];exact hx);have eE:sZ N st2 ⟨[(c,e)],[],[(c,b)],res⟩=Tl:=qb;have je:hIn (bwd [(c,e)]) st2.heap [(c,e)]=S8 h0:=by
   rw[ZKf (h:=st.heap) (λp hp=>by
    simp_all)]
   exact zD
  unfold zM;rw[hg];simp only[cM];unfold yU;rw[Hk he,wH];simp only[eE,je,Hm (λx hx=>he x (Ln x hx)) a b1,tV,eh,hr,fS]
def I6(ra:RA)(i:Nat)(o:Oper):S6 Nat:=match rD ra.hc i,rD ra.hc (i+1000),o.guard with
 |some ⟨[(c,e)],[],[(c',_)],_⟩,S_,S_=>match Tg c c' with
  |true=>S8 e
  |false=>S_
 |_,_,_=>S_
theorem ZAC(hp:I6 ra i o=S8 e)(h:tB P N T ops ra i o st=S8 (v,o_,st1)) :
  ∃b':B,(∀d,d≠e->b'.pI d=Tm)/\st1=⟨st.env,pQ st.heap e b'⟩/\(∀d b0,d≠e->oP st.heap e=S8 b0->b0.pI d=Tm) /\
   ∀st2,(∀t∈tl ops o,st2.get t=st.get t)->oP st2.heap e=oP st.heap e->tB P N T ops ra i o st2=S8 (v,o_,⟨st2.env,pQ st2.heap e b'⟩):=by
 unfold I6 at hp;split at hp;rotate_left
 .cases hp
 rename_i c e0 c' b res hk sR bY;split at hp;rotate_left
 .cases hp
 rename_i yO;cases hp;obtain rfl:=TF yO;unfold tB at h ⊢;simp only[hk,sR]at h ⊢;obtain⟨b',h1,h2,⟨b0,b1,h3,h4⟩,h5⟩:=amU bY h;refine⟨b',λd hd=>ZYG (λk ur=>?_) h1,h2,λd b2 hd bF=>?_,h5⟩
 .simp only[tx,As]at ur
  grind
 .rw[h3]at bF;cases bF;refine ZTS ?_ h4;simp only[bwd,UG,Ve,As];split
  all_goals simp_all
structure zw (st st2:St):Prop where
 env:∀t,st2.get t=st.get t
 heap:st2.heap=st.heap
theorem zw.refl(st:St):zw st st:=⟨λ_=>rfl,rfl⟩
theorem zw.trans{a b c:St}(h:zw a b)(k:zw b c):zw a c:=⟨λt=>(k.env t).trans (h.env t),k.heap.trans h.heap⟩
theorem ZEd{st st2:St}{d:Nat}(h:∀t,st2.get t=st.get t):∀n,wP st2 d n=wP st d n
 | 0=>rfl
 |n+1=>by simp[wP,h n,ZEd h n]
theorem ZIq(h:zw st st2)(N d:Nat):so N d st2=so N d st:=by
 unfold so;rw[ZEd h.env,h.heap]
theorem qZ.eqv{S0:Nat->Prop}{w0:t_}{a:Act}{w:World}(h:qZ N S0 w0 st a w)(he:zw st st2):qZ N S0 w0 st2 a w:=
 h.le (N:=N) ⟨λt=>.inl (he.env t),λid b hb=>by rw[<-he.heap];exact hb⟩
theorem ZYY(he:zw st st2)(ha:HA):sZ N st2 ha=sZ N st ha:=by
 unfold sZ;rw[show (λp:_×_=>so N _ _)=λp=>so N _ _ from funext λp=>ZIq he N _]
theorem ZRB(hc:ED ra i o=Tl)(he:zw st st2)(h:tB P N T ops ra i o st=S8 (v,o_,st1)) :
  ∃hp,tB P N T ops ra i o st2=S8 (v,o_,⟨st2.env,hp⟩)/\hp=st1.heap:=by
 by_cases hc3:qG ra i o<=3
 .obtain⟨e1,h1,fH⟩:=LL (st2:=st2) hc3 (λt _=>he.env t) (λ_=>he.heap) (λ_ hq=>by rw[ZIq he];exact hq) h;refine⟨_,fH,?_⟩;split
  .rename_i iP;rw[h1 iP];exact he.heap
  .rfl
 .cases hk:rD ra.hc i with
  |none=>
   simp_all[Lq,ED]
  |some ha=>
   have sR:rD ra.hc (i+1000)=S_:=by
    cases sR:rD ra.hc (i+1000)with
    |none=>rfl
    |some x=>
     exfalso;unfold ED at hc;rw[hk]at hc;simp only[sR]at hc;apply hc3;unfold qG;simp_all
   unfold tB at h ⊢;rw[hk]at h ⊢;rw[sR]at h ⊢;simp only at h ⊢;unfold zM at h ⊢;rw[OY (o:=o) (ops:=ops) (λt _=>he.env t)];split at h
   .split at h
    .rename_i c args bA cM;have bk:∀x,pT st2 x=pT st x:=λx=>by
      cases x with
      |tmp t=>exact he.env t
      |const v=>rfl
      |func f=>rfl
      |global g=>rfl
     unfold yU at h ⊢;rw[Hk (args:=args) (bA:=bA) (λx _=>bk x)];split at h;rotate_left
     .cases h
     rename_i g a b om wH;rw[Hm (λx _=>bk x) a b,ZYY he,he.heap];split at h
     all_goals grind
    .cases h
   .cases h;exact⟨_,rfl,he.heap⟩
   .cases h
def Dg(ra:RA):Nat->S5 Oper->S5 (Nat×Nat)
 |_,[]=>[]
 |i,o :: r=>match Tg (qG ra i o) 3 with
  |true=>(i,o.dst.getD 0) :: Dg ra (i+1) r
  |false=>Dg ra (i+1) r
def um(ap:S5 (S5 Nat))(i:Nat):S5 Nat:=ap.getD i []
def vu(k:Nat):S5 Nat->Bool
 | []=>Tm
 |x :: l=>match Tg x k with
  |true=>Tl
  |false=>vu k l
theorem G7{k:Nat}:∀{l:S5 Nat},vu k l=Tl↔k∈l
 | []=>by simp[vu]
 |x :: l=>by
  simp only[vu]
  split
  .simp_all
  simp_all[Tn,G7,T0]
def Rl(ni:S5 (Nat×Nat))(ps:S5 Nat)(i:Nat)(v:V):Bool:=ni.all λp=>Tg p.1 i||vu p.1 ps || !(v.pI p.2)
section
variable (P:Program) (N:Nat) (T:qP) (ops:Array Oper) (ra:RA) (ap:S5 (S5 Nat)) (ni:S5 (Nat × Nat))
def w9(l:S5 Nat)(st:St)(op:Op):Bool:=match l with
 | []=>Tl
 |c :: _=>match op with
  | .load _ x=>match pT st x with
   | .one (.ptr d _)=>Tg d c
   | .one (.rp _ _ _)=>Tg 99998 c
   | .one (.lit (.tuple _))=>Tl
   |_=>Tm
  | .store _ x _=>match pT st x with
   | .one (.ptr d _)=>Tg d c
   |_=>Tm
  |_=>Tm
def xi(i:Nat)(st:St):S6 (St×S5 Prop):=match ops[i]? with
 |none=>S_
 |some o=>match w9 (um ap (ops.size+i)) st o.op with
  |false=>S_
  |true=>match tB P N T ops ra i o st with
   |none=>S_
   |some (v,o_,pH)=>match Rl ni (um ap i) i v with
    |false=>S_
    |true=>match wq N pH o.dst v with
     |none=>S_
     |some Cl=>S8 (Cl,o_)
def Br:S5 Nat->St->S6 (St×S5 Prop)
 | [],st=>S8 (st,[])
 |i :: l,st=>match xi P N T ops ra ap ni i st with
  |none=>S_
  |some (st1,o1)=>match Br l st1 with
   |none=>S_
   |some (st2,o2)=>S8 (st2,o1++o2)
def vw(x:S6 Nat)(l:S5 Nat):Bool:=match x with
 |none=>Tl
 |some d=>!(vu d l)
def Dw(x y:S6 Nat):Bool:=match x,y with
 |some a,S8 b=>!(Tg a b)
 |_,_=>Tl
def ZUu(k i:Nat):Bool:=match ops[k]?,ops[i]? with
 |some a,S8 b=>vw a.dst (tl ops b)&&vw b.dst (tl ops a)&&Dw a.dst b.dst &&
   ((TB (qG ra k a) 1&&TB (qG ra i b) 1)||(Tg (qG ra k a) 0&&TB (qG ra i b) 3)||(Tg (qG ra i b) 0&&TB (qG ra k a) 3)||(Tg (qG ra k a) 3&&Tg (qG ra i b) 1&&(tl ops b).all λt=>T6 t N)||(Tg (qG ra k a) 1&&Tg (qG ra i b) 3&&ZNi ra i b)||((GZ ra k a||DX ra k a)&&(GZ ra i b||DX ra i b)&&(tl ops b).all λt=>T6 t N))
 |_,_=>Tm
def A9:Op->Bool | .load _ _=>Tl|_=>Tm
def alh:Op->Bool | .store _ _ _=>Tl|_=>Tm
def ZZq(i:Nat):Op->Bool
 | .call { callee:=.builtin .append,.. }=>match rD ra.an i with
  |some (.c _ _)=>Tl
  |_=>Tm
 |_=>Tm
def Nw(k i:Nat):Bool:=match ops[k]?,ops[i]?,um ap (ops.size+k),um ap (ops.size+i)with
 |some a,S8 b,c :: _,d :: _=>vw a.dst (tl ops b)&&vw b.dst (tl ops a)&&Dw a.dst b.dst&&A9 a.op&&alh b.op&&(rD ra.hc k).isNone&&(rD ra.hc i).isNone && !(Tg c d)
 |_,_,_,_=>Tm
def Ny(k i:Nat):Bool:=match ops[k]?,ops[i]? with
 |some a,S8 b=>vw a.dst (tl ops b)&&vw b.dst (tl ops a)&&Dw a.dst b.dst&&(match I6 ra k a,I6 ra i b with
  |some e,S_=>(GZ ra i b && !(Tg (b.dst.getD 0) e))||(A9 b.op&&(rD ra.hc i).isNone&&match um ap (ops.size+i)with
   |c :: _=>!(Tg c e)
   | []=>Tm)
  |none,S8 e=>(GZ ra k a && !(Tg (a.dst.getD 0) e))||(A9 a.op&&(rD ra.hc k).isNone&&match um ap (ops.size+k)with
   |c :: _=>!(Tg c e)
   | []=>Tm)
  |_,_=>Tm)
 |_,_=>Tm
def ZFt:Operand->Operand->Bool | .tmp a,.tmp b=>Tg a b|_,_=>Tm
def Nx(k i:Nat):Bool:=match ops[k]?,ops[i]? with
 |some a,S8 b=>match a.op,b.op with
  | .lookup t x y Tm,.mapEntry t' x' y'=>Tg t t'&&ZFt x x'&&ZFt y y'&&vw a.dst (tl ops b)&&vw b.dst (tl ops a)&&Dw a.dst b.dst&&a.guard.isNone&&b.guard.isNone &&
    (rD ra.hc k).isNone&&(rD ra.hc i).isNone&&(rD ra.bl k).isNone&&(rD ra.bl i).isNone&&(kdn ra.dn k).isEmpty&&(kdn ra.dn i).isEmpty&&(rD ra.rl k).isNone&&(rD ra.rl i).isNone
  |_,_=>Tm
 |_,_=>Tm
def Nz(k i:Nat):Bool:=match ops[k]?,ops[i]?,um ap (ops.size+k)with
 |some a,S8 b,c :: _=>vw a.dst (tl ops b)&&vw b.dst (tl ops a)&&Dw a.dst b.dst&&A9 a.op&&ZZq ra i b.op&&a.guard.isNone&&(rD ra.hc k).isNone&&(rD ra.hc i).isNone && !(Tg c 99998)
 |_,_,_=>Tm
def G2(k i:Nat):Bool:=ZUu N ops ra k i||Nw ops ra ap k i||Ny ops ra ap k i||Nz ops ra ap k i||Nx ops ra k i
end
variable{pH:St}{dst:S6 Nat}
theorem Ax(h:wq N st dst v=S8 pH)(t:Nat):pH.get t=(if dst=S8 t then v else st.get t)/\pH.heap=st.heap:=by
 unfold wq at h;split at h
 .cases h;simp
 .split at h
  .cases h;refine⟨?_,rfl⟩;rw[St.Ac];simp_all
  .cases h
theorem ZCd(h:wq N st dst v=S8 pH):∃cg,wq N st2 dst v=S8 cg:=by
 cases dst with
 |none=>exact⟨_,rfl⟩
 |some d=>
  unfold wq at h ⊢
  grind
theorem ZCW{x:S6 Nat}{l:S5 Nat}(h:vw x l=Tl)(ht:t∈l):x≠S8 t:=by
 rintro rfl;simp[vw]at h;rw[<-Bool.not_eq_true,G7]at h;exact h ht
section
variable {P:Program} {N:Nat} {T:qP} {ops:Array Oper} {ra:RA} {ap:S5 (S5 Nat)} {ni:S5 (Nat × Nat)}
theorem Hd{i:Nat}{o_:S5 Prop}(h:xi P N T ops ra ap ni i st=S8 (pH,o_)):∃o v st1,ops[i]?=S8 o/\tB P N T ops ra i o st=S8 (v,o_,st1)/\Rl ni (um ap i) i v=Tl/\wq N st1 o.dst v=S8 pH:=by
 unfold xi at h
 grind
theorem RF{i:Nat}{o_:S5 Prop}(h:xi P N T ops ra ap ni i st=S8 (pH,o_)){o:Oper}(ho:ops[i]?=S8 o):w9 (um ap (ops.size+i)) st o.op=Tl:=by
 unfold xi at h
 grind
theorem ZDg{o:Oper}(l:S5 Nat)(h:∀t∈tl ops o,st2.get t=st.get t):w9 l st2 o.op=w9 l st o.op:=by
 have he:=Gk h;unfold w9;cases l with
 |nil=>rfl
 |cons c l=>
  grind[rC]
theorem ZFq{i:Nat}{o:Oper}{o_:S5 Prop}(ho:ops[i]?=S8 o)(hbx:w9 (um ap (ops.size+i)) st o.op=Tl)(hr:tB P N T ops ra i o st=S8 (v,o_,st1))(hc:Rl ni (um ap i) i v=Tl)(hp:wq N st1 o.dst v=S8 pH):xi P N T ops ra ap ni i st=S8 (pH,o_):=by
 unfold xi;simp_all
variable{k off id:Nat}{a:Oper}{o1 o2:S5 Prop}{l:S5 Nat}{sa:St}{r:V×S5 Prop}
theorem Oq{ps:S5 Nat}{i d:Nat}(h:Rl ni ps i v=Tl)(hk:(k,d)∈ni)(qN:k≠i)(hp:k ∉ ps):v.pI d=Tm:=by
 have:=Tt.1 h _ hk;simp_all[G7]
theorem ZIr{st:St}{d:Nat}(hd:d<BD):∀{n:Nat},(∀t,t<n->(st.get t).pI d=Tm)->wP st d n=Tl
 | 0,_=>Nat.ble_eq_true_of_le hd
 |n+1,h=>by
  simp only[wP,h n (by omega)]
  exact ZIr hd λt ht=>h t (by omega)
theorem Zuo{dst:S6 Nat}{d:Nat}(hq:wP st d N=Tl)(he:∀t,st1.get t=st.get t)(hv:v.pI d=Tm)(hp:wq N st1 dst v=S8 pH):wP pH d N=Tl:=
 ZIr (ZCa hq) λt ht=>by
  rw[(Ax hp t).1]
  grind[Zyp]
theorem Jz(h:st1.env=st.env)(t:Nat):st1.get t=st.get t:=by unfold St.get;rw[h]
theorem Lc{d:Nat}(h1:wP st d N=Tl)(h2:xW d st.heap=Tl):so N d st=Tl:=by unfold so;grind
def ZXj(ops:Array Oper)(ra:RA)(ni:S5 (Nat×Nat)):Prop:=∀i o,ops[i]?=S8 o->qG ra i o=3->(i,o.dst.getD 0)∈ni
theorem Zwz{ra:RA}{i:Nat}{o:Oper}(h:GZ ra i o=Tl):qG ra i o=3:=by
 unfold GZ at h;unfold qG;split at h
 .grind
 .rename_i hk;rw[hk];split at h
  all_goals simp_all
def MX(P:Program)(N:Nat)(T:qP)(ops:Array Oper)(ra:RA)(ap:S5 (S5 Nat))(ni:S5 (Nat×Nat))(k i:Nat)(st st2:St)(o1 o2:S5 Prop):Prop:=∃dF cg ib,xi P N T ops ra ap ni i st=S8 (dF,o2)/\xi P N T ops ra ap ni k dF=S8 (cg,ib)/\zw cg st2/\((∀q∈o1++o2,q)->∀q∈ib,q)
theorem Sn{i:Nat}{b:Oper}(ha:ops[k]?=S8 a)(hb:ops[i]?=S8 b)(d1:vw a.dst (tl ops b)=Tl)(d2:vw b.dst (tl ops a)=Tl)(d3:Dw a.dst b.dst=Tl)
    (h1:xi P N T ops ra ap ni k st=S8 (st1,o1)) (h2:xi P N T ops ra ap ni i st1=S8 (st2,o2))
  (H:∀{va sa vb sb},tB P N T ops ra k a st=S8 (va,o1,sa)->tB P N T ops ra i b st1=S8 (vb,o2,sb)->w9 (um ap (ops.size+k)) st a.op=Tl->w9 (um ap (ops.size+i)) st1 b.op=Tl->st1.heap=sa.heap->(∀t∈tl ops b,st.get t=st1.get t)->Rl ni (um ap i) i vb=Tl ->
   ∃h ib,tB P N T ops ra i b st=S8 (vb,o2,⟨st.env,h⟩)/\(∀s:St,(∀t∈tl ops a,s.get t=st.get t)->s.heap=h->(∀d,wP st d N=Tl->vb.pI d=Tm->wP s d N=Tl)->tB P N T ops ra k a s=S8 (va,ib,⟨s.env,sb.heap⟩))/\((∀q∈o1++o2,q)->∀q∈ib,q)) :
  MX P N T ops ra ap ni k i st st2 o1 o2:=by
 obtain⟨a',va,sa,fL,rr,ia,gY⟩:=Hd h1;obtain⟨b',vb,sb,bg,v_,hcb,iA⟩:=Hd h2;rw[ha]at fL;cases fL;rw[hb]at bg;cases bg;have g1:∀t,a.dst≠S8 t->st1.get t=st.get t:=λt ht=>by rw[(Ax gY t).1,aE_ ht];exact Jz (JK rr) t
 have u1:∀t∈tl ops b,st.get t=st1.get t:=λt ht=>(g1 t (ZCW d1 ht)).symm;obtain⟨h,ib,dm,H2,ho⟩:=H rr v_ (RF h1 ha) (RF h2 hb) (Ax gY 0).2 u1 hcb;obtain⟨dF,dD⟩:=ZCd (st2:=⟨st.env,h⟩) iA;have u2:∀t∈tl ops a,dF.get t=st.get t:=λt ht=>by rw[(Ax dD t).1,aE_ (ZCW d2 ht)];rfl
 obtain⟨cg,c5⟩:=ZCd (st2:=⟨dF.env,sb.heap⟩) gY;refine⟨dF,cg,ib,ZFq hb (by rw[ZDg (st:=st1) _ u1];exact RF h2 hb) dm hcb dD,ZFq ha (by rw[ZDg (st:=st) _ u2];exact RF h1 ha) (H2 dF u2 (Ax dD 0).2 λd hq hv=>Zuo (st1:=⟨st.env,h⟩) hq (λt=>rfl) hv dD) ia c5,⟨λt=>?_,by rw[(Ax iA 0).2,(Ax c5 0).2]⟩,ho⟩;rw[(Ax iA t).1,(Ax c5 t).1,Jz (JK v_),show (⟨dF.env,sb.heap⟩ : St).get t=dF.get t from rfl,(Ax dD t).1,(Ax gY t).1,Jz (JK rr)];split
 .rename_i e2;rw[aE_];intro e1;rw[e1,e2]at d3;simp[Dw]at d3
 .rfl
theorem ZPi{b:Oper}{d:Nat}(hq:wP st d N=Tl)(hN:∀t∈tl ops b,t<N)(u:∀t∈tl ops b,st.get t=st1.get t):∀x∈rC b.op,(pT st1 x).pI d=Tm
 | .tmp t,hx=>by
  have ht:t∈tl ops b:=T9.2 (.inl (ZzC hx))
  show (st1.get t).pI _=Tm
  grind[Zyp]
 | .const v,_=>ZRC v _
 | .func f,_=>rfl
 | .global g,_=>rfl
theorem ZWG{op:Op}{c:Nat}(h:w9 (c :: l) st op=Tl)(hl:A9 op=Tl):∀x∈rC op,∀id,(pT st x).pI id=Tl->id=c:=by
 unfold w9 at h;cases op<;>simp only[A9]at hl<;>try grind
 intro x hx id hs;simp[rC]at hx;simp only at h;split at h<;>simp_all [V.pI,C.pI]
theorem ZDa(hl:A9 a.op=Tl)(hk:rD ra.hc k=S_):qG ra k a=1:=by
 rw[Lq hk];cases hq:a.op<;>rw[hq]at hl<;>first | (cases hl;done)|rfl
theorem ZZm{o:S5 Prop}(hc:qG ra k a=1)(h:tB P N T ops ra k a st=S8 (v,o,sa)):sa=st:=by
 have:=Zut hc (λ_ _=>rfl) (λ_ _ _ _ _ h=>h) h
 grind
theorem ZZn{c:Nat}{s:St}{o:S5 Prop}(hl:A9 a.op=Tl)(hk:rD ra.hc k=S_)(bx:w9 (c :: l) st a.op=Tl)(us:∀t∈tl ops a,s.get t=st.get t)(h:tB P N T ops ra k a st=S8 (v,o,sa))(hs:∀b,oP st.heap c=S8 b->oP s.heap c=S8 b) :
  tB P N T ops ra k a s=S8 (v,o,s):=
 Zut (ZDa hl hk) us (λx hx id b hy hb=>by grind[ZWG]) h
theorem ZNZ{T:qP}{t d:Nat}{o_:S5 Prop}(h:G1 T st t (.one (.ptr d off)) v an=S8 (o_,pH)):∀id,id≠d->oP pH.heap id=oP st.heap id:=by
 grind[RU,G1]
theorem ZUs{o:Oper}{i d:Nat}{t:TypeId}{x y:Operand}{o_:S5 Prop}(ho:o.op=.store t x y)(hx:pT st x=.one (.ptr d off))(h:yH P N T ops ra i o st=S8 (v,o_,pH)):∀id,id≠d->oP pH.heap id=oP st.heap id:=by
 intro id qN;unfold yH at h;split at h
 .cases h
 .cases h;rfl
 .split at h
  .cases h
  rename_i v0 ce xf bk;split at h
  .cases h
  split at h;rotate_left
  .cases h
  split at h;rotate_left
  .cases h
  cases h;unfold qf at bk;simp only[ho,hx]at bk;split at bk
  .rename_i q hq;cases bk;exact ZNZ hq id qN
  .cases bk
theorem ZDM{d t:Nat}{s x:V}{o_:S5 Prop}(hn:oP st.heap d=S_)(h:Eg N T st d t s x an=S8 (v,o_,st1)):∀id l,oP st.heap id=S8 (.box l)->oP st1.heap id=S8 (.box l):=by
 intro xn l' hb;have hd:d≠xn:=by
  grind
 unfold Eg at h
 repeat' split at h
 all_goals first | (cases h;done)|skip
 all_goals (simp at h;obtain⟨_,_,rfl⟩:=h)
 .rw[tD,aE_ hd,Ha,aE_]
  all_goals grind
 .show oP (q_ _ _ _) _=_;rw[Az,aE_ hd];exact hb
theorem ZSm{t:Nat}(h:EM T st t (.one (.ptr id off))=S8 r):∃l,oP st.heap id=S8 (.box l):=by
 unfold EM at h
 grind
theorem ZOj{t:Nat}(h:BT T st t (.one (.ptr id off)) an=S8 r):∃l,oP st.heap id=S8 (.box l):=by
 unfold BT at h;split at h
 .unfold Q5 at h;simp_all
 .exact ZSm h
theorem ZOi{T:qP}{t:TypeId}{v:Value}:BT T st t (.one (.lit v)) an=S_:=by
 unfold BT Q5 EM
 grind
theorem ZWV{i:Nat}{b:Oper}{sb:St}{o:S5 Prop}(dY:ZZq ra i b.op=Tl)(hk:rD ra.hc i=S_)(h:tB P N T ops ra i b st=S8 (v,o,sb)){c:Nat}{l:S5 C}(hl:oP st.heap c=S8 (.box l)):qG ra i b=3/\oP sb.heap c=S8 (.box l):=by
 have cE:uD ra i b.op=3:=by
  unfold ZZq at dY;split at dY
  .rename_i hq;split at dY
   .rename_i hw;rw[hq];simp only[uD,hw]
   .cases dY
  .cases dY
 refine⟨(Lq hk).trans cE,?_⟩;unfold tB at h;rw[hk]at h;simp only at h;unfold yH at h;split at h
 .cases h
 .cases h;exact hl
 .split at h
  .cases h
  rename_i v0 ce xf bk;have jf:=ZwI cE bk;split at h
  .cases h
  split at h;rotate_left
  .cases h
  split at h;rotate_left
  .cases h
  cases h;unfold ZZq at dY;split at dY
  .rename_i hq;split at dY
   .rename_i hw;simp only[qf,hq,hw]at bk;split at bk
    .split at bk
     .exact ZDM (JM (AA jf).2).1 bk c l hl
     .cases bk
    .cases bk
   .cases dY
  .cases dY
theorem alv{i N:Nat}{x:Bool}(h:(((TB k 1=Tl/\TB i 1=Tl\/Tg k 0=Tl/\TB i 3=Tl)\/Tg i 0=Tl/\TB k 3=Tl)\/(Tg k 3=Tl/\Tg i 1=Tl)/\(l.all λt=>T6 t N)=Tl)\/(Tg k 1=Tl/\Tg i 3=Tl)/\x=Tl) :
  (k<=1/\i<=1)\/(k=0/\i<=3)\/(i=0/\k<=3)\/(k=3/\i=1/\∀t∈l,t<N)\/(k=1/\i=3/\x=Tl):=by
 simp only[Nat.ble_eq,Nat.beq_eq,Tt,T6,Nat.succ_le_iff]at h;simp_all [or_assoc,and_assoc]
theorem ZMo(ic:ZXj ops ra ni){i:Nat}{b:Oper}(ha:ops[k]?=S8 a)(hb:ops[i]?=S8 b)(qb:ZUu N ops ra k i=Tl)(qN:k≠i)(C':k ∉ um ap i)(h1:xi P N T ops ra ap ni k st=S8 (st1,o1))(h2:xi P N T ops ra ap ni i st1=S8 (st2,o2))
  (hJ:∀o,ops[i]?=S8 o->qG ra i o=3->wP st (o.dst.getD 0) N=Tl) :
  MX P N T ops ra ap ni k i st st2 o1 o2:=by
 have ho:(∀q∈o1++o2,q)->∀q∈o1,q:=λh q hq=>h q (T9.2 (.inl hq));unfold ZUu at qb;rw[ha,hb]at qb;simp only[VQ,VT]at qb;obtain⟨⟨⟨d1,d2⟩,d3⟩,cE⟩:=qb;refine Sn ha hb d1 d2 d3 h1 h2 λ{va sa vb sb} rr v_ Bo Dd hh u1 hc=>?_;rcases cE with cE|⟨⟨hR1,Jr⟩,EI⟩;rotate_left
 .-- two that make rows
  have hN:∀t∈tl ops b,t<N:=λt ht=>Td (Tt.1 EI t ht);have ca:qG ra k a=3:=hR1.elim Zwz ZQc;obtain⟨ba,lL,iB,rfl,jQ⟩:=ZIC (VT _ _ ▸ hR1) rr;obtain⟨bb,lM,lN,rfl,jR⟩:=ZIC (VT _ _ ▸ Jr) v_;simp only at hh;have hna:=(JM (AA iB).2).1;have lG:=(JM (AA lN).2).1;have km:b.dst.getD 0≠a.dst.getD 0:=by
   intro e;rw[hh,e,Az,aFa rfl]at lG;cases lG
  have hqb:so N (b.dst.getD 0) st=Tl:=Lc (hJ b hb (Jr.elim Zwz ZQc)) (Zxl hna (hh ▸ (AA lN).2));refine⟨_,o1,jR st u1 (λx hx id bb ko bg=>?_) hqb,λs us hs hq=>?_,ho⟩
  .rw[hh,Az]at bg;split at bg
   .rename_i e;subst e;exact aFe ((ZPi (AA iB).1 hN u1 x hx).symm.trans ko) (by decide)
   .exact bg
  .rw[jQ s us (λx hx id bb' ko bg=>?_) (Lc (hq _ (AA iB).1 (Oq hc (ic k a ha ca) qN C')) (by rw[hs];exact ZMJ km (lM _) (AA iB).2)),hs,hh,ZVt _ _ _ _ km];rw[hs,Az];have mE:=(JM (AA hqb).2).1;split
   .rename_i e;rw[<-e,mE]at bg;cases bg
   .exact bg
 have kp:=alv cE;have la:=λ(s:St) hu hh hq=>LL (st2:=s) (by omega) hu hh hq rr;have lb:=λ(s:St) hu hh hq=>LL (st2:=s) (by omega) hu hh hq v_;obtain⟨_,mF,_⟩:=la st (λt _=>rfl) (λ_=>rfl) (λ_ h=>h);obtain⟨_,hhb,_⟩:=lb st1 (λt _=>rfl) (λ_=>rfl) (λ_ h=>h);have dm:tB P N T ops ra i b st=S8 (vb,o2,⟨st.env,if qG ra i b<=1 then st.heap else sb.heap⟩):=by
  by_cases hx:qG ra k a=3/\qG ra i b=1
  .rw[aFa (by omega)];refine Zut hx.2 u1 (λx hxm id bb ko bg=>?_) v_;rw[hh]at bg;rcases ZEi hx.1 rr with rfl|⟨hq,hn⟩
   .exact bg
   .rcases hn id bb bg with rfl|h
    .exact aFe ((ZPi (AA hq).1 (by obtain h|h|h|h|h:=kp<;>first|omega|exact h.2.2) u1 x hxm).symm.trans ko) (by decide)
    .exact h
  .exact(lb st u1 (λh=>by rw[hh,mF (by omega)]) (λhc hq=>Lc (hJ b hb hc) (by
    have:=(AA hq).2;rwa [hh,mF (by omega)]at this))).2.2
 refine⟨_,o1,dm,λs us hs hq=>?_,ho⟩;have mG:tB P N T ops ra k a s=S8 (va,o1,⟨s.env,if qG ra k a<=1 then s.heap else sa.heap⟩):=by
  by_cases hx:qG ra k a=1/\qG ra i b=3
  .rw[aFa (by omega)];refine Zut hx.1 us (λx hxm id bb ko bg=>?_) rr;rw[hs,aE_ (by omega)];have:=ZID hx.2 (by obtain h|h|h|h|h:=kp<;>first|omega|exact h.2.2) dm id bb bg
   simp only[aE_ (show ¬qG ra i b<=1 by omega)]at this;exact this
  .refine(la s us (λh=>by rw[hs,aFa (by omega)]) (λD_ cZ=>Lc (hq _ (AA cZ).1 (Oq hc (ic k a ha D_) qN C')) (by
    rw[hs,aFa (by omega)];exact(AA cZ).2))).2.2
 rw[mG,hs];by_cases c1:qG ra k a<=1
 .rw[aFa c1];split
  .rw[hhb ‹_›,hh,mF c1]
  .rfl
 .rw[aE_ c1,hhb (by omega),hh]
theorem ZMq{i:Nat}{b:Oper}(ha:ops[k]?=S8 a)(hb:ops[i]?=S8 b)(qb:Nw ops ra ap k i=Tl)(h1:xi P N T ops ra ap ni k st=S8 (st1,o1))(h2:xi P N T ops ra ap ni i st1=S8 (st2,o2)) :
  MX P N T ops ra ap ni k i st st2 o1 o2:=by
 have ho:(∀q∈o1++o2,q)->∀q∈o1,q:=λh q hq=>h q (T9.2 (.inl hq));have ne:∀{x y:Nat},(!Nat.beq x y)=Tl->x≠y:=λh=>Tn (by simpa using h);unfold Nw at qb;rw[ha,hb]at qb;split at qb;rotate_left
 .cases qb
 rename_i a' b' c l d l' ea eb kq hpi;cases ea;cases eb;simp only[VQ,VV]at qb;obtain⟨⟨⟨⟨⟨⟨⟨d1,d2⟩,d3⟩,iu⟩,dY⟩,cC⟩,sR⟩,lO⟩:=qb;refine Sn ha hb d1 d2 d3 h1 h2 λ{va sa vb sb} rr v_ Bo Dd hh u1 hc=>?_;rw[kq]at Bo;rw[hpi]at Dd;obtain rfl:=ZZm (ZDa iu cC) rr;have c2:qG ra i b=2:=by
  rw[Lq sR];cases hq:b.op<;>rw[hq]at dY<;>first | (cases dY;done)|rfl
 obtain⟨_,_,dm⟩:=LL (st2:=sa) (by omega) u1 (λ_=>hh.symm) (λh=>by omega) v_;rw[aE_ (by omega)]at dm;refine⟨_,o1,dm,λs us hs hq=>?_,ho⟩;rw[ZZn iu cC Bo us rr λb0 h0=>?_,<-hs];rw[hs];unfold tB at v_;rw[sR]at v_;unfold w9 at Dd;cases hq:b.op<;>rw[hq]at dY<;>try (cases dY;done)
 rw[hq]at Dd;simp only at Dd;split at Dd
 .rename_i hx;have:=ta Dd;subst this;rw[ZUs hq hx v_ c (ne lO),hh];exact h0
 .cases Dd
theorem ZMr(ic:ZXj ops ra ni){i:Nat}{b:Oper}(ha:ops[k]?=S8 a)(hb:ops[i]?=S8 b)(qb:Ny ops ra ap k i=Tl)(qN:k≠i)(C':k ∉ um ap i)(h1:xi P N T ops ra ap ni k st=S8 (st1,o1))(h2:xi P N T ops ra ap ni i st1=S8 (st2,o2))
  (hJ:∀o,ops[i]?=S8 o->qG ra i o=3->wP st (o.dst.getD 0) N=Tl) :
  MX P N T ops ra ap ni k i st st2 o1 o2:=by
 have ho:(∀q∈o1++o2,q)->∀q∈o1,q:=λh q hq=>h q (T9.2 (.inl hq));have ne:∀{x y:Nat},(!Nat.beq x y)=Tl->x≠y:=λh=>Tn (by simpa using h);unfold Ny at qb;rw[ha,hb]at qb;simp at qb;obtain⟨⟨⟨d1,d2⟩,d3⟩,qb⟩:=qb;refine Sn ha hb d1 d2 d3 h1 h2 λ{va sa vb sb} rr v_ Bo Dd hh u1 hc=>?_;split at qb
 .rename_i e gY iA;obtain⟨ba,lL,rfl,sa3,jQ⟩:=ZAC gY rr;simp only at hh;rw[VT]at qb;rcases qb with qb|qb
  .rw[VQ]at qb;have iC:=ne qb.2;obtain⟨bb,lM,lN,rfl,jR⟩:=Zxv qb.1 v_;exact⟨_,o1,jR st u1 (Lc (hJ b hb (Zwz qb.1)) (Zxk (T0 iC) (λb0 h0=>sa3 _ b0 iC h0) (hh ▸ (AA lN).2))),λs us hs hq=>by rw[jQ s us (by rw[hs,Az,aE_ iC]),hs,hh,ZJU iC],ho⟩
  .simp only[VQ,VV]at qb;obtain⟨⟨q1,q2⟩,q3⟩:=qb;split at q3
   .rename_i c l jM;rw[jM]at Dd;obtain rfl:=ZZm (ZDa q1 q2) v_;refine⟨_,o1,ZZn q1 q2 Dd u1 v_ λb0 h0=>?_,λs us hs hq=>by rw[jQ s us (by rw[hs]),hs,hh],ho⟩;rwa [hh,ZyH,aE_ (T0 (ne q3))]at h0
   .cases q3
 .rename_i e gY iA;obtain⟨bb,lM,rfl,sb3,jR⟩:=ZAC iA v_;rw[VT]at qb;rcases qb with qb|qb
  .rw[VQ]at qb;have iC:=ne qb.2;obtain⟨ba,lL,iB,rfl,jQ⟩:=Zxv qb.1 rr;simp only at hh;obtain⟨q1,q2⟩:=AA iB;exact⟨_,o1,jR st u1 (by rw[hh,Az,aE_ iC]),λs us hs hq=>by rw[jQ s us (Lc (hq _ q1 (Oq hc (ic k a ha (Zwz qb.1)) qN C')) (by rw[hs];exact ZCc (lM _ iC) q2)),hs,hh,ZJU iC],ho⟩
  .simp only[VQ,VV]at qb;obtain⟨⟨q1,q2⟩,q3⟩:=qb;split at q3
   .rename_i c l jM;rw[jM]at Bo;obtain rfl:=ZZm (ZDa q1 q2) rr;refine⟨_,o1,jR sa u1 (by rw[hh]),λs us hs hq=>?_,ho⟩;rw[ZZn q1 q2 Bo us rr λb0 h0=>by rw[hs,ZyH,aE_ (T0 (ne q3))];exact h0,hh,<-hs]
   .cases q3
 .cases qb
theorem ZMs{i:Nat}{b:Oper}(ha:ops[k]?=S8 a)(hb:ops[i]?=S8 b)(qb:Nz ops ra ap k i=Tl)(h1:xi P N T ops ra ap ni k st=S8 (st1,o1))(h2:xi P N T ops ra ap ni i st1=S8 (st2,o2))
  (hJ:∀o,ops[i]?=S8 o->qG ra i o=3->wP st (o.dst.getD 0) N=Tl) :
  MX P N T ops ra ap ni k i st st2 o1 o2:=by
 have ho:(∀q∈o1++o2,q)->∀q∈o1,q:=λh q hq=>h q (T9.2 (.inl hq));have ne:∀{x y:Nat},(!Nat.beq x y)=Tl->x≠y:=λh=>Tn (by simpa using h);unfold Nz at qb;rw[ha,hb]at qb;split at qb;rotate_left
 .cases qb
 rename_i a' b' c l ea eb kq;cases ea;cases eb;simp only[VQ,VV]at qb;obtain⟨⟨⟨⟨⟨⟨⟨⟨d1,d2⟩,d3⟩,iu⟩,dY⟩,hga⟩,cC⟩,sR⟩,lO⟩:=qb;have lO:=ne lO;refine Sn ha hb d1 d2 d3 h1 h2 λ{va sa vb sb} rr v_ Bo Dd hh u1 hc=>?_;rw[kq]at Bo;obtain rfl:=ZZm (ZDa iu cC) rr;obtain⟨bl,Ea⟩ : ∃l,oP sa.heap c=S8 (.box l):=by
  unfold tB at rr;rw[cC]at rr;unfold w9 at Bo;cases hqa:a.op<;>rw[hqa]at iu<;>try (cases iu;done)
  rw[hqa]at Bo;simp only[yH,yf,hga,qf,hqa]at rr Bo;split at Bo
  .rename_i hx;have:=ta Bo;subst this;rw[hx]at rr;split at rr
   .cases rr
   .rename_i hl;split at hl
    .rename_i iQ;exact ZOj iQ
    .cases hl
  .simp_all
  .rename_i hx;rw[hx,ZOi]at rr;cases rr
  .cases Bo
 obtain⟨c2,eD⟩:=ZWV dY sR v_ (c:=c) (l:=bl) (by rw[hh];exact Ea);obtain⟨_,_,dm⟩:=LL (st2:=sa) (by omega) u1 (λ_=>hh.symm) (λ_ hq=>Lc (hJ b hb c2) (by rw[<-hh];exact(AA hq).2)) v_;rw[aE_ (by omega)]at dm;refine⟨_,o1,dm,λs us hs hq=>?_,ho⟩;rw[ZZn iu cC Bo us rr λb0 h0=>by rw[hs,eD,<-Ea];exact h0,<-hs]
theorem ZMp{i:Nat}{b:Oper}(ha:ops[k]?=S8 a)(hb:ops[i]?=S8 b)(qb:Nx ops ra k i=Tl)(h1:xi P N T ops ra ap ni k st=S8 (st1,o1))(h2:xi P N T ops ra ap ni i st1=S8 (st2,o2)) :
  MX P N T ops ra ap ni k i st st2 o1 o2:=by
 unfold Nx at qb;rw[ha,hb]at qb;simp only at qb;split at qb;rotate_left
 .cases qb
 rename_i t x y t' x' y' hao hbo;simp only[VQ,VV,List.isEmpty_iff]at qb;obtain⟨⟨⟨⟨⟨⟨⟨⟨⟨⟨⟨⟨⟨⟨⟨ht,hx⟩,hy⟩,d1⟩,d2⟩,d3⟩,ga⟩,gb⟩,cC⟩,sR⟩,b1⟩,b2⟩,n1⟩,n2⟩,r1⟩,r2⟩:=qb;refine Sn ha hb d1 d2 d3 h1 h2 λ{va sa vb sb} rr v_ Bo Dd hh u1 hc=>?_;obtain rfl:=TF ht;have sT:∀{u v:Operand},ZFt u v=Tl->∃n,u=.tmp n/\v=.tmp n:=λ{u v} h=>by
  cases u<;>cases v<;>simp only[ZFt]at h<;>(try (cases h;done))
  simp_all
 obtain⟨x,rfl,rfl⟩:=sT hx;obtain⟨y,rfl,rfl⟩:=sT hy;have eL:∀s:St,tB P N T ops ra k a s=(CP P T s t (s.get x) (s.get y) Tm (rD ra.an k)).map λp=>(p.1,p.2,s):=λs=>by
  unfold tB;rw[cC];simp only[yH,yf,ga,qf,hao];have e:∀z,pT s (.tmp z)=s.get z:=λz=>rfl;rw[e,e];cases CP P T s t (s.get x) (s.get y) Tm (rD ra.an k)with
  |none=>rfl
  |some p=>simp only[b1,ZGN,n1,Od,r1,KP,TT]
 have eM:∀s:St,tB P N T ops ra i b s=Gu P T s t (s.get x) (s.get y) (rD ra.an i):=λs=>by
  unfold tB;rw[sR];simp only[yH,yf,gb,qf,hbo];have e:∀z,pT s (.tmp z)=s.get z:=λz=>rfl;rw[e,e];cases Gu P T s t (s.get x) (s.get y) (rD ra.an i)with
  |none=>rfl
  |some p=>simp only[b2,ZGN,n2,Od,r2,KP]
 rw[eL]at rr;rw[eM]at v_;have ux:x∈tl ops b/\y∈tl ops b:=by unfold tl;rw[hbo];simp[rC,KH]
 have uxa:x∈tl ops a/\y∈tl ops a:=by unfold tl;rw[hao];simp[rC,KH]
 simp only[Option.map_eq_some_iff,Tc]at rr;obtain⟨p,hp,rfl,rfl,rfl⟩:=rr;obtain⟨va,o1⟩:=p;rw[<-u1 x ux.1,<-u1 y ux.2]at v_
 -- the entry
 unfold Gu at v_;split at v_;rotate_left
 .cases v_
 rename_i kt vt id wS l kv ik j z0 l' fY fF gV han;split at v_;rotate_left
 .cases v_
 rename_i z hz g7;cases v_;have kr:Bu st (st.get x)=S8 (id,wS,l):=by unfold Bu at fF ⊢;simp_all
 obtain⟨mt,hl⟩:=K_ kr
 -- the look
 unfold CP at hp;rw[fY,kr,gV]at hp;split at hp;rotate_left
 .cases hp
 rename_i kt0 vt0 _ _ l0 kv0 v0 fz0 e1 e2 e3 e4 e5;cases e2;cases e3;cases e4;rw[hz]at hp;cases hp;have mH:Gu P T st t (st.get x) (st.get y) (rD ra.an i)=S8 (.qw [(Tm,[.oF]),(Tm,[.lit (.int .i64 j)])],[xU P kt kv (kv :: l.map (·.1)),Aa l kv z j l'],{ st with heap:=uK st.heap id (.map wS l') }):=by
  unfold Gu
  grind
 refine⟨_,[xU P kt kv (l'.map (·.1)),Ez l' kv z va],(eM st).trans mH,λs us hs hq=>(eL s).trans ?_,λhq q hqm=>?_⟩
 .have mI:CP P T s t (s.get x) (s.get y) Tm (rD ra.an k)=S8 (va,[xU P kt kv (l'.map (·.1)),Ez l' kv z va]):=by
   rw[us x uxa.1,us y uxa.2];have GP:Bu s (st.get x)=S8 (id,wS,l'):=by
    unfold Bu;rw[mt,hs];simp only[RU,if_true]
   unfold CP;simp_all
  rw[mI];simp only[TT,hh,<-hs]
 .have q1:Ez l kv z va:=hq _ (by simp);have q2:xU P kt kv (kv :: l.map (·.1)):=hq _ (by simp);have q3:Aa l kv z j l':=hq _ (by simp);simp only[VJ,List.not_mem_nil,or_false]at hqm;rcases hqm with rfl|rfl
  .exact q2.sub q3.keys
  .exact q1.ent q3
theorem ZRi(ic:ZXj ops ra ni){i:Nat}(qb:G2 N ops ra ap k i=Tl)(qN:k≠i)(C':k ∉ um ap i)(h1:xi P N T ops ra ap ni k st=S8 (st1,o1))(h2:xi P N T ops ra ap ni i st1=S8 (st2,o2))
  (hJ:∀o,ops[i]?=S8 o->qG ra i o=3->wP st (o.dst.getD 0) N=Tl) :
  MX P N T ops ra ap ni k i st st2 o1 o2:=by
 obtain⟨a,_,_,ha,_⟩:=Hd h1;obtain⟨b,_,_,hb,_⟩:=Hd h2;simp[G2]at qb
 grind[ZMo,ZMq,ZMr,ZMs,ZMp]
theorem ZTz{i:Nat}{o_:S5 Prop}(xM:∀o,ops[i]?=S8 o->ED ra i o=Tl)(he:zw st st2)(h:xi P N T ops ra ap ni i st=S8 (pH,o_)):∃cg,xi P N T ops ra ap ni i st2=S8 (cg,o_)/\zw pH cg:=by
 obtain⟨o,v,s1,ho,hr,hc,hp⟩:=Hd h;have e1:=JK hr;obtain⟨iD,fH,hph⟩:=ZRB (xM o ho) he hr;obtain⟨cg,c5⟩:=ZCd (st2:=⟨st2.env,iD⟩) hp;refine⟨cg,ZFq ho (by rw[ZDg (ops:=ops) (st:=_) _ (λt _=>he.env t)];exact RF h ho) fH hc c5,λt=>?_,?_⟩
 .rw[(Ax hp t).1,(Ax c5 t).1];split
  .rfl
  .rw[Jz e1];exact he.env t
 .rw[(Ax hp 0).2,(Ax c5 0).2];exact hph
theorem ZKn:∀{l:S5 Nat}{st st2 pH:St}{o_:S5 Prop},(∀i∈l,∀o,ops[i]?=S8 o->ED ra i o=Tl)->zw st st2->Br P N T ops ra ap ni l st=S8 (pH,o_)->∃cg,Br P N T ops ra ap ni l st2=S8 (cg,o_)/\zw pH cg
 | [],st,st2,pH,o_,xM,he,h=>by cases h;exact⟨st2,rfl,he⟩
 |i :: l,st,st2,pH,o_,xM,he,h=>by
  simp only[Br]at h
  split at h
  .cases h
  rename_i s1 o1 h1
  split at h
  .cases h
  rename_i s2 o2 h2
  cases h
  obtain⟨s1',h3,h4⟩:=ZTz (xM i (by simp)) he h1
  obtain⟨s2',h5,h6⟩:=ZKn (λj hj=>xM j (by simp[hj])) h4 h2
  exact⟨s2',by simp only[Br,h3,h5],h6⟩
theorem ZxN(ic:ZXj ops ra ni){i:Nat}{post:S5 Nat}:∀{d9:S5 Nat}{st F:St}{o_:S5 Prop},(∀k∈d9++post,∀o,ops[k]?=S8 o->ED ra k o=Tl)->(∀k∈d9,G2 N ops ra ap k i=Tl/\k≠i/\k ∉ um ap i/\i ∉ um ap k) ->
  (∀o,ops[i]?=S8 o->qG ra i o=3->wP st (o.dst.getD 0) N=Tl)->Br P N T ops ra ap ni (d9++i :: post) st=S8 (F,o_) ->
  ∃st1 oi F' o',xi P N T ops ra ap ni i st=S8 (st1,oi)/\Br P N T ops ra ap ni (d9++post) st1=S8 (F',o')/\zw F F'/\((∀q∈o_,q)->∀q∈oi++o',q)
 | [],st,F,o_,xM,hp,hJ,h=>by
  grind[zw.refl,Br]
 |k :: d9,st,F,o_,xM,hp,hJ,h=>by
  simp[ Br]at h
  split at h
  .cases h
  rename_i s1 o1 h1
  split at h
  .cases h
  rename_i s2 o2 h2
  cases h
  obtain⟨qb,qN,C',GQ⟩:=hp k (by simp)
  obtain⟨a,va,sa,ha,rr,ia,gY⟩:=Hd h1
  have hJ1:∀o,ops[i]?=S8 o->qG ra i o=3->wP s1 (o.dst.getD 0) N=Tl:=λo ho hc=>by
   have ea:=JK rr
   exact Zuo (hJ o ho hc) (Jz ea) (Oq ia (ic i o ho hc) (T0 qN) GQ) gY
  obtain⟨t1,oi,F1,o',h3,h4,h5,h6⟩:=ZxN ic (λj hj=>xM j (U1 _ hj)) (λk' ur=>hp k' (by simp[ur])) hJ1 h2
  obtain⟨t1',t2',ib,h7,h8,h9,zm⟩:=ZRi ic qb qN C' h1 h3 hJ
  obtain⟨F2,Db,wN⟩:=ZKn (l:=d9++post) (λj hj=>xM j (U1 _ hj)) (st:=t1) (st2:=t2') ⟨λt=>(h9.env t).symm,h9.heap.symm⟩ h4
  refine⟨t1',oi,F2,ib++o',h7,by simp only[Wf,Br,h8,Db],h5.trans wN,λbH q hq=>?_⟩
  have mJ:=h6 λq hq=>bH q (T9.2 (.inr hq))
  rcases T9.1 hq with hq|hq
  .exact mJ q (T9.2 (.inl hq))
  .rcases T9.1 hq with hq|hq
   .refine zm (λq hq=>?_) q hq
    rcases T9.1 hq with hq|hq
    .exact bH q (T9.2 (.inl hq))
    .exact mJ q (T9.2 (.inl hq))
   .exact mJ q (T9.2 (.inr hq))
end
end
section
def Jx:S5 Edge->S5 Nat
 | []=>[]
 |e :: l=>match V3 .any e with
  |true=>e.on :: Jx l
  |false=>Jx l
def BP(o:Oper):S5 Nat:=Jx o.after.toList
theorem ZCX{e:Edge}:∀{l:S5 Edge},e∈l->V3 .any e=Tl->e.on∈Jx l
 | [],h,_=>by cases h
 |x :: l,h,hb=>by
  simp only[Jx]
  rcases VJ.1 h with rfl|h
  .rw[hb];simp
  .have:=ZCX h hb
   grind
theorem ZAo{k:Nat}:∀{l:S5 Edge},k∈Jx l->∃e∈l,V3 .any e=Tl/\e.on=k
 | [],h=>by simp[Jx]at h
 |x :: l,h=>by
  simp only[Jx]at h
  split at h
  .rename_i hb
   rcases VJ.1 h with rfl|h
   .simp_all
   .obtain⟨e,h1,h2⟩:=ZAo h
    grind
  .obtain⟨e,h1,h2⟩:=ZAo h
   grind
def acE(N:Nat)(ops:Array Oper)(ra:RA)(ap:S5 (S5 Nat))(i:Nat):Bool:=match ops[i]? with
 |none=>Tm
 |some o=>(BP o).all (λk=>T6 k i)&&(um ap i).all (λk=>T6 k i&&(vu k (BP o)||(BP o).any λj=>vu k (um ap j)))&&ED ra i o &&
   (Tr i).all λk=>vu k (um ap i)||G2 N ops ra ap k i
def ZQz(N:Nat)(ops:Array Oper)(ra:RA)(ap:S5 (S5 Nat)):Bool:=match ra.fz with
 | []=>(Tr ops.size).all (acE N ops ra ap)
 |_=>Tm
theorem ZRH{ra:RA}{i:Nat}{o:Oper}:∀{l:S5 Oper}{k:Nat},l[i]?=S8 o->qG ra (k+i) o=3->(k+i,o.dst.getD 0)∈Dg ra k l:=by
 induction i with
 |zero=>
  intro l k h hc;cases l with
  |nil=>simp at h
  |cons x l=>
   simp_all[Dg]
 |succ i ih=>
  intro l k h hc;cases l with
  |nil=>simp at h
  |cons x l=>
   grind[Dg]
theorem Oy(ops:Array Oper)(ra:RA):ZXj ops ra (Dg ra 0 ops.toList):=by
 intro i o ho hc;have:=ZRH (ra:=ra) (i:=i) (o:=o) (l:=ops.toList) (k:=0) (by simpa using ho) (by simp_all);simp_all
def Rw(N:Nat)(st:St):S5 (Nat×Nat)->Bool
 | []=>Tl
 | (_,d) :: l=>match wP st d N with
  |true=>Rw N st l
  |false=>Tm
theorem ZvB{N:Nat}{st:St}:∀{l:S5 (Nat×Nat)},Rw N st l=Tl->∀i d,(i,d)∈l->wP st d N=Tl
 | [],_,i,d,h=>by cases h
 | (j,d') :: l,hq,i,d,h=>by
  simp only[Rw]at hq
  split at hq
  .rename_i h1
   rcases VJ.1 h with h|h
   .cases h;exact h1
   .exact ZvB hq i d h
  .cases hq
def ZOz(P:Program)(N:Nat)(T:qP)(ops:Array Oper)(ra:RA)(ap:S5 (S5 Nat))(st:St):S6 (St×S5 Prop):=match ZQz N ops ra ap,Rw N st (Dg ra 0 ops.toList)with
 |true,Tl=>Br P N T ops ra ap (Dg ra 0 ops.toList) (Tr ops.size) st
 |_,_=>S_
section
variable {P:Program} {N:Nat} {T:qP} {ops:Array Oper} {ra:RA} {ap:S5 (S5 Nat)} {Q:Exit->Act->World->Prop} {S0:Nat->Prop} {w0:t_}
variable{i:Nat}
theorem ZFy(h:ZQz N ops ra ap=Tl)(hi:i<ops.size):∃o,ops[i]?=S8 o/\(∀k∈BP o,k<i)/\(∀k∈um ap i,k<i/\(k∈BP o\/∃j∈BP o,k∈um ap j))/\ED ra i o=Tl/\∀k,k<i->k ∉ um ap i->G2 N ops ra ap k i=Tl:=by
 unfold ZQz at h;split at h
 .have:=Tt.1 h i (Ua.2 hi);unfold acE at this;split at this
  .cases this
  .rename_i o ho;simp only[VQ,Tt,VT,Wg,Ua]at this;obtain⟨⟨⟨h1,h2⟩,h3⟩,h4⟩:=this;refine⟨o,ho,λk hk=>Td (h1 k hk),λk hk=>?_,h3,λk hk hn=>?_⟩
   .simp_all[G7]
   grind[G7]
 .cases h
def left(n:Nat)(af:Array Bool):S5 Nat:=(Tr n).filter λi=>!af.getD i Tl
theorem RX{af:Array Bool}:i∈VW .any ops af↔i<ops.size/\af.getD i Tl=Tm/\∃o,ops[i]?=S8 o/\∀k∈BP o,af.getD k Tm=Tl:=by
 unfold VW;simp only[VU,Ua,VQ,VR];constructor
 .rintro ⟨h1,h2,h3⟩;refine⟨h1,h2,ops[i],by simp,λk hk=>?_⟩;rw[show ops[i]?=S8 ops[i]by simp]at h3;obtain⟨e,h4,h5,rfl⟩:=ZAo hk;simp only[TT,T4,V4,VT,VR]at h3
  grind
 .rintro ⟨h1,h2,o,ho,h3⟩;refine⟨h1,h2,?_⟩;rw[ho];simp only[TT,T4,V4,VT,VR];intro e he;cases hb:V3 .any e with
  |false=>exact .inl rfl
  |true=>exact .inr (h3 _ (ZCX (by simpa using he) hb))
theorem Ot(af:Array Bool)(i j:Nat)(d:Bool)(hi:i<af.size:=by omega):(af.setIfInBounds i Tl).getD j d=if i=j then Tl else af.getD j d:=by
 simp only[T',Array.getElem?_setIfInBounds]
 grind
theorem anh(hT:rZ P T)(hD:ZQz N ops ra ap=Tl):∀(fuel:Nat)(af:Array Bool)(st F:St)(a:Act)(w:World)(o_:S5 Prop),af.size=ops.size->(left ops.size af).length<=fuel ->
  (∀j,af.getD j Tm=Tl->∀k∈um ap j,af.getD k Tm=Tl)->(∀j o,j∈left ops.size af->ops[j]?=S8 o->qG ra j o=3->wP st (o.dst.getD 0) N=Tl) ->
  qZ N S0 w0 st a w->Br P N T ops ra ap (Dg ra 0 ops.toList) (left ops.size af) st=S8 (F,o_)->(∀q∈o_,q)->(∀F' a' w',zw F F'->qZ N S0 w0 F' a' w'->Q .normal a' w')->wpAny P .any ops Q fuel af a w:=by
 intro fuel;have xM:∀i o,ops[i]?=S8 o->ED ra i o=Tl:=λi o ho=>by
  grind[ZFy]
 have gy:∀(af:Array Bool),af.size=ops.size->VW .any ops af=[]->left ops.size af=[]:=by
  intro af bf hr;cases hl:left ops.size af with
  |nil=>rfl
  |cons i l=>
   have hm:i∈left ops.size af:=by rw[hl];simp
   have dG:∀k,k<i->af.getD k Tl=Tl:=by
    intro k hk;cases sR:af.getD k Tl with
    |true=>rfl
    |false=>
     have hs:V2 (·< ·) (left ops.size af):=VS _ VZ;have ie:k∈left ops.size af:=by grind[left]
     grind[V_]
   have hi:i<ops.size/\af.getD i Tl=Tm:=by simpa[left]using hm
   obtain⟨o,ho,hd,_⟩:=ZFy hD hi.1;have:i∈VW .any ops af:=RX.2 ⟨hi.1,hi.2,o,ho,λk hk=>by
    grind⟩
   simp_all
 induction fuel with
 |zero=>
  intro af st F a w o_ bf hle hdc hJ tW cF ho hk;have hl:left ops.size af=[]:=List.eq_nil_of_length_eq_zero (by omega);rw[hl]at cF;cases cF;refine⟨?_,hk _ a w (zw.refl _) tW⟩;cases hr:VW .any ops af with
  |nil=>rfl
  |cons i l=>
   have hm:i∈VW .any ops af:=by rw[hr];simp
   obtain⟨h1,h2,_⟩:=RX.1 hm;have:i∈left ops.size af:=by simp only[left,VU,Ua,VR];exact⟨h1,h2⟩
   simp_all
 |succ fuel ih=>
  intro af st F a w o_ bf hle hdc hJ tW cF ho hk;refine⟨λhr=>?_,λi hi=>?_⟩
  .rw[gy af bf hr]at cF;cases cF;exact hk _ a w (zw.refl _) tW
  .obtain⟨yE,bE,o,fi,mK⟩:=RX.1 hi;have ku:i∈left ops.size af:=by simp only[left,VU,Ua,VR];exact⟨yE,bE⟩
   obtain⟨d9,post,bQ⟩:=Wb ku;have iE:(left ops.size af).Nodup:=VS _ Wd;have hpw:V2 (·< ·) (left ops.size af):=VS _ VZ;obtain⟨o',kw,hd,hp,hc,gz⟩:=ZFy hD yE;rw[fi]at kw;cases kw;have fS:∀k∈um ap i,af.getD k Tm=Tl:=by
    grind
   have mL:∀k∈left ops.size af,af.getD k Tm=Tm:=by
    intro k hk;simp only[left,VU,Ua,VR]at hk
    grind
   have jg:∀k∈d9,G2 N ops ra ap k i=Tl/\k≠i/\k ∉ um ap i/\i ∉ um ap k:=by
    intro k hk;have ie:k∈left ops.size af:=by rw[bQ];simp[hk]
    have qI:k<i:=by
     grind
    have kx:k ∉ um ap i:=λh=>by grind
    refine⟨gz k qI kx,by omega,kx,λh=>?_⟩;have cC:k<ops.size:=by omega
    obtain⟨_,_,_,iD,_⟩:=ZFy hD cC
    grind
   rw[bQ]at cF;obtain⟨st1,oi,F',o',h1,h2,h3,h4⟩:=ZxN (Oy ops ra) (λj _=>xM j) jg (λo2 df zF=>hJ i o2 ku df zF) cF;have fj:left ops.size (af.setIfInBounds i Tl)=d9++post:=by
    have e1:left ops.size (af.setIfInBounds i Tl)=(left ops.size af).filter (λj=>decide (j≠i)):=by
     unfold left;rw[VY];apply V0;intro j hj;rw[Ot _ _ _ _]
     grind
    rw[e1,bQ,Wa,We];rw[bQ]at iE;obtain⟨n1,n2,n3⟩:=Vk.1 iE;have n4:=(Wh.1 n2).1;rw[aE_ (by simp)];rw[VX.2 (λx hx=>by grind),VX.2 (λx hx=>by grind)]
   obtain⟨o2,v,s1,df,hr,mM,eC⟩:=Hd h1;rw[fi]at df;cases df;have gA:Ef P N T ops ra i o st=S8 (st1,oi):=ZEh hr eC;have jh:=JK hr;unfold wpOp;rw[fi];simp only;have c4:=OK (P:=P) hT tW gA (λq hq=>h4 ho q (T9.2 (.inl hq))) (K:=wpAny P .any ops Q fuel (af.setIfInBounds i Tl)) (Q:=Q) λa' w' bV=>by
    refine ih (af.setIfInBounds i Tl) st1 F' a' w' o' (by simp[bf]) ?_ ?_ ?_ bV (by rw[fj];exact h2) (λq hq=>h4 ho q (T9.2 (.inr hq))) λF2 a2 w2 he hs2=>hk F2 a2 w2 (h3.trans he) hs2
    .grind
    .intro j hj k hk;rw[Ot _ _ _ _]at hj ⊢
     grind
    .intro j o2 hj df zF;have lP:j∈left ops.size af:=by
      grind
     have Re:j≠i:=by
      grind
     refine Zuo (hJ j o2 lP df zF) (Jz jh) (Oq mM (Oy ops ra j o2 df zF) Re λh=>?_) eC
     grind
   grind
theorem alS(hT:rZ P T)(hm:P.follows .mixedOrders=Tl){id:Nat}{st pH:St}{a:Act}{w:World}{o_:S5 Prop}(tW:qZ N S0 w0 st a w)(h:ZOz P N T ops ra ap st=S8 (pH,o_))(ho:∀q∈o_,q)
  (hk:∀a' w',qZ N S0 w0 pH a' w'->Q .normal a' w'):(Code.region id ops Tl).wp P Q a w:=by
 unfold ZOz at h;split at h
 .rename_i hD hq;refine wp_region_any hm ?_;have hl:left ops.size (VH ops.size Tm)=Tr ops.size:=by
   unfold left;simp_all
  have ji:qZ N S0 w0 st a { w with drawn:=w.drawn+1 }:=by
   obtain⟨S,m,hs,hg⟩:=tW;exact⟨S,m,hs.grow (Tq _) (λ_ _=>rfl) (λ_ h=>h) (λ_ h=>.inl h),hg.step ⟨rfl,rfl,rfl,Tq _,λ_ _=>rfl,UN _⟩ (λ_ h=>h) (λ_ h=>.inl h)⟩
  refine anh hT hD ops.size _ st pH a _ o_ (by simp) (by rw[hl];simp) (λj hj=>?_) (λj o hj ig hc=>ZvB hq j _ (Oy ops ra j o ig hc)) ji (by grind) ho λF' a' w' he bV=>?_
  .simp[ V7]at hj
   grind
  .exact hk _ _ (bV.eqv ⟨λt=>(he.env t).symm,he.heap.symm⟩)
 .cases h
end
section
variable (P:Program) (N:Nat) (T:qP) (ops:Array Oper) (ra:RA) (ap:S5 (S5 Nat))
def yJ(i j:Nat):Bool:=!(Tg j i) && !(vu i (um ap j))
def rowP(i j:Nat):Bool:=match ops[j]? with
 |none=>Tm
 |some o=>(BP o).all (λk=>T6 k j)&&(um ap j).all (λk=>T6 k j&&(vu k (BP o)||(BP o).any λl=>vu k (um ap l))) &&
   (!(yJ ap i j)||(ED ra j o&&(Tr j).all λk=>!(yJ ap i k)||vu k (um ap j)||G2 N ops ra ap k j))
def Je(pa:PA)(j:Nat)(a:Oper):Bool:=match qG ra j a with
 | 0|1=>Tl
 | 3=>pa.qD.all λp=>!(Tg p.2 (a.dst.getD 0))
 |_=>Tm
def NG(pa:PA)(i j:Nat):Bool:=match ops[j]?,ops[i]? with
 |some a,S8 b=>!(yJ ap i j)||vu j (um ap i)||(Je ra pa j a&&vw a.dst (tl ops b))
 |_,_=>Tm
def Zys(pa:PA)(i:Nat):Bool:=match ra.fz with
 | []=>(Tr ops.size).all (λj=>rowP N ops ra ap i j&&NG ops ra ap pa i j)
 |_=>Tm
def ZFL(i:Nat)(pa:PA)(st:St):S6 (V×S5 Prop):=match Zys N ops ra ap pa i,Rw N st (Dg ra 0 ops.toList),ops[i]? with
 |true,Tl,S8 o=>match Br P N T ops ra ap (Dg ra 0 ops.toList) ((Tr ops.size).filter (yJ ap i)) st with
  |some (F,o1)=>match H8 P N ops pa (rD ra.an i) o F with
   |some (pv,o2)=>S8 (pv,o1++o2)
   |none=>S_
  |none=>S_
 |_,_,_=>S_
end
section
variable {P:Program} {N:Nat} {T:qP} {ops:Array Oper} {ra:RA} {ap:S5 (S5 Nat)} {Q:Exit->Act->World->Prop} {S0:Nat->Prop} {w0:t_}
variable{pa:PA}{i:Nat}{st:St}{pv:V}
theorem ZBR(h:Zys N ops ra ap pa i=Tl){j:Nat}(hj:j<ops.size):∃o,ops[j]?=S8 o/\(∀k∈BP o,k<j)/\(∀k∈um ap j,k<j/\(k∈BP o\/∃l∈BP o,k∈um ap l)) /\
  (yJ ap i j=Tl->ED ra j o=Tl/\∀k,k<j->yJ ap i k=Tl->k ∉ um ap j->G2 N ops ra ap k j=Tl)/\NG ops ra ap pa i j=Tl:=by
 unfold Zys at h;split at h
 .have:=Tt.1 h j (Ua.2 hj);rw[VQ]at this;obtain⟨h1,hf⟩:=this;unfold rowP at h1;split at h1
  .cases h1
  .rename_i o ho;simp only[VQ,Tt,VT,Wg,Ua,VR]at h1;obtain⟨⟨h1,h2⟩,h3⟩:=h1;refine⟨o,ho,λk hk=>Td (h1 k hk),λk hk=>?_,λha=>?_,hf⟩
   .simp_all[G7]
   grind[G7]
 .cases h
theorem ZVz{g:Nat->S6 Nat}{h h2:S5 (Nat×B)}:∀{l:S5 (Nat×Nat)}{r:S5 (Nat×B)},(∀p∈l,∀b,oP h p.2=S8 b->oP h2 p.2=S8 b)->hIn g h l=S8 r->hIn g h2 l=S8 r
 | [],r,_,e=>e
 | (c0,i0) :: l,r,hs,e=>by
  simp only[hIn]at e ⊢
  split at e
  .rename_i b hb
   split at e
   .rename_i b0 l0 h1 h3
    cases e
    rw[hs _ U0 b hb]
    simp only[h1,ZVz (λp hp=>hs p (U1 _ hp)) h3]
   .cases e
  .cases e
theorem ZEj{an:S6 sF}{o:Oper}{st2:St}(hu:∀t∈tl ops o,st2.get t=st.get t)(hh:∀p∈pa.qD,∀b,oP st.heap p.2=S8 b->oP st2.heap p.2=S8 b){r:V×S5 Prop}(h:H8 P N ops pa an o st=S8 r)(ky:∀x,o.op=.panic x->False):H8 P N ops pa an o st2=S8 r:=by
 unfold H8 at h ⊢;rw[OY hu];split at h;rotate_left
 .cases h
 have he:=Gk hu;split at h
 .rename_i c args bA cM;rw[cM]at he;unfold Q6 at h ⊢;rw[Hk he];have qb:sZ N st2 ⟨pa.qD,[],[],pa.pv⟩=sZ N st ⟨pa.qD,[],[],pa.pv⟩:=rfl
  revert h
  cases wH:BS P st c an with
  |none=>intro h;cases h
  |some q=>
   obtain⟨g,a,b,om⟩:=q;simp only;rw[Hm (λx hx=>he x (Ln x hx)) a b,qb];intro h;split at h;rotate_left
   .cases h
   rename_i o_ hx;cases h;split at hx;rotate_left
   .cases hx
   rename_i h0 vs e1 e2 e3;cases hx;simp only[e1,ZVz hh e2,e3]
 all_goals simp_all
theorem ZCK{pa:PA}{oi:Oper}:∀{l:S5 Nat}{st F:St}{o_:S5 Prop},(∀j∈l,∃a,ops[j]?=S8 a/\Je ra pa j a=Tl/\vw a.dst (tl ops oi)=Tl)->Br P N T ops ra ap (Dg ra 0 ops.toList) l st=S8 (F,o_) ->
  (∀p∈pa.qD,∀b,oP F.heap p.2=S8 b->oP st.heap p.2=S8 b)/\∀t∈tl ops oi,F.get t=st.get t
 | [],st,F,o_,hl,h=>by cases h;simp_all
 |j :: l,st,F,o_,hl,h=>by
  simp[Br]at h
  split at h
  .cases h
  rename_i s1 o1 h1
  split at h
  .cases h
  rename_i s2 o2 h2
  cases h
  obtain⟨a,ha,hc,hd⟩:=hl j (by simp)
  obtain⟨a',v,sa,fL,hr,_,hp⟩:=Hd h1
  rw[ha]at fL
  cases fL
  obtain⟨f1,f2⟩:=ZCK (λk hk=>hl k (by simp_all)) h2
  have e1:=JK hr
  refine⟨λp c5 b hb=>?_,λt ht=>?_⟩
  .have hb:=f1 p c5 b hb
   rw[(Ax hp 0).2]at hb
   unfold Je at hc
   split at hc
   .obtain⟨_,e2,_⟩:=LL (st2:=st) (by omega) (λ_ _=>rfl) (λ_=>rfl) (λ_ h=>h) hr
    simp_all
   .obtain⟨_,e2,_⟩:=LL (st2:=st) (by omega) (λ_ _=>rfl) (λ_=>rfl) (λ_ h=>h) hr
    simp_all
   .rename_i h0
    rcases ZEi h0 hr with e|⟨_,e⟩
    .rwa [e]at hb
    .rcases e _ _ hb with e|e
     .have:=Tt.1 hc p c5
      simp_all
     .exact e
   .cases hc
  .rw[f2 t ht,(Ax hp t).1,aE_ (ZCW hd ht)]
   exact Jz e1 t
theorem ZYV(hT:rZ P T)(hD:Zys N ops ra ap pa i=Tl){oi:Oper}(fi:ops[i]?=S8 oi)(ky:∀x,oi.op=.panic x->False)(hk:D5 S0 w0 pv Q):∀(fuel:Nat)(af:Array Bool)(st F:St)(a:Act)(w:World)(o1 o2:S5 Prop),af.size=ops.size->(left ops.size af).length<=fuel ->
  af.getD i Tl=Tm->(∀j,af.getD j Tm=Tl->∀k∈um ap j,af.getD k Tm=Tl)->(∀j o,j∈(left ops.size af).filter (yJ ap i)->ops[j]?=S8 o->qG ra j o=3->wP st (o.dst.getD 0) N=Tl) ->
  qZ N S0 w0 st a w->Br P N T ops ra ap (Dg ra 0 ops.toList) ((left ops.size af).filter (yJ ap i)) st=S8 (F,o1)->H8 P N ops pa (rD ra.an i) oi F=S8 (pv,o2)->(∀q∈o1++o2,q)->wpAny P .any ops Q fuel af a w:=by
 have mN:i<ops.size:=(V5.1 fi).1;intro fuel;have gy:∀(af:Array Bool),af.size=ops.size->VW .any ops af=[]->left ops.size af=[]:=by
  intro af bf hr;cases hl:left ops.size af with
  |nil=>rfl
  |cons i l=>
   have hm:i∈left ops.size af:=by rw[hl];simp
   have dG:∀k,k<i->af.getD k Tl=Tl:=by
    intro k hk;cases sR:af.getD k Tl with
    |true=>rfl
    |false=>
     have hs:V2 (·< ·) (left ops.size af):=VS _ VZ;have ie:k∈left ops.size af:=by grind[left]
     grind[V_]
   have hi:i<ops.size/\af.getD i Tl=Tm:=by simpa[left]using hm
   obtain⟨o,ho,hd,_⟩:=ZBR hD hi.1;have:i∈VW .any ops af:=RX.2 ⟨hi.1,hi.2,o,ho,λk hk=>by
    grind⟩
   simp_all
 have kz:∀(af:Array Bool),af.getD i Tl=Tm->i∈left ops.size af:=λaf h=>by
  grind[left]
 induction fuel with
 |zero=>
  grind
 |succ fuel ih=>
  intro af st F a w o1 o2 bf hle jj hdc hJ tW cF ii ho;refine⟨λhr=>?_,λj hj=>?_⟩
  .have:=kz af jj;rw[gy _ bf hr]at this;cases this
  .obtain⟨D9,xp,o,ig,mK⟩:=RX.1 hj;have lP:j∈left ops.size af:=by simp only[left,VU,Ua,VR];exact⟨D9,xp⟩
   obtain⟨o',kw,hd,hp,hc,aEh⟩:=ZBR hD D9;rw[ig]at kw;cases kw;have fS:∀k∈um ap j,af.getD k Tm=Tl:=by
    grind
   have mL:∀k∈left ops.size af,af.getD k Tm=Tm:=by
    intro k hk;simp only[left,VU,Ua,VR]at hk
    grind
   unfold wpOp;rw[ig];simp only;by_cases Re:j=i
   .-- the one that panics
    subst Re;rw[fi]at ig;cases ig;have hq:∀k∈(left ops.size af).filter (yJ ap j),∃a,ops[k]?=S8 a/\Je ra pa k a=Tl/\vw a.dst (tl ops oi)=Tl:=by
     intro k hk;obtain⟨cC,sR⟩:=VU.1 hk;have hks:k<ops.size:=by simp[left]at cC;exact cC.1
     obtain⟨ok,qb,_,_,_,hf⟩:=ZBR hD hks;unfold NG at hf;rw[qb,fi]at hf;simp only[VT,VQ,VR]at hf;rcases hf with (hf|hf)|hf
     .grind
     .have:=fS k (G7.1 hf)
      grind
     grind
    obtain⟨f1,f2⟩:=ZCK hq cF;have c5:=ZEj (λt ht=>(f2 t ht).symm) f1 ii ky;obtain⟨h1,h2⟩:=ZPC (K:=wpAny P .any ops Q fuel (af.setIfInBounds j Tl)) tW c5 (λq hq=>ho q (T9.2 (.inr hq))) hk
    grind
   .have hap:yJ ap i j=Tl:=by
     unfold yJ;simp only[VQ,VR];refine⟨?_,?_⟩
     .cases hb:Tg j i
      .rfl
      .exact aFe (ta hb) Re
     .cases hb:vu i (um ap j)
      .rfl
      .have:=fS i (G7.1 hb)
       grind
    obtain⟨xM,gz⟩:=hc hap;have ku:j∈(left ops.size af).filter (yJ ap i):=VU.2 ⟨lP,hap⟩;obtain⟨d9,post,bQ⟩:=Wb ku;have cG:∀k∈(left ops.size af).filter (yJ ap i),k<ops.size/\k∈left ops.size af/\yJ ap i k=Tl:=λk hk=>by
     obtain⟨h1,h2⟩:=VU.1 hk;exact⟨by simp[left]at h1;exact h1.1,h1,h2⟩
    have iE:((left ops.size af).filter (yJ ap i)).Nodup:=VS _ (VS _ Wd);have hpw:V2 (·< ·) ((left ops.size af).filter (yJ ap i)):=VS _ (VS _ VZ);have jg:∀k∈d9,G2 N ops ra ap k j=Tl/\k≠j/\k ∉ um ap j/\j ∉ um ap k:=by
     intro k hk;have ie:k∈(left ops.size af).filter (yJ ap i):=by rw[bQ];simp[hk]
     obtain⟨k1,k2,k3⟩:=cG k ie;have qI:k<j:=by
      grind
     have kx:k ∉ um ap j:=λh=>by grind
     refine⟨gz k qI k3 kx,by omega,kx,λh=>?_⟩;obtain⟨_,_,_,iD,_⟩:=ZBR hD k1
     grind
    rw[bQ]at cF;have kF:∀k∈d9++post,∀o,ops[k]?=S8 o->ED ra k o=Tl:=λk hk ok qb=>by
     have ie:k∈(left ops.size af).filter (yJ ap i):=by
      grind
     obtain⟨k1,k2,k3⟩:=cG k ie;obtain⟨jS,dX,_,_,D_,_⟩:=ZBR hD k1
     grind
    obtain⟨st1,oo,F',o',h1,h2,h3,h4⟩:=ZxN (Oy ops ra) kF jg (λo2 df zF=>hJ j o2 ku df zF) cF;have fj:(left ops.size (af.setIfInBounds j Tl)).filter (yJ ap i)=d9++post:=by
     have e1:left ops.size (af.setIfInBounds j Tl)=(left ops.size af).filter (λk=>decide (k≠j)):=by
      unfold left;rw[VY];apply V0;intro k hk;rw[Ot _ _ _ _]
      grind
     rw[e1,VY];have e2:(left ops.size af).filter (λk=>yJ ap i k&&decide (k≠j))=((left ops.size af).filter (yJ ap i)).filter (λk=>decide (k≠j)):=by
      rw[VY];apply V0
      grind
     rw[e2,bQ,Wa,We];rw[bQ]at iE;obtain⟨n1,n2,n3⟩:=Vk.1 iE;have n4:=(Wh.1 n2).1;rw[aE_ (by simp)];rw[VX.2 (λx hx=>by grind),VX.2 (λx hx=>by grind)]
    have hlen:(left ops.size (af.setIfInBounds j Tl)).length<=fuel:=by
     have e1:left ops.size (af.setIfInBounds j Tl)=(left ops.size af).filter (λk=>decide (k≠j)):=by
      unfold left;rw[VY];apply V0;intro k hk;rw[Ot _ _ _ _]
      grind
     rw[e1];have:((left ops.size af).filter (λk=>decide (k≠j))).length<(left ops.size af).length:=by
      rcases Nat.lt_or_ge ((left ops.size af).filter (λk=>decide (k≠j))).length (left ops.size af).length with h|h
      .exact h
      .have:=VX.1 (List.Sublist.eq_of_length_le List.filter_sublist h) j lP;simp at this
     omega
    obtain⟨ox,v,s1,df,hr,mM,eC⟩:=Hd h1;rw[ig]at df;cases df;have gA:Ef P N T ops ra j o st=S8 (st1,oo):=ZEh hr eC;have jh:=JK hr;have kG:H8 P N ops pa (rD ra.an i) oi F'=S8 (pv,o2):=ZEj (λt _=>(h3.env t)) (λ_ _ _ h=>by rw[h3.heap];exact h) ii ky;have c4:=OK (P:=P) hT tW gA (λq hq=>h4 (λq hq=>ho q (T9.2 (.inl hq))) q (T9.2 (.inl hq))) (K:=wpAny P .any ops Q fuel (af.setIfInBounds j Tl)) (Q:=Q) λa' w' bV=>by
     refine ih (af.setIfInBounds j Tl) st1 F' a' w' o' o2 (by simp[bf]) hlen ?_ ?_ ?_ bV (by rw[fj];exact h2) kG (λq hq=>?_)
     .rw[Ot _ _ _ _,aE_ Re];exact jj
     .intro k hk l hl;rw[Ot _ _ _ _]at hk ⊢
      grind
     .intro k ok hk qb zF;have mO:k≠j:=by
       grind
      rw[fj]at hk;have ie:k∈(left ops.size af).filter (yJ ap i):=by
       grind
      obtain⟨_,k2,_⟩:=cG k ie;refine Zuo (hJ k ok ie qb zF) (Jz jh) (Oq mM (Oy ops ra k ok qb zF) mO λh=>?_) eC
      grind
     .rcases T9.1 hq with hq|hq
      .exact h4 (λq hq=>ho q (T9.2 (.inl hq))) q (T9.2 (.inr hq))
      .exact ho q (T9.2 (.inr hq))
    grind
theorem ZEe(hT:rZ P T)(hm:P.follows .mixedOrders=Tl){id:Nat}{a:Act}{w:World}{o_:S5 Prop}(tW:qZ N S0 w0 st a w)(ky:∀o x,ops[i]?=S8 o->o.op=.panic x->False)(h:ZFL P N T ops ra ap i pa st=S8 (pv,o_))(ho:∀q∈o_,q)
  (hk:D5 S0 w0 pv Q):(Code.region id ops Tl).wp P Q a w:=by
 unfold ZFL at h;split at h;rotate_left
 .cases h
 rename_i oi hD hq fi;split at h;rotate_left
 .cases h
 rename_i F o1 cF;split at h;rotate_left
 .cases h
 rename_i pv2 o2 ii;cases h;refine wp_region_any hm ?_;have hl:left ops.size (VH ops.size Tm)=Tr ops.size:=by
  unfold left;simp_all
 have ji:qZ N S0 w0 st a { w with drawn:=w.drawn+1 }:=by
  obtain⟨S,m,hs,hg⟩:=tW;exact⟨S,m,hs.grow (Tq _) (λ_ _=>rfl) (λ_ h=>h) (λ_ h=>.inl h),hg.step ⟨rfl,rfl,rfl,Tq _,λ_ _=>rfl,UN _⟩ (λ_ h=>h) (λ_ h=>.inl h)⟩
 have mN:i<ops.size:=(V5.1 fi).1;refine ZYV hT hD fi (λx hx=>ky oi x fi hx) hk ops.size _ st F a _ o1 o2 (by simp) (by rw[hl];simp) ?_ (λj hj=>?_) (λj o hj ig hc=>ZvB hq j _ (Oy ops ra j o ig hc)) ji (by rw[hl];exact cF) ii ho
 .simp_all
 .exfalso;simp only[T',V7]at hj
  grind
end
end
section
def zG(P:Program)(T:qP):Prop:=rZ P T/\P.follows .mixedOrders=Tl
def ZWq:S5 Nat->S5 Nat->S5 Nat
 | [],acc=>acc
 |k :: l,acc=>match vu k acc with
  |true=>ZWq l acc
  |false=>ZWq l (k :: acc)
def acY:S5 Oper->S5 (S5 Nat)->S5 (S5 Nat) | [],acc=>acc|o :: r,acc=>acY r (acc++[ZWq (BP o++(BP o).flatMap λk=>acc.getD k []) []])
def Jb(ops:Array Oper)(ra:RA):S5 (S5 Nat):=match ra.ct with
 | []=>acY ops.toList []
 |c=>c
def alA(o:Oper):Bool:=o.after.toList.any λe=>match e.ground with
 | .gcOnly _=>Tl
 |_=>Tm
def ZWH(kn:S5 (Nat×S6 Nat))(st:St):Operand->S6 Nat
 | .tmp t=>match rD kn t with
  |some (S8 b)=>match Tg b 99997 with
   |true=>S_
   |false=>S8 b
  |some S_=>S_
  |none=>match st.get t with
   | .one (.ptr b _)=>S8 b
   | .one (.rp _ _ _)=>S8 99998
   |_=>S_
 |_=>S_
def acv(kn:S5 (Nat×S6 Nat))(st:St):Operand->S6 Nat
 | .tmp t=>match rD kn t with
  |some (S8 b)=>match Tg b 99997 with
   |true=>S8 99998
   |false=>S_
  |some S_=>S_
  |none=>match st.get t with
   | .one (.sl _ _ _)=>S8 99998
   |_=>S_
 |_=>S_
def Ky(st:St):S5 Oper->S5 (Nat×S6 Nat)->S5 (S5 Nat)
 | [],_=>[]
 |o :: r,kn=>match o.op with
  | .load _ x=>(match ZWH kn st x with
   |some b=>[b]
   |none=>[]) :: Ky st r ((o.dst.getD 0,S8 99997) :: kn)
  | .store _ x _=>(match ZWH kn st x with
   |some b=>[b]
   |none=>[]) :: Ky st r ((o.dst.getD 0,S_) :: kn)
  | .move x | .assign x=>[] :: Ky st r ((o.dst.getD 0,match ZWH kn st x with
   |some b=>S8 b
   |none=>match acv kn st x with
    |some _=>S8 99997
    |none=>S_) :: kn)
  | .alloc _ | .box _ _=>[] :: Ky st r ((o.dst.getD 0,S8 (o.dst.getD 0)) :: kn)
  | .indexAddr _ x _=>[] :: Ky st r ((o.dst.getD 0,match ZWH kn st x with
   |some b=>S8 b
   |none=>acv kn st x) :: kn)
  | .fieldAddr _ x _ | .nilCheck x=>[] :: Ky st r ((o.dst.getD 0,ZWH kn st x) :: kn)
  |_=>[] :: Ky st r ((o.dst.getD 0,S_) :: kn)
def adn(o:Oper):Bool:=match o.op with
 | .call { callee:=.builtin .append,.. }=>Tl
 |_=>Tm
def ctB(ops:Array Oper)(ra:RA)(st:St):S5 (S5 Nat):=match ops.toList.any alA||ops.toList.any adn,ra.hc with
 |false,[]=>Jb ops ra
 |_,_=>Jb ops ra++Ky st ops.toList []
def FQ(ra:RA)(st:St):S6 (RA×St):=match ra.fz with
 | []=>S8 (ra,st)
 | [(0,ids)]=>match Q8 ids st with
  |some pH=>S8 ({ ra with fz:=[] },pH)
  |none=>S_
 |_=>S_
theorem qZ.FV{N:Nat}{S0:Nat->Prop}{w0:t_}{st pH:St}{a:Act}{w:World}{ra ra':RA}(h:qZ N S0 w0 st a w)(he:Go.Proofs.YtmcnjofonpkfmaaGreat.FQ ra st=S8 (ra',pH)):qZ N S0 w0 pH a w:=by
 unfold Go.Proofs.YtmcnjofonpkfmaaGreat.FQ at he;split at he
 .cases he;exact h
 .split at he
  .rename_i hq;cases he;exact h.frozen hq
  .cases he
 .cases he
def ZTy(P:Program)(N:Nat)(T:qP)(pF:S5 It)(st:St)(sf:S5 RA)(bs:S5 Bool):S6 (S5 It×St×S5 RA×S5 Bool×S5 Prop):=match pF with
 | .code .skip :: k=>S8 (k,st,sf,bs,[])
 | .code (.seq x y) :: k=>S8 (.code x :: .code y :: k,st,sf,bs,[])
 | .code (.block id x) :: k=>S8 (.code x :: .xN id :: k,st,sf,bs,[])
 | .code (.loop x) :: k=>S8 (.code x :: .yr x :: k,st,sf,bs,[])
 | .code (.exit id) :: k=>match QK id k with
  |some k'=>S8 (k',st,sf,bs,[])
  |none=>S_
 | .code (.cond c x y) :: k=>match pT st c,bs with
  | .one (.lit (.bool e)),b :: bs'=>S8 (.code (match b with|true=>x|false=>y) :: k,st,sf,bs',[e=b])
  |_,_=>S_
 | .code (.region _ ops Tm) :: k=>match sf with
  |ra :: FK=>match Bz P N T ops ra 0 ops.toList st with
   |some (pH,o_)=>S8 (k,pH,FK,bs,o_)
   |none=>S_
  | []=>S_
 | .code (.region _ ops Tl) :: k=>match sf with
  |ra :: FK=>match FQ ra st with
   |some (xR,xf)=>match ZOz P N T ops xR (ctB ops xR xf) xf with
    |some (pH,o_)=>S8 (k,pH,FK,bs,o_)
    |none=>S_
   |none=>S_
  | []=>S_
 | .xN _ :: k=>S8 (k,st,sf,bs,[])
 | .yr x :: k=>S8 (.code (.loop x) :: k,st,sf,bs,[])
 |_=>S_
def runK(P:Program)(N:Nat)(T:qP):Nat->S5 It->St->S5 RA->S5 Bool->S6 (S5 It×St×S5 Prop)
 | 0,pF,st,_,_=>S8 (pF,st,[])
 |n+1,pF,st,sf,bs=>match ZTy P N T pF st sf bs with
  |none=>S_
  |some (Jo,st1,I5,K3,o1)=>match runK P N T n Jo st1 I5 K3 with
   |none=>S_
   |some (Rb,st2,o2)=>S8 (Rb,st2,o1++o2)
section
variable {P:Program} {N:Nat} {T:qP} {S0:Nat->Prop} {w0:t_} {Q:Exit->Act->World->Prop}
variable{st pH:St}{o_:S5 Prop}
theorem ZzD(hT:zG P T)(hE:Ends Q){pF cr:S5 It}{sf FK:S5 RA}{bs bs':S5 Bool}(h:ZTy P N T pF st sf bs=S8 (cr,pH,FK,bs',o_))(ho:∀q∈o_,q)(hk:Good P N S0 w0 Q cr pH):Good P N S0 w0 Q pF st:=by
 unfold ZTy at h;split at h
 .cases h;exact ZVG hk
 .cases h;exact ZGx hk
 .cases h;exact ZSf hk
 .cases h;exact ZVH hE hk
 .split at h
  .rename_i hx;cases h;exact ZVI hx hk
  .cases h
 .split at h
  .rename_i e b K3 hv;cases h;refine ZVL hv (ho _ U0) ?_;cases b<;>exact hk
  .cases h
 .split at h
  .split at h
   .rename_i hr;cases h;exact ZCC hT.1 hr ho hk
   .cases h
  .cases h
 .split at h
  .split at h
   .rename_i hp;split at h
    .rename_i hr;cases h;exact λa w hs=>alS hT.1 hT.2 (hs.FV hp) hr ho λa' w' bV=>hk a' w' bV
    .cases h
   .cases h
  .cases h
 .cases h;exact ZVK hk
 .cases h;exact ZVJ hk
 .cases h
theorem Gr(hT:zG P T)(hE:Ends Q):∀{n:Nat}{pF cr:S5 It}{st pH:St}{sf:S5 RA}{bs:S5 Bool}{o_:S5 Prop},runK P N T n pF st sf bs=S8 (cr,pH,o_)->(∀q∈o_,q)->Good P N S0 w0 Q cr pH->Good P N S0 w0 Q pF st
 | 0,pF,cr,st,pH,sf,bs,o_,h,ho,hk=>by cases h;exact hk
 |n+1,pF,cr,st,pH,sf,bs,o_,h,ho,hk=>by
  simp only[runK]at h
  split at h
  .cases h
  rename_i Jo st1 I5 K3 o1 h1
  split at h
  .cases h
  rename_i Rb st2 o2 h2
  cases h
  exact ZzD hT hE h1 (λq hq=>ho q (T9.2 (.inl hq))) (Gr hT hE h2 (λq hq=>ho q (T9.2 (.inr hq))) hk)
theorem ZKg{pF:S5 It}{na:NA}(h:norm N na st=S8 (pH,o_))(ho:∀q∈o_,q)(hk:Good P N S0 w0 Q pF pH):Good P N S0 w0 Q pF st:=λa w hs=>hk a w (hs.norm h ho)
end
def yG:S5 Prop->Prop | []=>True|p :: l=>p/\yG l
theorem wh:∀{l:S5 Prop},yG l->∀q∈l,q
 | [],_,q,h=>by cases h
 |p :: l,h,q,hq=>by
  rcases VJ.1 hq with rfl|hq
  .exact h.1
  .exact wh h.2 q hq
inductive sx:List Prop->Prop
 |n:sx []
 |c {p:Prop} {l:List Prop} (h:p) (t:sx l):sx (p :: l)
theorem oi{α:Type}{a b:α}(h:S8 a=S8 b):a=b:=Option.some.inj h
theorem sx.app:∀{l m:S5 Prop},sx l->sx m->sx (l++m)
 |_,_,.n,k=>k
 |_,_,.c h t,k=>.c h (t.app k)
theorem sx.all:∀{l:S5 Prop},sx l->yG l
 |_,.n=>trivial
 |_,.c h t=>⟨h,t.all⟩
def toK(P:Program)(N:Nat)(T:qP)(n:Nat)(pF:S5 It)(st:St)(sf:S5 RA)(bs:S5 Bool)(na:NA):S6 (S5 It×St×S5 Prop):=match runK P N T n pF st sf bs with
 |some (it,st1,o_)=>match norm N na st1 with
  |some (st2,o2)=>S8 (it,st2,o_++o2)
  |none=>S_
 |none=>S_
variable{P:Program}{N:Nat}{S0:Nat->Prop}{w0:t_}{fn:Func}{T:qP}{res pv:V}{o_:S5 Prop}{st:St}{h1:S5 (Nat×B)}{Q:Exit->Act->World->Prop}{f:FuncId}{h0:S5 (Nat × B)}{args:S5 V}
theorem ZYk(hT:zG P T)(hE:Ends Q)(n:Nat)(pF cr:S5 It)(st pH:St)(sf:S5 RA)(bs:S5 Bool)(na:NA)(o_:S5 Prop)
  (h:toK P N T n pF st sf bs na=S8 (cr,pH,o_)) (ho:yG o_) (hk:Good P N S0 w0 Q cr pH):Good P N S0 w0 Q pF st:=by
 unfold toK at h;split at h
 .rename_i it st1 o h1;split at h
  .rename_i st2 o2 h2;cases h;exact Gr hT hE h1 (λq hq=>wh ho q (T9.2 (.inl hq))) (ZKg h2 (λq hq=>wh ho q (T9.2 (.inr hq))) hk)
  .cases h
 .cases h
def Jc(P:Program)(N:Nat)(T:qP)(n:Nat)(pF:S5 It)(st:St)(sf:S5 RA)(bs:S5 Bool)(fz:S5 Nat)(dh dn:S5 (Nat×S5 (Nat×C)))(rs:S5 ResultVar):S6 (V×S5 Prop):=match runK P N T n pF st sf bs with
 |some (.code .ret :: _,st1,o_)=>match tidy N fz dh dn st1 with
  |some st2=>match Ag T st2 rs with
   |some v=>S8 (v,o_)
   |none=>S_
  |none=>S_
 |some ([],st1,o_)=>match tidy N fz dh dn st1 with
  |some st2=>match Ag T st2 rs with
   |some v=>S8 (v,o_)
   |none=>S_
  |none=>S_
 |_=>S_
theorem ZRc(hT:zG P T)(n:Nat)(pF:S5 It)(st:St)(sf:S5 RA)(bs:S5 Bool)(fz:S5 Nat)(dh dn:S5 (Nat×S5 (Nat×C)))(o_:S5 Prop)
  (h:Jc P N T n pF st sf bs fz dh dn fn.results.toList=S8 (res,o_)) (hp:res.pure=Tl) (ho:yG o_):Good P N S0 w0 (bodyPost P fn (uB S0 w0 res)) pF st:=by
 unfold Jc at h;split at h
 .rename_i h1;split at h
  .rename_i st2 h2;split at h
   .rename_i v h3;cases h;exact Gr hT uB.ends h1 (wh ho) λa w hs=>wp_ret (Lr (ZCf hT.1 (hs.xd h2) h3 hp) _)
   .cases h
  .cases h
 .rename_i h1;split at h
  .rename_i st2 h2;split at h
   .rename_i v h3;cases h;exact Gr hT uB.ends h1 (wh ho) λa w hs=>ZCf hT.1 (hs.xd h2) h3 hp
   .cases h
  .cases h
 .cases h
def ZHT(P:Program)(N:Nat)(T:qP)(n:Nat)(pF:S5 It)(st:St)(sf:S5 RA)(bs:S5 Bool)(na:NA)(rs:S5 ResultVar):S6 (V×S5 (Nat×B)×S5 Prop):=match runK P N T n pF st sf bs with
 |some (.code .ret :: _,st1,o_)=>match norm N na st1 with
  |some (st2,o2)=>match Ag T st2 rs with
   |some v=>S8 (v,st2.heap,o_++o2)
   |none=>S_
  |none=>S_
 |some ([],st1,o_)=>match norm N na st1 with
  |some (st2,o2)=>match Ag T st2 rs with
   |some v=>S8 (v,st2.heap,o_++o2)
   |none=>S_
  |none=>S_
 |_=>S_
theorem Zxt(hT:zG P T)(n:Nat)(pF:S5 It)(st:St)(sf:S5 RA)(bs:S5 Bool)(na:NA)(o_:S5 Prop)
  (h:ZHT P N T n pF st sf bs na fn.results.toList=S8 (res,h1,o_)) (ho:yG o_):Good P N S0 w0 (bodyPost P fn (wb S0 w0 h1 res)) pF st:=by
 unfold ZHT at h;split at h
 .rename_i e1;split at h
  .rename_i st2 o2 h2;split at h
   .rename_i v h3;cases h;exact Gr hT wb.ends e1 (λq hq=>wh ho q (T9.2 (.inl hq))) λa w hs=>wp_ret (Lr (Ou hT.1 (hs.norm h2 λq hq=>wh ho q (T9.2 (.inr hq))) h3 λ_ _ e=>e) _)
   .cases h
  .cases h
 .rename_i e1;split at h
  .rename_i st2 o2 h2;split at h
   .rename_i v h3;cases h;exact Gr hT wb.ends e1 (λq hq=>wh ho q (T9.2 (.inl hq))) λa w hs=>Ou hT.1 (hs.norm h2 λq hq=>wh ho q (T9.2 (.inr hq))) h3 λ_ _ e=>e
   .cases h
  .cases h
 .cases h
inductive wK where
 |ret (h1:List (Nat×B)) (res:V)
 |uF (pv:V)
def Bs(S0:Nat->Prop)(w0:t_)(pv:V):Ending->World->Prop:=λe w'=>∃x S',e=.panicked [{ v:=x,recovered:=Tm }]/\p9 w0.F.no S0 S' w0.w w'/\(∀b,S' b->b<w'.heap.size)/\o6 S' w' ru pv x
def MU(S0:Nat->Prop)(w0:t_):wK->Ending->World->Prop | .ret h1 res=>wb S0 w0 h1 res | .uF pv=>Bs S0 w0 pv
theorem Bs.ends:Ends (bodyPost P fn (Bs S0 w0 pv)):=by
 refine⟨λa w h=>?_,λl a w h=>h⟩;obtain⟨x,S',h,_⟩:=h;cases h
theorem MU.ends{o:wK}:Ends (bodyPost P fn (MU S0 w0 o)):=by
 cases o with
 |ret h1 res=>exact wb.ends
 |uF pv=>exact Bs.ends
def Fi(P:Program)(f:FuncId)(h0:S5 (Nat×B))(args:S5 V):wK->Prop | .ret h1 res=>rX P f h0 args h1 res | .uF pv=>Ao P f h0 args pv
theorem Ao.of    {c : Code}     (hf : P.funcs[f]? = S8 fn) (hb : fn.body = S8 c) (hn : (fn.name == "runtime.NumGoroutine") = Tm) (hN : fn.ntmps = N) (hl : TB args.length N = Tl)
  (h:∀S0 w0,Good P N S0 w0 (bodyPost P fn (Bs S0 w0 pv)) [.code c] (St.tS args h0)):Ao P f h0 args pv:=by
 refine⟨⟨fn,hf,hn,by rw[hb];rfl⟩,λno S m w vs hS bu pQ rr=>?_⟩;have hle:=Td hl;have oP:∀t,(St.tS args h0).get t=args.getD t (.one .oF):=λt=>St.uN args t;have tW:qZ N S ⟨w,no,m⟩ (St.tS args h0) { tmps:=vs.toArray++VH (fn.ntmps-vs.toArray.size) undef,defers:=[] } w:=by
  refine⟨S,m,⟨by simp;have:=rr.1;omega,λt=>?_,λt ht=>?_,pQ.rep,pQ.own,pQ.inj,hS,rfl,bu,λ_ _=>rfl,rfl,pQ.C7⟩,p9.refl _ _ _⟩
  .rw[oP];by_cases ht:t<S7 args
   .have hv:args[t]?=S8 (args.getD t (.one .oF)):=by simp_all
    obtain⟨x,h1,h2⟩:=rr.2 t _ hv;have:(vs.toArray++VH (fn.ntmps-vs.toArray.size) undef).getD t undef=x:=by
     have qI:t<S7 vs:=by rw[rr.1];exact ht
     rw[T',Array.getElem?_append_left (by simpa using qI)];simp[h1]
    simp_all
   .have:args.getD t (.one .oF)=.one .oF:=by simp_all
    rw[this];exact oI.oF
  grind
 exact calls_of_wp hf hb (h S ⟨w,no,m⟩ _ w tW)
theorem Fi.of    {c : Code}    {o : wK} (hf : P.funcs[f]? = S8 fn) (hb : fn.body = S8 c) (hn : (fn.name == "runtime.NumGoroutine") = Tm) (hN : fn.ntmps = N) (hl : TB args.length N = Tl)
  (h:∀S0 w0,Good P N S0 w0 (bodyPost P fn (MU S0 w0 o)) [.code c] (St.tS args h0)):Fi P f h0 args o:=by
 cases o with
 |ret h1 res=>exact rX.of hf hb hn hN hl h
 |uF pv=>exact Ao.of hf hb hn hN hl h
theorem Ss{P:Program}{Q:Exit->Act->World->Prop}{ch:S5 PanicEntry}{a:Act}{w:World}(h:Q (.panic ch) a w):∀k,zH P Q k (.panic ch) a w
 | []=>h
 | .code c :: k=>Ss h k
 | .xN id :: k=>Ss h k
 | .yr b :: k=>Ss h k
def ZFS(ops:Array Oper)(i:Nat):Bool:=match ops[i]? with
 |some o=>match o.op with
  | .panic _=>Tm
  |_=>Tl
 |none=>Tl
def NP(P:Program)(N:Nat)(T:qP)(n:Nat)(pF:S5 It)(st:St)(sf:S5 RA)(bs:S5 Bool)(ra:RA)(i:Nat)(pa:PA):S6 (V×S5 Prop):=match runK P N T n pF st sf bs with
 |some (.code (.region _ ops Tm) :: _,st1,o_)=>match ZIy P N T ops ra i pa 0 ops.toList st1 with
  |some (pv,o2)=>S8 (pv,o_++o2)
  |none=>S_
 |some (.code (.region _ ops Tl) :: _,st1,o_)=>match FQ ra st1 with
  |some (xR,st2)=>match ZFS ops i,ZFL P N T ops xR (Jb ops xR) i pa st2 with
   |true,S8 (pv,o2)=>S8 (pv,o_++o2)
   |_,_=>S_
  |none=>S_
 |_=>S_
theorem Zoq(hT:zG P T)(n:Nat)(pF:S5 It)(st:St)(sf:S5 RA)(bs:S5 Bool)(ra:RA)(i:Nat)(pa:PA)(ho:sx o_)
  (h:NP P N T n pF st sf bs ra i pa=S8 (pv,o_)):Good P N S0 w0 (bodyPost P fn (Bs S0 w0 pv)) pF st:=by
 have ho:=ho.all;have hQ:∀k,D5 S0 w0 pv (zH P (bodyPost P fn (Bs S0 w0 pv)) k):=λk a x w' S' h1 h2 h3 h4=>Ss (show bodyPost P fn (Bs S0 w0 pv) _ a w' from⟨h1,x,S',rfl,h2,h3,h4⟩) k;unfold NP at h;split at h
 .rename_i id ops k st1 o1 h1;split at h
  .rename_i pv2 o2 h2;cases h;exact Gr hT Bs.ends h1 (λq hq=>wh ho q (T9.2 (.inl hq))) λa w hs=>wp_region_list (ZCg hT.1 hs h2 (λq hq=>wh ho q (T9.2 (.inr hq))) (hQ k))
  .cases h
 .rename_i id ops k st1 o1 h1;split at h;rotate_left
  .cases h
  rename_i xR st2 hp;split at h
  .rename_i pv2 o2 hn h2;cases h;refine Gr hT Bs.ends h1 (λq hq=>wh ho q (T9.2 (.inl hq))) λa w hs=>ZEe hT.1 hT.2 (hs.FV hp) (λo x fi hx=>?_) h2 (λq hq=>wh ho q (T9.2 (.inr hq))) (hQ k);unfold ZFS at hn;simp_all
  .cases h
 .cases h
theorem ZYl(hT:zG P T)(hE:Ends Q)(n:Nat){pF cr:S5 It}{pH:St}(sf:S5 RA)(bs:S5 Bool)(na:NA)(ho:sx o_)
  (h:toK P N T n pF st sf bs na=S8 (cr,pH,o_)) (hk:Good P N S0 w0 Q cr pH):Good P N S0 w0 Q pF st:=ZYk hT hE n pF cr st pH sf bs na o_ h ho.all hk
theorem Zxs(hT:zG P T)(n:Nat){pF:S5 It}(sf:S5 RA)(bs:S5 Bool)(fz:S5 Nat)(dh dn:S5 (Nat×S5 (Nat×C)))(ho:sx o_)
  (h:Jc P N T n pF st sf bs fz dh dn fn.results.toList=S8 (res,o_)) (hp:res.pure=Tl):Good P N S0 w0 (bodyPost P fn (uB S0 w0 res)) pF st:=ZRc hT n pF st sf bs fz dh dn o_ h hp ho.all
theorem ZFn(hT:zG P T)(n:Nat){pF:S5 It}(sf:S5 RA)(bs:S5 Bool)(na:NA)(ho:sx o_)
  (h:ZHT P N T n pF st sf bs na fn.results.toList=S8 (res,h1,o_)):Good P N S0 w0 (bodyPost P fn (wb S0 w0 h1 res)) pF st:=Zxt hT n pF st sf bs na o_ h ho.all
def NW(P:Program)(N:Nat)(T:qP)(n:Nat)(pF:S5 It)(st:St)(sf:S5 RA)(bs:S5 Bool)(na:NA)(cz:S5 Nat)(rs:S5 ResultVar):S6 (V×S5 (Nat×B)×S5 Prop):=match runK P N T n pF st sf bs with
 |some (.code .ret :: _,st1,o_)=>match norm N na st1 with
  |some (st2,o2)=>match Ag T st2 rs,KA st2 cz with
   |some v,S8 h=>S8 (v,h,o_++o2)
   |_,_=>S_
  |none=>S_
 |some ([],st1,o_)=>match norm N na st1 with
  |some (st2,o2)=>match Ag T st2 rs,KA st2 cz with
   |some v,S8 h=>S8 (v,h,o_++o2)
   |_,_=>S_
  |none=>S_
 |_=>S_
theorem Zwm(hT:zG P T)(n:Nat){pF:S5 It}(sf:S5 RA)(bs:S5 Bool)(na:NA)(cz:S5 Nat)(ho:sx o_)
  (h:NW P N T n pF st sf bs na cz fn.results.toList=S8 (res,h1,o_)):Good P N S0 w0 (bodyPost P fn (wb S0 w0 h1 res)) pF st:=by
 have ho:=ho.all;unfold NW at h;split at h
 .rename_i e1;split at h
  .rename_i st2 o2 h2;split at h
   .rename_i v hh h3 h4;cases h;exact Gr hT wb.ends e1 (λq hq=>wh ho q (T9.2 (.inl hq))) λa w hs=>wp_ret (Lr (Ou hT.1 (hs.norm h2 λq hq=>wh ho q (T9.2 (.inr hq))) h3 λid b hb=>OI st2 h4 id b hb) _)
   .cases h
  .cases h
 .rename_i e1;split at h
  .rename_i st2 o2 h2;split at h
   .rename_i v hh h3 h4;cases h;exact Gr hT wb.ends e1 (λq hq=>wh ho q (T9.2 (.inl hq))) λa w hs=>Ou hT.1 (hs.norm h2 λq hq=>wh ho q (T9.2 (.inr hq))) h3 λid b hb=>OI st2 h4 id b hb
   .cases h
  .cases h
 .cases h
def KR:S5 Nat->Code->S5 It->S6 (S5 It) | [],c,k=>S8 (.code c :: k)|0 :: l,.seq x y,k=>KR l x (.code y :: k)|_ :: l,.seq _ y,k=>KR l y k|_ :: l,.block id x,k=>KR l x (.xN id :: k)|0 :: l,.cond _ x _,k=>KR l x k|_ :: l,.cond _ _ y,k=>KR l y k|_ :: l,.loop x,k=>KR l x (.yr x :: k)|_,_,_=>S_
def Ed(fn:Func):Code:=fn.body.getD .skip
def at_(l:S5 Nat)(c:Code):S5 It:=(KR l c []).getD []
end
section
def pw{α:Type}(e:α->S5 C)(d:α)(l:S5 α):Nat->Nat->C:=λi j=>(e (l.getD i d)).getD j .oF
def cL{α:Type}(sz:Nat)(e:α->S5 C)(d:α)(l:S5 α):C:=.sl sz l.length (pw e d l)
def cI(k:IntKind)(n:Int):S5 C:=[.lit (.int k n)]
def cB(b:Bool):S5 C:=[.lit (.bool b)]
def cS(s:ByteArray):S5 C:=[.lit (.string s)]
def wa{α:Type}(sz:Nat)(e:α->S5 C)(d:α)(l:S5 α):S5 C:=[cL sz e d l]
def cP{α β:Type}(e:α->S5 C)(f:β->S5 C)(p:α×β):S5 C:=e p.1++f p.2
variable{α κ ν:Type}{sz R:Nat}{d r z:α}{a b n:Int}{p:Prop}{x:S6 α}{vv:ν->V}
theorem ZCJ{e:α->S5 C}(out ys:S5 α):Ext sz out.length ys.length (pw e d out) (pw e d ys) (out++ys).length (pw e d (out++ys)):=by
 refine⟨by simp,λi j hi hj=>?_,λi j hi hj=>?_⟩
 .simp[pw,Ty,Ud hi]
 .simp[pw,Ty,List.getElem?_append_right]
theorem ZGB{e:α->S5 C}(out:S5 α)(k:Nat)(x:α)(hx:(e x).length=sz):zj sz out.length (pw e d out) k 0 (e x) (pw e d (out.set k x)):=by
 intro i j hi hj;by_cases h:i=k
 .subst h;rw[aFa ⟨rfl,by omega,by omega⟩];simp[pw,Ty,hi]
 .rw[aE_ (λhh=>h hh.1)];simp[pw,Ty,V8 (T0 h)]
theorem ZQu{e:α->S5 C}(out:S5 α)(k off:Nat)(x:α)(cs:S5 C)(hx:e x=wg (e (out.getD k d)) off cs)(hl:off+S7 cs<=(e (out.getD k d)).length):zj sz out.length (pw e d out) k off cs (pw e d (out.set k x)):=by
 intro i j hi hj;by_cases h:i=k
 .subst h;have h1:pw e d (out.set i x) i j=(e x).getD j .oF:=by simp[pw,Ty,hi]
  have h2:=JN (e (out.getD i d)) off cs hl j;rw[h1,hx,Ty,h2];by_cases xp:off<=j/\j<off+S7 cs
  .simp_all
  .rw[aE_ xp,aE_ (λhh=>xp hh.2)];rfl
 .rw[aE_ (λhh=>h hh.1)];simp[pw,Ty,V8 (T0 h)]
theorem R_{e:α->S5 C}{zs:S5 C}(hz:∀j,j<sz->zJ (zs.getD j .oF) ((e z).getD j .oF))(n:Nat):∀i j,i<n->j<sz->zJ (zs.getD j .oF) (pw e d (V6 n z) i j):=by
 intro i j hi hj;have:pw e d (V6 n z) i j=(e z).getD j .oF:=by simp[pw,Ty,hi]
 simp_all
theorem JL{e:α->S5 C}(l:S5 α)(k:Nat):(l.drop k).length=S7 l-k/\∀i j,i<S7 l-k->j<sz->pw e d (l.drop k) i j=pw e d l (k+i) j:=
 ⟨by simp,λi j hi hj=>by simp[pw,Ty]⟩
theorem Lt{e:α->S5 C}(l:S5 α)(h:Int)(hh:0<=h/\h<=((S7 l:Nat):Int)):(l.take h.toNat).length=h.toNat/\∀i j,i<h.toNat->j<sz->pw e d (l.take h.toNat) i j=pw e d l i j:=
 ⟨by simp;omega,λi j hi hj=>by simp[pw,Ty,hi]⟩
def f_{α:Type}(p:Prop)[Decidable p](k:S6 α):S6 α:=if p then k else S_
theorem yg[Decidable p]{k:S6 α}(h:f_ p k=S8 r):p/\k=S8 r:=by
 unfold f_ at h;simp_all
theorem CO[Decidable p](h:p)(k:S6 α):f_ p k=k:=aFa h
theorem Dk{b:Bool}{y:S6 α}(h:(bif b then x else y)=S8 r):(b=Tl/\x=S8 r)\/(b=Tm/\y=S8 r):=by
 grind
theorem ltOf{n:Nat}(h:0<=a/\a<(n:Int)):a.toNat<n:=by omega
theorem vJ{α:Type}{sz:Nat}{e:α->S5 C}{d:α}(he:∀x,(e x).length=sz):∀(l:S5 α)(i j:Nat),i<S7 l->j<sz->pw e d l i j=(l.flatMap e).getD (i*sz+j) .oF
 | [],i,j,hi,_=>aFe hi (by simp)
 |x :: l,0,j,_,hj=>by simp[pw,Ty,Ud,he,hj]
 |x :: l,i+1,j,hi,hj=>by
  have ih:=vJ (d:=d) he l i j (by simpa using hi) hj
  simp only[pw,V']at ih ⊢
  grind
def vZ{α:Type}(n:Int)(a b:S6 α):S6 α:=if n=0 then a else b
theorem ZZo{a b:S6 α}(h:0<=n/\n<((2:Nat):Int))(hf:vZ n a b=S8 r):(n=0/\a=S8 r)\/(n=1/\b=S8 r):=by
 unfold vZ at hf
 grind
theorem anj(e:α->S5 C)(d:α)(L:S5 α)(l:S5 C)(hs:∀x,(e x).length=sz)(hl:l=L.flatMap e):∀i j,i<S7 L->j<sz->pw e d L i j=l.getD (0+(i*sz+j)) .oF:=by
 subst hl;induction L with
 |nil=>simp_all
 |cons x L ih=>
  intro i j hi hj;have hx:=hs x;cases i with
  |zero=>
   simp only[pw,Wc,List.getD_cons_zero,Nat.zero_mul,TX]
   grind
  |succ i=>
   have h:=ih i j (by simpa using hi) hj;simp only[pw,Wc,V',TX]at h ⊢
   grind
def BH{α:Type}(n k:Int)(a b:S6 α):S6 α:=if n=k then a else b
theorem ZZp{k:Int}{a b:S6 α}(hf:BH n k a b=S8 r):(n=k/\a=S8 r)\/(n≠k/\b=S8 r):=by
 unfold BH at hf
 grind
theorem vC{β:Type}{f:α->S6 β}{r:β}(h:x.bind f=S8 r):∃y,x=S8 y/\f y=S8 r:=by
 cases x with
 |none=>cases h
 |some y=>exact⟨y,rfl,h⟩
def n_(a b:Int):Int:=TZ.wrap (a+b)
def pR(a b:Int):Int:=TZ.wrap (a-b)
def u6(a b:Int):Int:=TZ.wrap (a*b)
theorem ZBE(h : -9223372036854775808<=a)(h':a<=9223372036854775807):TZ.wrap a=a:=IntWalk.i64_in a ⟨h,h'⟩
theorem s_(h : -9223372036854775808<=a+b)(h':a+b<=9223372036854775807):n_ a b=a+b:=ZBE h h'
theorem tq(h : -9223372036854775808<=a-b)(h':a-b<=9223372036854775807):pR a b=a-b:=ZBE h h'
theorem La(h : -9223372036854775808<=a*b:=by omega)(h':a*b<=9223372036854775807:=by omega):u6 a b=a*b:=ZBE h h'
theorem RD{e:α->S5 C}(l:S5 α)(k:Nat):∀i j,i<k->j<sz->pw e d (l.take k) i j=pw e d l i j:=by
 intro i j hi _;simp only[pw,Ty,Ur,aFa hi]
theorem ZBL(l:S5 α)(k:Nat)(h:k<=S7 l):(l.take k).length=k:=by simp;omega
def Ak{α:Type}(l:S5 α)(lo k:Nat)(z:α):S5 α:=l.take lo++V6 k z++l.drop (lo+k)
theorem Oz(l:S5 α)(lo k:Nat)(z:α)(h:lo+k<=S7 l:=by omega):(Ak l lo k z).length=S7 l:=by simp[Ak];omega
theorem ZKP(l:S5 α)(lo k:Nat)(z d:α)(h:lo+k<=S7 l)(i:Nat):(Ak l lo k z).getD i d=if lo<=i/\i<lo+k then z else l.getD i d:=by
 simp only[Ak,Ty];by_cases h1:i<lo
 all_goals grind
theorem ZDc{e:α->S5 C}(l:S5 α)(lo k:Nat)(h:lo+k<=S7 l):∀i j,i<R->j<sz->(i<lo\/lo+k<=i)->pw e d (Ak l lo k z) i j=pw e d l i j:=by
 intro i j _ _ hi;simp only[pw,ZKP l lo k z d h];rw[aE_ (by omega)]
theorem ZDd{e:α->S5 C}{zs:S5 C}(l:S5 α)(lo k:Nat)(h:lo+k<=S7 l)(hz:∀j,j<sz->zJ (zs.getD j .oF) ((e z).getD j .oF)):∀i j,i<k->j<sz->zJ (zs.getD j .oF) (pw e d (Ak l lo k z) (lo+i) j):=by
 intro i j hi hj;simp only[pw,ZKP l lo k z d h];simp_all
def xP{α:Type}(l:S5 α)(i j k:Nat):S5 α:=l.take i++(l.drop j).take k++l.drop (i+k)
theorem ZWT(l:S5 α)(i j k:Nat)(h:j+k<=S7 l/\i+k<=S7 l):(xP l i j k).length=S7 l:=by simp[xP];omega
theorem ZWU(l:S5 α)(i j k:Nat)(d:α)(h:j+k<=S7 l/\i+k<=S7 l)(p:Nat):(xP l i j k).getD p d=if i<=p/\p<i+k then l.getD (j+(p-i)) d else l.getD p d:=by
 simp only[xP,Ty];by_cases h1:p<i
 all_goals grind
theorem alI{e:α->S5 C}(l:S5 α)(i j k:Nat)(h:j+k<=S7 l/\i+k<=S7 l):∀p q,p<R->q<sz->(p<i\/i+k<=p)->pw e d (xP l i j k) p q=pw e d l p q:=by
 intro p q _ _ hp;simp only[pw,ZWU l i j k d h];rw[aE_ (by omega)]
theorem alH{e:α->S5 C}(l:S5 α)(i j k:Nat)(h:j+k<=S7 l/\i+k<=S7 l):∀p q,p<k->q<sz->pw e d (xP l i j k) (i+p) q=pw e d l (j+p) q:=by
 intro p q hp _;simp only[pw,ZWU l i j k d h];simp_all
def vi{κ ν:Type}[DecidableEq κ](l:S5 (κ×ν))(k:κ)(z:ν):ν:=match l with
 | []=>z
 |p :: r=>if p.1=k then p.2 else vi r k z
def zZ{κ ν:Type}[DecidableEq κ](l:S5 (κ×ν))(k:κ)(v:ν):S5 (κ×ν):=match l with
 | []=>[(k,v)]
 |p :: r=>if p.1=k then(k,v) :: r else p :: zZ r k v
def sJ{κ ν:Type}(kv:κ->Value)(vv:ν->V)(l:S5 (κ×ν)):S5 (Value×V):=l.map λp=>(kv p.1,vv p.2)
theorem ZFZ{κ ν:Type}[DecidableEq κ]{kv:κ->Value}{vv:ν->V}(hi:∀a b,kv a=kv b->a=b){zv:Value}{z:ν}(hz:∀S w m,o6 S w m (vv z) zv)(k:κ):∀l:S5 (κ×ν),Ez (sJ kv vv l) (kv k) zv (vv (vi l k z))
 | []=>.inr ⟨by simp[sJ],hz⟩
 |p :: r=>by
  unfold vi
  by_cases h:p.1=k
  .rw[aFa h]
   exact .inl ⟨(kv p.1,vv p.2),by simp[sJ],by rw[h],λ_ _ _ _ h=>h⟩
  .rw[aE_ h]
   rcases ZFZ hi hz k r with⟨q,h1,h2,h3⟩|⟨h1,h2⟩
   .exact .inl ⟨q,by simp only[sJ,UG,VJ];exact .inr h1,h2,h3⟩
   .refine .inr ⟨λq hq=>?_,h2⟩
    simp only[sJ,UG,VJ]at hq
    rcases hq with rfl|hq
    .grind
    .exact h1 q hq
def A7{κ ν:Type}[DecidableEq κ](l:S5 (κ×ν))(k:κ)(z:ν):S5 (κ×ν):=match l with
 | []=>[(k,z)]
 |p :: r=>if p.1=k then p :: r else p :: A7 r k z
def A8{κ ν:Type}[DecidableEq κ](l:S5 (κ×ν))(k:κ):Nat:=match l with
 | []=>0
 |p :: r=>if p.1=k then 0 else A8 r k+1
theorem al9(z:Value):∀S w m x,o6 S w m (.one (.lit z)) x->x=z:=λS w m x h=>by
 cases(show oI S w m (.lit z) x from h)
 rfl
theorem ac0{κ ν:Type}[DecidableEq κ]{kv:κ->Value}{vv:ν->V}(hi:∀a b,kv a=kv b->a=b){zv:Value}{z:ν}(hz:∀S w m,o6 S w m (vv z) zv)(cJ:∀S w m x,o6 S w m (vv z) x->x=zv)(k:κ):∀l:S5 (κ×ν),Aa (sJ kv vv l) (kv k) zv ((A8 l k:Nat):Int) (sJ kv vv (A7 l k z))
 | []=>.inr ⟨by simp[sJ],rfl,vv z,hz,cJ,rfl⟩
 |p :: r=>by
  unfold A7 A8
  split
  .rename_i h
   exact .inl ⟨0,by simp[sJ,h],rfl,rfl⟩
  .rename_i h
   rcases ac0 hi hz cJ k r with⟨j,h1,h2,h3⟩|⟨h1,h2,v,h3,h5,h4⟩
   .exact .inl ⟨j+1,by simpa[sJ]using h1,by omega,by simp only[sJ,UG]at h3 ⊢;rw[h3]⟩
   .refine .inr ⟨λq hq=>?_,by simp only[sJ,UG,List.length_cons,List.length_map]at h2 ⊢;omega,v,h3,h5,by simp only[sJ,UG,Wf]at h4 ⊢;rw[h4]⟩
    simp only[sJ,UG,VJ]at hq
    rcases hq with rfl|hq
    .grind
    .exact h1 q hq
theorem ac2{κ ν:Type}[DecidableEq κ]{kv:κ->Value}{vv:ν->V}(k:κ)(z v:ν):∀l:S5 (κ×ν),MSt (sJ kv vv (A7 l k z)) ((A8 l k:Nat):Int) (vv v) (sJ kv vv (zZ l k v))
 | []=>⟨0,rfl,(kv k,vv z),rfl,rfl⟩
 |p :: r=>by
  unfold A7 A8 zZ
  split
  .rename_i h
   exact⟨0,rfl,(kv p.1,vv p.2),rfl,by simp[sJ,h]⟩
  .rename_i h
   obtain⟨i,h1,q,h2,h3⟩:=ac2 (kv:=kv) (vv:=vv) k z v r
   exact⟨i+1,by omega,q,by simpa[sJ]using h2,by simp only[sJ,UG,List.set_cons_succ]at h3 ⊢;rw[h3]⟩
theorem ZKE{kv:κ->Value}{l:S5 (κ×ν)}{k':Value}(h:k'∈(sJ kv vv l).map (·.1)):∃a,k'=kv a:=by
 simp only[sJ,List.map_map,Uf]at h
 grind
theorem ZIP{P:Program}{kt:TypeId}[DecidableEq κ]{kv:κ->Value}{fs:Array Field}(hu:P.underlying kt=S8 (.struct fs))(cW:∀a,∃xs,kv a=.agg xs)(dp:Nat)(hdp:dp<=10000)(aEi:∀e n k w,(Instr.checkKey e (n+dp) kt (kv k)).run P w=.ok () w)
  (heq:∀n a b w,(Op.equalIn (n+dp) kt (kv a) (kv b)).run P w=.ok (decide (a=b)) w) (mP:∀a b,kv a=kv b->a=b) (c6:∀k,Instr.sameBits 10000 (kv k) (kv k)=Tl) (k:κ) (l:S5 (κ×ν)):xU P kt (kv k) ((sJ kv vv l).map (·.1)):=by
 have e9:10000=(10000-dp)+dp:=by omega
 refine⟨λe w=>by grind,⟨_,hu,λk' hk=>?_⟩,λk' hk w=>?_,c6 k⟩
 .obtain⟨a,rfl⟩:=ZKE hk;obtain⟨xs,h1⟩:=cW k;obtain⟨ys,h2⟩:=cW a;rw[h1,h2];exact .inl rfl
 .obtain⟨a,rfl⟩:=ZKE hk;refine⟨decide (k=a),?_,by grind⟩;simp only[Op.equal,Op.maxDepth]
  grind
def C.isLit:C->Bool | .lit _=>Tl|_=>Tm
theorem On{e:α->S5 C}(h:∀a,(e a).all C.isLit=Tl)(hl:∀a,(e a).length=sz)(l:S5 α)(n:Nat):∀i j,i<n->j<sz->∃x,pw e d l i j=.lit x:=by
 intro i j _ hj;simp only[pw];have h1:j<(e (l.getD i d)).length:=by rw[hl];exact hj
 have h2:=Tt.1 (h (l.getD i d)) _ (List.getElem_mem h1);rw[Ty,List.getElem?_eq_getElem h1];simp only[T4];generalize (e (l.getD i d))[j]=c at h2;cases c<;>simp only[C.isLit]at h2<;>try (cases h2;done)
 exact⟨_,rfl⟩
end
section
variable{α β:Type}{a b:Int}{c:Prop}{t e:α}{n:Nat}
theorem pO[Decidable c](h:¬c:=by omega):(if c then t else e)=e:=aE_ h
theorem p7[Decidable c](h:c:=by omega):(if c then t else e)=t:=aFa h
theorem sC(n:Nat)(h:0<n:=by omega):∃x,n=x+1:=⟨n-1,by omega⟩
theorem xZ(l:S5 α)(d:α)(i:Nat)(h:i<S7 l:=by omega):l.drop i=l.getD i d :: l.drop (i+1):=by
 simp_all
theorem ua(l:S5 α)(d:α)(i:Nat)(h:i<S7 l:=by omega):l.getD i d=l[i]:=by simp_all
theorem wy(l:S5 α)(d:α)(i:Nat)(h:i<S7 l:=by omega):l.getD i d∈l:=by simp_all
def rM{α:Type}(p:α->Bool):S5 α->Nat->Int | [],_=>-1|x :: r,i=>if p x then(i:Int)else rM p r (i+1)
theorem Gn{α:Type}(p:α->Bool):∀(l:S5 α)(i:Nat),rM p l i<0↔∀x∈l,p x=Tm
 | [],i=>by simp[rM]
 |x :: r,i=>by
  simp only[rM]
  split
  .simp_all
  .rename_i h
   rw[Gn p r (i+1)]
   simp_all
theorem ZBk{α:Type}(p:α->Bool):∀(l:S5 α)(i:Nat),0<=rM p l i->∃k,k<S7 l/\rM p l i=((i+k:Nat):Int)/\(∃x,l[k]?=S8 x/\p x=Tl)/\∀j,j<k->∃x,l[j]?=S8 x/\p x=Tm
 | [],i,h=>by simp[rM]at h
 |x :: r,i,h=>by
  simp only[rM]at h ⊢
  split
  .rename_i hp
   exact⟨0,by simp,by simp,⟨x,rfl,hp⟩,λj d=>by omega⟩
  .rename_i hp
   rw[aE_ hp]at h
   obtain⟨k,e,g,⟨y,o,t⟩,u⟩:=ZBk p r (i+1) h
   refine⟨k+1,by simp;exact e,by rw[g];congr 1;omega,⟨y,by simpa using o,t⟩,λj d=>?_⟩
   cases j with
   |zero=>simp_all
   |succ j=>simp_all
theorem Oe{α:Type}(p:α->Bool):∀(l:S5 α)(i:Nat),rM p l i<((i+S7 l:Nat):Int)
 | [],i=>by simp only[rM];omega
 |x :: r,i=>by
  simp only[rM]
  split
  .simp;omega
  .have:=Oe p r (i+1)
   simp at this ⊢;omega
theorem amx(p:α->Bool)(l:S5 α)(i:Nat) : -1<=rM p l i:=by
 rcases Int.lt_or_le (rM p l i) 0 with h|h
 .induction l generalizing i with
  |nil=>simp[rM]
  |cons x r ih=>
   simp only[rM]at h ⊢
   grind
 .omega
theorem ZzM{α:Type}(p:α->Bool):∀(l:S5 α)(i:Nat),(rM p l i<0->l.takeWhile (λx=>!p x)=l/\l.dropWhile (λx=>!p x)=[])/\(0<=rM p l i->i<=(rM p l i).toNat/\l.takeWhile (λx=>!p x)=l.take ((rM p l i).toNat-i)/\l.dropWhile (λx=>!p x)=l.drop ((rM p l i).toNat-i))
 | [],i=>by simp[rM]
 |x :: r,i=>by
  obtain⟨g,d⟩:=ZzM p r (i+1)
  simp only[rM]
  cases hp:p x
  .simp only[Bool.false_eq_true,aFi,List.takeWhile_cons,List.dropWhile_cons,hp,Bool.not_false,aFg]
   refine⟨λh=>?_,λh=>?_⟩
   .simp_all
   .obtain⟨j,o,t⟩:=d h
    have e:(rM p r (i+1)).toNat-i=((rM p r (i+1)).toNat-(i+1))+1:=by omega
    grind
  simp_all
def sK(a b:Int):Int:=if a<b then -1 else if b<a then 1 else 0
def xm(a b:Int):Int:=if a=0 then b else a
theorem EX:sK a b=0↔a=b:=by unfold sK;omega
theorem Q3:sK a b<0↔a<b:=by unfold sK;omega
theorem Q2:0<sK a b↔b<a:=by unfold sK;omega
theorem o8(p:Prop)[Decidable p](a b:α):(bif decide p then a else b)=if p then a else b:=by simp_all
theorem o9{p:Prop}[Decidable p](h:p)(k:S6 α):f_ p k=k:=aFa h
theorem EZ(h:n<=100000:=by omega):n<=maxLen:=by simp only[maxLen];omega
theorem Ay(h:0<=a)(h':a<=18446744073709551615):Wn.wrap a=a:=by
 simp only[US,UB,Ut];simp;omega
theorem ZOO(a b:Nat)(ha:a<2 ^ 64)(hb:b<2 ^ 64):((Tz (UB .u64) (a:Int)) &&& (Tz (UB .u64) (b:Int))).toNat=a &&& b:=by
 have d:∀c:Nat,c<2 ^ 64->(Tz 64 (c:Int)).toNat=c:=λc e=>by
  simp_all
 show (Tz 64 (a:Int) &&& Tz 64 (b:Int)).toNat=a &&& b
 grind
theorem pY{i:Nat}(hi:i<n)(d:n<=maxLen):n_ (i:Int) 1=((i+1:Nat):Int):=by
 unfold maxLen at d;rw[s_ (by omega) (by omega)];omega
theorem CM(l:S5 α)(d:α)(p:α->Bool)(hl:S7 l<=maxLen)(F:Nat->Int->S6 β)(g:Int->β)
  (j:∀fu (i:Nat),i<S7 l->F (fu+1) (i:Int)=if p (l.getD i d)then S8 (g i)else F fu (n_ (i:Int) 1)) (o:∀fu,F (fu+1) (S7 l:Int)=S8 (g (-1))) :
  ∀fu (i:Nat),i<=S7 l->S7 l-i<fu->F fu (i:Int)=S8 (g (rM p (l.drop i) i)):=by
 intro fu;induction fu with
 |zero=>intro i _ h;omega
 |succ fu ih=>
  intro i hi t;by_cases h:i<S7 l
  .rw[j fu i h,xZ l d i h];simp only[rM];split
   .rfl
   .rw[pY h hl]
    grind
  .have e:i=S7 l:=by omega
   subst e;rw[o,List.drop_length];rfl
theorem ZEn(l:S5 α)(d:α)(p:α->Bool)(hl:S7 l<=maxLen)(F:Nat->Int->Int->S6 Int)
  (e:∀fu (i n:Nat),i<S7 l->F (fu+1) (n:Int) (i:Int)=if p (l.getD i d)then F fu (n_ (n:Int) 1) (n_ (i:Int) 1)else F fu (n:Int) (n_ (i:Int) 1)) (g:∀fu n,F (fu+1) n (S7 l:Int)=S8 n) :
  ∀fu (i n:Nat),i<=S7 l->n<=i->S7 l-i<fu->F fu (n:Int) (i:Int)=S8 ((n+(l.drop i).countP p:Nat):Int):=by
 intro fu;induction fu with
 |zero=>intro i _ _ _ h;omega
 |succ fu ih=>
  intro i n hi j o;by_cases h:i<S7 l
  .rw[e fu i n h,xZ l d i h,List.countP_cons,pY h hl];split
   .rename_i hp;rw[pY (show n<l.length by omega) hl,ih (i+1) (n+1) (by omega) (by omega) (by omega)];congr 2;omega
   grind
  grind
theorem ZPV(f:α->α)(d:α)(n:Nat)(hl:n<=maxLen)(F:Nat->Int->S5 α->S6 β)(g:S5 α->S6 β)
  (j:∀fu (i:Nat) (w:S5 α),S7 w=n->i<n->F (fu+1) (i:Int) w=F fu (n_ (i:Int) 1) (w.set i (f (w.getD i d)))) (o:∀fu w,S7 w=n->F (fu+1) (n:Int) w=g w) :
  ∀fu (i:Nat) (w:S5 α),S7 w=n->i<=n->n-i<fu->F fu (i:Int) w=g (w.take i++(w.drop i).map f):=by
 intro fu;induction fu with
 |zero=>intro i _ _ _ h;omega
 |succ fu ih=>
  intro i w e hi t;by_cases h:i<n
  .rw[j fu i w e h,pY h hl,ih (i+1) _ (by simp[e]) (by omega) (by omega)];congr 1;have hwi:i<S7 w:=by omega
   apply List.ext_getElem?;intro k;rw[V9,V9];simp only[List.length_take,List.length_set,Ur,List.getElem?_map,List.getElem?_drop,List.getElem?_set];rw[Wi (by omega),Wi (by omega)];by_cases u:k<i
   .grind
   .by_cases y:k=i
    all_goals grind
  grind
end
theorem ZOI{P:Program}{f:FuncId}{sz n:Nat}{c:Nat->Nat->C}{h1:S5 (Nat×B)}{res:V}(hf:xc P f)
  (eF:n=0->∀cap,rX P f [] [.one (.lit (.slice S_ 0 cap))] h1 res) (mV:n=0->∀x cap,rX P f [] [.one (.lit (.slice (S8 x) 0 cap))] h1 res) (kV:0<n->rX P f [] [.one (.sl sz n c)] h1 res) :
  rX P f [] [.one (.sl sz n c)] h1 res:=by
 rcases Nat.eq_zero_or_pos n with h0|h0
 .refine⟨hf,λno S m w vs hS bu pQ rr=>?_⟩;obtain⟨hl,rr⟩:=rr;obtain⟨v,hv,hr⟩:=rr 0 _ rfl;have tV:vs=[v]:=by
   match vs,hl with
   | [y],_=>simpa using hv
  subst tV;cases hr with
  |sl b off qe rN ha hc Oc hr=>
   rename_i a cap;subst h0;cases a with
   |some x0=>exact(mV rfl x0 cap).2 no S m w _ hS bu pQ ⟨rfl,λj v hj=>by
     match j,hj with
     | 0,hj=>cases hj;exact⟨_,rfl,oI.lit⟩⟩
   |none=>exact(eF rfl cap).2 no S m w _ hS bu pQ ⟨rfl,λj v hj=>by
     match j,hj with
     | 0,hj=>cases hj;exact⟨_,rfl,oI.lit⟩⟩
 .exact kV h0
end Go.Proofs.YtmcnjofonpkfmaaGreat
