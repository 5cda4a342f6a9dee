import Derived.Test.YtlpdogaifdeomaaGreatFAmQ
namespace Go.Proofs.YtlpdogaifdeomaaGreat
open Go.RowKit
set_option linter.unusedSimpArgs false
set_option linter.unusedVariables false
def ZtY:List Operand->List Nat | []=>[] | .tmp t :: l=>t :: ZtY l|_ :: l=>ZtY l
def ZfB(ops:Array Oper)(o:Oper):List Nat:=ZtY (Zcv o.op)++match o.guard with
 |none=>[]
 |some (j,_)=>match (ops[j]?).bind (·.dst)with
  |some t=>[t]
  |none=>[]
theorem ZqR{t:Nat}:∀{l:List Operand},Operand.tmp t∈l->t∈ZtY l
 | [],h=>by cases h
 |x :: l,h=>by
  rcases List.mem_cons.1 h with rfl|h
  .simp[ZtY]
  .have:=ZqR h
   cases x<;>simp[ZtY,this]
theorem ZmT{st st2:St}{ops:Array Oper}{o:Oper}(h:∀t∈ZfB ops o,st2.get t=st.get t):∀x∈Zcv o.op,evo st2 x=evo st x:=by
 intro x hx;cases x with
 |tmp t=>exact h t (List.mem_append.2 (.inl (ZqR hx)))
 |_=>rfl
theorem Zmi{st st2:St}{ops:Array Oper}{o:Oper}(h:∀t∈ZfB ops o,st2.get t=st.get t):Zhe ops st2 o=Zhe ops st o:=by
 unfold Zhe;split
 .rfl
 .rename_i j want hg;split
  .rename_i t ht;rw[h t (by unfold ZfB;rw[hg];simp[ht])]
  .rfl
theorem Zrg{P:Program}{N:Nat}{T:Tab}{st:St}{o:Oper}{ra:RA}{i:Nat}{p:V×List Prop×St}(hc:ZeT ra i o.op=3)(h:evOp P N T o st (ZcL ra.an i)=some p):Zdr N (o.dst.getD 0) st=true:=by
 obtain⟨dst,op,type,eT,after,guard⟩:=o;simp only at hc;have cF:∀{l},ZqI N st (dst.getD 0) l=some p->Zdr N (dst.getD 0) st=true:=by
  intro l hb;unfold ZqI at hb;split at hb
  .assumption
  .cases hb
 cases op<;>(try (simp only[ZeT]at hc))<;>(try (exact absurd hc (by decide)))
 case move x=>split at hc<;>cases hc
 case assign x=>split at hc<;>cases hc
 case alloc e=>
  simp only[evOp]at h
  repeat' split at h
  all_goals first | (cases h;done)|exact cF h
 case box e x=>
  simp only[evOp]at h
  repeat' split at h
  all_goals first | (cases h;done)|exact cF h
 case makeSlice t l c=>
  split at hc
  .cases hc
  rename_i hx;simp only[evOp]at h;split at h
  .rename_i hk;exact absurd hk (hx _ _)
  .cases h
  unfold Znu at h
  repeat' split at h
  all_goals first | (cases h;done)|assumption
 case buildSlice t n ps=>
  split at hc
  .rename_i n' c' bu;simp only[evOp]at h;unfold Zfd at h;rw[bu]at h
   repeat' split at h
   all_goals first | (cases h;done)|assumption | (rename_i hx;exact absurd rfl (hx _ _))
  .cases hc
 case call c=>
  obtain⟨callee,args,bw⟩:=c;cases callee with
  |value f=>simp only[ZeT]at hc;cases hc
  |invoke r n=>simp only[ZeT]at hc;cases hc
  |builtin b=>
   cases b<;>(try (simp only[ZeT]at hc))<;>(try (exact absurd hc (by decide)))
   case append=>
    split at hc
    .cases hc
    rename_i bu;simp only[evOp]at h;split at h;rotate_left
    .cases h
    split at h;rotate_left
    .cases h
    unfold ZkO at h
    repeat' split at h
    all_goals first | (cases h;done)|assumption
theorem ZEu{P:Program}{N:Nat}{T:Tab}{ops:Array Oper}{ra:RA}{i:Nat}{o:Oper}{st st1 st2:St}{v:V}{obl:List Prop}(hc:ZeT ra i o.op<=3)(hu:∀t∈ZfB ops o,st2.get t=st.get t)
  (hh:ZeT ra i o.op≠0->st2.heap=st.heap) (hq:ZeT ra i o.op=3->Zdr N (o.dst.getD 0) st=true->Zdr N (o.dst.getD 0) st2=true) (h:ZnD P N T ops ra i o st=some (v,obl,st1)) :
  st1.env=st.env/\(ZeT ra i o.op<=1->st1.heap=st.heap)/\ZnD P N T ops ra i o st2=some (v,obl,⟨st2.env,if ZeT ra i o.op<=1 then st2.heap else st1.heap⟩):=by
 unfold ZnD at h ⊢;rw[Zmi hu];split at h
 .cases h
 .cases h;refine⟨rfl,fun _=>rfl,?_⟩;split
  .rfl
  .rename_i cD;rw[<-hh (by omega)]
 .have he:=ZmT hu;split at h
  .cases h
  rename_i v0 c7 st0 bj;split at h
  .cases h
  rename_i v' obl' hd;split at h;rotate_left
  .cases h
  rename_i v'' gf;split at h;rotate_left
  .cases h
  rename_i v3 obl3 fP;cases h;refine⟨ZGW bj,?_⟩;have gg:ZeT ra i o.op=0\/ZeT ra i o.op=1\/ZeT ra i o.op=2\/ZeT ra i o.op=3:=by omega
  rcases gg with cD|cD|cD|cD
  .have e1:=ZPT (P:=P) (N:=N) (T:=T) (st:=st) (st2:=st) cD (fun x _=>rfl);have e2:=ZPT (P:=P) (N:=N) (T:=T) (st:=st) (st2:=st2) cD he;rw[bj]at e1 e2;simp only[Option.map_some,Option.some.injEq,Prod.mk.injEq,true_and]at e1;subst e1;refine⟨fun _=>rfl,?_⟩;rw[e2];simp only[Option.map_some,hd,gf,fP,cD];rfl
  .have e1:=ZPU (P:=P) (N:=N) (T:=T) (st:=st) (st2:=st) cD (fun x _=>rfl) rfl;have e2:=ZPU (P:=P) (N:=N) (T:=T) (st:=st) (st2:=st2) cD he (hh (by omega));rw[bj]at e1 e2;simp only[Option.map_some,Option.some.injEq,Prod.mk.injEq,true_and]at e1;subst e1;refine⟨fun _=>rfl,?_⟩;rw[e2];simp only[Option.map_some,hd,gf,fP,cD];rfl
  .have e2:=ZRN (P:=P) (N:=N) (T:=T) (st:=st) (st2:=st2) cD he (hh (by omega));rw[bj]at e2;refine⟨fun h=>by omega,?_⟩;rw[e2];simp only[Option.map_some,hd,gf,fP,cD];rfl
  .have hqq:=Zrg cD bj;have e2:=ZRO (P:=P) (N:=N) (T:=T) (st:=st) (st2:=st2) cD he (hh (by omega)) ((hq cD hqq).trans hqq.symm);rw[bj]at e2;refine⟨fun h=>by omega,?_⟩;rw[e2];simp only[Option.map_some,hd,gf,fP,cD];rfl
theorem ZHU{P:Program}{N:Nat}{T:Tab}{ops:Array Oper}{ra:RA}{i:Nat}{o:Oper}{st st1 st2:St}{v:V}{obl:List Prop}(hc:ZeT ra i o.op=1)(hu:∀t∈ZfB ops o,st2.get t=st.get t)
  (hm:∀x∈Zcv o.op,Has st st2 fun id=>(evo st x).says id) (h:ZnD P N T ops ra i o st=some (v,obl,st1)):ZnD P N T ops ra i o st2=some (v,obl,st2):=by
 unfold ZnD at h ⊢;rw[Zmi hu];split at h
 .cases h
 .cases h;rfl
 .have he:=ZmT hu;split at h
  .cases h
  rename_i v0 c7 st0 bj;split at h
  .cases h
  rename_i v' obl' hd;split at h;rotate_left
  .cases h
  rename_i v'' gf;split at h;rotate_left
  .cases h
  rename_i v3 obl3 fP;cases h;have e2:=ZRP (P:=P) (N:=N) (T:=T) (st:=st) (st2:=st2) hc he hm bj;simp only[e2,hd,gf,fP]
theorem ZKu{P:Program}{N:Nat}{T:Tab}{ops:Array Oper}{ra:RA}{i:Nat}{o:Oper}{st st1:St}{v:V}{obl:List Prop}(hc:ZeT ra i o.op=3)(h:ZnD P N T ops ra i o st=some (v,obl,st1)) :
  st1=st\/(Zdr N (o.dst.getD 0) st=true/\∀id b,hget st1.heap id=some b->id=o.dst.getD 0\/hget st.heap id=some b):=by
 unfold ZnD at h;split at h
 .cases h
 .cases h;exact .inl rfl
 .split at h
  .cases h
  rename_i v0 c7 st0 bj;split at h
  .cases h
  split at h;rotate_left
  .cases h
  split at h;rotate_left
  .cases h
  cases h;exact .inr ⟨Zrg hc bj,ZFi hc bj⟩
theorem ZcR{N:Nat}{st:St}{d:Nat}(h:Zdr N d st=true):Ziu st d N=true/\Zie d st.heap=true:=by
 unfold Zdr at h;split at h
 .rename_i h1;exact⟨h1,h⟩
 .cases h
theorem ZEv{P:Program}{N:Nat}{T:Tab}{ops:Array Oper}{ra:RA}{i:Nat}{o:Oper}{st st1:St}{v:V}{obl:List Prop}(hc:ZeT ra i o.op=3)(hk:ZGr o.op=true)(h:ZnD P N T ops ra i o st=some (v,obl,st1)) :
  ∀id b,hget st.heap id=some b->hget st1.heap id=some b:=by
 unfold ZnD at h;split at h
 .cases h
 .cases h;exact fun _ _ h=>h
 .split at h
  .cases h
  rename_i v0 c7 st0 bj;split at h
  .cases h
  split at h;rotate_left
  .cases h
  split at h;rotate_left
  .cases h
  cases h;exact ZCt hc hk (Zjd (ZcR (Zrg hc bj)).2).1 bj
def Zho(o:Oper)(ha:HA):Bool:=match ha.lend,ha.new,ha.h1,o.guard with
 | [],[(c,d)],[(c',.rows _ _ _ _)],none=>Nat.beq d (o.dst.getD 0)&&Nat.beq c c'&&Nat.beq c 99999
 |_,_,_,_=>false
def clsX(ra:RA)(i:Nat)(o:Oper):Nat:=match ZcL ra.hc i with
 |none=>ZeT ra i o.op
 |some ha=>match Zho o ha with
  |true=>3
  |false=>match ZcL ra.hc (i+1000)with
   |some _=>5
   |none=>match ha.new with
    | []=>2
    |_ :: _=>4
def Zvy(ra:RA)(i:Nat)(o:Oper):Bool:=match ZcL ra.hc i with
 |none=>ZGr o.op
 |some _=>true
def Zet(P:Program)(N:Nat)(ops:Array Oper)(ha:HA)(an:Option Ans)(o:Oper)(st:St):Option (V×List Prop×St):=match Zhe ops st o with
 |some true=>match o.op with
  | .call { callee:=c,args:=args,argTypes:=_ }=>Zhf P N st c args.toList ha an
  |_=>none
 |some false=>some (.one (.lit undef),[],st)
 |none=>none
def Zif(P:Program)(N:Nat)(ops:Array Oper)(ha:HA)(an:Option Ans)(o:Oper)(st:St):Option (V×List Prop×St):=match Zhe ops st o with
 |some true=>match o.op with
  | .call { callee:=c,args:=args,argTypes:=_ }=>ZhH P N st c args.toList ha an
  |_=>none
 |some false=>some (.one (.lit undef),[],st)
 |none=>none
def Zdt(P:Program)(N:Nat)(T:Tab)(ops:Array Oper)(ra:RA)(i:Nat)(o:Oper)(st:St):Option (V×List Prop×St):=match ZcL ra.hc i with
 |none=>ZnD P N T ops ra i o st
 |some ha=>match ZcL ra.hc (i+1000)with
  |none=>Zet P N ops ha (ZcL ra.an i) o st
  |some _=>Zif P N ops ha (ZcL ra.an i) o st
theorem ZHT{P:Program}{N:Nat}{T:Tab}{ops:Array Oper}{ra:RA}{i:Nat}{o:Oper}{st st1 st2:St}{v:V}{obl:List Prop}(h:Zdt P N T ops ra i o st=some (v,obl,st1))(hp:putO N st1 o.dst v=some st2):Ztu P N T ops ra i o st=some (st2,obl):=by
 unfold Zdt at h;unfold Ztu;split at h
 .rename_i hk;rw[hk];simp only;unfold ZGq;simp only[h,hp]
 .rename_i ha hk;rw[hk];simp only;split at h
  .unfold Zet at h;unfold ZBk;split at h
   .split at h
    .rename_i h1 _ c args bw cE;simp only[h1,cE,Zwh (Zwi h),hp]
    .cases h
   .rename_i h1;cases h;simp only[h1,hp]
   .cases h
  .unfold Zif at h;unfold ZBk;split at h
   .split at h
    .rename_i h1 _ c args bw cE;simp only[h1,cE,Zwh h,hp]
    .cases h
   .rename_i h1;cases h;simp only[h1,hp]
   .cases h
theorem Zsb{P:Program}{N:Nat}{st st1:St}{c:Callee}{args:List Operand}{ha:HA}{an:Option Ans}{v:V}{obl:List Prop}(h:Zhf P N st c args ha an=some (v,obl,st1)):st1.env=st.env:=by
 unfold Zhf at h;split at h
 .split at h
  .cases h;rfl
  .cases h
 .cases h
theorem ZCy{P:Program}{N:Nat}{st st1:St}{c:Callee}{args:List Operand}{ha:HA}{an:Option Ans}{v:V}{obl:List Prop}(h:ZhH P N st c args ha an=some (v,obl,st1)):st1.env=st.env:=by
 unfold ZhH at h;split at h
 .rename_i r hr;cases h;exact Zsb hr
 .unfold ZlA at h;split at h
  .split at h
   .split at h
    .cases h;rfl
    .cases h
   .cases h
  .cases h
theorem ZqX{P:Program}{N:Nat}{T:Tab}{ops:Array Oper}{ra:RA}{i:Nat}{o:Oper}{st st1:St}{v:V}{obl:List Prop}(h:Zdt P N T ops ra i o st=some (v,obl,st1)):st1.env=st.env:=by
 unfold Zdt at h;split at h
 .unfold ZnD at h;split at h
  .cases h
  .cases h;rfl
  .split at h
   .cases h
   rename_i v0 c7 st0 bj;split at h
   .cases h
   split at h;rotate_left
   .cases h
   split at h;rotate_left
   .cases h
   cases h;exact ZGW bj
 .split at h
  .unfold Zet at h;split at h
   .split at h
    .exact Zsb h
    .cases h
   .cases h;rfl
   .cases h
  .unfold Zif at h;split at h
   .split at h
    .exact ZCy h
    .cases h
   .cases h;rfl
   .cases h
theorem ZkY{P:Program}{st st2:St}{c:Callee}{args:Array Operand}{bw:Array TypeId}{an:Option Ans}(h:∀x∈Zcv (.call { callee:=c,args:=args,argTypes:=bw }),evo st2 x=evo st x):ZlU P st2 c an=ZlU P st c an:=by
 cases c with
 |value f=>simp only[ZlU,ZkP,h f (by simp[Zcv])]
 |invoke r n=>simp only[ZlU,h r (by simp[Zcv])]
 |builtin b=>rfl
theorem ZoJ{c:Callee}{args:Array Operand}{bw:Array TypeId}:∀x∈args.toList,x∈Zcv (.call { callee:=c,args:=args,argTypes:=bw }):=by
 intro x hx;cases c<;>simp only[Zcv]<;>first|exact hx|exact List.mem_cons_of_mem _ hx
theorem ZQO{P:Program}{N:Nat}{ops:Array Oper}{ha:HA}{an:Option Ans}{o:Oper}{st st1:St}{v:V}{obl:List Prop}(hn:ha.new=[])(h:Zet P N ops ha an o st=some (v,obl,st1)) :
  st1.env=st.env/\∀st2:St,(∀t∈ZfB ops o,st2.get t=st.get t)->st2.heap=st.heap->Zet P N ops ha an o st2=some (v,obl,⟨st2.env,st1.heap⟩):=by
 unfold Zet at h;split at h
 .rename_i cM;split at h
  .rename_i c args bw cE;refine⟨Zsb h,fun st2 hu hh=>?_⟩;unfold Zet;rw[Zmi hu,cM];have he:=ZmT hu;rw[cE]at he ⊢;simp only;unfold Zhf at h ⊢;rw[ZkY he];have aJ:okHA N st2 ha=okHA N st ha:=by
    unfold okHA;rw[hn];rfl
   split at h;rotate_left
   .cases h
   rename_i g a b om bH;rw[Ziy (fun x hx=>he x (ZoJ x hx)) a b,aJ,hh];split at h;rotate_left
   .cases h
   rename_i h0 vs hp r q1 q2 q3 q4 q5;cases h;simp only[q1,q2,q3,q4,q5]
  .cases h
 .rename_i cM;cases h;refine⟨rfl,fun st2 hu hh=>?_⟩;unfold Zet;rw[Zmi hu,cM];simp only[<-hh]
 .cases h
theorem Zvr{d e:Nat}{b:B}(hne:e≠d)(hb:b.says d=false):∀{h:List (Nat×B)},Zie d h=true->Zie d (hins h e b)=true:=by
 have hf:Nat.beq e d=false:=by
  cases hx:Nat.beq e d
  .rfl
  .exact absurd (Nat.eq_of_beq_eq_true hx) hne
 intro h;induction h with
 |nil=>intro _;simp only[hins,Zie,hf,hb]
 |cons p r ih=>
  obtain⟨k,v⟩:=p;intro hq;have cK:=hq;simp only[Zie]at hq;split at hq
  .rename_i h1 h2;simp only[hins];split
   .simp only[Zie,hf,hb];exact hq
   .split
    .simp only[Zie,hf,hb,h1,h2];exact hq
    .simp only[Zie,h1,h2];exact ih hq
  .cases hq
theorem Zol{d e:Nat}{b:B}:∀{h:List (Nat×B)},hget h e=none->Zie d (hins h e b)=true->Zie d h=true
 | [],_,_=>rfl
 | (k,v) :: r,hn,hq=>by
  rw[Zbh]at hn
  split at hn
  .cases hn
  rename_i hke
  have hf:Nat.beq k e=false:=by
   cases hx:Nat.beq k e
   .rfl
   .exact absurd (Nat.eq_of_beq_eq_true hx) hke
  simp only[hins,hf]at hq;split at hq
  .simp only[Zie]at hq;split at hq
   .simp only[Zie];exact hq
   .cases hq
  .simp only[Zie]at hq ⊢;split at hq
   .rename_i h1 h2;exact Zol hn hq
   .cases hq
theorem ZGK{P:Program}{N:Nat}{ops:Array Oper}{ha:HA}{an:Option Ans}{o:Oper}{st st1:St}{v:V}{obl:List Prop}(hs:Zho o ha=true)(h:Zet P N ops ha an o st=some (v,obl,st1)) :
  ∃b:B,(∀k,b.says k=false)/\Zdr N (o.dst.getD 0) st=true/\st1=⟨st.env,hins st.heap (o.dst.getD 0) b⟩/\∀st2,(∀t∈ZfB ops o,st2.get t=st.get t)->Zdr N (o.dst.getD 0) st2=true ->
   Zet P N ops ha an o st2=some (v,obl,⟨st2.env,hins st2.heap (o.dst.getD 0) b⟩):=by
 unfold Zho at hs;split at hs;rotate_left
 .cases hs
 rename_i c d c' e sz len cc hl hn cR cM;simp only[Bool.and_eq_true]at hs;obtain⟨⟨e1,e2⟩,e3⟩:=hs;have e1:=Nat.eq_of_beq_eq_true e1;have e2:=Nat.eq_of_beq_eq_true e2;subst e2;obtain⟨lend,new,h1,res⟩:=ha;simp only at hl hn cR;subst hl hn cR;subst e1;have hg:∀st:St,Zhe ops st o=some true:=fun st=>by unfold Zhe;rw[cM]
 unfold Zet at h;rw[hg]at h;simp only at h;split at h;rotate_left
 .cases h
 rename_i f args bw cE;unfold Zhf at h;split at h;rotate_left
 .cases h
 rename_i g a b om bH;split at h;rotate_left
 .cases h
 rename_i h0 vs hp r aJ dQ bW dq hr;cases h;have hq:Zdr N (o.dst.getD 0) st=true:=by
  unfold okHA at aJ;split at aJ
  .rename_i q1 q2 q3 q4;exact List.all_eq_true.1 q4 _ (List.mem_cons_self)
  .cases aJ
 have jq:hp=[(o.dst.getD 0,.rows e sz len cc)]:=by
  have:gOut ⟨[],[(c,o.dst.getD 0)],[(c,.rows e sz len cc)],res⟩ c=some (o.dst.getD 0):=by
   simp only[gOut,Zqb,Nat.beq_refl]
  simp only[Zst,this,renB]at dq;exact(Option.some.inj dq).symm
 subst jq;refine⟨.rows e sz len cc,fun _=>rfl,hq,rfl,fun st2 hu cX=>?_⟩;have he:∀x∈Zcv (.call { callee:=f,args:=args,argTypes:=bw }),evo st2 x=evo st x:=fun x hx=>ZmT hu x (by rw[cE];exact hx);have cq:Zcl st2 args.toList a b=Zcl st args.toList a b:=Ziy (fun x hx=>he x (ZoJ x hx)) a b;have eV:okHA N st2 ⟨[],[(c,o.dst.getD 0)],[(c,.rows e sz len cc)],res⟩=true:=by
  unfold okHA at aJ ⊢;split at aJ
  .rename_i q1 q2 q3 q4;simp only at q1 q2 q3;simp only[q1,q2,q3,List.all_cons,List.all_nil,cX,Bool.and_true]
  .cases aJ
 have iQ:hIn (bwd ([]:List (Nat×Nat))) st2.heap ([]:List (Nat×Nat))=some h0:=dQ;unfold Zet;rw[hg];simp only[cE];unfold Zhf;rw[ZkY he,bH];simp only[eV,iQ,cq,bW,dq,hr];rfl
theorem Zzs{P:Program}{N:Nat}{st st2:St}{c:Callee}{args:Array Operand}{bw:Array TypeId}{ha:HA}{an:Option Ans}(he:∀x∈Zcv (.call { callee:=c,args:=args,argTypes:=bw }),evo st2 x=evo st x)(hh:st2.heap=st.heap)(aJ:okHA N st2 ha=okHA N st ha) :
  ZhH P N st2 c args.toList ha an=(ZhH P N st c args.toList ha an).map fun r=>(r.1,r.2.1,⟨st2.env,r.2.2.heap⟩):=by
 have cq:∀a b,Zcl st2 args.toList a b=Zcl st args.toList a b:=fun a b=>Ziy (fun x hx=>he x (ZoJ x hx)) a b;have e1:Zhf P N st2 c args.toList ha an=(Zhf P N st c args.toList ha an).map fun r=>(r.1,r.2.1,⟨st2.env,r.2.2.heap⟩):=by
  unfold Zhf;rw[ZkY he,aJ,hh];cases ZlU P st c an with
  |none=>rfl
  |some q=>
   obtain⟨g,a,b,om⟩:=q;simp only[cq];generalize okHA N st ha=x1;generalize hIn (bwd ha.lend) st.heap ha.lend=x2;generalize ZJW (bwd ha.lend) (Zcl st args.toList a b)=x3;generalize Zst (gOut ha) ha.h1=x4;generalize renV (gOut ha) ha.res=x5;cases x1<;>cases x2<;>cases x3<;>cases x4<;>cases x5<;>rfl
 have e2:ZlA P N st2 c args.toList ha an=(ZlA P N st c args.toList ha an).map fun r=>(r.1,r.2.1,⟨st2.env,r.2.2.heap⟩):=by
  obtain⟨lend,new,h1,res⟩:=ha;have hb:∀l,borA st2 l=borA st l:=Zwz hh;unfold ZlA;rw[ZkY he,aJ,hh];simp only[cq,hb];cases ZlU P st c an with
  |none=>split<;>rfl
  |some q=>
   obtain⟨g,a,b,om⟩:=q;simp only;generalize okHA N st ⟨lend,new,h1,res⟩=x1;generalize borA st (Zcl st args.toList a b)=x2;generalize Zst (gOut ⟨lend,new,h1,res⟩) h1=x3;generalize renV (gOut ⟨lend,new,h1,res⟩) res=x4;generalize ZvH h1=x5;split
   .cases x1<;>cases x2<;>cases x3<;>cases x4<;>cases x5<;>rfl
   .rfl
 unfold ZhH;rw[e1,e2];cases Zhf P N st c args.toList ha an<;>rfl
theorem ZQP{P:Program}{N:Nat}{ops:Array Oper}{ha:HA}{an:Option Ans}{o:Oper}{st st1:St}{v:V}{obl:List Prop}(hs:Zho o ha=true)(h:Zif P N ops ha an o st=some (v,obl,st1)) :
  ∃b:B,Zdr N (o.dst.getD 0) st=true/\st1=⟨st.env,hins st.heap (o.dst.getD 0) b⟩/\∀st2,(∀t∈ZfB ops o,st2.get t=st.get t)->st2.heap=st.heap->Zdr N (o.dst.getD 0) st2=true ->
   Zif P N ops ha an o st2=some (v,obl,⟨st2.env,st1.heap⟩):=by
 unfold Zho at hs;split at hs;rotate_left
 .cases hs
 rename_i c d c' e sz len cc hl hn cR cM;simp only[Bool.and_eq_true]at hs;obtain⟨⟨e1,e2⟩,e3⟩:=hs;have e1:=Nat.eq_of_beq_eq_true e1;have e2:=Nat.eq_of_beq_eq_true e2;subst e2;obtain⟨lend,new,h1,res⟩:=ha;simp only at hl hn cR;subst hl hn cR;subst e1;have hg:∀st:St,Zhe ops st o=some true:=fun st=>by unfold Zhe;rw[cM]
 unfold Zif at h;rw[hg]at h;simp only at h;split at h;rotate_left
 .cases h
 rename_i f args bw cE;have jq:∀hp,Zst (gOut ⟨[],[(c,o.dst.getD 0)],[(c,.rows e sz len cc)],res⟩) [(c,.rows e sz len cc)]=some hp->hp=[(o.dst.getD 0,.rows e sz len cc)]:=fun hp dq=>by
  have:gOut ⟨[],[(c,o.dst.getD 0)],[(c,.rows e sz len cc)],res⟩ c=some (o.dst.getD 0):=by
   simp only[gOut,Zqb,Nat.beq_refl]
  simp only[Zst,this,renB]at dq;exact(Option.some.inj dq).symm
 have gh:okHA N st ⟨[],[(c,o.dst.getD 0)],[(c,.rows e sz len cc)],res⟩=true/\st1=⟨st.env,hins st.heap (o.dst.getD 0) (.rows e sz len cc)⟩:=by
  have h':=h;unfold ZhH at h';split at h'
  .rename_i r hr;cases h';unfold Zhf at hr;split at hr;rotate_left
   .cases hr
   split at hr;rotate_left
   .cases hr
   rename_i h0 vs hp r aJ dQ bW dq gY;cases hr;rw[jq _ dq];exact⟨aJ,rfl⟩
  .unfold ZlA at h';split at h';rotate_left
   .cases h'
   split at h';rotate_left
   .cases h'
   split at h';rotate_left
   .cases h'
   rename_i vs hp r ps aJ bW dq gY cj;cases h';rw[jq _ dq];exact⟨aJ,rfl⟩
 obtain⟨aJ,bL⟩:=gh;have hq:Zdr N (o.dst.getD 0) st=true:=by
  have cm:=aJ;unfold okHA at cm;split at cm
  .rename_i q1 q2 q3 q4;exact List.all_eq_true.1 q4 _ (List.mem_cons_self)
  .cases cm
 refine⟨.rows e sz len cc,hq,bL,fun st2 hu hh cX=>?_⟩;have he:∀x∈Zcv (.call { callee:=f,args:=args,argTypes:=bw }),evo st2 x=evo st x:=fun x hx=>ZmT hu x (by rw[cE];exact hx);have eV:okHA N st2 ⟨[],[(c,o.dst.getD 0)],[(c,.rows e sz len cc)],res⟩=true:=by
  have cm:=aJ;unfold okHA at cm ⊢;split at cm
  .rename_i q1 q2 q3 q4;simp only at q1 q2 q3;simp only[q1,q2,q3,List.all_cons,List.all_nil,cX,Bool.and_true]
  .cases cm
 unfold Zif;rw[hg];simp only[cE];rw[Zzs he hh (eV.trans aJ.symm),h];rfl
def ZPs:Op->Bool | .makeSlice .. | .buildSlice .. | .alloc _=>true|_=>false
theorem ZHu{ti:TI}{l:List C}(h:ZuW ti=some l)(k:Nat):l.any (C.says k)=false:=by
 unfold ZuW at h;split at h;rotate_left
 .cases h
 rename_i z hz;have lits:∀xs:List Value,(xs.map C.lit).any (C.says k)=false:=fun xs=>by
  induction xs with
  |nil=>rfl
  |cons x xs ih=>simp[C.says,ih]
 cases z with
 |agg cs=>
  simp only[V.ofVal]at h;split at h
  .cases h;exact lits _
  .cases h
 |_=>
  simp only[V.ofVal,V.cells]at h
  first | (cases h;rfl) | (split at h<;>cases h;rfl)
def ZyK(ra:RA)(i:Nat)(o:Oper):Bool:=match ZcL ra.hc i with
 |some ha=>match ZcL ra.hc (i+1000)with
  |none=>true
  |some _=>Zho o ha
 |none=>Nat.ble (ZeT ra i o.op) 3
def Zmf(ra:RA)(i:Nat)(o:Oper):Bool:=match ZcL ra.hc i with
 |some ha=>match ZcL ra.hc (i+1000)with
  |none=>Zho o ha
  |some _=>false
 |none=>match o.guard with
  |none=>ZPs o.op&&Nat.beq (ZeT ra i o.op) 3
  |some _=>false
theorem ZFk{N:Nat}{T:Tab}{st st1:St}{d t:Nat}{x y:V}{an:Option Ans}{v:V}{obl:List Prop}(h:Znu N T st d t x y an=some (v,obl,st1)) :
  ∃b:B,(∀k,b.says k=false)/\Zdr N d st=true/\st1=⟨st.env,hins st.heap d b⟩/\∀st2,Zdr N d st2=true->Znu N T st2 d t x y an=some (v,obl,⟨st2.env,hins st2.heap d b⟩):=by
 unfold Znu at h
 repeat' split at h
 all_goals first | (cases h;done)|skip
 all_goals
  cases h;refine⟨_,fun _=>rfl,by assumption,rfl,fun st2 hq=>?_⟩;unfold Znu;simp only[*,St.new]
theorem Zwf{N:Nat}{T:Tab}{st st1:St}{d t n:Nat}{ps:List (Nat×V)}{k:Nat}{c:Nat->Nat->C}{v:V}{obl:List Prop}(h:Zfd N T st d t n ps (some (.c k c))=some (v,obl,st1)) :
  ∃b:B,(∀k,b.says k=false)/\Zdr N d st=true/\st1=⟨st.env,hins st.heap d b⟩/\∀st2,Zdr N d st2=true->Zfd N T st2 d t n ps (some (.c k c))=some (v,obl,⟨st2.env,hins st2.heap d b⟩):=by
 unfold Zfd at h ⊢;split at h<;>try (cases h;done)
 split at h<;>try (cases h;done)
 split at h<;>try (cases h;done)
 split at h<;>try (cases h;done)
 split at h<;>try (cases h;done)
 split at h<;>try (cases h;done)
 simp only at h;split at h
 .cases h
 .rename_i hq;cases h;refine⟨_,fun _=>rfl,hq,rfl,fun st2 cX=>?_⟩;simp only[*,St.new]
theorem Znd{P:Program}{N:Nat}{T:Tab}{ops:Array Oper}{ra:RA}{i:Nat}{o:Oper}{st st1:St}{v:V}{obl:List Prop}(hs:Zmf ra i o=true)(h:Zdt P N T ops ra i o st=some (v,obl,st1)) :
  ∃b:B,(∀k,b.says k=false)/\Zdr N (o.dst.getD 0) st=true/\st1=⟨st.env,hins st.heap (o.dst.getD 0) b⟩/\∀st2,(∀t∈ZfB ops o,st2.get t=st.get t)->Zdr N (o.dst.getD 0) st2=true ->
   Zdt P N T ops ra i o st2=some (v,obl,⟨st2.env,hins st2.heap (o.dst.getD 0) b⟩):=by
 unfold Zmf at hs;unfold Zdt at h ⊢;split at hs
 .rename_i ha hk;cases hk2:ZcL ra.hc (i+1000)with
  |some y=>rw[hk2]at hs;cases hs
  |none=>
   rw[hk2]at hs;simp only[hk,hk2]at h ⊢;exact ZGK hs h
 .rename_i hk;rw[hk]at h ⊢;simp only at h ⊢;split at hs;rotate_left
  .cases hs
  rename_i cM;have hg:∀st:St,Zhe ops st o=some true:=fun st=>by unfold Zhe;rw[cM]
  simp only[Bool.and_eq_true]at hs;obtain⟨hr,dY⟩:=hs;have dY:=Nat.eq_of_beq_eq_true dY;unfold ZnD at h;rw[hg]at h;simp only at h;split at h
  .cases h
  rename_i v0 c7 st0 bj;split at h
  .cases h
  rename_i v' obl' hd;split at h;rotate_left
  .cases h
  rename_i v'' gf;split at h;rotate_left
  .cases h
  rename_i v3 obl3 fP;cases h;have gh:∃b:B,(∀k,b.says k=false)/\Zdr N (o.dst.getD 0) st=true/\st1=⟨st.env,hins st.heap (o.dst.getD 0) b⟩/\∀st2,(∀x∈Zcv o.op,evo st2 x=evo st x)->Zdr N (o.dst.getD 0) st2=true ->
    evOp P N T o st2 (ZcL ra.an i)=some (v0,c7,⟨st2.env,hins st2.heap (o.dst.getD 0) b⟩):=by
   obtain⟨dst,op,type,eT,after,guard⟩:=o;simp only at hr dY cM ⊢;cases op<;>simp only[ZPs]at hr<;>try (cases hr;done)
   case alloc t0 _=>
    simp only[evOp]at bj;split at bj;rotate_left
    .cases bj
    rename_i te bR;split at bj;rotate_left
    .cases bj
    rename_i l hl;unfold ZqI at bj;split at bj;rotate_left
    .cases bj
    rename_i hq lx;cases bj;refine⟨.box l,fun k=>ZHu hl k,hq,rfl,fun st2 he cX=>?_⟩;simp only[evOp,bR,hl];unfold ZqI;rw[cX,lx];rfl
   case makeSlice t0 x y _=>
    simp only[ZeT]at dY;split at dY
    .cases dY
    rename_i hx;simp only[evOp]at bj;split at bj
    .rename_i hk;exact absurd hk (hx _ _)
    .cases bj
    obtain⟨b,h1,h2,h3,h4⟩:=ZFk bj;refine⟨b,h1,h2,h3,fun st2 he hq=>?_⟩;simp only[evOp];rw[he x (by simp[Zcv]),he y (by simp[Zcv])];exact h4 st2 hq
   case buildSlice t n ps _=>
    simp only[ZeT]at dY;split at dY;rotate_left
    .cases dY
    rename_i k c hka;simp only[evOp,hka]at bj;obtain⟨b,h1,h2,h3,h4⟩:=Zwf bj;refine⟨b,h1,h2,h3,fun st2 he hq=>?_⟩;simp only[evOp,hka];rw[Zsy (fun x hx=>he x (by simpa[Zcv]using hx))];exact h4 st2 hq
  obtain⟨b,h1,h2,h3,h4⟩:=gh;refine⟨b,h1,h2,h3,fun st2 hu hq=>?_⟩;unfold ZnD;rw[hg];simp only[h4 st2 (ZmT hu) hq,hd,gf,fP]
theorem Zjc{ra:RA}{i:Nat}{o:Oper}(h:ZcL ra.hc i=none):clsX ra i o=ZeT ra i o.op:=by unfold clsX;rw[h]
theorem Zws{ra:RA}{i:Nat}{o:Oper}{ha:HA}(h:ZcL ra.hc i=some ha)(hc:clsX ra i o<=3):(Zho o ha=true/\clsX ra i o=3)\/(ha.new=[]/\clsX ra i o=2/\ZcL ra.hc (i+1000)=none):=by
 unfold clsX at hc ⊢;rw[h]at hc ⊢;simp only at hc ⊢;split at hc
 .rename_i hs;exact .inl ⟨hs,rfl⟩
 .split at hc
  .omega
  .rename_i hk2;split at hc
   .rename_i hn;exact .inr ⟨hn,rfl,hk2⟩
   .omega
theorem Zvv{P:Program}{N:Nat}{T:Tab}{ops:Array Oper}{ra:RA}{i:Nat}{o:Oper}{ha:HA}{st st1:St}{v:V}{obl:List Prop}(hk:ZcL ra.hc i=some ha)(hs:Zho o ha=true)(h:Zdt P N T ops ra i o st=some (v,obl,st1)) :
  ∃b:B,Zdr N (o.dst.getD 0) st=true/\st1=⟨st.env,hins st.heap (o.dst.getD 0) b⟩/\∀st2,(∀t∈ZfB ops o,st2.get t=st.get t)->st2.heap=st.heap->Zdr N (o.dst.getD 0) st2=true ->
   Zdt P N T ops ra i o st2=some (v,obl,⟨st2.env,st1.heap⟩):=by
 unfold Zdt at h ⊢;cases hk2:ZcL ra.hc (i+1000)with
 |none=>
  simp only[hk,hk2]at h ⊢;obtain⟨b,h1,h2,rfl,h4⟩:=ZGK hs h;refine⟨b,h2,rfl,fun st2 hu hh hq=>?_⟩;rw[h4 st2 hu hq,hh]
 |some x=>
  simp only[hk,hk2]at h ⊢;exact ZQP hs h
theorem Zfm{P:Program}{N:Nat}{T:Tab}{ops:Array Oper}{ra:RA}{i:Nat}{o:Oper}{st st1 st2:St}{v:V}{obl:List Prop}(hc:clsX ra i o<=3)(hu:∀t∈ZfB ops o,st2.get t=st.get t)
  (hh:clsX ra i o≠0->st2.heap=st.heap) (hq:clsX ra i o=3->Zdr N (o.dst.getD 0) st=true->Zdr N (o.dst.getD 0) st2=true) (h:Zdt P N T ops ra i o st=some (v,obl,st1)) :
  st1.env=st.env/\(clsX ra i o<=1->st1.heap=st.heap)/\Zdt P N T ops ra i o st2=some (v,obl,⟨st2.env,if clsX ra i o<=1 then st2.heap else st1.heap⟩):=by
 cases hk:ZcL ra.hc i with
 |none=>
  rw[Zjc hk]at *
  unfold Zdt at h ⊢;rw[hk]at h ⊢;exact ZEu hc hu hh hq h
 |some ha=>
  rcases Zws hk hc with⟨hs,e3⟩|⟨hn,e3,hk2⟩
  .rw[e3]at hh hq ⊢;obtain⟨b,h2,rfl,h4⟩:=Zvv hk hs h;refine⟨rfl,fun h=>by omega,?_⟩;rw[h4 st2 hu (hh (by omega)) (hq rfl h2)];rfl
  .rw[e3]at hh hq ⊢;unfold Zdt at h ⊢;rw[hk]at h ⊢;simp only at h ⊢;rw[hk2]at h ⊢;simp only at h ⊢;obtain⟨h1,h2⟩:=ZQO hn h;refine⟨h1,fun h=>by omega,?_⟩;rw[h2 st2 hu (hh (by omega))];rfl
theorem ZlJ{P:Program}{N:Nat}{T:Tab}{ops:Array Oper}{ra:RA}{i:Nat}{o:Oper}{st st1 st2:St}{v:V}{obl:List Prop}(hc:clsX ra i o=1)(hu:∀t∈ZfB ops o,st2.get t=st.get t)
  (hm:∀x∈Zcv o.op,Has st st2 fun id=>(evo st x).says id) (h:Zdt P N T ops ra i o st=some (v,obl,st1)):Zdt P N T ops ra i o st2=some (v,obl,st2):=by
 cases hk:ZcL ra.hc i with
 |none=>
  rw[Zjc hk]at *
  unfold Zdt at h ⊢;rw[hk]at h ⊢;exact ZHU hc hu hm h
 |some ha=>
  unfold clsX at hc;rw[hk]at hc;simp only at hc
  repeat' split at hc
  all_goals omega
theorem ZHV{P:Program}{N:Nat}{T:Tab}{ops:Array Oper}{ra:RA}{i:Nat}{o:Oper}{st st1:St}{v:V}{obl:List Prop}(hc:clsX ra i o=3)(h:Zdt P N T ops ra i o st=some (v,obl,st1)) :
  st1=st\/(Zdr N (o.dst.getD 0) st=true/\∀id b,hget st1.heap id=some b->id=o.dst.getD 0\/hget st.heap id=some b):=by
 cases hk:ZcL ra.hc i with
 |none=>
  rw[Zjc hk]at *
  unfold Zdt at h;rw[hk]at h;exact ZKu hc h
 |some ha=>
  obtain⟨hs,e3⟩ : Zho o ha=true/\clsX ra i o=3:=(Zws hk (Nat.le_of_eq hc)).resolve_right fun h=>by have:=h.2.1;omega
  obtain⟨b,h2,rfl,h4⟩:=Zvv hk hs h;refine .inr ⟨h2,fun id b' hb=>?_⟩;simp only[ZeO]at hb;split at hb
  .rename_i e;exact .inl e.symm
  .exact .inr hb
theorem ZBj{P:Program}{N:Nat}{T:Tab}{ops:Array Oper}{ra:RA}{i:Nat}{o:Oper}{st st1:St}{v:V}{obl:List Prop}(hc:clsX ra i o=3)(hk:Zvy ra i o=true)(h:Zdt P N T ops ra i o st=some (v,obl,st1)) :
  ∀id b,hget st.heap id=some b->hget st1.heap id=some b:=by
 unfold Zvy at hk;cases hk':ZcL ra.hc i with
 |none=>
  rw[Zjc hk']at *
  unfold Zdt at h;rw[hk']at h hk;exact ZEv hc hk h
 |some ha=>
  obtain⟨hs,e3⟩ : Zho o ha=true/\clsX ra i o=3:=(Zws hk' (Nat.le_of_eq hc)).resolve_right fun h=>by have:=h.2.1;omega
  obtain⟨b,h2,rfl,h4⟩:=Zvv hk' hs h;intro id b' hb;simp only[ZeO];have:=(Zjd (ZcR h2).2).1;rw[if_neg (fun e=>by rw[e,hb]at this;cases this)];exact hb
def isMk(ra:RA)(i:Nat)(o:Oper):Bool:=match ZcL ra.hc i,ZcL ra.hc (i+1000),o.op with
 |some ha,some _,.call { callee:=.value (.func _),args:=_,argTypes:=_ }=>Zho o ha
 |_,_,_=>false
theorem ZOR{P:Program}{N:Nat}{ops:Array Oper}{ha:HA}{an:Option Ans}{o:Oper}{g:FuncId}{args:Array Operand}{bw:Array TypeId}{st st1:St}{v:V}{obl:List Prop}(hs:Zho o ha=true)
  (cE:o.op=.call { callee:=.value (.func g),args:=args,argTypes:=bw }) (h:Zif P N ops ha an o st=some (v,obl,st1)) :
  ∃b:B,(∀k,b.says k=false)/\Zdr N (o.dst.getD 0) st=true/\st1=⟨st.env,hins st.heap (o.dst.getD 0) b⟩/\∀st2,(∀t∈ZfB ops o,st2.get t=st.get t)->(∀x∈Zcv o.op,Has st st2 fun id=>(evo st x).says id)->Zdr N (o.dst.getD 0) st2=true ->
   Zif P N ops ha an o st2=some (v,obl,⟨st2.env,hins st2.heap (o.dst.getD 0) b⟩):=by
 have fO:=hs;unfold Zho at hs;split at hs;rotate_left
 .cases hs
 rename_i c d c' e sz len cc hl hn cR cM;simp only[Bool.and_eq_true]at hs;obtain⟨⟨e1,e2⟩,e3⟩:=hs;have e1:=Nat.eq_of_beq_eq_true e1;have e2:=Nat.eq_of_beq_eq_true e2;subst e2;obtain⟨lend,new,h1,res⟩:=ha;simp only at hl hn cR;subst hl hn cR;subst e1;have hg:∀st:St,Zhe ops st o=some true:=fun st=>by unfold Zhe;rw[cM]
 have kA:∀st,Zet P N ops ⟨[],[(c,o.dst.getD 0)],[(c,.rows e sz len cc)],res⟩ an o st=Zhf P N st (.value (.func g)) args.toList ⟨[],[(c,o.dst.getD 0)],[(c,.rows e sz len cc)],res⟩ an:=fun st=>by
  unfold Zet;rw[hg];simp only[cE]
 have kB:∀st,Zif P N ops ⟨[],[(c,o.dst.getD 0)],[(c,.rows e sz len cc)],res⟩ an o st=ZhH P N st (.value (.func g)) args.toList ⟨[],[(c,o.dst.getD 0)],[(c,.rows e sz len cc)],res⟩ an:=fun st=>by
  unfold Zif;rw[hg];simp only[cE]
 rw[kB]at h;cases hE:Zhf P N st (.value (.func g)) args.toList ⟨[],[(c,o.dst.getD 0)],[(c,.rows e sz len cc)],res⟩ an with
 |some r=>
  unfold ZhH at h;rw[hE]at h;simp only at h;cases h;obtain⟨b,q1,q2,q3,q4⟩:=ZGK fO ((kA st).trans hE);refine⟨b,q1,q2,q3,fun st2 hu hm hq=>?_⟩;rw[kB];exact Zwi ((kA st2).symm.trans (q4 st2 hu hq))
 |none=>
  unfold ZhH at h;rw[hE]at h;simp only at h;have jq:∀hp,Zst (gOut ⟨[],[(c,o.dst.getD 0)],[(c,.rows e sz len cc)],res⟩) [(c,.rows e sz len cc)]=some hp->hp=[(o.dst.getD 0,.rows e sz len cc)]:=fun hp dq=>by
   have:gOut ⟨[],[(c,o.dst.getD 0)],[(c,.rows e sz len cc)],res⟩ c=some (o.dst.getD 0):=by
    simp only[gOut,Zqb,Nat.beq_refl]
   simp only[Zst,this,renB]at dq;exact(Option.some.inj dq).symm
  obtain⟨k0,n0,rfl⟩ : ∃k n,res=.one (.osl k n):=by
   unfold ZlA at h;simp only at h;split at h
   .exact⟨_,_,rfl⟩
   .cases h
  unfold ZlA at h;simp only at h;split at h;rotate_left
  .cases h
  rename_i g' a b om bH;split at h;rotate_left
  .cases h
  rename_i vs hp r ps aJ bW dq gY cj;cases h;obtain rfl:=jq _ dq;have hq:Zdr N (o.dst.getD 0) st=true:=by
   have cm:=aJ;unfold okHA at cm;split at cm
   .rename_i q1 q2 q3 q4;exact List.all_eq_true.1 q4 _ (List.mem_cons_self)
   .cases cm
  refine⟨.rows e sz len cc,fun _=>rfl,hq,rfl,fun st2 hu hm cX=>?_⟩;have he:∀x∈Zcv (.call { callee:=.value (.func g),args:=args,argTypes:=bw }),evo st2 x=evo st x:=fun x hx=>ZmT hu x (by rw[cE];exact hx);have eV:okHA N st2 ⟨[],[(c,o.dst.getD 0)],[(c,.rows e sz len cc)],.one (.osl k0 n0)⟩=true:=by
   have cm:=aJ;unfold okHA at cm ⊢;split at cm
   .rename_i q1 q2 q3 q4;simp only at q1 q2 q3;simp only[q1,q2,q3,List.all_cons,List.all_nil,cX,Bool.and_true]
   .cases cm
  have lz:a=[]/\b=[]:=by
   simp only[ZlU,ZkP,evo,V.ofVal]at bH
   first
    | (cases bH;exact⟨rfl,rfl⟩)
    | (simp at bH;exact⟨bH.2.1.symm,bH.2.2.1.symm⟩)
  obtain⟨rfl,rfl⟩:=lz;have cq:Zcl st2 args.toList [] []=Zcl st args.toList [] []:=Ziy (fun x hx=>he x (ZoJ x hx)) [] [];have hbm:borA st2 (Zcl st args.toList [] [])=some vs:=by
   refine Zwy (fun v hv=>?_) bW;unfold Zcl at hv;simp only[List.map_nil,List.nil_append,List.append_nil,List.mem_map]at hv;obtain⟨x,hx,rfl⟩:=hv;exact hm x (by rw[cE];exact ZoJ x hx)
  have lA:Zhf P N st2 (.value (.func g)) args.toList ⟨[],[(c,o.dst.getD 0)],[(c,.rows e sz len cc)],.one (.osl k0 n0)⟩ an=none:=by
   cases lA:Zhf P N st2 (.value (.func g)) args.toList ⟨[],[(c,o.dst.getD 0)],[(c,.rows e sz len cc)],.one (.osl k0 n0)⟩ an with
   |none=>rfl
   |some r2=>
    obtain⟨b2,_,_,_,q4⟩:=ZGK fO ((kA st2).trans lA);have:=q4 st (fun t ht=>(hu t ht).symm) hq;rw[kA,hE]at this;cases this
  rw[kB];unfold ZhH;rw[lA];simp only;unfold ZlA;simp only;rw[ZkY he,bH];simp only[eV,cq,hbm,dq,gY,cj];rfl
theorem ZBi{P:Program}{N:Nat}{T:Tab}{ops:Array Oper}{ra:RA}{i:Nat}{o:Oper}{st st1:St}{v:V}{obl:List Prop}(hs:(Zmf ra i o||isMk ra i o)=true)(h:Zdt P N T ops ra i o st=some (v,obl,st1)) :
  ∃b:B,(∀k,b.says k=false)/\Zdr N (o.dst.getD 0) st=true/\st1=⟨st.env,hins st.heap (o.dst.getD 0) b⟩/\∀st2,(∀t∈ZfB ops o,st2.get t=st.get t)->(∀x∈Zcv o.op,Has st st2 fun id=>(evo st x).says id)->Zdr N (o.dst.getD 0) st2=true ->
   Zdt P N T ops ra i o st2=some (v,obl,⟨st2.env,hins st2.heap (o.dst.getD 0) b⟩):=by
 rw[Bool.or_eq_true]at hs;rcases hs with hs|hs
 .obtain⟨b,h1,h2,h3,h4⟩:=Znd hs h;exact⟨b,h1,h2,h3,fun st2 hu _ hq=>h4 st2 hu hq⟩
 .unfold isMk at hs;split at hs;rotate_left
  .cases hs
  rename_i ha y g args bw hk hk2 cE;unfold Zdt at h ⊢;simp only[hk,hk2]at h ⊢;exact ZOR hs cE h
theorem ZGC{ra:RA}{i:Nat}{o:Oper}(hs:isMk ra i o=true):clsX ra i o=3:=by
 unfold isMk at hs;split at hs;rotate_left
 .cases hs
 rename_i ha y g args bw hk hk2 cE;unfold clsX;rw[hk];simp only[hs]
theorem ZOQ{P:Program}{N:Nat}{ops:Array Oper}{c e:Nat}{b:B}{res:V}{an:Option Ans}{o:Oper}{st st1:St}{v:V}{obl:List Prop}(cM:o.guard=none)
  (h:Zet P N ops ⟨[(c,e)],[],[(c,b)],res⟩ an o st=some (v,obl,st1)) :
  ∃b',renB (gOut ⟨[(c,e)],[],[(c,b)],res⟩) b=some b'/\st1=⟨st.env,hrep st.heap e b'⟩/\(∃b0 b1,hget st.heap e=some b0/\renB (bwd [(c,e)]) b0=some b1) /\
   ∀st2,(∀t∈ZfB ops o,st2.get t=st.get t)->hget st2.heap e=hget st.heap e->Zet P N ops ⟨[(c,e)],[],[(c,b)],res⟩ an o st2=some (v,obl,⟨st2.env,hrep st2.heap e b'⟩):=by
 have hg:∀st:St,Zhe ops st o=some true:=fun st=>by unfold Zhe;rw[cM]
 unfold Zet at h;rw[hg]at h;simp only at h;split at h;rotate_left
 .cases h
 rename_i f args bw cE;unfold Zhf at h;split at h;rotate_left
 .cases h
 rename_i g a b1 om bH;split at h;rotate_left
 .cases h
 rename_i h0 vs hp r aJ dQ bW dq hr;cases h;have eU:gOut ⟨[(c,e)],[],[(c,b)],res⟩ c=some e:=by simp only[gOut,Zqb,Nat.beq_refl]
 obtain⟨b',aQ,rfl⟩ : ∃b',renB (gOut ⟨[(c,e)],[],[(c,b)],res⟩) b=some b'/\hp=[(e,b')]:=by
  simp only[Zst,eU]at dq;split at dq
  .rename_i i0 b0 l0 q1 q2 q3;cases q1;cases q3;cases dq;exact⟨_,q2,rfl⟩
  .cases dq
 have ib:∀hh,ZBd [(e,b')] [(c,e)] hh=hrep hh e b':=fun hh=>by
  unfold ZBd;simp only[Zve,Nat.beq_refl,Zxi]
 refine⟨b',aQ,by rw[ib],?_,fun st2 hu hh=>?_⟩
 .simp only[hIn]at dQ;split at dQ
  .rename_i b0 bD;split at dQ
   .rename_i b2 l2 q1 q2;exact⟨b0,b2,bD,q1⟩
   .cases dQ
  .cases dQ
 .have he:∀x∈Zcv (.call { callee:=f,args:=args,argTypes:=bw }),evo st2 x=evo st x:=fun x hx=>ZmT hu x (by rw[cE];exact hx);have eV:okHA N st2 ⟨[(c,e)],[],[(c,b)],res⟩=true:=aJ;have iQ:hIn (bwd [(c,e)]) st2.heap [(c,e)]=some h0:=by
   rw[ZCl (h:=st.heap) (fun p hp=>by
    rcases List.mem_singleton.1 hp with rfl;exact hh)]
   exact dQ
  unfold Zet;rw[hg];simp only[cE];unfold Zhf;rw[ZkY he,bH];simp only[eV,iQ,Ziy (fun x hx=>he x (ZoJ x hx)) a b1,bW,dq,hr,ib]
def plOf(ra:RA)(i:Nat)(o:Oper):Option Nat:=match ZcL ra.hc i,ZcL ra.hc (i+1000),o.guard with
 |some ⟨[(c,e)],[],[(c',_)],_⟩,none,none=>match Nat.beq c c' with
  |true=>some e
  |false=>none
 |_,_,_=>none
theorem ZnV{P:Program}{N:Nat}{T:Tab}{ops:Array Oper}{ra:RA}{i e:Nat}{o:Oper}{st st1:St}{v:V}{obl:List Prop}(hp:plOf ra i o=some e)(h:Zdt P N T ops ra i o st=some (v,obl,st1)) :
  ∃b':B,(∀d,d≠e->b'.says d=false)/\st1=⟨st.env,hrep st.heap e b'⟩/\(∀d b0,d≠e->hget st.heap e=some b0->b0.says d=false) /\
   ∀st2,(∀t∈ZfB ops o,st2.get t=st.get t)->hget st2.heap e=hget st.heap e->Zdt P N T ops ra i o st2=some (v,obl,⟨st2.env,hrep st2.heap e b'⟩):=by
 unfold plOf at hp;split at hp;rotate_left
 .cases hp
 rename_i c e0 c' b res hk hk2 cM;split at hp;rotate_left
 .cases hp
 rename_i cD;cases hp;obtain rfl:=Nat.eq_of_beq_eq_true cD;unfold Zdt at h ⊢;simp only[hk,hk2]at h ⊢;obtain⟨b',h1,h2,⟨b0,b1,h3,h4⟩,h5⟩:=ZOQ cM h;refine⟨b',fun d hd=>ZNW (fun k hk'=>?_) h1,h2,fun d b2 hd bG=>?_,h5⟩
 .simp only[gOut,Zqb]at hk';split at hk'
  .rename_i hq;split at hq
   .cases hq;cases hk';exact hd rfl
   .cases hq
  .cases hk'
 .rw[h3]at bG;cases bG;refine ZJY ?_ h4;simp only[bwd,List.map_cons,List.map_nil,Zqb];split
  .rename_i hq;exact absurd (Nat.eq_of_beq_eq_true hq).symm hd
  .rfl
structure Eqv (st st2:St):Prop where
 env:∀t,st2.get t=st.get t
 heap:st2.heap=st.heap
theorem Eqv.refl(st:St):Eqv st st:=⟨fun _=>rfl,rfl⟩
theorem Eqv.trans{a b c:St}(h:Eqv a b)(k:Eqv b c):Eqv a c:=⟨fun t=>(k.env t).trans (h.env t),k.heap.trans h.heap⟩
theorem Zxo{st st2:St}{d:Nat}(h:∀t,st2.get t=st.get t):∀n,Ziu st2 d n=Ziu st d n
 | 0=>rfl
 |n+1=>by simp only[Ziu,h n,Zxo h n]
theorem ZAY{st st2:St}(h:Eqv st st2)(N d:Nat):Zdr N d st2=Zdr N d st:=by
 unfold Zdr;rw[Zxo h.env,h.heap]
theorem ZcM.eqv{N:Nat}{S0:Nat->Prop}{w0:ZeU}{st st2:St}{a:Act}{w:World}(h:ZcM N S0 w0 st a w)(he:Eqv st st2):ZcM N S0 w0 st2 a w:=
 h.le (N:=N) ⟨fun t=>.inl (he.env t),fun id b hb=>by rw[<-he.heap];exact hb⟩
theorem ZOf{N:Nat}{st st2:St}(he:Eqv st st2)(ha:HA):okHA N st2 ha=okHA N st ha:=by
 unfold okHA;rw[show (fun p:Nat×Nat=>Zdr N p.2 st2)=fun p=>Zdr N p.2 st from funext fun p=>ZAY he N p.2]
theorem ZHW{P:Program}{N:Nat}{T:Tab}{ops:Array Oper}{ra:RA}{i:Nat}{o:Oper}{st st1 st2:St}{v:V}{obl:List Prop}(hc:ZyK ra i o=true)(he:Eqv st st2)(h:Zdt P N T ops ra i o st=some (v,obl,st1)) :
  ∃hp,Zdt P N T ops ra i o st2=some (v,obl,⟨st2.env,hp⟩)/\hp=st1.heap:=by
 by_cases hc3:clsX ra i o<=3
 .obtain⟨e1,h1,gY⟩:=Zfm (st2:=st2) hc3 (fun t _=>he.env t) (fun _=>he.heap) (fun _ hq=>by rw[ZAY he];exact hq) h;refine⟨_,gY,?_⟩;split
  .rename_i iF;rw[h1 iF];exact he.heap
  .rfl
 .cases hk:ZcL ra.hc i with
  |none=>
   exfalso;unfold ZyK at hc;rw[Zjc hk]at hc3;rw[hk]at hc;exact hc3 (Nat.le_of_ble_eq_true hc)
  |some ha=>
   have hk2:ZcL ra.hc (i+1000)=none:=by
    cases hk2:ZcL ra.hc (i+1000)with
    |none=>rfl
    |some x=>
     exfalso;unfold ZyK at hc;rw[hk]at hc;simp only[hk2]at hc;apply hc3;unfold clsX;rw[hk];simp only[hc];omega
   unfold Zdt at h ⊢;rw[hk]at h ⊢;simp only at h ⊢;rw[hk2]at h ⊢;simp only at h ⊢;unfold Zet at h ⊢;rw[Zmi (o:=o) (ops:=ops) (fun t _=>he.env t)];split at h
   .split at h
    .rename_i c args bw cE;have bj:∀x,evo st2 x=evo st x:=fun x=>by
      cases x with
      |tmp t=>exact he.env t
      |const v=>rfl
      |func f=>rfl
      |global g=>rfl
     unfold Zhf at h ⊢;rw[ZkY (args:=args) (bw:=bw) (fun x _=>bj x)];split at h;rotate_left
     .cases h
     rename_i g a b om bH;rw[Ziy (fun x _=>bj x) a b,ZOf he,he.heap];split at h;rotate_left
     .cases h
     rename_i h0 vs hp r q1 q2 q3 q4 q5;cases h;simp only[q1,q2,q3,q4,q5];exact⟨_,rfl,rfl⟩
    .cases h
   .cases h;exact⟨_,rfl,he.heap⟩
   .cases h
def ZsA(ra:RA):Nat->List Oper->List (Nat×Nat)
 |_,[]=>[]
 |i,o :: r=>match Nat.beq (clsX ra i o) 3 with
  |true=>(i,o.dst.getD 0) :: ZsA ra (i+1) r
  |false=>ZsA ra (i+1) r
def ZfO(ak:List (List Nat))(i:Nat):List Nat:=ak.getD i []
def memN(k:Nat):List Nat->Bool
 | []=>false
 |x :: l=>match Nat.beq x k with
  |true=>true
  |false=>memN k l
theorem ZqZ{k:Nat}:∀{l:List Nat},memN k l=true↔k∈l
 | []=>by simp[memN]
 |x :: l=>by
  simp only[memN]
  split
  .rename_i h
   simp[ZaB h]
  .rename_i h
   have:=Nat.ne_of_beq_eq_false h
   rw[ZqZ]
   simp[Ne.symm this]
def chk(ni:List (Nat×Nat))(ps:List Nat)(i:Nat)(v:V):Bool:=ni.all fun p=>Nat.beq p.1 i||memN p.1 ps || !(v.says p.2)
section
variable (P:Program) (N:Nat) (T:Tab) (ops:Array Oper) (ra:RA) (ak:List (List Nat)) (ni:List (Nat × Nat))
def bxOk(l:List Nat)(st:St)(op:Op):Bool:=match l with
 | []=>true
 |c :: _=>match op with
  | .load _ x=>match evo st x with
   | .one (.ptr d _)=>Nat.beq d c
   | .one (.rp _ _ _)=>Nat.beq 99998 c
   |_=>false
  | .store _ x _=>match evo st x with
   | .one (.ptr d _)=>Nat.beq d c
   |_=>false
  |_=>false
def Zfg(i:Nat)(st:St):Option (St×List Prop):=match ops[i]? with
 |none=>none
 |some o=>match bxOk (ZfO ak (ops.size+i)) st o.op with
  |false=>none
  |true=>match Zdt P N T ops ra i o st with
   |none=>none
   |some (v,obl,st')=>match chk ni (ZfO ak i) i v with
    |false=>none
    |true=>match putO N st' o.dst v with
     |none=>none
     |some st''=>some (st'',obl)
def Zuk:List Nat->St->Option (St×List Prop)
 | [],st=>some (st,[])
 |i :: l,st=>match Zfg P N T ops ra ak ni i st with
  |none=>none
  |some (st1,o1)=>match Zuk l st1 with
   |none=>none
   |some (st2,o2)=>some (st2,o1++o2)
def disj(x:Option Nat)(l:List Nat):Bool:=match x with
 |none=>true
 |some d=>!(memN d l)
def ZoF(x y:Option Nat):Bool:=match x,y with
 |some a,some b=>!(Nat.beq a b)
 |_,_=>true
def ZPv(k i:Nat):Bool:=match ops[k]?,ops[i]? with
 |some a,some b=>disj a.dst (ZfB ops b)&&disj b.dst (ZfB ops a)&&ZoF a.dst b.dst &&
   ((Nat.ble (clsX ra k a) 1&&Nat.ble (clsX ra i b) 1)||(Nat.beq (clsX ra k a) 0&&Nat.ble (clsX ra i b) 3)||(Nat.beq (clsX ra i b) 0&&Nat.ble (clsX ra k a) 3)||(Nat.beq (clsX ra k a) 3&&Nat.beq (clsX ra i b) 1&&(ZfB ops b).all fun t=>Nat.blt t N)||(Nat.beq (clsX ra k a) 1&&Nat.beq (clsX ra i b) 3&&Zvy ra i b)||(Zmf ra k a&&Zmf ra i b)||((Zmf ra k a||isMk ra k a)&&(Zmf ra i b||isMk ra i b)&&(ZfB ops b).all fun t=>Nat.blt t N))
 |_,_=>false
def isLd:Op->Bool | .load _ _=>true|_=>false
def isSt:Op->Bool | .store _ _ _=>true|_=>false
def ZQD(i:Nat):Op->Bool
 | .call { callee:=.builtin .append,.. }=>match ZcL ra.an i with
  |some (.c _ _)=>true
  |_=>false
 |_=>false
def okLS(k i:Nat):Bool:=match ops[k]?,ops[i]?,ZfO ak (ops.size+k),ZfO ak (ops.size+i)with
 |some a,some b,c :: _,d :: _=>disj a.dst (ZfB ops b)&&disj b.dst (ZfB ops a)&&ZoF a.dst b.dst&&isLd a.op&&isSt b.op&&(ZcL ra.hc k).isNone&&(ZcL ra.hc i).isNone && !(Nat.beq c d)
 |_,_,_,_=>false
def okLC(k i:Nat):Bool:=match ops[k]?,ops[i]? with
 |some a,some b=>disj a.dst (ZfB ops b)&&disj b.dst (ZfB ops a)&&ZoF a.dst b.dst&&(match plOf ra k a,plOf ra i b with
  |some e,none=>(Zmf ra i b && !(Nat.beq (b.dst.getD 0) e))||(isLd b.op&&(ZcL ra.hc i).isNone&&match ZfO ak (ops.size+i)with
   |c :: _=>!(Nat.beq c e)
   | []=>false)
  |none,some e=>(Zmf ra k a && !(Nat.beq (a.dst.getD 0) e))||(isLd a.op&&(ZcL ra.hc k).isNone&&match ZfO ak (ops.size+k)with
   |c :: _=>!(Nat.beq c e)
   | []=>false)
  |_,_=>false)
 |_,_=>false
def Zyr:Operand->Operand->Bool | .tmp a,.tmp b=>Nat.beq a b|_,_=>false
def okLM(k i:Nat):Bool:=match ops[k]?,ops[i]? with
 |some a,some b=>match a.op,b.op with
  | .lookup t x y false,.mapEntry t' x' y'=>Nat.beq t t'&&Zyr x x'&&Zyr y y'&&disj a.dst (ZfB ops b)&&disj b.dst (ZfB ops a)&&ZoF a.dst b.dst&&a.guard.isNone&&b.guard.isNone &&
    (ZcL ra.hc k).isNone&&(ZcL ra.hc i).isNone&&(ZcL ra.bl k).isNone&&(ZcL ra.bl i).isNone&&(kdn ra.dn k).isEmpty&&(kdn ra.dn i).isEmpty&&(ZcL ra.rl k).isNone&&(ZcL ra.rl i).isNone
  |_,_=>false
 |_,_=>false
def okLA(k i:Nat):Bool:=match ops[k]?,ops[i]?,ZfO ak (ops.size+k)with
 |some a,some b,c :: _=>disj a.dst (ZfB ops b)&&disj b.dst (ZfB ops a)&&ZoF a.dst b.dst&&isLd a.op&&ZQD ra i b.op&&a.guard.isNone&&(ZcL ra.hc k).isNone&&(ZcL ra.hc i).isNone && !(Nat.beq c 99998)
 |_,_,_=>false
def ZEw(k i:Nat):Bool:=ZPv N ops ra k i||okLS ops ra ak k i||okLC ops ra ak k i||okLA ops ra ak k i
def Ztv(k i:Nat):Bool:=ZEw N ops ra ak k i||okLM ops ra k i
end
theorem Zav{N:Nat}{st st':St}{dst:Option Nat}{v:V}(h:putO N st dst v=some st')(t:Nat):st'.get t=(if dst=some t then v else st.get t)/\st'.heap=st.heap:=by
 unfold putO at h;split at h
 .cases h;simp
 .split at h
  .cases h;rename_i d _ _;refine⟨?_,rfl⟩;rw[St.get_put];by_cases e:d=t
   .subst e;simp
   .rw[if_neg e,if_neg (by simpa using e)]
  .cases h
theorem ZdR{N:Nat}{st st' st2:St}{dst:Option Nat}{v:V}(h:putO N st dst v=some st'):∃aN,putO N st2 dst v=some aN:=by
 cases dst with
 |none=>exact⟨_,rfl⟩
 |some d=>
  unfold putO at h ⊢;cases hb:Nat.blt d N with
  |true=>simp only[hb];exact⟨_,rfl⟩
  |false=>simp only[hb]at h;cases h
theorem Zbc{x:Option Nat}{l:List Nat}(h:disj x l=true){t:Nat}(ht:t∈l):x≠some t:=by
 rintro rfl;simp only[disj,Bool.not_eq_true']at h;rw[<-Bool.not_eq_true,ZqZ]at h;exact h ht
section
variable {P:Program} {N:Nat} {T:Tab} {ops:Array Oper} {ra:RA} {ak:List (List Nat)} {ni:List (Nat × Nat)}
theorem Zdq{i:Nat}{st st':St}{obl:List Prop}(h:Zfg P N T ops ra ak ni i st=some (st',obl)):∃o v st1,ops[i]?=some o/\Zdt P N T ops ra i o st=some (v,obl,st1)/\chk ni (ZfO ak i) i v=true/\putO N st1 o.dst v=some st':=by
 unfold Zfg at h;split at h
 .cases h
 rename_i o ho;split at h
 .cases h
 split at h
 .cases h
 rename_i v jM st1 hr;split at h
 .cases h
 rename_i hc;split at h
 .cases h
 rename_i st2 hp;cases h;exact⟨o,v,st1,ho,hr,hc,hp⟩
theorem ZdL{i:Nat}{st st':St}{obl:List Prop}(h:Zfg P N T ops ra ak ni i st=some (st',obl)){o:Oper}(ho:ops[i]?=some o):bxOk (ZfO ak (ops.size+i)) st o.op=true:=by
 unfold Zfg at h;rw[ho]at h;simp only at h;split at h
 .cases h
 .assumption
theorem ZdV{st st2:St}{o:Oper}(l:List Nat)(h:∀t∈ZfB ops o,st2.get t=st.get t):bxOk l st2 o.op=bxOk l st o.op:=by
 have he:=ZmT h;unfold bxOk;cases l with
 |nil=>rfl
 |cons c l=>
  obtain⟨dst,op,type,eT,after,guard⟩:=o;simp only at he ⊢;cases op<;>simp only[Zcv]at he ⊢
  case load t x=>rw[he x (by simp)]
  case store t x y=>rw[he x (by simp)]
theorem Zff{i:Nat}{st st1 st':St}{o:Oper}{v:V}{obl:List Prop}(ho:ops[i]?=some o)(hbx:bxOk (ZfO ak (ops.size+i)) st o.op=true)(hr:Zdt P N T ops ra i o st=some (v,obl,st1))(hc:chk ni (ZfO ak i) i v=true)(hp:putO N st1 o.dst v=some st'):Zfg P N T ops ra ak ni i st=some (st',obl):=by
 unfold Zfg;simp only[ho,hbx,hr,hc,hp]
theorem Zri{ps:List Nat}{i k d:Nat}{v:V}(h:chk ni ps i v=true)(hk:(k,d)∈ni)(hne:k≠i)(hp:k ∉ ps):v.says d=false:=by
 have:=List.all_eq_true.1 h _ hk;simp only[Bool.or_eq_true,Bool.not_eq_true']at this;rcases this with (h1|h1)|h1
 .exact absurd (ZaB h1) hne
 .exact absurd (ZqZ.1 h1) hp
 .exact h1
theorem ZAZ{st:St}{d:Nat}(hd:d<Zpq):∀{n:Nat},(∀t,t<n->(st.get t).says d=false)->Ziu st d n=true
 | 0,_=>Nat.ble_eq_true_of_le hd
 |n+1,h=>by
  simp only[Ziu,h n (by omega)]
  exact ZAZ hd fun t ht=>h t (by omega)
theorem ZlI{st st1 st':St}{dst:Option Nat}{v:V}{d:Nat}(hq:Ziu st d N=true)(he:∀t,st1.get t=st.get t)(hv:v.says d=false)(hp:putO N st1 dst v=some st'):Ziu st' d N=true:=
 ZAZ (Zvo hq) fun t ht=>by
  rw[(Zav hp t).1]
  split
  .exact hv
  .rw[he t];exact Zqo hq t ht
theorem ZjH{st st1:St}(h:st1.env=st.env)(t:Nat):st1.get t=st.get t:=by unfold St.get;rw[h]
theorem ZmE{st:St}{d:Nat}(h1:Ziu st d N=true)(h2:Zie d st.heap=true):Zdr N d st=true:=by unfold Zdr;rw[h1];exact h2
def ZDg(ops:Array Oper)(ra:RA)(ni:List (Nat×Nat)):Prop:=∀i o,ops[i]?=some o->clsX ra i o=3->(i,o.dst.getD 0)∈ni
theorem ZmX{ra:RA}{i:Nat}{o:Oper}(h:Zmf ra i o=true):clsX ra i o=3:=by
 unfold Zmf at h;unfold clsX;split at h
 .rename_i ha hk;rw[hk];split at h
  .simp only[h]
  .cases h
 .rename_i hk;rw[hk];simp only;split at h
  .simp only[Bool.and_eq_true]at h;exact Nat.eq_of_beq_eq_true h.2
  .cases h
theorem ZDW(dP:ZDg ops ra ni){k i:Nat}{a b:Oper}(ha:ops[k]?=some a)(hb:ops[i]?=some b)(d1:disj a.dst (ZfB ops b)=true)(d2:disj b.dst (ZfB ops a)=true)(d3:ZoF a.dst b.dst=true)(eW:Zmf ra k a=true)(fF:Zmf ra i b=true)
  (hne:k≠i) (hki:k ∉ ZfO ak i) {st st1 st2:St} {o1 o2:List Prop} (h1:Zfg P N T ops ra ak ni k st=some (st1,o1)) (h2:Zfg P N T ops ra ak ni i st1=some (st2,o2))
  (hJ:∀o,ops[i]?=some o->clsX ra i o=3->Ziu st (o.dst.getD 0) N=true) :
  ∃al aN,Zfg P N T ops ra ak ni i st=some (al,o2)/\Zfg P N T ops ra ak ni k al=some (aN,o1)/\Eqv aN st2:=by
 obtain⟨a',va,sa,cT,hra,cq,bx⟩:=Zdq h1;obtain⟨b',vb,sb,aQ,bq,c8,bF⟩:=Zdq h2;rw[ha]at cT;cases cT;rw[hb]at aQ;cases aQ;obtain⟨ba,jr,ii,rfl,gZ⟩:=Znd eW hra;obtain⟨bb,iR,iS,rfl,g3⟩:=Znd fF bq;have bL:st1.heap=hins st.heap (a.dst.getD 0) ba:=(Zav bx 0).2;have g1:∀t,a.dst≠some t->st1.get t=st.get t:=fun t ht=>by rw[(Zav bx t).1,if_neg ht];rfl
 have lB:hget st.heap (a.dst.getD 0)=none:=(Zjd (ZcR ii).2).1;have iJ:hget st1.heap (b.dst.getD 0)=none:=(Zjd (ZcR iS).2).1;have gi:b.dst.getD 0≠a.dst.getD 0:=by
  intro e;rw[bL,e,ZeO,if_pos rfl]at iJ;cases iJ
 have js:Zdr N (b.dst.getD 0) st=true:=by
  refine ZmE (hJ b hb (ZmX fF)) ?_;have:=(ZcR iS).2;rw[bL]at this;exact Zol lB this
 have bI:=g3 st (fun t ht=>(g1 t (Zbc d1 ht)).symm) js;obtain⟨al,bg⟩:=ZdR (st2:=⟨st.env,hins st.heap (b.dst.getD 0) bb⟩) bF;have g2:∀t,b.dst≠some t->al.get t=st.get t:=fun t ht=>by rw[(Zav bg t).1,if_neg ht];rfl
 have bv:al.heap=hins st.heap (b.dst.getD 0) bb:=(Zav bg 0).2;have gM:Zdr N (a.dst.getD 0) al=true:=by
  obtain⟨q1,q2⟩:=ZcR ii;refine ZmE (ZlI (st1:=⟨st.env,hins st.heap (b.dst.getD 0) bb⟩) q1 (fun t=>rfl) (Zri c8 (dP k a ha (ZmX eW)) hne hki) bg) ?_;rw[bv];exact Zvr gi (iR _) q2
 have bX:=gZ al (fun t ht=>g2 t (Zbc d2 ht)) gM;obtain⟨aN,bp⟩:=ZdR (st2:=⟨al.env,hins al.heap (a.dst.getD 0) ba⟩) bx;have xb:bxOk (ZfO ak (ops.size+i)) st b.op=true:=by rw[ZdV (st:=st1) _ (fun t ht=>(g1 t (Zbc d1 ht)).symm)];exact ZdL h2 hb
 have xa:bxOk (ZfO ak (ops.size+k)) al a.op=true:=by rw[ZdV (st:=st) _ (fun t ht=>g2 t (Zbc d2 ht))];exact ZdL h1 ha
 refine⟨al,aN,Zff hb xb bI c8 bg,Zff ha xa bX cq bp,⟨fun t=>?_,?_⟩⟩
 .rw[(Zav bF t).1,(Zav bp t).1];have hd:¬(a.dst=some t/\b.dst=some t):=by
   rintro ⟨e1,e2⟩;rw[e1,e2]at d3;simp[ZoF]at d3
  by_cases e1:a.dst=some t
  .rw[if_pos e1,if_neg (fun e2=>hd ⟨e1,e2⟩)];show (⟨st1.env,_⟩ : St).get t=_;rw[show (⟨st1.env,hins st1.heap (b.dst.getD 0) bb⟩ : St).get t=st1.get t from rfl,(Zav bx t).1,if_pos e1]
  .rw[if_neg e1];have e3:(⟨al.env,hins al.heap (a.dst.getD 0) ba⟩ : St).get t=al.get t:=rfl;rw[e3,(Zav bg t).1];split
   .rfl
   .rw[show (⟨st1.env,hins st1.heap (b.dst.getD 0) bb⟩ : St).get t=st1.get t from rfl,g1 t e1];rfl
 .rw[(Zav bF 0).2,(Zav bp 0).2,bL,bv];exact ZCa (a.dst.getD 0) (b.dst.getD 0) ba bb (Ne.symm gi) st.heap
theorem ZDX(dP:ZDg ops ra ni){k i:Nat}{a b:Oper}(ha:ops[k]?=some a)(hb:ops[i]?=some b)(d1:disj a.dst (ZfB ops b)=true)(d2:disj b.dst (ZfB ops a)=true)(d3:ZoF a.dst b.dst=true)(eW:(Zmf ra k a||isMk ra k a)=true)(fF:(Zmf ra i b||isMk ra i b)=true)(iT:∀t∈ZfB ops b,t<N)
  (hne:k≠i) (hki:k ∉ ZfO ak i) {st st1 st2:St} {o1 o2:List Prop} (h1:Zfg P N T ops ra ak ni k st=some (st1,o1)) (h2:Zfg P N T ops ra ak ni i st1=some (st2,o2))
  (hJ:∀o,ops[i]?=some o->clsX ra i o=3->Ziu st (o.dst.getD 0) N=true) :
  ∃al aN,Zfg P N T ops ra ak ni i st=some (al,o2)/\Zfg P N T ops ra ak ni k al=some (aN,o1)/\Eqv aN st2:=by
 obtain⟨a',va,sa,cT,hra,cq,bx⟩:=Zdq h1;obtain⟨b',vb,sb,aQ,bq,c8,bF⟩:=Zdq h2;rw[ha]at cT;cases cT;rw[hb]at aQ;cases aQ;have ca:clsX ra k a=3:=by
  rw[Bool.or_eq_true]at eW;exact eW.elim ZmX ZGC
 have cb:clsX ra i b=3:=by
  rw[Bool.or_eq_true]at fF;exact fF.elim ZmX ZGC
 obtain⟨ba,jr,ii,rfl,gZ⟩:=ZBi eW hra;obtain⟨bb,iR,iS,rfl,g3⟩:=ZBi fF bq;have bL:st1.heap=hins st.heap (a.dst.getD 0) ba:=(Zav bx 0).2;have g1:∀t,a.dst≠some t->st1.get t=st.get t:=fun t ht=>by rw[(Zav bx t).1,if_neg ht];rfl
 have lB:hget st.heap (a.dst.getD 0)=none:=(Zjd (ZcR ii).2).1;have iJ:hget st1.heap (b.dst.getD 0)=none:=(Zjd (ZcR iS).2).1;have gi:b.dst.getD 0≠a.dst.getD 0:=by
  intro e;rw[bL,e,ZeO,if_pos rfl]at iJ;cases iJ
 have js:Zdr N (b.dst.getD 0) st=true:=by
  refine ZmE (hJ b hb cb) ?_;have:=(ZcR iS).2;rw[bL]at this;exact Zol lB this
 have bI:=g3 st (fun t ht=>(g1 t (Zbc d1 ht)).symm) (fun x dZ id bb dB aQ=>by
  rw[bL,ZeO]at aQ;split at aQ
  .rename_i e;exfalso;have:(evo st1 x).says (a.dst.getD 0)=false:=by
    cases x with
    |tmp t=>
     have ht:t∈ZfB ops b:=List.mem_append.2 (.inl (ZqR dZ));show (st1.get t).says _=false;rw[g1 t (Zbc d1 ht)];exact Zqo (ZcR ii).1 t (iT t ht)
    |const v=>exact Zxu v _
    |func f=>rfl
    |global g=>rfl
   rw[e]at this;simp only[this]at dB;cases dB
  .exact aQ) js
 obtain⟨al,bg⟩:=ZdR (st2:=⟨st.env,hins st.heap (b.dst.getD 0) bb⟩) bF;have g2:∀t,b.dst≠some t->al.get t=st.get t:=fun t ht=>by rw[(Zav bg t).1,if_neg ht];rfl
 have bv:al.heap=hins st.heap (b.dst.getD 0) bb:=(Zav bg 0).2;have gM:Zdr N (a.dst.getD 0) al=true:=by
  obtain⟨q1,q2⟩:=ZcR ii;refine ZmE (ZlI (st1:=⟨st.env,hins st.heap (b.dst.getD 0) bb⟩) q1 (fun t=>rfl) (Zri c8 (dP k a ha ca) hne hki) bg) ?_;rw[bv];exact Zvr gi (iR _) q2
 have bX:=gZ al (fun t ht=>g2 t (Zbc d2 ht)) (fun x dZ id bb' dB aQ=>by
  rw[bv,ZeO];split
  .rename_i e;exfalso;have iU:=(Zjd (ZcR js).2).1;rw[e]at iU;rw[aQ]at iU;cases iU
  .exact aQ) gM
 obtain⟨aN,bp⟩:=ZdR (st2:=⟨al.env,hins al.heap (a.dst.getD 0) ba⟩) bx;have xb:bxOk (ZfO ak (ops.size+i)) st b.op=true:=by rw[ZdV (st:=st1) _ (fun t ht=>(g1 t (Zbc d1 ht)).symm)];exact ZdL h2 hb
 have xa:bxOk (ZfO ak (ops.size+k)) al a.op=true:=by rw[ZdV (st:=st) _ (fun t ht=>g2 t (Zbc d2 ht))];exact ZdL h1 ha
 refine⟨al,aN,Zff hb xb bI c8 bg,Zff ha xa bX cq bp,⟨fun t=>?_,?_⟩⟩
 .rw[(Zav bF t).1,(Zav bp t).1];have hd:¬(a.dst=some t/\b.dst=some t):=by
   rintro ⟨e1,e2⟩;rw[e1,e2]at d3;simp[ZoF]at d3
  by_cases e1:a.dst=some t
  .rw[if_pos e1,if_neg (fun e2=>hd ⟨e1,e2⟩)];show (⟨st1.env,_⟩ : St).get t=_;rw[show (⟨st1.env,hins st1.heap (b.dst.getD 0) bb⟩ : St).get t=st1.get t from rfl,(Zav bx t).1,if_pos e1]
  .rw[if_neg e1];have e3:(⟨al.env,hins al.heap (a.dst.getD 0) ba⟩ : St).get t=al.get t:=rfl;rw[e3,(Zav bg t).1];split
   .rfl
   .rw[show (⟨st1.env,hins st1.heap (b.dst.getD 0) bb⟩ : St).get t=st1.get t from rfl,g1 t e1];rfl
 .rw[(Zav bF 0).2,(Zav bp 0).2,bL,bv];exact ZCa (a.dst.getD 0) (b.dst.getD 0) ba bb (Ne.symm gi) st.heap
theorem ZAD(dP:ZDg ops ra ni){k i e:Nat}{a b:Oper}(ha:ops[k]?=some a)(hb:ops[i]?=some b)(d1:disj a.dst (ZfB ops b)=true)(d2:disj b.dst (ZfB ops a)=true)(d3:ZoF a.dst b.dst=true)(eW:plOf ra k a=some e)(fF:Zmf ra i b=true)(ij:b.dst.getD 0≠e)
  {st st1 st2:St} {o1 o2:List Prop} (h1:Zfg P N T ops ra ak ni k st=some (st1,o1)) (h2:Zfg P N T ops ra ak ni i st1=some (st2,o2))
  (hJ:∀o,ops[i]?=some o->clsX ra i o=3->Ziu st (o.dst.getD 0) N=true) :
  ∃al aN,Zfg P N T ops ra ak ni i st=some (al,o2)/\Zfg P N T ops ra ak ni k al=some (aN,o1)/\Eqv aN st2:=by
 obtain⟨a',va,sa,cT,hra,cq,bx⟩:=Zdq h1;obtain⟨b',vb,sb,aQ,bq,c8,bF⟩:=Zdq h2;rw[ha]at cT;cases cT;rw[hb]at aQ;cases aQ;obtain⟨ba,jr,rfl,sa3,gZ⟩:=ZnV eW hra;obtain⟨bb,iR,iS,rfl,g3⟩:=Znd fF bq;have bL:st1.heap=hrep st.heap e ba:=(Zav bx 0).2;have g1:∀t,a.dst≠some t->st1.get t=st.get t:=fun t ht=>by rw[(Zav bx t).1,if_neg ht];rfl
 have js:Zdr N (b.dst.getD 0) st=true:=by
  refine ZmE (hJ b hb (ZmX fF)) ?_;have:=(ZcR iS).2;rw[bL]at this;exact Zrw (Ne.symm ij) (fun b0 h0=>sa3 _ b0 ij h0) this
 have bI:=g3 st (fun t ht=>(g1 t (Zbc d1 ht)).symm) js;obtain⟨al,bg⟩:=ZdR (st2:=⟨st.env,hins st.heap (b.dst.getD 0) bb⟩) bF;have g2:∀t,b.dst≠some t->al.get t=st.get t:=fun t ht=>by rw[(Zav bg t).1,if_neg ht];rfl
 have bv:al.heap=hins st.heap (b.dst.getD 0) bb:=(Zav bg 0).2;have bX:=gZ al (fun t ht=>g2 t (Zbc d2 ht)) (by rw[bv,ZeO,if_neg ij]);obtain⟨aN,bp⟩:=ZdR (st2:=⟨al.env,hrep al.heap e ba⟩) bx;have xb:bxOk (ZfO ak (ops.size+i)) st b.op=true:=by rw[ZdV (st:=st1) _ (fun t ht=>(g1 t (Zbc d1 ht)).symm)];exact ZdL h2 hb
 have xa:bxOk (ZfO ak (ops.size+k)) al a.op=true:=by rw[ZdV (st:=st) _ (fun t ht=>g2 t (Zbc d2 ht))];exact ZdL h1 ha
 refine⟨al,aN,Zff hb xb bI c8 bg,Zff ha xa bX cq bp,⟨fun t=>?_,?_⟩⟩
 .rw[(Zav bF t).1,(Zav bp t).1];have hd:¬(a.dst=some t/\b.dst=some t):=by
   rintro ⟨e1,e2⟩;rw[e1,e2]at d3;simp[ZoF]at d3
  by_cases e1:a.dst=some t
  .rw[if_pos e1,if_neg (fun e2=>hd ⟨e1,e2⟩)];show (⟨st1.env,_⟩ : St).get t=_;rw[show (⟨st1.env,hins st1.heap (b.dst.getD 0) bb⟩ : St).get t=st1.get t from rfl,(Zav bx t).1,if_pos e1]
  .rw[if_neg e1];have e3:(⟨al.env,hrep al.heap e ba⟩ : St).get t=al.get t:=rfl;rw[e3,(Zav bg t).1];split
   .rfl
   .rw[show (⟨st1.env,hins st1.heap (b.dst.getD 0) bb⟩ : St).get t=st1.get t from rfl,g1 t e1];rfl
 .rw[(Zav bF 0).2,(Zav bp 0).2];simp only;rw[bL,bv,ZBZ ij]
theorem ZAC(dP:ZDg ops ra ni){k i e:Nat}{a b:Oper}(ha:ops[k]?=some a)(hb:ops[i]?=some b)(d1:disj a.dst (ZfB ops b)=true)(d2:disj b.dst (ZfB ops a)=true)(d3:ZoF a.dst b.dst=true)(eW:Zmf ra k a=true)(fF:plOf ra i b=some e)(ij:a.dst.getD 0≠e)
  (hne:k≠i) (hki:k ∉ ZfO ak i) {st st1 st2:St} {o1 o2:List Prop} (h1:Zfg P N T ops ra ak ni k st=some (st1,o1)) (h2:Zfg P N T ops ra ak ni i st1=some (st2,o2)) :
  ∃al aN,Zfg P N T ops ra ak ni i st=some (al,o2)/\Zfg P N T ops ra ak ni k al=some (aN,o1)/\Eqv aN st2:=by
 obtain⟨a',va,sa,cT,hra,cq,bx⟩:=Zdq h1;obtain⟨b',vb,sb,aQ,bq,c8,bF⟩:=Zdq h2;rw[ha]at cT;cases cT;rw[hb]at aQ;cases aQ;obtain⟨ba,jr,ii,rfl,gZ⟩:=Znd eW hra;obtain⟨bb,iR,rfl,sb3,g3⟩:=ZnV fF bq;have bL:st1.heap=hins st.heap (a.dst.getD 0) ba:=(Zav bx 0).2;have g1:∀t,a.dst≠some t->st1.get t=st.get t:=fun t ht=>by rw[(Zav bx t).1,if_neg ht];rfl
 have bI:=g3 st (fun t ht=>(g1 t (Zbc d1 ht)).symm) (by rw[bL,ZeO,if_neg ij]);obtain⟨al,bg⟩:=ZdR (st2:=⟨st.env,hrep st.heap e bb⟩) bF;have g2:∀t,b.dst≠some t->al.get t=st.get t:=fun t ht=>by rw[(Zav bg t).1,if_neg ht];rfl
 have bv:al.heap=hrep st.heap e bb:=(Zav bg 0).2;have gM:Zdr N (a.dst.getD 0) al=true:=by
  obtain⟨q1,q2⟩:=ZcR ii;refine ZmE (ZlI (st1:=⟨st.env,hrep st.heap e bb⟩) q1 (fun t=>rfl) (Zri c8 (dP k a ha (ZmX eW)) hne hki) bg) ?_;rw[bv];exact Zvq (iR _ ij) q2
 have bX:=gZ al (fun t ht=>g2 t (Zbc d2 ht)) gM;obtain⟨aN,bp⟩:=ZdR (st2:=⟨al.env,hins al.heap (a.dst.getD 0) ba⟩) bx;have xb:bxOk (ZfO ak (ops.size+i)) st b.op=true:=by rw[ZdV (st:=st1) _ (fun t ht=>(g1 t (Zbc d1 ht)).symm)];exact ZdL h2 hb
 have xa:bxOk (ZfO ak (ops.size+k)) al a.op=true:=by rw[ZdV (st:=st) _ (fun t ht=>g2 t (Zbc d2 ht))];exact ZdL h1 ha
 refine⟨al,aN,Zff hb xb bI c8 bg,Zff ha xa bX cq bp,⟨fun t=>?_,?_⟩⟩
 .rw[(Zav bF t).1,(Zav bp t).1];have hd:¬(a.dst=some t/\b.dst=some t):=by
   rintro ⟨e1,e2⟩;rw[e1,e2]at d3;simp[ZoF]at d3
  by_cases e1:a.dst=some t
  .rw[if_pos e1,if_neg (fun e2=>hd ⟨e1,e2⟩)];show (⟨st1.env,_⟩ : St).get t=_;rw[show (⟨st1.env,hrep st1.heap e bb⟩ : St).get t=st1.get t from rfl,(Zav bx t).1,if_pos e1]
  .rw[if_neg e1];have e3:(⟨al.env,hins al.heap (a.dst.getD 0) ba⟩ : St).get t=al.get t:=rfl;rw[e3,(Zav bg t).1];split
   .rfl
   .rw[show (⟨st1.env,hrep st1.heap e bb⟩ : St).get t=st1.get t from rfl,g1 t e1];rfl
 .rw[(Zav bF 0).2,(Zav bp 0).2];simp only;rw[bL,bv,ZBZ ij]
theorem ZCP{op:Op}{st:St}{c:Nat}{l:List Nat}(h:bxOk (c :: l) st op=true)(hl:isLd op=true):∀x∈Zcv op,∀id,(evo st x).says id=true->id=c:=by
 unfold bxOk at h;cases op<;>simp only[isLd]at hl<;>try (cases hl;done)
 rename_i t y;intro x hx id hs;simp only[Zcv,List.mem_singleton]at hx;subst hx;simp only at h;split at h
 .rename_i d off hq;rw[hq]at hs;simp only[V.says,C.says]at hs;rw[<-ZaB h];exact(ZaB hs).symm
 .rename_i hq;rw[hq]at hs;simp only[V.says,C.says]at hs;cases hs
 .cases h
theorem ZAB{k i e c:Nat}{l:List Nat}{a b:Oper}(ha:ops[k]?=some a)(hb:ops[i]?=some b)(d1:disj a.dst (ZfB ops b)=true)(d2:disj b.dst (ZfB ops a)=true)(d3:ZoF a.dst b.dst=true)(fJ:isLd a.op=true)(cn:ZcL ra.hc k=none)(fm:ZfO ak (ops.size+k)=c :: l)(fF:plOf ra i b=some e)(lC:c≠e)
  {st st1 st2:St} {o1 o2:List Prop} (h1:Zfg P N T ops ra ak ni k st=some (st1,o1)) (h2:Zfg P N T ops ra ak ni i st1=some (st2,o2)) :
  ∃al aN,Zfg P N T ops ra ak ni i st=some (al,o2)/\Zfg P N T ops ra ak ni k al=some (aN,o1)/\Eqv aN st2:=by
 obtain⟨a',va,sa,cT,hra,cq,bx⟩:=Zdq h1;obtain⟨b',vb,sb,aQ,bq,c8,bF⟩:=Zdq h2;rw[ha]at cT;cases cT;rw[hb]at aQ;cases aQ;have dK:=ZdL h1 ha;rw[fm]at dK;have c1:clsX ra k a=1:=by
  rw[Zjc cn];cases hq:a.op<;>rw[hq]at fJ<;>first | (cases fJ;done)|rfl
 obtain⟨ea,iV,_⟩:=Zfm (st2:=st) (by omega) (fun t _=>rfl) (fun _=>rfl) (fun _ h=>h) hra;have cR:st1.heap=st.heap:=(Zav bx 0).2.trans (iV (by omega));have g1:∀t,a.dst≠some t->st1.get t=st.get t:=fun t ht=>by rw[(Zav bx t).1,if_neg ht];exact ZjH ea t
 have eb:=ZqX bq;obtain⟨bb,iR,rfl,sb3,g3⟩:=ZnV fF bq;have bI:=g3 st (fun t ht=>(g1 t (Zbc d1 ht)).symm) (by rw[cR]);obtain⟨al,bg⟩:=ZdR (st2:=⟨st.env,hrep st.heap e bb⟩) bF;have g2:∀t,b.dst≠some t->al.get t=st.get t:=fun t ht=>by rw[(Zav bg t).1,if_neg ht];rfl
 have bv:al.heap=hrep st.heap e bb:=(Zav bg 0).2;have bX:Zdt P N T ops ra k a al=some (va,o1,al):=by
  refine ZlJ c1 (fun t ht=>g2 t (Zbc d2 ht)) (fun x dZ id b0 dB bD=>?_) hra;have hid:=ZCP dK fJ x dZ id dB;rw[bv,ZsH,if_neg (by rw[hid];exact Ne.symm lC)];exact bD
 obtain⟨aN,bp⟩:=ZdR (st2:=al) bx;have xb:bxOk (ZfO ak (ops.size+i)) st b.op=true:=by rw[ZdV (st:=st1) _ (fun t ht=>(g1 t (Zbc d1 ht)).symm)];exact ZdL h2 hb
 have xa:bxOk (ZfO ak (ops.size+k)) al a.op=true:=by rw[ZdV (st:=st) _ (fun t ht=>g2 t (Zbc d2 ht))];exact ZdL h1 ha
 refine⟨al,aN,Zff hb xb bI c8 bg,Zff ha xa bX cq bp,⟨fun t=>?_,?_⟩⟩
 .rw[(Zav bF t).1,(Zav bp t).1];have hd:¬(a.dst=some t/\b.dst=some t):=by
   rintro ⟨e1,e2⟩;rw[e1,e2]at d3;simp[ZoF]at d3
  by_cases e1:a.dst=some t
  .rw[if_pos e1,if_neg (fun e2=>hd ⟨e1,e2⟩),ZjH eb,(Zav bx t).1,if_pos e1]
  .rw[if_neg e1];rw[(Zav bg t).1];split
   .rfl
   .rw[ZjH eb,g1 t e1];rfl
 .rw[(Zav bF 0).2,(Zav bp 0).2,bv];simp only;rw[cR]
theorem ZAA{k i e c:Nat}{l:List Nat}{a b:Oper}(ha:ops[k]?=some a)(hb:ops[i]?=some b)(d1:disj a.dst (ZfB ops b)=true)(d2:disj b.dst (ZfB ops a)=true)(d3:ZoF a.dst b.dst=true)(lE:isLd b.op=true)(cn:ZcL ra.hc i=none)(lF:ZfO ak (ops.size+i)=c :: l)(eW:plOf ra k a=some e)(lC:c≠e)
  {st st1 st2:St} {o1 o2:List Prop} (h1:Zfg P N T ops ra ak ni k st=some (st1,o1)) (h2:Zfg P N T ops ra ak ni i st1=some (st2,o2)) :
  ∃al aN,Zfg P N T ops ra ak ni i st=some (al,o2)/\Zfg P N T ops ra ak ni k al=some (aN,o1)/\Eqv aN st2:=by
 obtain⟨a',va,sa,cT,hra,cq,bx⟩:=Zdq h1;obtain⟨b',vb,sb,aQ,bq,c8,bF⟩:=Zdq h2;rw[ha]at cT;cases cT;rw[hb]at aQ;cases aQ;have gN:=ZdL h2 hb;rw[lF]at gN;have c1:clsX ra i b=1:=by
  rw[Zjc cn];cases hq:b.op<;>rw[hq]at lE<;>first | (cases lE;done)|rfl
 obtain⟨ba,jr,rfl,sa3,gZ⟩:=ZnV eW hra;have bL:st1.heap=hrep st.heap e ba:=(Zav bx 0).2;have g1:∀t,a.dst≠some t->st1.get t=st.get t:=fun t ht=>by rw[(Zav bx t).1,if_neg ht];rfl
 obtain⟨eb,kT,_⟩:=Zfm (st2:=st1) (by omega) (fun t _=>rfl) (fun _=>rfl) (fun _ h=>h) bq;have bI:Zdt P N T ops ra i b st=some (vb,o2,st):=by
  refine ZlJ c1 (fun t ht=>(g1 t (Zbc d1 ht)).symm) (fun x dZ id b0 dB bD=>?_) bq;have hid:=ZCP gN lE x dZ id dB;rw[bL,ZsH,if_neg (by rw[hid];exact Ne.symm lC)]at bD;exact bD
 obtain⟨al,bg⟩:=ZdR (st2:=st) bF;have g2:∀t,b.dst≠some t->al.get t=st.get t:=fun t ht=>by rw[(Zav bg t).1,if_neg ht]
 have bv:al.heap=st.heap:=(Zav bg 0).2;have bX:=gZ al (fun t ht=>g2 t (Zbc d2 ht)) (by rw[bv]);obtain⟨aN,bp⟩:=ZdR (st2:=⟨al.env,hrep al.heap e ba⟩) bx;have xb:bxOk (ZfO ak (ops.size+i)) st b.op=true:=by rw[ZdV (st:=st1) _ (fun t ht=>(g1 t (Zbc d1 ht)).symm)];exact ZdL h2 hb
 have xa:bxOk (ZfO ak (ops.size+k)) al a.op=true:=by rw[ZdV (st:=st) _ (fun t ht=>g2 t (Zbc d2 ht))];exact ZdL h1 ha
 refine⟨al,aN,Zff hb xb bI c8 bg,Zff ha xa bX cq bp,⟨fun t=>?_,?_⟩⟩
 .rw[(Zav bF t).1,(Zav bp t).1];have hd:¬(a.dst=some t/\b.dst=some t):=by
   rintro ⟨e1,e2⟩;rw[e1,e2]at d3;simp[ZoF]at d3
  by_cases e1:a.dst=some t
  .rw[if_pos e1,if_neg (fun e2=>hd ⟨e1,e2⟩),ZjH eb,(Zav bx t).1,if_pos e1]
  .rw[if_neg e1];rw[show (⟨al.env,hrep al.heap e ba⟩ : St).get t=al.get t from rfl,(Zav bg t).1];split
   .rfl
   .rw[ZjH eb,g1 t e1]
 .rw[(Zav bF 0).2,(Zav bp 0).2,kT (by omega),bL,bv]
theorem ZFf{T:Tab}{st st':St}{t d off:Nat}{v:V}{an:Option Ans}{obl:List Prop}(h:ZoD T st t (.one (.ptr d off)) v an=some (obl,st')):∀id,id≠d->hget st'.heap id=hget st.heap id:=by
 intro id hne;unfold ZoD at h;split at h
 .split at h
  .simp only at h;split at h
   .split at h
    .cases h;simp only[Zqv];rw[if_neg (Ne.symm hne)]
    .cases h
   .cases h
  .cases h
 .cases h
theorem ZKv{o:Oper}{i d off:Nat}{st st':St}{t:TypeId}{x y:Operand}{v:V}{obl:List Prop}(ho:o.op=.store t x y)(hx:evo st x=.one (.ptr d off))(h:ZnD P N T ops ra i o st=some (v,obl,st')):∀id,id≠d->hget st'.heap id=hget st.heap id:=by
 intro id hne;unfold ZnD at h;split at h
 .cases h
 .cases h;rfl
 .split at h
  .cases h
  rename_i v0 c7 st0 bj;split at h
  .cases h
  split at h;rotate_left
  .cases h
  split at h;rotate_left
  .cases h
  cases h;unfold evOp at bj;simp only[ho,hx]at bj;split at bj
  .rename_i q hq;cases bj;exact ZFf hq id hne
  .cases bj
theorem ZDY{k i:Nat}(aJ:okLS ops ra ak k i=true){st st1 st2:St}{o1 o2:List Prop}(h1:Zfg P N T ops ra ak ni k st=some (st1,o1))(h2:Zfg P N T ops ra ak ni i st1=some (st2,o2)) :
  ∃al aN,Zfg P N T ops ra ak ni i st=some (al,o2)/\Zfg P N T ops ra ak ni k al=some (aN,o1)/\Eqv aN st2:=by
 obtain⟨a,va,sa,ha,hra,cq,bx⟩:=Zdq h1;obtain⟨b,vb,sb,hb,bq,c8,bF⟩:=Zdq h2;have dK:=ZdL h1 ha;have gN:=ZdL h2 hb;unfold okLS at aJ;rw[ha,hb]at aJ;split at aJ;rotate_left
 .cases aJ
 rename_i a' b' c l d l' ea eb fm lF;cases ea;cases eb;simp only[Bool.and_eq_true,Bool.not_eq_true',Option.isNone_iff_eq_none]at aJ;obtain⟨⟨⟨⟨⟨⟨⟨d1,d2⟩,d3⟩,fJ⟩,eX⟩,cn⟩,hk2⟩,iW⟩:=aJ;have iW:c≠d:=Nat.ne_of_beq_eq_false iW;rw[fm]at dK;rw[lF]at gN;have c1:clsX ra k a=1:=by
  rw[Zjc cn];cases hq:a.op<;>rw[hq]at fJ<;>first | (cases fJ;done)|rfl
 have c2:clsX ra i b=2:=by
  rw[Zjc hk2];cases hq:b.op<;>rw[hq]at eX<;>first | (cases eX;done)|rfl
 obtain⟨ea,iV,_⟩:=Zfm (st2:=st) (by omega) (fun t _=>rfl) (fun _=>rfl) (fun _ h=>h) hra;have cR:st1.heap=st.heap:=(Zav bx 0).2.trans (iV (by omega));have g1:∀t,a.dst≠some t->st1.get t=st.get t:=fun t ht=>by rw[(Zav bx t).1,if_neg ht];exact ZjH ea t
 obtain⟨eb,_,bI⟩:=Zfm (st2:=st) (by omega) (fun t ht=>(g1 t (Zbc d1 ht)).symm) (fun _=>cR.symm) (fun h=>by omega) bq;rw[if_neg (by omega)]at bI;obtain⟨al,bg⟩:=ZdR (st2:=⟨st.env,sb.heap⟩) bF;have g2:∀t,b.dst≠some t->al.get t=st.get t:=fun t ht=>by rw[(Zav bg t).1,if_neg ht];rfl
 have gj:al.heap=sb.heap:=(Zav bg 0).2;have lG:∀id,id≠d->hget sb.heap id=hget st.heap id:=by
  intro id hne;rw[<-cR];unfold Zdt at bq;rw[hk2]at bq;simp only at bq;unfold bxOk at gN;cases hq:b.op<;>rw[hq]at eX<;>try (cases eX;done)
  rename_i t x y;rw[hq]at gN;simp only at gN;split at gN
  .rename_i d' off hx;have:=ZaB gN;subst this;exact ZKv hq hx bq id hne
  .cases gN
 have bX:Zdt P N T ops ra k a al=some (va,o1,al):=by
  refine ZlJ c1 (fun t ht=>g2 t (Zbc d2 ht)) (fun x dZ id bb dB aQ=>?_) hra;rw[gj,lG id ?_]
  .exact aQ
  rintro rfl;unfold bxOk at dK;cases hq:a.op<;>rw[hq]at fJ<;>try (cases fJ;done)
  rename_i t y;rw[hq]at dK dZ;simp only[Zcv,List.mem_singleton]at dZ;subst dZ;simp only at dK;split at dK
  .rename_i d' off hx;have:=ZaB dK;subst this;simp only[hx,V.says,C.says]at dB;exact iW (ZaB dB)
  .rename_i hx;simp only[hx,V.says,C.says]at dB;cases dB
  .cases dK
 obtain⟨aN,bp⟩:=ZdR (st2:=al) bx;have xb:bxOk (ZfO ak (ops.size+i)) st b.op=true:=by rw[ZdV (st:=st1) _ (fun t ht=>(g1 t (Zbc d1 ht)).symm)];exact ZdL h2 hb
 have xa:bxOk (ZfO ak (ops.size+k)) al a.op=true:=by rw[ZdV (st:=st) _ (fun t ht=>g2 t (Zbc d2 ht))];exact ZdL h1 ha
 refine⟨al,aN,Zff hb xb bI c8 bg,Zff ha xa bX cq bp,⟨fun t=>?_,?_⟩⟩
 .rw[(Zav bF t).1,(Zav bp t).1];have hd:¬(a.dst=some t/\b.dst=some t):=by
   rintro ⟨e1,e2⟩;rw[e1,e2]at d3;simp[ZoF]at d3
  by_cases e1:a.dst=some t
  .rw[if_pos e1,if_neg (fun e2=>hd ⟨e1,e2⟩),ZjH eb,(Zav bx t).1,if_pos e1]
  .rw[if_neg e1,(Zav bg t).1];split
   .rfl
   .rw[ZjH eb,g1 t e1];rfl
 .rw[(Zav bF 0).2,(Zav bp 0).2,gj]
theorem ZwV{st st1:St}{d t:Nat}{s x:V}{an:Option Ans}{v:V}{obl:List Prop}(hn:hget st.heap d=none)(h:ZkO N T st d t s x an=some (v,obl,st1)):∀id l,hget st.heap id=some (.box l)->hget st1.heap id=some (.box l):=by
 intro id' l' hb;have hd:d≠id':=by
  rintro rfl;rw[hn]at hb;cases hb
 unfold ZkO at h
 repeat' split at h
 all_goals first | (cases h;done)|skip
 all_goals (simp only[Option.some.injEq,Prod.mk.injEq]at h;obtain⟨_,_,rfl⟩:=h)
 .rw[Zbh,if_neg hd,Zmg,if_neg]
  .exact hb
  .rintro rfl;simp_all
 .show hget (hins _ _ _) _=_;rw[ZeO,if_neg hd];exact hb
theorem ZID{st:St}{t id off:Nat}{r:V×List Prop}(h:Zpd T st t (.one (.ptr id off))=some r):∃l,hget st.heap id=some (.box l):=by
 unfold Zpd at h;split at h
 .cases h
 split at h
 .cases h
 simp only at h;split at h
 .rename_i l hl;exact⟨l,hl⟩
 .cases h
theorem ZEa{k i:Nat}(aJ:okLA ops ra ak k i=true){st st1 st2:St}{o1 o2:List Prop}(h1:Zfg P N T ops ra ak ni k st=some (st1,o1))(h2:Zfg P N T ops ra ak ni i st1=some (st2,o2))
  (hJ:∀o,ops[i]?=some o->clsX ra i o=3->Ziu st (o.dst.getD 0) N=true) :
  ∃al aN,Zfg P N T ops ra ak ni i st=some (al,o2)/\Zfg P N T ops ra ak ni k al=some (aN,o1)/\Eqv aN st2:=by
 obtain⟨a,va,sa,ha,hra,cq,bx⟩:=Zdq h1;obtain⟨b,vb,sb,hb,bq,c8,bF⟩:=Zdq h2;have dK:=ZdL h1 ha;unfold okLA at aJ;rw[ha,hb]at aJ;split at aJ;rotate_left
 .cases aJ
 rename_i a' b' c l ea eb fm;cases ea;cases eb;simp only[Bool.and_eq_true,Bool.not_eq_true',Option.isNone_iff_eq_none]at aJ;obtain⟨⟨⟨⟨⟨⟨⟨⟨d1,d2⟩,d3⟩,fJ⟩,eX⟩,hga⟩,cn⟩,hk2⟩,iW⟩:=aJ;have iW:c≠99998:=Nat.ne_of_beq_eq_false iW;rw[fm]at dK;obtain⟨ta,xa,gM⟩ : ∃t x,a.op=.load t x:=by
  cases hq:a.op<;>rw[hq]at fJ<;>first | (cases fJ;done)|exact⟨_,_,rfl⟩
 have c1:clsX ra k a=1:=by rw[Zjc cn,gM];rfl
 have c2:clsX ra i b=3:=by
  rw[Zjc hk2];unfold ZQD at eX;split at eX
  .rename_i hq;split at eX
   .rename_i hw;rw[hq];simp only[ZeT,hw]
   .cases eX
  .cases eX
 -- where the load looks
 obtain⟨off,hxa⟩ : ∃off,evo st xa=.one (.ptr c off):=by
  unfold bxOk at dK;rw[gM]at dK;simp only at dK;split at dK
  .rename_i d' off hx;have:=ZaB dK;subst this;exact⟨off,hx⟩
  .exact absurd (ZaB dK).symm iW
  .cases dK
 obtain⟨bl,hbl⟩ : ∃l,hget st.heap c=some (.box l):=by
  unfold Zdt at hra;rw[cn]at hra;simp only[ZnD,Zhe,hga,evOp,gM,hxa]at hra;cases hl:Zpd T st ta (.one (.ptr c off))with
  |none=>rw[hl]at hra;cases hra
  |some r=>exact ZID hl
 obtain⟨ea,iV,_⟩:=Zfm (st2:=st) (by omega) (fun t _=>rfl) (fun _=>rfl) (fun _ h=>h) hra;have cR:st1.heap=st.heap:=(Zav bx 0).2.trans (iV (by omega));have g1:∀t,a.dst≠some t->st1.get t=st.get t:=fun t ht=>by rw[(Zav bx t).1,if_neg ht];exact ZjH ea t
 have hqt:Zdr N (b.dst.getD 0) st1=true->Zdr N (b.dst.getD 0) st=true:=fun hq=>ZmE (hJ b hb c2) (by rw[<-cR];exact(ZcR hq).2);obtain⟨eb,_,bI⟩:=Zfm (st2:=st) (by omega) (fun t ht=>(g1 t (Zbc d1 ht)).symm) (fun _=>cR.symm) (fun _ hq=>hqt hq) bq;rw[if_neg (by omega)]at bI;obtain⟨al,bg⟩:=ZdR (st2:=⟨st.env,sb.heap⟩) bF;have g2:∀t,b.dst≠some t->al.get t=st.get t:=fun t ht=>by rw[(Zav bg t).1,if_neg ht];rfl
 have gj:al.heap=sb.heap:=(Zav bg 0).2;have cF:hget sb.heap c=some (.box bl):=by
  have bV:hget st1.heap c=some (.box bl):=by rw[cR];exact hbl
  unfold Zdt at bq;rw[hk2]at bq;simp only at bq;have dY:ZeT ra i b.op=3:=by rw[<-Zjc hk2];exact c2
  unfold ZnD at bq;split at bq
  .cases bq
  .cases bq;exact bV
  .split at bq
   .cases bq
   rename_i v0 c7 st0 bj;have iX:=Zrg dY bj;split at bq
   .cases bq
   split at bq;rotate_left
   .cases bq
   split at bq;rotate_left
   .cases bq
   cases bq;unfold ZQD at eX;split at eX
   .rename_i hq;split at eX
    .rename_i hw;simp only[evOp,hq,hw]at bj;split at bj
     .split at bj
      .exact ZwV (Zjd (ZcR iX).2).1 bj c bl bV
      .cases bj
     .cases bj
    .cases eX
   .cases eX
 have bX:Zdt P N T ops ra k a al=some (va,o1,al):=by
  refine ZlJ c1 (fun t ht=>g2 t (Zbc d2 ht)) (fun x dZ id bb dB aQ=>?_) hra;rw[gM]at dZ;simp only[Zcv,List.mem_singleton]at dZ;subst dZ;rw[hxa]at dB;simp only[V.says,C.says]at dB;have:=ZaB dB;subst this;rw[hbl]at aQ;cases aQ;rw[gj];exact cF
 obtain⟨aN,bp⟩:=ZdR (st2:=al) bx;have xb:bxOk (ZfO ak (ops.size+i)) st b.op=true:=by rw[ZdV (st:=st1) _ (fun t ht=>(g1 t (Zbc d1 ht)).symm)];exact ZdL h2 hb
 have xa':bxOk (ZfO ak (ops.size+k)) al a.op=true:=by rw[ZdV (st:=st) _ (fun t ht=>g2 t (Zbc d2 ht))];exact ZdL h1 ha
 refine⟨al,aN,Zff hb xb bI c8 bg,Zff ha xa' bX cq bp,⟨fun t=>?_,?_⟩⟩
 .rw[(Zav bF t).1,(Zav bp t).1];have hd:¬(a.dst=some t/\b.dst=some t):=by
   rintro ⟨e1,e2⟩;rw[e1,e2]at d3;simp[ZoF]at d3
  by_cases e1:a.dst=some t
  .rw[if_pos e1,if_neg (fun e2=>hd ⟨e1,e2⟩),ZjH eb,(Zav bx t).1,if_pos e1]
  .rw[if_neg e1,(Zav bg t).1];split
   .rfl
   .rw[ZjH eb,g1 t e1];rfl
 .rw[(Zav bF 0).2,(Zav bp 0).2,gj]
theorem ZDZ(dP:ZDg ops ra ni){k i:Nat}(aJ:ZEw N ops ra ak k i=true)(hne:k≠i)(hki:k ∉ ZfO ak i){st st1 st2:St}{o1 o2:List Prop}(h1:Zfg P N T ops ra ak ni k st=some (st1,o1))(h2:Zfg P N T ops ra ak ni i st1=some (st2,o2))
  (hJ:∀o,ops[i]?=some o->clsX ra i o=3->Ziu st (o.dst.getD 0) N=true) :
  ∃al aN,Zfg P N T ops ra ak ni i st=some (al,o2)/\Zfg P N T ops ra ak ni k al=some (aN,o1)/\Eqv aN st2:=by
 obtain⟨a,va,sa,ha,hra,cq,bx⟩:=Zdq h1;obtain⟨b,vb,sb,hb,bq,c8,bF⟩:=Zdq h2;unfold ZEw at aJ;rw[Bool.or_eq_true,Bool.or_eq_true,Bool.or_eq_true]at aJ;rcases aJ with ((aJ|aJ)|aJ)|aJ
 rotate_right
 .exact ZEa aJ h1 h2 hJ
 rotate_left
 .exact ZDY aJ h1 h2
 .unfold okLC at aJ;rw[ha,hb]at aJ;simp only[Bool.and_eq_true]at aJ;obtain⟨⟨⟨d1,d2⟩,d3⟩,aJ⟩:=aJ;split at aJ
  .rename_i e iY iZ;rw[Bool.or_eq_true]at aJ;rcases aJ with aJ|aJ
   .rw[Bool.and_eq_true]at aJ;exact ZAD dP ha hb d1 d2 d3 iY aJ.1 (Nat.ne_of_beq_eq_false (by simpa using aJ.2)) h1 h2 hJ
   .simp only[Bool.and_eq_true,Option.isNone_iff_eq_none]at aJ;obtain⟨⟨q1,q2⟩,q3⟩:=aJ;split at q3
    .rename_i c l lH;exact ZAA ha hb d1 d2 d3 q1 q2 lH iY (Nat.ne_of_beq_eq_false (by simpa using q3)) h1 h2
    .cases q3
  .rename_i e iY iZ;rw[Bool.or_eq_true]at aJ;rcases aJ with aJ|aJ
   .rw[Bool.and_eq_true]at aJ;exact ZAC dP ha hb d1 d2 d3 aJ.1 iZ (Nat.ne_of_beq_eq_false (by simpa using aJ.2)) hne hki h1 h2
   .simp only[Bool.and_eq_true,Option.isNone_iff_eq_none]at aJ;obtain⟨⟨q1,q2⟩,q3⟩:=aJ;split at q3
    .rename_i c l lH;exact ZAB ha hb d1 d2 d3 q1 q2 lH iZ (Nat.ne_of_beq_eq_false (by simpa using q3)) h1 h2
    .cases q3
  .cases aJ
 unfold ZPv at aJ;rw[ha,hb]at aJ;simp only[Bool.and_eq_true,Bool.or_eq_true]at aJ;obtain⟨⟨⟨d1,d2⟩,d3⟩,dY⟩:=aJ;rcases dY with (dY|⟨hR1,hR2⟩)|⟨⟨hR1,hR2⟩,hR3⟩;rotate_left
 .exact ZDW dP ha hb d1 d2 d3 hR1 hR2 hne hki h1 h2 hJ
 .exact ZDX dP ha hb d1 d2 d3 (by rw[Bool.or_eq_true];exact hR1) (by rw[Bool.or_eq_true];exact hR2) (fun t ht=>Nat.le_of_ble_eq_true (List.all_eq_true.1 hR3 t ht)) hne hki h1 h2 hJ
 have jP:(clsX ra k a<=1/\clsX ra i b<=1)\/(clsX ra k a=0/\clsX ra i b<=3)\/(clsX ra i b=0/\clsX ra k a<=3)\/(clsX ra k a=3/\clsX ra i b=1/\∀t∈ZfB ops b,t<N)\/(clsX ra k a=1/\clsX ra i b=3/\Zvy ra i b=true):=by
  rcases dY with (((⟨h,h'⟩|⟨h,h'⟩)|⟨h,h'⟩)|⟨⟨h,h'⟩,h''⟩)|⟨⟨h,h'⟩,h''⟩
  .exact .inl ⟨Nat.le_of_ble_eq_true h,Nat.le_of_ble_eq_true h'⟩
  .exact .inr (.inl ⟨ZaB h,Nat.le_of_ble_eq_true h'⟩)
  .exact .inr (.inr (.inl ⟨ZaB h,Nat.le_of_ble_eq_true h'⟩))
  .exact .inr (.inr (.inr (.inl ⟨ZaB h,ZaB h',fun t ht=>Nat.le_of_ble_eq_true (List.all_eq_true.1 h'' t ht)⟩)))
  .exact .inr (.inr (.inr (.inr ⟨ZaB h,ZaB h',h''⟩)))
 -- k at st
 obtain⟨ea,iV,_⟩:=Zfm (st2:=st) (by omega) (fun t _=>rfl) (fun _=>rfl) (fun _ h=>h) hra;have cR:clsX ra k a<=1->st1.heap=st.heap:=fun h=>(Zav bx 0).2.trans (iV h);have g1:∀t,a.dst≠some t->st1.get t=st.get t:=fun t ht=>by rw[(Zav bx t).1,if_neg ht];exact ZjH ea t
 -- i at st
 have hkc:clsX ra k a<=3:=by omega
 have hic:clsX ra i b<=3:=by omega
 obtain⟨eb,kT,bI⟩ : sb.env=st1.env/\(clsX ra i b<=1->sb.heap=st1.heap)/\Zdt P N T ops ra i b st=some (vb,o2,⟨st.env,if clsX ra i b<=1 then st.heap else sb.heap⟩):=by
  by_cases hx:clsX ra k a=3/\clsX ra i b=1
  .obtain⟨e1,e2,_⟩:=Zfm (st2:=st1) (by omega) (fun t _=>rfl) (fun _=>rfl) (fun _ h=>h) bq;refine⟨e1,e2,?_⟩;rw[if_pos (by omega)];have hN:∀t∈ZfB ops b,t<N:=by
    rcases jP with h|h|h|h|h
    .omega
    .omega
    .omega
    .exact h.2.2
    .omega
   refine ZlJ hx.2 (fun t ht=>(g1 t (Zbc d1 ht)).symm) (fun x dZ id bb dB aQ=>?_) bq;rw[(Zav bx 0).2]at aQ;rcases ZHV hx.1 hra with rfl|⟨hq,hn⟩
   .exact aQ
   .rcases hn id bb aQ with rfl|h
    .exfalso;have:(evo st1 x).says (a.dst.getD 0)=false:=by
      cases x with
      |tmp t=>
       have ht:t∈ZfB ops b:=List.mem_append.2 (.inl (ZqR dZ));show (st1.get t).says _=false;rw[g1 t (Zbc d1 ht)];exact Zqo (ZcR hq).1 t (hN t ht)
      |const v=>exact Zxu v _
      |func f=>rfl
      |global g=>rfl
     simp only[this]at dB;cases dB
    .exact h
  .exact Zfm (st2:=st) (by omega) (fun t ht=>(g1 t (Zbc d1 ht)).symm) (fun h=>(cR (by omega)).symm) (fun hc hq=>by
    obtain⟨_,q2⟩:=ZcR hq;refine ZmE (hJ b hb hc) ?_;rw[<-cR (by omega)];exact q2) bq
 obtain⟨al,bg⟩:=ZdR (st2:=⟨st.env,if clsX ra i b<=1 then st.heap else sb.heap⟩) bF;have xb:bxOk (ZfO ak (ops.size+i)) st b.op=true:=by rw[ZdV (st:=st1) _ (fun t ht=>(g1 t (Zbc d1 ht)).symm)];exact ZdL h2 hb
 have cQ:=Zff (ak:=ak) (ni:=ni) hb xb bI c8 bg;have g2:∀t,b.dst≠some t->al.get t=st.get t:=fun t ht=>by rw[(Zav bg t).1,if_neg ht];rfl
 have gj:clsX ra i b<=1->al.heap=st.heap:=fun h=>by rw[(Zav bg 0).2];simp only[if_pos h]
 -- k behind i
 have bX:Zdt P N T ops ra k a al=some (va,o1,⟨al.env,if clsX ra k a<=1 then al.heap else sa.heap⟩):=by
  by_cases hx:clsX ra k a=1/\clsX ra i b=3
  .rw[if_pos (by omega)];have lk:Zvy ra i b=true:=by
    rcases jP with h|h|h|h|h
    .omega
    .omega
    .omega
    .omega
    .exact h.2.2
   refine ZlJ hx.1 (fun t ht=>g2 t (Zbc d2 ht)) (fun x dZ id bb dB aQ=>?_) hra;rw[(Zav bg 0).2];simp only[if_neg (show ¬clsX ra i b<=1 by omega)];have:=ZBj hx.2 lk bI id bb aQ;simpa only[if_neg (show ¬clsX ra i b<=1 by omega)]using this
  .refine(Zfm (st2:=al) (by omega) (fun t ht=>g2 t (Zbc d2 ht)) (fun h=>gj (by omega)) (fun hc hq=>by
    obtain⟨q1,q2⟩:=ZcR hq;refine ZmE (ZlI (st1:=⟨st.env,if clsX ra i b<=1 then st.heap else sb.heap⟩) q1 (fun t=>rfl) (Zri c8 (dP k a ha hc) hne hki) bg) ?_;rw[gj (by omega)];exact q2) hra).2.2
 obtain⟨aN,bp⟩:=ZdR (st2:=⟨al.env,if clsX ra k a<=1 then al.heap else sa.heap⟩) bx;have xa:bxOk (ZfO ak (ops.size+k)) al a.op=true:=by rw[ZdV (st:=st) _ (fun t ht=>g2 t (Zbc d2 ht))];exact ZdL h1 ha
 refine⟨al,aN,cQ,Zff ha xa bX cq bp,⟨fun t=>?_,?_⟩⟩
 .rw[(Zav bF t).1,(Zav bp t).1];have hd:¬(a.dst=some t/\b.dst=some t):=by
   rintro ⟨e1,e2⟩;rw[e1,e2]at d3;simp[ZoF]at d3
  by_cases e1:a.dst=some t
  .rw[if_pos e1,if_neg (fun e2=>hd ⟨e1,e2⟩),ZjH eb,(Zav bx t).1,if_pos e1]
  .rw[if_neg e1];have e3:(⟨al.env,if clsX ra k a<=1 then al.heap else sa.heap⟩ : St).get t=al.get t:=rfl;rw[e3,(Zav bg t).1];split
   .rfl
   .rw[ZjH eb,g1 t e1];rfl
 .rw[(Zav bF 0).2,(Zav bp 0).2];simp only;by_cases c1:clsX ra k a<=1
  .rw[if_pos c1,(Zav bg 0).2];simp only;by_cases c2:clsX ra i b<=1
   .rw[if_pos c2,kT c2,cR c1]
   .rw[if_neg c2]
  .rw[if_neg c1,kT (by omega),(Zav bx 0).2]
theorem ZAz{k i:Nat}(aJ:okLM ops ra k i=true){st st1 st2:St}{o1 o2:List Prop}(h1:Zfg P N T ops ra ak ni k st=some (st1,o1))(h2:Zfg P N T ops ra ak ni i st1=some (st2,o2)) :
  ∃al aN i3,Zfg P N T ops ra ak ni i st=some (al,o2)/\Zfg P N T ops ra ak ni k al=some (aN,i3)/\Eqv aN st2/\((∀q∈o1++o2,q)->∀q∈i3,q):=by
 obtain⟨a,va,sa,ha,hra,cq,bx⟩:=Zdq h1;obtain⟨b,vb,sb,hb,bq,c8,bF⟩:=Zdq h2;have xa0:=ZdL h1 ha;have xb0:=ZdL h2 hb;unfold okLM at aJ;rw[ha,hb]at aJ;simp only at aJ;split at aJ;rotate_left
 .cases aJ
 rename_i t x y t' x' y' hao hbo;simp only[Bool.and_eq_true,Option.isNone_iff_eq_none,List.isEmpty_iff]at aJ;obtain⟨⟨⟨⟨⟨⟨⟨⟨⟨⟨⟨⟨⟨⟨⟨ht,hx⟩,hy⟩,d1⟩,d2⟩,d3⟩,ga⟩,gb⟩,cn⟩,hk2⟩,b1⟩,b2⟩,n1⟩,n2⟩,r1⟩,r2⟩:=aJ;obtain rfl:=Nat.eq_of_beq_eq_true ht;have sT:∀{u v:Operand},Zyr u v=true->∃n,u=.tmp n/\v=.tmp n:=fun{u v} h=>by
  cases u<;>cases v<;>simp only[Zyr]at h<;>(try (cases h;done))
  exact⟨_,rfl,by rw[Nat.eq_of_beq_eq_true h]⟩
 obtain⟨x,rfl,rfl⟩:=sT hx;obtain⟨y,rfl,rfl⟩:=sT hy;have eL:∀s:St,Zdt P N T ops ra k a s=(ZjC P T s t (s.get x) (s.get y) false (ZcL ra.an k)).map fun p=>(p.1,p.2,s):=fun s=>by
  unfold Zdt;rw[cn];simp only[ZnD,Zhe,ga,evOp,hao];have e:∀z,evo s (.tmp z)=s.get z:=fun z=>rfl;rw[e,e];cases ZjC P T s t (s.get x) (s.get y) false (ZcL ra.an k)with
  |none=>rfl
  |some p=>simp only[b1,Zzx,n1,dnV,r1,rlV,Option.map_some]
 have eM:∀s:St,Zdt P N T ops ra i b s=Zjj P T s t (s.get x) (s.get y) (ZcL ra.an i):=fun s=>by
  unfold Zdt;rw[hk2];simp only[ZnD,Zhe,gb,evOp,hbo];have e:∀z,evo s (.tmp z)=s.get z:=fun z=>rfl;rw[e,e];cases Zjj P T s t (s.get x) (s.get y) (ZcL ra.an i)with
  |none=>rfl
  |some p=>simp only[b2,Zzx,n2,dnV,r2,rlV]
 rw[eL]at hra;rw[eM]at bq;have ux:x∈ZfB ops b/\y∈ZfB ops b:=by unfold ZfB;rw[hbo];simp[Zcv,ZtY]
 have uxa:x∈ZfB ops a/\y∈ZfB ops a:=by unfold ZfB;rw[hao];simp[Zcv,ZtY]
 simp only[Option.map_eq_some_iff,Prod.mk.injEq]at hra;obtain⟨p,hp,rfl,rfl,rfl⟩:=hra;obtain⟨va,o1⟩:=p;simp only at hp cq bx;have g1:∀n,a.dst≠some n->st1.get n=st.get n:=fun n hn=>by rw[(Zav bx n).1,if_neg hn]
 have cR:st1.heap=st.heap:=(Zav bx 0).2;rw[g1 x (Zbc d1 ux.1),g1 y (Zbc d1 ux.2)]at bq
 -- the entry
 unfold Zjj at bq;split at bq;rotate_left
 .cases bq
 rename_i kt vt id kt' l kv ik j z0 l' eQ eR fD han;split at bq;rotate_left
 .cases bq
 rename_i z hz f9;cases bq;have i4:Zrk st (st.get x)=some (id,kt',l):=by unfold Zrk at eR ⊢;rw[cR]at eR;exact eR
 obtain⟨hxv,hl⟩:=Zpu i4
 -- the look
 unfold ZjC at hp;rw[eQ,i4,fD]at hp;split at hp;rotate_left
 .cases hp
 rename_i kt0 vt0 _ _ l0 kv0 v0 fz0 e1 e2 e3 e4 e5;cases e2;cases e3;cases e4;rw[hz]at hp;cases hp;have lI:Zjj P T st t (st.get x) (st.get y) (ZcL ra.an i)=some (.tup [(false,[.junk]),(false,[.lit (.int .i64 j)])],[ZnA P kt kv (kv :: l.map (·.1)),MEnt l kv z j l'],{ st with heap:=hset st.heap id (.map kt' l') }):=by
  unfold Zjj;rw[eQ,i4,fD,han];simp only[hz,f9]
 obtain⟨al,bg⟩:=ZdR (st2:=⟨st.env,hset st.heap id (.map kt' l')⟩) bF;have g2:∀n,b.dst≠some n->al.get n=st.get n:=fun n hn=>by rw[(Zav bg n).1,if_neg hn];rfl
 have gj:al.heap=hset st.heap id (.map kt' l'):=(Zav bg 0).2;have lJ:ZjC P T al t (al.get x) (al.get y) false (ZcL ra.an k)=some (va,[ZnA P kt kv (l'.map (·.1)),ZwG l' kv z va]):=by
  rw[g2 x (Zbc d2 uxa.1),g2 y (Zbc d2 uxa.2)];have hm2:Zrk al (st.get x)=some (id,kt',l'):=by
   unfold Zrk;rw[hxv,gj];simp only[Zqv,if_true]
  unfold ZjC;rw[eQ,hm2,fD,e5];simp only[hz]
 have xb:bxOk (ZfO ak (ops.size+i)) st b.op=true:=by rw[ZdV (st:=st1) _ (fun n hn=>(g1 n (Zbc d1 hn)).symm)];exact xb0
 have xa:bxOk (ZfO ak (ops.size+k)) al a.op=true:=by rw[ZdV (st:=st) _ (fun n hn=>g2 n (Zbc d2 hn))];exact xa0
 have cQ:=Zff (ak:=ak) (ni:=ni) hb xb ((eM st).trans lI) c8 bg;obtain⟨aN,bp⟩:=ZdR (st2:=al) bx;have jt:=Zff (ak:=ak) (ni:=ni) ha xa ((eL al).trans (by rw[lJ];rfl)) cq bp;refine⟨al,aN,_,cQ,jt,⟨fun n=>?_,?_⟩,fun hq q hqm=>?_⟩
 .rw[(Zav bF n).1,(Zav bp n).1];have hd:¬(a.dst=some n/\b.dst=some n):=by
   rintro ⟨e1,e2⟩;rw[e1,e2]at d3;simp[ZoF]at d3
  by_cases e1:a.dst=some n
  .rw[if_pos e1,if_neg (fun e2=>hd ⟨e1,e2⟩)];show st1.get n=va;rw[(Zav bx n).1,if_pos e1]
  .rw[if_neg e1,(Zav bg n).1];split
   .rfl
   .show st1.get n=st.get n;exact g1 n e1
 .rw[(Zav bF 0).2,(Zav bp 0).2,gj];show hset st1.heap id (.map kt' l')=_;rw[cR]
 .have q1:ZwG l kv z va:=hq _ (by simp);have q2:ZnA P kt kv (kv :: l.map (·.1)):=hq _ (by simp);have q3:MEnt l kv z j l':=hq _ (by simp);simp only[List.mem_cons,List.not_mem_nil,or_false]at hqm;rcases hqm with rfl|rfl
  .exact q2.sub q3.keys
  .exact q1.ent q3
theorem ZHD(dP:ZDg ops ra ni){k i:Nat}(aJ:Ztv N ops ra ak k i=true)(hne:k≠i)(hki:k ∉ ZfO ak i){st st1 st2:St}{o1 o2:List Prop}(h1:Zfg P N T ops ra ak ni k st=some (st1,o1))(h2:Zfg P N T ops ra ak ni i st1=some (st2,o2))
  (hJ:∀o,ops[i]?=some o->clsX ra i o=3->Ziu st (o.dst.getD 0) N=true) :
  ∃al aN i3,Zfg P N T ops ra ak ni i st=some (al,o2)/\Zfg P N T ops ra ak ni k al=some (aN,i3)/\Eqv aN st2/\((∀q∈o1++o2,q)->∀q∈i3,q):=by
 unfold Ztv at aJ;rw[Bool.or_eq_true]at aJ;rcases aJ with aJ|aJ
 .obtain⟨a,b,h3,h4,h5⟩:=ZDZ dP aJ hne hki h1 h2 hJ;exact⟨a,b,o1,h3,h4,h5,fun h q hq=>h q (List.mem_append.2 (.inl hq))⟩
 .exact ZAz aJ h1 h2
theorem ZJG{i:Nat}{st st2 st':St}{obl:List Prop}(hcls:∀o,ops[i]?=some o->ZyK ra i o=true)(he:Eqv st st2)(h:Zfg P N T ops ra ak ni i st=some (st',obl)):∃aN,Zfg P N T ops ra ak ni i st2=some (aN,obl)/\Eqv st' aN:=by
 obtain⟨o,v,s1,ho,hr,hc,hp⟩:=Zdq h;have e1:=ZqX hr;obtain⟨bY,gY,hph⟩:=ZHW (hcls o ho) he hr;obtain⟨aN,bp⟩:=ZdR (st2:=⟨st2.env,bY⟩) hp;refine⟨aN,Zff ho (by rw[ZdV (ops:=ops) (st:=st) _ (fun t _=>he.env t)];exact ZdL h ho) gY hc bp,fun t=>?_,?_⟩
 .rw[(Zav hp t).1,(Zav bp t).1];split
  .rfl
  .rw[ZjH e1];exact he.env t
 .rw[(Zav hp 0).2,(Zav bp 0).2];exact hph
theorem ZCo:∀{l:List Nat}{st st2 st':St}{obl:List Prop},(∀i∈l,∀o,ops[i]?=some o->ZyK ra i o=true)->Eqv st st2->Zuk P N T ops ra ak ni l st=some (st',obl)->∃aN,Zuk P N T ops ra ak ni l st2=some (aN,obl)/\Eqv st' aN
 | [],st,st2,st',obl,hcls,he,h=>by cases h;exact⟨st2,rfl,he⟩
 |i :: l,st,st2,st',obl,hcls,he,h=>by
  simp only[Zuk]at h
  split at h
  .cases h
  rename_i s1 o1 h1
  split at h
  .cases h
  rename_i s2 o2 h2
  cases h
  obtain⟨s1',h3,h4⟩:=ZJG (hcls i (by simp)) he h1
  obtain⟨s2',h5,h6⟩:=ZCo (fun j hj=>hcls j (by simp[hj])) h4 h2
  exact⟨s2',by simp only[Zuk,h3,h5],h6⟩
theorem Zwc(dP:ZDg ops ra ni){i:Nat}{post:List Nat}:∀{g4:List Nat}{st F:St}{obl:List Prop},(∀k∈g4++post,∀o,ops[k]?=some o->ZyK ra k o=true)->(∀k∈g4,Ztv N ops ra ak k i=true/\k≠i/\k ∉ ZfO ak i/\i ∉ ZfO ak k) ->
  (∀o,ops[i]?=some o->clsX ra i o=3->Ziu st (o.dst.getD 0) N=true)->Zuk P N T ops ra ak ni (g4++i :: post) st=some (F,obl) ->
  ∃st1 oi F' o',Zfg P N T ops ra ak ni i st=some (st1,oi)/\Zuk P N T ops ra ak ni (g4++post) st1=some (F',o')/\Eqv F F'/\((∀q∈obl,q)->∀q∈oi++o',q)
 | [],st,F,obl,hcls,hp,hJ,h=>by
  simp only[List.nil_append,Zuk]at h
  split at h
  .cases h
  rename_i s1 o1 h1
  split at h
  .cases h
  rename_i s2 o2 h2
  cases h
  exact⟨s1,o1,_,o2,h1,h2,Eqv.refl _,fun h q hq=>h q hq⟩
 |k :: g4,st,F,obl,hcls,hp,hJ,h=>by
  simp only[List.cons_append,Zuk]at h
  split at h
  .cases h
  rename_i s1 o1 h1
  split at h
  .cases h
  rename_i s2 o2 h2
  cases h
  obtain⟨aJ,hne,hki,hik⟩:=hp k (by simp)
  obtain⟨a,va,sa,ha,hra,cq,bx⟩:=Zdq h1
  have hJ1:∀o,ops[i]?=some o->clsX ra i o=3->Ziu s1 (o.dst.getD 0) N=true:=fun o ho hc=>by
   have ea:=ZqX hra
   exact ZlI (hJ o ho hc) (ZjH ea) (Zri cq (dP i o ho hc) (Ne.symm hne) hik) bx
  obtain⟨t1,oi,F1,o',h3,h4,h5,h6⟩:=Zwc dP (fun j hj=>hcls j (List.mem_cons_of_mem _ hj)) (fun k' hk'=>hp k' (by simp[hk'])) hJ1 h2
  obtain⟨t1',t2',i3,h7,h8,h9,h12⟩:=ZHD dP aJ hne hki h1 h3 hJ
  obtain⟨F2,lK,gO⟩:=ZCo (l:=g4++post) (fun j hj=>hcls j (List.mem_cons_of_mem _ hj)) (st:=t1) (st2:=t2') ⟨fun t=>(h9.env t).symm,h9.heap.symm⟩ h4
  refine⟨t1',oi,F2,i3++o',h7,by simp only[List.cons_append,Zuk,h8,lK],h5.trans gO,fun dr q hq=>?_⟩
  have lL:=h6 fun q hq=>dr q (List.mem_append.2 (.inr hq))
  rcases List.mem_append.1 hq with hq|hq
  .exact lL q (List.mem_append.2 (.inl hq))
  .rcases List.mem_append.1 hq with hq|hq
   .refine h12 (fun q hq=>?_) q hq
    rcases List.mem_append.1 hq with hq|hq
    .exact dr q (List.mem_append.2 (.inl hq))
    .exact lL q (List.mem_append.2 (.inl hq))
   .exact lL q (List.mem_append.2 (.inr hq))
end
end Go.Proofs.YtlpdogaifdeomaaGreat
