import Derived.Test.YtmnloegcpaahcaaGreatDAmQ
namespace Go.Proofs.YtmnloegcpaahcaaGreat
open Go.RowKit
set_option linter.unusedSimpArgs false
set_option linter.unusedVariables false
def ZuD:List Operand->List Nat | []=>[] | .tmp t :: l=>t :: ZuD l|_ :: l=>ZuD l
def Zga(ops:Array Oper)(o:Oper):List Nat:=ZuD (ZcD o.op)++match o.guard with
 |none=>[]
 |some (j,_)=>match (ops[j]?).bind (·.dst)with
  |some t=>[t]
  |none=>[]
theorem Zru{t:Nat}:∀{l:List Operand},Operand.tmp t∈l->t∈ZuD l
 | [],h=>by cases h
 |x :: l,h=>by
  rcases List.mem_cons.1 h with rfl|h
  .simp[ZuD]
  .have:=Zru h
   cases x<;>simp[ZuD,this]
theorem ZmR{st st2:St}{ops:Array Oper}{o:Oper}(h:∀t∈Zga ops o,st2.get t=st.get t):∀x∈ZcD o.op,evo st2 x=evo st x:=by
 intro x hx;cases x with
 |tmp t=>exact h t (List.mem_append.2 (.inl (Zru hx)))
 |_=>rfl
theorem Zmh{st st2:St}{ops:Array Oper}{o:Oper}(h:∀t∈Zga ops o,st2.get t=st.get t):Zhh ops st2 o=Zhh ops st o:=by
 unfold Zhh;split
 .rfl
 .rename_i j want hg;split
  .rename_i t ht;rw[h t (by unfold Zga;rw[hg];simp[ht])]
  .rfl
theorem ZrK{P:Program}{N:Nat}{T:Tab}{st:St}{o:Oper}{ra:RA}{i:Nat}{p:V×List Prop×St}(hc:Zfw ra i o.op=3)(h:evOp P N T o st (ZcX ra.an i)=some p):ZdM N (o.dst.getD 0) st=true:=by
 obtain⟨dst,op,type,dM,after,guard⟩:=o;simp only at hc;have bZ:∀{l},Zrm N st (dst.getD 0) l=some p->ZdM N (dst.getD 0) st=true:=by
  intro l hb;unfold Zrm at hb;split at hb
  .assumption
  .cases hb
 cases op<;>(try (simp only[Zfw]at hc))<;>(try (exact absurd hc (by decide)))
 case move x=>split at hc<;>cases hc
 case assign x=>split at hc<;>cases hc
 case alloc e=>
  simp only[evOp]at h
  repeat' split at h
  all_goals first | (cases h;done)|exact bZ h
 case box e x=>
  simp only[evOp]at h
  repeat' split at h
  all_goals first | (cases h;done)|exact bZ h
 case makeSlice t l c=>
  split at hc
  .cases hc
  rename_i hx;simp only[evOp]at h;split at h
  .rename_i hk;exact absurd hk (hx _ _)
  .cases h
  unfold Znw at h
  repeat' split at h
  all_goals first | (cases h;done)|assumption
 case buildSlice t n ps=>
  split at hc
  .rename_i n' c' bf;simp only[evOp]at h;unfold ZfH at h;rw[bf]at h
   repeat' split at h
   all_goals first | (cases h;done)|assumption | (rename_i hx;exact absurd rfl (hx _ _))
  .cases hc
 case call c=>
  obtain⟨callee,args,bk⟩:=c;cases callee with
  |value f=>simp only[Zfw]at hc;cases hc
  |invoke r n=>simp only[Zfw]at hc;cases hc
  |builtin b=>
   cases b<;>(try (simp only[Zfw]at hc))<;>(try (exact absurd hc (by decide)))
   case append=>
    split at hc
    .cases hc
    rename_i bf;simp only[evOp]at h;split at h;rotate_left
    .cases h
    split at h;rotate_left
    .cases h
    unfold Zkr at h
    repeat' split at h
    all_goals first | (cases h;done)|assumption
theorem ZCi{P:Program}{N:Nat}{T:Tab}{ops:Array Oper}{ra:RA}{i:Nat}{o:Oper}{st st1 st2:St}{v:V}{obl:List Prop}(hc:Zfw ra i o.op<=3)(hu:∀t∈Zga ops o,st2.get t=st.get t)
  (hh:Zfw ra i o.op≠0->st2.heap=st.heap) (hq:Zfw ra i o.op=3->ZdM N (o.dst.getD 0) st=true->ZdM N (o.dst.getD 0) st2=true) (h:ZnC P N T ops ra i o st=some (v,obl,st1)) :
  st1.env=st.env/\(Zfw ra i o.op<=1->st1.heap=st.heap)/\ZnC P N T ops ra i o st2=some (v,obl,⟨st2.env,if Zfw ra i o.op<=1 then st2.heap else st1.heap⟩):=by
 unfold ZnC at h ⊢;rw[Zmh hu];split at h
 .cases h
 .cases h;refine⟨rfl,fun _=>rfl,?_⟩;split
  .rfl
  .rename_i bX;rw[<-hh (by omega)]
 .have he:=ZmR hu;split at h
  .cases h
  rename_i v0 cA st0 aZ;split at h
  .cases h
  rename_i v' obl' hd;split at h;rotate_left
  .cases h
  rename_i v'' fd;split at h;rotate_left
  .cases h
  rename_i v3 obl3 eH;cases h;refine⟨ZEe aZ,?_⟩;have fe:Zfw ra i o.op=0\/Zfw ra i o.op=1\/Zfw ra i o.op=2\/Zfw ra i o.op=3:=by omega
  rcases fe with bX|bX|bX|bX
  .have e1:=ZKj (P:=P) (N:=N) (T:=T) (st:=st) (st2:=st) bX (fun x _=>rfl);have e2:=ZKj (P:=P) (N:=N) (T:=T) (st:=st) (st2:=st2) bX he;rw[aZ]at e1 e2;simp only[Option.map_some,Option.some.injEq,Prod.mk.injEq,true_and]at e1;subst e1;refine⟨fun _=>rfl,?_⟩;rw[e2];simp only[Option.map_some,hd,fd,eH,bX];rfl
  .have e1:=ZKk (P:=P) (N:=N) (T:=T) (st:=st) (st2:=st) bX (fun x _=>rfl) rfl;have e2:=ZKk (P:=P) (N:=N) (T:=T) (st:=st) (st2:=st2) bX he (hh (by omega));rw[aZ]at e1 e2;simp only[Option.map_some,Option.some.injEq,Prod.mk.injEq,true_and]at e1;subst e1;refine⟨fun _=>rfl,?_⟩;rw[e2];simp only[Option.map_some,hd,fd,eH,bX];rfl
  .have e2:=ZLV (P:=P) (N:=N) (T:=T) (st:=st) (st2:=st2) bX he (hh (by omega));rw[aZ]at e2;refine⟨fun h=>by omega,?_⟩;rw[e2];simp only[Option.map_some,hd,fd,eH,bX];rfl
  .have hqq:=ZrK bX aZ;have e2:=ZLW (P:=P) (N:=N) (T:=T) (st:=st) (st2:=st2) bX he (hh (by omega)) ((hq bX hqq).trans hqq.symm);rw[aZ]at e2;refine⟨fun h=>by omega,?_⟩;rw[e2];simp only[Option.map_some,hd,fd,eH,bX];rfl
theorem ZFd{P:Program}{N:Nat}{T:Tab}{ops:Array Oper}{ra:RA}{i:Nat}{o:Oper}{st st1 st2:St}{v:V}{obl:List Prop}(hc:Zfw ra i o.op=1)(hu:∀t∈Zga ops o,st2.get t=st.get t)
  (hm:∀x∈ZcD o.op,Has st st2 fun id=>(evo st x).says id) (h:ZnC P N T ops ra i o st=some (v,obl,st1)):ZnC P N T ops ra i o st2=some (v,obl,st2):=by
 unfold ZnC at h ⊢;rw[Zmh hu];split at h
 .cases h
 .cases h;rfl
 .have he:=ZmR hu;split at h
  .cases h
  rename_i v0 cA st0 aZ;split at h
  .cases h
  rename_i v' obl' hd;split at h;rotate_left
  .cases h
  rename_i v'' fd;split at h;rotate_left
  .cases h
  rename_i v3 obl3 eH;cases h;have e2:=ZLX (P:=P) (N:=N) (T:=T) (st:=st) (st2:=st2) hc he hm aZ;simp only[e2,hd,fd,eH]
theorem ZGW{P:Program}{N:Nat}{T:Tab}{ops:Array Oper}{ra:RA}{i:Nat}{o:Oper}{st st1:St}{v:V}{obl:List Prop}(hc:Zfw ra i o.op=3)(h:ZnC P N T ops ra i o st=some (v,obl,st1)) :
  st1=st\/(ZdM N (o.dst.getD 0) st=true/\∀id b,hget st1.heap id=some b->id=o.dst.getD 0\/hget st.heap id=some b):=by
 unfold ZnC at h;split at h
 .cases h
 .cases h;exact .inl rfl
 .split at h
  .cases h
  rename_i v0 cA st0 aZ;split at h
  .cases h
  split at h;rotate_left
  .cases h
  split at h;rotate_left
  .cases h
  cases h;exact .inr ⟨ZrK hc aZ,ZCB hc aZ⟩
theorem Zde{N:Nat}{st:St}{d:Nat}(h:ZdM N d st=true):Zir st d N=true/\ZhX d st.heap=true:=by
 unfold ZdM at h;split at h
 .rename_i h1;exact⟨h1,h⟩
 .cases h
theorem ZCj{P:Program}{N:Nat}{T:Tab}{ops:Array Oper}{ra:RA}{i:Nat}{o:Oper}{st st1:St}{v:V}{obl:List Prop}(hc:Zfw ra i o.op=3)(hk:ZDE o.op=true)(h:ZnC P N T ops ra i o st=some (v,obl,st1)) :
  ∀id b,hget st.heap id=some b->hget st1.heap id=some b:=by
 unfold ZnC at h;split at h
 .cases h
 .cases h;exact fun _ _ h=>h
 .split at h
  .cases h
  rename_i v0 cA st0 aZ;split at h
  .cases h
  split at h;rotate_left
  .cases h
  split at h;rotate_left
  .cases h
  cases h;exact ZAZ hc hk (ZiW (Zde (ZrK hc aZ)).2).1 aZ
def Zho(o:Oper)(ha:HA):Bool:=match ha.lend,ha.new,ha.h1,o.guard with
 | [],[(c,d)],[(c',.rows _ _ _ _)],none=>Nat.beq d (o.dst.getD 0)&&Nat.beq c c'&&Nat.beq c 99999
 |_,_,_,_=>false
def clsX(ra:RA)(i:Nat)(o:Oper):Nat:=match ZcX ra.hc i with
 |none=>Zfw ra i o.op
 |some ha=>match Zho o ha with
  |true=>3
  |false=>match ZcX ra.hc (i+1000)with
   |some _=>5
   |none=>match ha.new with
    | []=>2
    |_ :: _=>4
def ZvZ(ra:RA)(i:Nat)(o:Oper):Bool:=match ZcX ra.hc i with
 |none=>ZDE o.op
 |some _=>true
def ZeK(P:Program)(N:Nat)(ops:Array Oper)(ha:HA)(an:Option Ans)(o:Oper)(st:St):Option (V×List Prop×St):=match Zhh ops st o with
 |some true=>match o.op with
  | .call { callee:=c,args:=args,argTypes:=_ }=>Zhj P N st c args.toList ha an
  |_=>none
 |some false=>some (.one (.lit undef),[],st)
 |none=>none
def ZhY(P:Program)(N:Nat)(ops:Array Oper)(ha:HA)(an:Option Ans)(o:Oper)(st:St):Option (V×List Prop×St):=match Zhh ops st o with
 |some true=>match o.op with
  | .call { callee:=c,args:=args,argTypes:=_ }=>ZhF P N st c args.toList ha an
  |_=>none
 |some false=>some (.one (.lit undef),[],st)
 |none=>none
def ZdN(P:Program)(N:Nat)(T:Tab)(ops:Array Oper)(ra:RA)(i:Nat)(o:Oper)(st:St):Option (V×List Prop×St):=match ZcX ra.hc i with
 |none=>ZnC P N T ops ra i o st
 |some ha=>match ZcX ra.hc (i+1000)with
  |none=>ZeK P N ops ha (ZcX ra.an i) o st
  |some _=>ZhY P N ops ha (ZcX ra.an i) o st
theorem ZFc{P:Program}{N:Nat}{T:Tab}{ops:Array Oper}{ra:RA}{i:Nat}{o:Oper}{st st1 st2:St}{v:V}{obl:List Prop}(h:ZdN P N T ops ra i o st=some (v,obl,st1))(hp:putO N st1 o.dst v=some st2):ZtW P N T ops ra i o st=some (st2,obl):=by
 unfold ZdN at h;unfold ZtW;split at h
 .rename_i hk;rw[hk];simp only;unfold ZDD;simp only[h,hp]
 .rename_i ha hk;rw[hk];simp only;split at h
  .unfold ZeK at h;unfold ZAw;split at h
   .split at h
    .rename_i h1 _ c args bk bY;simp only[h1,bY,ZwI (ZwJ h),hp]
    .cases h
   .rename_i h1;cases h;simp only[h1,hp]
   .cases h
  .unfold ZhY at h;unfold ZAw;split at h
   .split at h
    .rename_i h1 _ c args bk bY;simp only[h1,bY,ZwI h,hp]
    .cases h
   .rename_i h1;cases h;simp only[h1,hp]
   .cases h
theorem ZsE{P:Program}{N:Nat}{st st1:St}{c:Callee}{args:List Operand}{ha:HA}{an:Option Ans}{v:V}{obl:List Prop}(h:Zhj P N st c args ha an=some (v,obl,st1)):st1.env=st.env:=by
 unfold Zhj at h;split at h
 .split at h
  .cases h;rfl
  .cases h
 .cases h
theorem ZBe{P:Program}{N:Nat}{st st1:St}{c:Callee}{args:List Operand}{ha:HA}{an:Option Ans}{v:V}{obl:List Prop}(h:ZhF P N st c args ha an=some (v,obl,st1)):st1.env=st.env:=by
 unfold ZhF at h;split at h
 .rename_i r hr;cases h;exact ZsE hr
 .unfold Zlu at h;split at h
  .split at h
   .split at h
    .cases h;rfl
    .cases h
   .cases h
  .cases h
theorem Zrz{P:Program}{N:Nat}{T:Tab}{ops:Array Oper}{ra:RA}{i:Nat}{o:Oper}{st st1:St}{v:V}{obl:List Prop}(h:ZdN P N T ops ra i o st=some (v,obl,st1)):st1.env=st.env:=by
 unfold ZdN at h;split at h
 .unfold ZnC at h;split at h
  .cases h
  .cases h;rfl
  .split at h
   .cases h
   rename_i v0 cA st0 aZ;split at h
   .cases h
   split at h;rotate_left
   .cases h
   split at h;rotate_left
   .cases h
   cases h;exact ZEe aZ
 .split at h
  .unfold ZeK at h;split at h
   .split at h
    .exact ZsE h
    .cases h
   .cases h;rfl
   .cases h
  .unfold ZhY at h;split at h
   .split at h
    .exact ZBe h
    .cases h
   .cases h;rfl
   .cases h
theorem Zky{P:Program}{st st2:St}{c:Callee}{args:Array Operand}{bk:Array TypeId}{an:Option Ans}(h:∀x∈ZcD (.call { callee:=c,args:=args,argTypes:=bk }),evo st2 x=evo st x):ZlR P st2 c an=ZlR P st c an:=by
 cases c with
 |value f=>simp only[ZlR,Zks,h f (by simp[ZcD])]
 |invoke r n=>simp only[ZlR,h r (by simp[ZcD])]
 |builtin b=>rfl
theorem ZoI{c:Callee}{args:Array Operand}{bk:Array TypeId}:∀x∈args.toList,x∈ZcD (.call { callee:=c,args:=args,argTypes:=bk }):=by
 intro x hx;cases c<;>simp only[ZcD]<;>first|exact hx|exact List.mem_cons_of_mem _ hx
theorem ZKZ{P:Program}{N:Nat}{ops:Array Oper}{ha:HA}{an:Option Ans}{o:Oper}{st st1:St}{v:V}{obl:List Prop}(hn:ha.new=[])(h:ZeK P N ops ha an o st=some (v,obl,st1)) :
  st1.env=st.env/\∀st2:St,(∀t∈Zga ops o,st2.get t=st.get t)->st2.heap=st.heap->ZeK P N ops ha an o st2=some (v,obl,⟨st2.env,st1.heap⟩):=by
 unfold ZeK at h;split at h
 .rename_i cd;split at h
  .rename_i c args bk bY;refine⟨ZsE h,fun st2 hu hh=>?_⟩;unfold ZeK;rw[Zmh hu,cd];have he:=ZmR hu;rw[bY]at he ⊢;simp only;unfold Zhj at h ⊢;rw[Zky he];have az:okHA N st2 ha=okHA N st ha:=by
    unfold okHA;rw[hn];rfl
   split at h;rotate_left
   .cases h
   rename_i g a b om bx;rw[Ziw (fun x hx=>he x (ZoI x hx)) a b,az,hh];split at h;rotate_left
   .cases h
   rename_i h0 vs hp r q1 q2 q3 q4 q5;cases h;simp only[q1,q2,q3,q4,q5]
  .cases h
 .rename_i cd;cases h;refine⟨rfl,fun st2 hu hh=>?_⟩;unfold ZeK;rw[Zmh hu,cd];simp only[<-hh]
 .cases h
theorem ZvU{d e:Nat}{b:B}(hne:e≠d)(hb:b.says d=false):∀{h:List (Nat×B)},ZhX d h=true->ZhX d (hins h e b)=true:=by
 have hf:Nat.beq e d=false:=by
  cases hx:Nat.beq e d
  .rfl
  .exact absurd (Nat.eq_of_beq_eq_true hx) hne
 intro h;induction h with
 |nil=>intro _;simp only[hins,ZhX,hf,hb]
 |cons p r ih=>
  obtain⟨k,v⟩:=p;intro hq;have b9:=hq;simp only[ZhX]at hq;split at hq
  .rename_i h1 h2;simp only[hins];split
   .simp only[ZhX,hf,hb];exact hq
   .split
    .simp only[ZhX,hf,hb,h1,h2];exact hq
    .simp only[ZhX,h1,h2];exact ih hq
  .cases hq
theorem Zoc{d e:Nat}{b:B}:∀{h:List (Nat×B)},hget h e=none->ZhX d (hins h e b)=true->ZhX d h=true
 | [],_,_=>rfl
 | (k,v) :: r,hn,hq=>by
  rw[Zbs]at hn
  split at hn
  .cases hn
  rename_i hke
  have hf:Nat.beq k e=false:=by
   cases hx:Nat.beq k e
   .rfl
   .exact absurd (Nat.eq_of_beq_eq_true hx) hke
  simp only[hins,hf]at hq;split at hq
  .simp only[ZhX]at hq;split at hq
   .simp only[ZhX];exact hq
   .cases hq
  .simp only[ZhX]at hq ⊢;split at hq
   .rename_i h1 h2;exact Zoc hn hq
   .cases hq
theorem ZDU{P:Program}{N:Nat}{ops:Array Oper}{ha:HA}{an:Option Ans}{o:Oper}{st st1:St}{v:V}{obl:List Prop}(hs:Zho o ha=true)(h:ZeK P N ops ha an o st=some (v,obl,st1)) :
  ∃b:B,(∀k,b.says k=false)/\ZdM N (o.dst.getD 0) st=true/\st1=⟨st.env,hins st.heap (o.dst.getD 0) b⟩/\∀st2,(∀t∈Zga ops o,st2.get t=st.get t)->ZdM N (o.dst.getD 0) st2=true ->
   ZeK P N ops ha an o st2=some (v,obl,⟨st2.env,hins st2.heap (o.dst.getD 0) b⟩):=by
 unfold Zho at hs;split at hs;rotate_left
 .cases hs
 rename_i c d c' e sz len cc hl hn cl cd;simp only[Bool.and_eq_true]at hs;obtain⟨⟨e1,e2⟩,e3⟩:=hs;have e1:=Nat.eq_of_beq_eq_true e1;have e2:=Nat.eq_of_beq_eq_true e2;subst e2;obtain⟨lend,new,h1,res⟩:=ha;simp only at hl hn cl;subst hl hn cl;subst e1;have hg:∀st:St,Zhh ops st o=some true:=fun st=>by unfold Zhh;rw[cd]
 unfold ZeK at h;rw[hg]at h;simp only at h;split at h;rotate_left
 .cases h
 rename_i f args bk bY;unfold Zhj at h;split at h;rotate_left
 .cases h
 rename_i g a b om bx;split at h;rotate_left
 .cases h
 rename_i h0 vs hp r az dD bS cH hr;cases h;have hq:ZdM N (o.dst.getD 0) st=true:=by
  unfold okHA at az;split at az
  .rename_i q1 q2 q3 q4;exact List.all_eq_true.1 q4 _ (List.mem_cons_self)
  .cases az
 have iP:hp=[(o.dst.getD 0,.rows e sz len cc)]:=by
  have:gOut ⟨[],[(c,o.dst.getD 0)],[(c,.rows e sz len cc)],res⟩ c=some (o.dst.getD 0):=by
   simp only[gOut,Zqg,Nat.beq_refl]
  simp only[ZsT,this,renB]at cH;exact(Option.some.inj cH).symm
 subst iP;refine⟨.rows e sz len cc,fun _=>rfl,hq,rfl,fun st2 hu cr=>?_⟩;have he:∀x∈ZcD (.call { callee:=f,args:=args,argTypes:=bk }),evo st2 x=evo st x:=fun x hx=>ZmR hu x (by rw[bY];exact hx);have bT:Zcl st2 args.toList a b=Zcl st args.toList a b:=Ziw (fun x hx=>he x (ZoI x hx)) a b;have dO:okHA N st2 ⟨[],[(c,o.dst.getD 0)],[(c,.rows e sz len cc)],res⟩=true:=by
  unfold okHA at az ⊢;split at az
  .rename_i q1 q2 q3 q4;simp only at q1 q2 q3;simp only[q1,q2,q3,List.all_cons,List.all_nil,cr,Bool.and_true]
  .cases az
 have hQ:hIn (bwd ([]:List (Nat×Nat))) st2.heap ([]:List (Nat×Nat))=some h0:=dD;unfold ZeK;rw[hg];simp only[bY];unfold Zhj;rw[Zky he,bx];simp only[dO,hQ,bT,bS,cH,hr];rfl
theorem Zzw{P:Program}{N:Nat}{st st2:St}{c:Callee}{args:Array Operand}{bk:Array TypeId}{ha:HA}{an:Option Ans}(he:∀x∈ZcD (.call { callee:=c,args:=args,argTypes:=bk }),evo st2 x=evo st x)(hh:st2.heap=st.heap)(az:okHA N st2 ha=okHA N st ha) :
  ZhF P N st2 c args.toList ha an=(ZhF P N st c args.toList ha an).map fun r=>(r.1,r.2.1,⟨st2.env,r.2.2.heap⟩):=by
 have bT:∀a b,Zcl st2 args.toList a b=Zcl st args.toList a b:=fun a b=>Ziw (fun x hx=>he x (ZoI x hx)) a b;have e1:Zhj P N st2 c args.toList ha an=(Zhj P N st c args.toList ha an).map fun r=>(r.1,r.2.1,⟨st2.env,r.2.2.heap⟩):=by
  unfold Zhj;rw[Zky he,az,hh];cases ZlR P st c an with
  |none=>rfl
  |some q=>
   obtain⟨g,a,b,om⟩:=q;simp only[bT];generalize okHA N st ha=x1;generalize hIn (bwd ha.lend) st.heap ha.lend=x2;generalize ZGx (bwd ha.lend) (Zcl st args.toList a b)=x3;generalize ZsT (gOut ha) ha.h1=x4;generalize renV (gOut ha) ha.res=x5;cases x1<;>cases x2<;>cases x3<;>cases x4<;>cases x5<;>rfl
 have e2:Zlu P N st2 c args.toList ha an=(Zlu P N st c args.toList ha an).map fun r=>(r.1,r.2.1,⟨st2.env,r.2.2.heap⟩):=by
  obtain⟨lend,new,h1,res⟩:=ha;have hb:∀l,borA st2 l=borA st l:=ZwZ hh;unfold Zlu;rw[Zky he,az,hh];simp only[bT,hb];cases ZlR P st c an with
  |none=>split<;>rfl
  |some q=>
   obtain⟨g,a,b,om⟩:=q;simp only;generalize okHA N st ⟨lend,new,h1,res⟩=x1;generalize borA st (Zcl st args.toList a b)=x2;generalize ZsT (gOut ⟨lend,new,h1,res⟩) h1=x3;generalize renV (gOut ⟨lend,new,h1,res⟩) res=x4;generalize Zwg h1=x5;split
   .cases x1<;>cases x2<;>cases x3<;>cases x4<;>cases x5<;>rfl
   .rfl
 unfold ZhF;rw[e1,e2];cases Zhj P N st c args.toList ha an<;>rfl
theorem ZLa{P:Program}{N:Nat}{ops:Array Oper}{ha:HA}{an:Option Ans}{o:Oper}{st st1:St}{v:V}{obl:List Prop}(hs:Zho o ha=true)(h:ZhY P N ops ha an o st=some (v,obl,st1)) :
  ∃b:B,ZdM N (o.dst.getD 0) st=true/\st1=⟨st.env,hins st.heap (o.dst.getD 0) b⟩/\∀st2,(∀t∈Zga ops o,st2.get t=st.get t)->st2.heap=st.heap->ZdM N (o.dst.getD 0) st2=true ->
   ZhY P N ops ha an o st2=some (v,obl,⟨st2.env,st1.heap⟩):=by
 unfold Zho at hs;split at hs;rotate_left
 .cases hs
 rename_i c d c' e sz len cc hl hn cl cd;simp only[Bool.and_eq_true]at hs;obtain⟨⟨e1,e2⟩,e3⟩:=hs;have e1:=Nat.eq_of_beq_eq_true e1;have e2:=Nat.eq_of_beq_eq_true e2;subst e2;obtain⟨lend,new,h1,res⟩:=ha;simp only at hl hn cl;subst hl hn cl;subst e1;have hg:∀st:St,Zhh ops st o=some true:=fun st=>by unfold Zhh;rw[cd]
 unfold ZhY at h;rw[hg]at h;simp only at h;split at h;rotate_left
 .cases h
 rename_i f args bk bY;have iP:∀hp,ZsT (gOut ⟨[],[(c,o.dst.getD 0)],[(c,.rows e sz len cc)],res⟩) [(c,.rows e sz len cc)]=some hp->hp=[(o.dst.getD 0,.rows e sz len cc)]:=fun hp cH=>by
  have:gOut ⟨[],[(c,o.dst.getD 0)],[(c,.rows e sz len cc)],res⟩ c=some (o.dst.getD 0):=by
   simp only[gOut,Zqg,Nat.beq_refl]
  simp only[ZsT,this,renB]at cH;exact(Option.some.inj cH).symm
 have ff:okHA N st ⟨[],[(c,o.dst.getD 0)],[(c,.rows e sz len cc)],res⟩=true/\st1=⟨st.env,hins st.heap (o.dst.getD 0) (.rows e sz len cc)⟩:=by
  have h':=h;unfold ZhF at h';split at h'
  .rename_i r hr;cases h';unfold Zhj at hr;split at hr;rotate_left
   .cases hr
   split at hr;rotate_left
   .cases hr
   rename_i h0 vs hp r az dD bS cH gk;cases hr;rw[iP _ cH];exact⟨az,rfl⟩
  .unfold Zlu at h';split at h';rotate_left
   .cases h'
   split at h';rotate_left
   .cases h'
   split at h';rotate_left
   .cases h'
   rename_i vs hp r ps az bS cH gk bN;cases h';rw[iP _ cH];exact⟨az,rfl⟩
 obtain⟨az,bC⟩:=ff;have hq:ZdM N (o.dst.getD 0) st=true:=by
  have bQ:=az;unfold okHA at bQ;split at bQ
  .rename_i q1 q2 q3 q4;exact List.all_eq_true.1 q4 _ (List.mem_cons_self)
  .cases bQ
 refine⟨.rows e sz len cc,hq,bC,fun st2 hu hh cr=>?_⟩;have he:∀x∈ZcD (.call { callee:=f,args:=args,argTypes:=bk }),evo st2 x=evo st x:=fun x hx=>ZmR hu x (by rw[bY];exact hx);have dO:okHA N st2 ⟨[],[(c,o.dst.getD 0)],[(c,.rows e sz len cc)],res⟩=true:=by
  have bQ:=az;unfold okHA at bQ ⊢;split at bQ
  .rename_i q1 q2 q3 q4;simp only at q1 q2 q3;simp only[q1,q2,q3,List.all_cons,List.all_nil,cr,Bool.and_true]
  .cases bQ
 unfold ZhY;rw[hg];simp only[bY];rw[Zzw he hh (dO.trans az.symm),h];rfl
def ZKb:Op->Bool | .makeSlice .. | .buildSlice .. | .alloc _=>true|_=>false
theorem ZEA{ti:TI}{l:List C}(h:ZvC ti=some l)(k:Nat):l.any (C.says k)=false:=by
 unfold ZvC at h;split at h;rotate_left
 .cases h
 rename_i z hz;have lits:∀xs:List Value,(xs.map C.lit).any (C.says k)=false:=fun xs=>by
  induction xs with
  |nil=>rfl
  |cons x xs ih=>simp[C.says,ih]
 cases z with
 |agg cs=>
  simp only[V.ofVal]at h;split at h
  .cases h;exact lits _
  .cases h
 |_=>
  simp only[V.ofVal,V.cells]at h
  first | (cases h;rfl) | (split at h<;>cases h;rfl)
def ZyZ(ra:RA)(i:Nat)(o:Oper):Bool:=match ZcX ra.hc i with
 |some ha=>match ZcX ra.hc (i+1000)with
  |none=>true
  |some _=>Zho o ha
 |none=>Nat.ble (Zfw ra i o.op) 3
def Zmf(ra:RA)(i:Nat)(o:Oper):Bool:=match ZcX ra.hc i with
 |some ha=>match ZcX ra.hc (i+1000)with
  |none=>Zho o ha
  |some _=>false
 |none=>match o.guard with
  |none=>ZKb o.op&&Nat.beq (Zfw ra i o.op) 3
  |some _=>false
theorem ZCD{N:Nat}{T:Tab}{st st1:St}{d t:Nat}{x y:V}{an:Option Ans}{v:V}{obl:List Prop}(h:Znw N T st d t x y an=some (v,obl,st1)) :
  ∃b:B,(∀k,b.says k=false)/\ZdM N d st=true/\st1=⟨st.env,hins st.heap d b⟩/\∀st2,ZdM N d st2=true->Znw N T st2 d t x y an=some (v,obl,⟨st2.env,hins st2.heap d b⟩):=by
 unfold Znw at h
 repeat' split at h
 all_goals first | (cases h;done)|skip
 all_goals
  cases h;refine⟨_,fun _=>rfl,by assumption,rfl,fun st2 hq=>?_⟩;unfold Znw;simp only[*,St.new]
theorem ZwG{N:Nat}{T:Tab}{st st1:St}{d t n:Nat}{ps:List (Nat×V)}{k:Nat}{c:Nat->Nat->C}{v:V}{obl:List Prop}(h:ZfH N T st d t n ps (some (.c k c))=some (v,obl,st1)) :
  ∃b:B,(∀k,b.says k=false)/\ZdM N d st=true/\st1=⟨st.env,hins st.heap d b⟩/\∀st2,ZdM N d st2=true->ZfH N T st2 d t n ps (some (.c k c))=some (v,obl,⟨st2.env,hins st2.heap d b⟩):=by
 unfold ZfH at h ⊢;split at h<;>try (cases h;done)
 split at h<;>try (cases h;done)
 split at h<;>try (cases h;done)
 split at h<;>try (cases h;done)
 split at h<;>try (cases h;done)
 split at h<;>try (cases h;done)
 simp only at h;split at h
 .cases h
 .rename_i hq;cases h;refine⟨_,fun _=>rfl,hq,rfl,fun st2 cr=>?_⟩;simp only[*,St.new]
theorem Znb{P:Program}{N:Nat}{T:Tab}{ops:Array Oper}{ra:RA}{i:Nat}{o:Oper}{st st1:St}{v:V}{obl:List Prop}(hs:Zmf ra i o=true)(h:ZdN P N T ops ra i o st=some (v,obl,st1)) :
  ∃b:B,(∀k,b.says k=false)/\ZdM N (o.dst.getD 0) st=true/\st1=⟨st.env,hins st.heap (o.dst.getD 0) b⟩/\∀st2,(∀t∈Zga ops o,st2.get t=st.get t)->ZdM N (o.dst.getD 0) st2=true ->
   ZdN P N T ops ra i o st2=some (v,obl,⟨st2.env,hins st2.heap (o.dst.getD 0) b⟩):=by
 unfold Zmf at hs;unfold ZdN at h ⊢;split at hs
 .rename_i ha hk;cases hk2:ZcX ra.hc (i+1000)with
  |some y=>rw[hk2]at hs;cases hs
  |none=>
   rw[hk2]at hs;simp only[hk,hk2]at h ⊢;exact ZDU hs h
 .rename_i hk;rw[hk]at h ⊢;simp only at h ⊢;split at hs;rotate_left
  .cases hs
  rename_i cd;have hg:∀st:St,Zhh ops st o=some true:=fun st=>by unfold Zhh;rw[cd]
  simp only[Bool.and_eq_true]at hs;obtain⟨hr,dx⟩:=hs;have dx:=Nat.eq_of_beq_eq_true dx;unfold ZnC at h;rw[hg]at h;simp only at h;split at h
  .cases h
  rename_i v0 cA st0 aZ;split at h
  .cases h
  rename_i v' obl' hd;split at h;rotate_left
  .cases h
  rename_i v'' fd;split at h;rotate_left
  .cases h
  rename_i v3 obl3 eH;cases h;have ff:∃b:B,(∀k,b.says k=false)/\ZdM N (o.dst.getD 0) st=true/\st1=⟨st.env,hins st.heap (o.dst.getD 0) b⟩/\∀st2,(∀x∈ZcD o.op,evo st2 x=evo st x)->ZdM N (o.dst.getD 0) st2=true ->
    evOp P N T o st2 (ZcX ra.an i)=some (v0,cA,⟨st2.env,hins st2.heap (o.dst.getD 0) b⟩):=by
   obtain⟨dst,op,type,dM,after,guard⟩:=o;simp only at hr dx cd ⊢;cases op<;>simp only[ZKb]at hr<;>try (cases hr;done)
   case alloc t0 _=>
    simp only[evOp]at aZ;split at aZ;rotate_left
    .cases aZ
    rename_i te bF;split at aZ;rotate_left
    .cases aZ
    rename_i l hl;unfold Zrm at aZ;split at aZ;rotate_left
    .cases aZ
    rename_i hq kZ;cases aZ;refine⟨.box l,fun k=>ZEA hl k,hq,rfl,fun st2 he cr=>?_⟩;simp only[evOp,bF,hl];unfold Zrm;rw[cr,kZ];rfl
   case makeSlice t0 x y _=>
    simp only[Zfw]at dx;split at dx
    .cases dx
    rename_i hx;simp only[evOp]at aZ;split at aZ
    .rename_i hk;exact absurd hk (hx _ _)
    .cases aZ
    obtain⟨b,h1,h2,h3,h4⟩:=ZCD aZ;refine⟨b,h1,h2,h3,fun st2 he hq=>?_⟩;simp only[evOp];rw[he x (by simp[ZcD]),he y (by simp[ZcD])];exact h4 st2 hq
   case buildSlice t n ps _=>
    simp only[Zfw]at dx;split at dx;rotate_left
    .cases dx
    rename_i k c hka;simp only[evOp,hka]at aZ;obtain⟨b,h1,h2,h3,h4⟩:=ZwG aZ;refine⟨b,h1,h2,h3,fun st2 he hq=>?_⟩;simp only[evOp,hka];rw[ZsX (fun x hx=>he x (by simpa[ZcD]using hx))];exact h4 st2 hq
  obtain⟨b,h1,h2,h3,h4⟩:=ff;refine⟨b,h1,h2,h3,fun st2 hu hq=>?_⟩;unfold ZnC;rw[hg];simp only[h4 st2 (ZmR hu) hq,hd,fd,eH]
theorem ZiV{ra:RA}{i:Nat}{o:Oper}(h:ZcX ra.hc i=none):clsX ra i o=Zfw ra i o.op:=by unfold clsX;rw[h]
theorem ZwT{ra:RA}{i:Nat}{o:Oper}{ha:HA}(h:ZcX ra.hc i=some ha)(hc:clsX ra i o<=3):(Zho o ha=true/\clsX ra i o=3)\/(ha.new=[]/\clsX ra i o=2/\ZcX ra.hc (i+1000)=none):=by
 unfold clsX at hc ⊢;rw[h]at hc ⊢;simp only at hc ⊢;split at hc
 .rename_i hs;exact .inl ⟨hs,rfl⟩
 .split at hc
  .omega
  .rename_i hk2;split at hc
   .rename_i hn;exact .inr ⟨hn,rfl,hk2⟩
   .omega
theorem ZvW{P:Program}{N:Nat}{T:Tab}{ops:Array Oper}{ra:RA}{i:Nat}{o:Oper}{ha:HA}{st st1:St}{v:V}{obl:List Prop}(hk:ZcX ra.hc i=some ha)(hs:Zho o ha=true)(h:ZdN P N T ops ra i o st=some (v,obl,st1)) :
  ∃b:B,ZdM N (o.dst.getD 0) st=true/\st1=⟨st.env,hins st.heap (o.dst.getD 0) b⟩/\∀st2,(∀t∈Zga ops o,st2.get t=st.get t)->st2.heap=st.heap->ZdM N (o.dst.getD 0) st2=true ->
   ZdN P N T ops ra i o st2=some (v,obl,⟨st2.env,st1.heap⟩):=by
 unfold ZdN at h ⊢;cases hk2:ZcX ra.hc (i+1000)with
 |none=>
  simp only[hk,hk2]at h ⊢;obtain⟨b,h1,h2,rfl,h4⟩:=ZDU hs h;refine⟨b,h2,rfl,fun st2 hu hh hq=>?_⟩;rw[h4 st2 hu hq,hh]
 |some x=>
  simp only[hk,hk2]at h ⊢;exact ZLa hs h
theorem ZfQ{P:Program}{N:Nat}{T:Tab}{ops:Array Oper}{ra:RA}{i:Nat}{o:Oper}{st st1 st2:St}{v:V}{obl:List Prop}(hc:clsX ra i o<=3)(hu:∀t∈Zga ops o,st2.get t=st.get t)
  (hh:clsX ra i o≠0->st2.heap=st.heap) (hq:clsX ra i o=3->ZdM N (o.dst.getD 0) st=true->ZdM N (o.dst.getD 0) st2=true) (h:ZdN P N T ops ra i o st=some (v,obl,st1)) :
  st1.env=st.env/\(clsX ra i o<=1->st1.heap=st.heap)/\ZdN P N T ops ra i o st2=some (v,obl,⟨st2.env,if clsX ra i o<=1 then st2.heap else st1.heap⟩):=by
 cases hk:ZcX ra.hc i with
 |none=>
  rw[ZiV hk]at *
  unfold ZdN at h ⊢;rw[hk]at h ⊢;exact ZCi hc hu hh hq h
 |some ha=>
  rcases ZwT hk hc with⟨hs,e3⟩|⟨hn,e3,hk2⟩
  .rw[e3]at hh hq ⊢;obtain⟨b,h2,rfl,h4⟩:=ZvW hk hs h;refine⟨rfl,fun h=>by omega,?_⟩;rw[h4 st2 hu (hh (by omega)) (hq rfl h2)];rfl
  .rw[e3]at hh hq ⊢;unfold ZdN at h ⊢;rw[hk]at h ⊢;simp only at h ⊢;rw[hk2]at h ⊢;simp only at h ⊢;obtain⟨h1,h2⟩:=ZKZ hn h;refine⟨h1,fun h=>by omega,?_⟩;rw[h2 st2 hu (hh (by omega))];rfl
theorem ZlI{P:Program}{N:Nat}{T:Tab}{ops:Array Oper}{ra:RA}{i:Nat}{o:Oper}{st st1 st2:St}{v:V}{obl:List Prop}(hc:clsX ra i o=1)(hu:∀t∈Zga ops o,st2.get t=st.get t)
  (hm:∀x∈ZcD o.op,Has st st2 fun id=>(evo st x).says id) (h:ZdN P N T ops ra i o st=some (v,obl,st1)):ZdN P N T ops ra i o st2=some (v,obl,st2):=by
 cases hk:ZcX ra.hc i with
 |none=>
  rw[ZiV hk]at *
  unfold ZdN at h ⊢;rw[hk]at h ⊢;exact ZFd hc hu hm h
 |some ha=>
  unfold clsX at hc;rw[hk]at hc;simp only at hc
  repeat' split at hc
  all_goals omega
theorem ZFe{P:Program}{N:Nat}{T:Tab}{ops:Array Oper}{ra:RA}{i:Nat}{o:Oper}{st st1:St}{v:V}{obl:List Prop}(hc:clsX ra i o=3)(h:ZdN P N T ops ra i o st=some (v,obl,st1)) :
  st1=st\/(ZdM N (o.dst.getD 0) st=true/\∀id b,hget st1.heap id=some b->id=o.dst.getD 0\/hget st.heap id=some b):=by
 cases hk:ZcX ra.hc i with
 |none=>
  rw[ZiV hk]at *
  unfold ZdN at h;rw[hk]at h;exact ZGW hc h
 |some ha=>
  obtain⟨hs,e3⟩ : Zho o ha=true/\clsX ra i o=3:=(ZwT hk (Nat.le_of_eq hc)).resolve_right fun h=>by have:=h.2.1;omega
  obtain⟨b,h2,rfl,h4⟩:=ZvW hk hs h;refine .inr ⟨h2,fun id b' hb=>?_⟩;simp only[Zfo]at hb;split at hb
  .rename_i e;exact .inl e.symm
  .exact .inr hb
theorem ZAv{P:Program}{N:Nat}{T:Tab}{ops:Array Oper}{ra:RA}{i:Nat}{o:Oper}{st st1:St}{v:V}{obl:List Prop}(hc:clsX ra i o=3)(hk:ZvZ ra i o=true)(h:ZdN P N T ops ra i o st=some (v,obl,st1)) :
  ∀id b,hget st.heap id=some b->hget st1.heap id=some b:=by
 unfold ZvZ at hk;cases hk':ZcX ra.hc i with
 |none=>
  rw[ZiV hk']at *
  unfold ZdN at h;rw[hk']at h hk;exact ZCj hc hk h
 |some ha=>
  obtain⟨hs,e3⟩ : Zho o ha=true/\clsX ra i o=3:=(ZwT hk' (Nat.le_of_eq hc)).resolve_right fun h=>by have:=h.2.1;omega
  obtain⟨b,h2,rfl,h4⟩:=ZvW hk' hs h;intro id b' hb;simp only[Zfo];have:=(ZiW (Zde h2).2).1;rw[if_neg (fun e=>by rw[e,hb]at this;cases this)];exact hb
def isMk(ra:RA)(i:Nat)(o:Oper):Bool:=match ZcX ra.hc i,ZcX ra.hc (i+1000),o.op with
 |some ha,some _,.call { callee:=.value (.func _),args:=_,argTypes:=_ }=>Zho o ha
 |_,_,_=>false
theorem ZJC{P:Program}{N:Nat}{ops:Array Oper}{ha:HA}{an:Option Ans}{o:Oper}{g:FuncId}{args:Array Operand}{bk:Array TypeId}{st st1:St}{v:V}{obl:List Prop}(hs:Zho o ha=true)
  (bY:o.op=.call { callee:=.value (.func g),args:=args,argTypes:=bk }) (h:ZhY P N ops ha an o st=some (v,obl,st1)) :
  ∃b:B,(∀k,b.says k=false)/\ZdM N (o.dst.getD 0) st=true/\st1=⟨st.env,hins st.heap (o.dst.getD 0) b⟩/\∀st2,(∀t∈Zga ops o,st2.get t=st.get t)->(∀x∈ZcD o.op,Has st st2 fun id=>(evo st x).says id)->ZdM N (o.dst.getD 0) st2=true ->
   ZhY P N ops ha an o st2=some (v,obl,⟨st2.env,hins st2.heap (o.dst.getD 0) b⟩):=by
 have eG:=hs;unfold Zho at hs;split at hs;rotate_left
 .cases hs
 rename_i c d c' e sz len cc hl hn cl cd;simp only[Bool.and_eq_true]at hs;obtain⟨⟨e1,e2⟩,e3⟩:=hs;have e1:=Nat.eq_of_beq_eq_true e1;have e2:=Nat.eq_of_beq_eq_true e2;subst e2;obtain⟨lend,new,h1,res⟩:=ha;simp only at hl hn cl;subst hl hn cl;subst e1;have hg:∀st:St,Zhh ops st o=some true:=fun st=>by unfold Zhh;rw[cd]
 have kA:∀st,ZeK P N ops ⟨[],[(c,o.dst.getD 0)],[(c,.rows e sz len cc)],res⟩ an o st=Zhj P N st (.value (.func g)) args.toList ⟨[],[(c,o.dst.getD 0)],[(c,.rows e sz len cc)],res⟩ an:=fun st=>by
  unfold ZeK;rw[hg];simp only[bY]
 have kB:∀st,ZhY P N ops ⟨[],[(c,o.dst.getD 0)],[(c,.rows e sz len cc)],res⟩ an o st=ZhF P N st (.value (.func g)) args.toList ⟨[],[(c,o.dst.getD 0)],[(c,.rows e sz len cc)],res⟩ an:=fun st=>by
  unfold ZhY;rw[hg];simp only[bY]
 rw[kB]at h;cases hE:Zhj P N st (.value (.func g)) args.toList ⟨[],[(c,o.dst.getD 0)],[(c,.rows e sz len cc)],res⟩ an with
 |some r=>
  unfold ZhF at h;rw[hE]at h;simp only at h;cases h;obtain⟨b,q1,q2,q3,q4⟩:=ZDU eG ((kA st).trans hE);refine⟨b,q1,q2,q3,fun st2 hu hm hq=>?_⟩;rw[kB];exact ZwJ ((kA st2).symm.trans (q4 st2 hu hq))
 |none=>
  unfold ZhF at h;rw[hE]at h;simp only at h;have iP:∀hp,ZsT (gOut ⟨[],[(c,o.dst.getD 0)],[(c,.rows e sz len cc)],res⟩) [(c,.rows e sz len cc)]=some hp->hp=[(o.dst.getD 0,.rows e sz len cc)]:=fun hp cH=>by
   have:gOut ⟨[],[(c,o.dst.getD 0)],[(c,.rows e sz len cc)],res⟩ c=some (o.dst.getD 0):=by
    simp only[gOut,Zqg,Nat.beq_refl]
   simp only[ZsT,this,renB]at cH;exact(Option.some.inj cH).symm
  obtain⟨k0,n0,rfl⟩ : ∃k n,res=.one (.osl k n):=by
   unfold Zlu at h;simp only at h;split at h
   .exact⟨_,_,rfl⟩
   .cases h
  unfold Zlu at h;simp only at h;split at h;rotate_left
  .cases h
  rename_i g' a b om bx;split at h;rotate_left
  .cases h
  rename_i vs hp r ps az bS cH gk bN;cases h;obtain rfl:=iP _ cH;have hq:ZdM N (o.dst.getD 0) st=true:=by
   have bQ:=az;unfold okHA at bQ;split at bQ
   .rename_i q1 q2 q3 q4;exact List.all_eq_true.1 q4 _ (List.mem_cons_self)
   .cases bQ
  refine⟨.rows e sz len cc,fun _=>rfl,hq,rfl,fun st2 hu hm cr=>?_⟩;have he:∀x∈ZcD (.call { callee:=.value (.func g),args:=args,argTypes:=bk }),evo st2 x=evo st x:=fun x hx=>ZmR hu x (by rw[bY];exact hx);have dO:okHA N st2 ⟨[],[(c,o.dst.getD 0)],[(c,.rows e sz len cc)],.one (.osl k0 n0)⟩=true:=by
   have bQ:=az;unfold okHA at bQ ⊢;split at bQ
   .rename_i q1 q2 q3 q4;simp only at q1 q2 q3;simp only[q1,q2,q3,List.all_cons,List.all_nil,cr,Bool.and_true]
   .cases bQ
  have k4:a=[]/\b=[]:=by
   simp only[ZlR,Zks,evo,V.ofVal]at bx
   first
    | (cases bx;exact⟨rfl,rfl⟩)
    | (simp at bx;exact⟨bx.2.1.symm,bx.2.2.1.symm⟩)
  obtain⟨rfl,rfl⟩:=k4;have bT:Zcl st2 args.toList [] []=Zcl st args.toList [] []:=Ziw (fun x hx=>he x (ZoI x hx)) [] [];have hbm:borA st2 (Zcl st args.toList [] [])=some vs:=by
   refine ZwY (fun v hv=>?_) bS;unfold Zcl at hv;simp only[List.map_nil,List.nil_append,List.append_nil,List.mem_map]at hv;obtain⟨x,hx,rfl⟩:=hv;exact hm x (by rw[bY];exact ZoI x hx)
  have k5:Zhj P N st2 (.value (.func g)) args.toList ⟨[],[(c,o.dst.getD 0)],[(c,.rows e sz len cc)],.one (.osl k0 n0)⟩ an=none:=by
   cases k5:Zhj P N st2 (.value (.func g)) args.toList ⟨[],[(c,o.dst.getD 0)],[(c,.rows e sz len cc)],.one (.osl k0 n0)⟩ an with
   |none=>rfl
   |some r2=>
    obtain⟨b2,_,_,_,q4⟩:=ZDU eG ((kA st2).trans k5);have:=q4 st (fun t ht=>(hu t ht).symm) hq;rw[kA,hE]at this;cases this
  rw[kB];unfold ZhF;rw[k5];simp only;unfold Zlu;simp only;rw[Zky he,bx];simp only[dO,bT,hbm,cH,gk,bN];rfl
theorem ZAu{P:Program}{N:Nat}{T:Tab}{ops:Array Oper}{ra:RA}{i:Nat}{o:Oper}{st st1:St}{v:V}{obl:List Prop}(hs:(Zmf ra i o||isMk ra i o)=true)(h:ZdN P N T ops ra i o st=some (v,obl,st1)) :
  ∃b:B,(∀k,b.says k=false)/\ZdM N (o.dst.getD 0) st=true/\st1=⟨st.env,hins st.heap (o.dst.getD 0) b⟩/\∀st2,(∀t∈Zga ops o,st2.get t=st.get t)->(∀x∈ZcD o.op,Has st st2 fun id=>(evo st x).says id)->ZdM N (o.dst.getD 0) st2=true ->
   ZdN P N T ops ra i o st2=some (v,obl,⟨st2.env,hins st2.heap (o.dst.getD 0) b⟩):=by
 rw[Bool.or_eq_true]at hs;rcases hs with hs|hs
 .obtain⟨b,h1,h2,h3,h4⟩:=Znb hs h;exact⟨b,h1,h2,h3,fun st2 hu _ hq=>h4 st2 hu hq⟩
 .unfold isMk at hs;split at hs;rotate_left
  .cases hs
  rename_i ha y g args bk hk hk2 bY;unfold ZdN at h ⊢;simp only[hk,hk2]at h ⊢;exact ZJC hs bY h
theorem ZDP{ra:RA}{i:Nat}{o:Oper}(hs:isMk ra i o=true):clsX ra i o=3:=by
 unfold isMk at hs;split at hs;rotate_left
 .cases hs
 rename_i ha y g args bk hk hk2 bY;unfold clsX;rw[hk];simp only[hs]
theorem ZJB{P:Program}{N:Nat}{ops:Array Oper}{c e:Nat}{b:B}{res:V}{an:Option Ans}{o:Oper}{st st1:St}{v:V}{obl:List Prop}(cd:o.guard=none)
  (h:ZeK P N ops ⟨[(c,e)],[],[(c,b)],res⟩ an o st=some (v,obl,st1)) :
  ∃b',renB (gOut ⟨[(c,e)],[],[(c,b)],res⟩) b=some b'/\st1=⟨st.env,hrep st.heap e b'⟩/\(∃b0 b1,hget st.heap e=some b0/\renB (bwd [(c,e)]) b0=some b1) /\
   ∀st2,(∀t∈Zga ops o,st2.get t=st.get t)->hget st2.heap e=hget st.heap e->ZeK P N ops ⟨[(c,e)],[],[(c,b)],res⟩ an o st2=some (v,obl,⟨st2.env,hrep st2.heap e b'⟩):=by
 have hg:∀st:St,Zhh ops st o=some true:=fun st=>by unfold Zhh;rw[cd]
 unfold ZeK at h;rw[hg]at h;simp only at h;split at h;rotate_left
 .cases h
 rename_i f args bk bY;unfold Zhj at h;split at h;rotate_left
 .cases h
 rename_i g a b1 om bx;split at h;rotate_left
 .cases h
 rename_i h0 vs hp r az dD bS cH hr;cases h;have dN:gOut ⟨[(c,e)],[],[(c,b)],res⟩ c=some e:=by simp only[gOut,Zqg,Nat.beq_refl]
 obtain⟨b',aL,rfl⟩ : ∃b',renB (gOut ⟨[(c,e)],[],[(c,b)],res⟩) b=some b'/\hp=[(e,b')]:=by
  simp only[ZsT,dN]at cH;split at cH
  .rename_i i0 b0 l0 q1 q2 q3;cases q1;cases q3;cases cH;exact⟨_,q2,rfl⟩
  .cases cH
 have gF:∀hh,ZAr [(e,b')] [(c,e)] hh=hrep hh e b':=fun hh=>by
  unfold ZAr;simp only[ZvI,Nat.beq_refl,ZxO]
 refine⟨b',aL,by rw[gF],?_,fun st2 hu hh=>?_⟩
 .simp only[hIn]at dD;split at dD
  .rename_i b0 br;split at dD
   .rename_i b2 l2 q1 q2;exact⟨b0,b2,br,q1⟩
   .cases dD
  .cases dD
 .have he:∀x∈ZcD (.call { callee:=f,args:=args,argTypes:=bk }),evo st2 x=evo st x:=fun x hx=>ZmR hu x (by rw[bY];exact hx);have dO:okHA N st2 ⟨[(c,e)],[],[(c,b)],res⟩=true:=az;have hQ:hIn (bwd [(c,e)]) st2.heap [(c,e)]=some h0:=by
   rw[ZAN (h:=st.heap) (fun p hp=>by
    rcases List.mem_singleton.1 hp with rfl;exact hh)]
   exact dD
  unfold ZeK;rw[hg];simp only[bY];unfold Zhj;rw[Zky he,bx];simp only[dO,hQ,Ziw (fun x hx=>he x (ZoI x hx)) a b1,bS,cH,hr,gF]
def plOf(ra:RA)(i:Nat)(o:Oper):Option Nat:=match ZcX ra.hc i,ZcX ra.hc (i+1000),o.guard with
 |some ⟨[(c,e)],[],[(c',_)],_⟩,none,none=>match Nat.beq c c' with
  |true=>some e
  |false=>none
 |_,_,_=>none
theorem ZnU{P:Program}{N:Nat}{T:Tab}{ops:Array Oper}{ra:RA}{i e:Nat}{o:Oper}{st st1:St}{v:V}{obl:List Prop}(hp:plOf ra i o=some e)(h:ZdN P N T ops ra i o st=some (v,obl,st1)) :
  ∃b':B,(∀d,d≠e->b'.says d=false)/\st1=⟨st.env,hrep st.heap e b'⟩/\(∀d b0,d≠e->hget st.heap e=some b0->b0.says d=false) /\
   ∀st2,(∀t∈Zga ops o,st2.get t=st.get t)->hget st2.heap e=hget st.heap e->ZdN P N T ops ra i o st2=some (v,obl,⟨st2.env,hrep st2.heap e b'⟩):=by
 unfold plOf at hp;split at hp;rotate_left
 .cases hp
 rename_i c e0 c' b res hk hk2 cd;split at hp;rotate_left
 .cases hp
 rename_i bX;cases hp;obtain rfl:=Nat.eq_of_beq_eq_true bX;unfold ZdN at h ⊢;simp only[hk,hk2]at h ⊢;obtain⟨b',h1,h2,⟨b0,b1,h3,h4⟩,h5⟩:=ZJB cd h;refine⟨b',fun d hd=>ZJd (fun k hk'=>?_) h1,h2,fun d b2 hd bB=>?_,h5⟩
 .simp only[gOut,Zqg]at hk';split at hk'
  .rename_i hq;split at hq
   .cases hq;cases hk';exact hd rfl
   .cases hq
  .cases hk'
 .rw[h3]at bB;cases bB;refine ZGz ?_ h4;simp only[bwd,List.map_cons,List.map_nil,Zqg];split
  .rename_i hq;exact absurd (Nat.eq_of_beq_eq_true hq).symm hd
  .rfl
structure Eqv (st st2:St):Prop where
 env:∀t,st2.get t=st.get t
 heap:st2.heap=st.heap
theorem Eqv.refl(st:St):Eqv st st:=⟨fun _=>rfl,rfl⟩
theorem Eqv.trans{a b c:St}(h:Eqv a b)(k:Eqv b c):Eqv a c:=⟨fun t=>(k.env t).trans (h.env t),k.heap.trans h.heap⟩
theorem ZxT{st st2:St}{d:Nat}(h:∀t,st2.get t=st.get t):∀n,Zir st2 d n=Zir st d n
 | 0=>rfl
 |n+1=>by simp only[Zir,h n,ZxT h n]
theorem ZAp{st st2:St}(h:Eqv st st2)(N d:Nat):ZdM N d st2=ZdM N d st:=by
 unfold ZdM;rw[ZxT h.env,h.heap]
theorem ZcW.eqv{N:Nat}{S0:Nat->Prop}{w0:ZaU}{st st2:St}{a:Act}{w:World}(h:ZcW N S0 w0 st a w)(he:Eqv st st2):ZcW N S0 w0 st2 a w:=
 h.le (N:=N) ⟨fun t=>.inl (he.env t),fun id b hb=>by rw[<-he.heap];exact hb⟩
theorem ZJo{N:Nat}{st st2:St}(he:Eqv st st2)(ha:HA):okHA N st2 ha=okHA N st ha:=by
 unfold okHA;rw[show (fun p:Nat×Nat=>ZdM N p.2 st2)=fun p=>ZdM N p.2 st from funext fun p=>ZAp he N p.2]
theorem ZFf{P:Program}{N:Nat}{T:Tab}{ops:Array Oper}{ra:RA}{i:Nat}{o:Oper}{st st1 st2:St}{v:V}{obl:List Prop}(hc:ZyZ ra i o=true)(he:Eqv st st2)(h:ZdN P N T ops ra i o st=some (v,obl,st1)) :
  ∃hp,ZdN P N T ops ra i o st2=some (v,obl,⟨st2.env,hp⟩)/\hp=st1.heap:=by
 by_cases hc3:clsX ra i o<=3
 .obtain⟨e1,h1,gk⟩:=ZfQ (st2:=st2) hc3 (fun t _=>he.env t) (fun _=>he.heap) (fun _ hq=>by rw[ZAp he];exact hq) h;refine⟨_,gk,?_⟩;split
  .rename_i gX;rw[h1 gX];exact he.heap
  .rfl
 .cases hk:ZcX ra.hc i with
  |none=>
   exfalso;unfold ZyZ at hc;rw[ZiV hk]at hc3;rw[hk]at hc;exact hc3 (Nat.le_of_ble_eq_true hc)
  |some ha=>
   have hk2:ZcX ra.hc (i+1000)=none:=by
    cases hk2:ZcX ra.hc (i+1000)with
    |none=>rfl
    |some x=>
     exfalso;unfold ZyZ at hc;rw[hk]at hc;simp only[hk2]at hc;apply hc3;unfold clsX;rw[hk];simp only[hc];omega
   unfold ZdN at h ⊢;rw[hk]at h ⊢;simp only at h ⊢;rw[hk2]at h ⊢;simp only at h ⊢;unfold ZeK at h ⊢;rw[Zmh (o:=o) (ops:=ops) (fun t _=>he.env t)];split at h
   .split at h
    .rename_i c args bk bY;have aZ:∀x,evo st2 x=evo st x:=fun x=>by
      cases x with
      |tmp t=>exact he.env t
      |const v=>rfl
      |func f=>rfl
      |global g=>rfl
     unfold Zhj at h ⊢;rw[Zky (args:=args) (bk:=bk) (fun x _=>aZ x)];split at h;rotate_left
     .cases h
     rename_i g a b om bx;rw[Ziw (fun x _=>aZ x) a b,ZJo he,he.heap];split at h;rotate_left
     .cases h
     rename_i h0 vs hp r q1 q2 q3 q4 q5;cases h;simp only[q1,q2,q3,q4,q5];exact⟨_,rfl,rfl⟩
    .cases h
   .cases h;exact⟨_,rfl,he.heap⟩
   .cases h
def ZsZ(ra:RA):Nat->List Oper->List (Nat×Nat)
 |_,[]=>[]
 |i,o :: r=>match Nat.beq (clsX ra i o) 3 with
  |true=>(i,o.dst.getD 0) :: ZsZ ra (i+1) r
  |false=>ZsZ ra (i+1) r
def Zgi(ai:List (List Nat))(i:Nat):List Nat:=ai.getD i []
def memN(k:Nat):List Nat->Bool
 | []=>false
 |x :: l=>match Nat.beq x k with
  |true=>true
  |false=>memN k l
theorem ZrC{k:Nat}:∀{l:List Nat},memN k l=true↔k∈l
 | []=>by simp[memN]
 |x :: l=>by
  simp only[memN]
  split
  .rename_i h
   simp[ZaN h]
  .rename_i h
   have:=Nat.ne_of_beq_eq_false h
   rw[ZrC]
   simp[Ne.symm this]
def chk(ni:List (Nat×Nat))(ps:List Nat)(i:Nat)(v:V):Bool:=ni.all fun p=>Nat.beq p.1 i||memN p.1 ps || !(v.says p.2)
section
variable (P:Program) (N:Nat) (T:Tab) (ops:Array Oper) (ra:RA) (ai:List (List Nat)) (ni:List (Nat × Nat))
def bxOk(l:List Nat)(st:St)(op:Op):Bool:=match l with
 | []=>true
 |c :: _=>match op with
  | .load _ x=>match evo st x with
   | .one (.ptr d _)=>Nat.beq d c
   | .one (.rp _ _ _)=>Nat.beq 99998 c
   |_=>false
  | .store _ x _=>match evo st x with
   | .one (.ptr d _)=>Nat.beq d c
   |_=>false
  |_=>false
def ZfK(i:Nat)(st:St):Option (St×List Prop):=match ops[i]? with
 |none=>none
 |some o=>match bxOk (Zgi ai (ops.size+i)) st o.op with
  |false=>none
  |true=>match ZdN P N T ops ra i o st with
   |none=>none
   |some (v,obl,st')=>match chk ni (Zgi ai i) i v with
    |false=>none
    |true=>match putO N st' o.dst v with
     |none=>none
     |some st''=>some (st'',obl)
def Zva:List Nat->St->Option (St×List Prop)
 | [],st=>some (st,[])
 |i :: l,st=>match ZfK P N T ops ra ai ni i st with
  |none=>none
  |some (st1,o1)=>match Zva l st1 with
   |none=>none
   |some (st2,o2)=>some (st2,o1++o2)
def disj(x:Option Nat)(l:List Nat):Bool:=match x with
 |none=>true
 |some d=>!(memN d l)
def ZoC(x y:Option Nat):Bool:=match x,y with
 |some a,some b=>!(Nat.beq a b)
 |_,_=>true
def ZKe(k i:Nat):Bool:=match ops[k]?,ops[i]? with
 |some a,some b=>disj a.dst (Zga ops b)&&disj b.dst (Zga ops a)&&ZoC a.dst b.dst &&
   ((Nat.ble (clsX ra k a) 1&&Nat.ble (clsX ra i b) 1)||(Nat.beq (clsX ra k a) 0&&Nat.ble (clsX ra i b) 3)||(Nat.beq (clsX ra i b) 0&&Nat.ble (clsX ra k a) 3)||(Nat.beq (clsX ra k a) 3&&Nat.beq (clsX ra i b) 1&&(Zga ops b).all fun t=>Nat.blt t N)||(Nat.beq (clsX ra k a) 1&&Nat.beq (clsX ra i b) 3&&ZvZ ra i b)||(Zmf ra k a&&Zmf ra i b)||((Zmf ra k a||isMk ra k a)&&(Zmf ra i b||isMk ra i b)&&(Zga ops b).all fun t=>Nat.blt t N))
 |_,_=>false
def isLd:Op->Bool | .load _ _=>true|_=>false
def isSt:Op->Bool | .store _ _ _=>true|_=>false
def ZKX(i:Nat):Op->Bool
 | .call { callee:=.builtin .append,.. }=>match ZcX ra.an i with
  |some (.c _ _)=>true
  |_=>false
 |_=>false
def okLS(k i:Nat):Bool:=match ops[k]?,ops[i]?,Zgi ai (ops.size+k),Zgi ai (ops.size+i)with
 |some a,some b,c :: _,d :: _=>disj a.dst (Zga ops b)&&disj b.dst (Zga ops a)&&ZoC a.dst b.dst&&isLd a.op&&isSt b.op&&(ZcX ra.hc k).isNone&&(ZcX ra.hc i).isNone && !(Nat.beq c d)
 |_,_,_,_=>false
def okLC(k i:Nat):Bool:=match ops[k]?,ops[i]? with
 |some a,some b=>disj a.dst (Zga ops b)&&disj b.dst (Zga ops a)&&ZoC a.dst b.dst&&(match plOf ra k a,plOf ra i b with
  |some e,none=>(Zmf ra i b && !(Nat.beq (b.dst.getD 0) e))||(isLd b.op&&(ZcX ra.hc i).isNone&&match Zgi ai (ops.size+i)with
   |c :: _=>!(Nat.beq c e)
   | []=>false)
  |none,some e=>(Zmf ra k a && !(Nat.beq (a.dst.getD 0) e))||(isLd a.op&&(ZcX ra.hc k).isNone&&match Zgi ai (ops.size+k)with
   |c :: _=>!(Nat.beq c e)
   | []=>false)
  |_,_=>false)
 |_,_=>false
def ZyI:Operand->Operand->Bool | .tmp a,.tmp b=>Nat.beq a b|_,_=>false
def okLM(k i:Nat):Bool:=match ops[k]?,ops[i]? with
 |some a,some b=>match a.op,b.op with
  | .lookup t x y false,.mapEntry t' x' y'=>Nat.beq t t'&&ZyI x x'&&ZyI y y'&&disj a.dst (Zga ops b)&&disj b.dst (Zga ops a)&&ZoC a.dst b.dst&&a.guard.isNone&&b.guard.isNone &&
    (ZcX ra.hc k).isNone&&(ZcX ra.hc i).isNone&&(ZcX ra.bl k).isNone&&(ZcX ra.bl i).isNone&&(kdn ra.dn k).isEmpty&&(kdn ra.dn i).isEmpty&&(ZcX ra.rl k).isNone&&(ZcX ra.rl i).isNone
  |_,_=>false
 |_,_=>false
def okLA(k i:Nat):Bool:=match ops[k]?,ops[i]?,Zgi ai (ops.size+k)with
 |some a,some b,c :: _=>disj a.dst (Zga ops b)&&disj b.dst (Zga ops a)&&ZoC a.dst b.dst&&isLd a.op&&ZKX ra i b.op&&a.guard.isNone&&(ZcX ra.hc k).isNone&&(ZcX ra.hc i).isNone && !(Nat.beq c 99998)
 |_,_,_=>false
def ZCk(k i:Nat):Bool:=ZKe N ops ra k i||okLS ops ra ai k i||okLC ops ra ai k i||okLA ops ra ai k i
def ZtX(k i:Nat):Bool:=ZCk N ops ra ai k i||okLM ops ra k i
end
theorem ZaC{N:Nat}{st st':St}{dst:Option Nat}{v:V}(h:putO N st dst v=some st')(t:Nat):st'.get t=(if dst=some t then v else st.get t)/\st'.heap=st.heap:=by
 unfold putO at h;split at h
 .cases h;simp
 .split at h
  .cases h;rename_i d _ _;refine⟨?_,rfl⟩;rw[St.get_put];by_cases e:d=t
   .subst e;simp
   .rw[if_neg e,if_neg (by simpa using e)]
  .cases h
theorem Zel{N:Nat}{st st' st2:St}{dst:Option Nat}{v:V}(h:putO N st dst v=some st'):∃aH,putO N st2 dst v=some aH:=by
 cases dst with
 |none=>exact⟨_,rfl⟩
 |some d=>
  unfold putO at h ⊢;cases hb:Nat.blt d N with
  |true=>simp only[hb];exact⟨_,rfl⟩
  |false=>simp only[hb]at h;cases h
theorem Zbp{x:Option Nat}{l:List Nat}(h:disj x l=true){t:Nat}(ht:t∈l):x≠some t:=by
 rintro rfl;simp only[disj,Bool.not_eq_true']at h;rw[<-Bool.not_eq_true,ZrC]at h;exact h ht
section
variable {P:Program} {N:Nat} {T:Tab} {ops:Array Oper} {ra:RA} {ai:List (List Nat)} {ni:List (Nat × Nat)}
theorem ZdA{i:Nat}{st st':St}{obl:List Prop}(h:ZfK P N T ops ra ai ni i st=some (st',obl)):∃o v st1,ops[i]?=some o/\ZdN P N T ops ra i o st=some (v,obl,st1)/\chk ni (Zgi ai i) i v=true/\putO N st1 o.dst v=some st':=by
 unfold ZfK at h;split at h
 .cases h
 rename_i o ho;split at h
 .cases h
 split at h
 .cases h
 rename_i v jm st1 hr;split at h
 .cases h
 rename_i hc;split at h
 .cases h
 rename_i st2 hp;cases h;exact⟨o,v,st1,ho,hr,hc,hp⟩
theorem Zea{i:Nat}{st st':St}{obl:List Prop}(h:ZfK P N T ops ra ai ni i st=some (st',obl)){o:Oper}(ho:ops[i]?=some o):bxOk (Zgi ai (ops.size+i)) st o.op=true:=by
 unfold ZfK at h;rw[ho]at h;simp only at h;split at h
 .cases h
 .assumption
theorem Zer{st st2:St}{o:Oper}(l:List Nat)(h:∀t∈Zga ops o,st2.get t=st.get t):bxOk l st2 o.op=bxOk l st o.op:=by
 have he:=ZmR h;unfold bxOk;cases l with
 |nil=>rfl
 |cons c l=>
  obtain⟨dst,op,type,dM,after,guard⟩:=o;simp only at he ⊢;cases op<;>simp only[ZcD]at he ⊢
  case load t x=>rw[he x (by simp)]
  case store t x y=>rw[he x (by simp)]
theorem ZfJ{i:Nat}{st st1 st':St}{o:Oper}{v:V}{obl:List Prop}(ho:ops[i]?=some o)(hbx:bxOk (Zgi ai (ops.size+i)) st o.op=true)(hr:ZdN P N T ops ra i o st=some (v,obl,st1))(hc:chk ni (Zgi ai i) i v=true)(hp:putO N st1 o.dst v=some st'):ZfK P N T ops ra ai ni i st=some (st',obl):=by
 unfold ZfK;simp only[ho,hbx,hr,hc,hp]
theorem ZrN{ps:List Nat}{i k d:Nat}{v:V}(h:chk ni ps i v=true)(hk:(k,d)∈ni)(hne:k≠i)(hp:k ∉ ps):v.says d=false:=by
 have:=List.all_eq_true.1 h _ hk;simp only[Bool.or_eq_true,Bool.not_eq_true']at this;rcases this with (h1|h1)|h1
 .exact absurd (ZaN h1) hne
 .exact absurd (ZrC.1 h1) hp
 .exact h1
theorem ZAq{st:St}{d:Nat}(hd:d<Zpu):∀{n:Nat},(∀t,t<n->(st.get t).says d=false)->Zir st d n=true
 | 0,_=>Nat.ble_eq_true_of_le hd
 |n+1,h=>by
  simp only[Zir,h n (by omega)]
  exact ZAq hd fun t ht=>h t (by omega)
theorem ZlH{st st1 st':St}{dst:Option Nat}{v:V}{d:Nat}(hq:Zir st d N=true)(he:∀t,st1.get t=st.get t)(hv:v.says d=false)(hp:putO N st1 dst v=some st'):Zir st' d N=true:=
 ZAq (ZvR hq) fun t ht=>by
  rw[(ZaC hp t).1]
  split
  .exact hv
  .rw[he t];exact ZqE hq t ht
theorem Zjo{st st1:St}(h:st1.env=st.env)(t:Nat):st1.get t=st.get t:=by unfold St.get;rw[h]
theorem ZmJ{st:St}{d:Nat}(h1:Zir st d N=true)(h2:ZhX d st.heap=true):ZdM N d st=true:=by unfold ZdM;rw[h1];exact h2
def ZBJ(ops:Array Oper)(ra:RA)(ni:List (Nat×Nat)):Prop:=∀i o,ops[i]?=some o->clsX ra i o=3->(i,o.dst.getD 0)∈ni
theorem ZmW{ra:RA}{i:Nat}{o:Oper}(h:Zmf ra i o=true):clsX ra i o=3:=by
 unfold Zmf at h;unfold clsX;split at h
 .rename_i ha hk;rw[hk];split at h
  .simp only[h]
  .cases h
 .rename_i hk;rw[hk];simp only;split at h
  .simp only[Bool.and_eq_true]at h;exact Nat.eq_of_beq_eq_true h.2
  .cases h
theorem ZBO(dl:ZBJ ops ra ni){k i:Nat}{a b:Oper}(ha:ops[k]?=some a)(hb:ops[i]?=some b)(d1:disj a.dst (Zga ops b)=true)(d2:disj b.dst (Zga ops a)=true)(d3:ZoC a.dst b.dst=true)(dP:Zmf ra k a=true)(eA:Zmf ra i b=true)
  (hne:k≠i) (hki:k ∉ Zgi ai i) {st st1 st2:St} {o1 o2:List Prop} (h1:ZfK P N T ops ra ai ni k st=some (st1,o1)) (h2:ZfK P N T ops ra ai ni i st1=some (st2,o2))
  (hJ:∀o,ops[i]?=some o->clsX ra i o=3->Zir st (o.dst.getD 0) N=true) :
  ∃aj aH,ZfK P N T ops ra ai ni i st=some (aj,o2)/\ZfK P N T ops ra ai ni k aj=some (aH,o1)/\Eqv aH st2:=by
 obtain⟨a',va,sa,cm,hra,bT,bm⟩:=ZdA h1;obtain⟨b',vb,sb,aL,bq,cC,bv⟩:=ZdA h2;rw[ha]at cm;cases cm;rw[hb]at aL;cases aL;obtain⟨ba,iQ,gK,rfl,gl⟩:=Znb dP hra;obtain⟨bb,hU,hZ,rfl,gn⟩:=Znb eA bq;have bC:st1.heap=hins st.heap (a.dst.getD 0) ba:=(ZaC bm 0).2;have g1:∀t,a.dst≠some t->st1.get t=st.get t:=fun t ht=>by rw[(ZaC bm t).1,if_neg ht];rfl
 have k6:hget st.heap (a.dst.getD 0)=none:=(ZiW (Zde gK).2).1;have g6:hget st1.heap (b.dst.getD 0)=none:=(ZiW (Zde hZ).2).1;have fg:b.dst.getD 0≠a.dst.getD 0:=by
  intro e;rw[bC,e,Zfo,if_pos rfl]at g6;cases g6
 have iR:ZdM N (b.dst.getD 0) st=true:=by
  refine ZmJ (hJ b hb (ZmW eA)) ?_;have:=(Zde hZ).2;rw[bC]at this;exact Zoc k6 this
 have bz:=gn st (fun t ht=>(g1 t (Zbp d1 ht)).symm) iR;obtain⟨aj,aX⟩:=Zel (st2:=⟨st.env,hins st.heap (b.dst.getD 0) bb⟩) bv;have g2:∀t,b.dst≠some t->aj.get t=st.get t:=fun t ht=>by rw[(ZaC aX t).1,if_neg ht];rfl
 have bj:aj.heap=hins st.heap (b.dst.getD 0) bb:=(ZaC aX 0).2;have fT:ZdM N (a.dst.getD 0) aj=true:=by
  obtain⟨q1,q2⟩:=Zde gK;refine ZmJ (ZlH (st1:=⟨st.env,hins st.heap (b.dst.getD 0) bb⟩) q1 (fun t=>rfl) (ZrN cC (dl k a ha (ZmW dP)) hne hki) aX) ?_;rw[bj];exact ZvU fg (hU _) q2
 have bG:=gl aj (fun t ht=>g2 t (Zbp d2 ht)) fT;obtain⟨aH,bg⟩:=Zel (st2:=⟨aj.env,hins aj.heap (a.dst.getD 0) ba⟩) bm;have xb:bxOk (Zgi ai (ops.size+i)) st b.op=true:=by rw[Zer (st:=st1) _ (fun t ht=>(g1 t (Zbp d1 ht)).symm)];exact Zea h2 hb
 have xa:bxOk (Zgi ai (ops.size+k)) aj a.op=true:=by rw[Zer (st:=st) _ (fun t ht=>g2 t (Zbp d2 ht))];exact Zea h1 ha
 refine⟨aj,aH,ZfJ hb xb bz cC aX,ZfJ ha xa bG bT bg,⟨fun t=>?_,?_⟩⟩
 .rw[(ZaC bv t).1,(ZaC bg t).1];have hd:¬(a.dst=some t/\b.dst=some t):=by
   rintro ⟨e1,e2⟩;rw[e1,e2]at d3;simp[ZoC]at d3
  by_cases e1:a.dst=some t
  .rw[if_pos e1,if_neg (fun e2=>hd ⟨e1,e2⟩)];show (⟨st1.env,_⟩ : St).get t=_;rw[show (⟨st1.env,hins st1.heap (b.dst.getD 0) bb⟩ : St).get t=st1.get t from rfl,(ZaC bm t).1,if_pos e1]
  .rw[if_neg e1];have e3:(⟨aj.env,hins aj.heap (a.dst.getD 0) ba⟩ : St).get t=aj.get t:=rfl;rw[e3,(ZaC aX t).1];split
   .rfl
   .rw[show (⟨st1.env,hins st1.heap (b.dst.getD 0) bb⟩ : St).get t=st1.get t from rfl,g1 t e1];rfl
 .rw[(ZaC bv 0).2,(ZaC bg 0).2,bC,bj];exact ZAI (a.dst.getD 0) (b.dst.getD 0) ba bb (Ne.symm fg) st.heap
theorem ZBP(dl:ZBJ ops ra ni){k i:Nat}{a b:Oper}(ha:ops[k]?=some a)(hb:ops[i]?=some b)(d1:disj a.dst (Zga ops b)=true)(d2:disj b.dst (Zga ops a)=true)(d3:ZoC a.dst b.dst=true)(dP:(Zmf ra k a||isMk ra k a)=true)(eA:(Zmf ra i b||isMk ra i b)=true)(k7:∀t∈Zga ops b,t<N)
  (hne:k≠i) (hki:k ∉ Zgi ai i) {st st1 st2:St} {o1 o2:List Prop} (h1:ZfK P N T ops ra ai ni k st=some (st1,o1)) (h2:ZfK P N T ops ra ai ni i st1=some (st2,o2))
  (hJ:∀o,ops[i]?=some o->clsX ra i o=3->Zir st (o.dst.getD 0) N=true) :
  ∃aj aH,ZfK P N T ops ra ai ni i st=some (aj,o2)/\ZfK P N T ops ra ai ni k aj=some (aH,o1)/\Eqv aH st2:=by
 obtain⟨a',va,sa,cm,hra,bT,bm⟩:=ZdA h1;obtain⟨b',vb,sb,aL,bq,cC,bv⟩:=ZdA h2;rw[ha]at cm;cases cm;rw[hb]at aL;cases aL;have ca:clsX ra k a=3:=by
  rw[Bool.or_eq_true]at dP;exact dP.elim ZmW ZDP
 have cb:clsX ra i b=3:=by
  rw[Bool.or_eq_true]at eA;exact eA.elim ZmW ZDP
 obtain⟨ba,iQ,gK,rfl,gl⟩:=ZAu dP hra;obtain⟨bb,hU,hZ,rfl,gn⟩:=ZAu eA bq;have bC:st1.heap=hins st.heap (a.dst.getD 0) ba:=(ZaC bm 0).2;have g1:∀t,a.dst≠some t->st1.get t=st.get t:=fun t ht=>by rw[(ZaC bm t).1,if_neg ht];rfl
 have k6:hget st.heap (a.dst.getD 0)=none:=(ZiW (Zde gK).2).1;have g6:hget st1.heap (b.dst.getD 0)=none:=(ZiW (Zde hZ).2).1;have fg:b.dst.getD 0≠a.dst.getD 0:=by
  intro e;rw[bC,e,Zfo,if_pos rfl]at g6;cases g6
 have iR:ZdM N (b.dst.getD 0) st=true:=by
  refine ZmJ (hJ b hb cb) ?_;have:=(Zde hZ).2;rw[bC]at this;exact Zoc k6 this
 have bz:=gn st (fun t ht=>(g1 t (Zbp d1 ht)).symm) (fun x dy id bb cV aL=>by
  rw[bC,Zfo]at aL;split at aL
  .rename_i e;exfalso;have:(evo st1 x).says (a.dst.getD 0)=false:=by
    cases x with
    |tmp t=>
     have ht:t∈Zga ops b:=List.mem_append.2 (.inl (Zru dy));show (st1.get t).says _=false;rw[g1 t (Zbp d1 ht)];exact ZqE (Zde gK).1 t (k7 t ht)
    |const v=>exact ZxZ v _
    |func f=>rfl
    |global g=>rfl
   rw[e]at this;simp only[this]at cV;cases cV
  .exact aL) iR
 obtain⟨aj,aX⟩:=Zel (st2:=⟨st.env,hins st.heap (b.dst.getD 0) bb⟩) bv;have g2:∀t,b.dst≠some t->aj.get t=st.get t:=fun t ht=>by rw[(ZaC aX t).1,if_neg ht];rfl
 have bj:aj.heap=hins st.heap (b.dst.getD 0) bb:=(ZaC aX 0).2;have fT:ZdM N (a.dst.getD 0) aj=true:=by
  obtain⟨q1,q2⟩:=Zde gK;refine ZmJ (ZlH (st1:=⟨st.env,hins st.heap (b.dst.getD 0) bb⟩) q1 (fun t=>rfl) (ZrN cC (dl k a ha ca) hne hki) aX) ?_;rw[bj];exact ZvU fg (hU _) q2
 have bG:=gl aj (fun t ht=>g2 t (Zbp d2 ht)) (fun x dy id bb' cV aL=>by
  rw[bj,Zfo];split
  .rename_i e;exfalso;have ia:=(ZiW (Zde iR).2).1;rw[e]at ia;rw[aL]at ia;cases ia
  .exact aL) fT
 obtain⟨aH,bg⟩:=Zel (st2:=⟨aj.env,hins aj.heap (a.dst.getD 0) ba⟩) bm;have xb:bxOk (Zgi ai (ops.size+i)) st b.op=true:=by rw[Zer (st:=st1) _ (fun t ht=>(g1 t (Zbp d1 ht)).symm)];exact Zea h2 hb
 have xa:bxOk (Zgi ai (ops.size+k)) aj a.op=true:=by rw[Zer (st:=st) _ (fun t ht=>g2 t (Zbp d2 ht))];exact Zea h1 ha
 refine⟨aj,aH,ZfJ hb xb bz cC aX,ZfJ ha xa bG bT bg,⟨fun t=>?_,?_⟩⟩
 .rw[(ZaC bv t).1,(ZaC bg t).1];have hd:¬(a.dst=some t/\b.dst=some t):=by
   rintro ⟨e1,e2⟩;rw[e1,e2]at d3;simp[ZoC]at d3
  by_cases e1:a.dst=some t
  .rw[if_pos e1,if_neg (fun e2=>hd ⟨e1,e2⟩)];show (⟨st1.env,_⟩ : St).get t=_;rw[show (⟨st1.env,hins st1.heap (b.dst.getD 0) bb⟩ : St).get t=st1.get t from rfl,(ZaC bm t).1,if_pos e1]
  .rw[if_neg e1];have e3:(⟨aj.env,hins aj.heap (a.dst.getD 0) ba⟩ : St).get t=aj.get t:=rfl;rw[e3,(ZaC aX t).1];split
   .rfl
   .rw[show (⟨st1.env,hins st1.heap (b.dst.getD 0) bb⟩ : St).get t=st1.get t from rfl,g1 t e1];rfl
 .rw[(ZaC bv 0).2,(ZaC bg 0).2,bC,bj];exact ZAI (a.dst.getD 0) (b.dst.getD 0) ba bb (Ne.symm fg) st.heap
theorem ZzZ(dl:ZBJ ops ra ni){k i e:Nat}{a b:Oper}(ha:ops[k]?=some a)(hb:ops[i]?=some b)(d1:disj a.dst (Zga ops b)=true)(d2:disj b.dst (Zga ops a)=true)(d3:ZoC a.dst b.dst=true)(dP:plOf ra k a=some e)(eA:Zmf ra i b=true)(gL:b.dst.getD 0≠e)
  {st st1 st2:St} {o1 o2:List Prop} (h1:ZfK P N T ops ra ai ni k st=some (st1,o1)) (h2:ZfK P N T ops ra ai ni i st1=some (st2,o2))
  (hJ:∀o,ops[i]?=some o->clsX ra i o=3->Zir st (o.dst.getD 0) N=true) :
  ∃aj aH,ZfK P N T ops ra ai ni i st=some (aj,o2)/\ZfK P N T ops ra ai ni k aj=some (aH,o1)/\Eqv aH st2:=by
 obtain⟨a',va,sa,cm,hra,bT,bm⟩:=ZdA h1;obtain⟨b',vb,sb,aL,bq,cC,bv⟩:=ZdA h2;rw[ha]at cm;cases cm;rw[hb]at aL;cases aL;obtain⟨ba,iQ,rfl,sa3,gl⟩:=ZnU dP hra;obtain⟨bb,hU,hZ,rfl,gn⟩:=Znb eA bq;have bC:st1.heap=hrep st.heap e ba:=(ZaC bm 0).2;have g1:∀t,a.dst≠some t->st1.get t=st.get t:=fun t ht=>by rw[(ZaC bm t).1,if_neg ht];rfl
 have iR:ZdM N (b.dst.getD 0) st=true:=by
  refine ZmJ (hJ b hb (ZmW eA)) ?_;have:=(Zde hZ).2;rw[bC]at this;exact Zsb (Ne.symm gL) (fun b0 h0=>sa3 _ b0 gL h0) this
 have bz:=gn st (fun t ht=>(g1 t (Zbp d1 ht)).symm) iR;obtain⟨aj,aX⟩:=Zel (st2:=⟨st.env,hins st.heap (b.dst.getD 0) bb⟩) bv;have g2:∀t,b.dst≠some t->aj.get t=st.get t:=fun t ht=>by rw[(ZaC aX t).1,if_neg ht];rfl
 have bj:aj.heap=hins st.heap (b.dst.getD 0) bb:=(ZaC aX 0).2;have bG:=gl aj (fun t ht=>g2 t (Zbp d2 ht)) (by rw[bj,Zfo,if_neg gL]);obtain⟨aH,bg⟩:=Zel (st2:=⟨aj.env,hrep aj.heap e ba⟩) bm;have xb:bxOk (Zgi ai (ops.size+i)) st b.op=true:=by rw[Zer (st:=st1) _ (fun t ht=>(g1 t (Zbp d1 ht)).symm)];exact Zea h2 hb
 have xa:bxOk (Zgi ai (ops.size+k)) aj a.op=true:=by rw[Zer (st:=st) _ (fun t ht=>g2 t (Zbp d2 ht))];exact Zea h1 ha
 refine⟨aj,aH,ZfJ hb xb bz cC aX,ZfJ ha xa bG bT bg,⟨fun t=>?_,?_⟩⟩
 .rw[(ZaC bv t).1,(ZaC bg t).1];have hd:¬(a.dst=some t/\b.dst=some t):=by
   rintro ⟨e1,e2⟩;rw[e1,e2]at d3;simp[ZoC]at d3
  by_cases e1:a.dst=some t
  .rw[if_pos e1,if_neg (fun e2=>hd ⟨e1,e2⟩)];show (⟨st1.env,_⟩ : St).get t=_;rw[show (⟨st1.env,hins st1.heap (b.dst.getD 0) bb⟩ : St).get t=st1.get t from rfl,(ZaC bm t).1,if_pos e1]
  .rw[if_neg e1];have e3:(⟨aj.env,hrep aj.heap e ba⟩ : St).get t=aj.get t:=rfl;rw[e3,(ZaC aX t).1];split
   .rfl
   .rw[show (⟨st1.env,hins st1.heap (b.dst.getD 0) bb⟩ : St).get t=st1.get t from rfl,g1 t e1];rfl
 .rw[(ZaC bv 0).2,(ZaC bg 0).2];simp only;rw[bC,bj,ZAH gL]
theorem ZzY(dl:ZBJ ops ra ni){k i e:Nat}{a b:Oper}(ha:ops[k]?=some a)(hb:ops[i]?=some b)(d1:disj a.dst (Zga ops b)=true)(d2:disj b.dst (Zga ops a)=true)(d3:ZoC a.dst b.dst=true)(dP:Zmf ra k a=true)(eA:plOf ra i b=some e)(gL:a.dst.getD 0≠e)
  (hne:k≠i) (hki:k ∉ Zgi ai i) {st st1 st2:St} {o1 o2:List Prop} (h1:ZfK P N T ops ra ai ni k st=some (st1,o1)) (h2:ZfK P N T ops ra ai ni i st1=some (st2,o2)) :
  ∃aj aH,ZfK P N T ops ra ai ni i st=some (aj,o2)/\ZfK P N T ops ra ai ni k aj=some (aH,o1)/\Eqv aH st2:=by
 obtain⟨a',va,sa,cm,hra,bT,bm⟩:=ZdA h1;obtain⟨b',vb,sb,aL,bq,cC,bv⟩:=ZdA h2;rw[ha]at cm;cases cm;rw[hb]at aL;cases aL;obtain⟨ba,iQ,gK,rfl,gl⟩:=Znb dP hra;obtain⟨bb,hU,rfl,sb3,gn⟩:=ZnU eA bq;have bC:st1.heap=hins st.heap (a.dst.getD 0) ba:=(ZaC bm 0).2;have g1:∀t,a.dst≠some t->st1.get t=st.get t:=fun t ht=>by rw[(ZaC bm t).1,if_neg ht];rfl
 have bz:=gn st (fun t ht=>(g1 t (Zbp d1 ht)).symm) (by rw[bC,Zfo,if_neg gL]);obtain⟨aj,aX⟩:=Zel (st2:=⟨st.env,hrep st.heap e bb⟩) bv;have g2:∀t,b.dst≠some t->aj.get t=st.get t:=fun t ht=>by rw[(ZaC aX t).1,if_neg ht];rfl
 have bj:aj.heap=hrep st.heap e bb:=(ZaC aX 0).2;have fT:ZdM N (a.dst.getD 0) aj=true:=by
  obtain⟨q1,q2⟩:=Zde gK;refine ZmJ (ZlH (st1:=⟨st.env,hrep st.heap e bb⟩) q1 (fun t=>rfl) (ZrN cC (dl k a ha (ZmW dP)) hne hki) aX) ?_;rw[bj];exact ZvT (hU _ gL) q2
 have bG:=gl aj (fun t ht=>g2 t (Zbp d2 ht)) fT;obtain⟨aH,bg⟩:=Zel (st2:=⟨aj.env,hins aj.heap (a.dst.getD 0) ba⟩) bm;have xb:bxOk (Zgi ai (ops.size+i)) st b.op=true:=by rw[Zer (st:=st1) _ (fun t ht=>(g1 t (Zbp d1 ht)).symm)];exact Zea h2 hb
 have xa:bxOk (Zgi ai (ops.size+k)) aj a.op=true:=by rw[Zer (st:=st) _ (fun t ht=>g2 t (Zbp d2 ht))];exact Zea h1 ha
 refine⟨aj,aH,ZfJ hb xb bz cC aX,ZfJ ha xa bG bT bg,⟨fun t=>?_,?_⟩⟩
 .rw[(ZaC bv t).1,(ZaC bg t).1];have hd:¬(a.dst=some t/\b.dst=some t):=by
   rintro ⟨e1,e2⟩;rw[e1,e2]at d3;simp[ZoC]at d3
  by_cases e1:a.dst=some t
  .rw[if_pos e1,if_neg (fun e2=>hd ⟨e1,e2⟩)];show (⟨st1.env,_⟩ : St).get t=_;rw[show (⟨st1.env,hrep st1.heap e bb⟩ : St).get t=st1.get t from rfl,(ZaC bm t).1,if_pos e1]
  .rw[if_neg e1];have e3:(⟨aj.env,hins aj.heap (a.dst.getD 0) ba⟩ : St).get t=aj.get t:=rfl;rw[e3,(ZaC aX t).1];split
   .rfl
   .rw[show (⟨st1.env,hrep st1.heap e bb⟩ : St).get t=st1.get t from rfl,g1 t e1];rfl
 .rw[(ZaC bv 0).2,(ZaC bg 0).2];simp only;rw[bC,bj,ZAH gL]
theorem ZBw{op:Op}{st:St}{c:Nat}{l:List Nat}(h:bxOk (c :: l) st op=true)(hl:isLd op=true):∀x∈ZcD op,∀id,(evo st x).says id=true->id=c:=by
 unfold bxOk at h;cases op<;>simp only[isLd]at hl<;>try (cases hl;done)
 rename_i t y;intro x hx id hs;simp only[ZcD,List.mem_singleton]at hx;subst hx;simp only at h;split at h
 .rename_i d off hq;rw[hq]at hs;simp only[V.says,C.says]at hs;rw[<-ZaN h];exact(ZaN hs).symm
 .rename_i hq;rw[hq]at hs;simp only[V.says,C.says]at hs;cases hs
 .cases h
theorem ZzX{k i e c:Nat}{l:List Nat}{a b:Oper}(ha:ops[k]?=some a)(hb:ops[i]?=some b)(d1:disj a.dst (Zga ops b)=true)(d2:disj b.dst (Zga ops a)=true)(d3:ZoC a.dst b.dst=true)(eF:isLd a.op=true)(bV:ZcX ra.hc k=none)(fU:Zgi ai (ops.size+k)=c :: l)(eA:plOf ra i b=some e)(k8:c≠e)
  {st st1 st2:St} {o1 o2:List Prop} (h1:ZfK P N T ops ra ai ni k st=some (st1,o1)) (h2:ZfK P N T ops ra ai ni i st1=some (st2,o2)) :
  ∃aj aH,ZfK P N T ops ra ai ni i st=some (aj,o2)/\ZfK P N T ops ra ai ni k aj=some (aH,o1)/\Eqv aH st2:=by
 obtain⟨a',va,sa,cm,hra,bT,bm⟩:=ZdA h1;obtain⟨b',vb,sb,aL,bq,cC,bv⟩:=ZdA h2;rw[ha]at cm;cases cm;rw[hb]at aL;cases aL;have c9:=Zea h1 ha;rw[fU]at c9;have c1:clsX ra k a=1:=by
  rw[ZiV bV];cases hq:a.op<;>rw[hq]at eF<;>first | (cases eF;done)|rfl
 obtain⟨ea,ib,_⟩:=ZfQ (st2:=st) (by omega) (fun t _=>rfl) (fun _=>rfl) (fun _ h=>h) hra;have cl:st1.heap=st.heap:=(ZaC bm 0).2.trans (ib (by omega));have g1:∀t,a.dst≠some t->st1.get t=st.get t:=fun t ht=>by rw[(ZaC bm t).1,if_neg ht];exact Zjo ea t
 have eb:=Zrz bq;obtain⟨bb,hU,rfl,sb3,gn⟩:=ZnU eA bq;have bz:=gn st (fun t ht=>(g1 t (Zbp d1 ht)).symm) (by rw[cl]);obtain⟨aj,aX⟩:=Zel (st2:=⟨st.env,hrep st.heap e bb⟩) bv;have g2:∀t,b.dst≠some t->aj.get t=st.get t:=fun t ht=>by rw[(ZaC aX t).1,if_neg ht];rfl
 have bj:aj.heap=hrep st.heap e bb:=(ZaC aX 0).2;have bG:ZdN P N T ops ra k a aj=some (va,o1,aj):=by
  refine ZlI c1 (fun t ht=>g2 t (Zbp d2 ht)) (fun x dy id b0 cV br=>?_) hra;have hid:=ZBw c9 eF x dy id cV;rw[bj,Ztg,if_neg (by rw[hid];exact Ne.symm k8)];exact br
 obtain⟨aH,bg⟩:=Zel (st2:=aj) bm;have xb:bxOk (Zgi ai (ops.size+i)) st b.op=true:=by rw[Zer (st:=st1) _ (fun t ht=>(g1 t (Zbp d1 ht)).symm)];exact Zea h2 hb
 have xa:bxOk (Zgi ai (ops.size+k)) aj a.op=true:=by rw[Zer (st:=st) _ (fun t ht=>g2 t (Zbp d2 ht))];exact Zea h1 ha
 refine⟨aj,aH,ZfJ hb xb bz cC aX,ZfJ ha xa bG bT bg,⟨fun t=>?_,?_⟩⟩
 .rw[(ZaC bv t).1,(ZaC bg t).1];have hd:¬(a.dst=some t/\b.dst=some t):=by
   rintro ⟨e1,e2⟩;rw[e1,e2]at d3;simp[ZoC]at d3
  by_cases e1:a.dst=some t
  .rw[if_pos e1,if_neg (fun e2=>hd ⟨e1,e2⟩),Zjo eb,(ZaC bm t).1,if_pos e1]
  .rw[if_neg e1];rw[(ZaC aX t).1];split
   .rfl
   .rw[Zjo eb,g1 t e1];rfl
 .rw[(ZaC bv 0).2,(ZaC bg 0).2,bj];simp only;rw[cl]
theorem ZzW{k i e c:Nat}{l:List Nat}{a b:Oper}(ha:ops[k]?=some a)(hb:ops[i]?=some b)(d1:disj a.dst (Zga ops b)=true)(d2:disj b.dst (Zga ops a)=true)(d3:ZoC a.dst b.dst=true)(k9:isLd b.op=true)(bV:ZcX ra.hc i=none)(jp:Zgi ai (ops.size+i)=c :: l)(dP:plOf ra k a=some e)(k8:c≠e)
  {st st1 st2:St} {o1 o2:List Prop} (h1:ZfK P N T ops ra ai ni k st=some (st1,o1)) (h2:ZfK P N T ops ra ai ni i st1=some (st2,o2)) :
  ∃aj aH,ZfK P N T ops ra ai ni i st=some (aj,o2)/\ZfK P N T ops ra ai ni k aj=some (aH,o1)/\Eqv aH st2:=by
 obtain⟨a',va,sa,cm,hra,bT,bm⟩:=ZdA h1;obtain⟨b',vb,sb,aL,bq,cC,bv⟩:=ZdA h2;rw[ha]at cm;cases cm;rw[hb]at aL;cases aL;have fW:=Zea h2 hb;rw[jp]at fW;have c1:clsX ra i b=1:=by
  rw[ZiV bV];cases hq:b.op<;>rw[hq]at k9<;>first | (cases k9;done)|rfl
 obtain⟨ba,iQ,rfl,sa3,gl⟩:=ZnU dP hra;have bC:st1.heap=hrep st.heap e ba:=(ZaC bm 0).2;have g1:∀t,a.dst≠some t->st1.get t=st.get t:=fun t ht=>by rw[(ZaC bm t).1,if_neg ht];rfl
 obtain⟨eb,ko,_⟩:=ZfQ (st2:=st1) (by omega) (fun t _=>rfl) (fun _=>rfl) (fun _ h=>h) bq;have bz:ZdN P N T ops ra i b st=some (vb,o2,st):=by
  refine ZlI c1 (fun t ht=>(g1 t (Zbp d1 ht)).symm) (fun x dy id b0 cV br=>?_) bq;have hid:=ZBw fW k9 x dy id cV;rw[bC,Ztg,if_neg (by rw[hid];exact Ne.symm k8)]at br;exact br
 obtain⟨aj,aX⟩:=Zel (st2:=st) bv;have g2:∀t,b.dst≠some t->aj.get t=st.get t:=fun t ht=>by rw[(ZaC aX t).1,if_neg ht]
 have bj:aj.heap=st.heap:=(ZaC aX 0).2;have bG:=gl aj (fun t ht=>g2 t (Zbp d2 ht)) (by rw[bj]);obtain⟨aH,bg⟩:=Zel (st2:=⟨aj.env,hrep aj.heap e ba⟩) bm;have xb:bxOk (Zgi ai (ops.size+i)) st b.op=true:=by rw[Zer (st:=st1) _ (fun t ht=>(g1 t (Zbp d1 ht)).symm)];exact Zea h2 hb
 have xa:bxOk (Zgi ai (ops.size+k)) aj a.op=true:=by rw[Zer (st:=st) _ (fun t ht=>g2 t (Zbp d2 ht))];exact Zea h1 ha
 refine⟨aj,aH,ZfJ hb xb bz cC aX,ZfJ ha xa bG bT bg,⟨fun t=>?_,?_⟩⟩
 .rw[(ZaC bv t).1,(ZaC bg t).1];have hd:¬(a.dst=some t/\b.dst=some t):=by
   rintro ⟨e1,e2⟩;rw[e1,e2]at d3;simp[ZoC]at d3
  by_cases e1:a.dst=some t
  .rw[if_pos e1,if_neg (fun e2=>hd ⟨e1,e2⟩),Zjo eb,(ZaC bm t).1,if_pos e1]
  .rw[if_neg e1];rw[show (⟨aj.env,hrep aj.heap e ba⟩ : St).get t=aj.get t from rfl,(ZaC aX t).1];split
   .rfl
   .rw[Zjo eb,g1 t e1]
 .rw[(ZaC bv 0).2,(ZaC bg 0).2,ko (by omega),bC,bj]
theorem ZCy{T:Tab}{st st':St}{t d off:Nat}{v:V}{an:Option Ans}{obl:List Prop}(h:ZoA T st t (.one (.ptr d off)) v an=some (obl,st')):∀id,id≠d->hget st'.heap id=hget st.heap id:=by
 intro id hne;unfold ZoA at h;split at h
 .split at h
  .simp only at h;split at h
   .split at h
    .cases h;simp only[ZqI];rw[if_neg (Ne.symm hne)]
    .cases h
   .cases h
  .cases h
 .cases h
theorem ZGX{o:Oper}{i d off:Nat}{st st':St}{t:TypeId}{x y:Operand}{v:V}{obl:List Prop}(ho:o.op=.store t x y)(hx:evo st x=.one (.ptr d off))(h:ZnC P N T ops ra i o st=some (v,obl,st')):∀id,id≠d->hget st'.heap id=hget st.heap id:=by
 intro id hne;unfold ZnC at h;split at h
 .cases h
 .cases h;rfl
 .split at h
  .cases h
  rename_i v0 cA st0 aZ;split at h
  .cases h
  split at h;rotate_left
  .cases h
  split at h;rotate_left
  .cases h
  cases h;unfold evOp at aZ;simp only[ho,hx]at aZ;split at aZ
  .rename_i q hq;cases aZ;exact ZCy hq id hne
  .cases aZ
theorem ZBQ{k i:Nat}(az:okLS ops ra ai k i=true){st st1 st2:St}{o1 o2:List Prop}(h1:ZfK P N T ops ra ai ni k st=some (st1,o1))(h2:ZfK P N T ops ra ai ni i st1=some (st2,o2)) :
  ∃aj aH,ZfK P N T ops ra ai ni i st=some (aj,o2)/\ZfK P N T ops ra ai ni k aj=some (aH,o1)/\Eqv aH st2:=by
 obtain⟨a,va,sa,ha,hra,bT,bm⟩:=ZdA h1;obtain⟨b,vb,sb,hb,bq,cC,bv⟩:=ZdA h2;have c9:=Zea h1 ha;have fW:=Zea h2 hb;unfold okLS at az;rw[ha,hb]at az;split at az;rotate_left
 .cases az
 rename_i a' b' c l d l' ea eb fU jp;cases ea;cases eb;simp only[Bool.and_eq_true,Bool.not_eq_true',Option.isNone_iff_eq_none]at az;obtain⟨⟨⟨⟨⟨⟨⟨d1,d2⟩,d3⟩,eF⟩,dQ⟩,bV⟩,hk2⟩,ic⟩:=az;have ic:c≠d:=Nat.ne_of_beq_eq_false ic;rw[fU]at c9;rw[jp]at fW;have c1:clsX ra k a=1:=by
  rw[ZiV bV];cases hq:a.op<;>rw[hq]at eF<;>first | (cases eF;done)|rfl
 have c2:clsX ra i b=2:=by
  rw[ZiV hk2];cases hq:b.op<;>rw[hq]at dQ<;>first | (cases dQ;done)|rfl
 obtain⟨ea,ib,_⟩:=ZfQ (st2:=st) (by omega) (fun t _=>rfl) (fun _=>rfl) (fun _ h=>h) hra;have cl:st1.heap=st.heap:=(ZaC bm 0).2.trans (ib (by omega));have g1:∀t,a.dst≠some t->st1.get t=st.get t:=fun t ht=>by rw[(ZaC bm t).1,if_neg ht];exact Zjo ea t
 obtain⟨eb,_,bz⟩:=ZfQ (st2:=st) (by omega) (fun t ht=>(g1 t (Zbp d1 ht)).symm) (fun _=>cl.symm) (fun h=>by omega) bq;rw[if_neg (by omega)]at bz;obtain⟨aj,aX⟩:=Zel (st2:=⟨st.env,sb.heap⟩) bv;have g2:∀t,b.dst≠some t->aj.get t=st.get t:=fun t ht=>by rw[(ZaC aX t).1,if_neg ht];rfl
 have fh:aj.heap=sb.heap:=(ZaC aX 0).2;have la:∀id,id≠d->hget sb.heap id=hget st.heap id:=by
  intro id hne;rw[<-cl];unfold ZdN at bq;rw[hk2]at bq;simp only at bq;unfold bxOk at fW;cases hq:b.op<;>rw[hq]at dQ<;>try (cases dQ;done)
  rename_i t x y;rw[hq]at fW;simp only at fW;split at fW
  .rename_i d' off hx;have:=ZaN fW;subst this;exact ZGX hq hx bq id hne
  .cases fW
 have bG:ZdN P N T ops ra k a aj=some (va,o1,aj):=by
  refine ZlI c1 (fun t ht=>g2 t (Zbp d2 ht)) (fun x dy id bb cV aL=>?_) hra;rw[fh,la id ?_]
  .exact aL
  rintro rfl;unfold bxOk at c9;cases hq:a.op<;>rw[hq]at eF<;>try (cases eF;done)
  rename_i t y;rw[hq]at c9 dy;simp only[ZcD,List.mem_singleton]at dy;subst dy;simp only at c9;split at c9
  .rename_i d' off hx;have:=ZaN c9;subst this;simp only[hx,V.says,C.says]at cV;exact ic (ZaN cV)
  .rename_i hx;simp only[hx,V.says,C.says]at cV;cases cV
  .cases c9
 obtain⟨aH,bg⟩:=Zel (st2:=aj) bm;have xb:bxOk (Zgi ai (ops.size+i)) st b.op=true:=by rw[Zer (st:=st1) _ (fun t ht=>(g1 t (Zbp d1 ht)).symm)];exact Zea h2 hb
 have xa:bxOk (Zgi ai (ops.size+k)) aj a.op=true:=by rw[Zer (st:=st) _ (fun t ht=>g2 t (Zbp d2 ht))];exact Zea h1 ha
 refine⟨aj,aH,ZfJ hb xb bz cC aX,ZfJ ha xa bG bT bg,⟨fun t=>?_,?_⟩⟩
 .rw[(ZaC bv t).1,(ZaC bg t).1];have hd:¬(a.dst=some t/\b.dst=some t):=by
   rintro ⟨e1,e2⟩;rw[e1,e2]at d3;simp[ZoC]at d3
  by_cases e1:a.dst=some t
  .rw[if_pos e1,if_neg (fun e2=>hd ⟨e1,e2⟩),Zjo eb,(ZaC bm t).1,if_pos e1]
  .rw[if_neg e1,(ZaC aX t).1];split
   .rfl
   .rw[Zjo eb,g1 t e1];rfl
 .rw[(ZaC bv 0).2,(ZaC bg 0).2,fh]
theorem ZxE{st st1:St}{d t:Nat}{s x:V}{an:Option Ans}{v:V}{obl:List Prop}(hn:hget st.heap d=none)(h:Zkr N T st d t s x an=some (v,obl,st1)):∀id l,hget st.heap id=some (.box l)->hget st1.heap id=some (.box l):=by
 intro id' l' hb;have hd:d≠id':=by
  rintro rfl;rw[hn]at hb;cases hb
 unfold Zkr at h
 repeat' split at h
 all_goals first | (cases h;done)|skip
 all_goals (simp only[Option.some.injEq,Prod.mk.injEq]at h;obtain⟨_,_,rfl⟩:=h)
 .rw[Zbs,if_neg hd,Zmg,if_neg]
  .exact hb
  .rintro rfl;simp_all
 .show hget (hins _ _ _) _=_;rw[Zfo,if_neg hd];exact hb
theorem ZFx{st:St}{t id off:Nat}{r:V×List Prop}(h:Zpo T st t (.one (.ptr id off))=some r):∃l,hget st.heap id=some (.box l):=by
 unfold Zpo at h;split at h
 .cases h
 split at h
 .cases h
 simp only at h;split at h
 .rename_i l hl;exact⟨l,hl⟩
 .cases h
theorem ZBS{k i:Nat}(az:okLA ops ra ai k i=true){st st1 st2:St}{o1 o2:List Prop}(h1:ZfK P N T ops ra ai ni k st=some (st1,o1))(h2:ZfK P N T ops ra ai ni i st1=some (st2,o2))
  (hJ:∀o,ops[i]?=some o->clsX ra i o=3->Zir st (o.dst.getD 0) N=true) :
  ∃aj aH,ZfK P N T ops ra ai ni i st=some (aj,o2)/\ZfK P N T ops ra ai ni k aj=some (aH,o1)/\Eqv aH st2:=by
 obtain⟨a,va,sa,ha,hra,bT,bm⟩:=ZdA h1;obtain⟨b,vb,sb,hb,bq,cC,bv⟩:=ZdA h2;have c9:=Zea h1 ha;unfold okLA at az;rw[ha,hb]at az;split at az;rotate_left
 .cases az
 rename_i a' b' c l ea eb fU;cases ea;cases eb;simp only[Bool.and_eq_true,Bool.not_eq_true',Option.isNone_iff_eq_none]at az;obtain⟨⟨⟨⟨⟨⟨⟨⟨d1,d2⟩,d3⟩,eF⟩,dQ⟩,hga⟩,bV⟩,hk2⟩,ic⟩:=az;have ic:c≠99998:=Nat.ne_of_beq_eq_false ic;rw[fU]at c9;obtain⟨ta,xa,fT⟩ : ∃t x,a.op=.load t x:=by
  cases hq:a.op<;>rw[hq]at eF<;>first | (cases eF;done)|exact⟨_,_,rfl⟩
 have c1:clsX ra k a=1:=by rw[ZiV bV,fT];rfl
 have c2:clsX ra i b=3:=by
  rw[ZiV hk2];unfold ZKX at dQ;split at dQ
  .rename_i hq;split at dQ
   .rename_i hw;rw[hq];simp only[Zfw,hw]
   .cases dQ
  .cases dQ
 -- where the load looks
 obtain⟨off,hxa⟩ : ∃off,evo st xa=.one (.ptr c off):=by
  unfold bxOk at c9;rw[fT]at c9;simp only at c9;split at c9
  .rename_i d' off hx;have:=ZaN c9;subst this;exact⟨off,hx⟩
  .exact absurd (ZaN c9).symm ic
  .cases c9
 obtain⟨bl,hbl⟩ : ∃l,hget st.heap c=some (.box l):=by
  unfold ZdN at hra;rw[bV]at hra;simp only[ZnC,Zhh,hga,evOp,fT,hxa]at hra;cases hl:Zpo T st ta (.one (.ptr c off))with
  |none=>rw[hl]at hra;cases hra
  |some r=>exact ZFx hl
 obtain⟨ea,ib,_⟩:=ZfQ (st2:=st) (by omega) (fun t _=>rfl) (fun _=>rfl) (fun _ h=>h) hra;have cl:st1.heap=st.heap:=(ZaC bm 0).2.trans (ib (by omega));have g1:∀t,a.dst≠some t->st1.get t=st.get t:=fun t ht=>by rw[(ZaC bm t).1,if_neg ht];exact Zjo ea t
 have hqt:ZdM N (b.dst.getD 0) st1=true->ZdM N (b.dst.getD 0) st=true:=fun hq=>ZmJ (hJ b hb c2) (by rw[<-cl];exact(Zde hq).2);obtain⟨eb,_,bz⟩:=ZfQ (st2:=st) (by omega) (fun t ht=>(g1 t (Zbp d1 ht)).symm) (fun _=>cl.symm) (fun _ hq=>hqt hq) bq;rw[if_neg (by omega)]at bz;obtain⟨aj,aX⟩:=Zel (st2:=⟨st.env,sb.heap⟩) bv;have g2:∀t,b.dst≠some t->aj.get t=st.get t:=fun t ht=>by rw[(ZaC aX t).1,if_neg ht];rfl
 have fh:aj.heap=sb.heap:=(ZaC aX 0).2;have bZ:hget sb.heap c=some (.box bl):=by
  have bM:hget st1.heap c=some (.box bl):=by rw[cl];exact hbl
  unfold ZdN at bq;rw[hk2]at bq;simp only at bq;have dx:Zfw ra i b.op=3:=by rw[<-ZiV hk2];exact c2
  unfold ZnC at bq;split at bq
  .cases bq
  .cases bq;exact bM
  .split at bq
   .cases bq
   rename_i v0 cA st0 aZ;have ie:=ZrK dx aZ;split at bq
   .cases bq
   split at bq;rotate_left
   .cases bq
   split at bq;rotate_left
   .cases bq
   cases bq;unfold ZKX at dQ;split at dQ
   .rename_i hq;split at dQ
    .rename_i hw;simp only[evOp,hq,hw]at aZ;split at aZ
     .split at aZ
      .exact ZxE (ZiW (Zde ie).2).1 aZ c bl bM
      .cases aZ
     .cases aZ
    .cases dQ
   .cases dQ
 have bG:ZdN P N T ops ra k a aj=some (va,o1,aj):=by
  refine ZlI c1 (fun t ht=>g2 t (Zbp d2 ht)) (fun x dy id bb cV aL=>?_) hra;rw[fT]at dy;simp only[ZcD,List.mem_singleton]at dy;subst dy;rw[hxa]at cV;simp only[V.says,C.says]at cV;have:=ZaN cV;subst this;rw[hbl]at aL;cases aL;rw[fh];exact bZ
 obtain⟨aH,bg⟩:=Zel (st2:=aj) bm;have xb:bxOk (Zgi ai (ops.size+i)) st b.op=true:=by rw[Zer (st:=st1) _ (fun t ht=>(g1 t (Zbp d1 ht)).symm)];exact Zea h2 hb
 have xa':bxOk (Zgi ai (ops.size+k)) aj a.op=true:=by rw[Zer (st:=st) _ (fun t ht=>g2 t (Zbp d2 ht))];exact Zea h1 ha
 refine⟨aj,aH,ZfJ hb xb bz cC aX,ZfJ ha xa' bG bT bg,⟨fun t=>?_,?_⟩⟩
 .rw[(ZaC bv t).1,(ZaC bg t).1];have hd:¬(a.dst=some t/\b.dst=some t):=by
   rintro ⟨e1,e2⟩;rw[e1,e2]at d3;simp[ZoC]at d3
  by_cases e1:a.dst=some t
  .rw[if_pos e1,if_neg (fun e2=>hd ⟨e1,e2⟩),Zjo eb,(ZaC bm t).1,if_pos e1]
  .rw[if_neg e1,(ZaC aX t).1];split
   .rfl
   .rw[Zjo eb,g1 t e1];rfl
 .rw[(ZaC bv 0).2,(ZaC bg 0).2,fh]
theorem ZBR(dl:ZBJ ops ra ni){k i:Nat}(az:ZCk N ops ra ai k i=true)(hne:k≠i)(hki:k ∉ Zgi ai i){st st1 st2:St}{o1 o2:List Prop}(h1:ZfK P N T ops ra ai ni k st=some (st1,o1))(h2:ZfK P N T ops ra ai ni i st1=some (st2,o2))
  (hJ:∀o,ops[i]?=some o->clsX ra i o=3->Zir st (o.dst.getD 0) N=true) :
  ∃aj aH,ZfK P N T ops ra ai ni i st=some (aj,o2)/\ZfK P N T ops ra ai ni k aj=some (aH,o1)/\Eqv aH st2:=by
 obtain⟨a,va,sa,ha,hra,bT,bm⟩:=ZdA h1;obtain⟨b,vb,sb,hb,bq,cC,bv⟩:=ZdA h2;unfold ZCk at az;rw[Bool.or_eq_true,Bool.or_eq_true,Bool.or_eq_true]at az;rcases az with ((az|az)|az)|az
 rotate_right
 .exact ZBS az h1 h2 hJ
 rotate_left
 .exact ZBQ az h1 h2
 .unfold okLC at az;rw[ha,hb]at az;simp only[Bool.and_eq_true]at az;obtain⟨⟨⟨d1,d2⟩,d3⟩,az⟩:=az;split at az
  .rename_i e ig ii;rw[Bool.or_eq_true]at az;rcases az with az|az
   .rw[Bool.and_eq_true]at az;exact ZzZ dl ha hb d1 d2 d3 ig az.1 (Nat.ne_of_beq_eq_false (by simpa using az.2)) h1 h2 hJ
   .simp only[Bool.and_eq_true,Option.isNone_iff_eq_none]at az;obtain⟨⟨q1,q2⟩,q3⟩:=az;split at q3
    .rename_i c l lc;exact ZzW ha hb d1 d2 d3 q1 q2 lc ig (Nat.ne_of_beq_eq_false (by simpa using q3)) h1 h2
    .cases q3
  .rename_i e ig ii;rw[Bool.or_eq_true]at az;rcases az with az|az
   .rw[Bool.and_eq_true]at az;exact ZzY dl ha hb d1 d2 d3 az.1 ii (Nat.ne_of_beq_eq_false (by simpa using az.2)) hne hki h1 h2
   .simp only[Bool.and_eq_true,Option.isNone_iff_eq_none]at az;obtain⟨⟨q1,q2⟩,q3⟩:=az;split at q3
    .rename_i c l lc;exact ZzX ha hb d1 d2 d3 q1 q2 lc ii (Nat.ne_of_beq_eq_false (by simpa using q3)) h1 h2
    .cases q3
  .cases az
 unfold ZKe at az;rw[ha,hb]at az;simp only[Bool.and_eq_true,Bool.or_eq_true]at az;obtain⟨⟨⟨d1,d2⟩,d3⟩,dx⟩:=az;rcases dx with (dx|⟨hR1,hR2⟩)|⟨⟨hR1,hR2⟩,hR3⟩;rotate_left
 .exact ZBO dl ha hb d1 d2 d3 hR1 hR2 hne hki h1 h2 hJ
 .exact ZBP dl ha hb d1 d2 d3 (by rw[Bool.or_eq_true];exact hR1) (by rw[Bool.or_eq_true];exact hR2) (fun t ht=>Nat.le_of_ble_eq_true (List.all_eq_true.1 hR3 t ht)) hne hki h1 h2 hJ
 have jq:(clsX ra k a<=1/\clsX ra i b<=1)\/(clsX ra k a=0/\clsX ra i b<=3)\/(clsX ra i b=0/\clsX ra k a<=3)\/(clsX ra k a=3/\clsX ra i b=1/\∀t∈Zga ops b,t<N)\/(clsX ra k a=1/\clsX ra i b=3/\ZvZ ra i b=true):=by
  rcases dx with (((⟨h,h'⟩|⟨h,h'⟩)|⟨h,h'⟩)|⟨⟨h,h'⟩,h''⟩)|⟨⟨h,h'⟩,h''⟩
  .exact .inl ⟨Nat.le_of_ble_eq_true h,Nat.le_of_ble_eq_true h'⟩
  .exact .inr (.inl ⟨ZaN h,Nat.le_of_ble_eq_true h'⟩)
  .exact .inr (.inr (.inl ⟨ZaN h,Nat.le_of_ble_eq_true h'⟩))
  .exact .inr (.inr (.inr (.inl ⟨ZaN h,ZaN h',fun t ht=>Nat.le_of_ble_eq_true (List.all_eq_true.1 h'' t ht)⟩)))
  .exact .inr (.inr (.inr (.inr ⟨ZaN h,ZaN h',h''⟩)))
 -- k at st
 obtain⟨ea,ib,_⟩:=ZfQ (st2:=st) (by omega) (fun t _=>rfl) (fun _=>rfl) (fun _ h=>h) hra;have cl:clsX ra k a<=1->st1.heap=st.heap:=fun h=>(ZaC bm 0).2.trans (ib h);have g1:∀t,a.dst≠some t->st1.get t=st.get t:=fun t ht=>by rw[(ZaC bm t).1,if_neg ht];exact Zjo ea t
 -- i at st
 have hkc:clsX ra k a<=3:=by omega
 have hic:clsX ra i b<=3:=by omega
 obtain⟨eb,ko,bz⟩ : sb.env=st1.env/\(clsX ra i b<=1->sb.heap=st1.heap)/\ZdN P N T ops ra i b st=some (vb,o2,⟨st.env,if clsX ra i b<=1 then st.heap else sb.heap⟩):=by
  by_cases hx:clsX ra k a=3/\clsX ra i b=1
  .obtain⟨e1,e2,_⟩:=ZfQ (st2:=st1) (by omega) (fun t _=>rfl) (fun _=>rfl) (fun _ h=>h) bq;refine⟨e1,e2,?_⟩;rw[if_pos (by omega)];have hN:∀t∈Zga ops b,t<N:=by
    rcases jq with h|h|h|h|h
    .omega
    .omega
    .omega
    .exact h.2.2
    .omega
   refine ZlI hx.2 (fun t ht=>(g1 t (Zbp d1 ht)).symm) (fun x dy id bb cV aL=>?_) bq;rw[(ZaC bm 0).2]at aL;rcases ZFe hx.1 hra with rfl|⟨hq,hn⟩
   .exact aL
   .rcases hn id bb aL with rfl|h
    .exfalso;have:(evo st1 x).says (a.dst.getD 0)=false:=by
      cases x with
      |tmp t=>
       have ht:t∈Zga ops b:=List.mem_append.2 (.inl (Zru dy));show (st1.get t).says _=false;rw[g1 t (Zbp d1 ht)];exact ZqE (Zde hq).1 t (hN t ht)
      |const v=>exact ZxZ v _
      |func f=>rfl
      |global g=>rfl
     simp only[this]at cV;cases cV
    .exact h
  .exact ZfQ (st2:=st) (by omega) (fun t ht=>(g1 t (Zbp d1 ht)).symm) (fun h=>(cl (by omega)).symm) (fun hc hq=>by
    obtain⟨_,q2⟩:=Zde hq;refine ZmJ (hJ b hb hc) ?_;rw[<-cl (by omega)];exact q2) bq
 obtain⟨aj,aX⟩:=Zel (st2:=⟨st.env,if clsX ra i b<=1 then st.heap else sb.heap⟩) bv;have xb:bxOk (Zgi ai (ops.size+i)) st b.op=true:=by rw[Zer (st:=st1) _ (fun t ht=>(g1 t (Zbp d1 ht)).symm)];exact Zea h2 hb
 have ck:=ZfJ (ai:=ai) (ni:=ni) hb xb bz cC aX;have g2:∀t,b.dst≠some t->aj.get t=st.get t:=fun t ht=>by rw[(ZaC aX t).1,if_neg ht];rfl
 have fh:clsX ra i b<=1->aj.heap=st.heap:=fun h=>by rw[(ZaC aX 0).2];simp only[if_pos h]
 -- k behind i
 have bG:ZdN P N T ops ra k a aj=some (va,o1,⟨aj.env,if clsX ra k a<=1 then aj.heap else sa.heap⟩):=by
  by_cases hx:clsX ra k a=1/\clsX ra i b=3
  .rw[if_pos (by omega)];have kO:ZvZ ra i b=true:=by
    rcases jq with h|h|h|h|h
    .omega
    .omega
    .omega
    .omega
    .exact h.2.2
   refine ZlI hx.1 (fun t ht=>g2 t (Zbp d2 ht)) (fun x dy id bb cV aL=>?_) hra;rw[(ZaC aX 0).2];simp only[if_neg (show ¬clsX ra i b<=1 by omega)];have:=ZAv hx.2 kO bz id bb aL;simpa only[if_neg (show ¬clsX ra i b<=1 by omega)]using this
  .refine(ZfQ (st2:=aj) (by omega) (fun t ht=>g2 t (Zbp d2 ht)) (fun h=>fh (by omega)) (fun hc hq=>by
    obtain⟨q1,q2⟩:=Zde hq;refine ZmJ (ZlH (st1:=⟨st.env,if clsX ra i b<=1 then st.heap else sb.heap⟩) q1 (fun t=>rfl) (ZrN cC (dl k a ha hc) hne hki) aX) ?_;rw[fh (by omega)];exact q2) hra).2.2
 obtain⟨aH,bg⟩:=Zel (st2:=⟨aj.env,if clsX ra k a<=1 then aj.heap else sa.heap⟩) bm;have xa:bxOk (Zgi ai (ops.size+k)) aj a.op=true:=by rw[Zer (st:=st) _ (fun t ht=>g2 t (Zbp d2 ht))];exact Zea h1 ha
 refine⟨aj,aH,ck,ZfJ ha xa bG bT bg,⟨fun t=>?_,?_⟩⟩
 .rw[(ZaC bv t).1,(ZaC bg t).1];have hd:¬(a.dst=some t/\b.dst=some t):=by
   rintro ⟨e1,e2⟩;rw[e1,e2]at d3;simp[ZoC]at d3
  by_cases e1:a.dst=some t
  .rw[if_pos e1,if_neg (fun e2=>hd ⟨e1,e2⟩),Zjo eb,(ZaC bm t).1,if_pos e1]
  .rw[if_neg e1];have e3:(⟨aj.env,if clsX ra k a<=1 then aj.heap else sa.heap⟩ : St).get t=aj.get t:=rfl;rw[e3,(ZaC aX t).1];split
   .rfl
   .rw[Zjo eb,g1 t e1];rfl
 .rw[(ZaC bv 0).2,(ZaC bg 0).2];simp only;by_cases c1:clsX ra k a<=1
  .rw[if_pos c1,(ZaC aX 0).2];simp only;by_cases c2:clsX ra i b<=1
   .rw[if_pos c2,ko c2,cl c1]
   .rw[if_neg c2]
  .rw[if_neg c1,ko (by omega),(ZaC bm 0).2]
theorem ZzV{k i:Nat}(az:okLM ops ra k i=true){st st1 st2:St}{o1 o2:List Prop}(h1:ZfK P N T ops ra ai ni k st=some (st1,o1))(h2:ZfK P N T ops ra ai ni i st1=some (st2,o2)) :
  ∃aj aH ij,ZfK P N T ops ra ai ni i st=some (aj,o2)/\ZfK P N T ops ra ai ni k aj=some (aH,ij)/\Eqv aH st2/\((∀q∈o1++o2,q)->∀q∈ij,q):=by
 obtain⟨a,va,sa,ha,hra,bT,bm⟩:=ZdA h1;obtain⟨b,vb,sb,hb,bq,cC,bv⟩:=ZdA h2;have xa0:=Zea h1 ha;have xb0:=Zea h2 hb;unfold okLM at az;rw[ha,hb]at az;simp only at az;split at az;rotate_left
 .cases az
 rename_i t x y t' x' y' hao hbo;simp only[Bool.and_eq_true,Option.isNone_iff_eq_none,List.isEmpty_iff]at az;obtain⟨⟨⟨⟨⟨⟨⟨⟨⟨⟨⟨⟨⟨⟨⟨ht,hx⟩,hy⟩,d1⟩,d2⟩,d3⟩,ga⟩,gb⟩,bV⟩,hk2⟩,b1⟩,b2⟩,n1⟩,n2⟩,r1⟩,r2⟩:=az;obtain rfl:=Nat.eq_of_beq_eq_true ht;have sT:∀{u v:Operand},ZyI u v=true->∃n,u=.tmp n/\v=.tmp n:=fun{u v} h=>by
  cases u<;>cases v<;>simp only[ZyI]at h<;>(try (cases h;done))
  exact⟨_,rfl,by rw[Nat.eq_of_beq_eq_true h]⟩
 obtain⟨x,rfl,rfl⟩:=sT hx;obtain⟨y,rfl,rfl⟩:=sT hy;have eL:∀s:St,ZdN P N T ops ra k a s=(Zjk P T s t (s.get x) (s.get y) false (ZcX ra.an k)).map fun p=>(p.1,p.2,s):=fun s=>by
  unfold ZdN;rw[bV];simp only[ZnC,Zhh,ga,evOp,hao];have e:∀z,evo s (.tmp z)=s.get z:=fun z=>rfl;rw[e,e];cases Zjk P T s t (s.get x) (s.get y) false (ZcX ra.an k)with
  |none=>rfl
  |some p=>simp only[b1,ZzC,n1,dnV,r1,rlV,Option.map_some]
 have eM:∀s:St,ZdN P N T ops ra i b s=Zjb P T s t (s.get x) (s.get y) (ZcX ra.an i):=fun s=>by
  unfold ZdN;rw[hk2];simp only[ZnC,Zhh,gb,evOp,hbo];have e:∀z,evo s (.tmp z)=s.get z:=fun z=>rfl;rw[e,e];cases Zjb P T s t (s.get x) (s.get y) (ZcX ra.an i)with
  |none=>rfl
  |some p=>simp only[b2,ZzC,n2,dnV,r2,rlV]
 rw[eL]at hra;rw[eM]at bq;have ux:x∈Zga ops b/\y∈Zga ops b:=by unfold Zga;rw[hbo];simp[ZcD,ZuD]
 have uxa:x∈Zga ops a/\y∈Zga ops a:=by unfold Zga;rw[hao];simp[ZcD,ZuD]
 simp only[Option.map_eq_some_iff,Prod.mk.injEq]at hra;obtain⟨p,hp,rfl,rfl,rfl⟩:=hra;obtain⟨va,o1⟩:=p;simp only at hp bT bm;have g1:∀n,a.dst≠some n->st1.get n=st.get n:=fun n hn=>by rw[(ZaC bm n).1,if_neg hn]
 have cl:st1.heap=st.heap:=(ZaC bm 0).2;rw[g1 x (Zbp d1 ux.1),g1 y (Zbp d1 ux.2)]at bq
 -- the entry
 unfold Zjb at bq;split at bq;rotate_left
 .cases bq
 rename_i kt vt id kt' l kv ik j z0 l' dK dL eu han;split at bq;rotate_left
 .cases bq
 rename_i z hz eX;cases bq;have im:ZrR st (st.get x)=some (id,kt',l):=by unfold ZrR at dL ⊢;rw[cl]at dL;exact dL
 obtain⟨hxv,hl⟩:=Zpx im
 -- the look
 unfold Zjk at hp;rw[dK,im,eu]at hp;split at hp;rotate_left
 .cases hp
 rename_i kt0 vt0 _ _ l0 kv0 v0 fz0 e1 e2 e3 e4 e5;cases e2;cases e3;cases e4;rw[hz]at hp;cases hp;have lf:Zjb P T st t (st.get x) (st.get y) (ZcX ra.an i)=some (.tup [(false,[.junk]),(false,[.lit (.int .i64 j)])],[ZnA P kt kv (kv :: l.map (·.1)),MEnt l kv z j l'],{ st with heap:=hset st.heap id (.map kt' l') }):=by
  unfold Zjb;rw[dK,im,eu,han];simp only[hz,eX]
 obtain⟨aj,aX⟩:=Zel (st2:=⟨st.env,hset st.heap id (.map kt' l')⟩) bv;have g2:∀n,b.dst≠some n->aj.get n=st.get n:=fun n hn=>by rw[(ZaC aX n).1,if_neg hn];rfl
 have fh:aj.heap=hset st.heap id (.map kt' l'):=(ZaC aX 0).2;have lg:Zjk P T aj t (aj.get x) (aj.get y) false (ZcX ra.an k)=some (va,[ZnA P kt kv (l'.map (·.1)),Zxf l' kv z va]):=by
  rw[g2 x (Zbp d2 uxa.1),g2 y (Zbp d2 uxa.2)];have hm2:ZrR aj (st.get x)=some (id,kt',l'):=by
   unfold ZrR;rw[hxv,fh];simp only[ZqI,if_true]
  unfold Zjk;rw[dK,hm2,eu,e5];simp only[hz]
 have xb:bxOk (Zgi ai (ops.size+i)) st b.op=true:=by rw[Zer (st:=st1) _ (fun n hn=>(g1 n (Zbp d1 hn)).symm)];exact xb0
 have xa:bxOk (Zgi ai (ops.size+k)) aj a.op=true:=by rw[Zer (st:=st) _ (fun n hn=>g2 n (Zbp d2 hn))];exact xa0
 have ck:=ZfJ (ai:=ai) (ni:=ni) hb xb ((eM st).trans lf) cC aX;obtain⟨aH,bg⟩:=Zel (st2:=aj) bm;have lh:=ZfJ (ai:=ai) (ni:=ni) ha xa ((eL aj).trans (by rw[lg];rfl)) bT bg;refine⟨aj,aH,_,ck,lh,⟨fun n=>?_,?_⟩,fun hq q hqm=>?_⟩
 .rw[(ZaC bv n).1,(ZaC bg n).1];have hd:¬(a.dst=some n/\b.dst=some n):=by
   rintro ⟨e1,e2⟩;rw[e1,e2]at d3;simp[ZoC]at d3
  by_cases e1:a.dst=some n
  .rw[if_pos e1,if_neg (fun e2=>hd ⟨e1,e2⟩)];show st1.get n=va;rw[(ZaC bm n).1,if_pos e1]
  .rw[if_neg e1,(ZaC aX n).1];split
   .rfl
   .show st1.get n=st.get n;exact g1 n e1
 .rw[(ZaC bv 0).2,(ZaC bg 0).2,fh];show hset st1.heap id (.map kt' l')=_;rw[cl]
 .have q1:Zxf l kv z va:=hq _ (by simp);have q2:ZnA P kt kv (kv :: l.map (·.1)):=hq _ (by simp);have q3:MEnt l kv z j l':=hq _ (by simp);simp only[List.mem_cons,List.not_mem_nil,or_false]at hqm;rcases hqm with rfl|rfl
  .exact q2.sub q3.keys
  .exact q1.ent q3
theorem ZEM(dl:ZBJ ops ra ni){k i:Nat}(az:ZtX N ops ra ai k i=true)(hne:k≠i)(hki:k ∉ Zgi ai i){st st1 st2:St}{o1 o2:List Prop}(h1:ZfK P N T ops ra ai ni k st=some (st1,o1))(h2:ZfK P N T ops ra ai ni i st1=some (st2,o2))
  (hJ:∀o,ops[i]?=some o->clsX ra i o=3->Zir st (o.dst.getD 0) N=true) :
  ∃aj aH ij,ZfK P N T ops ra ai ni i st=some (aj,o2)/\ZfK P N T ops ra ai ni k aj=some (aH,ij)/\Eqv aH st2/\((∀q∈o1++o2,q)->∀q∈ij,q):=by
 unfold ZtX at az;rw[Bool.or_eq_true]at az;rcases az with az|az
 .obtain⟨a,b,h3,h4,h5⟩:=ZBR dl az hne hki h1 h2 hJ;exact⟨a,b,o1,h3,h4,h5,fun h q hq=>h q (List.mem_append.2 (.inl hq))⟩
 .exact ZzV az h1 h2
theorem ZGj{i:Nat}{st st2 st':St}{obl:List Prop}(hcls:∀o,ops[i]?=some o->ZyZ ra i o=true)(he:Eqv st st2)(h:ZfK P N T ops ra ai ni i st=some (st',obl)):∃aH,ZfK P N T ops ra ai ni i st2=some (aH,obl)/\Eqv st' aH:=by
 obtain⟨o,v,s1,ho,hr,hc,hp⟩:=ZdA h;have e1:=Zrz hr;obtain⟨eI,gk,hph⟩:=ZFf (hcls o ho) he hr;obtain⟨aH,bg⟩:=Zel (st2:=⟨st2.env,eI⟩) hp;refine⟨aH,ZfJ ho (by rw[Zer (ops:=ops) (st:=st) _ (fun t _=>he.env t)];exact Zea h ho) gk hc bg,fun t=>?_,?_⟩
 .rw[(ZaC hp t).1,(ZaC bg t).1];split
  .rfl
  .rw[Zjo e1];exact he.env t
 .rw[(ZaC hp 0).2,(ZaC bg 0).2];exact hph
theorem ZAV:∀{l:List Nat}{st st2 st':St}{obl:List Prop},(∀i∈l,∀o,ops[i]?=some o->ZyZ ra i o=true)->Eqv st st2->Zva P N T ops ra ai ni l st=some (st',obl)->∃aH,Zva P N T ops ra ai ni l st2=some (aH,obl)/\Eqv st' aH
 | [],st,st2,st',obl,hcls,he,h=>by cases h;exact⟨st2,rfl,he⟩
 |i :: l,st,st2,st',obl,hcls,he,h=>by
  simp only[Zva]at h
  split at h
  .cases h
  rename_i s1 o1 h1
  split at h
  .cases h
  rename_i s2 o2 h2
  cases h
  obtain⟨s1',h3,h4⟩:=ZGj (hcls i (by simp)) he h1
  obtain⟨s2',h5,h6⟩:=ZAV (fun j hj=>hcls j (by simp[hj])) h4 h2
  exact⟨s2',by simp only[Zva,h3,h5],h6⟩
theorem ZwD(dl:ZBJ ops ra ni){i:Nat}{post:List Nat}:∀{go:List Nat}{st F:St}{obl:List Prop},(∀k∈go++post,∀o,ops[k]?=some o->ZyZ ra k o=true)->(∀k∈go,ZtX N ops ra ai k i=true/\k≠i/\k ∉ Zgi ai i/\i ∉ Zgi ai k) ->
  (∀o,ops[i]?=some o->clsX ra i o=3->Zir st (o.dst.getD 0) N=true)->Zva P N T ops ra ai ni (go++i :: post) st=some (F,obl) ->
  ∃st1 oi F' o',ZfK P N T ops ra ai ni i st=some (st1,oi)/\Zva P N T ops ra ai ni (go++post) st1=some (F',o')/\Eqv F F'/\((∀q∈obl,q)->∀q∈oi++o',q)
 | [],st,F,obl,hcls,hp,hJ,h=>by
  simp only[List.nil_append,Zva]at h
  split at h
  .cases h
  rename_i s1 o1 h1
  split at h
  .cases h
  rename_i s2 o2 h2
  cases h
  exact⟨s1,o1,_,o2,h1,h2,Eqv.refl _,fun h q hq=>h q hq⟩
 |k :: go,st,F,obl,hcls,hp,hJ,h=>by
  simp only[List.cons_append,Zva]at h
  split at h
  .cases h
  rename_i s1 o1 h1
  split at h
  .cases h
  rename_i s2 o2 h2
  cases h
  obtain⟨az,hne,hki,hik⟩:=hp k (by simp)
  obtain⟨a,va,sa,ha,hra,bT,bm⟩:=ZdA h1
  have hJ1:∀o,ops[i]?=some o->clsX ra i o=3->Zir s1 (o.dst.getD 0) N=true:=fun o ho hc=>by
   have ea:=Zrz hra
   exact ZlH (hJ o ho hc) (Zjo ea) (ZrN bT (dl i o ho hc) (Ne.symm hne) hik) bm
  obtain⟨t1,oi,F1,o',h3,h4,h5,h6⟩:=ZwD dl (fun j hj=>hcls j (List.mem_cons_of_mem _ hj)) (fun k' hk'=>hp k' (by simp[hk'])) hJ1 h2
  obtain⟨t1',t2',ij,h7,h8,h9,h12⟩:=ZEM dl az hne hki h1 h3 hJ
  obtain⟨F2,lj,gM⟩:=ZAV (l:=go++post) (fun j hj=>hcls j (List.mem_cons_of_mem _ hj)) (st:=t1) (st2:=t2') ⟨fun t=>(h9.env t).symm,h9.heap.symm⟩ h4
  refine⟨t1',oi,F2,ij++o',h7,by simp only[List.cons_append,Zva,h8,lj],h5.trans gM,fun cJ q hq=>?_⟩
  have lk:=h6 fun q hq=>cJ q (List.mem_append.2 (.inr hq))
  rcases List.mem_append.1 hq with hq|hq
  .exact lk q (List.mem_append.2 (.inl hq))
  .rcases List.mem_append.1 hq with hq|hq
   .refine h12 (fun q hq=>?_) q hq
    rcases List.mem_append.1 hq with hq|hq
    .exact cJ q (List.mem_append.2 (.inl hq))
    .exact lk q (List.mem_append.2 (.inl hq))
   .exact lk q (List.mem_append.2 (.inr hq))
end
end Go.Proofs.YtmnloegcpaahcaaGreat
