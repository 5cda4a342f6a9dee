import Derived.Test.YtdjfoojllbfcgaaGreatJAmQ
namespace Go.Proofs.YtdjfoojllbfcgaaGreat
open Go.RowKit
set_option linter.unusedSimpArgs false
set_option linter.unusedVariables false
def ZwU:List Operand->List Nat | []=>[] | .tmp t :: l=>t :: ZwU l|_ :: l=>ZwU l
def Zgp(ops:Array Oper)(o:Oper):List Nat:=ZwU (ZcN o.op)++match o.guard with
 |none=>[]
 |some (j,_)=>match (ops[j]?).bind (·.dst)with
  |some t=>[t]
  |none=>[]
theorem ZqN{t:Nat}:∀{l:List Operand},Operand.tmp t∈l->t∈ZwU l
 | [],h=>by cases h
 |x :: l,h=>by
  rcases List.mem_cons.1 h with rfl|h
  .simp[ZwU]
  .have:=ZqN h
   cases x<;>simp[ZwU,this]
theorem Zlo{st st2:St}{ops:Array Oper}{o:Oper}(h:∀t∈Zgp ops o,st2.get t=st.get t):∀x∈ZcN o.op,evo st2 x=evo st x:=by
 intro x hx;cases x with
 |tmp t=>exact h t (List.mem_append.2 (.inl (ZqN hx)))
 |_=>rfl
theorem ZjM{st st2:St}{ops:Array Oper}{o:Oper}(h:∀t∈Zgp ops o,st2.get t=st.get t):Zhu ops st2 o=Zhu ops st o:=by
 unfold Zhu;split
 .rfl
 .rename_i j want hg;split
  .rename_i t ht;rw[h t (by unfold Zgp;rw[hg];simp[ht])]
  .rfl
theorem ZtL{P:Program}{N:Nat}{T:Tab}{st:St}{o:Oper}{ra:RA}{i:Nat}{p:V×List Prop×St}(hc:Zfo ra i o.op=3)(h:evOp P N T o st (ZdG ra.an i)=some p):ZdI N (o.dst.getD 0) st=true:=by
 obtain⟨dst,op,type,dV,after,guard⟩:=o;simp only at hc;have cA:∀{l},ZqE N st (dst.getD 0) l=some p->ZdI N (dst.getD 0) st=true:=by
  intro l hb;unfold ZqE at hb;split at hb
  .assumption
  .cases hb
 cases op<;>(try (simp only[Zfo]at hc))<;>(try (exact absurd hc (by decide)))
 case move x=>split at hc<;>cases hc
 case assign x=>split at hc<;>cases hc
 case alloc e=>
  simp only[evOp]at h
  repeat' split at h
  all_goals first | (cases h;done)|exact cA h
 case box e x=>
  simp only[evOp]at h
  repeat' split at h
  all_goals first | (cases h;done)|exact cA h
 case makeSlice t l c=>
  split at hc
  .cases hc
  rename_i hx;simp only[evOp]at h;split at h
  .rename_i hk;exact absurd hk (hx _ _)
  .cases h
  unfold ZmM at h
  repeat' split at h
  all_goals first | (cases h;done)|assumption
 case buildSlice t n ps=>
  split at hc
  .rename_i n' c' aT;simp only[evOp]at h;unfold Zfj at h;rw[aT]at h
   repeat' split at h
   all_goals first | (cases h;done)|assumption | (rename_i hx;exact absurd rfl (hx _ _))
  .cases hc
 case call c=>
  obtain⟨callee,args,aZ⟩:=c;cases callee with
  |value f=>simp only[Zfo]at hc;cases hc
  |invoke r n=>simp only[Zfo]at hc;cases hc
  |builtin b=>
   cases b<;>(try (simp only[Zfo]at hc))<;>(try (exact absurd hc (by decide)))
   case append=>
    split at hc
    .cases hc
    rename_i aT;simp only[evOp]at h;split at h;rotate_left
    .cases h
    split at h;rotate_left
    .cases h
    unfold Zlp at h
    repeat' split at h
    all_goals first | (cases h;done)|assumption
theorem ZBy{P:Program}{N:Nat}{T:Tab}{ops:Array Oper}{ra:RA}{i:Nat}{o:Oper}{st st1 st2:St}{v:V}{obl:List Prop}(hc:Zfo ra i o.op<=3)(hu:∀t∈Zgp ops o,st2.get t=st.get t)
  (hh:Zfo ra i o.op≠0->st2.heap=st.heap) (hq:Zfo ra i o.op=3->ZdI N (o.dst.getD 0) st=true->ZdI N (o.dst.getD 0) st2=true) (h:ZpC P N T ops ra i o st=some (v,obl,st1)) :
  st1.env=st.env/\(Zfo ra i o.op<=1->st1.heap=st.heap)/\ZpC P N T ops ra i o st2=some (v,obl,⟨st2.env,if Zfo ra i o.op<=1 then st2.heap else st1.heap⟩):=by
 unfold ZpC at h ⊢;rw[ZjM hu];split at h
 .cases h
 .cases h;refine⟨rfl,fun _=>rfl,?_⟩;split
  .rfl
  .rename_i bV;rw[<-hh (by omega)]
 .have he:=Zlo hu;split at h
  .cases h
  rename_i v0 bD st0 aV;split at h
  .cases h
  rename_i v' obl' hd;split at h;rotate_left
  .cases h
  rename_i v'' fe;split at h;rotate_left
  .cases h
  rename_i v3 obl3 eM;cases h;refine⟨ZDq aV,?_⟩;have jE:Zfo ra i o.op=0\/Zfo ra i o.op=1\/Zfo ra i o.op=2\/Zfo ra i o.op=3:=by omega
  rcases jE with bV|bV|bV|bV
  .have e1:=ZJr (P:=P) (N:=N) (T:=T) (st:=st) (st2:=st) bV (fun x _=>rfl);have e2:=ZJr (P:=P) (N:=N) (T:=T) (st:=st) (st2:=st2) bV he;rw[aV]at e1 e2;simp only[Option.map_some,Option.some.injEq,Prod.mk.injEq,true_and]at e1;subst e1;refine⟨fun _=>rfl,?_⟩;rw[e2];simp only[Option.map_some,hd,fe,eM,bV];rfl
  .have e1:=ZJs (P:=P) (N:=N) (T:=T) (st:=st) (st2:=st) bV (fun x _=>rfl) rfl;have e2:=ZJs (P:=P) (N:=N) (T:=T) (st:=st) (st2:=st2) bV he (hh (by omega));rw[aV]at e1 e2;simp only[Option.map_some,Option.some.injEq,Prod.mk.injEq,true_and]at e1;subst e1;refine⟨fun _=>rfl,?_⟩;rw[e2];simp only[Option.map_some,hd,fe,eM,bV];rfl
  .have e2:=ZLl (P:=P) (N:=N) (T:=T) (st:=st) (st2:=st2) bV he (hh (by omega));rw[aV]at e2;refine⟨fun h=>by omega,?_⟩;rw[e2];simp only[Option.map_some,hd,fe,eM,bV];rfl
  .have hqq:=ZtL bV aV;have e2:=ZLm (P:=P) (N:=N) (T:=T) (st:=st) (st2:=st2) bV he (hh (by omega)) ((hq bV hqq).trans hqq.symm);rw[aV]at e2;refine⟨fun h=>by omega,?_⟩;rw[e2];simp only[Option.map_some,hd,fe,eM,bV];rfl
theorem ZEt{P:Program}{N:Nat}{T:Tab}{ops:Array Oper}{ra:RA}{i:Nat}{o:Oper}{st st1 st2:St}{v:V}{obl:List Prop}(hc:Zfo ra i o.op=1)(hu:∀t∈Zgp ops o,st2.get t=st.get t)
  (hm:∀x∈ZcN o.op,Has st st2 fun id=>(evo st x).says id) (h:ZpC P N T ops ra i o st=some (v,obl,st1)):ZpC P N T ops ra i o st2=some (v,obl,st2):=by
 unfold ZpC at h ⊢;rw[ZjM hu];split at h
 .cases h
 .cases h;rfl
 .have he:=Zlo hu;split at h
  .cases h
  rename_i v0 bD st0 aV;split at h
  .cases h
  rename_i v' obl' hd;split at h;rotate_left
  .cases h
  rename_i v'' fe;split at h;rotate_left
  .cases h
  rename_i v3 obl3 eM;cases h;have e2:=ZLn (P:=P) (N:=N) (T:=T) (st:=st) (st2:=st2) hc he hm aV;simp only[e2,hd,fe,eM]
theorem ZFW{P:Program}{N:Nat}{T:Tab}{ops:Array Oper}{ra:RA}{i:Nat}{o:Oper}{st st1:St}{v:V}{obl:List Prop}(hc:Zfo ra i o.op=3)(h:ZpC P N T ops ra i o st=some (v,obl,st1)) :
  st1=st\/(ZdI N (o.dst.getD 0) st=true/\∀id b,hget st1.heap id=some b->id=o.dst.getD 0\/hget st.heap id=some b):=by
 unfold ZpC at h;split at h
 .cases h
 .cases h;exact .inl rfl
 .split at h
  .cases h
  rename_i v0 bD st0 aV;split at h
  .cases h
  split at h;rotate_left
  .cases h
  split at h;rotate_left
  .cases h
  cases h;exact .inr ⟨ZtL hc aV,ZBP hc aV⟩
theorem Zdv{N:Nat}{st:St}{d:Nat}(h:ZdI N d st=true):ZhX st d N=true/\Zhr d st.heap=true:=by
 unfold ZdI at h;split at h
 .rename_i h1;exact⟨h1,h⟩
 .cases h
theorem ZBz{P:Program}{N:Nat}{T:Tab}{ops:Array Oper}{ra:RA}{i:Nat}{o:Oper}{st st1:St}{v:V}{obl:List Prop}(hc:Zfo ra i o.op=3)(hk:ZCU o.op=true)(h:ZpC P N T ops ra i o st=some (v,obl,st1)) :
  ∀id b,hget st.heap id=some b->hget st1.heap id=some b:=by
 unfold ZpC at h;split at h
 .cases h
 .cases h;exact fun _ _ h=>h
 .split at h
  .cases h
  rename_i v0 bD st0 aV;split at h
  .cases h
  split at h;rotate_left
  .cases h
  split at h;rotate_left
  .cases h
  cases h;exact ZAu hc hk (ZiH (Zdv (ZtL hc aV)).2).1 aV
def ZgC(o:Oper)(ha:HA):Bool:=match ha.lend,ha.new,ha.h1,o.guard with
 | [],[(c,d)],[(c',.rows _ _ _ _)],none=>Nat.beq d (o.dst.getD 0)&&Nat.beq c c'&&Nat.beq c 99999
 |_,_,_,_=>false
def clsX(ra:RA)(i:Nat)(o:Oper):Nat:=match ZdG ra.hc i with
 |none=>Zfo ra i o.op
 |some ha=>match ZgC o ha with
  |true=>3
  |false=>match ZdG ra.hc (i+1000)with
   |some _=>5
   |none=>match ha.new with
    | []=>2
    |_ :: _=>4
def Zvh(ra:RA)(i:Nat)(o:Oper):Bool:=match ZdG ra.hc i with
 |none=>ZCU o.op
 |some _=>true
def Zet(P:Program)(N:Nat)(ops:Array Oper)(ha:HA)(an:Option Ans)(o:Oper)(st:St):Option (V×List Prop×St):=match Zhu ops st o with
 |some true=>match o.op with
  | .call { callee:=c,args:=args,argTypes:=_ }=>Zgz P N st c args.toList ha an
  |_=>none
 |some false=>some (.one (.lit undef),[],st)
 |none=>none
def Zht(P:Program)(N:Nat)(ops:Array Oper)(ha:HA)(an:Option Ans)(o:Oper)(st:St):Option (V×List Prop×St):=match Zhu ops st o with
 |some true=>match o.op with
  | .call { callee:=c,args:=args,argTypes:=_ }=>Zha P N st c args.toList ha an
  |_=>none
 |some false=>some (.one (.lit undef),[],st)
 |none=>none
def Zes(P:Program)(N:Nat)(T:Tab)(ops:Array Oper)(ra:RA)(i:Nat)(o:Oper)(st:St):Option (V×List Prop×St):=match ZdG ra.hc i with
 |none=>ZpC P N T ops ra i o st
 |some ha=>match ZdG ra.hc (i+1000)with
  |none=>Zet P N ops ha (ZdG ra.an i) o st
  |some _=>Zht P N ops ha (ZdG ra.an i) o st
theorem Zxj{P:Program}{N:Nat}{T:Tab}{ops:Array Oper}{ra:RA}{i:Nat}{o:Oper}{st st1 st2:St}{v:V}{obl:List Prop}(h:Zes P N T ops ra i o st=some (v,obl,st1))(hp:putO N st1 o.dst v=some st2):ZlP P N T ops ra i o st=some (st2,obl):=by
 unfold Zes at h;unfold ZlP;split at h
 .rename_i hk;rw[hk];simp only;unfold ZCS;simp only[h,hp]
 .rename_i ha hk;rw[hk];simp only;split at h
  .unfold Zet at h;unfold ZzP;split at h
   .split at h
    .rename_i h1 _ c args aZ bE;simp only[h1,bE,ZvR (ZvS h),hp]
    .cases h
   .rename_i h1;cases h;simp only[h1,hp]
   .cases h
  .unfold Zht at h;unfold ZzP;split at h
   .split at h
    .rename_i h1 _ c args aZ bE;simp only[h1,bE,ZvR h,hp]
    .cases h
   .rename_i h1;cases h;simp only[h1,hp]
   .cases h
theorem ZrT{P:Program}{N:Nat}{st st1:St}{c:Callee}{args:List Operand}{ha:HA}{an:Option Ans}{v:V}{obl:List Prop}(h:Zgz P N st c args ha an=some (v,obl,st1)):st1.env=st.env:=by
 unfold Zgz at h;split at h
 .split at h
  .cases h;rfl
  .cases h
 .cases h
theorem ZAz{P:Program}{N:Nat}{st st1:St}{c:Callee}{args:List Operand}{ha:HA}{an:Option Ans}{v:V}{obl:List Prop}(h:Zha P N st c args ha an=some (v,obl,st1)):st1.env=st.env:=by
 unfold Zha at h;split at h
 .rename_i r hr;cases h;exact ZrT hr
 .unfold ZkL at h;split at h
  .split at h
   .split at h
    .cases h;rfl
    .cases h
   .cases h
  .cases h
theorem Zmj{P:Program}{N:Nat}{T:Tab}{ops:Array Oper}{ra:RA}{i:Nat}{o:Oper}{st st1:St}{v:V}{obl:List Prop}(h:Zes P N T ops ra i o st=some (v,obl,st1)):st1.env=st.env:=by
 unfold Zes at h;split at h
 .unfold ZpC at h;split at h
  .cases h
  .cases h;rfl
  .split at h
   .cases h
   rename_i v0 bD st0 aV;split at h
   .cases h
   split at h;rotate_left
   .cases h
   split at h;rotate_left
   .cases h
   cases h;exact ZDq aV
 .split at h
  .unfold Zet at h;split at h
   .split at h
    .exact ZrT h
    .cases h
   .cases h;rfl
   .cases h
  .unfold Zht at h;split at h
   .split at h
    .exact ZAz h
    .cases h
   .cases h;rfl
   .cases h
theorem ZiE{P:Program}{st st2:St}{c:Callee}{args:Array Operand}{aZ:Array TypeId}{an:Option Ans}(h:∀x∈ZcN (.call { callee:=c,args:=args,argTypes:=aZ }),evo st2 x=evo st x):ZjI P st2 c an=ZjI P st c an:=by
 cases c with
 |value f=>simp only[ZjI,Zjz,h f (by simp[ZcN])]
 |invoke r n=>simp only[ZjI,h r (by simp[ZcN])]
 |builtin b=>rfl
theorem Zmn{c:Callee}{args:Array Operand}{aZ:Array TypeId}:∀x∈args.toList,x∈ZcN (.call { callee:=c,args:=args,argTypes:=aZ }):=by
 intro x hx;cases c<;>simp only[ZcN]<;>first|exact hx|exact List.mem_cons_of_mem _ hx
theorem ZKi{P:Program}{N:Nat}{ops:Array Oper}{ha:HA}{an:Option Ans}{o:Oper}{st st1:St}{v:V}{obl:List Prop}(hn:ha.new=[])(h:Zet P N ops ha an o st=some (v,obl,st1)) :
  st1.env=st.env/\∀st2:St,(∀t∈Zgp ops o,st2.get t=st.get t)->st2.heap=st.heap->Zet P N ops ha an o st2=some (v,obl,⟨st2.env,st1.heap⟩):=by
 unfold Zet at h;split at h
 .rename_i bK;split at h
  .rename_i c args aZ bE;refine⟨ZrT h,fun st2 hu hh=>?_⟩;unfold Zet;rw[ZjM hu,bK];have he:=Zlo hu;rw[bE]at he ⊢;simp only;unfold Zgz at h ⊢;rw[ZiE he];have hok:okHA N st2 ha=okHA N st ha:=by
    unfold okHA;rw[hn];rfl
   split at h;rotate_left
   .cases h
   rename_i g a b om hcal;rw[Zhb (fun x hx=>he x (Zmn x hx)) a b,hok,hh];split at h;rotate_left
   .cases h
   rename_i h0 vs hp r q1 q2 q3 q4 q5;cases h;simp only[q1,q2,q3,q4,q5]
  .cases h
 .rename_i bK;cases h;refine⟨rfl,fun st2 hu hh=>?_⟩;unfold Zet;rw[ZjM hu,bK];simp only[<-hh]
 .cases h
theorem ZuY{d e:Nat}{b:B}(hne:e≠d)(hb:b.says d=false):∀{h:List (Nat×B)},Zhr d h=true->Zhr d (hins h e b)=true:=by
 have hf:Nat.beq e d=false:=by
  cases hx:Nat.beq e d
  .rfl
  .exact absurd (Nat.eq_of_beq_eq_true hx) hne
 intro h;induction h with
 |nil=>intro _;simp only[hins,Zhr,hf,hb]
 |cons p r ih=>
  obtain⟨k,v⟩:=p;intro hq;have b9:=hq;simp only[Zhr]at hq;split at hq
  .rename_i h1 h2;simp only[hins];split
   .simp only[Zhr,hf,hb];exact hq
   .split
    .simp only[Zhr,hf,hb,h1,h2];exact hq
    .simp only[Zhr,h1,h2];exact ih hq
  .cases hq
theorem ZnB{d e:Nat}{b:B}:∀{h:List (Nat×B)},hget h e=none->Zhr d (hins h e b)=true->Zhr d h=true
 | [],_,_=>rfl
 | (k,v) :: r,hn,hq=>by
  rw[Zbc]at hn
  split at hn
  .cases hn
  rename_i hke
  have hf:Nat.beq k e=false:=by
   cases hx:Nat.beq k e
   .rfl
   .exact absurd (Nat.eq_of_beq_eq_true hx) hke
  simp only[hins,hf]at hq;split at hq
  .simp only[Zhr]at hq;split at hq
   .simp only[Zhr];exact hq
   .cases hq
  .simp only[Zhr]at hq ⊢;split at hq
   .rename_i h1 h2;exact ZnB hn hq
   .cases hq
theorem ZDh{P:Program}{N:Nat}{ops:Array Oper}{ha:HA}{an:Option Ans}{o:Oper}{st st1:St}{v:V}{obl:List Prop}(hs:ZgC o ha=true)(h:Zet P N ops ha an o st=some (v,obl,st1)) :
  ∃b:B,(∀k,b.says k=false)/\ZdI N (o.dst.getD 0) st=true/\st1=⟨st.env,hins st.heap (o.dst.getD 0) b⟩/\∀st2,(∀t∈Zgp ops o,st2.get t=st.get t)->ZdI N (o.dst.getD 0) st2=true ->
   Zet P N ops ha an o st2=some (v,obl,⟨st2.env,hins st2.heap (o.dst.getD 0) b⟩):=by
 unfold ZgC at hs;split at hs;rotate_left
 .cases hs
 rename_i c d c' e sz len cc hl hn du bK;simp only[Bool.and_eq_true]at hs;obtain⟨⟨e1,e2⟩,e3⟩:=hs;have e1:=Nat.eq_of_beq_eq_true e1;have e2:=Nat.eq_of_beq_eq_true e2;subst e2;obtain⟨lend,new,h1,res⟩:=ha;simp only at hl hn du;subst hl hn du;subst e1;have hg:∀st:St,Zhu ops st o=some true:=fun st=>by unfold Zhu;rw[bK]
 unfold Zet at h;rw[hg]at h;simp only at h;split at h;rotate_left
 .cases h
 rename_i f args aZ bE;unfold Zgz at h;split at h;rotate_left
 .cases h
 rename_i g a b om hcal;split at h;rotate_left
 .cases h
 rename_i h0 vs hp r hok eB bM cJ hr;cases h;have hq:ZdI N (o.dst.getD 0) st=true:=by
  unfold okHA at hok;split at hok
  .rename_i q1 q2 q3 q4;exact List.all_eq_true.1 q4 _ (List.mem_cons_self)
  .cases hok
 have i6:hp=[(o.dst.getD 0,.rows e sz len cc)]:=by
  have:gOut ⟨[],[(c,o.dst.getD 0)],[(c,.rows e sz len cc)],res⟩ c=some (o.dst.getD 0):=by
   simp only[gOut,ZpD,Nat.beq_refl]
  simp only[Zsc,this,renB]at cJ;exact(Option.some.inj cJ).symm
 subst i6;refine⟨.rows e sz len cc,fun _=>rfl,hq,rfl,fun st2 hu b8=>?_⟩;have he:∀x∈ZcN (.call { callee:=f,args:=args,argTypes:=aZ }),evo st2 x=evo st x:=fun x hx=>Zlo hu x (by rw[bE];exact hx);have cu:Zcd st2 args.toList a b=Zcd st args.toList a b:=Zhb (fun x hx=>he x (Zmn x hx)) a b;have d6:okHA N st2 ⟨[],[(c,o.dst.getD 0)],[(c,.rows e sz len cc)],res⟩=true:=by
  unfold okHA at hok ⊢;split at hok
  .rename_i q1 q2 q3 q4;simp only at q1 q2 q3;simp only[q1,q2,q3,List.all_cons,List.all_nil,b8,Bool.and_true]
  .cases hok
 have io:hIn (bwd ([]:List (Nat×Nat))) st2.heap ([]:List (Nat×Nat))=some h0:=eB;unfold Zet;rw[hg];simp only[bE];unfold Zgz;rw[ZiE he,hcal];simp only[d6,io,cu,bM,cJ,hr];rfl
theorem ZyM{P:Program}{N:Nat}{st st2:St}{c:Callee}{args:Array Operand}{aZ:Array TypeId}{ha:HA}{an:Option Ans}(he:∀x∈ZcN (.call { callee:=c,args:=args,argTypes:=aZ }),evo st2 x=evo st x)(hh:st2.heap=st.heap)(hok:okHA N st2 ha=okHA N st ha) :
  Zha P N st2 c args.toList ha an=(Zha P N st c args.toList ha an).map fun r=>(r.1,r.2.1,⟨st2.env,r.2.2.heap⟩):=by
 have cu:∀a b,Zcd st2 args.toList a b=Zcd st args.toList a b:=fun a b=>Zhb (fun x hx=>he x (Zmn x hx)) a b;have e1:Zgz P N st2 c args.toList ha an=(Zgz P N st c args.toList ha an).map fun r=>(r.1,r.2.1,⟨st2.env,r.2.2.heap⟩):=by
  unfold Zgz;rw[ZiE he,hok,hh];cases ZjI P st c an with
  |none=>rfl
  |some q=>
   obtain⟨g,a,b,om⟩:=q;simp only[cu];generalize okHA N st ha=x1;generalize hIn (bwd ha.lend) st.heap ha.lend=x2;generalize ZEi (bwd ha.lend) (Zcd st args.toList a b)=x3;generalize Zsc (gOut ha) ha.h1=x4;generalize renV (gOut ha) ha.res=x5;cases x1<;>cases x2<;>cases x3<;>cases x4<;>cases x5<;>rfl
 have e2:ZkL P N st2 c args.toList ha an=(ZkL P N st c args.toList ha an).map fun r=>(r.1,r.2.1,⟨st2.env,r.2.2.heap⟩):=by
  obtain⟨lend,new,h1,res⟩:=ha;have hb:∀l,borA st2 l=borA st l:=Zwi hh;unfold ZkL;rw[ZiE he,hok,hh];simp only[cu,hb];cases ZjI P st c an with
  |none=>split<;>rfl
  |some q=>
   obtain⟨g,a,b,om⟩:=q;simp only;generalize okHA N st ⟨lend,new,h1,res⟩=x1;generalize borA st (Zcd st args.toList a b)=x2;generalize Zsc (gOut ⟨lend,new,h1,res⟩) h1=x3;generalize renV (gOut ⟨lend,new,h1,res⟩) res=x4;generalize Zvq h1=x5;split
   .cases x1<;>cases x2<;>cases x3<;>cases x4<;>cases x5<;>rfl
   .rfl
 unfold Zha;rw[e1,e2];cases Zgz P N st c args.toList ha an<;>rfl
theorem ZKj{P:Program}{N:Nat}{ops:Array Oper}{ha:HA}{an:Option Ans}{o:Oper}{st st1:St}{v:V}{obl:List Prop}(hs:ZgC o ha=true)(h:Zht P N ops ha an o st=some (v,obl,st1)) :
  ∃b:B,ZdI N (o.dst.getD 0) st=true/\st1=⟨st.env,hins st.heap (o.dst.getD 0) b⟩/\∀st2,(∀t∈Zgp ops o,st2.get t=st.get t)->st2.heap=st.heap->ZdI N (o.dst.getD 0) st2=true ->
   Zht P N ops ha an o st2=some (v,obl,⟨st2.env,st1.heap⟩):=by
 unfold ZgC at hs;split at hs;rotate_left
 .cases hs
 rename_i c d c' e sz len cc hl hn du bK;simp only[Bool.and_eq_true]at hs;obtain⟨⟨e1,e2⟩,e3⟩:=hs;have e1:=Nat.eq_of_beq_eq_true e1;have e2:=Nat.eq_of_beq_eq_true e2;subst e2;obtain⟨lend,new,h1,res⟩:=ha;simp only at hl hn du;subst hl hn du;subst e1;have hg:∀st:St,Zhu ops st o=some true:=fun st=>by unfold Zhu;rw[bK]
 unfold Zht at h;rw[hg]at h;simp only at h;split at h;rotate_left
 .cases h
 rename_i f args aZ bE;have i6:∀hp,Zsc (gOut ⟨[],[(c,o.dst.getD 0)],[(c,.rows e sz len cc)],res⟩) [(c,.rows e sz len cc)]=some hp->hp=[(o.dst.getD 0,.rows e sz len cc)]:=fun hp cJ=>by
  have:gOut ⟨[],[(c,o.dst.getD 0)],[(c,.rows e sz len cc)],res⟩ c=some (o.dst.getD 0):=by
   simp only[gOut,ZpD,Nat.beq_refl]
  simp only[Zsc,this,renB]at cJ;exact(Option.some.inj cJ).symm
 have fi:okHA N st ⟨[],[(c,o.dst.getD 0)],[(c,.rows e sz len cc)],res⟩=true/\st1=⟨st.env,hins st.heap (o.dst.getD 0) (.rows e sz len cc)⟩:=by
  have h':=h;unfold Zha at h';split at h'
  .rename_i r hr;cases h';unfold Zgz at hr;split at hr;rotate_left
   .cases hr
   split at hr;rotate_left
   .cases hr
   rename_i h0 vs hp r hok eB bM cJ ff;cases hr;rw[i6 _ cJ];exact⟨hok,rfl⟩
  .unfold ZkL at h';split at h';rotate_left
   .cases h'
   split at h';rotate_left
   .cases h'
   split at h';rotate_left
   .cases h'
   rename_i vs hp r ps hok bM cJ ff az;cases h';rw[i6 _ cJ];exact⟨hok,rfl⟩
 obtain⟨hok,bx⟩:=fi;have hq:ZdI N (o.dst.getD 0) st=true:=by
  have bB:=hok;unfold okHA at bB;split at bB
  .rename_i q1 q2 q3 q4;exact List.all_eq_true.1 q4 _ (List.mem_cons_self)
  .cases bB
 refine⟨.rows e sz len cc,hq,bx,fun st2 hu hh b8=>?_⟩;have he:∀x∈ZcN (.call { callee:=f,args:=args,argTypes:=aZ }),evo st2 x=evo st x:=fun x hx=>Zlo hu x (by rw[bE];exact hx);have d6:okHA N st2 ⟨[],[(c,o.dst.getD 0)],[(c,.rows e sz len cc)],res⟩=true:=by
  have bB:=hok;unfold okHA at bB ⊢;split at bB
  .rename_i q1 q2 q3 q4;simp only at q1 q2 q3;simp only[q1,q2,q3,List.all_cons,List.all_nil,b8,Bool.and_true]
  .cases bB
 unfold Zht;rw[hg];simp only[bE];rw[ZyM he hh (d6.trans hok.symm),h];rfl
def ZJg:Op->Bool | .makeSlice .. | .buildSlice .. | .alloc _=>true|_=>false
theorem ZDP{ti:TI}{l:List C}(h:ZuC ti=some l)(k:Nat):l.any (C.says k)=false:=by
 unfold ZuC at h;split at h;rotate_left
 .cases h
 rename_i z hz;have lits:∀xs:List Value,(xs.map C.lit).any (C.says k)=false:=fun xs=>by
  induction xs with
  |nil=>rfl
  |cons x xs ih=>simp[C.says,ih]
 cases z with
 |agg cs=>
  simp only[V.ofVal]at h;split at h
  .cases h;exact lits _
  .cases h
 |_=>
  simp only[V.ofVal,V.cells]at h
  first | (cases h;rfl) | (split at h<;>cases h;rfl)
def Zub(ra:RA)(i:Nat)(o:Oper):Bool:=match ZdG ra.hc i with
 |some ha=>match ZdG ra.hc (i+1000)with
  |none=>true
  |some _=>ZgC o ha
 |none=>Nat.ble (Zfo ra i o.op) 3
def Zlw(ra:RA)(i:Nat)(o:Oper):Bool:=match ZdG ra.hc i with
 |some ha=>match ZdG ra.hc (i+1000)with
  |none=>ZgC o ha
  |some _=>false
 |none=>match o.guard with
  |none=>ZJg o.op&&Nat.beq (Zfo ra i o.op) 3
  |some _=>false
theorem ZBR{N:Nat}{T:Tab}{st st1:St}{d t:Nat}{x y:V}{an:Option Ans}{v:V}{obl:List Prop}(h:ZmM N T st d t x y an=some (v,obl,st1)) :
  ∃b:B,(∀k,b.says k=false)/\ZdI N d st=true/\st1=⟨st.env,hins st.heap d b⟩/\∀st2,ZdI N d st2=true->ZmM N T st2 d t x y an=some (v,obl,⟨st2.env,hins st2.heap d b⟩):=by
 unfold ZmM at h
 repeat' split at h
 all_goals first | (cases h;done)|skip
 all_goals
  cases h;refine⟨_,fun _=>rfl,by assumption,rfl,fun st2 hq=>?_⟩;unfold ZmM;simp only[*,St.new]
theorem ZvP{N:Nat}{T:Tab}{st st1:St}{d t n:Nat}{ps:List (Nat×V)}{k:Nat}{c:Nat->Nat->C}{v:V}{obl:List Prop}(h:Zfj N T st d t n ps (some (.c k c))=some (v,obl,st1)) :
  ∃b:B,(∀k,b.says k=false)/\ZdI N d st=true/\st1=⟨st.env,hins st.heap d b⟩/\∀st2,ZdI N d st2=true->Zfj N T st2 d t n ps (some (.c k c))=some (v,obl,⟨st2.env,hins st2.heap d b⟩):=by
 unfold Zfj at h ⊢;split at h<;>try (cases h;done)
 split at h<;>try (cases h;done)
 split at h<;>try (cases h;done)
 split at h<;>try (cases h;done)
 split at h<;>try (cases h;done)
 split at h<;>try (cases h;done)
 simp only at h;split at h
 .cases h
 .rename_i hq;cases h;refine⟨_,fun _=>rfl,hq,rfl,fun st2 b8=>?_⟩;simp only[*,St.new]
theorem Zmp{P:Program}{N:Nat}{T:Tab}{ops:Array Oper}{ra:RA}{i:Nat}{o:Oper}{st st1:St}{v:V}{obl:List Prop}(hs:Zlw ra i o=true)(h:Zes P N T ops ra i o st=some (v,obl,st1)) :
  ∃b:B,(∀k,b.says k=false)/\ZdI N (o.dst.getD 0) st=true/\st1=⟨st.env,hins st.heap (o.dst.getD 0) b⟩/\∀st2,(∀t∈Zgp ops o,st2.get t=st.get t)->ZdI N (o.dst.getD 0) st2=true ->
   Zes P N T ops ra i o st2=some (v,obl,⟨st2.env,hins st2.heap (o.dst.getD 0) b⟩):=by
 unfold Zlw at hs;unfold Zes at h ⊢;split at hs
 .rename_i ha hk;cases hk2:ZdG ra.hc (i+1000)with
  |some y=>rw[hk2]at hs;cases hs
  |none=>
   rw[hk2]at hs;simp only[hk,hk2]at h ⊢;exact ZDh hs h
 .rename_i hk;rw[hk]at h ⊢;simp only at h ⊢;split at hs;rotate_left
  .cases hs
  rename_i bK;have hg:∀st:St,Zhu ops st o=some true:=fun st=>by unfold Zhu;rw[bK]
  simp only[Bool.and_eq_true]at hs;obtain⟨hr,dZ⟩:=hs;have dZ:=Nat.eq_of_beq_eq_true dZ;unfold ZpC at h;rw[hg]at h;simp only at h;split at h
  .cases h
  rename_i v0 bD st0 aV;split at h
  .cases h
  rename_i v' obl' hd;split at h;rotate_left
  .cases h
  rename_i v'' fe;split at h;rotate_left
  .cases h
  rename_i v3 obl3 eM;cases h;have fi:∃b:B,(∀k,b.says k=false)/\ZdI N (o.dst.getD 0) st=true/\st1=⟨st.env,hins st.heap (o.dst.getD 0) b⟩/\∀st2,(∀x∈ZcN o.op,evo st2 x=evo st x)->ZdI N (o.dst.getD 0) st2=true ->
    evOp P N T o st2 (ZdG ra.an i)=some (v0,bD,⟨st2.env,hins st2.heap (o.dst.getD 0) b⟩):=by
   obtain⟨dst,op,type,dV,after,guard⟩:=o;simp only at hr dZ bK ⊢;cases op<;>simp only[ZJg]at hr<;>try (cases hr;done)
   case alloc t0 _=>
    simp only[evOp]at aV;split at aV;rotate_left
    .cases aV
    rename_i te bA;split at aV;rotate_left
    .cases aV
    rename_i l hl;unfold ZqE at aV;split at aV;rotate_left
    .cases aV
    rename_i hq lu;cases aV;refine⟨.box l,fun k=>ZDP hl k,hq,rfl,fun st2 he b8=>?_⟩;simp only[evOp,bA,hl];unfold ZqE;rw[b8,lu];rfl
   case makeSlice t0 x y _=>
    simp only[Zfo]at dZ;split at dZ
    .cases dZ
    rename_i hx;simp only[evOp]at aV;split at aV
    .rename_i hk;exact absurd hk (hx _ _)
    .cases aV
    obtain⟨b,h1,h2,h3,h4⟩:=ZBR aV;refine⟨b,h1,h2,h3,fun st2 he hq=>?_⟩;simp only[evOp];rw[he x (by simp[ZcN]),he y (by simp[ZcN])];exact h4 st2 hq
   case buildSlice t n ps _=>
    simp only[Zfo]at dZ;split at dZ;rotate_left
    .cases dZ
    rename_i k c kG;simp only[evOp,kG]at aV;obtain⟨b,h1,h2,h3,h4⟩:=ZvP aV;refine⟨b,h1,h2,h3,fun st2 he hq=>?_⟩;simp only[evOp,kG];rw[Zsk (fun x hx=>he x (by simpa[ZcN]using hx))];exact h4 st2 hq
  obtain⟨b,h1,h2,h3,h4⟩:=fi;refine⟨b,h1,h2,h3,fun st2 hu hq=>?_⟩;unfold ZpC;rw[hg];simp only[h4 st2 (Zlo hu) hq,hd,fe,eM]
theorem ZkN{ra:RA}{i:Nat}{o:Oper}(h:ZdG ra.hc i=none):clsX ra i o=Zfo ra i o.op:=by unfold clsX;rw[h]
theorem Zwe{ra:RA}{i:Nat}{o:Oper}{ha:HA}(h:ZdG ra.hc i=some ha)(hc:clsX ra i o<=3):(ZgC o ha=true/\clsX ra i o=3)\/(ha.new=[]/\clsX ra i o=2/\ZdG ra.hc (i+1000)=none):=by
 unfold clsX at hc ⊢;rw[h]at hc ⊢;simp only at hc ⊢;split at hc
 .rename_i hs;exact .inl ⟨hs,rfl⟩
 .split at hc
  .omega
  .rename_i hk2;split at hc
   .rename_i hn;exact .inr ⟨hn,rfl,hk2⟩
   .omega
theorem Zve{P:Program}{N:Nat}{T:Tab}{ops:Array Oper}{ra:RA}{i:Nat}{o:Oper}{ha:HA}{st st1:St}{v:V}{obl:List Prop}(hk:ZdG ra.hc i=some ha)(hs:ZgC o ha=true)(h:Zes P N T ops ra i o st=some (v,obl,st1)) :
  ∃b:B,ZdI N (o.dst.getD 0) st=true/\st1=⟨st.env,hins st.heap (o.dst.getD 0) b⟩/\∀st2,(∀t∈Zgp ops o,st2.get t=st.get t)->st2.heap=st.heap->ZdI N (o.dst.getD 0) st2=true ->
   Zes P N T ops ra i o st2=some (v,obl,⟨st2.env,st1.heap⟩):=by
 unfold Zes at h ⊢;cases hk2:ZdG ra.hc (i+1000)with
 |none=>
  simp only[hk,hk2]at h ⊢;obtain⟨b,h1,h2,rfl,h4⟩:=ZDh hs h;refine⟨b,h2,rfl,fun st2 hu hh hq=>?_⟩;rw[h4 st2 hu hq,hh]
 |some x=>
  simp only[hk,hk2]at h ⊢;exact ZKj hs h
theorem Zfr{P:Program}{N:Nat}{T:Tab}{ops:Array Oper}{ra:RA}{i:Nat}{o:Oper}{st st1 st2:St}{v:V}{obl:List Prop}(hc:clsX ra i o<=3)(hu:∀t∈Zgp ops o,st2.get t=st.get t)
  (hh:clsX ra i o≠0->st2.heap=st.heap) (hq:clsX ra i o=3->ZdI N (o.dst.getD 0) st=true->ZdI N (o.dst.getD 0) st2=true) (h:Zes P N T ops ra i o st=some (v,obl,st1)) :
  st1.env=st.env/\(clsX ra i o<=1->st1.heap=st.heap)/\Zes P N T ops ra i o st2=some (v,obl,⟨st2.env,if clsX ra i o<=1 then st2.heap else st1.heap⟩):=by
 cases hk:ZdG ra.hc i with
 |none=>
  rw[ZkN hk]at *
  unfold Zes at h ⊢;rw[hk]at h ⊢;exact ZBy hc hu hh hq h
 |some ha=>
  rcases Zwe hk hc with⟨hs,e3⟩|⟨hn,e3,hk2⟩
  .rw[e3]at hh hq ⊢;obtain⟨b,h2,rfl,h4⟩:=Zve hk hs h;refine⟨rfl,fun h=>by omega,?_⟩;rw[h4 st2 hu (hh (by omega)) (hq rfl h2)];rfl
  .rw[e3]at hh hq ⊢;unfold Zes at h ⊢;rw[hk]at h ⊢;simp only at h ⊢;rw[hk2]at h ⊢;simp only at h ⊢;obtain⟨h1,h2⟩:=ZKi hn h;refine⟨h1,fun h=>by omega,?_⟩;rw[h2 st2 hu (hh (by omega))];rfl
theorem Zmq{P:Program}{N:Nat}{T:Tab}{ops:Array Oper}{ra:RA}{i:Nat}{o:Oper}{st st1 st2:St}{v:V}{obl:List Prop}(hc:clsX ra i o=1)(hu:∀t∈Zgp ops o,st2.get t=st.get t)
  (hm:∀x∈ZcN o.op,Has st st2 fun id=>(evo st x).says id) (h:Zes P N T ops ra i o st=some (v,obl,st1)):Zes P N T ops ra i o st2=some (v,obl,st2):=by
 cases hk:ZdG ra.hc i with
 |none=>
  rw[ZkN hk]at *
  unfold Zes at h ⊢;rw[hk]at h ⊢;exact ZEt hc hu hm h
 |some ha=>
  unfold clsX at hc;rw[hk]at hc;simp only at hc
  repeat' split at hc
  all_goals omega
theorem Zxk{P:Program}{N:Nat}{T:Tab}{ops:Array Oper}{ra:RA}{i:Nat}{o:Oper}{st st1:St}{v:V}{obl:List Prop}(hc:clsX ra i o=3)(h:Zes P N T ops ra i o st=some (v,obl,st1)) :
  st1=st\/(ZdI N (o.dst.getD 0) st=true/\∀id b,hget st1.heap id=some b->id=o.dst.getD 0\/hget st.heap id=some b):=by
 cases hk:ZdG ra.hc i with
 |none=>
  rw[ZkN hk]at *
  unfold Zes at h;rw[hk]at h;exact ZFW hc h
 |some ha=>
  obtain⟨hs,e3⟩ : ZgC o ha=true/\clsX ra i o=3:=(Zwe hk (Nat.le_of_eq hc)).resolve_right fun h=>by have:=h.2.1;omega
  obtain⟨b,h2,rfl,h4⟩:=Zve hk hs h;refine .inr ⟨h2,fun id b' hb=>?_⟩;simp only[Zfs]at hb;split at hb
  .rename_i e;exact .inl e.symm
  .exact .inr hb
theorem ZzO{P:Program}{N:Nat}{T:Tab}{ops:Array Oper}{ra:RA}{i:Nat}{o:Oper}{st st1:St}{v:V}{obl:List Prop}(hc:clsX ra i o=3)(hk:Zvh ra i o=true)(h:Zes P N T ops ra i o st=some (v,obl,st1)) :
  ∀id b,hget st.heap id=some b->hget st1.heap id=some b:=by
 unfold Zvh at hk;cases hk':ZdG ra.hc i with
 |none=>
  rw[ZkN hk']at *
  unfold Zes at h;rw[hk']at h hk;exact ZBz hc hk h
 |some ha=>
  obtain⟨hs,e3⟩ : ZgC o ha=true/\clsX ra i o=3:=(Zwe hk' (Nat.le_of_eq hc)).resolve_right fun h=>by have:=h.2.1;omega
  obtain⟨b,h2,rfl,h4⟩:=Zve hk' hs h;intro id b' hb;simp only[Zfs];have:=(ZiH (Zdv h2).2).1;rw[if_neg (fun e=>by rw[e,hb]at this;cases this)];exact hb
def isMk(ra:RA)(i:Nat)(o:Oper):Bool:=match ZdG ra.hc i,ZdG ra.hc (i+1000),o.op with
 |some ha,some _,.call { callee:=.value (.func _),args:=_,argTypes:=_ }=>ZgC o ha
 |_,_,_=>false
theorem ZIo{P:Program}{N:Nat}{ops:Array Oper}{ha:HA}{an:Option Ans}{o:Oper}{g:FuncId}{args:Array Operand}{aZ:Array TypeId}{st st1:St}{v:V}{obl:List Prop}(hs:ZgC o ha=true)
  (bE:o.op=.call { callee:=.value (.func g),args:=args,argTypes:=aZ }) (h:Zht P N ops ha an o st=some (v,obl,st1)) :
  ∃b:B,(∀k,b.says k=false)/\ZdI N (o.dst.getD 0) st=true/\st1=⟨st.env,hins st.heap (o.dst.getD 0) b⟩/\∀st2,(∀t∈Zgp ops o,st2.get t=st.get t)->(∀x∈ZcN o.op,Has st st2 fun id=>(evo st x).says id)->ZdI N (o.dst.getD 0) st2=true ->
   Zht P N ops ha an o st2=some (v,obl,⟨st2.env,hins st2.heap (o.dst.getD 0) b⟩):=by
 have dK:=hs;unfold ZgC at hs;split at hs;rotate_left
 .cases hs
 rename_i c d c' e sz len cc hl hn du bK;simp only[Bool.and_eq_true]at hs;obtain⟨⟨e1,e2⟩,e3⟩:=hs;have e1:=Nat.eq_of_beq_eq_true e1;have e2:=Nat.eq_of_beq_eq_true e2;subst e2;obtain⟨lend,new,h1,res⟩:=ha;simp only at hl hn du;subst hl hn du;subst e1;have hg:∀st:St,Zhu ops st o=some true:=fun st=>by unfold Zhu;rw[bK]
 have kA:∀st,Zet P N ops ⟨[],[(c,o.dst.getD 0)],[(c,.rows e sz len cc)],res⟩ an o st=Zgz P N st (.value (.func g)) args.toList ⟨[],[(c,o.dst.getD 0)],[(c,.rows e sz len cc)],res⟩ an:=fun st=>by
  unfold Zet;rw[hg];simp only[bE]
 have kB:∀st,Zht P N ops ⟨[],[(c,o.dst.getD 0)],[(c,.rows e sz len cc)],res⟩ an o st=Zha P N st (.value (.func g)) args.toList ⟨[],[(c,o.dst.getD 0)],[(c,.rows e sz len cc)],res⟩ an:=fun st=>by
  unfold Zht;rw[hg];simp only[bE]
 rw[kB]at h;cases hE:Zgz P N st (.value (.func g)) args.toList ⟨[],[(c,o.dst.getD 0)],[(c,.rows e sz len cc)],res⟩ an with
 |some r=>
  unfold Zha at h;rw[hE]at h;simp only at h;cases h;obtain⟨b,q1,q2,q3,q4⟩:=ZDh dK ((kA st).trans hE);refine⟨b,q1,q2,q3,fun st2 hu hm hq=>?_⟩;rw[kB];exact ZvS ((kA st2).symm.trans (q4 st2 hu hq))
 |none=>
  unfold Zha at h;rw[hE]at h;simp only at h;have i6:∀hp,Zsc (gOut ⟨[],[(c,o.dst.getD 0)],[(c,.rows e sz len cc)],res⟩) [(c,.rows e sz len cc)]=some hp->hp=[(o.dst.getD 0,.rows e sz len cc)]:=fun hp cJ=>by
   have:gOut ⟨[],[(c,o.dst.getD 0)],[(c,.rows e sz len cc)],res⟩ c=some (o.dst.getD 0):=by
    simp only[gOut,ZpD,Nat.beq_refl]
   simp only[Zsc,this,renB]at cJ;exact(Option.some.inj cJ).symm
  obtain⟨k0,n0,rfl⟩ : ∃k n,res=.one (.osl k n):=by
   unfold ZkL at h;simp only at h;split at h
   .exact⟨_,_,rfl⟩
   .cases h
  unfold ZkL at h;simp only at h;split at h;rotate_left
  .cases h
  rename_i g' a b om hcal;split at h;rotate_left
  .cases h
  rename_i vs hp r ps hok bM cJ ff az;cases h;obtain rfl:=i6 _ cJ;have hq:ZdI N (o.dst.getD 0) st=true:=by
   have bB:=hok;unfold okHA at bB;split at bB
   .rename_i q1 q2 q3 q4;exact List.all_eq_true.1 q4 _ (List.mem_cons_self)
   .cases bB
  refine⟨.rows e sz len cc,fun _=>rfl,hq,rfl,fun st2 hu hm b8=>?_⟩;have he:∀x∈ZcN (.call { callee:=.value (.func g),args:=args,argTypes:=aZ }),evo st2 x=evo st x:=fun x hx=>Zlo hu x (by rw[bE];exact hx);have d6:okHA N st2 ⟨[],[(c,o.dst.getD 0)],[(c,.rows e sz len cc)],.one (.osl k0 n0)⟩=true:=by
   have bB:=hok;unfold okHA at bB ⊢;split at bB
   .rename_i q1 q2 q3 q4;simp only at q1 q2 q3;simp only[q1,q2,q3,List.all_cons,List.all_nil,b8,Bool.and_true]
   .cases bB
  have lv:a=[]/\b=[]:=by
   simp only[ZjI,Zjz,evo,V.ofVal]at hcal
   first
    | (cases hcal;exact⟨rfl,rfl⟩)
    | (simp at hcal;exact⟨hcal.2.1.symm,hcal.2.2.1.symm⟩)
  obtain⟨rfl,rfl⟩:=lv;have cu:Zcd st2 args.toList [] []=Zcd st args.toList [] []:=Zhb (fun x hx=>he x (Zmn x hx)) [] [];have hbm:borA st2 (Zcd st args.toList [] [])=some vs:=by
   refine Zwh (fun v hv=>?_) bM;unfold Zcd at hv;simp only[List.map_nil,List.nil_append,List.append_nil,List.mem_map]at hv;obtain⟨x,hx,rfl⟩:=hv;exact hm x (by rw[bE];exact Zmn x hx)
  have lw:Zgz P N st2 (.value (.func g)) args.toList ⟨[],[(c,o.dst.getD 0)],[(c,.rows e sz len cc)],.one (.osl k0 n0)⟩ an=none:=by
   cases lw:Zgz P N st2 (.value (.func g)) args.toList ⟨[],[(c,o.dst.getD 0)],[(c,.rows e sz len cc)],.one (.osl k0 n0)⟩ an with
   |none=>rfl
   |some r2=>
    obtain⟨b2,_,_,_,q4⟩:=ZDh dK ((kA st2).trans lw);have:=q4 st (fun t ht=>(hu t ht).symm) hq;rw[kA,hE]at this;cases this
  rw[kB];unfold Zha;rw[lw];simp only;unfold ZkL;simp only;rw[ZiE he,hcal];simp only[d6,cu,hbm,cJ,ff,az];rfl
theorem ZzN{P:Program}{N:Nat}{T:Tab}{ops:Array Oper}{ra:RA}{i:Nat}{o:Oper}{st st1:St}{v:V}{obl:List Prop}(hs:(Zlw ra i o||isMk ra i o)=true)(h:Zes P N T ops ra i o st=some (v,obl,st1)) :
  ∃b:B,(∀k,b.says k=false)/\ZdI N (o.dst.getD 0) st=true/\st1=⟨st.env,hins st.heap (o.dst.getD 0) b⟩/\∀st2,(∀t∈Zgp ops o,st2.get t=st.get t)->(∀x∈ZcN o.op,Has st st2 fun id=>(evo st x).says id)->ZdI N (o.dst.getD 0) st2=true ->
   Zes P N T ops ra i o st2=some (v,obl,⟨st2.env,hins st2.heap (o.dst.getD 0) b⟩):=by
 rw[Bool.or_eq_true]at hs;rcases hs with hs|hs
 .obtain⟨b,h1,h2,h3,h4⟩:=Zmp hs h;exact⟨b,h1,h2,h3,fun st2 hu _ hq=>h4 st2 hu hq⟩
 .unfold isMk at hs;split at hs;rotate_left
  .cases hs
  rename_i ha y g args aZ hk hk2 bE;unfold Zes at h ⊢;simp only[hk,hk2]at h ⊢;exact ZIo hs bE h
theorem ZDd{ra:RA}{i:Nat}{o:Oper}(hs:isMk ra i o=true):clsX ra i o=3:=by
 unfold isMk at hs;split at hs;rotate_left
 .cases hs
 rename_i ha y g args aZ hk hk2 bE;unfold clsX;rw[hk];simp only[hs]
theorem ZIn{P:Program}{N:Nat}{ops:Array Oper}{c e:Nat}{b:B}{res:V}{an:Option Ans}{o:Oper}{st st1:St}{v:V}{obl:List Prop}(bK:o.guard=none)
  (h:Zet P N ops ⟨[(c,e)],[],[(c,b)],res⟩ an o st=some (v,obl,st1)) :
  ∃b',renB (gOut ⟨[(c,e)],[],[(c,b)],res⟩) b=some b'/\st1=⟨st.env,hrep st.heap e b'⟩/\(∃b0 b1,hget st.heap e=some b0/\renB (bwd [(c,e)]) b0=some b1) /\
   ∀st2,(∀t∈Zgp ops o,st2.get t=st.get t)->hget st2.heap e=hget st.heap e->Zet P N ops ⟨[(c,e)],[],[(c,b)],res⟩ an o st2=some (v,obl,⟨st2.env,hrep st2.heap e b'⟩):=by
 have hg:∀st:St,Zhu ops st o=some true:=fun st=>by unfold Zhu;rw[bK]
 unfold Zet at h;rw[hg]at h;simp only at h;split at h;rotate_left
 .cases h
 rename_i f args aZ bE;unfold Zgz at h;split at h;rotate_left
 .cases h
 rename_i g a b1 om hcal;split at h;rotate_left
 .cases h
 rename_i h0 vs hp r hok eB bM cJ hr;cases h;have cX:gOut ⟨[(c,e)],[],[(c,b)],res⟩ c=some e:=by simp only[gOut,ZpD,Nat.beq_refl]
 obtain⟨b',ay,rfl⟩ : ∃b',renB (gOut ⟨[(c,e)],[],[(c,b)],res⟩) b=some b'/\hp=[(e,b')]:=by
  simp only[Zsc,cX]at cJ;split at cJ
  .rename_i i0 b0 l0 q1 q2 q3;cases q1;cases q3;cases cJ;exact⟨_,q2,rfl⟩
  .cases cJ
 have dI:∀hh,ZzH [(e,b')] [(c,e)] hh=hrep hh e b':=fun hh=>by
  unfold ZzH;simp only[ZuI,Nat.beq_refl,Zxc]
 refine⟨b',ay,by rw[dI],?_,fun st2 hu hh=>?_⟩
 .simp only[hIn]at eB;split at eB
  .rename_i b0 bj;split at eB
   .rename_i b2 l2 q1 q2;exact⟨b0,b2,bj,q1⟩
   .cases eB
  .cases eB
 .have he:∀x∈ZcN (.call { callee:=f,args:=args,argTypes:=aZ }),evo st2 x=evo st x:=fun x hx=>Zlo hu x (by rw[bE];exact hx);have d6:okHA N st2 ⟨[(c,e)],[],[(c,b)],res⟩=true:=hok;have io:hIn (bwd [(c,e)]) st2.heap [(c,e)]=some h0:=by
   rw[ZAj (h:=st.heap) (fun p hp=>by
    rcases List.mem_singleton.1 hp with rfl;exact hh)]
   exact eB
  unfold Zet;rw[hg];simp only[bE];unfold Zgz;rw[ZiE he,hcal];simp only[d6,io,Zhb (fun x hx=>he x (Zmn x hx)) a b1,bM,cJ,hr,dI]
def plOf(ra:RA)(i:Nat)(o:Oper):Option Nat:=match ZdG ra.hc i,ZdG ra.hc (i+1000),o.guard with
 |some ⟨[(c,e)],[],[(c',_)],_⟩,none,none=>match Nat.beq c c' with
  |true=>some e
  |false=>none
 |_,_,_=>none
theorem Znq{P:Program}{N:Nat}{T:Tab}{ops:Array Oper}{ra:RA}{i e:Nat}{o:Oper}{st st1:St}{v:V}{obl:List Prop}(hp:plOf ra i o=some e)(h:Zes P N T ops ra i o st=some (v,obl,st1)) :
  ∃b':B,(∀d,d≠e->b'.says d=false)/\st1=⟨st.env,hrep st.heap e b'⟩/\(∀d b0,d≠e->hget st.heap e=some b0->b0.says d=false) /\
   ∀st2,(∀t∈Zgp ops o,st2.get t=st.get t)->hget st2.heap e=hget st.heap e->Zes P N T ops ra i o st2=some (v,obl,⟨st2.env,hrep st2.heap e b'⟩):=by
 unfold plOf at hp;split at hp;rotate_left
 .cases hp
 rename_i c e0 c' b res hk hk2 bK;split at hp;rotate_left
 .cases hp
 rename_i bV;cases hp;obtain rfl:=Nat.eq_of_beq_eq_true bV;unfold Zes at h ⊢;simp only[hk,hk2]at h ⊢;obtain⟨b',h1,h2,⟨b0,b1,h3,h4⟩,h5⟩:=ZIn bK h;refine⟨b',fun d hd=>ZHP (fun k hk'=>?_) h1,h2,fun d b2 hd bi=>?_,h5⟩
 .simp only[gOut,ZpD]at hk';split at hk'
  .rename_i hq;split at hq
   .cases hq;cases hk';exact hd rfl
   .cases hq
  .cases hk'
 .rw[h3]at bi;cases bi;refine ZFI ?_ h4;simp only[bwd,List.map_cons,List.map_nil,ZpD];split
  .rename_i hq;exact absurd (Nat.eq_of_beq_eq_true hq).symm hd
  .rfl
structure Eqv (st st2:St):Prop where
 env:∀t,st2.get t=st.get t
 heap:st2.heap=st.heap
theorem Eqv.refl(st:St):Eqv st st:=⟨fun _=>rfl,rfl⟩
theorem Eqv.trans{a b c:St}(h:Eqv a b)(k:Eqv b c):Eqv a c:=⟨fun t=>(k.env t).trans (h.env t),k.heap.trans h.heap⟩
theorem Zxf{st st2:St}{d:Nat}(h:∀t,st2.get t=st.get t):∀n,ZhX st2 d n=ZhX st d n
 | 0=>rfl
 |n+1=>by simp only[ZhX,h n,Zxf h n]
theorem ZzF{st st2:St}(h:Eqv st st2)(N d:Nat):ZdI N d st2=ZdI N d st:=by
 unfold ZdI;rw[Zxf h.env,h.heap]
theorem Zcg.eqv{N:Nat}{S0:Nat->Prop}{w0:ZaW}{st st2:St}{a:Act}{w:World}(h:Zcg N S0 w0 st a w)(he:Eqv st st2):Zcg N S0 w0 st2 a w:=
 h.le (N:=N) ⟨fun t=>.inl (he.env t),fun id b hb=>by rw[<-he.heap];exact hb⟩
theorem ZIb{N:Nat}{st st2:St}(he:Eqv st st2)(ha:HA):okHA N st2 ha=okHA N st ha:=by
 unfold okHA;rw[show (fun p:Nat×Nat=>ZdI N p.2 st2)=fun p=>ZdI N p.2 st from funext fun p=>ZzF he N p.2]
theorem ZEu{P:Program}{N:Nat}{T:Tab}{ops:Array Oper}{ra:RA}{i:Nat}{o:Oper}{st st1 st2:St}{v:V}{obl:List Prop}(hc:Zub ra i o=true)(he:Eqv st st2)(h:Zes P N T ops ra i o st=some (v,obl,st1)) :
  ∃hp,Zes P N T ops ra i o st2=some (v,obl,⟨st2.env,hp⟩)/\hp=st1.heap:=by
 by_cases hc3:clsX ra i o<=3
 .obtain⟨e1,h1,ff⟩:=Zfr (st2:=st2) hc3 (fun t _=>he.env t) (fun _=>he.heap) (fun _ hq=>by rw[ZzF he];exact hq) h;refine⟨_,ff,?_⟩;split
  .rename_i gX;rw[h1 gX];exact he.heap
  .rfl
 .cases hk:ZdG ra.hc i with
  |none=>
   exfalso;unfold Zub at hc;rw[ZkN hk]at hc3;rw[hk]at hc;exact hc3 (Nat.le_of_ble_eq_true hc)
  |some ha=>
   have hk2:ZdG ra.hc (i+1000)=none:=by
    cases hk2:ZdG ra.hc (i+1000)with
    |none=>rfl
    |some x=>
     exfalso;unfold Zub at hc;rw[hk]at hc;simp only[hk2]at hc;apply hc3;unfold clsX;rw[hk];simp only[hc];omega
   unfold Zes at h ⊢;rw[hk]at h ⊢;simp only at h ⊢;rw[hk2]at h ⊢;simp only at h ⊢;unfold Zet at h ⊢;rw[ZjM (o:=o) (ops:=ops) (fun t _=>he.env t)];split at h
   .split at h
    .rename_i c args aZ bE;have aV:∀x,evo st2 x=evo st x:=fun x=>by
      cases x with
      |tmp t=>exact he.env t
      |const v=>rfl
      |func f=>rfl
      |global g=>rfl
     unfold Zgz at h ⊢;rw[ZiE (args:=args) (aZ:=aZ) (fun x _=>aV x)];split at h;rotate_left
     .cases h
     rename_i g a b om hcal;rw[Zhb (fun x _=>aV x) a b,ZIb he,he.heap];split at h;rotate_left
     .cases h
     rename_i h0 vs hp r q1 q2 q3 q4 q5;cases h;simp only[q1,q2,q3,q4,q5];exact⟨_,rfl,rfl⟩
    .cases h
   .cases h;exact⟨_,rfl,he.heap⟩
   .cases h
def Zoc(ra:RA):Nat->List Oper->List (Nat×Nat)
 |_,[]=>[]
 |i,o :: r=>match Nat.beq (clsX ra i o) 3 with
  |true=>(i,o.dst.getD 0) :: Zoc ra (i+1) r
  |false=>Zoc ra (i+1) r
def Zer(ag:List (List Nat))(i:Nat):List Nat:=ag.getD i []
def memN(k:Nat):List Nat->Bool
 | []=>false
 |x :: l=>match Nat.beq x k with
  |true=>true
  |false=>memN k l
theorem Zkc{k:Nat}:∀{l:List Nat},memN k l=true↔k∈l
 | []=>by simp[memN]
 |x :: l=>by
  simp only[memN]
  split
  .rename_i h
   simp[ZaM h]
  .rename_i h
   have:=Nat.ne_of_beq_eq_false h
   rw[Zkc]
   simp[Ne.symm this]
def chk(ni:List (Nat×Nat))(ps:List Nat)(i:Nat)(v:V):Bool:=ni.all fun p=>Nat.beq p.1 i||memN p.1 ps || !(v.says p.2)
section
variable (P:Program) (N:Nat) (T:Tab) (ops:Array Oper) (ra:RA) (ag:List (List Nat)) (ni:List (Nat × Nat))
def bxOk(l:List Nat)(st:St)(op:Op):Bool:=match l with
 | []=>true
 |c :: _=>match op with
  | .load _ x=>match evo st x with
   | .one (.ptr d _)=>Nat.beq d c
   | .one (.rp _ _ _)=>Nat.beq 99998 c
   |_=>false
  | .store _ x _=>match evo st x with
   | .one (.ptr d _)=>Nat.beq d c
   |_=>false
  |_=>false
def Zhk(i:Nat)(st:St):Option (St×List Prop):=match ops[i]? with
 |none=>none
 |some o=>match bxOk (Zer ag (ops.size+i)) st o.op with
  |false=>none
  |true=>match Zes P N T ops ra i o st with
   |none=>none
   |some (v,obl,st')=>match chk ni (Zer ag i) i v with
    |false=>none
    |true=>match putO N st' o.dst v with
     |none=>none
     |some st''=>some (st'',obl)
def Zrp:List Nat->St->Option (St×List Prop)
 | [],st=>some (st,[])
 |i :: l,st=>match Zhk P N T ops ra ag ni i st with
  |none=>none
  |some (st1,o1)=>match Zrp l st1 with
   |none=>none
   |some (st2,o2)=>some (st2,o1++o2)
def disj(x:Option Nat)(l:List Nat):Bool:=match x with
 |none=>true
 |some d=>!(memN d l)
def ZmP(x y:Option Nat):Bool:=match x,y with
 |some a,some b=>!(Nat.beq a b)
 |_,_=>true
def ZJl(k i:Nat):Bool:=match ops[k]?,ops[i]? with
 |some a,some b=>disj a.dst (Zgp ops b)&&disj b.dst (Zgp ops a)&&ZmP a.dst b.dst &&
   ((Nat.ble (clsX ra k a) 1&&Nat.ble (clsX ra i b) 1)||(Nat.beq (clsX ra k a) 0&&Nat.ble (clsX ra i b) 3)||(Nat.beq (clsX ra i b) 0&&Nat.ble (clsX ra k a) 3)||(Nat.beq (clsX ra k a) 3&&Nat.beq (clsX ra i b) 1&&(Zgp ops b).all fun t=>Nat.blt t N)||(Nat.beq (clsX ra k a) 1&&Nat.beq (clsX ra i b) 3&&Zvh ra i b)||(Zlw ra k a&&Zlw ra i b)||((Zlw ra k a||isMk ra k a)&&(Zlw ra i b||isMk ra i b)&&(Zgp ops b).all fun t=>Nat.blt t N))
 |_,_=>false
def isLd:Op->Bool | .load _ _=>true|_=>false
def isSt:Op->Bool | .store _ _ _=>true|_=>false
def okLS(k i:Nat):Bool:=match ops[k]?,ops[i]?,Zer ag (ops.size+k),Zer ag (ops.size+i)with
 |some a,some b,c :: _,d :: _=>disj a.dst (Zgp ops b)&&disj b.dst (Zgp ops a)&&ZmP a.dst b.dst&&isLd a.op&&isSt b.op&&(ZdG ra.hc k).isNone&&(ZdG ra.hc i).isNone && !(Nat.beq c d)
 |_,_,_,_=>false
def okLC(k i:Nat):Bool:=match ops[k]?,ops[i]? with
 |some a,some b=>disj a.dst (Zgp ops b)&&disj b.dst (Zgp ops a)&&ZmP a.dst b.dst&&(match plOf ra k a,plOf ra i b with
  |some e,none=>(Zlw ra i b && !(Nat.beq (b.dst.getD 0) e))||(isLd b.op&&(ZdG ra.hc i).isNone&&match Zer ag (ops.size+i)with
   |c :: _=>!(Nat.beq c e)
   | []=>false)
  |none,some e=>(Zlw ra k a && !(Nat.beq (a.dst.getD 0) e))||(isLd a.op&&(ZdG ra.hc k).isNone&&match Zer ag (ops.size+k)with
   |c :: _=>!(Nat.beq c e)
   | []=>false)
  |_,_=>false)
 |_,_=>false
def ZoN(k i:Nat):Bool:=ZJl N ops ra k i||okLS ops ra ag k i||okLC ops ra ag k i
end
theorem ZaL{N:Nat}{st st':St}{dst:Option Nat}{v:V}(h:putO N st dst v=some st')(t:Nat):st'.get t=(if dst=some t then v else st.get t)/\st'.heap=st.heap:=by
 unfold putO at h;split at h
 .cases h;simp
 .split at h
  .cases h;rename_i d _ _;refine⟨?_,rfl⟩;rw[St.get_put];by_cases e:d=t
   .subst e;simp
   .rw[if_neg e,if_neg (by simpa using e)]
  .cases h
theorem Zfq{N:Nat}{st st' st2:St}{dst:Option Nat}{v:V}(h:putO N st dst v=some st'):∃aD,putO N st2 dst v=some aD:=by
 cases dst with
 |none=>exact⟨_,rfl⟩
 |some d=>
  unfold putO at h ⊢;cases hb:Nat.blt d N with
  |true=>simp only[hb];exact⟨_,rfl⟩
  |false=>simp only[hb]at h;cases h
theorem ZbM{x:Option Nat}{l:List Nat}(h:disj x l=true){t:Nat}(ht:t∈l):x≠some t:=by
 rintro rfl;simp only[disj,Bool.not_eq_true']at h;rw[<-Bool.not_eq_true,Zkc]at h;exact h ht
section
variable {P:Program} {N:Nat} {T:Tab} {ops:Array Oper} {ra:RA} {ag:List (List Nat)} {ni:List (Nat × Nat)}
theorem ZdZ{i:Nat}{st st':St}{obl:List Prop}(h:Zhk P N T ops ra ag ni i st=some (st',obl)):∃o v st1,ops[i]?=some o/\Zes P N T ops ra i o st=some (v,obl,st1)/\chk ni (Zer ag i) i v=true/\putO N st1 o.dst v=some st':=by
 unfold Zhk at h;split at h
 .cases h
 rename_i o ho;split at h
 .cases h
 split at h
 .cases h
 rename_i v cR st1 hr;split at h
 .cases h
 rename_i hc;split at h
 .cases h
 rename_i st2 hp;cases h;exact⟨o,v,st1,ho,hr,hc,hp⟩
theorem Zfl{i:Nat}{st st':St}{obl:List Prop}(h:Zhk P N T ops ra ag ni i st=some (st',obl)){o:Oper}(ho:ops[i]?=some o):bxOk (Zer ag (ops.size+i)) st o.op=true:=by
 unfold Zhk at h;rw[ho]at h;simp only at h;split at h
 .cases h
 .assumption
theorem ZfB{st st2:St}{o:Oper}(l:List Nat)(h:∀t∈Zgp ops o,st2.get t=st.get t):bxOk l st2 o.op=bxOk l st o.op:=by
 have he:=Zlo h;unfold bxOk;cases l with
 |nil=>rfl
 |cons c l=>
  obtain⟨dst,op,type,dV,after,guard⟩:=o;simp only at he ⊢;cases op<;>simp only[ZcN]at he ⊢
  case load t x=>rw[he x (by simp)]
  case store t x y=>rw[he x (by simp)]
theorem ZgB{i:Nat}{st st1 st':St}{o:Oper}{v:V}{obl:List Prop}(ho:ops[i]?=some o)(hbx:bxOk (Zer ag (ops.size+i)) st o.op=true)(hr:Zes P N T ops ra i o st=some (v,obl,st1))(hc:chk ni (Zer ag i) i v=true)(hp:putO N st1 o.dst v=some st'):Zhk P N T ops ra ag ni i st=some (st',obl):=by
 unfold Zhk;simp only[ho,hbx,hr,hc,hp]
theorem Zps{ps:List Nat}{i k d:Nat}{v:V}(h:chk ni ps i v=true)(hk:(k,d)∈ni)(hne:k≠i)(hp:k ∉ ps):v.says d=false:=by
 have:=List.all_eq_true.1 h _ hk;simp only[Bool.or_eq_true,Bool.not_eq_true']at this;rcases this with (h1|h1)|h1
 .exact absurd (ZaM h1) hne
 .exact absurd (Zkc.1 h1) hp
 .exact h1
theorem ZzG{st:St}{d:Nat}(hd:d<ZiV):∀{n:Nat},(∀t,t<n->(st.get t).says d=false)->ZhX st d n=true
 | 0,_=>Nat.ble_eq_true_of_le hd
 |n+1,h=>by
  simp only[ZhX,h n (by omega)]
  exact ZzG hd fun t ht=>h t (by omega)
theorem ZjB{st st1 st':St}{dst:Option Nat}{v:V}{d:Nat}(hq:ZhX st d N=true)(he:∀t,st1.get t=st.get t)(hv:v.says d=false)(hp:putO N st1 dst v=some st'):ZhX st' d N=true:=
 ZzG (ZuV hq) fun t ht=>by
  rw[(ZaL hp t).1]
  split
  .exact hv
  .rw[he t];exact Zqd hq t ht
theorem ZiW{st st1:St}(h:st1.env=st.env)(t:Nat):st1.get t=st.get t:=by unfold St.get;rw[h]
theorem Znp{st:St}{d:Nat}(h1:ZhX st d N=true)(h2:Zhr d st.heap=true):ZdI N d st=true:=by unfold ZdI;rw[h1];exact h2
def ZCu(ops:Array Oper)(ra:RA)(ni:List (Nat×Nat)):Prop:=∀i o,ops[i]?=some o->clsX ra i o=3->(i,o.dst.getD 0)∈ni
theorem Zmk{ra:RA}{i:Nat}{o:Oper}(h:Zlw ra i o=true):clsX ra i o=3:=by
 unfold Zlw at h;unfold clsX;split at h
 .rename_i ha hk;rw[hk];split at h
  .simp only[h]
  .cases h
 .rename_i hk;rw[hk];simp only;split at h
  .simp only[Bool.and_eq_true]at h;exact Nat.eq_of_beq_eq_true h.2
  .cases h
theorem ZBh(dM:ZCu ops ra ni){k i:Nat}{a b:Oper}(ha:ops[k]?=some a)(hb:ops[i]?=some b)(d1:disj a.dst (Zgp ops b)=true)(d2:disj b.dst (Zgp ops a)=true)(d3:ZmP a.dst b.dst=true)(d7:Zlw ra k a=true)(eH:Zlw ra i b=true)
  (hne:k≠i) (dq:k ∉ Zer ag i) {st st1 st2:St} {o1 o2:List Prop} (h1:Zhk P N T ops ra ag ni k st=some (st1,o1)) (h2:Zhk P N T ops ra ag ni i st1=some (st2,o2))
  (hJ:∀o,ops[i]?=some o->clsX ra i o=3->ZhX st (o.dst.getD 0) N=true) :
  ∃ai aD,Zhk P N T ops ra ag ni i st=some (ai,o2)/\Zhk P N T ops ra ag ni k ai=some (aD,o1)/\Eqv aD st2:=by
 obtain⟨a',va,sa,cw,hra,cu,bo⟩:=ZdZ h1;obtain⟨b',vb,sb,ay,cd,dj,bF⟩:=ZdZ h2;rw[ha]at cw;cases cw;rw[hb]at ay;cases ay;obtain⟨ba,kH,gK,rfl,gj⟩:=Zmp d7 hra;obtain⟨bb,ip,iq,rfl,gk⟩:=Zmp eH cd;have bx:st1.heap=hins st.heap (a.dst.getD 0) ba:=(ZaL bo 0).2;have g1:∀t,a.dst≠some t->st1.get t=st.get t:=fun t ht=>by rw[(ZaL bo t).1,if_neg ht];rfl
 have lx:hget st.heap (a.dst.getD 0)=none:=(ZiH (Zdv gK).2).1;have hU:hget st1.heap (b.dst.getD 0)=none:=(ZiH (Zdv iq).2).1;have fj:b.dst.getD 0≠a.dst.getD 0:=by
  intro e;rw[bx,e,Zfs,if_pos rfl]at hU;cases hU
 have i7:ZdI N (b.dst.getD 0) st=true:=by
  refine Znp (hJ b hb (Zmk eH)) ?_;have:=(Zdv iq).2;rw[bx]at this;exact ZnB lx this
 have bG:=gk st (fun t ht=>(g1 t (ZbM d1 ht)).symm) i7;obtain⟨ai,a6⟩:=Zfq (st2:=⟨st.env,hins st.heap (b.dst.getD 0) bb⟩) bF;have g2:∀t,b.dst≠some t->ai.get t=st.get t:=fun t ht=>by rw[(ZaL a6 t).1,if_neg ht];rfl
 have bc:ai.heap=hins st.heap (b.dst.getD 0) bb:=(ZaL a6 0).2;have jF:ZdI N (a.dst.getD 0) ai=true:=by
  obtain⟨q1,q2⟩:=Zdv gK;refine Znp (ZjB (st1:=⟨st.env,hins st.heap (b.dst.getD 0) bb⟩) q1 (fun t=>rfl) (Zps dj (dM k a ha (Zmk d7)) hne dq) a6) ?_;rw[bc];exact ZuY fj (ip _) q2
 have bN:=gj ai (fun t ht=>g2 t (ZbM d2 ht)) jF;obtain⟨aD,a7⟩:=Zfq (st2:=⟨ai.env,hins ai.heap (a.dst.getD 0) ba⟩) bo;have xb:bxOk (Zer ag (ops.size+i)) st b.op=true:=by rw[ZfB (st:=st1) _ (fun t ht=>(g1 t (ZbM d1 ht)).symm)];exact Zfl h2 hb
 have xa:bxOk (Zer ag (ops.size+k)) ai a.op=true:=by rw[ZfB (st:=st) _ (fun t ht=>g2 t (ZbM d2 ht))];exact Zfl h1 ha
 refine⟨ai,aD,ZgB hb xb bG dj a6,ZgB ha xa bN cu a7,⟨fun t=>?_,?_⟩⟩
 .rw[(ZaL bF t).1,(ZaL a7 t).1];have hd:¬(a.dst=some t/\b.dst=some t):=by
   rintro ⟨e1,e2⟩;rw[e1,e2]at d3;simp[ZmP]at d3
  by_cases e1:a.dst=some t
  .rw[if_pos e1,if_neg (fun e2=>hd ⟨e1,e2⟩)];show (⟨st1.env,_⟩ : St).get t=_;rw[show (⟨st1.env,hins st1.heap (b.dst.getD 0) bb⟩ : St).get t=st1.get t from rfl,(ZaL bo t).1,if_pos e1]
  .rw[if_neg e1];have e3:(⟨ai.env,hins ai.heap (a.dst.getD 0) ba⟩ : St).get t=ai.get t:=rfl;rw[e3,(ZaL a6 t).1];split
   .rfl
   .rw[show (⟨st1.env,hins st1.heap (b.dst.getD 0) bb⟩ : St).get t=st1.get t from rfl,g1 t e1];rfl
 .rw[(ZaL bF 0).2,(ZaL a7 0).2,bx,bc];exact ZAf (a.dst.getD 0) (b.dst.getD 0) ba bb (Ne.symm fj) st.heap
theorem ZBi(dM:ZCu ops ra ni){k i:Nat}{a b:Oper}(ha:ops[k]?=some a)(hb:ops[i]?=some b)(d1:disj a.dst (Zgp ops b)=true)(d2:disj b.dst (Zgp ops a)=true)(d3:ZmP a.dst b.dst=true)(d7:(Zlw ra k a||isMk ra k a)=true)(eH:(Zlw ra i b||isMk ra i b)=true)(ly:∀t∈Zgp ops b,t<N)
  (hne:k≠i) (dq:k ∉ Zer ag i) {st st1 st2:St} {o1 o2:List Prop} (h1:Zhk P N T ops ra ag ni k st=some (st1,o1)) (h2:Zhk P N T ops ra ag ni i st1=some (st2,o2))
  (hJ:∀o,ops[i]?=some o->clsX ra i o=3->ZhX st (o.dst.getD 0) N=true) :
  ∃ai aD,Zhk P N T ops ra ag ni i st=some (ai,o2)/\Zhk P N T ops ra ag ni k ai=some (aD,o1)/\Eqv aD st2:=by
 obtain⟨a',va,sa,cw,hra,cu,bo⟩:=ZdZ h1;obtain⟨b',vb,sb,ay,cd,dj,bF⟩:=ZdZ h2;rw[ha]at cw;cases cw;rw[hb]at ay;cases ay;have ca:clsX ra k a=3:=by
  rw[Bool.or_eq_true]at d7;exact d7.elim Zmk ZDd
 have cb:clsX ra i b=3:=by
  rw[Bool.or_eq_true]at eH;exact eH.elim Zmk ZDd
 obtain⟨ba,kH,gK,rfl,gj⟩:=ZzN d7 hra;obtain⟨bb,ip,iq,rfl,gk⟩:=ZzN eH cd;have bx:st1.heap=hins st.heap (a.dst.getD 0) ba:=(ZaL bo 0).2;have g1:∀t,a.dst≠some t->st1.get t=st.get t:=fun t ht=>by rw[(ZaL bo t).1,if_neg ht];rfl
 have lx:hget st.heap (a.dst.getD 0)=none:=(ZiH (Zdv gK).2).1;have hU:hget st1.heap (b.dst.getD 0)=none:=(ZiH (Zdv iq).2).1;have fj:b.dst.getD 0≠a.dst.getD 0:=by
  intro e;rw[bx,e,Zfs,if_pos rfl]at hU;cases hU
 have i7:ZdI N (b.dst.getD 0) st=true:=by
  refine Znp (hJ b hb cb) ?_;have:=(Zdv iq).2;rw[bx]at this;exact ZnB lx this
 have bG:=gk st (fun t ht=>(g1 t (ZbM d1 ht)).symm) (fun x eI id bb dN ay=>by
  rw[bx,Zfs]at ay;split at ay
  .rename_i e;exfalso;have:(evo st1 x).says (a.dst.getD 0)=false:=by
    cases x with
    |tmp t=>
     have ht:t∈Zgp ops b:=List.mem_append.2 (.inl (ZqN eI));show (st1.get t).says _=false;rw[g1 t (ZbM d1 ht)];exact Zqd (Zdv gK).1 t (ly t ht)
    |const v=>exact Zxm v _
    |func f=>rfl
    |global g=>rfl
   rw[e]at this;simp only[this]at dN;cases dN
  .exact ay) i7
 obtain⟨ai,a6⟩:=Zfq (st2:=⟨st.env,hins st.heap (b.dst.getD 0) bb⟩) bF;have g2:∀t,b.dst≠some t->ai.get t=st.get t:=fun t ht=>by rw[(ZaL a6 t).1,if_neg ht];rfl
 have bc:ai.heap=hins st.heap (b.dst.getD 0) bb:=(ZaL a6 0).2;have jF:ZdI N (a.dst.getD 0) ai=true:=by
  obtain⟨q1,q2⟩:=Zdv gK;refine Znp (ZjB (st1:=⟨st.env,hins st.heap (b.dst.getD 0) bb⟩) q1 (fun t=>rfl) (Zps dj (dM k a ha ca) hne dq) a6) ?_;rw[bc];exact ZuY fj (ip _) q2
 have bN:=gj ai (fun t ht=>g2 t (ZbM d2 ht)) (fun x eI id bb' dN ay=>by
  rw[bc,Zfs];split
  .rename_i e;exfalso;have ir:=(ZiH (Zdv i7).2).1;rw[e]at ir;rw[ay]at ir;cases ir
  .exact ay) jF
 obtain⟨aD,a7⟩:=Zfq (st2:=⟨ai.env,hins ai.heap (a.dst.getD 0) ba⟩) bo;have xb:bxOk (Zer ag (ops.size+i)) st b.op=true:=by rw[ZfB (st:=st1) _ (fun t ht=>(g1 t (ZbM d1 ht)).symm)];exact Zfl h2 hb
 have xa:bxOk (Zer ag (ops.size+k)) ai a.op=true:=by rw[ZfB (st:=st) _ (fun t ht=>g2 t (ZbM d2 ht))];exact Zfl h1 ha
 refine⟨ai,aD,ZgB hb xb bG dj a6,ZgB ha xa bN cu a7,⟨fun t=>?_,?_⟩⟩
 .rw[(ZaL bF t).1,(ZaL a7 t).1];have hd:¬(a.dst=some t/\b.dst=some t):=by
   rintro ⟨e1,e2⟩;rw[e1,e2]at d3;simp[ZmP]at d3
  by_cases e1:a.dst=some t
  .rw[if_pos e1,if_neg (fun e2=>hd ⟨e1,e2⟩)];show (⟨st1.env,_⟩ : St).get t=_;rw[show (⟨st1.env,hins st1.heap (b.dst.getD 0) bb⟩ : St).get t=st1.get t from rfl,(ZaL bo t).1,if_pos e1]
  .rw[if_neg e1];have e3:(⟨ai.env,hins ai.heap (a.dst.getD 0) ba⟩ : St).get t=ai.get t:=rfl;rw[e3,(ZaL a6 t).1];split
   .rfl
   .rw[show (⟨st1.env,hins st1.heap (b.dst.getD 0) bb⟩ : St).get t=st1.get t from rfl,g1 t e1];rfl
 .rw[(ZaL bF 0).2,(ZaL a7 0).2,bx,bc];exact ZAf (a.dst.getD 0) (b.dst.getD 0) ba bb (Ne.symm fj) st.heap
theorem Zzo(dM:ZCu ops ra ni){k i e:Nat}{a b:Oper}(ha:ops[k]?=some a)(hb:ops[i]?=some b)(d1:disj a.dst (Zgp ops b)=true)(d2:disj b.dst (Zgp ops a)=true)(d3:ZmP a.dst b.dst=true)(d7:plOf ra k a=some e)(eH:Zlw ra i b=true)(gL:b.dst.getD 0≠e)
  {st st1 st2:St} {o1 o2:List Prop} (h1:Zhk P N T ops ra ag ni k st=some (st1,o1)) (h2:Zhk P N T ops ra ag ni i st1=some (st2,o2))
  (hJ:∀o,ops[i]?=some o->clsX ra i o=3->ZhX st (o.dst.getD 0) N=true) :
  ∃ai aD,Zhk P N T ops ra ag ni i st=some (ai,o2)/\Zhk P N T ops ra ag ni k ai=some (aD,o1)/\Eqv aD st2:=by
 obtain⟨a',va,sa,cw,hra,cu,bo⟩:=ZdZ h1;obtain⟨b',vb,sb,ay,cd,dj,bF⟩:=ZdZ h2;rw[ha]at cw;cases cw;rw[hb]at ay;cases ay;obtain⟨ba,kH,rfl,sa3,gj⟩:=Znq d7 hra;obtain⟨bb,ip,iq,rfl,gk⟩:=Zmp eH cd;have bx:st1.heap=hrep st.heap e ba:=(ZaL bo 0).2;have g1:∀t,a.dst≠some t->st1.get t=st.get t:=fun t ht=>by rw[(ZaL bo t).1,if_neg ht];rfl
 have i7:ZdI N (b.dst.getD 0) st=true:=by
  refine Znp (hJ b hb (Zmk eH)) ?_;have:=(Zdv iq).2;rw[bx]at this;exact Zru (Ne.symm gL) (fun b0 h0=>sa3 _ b0 gL h0) this
 have bG:=gk st (fun t ht=>(g1 t (ZbM d1 ht)).symm) i7;obtain⟨ai,a6⟩:=Zfq (st2:=⟨st.env,hins st.heap (b.dst.getD 0) bb⟩) bF;have g2:∀t,b.dst≠some t->ai.get t=st.get t:=fun t ht=>by rw[(ZaL a6 t).1,if_neg ht];rfl
 have bc:ai.heap=hins st.heap (b.dst.getD 0) bb:=(ZaL a6 0).2;have bN:=gj ai (fun t ht=>g2 t (ZbM d2 ht)) (by rw[bc,Zfs,if_neg gL]);obtain⟨aD,a7⟩:=Zfq (st2:=⟨ai.env,hrep ai.heap e ba⟩) bo;have xb:bxOk (Zer ag (ops.size+i)) st b.op=true:=by rw[ZfB (st:=st1) _ (fun t ht=>(g1 t (ZbM d1 ht)).symm)];exact Zfl h2 hb
 have xa:bxOk (Zer ag (ops.size+k)) ai a.op=true:=by rw[ZfB (st:=st) _ (fun t ht=>g2 t (ZbM d2 ht))];exact Zfl h1 ha
 refine⟨ai,aD,ZgB hb xb bG dj a6,ZgB ha xa bN cu a7,⟨fun t=>?_,?_⟩⟩
 .rw[(ZaL bF t).1,(ZaL a7 t).1];have hd:¬(a.dst=some t/\b.dst=some t):=by
   rintro ⟨e1,e2⟩;rw[e1,e2]at d3;simp[ZmP]at d3
  by_cases e1:a.dst=some t
  .rw[if_pos e1,if_neg (fun e2=>hd ⟨e1,e2⟩)];show (⟨st1.env,_⟩ : St).get t=_;rw[show (⟨st1.env,hins st1.heap (b.dst.getD 0) bb⟩ : St).get t=st1.get t from rfl,(ZaL bo t).1,if_pos e1]
  .rw[if_neg e1];have e3:(⟨ai.env,hrep ai.heap e ba⟩ : St).get t=ai.get t:=rfl;rw[e3,(ZaL a6 t).1];split
   .rfl
   .rw[show (⟨st1.env,hins st1.heap (b.dst.getD 0) bb⟩ : St).get t=st1.get t from rfl,g1 t e1];rfl
 .rw[(ZaL bF 0).2,(ZaL a7 0).2];simp only;rw[bx,bc,ZAe gL]
theorem Zzn(dM:ZCu ops ra ni){k i e:Nat}{a b:Oper}(ha:ops[k]?=some a)(hb:ops[i]?=some b)(d1:disj a.dst (Zgp ops b)=true)(d2:disj b.dst (Zgp ops a)=true)(d3:ZmP a.dst b.dst=true)(d7:Zlw ra k a=true)(eH:plOf ra i b=some e)(gL:a.dst.getD 0≠e)
  (hne:k≠i) (dq:k ∉ Zer ag i) {st st1 st2:St} {o1 o2:List Prop} (h1:Zhk P N T ops ra ag ni k st=some (st1,o1)) (h2:Zhk P N T ops ra ag ni i st1=some (st2,o2)) :
  ∃ai aD,Zhk P N T ops ra ag ni i st=some (ai,o2)/\Zhk P N T ops ra ag ni k ai=some (aD,o1)/\Eqv aD st2:=by
 obtain⟨a',va,sa,cw,hra,cu,bo⟩:=ZdZ h1;obtain⟨b',vb,sb,ay,cd,dj,bF⟩:=ZdZ h2;rw[ha]at cw;cases cw;rw[hb]at ay;cases ay;obtain⟨ba,kH,gK,rfl,gj⟩:=Zmp d7 hra;obtain⟨bb,ip,rfl,sb3,gk⟩:=Znq eH cd;have bx:st1.heap=hins st.heap (a.dst.getD 0) ba:=(ZaL bo 0).2;have g1:∀t,a.dst≠some t->st1.get t=st.get t:=fun t ht=>by rw[(ZaL bo t).1,if_neg ht];rfl
 have bG:=gk st (fun t ht=>(g1 t (ZbM d1 ht)).symm) (by rw[bx,Zfs,if_neg gL]);obtain⟨ai,a6⟩:=Zfq (st2:=⟨st.env,hrep st.heap e bb⟩) bF;have g2:∀t,b.dst≠some t->ai.get t=st.get t:=fun t ht=>by rw[(ZaL a6 t).1,if_neg ht];rfl
 have bc:ai.heap=hrep st.heap e bb:=(ZaL a6 0).2;have jF:ZdI N (a.dst.getD 0) ai=true:=by
  obtain⟨q1,q2⟩:=Zdv gK;refine Znp (ZjB (st1:=⟨st.env,hrep st.heap e bb⟩) q1 (fun t=>rfl) (Zps dj (dM k a ha (Zmk d7)) hne dq) a6) ?_;rw[bc];exact ZuX (ip _ gL) q2
 have bN:=gj ai (fun t ht=>g2 t (ZbM d2 ht)) jF;obtain⟨aD,a7⟩:=Zfq (st2:=⟨ai.env,hins ai.heap (a.dst.getD 0) ba⟩) bo;have xb:bxOk (Zer ag (ops.size+i)) st b.op=true:=by rw[ZfB (st:=st1) _ (fun t ht=>(g1 t (ZbM d1 ht)).symm)];exact Zfl h2 hb
 have xa:bxOk (Zer ag (ops.size+k)) ai a.op=true:=by rw[ZfB (st:=st) _ (fun t ht=>g2 t (ZbM d2 ht))];exact Zfl h1 ha
 refine⟨ai,aD,ZgB hb xb bG dj a6,ZgB ha xa bN cu a7,⟨fun t=>?_,?_⟩⟩
 .rw[(ZaL bF t).1,(ZaL a7 t).1];have hd:¬(a.dst=some t/\b.dst=some t):=by
   rintro ⟨e1,e2⟩;rw[e1,e2]at d3;simp[ZmP]at d3
  by_cases e1:a.dst=some t
  .rw[if_pos e1,if_neg (fun e2=>hd ⟨e1,e2⟩)];show (⟨st1.env,_⟩ : St).get t=_;rw[show (⟨st1.env,hrep st1.heap e bb⟩ : St).get t=st1.get t from rfl,(ZaL bo t).1,if_pos e1]
  .rw[if_neg e1];have e3:(⟨ai.env,hins ai.heap (a.dst.getD 0) ba⟩ : St).get t=ai.get t:=rfl;rw[e3,(ZaL a6 t).1];split
   .rfl
   .rw[show (⟨st1.env,hrep st1.heap e bb⟩ : St).get t=st1.get t from rfl,g1 t e1];rfl
 .rw[(ZaL bF 0).2,(ZaL a7 0).2];simp only;rw[bx,bc,ZAe gL]
theorem ZAO{op:Op}{st:St}{c:Nat}{l:List Nat}(h:bxOk (c :: l) st op=true)(hl:isLd op=true):∀x∈ZcN op,∀id,(evo st x).says id=true->id=c:=by
 unfold bxOk at h;cases op<;>simp only[isLd]at hl<;>try (cases hl;done)
 rename_i t y;intro x hx id hs;simp only[ZcN,List.mem_singleton]at hx;subst hx;simp only at h;split at h
 .rename_i d off hq;rw[hq]at hs;simp only[V.says,C.says]at hs;rw[<-ZaM h];exact(ZaM hs).symm
 .rename_i hq;rw[hq]at hs;simp only[V.says,C.says]at hs;cases hs
 .cases h
theorem Zzm{k i e c:Nat}{l:List Nat}{a b:Oper}(ha:ops[k]?=some a)(hb:ops[i]?=some b)(d1:disj a.dst (Zgp ops b)=true)(d2:disj b.dst (Zgp ops a)=true)(d3:ZmP a.dst b.dst=true)(fZ:isLd a.op=true)(bR:ZdG ra.hc k=none)(i9:Zer ag (ops.size+k)=c :: l)(eH:plOf ra i b=some e)(lz:c≠e)
  {st st1 st2:St} {o1 o2:List Prop} (h1:Zhk P N T ops ra ag ni k st=some (st1,o1)) (h2:Zhk P N T ops ra ag ni i st1=some (st2,o2)) :
  ∃ai aD,Zhk P N T ops ra ag ni i st=some (ai,o2)/\Zhk P N T ops ra ag ni k ai=some (aD,o1)/\Eqv aD st2:=by
 obtain⟨a',va,sa,cw,hra,cu,bo⟩:=ZdZ h1;obtain⟨b',vb,sb,ay,cd,dj,bF⟩:=ZdZ h2;rw[ha]at cw;cases cw;rw[hb]at ay;cases ay;have fS:=Zfl h1 ha;rw[i9]at fS;have c1:clsX ra k a=1:=by
  rw[ZkN bR];cases hq:a.op<;>rw[hq]at fZ<;>first | (cases fZ;done)|rfl
 obtain⟨ea,jG,_⟩:=Zfr (st2:=st) (by omega) (fun t _=>rfl) (fun _=>rfl) (fun _ h=>h) hra;have du:st1.heap=st.heap:=(ZaL bo 0).2.trans (jG (by omega));have g1:∀t,a.dst≠some t->st1.get t=st.get t:=fun t ht=>by rw[(ZaL bo t).1,if_neg ht];exact ZiW ea t
 have eb:=Zmj cd;obtain⟨bb,ip,rfl,sb3,gk⟩:=Znq eH cd;have bG:=gk st (fun t ht=>(g1 t (ZbM d1 ht)).symm) (by rw[du]);obtain⟨ai,a6⟩:=Zfq (st2:=⟨st.env,hrep st.heap e bb⟩) bF;have g2:∀t,b.dst≠some t->ai.get t=st.get t:=fun t ht=>by rw[(ZaL a6 t).1,if_neg ht];rfl
 have bc:ai.heap=hrep st.heap e bb:=(ZaL a6 0).2;have bN:Zes P N T ops ra k a ai=some (va,o1,ai):=by
  refine Zmq c1 (fun t ht=>g2 t (ZbM d2 ht)) (fun x eI id b0 dN bj=>?_) hra;have hid:=ZAO fS fZ x eI id dN;rw[bc,Zsy,if_neg (by rw[hid];exact Ne.symm lz)];exact bj
 obtain⟨aD,a7⟩:=Zfq (st2:=ai) bo;have xb:bxOk (Zer ag (ops.size+i)) st b.op=true:=by rw[ZfB (st:=st1) _ (fun t ht=>(g1 t (ZbM d1 ht)).symm)];exact Zfl h2 hb
 have xa:bxOk (Zer ag (ops.size+k)) ai a.op=true:=by rw[ZfB (st:=st) _ (fun t ht=>g2 t (ZbM d2 ht))];exact Zfl h1 ha
 refine⟨ai,aD,ZgB hb xb bG dj a6,ZgB ha xa bN cu a7,⟨fun t=>?_,?_⟩⟩
 .rw[(ZaL bF t).1,(ZaL a7 t).1];have hd:¬(a.dst=some t/\b.dst=some t):=by
   rintro ⟨e1,e2⟩;rw[e1,e2]at d3;simp[ZmP]at d3
  by_cases e1:a.dst=some t
  .rw[if_pos e1,if_neg (fun e2=>hd ⟨e1,e2⟩),ZiW eb,(ZaL bo t).1,if_pos e1]
  .rw[if_neg e1];rw[(ZaL a6 t).1];split
   .rfl
   .rw[ZiW eb,g1 t e1];rfl
 .rw[(ZaL bF 0).2,(ZaL a7 0).2,bc];simp only;rw[du]
theorem Zzl{k i e c:Nat}{l:List Nat}{a b:Oper}(ha:ops[k]?=some a)(hb:ops[i]?=some b)(d1:disj a.dst (Zgp ops b)=true)(d2:disj b.dst (Zgp ops a)=true)(d3:ZmP a.dst b.dst=true)(ja:isLd b.op=true)(bR:ZdG ra.hc i=none)(jb:Zer ag (ops.size+i)=c :: l)(d7:plOf ra k a=some e)(lz:c≠e)
  {st st1 st2:St} {o1 o2:List Prop} (h1:Zhk P N T ops ra ag ni k st=some (st1,o1)) (h2:Zhk P N T ops ra ag ni i st1=some (st2,o2)) :
  ∃ai aD,Zhk P N T ops ra ag ni i st=some (ai,o2)/\Zhk P N T ops ra ag ni k ai=some (aD,o1)/\Eqv aD st2:=by
 obtain⟨a',va,sa,cw,hra,cu,bo⟩:=ZdZ h1;obtain⟨b',vb,sb,ay,cd,dj,bF⟩:=ZdZ h2;rw[ha]at cw;cases cw;rw[hb]at ay;cases ay;have fT:=Zfl h2 hb;rw[jb]at fT;have c1:clsX ra i b=1:=by
  rw[ZkN bR];cases hq:b.op<;>rw[hq]at ja<;>first | (cases ja;done)|rfl
 obtain⟨ba,kH,rfl,sa3,gj⟩:=Znq d7 hra;have bx:st1.heap=hrep st.heap e ba:=(ZaL bo 0).2;have g1:∀t,a.dst≠some t->st1.get t=st.get t:=fun t ht=>by rw[(ZaL bo t).1,if_neg ht];rfl
 obtain⟨eb,kI,_⟩:=Zfr (st2:=st1) (by omega) (fun t _=>rfl) (fun _=>rfl) (fun _ h=>h) cd;have bG:Zes P N T ops ra i b st=some (vb,o2,st):=by
  refine Zmq c1 (fun t ht=>(g1 t (ZbM d1 ht)).symm) (fun x eI id b0 dN bj=>?_) cd;have hid:=ZAO fT ja x eI id dN;rw[bx,Zsy,if_neg (by rw[hid];exact Ne.symm lz)]at bj;exact bj
 obtain⟨ai,a6⟩:=Zfq (st2:=st) bF;have g2:∀t,b.dst≠some t->ai.get t=st.get t:=fun t ht=>by rw[(ZaL a6 t).1,if_neg ht]
 have bc:ai.heap=st.heap:=(ZaL a6 0).2;have bN:=gj ai (fun t ht=>g2 t (ZbM d2 ht)) (by rw[bc]);obtain⟨aD,a7⟩:=Zfq (st2:=⟨ai.env,hrep ai.heap e ba⟩) bo;have xb:bxOk (Zer ag (ops.size+i)) st b.op=true:=by rw[ZfB (st:=st1) _ (fun t ht=>(g1 t (ZbM d1 ht)).symm)];exact Zfl h2 hb
 have xa:bxOk (Zer ag (ops.size+k)) ai a.op=true:=by rw[ZfB (st:=st) _ (fun t ht=>g2 t (ZbM d2 ht))];exact Zfl h1 ha
 refine⟨ai,aD,ZgB hb xb bG dj a6,ZgB ha xa bN cu a7,⟨fun t=>?_,?_⟩⟩
 .rw[(ZaL bF t).1,(ZaL a7 t).1];have hd:¬(a.dst=some t/\b.dst=some t):=by
   rintro ⟨e1,e2⟩;rw[e1,e2]at d3;simp[ZmP]at d3
  by_cases e1:a.dst=some t
  .rw[if_pos e1,if_neg (fun e2=>hd ⟨e1,e2⟩),ZiW eb,(ZaL bo t).1,if_pos e1]
  .rw[if_neg e1];rw[show (⟨ai.env,hrep ai.heap e ba⟩ : St).get t=ai.get t from rfl,(ZaL a6 t).1];split
   .rfl
   .rw[ZiW eb,g1 t e1]
 .rw[(ZaL bF 0).2,(ZaL a7 0).2,kI (by omega),bx,bc]
theorem ZBM{T:Tab}{st st':St}{t d off:Nat}{v:V}{an:Option Ans}{obl:List Prop}(h:ZnS T st t (.one (.ptr d off)) v an=some (obl,st')):∀id,id≠d->hget st'.heap id=hget st.heap id:=by
 intro id hne;unfold ZnS at h;split at h
 .split at h
  .simp only at h;split at h
   .split at h
    .cases h;simp only[Zqk];rw[if_neg (Ne.symm hne)]
    .cases h
   .cases h
  .cases h
 .cases h
theorem ZFX{o:Oper}{i d off:Nat}{st st':St}{t:TypeId}{x y:Operand}{v:V}{obl:List Prop}(ho:o.op=.store t x y)(hx:evo st x=.one (.ptr d off))(h:ZpC P N T ops ra i o st=some (v,obl,st')):∀id,id≠d->hget st'.heap id=hget st.heap id:=by
 intro id hne;unfold ZpC at h;split at h
 .cases h
 .cases h;rfl
 .split at h
  .cases h
  rename_i v0 bD st0 aV;split at h
  .cases h
  split at h;rotate_left
  .cases h
  split at h;rotate_left
  .cases h
  cases h;unfold evOp at aV;simp only[ho,hx]at aV;split at aV
  .rename_i q hq;cases aV;exact ZBM hq id hne
  .cases aV
theorem ZBj{k i:Nat}(hok:okLS ops ra ag k i=true){st st1 st2:St}{o1 o2:List Prop}(h1:Zhk P N T ops ra ag ni k st=some (st1,o1))(h2:Zhk P N T ops ra ag ni i st1=some (st2,o2)) :
  ∃ai aD,Zhk P N T ops ra ag ni i st=some (ai,o2)/\Zhk P N T ops ra ag ni k ai=some (aD,o1)/\Eqv aD st2:=by
 obtain⟨a,va,sa,ha,hra,cu,bo⟩:=ZdZ h1;obtain⟨b,vb,sb,hb,cd,dj,bF⟩:=ZdZ h2;have fS:=Zfl h1 ha;have fT:=Zfl h2 hb;unfold okLS at hok;rw[ha,hb]at hok;split at hok;rotate_left
 .cases hok
 rename_i a' b' c l d l' ea eb i9 jb;cases ea;cases eb;simp only[Bool.and_eq_true,Bool.not_eq_true',Option.isNone_iff_eq_none]at hok;obtain⟨⟨⟨⟨⟨⟨⟨d1,d2⟩,d3⟩,fZ⟩,kJ⟩,bR⟩,hk2⟩,lA⟩:=hok;have lA:c≠d:=Nat.ne_of_beq_eq_false lA;rw[i9]at fS;rw[jb]at fT;have c1:clsX ra k a=1:=by
  rw[ZkN bR];cases hq:a.op<;>rw[hq]at fZ<;>first | (cases fZ;done)|rfl
 have c2:clsX ra i b=2:=by
  rw[ZkN hk2];cases hq:b.op<;>rw[hq]at kJ<;>first | (cases kJ;done)|rfl
 obtain⟨ea,jG,_⟩:=Zfr (st2:=st) (by omega) (fun t _=>rfl) (fun _=>rfl) (fun _ h=>h) hra;have du:st1.heap=st.heap:=(ZaL bo 0).2.trans (jG (by omega));have g1:∀t,a.dst≠some t->st1.get t=st.get t:=fun t ht=>by rw[(ZaL bo t).1,if_neg ht];exact ZiW ea t
 obtain⟨eb,_,bG⟩:=Zfr (st2:=st) (by omega) (fun t ht=>(g1 t (ZbM d1 ht)).symm) (fun _=>du.symm) (fun h=>by omega) cd;rw[if_neg (by omega)]at bG;obtain⟨ai,a6⟩:=Zfq (st2:=⟨st.env,sb.heap⟩) bF;have g2:∀t,b.dst≠some t->ai.get t=st.get t:=fun t ht=>by rw[(ZaL a6 t).1,if_neg ht];rfl
 have jH:ai.heap=sb.heap:=(ZaL a6 0).2;have jI:∀id,id≠d->hget sb.heap id=hget st.heap id:=by
  intro id hne;rw[<-du];unfold Zes at cd;rw[hk2]at cd;simp only at cd;unfold bxOk at fT;cases hq:b.op<;>rw[hq]at kJ<;>try (cases kJ;done)
  rename_i t x y;rw[hq]at fT;simp only at fT;split at fT
  .rename_i d' off hx;have:=ZaM fT;subst this;exact ZFX hq hx cd id hne
  .cases fT
 have bN:Zes P N T ops ra k a ai=some (va,o1,ai):=by
  refine Zmq c1 (fun t ht=>g2 t (ZbM d2 ht)) (fun x eI id bb dN ay=>?_) hra;rw[jH,jI id ?_]
  .exact ay
  rintro rfl;unfold bxOk at fS;cases hq:a.op<;>rw[hq]at fZ<;>try (cases fZ;done)
  rename_i t y;rw[hq]at fS eI;simp only[ZcN,List.mem_singleton]at eI;subst eI;simp only at fS;split at fS
  .rename_i d' off hx;have:=ZaM fS;subst this;simp only[hx,V.says,C.says]at dN;exact lA (ZaM dN)
  .rename_i hx;simp only[hx,V.says,C.says]at dN;cases dN
  .cases fS
 obtain⟨aD,a7⟩:=Zfq (st2:=ai) bo;have xb:bxOk (Zer ag (ops.size+i)) st b.op=true:=by rw[ZfB (st:=st1) _ (fun t ht=>(g1 t (ZbM d1 ht)).symm)];exact Zfl h2 hb
 have xa:bxOk (Zer ag (ops.size+k)) ai a.op=true:=by rw[ZfB (st:=st) _ (fun t ht=>g2 t (ZbM d2 ht))];exact Zfl h1 ha
 refine⟨ai,aD,ZgB hb xb bG dj a6,ZgB ha xa bN cu a7,⟨fun t=>?_,?_⟩⟩
 .rw[(ZaL bF t).1,(ZaL a7 t).1];have hd:¬(a.dst=some t/\b.dst=some t):=by
   rintro ⟨e1,e2⟩;rw[e1,e2]at d3;simp[ZmP]at d3
  by_cases e1:a.dst=some t
  .rw[if_pos e1,if_neg (fun e2=>hd ⟨e1,e2⟩),ZiW eb,(ZaL bo t).1,if_pos e1]
  .rw[if_neg e1,(ZaL a6 t).1];split
   .rfl
   .rw[ZiW eb,g1 t e1];rfl
 .rw[(ZaL bF 0).2,(ZaL a7 0).2,jH]
theorem ZDW(dM:ZCu ops ra ni){k i:Nat}(hok:ZoN N ops ra ag k i=true)(hne:k≠i)(dq:k ∉ Zer ag i){st st1 st2:St}{o1 o2:List Prop}(h1:Zhk P N T ops ra ag ni k st=some (st1,o1))(h2:Zhk P N T ops ra ag ni i st1=some (st2,o2))
  (hJ:∀o,ops[i]?=some o->clsX ra i o=3->ZhX st (o.dst.getD 0) N=true) :
  ∃ai aD,Zhk P N T ops ra ag ni i st=some (ai,o2)/\Zhk P N T ops ra ag ni k ai=some (aD,o1)/\Eqv aD st2:=by
 obtain⟨a,va,sa,ha,hra,cu,bo⟩:=ZdZ h1;obtain⟨b,vb,sb,hb,cd,dj,bF⟩:=ZdZ h2;unfold ZoN at hok;rw[Bool.or_eq_true,Bool.or_eq_true]at hok;rcases hok with (hok|hok)|hok;rotate_left
 .exact ZBj hok h1 h2
 .unfold okLC at hok;rw[ha,hb]at hok;simp only[Bool.and_eq_true]at hok;obtain⟨⟨⟨d1,d2⟩,d3⟩,hok⟩:=hok;split at hok
  .rename_i e iu iv;rw[Bool.or_eq_true]at hok;rcases hok with hok|hok
   .rw[Bool.and_eq_true]at hok;exact Zzo dM ha hb d1 d2 d3 iu hok.1 (Nat.ne_of_beq_eq_false (by simpa using hok.2)) h1 h2 hJ
   .simp only[Bool.and_eq_true,Option.isNone_iff_eq_none]at hok;obtain⟨⟨q1,q2⟩,q3⟩:=hok;split at q3
    .rename_i c l i4;exact Zzl ha hb d1 d2 d3 q1 q2 i4 iu (Nat.ne_of_beq_eq_false (by simpa using q3)) h1 h2
    .cases q3
  .rename_i e iu iv;rw[Bool.or_eq_true]at hok;rcases hok with hok|hok
   .rw[Bool.and_eq_true]at hok;exact Zzn dM ha hb d1 d2 d3 hok.1 iv (Nat.ne_of_beq_eq_false (by simpa using hok.2)) hne dq h1 h2
   .simp only[Bool.and_eq_true,Option.isNone_iff_eq_none]at hok;obtain⟨⟨q1,q2⟩,q3⟩:=hok;split at q3
    .rename_i c l i4;exact Zzm ha hb d1 d2 d3 q1 q2 i4 iv (Nat.ne_of_beq_eq_false (by simpa using q3)) h1 h2
    .cases q3
  .cases hok
 unfold ZJl at hok;rw[ha,hb]at hok;simp only[Bool.and_eq_true,Bool.or_eq_true]at hok;obtain⟨⟨⟨d1,d2⟩,d3⟩,dZ⟩:=hok;rcases dZ with (dZ|⟨hR1,hR2⟩)|⟨⟨hR1,hR2⟩,hR3⟩;rotate_left
 .exact ZBh dM ha hb d1 d2 d3 hR1 hR2 hne dq h1 h2 hJ
 .exact ZBi dM ha hb d1 d2 d3 (by rw[Bool.or_eq_true];exact hR1) (by rw[Bool.or_eq_true];exact hR2) (fun t ht=>Nat.le_of_ble_eq_true (List.all_eq_true.1 hR3 t ht)) hne dq h1 h2 hJ
 have jJ:(clsX ra k a<=1/\clsX ra i b<=1)\/(clsX ra k a=0/\clsX ra i b<=3)\/(clsX ra i b=0/\clsX ra k a<=3)\/(clsX ra k a=3/\clsX ra i b=1/\∀t∈Zgp ops b,t<N)\/(clsX ra k a=1/\clsX ra i b=3/\Zvh ra i b=true):=by
  rcases dZ with (((⟨h,h'⟩|⟨h,h'⟩)|⟨h,h'⟩)|⟨⟨h,h'⟩,h''⟩)|⟨⟨h,h'⟩,h''⟩
  .exact .inl ⟨Nat.le_of_ble_eq_true h,Nat.le_of_ble_eq_true h'⟩
  .exact .inr (.inl ⟨ZaM h,Nat.le_of_ble_eq_true h'⟩)
  .exact .inr (.inr (.inl ⟨ZaM h,Nat.le_of_ble_eq_true h'⟩))
  .exact .inr (.inr (.inr (.inl ⟨ZaM h,ZaM h',fun t ht=>Nat.le_of_ble_eq_true (List.all_eq_true.1 h'' t ht)⟩)))
  .exact .inr (.inr (.inr (.inr ⟨ZaM h,ZaM h',h''⟩)))
 -- k at st
 obtain⟨ea,jG,_⟩:=Zfr (st2:=st) (by omega) (fun t _=>rfl) (fun _=>rfl) (fun _ h=>h) hra;have du:clsX ra k a<=1->st1.heap=st.heap:=fun h=>(ZaL bo 0).2.trans (jG h);have g1:∀t,a.dst≠some t->st1.get t=st.get t:=fun t ht=>by rw[(ZaL bo t).1,if_neg ht];exact ZiW ea t
 -- i at st
 have hkc:clsX ra k a<=3:=by omega
 have hic:clsX ra i b<=3:=by omega
 obtain⟨eb,kI,bG⟩ : sb.env=st1.env/\(clsX ra i b<=1->sb.heap=st1.heap)/\Zes P N T ops ra i b st=some (vb,o2,⟨st.env,if clsX ra i b<=1 then st.heap else sb.heap⟩):=by
  by_cases hx:clsX ra k a=3/\clsX ra i b=1
  .obtain⟨e1,e2,_⟩:=Zfr (st2:=st1) (by omega) (fun t _=>rfl) (fun _=>rfl) (fun _ h=>h) cd;refine⟨e1,e2,?_⟩;rw[if_pos (by omega)];have hN:∀t∈Zgp ops b,t<N:=by
    rcases jJ with h|h|h|h|h
    .omega
    .omega
    .omega
    .exact h.2.2
    .omega
   refine Zmq hx.2 (fun t ht=>(g1 t (ZbM d1 ht)).symm) (fun x eI id bb dN ay=>?_) cd;rw[(ZaL bo 0).2]at ay;rcases Zxk hx.1 hra with rfl|⟨hq,hn⟩
   .exact ay
   .rcases hn id bb ay with rfl|h
    .exfalso;have:(evo st1 x).says (a.dst.getD 0)=false:=by
      cases x with
      |tmp t=>
       have ht:t∈Zgp ops b:=List.mem_append.2 (.inl (ZqN eI));show (st1.get t).says _=false;rw[g1 t (ZbM d1 ht)];exact Zqd (Zdv hq).1 t (hN t ht)
      |const v=>exact Zxm v _
      |func f=>rfl
      |global g=>rfl
     simp only[this]at dN;cases dN
    .exact h
  .exact Zfr (st2:=st) (by omega) (fun t ht=>(g1 t (ZbM d1 ht)).symm) (fun h=>(du (by omega)).symm) (fun hc hq=>by
    obtain⟨_,q2⟩:=Zdv hq;refine Znp (hJ b hb hc) ?_;rw[<-du (by omega)];exact q2) cd
 obtain⟨ai,a6⟩:=Zfq (st2:=⟨st.env,if clsX ra i b<=1 then st.heap else sb.heap⟩) bF;have xb:bxOk (Zer ag (ops.size+i)) st b.op=true:=by rw[ZfB (st:=st1) _ (fun t ht=>(g1 t (ZbM d1 ht)).symm)];exact Zfl h2 hb
 have cl:=ZgB (ag:=ag) (ni:=ni) hb xb bG dj a6;have g2:∀t,b.dst≠some t->ai.get t=st.get t:=fun t ht=>by rw[(ZaL a6 t).1,if_neg ht];rfl
 have jH:clsX ra i b<=1->ai.heap=st.heap:=fun h=>by rw[(ZaL a6 0).2];simp only[if_pos h]
 -- k behind i
 have bN:Zes P N T ops ra k a ai=some (va,o1,⟨ai.env,if clsX ra k a<=1 then ai.heap else sa.heap⟩):=by
  by_cases hx:clsX ra k a=1/\clsX ra i b=3
  .rw[if_pos (by omega)];have k7:Zvh ra i b=true:=by
    rcases jJ with h|h|h|h|h
    .omega
    .omega
    .omega
    .omega
    .exact h.2.2
   refine Zmq hx.1 (fun t ht=>g2 t (ZbM d2 ht)) (fun x eI id bb dN ay=>?_) hra;rw[(ZaL a6 0).2];simp only[if_neg (show ¬clsX ra i b<=1 by omega)];have:=ZzO hx.2 k7 bG id bb ay;simpa only[if_neg (show ¬clsX ra i b<=1 by omega)]using this
  .refine(Zfr (st2:=ai) (by omega) (fun t ht=>g2 t (ZbM d2 ht)) (fun h=>jH (by omega)) (fun hc hq=>by
    obtain⟨q1,q2⟩:=Zdv hq;refine Znp (ZjB (st1:=⟨st.env,if clsX ra i b<=1 then st.heap else sb.heap⟩) q1 (fun t=>rfl) (Zps dj (dM k a ha hc) hne dq) a6) ?_;rw[jH (by omega)];exact q2) hra).2.2
 obtain⟨aD,a7⟩:=Zfq (st2:=⟨ai.env,if clsX ra k a<=1 then ai.heap else sa.heap⟩) bo;have xa:bxOk (Zer ag (ops.size+k)) ai a.op=true:=by rw[ZfB (st:=st) _ (fun t ht=>g2 t (ZbM d2 ht))];exact Zfl h1 ha
 refine⟨ai,aD,cl,ZgB ha xa bN cu a7,⟨fun t=>?_,?_⟩⟩
 .rw[(ZaL bF t).1,(ZaL a7 t).1];have hd:¬(a.dst=some t/\b.dst=some t):=by
   rintro ⟨e1,e2⟩;rw[e1,e2]at d3;simp[ZmP]at d3
  by_cases e1:a.dst=some t
  .rw[if_pos e1,if_neg (fun e2=>hd ⟨e1,e2⟩),ZiW eb,(ZaL bo t).1,if_pos e1]
  .rw[if_neg e1];have e3:(⟨ai.env,if clsX ra k a<=1 then ai.heap else sa.heap⟩ : St).get t=ai.get t:=rfl;rw[e3,(ZaL a6 t).1];split
   .rfl
   .rw[ZiW eb,g1 t e1];rfl
 .rw[(ZaL bF 0).2,(ZaL a7 0).2];simp only;by_cases c1:clsX ra k a<=1
  .rw[if_pos c1,(ZaL a6 0).2];simp only;by_cases c2:clsX ra i b<=1
   .rw[if_pos c2,kI c2,du c1]
   .rw[if_neg c2]
  .rw[if_neg c1,kI (by omega),(ZaL bo 0).2]
theorem ZFv{i:Nat}{st st2 st':St}{obl:List Prop}(hcls:∀o,ops[i]?=some o->Zub ra i o=true)(he:Eqv st st2)(h:Zhk P N T ops ra ag ni i st=some (st',obl)):∃aD,Zhk P N T ops ra ag ni i st2=some (aD,obl)/\Eqv st' aD:=by
 obtain⟨o,v,s1,ho,hr,hc,hp⟩:=ZdZ h;have e1:=Zmj hr;obtain⟨jK,ff,hph⟩:=ZEu (hcls o ho) he hr;obtain⟨aD,a7⟩:=Zfq (st2:=⟨st2.env,jK⟩) hp;refine⟨aD,ZgB ho (by rw[ZfB (ops:=ops) (st:=st) _ (fun t _=>he.env t)];exact Zfl h ho) ff hc a7,fun t=>?_,?_⟩
 .rw[(ZaL hp t).1,(ZaL a7 t).1];split
  .rfl
  .rw[ZiW e1];exact he.env t
 .rw[(ZaL hp 0).2,(ZaL a7 0).2];exact hph
theorem ZAq:∀{l:List Nat}{st st2 st':St}{obl:List Prop},(∀i∈l,∀o,ops[i]?=some o->Zub ra i o=true)->Eqv st st2->Zrp P N T ops ra ag ni l st=some (st',obl)->∃aD,Zrp P N T ops ra ag ni l st2=some (aD,obl)/\Eqv st' aD
 | [],st,st2,st',obl,hcls,he,h=>by cases h;exact⟨st2,rfl,he⟩
 |i :: l,st,st2,st',obl,hcls,he,h=>by
  simp only[Zrp]at h
  split at h
  .cases h
  rename_i s1 o1 h1
  split at h
  .cases h
  rename_i s2 o2 h2
  cases h
  obtain⟨s1',h3,h4⟩:=ZFv (hcls i (by simp)) he h1
  obtain⟨s2',h5,h6⟩:=ZAq (fun j hj=>hcls j (by simp[hj])) h4 h2
  exact⟨s2',by simp only[Zrp,h3,h5],h6⟩
theorem ZrQ(dM:ZCu ops ra ni){i:Nat}{post:List Nat}:∀{dL:List Nat}{st F:St}{obl:List Prop},(∀k∈dL++post,∀o,ops[k]?=some o->Zub ra k o=true)->(∀k∈dL,ZoN N ops ra ag k i=true/\k≠i/\k ∉ Zer ag i/\i ∉ Zer ag k) ->
  (∀o,ops[i]?=some o->clsX ra i o=3->ZhX st (o.dst.getD 0) N=true)->Zrp P N T ops ra ag ni (dL++i :: post) st=some (F,obl) ->
  ∃st1 oi F' o',Zhk P N T ops ra ag ni i st=some (st1,oi)/\Zrp P N T ops ra ag ni (dL++post) st1=some (F',o')/\Eqv F F'/\∀q∈oi++o',q∈obl
 | [],st,F,obl,hcls,hp,hJ,h=>by
  simp only[List.nil_append,Zrp]at h
  split at h
  .cases h
  rename_i s1 o1 h1
  split at h
  .cases h
  rename_i s2 o2 h2
  cases h
  exact⟨s1,o1,_,o2,h1,h2,Eqv.refl _,fun q hq=>hq⟩
 |k :: dL,st,F,obl,hcls,hp,hJ,h=>by
  simp only[List.cons_append,Zrp]at h
  split at h
  .cases h
  rename_i s1 o1 h1
  split at h
  .cases h
  rename_i s2 o2 h2
  cases h
  obtain⟨hok,hne,dq,hik⟩:=hp k (by simp)
  obtain⟨a,va,sa,ha,hra,cu,bo⟩:=ZdZ h1
  have hJ1:∀o,ops[i]?=some o->clsX ra i o=3->ZhX s1 (o.dst.getD 0) N=true:=fun o ho hc=>by
   have ea:=Zmj hra
   exact ZjB (hJ o ho hc) (ZiW ea) (Zps cu (dM i o ho hc) (Ne.symm hne) hik) bo
  obtain⟨t1,oi,F1,o',h3,h4,h5,h6⟩:=ZrQ dM (fun j hj=>hcls j (List.mem_cons_of_mem _ hj)) (fun k' hk'=>hp k' (by simp[hk'])) hJ1 h2
  obtain⟨t1',t2',h7,h8,h9⟩:=ZDW dM hok hne dq h1 h3 hJ
  obtain⟨F2,jc,gM⟩:=ZAq (l:=dL++post) (fun j hj=>hcls j (List.mem_cons_of_mem _ hj)) (st:=t1) (st2:=t2') ⟨fun t=>(h9.env t).symm,h9.heap.symm⟩ h4
  refine⟨t1',oi,F2,o1++o',h7,by simp only[List.cons_append,Zrp,h8,jc],h5.trans gM,fun q hq=>?_⟩
  rcases List.mem_append.1 hq with hq|hq
  .exact List.mem_append.2 (.inr (h6 q (List.mem_append.2 (.inl hq))))
  .rcases List.mem_append.1 hq with hq|hq
   .exact List.mem_append.2 (.inl hq)
   .exact List.mem_append.2 (.inr (h6 q (List.mem_append.2 (.inr hq))))
end
end Go.Proofs.YtdjfoojllbfcgaaGreat
