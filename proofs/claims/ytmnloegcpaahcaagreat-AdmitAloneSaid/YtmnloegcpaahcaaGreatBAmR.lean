import Derived.Test.YtmnloegcpaahcaaGreatBAmQ
namespace Go.Proofs.YtmnloegcpaahcaaGreat
open Go.RowKit
set_option linter.unusedSimpArgs false
set_option linter.unusedVariables false
def ZtI:List Operand->List Nat | []=>[] | .tmp t :: l=>t :: ZtI l|_ :: l=>ZtI l
def Zfq(ops:Array Oper)(o:Oper):List Nat:=ZtI (ZcP o.op)++match o.guard with
 |none=>[]
 |some (j,_)=>match (ops[j]?).bind (·.dst)with
  |some t=>[t]
  |none=>[]
theorem ZqO{t:Nat}:∀{l:List Operand},Operand.tmp t∈l->t∈ZtI l
 | [],h=>by cases h
 |x :: l,h=>by
  rcases List.mem_cons.1 h with rfl|h
  .simp[ZtI]
  .have:=ZqO h
   cases x<;>simp[ZtI,this]
theorem ZlA{st st2:St}{ops:Array Oper}{o:Oper}(h:∀t∈Zfq ops o,st2.get t=st.get t):∀x∈ZcP o.op,evo st2 x=evo st x:=by
 intro x hx;cases x with
 |tmp t=>exact h t (List.mem_append.2 (.inl (ZqO hx)))
 |_=>rfl
theorem Zkg{st st2:St}{ops:Array Oper}{o:Oper}(h:∀t∈Zfq ops o,st2.get t=st.get t):ZgM ops st2 o=ZgM ops st o:=by
 unfold ZgM;split
 .rfl
 .rename_i j want hg;split
  .rename_i t ht;rw[h t (by unfold Zfq;rw[hg];simp[ht])]
  .rfl
theorem ZtE{P:Program}{N:Nat}{T:Tab}{st:St}{o:Oper}{ra:RA}{i:Nat}{p:V×List Prop×St}(hc:ZfD ra i o.op=3)(h:evOp P N T o st (Zdb ra.an i)=some p):ZdS N (o.dst.getD 0) st=true:=by
 obtain⟨dst,op,type,dW,after,guard⟩:=o;simp only at hc;have cR:∀{l},ZqF N st (dst.getD 0) l=some p->ZdS N (dst.getD 0) st=true:=by
  intro l hb;unfold ZqF at hb;split at hb
  .assumption
  .cases hb
 cases op<;>(try (simp only[ZfD]at hc))<;>(try (exact absurd hc (by decide)))
 case move x=>split at hc<;>cases hc
 case assign x=>split at hc<;>cases hc
 case alloc e=>
  simp only[evOp]at h
  repeat' split at h
  all_goals first | (cases h;done)|exact cR h
 case box e x=>
  simp only[evOp]at h
  repeat' split at h
  all_goals first | (cases h;done)|exact cR h
 case makeSlice t l c=>
  split at hc
  .cases hc
  rename_i hx;simp only[evOp]at h;split at h
  .rename_i hk;exact absurd hk (hx _ _)
  .cases h
  unfold ZmW at h
  repeat' split at h
  all_goals first | (cases h;done)|assumption
 case buildSlice t n ps=>
  split at hc
  .rename_i n' c' bh;simp only[evOp]at h;unfold Zfz at h;rw[bh]at h
   repeat' split at h
   all_goals first | (cases h;done)|assumption | (rename_i hx;exact absurd rfl (hx _ _))
  .cases hc
 case call c=>
  obtain⟨callee,args,bp⟩:=c;cases callee with
  |value f=>simp only[ZfD]at hc;cases hc
  |invoke r n=>simp only[ZfD]at hc;cases hc
  |builtin b=>
   cases b<;>(try (simp only[ZfD]at hc))<;>(try (exact absurd hc (by decide)))
   case append=>
    split at hc
    .cases hc
    rename_i bh;simp only[evOp]at h;split at h;rotate_left
    .cases h
    split at h;rotate_left
    .cases h
    unfold ZlC at h
    repeat' split at h
    all_goals first | (cases h;done)|assumption
theorem ZBx{P:Program}{N:Nat}{T:Tab}{ops:Array Oper}{ra:RA}{i:Nat}{o:Oper}{st st1 st2:St}{v:V}{obl:List Prop}(hc:ZfD ra i o.op<=3)(hu:∀t∈Zfq ops o,st2.get t=st.get t)
  (hh:ZfD ra i o.op≠0->st2.heap=st.heap) (hq:ZfD ra i o.op=3->ZdS N (o.dst.getD 0) st=true->ZdS N (o.dst.getD 0) st2=true) (h:Zom P N T ops ra i o st=some (v,obl,st1)) :
  st1.env=st.env/\(ZfD ra i o.op<=1->st1.heap=st.heap)/\Zom P N T ops ra i o st2=some (v,obl,⟨st2.env,if ZfD ra i o.op<=1 then st2.heap else st1.heap⟩):=by
 unfold Zom at h ⊢;rw[Zkg hu];split at h
 .cases h
 .cases h;refine⟨rfl,fun _=>rfl,?_⟩;split
  .rfl
  .rename_i cA;rw[<-hh (by omega)]
 .have he:=ZlA hu;split at h
  .cases h
  rename_i v0 bT st0 bw;split at h
  .cases h
  rename_i v' obl' hd;split at h;rotate_left
  .cases h
  rename_i v'' fk;split at h;rotate_left
  .cases h
  rename_i v3 obl3 eS;cases h;refine⟨ZDF bw,?_⟩;have fv:ZfD ra i o.op=0\/ZfD ra i o.op=1\/ZfD ra i o.op=2\/ZfD ra i o.op=3:=by omega
  rcases fv with cA|cA|cA|cA
  .have e1:=ZJz (P:=P) (N:=N) (T:=T) (st:=st) (st2:=st) cA (fun x _=>rfl);have e2:=ZJz (P:=P) (N:=N) (T:=T) (st:=st) (st2:=st2) cA he;rw[bw]at e1 e2;simp only[Option.map_some,Option.some.injEq,Prod.mk.injEq,true_and]at e1;subst e1;refine⟨fun _=>rfl,?_⟩;rw[e2];simp only[Option.map_some,hd,fk,eS,cA];rfl
  .have e1:=ZJA (P:=P) (N:=N) (T:=T) (st:=st) (st2:=st) cA (fun x _=>rfl) rfl;have e2:=ZJA (P:=P) (N:=N) (T:=T) (st:=st) (st2:=st2) cA he (hh (by omega));rw[bw]at e1 e2;simp only[Option.map_some,Option.some.injEq,Prod.mk.injEq,true_and]at e1;subst e1;refine⟨fun _=>rfl,?_⟩;rw[e2];simp only[Option.map_some,hd,fk,eS,cA];rfl
  .have e2:=ZLp (P:=P) (N:=N) (T:=T) (st:=st) (st2:=st2) cA he (hh (by omega));rw[bw]at e2;refine⟨fun h=>by omega,?_⟩;rw[e2];simp only[Option.map_some,hd,fk,eS,cA];rfl
  .have hqq:=ZtE cA bw;have e2:=ZLq (P:=P) (N:=N) (T:=T) (st:=st) (st2:=st2) cA he (hh (by omega)) ((hq cA hqq).trans hqq.symm);rw[bw]at e2;refine⟨fun h=>by omega,?_⟩;rw[e2];simp only[Option.map_some,hd,fk,eS,cA];rfl
theorem ZEH{P:Program}{N:Nat}{T:Tab}{ops:Array Oper}{ra:RA}{i:Nat}{o:Oper}{st st1 st2:St}{v:V}{obl:List Prop}(hc:ZfD ra i o.op=1)(hu:∀t∈Zfq ops o,st2.get t=st.get t)
  (hm:∀x∈ZcP o.op,Has st st2 fun id=>(evo st x).says id) (h:Zom P N T ops ra i o st=some (v,obl,st1)):Zom P N T ops ra i o st2=some (v,obl,st2):=by
 unfold Zom at h ⊢;rw[Zkg hu];split at h
 .cases h
 .cases h;rfl
 .have he:=ZlA hu;split at h
  .cases h
  rename_i v0 bT st0 bw;split at h
  .cases h
  rename_i v' obl' hd;split at h;rotate_left
  .cases h
  rename_i v'' fk;split at h;rotate_left
  .cases h
  rename_i v3 obl3 eS;cases h;have e2:=ZLr (P:=P) (N:=N) (T:=T) (st:=st) (st2:=st2) hc he hm bw;simp only[e2,hd,fk,eS]
theorem ZGp{P:Program}{N:Nat}{T:Tab}{ops:Array Oper}{ra:RA}{i:Nat}{o:Oper}{st st1:St}{v:V}{obl:List Prop}(hc:ZfD ra i o.op=3)(h:Zom P N T ops ra i o st=some (v,obl,st1)) :
  st1=st\/(ZdS N (o.dst.getD 0) st=true/\∀id b,hget st1.heap id=some b->id=o.dst.getD 0\/hget st.heap id=some b):=by
 unfold Zom at h;split at h
 .cases h
 .cases h;exact .inl rfl
 .split at h
  .cases h
  rename_i v0 bT st0 bw;split at h
  .cases h
  split at h;rotate_left
  .cases h
  split at h;rotate_left
  .cases h
  cases h;exact .inr ⟨ZtE hc bw,ZBS hc bw⟩
theorem ZdF{N:Nat}{st:St}{d:Nat}(h:ZdS N d st=true):ZhP st d N=true/\Zhy d st.heap=true:=by
 unfold ZdS at h;split at h
 .rename_i h1;exact⟨h1,h⟩
 .cases h
theorem ZBy{P:Program}{N:Nat}{T:Tab}{ops:Array Oper}{ra:RA}{i:Nat}{o:Oper}{st st1:St}{v:V}{obl:List Prop}(hc:ZfD ra i o.op=3)(hk:ZDh o.op=true)(h:Zom P N T ops ra i o st=some (v,obl,st1)) :
  ∀id b,hget st.heap id=some b->hget st1.heap id=some b:=by
 unfold Zom at h;split at h
 .cases h
 .cases h;exact fun _ _ h=>h
 .split at h
  .cases h
  rename_i v0 bT st0 bw;split at h
  .cases h
  split at h;rotate_left
  .cases h
  split at h;rotate_left
  .cases h
  cases h;exact ZAp hc hk (ZiY (ZdF (ZtE hc bw)).2).1 bw
def ZgS(o:Oper)(ha:HA):Bool:=match ha.lend,ha.new,ha.h1,o.guard with
 | [],[(c,d)],[(c',.rows _ _ _ _)],none=>Nat.beq d (o.dst.getD 0)&&Nat.beq c c'&&Nat.beq c 99999
 |_,_,_,_=>false
def clsX(ra:RA)(i:Nat)(o:Oper):Nat:=match Zdb ra.hc i with
 |none=>ZfD ra i o.op
 |some ha=>match ZgS o ha with
  |true=>3
  |false=>match Zdb ra.hc (i+1000)with
   |some _=>5
   |none=>match ha.new with
    | []=>2
    |_ :: _=>4
def Zvi(ra:RA)(i:Nat)(o:Oper):Bool:=match Zdb ra.hc i with
 |none=>ZDh o.op
 |some _=>true
def ZeG(P:Program)(N:Nat)(ops:Array Oper)(ha:HA)(an:Option Ans)(o:Oper)(st:St):Option (V×List Prop×St):=match ZgM ops st o with
 |some true=>match o.op with
  | .call { callee:=c,args:=args,argTypes:=_ }=>ZgO P N st c args.toList ha an
  |_=>none
 |some false=>some (.one (.lit undef),[],st)
 |none=>none
def ZhA(P:Program)(N:Nat)(ops:Array Oper)(ha:HA)(an:Option Ans)(o:Oper)(st:St):Option (V×List Prop×St):=match ZgM ops st o with
 |some true=>match o.op with
  | .call { callee:=c,args:=args,argTypes:=_ }=>Zhf P N st c args.toList ha an
  |_=>none
 |some false=>some (.one (.lit undef),[],st)
 |none=>none
def Zel(P:Program)(N:Nat)(T:Tab)(ops:Array Oper)(ra:RA)(i:Nat)(o:Oper)(st:St):Option (V×List Prop×St):=match Zdb ra.hc i with
 |none=>Zom P N T ops ra i o st
 |some ha=>match Zdb ra.hc (i+1000)with
  |none=>ZeG P N ops ha (Zdb ra.an i) o st
  |some _=>ZhA P N ops ha (Zdb ra.an i) o st
theorem Zxe{P:Program}{N:Nat}{T:Tab}{ops:Array Oper}{ra:RA}{i:Nat}{o:Oper}{st st1 st2:St}{v:V}{obl:List Prop}(h:Zel P N T ops ra i o st=some (v,obl,st1))(hp:putO N st1 o.dst v=some st2):ZlY P N T ops ra i o st=some (st2,obl):=by
 unfold Zel at h;unfold ZlY;split at h
 .rename_i hk;rw[hk];simp only;unfold ZDf;simp only[h,hp]
 .rename_i ha hk;rw[hk];simp only;split at h
  .unfold ZeG at h;unfold ZzO;split at h
   .split at h
    .rename_i h1 _ c args bp bR;simp only[h1,bR,ZvR (ZvS h),hp]
    .cases h
   .rename_i h1;cases h;simp only[h1,hp]
   .cases h
  .unfold ZhA at h;unfold ZzO;split at h
   .split at h
    .rename_i h1 _ c args bp bR;simp only[h1,bR,ZvR h,hp]
    .cases h
   .rename_i h1;cases h;simp only[h1,hp]
   .cases h
theorem ZrX{P:Program}{N:Nat}{st st1:St}{c:Callee}{args:List Operand}{ha:HA}{an:Option Ans}{v:V}{obl:List Prop}(h:ZgO P N st c args ha an=some (v,obl,st1)):st1.env=st.env:=by
 unfold ZgO at h;split at h
 .split at h
  .cases h;rfl
  .cases h
 .cases h
theorem ZAu{P:Program}{N:Nat}{st st1:St}{c:Callee}{args:List Operand}{ha:HA}{an:Option Ans}{v:V}{obl:List Prop}(h:Zhf P N st c args ha an=some (v,obl,st1)):st1.env=st.env:=by
 unfold Zhf at h;split at h
 .rename_i r hr;cases h;exact ZrX hr
 .unfold ZkX at h;split at h
  .split at h
   .split at h
    .cases h;rfl
    .cases h
   .cases h
  .cases h
theorem Zmt{P:Program}{N:Nat}{T:Tab}{ops:Array Oper}{ra:RA}{i:Nat}{o:Oper}{st st1:St}{v:V}{obl:List Prop}(h:Zel P N T ops ra i o st=some (v,obl,st1)):st1.env=st.env:=by
 unfold Zel at h;split at h
 .unfold Zom at h;split at h
  .cases h
  .cases h;rfl
  .split at h
   .cases h
   rename_i v0 bT st0 bw;split at h
   .cases h
   split at h;rotate_left
   .cases h
   split at h;rotate_left
   .cases h
   cases h;exact ZDF bw
 .split at h
  .unfold ZeG at h;split at h
   .split at h
    .exact ZrX h
    .cases h
   .cases h;rfl
   .cases h
  .unfold ZhA at h;split at h
   .split at h
    .exact ZAu h
    .cases h
   .cases h;rfl
   .cases h
theorem ZiU{P:Program}{st st2:St}{c:Callee}{args:Array Operand}{bp:Array TypeId}{an:Option Ans}(h:∀x∈ZcP (.call { callee:=c,args:=args,argTypes:=bp }),evo st2 x=evo st x):Zkc P st2 c an=Zkc P st c an:=by
 cases c with
 |value f=>simp only[Zkc,ZjY,h f (by simp[ZcP])]
 |invoke r n=>simp only[Zkc,h r (by simp[ZcP])]
 |builtin b=>rfl
theorem Zmx{c:Callee}{args:Array Operand}{bp:Array TypeId}:∀x∈args.toList,x∈ZcP (.call { callee:=c,args:=args,argTypes:=bp }):=by
 intro x hx;cases c<;>simp only[ZcP]<;>first|exact hx|exact List.mem_cons_of_mem _ hx
theorem ZKp{P:Program}{N:Nat}{ops:Array Oper}{ha:HA}{an:Option Ans}{o:Oper}{st st1:St}{v:V}{obl:List Prop}(hn:ha.new=[])(h:ZeG P N ops ha an o st=some (v,obl,st1)) :
  st1.env=st.env/\∀st2:St,(∀t∈Zfq ops o,st2.get t=st.get t)->st2.heap=st.heap->ZeG P N ops ha an o st2=some (v,obl,⟨st2.env,st1.heap⟩):=by
 unfold ZeG at h;split at h
 .rename_i b6;split at h
  .rename_i c args bp bR;refine⟨ZrX h,fun st2 hu hh=>?_⟩;unfold ZeG;rw[Zkg hu,b6];have he:=ZlA hu;rw[bR]at he ⊢;simp only;unfold ZgO at h ⊢;rw[ZiU he];have aC:okHA N st2 ha=okHA N st ha:=by
    unfold okHA;rw[hn];rfl
   split at h;rotate_left
   .cases h
   rename_i g a b om hcal;rw[Zhg (fun x hx=>he x (Zmx x hx)) a b,aC,hh];split at h;rotate_left
   .cases h
   rename_i h0 vs hp r q1 q2 q3 q4 q5;cases h;simp only[q1,q2,q3,q4,q5]
  .cases h
 .rename_i b6;cases h;refine⟨rfl,fun st2 hu hh=>?_⟩;unfold ZeG;rw[Zkg hu,b6];simp only[<-hh]
 .cases h
theorem ZuY{d e:Nat}{b:B}(hne:e≠d)(hb:b.says d=false):∀{h:List (Nat×B)},Zhy d h=true->Zhy d (hins h e b)=true:=by
 have hf:Nat.beq e d=false:=by
  cases hx:Nat.beq e d
  .rfl
  .exact absurd (Nat.eq_of_beq_eq_true hx) hne
 intro h;induction h with
 |nil=>intro _;simp only[hins,Zhy,hf,hb]
 |cons p r ih=>
  obtain⟨k,v⟩:=p;intro hq;have f6:=hq;simp only[Zhy]at hq;split at hq
  .rename_i h1 h2;simp only[hins];split
   .simp only[Zhy,hf,hb];exact hq
   .split
    .simp only[Zhy,hf,hb,h1,h2];exact hq
    .simp only[Zhy,h1,h2];exact ih hq
  .cases hq
theorem ZnQ{d e:Nat}{b:B}:∀{h:List (Nat×B)},hget h e=none->Zhy d (hins h e b)=true->Zhy d h=true
 | [],_,_=>rfl
 | (k,v) :: r,hn,hq=>by
  rw[Zbh]at hn
  split at hn
  .cases hn
  rename_i hke
  have hf:Nat.beq k e=false:=by
   cases hx:Nat.beq k e
   .rfl
   .exact absurd (Nat.eq_of_beq_eq_true hx) hke
  simp only[hins,hf]at hq;split at hq
  .simp only[Zhy]at hq;split at hq
   .simp only[Zhy];exact hq
   .cases hq
  .simp only[Zhy]at hq ⊢;split at hq
   .rename_i h1 h2;exact ZnQ hn hq
   .cases hq
theorem ZDx{P:Program}{N:Nat}{ops:Array Oper}{ha:HA}{an:Option Ans}{o:Oper}{st st1:St}{v:V}{obl:List Prop}(hs:ZgS o ha=true)(h:ZeG P N ops ha an o st=some (v,obl,st1)) :
  ∃b:B,(∀k,b.says k=false)/\ZdS N (o.dst.getD 0) st=true/\st1=⟨st.env,hins st.heap (o.dst.getD 0) b⟩/\∀st2,(∀t∈Zfq ops o,st2.get t=st.get t)->ZdS N (o.dst.getD 0) st2=true ->
   ZeG P N ops ha an o st2=some (v,obl,⟨st2.env,hins st2.heap (o.dst.getD 0) b⟩):=by
 unfold ZgS at hs;split at hs;rotate_left
 .cases hs
 rename_i c d c' e sz len cc hl hn c9 b6;simp only[Bool.and_eq_true]at hs;obtain⟨⟨e1,e2⟩,e3⟩:=hs;have e1:=Nat.eq_of_beq_eq_true e1;have e2:=Nat.eq_of_beq_eq_true e2;subst e2;obtain⟨lend,new,h1,res⟩:=ha;simp only at hl hn c9;subst hl hn c9;subst e1;have hg:∀st:St,ZgM ops st o=some true:=fun st=>by unfold ZgM;rw[b6]
 unfold ZeG at h;rw[hg]at h;simp only at h;split at h;rotate_left
 .cases h
 rename_i f args bp bR;unfold ZgO at h;split at h;rotate_left
 .cases h
 rename_i g a b om hcal;split at h;rotate_left
 .cases h
 rename_i h0 vs hp r aC dP cQ c3 hr;cases h;have hq:ZdS N (o.dst.getD 0) st=true:=by
  unfold okHA at aC;split at aC
  .rename_i q1 q2 q3 q4;exact List.all_eq_true.1 q4 _ (List.mem_cons_self)
  .cases aC
 have iV:hp=[(o.dst.getD 0,.rows e sz len cc)]:=by
  have:gOut ⟨[],[(c,o.dst.getD 0)],[(c,.rows e sz len cc)],res⟩ c=some (o.dst.getD 0):=by
   simp only[gOut,ZpN,Nat.beq_refl]
  simp only[Zsg,this,renB]at c3;exact(Option.some.inj c3).symm
 subst iV;refine⟨.rows e sz len cc,fun _=>rfl,hq,rfl,fun st2 hu cG=>?_⟩;have he:∀x∈ZcP (.call { callee:=f,args:=args,argTypes:=bp }),evo st2 x=evo st x:=fun x hx=>ZlA hu x (by rw[bR];exact hx);have cF:Zcr st2 args.toList a b=Zcr st args.toList a b:=Zhg (fun x hx=>he x (Zmx x hx)) a b;have d7:okHA N st2 ⟨[],[(c,o.dst.getD 0)],[(c,.rows e sz len cc)],res⟩=true:=by
  unfold okHA at aC ⊢;split at aC
  .rename_i q1 q2 q3 q4;simp only at q1 q2 q3;simp only[q1,q2,q3,List.all_cons,List.all_nil,cG,Bool.and_true]
  .cases aC
 have iu:hIn (bwd ([]:List (Nat×Nat))) st2.heap ([]:List (Nat×Nat))=some h0:=dP;unfold ZeG;rw[hg];simp only[bR];unfold ZgO;rw[ZiU he,hcal];simp only[d7,iu,cF,cQ,c3,hr];rfl
theorem ZyJ{P:Program}{N:Nat}{st st2:St}{c:Callee}{args:Array Operand}{bp:Array TypeId}{ha:HA}{an:Option Ans}(he:∀x∈ZcP (.call { callee:=c,args:=args,argTypes:=bp }),evo st2 x=evo st x)(hh:st2.heap=st.heap)(aC:okHA N st2 ha=okHA N st ha) :
  Zhf P N st2 c args.toList ha an=(Zhf P N st c args.toList ha an).map fun r=>(r.1,r.2.1,⟨st2.env,r.2.2.heap⟩):=by
 have cF:∀a b,Zcr st2 args.toList a b=Zcr st args.toList a b:=fun a b=>Zhg (fun x hx=>he x (Zmx x hx)) a b;have e1:ZgO P N st2 c args.toList ha an=(ZgO P N st c args.toList ha an).map fun r=>(r.1,r.2.1,⟨st2.env,r.2.2.heap⟩):=by
  unfold ZgO;rw[ZiU he,aC,hh];cases Zkc P st c an with
  |none=>rfl
  |some q=>
   obtain⟨g,a,b,om⟩:=q;simp only[cF];generalize okHA N st ha=x1;generalize hIn (bwd ha.lend) st.heap ha.lend=x2;generalize ZEu (bwd ha.lend) (Zcr st args.toList a b)=x3;generalize Zsg (gOut ha) ha.h1=x4;generalize renV (gOut ha) ha.res=x5;cases x1<;>cases x2<;>cases x3<;>cases x4<;>cases x5<;>rfl
 have e2:ZkX P N st2 c args.toList ha an=(ZkX P N st c args.toList ha an).map fun r=>(r.1,r.2.1,⟨st2.env,r.2.2.heap⟩):=by
  obtain⟨lend,new,h1,res⟩:=ha;have hb:∀l,borA st2 l=borA st l:=Zwl hh;unfold ZkX;rw[ZiU he,aC,hh];simp only[cF,hb];cases Zkc P st c an with
  |none=>split<;>rfl
  |some q=>
   obtain⟨g,a,b,om⟩:=q;simp only;generalize okHA N st ⟨lend,new,h1,res⟩=x1;generalize borA st (Zcr st args.toList a b)=x2;generalize Zsg (gOut ⟨lend,new,h1,res⟩) h1=x3;generalize renV (gOut ⟨lend,new,h1,res⟩) res=x4;generalize Zvs h1=x5;split
   .cases x1<;>cases x2<;>cases x3<;>cases x4<;>cases x5<;>rfl
   .rfl
 unfold Zhf;rw[e1,e2];cases ZgO P N st c args.toList ha an<;>rfl
theorem ZKq{P:Program}{N:Nat}{ops:Array Oper}{ha:HA}{an:Option Ans}{o:Oper}{st st1:St}{v:V}{obl:List Prop}(hs:ZgS o ha=true)(h:ZhA P N ops ha an o st=some (v,obl,st1)) :
  ∃b:B,ZdS N (o.dst.getD 0) st=true/\st1=⟨st.env,hins st.heap (o.dst.getD 0) b⟩/\∀st2,(∀t∈Zfq ops o,st2.get t=st.get t)->st2.heap=st.heap->ZdS N (o.dst.getD 0) st2=true ->
   ZhA P N ops ha an o st2=some (v,obl,⟨st2.env,st1.heap⟩):=by
 unfold ZgS at hs;split at hs;rotate_left
 .cases hs
 rename_i c d c' e sz len cc hl hn c9 b6;simp only[Bool.and_eq_true]at hs;obtain⟨⟨e1,e2⟩,e3⟩:=hs;have e1:=Nat.eq_of_beq_eq_true e1;have e2:=Nat.eq_of_beq_eq_true e2;subst e2;obtain⟨lend,new,h1,res⟩:=ha;simp only at hl hn c9;subst hl hn c9;subst e1;have hg:∀st:St,ZgM ops st o=some true:=fun st=>by unfold ZgM;rw[b6]
 unfold ZhA at h;rw[hg]at h;simp only at h;split at h;rotate_left
 .cases h
 rename_i f args bp bR;have iV:∀hp,Zsg (gOut ⟨[],[(c,o.dst.getD 0)],[(c,.rows e sz len cc)],res⟩) [(c,.rows e sz len cc)]=some hp->hp=[(o.dst.getD 0,.rows e sz len cc)]:=fun hp c3=>by
  have:gOut ⟨[],[(c,o.dst.getD 0)],[(c,.rows e sz len cc)],res⟩ c=some (o.dst.getD 0):=by
   simp only[gOut,ZpN,Nat.beq_refl]
  simp only[Zsg,this,renB]at c3;exact(Option.some.inj c3).symm
 have fw:okHA N st ⟨[],[(c,o.dst.getD 0)],[(c,.rows e sz len cc)],res⟩=true/\st1=⟨st.env,hins st.heap (o.dst.getD 0) (.rows e sz len cc)⟩:=by
  have h':=h;unfold Zhf at h';split at h'
  .rename_i r hr;cases h';unfold ZgO at hr;split at hr;rotate_left
   .cases hr
   split at hr;rotate_left
   .cases hr
   rename_i h0 vs hp r aC dP cQ c3 fm;cases hr;rw[iV _ c3];exact⟨aC,rfl⟩
  .unfold ZkX at h';split at h';rotate_left
   .cases h'
   split at h';rotate_left
   .cases h'
   split at h';rotate_left
   .cases h'
   rename_i vs hp r ps aC cQ c3 fm aQ;cases h';rw[iV _ c3];exact⟨aC,rfl⟩
 obtain⟨aC,bM⟩:=fw;have hq:ZdS N (o.dst.getD 0) st=true:=by
  have bS:=aC;unfold okHA at bS;split at bS
  .rename_i q1 q2 q3 q4;exact List.all_eq_true.1 q4 _ (List.mem_cons_self)
  .cases bS
 refine⟨.rows e sz len cc,hq,bM,fun st2 hu hh cG=>?_⟩;have he:∀x∈ZcP (.call { callee:=f,args:=args,argTypes:=bp }),evo st2 x=evo st x:=fun x hx=>ZlA hu x (by rw[bR];exact hx);have d7:okHA N st2 ⟨[],[(c,o.dst.getD 0)],[(c,.rows e sz len cc)],res⟩=true:=by
  have bS:=aC;unfold okHA at bS ⊢;split at bS
  .rename_i q1 q2 q3 q4;simp only at q1 q2 q3;simp only[q1,q2,q3,List.all_cons,List.all_nil,cG,Bool.and_true]
  .cases bS
 unfold ZhA;rw[hg];simp only[bR];rw[ZyJ he hh (d7.trans aC.symm),h];rfl
def ZJq:Op->Bool | .makeSlice .. | .buildSlice .. | .alloc _=>true|_=>false
theorem ZEf{ti:TI}{l:List C}(h:ZuG ti=some l)(k:Nat):l.any (C.says k)=false:=by
 unfold ZuG at h;split at h;rotate_left
 .cases h
 rename_i z hz;have lits:∀xs:List Value,(xs.map C.lit).any (C.says k)=false:=fun xs=>by
  induction xs with
  |nil=>rfl
  |cons x xs ih=>simp[C.says,ih]
 cases z with
 |agg cs=>
  simp only[V.ofVal]at h;split at h
  .cases h;exact lits _
  .cases h
 |_=>
  simp only[V.ofVal,V.cells]at h
  first | (cases h;rfl) | (split at h<;>cases h;rfl)
def ZtS(ra:RA)(i:Nat)(o:Oper):Bool:=match Zdb ra.hc i with
 |some ha=>match Zdb ra.hc (i+1000)with
  |none=>true
  |some _=>ZgS o ha
 |none=>Nat.ble (ZfD ra i o.op) 3
def ZlI(ra:RA)(i:Nat)(o:Oper):Bool:=match Zdb ra.hc i with
 |some ha=>match Zdb ra.hc (i+1000)with
  |none=>ZgS o ha
  |some _=>false
 |none=>match o.guard with
  |none=>ZJq o.op&&Nat.beq (ZfD ra i o.op) 3
  |some _=>false
theorem ZBU{N:Nat}{T:Tab}{st st1:St}{d t:Nat}{x y:V}{an:Option Ans}{v:V}{obl:List Prop}(h:ZmW N T st d t x y an=some (v,obl,st1)) :
  ∃b:B,(∀k,b.says k=false)/\ZdS N d st=true/\st1=⟨st.env,hins st.heap d b⟩/\∀st2,ZdS N d st2=true->ZmW N T st2 d t x y an=some (v,obl,⟨st2.env,hins st2.heap d b⟩):=by
 unfold ZmW at h
 repeat' split at h
 all_goals first | (cases h;done)|skip
 all_goals
  cases h;refine⟨_,fun _=>rfl,by assumption,rfl,fun st2 hq=>?_⟩;unfold ZmW;simp only[*,St.new]
theorem ZvP{N:Nat}{T:Tab}{st st1:St}{d t n:Nat}{ps:List (Nat×V)}{k:Nat}{c:Nat->Nat->C}{v:V}{obl:List Prop}(h:Zfz N T st d t n ps (some (.c k c))=some (v,obl,st1)) :
  ∃b:B,(∀k,b.says k=false)/\ZdS N d st=true/\st1=⟨st.env,hins st.heap d b⟩/\∀st2,ZdS N d st2=true->Zfz N T st2 d t n ps (some (.c k c))=some (v,obl,⟨st2.env,hins st2.heap d b⟩):=by
 unfold Zfz at h ⊢;split at h<;>try (cases h;done)
 split at h<;>try (cases h;done)
 split at h<;>try (cases h;done)
 split at h<;>try (cases h;done)
 split at h<;>try (cases h;done)
 split at h<;>try (cases h;done)
 simp only at h;split at h
 .cases h
 .rename_i hq;cases h;refine⟨_,fun _=>rfl,hq,rfl,fun st2 cG=>?_⟩;simp only[*,St.new]
theorem ZmC{P:Program}{N:Nat}{T:Tab}{ops:Array Oper}{ra:RA}{i:Nat}{o:Oper}{st st1:St}{v:V}{obl:List Prop}(hs:ZlI ra i o=true)(h:Zel P N T ops ra i o st=some (v,obl,st1)) :
  ∃b:B,(∀k,b.says k=false)/\ZdS N (o.dst.getD 0) st=true/\st1=⟨st.env,hins st.heap (o.dst.getD 0) b⟩/\∀st2,(∀t∈Zfq ops o,st2.get t=st.get t)->ZdS N (o.dst.getD 0) st2=true ->
   Zel P N T ops ra i o st2=some (v,obl,⟨st2.env,hins st2.heap (o.dst.getD 0) b⟩):=by
 unfold ZlI at hs;unfold Zel at h ⊢;split at hs
 .rename_i ha hk;cases hk2:Zdb ra.hc (i+1000)with
  |some y=>rw[hk2]at hs;cases hs
  |none=>
   rw[hk2]at hs;simp only[hk,hk2]at h ⊢;exact ZDx hs h
 .rename_i hk;rw[hk]at h ⊢;simp only at h ⊢;split at hs;rotate_left
  .cases hs
  rename_i b6;have hg:∀st:St,ZgM ops st o=some true:=fun st=>by unfold ZgM;rw[b6]
  simp only[Bool.and_eq_true]at hs;obtain⟨hr,d6⟩:=hs;have d6:=Nat.eq_of_beq_eq_true d6;unfold Zom at h;rw[hg]at h;simp only at h;split at h
  .cases h
  rename_i v0 bT st0 bw;split at h
  .cases h
  rename_i v' obl' hd;split at h;rotate_left
  .cases h
  rename_i v'' fk;split at h;rotate_left
  .cases h
  rename_i v3 obl3 eS;cases h;have fw:∃b:B,(∀k,b.says k=false)/\ZdS N (o.dst.getD 0) st=true/\st1=⟨st.env,hins st.heap (o.dst.getD 0) b⟩/\∀st2,(∀x∈ZcP o.op,evo st2 x=evo st x)->ZdS N (o.dst.getD 0) st2=true ->
    evOp P N T o st2 (Zdb ra.an i)=some (v0,bT,⟨st2.env,hins st2.heap (o.dst.getD 0) b⟩):=by
   obtain⟨dst,op,type,dW,after,guard⟩:=o;simp only at hr d6 b6 ⊢;cases op<;>simp only[ZJq]at hr<;>try (cases hr;done)
   case alloc t0 _=>
    simp only[evOp]at bw;split at bw;rotate_left
    .cases bw
    rename_i te bQ;split at bw;rotate_left
    .cases bw
    rename_i l hl;unfold ZqF at bw;split at bw;rotate_left
    .cases bw
    rename_i hq la;cases bw;refine⟨.box l,fun k=>ZEf hl k,hq,rfl,fun st2 he cG=>?_⟩;simp only[evOp,bQ,hl];unfold ZqF;rw[cG,la];rfl
   case makeSlice t0 x y _=>
    simp only[ZfD]at d6;split at d6
    .cases d6
    rename_i hx;simp only[evOp]at bw;split at bw
    .rename_i hk;exact absurd hk (hx _ _)
    .cases bw
    obtain⟨b,h1,h2,h3,h4⟩:=ZBU bw;refine⟨b,h1,h2,h3,fun st2 he hq=>?_⟩;simp only[evOp];rw[he x (by simp[ZcP]),he y (by simp[ZcP])];exact h4 st2 hq
   case buildSlice t n ps _=>
    simp only[ZfD]at d6;split at d6;rotate_left
    .cases d6
    rename_i k c ka;simp only[evOp,ka]at bw;obtain⟨b,h1,h2,h3,h4⟩:=ZvP bw;refine⟨b,h1,h2,h3,fun st2 he hq=>?_⟩;simp only[evOp,ka];rw[Zsl (fun x hx=>he x (by simpa[ZcP]using hx))];exact h4 st2 hq
  obtain⟨b,h1,h2,h3,h4⟩:=fw;refine⟨b,h1,h2,h3,fun st2 hu hq=>?_⟩;unfold Zom;rw[hg];simp only[h4 st2 (ZlA hu) hq,hd,fk,eS]
theorem ZkZ{ra:RA}{i:Nat}{o:Oper}(h:Zdb ra.hc i=none):clsX ra i o=ZfD ra i o.op:=by unfold clsX;rw[h]
theorem Zwd{ra:RA}{i:Nat}{o:Oper}{ha:HA}(h:Zdb ra.hc i=some ha)(hc:clsX ra i o<=3):(ZgS o ha=true/\clsX ra i o=3)\/(ha.new=[]/\clsX ra i o=2/\Zdb ra.hc (i+1000)=none):=by
 unfold clsX at hc ⊢;rw[h]at hc ⊢;simp only at hc ⊢;split at hc
 .rename_i hs;exact .inl ⟨hs,rfl⟩
 .split at hc
  .omega
  .rename_i hk2;split at hc
   .rename_i hn;exact .inr ⟨hn,rfl,hk2⟩
   .omega
theorem Zvf{P:Program}{N:Nat}{T:Tab}{ops:Array Oper}{ra:RA}{i:Nat}{o:Oper}{ha:HA}{st st1:St}{v:V}{obl:List Prop}(hk:Zdb ra.hc i=some ha)(hs:ZgS o ha=true)(h:Zel P N T ops ra i o st=some (v,obl,st1)) :
  ∃b:B,ZdS N (o.dst.getD 0) st=true/\st1=⟨st.env,hins st.heap (o.dst.getD 0) b⟩/\∀st2,(∀t∈Zfq ops o,st2.get t=st.get t)->st2.heap=st.heap->ZdS N (o.dst.getD 0) st2=true ->
   Zel P N T ops ra i o st2=some (v,obl,⟨st2.env,st1.heap⟩):=by
 unfold Zel at h ⊢;cases hk2:Zdb ra.hc (i+1000)with
 |none=>
  simp only[hk,hk2]at h ⊢;obtain⟨b,h1,h2,rfl,h4⟩:=ZDx hs h;refine⟨b,h2,rfl,fun st2 hu hh hq=>?_⟩;rw[h4 st2 hu hq,hh]
 |some x=>
  simp only[hk,hk2]at h ⊢;exact ZKq hs h
theorem ZfE{P:Program}{N:Nat}{T:Tab}{ops:Array Oper}{ra:RA}{i:Nat}{o:Oper}{st st1 st2:St}{v:V}{obl:List Prop}(hc:clsX ra i o<=3)(hu:∀t∈Zfq ops o,st2.get t=st.get t)
  (hh:clsX ra i o≠0->st2.heap=st.heap) (hq:clsX ra i o=3->ZdS N (o.dst.getD 0) st=true->ZdS N (o.dst.getD 0) st2=true) (h:Zel P N T ops ra i o st=some (v,obl,st1)) :
  st1.env=st.env/\(clsX ra i o<=1->st1.heap=st.heap)/\Zel P N T ops ra i o st2=some (v,obl,⟨st2.env,if clsX ra i o<=1 then st2.heap else st1.heap⟩):=by
 cases hk:Zdb ra.hc i with
 |none=>
  rw[ZkZ hk]at *
  unfold Zel at h ⊢;rw[hk]at h ⊢;exact ZBx hc hu hh hq h
 |some ha=>
  rcases Zwd hk hc with⟨hs,e3⟩|⟨hn,e3,hk2⟩
  .rw[e3]at hh hq ⊢;obtain⟨b,h2,rfl,h4⟩:=Zvf hk hs h;refine⟨rfl,fun h=>by omega,?_⟩;rw[h4 st2 hu (hh (by omega)) (hq rfl h2)];rfl
  .rw[e3]at hh hq ⊢;unfold Zel at h ⊢;rw[hk]at h ⊢;simp only at h ⊢;rw[hk2]at h ⊢;simp only at h ⊢;obtain⟨h1,h2⟩:=ZKp hn h;refine⟨h1,fun h=>by omega,?_⟩;rw[h2 st2 hu (hh (by omega))];rfl
theorem ZmD{P:Program}{N:Nat}{T:Tab}{ops:Array Oper}{ra:RA}{i:Nat}{o:Oper}{st st1 st2:St}{v:V}{obl:List Prop}(hc:clsX ra i o=1)(hu:∀t∈Zfq ops o,st2.get t=st.get t)
  (hm:∀x∈ZcP o.op,Has st st2 fun id=>(evo st x).says id) (h:Zel P N T ops ra i o st=some (v,obl,st1)):Zel P N T ops ra i o st2=some (v,obl,st2):=by
 cases hk:Zdb ra.hc i with
 |none=>
  rw[ZkZ hk]at *
  unfold Zel at h ⊢;rw[hk]at h ⊢;exact ZEH hc hu hm h
 |some ha=>
  unfold clsX at hc;rw[hk]at hc;simp only at hc
  repeat' split at hc
  all_goals omega
theorem Zxf{P:Program}{N:Nat}{T:Tab}{ops:Array Oper}{ra:RA}{i:Nat}{o:Oper}{st st1:St}{v:V}{obl:List Prop}(hc:clsX ra i o=3)(h:Zel P N T ops ra i o st=some (v,obl,st1)) :
  st1=st\/(ZdS N (o.dst.getD 0) st=true/\∀id b,hget st1.heap id=some b->id=o.dst.getD 0\/hget st.heap id=some b):=by
 cases hk:Zdb ra.hc i with
 |none=>
  rw[ZkZ hk]at *
  unfold Zel at h;rw[hk]at h;exact ZGp hc h
 |some ha=>
  obtain⟨hs,e3⟩ : ZgS o ha=true/\clsX ra i o=3:=(Zwd hk (Nat.le_of_eq hc)).resolve_right fun h=>by have:=h.2.1;omega
  obtain⟨b,h2,rfl,h4⟩:=Zvf hk hs h;refine .inr ⟨h2,fun id b' hb=>?_⟩;simp only[ZfF]at hb;split at hb
  .rename_i e;exact .inl e.symm
  .exact .inr hb
theorem ZzN{P:Program}{N:Nat}{T:Tab}{ops:Array Oper}{ra:RA}{i:Nat}{o:Oper}{st st1:St}{v:V}{obl:List Prop}(hc:clsX ra i o=3)(hk:Zvi ra i o=true)(h:Zel P N T ops ra i o st=some (v,obl,st1)) :
  ∀id b,hget st.heap id=some b->hget st1.heap id=some b:=by
 unfold Zvi at hk;cases hk':Zdb ra.hc i with
 |none=>
  rw[ZkZ hk']at *
  unfold Zel at h;rw[hk']at h hk;exact ZBy hc hk h
 |some ha=>
  obtain⟨hs,e3⟩ : ZgS o ha=true/\clsX ra i o=3:=(Zwd hk' (Nat.le_of_eq hc)).resolve_right fun h=>by have:=h.2.1;omega
  obtain⟨b,h2,rfl,h4⟩:=Zvf hk' hs h;intro id b' hb;simp only[ZfF];have:=(ZiY (ZdF h2).2).1;rw[if_neg (fun e=>by rw[e,hb]at this;cases this)];exact hb
def isMk(ra:RA)(i:Nat)(o:Oper):Bool:=match Zdb ra.hc i,Zdb ra.hc (i+1000),o.op with
 |some ha,some _,.call { callee:=.value (.func _),args:=_,argTypes:=_ }=>ZgS o ha
 |_,_,_=>false
theorem ZIM{P:Program}{N:Nat}{ops:Array Oper}{ha:HA}{an:Option Ans}{o:Oper}{g:FuncId}{args:Array Operand}{bp:Array TypeId}{st st1:St}{v:V}{obl:List Prop}(hs:ZgS o ha=true)
  (bR:o.op=.call { callee:=.value (.func g),args:=args,argTypes:=bp }) (h:ZhA P N ops ha an o st=some (v,obl,st1)) :
  ∃b:B,(∀k,b.says k=false)/\ZdS N (o.dst.getD 0) st=true/\st1=⟨st.env,hins st.heap (o.dst.getD 0) b⟩/\∀st2,(∀t∈Zfq ops o,st2.get t=st.get t)->(∀x∈ZcP o.op,Has st st2 fun id=>(evo st x).says id)->ZdS N (o.dst.getD 0) st2=true ->
   ZhA P N ops ha an o st2=some (v,obl,⟨st2.env,hins st2.heap (o.dst.getD 0) b⟩):=by
 have dw:=hs;unfold ZgS at hs;split at hs;rotate_left
 .cases hs
 rename_i c d c' e sz len cc hl hn c9 b6;simp only[Bool.and_eq_true]at hs;obtain⟨⟨e1,e2⟩,e3⟩:=hs;have e1:=Nat.eq_of_beq_eq_true e1;have e2:=Nat.eq_of_beq_eq_true e2;subst e2;obtain⟨lend,new,h1,res⟩:=ha;simp only at hl hn c9;subst hl hn c9;subst e1;have hg:∀st:St,ZgM ops st o=some true:=fun st=>by unfold ZgM;rw[b6]
 have kA:∀st,ZeG P N ops ⟨[],[(c,o.dst.getD 0)],[(c,.rows e sz len cc)],res⟩ an o st=ZgO P N st (.value (.func g)) args.toList ⟨[],[(c,o.dst.getD 0)],[(c,.rows e sz len cc)],res⟩ an:=fun st=>by
  unfold ZeG;rw[hg];simp only[bR]
 have kB:∀st,ZhA P N ops ⟨[],[(c,o.dst.getD 0)],[(c,.rows e sz len cc)],res⟩ an o st=Zhf P N st (.value (.func g)) args.toList ⟨[],[(c,o.dst.getD 0)],[(c,.rows e sz len cc)],res⟩ an:=fun st=>by
  unfold ZhA;rw[hg];simp only[bR]
 rw[kB]at h;cases hE:ZgO P N st (.value (.func g)) args.toList ⟨[],[(c,o.dst.getD 0)],[(c,.rows e sz len cc)],res⟩ an with
 |some r=>
  unfold Zhf at h;rw[hE]at h;simp only at h;cases h;obtain⟨b,q1,q2,q3,q4⟩:=ZDx dw ((kA st).trans hE);refine⟨b,q1,q2,q3,fun st2 hu hm hq=>?_⟩;rw[kB];exact ZvS ((kA st2).symm.trans (q4 st2 hu hq))
 |none=>
  unfold Zhf at h;rw[hE]at h;simp only at h;have iV:∀hp,Zsg (gOut ⟨[],[(c,o.dst.getD 0)],[(c,.rows e sz len cc)],res⟩) [(c,.rows e sz len cc)]=some hp->hp=[(o.dst.getD 0,.rows e sz len cc)]:=fun hp c3=>by
   have:gOut ⟨[],[(c,o.dst.getD 0)],[(c,.rows e sz len cc)],res⟩ c=some (o.dst.getD 0):=by
    simp only[gOut,ZpN,Nat.beq_refl]
   simp only[Zsg,this,renB]at c3;exact(Option.some.inj c3).symm
  obtain⟨k0,n0,rfl⟩ : ∃k n,res=.one (.osl k n):=by
   unfold ZkX at h;simp only at h;split at h
   .exact⟨_,_,rfl⟩
   .cases h
  unfold ZkX at h;simp only at h;split at h;rotate_left
  .cases h
  rename_i g' a b om hcal;split at h;rotate_left
  .cases h
  rename_i vs hp r ps aC cQ c3 fm aQ;cases h;obtain rfl:=iV _ c3;have hq:ZdS N (o.dst.getD 0) st=true:=by
   have bS:=aC;unfold okHA at bS;split at bS
   .rename_i q1 q2 q3 q4;exact List.all_eq_true.1 q4 _ (List.mem_cons_self)
   .cases bS
  refine⟨.rows e sz len cc,fun _=>rfl,hq,rfl,fun st2 hu hm cG=>?_⟩;have he:∀x∈ZcP (.call { callee:=.value (.func g),args:=args,argTypes:=bp }),evo st2 x=evo st x:=fun x hx=>ZlA hu x (by rw[bR];exact hx);have d7:okHA N st2 ⟨[],[(c,o.dst.getD 0)],[(c,.rows e sz len cc)],.one (.osl k0 n0)⟩=true:=by
   have bS:=aC;unfold okHA at bS ⊢;split at bS
   .rename_i q1 q2 q3 q4;simp only at q1 q2 q3;simp only[q1,q2,q3,List.all_cons,List.all_nil,cG,Bool.and_true]
   .cases bS
  have lb:a=[]/\b=[]:=by
   simp only[Zkc,ZjY,evo,V.ofVal]at hcal
   first
    | (cases hcal;exact⟨rfl,rfl⟩)
    | (simp at hcal;exact⟨hcal.2.1.symm,hcal.2.2.1.symm⟩)
  obtain⟨rfl,rfl⟩:=lb;have cF:Zcr st2 args.toList [] []=Zcr st args.toList [] []:=Zhg (fun x hx=>he x (Zmx x hx)) [] [];have hbm:borA st2 (Zcr st args.toList [] [])=some vs:=by
   refine Zwk (fun v hv=>?_) cQ;unfold Zcr at hv;simp only[List.map_nil,List.nil_append,List.append_nil,List.mem_map]at hv;obtain⟨x,hx,rfl⟩:=hv;exact hm x (by rw[bR];exact Zmx x hx)
  have lc:ZgO P N st2 (.value (.func g)) args.toList ⟨[],[(c,o.dst.getD 0)],[(c,.rows e sz len cc)],.one (.osl k0 n0)⟩ an=none:=by
   cases lc:ZgO P N st2 (.value (.func g)) args.toList ⟨[],[(c,o.dst.getD 0)],[(c,.rows e sz len cc)],.one (.osl k0 n0)⟩ an with
   |none=>rfl
   |some r2=>
    obtain⟨b2,_,_,_,q4⟩:=ZDx dw ((kA st2).trans lc);have:=q4 st (fun t ht=>(hu t ht).symm) hq;rw[kA,hE]at this;cases this
  rw[kB];unfold Zhf;rw[lc];simp only;unfold ZkX;simp only;rw[ZiU he,hcal];simp only[d7,cF,hbm,c3,fm,aQ];rfl
theorem ZzM{P:Program}{N:Nat}{T:Tab}{ops:Array Oper}{ra:RA}{i:Nat}{o:Oper}{st st1:St}{v:V}{obl:List Prop}(hs:(ZlI ra i o||isMk ra i o)=true)(h:Zel P N T ops ra i o st=some (v,obl,st1)) :
  ∃b:B,(∀k,b.says k=false)/\ZdS N (o.dst.getD 0) st=true/\st1=⟨st.env,hins st.heap (o.dst.getD 0) b⟩/\∀st2,(∀t∈Zfq ops o,st2.get t=st.get t)->(∀x∈ZcP o.op,Has st st2 fun id=>(evo st x).says id)->ZdS N (o.dst.getD 0) st2=true ->
   Zel P N T ops ra i o st2=some (v,obl,⟨st2.env,hins st2.heap (o.dst.getD 0) b⟩):=by
 rw[Bool.or_eq_true]at hs;rcases hs with hs|hs
 .obtain⟨b,h1,h2,h3,h4⟩:=ZmC hs h;exact⟨b,h1,h2,h3,fun st2 hu _ hq=>h4 st2 hu hq⟩
 .unfold isMk at hs;split at hs;rotate_left
  .cases hs
  rename_i ha y g args bp hk hk2 bR;unfold Zel at h ⊢;simp only[hk,hk2]at h ⊢;exact ZIM hs bR h
theorem ZDu{ra:RA}{i:Nat}{o:Oper}(hs:isMk ra i o=true):clsX ra i o=3:=by
 unfold isMk at hs;split at hs;rotate_left
 .cases hs
 rename_i ha y g args bp hk hk2 bR;unfold clsX;rw[hk];simp only[hs]
theorem ZIL{P:Program}{N:Nat}{ops:Array Oper}{c e:Nat}{b:B}{res:V}{an:Option Ans}{o:Oper}{st st1:St}{v:V}{obl:List Prop}(b6:o.guard=none)
  (h:ZeG P N ops ⟨[(c,e)],[],[(c,b)],res⟩ an o st=some (v,obl,st1)) :
  ∃b',renB (gOut ⟨[(c,e)],[],[(c,b)],res⟩) b=some b'/\st1=⟨st.env,hrep st.heap e b'⟩/\(∃b0 b1,hget st.heap e=some b0/\renB (bwd [(c,e)]) b0=some b1) /\
   ∀st2,(∀t∈Zfq ops o,st2.get t=st.get t)->hget st2.heap e=hget st.heap e->ZeG P N ops ⟨[(c,e)],[],[(c,b)],res⟩ an o st2=some (v,obl,⟨st2.env,hrep st2.heap e b'⟩):=by
 have hg:∀st:St,ZgM ops st o=some true:=fun st=>by unfold ZgM;rw[b6]
 unfold ZeG at h;rw[hg]at h;simp only at h;split at h;rotate_left
 .cases h
 rename_i f args bp bR;unfold ZgO at h;split at h;rotate_left
 .cases h
 rename_i g a b1 om hcal;split at h;rotate_left
 .cases h
 rename_i h0 vs hp r aC dP cQ c3 hr;cases h;have dI:gOut ⟨[(c,e)],[],[(c,b)],res⟩ c=some e:=by simp only[gOut,ZpN,Nat.beq_refl]
 obtain⟨b',aL,rfl⟩ : ∃b',renB (gOut ⟨[(c,e)],[],[(c,b)],res⟩) b=some b'/\hp=[(e,b')]:=by
  simp only[Zsg,dI]at c3;split at c3
  .rename_i i0 b0 l0 q1 q2 q3;cases q1;cases q3;cases c3;exact⟨_,q2,rfl⟩
  .cases c3
 have du:∀hh,ZzH [(e,b')] [(c,e)] hh=hrep hh e b':=fun hh=>by
  unfold ZzH;simp only[ZuJ,Nat.beq_refl,ZwX]
 refine⟨b',aL,by rw[du],?_,fun st2 hu hh=>?_⟩
 .simp only[hIn]at dP;split at dP
  .rename_i b0 ce;split at dP
   .rename_i b2 l2 q1 q2;exact⟨b0,b2,ce,q1⟩
   .cases dP
  .cases dP
 .have he:∀x∈ZcP (.call { callee:=f,args:=args,argTypes:=bp }),evo st2 x=evo st x:=fun x hx=>ZlA hu x (by rw[bR];exact hx);have d7:okHA N st2 ⟨[(c,e)],[],[(c,b)],res⟩=true:=aC;have iu:hIn (bwd [(c,e)]) st2.heap [(c,e)]=some h0:=by
   rw[ZAe (h:=st.heap) (fun p hp=>by
    rcases List.mem_singleton.1 hp with rfl;exact hh)]
   exact dP
  unfold ZeG;rw[hg];simp only[bR];unfold ZgO;rw[ZiU he,hcal];simp only[d7,iu,Zhg (fun x hx=>he x (Zmx x hx)) a b1,cQ,c3,hr,du]
def plOf(ra:RA)(i:Nat)(o:Oper):Option Nat:=match Zdb ra.hc i,Zdb ra.hc (i+1000),o.guard with
 |some ⟨[(c,e)],[],[(c',_)],_⟩,none,none=>match Nat.beq c c' with
  |true=>some e
  |false=>none
 |_,_,_=>none
theorem ZnJ{P:Program}{N:Nat}{T:Tab}{ops:Array Oper}{ra:RA}{i e:Nat}{o:Oper}{st st1:St}{v:V}{obl:List Prop}(hp:plOf ra i o=some e)(h:Zel P N T ops ra i o st=some (v,obl,st1)) :
  ∃b':B,(∀d,d≠e->b'.says d=false)/\st1=⟨st.env,hrep st.heap e b'⟩/\(∀d b0,d≠e->hget st.heap e=some b0->b0.says d=false) /\
   ∀st2,(∀t∈Zfq ops o,st2.get t=st.get t)->hget st2.heap e=hget st.heap e->Zel P N T ops ra i o st2=some (v,obl,⟨st2.env,hrep st2.heap e b'⟩):=by
 unfold plOf at hp;split at hp;rotate_left
 .cases hp
 rename_i c e0 c' b res hk hk2 b6;split at hp;rotate_left
 .cases hp
 rename_i cA;cases hp;obtain rfl:=Nat.eq_of_beq_eq_true cA;unfold Zel at h ⊢;simp only[hk,hk2]at h ⊢;obtain⟨b',h1,h2,⟨b0,b1,h3,h4⟩,h5⟩:=ZIL b6 h;refine⟨b',fun d hd=>ZIl (fun k hk'=>?_) h1,h2,fun d b2 hd bA=>?_,h5⟩
 .simp only[gOut,ZpN]at hk';split at hk'
  .rename_i hq;split at hq
   .cases hq;cases hk';exact hd rfl
   .cases hq
  .cases hk'
 .rw[h3]at bA;cases bA;refine ZFV ?_ h4;simp only[bwd,List.map_cons,List.map_nil,ZpN];split
  .rename_i hq;exact absurd (Nat.eq_of_beq_eq_true hq).symm hd
  .rfl
structure Eqv (st st2:St):Prop where
 env:∀t,st2.get t=st.get t
 heap:st2.heap=st.heap
theorem Eqv.refl(st:St):Eqv st st:=⟨fun _=>rfl,rfl⟩
theorem Eqv.trans{a b c:St}(h:Eqv a b)(k:Eqv b c):Eqv a c:=⟨fun t=>(k.env t).trans (h.env t),k.heap.trans h.heap⟩
theorem Zxa{st st2:St}{d:Nat}(h:∀t,st2.get t=st.get t):∀n,ZhP st2 d n=ZhP st d n
 | 0=>rfl
 |n+1=>by simp only[ZhP,h n,Zxa h n]
theorem ZzF{st st2:St}(h:Eqv st st2)(N d:Nat):ZdS N d st2=ZdS N d st:=by
 unfold ZdS;rw[Zxa h.env,h.heap]
theorem Zct.eqv{N:Nat}{S0:Nat->Prop}{w0:ZaW}{st st2:St}{a:Act}{w:World}(h:Zct N S0 w0 st a w)(he:Eqv st st2):Zct N S0 w0 st2 a w:=
 h.le (N:=N) ⟨fun t=>.inl (he.env t),fun id b hb=>by rw[<-he.heap];exact hb⟩
theorem ZIA{N:Nat}{st st2:St}(he:Eqv st st2)(ha:HA):okHA N st2 ha=okHA N st ha:=by
 unfold okHA;rw[show (fun p:Nat×Nat=>ZdS N p.2 st2)=fun p=>ZdS N p.2 st from funext fun p=>ZzF he N p.2]
theorem ZEI{P:Program}{N:Nat}{T:Tab}{ops:Array Oper}{ra:RA}{i:Nat}{o:Oper}{st st1 st2:St}{v:V}{obl:List Prop}(hc:ZtS ra i o=true)(he:Eqv st st2)(h:Zel P N T ops ra i o st=some (v,obl,st1)) :
  ∃hp,Zel P N T ops ra i o st2=some (v,obl,⟨st2.env,hp⟩)/\hp=st1.heap:=by
 by_cases hc3:clsX ra i o<=3
 .obtain⟨e1,h1,fm⟩:=ZfE (st2:=st2) hc3 (fun t _=>he.env t) (fun _=>he.heap) (fun _ hq=>by rw[ZzF he];exact hq) h;refine⟨_,fm,?_⟩;split
  .rename_i gT;rw[h1 gT];exact he.heap
  .rfl
 .cases hk:Zdb ra.hc i with
  |none=>
   exfalso;unfold ZtS at hc;rw[ZkZ hk]at hc3;rw[hk]at hc;exact hc3 (Nat.le_of_ble_eq_true hc)
  |some ha=>
   have hk2:Zdb ra.hc (i+1000)=none:=by
    cases hk2:Zdb ra.hc (i+1000)with
    |none=>rfl
    |some x=>
     exfalso;unfold ZtS at hc;rw[hk]at hc;simp only[hk2]at hc;apply hc3;unfold clsX;rw[hk];simp only[hc];omega
   unfold Zel at h ⊢;rw[hk]at h ⊢;simp only at h ⊢;rw[hk2]at h ⊢;simp only at h ⊢;unfold ZeG at h ⊢;rw[Zkg (o:=o) (ops:=ops) (fun t _=>he.env t)];split at h
   .split at h
    .rename_i c args bp bR;have bw:∀x,evo st2 x=evo st x:=fun x=>by
      cases x with
      |tmp t=>exact he.env t
      |const v=>rfl
      |func f=>rfl
      |global g=>rfl
     unfold ZgO at h ⊢;rw[ZiU (args:=args) (bp:=bp) (fun x _=>bw x)];split at h;rotate_left
     .cases h
     rename_i g a b om hcal;rw[Zhg (fun x _=>bw x) a b,ZIA he,he.heap];split at h;rotate_left
     .cases h
     rename_i h0 vs hp r q1 q2 q3 q4 q5;cases h;simp only[q1,q2,q3,q4,q5];exact⟨_,rfl,rfl⟩
    .cases h
   .cases h;exact⟨_,rfl,he.heap⟩
   .cases h
def Zoo(ra:RA):Nat->List Oper->List (Nat×Nat)
 |_,[]=>[]
 |i,o :: r=>match Nat.beq (clsX ra i o) 3 with
  |true=>(i,o.dst.getD 0) :: Zoo ra (i+1) r
  |false=>Zoo ra (i+1) r
def Zev(ah:List (List Nat))(i:Nat):List Nat:=ah.getD i []
def memN(k:Nat):List Nat->Bool
 | []=>false
 |x :: l=>match Nat.beq x k with
  |true=>true
  |false=>memN k l
theorem Zkt{k:Nat}:∀{l:List Nat},memN k l=true↔k∈l
 | []=>by simp[memN]
 |x :: l=>by
  simp only[memN]
  split
  .rename_i h
   simp[ZaO h]
  .rename_i h
   have:=Nat.ne_of_beq_eq_false h
   rw[Zkt]
   simp[Ne.symm this]
def chk(ni:List (Nat×Nat))(ps:List Nat)(i:Nat)(v:V):Bool:=ni.all fun p=>Nat.beq p.1 i||memN p.1 ps || !(v.says p.2)
section
variable (P:Program) (N:Nat) (T:Tab) (ops:Array Oper) (ra:RA) (ah:List (List Nat)) (ni:List (Nat × Nat))
def bxOk(l:List Nat)(st:St)(op:Op):Bool:=match l with
 | []=>true
 |c :: _=>match op with
  | .load _ x=>match evo st x with
   | .one (.ptr d _)=>Nat.beq d c
   | .one (.rp _ _ _)=>Nat.beq 99998 c
   |_=>false
  | .store _ x _=>match evo st x with
   | .one (.ptr d _)=>Nat.beq d c
   |_=>false
  |_=>false
def ZfV(i:Nat)(st:St):Option (St×List Prop):=match ops[i]? with
 |none=>none
 |some o=>match bxOk (Zev ah (ops.size+i)) st o.op with
  |false=>none
  |true=>match Zel P N T ops ra i o st with
   |none=>none
   |some (v,obl,st')=>match chk ni (Zev ah i) i v with
    |false=>none
    |true=>match putO N st' o.dst v with
     |none=>none
     |some st''=>some (st'',obl)
def Zro:List Nat->St->Option (St×List Prop)
 | [],st=>some (st,[])
 |i :: l,st=>match ZfV P N T ops ra ah ni i st with
  |none=>none
  |some (st1,o1)=>match Zro l st1 with
   |none=>none
   |some (st2,o2)=>some (st2,o1++o2)
def disj(x:Option Nat)(l:List Nat):Bool:=match x with
 |none=>true
 |some d=>!(memN d l)
def Zmc(x y:Option Nat):Bool:=match x,y with
 |some a,some b=>!(Nat.beq a b)
 |_,_=>true
def ZJv(k i:Nat):Bool:=match ops[k]?,ops[i]? with
 |some a,some b=>disj a.dst (Zfq ops b)&&disj b.dst (Zfq ops a)&&Zmc a.dst b.dst &&
   ((Nat.ble (clsX ra k a) 1&&Nat.ble (clsX ra i b) 1)||(Nat.beq (clsX ra k a) 0&&Nat.ble (clsX ra i b) 3)||(Nat.beq (clsX ra i b) 0&&Nat.ble (clsX ra k a) 3)||(Nat.beq (clsX ra k a) 3&&Nat.beq (clsX ra i b) 1&&(Zfq ops b).all fun t=>Nat.blt t N)||(Nat.beq (clsX ra k a) 1&&Nat.beq (clsX ra i b) 3&&Zvi ra i b)||(ZlI ra k a&&ZlI ra i b)||((ZlI ra k a||isMk ra k a)&&(ZlI ra i b||isMk ra i b)&&(Zfq ops b).all fun t=>Nat.blt t N))
 |_,_=>false
def isLd:Op->Bool | .load _ _=>true|_=>false
def isSt:Op->Bool | .store _ _ _=>true|_=>false
def okLS(k i:Nat):Bool:=match ops[k]?,ops[i]?,Zev ah (ops.size+k),Zev ah (ops.size+i)with
 |some a,some b,c :: _,d :: _=>disj a.dst (Zfq ops b)&&disj b.dst (Zfq ops a)&&Zmc a.dst b.dst&&isLd a.op&&isSt b.op&&(Zdb ra.hc k).isNone&&(Zdb ra.hc i).isNone && !(Nat.beq c d)
 |_,_,_,_=>false
def okLC(k i:Nat):Bool:=match ops[k]?,ops[i]? with
 |some a,some b=>disj a.dst (Zfq ops b)&&disj b.dst (Zfq ops a)&&Zmc a.dst b.dst&&(match plOf ra k a,plOf ra i b with
  |some e,none=>(ZlI ra i b && !(Nat.beq (b.dst.getD 0) e))||(isLd b.op&&(Zdb ra.hc i).isNone&&match Zev ah (ops.size+i)with
   |c :: _=>!(Nat.beq c e)
   | []=>false)
  |none,some e=>(ZlI ra k a && !(Nat.beq (a.dst.getD 0) e))||(isLd a.op&&(Zdb ra.hc k).isNone&&match Zev ah (ops.size+k)with
   |c :: _=>!(Nat.beq c e)
   | []=>false)
  |_,_=>false)
 |_,_=>false
def ZxO:Operand->Operand->Bool | .tmp a,.tmp b=>Nat.beq a b|_,_=>false
def okLM(k i:Nat):Bool:=match ops[k]?,ops[i]? with
 |some a,some b=>match a.op,b.op with
  | .lookup t x y false,.mapEntry t' x' y'=>Nat.beq t t'&&ZxO x x'&&ZxO y y'&&disj a.dst (Zfq ops b)&&disj b.dst (Zfq ops a)&&Zmc a.dst b.dst&&a.guard.isNone&&b.guard.isNone &&
    (Zdb ra.hc k).isNone&&(Zdb ra.hc i).isNone&&(Zdb ra.bl k).isNone&&(Zdb ra.bl i).isNone&&(kdn ra.dn k).isEmpty&&(kdn ra.dn i).isEmpty&&(Zdb ra.rl k).isNone&&(Zdb ra.rl i).isNone
  |_,_=>false
 |_,_=>false
def ZBz(k i:Nat):Bool:=ZJv N ops ra k i||okLS ops ra ah k i||okLC ops ra ah k i
def Zpc(k i:Nat):Bool:=ZBz N ops ra ah k i||okLM ops ra k i
end
theorem ZaI{N:Nat}{st st':St}{dst:Option Nat}{v:V}(h:putO N st dst v=some st')(t:Nat):st'.get t=(if dst=some t then v else st.get t)/\st'.heap=st.heap:=by
 unfold putO at h;split at h
 .cases h;simp
 .split at h
  .cases h;rename_i d _ _;refine⟨?_,rfl⟩;rw[St.get_put];by_cases e:d=t
   .subst e;simp
   .rw[if_neg e,if_neg (by simpa using e)]
  .cases h
theorem ZeF{N:Nat}{st st' st2:St}{dst:Option Nat}{v:V}(h:putO N st dst v=some st'):∃aN,putO N st2 dst v=some aN:=by
 cases dst with
 |none=>exact⟨_,rfl⟩
 |some d=>
  unfold putO at h ⊢;cases hb:Nat.blt d N with
  |true=>simp only[hb];exact⟨_,rfl⟩
  |false=>simp only[hb]at h;cases h
theorem ZbF{x:Option Nat}{l:List Nat}(h:disj x l=true){t:Nat}(ht:t∈l):x≠some t:=by
 rintro rfl;simp only[disj,Bool.not_eq_true']at h;rw[<-Bool.not_eq_true,Zkt]at h;exact h ht
section
variable {P:Program} {N:Nat} {T:Tab} {ops:Array Oper} {ra:RA} {ah:List (List Nat)} {ni:List (Nat × Nat)}
theorem ZdE{i:Nat}{st st':St}{obl:List Prop}(h:ZfV P N T ops ra ah ni i st=some (st',obl)):∃o v st1,ops[i]?=some o/\Zel P N T ops ra i o st=some (v,obl,st1)/\chk ni (Zev ah i) i v=true/\putO N st1 o.dst v=some st':=by
 unfold ZfV at h;split at h
 .cases h
 rename_i o ho;split at h
 .cases h
 split at h
 .cases h
 rename_i v c8 st1 hr;split at h
 .cases h
 rename_i hc;split at h
 .cases h
 rename_i st2 hp;cases h;exact⟨o,v,st1,ho,hr,hc,hp⟩
theorem ZeE{i:Nat}{st st':St}{obl:List Prop}(h:ZfV P N T ops ra ah ni i st=some (st',obl)){o:Oper}(ho:ops[i]?=some o):bxOk (Zev ah (ops.size+i)) st o.op=true:=by
 unfold ZfV at h;rw[ho]at h;simp only at h;split at h
 .cases h
 .assumption
theorem ZeS{st st2:St}{o:Oper}(l:List Nat)(h:∀t∈Zfq ops o,st2.get t=st.get t):bxOk l st2 o.op=bxOk l st o.op:=by
 have he:=ZlA h;unfold bxOk;cases l with
 |nil=>rfl
 |cons c l=>
  obtain⟨dst,op,type,dW,after,guard⟩:=o;simp only at he ⊢;cases op<;>simp only[ZcP]at he ⊢
  case load t x=>rw[he x (by simp)]
  case store t x y=>rw[he x (by simp)]
theorem Zgl{i:Nat}{st st1 st':St}{o:Oper}{v:V}{obl:List Prop}(ho:ops[i]?=some o)(hbx:bxOk (Zev ah (ops.size+i)) st o.op=true)(hr:Zel P N T ops ra i o st=some (v,obl,st1))(hc:chk ni (Zev ah i) i v=true)(hp:putO N st1 o.dst v=some st'):ZfV P N T ops ra ah ni i st=some (st',obl):=by
 unfold ZfV;simp only[ho,hbx,hr,hc,hp]
theorem ZpG{ps:List Nat}{i k d:Nat}{v:V}(h:chk ni ps i v=true)(hk:(k,d)∈ni)(hne:k≠i)(hp:k ∉ ps):v.says d=false:=by
 have:=List.all_eq_true.1 h _ hk;simp only[Bool.or_eq_true,Bool.not_eq_true']at this;rcases this with (h1|h1)|h1
 .exact absurd (ZaO h1) hne
 .exact absurd (Zkt.1 h1) hp
 .exact h1
theorem ZzG{st:St}{d:Nat}(hd:d<Zjp):∀{n:Nat},(∀t,t<n->(st.get t).says d=false)->ZhP st d n=true
 | 0,_=>Nat.ble_eq_true_of_le hd
 |n+1,h=>by
  simp only[ZhP,h n (by omega)]
  exact ZzG hd fun t ht=>h t (by omega)
theorem ZjZ{st st1 st':St}{dst:Option Nat}{v:V}{d:Nat}(hq:ZhP st d N=true)(he:∀t,st1.get t=st.get t)(hv:v.says d=false)(hp:putO N st1 dst v=some st'):ZhP st' d N=true:=
 ZzG (ZuV hq) fun t ht=>by
  rw[(ZaI hp t).1]
  split
  .exact hv
  .rw[he t];exact Zql hq t ht
theorem Zjq{st st1:St}(h:st1.env=st.env)(t:Nat):st1.get t=st.get t:=by unfold St.get;rw[h]
theorem ZnH{st:St}{d:Nat}(h1:ZhP st d N=true)(h2:Zhy d st.heap=true):ZdS N d st=true:=by unfold ZdS;rw[h1];exact h2
def ZAT(ops:Array Oper)(ra:RA)(ni:List (Nat×Nat)):Prop:=∀i o,ops[i]?=some o->clsX ra i o=3->(i,o.dst.getD 0)∈ni
theorem Zmv{ra:RA}{i:Nat}{o:Oper}(h:ZlI ra i o=true):clsX ra i o=3:=by
 unfold ZlI at h;unfold clsX;split at h
 .rename_i ha hk;rw[hk];split at h
  .simp only[h]
  .cases h
 .rename_i hk;rw[hk];simp only;split at h
  .simp only[Bool.and_eq_true]at h;exact Nat.eq_of_beq_eq_true h.2
  .cases h
theorem ZBc(dz:ZAT ops ra ni){k i:Nat}{a b:Oper}(ha:ops[k]?=some a)(hb:ops[i]?=some b)(d1:disj a.dst (Zfq ops b)=true)(d2:disj b.dst (Zfq ops a)=true)(d3:Zmc a.dst b.dst=true)(d8:ZlI ra k a=true)(eH:ZlI ra i b=true)
  (hne:k≠i) (hki:k ∉ Zev ah i) {st st1 st2:St} {o1 o2:List Prop} (h1:ZfV P N T ops ra ah ni k st=some (st1,o1)) (h2:ZfV P N T ops ra ah ni i st1=some (st2,o2))
  (hJ:∀o,ops[i]?=some o->clsX ra i o=3->ZhP st (o.dst.getD 0) N=true) :
  ∃ak aN,ZfV P N T ops ra ah ni i st=some (ak,o2)/\ZfV P N T ops ra ah ni k ak=some (aN,o1)/\Eqv aN st2:=by
 obtain⟨a',va,sa,cy,a6,cF,bx⟩:=ZdE h1;obtain⟨b',vb,sb,aL,bV,db,bN⟩:=ZdE h2;rw[ha]at cy;cases cy;rw[hb]at aL;cases aL;obtain⟨ba,kb,g0,rfl,gE⟩:=ZmC d8 a6;obtain⟨bb,iv,iw,rfl,gF⟩:=ZmC eH bV;have bM:st1.heap=hins st.heap (a.dst.getD 0) ba:=(ZaI bx 0).2;have g1:∀t,a.dst≠some t->st1.get t=st.get t:=fun t ht=>by rw[(ZaI bx t).1,if_neg ht];rfl
 have lf:hget st.heap (a.dst.getD 0)=none:=(ZiY (ZdF g0).2).1;have ib:hget st1.heap (b.dst.getD 0)=none:=(ZiY (ZdF iw).2).1;have fy:b.dst.getD 0≠a.dst.getD 0:=by
  intro e;rw[bM,e,ZfF,if_pos rfl]at ib;cases ib
 have iW:ZdS N (b.dst.getD 0) st=true:=by
  refine ZnH (hJ b hb (Zmv eH)) ?_;have:=(ZdF iw).2;rw[bM]at this;exact ZnQ lf this
 have bW:=gF st (fun t ht=>(g1 t (ZbF d1 ht)).symm) iW;obtain⟨ak,bg⟩:=ZeF (st2:=⟨st.env,hins st.heap (b.dst.getD 0) bb⟩) bN;have g2:∀t,b.dst≠some t->ak.get t=st.get t:=fun t ht=>by rw[(ZaI bg t).1,if_neg ht];rfl
 have bu:ak.heap=hins st.heap (b.dst.getD 0) bb:=(ZaI bg 0).2;have jx:ZdS N (a.dst.getD 0) ak=true:=by
  obtain⟨q1,q2⟩:=ZdF g0;refine ZnH (ZjZ (st1:=⟨st.env,hins st.heap (b.dst.getD 0) bb⟩) q1 (fun t=>rfl) (ZpG db (dz k a ha (Zmv d8)) hne hki) bg) ?_;rw[bu];exact ZuY fy (iv _) q2
 have cl:=gE ak (fun t ht=>g2 t (ZbF d2 ht)) jx;obtain⟨aN,bm⟩:=ZeF (st2:=⟨ak.env,hins ak.heap (a.dst.getD 0) ba⟩) bx;have xb:bxOk (Zev ah (ops.size+i)) st b.op=true:=by rw[ZeS (st:=st1) _ (fun t ht=>(g1 t (ZbF d1 ht)).symm)];exact ZeE h2 hb
 have xa:bxOk (Zev ah (ops.size+k)) ak a.op=true:=by rw[ZeS (st:=st) _ (fun t ht=>g2 t (ZbF d2 ht))];exact ZeE h1 ha
 refine⟨ak,aN,Zgl hb xb bW db bg,Zgl ha xa cl cF bm,⟨fun t=>?_,?_⟩⟩
 .rw[(ZaI bN t).1,(ZaI bm t).1];have hd:¬(a.dst=some t/\b.dst=some t):=by
   rintro ⟨e1,e2⟩;rw[e1,e2]at d3;simp[Zmc]at d3
  by_cases e1:a.dst=some t
  .rw[if_pos e1,if_neg (fun e2=>hd ⟨e1,e2⟩)];show (⟨st1.env,_⟩ : St).get t=_;rw[show (⟨st1.env,hins st1.heap (b.dst.getD 0) bb⟩ : St).get t=st1.get t from rfl,(ZaI bx t).1,if_pos e1]
  .rw[if_neg e1];have e3:(⟨ak.env,hins ak.heap (a.dst.getD 0) ba⟩ : St).get t=ak.get t:=rfl;rw[e3,(ZaI bg t).1];split
   .rfl
   .rw[show (⟨st1.env,hins st1.heap (b.dst.getD 0) bb⟩ : St).get t=st1.get t from rfl,g1 t e1];rfl
 .rw[(ZaI bN 0).2,(ZaI bm 0).2,bM,bu];exact ZAc (a.dst.getD 0) (b.dst.getD 0) ba bb (Ne.symm fy) st.heap
theorem ZBd(dz:ZAT ops ra ni){k i:Nat}{a b:Oper}(ha:ops[k]?=some a)(hb:ops[i]?=some b)(d1:disj a.dst (Zfq ops b)=true)(d2:disj b.dst (Zfq ops a)=true)(d3:Zmc a.dst b.dst=true)(d8:(ZlI ra k a||isMk ra k a)=true)(eH:(ZlI ra i b||isMk ra i b)=true)(hbN:∀t∈Zfq ops b,t<N)
  (hne:k≠i) (hki:k ∉ Zev ah i) {st st1 st2:St} {o1 o2:List Prop} (h1:ZfV P N T ops ra ah ni k st=some (st1,o1)) (h2:ZfV P N T ops ra ah ni i st1=some (st2,o2))
  (hJ:∀o,ops[i]?=some o->clsX ra i o=3->ZhP st (o.dst.getD 0) N=true) :
  ∃ak aN,ZfV P N T ops ra ah ni i st=some (ak,o2)/\ZfV P N T ops ra ah ni k ak=some (aN,o1)/\Eqv aN st2:=by
 obtain⟨a',va,sa,cy,a6,cF,bx⟩:=ZdE h1;obtain⟨b',vb,sb,aL,bV,db,bN⟩:=ZdE h2;rw[ha]at cy;cases cy;rw[hb]at aL;cases aL;have ca:clsX ra k a=3:=by
  rw[Bool.or_eq_true]at d8;exact d8.elim Zmv ZDu
 have cb:clsX ra i b=3:=by
  rw[Bool.or_eq_true]at eH;exact eH.elim Zmv ZDu
 obtain⟨ba,kb,g0,rfl,gE⟩:=ZzM d8 a6;obtain⟨bb,iv,iw,rfl,gF⟩:=ZzM eH bV;have bM:st1.heap=hins st.heap (a.dst.getD 0) ba:=(ZaI bx 0).2;have g1:∀t,a.dst≠some t->st1.get t=st.get t:=fun t ht=>by rw[(ZaI bx t).1,if_neg ht];rfl
 have lf:hget st.heap (a.dst.getD 0)=none:=(ZiY (ZdF g0).2).1;have ib:hget st1.heap (b.dst.getD 0)=none:=(ZiY (ZdF iw).2).1;have fy:b.dst.getD 0≠a.dst.getD 0:=by
  intro e;rw[bM,e,ZfF,if_pos rfl]at ib;cases ib
 have iW:ZdS N (b.dst.getD 0) st=true:=by
  refine ZnH (hJ b hb cb) ?_;have:=(ZdF iw).2;rw[bM]at this;exact ZnQ lf this
 have bW:=gF st (fun t ht=>(g1 t (ZbF d1 ht)).symm) (fun x eI id bb dO aL=>by
  rw[bM,ZfF]at aL;split at aL
  .rename_i e;exfalso;have:(evo st1 x).says (a.dst.getD 0)=false:=by
    cases x with
    |tmp t=>
     have ht:t∈Zfq ops b:=List.mem_append.2 (.inl (ZqO eI));show (st1.get t).says _=false;rw[g1 t (ZbF d1 ht)];exact Zql (ZdF g0).1 t (hbN t ht)
    |const v=>exact Zxi v _
    |func f=>rfl
    |global g=>rfl
   rw[e]at this;simp only[this]at dO;cases dO
  .exact aL) iW
 obtain⟨ak,bg⟩:=ZeF (st2:=⟨st.env,hins st.heap (b.dst.getD 0) bb⟩) bN;have g2:∀t,b.dst≠some t->ak.get t=st.get t:=fun t ht=>by rw[(ZaI bg t).1,if_neg ht];rfl
 have bu:ak.heap=hins st.heap (b.dst.getD 0) bb:=(ZaI bg 0).2;have jx:ZdS N (a.dst.getD 0) ak=true:=by
  obtain⟨q1,q2⟩:=ZdF g0;refine ZnH (ZjZ (st1:=⟨st.env,hins st.heap (b.dst.getD 0) bb⟩) q1 (fun t=>rfl) (ZpG db (dz k a ha ca) hne hki) bg) ?_;rw[bu];exact ZuY fy (iv _) q2
 have cl:=gE ak (fun t ht=>g2 t (ZbF d2 ht)) (fun x eI id bb' dO aL=>by
  rw[bu,ZfF];split
  .rename_i e;exfalso;have ix:=(ZiY (ZdF iW).2).1;rw[e]at ix;rw[aL]at ix;cases ix
  .exact aL) jx
 obtain⟨aN,bm⟩:=ZeF (st2:=⟨ak.env,hins ak.heap (a.dst.getD 0) ba⟩) bx;have xb:bxOk (Zev ah (ops.size+i)) st b.op=true:=by rw[ZeS (st:=st1) _ (fun t ht=>(g1 t (ZbF d1 ht)).symm)];exact ZeE h2 hb
 have xa:bxOk (Zev ah (ops.size+k)) ak a.op=true:=by rw[ZeS (st:=st) _ (fun t ht=>g2 t (ZbF d2 ht))];exact ZeE h1 ha
 refine⟨ak,aN,Zgl hb xb bW db bg,Zgl ha xa cl cF bm,⟨fun t=>?_,?_⟩⟩
 .rw[(ZaI bN t).1,(ZaI bm t).1];have hd:¬(a.dst=some t/\b.dst=some t):=by
   rintro ⟨e1,e2⟩;rw[e1,e2]at d3;simp[Zmc]at d3
  by_cases e1:a.dst=some t
  .rw[if_pos e1,if_neg (fun e2=>hd ⟨e1,e2⟩)];show (⟨st1.env,_⟩ : St).get t=_;rw[show (⟨st1.env,hins st1.heap (b.dst.getD 0) bb⟩ : St).get t=st1.get t from rfl,(ZaI bx t).1,if_pos e1]
  .rw[if_neg e1];have e3:(⟨ak.env,hins ak.heap (a.dst.getD 0) ba⟩ : St).get t=ak.get t:=rfl;rw[e3,(ZaI bg t).1];split
   .rfl
   .rw[show (⟨st1.env,hins st1.heap (b.dst.getD 0) bb⟩ : St).get t=st1.get t from rfl,g1 t e1];rfl
 .rw[(ZaI bN 0).2,(ZaI bm 0).2,bM,bu];exact ZAc (a.dst.getD 0) (b.dst.getD 0) ba bb (Ne.symm fy) st.heap
theorem Zzp(dz:ZAT ops ra ni){k i e:Nat}{a b:Oper}(ha:ops[k]?=some a)(hb:ops[i]?=some b)(d1:disj a.dst (Zfq ops b)=true)(d2:disj b.dst (Zfq ops a)=true)(d3:Zmc a.dst b.dst=true)(d8:plOf ra k a=some e)(eH:ZlI ra i b=true)(g4:b.dst.getD 0≠e)
  {st st1 st2:St} {o1 o2:List Prop} (h1:ZfV P N T ops ra ah ni k st=some (st1,o1)) (h2:ZfV P N T ops ra ah ni i st1=some (st2,o2))
  (hJ:∀o,ops[i]?=some o->clsX ra i o=3->ZhP st (o.dst.getD 0) N=true) :
  ∃ak aN,ZfV P N T ops ra ah ni i st=some (ak,o2)/\ZfV P N T ops ra ah ni k ak=some (aN,o1)/\Eqv aN st2:=by
 obtain⟨a',va,sa,cy,a6,cF,bx⟩:=ZdE h1;obtain⟨b',vb,sb,aL,bV,db,bN⟩:=ZdE h2;rw[ha]at cy;cases cy;rw[hb]at aL;cases aL;obtain⟨ba,kb,rfl,sa3,gE⟩:=ZnJ d8 a6;obtain⟨bb,iv,iw,rfl,gF⟩:=ZmC eH bV;have bM:st1.heap=hrep st.heap e ba:=(ZaI bx 0).2;have g1:∀t,a.dst≠some t->st1.get t=st.get t:=fun t ht=>by rw[(ZaI bx t).1,if_neg ht];rfl
 have iW:ZdS N (b.dst.getD 0) st=true:=by
  refine ZnH (hJ b hb (Zmv eH)) ?_;have:=(ZdF iw).2;rw[bM]at this;exact Zru (Ne.symm g4) (fun b0 h0=>sa3 _ b0 g4 h0) this
 have bW:=gF st (fun t ht=>(g1 t (ZbF d1 ht)).symm) iW;obtain⟨ak,bg⟩:=ZeF (st2:=⟨st.env,hins st.heap (b.dst.getD 0) bb⟩) bN;have g2:∀t,b.dst≠some t->ak.get t=st.get t:=fun t ht=>by rw[(ZaI bg t).1,if_neg ht];rfl
 have bu:ak.heap=hins st.heap (b.dst.getD 0) bb:=(ZaI bg 0).2;have cl:=gE ak (fun t ht=>g2 t (ZbF d2 ht)) (by rw[bu,ZfF,if_neg g4]);obtain⟨aN,bm⟩:=ZeF (st2:=⟨ak.env,hrep ak.heap e ba⟩) bx;have xb:bxOk (Zev ah (ops.size+i)) st b.op=true:=by rw[ZeS (st:=st1) _ (fun t ht=>(g1 t (ZbF d1 ht)).symm)];exact ZeE h2 hb
 have xa:bxOk (Zev ah (ops.size+k)) ak a.op=true:=by rw[ZeS (st:=st) _ (fun t ht=>g2 t (ZbF d2 ht))];exact ZeE h1 ha
 refine⟨ak,aN,Zgl hb xb bW db bg,Zgl ha xa cl cF bm,⟨fun t=>?_,?_⟩⟩
 .rw[(ZaI bN t).1,(ZaI bm t).1];have hd:¬(a.dst=some t/\b.dst=some t):=by
   rintro ⟨e1,e2⟩;rw[e1,e2]at d3;simp[Zmc]at d3
  by_cases e1:a.dst=some t
  .rw[if_pos e1,if_neg (fun e2=>hd ⟨e1,e2⟩)];show (⟨st1.env,_⟩ : St).get t=_;rw[show (⟨st1.env,hins st1.heap (b.dst.getD 0) bb⟩ : St).get t=st1.get t from rfl,(ZaI bx t).1,if_pos e1]
  .rw[if_neg e1];have e3:(⟨ak.env,hrep ak.heap e ba⟩ : St).get t=ak.get t:=rfl;rw[e3,(ZaI bg t).1];split
   .rfl
   .rw[show (⟨st1.env,hins st1.heap (b.dst.getD 0) bb⟩ : St).get t=st1.get t from rfl,g1 t e1];rfl
 .rw[(ZaI bN 0).2,(ZaI bm 0).2];simp only;rw[bM,bu,ZAb g4]
theorem Zzo(dz:ZAT ops ra ni){k i e:Nat}{a b:Oper}(ha:ops[k]?=some a)(hb:ops[i]?=some b)(d1:disj a.dst (Zfq ops b)=true)(d2:disj b.dst (Zfq ops a)=true)(d3:Zmc a.dst b.dst=true)(d8:ZlI ra k a=true)(eH:plOf ra i b=some e)(g4:a.dst.getD 0≠e)
  (hne:k≠i) (hki:k ∉ Zev ah i) {st st1 st2:St} {o1 o2:List Prop} (h1:ZfV P N T ops ra ah ni k st=some (st1,o1)) (h2:ZfV P N T ops ra ah ni i st1=some (st2,o2)) :
  ∃ak aN,ZfV P N T ops ra ah ni i st=some (ak,o2)/\ZfV P N T ops ra ah ni k ak=some (aN,o1)/\Eqv aN st2:=by
 obtain⟨a',va,sa,cy,a6,cF,bx⟩:=ZdE h1;obtain⟨b',vb,sb,aL,bV,db,bN⟩:=ZdE h2;rw[ha]at cy;cases cy;rw[hb]at aL;cases aL;obtain⟨ba,kb,g0,rfl,gE⟩:=ZmC d8 a6;obtain⟨bb,iv,rfl,sb3,gF⟩:=ZnJ eH bV;have bM:st1.heap=hins st.heap (a.dst.getD 0) ba:=(ZaI bx 0).2;have g1:∀t,a.dst≠some t->st1.get t=st.get t:=fun t ht=>by rw[(ZaI bx t).1,if_neg ht];rfl
 have bW:=gF st (fun t ht=>(g1 t (ZbF d1 ht)).symm) (by rw[bM,ZfF,if_neg g4]);obtain⟨ak,bg⟩:=ZeF (st2:=⟨st.env,hrep st.heap e bb⟩) bN;have g2:∀t,b.dst≠some t->ak.get t=st.get t:=fun t ht=>by rw[(ZaI bg t).1,if_neg ht];rfl
 have bu:ak.heap=hrep st.heap e bb:=(ZaI bg 0).2;have jx:ZdS N (a.dst.getD 0) ak=true:=by
  obtain⟨q1,q2⟩:=ZdF g0;refine ZnH (ZjZ (st1:=⟨st.env,hrep st.heap e bb⟩) q1 (fun t=>rfl) (ZpG db (dz k a ha (Zmv d8)) hne hki) bg) ?_;rw[bu];exact ZuX (iv _ g4) q2
 have cl:=gE ak (fun t ht=>g2 t (ZbF d2 ht)) jx;obtain⟨aN,bm⟩:=ZeF (st2:=⟨ak.env,hins ak.heap (a.dst.getD 0) ba⟩) bx;have xb:bxOk (Zev ah (ops.size+i)) st b.op=true:=by rw[ZeS (st:=st1) _ (fun t ht=>(g1 t (ZbF d1 ht)).symm)];exact ZeE h2 hb
 have xa:bxOk (Zev ah (ops.size+k)) ak a.op=true:=by rw[ZeS (st:=st) _ (fun t ht=>g2 t (ZbF d2 ht))];exact ZeE h1 ha
 refine⟨ak,aN,Zgl hb xb bW db bg,Zgl ha xa cl cF bm,⟨fun t=>?_,?_⟩⟩
 .rw[(ZaI bN t).1,(ZaI bm t).1];have hd:¬(a.dst=some t/\b.dst=some t):=by
   rintro ⟨e1,e2⟩;rw[e1,e2]at d3;simp[Zmc]at d3
  by_cases e1:a.dst=some t
  .rw[if_pos e1,if_neg (fun e2=>hd ⟨e1,e2⟩)];show (⟨st1.env,_⟩ : St).get t=_;rw[show (⟨st1.env,hrep st1.heap e bb⟩ : St).get t=st1.get t from rfl,(ZaI bx t).1,if_pos e1]
  .rw[if_neg e1];have e3:(⟨ak.env,hins ak.heap (a.dst.getD 0) ba⟩ : St).get t=ak.get t:=rfl;rw[e3,(ZaI bg t).1];split
   .rfl
   .rw[show (⟨st1.env,hrep st1.heap e bb⟩ : St).get t=st1.get t from rfl,g1 t e1];rfl
 .rw[(ZaI bN 0).2,(ZaI bm 0).2];simp only;rw[bM,bu,ZAb g4]
theorem ZAH{op:Op}{st:St}{c:Nat}{l:List Nat}(h:bxOk (c :: l) st op=true)(hl:isLd op=true):∀x∈ZcP op,∀id,(evo st x).says id=true->id=c:=by
 unfold bxOk at h;cases op<;>simp only[isLd]at hl<;>try (cases hl;done)
 rename_i t y;intro x hx id hs;simp only[ZcP,List.mem_singleton]at hx;subst hx;simp only at h;split at h
 .rename_i d off hq;rw[hq]at hs;simp only[V.says,C.says]at hs;rw[<-ZaO h];exact(ZaO hs).symm
 .rename_i hq;rw[hq]at hs;simp only[V.says,C.says]at hs;cases hs
 .cases h
theorem Zzn{k i e c:Nat}{l:List Nat}{a b:Oper}(ha:ops[k]?=some a)(hb:ops[i]?=some b)(d1:disj a.dst (Zfq ops b)=true)(d2:disj b.dst (Zfq ops a)=true)(d3:Zmc a.dst b.dst=true)(gn:isLd a.op=true)(cf:Zdb ra.hc k=none)(lg:Zev ah (ops.size+k)=c :: l)(eH:plOf ra i b=some e)(lh:c≠e)
  {st st1 st2:St} {o1 o2:List Prop} (h1:ZfV P N T ops ra ah ni k st=some (st1,o1)) (h2:ZfV P N T ops ra ah ni i st1=some (st2,o2)) :
  ∃ak aN,ZfV P N T ops ra ah ni i st=some (ak,o2)/\ZfV P N T ops ra ah ni k ak=some (aN,o1)/\Eqv aN st2:=by
 obtain⟨a',va,sa,cy,a6,cF,bx⟩:=ZdE h1;obtain⟨b',vb,sb,aL,bV,db,bN⟩:=ZdE h2;rw[ha]at cy;cases cy;rw[hb]at aL;cases aL;have gg:=ZeE h1 ha;rw[lg]at gg;have c1:clsX ra k a=1:=by
  rw[ZkZ cf];cases hq:a.op<;>rw[hq]at gn<;>first | (cases gn;done)|rfl
 obtain⟨ea,jy,_⟩:=ZfE (st2:=st) (by omega) (fun t _=>rfl) (fun _=>rfl) (fun _ h=>h) a6;have c9:st1.heap=st.heap:=(ZaI bx 0).2.trans (jy (by omega));have g1:∀t,a.dst≠some t->st1.get t=st.get t:=fun t ht=>by rw[(ZaI bx t).1,if_neg ht];exact Zjq ea t
 have eb:=Zmt bV;obtain⟨bb,iv,rfl,sb3,gF⟩:=ZnJ eH bV;have bW:=gF st (fun t ht=>(g1 t (ZbF d1 ht)).symm) (by rw[c9]);obtain⟨ak,bg⟩:=ZeF (st2:=⟨st.env,hrep st.heap e bb⟩) bN;have g2:∀t,b.dst≠some t->ak.get t=st.get t:=fun t ht=>by rw[(ZaI bg t).1,if_neg ht];rfl
 have bu:ak.heap=hrep st.heap e bb:=(ZaI bg 0).2;have cl:Zel P N T ops ra k a ak=some (va,o1,ak):=by
  refine ZmD c1 (fun t ht=>g2 t (ZbF d2 ht)) (fun x eI id b0 dO ce=>?_) a6;have dM:=ZAH gg gn x eI id dO;rw[bu,ZsA,if_neg (by rw[dM];exact Ne.symm lh)];exact ce
 obtain⟨aN,bm⟩:=ZeF (st2:=ak) bx;have xb:bxOk (Zev ah (ops.size+i)) st b.op=true:=by rw[ZeS (st:=st1) _ (fun t ht=>(g1 t (ZbF d1 ht)).symm)];exact ZeE h2 hb
 have xa:bxOk (Zev ah (ops.size+k)) ak a.op=true:=by rw[ZeS (st:=st) _ (fun t ht=>g2 t (ZbF d2 ht))];exact ZeE h1 ha
 refine⟨ak,aN,Zgl hb xb bW db bg,Zgl ha xa cl cF bm,⟨fun t=>?_,?_⟩⟩
 .rw[(ZaI bN t).1,(ZaI bm t).1];have hd:¬(a.dst=some t/\b.dst=some t):=by
   rintro ⟨e1,e2⟩;rw[e1,e2]at d3;simp[Zmc]at d3
  by_cases e1:a.dst=some t
  .rw[if_pos e1,if_neg (fun e2=>hd ⟨e1,e2⟩),Zjq eb,(ZaI bx t).1,if_pos e1]
  .rw[if_neg e1];rw[(ZaI bg t).1];split
   .rfl
   .rw[Zjq eb,g1 t e1];rfl
 .rw[(ZaI bN 0).2,(ZaI bm 0).2,bu];simp only;rw[c9]
theorem Zzm{k i e c:Nat}{l:List Nat}{a b:Oper}(ha:ops[k]?=some a)(hb:ops[i]?=some b)(d1:disj a.dst (Zfq ops b)=true)(d2:disj b.dst (Zfq ops a)=true)(d3:Zmc a.dst b.dst=true)(lj:isLd b.op=true)(cf:Zdb ra.hc i=none)(lk:Zev ah (ops.size+i)=c :: l)(d8:plOf ra k a=some e)(lh:c≠e)
  {st st1 st2:St} {o1 o2:List Prop} (h1:ZfV P N T ops ra ah ni k st=some (st1,o1)) (h2:ZfV P N T ops ra ah ni i st1=some (st2,o2)) :
  ∃ak aN,ZfV P N T ops ra ah ni i st=some (ak,o2)/\ZfV P N T ops ra ah ni k ak=some (aN,o1)/\Eqv aN st2:=by
 obtain⟨a',va,sa,cy,a6,cF,bx⟩:=ZdE h1;obtain⟨b',vb,sb,aL,bV,db,bN⟩:=ZdE h2;rw[ha]at cy;cases cy;rw[hb]at aL;cases aL;have gh:=ZeE h2 hb;rw[lk]at gh;have c1:clsX ra i b=1:=by
  rw[ZkZ cf];cases hq:b.op<;>rw[hq]at lj<;>first | (cases lj;done)|rfl
 obtain⟨ba,kb,rfl,sa3,gE⟩:=ZnJ d8 a6;have bM:st1.heap=hrep st.heap e ba:=(ZaI bx 0).2;have g1:∀t,a.dst≠some t->st1.get t=st.get t:=fun t ht=>by rw[(ZaI bx t).1,if_neg ht];rfl
 obtain⟨eb,kc,_⟩:=ZfE (st2:=st1) (by omega) (fun t _=>rfl) (fun _=>rfl) (fun _ h=>h) bV;have bW:Zel P N T ops ra i b st=some (vb,o2,st):=by
  refine ZmD c1 (fun t ht=>(g1 t (ZbF d1 ht)).symm) (fun x eI id b0 dO ce=>?_) bV;have dM:=ZAH gh lj x eI id dO;rw[bM,ZsA,if_neg (by rw[dM];exact Ne.symm lh)]at ce;exact ce
 obtain⟨ak,bg⟩:=ZeF (st2:=st) bN;have g2:∀t,b.dst≠some t->ak.get t=st.get t:=fun t ht=>by rw[(ZaI bg t).1,if_neg ht]
 have bu:ak.heap=st.heap:=(ZaI bg 0).2;have cl:=gE ak (fun t ht=>g2 t (ZbF d2 ht)) (by rw[bu]);obtain⟨aN,bm⟩:=ZeF (st2:=⟨ak.env,hrep ak.heap e ba⟩) bx;have xb:bxOk (Zev ah (ops.size+i)) st b.op=true:=by rw[ZeS (st:=st1) _ (fun t ht=>(g1 t (ZbF d1 ht)).symm)];exact ZeE h2 hb
 have xa:bxOk (Zev ah (ops.size+k)) ak a.op=true:=by rw[ZeS (st:=st) _ (fun t ht=>g2 t (ZbF d2 ht))];exact ZeE h1 ha
 refine⟨ak,aN,Zgl hb xb bW db bg,Zgl ha xa cl cF bm,⟨fun t=>?_,?_⟩⟩
 .rw[(ZaI bN t).1,(ZaI bm t).1];have hd:¬(a.dst=some t/\b.dst=some t):=by
   rintro ⟨e1,e2⟩;rw[e1,e2]at d3;simp[Zmc]at d3
  by_cases e1:a.dst=some t
  .rw[if_pos e1,if_neg (fun e2=>hd ⟨e1,e2⟩),Zjq eb,(ZaI bx t).1,if_pos e1]
  .rw[if_neg e1];rw[show (⟨ak.env,hrep ak.heap e ba⟩ : St).get t=ak.get t from rfl,(ZaI bg t).1];split
   .rfl
   .rw[Zjq eb,g1 t e1]
 .rw[(ZaI bN 0).2,(ZaI bm 0).2,kc (by omega),bM,bu]
theorem ZBP{T:Tab}{st st':St}{t d off:Nat}{v:V}{an:Option Ans}{obl:List Prop}(h:Zoj T st t (.one (.ptr d off)) v an=some (obl,st')):∀id,id≠d->hget st'.heap id=hget st.heap id:=by
 intro id hne;unfold Zoj at h;split at h
 .split at h
  .simp only at h;split at h
   .split at h
    .cases h;simp only[Zqs];rw[if_neg (Ne.symm hne)]
    .cases h
   .cases h
  .cases h
 .cases h
theorem ZGq{o:Oper}{i d off:Nat}{st st':St}{t:TypeId}{x y:Operand}{v:V}{obl:List Prop}(ho:o.op=.store t x y)(hx:evo st x=.one (.ptr d off))(h:Zom P N T ops ra i o st=some (v,obl,st')):∀id,id≠d->hget st'.heap id=hget st.heap id:=by
 intro id hne;unfold Zom at h;split at h
 .cases h
 .cases h;rfl
 .split at h
  .cases h
  rename_i v0 bT st0 bw;split at h
  .cases h
  split at h;rotate_left
  .cases h
  split at h;rotate_left
  .cases h
  cases h;unfold evOp at bw;simp only[ho,hx]at bw;split at bw
  .rename_i q hq;cases bw;exact ZBP hq id hne
  .cases bw
theorem ZBe{k i:Nat}(aC:okLS ops ra ah k i=true){st st1 st2:St}{o1 o2:List Prop}(h1:ZfV P N T ops ra ah ni k st=some (st1,o1))(h2:ZfV P N T ops ra ah ni i st1=some (st2,o2)) :
  ∃ak aN,ZfV P N T ops ra ah ni i st=some (ak,o2)/\ZfV P N T ops ra ah ni k ak=some (aN,o1)/\Eqv aN st2:=by
 obtain⟨a,va,sa,ha,a6,cF,bx⟩:=ZdE h1;obtain⟨b,vb,sb,hb,bV,db,bN⟩:=ZdE h2;have gg:=ZeE h1 ha;have gh:=ZeE h2 hb;unfold okLS at aC;rw[ha,hb]at aC;split at aC;rotate_left
 .cases aC
 rename_i a' b' c l d l' ea eb lg lk;cases ea;cases eb;simp only[Bool.and_eq_true,Bool.not_eq_true',Option.isNone_iff_eq_none]at aC;obtain⟨⟨⟨⟨⟨⟨⟨d1,d2⟩,d3⟩,gn⟩,ke⟩,cf⟩,hk2⟩,ll⟩:=aC;have ll:c≠d:=Nat.ne_of_beq_eq_false ll;rw[lg]at gg;rw[lk]at gh;have c1:clsX ra k a=1:=by
  rw[ZkZ cf];cases hq:a.op<;>rw[hq]at gn<;>first | (cases gn;done)|rfl
 have c2:clsX ra i b=2:=by
  rw[ZkZ hk2];cases hq:b.op<;>rw[hq]at ke<;>first | (cases ke;done)|rfl
 obtain⟨ea,jy,_⟩:=ZfE (st2:=st) (by omega) (fun t _=>rfl) (fun _=>rfl) (fun _ h=>h) a6;have c9:st1.heap=st.heap:=(ZaI bx 0).2.trans (jy (by omega));have g1:∀t,a.dst≠some t->st1.get t=st.get t:=fun t ht=>by rw[(ZaI bx t).1,if_neg ht];exact Zjq ea t
 obtain⟨eb,_,bW⟩:=ZfE (st2:=st) (by omega) (fun t ht=>(g1 t (ZbF d1 ht)).symm) (fun _=>c9.symm) (fun h=>by omega) bV;rw[if_neg (by omega)]at bW;obtain⟨ak,bg⟩:=ZeF (st2:=⟨st.env,sb.heap⟩) bN;have g2:∀t,b.dst≠some t->ak.get t=st.get t:=fun t ht=>by rw[(ZaI bg t).1,if_neg ht];rfl
 have g5:ak.heap=sb.heap:=(ZaI bg 0).2;have jz:∀id,id≠d->hget sb.heap id=hget st.heap id:=by
  intro id hne;rw[<-c9];unfold Zel at bV;rw[hk2]at bV;simp only at bV;unfold bxOk at gh;cases hq:b.op<;>rw[hq]at ke<;>try (cases ke;done)
  rename_i t x y;rw[hq]at gh;simp only at gh;split at gh
  .rename_i d' off hx;have:=ZaO gh;subst this;exact ZGq hq hx bV id hne
  .cases gh
 have cl:Zel P N T ops ra k a ak=some (va,o1,ak):=by
  refine ZmD c1 (fun t ht=>g2 t (ZbF d2 ht)) (fun x eI id bb dO aL=>?_) a6;rw[g5,jz id ?_]
  .exact aL
  rintro rfl;unfold bxOk at gg;cases hq:a.op<;>rw[hq]at gn<;>try (cases gn;done)
  rename_i t y;rw[hq]at gg eI;simp only[ZcP,List.mem_singleton]at eI;subst eI;simp only at gg;split at gg
  .rename_i d' off hx;have:=ZaO gg;subst this;simp only[hx,V.says,C.says]at dO;exact ll (ZaO dO)
  .rename_i hx;simp only[hx,V.says,C.says]at dO;cases dO
  .cases gg
 obtain⟨aN,bm⟩:=ZeF (st2:=ak) bx;have xb:bxOk (Zev ah (ops.size+i)) st b.op=true:=by rw[ZeS (st:=st1) _ (fun t ht=>(g1 t (ZbF d1 ht)).symm)];exact ZeE h2 hb
 have xa:bxOk (Zev ah (ops.size+k)) ak a.op=true:=by rw[ZeS (st:=st) _ (fun t ht=>g2 t (ZbF d2 ht))];exact ZeE h1 ha
 refine⟨ak,aN,Zgl hb xb bW db bg,Zgl ha xa cl cF bm,⟨fun t=>?_,?_⟩⟩
 .rw[(ZaI bN t).1,(ZaI bm t).1];have hd:¬(a.dst=some t/\b.dst=some t):=by
   rintro ⟨e1,e2⟩;rw[e1,e2]at d3;simp[Zmc]at d3
  by_cases e1:a.dst=some t
  .rw[if_pos e1,if_neg (fun e2=>hd ⟨e1,e2⟩),Zjq eb,(ZaI bx t).1,if_pos e1]
  .rw[if_neg e1,(ZaI bg t).1];split
   .rfl
   .rw[Zjq eb,g1 t e1];rfl
 .rw[(ZaI bN 0).2,(ZaI bm 0).2,g5]
theorem ZBf(dz:ZAT ops ra ni){k i:Nat}(aC:ZBz N ops ra ah k i=true)(hne:k≠i)(hki:k ∉ Zev ah i){st st1 st2:St}{o1 o2:List Prop}(h1:ZfV P N T ops ra ah ni k st=some (st1,o1))(h2:ZfV P N T ops ra ah ni i st1=some (st2,o2))
  (hJ:∀o,ops[i]?=some o->clsX ra i o=3->ZhP st (o.dst.getD 0) N=true) :
  ∃ak aN,ZfV P N T ops ra ah ni i st=some (ak,o2)/\ZfV P N T ops ra ah ni k ak=some (aN,o1)/\Eqv aN st2:=by
 obtain⟨a,va,sa,ha,a6,cF,bx⟩:=ZdE h1;obtain⟨b,vb,sb,hb,bV,db,bN⟩:=ZdE h2;unfold ZBz at aC;rw[Bool.or_eq_true,Bool.or_eq_true]at aC;rcases aC with (aC|aC)|aC;rotate_left
 .exact ZBe aC h1 h2
 .unfold okLC at aC;rw[ha,hb]at aC;simp only[Bool.and_eq_true]at aC;obtain⟨⟨⟨d1,d2⟩,d3⟩,aC⟩:=aC;split at aC
  .rename_i e iy iz;rw[Bool.or_eq_true]at aC;rcases aC with aC|aC
   .rw[Bool.and_eq_true]at aC;exact Zzp dz ha hb d1 d2 d3 iy aC.1 (Nat.ne_of_beq_eq_false (by simpa using aC.2)) h1 h2 hJ
   .simp only[Bool.and_eq_true,Option.isNone_iff_eq_none]at aC;obtain⟨⟨q1,q2⟩,q3⟩:=aC;split at q3
    .rename_i c l iT;exact Zzm ha hb d1 d2 d3 q1 q2 iT iy (Nat.ne_of_beq_eq_false (by simpa using q3)) h1 h2
    .cases q3
  .rename_i e iy iz;rw[Bool.or_eq_true]at aC;rcases aC with aC|aC
   .rw[Bool.and_eq_true]at aC;exact Zzo dz ha hb d1 d2 d3 aC.1 iz (Nat.ne_of_beq_eq_false (by simpa using aC.2)) hne hki h1 h2
   .simp only[Bool.and_eq_true,Option.isNone_iff_eq_none]at aC;obtain⟨⟨q1,q2⟩,q3⟩:=aC;split at q3
    .rename_i c l iT;exact Zzn ha hb d1 d2 d3 q1 q2 iT iz (Nat.ne_of_beq_eq_false (by simpa using q3)) h1 h2
    .cases q3
  .cases aC
 unfold ZJv at aC;rw[ha,hb]at aC;simp only[Bool.and_eq_true,Bool.or_eq_true]at aC;obtain⟨⟨⟨d1,d2⟩,d3⟩,d6⟩:=aC;rcases d6 with (d6|⟨hR1,hR2⟩)|⟨⟨hR1,hR2⟩,hR3⟩;rotate_left
 .exact ZBc dz ha hb d1 d2 d3 hR1 hR2 hne hki h1 h2 hJ
 .exact ZBd dz ha hb d1 d2 d3 (by rw[Bool.or_eq_true];exact hR1) (by rw[Bool.or_eq_true];exact hR2) (fun t ht=>Nat.le_of_ble_eq_true (List.all_eq_true.1 hR3 t ht)) hne hki h1 h2 hJ
 have jA:(clsX ra k a<=1/\clsX ra i b<=1)\/(clsX ra k a=0/\clsX ra i b<=3)\/(clsX ra i b=0/\clsX ra k a<=3)\/(clsX ra k a=3/\clsX ra i b=1/\∀t∈Zfq ops b,t<N)\/(clsX ra k a=1/\clsX ra i b=3/\Zvi ra i b=true):=by
  rcases d6 with (((⟨h,h'⟩|⟨h,h'⟩)|⟨h,h'⟩)|⟨⟨h,h'⟩,h''⟩)|⟨⟨h,h'⟩,h''⟩
  .exact .inl ⟨Nat.le_of_ble_eq_true h,Nat.le_of_ble_eq_true h'⟩
  .exact .inr (.inl ⟨ZaO h,Nat.le_of_ble_eq_true h'⟩)
  .exact .inr (.inr (.inl ⟨ZaO h,Nat.le_of_ble_eq_true h'⟩))
  .exact .inr (.inr (.inr (.inl ⟨ZaO h,ZaO h',fun t ht=>Nat.le_of_ble_eq_true (List.all_eq_true.1 h'' t ht)⟩)))
  .exact .inr (.inr (.inr (.inr ⟨ZaO h,ZaO h',h''⟩)))
 -- k at st
 obtain⟨ea,jy,_⟩:=ZfE (st2:=st) (by omega) (fun t _=>rfl) (fun _=>rfl) (fun _ h=>h) a6;have c9:clsX ra k a<=1->st1.heap=st.heap:=fun h=>(ZaI bx 0).2.trans (jy h);have g1:∀t,a.dst≠some t->st1.get t=st.get t:=fun t ht=>by rw[(ZaI bx t).1,if_neg ht];exact Zjq ea t
 -- i at st
 have hkc:clsX ra k a<=3:=by omega
 have hic:clsX ra i b<=3:=by omega
 obtain⟨eb,kc,bW⟩ : sb.env=st1.env/\(clsX ra i b<=1->sb.heap=st1.heap)/\Zel P N T ops ra i b st=some (vb,o2,⟨st.env,if clsX ra i b<=1 then st.heap else sb.heap⟩):=by
  by_cases hx:clsX ra k a=3/\clsX ra i b=1
  .obtain⟨e1,e2,_⟩:=ZfE (st2:=st1) (by omega) (fun t _=>rfl) (fun _=>rfl) (fun _ h=>h) bV;refine⟨e1,e2,?_⟩;rw[if_pos (by omega)];have hN:∀t∈Zfq ops b,t<N:=by
    rcases jA with h|h|h|h|h
    .omega
    .omega
    .omega
    .exact h.2.2
    .omega
   refine ZmD hx.2 (fun t ht=>(g1 t (ZbF d1 ht)).symm) (fun x eI id bb dO aL=>?_) bV;rw[(ZaI bx 0).2]at aL;rcases Zxf hx.1 a6 with rfl|⟨hq,hn⟩
   .exact aL
   .rcases hn id bb aL with rfl|h
    .exfalso;have:(evo st1 x).says (a.dst.getD 0)=false:=by
      cases x with
      |tmp t=>
       have ht:t∈Zfq ops b:=List.mem_append.2 (.inl (ZqO eI));show (st1.get t).says _=false;rw[g1 t (ZbF d1 ht)];exact Zql (ZdF hq).1 t (hN t ht)
      |const v=>exact Zxi v _
      |func f=>rfl
      |global g=>rfl
     simp only[this]at dO;cases dO
    .exact h
  .exact ZfE (st2:=st) (by omega) (fun t ht=>(g1 t (ZbF d1 ht)).symm) (fun h=>(c9 (by omega)).symm) (fun hc hq=>by
    obtain⟨_,q2⟩:=ZdF hq;refine ZnH (hJ b hb hc) ?_;rw[<-c9 (by omega)];exact q2) bV
 obtain⟨ak,bg⟩:=ZeF (st2:=⟨st.env,if clsX ra i b<=1 then st.heap else sb.heap⟩) bN;have xb:bxOk (Zev ah (ops.size+i)) st b.op=true:=by rw[ZeS (st:=st1) _ (fun t ht=>(g1 t (ZbF d1 ht)).symm)];exact ZeE h2 hb
 have bU:=Zgl (ah:=ah) (ni:=ni) hb xb bW db bg;have g2:∀t,b.dst≠some t->ak.get t=st.get t:=fun t ht=>by rw[(ZaI bg t).1,if_neg ht];rfl
 have g5:clsX ra i b<=1->ak.heap=st.heap:=fun h=>by rw[(ZaI bg 0).2];simp only[if_pos h]
 -- k behind i
 have cl:Zel P N T ops ra k a ak=some (va,o1,⟨ak.env,if clsX ra k a<=1 then ak.heap else sa.heap⟩):=by
  by_cases hx:clsX ra k a=1/\clsX ra i b=3
  .rw[if_pos (by omega)];have kN:Zvi ra i b=true:=by
    rcases jA with h|h|h|h|h
    .omega
    .omega
    .omega
    .omega
    .exact h.2.2
   refine ZmD hx.1 (fun t ht=>g2 t (ZbF d2 ht)) (fun x eI id bb dO aL=>?_) a6;rw[(ZaI bg 0).2];simp only[if_neg (show ¬clsX ra i b<=1 by omega)];have:=ZzN hx.2 kN bW id bb aL;simpa only[if_neg (show ¬clsX ra i b<=1 by omega)]using this
  .refine(ZfE (st2:=ak) (by omega) (fun t ht=>g2 t (ZbF d2 ht)) (fun h=>g5 (by omega)) (fun hc hq=>by
    obtain⟨q1,q2⟩:=ZdF hq;refine ZnH (ZjZ (st1:=⟨st.env,if clsX ra i b<=1 then st.heap else sb.heap⟩) q1 (fun t=>rfl) (ZpG db (dz k a ha hc) hne hki) bg) ?_;rw[g5 (by omega)];exact q2) a6).2.2
 obtain⟨aN,bm⟩:=ZeF (st2:=⟨ak.env,if clsX ra k a<=1 then ak.heap else sa.heap⟩) bx;have xa:bxOk (Zev ah (ops.size+k)) ak a.op=true:=by rw[ZeS (st:=st) _ (fun t ht=>g2 t (ZbF d2 ht))];exact ZeE h1 ha
 refine⟨ak,aN,bU,Zgl ha xa cl cF bm,⟨fun t=>?_,?_⟩⟩
 .rw[(ZaI bN t).1,(ZaI bm t).1];have hd:¬(a.dst=some t/\b.dst=some t):=by
   rintro ⟨e1,e2⟩;rw[e1,e2]at d3;simp[Zmc]at d3
  by_cases e1:a.dst=some t
  .rw[if_pos e1,if_neg (fun e2=>hd ⟨e1,e2⟩),Zjq eb,(ZaI bx t).1,if_pos e1]
  .rw[if_neg e1];have e3:(⟨ak.env,if clsX ra k a<=1 then ak.heap else sa.heap⟩ : St).get t=ak.get t:=rfl;rw[e3,(ZaI bg t).1];split
   .rfl
   .rw[Zjq eb,g1 t e1];rfl
 .rw[(ZaI bN 0).2,(ZaI bm 0).2];simp only;by_cases c1:clsX ra k a<=1
  .rw[if_pos c1,(ZaI bg 0).2];simp only;by_cases c2:clsX ra i b<=1
   .rw[if_pos c2,kc c2,c9 c1]
   .rw[if_neg c2]
  .rw[if_neg c1,kc (by omega),(ZaI bx 0).2]
theorem Zzl{k i:Nat}(aC:okLM ops ra k i=true){st st1 st2:St}{o1 o2:List Prop}(h1:ZfV P N T ops ra ah ni k st=some (st1,o1))(h2:ZfV P N T ops ra ah ni i st1=some (st2,o2)) :
  ∃ak aN iA,ZfV P N T ops ra ah ni i st=some (ak,o2)/\ZfV P N T ops ra ah ni k ak=some (aN,iA)/\Eqv aN st2/\((∀q∈o1++o2,q)->∀q∈iA,q):=by
 obtain⟨a,va,sa,ha,a6,cF,bx⟩:=ZdE h1;obtain⟨b,vb,sb,hb,bV,db,bN⟩:=ZdE h2;have xa0:=ZeE h1 ha;have xb0:=ZeE h2 hb;unfold okLM at aC;rw[ha,hb]at aC;simp only at aC;split at aC;rotate_left
 .cases aC
 rename_i t x y t' x' y' hao hbo;simp only[Bool.and_eq_true,Option.isNone_iff_eq_none,List.isEmpty_iff]at aC;obtain⟨⟨⟨⟨⟨⟨⟨⟨⟨⟨⟨⟨⟨⟨⟨ht,hx⟩,hy⟩,d1⟩,d2⟩,d3⟩,ga⟩,gb⟩,cf⟩,hk2⟩,b1⟩,b2⟩,n1⟩,n2⟩,r1⟩,r2⟩:=aC;obtain rfl:=Nat.eq_of_beq_eq_true ht;have sT:∀{u v:Operand},ZxO u v=true->∃n,u=.tmp n/\v=.tmp n:=fun{u v} h=>by
  cases u<;>cases v<;>simp only[ZxO]at h<;>(try (cases h;done))
  exact⟨_,rfl,by rw[Nat.eq_of_beq_eq_true h]⟩
 obtain⟨x,rfl,rfl⟩:=sT hx;obtain⟨y,rfl,rfl⟩:=sT hy;have eL:∀s:St,Zel P N T ops ra k a s=(ZiB P T s t (s.get x) (s.get y) false (Zdb ra.an k)).map fun p=>(p.1,p.2,s):=fun s=>by
  unfold Zel;rw[cf];simp only[Zom,ZgM,ga,evOp,hao];have e:∀z,evo s (.tmp z)=s.get z:=fun z=>rfl;rw[e,e];cases ZiB P T s t (s.get x) (s.get y) false (Zdb ra.an k)with
  |none=>rfl
  |some p=>simp only[b1,ZyO,n1,dnV,r1,rlV,Option.map_some]
 have eM:∀s:St,Zel P N T ops ra i b s=Ziu P T s t (s.get x) (s.get y) (Zdb ra.an i):=fun s=>by
  unfold Zel;rw[hk2];simp only[Zom,ZgM,gb,evOp,hbo];have e:∀z,evo s (.tmp z)=s.get z:=fun z=>rfl;rw[e,e];cases Ziu P T s t (s.get x) (s.get y) (Zdb ra.an i)with
  |none=>rfl
  |some p=>simp only[b2,ZyO,n2,dnV,r2,rlV]
 rw[eL]at a6;rw[eM]at bV;have ux:x∈Zfq ops b/\y∈Zfq ops b:=by unfold Zfq;rw[hbo];simp[ZcP,ZtI]
 have uxa:x∈Zfq ops a/\y∈Zfq ops a:=by unfold Zfq;rw[hao];simp[ZcP,ZtI]
 simp only[Option.map_eq_some_iff,Prod.mk.injEq]at a6;obtain⟨p,hp,rfl,rfl,rfl⟩:=a6;obtain⟨va,o1⟩:=p;simp only at hp cF bx;have g1:∀n,a.dst≠some n->st1.get n=st.get n:=fun n hn=>by rw[(ZaI bx n).1,if_neg hn]
 have c9:st1.heap=st.heap:=(ZaI bx 0).2;rw[g1 x (ZbF d1 ux.1),g1 y (ZbF d1 ux.2)]at bV
 -- the entry
 unfold Ziu at bV;split at bV;rotate_left
 .cases bV
 rename_i kt vt id kt' l kv ik j z0 l' dU dV eE han;split at bV;rotate_left
 .cases bV
 rename_i z hz fh;cases bV;have iB:Zre st (st.get x)=some (id,kt',l):=by unfold Zre at dV ⊢;rw[c9]at dV;exact dV
 obtain⟨k4,hl⟩:=Zpe iB
 -- the look
 unfold ZiB at hp;rw[dU,iB,eE]at hp;split at hp;rotate_left
 .cases hp
 rename_i kt0 vt0 _ _ l0 kv0 v0 fz0 e1 e2 e3 e4 e5;cases e2;cases e3;cases e4;rw[hz]at hp;cases hp;have lm:Ziu P T st t (st.get x) (st.get y) (Zdb ra.an i)=some (.tup [(false,[.junk]),(false,[.lit (.int .i64 j)])],[Znd P kt kv (kv :: l.map (·.1)),MEnt l kv z j l'],{ st with heap:=hset st.heap id (.map kt' l') }):=by
  unfold Ziu;rw[dU,iB,eE,han];simp only[hz,fh]
 obtain⟨ak,bg⟩:=ZeF (st2:=⟨st.env,hset st.heap id (.map kt' l')⟩) bN;have g2:∀n,b.dst≠some n->ak.get n=st.get n:=fun n hn=>by rw[(ZaI bg n).1,if_neg hn];rfl
 have g5:ak.heap=hset st.heap id (.map kt' l'):=(ZaI bg 0).2;have ln:ZiB P T ak t (ak.get x) (ak.get y) false (Zdb ra.an k)=some (va,[Znd P kt kv (l'.map (·.1)),Zwr l' kv z va]):=by
  rw[g2 x (ZbF d2 uxa.1),g2 y (ZbF d2 uxa.2)];have hm2:Zre ak (st.get x)=some (id,kt',l'):=by
   unfold Zre;rw[k4,g5];simp only[Zqs,if_true]
  unfold ZiB;rw[dU,hm2,eE,e5];simp only[hz]
 have xb:bxOk (Zev ah (ops.size+i)) st b.op=true:=by rw[ZeS (st:=st1) _ (fun n hn=>(g1 n (ZbF d1 hn)).symm)];exact xb0
 have xa:bxOk (Zev ah (ops.size+k)) ak a.op=true:=by rw[ZeS (st:=st) _ (fun n hn=>g2 n (ZbF d2 hn))];exact xa0
 have bU:=Zgl (ah:=ah) (ni:=ni) hb xb ((eM st).trans lm) db bg;obtain⟨aN,bm⟩:=ZeF (st2:=ak) bx;have iX:=Zgl (ah:=ah) (ni:=ni) ha xa ((eL ak).trans (by rw[ln];rfl)) cF bm;refine⟨ak,aN,_,bU,iX,⟨fun n=>?_,?_⟩,fun hq q hqm=>?_⟩
 .rw[(ZaI bN n).1,(ZaI bm n).1];have hd:¬(a.dst=some n/\b.dst=some n):=by
   rintro ⟨e1,e2⟩;rw[e1,e2]at d3;simp[Zmc]at d3
  by_cases e1:a.dst=some n
  .rw[if_pos e1,if_neg (fun e2=>hd ⟨e1,e2⟩)];show st1.get n=va;rw[(ZaI bx n).1,if_pos e1]
  .rw[if_neg e1,(ZaI bg n).1];split
   .rfl
   .show st1.get n=st.get n;exact g1 n e1
 .rw[(ZaI bN 0).2,(ZaI bm 0).2,g5];show hset st1.heap id (.map kt' l')=_;rw[c9]
 .have q1:Zwr l kv z va:=hq _ (by simp);have q2:Znd P kt kv (kv :: l.map (·.1)):=hq _ (by simp);have q3:MEnt l kv z j l':=hq _ (by simp);simp only[List.mem_cons,List.not_mem_nil,or_false]at hqm;rcases hqm with rfl|rfl
  .exact q2.sub q3.keys
  .exact q1.ent q3
theorem ZEm(dz:ZAT ops ra ni){k i:Nat}(aC:Zpc N ops ra ah k i=true)(hne:k≠i)(hki:k ∉ Zev ah i){st st1 st2:St}{o1 o2:List Prop}(h1:ZfV P N T ops ra ah ni k st=some (st1,o1))(h2:ZfV P N T ops ra ah ni i st1=some (st2,o2))
  (hJ:∀o,ops[i]?=some o->clsX ra i o=3->ZhP st (o.dst.getD 0) N=true) :
  ∃ak aN iA,ZfV P N T ops ra ah ni i st=some (ak,o2)/\ZfV P N T ops ra ah ni k ak=some (aN,iA)/\Eqv aN st2/\((∀q∈o1++o2,q)->∀q∈iA,q):=by
 unfold Zpc at aC;rw[Bool.or_eq_true]at aC;rcases aC with aC|aC
 .obtain⟨a,b,h3,h4,h5⟩:=ZBf dz aC hne hki h1 h2 hJ;exact⟨a,b,o1,h3,h4,h5,fun h q hq=>h q (List.mem_append.2 (.inl hq))⟩
 .exact Zzl aC h1 h2
theorem ZFG{i:Nat}{st st2 st':St}{obl:List Prop}(hcls:∀o,ops[i]?=some o->ZtS ra i o=true)(he:Eqv st st2)(h:ZfV P N T ops ra ah ni i st=some (st',obl)):∃aN,ZfV P N T ops ra ah ni i st2=some (aN,obl)/\Eqv st' aN:=by
 obtain⟨o,v,s1,ho,hr,hc,hp⟩:=ZdE h;have e1:=Zmt hr;obtain⟨jB,fm,hph⟩:=ZEI (hcls o ho) he hr;obtain⟨aN,bm⟩:=ZeF (st2:=⟨st2.env,jB⟩) hp;refine⟨aN,Zgl ho (by rw[ZeS (ops:=ops) (st:=st) _ (fun t _=>he.env t)];exact ZeE h ho) fm hc bm,fun t=>?_,?_⟩
 .rw[(ZaI hp t).1,(ZaI bm t).1];split
  .rfl
  .rw[Zjq e1];exact he.env t
 .rw[(ZaI hp 0).2,(ZaI bm 0).2];exact hph
theorem ZAl:∀{l:List Nat}{st st2 st':St}{obl:List Prop},(∀i∈l,∀o,ops[i]?=some o->ZtS ra i o=true)->Eqv st st2->Zro P N T ops ra ah ni l st=some (st',obl)->∃aN,Zro P N T ops ra ah ni l st2=some (aN,obl)/\Eqv st' aN
 | [],st,st2,st',obl,hcls,he,h=>by cases h;exact⟨st2,rfl,he⟩
 |i :: l,st,st2,st',obl,hcls,he,h=>by
  simp only[Zro]at h
  split at h
  .cases h
  rename_i s1 o1 h1
  split at h
  .cases h
  rename_i s2 o2 h2
  cases h
  obtain⟨s1',h3,h4⟩:=ZFG (hcls i (by simp)) he h1
  obtain⟨s2',h5,h6⟩:=ZAl (fun j hj=>hcls j (by simp[hj])) h4 h2
  exact⟨s2',by simp only[Zro,h3,h5],h6⟩
theorem ZrT(dz:ZAT ops ra ni){i:Nat}{post:List Nat}:∀{dN:List Nat}{st F:St}{obl:List Prop},(∀k∈dN++post,∀o,ops[k]?=some o->ZtS ra k o=true)->(∀k∈dN,Zpc N ops ra ah k i=true/\k≠i/\k ∉ Zev ah i/\i ∉ Zev ah k) ->
  (∀o,ops[i]?=some o->clsX ra i o=3->ZhP st (o.dst.getD 0) N=true)->Zro P N T ops ra ah ni (dN++i :: post) st=some (F,obl) ->
  ∃st1 oi F' o',ZfV P N T ops ra ah ni i st=some (st1,oi)/\Zro P N T ops ra ah ni (dN++post) st1=some (F',o')/\Eqv F F'/\((∀q∈obl,q)->∀q∈oi++o',q)
 | [],st,F,obl,hcls,hp,hJ,h=>by
  simp only[List.nil_append,Zro]at h
  split at h
  .cases h
  rename_i s1 o1 h1
  split at h
  .cases h
  rename_i s2 o2 h2
  cases h
  exact⟨s1,o1,_,o2,h1,h2,Eqv.refl _,fun h q hq=>h q hq⟩
 |k :: dN,st,F,obl,hcls,hp,hJ,h=>by
  simp only[List.cons_append,Zro]at h
  split at h
  .cases h
  rename_i s1 o1 h1
  split at h
  .cases h
  rename_i s2 o2 h2
  cases h
  obtain⟨aC,hne,hki,hik⟩:=hp k (by simp)
  obtain⟨a,va,sa,ha,a6,cF,bx⟩:=ZdE h1
  have hJ1:∀o,ops[i]?=some o->clsX ra i o=3->ZhP s1 (o.dst.getD 0) N=true:=fun o ho hc=>by
   have ea:=Zmt a6
   exact ZjZ (hJ o ho hc) (Zjq ea) (ZpG cF (dz i o ho hc) (Ne.symm hne) hik) bx
  obtain⟨t1,oi,F1,o',h3,h4,h5,h6⟩:=ZrT dz (fun j hj=>hcls j (List.mem_cons_of_mem _ hj)) (fun k' hk'=>hp k' (by simp[hk'])) hJ1 h2
  obtain⟨t1',t2',iA,h7,h8,h9,h12⟩:=ZEm dz aC hne hki h1 h3 hJ
  obtain⟨F2,kf,g6⟩:=ZAl (l:=dN++post) (fun j hj=>hcls j (List.mem_cons_of_mem _ hj)) (st:=t1) (st2:=t2') ⟨fun t=>(h9.env t).symm,h9.heap.symm⟩ h4
  refine⟨t1',oi,F2,iA++o',h7,by simp only[List.cons_append,Zro,h8,kf],h5.trans g6,fun bJ q hq=>?_⟩
  have h6':=h6 fun q hq=>bJ q (List.mem_append.2 (.inr hq))
  rcases List.mem_append.1 hq with hq|hq
  .exact h6' q (List.mem_append.2 (.inl hq))
  .rcases List.mem_append.1 hq with hq|hq
   .refine h12 (fun q hq=>?_) q hq
    rcases List.mem_append.1 hq with hq|hq
    .exact bJ q (List.mem_append.2 (.inl hq))
    .exact h6' q (List.mem_append.2 (.inl hq))
   .exact h6' q (List.mem_append.2 (.inr hq))
end
end Go.Proofs.YtmnloegcpaahcaaGreat
