import Derived.Test.YtmnloegcpaahcaaGreatCAmQ
namespace Go.Proofs.YtmnloegcpaahcaaGreat
open Go.RowKit
set_option linter.unusedSimpArgs false
set_option linter.unusedVariables false
def ZtT:List Operand->List Nat | []=>[] | .tmp t :: l=>t :: ZtT l|_ :: l=>ZtT l
def ZfT(ops:Array Oper)(o:Oper):List Nat:=ZtT (Zcw o.op)++match o.guard with
 |none=>[]
 |some (j,_)=>match (ops[j]?).bind (·.dst)with
  |some t=>[t]
  |none=>[]
theorem ZqS{t:Nat}:∀{l:List Operand},Operand.tmp t∈l->t∈ZtT l
 | [],h=>by cases h
 |x :: l,h=>by
  rcases List.mem_cons.1 h with rfl|h
  .simp[ZtT]
  .have:=ZqS h
   cases x<;>simp[ZtT,this]
theorem Zmq{st st2:St}{ops:Array Oper}{o:Oper}(h:∀t∈ZfT ops o,st2.get t=st.get t):∀x∈Zcw o.op,evo st2 x=evo st x:=by
 intro x hx;cases x with
 |tmp t=>exact h t (List.mem_append.2 (.inl (ZqS hx)))
 |_=>rfl
theorem ZlI{st st2:St}{ops:Array Oper}{o:Oper}(h:∀t∈ZfT ops o,st2.get t=st.get t):ZgX ops st2 o=ZgX ops st o:=by
 unfold ZgX;split
 .rfl
 .rename_i j want hg;split
  .rename_i t ht;rw[h t (by unfold ZfT;rw[hg];simp[ht])]
  .rfl
theorem Zre{P:Program}{N:Nat}{T:Tab}{st:St}{o:Oper}{ra:RA}{i:Nat}{p:V×List Prop×St}(hc:Zfr ra i o.op=3)(h:evOp P N T o st (ZcR ra.an i)=some p):ZdI N (o.dst.getD 0) st=true:=by
 obtain⟨dst,op,type,dx,after,guard⟩:=o;simp only at hc;have bR:∀{l},ZqL N st (dst.getD 0) l=some p->ZdI N (dst.getD 0) st=true:=by
  intro l hb;unfold ZqL at hb;split at hb
  .assumption
  .cases hb
 cases op<;>(try (simp only[Zfr]at hc))<;>(try (exact absurd hc (by decide)))
 case move x=>split at hc<;>cases hc
 case assign x=>split at hc<;>cases hc
 case alloc e=>
  simp only[evOp]at h
  repeat' split at h
  all_goals first | (cases h;done)|exact bR h
 case box e x=>
  simp only[evOp]at h
  repeat' split at h
  all_goals first | (cases h;done)|exact bR h
 case makeSlice t l c=>
  split at hc
  .cases hc
  rename_i hx;simp only[evOp]at h;split at h
  .rename_i hk;exact absurd hk (hx _ _)
  .cases h
  unfold ZmU at h
  repeat' split at h
  all_goals first | (cases h;done)|assumption
 case buildSlice t n ps=>
  split at hc
  .rename_i n' c' bg;simp only[evOp]at h;unfold ZfC at h;rw[bg]at h
   repeat' split at h
   all_goals first | (cases h;done)|assumption | (rename_i hx;exact absurd rfl (hx _ _))
  .cases hc
 case call c=>
  obtain⟨callee,args,a9⟩:=c;cases callee with
  |value f=>simp only[Zfr]at hc;cases hc
  |invoke r n=>simp only[Zfr]at hc;cases hc
  |builtin b=>
   cases b<;>(try (simp only[Zfr]at hc))<;>(try (exact absurd hc (by decide)))
   case append=>
    split at hc
    .cases hc
    rename_i bg;simp only[evOp]at h;split at h;rotate_left
    .cases h
    split at h;rotate_left
    .cases h
    unfold ZjW at h
    repeat' split at h
    all_goals first | (cases h;done)|assumption
theorem ZBp{P:Program}{N:Nat}{T:Tab}{ops:Array Oper}{ra:RA}{i:Nat}{o:Oper}{st st1 st2:St}{v:V}{obl:List Prop}(hc:Zfr ra i o.op<=3)(hu:∀t∈ZfT ops o,st2.get t=st.get t)
  (hh:Zfr ra i o.op≠0->st2.heap=st.heap) (hq:Zfr ra i o.op=3->ZdI N (o.dst.getD 0) st=true->ZdI N (o.dst.getD 0) st2=true) (h:Znb P N T ops ra i o st=some (v,obl,st1)) :
  st1.env=st.env/\(Zfr ra i o.op<=1->st1.heap=st.heap)/\Znb P N T ops ra i o st2=some (v,obl,⟨st2.env,if Zfr ra i o.op<=1 then st2.heap else st1.heap⟩):=by
 unfold Znb at h ⊢;rw[ZlI hu];split at h
 .cases h
 .cases h;refine⟨rfl,fun _=>rfl,?_⟩;split
  .rfl
  .rename_i bN;rw[<-hh (by omega)]
 .have he:=Zmq hu;split at h
  .cases h
  rename_i v0 cj st0 bf;split at h
  .cases h
  rename_i v' obl' hd;split at h;rotate_left
  .cases h
  rename_i v'' eF;split at h;rotate_left
  .cases h
  rename_i v3 obl3 d7;cases h;refine⟨ZDt bf,?_⟩;have eG:Zfr ra i o.op=0\/Zfr ra i o.op=1\/Zfr ra i o.op=2\/Zfr ra i o.op=3:=by omega
  rcases eG with bN|bN|bN|bN
  .have e1:=ZJt (P:=P) (N:=N) (T:=T) (st:=st) (st2:=st) bN (fun x _=>rfl);have e2:=ZJt (P:=P) (N:=N) (T:=T) (st:=st) (st2:=st2) bN he;rw[bf]at e1 e2;simp only[Option.map_some,Option.some.injEq,Prod.mk.injEq,true_and]at e1;subst e1;refine⟨fun _=>rfl,?_⟩;rw[e2];simp only[Option.map_some,hd,eF,d7,bN];rfl
  .have e1:=ZJu (P:=P) (N:=N) (T:=T) (st:=st) (st2:=st) bN (fun x _=>rfl) rfl;have e2:=ZJu (P:=P) (N:=N) (T:=T) (st:=st) (st2:=st2) bN he (hh (by omega));rw[bf]at e1 e2;simp only[Option.map_some,Option.some.injEq,Prod.mk.injEq,true_and]at e1;subst e1;refine⟨fun _=>rfl,?_⟩;rw[e2];simp only[Option.map_some,hd,eF,d7,bN];rfl
  .have e2:=ZLf (P:=P) (N:=N) (T:=T) (st:=st) (st2:=st2) bN he (hh (by omega));rw[bf]at e2;refine⟨fun h=>by omega,?_⟩;rw[e2];simp only[Option.map_some,hd,eF,d7,bN];rfl
  .have hqq:=Zre bN bf;have e2:=ZLg (P:=P) (N:=N) (T:=T) (st:=st) (st2:=st2) bN he (hh (by omega)) ((hq bN hqq).trans hqq.symm);rw[bf]at e2;refine⟨fun h=>by omega,?_⟩;rw[e2];simp only[Option.map_some,hd,eF,d7,bN];rfl
theorem ZEp{P:Program}{N:Nat}{T:Tab}{ops:Array Oper}{ra:RA}{i:Nat}{o:Oper}{st st1 st2:St}{v:V}{obl:List Prop}(hc:Zfr ra i o.op=1)(hu:∀t∈ZfT ops o,st2.get t=st.get t)
  (hm:∀x∈Zcw o.op,Has st st2 fun id=>(evo st x).says id) (h:Znb P N T ops ra i o st=some (v,obl,st1)):Znb P N T ops ra i o st2=some (v,obl,st2):=by
 unfold Znb at h ⊢;rw[ZlI hu];split at h
 .cases h
 .cases h;rfl
 .have he:=Zmq hu;split at h
  .cases h
  rename_i v0 cj st0 bf;split at h
  .cases h
  rename_i v' obl' hd;split at h;rotate_left
  .cases h
  rename_i v'' eF;split at h;rotate_left
  .cases h
  rename_i v3 obl3 d7;cases h;have e2:=ZLh (P:=P) (N:=N) (T:=T) (st:=st) (st2:=st2) hc he hm bf;simp only[e2,hd,eF,d7]
theorem ZGf{P:Program}{N:Nat}{T:Tab}{ops:Array Oper}{ra:RA}{i:Nat}{o:Oper}{st st1:St}{v:V}{obl:List Prop}(hc:Zfr ra i o.op=3)(h:Znb P N T ops ra i o st=some (v,obl,st1)) :
  st1=st\/(ZdI N (o.dst.getD 0) st=true/\∀id b,hget st1.heap id=some b->id=o.dst.getD 0\/hget st.heap id=some b):=by
 unfold Znb at h;split at h
 .cases h
 .cases h;exact .inl rfl
 .split at h
  .cases h
  rename_i v0 cj st0 bf;split at h
  .cases h
  split at h;rotate_left
  .cases h
  split at h;rotate_left
  .cases h
  cases h;exact .inr ⟨Zre hc bf,ZBL hc bf⟩
theorem ZcY{N:Nat}{st:St}{d:Nat}(h:ZdI N d st=true):Zia st d N=true/\ZhI d st.heap=true:=by
 unfold ZdI at h;split at h
 .rename_i h1;exact⟨h1,h⟩
 .cases h
theorem ZBq{P:Program}{N:Nat}{T:Tab}{ops:Array Oper}{ra:RA}{i:Nat}{o:Oper}{st st1:St}{v:V}{obl:List Prop}(hc:Zfr ra i o.op=3)(hk:ZCS o.op=true)(h:Znb P N T ops ra i o st=some (v,obl,st1)) :
  ∀id b,hget st.heap id=some b->hget st1.heap id=some b:=by
 unfold Znb at h;split at h
 .cases h
 .cases h;exact fun _ _ h=>h
 .split at h
  .cases h
  rename_i v0 cj st0 bf;split at h
  .cases h
  split at h;rotate_left
  .cases h
  split at h;rotate_left
  .cases h
  cases h;exact ZAd hc hk (ZiE (ZcY (Zre hc bf)).2).1 bf
def Zhf(o:Oper)(ha:HA):Bool:=match ha.lend,ha.new,ha.h1,o.guard with
 | [],[(c,d)],[(c',.rows _ _ _ _)],none=>Nat.beq d (o.dst.getD 0)&&Nat.beq c c'&&Nat.beq c 99999
 |_,_,_,_=>false
def clsX(ra:RA)(i:Nat)(o:Oper):Nat:=match ZcR ra.hc i with
 |none=>Zfr ra i o.op
 |some ha=>match Zhf o ha with
  |true=>3
  |false=>match ZcR ra.hc (i+1000)with
   |some _=>5
   |none=>match ha.new with
    | []=>2
    |_ :: _=>4
def Zvp(ra:RA)(i:Nat)(o:Oper):Bool:=match ZcR ra.hc i with
 |none=>ZCS o.op
 |some _=>true
def ZeC(P:Program)(N:Nat)(ops:Array Oper)(ha:HA)(an:Option Ans)(o:Oper)(st:St):Option (V×List Prop×St):=match ZgX ops st o with
 |some true=>match o.op with
  | .call { callee:=c,args:=args,argTypes:=_ }=>ZgZ P N st c args.toList ha an
  |_=>none
 |some false=>some (.one (.lit undef),[],st)
 |none=>none
def ZhJ(P:Program)(N:Nat)(ops:Array Oper)(ha:HA)(an:Option Ans)(o:Oper)(st:St):Option (V×List Prop×St):=match ZgX ops st o with
 |some true=>match o.op with
  | .call { callee:=c,args:=args,argTypes:=_ }=>Zhw P N st c args.toList ha an
  |_=>none
 |some false=>some (.one (.lit undef),[],st)
 |none=>none
def ZdJ(P:Program)(N:Nat)(T:Tab)(ops:Array Oper)(ra:RA)(i:Nat)(o:Oper)(st:St):Option (V×List Prop×St):=match ZcR ra.hc i with
 |none=>Znb P N T ops ra i o st
 |some ha=>match ZcR ra.hc (i+1000)with
  |none=>ZeC P N ops ha (ZcR ra.an i) o st
  |some _=>ZhJ P N ops ha (ZcR ra.an i) o st
theorem ZEo{P:Program}{N:Nat}{T:Tab}{ops:Array Oper}{ra:RA}{i:Nat}{o:Oper}{st st1 st2:St}{v:V}{obl:List Prop}(h:ZdJ P N T ops ra i o st=some (v,obl,st1))(hp:putO N st1 o.dst v=some st2):Zto P N T ops ra i o st=some (st2,obl):=by
 unfold ZdJ at h;unfold Zto;split at h
 .rename_i hk;rw[hk];simp only;unfold ZCR;simp only[h,hp]
 .rename_i ha hk;rw[hk];simp only;split at h
  .unfold ZeC at h;unfold ZzB;split at h
   .split at h
    .rename_i h1 _ c args a9 bO;simp only[h1,bO,ZvZ (Zwa h),hp]
    .cases h
   .rename_i h1;cases h;simp only[h1,hp]
   .cases h
  .unfold ZhJ at h;unfold ZzB;split at h
   .split at h
    .rename_i h1 _ c args a9 bO;simp only[h1,bO,ZvZ h,hp]
    .cases h
   .rename_i h1;cases h;simp only[h1,hp]
   .cases h
theorem ZrW{P:Program}{N:Nat}{st st1:St}{c:Callee}{args:List Operand}{ha:HA}{an:Option Ans}{v:V}{obl:List Prop}(h:ZgZ P N st c args ha an=some (v,obl,st1)):st1.env=st.env:=by
 unfold ZgZ at h;split at h
 .split at h
  .cases h;rfl
  .cases h
 .cases h
theorem ZAi{P:Program}{N:Nat}{st st1:St}{c:Callee}{args:List Operand}{ha:HA}{an:Option Ans}{v:V}{obl:List Prop}(h:Zhw P N st c args ha an=some (v,obl,st1)):st1.env=st.env:=by
 unfold Zhw at h;split at h
 .rename_i r hr;cases h;exact ZrW hr
 .unfold ZkT at h;split at h
  .split at h
   .split at h
    .cases h;rfl
    .cases h
   .cases h
  .cases h
theorem ZqX{P:Program}{N:Nat}{T:Tab}{ops:Array Oper}{ra:RA}{i:Nat}{o:Oper}{st st1:St}{v:V}{obl:List Prop}(h:ZdJ P N T ops ra i o st=some (v,obl,st1)):st1.env=st.env:=by
 unfold ZdJ at h;split at h
 .unfold Znb at h;split at h
  .cases h
  .cases h;rfl
  .split at h
   .cases h
   rename_i v0 cj st0 bf;split at h
   .cases h
   split at h;rotate_left
   .cases h
   split at h;rotate_left
   .cases h
   cases h;exact ZDt bf
 .split at h
  .unfold ZeC at h;split at h
   .split at h
    .exact ZrW h
    .cases h
   .cases h;rfl
   .cases h
  .unfold ZhJ at h;split at h
   .split at h
    .exact ZAi h
    .cases h
   .cases h;rfl
   .cases h
theorem ZjZ{P:Program}{st st2:St}{c:Callee}{args:Array Operand}{a9:Array TypeId}{an:Option Ans}(h:∀x∈Zcw (.call { callee:=c,args:=args,argTypes:=a9 }),evo st2 x=evo st x):Zlr P st2 c an=Zlr P st c an:=by
 cases c with
 |value f=>simp only[Zlr,ZjX,h f (by simp[Zcw])]
 |invoke r n=>simp only[Zlr,h r (by simp[Zcw])]
 |builtin b=>rfl
theorem Zog{c:Callee}{args:Array Operand}{a9:Array TypeId}:∀x∈args.toList,x∈Zcw (.call { callee:=c,args:=args,argTypes:=a9 }):=by
 intro x hx;cases c<;>simp only[Zcw]<;>first|exact hx|exact List.mem_cons_of_mem _ hx
theorem ZKi{P:Program}{N:Nat}{ops:Array Oper}{ha:HA}{an:Option Ans}{o:Oper}{st st1:St}{v:V}{obl:List Prop}(hn:ha.new=[])(h:ZeC P N ops ha an o st=some (v,obl,st1)) :
  st1.env=st.env/\∀st2:St,(∀t∈ZfT ops o,st2.get t=st.get t)->st2.heap=st.heap->ZeC P N ops ha an o st2=some (v,obl,⟨st2.env,st1.heap⟩):=by
 unfold ZeC at h;split at h
 .rename_i bW;split at h
  .rename_i c args a9 bO;refine⟨ZrW h,fun st2 hu hh=>?_⟩;unfold ZeC;rw[ZlI hu,bW];have he:=Zmq hu;rw[bO]at he ⊢;simp only;unfold ZgZ at h ⊢;rw[ZjZ he];have az:okHA N st2 ha=okHA N st ha:=by
    unfold okHA;rw[hn];rfl
   split at h;rotate_left
   .cases h
   rename_i g a b om bq;rw[Zig (fun x hx=>he x (Zog x hx)) a b,az,hh];split at h;rotate_left
   .cases h
   rename_i h0 vs hp r q1 q2 q3 q4 q5;cases h;simp only[q1,q2,q3,q4,q5]
  .cases h
 .rename_i bW;cases h;refine⟨rfl,fun st2 hu hh=>?_⟩;unfold ZeC;rw[ZlI hu,bW];simp only[<-hh]
 .cases h
theorem Zvk{d e:Nat}{b:B}(hne:e≠d)(hb:b.says d=false):∀{h:List (Nat×B)},ZhI d h=true->ZhI d (hins h e b)=true:=by
 have hf:Nat.beq e d=false:=by
  cases hx:Nat.beq e d
  .rfl
  .exact absurd (Nat.eq_of_beq_eq_true hx) hne
 intro h;induction h with
 |nil=>intro _;simp only[hins,ZhI,hf,hb]
 |cons p r ih=>
  obtain⟨k,v⟩:=p;intro hq;have bV:=hq;simp only[ZhI]at hq;split at hq
  .rename_i h1 h2;simp only[hins];split
   .simp only[ZhI,hf,hb];exact hq
   .split
    .simp only[ZhI,hf,hb,h1,h2];exact hq
    .simp only[ZhI,h1,h2];exact ih hq
  .cases hq
theorem ZnC{d e:Nat}{b:B}:∀{h:List (Nat×B)},hget h e=none->ZhI d (hins h e b)=true->ZhI d h=true
 | [],_,_=>rfl
 | (k,v) :: r,hn,hq=>by
  rw[Zbw]at hn
  split at hn
  .cases hn
  rename_i hke
  have hf:Nat.beq k e=false:=by
   cases hx:Nat.beq k e
   .rfl
   .exact absurd (Nat.eq_of_beq_eq_true hx) hke
  simp only[hins,hf]at hq;split at hq
  .simp only[ZhI]at hq;split at hq
   .simp only[ZhI];exact hq
   .cases hq
  .simp only[ZhI]at hq ⊢;split at hq
   .rename_i h1 h2;exact ZnC hn hq
   .cases hq
theorem ZDj{P:Program}{N:Nat}{ops:Array Oper}{ha:HA}{an:Option Ans}{o:Oper}{st st1:St}{v:V}{obl:List Prop}(hs:Zhf o ha=true)(h:ZeC P N ops ha an o st=some (v,obl,st1)) :
  ∃b:B,(∀k,b.says k=false)/\ZdI N (o.dst.getD 0) st=true/\st1=⟨st.env,hins st.heap (o.dst.getD 0) b⟩/\∀st2,(∀t∈ZfT ops o,st2.get t=st.get t)->ZdI N (o.dst.getD 0) st2=true ->
   ZeC P N ops ha an o st2=some (v,obl,⟨st2.env,hins st2.heap (o.dst.getD 0) b⟩):=by
 unfold Zhf at hs;split at hs;rotate_left
 .cases hs
 rename_i c d c' e sz len cc hl hn bZ bW;simp only[Bool.and_eq_true]at hs;obtain⟨⟨e1,e2⟩,e3⟩:=hs;have e1:=Nat.eq_of_beq_eq_true e1;have e2:=Nat.eq_of_beq_eq_true e2;subst e2;obtain⟨lend,new,h1,res⟩:=ha;simp only at hl hn bZ;subst hl hn bZ;subst e1;have hg:∀st:St,ZgX ops st o=some true:=fun st=>by unfold ZgX;rw[bW]
 unfold ZeC at h;rw[hg]at h;simp only at h;split at h;rotate_left
 .cases h
 rename_i f args a9 bO;unfold ZgZ at h;split at h;rotate_left
 .cases h
 rename_i g a b om bq;split at h;rotate_left
 .cases h
 rename_i h0 vs hp r az dk bQ co hr;cases h;have hq:ZdI N (o.dst.getD 0) st=true:=by
  unfold okHA at az;split at az
  .rename_i q1 q2 q3 q4;exact List.all_eq_true.1 q4 _ (List.mem_cons_self)
  .cases az
 have iw:hp=[(o.dst.getD 0,.rows e sz len cc)]:=by
  have:gOut ⟨[],[(c,o.dst.getD 0)],[(c,.rows e sz len cc)],res⟩ c=some (o.dst.getD 0):=by
   simp only[gOut,ZpI,Nat.beq_refl]
  simp only[Zsi,this,renB]at co;exact(Option.some.inj co).symm
 subst iw;refine⟨.rows e sz len cc,fun _=>rfl,hq,rfl,fun st2 hu b9=>?_⟩;have he:∀x∈Zcw (.call { callee:=f,args:=args,argTypes:=a9 }),evo st2 x=evo st x:=fun x hx=>Zmq hu x (by rw[bO];exact hx);have bJ:Zci st2 args.toList a b=Zci st args.toList a b:=Zig (fun x hx=>he x (Zog x hx)) a b;have dz:okHA N st2 ⟨[],[(c,o.dst.getD 0)],[(c,.rows e sz len cc)],res⟩=true:=by
  unfold okHA at az ⊢;split at az
  .rename_i q1 q2 q3 q4;simp only at q1 q2 q3;simp only[q1,q2,q3,List.all_cons,List.all_nil,b9,Bool.and_true]
  .cases az
 have gS:hIn (bwd ([]:List (Nat×Nat))) st2.heap ([]:List (Nat×Nat))=some h0:=dk;unfold ZeC;rw[hg];simp only[bO];unfold ZgZ;rw[ZjZ he,bq];simp only[dz,gS,bJ,bQ,co,hr];rfl
theorem ZyI{P:Program}{N:Nat}{st st2:St}{c:Callee}{args:Array Operand}{a9:Array TypeId}{ha:HA}{an:Option Ans}(he:∀x∈Zcw (.call { callee:=c,args:=args,argTypes:=a9 }),evo st2 x=evo st x)(hh:st2.heap=st.heap)(az:okHA N st2 ha=okHA N st ha) :
  Zhw P N st2 c args.toList ha an=(Zhw P N st c args.toList ha an).map fun r=>(r.1,r.2.1,⟨st2.env,r.2.2.heap⟩):=by
 have bJ:∀a b,Zci st2 args.toList a b=Zci st args.toList a b:=fun a b=>Zig (fun x hx=>he x (Zog x hx)) a b;have e1:ZgZ P N st2 c args.toList ha an=(ZgZ P N st c args.toList ha an).map fun r=>(r.1,r.2.1,⟨st2.env,r.2.2.heap⟩):=by
  unfold ZgZ;rw[ZjZ he,az,hh];cases Zlr P st c an with
  |none=>rfl
  |some q=>
   obtain⟨g,a,b,om⟩:=q;simp only[bJ];generalize okHA N st ha=x1;generalize hIn (bwd ha.lend) st.heap ha.lend=x2;generalize ZFH (bwd ha.lend) (Zci st args.toList a b)=x3;generalize Zsi (gOut ha) ha.h1=x4;generalize renV (gOut ha) ha.res=x5;cases x1<;>cases x2<;>cases x3<;>cases x4<;>cases x5<;>rfl
 have e2:ZkT P N st2 c args.toList ha an=(ZkT P N st c args.toList ha an).map fun r=>(r.1,r.2.1,⟨st2.env,r.2.2.heap⟩):=by
  obtain⟨lend,new,h1,res⟩:=ha;have hb:∀l,borA st2 l=borA st l:=Zwr hh;unfold ZkT;rw[ZjZ he,az,hh];simp only[bJ,hb];cases Zlr P st c an with
  |none=>split<;>rfl
  |some q=>
   obtain⟨g,a,b,om⟩:=q;simp only;generalize okHA N st ⟨lend,new,h1,res⟩=x1;generalize borA st (Zci st args.toList a b)=x2;generalize Zsi (gOut ⟨lend,new,h1,res⟩) h1=x3;generalize renV (gOut ⟨lend,new,h1,res⟩) res=x4;generalize Zvv h1=x5;split
   .cases x1<;>cases x2<;>cases x3<;>cases x4<;>cases x5<;>rfl
   .rfl
 unfold Zhw;rw[e1,e2];cases ZgZ P N st c args.toList ha an<;>rfl
theorem ZKj{P:Program}{N:Nat}{ops:Array Oper}{ha:HA}{an:Option Ans}{o:Oper}{st st1:St}{v:V}{obl:List Prop}(hs:Zhf o ha=true)(h:ZhJ P N ops ha an o st=some (v,obl,st1)) :
  ∃b:B,ZdI N (o.dst.getD 0) st=true/\st1=⟨st.env,hins st.heap (o.dst.getD 0) b⟩/\∀st2,(∀t∈ZfT ops o,st2.get t=st.get t)->st2.heap=st.heap->ZdI N (o.dst.getD 0) st2=true ->
   ZhJ P N ops ha an o st2=some (v,obl,⟨st2.env,st1.heap⟩):=by
 unfold Zhf at hs;split at hs;rotate_left
 .cases hs
 rename_i c d c' e sz len cc hl hn bZ bW;simp only[Bool.and_eq_true]at hs;obtain⟨⟨e1,e2⟩,e3⟩:=hs;have e1:=Nat.eq_of_beq_eq_true e1;have e2:=Nat.eq_of_beq_eq_true e2;subst e2;obtain⟨lend,new,h1,res⟩:=ha;simp only at hl hn bZ;subst hl hn bZ;subst e1;have hg:∀st:St,ZgX ops st o=some true:=fun st=>by unfold ZgX;rw[bW]
 unfold ZhJ at h;rw[hg]at h;simp only at h;split at h;rotate_left
 .cases h
 rename_i f args a9 bO;have iw:∀hp,Zsi (gOut ⟨[],[(c,o.dst.getD 0)],[(c,.rows e sz len cc)],res⟩) [(c,.rows e sz len cc)]=some hp->hp=[(o.dst.getD 0,.rows e sz len cc)]:=fun hp co=>by
  have:gOut ⟨[],[(c,o.dst.getD 0)],[(c,.rows e sz len cc)],res⟩ c=some (o.dst.getD 0):=by
   simp only[gOut,ZpI,Nat.beq_refl]
  simp only[Zsi,this,renB]at co;exact(Option.some.inj co).symm
 have eH:okHA N st ⟨[],[(c,o.dst.getD 0)],[(c,.rows e sz len cc)],res⟩=true/\st1=⟨st.env,hins st.heap (o.dst.getD 0) (.rows e sz len cc)⟩:=by
  have h':=h;unfold Zhw at h';split at h'
  .rename_i r hr;cases h';unfold ZgZ at hr;split at hr;rotate_left
   .cases hr
   split at hr;rotate_left
   .cases hr
   rename_i h0 vs hp r az dk bQ co fQ;cases hr;rw[iw _ co];exact⟨az,rfl⟩
  .unfold ZkT at h';split at h';rotate_left
   .cases h'
   split at h';rotate_left
   .cases h'
   split at h';rotate_left
   .cases h'
   rename_i vs hp r ps az bQ co fQ bC;cases h';rw[iw _ co];exact⟨az,rfl⟩
 obtain⟨az,bv⟩:=eH;have hq:ZdI N (o.dst.getD 0) st=true:=by
  have bH:=az;unfold okHA at bH;split at bH
  .rename_i q1 q2 q3 q4;exact List.all_eq_true.1 q4 _ (List.mem_cons_self)
  .cases bH
 refine⟨.rows e sz len cc,hq,bv,fun st2 hu hh b9=>?_⟩;have he:∀x∈Zcw (.call { callee:=f,args:=args,argTypes:=a9 }),evo st2 x=evo st x:=fun x hx=>Zmq hu x (by rw[bO];exact hx);have dz:okHA N st2 ⟨[],[(c,o.dst.getD 0)],[(c,.rows e sz len cc)],res⟩=true:=by
  have bH:=az;unfold okHA at bH ⊢;split at bH
  .rename_i q1 q2 q3 q4;simp only at q1 q2 q3;simp only[q1,q2,q3,List.all_cons,List.all_nil,b9,Bool.and_true]
  .cases bH
 unfold ZhJ;rw[hg];simp only[bO];rw[ZyI he hh (dz.trans az.symm),h];rfl
def ZJk:Op->Bool | .makeSlice .. | .buildSlice .. | .alloc _=>true|_=>false
theorem ZDM{ti:TI}{l:List C}(h:ZuS ti=some l)(k:Nat):l.any (C.says k)=false:=by
 unfold ZuS at h;split at h;rotate_left
 .cases h
 rename_i z hz;have lits:∀xs:List Value,(xs.map C.lit).any (C.says k)=false:=fun xs=>by
  induction xs with
  |nil=>rfl
  |cons x xs ih=>simp[C.says,ih]
 cases z with
 |agg cs=>
  simp only[V.ofVal]at h;split at h
  .cases h;exact lits _
  .cases h
 |_=>
  simp only[V.ofVal,V.cells]at h
  first | (cases h;rfl) | (split at h<;>cases h;rfl)
def Zyl(ra:RA)(i:Nat)(o:Oper):Bool:=match ZcR ra.hc i with
 |some ha=>match ZcR ra.hc (i+1000)with
  |none=>true
  |some _=>Zhf o ha
 |none=>Nat.ble (Zfr ra i o.op) 3
def ZlG(ra:RA)(i:Nat)(o:Oper):Bool:=match ZcR ra.hc i with
 |some ha=>match ZcR ra.hc (i+1000)with
  |none=>Zhf o ha
  |some _=>false
 |none=>match o.guard with
  |none=>ZJk o.op&&Nat.beq (Zfr ra i o.op) 3
  |some _=>false
theorem ZBN{N:Nat}{T:Tab}{st st1:St}{d t:Nat}{x y:V}{an:Option Ans}{v:V}{obl:List Prop}(h:ZmU N T st d t x y an=some (v,obl,st1)) :
  ∃b:B,(∀k,b.says k=false)/\ZdI N d st=true/\st1=⟨st.env,hins st.heap d b⟩/\∀st2,ZdI N d st2=true->ZmU N T st2 d t x y an=some (v,obl,⟨st2.env,hins st2.heap d b⟩):=by
 unfold ZmU at h
 repeat' split at h
 all_goals first | (cases h;done)|skip
 all_goals
  cases h;refine⟨_,fun _=>rfl,by assumption,rfl,fun st2 hq=>?_⟩;unfold ZmU;simp only[*,St.new]
theorem ZvX{N:Nat}{T:Tab}{st st1:St}{d t n:Nat}{ps:List (Nat×V)}{k:Nat}{c:Nat->Nat->C}{v:V}{obl:List Prop}(h:ZfC N T st d t n ps (some (.c k c))=some (v,obl,st1)) :
  ∃b:B,(∀k,b.says k=false)/\ZdI N d st=true/\st1=⟨st.env,hins st.heap d b⟩/\∀st2,ZdI N d st2=true->ZfC N T st2 d t n ps (some (.c k c))=some (v,obl,⟨st2.env,hins st2.heap d b⟩):=by
 unfold ZfC at h ⊢;split at h<;>try (cases h;done)
 split at h<;>try (cases h;done)
 split at h<;>try (cases h;done)
 split at h<;>try (cases h;done)
 split at h<;>try (cases h;done)
 split at h<;>try (cases h;done)
 simp only at h;split at h
 .cases h
 .rename_i hq;cases h;refine⟨_,fun _=>rfl,hq,rfl,fun st2 b9=>?_⟩;simp only[*,St.new]
theorem Zmz{P:Program}{N:Nat}{T:Tab}{ops:Array Oper}{ra:RA}{i:Nat}{o:Oper}{st st1:St}{v:V}{obl:List Prop}(hs:ZlG ra i o=true)(h:ZdJ P N T ops ra i o st=some (v,obl,st1)) :
  ∃b:B,(∀k,b.says k=false)/\ZdI N (o.dst.getD 0) st=true/\st1=⟨st.env,hins st.heap (o.dst.getD 0) b⟩/\∀st2,(∀t∈ZfT ops o,st2.get t=st.get t)->ZdI N (o.dst.getD 0) st2=true ->
   ZdJ P N T ops ra i o st2=some (v,obl,⟨st2.env,hins st2.heap (o.dst.getD 0) b⟩):=by
 unfold ZlG at hs;unfold ZdJ at h ⊢;split at hs
 .rename_i ha hk;cases hk2:ZcR ra.hc (i+1000)with
  |some y=>rw[hk2]at hs;cases hs
  |none=>
   rw[hk2]at hs;simp only[hk,hk2]at h ⊢;exact ZDj hs h
 .rename_i hk;rw[hk]at h ⊢;simp only at h ⊢;split at hs;rotate_left
  .cases hs
  rename_i bW;have hg:∀st:St,ZgX ops st o=some true:=fun st=>by unfold ZgX;rw[bW]
  simp only[Bool.and_eq_true]at hs;obtain⟨hr,de⟩:=hs;have de:=Nat.eq_of_beq_eq_true de;unfold Znb at h;rw[hg]at h;simp only at h;split at h
  .cases h
  rename_i v0 cj st0 bf;split at h
  .cases h
  rename_i v' obl' hd;split at h;rotate_left
  .cases h
  rename_i v'' eF;split at h;rotate_left
  .cases h
  rename_i v3 obl3 d7;cases h;have eH:∃b:B,(∀k,b.says k=false)/\ZdI N (o.dst.getD 0) st=true/\st1=⟨st.env,hins st.heap (o.dst.getD 0) b⟩/\∀st2,(∀x∈Zcw o.op,evo st2 x=evo st x)->ZdI N (o.dst.getD 0) st2=true ->
    evOp P N T o st2 (ZcR ra.an i)=some (v0,cj,⟨st2.env,hins st2.heap (o.dst.getD 0) b⟩):=by
   obtain⟨dst,op,type,dx,after,guard⟩:=o;simp only at hr de bW ⊢;cases op<;>simp only[ZJk]at hr<;>try (cases hr;done)
   case alloc t0 _=>
    simp only[evOp]at bf;split at bf;rotate_left
    .cases bf
    rename_i te bx;split at bf;rotate_left
    .cases bf
    rename_i l hl;unfold ZqL at bf;split at bf;rotate_left
    .cases bf
    rename_i hq kE;cases bf;refine⟨.box l,fun k=>ZDM hl k,hq,rfl,fun st2 he b9=>?_⟩;simp only[evOp,bx,hl];unfold ZqL;rw[b9,kE];rfl
   case makeSlice t0 x y _=>
    simp only[Zfr]at de;split at de
    .cases de
    rename_i hx;simp only[evOp]at bf;split at bf
    .rename_i hk;exact absurd hk (hx _ _)
    .cases bf
    obtain⟨b,h1,h2,h3,h4⟩:=ZBN bf;refine⟨b,h1,h2,h3,fun st2 he hq=>?_⟩;simp only[evOp];rw[he x (by simp[Zcw]),he y (by simp[Zcw])];exact h4 st2 hq
   case buildSlice t n ps _=>
    simp only[Zfr]at de;split at de;rotate_left
    .cases de
    rename_i k c hka;simp only[evOp,hka]at bf;obtain⟨b,h1,h2,h3,h4⟩:=ZvX bf;refine⟨b,h1,h2,h3,fun st2 he hq=>?_⟩;simp only[evOp,hka];rw[Zsn (fun x hx=>he x (by simpa[Zcw]using hx))];exact h4 st2 hq
  obtain⟨b,h1,h2,h3,h4⟩:=eH;refine⟨b,h1,h2,h3,fun st2 hu hq=>?_⟩;unfold Znb;rw[hg];simp only[h4 st2 (Zmq hu) hq,hd,eF,d7]
theorem ZiD{ra:RA}{i:Nat}{o:Oper}(h:ZcR ra.hc i=none):clsX ra i o=Zfr ra i o.op:=by unfold clsX;rw[h]
theorem Zwl{ra:RA}{i:Nat}{o:Oper}{ha:HA}(h:ZcR ra.hc i=some ha)(hc:clsX ra i o<=3):(Zhf o ha=true/\clsX ra i o=3)\/(ha.new=[]/\clsX ra i o=2/\ZcR ra.hc (i+1000)=none):=by
 unfold clsX at hc ⊢;rw[h]at hc ⊢;simp only at hc ⊢;split at hc
 .rename_i hs;exact .inl ⟨hs,rfl⟩
 .split at hc
  .omega
  .rename_i hk2;split at hc
   .rename_i hn;exact .inr ⟨hn,rfl,hk2⟩
   .omega
theorem Zvm{P:Program}{N:Nat}{T:Tab}{ops:Array Oper}{ra:RA}{i:Nat}{o:Oper}{ha:HA}{st st1:St}{v:V}{obl:List Prop}(hk:ZcR ra.hc i=some ha)(hs:Zhf o ha=true)(h:ZdJ P N T ops ra i o st=some (v,obl,st1)) :
  ∃b:B,ZdI N (o.dst.getD 0) st=true/\st1=⟨st.env,hins st.heap (o.dst.getD 0) b⟩/\∀st2,(∀t∈ZfT ops o,st2.get t=st.get t)->st2.heap=st.heap->ZdI N (o.dst.getD 0) st2=true ->
   ZdJ P N T ops ra i o st2=some (v,obl,⟨st2.env,st1.heap⟩):=by
 unfold ZdJ at h ⊢;cases hk2:ZcR ra.hc (i+1000)with
 |none=>
  simp only[hk,hk2]at h ⊢;obtain⟨b,h1,h2,rfl,h4⟩:=ZDj hs h;refine⟨b,h2,rfl,fun st2 hu hh hq=>?_⟩;rw[h4 st2 hu hq,hh]
 |some x=>
  simp only[hk,hk2]at h ⊢;exact ZKj hs h
theorem ZfK{P:Program}{N:Nat}{T:Tab}{ops:Array Oper}{ra:RA}{i:Nat}{o:Oper}{st st1 st2:St}{v:V}{obl:List Prop}(hc:clsX ra i o<=3)(hu:∀t∈ZfT ops o,st2.get t=st.get t)
  (hh:clsX ra i o≠0->st2.heap=st.heap) (hq:clsX ra i o=3->ZdI N (o.dst.getD 0) st=true->ZdI N (o.dst.getD 0) st2=true) (h:ZdJ P N T ops ra i o st=some (v,obl,st1)) :
  st1.env=st.env/\(clsX ra i o<=1->st1.heap=st.heap)/\ZdJ P N T ops ra i o st2=some (v,obl,⟨st2.env,if clsX ra i o<=1 then st2.heap else st1.heap⟩):=by
 cases hk:ZcR ra.hc i with
 |none=>
  rw[ZiD hk]at *
  unfold ZdJ at h ⊢;rw[hk]at h ⊢;exact ZBp hc hu hh hq h
 |some ha=>
  rcases Zwl hk hc with⟨hs,e3⟩|⟨hn,e3,hk2⟩
  .rw[e3]at hh hq ⊢;obtain⟨b,h2,rfl,h4⟩:=Zvm hk hs h;refine⟨rfl,fun h=>by omega,?_⟩;rw[h4 st2 hu (hh (by omega)) (hq rfl h2)];rfl
  .rw[e3]at hh hq ⊢;unfold ZdJ at h ⊢;rw[hk]at h ⊢;simp only at h ⊢;rw[hk2]at h ⊢;simp only at h ⊢;obtain⟨h1,h2⟩:=ZKi hn h;refine⟨h1,fun h=>by omega,?_⟩;rw[h2 st2 hu (hh (by omega))];rfl
theorem Zlk{P:Program}{N:Nat}{T:Tab}{ops:Array Oper}{ra:RA}{i:Nat}{o:Oper}{st st1 st2:St}{v:V}{obl:List Prop}(hc:clsX ra i o=1)(hu:∀t∈ZfT ops o,st2.get t=st.get t)
  (hm:∀x∈Zcw o.op,Has st st2 fun id=>(evo st x).says id) (h:ZdJ P N T ops ra i o st=some (v,obl,st1)):ZdJ P N T ops ra i o st2=some (v,obl,st2):=by
 cases hk:ZcR ra.hc i with
 |none=>
  rw[ZiD hk]at *
  unfold ZdJ at h ⊢;rw[hk]at h ⊢;exact ZEp hc hu hm h
 |some ha=>
  unfold clsX at hc;rw[hk]at hc;simp only at hc
  repeat' split at hc
  all_goals omega
theorem ZEq{P:Program}{N:Nat}{T:Tab}{ops:Array Oper}{ra:RA}{i:Nat}{o:Oper}{st st1:St}{v:V}{obl:List Prop}(hc:clsX ra i o=3)(h:ZdJ P N T ops ra i o st=some (v,obl,st1)) :
  st1=st\/(ZdI N (o.dst.getD 0) st=true/\∀id b,hget st1.heap id=some b->id=o.dst.getD 0\/hget st.heap id=some b):=by
 cases hk:ZcR ra.hc i with
 |none=>
  rw[ZiD hk]at *
  unfold ZdJ at h;rw[hk]at h;exact ZGf hc h
 |some ha=>
  obtain⟨hs,e3⟩ : Zhf o ha=true/\clsX ra i o=3:=(Zwl hk (Nat.le_of_eq hc)).resolve_right fun h=>by have:=h.2.1;omega
  obtain⟨b,h2,rfl,h4⟩:=Zvm hk hs h;refine .inr ⟨h2,fun id b' hb=>?_⟩;simp only[Zfj]at hb;split at hb
  .rename_i e;exact .inl e.symm
  .exact .inr hb
theorem ZzA{P:Program}{N:Nat}{T:Tab}{ops:Array Oper}{ra:RA}{i:Nat}{o:Oper}{st st1:St}{v:V}{obl:List Prop}(hc:clsX ra i o=3)(hk:Zvp ra i o=true)(h:ZdJ P N T ops ra i o st=some (v,obl,st1)) :
  ∀id b,hget st.heap id=some b->hget st1.heap id=some b:=by
 unfold Zvp at hk;cases hk':ZcR ra.hc i with
 |none=>
  rw[ZiD hk']at *
  unfold ZdJ at h;rw[hk']at h hk;exact ZBq hc hk h
 |some ha=>
  obtain⟨hs,e3⟩ : Zhf o ha=true/\clsX ra i o=3:=(Zwl hk' (Nat.le_of_eq hc)).resolve_right fun h=>by have:=h.2.1;omega
  obtain⟨b,h2,rfl,h4⟩:=Zvm hk' hs h;intro id b' hb;simp only[Zfj];have:=(ZiE (ZcY h2).2).1;rw[if_neg (fun e=>by rw[e,hb]at this;cases this)];exact hb
def isMk(ra:RA)(i:Nat)(o:Oper):Bool:=match ZcR ra.hc i,ZcR ra.hc (i+1000),o.op with
 |some ha,some _,.call { callee:=.value (.func _),args:=_,argTypes:=_ }=>Zhf o ha
 |_,_,_=>false
theorem ZIM{P:Program}{N:Nat}{ops:Array Oper}{ha:HA}{an:Option Ans}{o:Oper}{g:FuncId}{args:Array Operand}{a9:Array TypeId}{st st1:St}{v:V}{obl:List Prop}(hs:Zhf o ha=true)
  (bO:o.op=.call { callee:=.value (.func g),args:=args,argTypes:=a9 }) (h:ZhJ P N ops ha an o st=some (v,obl,st1)) :
  ∃b:B,(∀k,b.says k=false)/\ZdI N (o.dst.getD 0) st=true/\st1=⟨st.env,hins st.heap (o.dst.getD 0) b⟩/\∀st2,(∀t∈ZfT ops o,st2.get t=st.get t)->(∀x∈Zcw o.op,Has st st2 fun id=>(evo st x).says id)->ZdI N (o.dst.getD 0) st2=true ->
   ZhJ P N ops ha an o st2=some (v,obl,⟨st2.env,hins st2.heap (o.dst.getD 0) b⟩):=by
 have d6:=hs;unfold Zhf at hs;split at hs;rotate_left
 .cases hs
 rename_i c d c' e sz len cc hl hn bZ bW;simp only[Bool.and_eq_true]at hs;obtain⟨⟨e1,e2⟩,e3⟩:=hs;have e1:=Nat.eq_of_beq_eq_true e1;have e2:=Nat.eq_of_beq_eq_true e2;subst e2;obtain⟨lend,new,h1,res⟩:=ha;simp only at hl hn bZ;subst hl hn bZ;subst e1;have hg:∀st:St,ZgX ops st o=some true:=fun st=>by unfold ZgX;rw[bW]
 have kA:∀st,ZeC P N ops ⟨[],[(c,o.dst.getD 0)],[(c,.rows e sz len cc)],res⟩ an o st=ZgZ P N st (.value (.func g)) args.toList ⟨[],[(c,o.dst.getD 0)],[(c,.rows e sz len cc)],res⟩ an:=fun st=>by
  unfold ZeC;rw[hg];simp only[bO]
 have kB:∀st,ZhJ P N ops ⟨[],[(c,o.dst.getD 0)],[(c,.rows e sz len cc)],res⟩ an o st=Zhw P N st (.value (.func g)) args.toList ⟨[],[(c,o.dst.getD 0)],[(c,.rows e sz len cc)],res⟩ an:=fun st=>by
  unfold ZhJ;rw[hg];simp only[bO]
 rw[kB]at h;cases hE:ZgZ P N st (.value (.func g)) args.toList ⟨[],[(c,o.dst.getD 0)],[(c,.rows e sz len cc)],res⟩ an with
 |some r=>
  unfold Zhw at h;rw[hE]at h;simp only at h;cases h;obtain⟨b,q1,q2,q3,q4⟩:=ZDj d6 ((kA st).trans hE);refine⟨b,q1,q2,q3,fun st2 hu hm hq=>?_⟩;rw[kB];exact Zwa ((kA st2).symm.trans (q4 st2 hu hq))
 |none=>
  unfold Zhw at h;rw[hE]at h;simp only at h;have iw:∀hp,Zsi (gOut ⟨[],[(c,o.dst.getD 0)],[(c,.rows e sz len cc)],res⟩) [(c,.rows e sz len cc)]=some hp->hp=[(o.dst.getD 0,.rows e sz len cc)]:=fun hp co=>by
   have:gOut ⟨[],[(c,o.dst.getD 0)],[(c,.rows e sz len cc)],res⟩ c=some (o.dst.getD 0):=by
    simp only[gOut,ZpI,Nat.beq_refl]
   simp only[Zsi,this,renB]at co;exact(Option.some.inj co).symm
  obtain⟨k0,n0,rfl⟩ : ∃k n,res=.one (.osl k n):=by
   unfold ZkT at h;simp only at h;split at h
   .exact⟨_,_,rfl⟩
   .cases h
  unfold ZkT at h;simp only at h;split at h;rotate_left
  .cases h
  rename_i g' a b om bq;split at h;rotate_left
  .cases h
  rename_i vs hp r ps az bQ co fQ bC;cases h;obtain rfl:=iw _ co;have hq:ZdI N (o.dst.getD 0) st=true:=by
   have bH:=az;unfold okHA at bH;split at bH
   .rename_i q1 q2 q3 q4;exact List.all_eq_true.1 q4 _ (List.mem_cons_self)
   .cases bH
  refine⟨.rows e sz len cc,fun _=>rfl,hq,rfl,fun st2 hu hm b9=>?_⟩;have he:∀x∈Zcw (.call { callee:=.value (.func g),args:=args,argTypes:=a9 }),evo st2 x=evo st x:=fun x hx=>Zmq hu x (by rw[bO];exact hx);have dz:okHA N st2 ⟨[],[(c,o.dst.getD 0)],[(c,.rows e sz len cc)],.one (.osl k0 n0)⟩=true:=by
   have bH:=az;unfold okHA at bH ⊢;split at bH
   .rename_i q1 q2 q3 q4;simp only at q1 q2 q3;simp only[q1,q2,q3,List.all_cons,List.all_nil,b9,Bool.and_true]
   .cases bH
  have kF:a=[]/\b=[]:=by
   simp only[Zlr,ZjX,evo,V.ofVal]at bq
   first
    | (cases bq;exact⟨rfl,rfl⟩)
    | (simp at bq;exact⟨bq.2.1.symm,bq.2.2.1.symm⟩)
  obtain⟨rfl,rfl⟩:=kF;have bJ:Zci st2 args.toList [] []=Zci st args.toList [] []:=Zig (fun x hx=>he x (Zog x hx)) [] [];have hbm:borA st2 (Zci st args.toList [] [])=some vs:=by
   refine Zwq (fun v hv=>?_) bQ;unfold Zci at hv;simp only[List.map_nil,List.nil_append,List.append_nil,List.mem_map]at hv;obtain⟨x,hx,rfl⟩:=hv;exact hm x (by rw[bO];exact Zog x hx)
  have kG:ZgZ P N st2 (.value (.func g)) args.toList ⟨[],[(c,o.dst.getD 0)],[(c,.rows e sz len cc)],.one (.osl k0 n0)⟩ an=none:=by
   cases kG:ZgZ P N st2 (.value (.func g)) args.toList ⟨[],[(c,o.dst.getD 0)],[(c,.rows e sz len cc)],.one (.osl k0 n0)⟩ an with
   |none=>rfl
   |some r2=>
    obtain⟨b2,_,_,_,q4⟩:=ZDj d6 ((kA st2).trans kG);have:=q4 st (fun t ht=>(hu t ht).symm) hq;rw[kA,hE]at this;cases this
  rw[kB];unfold Zhw;rw[kG];simp only;unfold ZkT;simp only;rw[ZjZ he,bq];simp only[dz,bJ,hbm,co,fQ,bC];rfl
theorem Zzz{P:Program}{N:Nat}{T:Tab}{ops:Array Oper}{ra:RA}{i:Nat}{o:Oper}{st st1:St}{v:V}{obl:List Prop}(hs:(ZlG ra i o||isMk ra i o)=true)(h:ZdJ P N T ops ra i o st=some (v,obl,st1)) :
  ∃b:B,(∀k,b.says k=false)/\ZdI N (o.dst.getD 0) st=true/\st1=⟨st.env,hins st.heap (o.dst.getD 0) b⟩/\∀st2,(∀t∈ZfT ops o,st2.get t=st.get t)->(∀x∈Zcw o.op,Has st st2 fun id=>(evo st x).says id)->ZdI N (o.dst.getD 0) st2=true ->
   ZdJ P N T ops ra i o st2=some (v,obl,⟨st2.env,hins st2.heap (o.dst.getD 0) b⟩):=by
 rw[Bool.or_eq_true]at hs;rcases hs with hs|hs
 .obtain⟨b,h1,h2,h3,h4⟩:=Zmz hs h;exact⟨b,h1,h2,h3,fun st2 hu _ hq=>h4 st2 hu hq⟩
 .unfold isMk at hs;split at hs;rotate_left
  .cases hs
  rename_i ha y g args a9 hk hk2 bO;unfold ZdJ at h ⊢;simp only[hk,hk2]at h ⊢;exact ZIM hs bO h
theorem ZDe{ra:RA}{i:Nat}{o:Oper}(hs:isMk ra i o=true):clsX ra i o=3:=by
 unfold isMk at hs;split at hs;rotate_left
 .cases hs
 rename_i ha y g args a9 hk hk2 bO;unfold clsX;rw[hk];simp only[hs]
theorem ZIL{P:Program}{N:Nat}{ops:Array Oper}{c e:Nat}{b:B}{res:V}{an:Option Ans}{o:Oper}{st st1:St}{v:V}{obl:List Prop}(bW:o.guard=none)
  (h:ZeC P N ops ⟨[(c,e)],[],[(c,b)],res⟩ an o st=some (v,obl,st1)) :
  ∃b',renB (gOut ⟨[(c,e)],[],[(c,b)],res⟩) b=some b'/\st1=⟨st.env,hrep st.heap e b'⟩/\(∃b0 b1,hget st.heap e=some b0/\renB (bwd [(c,e)]) b0=some b1) /\
   ∀st2,(∀t∈ZfT ops o,st2.get t=st.get t)->hget st2.heap e=hget st.heap e->ZeC P N ops ⟨[(c,e)],[],[(c,b)],res⟩ an o st2=some (v,obl,⟨st2.env,hrep st2.heap e b'⟩):=by
 have hg:∀st:St,ZgX ops st o=some true:=fun st=>by unfold ZgX;rw[bW]
 unfold ZeC at h;rw[hg]at h;simp only at h;split at h;rotate_left
 .cases h
 rename_i f args a9 bO;unfold ZgZ at h;split at h;rotate_left
 .cases h
 rename_i g a b1 om bq;split at h;rotate_left
 .cases h
 rename_i h0 vs hp r az dk bQ co hr;cases h;have dy:gOut ⟨[(c,e)],[],[(c,b)],res⟩ c=some e:=by simp only[gOut,ZpI,Nat.beq_refl]
 obtain⟨b',aF,rfl⟩ : ∃b',renB (gOut ⟨[(c,e)],[],[(c,b)],res⟩) b=some b'/\hp=[(e,b')]:=by
  simp only[Zsi,dy]at co;split at co
  .rename_i i0 b0 l0 q1 q2 q3;cases q1;cases q3;cases co;exact⟨_,q2,rfl⟩
  .cases co
 have gn:∀hh,Zzw [(e,b')] [(c,e)] hh=hrep hh e b':=fun hh=>by
  unfold Zzw;simp only[ZuY,Nat.beq_refl,Zxc]
 refine⟨b',aF,by rw[gn],?_,fun st2 hu hh=>?_⟩
 .simp only[hIn]at dk;split at dk
  .rename_i b0 bk;split at dk
   .rename_i b2 l2 q1 q2;exact⟨b0,b2,bk,q1⟩
   .cases dk
  .cases dk
 .have he:∀x∈Zcw (.call { callee:=f,args:=args,argTypes:=a9 }),evo st2 x=evo st x:=fun x hx=>Zmq hu x (by rw[bO];exact hx);have dz:okHA N st2 ⟨[(c,e)],[],[(c,b)],res⟩=true:=az;have gS:hIn (bwd [(c,e)]) st2.heap [(c,e)]=some h0:=by
   rw[ZzQ (h:=st.heap) (fun p hp=>by
    rcases List.mem_singleton.1 hp with rfl;exact hh)]
   exact dk
  unfold ZeC;rw[hg];simp only[bO];unfold ZgZ;rw[ZjZ he,bq];simp only[dz,gS,Zig (fun x hx=>he x (Zog x hx)) a b1,bQ,co,hr,gn]
def plOf(ra:RA)(i:Nat)(o:Oper):Option Nat:=match ZcR ra.hc i,ZcR ra.hc (i+1000),o.guard with
 |some ⟨[(c,e)],[],[(c',_)],_⟩,none,none=>match Nat.beq c c' with
  |true=>some e
  |false=>none
 |_,_,_=>none
theorem Znu{P:Program}{N:Nat}{T:Tab}{ops:Array Oper}{ra:RA}{i e:Nat}{o:Oper}{st st1:St}{v:V}{obl:List Prop}(hp:plOf ra i o=some e)(h:ZdJ P N T ops ra i o st=some (v,obl,st1)) :
  ∃b':B,(∀d,d≠e->b'.says d=false)/\st1=⟨st.env,hrep st.heap e b'⟩/\(∀d b0,d≠e->hget st.heap e=some b0->b0.says d=false) /\
   ∀st2,(∀t∈ZfT ops o,st2.get t=st.get t)->hget st2.heap e=hget st.heap e->ZdJ P N T ops ra i o st2=some (v,obl,⟨st2.env,hrep st2.heap e b'⟩):=by
 unfold plOf at hp;split at hp;rotate_left
 .cases hp
 rename_i c e0 c' b res hk hk2 bW;split at hp;rotate_left
 .cases hp
 rename_i bN;cases hp;obtain rfl:=Nat.eq_of_beq_eq_true bN;unfold ZdJ at h ⊢;simp only[hk,hk2]at h ⊢;obtain⟨b',h1,h2,⟨b0,b1,h3,h4⟩,h5⟩:=ZIL bW h;refine⟨b',fun d hd=>ZIn (fun k hk'=>?_) h1,h2,fun d b2 hd bu=>?_,h5⟩
 .simp only[gOut,ZpI]at hk';split at hk'
  .rename_i hq;split at hq
   .cases hq;cases hk';exact hd rfl
   .cases hq
  .cases hk'
 .rw[h3]at bu;cases bu;refine ZFJ ?_ h4;simp only[bwd,List.map_cons,List.map_nil,ZpI];split
  .rename_i hq;exact absurd (Nat.eq_of_beq_eq_true hq).symm hd
  .rfl
structure Eqv (st st2:St):Prop where
 env:∀t,st2.get t=st.get t
 heap:st2.heap=st.heap
theorem Eqv.refl(st:St):Eqv st st:=⟨fun _=>rfl,rfl⟩
theorem Eqv.trans{a b c:St}(h:Eqv a b)(k:Eqv b c):Eqv a c:=⟨fun t=>(k.env t).trans (h.env t),k.heap.trans h.heap⟩
theorem Zxh{st st2:St}{d:Nat}(h:∀t,st2.get t=st.get t):∀n,Zia st2 d n=Zia st d n
 | 0=>rfl
 |n+1=>by simp only[Zia,h n,Zxh h n]
theorem Zzt{st st2:St}(h:Eqv st st2)(N d:Nat):ZdI N d st2=ZdI N d st:=by
 unfold ZdI;rw[Zxh h.env,h.heap]
theorem ZcQ.eqv{N:Nat}{S0:Nat->Prop}{w0:ZaY}{st st2:St}{a:Act}{w:World}(h:ZcQ N S0 w0 st a w)(he:Eqv st st2):ZcQ N S0 w0 st2 a w:=
 h.le (N:=N) ⟨fun t=>.inl (he.env t),fun id b hb=>by rw[<-he.heap];exact hb⟩
theorem ZIy{N:Nat}{st st2:St}(he:Eqv st st2)(ha:HA):okHA N st2 ha=okHA N st ha:=by
 unfold okHA;rw[show (fun p:Nat×Nat=>ZdI N p.2 st2)=fun p=>ZdI N p.2 st from funext fun p=>Zzt he N p.2]
theorem ZEr{P:Program}{N:Nat}{T:Tab}{ops:Array Oper}{ra:RA}{i:Nat}{o:Oper}{st st1 st2:St}{v:V}{obl:List Prop}(hc:Zyl ra i o=true)(he:Eqv st st2)(h:ZdJ P N T ops ra i o st=some (v,obl,st1)) :
  ∃hp,ZdJ P N T ops ra i o st2=some (v,obl,⟨st2.env,hp⟩)/\hp=st1.heap:=by
 by_cases hc3:clsX ra i o<=3
 .obtain⟨e1,h1,fQ⟩:=ZfK (st2:=st2) hc3 (fun t _=>he.env t) (fun _=>he.heap) (fun _ hq=>by rw[Zzt he];exact hq) h;refine⟨_,fQ,?_⟩;split
  .rename_i gk;rw[h1 gk];exact he.heap
  .rfl
 .cases hk:ZcR ra.hc i with
  |none=>
   exfalso;unfold Zyl at hc;rw[ZiD hk]at hc3;rw[hk]at hc;exact hc3 (Nat.le_of_ble_eq_true hc)
  |some ha=>
   have hk2:ZcR ra.hc (i+1000)=none:=by
    cases hk2:ZcR ra.hc (i+1000)with
    |none=>rfl
    |some x=>
     exfalso;unfold Zyl at hc;rw[hk]at hc;simp only[hk2]at hc;apply hc3;unfold clsX;rw[hk];simp only[hc];omega
   unfold ZdJ at h ⊢;rw[hk]at h ⊢;simp only at h ⊢;rw[hk2]at h ⊢;simp only at h ⊢;unfold ZeC at h ⊢;rw[ZlI (o:=o) (ops:=ops) (fun t _=>he.env t)];split at h
   .split at h
    .rename_i c args a9 bO;have bf:∀x,evo st2 x=evo st x:=fun x=>by
      cases x with
      |tmp t=>exact he.env t
      |const v=>rfl
      |func f=>rfl
      |global g=>rfl
     unfold ZgZ at h ⊢;rw[ZjZ (args:=args) (a9:=a9) (fun x _=>bf x)];split at h;rotate_left
     .cases h
     rename_i g a b om bq;rw[Zig (fun x _=>bf x) a b,ZIy he,he.heap];split at h;rotate_left
     .cases h
     rename_i h0 vs hp r q1 q2 q3 q4 q5;cases h;simp only[q1,q2,q3,q4,q5];exact⟨_,rfl,rfl⟩
    .cases h
   .cases h;exact⟨_,rfl,he.heap⟩
   .cases h
def Zsq(ra:RA):Nat->List Oper->List (Nat×Nat)
 |_,[]=>[]
 |i,o :: r=>match Nat.beq (clsX ra i o) 3 with
  |true=>(i,o.dst.getD 0) :: Zsq ra (i+1) r
  |false=>Zsq ra (i+1) r
def Zgb(ah:List (List Nat))(i:Nat):List Nat:=ah.getD i []
def memN(k:Nat):List Nat->Bool
 | []=>false
 |x :: l=>match Nat.beq x k with
  |true=>true
  |false=>memN k l
theorem ZqZ{k:Nat}:∀{l:List Nat},memN k l=true↔k∈l
 | []=>by simp[memN]
 |x :: l=>by
  simp only[memN]
  split
  .rename_i h
   simp[ZaK h]
  .rename_i h
   have:=Nat.ne_of_beq_eq_false h
   rw[ZqZ]
   simp[Ne.symm this]
def chk(ni:List (Nat×Nat))(ps:List Nat)(i:Nat)(v:V):Bool:=ni.all fun p=>Nat.beq p.1 i||memN p.1 ps || !(v.says p.2)
section
variable (P:Program) (N:Nat) (T:Tab) (ops:Array Oper) (ra:RA) (ah:List (List Nat)) (ni:List (Nat × Nat))
def bxOk(l:List Nat)(st:St)(op:Op):Bool:=match l with
 | []=>true
 |c :: _=>match op with
  | .load _ x=>match evo st x with
   | .one (.ptr d _)=>Nat.beq d c
   | .one (.rp _ _ _)=>Nat.beq 99998 c
   |_=>false
  | .store _ x _=>match evo st x with
   | .one (.ptr d _)=>Nat.beq d c
   |_=>false
  |_=>false
def ZfG(i:Nat)(st:St):Option (St×List Prop):=match ops[i]? with
 |none=>none
 |some o=>match bxOk (Zgb ah (ops.size+i)) st o.op with
  |false=>none
  |true=>match ZdJ P N T ops ra i o st with
   |none=>none
   |some (v,obl,st')=>match chk ni (Zgb ah i) i v with
    |false=>none
    |true=>match putO N st' o.dst v with
     |none=>none
     |some st''=>some (st'',obl)
def Zuq:List Nat->St->Option (St×List Prop)
 | [],st=>some (st,[])
 |i :: l,st=>match ZfG P N T ops ra ah ni i st with
  |none=>none
  |some (st1,o1)=>match Zuq l st1 with
   |none=>none
   |some (st2,o2)=>some (st2,o1++o2)
def disj(x:Option Nat)(l:List Nat):Bool:=match x with
 |none=>true
 |some d=>!(memN d l)
def Zob(x y:Option Nat):Bool:=match x,y with
 |some a,some b=>!(Nat.beq a b)
 |_,_=>true
def ZJn(k i:Nat):Bool:=match ops[k]?,ops[i]? with
 |some a,some b=>disj a.dst (ZfT ops b)&&disj b.dst (ZfT ops a)&&Zob a.dst b.dst &&
   ((Nat.ble (clsX ra k a) 1&&Nat.ble (clsX ra i b) 1)||(Nat.beq (clsX ra k a) 0&&Nat.ble (clsX ra i b) 3)||(Nat.beq (clsX ra i b) 0&&Nat.ble (clsX ra k a) 3)||(Nat.beq (clsX ra k a) 3&&Nat.beq (clsX ra i b) 1&&(ZfT ops b).all fun t=>Nat.blt t N)||(Nat.beq (clsX ra k a) 1&&Nat.beq (clsX ra i b) 3&&Zvp ra i b)||(ZlG ra k a&&ZlG ra i b)||((ZlG ra k a||isMk ra k a)&&(ZlG ra i b||isMk ra i b)&&(ZfT ops b).all fun t=>Nat.blt t N))
 |_,_=>false
def isLd:Op->Bool | .load _ _=>true|_=>false
def isSt:Op->Bool | .store _ _ _=>true|_=>false
def ZKg(i:Nat):Op->Bool
 | .call { callee:=.builtin .append,.. }=>match ZcR ra.an i with
  |some (.c _ _)=>true
  |_=>false
 |_=>false
def okLS(k i:Nat):Bool:=match ops[k]?,ops[i]?,Zgb ah (ops.size+k),Zgb ah (ops.size+i)with
 |some a,some b,c :: _,d :: _=>disj a.dst (ZfT ops b)&&disj b.dst (ZfT ops a)&&Zob a.dst b.dst&&isLd a.op&&isSt b.op&&(ZcR ra.hc k).isNone&&(ZcR ra.hc i).isNone && !(Nat.beq c d)
 |_,_,_,_=>false
def okLC(k i:Nat):Bool:=match ops[k]?,ops[i]? with
 |some a,some b=>disj a.dst (ZfT ops b)&&disj b.dst (ZfT ops a)&&Zob a.dst b.dst&&(match plOf ra k a,plOf ra i b with
  |some e,none=>(ZlG ra i b && !(Nat.beq (b.dst.getD 0) e))||(isLd b.op&&(ZcR ra.hc i).isNone&&match Zgb ah (ops.size+i)with
   |c :: _=>!(Nat.beq c e)
   | []=>false)
  |none,some e=>(ZlG ra k a && !(Nat.beq (a.dst.getD 0) e))||(isLd a.op&&(ZcR ra.hc k).isNone&&match Zgb ah (ops.size+k)with
   |c :: _=>!(Nat.beq c e)
   | []=>false)
  |_,_=>false)
 |_,_=>false
def ZxT:Operand->Operand->Bool | .tmp a,.tmp b=>Nat.beq a b|_,_=>false
def okLM(k i:Nat):Bool:=match ops[k]?,ops[i]? with
 |some a,some b=>match a.op,b.op with
  | .lookup t x y false,.mapEntry t' x' y'=>Nat.beq t t'&&ZxT x x'&&ZxT y y'&&disj a.dst (ZfT ops b)&&disj b.dst (ZfT ops a)&&Zob a.dst b.dst&&a.guard.isNone&&b.guard.isNone &&
    (ZcR ra.hc k).isNone&&(ZcR ra.hc i).isNone&&(ZcR ra.bl k).isNone&&(ZcR ra.bl i).isNone&&(kdn ra.dn k).isEmpty&&(kdn ra.dn i).isEmpty&&(ZcR ra.rl k).isNone&&(ZcR ra.rl i).isNone
  |_,_=>false
 |_,_=>false
def okLA(k i:Nat):Bool:=match ops[k]?,ops[i]?,Zgb ah (ops.size+k)with
 |some a,some b,c :: _=>disj a.dst (ZfT ops b)&&disj b.dst (ZfT ops a)&&Zob a.dst b.dst&&isLd a.op&&ZKg ra i b.op&&a.guard.isNone&&(ZcR ra.hc k).isNone&&(ZcR ra.hc i).isNone && !(Nat.beq c 99998)
 |_,_,_=>false
def ZBr(k i:Nat):Bool:=ZJn N ops ra k i||okLS ops ra ah k i||okLC ops ra ah k i||okLA ops ra ah k i
def Ztp(k i:Nat):Bool:=ZBr N ops ra ah k i||okLM ops ra k i
end
theorem ZaB{N:Nat}{st st':St}{dst:Option Nat}{v:V}(h:putO N st dst v=some st')(t:Nat):st'.get t=(if dst=some t then v else st.get t)/\st'.heap=st.heap:=by
 unfold putO at h;split at h
 .cases h;simp
 .split at h
  .cases h;rename_i d _ _;refine⟨?_,rfl⟩;rw[St.get_put];by_cases e:d=t
   .subst e;simp
   .rw[if_neg e,if_neg (by simpa using e)]
  .cases h
theorem Zee{N:Nat}{st st' st2:St}{dst:Option Nat}{v:V}(h:putO N st dst v=some st'):∃aC,putO N st2 dst v=some aC:=by
 cases dst with
 |none=>exact⟨_,rfl⟩
 |some d=>
  unfold putO at h ⊢;cases hb:Nat.blt d N with
  |true=>simp only[hb];exact⟨_,rfl⟩
  |false=>simp only[hb]at h;cases h
theorem Zbp{x:Option Nat}{l:List Nat}(h:disj x l=true){t:Nat}(ht:t∈l):x≠some t:=by
 rintro rfl;simp only[disj,Bool.not_eq_true']at h;rw[<-Bool.not_eq_true,ZqZ]at h;exact h ht
section
variable {P:Program} {N:Nat} {T:Tab} {ops:Array Oper} {ra:RA} {ah:List (List Nat)} {ni:List (Nat × Nat)}
theorem Zdt{i:Nat}{st st':St}{obl:List Prop}(h:ZfG P N T ops ra ah ni i st=some (st',obl)):∃o v st1,ops[i]?=some o/\ZdJ P N T ops ra i o st=some (v,obl,st1)/\chk ni (Zgb ah i) i v=true/\putO N st1 o.dst v=some st':=by
 unfold ZfG at h;split at h
 .cases h
 rename_i o ho;split at h
 .cases h
 split at h
 .cases h
 rename_i v iV st1 hr;split at h
 .cases h
 rename_i hc;split at h
 .cases h
 rename_i st2 hp;cases h;exact⟨o,v,st1,ho,hr,hc,hp⟩
theorem ZdV{i:Nat}{st st':St}{obl:List Prop}(h:ZfG P N T ops ra ah ni i st=some (st',obl)){o:Oper}(ho:ops[i]?=some o):bxOk (Zgb ah (ops.size+i)) st o.op=true:=by
 unfold ZfG at h;rw[ho]at h;simp only at h;split at h
 .cases h
 .assumption
theorem Zel{st st2:St}{o:Oper}(l:List Nat)(h:∀t∈ZfT ops o,st2.get t=st.get t):bxOk l st2 o.op=bxOk l st o.op:=by
 have he:=Zmq h;unfold bxOk;cases l with
 |nil=>rfl
 |cons c l=>
  obtain⟨dst,op,type,dx,after,guard⟩:=o;simp only at he ⊢;cases op<;>simp only[Zcw]at he ⊢
  case load t x=>rw[he x (by simp)]
  case store t x y=>rw[he x (by simp)]
theorem ZfF{i:Nat}{st st1 st':St}{o:Oper}{v:V}{obl:List Prop}(ho:ops[i]?=some o)(hbx:bxOk (Zgb ah (ops.size+i)) st o.op=true)(hr:ZdJ P N T ops ra i o st=some (v,obl,st1))(hc:chk ni (Zgb ah i) i v=true)(hp:putO N st1 o.dst v=some st'):ZfG P N T ops ra ah ni i st=some (st',obl):=by
 unfold ZfG;simp only[ho,hbx,hr,hc,hp]
theorem Zrh{ps:List Nat}{i k d:Nat}{v:V}(h:chk ni ps i v=true)(hk:(k,d)∈ni)(hne:k≠i)(hp:k ∉ ps):v.says d=false:=by
 have:=List.all_eq_true.1 h _ hk;simp only[Bool.or_eq_true,Bool.not_eq_true']at this;rcases this with (h1|h1)|h1
 .exact absurd (ZaK h1) hne
 .exact absurd (ZqZ.1 h1) hp
 .exact h1
theorem Zzu{st:St}{d:Nat}(hd:d<ZoR):∀{n:Nat},(∀t,t<n->(st.get t).says d=false)->Zia st d n=true
 | 0,_=>Nat.ble_eq_true_of_le hd
 |n+1,h=>by
  simp only[Zia,h n (by omega)]
  exact Zzu hd fun t ht=>h t (by omega)
theorem Zlj{st st1 st':St}{dst:Option Nat}{v:V}{d:Nat}(hq:Zia st d N=true)(he:∀t,st1.get t=st.get t)(hv:v.says d=false)(hp:putO N st1 dst v=some st'):Zia st' d N=true:=
 Zzu (Zvh hq) fun t ht=>by
  rw[(ZaB hp t).1]
  split
  .exact hv
  .rw[he t];exact Zqh hq t ht
theorem ZiV{st st1:St}(h:st1.env=st.env)(t:Nat):st1.get t=st.get t:=by unfold St.get;rw[h]
theorem Zmj{st:St}{d:Nat}(h1:Zia st d N=true)(h2:ZhI d st.heap=true):ZdI N d st=true:=by unfold ZdI;rw[h1];exact h2
def ZAO(ops:Array Oper)(ra:RA)(ni:List (Nat×Nat)):Prop:=∀i o,ops[i]?=some o->clsX ra i o=3->(i,o.dst.getD 0)∈ni
theorem Zmv{ra:RA}{i:Nat}{o:Oper}(h:ZlG ra i o=true):clsX ra i o=3:=by
 unfold ZlG at h;unfold clsX;split at h
 .rename_i ha hk;rw[hk];split at h
  .simp only[h]
  .cases h
 .rename_i hk;rw[hk];simp only;split at h
  .simp only[Bool.and_eq_true]at h;exact Nat.eq_of_beq_eq_true h.2
  .cases h
theorem ZAV(c3:ZAO ops ra ni){k i:Nat}{a b:Oper}(ha:ops[k]?=some a)(hb:ops[i]?=some b)(d1:disj a.dst (ZfT ops b)=true)(d2:disj b.dst (ZfT ops a)=true)(d3:Zob a.dst b.dst=true)(dA:ZlG ra k a=true)(dV:ZlG ra i b=true)
  (hne:k≠i) (hki:k ∉ Zgb ah i) {st st1 st2:St} {o1 o2:List Prop} (h1:ZfG P N T ops ra ah ni k st=some (st1,o1)) (h2:ZfG P N T ops ra ah ni i st1=some (st2,o2))
  (hJ:∀o,ops[i]?=some o->clsX ra i o=3->Zia st (o.dst.getD 0) N=true) :
  ∃ai aC,ZfG P N T ops ra ah ni i st=some (ai,o2)/\ZfG P N T ops ra ah ni k ai=some (aC,o1)/\Eqv aC st2:=by
 obtain⟨a',va,sa,b5,hra,bJ,bc⟩:=Zdt h1;obtain⟨b',vb,sb,aF,bj,cl,bo⟩:=Zdt h2;rw[ha]at b5;cases b5;rw[hb]at aF;cases aF;obtain⟨ba,ix,gv,rfl,fR⟩:=Zmz dA hra;obtain⟨bb,gT,gU,rfl,fS⟩:=Zmz dV bj;have bv:st1.heap=hins st.heap (a.dst.getD 0) ba:=(ZaB bc 0).2;have g1:∀t,a.dst≠some t->st1.get t=st.get t:=fun t ht=>by rw[(ZaB bc t).1,if_neg ht];rfl
 have kH:hget st.heap (a.dst.getD 0)=none:=(ZiE (ZcY gv).2).1;have gL:hget st1.heap (b.dst.getD 0)=none:=(ZiE (ZcY gU).2).1;have eI:b.dst.getD 0≠a.dst.getD 0:=by
  intro e;rw[bv,e,Zfj,if_pos rfl]at gL;cases gL
 have iz:ZdI N (b.dst.getD 0) st=true:=by
  refine Zmj (hJ b hb (Zmv dV)) ?_;have:=(ZcY gU).2;rw[bv]at this;exact ZnC kH this
 have br:=fS st (fun t ht=>(g1 t (Zbp d1 ht)).symm) iz;obtain⟨ai,aS⟩:=Zee (st2:=⟨st.env,hins st.heap (b.dst.getD 0) bb⟩) bo;have g2:∀t,b.dst≠some t->ai.get t=st.get t:=fun t ht=>by rw[(ZaB aS t).1,if_neg ht];rfl
 have a7:ai.heap=hins st.heap (b.dst.getD 0) bb:=(ZaB aS 0).2;have fy:ZdI N (a.dst.getD 0) ai=true:=by
  obtain⟨q1,q2⟩:=ZcY gv;refine Zmj (Zlj (st1:=⟨st.env,hins st.heap (b.dst.getD 0) bb⟩) q1 (fun t=>rfl) (Zrh cl (c3 k a ha (Zmv dA)) hne hki) aS) ?_;rw[a7];exact Zvk eI (gT _) q2
 have bz:=fR ai (fun t ht=>g2 t (Zbp d2 ht)) fy;obtain⟨aC,a4⟩:=Zee (st2:=⟨ai.env,hins ai.heap (a.dst.getD 0) ba⟩) bc;have xb:bxOk (Zgb ah (ops.size+i)) st b.op=true:=by rw[Zel (st:=st1) _ (fun t ht=>(g1 t (Zbp d1 ht)).symm)];exact ZdV h2 hb
 have xa:bxOk (Zgb ah (ops.size+k)) ai a.op=true:=by rw[Zel (st:=st) _ (fun t ht=>g2 t (Zbp d2 ht))];exact ZdV h1 ha
 refine⟨ai,aC,ZfF hb xb br cl aS,ZfF ha xa bz bJ a4,⟨fun t=>?_,?_⟩⟩
 .rw[(ZaB bo t).1,(ZaB a4 t).1];have hd:¬(a.dst=some t/\b.dst=some t):=by
   rintro ⟨e1,e2⟩;rw[e1,e2]at d3;simp[Zob]at d3
  by_cases e1:a.dst=some t
  .rw[if_pos e1,if_neg (fun e2=>hd ⟨e1,e2⟩)];show (⟨st1.env,_⟩ : St).get t=_;rw[show (⟨st1.env,hins st1.heap (b.dst.getD 0) bb⟩ : St).get t=st1.get t from rfl,(ZaB bc t).1,if_pos e1]
  .rw[if_neg e1];have e3:(⟨ai.env,hins ai.heap (a.dst.getD 0) ba⟩ : St).get t=ai.get t:=rfl;rw[e3,(ZaB aS t).1];split
   .rfl
   .rw[show (⟨st1.env,hins st1.heap (b.dst.getD 0) bb⟩ : St).get t=st1.get t from rfl,g1 t e1];rfl
 .rw[(ZaB bo 0).2,(ZaB a4 0).2,bv,a7];exact ZzL (a.dst.getD 0) (b.dst.getD 0) ba bb (Ne.symm eI) st.heap
theorem ZAW(c3:ZAO ops ra ni){k i:Nat}{a b:Oper}(ha:ops[k]?=some a)(hb:ops[i]?=some b)(d1:disj a.dst (ZfT ops b)=true)(d2:disj b.dst (ZfT ops a)=true)(d3:Zob a.dst b.dst=true)(dA:(ZlG ra k a||isMk ra k a)=true)(dV:(ZlG ra i b||isMk ra i b)=true)(kI:∀t∈ZfT ops b,t<N)
  (hne:k≠i) (hki:k ∉ Zgb ah i) {st st1 st2:St} {o1 o2:List Prop} (h1:ZfG P N T ops ra ah ni k st=some (st1,o1)) (h2:ZfG P N T ops ra ah ni i st1=some (st2,o2))
  (hJ:∀o,ops[i]?=some o->clsX ra i o=3->Zia st (o.dst.getD 0) N=true) :
  ∃ai aC,ZfG P N T ops ra ah ni i st=some (ai,o2)/\ZfG P N T ops ra ah ni k ai=some (aC,o1)/\Eqv aC st2:=by
 obtain⟨a',va,sa,b5,hra,bJ,bc⟩:=Zdt h1;obtain⟨b',vb,sb,aF,bj,cl,bo⟩:=Zdt h2;rw[ha]at b5;cases b5;rw[hb]at aF;cases aF;have ca:clsX ra k a=3:=by
  rw[Bool.or_eq_true]at dA;exact dA.elim Zmv ZDe
 have cb:clsX ra i b=3:=by
  rw[Bool.or_eq_true]at dV;exact dV.elim Zmv ZDe
 obtain⟨ba,ix,gv,rfl,fR⟩:=Zzz dA hra;obtain⟨bb,gT,gU,rfl,fS⟩:=Zzz dV bj;have bv:st1.heap=hins st.heap (a.dst.getD 0) ba:=(ZaB bc 0).2;have g1:∀t,a.dst≠some t->st1.get t=st.get t:=fun t ht=>by rw[(ZaB bc t).1,if_neg ht];rfl
 have kH:hget st.heap (a.dst.getD 0)=none:=(ZiE (ZcY gv).2).1;have gL:hget st1.heap (b.dst.getD 0)=none:=(ZiE (ZcY gU).2).1;have eI:b.dst.getD 0≠a.dst.getD 0:=by
  intro e;rw[bv,e,Zfj,if_pos rfl]at gL;cases gL
 have iz:ZdI N (b.dst.getD 0) st=true:=by
  refine Zmj (hJ b hb cb) ?_;have:=(ZcY gU).2;rw[bv]at this;exact ZnC kH this
 have br:=fS st (fun t ht=>(g1 t (Zbp d1 ht)).symm) (fun x df id bb cD aF=>by
  rw[bv,Zfj]at aF;split at aF
  .rename_i e;exfalso;have:(evo st1 x).says (a.dst.getD 0)=false:=by
    cases x with
    |tmp t=>
     have ht:t∈ZfT ops b:=List.mem_append.2 (.inl (ZqS df));show (st1.get t).says _=false;rw[g1 t (Zbp d1 ht)];exact Zqh (ZcY gv).1 t (kI t ht)
    |const v=>exact Zxm v _
    |func f=>rfl
    |global g=>rfl
   rw[e]at this;simp only[this]at cD;cases cD
  .exact aF) iz
 obtain⟨ai,aS⟩:=Zee (st2:=⟨st.env,hins st.heap (b.dst.getD 0) bb⟩) bo;have g2:∀t,b.dst≠some t->ai.get t=st.get t:=fun t ht=>by rw[(ZaB aS t).1,if_neg ht];rfl
 have a7:ai.heap=hins st.heap (b.dst.getD 0) bb:=(ZaB aS 0).2;have fy:ZdI N (a.dst.getD 0) ai=true:=by
  obtain⟨q1,q2⟩:=ZcY gv;refine Zmj (Zlj (st1:=⟨st.env,hins st.heap (b.dst.getD 0) bb⟩) q1 (fun t=>rfl) (Zrh cl (c3 k a ha ca) hne hki) aS) ?_;rw[a7];exact Zvk eI (gT _) q2
 have bz:=fR ai (fun t ht=>g2 t (Zbp d2 ht)) (fun x df id bb' cD aF=>by
  rw[a7,Zfj];split
  .rename_i e;exfalso;have gV:=(ZiE (ZcY iz).2).1;rw[e]at gV;rw[aF]at gV;cases gV
  .exact aF) fy
 obtain⟨aC,a4⟩:=Zee (st2:=⟨ai.env,hins ai.heap (a.dst.getD 0) ba⟩) bc;have xb:bxOk (Zgb ah (ops.size+i)) st b.op=true:=by rw[Zel (st:=st1) _ (fun t ht=>(g1 t (Zbp d1 ht)).symm)];exact ZdV h2 hb
 have xa:bxOk (Zgb ah (ops.size+k)) ai a.op=true:=by rw[Zel (st:=st) _ (fun t ht=>g2 t (Zbp d2 ht))];exact ZdV h1 ha
 refine⟨ai,aC,ZfF hb xb br cl aS,ZfF ha xa bz bJ a4,⟨fun t=>?_,?_⟩⟩
 .rw[(ZaB bo t).1,(ZaB a4 t).1];have hd:¬(a.dst=some t/\b.dst=some t):=by
   rintro ⟨e1,e2⟩;rw[e1,e2]at d3;simp[Zob]at d3
  by_cases e1:a.dst=some t
  .rw[if_pos e1,if_neg (fun e2=>hd ⟨e1,e2⟩)];show (⟨st1.env,_⟩ : St).get t=_;rw[show (⟨st1.env,hins st1.heap (b.dst.getD 0) bb⟩ : St).get t=st1.get t from rfl,(ZaB bc t).1,if_pos e1]
  .rw[if_neg e1];have e3:(⟨ai.env,hins ai.heap (a.dst.getD 0) ba⟩ : St).get t=ai.get t:=rfl;rw[e3,(ZaB aS t).1];split
   .rfl
   .rw[show (⟨st1.env,hins st1.heap (b.dst.getD 0) bb⟩ : St).get t=st1.get t from rfl,g1 t e1];rfl
 .rw[(ZaB bo 0).2,(ZaB a4 0).2,bv,a7];exact ZzL (a.dst.getD 0) (b.dst.getD 0) ba bb (Ne.symm eI) st.heap
theorem Zzf(c3:ZAO ops ra ni){k i e:Nat}{a b:Oper}(ha:ops[k]?=some a)(hb:ops[i]?=some b)(d1:disj a.dst (ZfT ops b)=true)(d2:disj b.dst (ZfT ops a)=true)(d3:Zob a.dst b.dst=true)(dA:plOf ra k a=some e)(dV:ZlG ra i b=true)(fA:b.dst.getD 0≠e)
  {st st1 st2:St} {o1 o2:List Prop} (h1:ZfG P N T ops ra ah ni k st=some (st1,o1)) (h2:ZfG P N T ops ra ah ni i st1=some (st2,o2))
  (hJ:∀o,ops[i]?=some o->clsX ra i o=3->Zia st (o.dst.getD 0) N=true) :
  ∃ai aC,ZfG P N T ops ra ah ni i st=some (ai,o2)/\ZfG P N T ops ra ah ni k ai=some (aC,o1)/\Eqv aC st2:=by
 obtain⟨a',va,sa,b5,hra,bJ,bc⟩:=Zdt h1;obtain⟨b',vb,sb,aF,bj,cl,bo⟩:=Zdt h2;rw[ha]at b5;cases b5;rw[hb]at aF;cases aF;obtain⟨ba,ix,rfl,sa3,fR⟩:=Znu dA hra;obtain⟨bb,gT,gU,rfl,fS⟩:=Zmz dV bj;have bv:st1.heap=hrep st.heap e ba:=(ZaB bc 0).2;have g1:∀t,a.dst≠some t->st1.get t=st.get t:=fun t ht=>by rw[(ZaB bc t).1,if_neg ht];rfl
 have iz:ZdI N (b.dst.getD 0) st=true:=by
  refine Zmj (hJ b hb (Zmv dV)) ?_;have:=(ZcY gU).2;rw[bv]at this;exact Zrr (Ne.symm fA) (fun b0 h0=>sa3 _ b0 fA h0) this
 have br:=fS st (fun t ht=>(g1 t (Zbp d1 ht)).symm) iz;obtain⟨ai,aS⟩:=Zee (st2:=⟨st.env,hins st.heap (b.dst.getD 0) bb⟩) bo;have g2:∀t,b.dst≠some t->ai.get t=st.get t:=fun t ht=>by rw[(ZaB aS t).1,if_neg ht];rfl
 have a7:ai.heap=hins st.heap (b.dst.getD 0) bb:=(ZaB aS 0).2;have bz:=fR ai (fun t ht=>g2 t (Zbp d2 ht)) (by rw[a7,Zfj,if_neg fA]);obtain⟨aC,a4⟩:=Zee (st2:=⟨ai.env,hrep ai.heap e ba⟩) bc;have xb:bxOk (Zgb ah (ops.size+i)) st b.op=true:=by rw[Zel (st:=st1) _ (fun t ht=>(g1 t (Zbp d1 ht)).symm)];exact ZdV h2 hb
 have xa:bxOk (Zgb ah (ops.size+k)) ai a.op=true:=by rw[Zel (st:=st) _ (fun t ht=>g2 t (Zbp d2 ht))];exact ZdV h1 ha
 refine⟨ai,aC,ZfF hb xb br cl aS,ZfF ha xa bz bJ a4,⟨fun t=>?_,?_⟩⟩
 .rw[(ZaB bo t).1,(ZaB a4 t).1];have hd:¬(a.dst=some t/\b.dst=some t):=by
   rintro ⟨e1,e2⟩;rw[e1,e2]at d3;simp[Zob]at d3
  by_cases e1:a.dst=some t
  .rw[if_pos e1,if_neg (fun e2=>hd ⟨e1,e2⟩)];show (⟨st1.env,_⟩ : St).get t=_;rw[show (⟨st1.env,hins st1.heap (b.dst.getD 0) bb⟩ : St).get t=st1.get t from rfl,(ZaB bc t).1,if_pos e1]
  .rw[if_neg e1];have e3:(⟨ai.env,hrep ai.heap e ba⟩ : St).get t=ai.get t:=rfl;rw[e3,(ZaB aS t).1];split
   .rfl
   .rw[show (⟨st1.env,hins st1.heap (b.dst.getD 0) bb⟩ : St).get t=st1.get t from rfl,g1 t e1];rfl
 .rw[(ZaB bo 0).2,(ZaB a4 0).2];simp only;rw[bv,a7,ZzK fA]
theorem Zze(c3:ZAO ops ra ni){k i e:Nat}{a b:Oper}(ha:ops[k]?=some a)(hb:ops[i]?=some b)(d1:disj a.dst (ZfT ops b)=true)(d2:disj b.dst (ZfT ops a)=true)(d3:Zob a.dst b.dst=true)(dA:ZlG ra k a=true)(dV:plOf ra i b=some e)(fA:a.dst.getD 0≠e)
  (hne:k≠i) (hki:k ∉ Zgb ah i) {st st1 st2:St} {o1 o2:List Prop} (h1:ZfG P N T ops ra ah ni k st=some (st1,o1)) (h2:ZfG P N T ops ra ah ni i st1=some (st2,o2)) :
  ∃ai aC,ZfG P N T ops ra ah ni i st=some (ai,o2)/\ZfG P N T ops ra ah ni k ai=some (aC,o1)/\Eqv aC st2:=by
 obtain⟨a',va,sa,b5,hra,bJ,bc⟩:=Zdt h1;obtain⟨b',vb,sb,aF,bj,cl,bo⟩:=Zdt h2;rw[ha]at b5;cases b5;rw[hb]at aF;cases aF;obtain⟨ba,ix,gv,rfl,fR⟩:=Zmz dA hra;obtain⟨bb,gT,rfl,sb3,fS⟩:=Znu dV bj;have bv:st1.heap=hins st.heap (a.dst.getD 0) ba:=(ZaB bc 0).2;have g1:∀t,a.dst≠some t->st1.get t=st.get t:=fun t ht=>by rw[(ZaB bc t).1,if_neg ht];rfl
 have br:=fS st (fun t ht=>(g1 t (Zbp d1 ht)).symm) (by rw[bv,Zfj,if_neg fA]);obtain⟨ai,aS⟩:=Zee (st2:=⟨st.env,hrep st.heap e bb⟩) bo;have g2:∀t,b.dst≠some t->ai.get t=st.get t:=fun t ht=>by rw[(ZaB aS t).1,if_neg ht];rfl
 have a7:ai.heap=hrep st.heap e bb:=(ZaB aS 0).2;have fy:ZdI N (a.dst.getD 0) ai=true:=by
  obtain⟨q1,q2⟩:=ZcY gv;refine Zmj (Zlj (st1:=⟨st.env,hrep st.heap e bb⟩) q1 (fun t=>rfl) (Zrh cl (c3 k a ha (Zmv dA)) hne hki) aS) ?_;rw[a7];exact Zvj (gT _ fA) q2
 have bz:=fR ai (fun t ht=>g2 t (Zbp d2 ht)) fy;obtain⟨aC,a4⟩:=Zee (st2:=⟨ai.env,hins ai.heap (a.dst.getD 0) ba⟩) bc;have xb:bxOk (Zgb ah (ops.size+i)) st b.op=true:=by rw[Zel (st:=st1) _ (fun t ht=>(g1 t (Zbp d1 ht)).symm)];exact ZdV h2 hb
 have xa:bxOk (Zgb ah (ops.size+k)) ai a.op=true:=by rw[Zel (st:=st) _ (fun t ht=>g2 t (Zbp d2 ht))];exact ZdV h1 ha
 refine⟨ai,aC,ZfF hb xb br cl aS,ZfF ha xa bz bJ a4,⟨fun t=>?_,?_⟩⟩
 .rw[(ZaB bo t).1,(ZaB a4 t).1];have hd:¬(a.dst=some t/\b.dst=some t):=by
   rintro ⟨e1,e2⟩;rw[e1,e2]at d3;simp[Zob]at d3
  by_cases e1:a.dst=some t
  .rw[if_pos e1,if_neg (fun e2=>hd ⟨e1,e2⟩)];show (⟨st1.env,_⟩ : St).get t=_;rw[show (⟨st1.env,hrep st1.heap e bb⟩ : St).get t=st1.get t from rfl,(ZaB bc t).1,if_pos e1]
  .rw[if_neg e1];have e3:(⟨ai.env,hins ai.heap (a.dst.getD 0) ba⟩ : St).get t=ai.get t:=rfl;rw[e3,(ZaB aS t).1];split
   .rfl
   .rw[show (⟨st1.env,hrep st1.heap e bb⟩ : St).get t=st1.get t from rfl,g1 t e1];rfl
 .rw[(ZaB bo 0).2,(ZaB a4 0).2];simp only;rw[bv,a7,ZzK fA]
theorem ZAB{op:Op}{st:St}{c:Nat}{l:List Nat}(h:bxOk (c :: l) st op=true)(hl:isLd op=true):∀x∈Zcw op,∀id,(evo st x).says id=true->id=c:=by
 unfold bxOk at h;cases op<;>simp only[isLd]at hl<;>try (cases hl;done)
 rename_i t y;intro x hx id hs;simp only[Zcw,List.mem_singleton]at hx;subst hx;simp only at h;split at h
 .rename_i d off hq;rw[hq]at hs;simp only[V.says,C.says]at hs;rw[<-ZaK h];exact(ZaK hs).symm
 .rename_i hq;rw[hq]at hs;simp only[V.says,C.says]at hs;cases hs
 .cases h
theorem Zzd{k i e c:Nat}{l:List Nat}{a b:Oper}(ha:ops[k]?=some a)(hb:ops[i]?=some b)(d1:disj a.dst (ZfT ops b)=true)(d2:disj b.dst (ZfT ops a)=true)(d3:Zob a.dst b.dst=true)(dZ:isLd a.op=true)(bL:ZcR ra.hc k=none)(fB:Zgb ah (ops.size+k)=c :: l)(dV:plOf ra i b=some e)(kJ:c≠e)
  {st st1 st2:St} {o1 o2:List Prop} (h1:ZfG P N T ops ra ah ni k st=some (st1,o1)) (h2:ZfG P N T ops ra ah ni i st1=some (st2,o2)) :
  ∃ai aC,ZfG P N T ops ra ah ni i st=some (ai,o2)/\ZfG P N T ops ra ah ni k ai=some (aC,o1)/\Eqv aC st2:=by
 obtain⟨a',va,sa,b5,hra,bJ,bc⟩:=Zdt h1;obtain⟨b',vb,sb,aF,bj,cl,bo⟩:=Zdt h2;rw[ha]at b5;cases b5;rw[hb]at aF;cases aF;have cQ:=ZdV h1 ha;rw[fB]at cQ;have c1:clsX ra k a=1:=by
  rw[ZiD bL];cases hq:a.op<;>rw[hq]at dZ<;>first | (cases dZ;done)|rfl
 obtain⟨ea,gW,_⟩:=ZfK (st2:=st) (by omega) (fun t _=>rfl) (fun _=>rfl) (fun _ h=>h) hra;have bZ:st1.heap=st.heap:=(ZaB bc 0).2.trans (gW (by omega));have g1:∀t,a.dst≠some t->st1.get t=st.get t:=fun t ht=>by rw[(ZaB bc t).1,if_neg ht];exact ZiV ea t
 have eb:=ZqX bj;obtain⟨bb,gT,rfl,sb3,fS⟩:=Znu dV bj;have br:=fS st (fun t ht=>(g1 t (Zbp d1 ht)).symm) (by rw[bZ]);obtain⟨ai,aS⟩:=Zee (st2:=⟨st.env,hrep st.heap e bb⟩) bo;have g2:∀t,b.dst≠some t->ai.get t=st.get t:=fun t ht=>by rw[(ZaB aS t).1,if_neg ht];rfl
 have a7:ai.heap=hrep st.heap e bb:=(ZaB aS 0).2;have bz:ZdJ P N T ops ra k a ai=some (va,o1,ai):=by
  refine Zlk c1 (fun t ht=>g2 t (Zbp d2 ht)) (fun x df id b0 cD bk=>?_) hra;have hid:=ZAB cQ dZ x df id cD;rw[a7,Zsy,if_neg (by rw[hid];exact Ne.symm kJ)];exact bk
 obtain⟨aC,a4⟩:=Zee (st2:=ai) bc;have xb:bxOk (Zgb ah (ops.size+i)) st b.op=true:=by rw[Zel (st:=st1) _ (fun t ht=>(g1 t (Zbp d1 ht)).symm)];exact ZdV h2 hb
 have xa:bxOk (Zgb ah (ops.size+k)) ai a.op=true:=by rw[Zel (st:=st) _ (fun t ht=>g2 t (Zbp d2 ht))];exact ZdV h1 ha
 refine⟨ai,aC,ZfF hb xb br cl aS,ZfF ha xa bz bJ a4,⟨fun t=>?_,?_⟩⟩
 .rw[(ZaB bo t).1,(ZaB a4 t).1];have hd:¬(a.dst=some t/\b.dst=some t):=by
   rintro ⟨e1,e2⟩;rw[e1,e2]at d3;simp[Zob]at d3
  by_cases e1:a.dst=some t
  .rw[if_pos e1,if_neg (fun e2=>hd ⟨e1,e2⟩),ZiV eb,(ZaB bc t).1,if_pos e1]
  .rw[if_neg e1];rw[(ZaB aS t).1];split
   .rfl
   .rw[ZiV eb,g1 t e1];rfl
 .rw[(ZaB bo 0).2,(ZaB a4 0).2,a7];simp only;rw[bZ]
theorem Zzc{k i e c:Nat}{l:List Nat}{a b:Oper}(ha:ops[k]?=some a)(hb:ops[i]?=some b)(d1:disj a.dst (ZfT ops b)=true)(d2:disj b.dst (ZfT ops a)=true)(d3:Zob a.dst b.dst=true)(kK:isLd b.op=true)(bL:ZcR ra.hc i=none)(iY:Zgb ah (ops.size+i)=c :: l)(dA:plOf ra k a=some e)(kJ:c≠e)
  {st st1 st2:St} {o1 o2:List Prop} (h1:ZfG P N T ops ra ah ni k st=some (st1,o1)) (h2:ZfG P N T ops ra ah ni i st1=some (st2,o2)) :
  ∃ai aC,ZfG P N T ops ra ah ni i st=some (ai,o2)/\ZfG P N T ops ra ah ni k ai=some (aC,o1)/\Eqv aC st2:=by
 obtain⟨a',va,sa,b5,hra,bJ,bc⟩:=Zdt h1;obtain⟨b',vb,sb,aF,bj,cl,bo⟩:=Zdt h2;rw[ha]at b5;cases b5;rw[hb]at aF;cases aF;have fC:=ZdV h2 hb;rw[iY]at fC;have c1:clsX ra i b=1:=by
  rw[ZiD bL];cases hq:b.op<;>rw[hq]at kK<;>first | (cases kK;done)|rfl
 obtain⟨ba,ix,rfl,sa3,fR⟩:=Znu dA hra;have bv:st1.heap=hrep st.heap e ba:=(ZaB bc 0).2;have g1:∀t,a.dst≠some t->st1.get t=st.get t:=fun t ht=>by rw[(ZaB bc t).1,if_neg ht];rfl
 obtain⟨eb,j0,_⟩:=ZfK (st2:=st1) (by omega) (fun t _=>rfl) (fun _=>rfl) (fun _ h=>h) bj;have br:ZdJ P N T ops ra i b st=some (vb,o2,st):=by
  refine Zlk c1 (fun t ht=>(g1 t (Zbp d1 ht)).symm) (fun x df id b0 cD bk=>?_) bj;have hid:=ZAB fC kK x df id cD;rw[bv,Zsy,if_neg (by rw[hid];exact Ne.symm kJ)]at bk;exact bk
 obtain⟨ai,aS⟩:=Zee (st2:=st) bo;have g2:∀t,b.dst≠some t->ai.get t=st.get t:=fun t ht=>by rw[(ZaB aS t).1,if_neg ht]
 have a7:ai.heap=st.heap:=(ZaB aS 0).2;have bz:=fR ai (fun t ht=>g2 t (Zbp d2 ht)) (by rw[a7]);obtain⟨aC,a4⟩:=Zee (st2:=⟨ai.env,hrep ai.heap e ba⟩) bc;have xb:bxOk (Zgb ah (ops.size+i)) st b.op=true:=by rw[Zel (st:=st1) _ (fun t ht=>(g1 t (Zbp d1 ht)).symm)];exact ZdV h2 hb
 have xa:bxOk (Zgb ah (ops.size+k)) ai a.op=true:=by rw[Zel (st:=st) _ (fun t ht=>g2 t (Zbp d2 ht))];exact ZdV h1 ha
 refine⟨ai,aC,ZfF hb xb br cl aS,ZfF ha xa bz bJ a4,⟨fun t=>?_,?_⟩⟩
 .rw[(ZaB bo t).1,(ZaB a4 t).1];have hd:¬(a.dst=some t/\b.dst=some t):=by
   rintro ⟨e1,e2⟩;rw[e1,e2]at d3;simp[Zob]at d3
  by_cases e1:a.dst=some t
  .rw[if_pos e1,if_neg (fun e2=>hd ⟨e1,e2⟩),ZiV eb,(ZaB bc t).1,if_pos e1]
  .rw[if_neg e1];rw[show (⟨ai.env,hrep ai.heap e ba⟩ : St).get t=ai.get t from rfl,(ZaB aS t).1];split
   .rfl
   .rw[ZiV eb,g1 t e1]
 .rw[(ZaB bo 0).2,(ZaB a4 0).2,j0 (by omega),bv,a7]
theorem ZBI{T:Tab}{st st':St}{t d off:Nat}{v:V}{an:Option Ans}{obl:List Prop}(h:Zoa T st t (.one (.ptr d off)) v an=some (obl,st')):∀id,id≠d->hget st'.heap id=hget st.heap id:=by
 intro id hne;unfold Zoa at h;split at h
 .split at h
  .simp only at h;split at h
   .split at h
    .cases h;simp only[Zqm];rw[if_neg (Ne.symm hne)]
    .cases h
   .cases h
  .cases h
 .cases h
theorem ZGg{o:Oper}{i d off:Nat}{st st':St}{t:TypeId}{x y:Operand}{v:V}{obl:List Prop}(ho:o.op=.store t x y)(hx:evo st x=.one (.ptr d off))(h:Znb P N T ops ra i o st=some (v,obl,st')):∀id,id≠d->hget st'.heap id=hget st.heap id:=by
 intro id hne;unfold Znb at h;split at h
 .cases h
 .cases h;rfl
 .split at h
  .cases h
  rename_i v0 cj st0 bf;split at h
  .cases h
  split at h;rotate_left
  .cases h
  split at h;rotate_left
  .cases h
  cases h;unfold evOp at bf;simp only[ho,hx]at bf;split at bf
  .rename_i q hq;cases bf;exact ZBI hq id hne
  .cases bf
theorem ZAX{k i:Nat}(az:okLS ops ra ah k i=true){st st1 st2:St}{o1 o2:List Prop}(h1:ZfG P N T ops ra ah ni k st=some (st1,o1))(h2:ZfG P N T ops ra ah ni i st1=some (st2,o2)) :
  ∃ai aC,ZfG P N T ops ra ah ni i st=some (ai,o2)/\ZfG P N T ops ra ah ni k ai=some (aC,o1)/\Eqv aC st2:=by
 obtain⟨a,va,sa,ha,hra,bJ,bc⟩:=Zdt h1;obtain⟨b,vb,sb,hb,bj,cl,bo⟩:=Zdt h2;have cQ:=ZdV h1 ha;have fC:=ZdV h2 hb;unfold okLS at az;rw[ha,hb]at az;split at az;rotate_left
 .cases az
 rename_i a' b' c l d l' ea eb fB iY;cases ea;cases eb;simp only[Bool.and_eq_true,Bool.not_eq_true',Option.isNone_iff_eq_none]at az;obtain⟨⟨⟨⟨⟨⟨⟨d1,d2⟩,d3⟩,dZ⟩,dB⟩,bL⟩,hk2⟩,gX⟩:=az;have gX:c≠d:=Nat.ne_of_beq_eq_false gX;rw[fB]at cQ;rw[iY]at fC;have c1:clsX ra k a=1:=by
  rw[ZiD bL];cases hq:a.op<;>rw[hq]at dZ<;>first | (cases dZ;done)|rfl
 have c2:clsX ra i b=2:=by
  rw[ZiD hk2];cases hq:b.op<;>rw[hq]at dB<;>first | (cases dB;done)|rfl
 obtain⟨ea,gW,_⟩:=ZfK (st2:=st) (by omega) (fun t _=>rfl) (fun _=>rfl) (fun _ h=>h) hra;have bZ:st1.heap=st.heap:=(ZaB bc 0).2.trans (gW (by omega));have g1:∀t,a.dst≠some t->st1.get t=st.get t:=fun t ht=>by rw[(ZaB bc t).1,if_neg ht];exact ZiV ea t
 obtain⟨eb,_,br⟩:=ZfK (st2:=st) (by omega) (fun t ht=>(g1 t (Zbp d1 ht)).symm) (fun _=>bZ.symm) (fun h=>by omega) bj;rw[if_neg (by omega)]at br;obtain⟨ai,aS⟩:=Zee (st2:=⟨st.env,sb.heap⟩) bo;have g2:∀t,b.dst≠some t->ai.get t=st.get t:=fun t ht=>by rw[(ZaB aS t).1,if_neg ht];rfl
 have eJ:ai.heap=sb.heap:=(ZaB aS 0).2;have kL:∀id,id≠d->hget sb.heap id=hget st.heap id:=by
  intro id hne;rw[<-bZ];unfold ZdJ at bj;rw[hk2]at bj;simp only at bj;unfold bxOk at fC;cases hq:b.op<;>rw[hq]at dB<;>try (cases dB;done)
  rename_i t x y;rw[hq]at fC;simp only at fC;split at fC
  .rename_i d' off hx;have:=ZaK fC;subst this;exact ZGg hq hx bj id hne
  .cases fC
 have bz:ZdJ P N T ops ra k a ai=some (va,o1,ai):=by
  refine Zlk c1 (fun t ht=>g2 t (Zbp d2 ht)) (fun x df id bb cD aF=>?_) hra;rw[eJ,kL id ?_]
  .exact aF
  rintro rfl;unfold bxOk at cQ;cases hq:a.op<;>rw[hq]at dZ<;>try (cases dZ;done)
  rename_i t y;rw[hq]at cQ df;simp only[Zcw,List.mem_singleton]at df;subst df;simp only at cQ;split at cQ
  .rename_i d' off hx;have:=ZaK cQ;subst this;simp only[hx,V.says,C.says]at cD;exact gX (ZaK cD)
  .rename_i hx;simp only[hx,V.says,C.says]at cD;cases cD
  .cases cQ
 obtain⟨aC,a4⟩:=Zee (st2:=ai) bc;have xb:bxOk (Zgb ah (ops.size+i)) st b.op=true:=by rw[Zel (st:=st1) _ (fun t ht=>(g1 t (Zbp d1 ht)).symm)];exact ZdV h2 hb
 have xa:bxOk (Zgb ah (ops.size+k)) ai a.op=true:=by rw[Zel (st:=st) _ (fun t ht=>g2 t (Zbp d2 ht))];exact ZdV h1 ha
 refine⟨ai,aC,ZfF hb xb br cl aS,ZfF ha xa bz bJ a4,⟨fun t=>?_,?_⟩⟩
 .rw[(ZaB bo t).1,(ZaB a4 t).1];have hd:¬(a.dst=some t/\b.dst=some t):=by
   rintro ⟨e1,e2⟩;rw[e1,e2]at d3;simp[Zob]at d3
  by_cases e1:a.dst=some t
  .rw[if_pos e1,if_neg (fun e2=>hd ⟨e1,e2⟩),ZiV eb,(ZaB bc t).1,if_pos e1]
  .rw[if_neg e1,(ZaB aS t).1];split
   .rfl
   .rw[ZiV eb,g1 t e1];rfl
 .rw[(ZaB bo 0).2,(ZaB a4 0).2,eJ]
theorem ZwS{st st1:St}{d t:Nat}{s x:V}{an:Option Ans}{v:V}{obl:List Prop}(hn:hget st.heap d=none)(h:ZjW N T st d t s x an=some (v,obl,st1)):∀id l,hget st.heap id=some (.box l)->hget st1.heap id=some (.box l):=by
 intro id' l' hb;have hd:d≠id':=by
  rintro rfl;rw[hn]at hb;cases hb
 unfold ZjW at h
 repeat' split at h
 all_goals first | (cases h;done)|skip
 all_goals (simp only[Option.some.injEq,Prod.mk.injEq]at h;obtain⟨_,_,rfl⟩:=h)
 .rw[Zbw,if_neg hd,ZlH,if_neg]
  .exact hb
  .rintro rfl;simp_all
 .show hget (hins _ _ _) _=_;rw[Zfj,if_neg hd];exact hb
theorem ZEK{st:St}{t id off:Nat}{r:V×List Prop}(h:ZoL T st t (.one (.ptr id off))=some r):∃l,hget st.heap id=some (.box l):=by
 unfold ZoL at h;split at h
 .cases h
 split at h
 .cases h
 simp only at h;split at h
 .rename_i l hl;exact⟨l,hl⟩
 .cases h
theorem ZAZ{k i:Nat}(az:okLA ops ra ah k i=true){st st1 st2:St}{o1 o2:List Prop}(h1:ZfG P N T ops ra ah ni k st=some (st1,o1))(h2:ZfG P N T ops ra ah ni i st1=some (st2,o2))
  (hJ:∀o,ops[i]?=some o->clsX ra i o=3->Zia st (o.dst.getD 0) N=true) :
  ∃ai aC,ZfG P N T ops ra ah ni i st=some (ai,o2)/\ZfG P N T ops ra ah ni k ai=some (aC,o1)/\Eqv aC st2:=by
 obtain⟨a,va,sa,ha,hra,bJ,bc⟩:=Zdt h1;obtain⟨b,vb,sb,hb,bj,cl,bo⟩:=Zdt h2;have cQ:=ZdV h1 ha;unfold okLA at az;rw[ha,hb]at az;split at az;rotate_left
 .cases az
 rename_i a' b' c l ea eb fB;cases ea;cases eb;simp only[Bool.and_eq_true,Bool.not_eq_true',Option.isNone_iff_eq_none]at az;obtain⟨⟨⟨⟨⟨⟨⟨⟨d1,d2⟩,d3⟩,dZ⟩,dB⟩,hga⟩,bL⟩,hk2⟩,gX⟩:=az;have gX:c≠99998:=Nat.ne_of_beq_eq_false gX;rw[fB]at cQ;obtain⟨ta,xa,fy⟩ : ∃t x,a.op=.load t x:=by
  cases hq:a.op<;>rw[hq]at dZ<;>first | (cases dZ;done)|exact⟨_,_,rfl⟩
 have c1:clsX ra k a=1:=by rw[ZiD bL,fy];rfl
 have c2:clsX ra i b=3:=by
  rw[ZiD hk2];unfold ZKg at dB;split at dB
  .rename_i hq;split at dB
   .rename_i hw;rw[hq];simp only[Zfr,hw]
   .cases dB
  .cases dB
 -- where the load looks
 obtain⟨off,hxa⟩ : ∃off,evo st xa=.one (.ptr c off):=by
  unfold bxOk at cQ;rw[fy]at cQ;simp only at cQ;split at cQ
  .rename_i d' off hx;have:=ZaK cQ;subst this;exact⟨off,hx⟩
  .exact absurd (ZaK cQ).symm gX
  .cases cQ
 obtain⟨bl,hbl⟩ : ∃l,hget st.heap c=some (.box l):=by
  unfold ZdJ at hra;rw[bL]at hra;simp only[Znb,ZgX,hga,evOp,fy,hxa]at hra;cases hl:ZoL T st ta (.one (.ptr c off))with
  |none=>rw[hl]at hra;cases hra
  |some r=>exact ZEK hl
 obtain⟨ea,gW,_⟩:=ZfK (st2:=st) (by omega) (fun t _=>rfl) (fun _=>rfl) (fun _ h=>h) hra;have bZ:st1.heap=st.heap:=(ZaB bc 0).2.trans (gW (by omega));have g1:∀t,a.dst≠some t->st1.get t=st.get t:=fun t ht=>by rw[(ZaB bc t).1,if_neg ht];exact ZiV ea t
 have hqt:ZdI N (b.dst.getD 0) st1=true->ZdI N (b.dst.getD 0) st=true:=fun hq=>Zmj (hJ b hb c2) (by rw[<-bZ];exact(ZcY hq).2);obtain⟨eb,_,br⟩:=ZfK (st2:=st) (by omega) (fun t ht=>(g1 t (Zbp d1 ht)).symm) (fun _=>bZ.symm) (fun _ hq=>hqt hq) bj;rw[if_neg (by omega)]at br;obtain⟨ai,aS⟩:=Zee (st2:=⟨st.env,sb.heap⟩) bo;have g2:∀t,b.dst≠some t->ai.get t=st.get t:=fun t ht=>by rw[(ZaB aS t).1,if_neg ht];rfl
 have eJ:ai.heap=sb.heap:=(ZaB aS 0).2;have bR:hget sb.heap c=some (.box bl):=by
  have bB:hget st1.heap c=some (.box bl):=by rw[bZ];exact hbl
  unfold ZdJ at bj;rw[hk2]at bj;simp only at bj;have de:Zfr ra i b.op=3:=by rw[<-ZiD hk2];exact c2
  unfold Znb at bj;split at bj
  .cases bj
  .cases bj;exact bB
  .split at bj
   .cases bj
   rename_i v0 cj st0 bf;have gY:=Zre de bf;split at bj
   .cases bj
   split at bj;rotate_left
   .cases bj
   split at bj;rotate_left
   .cases bj
   cases bj;unfold ZKg at dB;split at dB
   .rename_i hq;split at dB
    .rename_i hw;simp only[evOp,hq,hw]at bf;split at bf
     .split at bf
      .exact ZwS (ZiE (ZcY gY).2).1 bf c bl bB
      .cases bf
     .cases bf
    .cases dB
   .cases dB
 have bz:ZdJ P N T ops ra k a ai=some (va,o1,ai):=by
  refine Zlk c1 (fun t ht=>g2 t (Zbp d2 ht)) (fun x df id bb cD aF=>?_) hra;rw[fy]at df;simp only[Zcw,List.mem_singleton]at df;subst df;rw[hxa]at cD;simp only[V.says,C.says]at cD;have:=ZaK cD;subst this;rw[hbl]at aF;cases aF;rw[eJ];exact bR
 obtain⟨aC,a4⟩:=Zee (st2:=ai) bc;have xb:bxOk (Zgb ah (ops.size+i)) st b.op=true:=by rw[Zel (st:=st1) _ (fun t ht=>(g1 t (Zbp d1 ht)).symm)];exact ZdV h2 hb
 have xa':bxOk (Zgb ah (ops.size+k)) ai a.op=true:=by rw[Zel (st:=st) _ (fun t ht=>g2 t (Zbp d2 ht))];exact ZdV h1 ha
 refine⟨ai,aC,ZfF hb xb br cl aS,ZfF ha xa' bz bJ a4,⟨fun t=>?_,?_⟩⟩
 .rw[(ZaB bo t).1,(ZaB a4 t).1];have hd:¬(a.dst=some t/\b.dst=some t):=by
   rintro ⟨e1,e2⟩;rw[e1,e2]at d3;simp[Zob]at d3
  by_cases e1:a.dst=some t
  .rw[if_pos e1,if_neg (fun e2=>hd ⟨e1,e2⟩),ZiV eb,(ZaB bc t).1,if_pos e1]
  .rw[if_neg e1,(ZaB aS t).1];split
   .rfl
   .rw[ZiV eb,g1 t e1];rfl
 .rw[(ZaB bo 0).2,(ZaB a4 0).2,eJ]
theorem ZAY(c3:ZAO ops ra ni){k i:Nat}(az:ZBr N ops ra ah k i=true)(hne:k≠i)(hki:k ∉ Zgb ah i){st st1 st2:St}{o1 o2:List Prop}(h1:ZfG P N T ops ra ah ni k st=some (st1,o1))(h2:ZfG P N T ops ra ah ni i st1=some (st2,o2))
  (hJ:∀o,ops[i]?=some o->clsX ra i o=3->Zia st (o.dst.getD 0) N=true) :
  ∃ai aC,ZfG P N T ops ra ah ni i st=some (ai,o2)/\ZfG P N T ops ra ah ni k ai=some (aC,o1)/\Eqv aC st2:=by
 obtain⟨a,va,sa,ha,hra,bJ,bc⟩:=Zdt h1;obtain⟨b,vb,sb,hb,bj,cl,bo⟩:=Zdt h2;unfold ZBr at az;rw[Bool.or_eq_true,Bool.or_eq_true,Bool.or_eq_true]at az;rcases az with ((az|az)|az)|az
 rotate_right
 .exact ZAZ az h1 h2 hJ
 rotate_left
 .exact ZAX az h1 h2
 .unfold okLC at az;rw[ha,hb]at az;simp only[Bool.and_eq_true]at az;obtain⟨⟨⟨d1,d2⟩,d3⟩,az⟩:=az;split at az
  .rename_i e gZ g3;rw[Bool.or_eq_true]at az;rcases az with az|az
   .rw[Bool.and_eq_true]at az;exact Zzf c3 ha hb d1 d2 d3 gZ az.1 (Nat.ne_of_beq_eq_false (by simpa using az.2)) h1 h2 hJ
   .simp only[Bool.and_eq_true,Option.isNone_iff_eq_none]at az;obtain⟨⟨q1,q2⟩,q3⟩:=az;split at q3
    .rename_i c l kM;exact Zzc ha hb d1 d2 d3 q1 q2 kM gZ (Nat.ne_of_beq_eq_false (by simpa using q3)) h1 h2
    .cases q3
  .rename_i e gZ g3;rw[Bool.or_eq_true]at az;rcases az with az|az
   .rw[Bool.and_eq_true]at az;exact Zze c3 ha hb d1 d2 d3 az.1 g3 (Nat.ne_of_beq_eq_false (by simpa using az.2)) hne hki h1 h2
   .simp only[Bool.and_eq_true,Option.isNone_iff_eq_none]at az;obtain⟨⟨q1,q2⟩,q3⟩:=az;split at q3
    .rename_i c l kM;exact Zzd ha hb d1 d2 d3 q1 q2 kM g3 (Nat.ne_of_beq_eq_false (by simpa using q3)) h1 h2
    .cases q3
  .cases az
 unfold ZJn at az;rw[ha,hb]at az;simp only[Bool.and_eq_true,Bool.or_eq_true]at az;obtain⟨⟨⟨d1,d2⟩,d3⟩,de⟩:=az;rcases de with (de|⟨hR1,hR2⟩)|⟨⟨hR1,hR2⟩,hR3⟩;rotate_left
 .exact ZAV c3 ha hb d1 d2 d3 hR1 hR2 hne hki h1 h2 hJ
 .exact ZAW c3 ha hb d1 d2 d3 (by rw[Bool.or_eq_true];exact hR1) (by rw[Bool.or_eq_true];exact hR2) (fun t ht=>Nat.le_of_ble_eq_true (List.all_eq_true.1 hR3 t ht)) hne hki h1 h2 hJ
 have iZ:(clsX ra k a<=1/\clsX ra i b<=1)\/(clsX ra k a=0/\clsX ra i b<=3)\/(clsX ra i b=0/\clsX ra k a<=3)\/(clsX ra k a=3/\clsX ra i b=1/\∀t∈ZfT ops b,t<N)\/(clsX ra k a=1/\clsX ra i b=3/\Zvp ra i b=true):=by
  rcases de with (((⟨h,h'⟩|⟨h,h'⟩)|⟨h,h'⟩)|⟨⟨h,h'⟩,h''⟩)|⟨⟨h,h'⟩,h''⟩
  .exact .inl ⟨Nat.le_of_ble_eq_true h,Nat.le_of_ble_eq_true h'⟩
  .exact .inr (.inl ⟨ZaK h,Nat.le_of_ble_eq_true h'⟩)
  .exact .inr (.inr (.inl ⟨ZaK h,Nat.le_of_ble_eq_true h'⟩))
  .exact .inr (.inr (.inr (.inl ⟨ZaK h,ZaK h',fun t ht=>Nat.le_of_ble_eq_true (List.all_eq_true.1 h'' t ht)⟩)))
  .exact .inr (.inr (.inr (.inr ⟨ZaK h,ZaK h',h''⟩)))
 -- k at st
 obtain⟨ea,gW,_⟩:=ZfK (st2:=st) (by omega) (fun t _=>rfl) (fun _=>rfl) (fun _ h=>h) hra;have bZ:clsX ra k a<=1->st1.heap=st.heap:=fun h=>(ZaB bc 0).2.trans (gW h);have g1:∀t,a.dst≠some t->st1.get t=st.get t:=fun t ht=>by rw[(ZaB bc t).1,if_neg ht];exact ZiV ea t
 -- i at st
 have hkc:clsX ra k a<=3:=by omega
 have hic:clsX ra i b<=3:=by omega
 obtain⟨eb,j0,br⟩ : sb.env=st1.env/\(clsX ra i b<=1->sb.heap=st1.heap)/\ZdJ P N T ops ra i b st=some (vb,o2,⟨st.env,if clsX ra i b<=1 then st.heap else sb.heap⟩):=by
  by_cases hx:clsX ra k a=3/\clsX ra i b=1
  .obtain⟨e1,e2,_⟩:=ZfK (st2:=st1) (by omega) (fun t _=>rfl) (fun _=>rfl) (fun _ h=>h) bj;refine⟨e1,e2,?_⟩;rw[if_pos (by omega)];have hN:∀t∈ZfT ops b,t<N:=by
    rcases iZ with h|h|h|h|h
    .omega
    .omega
    .omega
    .exact h.2.2
    .omega
   refine Zlk hx.2 (fun t ht=>(g1 t (Zbp d1 ht)).symm) (fun x df id bb cD aF=>?_) bj;rw[(ZaB bc 0).2]at aF;rcases ZEq hx.1 hra with rfl|⟨hq,hn⟩
   .exact aF
   .rcases hn id bb aF with rfl|h
    .exfalso;have:(evo st1 x).says (a.dst.getD 0)=false:=by
      cases x with
      |tmp t=>
       have ht:t∈ZfT ops b:=List.mem_append.2 (.inl (ZqS df));show (st1.get t).says _=false;rw[g1 t (Zbp d1 ht)];exact Zqh (ZcY hq).1 t (hN t ht)
      |const v=>exact Zxm v _
      |func f=>rfl
      |global g=>rfl
     simp only[this]at cD;cases cD
    .exact h
  .exact ZfK (st2:=st) (by omega) (fun t ht=>(g1 t (Zbp d1 ht)).symm) (fun h=>(bZ (by omega)).symm) (fun hc hq=>by
    obtain⟨_,q2⟩:=ZcY hq;refine Zmj (hJ b hb hc) ?_;rw[<-bZ (by omega)];exact q2) bj
 obtain⟨ai,aS⟩:=Zee (st2:=⟨st.env,if clsX ra i b<=1 then st.heap else sb.heap⟩) bo;have xb:bxOk (Zgb ah (ops.size+i)) st b.op=true:=by rw[Zel (st:=st1) _ (fun t ht=>(g1 t (Zbp d1 ht)).symm)];exact ZdV h2 hb
 have bP:=ZfF (ah:=ah) (ni:=ni) hb xb br cl aS;have g2:∀t,b.dst≠some t->ai.get t=st.get t:=fun t ht=>by rw[(ZaB aS t).1,if_neg ht];rfl
 have eJ:clsX ra i b<=1->ai.heap=st.heap:=fun h=>by rw[(ZaB aS 0).2];simp only[if_pos h]
 -- k behind i
 have bz:ZdJ P N T ops ra k a ai=some (va,o1,⟨ai.env,if clsX ra k a<=1 then ai.heap else sa.heap⟩):=by
  by_cases hx:clsX ra k a=1/\clsX ra i b=3
  .rw[if_pos (by omega)];have ko:Zvp ra i b=true:=by
    rcases iZ with h|h|h|h|h
    .omega
    .omega
    .omega
    .omega
    .exact h.2.2
   refine Zlk hx.1 (fun t ht=>g2 t (Zbp d2 ht)) (fun x df id bb cD aF=>?_) hra;rw[(ZaB aS 0).2];simp only[if_neg (show ¬clsX ra i b<=1 by omega)];have:=ZzA hx.2 ko br id bb aF;simpa only[if_neg (show ¬clsX ra i b<=1 by omega)]using this
  .refine(ZfK (st2:=ai) (by omega) (fun t ht=>g2 t (Zbp d2 ht)) (fun h=>eJ (by omega)) (fun hc hq=>by
    obtain⟨q1,q2⟩:=ZcY hq;refine Zmj (Zlj (st1:=⟨st.env,if clsX ra i b<=1 then st.heap else sb.heap⟩) q1 (fun t=>rfl) (Zrh cl (c3 k a ha hc) hne hki) aS) ?_;rw[eJ (by omega)];exact q2) hra).2.2
 obtain⟨aC,a4⟩:=Zee (st2:=⟨ai.env,if clsX ra k a<=1 then ai.heap else sa.heap⟩) bc;have xa:bxOk (Zgb ah (ops.size+k)) ai a.op=true:=by rw[Zel (st:=st) _ (fun t ht=>g2 t (Zbp d2 ht))];exact ZdV h1 ha
 refine⟨ai,aC,bP,ZfF ha xa bz bJ a4,⟨fun t=>?_,?_⟩⟩
 .rw[(ZaB bo t).1,(ZaB a4 t).1];have hd:¬(a.dst=some t/\b.dst=some t):=by
   rintro ⟨e1,e2⟩;rw[e1,e2]at d3;simp[Zob]at d3
  by_cases e1:a.dst=some t
  .rw[if_pos e1,if_neg (fun e2=>hd ⟨e1,e2⟩),ZiV eb,(ZaB bc t).1,if_pos e1]
  .rw[if_neg e1];have e3:(⟨ai.env,if clsX ra k a<=1 then ai.heap else sa.heap⟩ : St).get t=ai.get t:=rfl;rw[e3,(ZaB aS t).1];split
   .rfl
   .rw[ZiV eb,g1 t e1];rfl
 .rw[(ZaB bo 0).2,(ZaB a4 0).2];simp only;by_cases c1:clsX ra k a<=1
  .rw[if_pos c1,(ZaB aS 0).2];simp only;by_cases c2:clsX ra i b<=1
   .rw[if_pos c2,j0 c2,bZ c1]
   .rw[if_neg c2]
  .rw[if_neg c1,j0 (by omega),(ZaB bc 0).2]
theorem Zzb{k i:Nat}(az:okLM ops ra k i=true){st st1 st2:St}{o1 o2:List Prop}(h1:ZfG P N T ops ra ah ni k st=some (st1,o1))(h2:ZfG P N T ops ra ah ni i st1=some (st2,o2)) :
  ∃ai aC g4,ZfG P N T ops ra ah ni i st=some (ai,o2)/\ZfG P N T ops ra ah ni k ai=some (aC,g4)/\Eqv aC st2/\((∀q∈o1++o2,q)->∀q∈g4,q):=by
 obtain⟨a,va,sa,ha,hra,bJ,bc⟩:=Zdt h1;obtain⟨b,vb,sb,hb,bj,cl,bo⟩:=Zdt h2;have xa0:=ZdV h1 ha;have xb0:=ZdV h2 hb;unfold okLM at az;rw[ha,hb]at az;simp only at az;split at az;rotate_left
 .cases az
 rename_i t x y t' x' y' hao hbo;simp only[Bool.and_eq_true,Option.isNone_iff_eq_none,List.isEmpty_iff]at az;obtain⟨⟨⟨⟨⟨⟨⟨⟨⟨⟨⟨⟨⟨⟨⟨ht,hx⟩,hy⟩,d1⟩,d2⟩,d3⟩,ga⟩,gb⟩,bL⟩,hk2⟩,b1⟩,b2⟩,n1⟩,n2⟩,r1⟩,r2⟩:=az;obtain rfl:=Nat.eq_of_beq_eq_true ht;have sT:∀{u v:Operand},ZxT u v=true->∃n,u=.tmp n/\v=.tmp n:=fun{u v} h=>by
  cases u<;>cases v<;>simp only[ZxT]at h<;>(try (cases h;done))
  exact⟨_,rfl,by rw[Nat.eq_of_beq_eq_true h]⟩
 obtain⟨x,rfl,rfl⟩:=sT hx;obtain⟨y,rfl,rfl⟩:=sT hy;have eL:∀s:St,ZdJ P N T ops ra k a s=(ZiR P T s t (s.get x) (s.get y) false (ZcR ra.an k)).map fun p=>(p.1,p.2,s):=fun s=>by
  unfold ZdJ;rw[bL];simp only[Znb,ZgX,ga,evOp,hao];have e:∀z,evo s (.tmp z)=s.get z:=fun z=>rfl;rw[e,e];cases ZiR P T s t (s.get x) (s.get y) false (ZcR ra.an k)with
  |none=>rfl
  |some p=>simp only[b1,ZyN,n1,dnV,r1,rlV,Option.map_some]
 have eM:∀s:St,ZdJ P N T ops ra i b s=ZiJ P T s t (s.get x) (s.get y) (ZcR ra.an i):=fun s=>by
  unfold ZdJ;rw[hk2];simp only[Znb,ZgX,gb,evOp,hbo];have e:∀z,evo s (.tmp z)=s.get z:=fun z=>rfl;rw[e,e];cases ZiJ P T s t (s.get x) (s.get y) (ZcR ra.an i)with
  |none=>rfl
  |some p=>simp only[b2,ZyN,n2,dnV,r2,rlV]
 rw[eL]at hra;rw[eM]at bj;have ux:x∈ZfT ops b/\y∈ZfT ops b:=by unfold ZfT;rw[hbo];simp[Zcw,ZtT]
 have uxa:x∈ZfT ops a/\y∈ZfT ops a:=by unfold ZfT;rw[hao];simp[Zcw,ZtT]
 simp only[Option.map_eq_some_iff,Prod.mk.injEq]at hra;obtain⟨p,hp,rfl,rfl,rfl⟩:=hra;obtain⟨va,o1⟩:=p;simp only at hp bJ bc;have g1:∀n,a.dst≠some n->st1.get n=st.get n:=fun n hn=>by rw[(ZaB bc n).1,if_neg hn]
 have bZ:st1.heap=st.heap:=(ZaB bc 0).2;rw[g1 x (Zbp d1 ux.1),g1 y (Zbp d1 ux.2)]at bj
 -- the entry
 unfold ZiJ at bj;split at bj;rotate_left
 .cases bj
 rename_i kt vt id kt' l kv ik j z0 l' dv dw dS han;split at bj;rotate_left
 .cases bj
 rename_i z hz eC;cases bj;have g5:Zrj st (st.get x)=some (id,kt',l):=by unfold Zrj at dw ⊢;rw[bZ]at dw;exact dw
 obtain⟨hxv,hl⟩:=ZoU g5
 -- the look
 unfold ZiR at hp;rw[dv,g5,dS]at hp;split at hp;rotate_left
 .cases hp
 rename_i kt0 vt0 _ _ l0 kv0 v0 fz0 e1 e2 e3 e4 e5;cases e2;cases e3;cases e4;rw[hz]at hp;cases hp;have kN:ZiJ P T st t (st.get x) (st.get y) (ZcR ra.an i)=some (.tup [(false,[.junk]),(false,[.lit (.int .i64 j)])],[ZmY P kt kv (kv :: l.map (·.1)),MEnt l kv z j l'],{ st with heap:=hset st.heap id (.map kt' l') }):=by
  unfold ZiJ;rw[dv,g5,dS,han];simp only[hz,eC]
 obtain⟨ai,aS⟩:=Zee (st2:=⟨st.env,hset st.heap id (.map kt' l')⟩) bo;have g2:∀n,b.dst≠some n->ai.get n=st.get n:=fun n hn=>by rw[(ZaB aS n).1,if_neg hn];rfl
 have eJ:ai.heap=hset st.heap id (.map kt' l'):=(ZaB aS 0).2;have kO:ZiR P T ai t (ai.get x) (ai.get y) false (ZcR ra.an k)=some (va,[ZmY P kt kv (l'.map (·.1)),Zwx l' kv z va]):=by
  rw[g2 x (Zbp d2 uxa.1),g2 y (Zbp d2 uxa.2)];have hm2:Zrj ai (st.get x)=some (id,kt',l'):=by
   unfold Zrj;rw[hxv,eJ];simp only[Zqm,if_true]
  unfold ZiR;rw[dv,hm2,dS,e5];simp only[hz]
 have xb:bxOk (Zgb ah (ops.size+i)) st b.op=true:=by rw[Zel (st:=st1) _ (fun n hn=>(g1 n (Zbp d1 hn)).symm)];exact xb0
 have xa:bxOk (Zgb ah (ops.size+k)) ai a.op=true:=by rw[Zel (st:=st) _ (fun n hn=>g2 n (Zbp d2 hn))];exact xa0
 have bP:=ZfF (ah:=ah) (ni:=ni) hb xb ((eM st).trans kN) cl aS;obtain⟨aC,a4⟩:=Zee (st2:=ai) bc;have iA:=ZfF (ah:=ah) (ni:=ni) ha xa ((eL ai).trans (by rw[kO];rfl)) bJ a4;refine⟨ai,aC,_,bP,iA,⟨fun n=>?_,?_⟩,fun hq q hqm=>?_⟩
 .rw[(ZaB bo n).1,(ZaB a4 n).1];have hd:¬(a.dst=some n/\b.dst=some n):=by
   rintro ⟨e1,e2⟩;rw[e1,e2]at d3;simp[Zob]at d3
  by_cases e1:a.dst=some n
  .rw[if_pos e1,if_neg (fun e2=>hd ⟨e1,e2⟩)];show st1.get n=va;rw[(ZaB bc n).1,if_pos e1]
  .rw[if_neg e1,(ZaB aS n).1];split
   .rfl
   .show st1.get n=st.get n;exact g1 n e1
 .rw[(ZaB bo 0).2,(ZaB a4 0).2,eJ];show hset st1.heap id (.map kt' l')=_;rw[bZ]
 .have q1:Zwx l kv z va:=hq _ (by simp);have q2:ZmY P kt kv (kv :: l.map (·.1)):=hq _ (by simp);have q3:MEnt l kv z j l':=hq _ (by simp);simp only[List.mem_cons,List.not_mem_nil,or_false]at hqm;rcases hqm with rfl|rfl
  .exact q2.sub q3.keys
  .exact q1.ent q3
theorem ZDY(c3:ZAO ops ra ni){k i:Nat}(az:Ztp N ops ra ah k i=true)(hne:k≠i)(hki:k ∉ Zgb ah i){st st1 st2:St}{o1 o2:List Prop}(h1:ZfG P N T ops ra ah ni k st=some (st1,o1))(h2:ZfG P N T ops ra ah ni i st1=some (st2,o2))
  (hJ:∀o,ops[i]?=some o->clsX ra i o=3->Zia st (o.dst.getD 0) N=true) :
  ∃ai aC g4,ZfG P N T ops ra ah ni i st=some (ai,o2)/\ZfG P N T ops ra ah ni k ai=some (aC,g4)/\Eqv aC st2/\((∀q∈o1++o2,q)->∀q∈g4,q):=by
 unfold Ztp at az;rw[Bool.or_eq_true]at az;rcases az with az|az
 .obtain⟨a,b,h3,h4,h5⟩:=ZAY c3 az hne hki h1 h2 hJ;exact⟨a,b,o1,h3,h4,h5,fun h q hq=>h q (List.mem_append.2 (.inl hq))⟩
 .exact Zzb az h1 h2
theorem ZFs{i:Nat}{st st2 st':St}{obl:List Prop}(hcls:∀o,ops[i]?=some o->Zyl ra i o=true)(he:Eqv st st2)(h:ZfG P N T ops ra ah ni i st=some (st',obl)):∃aC,ZfG P N T ops ra ah ni i st2=some (aC,obl)/\Eqv st' aC:=by
 obtain⟨o,v,s1,ho,hr,hc,hp⟩:=Zdt h;have e1:=ZqX hr;obtain⟨fD,fQ,hph⟩:=ZEr (hcls o ho) he hr;obtain⟨aC,a4⟩:=Zee (st2:=⟨st2.env,fD⟩) hp;refine⟨aC,ZfF ho (by rw[Zel (ops:=ops) (st:=st) _ (fun t _=>he.env t)];exact ZdV h ho) fQ hc a4,fun t=>?_,?_⟩
 .rw[(ZaB hp t).1,(ZaB a4 t).1];split
  .rfl
  .rw[ZiV e1];exact he.env t
 .rw[(ZaB hp 0).2,(ZaB a4 0).2];exact hph
theorem ZzZ:∀{l:List Nat}{st st2 st':St}{obl:List Prop},(∀i∈l,∀o,ops[i]?=some o->Zyl ra i o=true)->Eqv st st2->Zuq P N T ops ra ah ni l st=some (st',obl)->∃aC,Zuq P N T ops ra ah ni l st2=some (aC,obl)/\Eqv st' aC
 | [],st,st2,st',obl,hcls,he,h=>by cases h;exact⟨st2,rfl,he⟩
 |i :: l,st,st2,st',obl,hcls,he,h=>by
  simp only[Zuq]at h
  split at h
  .cases h
  rename_i s1 o1 h1
  split at h
  .cases h
  rename_i s2 o2 h2
  cases h
  obtain⟨s1',h3,h4⟩:=ZFs (hcls i (by simp)) he h1
  obtain⟨s2',h5,h6⟩:=ZzZ (fun j hj=>hcls j (by simp[hj])) h4 h2
  exact⟨s2',by simp only[Zuq,h3,h5],h6⟩
theorem ZvS(c3:ZAO ops ra ni){i:Nat}{post:List Nat}:∀{fT:List Nat}{st F:St}{obl:List Prop},(∀k∈fT++post,∀o,ops[k]?=some o->Zyl ra k o=true)->(∀k∈fT,Ztp N ops ra ah k i=true/\k≠i/\k ∉ Zgb ah i/\i ∉ Zgb ah k) ->
  (∀o,ops[i]?=some o->clsX ra i o=3->Zia st (o.dst.getD 0) N=true)->Zuq P N T ops ra ah ni (fT++i :: post) st=some (F,obl) ->
  ∃st1 oi F' o',ZfG P N T ops ra ah ni i st=some (st1,oi)/\Zuq P N T ops ra ah ni (fT++post) st1=some (F',o')/\Eqv F F'/\((∀q∈obl,q)->∀q∈oi++o',q)
 | [],st,F,obl,hcls,hp,hJ,h=>by
  simp only[List.nil_append,Zuq]at h
  split at h
  .cases h
  rename_i s1 o1 h1
  split at h
  .cases h
  rename_i s2 o2 h2
  cases h
  exact⟨s1,o1,_,o2,h1,h2,Eqv.refl _,fun h q hq=>h q hq⟩
 |k :: fT,st,F,obl,hcls,hp,hJ,h=>by
  simp only[List.cons_append,Zuq]at h
  split at h
  .cases h
  rename_i s1 o1 h1
  split at h
  .cases h
  rename_i s2 o2 h2
  cases h
  obtain⟨az,hne,hki,hik⟩:=hp k (by simp)
  obtain⟨a,va,sa,ha,hra,bJ,bc⟩:=Zdt h1
  have hJ1:∀o,ops[i]?=some o->clsX ra i o=3->Zia s1 (o.dst.getD 0) N=true:=fun o ho hc=>by
   have ea:=ZqX hra
   exact Zlj (hJ o ho hc) (ZiV ea) (Zrh bJ (c3 i o ho hc) (Ne.symm hne) hik) bc
  obtain⟨t1,oi,F1,o',h3,h4,h5,h6⟩:=ZvS c3 (fun j hj=>hcls j (List.mem_cons_of_mem _ hj)) (fun k' hk'=>hp k' (by simp[hk'])) hJ1 h2
  obtain⟨t1',t2',g4,h7,h8,h9,h12⟩:=ZDY c3 az hne hki h1 h3 hJ
  obtain⟨F2,kP,gw⟩:=ZzZ (l:=fT++post) (fun j hj=>hcls j (List.mem_cons_of_mem _ hj)) (st:=t1) (st2:=t2') ⟨fun t=>(h9.env t).symm,h9.heap.symm⟩ h4
  refine⟨t1',oi,F2,g4++o',h7,by simp only[List.cons_append,Zuq,h8,kP],h5.trans gw,fun cq q hq=>?_⟩
  have kQ:=h6 fun q hq=>cq q (List.mem_append.2 (.inr hq))
  rcases List.mem_append.1 hq with hq|hq
  .exact kQ q (List.mem_append.2 (.inl hq))
  .rcases List.mem_append.1 hq with hq|hq
   .refine h12 (fun q hq=>?_) q hq
    rcases List.mem_append.1 hq with hq|hq
    .exact cq q (List.mem_append.2 (.inl hq))
    .exact kQ q (List.mem_append.2 (.inl hq))
   .exact kQ q (List.mem_append.2 (.inr hq))
end
end Go.Proofs.YtmnloegcpaahcaaGreat
