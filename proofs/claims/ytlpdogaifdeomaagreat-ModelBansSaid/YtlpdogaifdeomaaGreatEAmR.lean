import Derived.Test.YtlpdogaifdeomaaGreatEAmQ
namespace Go.Proofs.YtlpdogaifdeomaaGreat
open Go.RowKit
set_option linter.unusedSimpArgs false
set_option linter.unusedVariables false
def ZsH:List Operand->List Nat | []=>[] | .tmp t :: l=>t :: ZsH l|_ :: l=>ZsH l
def ZeX(ops:Array Oper)(o:Oper):List Nat:=ZsH (Zcr o.op)++match o.guard with
 |none=>[]
 |some (j,_)=>match (ops[j]?).bind (·.dst)with
  |some t=>[t]
  |none=>[]
theorem Zps{t:Nat}:∀{l:List Operand},Operand.tmp t∈l->t∈ZsH l
 | [],h=>by cases h
 |x :: l,h=>by
  rcases List.mem_cons.1 h with rfl|h
  .simp[ZsH]
  .have:=Zps h
   cases x<;>simp[ZsH,this]
theorem Zml{st st2:St}{ops:Array Oper}{o:Oper}(h:∀t∈ZeX ops o,st2.get t=st.get t):∀x∈Zcr o.op,evo st2 x=evo st x:=by
 intro x hx;cases x with
 |tmp t=>exact h t (List.mem_append.2 (.inl (Zps hx)))
 |_=>rfl
theorem ZlB{st st2:St}{ops:Array Oper}{o:Oper}(h:∀t∈ZeX ops o,st2.get t=st.get t):Zgm ops st2 o=Zgm ops st o:=by
 unfold Zgm;split
 .rfl
 .rename_i j want hg;split
  .rename_i t ht;rw[h t (by unfold ZeX;rw[hg];simp[ht])]
  .rfl
theorem ZpH{P:Program}{N:Nat}{T:Tab}{st:St}{o:Oper}{ra:RA}{i:Nat}{p:V×List Prop×St}(hc:ZeA ra i o.op=3)(h:evOp P N T o st (ZcH ra.an i)=some p):Zdm N (o.dst.getD 0) st=true:=by
 obtain⟨dst,op,type,eR,after,guard⟩:=o;simp only at hc;have cE:∀{l},Zpj N st (dst.getD 0) l=some p->Zdm N (dst.getD 0) st=true:=by
  intro l hb;unfold Zpj at hb;split at hb
  .assumption
  .cases hb
 cases op<;>(try (simp only[ZeA]at hc))<;>(try (exact absurd hc (by decide)))
 case move x=>split at hc<;>cases hc
 case assign x=>split at hc<;>cases hc
 case alloc e=>
  simp only[evOp]at h
  repeat' split at h
  all_goals first | (cases h;done)|exact cE h
 case box e x=>
  simp only[evOp]at h
  repeat' split at h
  all_goals first | (cases h;done)|exact cE h
 case makeSlice t l c=>
  split at hc
  .cases hc
  rename_i hx;simp only[evOp]at h;split at h
  .rename_i hk;exact absurd hk (hx _ _)
  .cases h
  unfold ZmQ at h
  repeat' split at h
  all_goals first | (cases h;done)|assumption
 case buildSlice t n ps=>
  split at hc
  .rename_i n' c' bB;simp only[evOp]at h;unfold ZeG at h;rw[bB]at h
   repeat' split at h
   all_goals first | (cases h;done)|assumption | (rename_i hx;exact absurd rfl (hx _ _))
  .cases hc
 case call c=>
  obtain⟨callee,args,bz⟩:=c;cases callee with
  |value f=>simp only[ZeA]at hc;cases hc
  |invoke r n=>simp only[ZeA]at hc;cases hc
  |builtin b=>
   cases b<;>(try (simp only[ZeA]at hc))<;>(try (exact absurd hc (by decide)))
   case append=>
    split at hc
    .cases hc
    rename_i bB;simp only[evOp]at h;split at h;rotate_left
    .cases h
    split at h;rotate_left
    .cases h
    unfold Zkf at h
    repeat' split at h
    all_goals first | (cases h;done)|assumption
theorem ZAW{P:Program}{N:Nat}{T:Tab}{ops:Array Oper}{ra:RA}{i:Nat}{o:Oper}{st st1 st2:St}{v:V}{obl:List Prop}(hc:ZeA ra i o.op<=3)(hu:∀t∈ZeX ops o,st2.get t=st.get t)
  (hh:ZeA ra i o.op≠0->st2.heap=st.heap) (hq:ZeA ra i o.op=3->Zdm N (o.dst.getD 0) st=true->Zdm N (o.dst.getD 0) st2=true) (h:ZmW P N T ops ra i o st=some (v,obl,st1)) :
  st1.env=st.env/\(ZeA ra i o.op<=1->st1.heap=st.heap)/\ZmW P N T ops ra i o st2=some (v,obl,⟨st2.env,if ZeA ra i o.op<=1 then st2.heap else st1.heap⟩):=by
 unfold ZmW at h ⊢;rw[ZlB hu];split at h
 .cases h
 .cases h;refine⟨rfl,fun _=>rfl,?_⟩;split
  .rfl
  .rename_i cC;rw[<-hh (by omega)]
 .have he:=Zml hu;split at h
  .cases h
  rename_i v0 c5 st0 bm;split at h
  .cases h
  rename_i v' obl' hd;split at h;rotate_left
  .cases h
  rename_i v'' gg;split at h;rotate_left
  .cases h
  rename_i v3 obl3 fQ;cases h;refine⟨ZDo bm,?_⟩;have gh:ZeA ra i o.op=0\/ZeA ra i o.op=1\/ZeA ra i o.op=2\/ZeA ra i o.op=3:=by omega
  rcases gh with cC|cC|cC|cC
  .have e1:=ZMc (P:=P) (N:=N) (T:=T) (st:=st) (st2:=st) cC (fun x _=>rfl);have e2:=ZMc (P:=P) (N:=N) (T:=T) (st:=st) (st2:=st2) cC he;rw[bm]at e1 e2;simp only[Option.map_some,Option.some.injEq,Prod.mk.injEq,true_and]at e1;subst e1;refine⟨fun _=>rfl,?_⟩;rw[e2];simp only[Option.map_some,hd,gg,fQ,cC];rfl
  .have e1:=ZMd (P:=P) (N:=N) (T:=T) (st:=st) (st2:=st) cC (fun x _=>rfl) rfl;have e2:=ZMd (P:=P) (N:=N) (T:=T) (st:=st) (st2:=st2) cC he (hh (by omega));rw[bm]at e1 e2;simp only[Option.map_some,Option.some.injEq,Prod.mk.injEq,true_and]at e1;subst e1;refine⟨fun _=>rfl,?_⟩;rw[e2];simp only[Option.map_some,hd,gg,fQ,cC];rfl
  .have e2:=ZNY (P:=P) (N:=N) (T:=T) (st:=st) (st2:=st2) cC he (hh (by omega));rw[bm]at e2;refine⟨fun h=>by omega,?_⟩;rw[e2];simp only[Option.map_some,hd,gg,fQ,cC];rfl
  .have hqq:=ZpH cC bm;have e2:=ZNZ (P:=P) (N:=N) (T:=T) (st:=st) (st2:=st2) cC he (hh (by omega)) ((hq cC hqq).trans hqq.symm);rw[bm]at e2;refine⟨fun h=>by omega,?_⟩;rw[e2];simp only[Option.map_some,hd,gg,fQ,cC];rfl
theorem ZEj{P:Program}{N:Nat}{T:Tab}{ops:Array Oper}{ra:RA}{i:Nat}{o:Oper}{st st1 st2:St}{v:V}{obl:List Prop}(hc:ZeA ra i o.op=1)(hu:∀t∈ZeX ops o,st2.get t=st.get t)
  (hm:∀x∈Zcr o.op,Has st st2 fun id=>(evo st x).says id) (h:ZmW P N T ops ra i o st=some (v,obl,st1)):ZmW P N T ops ra i o st2=some (v,obl,st2):=by
 unfold ZmW at h ⊢;rw[ZlB hu];split at h
 .cases h
 .cases h;rfl
 .have he:=Zml hu;split at h
  .cases h
  rename_i v0 c5 st0 bm;split at h
  .cases h
  rename_i v' obl' hd;split at h;rotate_left
  .cases h
  rename_i v'' gg;split at h;rotate_left
  .cases h
  rename_i v3 obl3 fQ;cases h;have e2:=ZOa (P:=P) (N:=N) (T:=T) (st:=st) (st2:=st2) hc he hm bm;simp only[e2,hd,gg,fQ]
theorem ZGE{P:Program}{N:Nat}{T:Tab}{ops:Array Oper}{ra:RA}{i:Nat}{o:Oper}{st st1:St}{v:V}{obl:List Prop}(hc:ZeA ra i o.op=3)(h:ZmW P N T ops ra i o st=some (v,obl,st1)) :
  st1=st\/(Zdm N (o.dst.getD 0) st=true/\∀id b,hget st1.heap id=some b->id=o.dst.getD 0\/hget st.heap id=some b):=by
 unfold ZmW at h;split at h
 .cases h
 .cases h;exact .inl rfl
 .split at h
  .cases h
  rename_i v0 c5 st0 bm;split at h
  .cases h
  split at h;rotate_left
  .cases h
  split at h;rotate_left
  .cases h
  cases h;exact .inr ⟨ZpH hc bm,ZBA hc bm⟩
theorem ZcM{N:Nat}{st:St}{d:Nat}(h:Zdm N d st=true):Zhz st d N=true/\Zhl d st.heap=true:=by
 unfold Zdm at h;split at h
 .rename_i h1;exact⟨h1,h⟩
 .cases h
theorem ZAX{P:Program}{N:Nat}{T:Tab}{ops:Array Oper}{ra:RA}{i:Nat}{o:Oper}{st st1:St}{v:V}{obl:List Prop}(hc:ZeA ra i o.op=3)(hk:ZCK o.op=true)(h:ZmW P N T ops ra i o st=some (v,obl,st1)) :
  ∀id b,hget st.heap id=some b->hget st1.heap id=some b:=by
 unfold ZmW at h;split at h
 .cases h
 .cases h;exact fun _ _ h=>h
 .split at h
  .cases h
  rename_i v0 c5 st0 bm;split at h
  .cases h
  split at h;rotate_left
  .cases h
  split at h;rotate_left
  .cases h
  cases h;exact Zzu hc hk (Zij (ZcM (ZpH hc bm)).2).1 bm
def Zgv(o:Oper)(ha:HA):Bool:=match ha.lend,ha.new,ha.h1,o.guard with
 | [],[(c,d)],[(c',.rows _ _ _ _)],none=>Nat.beq d (o.dst.getD 0)&&Nat.beq c c'&&Nat.beq c 99999
 |_,_,_,_=>false
def clsX(ra:RA)(i:Nat)(o:Oper):Nat:=match ZcH ra.hc i with
 |none=>ZeA ra i o.op
 |some ha=>match Zgv o ha with
  |true=>3
  |false=>match ZcH ra.hc (i+1000)with
   |some _=>5
   |none=>match ha.new with
    | []=>2
    |_ :: _=>4
def Zub(ra:RA)(i:Nat)(o:Oper):Bool:=match ZcH ra.hc i with
 |none=>ZCK o.op
 |some _=>true
def Zed(P:Program)(N:Nat)(ops:Array Oper)(ha:HA)(an:Option Ans)(o:Oper)(st:St):Option (V×List Prop×St):=match Zgm ops st o with
 |some true=>match o.op with
  | .call { callee:=c,args:=args,argTypes:=_ }=>Zgn P N st c args.toList ha an
  |_=>none
 |some false=>some (.one (.lit undef),[],st)
 |none=>none
def Zhm(P:Program)(N:Nat)(ops:Array Oper)(ha:HA)(an:Option Ans)(o:Oper)(st:St):Option (V×List Prop×St):=match Zgm ops st o with
 |some true=>match o.op with
  | .call { callee:=c,args:=args,argTypes:=_ }=>ZgQ P N st c args.toList ha an
  |_=>none
 |some false=>some (.one (.lit undef),[],st)
 |none=>none
def Zdn(P:Program)(N:Nat)(T:Tab)(ops:Array Oper)(ra:RA)(i:Nat)(o:Oper)(st:St):Option (V×List Prop×St):=match ZcH ra.hc i with
 |none=>ZmW P N T ops ra i o st
 |some ha=>match ZcH ra.hc (i+1000)with
  |none=>Zed P N ops ha (ZcH ra.an i) o st
  |some _=>Zhm P N ops ha (ZcH ra.an i) o st
theorem ZEi{P:Program}{N:Nat}{T:Tab}{ops:Array Oper}{ra:RA}{i:Nat}{o:Oper}{st st1 st2:St}{v:V}{obl:List Prop}(h:Zdn P N T ops ra i o st=some (v,obl,st1))(hp:putO N st1 o.dst v=some st2):Zsg P N T ops ra i o st=some (st2,obl):=by
 unfold Zdn at h;unfold Zsg;split at h
 .rename_i hk;rw[hk];simp only;unfold ZCJ;simp only[h,hp]
 .rename_i ha hk;rw[hk];simp only;split at h
  .unfold Zed at h;unfold ZyK;split at h
   .split at h
    .rename_i h1 _ c args bz cD;simp only[h1,cD,ZuH (ZuI h),hp]
    .cases h
   .rename_i h1;cases h;simp only[h1,hp]
   .cases h
  .unfold Zhm at h;unfold ZyK;split at h
   .split at h
    .rename_i h1 _ c args bz cD;simp only[h1,cD,ZuH h,hp]
    .cases h
   .rename_i h1;cases h;simp only[h1,hp]
   .cases h
theorem ZqD{P:Program}{N:Nat}{st st1:St}{c:Callee}{args:List Operand}{ha:HA}{an:Option Ans}{v:V}{obl:List Prop}(h:Zgn P N st c args ha an=some (v,obl,st1)):st1.env=st.env:=by
 unfold Zgn at h;split at h
 .split at h
  .cases h;rfl
  .cases h
 .cases h
theorem Zzz{P:Program}{N:Nat}{st st1:St}{c:Callee}{args:List Operand}{ha:HA}{an:Option Ans}{v:V}{obl:List Prop}(h:ZgQ P N st c args ha an=some (v,obl,st1)):st1.env=st.env:=by
 unfold ZgQ at h;split at h
 .rename_i r hr;cases h;exact ZqD hr
 .unfold Zlb at h;split at h
  .split at h
   .split at h
    .cases h;rfl
    .cases h
   .cases h
  .cases h
theorem Zpx{P:Program}{N:Nat}{T:Tab}{ops:Array Oper}{ra:RA}{i:Nat}{o:Oper}{st st1:St}{v:V}{obl:List Prop}(h:Zdn P N T ops ra i o st=some (v,obl,st1)):st1.env=st.env:=by
 unfold Zdn at h;split at h
 .unfold ZmW at h;split at h
  .cases h
  .cases h;rfl
  .split at h
   .cases h
   rename_i v0 c5 st0 bm;split at h
   .cases h
   split at h;rotate_left
   .cases h
   split at h;rotate_left
   .cases h
   cases h;exact ZDo bm
 .split at h
  .unfold Zed at h;split at h
   .split at h
    .exact ZqD h
    .cases h
   .cases h;rfl
   .cases h
  .unfold Zhm at h;split at h
   .split at h
    .exact Zzz h
    .cases h
   .cases h;rfl
   .cases h
theorem Zku{P:Program}{st st2:St}{c:Callee}{args:Array Operand}{bz:Array TypeId}{an:Option Ans}(h:∀x∈Zcr (.call { callee:=c,args:=args,argTypes:=bz }),evo st2 x=evo st x):Zlr P st2 c an=Zlr P st c an:=by
 cases c with
 |value f=>simp only[Zlr,Zkg,h f (by simp[Zcr])]
 |invoke r n=>simp only[Zlr,h r (by simp[Zcr])]
 |builtin b=>rfl
theorem ZnD{c:Callee}{args:Array Operand}{bz:Array TypeId}:∀x∈args.toList,x∈Zcr (.call { callee:=c,args:=args,argTypes:=bz }):=by
 intro x hx;cases c<;>simp only[Zcr]<;>first|exact hx|exact List.mem_cons_of_mem _ hx
theorem ZMZ{P:Program}{N:Nat}{ops:Array Oper}{ha:HA}{an:Option Ans}{o:Oper}{st st1:St}{v:V}{obl:List Prop}(hn:ha.new=[])(h:Zed P N ops ha an o st=some (v,obl,st1)) :
  st1.env=st.env/\∀st2:St,(∀t∈ZeX ops o,st2.get t=st.get t)->st2.heap=st.heap->Zed P N ops ha an o st2=some (v,obl,⟨st2.env,st1.heap⟩):=by
 unfold Zed at h;split at h
 .rename_i cM;split at h
  .rename_i c args bz cD;refine⟨ZqD h,fun st2 hu hh=>?_⟩;unfold Zed;rw[ZlB hu,cM];have he:=Zml hu;rw[cD]at he ⊢;simp only;unfold Zgn at h ⊢;rw[Zku he];have aL:okHA N st2 ha=okHA N st ha:=by
    unfold okHA;rw[hn];rfl
   split at h;rotate_left
   .cases h
   rename_i g a b om bN;rw[ZhG (fun x hx=>he x (ZnD x hx)) a b,aL,hh];split at h;rotate_left
   .cases h
   rename_i h0 vs hp r q1 q2 q3 q4 q5;cases h;simp only[q1,q2,q3,q4,q5]
  .cases h
 .rename_i cM;cases h;refine⟨rfl,fun st2 hu hh=>?_⟩;unfold Zed;rw[ZlB hu,cM];simp only[<-hh]
 .cases h
theorem ZtU{d e:Nat}{b:B}(hne:e≠d)(hb:b.says d=false):∀{h:List (Nat×B)},Zhl d h=true->Zhl d (hins h e b)=true:=by
 have hf:Nat.beq e d=false:=by
  cases hx:Nat.beq e d
  .rfl
  .exact absurd (Nat.eq_of_beq_eq_true hx) hne
 intro h;induction h with
 |nil=>intro _;simp only[hins,Zhl,hf,hb]
 |cons p r ih=>
  obtain⟨k,v⟩:=p;intro hq;have cK:=hq;simp only[Zhl]at hq;split at hq
  .rename_i h1 h2;simp only[hins];split
   .simp only[Zhl,hf,hb];exact hq
   .split
    .simp only[Zhl,hf,hb,h1,h2];exact hq
    .simp only[Zhl,h1,h2];exact ih hq
  .cases hq
theorem Znq{d e:Nat}{b:B}:∀{h:List (Nat×B)},hget h e=none->Zhl d (hins h e b)=true->Zhl d h=true
 | [],_,_=>rfl
 | (k,v) :: r,hn,hq=>by
  rw[Zbg]at hn
  split at hn
  .cases hn
  rename_i hke
  have hf:Nat.beq k e=false:=by
   cases hx:Nat.beq k e
   .rfl
   .exact absurd (Nat.eq_of_beq_eq_true hx) hke
  simp only[hins,hf]at hq;split at hq
  .simp only[Zhl]at hq;split at hq
   .simp only[Zhl];exact hq
   .cases hq
  .simp only[Zhl]at hq ⊢;split at hq
   .rename_i h1 h2;exact Znq hn hq
   .cases hq
theorem ZDd{P:Program}{N:Nat}{ops:Array Oper}{ha:HA}{an:Option Ans}{o:Oper}{st st1:St}{v:V}{obl:List Prop}(hs:Zgv o ha=true)(h:Zed P N ops ha an o st=some (v,obl,st1)) :
  ∃b:B,(∀k,b.says k=false)/\Zdm N (o.dst.getD 0) st=true/\st1=⟨st.env,hins st.heap (o.dst.getD 0) b⟩/\∀st2,(∀t∈ZeX ops o,st2.get t=st.get t)->Zdm N (o.dst.getD 0) st2=true ->
   Zed P N ops ha an o st2=some (v,obl,⟨st2.env,hins st2.heap (o.dst.getD 0) b⟩):=by
 unfold Zgv at hs;split at hs;rotate_left
 .cases hs
 rename_i c d c' e sz len cc hl hn cQ cM;simp only[Bool.and_eq_true]at hs;obtain⟨⟨e1,e2⟩,e3⟩:=hs;have e1:=Nat.eq_of_beq_eq_true e1;have e2:=Nat.eq_of_beq_eq_true e2;subst e2;obtain⟨lend,new,h1,res⟩:=ha;simp only at hl hn cQ;subst hl hn cQ;subst e1;have hg:∀st:St,Zgm ops st o=some true:=fun st=>by unfold Zgm;rw[cM]
 unfold Zed at h;rw[hg]at h;simp only at h;split at h;rotate_left
 .cases h
 rename_i f args bz cD;unfold Zgn at h;split at h;rotate_left
 .cases h
 rename_i g a b om bN;split at h;rotate_left
 .cases h
 rename_i h0 vs hp r aL dR bY dl hr;cases h;have hq:Zdm N (o.dst.getD 0) st=true:=by
  unfold okHA at aL;split at aL
  .rename_i q1 q2 q3 q4;exact List.all_eq_true.1 q4 _ (List.mem_cons_self)
  .cases aL
 have js:hp=[(o.dst.getD 0,.rows e sz len cc)]:=by
  have:gOut ⟨[],[(c,o.dst.getD 0)],[(c,.rows e sz len cc)],res⟩ c=some (o.dst.getD 0):=by
   simp only[gOut,ZoG,Nat.beq_refl]
  simp only[ZqW,this,renB]at dl;exact(Option.some.inj dl).symm
 subst js;refine⟨.rows e sz len cc,fun _=>rfl,hq,rfl,fun st2 hu cV=>?_⟩;have he:∀x∈Zcr (.call { callee:=f,args:=args,argTypes:=bz }),evo st2 x=evo st x:=fun x hx=>Zml hu x (by rw[cD];exact hx);have cq:Zci st2 args.toList a b=Zci st args.toList a b:=ZhG (fun x hx=>he x (ZnD x hx)) a b;have eU:okHA N st2 ⟨[],[(c,o.dst.getD 0)],[(c,.rows e sz len cc)],res⟩=true:=by
  unfold okHA at aL ⊢;split at aL
  .rename_i q1 q2 q3 q4;simp only at q1 q2 q3;simp only[q1,q2,q3,List.all_cons,List.all_nil,cV,Bool.and_true]
  .cases aL
 have iS:hIn (bwd ([]:List (Nat×Nat))) st2.heap ([]:List (Nat×Nat))=some h0:=dR;unfold Zed;rw[hg];simp only[cD];unfold Zgn;rw[Zku he,bN];simp only[eU,iS,cq,bY,dl,hr];rfl
theorem Zxt{P:Program}{N:Nat}{st st2:St}{c:Callee}{args:Array Operand}{bz:Array TypeId}{ha:HA}{an:Option Ans}(he:∀x∈Zcr (.call { callee:=c,args:=args,argTypes:=bz }),evo st2 x=evo st x)(hh:st2.heap=st.heap)(aL:okHA N st2 ha=okHA N st ha) :
  ZgQ P N st2 c args.toList ha an=(ZgQ P N st c args.toList ha an).map fun r=>(r.1,r.2.1,⟨st2.env,r.2.2.heap⟩):=by
 have cq:∀a b,Zci st2 args.toList a b=Zci st args.toList a b:=fun a b=>ZhG (fun x hx=>he x (ZnD x hx)) a b;have e1:Zgn P N st2 c args.toList ha an=(Zgn P N st c args.toList ha an).map fun r=>(r.1,r.2.1,⟨st2.env,r.2.2.heap⟩):=by
  unfold Zgn;rw[Zku he,aL,hh];cases Zlr P st c an with
  |none=>rfl
  |some q=>
   obtain⟨g,a,b,om⟩:=q;simp only[cq];generalize okHA N st ha=x1;generalize hIn (bwd ha.lend) st.heap ha.lend=x2;generalize ZGh (bwd ha.lend) (Zci st args.toList a b)=x3;generalize ZqW (gOut ha) ha.h1=x4;generalize renV (gOut ha) ha.res=x5;cases x1<;>cases x2<;>cases x3<;>cases x4<;>cases x5<;>rfl
 have e2:Zlb P N st2 c args.toList ha an=(Zlb P N st c args.toList ha an).map fun r=>(r.1,r.2.1,⟨st2.env,r.2.2.heap⟩):=by
  obtain⟨lend,new,h1,res⟩:=ha;have hb:∀l,borA st2 l=borA st l:=ZuZ hh;unfold Zlb;rw[Zku he,aL,hh];simp only[cq,hb];cases Zlr P st c an with
  |none=>split<;>rfl
  |some q=>
   obtain⟨g,a,b,om⟩:=q;simp only;generalize okHA N st ⟨lend,new,h1,res⟩=x1;generalize borA st (Zci st args.toList a b)=x2;generalize ZqW (gOut ⟨lend,new,h1,res⟩) h1=x3;generalize renV (gOut ⟨lend,new,h1,res⟩) res=x4;generalize Zuj h1=x5;split
   .cases x1<;>cases x2<;>cases x3<;>cases x4<;>cases x5<;>rfl
   .rfl
 unfold ZgQ;rw[e1,e2];cases Zgn P N st c args.toList ha an<;>rfl
theorem ZNa{P:Program}{N:Nat}{ops:Array Oper}{ha:HA}{an:Option Ans}{o:Oper}{st st1:St}{v:V}{obl:List Prop}(hs:Zgv o ha=true)(h:Zhm P N ops ha an o st=some (v,obl,st1)) :
  ∃b:B,Zdm N (o.dst.getD 0) st=true/\st1=⟨st.env,hins st.heap (o.dst.getD 0) b⟩/\∀st2,(∀t∈ZeX ops o,st2.get t=st.get t)->st2.heap=st.heap->Zdm N (o.dst.getD 0) st2=true ->
   Zhm P N ops ha an o st2=some (v,obl,⟨st2.env,st1.heap⟩):=by
 unfold Zgv at hs;split at hs;rotate_left
 .cases hs
 rename_i c d c' e sz len cc hl hn cQ cM;simp only[Bool.and_eq_true]at hs;obtain⟨⟨e1,e2⟩,e3⟩:=hs;have e1:=Nat.eq_of_beq_eq_true e1;have e2:=Nat.eq_of_beq_eq_true e2;subst e2;obtain⟨lend,new,h1,res⟩:=ha;simp only at hl hn cQ;subst hl hn cQ;subst e1;have hg:∀st:St,Zgm ops st o=some true:=fun st=>by unfold Zgm;rw[cM]
 unfold Zhm at h;rw[hg]at h;simp only at h;split at h;rotate_left
 .cases h
 rename_i f args bz cD;have js:∀hp,ZqW (gOut ⟨[],[(c,o.dst.getD 0)],[(c,.rows e sz len cc)],res⟩) [(c,.rows e sz len cc)]=some hp->hp=[(o.dst.getD 0,.rows e sz len cc)]:=fun hp dl=>by
  have:gOut ⟨[],[(c,o.dst.getD 0)],[(c,.rows e sz len cc)],res⟩ c=some (o.dst.getD 0):=by
   simp only[gOut,ZoG,Nat.beq_refl]
  simp only[ZqW,this,renB]at dl;exact(Option.some.inj dl).symm
 have gi:okHA N st ⟨[],[(c,o.dst.getD 0)],[(c,.rows e sz len cc)],res⟩=true/\st1=⟨st.env,hins st.heap (o.dst.getD 0) (.rows e sz len cc)⟩:=by
  have h':=h;unfold ZgQ at h';split at h'
  .rename_i r hr;cases h';unfold Zgn at hr;split at hr;rotate_left
   .cases hr
   split at hr;rotate_left
   .cases hr
   rename_i h0 vs hp r aL dR bY dl gY;cases hr;rw[js _ dl];exact⟨aL,rfl⟩
  .unfold Zlb at h';split at h';rotate_left
   .cases h'
   split at h';rotate_left
   .cases h'
   split at h';rotate_left
   .cases h'
   rename_i vs hp r ps aL bY dl gY cj;cases h';rw[js _ dl];exact⟨aL,rfl⟩
 obtain⟨aL,bP⟩:=gi;have hq:Zdm N (o.dst.getD 0) st=true:=by
  have cm:=aL;unfold okHA at cm;split at cm
  .rename_i q1 q2 q3 q4;exact List.all_eq_true.1 q4 _ (List.mem_cons_self)
  .cases cm
 refine⟨.rows e sz len cc,hq,bP,fun st2 hu hh cV=>?_⟩;have he:∀x∈Zcr (.call { callee:=f,args:=args,argTypes:=bz }),evo st2 x=evo st x:=fun x hx=>Zml hu x (by rw[cD];exact hx);have eU:okHA N st2 ⟨[],[(c,o.dst.getD 0)],[(c,.rows e sz len cc)],res⟩=true:=by
  have cm:=aL;unfold okHA at cm ⊢;split at cm
  .rename_i q1 q2 q3 q4;simp only at q1 q2 q3;simp only[q1,q2,q3,List.all_cons,List.all_nil,cV,Bool.and_true]
  .cases cm
 unfold Zhm;rw[hg];simp only[cD];rw[Zxt he hh (eU.trans aL.symm),h];rfl
def ZLC:Op->Bool | .makeSlice .. | .buildSlice .. | .alloc _=>true|_=>false
theorem ZDK{ti:TI}{l:List C}(h:ZtB ti=some l)(k:Nat):l.any (C.says k)=false:=by
 unfold ZtB at h;split at h;rotate_left
 .cases h
 rename_i z hz;have lits:∀xs:List Value,(xs.map C.lit).any (C.says k)=false:=fun xs=>by
  induction xs with
  |nil=>rfl
  |cons x xs ih=>simp[C.says,ih]
 cases z with
 |agg cs=>
  simp only[V.ofVal]at h;split at h
  .cases h;exact lits _
  .cases h
 |_=>
  simp only[V.ofVal,V.cells]at h
  first | (cases h;rfl) | (split at h<;>cases h;rfl)
def ZwU(ra:RA)(i:Nat)(o:Oper):Bool:=match ZcH ra.hc i with
 |some ha=>match ZcH ra.hc (i+1000)with
  |none=>true
  |some _=>Zgv o ha
 |none=>Nat.ble (ZeA ra i o.op) 3
def Zly(ra:RA)(i:Nat)(o:Oper):Bool:=match ZcH ra.hc i with
 |some ha=>match ZcH ra.hc (i+1000)with
  |none=>Zgv o ha
  |some _=>false
 |none=>match o.guard with
  |none=>ZLC o.op&&Nat.beq (ZeA ra i o.op) 3
  |some _=>false
theorem ZBC{N:Nat}{T:Tab}{st st1:St}{d t:Nat}{x y:V}{an:Option Ans}{v:V}{obl:List Prop}(h:ZmQ N T st d t x y an=some (v,obl,st1)) :
  ∃b:B,(∀k,b.says k=false)/\Zdm N d st=true/\st1=⟨st.env,hins st.heap d b⟩/\∀st2,Zdm N d st2=true->ZmQ N T st2 d t x y an=some (v,obl,⟨st2.env,hins st2.heap d b⟩):=by
 unfold ZmQ at h
 repeat' split at h
 all_goals first | (cases h;done)|skip
 all_goals
  cases h;refine⟨_,fun _=>rfl,by assumption,rfl,fun st2 hq=>?_⟩;unfold ZmQ;simp only[*,St.new]
theorem ZuF{N:Nat}{T:Tab}{st st1:St}{d t n:Nat}{ps:List (Nat×V)}{k:Nat}{c:Nat->Nat->C}{v:V}{obl:List Prop}(h:ZeG N T st d t n ps (some (.c k c))=some (v,obl,st1)) :
  ∃b:B,(∀k,b.says k=false)/\Zdm N d st=true/\st1=⟨st.env,hins st.heap d b⟩/\∀st2,Zdm N d st2=true->ZeG N T st2 d t n ps (some (.c k c))=some (v,obl,⟨st2.env,hins st2.heap d b⟩):=by
 unfold ZeG at h ⊢;split at h<;>try (cases h;done)
 split at h<;>try (cases h;done)
 split at h<;>try (cases h;done)
 split at h<;>try (cases h;done)
 split at h<;>try (cases h;done)
 split at h<;>try (cases h;done)
 simp only at h;split at h
 .cases h
 .rename_i hq;cases h;refine⟨_,fun _=>rfl,hq,rfl,fun st2 cV=>?_⟩;simp only[*,St.new]
theorem Zmw{P:Program}{N:Nat}{T:Tab}{ops:Array Oper}{ra:RA}{i:Nat}{o:Oper}{st st1:St}{v:V}{obl:List Prop}(hs:Zly ra i o=true)(h:Zdn P N T ops ra i o st=some (v,obl,st1)) :
  ∃b:B,(∀k,b.says k=false)/\Zdm N (o.dst.getD 0) st=true/\st1=⟨st.env,hins st.heap (o.dst.getD 0) b⟩/\∀st2,(∀t∈ZeX ops o,st2.get t=st.get t)->Zdm N (o.dst.getD 0) st2=true ->
   Zdn P N T ops ra i o st2=some (v,obl,⟨st2.env,hins st2.heap (o.dst.getD 0) b⟩):=by
 unfold Zly at hs;unfold Zdn at h ⊢;split at hs
 .rename_i ha hk;cases hk2:ZcH ra.hc (i+1000)with
  |some y=>rw[hk2]at hs;cases hs
  |none=>
   rw[hk2]at hs;simp only[hk,hk2]at h ⊢;exact ZDd hs h
 .rename_i hk;rw[hk]at h ⊢;simp only at h ⊢;split at hs;rotate_left
  .cases hs
  rename_i cM;have hg:∀st:St,Zgm ops st o=some true:=fun st=>by unfold Zgm;rw[cM]
  simp only[Bool.and_eq_true]at hs;obtain⟨hr,dY⟩:=hs;have dY:=Nat.eq_of_beq_eq_true dY;unfold ZmW at h;rw[hg]at h;simp only at h;split at h
  .cases h
  rename_i v0 c5 st0 bm;split at h
  .cases h
  rename_i v' obl' hd;split at h;rotate_left
  .cases h
  rename_i v'' gg;split at h;rotate_left
  .cases h
  rename_i v3 obl3 fQ;cases h;have gi:∃b:B,(∀k,b.says k=false)/\Zdm N (o.dst.getD 0) st=true/\st1=⟨st.env,hins st.heap (o.dst.getD 0) b⟩/\∀st2,(∀x∈Zcr o.op,evo st2 x=evo st x)->Zdm N (o.dst.getD 0) st2=true ->
    evOp P N T o st2 (ZcH ra.an i)=some (v0,c5,⟨st2.env,hins st2.heap (o.dst.getD 0) b⟩):=by
   obtain⟨dst,op,type,eR,after,guard⟩:=o;simp only at hr dY cM ⊢;cases op<;>simp only[ZLC]at hr<;>try (cases hr;done)
   case alloc t0 _=>
    simp only[evOp]at bm;split at bm;rotate_left
    .cases bm
    rename_i te bU;split at bm;rotate_left
    .cases bm
    rename_i l hl;unfold Zpj at bm;split at bm;rotate_left
    .cases bm
    rename_i hq ly;cases bm;refine⟨.box l,fun k=>ZDK hl k,hq,rfl,fun st2 he cV=>?_⟩;simp only[evOp,bU,hl];unfold Zpj;rw[cV,ly];rfl
   case makeSlice t0 x y _=>
    simp only[ZeA]at dY;split at dY
    .cases dY
    rename_i hx;simp only[evOp]at bm;split at bm
    .rename_i hk;exact absurd hk (hx _ _)
    .cases bm
    obtain⟨b,h1,h2,h3,h4⟩:=ZBC bm;refine⟨b,h1,h2,h3,fun st2 he hq=>?_⟩;simp only[evOp];rw[he x (by simp[Zcr]),he y (by simp[Zcr])];exact h4 st2 hq
   case buildSlice t n ps _=>
    simp only[ZeA]at dY;split at dY;rotate_left
    .cases dY
    rename_i k c hka;simp only[evOp,hka]at bm;obtain⟨b,h1,h2,h3,h4⟩:=ZuF bm;refine⟨b,h1,h2,h3,fun st2 he hq=>?_⟩;simp only[evOp,hka];rw[Zrd (fun x hx=>he x (by simpa[Zcr]using hx))];exact h4 st2 hq
  obtain⟨b,h1,h2,h3,h4⟩:=gi;refine⟨b,h1,h2,h3,fun st2 hu hq=>?_⟩;unfold ZmW;rw[hg];simp only[h4 st2 (Zml hu) hq,hd,gg,fQ]
theorem Zii{ra:RA}{i:Nat}{o:Oper}(h:ZcH ra.hc i=none):clsX ra i o=ZeA ra i o.op:=by unfold clsX;rw[h]
theorem ZuS{ra:RA}{i:Nat}{o:Oper}{ha:HA}(h:ZcH ra.hc i=some ha)(hc:clsX ra i o<=3):(Zgv o ha=true/\clsX ra i o=3)\/(ha.new=[]/\clsX ra i o=2/\ZcH ra.hc (i+1000)=none):=by
 unfold clsX at hc ⊢;rw[h]at hc ⊢;simp only at hc ⊢;split at hc
 .rename_i hs;exact .inl ⟨hs,rfl⟩
 .split at hc
  .omega
  .rename_i hk2;split at hc
   .rename_i hn;exact .inr ⟨hn,rfl,hk2⟩
   .omega
theorem ZtX{P:Program}{N:Nat}{T:Tab}{ops:Array Oper}{ra:RA}{i:Nat}{o:Oper}{ha:HA}{st st1:St}{v:V}{obl:List Prop}(hk:ZcH ra.hc i=some ha)(hs:Zgv o ha=true)(h:Zdn P N T ops ra i o st=some (v,obl,st1)) :
  ∃b:B,Zdm N (o.dst.getD 0) st=true/\st1=⟨st.env,hins st.heap (o.dst.getD 0) b⟩/\∀st2,(∀t∈ZeX ops o,st2.get t=st.get t)->st2.heap=st.heap->Zdm N (o.dst.getD 0) st2=true ->
   Zdn P N T ops ra i o st2=some (v,obl,⟨st2.env,st1.heap⟩):=by
 unfold Zdn at h ⊢;cases hk2:ZcH ra.hc (i+1000)with
 |none=>
  simp only[hk,hk2]at h ⊢;obtain⟨b,h1,h2,rfl,h4⟩:=ZDd hs h;refine⟨b,h2,rfl,fun st2 hu hh hq=>?_⟩;rw[h4 st2 hu hq,hh]
 |some x=>
  simp only[hk,hk2]at h ⊢;exact ZNa hs h
theorem ZeN{P:Program}{N:Nat}{T:Tab}{ops:Array Oper}{ra:RA}{i:Nat}{o:Oper}{st st1 st2:St}{v:V}{obl:List Prop}(hc:clsX ra i o<=3)(hu:∀t∈ZeX ops o,st2.get t=st.get t)
  (hh:clsX ra i o≠0->st2.heap=st.heap) (hq:clsX ra i o=3->Zdm N (o.dst.getD 0) st=true->Zdm N (o.dst.getD 0) st2=true) (h:Zdn P N T ops ra i o st=some (v,obl,st1)) :
  st1.env=st.env/\(clsX ra i o<=1->st1.heap=st.heap)/\Zdn P N T ops ra i o st2=some (v,obl,⟨st2.env,if clsX ra i o<=1 then st2.heap else st1.heap⟩):=by
 cases hk:ZcH ra.hc i with
 |none=>
  rw[Zii hk]at *
  unfold Zdn at h ⊢;rw[hk]at h ⊢;exact ZAW hc hu hh hq h
 |some ha=>
  rcases ZuS hk hc with⟨hs,e3⟩|⟨hn,e3,hk2⟩
  .rw[e3]at hh hq ⊢;obtain⟨b,h2,rfl,h4⟩:=ZtX hk hs h;refine⟨rfl,fun h=>by omega,?_⟩;rw[h4 st2 hu (hh (by omega)) (hq rfl h2)];rfl
  .rw[e3]at hh hq ⊢;unfold Zdn at h ⊢;rw[hk]at h ⊢;simp only at h ⊢;rw[hk2]at h ⊢;simp only at h ⊢;obtain⟨h1,h2⟩:=ZMZ hn h;refine⟨h1,fun h=>by omega,?_⟩;rw[h2 st2 hu (hh (by omega))];rfl
theorem Zli{P:Program}{N:Nat}{T:Tab}{ops:Array Oper}{ra:RA}{i:Nat}{o:Oper}{st st1 st2:St}{v:V}{obl:List Prop}(hc:clsX ra i o=1)(hu:∀t∈ZeX ops o,st2.get t=st.get t)
  (hm:∀x∈Zcr o.op,Has st st2 fun id=>(evo st x).says id) (h:Zdn P N T ops ra i o st=some (v,obl,st1)):Zdn P N T ops ra i o st2=some (v,obl,st2):=by
 cases hk:ZcH ra.hc i with
 |none=>
  rw[Zii hk]at *
  unfold Zdn at h ⊢;rw[hk]at h ⊢;exact ZEj hc hu hm h
 |some ha=>
  unfold clsX at hc;rw[hk]at hc;simp only at hc
  repeat' split at hc
  all_goals omega
theorem ZEk{P:Program}{N:Nat}{T:Tab}{ops:Array Oper}{ra:RA}{i:Nat}{o:Oper}{st st1:St}{v:V}{obl:List Prop}(hc:clsX ra i o=3)(h:Zdn P N T ops ra i o st=some (v,obl,st1)) :
  st1=st\/(Zdm N (o.dst.getD 0) st=true/\∀id b,hget st1.heap id=some b->id=o.dst.getD 0\/hget st.heap id=some b):=by
 cases hk:ZcH ra.hc i with
 |none=>
  rw[Zii hk]at *
  unfold Zdn at h;rw[hk]at h;exact ZGE hc h
 |some ha=>
  obtain⟨hs,e3⟩ : Zgv o ha=true/\clsX ra i o=3:=(ZuS hk (Nat.le_of_eq hc)).resolve_right fun h=>by have:=h.2.1;omega
  obtain⟨b,h2,rfl,h4⟩:=ZtX hk hs h;refine .inr ⟨h2,fun id b' hb=>?_⟩;simp only[Zex]at hb;split at hb
  .rename_i e;exact .inl e.symm
  .exact .inr hb
theorem ZyJ{P:Program}{N:Nat}{T:Tab}{ops:Array Oper}{ra:RA}{i:Nat}{o:Oper}{st st1:St}{v:V}{obl:List Prop}(hc:clsX ra i o=3)(hk:Zub ra i o=true)(h:Zdn P N T ops ra i o st=some (v,obl,st1)) :
  ∀id b,hget st.heap id=some b->hget st1.heap id=some b:=by
 unfold Zub at hk;cases hk':ZcH ra.hc i with
 |none=>
  rw[Zii hk']at *
  unfold Zdn at h;rw[hk']at h hk;exact ZAX hc hk h
 |some ha=>
  obtain⟨hs,e3⟩ : Zgv o ha=true/\clsX ra i o=3:=(ZuS hk' (Nat.le_of_eq hc)).resolve_right fun h=>by have:=h.2.1;omega
  obtain⟨b,h2,rfl,h4⟩:=ZtX hk' hs h;intro id b' hb;simp only[Zex];have:=(Zij (ZcM h2).2).1;rw[if_neg (fun e=>by rw[e,hb]at this;cases this)];exact hb
def isMk(ra:RA)(i:Nat)(o:Oper):Bool:=match ZcH ra.hc i,ZcH ra.hc (i+1000),o.op with
 |some ha,some _,.call { callee:=.value (.func _),args:=_,argTypes:=_ }=>Zgv o ha
 |_,_,_=>false
theorem ZKY{P:Program}{N:Nat}{ops:Array Oper}{ha:HA}{an:Option Ans}{o:Oper}{g:FuncId}{args:Array Operand}{bz:Array TypeId}{st st1:St}{v:V}{obl:List Prop}(hs:Zgv o ha=true)
  (cD:o.op=.call { callee:=.value (.func g),args:=args,argTypes:=bz }) (h:Zhm P N ops ha an o st=some (v,obl,st1)) :
  ∃b:B,(∀k,b.says k=false)/\Zdm N (o.dst.getD 0) st=true/\st1=⟨st.env,hins st.heap (o.dst.getD 0) b⟩/\∀st2,(∀t∈ZeX ops o,st2.get t=st.get t)->(∀x∈Zcr o.op,Has st st2 fun id=>(evo st x).says id)->Zdm N (o.dst.getD 0) st2=true ->
   Zhm P N ops ha an o st2=some (v,obl,⟨st2.env,hins st2.heap (o.dst.getD 0) b⟩):=by
 have fP:=hs;unfold Zgv at hs;split at hs;rotate_left
 .cases hs
 rename_i c d c' e sz len cc hl hn cQ cM;simp only[Bool.and_eq_true]at hs;obtain⟨⟨e1,e2⟩,e3⟩:=hs;have e1:=Nat.eq_of_beq_eq_true e1;have e2:=Nat.eq_of_beq_eq_true e2;subst e2;obtain⟨lend,new,h1,res⟩:=ha;simp only at hl hn cQ;subst hl hn cQ;subst e1;have hg:∀st:St,Zgm ops st o=some true:=fun st=>by unfold Zgm;rw[cM]
 have kA:∀st,Zed P N ops ⟨[],[(c,o.dst.getD 0)],[(c,.rows e sz len cc)],res⟩ an o st=Zgn P N st (.value (.func g)) args.toList ⟨[],[(c,o.dst.getD 0)],[(c,.rows e sz len cc)],res⟩ an:=fun st=>by
  unfold Zed;rw[hg];simp only[cD]
 have kB:∀st,Zhm P N ops ⟨[],[(c,o.dst.getD 0)],[(c,.rows e sz len cc)],res⟩ an o st=ZgQ P N st (.value (.func g)) args.toList ⟨[],[(c,o.dst.getD 0)],[(c,.rows e sz len cc)],res⟩ an:=fun st=>by
  unfold Zhm;rw[hg];simp only[cD]
 rw[kB]at h;cases hE:Zgn P N st (.value (.func g)) args.toList ⟨[],[(c,o.dst.getD 0)],[(c,.rows e sz len cc)],res⟩ an with
 |some r=>
  unfold ZgQ at h;rw[hE]at h;simp only at h;cases h;obtain⟨b,q1,q2,q3,q4⟩:=ZDd fP ((kA st).trans hE);refine⟨b,q1,q2,q3,fun st2 hu hm hq=>?_⟩;rw[kB];exact ZuI ((kA st2).symm.trans (q4 st2 hu hq))
 |none=>
  unfold ZgQ at h;rw[hE]at h;simp only at h;have js:∀hp,ZqW (gOut ⟨[],[(c,o.dst.getD 0)],[(c,.rows e sz len cc)],res⟩) [(c,.rows e sz len cc)]=some hp->hp=[(o.dst.getD 0,.rows e sz len cc)]:=fun hp dl=>by
   have:gOut ⟨[],[(c,o.dst.getD 0)],[(c,.rows e sz len cc)],res⟩ c=some (o.dst.getD 0):=by
    simp only[gOut,ZoG,Nat.beq_refl]
   simp only[ZqW,this,renB]at dl;exact(Option.some.inj dl).symm
  obtain⟨k0,n0,rfl⟩ : ∃k n,res=.one (.osl k n):=by
   unfold Zlb at h;simp only at h;split at h
   .exact⟨_,_,rfl⟩
   .cases h
  unfold Zlb at h;simp only at h;split at h;rotate_left
  .cases h
  rename_i g' a b om bN;split at h;rotate_left
  .cases h
  rename_i vs hp r ps aL bY dl gY cj;cases h;obtain rfl:=js _ dl;have hq:Zdm N (o.dst.getD 0) st=true:=by
   have cm:=aL;unfold okHA at cm;split at cm
   .rename_i q1 q2 q3 q4;exact List.all_eq_true.1 q4 _ (List.mem_cons_self)
   .cases cm
  refine⟨.rows e sz len cc,fun _=>rfl,hq,rfl,fun st2 hu hm cV=>?_⟩;have he:∀x∈Zcr (.call { callee:=.value (.func g),args:=args,argTypes:=bz }),evo st2 x=evo st x:=fun x hx=>Zml hu x (by rw[cD];exact hx);have eU:okHA N st2 ⟨[],[(c,o.dst.getD 0)],[(c,.rows e sz len cc)],.one (.osl k0 n0)⟩=true:=by
   have cm:=aL;unfold okHA at cm ⊢;split at cm
   .rename_i q1 q2 q3 q4;simp only at q1 q2 q3;simp only[q1,q2,q3,List.all_cons,List.all_nil,cV,Bool.and_true]
   .cases cm
  have lz:a=[]/\b=[]:=by
   simp only[Zlr,Zkg,evo,V.ofVal]at bN
   first
    | (cases bN;exact⟨rfl,rfl⟩)
    | (simp at bN;exact⟨bN.2.1.symm,bN.2.2.1.symm⟩)
  obtain⟨rfl,rfl⟩:=lz;have cq:Zci st2 args.toList [] []=Zci st args.toList [] []:=ZhG (fun x hx=>he x (ZnD x hx)) [] [];have hbm:borA st2 (Zci st args.toList [] [])=some vs:=by
   refine ZuY (fun v hv=>?_) bY;unfold Zci at hv;simp only[List.map_nil,List.nil_append,List.append_nil,List.mem_map]at hv;obtain⟨x,hx,rfl⟩:=hv;exact hm x (by rw[cD];exact ZnD x hx)
  have lA:Zgn P N st2 (.value (.func g)) args.toList ⟨[],[(c,o.dst.getD 0)],[(c,.rows e sz len cc)],.one (.osl k0 n0)⟩ an=none:=by
   cases lA:Zgn P N st2 (.value (.func g)) args.toList ⟨[],[(c,o.dst.getD 0)],[(c,.rows e sz len cc)],.one (.osl k0 n0)⟩ an with
   |none=>rfl
   |some r2=>
    obtain⟨b2,_,_,_,q4⟩:=ZDd fP ((kA st2).trans lA);have:=q4 st (fun t ht=>(hu t ht).symm) hq;rw[kA,hE]at this;cases this
  rw[kB];unfold ZgQ;rw[lA];simp only;unfold Zlb;simp only;rw[Zku he,bN];simp only[eU,cq,hbm,dl,gY,cj];rfl
theorem ZyI{P:Program}{N:Nat}{T:Tab}{ops:Array Oper}{ra:RA}{i:Nat}{o:Oper}{st st1:St}{v:V}{obl:List Prop}(hs:(Zly ra i o||isMk ra i o)=true)(h:Zdn P N T ops ra i o st=some (v,obl,st1)) :
  ∃b:B,(∀k,b.says k=false)/\Zdm N (o.dst.getD 0) st=true/\st1=⟨st.env,hins st.heap (o.dst.getD 0) b⟩/\∀st2,(∀t∈ZeX ops o,st2.get t=st.get t)->(∀x∈Zcr o.op,Has st st2 fun id=>(evo st x).says id)->Zdm N (o.dst.getD 0) st2=true ->
   Zdn P N T ops ra i o st2=some (v,obl,⟨st2.env,hins st2.heap (o.dst.getD 0) b⟩):=by
 rw[Bool.or_eq_true]at hs;rcases hs with hs|hs
 .obtain⟨b,h1,h2,h3,h4⟩:=Zmw hs h;exact⟨b,h1,h2,h3,fun st2 hu _ hq=>h4 st2 hu hq⟩
 .unfold isMk at hs;split at hs;rotate_left
  .cases hs
  rename_i ha y g args bz hk hk2 cD;unfold Zdn at h ⊢;simp only[hk,hk2]at h ⊢;exact ZKY hs cD h
theorem ZCV{ra:RA}{i:Nat}{o:Oper}(hs:isMk ra i o=true):clsX ra i o=3:=by
 unfold isMk at hs;split at hs;rotate_left
 .cases hs
 rename_i ha y g args bz hk hk2 cD;unfold clsX;rw[hk];simp only[hs]
theorem ZKX{P:Program}{N:Nat}{ops:Array Oper}{c e:Nat}{b:B}{res:V}{an:Option Ans}{o:Oper}{st st1:St}{v:V}{obl:List Prop}(cM:o.guard=none)
  (h:Zed P N ops ⟨[(c,e)],[],[(c,b)],res⟩ an o st=some (v,obl,st1)) :
  ∃b',renB (gOut ⟨[(c,e)],[],[(c,b)],res⟩) b=some b'/\st1=⟨st.env,hrep st.heap e b'⟩/\(∃b0 b1,hget st.heap e=some b0/\renB (bwd [(c,e)]) b0=some b1) /\
   ∀st2,(∀t∈ZeX ops o,st2.get t=st.get t)->hget st2.heap e=hget st.heap e->Zed P N ops ⟨[(c,e)],[],[(c,b)],res⟩ an o st2=some (v,obl,⟨st2.env,hrep st2.heap e b'⟩):=by
 have hg:∀st:St,Zgm ops st o=some true:=fun st=>by unfold Zgm;rw[cM]
 unfold Zed at h;rw[hg]at h;simp only at h;split at h;rotate_left
 .cases h
 rename_i f args bz cD;unfold Zgn at h;split at h;rotate_left
 .cases h
 rename_i g a b1 om bN;split at h;rotate_left
 .cases h
 rename_i h0 vs hp r aL dR bY dl hr;cases h;have eT:gOut ⟨[(c,e)],[],[(c,b)],res⟩ c=some e:=by simp only[gOut,ZoG,Nat.beq_refl]
 obtain⟨b',aR,rfl⟩ : ∃b',renB (gOut ⟨[(c,e)],[],[(c,b)],res⟩) b=some b'/\hp=[(e,b')]:=by
  simp only[ZqW,eT]at dl;split at dl
  .rename_i i0 b0 l0 q1 q2 q3;cases q1;cases q3;cases dl;exact⟨_,q2,rfl⟩
  .cases dl
 have ic:∀hh,ZyD [(e,b')] [(c,e)] hh=hrep hh e b':=fun hh=>by
  unfold ZyD;simp only[ZtH,Nat.beq_refl,ZvH]
 refine⟨b',aR,by rw[ic],?_,fun st2 hu hh=>?_⟩
 .simp only[hIn]at dR;split at dR
  .rename_i b0 bH;split at dR
   .rename_i b2 l2 q1 q2;exact⟨b0,b2,bH,q1⟩
   .cases dR
  .cases dR
 .have he:∀x∈Zcr (.call { callee:=f,args:=args,argTypes:=bz }),evo st2 x=evo st x:=fun x hx=>Zml hu x (by rw[cD];exact hx);have eU:okHA N st2 ⟨[(c,e)],[],[(c,b)],res⟩=true:=aL;have iS:hIn (bwd [(c,e)]) st2.heap [(c,e)]=some h0:=by
   rw[Zzm (h:=st.heap) (fun p hp=>by
    rcases List.mem_singleton.1 hp with rfl;exact hh)]
   exact dR
  unfold Zed;rw[hg];simp only[cD];unfold Zgn;rw[Zku he,bN];simp only[eU,iS,ZhG (fun x hx=>he x (ZnD x hx)) a b1,bY,dl,hr,ic]
def plOf(ra:RA)(i:Nat)(o:Oper):Option Nat:=match ZcH ra.hc i,ZcH ra.hc (i+1000),o.guard with
 |some ⟨[(c,e)],[],[(c',_)],_⟩,none,none=>match Nat.beq c c' with
  |true=>some e
  |false=>none
 |_,_,_=>none
theorem Znc{P:Program}{N:Nat}{T:Tab}{ops:Array Oper}{ra:RA}{i e:Nat}{o:Oper}{st st1:St}{v:V}{obl:List Prop}(hp:plOf ra i o=some e)(h:Zdn P N T ops ra i o st=some (v,obl,st1)) :
  ∃b':B,(∀d,d≠e->b'.says d=false)/\st1=⟨st.env,hrep st.heap e b'⟩/\(∀d b0,d≠e->hget st.heap e=some b0->b0.says d=false) /\
   ∀st2,(∀t∈ZeX ops o,st2.get t=st.get t)->hget st2.heap e=hget st.heap e->Zdn P N T ops ra i o st2=some (v,obl,⟨st2.env,hrep st2.heap e b'⟩):=by
 unfold plOf at hp;split at hp;rotate_left
 .cases hp
 rename_i c e0 c' b res hk hk2 cM;split at hp;rotate_left
 .cases hp
 rename_i cC;cases hp;obtain rfl:=Nat.eq_of_beq_eq_true cC;unfold Zdn at h ⊢;simp only[hk,hk2]at h ⊢;obtain⟨b',h1,h2,⟨b0,b1,h3,h4⟩,h5⟩:=ZKX cM h;refine⟨b',fun d hd=>ZKb (fun k hk'=>?_) h1,h2,fun d b2 hd bK=>?_,h5⟩
 .simp only[gOut,ZoG]at hk';split at hk'
  .rename_i hq;split at hq
   .cases hq;cases hk';exact hd rfl
   .cases hq
  .cases hk'
 .rw[h3]at bK;cases bK;refine ZGj ?_ h4;simp only[bwd,List.map_cons,List.map_nil,ZoG];split
  .rename_i hq;exact absurd (Nat.eq_of_beq_eq_true hq).symm hd
  .rfl
structure Eqv (st st2:St):Prop where
 env:∀t,st2.get t=st.get t
 heap:st2.heap=st.heap
theorem Eqv.refl(st:St):Eqv st st:=⟨fun _=>rfl,rfl⟩
theorem Eqv.trans{a b c:St}(h:Eqv a b)(k:Eqv b c):Eqv a c:=⟨fun t=>(k.env t).trans (h.env t),k.heap.trans h.heap⟩
theorem ZvN{st st2:St}{d:Nat}(h:∀t,st2.get t=st.get t):∀n,Zhz st2 d n=Zhz st d n
 | 0=>rfl
 |n+1=>by simp only[Zhz,h n,ZvN h n]
theorem ZyA{st st2:St}(h:Eqv st st2)(N d:Nat):Zdm N d st2=Zdm N d st:=by
 unfold Zdm;rw[ZvN h.env,h.heap]
theorem ZcI.eqv{N:Nat}{S0:Nat->Prop}{w0:ZeB}{st st2:St}{a:Act}{w:World}(h:ZcI N S0 w0 st a w)(he:Eqv st st2):ZcI N S0 w0 st2 a w:=
 h.le (N:=N) ⟨fun t=>.inl (he.env t),fun id b hb=>by rw[<-he.heap];exact hb⟩
theorem ZKm{N:Nat}{st st2:St}(he:Eqv st st2)(ha:HA):okHA N st2 ha=okHA N st ha:=by
 unfold okHA;rw[show (fun p:Nat×Nat=>Zdm N p.2 st2)=fun p=>Zdm N p.2 st from funext fun p=>ZyA he N p.2]
theorem ZEl{P:Program}{N:Nat}{T:Tab}{ops:Array Oper}{ra:RA}{i:Nat}{o:Oper}{st st1 st2:St}{v:V}{obl:List Prop}(hc:ZwU ra i o=true)(he:Eqv st st2)(h:Zdn P N T ops ra i o st=some (v,obl,st1)) :
  ∃hp,Zdn P N T ops ra i o st2=some (v,obl,⟨st2.env,hp⟩)/\hp=st1.heap:=by
 by_cases hc3:clsX ra i o<=3
 .obtain⟨e1,h1,gY⟩:=ZeN (st2:=st2) hc3 (fun t _=>he.env t) (fun _=>he.heap) (fun _ hq=>by rw[ZyA he];exact hq) h;refine⟨_,gY,?_⟩;split
  .rename_i iH;rw[h1 iH];exact he.heap
  .rfl
 .cases hk:ZcH ra.hc i with
  |none=>
   exfalso;unfold ZwU at hc;rw[Zii hk]at hc3;rw[hk]at hc;exact hc3 (Nat.le_of_ble_eq_true hc)
  |some ha=>
   have hk2:ZcH ra.hc (i+1000)=none:=by
    cases hk2:ZcH ra.hc (i+1000)with
    |none=>rfl
    |some x=>
     exfalso;unfold ZwU at hc;rw[hk]at hc;simp only[hk2]at hc;apply hc3;unfold clsX;rw[hk];simp only[hc];omega
   unfold Zdn at h ⊢;rw[hk]at h ⊢;simp only at h ⊢;rw[hk2]at h ⊢;simp only at h ⊢;unfold Zed at h ⊢;rw[ZlB (o:=o) (ops:=ops) (fun t _=>he.env t)];split at h
   .split at h
    .rename_i c args bz cD;have bm:∀x,evo st2 x=evo st x:=fun x=>by
      cases x with
      |tmp t=>exact he.env t
      |const v=>rfl
      |func f=>rfl
      |global g=>rfl
     unfold Zgn at h ⊢;rw[Zku (args:=args) (bz:=bz) (fun x _=>bm x)];split at h;rotate_left
     .cases h
     rename_i g a b om bN;rw[ZhG (fun x _=>bm x) a b,ZKm he,he.heap];split at h;rotate_left
     .cases h
     rename_i h0 vs hp r q1 q2 q3 q4 q5;cases h;simp only[q1,q2,q3,q4,q5];exact⟨_,rfl,rfl⟩
    .cases h
   .cases h;exact⟨_,rfl,he.heap⟩
   .cases h
def Zrg(ra:RA):Nat->List Oper->List (Nat×Nat)
 |_,[]=>[]
 |i,o :: r=>match Nat.beq (clsX ra i o) 3 with
  |true=>(i,o.dst.getD 0) :: Zrg ra (i+1) r
  |false=>Zrg ra (i+1) r
def Zfk(al:List (List Nat))(i:Nat):List Nat:=al.getD i []
def memN(k:Nat):List Nat->Bool
 | []=>false
 |x :: l=>match Nat.beq x k with
  |true=>true
  |false=>memN k l
theorem Zpz{k:Nat}:∀{l:List Nat},memN k l=true↔k∈l
 | []=>by simp[memN]
 |x :: l=>by
  simp only[memN]
  split
  .rename_i h
   simp[ZaD h]
  .rename_i h
   have:=Nat.ne_of_beq_eq_false h
   rw[Zpz]
   simp[Ne.symm this]
def chk(ni:List (Nat×Nat))(ps:List Nat)(i:Nat)(v:V):Bool:=ni.all fun p=>Nat.beq p.1 i||memN p.1 ps || !(v.says p.2)
section
variable (P:Program) (N:Nat) (T:Tab) (ops:Array Oper) (ra:RA) (al:List (List Nat)) (ni:List (Nat × Nat))
def bxOk(l:List Nat)(st:St)(op:Op):Bool:=match l with
 | []=>true
 |c :: _=>match op with
  | .load _ x=>match evo st x with
   | .one (.ptr d _)=>Nat.beq d c
   | .one (.rp _ _ _)=>Nat.beq 99998 c
   |_=>false
  | .store _ x _=>match evo st x with
   | .one (.ptr d _)=>Nat.beq d c
   |_=>false
  |_=>false
def ZeJ(i:Nat)(st:St):Option (St×List Prop):=match ops[i]? with
 |none=>none
 |some o=>match bxOk (Zfk al (ops.size+i)) st o.op with
  |false=>none
  |true=>match Zdn P N T ops ra i o st with
   |none=>none
   |some (v,obl,st')=>match chk ni (Zfk al i) i v with
    |false=>none
    |true=>match putO N st' o.dst v with
     |none=>none
     |some st''=>some (st'',obl)
def ZsV:List Nat->St->Option (St×List Prop)
 | [],st=>some (st,[])
 |i :: l,st=>match ZeJ P N T ops ra al ni i st with
  |none=>none
  |some (st1,o1)=>match ZsV l st1 with
   |none=>none
   |some (st2,o2)=>some (st2,o1++o2)
def disj(x:Option Nat)(l:List Nat):Bool:=match x with
 |none=>true
 |some d=>!(memN d l)
def Zny(x y:Option Nat):Bool:=match x,y with
 |some a,some b=>!(Nat.beq a b)
 |_,_=>true
def ZLE(k i:Nat):Bool:=match ops[k]?,ops[i]? with
 |some a,some b=>disj a.dst (ZeX ops b)&&disj b.dst (ZeX ops a)&&Zny a.dst b.dst &&
   ((Nat.ble (clsX ra k a) 1&&Nat.ble (clsX ra i b) 1)||(Nat.beq (clsX ra k a) 0&&Nat.ble (clsX ra i b) 3)||(Nat.beq (clsX ra i b) 0&&Nat.ble (clsX ra k a) 3)||(Nat.beq (clsX ra k a) 3&&Nat.beq (clsX ra i b) 1&&(ZeX ops b).all fun t=>Nat.blt t N)||(Nat.beq (clsX ra k a) 1&&Nat.beq (clsX ra i b) 3&&Zub ra i b)||(Zly ra k a&&Zly ra i b)||((Zly ra k a||isMk ra k a)&&(Zly ra i b||isMk ra i b)&&(ZeX ops b).all fun t=>Nat.blt t N))
 |_,_=>false
def isLd:Op->Bool | .load _ _=>true|_=>false
def isSt:Op->Bool | .store _ _ _=>true|_=>false
def ZMN(i:Nat):Op->Bool
 | .call { callee:=.builtin .append,.. }=>match ZcH ra.an i with
  |some (.c _ _)=>true
  |_=>false
 |_=>false
def okLS(k i:Nat):Bool:=match ops[k]?,ops[i]?,Zfk al (ops.size+k),Zfk al (ops.size+i)with
 |some a,some b,c :: _,d :: _=>disj a.dst (ZeX ops b)&&disj b.dst (ZeX ops a)&&Zny a.dst b.dst&&isLd a.op&&isSt b.op&&(ZcH ra.hc k).isNone&&(ZcH ra.hc i).isNone && !(Nat.beq c d)
 |_,_,_,_=>false
def okLC(k i:Nat):Bool:=match ops[k]?,ops[i]? with
 |some a,some b=>disj a.dst (ZeX ops b)&&disj b.dst (ZeX ops a)&&Zny a.dst b.dst&&(match plOf ra k a,plOf ra i b with
  |some e,none=>(Zly ra i b && !(Nat.beq (b.dst.getD 0) e))||(isLd b.op&&(ZcH ra.hc i).isNone&&match Zfk al (ops.size+i)with
   |c :: _=>!(Nat.beq c e)
   | []=>false)
  |none,some e=>(Zly ra k a && !(Nat.beq (a.dst.getD 0) e))||(isLd a.op&&(ZcH ra.hc k).isNone&&match Zfk al (ops.size+k)with
   |c :: _=>!(Nat.beq c e)
   | []=>false)
  |_,_=>false)
 |_,_=>false
def ZwE:Operand->Operand->Bool | .tmp a,.tmp b=>Nat.beq a b|_,_=>false
def okLM(k i:Nat):Bool:=match ops[k]?,ops[i]? with
 |some a,some b=>match a.op,b.op with
  | .lookup t x y false,.mapEntry t' x' y'=>Nat.beq t t'&&ZwE x x'&&ZwE y y'&&disj a.dst (ZeX ops b)&&disj b.dst (ZeX ops a)&&Zny a.dst b.dst&&a.guard.isNone&&b.guard.isNone &&
    (ZcH ra.hc k).isNone&&(ZcH ra.hc i).isNone&&(ZcH ra.bl k).isNone&&(ZcH ra.bl i).isNone&&(kdn ra.dn k).isEmpty&&(kdn ra.dn i).isEmpty&&(ZcH ra.rl k).isNone&&(ZcH ra.rl i).isNone
  |_,_=>false
 |_,_=>false
def okLA(k i:Nat):Bool:=match ops[k]?,ops[i]?,Zfk al (ops.size+k)with
 |some a,some b,c :: _=>disj a.dst (ZeX ops b)&&disj b.dst (ZeX ops a)&&Zny a.dst b.dst&&isLd a.op&&ZMN ra i b.op&&a.guard.isNone&&(ZcH ra.hc k).isNone&&(ZcH ra.hc i).isNone && !(Nat.beq c 99998)
 |_,_,_=>false
def ZAY(k i:Nat):Bool:=ZLE N ops ra k i||okLS ops ra al k i||okLC ops ra al k i||okLA ops ra al k i
def Zsh(k i:Nat):Bool:=ZAY N ops ra al k i||okLM ops ra k i
end
theorem Zau{N:Nat}{st st':St}{dst:Option Nat}{v:V}(h:putO N st dst v=some st')(t:Nat):st'.get t=(if dst=some t then v else st.get t)/\st'.heap=st.heap:=by
 unfold putO at h;split at h
 .cases h;simp
 .split at h
  .cases h;rename_i d _ _;refine⟨?_,rfl⟩;rw[St.get_put];by_cases e:d=t
   .subst e;simp
   .rw[if_neg e,if_neg (by simpa using e)]
  .cases h
theorem ZdH{N:Nat}{st st' st2:St}{dst:Option Nat}{v:V}(h:putO N st dst v=some st'):∃aO,putO N st2 dst v=some aO:=by
 cases dst with
 |none=>exact⟨_,rfl⟩
 |some d=>
  unfold putO at h ⊢;cases hb:Nat.blt d N with
  |true=>simp only[hb];exact⟨_,rfl⟩
  |false=>simp only[hb]at h;cases h
theorem Zbc{x:Option Nat}{l:List Nat}(h:disj x l=true){t:Nat}(ht:t∈l):x≠some t:=by
 rintro rfl;simp only[disj,Bool.not_eq_true']at h;rw[<-Bool.not_eq_true,Zpz]at h;exact h ht
section
variable {P:Program} {N:Nat} {T:Tab} {ops:Array Oper} {ra:RA} {al:List (List Nat)} {ni:List (Nat × Nat)}
theorem Zdi{i:Nat}{st st':St}{obl:List Prop}(h:ZeJ P N T ops ra al ni i st=some (st',obl)):∃o v st1,ops[i]?=some o/\Zdn P N T ops ra i o st=some (v,obl,st1)/\chk ni (Zfk al i) i v=true/\putO N st1 o.dst v=some st':=by
 unfold ZeJ at h;split at h
 .cases h
 rename_i o ho;split at h
 .cases h
 split at h
 .cases h
 rename_i v jP st1 hr;split at h
 .cases h
 rename_i hc;split at h
 .cases h
 rename_i st2 hp;cases h;exact⟨o,v,st1,ho,hr,hc,hp⟩
theorem ZdD{i:Nat}{st st':St}{obl:List Prop}(h:ZeJ P N T ops ra al ni i st=some (st',obl)){o:Oper}(ho:ops[i]?=some o):bxOk (Zfk al (ops.size+i)) st o.op=true:=by
 unfold ZeJ at h;rw[ho]at h;simp only at h;split at h
 .cases h
 .assumption
theorem ZdK{st st2:St}{o:Oper}(l:List Nat)(h:∀t∈ZeX ops o,st2.get t=st.get t):bxOk l st2 o.op=bxOk l st o.op:=by
 have he:=Zml h;unfold bxOk;cases l with
 |nil=>rfl
 |cons c l=>
  obtain⟨dst,op,type,eR,after,guard⟩:=o;simp only at he ⊢;cases op<;>simp only[Zcr]at he ⊢
  case load t x=>rw[he x (by simp)]
  case store t x y=>rw[he x (by simp)]
theorem ZeI{i:Nat}{st st1 st':St}{o:Oper}{v:V}{obl:List Prop}(ho:ops[i]?=some o)(hbx:bxOk (Zfk al (ops.size+i)) st o.op=true)(hr:Zdn P N T ops ra i o st=some (v,obl,st1))(hc:chk ni (Zfk al i) i v=true)(hp:putO N st1 o.dst v=some st'):ZeJ P N T ops ra al ni i st=some (st',obl):=by
 unfold ZeJ;simp only[ho,hbx,hr,hc,hp]
theorem ZpM{ps:List Nat}{i k d:Nat}{v:V}(h:chk ni ps i v=true)(hk:(k,d)∈ni)(hne:k≠i)(hp:k ∉ ps):v.says d=false:=by
 have:=List.all_eq_true.1 h _ hk;simp only[Bool.or_eq_true,Bool.not_eq_true']at this;rcases this with (h1|h1)|h1
 .exact absurd (ZaD h1) hne
 .exact absurd (Zpz.1 h1) hp
 .exact h1
theorem ZyB{st:St}{d:Nat}(hd:d<Zob):∀{n:Nat},(∀t,t<n->(st.get t).says d=false)->Zhz st d n=true
 | 0,_=>Nat.ble_eq_true_of_le hd
 |n+1,h=>by
  simp only[Zhz,h n (by omega)]
  exact ZyB hd fun t ht=>h t (by omega)
theorem Zlh{st st1 st':St}{dst:Option Nat}{v:V}{d:Nat}(hq:Zhz st d N=true)(he:∀t,st1.get t=st.get t)(hv:v.says d=false)(hp:putO N st1 dst v=some st'):Zhz st' d N=true:=
 ZyB (ZtR hq) fun t ht=>by
  rw[(Zau hp t).1]
  split
  .exact hv
  .rw[he t];exact ZoR hq t ht
theorem ZiL{st st1:St}(h:st1.env=st.env)(t:Nat):st1.get t=st.get t:=by unfold St.get;rw[h]
theorem ZlY{st:St}{d:Nat}(h1:Zhz st d N=true)(h2:Zhl d st.heap=true):Zdm N d st=true:=by unfold Zdm;rw[h1];exact h2
def ZAg(ops:Array Oper)(ra:RA)(ni:List (Nat×Nat)):Prop:=∀i o,ops[i]?=some o->clsX ra i o=3->(i,o.dst.getD 0)∈ni
theorem Zmq{ra:RA}{i:Nat}{o:Oper}(h:Zly ra i o=true):clsX ra i o=3:=by
 unfold Zly at h;unfold clsX;split at h
 .rename_i ha hk;rw[hk];split at h
  .simp only[h]
  .cases h
 .rename_i hk;rw[hk];simp only;split at h
  .simp only[Bool.and_eq_true]at h;exact Nat.eq_of_beq_eq_true h.2
  .cases h
theorem ZAB(dQ:ZAg ops ra ni){k i:Nat}{a b:Oper}(ha:ops[k]?=some a)(hb:ops[i]?=some b)(d1:disj a.dst (ZeX ops b)=true)(d2:disj b.dst (ZeX ops a)=true)(d3:Zny a.dst b.dst=true)(eV:Zly ra k a=true)(fG:Zly ra i b=true)
  (hne:k≠i) (hki:k ∉ Zfk al i) {st st1 st2:St} {o1 o2:List Prop} (h1:ZeJ P N T ops ra al ni k st=some (st1,o1)) (h2:ZeJ P N T ops ra al ni i st1=some (st2,o2))
  (hJ:∀o,ops[i]?=some o->clsX ra i o=3->Zhz st (o.dst.getD 0) N=true) :
  ∃am aO,ZeJ P N T ops ra al ni i st=some (am,o2)/\ZeJ P N T ops ra al ni k am=some (aO,o1)/\Eqv aO st2:=by
 obtain⟨a',va,sa,cR,hra,cq,bA⟩:=Zdi h1;obtain⟨b',vb,sb,aR,bE,c6,bM⟩:=Zdi h2;rw[ha]at cR;cases cR;rw[hb]at aR;cases aR;obtain⟨ba,kV,ij,rfl,gZ⟩:=Zmw eV hra;obtain⟨bb,iT,iU,rfl,g3⟩:=Zmw fG bE;have bP:st1.heap=hins st.heap (a.dst.getD 0) ba:=(Zau bA 0).2;have g1:∀t,a.dst≠some t->st1.get t=st.get t:=fun t ht=>by rw[(Zau bA t).1,if_neg ht];rfl
 have lB:hget st.heap (a.dst.getD 0)=none:=(Zij (ZcM ij).2).1;have iL:hget st1.heap (b.dst.getD 0)=none:=(Zij (ZcM iU).2).1;have gj:b.dst.getD 0≠a.dst.getD 0:=by
  intro e;rw[bP,e,Zex,if_pos rfl]at iL;cases iL
 have jt:Zdm N (b.dst.getD 0) st=true:=by
  refine ZlY (hJ b hb (Zmq fG)) ?_;have:=(ZcM iU).2;rw[bP]at this;exact Znq lB this
 have bO:=g3 st (fun t ht=>(g1 t (Zbc d1 ht)).symm) jt;obtain⟨am,bj⟩:=ZdH (st2:=⟨st.env,hins st.heap (b.dst.getD 0) bb⟩) bM;have g2:∀t,b.dst≠some t->am.get t=st.get t:=fun t ht=>by rw[(Zau bj t).1,if_neg ht];rfl
 have bx:am.heap=hins st.heap (b.dst.getD 0) bb:=(Zau bj 0).2;have gM:Zdm N (a.dst.getD 0) am=true:=by
  obtain⟨q1,q2⟩:=ZcM ij;refine ZlY (Zlh (st1:=⟨st.env,hins st.heap (b.dst.getD 0) bb⟩) q1 (fun t=>rfl) (ZpM c6 (dQ k a ha (Zmq eV)) hne hki) bj) ?_;rw[bx];exact ZtU gj (iT _) q2
 have bZ:=gZ am (fun t ht=>g2 t (Zbc d2 ht)) gM;obtain⟨aO,bu⟩:=ZdH (st2:=⟨am.env,hins am.heap (a.dst.getD 0) ba⟩) bA;have xb:bxOk (Zfk al (ops.size+i)) st b.op=true:=by rw[ZdK (st:=st1) _ (fun t ht=>(g1 t (Zbc d1 ht)).symm)];exact ZdD h2 hb
 have xa:bxOk (Zfk al (ops.size+k)) am a.op=true:=by rw[ZdK (st:=st) _ (fun t ht=>g2 t (Zbc d2 ht))];exact ZdD h1 ha
 refine⟨am,aO,ZeI hb xb bO c6 bj,ZeI ha xa bZ cq bu,⟨fun t=>?_,?_⟩⟩
 .rw[(Zau bM t).1,(Zau bu t).1];have hd:¬(a.dst=some t/\b.dst=some t):=by
   rintro ⟨e1,e2⟩;rw[e1,e2]at d3;simp[Zny]at d3
  by_cases e1:a.dst=some t
  .rw[if_pos e1,if_neg (fun e2=>hd ⟨e1,e2⟩)];show (⟨st1.env,_⟩ : St).get t=_;rw[show (⟨st1.env,hins st1.heap (b.dst.getD 0) bb⟩ : St).get t=st1.get t from rfl,(Zau bA t).1,if_pos e1]
  .rw[if_neg e1];have e3:(⟨am.env,hins am.heap (a.dst.getD 0) ba⟩ : St).get t=am.get t:=rfl;rw[e3,(Zau bj t).1];split
   .rfl
   .rw[show (⟨st1.env,hins st1.heap (b.dst.getD 0) bb⟩ : St).get t=st1.get t from rfl,g1 t e1];rfl
 .rw[(Zau bM 0).2,(Zau bu 0).2,bP,bx];exact Zze (a.dst.getD 0) (b.dst.getD 0) ba bb (Ne.symm gj) st.heap
theorem ZAC(dQ:ZAg ops ra ni){k i:Nat}{a b:Oper}(ha:ops[k]?=some a)(hb:ops[i]?=some b)(d1:disj a.dst (ZeX ops b)=true)(d2:disj b.dst (ZeX ops a)=true)(d3:Zny a.dst b.dst=true)(eV:(Zly ra k a||isMk ra k a)=true)(fG:(Zly ra i b||isMk ra i b)=true)(iV:∀t∈ZeX ops b,t<N)
  (hne:k≠i) (hki:k ∉ Zfk al i) {st st1 st2:St} {o1 o2:List Prop} (h1:ZeJ P N T ops ra al ni k st=some (st1,o1)) (h2:ZeJ P N T ops ra al ni i st1=some (st2,o2))
  (hJ:∀o,ops[i]?=some o->clsX ra i o=3->Zhz st (o.dst.getD 0) N=true) :
  ∃am aO,ZeJ P N T ops ra al ni i st=some (am,o2)/\ZeJ P N T ops ra al ni k am=some (aO,o1)/\Eqv aO st2:=by
 obtain⟨a',va,sa,cR,hra,cq,bA⟩:=Zdi h1;obtain⟨b',vb,sb,aR,bE,c6,bM⟩:=Zdi h2;rw[ha]at cR;cases cR;rw[hb]at aR;cases aR;have ca:clsX ra k a=3:=by
  rw[Bool.or_eq_true]at eV;exact eV.elim Zmq ZCV
 have cb:clsX ra i b=3:=by
  rw[Bool.or_eq_true]at fG;exact fG.elim Zmq ZCV
 obtain⟨ba,kV,ij,rfl,gZ⟩:=ZyI eV hra;obtain⟨bb,iT,iU,rfl,g3⟩:=ZyI fG bE;have bP:st1.heap=hins st.heap (a.dst.getD 0) ba:=(Zau bA 0).2;have g1:∀t,a.dst≠some t->st1.get t=st.get t:=fun t ht=>by rw[(Zau bA t).1,if_neg ht];rfl
 have lB:hget st.heap (a.dst.getD 0)=none:=(Zij (ZcM ij).2).1;have iL:hget st1.heap (b.dst.getD 0)=none:=(Zij (ZcM iU).2).1;have gj:b.dst.getD 0≠a.dst.getD 0:=by
  intro e;rw[bP,e,Zex,if_pos rfl]at iL;cases iL
 have jt:Zdm N (b.dst.getD 0) st=true:=by
  refine ZlY (hJ b hb cb) ?_;have:=(ZcM iU).2;rw[bP]at this;exact Znq lB this
 have bO:=g3 st (fun t ht=>(g1 t (Zbc d1 ht)).symm) (fun x dZ id bb dA aR=>by
  rw[bP,Zex]at aR;split at aR
  .rename_i e;exfalso;have:(evo st1 x).says (a.dst.getD 0)=false:=by
    cases x with
    |tmp t=>
     have ht:t∈ZeX ops b:=List.mem_append.2 (.inl (Zps dZ));show (st1.get t).says _=false;rw[g1 t (Zbc d1 ht)];exact ZoR (ZcM ij).1 t (iV t ht)
    |const v=>exact ZvT v _
    |func f=>rfl
    |global g=>rfl
   rw[e]at this;simp only[this]at dA;cases dA
  .exact aR) jt
 obtain⟨am,bj⟩:=ZdH (st2:=⟨st.env,hins st.heap (b.dst.getD 0) bb⟩) bM;have g2:∀t,b.dst≠some t->am.get t=st.get t:=fun t ht=>by rw[(Zau bj t).1,if_neg ht];rfl
 have bx:am.heap=hins st.heap (b.dst.getD 0) bb:=(Zau bj 0).2;have gM:Zdm N (a.dst.getD 0) am=true:=by
  obtain⟨q1,q2⟩:=ZcM ij;refine ZlY (Zlh (st1:=⟨st.env,hins st.heap (b.dst.getD 0) bb⟩) q1 (fun t=>rfl) (ZpM c6 (dQ k a ha ca) hne hki) bj) ?_;rw[bx];exact ZtU gj (iT _) q2
 have bZ:=gZ am (fun t ht=>g2 t (Zbc d2 ht)) (fun x dZ id bb' dA aR=>by
  rw[bx,Zex];split
  .rename_i e;exfalso;have iW:=(Zij (ZcM jt).2).1;rw[e]at iW;rw[aR]at iW;cases iW
  .exact aR) gM
 obtain⟨aO,bu⟩:=ZdH (st2:=⟨am.env,hins am.heap (a.dst.getD 0) ba⟩) bA;have xb:bxOk (Zfk al (ops.size+i)) st b.op=true:=by rw[ZdK (st:=st1) _ (fun t ht=>(g1 t (Zbc d1 ht)).symm)];exact ZdD h2 hb
 have xa:bxOk (Zfk al (ops.size+k)) am a.op=true:=by rw[ZdK (st:=st) _ (fun t ht=>g2 t (Zbc d2 ht))];exact ZdD h1 ha
 refine⟨am,aO,ZeI hb xb bO c6 bj,ZeI ha xa bZ cq bu,⟨fun t=>?_,?_⟩⟩
 .rw[(Zau bM t).1,(Zau bu t).1];have hd:¬(a.dst=some t/\b.dst=some t):=by
   rintro ⟨e1,e2⟩;rw[e1,e2]at d3;simp[Zny]at d3
  by_cases e1:a.dst=some t
  .rw[if_pos e1,if_neg (fun e2=>hd ⟨e1,e2⟩)];show (⟨st1.env,_⟩ : St).get t=_;rw[show (⟨st1.env,hins st1.heap (b.dst.getD 0) bb⟩ : St).get t=st1.get t from rfl,(Zau bA t).1,if_pos e1]
  .rw[if_neg e1];have e3:(⟨am.env,hins am.heap (a.dst.getD 0) ba⟩ : St).get t=am.get t:=rfl;rw[e3,(Zau bj t).1];split
   .rfl
   .rw[show (⟨st1.env,hins st1.heap (b.dst.getD 0) bb⟩ : St).get t=st1.get t from rfl,g1 t e1];rfl
 .rw[(Zau bM 0).2,(Zau bu 0).2,bP,bx];exact Zze (a.dst.getD 0) (b.dst.getD 0) ba bb (Ne.symm gj) st.heap
theorem Zyi(dQ:ZAg ops ra ni){k i e:Nat}{a b:Oper}(ha:ops[k]?=some a)(hb:ops[i]?=some b)(d1:disj a.dst (ZeX ops b)=true)(d2:disj b.dst (ZeX ops a)=true)(d3:Zny a.dst b.dst=true)(eV:plOf ra k a=some e)(fG:Zly ra i b=true)(im:b.dst.getD 0≠e)
  {st st1 st2:St} {o1 o2:List Prop} (h1:ZeJ P N T ops ra al ni k st=some (st1,o1)) (h2:ZeJ P N T ops ra al ni i st1=some (st2,o2))
  (hJ:∀o,ops[i]?=some o->clsX ra i o=3->Zhz st (o.dst.getD 0) N=true) :
  ∃am aO,ZeJ P N T ops ra al ni i st=some (am,o2)/\ZeJ P N T ops ra al ni k am=some (aO,o1)/\Eqv aO st2:=by
 obtain⟨a',va,sa,cR,hra,cq,bA⟩:=Zdi h1;obtain⟨b',vb,sb,aR,bE,c6,bM⟩:=Zdi h2;rw[ha]at cR;cases cR;rw[hb]at aR;cases aR;obtain⟨ba,kV,rfl,sa3,gZ⟩:=Znc eV hra;obtain⟨bb,iT,iU,rfl,g3⟩:=Zmw fG bE;have bP:st1.heap=hrep st.heap e ba:=(Zau bA 0).2;have g1:∀t,a.dst≠some t->st1.get t=st.get t:=fun t ht=>by rw[(Zau bA t).1,if_neg ht];rfl
 have jt:Zdm N (b.dst.getD 0) st=true:=by
  refine ZlY (hJ b hb (Zmq fG)) ?_;have:=(ZcM iU).2;rw[bP]at this;exact ZpY (Ne.symm im) (fun b0 h0=>sa3 _ b0 im h0) this
 have bO:=g3 st (fun t ht=>(g1 t (Zbc d1 ht)).symm) jt;obtain⟨am,bj⟩:=ZdH (st2:=⟨st.env,hins st.heap (b.dst.getD 0) bb⟩) bM;have g2:∀t,b.dst≠some t->am.get t=st.get t:=fun t ht=>by rw[(Zau bj t).1,if_neg ht];rfl
 have bx:am.heap=hins st.heap (b.dst.getD 0) bb:=(Zau bj 0).2;have bZ:=gZ am (fun t ht=>g2 t (Zbc d2 ht)) (by rw[bx,Zex,if_neg im]);obtain⟨aO,bu⟩:=ZdH (st2:=⟨am.env,hrep am.heap e ba⟩) bA;have xb:bxOk (Zfk al (ops.size+i)) st b.op=true:=by rw[ZdK (st:=st1) _ (fun t ht=>(g1 t (Zbc d1 ht)).symm)];exact ZdD h2 hb
 have xa:bxOk (Zfk al (ops.size+k)) am a.op=true:=by rw[ZdK (st:=st) _ (fun t ht=>g2 t (Zbc d2 ht))];exact ZdD h1 ha
 refine⟨am,aO,ZeI hb xb bO c6 bj,ZeI ha xa bZ cq bu,⟨fun t=>?_,?_⟩⟩
 .rw[(Zau bM t).1,(Zau bu t).1];have hd:¬(a.dst=some t/\b.dst=some t):=by
   rintro ⟨e1,e2⟩;rw[e1,e2]at d3;simp[Zny]at d3
  by_cases e1:a.dst=some t
  .rw[if_pos e1,if_neg (fun e2=>hd ⟨e1,e2⟩)];show (⟨st1.env,_⟩ : St).get t=_;rw[show (⟨st1.env,hins st1.heap (b.dst.getD 0) bb⟩ : St).get t=st1.get t from rfl,(Zau bA t).1,if_pos e1]
  .rw[if_neg e1];have e3:(⟨am.env,hrep am.heap e ba⟩ : St).get t=am.get t:=rfl;rw[e3,(Zau bj t).1];split
   .rfl
   .rw[show (⟨st1.env,hins st1.heap (b.dst.getD 0) bb⟩ : St).get t=st1.get t from rfl,g1 t e1];rfl
 .rw[(Zau bM 0).2,(Zau bu 0).2];simp only;rw[bP,bx,Zzd im]
theorem Zyh(dQ:ZAg ops ra ni){k i e:Nat}{a b:Oper}(ha:ops[k]?=some a)(hb:ops[i]?=some b)(d1:disj a.dst (ZeX ops b)=true)(d2:disj b.dst (ZeX ops a)=true)(d3:Zny a.dst b.dst=true)(eV:Zly ra k a=true)(fG:plOf ra i b=some e)(im:a.dst.getD 0≠e)
  (hne:k≠i) (hki:k ∉ Zfk al i) {st st1 st2:St} {o1 o2:List Prop} (h1:ZeJ P N T ops ra al ni k st=some (st1,o1)) (h2:ZeJ P N T ops ra al ni i st1=some (st2,o2)) :
  ∃am aO,ZeJ P N T ops ra al ni i st=some (am,o2)/\ZeJ P N T ops ra al ni k am=some (aO,o1)/\Eqv aO st2:=by
 obtain⟨a',va,sa,cR,hra,cq,bA⟩:=Zdi h1;obtain⟨b',vb,sb,aR,bE,c6,bM⟩:=Zdi h2;rw[ha]at cR;cases cR;rw[hb]at aR;cases aR;obtain⟨ba,kV,ij,rfl,gZ⟩:=Zmw eV hra;obtain⟨bb,iT,rfl,sb3,g3⟩:=Znc fG bE;have bP:st1.heap=hins st.heap (a.dst.getD 0) ba:=(Zau bA 0).2;have g1:∀t,a.dst≠some t->st1.get t=st.get t:=fun t ht=>by rw[(Zau bA t).1,if_neg ht];rfl
 have bO:=g3 st (fun t ht=>(g1 t (Zbc d1 ht)).symm) (by rw[bP,Zex,if_neg im]);obtain⟨am,bj⟩:=ZdH (st2:=⟨st.env,hrep st.heap e bb⟩) bM;have g2:∀t,b.dst≠some t->am.get t=st.get t:=fun t ht=>by rw[(Zau bj t).1,if_neg ht];rfl
 have bx:am.heap=hrep st.heap e bb:=(Zau bj 0).2;have gM:Zdm N (a.dst.getD 0) am=true:=by
  obtain⟨q1,q2⟩:=ZcM ij;refine ZlY (Zlh (st1:=⟨st.env,hrep st.heap e bb⟩) q1 (fun t=>rfl) (ZpM c6 (dQ k a ha (Zmq eV)) hne hki) bj) ?_;rw[bx];exact ZtT (iT _ im) q2
 have bZ:=gZ am (fun t ht=>g2 t (Zbc d2 ht)) gM;obtain⟨aO,bu⟩:=ZdH (st2:=⟨am.env,hins am.heap (a.dst.getD 0) ba⟩) bA;have xb:bxOk (Zfk al (ops.size+i)) st b.op=true:=by rw[ZdK (st:=st1) _ (fun t ht=>(g1 t (Zbc d1 ht)).symm)];exact ZdD h2 hb
 have xa:bxOk (Zfk al (ops.size+k)) am a.op=true:=by rw[ZdK (st:=st) _ (fun t ht=>g2 t (Zbc d2 ht))];exact ZdD h1 ha
 refine⟨am,aO,ZeI hb xb bO c6 bj,ZeI ha xa bZ cq bu,⟨fun t=>?_,?_⟩⟩
 .rw[(Zau bM t).1,(Zau bu t).1];have hd:¬(a.dst=some t/\b.dst=some t):=by
   rintro ⟨e1,e2⟩;rw[e1,e2]at d3;simp[Zny]at d3
  by_cases e1:a.dst=some t
  .rw[if_pos e1,if_neg (fun e2=>hd ⟨e1,e2⟩)];show (⟨st1.env,_⟩ : St).get t=_;rw[show (⟨st1.env,hrep st1.heap e bb⟩ : St).get t=st1.get t from rfl,(Zau bA t).1,if_pos e1]
  .rw[if_neg e1];have e3:(⟨am.env,hins am.heap (a.dst.getD 0) ba⟩ : St).get t=am.get t:=rfl;rw[e3,(Zau bj t).1];split
   .rfl
   .rw[show (⟨st1.env,hrep st1.heap e bb⟩ : St).get t=st1.get t from rfl,g1 t e1];rfl
 .rw[(Zau bM 0).2,(Zau bu 0).2];simp only;rw[bP,bx,Zzd im]
theorem ZzQ{op:Op}{st:St}{c:Nat}{l:List Nat}(h:bxOk (c :: l) st op=true)(hl:isLd op=true):∀x∈Zcr op,∀id,(evo st x).says id=true->id=c:=by
 unfold bxOk at h;cases op<;>simp only[isLd]at hl<;>try (cases hl;done)
 rename_i t y;intro x hx id hs;simp only[Zcr,List.mem_singleton]at hx;subst hx;simp only at h;split at h
 .rename_i d off hq;rw[hq]at hs;simp only[V.says,C.says]at hs;rw[<-ZaD h];exact(ZaD hs).symm
 .rename_i hq;rw[hq]at hs;simp only[V.says,C.says]at hs;cases hs
 .cases h
theorem Zyg{k i e c:Nat}{l:List Nat}{a b:Oper}(ha:ops[k]?=some a)(hb:ops[i]?=some b)(d1:disj a.dst (ZeX ops b)=true)(d2:disj b.dst (ZeX ops a)=true)(d3:Zny a.dst b.dst=true)(fK:isLd a.op=true)(cn:ZcH ra.hc k=none)(fm:Zfk al (ops.size+k)=c :: l)(fG:plOf ra i b=some e)(lC:c≠e)
  {st st1 st2:St} {o1 o2:List Prop} (h1:ZeJ P N T ops ra al ni k st=some (st1,o1)) (h2:ZeJ P N T ops ra al ni i st1=some (st2,o2)) :
  ∃am aO,ZeJ P N T ops ra al ni i st=some (am,o2)/\ZeJ P N T ops ra al ni k am=some (aO,o1)/\Eqv aO st2:=by
 obtain⟨a',va,sa,cR,hra,cq,bA⟩:=Zdi h1;obtain⟨b',vb,sb,aR,bE,c6,bM⟩:=Zdi h2;rw[ha]at cR;cases cR;rw[hb]at aR;cases aR;have dL:=ZdD h1 ha;rw[fm]at dL;have c1:clsX ra k a=1:=by
  rw[Zii cn];cases hq:a.op<;>rw[hq]at fK<;>first | (cases fK;done)|rfl
 obtain⟨ea,iX,_⟩:=ZeN (st2:=st) (by omega) (fun t _=>rfl) (fun _=>rfl) (fun _ h=>h) hra;have cQ:st1.heap=st.heap:=(Zau bA 0).2.trans (iX (by omega));have g1:∀t,a.dst≠some t->st1.get t=st.get t:=fun t ht=>by rw[(Zau bA t).1,if_neg ht];exact ZiL ea t
 have eb:=Zpx bE;obtain⟨bb,iT,rfl,sb3,g3⟩:=Znc fG bE;have bO:=g3 st (fun t ht=>(g1 t (Zbc d1 ht)).symm) (by rw[cQ]);obtain⟨am,bj⟩:=ZdH (st2:=⟨st.env,hrep st.heap e bb⟩) bM;have g2:∀t,b.dst≠some t->am.get t=st.get t:=fun t ht=>by rw[(Zau bj t).1,if_neg ht];rfl
 have bx:am.heap=hrep st.heap e bb:=(Zau bj 0).2;have bZ:Zdn P N T ops ra k a am=some (va,o1,am):=by
  refine Zli c1 (fun t ht=>g2 t (Zbc d2 ht)) (fun x dZ id b0 dA bH=>?_) hra;have hid:=ZzQ dL fK x dZ id dA;rw[bx,Zrn,if_neg (by rw[hid];exact Ne.symm lC)];exact bH
 obtain⟨aO,bu⟩:=ZdH (st2:=am) bA;have xb:bxOk (Zfk al (ops.size+i)) st b.op=true:=by rw[ZdK (st:=st1) _ (fun t ht=>(g1 t (Zbc d1 ht)).symm)];exact ZdD h2 hb
 have xa:bxOk (Zfk al (ops.size+k)) am a.op=true:=by rw[ZdK (st:=st) _ (fun t ht=>g2 t (Zbc d2 ht))];exact ZdD h1 ha
 refine⟨am,aO,ZeI hb xb bO c6 bj,ZeI ha xa bZ cq bu,⟨fun t=>?_,?_⟩⟩
 .rw[(Zau bM t).1,(Zau bu t).1];have hd:¬(a.dst=some t/\b.dst=some t):=by
   rintro ⟨e1,e2⟩;rw[e1,e2]at d3;simp[Zny]at d3
  by_cases e1:a.dst=some t
  .rw[if_pos e1,if_neg (fun e2=>hd ⟨e1,e2⟩),ZiL eb,(Zau bA t).1,if_pos e1]
  .rw[if_neg e1];rw[(Zau bj t).1];split
   .rfl
   .rw[ZiL eb,g1 t e1];rfl
 .rw[(Zau bM 0).2,(Zau bu 0).2,bx];simp only;rw[cQ]
theorem Zyf{k i e c:Nat}{l:List Nat}{a b:Oper}(ha:ops[k]?=some a)(hb:ops[i]?=some b)(d1:disj a.dst (ZeX ops b)=true)(d2:disj b.dst (ZeX ops a)=true)(d3:Zny a.dst b.dst=true)(lE:isLd b.op=true)(cn:ZcH ra.hc i=none)(lF:Zfk al (ops.size+i)=c :: l)(eV:plOf ra k a=some e)(lC:c≠e)
  {st st1 st2:St} {o1 o2:List Prop} (h1:ZeJ P N T ops ra al ni k st=some (st1,o1)) (h2:ZeJ P N T ops ra al ni i st1=some (st2,o2)) :
  ∃am aO,ZeJ P N T ops ra al ni i st=some (am,o2)/\ZeJ P N T ops ra al ni k am=some (aO,o1)/\Eqv aO st2:=by
 obtain⟨a',va,sa,cR,hra,cq,bA⟩:=Zdi h1;obtain⟨b',vb,sb,aR,bE,c6,bM⟩:=Zdi h2;rw[ha]at cR;cases cR;rw[hb]at aR;cases aR;have gN:=ZdD h2 hb;rw[lF]at gN;have c1:clsX ra i b=1:=by
  rw[Zii cn];cases hq:b.op<;>rw[hq]at lE<;>first | (cases lE;done)|rfl
 obtain⟨ba,kV,rfl,sa3,gZ⟩:=Znc eV hra;have bP:st1.heap=hrep st.heap e ba:=(Zau bA 0).2;have g1:∀t,a.dst≠some t->st1.get t=st.get t:=fun t ht=>by rw[(Zau bA t).1,if_neg ht];rfl
 obtain⟨eb,kY,_⟩:=ZeN (st2:=st1) (by omega) (fun t _=>rfl) (fun _=>rfl) (fun _ h=>h) bE;have bO:Zdn P N T ops ra i b st=some (vb,o2,st):=by
  refine Zli c1 (fun t ht=>(g1 t (Zbc d1 ht)).symm) (fun x dZ id b0 dA bH=>?_) bE;have hid:=ZzQ gN lE x dZ id dA;rw[bP,Zrn,if_neg (by rw[hid];exact Ne.symm lC)]at bH;exact bH
 obtain⟨am,bj⟩:=ZdH (st2:=st) bM;have g2:∀t,b.dst≠some t->am.get t=st.get t:=fun t ht=>by rw[(Zau bj t).1,if_neg ht]
 have bx:am.heap=st.heap:=(Zau bj 0).2;have bZ:=gZ am (fun t ht=>g2 t (Zbc d2 ht)) (by rw[bx]);obtain⟨aO,bu⟩:=ZdH (st2:=⟨am.env,hrep am.heap e ba⟩) bA;have xb:bxOk (Zfk al (ops.size+i)) st b.op=true:=by rw[ZdK (st:=st1) _ (fun t ht=>(g1 t (Zbc d1 ht)).symm)];exact ZdD h2 hb
 have xa:bxOk (Zfk al (ops.size+k)) am a.op=true:=by rw[ZdK (st:=st) _ (fun t ht=>g2 t (Zbc d2 ht))];exact ZdD h1 ha
 refine⟨am,aO,ZeI hb xb bO c6 bj,ZeI ha xa bZ cq bu,⟨fun t=>?_,?_⟩⟩
 .rw[(Zau bM t).1,(Zau bu t).1];have hd:¬(a.dst=some t/\b.dst=some t):=by
   rintro ⟨e1,e2⟩;rw[e1,e2]at d3;simp[Zny]at d3
  by_cases e1:a.dst=some t
  .rw[if_pos e1,if_neg (fun e2=>hd ⟨e1,e2⟩),ZiL eb,(Zau bA t).1,if_pos e1]
  .rw[if_neg e1];rw[show (⟨am.env,hrep am.heap e ba⟩ : St).get t=am.get t from rfl,(Zau bj t).1];split
   .rfl
   .rw[ZiL eb,g1 t e1]
 .rw[(Zau bM 0).2,(Zau bu 0).2,kY (by omega),bP,bx]
theorem ZBx{T:Tab}{st st':St}{t d off:Nat}{v:V}{an:Option Ans}{obl:List Prop}(h:Znv T st t (.one (.ptr d off)) v an=some (obl,st')):∀id,id≠d->hget st'.heap id=hget st.heap id:=by
 intro id hne;unfold Znv at h;split at h
 .split at h
  .simp only at h;split at h
   .split at h
    .cases h;simp only[ZoW];rw[if_neg (Ne.symm hne)]
    .cases h
   .cases h
  .cases h
 .cases h
theorem ZGF{o:Oper}{i d off:Nat}{st st':St}{t:TypeId}{x y:Operand}{v:V}{obl:List Prop}(ho:o.op=.store t x y)(hx:evo st x=.one (.ptr d off))(h:ZmW P N T ops ra i o st=some (v,obl,st')):∀id,id≠d->hget st'.heap id=hget st.heap id:=by
 intro id hne;unfold ZmW at h;split at h
 .cases h
 .cases h;rfl
 .split at h
  .cases h
  rename_i v0 c5 st0 bm;split at h
  .cases h
  split at h;rotate_left
  .cases h
  split at h;rotate_left
  .cases h
  cases h;unfold evOp at bm;simp only[ho,hx]at bm;split at bm
  .rename_i q hq;cases bm;exact ZBx hq id hne
  .cases bm
theorem ZAD{k i:Nat}(aL:okLS ops ra al k i=true){st st1 st2:St}{o1 o2:List Prop}(h1:ZeJ P N T ops ra al ni k st=some (st1,o1))(h2:ZeJ P N T ops ra al ni i st1=some (st2,o2)) :
  ∃am aO,ZeJ P N T ops ra al ni i st=some (am,o2)/\ZeJ P N T ops ra al ni k am=some (aO,o1)/\Eqv aO st2:=by
 obtain⟨a,va,sa,ha,hra,cq,bA⟩:=Zdi h1;obtain⟨b,vb,sb,hb,bE,c6,bM⟩:=Zdi h2;have dL:=ZdD h1 ha;have gN:=ZdD h2 hb;unfold okLS at aL;rw[ha,hb]at aL;split at aL;rotate_left
 .cases aL
 rename_i a' b' c l d l' ea eb fm lF;cases ea;cases eb;simp only[Bool.and_eq_true,Bool.not_eq_true',Option.isNone_iff_eq_none]at aL;obtain⟨⟨⟨⟨⟨⟨⟨d1,d2⟩,d3⟩,fK⟩,eW⟩,cn⟩,hk2⟩,iY⟩:=aL;have iY:c≠d:=Nat.ne_of_beq_eq_false iY;rw[fm]at dL;rw[lF]at gN;have c1:clsX ra k a=1:=by
  rw[Zii cn];cases hq:a.op<;>rw[hq]at fK<;>first | (cases fK;done)|rfl
 have c2:clsX ra i b=2:=by
  rw[Zii hk2];cases hq:b.op<;>rw[hq]at eW<;>first | (cases eW;done)|rfl
 obtain⟨ea,iX,_⟩:=ZeN (st2:=st) (by omega) (fun t _=>rfl) (fun _=>rfl) (fun _ h=>h) hra;have cQ:st1.heap=st.heap:=(Zau bA 0).2.trans (iX (by omega));have g1:∀t,a.dst≠some t->st1.get t=st.get t:=fun t ht=>by rw[(Zau bA t).1,if_neg ht];exact ZiL ea t
 obtain⟨eb,_,bO⟩:=ZeN (st2:=st) (by omega) (fun t ht=>(g1 t (Zbc d1 ht)).symm) (fun _=>cQ.symm) (fun h=>by omega) bE;rw[if_neg (by omega)]at bO;obtain⟨am,bj⟩:=ZdH (st2:=⟨st.env,sb.heap⟩) bM;have g2:∀t,b.dst≠some t->am.get t=st.get t:=fun t ht=>by rw[(Zau bj t).1,if_neg ht];rfl
 have gk:am.heap=sb.heap:=(Zau bj 0).2;have lG:∀id,id≠d->hget sb.heap id=hget st.heap id:=by
  intro id hne;rw[<-cQ];unfold Zdn at bE;rw[hk2]at bE;simp only at bE;unfold bxOk at gN;cases hq:b.op<;>rw[hq]at eW<;>try (cases eW;done)
  rename_i t x y;rw[hq]at gN;simp only at gN;split at gN
  .rename_i d' off hx;have:=ZaD gN;subst this;exact ZGF hq hx bE id hne
  .cases gN
 have bZ:Zdn P N T ops ra k a am=some (va,o1,am):=by
  refine Zli c1 (fun t ht=>g2 t (Zbc d2 ht)) (fun x dZ id bb dA aR=>?_) hra;rw[gk,lG id ?_]
  .exact aR
  rintro rfl;unfold bxOk at dL;cases hq:a.op<;>rw[hq]at fK<;>try (cases fK;done)
  rename_i t y;rw[hq]at dL dZ;simp only[Zcr,List.mem_singleton]at dZ;subst dZ;simp only at dL;split at dL
  .rename_i d' off hx;have:=ZaD dL;subst this;simp only[hx,V.says,C.says]at dA;exact iY (ZaD dA)
  .rename_i hx;simp only[hx,V.says,C.says]at dA;cases dA
  .cases dL
 obtain⟨aO,bu⟩:=ZdH (st2:=am) bA;have xb:bxOk (Zfk al (ops.size+i)) st b.op=true:=by rw[ZdK (st:=st1) _ (fun t ht=>(g1 t (Zbc d1 ht)).symm)];exact ZdD h2 hb
 have xa:bxOk (Zfk al (ops.size+k)) am a.op=true:=by rw[ZdK (st:=st) _ (fun t ht=>g2 t (Zbc d2 ht))];exact ZdD h1 ha
 refine⟨am,aO,ZeI hb xb bO c6 bj,ZeI ha xa bZ cq bu,⟨fun t=>?_,?_⟩⟩
 .rw[(Zau bM t).1,(Zau bu t).1];have hd:¬(a.dst=some t/\b.dst=some t):=by
   rintro ⟨e1,e2⟩;rw[e1,e2]at d3;simp[Zny]at d3
  by_cases e1:a.dst=some t
  .rw[if_pos e1,if_neg (fun e2=>hd ⟨e1,e2⟩),ZiL eb,(Zau bA t).1,if_pos e1]
  .rw[if_neg e1,(Zau bj t).1];split
   .rfl
   .rw[ZiL eb,g1 t e1];rfl
 .rw[(Zau bM 0).2,(Zau bu 0).2,gk]
theorem Zvv{st st1:St}{d t:Nat}{s x:V}{an:Option Ans}{v:V}{obl:List Prop}(hn:hget st.heap d=none)(h:Zkf N T st d t s x an=some (v,obl,st1)):∀id l,hget st.heap id=some (.box l)->hget st1.heap id=some (.box l):=by
 intro id' l' hb;have hd:d≠id':=by
  rintro rfl;rw[hn]at hb;cases hb
 unfold Zkf at h
 repeat' split at h
 all_goals first | (cases h;done)|skip
 all_goals (simp only[Option.some.injEq,Prod.mk.injEq]at h;obtain⟨_,_,rfl⟩:=h)
 .rw[Zbg,if_neg hd,Zlz,if_neg]
  .exact hb
  .rintro rfl;simp_all
 .show hget (hins _ _ _) _=_;rw[Zex,if_neg hd];exact hb
theorem ZEQ{st:St}{t id off:Nat}{r:V×List Prop}(h:ZnP T st t (.one (.ptr id off))=some r):∃l,hget st.heap id=some (.box l):=by
 unfold ZnP at h;split at h
 .cases h
 split at h
 .cases h
 simp only at h;split at h
 .rename_i l hl;exact⟨l,hl⟩
 .cases h
theorem ZAF{k i:Nat}(aL:okLA ops ra al k i=true){st st1 st2:St}{o1 o2:List Prop}(h1:ZeJ P N T ops ra al ni k st=some (st1,o1))(h2:ZeJ P N T ops ra al ni i st1=some (st2,o2))
  (hJ:∀o,ops[i]?=some o->clsX ra i o=3->Zhz st (o.dst.getD 0) N=true) :
  ∃am aO,ZeJ P N T ops ra al ni i st=some (am,o2)/\ZeJ P N T ops ra al ni k am=some (aO,o1)/\Eqv aO st2:=by
 obtain⟨a,va,sa,ha,hra,cq,bA⟩:=Zdi h1;obtain⟨b,vb,sb,hb,bE,c6,bM⟩:=Zdi h2;have dL:=ZdD h1 ha;unfold okLA at aL;rw[ha,hb]at aL;split at aL;rotate_left
 .cases aL
 rename_i a' b' c l ea eb fm;cases ea;cases eb;simp only[Bool.and_eq_true,Bool.not_eq_true',Option.isNone_iff_eq_none]at aL;obtain⟨⟨⟨⟨⟨⟨⟨⟨d1,d2⟩,d3⟩,fK⟩,eW⟩,hga⟩,cn⟩,hk2⟩,iY⟩:=aL;have iY:c≠99998:=Nat.ne_of_beq_eq_false iY;rw[fm]at dL;obtain⟨ta,xa,gM⟩ : ∃t x,a.op=.load t x:=by
  cases hq:a.op<;>rw[hq]at fK<;>first | (cases fK;done)|exact⟨_,_,rfl⟩
 have c1:clsX ra k a=1:=by rw[Zii cn,gM];rfl
 have c2:clsX ra i b=3:=by
  rw[Zii hk2];unfold ZMN at eW;split at eW
  .rename_i hq;split at eW
   .rename_i hw;rw[hq];simp only[ZeA,hw]
   .cases eW
  .cases eW
 -- where the load looks
 obtain⟨off,hxa⟩ : ∃off,evo st xa=.one (.ptr c off):=by
  unfold bxOk at dL;rw[gM]at dL;simp only at dL;split at dL
  .rename_i d' off hx;have:=ZaD dL;subst this;exact⟨off,hx⟩
  .exact absurd (ZaD dL).symm iY
  .cases dL
 obtain⟨bl,hbl⟩ : ∃l,hget st.heap c=some (.box l):=by
  unfold Zdn at hra;rw[cn]at hra;simp only[ZmW,Zgm,hga,evOp,gM,hxa]at hra;cases hl:ZnP T st ta (.one (.ptr c off))with
  |none=>rw[hl]at hra;cases hra
  |some r=>exact ZEQ hl
 obtain⟨ea,iX,_⟩:=ZeN (st2:=st) (by omega) (fun t _=>rfl) (fun _=>rfl) (fun _ h=>h) hra;have cQ:st1.heap=st.heap:=(Zau bA 0).2.trans (iX (by omega));have g1:∀t,a.dst≠some t->st1.get t=st.get t:=fun t ht=>by rw[(Zau bA t).1,if_neg ht];exact ZiL ea t
 have hqt:Zdm N (b.dst.getD 0) st1=true->Zdm N (b.dst.getD 0) st=true:=fun hq=>ZlY (hJ b hb c2) (by rw[<-cQ];exact(ZcM hq).2);obtain⟨eb,_,bO⟩:=ZeN (st2:=st) (by omega) (fun t ht=>(g1 t (Zbc d1 ht)).symm) (fun _=>cQ.symm) (fun _ hq=>hqt hq) bE;rw[if_neg (by omega)]at bO;obtain⟨am,bj⟩:=ZdH (st2:=⟨st.env,sb.heap⟩) bM;have g2:∀t,b.dst≠some t->am.get t=st.get t:=fun t ht=>by rw[(Zau bj t).1,if_neg ht];rfl
 have gk:am.heap=sb.heap:=(Zau bj 0).2;have cE:hget sb.heap c=some (.box bl):=by
  have bX:hget st1.heap c=some (.box bl):=by rw[cQ];exact hbl
  unfold Zdn at bE;rw[hk2]at bE;simp only at bE;have dY:ZeA ra i b.op=3:=by rw[<-Zii hk2];exact c2
  unfold ZmW at bE;split at bE
  .cases bE
  .cases bE;exact bX
  .split at bE
   .cases bE
   rename_i v0 c5 st0 bm;have iZ:=ZpH dY bm;split at bE
   .cases bE
   split at bE;rotate_left
   .cases bE
   split at bE;rotate_left
   .cases bE
   cases bE;unfold ZMN at eW;split at eW
   .rename_i hq;split at eW
    .rename_i hw;simp only[evOp,hq,hw]at bm;split at bm
     .split at bm
      .exact Zvv (Zij (ZcM iZ).2).1 bm c bl bX
      .cases bm
     .cases bm
    .cases eW
   .cases eW
 have bZ:Zdn P N T ops ra k a am=some (va,o1,am):=by
  refine Zli c1 (fun t ht=>g2 t (Zbc d2 ht)) (fun x dZ id bb dA aR=>?_) hra;rw[gM]at dZ;simp only[Zcr,List.mem_singleton]at dZ;subst dZ;rw[hxa]at dA;simp only[V.says,C.says]at dA;have:=ZaD dA;subst this;rw[hbl]at aR;cases aR;rw[gk];exact cE
 obtain⟨aO,bu⟩:=ZdH (st2:=am) bA;have xb:bxOk (Zfk al (ops.size+i)) st b.op=true:=by rw[ZdK (st:=st1) _ (fun t ht=>(g1 t (Zbc d1 ht)).symm)];exact ZdD h2 hb
 have xa':bxOk (Zfk al (ops.size+k)) am a.op=true:=by rw[ZdK (st:=st) _ (fun t ht=>g2 t (Zbc d2 ht))];exact ZdD h1 ha
 refine⟨am,aO,ZeI hb xb bO c6 bj,ZeI ha xa' bZ cq bu,⟨fun t=>?_,?_⟩⟩
 .rw[(Zau bM t).1,(Zau bu t).1];have hd:¬(a.dst=some t/\b.dst=some t):=by
   rintro ⟨e1,e2⟩;rw[e1,e2]at d3;simp[Zny]at d3
  by_cases e1:a.dst=some t
  .rw[if_pos e1,if_neg (fun e2=>hd ⟨e1,e2⟩),ZiL eb,(Zau bA t).1,if_pos e1]
  .rw[if_neg e1,(Zau bj t).1];split
   .rfl
   .rw[ZiL eb,g1 t e1];rfl
 .rw[(Zau bM 0).2,(Zau bu 0).2,gk]
theorem ZAE(dQ:ZAg ops ra ni){k i:Nat}(aL:ZAY N ops ra al k i=true)(hne:k≠i)(hki:k ∉ Zfk al i){st st1 st2:St}{o1 o2:List Prop}(h1:ZeJ P N T ops ra al ni k st=some (st1,o1))(h2:ZeJ P N T ops ra al ni i st1=some (st2,o2))
  (hJ:∀o,ops[i]?=some o->clsX ra i o=3->Zhz st (o.dst.getD 0) N=true) :
  ∃am aO,ZeJ P N T ops ra al ni i st=some (am,o2)/\ZeJ P N T ops ra al ni k am=some (aO,o1)/\Eqv aO st2:=by
 obtain⟨a,va,sa,ha,hra,cq,bA⟩:=Zdi h1;obtain⟨b,vb,sb,hb,bE,c6,bM⟩:=Zdi h2;unfold ZAY at aL;rw[Bool.or_eq_true,Bool.or_eq_true,Bool.or_eq_true]at aL;rcases aL with ((aL|aL)|aL)|aL
 rotate_right
 .exact ZAF aL h1 h2 hJ
 rotate_left
 .exact ZAD aL h1 h2
 .unfold okLC at aL;rw[ha,hb]at aL;simp only[Bool.and_eq_true]at aL;obtain⟨⟨⟨d1,d2⟩,d3⟩,aL⟩:=aL;split at aL
  .rename_i e i3 i4;rw[Bool.or_eq_true]at aL;rcases aL with aL|aL
   .rw[Bool.and_eq_true]at aL;exact Zyi dQ ha hb d1 d2 d3 i3 aL.1 (Nat.ne_of_beq_eq_false (by simpa using aL.2)) h1 h2 hJ
   .simp only[Bool.and_eq_true,Option.isNone_iff_eq_none]at aL;obtain⟨⟨q1,q2⟩,q3⟩:=aL;split at q3
    .rename_i c l lH;exact Zyf ha hb d1 d2 d3 q1 q2 lH i3 (Nat.ne_of_beq_eq_false (by simpa using q3)) h1 h2
    .cases q3
  .rename_i e i3 i4;rw[Bool.or_eq_true]at aL;rcases aL with aL|aL
   .rw[Bool.and_eq_true]at aL;exact Zyh dQ ha hb d1 d2 d3 aL.1 i4 (Nat.ne_of_beq_eq_false (by simpa using aL.2)) hne hki h1 h2
   .simp only[Bool.and_eq_true,Option.isNone_iff_eq_none]at aL;obtain⟨⟨q1,q2⟩,q3⟩:=aL;split at q3
    .rename_i c l lH;exact Zyg ha hb d1 d2 d3 q1 q2 lH i4 (Nat.ne_of_beq_eq_false (by simpa using q3)) h1 h2
    .cases q3
  .cases aL
 unfold ZLE at aL;rw[ha,hb]at aL;simp only[Bool.and_eq_true,Bool.or_eq_true]at aL;obtain⟨⟨⟨d1,d2⟩,d3⟩,dY⟩:=aL;rcases dY with (dY|⟨hR1,hR2⟩)|⟨⟨hR1,hR2⟩,hR3⟩;rotate_left
 .exact ZAB dQ ha hb d1 d2 d3 hR1 hR2 hne hki h1 h2 hJ
 .exact ZAC dQ ha hb d1 d2 d3 (by rw[Bool.or_eq_true];exact hR1) (by rw[Bool.or_eq_true];exact hR2) (fun t ht=>Nat.le_of_ble_eq_true (List.all_eq_true.1 hR3 t ht)) hne hki h1 h2 hJ
 have jS:(clsX ra k a<=1/\clsX ra i b<=1)\/(clsX ra k a=0/\clsX ra i b<=3)\/(clsX ra i b=0/\clsX ra k a<=3)\/(clsX ra k a=3/\clsX ra i b=1/\∀t∈ZeX ops b,t<N)\/(clsX ra k a=1/\clsX ra i b=3/\Zub ra i b=true):=by
  rcases dY with (((⟨h,h'⟩|⟨h,h'⟩)|⟨h,h'⟩)|⟨⟨h,h'⟩,h''⟩)|⟨⟨h,h'⟩,h''⟩
  .exact .inl ⟨Nat.le_of_ble_eq_true h,Nat.le_of_ble_eq_true h'⟩
  .exact .inr (.inl ⟨ZaD h,Nat.le_of_ble_eq_true h'⟩)
  .exact .inr (.inr (.inl ⟨ZaD h,Nat.le_of_ble_eq_true h'⟩))
  .exact .inr (.inr (.inr (.inl ⟨ZaD h,ZaD h',fun t ht=>Nat.le_of_ble_eq_true (List.all_eq_true.1 h'' t ht)⟩)))
  .exact .inr (.inr (.inr (.inr ⟨ZaD h,ZaD h',h''⟩)))
 -- k at st
 obtain⟨ea,iX,_⟩:=ZeN (st2:=st) (by omega) (fun t _=>rfl) (fun _=>rfl) (fun _ h=>h) hra;have cQ:clsX ra k a<=1->st1.heap=st.heap:=fun h=>(Zau bA 0).2.trans (iX h);have g1:∀t,a.dst≠some t->st1.get t=st.get t:=fun t ht=>by rw[(Zau bA t).1,if_neg ht];exact ZiL ea t
 -- i at st
 have hkc:clsX ra k a<=3:=by omega
 have hic:clsX ra i b<=3:=by omega
 obtain⟨eb,kY,bO⟩ : sb.env=st1.env/\(clsX ra i b<=1->sb.heap=st1.heap)/\Zdn P N T ops ra i b st=some (vb,o2,⟨st.env,if clsX ra i b<=1 then st.heap else sb.heap⟩):=by
  by_cases hx:clsX ra k a=3/\clsX ra i b=1
  .obtain⟨e1,e2,_⟩:=ZeN (st2:=st1) (by omega) (fun t _=>rfl) (fun _=>rfl) (fun _ h=>h) bE;refine⟨e1,e2,?_⟩;rw[if_pos (by omega)];have hN:∀t∈ZeX ops b,t<N:=by
    rcases jS with h|h|h|h|h
    .omega
    .omega
    .omega
    .exact h.2.2
    .omega
   refine Zli hx.2 (fun t ht=>(g1 t (Zbc d1 ht)).symm) (fun x dZ id bb dA aR=>?_) bE;rw[(Zau bA 0).2]at aR;rcases ZEk hx.1 hra with rfl|⟨hq,hn⟩
   .exact aR
   .rcases hn id bb aR with rfl|h
    .exfalso;have:(evo st1 x).says (a.dst.getD 0)=false:=by
      cases x with
      |tmp t=>
       have ht:t∈ZeX ops b:=List.mem_append.2 (.inl (Zps dZ));show (st1.get t).says _=false;rw[g1 t (Zbc d1 ht)];exact ZoR (ZcM hq).1 t (hN t ht)
      |const v=>exact ZvT v _
      |func f=>rfl
      |global g=>rfl
     simp only[this]at dA;cases dA
    .exact h
  .exact ZeN (st2:=st) (by omega) (fun t ht=>(g1 t (Zbc d1 ht)).symm) (fun h=>(cQ (by omega)).symm) (fun hc hq=>by
    obtain⟨_,q2⟩:=ZcM hq;refine ZlY (hJ b hb hc) ?_;rw[<-cQ (by omega)];exact q2) bE
 obtain⟨am,bj⟩:=ZdH (st2:=⟨st.env,if clsX ra i b<=1 then st.heap else sb.heap⟩) bM;have xb:bxOk (Zfk al (ops.size+i)) st b.op=true:=by rw[ZdK (st:=st1) _ (fun t ht=>(g1 t (Zbc d1 ht)).symm)];exact ZdD h2 hb
 have cO:=ZeI (al:=al) (ni:=ni) hb xb bO c6 bj;have g2:∀t,b.dst≠some t->am.get t=st.get t:=fun t ht=>by rw[(Zau bj t).1,if_neg ht];rfl
 have gk:clsX ra i b<=1->am.heap=st.heap:=fun h=>by rw[(Zau bj 0).2];simp only[if_pos h]
 -- k behind i
 have bZ:Zdn P N T ops ra k a am=some (va,o1,⟨am.env,if clsX ra k a<=1 then am.heap else sa.heap⟩):=by
  by_cases hx:clsX ra k a=1/\clsX ra i b=3
  .rw[if_pos (by omega)];have ll:Zub ra i b=true:=by
    rcases jS with h|h|h|h|h
    .omega
    .omega
    .omega
    .omega
    .exact h.2.2
   refine Zli hx.1 (fun t ht=>g2 t (Zbc d2 ht)) (fun x dZ id bb dA aR=>?_) hra;rw[(Zau bj 0).2];simp only[if_neg (show ¬clsX ra i b<=1 by omega)];have:=ZyJ hx.2 ll bO id bb aR;simpa only[if_neg (show ¬clsX ra i b<=1 by omega)]using this
  .refine(ZeN (st2:=am) (by omega) (fun t ht=>g2 t (Zbc d2 ht)) (fun h=>gk (by omega)) (fun hc hq=>by
    obtain⟨q1,q2⟩:=ZcM hq;refine ZlY (Zlh (st1:=⟨st.env,if clsX ra i b<=1 then st.heap else sb.heap⟩) q1 (fun t=>rfl) (ZpM c6 (dQ k a ha hc) hne hki) bj) ?_;rw[gk (by omega)];exact q2) hra).2.2
 obtain⟨aO,bu⟩:=ZdH (st2:=⟨am.env,if clsX ra k a<=1 then am.heap else sa.heap⟩) bA;have xa:bxOk (Zfk al (ops.size+k)) am a.op=true:=by rw[ZdK (st:=st) _ (fun t ht=>g2 t (Zbc d2 ht))];exact ZdD h1 ha
 refine⟨am,aO,cO,ZeI ha xa bZ cq bu,⟨fun t=>?_,?_⟩⟩
 .rw[(Zau bM t).1,(Zau bu t).1];have hd:¬(a.dst=some t/\b.dst=some t):=by
   rintro ⟨e1,e2⟩;rw[e1,e2]at d3;simp[Zny]at d3
  by_cases e1:a.dst=some t
  .rw[if_pos e1,if_neg (fun e2=>hd ⟨e1,e2⟩),ZiL eb,(Zau bA t).1,if_pos e1]
  .rw[if_neg e1];have e3:(⟨am.env,if clsX ra k a<=1 then am.heap else sa.heap⟩ : St).get t=am.get t:=rfl;rw[e3,(Zau bj t).1];split
   .rfl
   .rw[ZiL eb,g1 t e1];rfl
 .rw[(Zau bM 0).2,(Zau bu 0).2];simp only;by_cases c1:clsX ra k a<=1
  .rw[if_pos c1,(Zau bj 0).2];simp only;by_cases c2:clsX ra i b<=1
   .rw[if_pos c2,kY c2,cQ c1]
   .rw[if_neg c2]
  .rw[if_neg c1,kY (by omega),(Zau bA 0).2]
theorem Zye{k i:Nat}(aL:okLM ops ra k i=true){st st1 st2:St}{o1 o2:List Prop}(h1:ZeJ P N T ops ra al ni k st=some (st1,o1))(h2:ZeJ P N T ops ra al ni i st1=some (st2,o2)) :
  ∃am aO i5,ZeJ P N T ops ra al ni i st=some (am,o2)/\ZeJ P N T ops ra al ni k am=some (aO,i5)/\Eqv aO st2/\((∀q∈o1++o2,q)->∀q∈i5,q):=by
 obtain⟨a,va,sa,ha,hra,cq,bA⟩:=Zdi h1;obtain⟨b,vb,sb,hb,bE,c6,bM⟩:=Zdi h2;have xa0:=ZdD h1 ha;have xb0:=ZdD h2 hb;unfold okLM at aL;rw[ha,hb]at aL;simp only at aL;split at aL;rotate_left
 .cases aL
 rename_i t x y t' x' y' hao fR;simp only[Bool.and_eq_true,Option.isNone_iff_eq_none,List.isEmpty_iff]at aL;obtain⟨⟨⟨⟨⟨⟨⟨⟨⟨⟨⟨⟨⟨⟨⟨ht,hx⟩,hy⟩,d1⟩,d2⟩,d3⟩,ga⟩,gb⟩,cn⟩,hk2⟩,b1⟩,b2⟩,n1⟩,n2⟩,r1⟩,r2⟩:=aL;obtain rfl:=Nat.eq_of_beq_eq_true ht;have sT:∀{u v:Operand},ZwE u v=true->∃n,u=.tmp n/\v=.tmp n:=fun{u v} h=>by
  cases u<;>cases v<;>simp only[ZwE]at h<;>(try (cases h;done))
  exact⟨_,rfl,by rw[Nat.eq_of_beq_eq_true h]⟩
 obtain⟨x,rfl,rfl⟩:=sT hx;obtain⟨y,rfl,rfl⟩:=sT hy;have eL:∀s:St,Zdn P N T ops ra k a s=(ZiF P T s t (s.get x) (s.get y) false (ZcH ra.an k)).map fun p=>(p.1,p.2,s):=fun s=>by
  unfold Zdn;rw[cn];simp only[ZmW,Zgm,ga,evOp,hao];have e:∀z,evo s (.tmp z)=s.get z:=fun z=>rfl;rw[e,e];cases ZiF P T s t (s.get x) (s.get y) false (ZcH ra.an k)with
  |none=>rfl
  |some p=>simp only[b1,Zxz,n1,dnV,r1,rlV,Option.map_some]
 have eM:∀s:St,Zdn P N T ops ra i b s=Zio P T s t (s.get x) (s.get y) (ZcH ra.an i):=fun s=>by
  unfold Zdn;rw[hk2];simp only[ZmW,Zgm,gb,evOp,fR];have e:∀z,evo s (.tmp z)=s.get z:=fun z=>rfl;rw[e,e];cases Zio P T s t (s.get x) (s.get y) (ZcH ra.an i)with
  |none=>rfl
  |some p=>simp only[b2,Zxz,n2,dnV,r2,rlV]
 rw[eL]at hra;rw[eM]at bE;have ux:x∈ZeX ops b/\y∈ZeX ops b:=by unfold ZeX;rw[fR];simp[Zcr,ZsH]
 have uxa:x∈ZeX ops a/\y∈ZeX ops a:=by unfold ZeX;rw[hao];simp[Zcr,ZsH]
 simp only[Option.map_eq_some_iff,Prod.mk.injEq]at hra;obtain⟨p,hp,rfl,rfl,rfl⟩:=hra;obtain⟨va,o1⟩:=p;simp only at hp cq bA;have g1:∀n,a.dst≠some n->st1.get n=st.get n:=fun n hn=>by rw[(Zau bA n).1,if_neg hn]
 have cQ:st1.heap=st.heap:=(Zau bA 0).2;rw[g1 x (Zbc d1 ux.1),g1 y (Zbc d1 ux.2)]at bE
 -- the entry
 unfold Zio at bE;split at bE;rotate_left
 .cases bE
 rename_i kt vt id kt' l kv ik j z0 l' eP eQ fE han;split at bE;rotate_left
 .cases bE
 rename_i z hz gc;cases bE;have i6:ZpP st (st.get x)=some (id,kt',l):=by unfold ZpP at eQ ⊢;rw[cQ]at eQ;exact eQ
 obtain⟨hxv,hl⟩:=Zof i6
 -- the look
 unfold ZiF at hp;rw[eP,i6,fE]at hp;split at hp;rotate_left
 .cases hp
 rename_i kt0 vt0 _ _ l0 kv0 v0 fz0 e1 e2 e3 e4 e5;cases e2;cases e3;cases e4;rw[hz]at hp;cases hp;have lI:Zio P T st t (st.get x) (st.get y) (ZcH ra.an i)=some (.tup [(false,[.junk]),(false,[.lit (.int .i64 j)])],[ZmV P kt kv (kv :: l.map (·.1)),MEnt l kv z j l'],{ st with heap:=hset st.heap id (.map kt' l') }):=by
  unfold Zio;rw[eP,i6,fE,han];simp only[hz,gc]
 obtain⟨am,bj⟩:=ZdH (st2:=⟨st.env,hset st.heap id (.map kt' l')⟩) bM;have g2:∀n,b.dst≠some n->am.get n=st.get n:=fun n hn=>by rw[(Zau bj n).1,if_neg hn];rfl
 have gk:am.heap=hset st.heap id (.map kt' l'):=(Zau bj 0).2;have lJ:ZiF P T am t (am.get x) (am.get y) false (ZcH ra.an k)=some (va,[ZmV P kt kv (l'.map (·.1)),Zvh l' kv z va]):=by
  rw[g2 x (Zbc d2 uxa.1),g2 y (Zbc d2 uxa.2)];have hm2:ZpP am (st.get x)=some (id,kt',l'):=by
   unfold ZpP;rw[hxv,gk];simp only[ZoW,if_true]
  unfold ZiF;rw[eP,hm2,fE,e5];simp only[hz]
 have xb:bxOk (Zfk al (ops.size+i)) st b.op=true:=by rw[ZdK (st:=st1) _ (fun n hn=>(g1 n (Zbc d1 hn)).symm)];exact xb0
 have xa:bxOk (Zfk al (ops.size+k)) am a.op=true:=by rw[ZdK (st:=st) _ (fun n hn=>g2 n (Zbc d2 hn))];exact xa0
 have cO:=ZeI (al:=al) (ni:=ni) hb xb ((eM st).trans lI) c6 bj;obtain⟨aO,bu⟩:=ZdH (st2:=am) bA;have ju:=ZeI (al:=al) (ni:=ni) ha xa ((eL am).trans (by rw[lJ];rfl)) cq bu;refine⟨am,aO,_,cO,ju,⟨fun n=>?_,?_⟩,fun hq q hqm=>?_⟩
 .rw[(Zau bM n).1,(Zau bu n).1];have hd:¬(a.dst=some n/\b.dst=some n):=by
   rintro ⟨e1,e2⟩;rw[e1,e2]at d3;simp[Zny]at d3
  by_cases e1:a.dst=some n
  .rw[if_pos e1,if_neg (fun e2=>hd ⟨e1,e2⟩)];show st1.get n=va;rw[(Zau bA n).1,if_pos e1]
  .rw[if_neg e1,(Zau bj n).1];split
   .rfl
   .show st1.get n=st.get n;exact g1 n e1
 .rw[(Zau bM 0).2,(Zau bu 0).2,gk];show hset st1.heap id (.map kt' l')=_;rw[cQ]
 .have q1:Zvh l kv z va:=hq _ (by simp);have q2:ZmV P kt kv (kv :: l.map (·.1)):=hq _ (by simp);have q3:MEnt l kv z j l':=hq _ (by simp);simp only[List.mem_cons,List.not_mem_nil,or_false]at hqm;rcases hqm with rfl|rfl
  .exact q2.sub q3.keys
  .exact q1.ent q3
theorem ZDU(dQ:ZAg ops ra ni){k i:Nat}(aL:Zsh N ops ra al k i=true)(hne:k≠i)(hki:k ∉ Zfk al i){st st1 st2:St}{o1 o2:List Prop}(h1:ZeJ P N T ops ra al ni k st=some (st1,o1))(h2:ZeJ P N T ops ra al ni i st1=some (st2,o2))
  (hJ:∀o,ops[i]?=some o->clsX ra i o=3->Zhz st (o.dst.getD 0) N=true) :
  ∃am aO i5,ZeJ P N T ops ra al ni i st=some (am,o2)/\ZeJ P N T ops ra al ni k am=some (aO,i5)/\Eqv aO st2/\((∀q∈o1++o2,q)->∀q∈i5,q):=by
 unfold Zsh at aL;rw[Bool.or_eq_true]at aL;rcases aL with aL|aL
 .obtain⟨a,b,h3,h4,h5⟩:=ZAE dQ aL hne hki h1 h2 hJ;exact⟨a,b,o1,h3,h4,h5,fun h q hq=>h q (List.mem_append.2 (.inl hq))⟩
 .exact Zye aL h1 h2
theorem ZFT{i:Nat}{st st2 st':St}{obl:List Prop}(hcls:∀o,ops[i]?=some o->ZwU ra i o=true)(he:Eqv st st2)(h:ZeJ P N T ops ra al ni i st=some (st',obl)):∃aO,ZeJ P N T ops ra al ni i st2=some (aO,obl)/\Eqv st' aO:=by
 obtain⟨o,v,s1,ho,hr,hc,hp⟩:=Zdi h;have e1:=Zpx hr;obtain⟨fo,gY,hph⟩:=ZEl (hcls o ho) he hr;obtain⟨aO,bu⟩:=ZdH (st2:=⟨st2.env,fo⟩) hp;refine⟨aO,ZeI ho (by rw[ZdK (ops:=ops) (st:=st) _ (fun t _=>he.env t)];exact ZdD h ho) gY hc bu,fun t=>?_,?_⟩
 .rw[(Zau hp t).1,(Zau bu t).1];split
  .rfl
  .rw[ZiL e1];exact he.env t
 .rw[(Zau hp 0).2,(Zau bu 0).2];exact hph
theorem Zzp:∀{l:List Nat}{st st2 st':St}{obl:List Prop},(∀i∈l,∀o,ops[i]?=some o->ZwU ra i o=true)->Eqv st st2->ZsV P N T ops ra al ni l st=some (st',obl)->∃aO,ZsV P N T ops ra al ni l st2=some (aO,obl)/\Eqv st' aO
 | [],st,st2,st',obl,hcls,he,h=>by cases h;exact⟨st2,rfl,he⟩
 |i :: l,st,st2,st',obl,hcls,he,h=>by
  simp only[ZsV]at h
  split at h
  .cases h
  rename_i s1 o1 h1
  split at h
  .cases h
  rename_i s2 o2 h2
  cases h
  obtain⟨s1',h3,h4⟩:=ZFT (hcls i (by simp)) he h1
  obtain⟨s2',h5,h6⟩:=Zzp (fun j hj=>hcls j (by simp[hj])) h4 h2
  exact⟨s2',by simp only[ZsV,h3,h5],h6⟩
theorem ZuC(dQ:ZAg ops ra ni){i:Nat}{post:List Nat}:∀{g4:List Nat}{st F:St}{obl:List Prop},(∀k∈g4++post,∀o,ops[k]?=some o->ZwU ra k o=true)->(∀k∈g4,Zsh N ops ra al k i=true/\k≠i/\k ∉ Zfk al i/\i ∉ Zfk al k) ->
  (∀o,ops[i]?=some o->clsX ra i o=3->Zhz st (o.dst.getD 0) N=true)->ZsV P N T ops ra al ni (g4++i :: post) st=some (F,obl) ->
  ∃st1 oi F' o',ZeJ P N T ops ra al ni i st=some (st1,oi)/\ZsV P N T ops ra al ni (g4++post) st1=some (F',o')/\Eqv F F'/\((∀q∈obl,q)->∀q∈oi++o',q)
 | [],st,F,obl,hcls,hp,hJ,h=>by
  simp only[List.nil_append,ZsV]at h
  split at h
  .cases h
  rename_i s1 o1 h1
  split at h
  .cases h
  rename_i s2 o2 h2
  cases h
  exact⟨s1,o1,_,o2,h1,h2,Eqv.refl _,fun h q hq=>h q hq⟩
 |k :: g4,st,F,obl,hcls,hp,hJ,h=>by
  simp only[List.cons_append,ZsV]at h
  split at h
  .cases h
  rename_i s1 o1 h1
  split at h
  .cases h
  rename_i s2 o2 h2
  cases h
  obtain⟨aL,hne,hki,hik⟩:=hp k (by simp)
  obtain⟨a,va,sa,ha,hra,cq,bA⟩:=Zdi h1
  have hJ1:∀o,ops[i]?=some o->clsX ra i o=3->Zhz s1 (o.dst.getD 0) N=true:=fun o ho hc=>by
   have ea:=Zpx hra
   exact Zlh (hJ o ho hc) (ZiL ea) (ZpM cq (dQ i o ho hc) (Ne.symm hne) hik) bA
  obtain⟨t1,oi,F1,o',h3,h4,h5,h6⟩:=ZuC dQ (fun j hj=>hcls j (List.mem_cons_of_mem _ hj)) (fun k' hk'=>hp k' (by simp[hk'])) hJ1 h2
  obtain⟨t1',t2',i5,h7,h8,h9,h12⟩:=ZDU dQ aL hne hki h1 h3 hJ
  obtain⟨F2,lK,gO⟩:=Zzp (l:=g4++post) (fun j hj=>hcls j (List.mem_cons_of_mem _ hj)) (st:=t1) (st2:=t2') ⟨fun t=>(h9.env t).symm,h9.heap.symm⟩ h4
  refine⟨t1',oi,F2,i5++o',h7,by simp only[List.cons_append,ZsV,h8,lK],h5.trans gO,fun dm q hq=>?_⟩
  have lL:=h6 fun q hq=>dm q (List.mem_append.2 (.inr hq))
  rcases List.mem_append.1 hq with hq|hq
  .exact lL q (List.mem_append.2 (.inl hq))
  .rcases List.mem_append.1 hq with hq|hq
   .refine h12 (fun q hq=>?_) q hq
    rcases List.mem_append.1 hq with hq|hq
    .exact dm q (List.mem_append.2 (.inl hq))
    .exact lL q (List.mem_append.2 (.inl hq))
   .exact lL q (List.mem_append.2 (.inr hq))
end
end Go.Proofs.YtlpdogaifdeomaaGreat
