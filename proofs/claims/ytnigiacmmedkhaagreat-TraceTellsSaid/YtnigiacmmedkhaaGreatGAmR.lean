import Derived.Test.YtnigiacmmedkhaaGreatGAmQ
namespace Go.Proofs.YtnigiacmmedkhaaGreat
open Go.RowKit
set_option linter.unusedSimpArgs false
set_option linter.unusedVariables false
def Zsu:List Operand->List Nat | []=>[] | .tmp t :: l=>t :: Zsu l|_ :: l=>Zsu l
def ZfK(ops:Array Oper)(o:Oper):List Nat:=Zsu (Zcn o.op)++match o.guard with
 |none=>[]
 |some (j,_)=>match (ops[j]?).bind (·.dst)with
  |some t=>[t]
  |none=>[]
theorem ZpO{t:Nat}:∀{l:List Operand},Operand.tmp t∈l->t∈Zsu l
 | [],h=>by cases h
 |x :: l,h=>by
  rcases List.mem_cons.1 h with rfl|h
  .simp[Zsu]
  .have:=ZpO h
   cases x<;>simp[Zsu,this]
theorem ZlK{st st2:St}{ops:Array Oper}{o:Oper}(h:∀t∈ZfK ops o,st2.get t=st.get t):∀x∈Zcn o.op,evo st2 x=evo st x:=by
 intro x hx;cases x with
 |tmp t=>exact h t (List.mem_append.2 (.inl (ZpO hx)))
 |_=>rfl
theorem Zll{st st2:St}{ops:Array Oper}{o:Oper}(h:∀t∈ZfK ops o,st2.get t=st.get t):ZgH ops st2 o=ZgH ops st o:=by
 unfold ZgH;split
 .rfl
 .rename_i j want hg;split
  .rename_i t ht;rw[h t (by unfold ZfK;rw[hg];simp[ht])]
  .rfl
theorem Zqg{P:Program}{N:Nat}{T:Tab}{st:St}{o:Oper}{ra:RA}{i:Nat}{p:V×List Prop×St}(hc:Zfm ra i o.op=3)(h:evOp P N T o st (Zcw ra.an i)=some p):ZdC N (o.dst.getD 0) st=true:=by
 obtain⟨dst,op,type,dS,after,guard⟩:=o;simp only at hc;have cf:∀{l},ZpG N st (dst.getD 0) l=some p->ZdC N (dst.getD 0) st=true:=by
  intro l hb;unfold ZpG at hb;split at hb
  .assumption
  .cases hb
 cases op<;>(try (simp only[Zfm]at hc))<;>(try (exact absurd hc (by decide)))
 case move x=>split at hc<;>cases hc
 case assign x=>split at hc<;>cases hc
 case alloc e=>
  simp only[evOp]at h
  repeat' split at h
  all_goals first | (cases h;done)|exact cf h
 case box e x=>
  simp only[evOp]at h
  repeat' split at h
  all_goals first | (cases h;done)|exact cf h
 case makeSlice t l c=>
  split at hc
  .cases hc
  rename_i hx;simp only[evOp]at h;split at h
  .rename_i hk;exact absurd hk (hx _ _)
  .cases h
  unfold Zme at h
  repeat' split at h
  all_goals first | (cases h;done)|assumption
 case buildSlice t n ps=>
  split at hc
  .rename_i n' c' bt;simp only[evOp]at h;unfold Zfs at h;rw[bt]at h
   repeat' split at h
   all_goals first | (cases h;done)|assumption | (rename_i hx;exact absurd rfl (hx _ _))
  .cases hc
 case call c=>
  obtain⟨callee,args,a9⟩:=c;cases callee with
  |value f=>simp only[Zfm]at hc;cases hc
  |invoke r n=>simp only[Zfm]at hc;cases hc
  |builtin b=>
   cases b<;>(try (simp only[Zfm]at hc))<;>(try (exact absurd hc (by decide)))
   case append=>
    split at hc
    .cases hc
    rename_i bt;simp only[evOp]at h;split at h;rotate_left
    .cases h
    split at h;rotate_left
    .cases h
    unfold ZjR at h
    repeat' split at h
    all_goals first | (cases h;done)|assumption
theorem ZDB{P:Program}{N:Nat}{T:Tab}{ops:Array Oper}{ra:RA}{i:Nat}{o:Oper}{st st1 st2:St}{v:V}{obl:List Prop}(hc:Zfm ra i o.op<=3)(hu:∀t∈ZfK ops o,st2.get t=st.get t)
  (hh:Zfm ra i o.op≠0->st2.heap=st.heap) (hq:Zfm ra i o.op=3->ZdC N (o.dst.getD 0) st=true->ZdC N (o.dst.getD 0) st2=true) (h:Zmk P N T ops ra i o st=some (v,obl,st1)) :
  st1.env=st.env/\(Zfm ra i o.op<=1->st1.heap=st.heap)/\Zmk P N T ops ra i o st2=some (v,obl,⟨st2.env,if Zfm ra i o.op<=1 then st2.heap else st1.heap⟩):=by
 unfold Zmk at h ⊢;rw[Zll hu];split at h
 .cases h
 .cases h;refine⟨rfl,fun _=>rfl,?_⟩;split
  .rfl
  .rename_i cd;rw[<-hh (by omega)]
 .have he:=ZlK hu;split at h
  .cases h
  rename_i v0 cF st0 bh;split at h
  .cases h
  rename_i v' obl' hd;split at h;rotate_left
  .cases h
  rename_i v'' fh;split at h;rotate_left
  .cases h
  rename_i v3 obl3 eK;cases h;refine⟨ZGe bh,?_⟩;have fi:Zfm ra i o.op=0\/Zfm ra i o.op=1\/Zfm ra i o.op=2\/Zfm ra i o.op=3:=by omega
  rcases fi with cd|cd|cd|cd
  .have e1:=ZNT (P:=P) (N:=N) (T:=T) (st:=st) (st2:=st) cd (fun x _=>rfl);have e2:=ZNT (P:=P) (N:=N) (T:=T) (st:=st) (st2:=st2) cd he;rw[bh]at e1 e2;simp only[Option.map_some,Option.some.injEq,Prod.mk.injEq,true_and]at e1;subst e1;refine⟨fun _=>rfl,?_⟩;rw[e2];simp only[Option.map_some,hd,fh,eK,cd];rfl
  .have e1:=ZNU (P:=P) (N:=N) (T:=T) (st:=st) (st2:=st) cd (fun x _=>rfl) rfl;have e2:=ZNU (P:=P) (N:=N) (T:=T) (st:=st) (st2:=st2) cd he (hh (by omega));rw[bh]at e1 e2;simp only[Option.map_some,Option.some.injEq,Prod.mk.injEq,true_and]at e1;subst e1;refine⟨fun _=>rfl,?_⟩;rw[e2];simp only[Option.map_some,hd,fh,eK,cd];rfl
  .have e2:=ZQk (P:=P) (N:=N) (T:=T) (st:=st) (st2:=st2) cd he (hh (by omega));rw[bh]at e2;refine⟨fun h=>by omega,?_⟩;rw[e2];simp only[Option.map_some,hd,fh,eK,cd];rfl
  .have hqq:=Zqg cd bh;have e2:=ZQl (P:=P) (N:=N) (T:=T) (st:=st) (st2:=st2) cd he (hh (by omega)) ((hq cd hqq).trans hqq.symm);rw[bh]at e2;refine⟨fun h=>by omega,?_⟩;rw[e2];simp only[Option.map_some,hd,fh,eK,cd];rfl
theorem ZHg{P:Program}{N:Nat}{T:Tab}{ops:Array Oper}{ra:RA}{i:Nat}{o:Oper}{st st1 st2:St}{v:V}{obl:List Prop}(hc:Zfm ra i o.op=1)(hu:∀t∈ZfK ops o,st2.get t=st.get t)
  (hm:∀x∈Zcn o.op,Has st st2 fun id=>(evo st x).says id) (h:Zmk P N T ops ra i o st=some (v,obl,st1)):Zmk P N T ops ra i o st2=some (v,obl,st2):=by
 unfold Zmk at h ⊢;rw[Zll hu];split at h
 .cases h
 .cases h;rfl
 .have he:=ZlK hu;split at h
  .cases h
  rename_i v0 cF st0 bh;split at h
  .cases h
  rename_i v' obl' hd;split at h;rotate_left
  .cases h
  rename_i v'' fh;split at h;rotate_left
  .cases h
  rename_i v3 obl3 eK;cases h;have e2:=ZQm (P:=P) (N:=N) (T:=T) (st:=st) (st2:=st2) hc he hm bh;simp only[e2,hd,fh,eK]
theorem ZJw{P:Program}{N:Nat}{T:Tab}{ops:Array Oper}{ra:RA}{i:Nat}{o:Oper}{st st1:St}{v:V}{obl:List Prop}(hc:Zfm ra i o.op=3)(h:Zmk P N T ops ra i o st=some (v,obl,st1)) :
  st1=st\/(ZdC N (o.dst.getD 0) st=true/\∀id b,hget st1.heap id=some b->id=o.dst.getD 0\/hget st.heap id=some b):=by
 unfold Zmk at h;split at h
 .cases h
 .cases h;exact .inl rfl
 .split at h
  .cases h
  rename_i v0 cF st0 bh;split at h
  .cases h
  split at h;rotate_left
  .cases h
  split at h;rotate_left
  .cases h
  cases h;exact .inr ⟨Zqg hc bh,ZEd hc bh⟩
theorem ZcN{N:Nat}{st:St}{d:Nat}(h:ZdC N d st=true):Zid st d N=true/\ZhS d st.heap=true:=by
 unfold ZdC at h;split at h
 .rename_i h1;exact⟨h1,h⟩
 .cases h
theorem ZDC{P:Program}{N:Nat}{T:Tab}{ops:Array Oper}{ra:RA}{i:Nat}{o:Oper}{st st1:St}{v:V}{obl:List Prop}(hc:Zfm ra i o.op=3)(hk:ZFH o.op=true)(h:Zmk P N T ops ra i o st=some (v,obl,st1)) :
  ∀id b,hget st.heap id=some b->hget st1.heap id=some b:=by
 unfold Zmk at h;split at h
 .cases h
 .cases h;exact fun _ _ h=>h
 .split at h
  .cases h
  rename_i v0 cF st0 bh;split at h
  .cases h
  split at h;rotate_left
  .cases h
  split at h;rotate_left
  .cases h
  cases h;exact ZBG hc hk (ZiD (ZcN (Zqg hc bh)).2).1 bh
def ZgT(o:Oper)(ha:HA):Bool:=match ha.lend,ha.new,ha.h1,o.guard with
 | [],[(c,d)],[(c',.rows _ _ _ _)],none=>Nat.beq d (o.dst.getD 0)&&Nat.beq c c'&&Nat.beq c 99999
 |_,_,_,_=>false
def clsX(ra:RA)(i:Nat)(o:Oper):Nat:=match Zcw ra.hc i with
 |none=>Zfm ra i o.op
 |some ha=>match ZgT o ha with
  |true=>3
  |false=>match Zcw ra.hc (i+1000)with
   |some _=>5
   |none=>match ha.new with
    | []=>2
    |_ :: _=>4
def ZtJ(ra:RA)(i:Nat)(o:Oper):Bool:=match Zcw ra.hc i with
 |none=>ZFH o.op
 |some _=>true
def ZeE(P:Program)(N:Nat)(ops:Array Oper)(ha:HA)(an:Option Ans)(o:Oper)(st:St):Option (V×List Prop×St):=match ZgH ops st o with
 |some true=>match o.op with
  | .call { callee:=c,args:=args,argTypes:=_ }=>ZgJ P N st c args.toList ha an
  |_=>none
 |some false=>some (.one (.lit undef),[],st)
 |none=>none
def ZhT(P:Program)(N:Nat)(ops:Array Oper)(ha:HA)(an:Option Ans)(o:Oper)(st:St):Option (V×List Prop×St):=match ZgH ops st o with
 |some true=>match o.op with
  | .call { callee:=c,args:=args,argTypes:=_ }=>Zhm P N st c args.toList ha an
  |_=>none
 |some false=>some (.one (.lit undef),[],st)
 |none=>none
def ZdD(P:Program)(N:Nat)(T:Tab)(ops:Array Oper)(ra:RA)(i:Nat)(o:Oper)(st:St):Option (V×List Prop×St):=match Zcw ra.hc i with
 |none=>Zmk P N T ops ra i o st
 |some ha=>match Zcw ra.hc (i+1000)with
  |none=>ZeE P N ops ha (Zcw ra.an i) o st
  |some _=>ZhT P N ops ha (Zcw ra.an i) o st
theorem ZHf{P:Program}{N:Nat}{T:Tab}{ops:Array Oper}{ra:RA}{i:Nat}{o:Oper}{st st1 st2:St}{v:V}{obl:List Prop}(h:ZdD P N T ops ra i o st=some (v,obl,st1))(hp:putO N st1 o.dst v=some st2):Zse P N T ops ra i o st=some (st2,obl):=by
 unfold ZdD at h;unfold Zse;split at h
 .rename_i hk;rw[hk];simp only;unfold ZFG;simp only[h,hp]
 .rename_i ha hk;rw[hk];simp only;split at h
  .unfold ZeE at h;unfold ZzR;split at h
   .split at h
    .rename_i h1 _ c args a9 ce;simp only[h1,ce,Zuj (Zuk h),hp]
    .cases h
   .rename_i h1;cases h;simp only[h1,hp]
   .cases h
  .unfold ZhT at h;unfold ZzR;split at h
   .split at h
    .rename_i h1 _ c args a9 ce;simp only[h1,ce,Zuj h,hp]
    .cases h
   .rename_i h1;cases h;simp only[h1,hp]
   .cases h
theorem ZqQ{P:Program}{N:Nat}{st st1:St}{c:Callee}{args:List Operand}{ha:HA}{an:Option Ans}{v:V}{obl:List Prop}(h:ZgJ P N st c args ha an=some (v,obl,st1)):st1.env=st.env:=by
 unfold ZgJ at h;split at h
 .split at h
  .cases h;rfl
  .cases h
 .cases h
theorem ZBN{P:Program}{N:Nat}{st st1:St}{c:Callee}{args:List Operand}{ha:HA}{an:Option Ans}{v:V}{obl:List Prop}(h:Zhm P N st c args ha an=some (v,obl,st1)):st1.env=st.env:=by
 unfold Zhm at h;split at h
 .rename_i r hr;cases h;exact ZqQ hr
 .unfold Zlq at h;split at h
  .unfold Zlb at h;split at h
   .split at h
    .split at h
     .cases h;rfl
     .cases h
    .cases h
   .cases h
  .unfold ZrE at h;split at h
   .split at h
    .split at h
     .cases h;rfl
     .cases h
    .cases h
   .cases h
theorem ZpZ{P:Program}{N:Nat}{T:Tab}{ops:Array Oper}{ra:RA}{i:Nat}{o:Oper}{st st1:St}{v:V}{obl:List Prop}(h:ZdD P N T ops ra i o st=some (v,obl,st1)):st1.env=st.env:=by
 unfold ZdD at h;split at h
 .unfold Zmk at h;split at h
  .cases h
  .cases h;rfl
  .split at h
   .cases h
   rename_i v0 cF st0 bh;split at h
   .cases h
   split at h;rotate_left
   .cases h
   split at h;rotate_left
   .cases h
   cases h;exact ZGe bh
 .split at h
  .unfold ZeE at h;split at h
   .split at h
    .exact ZqQ h
    .cases h
   .cases h;rfl
   .cases h
  .unfold ZhT at h;split at h
   .split at h
    .exact ZBN h
    .cases h
   .cases h;rfl
   .cases h
theorem Zjg{P:Program}{st st2:St}{c:Callee}{args:Array Operand}{a9:Array TypeId}{an:Option Ans}(h:∀x∈Zcn (.call { callee:=c,args:=args,argTypes:=a9 }),evo st2 x=evo st x):ZjZ P st2 c an=ZjZ P st c an:=by
 cases c with
 |value f=>simp only[ZjZ,ZjS,h f (by simp[Zcn])]
 |invoke r n=>simp only[ZjZ,h r (by simp[Zcn])]
 |builtin b=>rfl
theorem ZnL{c:Callee}{args:Array Operand}{a9:Array TypeId}:∀x∈args.toList,x∈Zcn (.call { callee:=c,args:=args,argTypes:=a9 }):=by
 intro x hx;cases c<;>simp only[Zcn]<;>first|exact hx|exact List.mem_cons_of_mem _ hx
theorem ZPd{P:Program}{N:Nat}{ops:Array Oper}{ha:HA}{an:Option Ans}{o:Oper}{st st1:St}{v:V}{obl:List Prop}(hn:ha.new=[])(h:ZeE P N ops ha an o st=some (v,obl,st1)) :
  st1.env=st.env/\∀st2:St,(∀t∈ZfK ops o,st2.get t=st.get t)->st2.heap=st.heap->ZeE P N ops ha an o st2=some (v,obl,⟨st2.env,st1.heap⟩):=by
 unfold ZeE at h;split at h
 .rename_i ck;split at h
  .rename_i c args a9 ce;refine⟨ZqQ h,fun st2 hu hh=>?_⟩;unfold ZeE;rw[Zll hu,ck];have he:=ZlK hu;rw[ce]at he ⊢;simp only;unfold ZgJ at h ⊢;rw[Zjg he];have ar:okHA N st2 ha=okHA N st ha:=by
    unfold okHA;rw[hn];rfl
   split at h;rotate_left
   .cases h
   rename_i g a b om bA;rw[Zih (fun x hx=>he x (ZnL x hx)) a b,ar,hh];split at h;rotate_left
   .cases h
   rename_i h0 vs hp r q1 q2 q3 q4 q5;cases h;simp only[q1,q2,q3,q4,q5]
  .cases h
 .rename_i ck;cases h;refine⟨rfl,fun st2 hu hh=>?_⟩;unfold ZeE;rw[Zll hu,ck];simp only[<-hh]
 .cases h
theorem Zty{d e:Nat}{b:B}(hne:e≠d)(hb:b.says d=false):∀{h:List (Nat×B)},ZhS d h=true->ZhS d (hins h e b)=true:=by
 have hf:Nat.beq e d=false:=by
  cases hx:Nat.beq e d
  .rfl
  .exact absurd (Nat.eq_of_beq_eq_true hx) hne
 intro h;induction h with
 |nil=>intro _;simp only[hins,ZhS,hf,hb]
 |cons p r ih=>
  obtain⟨k,v⟩:=p;intro hq;have dt:=hq;simp only[ZhS]at hq;split at hq
  .rename_i h1 h2;simp only[hins];split
   .simp only[ZhS,hf,hb];exact hq
   .split
    .simp only[ZhS,hf,hb,h1,h2];exact hq
    .simp only[ZhS,h1,h2];exact ih hq
  .cases hq
theorem Zne{d e:Nat}{b:B}:∀{h:List (Nat×B)},hget h e=none->ZhS d (hins h e b)=true->ZhS d h=true
 | [],_,_=>rfl
 | (k,v) :: r,hn,hq=>by
  rw[Zbk]at hn
  split at hn
  .cases hn
  rename_i hke
  have hf:Nat.beq k e=false:=by
   cases hx:Nat.beq k e
   .rfl
   .exact absurd (Nat.eq_of_beq_eq_true hx) hke
  simp only[hins,hf]at hq;split at hq
  .simp only[ZhS]at hq;split at hq
   .simp only[ZhS];exact hq
   .cases hq
  .simp only[ZhS]at hq ⊢;split at hq
   .rename_i h1 h2;exact Zne hn hq
   .cases hq
theorem ZFV{P:Program}{N:Nat}{ops:Array Oper}{ha:HA}{an:Option Ans}{o:Oper}{st st1:St}{v:V}{obl:List Prop}(hs:ZgT o ha=true)(h:ZeE P N ops ha an o st=some (v,obl,st1)) :
  ∃b:B,(∀k,b.says k=false)/\ZdC N (o.dst.getD 0) st=true/\st1=⟨st.env,hins st.heap (o.dst.getD 0) b⟩/\∀st2,(∀t∈ZfK ops o,st2.get t=st.get t)->ZdC N (o.dst.getD 0) st2=true ->
   ZeE P N ops ha an o st2=some (v,obl,⟨st2.env,hins st2.heap (o.dst.getD 0) b⟩):=by
 unfold ZgT at hs;split at hs;rotate_left
 .cases hs
 rename_i c d c' e sz len cc hl hn cq ck;simp only[Bool.and_eq_true]at hs;obtain⟨⟨e1,e2⟩,e3⟩:=hs;have e1:=Nat.eq_of_beq_eq_true e1;have e2:=Nat.eq_of_beq_eq_true e2;subst e2;obtain⟨lend,new,h1,res⟩:=ha;simp only at hl hn cq;subst hl hn cq;subst e1;have hg:∀st:St,ZgH ops st o=some true:=fun st=>by unfold ZgH;rw[ck]
 unfold ZeE at h;rw[hg]at h;simp only at h;split at h;rotate_left
 .cases h
 rename_i f args a9 ce;unfold ZgJ at h;split at h;rotate_left
 .cases h
 rename_i g a b om bA;split at h;rotate_left
 .cases h
 rename_i h0 vs hp r ar hhi df cO hr;cases h;have hq:ZdC N (o.dst.getD 0) st=true:=by
  unfold okHA at ar;split at ar
  .rename_i q1 q2 q3 q4;exact List.all_eq_true.1 q4 _ (List.mem_cons_self)
  .cases ar
 have hQ:hp=[(o.dst.getD 0,.rows e sz len cc)]:=by
  have:gOut ⟨[],[(c,o.dst.getD 0)],[(c,.rows e sz len cc)],res⟩ c=some (o.dst.getD 0):=by
   simp only[gOut,Zpb,Nat.beq_refl]
  simp only[Zqn,this,renB]at cO;exact(Option.some.inj cO).symm
 subst hQ;refine⟨.rows e sz len cc,fun _=>rfl,hq,rfl,fun st2 hu cy=>?_⟩;have he:∀x∈Zcn (.call { callee:=f,args:=args,argTypes:=a9 }),evo st2 x=evo st x:=fun x hx=>ZlK hu x (by rw[ce];exact hx);have bU:ZbS st2 args.toList a b=ZbS st args.toList a b:=Zih (fun x hx=>he x (ZnL x hx)) a b;have dU:okHA N st2 ⟨[],[(c,o.dst.getD 0)],[(c,.rows e sz len cc)],res⟩=true:=by
  unfold okHA at ar ⊢;split at ar
  .rename_i q1 q2 q3 q4;simp only at q1 q2 q3;simp only[q1,q2,q3,List.all_cons,List.all_nil,cy,Bool.and_true]
  .cases ar
 have gK:hIn (bwd ([]:List (Nat×Nat))) st2.heap ([]:List (Nat×Nat))=some h0:=hhi;unfold ZeE;rw[hg];simp only[ce];unfold ZgJ;rw[Zjg he,bA];simp only[dU,gK,bU,df,cO,hr];rfl
theorem ZCh{st st2:St}(hh:st2.heap=st.heap):∀l,borK st2 l=borK st l
 | []=>rfl
 |c :: l=>by simp only[borK,Zuy hh,ZCh hh l]
theorem ZKT{st st2:St}(hh:st2.heap=st.heap)(v:V):borX st2 v=borX st v:=by
 unfold borX;simp only[ZCh hh,ZCd hh]
theorem ZCb{st st2:St}(hh:st2.heap=st.heap)(g:Nat->Option Nat):∀l,borW st2 g l=borW st g l
 | []=>rfl
 |v :: l=>by simp only[borW,ZKT hh,ZCb hh g l]
theorem ZxH{P:Program}{N:Nat}{st st2:St}{c:Callee}{args:Array Operand}{a9:Array TypeId}{ha:HA}{an:Option Ans}(he:∀x∈Zcn (.call { callee:=c,args:=args,argTypes:=a9 }),evo st2 x=evo st x)(hh:st2.heap=st.heap)(ar:okHA N st2 ha=okHA N st ha) :
  Zhm P N st2 c args.toList ha an=(Zhm P N st c args.toList ha an).map fun r=>(r.1,r.2.1,⟨st2.env,r.2.2.heap⟩):=by
 have bU:∀a b,ZbS st2 args.toList a b=ZbS st args.toList a b:=fun a b=>Zih (fun x hx=>he x (ZnL x hx)) a b;have e1:ZgJ P N st2 c args.toList ha an=(ZgJ P N st c args.toList ha an).map fun r=>(r.1,r.2.1,⟨st2.env,r.2.2.heap⟩):=by
  unfold ZgJ;rw[Zjg he,ar,hh];cases ZjZ P st c an with
  |none=>rfl
  |some q=>
   obtain⟨g,a,b,om⟩:=q;simp only[bU];generalize okHA N st ha=x1;generalize hIn (bwd ha.lend) st.heap ha.lend=x2;generalize ZIS (bwd ha.lend) (ZbS st args.toList a b)=x3;generalize Zqn (gOut ha) ha.h1=x4;generalize renV (gOut ha) ha.res=x5;cases x1<;>cases x2<;>cases x3<;>cases x4<;>cases x5<;>rfl
 have e2:Zlq P N st2 c args.toList ha an=(Zlq P N st c args.toList ha an).map fun r=>(r.1,r.2.1,⟨st2.env,r.2.2.heap⟩):=by
  obtain⟨lend,new,h1,res⟩:=ha;have hbA:∀l,borA st2 l=borA st l:=ZuA hh;have hb:∀g l,borW ⟨st2.env,Zkz st.heap lend⟩ g l=borW ⟨st.env,Zkz st.heap lend⟩ g l:=ZCb rfl;unfold Zlq;cases lend with
  |nil=>
   simp only;unfold Zlb;rw[Zjg he,ar,hh];simp only[bU,hbA];cases ZjZ P st c an with
   |none=>split<;>rfl
   |some q=>
    obtain⟨g,a,b,om⟩:=q;simp only;generalize okHA N st ⟨[],new,h1,res⟩=x1;generalize borA st (ZbS st args.toList a b)=x2;generalize Zqn (gOut ⟨[],new,h1,res⟩) h1=x3;generalize renV (gOut ⟨[],new,h1,res⟩) res=x4;generalize ZqH h1=x5;split
    .cases x1<;>cases x2<;>cases x3<;>cases x4<;>cases x5<;>rfl
    .rfl
  |cons p0 lend=>
   simp only;unfold ZrE;rw[Zjg he,ar,hh];simp only[bU,hb];cases ZjZ P st c an with
   |none=>split<;>rfl
   |some q=>
    obtain⟨g,a,b,om⟩:=q;simp only;generalize okHA N st ⟨p0 :: lend,new,h1,res⟩=x1;generalize hIn (bwd (p0 :: lend)) st.heap (p0 :: lend)=x6;generalize borW ⟨st.env,Zkz st.heap (p0 :: lend)⟩ (bwd (p0 :: lend)) (ZbS st args.toList a b)=x2;generalize Zqn (gOut ⟨p0 :: lend,new,h1,res⟩) h1=x3;generalize renV (gOut ⟨p0 :: lend,new,h1,res⟩) res=x4;generalize ZqH h1=x5;split
    .cases x1<;>cases x6<;>cases x2<;>cases x3<;>cases x4<;>cases x5<;>rfl
    .rfl
 unfold Zhm;rw[e1,e2];cases ZgJ P N st c args.toList ha an<;>rfl
theorem ZPe{P:Program}{N:Nat}{ops:Array Oper}{ha:HA}{an:Option Ans}{o:Oper}{st st1:St}{v:V}{obl:List Prop}(hs:ZgT o ha=true)(h:ZhT P N ops ha an o st=some (v,obl,st1)) :
  ∃b:B,ZdC N (o.dst.getD 0) st=true/\st1=⟨st.env,hins st.heap (o.dst.getD 0) b⟩/\∀st2,(∀t∈ZfK ops o,st2.get t=st.get t)->st2.heap=st.heap->ZdC N (o.dst.getD 0) st2=true ->
   ZhT P N ops ha an o st2=some (v,obl,⟨st2.env,st1.heap⟩):=by
 unfold ZgT at hs;split at hs;rotate_left
 .cases hs
 rename_i c d c' e sz len cc hl hn cq ck;simp only[Bool.and_eq_true]at hs;obtain⟨⟨e1,e2⟩,e3⟩:=hs;have e1:=Nat.eq_of_beq_eq_true e1;have e2:=Nat.eq_of_beq_eq_true e2;subst e2;obtain⟨lend,new,h1,res⟩:=ha;simp only at hl hn cq;subst hl hn cq;subst e1;have hg:∀st:St,ZgH ops st o=some true:=fun st=>by unfold ZgH;rw[ck]
 unfold ZhT at h;rw[hg]at h;simp only at h;split at h;rotate_left
 .cases h
 rename_i f args a9 ce;have hQ:∀hp,Zqn (gOut ⟨[],[(c,o.dst.getD 0)],[(c,.rows e sz len cc)],res⟩) [(c,.rows e sz len cc)]=some hp->hp=[(o.dst.getD 0,.rows e sz len cc)]:=fun hp cO=>by
  have:gOut ⟨[],[(c,o.dst.getD 0)],[(c,.rows e sz len cc)],res⟩ c=some (o.dst.getD 0):=by
   simp only[gOut,Zpb,Nat.beq_refl]
  simp only[Zqn,this,renB]at cO;exact(Option.some.inj cO).symm
 have fj:okHA N st ⟨[],[(c,o.dst.getD 0)],[(c,.rows e sz len cc)],res⟩=true/\st1=⟨st.env,hins st.heap (o.dst.getD 0) (.rows e sz len cc)⟩:=by
  have h':=h;unfold Zhm at h';split at h'
  .rename_i r hr;cases h';unfold ZgJ at hr;split at hr;rotate_left
   .cases hr
   split at hr;rotate_left
   .cases hr
   rename_i h0 vs hp r ar hhi df cO fZ;cases hr;rw[hQ _ cO];exact⟨ar,rfl⟩
  .rw[ZoW rfl]at h';unfold Zlb at h';split at h';rotate_left
   .cases h'
   split at h';rotate_left
   .cases h'
   split at h';rotate_left
   .cases h'
   rename_i vs hp r ps ar df cO fZ bL;cases h';rw[hQ _ cO];exact⟨ar,rfl⟩
 obtain⟨ar,bE⟩:=fj;have hq:ZdC N (o.dst.getD 0) st=true:=by
  have bR:=ar;unfold okHA at bR;split at bR
  .rename_i q1 q2 q3 q4;exact List.all_eq_true.1 q4 _ (List.mem_cons_self)
  .cases bR
 refine⟨.rows e sz len cc,hq,bE,fun st2 hu hh cy=>?_⟩;have he:∀x∈Zcn (.call { callee:=f,args:=args,argTypes:=a9 }),evo st2 x=evo st x:=fun x hx=>ZlK hu x (by rw[ce];exact hx);have dU:okHA N st2 ⟨[],[(c,o.dst.getD 0)],[(c,.rows e sz len cc)],res⟩=true:=by
  have bR:=ar;unfold okHA at bR ⊢;split at bR
  .rename_i q1 q2 q3 q4;simp only at q1 q2 q3;simp only[q1,q2,q3,List.all_cons,List.all_nil,cy,Bool.and_true]
  .cases bR
 unfold ZhT;rw[hg];simp only[ce];rw[ZxH he hh (dU.trans ar.symm),h];rfl
def ZNJ:Op->Bool | .makeSlice .. | .buildSlice .. | .alloc _=>true|_=>false
theorem ZGC{ti:TI}{l:List C}(h:Ztf ti=some l)(k:Nat):l.any (C.says k)=false:=by
 unfold Ztf at h;split at h;rotate_left
 .cases h
 rename_i z hz;have lits:∀xs:List Value,(xs.map C.lit).any (C.says k)=false:=fun xs=>by
  induction xs with
  |nil=>rfl
  |cons x xs ih=>simp[C.says,ih]
 cases z with
 |agg cs=>
  simp only[V.ofVal]at h;split at h
  .cases h;exact lits _
  .cases h
 |_=>
  simp only[V.ofVal,V.cells]at h
  first | (cases h;rfl) | (split at h<;>cases h;rfl)
def Zxb(ra:RA)(i:Nat)(o:Oper):Bool:=match Zcw ra.hc i with
 |some ha=>match Zcw ra.hc (i+1000)with
  |none=>true
  |some _=>ZgT o ha
 |none=>Nat.ble (Zfm ra i o.op) 3
def Zlj(ra:RA)(i:Nat)(o:Oper):Bool:=match Zcw ra.hc i with
 |some ha=>match Zcw ra.hc (i+1000)with
  |none=>ZgT o ha
  |some _=>false
 |none=>match o.guard with
  |none=>ZNJ o.op&&Nat.beq (Zfm ra i o.op) 3
  |some _=>false
theorem ZEf{N:Nat}{T:Tab}{st st1:St}{d t:Nat}{x y:V}{an:Option Ans}{v:V}{obl:List Prop}(h:Zme N T st d t x y an=some (v,obl,st1)) :
  ∃b:B,(∀k,b.says k=false)/\ZdC N d st=true/\st1=⟨st.env,hins st.heap d b⟩/\∀st2,ZdC N d st2=true->Zme N T st2 d t x y an=some (v,obl,⟨st2.env,hins st2.heap d b⟩):=by
 unfold Zme at h
 repeat' split at h
 all_goals first | (cases h;done)|skip
 all_goals
  cases h;refine⟨_,fun _=>rfl,by assumption,rfl,fun st2 hq=>?_⟩;unfold Zme;simp only[*,St.new]
theorem Zuh{N:Nat}{T:Tab}{st st1:St}{d t n:Nat}{ps:List (Nat×V)}{k:Nat}{c:Nat->Nat->C}{v:V}{obl:List Prop}(h:Zfs N T st d t n ps (some (.c k c))=some (v,obl,st1)) :
  ∃b:B,(∀k,b.says k=false)/\ZdC N d st=true/\st1=⟨st.env,hins st.heap d b⟩/\∀st2,ZdC N d st2=true->Zfs N T st2 d t n ps (some (.c k c))=some (v,obl,⟨st2.env,hins st2.heap d b⟩):=by
 unfold Zfs at h ⊢;split at h<;>try (cases h;done)
 split at h<;>try (cases h;done)
 split at h<;>try (cases h;done)
 split at h<;>try (cases h;done)
 split at h<;>try (cases h;done)
 split at h<;>try (cases h;done)
 simp only at h;split at h
 .cases h
 .rename_i hq;cases h;refine⟨_,fun _=>rfl,hq,rfl,fun st2 cy=>?_⟩;simp only[*,St.new]
theorem ZlT{P:Program}{N:Nat}{T:Tab}{ops:Array Oper}{ra:RA}{i:Nat}{o:Oper}{st st1:St}{v:V}{obl:List Prop}(hs:Zlj ra i o=true)(h:ZdD P N T ops ra i o st=some (v,obl,st1)) :
  ∃b:B,(∀k,b.says k=false)/\ZdC N (o.dst.getD 0) st=true/\st1=⟨st.env,hins st.heap (o.dst.getD 0) b⟩/\∀st2,(∀t∈ZfK ops o,st2.get t=st.get t)->ZdC N (o.dst.getD 0) st2=true ->
   ZdD P N T ops ra i o st2=some (v,obl,⟨st2.env,hins st2.heap (o.dst.getD 0) b⟩):=by
 unfold Zlj at hs;unfold ZdD at h ⊢;split at hs
 .rename_i ha hk;cases hk2:Zcw ra.hc (i+1000)with
  |some y=>rw[hk2]at hs;cases hs
  |none=>
   rw[hk2]at hs;simp only[hk,hk2]at h ⊢;exact ZFV hs h
 .rename_i hk;rw[hk]at h ⊢;simp only at h ⊢;split at hs;rotate_left
  .cases hs
  rename_i ck;have hg:∀st:St,ZgH ops st o=some true:=fun st=>by unfold ZgH;rw[ck]
  simp only[Bool.and_eq_true]at hs;obtain⟨hr,dB⟩:=hs;have dB:=Nat.eq_of_beq_eq_true dB;unfold Zmk at h;rw[hg]at h;simp only at h;split at h
  .cases h
  rename_i v0 cF st0 bh;split at h
  .cases h
  rename_i v' obl' hd;split at h;rotate_left
  .cases h
  rename_i v'' fh;split at h;rotate_left
  .cases h
  rename_i v3 obl3 eK;cases h;have fj:∃b:B,(∀k,b.says k=false)/\ZdC N (o.dst.getD 0) st=true/\st1=⟨st.env,hins st.heap (o.dst.getD 0) b⟩/\∀st2,(∀x∈Zcn o.op,evo st2 x=evo st x)->ZdC N (o.dst.getD 0) st2=true ->
    evOp P N T o st2 (Zcw ra.an i)=some (v0,cF,⟨st2.env,hins st2.heap (o.dst.getD 0) b⟩):=by
   obtain⟨dst,op,type,dS,after,guard⟩:=o;simp only at hr dB ck ⊢;cases op<;>simp only[ZNJ]at hr<;>try (cases hr;done)
   case alloc t0 _=>
    simp only[evOp]at bh;split at bh;rotate_left
    .cases bh
    rename_i te bF;split at bh;rotate_left
    .cases bh
    rename_i l hl;unfold ZpG at bh;split at bh;rotate_left
    .cases bh
    rename_i hq jZ;cases bh;refine⟨.box l,fun k=>ZGC hl k,hq,rfl,fun st2 he cy=>?_⟩;simp only[evOp,bF,hl];unfold ZpG;rw[cy,jZ];rfl
   case makeSlice t0 x y _=>
    simp only[Zfm]at dB;split at dB
    .cases dB
    rename_i hx;simp only[evOp]at bh;split at bh
    .rename_i hk;exact absurd hk (hx _ _)
    .cases bh
    obtain⟨b,h1,h2,h3,h4⟩:=ZEf bh;refine⟨b,h1,h2,h3,fun st2 he hq=>?_⟩;simp only[evOp];rw[he x (by simp[Zcn]),he y (by simp[Zcn])];exact h4 st2 hq
   case buildSlice t n ps _=>
    simp only[Zfm]at dB;split at dB;rotate_left
    .cases dB
    rename_i k c hka;simp only[evOp,hka]at bh;obtain⟨b,h1,h2,h3,h4⟩:=Zuh bh;refine⟨b,h1,h2,h3,fun st2 he hq=>?_⟩;simp only[evOp,hka];rw[Zrj (fun x hx=>he x (by simpa[Zcn]using hx))];exact h4 st2 hq
  obtain⟨b,h1,h2,h3,h4⟩:=fj;refine⟨b,h1,h2,h3,fun st2 hu hq=>?_⟩;unfold Zmk;rw[hg];simp only[h4 st2 (ZlK hu) hq,hd,fh,eK]
theorem ZiC{ra:RA}{i:Nat}{o:Oper}(h:Zcw ra.hc i=none):clsX ra i o=Zfm ra i o.op:=by unfold clsX;rw[h]
theorem Zuu{ra:RA}{i:Nat}{o:Oper}{ha:HA}(h:Zcw ra.hc i=some ha)(hc:clsX ra i o<=3):(ZgT o ha=true/\clsX ra i o=3)\/(ha.new=[]/\clsX ra i o=2/\Zcw ra.hc (i+1000)=none):=by
 unfold clsX at hc ⊢;rw[h]at hc ⊢;simp only at hc ⊢;split at hc
 .rename_i hs;exact .inl ⟨hs,rfl⟩
 .split at hc
  .omega
  .rename_i hk2;split at hc
   .rename_i hn;exact .inr ⟨hn,rfl,hk2⟩
   .omega
theorem ZtG{P:Program}{N:Nat}{T:Tab}{ops:Array Oper}{ra:RA}{i:Nat}{o:Oper}{ha:HA}{st st1:St}{v:V}{obl:List Prop}(hk:Zcw ra.hc i=some ha)(hs:ZgT o ha=true)(h:ZdD P N T ops ra i o st=some (v,obl,st1)) :
  ∃b:B,ZdC N (o.dst.getD 0) st=true/\st1=⟨st.env,hins st.heap (o.dst.getD 0) b⟩/\∀st2,(∀t∈ZfK ops o,st2.get t=st.get t)->st2.heap=st.heap->ZdC N (o.dst.getD 0) st2=true ->
   ZdD P N T ops ra i o st2=some (v,obl,⟨st2.env,st1.heap⟩):=by
 unfold ZdD at h ⊢;cases hk2:Zcw ra.hc (i+1000)with
 |none=>
  simp only[hk,hk2]at h ⊢;obtain⟨b,h1,h2,rfl,h4⟩:=ZFV hs h;refine⟨b,h2,rfl,fun st2 hu hh hq=>?_⟩;rw[h4 st2 hu hq,hh]
 |some x=>
  simp only[hk,hk2]at h ⊢;exact ZPe hs h
theorem ZfA{P:Program}{N:Nat}{T:Tab}{ops:Array Oper}{ra:RA}{i:Nat}{o:Oper}{st st1 st2:St}{v:V}{obl:List Prop}(hc:clsX ra i o<=3)(hu:∀t∈ZfK ops o,st2.get t=st.get t)
  (hh:clsX ra i o≠0->st2.heap=st.heap) (hq:clsX ra i o=3->ZdC N (o.dst.getD 0) st=true->ZdC N (o.dst.getD 0) st2=true) (h:ZdD P N T ops ra i o st=some (v,obl,st1)) :
  st1.env=st.env/\(clsX ra i o<=1->st1.heap=st.heap)/\ZdD P N T ops ra i o st2=some (v,obl,⟨st2.env,if clsX ra i o<=1 then st2.heap else st1.heap⟩):=by
 cases hk:Zcw ra.hc i with
 |none=>
  rw[ZiC hk]at *
  unfold ZdD at h ⊢;rw[hk]at h ⊢;exact ZDB hc hu hh hq h
 |some ha=>
  rcases Zuu hk hc with⟨hs,e3⟩|⟨hn,e3,hk2⟩
  .rw[e3]at hh hq ⊢;obtain⟨b,h2,rfl,h4⟩:=ZtG hk hs h;refine⟨rfl,fun h=>by omega,?_⟩;rw[h4 st2 hu (hh (by omega)) (hq rfl h2)];rfl
  .rw[e3]at hh hq ⊢;unfold ZdD at h ⊢;rw[hk]at h ⊢;simp only at h ⊢;rw[hk2]at h ⊢;simp only at h ⊢;obtain⟨h1,h2⟩:=ZPd hn h;refine⟨h1,fun h=>by omega,?_⟩;rw[h2 st2 hu (hh (by omega))];rfl
theorem ZkH{P:Program}{N:Nat}{T:Tab}{ops:Array Oper}{ra:RA}{i:Nat}{o:Oper}{st st1 st2:St}{v:V}{obl:List Prop}(hc:clsX ra i o=1)(hu:∀t∈ZfK ops o,st2.get t=st.get t)
  (hm:∀x∈Zcn o.op,Has st st2 fun id=>(evo st x).says id) (h:ZdD P N T ops ra i o st=some (v,obl,st1)):ZdD P N T ops ra i o st2=some (v,obl,st2):=by
 cases hk:Zcw ra.hc i with
 |none=>
  rw[ZiC hk]at *
  unfold ZdD at h ⊢;rw[hk]at h ⊢;exact ZHg hc hu hm h
 |some ha=>
  unfold clsX at hc;rw[hk]at hc;simp only at hc
  repeat' split at hc
  all_goals omega
theorem ZHh{P:Program}{N:Nat}{T:Tab}{ops:Array Oper}{ra:RA}{i:Nat}{o:Oper}{st st1:St}{v:V}{obl:List Prop}(hc:clsX ra i o=3)(h:ZdD P N T ops ra i o st=some (v,obl,st1)) :
  st1=st\/(ZdC N (o.dst.getD 0) st=true/\∀id b,hget st1.heap id=some b->id=o.dst.getD 0\/hget st.heap id=some b):=by
 cases hk:Zcw ra.hc i with
 |none=>
  rw[ZiC hk]at *
  unfold ZdD at h;rw[hk]at h;exact ZJw hc h
 |some ha=>
  obtain⟨hs,e3⟩ : ZgT o ha=true/\clsX ra i o=3:=(Zuu hk (Nat.le_of_eq hc)).resolve_right fun h=>by have:=h.2.1;omega
  obtain⟨b,h2,rfl,h4⟩:=ZtG hk hs h;refine .inr ⟨h2,fun id b' hb=>?_⟩;simp only[Zfb]at hb;split at hb
  .rename_i e;exact .inl e.symm
  .exact .inr hb
theorem ZzQ{P:Program}{N:Nat}{T:Tab}{ops:Array Oper}{ra:RA}{i:Nat}{o:Oper}{st st1:St}{v:V}{obl:List Prop}(hc:clsX ra i o=3)(hk:ZtJ ra i o=true)(h:ZdD P N T ops ra i o st=some (v,obl,st1)) :
  ∀id b,hget st.heap id=some b->hget st1.heap id=some b:=by
 unfold ZtJ at hk;cases hk':Zcw ra.hc i with
 |none=>
  rw[ZiC hk']at *
  unfold ZdD at h;rw[hk']at h hk;exact ZDC hc hk h
 |some ha=>
  obtain⟨hs,e3⟩ : ZgT o ha=true/\clsX ra i o=3:=(Zuu hk' (Nat.le_of_eq hc)).resolve_right fun h=>by have:=h.2.1;omega
  obtain⟨b,h2,rfl,h4⟩:=ZtG hk' hs h;intro id b' hb;simp only[Zfb];have:=(ZiD (ZcN h2).2).1;rw[if_neg (fun e=>by rw[e,hb]at this;cases this)];exact hb
def isMk(ra:RA)(i:Nat)(o:Oper):Bool:=match Zcw ra.hc i,Zcw ra.hc (i+1000),o.op with
 |some ha,some _,.call { callee:=.value (.func _),args:=_,argTypes:=_ }=>ZgT o ha
 |_,_,_=>false
theorem ZMR{P:Program}{N:Nat}{ops:Array Oper}{ha:HA}{an:Option Ans}{o:Oper}{g:FuncId}{args:Array Operand}{a9:Array TypeId}{st st1:St}{v:V}{obl:List Prop}(hs:ZgT o ha=true)
  (ce:o.op=.call { callee:=.value (.func g),args:=args,argTypes:=a9 }) (h:ZhT P N ops ha an o st=some (v,obl,st1)) :
  ∃b:B,(∀k,b.says k=false)/\ZdC N (o.dst.getD 0) st=true/\st1=⟨st.env,hins st.heap (o.dst.getD 0) b⟩/\∀st2,(∀t∈ZfK ops o,st2.get t=st.get t)->(∀x∈Zcn o.op,Has st st2 fun id=>(evo st x).says id)->ZdC N (o.dst.getD 0) st2=true ->
   ZhT P N ops ha an o st2=some (v,obl,⟨st2.env,hins st2.heap (o.dst.getD 0) b⟩):=by
 have bH:=hs;unfold ZgT at hs;split at hs;rotate_left
 .cases hs
 rename_i c d c' e sz len cc hl hn cq ck;simp only[Bool.and_eq_true]at hs;obtain⟨⟨e1,e2⟩,e3⟩:=hs;have e1:=Nat.eq_of_beq_eq_true e1;have e2:=Nat.eq_of_beq_eq_true e2;subst e2;obtain⟨lend,new,h1,res⟩:=ha;simp only at hl hn cq;subst hl hn cq;subst e1;have hg:∀st:St,ZgH ops st o=some true:=fun st=>by unfold ZgH;rw[ck]
 have kA:∀st,ZeE P N ops ⟨[],[(c,o.dst.getD 0)],[(c,.rows e sz len cc)],res⟩ an o st=ZgJ P N st (.value (.func g)) args.toList ⟨[],[(c,o.dst.getD 0)],[(c,.rows e sz len cc)],res⟩ an:=fun st=>by
  unfold ZeE;rw[hg];simp only[ce]
 have kB:∀st,ZhT P N ops ⟨[],[(c,o.dst.getD 0)],[(c,.rows e sz len cc)],res⟩ an o st=Zhm P N st (.value (.func g)) args.toList ⟨[],[(c,o.dst.getD 0)],[(c,.rows e sz len cc)],res⟩ an:=fun st=>by
  unfold ZhT;rw[hg];simp only[ce]
 rw[kB]at h;cases hE:ZgJ P N st (.value (.func g)) args.toList ⟨[],[(c,o.dst.getD 0)],[(c,.rows e sz len cc)],res⟩ an with
 |some r=>
  unfold Zhm at h;rw[hE]at h;simp only at h;cases h;obtain⟨b,q1,q2,q3,q4⟩:=ZFV bH ((kA st).trans hE);refine⟨b,q1,q2,q3,fun st2 hu hm hq=>?_⟩;rw[kB];exact Zuk ((kA st2).symm.trans (q4 st2 hu hq))
 |none=>
  unfold Zhm at h;rw[hE]at h;simp only at h;have hQ:∀hp,Zqn (gOut ⟨[],[(c,o.dst.getD 0)],[(c,.rows e sz len cc)],res⟩) [(c,.rows e sz len cc)]=some hp->hp=[(o.dst.getD 0,.rows e sz len cc)]:=fun hp cO=>by
   have:gOut ⟨[],[(c,o.dst.getD 0)],[(c,.rows e sz len cc)],res⟩ c=some (o.dst.getD 0):=by
    simp only[gOut,Zpb,Nat.beq_refl]
   simp only[Zqn,this,renB]at cO;exact(Option.some.inj cO).symm
  rw[ZoW rfl]at h;obtain⟨k0,n0,rfl⟩ : ∃k n,res=.one (.osl k n):=by
   unfold Zlb at h;simp only at h;split at h
   .exact⟨_,_,rfl⟩
   .cases h
  unfold Zlb at h;simp only at h;split at h;rotate_left
  .cases h
  rename_i g' a b om bA;split at h;rotate_left
  .cases h
  rename_i vs hp r ps ar df cO fZ bL;cases h;obtain rfl:=hQ _ cO;have hq:ZdC N (o.dst.getD 0) st=true:=by
   have bR:=ar;unfold okHA at bR;split at bR
   .rename_i q1 q2 q3 q4;exact List.all_eq_true.1 q4 _ (List.mem_cons_self)
   .cases bR
  refine⟨.rows e sz len cc,fun _=>rfl,hq,rfl,fun st2 hu hm cy=>?_⟩;have he:∀x∈Zcn (.call { callee:=.value (.func g),args:=args,argTypes:=a9 }),evo st2 x=evo st x:=fun x hx=>ZlK hu x (by rw[ce];exact hx);have dU:okHA N st2 ⟨[],[(c,o.dst.getD 0)],[(c,.rows e sz len cc)],.one (.osl k0 n0)⟩=true:=by
   have bR:=ar;unfold okHA at bR ⊢;split at bR
   .rename_i q1 q2 q3 q4;simp only at q1 q2 q3;simp only[q1,q2,q3,List.all_cons,List.all_nil,cy,Bool.and_true]
   .cases bR
  have j0:a=[]/\b=[]:=by
   simp only[ZjZ,ZjS,evo,V.ofVal]at bA
   first
    | (cases bA;exact⟨rfl,rfl⟩)
    | (simp at bA;exact⟨bA.2.1.symm,bA.2.2.1.symm⟩)
  obtain⟨rfl,rfl⟩:=j0;have bU:ZbS st2 args.toList [] []=ZbS st args.toList [] []:=Zih (fun x hx=>he x (ZnL x hx)) [] [];have hbm:borA st2 (ZbS st args.toList [] [])=some vs:=by
   refine Zuz (fun v hv=>?_) df;unfold ZbS at hv;simp only[List.map_nil,List.nil_append,List.append_nil,List.mem_map]at hv;obtain⟨x,hx,rfl⟩:=hv;exact hm x (by rw[ce];exact ZnL x hx)
  have j4:ZgJ P N st2 (.value (.func g)) args.toList ⟨[],[(c,o.dst.getD 0)],[(c,.rows e sz len cc)],.one (.osl k0 n0)⟩ an=none:=by
   cases j4:ZgJ P N st2 (.value (.func g)) args.toList ⟨[],[(c,o.dst.getD 0)],[(c,.rows e sz len cc)],.one (.osl k0 n0)⟩ an with
   |none=>rfl
   |some r2=>
    obtain⟨b2,_,_,_,q4⟩:=ZFV bH ((kA st2).trans j4);have:=q4 st (fun t ht=>(hu t ht).symm) hq;rw[kA,hE]at this;cases this
  rw[kB];unfold Zhm;rw[j4];simp only;rw[ZoW rfl];unfold Zlb;simp only;rw[Zjg he,bA];simp only[dU,bU,hbm,cO,fZ,bL];rfl
theorem ZzP{P:Program}{N:Nat}{T:Tab}{ops:Array Oper}{ra:RA}{i:Nat}{o:Oper}{st st1:St}{v:V}{obl:List Prop}(hs:(Zlj ra i o||isMk ra i o)=true)(h:ZdD P N T ops ra i o st=some (v,obl,st1)) :
  ∃b:B,(∀k,b.says k=false)/\ZdC N (o.dst.getD 0) st=true/\st1=⟨st.env,hins st.heap (o.dst.getD 0) b⟩/\∀st2,(∀t∈ZfK ops o,st2.get t=st.get t)->(∀x∈Zcn o.op,Has st st2 fun id=>(evo st x).says id)->ZdC N (o.dst.getD 0) st2=true ->
   ZdD P N T ops ra i o st2=some (v,obl,⟨st2.env,hins st2.heap (o.dst.getD 0) b⟩):=by
 rw[Bool.or_eq_true]at hs;rcases hs with hs|hs
 .obtain⟨b,h1,h2,h3,h4⟩:=ZlT hs h;exact⟨b,h1,h2,h3,fun st2 hu _ hq=>h4 st2 hu hq⟩
 .unfold isMk at hs;split at hs;rotate_left
  .cases hs
  rename_i ha y g args a9 hk hk2 ce;unfold ZdD at h ⊢;simp only[hk,hk2]at h ⊢;exact ZMR hs ce h
theorem ZFT{ra:RA}{i:Nat}{o:Oper}(hs:isMk ra i o=true):clsX ra i o=3:=by
 unfold isMk at hs;split at hs;rotate_left
 .cases hs
 rename_i ha y g args a9 hk hk2 ce;unfold clsX;rw[hk];simp only[hs]
theorem ZMQ{P:Program}{N:Nat}{ops:Array Oper}{c e:Nat}{b:B}{res:V}{an:Option Ans}{o:Oper}{st st1:St}{v:V}{obl:List Prop}(ck:o.guard=none)
  (h:ZeE P N ops ⟨[(c,e)],[],[(c,b)],res⟩ an o st=some (v,obl,st1)) :
  ∃b',renB (gOut ⟨[(c,e)],[],[(c,b)],res⟩) b=some b'/\st1=⟨st.env,hrep st.heap e b'⟩/\(∃b0 b1,hget st.heap e=some b0/\renB (bwd [(c,e)]) b0=some b1) /\
   ∀st2,(∀t∈ZfK ops o,st2.get t=st.get t)->hget st2.heap e=hget st.heap e->ZeE P N ops ⟨[(c,e)],[],[(c,b)],res⟩ an o st2=some (v,obl,⟨st2.env,hrep st2.heap e b'⟩):=by
 have hg:∀st:St,ZgH ops st o=some true:=fun st=>by unfold ZgH;rw[ck]
 unfold ZeE at h;rw[hg]at h;simp only at h;split at h;rotate_left
 .cases h
 rename_i f args a9 ce;unfold ZgJ at h;split at h;rotate_left
 .cases h
 rename_i g a b1 om bA;split at h;rotate_left
 .cases h
 rename_i h0 vs hp r ar hhi df cO hr;cases h;have dT:gOut ⟨[(c,e)],[],[(c,b)],res⟩ c=some e:=by simp only[gOut,Zpb,Nat.beq_refl]
 obtain⟨b',aN,rfl⟩ : ∃b',renB (gOut ⟨[(c,e)],[],[(c,b)],res⟩) b=some b'/\hp=[(e,b')]:=by
  simp only[Zqn,dT]at cO;split at cO
  .rename_i i0 b0 l0 q1 q2 q3;cases q1;cases q3;cases cO;exact⟨_,q2,rfl⟩
  .cases cO
 have fH:∀hh,ZzM [(e,b')] [(c,e)] hh=hrep hh e b':=fun hh=>by
  unfold ZzM;simp only[Ztm,Nat.beq_refl,Zvq]
 refine⟨b',aN,by rw[fH],?_,fun st2 hu hh=>?_⟩
 .simp only[hIn]at hhi;split at hhi
  .rename_i b0 hb0;split at hhi
   .rename_i b2 l2 q1 q2;exact⟨b0,b2,hb0,q1⟩
   .cases hhi
  .cases hhi
 .have he:∀x∈Zcn (.call { callee:=f,args:=args,argTypes:=a9 }),evo st2 x=evo st x:=fun x hx=>ZlK hu x (by rw[ce];exact hx);have dU:okHA N st2 ⟨[(c,e)],[],[(c,b)],res⟩=true:=ar;have gK:hIn (bwd [(c,e)]) st2.heap [(c,e)]=some h0:=by
   rw[ZBq (h:=st.heap) (fun p hp=>by
    rcases List.mem_singleton.1 hp with rfl;exact hh)]
   exact hhi
  unfold ZeE;rw[hg];simp only[ce];unfold ZgJ;rw[Zjg he,bA];simp only[dU,gK,Zih (fun x hx=>he x (ZnL x hx)) a b1,df,cO,hr,fH]
def plOf(ra:RA)(i:Nat)(o:Oper):Option Nat:=match Zcw ra.hc i,Zcw ra.hc (i+1000),o.guard with
 |some ⟨[(c,e)],[],[(c',_)],_⟩,none,none=>match Nat.beq c c' with
  |true=>some e
  |false=>none
 |_,_,_=>none
theorem ZmV{P:Program}{N:Nat}{T:Tab}{ops:Array Oper}{ra:RA}{i e:Nat}{o:Oper}{st st1:St}{v:V}{obl:List Prop}(hp:plOf ra i o=some e)(h:ZdD P N T ops ra i o st=some (v,obl,st1)) :
  ∃b':B,(∀d,d≠e->b'.says d=false)/\st1=⟨st.env,hrep st.heap e b'⟩/\(∀d b0,d≠e->hget st.heap e=some b0->b0.says d=false) /\
   ∀st2,(∀t∈ZfK ops o,st2.get t=st.get t)->hget st2.heap e=hget st.heap e->ZdD P N T ops ra i o st2=some (v,obl,⟨st2.env,hrep st2.heap e b'⟩):=by
 unfold plOf at hp;split at hp;rotate_left
 .cases hp
 rename_i c e0 c' b res hk hk2 ck;split at hp;rotate_left
 .cases hp
 rename_i cd;cases hp;obtain rfl:=Nat.eq_of_beq_eq_true cd;unfold ZdD at h ⊢;simp only[hk,hk2]at h ⊢;obtain⟨b',h1,h2,⟨b0,b1,h3,h4⟩,h5⟩:=ZMQ ck h;refine⟨b',fun d hd=>ZMf (fun k hk'=>?_) h1,h2,fun d b2 hd bk=>?_,h5⟩
 .simp only[gOut,Zpb]at hk';split at hk'
  .rename_i hq;split at hq
   .cases hq;cases hk';exact hd rfl
   .cases hq
  .cases hk'
 .rw[h3]at bk;cases bk;refine ZIU ?_ h4;simp only[bwd,List.map_cons,List.map_nil,Zpb];split
  .rename_i hq;exact absurd (Nat.eq_of_beq_eq_true hq).symm hd
  .rfl
structure Eqv (st st2:St):Prop where
 env:∀t,st2.get t=st.get t
 heap:st2.heap=st.heap
theorem Eqv.refl(st:St):Eqv st st:=⟨fun _=>rfl,rfl⟩
theorem Eqv.trans{a b c:St}(h:Eqv a b)(k:Eqv b c):Eqv a c:=⟨fun t=>(k.env t).trans (h.env t),k.heap.trans h.heap⟩
theorem Zvy{st st2:St}{d:Nat}(h:∀t,st2.get t=st.get t):∀n,Zid st2 d n=Zid st d n
 | 0=>rfl
 |n+1=>by simp only[Zid,h n,Zvy h n]
theorem ZzJ{st st2:St}(h:Eqv st st2)(N d:Nat):ZdC N d st2=ZdC N d st:=by
 unfold ZdC;rw[Zvy h.env,h.heap]
theorem ZcI.eqv{N:Nat}{S0:Nat->Prop}{w0:ZeC}{st st2:St}{a:Act}{w:World}(h:ZcI N S0 w0 st a w)(he:Eqv st st2):ZcI N S0 w0 st2 a w:=
 h.le (N:=N) ⟨fun t=>.inl (he.env t),fun id b hb=>by rw[<-he.heap];exact hb⟩
theorem ZMw{N:Nat}{st st2:St}(he:Eqv st st2)(ha:HA):okHA N st2 ha=okHA N st ha:=by
 unfold okHA;rw[show (fun p:Nat×Nat=>ZdC N p.2 st2)=fun p=>ZdC N p.2 st from funext fun p=>ZzJ he N p.2]
theorem ZHi{P:Program}{N:Nat}{T:Tab}{ops:Array Oper}{ra:RA}{i:Nat}{o:Oper}{st st1 st2:St}{v:V}{obl:List Prop}(hc:Zxb ra i o=true)(he:Eqv st st2)(h:ZdD P N T ops ra i o st=some (v,obl,st1)) :
  ∃hp,ZdD P N T ops ra i o st2=some (v,obl,⟨st2.env,hp⟩)/\hp=st1.heap:=by
 by_cases hc3:clsX ra i o<=3
 .obtain⟨e1,h1,fZ⟩:=ZfA (st2:=st2) hc3 (fun t _=>he.env t) (fun _=>he.heap) (fun _ hq=>by rw[ZzJ he];exact hq) h;refine⟨_,fZ,?_⟩;split
  .rename_i gy;rw[h1 gy];exact he.heap
  .rfl
 .cases hk:Zcw ra.hc i with
  |none=>
   exfalso;unfold Zxb at hc;rw[ZiC hk]at hc3;rw[hk]at hc;exact hc3 (Nat.le_of_ble_eq_true hc)
  |some ha=>
   have hk2:Zcw ra.hc (i+1000)=none:=by
    cases hk2:Zcw ra.hc (i+1000)with
    |none=>rfl
    |some x=>
     exfalso;unfold Zxb at hc;rw[hk]at hc;simp only[hk2]at hc;apply hc3;unfold clsX;rw[hk];simp only[hc];omega
   unfold ZdD at h ⊢;rw[hk]at h ⊢;simp only at h ⊢;rw[hk2]at h ⊢;simp only at h ⊢;unfold ZeE at h ⊢;rw[Zll (o:=o) (ops:=ops) (fun t _=>he.env t)];split at h
   .split at h
    .rename_i c args a9 ce;have bh:∀x,evo st2 x=evo st x:=fun x=>by
      cases x with
      |tmp t=>exact he.env t
      |const v=>rfl
      |func f=>rfl
      |global g=>rfl
     unfold ZgJ at h ⊢;rw[Zjg (args:=args) (a9:=a9) (fun x _=>bh x)];split at h;rotate_left
     .cases h
     rename_i g a b om bA;rw[Zih (fun x _=>bh x) a b,ZMw he,he.heap];split at h;rotate_left
     .cases h
     rename_i h0 vs hp r q1 q2 q3 q4 q5;cases h;simp only[q1,q2,q3,q4,q5];exact⟨_,rfl,rfl⟩
    .cases h
   .cases h;exact⟨_,rfl,he.heap⟩
   .cases h
def Zrn(ra:RA):Nat->List Oper->List (Nat×Nat)
 |_,[]=>[]
 |i,o :: r=>match Nat.beq (clsX ra i o) 3 with
  |true=>(i,o.dst.getD 0) :: Zrn ra (i+1) r
  |false=>Zrn ra (i+1) r
def ZfQ(ag:List (List Nat))(i:Nat):List Nat:=ag.getD i []
def memN(k:Nat):List Nat->Bool
 | []=>false
 |x :: l=>match Nat.beq x k with
  |true=>true
  |false=>memN k l
theorem Zqb{k:Nat}:∀{l:List Nat},memN k l=true↔k∈l
 | []=>by simp[memN]
 |x :: l=>by
  simp only[memN]
  split
  .rename_i h
   simp[ZaH h]
  .rename_i h
   have:=Nat.ne_of_beq_eq_false h
   rw[Zqb]
   simp[Ne.symm this]
def chk(ni:List (Nat×Nat))(ps:List Nat)(i:Nat)(v:V):Bool:=ni.all fun p=>Nat.beq p.1 i||memN p.1 ps || !(v.says p.2)
section
variable (P:Program) (N:Nat) (T:Tab) (ops:Array Oper) (ra:RA) (ag:List (List Nat)) (ni:List (Nat × Nat))
def bxOk(l:List Nat)(st:St)(op:Op):Bool:=match l with
 | []=>true
 |c :: _=>match op with
  | .load _ x=>match evo st x with
   | .one (.ptr d _)=>Nat.beq d c
   | .one (.rp _ _ _)=>Nat.beq 99998 c
   |_=>false
  | .store _ x _=>match evo st x with
   | .one (.ptr d _)=>Nat.beq d c
   |_=>false
  |_=>false
def Zfu(i:Nat)(st:St):Option (St×List Prop):=match ops[i]? with
 |none=>none
 |some o=>match bxOk (ZfQ ag (ops.size+i)) st o.op with
  |false=>none
  |true=>match ZdD P N T ops ra i o st with
   |none=>none
   |some (v,obl,st')=>match chk ni (ZfQ ag i) i v with
    |false=>none
    |true=>match putO N st' o.dst v with
     |none=>none
     |some st''=>some (st'',obl)
def ZsD:List Nat->St->Option (St×List Prop)
 | [],st=>some (st,[])
 |i :: l,st=>match Zfu P N T ops ra ag ni i st with
  |none=>none
  |some (st1,o1)=>match ZsD l st1 with
   |none=>none
   |some (st2,o2)=>some (st2,o1++o2)
def disj(x:Option Nat)(l:List Nat):Bool:=match x with
 |none=>true
 |some d=>!(memN d l)
def ZnF(x y:Option Nat):Bool:=match x,y with
 |some a,some b=>!(Nat.beq a b)
 |_,_=>true
def ZNP(k i:Nat):Bool:=match ops[k]?,ops[i]? with
 |some a,some b=>disj a.dst (ZfK ops b)&&disj b.dst (ZfK ops a)&&ZnF a.dst b.dst &&
   ((Nat.ble (clsX ra k a) 1&&Nat.ble (clsX ra i b) 1)||(Nat.beq (clsX ra k a) 0&&Nat.ble (clsX ra i b) 3)||(Nat.beq (clsX ra i b) 0&&Nat.ble (clsX ra k a) 3)||(Nat.beq (clsX ra k a) 3&&Nat.beq (clsX ra i b) 1&&(ZfK ops b).all fun t=>Nat.blt t N)||(Nat.beq (clsX ra k a) 1&&Nat.beq (clsX ra i b) 3&&ZtJ ra i b)||(Zlj ra k a&&Zlj ra i b)||((Zlj ra k a||isMk ra k a)&&(Zlj ra i b||isMk ra i b)&&(ZfK ops b).all fun t=>Nat.blt t N))
 |_,_=>false
def isLd:Op->Bool | .load _ _=>true|_=>false
def isSt:Op->Bool | .store _ _ _=>true|_=>false
def ZPc(i:Nat):Op->Bool
 | .call { callee:=.builtin .append,.. }=>match Zcw ra.an i with
  |some (.c _ _)=>true
  |_=>false
 |_=>false
def okLS(k i:Nat):Bool:=match ops[k]?,ops[i]?,ZfQ ag (ops.size+k),ZfQ ag (ops.size+i)with
 |some a,some b,c :: _,d :: _=>disj a.dst (ZfK ops b)&&disj b.dst (ZfK ops a)&&ZnF a.dst b.dst&&isLd a.op&&isSt b.op&&(Zcw ra.hc k).isNone&&(Zcw ra.hc i).isNone && !(Nat.beq c d)
 |_,_,_,_=>false
def okLC(k i:Nat):Bool:=match ops[k]?,ops[i]? with
 |some a,some b=>disj a.dst (ZfK ops b)&&disj b.dst (ZfK ops a)&&ZnF a.dst b.dst&&(match plOf ra k a,plOf ra i b with
  |some e,none=>(Zlj ra i b && !(Nat.beq (b.dst.getD 0) e))||(isLd b.op&&(Zcw ra.hc i).isNone&&match ZfQ ag (ops.size+i)with
   |c :: _=>!(Nat.beq c e)
   | []=>false)
  |none,some e=>(Zlj ra k a && !(Nat.beq (a.dst.getD 0) e))||(isLd a.op&&(Zcw ra.hc k).isNone&&match ZfQ ag (ops.size+k)with
   |c :: _=>!(Nat.beq c e)
   | []=>false)
  |_,_=>false)
 |_,_=>false
def ZwC:Operand->Operand->Bool | .tmp a,.tmp b=>Nat.beq a b|_,_=>false
def okLM(k i:Nat):Bool:=match ops[k]?,ops[i]? with
 |some a,some b=>match a.op,b.op with
  | .lookup t x y false,.mapEntry t' x' y'=>Nat.beq t t'&&ZwC x x'&&ZwC y y'&&disj a.dst (ZfK ops b)&&disj b.dst (ZfK ops a)&&ZnF a.dst b.dst&&a.guard.isNone&&b.guard.isNone &&
    (Zcw ra.hc k).isNone&&(Zcw ra.hc i).isNone&&(Zcw ra.bl k).isNone&&(Zcw ra.bl i).isNone&&(kdn ra.dn k).isEmpty&&(kdn ra.dn i).isEmpty&&(Zcw ra.rl k).isNone&&(Zcw ra.rl i).isNone
  |_,_=>false
 |_,_=>false
def okLA(k i:Nat):Bool:=match ops[k]?,ops[i]?,ZfQ ag (ops.size+k)with
 |some a,some b,c :: _=>disj a.dst (ZfK ops b)&&disj b.dst (ZfK ops a)&&ZnF a.dst b.dst&&isLd a.op&&ZPc ra i b.op&&a.guard.isNone&&(Zcw ra.hc k).isNone&&(Zcw ra.hc i).isNone && !(Nat.beq c 99998)
 |_,_,_=>false
def ZDD(k i:Nat):Bool:=ZNP N ops ra k i||okLS ops ra ag k i||okLC ops ra ag k i||okLA ops ra ag k i
def Zsf(k i:Nat):Bool:=ZDD N ops ra ag k i||okLM ops ra k i
end
theorem ZaB{N:Nat}{st st':St}{dst:Option Nat}{v:V}(h:putO N st dst v=some st')(t:Nat):st'.get t=(if dst=some t then v else st.get t)/\st'.heap=st.heap:=by
 unfold putO at h;split at h
 .cases h;simp
 .split at h
  .cases h;rename_i d _ _;refine⟨?_,rfl⟩;rw[St.get_put];by_cases e:d=t
   .subst e;simp
   .rw[if_neg e,if_neg (by simpa using e)]
  .cases h
theorem Zeh{N:Nat}{st st' st2:St}{dst:Option Nat}{v:V}(h:putO N st dst v=some st'):∃aL,putO N st2 dst v=some aL:=by
 cases dst with
 |none=>exact⟨_,rfl⟩
 |some d=>
  unfold putO at h ⊢;cases hb:Nat.blt d N with
  |true=>simp only[hb];exact⟨_,rfl⟩
  |false=>simp only[hb]at h;cases h
theorem Zbd{x:Option Nat}{l:List Nat}(h:disj x l=true){t:Nat}(ht:t∈l):x≠some t:=by
 rintro rfl;simp only[disj,Bool.not_eq_true']at h;rw[<-Bool.not_eq_true,Zqb]at h;exact h ht
section
variable {P:Program} {N:Nat} {T:Tab} {ops:Array Oper} {ra:RA} {ag:List (List Nat)} {ni:List (Nat × Nat)}
theorem Zdp{i:Nat}{st st':St}{obl:List Prop}(h:Zfu P N T ops ra ag ni i st=some (st',obl)):∃o v st1,ops[i]?=some o/\ZdD P N T ops ra i o st=some (v,obl,st1)/\chk ni (ZfQ ag i) i v=true/\putO N st1 o.dst v=some st':=by
 unfold Zfu at h;split at h
 .cases h
 rename_i o ho;split at h
 .cases h
 split at h
 .cases h
 rename_i v iC st1 hr;split at h
 .cases h
 rename_i hc;split at h
 .cases h
 rename_i st2 hp;cases h;exact⟨o,v,st1,ho,hr,hc,hp⟩
theorem ZdZ{i:Nat}{st st':St}{obl:List Prop}(h:Zfu P N T ops ra ag ni i st=some (st',obl)){o:Oper}(ho:ops[i]?=some o):bxOk (ZfQ ag (ops.size+i)) st o.op=true:=by
 unfold Zfu at h;rw[ho]at h;simp only at h;split at h
 .cases h
 .assumption
theorem Zej{st st2:St}{o:Oper}(l:List Nat)(h:∀t∈ZfK ops o,st2.get t=st.get t):bxOk l st2 o.op=bxOk l st o.op:=by
 have he:=ZlK h;unfold bxOk;cases l with
 |nil=>rfl
 |cons c l=>
  obtain⟨dst,op,type,dS,after,guard⟩:=o;simp only at he ⊢;cases op<;>simp only[Zcn]at he ⊢
  case load t x=>rw[he x (by simp)]
  case store t x y=>rw[he x (by simp)]
theorem Zft{i:Nat}{st st1 st':St}{o:Oper}{v:V}{obl:List Prop}(ho:ops[i]?=some o)(hbx:bxOk (ZfQ ag (ops.size+i)) st o.op=true)(hr:ZdD P N T ops ra i o st=some (v,obl,st1))(hc:chk ni (ZfQ ag i) i v=true)(hp:putO N st1 o.dst v=some st'):Zfu P N T ops ra ag ni i st=some (st',obl):=by
 unfold Zfu;simp only[ho,hbx,hr,hc,hp]
theorem Zqj{ps:List Nat}{i k d:Nat}{v:V}(h:chk ni ps i v=true)(hk:(k,d)∈ni)(hne:k≠i)(hp:k ∉ ps):v.says d=false:=by
 have:=List.all_eq_true.1 h _ hk;simp only[Bool.or_eq_true,Bool.not_eq_true']at this;rcases this with (h1|h1)|h1
 .exact absurd (ZaH h1) hne
 .exact absurd (Zqb.1 h1) hp
 .exact h1
theorem ZzK{st:St}{d:Nat}(hd:d<Zpq):∀{n:Nat},(∀t,t<n->(st.get t).says d=false)->Zid st d n=true
 | 0,_=>Nat.ble_eq_true_of_le hd
 |n+1,h=>by
  simp only[Zid,h n (by omega)]
  exact ZzK hd fun t ht=>h t (by omega)
theorem ZkD{st st1 st':St}{dst:Option Nat}{v:V}{d:Nat}(hq:Zid st d N=true)(he:∀t,st1.get t=st.get t)(hv:v.says d=false)(hp:putO N st1 dst v=some st'):Zid st' d N=true:=
 ZzK (Ztv hq) fun t ht=>by
  rw[(ZaB hp t).1]
  split
  .exact hv
  .rw[he t];exact Zpo hq t ht
theorem Zjd{st st1:St}(h:st1.env=st.env)(t:Nat):st1.get t=st.get t:=by unfold St.get;rw[h]
theorem Zlz{st:St}{d:Nat}(h1:Zid st d N=true)(h2:ZhS d st.heap=true):ZdC N d st=true:=by unfold ZdC;rw[h1];exact h2
def ZCv(ops:Array Oper)(ra:RA)(ni:List (Nat×Nat)):Prop:=∀i o,ops[i]?=some o->clsX ra i o=3->(i,o.dst.getD 0)∈ni
theorem ZlO{ra:RA}{i:Nat}{o:Oper}(h:Zlj ra i o=true):clsX ra i o=3:=by
 unfold Zlj at h;unfold clsX;split at h
 .rename_i ha hk;rw[hk];split at h
  .simp only[h]
  .cases h
 .rename_i hk;rw[hk];simp only;split at h
  .simp only[Bool.and_eq_true]at h;exact Nat.eq_of_beq_eq_true h.2
  .cases h
theorem ZDc(dv:ZCv ops ra ni){k i:Nat}{a b:Oper}(ha:ops[k]?=some a)(hb:ops[i]?=some b)(d1:disj a.dst (ZfK ops b)=true)(d2:disj b.dst (ZfK ops a)=true)(d3:ZnF a.dst b.dst=true)(dV:Zlj ra k a=true)(eO:Zlj ra i b=true)
  (hne:k≠i) (hki:k ∉ ZfQ ag i) {st st1 st2:St} {o1 o2:List Prop} (h1:Zfu P N T ops ra ag ni k st=some (st1,o1)) (h2:Zfu P N T ops ra ag ni i st1=some (st2,o2))
  (hJ:∀o,ops[i]?=some o->clsX ra i o=3->Zid st (o.dst.getD 0) N=true) :
  ∃ah aL,Zfu P N T ops ra ag ni i st=some (ah,o2)/\Zfu P N T ops ra ag ni k ah=some (aL,o1)/\Eqv aL st2:=by
 obtain⟨a',va,sa,cr,hra,bU,bi⟩:=Zdp h1;obtain⟨b',vb,sb,aN,bj,cH,bu⟩:=Zdp h2;rw[ha]at cr;cases cr;rw[hb]at aN;cases aN;obtain⟨ba,jo,gn,rfl,f5⟩:=ZlT dV hra;obtain⟨bb,gL,gM,rfl,f8⟩:=ZlT eO bj;have bE:st1.heap=hins st.heap (a.dst.getD 0) ba:=(ZaB bi 0).2;have g1:∀t,a.dst≠some t->st1.get t=st.get t:=fun t ht=>by rw[(ZaB bi t).1,if_neg ht];rfl
 have j5:hget st.heap (a.dst.getD 0)=none:=(ZiD (ZcN gn).2).1;have gE:hget st1.heap (b.dst.getD 0)=none:=(ZiD (ZcN gM).2).1;have fk:b.dst.getD 0≠a.dst.getD 0:=by
  intro e;rw[bE,e,Zfb,if_pos rfl]at gE;cases gE
 have hU:ZdC N (b.dst.getD 0) st=true:=by
  refine Zlz (hJ b hb (ZlO eO)) ?_;have:=(ZcN gM).2;rw[bE]at this;exact Zne j5 this
 have bB:=f8 st (fun t ht=>(g1 t (Zbd d1 ht)).symm) hU;obtain⟨ah,aT⟩:=Zeh (st2:=⟨st.env,hins st.heap (b.dst.getD 0) bb⟩) bu;have g2:∀t,b.dst≠some t->ah.get t=st.get t:=fun t ht=>by rw[(ZaB aT t).1,if_neg ht];rfl
 have bc:ah.heap=hins st.heap (b.dst.getD 0) bb:=(ZaB aT 0).2;have fL:ZdC N (a.dst.getD 0) ah=true:=by
  obtain⟨q1,q2⟩:=ZcN gn;refine Zlz (ZkD (st1:=⟨st.env,hins st.heap (b.dst.getD 0) bb⟩) q1 (fun t=>rfl) (Zqj cH (dv k a ha (ZlO dV)) hne hki) aT) ?_;rw[bc];exact Zty fk (gL _) q2
 have bJ:=f5 ah (fun t ht=>g2 t (Zbd d2 ht)) fL;obtain⟨aL,a4⟩:=Zeh (st2:=⟨ah.env,hins ah.heap (a.dst.getD 0) ba⟩) bi;have xb:bxOk (ZfQ ag (ops.size+i)) st b.op=true:=by rw[Zej (st:=st1) _ (fun t ht=>(g1 t (Zbd d1 ht)).symm)];exact ZdZ h2 hb
 have xa:bxOk (ZfQ ag (ops.size+k)) ah a.op=true:=by rw[Zej (st:=st) _ (fun t ht=>g2 t (Zbd d2 ht))];exact ZdZ h1 ha
 refine⟨ah,aL,Zft hb xb bB cH aT,Zft ha xa bJ bU a4,⟨fun t=>?_,?_⟩⟩
 .rw[(ZaB bu t).1,(ZaB a4 t).1];have hd:¬(a.dst=some t/\b.dst=some t):=by
   rintro ⟨e1,e2⟩;rw[e1,e2]at d3;simp[ZnF]at d3
  by_cases e1:a.dst=some t
  .rw[if_pos e1,if_neg (fun e2=>hd ⟨e1,e2⟩)];show (⟨st1.env,_⟩ : St).get t=_;rw[show (⟨st1.env,hins st1.heap (b.dst.getD 0) bb⟩ : St).get t=st1.get t from rfl,(ZaB bi t).1,if_pos e1]
  .rw[if_neg e1];have e3:(⟨ah.env,hins ah.heap (a.dst.getD 0) ba⟩ : St).get t=ah.get t:=rfl;rw[e3,(ZaB aT t).1];split
   .rfl
   .rw[show (⟨st1.env,hins st1.heap (b.dst.getD 0) bb⟩ : St).get t=st1.get t from rfl,g1 t e1];rfl
 .rw[(ZaB bu 0).2,(ZaB a4 0).2,bE,bc];exact ZBh (a.dst.getD 0) (b.dst.getD 0) ba bb (Ne.symm fk) st.heap
theorem ZDd(dv:ZCv ops ra ni){k i:Nat}{a b:Oper}(ha:ops[k]?=some a)(hb:ops[i]?=some b)(d1:disj a.dst (ZfK ops b)=true)(d2:disj b.dst (ZfK ops a)=true)(d3:ZnF a.dst b.dst=true)(dV:(Zlj ra k a||isMk ra k a)=true)(eO:(Zlj ra i b||isMk ra i b)=true)(hbN:∀t∈ZfK ops b,t<N)
  (hne:k≠i) (hki:k ∉ ZfQ ag i) {st st1 st2:St} {o1 o2:List Prop} (h1:Zfu P N T ops ra ag ni k st=some (st1,o1)) (h2:Zfu P N T ops ra ag ni i st1=some (st2,o2))
  (hJ:∀o,ops[i]?=some o->clsX ra i o=3->Zid st (o.dst.getD 0) N=true) :
  ∃ah aL,Zfu P N T ops ra ag ni i st=some (ah,o2)/\Zfu P N T ops ra ag ni k ah=some (aL,o1)/\Eqv aL st2:=by
 obtain⟨a',va,sa,cr,hra,bU,bi⟩:=Zdp h1;obtain⟨b',vb,sb,aN,bj,cH,bu⟩:=Zdp h2;rw[ha]at cr;cases cr;rw[hb]at aN;cases aN;have ca:clsX ra k a=3:=by
  rw[Bool.or_eq_true]at dV;exact dV.elim ZlO ZFT
 have cb:clsX ra i b=3:=by
  rw[Bool.or_eq_true]at eO;exact eO.elim ZlO ZFT
 obtain⟨ba,jo,gn,rfl,f5⟩:=ZzP dV hra;obtain⟨bb,gL,gM,rfl,f8⟩:=ZzP eO bj;have bE:st1.heap=hins st.heap (a.dst.getD 0) ba:=(ZaB bi 0).2;have g1:∀t,a.dst≠some t->st1.get t=st.get t:=fun t ht=>by rw[(ZaB bi t).1,if_neg ht];rfl
 have j5:hget st.heap (a.dst.getD 0)=none:=(ZiD (ZcN gn).2).1;have gE:hget st1.heap (b.dst.getD 0)=none:=(ZiD (ZcN gM).2).1;have fk:b.dst.getD 0≠a.dst.getD 0:=by
  intro e;rw[bE,e,Zfb,if_pos rfl]at gE;cases gE
 have hU:ZdC N (b.dst.getD 0) st=true:=by
  refine Zlz (hJ b hb cb) ?_;have:=(ZcN gM).2;rw[bE]at this;exact Zne j5 this
 have bB:=f8 st (fun t ht=>(g1 t (Zbd d1 ht)).symm) (fun x dC id bb cY aN=>by
  rw[bE,Zfb]at aN;split at aN
  .rename_i e;exfalso;have:(evo st1 x).says (a.dst.getD 0)=false:=by
    cases x with
    |tmp t=>
     have ht:t∈ZfK ops b:=List.mem_append.2 (.inl (ZpO dC));show (st1.get t).says _=false;rw[g1 t (Zbd d1 ht)];exact Zpo (ZcN gn).1 t (hbN t ht)
    |const v=>exact ZvC v _
    |func f=>rfl
    |global g=>rfl
   rw[e]at this;simp only[this]at cY;cases cY
  .exact aN) hU
 obtain⟨ah,aT⟩:=Zeh (st2:=⟨st.env,hins st.heap (b.dst.getD 0) bb⟩) bu;have g2:∀t,b.dst≠some t->ah.get t=st.get t:=fun t ht=>by rw[(ZaB aT t).1,if_neg ht];rfl
 have bc:ah.heap=hins st.heap (b.dst.getD 0) bb:=(ZaB aT 0).2;have fL:ZdC N (a.dst.getD 0) ah=true:=by
  obtain⟨q1,q2⟩:=ZcN gn;refine Zlz (ZkD (st1:=⟨st.env,hins st.heap (b.dst.getD 0) bb⟩) q1 (fun t=>rfl) (Zqj cH (dv k a ha ca) hne hki) aT) ?_;rw[bc];exact Zty fk (gL _) q2
 have bJ:=f5 ah (fun t ht=>g2 t (Zbd d2 ht)) (fun x dC id bb' cY aN=>by
  rw[bc,Zfb];split
  .rename_i e;exfalso;have gN:=(ZiD (ZcN hU).2).1;rw[e]at gN;rw[aN]at gN;cases gN
  .exact aN) fL
 obtain⟨aL,a4⟩:=Zeh (st2:=⟨ah.env,hins ah.heap (a.dst.getD 0) ba⟩) bi;have xb:bxOk (ZfQ ag (ops.size+i)) st b.op=true:=by rw[Zej (st:=st1) _ (fun t ht=>(g1 t (Zbd d1 ht)).symm)];exact ZdZ h2 hb
 have xa:bxOk (ZfQ ag (ops.size+k)) ah a.op=true:=by rw[Zej (st:=st) _ (fun t ht=>g2 t (Zbd d2 ht))];exact ZdZ h1 ha
 refine⟨ah,aL,Zft hb xb bB cH aT,Zft ha xa bJ bU a4,⟨fun t=>?_,?_⟩⟩
 .rw[(ZaB bu t).1,(ZaB a4 t).1];have hd:¬(a.dst=some t/\b.dst=some t):=by
   rintro ⟨e1,e2⟩;rw[e1,e2]at d3;simp[ZnF]at d3
  by_cases e1:a.dst=some t
  .rw[if_pos e1,if_neg (fun e2=>hd ⟨e1,e2⟩)];show (⟨st1.env,_⟩ : St).get t=_;rw[show (⟨st1.env,hins st1.heap (b.dst.getD 0) bb⟩ : St).get t=st1.get t from rfl,(ZaB bi t).1,if_pos e1]
  .rw[if_neg e1];have e3:(⟨ah.env,hins ah.heap (a.dst.getD 0) ba⟩ : St).get t=ah.get t:=rfl;rw[e3,(ZaB aT t).1];split
   .rfl
   .rw[show (⟨st1.env,hins st1.heap (b.dst.getD 0) bb⟩ : St).get t=st1.get t from rfl,g1 t e1];rfl
 .rw[(ZaB bu 0).2,(ZaB a4 0).2,bE,bc];exact ZBh (a.dst.getD 0) (b.dst.getD 0) ba bb (Ne.symm fk) st.heap
theorem Zzo(dv:ZCv ops ra ni){k i e:Nat}{a b:Oper}(ha:ops[k]?=some a)(hb:ops[i]?=some b)(d1:disj a.dst (ZfK ops b)=true)(d2:disj b.dst (ZfK ops a)=true)(d3:ZnF a.dst b.dst=true)(dV:plOf ra k a=some e)(eO:Zlj ra i b=true)(gp:b.dst.getD 0≠e)
  {st st1 st2:St} {o1 o2:List Prop} (h1:Zfu P N T ops ra ag ni k st=some (st1,o1)) (h2:Zfu P N T ops ra ag ni i st1=some (st2,o2))
  (hJ:∀o,ops[i]?=some o->clsX ra i o=3->Zid st (o.dst.getD 0) N=true) :
  ∃ah aL,Zfu P N T ops ra ag ni i st=some (ah,o2)/\Zfu P N T ops ra ag ni k ah=some (aL,o1)/\Eqv aL st2:=by
 obtain⟨a',va,sa,cr,hra,bU,bi⟩:=Zdp h1;obtain⟨b',vb,sb,aN,bj,cH,bu⟩:=Zdp h2;rw[ha]at cr;cases cr;rw[hb]at aN;cases aN;obtain⟨ba,jo,rfl,sa3,f5⟩:=ZmV dV hra;obtain⟨bb,gL,gM,rfl,f8⟩:=ZlT eO bj;have bE:st1.heap=hrep st.heap e ba:=(ZaB bi 0).2;have g1:∀t,a.dst≠some t->st1.get t=st.get t:=fun t ht=>by rw[(ZaB bi t).1,if_neg ht];rfl
 have hU:ZdC N (b.dst.getD 0) st=true:=by
  refine Zlz (hJ b hb (ZlO eO)) ?_;have:=(ZcN gM).2;rw[bE]at this;exact Zqt (Ne.symm gp) (fun b0 h0=>sa3 _ b0 gp h0) this
 have bB:=f8 st (fun t ht=>(g1 t (Zbd d1 ht)).symm) hU;obtain⟨ah,aT⟩:=Zeh (st2:=⟨st.env,hins st.heap (b.dst.getD 0) bb⟩) bu;have g2:∀t,b.dst≠some t->ah.get t=st.get t:=fun t ht=>by rw[(ZaB aT t).1,if_neg ht];rfl
 have bc:ah.heap=hins st.heap (b.dst.getD 0) bb:=(ZaB aT 0).2;have bJ:=f5 ah (fun t ht=>g2 t (Zbd d2 ht)) (by rw[bc,Zfb,if_neg gp]);obtain⟨aL,a4⟩:=Zeh (st2:=⟨ah.env,hrep ah.heap e ba⟩) bi;have xb:bxOk (ZfQ ag (ops.size+i)) st b.op=true:=by rw[Zej (st:=st1) _ (fun t ht=>(g1 t (Zbd d1 ht)).symm)];exact ZdZ h2 hb
 have xa:bxOk (ZfQ ag (ops.size+k)) ah a.op=true:=by rw[Zej (st:=st) _ (fun t ht=>g2 t (Zbd d2 ht))];exact ZdZ h1 ha
 refine⟨ah,aL,Zft hb xb bB cH aT,Zft ha xa bJ bU a4,⟨fun t=>?_,?_⟩⟩
 .rw[(ZaB bu t).1,(ZaB a4 t).1];have hd:¬(a.dst=some t/\b.dst=some t):=by
   rintro ⟨e1,e2⟩;rw[e1,e2]at d3;simp[ZnF]at d3
  by_cases e1:a.dst=some t
  .rw[if_pos e1,if_neg (fun e2=>hd ⟨e1,e2⟩)];show (⟨st1.env,_⟩ : St).get t=_;rw[show (⟨st1.env,hins st1.heap (b.dst.getD 0) bb⟩ : St).get t=st1.get t from rfl,(ZaB bi t).1,if_pos e1]
  .rw[if_neg e1];have e3:(⟨ah.env,hrep ah.heap e ba⟩ : St).get t=ah.get t:=rfl;rw[e3,(ZaB aT t).1];split
   .rfl
   .rw[show (⟨st1.env,hins st1.heap (b.dst.getD 0) bb⟩ : St).get t=st1.get t from rfl,g1 t e1];rfl
 .rw[(ZaB bu 0).2,(ZaB a4 0).2];simp only;rw[bE,bc,ZBg gp]
theorem Zzn(dv:ZCv ops ra ni){k i e:Nat}{a b:Oper}(ha:ops[k]?=some a)(hb:ops[i]?=some b)(d1:disj a.dst (ZfK ops b)=true)(d2:disj b.dst (ZfK ops a)=true)(d3:ZnF a.dst b.dst=true)(dV:Zlj ra k a=true)(eO:plOf ra i b=some e)(gp:a.dst.getD 0≠e)
  (hne:k≠i) (hki:k ∉ ZfQ ag i) {st st1 st2:St} {o1 o2:List Prop} (h1:Zfu P N T ops ra ag ni k st=some (st1,o1)) (h2:Zfu P N T ops ra ag ni i st1=some (st2,o2)) :
  ∃ah aL,Zfu P N T ops ra ag ni i st=some (ah,o2)/\Zfu P N T ops ra ag ni k ah=some (aL,o1)/\Eqv aL st2:=by
 obtain⟨a',va,sa,cr,hra,bU,bi⟩:=Zdp h1;obtain⟨b',vb,sb,aN,bj,cH,bu⟩:=Zdp h2;rw[ha]at cr;cases cr;rw[hb]at aN;cases aN;obtain⟨ba,jo,gn,rfl,f5⟩:=ZlT dV hra;obtain⟨bb,gL,rfl,sb3,f8⟩:=ZmV eO bj;have bE:st1.heap=hins st.heap (a.dst.getD 0) ba:=(ZaB bi 0).2;have g1:∀t,a.dst≠some t->st1.get t=st.get t:=fun t ht=>by rw[(ZaB bi t).1,if_neg ht];rfl
 have bB:=f8 st (fun t ht=>(g1 t (Zbd d1 ht)).symm) (by rw[bE,Zfb,if_neg gp]);obtain⟨ah,aT⟩:=Zeh (st2:=⟨st.env,hrep st.heap e bb⟩) bu;have g2:∀t,b.dst≠some t->ah.get t=st.get t:=fun t ht=>by rw[(ZaB aT t).1,if_neg ht];rfl
 have bc:ah.heap=hrep st.heap e bb:=(ZaB aT 0).2;have fL:ZdC N (a.dst.getD 0) ah=true:=by
  obtain⟨q1,q2⟩:=ZcN gn;refine Zlz (ZkD (st1:=⟨st.env,hrep st.heap e bb⟩) q1 (fun t=>rfl) (Zqj cH (dv k a ha (ZlO dV)) hne hki) aT) ?_;rw[bc];exact Ztx (gL _ gp) q2
 have bJ:=f5 ah (fun t ht=>g2 t (Zbd d2 ht)) fL;obtain⟨aL,a4⟩:=Zeh (st2:=⟨ah.env,hins ah.heap (a.dst.getD 0) ba⟩) bi;have xb:bxOk (ZfQ ag (ops.size+i)) st b.op=true:=by rw[Zej (st:=st1) _ (fun t ht=>(g1 t (Zbd d1 ht)).symm)];exact ZdZ h2 hb
 have xa:bxOk (ZfQ ag (ops.size+k)) ah a.op=true:=by rw[Zej (st:=st) _ (fun t ht=>g2 t (Zbd d2 ht))];exact ZdZ h1 ha
 refine⟨ah,aL,Zft hb xb bB cH aT,Zft ha xa bJ bU a4,⟨fun t=>?_,?_⟩⟩
 .rw[(ZaB bu t).1,(ZaB a4 t).1];have hd:¬(a.dst=some t/\b.dst=some t):=by
   rintro ⟨e1,e2⟩;rw[e1,e2]at d3;simp[ZnF]at d3
  by_cases e1:a.dst=some t
  .rw[if_pos e1,if_neg (fun e2=>hd ⟨e1,e2⟩)];show (⟨st1.env,_⟩ : St).get t=_;rw[show (⟨st1.env,hrep st1.heap e bb⟩ : St).get t=st1.get t from rfl,(ZaB bi t).1,if_pos e1]
  .rw[if_neg e1];have e3:(⟨ah.env,hins ah.heap (a.dst.getD 0) ba⟩ : St).get t=ah.get t:=rfl;rw[e3,(ZaB aT t).1];split
   .rfl
   .rw[show (⟨st1.env,hrep st1.heap e bb⟩ : St).get t=st1.get t from rfl,g1 t e1];rfl
 .rw[(ZaB bu 0).2,(ZaB a4 0).2];simp only;rw[bE,bc,ZBg gp]
theorem ZBZ{op:Op}{st:St}{c:Nat}{l:List Nat}(h:bxOk (c :: l) st op=true)(hl:isLd op=true):∀x∈Zcn op,∀id,(evo st x).says id=true->id=c:=by
 unfold bxOk at h;cases op<;>simp only[isLd]at hl<;>try (cases hl;done)
 rename_i t y;intro x hx id hs;simp only[Zcn,List.mem_singleton]at hx;subst hx;simp only at h;split at h
 .rename_i d off hq;rw[hq]at hs;simp only[V.says,C.says]at hs;rw[<-ZaH h];exact(ZaH hs).symm
 .rename_i hq;rw[hq]at hs;simp only[V.says,C.says]at hs;cases hs
 .cases h
theorem Zzm{k i e c:Nat}{l:List Nat}{a b:Oper}(ha:ops[k]?=some a)(hb:ops[i]?=some b)(d1:disj a.dst (ZfK ops b)=true)(d2:disj b.dst (ZfK ops a)=true)(d3:ZnF a.dst b.dst=true)(eW:isLd a.op=true)(b9:Zcw ra.hc k=none)(gO:ZfQ ag (ops.size+k)=c :: l)(eO:plOf ra i b=some e)(j6:c≠e)
  {st st1 st2:St} {o1 o2:List Prop} (h1:Zfu P N T ops ra ag ni k st=some (st1,o1)) (h2:Zfu P N T ops ra ag ni i st1=some (st2,o2)) :
  ∃ah aL,Zfu P N T ops ra ag ni i st=some (ah,o2)/\Zfu P N T ops ra ag ni k ah=some (aL,o1)/\Eqv aL st2:=by
 obtain⟨a',va,sa,cr,hra,bU,bi⟩:=Zdp h1;obtain⟨b',vb,sb,aN,bj,cH,bu⟩:=Zdp h2;rw[ha]at cr;cases cr;rw[hb]at aN;cases aN;have dg:=ZdZ h1 ha;rw[gO]at dg;have c1:clsX ra k a=1:=by
  rw[ZiC b9];cases hq:a.op<;>rw[hq]at eW<;>first | (cases eW;done)|rfl
 obtain⟨ea,gQ,_⟩:=ZfA (st2:=st) (by omega) (fun t _=>rfl) (fun _=>rfl) (fun _ h=>h) hra;have cq:st1.heap=st.heap:=(ZaB bi 0).2.trans (gQ (by omega));have g1:∀t,a.dst≠some t->st1.get t=st.get t:=fun t ht=>by rw[(ZaB bi t).1,if_neg ht];exact Zjd ea t
 have eb:=ZpZ bj;obtain⟨bb,gL,rfl,sb3,f8⟩:=ZmV eO bj;have bB:=f8 st (fun t ht=>(g1 t (Zbd d1 ht)).symm) (by rw[cq]);obtain⟨ah,aT⟩:=Zeh (st2:=⟨st.env,hrep st.heap e bb⟩) bu;have g2:∀t,b.dst≠some t->ah.get t=st.get t:=fun t ht=>by rw[(ZaB aT t).1,if_neg ht];rfl
 have bc:ah.heap=hrep st.heap e bb:=(ZaB aT 0).2;have bJ:ZdD P N T ops ra k a ah=some (va,o1,ah):=by
  refine ZkH c1 (fun t ht=>g2 t (Zbd d2 ht)) (fun x dC id b0 cY hb0=>?_) hra;have eD:=ZBZ dg eW x dC id cY;rw[bc,Zrw,if_neg (by rw[eD];exact Ne.symm j6)];exact hb0
 obtain⟨aL,a4⟩:=Zeh (st2:=ah) bi;have xb:bxOk (ZfQ ag (ops.size+i)) st b.op=true:=by rw[Zej (st:=st1) _ (fun t ht=>(g1 t (Zbd d1 ht)).symm)];exact ZdZ h2 hb
 have xa:bxOk (ZfQ ag (ops.size+k)) ah a.op=true:=by rw[Zej (st:=st) _ (fun t ht=>g2 t (Zbd d2 ht))];exact ZdZ h1 ha
 refine⟨ah,aL,Zft hb xb bB cH aT,Zft ha xa bJ bU a4,⟨fun t=>?_,?_⟩⟩
 .rw[(ZaB bu t).1,(ZaB a4 t).1];have hd:¬(a.dst=some t/\b.dst=some t):=by
   rintro ⟨e1,e2⟩;rw[e1,e2]at d3;simp[ZnF]at d3
  by_cases e1:a.dst=some t
  .rw[if_pos e1,if_neg (fun e2=>hd ⟨e1,e2⟩),Zjd eb,(ZaB bi t).1,if_pos e1]
  .rw[if_neg e1];rw[(ZaB aT t).1];split
   .rfl
   .rw[Zjd eb,g1 t e1];rfl
 .rw[(ZaB bu 0).2,(ZaB a4 0).2,bc];simp only;rw[cq]
theorem Zzl{k i e c:Nat}{l:List Nat}{a b:Oper}(ha:ops[k]?=some a)(hb:ops[i]?=some b)(d1:disj a.dst (ZfK ops b)=true)(d2:disj b.dst (ZfK ops a)=true)(d3:ZnF a.dst b.dst=true)(j7:isLd b.op=true)(b9:Zcw ra.hc i=none)(j8:ZfQ ag (ops.size+i)=c :: l)(dV:plOf ra k a=some e)(j6:c≠e)
  {st st1 st2:St} {o1 o2:List Prop} (h1:Zfu P N T ops ra ag ni k st=some (st1,o1)) (h2:Zfu P N T ops ra ag ni i st1=some (st2,o2)) :
  ∃ah aL,Zfu P N T ops ra ag ni i st=some (ah,o2)/\Zfu P N T ops ra ag ni k ah=some (aL,o1)/\Eqv aL st2:=by
 obtain⟨a',va,sa,cr,hra,bU,bi⟩:=Zdp h1;obtain⟨b',vb,sb,aN,bj,cH,bu⟩:=Zdp h2;rw[ha]at cr;cases cr;rw[hb]at aN;cases aN;have fM:=ZdZ h2 hb;rw[j8]at fM;have c1:clsX ra i b=1:=by
  rw[ZiC b9];cases hq:b.op<;>rw[hq]at j7<;>first | (cases j7;done)|rfl
 obtain⟨ba,jo,rfl,sa3,f5⟩:=ZmV dV hra;have bE:st1.heap=hrep st.heap e ba:=(ZaB bi 0).2;have g1:∀t,a.dst≠some t->st1.get t=st.get t:=fun t ht=>by rw[(ZaB bi t).1,if_neg ht];rfl
 obtain⟨eb,jp,_⟩:=ZfA (st2:=st1) (by omega) (fun t _=>rfl) (fun _=>rfl) (fun _ h=>h) bj;have bB:ZdD P N T ops ra i b st=some (vb,o2,st):=by
  refine ZkH c1 (fun t ht=>(g1 t (Zbd d1 ht)).symm) (fun x dC id b0 cY hb0=>?_) bj;have eD:=ZBZ fM j7 x dC id cY;rw[bE,Zrw,if_neg (by rw[eD];exact Ne.symm j6)]at hb0;exact hb0
 obtain⟨ah,aT⟩:=Zeh (st2:=st) bu;have g2:∀t,b.dst≠some t->ah.get t=st.get t:=fun t ht=>by rw[(ZaB aT t).1,if_neg ht]
 have bc:ah.heap=st.heap:=(ZaB aT 0).2;have bJ:=f5 ah (fun t ht=>g2 t (Zbd d2 ht)) (by rw[bc]);obtain⟨aL,a4⟩:=Zeh (st2:=⟨ah.env,hrep ah.heap e ba⟩) bi;have xb:bxOk (ZfQ ag (ops.size+i)) st b.op=true:=by rw[Zej (st:=st1) _ (fun t ht=>(g1 t (Zbd d1 ht)).symm)];exact ZdZ h2 hb
 have xa:bxOk (ZfQ ag (ops.size+k)) ah a.op=true:=by rw[Zej (st:=st) _ (fun t ht=>g2 t (Zbd d2 ht))];exact ZdZ h1 ha
 refine⟨ah,aL,Zft hb xb bB cH aT,Zft ha xa bJ bU a4,⟨fun t=>?_,?_⟩⟩
 .rw[(ZaB bu t).1,(ZaB a4 t).1];have hd:¬(a.dst=some t/\b.dst=some t):=by
   rintro ⟨e1,e2⟩;rw[e1,e2]at d3;simp[ZnF]at d3
  by_cases e1:a.dst=some t
  .rw[if_pos e1,if_neg (fun e2=>hd ⟨e1,e2⟩),Zjd eb,(ZaB bi t).1,if_pos e1]
  .rw[if_neg e1];rw[show (⟨ah.env,hrep ah.heap e ba⟩ : St).get t=ah.get t from rfl,(ZaB aT t).1];split
   .rfl
   .rw[Zjd eb,g1 t e1]
 .rw[(ZaB bu 0).2,(ZaB a4 0).2,jp (by omega),bE,bc]
theorem ZEa{T:Tab}{st st':St}{t d off:Nat}{v:V}{an:Option Ans}{obl:List Prop}(h:ZnE T st t (.one (.ptr d off)) v an=some (obl,st')):∀id,id≠d->hget st'.heap id=hget st.heap id:=by
 intro id hne;unfold ZnE at h;split at h
 .split at h
  .simp only at h;split at h
   .split at h
    .cases h;simp only[Zpw];rw[if_neg (Ne.symm hne)]
    .cases h
   .cases h
  .cases h
 .cases h
theorem ZJx{o:Oper}{i d off:Nat}{st st':St}{t:TypeId}{x y:Operand}{v:V}{obl:List Prop}(ho:o.op=.store t x y)(hx:evo st x=.one (.ptr d off))(h:Zmk P N T ops ra i o st=some (v,obl,st')):∀id,id≠d->hget st'.heap id=hget st.heap id:=by
 intro id hne;unfold Zmk at h;split at h
 .cases h
 .cases h;rfl
 .split at h
  .cases h
  rename_i v0 cF st0 bh;split at h
  .cases h
  split at h;rotate_left
  .cases h
  split at h;rotate_left
  .cases h
  cases h;unfold evOp at bh;simp only[ho,hx]at bh;split at bh
  .rename_i q hq;cases bh;exact ZEa hq id hne
  .cases bh
theorem ZDe{k i:Nat}(ar:okLS ops ra ag k i=true){st st1 st2:St}{o1 o2:List Prop}(h1:Zfu P N T ops ra ag ni k st=some (st1,o1))(h2:Zfu P N T ops ra ag ni i st1=some (st2,o2)) :
  ∃ah aL,Zfu P N T ops ra ag ni i st=some (ah,o2)/\Zfu P N T ops ra ag ni k ah=some (aL,o1)/\Eqv aL st2:=by
 obtain⟨a,va,sa,ha,hra,bU,bi⟩:=Zdp h1;obtain⟨b,vb,sb,hb,bj,cH,bu⟩:=Zdp h2;have dg:=ZdZ h1 ha;have fM:=ZdZ h2 hb;unfold okLS at ar;rw[ha,hb]at ar;split at ar;rotate_left
 .cases ar
 rename_i a' b' c l d l' ea eb gO j8;cases ea;cases eb;simp only[Bool.and_eq_true,Bool.not_eq_true',Option.isNone_iff_eq_none]at ar;obtain⟨⟨⟨⟨⟨⟨⟨d1,d2⟩,d3⟩,eW⟩,dW⟩,b9⟩,hk2⟩,gR⟩:=ar;have gR:c≠d:=Nat.ne_of_beq_eq_false gR;rw[gO]at dg;rw[j8]at fM;have c1:clsX ra k a=1:=by
  rw[ZiC b9];cases hq:a.op<;>rw[hq]at eW<;>first | (cases eW;done)|rfl
 have c2:clsX ra i b=2:=by
  rw[ZiC hk2];cases hq:b.op<;>rw[hq]at dW<;>first | (cases dW;done)|rfl
 obtain⟨ea,gQ,_⟩:=ZfA (st2:=st) (by omega) (fun t _=>rfl) (fun _=>rfl) (fun _ h=>h) hra;have cq:st1.heap=st.heap:=(ZaB bi 0).2.trans (gQ (by omega));have g1:∀t,a.dst≠some t->st1.get t=st.get t:=fun t ht=>by rw[(ZaB bi t).1,if_neg ht];exact Zjd ea t
 obtain⟨eb,_,bB⟩:=ZfA (st2:=st) (by omega) (fun t ht=>(g1 t (Zbd d1 ht)).symm) (fun _=>cq.symm) (fun h=>by omega) bj;rw[if_neg (by omega)]at bB;obtain⟨ah,aT⟩:=Zeh (st2:=⟨st.env,sb.heap⟩) bu;have g2:∀t,b.dst≠some t->ah.get t=st.get t:=fun t ht=>by rw[(ZaB aT t).1,if_neg ht];rfl
 have fm:ah.heap=sb.heap:=(ZaB aT 0).2;have j9:∀id,id≠d->hget sb.heap id=hget st.heap id:=by
  intro id hne;rw[<-cq];unfold ZdD at bj;rw[hk2]at bj;simp only at bj;unfold bxOk at fM;cases hq:b.op<;>rw[hq]at dW<;>try (cases dW;done)
  rename_i t x y;rw[hq]at fM;simp only at fM;split at fM
  .rename_i d' off hx;have:=ZaH fM;subst this;exact ZJx hq hx bj id hne
  .cases fM
 have bJ:ZdD P N T ops ra k a ah=some (va,o1,ah):=by
  refine ZkH c1 (fun t ht=>g2 t (Zbd d2 ht)) (fun x dC id bb cY aN=>?_) hra;rw[fm,j9 id ?_]
  .exact aN
  rintro rfl;unfold bxOk at dg;cases hq:a.op<;>rw[hq]at eW<;>try (cases eW;done)
  rename_i t y;rw[hq]at dg dC;simp only[Zcn,List.mem_singleton]at dC;subst dC;simp only at dg;split at dg
  .rename_i d' off hx;have:=ZaH dg;subst this;simp only[hx,V.says,C.says]at cY;exact gR (ZaH cY)
  .rename_i hx;simp only[hx,V.says,C.says]at cY;cases cY
  .cases dg
 obtain⟨aL,a4⟩:=Zeh (st2:=ah) bi;have xb:bxOk (ZfQ ag (ops.size+i)) st b.op=true:=by rw[Zej (st:=st1) _ (fun t ht=>(g1 t (Zbd d1 ht)).symm)];exact ZdZ h2 hb
 have xa:bxOk (ZfQ ag (ops.size+k)) ah a.op=true:=by rw[Zej (st:=st) _ (fun t ht=>g2 t (Zbd d2 ht))];exact ZdZ h1 ha
 refine⟨ah,aL,Zft hb xb bB cH aT,Zft ha xa bJ bU a4,⟨fun t=>?_,?_⟩⟩
 .rw[(ZaB bu t).1,(ZaB a4 t).1];have hd:¬(a.dst=some t/\b.dst=some t):=by
   rintro ⟨e1,e2⟩;rw[e1,e2]at d3;simp[ZnF]at d3
  by_cases e1:a.dst=some t
  .rw[if_pos e1,if_neg (fun e2=>hd ⟨e1,e2⟩),Zjd eb,(ZaB bi t).1,if_pos e1]
  .rw[if_neg e1,(ZaB aT t).1];split
   .rfl
   .rw[Zjd eb,g1 t e1];rfl
 .rw[(ZaB bu 0).2,(ZaB a4 0).2,fm]
theorem Zva{st st1:St}{d t:Nat}{s x:V}{an:Option Ans}{v:V}{obl:List Prop}(hn:hget st.heap d=none)(h:ZjR N T st d t s x an=some (v,obl,st1)):∀id l,hget st.heap id=some (.box l)->hget st1.heap id=some (.box l):=by
 intro id' l' hb;have hd:d≠id':=by
  rintro rfl;rw[hn]at hb;cases hb
 unfold ZjR at h
 repeat' split at h
 all_goals first | (cases h;done)|skip
 all_goals (simp only[Option.some.injEq,Prod.mk.injEq]at h;obtain⟨_,_,rfl⟩:=h)
 .rw[Zbk,if_neg hd,Zlk,if_neg]
  .exact hb
  .rintro rfl;simp_all
 .show hget (hins _ _ _) _=_;rw[Zfb,if_neg hd];exact hb
theorem ZHF{st:St}{t id off:Nat}{r:V×List Prop}(h:Zqy T st t (.one (.ptr id off))=some r):∃l,hget st.heap id=some (.box l):=by
 unfold Zqy at h;split at h
 .cases h
 split at h
 .cases h
 simp only at h;split at h
 .rename_i l hl;exact⟨l,hl⟩
 .cases h
theorem ZEj{st:St}{t id off:Nat}{an:Option Ans}{r:V×List Prop}(h:Zky T st t (.one (.ptr id off)) an=some r):∃l,hget st.heap id=some (.box l):=by
 unfold Zky at h;split at h
 .unfold Zug at h;split at h
  .rename_i e;cases e
  .cases h
 .exact ZHF h
theorem ZDg{k i:Nat}(ar:okLA ops ra ag k i=true){st st1 st2:St}{o1 o2:List Prop}(h1:Zfu P N T ops ra ag ni k st=some (st1,o1))(h2:Zfu P N T ops ra ag ni i st1=some (st2,o2))
  (hJ:∀o,ops[i]?=some o->clsX ra i o=3->Zid st (o.dst.getD 0) N=true) :
  ∃ah aL,Zfu P N T ops ra ag ni i st=some (ah,o2)/\Zfu P N T ops ra ag ni k ah=some (aL,o1)/\Eqv aL st2:=by
 obtain⟨a,va,sa,ha,hra,bU,bi⟩:=Zdp h1;obtain⟨b,vb,sb,hb,bj,cH,bu⟩:=Zdp h2;have dg:=ZdZ h1 ha;unfold okLA at ar;rw[ha,hb]at ar;split at ar;rotate_left
 .cases ar
 rename_i a' b' c l ea eb gO;cases ea;cases eb;simp only[Bool.and_eq_true,Bool.not_eq_true',Option.isNone_iff_eq_none]at ar;obtain⟨⟨⟨⟨⟨⟨⟨⟨d1,d2⟩,d3⟩,eW⟩,dW⟩,hga⟩,b9⟩,hk2⟩,gR⟩:=ar;have gR:c≠99998:=Nat.ne_of_beq_eq_false gR;rw[gO]at dg;obtain⟨ta,xa,fL⟩ : ∃t x,a.op=.load t x:=by
  cases hq:a.op<;>rw[hq]at eW<;>first | (cases eW;done)|exact⟨_,_,rfl⟩
 have c1:clsX ra k a=1:=by rw[ZiC b9,fL];rfl
 have c2:clsX ra i b=3:=by
  rw[ZiC hk2];unfold ZPc at dW;split at dW
  .rename_i hq;split at dW
   .rename_i hw;rw[hq];simp only[Zfm,hw]
   .cases dW
  .cases dW
 -- where the load looks
 obtain⟨off,hxa⟩ : ∃off,evo st xa=.one (.ptr c off):=by
  unfold bxOk at dg;rw[fL]at dg;simp only at dg;split at dg
  .rename_i d' off hx;have:=ZaH dg;subst this;exact⟨off,hx⟩
  .exact absurd (ZaH dg).symm gR
  .cases dg
 obtain⟨bl,hbl⟩ : ∃l,hget st.heap c=some (.box l):=by
  unfold ZdD at hra;rw[b9]at hra;simp only[Zmk,ZgH,hga,evOp,fL,hxa]at hra;cases hl:Zky T st ta (.one (.ptr c off)) (Zcw ra.an k)with
  |none=>rw[hl]at hra;cases hra
  |some r=>exact ZEj hl
 obtain⟨ea,gQ,_⟩:=ZfA (st2:=st) (by omega) (fun t _=>rfl) (fun _=>rfl) (fun _ h=>h) hra;have cq:st1.heap=st.heap:=(ZaB bi 0).2.trans (gQ (by omega));have g1:∀t,a.dst≠some t->st1.get t=st.get t:=fun t ht=>by rw[(ZaB bi t).1,if_neg ht];exact Zjd ea t
 have hqt:ZdC N (b.dst.getD 0) st1=true->ZdC N (b.dst.getD 0) st=true:=fun hq=>Zlz (hJ b hb c2) (by rw[<-cq];exact(ZcN hq).2);obtain⟨eb,_,bB⟩:=ZfA (st2:=st) (by omega) (fun t ht=>(g1 t (Zbd d1 ht)).symm) (fun _=>cq.symm) (fun _ hq=>hqt hq) bj;rw[if_neg (by omega)]at bB;obtain⟨ah,aT⟩:=Zeh (st2:=⟨st.env,sb.heap⟩) bu;have g2:∀t,b.dst≠some t->ah.get t=st.get t:=fun t ht=>by rw[(ZaB aT t).1,if_neg ht];rfl
 have fm:ah.heap=sb.heap:=(ZaB aT 0).2;have cf:hget sb.heap c=some (.box bl):=by
  have bo:hget st1.heap c=some (.box bl):=by rw[cq];exact hbl
  unfold ZdD at bj;rw[hk2]at bj;simp only at bj;have dB:Zfm ra i b.op=3:=by rw[<-ZiC hk2];exact c2
  unfold Zmk at bj;split at bj
  .cases bj
  .cases bj;exact bo
  .split at bj
   .cases bj
   rename_i v0 cF st0 bh;have gS:=Zqg dB bh;split at bj
   .cases bj
   split at bj;rotate_left
   .cases bj
   split at bj;rotate_left
   .cases bj
   cases bj;unfold ZPc at dW;split at dW
   .rename_i hq;split at dW
    .rename_i hw;simp only[evOp,hq,hw]at bh;split at bh
     .split at bh
      .exact Zva (ZiD (ZcN gS).2).1 bh c bl bo
      .cases bh
     .cases bh
    .cases dW
   .cases dW
 have bJ:ZdD P N T ops ra k a ah=some (va,o1,ah):=by
  refine ZkH c1 (fun t ht=>g2 t (Zbd d2 ht)) (fun x dC id bb cY aN=>?_) hra;rw[fL]at dC;simp only[Zcn,List.mem_singleton]at dC;subst dC;rw[hxa]at cY;simp only[V.says,C.says]at cY;have:=ZaH cY;subst this;rw[hbl]at aN;cases aN;rw[fm];exact cf
 obtain⟨aL,a4⟩:=Zeh (st2:=ah) bi;have xb:bxOk (ZfQ ag (ops.size+i)) st b.op=true:=by rw[Zej (st:=st1) _ (fun t ht=>(g1 t (Zbd d1 ht)).symm)];exact ZdZ h2 hb
 have xa':bxOk (ZfQ ag (ops.size+k)) ah a.op=true:=by rw[Zej (st:=st) _ (fun t ht=>g2 t (Zbd d2 ht))];exact ZdZ h1 ha
 refine⟨ah,aL,Zft hb xb bB cH aT,Zft ha xa' bJ bU a4,⟨fun t=>?_,?_⟩⟩
 .rw[(ZaB bu t).1,(ZaB a4 t).1];have hd:¬(a.dst=some t/\b.dst=some t):=by
   rintro ⟨e1,e2⟩;rw[e1,e2]at d3;simp[ZnF]at d3
  by_cases e1:a.dst=some t
  .rw[if_pos e1,if_neg (fun e2=>hd ⟨e1,e2⟩),Zjd eb,(ZaB bi t).1,if_pos e1]
  .rw[if_neg e1,(ZaB aT t).1];split
   .rfl
   .rw[Zjd eb,g1 t e1];rfl
 .rw[(ZaB bu 0).2,(ZaB a4 0).2,fm]
theorem ZDf(dv:ZCv ops ra ni){k i:Nat}(ar:ZDD N ops ra ag k i=true)(hne:k≠i)(hki:k ∉ ZfQ ag i){st st1 st2:St}{o1 o2:List Prop}(h1:Zfu P N T ops ra ag ni k st=some (st1,o1))(h2:Zfu P N T ops ra ag ni i st1=some (st2,o2))
  (hJ:∀o,ops[i]?=some o->clsX ra i o=3->Zid st (o.dst.getD 0) N=true) :
  ∃ah aL,Zfu P N T ops ra ag ni i st=some (ah,o2)/\Zfu P N T ops ra ag ni k ah=some (aL,o1)/\Eqv aL st2:=by
 obtain⟨a,va,sa,ha,hra,bU,bi⟩:=Zdp h1;obtain⟨b,vb,sb,hb,bj,cH,bu⟩:=Zdp h2;unfold ZDD at ar;rw[Bool.or_eq_true,Bool.or_eq_true,Bool.or_eq_true]at ar;rcases ar with ((ar|ar)|ar)|ar
 rotate_right
 .exact ZDg ar h1 h2 hJ
 rotate_left
 .exact ZDe ar h1 h2
 .unfold okLC at ar;rw[ha,hb]at ar;simp only[Bool.and_eq_true]at ar;obtain⟨⟨⟨d1,d2⟩,d3⟩,ar⟩:=ar;split at ar
  .rename_i e gT gU;rw[Bool.or_eq_true]at ar;rcases ar with ar|ar
   .rw[Bool.and_eq_true]at ar;exact Zzo dv ha hb d1 d2 d3 gT ar.1 (Nat.ne_of_beq_eq_false (by simpa using ar.2)) h1 h2 hJ
   .simp only[Bool.and_eq_true,Option.isNone_iff_eq_none]at ar;obtain⟨⟨q1,q2⟩,q3⟩:=ar;split at q3
    .rename_i c l ka;exact Zzl ha hb d1 d2 d3 q1 q2 ka gT (Nat.ne_of_beq_eq_false (by simpa using q3)) h1 h2
    .cases q3
  .rename_i e gT gU;rw[Bool.or_eq_true]at ar;rcases ar with ar|ar
   .rw[Bool.and_eq_true]at ar;exact Zzn dv ha hb d1 d2 d3 ar.1 gU (Nat.ne_of_beq_eq_false (by simpa using ar.2)) hne hki h1 h2
   .simp only[Bool.and_eq_true,Option.isNone_iff_eq_none]at ar;obtain⟨⟨q1,q2⟩,q3⟩:=ar;split at q3
    .rename_i c l ka;exact Zzm ha hb d1 d2 d3 q1 q2 ka gU (Nat.ne_of_beq_eq_false (by simpa using q3)) h1 h2
    .cases q3
  .cases ar
 unfold ZNP at ar;rw[ha,hb]at ar;simp only[Bool.and_eq_true,Bool.or_eq_true]at ar;obtain⟨⟨⟨d1,d2⟩,d3⟩,dB⟩:=ar;rcases dB with (dB|⟨hR1,hR2⟩)|⟨⟨hR1,hR2⟩,hR3⟩;rotate_left
 .exact ZDc dv ha hb d1 d2 d3 hR1 hR2 hne hki h1 h2 hJ
 .exact ZDd dv ha hb d1 d2 d3 (by rw[Bool.or_eq_true];exact hR1) (by rw[Bool.or_eq_true];exact hR2) (fun t ht=>Nat.le_of_ble_eq_true (List.all_eq_true.1 hR3 t ht)) hne hki h1 h2 hJ
 have iF:(clsX ra k a<=1/\clsX ra i b<=1)\/(clsX ra k a=0/\clsX ra i b<=3)\/(clsX ra i b=0/\clsX ra k a<=3)\/(clsX ra k a=3/\clsX ra i b=1/\∀t∈ZfK ops b,t<N)\/(clsX ra k a=1/\clsX ra i b=3/\ZtJ ra i b=true):=by
  rcases dB with (((⟨h,h'⟩|⟨h,h'⟩)|⟨h,h'⟩)|⟨⟨h,h'⟩,h''⟩)|⟨⟨h,h'⟩,h''⟩
  .exact .inl ⟨Nat.le_of_ble_eq_true h,Nat.le_of_ble_eq_true h'⟩
  .exact .inr (.inl ⟨ZaH h,Nat.le_of_ble_eq_true h'⟩)
  .exact .inr (.inr (.inl ⟨ZaH h,Nat.le_of_ble_eq_true h'⟩))
  .exact .inr (.inr (.inr (.inl ⟨ZaH h,ZaH h',fun t ht=>Nat.le_of_ble_eq_true (List.all_eq_true.1 h'' t ht)⟩)))
  .exact .inr (.inr (.inr (.inr ⟨ZaH h,ZaH h',h''⟩)))
 -- k at st
 obtain⟨ea,gQ,_⟩:=ZfA (st2:=st) (by omega) (fun t _=>rfl) (fun _=>rfl) (fun _ h=>h) hra;have cq:clsX ra k a<=1->st1.heap=st.heap:=fun h=>(ZaB bi 0).2.trans (gQ h);have g1:∀t,a.dst≠some t->st1.get t=st.get t:=fun t ht=>by rw[(ZaB bi t).1,if_neg ht];exact Zjd ea t
 -- i at st
 have hkc:clsX ra k a<=3:=by omega
 have hic:clsX ra i b<=3:=by omega
 obtain⟨eb,jp,bB⟩ : sb.env=st1.env/\(clsX ra i b<=1->sb.heap=st1.heap)/\ZdD P N T ops ra i b st=some (vb,o2,⟨st.env,if clsX ra i b<=1 then st.heap else sb.heap⟩):=by
  by_cases hx:clsX ra k a=3/\clsX ra i b=1
  .obtain⟨e1,e2,_⟩:=ZfA (st2:=st1) (by omega) (fun t _=>rfl) (fun _=>rfl) (fun _ h=>h) bj;refine⟨e1,e2,?_⟩;rw[if_pos (by omega)];have hN:∀t∈ZfK ops b,t<N:=by
    rcases iF with h|h|h|h|h
    .omega
    .omega
    .omega
    .exact h.2.2
    .omega
   refine ZkH hx.2 (fun t ht=>(g1 t (Zbd d1 ht)).symm) (fun x dC id bb cY aN=>?_) bj;rw[(ZaB bi 0).2]at aN;rcases ZHh hx.1 hra with rfl|⟨hq,hn⟩
   .exact aN
   .rcases hn id bb aN with rfl|h
    .exfalso;have:(evo st1 x).says (a.dst.getD 0)=false:=by
      cases x with
      |tmp t=>
       have ht:t∈ZfK ops b:=List.mem_append.2 (.inl (ZpO dC));show (st1.get t).says _=false;rw[g1 t (Zbd d1 ht)];exact Zpo (ZcN hq).1 t (hN t ht)
      |const v=>exact ZvC v _
      |func f=>rfl
      |global g=>rfl
     simp only[this]at cY;cases cY
    .exact h
  .exact ZfA (st2:=st) (by omega) (fun t ht=>(g1 t (Zbd d1 ht)).symm) (fun h=>(cq (by omega)).symm) (fun hc hq=>by
    obtain⟨_,q2⟩:=ZcN hq;refine Zlz (hJ b hb hc) ?_;rw[<-cq (by omega)];exact q2) bj
 obtain⟨ah,aT⟩:=Zeh (st2:=⟨st.env,if clsX ra i b<=1 then st.heap else sb.heap⟩) bu;have xb:bxOk (ZfQ ag (ops.size+i)) st b.op=true:=by rw[Zej (st:=st1) _ (fun t ht=>(g1 t (Zbd d1 ht)).symm)];exact ZdZ h2 hb
 have bM:=Zft (ag:=ag) (ni:=ni) hb xb bB cH aT;have g2:∀t,b.dst≠some t->ah.get t=st.get t:=fun t ht=>by rw[(ZaB aT t).1,if_neg ht];rfl
 have fm:clsX ra i b<=1->ah.heap=st.heap:=fun h=>by rw[(ZaB aT 0).2];simp only[if_pos h]
 -- k behind i
 have bJ:ZdD P N T ops ra k a ah=some (va,o1,⟨ah.env,if clsX ra k a<=1 then ah.heap else sa.heap⟩):=by
  by_cases hx:clsX ra k a=1/\clsX ra i b=3
  .rw[if_pos (by omega)];have jL:ZtJ ra i b=true:=by
    rcases iF with h|h|h|h|h
    .omega
    .omega
    .omega
    .omega
    .exact h.2.2
   refine ZkH hx.1 (fun t ht=>g2 t (Zbd d2 ht)) (fun x dC id bb cY aN=>?_) hra;rw[(ZaB aT 0).2];simp only[if_neg (show ¬clsX ra i b<=1 by omega)];have:=ZzQ hx.2 jL bB id bb aN;simpa only[if_neg (show ¬clsX ra i b<=1 by omega)]using this
  .refine(ZfA (st2:=ah) (by omega) (fun t ht=>g2 t (Zbd d2 ht)) (fun h=>fm (by omega)) (fun hc hq=>by
    obtain⟨q1,q2⟩:=ZcN hq;refine Zlz (ZkD (st1:=⟨st.env,if clsX ra i b<=1 then st.heap else sb.heap⟩) q1 (fun t=>rfl) (Zqj cH (dv k a ha hc) hne hki) aT) ?_;rw[fm (by omega)];exact q2) hra).2.2
 obtain⟨aL,a4⟩:=Zeh (st2:=⟨ah.env,if clsX ra k a<=1 then ah.heap else sa.heap⟩) bi;have xa:bxOk (ZfQ ag (ops.size+k)) ah a.op=true:=by rw[Zej (st:=st) _ (fun t ht=>g2 t (Zbd d2 ht))];exact ZdZ h1 ha
 refine⟨ah,aL,bM,Zft ha xa bJ bU a4,⟨fun t=>?_,?_⟩⟩
 .rw[(ZaB bu t).1,(ZaB a4 t).1];have hd:¬(a.dst=some t/\b.dst=some t):=by
   rintro ⟨e1,e2⟩;rw[e1,e2]at d3;simp[ZnF]at d3
  by_cases e1:a.dst=some t
  .rw[if_pos e1,if_neg (fun e2=>hd ⟨e1,e2⟩),Zjd eb,(ZaB bi t).1,if_pos e1]
  .rw[if_neg e1];have e3:(⟨ah.env,if clsX ra k a<=1 then ah.heap else sa.heap⟩ : St).get t=ah.get t:=rfl;rw[e3,(ZaB aT t).1];split
   .rfl
   .rw[Zjd eb,g1 t e1];rfl
 .rw[(ZaB bu 0).2,(ZaB a4 0).2];simp only;by_cases c1:clsX ra k a<=1
  .rw[if_pos c1,(ZaB aT 0).2];simp only;by_cases c2:clsX ra i b<=1
   .rw[if_pos c2,jp c2,cq c1]
   .rw[if_neg c2]
  .rw[if_neg c1,jp (by omega),(ZaB bi 0).2]
theorem Zzk{k i:Nat}(ar:okLM ops ra k i=true){st st1 st2:St}{o1 o2:List Prop}(h1:Zfu P N T ops ra ag ni k st=some (st1,o1))(h2:Zfu P N T ops ra ag ni i st1=some (st2,o2)) :
  ∃ah aL gV,Zfu P N T ops ra ag ni i st=some (ah,o2)/\Zfu P N T ops ra ag ni k ah=some (aL,gV)/\Eqv aL st2/\((∀q∈o1++o2,q)->∀q∈gV,q):=by
 obtain⟨a,va,sa,ha,hra,bU,bi⟩:=Zdp h1;obtain⟨b,vb,sb,hb,bj,cH,bu⟩:=Zdp h2;have xa0:=ZdZ h1 ha;have xb0:=ZdZ h2 hb;unfold okLM at ar;rw[ha,hb]at ar;simp only at ar;split at ar;rotate_left
 .cases ar
 rename_i t x y t' x' y' hao hbo;simp only[Bool.and_eq_true,Option.isNone_iff_eq_none,List.isEmpty_iff]at ar;obtain⟨⟨⟨⟨⟨⟨⟨⟨⟨⟨⟨⟨⟨⟨⟨ht,hx⟩,hy⟩,d1⟩,d2⟩,d3⟩,ga⟩,gb⟩,b9⟩,hk2⟩,b1⟩,b2⟩,n1⟩,n2⟩,r1⟩,r2⟩:=ar;obtain rfl:=Nat.eq_of_beq_eq_true ht;have sT:∀{u v:Operand},ZwC u v=true->∃n,u=.tmp n/\v=.tmp n:=fun{u v} h=>by
  cases u<;>cases v<;>simp only[ZwC]at h<;>(try (cases h;done))
  exact⟨_,rfl,by rw[Nat.eq_of_beq_eq_true h]⟩
 obtain⟨x,rfl,rfl⟩:=sT hx;obtain⟨y,rfl,rfl⟩:=sT hy;have eL:∀s:St,ZdD P N T ops ra k a s=(ZiW P T s t (s.get x) (s.get y) false (Zcw ra.an k)).map fun p=>(p.1,p.2,s):=fun s=>by
  unfold ZdD;rw[b9];simp only[Zmk,ZgH,ga,evOp,hao];have e:∀z,evo s (.tmp z)=s.get z:=fun z=>rfl;rw[e,e];cases ZiW P T s t (s.get x) (s.get y) false (Zcw ra.an k)with
  |none=>rfl
  |some p=>simp only[b1,ZxO,n1,dnV,r1,rlV,Option.map_some]
 have eM:∀s:St,ZdD P N T ops ra i b s=ZiG P T s t (s.get x) (s.get y) (Zcw ra.an i):=fun s=>by
  unfold ZdD;rw[hk2];simp only[Zmk,ZgH,gb,evOp,hbo];have e:∀z,evo s (.tmp z)=s.get z:=fun z=>rfl;rw[e,e];cases ZiG P T s t (s.get x) (s.get y) (Zcw ra.an i)with
  |none=>rfl
  |some p=>simp only[b2,ZxO,n2,dnV,r2,rlV]
 rw[eL]at hra;rw[eM]at bj;have ux:x∈ZfK ops b/\y∈ZfK ops b:=by unfold ZfK;rw[hbo];simp[Zcn,Zsu]
 have uxa:x∈ZfK ops a/\y∈ZfK ops a:=by unfold ZfK;rw[hao];simp[Zcn,Zsu]
 simp only[Option.map_eq_some_iff,Prod.mk.injEq]at hra;obtain⟨p,hp,rfl,rfl,rfl⟩:=hra;obtain⟨va,o1⟩:=p;simp only at hp bU bi;have g1:∀n,a.dst≠some n->st1.get n=st.get n:=fun n hn=>by rw[(ZaB bi n).1,if_neg hn]
 have cq:st1.heap=st.heap:=(ZaB bi 0).2;rw[g1 x (Zbd d1 ux.1),g1 y (Zbd d1 ux.2)]at bj
 -- the entry
 unfold ZiG at bj;split at bj;rotate_left
 .cases bj
 rename_i kt vt id kt' l kv ik j z0 l' dR dI eG han;split at bj;rotate_left
 .cases bj
 rename_i z hz ff;cases bj;have gW:Zqo st (st.get x)=some (id,kt',l):=by unfold Zqo at dI ⊢;rw[cq]at dI;exact dI
 obtain⟨hxv,hl⟩:=ZoA gW
 -- the look
 unfold ZiW at hp;rw[dR,gW,eG]at hp;split at hp;rotate_left
 .cases hp
 rename_i kt0 vt0 _ _ l0 kv0 v0 fz0 e1 e2 e3 e4 e5;cases e2;cases e3;cases e4;rw[hz]at hp;cases hp;have kb:ZiG P T st t (st.get x) (st.get y) (Zcw ra.an i)=some (.tup [(false,[.junk]),(false,[.lit (.int .i64 j)])],[ZnG P kt kv (kv :: l.map (·.1)),MEnt l kv z j l'],{ st with heap:=hset st.heap id (.map kt' l') }):=by
  unfold ZiG;rw[dR,gW,eG,han];simp only[hz,ff]
 obtain⟨ah,aT⟩:=Zeh (st2:=⟨st.env,hset st.heap id (.map kt' l')⟩) bu;have g2:∀n,b.dst≠some n->ah.get n=st.get n:=fun n hn=>by rw[(ZaB aT n).1,if_neg hn];rfl
 have fm:ah.heap=hset st.heap id (.map kt' l'):=(ZaB aT 0).2;have kc:ZiW P T ah t (ah.get x) (ah.get y) false (Zcw ra.an k)=some (va,[ZnG P kt kv (l'.map (·.1)),Zyc l' kv z va]):=by
  rw[g2 x (Zbd d2 uxa.1),g2 y (Zbd d2 uxa.2)];have hm2:Zqo ah (st.get x)=some (id,kt',l'):=by
   unfold Zqo;rw[hxv,fm];simp only[Zpw,if_true]
  unfold ZiW;rw[dR,hm2,eG,e5];simp only[hz]
 have xb:bxOk (ZfQ ag (ops.size+i)) st b.op=true:=by rw[Zej (st:=st1) _ (fun n hn=>(g1 n (Zbd d1 hn)).symm)];exact xb0
 have xa:bxOk (ZfQ ag (ops.size+k)) ah a.op=true:=by rw[Zej (st:=st) _ (fun n hn=>g2 n (Zbd d2 hn))];exact xa0
 have bM:=Zft (ag:=ag) (ni:=ni) hb xb ((eM st).trans kb) cH aT;obtain⟨aL,a4⟩:=Zeh (st2:=ah) bi;have iG:=Zft (ag:=ag) (ni:=ni) ha xa ((eL ah).trans (by rw[kc];rfl)) bU a4;refine⟨ah,aL,_,bM,iG,⟨fun n=>?_,?_⟩,fun hq q hqm=>?_⟩
 .rw[(ZaB bu n).1,(ZaB a4 n).1];have hd:¬(a.dst=some n/\b.dst=some n):=by
   rintro ⟨e1,e2⟩;rw[e1,e2]at d3;simp[ZnF]at d3
  by_cases e1:a.dst=some n
  .rw[if_pos e1,if_neg (fun e2=>hd ⟨e1,e2⟩)];show st1.get n=va;rw[(ZaB bi n).1,if_pos e1]
  .rw[if_neg e1,(ZaB aT n).1];split
   .rfl
   .show st1.get n=st.get n;exact g1 n e1
 .rw[(ZaB bu 0).2,(ZaB a4 0).2,fm];show hset st1.heap id (.map kt' l')=_;rw[cq]
 .have q1:Zyc l kv z va:=hq _ (by simp);have q2:ZnG P kt kv (kv :: l.map (·.1)):=hq _ (by simp);have q3:MEnt l kv z j l':=hq _ (by simp);simp only[List.mem_cons,List.not_mem_nil,or_false]at hqm;rcases hqm with rfl|rfl
  .exact q2.sub q3.keys
  .exact q1.ent q3
theorem ZGL(dv:ZCv ops ra ni){k i:Nat}(ar:Zsf N ops ra ag k i=true)(hne:k≠i)(hki:k ∉ ZfQ ag i){st st1 st2:St}{o1 o2:List Prop}(h1:Zfu P N T ops ra ag ni k st=some (st1,o1))(h2:Zfu P N T ops ra ag ni i st1=some (st2,o2))
  (hJ:∀o,ops[i]?=some o->clsX ra i o=3->Zid st (o.dst.getD 0) N=true) :
  ∃ah aL gV,Zfu P N T ops ra ag ni i st=some (ah,o2)/\Zfu P N T ops ra ag ni k ah=some (aL,gV)/\Eqv aL st2/\((∀q∈o1++o2,q)->∀q∈gV,q):=by
 unfold Zsf at ar;rw[Bool.or_eq_true]at ar;rcases ar with ar|ar
 .obtain⟨a,b,h3,h4,h5⟩:=ZDf dv ar hne hki h1 h2 hJ;exact⟨a,b,o1,h3,h4,h5,fun h q hq=>h q (List.mem_append.2 (.inl hq))⟩
 .exact Zzk ar h1 h2
theorem ZIp{i:Nat}{st st2 st':St}{obl:List Prop}(hcls:∀o,ops[i]?=some o->Zxb ra i o=true)(he:Eqv st st2)(h:Zfu P N T ops ra ag ni i st=some (st',obl)):∃aL,Zfu P N T ops ra ag ni i st2=some (aL,obl)/\Eqv st' aL:=by
 obtain⟨o,v,s1,ho,hr,hc,hp⟩:=Zdp h;have e1:=ZpZ hr;obtain⟨gq,fZ,hph⟩:=ZHi (hcls o ho) he hr;obtain⟨aL,a4⟩:=Zeh (st2:=⟨st2.env,gq⟩) hp;refine⟨aL,Zft ho (by rw[Zej (ops:=ops) (st:=st) _ (fun t _=>he.env t)];exact ZdZ h ho) fZ hc a4,fun t=>?_,?_⟩
 .rw[(ZaB hp t).1,(ZaB a4 t).1];split
  .rfl
  .rw[Zjd e1];exact he.env t
 .rw[(ZaB hp 0).2,(ZaB a4 0).2];exact hph
theorem ZBA:∀{l:List Nat}{st st2 st':St}{obl:List Prop},(∀i∈l,∀o,ops[i]?=some o->Zxb ra i o=true)->Eqv st st2->ZsD P N T ops ra ag ni l st=some (st',obl)->∃aL,ZsD P N T ops ra ag ni l st2=some (aL,obl)/\Eqv st' aL
 | [],st,st2,st',obl,hcls,he,h=>by cases h;exact⟨st2,rfl,he⟩
 |i :: l,st,st2,st',obl,hcls,he,h=>by
  simp only[ZsD]at h
  split at h
  .cases h
  rename_i s1 o1 h1
  split at h
  .cases h
  rename_i s2 o2 h2
  cases h
  obtain⟨s1',h3,h4⟩:=ZIp (hcls i (by simp)) he h1
  obtain⟨s2',h5,h6⟩:=ZBA (fun j hj=>hcls j (by simp[hj])) h4 h2
  exact⟨s2',by simp only[ZsD,h3,h5],h6⟩
theorem Zud(dv:ZCv ops ra ni){i:Nat}{post:List Nat}:∀{f9:List Nat}{st F:St}{obl:List Prop},(∀k∈f9++post,∀o,ops[k]?=some o->Zxb ra k o=true)->(∀k∈f9,Zsf N ops ra ag k i=true/\k≠i/\k ∉ ZfQ ag i/\i ∉ ZfQ ag k) ->
  (∀o,ops[i]?=some o->clsX ra i o=3->Zid st (o.dst.getD 0) N=true)->ZsD P N T ops ra ag ni (f9++i :: post) st=some (F,obl) ->
  ∃st1 oi F' o',Zfu P N T ops ra ag ni i st=some (st1,oi)/\ZsD P N T ops ra ag ni (f9++post) st1=some (F',o')/\Eqv F F'/\((∀q∈obl,q)->∀q∈oi++o',q)
 | [],st,F,obl,hcls,hp,hJ,h=>by
  simp only[List.nil_append,ZsD]at h
  split at h
  .cases h
  rename_i s1 o1 h1
  split at h
  .cases h
  rename_i s2 o2 h2
  cases h
  exact⟨s1,o1,_,o2,h1,h2,Eqv.refl _,fun h q hq=>h q hq⟩
 |k :: f9,st,F,obl,hcls,hp,hJ,h=>by
  simp only[List.cons_append,ZsD]at h
  split at h
  .cases h
  rename_i s1 o1 h1
  split at h
  .cases h
  rename_i s2 o2 h2
  cases h
  obtain⟨ar,hne,hki,hik⟩:=hp k (by simp)
  obtain⟨a,va,sa,ha,hra,bU,bi⟩:=Zdp h1
  have hJ1:∀o,ops[i]?=some o->clsX ra i o=3->Zid s1 (o.dst.getD 0) N=true:=fun o ho hc=>by
   have ea:=ZpZ hra
   exact ZkD (hJ o ho hc) (Zjd ea) (Zqj bU (dv i o ho hc) (Ne.symm hne) hik) bi
  obtain⟨t1,oi,F1,o',h3,h4,h5,h6⟩:=Zud dv (fun j hj=>hcls j (List.mem_cons_of_mem _ hj)) (fun k' hk'=>hp k' (by simp[hk'])) hJ1 h2
  obtain⟨t1',t2',gV,h7,h8,h9,h12⟩:=ZGL dv ar hne hki h1 h3 hJ
  obtain⟨F2,fO,h11⟩:=ZBA (l:=f9++post) (fun j hj=>hcls j (List.mem_cons_of_mem _ hj)) (st:=t1) (st2:=t2') ⟨fun t=>(h9.env t).symm,h9.heap.symm⟩ h4
  refine⟨t1',oi,F2,gV++o',h7,by simp only[List.cons_append,ZsD,h8,fO],h5.trans h11,fun bq q hq=>?_⟩
  have ke:=h6 fun q hq=>bq q (List.mem_append.2 (.inr hq))
  rcases List.mem_append.1 hq with hq|hq
  .exact ke q (List.mem_append.2 (.inl hq))
  .rcases List.mem_append.1 hq with hq|hq
   .refine h12 (fun q hq=>?_) q hq
    rcases List.mem_append.1 hq with hq|hq
    .exact bq q (List.mem_append.2 (.inl hq))
    .exact ke q (List.mem_append.2 (.inl hq))
   .exact ke q (List.mem_append.2 (.inr hq))
end
end Go.Proofs.YtnigiacmmedkhaaGreat
