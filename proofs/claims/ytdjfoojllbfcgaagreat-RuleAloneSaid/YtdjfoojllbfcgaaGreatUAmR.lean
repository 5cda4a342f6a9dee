import Derived.Test.YtdjfoojllbfcgaaGreatUAmQ
namespace Go.Proofs.YtdjfoojllbfcgaaGreat
open Go.RowKit
set_option linter.unusedSimpArgs false
set_option linter.unusedVariables false
def Zvf:List Operand->List Nat | []=>[] | .tmp t :: l=>t :: Zvf l|_ :: l=>Zvf l
def Zge(ops:Array Oper)(o:Oper):List Nat:=Zvf (ZcR o.op)++match o.guard with
 |none=>[]
 |some (j,_)=>match (ops[j]?).bind (·.dst)with
  |some t=>[t]
  |none=>[]
theorem ZpP{t:Nat}:∀{l:List Operand},Operand.tmp t∈l->t∈Zvf l
 | [],h=>by cases h
 |x :: l,h=>by
  rcases List.mem_cons.1 h with rfl|h
  ·simp[Zvf]
  ·have:=ZpP h
   cases x<;>simp[Zvf,this]
theorem ZkH{st st2:St}{ops:Array Oper}{o:Oper}(h:∀t∈Zge ops o,st2.get t=st.get t):∀x∈ZcR o.op,evo st2 x=evo st x:=by
 intro x hx;cases x with
 |tmp t=>exact h t (List.mem_append.2 (.inl (ZpP hx)))
 |_=>rfl
theorem ZjF{st st2:St}{ops:Array Oper}{o:Oper}(h:∀t∈Zge ops o,st2.get t=st.get t):Zhp ops st2 o=Zhp ops st o:=by
 unfold Zhp;split
 ·rfl
 ·rename_i j want hg;split
  ·rename_i t ht;rw[h t (by unfold Zge;rw[hg];simp[ht])]
  ·rfl
theorem Zsr{P:Program}{N:Nat}{T:Tab}{st:St}{o:Oper}{ra:RA}{i:Nat}{p:V×List Prop×St}(hc:Zfg ra i o.op=3)(h:evOp P N T o st (ZdL ra.an i)=some p):ZdN N (o.dst.getD 0) st=true:=by
 obtain⟨dst,op,type,dM,after,guard⟩:=o;simp only at hc;have cF:∀{l},ZpH N st (dst.getD 0) l=some p->ZdN N (dst.getD 0) st=true:=by
  intro l hb;unfold ZpH at hb;split at hb
  ·assumption
  ·cases hb
 cases op<;>(try (simp only[Zfg]at hc))<;>(try (exact absurd hc (by decide)))
 case move x=>split at hc<;>cases hc
 case assign x=>split at hc<;>cases hc
 case alloc e=>
  simp only[evOp]at h
  repeat' split at h
  all_goals first | (cases h;done)|exact cF h
 case box e x=>
  simp only[evOp]at h
  repeat' split at h
  all_goals first | (cases h;done)|exact cF h
 case makeSlice t l c=>
  split at hc
  ·cases hc
  rename_i hx;simp only[evOp]at h;split at h
  ·rename_i hk;exact absurd hk (hx _ _)
  ·cases h
  unfold Zmj at h
  repeat' split at h
  all_goals first | (cases h;done)|assumption
 case buildSlice t n ps=>
  split at hc
  ·rename_i n' c' aY;simp only[evOp]at h;unfold Zfa at h;rw[aY]at h
   repeat' split at h
   all_goals first | (cases h;done)|assumption | (rename_i hx;exact absurd rfl (hx _ _))
  ·cases hc
 case call c=>
  obtain⟨callee,args,bj⟩:=c;cases callee with
  |value f=>simp only[Zfg]at hc;cases hc
  |invoke r n=>simp only[Zfg]at hc;cases hc
  |builtin b=>
   cases b<;>(try (simp only[Zfg]at hc))<;>(try (exact absurd hc (by decide)))
   case append=>
    split at hc
    ·cases hc
    rename_i aY;simp only[evOp]at h;split at h;rotate_left
    ·cases h
    split at h;rotate_left
    ·cases h
    unfold ZkI at h
    repeat' split at h
    all_goals first | (cases h;done)|assumption
theorem Zzi{P:Program}{N:Nat}{T:Tab}{ops:Array Oper}{ra:RA}{i:Nat}{o:Oper}{st st1 st2:St}{v:V}{obl:List Prop}(hc:Zfg ra i o.op<=3)(hu:∀t∈Zge ops o,st2.get t=st.get t)
  (hh:Zfg ra i o.op≠0->st2.heap=st.heap) (hq:Zfg ra i o.op=3->ZdN N (o.dst.getD 0) st=true->ZdN N (o.dst.getD 0) st2=true) (h:ZoO P N T ops ra i o st=some (v,obl,st1)) :
  st1.env=st.env/\(Zfg ra i o.op<=1->st1.heap=st.heap)/\ZoO P N T ops ra i o st2=some (v,obl,⟨st2.env,if Zfg ra i o.op<=1 then st2.heap else st1.heap⟩):=by
 unfold ZoO at h ⊢;rw[ZjF hu];split at h
 ·cases h
 ·cases h;refine⟨rfl,fun _=>rfl,?_⟩;split
  ·rfl
  ·rename_i cf;rw[<-hh (by omega)]
 ·have he:=ZkH hu;split at h
  ·cases h
  rename_i v0 bP st0 bq;split at h
  ·cases h
  rename_i v' obl' hd;split at h;rotate_left
  ·cases h
  rename_i v'' eP;split at h;rotate_left
  ·cases h
  rename_i v3 obl3 eC;cases h;refine⟨ZAV bq,?_⟩;have jn:Zfg ra i o.op=0\/Zfg ra i o.op=1\/Zfg ra i o.op=2\/Zfg ra i o.op=3:=by omega
  rcases jn with cf|cf|cf|cf
  ·have e1:=ZGK (P:=P) (N:=N) (T:=T) (st:=st) (st2:=st) cf (fun x _=>rfl);have e2:=ZGK (P:=P) (N:=N) (T:=T) (st:=st) (st2:=st2) cf he;rw[bq]at e1 e2;simp only[Option.map_some,Option.some.injEq,Prod.mk.injEq,true_and]at e1;subst e1;refine⟨fun _=>rfl,?_⟩;rw[e2];simp only[Option.map_some,hd,eP,eC,cf];rfl
  ·have e1:=ZGL (P:=P) (N:=N) (T:=T) (st:=st) (st2:=st) cf (fun x _=>rfl) rfl;have e2:=ZGL (P:=P) (N:=N) (T:=T) (st:=st) (st2:=st2) cf he (hh (by omega));rw[bq]at e1 e2;simp only[Option.map_some,Option.some.injEq,Prod.mk.injEq,true_and]at e1;subst e1;refine⟨fun _=>rfl,?_⟩;rw[e2];simp only[Option.map_some,hd,eP,eC,cf];rfl
  ·have e2:=ZIt (P:=P) (N:=N) (T:=T) (st:=st) (st2:=st2) cf he (hh (by omega));rw[bq]at e2;refine⟨fun h=>by omega,?_⟩;rw[e2];simp only[Option.map_some,hd,eP,eC,cf];rfl
  ·have hqq:=Zsr cf bq;have e2:=ZIu (P:=P) (N:=N) (T:=T) (st:=st) (st2:=st2) cf he (hh (by omega)) ((hq cf hqq).trans hqq.symm);rw[bq]at e2;refine⟨fun h=>by omega,?_⟩;rw[e2];simp only[Option.map_some,hd,eP,eC,cf];rfl
theorem ZBK{P:Program}{N:Nat}{T:Tab}{ops:Array Oper}{ra:RA}{i:Nat}{o:Oper}{st st1 st2:St}{v:V}{obl:List Prop}(hc:Zfg ra i o.op=1)(hu:∀t∈Zge ops o,st2.get t=st.get t)
  (hm:∀x∈ZcR o.op,Has st st2 fun id=>(evo st x).says id) (h:ZoO P N T ops ra i o st=some (v,obl,st1)):ZoO P N T ops ra i o st2=some (v,obl,st2):=by
 unfold ZoO at h ⊢;rw[ZjF hu];split at h
 ·cases h
 ·cases h;rfl
 ·have he:=ZkH hu;split at h
  ·cases h
  rename_i v0 bP st0 bq;split at h
  ·cases h
  rename_i v' obl' hd;split at h;rotate_left
  ·cases h
  rename_i v'' eP;split at h;rotate_left
  ·cases h
  rename_i v3 obl3 eC;cases h;have e2:=ZIv (P:=P) (N:=N) (T:=T) (st:=st) (st2:=st2) hc he hm bq;simp only[e2,hd,eP,eC]
theorem ZDl{P:Program}{N:Nat}{T:Tab}{ops:Array Oper}{ra:RA}{i:Nat}{o:Oper}{st st1:St}{v:V}{obl:List Prop}(hc:Zfg ra i o.op=3)(h:ZoO P N T ops ra i o st=some (v,obl,st1)) :
  st1=st\/(ZdN N (o.dst.getD 0) st=true/\∀id b,hget st1.heap id=some b->id=o.dst.getD 0\/hget st.heap id=some b):=by
 unfold ZoO at h;split at h
 ·cases h
 ·cases h;exact .inl rfl
 ·split at h
  ·cases h
  rename_i v0 bP st0 bq;split at h
  ·cases h
  split at h;rotate_left
  ·cases h
  split at h;rotate_left
  ·cases h
  cases h;exact .inr ⟨Zsr hc bq,Zzw hc bq⟩
theorem Zdy{N:Nat}{st:St}{d:Nat}(h:ZdN N d st=true):ZhT st d N=true/\Zhm d st.heap=true:=by
 unfold ZdN at h;split at h
 ·rename_i h1;exact⟨h1,h⟩
 ·cases h
theorem Zzj{P:Program}{N:Nat}{T:Tab}{ops:Array Oper}{ra:RA}{i:Nat}{o:Oper}{st st1:St}{v:V}{obl:List Prop}(hc:Zfg ra i o.op=3)(hk:ZAB o.op=true)(h:ZoO P N T ops ra i o st=some (v,obl,st1)) :
  ∀id b,hget st.heap id=some b->hget st1.heap id=some b:=by
 unfold ZoO at h;split at h
 ·cases h
 ·cases h;exact fun _ _ h=>h
 ·split at h
  ·cases h
  rename_i v0 bP st0 bq;split at h
  ·cases h
  split at h;rotate_left
  ·cases h
  split at h;rotate_left
  ·cases h
  cases h;exact Zyk hc hk (ZiM (Zdy (Zsr hc bq)).2).1 bq
def ZgC(o:Oper)(ha:HA):Bool:=match ha.lend,ha.new,ha.h1,o.guard with
 | [],[(c,d)],[(c',.rows _ _ _ _)],none=>Nat.beq d (o.dst.getD 0)&&Nat.beq c c'&&Nat.beq c 99999
 |_,_,_,_=>false
def clsX(ra:RA)(i:Nat)(o:Oper):Nat:=match ZdL ra.hc i with
 |none=>Zfg ra i o.op
 |some ha=>match ZgC o ha with
  |true=>3
  |false=>match ZdL ra.hc (i+1000)with
   |some _=>5
   |none=>match ha.new with
    | []=>2
    |_ :: _=>4
def ZtJ(ra:RA)(i:Nat)(o:Oper):Bool:=match ZdL ra.hc i with
 |none=>ZAB o.op
 |some _=>true
def Zeq(P:Program)(N:Nat)(ops:Array Oper)(ha:HA)(an:Option Ans)(o:Oper)(st:St):Option (V×List Prop×St):=match Zhp ops st o with
 |some true=>match o.op with
  | .call { callee:=c,args:=args,argTypes:=_ }=>Zgv P N st c args.toList ha an
  |_=>none
 |some false=>some (.one (.lit undef),[],st)
 |none=>none
def Zho(P:Program)(N:Nat)(ops:Array Oper)(ha:HA)(an:Option Ans)(o:Oper)(st:St):Option (V×List Prop×St):=match Zhp ops st o with
 |some true=>match o.op with
  | .call { callee:=c,args:=args,argTypes:=_ }=>ZgX P N st c args.toList ha an
  |_=>none
 |some false=>some (.one (.lit undef),[],st)
 |none=>none
def Zep(P:Program)(N:Nat)(T:Tab)(ops:Array Oper)(ra:RA)(i:Nat)(o:Oper)(st:St):Option (V×List Prop×St):=match ZdL ra.hc i with
 |none=>ZoO P N T ops ra i o st
 |some ha=>match ZdL ra.hc (i+1000)with
  |none=>Zeq P N ops ha (ZdL ra.an i) o st
  |some _=>Zho P N ops ha (ZdL ra.an i) o st
theorem Zvu{P:Program}{N:Nat}{T:Tab}{ops:Array Oper}{ra:RA}{i:Nat}{o:Oper}{st st1 st2:St}{v:V}{obl:List Prop}(h:Zep P N T ops ra i o st=some (v,obl,st1))(hp:putO N st1 o.dst v=some st2):Zlg P N T ops ra i o st=some (st2,obl):=by
 unfold Zep at h;unfold Zlg;split at h
 ·rename_i hk;rw[hk];simp only;unfold ZAz;simp only[h,hp]
 ·rename_i ha hk;rw[hk];simp only;split at h
  ·unfold Zeq at h;unfold ZxS;split at h
   ·split at h
    ·rename_i h1 _ c args bj bQ;simp only[h1,bQ,Zup (Zuq h),hp]
    ·cases h
   ·rename_i h1;cases h;simp only[h1,hp]
   ·cases h
  ·unfold Zho at h;unfold ZxS;split at h
   ·split at h
    ·rename_i h1 _ c args bj bQ;simp only[h1,bQ,Zup h,hp]
    ·cases h
   ·rename_i h1;cases h;simp only[h1,hp]
   ·cases h
theorem ZqW{P:Program}{N:Nat}{st st1:St}{c:Callee}{args:List Operand}{ha:HA}{an:Option Ans}{v:V}{obl:List Prop}(h:Zgv P N st c args ha an=some (v,obl,st1)):st1.env=st.env:=by
 unfold Zgv at h;split at h
 ·split at h
  ·cases h;rfl
  ·cases h
 ·cases h
theorem Zyp{P:Program}{N:Nat}{st st1:St}{c:Callee}{args:List Operand}{ha:HA}{an:Option Ans}{v:V}{obl:List Prop}(h:ZgX P N st c args ha an=some (v,obl,st1)):st1.env=st.env:=by
 unfold ZgX at h;split at h
 ·rename_i r hr;cases h;exact ZqW hr
 ·unfold Zkf at h;split at h
  ·split at h
   ·split at h
    ·cases h;rfl
    ·cases h
   ·cases h
  ·cases h
theorem ZlG{P:Program}{N:Nat}{T:Tab}{ops:Array Oper}{ra:RA}{i:Nat}{o:Oper}{st st1:St}{v:V}{obl:List Prop}(h:Zep P N T ops ra i o st=some (v,obl,st1)):st1.env=st.env:=by
 unfold Zep at h;split at h
 ·unfold ZoO at h;split at h
  ·cases h
  ·cases h;rfl
  ·split at h
   ·cases h
   rename_i v0 bP st0 bq;split at h
   ·cases h
   split at h;rotate_left
   ·cases h
   split at h;rotate_left
   ·cases h
   cases h;exact ZAV bq
 ·split at h
  ·unfold Zeq at h;split at h
   ·split at h
    ·exact ZqW h
    ·cases h
   ·cases h;rfl
   ·cases h
  ·unfold Zho at h;split at h
   ·split at h
    ·exact Zyp h
    ·cases h
   ·cases h;rfl
   ·cases h
theorem ZiH{P:Program}{st st2:St}{c:Callee}{args:Array Operand}{bj:Array TypeId}{an:Option Ans}(h:∀x∈ZcR (.call { callee:=c,args:=args,argTypes:=bj }),evo st2 x=evo st x):ZjB P st2 c an=ZjB P st c an:=by
 cases c with
 |value f=>simp only[ZjB,Zju,h f (by simp[ZcR])]
 |invoke r n=>simp only[ZjB,h r (by simp[ZcR])]
 |builtin b=>rfl
theorem ZlJ{c:Callee}{args:Array Operand}{bj:Array TypeId}:∀x∈args.toList,x∈ZcR (.call { callee:=c,args:=args,argTypes:=bj }):=by
 intro x hx;cases c<;>simp only[ZcR]<;>first|exact hx|exact List.mem_cons_of_mem _ hx
theorem ZHw{P:Program}{N:Nat}{ops:Array Oper}{ha:HA}{an:Option Ans}{o:Oper}{st st1:St}{v:V}{obl:List Prop}(hn:ha.new=[])(h:Zeq P N ops ha an o st=some (v,obl,st1)) :
  st1.env=st.env/\∀st2:St,(∀t∈Zge ops o,st2.get t=st.get t)->st2.heap=st.heap->Zeq P N ops ha an o st2=some (v,obl,⟨st2.env,st1.heap⟩):=by
 unfold Zeq at h;split at h
 ·rename_i bY;split at h
  ·rename_i c args bj bQ;refine⟨ZqW h,fun st2 hu hh=>?_⟩;unfold Zeq;rw[ZjF hu,bY];have he:=ZkH hu;rw[bQ]at he ⊢;simp only;unfold Zgv at h ⊢;rw[ZiH he];have ay:okHA N st2 ha=okHA N st ha:=by
    unfold okHA;rw[hn];rfl
   split at h;rotate_left
   ·cases h
   rename_i g a b om hcal;rw[ZgY (fun x hx=>he x (ZlJ x hx)) a b,ay,hh];split at h;rotate_left
   ·cases h
   rename_i h0 vs hp r q1 q2 q3 q4 q5;cases h;simp only[q1,q2,q3,q4,q5]
  ·cases h
 ·rename_i bY;cases h;refine⟨rfl,fun st2 hu hh=>?_⟩;unfold Zeq;rw[ZjF hu,bY];simp only[<-hh]
 ·cases h
theorem Ztz{d e:Nat}{b:B}(hne:e≠d)(hb:b.says d=false):∀{h:List (Nat×B)},Zhm d h=true->Zhm d (hins h e b)=true:=by
 have hf:Nat.beq e d=false:=by
  cases hx:Nat.beq e d
  ·rfl
  ·exact absurd (Nat.eq_of_beq_eq_true hx) hne
 intro h;induction h with
 |nil=>intro _;simp only[hins,Zhm,hf,hb]
 |cons p r ih=>
  obtain⟨k,v⟩:=p;intro hq;have fK:=hq;simp only[Zhm]at hq;split at hq
  ·rename_i h1 h2;simp only[hins];split
   ·simp only[Zhm,hf,hb];exact hq
   ·split
    ·simp only[Zhm,hf,hb,h1,h2];exact hq
    ·simp only[Zhm,h1,h2];exact ih hq
  ·cases hq
theorem Znc{d e:Nat}{b:B}:∀{h:List (Nat×B)},hget h e=none->Zhm d (hins h e b)=true->Zhm d h=true
 | [],_,_=>rfl
 | (k,v) :: r,hn,hq=>by
  rw[Zbm]at hn
  split at hn
  ·cases hn
  rename_i hke
  have hf:Nat.beq k e=false:=by
   cases hx:Nat.beq k e
   ·rfl
   ·exact absurd (Nat.eq_of_beq_eq_true hx) hke
  simp only[hins,hf]at hq;split at hq
  ·simp only[Zhm]at hq;split at hq
   ·simp only[Zhm];exact hq
   ·cases hq
  ·simp only[Zhm]at hq ⊢;split at hq
   ·rename_i h1 h2;exact Znc hn hq
   ·cases hq
theorem ZAN{P:Program}{N:Nat}{ops:Array Oper}{ha:HA}{an:Option Ans}{o:Oper}{st st1:St}{v:V}{obl:List Prop}(hs:ZgC o ha=true)(h:Zeq P N ops ha an o st=some (v,obl,st1)) :
  ∃b:B,(∀k,b.says k=false)/\ZdN N (o.dst.getD 0) st=true/\st1=⟨st.env,hins st.heap (o.dst.getD 0) b⟩/\∀st2,(∀t∈Zge ops o,st2.get t=st.get t)->ZdN N (o.dst.getD 0) st2=true ->
   Zeq P N ops ha an o st2=some (v,obl,⟨st2.env,hins st2.heap (o.dst.getD 0) b⟩):=by
 unfold ZgC at hs;split at hs;rotate_left
 ·cases hs
 rename_i c d c' e sz len cc hl hn dp bY;simp only[Bool.and_eq_true]at hs;obtain⟨⟨e1,e2⟩,e3⟩:=hs;have e1:=Nat.eq_of_beq_eq_true e1;have e2:=Nat.eq_of_beq_eq_true e2;subst e2;obtain⟨lend,new,h1,res⟩:=ha;simp only at hl hn dp;subst hl hn dp;subst e1;have hg:∀st:St,Zhp ops st o=some true:=fun st=>by unfold Zhp;rw[bY]
 unfold Zeq at h;rw[hg]at h;simp only at h;split at h;rotate_left
 ·cases h
 rename_i f args bj bQ;unfold Zgv at h;split at h;rotate_left
 ·cases h
 rename_i g a b om hcal;split at h;rotate_left
 ·cases h
 rename_i h0 vs hp r ay dH b9 cM hr;cases h;have hq:ZdN N (o.dst.getD 0) st=true:=by
  unfold okHA at ay;split at ay
  ·rename_i q1 q2 q3 q4;exact List.all_eq_true.1 q4 _ (List.mem_cons_self)
  ·cases ay
 have iT:hp=[(o.dst.getD 0,.rows e sz len cc)]:=by
  have:gOut ⟨[],[(c,o.dst.getD 0)],[(c,.rows e sz len cc)],res⟩ c=some (o.dst.getD 0):=by
   simp only[gOut,ZoP,Nat.beq_refl]
  simp only[Zrd,this,renB]at cM;exact(Option.some.inj cM).symm
 subst iT;refine⟨.rows e sz len cc,fun _=>rfl,hq,rfl,fun st2 hu cy=>?_⟩;have he:∀x∈ZcR (.call { callee:=f,args:=args,argTypes:=bj }),evo st2 x=evo st x:=fun x hx=>ZkH hu x (by rw[bQ];exact hx);have cz:Zcn st2 args.toList a b=Zcn st args.toList a b:=ZgY (fun x hx=>he x (ZlJ x hx)) a b;have dS:okHA N st2 ⟨[],[(c,o.dst.getD 0)],[(c,.rows e sz len cc)],res⟩=true:=by
  unfold okHA at ay ⊢;split at ay
  ·rename_i q1 q2 q3 q4;simp only at q1 q2 q3;simp only[q1,q2,q3,List.all_cons,List.all_nil,cy,Bool.and_true]
  ·cases ay
 have ig:hIn (bwd ([]:List (Nat×Nat))) st2.heap ([]:List (Nat×Nat))=some h0:=dH;unfold Zeq;rw[hg];simp only[bQ];unfold Zgv;rw[ZiH he,hcal];simp only[dS,ig,cz,b9,cM,hr];rfl
theorem ZwT{P:Program}{N:Nat}{st st2:St}{c:Callee}{args:Array Operand}{bj:Array TypeId}{ha:HA}{an:Option Ans}(he:∀x∈ZcR (.call { callee:=c,args:=args,argTypes:=bj }),evo st2 x=evo st x)(hh:st2.heap=st.heap)(ay:okHA N st2 ha=okHA N st ha) :
  ZgX P N st2 c args.toList ha an=(ZgX P N st c args.toList ha an).map fun r=>(r.1,r.2.1,⟨st2.env,r.2.2.heap⟩):=by
 have cz:∀a b,Zcn st2 args.toList a b=Zcn st args.toList a b:=fun a b=>ZgY (fun x hx=>he x (ZlJ x hx)) a b;have e1:Zgv P N st2 c args.toList ha an=(Zgv P N st c args.toList ha an).map fun r=>(r.1,r.2.1,⟨st2.env,r.2.2.heap⟩):=by
  unfold Zgv;rw[ZiH he,ay,hh];cases ZjB P st c an with
  |none=>rfl
  |some q=>
   obtain⟨g,a,b,om⟩:=q;simp only[cz];generalize okHA N st ha=x1;generalize hIn (bwd ha.lend) st.heap ha.lend=x2;generalize ZBB (bwd ha.lend) (Zcn st args.toList a b)=x3;generalize Zrd (gOut ha) ha.h1=x4;generalize renV (gOut ha) ha.res=x5;cases x1<;>cases x2<;>cases x3<;>cases x4<;>cases x5<;>rfl
 have e2:Zkf P N st2 c args.toList ha an=(Zkf P N st c args.toList ha an).map fun r=>(r.1,r.2.1,⟨st2.env,r.2.2.heap⟩):=by
  obtain⟨lend,new,h1,res⟩:=ha;have hb:∀l,borA st2 l=borA st l:=ZuD hh;unfold Zkf;rw[ZiH he,ay,hh];simp only[cz,hb];cases ZjB P st c an with
  |none=>split<;>rfl
  |some q=>
   obtain⟨g,a,b,om⟩:=q;simp only;generalize okHA N st ⟨lend,new,h1,res⟩=x1;generalize borA st (Zcn st args.toList a b)=x2;generalize Zrd (gOut ⟨lend,new,h1,res⟩) h1=x3;generalize renV (gOut ⟨lend,new,h1,res⟩) res=x4;generalize ZtQ h1=x5;split
   ·cases x1<;>cases x2<;>cases x3<;>cases x4<;>cases x5<;>rfl
   ·rfl
 unfold ZgX;rw[e1,e2];cases Zgv P N st c args.toList ha an<;>rfl
theorem ZHx{P:Program}{N:Nat}{ops:Array Oper}{ha:HA}{an:Option Ans}{o:Oper}{st st1:St}{v:V}{obl:List Prop}(hs:ZgC o ha=true)(h:Zho P N ops ha an o st=some (v,obl,st1)) :
  ∃b:B,ZdN N (o.dst.getD 0) st=true/\st1=⟨st.env,hins st.heap (o.dst.getD 0) b⟩/\∀st2,(∀t∈Zge ops o,st2.get t=st.get t)->st2.heap=st.heap->ZdN N (o.dst.getD 0) st2=true ->
   Zho P N ops ha an o st2=some (v,obl,⟨st2.env,st1.heap⟩):=by
 unfold ZgC at hs;split at hs;rotate_left
 ·cases hs
 rename_i c d c' e sz len cc hl hn dp bY;simp only[Bool.and_eq_true]at hs;obtain⟨⟨e1,e2⟩,e3⟩:=hs;have e1:=Nat.eq_of_beq_eq_true e1;have e2:=Nat.eq_of_beq_eq_true e2;subst e2;obtain⟨lend,new,h1,res⟩:=ha;simp only at hl hn dp;subst hl hn dp;subst e1;have hg:∀st:St,Zhp ops st o=some true:=fun st=>by unfold Zhp;rw[bY]
 unfold Zho at h;rw[hg]at h;simp only at h;split at h;rotate_left
 ·cases h
 rename_i f args bj bQ;have iT:∀hp,Zrd (gOut ⟨[],[(c,o.dst.getD 0)],[(c,.rows e sz len cc)],res⟩) [(c,.rows e sz len cc)]=some hp->hp=[(o.dst.getD 0,.rows e sz len cc)]:=fun hp cM=>by
  have:gOut ⟨[],[(c,o.dst.getD 0)],[(c,.rows e sz len cc)],res⟩ c=some (o.dst.getD 0):=by
   simp only[gOut,ZoP,Nat.beq_refl]
  simp only[Zrd,this,renB]at cM;exact(Option.some.inj cM).symm
 have eU:okHA N st ⟨[],[(c,o.dst.getD 0)],[(c,.rows e sz len cc)],res⟩=true/\st1=⟨st.env,hins st.heap (o.dst.getD 0) (.rows e sz len cc)⟩:=by
  have h':=h;unfold ZgX at h';split at h'
  ·rename_i r hr;cases h';unfold Zgv at hr;split at hr;rotate_left
   ·cases hr
   split at hr;rotate_left
   ·cases hr
   rename_i h0 vs hp r ay dH b9 cM eQ;cases hr;rw[iT _ cM];exact⟨ay,rfl⟩
  ·unfold Zkf at h';split at h';rotate_left
   ·cases h'
   split at h';rotate_left
   ·cases h'
   split at h';rotate_left
   ·cases h'
   rename_i vs hp r ps ay b9 cM eQ aO;cases h';rw[iT _ cM];exact⟨ay,rfl⟩
 obtain⟨ay,bK⟩:=eU;have hq:ZdN N (o.dst.getD 0) st=true:=by
  have bO:=ay;unfold okHA at bO;split at bO
  ·rename_i q1 q2 q3 q4;exact List.all_eq_true.1 q4 _ (List.mem_cons_self)
  ·cases bO
 refine⟨.rows e sz len cc,hq,bK,fun st2 hu hh cy=>?_⟩;have he:∀x∈ZcR (.call { callee:=f,args:=args,argTypes:=bj }),evo st2 x=evo st x:=fun x hx=>ZkH hu x (by rw[bQ];exact hx);have dS:okHA N st2 ⟨[],[(c,o.dst.getD 0)],[(c,.rows e sz len cc)],res⟩=true:=by
  have bO:=ay;unfold okHA at bO ⊢;split at bO
  ·rename_i q1 q2 q3 q4;simp only at q1 q2 q3;simp only[q1,q2,q3,List.all_cons,List.all_nil,cy,Bool.and_true]
  ·cases bO
 unfold Zho;rw[hg];simp only[bQ];rw[ZwT he hh (dS.trans ay.symm),h];rfl
def ZGv:Op->Bool | .makeSlice .. | .buildSlice .. | .alloc _=>true|_=>false
theorem ZBo{ti:TI}{l:List C}(h:Zti ti=some l)(k:Nat):l.any (C.says k)=false:=by
 unfold Zti at h;split at h;rotate_left
 ·cases h
 rename_i z hz;have lits:∀xs:List Value,(xs.map C.lit).any (C.says k)=false:=fun xs=>by
  induction xs with
  |nil=>rfl
  |cons x xs ih=>simp[C.says,ih]
 cases z with
 |agg cs=>
  simp only[V.ofVal]at h;split at h
  ·cases h;exact lits _
  ·cases h
 |_=>
  simp only[V.ofVal,V.cells]at h
  first | (cases h;rfl) | (split at h<;>cases h;rfl)
def ZsI(ra:RA)(i:Nat)(o:Oper):Bool:=match ZdL ra.hc i with
 |some ha=>match ZdL ra.hc (i+1000)with
  |none=>true
  |some _=>ZgC o ha
 |none=>Nat.ble (Zfg ra i o.op) 3
def ZkN(ra:RA)(i:Nat)(o:Oper):Bool:=match ZdL ra.hc i with
 |some ha=>match ZdL ra.hc (i+1000)with
  |none=>ZgC o ha
  |some _=>false
 |none=>match o.guard with
  |none=>ZGv o.op&&Nat.beq (Zfg ra i o.op) 3
  |some _=>false
theorem Zzy{N:Nat}{T:Tab}{st st1:St}{d t:Nat}{x y:V}{an:Option Ans}{v:V}{obl:List Prop}(h:Zmj N T st d t x y an=some (v,obl,st1)) :
  ∃b:B,(∀k,b.says k=false)/\ZdN N d st=true/\st1=⟨st.env,hins st.heap d b⟩/\∀st2,ZdN N d st2=true->Zmj N T st2 d t x y an=some (v,obl,⟨st2.env,hins st2.heap d b⟩):=by
 unfold Zmj at h
 repeat' split at h
 all_goals first | (cases h;done)|skip
 all_goals
  cases h;refine⟨_,fun _=>rfl,by assumption,rfl,fun st2 hq=>?_⟩;unfold Zmj;simp only[*,St.new]
theorem Zun{N:Nat}{T:Tab}{st st1:St}{d t n:Nat}{ps:List (Nat×V)}{k:Nat}{c:Nat->Nat->C}{v:V}{obl:List Prop}(h:Zfa N T st d t n ps (some (.c k c))=some (v,obl,st1)) :
  ∃b:B,(∀k,b.says k=false)/\ZdN N d st=true/\st1=⟨st.env,hins st.heap d b⟩/\∀st2,ZdN N d st2=true->Zfa N T st2 d t n ps (some (.c k c))=some (v,obl,⟨st2.env,hins st2.heap d b⟩):=by
 unfold Zfa at h ⊢;split at h<;>try (cases h;done)
 split at h<;>try (cases h;done)
 split at h<;>try (cases h;done)
 split at h<;>try (cases h;done)
 split at h<;>try (cases h;done)
 split at h<;>try (cases h;done)
 simp only at h;split at h
 ·cases h
 ·rename_i hq;cases h;refine⟨_,fun _=>rfl,hq,rfl,fun st2 cy=>?_⟩;simp only[*,St.new]
theorem ZlK{P:Program}{N:Nat}{T:Tab}{ops:Array Oper}{ra:RA}{i:Nat}{o:Oper}{st st1:St}{v:V}{obl:List Prop}(hs:ZkN ra i o=true)(h:Zep P N T ops ra i o st=some (v,obl,st1)) :
  ∃b:B,(∀k,b.says k=false)/\ZdN N (o.dst.getD 0) st=true/\st1=⟨st.env,hins st.heap (o.dst.getD 0) b⟩/\∀st2,(∀t∈Zge ops o,st2.get t=st.get t)->ZdN N (o.dst.getD 0) st2=true ->
   Zep P N T ops ra i o st2=some (v,obl,⟨st2.env,hins st2.heap (o.dst.getD 0) b⟩):=by
 unfold ZkN at hs;unfold Zep at h ⊢;split at hs
 ·rename_i ha hk;cases hk2:ZdL ra.hc (i+1000)with
  |some y=>rw[hk2]at hs;cases hs
  |none=>
   rw[hk2]at hs;simp only[hk,hk2]at h ⊢;exact ZAN hs h
 ·rename_i hk;rw[hk]at h ⊢;simp only at h ⊢;split at hs;rotate_left
  ·cases hs
  rename_i bY;have hg:∀st:St,Zhp ops st o=some true:=fun st=>by unfold Zhp;rw[bY]
  simp only[Bool.and_eq_true]at hs;obtain⟨hr,dR⟩:=hs;have dR:=Nat.eq_of_beq_eq_true dR;unfold ZoO at h;rw[hg]at h;simp only at h;split at h
  ·cases h
  rename_i v0 bP st0 bq;split at h
  ·cases h
  rename_i v' obl' hd;split at h;rotate_left
  ·cases h
  rename_i v'' eP;split at h;rotate_left
  ·cases h
  rename_i v3 obl3 eC;cases h;have eU:∃b:B,(∀k,b.says k=false)/\ZdN N (o.dst.getD 0) st=true/\st1=⟨st.env,hins st.heap (o.dst.getD 0) b⟩/\∀st2,(∀x∈ZcR o.op,evo st2 x=evo st x)->ZdN N (o.dst.getD 0) st2=true ->
    evOp P N T o st2 (ZdL ra.an i)=some (v0,bP,⟨st2.env,hins st2.heap (o.dst.getD 0) b⟩):=by
   obtain⟨dst,op,type,dM,after,guard⟩:=o;simp only at hr dR bY ⊢;cases op<;>simp only[ZGv]at hr<;>try (cases hr;done)
   case alloc t0 _=>
    simp only[evOp]at bq;split at bq;rotate_left
    ·cases bq
    rename_i te bN;split at bq;rotate_left
    ·cases bq
    rename_i l hl;unfold ZpH at bq;split at bq;rotate_left
    ·cases bq
    rename_i hq ll;cases bq;refine⟨.box l,fun k=>ZBo hl k,hq,rfl,fun st2 he cy=>?_⟩;simp only[evOp,bN,hl];unfold ZpH;rw[cy,ll];rfl
   case makeSlice t0 x y _=>
    simp only[Zfg]at dR;split at dR
    ·cases dR
    rename_i hx;simp only[evOp]at bq;split at bq
    ·rename_i hk;exact absurd hk (hx _ _)
    ·cases bq
    obtain⟨b,h1,h2,h3,h4⟩:=Zzy bq;refine⟨b,h1,h2,h3,fun st2 he hq=>?_⟩;simp only[evOp];rw[he x (by simp[ZcR]),he y (by simp[ZcR])];exact h4 st2 hq
   case buildSlice t n ps _=>
    simp only[Zfg]at dR;split at dR;rotate_left
    ·cases dR
    rename_i k c kw;simp only[evOp,kw]at bq;obtain⟨b,h1,h2,h3,h4⟩:=Zun bq;refine⟨b,h1,h2,h3,fun st2 he hq=>?_⟩;simp only[evOp,kw];rw[Zrh (fun x hx=>he x (by simpa[ZcR]using hx))];exact h4 st2 hq
  obtain⟨b,h1,h2,h3,h4⟩:=eU;refine⟨b,h1,h2,h3,fun st2 hu hq=>?_⟩;unfold ZoO;rw[hg];simp only[h4 st2 (ZkH hu) hq,hd,eP,eC]
theorem Zkh{ra:RA}{i:Nat}{o:Oper}(h:ZdL ra.hc i=none):clsX ra i o=Zfg ra i o.op:=by unfold clsX;rw[h]
theorem Zuz{ra:RA}{i:Nat}{o:Oper}{ha:HA}(h:ZdL ra.hc i=some ha)(hc:clsX ra i o<=3):(ZgC o ha=true/\clsX ra i o=3)\/(ha.new=[]/\clsX ra i o=2/\ZdL ra.hc (i+1000)=none):=by
 unfold clsX at hc ⊢;rw[h]at hc ⊢;simp only at hc ⊢;split at hc
 ·rename_i hs;exact .inl ⟨hs,rfl⟩
 ·split at hc
  ·omega
  ·rename_i hk2;split at hc
   ·rename_i hn;exact .inr ⟨hn,rfl,hk2⟩
   ·omega
theorem ZtF{P:Program}{N:Nat}{T:Tab}{ops:Array Oper}{ra:RA}{i:Nat}{o:Oper}{ha:HA}{st st1:St}{v:V}{obl:List Prop}(hk:ZdL ra.hc i=some ha)(hs:ZgC o ha=true)(h:Zep P N T ops ra i o st=some (v,obl,st1)) :
  ∃b:B,ZdN N (o.dst.getD 0) st=true/\st1=⟨st.env,hins st.heap (o.dst.getD 0) b⟩/\∀st2,(∀t∈Zge ops o,st2.get t=st.get t)->st2.heap=st.heap->ZdN N (o.dst.getD 0) st2=true ->
   Zep P N T ops ra i o st2=some (v,obl,⟨st2.env,st1.heap⟩):=by
 unfold Zep at h ⊢;cases hk2:ZdL ra.hc (i+1000)with
 |none=>
  simp only[hk,hk2]at h ⊢;obtain⟨b,h1,h2,rfl,h4⟩:=ZAN hs h;refine⟨b,h2,rfl,fun st2 hu hh hq=>?_⟩;rw[h4 st2 hu hq,hh]
 |some x=>
  simp only[hk,hk2]at h ⊢;exact ZHx hs h
theorem Zfj{P:Program}{N:Nat}{T:Tab}{ops:Array Oper}{ra:RA}{i:Nat}{o:Oper}{st st1 st2:St}{v:V}{obl:List Prop}(hc:clsX ra i o<=3)(hu:∀t∈Zge ops o,st2.get t=st.get t)
  (hh:clsX ra i o≠0->st2.heap=st.heap) (hq:clsX ra i o=3->ZdN N (o.dst.getD 0) st=true->ZdN N (o.dst.getD 0) st2=true) (h:Zep P N T ops ra i o st=some (v,obl,st1)) :
  st1.env=st.env/\(clsX ra i o<=1->st1.heap=st.heap)/\Zep P N T ops ra i o st2=some (v,obl,⟨st2.env,if clsX ra i o<=1 then st2.heap else st1.heap⟩):=by
 cases hk:ZdL ra.hc i with
 |none=>
  rw[Zkh hk]at *
  unfold Zep at h ⊢;rw[hk]at h ⊢;exact Zzi hc hu hh hq h
 |some ha=>
  rcases Zuz hk hc with⟨hs,e3⟩|⟨hn,e3,hk2⟩
  ·rw[e3]at hh hq ⊢;obtain⟨b,h2,rfl,h4⟩:=ZtF hk hs h;refine⟨rfl,fun h=>by omega,?_⟩;rw[h4 st2 hu (hh (by omega)) (hq rfl h2)];rfl
  ·rw[e3]at hh hq ⊢;unfold Zep at h ⊢;rw[hk]at h ⊢;simp only at h ⊢;rw[hk2]at h ⊢;simp only at h ⊢;obtain⟨h1,h2⟩:=ZHw hn h;refine⟨h1,fun h=>by omega,?_⟩;rw[h2 st2 hu (hh (by omega))];rfl
theorem ZlL{P:Program}{N:Nat}{T:Tab}{ops:Array Oper}{ra:RA}{i:Nat}{o:Oper}{st st1 st2:St}{v:V}{obl:List Prop}(hc:clsX ra i o=1)(hu:∀t∈Zge ops o,st2.get t=st.get t)
  (hm:∀x∈ZcR o.op,Has st st2 fun id=>(evo st x).says id) (h:Zep P N T ops ra i o st=some (v,obl,st1)):Zep P N T ops ra i o st2=some (v,obl,st2):=by
 cases hk:ZdL ra.hc i with
 |none=>
  rw[Zkh hk]at *
  unfold Zep at h ⊢;rw[hk]at h ⊢;exact ZBK hc hu hm h
 |some ha=>
  unfold clsX at hc;rw[hk]at hc;simp only at hc
  repeat' split at hc
  all_goals omega
theorem Zvv{P:Program}{N:Nat}{T:Tab}{ops:Array Oper}{ra:RA}{i:Nat}{o:Oper}{st st1:St}{v:V}{obl:List Prop}(hc:clsX ra i o=3)(h:Zep P N T ops ra i o st=some (v,obl,st1)) :
  st1=st\/(ZdN N (o.dst.getD 0) st=true/\∀id b,hget st1.heap id=some b->id=o.dst.getD 0\/hget st.heap id=some b):=by
 cases hk:ZdL ra.hc i with
 |none=>
  rw[Zkh hk]at *
  unfold Zep at h;rw[hk]at h;exact ZDl hc h
 |some ha=>
  obtain⟨hs,e3⟩ : ZgC o ha=true/\clsX ra i o=3:=(Zuz hk (Nat.le_of_eq hc)).resolve_right fun h=>by have:=h.2.1;omega
  obtain⟨b,h2,rfl,h4⟩:=ZtF hk hs h;refine .inr ⟨h2,fun id b' hb=>?_⟩;simp only[Zfk]at hb;split at hb
  ·rename_i e;exact .inl e.symm
  ·exact .inr hb
theorem ZxR{P:Program}{N:Nat}{T:Tab}{ops:Array Oper}{ra:RA}{i:Nat}{o:Oper}{st st1:St}{v:V}{obl:List Prop}(hc:clsX ra i o=3)(hk:ZtJ ra i o=true)(h:Zep P N T ops ra i o st=some (v,obl,st1)) :
  ∀id b,hget st.heap id=some b->hget st1.heap id=some b:=by
 unfold ZtJ at hk;cases hk':ZdL ra.hc i with
 |none=>
  rw[Zkh hk']at *
  unfold Zep at h;rw[hk']at h hk;exact Zzj hc hk h
 |some ha=>
  obtain⟨hs,e3⟩ : ZgC o ha=true/\clsX ra i o=3:=(Zuz hk' (Nat.le_of_eq hc)).resolve_right fun h=>by have:=h.2.1;omega
  obtain⟨b,h2,rfl,h4⟩:=ZtF hk' hs h;intro id b' hb;simp only[Zfk];have:=(ZiM (Zdy h2).2).1;rw[if_neg (fun e=>by rw[e,hb]at this;cases this)];exact hb
def isMk(ra:RA)(i:Nat)(o:Oper):Bool:=match ZdL ra.hc i,ZdL ra.hc (i+1000),o.op with
 |some ha,some _,.call { callee:=.value (.func _),args:=_,argTypes:=_ }=>ZgC o ha
 |_,_,_=>false
theorem ZFI{P:Program}{N:Nat}{ops:Array Oper}{ha:HA}{an:Option Ans}{o:Oper}{g:FuncId}{args:Array Operand}{bj:Array TypeId}{st st1:St}{v:V}{obl:List Prop}(hs:ZgC o ha=true)
  (bQ:o.op=.call { callee:=.value (.func g),args:=args,argTypes:=bj }) (h:Zho P N ops ha an o st=some (v,obl,st1)) :
  ∃b:B,(∀k,b.says k=false)/\ZdN N (o.dst.getD 0) st=true/\st1=⟨st.env,hins st.heap (o.dst.getD 0) b⟩/\∀st2,(∀t∈Zge ops o,st2.get t=st.get t)->(∀x∈ZcR o.op,Has st st2 fun id=>(evo st x).says id)->ZdN N (o.dst.getD 0) st2=true ->
   Zho P N ops ha an o st2=some (v,obl,⟨st2.env,hins st2.heap (o.dst.getD 0) b⟩):=by
 have ce:=hs;unfold ZgC at hs;split at hs;rotate_left
 ·cases hs
 rename_i c d c' e sz len cc hl hn dp bY;simp only[Bool.and_eq_true]at hs;obtain⟨⟨e1,e2⟩,e3⟩:=hs;have e1:=Nat.eq_of_beq_eq_true e1;have e2:=Nat.eq_of_beq_eq_true e2;subst e2;obtain⟨lend,new,h1,res⟩:=ha;simp only at hl hn dp;subst hl hn dp;subst e1;have hg:∀st:St,Zhp ops st o=some true:=fun st=>by unfold Zhp;rw[bY]
 have kA:∀st,Zeq P N ops ⟨[],[(c,o.dst.getD 0)],[(c,.rows e sz len cc)],res⟩ an o st=Zgv P N st (.value (.func g)) args.toList ⟨[],[(c,o.dst.getD 0)],[(c,.rows e sz len cc)],res⟩ an:=fun st=>by
  unfold Zeq;rw[hg];simp only[bQ]
 have kB:∀st,Zho P N ops ⟨[],[(c,o.dst.getD 0)],[(c,.rows e sz len cc)],res⟩ an o st=ZgX P N st (.value (.func g)) args.toList ⟨[],[(c,o.dst.getD 0)],[(c,.rows e sz len cc)],res⟩ an:=fun st=>by
  unfold Zho;rw[hg];simp only[bQ]
 rw[kB]at h;cases hE:Zgv P N st (.value (.func g)) args.toList ⟨[],[(c,o.dst.getD 0)],[(c,.rows e sz len cc)],res⟩ an with
 |some r=>
  unfold ZgX at h;rw[hE]at h;simp only at h;cases h;obtain⟨b,q1,q2,q3,q4⟩:=ZAN ce ((kA st).trans hE);refine⟨b,q1,q2,q3,fun st2 hu hm hq=>?_⟩;rw[kB];exact Zuq ((kA st2).symm.trans (q4 st2 hu hq))
 |none=>
  unfold ZgX at h;rw[hE]at h;simp only at h;have iT:∀hp,Zrd (gOut ⟨[],[(c,o.dst.getD 0)],[(c,.rows e sz len cc)],res⟩) [(c,.rows e sz len cc)]=some hp->hp=[(o.dst.getD 0,.rows e sz len cc)]:=fun hp cM=>by
   have:gOut ⟨[],[(c,o.dst.getD 0)],[(c,.rows e sz len cc)],res⟩ c=some (o.dst.getD 0):=by
    simp only[gOut,ZoP,Nat.beq_refl]
   simp only[Zrd,this,renB]at cM;exact(Option.some.inj cM).symm
  obtain⟨k0,n0,rfl⟩ : ∃k n,res=.one (.osl k n):=by
   unfold Zkf at h;simp only at h;split at h
   ·exact⟨_,_,rfl⟩
   ·cases h
  unfold Zkf at h;simp only at h;split at h;rotate_left
  ·cases h
  rename_i g' a b om hcal;split at h;rotate_left
  ·cases h
  rename_i vs hp r ps ay b9 cM eQ aO;cases h;obtain rfl:=iT _ cM;have hq:ZdN N (o.dst.getD 0) st=true:=by
   have bO:=ay;unfold okHA at bO;split at bO
   ·rename_i q1 q2 q3 q4;exact List.all_eq_true.1 q4 _ (List.mem_cons_self)
   ·cases bO
  refine⟨.rows e sz len cc,fun _=>rfl,hq,rfl,fun st2 hu hm cy=>?_⟩;have he:∀x∈ZcR (.call { callee:=.value (.func g),args:=args,argTypes:=bj }),evo st2 x=evo st x:=fun x hx=>ZkH hu x (by rw[bQ];exact hx);have dS:okHA N st2 ⟨[],[(c,o.dst.getD 0)],[(c,.rows e sz len cc)],.one (.osl k0 n0)⟩=true:=by
   have bO:=ay;unfold okHA at bO ⊢;split at bO
   ·rename_i q1 q2 q3 q4;simp only at q1 q2 q3;simp only[q1,q2,q3,List.all_cons,List.all_nil,cy,Bool.and_true]
   ·cases bO
  have lm:a=[]/\b=[]:=by
   simp only[ZjB,Zju,evo,V.ofVal]at hcal
   first
    | (cases hcal;exact⟨rfl,rfl⟩)
    | (simp at hcal;exact⟨hcal.2.1.symm,hcal.2.2.1.symm⟩)
  obtain⟨rfl,rfl⟩:=lm;have cz:Zcn st2 args.toList [] []=Zcn st args.toList [] []:=ZgY (fun x hx=>he x (ZlJ x hx)) [] [];have hbm:borA st2 (Zcn st args.toList [] [])=some vs:=by
   refine ZuC (fun v hv=>?_) b9;unfold Zcn at hv;simp only[List.map_nil,List.nil_append,List.append_nil,List.mem_map]at hv;obtain⟨x,hx,rfl⟩:=hv;exact hm x (by rw[bQ];exact ZlJ x hx)
  have ln:Zgv P N st2 (.value (.func g)) args.toList ⟨[],[(c,o.dst.getD 0)],[(c,.rows e sz len cc)],.one (.osl k0 n0)⟩ an=none:=by
   cases ln:Zgv P N st2 (.value (.func g)) args.toList ⟨[],[(c,o.dst.getD 0)],[(c,.rows e sz len cc)],.one (.osl k0 n0)⟩ an with
   |none=>rfl
   |some r2=>
    obtain⟨b2,_,_,_,q4⟩:=ZAN ce ((kA st2).trans ln);have:=q4 st (fun t ht=>(hu t ht).symm) hq;rw[kA,hE]at this;cases this
  rw[kB];unfold ZgX;rw[ln];simp only;unfold Zkf;simp only;rw[ZiH he,hcal];simp only[dS,cz,hbm,cM,eQ,aO];rfl
theorem ZxQ{P:Program}{N:Nat}{T:Tab}{ops:Array Oper}{ra:RA}{i:Nat}{o:Oper}{st st1:St}{v:V}{obl:List Prop}(hs:(ZkN ra i o||isMk ra i o)=true)(h:Zep P N T ops ra i o st=some (v,obl,st1)) :
  ∃b:B,(∀k,b.says k=false)/\ZdN N (o.dst.getD 0) st=true/\st1=⟨st.env,hins st.heap (o.dst.getD 0) b⟩/\∀st2,(∀t∈Zge ops o,st2.get t=st.get t)->(∀x∈ZcR o.op,Has st st2 fun id=>(evo st x).says id)->ZdN N (o.dst.getD 0) st2=true ->
   Zep P N T ops ra i o st2=some (v,obl,⟨st2.env,hins st2.heap (o.dst.getD 0) b⟩):=by
 rw[Bool.or_eq_true]at hs;rcases hs with hs|hs
 ·obtain⟨b,h1,h2,h3,h4⟩:=ZlK hs h;exact⟨b,h1,h2,h3,fun st2 hu _ hq=>h4 st2 hu hq⟩
 ·unfold isMk at hs;split at hs;rotate_left
  ·cases hs
  rename_i ha y g args bj hk hk2 bQ;unfold Zep at h ⊢;simp only[hk,hk2]at h ⊢;exact ZFI hs bQ h
theorem ZAK{ra:RA}{i:Nat}{o:Oper}(hs:isMk ra i o=true):clsX ra i o=3:=by
 unfold isMk at hs;split at hs;rotate_left
 ·cases hs
 rename_i ha y g args bj hk hk2 bQ;unfold clsX;rw[hk];simp only[hs]
theorem ZFH{P:Program}{N:Nat}{ops:Array Oper}{c e:Nat}{b:B}{res:V}{an:Option Ans}{o:Oper}{st st1:St}{v:V}{obl:List Prop}(bY:o.guard=none)
  (h:Zeq P N ops ⟨[(c,e)],[],[(c,b)],res⟩ an o st=some (v,obl,st1)) :
  ∃b',renB (gOut ⟨[(c,e)],[],[(c,b)],res⟩) b=some b'/\st1=⟨st.env,hrep st.heap e b'⟩/\(∃b0 b1,hget st.heap e=some b0/\renB (bwd [(c,e)]) b0=some b1) /\
   ∀st2,(∀t∈Zge ops o,st2.get t=st.get t)->hget st2.heap e=hget st.heap e->Zeq P N ops ⟨[(c,e)],[],[(c,b)],res⟩ an o st2=some (v,obl,⟨st2.env,hrep st2.heap e b'⟩):=by
 have hg:∀st:St,Zhp ops st o=some true:=fun st=>by unfold Zhp;rw[bY]
 unfold Zeq at h;rw[hg]at h;simp only at h;split at h;rotate_left
 ·cases h
 rename_i f args bj bQ;unfold Zgv at h;split at h;rotate_left
 ·cases h
 rename_i g a b1 om hcal;split at h;rotate_left
 ·cases h
 rename_i h0 vs hp r ay dH b9 cM hr;cases h;have dz:gOut ⟨[(c,e)],[],[(c,b)],res⟩ c=some e:=by simp only[gOut,ZoP,Nat.beq_refl]
 obtain⟨b',aF,rfl⟩ : ∃b',renB (gOut ⟨[(c,e)],[],[(c,b)],res⟩) b=some b'/\hp=[(e,b')]:=by
  simp only[Zrd,dz]at cM;split at cM
  ·rename_i i0 b0 l0 q1 q2 q3;cases q1;cases q3;cases cM;exact⟨_,q2,rfl⟩
  ·cases cM
 have dD:∀hh,ZxM [(e,b')] [(c,e)] hh=hrep hh e b':=fun hh=>by
  unfold ZxM;simp only[Ztn,Nat.beq_refl,Zvn]
 refine⟨b',aF,by rw[dD],?_,fun st2 hu hh=>?_⟩
 ·simp only[hIn]at dH;split at dH
  ·rename_i b0 bX;split at dH
   ·rename_i b2 l2 q1 q2;exact⟨b0,b2,bX,q1⟩
   ·cases dH
  ·cases dH
 ·have he:∀x∈ZcR (.call { callee:=f,args:=args,argTypes:=bj }),evo st2 x=evo st x:=fun x hx=>ZkH hu x (by rw[bQ];exact hx);have dS:okHA N st2 ⟨[(c,e)],[],[(c,b)],res⟩=true:=ay;have ig:hIn (bwd [(c,e)]) st2.heap [(c,e)]=some h0:=by
   rw[Zyd (h:=st.heap) (fun p hp=>by
    rcases List.mem_singleton.1 hp with rfl;exact hh)]
   exact dH
  unfold Zeq;rw[hg];simp only[bQ];unfold Zgv;rw[ZiH he,hcal];simp only[dS,ig,ZgY (fun x hx=>he x (ZlJ x hx)) a b1,b9,cM,hr,dD]
def plOf(ra:RA)(i:Nat)(o:Oper):Option Nat:=match ZdL ra.hc i,ZdL ra.hc (i+1000),o.guard with
 |some ⟨[(c,e)],[],[(c',_)],_⟩,none,none=>match Nat.beq c c' with
  |true=>some e
  |false=>none
 |_,_,_=>none
theorem ZmP{P:Program}{N:Nat}{T:Tab}{ops:Array Oper}{ra:RA}{i e:Nat}{o:Oper}{st st1:St}{v:V}{obl:List Prop}(hp:plOf ra i o=some e)(h:Zep P N T ops ra i o st=some (v,obl,st1)) :
  ∃b':B,(∀d,d≠e->b'.says d=false)/\st1=⟨st.env,hrep st.heap e b'⟩/\(∀d b0,d≠e->hget st.heap e=some b0->b0.says d=false) /\
   ∀st2,(∀t∈Zge ops o,st2.get t=st.get t)->hget st2.heap e=hget st.heap e->Zep P N T ops ra i o st2=some (v,obl,⟨st2.env,hrep st2.heap e b'⟩):=by
 unfold plOf at hp;split at hp;rotate_left
 ·cases hp
 rename_i c e0 c' b res hk hk2 bY;split at hp;rotate_left
 ·cases hp
 rename_i cf;cases hp;obtain rfl:=Nat.eq_of_beq_eq_true cf;unfold Zep at h ⊢;simp only[hk,hk2]at h ⊢;obtain⟨b',h1,h2,⟨b0,b1,h3,h4⟩,h5⟩:=ZFH bY h;refine⟨b',fun d hd=>ZFj (fun k hk'=>?_) h1,h2,fun d b2 hd bw=>?_,h5⟩
 ·simp only[gOut,ZoP]at hk';split at hk'
  ·rename_i hq;split at hq
   ·cases hq;cases hk';exact hd rfl
   ·cases hq
  ·cases hk'
 ·rw[h3]at bw;cases bw;refine ZCV ?_ h4;simp only[bwd,List.map_cons,List.map_nil,ZoP];split
  ·rename_i hq;exact absurd (Nat.eq_of_beq_eq_true hq).symm hd
  ·rfl
structure Eqv (st st2:St):Prop where
 env:∀t,st2.get t=st.get t
 heap:st2.heap=st.heap
theorem Eqv.refl(st:St):Eqv st st:=⟨fun _=>rfl,rfl⟩
theorem Eqv.trans{a b c:St}(h:Eqv a b)(k:Eqv b c):Eqv a c:=⟨fun t=>(k.env t).trans (h.env t),k.heap.trans h.heap⟩
theorem Zvr{st st2:St}{d:Nat}(h:∀t,st2.get t=st.get t):∀n,ZhT st2 d n=ZhT st d n
 | 0=>rfl
 |n+1=>by simp only[ZhT,h n,Zvr h n]
theorem ZxK{st st2:St}(h:Eqv st st2)(N d:Nat):ZdN N d st2=ZdN N d st:=by
 unfold ZdN;rw[Zvr h.env,h.heap]
theorem Zcq.eqv{N:Nat}{S0:Nat->Prop}{w0:Zba}{st st2:St}{a:Act}{w:World}(h:Zcq N S0 w0 st a w)(he:Eqv st st2):Zcq N S0 w0 st2 a w:=
 h.le (N:=N) ⟨fun t=>.inl (he.env t),fun id b hb=>by rw[<-he.heap];exact hb⟩
theorem ZFx{N:Nat}{st st2:St}(he:Eqv st st2)(ha:HA):okHA N st2 ha=okHA N st ha:=by
 unfold okHA;rw[show (fun p:Nat×Nat=>ZdN N p.2 st2)=fun p=>ZdN N p.2 st from funext fun p=>ZxK he N p.2]
theorem ZBL{P:Program}{N:Nat}{T:Tab}{ops:Array Oper}{ra:RA}{i:Nat}{o:Oper}{st st1 st2:St}{v:V}{obl:List Prop}(hc:ZsI ra i o=true)(he:Eqv st st2)(h:Zep P N T ops ra i o st=some (v,obl,st1)) :
  ∃hp,Zep P N T ops ra i o st2=some (v,obl,⟨st2.env,hp⟩)/\hp=st1.heap:=by
 by_cases hc3:clsX ra i o<=3
 ·obtain⟨e1,h1,eQ⟩:=Zfj (st2:=st2) hc3 (fun t _=>he.env t) (fun _=>he.heap) (fun _ hq=>by rw[ZxK he];exact hq) h;refine⟨_,eQ,?_⟩;split
  ·rename_i gY;rw[h1 gY];exact he.heap
  ·rfl
 ·cases hk:ZdL ra.hc i with
  |none=>
   exfalso;unfold ZsI at hc;rw[Zkh hk]at hc3;rw[hk]at hc;exact hc3 (Nat.le_of_ble_eq_true hc)
  |some ha=>
   have hk2:ZdL ra.hc (i+1000)=none:=by
    cases hk2:ZdL ra.hc (i+1000)with
    |none=>rfl
    |some x=>
     exfalso;unfold ZsI at hc;rw[hk]at hc;simp only[hk2]at hc;apply hc3;unfold clsX;rw[hk];simp only[hc];omega
   unfold Zep at h ⊢;rw[hk]at h ⊢;simp only at h ⊢;rw[hk2]at h ⊢;simp only at h ⊢;unfold Zeq at h ⊢;rw[ZjF (o:=o) (ops:=ops) (fun t _=>he.env t)];split at h
   ·split at h
    ·rename_i c args bj bQ;have bq:∀x,evo st2 x=evo st x:=fun x=>by
      cases x with
      |tmp t=>exact he.env t
      |const v=>rfl
      |func f=>rfl
      |global g=>rfl
     unfold Zgv at h ⊢;rw[ZiH (args:=args) (bj:=bj) (fun x _=>bq x)];split at h;rotate_left
     ·cases h
     rename_i g a b om hcal;rw[ZgY (fun x _=>bq x) a b,ZFx he,he.heap];split at h;rotate_left
     ·cases h
     rename_i h0 vs hp r q1 q2 q3 q4 q5;cases h;simp only[q1,q2,q3,q4,q5];exact⟨_,rfl,rfl⟩
    ·cases h
   ·cases h;exact⟨_,rfl,he.heap⟩
   ·cases h
def Znx(ra:RA):Nat->List Oper->List (Nat×Nat)
 |_,[]=>[]
 |i,o :: r=>match Nat.beq (clsX ra i o) 3 with
  |true=>(i,o.dst.getD 0) :: Znx ra (i+1) r
  |false=>Znx ra (i+1) r
def Zeo(ah:List (List Nat))(i:Nat):List Nat:=ah.getD i []
def memN(k:Nat):List Nat->Bool
 | []=>false
 |x :: l=>match Nat.beq x k with
  |true=>true
  |false=>memN k l
theorem ZjM{k:Nat}:∀{l:List Nat},memN k l=true↔k∈l
 | []=>by simp[memN]
 |x :: l=>by
  simp only[memN]
  split
  ·rename_i h
   simp[ZaO h]
  ·rename_i h
   have:=Nat.ne_of_beq_eq_false h
   rw[ZjM]
   simp[Ne.symm this]
def chk(ni:List (Nat×Nat))(ps:List Nat)(i:Nat)(v:V):Bool:=ni.all fun p=>Nat.beq p.1 i||memN p.1 ps || !(v.says p.2)
section
variable (P:Program) (N:Nat) (T:Tab) (ops:Array Oper) (ra:RA) (ah:List (List Nat)) (ni:List (Nat × Nat))
def bxOk(l:List Nat)(st:St)(op:Op):Bool:=match l with
 | []=>true
 |c :: _=>match op with
  | .load _ x=>match evo st x with
   | .one (.ptr d _)=>Nat.beq d c
   | .one (.rp _ _ _)=>Nat.beq 99998 c
   |_=>false
  | .store _ x _=>match evo st x with
   | .one (.ptr d _)=>Nat.beq d c
   |_=>false
  |_=>false
def Zhg(i:Nat)(st:St):Option (St×List Prop):=match ops[i]? with
 |none=>none
 |some o=>match bxOk (Zeo ah (ops.size+i)) st o.op with
  |false=>none
  |true=>match Zep P N T ops ra i o st with
   |none=>none
   |some (v,obl,st')=>match chk ni (Zeo ah i) i v with
    |false=>none
    |true=>match putO N st' o.dst v with
     |none=>none
     |some st''=>some (st'',obl)
def Zqm:List Nat->St->Option (St×List Prop)
 | [],st=>some (st,[])
 |i :: l,st=>match Zhg P N T ops ra ah ni i st with
  |none=>none
  |some (st1,o1)=>match Zqm l st1 with
   |none=>none
   |some (st2,o2)=>some (st2,o1++o2)
def disj(x:Option Nat)(l:List Nat):Bool:=match x with
 |none=>true
 |some d=>!(memN d l)
def Zmm(x y:Option Nat):Bool:=match x,y with
 |some a,some b=>!(Nat.beq a b)
 |_,_=>true
def ZGC(k i:Nat):Bool:=match ops[k]?,ops[i]? with
 |some a,some b=>disj a.dst (Zge ops b)&&disj b.dst (Zge ops a)&&Zmm a.dst b.dst &&
   ((Nat.ble (clsX ra k a) 1&&Nat.ble (clsX ra i b) 1)||(Nat.beq (clsX ra k a) 0&&Nat.ble (clsX ra i b) 3)||(Nat.beq (clsX ra i b) 0&&Nat.ble (clsX ra k a) 3)||(Nat.beq (clsX ra k a) 3&&Nat.beq (clsX ra i b) 1&&(Zge ops b).all fun t=>Nat.blt t N)||(Nat.beq (clsX ra k a) 1&&Nat.beq (clsX ra i b) 3&&ZtJ ra i b)||(ZkN ra k a&&ZkN ra i b)||((ZkN ra k a||isMk ra k a)&&(ZkN ra i b||isMk ra i b)&&(Zge ops b).all fun t=>Nat.blt t N))
 |_,_=>false
def isLd:Op->Bool | .load _ _=>true|_=>false
def isSt:Op->Bool | .store _ _ _=>true|_=>false
def okLS(k i:Nat):Bool:=match ops[k]?,ops[i]?,Zeo ah (ops.size+k),Zeo ah (ops.size+i)with
 |some a,some b,c :: _,d :: _=>disj a.dst (Zge ops b)&&disj b.dst (Zge ops a)&&Zmm a.dst b.dst&&isLd a.op&&isSt b.op&&(ZdL ra.hc k).isNone&&(ZdL ra.hc i).isNone && !(Nat.beq c d)
 |_,_,_,_=>false
def okLC(k i:Nat):Bool:=match ops[k]?,ops[i]? with
 |some a,some b=>disj a.dst (Zge ops b)&&disj b.dst (Zge ops a)&&Zmm a.dst b.dst&&(match plOf ra k a,plOf ra i b with
  |some e,none=>(ZkN ra i b && !(Nat.beq (b.dst.getD 0) e))||(isLd b.op&&(ZdL ra.hc i).isNone&&match Zeo ah (ops.size+i)with
   |c :: _=>!(Nat.beq c e)
   | []=>false)
  |none,some e=>(ZkN ra k a && !(Nat.beq (a.dst.getD 0) e))||(isLd a.op&&(ZdL ra.hc k).isNone&&match Zeo ah (ops.size+k)with
   |c :: _=>!(Nat.beq c e)
   | []=>false)
  |_,_=>false)
 |_,_=>false
def Zoc(k i:Nat):Bool:=ZGC N ops ra k i||okLS ops ra ah k i||okLC ops ra ah k i
end
theorem ZaM{N:Nat}{st st':St}{dst:Option Nat}{v:V}(h:putO N st dst v=some st')(t:Nat):st'.get t=(if dst=some t then v else st.get t)/\st'.heap=st.heap:=by
 unfold putO at h;split at h
 ·cases h;simp
 ·split at h
  ·cases h;rename_i d _ _;refine⟨?_,rfl⟩;rw[St.get_put];by_cases e:d=t
   ·subst e;simp
   ·rw[if_neg e,if_neg (by simpa using e)]
  ·cases h
theorem Zfi{N:Nat}{st st' st2:St}{dst:Option Nat}{v:V}(h:putO N st dst v=some st'):∃aN,putO N st2 dst v=some aN:=by
 cases dst with
 |none=>exact⟨_,rfl⟩
 |some d=>
  unfold putO at h ⊢;cases hb:Nat.blt d N with
  |true=>simp only[hb];exact⟨_,rfl⟩
  |false=>simp only[hb]at h;cases h
theorem ZbQ{x:Option Nat}{l:List Nat}(h:disj x l=true){t:Nat}(ht:t∈l):x≠some t:=by
 rintro rfl;simp only[disj,Bool.not_eq_true']at h;rw[<-Bool.not_eq_true,ZjM]at h;exact h ht
section
variable {P:Program} {N:Nat} {T:Tab} {ops:Array Oper} {ra:RA} {ah:List (List Nat)} {ni:List (Nat × Nat)}
theorem ZdY{i:Nat}{st st':St}{obl:List Prop}(h:Zhg P N T ops ra ah ni i st=some (st',obl)):∃o v st1,ops[i]?=some o/\Zep P N T ops ra i o st=some (v,obl,st1)/\chk ni (Zeo ah i) i v=true/\putO N st1 o.dst v=some st':=by
 unfold Zhg at h;split at h
 ·cases h
 rename_i o ho;split at h
 ·cases h
 split at h
 ·cases h
 rename_i v cV st1 hr;split at h
 ·cases h
 rename_i hc;split at h
 ·cases h
 rename_i st2 hp;cases h;exact⟨o,v,st1,ho,hr,hc,hp⟩
theorem Zfd{i:Nat}{st st':St}{obl:List Prop}(h:Zhg P N T ops ra ah ni i st=some (st',obl)){o:Oper}(ho:ops[i]?=some o):bxOk (Zeo ah (ops.size+i)) st o.op=true:=by
 unfold Zhg at h;rw[ho]at h;simp only at h;split at h
 ·cases h
 ·assumption
theorem Zfq{st st2:St}{o:Oper}(l:List Nat)(h:∀t∈Zge ops o,st2.get t=st.get t):bxOk l st2 o.op=bxOk l st o.op:=by
 have he:=ZkH h;unfold bxOk;cases l with
 |nil=>rfl
 |cons c l=>
  obtain⟨dst,op,type,dM,after,guard⟩:=o;simp only at he ⊢;cases op<;>simp only[ZcR]at he ⊢
  case load t x=>rw[he x (by simp)]
  case store t x y=>rw[he x (by simp)]
theorem ZgB{i:Nat}{st st1 st':St}{o:Oper}{v:V}{obl:List Prop}(ho:ops[i]?=some o)(hbx:bxOk (Zeo ah (ops.size+i)) st o.op=true)(hr:Zep P N T ops ra i o st=some (v,obl,st1))(hc:chk ni (Zeo ah i) i v=true)(hp:putO N st1 o.dst v=some st'):Zhg P N T ops ra ah ni i st=some (st',obl):=by
 unfold Zhg;simp only[ho,hbx,hr,hc,hp]
theorem ZoI{ps:List Nat}{i k d:Nat}{v:V}(h:chk ni ps i v=true)(hk:(k,d)∈ni)(hne:k≠i)(hp:k ∉ ps):v.says d=false:=by
 have:=List.all_eq_true.1 h _ hk;simp only[Bool.or_eq_true,Bool.not_eq_true']at this;rcases this with (h1|h1)|h1
 ·exact absurd (ZaO h1) hne
 ·exact absurd (ZjM.1 h1) hp
 ·exact h1
theorem ZxL{st:St}{d:Nat}(hd:d<ZiV):∀{n:Nat},(∀t,t<n->(st.get t).says d=false)->ZhT st d n=true
 | 0,_=>Nat.ble_eq_true_of_le hd
 |n+1,h=>by
  simp only[ZhT,h n (by omega)]
  exact ZxL hd fun t ht=>h t (by omega)
theorem Zjw{st st1 st':St}{dst:Option Nat}{v:V}{d:Nat}(hq:ZhT st d N=true)(he:∀t,st1.get t=st.get t)(hv:v.says d=false)(hp:putO N st1 dst v=some st'):ZhT st' d N=true:=
 ZxL (Ztw hq) fun t ht=>by
  rw[(ZaM hp t).1]
  split
  ·exact hv
  ·rw[he t];exact Zpp hq t ht
theorem ZiW{st st1:St}(h:st1.env=st.env)(t:Nat):st1.get t=st.get t:=by unfold St.get;rw[h]
theorem ZmO{st:St}{d:Nat}(h1:ZhT st d N=true)(h2:Zhm d st.heap=true):ZdN N d st=true:=by unfold ZdN;rw[h1];exact h2
def ZAa(ops:Array Oper)(ra:RA)(ni:List (Nat×Nat)):Prop:=∀i o,ops[i]?=some o->clsX ra i o=3->(i,o.dst.getD 0)∈ni
theorem ZlH{ra:RA}{i:Nat}{o:Oper}(h:ZkN ra i o=true):clsX ra i o=3:=by
 unfold ZkN at h;unfold clsX;split at h
 ·rename_i ha hk;rw[hk];split at h
  ·simp only[h]
  ·cases h
 ·rename_i hk;rw[hk];simp only;split at h
  ·simp only[Bool.and_eq_true]at h;exact Nat.eq_of_beq_eq_true h.2
  ·cases h
theorem ZyT(dF:ZAa ops ra ni){k i:Nat}{a b:Oper}(ha:ops[k]?=some a)(hb:ops[i]?=some b)(d1:disj a.dst (Zge ops b)=true)(d2:disj b.dst (Zge ops a)=true)(d3:Zmm a.dst b.dst=true)(dU:ZkN ra k a=true)(eq:ZkN ra i b=true)
  (hne:k≠i) (dk:k ∉ Zeo ah i) {st st1 st2:St} {o1 o2:List Prop} (h1:Zhg P N T ops ra ah ni k st=some (st1,o1)) (h2:Zhg P N T ops ra ah ni i st1=some (st2,o2))
  (hJ:∀o,ops[i]?=some o->clsX ra i o=3->ZhT st (o.dst.getD 0) N=true) :
  ∃ap aN,Zhg P N T ops ra ah ni i st=some (ap,o2)/\Zhg P N T ops ra ah ni k ap=some (aN,o1)/\Eqv aN st2:=by
 obtain⟨a',va,sa,cA,bf,cz,bA⟩:=ZdY h1;obtain⟨b',vb,sb,aF,cm,de,bR⟩:=ZdY h2;rw[ha]at cA;cases cA;rw[hb]at aF;cases aF;obtain⟨ba,kx,gK,rfl,ge⟩:=ZlK dU bf;obtain⟨bb,ii,ij,rfl,gf⟩:=ZlK eq cm;have bK:st1.heap=hins st.heap (a.dst.getD 0) ba:=(ZaM bA 0).2;have g1:∀t,a.dst≠some t->st1.get t=st.get t:=fun t ht=>by rw[(ZaM bA t).1,if_neg ht];rfl
 have lp:hget st.heap (a.dst.getD 0)=none:=(ZiM (Zdy gK).2).1;have g8:hget st1.heap (b.dst.getD 0)=none:=(ZiM (Zdy ij).2).1;have eV:b.dst.getD 0≠a.dst.getD 0:=by
  intro e;rw[bK,e,Zfk,if_pos rfl]at g8;cases g8
 have iU:ZdN N (b.dst.getD 0) st=true:=by
  refine ZmO (hJ b hb (ZlH eq)) ?_;have:=(Zdy ij).2;rw[bK]at this;exact Znc lp this
 have bS:=gf st (fun t ht=>(g1 t (ZbQ d1 ht)).symm) iU;obtain⟨ap,bg⟩:=Zfi (st2:=⟨st.env,hins st.heap (b.dst.getD 0) bb⟩) bR;have g2:∀t,b.dst≠some t->ap.get t=st.get t:=fun t ht=>by rw[(ZaM bg t).1,if_neg ht];rfl
 have bk:ap.heap=hins st.heap (b.dst.getD 0) bb:=(ZaM bg 0).2;have jo:ZdN N (a.dst.getD 0) ap=true:=by
  obtain⟨q1,q2⟩:=Zdy gK;refine ZmO (Zjw (st1:=⟨st.env,hins st.heap (b.dst.getD 0) bb⟩) q1 (fun t=>rfl) (ZoI de (dF k a ha (ZlH dU)) hne dk) bg) ?_;rw[bk];exact Ztz eV (ii _) q2
 have b5:=ge ap (fun t ht=>g2 t (ZbQ d2 ht)) jo;obtain⟨aN,bp⟩:=Zfi (st2:=⟨ap.env,hins ap.heap (a.dst.getD 0) ba⟩) bA;have xb:bxOk (Zeo ah (ops.size+i)) st b.op=true:=by rw[Zfq (st:=st1) _ (fun t ht=>(g1 t (ZbQ d1 ht)).symm)];exact Zfd h2 hb
 have xa:bxOk (Zeo ah (ops.size+k)) ap a.op=true:=by rw[Zfq (st:=st) _ (fun t ht=>g2 t (ZbQ d2 ht))];exact Zfd h1 ha
 refine⟨ap,aN,ZgB hb xb bS de bg,ZgB ha xa b5 cz bp,⟨fun t=>?_,?_⟩⟩
 ·rw[(ZaM bR t).1,(ZaM bp t).1];have hd:¬(a.dst=some t/\b.dst=some t):=by
   rintro ⟨e1,e2⟩;rw[e1,e2]at d3;simp[Zmm]at d3
  by_cases e1:a.dst=some t
  ·rw[if_pos e1,if_neg (fun e2=>hd ⟨e1,e2⟩)];show (⟨st1.env,_⟩ : St).get t=_;rw[show (⟨st1.env,hins st1.heap (b.dst.getD 0) bb⟩ : St).get t=st1.get t from rfl,(ZaM bA t).1,if_pos e1]
  ·rw[if_neg e1];have e3:(⟨ap.env,hins ap.heap (a.dst.getD 0) ba⟩ : St).get t=ap.get t:=rfl;rw[e3,(ZaM bg t).1];split
   ·rfl
   ·rw[show (⟨st1.env,hins st1.heap (b.dst.getD 0) bb⟩ : St).get t=st1.get t from rfl,g1 t e1];rfl
 ·rw[(ZaM bR 0).2,(ZaM bp 0).2,bK,bk];exact Zyc (a.dst.getD 0) (b.dst.getD 0) ba bb (Ne.symm eV) st.heap
theorem ZyU(dF:ZAa ops ra ni){k i:Nat}{a b:Oper}(ha:ops[k]?=some a)(hb:ops[i]?=some b)(d1:disj a.dst (Zge ops b)=true)(d2:disj b.dst (Zge ops a)=true)(d3:Zmm a.dst b.dst=true)(dU:(ZkN ra k a||isMk ra k a)=true)(eq:(ZkN ra i b||isMk ra i b)=true)(lq:∀t∈Zge ops b,t<N)
  (hne:k≠i) (dk:k ∉ Zeo ah i) {st st1 st2:St} {o1 o2:List Prop} (h1:Zhg P N T ops ra ah ni k st=some (st1,o1)) (h2:Zhg P N T ops ra ah ni i st1=some (st2,o2))
  (hJ:∀o,ops[i]?=some o->clsX ra i o=3->ZhT st (o.dst.getD 0) N=true) :
  ∃ap aN,Zhg P N T ops ra ah ni i st=some (ap,o2)/\Zhg P N T ops ra ah ni k ap=some (aN,o1)/\Eqv aN st2:=by
 obtain⟨a',va,sa,cA,bf,cz,bA⟩:=ZdY h1;obtain⟨b',vb,sb,aF,cm,de,bR⟩:=ZdY h2;rw[ha]at cA;cases cA;rw[hb]at aF;cases aF;have ca:clsX ra k a=3:=by
  rw[Bool.or_eq_true]at dU;exact dU.elim ZlH ZAK
 have cb:clsX ra i b=3:=by
  rw[Bool.or_eq_true]at eq;exact eq.elim ZlH ZAK
 obtain⟨ba,kx,gK,rfl,ge⟩:=ZxQ dU bf;obtain⟨bb,ii,ij,rfl,gf⟩:=ZxQ eq cm;have bK:st1.heap=hins st.heap (a.dst.getD 0) ba:=(ZaM bA 0).2;have g1:∀t,a.dst≠some t->st1.get t=st.get t:=fun t ht=>by rw[(ZaM bA t).1,if_neg ht];rfl
 have lp:hget st.heap (a.dst.getD 0)=none:=(ZiM (Zdy gK).2).1;have g8:hget st1.heap (b.dst.getD 0)=none:=(ZiM (Zdy ij).2).1;have eV:b.dst.getD 0≠a.dst.getD 0:=by
  intro e;rw[bK,e,Zfk,if_pos rfl]at g8;cases g8
 have iU:ZdN N (b.dst.getD 0) st=true:=by
  refine ZmO (hJ b hb cb) ?_;have:=(Zdy ij).2;rw[bK]at this;exact Znc lp this
 have bS:=gf st (fun t ht=>(g1 t (ZbQ d1 ht)).symm) (fun x er id bb dG aF=>by
  rw[bK,Zfk]at aF;split at aF
  ·rename_i e;exfalso;have:(evo st1 x).says (a.dst.getD 0)=false:=by
    cases x with
    |tmp t=>
     have ht:t∈Zge ops b:=List.mem_append.2 (.inl (ZpP er));show (st1.get t).says _=false;rw[g1 t (ZbQ d1 ht)];exact Zpp (Zdy gK).1 t (lq t ht)
    |const v=>exact Zvx v _
    |func f=>rfl
    |global g=>rfl
   rw[e]at this;simp only[this]at dG;cases dG
  ·exact aF) iU
 obtain⟨ap,bg⟩:=Zfi (st2:=⟨st.env,hins st.heap (b.dst.getD 0) bb⟩) bR;have g2:∀t,b.dst≠some t->ap.get t=st.get t:=fun t ht=>by rw[(ZaM bg t).1,if_neg ht];rfl
 have bk:ap.heap=hins st.heap (b.dst.getD 0) bb:=(ZaM bg 0).2;have jo:ZdN N (a.dst.getD 0) ap=true:=by
  obtain⟨q1,q2⟩:=Zdy gK;refine ZmO (Zjw (st1:=⟨st.env,hins st.heap (b.dst.getD 0) bb⟩) q1 (fun t=>rfl) (ZoI de (dF k a ha ca) hne dk) bg) ?_;rw[bk];exact Ztz eV (ii _) q2
 have b5:=ge ap (fun t ht=>g2 t (ZbQ d2 ht)) (fun x er id bb' dG aF=>by
  rw[bk,Zfk];split
  ·rename_i e;exfalso;have ik:=(ZiM (Zdy iU).2).1;rw[e]at ik;rw[aF]at ik;cases ik
  ·exact aF) jo
 obtain⟨aN,bp⟩:=Zfi (st2:=⟨ap.env,hins ap.heap (a.dst.getD 0) ba⟩) bA;have xb:bxOk (Zeo ah (ops.size+i)) st b.op=true:=by rw[Zfq (st:=st1) _ (fun t ht=>(g1 t (ZbQ d1 ht)).symm)];exact Zfd h2 hb
 have xa:bxOk (Zeo ah (ops.size+k)) ap a.op=true:=by rw[Zfq (st:=st) _ (fun t ht=>g2 t (ZbQ d2 ht))];exact Zfd h1 ha
 refine⟨ap,aN,ZgB hb xb bS de bg,ZgB ha xa b5 cz bp,⟨fun t=>?_,?_⟩⟩
 ·rw[(ZaM bR t).1,(ZaM bp t).1];have hd:¬(a.dst=some t/\b.dst=some t):=by
   rintro ⟨e1,e2⟩;rw[e1,e2]at d3;simp[Zmm]at d3
  by_cases e1:a.dst=some t
  ·rw[if_pos e1,if_neg (fun e2=>hd ⟨e1,e2⟩)];show (⟨st1.env,_⟩ : St).get t=_;rw[show (⟨st1.env,hins st1.heap (b.dst.getD 0) bb⟩ : St).get t=st1.get t from rfl,(ZaM bA t).1,if_pos e1]
  ·rw[if_neg e1];have e3:(⟨ap.env,hins ap.heap (a.dst.getD 0) ba⟩ : St).get t=ap.get t:=rfl;rw[e3,(ZaM bg t).1];split
   ·rfl
   ·rw[show (⟨st1.env,hins st1.heap (b.dst.getD 0) bb⟩ : St).get t=st1.get t from rfl,g1 t e1];rfl
 ·rw[(ZaM bR 0).2,(ZaM bp 0).2,bK,bk];exact Zyc (a.dst.getD 0) (b.dst.getD 0) ba bb (Ne.symm eV) st.heap
theorem Zxv(dF:ZAa ops ra ni){k i e:Nat}{a b:Oper}(ha:ops[k]?=some a)(hb:ops[i]?=some b)(d1:disj a.dst (Zge ops b)=true)(d2:disj b.dst (Zge ops a)=true)(d3:Zmm a.dst b.dst=true)(dU:plOf ra k a=some e)(eq:ZkN ra i b=true)(gL:b.dst.getD 0≠e)
  {st st1 st2:St} {o1 o2:List Prop} (h1:Zhg P N T ops ra ah ni k st=some (st1,o1)) (h2:Zhg P N T ops ra ah ni i st1=some (st2,o2))
  (hJ:∀o,ops[i]?=some o->clsX ra i o=3->ZhT st (o.dst.getD 0) N=true) :
  ∃ap aN,Zhg P N T ops ra ah ni i st=some (ap,o2)/\Zhg P N T ops ra ah ni k ap=some (aN,o1)/\Eqv aN st2:=by
 obtain⟨a',va,sa,cA,bf,cz,bA⟩:=ZdY h1;obtain⟨b',vb,sb,aF,cm,de,bR⟩:=ZdY h2;rw[ha]at cA;cases cA;rw[hb]at aF;cases aF;obtain⟨ba,kx,rfl,sa3,ge⟩:=ZmP dU bf;obtain⟨bb,ii,ij,rfl,gf⟩:=ZlK eq cm;have bK:st1.heap=hrep st.heap e ba:=(ZaM bA 0).2;have g1:∀t,a.dst≠some t->st1.get t=st.get t:=fun t ht=>by rw[(ZaM bA t).1,if_neg ht];rfl
 have iU:ZdN N (b.dst.getD 0) st=true:=by
  refine ZmO (hJ b hb (ZlH eq)) ?_;have:=(Zdy ij).2;rw[bK]at this;exact Zqs (Ne.symm gL) (fun b0 h0=>sa3 _ b0 gL h0) this
 have bS:=gf st (fun t ht=>(g1 t (ZbQ d1 ht)).symm) iU;obtain⟨ap,bg⟩:=Zfi (st2:=⟨st.env,hins st.heap (b.dst.getD 0) bb⟩) bR;have g2:∀t,b.dst≠some t->ap.get t=st.get t:=fun t ht=>by rw[(ZaM bg t).1,if_neg ht];rfl
 have bk:ap.heap=hins st.heap (b.dst.getD 0) bb:=(ZaM bg 0).2;have b5:=ge ap (fun t ht=>g2 t (ZbQ d2 ht)) (by rw[bk,Zfk,if_neg gL]);obtain⟨aN,bp⟩:=Zfi (st2:=⟨ap.env,hrep ap.heap e ba⟩) bA;have xb:bxOk (Zeo ah (ops.size+i)) st b.op=true:=by rw[Zfq (st:=st1) _ (fun t ht=>(g1 t (ZbQ d1 ht)).symm)];exact Zfd h2 hb
 have xa:bxOk (Zeo ah (ops.size+k)) ap a.op=true:=by rw[Zfq (st:=st) _ (fun t ht=>g2 t (ZbQ d2 ht))];exact Zfd h1 ha
 refine⟨ap,aN,ZgB hb xb bS de bg,ZgB ha xa b5 cz bp,⟨fun t=>?_,?_⟩⟩
 ·rw[(ZaM bR t).1,(ZaM bp t).1];have hd:¬(a.dst=some t/\b.dst=some t):=by
   rintro ⟨e1,e2⟩;rw[e1,e2]at d3;simp[Zmm]at d3
  by_cases e1:a.dst=some t
  ·rw[if_pos e1,if_neg (fun e2=>hd ⟨e1,e2⟩)];show (⟨st1.env,_⟩ : St).get t=_;rw[show (⟨st1.env,hins st1.heap (b.dst.getD 0) bb⟩ : St).get t=st1.get t from rfl,(ZaM bA t).1,if_pos e1]
  ·rw[if_neg e1];have e3:(⟨ap.env,hrep ap.heap e ba⟩ : St).get t=ap.get t:=rfl;rw[e3,(ZaM bg t).1];split
   ·rfl
   ·rw[show (⟨st1.env,hins st1.heap (b.dst.getD 0) bb⟩ : St).get t=st1.get t from rfl,g1 t e1];rfl
 ·rw[(ZaM bR 0).2,(ZaM bp 0).2];simp only;rw[bK,bk,Zyb gL]
theorem Zxu(dF:ZAa ops ra ni){k i e:Nat}{a b:Oper}(ha:ops[k]?=some a)(hb:ops[i]?=some b)(d1:disj a.dst (Zge ops b)=true)(d2:disj b.dst (Zge ops a)=true)(d3:Zmm a.dst b.dst=true)(dU:ZkN ra k a=true)(eq:plOf ra i b=some e)(gL:a.dst.getD 0≠e)
  (hne:k≠i) (dk:k ∉ Zeo ah i) {st st1 st2:St} {o1 o2:List Prop} (h1:Zhg P N T ops ra ah ni k st=some (st1,o1)) (h2:Zhg P N T ops ra ah ni i st1=some (st2,o2)) :
  ∃ap aN,Zhg P N T ops ra ah ni i st=some (ap,o2)/\Zhg P N T ops ra ah ni k ap=some (aN,o1)/\Eqv aN st2:=by
 obtain⟨a',va,sa,cA,bf,cz,bA⟩:=ZdY h1;obtain⟨b',vb,sb,aF,cm,de,bR⟩:=ZdY h2;rw[ha]at cA;cases cA;rw[hb]at aF;cases aF;obtain⟨ba,kx,gK,rfl,ge⟩:=ZlK dU bf;obtain⟨bb,ii,rfl,sb3,gf⟩:=ZmP eq cm;have bK:st1.heap=hins st.heap (a.dst.getD 0) ba:=(ZaM bA 0).2;have g1:∀t,a.dst≠some t->st1.get t=st.get t:=fun t ht=>by rw[(ZaM bA t).1,if_neg ht];rfl
 have bS:=gf st (fun t ht=>(g1 t (ZbQ d1 ht)).symm) (by rw[bK,Zfk,if_neg gL]);obtain⟨ap,bg⟩:=Zfi (st2:=⟨st.env,hrep st.heap e bb⟩) bR;have g2:∀t,b.dst≠some t->ap.get t=st.get t:=fun t ht=>by rw[(ZaM bg t).1,if_neg ht];rfl
 have bk:ap.heap=hrep st.heap e bb:=(ZaM bg 0).2;have jo:ZdN N (a.dst.getD 0) ap=true:=by
  obtain⟨q1,q2⟩:=Zdy gK;refine ZmO (Zjw (st1:=⟨st.env,hrep st.heap e bb⟩) q1 (fun t=>rfl) (ZoI de (dF k a ha (ZlH dU)) hne dk) bg) ?_;rw[bk];exact Zty (ii _ gL) q2
 have b5:=ge ap (fun t ht=>g2 t (ZbQ d2 ht)) jo;obtain⟨aN,bp⟩:=Zfi (st2:=⟨ap.env,hins ap.heap (a.dst.getD 0) ba⟩) bA;have xb:bxOk (Zeo ah (ops.size+i)) st b.op=true:=by rw[Zfq (st:=st1) _ (fun t ht=>(g1 t (ZbQ d1 ht)).symm)];exact Zfd h2 hb
 have xa:bxOk (Zeo ah (ops.size+k)) ap a.op=true:=by rw[Zfq (st:=st) _ (fun t ht=>g2 t (ZbQ d2 ht))];exact Zfd h1 ha
 refine⟨ap,aN,ZgB hb xb bS de bg,ZgB ha xa b5 cz bp,⟨fun t=>?_,?_⟩⟩
 ·rw[(ZaM bR t).1,(ZaM bp t).1];have hd:¬(a.dst=some t/\b.dst=some t):=by
   rintro ⟨e1,e2⟩;rw[e1,e2]at d3;simp[Zmm]at d3
  by_cases e1:a.dst=some t
  ·rw[if_pos e1,if_neg (fun e2=>hd ⟨e1,e2⟩)];show (⟨st1.env,_⟩ : St).get t=_;rw[show (⟨st1.env,hrep st1.heap e bb⟩ : St).get t=st1.get t from rfl,(ZaM bA t).1,if_pos e1]
  ·rw[if_neg e1];have e3:(⟨ap.env,hins ap.heap (a.dst.getD 0) ba⟩ : St).get t=ap.get t:=rfl;rw[e3,(ZaM bg t).1];split
   ·rfl
   ·rw[show (⟨st1.env,hrep st1.heap e bb⟩ : St).get t=st1.get t from rfl,g1 t e1];rfl
 ·rw[(ZaM bR 0).2,(ZaM bp 0).2];simp only;rw[bK,bk,Zyb gL]
theorem Zyy{op:Op}{st:St}{c:Nat}{l:List Nat}(h:bxOk (c :: l) st op=true)(hl:isLd op=true):∀x∈ZcR op,∀id,(evo st x).says id=true->id=c:=by
 unfold bxOk at h;cases op<;>simp only[isLd]at hl<;>try (cases hl;done)
 rename_i t y;intro x hx id hs;simp only[ZcR,List.mem_singleton]at hx;subst hx;simp only at h;split at h
 ·rename_i d off hq;rw[hq]at hs;simp only[V.says,C.says]at hs;rw[<-ZaO h];exact(ZaO hs).symm
 ·rename_i hq;rw[hq]at hs;simp only[V.says,C.says]at hs;cases hs
 ·cases h
theorem Zxt{k i e c:Nat}{l:List Nat}{a b:Oper}(ha:ops[k]?=some a)(hb:ops[i]?=some b)(d1:disj a.dst (Zge ops b)=true)(d2:disj b.dst (Zge ops a)=true)(d3:Zmm a.dst b.dst=true)(fW:isLd a.op=true)(b6:ZdL ra.hc k=none)(lr:Zeo ah (ops.size+k)=c :: l)(eq:plOf ra i b=some e)(ls:c≠e)
  {st st1 st2:St} {o1 o2:List Prop} (h1:Zhg P N T ops ra ah ni k st=some (st1,o1)) (h2:Zhg P N T ops ra ah ni i st1=some (st2,o2)) :
  ∃ap aN,Zhg P N T ops ra ah ni i st=some (ap,o2)/\Zhg P N T ops ra ah ni k ap=some (aN,o1)/\Eqv aN st2:=by
 obtain⟨a',va,sa,cA,bf,cz,bA⟩:=ZdY h1;obtain⟨b',vb,sb,aF,cm,de,bR⟩:=ZdY h2;rw[ha]at cA;cases cA;rw[hb]at aF;cases aF;have fP:=Zfd h1 ha;rw[lr]at fP;have c1:clsX ra k a=1:=by
  rw[Zkh b6];cases hq:a.op<;>rw[hq]at fW<;>first | (cases fW;done)|rfl
 obtain⟨ea,jp,_⟩:=Zfj (st2:=st) (by omega) (fun t _=>rfl) (fun _=>rfl) (fun _ h=>h) bf;have dp:st1.heap=st.heap:=(ZaM bA 0).2.trans (jp (by omega));have g1:∀t,a.dst≠some t->st1.get t=st.get t:=fun t ht=>by rw[(ZaM bA t).1,if_neg ht];exact ZiW ea t
 have eb:=ZlG cm;obtain⟨bb,ii,rfl,sb3,gf⟩:=ZmP eq cm;have bS:=gf st (fun t ht=>(g1 t (ZbQ d1 ht)).symm) (by rw[dp]);obtain⟨ap,bg⟩:=Zfi (st2:=⟨st.env,hrep st.heap e bb⟩) bR;have g2:∀t,b.dst≠some t->ap.get t=st.get t:=fun t ht=>by rw[(ZaM bg t).1,if_neg ht];rfl
 have bk:ap.heap=hrep st.heap e bb:=(ZaM bg 0).2;have b5:Zep P N T ops ra k a ap=some (va,o1,ap):=by
  refine ZlL c1 (fun t ht=>g2 t (ZbQ d2 ht)) (fun x er id b0 dG bX=>?_) bf;have hid:=Zyy fP fW x er id dG;rw[bk,Zrs,if_neg (by rw[hid];exact Ne.symm ls)];exact bX
 obtain⟨aN,bp⟩:=Zfi (st2:=ap) bA;have xb:bxOk (Zeo ah (ops.size+i)) st b.op=true:=by rw[Zfq (st:=st1) _ (fun t ht=>(g1 t (ZbQ d1 ht)).symm)];exact Zfd h2 hb
 have xa:bxOk (Zeo ah (ops.size+k)) ap a.op=true:=by rw[Zfq (st:=st) _ (fun t ht=>g2 t (ZbQ d2 ht))];exact Zfd h1 ha
 refine⟨ap,aN,ZgB hb xb bS de bg,ZgB ha xa b5 cz bp,⟨fun t=>?_,?_⟩⟩
 ·rw[(ZaM bR t).1,(ZaM bp t).1];have hd:¬(a.dst=some t/\b.dst=some t):=by
   rintro ⟨e1,e2⟩;rw[e1,e2]at d3;simp[Zmm]at d3
  by_cases e1:a.dst=some t
  ·rw[if_pos e1,if_neg (fun e2=>hd ⟨e1,e2⟩),ZiW eb,(ZaM bA t).1,if_pos e1]
  ·rw[if_neg e1];rw[(ZaM bg t).1];split
   ·rfl
   ·rw[ZiW eb,g1 t e1];rfl
 ·rw[(ZaM bR 0).2,(ZaM bp 0).2,bk];simp only;rw[dp]
theorem Zxs{k i e c:Nat}{l:List Nat}{a b:Oper}(ha:ops[k]?=some a)(hb:ops[i]?=some b)(d1:disj a.dst (Zge ops b)=true)(d2:disj b.dst (Zge ops a)=true)(d3:Zmm a.dst b.dst=true)(lu:isLd b.op=true)(b6:ZdL ra.hc i=none)(lv:Zeo ah (ops.size+i)=c :: l)(dU:plOf ra k a=some e)(ls:c≠e)
  {st st1 st2:St} {o1 o2:List Prop} (h1:Zhg P N T ops ra ah ni k st=some (st1,o1)) (h2:Zhg P N T ops ra ah ni i st1=some (st2,o2)) :
  ∃ap aN,Zhg P N T ops ra ah ni i st=some (ap,o2)/\Zhg P N T ops ra ah ni k ap=some (aN,o1)/\Eqv aN st2:=by
 obtain⟨a',va,sa,cA,bf,cz,bA⟩:=ZdY h1;obtain⟨b',vb,sb,aF,cm,de,bR⟩:=ZdY h2;rw[ha]at cA;cases cA;rw[hb]at aF;cases aF;have fQ:=Zfd h2 hb;rw[lv]at fQ;have c1:clsX ra i b=1:=by
  rw[Zkh b6];cases hq:b.op<;>rw[hq]at lu<;>first | (cases lu;done)|rfl
 obtain⟨ba,kx,rfl,sa3,ge⟩:=ZmP dU bf;have bK:st1.heap=hrep st.heap e ba:=(ZaM bA 0).2;have g1:∀t,a.dst≠some t->st1.get t=st.get t:=fun t ht=>by rw[(ZaM bA t).1,if_neg ht];rfl
 obtain⟨eb,ky,_⟩:=Zfj (st2:=st1) (by omega) (fun t _=>rfl) (fun _=>rfl) (fun _ h=>h) cm;have bS:Zep P N T ops ra i b st=some (vb,o2,st):=by
  refine ZlL c1 (fun t ht=>(g1 t (ZbQ d1 ht)).symm) (fun x er id b0 dG bX=>?_) cm;have hid:=Zyy fQ lu x er id dG;rw[bK,Zrs,if_neg (by rw[hid];exact Ne.symm ls)]at bX;exact bX
 obtain⟨ap,bg⟩:=Zfi (st2:=st) bR;have g2:∀t,b.dst≠some t->ap.get t=st.get t:=fun t ht=>by rw[(ZaM bg t).1,if_neg ht]
 have bk:ap.heap=st.heap:=(ZaM bg 0).2;have b5:=ge ap (fun t ht=>g2 t (ZbQ d2 ht)) (by rw[bk]);obtain⟨aN,bp⟩:=Zfi (st2:=⟨ap.env,hrep ap.heap e ba⟩) bA;have xb:bxOk (Zeo ah (ops.size+i)) st b.op=true:=by rw[Zfq (st:=st1) _ (fun t ht=>(g1 t (ZbQ d1 ht)).symm)];exact Zfd h2 hb
 have xa:bxOk (Zeo ah (ops.size+k)) ap a.op=true:=by rw[Zfq (st:=st) _ (fun t ht=>g2 t (ZbQ d2 ht))];exact Zfd h1 ha
 refine⟨ap,aN,ZgB hb xb bS de bg,ZgB ha xa b5 cz bp,⟨fun t=>?_,?_⟩⟩
 ·rw[(ZaM bR t).1,(ZaM bp t).1];have hd:¬(a.dst=some t/\b.dst=some t):=by
   rintro ⟨e1,e2⟩;rw[e1,e2]at d3;simp[Zmm]at d3
  by_cases e1:a.dst=some t
  ·rw[if_pos e1,if_neg (fun e2=>hd ⟨e1,e2⟩),ZiW eb,(ZaM bA t).1,if_pos e1]
  ·rw[if_neg e1];rw[show (⟨ap.env,hrep ap.heap e ba⟩ : St).get t=ap.get t from rfl,(ZaM bg t).1];split
   ·rfl
   ·rw[ZiW eb,g1 t e1]
 ·rw[(ZaM bR 0).2,(ZaM bp 0).2,ky (by omega),bK,bk]
theorem Zzt{T:Tab}{st st':St}{t d off:Nat}{v:V}{an:Option Ans}{obl:List Prop}(h:Znp T st t (.one (.ptr d off)) v an=some (obl,st')):∀id,id≠d->hget st'.heap id=hget st.heap id:=by
 intro id hne;unfold Znp at h;split at h
 ·split at h
  ·simp only at h;split at h
   ·split at h
    ·cases h;simp only[Zpw];rw[if_neg (Ne.symm hne)]
    ·cases h
   ·cases h
  ·cases h
 ·cases h
theorem ZDm{o:Oper}{i d off:Nat}{st st':St}{t:TypeId}{x y:Operand}{v:V}{obl:List Prop}(ho:o.op=.store t x y)(hx:evo st x=.one (.ptr d off))(h:ZoO P N T ops ra i o st=some (v,obl,st')):∀id,id≠d->hget st'.heap id=hget st.heap id:=by
 intro id hne;unfold ZoO at h;split at h
 ·cases h
 ·cases h;rfl
 ·split at h
  ·cases h
  rename_i v0 bP st0 bq;split at h
  ·cases h
  split at h;rotate_left
  ·cases h
  split at h;rotate_left
  ·cases h
  cases h;unfold evOp at bq;simp only[ho,hx]at bq;split at bq
  ·rename_i q hq;cases bq;exact Zzt hq id hne
  ·cases bq
theorem ZyV{k i:Nat}(ay:okLS ops ra ah k i=true){st st1 st2:St}{o1 o2:List Prop}(h1:Zhg P N T ops ra ah ni k st=some (st1,o1))(h2:Zhg P N T ops ra ah ni i st1=some (st2,o2)) :
  ∃ap aN,Zhg P N T ops ra ah ni i st=some (ap,o2)/\Zhg P N T ops ra ah ni k ap=some (aN,o1)/\Eqv aN st2:=by
 obtain⟨a,va,sa,ha,bf,cz,bA⟩:=ZdY h1;obtain⟨b,vb,sb,hb,cm,de,bR⟩:=ZdY h2;have fP:=Zfd h1 ha;have fQ:=Zfd h2 hb;unfold okLS at ay;rw[ha,hb]at ay;split at ay;rotate_left
 ·cases ay
 rename_i a' b' c l d l' ea eb lr lv;cases ea;cases eb;simp only[Bool.and_eq_true,Bool.not_eq_true',Option.isNone_iff_eq_none]at ay;obtain⟨⟨⟨⟨⟨⟨⟨d1,d2⟩,d3⟩,fW⟩,kz⟩,b6⟩,hk2⟩,kC⟩:=ay;have kC:c≠d:=Nat.ne_of_beq_eq_false kC;rw[lr]at fP;rw[lv]at fQ;have c1:clsX ra k a=1:=by
  rw[Zkh b6];cases hq:a.op<;>rw[hq]at fW<;>first | (cases fW;done)|rfl
 have c2:clsX ra i b=2:=by
  rw[Zkh hk2];cases hq:b.op<;>rw[hq]at kz<;>first | (cases kz;done)|rfl
 obtain⟨ea,jp,_⟩:=Zfj (st2:=st) (by omega) (fun t _=>rfl) (fun _=>rfl) (fun _ h=>h) bf;have dp:st1.heap=st.heap:=(ZaM bA 0).2.trans (jp (by omega));have g1:∀t,a.dst≠some t->st1.get t=st.get t:=fun t ht=>by rw[(ZaM bA t).1,if_neg ht];exact ZiW ea t
 obtain⟨eb,_,bS⟩:=Zfj (st2:=st) (by omega) (fun t ht=>(g1 t (ZbQ d1 ht)).symm) (fun _=>dp.symm) (fun h=>by omega) cm;rw[if_neg (by omega)]at bS;obtain⟨ap,bg⟩:=Zfi (st2:=⟨st.env,sb.heap⟩) bR;have g2:∀t,b.dst≠some t->ap.get t=st.get t:=fun t ht=>by rw[(ZaM bg t).1,if_neg ht];rfl
 have jq:ap.heap=sb.heap:=(ZaM bg 0).2;have jr:∀id,id≠d->hget sb.heap id=hget st.heap id:=by
  intro id hne;rw[<-dp];unfold Zep at cm;rw[hk2]at cm;simp only at cm;unfold bxOk at fQ;cases hq:b.op<;>rw[hq]at kz<;>try (cases kz;done)
  rename_i t x y;rw[hq]at fQ;simp only at fQ;split at fQ
  ·rename_i d' off hx;have:=ZaO fQ;subst this;exact ZDm hq hx cm id hne
  ·cases fQ
 have b5:Zep P N T ops ra k a ap=some (va,o1,ap):=by
  refine ZlL c1 (fun t ht=>g2 t (ZbQ d2 ht)) (fun x er id bb dG aF=>?_) bf;rw[jq,jr id ?_]
  ·exact aF
  rintro rfl;unfold bxOk at fP;cases hq:a.op<;>rw[hq]at fW<;>try (cases fW;done)
  rename_i t y;rw[hq]at fP er;simp only[ZcR,List.mem_singleton]at er;subst er;simp only at fP;split at fP
  ·rename_i d' off hx;have:=ZaO fP;subst this;simp only[hx,V.says,C.says]at dG;exact kC (ZaO dG)
  ·rename_i hx;simp only[hx,V.says,C.says]at dG;cases dG
  ·cases fP
 obtain⟨aN,bp⟩:=Zfi (st2:=ap) bA;have xb:bxOk (Zeo ah (ops.size+i)) st b.op=true:=by rw[Zfq (st:=st1) _ (fun t ht=>(g1 t (ZbQ d1 ht)).symm)];exact Zfd h2 hb
 have xa:bxOk (Zeo ah (ops.size+k)) ap a.op=true:=by rw[Zfq (st:=st) _ (fun t ht=>g2 t (ZbQ d2 ht))];exact Zfd h1 ha
 refine⟨ap,aN,ZgB hb xb bS de bg,ZgB ha xa b5 cz bp,⟨fun t=>?_,?_⟩⟩
 ·rw[(ZaM bR t).1,(ZaM bp t).1];have hd:¬(a.dst=some t/\b.dst=some t):=by
   rintro ⟨e1,e2⟩;rw[e1,e2]at d3;simp[Zmm]at d3
  by_cases e1:a.dst=some t
  ·rw[if_pos e1,if_neg (fun e2=>hd ⟨e1,e2⟩),ZiW eb,(ZaM bA t).1,if_pos e1]
  ·rw[if_neg e1,(ZaM bg t).1];split
   ·rfl
   ·rw[ZiW eb,g1 t e1];rfl
 ·rw[(ZaM bR 0).2,(ZaM bp 0).2,jq]
theorem ZBv(dF:ZAa ops ra ni){k i:Nat}(ay:Zoc N ops ra ah k i=true)(hne:k≠i)(dk:k ∉ Zeo ah i){st st1 st2:St}{o1 o2:List Prop}(h1:Zhg P N T ops ra ah ni k st=some (st1,o1))(h2:Zhg P N T ops ra ah ni i st1=some (st2,o2))
  (hJ:∀o,ops[i]?=some o->clsX ra i o=3->ZhT st (o.dst.getD 0) N=true) :
  ∃ap aN,Zhg P N T ops ra ah ni i st=some (ap,o2)/\Zhg P N T ops ra ah ni k ap=some (aN,o1)/\Eqv aN st2:=by
 obtain⟨a,va,sa,ha,bf,cz,bA⟩:=ZdY h1;obtain⟨b,vb,sb,hb,cm,de,bR⟩:=ZdY h2;unfold Zoc at ay;rw[Bool.or_eq_true,Bool.or_eq_true]at ay;rcases ay with (ay|ay)|ay;rotate_left
 ·exact ZyV ay h1 h2
 ·unfold okLC at ay;rw[ha,hb]at ay;simp only[Bool.and_eq_true]at ay;obtain⟨⟨⟨d1,d2⟩,d3⟩,ay⟩:=ay;split at ay
  ·rename_i e im io;rw[Bool.or_eq_true]at ay;rcases ay with ay|ay
   ·rw[Bool.and_eq_true]at ay;exact Zxv dF ha hb d1 d2 d3 im ay.1 (Nat.ne_of_beq_eq_false (by simpa using ay.2)) h1 h2 hJ
   ·simp only[Bool.and_eq_true,Option.isNone_iff_eq_none]at ay;obtain⟨⟨q1,q2⟩,q3⟩:=ay;split at q3
    ·rename_i c l iR;exact Zxs ha hb d1 d2 d3 q1 q2 iR im (Nat.ne_of_beq_eq_false (by simpa using q3)) h1 h2
    ·cases q3
  ·rename_i e im io;rw[Bool.or_eq_true]at ay;rcases ay with ay|ay
   ·rw[Bool.and_eq_true]at ay;exact Zxu dF ha hb d1 d2 d3 ay.1 io (Nat.ne_of_beq_eq_false (by simpa using ay.2)) hne dk h1 h2
   ·simp only[Bool.and_eq_true,Option.isNone_iff_eq_none]at ay;obtain⟨⟨q1,q2⟩,q3⟩:=ay;split at q3
    ·rename_i c l iR;exact Zxt ha hb d1 d2 d3 q1 q2 iR io (Nat.ne_of_beq_eq_false (by simpa using q3)) h1 h2
    ·cases q3
  ·cases ay
 unfold ZGC at ay;rw[ha,hb]at ay;simp only[Bool.and_eq_true,Bool.or_eq_true]at ay;obtain⟨⟨⟨d1,d2⟩,d3⟩,dR⟩:=ay;rcases dR with (dR|⟨hR1,hR2⟩)|⟨⟨hR1,hR2⟩,hR3⟩;rotate_left
 ·exact ZyT dF ha hb d1 d2 d3 hR1 hR2 hne dk h1 h2 hJ
 ·exact ZyU dF ha hb d1 d2 d3 (by rw[Bool.or_eq_true];exact hR1) (by rw[Bool.or_eq_true];exact hR2) (fun t ht=>Nat.le_of_ble_eq_true (List.all_eq_true.1 hR3 t ht)) hne dk h1 h2 hJ
 have js:(clsX ra k a<=1/\clsX ra i b<=1)\/(clsX ra k a=0/\clsX ra i b<=3)\/(clsX ra i b=0/\clsX ra k a<=3)\/(clsX ra k a=3/\clsX ra i b=1/\∀t∈Zge ops b,t<N)\/(clsX ra k a=1/\clsX ra i b=3/\ZtJ ra i b=true):=by
  rcases dR with (((⟨h,h'⟩|⟨h,h'⟩)|⟨h,h'⟩)|⟨⟨h,h'⟩,h''⟩)|⟨⟨h,h'⟩,h''⟩
  ·exact .inl ⟨Nat.le_of_ble_eq_true h,Nat.le_of_ble_eq_true h'⟩
  ·exact .inr (.inl ⟨ZaO h,Nat.le_of_ble_eq_true h'⟩)
  ·exact .inr (.inr (.inl ⟨ZaO h,Nat.le_of_ble_eq_true h'⟩))
  ·exact .inr (.inr (.inr (.inl ⟨ZaO h,ZaO h',fun t ht=>Nat.le_of_ble_eq_true (List.all_eq_true.1 h'' t ht)⟩)))
  ·exact .inr (.inr (.inr (.inr ⟨ZaO h,ZaO h',h''⟩)))
 -- k at st
 obtain⟨ea,jp,_⟩:=Zfj (st2:=st) (by omega) (fun t _=>rfl) (fun _=>rfl) (fun _ h=>h) bf;have dp:clsX ra k a<=1->st1.heap=st.heap:=fun h=>(ZaM bA 0).2.trans (jp h);have g1:∀t,a.dst≠some t->st1.get t=st.get t:=fun t ht=>by rw[(ZaM bA t).1,if_neg ht];exact ZiW ea t
 -- i at st
 have hkc:clsX ra k a<=3:=by omega
 have hic:clsX ra i b<=3:=by omega
 obtain⟨eb,ky,bS⟩ : sb.env=st1.env/\(clsX ra i b<=1->sb.heap=st1.heap)/\Zep P N T ops ra i b st=some (vb,o2,⟨st.env,if clsX ra i b<=1 then st.heap else sb.heap⟩):=by
  by_cases hx:clsX ra k a=3/\clsX ra i b=1
  ·obtain⟨e1,e2,_⟩:=Zfj (st2:=st1) (by omega) (fun t _=>rfl) (fun _=>rfl) (fun _ h=>h) cm;refine⟨e1,e2,?_⟩;rw[if_pos (by omega)];have hN:∀t∈Zge ops b,t<N:=by
    rcases js with h|h|h|h|h
    ·omega
    ·omega
    ·omega
    ·exact h.2.2
    ·omega
   refine ZlL hx.2 (fun t ht=>(g1 t (ZbQ d1 ht)).symm) (fun x er id bb dG aF=>?_) cm;rw[(ZaM bA 0).2]at aF;rcases Zvv hx.1 bf with rfl|⟨hq,hn⟩
   ·exact aF
   ·rcases hn id bb aF with rfl|h
    ·exfalso;have:(evo st1 x).says (a.dst.getD 0)=false:=by
      cases x with
      |tmp t=>
       have ht:t∈Zge ops b:=List.mem_append.2 (.inl (ZpP er));show (st1.get t).says _=false;rw[g1 t (ZbQ d1 ht)];exact Zpp (Zdy hq).1 t (hN t ht)
      |const v=>exact Zvx v _
      |func f=>rfl
      |global g=>rfl
     simp only[this]at dG;cases dG
    ·exact h
  ·exact Zfj (st2:=st) (by omega) (fun t ht=>(g1 t (ZbQ d1 ht)).symm) (fun h=>(dp (by omega)).symm) (fun hc hq=>by
    obtain⟨_,q2⟩:=Zdy hq;refine ZmO (hJ b hb hc) ?_;rw[<-dp (by omega)];exact q2) cm
 obtain⟨ap,bg⟩:=Zfi (st2:=⟨st.env,if clsX ra i b<=1 then st.heap else sb.heap⟩) bR;have xb:bxOk (Zeo ah (ops.size+i)) st b.op=true:=by rw[Zfq (st:=st1) _ (fun t ht=>(g1 t (ZbQ d1 ht)).symm)];exact Zfd h2 hb
 have cu:=ZgB (ah:=ah) (ni:=ni) hb xb bS de bg;have g2:∀t,b.dst≠some t->ap.get t=st.get t:=fun t ht=>by rw[(ZaM bg t).1,if_neg ht];rfl
 have jq:clsX ra i b<=1->ap.heap=st.heap:=fun h=>by rw[(ZaM bg 0).2];simp only[if_pos h]
 -- k behind i
 have b5:Zep P N T ops ra k a ap=some (va,o1,⟨ap.env,if clsX ra k a<=1 then ap.heap else sa.heap⟩):=by
  by_cases hx:clsX ra k a=1/\clsX ra i b=3
  ·rw[if_pos (by omega)];have kU:ZtJ ra i b=true:=by
    rcases js with h|h|h|h|h
    ·omega
    ·omega
    ·omega
    ·omega
    ·exact h.2.2
   refine ZlL hx.1 (fun t ht=>g2 t (ZbQ d2 ht)) (fun x er id bb dG aF=>?_) bf;rw[(ZaM bg 0).2];simp only[if_neg (show ¬clsX ra i b<=1 by omega)];have:=ZxR hx.2 kU bS id bb aF;simpa only[if_neg (show ¬clsX ra i b<=1 by omega)]using this
  ·refine(Zfj (st2:=ap) (by omega) (fun t ht=>g2 t (ZbQ d2 ht)) (fun h=>jq (by omega)) (fun hc hq=>by
    obtain⟨q1,q2⟩:=Zdy hq;refine ZmO (Zjw (st1:=⟨st.env,if clsX ra i b<=1 then st.heap else sb.heap⟩) q1 (fun t=>rfl) (ZoI de (dF k a ha hc) hne dk) bg) ?_;rw[jq (by omega)];exact q2) bf).2.2
 obtain⟨aN,bp⟩:=Zfi (st2:=⟨ap.env,if clsX ra k a<=1 then ap.heap else sa.heap⟩) bA;have xa:bxOk (Zeo ah (ops.size+k)) ap a.op=true:=by rw[Zfq (st:=st) _ (fun t ht=>g2 t (ZbQ d2 ht))];exact Zfd h1 ha
 refine⟨ap,aN,cu,ZgB ha xa b5 cz bp,⟨fun t=>?_,?_⟩⟩
 ·rw[(ZaM bR t).1,(ZaM bp t).1];have hd:¬(a.dst=some t/\b.dst=some t):=by
   rintro ⟨e1,e2⟩;rw[e1,e2]at d3;simp[Zmm]at d3
  by_cases e1:a.dst=some t
  ·rw[if_pos e1,if_neg (fun e2=>hd ⟨e1,e2⟩),ZiW eb,(ZaM bA t).1,if_pos e1]
  ·rw[if_neg e1];have e3:(⟨ap.env,if clsX ra k a<=1 then ap.heap else sa.heap⟩ : St).get t=ap.get t:=rfl;rw[e3,(ZaM bg t).1];split
   ·rfl
   ·rw[ZiW eb,g1 t e1];rfl
 ·rw[(ZaM bR 0).2,(ZaM bp 0).2];simp only;by_cases c1:clsX ra k a<=1
  ·rw[if_pos c1,(ZaM bg 0).2];simp only;by_cases c2:clsX ra i b<=1
   ·rw[if_pos c2,ky c2,dp c1]
   ·rw[if_neg c2]
  ·rw[if_neg c1,ky (by omega),(ZaM bA 0).2]
theorem ZCJ{i:Nat}{st st2 st':St}{obl:List Prop}(hcls:∀o,ops[i]?=some o->ZsI ra i o=true)(he:Eqv st st2)(h:Zhg P N T ops ra ah ni i st=some (st',obl)):∃aN,Zhg P N T ops ra ah ni i st2=some (aN,obl)/\Eqv st' aN:=by
 obtain⟨o,v,s1,ho,hr,hc,hp⟩:=ZdY h;have e1:=ZlG hr;obtain⟨jt,eQ,hph⟩:=ZBL (hcls o ho) he hr;obtain⟨aN,bp⟩:=Zfi (st2:=⟨st2.env,jt⟩) hp;refine⟨aN,ZgB ho (by rw[Zfq (ops:=ops) (st:=st) _ (fun t _=>he.env t)];exact Zfd h ho) eQ hc bp,fun t=>?_,?_⟩
 ·rw[(ZaM hp t).1,(ZaM bp t).1];split
  ·rfl
  ·rw[ZiW e1];exact he.env t
 ·rw[(ZaM hp 0).2,(ZaM bp 0).2];exact hph
theorem Zyg:∀{l:List Nat}{st st2 st':St}{obl:List Prop},(∀i∈l,∀o,ops[i]?=some o->ZsI ra i o=true)->Eqv st st2->Zqm P N T ops ra ah ni l st=some (st',obl)->∃aN,Zqm P N T ops ra ah ni l st2=some (aN,obl)/\Eqv st' aN
 | [],st,st2,st',obl,hcls,he,h=>by cases h;exact⟨st2,rfl,he⟩
 |i :: l,st,st2,st',obl,hcls,he,h=>by
  simp only[Zqm]at h
  split at h
  ·cases h
  rename_i s1 o1 h1
  split at h
  ·cases h
  rename_i s2 o2 h2
  cases h
  obtain⟨s1',h3,h4⟩:=ZCJ (hcls i (by simp)) he h1
  obtain⟨s2',h5,h6⟩:=Zyg (fun j hj=>hcls j (by simp[hj])) h4 h2
  exact⟨s2',by simp only[Zqm,h3,h5],h6⟩
theorem ZqT(dF:ZAa ops ra ni){i:Nat}{post:List Nat}:∀{dE:List Nat}{st F:St}{obl:List Prop},(∀k∈dE++post,∀o,ops[k]?=some o->ZsI ra k o=true)->(∀k∈dE,Zoc N ops ra ah k i=true/\k≠i/\k ∉ Zeo ah i/\i ∉ Zeo ah k) ->
  (∀o,ops[i]?=some o->clsX ra i o=3->ZhT st (o.dst.getD 0) N=true)->Zqm P N T ops ra ah ni (dE++i :: post) st=some (F,obl) ->
  ∃st1 oi F' o',Zhg P N T ops ra ah ni i st=some (st1,oi)/\Zqm P N T ops ra ah ni (dE++post) st1=some (F',o')/\Eqv F F'/\∀q∈oi++o',q∈obl
 | [],st,F,obl,hcls,hp,hJ,h=>by
  simp only[List.nil_append,Zqm]at h
  split at h
  ·cases h
  rename_i s1 o1 h1
  split at h
  ·cases h
  rename_i s2 o2 h2
  cases h
  exact⟨s1,o1,_,o2,h1,h2,Eqv.refl _,fun q hq=>hq⟩
 |k :: dE,st,F,obl,hcls,hp,hJ,h=>by
  simp only[List.cons_append,Zqm]at h
  split at h
  ·cases h
  rename_i s1 o1 h1
  split at h
  ·cases h
  rename_i s2 o2 h2
  cases h
  obtain⟨ay,hne,dk,hik⟩:=hp k (by simp)
  obtain⟨a,va,sa,ha,bf,cz,bA⟩:=ZdY h1
  have hJ1:∀o,ops[i]?=some o->clsX ra i o=3->ZhT s1 (o.dst.getD 0) N=true:=fun o ho hc=>by
   have ea:=ZlG bf
   exact Zjw (hJ o ho hc) (ZiW ea) (ZoI cz (dF i o ho hc) (Ne.symm hne) hik) bA
  obtain⟨t1,oi,F1,o',h3,h4,h5,h6⟩:=ZqT dF (fun j hj=>hcls j (List.mem_cons_of_mem _ hj)) (fun k' hk'=>hp k' (by simp[hk'])) hJ1 h2
  obtain⟨t1',t2',h7,h8,h9⟩:=ZBv dF ay hne dk h1 h3 hJ
  obtain⟨F2,h10,gM⟩:=Zyg (l:=dE++post) (fun j hj=>hcls j (List.mem_cons_of_mem _ hj)) (st:=t1) (st2:=t2') ⟨fun t=>(h9.env t).symm,h9.heap.symm⟩ h4
  refine⟨t1',oi,F2,o1++o',h7,by simp only[List.cons_append,Zqm,h8,h10],h5.trans gM,fun q hq=>?_⟩
  rcases List.mem_append.1 hq with hq|hq
  ·exact List.mem_append.2 (.inr (h6 q (List.mem_append.2 (.inl hq))))
  ·rcases List.mem_append.1 hq with hq|hq
   ·exact List.mem_append.2 (.inl hq)
   ·exact List.mem_append.2 (.inr (h6 q (List.mem_append.2 (.inr hq))))
end
end Go.Proofs.YtdjfoojllbfcgaaGreat
