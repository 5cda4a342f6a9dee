import Derived.Test.YtdjfoojllbfcgaaGreatKAmQ
namespace Go.Proofs.YtdjfoojllbfcgaaGreat
open Go.RowKit
set_option linter.unusedSimpArgs false
set_option linter.unusedVariables false
def Zvf:List Operand→List Nat | []=>[] | .tmp t :: l=>t :: Zvf l|_ :: l=>Zvf l
def ZfG(ops:Array Oper)(o:Oper):List Nat:=Zvf (ZcB o.op)++match o.guard with
 |none=>[]
 |some (j,_)=>match (ops[j]?).bind (·.dst)with
  |some t=>[t]
  |none=>[]
theorem Zpz{t:Nat}:∀{l:List Operand},Operand.tmp t∈l→t∈Zvf l
 | [],h=>by cases h
 |x :: l,h=>by
  rcases List.mem_cons.1 h with rfl|h
  ·simp[Zvf]
  ·have:=Zpz h
   cases x<;>simp[Zvf,this]
theorem ZkA{st st2:St}{ops:Array Oper}{o:Oper}(h:∀t∈ZfG ops o,st2.get t=st.get t):∀x∈ZcB o.op,evo st2 x=evo st x:=by
 intro x hx;cases x with
 |tmp t=>exact h t (List.mem_append.2 (.inl (Zpz hx)))
 |_=>rfl
theorem Zjq{st st2:St}{ops:Array Oper}{o:Oper}(h:∀t∈ZfG ops o,st2.get t=st.get t):ZgS ops st2 o=ZgS ops st o:=by
 unfold ZgS;split
 ·rfl
 ·rename_i j want hg;split
  ·rename_i t ht;rw[h t (by unfold ZfG;rw[hg];simp[ht])]
  ·rfl
theorem Zsj{P:Program}{N:Nat}{T:Tab}{st:St}{o:Oper}{ra:RA}{i:Nat}{p:V×List Prop×St}(hc:ZeM ra i o.op=3)(h:evOp P N T o st (Zdk ra.an i)=some p):Zdm N (o.dst.getD 0) st=true:=by
 obtain⟨dst,op,type,pos,after,guard⟩:=o;simp only at hc;have hbox:∀{l},Zpp N st (dst.getD 0) l=some p→Zdm N (dst.getD 0) st=true:=by
  intro l hb;unfold Zpp at hb;split at hb
  ·assumption
  ·cases hb
 cases op<;>(try (simp only[ZeM]at hc))<;>(try (exact absurd hc (by decide)))
 case move x=>split at hc<;>cases hc
 case assign x=>split at hc<;>cases hc
 case alloc e=>
  simp only[evOp]at h
  repeat' split at h
  all_goals first | (cases h;done)|exact hbox h
 case box e x=>
  simp only[evOp]at h
  repeat' split at h
  all_goals first | (cases h;done)|exact hbox h
 case makeSlice t l c=>
  split at hc
  ·cases hc
  rename_i hx;simp only[evOp]at h;split at h
  ·rename_i hk;exact absurd hk (hx _ _)
  ·cases h
  unfold Zmf at h
  repeat' split at h
  all_goals first | (cases h;done)|assumption
 case buildSlice t n ps=>
  split at hc
  ·rename_i n' c' hno;simp only[evOp]at h;unfold ZeJ at h;rw[hno]at h
   repeat' split at h
   all_goals first | (cases h;done)|assumption | (rename_i hx;exact absurd rfl (hx _ _))
  ·cases hc
 case call c=>
  obtain⟨callee,args,tys⟩:=c;cases callee with
  |value f=>simp only[ZeM]at hc;cases hc
  |invoke r n=>simp only[ZeM]at hc;cases hc
  |builtin b=>
   cases b<;>(try (simp only[ZeM]at hc))<;>(try (exact absurd hc (by decide)))
   case append=>
    split at hc
    ·cases hc
    rename_i hno;simp only[evOp]at h;split at h;rotate_left
    ·cases h
    split at h;rotate_left
    ·cases h
    unfold ZkB at h
    repeat' split at h
    all_goals first | (cases h;done)|assumption
theorem Zzs{P:Program}{N:Nat}{T:Tab}{ops:Array Oper}{ra:RA}{i:Nat}{o:Oper}{st st1 st2:St}{v:V}{obl:List Prop}(hc:ZeM ra i o.op≤3)(hu:∀t∈ZfG ops o,st2.get t=st.get t)
  (hh:ZeM ra i o.op≠0→st2.heap=st.heap) (hq:ZeM ra i o.op=3→Zdm N (o.dst.getD 0) st=true→Zdm N (o.dst.getD 0) st2=true) (h:Zop P N T ops ra i o st=some (v,obl,st1)) :
  st1.env=st.env∧(ZeM ra i o.op≤1→st1.heap=st.heap)∧Zop P N T ops ra i o st2=some (v,obl,⟨st2.env,if ZeM ra i o.op≤1 then st2.heap else st1.heap⟩):=by
 unfold Zop at h ⊢;rw[Zjq hu];split at h
 ·cases h
 ·cases h;refine⟨rfl,fun _=>rfl,?_⟩;split
  ·rfl
  ·rename_i hcc;rw[←hh (by omega)]
 ·have he:=ZkA hu;split at h
  ·cases h
  rename_i v0 obl0 st0 hev;split at h
  ·cases h
  rename_i v' obl' hd;split at h;rotate_left
  ·cases h
  rename_i v'' hdn;split at h;rotate_left
  ·cases h
  rename_i v3 obl3 hrl;cases h;refine⟨ZBb hev,?_⟩;have hcase:ZeM ra i o.op=0∨ZeM ra i o.op=1∨ZeM ra i o.op=2∨ZeM ra i o.op=3:=by omega
  rcases hcase with hcc|hcc|hcc|hcc
  ·have e1:=ZGx (P:=P) (N:=N) (T:=T) (st:=st) (st2:=st) hcc (fun x _=>rfl);have e2:=ZGx (P:=P) (N:=N) (T:=T) (st:=st) (st2:=st2) hcc he;rw[hev]at e1 e2;simp only[Option.map_some,Option.some.injEq,Prod.mk.injEq,true_and]at e1;subst e1;refine⟨fun _=>rfl,?_⟩;rw[e2];simp only[Option.map_some,hd,hdn,hrl,hcc];rfl
  ·have e1:=ZGy (P:=P) (N:=N) (T:=T) (st:=st) (st2:=st) hcc (fun x _=>rfl) rfl;have e2:=ZGy (P:=P) (N:=N) (T:=T) (st:=st) (st2:=st2) hcc he (hh (by omega));rw[hev]at e1 e2;simp only[Option.map_some,Option.some.injEq,Prod.mk.injEq,true_and]at e1;subst e1;refine⟨fun _=>rfl,?_⟩;rw[e2];simp only[Option.map_some,hd,hdn,hrl,hcc];rfl
  ·have e2:=ZId (P:=P) (N:=N) (T:=T) (st:=st) (st2:=st2) hcc he (hh (by omega));rw[hev]at e2;refine⟨fun h=>by omega,?_⟩;rw[e2];simp only[Option.map_some,hd,hdn,hrl,hcc];rfl
  ·have hqq:=Zsj hcc hev;have e2:=ZIe (P:=P) (N:=N) (T:=T) (st:=st) (st2:=st2) hcc he (hh (by omega)) ((hq hcc hqq).trans hqq.symm);rw[hev]at e2;refine⟨fun h=>by omega,?_⟩;rw[e2];simp only[Option.map_some,hd,hdn,hrl,hcc];rfl
theorem ZBS{P:Program}{N:Nat}{T:Tab}{ops:Array Oper}{ra:RA}{i:Nat}{o:Oper}{st st1 st2:St}{v:V}{obl:List Prop}(hc:ZeM ra i o.op=1)(hu:∀t∈ZfG ops o,st2.get t=st.get t)
  (hm:∀x∈ZcB o.op,Has st st2 fun id=>(evo st x).says id) (h:Zop P N T ops ra i o st=some (v,obl,st1)):Zop P N T ops ra i o st2=some (v,obl,st2):=by
 unfold Zop at h ⊢;rw[Zjq hu];split at h
 ·cases h
 ·cases h;rfl
 ·have he:=ZkA hu;split at h
  ·cases h
  rename_i v0 obl0 st0 hev;split at h
  ·cases h
  rename_i v' obl' hd;split at h;rotate_left
  ·cases h
  rename_i v'' hdn;split at h;rotate_left
  ·cases h
  rename_i v3 obl3 hrl;cases h;have e2:=ZIf (P:=P) (N:=N) (T:=T) (st:=st) (st2:=st2) hc he hm hev;simp only[e2,hd,hdn,hrl]
theorem ZDt{P:Program}{N:Nat}{T:Tab}{ops:Array Oper}{ra:RA}{i:Nat}{o:Oper}{st st1:St}{v:V}{obl:List Prop}(hc:ZeM ra i o.op=3)(h:Zop P N T ops ra i o st=some (v,obl,st1)) :
  st1=st∨(Zdm N (o.dst.getD 0) st=true∧∀id b,hget st1.heap id=some b→id=o.dst.getD 0∨hget st.heap id=some b):=by
 unfold Zop at h;split at h
 ·cases h
 ·cases h;exact .inl rfl
 ·split at h
  ·cases h
  rename_i v0 obl0 st0 hev;split at h
  ·cases h
  split at h;rotate_left
  ·cases h
  split at h;rotate_left
  ·cases h
  cases h;exact .inr ⟨Zsj hc hev,ZzH hc hev⟩
theorem ZcY{N:Nat}{st:St}{d:Nat}(h:Zdm N d st=true):Zhw st d N=true∧ZgO d st.heap=true:=by
 unfold Zdm at h;split at h
 ·rename_i h1;exact⟨h1,h⟩
 ·cases h
theorem Zzt{P:Program}{N:Nat}{T:Tab}{ops:Array Oper}{ra:RA}{i:Nat}{o:Oper}{st st1:St}{v:V}{obl:List Prop}(hc:ZeM ra i o.op=3)(hk:ZAI o.op=true)(h:Zop P N T ops ra i o st=some (v,obl,st1)) :
  ∀id b,hget st.heap id=some b→hget st1.heap id=some b:=by
 unfold Zop at h;split at h
 ·cases h
 ·cases h;exact fun _ _ h=>h
 ·split at h
  ·cases h
  rename_i v0 obl0 st0 hev;split at h
  ·cases h
  split at h;rotate_left
  ·cases h
  split at h;rotate_left
  ·cases h
  cases h;exact Zyq hc hk (Zip (ZcY (Zsj hc hev)).2).1 hev
def ZfY(o:Oper)(ha:HA):Bool:=match ha.lend,ha.new,ha.h1,o.guard with
 | [],[(c,d)],[(c',.rows _ _ _ _)],none=>Nat.beq d (o.dst.getD 0)&&Nat.beq c c'&&Nat.beq c 99999
 |_,_,_,_=>false
def clsX(ra:RA)(i:Nat)(o:Oper):Nat:=match Zdk ra.hc i with
 |none=>ZeM ra i o.op
 |some ha=>match ZfY o ha with
  |true=>3
  |false=>match Zdk ra.hc (i+1000)with
   |some _=>5
   |none=>match ha.new with
    | []=>2
    |_ :: _=>4
def ZtB(ra:RA)(i:Nat)(o:Oper):Bool:=match Zdk ra.hc i with
 |none=>ZAI o.op
 |some _=>true
def ZdR(P:Program)(N:Nat)(ops:Array Oper)(ha:HA)(an:Option Ans)(o:Oper)(st:St):Option (V×List Prop×St):=match ZgS ops st o with
 |some true=>match o.op with
  | .call { callee:=c,args:=args,argTypes:=_ }=>ZfV P N st c args.toList ha an
  |_=>none
 |some false=>some (.one (.lit undef),[],st)
 |none=>none
def ZgR(P:Program)(N:Nat)(ops:Array Oper)(ha:HA)(an:Option Ans)(o:Oper)(st:St):Option (V×List Prop×St):=match ZgS ops st o with
 |some true=>match o.op with
  | .call { callee:=c,args:=args,argTypes:=_ }=>ZgL P N st c args.toList ha an
  |_=>none
 |some false=>some (.one (.lit undef),[],st)
 |none=>none
def ZdQ(P:Program)(N:Nat)(T:Tab)(ops:Array Oper)(ra:RA)(i:Nat)(o:Oper)(st:St):Option (V×List Prop×St):=match Zdk ra.hc i with
 |none=>Zop P N T ops ra i o st
 |some ha=>match Zdk ra.hc (i+1000)with
  |none=>ZdR P N ops ha (Zdk ra.an i) o st
  |some _=>ZgR P N ops ha (Zdk ra.an i) o st
theorem Zvq{P:Program}{N:Nat}{T:Tab}{ops:Array Oper}{ra:RA}{i:Nat}{o:Oper}{st st1 st2:St}{v:V}{obl:List Prop}(h:ZdQ P N T ops ra i o st=some (v,obl,st1))(hp:putO N st1 o.dst v=some st2):Zlb P N T ops ra i o st=some (st2,obl):=by
 unfold ZdQ at h;unfold Zlb;split at h
 ·rename_i hk;rw[hk];simp only;unfold ZAG;simp only[h,hp]
 ·rename_i ha hk;rw[hk];simp only;split at h
  ·unfold ZdR at h;unfold ZxQ;split at h
   ·split at h
    ·rename_i h1 _ c args tys hop;simp only[h1,hop,Zuf h,hp]
    ·cases h
   ·rename_i h1;cases h;simp only[h1,hp]
   ·cases h
  ·unfold ZgR at h;unfold ZxQ;split at h
   ·split at h
    ·rename_i h1 _ c args tys hop;simp only[h1,hop,h,hp]
    ·cases h
   ·rename_i h1;cases h;simp only[h1,hp]
   ·cases h
theorem Zqv{P:Program}{N:Nat}{st st1:St}{c:Callee}{args:List Operand}{ha:HA}{an:Option Ans}{v:V}{obl:List Prop}(h:ZfV P N st c args ha an=some (v,obl,st1)):st1.env=st.env:=by
 unfold ZfV at h;split at h
 ·split at h
  ·cases h;rfl
  ·cases h
 ·cases h
theorem Zyv{P:Program}{N:Nat}{st st1:St}{c:Callee}{args:List Operand}{ha:HA}{an:Option Ans}{v:V}{obl:List Prop}(h:ZgL P N st c args ha an=some (v,obl,st1)):st1.env=st.env:=by
 unfold ZgL at h;split at h
 ·rename_i r hr;cases h;exact Zqv hr
 ·unfold Zkf at h;split at h
  ·split at h
   ·split at h
    ·cases h;rfl
    ·cases h
   ·cases h
  ·cases h
theorem Zly{P:Program}{N:Nat}{T:Tab}{ops:Array Oper}{ra:RA}{i:Nat}{o:Oper}{st st1:St}{v:V}{obl:List Prop}(h:ZdQ P N T ops ra i o st=some (v,obl,st1)):st1.env=st.env:=by
 unfold ZdQ at h;split at h
 ·unfold Zop at h;split at h
  ·cases h
  ·cases h;rfl
  ·split at h
   ·cases h
   rename_i v0 obl0 st0 hev;split at h
   ·cases h
   split at h;rotate_left
   ·cases h
   split at h;rotate_left
   ·cases h
   cases h;exact ZBb hev
 ·split at h
  ·unfold ZdR at h;split at h
   ·split at h
    ·exact Zqv h
    ·cases h
   ·cases h;rfl
   ·cases h
  ·unfold ZgR at h;split at h
   ·split at h
    ·exact Zyv h
    ·cases h
   ·cases h;rfl
   ·cases h
theorem Zim{P:Program}{st st2:St}{c:Callee}{args:Array Operand}{tys:Array TypeId}{an:Option Ans}(h:∀x∈ZcB (.call { callee:=c,args:=args,argTypes:=tys }),evo st2 x=evo st x):Zki P st2 c an=Zki P st c an:=by
 cases c with
 |value f=>simp only[Zki,Zjd,h f (by simp[ZcB])]
 |invoke r n=>simp only[Zki,h r (by simp[ZcB])]
 |builtin b=>rfl
theorem ZlE{c:Callee}{args:Array Operand}{tys:Array TypeId}:∀x∈args.toList,x∈ZcB (.call { callee:=c,args:=args,argTypes:=tys }):=by
 intro x hx;cases c<;>simp only[ZcB]<;>first|exact hx|exact List.mem_cons_of_mem _ hx
theorem ZHh{P:Program}{N:Nat}{ops:Array Oper}{ha:HA}{an:Option Ans}{o:Oper}{st st1:St}{v:V}{obl:List Prop}(hn:ha.new=[])(h:ZdR P N ops ha an o st=some (v,obl,st1)) :
  st1.env=st.env∧∀st2:St,(∀t∈ZfG ops o,st2.get t=st.get t)→st2.heap=st.heap→ZdR P N ops ha an o st2=some (v,obl,⟨st2.env,st1.heap⟩):=by
 unfold ZdR at h;split at h
 ·rename_i hgd;split at h
  ·rename_i c args tys hop;refine⟨Zqv h,fun st2 hu hh=>?_⟩;unfold ZdR;rw[Zjq hu,hgd];have he:=ZkA hu;rw[hop]at he ⊢;simp only;unfold ZfV at h ⊢;rw[Zim he];have hok:okHA N st2 ha=okHA N st ha:=by
    unfold okHA;rw[hn];rfl
   split at h;rotate_left
   ·cases h
   rename_i g a b om hcal;rw[Zgy (fun x hx=>he x (ZlE x hx)) a b,hok,hh];split at h;rotate_left
   ·cases h
   rename_i h0 vs hp r q1 q2 q3 q4 q5;cases h;simp only[q1,q2,q3,q4,q5]
  ·cases h
 ·rename_i hgd;cases h;refine⟨rfl,fun st2 hu hh=>?_⟩;unfold ZdR;rw[Zjq hu,hgd];simp only[←hh]
 ·cases h
theorem Zts{d e:Nat}{b:B}(hne:e≠d)(hb:b.says d=false):∀{h:List (Nat×B)},ZgO d h=true→ZgO d (hins h e b)=true:=by
 have hf:Nat.beq e d=false:=by
  cases hx:Nat.beq e d
  ·rfl
  ·exact absurd (Nat.eq_of_beq_eq_true hx) hne
 intro h;induction h with
 |nil=>intro _;simp only[hins,ZgO,hf,hb]
 |cons p r ih=>
  obtain⟨k,v⟩:=p;intro hq;have hq':=hq;simp only[ZgO]at hq;split at hq
  ·rename_i h1 h2;simp only[hins];split
   ·simp only[ZgO,hf,hb];exact hq
   ·split
    ·simp only[ZgO,hf,hb,h1,h2];exact hq
    ·simp only[ZgO,h1,h2];exact ih hq
  ·cases hq
theorem ZmE{d e:Nat}{b:B}:∀{h:List (Nat×B)},hget h e=none→ZgO d (hins h e b)=true→ZgO d h=true
 | [],_,_=>rfl
 | (k,v) :: r,hn,hq=>by
  rw[ZaU]at hn
  split at hn
  ·cases hn
  rename_i hke
  have hf:Nat.beq k e=false:=by
   cases hx:Nat.beq k e
   ·rfl
   ·exact absurd (Nat.eq_of_beq_eq_true hx) hke
  simp only[hins,hf]at hq;split at hq
  ·simp only[ZgO]at hq;split at hq
   ·simp only[ZgO];exact hq
   ·cases hq
  ·simp only[ZgO]at hq ⊢;split at hq
   ·rename_i h1 h2;exact ZmE hn hq
   ·cases hq
theorem ZAT{P:Program}{N:Nat}{ops:Array Oper}{ha:HA}{an:Option Ans}{o:Oper}{st st1:St}{v:V}{obl:List Prop}(hs:ZfY o ha=true)(h:ZdR P N ops ha an o st=some (v,obl,st1)) :
  ∃b:B,(∀k,b.says k=false)∧Zdm N (o.dst.getD 0) st=true∧st1=⟨st.env,hins st.heap (o.dst.getD 0) b⟩∧∀st2,(∀t∈ZfG ops o,st2.get t=st.get t)→Zdm N (o.dst.getD 0) st2=true →
   ZdR P N ops ha an o st2=some (v,obl,⟨st2.env,hins st2.heap (o.dst.getD 0) b⟩):=by
 unfold ZfY at hs;split at hs;rotate_left
 ·cases hs
 rename_i c d c' e sz len cc hl hn hh1 hgd;simp only[Bool.and_eq_true]at hs;obtain⟨⟨e1,e2⟩,e3⟩:=hs;have e1:=Nat.eq_of_beq_eq_true e1;have e2:=Nat.eq_of_beq_eq_true e2;subst e2;obtain⟨lend,new,h1,res⟩:=ha;simp only at hl hn hh1;subst hl hn hh1;subst e1;have hg:∀st:St,ZgS ops st o=some true:=fun st=>by unfold ZgS;rw[hgd]
 unfold ZdR at h;rw[hg]at h;simp only at h;split at h;rotate_left
 ·cases h
 rename_i f args tys hop;unfold ZfV at h;split at h;rotate_left
 ·cases h
 rename_i g a b om hcal;split at h;rotate_left
 ·cases h
 rename_i h0 vs hp r hok hhi hvs hhp hr;cases h;have hq:Zdm N (o.dst.getD 0) st=true:=by
  unfold okHA at hok;split at hok
  ·rename_i q1 q2 q3 q4;exact List.all_eq_true.1 q4 _ (List.mem_cons_self)
  ·cases hok
 have hpe:hp=[(o.dst.getD 0,.rows e sz len cc)]:=by
  have:gOut ⟨[],[(c,o.dst.getD 0)],[(c,.rows e sz len cc)],res⟩ c=some (o.dst.getD 0):=by
   simp only[gOut,ZoQ,Nat.beq_refl]
  simp only[ZqF,this,renB]at hhp;exact(Option.some.inj hhp).symm
 subst hpe;refine⟨.rows e sz len cc,fun _=>rfl,hq,rfl,fun st2 hu hq2=>?_⟩;have he:∀x∈ZcB (.call { callee:=f,args:=args,argTypes:=tys }),evo st2 x=evo st x:=fun x hx=>ZkA hu x (by rw[hop];exact hx);have hca:ZbX st2 args.toList a b=ZbX st args.toList a b:=Zgy (fun x hx=>he x (ZlE x hx)) a b;have hok2:okHA N st2 ⟨[],[(c,o.dst.getD 0)],[(c,.rows e sz len cc)],res⟩=true:=by
  unfold okHA at hok ⊢;split at hok
  ·rename_i q1 q2 q3 q4;simp only at q1 q2 q3;simp only[q1,q2,q3,List.all_cons,List.all_nil,hq2,Bool.and_true]
  ·cases hok
 have hhi2:hIn (bwd ([]:List (Nat×Nat))) st2.heap ([]:List (Nat×Nat))=some h0:=hhi;unfold ZdR;rw[hg];simp only[hop];unfold ZfV;rw[Zim he,hcal];simp only[hok2,hhi2,hca,hvs,hhp,hr];rfl
theorem ZwR{P:Program}{N:Nat}{st st2:St}{c:Callee}{args:Array Operand}{tys:Array TypeId}{ha:HA}{an:Option Ans}(he:∀x∈ZcB (.call { callee:=c,args:=args,argTypes:=tys }),evo st2 x=evo st x)(hh:st2.heap=st.heap)(hok:okHA N st2 ha=okHA N st ha) :
  ZgL P N st2 c args.toList ha an=(ZgL P N st c args.toList ha an).map fun r=>(r.1,r.2.1,⟨st2.env,r.2.2.heap⟩):=by
 have hca:∀a b,ZbX st2 args.toList a b=ZbX st args.toList a b:=fun a b=>Zgy (fun x hx=>he x (ZlE x hx)) a b;have e1:ZfV P N st2 c args.toList ha an=(ZfV P N st c args.toList ha an).map fun r=>(r.1,r.2.1,⟨st2.env,r.2.2.heap⟩):=by
  unfold ZfV;rw[Zim he,hok,hh];cases Zki P st c an with
  |none=>rfl
  |some q=>
   obtain⟨g,a,b,om⟩:=q;simp only[hca];generalize okHA N st ha=x1;generalize hIn (bwd ha.lend) st.heap ha.lend=x2;generalize ZBJ (bwd ha.lend) (ZbX st args.toList a b)=x3;generalize ZqF (gOut ha) ha.h1=x4;generalize renV (gOut ha) ha.res=x5;cases x1<;>cases x2<;>cases x3<;>cases x4<;>cases x5<;>rfl
 have e2:Zkf P N st2 c args.toList ha an=(Zkf P N st c args.toList ha an).map fun r=>(r.1,r.2.1,⟨st2.env,r.2.2.heap⟩):=by
  obtain⟨lend,new,h1,res⟩:=ha;have hb:∀l,borA st2 l=borA st l:=Zus hh;unfold Zkf;rw[Zim he,hok,hh];simp only[hca,hb];cases Zki P st c an with
  |none=>split<;>rfl
  |some q=>
   obtain⟨g,a,b,om⟩:=q;simp only;generalize okHA N st ⟨lend,new,h1,res⟩=x1;generalize borA st (ZbX st args.toList a b)=x2;generalize ZqF (gOut ⟨lend,new,h1,res⟩) h1=x3;generalize renV (gOut ⟨lend,new,h1,res⟩) res=x4;generalize ZtF h1=x5;split
   ·cases x1<;>cases x2<;>cases x3<;>cases x4<;>cases x5<;>rfl
   ·rfl
 unfold ZgL;rw[e1,e2];cases ZfV P N st c args.toList ha an<;>rfl
theorem ZHi{P:Program}{N:Nat}{ops:Array Oper}{ha:HA}{an:Option Ans}{o:Oper}{st st1:St}{v:V}{obl:List Prop}(hs:ZfY o ha=true)(h:ZgR P N ops ha an o st=some (v,obl,st1)) :
  ∃b:B,Zdm N (o.dst.getD 0) st=true∧st1=⟨st.env,hins st.heap (o.dst.getD 0) b⟩∧∀st2,(∀t∈ZfG ops o,st2.get t=st.get t)→st2.heap=st.heap→Zdm N (o.dst.getD 0) st2=true →
   ZgR P N ops ha an o st2=some (v,obl,⟨st2.env,st1.heap⟩):=by
 unfold ZfY at hs;split at hs;rotate_left
 ·cases hs
 rename_i c d c' e sz len cc hl hn hh1 hgd;simp only[Bool.and_eq_true]at hs;obtain⟨⟨e1,e2⟩,e3⟩:=hs;have e1:=Nat.eq_of_beq_eq_true e1;have e2:=Nat.eq_of_beq_eq_true e2;subst e2;obtain⟨lend,new,h1,res⟩:=ha;simp only at hl hn hh1;subst hl hn hh1;subst e1;have hg:∀st:St,ZgS ops st o=some true:=fun st=>by unfold ZgS;rw[hgd]
 unfold ZgR at h;rw[hg]at h;simp only at h;split at h;rotate_left
 ·cases h
 rename_i f args tys hop;have hpe:∀hp,ZqF (gOut ⟨[],[(c,o.dst.getD 0)],[(c,.rows e sz len cc)],res⟩) [(c,.rows e sz len cc)]=some hp→hp=[(o.dst.getD 0,.rows e sz len cc)]:=fun hp hhp=>by
  have:gOut ⟨[],[(c,o.dst.getD 0)],[(c,.rows e sz len cc)],res⟩ c=some (o.dst.getD 0):=by
   simp only[gOut,ZoQ,Nat.beq_refl]
  simp only[ZqF,this,renB]at hhp;exact(Option.some.inj hhp).symm
 have hmain:okHA N st ⟨[],[(c,o.dst.getD 0)],[(c,.rows e sz len cc)],res⟩=true∧st1=⟨st.env,hins st.heap (o.dst.getD 0) (.rows e sz len cc)⟩:=by
  have h':=h;unfold ZgL at h';split at h'
  ·rename_i r hr;cases h';unfold ZfV at hr;split at hr;rotate_left
   ·cases hr
   split at hr;rotate_left
   ·cases hr
   rename_i h0 vs hp r hok hhi hvs hhp hr';cases hr;rw[hpe _ hhp];exact⟨hok,rfl⟩
  ·unfold Zkf at h';split at h';rotate_left
   ·cases h'
   split at h';rotate_left
   ·cases h'
   split at h';rotate_left
   ·cases h'
   rename_i vs hp r ps hok hvs hhp hr' hps;cases h';rw[hpe _ hhp];exact⟨hok,rfl⟩
 obtain⟨hok,hst1⟩:=hmain;have hq:Zdm N (o.dst.getD 0) st=true:=by
  have hok':=hok;unfold okHA at hok';split at hok'
  ·rename_i q1 q2 q3 q4;exact List.all_eq_true.1 q4 _ (List.mem_cons_self)
  ·cases hok'
 refine⟨.rows e sz len cc,hq,hst1,fun st2 hu hh hq2=>?_⟩;have he:∀x∈ZcB (.call { callee:=f,args:=args,argTypes:=tys }),evo st2 x=evo st x:=fun x hx=>ZkA hu x (by rw[hop];exact hx);have hok2:okHA N st2 ⟨[],[(c,o.dst.getD 0)],[(c,.rows e sz len cc)],res⟩=true:=by
  have hok':=hok;unfold okHA at hok' ⊢;split at hok'
  ·rename_i q1 q2 q3 q4;simp only at q1 q2 q3;simp only[q1,q2,q3,List.all_cons,List.all_nil,hq2,Bool.and_true]
  ·cases hok'
 unfold ZgR;rw[hg];simp only[hop];rw[ZwR he hh (hok2.trans hok.symm),h];rfl
def ZGp:Op→Bool | .makeSlice .. | .buildSlice .. | .alloc _=>true|_=>false
theorem ZBt{ti:TI}{l:List C}(h:ZsY ti=some l)(k:Nat):l.any (C.says k)=false:=by
 unfold ZsY at h;split at h;rotate_left
 ·cases h
 rename_i z hz;have lits:∀xs:List Value,(xs.map C.lit).any (C.says k)=false:=fun xs=>by
  induction xs with
  |nil=>rfl
  |cons x xs ih=>simp[C.says,ih]
 cases z with
 |agg cs=>
  simp only[V.ofVal]at h;split at h
  ·cases h;exact lits _
  ·cases h
 |_=>
  simp only[V.ofVal,V.cells]at h
  first | (cases h;rfl) | (split at h<;>cases h;rfl)
def ZsA(ra:RA)(i:Nat)(o:Oper):Bool:=match Zdk ra.hc i with
 |some ha=>match Zdk ra.hc (i+1000)with
  |none=>true
  |some _=>ZfY o ha
 |none=>Nat.ble (ZeM ra i o.op) 3
def ZkI(ra:RA)(i:Nat)(o:Oper):Bool:=match Zdk ra.hc i with
 |some ha=>match Zdk ra.hc (i+1000)with
  |none=>ZfY o ha
  |some _=>false
 |none=>match o.guard with
  |none=>ZGp o.op&&Nat.beq (ZeM ra i o.op) 3
  |some _=>false
theorem ZzJ{N:Nat}{T:Tab}{st st1:St}{d t:Nat}{x y:V}{an:Option Ans}{v:V}{obl:List Prop}(h:Zmf N T st d t x y an=some (v,obl,st1)) :
  ∃b:B,(∀k,b.says k=false)∧Zdm N d st=true∧st1=⟨st.env,hins st.heap d b⟩∧∀st2,Zdm N d st2=true→Zmf N T st2 d t x y an=some (v,obl,⟨st2.env,hins st2.heap d b⟩):=by
 unfold Zmf at h
 repeat' split at h
 all_goals first | (cases h;done)|skip
 all_goals
  cases h;refine⟨_,fun _=>rfl,by assumption,rfl,fun st2 hq=>?_⟩;unfold Zmf;simp only[*,St.new]
theorem Zud{N:Nat}{T:Tab}{st st1:St}{d t n:Nat}{ps:List (Nat×V)}{k:Nat}{c:Nat→Nat→C}{v:V}{obl:List Prop}(h:ZeJ N T st d t n ps (some (.c k c))=some (v,obl,st1)) :
  ∃b:B,(∀k,b.says k=false)∧Zdm N d st=true∧st1=⟨st.env,hins st.heap d b⟩∧∀st2,Zdm N d st2=true→ZeJ N T st2 d t n ps (some (.c k c))=some (v,obl,⟨st2.env,hins st2.heap d b⟩):=by
 unfold ZeJ at h ⊢;split at h<;>try (cases h;done)
 split at h<;>try (cases h;done)
 split at h<;>try (cases h;done)
 split at h<;>try (cases h;done)
 split at h<;>try (cases h;done)
 split at h<;>try (cases h;done)
 simp only at h;split at h
 ·cases h
 ·rename_i hq;cases h;refine⟨_,fun _=>rfl,hq,rfl,fun st2 hq2=>?_⟩;simp only[*,St.new]
theorem ZlH{P:Program}{N:Nat}{T:Tab}{ops:Array Oper}{ra:RA}{i:Nat}{o:Oper}{st st1:St}{v:V}{obl:List Prop}(hs:ZkI ra i o=true)(h:ZdQ P N T ops ra i o st=some (v,obl,st1)) :
  ∃b:B,(∀k,b.says k=false)∧Zdm N (o.dst.getD 0) st=true∧st1=⟨st.env,hins st.heap (o.dst.getD 0) b⟩∧∀st2,(∀t∈ZfG ops o,st2.get t=st.get t)→Zdm N (o.dst.getD 0) st2=true →
   ZdQ P N T ops ra i o st2=some (v,obl,⟨st2.env,hins st2.heap (o.dst.getD 0) b⟩):=by
 unfold ZkI at hs;unfold ZdQ at h ⊢;split at hs
 ·rename_i ha hk;cases hk2:Zdk ra.hc (i+1000)with
  |some y=>rw[hk2]at hs;cases hs
  |none=>
   rw[hk2]at hs;simp only[hk,hk2]at h ⊢;exact ZAT hs h
 ·rename_i hk;rw[hk]at h ⊢;simp only at h ⊢;split at hs;rotate_left
  ·cases hs
  rename_i hgd;have hg:∀st:St,ZgS ops st o=some true:=fun st=>by unfold ZgS;rw[hgd]
  simp only[Bool.and_eq_true]at hs;obtain⟨hr,hcl⟩:=hs;have hcl:=Nat.eq_of_beq_eq_true hcl;unfold Zop at h;rw[hg]at h;simp only at h;split at h
  ·cases h
  rename_i v0 obl0 st0 hev;split at h
  ·cases h
  rename_i v' obl' hd;split at h;rotate_left
  ·cases h
  rename_i v'' hdn;split at h;rotate_left
  ·cases h
  rename_i v3 obl3 hrl;cases h;have hmain:∃b:B,(∀k,b.says k=false)∧Zdm N (o.dst.getD 0) st=true∧st1=⟨st.env,hins st.heap (o.dst.getD 0) b⟩∧∀st2,(∀x∈ZcB o.op,evo st2 x=evo st x)→Zdm N (o.dst.getD 0) st2=true →
    evOp P N T o st2 (Zdk ra.an i)=some (v0,obl0,⟨st2.env,hins st2.heap (o.dst.getD 0) b⟩):=by
   obtain⟨dst,op,type,pos,after,guard⟩:=o;simp only at hr hcl hgd ⊢;cases op<;>simp only[ZGp]at hr<;>try (cases hr;done)
   case alloc t0 _=>
    simp only[evOp]at hev;split at hev;rotate_left
    ·cases hev
    rename_i te hte;split at hev;rotate_left
    ·cases hev
    rename_i l hl;unfold Zpp at hev;split at hev;rotate_left
    ·cases hev
    rename_i hq hsay;cases hev;refine⟨.box l,fun k=>ZBt hl k,hq,rfl,fun st2 he hq2=>?_⟩;simp only[evOp,hte,hl];unfold Zpp;rw[hq2,hsay];rfl
   case makeSlice t0 x y _=>
    simp only[ZeM]at hcl;split at hcl
    ·cases hcl
    rename_i hx;simp only[evOp]at hev;split at hev
    ·rename_i hk;exact absurd hk (hx _ _)
    ·cases hev
    obtain⟨b,h1,h2,h3,h4⟩:=ZzJ hev;refine⟨b,h1,h2,h3,fun st2 he hq=>?_⟩;simp only[evOp];rw[he x (by simp[ZcB]),he y (by simp[ZcB])];exact h4 st2 hq
   case buildSlice t n ps _=>
    simp only[ZeM]at hcl;split at hcl;rotate_left
    ·cases hcl
    rename_i k c hka;simp only[evOp,hka]at hev;obtain⟨b,h1,h2,h3,h4⟩:=Zud hev;refine⟨b,h1,h2,h3,fun st2 he hq=>?_⟩;simp only[evOp,hka];rw[ZqM (fun x hx=>he x (by simpa[ZcB]using hx))];exact h4 st2 hq
  obtain⟨b,h1,h2,h3,h4⟩:=hmain;refine⟨b,h1,h2,h3,fun st2 hu hq=>?_⟩;unfold Zop;rw[hg];simp only[h4 st2 (ZkA hu) hq,hd,hdn,hrl]
theorem Zkg{ra:RA}{i:Nat}{o:Oper}(h:Zdk ra.hc i=none):clsX ra i o=ZeM ra i o.op:=by unfold clsX;rw[h]
theorem Zuo{ra:RA}{i:Nat}{o:Oper}{ha:HA}(h:Zdk ra.hc i=some ha)(hc:clsX ra i o≤3):(ZfY o ha=true∧clsX ra i o=3)∨(ha.new=[]∧clsX ra i o=2∧Zdk ra.hc (i+1000)=none):=by
 unfold clsX at hc ⊢;rw[h]at hc ⊢;simp only at hc ⊢;split at hc
 ·rename_i hs;exact .inl ⟨hs,rfl⟩
 ·split at hc
  ·omega
  ·rename_i hk2;split at hc
   ·rename_i hn;exact .inr ⟨hn,rfl,hk2⟩
   ·omega
theorem Ztz{P:Program}{N:Nat}{T:Tab}{ops:Array Oper}{ra:RA}{i:Nat}{o:Oper}{ha:HA}{st st1:St}{v:V}{obl:List Prop}(hk:Zdk ra.hc i=some ha)(hs:ZfY o ha=true)(h:ZdQ P N T ops ra i o st=some (v,obl,st1)) :
  ∃b:B,Zdm N (o.dst.getD 0) st=true∧st1=⟨st.env,hins st.heap (o.dst.getD 0) b⟩∧∀st2,(∀t∈ZfG ops o,st2.get t=st.get t)→st2.heap=st.heap→Zdm N (o.dst.getD 0) st2=true →
   ZdQ P N T ops ra i o st2=some (v,obl,⟨st2.env,st1.heap⟩):=by
 unfold ZdQ at h ⊢;cases hk2:Zdk ra.hc (i+1000)with
 |none=>
  simp only[hk,hk2]at h ⊢;obtain⟨b,h1,h2,rfl,h4⟩:=ZAT hs h;refine⟨b,h2,rfl,fun st2 hu hh hq=>?_⟩;rw[h4 st2 hu hq,hh]
 |some x=>
  simp only[hk,hk2]at h ⊢;exact ZHi hs h
theorem ZeO{P:Program}{N:Nat}{T:Tab}{ops:Array Oper}{ra:RA}{i:Nat}{o:Oper}{st st1 st2:St}{v:V}{obl:List Prop}(hc:clsX ra i o≤3)(hu:∀t∈ZfG ops o,st2.get t=st.get t)
  (hh:clsX ra i o≠0→st2.heap=st.heap) (hq:clsX ra i o=3→Zdm N (o.dst.getD 0) st=true→Zdm N (o.dst.getD 0) st2=true) (h:ZdQ P N T ops ra i o st=some (v,obl,st1)) :
  st1.env=st.env∧(clsX ra i o≤1→st1.heap=st.heap)∧ZdQ P N T ops ra i o st2=some (v,obl,⟨st2.env,if clsX ra i o≤1 then st2.heap else st1.heap⟩):=by
 cases hk:Zdk ra.hc i with
 |none=>
  rw[Zkg hk]at *
  unfold ZdQ at h ⊢;rw[hk]at h ⊢;exact Zzs hc hu hh hq h
 |some ha=>
  rcases Zuo hk hc with⟨hs,e3⟩|⟨hn,e3,hk2⟩
  ·rw[e3]at hh hq ⊢;obtain⟨b,h2,rfl,h4⟩:=Ztz hk hs h;refine⟨rfl,fun h=>by omega,?_⟩;rw[h4 st2 hu (hh (by omega)) (hq rfl h2)];rfl
  ·rw[e3]at hh hq ⊢;unfold ZdQ at h ⊢;rw[hk]at h ⊢;simp only at h ⊢;rw[hk2]at h ⊢;simp only at h ⊢;obtain⟨h1,h2⟩:=ZHh hn h;refine⟨h1,fun h=>by omega,?_⟩;rw[h2 st2 hu (hh (by omega))];rfl
theorem ZlI{P:Program}{N:Nat}{T:Tab}{ops:Array Oper}{ra:RA}{i:Nat}{o:Oper}{st st1 st2:St}{v:V}{obl:List Prop}(hc:clsX ra i o=1)(hu:∀t∈ZfG ops o,st2.get t=st.get t)
  (hm:∀x∈ZcB o.op,Has st st2 fun id=>(evo st x).says id) (h:ZdQ P N T ops ra i o st=some (v,obl,st1)):ZdQ P N T ops ra i o st2=some (v,obl,st2):=by
 cases hk:Zdk ra.hc i with
 |none=>
  rw[Zkg hk]at *
  unfold ZdQ at h ⊢;rw[hk]at h ⊢;exact ZBS hc hu hm h
 |some ha=>
  unfold clsX at hc;rw[hk]at hc;simp only at hc
  repeat' split at hc
  all_goals omega
theorem Zvr{P:Program}{N:Nat}{T:Tab}{ops:Array Oper}{ra:RA}{i:Nat}{o:Oper}{st st1:St}{v:V}{obl:List Prop}(hc:clsX ra i o=3)(h:ZdQ P N T ops ra i o st=some (v,obl,st1)) :
  st1=st∨(Zdm N (o.dst.getD 0) st=true∧∀id b,hget st1.heap id=some b→id=o.dst.getD 0∨hget st.heap id=some b):=by
 cases hk:Zdk ra.hc i with
 |none=>
  rw[Zkg hk]at *
  unfold ZdQ at h;rw[hk]at h;exact ZDt hc h
 |some ha=>
  obtain⟨hs,e3⟩ : ZfY o ha=true∧clsX ra i o=3:=(Zuo hk (Nat.le_of_eq hc)).resolve_right fun h=>by have:=h.2.1;omega
  obtain⟨b,h2,rfl,h4⟩:=Ztz hk hs h;refine .inr ⟨h2,fun id b' hb=>?_⟩;simp only[ZeP]at hb;split at hb
  ·rename_i e;exact .inl e.symm
  ·exact .inr hb
theorem ZxP{P:Program}{N:Nat}{T:Tab}{ops:Array Oper}{ra:RA}{i:Nat}{o:Oper}{st st1:St}{v:V}{obl:List Prop}(hc:clsX ra i o=3)(hk:ZtB ra i o=true)(h:ZdQ P N T ops ra i o st=some (v,obl,st1)) :
  ∀id b,hget st.heap id=some b→hget st1.heap id=some b:=by
 unfold ZtB at hk;cases hk':Zdk ra.hc i with
 |none=>
  rw[Zkg hk']at *
  unfold ZdQ at h;rw[hk']at h hk;exact Zzt hc hk h
 |some ha=>
  obtain⟨hs,e3⟩ : ZfY o ha=true∧clsX ra i o=3:=(Zuo hk' (Nat.le_of_eq hc)).resolve_right fun h=>by have:=h.2.1;omega
  obtain⟨b,h2,rfl,h4⟩:=Ztz hk' hs h;intro id b' hb;simp only[ZeP];have:=(Zip (ZcY h2).2).1;rw[if_neg (fun e=>by rw[e,hb]at this;cases this)];exact hb
def isMk(ra:RA)(i:Nat)(o:Oper):Bool:=match Zdk ra.hc i,Zdk ra.hc (i+1000),o.op with
 |some ha,some _,.call { callee:=.value (.func _),args:=_,argTypes:=_ }=>ZfY o ha
 |_,_,_=>false
theorem ZFE{P:Program}{N:Nat}{ops:Array Oper}{ha:HA}{an:Option Ans}{o:Oper}{g:FuncId}{args:Array Operand}{tys:Array TypeId}{st st1:St}{v:V}{obl:List Prop}(hs:ZfY o ha=true)
  (hop:o.op=.call { callee:=.value (.func g),args:=args,argTypes:=tys }) (h:ZgR P N ops ha an o st=some (v,obl,st1)) :
  ∃b:B,(∀k,b.says k=false)∧Zdm N (o.dst.getD 0) st=true∧st1=⟨st.env,hins st.heap (o.dst.getD 0) b⟩∧∀st2,(∀t∈ZfG ops o,st2.get t=st.get t)→(∀x∈ZcB o.op,Has st st2 fun id=>(evo st x).says id)→Zdm N (o.dst.getD 0) st2=true →
   ZgR P N ops ha an o st2=some (v,obl,⟨st2.env,hins st2.heap (o.dst.getD 0) b⟩):=by
 have hs0:=hs;unfold ZfY at hs;split at hs;rotate_left
 ·cases hs
 rename_i c d c' e sz len cc hl hn hh1 hgd;simp only[Bool.and_eq_true]at hs;obtain⟨⟨e1,e2⟩,e3⟩:=hs;have e1:=Nat.eq_of_beq_eq_true e1;have e2:=Nat.eq_of_beq_eq_true e2;subst e2;obtain⟨lend,new,h1,res⟩:=ha;simp only at hl hn hh1;subst hl hn hh1;subst e1;have hg:∀st:St,ZgS ops st o=some true:=fun st=>by unfold ZgS;rw[hgd]
 have kA:∀st,ZdR P N ops ⟨[],[(c,o.dst.getD 0)],[(c,.rows e sz len cc)],res⟩ an o st=ZfV P N st (.value (.func g)) args.toList ⟨[],[(c,o.dst.getD 0)],[(c,.rows e sz len cc)],res⟩ an:=fun st=>by
  unfold ZdR;rw[hg];simp only[hop]
 have kB:∀st,ZgR P N ops ⟨[],[(c,o.dst.getD 0)],[(c,.rows e sz len cc)],res⟩ an o st=ZgL P N st (.value (.func g)) args.toList ⟨[],[(c,o.dst.getD 0)],[(c,.rows e sz len cc)],res⟩ an:=fun st=>by
  unfold ZgR;rw[hg];simp only[hop]
 rw[kB]at h;cases hE:ZfV P N st (.value (.func g)) args.toList ⟨[],[(c,o.dst.getD 0)],[(c,.rows e sz len cc)],res⟩ an with
 |some r=>
  unfold ZgL at h;rw[hE]at h;simp only at h;cases h;obtain⟨b,q1,q2,q3,q4⟩:=ZAT hs0 ((kA st).trans hE);refine⟨b,q1,q2,q3,fun st2 hu hm hq=>?_⟩;rw[kB];exact Zuf ((kA st2).symm.trans (q4 st2 hu hq))
 |none=>
  unfold ZgL at h;rw[hE]at h;simp only at h;have hpe:∀hp,ZqF (gOut ⟨[],[(c,o.dst.getD 0)],[(c,.rows e sz len cc)],res⟩) [(c,.rows e sz len cc)]=some hp→hp=[(o.dst.getD 0,.rows e sz len cc)]:=fun hp hhp=>by
   have:gOut ⟨[],[(c,o.dst.getD 0)],[(c,.rows e sz len cc)],res⟩ c=some (o.dst.getD 0):=by
    simp only[gOut,ZoQ,Nat.beq_refl]
   simp only[ZqF,this,renB]at hhp;exact(Option.some.inj hhp).symm
  obtain⟨k0,n0,rfl⟩ : ∃k n,res=.one (.osl k n):=by
   unfold Zkf at h;simp only at h;split at h
   ·exact⟨_,_,rfl⟩
   ·cases h
  unfold Zkf at h;simp only at h;split at h;rotate_left
  ·cases h
  rename_i g' a b om hcal;split at h;rotate_left
  ·cases h
  rename_i vs hp r ps hok hvs hhp hr' hps;cases h;obtain rfl:=hpe _ hhp;have hq:Zdm N (o.dst.getD 0) st=true:=by
   have hok':=hok;unfold okHA at hok';split at hok'
   ·rename_i q1 q2 q3 q4;exact List.all_eq_true.1 q4 _ (List.mem_cons_self)
   ·cases hok'
  refine⟨.rows e sz len cc,fun _=>rfl,hq,rfl,fun st2 hu hm hq2=>?_⟩;have he:∀x∈ZcB (.call { callee:=.value (.func g),args:=args,argTypes:=tys }),evo st2 x=evo st x:=fun x hx=>ZkA hu x (by rw[hop];exact hx);have hok2:okHA N st2 ⟨[],[(c,o.dst.getD 0)],[(c,.rows e sz len cc)],.one (.osl k0 n0)⟩=true:=by
   have hok':=hok;unfold okHA at hok' ⊢;split at hok'
   ·rename_i q1 q2 q3 q4;simp only at q1 q2 q3;simp only[q1,q2,q3,List.all_cons,List.all_nil,hq2,Bool.and_true]
   ·cases hok'
  have hcab:a=[]∧b=[]:=by
   simp only[Zki,Zjd,evo,V.ofVal]at hcal
   first
    | (cases hcal;exact⟨rfl,rfl⟩)
    | (simp at hcal;exact⟨hcal.2.1.symm,hcal.2.2.1.symm⟩)
  obtain⟨rfl,rfl⟩:=hcab;have hca:ZbX st2 args.toList [] []=ZbX st args.toList [] []:=Zgy (fun x hx=>he x (ZlE x hx)) [] [];have hbm:borA st2 (ZbX st args.toList [] [])=some vs:=by
   refine Zur (fun v hv=>?_) hvs;unfold ZbX at hv;simp only[List.map_nil,List.nil_append,List.append_nil,List.mem_map]at hv;obtain⟨x,hx,rfl⟩:=hv;exact hm x (by rw[hop];exact ZlE x hx)
  have hE2:ZfV P N st2 (.value (.func g)) args.toList ⟨[],[(c,o.dst.getD 0)],[(c,.rows e sz len cc)],.one (.osl k0 n0)⟩ an=none:=by
   cases hE2:ZfV P N st2 (.value (.func g)) args.toList ⟨[],[(c,o.dst.getD 0)],[(c,.rows e sz len cc)],.one (.osl k0 n0)⟩ an with
   |none=>rfl
   |some r2=>
    obtain⟨b2,_,_,_,q4⟩:=ZAT hs0 ((kA st2).trans hE2);have:=q4 st (fun t ht=>(hu t ht).symm) hq;rw[kA,hE]at this;cases this
  rw[kB];unfold ZgL;rw[hE2];simp only;unfold Zkf;simp only;rw[Zim he,hcal];simp only[hok2,hca,hbm,hhp,hr',hps];rfl
theorem ZxO{P:Program}{N:Nat}{T:Tab}{ops:Array Oper}{ra:RA}{i:Nat}{o:Oper}{st st1:St}{v:V}{obl:List Prop}(hs:(ZkI ra i o||isMk ra i o)=true)(h:ZdQ P N T ops ra i o st=some (v,obl,st1)) :
  ∃b:B,(∀k,b.says k=false)∧Zdm N (o.dst.getD 0) st=true∧st1=⟨st.env,hins st.heap (o.dst.getD 0) b⟩∧∀st2,(∀t∈ZfG ops o,st2.get t=st.get t)→(∀x∈ZcB o.op,Has st st2 fun id=>(evo st x).says id)→Zdm N (o.dst.getD 0) st2=true →
   ZdQ P N T ops ra i o st2=some (v,obl,⟨st2.env,hins st2.heap (o.dst.getD 0) b⟩):=by
 rw[Bool.or_eq_true]at hs;rcases hs with hs|hs
 ·obtain⟨b,h1,h2,h3,h4⟩:=ZlH hs h;exact⟨b,h1,h2,h3,fun st2 hu _ hq=>h4 st2 hu hq⟩
 ·unfold isMk at hs;split at hs;rotate_left
  ·cases hs
  rename_i ha y g args tys hk hk2 hop;unfold ZdQ at h ⊢;simp only[hk,hk2]at h ⊢;exact ZFE hs hop h
theorem ZAP{ra:RA}{i:Nat}{o:Oper}(hs:isMk ra i o=true):clsX ra i o=3:=by
 unfold isMk at hs;split at hs;rotate_left
 ·cases hs
 rename_i ha y g args tys hk hk2 hop;unfold clsX;rw[hk];simp only[hs]
theorem ZFD{P:Program}{N:Nat}{ops:Array Oper}{c e:Nat}{b:B}{res:V}{an:Option Ans}{o:Oper}{st st1:St}{v:V}{obl:List Prop}(hgd:o.guard=none)
  (h:ZdR P N ops ⟨[(c,e)],[],[(c,b)],res⟩ an o st=some (v,obl,st1)) :
  ∃b',renB (gOut ⟨[(c,e)],[],[(c,b)],res⟩) b=some b'∧st1=⟨st.env,hrep st.heap e b'⟩∧(∃b0 b1,hget st.heap e=some b0∧renB (bwd [(c,e)]) b0=some b1) ∧
   ∀st2,(∀t∈ZfG ops o,st2.get t=st.get t)→hget st2.heap e=hget st.heap e→ZdR P N ops ⟨[(c,e)],[],[(c,b)],res⟩ an o st2=some (v,obl,⟨st2.env,hrep st2.heap e b'⟩):=by
 have hg:∀st:St,ZgS ops st o=some true:=fun st=>by unfold ZgS;rw[hgd]
 unfold ZdR at h;rw[hg]at h;simp only at h;split at h;rotate_left
 ·cases h
 rename_i f args tys hop;unfold ZfV at h;split at h;rotate_left
 ·cases h
 rename_i g a b1 om hcal;split at h;rotate_left
 ·cases h
 rename_i h0 vs hp r hok hhi hvs hhp hr;cases h;have hgo:gOut ⟨[(c,e)],[],[(c,b)],res⟩ c=some e:=by simp only[gOut,ZoQ,Nat.beq_refl]
 obtain⟨b',hb',rfl⟩ : ∃b',renB (gOut ⟨[(c,e)],[],[(c,b)],res⟩) b=some b'∧hp=[(e,b')]:=by
  simp only[ZqF,hgo]at hhp;split at hhp
  ·rename_i i0 b0 l0 q1 q2 q3;cases q1;cases q3;cases hhp;exact⟨_,q2,rfl⟩
  ·cases hhp
 have hpl:∀hh,ZxJ [(e,b')] [(c,e)] hh=hrep hh e b':=fun hh=>by
  unfold ZxJ;simp only[Ztf,Nat.beq_refl,Zvj]
 refine⟨b',hb',by rw[hpl],?_,fun st2 hu hh=>?_⟩
 ·simp only[hIn]at hhi;split at hhi
  ·rename_i b0 hb0;split at hhi
   ·rename_i b2 l2 q1 q2;exact⟨b0,b2,hb0,q1⟩
   ·cases hhi
  ·cases hhi
 ·have he:∀x∈ZcB (.call { callee:=f,args:=args,argTypes:=tys }),evo st2 x=evo st x:=fun x hx=>ZkA hu x (by rw[hop];exact hx);have hok2:okHA N st2 ⟨[(c,e)],[],[(c,b)],res⟩=true:=hok;have hhi2:hIn (bwd [(c,e)]) st2.heap [(c,e)]=some h0:=by
   rw[Zyg (h:=st.heap) (fun p hp=>by
    rcases List.mem_singleton.1 hp with rfl;exact hh)]
   exact hhi
  unfold ZdR;rw[hg];simp only[hop];unfold ZfV;rw[Zim he,hcal];simp only[hok2,hhi2,Zgy (fun x hx=>he x (ZlE x hx)) a b1,hvs,hhp,hr,hpl]
def plOf(ra:RA)(i:Nat)(o:Oper):Option Nat:=match Zdk ra.hc i,Zdk ra.hc (i+1000),o.guard with
 |some ⟨[(c,e)],[],[(c',_)],_⟩,none,none=>match Nat.beq c c' with
  |true=>some e
  |false=>none
 |_,_,_=>none
theorem Zmw{P:Program}{N:Nat}{T:Tab}{ops:Array Oper}{ra:RA}{i e:Nat}{o:Oper}{st st1:St}{v:V}{obl:List Prop}(hp:plOf ra i o=some e)(h:ZdQ P N T ops ra i o st=some (v,obl,st1)) :
  ∃b':B,(∀d,d≠e→b'.says d=false)∧st1=⟨st.env,hrep st.heap e b'⟩∧(∀d b0,d≠e→hget st.heap e=some b0→b0.says d=false) ∧
   ∀st2,(∀t∈ZfG ops o,st2.get t=st.get t)→hget st2.heap e=hget st.heap e→ZdQ P N T ops ra i o st2=some (v,obl,⟨st2.env,hrep st2.heap e b'⟩):=by
 unfold plOf at hp;split at hp;rotate_left
 ·cases hp
 rename_i c e0 c' b res hk hk2 hgd;split at hp;rotate_left
 ·cases hp
 rename_i hcc;cases hp;obtain rfl:=Nat.eq_of_beq_eq_true hcc;unfold ZdQ at h ⊢;simp only[hk,hk2]at h ⊢;obtain⟨b',h1,h2,⟨b0,b1,h3,h4⟩,h5⟩:=ZFD hgd h;refine⟨b',fun d hd=>ZFn (fun k hk'=>?_) h1,h2,fun d b2 hd hb2=>?_,h5⟩
 ·simp only[gOut,ZoQ]at hk';split at hk'
  ·rename_i hq;split at hq
   ·cases hq;cases hk';exact hd rfl
   ·cases hq
  ·cases hk'
 ·rw[h3]at hb2;cases hb2;refine ZDe ?_ h4;simp only[bwd,List.map_cons,List.map_nil,ZoQ];split
  ·rename_i hq;exact absurd (Nat.eq_of_beq_eq_true hq).symm hd
  ·rfl
structure Eqv (st st2:St):Prop where
 env:∀t,st2.get t=st.get t
 heap:st2.heap=st.heap
theorem Eqv.refl(st:St):Eqv st st:=⟨fun _=>rfl,rfl⟩
theorem Eqv.trans{a b c:St}(h:Eqv a b)(k:Eqv b c):Eqv a c:=⟨fun t=>(k.env t).trans (h.env t),k.heap.trans h.heap⟩
theorem Zvo{st st2:St}{d:Nat}(h:∀t,st2.get t=st.get t):∀n,Zhw st2 d n=Zhw st d n
 | 0=>rfl
 |n+1=>by simp only[Zhw,h n,Zvo h n]
theorem ZxH{st st2:St}(h:Eqv st st2)(N d:Nat):Zdm N d st2=Zdm N d st:=by
 unfold Zdm;rw[Zvo h.env,h.heap]
theorem ZbZ.eqv{N:Nat}{S0:Nat→Prop}{w0:ZaV}{st st2:St}{a:Act}{w:World}(h:ZbZ N S0 w0 st a w)(he:Eqv st st2):ZbZ N S0 w0 st2 a w:=
 h.le (N:=N) ⟨fun t=>.inl (he.env t),fun id b hb=>by rw[←he.heap];exact hb⟩
theorem ZFw{N:Nat}{st st2:St}(he:Eqv st st2)(ha:HA):okHA N st2 ha=okHA N st ha:=by
 unfold okHA;rw[show (fun p:Nat×Nat=>Zdm N p.2 st2)=fun p=>Zdm N p.2 st from funext fun p=>ZxH he N p.2]
theorem ZBT{P:Program}{N:Nat}{T:Tab}{ops:Array Oper}{ra:RA}{i:Nat}{o:Oper}{st st1 st2:St}{v:V}{obl:List Prop}(hc:ZsA ra i o=true)(he:Eqv st st2)(h:ZdQ P N T ops ra i o st=some (v,obl,st1)) :
  ∃hp,ZdQ P N T ops ra i o st2=some (v,obl,⟨st2.env,hp⟩)∧hp=st1.heap:=by
 by_cases hc3:clsX ra i o≤3
 ·obtain⟨e1,h1,hr'⟩:=ZeO (st2:=st2) hc3 (fun t _=>he.env t) (fun _=>he.heap) (fun _ hq=>by rw[ZxH he];exact hq) h;refine⟨_,hr',?_⟩;split
  ·rename_i hc1;rw[h1 hc1];exact he.heap
  ·rfl
 ·cases hk:Zdk ra.hc i with
  |none=>
   exfalso;unfold ZsA at hc;rw[Zkg hk]at hc3;rw[hk]at hc;exact hc3 (Nat.le_of_ble_eq_true hc)
  |some ha=>
   have hk2:Zdk ra.hc (i+1000)=none:=by
    cases hk2:Zdk ra.hc (i+1000)with
    |none=>rfl
    |some x=>
     exfalso;unfold ZsA at hc;rw[hk]at hc;simp only[hk2]at hc;apply hc3;unfold clsX;rw[hk];simp only[hc];omega
   unfold ZdQ at h ⊢;rw[hk]at h ⊢;simp only at h ⊢;rw[hk2]at h ⊢;simp only at h ⊢;unfold ZdR at h ⊢;rw[Zjq (o:=o) (ops:=ops) (fun t _=>he.env t)];split at h
   ·split at h
    ·rename_i c args tys hop;have hev:∀x,evo st2 x=evo st x:=fun x=>by
      cases x with
      |tmp t=>exact he.env t
      |const v=>rfl
      |func f=>rfl
      |global g=>rfl
     unfold ZfV at h ⊢;rw[Zim (args:=args) (tys:=tys) (fun x _=>hev x)];split at h;rotate_left
     ·cases h
     rename_i g a b om hcal;rw[Zgy (fun x _=>hev x) a b,ZFw he,he.heap];split at h;rotate_left
     ·cases h
     rename_i h0 vs hp r q1 q2 q3 q4 q5;cases h;simp only[q1,q2,q3,q4,q5];exact⟨_,rfl,rfl⟩
    ·cases h
   ·cases h;exact⟨_,rfl,he.heap⟩
   ·cases h
def Znb(ra:RA):Nat→List Oper→List (Nat×Nat)
 |_,[]=>[]
 |i,o :: r=>match Nat.beq (clsX ra i o) 3 with
  |true=>(i,o.dst.getD 0) :: Znb ra (i+1) r
  |false=>Znb ra (i+1) r
def ZdP(cert:List (List Nat))(i:Nat):List Nat:=cert.getD i []
def memN(k:Nat):List Nat→Bool
 | []=>false
 |x :: l=>match Nat.beq x k with
  |true=>true
  |false=>memN k l
theorem ZjD{k:Nat}:∀{l:List Nat},memN k l=true↔k∈l
 | []=>by simp[memN]
 |x :: l=>by
  simp only[memN]
  split
  ·rename_i h
   simp[ZaJ h]
  ·rename_i h
   have:=Nat.ne_of_beq_eq_false h
   rw[ZjD]
   simp[Ne.symm this]
def chk(ni:List (Nat×Nat))(ps:List Nat)(i:Nat)(v:V):Bool:=ni.all fun p=>Nat.beq p.1 i||memN p.1 ps || !(v.says p.2)
section
variable (P:Program) (N:Nat) (T:Tab) (ops:Array Oper) (ra:RA) (cert:List (List Nat)) (ni:List (Nat × Nat))
def bxOk(l:List Nat)(st:St)(op:Op):Bool:=match l with
 | []=>true
 |c :: _=>match op with
  | .load _ x=>match evo st x with
   | .one (.ptr d _)=>Nat.beq d c
   | .one (.rp _ _ _)=>Nat.beq 99998 c
   |_=>false
  | .store _ x _=>match evo st x with
   | .one (.ptr d _)=>Nat.beq d c
   |_=>false
  |_=>false
def ZgH(i:Nat)(st:St):Option (St×List Prop):=match ops[i]? with
 |none=>none
 |some o=>match bxOk (ZdP cert (ops.size+i)) st o.op with
  |false=>none
  |true=>match ZdQ P N T ops ra i o st with
   |none=>none
   |some (v,obl,st')=>match chk ni (ZdP cert i) i v with
    |false=>none
    |true=>match putO N st' o.dst v with
     |none=>none
     |some st''=>some (st'',obl)
def ZpW:List Nat→St→Option (St×List Prop)
 | [],st=>some (st,[])
 |i :: l,st=>match ZgH P N T ops ra cert ni i st with
  |none=>none
  |some (st1,o1)=>match ZpW l st1 with
   |none=>none
   |some (st2,o2)=>some (st2,o1++o2)
def disj(x:Option Nat)(l:List Nat):Bool:=match x with
 |none=>true
 |some d=>!(memN d l)
def Zmi(x y:Option Nat):Bool:=match x,y with
 |some a,some b=>!(Nat.beq a b)
 |_,_=>true
def ZGs(k i:Nat):Bool:=match ops[k]?,ops[i]? with
 |some a,some b=>disj a.dst (ZfG ops b)&&disj b.dst (ZfG ops a)&&Zmi a.dst b.dst &&
   ((Nat.ble (clsX ra k a) 1&&Nat.ble (clsX ra i b) 1)||(Nat.beq (clsX ra k a) 0&&Nat.ble (clsX ra i b) 3)||(Nat.beq (clsX ra i b) 0&&Nat.ble (clsX ra k a) 3)||(Nat.beq (clsX ra k a) 3&&Nat.beq (clsX ra i b) 1&&(ZfG ops b).all fun t=>Nat.blt t N)||(Nat.beq (clsX ra k a) 1&&Nat.beq (clsX ra i b) 3&&ZtB ra i b)||(ZkI ra k a&&ZkI ra i b)||((ZkI ra k a||isMk ra k a)&&(ZkI ra i b||isMk ra i b)&&(ZfG ops b).all fun t=>Nat.blt t N))
 |_,_=>false
def isLd:Op→Bool | .load _ _=>true|_=>false
def isSt:Op→Bool | .store _ _ _=>true|_=>false
def okLS(k i:Nat):Bool:=match ops[k]?,ops[i]?,ZdP cert (ops.size+k),ZdP cert (ops.size+i)with
 |some a,some b,c :: _,d :: _=>disj a.dst (ZfG ops b)&&disj b.dst (ZfG ops a)&&Zmi a.dst b.dst&&isLd a.op&&isSt b.op&&(Zdk ra.hc k).isNone&&(Zdk ra.hc i).isNone && !(Nat.beq c d)
 |_,_,_,_=>false
def okLC(k i:Nat):Bool:=match ops[k]?,ops[i]? with
 |some a,some b=>disj a.dst (ZfG ops b)&&disj b.dst (ZfG ops a)&&Zmi a.dst b.dst&&(match plOf ra k a,plOf ra i b with
  |some e,none=>(ZkI ra i b && !(Nat.beq (b.dst.getD 0) e))||(isLd b.op&&(Zdk ra.hc i).isNone&&match ZdP cert (ops.size+i)with
   |c :: _=>!(Nat.beq c e)
   | []=>false)
  |none,some e=>(ZkI ra k a && !(Nat.beq (a.dst.getD 0) e))||(isLd a.op&&(Zdk ra.hc k).isNone&&match ZdP cert (ops.size+k)with
   |c :: _=>!(Nat.beq c e)
   | []=>false)
  |_,_=>false)
 |_,_=>false
def ZnJ(k i:Nat):Bool:=ZGs N ops ra k i||okLS ops ra cert k i||okLC ops ra cert k i
end
theorem ZaH{N:Nat}{st st':St}{dst:Option Nat}{v:V}(h:putO N st dst v=some st')(t:Nat):st'.get t=(if dst=some t then v else st.get t)∧st'.heap=st.heap:=by
 unfold putO at h;split at h
 ·cases h;simp
 ·split at h
  ·cases h;rename_i d _ _;refine⟨?_,rfl⟩;rw[St.get_put];by_cases e:d=t
   ·subst e;simp
   ·rw[if_neg e,if_neg (by simpa using e)]
  ·cases h
theorem ZeN{N:Nat}{st st' st2:St}{dst:Option Nat}{v:V}(h:putO N st dst v=some st'):∃st2',putO N st2 dst v=some st2':=by
 cases dst with
 |none=>exact⟨_,rfl⟩
 |some d=>
  unfold putO at h ⊢;cases hb:Nat.blt d N with
  |true=>simp only[hb];exact⟨_,rfl⟩
  |false=>simp only[hb]at h;cases h
theorem ZbE{x:Option Nat}{l:List Nat}(h:disj x l=true){t:Nat}(ht:t∈l):x≠some t:=by
 rintro rfl;simp only[disj,Bool.not_eq_true']at h;rw[←Bool.not_eq_true,ZjD]at h;exact h ht
section
variable {P:Program} {N:Nat} {T:Tab} {ops:Array Oper} {ra:RA} {cert:List (List Nat)} {ni:List (Nat × Nat)}
theorem Zdz{i:Nat}{st st':St}{obl:List Prop}(h:ZgH P N T ops ra cert ni i st=some (st',obl)):∃o v st1,ops[i]?=some o∧ZdQ P N T ops ra i o st=some (v,obl,st1)∧chk ni (ZdP cert i) i v=true∧putO N st1 o.dst v=some st':=by
 unfold ZgH at h;split at h
 ·cases h
 rename_i o ho;split at h
 ·cases h
 split at h
 ·cases h
 rename_i v obl1 st1 hr;split at h
 ·cases h
 rename_i hc;split at h
 ·cases h
 rename_i st2 hp;cases h;exact⟨o,v,st1,ho,hr,hc,hp⟩
theorem ZeK{i:Nat}{st st':St}{obl:List Prop}(h:ZgH P N T ops ra cert ni i st=some (st',obl)){o:Oper}(ho:ops[i]?=some o):bxOk (ZdP cert (ops.size+i)) st o.op=true:=by
 unfold ZgH at h;rw[ho]at h;simp only at h;split at h
 ·cases h
 ·assumption
theorem ZeX{st st2:St}{o:Oper}(l:List Nat)(h:∀t∈ZfG ops o,st2.get t=st.get t):bxOk l st2 o.op=bxOk l st o.op:=by
 have he:=ZkA h;unfold bxOk;cases l with
 |nil=>rfl
 |cons c l=>
  obtain⟨dst,op,type,pos,after,guard⟩:=o;simp only at he ⊢;cases op<;>simp only[ZcB]at he ⊢
  case load t x=>rw[he x (by simp)]
  case store t x y=>rw[he x (by simp)]
theorem ZfX{i:Nat}{st st1 st':St}{o:Oper}{v:V}{obl:List Prop}(ho:ops[i]?=some o)(hbx:bxOk (ZdP cert (ops.size+i)) st o.op=true)(hr:ZdQ P N T ops ra i o st=some (v,obl,st1))(hc:chk ni (ZdP cert i) i v=true)(hp:putO N st1 o.dst v=some st'):ZgH P N T ops ra cert ni i st=some (st',obl):=by
 unfold ZgH;simp only[ho,hbx,hr,hc,hp]
theorem Zoj{ps:List Nat}{i k d:Nat}{v:V}(h:chk ni ps i v=true)(hk:(k,d)∈ni)(hne:k≠i)(hp:k ∉ ps):v.says d=false:=by
 have:=List.all_eq_true.1 h _ hk;simp only[Bool.or_eq_true,Bool.not_eq_true']at this;rcases this with (h1|h1)|h1
 ·exact absurd (ZaJ h1) hne
 ·exact absurd (ZjD.1 h1) hp
 ·exact h1
theorem ZxI{st:St}{d:Nat}(hd:d<ZgP):∀{n:Nat},(∀t,t<n→(st.get t).says d=false)→Zhw st d n=true
 | 0,_=>Nat.ble_eq_true_of_le hd
 |n+1,h=>by
  simp only[Zhw,h n (by omega)]
  exact ZxI hd fun t ht=>h t (by omega)
theorem Zjf{st st1 st':St}{dst:Option Nat}{v:V}{d:Nat}(hq:Zhw st d N=true)(he:∀t,st1.get t=st.get t)(hv:v.says d=false)(hp:putO N st1 dst v=some st'):Zhw st' d N=true:=
 ZxI (Ztp hq) fun t ht=>by
  rw[(ZaH hp t).1]
  split
  ·exact hv
  ·rw[he t];exact ZoM hq t ht
theorem ZiD{st st1:St}(h:st1.env=st.env)(t:Nat):st1.get t=st.get t:=by unfold St.get;rw[h]
theorem Zmv{st:St}{d:Nat}(h1:Zhw st d N=true)(h2:ZgO d st.heap=true):Zdm N d st=true:=by unfold Zdm;rw[h1];exact h2
def ZAk(ops:Array Oper)(ra:RA)(ni:List (Nat×Nat)):Prop:=∀i o,ops[i]?=some o→clsX ra i o=3→(i,o.dst.getD 0)∈ni
theorem Zlz{ra:RA}{i:Nat}{o:Oper}(h:ZkI ra i o=true):clsX ra i o=3:=by
 unfold ZkI at h;unfold clsX;split at h
 ·rename_i ha hk;rw[hk];split at h
  ·simp only[h]
  ·cases h
 ·rename_i hk;rw[hk];simp only;split at h
  ·simp only[Bool.and_eq_true]at h;exact Nat.eq_of_beq_eq_true h.2
  ·cases h
theorem Zzc(hni:ZAk ops ra ni){k i:Nat}{a b:Oper}(ha:ops[k]?=some a)(hb:ops[i]?=some b)(d1:disj a.dst (ZfG ops b)=true)(d2:disj b.dst (ZfG ops a)=true)(d3:Zmi a.dst b.dst=true)(ra':ZkI ra k a=true)(rb':ZkI ra i b=true)
  (hne:k≠i) (hki:k ∉ ZdP cert i) {st st1 st2:St} {o1 o2:List Prop} (h1:ZgH P N T ops ra cert ni k st=some (st1,o1)) (h2:ZgH P N T ops ra cert ni i st1=some (st2,o2))
  (hJ:∀o,ops[i]?=some o→clsX ra i o=3→Zhw st (o.dst.getD 0) N=true) :
  ∃st1' st2',ZgH P N T ops ra cert ni i st=some (st1',o2)∧ZgH P N T ops ra cert ni k st1'=some (st2',o1)∧Eqv st2' st2:=by
 obtain⟨a',va,sa,ha',hra,hca,hpa⟩:=Zdz h1;obtain⟨b',vb,sb,hb',hrb,hcb,hpb⟩:=Zdz h2;rw[ha]at ha';cases ha';rw[hb]at hb';cases hb';obtain⟨ba,sa1,sa2,rfl,sa4⟩:=ZlH ra' hra;obtain⟨bb,sb1,sb2,rfl,sb4⟩:=ZlH rb' hrb;have hst1:st1.heap=hins st.heap (a.dst.getD 0) ba:=(ZaH hpa 0).2;have g1:∀t,a.dst≠some t→st1.get t=st.get t:=fun t ht=>by rw[(ZaH hpa t).1,if_neg ht];rfl
 have hna:hget st.heap (a.dst.getD 0)=none:=(Zip (ZcY sa2).2).1;have hnb:hget st1.heap (b.dst.getD 0)=none:=(Zip (ZcY sb2).2).1;have hdne:b.dst.getD 0≠a.dst.getD 0:=by
  intro e;rw[hst1,e,ZeP,if_pos rfl]at hnb;cases hnb
 have hqb:Zdm N (b.dst.getD 0) st=true:=by
  refine Zmv (hJ b hb (Zlz rb')) ?_;have:=(ZcY sb2).2;rw[hst1]at this;exact ZmE hna this
 have hrb':=sb4 st (fun t ht=>(g1 t (ZbE d1 ht)).symm) hqb;obtain⟨st1',hp1⟩:=ZeN (st2:=⟨st.env,hins st.heap (b.dst.getD 0) bb⟩) hpb;have g2:∀t,b.dst≠some t→st1'.get t=st.get t:=fun t ht=>by rw[(ZaH hp1 t).1,if_neg ht];rfl
 have hst1':st1'.heap=hins st.heap (b.dst.getD 0) bb:=(ZaH hp1 0).2;have hqa:Zdm N (a.dst.getD 0) st1'=true:=by
  obtain⟨q1,q2⟩:=ZcY sa2;refine Zmv (Zjf (st1:=⟨st.env,hins st.heap (b.dst.getD 0) bb⟩) q1 (fun t=>rfl) (Zoj hcb (hni k a ha (Zlz ra')) hne hki) hp1) ?_;rw[hst1'];exact Zts hdne (sb1 _) q2
 have hra':=sa4 st1' (fun t ht=>g2 t (ZbE d2 ht)) hqa;obtain⟨st2',hp2⟩:=ZeN (st2:=⟨st1'.env,hins st1'.heap (a.dst.getD 0) ba⟩) hpa;have xb:bxOk (ZdP cert (ops.size+i)) st b.op=true:=by rw[ZeX (st:=st1) _ (fun t ht=>(g1 t (ZbE d1 ht)).symm)];exact ZeK h2 hb
 have xa:bxOk (ZdP cert (ops.size+k)) st1' a.op=true:=by rw[ZeX (st:=st) _ (fun t ht=>g2 t (ZbE d2 ht))];exact ZeK h1 ha
 refine⟨st1',st2',ZfX hb xb hrb' hcb hp1,ZfX ha xa hra' hca hp2,⟨fun t=>?_,?_⟩⟩
 ·rw[(ZaH hpb t).1,(ZaH hp2 t).1];have hd:¬(a.dst=some t∧b.dst=some t):=by
   rintro ⟨e1,e2⟩;rw[e1,e2]at d3;simp[Zmi]at d3
  by_cases e1:a.dst=some t
  ·rw[if_pos e1,if_neg (fun e2=>hd ⟨e1,e2⟩)];show (⟨st1.env,_⟩ : St).get t=_;rw[show (⟨st1.env,hins st1.heap (b.dst.getD 0) bb⟩ : St).get t=st1.get t from rfl,(ZaH hpa t).1,if_pos e1]
  ·rw[if_neg e1];have e3:(⟨st1'.env,hins st1'.heap (a.dst.getD 0) ba⟩ : St).get t=st1'.get t:=rfl;rw[e3,(ZaH hp1 t).1];split
   ·rfl
   ·rw[show (⟨st1.env,hins st1.heap (b.dst.getD 0) bb⟩ : St).get t=st1.get t from rfl,g1 t e1];rfl
 ·rw[(ZaH hpb 0).2,(ZaH hp2 0).2,hst1,hst1'];exact Zyc (a.dst.getD 0) (b.dst.getD 0) ba bb (Ne.symm hdne) st.heap
theorem Zzd(hni:ZAk ops ra ni){k i:Nat}{a b:Oper}(ha:ops[k]?=some a)(hb:ops[i]?=some b)(d1:disj a.dst (ZfG ops b)=true)(d2:disj b.dst (ZfG ops a)=true)(d3:Zmi a.dst b.dst=true)(ra':(ZkI ra k a||isMk ra k a)=true)(rb':(ZkI ra i b||isMk ra i b)=true)(hbN:∀t∈ZfG ops b,t<N)
  (hne:k≠i) (hki:k ∉ ZdP cert i) {st st1 st2:St} {o1 o2:List Prop} (h1:ZgH P N T ops ra cert ni k st=some (st1,o1)) (h2:ZgH P N T ops ra cert ni i st1=some (st2,o2))
  (hJ:∀o,ops[i]?=some o→clsX ra i o=3→Zhw st (o.dst.getD 0) N=true) :
  ∃st1' st2',ZgH P N T ops ra cert ni i st=some (st1',o2)∧ZgH P N T ops ra cert ni k st1'=some (st2',o1)∧Eqv st2' st2:=by
 obtain⟨a',va,sa,ha',hra,hca,hpa⟩:=Zdz h1;obtain⟨b',vb,sb,hb',hrb,hcb,hpb⟩:=Zdz h2;rw[ha]at ha';cases ha';rw[hb]at hb';cases hb';have ca:clsX ra k a=3:=by
  rw[Bool.or_eq_true]at ra';exact ra'.elim Zlz ZAP
 have cb:clsX ra i b=3:=by
  rw[Bool.or_eq_true]at rb';exact rb'.elim Zlz ZAP
 obtain⟨ba,sa1,sa2,rfl,sa4⟩:=ZxO ra' hra;obtain⟨bb,sb1,sb2,rfl,sb4⟩:=ZxO rb' hrb;have hst1:st1.heap=hins st.heap (a.dst.getD 0) ba:=(ZaH hpa 0).2;have g1:∀t,a.dst≠some t→st1.get t=st.get t:=fun t ht=>by rw[(ZaH hpa t).1,if_neg ht];rfl
 have hna:hget st.heap (a.dst.getD 0)=none:=(Zip (ZcY sa2).2).1;have hnb:hget st1.heap (b.dst.getD 0)=none:=(Zip (ZcY sb2).2).1;have hdne:b.dst.getD 0≠a.dst.getD 0:=by
  intro e;rw[hst1,e,ZeP,if_pos rfl]at hnb;cases hnb
 have hqb:Zdm N (b.dst.getD 0) st=true:=by
  refine Zmv (hJ b hb cb) ?_;have:=(ZcY sb2).2;rw[hst1]at this;exact ZmE hna this
 have hrb':=sb4 st (fun t ht=>(g1 t (ZbE d1 ht)).symm) (fun x hxm id bb hsy hb'=>by
  rw[hst1,ZeP]at hb';split at hb'
  ·rename_i e;exfalso;have:(evo st1 x).says (a.dst.getD 0)=false:=by
    cases x with
    |tmp t=>
     have ht:t∈ZfG ops b:=List.mem_append.2 (.inl (Zpz hxm));show (st1.get t).says _=false;rw[g1 t (ZbE d1 ht)];exact ZoM (ZcY sa2).1 t (hbN t ht)
    |const v=>exact Zvu v _
    |func f=>rfl
    |global g=>rfl
   rw[e]at this;simp only[this]at hsy;cases hsy
  ·exact hb') hqb
 obtain⟨st1',hp1⟩:=ZeN (st2:=⟨st.env,hins st.heap (b.dst.getD 0) bb⟩) hpb;have g2:∀t,b.dst≠some t→st1'.get t=st.get t:=fun t ht=>by rw[(ZaH hp1 t).1,if_neg ht];rfl
 have hst1':st1'.heap=hins st.heap (b.dst.getD 0) bb:=(ZaH hp1 0).2;have hqa:Zdm N (a.dst.getD 0) st1'=true:=by
  obtain⟨q1,q2⟩:=ZcY sa2;refine Zmv (Zjf (st1:=⟨st.env,hins st.heap (b.dst.getD 0) bb⟩) q1 (fun t=>rfl) (Zoj hcb (hni k a ha ca) hne hki) hp1) ?_;rw[hst1'];exact Zts hdne (sb1 _) q2
 have hra':=sa4 st1' (fun t ht=>g2 t (ZbE d2 ht)) (fun x hxm id bb' hsy hb'=>by
  rw[hst1',ZeP];split
  ·rename_i e;exfalso;have hnb0:=(Zip (ZcY hqb).2).1;rw[e]at hnb0;rw[hb']at hnb0;cases hnb0
  ·exact hb') hqa
 obtain⟨st2',hp2⟩:=ZeN (st2:=⟨st1'.env,hins st1'.heap (a.dst.getD 0) ba⟩) hpa;have xb:bxOk (ZdP cert (ops.size+i)) st b.op=true:=by rw[ZeX (st:=st1) _ (fun t ht=>(g1 t (ZbE d1 ht)).symm)];exact ZeK h2 hb
 have xa:bxOk (ZdP cert (ops.size+k)) st1' a.op=true:=by rw[ZeX (st:=st) _ (fun t ht=>g2 t (ZbE d2 ht))];exact ZeK h1 ha
 refine⟨st1',st2',ZfX hb xb hrb' hcb hp1,ZfX ha xa hra' hca hp2,⟨fun t=>?_,?_⟩⟩
 ·rw[(ZaH hpb t).1,(ZaH hp2 t).1];have hd:¬(a.dst=some t∧b.dst=some t):=by
   rintro ⟨e1,e2⟩;rw[e1,e2]at d3;simp[Zmi]at d3
  by_cases e1:a.dst=some t
  ·rw[if_pos e1,if_neg (fun e2=>hd ⟨e1,e2⟩)];show (⟨st1.env,_⟩ : St).get t=_;rw[show (⟨st1.env,hins st1.heap (b.dst.getD 0) bb⟩ : St).get t=st1.get t from rfl,(ZaH hpa t).1,if_pos e1]
  ·rw[if_neg e1];have e3:(⟨st1'.env,hins st1'.heap (a.dst.getD 0) ba⟩ : St).get t=st1'.get t:=rfl;rw[e3,(ZaH hp1 t).1];split
   ·rfl
   ·rw[show (⟨st1.env,hins st1.heap (b.dst.getD 0) bb⟩ : St).get t=st1.get t from rfl,g1 t e1];rfl
 ·rw[(ZaH hpb 0).2,(ZaH hp2 0).2,hst1,hst1'];exact Zyc (a.dst.getD 0) (b.dst.getD 0) ba bb (Ne.symm hdne) st.heap
theorem Zxs(hni:ZAk ops ra ni){k i e:Nat}{a b:Oper}(ha:ops[k]?=some a)(hb:ops[i]?=some b)(d1:disj a.dst (ZfG ops b)=true)(d2:disj b.dst (ZfG ops a)=true)(d3:Zmi a.dst b.dst=true)(ra':plOf ra k a=some e)(rb':ZkI ra i b=true)(hde:b.dst.getD 0≠e)
  {st st1 st2:St} {o1 o2:List Prop} (h1:ZgH P N T ops ra cert ni k st=some (st1,o1)) (h2:ZgH P N T ops ra cert ni i st1=some (st2,o2))
  (hJ:∀o,ops[i]?=some o→clsX ra i o=3→Zhw st (o.dst.getD 0) N=true) :
  ∃st1' st2',ZgH P N T ops ra cert ni i st=some (st1',o2)∧ZgH P N T ops ra cert ni k st1'=some (st2',o1)∧Eqv st2' st2:=by
 obtain⟨a',va,sa,ha',hra,hca,hpa⟩:=Zdz h1;obtain⟨b',vb,sb,hb',hrb,hcb,hpb⟩:=Zdz h2;rw[ha]at ha';cases ha';rw[hb]at hb';cases hb';obtain⟨ba,sa1,rfl,sa3,sa4⟩:=Zmw ra' hra;obtain⟨bb,sb1,sb2,rfl,sb4⟩:=ZlH rb' hrb;have hst1:st1.heap=hrep st.heap e ba:=(ZaH hpa 0).2;have g1:∀t,a.dst≠some t→st1.get t=st.get t:=fun t ht=>by rw[(ZaH hpa t).1,if_neg ht];rfl
 have hqb:Zdm N (b.dst.getD 0) st=true:=by
  refine Zmv (hJ b hb (Zlz rb')) ?_;have:=(ZcY sb2).2;rw[hst1]at this;exact Zqb (Ne.symm hde) (fun b0 h0=>sa3 _ b0 hde h0) this
 have hrb':=sb4 st (fun t ht=>(g1 t (ZbE d1 ht)).symm) hqb;obtain⟨st1',hp1⟩:=ZeN (st2:=⟨st.env,hins st.heap (b.dst.getD 0) bb⟩) hpb;have g2:∀t,b.dst≠some t→st1'.get t=st.get t:=fun t ht=>by rw[(ZaH hp1 t).1,if_neg ht];rfl
 have hst1':st1'.heap=hins st.heap (b.dst.getD 0) bb:=(ZaH hp1 0).2;have hra':=sa4 st1' (fun t ht=>g2 t (ZbE d2 ht)) (by rw[hst1',ZeP,if_neg hde]);obtain⟨st2',hp2⟩:=ZeN (st2:=⟨st1'.env,hrep st1'.heap e ba⟩) hpa;have xb:bxOk (ZdP cert (ops.size+i)) st b.op=true:=by rw[ZeX (st:=st1) _ (fun t ht=>(g1 t (ZbE d1 ht)).symm)];exact ZeK h2 hb
 have xa:bxOk (ZdP cert (ops.size+k)) st1' a.op=true:=by rw[ZeX (st:=st) _ (fun t ht=>g2 t (ZbE d2 ht))];exact ZeK h1 ha
 refine⟨st1',st2',ZfX hb xb hrb' hcb hp1,ZfX ha xa hra' hca hp2,⟨fun t=>?_,?_⟩⟩
 ·rw[(ZaH hpb t).1,(ZaH hp2 t).1];have hd:¬(a.dst=some t∧b.dst=some t):=by
   rintro ⟨e1,e2⟩;rw[e1,e2]at d3;simp[Zmi]at d3
  by_cases e1:a.dst=some t
  ·rw[if_pos e1,if_neg (fun e2=>hd ⟨e1,e2⟩)];show (⟨st1.env,_⟩ : St).get t=_;rw[show (⟨st1.env,hins st1.heap (b.dst.getD 0) bb⟩ : St).get t=st1.get t from rfl,(ZaH hpa t).1,if_pos e1]
  ·rw[if_neg e1];have e3:(⟨st1'.env,hrep st1'.heap e ba⟩ : St).get t=st1'.get t:=rfl;rw[e3,(ZaH hp1 t).1];split
   ·rfl
   ·rw[show (⟨st1.env,hins st1.heap (b.dst.getD 0) bb⟩ : St).get t=st1.get t from rfl,g1 t e1];rfl
 ·rw[(ZaH hpb 0).2,(ZaH hp2 0).2];simp only;rw[hst1,hst1',Zyb hde]
theorem Zxr(hni:ZAk ops ra ni){k i e:Nat}{a b:Oper}(ha:ops[k]?=some a)(hb:ops[i]?=some b)(d1:disj a.dst (ZfG ops b)=true)(d2:disj b.dst (ZfG ops a)=true)(d3:Zmi a.dst b.dst=true)(ra':ZkI ra k a=true)(rb':plOf ra i b=some e)(hde:a.dst.getD 0≠e)
  (hne:k≠i) (hki:k ∉ ZdP cert i) {st st1 st2:St} {o1 o2:List Prop} (h1:ZgH P N T ops ra cert ni k st=some (st1,o1)) (h2:ZgH P N T ops ra cert ni i st1=some (st2,o2)) :
  ∃st1' st2',ZgH P N T ops ra cert ni i st=some (st1',o2)∧ZgH P N T ops ra cert ni k st1'=some (st2',o1)∧Eqv st2' st2:=by
 obtain⟨a',va,sa,ha',hra,hca,hpa⟩:=Zdz h1;obtain⟨b',vb,sb,hb',hrb,hcb,hpb⟩:=Zdz h2;rw[ha]at ha';cases ha';rw[hb]at hb';cases hb';obtain⟨ba,sa1,sa2,rfl,sa4⟩:=ZlH ra' hra;obtain⟨bb,sb1,rfl,sb3,sb4⟩:=Zmw rb' hrb;have hst1:st1.heap=hins st.heap (a.dst.getD 0) ba:=(ZaH hpa 0).2;have g1:∀t,a.dst≠some t→st1.get t=st.get t:=fun t ht=>by rw[(ZaH hpa t).1,if_neg ht];rfl
 have hrb':=sb4 st (fun t ht=>(g1 t (ZbE d1 ht)).symm) (by rw[hst1,ZeP,if_neg hde]);obtain⟨st1',hp1⟩:=ZeN (st2:=⟨st.env,hrep st.heap e bb⟩) hpb;have g2:∀t,b.dst≠some t→st1'.get t=st.get t:=fun t ht=>by rw[(ZaH hp1 t).1,if_neg ht];rfl
 have hst1':st1'.heap=hrep st.heap e bb:=(ZaH hp1 0).2;have hqa:Zdm N (a.dst.getD 0) st1'=true:=by
  obtain⟨q1,q2⟩:=ZcY sa2;refine Zmv (Zjf (st1:=⟨st.env,hrep st.heap e bb⟩) q1 (fun t=>rfl) (Zoj hcb (hni k a ha (Zlz ra')) hne hki) hp1) ?_;rw[hst1'];exact Ztr (sb1 _ hde) q2
 have hra':=sa4 st1' (fun t ht=>g2 t (ZbE d2 ht)) hqa;obtain⟨st2',hp2⟩:=ZeN (st2:=⟨st1'.env,hins st1'.heap (a.dst.getD 0) ba⟩) hpa;have xb:bxOk (ZdP cert (ops.size+i)) st b.op=true:=by rw[ZeX (st:=st1) _ (fun t ht=>(g1 t (ZbE d1 ht)).symm)];exact ZeK h2 hb
 have xa:bxOk (ZdP cert (ops.size+k)) st1' a.op=true:=by rw[ZeX (st:=st) _ (fun t ht=>g2 t (ZbE d2 ht))];exact ZeK h1 ha
 refine⟨st1',st2',ZfX hb xb hrb' hcb hp1,ZfX ha xa hra' hca hp2,⟨fun t=>?_,?_⟩⟩
 ·rw[(ZaH hpb t).1,(ZaH hp2 t).1];have hd:¬(a.dst=some t∧b.dst=some t):=by
   rintro ⟨e1,e2⟩;rw[e1,e2]at d3;simp[Zmi]at d3
  by_cases e1:a.dst=some t
  ·rw[if_pos e1,if_neg (fun e2=>hd ⟨e1,e2⟩)];show (⟨st1.env,_⟩ : St).get t=_;rw[show (⟨st1.env,hrep st1.heap e bb⟩ : St).get t=st1.get t from rfl,(ZaH hpa t).1,if_pos e1]
  ·rw[if_neg e1];have e3:(⟨st1'.env,hins st1'.heap (a.dst.getD 0) ba⟩ : St).get t=st1'.get t:=rfl;rw[e3,(ZaH hp1 t).1];split
   ·rfl
   ·rw[show (⟨st1.env,hrep st1.heap e bb⟩ : St).get t=st1.get t from rfl,g1 t e1];rfl
 ·rw[(ZaH hpb 0).2,(ZaH hp2 0).2];simp only;rw[hst1,hst1',Zyb hde]
theorem ZyH{op:Op}{st:St}{c:Nat}{l:List Nat}(h:bxOk (c :: l) st op=true)(hl:isLd op=true):∀x∈ZcB op,∀id,(evo st x).says id=true→id=c:=by
 unfold bxOk at h;cases op<;>simp only[isLd]at hl<;>try (cases hl;done)
 rename_i t y;intro x hx id hs;simp only[ZcB,List.mem_singleton]at hx;subst hx;simp only at h;split at h
 ·rename_i d off hq;rw[hq]at hs;simp only[V.says,C.says]at hs;rw[←ZaJ h];exact(ZaJ hs).symm
 ·rename_i hq;rw[hq]at hs;simp only[V.says,C.says]at hs;cases hs
 ·cases h
theorem Zxq{k i e c:Nat}{l:List Nat}{a b:Oper}(ha:ops[k]?=some a)(hb:ops[i]?=some b)(d1:disj a.dst (ZfG ops b)=true)(d2:disj b.dst (ZfG ops a)=true)(d3:Zmi a.dst b.dst=true)(hla:isLd a.op=true)(hk1:Zdk ra.hc k=none)(hpk:ZdP cert (ops.size+k)=c :: l)(rb':plOf ra i b=some e)(hce:c≠e)
  {st st1 st2:St} {o1 o2:List Prop} (h1:ZgH P N T ops ra cert ni k st=some (st1,o1)) (h2:ZgH P N T ops ra cert ni i st1=some (st2,o2)) :
  ∃st1' st2',ZgH P N T ops ra cert ni i st=some (st1',o2)∧ZgH P N T ops ra cert ni k st1'=some (st2',o1)∧Eqv st2' st2:=by
 obtain⟨a',va,sa,ha',hra,hca,hpa⟩:=Zdz h1;obtain⟨b',vb,sb,hb',hrb,hcb,hpb⟩:=Zdz h2;rw[ha]at ha';cases ha';rw[hb]at hb';cases hb';have bxa:=ZeK h1 ha;rw[hpk]at bxa;have c1:clsX ra k a=1:=by
  rw[Zkg hk1];cases hq:a.op<;>rw[hq]at hla<;>first | (cases hla;done)|rfl
 obtain⟨ea,hha,_⟩:=ZeO (st2:=st) (by omega) (fun t _=>rfl) (fun _=>rfl) (fun _ h=>h) hra;have hh1:st1.heap=st.heap:=(ZaH hpa 0).2.trans (hha (by omega));have g1:∀t,a.dst≠some t→st1.get t=st.get t:=fun t ht=>by rw[(ZaH hpa t).1,if_neg ht];exact ZiD ea t
 have eb:=Zly hrb;obtain⟨bb,sb1,rfl,sb3,sb4⟩:=Zmw rb' hrb;have hrb':=sb4 st (fun t ht=>(g1 t (ZbE d1 ht)).symm) (by rw[hh1]);obtain⟨st1',hp1⟩:=ZeN (st2:=⟨st.env,hrep st.heap e bb⟩) hpb;have g2:∀t,b.dst≠some t→st1'.get t=st.get t:=fun t ht=>by rw[(ZaH hp1 t).1,if_neg ht];rfl
 have hst1':st1'.heap=hrep st.heap e bb:=(ZaH hp1 0).2;have hra':ZdQ P N T ops ra k a st1'=some (va,o1,st1'):=by
  refine ZlI c1 (fun t ht=>g2 t (ZbE d2 ht)) (fun x hxm id b0 hsy hb0=>?_) hra;have hid:=ZyH bxa hla x hxm id hsy;rw[hst1',ZqX,if_neg (by rw[hid];exact Ne.symm hce)];exact hb0
 obtain⟨st2',hp2⟩:=ZeN (st2:=st1') hpa;have xb:bxOk (ZdP cert (ops.size+i)) st b.op=true:=by rw[ZeX (st:=st1) _ (fun t ht=>(g1 t (ZbE d1 ht)).symm)];exact ZeK h2 hb
 have xa:bxOk (ZdP cert (ops.size+k)) st1' a.op=true:=by rw[ZeX (st:=st) _ (fun t ht=>g2 t (ZbE d2 ht))];exact ZeK h1 ha
 refine⟨st1',st2',ZfX hb xb hrb' hcb hp1,ZfX ha xa hra' hca hp2,⟨fun t=>?_,?_⟩⟩
 ·rw[(ZaH hpb t).1,(ZaH hp2 t).1];have hd:¬(a.dst=some t∧b.dst=some t):=by
   rintro ⟨e1,e2⟩;rw[e1,e2]at d3;simp[Zmi]at d3
  by_cases e1:a.dst=some t
  ·rw[if_pos e1,if_neg (fun e2=>hd ⟨e1,e2⟩),ZiD eb,(ZaH hpa t).1,if_pos e1]
  ·rw[if_neg e1];rw[(ZaH hp1 t).1];split
   ·rfl
   ·rw[ZiD eb,g1 t e1];rfl
 ·rw[(ZaH hpb 0).2,(ZaH hp2 0).2,hst1'];simp only;rw[hh1]
theorem Zxp{k i e c:Nat}{l:List Nat}{a b:Oper}(ha:ops[k]?=some a)(hb:ops[i]?=some b)(d1:disj a.dst (ZfG ops b)=true)(d2:disj b.dst (ZfG ops a)=true)(d3:Zmi a.dst b.dst=true)(hlb:isLd b.op=true)(hk1:Zdk ra.hc i=none)(hpi:ZdP cert (ops.size+i)=c :: l)(ra':plOf ra k a=some e)(hce:c≠e)
  {st st1 st2:St} {o1 o2:List Prop} (h1:ZgH P N T ops ra cert ni k st=some (st1,o1)) (h2:ZgH P N T ops ra cert ni i st1=some (st2,o2)) :
  ∃st1' st2',ZgH P N T ops ra cert ni i st=some (st1',o2)∧ZgH P N T ops ra cert ni k st1'=some (st2',o1)∧Eqv st2' st2:=by
 obtain⟨a',va,sa,ha',hra,hca,hpa⟩:=Zdz h1;obtain⟨b',vb,sb,hb',hrb,hcb,hpb⟩:=Zdz h2;rw[ha]at ha';cases ha';rw[hb]at hb';cases hb';have bxb:=ZeK h2 hb;rw[hpi]at bxb;have c1:clsX ra i b=1:=by
  rw[Zkg hk1];cases hq:b.op<;>rw[hq]at hlb<;>first | (cases hlb;done)|rfl
 obtain⟨ba,sa1,rfl,sa3,sa4⟩:=Zmw ra' hra;have hst1:st1.heap=hrep st.heap e ba:=(ZaH hpa 0).2;have g1:∀t,a.dst≠some t→st1.get t=st.get t:=fun t ht=>by rw[(ZaH hpa t).1,if_neg ht];rfl
 obtain⟨eb,hhb,_⟩:=ZeO (st2:=st1) (by omega) (fun t _=>rfl) (fun _=>rfl) (fun _ h=>h) hrb;have hrb':ZdQ P N T ops ra i b st=some (vb,o2,st):=by
  refine ZlI c1 (fun t ht=>(g1 t (ZbE d1 ht)).symm) (fun x hxm id b0 hsy hb0=>?_) hrb;have hid:=ZyH bxb hlb x hxm id hsy;rw[hst1,ZqX,if_neg (by rw[hid];exact Ne.symm hce)]at hb0;exact hb0
 obtain⟨st1',hp1⟩:=ZeN (st2:=st) hpb;have g2:∀t,b.dst≠some t→st1'.get t=st.get t:=fun t ht=>by rw[(ZaH hp1 t).1,if_neg ht]
 have hst1':st1'.heap=st.heap:=(ZaH hp1 0).2;have hra':=sa4 st1' (fun t ht=>g2 t (ZbE d2 ht)) (by rw[hst1']);obtain⟨st2',hp2⟩:=ZeN (st2:=⟨st1'.env,hrep st1'.heap e ba⟩) hpa;have xb:bxOk (ZdP cert (ops.size+i)) st b.op=true:=by rw[ZeX (st:=st1) _ (fun t ht=>(g1 t (ZbE d1 ht)).symm)];exact ZeK h2 hb
 have xa:bxOk (ZdP cert (ops.size+k)) st1' a.op=true:=by rw[ZeX (st:=st) _ (fun t ht=>g2 t (ZbE d2 ht))];exact ZeK h1 ha
 refine⟨st1',st2',ZfX hb xb hrb' hcb hp1,ZfX ha xa hra' hca hp2,⟨fun t=>?_,?_⟩⟩
 ·rw[(ZaH hpb t).1,(ZaH hp2 t).1];have hd:¬(a.dst=some t∧b.dst=some t):=by
   rintro ⟨e1,e2⟩;rw[e1,e2]at d3;simp[Zmi]at d3
  by_cases e1:a.dst=some t
  ·rw[if_pos e1,if_neg (fun e2=>hd ⟨e1,e2⟩),ZiD eb,(ZaH hpa t).1,if_pos e1]
  ·rw[if_neg e1];rw[show (⟨st1'.env,hrep st1'.heap e ba⟩ : St).get t=st1'.get t from rfl,(ZaH hp1 t).1];split
   ·rfl
   ·rw[ZiD eb,g1 t e1]
 ·rw[(ZaH hpb 0).2,(ZaH hp2 0).2,hhb (by omega),hst1,hst1']
theorem ZzE{T:Tab}{st st':St}{t d off:Nat}{v:V}{an:Option Ans}{obl:List Prop}(h:ZmW T st t (.one (.ptr d off)) v an=some (obl,st')):∀id,id≠d→hget st'.heap id=hget st.heap id:=by
 intro id hne;unfold ZmW at h;split at h
 ·split at h
  ·simp only at h;split at h
   ·split at h
    ·cases h;simp only[ZoT];rw[if_neg (Ne.symm hne)]
    ·cases h
   ·cases h
  ·cases h
 ·cases h
theorem ZDu{o:Oper}{i d off:Nat}{st st':St}{t:TypeId}{x y:Operand}{v:V}{obl:List Prop}(ho:o.op=.store t x y)(hx:evo st x=.one (.ptr d off))(h:Zop P N T ops ra i o st=some (v,obl,st')):∀id,id≠d→hget st'.heap id=hget st.heap id:=by
 intro id hne;unfold Zop at h;split at h
 ·cases h
 ·cases h;rfl
 ·split at h
  ·cases h
  rename_i v0 obl0 st0 hev;split at h
  ·cases h
  split at h;rotate_left
  ·cases h
  split at h;rotate_left
  ·cases h
  cases h;unfold evOp at hev;simp only[ho,hx]at hev;split at hev
  ·rename_i q hq;cases hev;exact ZzE hq id hne
  ·cases hev
theorem Zze{k i:Nat}(hok:okLS ops ra cert k i=true){st st1 st2:St}{o1 o2:List Prop}(h1:ZgH P N T ops ra cert ni k st=some (st1,o1))(h2:ZgH P N T ops ra cert ni i st1=some (st2,o2)) :
  ∃st1' st2',ZgH P N T ops ra cert ni i st=some (st1',o2)∧ZgH P N T ops ra cert ni k st1'=some (st2',o1)∧Eqv st2' st2:=by
 obtain⟨a,va,sa,ha,hra,hca,hpa⟩:=Zdz h1;obtain⟨b,vb,sb,hb,hrb,hcb,hpb⟩:=Zdz h2;have bxa:=ZeK h1 ha;have bxb:=ZeK h2 hb;unfold okLS at hok;rw[ha,hb]at hok;split at hok;rotate_left
 ·cases hok
 rename_i a' b' c l d l' ea eb hpk hpi;cases ea;cases eb;simp only[Bool.and_eq_true,Bool.not_eq_true',Option.isNone_iff_eq_none]at hok;obtain⟨⟨⟨⟨⟨⟨⟨d1,d2⟩,d3⟩,hla⟩,hsb⟩,hk1⟩,hk2⟩,hcd⟩:=hok;have hcd:c≠d:=Nat.ne_of_beq_eq_false hcd;rw[hpk]at bxa;rw[hpi]at bxb;have c1:clsX ra k a=1:=by
  rw[Zkg hk1];cases hq:a.op<;>rw[hq]at hla<;>first | (cases hla;done)|rfl
 have c2:clsX ra i b=2:=by
  rw[Zkg hk2];cases hq:b.op<;>rw[hq]at hsb<;>first | (cases hsb;done)|rfl
 obtain⟨ea,hha,_⟩:=ZeO (st2:=st) (by omega) (fun t _=>rfl) (fun _=>rfl) (fun _ h=>h) hra;have hh1:st1.heap=st.heap:=(ZaH hpa 0).2.trans (hha (by omega));have g1:∀t,a.dst≠some t→st1.get t=st.get t:=fun t ht=>by rw[(ZaH hpa t).1,if_neg ht];exact ZiD ea t
 obtain⟨eb,_,hrb'⟩:=ZeO (st2:=st) (by omega) (fun t ht=>(g1 t (ZbE d1 ht)).symm) (fun _=>hh1.symm) (fun h=>by omega) hrb;rw[if_neg (by omega)]at hrb';obtain⟨st1',hp1⟩:=ZeN (st2:=⟨st.env,sb.heap⟩) hpb;have g2:∀t,b.dst≠some t→st1'.get t=st.get t:=fun t ht=>by rw[(ZaH hp1 t).1,if_neg ht];rfl
 have hh2:st1'.heap=sb.heap:=(ZaH hp1 0).2;have hfar:∀id,id≠d→hget sb.heap id=hget st.heap id:=by
  intro id hne;rw[←hh1];unfold ZdQ at hrb;rw[hk2]at hrb;simp only at hrb;unfold bxOk at bxb;cases hq:b.op<;>rw[hq]at hsb<;>try (cases hsb;done)
  rename_i t x y;rw[hq]at bxb;simp only at bxb;split at bxb
  ·rename_i d' off hx;have:=ZaJ bxb;subst this;exact ZDu hq hx hrb id hne
  ·cases bxb
 have hra':ZdQ P N T ops ra k a st1'=some (va,o1,st1'):=by
  refine ZlI c1 (fun t ht=>g2 t (ZbE d2 ht)) (fun x hxm id bb hsy hb'=>?_) hra;rw[hh2,hfar id ?_]
  ·exact hb'
  rintro rfl;unfold bxOk at bxa;cases hq:a.op<;>rw[hq]at hla<;>try (cases hla;done)
  rename_i t y;rw[hq]at bxa hxm;simp only[ZcB,List.mem_singleton]at hxm;subst hxm;simp only at bxa;split at bxa
  ·rename_i d' off hx;have:=ZaJ bxa;subst this;simp only[hx,V.says,C.says]at hsy;exact hcd (ZaJ hsy)
  ·rename_i hx;simp only[hx,V.says,C.says]at hsy;cases hsy
  ·cases bxa
 obtain⟨st2',hp2⟩:=ZeN (st2:=st1') hpa;have xb:bxOk (ZdP cert (ops.size+i)) st b.op=true:=by rw[ZeX (st:=st1) _ (fun t ht=>(g1 t (ZbE d1 ht)).symm)];exact ZeK h2 hb
 have xa:bxOk (ZdP cert (ops.size+k)) st1' a.op=true:=by rw[ZeX (st:=st) _ (fun t ht=>g2 t (ZbE d2 ht))];exact ZeK h1 ha
 refine⟨st1',st2',ZfX hb xb hrb' hcb hp1,ZfX ha xa hra' hca hp2,⟨fun t=>?_,?_⟩⟩
 ·rw[(ZaH hpb t).1,(ZaH hp2 t).1];have hd:¬(a.dst=some t∧b.dst=some t):=by
   rintro ⟨e1,e2⟩;rw[e1,e2]at d3;simp[Zmi]at d3
  by_cases e1:a.dst=some t
  ·rw[if_pos e1,if_neg (fun e2=>hd ⟨e1,e2⟩),ZiD eb,(ZaH hpa t).1,if_pos e1]
  ·rw[if_neg e1,(ZaH hp1 t).1];split
   ·rfl
   ·rw[ZiD eb,g1 t e1];rfl
 ·rw[(ZaH hpb 0).2,(ZaH hp2 0).2,hh2]
theorem ZBA(hni:ZAk ops ra ni){k i:Nat}(hok:ZnJ N ops ra cert k i=true)(hne:k≠i)(hki:k ∉ ZdP cert i){st st1 st2:St}{o1 o2:List Prop}(h1:ZgH P N T ops ra cert ni k st=some (st1,o1))(h2:ZgH P N T ops ra cert ni i st1=some (st2,o2))
  (hJ:∀o,ops[i]?=some o→clsX ra i o=3→Zhw st (o.dst.getD 0) N=true) :
  ∃st1' st2',ZgH P N T ops ra cert ni i st=some (st1',o2)∧ZgH P N T ops ra cert ni k st1'=some (st2',o1)∧Eqv st2' st2:=by
 obtain⟨a,va,sa,ha,hra,hca,hpa⟩:=Zdz h1;obtain⟨b,vb,sb,hb,hrb,hcb,hpb⟩:=Zdz h2;unfold ZnJ at hok;rw[Bool.or_eq_true,Bool.or_eq_true]at hok;rcases hok with (hok|hok)|hok;rotate_left
 ·exact Zze hok h1 h2
 ·unfold okLC at hok;rw[ha,hb]at hok;simp only[Bool.and_eq_true]at hok;obtain⟨⟨⟨d1,d2⟩,d3⟩,hok⟩:=hok;split at hok
  ·rename_i e hpa' hpb';rw[Bool.or_eq_true]at hok;rcases hok with hok|hok
   ·rw[Bool.and_eq_true]at hok;exact Zxs hni ha hb d1 d2 d3 hpa' hok.1 (Nat.ne_of_beq_eq_false (by simpa using hok.2)) h1 h2 hJ
   ·simp only[Bool.and_eq_true,Option.isNone_iff_eq_none]at hok;obtain⟨⟨q1,q2⟩,q3⟩:=hok;split at q3
    ·rename_i c l hpr;exact Zxp ha hb d1 d2 d3 q1 q2 hpr hpa' (Nat.ne_of_beq_eq_false (by simpa using q3)) h1 h2
    ·cases q3
  ·rename_i e hpa' hpb';rw[Bool.or_eq_true]at hok;rcases hok with hok|hok
   ·rw[Bool.and_eq_true]at hok;exact Zxr hni ha hb d1 d2 d3 hok.1 hpb' (Nat.ne_of_beq_eq_false (by simpa using hok.2)) hne hki h1 h2
   ·simp only[Bool.and_eq_true,Option.isNone_iff_eq_none]at hok;obtain⟨⟨q1,q2⟩,q3⟩:=hok;split at q3
    ·rename_i c l hpr;exact Zxq ha hb d1 d2 d3 q1 q2 hpr hpb' (Nat.ne_of_beq_eq_false (by simpa using q3)) h1 h2
    ·cases q3
  ·cases hok
 unfold ZGs at hok;rw[ha,hb]at hok;simp only[Bool.and_eq_true,Bool.or_eq_true]at hok;obtain⟨⟨⟨d1,d2⟩,d3⟩,hcl⟩:=hok;rcases hcl with (hcl|⟨hR1,hR2⟩)|⟨⟨hR1,hR2⟩,hR3⟩;rotate_left
 ·exact Zzc hni ha hb d1 d2 d3 hR1 hR2 hne hki h1 h2 hJ
 ·exact Zzd hni ha hb d1 d2 d3 (by rw[Bool.or_eq_true];exact hR1) (by rw[Bool.or_eq_true];exact hR2) (fun t ht=>Nat.le_of_ble_eq_true (List.all_eq_true.1 hR3 t ht)) hne hki h1 h2 hJ
 have hcl':(clsX ra k a≤1∧clsX ra i b≤1)∨(clsX ra k a=0∧clsX ra i b≤3)∨(clsX ra i b=0∧clsX ra k a≤3)∨(clsX ra k a=3∧clsX ra i b=1∧∀t∈ZfG ops b,t<N)∨(clsX ra k a=1∧clsX ra i b=3∧ZtB ra i b=true):=by
  rcases hcl with (((⟨h,h'⟩|⟨h,h'⟩)|⟨h,h'⟩)|⟨⟨h,h'⟩,h''⟩)|⟨⟨h,h'⟩,h''⟩
  ·exact .inl ⟨Nat.le_of_ble_eq_true h,Nat.le_of_ble_eq_true h'⟩
  ·exact .inr (.inl ⟨ZaJ h,Nat.le_of_ble_eq_true h'⟩)
  ·exact .inr (.inr (.inl ⟨ZaJ h,Nat.le_of_ble_eq_true h'⟩))
  ·exact .inr (.inr (.inr (.inl ⟨ZaJ h,ZaJ h',fun t ht=>Nat.le_of_ble_eq_true (List.all_eq_true.1 h'' t ht)⟩)))
  ·exact .inr (.inr (.inr (.inr ⟨ZaJ h,ZaJ h',h''⟩)))
 -- k at st
 obtain⟨ea,hha,_⟩:=ZeO (st2:=st) (by omega) (fun t _=>rfl) (fun _=>rfl) (fun _ h=>h) hra;have hh1:clsX ra k a≤1→st1.heap=st.heap:=fun h=>(ZaH hpa 0).2.trans (hha h);have g1:∀t,a.dst≠some t→st1.get t=st.get t:=fun t ht=>by rw[(ZaH hpa t).1,if_neg ht];exact ZiD ea t
 -- i at st
 have hkc:clsX ra k a≤3:=by omega
 have hic:clsX ra i b≤3:=by omega
 obtain⟨eb,hhb,hrb'⟩ : sb.env=st1.env∧(clsX ra i b≤1→sb.heap=st1.heap)∧ZdQ P N T ops ra i b st=some (vb,o2,⟨st.env,if clsX ra i b≤1 then st.heap else sb.heap⟩):=by
  by_cases hx:clsX ra k a=3∧clsX ra i b=1
  ·obtain⟨e1,e2,_⟩:=ZeO (st2:=st1) (by omega) (fun t _=>rfl) (fun _=>rfl) (fun _ h=>h) hrb;refine⟨e1,e2,?_⟩;rw[if_pos (by omega)];have hN:∀t∈ZfG ops b,t<N:=by
    rcases hcl' with h|h|h|h|h
    ·omega
    ·omega
    ·omega
    ·exact h.2.2
    ·omega
   refine ZlI hx.2 (fun t ht=>(g1 t (ZbE d1 ht)).symm) (fun x hxm id bb hsy hb'=>?_) hrb;rw[(ZaH hpa 0).2]at hb';rcases Zvr hx.1 hra with rfl|⟨hq,hn⟩
   ·exact hb'
   ·rcases hn id bb hb' with rfl|h
    ·exfalso;have:(evo st1 x).says (a.dst.getD 0)=false:=by
      cases x with
      |tmp t=>
       have ht:t∈ZfG ops b:=List.mem_append.2 (.inl (Zpz hxm));show (st1.get t).says _=false;rw[g1 t (ZbE d1 ht)];exact ZoM (ZcY hq).1 t (hN t ht)
      |const v=>exact Zvu v _
      |func f=>rfl
      |global g=>rfl
     simp only[this]at hsy;cases hsy
    ·exact h
  ·exact ZeO (st2:=st) (by omega) (fun t ht=>(g1 t (ZbE d1 ht)).symm) (fun h=>(hh1 (by omega)).symm) (fun hc hq=>by
    obtain⟨_,q2⟩:=ZcY hq;refine Zmv (hJ b hb hc) ?_;rw[←hh1 (by omega)];exact q2) hrb
 obtain⟨st1',hp1⟩:=ZeN (st2:=⟨st.env,if clsX ra i b≤1 then st.heap else sb.heap⟩) hpb;have xb:bxOk (ZdP cert (ops.size+i)) st b.op=true:=by rw[ZeX (st:=st1) _ (fun t ht=>(g1 t (ZbE d1 ht)).symm)];exact ZeK h2 hb
 have hs1:=ZfX (cert:=cert) (ni:=ni) hb xb hrb' hcb hp1;have g2:∀t,b.dst≠some t→st1'.get t=st.get t:=fun t ht=>by rw[(ZaH hp1 t).1,if_neg ht];rfl
 have hh2:clsX ra i b≤1→st1'.heap=st.heap:=fun h=>by rw[(ZaH hp1 0).2];simp only[if_pos h]
 -- k behind i
 have hra':ZdQ P N T ops ra k a st1'=some (va,o1,⟨st1'.env,if clsX ra k a≤1 then st1'.heap else sa.heap⟩):=by
  by_cases hx:clsX ra k a=1∧clsX ra i b=3
  ·rw[if_pos (by omega)];have hnk:ZtB ra i b=true:=by
    rcases hcl' with h|h|h|h|h
    ·omega
    ·omega
    ·omega
    ·omega
    ·exact h.2.2
   refine ZlI hx.1 (fun t ht=>g2 t (ZbE d2 ht)) (fun x hxm id bb hsy hb'=>?_) hra;rw[(ZaH hp1 0).2];simp only[if_neg (show ¬clsX ra i b≤1 by omega)];have:=ZxP hx.2 hnk hrb' id bb hb';simpa only[if_neg (show ¬clsX ra i b≤1 by omega)]using this
  ·refine(ZeO (st2:=st1') (by omega) (fun t ht=>g2 t (ZbE d2 ht)) (fun h=>hh2 (by omega)) (fun hc hq=>by
    obtain⟨q1,q2⟩:=ZcY hq;refine Zmv (Zjf (st1:=⟨st.env,if clsX ra i b≤1 then st.heap else sb.heap⟩) q1 (fun t=>rfl) (Zoj hcb (hni k a ha hc) hne hki) hp1) ?_;rw[hh2 (by omega)];exact q2) hra).2.2
 obtain⟨st2',hp2⟩:=ZeN (st2:=⟨st1'.env,if clsX ra k a≤1 then st1'.heap else sa.heap⟩) hpa;have xa:bxOk (ZdP cert (ops.size+k)) st1' a.op=true:=by rw[ZeX (st:=st) _ (fun t ht=>g2 t (ZbE d2 ht))];exact ZeK h1 ha
 refine⟨st1',st2',hs1,ZfX ha xa hra' hca hp2,⟨fun t=>?_,?_⟩⟩
 ·rw[(ZaH hpb t).1,(ZaH hp2 t).1];have hd:¬(a.dst=some t∧b.dst=some t):=by
   rintro ⟨e1,e2⟩;rw[e1,e2]at d3;simp[Zmi]at d3
  by_cases e1:a.dst=some t
  ·rw[if_pos e1,if_neg (fun e2=>hd ⟨e1,e2⟩),ZiD eb,(ZaH hpa t).1,if_pos e1]
  ·rw[if_neg e1];have e3:(⟨st1'.env,if clsX ra k a≤1 then st1'.heap else sa.heap⟩ : St).get t=st1'.get t:=rfl;rw[e3,(ZaH hp1 t).1];split
   ·rfl
   ·rw[ZiD eb,g1 t e1];rfl
 ·rw[(ZaH hpb 0).2,(ZaH hp2 0).2];simp only;by_cases c1:clsX ra k a≤1
  ·rw[if_pos c1,(ZaH hp1 0).2];simp only;by_cases c2:clsX ra i b≤1
   ·rw[if_pos c2,hhb c2,hh1 c1]
   ·rw[if_neg c2]
  ·rw[if_neg c1,hhb (by omega),(ZaH hpa 0).2]
theorem ZCQ{i:Nat}{st st2 st':St}{obl:List Prop}(hcls:∀o,ops[i]?=some o→ZsA ra i o=true)(he:Eqv st st2)(h:ZgH P N T ops ra cert ni i st=some (st',obl)):∃st2',ZgH P N T ops ra cert ni i st2=some (st2',obl)∧Eqv st' st2':=by
 obtain⟨o,v,s1,ho,hr,hc,hp⟩:=Zdz h;have e1:=Zly hr;obtain⟨hp',hr',hph⟩:=ZBT (hcls o ho) he hr;obtain⟨st2',hp2⟩:=ZeN (st2:=⟨st2.env,hp'⟩) hp;refine⟨st2',ZfX ho (by rw[ZeX (ops:=ops) (st:=st) _ (fun t _=>he.env t)];exact ZeK h ho) hr' hc hp2,fun t=>?_,?_⟩
 ·rw[(ZaH hp t).1,(ZaH hp2 t).1];split
  ·rfl
  ·rw[ZiD e1];exact he.env t
 ·rw[(ZaH hp 0).2,(ZaH hp2 0).2];exact hph
theorem Zym:∀{l:List Nat}{st st2 st':St}{obl:List Prop},(∀i∈l,∀o,ops[i]?=some o→ZsA ra i o=true)→Eqv st st2→ZpW P N T ops ra cert ni l st=some (st',obl)→∃st2',ZpW P N T ops ra cert ni l st2=some (st2',obl)∧Eqv st' st2'
 | [],st,st2,st',obl,hcls,he,h=>by cases h;exact⟨st2,rfl,he⟩
 |i :: l,st,st2,st',obl,hcls,he,h=>by
  simp only[ZpW]at h
  split at h
  ·cases h
  rename_i s1 o1 h1
  split at h
  ·cases h
  rename_i s2 o2 h2
  cases h
  obtain⟨s1',h3,h4⟩:=ZCQ (hcls i (by simp)) he h1
  obtain⟨s2',h5,h6⟩:=Zym (fun j hj=>hcls j (by simp[hj])) h4 h2
  exact⟨s2',by simp only[ZpW,h3,h5],h6⟩
theorem Zqs(hni:ZAk ops ra ni){i:Nat}{post:List Nat}:∀{pre:List Nat}{st F:St}{obl:List Prop},(∀k∈pre++post,∀o,ops[k]?=some o→ZsA ra k o=true)→(∀k∈pre,ZnJ N ops ra cert k i=true∧k≠i∧k ∉ ZdP cert i∧i ∉ ZdP cert k) →
  (∀o,ops[i]?=some o→clsX ra i o=3→Zhw st (o.dst.getD 0) N=true)→ZpW P N T ops ra cert ni (pre++i :: post) st=some (F,obl) →
  ∃st1 oi F' o',ZgH P N T ops ra cert ni i st=some (st1,oi)∧ZpW P N T ops ra cert ni (pre++post) st1=some (F',o')∧Eqv F F'∧∀q∈oi++o',q∈obl
 | [],st,F,obl,hcls,hp,hJ,h=>by
  simp only[List.nil_append,ZpW]at h
  split at h
  ·cases h
  rename_i s1 o1 h1
  split at h
  ·cases h
  rename_i s2 o2 h2
  cases h
  exact⟨s1,o1,_,o2,h1,h2,Eqv.refl _,fun q hq=>hq⟩
 |k :: pre,st,F,obl,hcls,hp,hJ,h=>by
  simp only[List.cons_append,ZpW]at h
  split at h
  ·cases h
  rename_i s1 o1 h1
  split at h
  ·cases h
  rename_i s2 o2 h2
  cases h
  obtain⟨hok,hne,hki,hik⟩:=hp k (by simp)
  obtain⟨a,va,sa,ha,hra,hca,hpa⟩:=Zdz h1
  have hJ1:∀o,ops[i]?=some o→clsX ra i o=3→Zhw s1 (o.dst.getD 0) N=true:=fun o ho hc=>by
   have ea:=Zly hra
   exact Zjf (hJ o ho hc) (ZiD ea) (Zoj hca (hni i o ho hc) (Ne.symm hne) hik) hpa
  obtain⟨t1,oi,F1,o',h3,h4,h5,h6⟩:=Zqs hni (fun j hj=>hcls j (List.mem_cons_of_mem _ hj)) (fun k' hk'=>hp k' (by simp[hk'])) hJ1 h2
  obtain⟨t1',t2',h7,h8,h9⟩:=ZBA hni hok hne hki h1 h3 hJ
  obtain⟨F2,h10,h11⟩:=Zym (l:=pre++post) (fun j hj=>hcls j (List.mem_cons_of_mem _ hj)) (st:=t1) (st2:=t2') ⟨fun t=>(h9.env t).symm,h9.heap.symm⟩ h4
  refine⟨t1',oi,F2,o1++o',h7,by simp only[List.cons_append,ZpW,h8,h10],h5.trans h11,fun q hq=>?_⟩
  rcases List.mem_append.1 hq with hq|hq
  ·exact List.mem_append.2 (.inr (h6 q (List.mem_append.2 (.inl hq))))
  ·rcases List.mem_append.1 hq with hq|hq
   ·exact List.mem_append.2 (.inl hq)
   ·exact List.mem_append.2 (.inr (h6 q (List.mem_append.2 (.inr hq))))
end
end Go.Proofs.YtdjfoojllbfcgaaGreat
