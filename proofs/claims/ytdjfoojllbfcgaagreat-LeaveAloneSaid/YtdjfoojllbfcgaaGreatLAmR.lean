import Derived.Test.YtdjfoojllbfcgaaGreatLAmQ
namespace Go.Proofs.YtdjfoojllbfcgaaGreat
open Go.RowKit
set_option linter.unusedSimpArgs false
set_option linter.unusedVariables false
def ZtZ:List Operand→List Nat | []=>[] | .tmp t :: l=>t :: ZtZ l|_ :: l=>ZtZ l
def ZfB(ops:Array Oper)(o:Oper):List Nat:=ZtZ (Zcy o.op)++match o.guard with
 |none=>[]
 |some (j,_)=>match (ops[j]?).bind (·.dst)with
  |some t=>[t]
  |none=>[]
theorem ZoE{t:Nat}:∀{l:List Operand},Operand.tmp t∈l→t∈ZtZ l
 | [],h=>by cases h
 |x :: l,h=>by
  rcases List.mem_cons.1 h with rfl|h
  ·simp[ZtZ]
  ·have:=ZoE h
   cases x<;>simp[ZtZ,this]
theorem ZjM{st st2:St}{ops:Array Oper}{o:Oper}(h:∀t∈ZfB ops o,st2.get t=st.get t):∀x∈Zcy o.op,evo st2 x=evo st x:=by
 intro x hx;cases x with
 |tmp t=>exact h t (List.mem_append.2 (.inl (ZoE hx)))
 |_=>rfl
theorem ZiK{st st2:St}{ops:Array Oper}{o:Oper}(h:∀t∈ZfB ops o,st2.get t=st.get t):ZgR ops st2 o=ZgR ops st o:=by
 unfold ZgR;split
 ·rfl
 ·rename_i j want hg;split
  ·rename_i t ht;rw[h t (by unfold ZfB;rw[hg];simp[ht])]
  ·rfl
theorem Zrc{P:Program}{N:Nat}{T:Tab}{st:St}{o:Oper}{ra:RA}{i:Nat}{p:V×List Prop×St}(hc:ZeE ra i o.op=3)(h:evOp P N T o st (Zdj ra.an i)=some p):Zdo N (o.dst.getD 0) st=true:=by
 obtain⟨dst,op,type,pos,after,guard⟩:=o;simp only at hc;have hbox:∀{l},Zoz N st (dst.getD 0) l=some p→Zdo N (dst.getD 0) st=true:=by
  intro l hb;unfold Zoz at hb;split at hb
  ·assumption
  ·cases hb
 cases op<;>(try (simp only[ZeE]at hc))<;>(try (exact absurd hc (by decide)))
 case move x=>split at hc<;>cases hc
 case assign x=>split at hc<;>cases hc
 case alloc e=>
  simp only[evOp]at h
  repeat' split at h
  all_goals first | (cases h;done)|exact hbox h
 case box e x=>
  simp only[evOp]at h
  repeat' split at h
  all_goals first | (cases h;done)|exact hbox h
 case makeSlice t l c=>
  split at hc
  ·cases hc
  rename_i hx;simp only[evOp]at h;split at h
  ·rename_i hk;exact absurd hk (hx _ _)
  ·cases h
  unfold Zld at h
  repeat' split at h
  all_goals first | (cases h;done)|assumption
 case buildSlice t n ps=>
  split at hc
  ·rename_i n' c' hno;simp only[evOp]at h;unfold Zez at h;rw[hno]at h
   repeat' split at h
   all_goals first | (cases h;done)|assumption | (rename_i hx;exact absurd rfl (hx _ _))
  ·cases hc
 case call c=>
  obtain⟨callee,args,tys⟩:=c;cases callee with
  |value f=>simp only[ZeE]at hc;cases hc
  |invoke r n=>simp only[ZeE]at hc;cases hc
  |builtin b=>
   cases b<;>(try (simp only[ZeE]at hc))<;>(try (exact absurd hc (by decide)))
   case append=>
    split at hc
    ·cases hc
    rename_i hno;simp only[evOp]at h;split at h;rotate_left
    ·cases h
    split at h;rotate_left
    ·cases h
    unfold ZjN at h
    repeat' split at h
    all_goals first | (cases h;done)|assumption
theorem ZxW{P:Program}{N:Nat}{T:Tab}{ops:Array Oper}{ra:RA}{i:Nat}{o:Oper}{st st1 st2:St}{v:V}{obl:List Prop}(hc:ZeE ra i o.op≤3)(hu:∀t∈ZfB ops o,st2.get t=st.get t)
  (hh:ZeE ra i o.op≠0→st2.heap=st.heap) (hq:ZeE ra i o.op=3→Zdo N (o.dst.getD 0) st=true→Zdo N (o.dst.getD 0) st2=true) (h:ZnG P N T ops ra i o st=some (v,obl,st1)) :
  st1.env=st.env∧(ZeE ra i o.op≤1→st1.heap=st.heap)∧ZnG P N T ops ra i o st2=some (v,obl,⟨st2.env,if ZeE ra i o.op≤1 then st2.heap else st1.heap⟩):=by
 unfold ZnG at h ⊢;rw[ZiK hu];split at h
 ·cases h
 ·cases h;refine⟨rfl,fun _=>rfl,?_⟩;split
  ·rfl
  ·rename_i hcc;rw[←hh (by omega)]
 ·have he:=ZjM hu;split at h
  ·cases h
  rename_i v0 obl0 st0 hev;split at h
  ·cases h
  rename_i v' obl' hd;split at h;rotate_left
  ·cases h
  rename_i v'' hdn;split at h;rotate_left
  ·cases h
  rename_i v3 obl3 hrl;cases h;refine⟨ZzO hev,?_⟩;have hcase:ZeE ra i o.op=0∨ZeE ra i o.op=1∨ZeE ra i o.op=2∨ZeE ra i o.op=3:=by omega
  rcases hcase with hcc|hcc|hcc|hcc
  ·have e1:=ZET (P:=P) (N:=N) (T:=T) (st:=st) (st2:=st) hcc (fun x _=>rfl);have e2:=ZET (P:=P) (N:=N) (T:=T) (st:=st) (st2:=st2) hcc he;rw[hev]at e1 e2;simp only[Option.map_some,Option.some.injEq,Prod.mk.injEq,true_and]at e1;subst e1;refine⟨fun _=>rfl,?_⟩;rw[e2];simp only[Option.map_some,hd,hdn,hrl,hcc];rfl
  ·have e1:=ZEU (P:=P) (N:=N) (T:=T) (st:=st) (st2:=st) hcc (fun x _=>rfl) rfl;have e2:=ZEU (P:=P) (N:=N) (T:=T) (st:=st) (st2:=st2) hcc he (hh (by omega));rw[hev]at e1 e2;simp only[Option.map_some,Option.some.injEq,Prod.mk.injEq,true_and]at e1;subst e1;refine⟨fun _=>rfl,?_⟩;rw[e2];simp only[Option.map_some,hd,hdn,hrl,hcc];rfl
  ·have e2:=ZGx (P:=P) (N:=N) (T:=T) (st:=st) (st2:=st2) hcc he (hh (by omega));rw[hev]at e2;refine⟨fun h=>by omega,?_⟩;rw[e2];simp only[Option.map_some,hd,hdn,hrl,hcc];rfl
  ·have hqq:=Zrc hcc hev;have e2:=ZGy (P:=P) (N:=N) (T:=T) (st:=st) (st2:=st2) hcc he (hh (by omega)) ((hq hcc hqq).trans hqq.symm);rw[hev]at e2;refine⟨fun h=>by omega,?_⟩;rw[e2];simp only[Option.map_some,hd,hdn,hrl,hcc];rfl
theorem ZAA{P:Program}{N:Nat}{T:Tab}{ops:Array Oper}{ra:RA}{i:Nat}{o:Oper}{st st1 st2:St}{v:V}{obl:List Prop}(hc:ZeE ra i o.op=1)(hu:∀t∈ZfB ops o,st2.get t=st.get t)
  (hm:∀x∈Zcy o.op,Has st st2 fun id=>(evo st x).says id) (h:ZnG P N T ops ra i o st=some (v,obl,st1)):ZnG P N T ops ra i o st2=some (v,obl,st2):=by
 unfold ZnG at h ⊢;rw[ZiK hu];split at h
 ·cases h
 ·cases h;rfl
 ·have he:=ZjM hu;split at h
  ·cases h
  rename_i v0 obl0 st0 hev;split at h
  ·cases h
  rename_i v' obl' hd;split at h;rotate_left
  ·cases h
  rename_i v'' hdn;split at h;rotate_left
  ·cases h
  rename_i v3 obl3 hrl;cases h;have e2:=ZGz (P:=P) (N:=N) (T:=T) (st:=st) (st2:=st2) hc he hm hev;simp only[e2,hd,hdn,hrl]
theorem ZBO{P:Program}{N:Nat}{T:Tab}{ops:Array Oper}{ra:RA}{i:Nat}{o:Oper}{st st1:St}{v:V}{obl:List Prop}(hc:ZeE ra i o.op=3)(h:ZnG P N T ops ra i o st=some (v,obl,st1)) :
  st1=st∨(Zdo N (o.dst.getD 0) st=true∧∀id b,hget st1.heap id=some b→id=o.dst.getD 0∨hget st.heap id=some b):=by
 unfold ZnG at h;split at h
 ·cases h
 ·cases h;exact .inl rfl
 ·split at h
  ·cases h
  rename_i v0 obl0 st0 hev;split at h
  ·cases h
  split at h;rotate_left
  ·cases h
  split at h;rotate_left
  ·cases h
  cases h;exact .inr ⟨Zrc hc hev,Zyl hc hev⟩
theorem Zda{N:Nat}{st:St}{d:Nat}(h:Zdo N d st=true):Zhp st d N=true∧ZgN d st.heap=true:=by
 unfold Zdo at h;split at h
 ·rename_i h1;exact⟨h1,h⟩
 ·cases h
theorem ZxX{P:Program}{N:Nat}{T:Tab}{ops:Array Oper}{ra:RA}{i:Nat}{o:Oper}{st st1:St}{v:V}{obl:List Prop}(hc:ZeE ra i o.op=3)(hk:Zzv o.op=true)(h:ZnG P N T ops ra i o st=some (v,obl,st1)) :
  ∀id b,hget st.heap id=some b→hget st1.heap id=some b:=by
 unfold ZnG at h;split at h
 ·cases h
 ·cases h;exact fun _ _ h=>h
 ·split at h
  ·cases h
  rename_i v0 obl0 st0 hev;split at h
  ·cases h
  split at h;rotate_left
  ·cases h
  split at h;rotate_left
  ·cases h
  cases h;exact ZwU hc hk (ZhR (Zda (Zrc hc hev)).2).1 hev
def ZfZ(o:Oper)(ha:HA):Bool:=match ha.lend,ha.new,ha.h1,o.guard with
 | [],[(c,d)],[(c',.rows _ _ _ _)],none=>Nat.beq d (o.dst.getD 0)&&Nat.beq c c'&&Nat.beq c 99999
 |_,_,_,_=>false
def clsX(ra:RA)(i:Nat)(o:Oper):Nat:=match Zdj ra.hc i with
 |none=>ZeE ra i o.op
 |some ha=>match ZfZ o ha with
  |true=>3
  |false=>match Zdj ra.hc (i+1000)with
   |some _=>5
   |none=>match ha.new with
    | []=>2
    |_ :: _=>4
def Zsz(ra:RA)(i:Nat)(o:Oper):Bool:=match Zdj ra.hc i with
 |none=>Zzv o.op
 |some _=>true
def ZdX(P:Program)(N:Nat)(ops:Array Oper)(ha:HA)(an:Option Ans)(o:Oper)(st:St):Option (V×List Prop×St):=match ZgR ops st o with
 |some true=>match o.op with
  | .call { callee:=c,args:=args,argTypes:=_ }=>ZfV P N st c args.toList ha an
  |_=>none
 |some false=>some (.one (.lit undef),[],st)
 |none=>none
def ZgQ(P:Program)(N:Nat)(ops:Array Oper)(ha:HA)(an:Option Ans)(o:Oper)(st:St):Option (V×List Prop×St):=match ZgR ops st o with
 |some true=>match o.op with
  | .call { callee:=c,args:=args,argTypes:=_ }=>Zgv P N st c args.toList ha an
  |_=>none
 |some false=>some (.one (.lit undef),[],st)
 |none=>none
def ZdW(P:Program)(N:Nat)(T:Tab)(ops:Array Oper)(ra:RA)(i:Nat)(o:Oper)(st:St):Option (V×List Prop×St):=match Zdj ra.hc i with
 |none=>ZnG P N T ops ra i o st
 |some ha=>match Zdj ra.hc (i+1000)with
  |none=>ZdX P N ops ha (Zdj ra.an i) o st
  |some _=>ZgQ P N ops ha (Zdj ra.an i) o st
theorem Zul{P:Program}{N:Nat}{T:Tab}{ops:Array Oper}{ra:RA}{i:Nat}{o:Oper}{st st1 st2:St}{v:V}{obl:List Prop}(h:ZdW P N T ops ra i o st=some (v,obl,st1))(hp:putO N st1 o.dst v=some st2):Zkg P N T ops ra i o st=some (st2,obl):=by
 unfold ZdW at h;unfold Zkg;split at h
 ·rename_i hk;rw[hk];simp only;unfold Zzt;simp only[h,hp]
 ·rename_i ha hk;rw[hk];simp only;split at h
  ·unfold ZdX at h;unfold Zww;split at h
   ·split at h
    ·rename_i h1 _ c args tys hop;simp only[h1,hop,Ztf (Ztg h),hp]
    ·cases h
   ·rename_i h1;cases h;simp only[h1,hp]
   ·cases h
  ·unfold ZgQ at h;unfold Zww;split at h
   ·split at h
    ·rename_i h1 _ c args tys hop;simp only[h1,hop,Ztf h,hp]
    ·cases h
   ·rename_i h1;cases h;simp only[h1,hp]
   ·cases h
theorem ZpA{P:Program}{N:Nat}{st st1:St}{c:Callee}{args:List Operand}{ha:HA}{an:Option Ans}{v:V}{obl:List Prop}(h:ZfV P N st c args ha an=some (v,obl,st1)):st1.env=st.env:=by
 unfold ZfV at h;split at h
 ·split at h
  ·cases h;rfl
  ·cases h
 ·cases h
theorem ZwZ{P:Program}{N:Nat}{st st1:St}{c:Callee}{args:List Operand}{ha:HA}{an:Option Ans}{v:V}{obl:List Prop}(h:Zgv P N st c args ha an=some (v,obl,st1)):st1.env=st.env:=by
 unfold Zgv at h;split at h
 ·rename_i r hr;cases h;exact ZpA hr
 ·unfold Zjj at h;split at h
  ·split at h
   ·split at h
    ·cases h;rfl
    ·cases h
   ·cases h
  ·cases h
theorem ZkH{P:Program}{N:Nat}{T:Tab}{ops:Array Oper}{ra:RA}{i:Nat}{o:Oper}{st st1:St}{v:V}{obl:List Prop}(h:ZdW P N T ops ra i o st=some (v,obl,st1)):st1.env=st.env:=by
 unfold ZdW at h;split at h
 ·unfold ZnG at h;split at h
  ·cases h
  ·cases h;rfl
  ·split at h
   ·cases h
   rename_i v0 obl0 st0 hev;split at h
   ·cases h
   split at h;rotate_left
   ·cases h
   split at h;rotate_left
   ·cases h
   cases h;exact ZzO hev
 ·split at h
  ·unfold ZdX at h;split at h
   ·split at h
    ·exact ZpA h
    ·cases h
   ·cases h;rfl
   ·cases h
  ·unfold ZgQ at h;split at h
   ·split at h
    ·exact ZwZ h
    ·cases h
   ·cases h;rfl
   ·cases h
theorem ZhO{P:Program}{st st2:St}{c:Callee}{args:Array Operand}{tys:Array TypeId}{an:Option Ans}(h:∀x∈Zcy (.call { callee:=c,args:=args,argTypes:=tys }),evo st2 x=evo st x):ZiI P st2 c an=ZiI P st c an:=by
 cases c with
 |value f=>simp only[ZiI,ZiB,h f (by simp[Zcy])]
 |invoke r n=>simp only[ZiI,h r (by simp[Zcy])]
 |builtin b=>rfl
theorem ZkK{c:Callee}{args:Array Operand}{tys:Array TypeId}:∀x∈args.toList,x∈Zcy (.call { callee:=c,args:=args,argTypes:=tys }):=by
 intro x hx;cases c<;>simp only[Zcy]<;>first|exact hx|exact List.mem_cons_of_mem _ hx
theorem ZFF{P:Program}{N:Nat}{ops:Array Oper}{ha:HA}{an:Option Ans}{o:Oper}{st st1:St}{v:V}{obl:List Prop}(hn:ha.new=[])(h:ZdX P N ops ha an o st=some (v,obl,st1)) :
  st1.env=st.env∧∀st2:St,(∀t∈ZfB ops o,st2.get t=st.get t)→st2.heap=st.heap→ZdX P N ops ha an o st2=some (v,obl,⟨st2.env,st1.heap⟩):=by
 unfold ZdX at h;split at h
 ·rename_i hgd;split at h
  ·rename_i c args tys hop;refine⟨ZpA h,fun st2 hu hh=>?_⟩;unfold ZdX;rw[ZiK hu,hgd];have he:=ZjM hu;rw[hop]at he ⊢;simp only;unfold ZfV at h ⊢;rw[ZhO he];have hok:okHA N st2 ha=okHA N st ha:=by
    unfold okHA;rw[hn];rfl
   split at h;rotate_left
   ·cases h
   rename_i g a b om hcal;rw[Zgw (fun x hx=>he x (ZkK x hx)) a b,hok,hh];split at h;rotate_left
   ·cases h
   rename_i h0 vs hp r q1 q2 q3 q4 q5;cases h;simp only[q1,q2,q3,q4,q5]
  ·cases h
 ·rename_i hgd;cases h;refine⟨rfl,fun st2 hu hh=>?_⟩;unfold ZdX;rw[ZiK hu,hgd];simp only[←hh]
 ·cases h
theorem Zsq{d e:Nat}{b:B}(hne:e≠d)(hb:b.says d=false):∀{h:List (Nat×B)},ZgN d h=true→ZgN d (hins h e b)=true:=by
 have hf:Nat.beq e d=false:=by
  cases hx:Nat.beq e d
  ·rfl
  ·exact absurd (Nat.eq_of_beq_eq_true hx) hne
 intro h;induction h with
 |nil=>intro _;simp only[hins,ZgN,hf,hb]
 |cons p r ih=>
  obtain⟨k,v⟩:=p;intro hq;have hq':=hq;simp only[ZgN]at hq;split at hq
  ·rename_i h1 h2;simp only[hins];split
   ·simp only[ZgN,hf,hb];exact hq
   ·split
    ·simp only[ZgN,hf,hb,h1,h2];exact hq
    ·simp only[ZgN,h1,h2];exact ih hq
  ·cases hq
theorem ZlL{d e:Nat}{b:B}:∀{h:List (Nat×B)},hget h e=none→ZgN d (hins h e b)=true→ZgN d h=true
 | [],_,_=>rfl
 | (k,v) :: r,hn,hq=>by
  rw[ZaU]at hn
  split at hn
  ·cases hn
  rename_i hke
  have hf:Nat.beq k e=false:=by
   cases hx:Nat.beq k e
   ·rfl
   ·exact absurd (Nat.eq_of_beq_eq_true hx) hke
  simp only[hins,hf]at hq;split at hq
  ·simp only[ZgN]at hq;split at hq
   ·simp only[ZgN];exact hq
   ·cases hq
  ·simp only[ZgN]at hq ⊢;split at hq
   ·rename_i h1 h2;exact ZlL hn hq
   ·cases hq
theorem ZzI{P:Program}{N:Nat}{ops:Array Oper}{ha:HA}{an:Option Ans}{o:Oper}{st st1:St}{v:V}{obl:List Prop}(hs:ZfZ o ha=true)(h:ZdX P N ops ha an o st=some (v,obl,st1)) :
  ∃b:B,(∀k,b.says k=false)∧Zdo N (o.dst.getD 0) st=true∧st1=⟨st.env,hins st.heap (o.dst.getD 0) b⟩∧∀st2,(∀t∈ZfB ops o,st2.get t=st.get t)→Zdo N (o.dst.getD 0) st2=true →
   ZdX P N ops ha an o st2=some (v,obl,⟨st2.env,hins st2.heap (o.dst.getD 0) b⟩):=by
 unfold ZfZ at hs;split at hs;rotate_left
 ·cases hs
 rename_i c d c' e sz len cc hl hn hh1 hgd;simp only[Bool.and_eq_true]at hs;obtain⟨⟨e1,e2⟩,e3⟩:=hs;have e1:=Nat.eq_of_beq_eq_true e1;have e2:=Nat.eq_of_beq_eq_true e2;subst e2;obtain⟨lend,new,h1,res⟩:=ha;simp only at hl hn hh1;subst hl hn hh1;subst e1;have hg:∀st:St,ZgR ops st o=some true:=fun st=>by unfold ZgR;rw[hgd]
 unfold ZdX at h;rw[hg]at h;simp only at h;split at h;rotate_left
 ·cases h
 rename_i f args tys hop;unfold ZfV at h;split at h;rotate_left
 ·cases h
 rename_i g a b om hcal;split at h;rotate_left
 ·cases h
 rename_i h0 vs hp r hok hhi hvs hhp hr;cases h;have hq:Zdo N (o.dst.getD 0) st=true:=by
  unfold okHA at hok;split at hok
  ·rename_i q1 q2 q3 q4;exact List.all_eq_true.1 q4 _ (List.mem_cons_self)
  ·cases hok
 have hpe:hp=[(o.dst.getD 0,.rows e sz len cc)]:=by
  have:gOut ⟨[],[(c,o.dst.getD 0)],[(c,.rows e sz len cc)],res⟩ c=some (o.dst.getD 0):=by
   simp only[gOut,ZnH,Nat.beq_refl]
  simp only[ZpJ,this,renB]at hhp;exact(Option.some.inj hhp).symm
 subst hpe;refine⟨.rows e sz len cc,fun _=>rfl,hq,rfl,fun st2 hu hq2=>?_⟩;have he:∀x∈Zcy (.call { callee:=f,args:=args,argTypes:=tys }),evo st2 x=evo st x:=fun x hx=>ZjM hu x (by rw[hop];exact hx);have hca:ZbP st2 args.toList a b=ZbP st args.toList a b:=Zgw (fun x hx=>he x (ZkK x hx)) a b;have hok2:okHA N st2 ⟨[],[(c,o.dst.getD 0)],[(c,.rows e sz len cc)],res⟩=true:=by
  unfold okHA at hok ⊢;split at hok
  ·rename_i q1 q2 q3 q4;simp only at q1 q2 q3;simp only[q1,q2,q3,List.all_cons,List.all_nil,hq2,Bool.and_true]
  ·cases hok
 have hhi2:hIn (bwd ([]:List (Nat×Nat))) st2.heap ([]:List (Nat×Nat))=some h0:=hhi;unfold ZdX;rw[hg];simp only[hop];unfold ZfV;rw[ZhO he,hcal];simp only[hok2,hhi2,hca,hvs,hhp,hr];rfl
theorem ZvA{P:Program}{N:Nat}{st st2:St}{c:Callee}{args:Array Operand}{tys:Array TypeId}{ha:HA}{an:Option Ans}(he:∀x∈Zcy (.call { callee:=c,args:=args,argTypes:=tys }),evo st2 x=evo st x)(hh:st2.heap=st.heap)(hok:okHA N st2 ha=okHA N st ha) :
  Zgv P N st2 c args.toList ha an=(Zgv P N st c args.toList ha an).map fun r=>(r.1,r.2.1,⟨st2.env,r.2.2.heap⟩):=by
 have hca:∀a b,ZbP st2 args.toList a b=ZbP st args.toList a b:=fun a b=>Zgw (fun x hx=>he x (ZkK x hx)) a b;have e1:ZfV P N st2 c args.toList ha an=(ZfV P N st c args.toList ha an).map fun r=>(r.1,r.2.1,⟨st2.env,r.2.2.heap⟩):=by
  unfold ZfV;rw[ZhO he,hok,hh];cases ZiI P st c an with
  |none=>rfl
  |some q=>
   obtain⟨g,a,b,om⟩:=q;simp only[hca];generalize okHA N st ha=x1;generalize hIn (bwd ha.lend) st.heap ha.lend=x2;generalize ZAn (bwd ha.lend) (ZbP st args.toList a b)=x3;generalize ZpJ (gOut ha) ha.h1=x4;generalize renV (gOut ha) ha.res=x5;cases x1<;>cases x2<;>cases x3<;>cases x4<;>cases x5<;>rfl
 have e2:Zjj P N st2 c args.toList ha an=(Zjj P N st c args.toList ha an).map fun r=>(r.1,r.2.1,⟨st2.env,r.2.2.heap⟩):=by
  obtain⟨lend,new,h1,res⟩:=ha;have hb:∀l,borA st2 l=borA st l:=Ztu hh;unfold Zjj;rw[ZhO he,hok,hh];simp only[hca,hb];cases ZiI P st c an with
  |none=>split<;>rfl
  |some q=>
   obtain⟨g,a,b,om⟩:=q;simp only;generalize okHA N st ⟨lend,new,h1,res⟩=x1;generalize borA st (ZbP st args.toList a b)=x2;generalize ZpJ (gOut ⟨lend,new,h1,res⟩) h1=x3;generalize renV (gOut ⟨lend,new,h1,res⟩) res=x4;generalize ZsI h1=x5;split
   ·cases x1<;>cases x2<;>cases x3<;>cases x4<;>cases x5<;>rfl
   ·rfl
 unfold Zgv;rw[e1,e2];cases ZfV P N st c args.toList ha an<;>rfl
theorem ZFG{P:Program}{N:Nat}{ops:Array Oper}{ha:HA}{an:Option Ans}{o:Oper}{st st1:St}{v:V}{obl:List Prop}(hs:ZfZ o ha=true)(h:ZgQ P N ops ha an o st=some (v,obl,st1)) :
  ∃b:B,Zdo N (o.dst.getD 0) st=true∧st1=⟨st.env,hins st.heap (o.dst.getD 0) b⟩∧∀st2,(∀t∈ZfB ops o,st2.get t=st.get t)→st2.heap=st.heap→Zdo N (o.dst.getD 0) st2=true →
   ZgQ P N ops ha an o st2=some (v,obl,⟨st2.env,st1.heap⟩):=by
 unfold ZfZ at hs;split at hs;rotate_left
 ·cases hs
 rename_i c d c' e sz len cc hl hn hh1 hgd;simp only[Bool.and_eq_true]at hs;obtain⟨⟨e1,e2⟩,e3⟩:=hs;have e1:=Nat.eq_of_beq_eq_true e1;have e2:=Nat.eq_of_beq_eq_true e2;subst e2;obtain⟨lend,new,h1,res⟩:=ha;simp only at hl hn hh1;subst hl hn hh1;subst e1;have hg:∀st:St,ZgR ops st o=some true:=fun st=>by unfold ZgR;rw[hgd]
 unfold ZgQ at h;rw[hg]at h;simp only at h;split at h;rotate_left
 ·cases h
 rename_i f args tys hop;have hpe:∀hp,ZpJ (gOut ⟨[],[(c,o.dst.getD 0)],[(c,.rows e sz len cc)],res⟩) [(c,.rows e sz len cc)]=some hp→hp=[(o.dst.getD 0,.rows e sz len cc)]:=fun hp hhp=>by
  have:gOut ⟨[],[(c,o.dst.getD 0)],[(c,.rows e sz len cc)],res⟩ c=some (o.dst.getD 0):=by
   simp only[gOut,ZnH,Nat.beq_refl]
  simp only[ZpJ,this,renB]at hhp;exact(Option.some.inj hhp).symm
 have hmain:okHA N st ⟨[],[(c,o.dst.getD 0)],[(c,.rows e sz len cc)],res⟩=true∧st1=⟨st.env,hins st.heap (o.dst.getD 0) (.rows e sz len cc)⟩:=by
  have h':=h;unfold Zgv at h';split at h'
  ·rename_i r hr;cases h';unfold ZfV at hr;split at hr;rotate_left
   ·cases hr
   split at hr;rotate_left
   ·cases hr
   rename_i h0 vs hp r hok hhi hvs hhp hr';cases hr;rw[hpe _ hhp];exact⟨hok,rfl⟩
  ·unfold Zjj at h';split at h';rotate_left
   ·cases h'
   split at h';rotate_left
   ·cases h'
   split at h';rotate_left
   ·cases h'
   rename_i vs hp r ps hok hvs hhp hr' hps;cases h';rw[hpe _ hhp];exact⟨hok,rfl⟩
 obtain⟨hok,hst1⟩:=hmain;have hq:Zdo N (o.dst.getD 0) st=true:=by
  have hok':=hok;unfold okHA at hok';split at hok'
  ·rename_i q1 q2 q3 q4;exact List.all_eq_true.1 q4 _ (List.mem_cons_self)
  ·cases hok'
 refine⟨.rows e sz len cc,hq,hst1,fun st2 hu hh hq2=>?_⟩;have he:∀x∈Zcy (.call { callee:=f,args:=args,argTypes:=tys }),evo st2 x=evo st x:=fun x hx=>ZjM hu x (by rw[hop];exact hx);have hok2:okHA N st2 ⟨[],[(c,o.dst.getD 0)],[(c,.rows e sz len cc)],res⟩=true:=by
  have hok':=hok;unfold okHA at hok' ⊢;split at hok'
  ·rename_i q1 q2 q3 q4;simp only at q1 q2 q3;simp only[q1,q2,q3,List.all_cons,List.all_nil,hq2,Bool.and_true]
  ·cases hok'
 unfold ZgQ;rw[hg];simp only[hop];rw[ZvA he hh (hok2.trans hok.symm),h];rfl
def ZEH:Op→Bool | .makeSlice .. | .buildSlice .. | .alloc _=>true|_=>false
theorem ZAc{ti:TI}{l:List C}(h:ZrZ ti=some l)(k:Nat):l.any (C.says k)=false:=by
 unfold ZrZ at h;split at h;rotate_left
 ·cases h
 rename_i z hz;have lits:∀xs:List Value,(xs.map C.lit).any (C.says k)=false:=fun xs=>by
  induction xs with
  |nil=>rfl
  |cons x xs ih=>simp[C.says,ih]
 cases z with
 |agg cs=>
  simp only[V.ofVal]at h;split at h
  ·cases h;exact lits _
  ·cases h
 |_=>
  simp only[V.ofVal,V.cells]at h
  first | (cases h;rfl) | (split at h<;>cases h;rfl)
def Zrn(ra:RA)(i:Nat)(o:Oper):Bool:=match Zdj ra.hc i with
 |some ha=>match Zdj ra.hc (i+1000)with
  |none=>true
  |some _=>ZfZ o ha
 |none=>Nat.ble (ZeE ra i o.op) 3
def ZjS(ra:RA)(i:Nat)(o:Oper):Bool:=match Zdj ra.hc i with
 |some ha=>match Zdj ra.hc (i+1000)with
  |none=>ZfZ o ha
  |some _=>false
 |none=>match o.guard with
  |none=>ZEH o.op&&Nat.beq (ZeE ra i o.op) 3
  |some _=>false
theorem Zyn{N:Nat}{T:Tab}{st st1:St}{d t:Nat}{x y:V}{an:Option Ans}{v:V}{obl:List Prop}(h:Zld N T st d t x y an=some (v,obl,st1)) :
  ∃b:B,(∀k,b.says k=false)∧Zdo N d st=true∧st1=⟨st.env,hins st.heap d b⟩∧∀st2,Zdo N d st2=true→Zld N T st2 d t x y an=some (v,obl,⟨st2.env,hins st2.heap d b⟩):=by
 unfold Zld at h
 repeat' split at h
 all_goals first | (cases h;done)|skip
 all_goals
  cases h;refine⟨_,fun _=>rfl,by assumption,rfl,fun st2 hq=>?_⟩;unfold Zld;simp only[*,St.new]
theorem Ztd{N:Nat}{T:Tab}{st st1:St}{d t n:Nat}{ps:List (Nat×V)}{k:Nat}{c:Nat→Nat→C}{v:V}{obl:List Prop}(h:Zez N T st d t n ps (some (.c k c))=some (v,obl,st1)) :
  ∃b:B,(∀k,b.says k=false)∧Zdo N d st=true∧st1=⟨st.env,hins st.heap d b⟩∧∀st2,Zdo N d st2=true→Zez N T st2 d t n ps (some (.c k c))=some (v,obl,⟨st2.env,hins st2.heap d b⟩):=by
 unfold Zez at h ⊢;split at h<;>try (cases h;done)
 split at h<;>try (cases h;done)
 split at h<;>try (cases h;done)
 split at h<;>try (cases h;done)
 split at h<;>try (cases h;done)
 split at h<;>try (cases h;done)
 simp only at h;split at h
 ·cases h
 ·rename_i hq;cases h;refine⟨_,fun _=>rfl,hq,rfl,fun st2 hq2=>?_⟩;simp only[*,St.new]
theorem ZkM{P:Program}{N:Nat}{T:Tab}{ops:Array Oper}{ra:RA}{i:Nat}{o:Oper}{st st1:St}{v:V}{obl:List Prop}(hs:ZjS ra i o=true)(h:ZdW P N T ops ra i o st=some (v,obl,st1)) :
  ∃b:B,(∀k,b.says k=false)∧Zdo N (o.dst.getD 0) st=true∧st1=⟨st.env,hins st.heap (o.dst.getD 0) b⟩∧∀st2,(∀t∈ZfB ops o,st2.get t=st.get t)→Zdo N (o.dst.getD 0) st2=true →
   ZdW P N T ops ra i o st2=some (v,obl,⟨st2.env,hins st2.heap (o.dst.getD 0) b⟩):=by
 unfold ZjS at hs;unfold ZdW at h ⊢;split at hs
 ·rename_i ha hk;cases hk2:Zdj ra.hc (i+1000)with
  |some y=>rw[hk2]at hs;cases hs
  |none=>
   rw[hk2]at hs;simp only[hk,hk2]at h ⊢;exact ZzI hs h
 ·rename_i hk;rw[hk]at h ⊢;simp only at h ⊢;split at hs;rotate_left
  ·cases hs
  rename_i hgd;have hg:∀st:St,ZgR ops st o=some true:=fun st=>by unfold ZgR;rw[hgd]
  simp only[Bool.and_eq_true]at hs;obtain⟨hr,hcl⟩:=hs;have hcl:=Nat.eq_of_beq_eq_true hcl;unfold ZnG at h;rw[hg]at h;simp only at h;split at h
  ·cases h
  rename_i v0 obl0 st0 hev;split at h
  ·cases h
  rename_i v' obl' hd;split at h;rotate_left
  ·cases h
  rename_i v'' hdn;split at h;rotate_left
  ·cases h
  rename_i v3 obl3 hrl;cases h;have hmain:∃b:B,(∀k,b.says k=false)∧Zdo N (o.dst.getD 0) st=true∧st1=⟨st.env,hins st.heap (o.dst.getD 0) b⟩∧∀st2,(∀x∈Zcy o.op,evo st2 x=evo st x)→Zdo N (o.dst.getD 0) st2=true →
    evOp P N T o st2 (Zdj ra.an i)=some (v0,obl0,⟨st2.env,hins st2.heap (o.dst.getD 0) b⟩):=by
   obtain⟨dst,op,type,pos,after,guard⟩:=o;simp only at hr hcl hgd ⊢;cases op<;>simp only[ZEH]at hr<;>try (cases hr;done)
   case alloc t0 _=>
    simp only[evOp]at hev;split at hev;rotate_left
    ·cases hev
    rename_i te hte;split at hev;rotate_left
    ·cases hev
    rename_i l hl;unfold Zoz at hev;split at hev;rotate_left
    ·cases hev
    rename_i hq hsay;cases hev;refine⟨.box l,fun k=>ZAc hl k,hq,rfl,fun st2 he hq2=>?_⟩;simp only[evOp,hte,hl];unfold Zoz;rw[hq2,hsay];rfl
   case makeSlice t0 x y _=>
    simp only[ZeE]at hcl;split at hcl
    ·cases hcl
    rename_i hx;simp only[evOp]at hev;split at hev
    ·rename_i hk;exact absurd hk (hx _ _)
    ·cases hev
    obtain⟨b,h1,h2,h3,h4⟩:=Zyn hev;refine⟨b,h1,h2,h3,fun st2 he hq=>?_⟩;simp only[evOp];rw[he x (by simp[Zcy]),he y (by simp[Zcy])];exact h4 st2 hq
   case buildSlice t n ps _=>
    simp only[ZeE]at hcl;split at hcl;rotate_left
    ·cases hcl
    rename_i k c hka;simp only[evOp,hka]at hev;obtain⟨b,h1,h2,h3,h4⟩:=Ztd hev;refine⟨b,h1,h2,h3,fun st2 he hq=>?_⟩;simp only[evOp,hka];rw[ZpQ (fun x hx=>he x (by simpa[Zcy]using hx))];exact h4 st2 hq
  obtain⟨b,h1,h2,h3,h4⟩:=hmain;refine⟨b,h1,h2,h3,fun st2 hu hq=>?_⟩;unfold ZnG;rw[hg];simp only[h4 st2 (ZjM hu) hq,hd,hdn,hrl]
theorem Zjk{ra:RA}{i:Nat}{o:Oper}(h:Zdj ra.hc i=none):clsX ra i o=ZeE ra i o.op:=by unfold clsX;rw[h]
theorem Ztq{ra:RA}{i:Nat}{o:Oper}{ha:HA}(h:Zdj ra.hc i=some ha)(hc:clsX ra i o≤3):(ZfZ o ha=true∧clsX ra i o=3)∨(ha.new=[]∧clsX ra i o=2∧Zdj ra.hc (i+1000)=none):=by
 unfold clsX at hc ⊢;rw[h]at hc ⊢;simp only at hc ⊢;split at hc
 ·rename_i hs;exact .inl ⟨hs,rfl⟩
 ·split at hc
  ·omega
  ·rename_i hk2;split at hc
   ·rename_i hn;exact .inr ⟨hn,rfl,hk2⟩
   ·omega
theorem Zsw{P:Program}{N:Nat}{T:Tab}{ops:Array Oper}{ra:RA}{i:Nat}{o:Oper}{ha:HA}{st st1:St}{v:V}{obl:List Prop}(hk:Zdj ra.hc i=some ha)(hs:ZfZ o ha=true)(h:ZdW P N T ops ra i o st=some (v,obl,st1)) :
  ∃b:B,Zdo N (o.dst.getD 0) st=true∧st1=⟨st.env,hins st.heap (o.dst.getD 0) b⟩∧∀st2,(∀t∈ZfB ops o,st2.get t=st.get t)→st2.heap=st.heap→Zdo N (o.dst.getD 0) st2=true →
   ZdW P N T ops ra i o st2=some (v,obl,⟨st2.env,st1.heap⟩):=by
 unfold ZdW at h ⊢;cases hk2:Zdj ra.hc (i+1000)with
 |none=>
  simp only[hk,hk2]at h ⊢;obtain⟨b,h1,h2,rfl,h4⟩:=ZzI hs h;refine⟨b,h2,rfl,fun st2 hu hh hq=>?_⟩;rw[h4 st2 hu hq,hh]
 |some x=>
  simp only[hk,hk2]at h ⊢;exact ZFG hs h
theorem ZeH{P:Program}{N:Nat}{T:Tab}{ops:Array Oper}{ra:RA}{i:Nat}{o:Oper}{st st1 st2:St}{v:V}{obl:List Prop}(hc:clsX ra i o≤3)(hu:∀t∈ZfB ops o,st2.get t=st.get t)
  (hh:clsX ra i o≠0→st2.heap=st.heap) (hq:clsX ra i o=3→Zdo N (o.dst.getD 0) st=true→Zdo N (o.dst.getD 0) st2=true) (h:ZdW P N T ops ra i o st=some (v,obl,st1)) :
  st1.env=st.env∧(clsX ra i o≤1→st1.heap=st.heap)∧ZdW P N T ops ra i o st2=some (v,obl,⟨st2.env,if clsX ra i o≤1 then st2.heap else st1.heap⟩):=by
 cases hk:Zdj ra.hc i with
 |none=>
  rw[Zjk hk]at *
  unfold ZdW at h ⊢;rw[hk]at h ⊢;exact ZxW hc hu hh hq h
 |some ha=>
  rcases Ztq hk hc with⟨hs,e3⟩|⟨hn,e3,hk2⟩
  ·rw[e3]at hh hq ⊢;obtain⟨b,h2,rfl,h4⟩:=Zsw hk hs h;refine⟨rfl,fun h=>by omega,?_⟩;rw[h4 st2 hu (hh (by omega)) (hq rfl h2)];rfl
  ·rw[e3]at hh hq ⊢;unfold ZdW at h ⊢;rw[hk]at h ⊢;simp only at h ⊢;rw[hk2]at h ⊢;simp only at h ⊢;obtain⟨h1,h2⟩:=ZFF hn h;refine⟨h1,fun h=>by omega,?_⟩;rw[h2 st2 hu (hh (by omega))];rfl
theorem ZkN{P:Program}{N:Nat}{T:Tab}{ops:Array Oper}{ra:RA}{i:Nat}{o:Oper}{st st1 st2:St}{v:V}{obl:List Prop}(hc:clsX ra i o=1)(hu:∀t∈ZfB ops o,st2.get t=st.get t)
  (hm:∀x∈Zcy o.op,Has st st2 fun id=>(evo st x).says id) (h:ZdW P N T ops ra i o st=some (v,obl,st1)):ZdW P N T ops ra i o st2=some (v,obl,st2):=by
 cases hk:Zdj ra.hc i with
 |none=>
  rw[Zjk hk]at *
  unfold ZdW at h ⊢;rw[hk]at h ⊢;exact ZAA hc hu hm h
 |some ha=>
  unfold clsX at hc;rw[hk]at hc;simp only at hc
  repeat' split at hc
  all_goals omega
theorem Zum{P:Program}{N:Nat}{T:Tab}{ops:Array Oper}{ra:RA}{i:Nat}{o:Oper}{st st1:St}{v:V}{obl:List Prop}(hc:clsX ra i o=3)(h:ZdW P N T ops ra i o st=some (v,obl,st1)) :
  st1=st∨(Zdo N (o.dst.getD 0) st=true∧∀id b,hget st1.heap id=some b→id=o.dst.getD 0∨hget st.heap id=some b):=by
 cases hk:Zdj ra.hc i with
 |none=>
  rw[Zjk hk]at *
  unfold ZdW at h;rw[hk]at h;exact ZBO hc h
 |some ha=>
  obtain⟨hs,e3⟩ : ZfZ o ha=true∧clsX ra i o=3:=(Ztq hk (Nat.le_of_eq hc)).resolve_right fun h=>by have:=h.2.1;omega
  obtain⟨b,h2,rfl,h4⟩:=Zsw hk hs h;refine .inr ⟨h2,fun id b' hb=>?_⟩;simp only[ZeI]at hb;split at hb
  ·rename_i e;exact .inl e.symm
  ·exact .inr hb
theorem Zwv{P:Program}{N:Nat}{T:Tab}{ops:Array Oper}{ra:RA}{i:Nat}{o:Oper}{st st1:St}{v:V}{obl:List Prop}(hc:clsX ra i o=3)(hk:Zsz ra i o=true)(h:ZdW P N T ops ra i o st=some (v,obl,st1)) :
  ∀id b,hget st.heap id=some b→hget st1.heap id=some b:=by
 unfold Zsz at hk;cases hk':Zdj ra.hc i with
 |none=>
  rw[Zjk hk']at *
  unfold ZdW at h;rw[hk']at h hk;exact ZxX hc hk h
 |some ha=>
  obtain⟨hs,e3⟩ : ZfZ o ha=true∧clsX ra i o=3:=(Ztq hk' (Nat.le_of_eq hc)).resolve_right fun h=>by have:=h.2.1;omega
  obtain⟨b,h2,rfl,h4⟩:=Zsw hk' hs h;intro id b' hb;simp only[ZeI];have:=(ZhR (Zda h2).2).1;rw[if_neg (fun e=>by rw[e,hb]at this;cases this)];exact hb
def isMk(ra:RA)(i:Nat)(o:Oper):Bool:=match Zdj ra.hc i,Zdj ra.hc (i+1000),o.op with
 |some ha,some _,.call { callee:=.value (.func _),args:=_,argTypes:=_ }=>ZfZ o ha
 |_,_,_=>false
theorem ZDV{P:Program}{N:Nat}{ops:Array Oper}{ha:HA}{an:Option Ans}{o:Oper}{g:FuncId}{args:Array Operand}{tys:Array TypeId}{st st1:St}{v:V}{obl:List Prop}(hs:ZfZ o ha=true)
  (hop:o.op=.call { callee:=.value (.func g),args:=args,argTypes:=tys }) (h:ZgQ P N ops ha an o st=some (v,obl,st1)) :
  ∃b:B,(∀k,b.says k=false)∧Zdo N (o.dst.getD 0) st=true∧st1=⟨st.env,hins st.heap (o.dst.getD 0) b⟩∧∀st2,(∀t∈ZfB ops o,st2.get t=st.get t)→(∀x∈Zcy o.op,Has st st2 fun id=>(evo st x).says id)→Zdo N (o.dst.getD 0) st2=true →
   ZgQ P N ops ha an o st2=some (v,obl,⟨st2.env,hins st2.heap (o.dst.getD 0) b⟩):=by
 have hs0:=hs;unfold ZfZ at hs;split at hs;rotate_left
 ·cases hs
 rename_i c d c' e sz len cc hl hn hh1 hgd;simp only[Bool.and_eq_true]at hs;obtain⟨⟨e1,e2⟩,e3⟩:=hs;have e1:=Nat.eq_of_beq_eq_true e1;have e2:=Nat.eq_of_beq_eq_true e2;subst e2;obtain⟨lend,new,h1,res⟩:=ha;simp only at hl hn hh1;subst hl hn hh1;subst e1;have hg:∀st:St,ZgR ops st o=some true:=fun st=>by unfold ZgR;rw[hgd]
 have kA:∀st,ZdX P N ops ⟨[],[(c,o.dst.getD 0)],[(c,.rows e sz len cc)],res⟩ an o st=ZfV P N st (.value (.func g)) args.toList ⟨[],[(c,o.dst.getD 0)],[(c,.rows e sz len cc)],res⟩ an:=fun st=>by
  unfold ZdX;rw[hg];simp only[hop]
 have kB:∀st,ZgQ P N ops ⟨[],[(c,o.dst.getD 0)],[(c,.rows e sz len cc)],res⟩ an o st=Zgv P N st (.value (.func g)) args.toList ⟨[],[(c,o.dst.getD 0)],[(c,.rows e sz len cc)],res⟩ an:=fun st=>by
  unfold ZgQ;rw[hg];simp only[hop]
 rw[kB]at h;cases hE:ZfV P N st (.value (.func g)) args.toList ⟨[],[(c,o.dst.getD 0)],[(c,.rows e sz len cc)],res⟩ an with
 |some r=>
  unfold Zgv at h;rw[hE]at h;simp only at h;cases h;obtain⟨b,q1,q2,q3,q4⟩:=ZzI hs0 ((kA st).trans hE);refine⟨b,q1,q2,q3,fun st2 hu hm hq=>?_⟩;rw[kB];exact Ztg ((kA st2).symm.trans (q4 st2 hu hq))
 |none=>
  unfold Zgv at h;rw[hE]at h;simp only at h;have hpe:∀hp,ZpJ (gOut ⟨[],[(c,o.dst.getD 0)],[(c,.rows e sz len cc)],res⟩) [(c,.rows e sz len cc)]=some hp→hp=[(o.dst.getD 0,.rows e sz len cc)]:=fun hp hhp=>by
   have:gOut ⟨[],[(c,o.dst.getD 0)],[(c,.rows e sz len cc)],res⟩ c=some (o.dst.getD 0):=by
    simp only[gOut,ZnH,Nat.beq_refl]
   simp only[ZpJ,this,renB]at hhp;exact(Option.some.inj hhp).symm
  obtain⟨k0,n0,rfl⟩ : ∃k n,res=.one (.osl k n):=by
   unfold Zjj at h;simp only at h;split at h
   ·exact⟨_,_,rfl⟩
   ·cases h
  unfold Zjj at h;simp only at h;split at h;rotate_left
  ·cases h
  rename_i g' a b om hcal;split at h;rotate_left
  ·cases h
  rename_i vs hp r ps hok hvs hhp hr' hps;cases h;obtain rfl:=hpe _ hhp;have hq:Zdo N (o.dst.getD 0) st=true:=by
   have hok':=hok;unfold okHA at hok';split at hok'
   ·rename_i q1 q2 q3 q4;exact List.all_eq_true.1 q4 _ (List.mem_cons_self)
   ·cases hok'
  refine⟨.rows e sz len cc,fun _=>rfl,hq,rfl,fun st2 hu hm hq2=>?_⟩;have he:∀x∈Zcy (.call { callee:=.value (.func g),args:=args,argTypes:=tys }),evo st2 x=evo st x:=fun x hx=>ZjM hu x (by rw[hop];exact hx);have hok2:okHA N st2 ⟨[],[(c,o.dst.getD 0)],[(c,.rows e sz len cc)],.one (.osl k0 n0)⟩=true:=by
   have hok':=hok;unfold okHA at hok' ⊢;split at hok'
   ·rename_i q1 q2 q3 q4;simp only at q1 q2 q3;simp only[q1,q2,q3,List.all_cons,List.all_nil,hq2,Bool.and_true]
   ·cases hok'
  have hcab:a=[]∧b=[]:=by
   simp only[ZiI,ZiB,evo,V.ofVal]at hcal
   first
    | (cases hcal;exact⟨rfl,rfl⟩)
    | (simp at hcal;exact⟨hcal.2.1.symm,hcal.2.2.1.symm⟩)
  obtain⟨rfl,rfl⟩:=hcab;have hca:ZbP st2 args.toList [] []=ZbP st args.toList [] []:=Zgw (fun x hx=>he x (ZkK x hx)) [] [];have hbm:borA st2 (ZbP st args.toList [] [])=some vs:=by
   refine Ztt (fun v hv=>?_) hvs;unfold ZbP at hv;simp only[List.map_nil,List.nil_append,List.append_nil,List.mem_map]at hv;obtain⟨x,hx,rfl⟩:=hv;exact hm x (by rw[hop];exact ZkK x hx)
  have hE2:ZfV P N st2 (.value (.func g)) args.toList ⟨[],[(c,o.dst.getD 0)],[(c,.rows e sz len cc)],.one (.osl k0 n0)⟩ an=none:=by
   cases hE2:ZfV P N st2 (.value (.func g)) args.toList ⟨[],[(c,o.dst.getD 0)],[(c,.rows e sz len cc)],.one (.osl k0 n0)⟩ an with
   |none=>rfl
   |some r2=>
    obtain⟨b2,_,_,_,q4⟩:=ZzI hs0 ((kA st2).trans hE2);have:=q4 st (fun t ht=>(hu t ht).symm) hq;rw[kA,hE]at this;cases this
  rw[kB];unfold Zgv;rw[hE2];simp only;unfold Zjj;simp only;rw[ZhO he,hcal];simp only[hok2,hca,hbm,hhp,hr',hps];rfl
theorem Zwu{P:Program}{N:Nat}{T:Tab}{ops:Array Oper}{ra:RA}{i:Nat}{o:Oper}{st st1:St}{v:V}{obl:List Prop}(hs:(ZjS ra i o||isMk ra i o)=true)(h:ZdW P N T ops ra i o st=some (v,obl,st1)) :
  ∃b:B,(∀k,b.says k=false)∧Zdo N (o.dst.getD 0) st=true∧st1=⟨st.env,hins st.heap (o.dst.getD 0) b⟩∧∀st2,(∀t∈ZfB ops o,st2.get t=st.get t)→(∀x∈Zcy o.op,Has st st2 fun id=>(evo st x).says id)→Zdo N (o.dst.getD 0) st2=true →
   ZdW P N T ops ra i o st2=some (v,obl,⟨st2.env,hins st2.heap (o.dst.getD 0) b⟩):=by
 rw[Bool.or_eq_true]at hs;rcases hs with hs|hs
 ·obtain⟨b,h1,h2,h3,h4⟩:=ZkM hs h;exact⟨b,h1,h2,h3,fun st2 hu _ hq=>h4 st2 hu hq⟩
 ·unfold isMk at hs;split at hs;rotate_left
  ·cases hs
  rename_i ha y g args tys hk hk2 hop;unfold ZdW at h ⊢;simp only[hk,hk2]at h ⊢;exact ZDV hs hop h
theorem ZzF{ra:RA}{i:Nat}{o:Oper}(hs:isMk ra i o=true):clsX ra i o=3:=by
 unfold isMk at hs;split at hs;rotate_left
 ·cases hs
 rename_i ha y g args tys hk hk2 hop;unfold clsX;rw[hk];simp only[hs]
theorem ZDU{P:Program}{N:Nat}{ops:Array Oper}{c e:Nat}{b:B}{res:V}{an:Option Ans}{o:Oper}{st st1:St}{v:V}{obl:List Prop}(hgd:o.guard=none)
  (h:ZdX P N ops ⟨[(c,e)],[],[(c,b)],res⟩ an o st=some (v,obl,st1)) :
  ∃b',renB (gOut ⟨[(c,e)],[],[(c,b)],res⟩) b=some b'∧st1=⟨st.env,hrep st.heap e b'⟩∧(∃b0 b1,hget st.heap e=some b0∧renB (bwd [(c,e)]) b0=some b1) ∧
   ∀st2,(∀t∈ZfB ops o,st2.get t=st.get t)→hget st2.heap e=hget st.heap e→ZdX P N ops ⟨[(c,e)],[],[(c,b)],res⟩ an o st2=some (v,obl,⟨st2.env,hrep st2.heap e b'⟩):=by
 have hg:∀st:St,ZgR ops st o=some true:=fun st=>by unfold ZgR;rw[hgd]
 unfold ZdX at h;rw[hg]at h;simp only at h;split at h;rotate_left
 ·cases h
 rename_i f args tys hop;unfold ZfV at h;split at h;rotate_left
 ·cases h
 rename_i g a b1 om hcal;split at h;rotate_left
 ·cases h
 rename_i h0 vs hp r hok hhi hvs hhp hr;cases h;have hgo:gOut ⟨[(c,e)],[],[(c,b)],res⟩ c=some e:=by simp only[gOut,ZnH,Nat.beq_refl]
 obtain⟨b',hb',rfl⟩ : ∃b',renB (gOut ⟨[(c,e)],[],[(c,b)],res⟩) b=some b'∧hp=[(e,b')]:=by
  simp only[ZpJ,hgo]at hhp;split at hhp
  ·rename_i i0 b0 l0 q1 q2 q3;cases q1;cases q3;cases hhp;exact⟨_,q2,rfl⟩
  ·cases hhp
 have hpl:∀hh,Zwn [(e,b')] [(c,e)] hh=hrep hh e b':=fun hh=>by
  unfold Zwn;simp only[Zse,Nat.beq_refl,Zue]
 refine⟨b',hb',by rw[hpl],?_,fun st2 hu hh=>?_⟩
 ·simp only[hIn]at hhi;split at hhi
  ·rename_i b0 hb0;split at hhi
   ·rename_i b2 l2 q1 q2;exact⟨b0,b2,hb0,q1⟩
   ·cases hhi
  ·cases hhi
 ·have he:∀x∈Zcy (.call { callee:=f,args:=args,argTypes:=tys }),evo st2 x=evo st x:=fun x hx=>ZjM hu x (by rw[hop];exact hx);have hok2:okHA N st2 ⟨[(c,e)],[],[(c,b)],res⟩=true:=hok;have hhi2:hIn (bwd [(c,e)]) st2.heap [(c,e)]=some h0:=by
   rw[ZwJ (h:=st.heap) (fun p hp=>by
    rcases List.mem_singleton.1 hp with rfl;exact hh)]
   exact hhi
  unfold ZdX;rw[hg];simp only[hop];unfold ZfV;rw[ZhO he,hcal];simp only[hok2,hhi2,Zgw (fun x hx=>he x (ZkK x hx)) a b1,hvs,hhp,hr,hpl]
def plOf(ra:RA)(i:Nat)(o:Oper):Option Nat:=match Zdj ra.hc i,Zdj ra.hc (i+1000),o.guard with
 |some ⟨[(c,e)],[],[(c',_)],_⟩,none,none=>match Nat.beq c c' with
  |true=>some e
  |false=>none
 |_,_,_=>none
theorem ZlE{P:Program}{N:Nat}{T:Tab}{ops:Array Oper}{ra:RA}{i e:Nat}{o:Oper}{st st1:St}{v:V}{obl:List Prop}(hp:plOf ra i o=some e)(h:ZdW P N T ops ra i o st=some (v,obl,st1)) :
  ∃b':B,(∀d,d≠e→b'.says d=false)∧st1=⟨st.env,hrep st.heap e b'⟩∧(∀d b0,d≠e→hget st.heap e=some b0→b0.says d=false) ∧
   ∀st2,(∀t∈ZfB ops o,st2.get t=st.get t)→hget st2.heap e=hget st.heap e→ZdW P N T ops ra i o st2=some (v,obl,⟨st2.env,hrep st2.heap e b'⟩):=by
 unfold plOf at hp;split at hp;rotate_left
 ·cases hp
 rename_i c e0 c' b res hk hk2 hgd;split at hp;rotate_left
 ·cases hp
 rename_i hcc;cases hp;obtain rfl:=Nat.eq_of_beq_eq_true hcc;unfold ZdW at h ⊢;simp only[hk,hk2]at h ⊢;obtain⟨b',h1,h2,⟨b0,b1,h3,h4⟩,h5⟩:=ZDU hgd h;refine⟨b',fun d hd=>ZDB (fun k hk'=>?_) h1,h2,fun d b2 hd hb2=>?_,h5⟩
 ·simp only[gOut,ZnH]at hk';split at hk'
  ·rename_i hq;split at hq
   ·cases hq;cases hk';exact hd rfl
   ·cases hq
  ·cases hk'
 ·rw[h3]at hb2;cases hb2;refine ZBA ?_ h4;simp only[bwd,List.map_cons,List.map_nil,ZnH];split
  ·rename_i hq;exact absurd (Nat.eq_of_beq_eq_true hq).symm hd
  ·rfl
structure Eqv (st st2:St):Prop where
 env:∀t,st2.get t=st.get t
 heap:st2.heap=st.heap
theorem Eqv.refl(st:St):Eqv st st:=⟨fun _=>rfl,rfl⟩
theorem Eqv.trans{a b c:St}(h:Eqv a b)(k:Eqv b c):Eqv a c:=⟨fun t=>(k.env t).trans (h.env t),k.heap.trans h.heap⟩
theorem Zui{st st2:St}{d:Nat}(h:∀t,st2.get t=st.get t):∀n,Zhp st2 d n=Zhp st d n
 | 0=>rfl
 |n+1=>by simp only[Zhp,h n,Zui h n]
theorem Zwl{st st2:St}(h:Eqv st st2)(N d:Nat):Zdo N d st2=Zdo N d st:=by
 unfold Zdo
 rw[Zui h.env,h.heap]
theorem ZbT.eqv{N:Nat}{S0:Nat→Prop}{w0:ZaW}{st st2:St}{a:Act}{w:World}(h:ZbT N S0 w0 st a w)(he:Eqv st st2):ZbT N S0 w0 st2 a w:=
 h.le (N:=N) ⟨fun t=>.inl (he.env t),fun id b hb=>by rw[←he.heap];exact hb⟩
theorem ZDM{N:Nat}{st st2:St}(he:Eqv st st2)(ha:HA):okHA N st2 ha=okHA N st ha:=by
 unfold okHA;rw[show (fun p:Nat×Nat=>Zdo N p.2 st2)=fun p=>Zdo N p.2 st from funext fun p=>Zwl he N p.2]
theorem ZAB{P:Program}{N:Nat}{T:Tab}{ops:Array Oper}{ra:RA}{i:Nat}{o:Oper}{st st1 st2:St}{v:V}{obl:List Prop}(hc:Zrn ra i o=true)(he:Eqv st st2)(h:ZdW P N T ops ra i o st=some (v,obl,st1)) :
  ∃hp,ZdW P N T ops ra i o st2=some (v,obl,⟨st2.env,hp⟩)∧hp=st1.heap:=by
 by_cases hc3:clsX ra i o≤3
 ·obtain⟨e1,h1,hr'⟩:=ZeH (st2:=st2) hc3 (fun t _=>he.env t) (fun _=>he.heap) (fun _ hq=>by rw[Zwl he];exact hq) h;refine⟨_,hr',?_⟩;split
  ·rename_i hc1;rw[h1 hc1];exact he.heap
  ·rfl
 ·cases hk:Zdj ra.hc i with
  |none=>
   exfalso;unfold Zrn at hc;rw[Zjk hk]at hc3;rw[hk]at hc;exact hc3 (Nat.le_of_ble_eq_true hc)
  |some ha=>
   have hk2:Zdj ra.hc (i+1000)=none:=by
    cases hk2:Zdj ra.hc (i+1000)with
    |none=>rfl
    |some x=>
     exfalso;unfold Zrn at hc;rw[hk]at hc;simp only[hk2]at hc;apply hc3;unfold clsX;rw[hk];simp only[hc];omega
   unfold ZdW at h ⊢;rw[hk]at h ⊢;simp only at h ⊢;rw[hk2]at h ⊢;simp only at h ⊢;unfold ZdX at h ⊢;rw[ZiK (o:=o) (ops:=ops) (fun t _=>he.env t)];split at h
   ·split at h
    ·rename_i c args tys hop;have hev:∀x,evo st2 x=evo st x:=fun x=>by
      cases x with
      |tmp t=>exact he.env t
      |const v=>rfl
      |func f=>rfl
      |global g=>rfl
     unfold ZfV at h ⊢;rw[ZhO (args:=args) (tys:=tys) (fun x _=>hev x)];split at h;rotate_left
     ·cases h
     rename_i g a b om hcal;rw[Zgw (fun x _=>hev x) a b,ZDM he,he.heap];split at h;rotate_left
     ·cases h
     rename_i h0 vs hp r q1 q2 q3 q4 q5;cases h;simp only[q1,q2,q3,q4,q5];exact⟨_,rfl,rfl⟩
    ·cases h
   ·cases h;exact⟨_,rfl,he.heap⟩
   ·cases h
def Zml(ra:RA):Nat→List Oper→List (Nat×Nat)
 |_,[]=>[]
 |i,o :: r=>match Nat.beq (clsX ra i o) 3 with
  |true=>(i,o.dst.getD 0) :: Zml ra (i+1) r
  |false=>Zml ra (i+1) r
def ZdV(cert:List (List Nat))(i:Nat):List Nat:=cert.getD i []
def memN(k:Nat):List Nat→Bool
 | []=>false
 |x :: l=>match Nat.beq x k with
  |true=>true
  |false=>memN k l
theorem ZiT{k:Nat}:∀{l:List Nat},memN k l=true↔k∈l
 | []=>by simp[memN]
 |x :: l=>by
  simp only[memN]
  split
  ·rename_i h
   simp[ZaH h]
  ·rename_i h
   have:=Nat.ne_of_beq_eq_false h
   rw[ZiT]
   simp[Ne.symm this]
def chk(ni:List (Nat×Nat))(ps:List Nat)(i:Nat)(v:V):Bool:=ni.all fun p=>Nat.beq p.1 i||memN p.1 ps || !(v.says p.2)
section
variable (P:Program) (N:Nat) (T:Tab) (ops:Array Oper) (ra:RA) (cert:List (List Nat)) (ni:List (Nat × Nat))
def bxOk(l:List Nat)(st:St)(op:Op):Bool:=match l with
 | []=>true
 |c :: _=>match op with
  | .load _ x=>match evo st x with
   | .one (.ptr d _)=>Nat.beq d c
   | .one (.rp _ _ _)=>Nat.beq 99998 c
   |_=>false
  | .store _ x _=>match evo st x with
   | .one (.ptr d _)=>Nat.beq d c
   |_=>false
  |_=>false
def ZgE(i:Nat)(st:St):Option (St×List Prop):=match ops[i]? with
 |none=>none
 |some o=>match bxOk (ZdV cert (ops.size+i)) st o.op with
  |false=>none
  |true=>match ZdW P N T ops ra i o st with
   |none=>none
   |some (v,obl,st')=>match chk ni (ZdV cert i) i v with
    |false=>none
    |true=>match putO N st' o.dst v with
     |none=>none
     |some st''=>some (st'',obl)
def ZoY:List Nat→St→Option (St×List Prop)
 | [],st=>some (st,[])
 |i :: l,st=>match ZgE P N T ops ra cert ni i st with
  |none=>none
  |some (st1,o1)=>match ZoY l st1 with
   |none=>none
   |some (st2,o2)=>some (st2,o1++o2)
def disj(x:Option Nat)(l:List Nat):Bool:=match x with
 |none=>true
 |some d=>!(memN d l)
def Zlg(x y:Option Nat):Bool:=match x,y with
 |some a,some b=>!(Nat.beq a b)
 |_,_=>true
def ZEN(k i:Nat):Bool:=match ops[k]?,ops[i]? with
 |some a,some b=>disj a.dst (ZfB ops b)&&disj b.dst (ZfB ops a)&&Zlg a.dst b.dst &&
   ((Nat.ble (clsX ra k a) 1&&Nat.ble (clsX ra i b) 1)||(Nat.beq (clsX ra k a) 0&&Nat.ble (clsX ra i b) 3)||(Nat.beq (clsX ra i b) 0&&Nat.ble (clsX ra k a) 3)||(Nat.beq (clsX ra k a) 3&&Nat.beq (clsX ra i b) 1&&(ZfB ops b).all fun t=>Nat.blt t N)||(Nat.beq (clsX ra k a) 1&&Nat.beq (clsX ra i b) 3&&Zsz ra i b)||(ZjS ra k a&&ZjS ra i b)||((ZjS ra k a||isMk ra k a)&&(ZjS ra i b||isMk ra i b)&&(ZfB ops b).all fun t=>Nat.blt t N))
 |_,_=>false
def isLd:Op→Bool | .load _ _=>true|_=>false
def isSt:Op→Bool | .store _ _ _=>true|_=>false
def okLS(k i:Nat):Bool:=match ops[k]?,ops[i]?,ZdV cert (ops.size+k),ZdV cert (ops.size+i)with
 |some a,some b,c :: _,d :: _=>disj a.dst (ZfB ops b)&&disj b.dst (ZfB ops a)&&Zlg a.dst b.dst&&isLd a.op&&isSt b.op&&(Zdj ra.hc k).isNone&&(Zdj ra.hc i).isNone && !(Nat.beq c d)
 |_,_,_,_=>false
def okLC(k i:Nat):Bool:=match ops[k]?,ops[i]? with
 |some a,some b=>disj a.dst (ZfB ops b)&&disj b.dst (ZfB ops a)&&Zlg a.dst b.dst&&(match plOf ra k a,plOf ra i b with
  |some e,none=>(ZjS ra i b && !(Nat.beq (b.dst.getD 0) e))||(isLd b.op&&(Zdj ra.hc i).isNone&&match ZdV cert (ops.size+i)with
   |c :: _=>!(Nat.beq c e)
   | []=>false)
  |none,some e=>(ZjS ra k a && !(Nat.beq (a.dst.getD 0) e))||(isLd a.op&&(Zdj ra.hc k).isNone&&match ZdV cert (ops.size+k)with
   |c :: _=>!(Nat.beq c e)
   | []=>false)
  |_,_=>false)
 |_,_=>false
def ZmV(k i:Nat):Bool:=ZEN N ops ra k i||okLS ops ra cert k i||okLC ops ra cert k i
end
theorem ZaF{N:Nat}{st st':St}{dst:Option Nat}{v:V}(h:putO N st dst v=some st')(t:Nat):st'.get t=(if dst=some t then v else st.get t)∧st'.heap=st.heap:=by
 unfold putO at h;split at h
 ·cases h;simp
 ·split at h
  ·cases h;rename_i d _ _;refine⟨?_,rfl⟩;rw[St.get_put];by_cases e:d=t
   ·subst e;simp
   ·rw[if_neg e,if_neg (by simpa using e)]
  ·cases h
theorem ZeG{N:Nat}{st st' st2:St}{dst:Option Nat}{v:V}(h:putO N st dst v=some st'):∃st2',putO N st2 dst v=some st2':=by
 cases dst with
 |none=>exact⟨_,rfl⟩
 |some d=>
  unfold putO at h ⊢;cases hb:Nat.blt d N with
  |true=>simp only[hb];exact⟨_,rfl⟩
  |false=>simp only[hb]at h;cases h
theorem Zbr{x:Option Nat}{l:List Nat}(h:disj x l=true){t:Nat}(ht:t∈l):x≠some t:=by
 rintro rfl;simp only[disj,Bool.not_eq_true']at h;rw[←Bool.not_eq_true,ZiT]at h;exact h ht
section
variable {P:Program} {N:Nat} {T:Tab} {ops:Array Oper} {ra:RA} {cert:List (List Nat)} {ni:List (Nat × Nat)}
theorem ZdC{i:Nat}{st st':St}{obl:List Prop}(h:ZgE P N T ops ra cert ni i st=some (st',obl)):∃o v st1,ops[i]?=some o∧ZdW P N T ops ra i o st=some (v,obl,st1)∧chk ni (ZdV cert i) i v=true∧putO N st1 o.dst v=some st':=by
 unfold ZgE at h;split at h
 ·cases h
 rename_i o ho;split at h
 ·cases h
 split at h
 ·cases h
 rename_i v obl1 st1 hr;split at h
 ·cases h
 rename_i hc;split at h
 ·cases h
 rename_i st2 hp;cases h;exact⟨o,v,st1,ho,hr,hc,hp⟩
theorem ZeB{i:Nat}{st st':St}{obl:List Prop}(h:ZgE P N T ops ra cert ni i st=some (st',obl)){o:Oper}(ho:ops[i]?=some o):bxOk (ZdV cert (ops.size+i)) st o.op=true:=by
 unfold ZgE at h;rw[ho]at h;simp only at h;split at h
 ·cases h
 ·assumption
theorem ZeN{st st2:St}{o:Oper}(l:List Nat)(h:∀t∈ZfB ops o,st2.get t=st.get t):bxOk l st2 o.op=bxOk l st o.op:=by
 have he:=ZjM h;unfold bxOk;cases l with
 |nil=>rfl
 |cons c l=>
  obtain⟨dst,op,type,pos,after,guard⟩:=o;simp only at he ⊢;cases op<;>simp only[Zcy]at he ⊢
  case load t x=>rw[he x (by simp)]
  case store t x y=>rw[he x (by simp)]
theorem ZfY{i:Nat}{st st1 st':St}{o:Oper}{v:V}{obl:List Prop}(ho:ops[i]?=some o)(hbx:bxOk (ZdV cert (ops.size+i)) st o.op=true)(hr:ZdW P N T ops ra i o st=some (v,obl,st1))(hc:chk ni (ZdV cert i) i v=true)(hp:putO N st1 o.dst v=some st'):ZgE P N T ops ra cert ni i st=some (st',obl):=by
 unfold ZgE;simp only[ho,hbx,hr,hc,hp]
theorem Zny{ps:List Nat}{i k d:Nat}{v:V}(h:chk ni ps i v=true)(hk:(k,d)∈ni)(hne:k≠i)(hp:k ∉ ps):v.says d=false:=by
 have:=List.all_eq_true.1 h _ hk;simp only[Bool.or_eq_true,Bool.not_eq_true']at this;rcases this with (h1|h1)|h1
 ·exact absurd (ZaH h1) hne
 ·exact absurd (ZiT.1 h1) hp
 ·exact h1
theorem Zwm{st:St}{d:Nat}(hd:d<Zid):∀{n:Nat},(∀t,t<n→(st.get t).says d=false)→Zhp st d n=true
 | 0,_=>Nat.ble_eq_true_of_le hd
 |n+1,h=>by
  simp only[Zhp,h n (by omega)]
  exact Zwm hd fun t ht=>h t (by omega)
theorem ZiD{st st1 st':St}{dst:Option Nat}{v:V}{d:Nat}(hq:Zhp st d N=true)(he:∀t,st1.get t=st.get t)(hv:v.says d=false)(hp:putO N st1 dst v=some st'):Zhp st' d N=true:=
 Zwm (Zsn hq) fun t ht=>by
  rw[(ZaF hp t).1]
  split
  ·exact hv
  ·rw[he t];exact Zob hq t ht
theorem Zie{st st1:St}(h:st1.env=st.env)(t:Nat):st1.get t=st.get t:=by unfold St.get;rw[h]
theorem ZlD{st:St}{d:Nat}(h1:Zhp st d N=true)(h2:ZgN d st.heap=true):Zdo N d st=true:=by unfold Zdo;rw[h1];exact h2
def ZyP(ops:Array Oper)(ra:RA)(ni:List (Nat×Nat)):Prop:=∀i o,ops[i]?=some o→clsX ra i o=3→(i,o.dst.getD 0)∈ni
theorem ZkI{ra:RA}{i:Nat}{o:Oper}(h:ZjS ra i o=true):clsX ra i o=3:=by
 unfold ZjS at h;unfold clsX;split at h
 ·rename_i ha hk;rw[hk];split at h
  ·simp only[h]
  ·cases h
 ·rename_i hk;rw[hk];simp only;split at h
  ·simp only[Bool.and_eq_true]at h;exact Nat.eq_of_beq_eq_true h.2
  ·cases h
theorem ZxI(hni:ZyP ops ra ni){k i:Nat}{a b:Oper}(ha:ops[k]?=some a)(hb:ops[i]?=some b)(d1:disj a.dst (ZfB ops b)=true)(d2:disj b.dst (ZfB ops a)=true)(d3:Zlg a.dst b.dst=true)(ra':ZjS ra k a=true)(rb':ZjS ra i b=true)
  (hne:k≠i) (hki:k ∉ ZdV cert i) {st st1 st2:St} {o1 o2:List Prop} (h1:ZgE P N T ops ra cert ni k st=some (st1,o1)) (h2:ZgE P N T ops ra cert ni i st1=some (st2,o2))
  (hJ:∀o,ops[i]?=some o→clsX ra i o=3→Zhp st (o.dst.getD 0) N=true) :
  ∃st1' st2',ZgE P N T ops ra cert ni i st=some (st1',o2)∧ZgE P N T ops ra cert ni k st1'=some (st2',o1)∧Eqv st2' st2:=by
 obtain⟨a',va,sa,ha',hra,hca,hpa⟩:=ZdC h1;obtain⟨b',vb,sb,hb',hrb,hcb,hpb⟩:=ZdC h2;rw[ha]at ha';cases ha';rw[hb]at hb';cases hb';obtain⟨ba,sa1,sa2,rfl,sa4⟩:=ZkM ra' hra;obtain⟨bb,sb1,sb2,rfl,sb4⟩:=ZkM rb' hrb;have hst1:st1.heap=hins st.heap (a.dst.getD 0) ba:=(ZaF hpa 0).2;have g1:∀t,a.dst≠some t→st1.get t=st.get t:=fun t ht=>by rw[(ZaF hpa t).1,if_neg ht];rfl
 have hna:hget st.heap (a.dst.getD 0)=none:=(ZhR (Zda sa2).2).1;have hnb:hget st1.heap (b.dst.getD 0)=none:=(ZhR (Zda sb2).2).1;have hdne:b.dst.getD 0≠a.dst.getD 0:=by
  intro e;rw[hst1,e,ZeI,if_pos rfl]at hnb;cases hnb
 have hqb:Zdo N (b.dst.getD 0) st=true:=by
  refine ZlD (hJ b hb (ZkI rb')) ?_;have:=(Zda sb2).2;rw[hst1]at this;exact ZlL hna this
 have hrb':=sb4 st (fun t ht=>(g1 t (Zbr d1 ht)).symm) hqb;obtain⟨st1',hp1⟩:=ZeG (st2:=⟨st.env,hins st.heap (b.dst.getD 0) bb⟩) hpb;have g2:∀t,b.dst≠some t→st1'.get t=st.get t:=fun t ht=>by rw[(ZaF hp1 t).1,if_neg ht];rfl
 have hst1':st1'.heap=hins st.heap (b.dst.getD 0) bb:=(ZaF hp1 0).2;have hqa:Zdo N (a.dst.getD 0) st1'=true:=by
  obtain⟨q1,q2⟩:=Zda sa2;refine ZlD (ZiD (st1:=⟨st.env,hins st.heap (b.dst.getD 0) bb⟩) q1 (fun t=>rfl) (Zny hcb (hni k a ha (ZkI ra')) hne hki) hp1) ?_;rw[hst1'];exact Zsq hdne (sb1 _) q2
 have hra':=sa4 st1' (fun t ht=>g2 t (Zbr d2 ht)) hqa;obtain⟨st2',hp2⟩:=ZeG (st2:=⟨st1'.env,hins st1'.heap (a.dst.getD 0) ba⟩) hpa;have xb:bxOk (ZdV cert (ops.size+i)) st b.op=true:=by rw[ZeN (st:=st1) _ (fun t ht=>(g1 t (Zbr d1 ht)).symm)];exact ZeB h2 hb
 have xa:bxOk (ZdV cert (ops.size+k)) st1' a.op=true:=by rw[ZeN (st:=st) _ (fun t ht=>g2 t (Zbr d2 ht))];exact ZeB h1 ha
 refine⟨st1',st2',ZfY hb xb hrb' hcb hp1,ZfY ha xa hra' hca hp2,⟨fun t=>?_,?_⟩⟩
 ·rw[(ZaF hpb t).1,(ZaF hp2 t).1];have hd:¬(a.dst=some t∧b.dst=some t):=by
   rintro ⟨e1,e2⟩;rw[e1,e2]at d3;simp[Zlg]at d3
  by_cases e1:a.dst=some t
  ·rw[if_pos e1,if_neg (fun e2=>hd ⟨e1,e2⟩)];show (⟨st1.env,_⟩ : St).get t=_;rw[show (⟨st1.env,hins st1.heap (b.dst.getD 0) bb⟩ : St).get t=st1.get t from rfl,(ZaF hpa t).1,if_pos e1]
  ·rw[if_neg e1];have e3:(⟨st1'.env,hins st1'.heap (a.dst.getD 0) ba⟩ : St).get t=st1'.get t:=rfl;rw[e3,(ZaF hp1 t).1];split
   ·rfl
   ·rw[show (⟨st1.env,hins st1.heap (b.dst.getD 0) bb⟩ : St).get t=st1.get t from rfl,g1 t e1];rfl
 ·rw[(ZaF hpb 0).2,(ZaF hp2 0).2,hst1,hst1'];exact ZwI (a.dst.getD 0) (b.dst.getD 0) ba bb (Ne.symm hdne) st.heap
theorem ZxJ(hni:ZyP ops ra ni){k i:Nat}{a b:Oper}(ha:ops[k]?=some a)(hb:ops[i]?=some b)(d1:disj a.dst (ZfB ops b)=true)(d2:disj b.dst (ZfB ops a)=true)(d3:Zlg a.dst b.dst=true)(ra':(ZjS ra k a||isMk ra k a)=true)(rb':(ZjS ra i b||isMk ra i b)=true)(hbN:∀t∈ZfB ops b,t<N)
  (hne:k≠i) (hki:k ∉ ZdV cert i) {st st1 st2:St} {o1 o2:List Prop} (h1:ZgE P N T ops ra cert ni k st=some (st1,o1)) (h2:ZgE P N T ops ra cert ni i st1=some (st2,o2))
  (hJ:∀o,ops[i]?=some o→clsX ra i o=3→Zhp st (o.dst.getD 0) N=true) :
  ∃st1' st2',ZgE P N T ops ra cert ni i st=some (st1',o2)∧ZgE P N T ops ra cert ni k st1'=some (st2',o1)∧Eqv st2' st2:=by
 obtain⟨a',va,sa,ha',hra,hca,hpa⟩:=ZdC h1;obtain⟨b',vb,sb,hb',hrb,hcb,hpb⟩:=ZdC h2;rw[ha]at ha';cases ha';rw[hb]at hb';cases hb';have ca:clsX ra k a=3:=by
  rw[Bool.or_eq_true]at ra';exact ra'.elim ZkI ZzF
 have cb:clsX ra i b=3:=by
  rw[Bool.or_eq_true]at rb';exact rb'.elim ZkI ZzF
 obtain⟨ba,sa1,sa2,rfl,sa4⟩:=Zwu ra' hra;obtain⟨bb,sb1,sb2,rfl,sb4⟩:=Zwu rb' hrb;have hst1:st1.heap=hins st.heap (a.dst.getD 0) ba:=(ZaF hpa 0).2;have g1:∀t,a.dst≠some t→st1.get t=st.get t:=fun t ht=>by rw[(ZaF hpa t).1,if_neg ht];rfl
 have hna:hget st.heap (a.dst.getD 0)=none:=(ZhR (Zda sa2).2).1;have hnb:hget st1.heap (b.dst.getD 0)=none:=(ZhR (Zda sb2).2).1;have hdne:b.dst.getD 0≠a.dst.getD 0:=by
  intro e;rw[hst1,e,ZeI,if_pos rfl]at hnb;cases hnb
 have hqb:Zdo N (b.dst.getD 0) st=true:=by
  refine ZlD (hJ b hb cb) ?_;have:=(Zda sb2).2;rw[hst1]at this;exact ZlL hna this
 have hrb':=sb4 st (fun t ht=>(g1 t (Zbr d1 ht)).symm) (fun x hxm id bb hsy hb'=>by
  rw[hst1,ZeI]at hb';split at hb'
  ·rename_i e;exfalso;have:(evo st1 x).says (a.dst.getD 0)=false:=by
    cases x with
    |tmp t=>
     have ht:t∈ZfB ops b:=List.mem_append.2 (.inl (ZoE hxm));show (st1.get t).says _=false;rw[g1 t (Zbr d1 ht)];exact Zob (Zda sa2).1 t (hbN t ht)
    |const v=>exact Zuo v _
    |func f=>rfl
    |global g=>rfl
   rw[e]at this;simp only[this]at hsy;cases hsy
  ·exact hb') hqb
 obtain⟨st1',hp1⟩:=ZeG (st2:=⟨st.env,hins st.heap (b.dst.getD 0) bb⟩) hpb;have g2:∀t,b.dst≠some t→st1'.get t=st.get t:=fun t ht=>by rw[(ZaF hp1 t).1,if_neg ht];rfl
 have hst1':st1'.heap=hins st.heap (b.dst.getD 0) bb:=(ZaF hp1 0).2;have hqa:Zdo N (a.dst.getD 0) st1'=true:=by
  obtain⟨q1,q2⟩:=Zda sa2;refine ZlD (ZiD (st1:=⟨st.env,hins st.heap (b.dst.getD 0) bb⟩) q1 (fun t=>rfl) (Zny hcb (hni k a ha ca) hne hki) hp1) ?_;rw[hst1'];exact Zsq hdne (sb1 _) q2
 have hra':=sa4 st1' (fun t ht=>g2 t (Zbr d2 ht)) (fun x hxm id bb' hsy hb'=>by
  rw[hst1',ZeI];split
  ·rename_i e;exfalso;have hnb0:=(ZhR (Zda hqb).2).1;rw[e]at hnb0;rw[hb']at hnb0;cases hnb0
  ·exact hb') hqa
 obtain⟨st2',hp2⟩:=ZeG (st2:=⟨st1'.env,hins st1'.heap (a.dst.getD 0) ba⟩) hpa;have xb:bxOk (ZdV cert (ops.size+i)) st b.op=true:=by rw[ZeN (st:=st1) _ (fun t ht=>(g1 t (Zbr d1 ht)).symm)];exact ZeB h2 hb
 have xa:bxOk (ZdV cert (ops.size+k)) st1' a.op=true:=by rw[ZeN (st:=st) _ (fun t ht=>g2 t (Zbr d2 ht))];exact ZeB h1 ha
 refine⟨st1',st2',ZfY hb xb hrb' hcb hp1,ZfY ha xa hra' hca hp2,⟨fun t=>?_,?_⟩⟩
 ·rw[(ZaF hpb t).1,(ZaF hp2 t).1];have hd:¬(a.dst=some t∧b.dst=some t):=by
   rintro ⟨e1,e2⟩;rw[e1,e2]at d3;simp[Zlg]at d3
  by_cases e1:a.dst=some t
  ·rw[if_pos e1,if_neg (fun e2=>hd ⟨e1,e2⟩)];show (⟨st1.env,_⟩ : St).get t=_;rw[show (⟨st1.env,hins st1.heap (b.dst.getD 0) bb⟩ : St).get t=st1.get t from rfl,(ZaF hpa t).1,if_pos e1]
  ·rw[if_neg e1];have e3:(⟨st1'.env,hins st1'.heap (a.dst.getD 0) ba⟩ : St).get t=st1'.get t:=rfl;rw[e3,(ZaF hp1 t).1];split
   ·rfl
   ·rw[show (⟨st1.env,hins st1.heap (b.dst.getD 0) bb⟩ : St).get t=st1.get t from rfl,g1 t e1];rfl
 ·rw[(ZaF hpb 0).2,(ZaF hp2 0).2,hst1,hst1'];exact ZwI (a.dst.getD 0) (b.dst.getD 0) ba bb (Ne.symm hdne) st.heap
theorem ZvW(hni:ZyP ops ra ni){k i e:Nat}{a b:Oper}(ha:ops[k]?=some a)(hb:ops[i]?=some b)(d1:disj a.dst (ZfB ops b)=true)(d2:disj b.dst (ZfB ops a)=true)(d3:Zlg a.dst b.dst=true)(ra':plOf ra k a=some e)(rb':ZjS ra i b=true)(hde:b.dst.getD 0≠e)
  {st st1 st2:St} {o1 o2:List Prop} (h1:ZgE P N T ops ra cert ni k st=some (st1,o1)) (h2:ZgE P N T ops ra cert ni i st1=some (st2,o2))
  (hJ:∀o,ops[i]?=some o→clsX ra i o=3→Zhp st (o.dst.getD 0) N=true) :
  ∃st1' st2',ZgE P N T ops ra cert ni i st=some (st1',o2)∧ZgE P N T ops ra cert ni k st1'=some (st2',o1)∧Eqv st2' st2:=by
 obtain⟨a',va,sa,ha',hra,hca,hpa⟩:=ZdC h1;obtain⟨b',vb,sb,hb',hrb,hcb,hpb⟩:=ZdC h2;rw[ha]at ha';cases ha';rw[hb]at hb';cases hb';obtain⟨ba,sa1,rfl,sa3,sa4⟩:=ZlE ra' hra;obtain⟨bb,sb1,sb2,rfl,sb4⟩:=ZkM rb' hrb;have hst1:st1.heap=hrep st.heap e ba:=(ZaF hpa 0).2;have g1:∀t,a.dst≠some t→st1.get t=st.get t:=fun t ht=>by rw[(ZaF hpa t).1,if_neg ht];rfl
 have hqb:Zdo N (b.dst.getD 0) st=true:=by
  refine ZlD (hJ b hb (ZkI rb')) ?_;have:=(Zda sb2).2;rw[hst1]at this;exact Zpd (Ne.symm hde) (fun b0 h0=>sa3 _ b0 hde h0) this
 have hrb':=sb4 st (fun t ht=>(g1 t (Zbr d1 ht)).symm) hqb;obtain⟨st1',hp1⟩:=ZeG (st2:=⟨st.env,hins st.heap (b.dst.getD 0) bb⟩) hpb;have g2:∀t,b.dst≠some t→st1'.get t=st.get t:=fun t ht=>by rw[(ZaF hp1 t).1,if_neg ht];rfl
 have hst1':st1'.heap=hins st.heap (b.dst.getD 0) bb:=(ZaF hp1 0).2;have hra':=sa4 st1' (fun t ht=>g2 t (Zbr d2 ht)) (by rw[hst1',ZeI,if_neg hde]);obtain⟨st2',hp2⟩:=ZeG (st2:=⟨st1'.env,hrep st1'.heap e ba⟩) hpa;have xb:bxOk (ZdV cert (ops.size+i)) st b.op=true:=by rw[ZeN (st:=st1) _ (fun t ht=>(g1 t (Zbr d1 ht)).symm)];exact ZeB h2 hb
 have xa:bxOk (ZdV cert (ops.size+k)) st1' a.op=true:=by rw[ZeN (st:=st) _ (fun t ht=>g2 t (Zbr d2 ht))];exact ZeB h1 ha
 refine⟨st1',st2',ZfY hb xb hrb' hcb hp1,ZfY ha xa hra' hca hp2,⟨fun t=>?_,?_⟩⟩
 ·rw[(ZaF hpb t).1,(ZaF hp2 t).1];have hd:¬(a.dst=some t∧b.dst=some t):=by
   rintro ⟨e1,e2⟩;rw[e1,e2]at d3;simp[Zlg]at d3
  by_cases e1:a.dst=some t
  ·rw[if_pos e1,if_neg (fun e2=>hd ⟨e1,e2⟩)];show (⟨st1.env,_⟩ : St).get t=_;rw[show (⟨st1.env,hins st1.heap (b.dst.getD 0) bb⟩ : St).get t=st1.get t from rfl,(ZaF hpa t).1,if_pos e1]
  ·rw[if_neg e1];have e3:(⟨st1'.env,hrep st1'.heap e ba⟩ : St).get t=st1'.get t:=rfl;rw[e3,(ZaF hp1 t).1];split
   ·rfl
   ·rw[show (⟨st1.env,hins st1.heap (b.dst.getD 0) bb⟩ : St).get t=st1.get t from rfl,g1 t e1];rfl
 ·rw[(ZaF hpb 0).2,(ZaF hp2 0).2];simp only;rw[hst1,hst1',ZwH hde]
theorem ZvV(hni:ZyP ops ra ni){k i e:Nat}{a b:Oper}(ha:ops[k]?=some a)(hb:ops[i]?=some b)(d1:disj a.dst (ZfB ops b)=true)(d2:disj b.dst (ZfB ops a)=true)(d3:Zlg a.dst b.dst=true)(ra':ZjS ra k a=true)(rb':plOf ra i b=some e)(hde:a.dst.getD 0≠e)
  (hne:k≠i) (hki:k ∉ ZdV cert i) {st st1 st2:St} {o1 o2:List Prop} (h1:ZgE P N T ops ra cert ni k st=some (st1,o1)) (h2:ZgE P N T ops ra cert ni i st1=some (st2,o2)) :
  ∃st1' st2',ZgE P N T ops ra cert ni i st=some (st1',o2)∧ZgE P N T ops ra cert ni k st1'=some (st2',o1)∧Eqv st2' st2:=by
 obtain⟨a',va,sa,ha',hra,hca,hpa⟩:=ZdC h1;obtain⟨b',vb,sb,hb',hrb,hcb,hpb⟩:=ZdC h2;rw[ha]at ha';cases ha';rw[hb]at hb';cases hb';obtain⟨ba,sa1,sa2,rfl,sa4⟩:=ZkM ra' hra;obtain⟨bb,sb1,rfl,sb3,sb4⟩:=ZlE rb' hrb;have hst1:st1.heap=hins st.heap (a.dst.getD 0) ba:=(ZaF hpa 0).2;have g1:∀t,a.dst≠some t→st1.get t=st.get t:=fun t ht=>by rw[(ZaF hpa t).1,if_neg ht];rfl
 have hrb':=sb4 st (fun t ht=>(g1 t (Zbr d1 ht)).symm) (by rw[hst1,ZeI,if_neg hde]);obtain⟨st1',hp1⟩:=ZeG (st2:=⟨st.env,hrep st.heap e bb⟩) hpb;have g2:∀t,b.dst≠some t→st1'.get t=st.get t:=fun t ht=>by rw[(ZaF hp1 t).1,if_neg ht];rfl
 have hst1':st1'.heap=hrep st.heap e bb:=(ZaF hp1 0).2;have hqa:Zdo N (a.dst.getD 0) st1'=true:=by
  obtain⟨q1,q2⟩:=Zda sa2;refine ZlD (ZiD (st1:=⟨st.env,hrep st.heap e bb⟩) q1 (fun t=>rfl) (Zny hcb (hni k a ha (ZkI ra')) hne hki) hp1) ?_;rw[hst1'];exact Zsp (sb1 _ hde) q2
 have hra':=sa4 st1' (fun t ht=>g2 t (Zbr d2 ht)) hqa;obtain⟨st2',hp2⟩:=ZeG (st2:=⟨st1'.env,hins st1'.heap (a.dst.getD 0) ba⟩) hpa;have xb:bxOk (ZdV cert (ops.size+i)) st b.op=true:=by rw[ZeN (st:=st1) _ (fun t ht=>(g1 t (Zbr d1 ht)).symm)];exact ZeB h2 hb
 have xa:bxOk (ZdV cert (ops.size+k)) st1' a.op=true:=by rw[ZeN (st:=st) _ (fun t ht=>g2 t (Zbr d2 ht))];exact ZeB h1 ha
 refine⟨st1',st2',ZfY hb xb hrb' hcb hp1,ZfY ha xa hra' hca hp2,⟨fun t=>?_,?_⟩⟩
 ·rw[(ZaF hpb t).1,(ZaF hp2 t).1];have hd:¬(a.dst=some t∧b.dst=some t):=by
   rintro ⟨e1,e2⟩;rw[e1,e2]at d3;simp[Zlg]at d3
  by_cases e1:a.dst=some t
  ·rw[if_pos e1,if_neg (fun e2=>hd ⟨e1,e2⟩)];show (⟨st1.env,_⟩ : St).get t=_;rw[show (⟨st1.env,hrep st1.heap e bb⟩ : St).get t=st1.get t from rfl,(ZaF hpa t).1,if_pos e1]
  ·rw[if_neg e1];have e3:(⟨st1'.env,hins st1'.heap (a.dst.getD 0) ba⟩ : St).get t=st1'.get t:=rfl;rw[e3,(ZaF hp1 t).1];split
   ·rfl
   ·rw[show (⟨st1.env,hrep st1.heap e bb⟩ : St).get t=st1.get t from rfl,g1 t e1];rfl
 ·rw[(ZaF hpb 0).2,(ZaF hp2 0).2];simp only;rw[hst1,hst1',ZwH hde]
theorem Zxk{op:Op}{st:St}{c:Nat}{l:List Nat}(h:bxOk (c :: l) st op=true)(hl:isLd op=true):∀x∈Zcy op,∀id,(evo st x).says id=true→id=c:=by
 unfold bxOk at h;cases op<;>simp only[isLd]at hl<;>try (cases hl;done)
 rename_i t y;intro x hx id hs;simp only[Zcy,List.mem_singleton]at hx;subst hx;simp only at h;split at h
 ·rename_i d off hq;rw[hq]at hs;simp only[V.says,C.says]at hs;rw[←ZaH h];exact(ZaH hs).symm
 ·rename_i hq;rw[hq]at hs;simp only[V.says,C.says]at hs;cases hs
 ·cases h
theorem ZvU{k i e c:Nat}{l:List Nat}{a b:Oper}(ha:ops[k]?=some a)(hb:ops[i]?=some b)(d1:disj a.dst (ZfB ops b)=true)(d2:disj b.dst (ZfB ops a)=true)(d3:Zlg a.dst b.dst=true)(hla:isLd a.op=true)(hk1:Zdj ra.hc k=none)(hpk:ZdV cert (ops.size+k)=c :: l)(rb':plOf ra i b=some e)(hce:c≠e)
  {st st1 st2:St} {o1 o2:List Prop} (h1:ZgE P N T ops ra cert ni k st=some (st1,o1)) (h2:ZgE P N T ops ra cert ni i st1=some (st2,o2)) :
  ∃st1' st2',ZgE P N T ops ra cert ni i st=some (st1',o2)∧ZgE P N T ops ra cert ni k st1'=some (st2',o1)∧Eqv st2' st2:=by
 obtain⟨a',va,sa,ha',hra,hca,hpa⟩:=ZdC h1;obtain⟨b',vb,sb,hb',hrb,hcb,hpb⟩:=ZdC h2;rw[ha]at ha';cases ha';rw[hb]at hb';cases hb';have bxa:=ZeB h1 ha;rw[hpk]at bxa;have c1:clsX ra k a=1:=by
  rw[Zjk hk1];cases hq:a.op<;>rw[hq]at hla<;>first | (cases hla;done)|rfl
 obtain⟨ea,hha,_⟩:=ZeH (st2:=st) (by omega) (fun t _=>rfl) (fun _=>rfl) (fun _ h=>h) hra;have hh1:st1.heap=st.heap:=(ZaF hpa 0).2.trans (hha (by omega));have g1:∀t,a.dst≠some t→st1.get t=st.get t:=fun t ht=>by rw[(ZaF hpa t).1,if_neg ht];exact Zie ea t
 have eb:=ZkH hrb;obtain⟨bb,sb1,rfl,sb3,sb4⟩:=ZlE rb' hrb;have hrb':=sb4 st (fun t ht=>(g1 t (Zbr d1 ht)).symm) (by rw[hh1]);obtain⟨st1',hp1⟩:=ZeG (st2:=⟨st.env,hrep st.heap e bb⟩) hpb;have g2:∀t,b.dst≠some t→st1'.get t=st.get t:=fun t ht=>by rw[(ZaF hp1 t).1,if_neg ht];rfl
 have hst1':st1'.heap=hrep st.heap e bb:=(ZaF hp1 0).2;have hra':ZdW P N T ops ra k a st1'=some (va,o1,st1'):=by
  refine ZkN c1 (fun t ht=>g2 t (Zbr d2 ht)) (fun x hxm id b0 hsy hb0=>?_) hra;have hid:=Zxk bxa hla x hxm id hsy;rw[hst1',Zqc,if_neg (by rw[hid];exact Ne.symm hce)];exact hb0
 obtain⟨st2',hp2⟩:=ZeG (st2:=st1') hpa;have xb:bxOk (ZdV cert (ops.size+i)) st b.op=true:=by rw[ZeN (st:=st1) _ (fun t ht=>(g1 t (Zbr d1 ht)).symm)];exact ZeB h2 hb
 have xa:bxOk (ZdV cert (ops.size+k)) st1' a.op=true:=by rw[ZeN (st:=st) _ (fun t ht=>g2 t (Zbr d2 ht))];exact ZeB h1 ha
 refine⟨st1',st2',ZfY hb xb hrb' hcb hp1,ZfY ha xa hra' hca hp2,⟨fun t=>?_,?_⟩⟩
 ·rw[(ZaF hpb t).1,(ZaF hp2 t).1];have hd:¬(a.dst=some t∧b.dst=some t):=by
   rintro ⟨e1,e2⟩;rw[e1,e2]at d3;simp[Zlg]at d3
  by_cases e1:a.dst=some t
  ·rw[if_pos e1,if_neg (fun e2=>hd ⟨e1,e2⟩),Zie eb,(ZaF hpa t).1,if_pos e1]
  ·rw[if_neg e1];rw[(ZaF hp1 t).1];split
   ·rfl
   ·rw[Zie eb,g1 t e1];rfl
 ·rw[(ZaF hpb 0).2,(ZaF hp2 0).2,hst1'];simp only;rw[hh1]
theorem ZvT{k i e c:Nat}{l:List Nat}{a b:Oper}(ha:ops[k]?=some a)(hb:ops[i]?=some b)(d1:disj a.dst (ZfB ops b)=true)(d2:disj b.dst (ZfB ops a)=true)(d3:Zlg a.dst b.dst=true)(hlb:isLd b.op=true)(hk1:Zdj ra.hc i=none)(hpi:ZdV cert (ops.size+i)=c :: l)(ra':plOf ra k a=some e)(hce:c≠e)
  {st st1 st2:St} {o1 o2:List Prop} (h1:ZgE P N T ops ra cert ni k st=some (st1,o1)) (h2:ZgE P N T ops ra cert ni i st1=some (st2,o2)) :
  ∃st1' st2',ZgE P N T ops ra cert ni i st=some (st1',o2)∧ZgE P N T ops ra cert ni k st1'=some (st2',o1)∧Eqv st2' st2:=by
 obtain⟨a',va,sa,ha',hra,hca,hpa⟩:=ZdC h1;obtain⟨b',vb,sb,hb',hrb,hcb,hpb⟩:=ZdC h2;rw[ha]at ha';cases ha';rw[hb]at hb';cases hb';have bxb:=ZeB h2 hb;rw[hpi]at bxb;have c1:clsX ra i b=1:=by
  rw[Zjk hk1];cases hq:b.op<;>rw[hq]at hlb<;>first | (cases hlb;done)|rfl
 obtain⟨ba,sa1,rfl,sa3,sa4⟩:=ZlE ra' hra;have hst1:st1.heap=hrep st.heap e ba:=(ZaF hpa 0).2;have g1:∀t,a.dst≠some t→st1.get t=st.get t:=fun t ht=>by rw[(ZaF hpa t).1,if_neg ht];rfl
 obtain⟨eb,hhb,_⟩:=ZeH (st2:=st1) (by omega) (fun t _=>rfl) (fun _=>rfl) (fun _ h=>h) hrb;have hrb':ZdW P N T ops ra i b st=some (vb,o2,st):=by
  refine ZkN c1 (fun t ht=>(g1 t (Zbr d1 ht)).symm) (fun x hxm id b0 hsy hb0=>?_) hrb;have hid:=Zxk bxb hlb x hxm id hsy;rw[hst1,Zqc,if_neg (by rw[hid];exact Ne.symm hce)]at hb0;exact hb0
 obtain⟨st1',hp1⟩:=ZeG (st2:=st) hpb;have g2:∀t,b.dst≠some t→st1'.get t=st.get t:=fun t ht=>by rw[(ZaF hp1 t).1,if_neg ht]
 have hst1':st1'.heap=st.heap:=(ZaF hp1 0).2;have hra':=sa4 st1' (fun t ht=>g2 t (Zbr d2 ht)) (by rw[hst1']);obtain⟨st2',hp2⟩:=ZeG (st2:=⟨st1'.env,hrep st1'.heap e ba⟩) hpa;have xb:bxOk (ZdV cert (ops.size+i)) st b.op=true:=by rw[ZeN (st:=st1) _ (fun t ht=>(g1 t (Zbr d1 ht)).symm)];exact ZeB h2 hb
 have xa:bxOk (ZdV cert (ops.size+k)) st1' a.op=true:=by rw[ZeN (st:=st) _ (fun t ht=>g2 t (Zbr d2 ht))];exact ZeB h1 ha
 refine⟨st1',st2',ZfY hb xb hrb' hcb hp1,ZfY ha xa hra' hca hp2,⟨fun t=>?_,?_⟩⟩
 ·rw[(ZaF hpb t).1,(ZaF hp2 t).1];have hd:¬(a.dst=some t∧b.dst=some t):=by
   rintro ⟨e1,e2⟩;rw[e1,e2]at d3;simp[Zlg]at d3
  by_cases e1:a.dst=some t
  ·rw[if_pos e1,if_neg (fun e2=>hd ⟨e1,e2⟩),Zie eb,(ZaF hpa t).1,if_pos e1]
  ·rw[if_neg e1];rw[show (⟨st1'.env,hrep st1'.heap e ba⟩ : St).get t=st1'.get t from rfl,(ZaF hp1 t).1];split
   ·rfl
   ·rw[Zie eb,g1 t e1]
 ·rw[(ZaF hpb 0).2,(ZaF hp2 0).2,hhb (by omega),hst1,hst1']
theorem Zyi{T:Tab}{st st':St}{t d off:Nat}{v:V}{an:Option Ans}{obl:List Prop}(h:Zmd T st t (.one (.ptr d off)) v an=some (obl,st')):∀id,id≠d→hget st'.heap id=hget st.heap id:=by
 intro id hne;unfold Zmd at h;split at h
 ·split at h
  ·simp only at h;split at h
   ·split at h
    ·cases h;simp only[Zoj];rw[if_neg (Ne.symm hne)]
    ·cases h
   ·cases h
  ·cases h
 ·cases h
theorem ZBP{o:Oper}{i d off:Nat}{st st':St}{t:TypeId}{x y:Operand}{v:V}{obl:List Prop}(ho:o.op=.store t x y)(hx:evo st x=.one (.ptr d off))(h:ZnG P N T ops ra i o st=some (v,obl,st')):∀id,id≠d→hget st'.heap id=hget st.heap id:=by
 intro id hne;unfold ZnG at h;split at h
 ·cases h
 ·cases h;rfl
 ·split at h
  ·cases h
  rename_i v0 obl0 st0 hev;split at h
  ·cases h
  split at h;rotate_left
  ·cases h
  split at h;rotate_left
  ·cases h
  cases h;unfold evOp at hev;simp only[ho,hx]at hev;split at hev
  ·rename_i q hq;cases hev;exact Zyi hq id hne
  ·cases hev
theorem ZxK{k i:Nat}(hok:okLS ops ra cert k i=true){st st1 st2:St}{o1 o2:List Prop}(h1:ZgE P N T ops ra cert ni k st=some (st1,o1))(h2:ZgE P N T ops ra cert ni i st1=some (st2,o2)) :
  ∃st1' st2',ZgE P N T ops ra cert ni i st=some (st1',o2)∧ZgE P N T ops ra cert ni k st1'=some (st2',o1)∧Eqv st2' st2:=by
 obtain⟨a,va,sa,ha,hra,hca,hpa⟩:=ZdC h1;obtain⟨b,vb,sb,hb,hrb,hcb,hpb⟩:=ZdC h2;have bxa:=ZeB h1 ha;have bxb:=ZeB h2 hb;unfold okLS at hok;rw[ha,hb]at hok;split at hok;rotate_left
 ·cases hok
 rename_i a' b' c l d l' ea eb hpk hpi;cases ea;cases eb;simp only[Bool.and_eq_true,Bool.not_eq_true',Option.isNone_iff_eq_none]at hok;obtain⟨⟨⟨⟨⟨⟨⟨d1,d2⟩,d3⟩,hla⟩,hsb⟩,hk1⟩,hk2⟩,hcd⟩:=hok;have hcd:c≠d:=Nat.ne_of_beq_eq_false hcd;rw[hpk]at bxa;rw[hpi]at bxb;have c1:clsX ra k a=1:=by
  rw[Zjk hk1];cases hq:a.op<;>rw[hq]at hla<;>first | (cases hla;done)|rfl
 have c2:clsX ra i b=2:=by
  rw[Zjk hk2];cases hq:b.op<;>rw[hq]at hsb<;>first | (cases hsb;done)|rfl
 obtain⟨ea,hha,_⟩:=ZeH (st2:=st) (by omega) (fun t _=>rfl) (fun _=>rfl) (fun _ h=>h) hra;have hh1:st1.heap=st.heap:=(ZaF hpa 0).2.trans (hha (by omega));have g1:∀t,a.dst≠some t→st1.get t=st.get t:=fun t ht=>by rw[(ZaF hpa t).1,if_neg ht];exact Zie ea t
 obtain⟨eb,_,hrb'⟩:=ZeH (st2:=st) (by omega) (fun t ht=>(g1 t (Zbr d1 ht)).symm) (fun _=>hh1.symm) (fun h=>by omega) hrb;rw[if_neg (by omega)]at hrb';obtain⟨st1',hp1⟩:=ZeG (st2:=⟨st.env,sb.heap⟩) hpb;have g2:∀t,b.dst≠some t→st1'.get t=st.get t:=fun t ht=>by rw[(ZaF hp1 t).1,if_neg ht];rfl
 have hh2:st1'.heap=sb.heap:=(ZaF hp1 0).2;have hfar:∀id,id≠d→hget sb.heap id=hget st.heap id:=by
  intro id hne;rw[←hh1];unfold ZdW at hrb;rw[hk2]at hrb;simp only at hrb;unfold bxOk at bxb;cases hq:b.op<;>rw[hq]at hsb<;>try (cases hsb;done)
  rename_i t x y;rw[hq]at bxb;simp only at bxb;split at bxb
  ·rename_i d' off hx;have:=ZaH bxb;subst this;exact ZBP hq hx hrb id hne
  ·cases bxb
 have hra':ZdW P N T ops ra k a st1'=some (va,o1,st1'):=by
  refine ZkN c1 (fun t ht=>g2 t (Zbr d2 ht)) (fun x hxm id bb hsy hb'=>?_) hra;rw[hh2,hfar id ?_]
  ·exact hb'
  rintro rfl;unfold bxOk at bxa;cases hq:a.op<;>rw[hq]at hla<;>try (cases hla;done)
  rename_i t y;rw[hq]at bxa hxm;simp only[Zcy,List.mem_singleton]at hxm;subst hxm;simp only at bxa;split at bxa
  ·rename_i d' off hx;have:=ZaH bxa;subst this;simp only[hx,V.says,C.says]at hsy;exact hcd (ZaH hsy)
  ·rename_i hx;simp only[hx,V.says,C.says]at hsy;cases hsy
  ·cases bxa
 obtain⟨st2',hp2⟩:=ZeG (st2:=st1') hpa;have xb:bxOk (ZdV cert (ops.size+i)) st b.op=true:=by rw[ZeN (st:=st1) _ (fun t ht=>(g1 t (Zbr d1 ht)).symm)];exact ZeB h2 hb
 have xa:bxOk (ZdV cert (ops.size+k)) st1' a.op=true:=by rw[ZeN (st:=st) _ (fun t ht=>g2 t (Zbr d2 ht))];exact ZeB h1 ha
 refine⟨st1',st2',ZfY hb xb hrb' hcb hp1,ZfY ha xa hra' hca hp2,⟨fun t=>?_,?_⟩⟩
 ·rw[(ZaF hpb t).1,(ZaF hp2 t).1];have hd:¬(a.dst=some t∧b.dst=some t):=by
   rintro ⟨e1,e2⟩;rw[e1,e2]at d3;simp[Zlg]at d3
  by_cases e1:a.dst=some t
  ·rw[if_pos e1,if_neg (fun e2=>hd ⟨e1,e2⟩),Zie eb,(ZaF hpa t).1,if_pos e1]
  ·rw[if_neg e1,(ZaF hp1 t).1];split
   ·rfl
   ·rw[Zie eb,g1 t e1];rfl
 ·rw[(ZaF hpb 0).2,(ZaF hp2 0).2,hh2]
theorem ZAh(hni:ZyP ops ra ni){k i:Nat}(hok:ZmV N ops ra cert k i=true)(hne:k≠i)(hki:k ∉ ZdV cert i){st st1 st2:St}{o1 o2:List Prop}(h1:ZgE P N T ops ra cert ni k st=some (st1,o1))(h2:ZgE P N T ops ra cert ni i st1=some (st2,o2))
  (hJ:∀o,ops[i]?=some o→clsX ra i o=3→Zhp st (o.dst.getD 0) N=true) :
  ∃st1' st2',ZgE P N T ops ra cert ni i st=some (st1',o2)∧ZgE P N T ops ra cert ni k st1'=some (st2',o1)∧Eqv st2' st2:=by
 obtain⟨a,va,sa,ha,hra,hca,hpa⟩:=ZdC h1;obtain⟨b,vb,sb,hb,hrb,hcb,hpb⟩:=ZdC h2;unfold ZmV at hok;rw[Bool.or_eq_true,Bool.or_eq_true]at hok;rcases hok with (hok|hok)|hok;rotate_left
 ·exact ZxK hok h1 h2
 ·unfold okLC at hok;rw[ha,hb]at hok;simp only[Bool.and_eq_true]at hok;obtain⟨⟨⟨d1,d2⟩,d3⟩,hok⟩:=hok;split at hok
  ·rename_i e hpa' hpb';rw[Bool.or_eq_true]at hok;rcases hok with hok|hok
   ·rw[Bool.and_eq_true]at hok;exact ZvW hni ha hb d1 d2 d3 hpa' hok.1 (Nat.ne_of_beq_eq_false (by simpa using hok.2)) h1 h2 hJ
   ·simp only[Bool.and_eq_true,Option.isNone_iff_eq_none]at hok;obtain⟨⟨q1,q2⟩,q3⟩:=hok;split at q3
    ·rename_i c l hpr;exact ZvT ha hb d1 d2 d3 q1 q2 hpr hpa' (Nat.ne_of_beq_eq_false (by simpa using q3)) h1 h2
    ·cases q3
  ·rename_i e hpa' hpb';rw[Bool.or_eq_true]at hok;rcases hok with hok|hok
   ·rw[Bool.and_eq_true]at hok;exact ZvV hni ha hb d1 d2 d3 hok.1 hpb' (Nat.ne_of_beq_eq_false (by simpa using hok.2)) hne hki h1 h2
   ·simp only[Bool.and_eq_true,Option.isNone_iff_eq_none]at hok;obtain⟨⟨q1,q2⟩,q3⟩:=hok;split at q3
    ·rename_i c l hpr;exact ZvU ha hb d1 d2 d3 q1 q2 hpr hpb' (Nat.ne_of_beq_eq_false (by simpa using q3)) h1 h2
    ·cases q3
  ·cases hok
 unfold ZEN at hok;rw[ha,hb]at hok;simp only[Bool.and_eq_true,Bool.or_eq_true]at hok;obtain⟨⟨⟨d1,d2⟩,d3⟩,hcl⟩:=hok;rcases hcl with (hcl|⟨hR1,hR2⟩)|⟨⟨hR1,hR2⟩,hR3⟩;rotate_left
 ·exact ZxI hni ha hb d1 d2 d3 hR1 hR2 hne hki h1 h2 hJ
 ·exact ZxJ hni ha hb d1 d2 d3 (by rw[Bool.or_eq_true];exact hR1) (by rw[Bool.or_eq_true];exact hR2) (fun t ht=>Nat.le_of_ble_eq_true (List.all_eq_true.1 hR3 t ht)) hne hki h1 h2 hJ
 have hcl':(clsX ra k a≤1∧clsX ra i b≤1)∨(clsX ra k a=0∧clsX ra i b≤3)∨(clsX ra i b=0∧clsX ra k a≤3)∨(clsX ra k a=3∧clsX ra i b=1∧∀t∈ZfB ops b,t<N)∨(clsX ra k a=1∧clsX ra i b=3∧Zsz ra i b=true):=by
  rcases hcl with (((⟨h,h'⟩|⟨h,h'⟩)|⟨h,h'⟩)|⟨⟨h,h'⟩,h''⟩)|⟨⟨h,h'⟩,h''⟩
  ·exact .inl ⟨Nat.le_of_ble_eq_true h,Nat.le_of_ble_eq_true h'⟩
  ·exact .inr (.inl ⟨ZaH h,Nat.le_of_ble_eq_true h'⟩)
  ·exact .inr (.inr (.inl ⟨ZaH h,Nat.le_of_ble_eq_true h'⟩))
  ·exact .inr (.inr (.inr (.inl ⟨ZaH h,ZaH h',fun t ht=>Nat.le_of_ble_eq_true (List.all_eq_true.1 h'' t ht)⟩)))
  ·exact .inr (.inr (.inr (.inr ⟨ZaH h,ZaH h',h''⟩)))
 -- k at st
 obtain⟨ea,hha,_⟩:=ZeH (st2:=st) (by omega) (fun t _=>rfl) (fun _=>rfl) (fun _ h=>h) hra;have hh1:clsX ra k a≤1→st1.heap=st.heap:=fun h=>(ZaF hpa 0).2.trans (hha h);have g1:∀t,a.dst≠some t→st1.get t=st.get t:=fun t ht=>by rw[(ZaF hpa t).1,if_neg ht];exact Zie ea t
 -- i at st
 have hkc:clsX ra k a≤3:=by omega
 have hic:clsX ra i b≤3:=by omega
 obtain⟨eb,hhb,hrb'⟩ : sb.env=st1.env∧(clsX ra i b≤1→sb.heap=st1.heap)∧ZdW P N T ops ra i b st=some (vb,o2,⟨st.env,if clsX ra i b≤1 then st.heap else sb.heap⟩):=by
  by_cases hx:clsX ra k a=3∧clsX ra i b=1
  ·obtain⟨e1,e2,_⟩:=ZeH (st2:=st1) (by omega) (fun t _=>rfl) (fun _=>rfl) (fun _ h=>h) hrb;refine⟨e1,e2,?_⟩;rw[if_pos (by omega)];have hN:∀t∈ZfB ops b,t<N:=by
    rcases hcl' with h|h|h|h|h
    ·omega
    ·omega
    ·omega
    ·exact h.2.2
    ·omega
   refine ZkN hx.2 (fun t ht=>(g1 t (Zbr d1 ht)).symm) (fun x hxm id bb hsy hb'=>?_) hrb;rw[(ZaF hpa 0).2]at hb';rcases Zum hx.1 hra with rfl|⟨hq,hn⟩
   ·exact hb'
   ·rcases hn id bb hb' with rfl|h
    ·exfalso;have:(evo st1 x).says (a.dst.getD 0)=false:=by
      cases x with
      |tmp t=>
       have ht:t∈ZfB ops b:=List.mem_append.2 (.inl (ZoE hxm));show (st1.get t).says _=false;rw[g1 t (Zbr d1 ht)];exact Zob (Zda hq).1 t (hN t ht)
      |const v=>exact Zuo v _
      |func f=>rfl
      |global g=>rfl
     simp only[this]at hsy;cases hsy
    ·exact h
  ·exact ZeH (st2:=st) (by omega) (fun t ht=>(g1 t (Zbr d1 ht)).symm) (fun h=>(hh1 (by omega)).symm) (fun hc hq=>by
    obtain⟨_,q2⟩:=Zda hq;refine ZlD (hJ b hb hc) ?_;rw[←hh1 (by omega)];exact q2) hrb
 obtain⟨st1',hp1⟩:=ZeG (st2:=⟨st.env,if clsX ra i b≤1 then st.heap else sb.heap⟩) hpb;have xb:bxOk (ZdV cert (ops.size+i)) st b.op=true:=by rw[ZeN (st:=st1) _ (fun t ht=>(g1 t (Zbr d1 ht)).symm)];exact ZeB h2 hb
 have hs1:=ZfY (cert:=cert) (ni:=ni) hb xb hrb' hcb hp1;have g2:∀t,b.dst≠some t→st1'.get t=st.get t:=fun t ht=>by rw[(ZaF hp1 t).1,if_neg ht];rfl
 have hh2:clsX ra i b≤1→st1'.heap=st.heap:=fun h=>by rw[(ZaF hp1 0).2];simp only[if_pos h]
 -- k behind i
 have hra':ZdW P N T ops ra k a st1'=some (va,o1,⟨st1'.env,if clsX ra k a≤1 then st1'.heap else sa.heap⟩):=by
  by_cases hx:clsX ra k a=1∧clsX ra i b=3
  ·rw[if_pos (by omega)];have hnk:Zsz ra i b=true:=by
    rcases hcl' with h|h|h|h|h
    ·omega
    ·omega
    ·omega
    ·omega
    ·exact h.2.2
   refine ZkN hx.1 (fun t ht=>g2 t (Zbr d2 ht)) (fun x hxm id bb hsy hb'=>?_) hra;rw[(ZaF hp1 0).2];simp only[if_neg (show ¬clsX ra i b≤1 by omega)];have:=Zwv hx.2 hnk hrb' id bb hb';simpa only[if_neg (show ¬clsX ra i b≤1 by omega)]using this
  ·refine(ZeH (st2:=st1') (by omega) (fun t ht=>g2 t (Zbr d2 ht)) (fun h=>hh2 (by omega)) (fun hc hq=>by
    obtain⟨q1,q2⟩:=Zda hq;refine ZlD (ZiD (st1:=⟨st.env,if clsX ra i b≤1 then st.heap else sb.heap⟩) q1 (fun t=>rfl) (Zny hcb (hni k a ha hc) hne hki) hp1) ?_;rw[hh2 (by omega)];exact q2) hra).2.2
 obtain⟨st2',hp2⟩:=ZeG (st2:=⟨st1'.env,if clsX ra k a≤1 then st1'.heap else sa.heap⟩) hpa;have xa:bxOk (ZdV cert (ops.size+k)) st1' a.op=true:=by rw[ZeN (st:=st) _ (fun t ht=>g2 t (Zbr d2 ht))];exact ZeB h1 ha
 refine⟨st1',st2',hs1,ZfY ha xa hra' hca hp2,⟨fun t=>?_,?_⟩⟩
 ·rw[(ZaF hpb t).1,(ZaF hp2 t).1];have hd:¬(a.dst=some t∧b.dst=some t):=by
   rintro ⟨e1,e2⟩;rw[e1,e2]at d3;simp[Zlg]at d3
  by_cases e1:a.dst=some t
  ·rw[if_pos e1,if_neg (fun e2=>hd ⟨e1,e2⟩),Zie eb,(ZaF hpa t).1,if_pos e1]
  ·rw[if_neg e1];have e3:(⟨st1'.env,if clsX ra k a≤1 then st1'.heap else sa.heap⟩ : St).get t=st1'.get t:=rfl;rw[e3,(ZaF hp1 t).1];split
   ·rfl
   ·rw[Zie eb,g1 t e1];rfl
 ·rw[(ZaF hpb 0).2,(ZaF hp2 0).2];simp only;by_cases c1:clsX ra k a≤1
  ·rw[if_pos c1,(ZaF hp1 0).2];simp only;by_cases c2:clsX ra i b≤1
   ·rw[if_pos c2,hhb c2,hh1 c1]
   ·rw[if_neg c2]
  ·rw[if_neg c1,hhb (by omega),(ZaF hpa 0).2]
theorem ZBo{i:Nat}{st st2 st':St}{obl:List Prop}(hcls:∀o,ops[i]?=some o→Zrn ra i o=true)(he:Eqv st st2)(h:ZgE P N T ops ra cert ni i st=some (st',obl)):∃st2',ZgE P N T ops ra cert ni i st2=some (st2',obl)∧Eqv st' st2':=by
 obtain⟨o,v,s1,ho,hr,hc,hp⟩:=ZdC h;have e1:=ZkH hr;obtain⟨hp',hr',hph⟩:=ZAB (hcls o ho) he hr;obtain⟨st2',hp2⟩:=ZeG (st2:=⟨st2.env,hp'⟩) hp;refine⟨st2',ZfY ho (by rw[ZeN (ops:=ops) (st:=st) _ (fun t _=>he.env t)];exact ZeB h ho) hr' hc hp2,fun t=>?_,?_⟩
 ·rw[(ZaF hp t).1,(ZaF hp2 t).1];split
  ·rfl
  ·rw[Zie e1];exact he.env t
 ·rw[(ZaF hp 0).2,(ZaF hp2 0).2];exact hph
theorem ZwQ:∀{l:List Nat}{st st2 st':St}{obl:List Prop},(∀i∈l,∀o,ops[i]?=some o→Zrn ra i o=true)→Eqv st st2→ZoY P N T ops ra cert ni l st=some (st',obl)→∃st2',ZoY P N T ops ra cert ni l st2=some (st2',obl)∧Eqv st' st2'
 | [],st,st2,st',obl,hcls,he,h=>by cases h;exact⟨st2,rfl,he⟩
 |i :: l,st,st2,st',obl,hcls,he,h=>by
  simp only[ZoY]at h
  split at h
  ·cases h
  rename_i s1 o1 h1
  split at h
  ·cases h
  rename_i s2 o2 h2
  cases h
  obtain⟨s1',h3,h4⟩:=ZBo (hcls i (by simp)) he h1
  obtain⟨s2',h5,h6⟩:=ZwQ (fun j hj=>hcls j (by simp[hj])) h4 h2
  exact⟨s2',by simp only[ZoY,h3,h5],h6⟩
theorem Zpx(hni:ZyP ops ra ni){i:Nat}{post:List Nat}:∀{pre:List Nat}{st F:St}{obl:List Prop},(∀k∈pre++post,∀o,ops[k]?=some o→Zrn ra k o=true)→(∀k∈pre,ZmV N ops ra cert k i=true∧k≠i∧k ∉ ZdV cert i∧i ∉ ZdV cert k) →
  (∀o,ops[i]?=some o→clsX ra i o=3→Zhp st (o.dst.getD 0) N=true)→ZoY P N T ops ra cert ni (pre++i :: post) st=some (F,obl) →
  ∃st1 oi F' o',ZgE P N T ops ra cert ni i st=some (st1,oi)∧ZoY P N T ops ra cert ni (pre++post) st1=some (F',o')∧Eqv F F'∧∀q∈oi++o',q∈obl
 | [],st,F,obl,hcls,hp,hJ,h=>by
  simp only[List.nil_append,ZoY]at h
  split at h
  ·cases h
  rename_i s1 o1 h1
  split at h
  ·cases h
  rename_i s2 o2 h2
  cases h
  exact⟨s1,o1,_,o2,h1,h2,Eqv.refl _,fun q hq=>hq⟩
 |k :: pre,st,F,obl,hcls,hp,hJ,h=>by
  simp only[List.cons_append,ZoY]at h
  split at h
  ·cases h
  rename_i s1 o1 h1
  split at h
  ·cases h
  rename_i s2 o2 h2
  cases h
  obtain⟨hok,hne,hki,hik⟩:=hp k (by simp)
  obtain⟨a,va,sa,ha,hra,hca,hpa⟩:=ZdC h1
  have hJ1:∀o,ops[i]?=some o→clsX ra i o=3→Zhp s1 (o.dst.getD 0) N=true:=fun o ho hc=>by
   have ea:=ZkH hra
   exact ZiD (hJ o ho hc) (Zie ea) (Zny hca (hni i o ho hc) (Ne.symm hne) hik) hpa
  obtain⟨t1,oi,F1,o',h3,h4,h5,h6⟩:=Zpx hni (fun j hj=>hcls j (List.mem_cons_of_mem _ hj)) (fun k' hk'=>hp k' (by simp[hk'])) hJ1 h2
  obtain⟨t1',t2',h7,h8,h9⟩:=ZAh hni hok hne hki h1 h3 hJ
  obtain⟨F2,h10,h11⟩:=ZwQ (l:=pre++post) (fun j hj=>hcls j (List.mem_cons_of_mem _ hj)) (st:=t1) (st2:=t2') ⟨fun t=>(h9.env t).symm,h9.heap.symm⟩ h4
  refine⟨t1',oi,F2,o1++o',h7,by simp only[List.cons_append,ZoY,h8,h10],h5.trans h11,fun q hq=>?_⟩
  rcases List.mem_append.1 hq with hq|hq
  ·exact List.mem_append.2 (.inr (h6 q (List.mem_append.2 (.inl hq))))
  ·rcases List.mem_append.1 hq with hq|hq
   ·exact List.mem_append.2 (.inl hq)
   ·exact List.mem_append.2 (.inr (h6 q (List.mem_append.2 (.inr hq))))
end
end Go.Proofs.YtdjfoojllbfcgaaGreat
